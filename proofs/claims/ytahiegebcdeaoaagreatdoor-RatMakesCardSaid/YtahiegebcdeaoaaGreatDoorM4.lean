/- Part 4 of the proof: a small machine, its soundness against the model, and what the program's functions compute on it. -/
import Derived.Test.YtahiegebcdeaoaaGreatDoorM0
import Derived.Test.YtahiegebcdeaoaaGreatDoorProg
import Derived.KernelRfl
import Derived.Test.YtahiegebcdeaoaaGreatDoorM3
set_option linter.unusedVariables false
set_option linter.unusedSimpArgs false
set_option maxRecDepth 100000
namespace Go.AM
open Go Go.Proofs
abbrev n_gantrylaw05_RatRounds : Nat := 3
abbrev n_gantrylaw05_RatTexts : Nat := 4
abbrev n_gantrylaw05_RatMakes : Nat := 5
abbrev n_gantrylaw05_RatBetween : Nat := 6
abbrev n_gantrylaw05_RatField : Nat := 7
abbrev n_gantrylaw05_RatSums : Nat := 8
abbrev n_gantrylaw05_RatOrder : Nat := 9
abbrev n_gantryref05_Number : Nat := 10
abbrev n_rat_Whole : Nat := 11
abbrev n_gantryref05_Whole : Nat := 12
abbrev n_gantryref01_Around : Nat := 13
abbrev n_gantryref04_Same : Nat := 14
abbrev n_rat_Floor : Nat := 15
abbrev n_gantryref05_Floor : Nat := 16
abbrev n_rat_Ceil : Nat := 17
abbrev n_gantryref05_Ceil : Nat := 18
abbrev n_gantrylaw05_same : Nat := 19
abbrev n_rat_Dot : Nat := 20
abbrev n_gantryref05_Dot : Nat := 21
abbrev n_gantrylaw05_lives : Nat := 22
abbrev n_rat_Text : Nat := 23
abbrev n_rat_Parse : Nat := 24
abbrev n_rat_Encode : Nat := 25
abbrev n_rat_Decode : Nat := 26
abbrev n_gantryref01_Few : Nat := 27
abbrev n_gantryref05_Text : Nat := 28
abbrev n_gantryref01_Same : Nat := 29
abbrev n_gantryref05_Encode : Nat := 30
abbrev n_gantryref01_Short : Nat := 31
abbrev n_gantryref05_Parse : Nat := 32
abbrev n_gantryref04_Encode : Nat := 33
abbrev n_gantryref04_Of : Nat := 34
abbrev n_gantryref05_Decode : Nat := 35
abbrev n_gantryref04_Number : Nat := 36
abbrev n_gantryref05_Make : Nat := 37
abbrev n_gantryref01_Take : Nat := 38
abbrev n_gantryref04_Mul : Nat := 39
abbrev n_gantryref05_Den : Nat := 40
abbrev n_rat_Valid : Nat := 41
abbrev n_gantryref05_Valid : Nat := 42
abbrev n_rat_Make : Nat := 43
abbrev n_rat_Of : Nat := 44
abbrev n_gantryref05_Of : Nat := 45
abbrev n_rat_Den : Nat := 46
abbrev n_rat_Between : Nat := 47
abbrev n_gantryref05_Between : Nat := 48
abbrev n_gantryref04_Compare : Nat := 49
abbrev n_gantryref05_Mul : Nat := 50
abbrev n_gantryref05_Compare : Nat := 51
abbrev n_rat_Compare : Nat := 52
abbrev n_rat_Add : Nat := 53
abbrev n_rat_Mul : Nat := 54
abbrev n_rat_Sub : Nat := 55
abbrev n_rat_Sign : Nat := 56
abbrev n_rat_Div : Nat := 57
abbrev n_gantryref05_Add : Nat := 58
abbrev n_gantryref05_Sub : Nat := 59
abbrev n_gantryref05_Div : Nat := 60
abbrev n_rat_Neg : Nat := 61
abbrev n_gantryref05_Neg : Nat := 62
abbrev n_gantryref05_Sign : Nat := 63
abbrev n_rat_Same : Nat := 64
abbrev n_gantryref05_Same : Nat := 65
abbrev n_integer_Small : Nat := 66
abbrev n_integer_Sub : Nat := 67
abbrev n_integer_Of : Nat := 68
abbrev n_gantryref01_At : Nat := 69
abbrev n_gantryref04_Small : Nat := 70
abbrev n_integer_Div : Nat := 71
abbrev n_gantryref04_Div : Nat := 72
abbrev n_integer_Neg : Nat := 73
abbrev n_gantryref04_Neg : Nat := 74
abbrev n_rat_sum : Nat := 75
abbrev n_integer_Text : Nat := 76
abbrev n_integer_Sign : Nat := 77
abbrev n_gantrylaw05_between : Nat := 78
abbrev n_gantryref01_Ints : Nat := 79
abbrev n_strings_Cut : Nat := 80
abbrev n_integer_Parse : Nat := 81
abbrev n_slices_Concat_byte_byte : Nat := 82
abbrev n_integer_Encode : Nat := 83
abbrev n_integer_Decode : Nat := 84
abbrev n_gantryref04_Text : Nat := 85
abbrev n_gantryref04_Parse : Nat := 86
abbrev n_gantryref04_Sign : Nat := 87
abbrev n_gantryref04_normal : Nat := 88
abbrev n_gantryref04_Decode : Nat := 89
abbrev n_gantryref04_Add : Nat := 90
abbrev n_gantryref04_Power : Nat := 91
abbrev n_gantryref04_Gcd : Nat := 92
abbrev n_gantryref05_one : Nat := 93
abbrev n_integer_Valid : Nat := 94
abbrev n_rat_unit : Nat := 95
abbrev n_integer_Gcd : Nat := 96
abbrev n_gantryref04_Valid : Nat := 97
abbrev n_rat_lowest : Nat := 98
abbrev n_rat_one : Nat := 99
abbrev n_rat_Between_1 : Nat := 100
abbrev n_rat_Between_1_1 : Nat := 101
abbrev n_gantryref05_least : Nat := 102
abbrev n_gantryref04_compared : Nat := 103
abbrev n_integer_Compare : Nat := 104
abbrev n_integer_Mul : Nat := 105
abbrev n_integer_Add : Nat := 106
abbrev n_rat_Same_1 : Nat := 107
abbrev n_slices_Equal_int_int : Nat := 108
abbrev n_integer_unsigned : Nat := 109
abbrev n_integer_divide : Nat := 110
abbrev n_integer_of : Nat := 111
abbrev n_integer_plus : Nat := 112
abbrev n_integer_minus : Nat := 113
abbrev n_gantryref04_divided : Nat := 114
abbrev n_gantryref04_minus : Nat := 115
abbrev n_strings_Builder_WriteByte : Nat := 116
abbrev n_strings_Builder_WriteString : Nat := 117
abbrev n_strconv_Itoa : Nat := 118
abbrev n_strings_Repeat : Nat := 119
abbrev n_strings_Builder_String : Nat := 120
abbrev n_gantryref01_Int : Nat := 121
abbrev n_internal_stringslite_Cut : Nat := 122
abbrev n_strings_CutPrefix : Nat := 123
abbrev n_strings_Trim : Nat := 124
abbrev n_strconv_Atoi : Nat := 125
abbrev n_slices_Grow_byte_byte : Nat := 126
abbrev n_wire_Ints : Nat := 127
abbrev n_wire_GetInts : Nat := 128
abbrev n_slices_Clone_int_int : Nat := 129
abbrev n_gantryref04_decimal : Nat := 130
abbrev n_gantryref01_GetInts : Nat := 131
abbrev n_gantryref04_plus : Nat := 132
abbrev n_gantryref04_tiny : Nat := 133
abbrev n_slices_ContainsFunc_int_int : Nat := 134
abbrev n_integer_Valid_1 : Nat := 135
abbrev n_integer_two : Nat := 136
abbrev n_gantryref05_inverse : Nat := 137
abbrev n_integer_compare : Nat := 138
abbrev n_integer_short : Nat := 139
abbrev n_integer_long : Nat := 140
abbrev n_gantryref04_times : Nat := 141
abbrev n_gantryref04_digit : Nat := 142
abbrev n_strings_Builder_copyCheck : Nat := 143
abbrev n_internal_strconv_Itoa : Nat := 144
abbrev n_math_bits_Mul : Nat := 145
abbrev n_strings_HasPrefix : Nat := 146
abbrev n_strings_Builder_Grow : Nat := 147
abbrev n_strings_Builder_Len : Nat := 148
abbrev n_internal_stringslite_Index : Nat := 149
abbrev n_internal_stringslite_CutPrefix : Nat := 150
abbrev n_strings_trimLeftByte : Nat := 151
abbrev n_strings_trimRightByte : Nat := 152
abbrev n_strings_makeASCIISet : Nat := 153
abbrev n_strings_trimLeftASCII : Nat := 154
abbrev n_strings_trimRightASCII : Nat := 155
abbrev n_strings_trimLeftUnicode : Nat := 156
abbrev n_strings_trimRightUnicode : Nat := 157
abbrev n_internal_strconv_Atoi : Nat := 158
abbrev n_strconv_toError : Nat := 159
abbrev n_wire_Int : Nat := 160
abbrev n_wire_count : Nat := 161
abbrev n_wire_reader : Nat := 162
abbrev n_gantryref01_count : Nat := 163
abbrev n_gantryref01_GetInt : Nat := 164
abbrev n_slices_IndexFunc_int_int : Nat := 165
abbrev n_cmp_Compare_int : Nat := 166
abbrev n_integer_scaled : Nat := 167
abbrev n_internal_abi_NoEscape : Nat := 168
abbrev n_internal_strconv_FormatInt : Nat := 169
abbrev n_math_bits_Mul32 : Nat := 170
abbrev n_math_bits_Mul64 : Nat := 171
abbrev n_internal_stringslite_HasPrefix : Nat := 172
abbrev n_strings_Builder_grow : Nat := 173
abbrev n_internal_stringslite_IndexByte : Nat := 174
abbrev n_internal_bytealg_IndexString : Nat := 175
abbrev n_internal_bytealg_Cutover : Nat := 176
abbrev n_internal_bytealg_IndexRabinKarp_string : Nat := 177
abbrev n_strings_asciiSet_contains : Nat := 178
abbrev n_unicode_utf8_DecodeRuneInString : Nat := 179
abbrev n_strings_ContainsRune : Nat := 180
abbrev n_unicode_utf8_DecodeLastRuneInString : Nat := 181
abbrev n_internal_strconv_ParseInt : Nat := 182
abbrev n_strconv_syntaxError : Nat := 183
abbrev n_strconv_rangeError : Nat := 184
abbrev n_strconv_baseError : Nat := 185
abbrev n_strconv_bitSizeError : Nat := 186
abbrev n_wire_GetInt : Nat := 187
abbrev n_wire_reader_1 : Nat := 188
abbrev n_cmp_isNaN_int : Nat := 189
abbrev n_internal_strconv_small : Nat := 190
abbrev n_internal_strconv_numDigits : Nat := 191
abbrev n_internal_strconv_formatBase10 : Nat := 192
abbrev n_internal_strconv_formatBits : Nat := 193
abbrev n_internal_bytealg_MakeNoZero : Nat := 194
abbrev n_internal_bytealg_IndexByteString : Nat := 195
abbrev n_internal_bytealg_hashStr_string : Nat := 196
abbrev n_unicode_utf8_decodeRuneInStringSlow : Nat := 197
abbrev n_strings_IndexRune : Nat := 198
abbrev n_unicode_utf8_RuneStart : Nat := 199
abbrev n_internal_strconv_ParseUint : Nat := 200
abbrev n_internal_stringslite_Clone : Nat := 201
abbrev n_errors_New : Nat := 202
abbrev n_internal_strconv_log10Pow2 : Nat := 203
abbrev n_math_bits_Len64 : Nat := 204
abbrev n_internal_strconv_bool2_int : Nat := 205
abbrev n_internal_strconv_isPowerOfTwo : Nat := 206
abbrev n_math_bits_TrailingZeros : Nat := 207
abbrev n_strings_IndexByte : Nat := 208
abbrev n_unicode_utf8_ValidRune : Nat := 209
abbrev n_internal_strconv_lower : Nat := 210
abbrev n_internal_strconv_underscoreOK : Nat := 211
abbrev n_math_bits_TrailingZeros32 : Nat := 212
abbrev n_math_bits_TrailingZeros64 : Nat := 213
abbrev n_runtime_boundsError_Error : Nat := 214
abbrev n_runtime_boundsError_RuntimeError : Nat := 215
abbrev n_runtime_errorString_Error : Nat := 216
abbrev n_runtime_errorString_RuntimeError : Nat := 217
abbrev n_runtime_plainError_Error : Nat := 218
abbrev n_runtime_plainError_RuntimeError : Nat := 219
abbrev n_runtime_errorAddressString_Error : Nat := 220
abbrev n_runtime_errorAddressString_RuntimeError : Nat := 221
abbrev n_runtime_TypeAssertionError_Error : Nat := 222
abbrev n_runtime_TypeAssertionError_RuntimeError : Nat := 223
abbrev n_runtime_PanicNilError_Error : Nat := 224
abbrev n_runtime_PanicNilError_RuntimeError : Nat := 225
abbrev n_internal_abi_Type_Align : Nat := 226
abbrev n_internal_runtime_maps_unhashableTypeError_Error : Nat := 227
abbrev n_internal_runtime_maps_unhashableTypeError_RuntimeError : Nat := 228
abbrev n_strings_Builder_Reset : Nat := 229
abbrev n_internal_strconv_Error_Error : Nat := 230
abbrev n_strconv_NumError_Error : Nat := 231
abbrev n_errors_errorString_Error : Nat := 232
abbrev n_internal_abi_Kind_String : Nat := 233
abbrev n_var_s_door_gosem_cut_vars_holds_initialisers_alone_see_the_manifest_s_row_cutvarsword_look_11_test_files_too : Nat := 234
abbrev n_var_s_door_internal_strconv_uint64pow10_is_laid_by_its_own_initialiser_plain_data_look_11 : Nat := 235
abbrev n_var_s_door_math_bits_deBruijn32tab_is_laid_by_its_own_initialiser_plain_data_look_11 : Nat := 236
abbrev n_var_s_door_math_bits_deBruijn64tab_is_laid_by_its_own_initialiser_plain_data_look_11 : Nat := 237
abbrev n_var_s_door_strconv_ErrRange_is_laid_by_its_own_call_of_errors_New_on_one_literal_look_11 : Nat := 238
abbrev n_var_s_door_strconv_ErrSyntax_is_laid_by_its_own_call_of_errors_New_on_one_literal_look_11 : Nat := 239
abbrev n_var_s_door_the_look_of_gosem_cut_vars_went_over_the_folder_that_the_caller_named_as_the_repository_s_root_look_11 : Nat := 240
abbrev n_var_s_door_unicode_utf8_acceptRanges_is_laid_by_its_own_initialiser_plain_data_look_11 : Nat := 241
abbrev n_var_s_door_unicode_utf8_first_is_laid_by_its_text_alone_pinned_1 : Nat := 242
abbrev n_gosem_cut_vars : Nat := 243

def gantrylaw05_RatRounds_l0 : C :=
 .seq (.seq (.seq (.seq (.reg [⟨some 28, .mov (.t 14), none⟩,
 ⟨some 29, .mov (.t 2), none⟩,
 ⟨some 30, .call n_gantryref01_Around [(.t 29), (.c (.v (.int .i64 6)))] false, none⟩,
 ⟨some 31, .bin .lss (.t 28) (.t 30), none⟩] []) <|
 .keep [0, 1, 2, 7, 8, 9, 10, 11, 12, 13, 14, 31] [[7], [40], [54]]) <|
 .cond (.t 31) (.skip) <|
 .seq (.keep [1, 2, 7, 8, 9, 10, 11, 12, 13] [[7], [40], [54]]) <|
 .exit 0) <|
 .seq (.seq (.blk 1 <|
 .seq (.reg [⟨some 34, .mov (.t 12), none⟩,
 ⟨some 35, .mov (.t 0), none⟩,
 ⟨some 36, .mov (.t 14), none⟩,
 ⟨some 37, .bin .mul (.c (.v (.int .i64 2))) (.t 36), none⟩,
 ⟨some 38, .call n_gantryref05_Number [(.t 35), (.t 37)] false, none⟩,
 ⟨some 39, .lit 4 1 [.v (.bool false), .z true, .v (.bool false), .z true] [(0, (.t 38))] true, none⟩,
 ⟨some 40, .app 4 64 (.t 34) (.t 39) false, none⟩,
 ⟨some 12, .mov (.t 40), none⟩] []) <|
 .keep [0, 1, 2, 7, 8, 9, 10, 11, 12, 13, 14] [[7], [40], [54]]) <|
 .keep [0, 1, 2, 7, 8, 9, 10, 11, 12, 13, 14] [[7], [40], [54]]) <|
 .seq (.reg [⟨some 32, .mov (.t 14), none⟩,
 ⟨some 33, .bin .add (.t 32) (.c (.v (.int .i64 1))), none⟩,
 ⟨some 14, .mov (.t 33), none⟩] []) <|
 .keep [0, 1, 2, 7, 8, 9, 10, 11, 12, 13, 14] [[7], [40], [54]]) <|
 .keep [0, 1, 2, 7, 8, 9, 10, 11, 12, 13, 14] [[7], [40], [54]]
def gantrylaw05_RatRounds_l1 : C :=
 .seq (.seq (.seq (.seq (.reg [⟨some 41, .mov (.t 15), none⟩,
 ⟨some 42, .mov (.t 2), none⟩,
 ⟨some 43, .bin .quo (.t 42) (.c (.v (.int .i64 6))), none⟩,
 ⟨some 44, .call n_gantryref01_Around [(.t 43), (.c (.v (.int .i64 6)))] false, none⟩,
 ⟨some 45, .bin .lss (.t 41) (.t 44), none⟩] []) <|
 .keep [1, 2, 7, 8, 9, 10, 11, 12, 13, 15, 45] [[7], [40], [54]]) <|
 .cond (.t 45) (.skip) <|
 .seq (.keep [7, 8, 9, 10, 11, 12, 13] [[7], [40], [54]]) <|
 .exit 2) <|
 .seq (.seq (.blk 3 <|
 .seq (.reg [⟨some 48, .mov (.t 13), none⟩,
 ⟨some 49, .mov (.t 1), none⟩,
 ⟨some 50, .mov (.t 15), none⟩,
 ⟨some 51, .bin .mul (.c (.v (.int .i64 2))) (.t 50), none⟩,
 ⟨some 52, .call n_gantryref05_Number [(.t 49), (.t 51)] false, none⟩,
 ⟨some 53, .lit 4 1 [.v (.bool false), .z true, .v (.bool false), .z true] [(0, (.t 52))] true, none⟩,
 ⟨some 54, .app 4 64 (.t 48) (.t 53) false, none⟩,
 ⟨some 13, .mov (.t 54), none⟩] []) <|
 .keep [1, 2, 7, 8, 9, 10, 11, 12, 13, 15] [[7], [40], [54]]) <|
 .keep [1, 2, 7, 8, 9, 10, 11, 12, 13, 15] [[7], [40], [54]]) <|
 .seq (.reg [⟨some 46, .mov (.t 15), none⟩,
 ⟨some 47, .bin .add (.t 46) (.c (.v (.int .i64 1))), none⟩,
 ⟨some 15, .mov (.t 47), none⟩] []) <|
 .keep [1, 2, 7, 8, 9, 10, 11, 12, 13, 15] [[7], [40], [54]]) <|
 .keep [1, 2, 7, 8, 9, 10, 11, 12, 13, 15] [[7], [40], [54]]
def gantrylaw05_RatRounds : CF := ⟨3, .seq (.seq (.reg [⟨some 6, .mov (.c (.v (.bool false))), none⟩] []) <|
 .keep [0, 1, 2] []) <|
 .seq (.seq (.reg [⟨some 16, .mov (.t 0), none⟩,
 ⟨some 17, .call n_gantryref05_Number [(.t 16), (.c (.v (.int .i64 0)))] false, none⟩,
 ⟨some 7, .new [.v (.bool false), .z true, .v (.bool false), .z true], none⟩,
 ⟨none, .store 4 (.t 7) (.t 17), none⟩] []) <|
 .keep [0, 1, 2, 7] [[7]]) <|
 .seq (.seq (.reg [⟨some 19, .load (some 4) (.t 7), none⟩,
 ⟨some 20, .call n_rat_Whole [(.t 19)] false, none⟩,
 ⟨some 18, .mov (.t 20), none⟩,
 ⟨some 21, .ext (.t 18) 0, none⟩,
 ⟨some 22, .ext (.t 18) 1, none⟩,
 ⟨some 8, .mov (.t 21), none⟩,
 ⟨some 9, .mov (.t 22), none⟩] []) <|
 .keep [0, 1, 2, 7, 8, 9] [[7]]) <|
 .seq (.seq (.reg [⟨some 24, .load (some 4) (.t 7), none⟩,
 ⟨some 25, .call n_gantryref05_Whole [(.t 24)] false, none⟩,
 ⟨some 23, .mov (.t 25), none⟩,
 ⟨some 26, .ext (.t 23) 0, none⟩,
 ⟨some 27, .ext (.t 23) 1, none⟩,
 ⟨some 10, .mov (.t 26), none⟩,
 ⟨some 11, .mov (.t 27), none⟩] []) <|
 .keep [0, 1, 2, 7, 8, 9, 10, 11] [[7]]) <|
 .seq (.seq (.reg [⟨some 12, .mov (.c (.z true)), none⟩] []) <|
 .keep [0, 1, 2, 7, 8, 9, 10, 11, 12] [[7], [40]]) <|
 .seq (.seq (.reg [⟨some 13, .mov (.c (.z true)), none⟩] []) <|
 .keep [0, 1, 2, 7, 8, 9, 10, 11, 12, 13] [[7], [40], [54]]) <|
 .seq (.seq (.seq (.reg [⟨some 14, .mov (.c (.v (.int .i64 0))), none⟩] []) <|
 .keep [0, 1, 2, 7, 8, 9, 10, 11, 12, 13, 14] [[7], [40], [54]]) <|
 .seq (.blk 0 <|
 .seq (.keep [0, 1, 2, 7, 8, 9, 10, 11, 12, 13, 14] [[7], [40], [54]]) <|
 .loop gantrylaw05_RatRounds_l0) <|
 .keep [1, 2, 7, 8, 9, 10, 11, 12, 13] [[7], [40], [54]]) <|
 .seq (.seq (.seq (.reg [⟨some 15, .mov (.c (.v (.int .i64 0))), none⟩] []) <|
 .keep [1, 2, 7, 8, 9, 10, 11, 12, 13, 15] [[7], [40], [54]]) <|
 .seq (.blk 2 <|
 .seq (.keep [1, 2, 7, 8, 9, 10, 11, 12, 13, 15] [[7], [40], [54]]) <|
 .loop gantrylaw05_RatRounds_l1) <|
 .keep [7, 8, 9, 10, 11, 12, 13] [[7], [40], [54]]) <|
 .seq (.seq (.frz 13) <|
 .seq (.frz 12) <|
 .seq (.reg [⟨some 55, .load (some 4) (.t 7), none⟩,
 ⟨some 56, .call n_rat_Floor [(.t 55)] false, none⟩,
 ⟨some 57, .load (some 4) (.t 7), none⟩,
 ⟨some 58, .call n_gantryref05_Floor [(.t 57)] false, none⟩,
 ⟨some 59, .call n_gantryref04_Same [(.t 56), (.t 58)] false, none⟩,
 ⟨some 60, .mov (.t 59), none⟩,
 ⟨some 61, .load (some 4) (.t 7), (some (60, true))⟩,
 ⟨some 62, .call n_rat_Ceil [(.t 61)] false, (some (60, true))⟩,
 ⟨some 63, .load (some 4) (.t 7), (some (60, true))⟩,
 ⟨some 64, .call n_gantryref05_Ceil [(.t 63)] false, (some (60, true))⟩,
 ⟨some 65, .call n_gantryref04_Same [(.t 62), (.t 64)] false, (some (60, true))⟩,
 ⟨some 66, .pick (.t 60) (.t 65) (.c (.v (.bool false))), none⟩,
 ⟨some 67, .mov (.t 66), none⟩,
 ⟨some 68, .mov (.t 8), (some (67, true))⟩,
 ⟨some 69, .mov (.t 10), (some (67, true))⟩,
 ⟨some 70, .bin .eql (.t 68) (.t 69), (some (67, true))⟩,
 ⟨some 71, .pick (.t 67) (.t 70) (.c (.v (.bool false))), none⟩,
 ⟨some 72, .mov (.t 71), none⟩,
 ⟨some 73, .mov (.t 9), (some (72, true))⟩,
 ⟨some 74, .mov (.t 11), (some (72, true))⟩,
 ⟨some 75, .binb false (.t 73) (.t 74), (some (72, true))⟩,
 ⟨some 76, .pick (.t 72) (.t 75) (.c (.v (.bool false))), none⟩,
 ⟨some 77, .mov (.t 76), none⟩,
 ⟨some 78, .mov (.t 12), (some (77, true))⟩,
 ⟨some 79, .mov (.t 13), (some (77, true))⟩,
 ⟨some 80, .call n_rat_Dot [(.t 78), (.t 79)] false, (some (77, true))⟩,
 ⟨some 81, .mov (.t 12), (some (77, true))⟩,
 ⟨some 82, .mov (.t 13), (some (77, true))⟩,
 ⟨some 83, .call n_gantryref05_Dot [(.t 81), (.t 82)] false, (some (77, true))⟩,
 ⟨some 84, .call n_gantrylaw05_same [(.t 80), (.t 83)] false, (some (77, true))⟩,
 ⟨some 85, .pick (.t 77) (.t 84) (.c (.v (.bool false))), none⟩,
 ⟨some 86, .mov (.t 85), none⟩,
 ⟨some 87, .call n_gantrylaw05_lives [] false, (some (86, true))⟩,
 ⟨some 88, .pick (.t 86) (.t 87) (.c (.v (.bool false))), none⟩,
 ⟨some 6, .mov (.t 88), none⟩] []) <|
 .keep [6] []) <|
 .ret, [.t 6]⟩

def gantrylaw05_RatTexts_l0 : C :=
 .seq (.seq (.seq (.seq (.reg [⟨some 122, .mov (.t 21), none⟩,
 ⟨some 123, .mov (.t 20), none⟩,
 ⟨some 124, .len (.t 123), none⟩,
 ⟨some 125, .bin .lss (.t 122) (.t 124), none⟩] []) <|
 .keep [2, 3, 4, 11, 15, 20, 21, 125] [[11]]) <|
 .cond (.t 125) (.skip) <|
 .seq (.keep [2, 3, 4, 11, 15] [[11]]) <|
 .exit 0) <|
 .seq (.seq (.blk 1 <|
 .seq (.seq (.reg [⟨some 129, .mov (.t 20), none⟩,
 ⟨some 130, .mov (.t 21), none⟩,
 ⟨some 131, .ixa 1 (.t 129) (.t 130), none⟩,
 ⟨some 132, .load none (.t 131), none⟩,
 ⟨some 133, .call n_rat_Parse [(.t 132)] false, none⟩,
 ⟨some 128, .mov (.t 133), none⟩,
 ⟨some 134, .ext (.t 128) 0, none⟩,
 ⟨some 135, .ext (.t 128) 1, none⟩,
 ⟨some 22, .new [.v (.bool false), .z true, .v (.bool false), .z true], none⟩,
 ⟨none, .store 4 (.t 22) (.t 134), none⟩,
 ⟨some 23, .mov (.t 135), none⟩] []) <|
 .keep [2, 3, 4, 11, 15, 20, 21, 22, 23] [[11], [22]]) <|
 .seq (.seq (.reg [⟨some 137, .mov (.t 20), none⟩,
 ⟨some 138, .mov (.t 21), none⟩,
 ⟨some 139, .ixa 1 (.t 137) (.t 138), none⟩,
 ⟨some 140, .load none (.t 139), none⟩,
 ⟨some 141, .call n_gantryref05_Parse [(.t 140)] false, none⟩,
 ⟨some 136, .mov (.t 141), none⟩,
 ⟨some 142, .ext (.t 136) 0, none⟩,
 ⟨some 143, .ext (.t 136) 1, none⟩,
 ⟨some 24, .new [.v (.bool false), .z true, .v (.bool false), .z true], none⟩,
 ⟨none, .store 4 (.t 24) (.t 142), none⟩,
 ⟨some 25, .mov (.t 143), none⟩] []) <|
 .keep [2, 3, 4, 11, 15, 20, 21, 22, 23, 24, 25] [[11], [22], [24]]) <|
 .seq (.seq (.reg [⟨some 144, .mov (.t 23), none⟩,
 ⟨some 145, .mov (.t 25), none⟩,
 ⟨some 146, .bin .neq (.t 144) (.t 145), none⟩,
 ⟨some 147, .mov (.t 146), none⟩,
 ⟨some 148, .load (some 4) (.t 22), (some (147, false))⟩,
 ⟨some 149, .load (some 4) (.t 24), (some (147, false))⟩,
 ⟨some 150, .call n_gantrylaw05_same [(.t 148), (.t 149)] false, (some (147, false))⟩,
 ⟨some 151, .un .not (.t 150), (some (147, false))⟩,
 ⟨some 152, .pick (.t 147) (.c (.v (.bool true))) (.t 151), none⟩] []) <|
 .keep [2, 3, 4, 11, 15, 20, 21, 152] [[11]]) <|
 .cond (.t 152) (.seq (.seq (.reg [⟨some 10, .mov (.c (.v (.bool false))), none⟩] []) <|
 .keep [10] []) <|
 .ret) <|
 .skip) <|
 .keep [2, 3, 4, 11, 15, 20, 21] [[11]]) <|
 .seq (.reg [⟨some 126, .mov (.t 21), none⟩,
 ⟨some 127, .bin .add (.t 126) (.c (.v (.int .i64 1))), none⟩,
 ⟨some 21, .mov (.t 127), none⟩] []) <|
 .keep [2, 3, 4, 11, 15, 20, 21] [[11]]) <|
 .keep [2, 3, 4, 11, 15, 20, 21] [[11]]
def gantrylaw05_RatTexts_l1 : C :=
 .seq (.seq (.seq (.seq (.reg [⟨some 183, .mov (.t 29), none⟩,
 ⟨some 184, .mov (.t 28), none⟩,
 ⟨some 185, .len (.t 184), none⟩,
 ⟨some 186, .bin .lss (.t 183) (.t 185), none⟩] []) <|
 .keep [28, 29, 186] []) <|
 .cond (.t 186) (.skip) <|
 .seq (.keep [] []) <|
 .exit 2) <|
 .seq (.seq (.blk 3 <|
 .seq (.seq (.reg [⟨some 190, .mov (.t 28), none⟩,
 ⟨some 191, .mov (.t 29), none⟩,
 ⟨some 192, .ixa 1 (.t 190) (.t 191), none⟩,
 ⟨some 193, .load none (.t 192), none⟩,
 ⟨some 194, .call n_rat_Decode [(.t 193)] false, none⟩,
 ⟨some 189, .mov (.t 194), none⟩,
 ⟨some 195, .ext (.t 189) 0, none⟩,
 ⟨some 196, .ext (.t 189) 1, none⟩,
 ⟨some 197, .ext (.t 189) 2, none⟩,
 ⟨some 30, .new [.v (.bool false), .z true, .v (.bool false), .z true], none⟩,
 ⟨none, .store 4 (.t 30) (.t 195), none⟩,
 ⟨some 31, .mov (.t 196), none⟩,
 ⟨some 32, .mov (.t 197), none⟩] []) <|
 .keep [28, 29, 30, 31, 32] [[30]]) <|
 .seq (.seq (.reg [⟨some 199, .mov (.t 28), none⟩,
 ⟨some 200, .mov (.t 29), none⟩,
 ⟨some 201, .ixa 1 (.t 199) (.t 200), none⟩,
 ⟨some 202, .load none (.t 201), none⟩,
 ⟨some 203, .call n_gantryref05_Decode [(.t 202)] false, none⟩,
 ⟨some 198, .mov (.t 203), none⟩,
 ⟨some 204, .ext (.t 198) 0, none⟩,
 ⟨some 205, .ext (.t 198) 1, none⟩,
 ⟨some 206, .ext (.t 198) 2, none⟩,
 ⟨some 33, .new [.v (.bool false), .z true, .v (.bool false), .z true], none⟩,
 ⟨none, .store 4 (.t 33) (.t 204), none⟩,
 ⟨some 34, .mov (.t 205), none⟩,
 ⟨some 35, .mov (.t 206), none⟩] []) <|
 .keep [28, 29, 30, 31, 32, 33, 34, 35] [[30], [33]]) <|
 .seq (.seq (.reg [⟨some 207, .mov (.t 32), none⟩,
 ⟨some 208, .mov (.t 35), none⟩,
 ⟨some 209, .bin .neq (.t 207) (.t 208), none⟩,
 ⟨some 210, .mov (.t 209), none⟩,
 ⟨some 211, .mov (.t 31), (some (210, false))⟩,
 ⟨some 212, .mov (.t 34), (some (210, false))⟩,
 ⟨some 213, .bin .neq (.t 211) (.t 212), (some (210, false))⟩,
 ⟨some 214, .pick (.t 210) (.c (.v (.bool true))) (.t 213), none⟩,
 ⟨some 215, .mov (.t 214), none⟩,
 ⟨some 216, .load (some 4) (.t 30), (some (215, false))⟩,
 ⟨some 217, .load (some 4) (.t 33), (some (215, false))⟩,
 ⟨some 218, .call n_gantrylaw05_same [(.t 216), (.t 217)] false, (some (215, false))⟩,
 ⟨some 219, .un .not (.t 218), (some (215, false))⟩,
 ⟨some 220, .pick (.t 215) (.c (.v (.bool true))) (.t 219), none⟩] []) <|
 .keep [28, 29, 220] []) <|
 .cond (.t 220) (.seq (.seq (.reg [⟨some 10, .mov (.c (.v (.bool false))), none⟩] []) <|
 .keep [10] []) <|
 .ret) <|
 .skip) <|
 .keep [28, 29] []) <|
 .seq (.reg [⟨some 187, .mov (.t 29), none⟩,
 ⟨some 188, .bin .add (.t 187) (.c (.v (.int .i64 1))), none⟩,
 ⟨some 29, .mov (.t 188), none⟩] []) <|
 .keep [28, 29] []) <|
 .keep [28, 29] []
def gantrylaw05_RatTexts : CF := ⟨5, .seq (.seq (.reg [⟨some 10, .mov (.c (.v (.bool false))), none⟩] []) <|
 .keep [0, 1, 2, 3, 4] []) <|
 .seq (.seq (.reg [⟨some 36, .mov (.t 0), none⟩,
 ⟨some 37, .call n_gantryref05_Number [(.t 36), (.c (.v (.int .i64 0)))] false, none⟩,
 ⟨some 11, .new [.v (.bool false), .z true, .v (.bool false), .z true], none⟩,
 ⟨none, .store 4 (.t 11) (.t 37), none⟩] []) <|
 .keep [1, 2, 3, 4, 11] [[11]]) <|
 .seq (.seq (.reg [⟨some 38, .load (some 4) (.t 11), none⟩,
 ⟨some 39, .call n_rat_Text [(.t 38)] false, none⟩,
 ⟨some 12, .mov (.t 39), none⟩] []) <|
 .keep [1, 2, 3, 4, 11, 12] [[11]]) <|
 .seq (.seq (.reg [⟨some 41, .mov (.t 12), none⟩,
 ⟨some 42, .call n_rat_Parse [(.t 41)] false, none⟩,
 ⟨some 40, .mov (.t 42), none⟩,
 ⟨some 43, .ext (.t 40) 0, none⟩,
 ⟨some 44, .ext (.t 40) 1, none⟩,
 ⟨some 13, .new [.v (.bool false), .z true, .v (.bool false), .z true], none⟩,
 ⟨none, .store 4 (.t 13) (.t 43), none⟩,
 ⟨some 14, .mov (.t 44), none⟩] []) <|
 .keep [1, 2, 3, 4, 11, 12, 13, 14] [[11], [13]]) <|
 .seq (.seq (.reg [⟨some 45, .load (some 4) (.t 11), none⟩,
 ⟨some 46, .call n_rat_Encode [(.t 45)] false, none⟩,
 ⟨some 15, .mov (.t 46), none⟩] []) <|
 .keep [1, 2, 3, 4, 11, 12, 13, 14, 15] [[11], [13]]) <|
 .seq (.seq (.reg [⟨some 48, .lit 1 0 [.v (.int .u8 0)] [] false, none⟩,
 ⟨some 49, .mov (.t 15), none⟩,
 ⟨some 50, .app 1 1 (.t 48) (.t 49) false, none⟩,
 ⟨some 51, .mov (.t 2), none⟩,
 ⟨some 52, .call n_gantryref01_Few [(.t 51), (.c (.v (.int .i64 40)))] false, none⟩,
 ⟨some 53, .app 1 1 (.t 50) (.t 52) true, none⟩,
 ⟨some 54, .call n_rat_Decode [(.t 53)] false, none⟩,
 ⟨some 47, .mov (.t 54), none⟩,
 ⟨some 55, .ext (.t 47) 0, none⟩,
 ⟨some 56, .ext (.t 47) 1, none⟩,
 ⟨some 57, .ext (.t 47) 2, none⟩,
 ⟨some 16, .new [.v (.bool false), .z true, .v (.bool false), .z true], none⟩,
 ⟨none, .store 4 (.t 16) (.t 55), none⟩,
 ⟨some 17, .mov (.t 56), none⟩,
 ⟨some 18, .mov (.t 57), none⟩] []) <|
 .keep [1, 2, 3, 4, 11, 12, 13, 14, 15, 16, 17, 18] [[11], [13], [16]]) <|
 .seq (.seq (.seq (.reg [⟨some 58, .mov (.t 12), none⟩,
 ⟨some 59, .load (some 4) (.t 11), none⟩,
 ⟨some 60, .call n_gantryref05_Text [(.t 59)] false, none⟩,
 ⟨some 61, .bin .neq (.t 58) (.t 60), none⟩,
 ⟨some 62, .mov (.t 61), none⟩,
 ⟨some 63, .mov (.t 14), (some (62, false))⟩,
 ⟨some 64, .bin .neq (.t 63) (.c (.v (.int .i64 0))), (some (62, false))⟩,
 ⟨some 65, .pick (.t 62) (.c (.v (.bool true))) (.t 64), none⟩,
 ⟨some 66, .mov (.t 65), none⟩,
 ⟨some 67, .load (some 4) (.t 11), (some (66, false))⟩,
 ⟨some 68, .load (some 4) (.t 13), (some (66, false))⟩,
 ⟨some 69, .call n_gantrylaw05_same [(.t 67), (.t 68)] false, (some (66, false))⟩,
 ⟨some 70, .un .not (.t 69), (some (66, false))⟩,
 ⟨some 71, .pick (.t 66) (.c (.v (.bool true))) (.t 70), none⟩,
 ⟨some 72, .mov (.t 71), none⟩,
 ⟨some 73, .mov (.t 15), (some (72, false))⟩,
 ⟨some 74, .load (some 4) (.t 11), (some (72, false))⟩,
 ⟨some 75, .call n_gantryref05_Encode [(.t 74)] false, (some (72, false))⟩,
 ⟨some 76, .call n_gantryref01_Same [(.t 73), (.t 75)] false, (some (72, false))⟩,
 ⟨some 77, .un .not (.t 76), (some (72, false))⟩,
 ⟨some 78, .pick (.t 72) (.c (.v (.bool true))) (.t 77), none⟩,
 ⟨some 79, .mov (.t 78), none⟩,
 ⟨some 80, .mov (.t 18), (some (79, false))⟩,
 ⟨some 81, .bin .neq (.t 80) (.c (.v (.int .i64 0))), (some (79, false))⟩,
 ⟨some 82, .pick (.t 79) (.c (.v (.bool true))) (.t 81), none⟩,
 ⟨some 83, .mov (.t 82), none⟩,
 ⟨some 84, .mov (.t 17), (some (83, false))⟩,
 ⟨some 85, .mov (.t 15), (some (83, false))⟩,
 ⟨some 86, .len (.t 85), (some (83, false))⟩,
 ⟨some 87, .bin .neq (.t 84) (.t 86), (some (83, false))⟩,
 ⟨some 88, .pick (.t 83) (.c (.v (.bool true))) (.t 87), none⟩,
 ⟨some 89, .mov (.t 88), none⟩,
 ⟨some 90, .load (some 4) (.t 11), (some (89, false))⟩,
 ⟨some 91, .load (some 4) (.t 16), (some (89, false))⟩,
 ⟨some 92, .call n_gantrylaw05_same [(.t 90), (.t 91)] false, (some (89, false))⟩,
 ⟨some 93, .un .not (.t 92), (some (89, false))⟩,
 ⟨some 94, .pick (.t 89) (.c (.v (.bool true))) (.t 93), none⟩] []) <|
 .keep [1, 2, 3, 4, 11, 12, 15, 94] [[11]]) <|
 .cond (.t 94) (.seq (.seq (.reg [⟨some 10, .mov (.c (.v (.bool false))), none⟩] []) <|
 .keep [10] []) <|
 .ret) <|
 .skip) <|
 .seq (.seq (.reg [⟨some 95, .mov (.t 12), none⟩,
 ⟨some 96, .conv (.s2b false) (.t 95), none⟩,
 ⟨some 19, .mov (.t 96), none⟩] []) <|
 .keep [1, 2, 3, 4, 11, 12, 15, 19] [[11], [96]]) <|
 .seq (.seq (.reg [⟨some 97, .mov (.t 19), none⟩,
 ⟨some 98, .mov (.t 3), none⟩,
 ⟨some 99, .mov (.t 19), none⟩,
 ⟨some 100, .len (.t 99), none⟩,
 ⟨some 101, .mx [(.t 100), (.c (.v (.int .i64 1)))], none⟩,
 ⟨some 102, .call n_gantryref01_Around [(.t 98), (.t 101)] false, none⟩,
 ⟨some 103, .mov (.t 4), none⟩,
 ⟨some 104, .ixa 1 (.t 97) (.t 102), none⟩,
 ⟨none, .store 1 (.t 104) (.t 103), none⟩] []) <|
 .keep [1, 2, 3, 4, 11, 12, 15, 19] [[11], [96]]) <|
 .seq (.seq (.reg [⟨some 105, .mov (.t 19), none⟩,
 ⟨some 106, .conv .b2s (.t 105), none⟩,
 ⟨some 107, .mov (.t 1), none⟩,
 ⟨some 108, .call n_gantryref01_Short [(.t 107), (.c (.v (.int .i64 60)))] false, none⟩,
 ⟨some 109, .mov (.t 12), none⟩,
 ⟨some 110, .bin .add (.t 109) (.c (.v (.string ⟨#[47, 50]⟩))), none⟩,
 ⟨some 111, .mov (.t 12), none⟩,
 ⟨some 112, .bin .add (.c (.v (.string ⟨#[45]⟩))) (.t 111), none⟩,
 ⟨some 113, .mov (.t 12), none⟩,
 ⟨some 114, .bin .add (.t 113) (.c (.v (.string ⟨#[48]⟩))), none⟩,
 ⟨some 115, .mov (.t 12), none⟩,
 ⟨some 116, .bin .add (.t 115) (.c (.v (.string ⟨#[47]⟩))), none⟩,
 ⟨some 117, .mov (.t 12), none⟩,
 ⟨some 118, .bin .add (.c (.v (.string ⟨#[47]⟩))) (.t 117), none⟩,
 ⟨some 119, .mov (.t 12), none⟩,
 ⟨some 120, .bin .add (.c (.v (.string ⟨#[48, 47]⟩))) (.t 119), none⟩,
 ⟨some 121, .lit 1 10 [.v (.string ⟨#[]⟩)] [(0, (.t 106)), (1, (.t 108)), (2, (.t 110)), (3, (.t 112)), (4, (.t 114)), (5, (.t 116)), (6, (.t 118)), (7, (.t 120)), (8, (.c (.v (.string ⟨#[50, 47, 52]⟩)))), (9, (.c (.v (.string ⟨#[]⟩))))] true, none⟩,
 ⟨some 20, .mov (.t 121), none⟩] []) <|
 .keep [2, 3, 4, 11, 15, 20] [[11]]) <|
 .seq (.seq (.seq (.reg [⟨some 21, .mov (.c (.v (.int .i64 0))), none⟩] []) <|
 .keep [2, 3, 4, 11, 15, 20, 21] [[11]]) <|
 .seq (.blk 0 <|
 .seq (.keep [2, 3, 4, 11, 15, 20, 21] [[11]]) <|
 .loop gantrylaw05_RatTexts_l0) <|
 .keep [2, 3, 4, 11, 15] [[11]]) <|
 .seq (.seq (.reg [⟨some 153, .lit 1 0 [.v (.int .u8 0)] [] false, none⟩,
 ⟨some 154, .mov (.t 15), none⟩,
 ⟨some 155, .app 1 1 (.t 153) (.t 154) false, none⟩,
 ⟨some 26, .mov (.t 155), none⟩] []) <|
 .keep [2, 3, 4, 11, 15, 26] [[11], [153], [155]]) <|
 .seq (.seq (.reg [⟨some 156, .mov (.t 26), none⟩,
 ⟨some 157, .mov (.t 3), none⟩,
 ⟨some 158, .mov (.t 26), none⟩,
 ⟨some 159, .len (.t 158), none⟩,
 ⟨some 160, .mx [(.t 159), (.c (.v (.int .i64 1)))], none⟩,
 ⟨some 161, .call n_gantryref01_Around [(.t 157), (.t 160)] false, none⟩,
 ⟨some 162, .mov (.t 4), none⟩,
 ⟨some 163, .ixa 1 (.t 156) (.t 161), none⟩,
 ⟨none, .store 1 (.t 163) (.t 162), none⟩] []) <|
 .keep [2, 11, 15, 26] [[11], [153], [155]]) <|
 .seq (.seq (.reg [⟨some 164, .call n_gantryref04_Of [(.c (.v (.int .i64 2)))] false, none⟩,
 ⟨some 165, .call n_gantryref04_Encode [(.t 164)] true, none⟩,
 ⟨some 166, .call n_gantryref04_Of [(.c (.v (.int .i64 4)))] false, none⟩,
 ⟨some 167, .call n_gantryref04_Encode [(.t 166)] false, none⟩,
 ⟨some 168, .app 1 1 (.t 165) (.t 167) true, none⟩,
 ⟨some 27, .mov (.t 168), none⟩] []) <|
 .keep [2, 11, 15, 26, 27] [[11], [153], [155], [165], [168]]) <|
 .seq (.seq (.frz 26) <|
 .seq (.reg [⟨some 169, .mov (.t 26), none⟩,
 ⟨some 170, .mov (.t 2), none⟩,
 ⟨some 171, .call n_gantryref01_Few [(.t 170), (.c (.v (.int .i64 60)))] false, none⟩,
 ⟨some 172, .mov (.t 15), none⟩,
 ⟨some 173, .mov (.t 15), none⟩,
 ⟨some 174, .len (.t 173), none⟩,
 ⟨some 175, .bin .sub (.t 174) (.c (.v (.int .i64 1))), none⟩,
 ⟨some 176, .mx [(.t 175), (.c (.v (.int .i64 0)))], none⟩,
 ⟨some 177, .slc 1 (.t 172) none (some (.t 176)) none, none⟩,
 ⟨some 178, .mov (.t 27), none⟩,
 ⟨some 179, .fad 0 (.t 11), none⟩,
 ⟨some 180, .load (some 2) (.t 179), none⟩,
 ⟨some 181, .call n_gantryref04_Encode [(.t 180)] false, none⟩,
 ⟨some 182, .lit 1 5 [.z true] [(0, (.t 169)), (1, (.t 171)), (2, (.t 177)), (3, (.t 178)), (4, (.t 181))] true, none⟩,
 ⟨some 28, .mov (.t 182), none⟩] []) <|
 .keep [28] []) <|
 .seq (.seq (.seq (.reg [⟨some 29, .mov (.c (.v (.int .i64 0))), none⟩] []) <|
 .keep [28, 29] []) <|
 .seq (.blk 2 <|
 .seq (.keep [28, 29] []) <|
 .loop gantrylaw05_RatTexts_l1) <|
 .keep [] []) <|
 .seq (.seq (.reg [⟨some 221, .call n_gantrylaw05_lives [] false, none⟩,
 ⟨some 10, .mov (.t 221), none⟩] []) <|
 .keep [10] []) <|
 .ret, [.t 10]⟩

def gantrylaw05_RatMakes_l0 : C :=
 .seq (.seq (.seq (.seq (.reg [⟨some 52, .mov (.t 18), none⟩,
 ⟨some 53, .mov (.t 17), none⟩,
 ⟨some 54, .len (.t 53), none⟩,
 ⟨some 55, .bin .lss (.t 52) (.t 54), none⟩] []) <|
 .keep [0, 1, 13, 14, 15, 17, 18, 55] [[13], [14], [15]]) <|
 .cond (.t 55) (.skip) <|
 .seq (.keep [0, 1, 13, 14, 15] [[13], [14], [15]]) <|
 .exit 0) <|
 .seq (.seq (.blk 1 <|
 .seq (.seq (.reg [⟨some 58, .mov (.t 17), none⟩,
 ⟨some 59, .mov (.t 18), none⟩,
 ⟨some 60, .ixa 4 (.t 58) (.t 59), none⟩,
 ⟨some 61, .load (some 4) (.t 60), none⟩,
 ⟨some 62, .call n_rat_Valid [(.t 61)] false, none⟩,
 ⟨some 63, .mov (.t 17), none⟩,
 ⟨some 64, .mov (.t 18), none⟩,
 ⟨some 65, .ixa 4 (.t 63) (.t 64), none⟩,
 ⟨some 66, .load (some 4) (.t 65), none⟩,
 ⟨some 67, .call n_gantryref05_Valid [(.t 66)] false, none⟩,
 ⟨some 68, .binb true (.t 62) (.t 67), none⟩] []) <|
 .keep [0, 1, 13, 14, 15, 17, 18, 68] [[13], [14], [15]]) <|
 .cond (.t 68) (.seq (.seq (.reg [⟨some 12, .mov (.c (.v (.bool false))), none⟩] []) <|
 .keep [12] []) <|
 .ret) <|
 .skip) <|
 .keep [0, 1, 13, 14, 15, 17, 18] [[13], [14], [15]]) <|
 .seq (.reg [⟨some 56, .mov (.t 18), none⟩,
 ⟨some 57, .bin .add (.t 56) (.c (.v (.int .i64 1))), none⟩,
 ⟨some 18, .mov (.t 57), none⟩] []) <|
 .keep [0, 1, 13, 14, 15, 17, 18] [[13], [14], [15]]) <|
 .keep [0, 1, 13, 14, 15, 17, 18] [[13], [14], [15]]
def gantrylaw05_RatMakes : CF := ⟨6, .seq (.seq (.reg [⟨some 12, .mov (.c (.v (.bool false))), none⟩] []) <|
 .keep [0, 1, 2, 3, 4, 5] []) <|
 .seq (.seq (.reg [⟨some 19, .mov (.t 2), none⟩,
 ⟨some 20, .call n_gantryref04_Number [(.t 19), (.c (.v (.int .i64 0)))] false, none⟩,
 ⟨some 13, .new [.v (.bool false), .z true], none⟩,
 ⟨none, .store 2 (.t 13) (.t 20), none⟩] []) <|
 .keep [0, 1, 3, 4, 5, 13] [[13]]) <|
 .seq (.seq (.reg [⟨some 21, .mov (.t 3), none⟩,
 ⟨some 22, .call n_gantryref04_Number [(.t 21), (.c (.v (.int .i64 0)))] false, none⟩,
 ⟨some 14, .new [.v (.bool false), .z true], none⟩,
 ⟨none, .store 2 (.t 14) (.t 22), none⟩] []) <|
 .keep [0, 1, 4, 5, 13, 14] [[13], [14]]) <|
 .seq (.seq (.reg [⟨some 23, .load (some 2) (.t 13), none⟩,
 ⟨some 24, .load (some 2) (.t 14), none⟩,
 ⟨some 25, .call n_gantryref05_Make [(.t 23), (.t 24)] false, none⟩,
 ⟨some 15, .new [.v (.bool false), .z true, .v (.bool false), .z true], none⟩,
 ⟨none, .store 4 (.t 15) (.t 25), none⟩] []) <|
 .keep [0, 1, 4, 5, 13, 14, 15] [[13], [14], [15]]) <|
 .seq (.seq (.reg [⟨some 26, .load (some 2) (.t 13), none⟩,
 ⟨some 27, .mov (.t 5), none⟩,
 ⟨some 28, .mov (.t 4), none⟩,
 ⟨some 29, .call n_gantryref01_Take [(.t 28), (.c (.v (.int .i64 5)))] false, none⟩,
 ⟨some 30, .build [.v (.bool false), .z true] [(0, 1, (.t 27)), (1, 1, (.t 29))], none⟩,
 ⟨some 31, .build [.v (.bool false), .z true, .v (.bool false), .z true] [(0, 2, (.t 26)), (2, 2, (.t 30))], none⟩,
 ⟨some 16, .new [.v (.bool false), .z true, .v (.bool false), .z true], none⟩,
 ⟨none, .store 4 (.t 16) (.t 31), none⟩] []) <|
 .keep [0, 1, 13, 14, 15, 16] [[13], [14], [15], [16]]) <|
 .seq (.seq (.reg [⟨some 32, .load (some 4) (.t 15), none⟩,
 ⟨some 33, .load (some 4) (.t 16), none⟩,
 ⟨some 34, .load (some 2) (.t 13), none⟩,
 ⟨some 35, .load (some 2) (.t 14), none⟩,
 ⟨some 36, .build [.v (.bool false), .z true, .v (.bool false), .z true] [(0, 2, (.t 34)), (2, 2, (.t 35))], none⟩,
 ⟨some 37, .fad 0 (.t 15), none⟩,
 ⟨some 38, .load (some 2) (.t 37), none⟩,
 ⟨some 39, .load (some 2) (.t 14), none⟩,
 ⟨some 40, .call n_gantryref04_Mul [(.t 38), (.t 39)] false, none⟩,
 ⟨some 41, .load (some 4) (.t 15), none⟩,
 ⟨some 42, .call n_gantryref05_Den [(.t 41)] false, none⟩,
 ⟨some 43, .load (some 2) (.t 14), none⟩,
 ⟨some 44, .call n_gantryref04_Mul [(.t 42), (.t 43)] false, none⟩,
 ⟨some 45, .build [.v (.bool false), .z true, .v (.bool false), .z true] [(0, 2, (.t 40)), (2, 2, (.t 44))], none⟩,
 ⟨some 46, .call n_gantryref04_Of [(.c (.v (.int .i64 5)))] false, none⟩,
 ⟨some 47, .build [.v (.bool false), .z true, .v (.bool false), .z true] [(2, 2, (.t 46))], none⟩,
 ⟨some 48, .load (some 2) (.t 13), none⟩,
 ⟨some 49, .call n_gantryref04_Of [(.c (.v (.int .i64 1)))] false, none⟩,
 ⟨some 50, .build [.v (.bool false), .z true, .v (.bool false), .z true] [(0, 2, (.t 48)), (2, 2, (.t 49))], none⟩,
 ⟨some 51, .lit 4 6 [.v (.bool false), .z true, .v (.bool false), .z true] [(0, (.t 32)), (1, (.t 33)), (2, (.t 36)), (3, (.t 45)), (4, (.t 47)), (5, (.t 50))] true, none⟩,
 ⟨some 17, .mov (.t 51), none⟩] []) <|
 .keep [0, 1, 13, 14, 15, 17] [[13], [14], [15]]) <|
 .seq (.seq (.seq (.reg [⟨some 18, .mov (.c (.v (.int .i64 0))), none⟩] []) <|
 .keep [0, 1, 13, 14, 15, 17, 18] [[13], [14], [15]]) <|
 .seq (.blk 0 <|
 .seq (.keep [0, 1, 13, 14, 15, 17, 18] [[13], [14], [15]]) <|
 .loop gantrylaw05_RatMakes_l0) <|
 .keep [0, 1, 13, 14, 15] [[13], [14], [15]]) <|
 .seq (.seq (.reg [⟨some 69, .load (some 2) (.t 13), none⟩,
 ⟨some 70, .load (some 2) (.t 14), none⟩,
 ⟨some 71, .call n_rat_Make [(.t 69), (.t 70)] false, none⟩,
 ⟨some 72, .load (some 4) (.t 15), none⟩,
 ⟨some 73, .call n_gantrylaw05_same [(.t 71), (.t 72)] false, none⟩,
 ⟨some 74, .mov (.t 73), none⟩,
 ⟨some 75, .mov (.t 0), (some (74, true))⟩,
 ⟨some 76, .mov (.t 1), (some (74, true))⟩,
 ⟨some 77, .call n_rat_Of [(.t 75), (.t 76)] false, (some (74, true))⟩,
 ⟨some 78, .mov (.t 0), (some (74, true))⟩,
 ⟨some 79, .mov (.t 1), (some (74, true))⟩,
 ⟨some 80, .call n_gantryref05_Of [(.t 78), (.t 79)] false, (some (74, true))⟩,
 ⟨some 81, .call n_gantrylaw05_same [(.t 77), (.t 80)] false, (some (74, true))⟩,
 ⟨some 82, .pick (.t 74) (.t 81) (.c (.v (.bool false))), none⟩,
 ⟨some 83, .mov (.t 82), none⟩,
 ⟨some 84, .load (some 4) (.t 15), (some (83, true))⟩,
 ⟨some 85, .call n_rat_Den [(.t 84)] false, (some (83, true))⟩,
 ⟨some 86, .load (some 4) (.t 15), (some (83, true))⟩,
 ⟨some 87, .call n_gantryref05_Den [(.t 86)] false, (some (83, true))⟩,
 ⟨some 88, .call n_gantryref04_Same [(.t 85), (.t 87)] false, (some (83, true))⟩,
 ⟨some 89, .pick (.t 83) (.t 88) (.c (.v (.bool false))), none⟩,
 ⟨some 90, .mov (.t 89), none⟩,
 ⟨some 91, .call n_gantrylaw05_lives [] false, (some (90, true))⟩,
 ⟨some 92, .pick (.t 90) (.t 91) (.c (.v (.bool false))), none⟩,
 ⟨some 12, .mov (.t 92), none⟩] []) <|
 .keep [12] []) <|
 .ret, [.t 12]⟩

def gantrylaw05_RatBetween_l0 : C :=
 .seq (.seq (.seq (.seq (.reg [⟨some 47, .mov (.t 11), none⟩,
 ⟨some 48, .bin .lss (.t 47) (.c (.v (.int .i64 60))), none⟩] []) <|
 .keep [5, 6, 7, 11, 48] [[5], [6], [7]]) <|
 .cond (.t 48) (.skip) <|
 .seq (.keep [5, 6, 7] [[5], [6], [7]]) <|
 .exit 0) <|
 .seq (.seq (.blk 1 <|
 .seq (.seq (.seq (.reg [⟨some 51, .mov (.t 11), none⟩,
 ⟨some 52, .call n_gantryref04_Of [(.t 51)] false, none⟩,
 ⟨some 53, .load (some 4) (.t 7), none⟩,
 ⟨some 54, .call n_gantryref05_Den [(.t 53)] false, none⟩,
 ⟨some 55, .call n_gantryref04_Compare [(.t 52), (.t 54)] false, none⟩,
 ⟨some 56, .bin .geq (.t 55) (.c (.v (.int .i64 0))), none⟩] []) <|
 .keep [5, 6, 7, 11, 56] [[5], [6], [7]]) <|
 .cond (.t 56) (.seq (.keep [5, 6, 7] [[5], [6], [7]]) <|
 .exit 0) <|
 .skip) <|
 .seq (.seq (.reg [⟨some 57, .load (some 4) (.t 5), none⟩,
 ⟨some 58, .mov (.t 11), none⟩,
 ⟨some 59, .call n_gantryref05_Of [(.t 58), (.c (.v (.int .i64 1)))] false, none⟩,
 ⟨some 60, .call n_gantryref05_Mul [(.t 57), (.t 59)] false, none⟩,
 ⟨some 61, .call n_gantryref05_Ceil [(.t 60)] false, none⟩,
 ⟨some 12, .new [.v (.bool false), .z true], none⟩,
 ⟨none, .store 2 (.t 12) (.t 61), none⟩] []) <|
 .keep [5, 6, 7, 11, 12] [[5], [6], [7], [12]]) <|
 .seq (.seq (.reg [⟨some 62, .load (some 2) (.t 12), none⟩,
 ⟨some 63, .mov (.t 11), none⟩,
 ⟨some 64, .call n_gantryref04_Of [(.t 63)] false, none⟩,
 ⟨some 65, .call n_gantryref05_Make [(.t 62), (.t 64)] false, none⟩,
 ⟨some 66, .load (some 4) (.t 6), none⟩,
 ⟨some 67, .call n_gantryref05_Compare [(.t 65), (.t 66)] false, none⟩,
 ⟨some 68, .bin .leq (.t 67) (.c (.v (.int .i64 0))), none⟩] []) <|
 .keep [5, 6, 7, 11, 68] [[5], [6], [7]]) <|
 .cond (.t 68) (.seq (.seq (.reg [⟨some 4, .mov (.c (.v (.bool false))), none⟩] []) <|
 .keep [4] []) <|
 .ret) <|
 .skip) <|
 .keep [5, 6, 7, 11] [[5], [6], [7]]) <|
 .seq (.reg [⟨some 49, .mov (.t 11), none⟩,
 ⟨some 50, .bin .add (.t 49) (.c (.v (.int .i64 1))), none⟩,
 ⟨some 11, .mov (.t 50), none⟩] []) <|
 .keep [5, 6, 7, 11] [[5], [6], [7]]) <|
 .keep [5, 6, 7, 11] [[5], [6], [7]]
def gantrylaw05_RatBetween : CF := ⟨2, .seq (.seq (.reg [⟨some 4, .mov (.c (.v (.bool false))), none⟩] []) <|
 .keep [0, 1] []) <|
 .seq (.seq (.reg [⟨some 19, .mov (.t 0), none⟩,
 ⟨some 20, .call n_gantryref05_Number [(.t 19), (.c (.v (.int .i64 0)))] false, none⟩,
 ⟨some 5, .new [.v (.bool false), .z true, .v (.bool false), .z true], none⟩,
 ⟨none, .store 4 (.t 5) (.t 20), none⟩] []) <|
 .keep [1, 5] [[5]]) <|
 .seq (.seq (.reg [⟨some 21, .mov (.t 1), none⟩,
 ⟨some 22, .call n_gantryref05_Number [(.t 21), (.c (.v (.int .i64 0)))] false, none⟩,
 ⟨some 6, .new [.v (.bool false), .z true, .v (.bool false), .z true], none⟩,
 ⟨none, .store 4 (.t 6) (.t 22), none⟩] []) <|
 .keep [5, 6] [[5], [6]]) <|
 .seq (.seq (.reg [⟨some 24, .load (some 4) (.t 5), none⟩,
 ⟨some 25, .load (some 4) (.t 6), none⟩,
 ⟨some 26, .call n_rat_Between [(.t 24), (.t 25)] false, none⟩,
 ⟨some 23, .mov (.t 26), none⟩,
 ⟨some 27, .ext (.t 23) 0, none⟩,
 ⟨some 28, .ext (.t 23) 1, none⟩,
 ⟨some 7, .new [.v (.bool false), .z true, .v (.bool false), .z true], none⟩,
 ⟨none, .store 4 (.t 7) (.t 27), none⟩,
 ⟨some 8, .mov (.t 28), none⟩] []) <|
 .keep [5, 6, 7, 8] [[5], [6], [7]]) <|
 .seq (.seq (.reg [⟨some 30, .load (some 4) (.t 5), none⟩,
 ⟨some 31, .load (some 4) (.t 6), none⟩,
 ⟨some 32, .call n_gantryref05_Between [(.t 30), (.t 31)] false, none⟩,
 ⟨some 29, .mov (.t 32), none⟩,
 ⟨some 33, .ext (.t 29) 0, none⟩,
 ⟨some 34, .ext (.t 29) 1, none⟩,
 ⟨some 9, .new [.v (.bool false), .z true, .v (.bool false), .z true], none⟩,
 ⟨none, .store 4 (.t 9) (.t 33), none⟩,
 ⟨some 10, .mov (.t 34), none⟩] []) <|
 .keep [5, 6, 7, 8, 9, 10] [[5], [6], [7], [9]]) <|
 .seq (.seq (.seq (.reg [⟨some 35, .mov (.t 8), none⟩,
 ⟨some 36, .mov (.t 10), none⟩,
 ⟨some 37, .bin .neq (.t 35) (.t 36), none⟩,
 ⟨some 38, .mov (.t 37), none⟩,
 ⟨some 39, .load (some 4) (.t 7), (some (38, false))⟩,
 ⟨some 40, .load (some 4) (.t 9), (some (38, false))⟩,
 ⟨some 41, .call n_gantrylaw05_same [(.t 39), (.t 40)] false, (some (38, false))⟩,
 ⟨some 42, .un .not (.t 41), (some (38, false))⟩,
 ⟨some 43, .pick (.t 38) (.c (.v (.bool true))) (.t 42), none⟩] []) <|
 .keep [5, 6, 7, 8, 43] [[5], [6], [7]]) <|
 .cond (.t 43) (.seq (.seq (.reg [⟨some 4, .mov (.c (.v (.bool false))), none⟩] []) <|
 .keep [4] []) <|
 .ret) <|
 .skip) <|
 .seq (.seq (.seq (.reg [⟨some 44, .mov (.t 8), none⟩,
 ⟨some 45, .bin .neq (.t 44) (.c (.v (.int .i64 0))), none⟩] []) <|
 .keep [5, 6, 7, 45] [[5], [6], [7]]) <|
 .cond (.t 45) (.seq (.seq (.reg [⟨some 46, .call n_gantrylaw05_lives [] false, none⟩,
 ⟨some 4, .mov (.t 46), none⟩] []) <|
 .keep [4] []) <|
 .ret) <|
 .skip) <|
 .seq (.seq (.seq (.reg [⟨some 11, .mov (.c (.v (.int .i64 1))), none⟩] []) <|
 .keep [5, 6, 7, 11] [[5], [6], [7]]) <|
 .seq (.blk 0 <|
 .seq (.keep [5, 6, 7, 11] [[5], [6], [7]]) <|
 .loop gantrylaw05_RatBetween_l0) <|
 .keep [5, 6, 7] [[5], [6], [7]]) <|
 .seq (.seq (.reg [⟨some 70, .load (some 4) (.t 5), none⟩,
 ⟨some 71, .load (some 4) (.t 7), none⟩,
 ⟨some 72, .call n_rat_Between [(.t 70), (.t 71)] false, none⟩,
 ⟨some 69, .mov (.t 72), none⟩,
 ⟨some 73, .ext (.t 69) 0, none⟩,
 ⟨some 74, .ext (.t 69) 1, none⟩,
 ⟨some 13, .new [.v (.bool false), .z true, .v (.bool false), .z true], none⟩,
 ⟨none, .store 4 (.t 13) (.t 73), none⟩,
 ⟨some 14, .mov (.t 74), none⟩] []) <|
 .keep [5, 6, 7, 13, 14] [[5], [6], [7], [13]]) <|
 .seq (.seq (.reg [⟨some 76, .load (some 4) (.t 7), none⟩,
 ⟨some 77, .load (some 4) (.t 6), none⟩,
 ⟨some 78, .call n_rat_Between [(.t 76), (.t 77)] false, none⟩,
 ⟨some 75, .mov (.t 78), none⟩,
 ⟨some 79, .ext (.t 75) 0, none⟩,
 ⟨some 80, .ext (.t 75) 1, none⟩,
 ⟨some 15, .new [.v (.bool false), .z true, .v (.bool false), .z true], none⟩,
 ⟨none, .store 4 (.t 15) (.t 79), none⟩,
 ⟨some 16, .mov (.t 80), none⟩] []) <|
 .keep [5, 6, 7, 13, 14, 15, 16] [[5], [6], [7], [13], [15]]) <|
 .seq (.seq (.reg [⟨some 82, .load (some 4) (.t 5), none⟩,
 ⟨some 83, .load (some 4) (.t 5), none⟩,
 ⟨some 84, .call n_rat_Between [(.t 82), (.t 83)] false, none⟩,
 ⟨some 81, .mov (.t 84), none⟩,
 ⟨some 85, .ext (.t 81) 0, none⟩,
 ⟨some 86, .ext (.t 81) 1, none⟩,
 ⟨some 17, .new [.v (.bool false), .z true, .v (.bool false), .z true], none⟩,
 ⟨none, .store 4 (.t 17) (.t 85), none⟩,
 ⟨some 18, .mov (.t 86), none⟩] []) <|
 .keep [5, 6, 7, 13, 14, 15, 16, 17, 18] [[5], [6], [7], [13], [15], [17]]) <|
 .seq (.seq (.reg [⟨some 87, .mov (.t 14), none⟩,
 ⟨some 88, .bin .eql (.t 87) (.c (.v (.int .i64 0))), none⟩,
 ⟨some 89, .mov (.t 88), none⟩,
 ⟨some 90, .mov (.t 16), (some (89, true))⟩,
 ⟨some 91, .bin .eql (.t 90) (.c (.v (.int .i64 0))), (some (89, true))⟩,
 ⟨some 92, .pick (.t 89) (.t 91) (.c (.v (.bool false))), none⟩,
 ⟨some 93, .mov (.t 92), none⟩,
 ⟨some 94, .mov (.t 18), (some (93, true))⟩,
 ⟨some 95, .bin .eql (.t 94) (.c (.v (.int .i64 0))), (some (93, true))⟩,
 ⟨some 96, .pick (.t 93) (.t 95) (.c (.v (.bool false))), none⟩,
 ⟨some 97, .mov (.t 96), none⟩,
 ⟨some 98, .load (some 4) (.t 13), (some (97, true))⟩,
 ⟨some 99, .load (some 4) (.t 7), (some (97, true))⟩,
 ⟨some 100, .call n_gantrylaw05_same [(.t 98), (.t 99)] false, (some (97, true))⟩,
 ⟨some 101, .pick (.t 97) (.t 100) (.c (.v (.bool false))), none⟩,
 ⟨some 102, .mov (.t 101), none⟩,
 ⟨some 103, .load (some 4) (.t 15), (some (102, true))⟩,
 ⟨some 104, .load (some 4) (.t 7), (some (102, true))⟩,
 ⟨some 105, .call n_gantrylaw05_same [(.t 103), (.t 104)] false, (some (102, true))⟩,
 ⟨some 106, .pick (.t 102) (.t 105) (.c (.v (.bool false))), none⟩,
 ⟨some 107, .mov (.t 106), none⟩,
 ⟨some 108, .load (some 4) (.t 17), (some (107, true))⟩,
 ⟨some 109, .load (some 4) (.t 5), (some (107, true))⟩,
 ⟨some 110, .call n_gantrylaw05_same [(.t 108), (.t 109)] false, (some (107, true))⟩,
 ⟨some 111, .pick (.t 107) (.t 110) (.c (.v (.bool false))), none⟩,
 ⟨some 112, .mov (.t 111), none⟩,
 ⟨some 113, .load (some 4) (.t 5), (some (112, true))⟩,
 ⟨some 114, .load (some 4) (.t 7), (some (112, true))⟩,
 ⟨some 115, .call n_rat_Compare [(.t 113), (.t 114)] false, (some (112, true))⟩,
 ⟨some 116, .bin .leq (.t 115) (.c (.v (.int .i64 0))), (some (112, true))⟩,
 ⟨some 117, .pick (.t 112) (.t 116) (.c (.v (.bool false))), none⟩,
 ⟨some 118, .mov (.t 117), none⟩,
 ⟨some 119, .load (some 4) (.t 7), (some (118, true))⟩,
 ⟨some 120, .load (some 4) (.t 6), (some (118, true))⟩,
 ⟨some 121, .call n_rat_Compare [(.t 119), (.t 120)] false, (some (118, true))⟩,
 ⟨some 122, .bin .leq (.t 121) (.c (.v (.int .i64 0))), (some (118, true))⟩,
 ⟨some 123, .pick (.t 118) (.t 122) (.c (.v (.bool false))), none⟩,
 ⟨some 124, .mov (.t 123), none⟩,
 ⟨some 125, .call n_gantrylaw05_lives [] false, (some (124, true))⟩,
 ⟨some 126, .pick (.t 124) (.t 125) (.c (.v (.bool false))), none⟩,
 ⟨some 4, .mov (.t 126), none⟩] []) <|
 .keep [4] []) <|
 .ret, [.t 4]⟩

def gantrylaw05_RatField : CF := ⟨3, .seq (.seq (.reg [⟨some 6, .mov (.c (.v (.bool false))), none⟩] []) <|
 .keep [0, 1, 2] []) <|
 .seq (.seq (.reg [⟨some 10, .mov (.t 0), none⟩,
 ⟨some 11, .call n_gantryref05_Number [(.t 10), (.c (.v (.int .i64 0)))] false, none⟩,
 ⟨some 7, .new [.v (.bool false), .z true, .v (.bool false), .z true], none⟩,
 ⟨none, .store 4 (.t 7) (.t 11), none⟩] []) <|
 .keep [1, 2, 7] [[7]]) <|
 .seq (.seq (.reg [⟨some 12, .mov (.t 1), none⟩,
 ⟨some 13, .call n_gantryref05_Number [(.t 12), (.c (.v (.int .i64 0)))] false, none⟩,
 ⟨some 8, .new [.v (.bool false), .z true, .v (.bool false), .z true], none⟩,
 ⟨none, .store 4 (.t 8) (.t 13), none⟩] []) <|
 .keep [2, 7, 8] [[7], [8]]) <|
 .seq (.seq (.reg [⟨some 14, .mov (.t 2), none⟩,
 ⟨some 15, .call n_gantryref05_Number [(.t 14), (.c (.v (.int .i64 0)))] false, none⟩,
 ⟨some 9, .new [.v (.bool false), .z true, .v (.bool false), .z true], none⟩,
 ⟨none, .store 4 (.t 9) (.t 15), none⟩] []) <|
 .keep [7, 8, 9] [[7], [8], [9]]) <|
 .seq (.seq (.seq (.reg [⟨some 16, .load (some 4) (.t 7), none⟩,
 ⟨some 17, .load (some 4) (.t 8), none⟩,
 ⟨some 18, .call n_rat_Add [(.t 16), (.t 17)] false, none⟩,
 ⟨some 19, .load (some 4) (.t 8), none⟩,
 ⟨some 20, .load (some 4) (.t 7), none⟩,
 ⟨some 21, .call n_rat_Add [(.t 19), (.t 20)] false, none⟩,
 ⟨some 22, .call n_gantrylaw05_same [(.t 18), (.t 21)] false, none⟩,
 ⟨some 23, .un .not (.t 22), none⟩,
 ⟨some 24, .mov (.t 23), none⟩,
 ⟨some 25, .load (some 4) (.t 7), (some (24, false))⟩,
 ⟨some 26, .load (some 4) (.t 8), (some (24, false))⟩,
 ⟨some 27, .call n_rat_Mul [(.t 25), (.t 26)] false, (some (24, false))⟩,
 ⟨some 28, .load (some 4) (.t 8), (some (24, false))⟩,
 ⟨some 29, .load (some 4) (.t 7), (some (24, false))⟩,
 ⟨some 30, .call n_rat_Mul [(.t 28), (.t 29)] false, (some (24, false))⟩,
 ⟨some 31, .call n_gantrylaw05_same [(.t 27), (.t 30)] false, (some (24, false))⟩,
 ⟨some 32, .un .not (.t 31), (some (24, false))⟩,
 ⟨some 33, .pick (.t 24) (.c (.v (.bool true))) (.t 32), none⟩,
 ⟨some 34, .mov (.t 33), none⟩,
 ⟨some 35, .load (some 4) (.t 7), (some (34, false))⟩,
 ⟨some 36, .load (some 4) (.t 8), (some (34, false))⟩,
 ⟨some 37, .call n_rat_Add [(.t 35), (.t 36)] false, (some (34, false))⟩,
 ⟨some 38, .load (some 4) (.t 9), (some (34, false))⟩,
 ⟨some 39, .call n_rat_Add [(.t 37), (.t 38)] false, (some (34, false))⟩,
 ⟨some 40, .load (some 4) (.t 7), (some (34, false))⟩,
 ⟨some 41, .load (some 4) (.t 8), (some (34, false))⟩,
 ⟨some 42, .load (some 4) (.t 9), (some (34, false))⟩,
 ⟨some 43, .call n_rat_Add [(.t 41), (.t 42)] false, (some (34, false))⟩,
 ⟨some 44, .call n_rat_Add [(.t 40), (.t 43)] false, (some (34, false))⟩,
 ⟨some 45, .call n_gantrylaw05_same [(.t 39), (.t 44)] false, (some (34, false))⟩,
 ⟨some 46, .un .not (.t 45), (some (34, false))⟩,
 ⟨some 47, .pick (.t 34) (.c (.v (.bool true))) (.t 46), none⟩,
 ⟨some 48, .mov (.t 47), none⟩,
 ⟨some 49, .load (some 4) (.t 7), (some (48, false))⟩,
 ⟨some 50, .load (some 4) (.t 8), (some (48, false))⟩,
 ⟨some 51, .call n_rat_Mul [(.t 49), (.t 50)] false, (some (48, false))⟩,
 ⟨some 52, .load (some 4) (.t 9), (some (48, false))⟩,
 ⟨some 53, .call n_rat_Mul [(.t 51), (.t 52)] false, (some (48, false))⟩,
 ⟨some 54, .load (some 4) (.t 7), (some (48, false))⟩,
 ⟨some 55, .load (some 4) (.t 8), (some (48, false))⟩,
 ⟨some 56, .load (some 4) (.t 9), (some (48, false))⟩,
 ⟨some 57, .call n_rat_Mul [(.t 55), (.t 56)] false, (some (48, false))⟩,
 ⟨some 58, .call n_rat_Mul [(.t 54), (.t 57)] false, (some (48, false))⟩,
 ⟨some 59, .call n_gantrylaw05_same [(.t 53), (.t 58)] false, (some (48, false))⟩,
 ⟨some 60, .un .not (.t 59), (some (48, false))⟩,
 ⟨some 61, .pick (.t 48) (.c (.v (.bool true))) (.t 60), none⟩] []) <|
 .keep [7, 8, 9, 61] [[7], [8], [9]]) <|
 .cond (.t 61) (.seq (.seq (.reg [⟨some 6, .mov (.c (.v (.bool false))), none⟩] []) <|
 .keep [6] []) <|
 .ret) <|
 .skip) <|
 .seq (.seq (.seq (.reg [⟨some 62, .load (some 4) (.t 7), none⟩,
 ⟨some 63, .load (some 4) (.t 8), none⟩,
 ⟨some 64, .load (some 4) (.t 9), none⟩,
 ⟨some 65, .call n_rat_Add [(.t 63), (.t 64)] false, none⟩,
 ⟨some 66, .call n_rat_Mul [(.t 62), (.t 65)] false, none⟩,
 ⟨some 67, .load (some 4) (.t 7), none⟩,
 ⟨some 68, .load (some 4) (.t 8), none⟩,
 ⟨some 69, .call n_rat_Mul [(.t 67), (.t 68)] false, none⟩,
 ⟨some 70, .load (some 4) (.t 7), none⟩,
 ⟨some 71, .load (some 4) (.t 9), none⟩,
 ⟨some 72, .call n_rat_Mul [(.t 70), (.t 71)] false, none⟩,
 ⟨some 73, .call n_rat_Add [(.t 69), (.t 72)] false, none⟩,
 ⟨some 74, .call n_gantrylaw05_same [(.t 66), (.t 73)] false, none⟩,
 ⟨some 75, .un .not (.t 74), none⟩,
 ⟨some 76, .mov (.t 75), none⟩,
 ⟨some 77, .load (some 4) (.t 7), (some (76, false))⟩,
 ⟨some 78, .load (some 4) (.t 8), (some (76, false))⟩,
 ⟨some 79, .call n_rat_Add [(.t 77), (.t 78)] false, (some (76, false))⟩,
 ⟨some 80, .load (some 4) (.t 8), (some (76, false))⟩,
 ⟨some 81, .call n_rat_Sub [(.t 79), (.t 80)] false, (some (76, false))⟩,
 ⟨some 82, .load (some 4) (.t 7), (some (76, false))⟩,
 ⟨some 83, .call n_gantrylaw05_same [(.t 81), (.t 82)] false, (some (76, false))⟩,
 ⟨some 84, .un .not (.t 83), (some (76, false))⟩,
 ⟨some 85, .pick (.t 76) (.c (.v (.bool true))) (.t 84), none⟩] []) <|
 .keep [7, 8, 85] [[7], [8]]) <|
 .cond (.t 85) (.seq (.seq (.reg [⟨some 6, .mov (.c (.v (.bool false))), none⟩] []) <|
 .keep [6] []) <|
 .ret) <|
 .skip) <|
 .seq (.seq (.seq (.reg [⟨some 86, .load (some 4) (.t 8), none⟩,
 ⟨some 87, .call n_rat_Sign [(.t 86)] false, none⟩,
 ⟨some 88, .bin .eql (.t 87) (.c (.v (.int .i64 0))), none⟩] []) <|
 .keep [7, 8, 88] [[7], [8]]) <|
 .cond (.t 88) (.seq (.seq (.reg [⟨some 89, .load (some 4) (.t 7), none⟩,
 ⟨some 90, .load (some 4) (.t 8), none⟩,
 ⟨some 91, .call n_rat_Div [(.t 89), (.t 90)] false, none⟩,
 ⟨some 92, .build [.v (.bool false), .z true, .v (.bool false), .z true] [], none⟩,
 ⟨some 93, .call n_gantrylaw05_same [(.t 91), (.t 92)] false, none⟩,
 ⟨some 94, .mov (.t 93), none⟩,
 ⟨some 95, .call n_gantrylaw05_lives [] false, (some (94, true))⟩,
 ⟨some 96, .pick (.t 94) (.t 95) (.c (.v (.bool false))), none⟩,
 ⟨some 6, .mov (.t 96), none⟩] []) <|
 .keep [6] []) <|
 .ret) <|
 .skip) <|
 .seq (.seq (.reg [⟨some 97, .load (some 4) (.t 7), none⟩,
 ⟨some 98, .load (some 4) (.t 8), none⟩,
 ⟨some 99, .call n_rat_Mul [(.t 97), (.t 98)] false, none⟩,
 ⟨some 100, .load (some 4) (.t 8), none⟩,
 ⟨some 101, .call n_rat_Div [(.t 99), (.t 100)] false, none⟩,
 ⟨some 102, .load (some 4) (.t 7), none⟩,
 ⟨some 103, .call n_gantrylaw05_same [(.t 101), (.t 102)] false, none⟩,
 ⟨some 104, .mov (.t 103), none⟩,
 ⟨some 105, .load (some 4) (.t 7), (some (104, true))⟩,
 ⟨some 106, .load (some 4) (.t 8), (some (104, true))⟩,
 ⟨some 107, .call n_rat_Div [(.t 105), (.t 106)] false, (some (104, true))⟩,
 ⟨some 108, .load (some 4) (.t 8), (some (104, true))⟩,
 ⟨some 109, .call n_rat_Mul [(.t 107), (.t 108)] false, (some (104, true))⟩,
 ⟨some 110, .load (some 4) (.t 7), (some (104, true))⟩,
 ⟨some 111, .call n_gantrylaw05_same [(.t 109), (.t 110)] false, (some (104, true))⟩,
 ⟨some 112, .pick (.t 104) (.t 111) (.c (.v (.bool false))), none⟩,
 ⟨some 113, .mov (.t 112), none⟩,
 ⟨some 114, .load (some 4) (.t 7), (some (113, true))⟩,
 ⟨some 115, .load (some 4) (.t 8), (some (113, true))⟩,
 ⟨some 116, .call n_rat_Div [(.t 114), (.t 115)] false, (some (113, true))⟩,
 ⟨some 117, .call n_rat_Valid [(.t 116)] false, (some (113, true))⟩,
 ⟨some 118, .pick (.t 113) (.t 117) (.c (.v (.bool false))), none⟩,
 ⟨some 119, .mov (.t 118), none⟩,
 ⟨some 120, .load (some 4) (.t 7), (some (119, true))⟩,
 ⟨some 121, .load (some 4) (.t 8), (some (119, true))⟩,
 ⟨some 122, .call n_rat_Add [(.t 120), (.t 121)] false, (some (119, true))⟩,
 ⟨some 123, .call n_rat_Valid [(.t 122)] false, (some (119, true))⟩,
 ⟨some 124, .pick (.t 119) (.t 123) (.c (.v (.bool false))), none⟩,
 ⟨some 125, .mov (.t 124), none⟩,
 ⟨some 126, .call n_gantrylaw05_lives [] false, (some (125, true))⟩,
 ⟨some 127, .pick (.t 125) (.t 126) (.c (.v (.bool false))), none⟩,
 ⟨some 6, .mov (.t 127), none⟩] []) <|
 .keep [6] []) <|
 .ret, [.t 6]⟩

def gantrylaw05_RatSums : CF := ⟨2, .seq (.seq (.reg [⟨some 4, .mov (.c (.v (.bool false))), none⟩] []) <|
 .keep [0, 1] []) <|
 .seq (.seq (.reg [⟨some 9, .mov (.t 0), none⟩,
 ⟨some 10, .call n_gantryref05_Number [(.t 9), (.c (.v (.int .i64 0)))] false, none⟩,
 ⟨some 5, .new [.v (.bool false), .z true, .v (.bool false), .z true], none⟩,
 ⟨none, .store 4 (.t 5) (.t 10), none⟩] []) <|
 .keep [1, 5] [[5]]) <|
 .seq (.seq (.reg [⟨some 11, .mov (.t 1), none⟩,
 ⟨some 12, .call n_gantryref05_Number [(.t 11), (.c (.v (.int .i64 0)))] false, none⟩,
 ⟨some 6, .new [.v (.bool false), .z true, .v (.bool false), .z true], none⟩,
 ⟨none, .store 4 (.t 6) (.t 12), none⟩] []) <|
 .keep [5, 6] [[5], [6]]) <|
 .seq (.seq (.reg [⟨some 13, .load (some 4) (.t 5), none⟩,
 ⟨some 14, .load (some 4) (.t 6), none⟩,
 ⟨some 15, .call n_rat_Add [(.t 13), (.t 14)] false, none⟩,
 ⟨some 16, .load (some 4) (.t 5), none⟩,
 ⟨some 17, .load (some 4) (.t 6), none⟩,
 ⟨some 18, .call n_gantryref05_Add [(.t 16), (.t 17)] false, none⟩,
 ⟨some 19, .call n_gantrylaw05_same [(.t 15), (.t 18)] false, none⟩,
 ⟨some 20, .mov (.t 19), none⟩,
 ⟨some 21, .load (some 4) (.t 5), (some (20, true))⟩,
 ⟨some 22, .load (some 4) (.t 6), (some (20, true))⟩,
 ⟨some 23, .call n_rat_Sub [(.t 21), (.t 22)] false, (some (20, true))⟩,
 ⟨some 24, .load (some 4) (.t 5), (some (20, true))⟩,
 ⟨some 25, .load (some 4) (.t 6), (some (20, true))⟩,
 ⟨some 26, .call n_gantryref05_Sub [(.t 24), (.t 25)] false, (some (20, true))⟩,
 ⟨some 27, .call n_gantrylaw05_same [(.t 23), (.t 26)] false, (some (20, true))⟩,
 ⟨some 28, .pick (.t 20) (.t 27) (.c (.v (.bool false))), none⟩,
 ⟨some 29, .mov (.t 28), none⟩,
 ⟨some 30, .load (some 4) (.t 5), (some (29, true))⟩,
 ⟨some 31, .load (some 4) (.t 6), (some (29, true))⟩,
 ⟨some 32, .call n_rat_Mul [(.t 30), (.t 31)] false, (some (29, true))⟩,
 ⟨some 33, .load (some 4) (.t 5), (some (29, true))⟩,
 ⟨some 34, .load (some 4) (.t 6), (some (29, true))⟩,
 ⟨some 35, .call n_gantryref05_Mul [(.t 33), (.t 34)] false, (some (29, true))⟩,
 ⟨some 36, .call n_gantrylaw05_same [(.t 32), (.t 35)] false, (some (29, true))⟩,
 ⟨some 37, .pick (.t 29) (.t 36) (.c (.v (.bool false))), none⟩,
 ⟨some 38, .mov (.t 37), none⟩,
 ⟨some 39, .load (some 4) (.t 5), (some (38, true))⟩,
 ⟨some 40, .load (some 4) (.t 6), (some (38, true))⟩,
 ⟨some 41, .call n_rat_Div [(.t 39), (.t 40)] false, (some (38, true))⟩,
 ⟨some 42, .load (some 4) (.t 5), (some (38, true))⟩,
 ⟨some 43, .load (some 4) (.t 6), (some (38, true))⟩,
 ⟨some 44, .call n_gantryref05_Div [(.t 42), (.t 43)] false, (some (38, true))⟩,
 ⟨some 45, .call n_gantrylaw05_same [(.t 41), (.t 44)] false, (some (38, true))⟩,
 ⟨some 46, .pick (.t 38) (.t 45) (.c (.v (.bool false))), none⟩,
 ⟨some 47, .mov (.t 46), none⟩,
 ⟨some 48, .load (some 4) (.t 5), (some (47, true))⟩,
 ⟨some 49, .call n_rat_Neg [(.t 48)] false, (some (47, true))⟩,
 ⟨some 50, .load (some 4) (.t 5), (some (47, true))⟩,
 ⟨some 51, .call n_gantryref05_Neg [(.t 50)] false, (some (47, true))⟩,
 ⟨some 52, .call n_gantrylaw05_same [(.t 49), (.t 51)] false, (some (47, true))⟩,
 ⟨some 53, .pick (.t 47) (.t 52) (.c (.v (.bool false))), none⟩,
 ⟨some 7, .mov (.t 53), none⟩] []) <|
 .keep [5, 6, 7] [[5], [6]]) <|
 .seq (.seq (.reg [⟨some 54, .load (some 4) (.t 5), none⟩,
 ⟨some 55, .load (some 4) (.t 6), none⟩,
 ⟨some 56, .call n_rat_Compare [(.t 54), (.t 55)] false, none⟩,
 ⟨some 57, .load (some 4) (.t 5), none⟩,
 ⟨some 58, .load (some 4) (.t 6), none⟩,
 ⟨some 59, .call n_gantryref05_Compare [(.t 57), (.t 58)] false, none⟩,
 ⟨some 60, .bin .eql (.t 56) (.t 59), none⟩,
 ⟨some 61, .mov (.t 60), none⟩,
 ⟨some 62, .load (some 4) (.t 5), (some (61, true))⟩,
 ⟨some 63, .call n_rat_Sign [(.t 62)] false, (some (61, true))⟩,
 ⟨some 64, .load (some 4) (.t 5), (some (61, true))⟩,
 ⟨some 65, .call n_gantryref05_Sign [(.t 64)] false, (some (61, true))⟩,
 ⟨some 66, .bin .eql (.t 63) (.t 65), (some (61, true))⟩,
 ⟨some 67, .pick (.t 61) (.t 66) (.c (.v (.bool false))), none⟩,
 ⟨some 68, .mov (.t 67), none⟩,
 ⟨some 69, .load (some 4) (.t 5), (some (68, true))⟩,
 ⟨some 70, .load (some 4) (.t 6), (some (68, true))⟩,
 ⟨some 71, .call n_rat_Same [(.t 69), (.t 70)] false, (some (68, true))⟩,
 ⟨some 72, .load (some 4) (.t 5), (some (68, true))⟩,
 ⟨some 73, .load (some 4) (.t 6), (some (68, true))⟩,
 ⟨some 74, .call n_gantryref05_Same [(.t 72), (.t 73)] false, (some (68, true))⟩,
 ⟨some 75, .binb false (.t 71) (.t 74), (some (68, true))⟩,
 ⟨some 76, .pick (.t 68) (.t 75) (.c (.v (.bool false))), none⟩,
 ⟨some 77, .mov (.t 76), none⟩,
 ⟨some 78, .load (some 4) (.t 5), (some (77, true))⟩,
 ⟨some 79, .load (some 4) (.t 5), (some (77, true))⟩,
 ⟨some 80, .call n_rat_Same [(.t 78), (.t 79)] false, (some (77, true))⟩,
 ⟨some 81, .pick (.t 77) (.t 80) (.c (.v (.bool false))), none⟩,
 ⟨some 8, .mov (.t 81), none⟩] []) <|
 .keep [7, 8] []) <|
 .seq (.seq (.reg [⟨some 82, .mov (.t 7), none⟩,
 ⟨some 83, .mov (.t 82), none⟩,
 ⟨some 84, .mov (.t 8), (some (83, true))⟩,
 ⟨some 85, .pick (.t 83) (.t 84) (.c (.v (.bool false))), none⟩,
 ⟨some 86, .mov (.t 85), none⟩,
 ⟨some 87, .call n_gantrylaw05_lives [] false, (some (86, true))⟩,
 ⟨some 88, .pick (.t 86) (.t 87) (.c (.v (.bool false))), none⟩,
 ⟨some 4, .mov (.t 88), none⟩] []) <|
 .keep [4] []) <|
 .ret, [.t 4]⟩

def gantrylaw05_RatOrder : CF := ⟨3, .seq (.seq (.reg [⟨some 6, .mov (.c (.v (.bool false))), none⟩] []) <|
 .keep [0, 1, 2] []) <|
 .seq (.seq (.reg [⟨some 16, .mov (.t 0), none⟩,
 ⟨some 17, .call n_gantryref05_Number [(.t 16), (.c (.v (.int .i64 0)))] false, none⟩,
 ⟨some 7, .new [.v (.bool false), .z true, .v (.bool false), .z true], none⟩,
 ⟨none, .store 4 (.t 7) (.t 17), none⟩] []) <|
 .keep [1, 2, 7] [[7]]) <|
 .seq (.seq (.reg [⟨some 18, .mov (.t 1), none⟩,
 ⟨some 19, .call n_gantryref05_Number [(.t 18), (.c (.v (.int .i64 0)))] false, none⟩,
 ⟨some 8, .new [.v (.bool false), .z true, .v (.bool false), .z true], none⟩,
 ⟨none, .store 4 (.t 8) (.t 19), none⟩] []) <|
 .keep [2, 7, 8] [[7], [8]]) <|
 .seq (.seq (.reg [⟨some 20, .mov (.t 2), none⟩,
 ⟨some 21, .call n_gantryref05_Number [(.t 20), (.c (.v (.int .i64 0)))] false, none⟩,
 ⟨some 9, .new [.v (.bool false), .z true, .v (.bool false), .z true], none⟩,
 ⟨none, .store 4 (.t 9) (.t 21), none⟩] []) <|
 .keep [7, 8, 9] [[7], [8], [9]]) <|
 .seq (.seq (.reg [⟨some 22, .load (some 4) (.t 7), none⟩,
 ⟨some 23, .load (some 4) (.t 8), none⟩,
 ⟨some 24, .call n_rat_Compare [(.t 22), (.t 23)] false, none⟩,
 ⟨some 10, .mov (.t 24), none⟩] []) <|
 .keep [7, 8, 9, 10] [[7], [8], [9]]) <|
 .seq (.seq (.seq (.reg [⟨some 25, .mov (.t 10), none⟩,
 ⟨some 26, .load (some 4) (.t 7), none⟩,
 ⟨some 27, .load (some 4) (.t 8), none⟩,
 ⟨some 28, .call n_rat_Sub [(.t 26), (.t 27)] false, none⟩,
 ⟨some 29, .call n_rat_Sign [(.t 28)] false, none⟩,
 ⟨some 30, .bin .neq (.t 25) (.t 29), none⟩,
 ⟨some 31, .mov (.t 30), none⟩,
 ⟨some 32, .mov (.t 10), (some (31, false))⟩,
 ⟨some 33, .load (some 4) (.t 7), (some (31, false))⟩,
 ⟨some 34, .load (some 4) (.t 9), (some (31, false))⟩,
 ⟨some 35, .call n_rat_Add [(.t 33), (.t 34)] false, (some (31, false))⟩,
 ⟨some 36, .load (some 4) (.t 8), (some (31, false))⟩,
 ⟨some 37, .load (some 4) (.t 9), (some (31, false))⟩,
 ⟨some 38, .call n_rat_Add [(.t 36), (.t 37)] false, (some (31, false))⟩,
 ⟨some 39, .call n_rat_Compare [(.t 35), (.t 38)] false, (some (31, false))⟩,
 ⟨some 40, .bin .neq (.t 32) (.t 39), (some (31, false))⟩,
 ⟨some 41, .pick (.t 31) (.c (.v (.bool true))) (.t 40), none⟩,
 ⟨some 42, .mov (.t 41), none⟩,
 ⟨some 43, .mov (.t 10), (some (42, false))⟩,
 ⟨some 44, .load (some 4) (.t 8), (some (42, false))⟩,
 ⟨some 45, .load (some 4) (.t 7), (some (42, false))⟩,
 ⟨some 46, .call n_rat_Compare [(.t 44), (.t 45)] false, (some (42, false))⟩,
 ⟨some 47, .un .neg (.t 46), (some (42, false))⟩,
 ⟨some 48, .bin .neq (.t 43) (.t 47), (some (42, false))⟩,
 ⟨some 49, .pick (.t 42) (.c (.v (.bool true))) (.t 48), none⟩,
 ⟨some 50, .mov (.t 49), none⟩,
 ⟨some 51, .load (some 4) (.t 7), (some (50, false))⟩,
 ⟨some 52, .load (some 4) (.t 8), (some (50, false))⟩,
 ⟨some 53, .call n_rat_Same [(.t 51), (.t 52)] false, (some (50, false))⟩,
 ⟨some 54, .mov (.t 10), (some (50, false))⟩,
 ⟨some 55, .bin .eql (.t 54) (.c (.v (.int .i64 0))), (some (50, false))⟩,
 ⟨some 56, .binb true (.t 53) (.t 55), (some (50, false))⟩,
 ⟨some 57, .pick (.t 50) (.c (.v (.bool true))) (.t 56), none⟩] []) <|
 .keep [7, 8, 9, 10, 57] [[7], [8], [9]]) <|
 .cond (.t 57) (.seq (.seq (.reg [⟨some 6, .mov (.c (.v (.bool false))), none⟩] []) <|
 .keep [6] []) <|
 .ret) <|
 .skip) <|
 .seq (.seq (.seq (.reg [⟨some 58, .load (some 4) (.t 9), none⟩,
 ⟨some 59, .call n_rat_Sign [(.t 58)] false, none⟩,
 ⟨some 60, .bin .gtr (.t 59) (.c (.v (.int .i64 0))), none⟩,
 ⟨some 61, .mov (.t 60), none⟩,
 ⟨some 62, .mov (.t 10), (some (61, true))⟩,
 ⟨some 63, .load (some 4) (.t 7), (some (61, true))⟩,
 ⟨some 64, .load (some 4) (.t 9), (some (61, true))⟩,
 ⟨some 65, .call n_rat_Mul [(.t 63), (.t 64)] false, (some (61, true))⟩,
 ⟨some 66, .load (some 4) (.t 8), (some (61, true))⟩,
 ⟨some 67, .load (some 4) (.t 9), (some (61, true))⟩,
 ⟨some 68, .call n_rat_Mul [(.t 66), (.t 67)] false, (some (61, true))⟩,
 ⟨some 69, .call n_rat_Compare [(.t 65), (.t 68)] false, (some (61, true))⟩,
 ⟨some 70, .bin .neq (.t 62) (.t 69), (some (61, true))⟩,
 ⟨some 71, .pick (.t 61) (.t 70) (.c (.v (.bool false))), none⟩,
 ⟨some 72, .mov (.t 71), none⟩,
 ⟨some 73, .load (some 4) (.t 9), (some (72, false))⟩,
 ⟨some 74, .call n_rat_Sign [(.t 73)] false, (some (72, false))⟩,
 ⟨some 75, .bin .lss (.t 74) (.c (.v (.int .i64 0))), (some (72, false))⟩,
 ⟨some 76, .mov (.t 75), (some (72, false))⟩,
 ⟨some 77, .mov (.t 10), (some (76, true))⟩,
 ⟨some 78, .load (some 4) (.t 7), (some (76, true))⟩,
 ⟨some 79, .load (some 4) (.t 9), (some (76, true))⟩,
 ⟨some 80, .call n_rat_Mul [(.t 78), (.t 79)] false, (some (76, true))⟩,
 ⟨some 81, .load (some 4) (.t 8), (some (76, true))⟩,
 ⟨some 82, .load (some 4) (.t 9), (some (76, true))⟩,
 ⟨some 83, .call n_rat_Mul [(.t 81), (.t 82)] false, (some (76, true))⟩,
 ⟨some 84, .call n_rat_Compare [(.t 80), (.t 83)] false, (some (76, true))⟩,
 ⟨some 85, .un .neg (.t 84), (some (76, true))⟩,
 ⟨some 86, .bin .neq (.t 77) (.t 85), (some (76, true))⟩,
 ⟨some 87, .pick (.t 76) (.t 86) (.c (.v (.bool false))), (some (72, false))⟩,
 ⟨some 88, .pick (.t 72) (.c (.v (.bool true))) (.t 87), none⟩] []) <|
 .keep [7, 88] [[7]]) <|
 .cond (.t 88) (.seq (.seq (.reg [⟨some 6, .mov (.c (.v (.bool false))), none⟩] []) <|
 .keep [6] []) <|
 .ret) <|
 .skip) <|
 .seq (.seq (.reg [⟨some 89, .load (some 4) (.t 7), none⟩,
 ⟨some 90, .call n_rat_Floor [(.t 89)] false, none⟩,
 ⟨some 11, .new [.v (.bool false), .z true], none⟩,
 ⟨none, .store 2 (.t 11) (.t 90), none⟩] []) <|
 .keep [7, 11] [[7], [11]]) <|
 .seq (.seq (.reg [⟨some 91, .load (some 4) (.t 7), none⟩,
 ⟨some 92, .call n_rat_Ceil [(.t 91)] false, none⟩,
 ⟨some 12, .new [.v (.bool false), .z true], none⟩,
 ⟨none, .store 2 (.t 12) (.t 92), none⟩] []) <|
 .keep [7, 11, 12] [[7], [11], [12]]) <|
 .seq (.seq (.reg [⟨some 94, .load (some 2) (.t 12), none⟩,
 ⟨some 95, .load (some 2) (.t 11), none⟩,
 ⟨some 96, .call n_integer_Sub [(.t 94), (.t 95)] false, none⟩,
 ⟨some 97, .call n_integer_Small [(.t 96)] false, none⟩,
 ⟨some 93, .mov (.t 97), none⟩,
 ⟨some 98, .ext (.t 93) 0, none⟩,
 ⟨some 99, .ext (.t 93) 1, none⟩,
 ⟨some 13, .mov (.t 98), none⟩,
 ⟨some 14, .mov (.t 99), none⟩] []) <|
 .keep [7, 11, 12, 13, 14] [[7], [11], [12]]) <|
 .seq (.seq (.reg [⟨some 100, .load (some 2) (.t 11), none⟩,
 ⟨some 101, .call n_integer_Of [(.c (.v (.int .i64 1)))] false, none⟩,
 ⟨some 102, .call n_rat_Make [(.t 100), (.t 101)] false, none⟩,
 ⟨some 103, .load (some 4) (.t 7), none⟩,
 ⟨some 104, .call n_rat_Compare [(.t 102), (.t 103)] false, none⟩,
 ⟨some 105, .bin .eql (.t 104) (.c (.v (.int .i64 0))), none⟩,
 ⟨some 15, .mov (.t 105), none⟩] []) <|
 .keep [7, 11, 12, 13, 14, 15] [[7], [11], [12]]) <|
 .seq (.seq (.reg [⟨some 106, .mov (.t 14), none⟩,
 ⟨some 107, .mov (.t 106), none⟩,
 ⟨some 108, .mov (.t 13), (some (107, true))⟩,
 ⟨some 109, .bin .eql (.t 108) (.c (.v (.int .i64 0))), (some (107, true))⟩,
 ⟨some 110, .mov (.t 15), (some (107, true))⟩,
 ⟨some 111, .binb false (.t 109) (.t 110), (some (107, true))⟩,
 ⟨some 112, .pick (.t 107) (.t 111) (.c (.v (.bool false))), none⟩,
 ⟨some 113, .mov (.t 112), none⟩,
 ⟨some 114, .mov (.t 13), (some (113, true))⟩,
 ⟨some 115, .bin .geq (.t 114) (.c (.v (.int .i64 0))), (some (113, true))⟩,
 ⟨some 116, .pick (.t 113) (.t 115) (.c (.v (.bool false))), none⟩,
 ⟨some 117, .mov (.t 116), none⟩,
 ⟨some 118, .mov (.t 13), (some (117, true))⟩,
 ⟨some 119, .bin .leq (.t 118) (.c (.v (.int .i64 1))), (some (117, true))⟩,
 ⟨some 120, .pick (.t 117) (.t 119) (.c (.v (.bool false))), none⟩,
 ⟨some 121, .mov (.t 120), none⟩,
 ⟨some 122, .load (some 2) (.t 11), (some (121, true))⟩,
 ⟨some 123, .call n_integer_Of [(.c (.v (.int .i64 1)))] false, (some (121, true))⟩,
 ⟨some 124, .call n_rat_Make [(.t 122), (.t 123)] false, (some (121, true))⟩,
 ⟨some 125, .load (some 4) (.t 7), (some (121, true))⟩,
 ⟨some 126, .call n_rat_Compare [(.t 124), (.t 125)] false, (some (121, true))⟩,
 ⟨some 127, .bin .leq (.t 126) (.c (.v (.int .i64 0))), (some (121, true))⟩,
 ⟨some 128, .pick (.t 121) (.t 127) (.c (.v (.bool false))), none⟩,
 ⟨some 129, .mov (.t 128), none⟩,
 ⟨some 130, .load (some 2) (.t 12), (some (129, true))⟩,
 ⟨some 131, .call n_integer_Of [(.c (.v (.int .i64 1)))] false, (some (129, true))⟩,
 ⟨some 132, .call n_rat_Make [(.t 130), (.t 131)] false, (some (129, true))⟩,
 ⟨some 133, .load (some 4) (.t 7), (some (129, true))⟩,
 ⟨some 134, .call n_rat_Compare [(.t 132), (.t 133)] false, (some (129, true))⟩,
 ⟨some 135, .bin .geq (.t 134) (.c (.v (.int .i64 0))), (some (129, true))⟩,
 ⟨some 136, .pick (.t 129) (.t 135) (.c (.v (.bool false))), none⟩,
 ⟨some 137, .mov (.t 136), none⟩,
 ⟨some 138, .call n_gantrylaw05_lives [] false, (some (137, true))⟩,
 ⟨some 139, .pick (.t 137) (.t 138) (.c (.v (.bool false))), none⟩,
 ⟨some 6, .mov (.t 139), none⟩] []) <|
 .keep [6] []) <|
 .ret, [.t 6]⟩

def gantryref05_Number : CF := ⟨2, .seq (.seq (.reg [⟨some 4, .new [.v (.bool false), .z true, .v (.bool false), .z true], none⟩] []) <|
 .keep [0, 1, 4] [[4]]) <|
 .seq (.seq (.reg [⟨some 7, .mov (.t 0), none⟩,
 ⟨some 8, .mov (.t 1), none⟩,
 ⟨some 9, .call n_gantryref01_At [(.t 7), (.t 8), (.c (.v (.int .i64 8)))] false, none⟩,
 ⟨some 5, .mov (.t 9), none⟩] []) <|
 .keep [0, 1, 4, 5] [[4]]) <|
 .seq (.seq (.seq (.reg [⟨some 10, .mov (.t 5), none⟩,
 ⟨some 11, .bin .eql (.t 10) (.c (.v (.int .i64 7))), none⟩] []) <|
 .keep [0, 1, 4, 5, 11] [[4]]) <|
 .cond (.t 11) (.seq (.seq (.reg [⟨some 12, .mov (.t 0), none⟩,
 ⟨some 13, .mov (.t 1), none⟩,
 ⟨some 14, .bin .add (.t 13) (.c (.v (.int .i64 1))), none⟩,
 ⟨some 15, .call n_gantryref04_Number [(.t 12), (.t 14)] false, none⟩,
 ⟨some 16, .mov (.t 0), none⟩,
 ⟨some 17, .mov (.t 1), none⟩,
 ⟨some 18, .bin .add (.t 17) (.c (.v (.int .i64 9))), none⟩,
 ⟨some 19, .call n_gantryref04_Number [(.t 16), (.t 18)] false, none⟩,
 ⟨some 20, .call n_gantryref05_Make [(.t 15), (.t 19)] false, none⟩,
 ⟨none, .store 4 (.t 4) (.t 20), none⟩] []) <|
 .keep [4] [[4]]) <|
 .ret) <|
 .skip) <|
 .seq (.seq (.reg [⟨some 21, .mov (.t 0), none⟩,
 ⟨some 22, .mov (.t 1), none⟩,
 ⟨some 23, .bin .add (.t 22) (.c (.v (.int .i64 1))), none⟩,
 ⟨some 24, .call n_gantryref01_At [(.t 21), (.t 23), (.c (.v (.int .i64 61)))] false, none⟩,
 ⟨some 25, .bin .sub (.t 24) (.c (.v (.int .i64 30))), none⟩,
 ⟨some 6, .mov (.t 25), none⟩] []) <|
 .keep [0, 1, 4, 5, 6] [[4]]) <|
 .seq (.seq (.seq (.reg [⟨some 26, .mov (.t 5), none⟩,
 ⟨some 27, .bin .lss (.t 26) (.c (.v (.int .i64 2))), none⟩] []) <|
 .keep [0, 1, 4, 5, 6, 27] [[4]]) <|
 .cond (.t 27) (.seq (.seq (.reg [⟨some 28, .mov (.t 6), none⟩,
 ⟨some 29, .call n_gantryref05_Of [(.t 28), (.c (.v (.int .i64 1)))] false, none⟩,
 ⟨none, .store 4 (.t 4) (.t 29), none⟩] []) <|
 .keep [4] [[4]]) <|
 .ret) <|
 .skip) <|
 .seq (.seq (.seq (.reg [⟨some 30, .mov (.t 5), none⟩,
 ⟨some 31, .bin .lss (.t 30) (.c (.v (.int .i64 4))), none⟩] []) <|
 .keep [0, 1, 4, 6, 31] [[4]]) <|
 .cond (.t 31) (.seq (.seq (.reg [⟨some 32, .mov (.t 6), none⟩,
 ⟨some 33, .mov (.t 0), none⟩,
 ⟨some 34, .mov (.t 1), none⟩,
 ⟨some 35, .bin .add (.t 34) (.c (.v (.int .i64 2))), none⟩,
 ⟨some 36, .call n_gantryref01_At [(.t 33), (.t 35), (.c (.v (.int .i64 9)))] false, none⟩,
 ⟨some 37, .bin .add (.c (.v (.int .i64 1))) (.t 36), none⟩,
 ⟨some 38, .call n_gantryref05_Of [(.t 32), (.t 37)] false, none⟩,
 ⟨none, .store 4 (.t 4) (.t 38), none⟩] []) <|
 .keep [4] [[4]]) <|
 .ret) <|
 .skip) <|
 .seq (.seq (.reg [⟨some 39, .mov (.t 0), none⟩,
 ⟨some 40, .mov (.t 1), none⟩,
 ⟨some 41, .bin .add (.t 40) (.c (.v (.int .i64 1))), none⟩,
 ⟨some 42, .call n_gantryref01_At [(.t 39), (.t 41), (.c (.v (.int .i64 20001)))] false, none⟩,
 ⟨some 43, .bin .sub (.t 42) (.c (.v (.int .i64 10000))), none⟩,
 ⟨some 44, .mov (.t 0), none⟩,
 ⟨some 45, .mov (.t 1), none⟩,
 ⟨some 46, .bin .add (.t 45) (.c (.v (.int .i64 2))), none⟩,
 ⟨some 47, .call n_gantryref01_At [(.t 44), (.t 46), (.c (.v (.int .i64 1000)))] false, none⟩,
 ⟨some 48, .bin .add (.c (.v (.int .i64 1))) (.t 47), none⟩,
 ⟨some 49, .call n_gantryref05_Of [(.t 43), (.t 48)] false, none⟩,
 ⟨none, .store 4 (.t 4) (.t 49), none⟩] []) <|
 .keep [4] [[4]]) <|
 .ret, [.cell 4 (some 4)]⟩

def rat_Whole : CF := ⟨1, .seq (.seq (.reg [⟨some 1, .box (.t 0), none⟩,
 ⟨some 2, .mov (.c (.v (.int .i64 0))), none⟩,
 ⟨some 3, .mov (.c (.v (.bool false))), none⟩] []) <|
 .keep [1] [[1]]) <|
 .seq (.seq (.seq (.reg [⟨some 4, .fad 2 (.t 1), none⟩,
 ⟨some 5, .fad 1 (.t 4), none⟩,
 ⟨some 6, .load none (.t 5), none⟩,
 ⟨some 7, .len (.t 6), none⟩,
 ⟨some 8, .bin .gtr (.t 7) (.c (.v (.int .i64 0))), none⟩] []) <|
 .keep [1, 8] [[1]]) <|
 .cond (.t 8) (.seq (.seq (.reg [⟨some 2, .mov (.c (.v (.int .i64 0))), none⟩,
 ⟨some 3, .mov (.c (.v (.bool false))), none⟩] []) <|
 .keep [2, 3] []) <|
 .ret) <|
 .skip) <|
 .seq (.seq (.reg [⟨some 9, .fad 0 (.t 1), none⟩,
 ⟨some 10, .load (some 2) (.t 9), none⟩,
 ⟨some 11, .call n_integer_Small [(.t 10)] false, none⟩,
 ⟨some 12, .ext (.t 11) 0, none⟩,
 ⟨some 13, .ext (.t 11) 1, none⟩,
 ⟨some 2, .mov (.t 12), none⟩,
 ⟨some 3, .mov (.t 13), none⟩] []) <|
 .keep [2, 3] []) <|
 .ret, [.t 2, .t 3]⟩

def gantryref05_Whole : CF := ⟨1, .seq (.seq (.reg [⟨some 1, .box (.t 0), none⟩,
 ⟨some 2, .mov (.c (.v (.int .i64 0))), none⟩,
 ⟨some 3, .mov (.c (.v (.bool false))), none⟩] []) <|
 .keep [1] [[1]]) <|
 .seq (.seq (.seq (.reg [⟨some 4, .fad 2 (.t 1), none⟩,
 ⟨some 5, .fad 1 (.t 4), none⟩,
 ⟨some 6, .load none (.t 5), none⟩,
 ⟨some 7, .len (.t 6), none⟩,
 ⟨some 8, .bin .gtr (.t 7) (.c (.v (.int .i64 0))), none⟩] []) <|
 .keep [1, 8] [[1]]) <|
 .cond (.t 8) (.seq (.seq (.reg [⟨some 2, .mov (.c (.v (.int .i64 0))), none⟩,
 ⟨some 3, .mov (.c (.v (.bool false))), none⟩] []) <|
 .keep [2, 3] []) <|
 .ret) <|
 .skip) <|
 .seq (.seq (.reg [⟨some 9, .fad 0 (.t 1), none⟩,
 ⟨some 10, .load (some 2) (.t 9), none⟩,
 ⟨some 11, .call n_gantryref04_Small [(.t 10)] false, none⟩,
 ⟨some 12, .ext (.t 11) 0, none⟩,
 ⟨some 13, .ext (.t 11) 1, none⟩,
 ⟨some 2, .mov (.t 12), none⟩,
 ⟨some 3, .mov (.t 13), none⟩] []) <|
 .keep [2, 3] []) <|
 .ret, [.t 2, .t 3]⟩

def gantryref01_Around : CF := ⟨2, .seq (.seq (.reg [⟨some 4, .mov (.c (.v (.int .i64 0))), none⟩] []) <|
 .keep [0, 1] []) <|
 .seq (.seq (.seq (.reg [⟨some 5, .mov (.t 0), none⟩,
 ⟨some 6, .bin .lss (.t 5) (.c (.v (.int .i64 0))), none⟩] []) <|
 .keep [0, 1, 6] []) <|
 .cond (.t 6) (.seq (.reg [⟨some 7, .mov (.t 0), none⟩,
 ⟨some 8, .bin .add (.t 7) (.c (.v (.int .i64 1))), none⟩,
 ⟨some 9, .un .neg (.t 8), none⟩,
 ⟨some 0, .mov (.t 9), none⟩] []) <|
 .keep [0, 1] []) <|
 .skip) <|
 .seq (.seq (.reg [⟨some 10, .mov (.t 0), none⟩,
 ⟨some 11, .mov (.t 1), none⟩,
 ⟨some 12, .bin .rem (.t 10) (.t 11), none⟩,
 ⟨some 4, .mov (.t 12), none⟩] []) <|
 .keep [4] []) <|
 .ret, [.t 4]⟩

def gantryref04_Same_l0 : C :=
 .seq (.seq (.seq (.seq (.reg [⟨some 20, .mov (.t 5), none⟩,
 ⟨some 21, .fad 1 (.t 2), none⟩,
 ⟨some 22, .load none (.t 21), none⟩,
 ⟨some 23, .len (.t 22), none⟩,
 ⟨some 24, .bin .lss (.t 20) (.t 23), none⟩] []) <|
 .keep [2, 3, 5, 24] [[2], [3]]) <|
 .cond (.t 24) (.skip) <|
 .seq (.keep [] []) <|
 .exit 0) <|
 .seq (.seq (.blk 1 <|
 .seq (.seq (.reg [⟨some 27, .fad 1 (.t 2), none⟩,
 ⟨some 28, .load none (.t 27), none⟩,
 ⟨some 29, .mov (.t 5), none⟩,
 ⟨some 30, .ixa 1 (.t 28) (.t 29), none⟩,
 ⟨some 31, .load none (.t 30), none⟩,
 ⟨some 32, .fad 1 (.t 3), none⟩,
 ⟨some 33, .load none (.t 32), none⟩,
 ⟨some 34, .mov (.t 5), none⟩,
 ⟨some 35, .ixa 1 (.t 33) (.t 34), none⟩,
 ⟨some 36, .load none (.t 35), none⟩,
 ⟨some 37, .bin .neq (.t 31) (.t 36), none⟩] []) <|
 .keep [2, 3, 5, 37] [[2], [3]]) <|
 .cond (.t 37) (.seq (.seq (.reg [⟨some 4, .mov (.c (.v (.bool false))), none⟩] []) <|
 .keep [4] []) <|
 .ret) <|
 .skip) <|
 .keep [2, 3, 5] [[2], [3]]) <|
 .seq (.reg [⟨some 25, .mov (.t 5), none⟩,
 ⟨some 26, .bin .add (.t 25) (.c (.v (.int .i64 1))), none⟩,
 ⟨some 5, .mov (.t 26), none⟩] []) <|
 .keep [2, 3, 5] [[2], [3]]) <|
 .keep [2, 3, 5] [[2], [3]]
def gantryref04_Same : CF := ⟨2, .seq (.seq (.reg [⟨some 2, .box (.t 0), none⟩,
 ⟨some 3, .box (.t 1), none⟩,
 ⟨some 4, .mov (.c (.v (.bool false))), none⟩] []) <|
 .keep [2, 3] [[2], [3]]) <|
 .seq (.seq (.seq (.reg [⟨some 6, .fad 0 (.t 2), none⟩,
 ⟨some 7, .load none (.t 6), none⟩,
 ⟨some 8, .fad 0 (.t 3), none⟩,
 ⟨some 9, .load none (.t 8), none⟩,
 ⟨some 10, .binb true (.t 7) (.t 9), none⟩,
 ⟨some 11, .mov (.t 10), none⟩,
 ⟨some 12, .fad 1 (.t 2), (some (11, false))⟩,
 ⟨some 13, .load none (.t 12), (some (11, false))⟩,
 ⟨some 14, .len (.t 13), (some (11, false))⟩,
 ⟨some 15, .fad 1 (.t 3), (some (11, false))⟩,
 ⟨some 16, .load none (.t 15), (some (11, false))⟩,
 ⟨some 17, .len (.t 16), (some (11, false))⟩,
 ⟨some 18, .bin .neq (.t 14) (.t 17), (some (11, false))⟩,
 ⟨some 19, .pick (.t 11) (.c (.v (.bool true))) (.t 18), none⟩] []) <|
 .keep [2, 3, 19] [[2], [3]]) <|
 .cond (.t 19) (.seq (.seq (.reg [⟨some 4, .mov (.c (.v (.bool false))), none⟩] []) <|
 .keep [4] []) <|
 .ret) <|
 .skip) <|
 .seq (.seq (.seq (.reg [⟨some 5, .mov (.c (.v (.int .i64 0))), none⟩] []) <|
 .keep [2, 3, 5] [[2], [3]]) <|
 .seq (.blk 0 <|
 .seq (.keep [2, 3, 5] [[2], [3]]) <|
 .loop gantryref04_Same_l0) <|
 .keep [] []) <|
 .seq (.seq (.reg [⟨some 4, .mov (.c (.v (.bool true))), none⟩] []) <|
 .keep [4] []) <|
 .ret, [.t 4]⟩

def rat_Floor : CF := ⟨1, .seq (.seq (.reg [⟨some 1, .box (.t 0), none⟩,
 ⟨some 2, .new [.v (.bool false), .z true], none⟩] []) <|
 .keep [1, 2] [[1], [2]]) <|
 .seq (.seq (.reg [⟨some 6, .fad 0 (.t 1), none⟩,
 ⟨some 7, .load (some 2) (.t 6), none⟩,
 ⟨some 8, .load (some 4) (.t 1), none⟩,
 ⟨some 9, .call n_rat_Den [(.t 8)] false, none⟩,
 ⟨some 10, .call n_integer_Div [(.t 7), (.t 9)] false, none⟩,
 ⟨some 5, .mov (.t 10), none⟩,
 ⟨some 11, .ext (.t 5) 0, none⟩,
 ⟨some 12, .ext (.t 5) 1, none⟩,
 ⟨some 3, .new [.v (.bool false), .z true], none⟩,
 ⟨some 4, .new [.v (.bool false), .z true], none⟩,
 ⟨none, .store 2 (.t 3) (.t 11), none⟩,
 ⟨none, .store 2 (.t 4) (.t 12), none⟩] []) <|
 .keep [2, 3] [[2], [3]]) <|
 .seq (.seq (.reg [⟨some 13, .load (some 2) (.t 3), none⟩,
 ⟨none, .store 2 (.t 2) (.t 13), none⟩] []) <|
 .keep [2] [[2]]) <|
 .ret, [.cell 2 (some 2)]⟩

def gantryref05_Floor : CF := ⟨1, .seq (.seq (.reg [⟨some 1, .box (.t 0), none⟩,
 ⟨some 2, .new [.v (.bool false), .z true], none⟩] []) <|
 .keep [1, 2] [[1], [2]]) <|
 .seq (.seq (.reg [⟨some 6, .fad 0 (.t 1), none⟩,
 ⟨some 7, .load (some 2) (.t 6), none⟩,
 ⟨some 8, .load (some 4) (.t 1), none⟩,
 ⟨some 9, .call n_gantryref05_Den [(.t 8)] false, none⟩,
 ⟨some 10, .call n_gantryref04_Div [(.t 7), (.t 9)] false, none⟩,
 ⟨some 5, .mov (.t 10), none⟩,
 ⟨some 11, .ext (.t 5) 0, none⟩,
 ⟨some 12, .ext (.t 5) 1, none⟩,
 ⟨some 3, .new [.v (.bool false), .z true], none⟩,
 ⟨some 4, .new [.v (.bool false), .z true], none⟩,
 ⟨none, .store 2 (.t 3) (.t 11), none⟩,
 ⟨none, .store 2 (.t 4) (.t 12), none⟩] []) <|
 .keep [2, 3] [[2], [3]]) <|
 .seq (.seq (.reg [⟨some 13, .load (some 2) (.t 3), none⟩,
 ⟨none, .store 2 (.t 2) (.t 13), none⟩] []) <|
 .keep [2] [[2]]) <|
 .ret, [.cell 2 (some 2)]⟩

def rat_Ceil : CF := ⟨1, .seq (.seq (.reg [⟨some 1, .box (.t 0), none⟩,
 ⟨some 2, .new [.v (.bool false), .z true], none⟩] []) <|
 .keep [1, 2] [[1], [2]]) <|
 .seq (.seq (.reg [⟨some 3, .load (some 4) (.t 1), none⟩,
 ⟨some 4, .call n_rat_Neg [(.t 3)] false, none⟩,
 ⟨some 5, .call n_rat_Floor [(.t 4)] false, none⟩,
 ⟨some 6, .call n_integer_Neg [(.t 5)] false, none⟩,
 ⟨none, .store 2 (.t 2) (.t 6), none⟩] []) <|
 .keep [2] [[2]]) <|
 .ret, [.cell 2 (some 2)]⟩

def gantryref05_Ceil : CF := ⟨1, .seq (.seq (.reg [⟨some 1, .box (.t 0), none⟩,
 ⟨some 2, .new [.v (.bool false), .z true], none⟩] []) <|
 .keep [1, 2] [[1], [2]]) <|
 .seq (.seq (.reg [⟨some 3, .load (some 4) (.t 1), none⟩,
 ⟨some 4, .call n_gantryref05_Neg [(.t 3)] false, none⟩,
 ⟨some 5, .call n_gantryref05_Floor [(.t 4)] false, none⟩,
 ⟨some 6, .call n_gantryref04_Neg [(.t 5)] false, none⟩,
 ⟨none, .store 2 (.t 2) (.t 6), none⟩] []) <|
 .keep [2] [[2]]) <|
 .ret, [.cell 2 (some 2)]⟩

def gantrylaw05_same : CF := ⟨2, .seq (.seq (.reg [⟨some 2, .box (.t 0), none⟩,
 ⟨some 3, .box (.t 1), none⟩,
 ⟨some 4, .mov (.c (.v (.bool false))), none⟩] []) <|
 .keep [2, 3] [[2], [3]]) <|
 .seq (.seq (.reg [⟨some 5, .load (some 4) (.t 2), none⟩,
 ⟨some 6, .load (some 4) (.t 3), none⟩,
 ⟨some 7, .call n_gantryref05_Same [(.t 5), (.t 6)] false, none⟩,
 ⟨some 4, .mov (.t 7), none⟩] []) <|
 .keep [4] []) <|
 .ret, [.t 4]⟩

def rat_Dot_l0 : C :=
 .seq (.seq (.seq (.reg [⟨some 13, .bin .lss (.t 12) (.t 11), none⟩] []) <|
 .keep [0, 1, 4, 5, 11, 12, 13] [[4], [26]]) <|
 .seq (.cond (.t 13) (.skip) <|
 .seq (.keep [4, 5] [[4], [26]]) <|
 .exit 0) <|
 .seq (.seq (.blk 1 <|
 .seq (.seq (.reg [⟨some 14, .mov (.t 12), none⟩,
 ⟨some 6, .mov (.t 14), none⟩] []) <|
 .keep [0, 1, 4, 5, 6, 11, 12] [[4], [26]]) <|
 .seq (.reg [⟨some 15, .mov (.t 5), none⟩,
 ⟨some 16, .mov (.t 0), none⟩,
 ⟨some 17, .mov (.t 6), none⟩,
 ⟨some 18, .ixa 4 (.t 16) (.t 17), none⟩,
 ⟨some 19, .load (some 4) (.t 18), none⟩,
 ⟨some 20, .mov (.t 1), none⟩,
 ⟨some 21, .mov (.t 6), none⟩,
 ⟨some 22, .ixa 4 (.t 20) (.t 21), none⟩,
 ⟨some 23, .load (some 4) (.t 22), none⟩,
 ⟨some 24, .call n_rat_Mul [(.t 19), (.t 23)] false, none⟩,
 ⟨some 25, .lit 4 1 [.v (.bool false), .z true, .v (.bool false), .z true] [(0, (.t 24))] true, none⟩,
 ⟨some 26, .app 4 64 (.t 15) (.t 25) false, none⟩,
 ⟨some 5, .mov (.t 26), none⟩] []) <|
 .keep [0, 1, 4, 5, 11, 12] [[4], [26]]) <|
 .keep [0, 1, 4, 5, 11, 12] [[4], [26]]) <|
 .seq (.reg [⟨some 27, .bin .add (.t 12) (.c (.v (.int .i64 1))), none⟩,
 ⟨some 12, .mov (.t 27), none⟩] []) <|
 .keep [0, 1, 4, 5, 11, 12] [[4], [26]]) <|
 .keep [0, 1, 4, 5, 11, 12] [[4], [26]]
def rat_Dot : CF := ⟨2, .seq (.seq (.reg [⟨some 4, .new [.v (.bool false), .z true, .v (.bool false), .z true], none⟩] []) <|
 .keep [0, 1, 4] [[4]]) <|
 .seq (.seq (.reg [⟨some 5, .mov (.c (.z true)), none⟩] []) <|
 .keep [0, 1, 4, 5] [[4], [26]]) <|
 .seq (.seq (.seq (.reg [⟨some 7, .mov (.t 0), none⟩,
 ⟨some 8, .len (.t 7), none⟩,
 ⟨some 9, .mov (.t 1), none⟩,
 ⟨some 10, .len (.t 9), none⟩,
 ⟨some 11, .mn [(.t 8), (.t 10)], none⟩,
 ⟨some 12, .mov (.c (.v (.int .i64 0))), none⟩] []) <|
 .keep [0, 1, 4, 5, 11, 12] [[4], [26]]) <|
 .seq (.blk 0 <|
 .seq (.keep [0, 1, 4, 5, 11, 12] [[4], [26]]) <|
 .loop rat_Dot_l0) <|
 .keep [4, 5] [[4], [26]]) <|
 .seq (.seq (.frz 5) <|
 .seq (.reg [⟨some 28, .mov (.t 5), none⟩,
 ⟨some 29, .call n_rat_sum [(.t 28)] false, none⟩,
 ⟨none, .store 4 (.t 4) (.t 29), none⟩] []) <|
 .keep [4] [[4]]) <|
 .ret, [.cell 4 (some 4)]⟩

def gantryref05_Dot_l0 : C :=
 .seq (.seq (.seq (.seq (.reg [⟨some 7, .mov (.t 6), none⟩,
 ⟨some 8, .mov (.t 0), none⟩,
 ⟨some 9, .len (.t 8), none⟩,
 ⟨some 10, .bin .lss (.t 7) (.t 9), none⟩,
 ⟨some 11, .mov (.t 10), none⟩,
 ⟨some 12, .mov (.t 6), (some (11, true))⟩,
 ⟨some 13, .mov (.t 1), (some (11, true))⟩,
 ⟨some 14, .len (.t 13), (some (11, true))⟩,
 ⟨some 15, .bin .lss (.t 12) (.t 14), (some (11, true))⟩,
 ⟨some 16, .pick (.t 11) (.t 15) (.c (.v (.bool false))), none⟩] []) <|
 .keep [0, 1, 4, 5, 6, 16] [[4], [5]]) <|
 .cond (.t 16) (.skip) <|
 .seq (.keep [4, 5] [[4], [5]]) <|
 .exit 0) <|
 .seq (.seq (.blk 1 <|
 .seq (.reg [⟨some 19, .load (some 4) (.t 5), none⟩,
 ⟨some 20, .mov (.t 0), none⟩,
 ⟨some 21, .mov (.t 6), none⟩,
 ⟨some 22, .ixa 4 (.t 20) (.t 21), none⟩,
 ⟨some 23, .load (some 4) (.t 22), none⟩,
 ⟨some 24, .mov (.t 1), none⟩,
 ⟨some 25, .mov (.t 6), none⟩,
 ⟨some 26, .ixa 4 (.t 24) (.t 25), none⟩,
 ⟨some 27, .load (some 4) (.t 26), none⟩,
 ⟨some 28, .call n_gantryref05_Mul [(.t 23), (.t 27)] false, none⟩,
 ⟨some 29, .call n_gantryref05_Add [(.t 19), (.t 28)] false, none⟩,
 ⟨none, .store 4 (.t 5) (.t 29), none⟩] []) <|
 .keep [0, 1, 4, 5, 6] [[4], [5]]) <|
 .keep [0, 1, 4, 5, 6] [[4], [5]]) <|
 .seq (.reg [⟨some 17, .mov (.t 6), none⟩,
 ⟨some 18, .bin .add (.t 17) (.c (.v (.int .i64 1))), none⟩,
 ⟨some 6, .mov (.t 18), none⟩] []) <|
 .keep [0, 1, 4, 5, 6] [[4], [5]]) <|
 .keep [0, 1, 4, 5, 6] [[4], [5]]
def gantryref05_Dot : CF := ⟨2, .seq (.seq (.reg [⟨some 4, .new [.v (.bool false), .z true, .v (.bool false), .z true], none⟩] []) <|
 .keep [0, 1, 4] [[4]]) <|
 .seq (.seq (.reg [⟨some 5, .new [.v (.bool false), .z true, .v (.bool false), .z true], none⟩] []) <|
 .keep [0, 1, 4, 5] [[4], [5]]) <|
 .seq (.seq (.seq (.reg [⟨some 6, .mov (.c (.v (.int .i64 0))), none⟩] []) <|
 .keep [0, 1, 4, 5, 6] [[4], [5]]) <|
 .seq (.blk 0 <|
 .seq (.keep [0, 1, 4, 5, 6] [[4], [5]]) <|
 .loop gantryref05_Dot_l0) <|
 .keep [4, 5] [[4], [5]]) <|
 .seq (.seq (.reg [⟨some 30, .load (some 4) (.t 5), none⟩,
 ⟨none, .store 4 (.t 4) (.t 30), none⟩] []) <|
 .keep [4] [[4]]) <|
 .ret, [.cell 4 (some 4)]⟩

def gantrylaw05_lives : CF := ⟨0, .seq (.seq (.reg [⟨some 0, .mov (.c (.v (.bool false))), none⟩] []) <|
 .keep [] []) <|
 .seq (.seq (.reg [⟨some 13, .call n_rat_Of [(.c (.v (.int .i64 6))), (.c (.v (.int .i64 (-8))))] false, none⟩,
 ⟨some 1, .new [.v (.bool false), .z true, .v (.bool false), .z true], none⟩,
 ⟨none, .store 4 (.t 1) (.t 13), none⟩] []) <|
 .keep [1] [[1]]) <|
 .seq (.seq (.reg [⟨some 15, .call n_rat_Parse [(.c (.v (.string ⟨#[50, 47, 52]⟩)))] false, none⟩,
 ⟨some 14, .mov (.t 15), none⟩,
 ⟨some 16, .ext (.t 14) 0, none⟩,
 ⟨some 17, .ext (.t 14) 1, none⟩,
 ⟨some 2, .new [.v (.bool false), .z true, .v (.bool false), .z true], none⟩,
 ⟨none, .store 4 (.t 2) (.t 16), none⟩,
 ⟨some 3, .mov (.t 17), none⟩] []) <|
 .keep [1, 3] [[1]]) <|
 .seq (.seq (.reg [⟨some 19, .call n_rat_Parse [(.c (.v (.string ⟨#[51, 47, 49]⟩)))] false, none⟩,
 ⟨some 18, .mov (.t 19), none⟩,
 ⟨some 20, .ext (.t 18) 0, none⟩,
 ⟨some 21, .ext (.t 18) 1, none⟩,
 ⟨some 4, .new [.v (.bool false), .z true, .v (.bool false), .z true], none⟩,
 ⟨none, .store 4 (.t 4) (.t 20), none⟩,
 ⟨some 5, .mov (.t 21), none⟩] []) <|
 .keep [1, 3, 5] [[1]]) <|
 .seq (.seq (.reg [⟨some 23, .call n_rat_Parse [(.c (.v (.string ⟨#[49, 47, 45, 50]⟩)))] false, none⟩,
 ⟨some 22, .mov (.t 23), none⟩,
 ⟨some 24, .ext (.t 22) 0, none⟩,
 ⟨some 25, .ext (.t 22) 1, none⟩,
 ⟨some 6, .new [.v (.bool false), .z true, .v (.bool false), .z true], none⟩,
 ⟨none, .store 4 (.t 6) (.t 24), none⟩,
 ⟨some 7, .mov (.t 25), none⟩] []) <|
 .keep [1, 3, 5, 7] [[1]]) <|
 .seq (.seq (.reg [⟨some 27, .call n_rat_Of [(.c (.v (.int .i64 1))), (.c (.v (.int .i64 1)))] false, none⟩,
 ⟨some 28, .call n_rat_Of [(.c (.v (.int .i64 0))), (.c (.v (.int .i64 1)))] false, none⟩,
 ⟨some 29, .call n_rat_Between [(.t 27), (.t 28)] false, none⟩,
 ⟨some 26, .mov (.t 29), none⟩,
 ⟨some 30, .ext (.t 26) 0, none⟩,
 ⟨some 31, .ext (.t 26) 1, none⟩,
 ⟨some 8, .new [.v (.bool false), .z true, .v (.bool false), .z true], none⟩,
 ⟨none, .store 4 (.t 8) (.t 30), none⟩,
 ⟨some 9, .mov (.t 31), none⟩] []) <|
 .keep [1, 3, 5, 7, 9] [[1]]) <|
 .seq (.seq (.reg [⟨some 32, .load (some 4) (.t 1), none⟩,
 ⟨some 33, .call n_rat_Text [(.t 32)] false, none⟩,
 ⟨some 34, .bin .eql (.t 33) (.c (.v (.string ⟨#[45, 51, 47, 52]⟩))), none⟩,
 ⟨some 35, .mov (.t 34), none⟩,
 ⟨some 36, .call n_rat_Of [(.c (.v (.int .i64 1))), (.c (.v (.int .i64 2)))] false, (some (35, true))⟩,
 ⟨some 37, .call n_rat_Of [(.c (.v (.int .i64 1))), (.c (.v (.int .i64 3)))] false, (some (35, true))⟩,
 ⟨some 38, .call n_rat_Add [(.t 36), (.t 37)] false, (some (35, true))⟩,
 ⟨some 39, .call n_rat_Text [(.t 38)] false, (some (35, true))⟩,
 ⟨some 40, .bin .eql (.t 39) (.c (.v (.string ⟨#[53, 47, 54]⟩))), (some (35, true))⟩,
 ⟨some 41, .pick (.t 35) (.t 40) (.c (.v (.bool false))), none⟩,
 ⟨some 42, .mov (.t 41), none⟩,
 ⟨some 43, .load (some 4) (.t 1), (some (42, true))⟩,
 ⟨some 44, .call n_rat_Floor [(.t 43)] false, (some (42, true))⟩,
 ⟨some 45, .call n_integer_Text [(.t 44)] false, (some (42, true))⟩,
 ⟨some 46, .bin .eql (.t 45) (.c (.v (.string ⟨#[45, 49]⟩))), (some (42, true))⟩,
 ⟨some 47, .pick (.t 42) (.t 46) (.c (.v (.bool false))), none⟩,
 ⟨some 48, .mov (.t 47), none⟩,
 ⟨some 49, .load (some 4) (.t 1), (some (48, true))⟩,
 ⟨some 50, .call n_rat_Ceil [(.t 49)] false, (some (48, true))⟩,
 ⟨some 51, .call n_integer_Sign [(.t 50)] false, (some (48, true))⟩,
 ⟨some 52, .bin .eql (.t 51) (.c (.v (.int .i64 0))), (some (48, true))⟩,
 ⟨some 53, .pick (.t 48) (.t 52) (.c (.v (.bool false))), none⟩,
 ⟨some 10, .mov (.t 53), none⟩] []) <|
 .keep [3, 5, 7, 9, 10] []) <|
 .seq (.seq (.reg [⟨some 54, .call n_gantrylaw05_between [(.c (.v (.int .i64 1))), (.c (.v (.int .i64 3))), (.c (.v (.int .i64 2))), (.c (.v (.int .i64 5)))] false, none⟩,
 ⟨some 55, .call n_gantryref05_Of [(.c (.v (.int .i64 1))), (.c (.v (.int .i64 3)))] false, none⟩,
 ⟨some 56, .call n_gantrylaw05_same [(.t 54), (.t 55)] false, none⟩,
 ⟨some 57, .mov (.t 56), none⟩,
 ⟨some 58, .call n_gantrylaw05_between [(.c (.v (.int .i64 3))), (.c (.v (.int .i64 10))), (.c (.v (.int .i64 2))), (.c (.v (.int .i64 5)))] false, (some (57, true))⟩,
 ⟨some 59, .call n_gantryref05_Of [(.c (.v (.int .i64 1))), (.c (.v (.int .i64 3)))] false, (some (57, true))⟩,
 ⟨some 60, .call n_gantrylaw05_same [(.t 58), (.t 59)] false, (some (57, true))⟩,
 ⟨some 61, .pick (.t 57) (.t 60) (.c (.v (.bool false))), none⟩,
 ⟨some 62, .mov (.t 61), none⟩,
 ⟨some 63, .call n_gantrylaw05_between [(.c (.v (.int .i64 (-5)))), (.c (.v (.int .i64 2))), (.c (.v (.int .i64 (-3)))), (.c (.v (.int .i64 2)))] false, (some (62, true))⟩,
 ⟨some 64, .call n_gantryref05_Of [(.c (.v (.int .i64 (-2)))), (.c (.v (.int .i64 1)))] false, (some (62, true))⟩,
 ⟨some 65, .call n_gantrylaw05_same [(.t 63), (.t 64)] false, (some (62, true))⟩,
 ⟨some 66, .pick (.t 62) (.t 65) (.c (.v (.bool false))), none⟩,
 ⟨some 67, .mov (.t 66), none⟩,
 ⟨some 68, .call n_gantrylaw05_between [(.c (.v (.int .i64 (-1)))), (.c (.v (.int .i64 2))), (.c (.v (.int .i64 3))), (.c (.v (.int .i64 1)))] false, (some (67, true))⟩,
 ⟨some 69, .build [.v (.bool false), .z true, .v (.bool false), .z true] [], (some (67, true))⟩,
 ⟨some 70, .call n_gantrylaw05_same [(.t 68), (.t 69)] false, (some (67, true))⟩,
 ⟨some 71, .pick (.t 67) (.t 70) (.c (.v (.bool false))), none⟩,
 ⟨some 11, .mov (.t 71), none⟩] []) <|
 .keep [3, 5, 7, 9, 10, 11] []) <|
 .seq (.seq (.reg [⟨some 72, .lit 1 2 [.v (.int .i64 0)] [(0, (.c (.v (.int .i64 1)))), (1, (.c (.v (.int .i64 1))))] true, none⟩,
 ⟨some 73, .call n_gantryref01_Ints [(.t 72)] true, none⟩,
 ⟨some 74, .lit 1 2 [.v (.int .i64 0)] [(0, (.c (.v (.int .i64 1)))), (1, (.c (.v (.int .i64 2))))] true, none⟩,
 ⟨some 75, .call n_gantryref01_Ints [(.t 74)] false, none⟩,
 ⟨some 76, .app 1 1 (.t 73) (.t 75) true, none⟩,
 ⟨some 12, .mov (.t 76), none⟩] []) <|
 .keep [3, 5, 7, 9, 10, 11, 12] [[73], [76]]) <|
 .seq (.seq (.reg [⟨some 77, .mov (.t 10), none⟩,
 ⟨some 78, .mov (.t 77), none⟩,
 ⟨some 79, .mov (.t 11), (some (78, true))⟩,
 ⟨some 80, .pick (.t 78) (.t 79) (.c (.v (.bool false))), none⟩,
 ⟨some 81, .mov (.t 80), none⟩,
 ⟨some 82, .mov (.t 3), (some (81, true))⟩,
 ⟨some 83, .bin .eql (.t 82) (.c (.v (.int .i64 2))), (some (81, true))⟩,
 ⟨some 84, .pick (.t 81) (.t 83) (.c (.v (.bool false))), none⟩,
 ⟨some 85, .mov (.t 84), none⟩,
 ⟨some 86, .mov (.t 5), (some (85, true))⟩,
 ⟨some 87, .bin .eql (.t 86) (.c (.v (.int .i64 2))), (some (85, true))⟩,
 ⟨some 88, .pick (.t 85) (.t 87) (.c (.v (.bool false))), none⟩,
 ⟨some 89, .mov (.t 88), none⟩,
 ⟨some 90, .mov (.t 7), (some (89, true))⟩,
 ⟨some 91, .bin .eql (.t 90) (.c (.v (.int .i64 2))), (some (89, true))⟩,
 ⟨some 92, .pick (.t 89) (.t 91) (.c (.v (.bool false))), none⟩,
 ⟨some 93, .mov (.t 92), none⟩,
 ⟨some 94, .mov (.t 9), (some (93, true))⟩,
 ⟨some 95, .bin .eql (.t 94) (.c (.v (.int .i64 1))), (some (93, true))⟩,
 ⟨some 96, .pick (.t 93) (.t 95) (.c (.v (.bool false))), none⟩,
 ⟨some 97, .mov (.t 96), none⟩,
 ⟨some 98, .call n_rat_Of [(.c (.v (.int .i64 1))), (.c (.v (.int .i64 2)))] false, (some (97, true))⟩,
 ⟨some 99, .call n_rat_Encode [(.t 98)] false, (some (97, true))⟩,
 ⟨some 100, .mov (.t 12), (some (97, true))⟩,
 ⟨some 101, .call n_gantryref01_Same [(.t 99), (.t 100)] false, (some (97, true))⟩,
 ⟨some 102, .pick (.t 97) (.t 101) (.c (.v (.bool false))), none⟩,
 ⟨some 0, .mov (.t 102), none⟩] []) <|
 .keep [0] []) <|
 .ret, [.t 0]⟩

def rat_Text : CF := ⟨1, .seq (.seq (.reg [⟨some 1, .box (.t 0), none⟩,
 ⟨some 2, .mov (.c (.v (.string ⟨#[]⟩))), none⟩] []) <|
 .keep [1] [[1]]) <|
 .seq (.seq (.seq (.reg [⟨some 3, .fad 2 (.t 1), none⟩,
 ⟨some 4, .fad 1 (.t 3), none⟩,
 ⟨some 5, .load none (.t 4), none⟩,
 ⟨some 6, .len (.t 5), none⟩,
 ⟨some 7, .bin .eql (.t 6) (.c (.v (.int .i64 0))), none⟩] []) <|
 .keep [1, 7] [[1]]) <|
 .cond (.t 7) (.seq (.seq (.reg [⟨some 8, .fad 0 (.t 1), none⟩,
 ⟨some 9, .load (some 2) (.t 8), none⟩,
 ⟨some 10, .call n_integer_Text [(.t 9)] false, none⟩,
 ⟨some 2, .mov (.t 10), none⟩] []) <|
 .keep [2] []) <|
 .ret) <|
 .skip) <|
 .seq (.seq (.reg [⟨some 11, .fad 0 (.t 1), none⟩,
 ⟨some 12, .load (some 2) (.t 11), none⟩,
 ⟨some 13, .call n_integer_Text [(.t 12)] false, none⟩,
 ⟨some 14, .bin .add (.t 13) (.c (.v (.string ⟨#[47]⟩))), none⟩,
 ⟨some 15, .fad 2 (.t 1), none⟩,
 ⟨some 16, .load (some 2) (.t 15), none⟩,
 ⟨some 17, .call n_integer_Text [(.t 16)] false, none⟩,
 ⟨some 18, .bin .add (.t 14) (.t 17), none⟩,
 ⟨some 2, .mov (.t 18), none⟩] []) <|
 .keep [2] []) <|
 .ret, [.t 2]⟩

def rat_Parse : CF := ⟨1, .seq (.seq (.reg [⟨some 2, .new [.v (.bool false), .z true, .v (.bool false), .z true], none⟩,
 ⟨some 3, .mov (.c (.v (.int .i64 0))), none⟩] []) <|
 .keep [0, 2] [[2]]) <|
 .seq (.seq (.seq (.reg [⟨some 9, .mov (.t 0), none⟩,
 ⟨some 10, .lns (.t 9), none⟩,
 ⟨some 11, .bin .gtr (.t 10) (.c (.v (.int .i64 65536))), none⟩] []) <|
 .keep [0, 2, 11] [[2]]) <|
 .cond (.t 11) (.seq (.seq (.reg [⟨some 12, .build [.v (.bool false), .z true, .v (.bool false), .z true] [], none⟩,
 ⟨none, .store 4 (.t 2) (.t 12), none⟩,
 ⟨some 3, .mov (.c (.v (.int .i64 4))), none⟩] []) <|
 .keep [2, 3] [[2]]) <|
 .ret) <|
 .skip) <|
 .seq (.seq (.reg [⟨some 14, .mov (.t 0), none⟩,
 ⟨some 15, .call n_strings_Cut [(.t 14), (.c (.v (.string ⟨#[47]⟩)))] false, none⟩,
 ⟨some 13, .mov (.t 15), none⟩,
 ⟨some 16, .ext (.t 13) 0, none⟩,
 ⟨some 17, .ext (.t 13) 1, none⟩,
 ⟨some 18, .ext (.t 13) 2, none⟩,
 ⟨some 4, .mov (.t 16), none⟩,
 ⟨some 5, .mov (.t 17), none⟩,
 ⟨some 6, .mov (.t 18), none⟩] []) <|
 .keep [2, 4, 5, 6] [[2]]) <|
 .seq (.seq (.reg [⟨some 7, .new [.v (.bool false), .z true, .v (.bool false), .z true], none⟩] []) <|
 .keep [2, 4, 5, 6, 7] [[2], [7]]) <|
 .seq (.seq (.reg [⟨some 8, .mov (.c (.v (.int .i64 0))), none⟩] []) <|
 .keep [2, 4, 5, 6, 7] [[2], [7]]) <|
 .seq (.seq (.seq (.reg [⟨some 20, .mov (.t 4), none⟩,
 ⟨some 21, .call n_integer_Parse [(.t 20)] false, none⟩,
 ⟨some 19, .mov (.t 21), none⟩,
 ⟨some 22, .ext (.t 19) 0, none⟩,
 ⟨some 23, .ext (.t 19) 1, none⟩,
 ⟨some 24, .fad 0 (.t 7), none⟩,
 ⟨none, .store 2 (.t 24) (.t 22), none⟩,
 ⟨some 8, .mov (.t 23), none⟩] []) <|
 .keep [2, 5, 6, 7, 8] [[2], [7]]) <|
 .seq (.seq (.reg [⟨some 25, .mov (.t 8), none⟩,
 ⟨some 26, .bin .neq (.t 25) (.c (.v (.int .i64 0))), none⟩] []) <|
 .keep [2, 5, 6, 7, 8, 26] [[2], [7]]) <|
 .cond (.t 26) (.seq (.seq (.reg [⟨some 27, .build [.v (.bool false), .z true, .v (.bool false), .z true] [], none⟩,
 ⟨some 28, .mov (.t 8), none⟩,
 ⟨none, .store 4 (.t 2) (.t 27), none⟩,
 ⟨some 3, .mov (.t 28), none⟩] []) <|
 .keep [2, 3] [[2]]) <|
 .ret) <|
 .skip) <|
 .seq (.seq (.seq (.reg [⟨some 29, .mov (.t 6), none⟩,
 ⟨some 30, .un .not (.t 29), none⟩] []) <|
 .keep [2, 5, 7, 30] [[2], [7]]) <|
 .cond (.t 30) (.seq (.seq (.reg [⟨some 31, .load (some 4) (.t 7), none⟩,
 ⟨none, .store 4 (.t 2) (.t 31), none⟩,
 ⟨some 3, .mov (.c (.v (.int .i64 0))), none⟩] []) <|
 .keep [2, 3] [[2]]) <|
 .ret) <|
 .skip) <|
 .seq (.seq (.seq (.reg [⟨some 33, .mov (.t 5), none⟩,
 ⟨some 34, .call n_integer_Parse [(.t 33)] false, none⟩,
 ⟨some 32, .mov (.t 34), none⟩,
 ⟨some 35, .ext (.t 32) 0, none⟩,
 ⟨some 36, .ext (.t 32) 1, none⟩,
 ⟨some 37, .fad 2 (.t 7), none⟩,
 ⟨none, .store 2 (.t 37) (.t 35), none⟩,
 ⟨some 8, .mov (.t 36), none⟩] []) <|
 .keep [2, 7, 8] [[2], [7]]) <|
 .seq (.seq (.reg [⟨some 38, .mov (.t 8), none⟩,
 ⟨some 39, .bin .neq (.t 38) (.c (.v (.int .i64 0))), none⟩,
 ⟨some 40, .mov (.t 39), none⟩,
 ⟨some 41, .fad 2 (.t 7), (some (40, false))⟩,
 ⟨some 42, .fad 1 (.t 41), (some (40, false))⟩,
 ⟨some 43, .load none (.t 42), (some (40, false))⟩,
 ⟨some 44, .len (.t 43), (some (40, false))⟩,
 ⟨some 45, .bin .eql (.t 44) (.c (.v (.int .i64 0))), (some (40, false))⟩,
 ⟨some 46, .pick (.t 40) (.c (.v (.bool true))) (.t 45), none⟩,
 ⟨some 47, .mov (.t 46), none⟩,
 ⟨some 48, .load (some 4) (.t 7), (some (47, false))⟩,
 ⟨some 49, .call n_rat_Valid [(.t 48)] false, (some (47, false))⟩,
 ⟨some 50, .un .not (.t 49), (some (47, false))⟩,
 ⟨some 51, .pick (.t 47) (.c (.v (.bool true))) (.t 50), none⟩] []) <|
 .keep [2, 7, 51] [[2], [7]]) <|
 .cond (.t 51) (.seq (.seq (.reg [⟨some 52, .build [.v (.bool false), .z true, .v (.bool false), .z true] [], none⟩,
 ⟨none, .store 4 (.t 2) (.t 52), none⟩,
 ⟨some 3, .mov (.c (.v (.int .i64 2))), none⟩] []) <|
 .keep [2, 3] [[2]]) <|
 .ret) <|
 .skip) <|
 .seq (.seq (.reg [⟨some 53, .load (some 4) (.t 7), none⟩,
 ⟨none, .store 4 (.t 2) (.t 53), none⟩,
 ⟨some 3, .mov (.c (.v (.int .i64 0))), none⟩] []) <|
 .keep [2, 3] [[2]]) <|
 .ret, [.cell 2 (some 4), .t 3]⟩

def rat_Encode : CF := ⟨1, .seq (.seq (.reg [⟨some 1, .box (.t 0), none⟩,
 ⟨some 2, .mov (.c (.z true)), none⟩] []) <|
 .keep [1] [[1]]) <|
 .seq (.seq (.reg [⟨some 3, .fad 0 (.t 1), none⟩,
 ⟨some 4, .load (some 2) (.t 3), none⟩,
 ⟨some 5, .call n_integer_Encode [(.t 4)] false, none⟩,
 ⟨some 6, .fad 2 (.t 1), none⟩,
 ⟨some 7, .load (some 2) (.t 6), none⟩,
 ⟨some 8, .call n_integer_Encode [(.t 7)] false, none⟩,
 ⟨some 9, .lit 1 2 [.z true] [(0, (.t 5)), (1, (.t 8))] true, none⟩,
 ⟨some 10, .call n_slices_Concat_byte_byte [(.t 9)] false, none⟩,
 ⟨some 2, .mov (.t 10), none⟩] []) <|
 .keep [2] []) <|
 .ret, [.t 2]⟩

def rat_Decode : CF := ⟨1, .seq (.seq (.reg [⟨some 2, .new [.v (.bool false), .z true, .v (.bool false), .z true], none⟩,
 ⟨some 3, .mov (.c (.v (.int .i64 0))), none⟩,
 ⟨some 4, .mov (.c (.v (.int .i64 0))), none⟩] []) <|
 .keep [0, 2] [[2]]) <|
 .seq (.seq (.reg [⟨some 12, .mov (.t 0), none⟩,
 ⟨some 13, .call n_integer_Decode [(.t 12)] false, none⟩,
 ⟨some 11, .mov (.t 13), none⟩,
 ⟨some 14, .ext (.t 11) 0, none⟩,
 ⟨some 15, .ext (.t 11) 1, none⟩,
 ⟨some 16, .ext (.t 11) 2, none⟩,
 ⟨some 5, .new [.v (.bool false), .z true], none⟩,
 ⟨none, .store 2 (.t 5) (.t 14), none⟩,
 ⟨some 6, .mov (.t 15), none⟩,
 ⟨some 7, .mov (.t 16), none⟩] []) <|
 .keep [0, 2, 5, 6, 7] [[2], [5]]) <|
 .seq (.seq (.seq (.reg [⟨some 17, .mov (.t 7), none⟩,
 ⟨some 18, .bin .neq (.t 17) (.c (.v (.int .i64 0))), none⟩] []) <|
 .keep [0, 2, 5, 6, 7, 18] [[2], [5]]) <|
 .cond (.t 18) (.seq (.seq (.reg [⟨some 19, .build [.v (.bool false), .z true, .v (.bool false), .z true] [], none⟩,
 ⟨some 20, .mov (.t 7), none⟩,
 ⟨none, .store 4 (.t 2) (.t 19), none⟩,
 ⟨some 3, .mov (.c (.v (.int .i64 0))), none⟩,
 ⟨some 4, .mov (.t 20), none⟩] []) <|
 .keep [2, 3, 4] [[2]]) <|
 .ret) <|
 .skip) <|
 .seq (.seq (.reg [⟨some 22, .mov (.t 0), none⟩,
 ⟨some 23, .mov (.t 6), none⟩,
 ⟨some 24, .slc 1 (.t 22) (some (.t 23)) none none, none⟩,
 ⟨some 25, .call n_integer_Decode [(.t 24)] false, none⟩,
 ⟨some 21, .mov (.t 25), none⟩,
 ⟨some 26, .ext (.t 21) 0, none⟩,
 ⟨some 27, .ext (.t 21) 1, none⟩,
 ⟨some 28, .ext (.t 21) 2, none⟩,
 ⟨some 8, .new [.v (.bool false), .z true], none⟩,
 ⟨none, .store 2 (.t 8) (.t 26), none⟩,
 ⟨some 9, .mov (.t 27), none⟩,
 ⟨some 7, .mov (.t 28), none⟩] []) <|
 .keep [2, 5, 6, 7, 8, 9] [[2], [5], [8]]) <|
 .seq (.seq (.seq (.reg [⟨some 29, .mov (.t 7), none⟩,
 ⟨some 30, .bin .neq (.t 29) (.c (.v (.int .i64 0))), none⟩] []) <|
 .keep [2, 5, 6, 7, 8, 9, 30] [[2], [5], [8]]) <|
 .cond (.t 30) (.seq (.seq (.reg [⟨some 31, .build [.v (.bool false), .z true, .v (.bool false), .z true] [], none⟩,
 ⟨some 32, .mov (.t 7), none⟩,
 ⟨none, .store 4 (.t 2) (.t 31), none⟩,
 ⟨some 3, .mov (.c (.v (.int .i64 0))), none⟩,
 ⟨some 4, .mov (.t 32), none⟩] []) <|
 .keep [2, 3, 4] [[2]]) <|
 .ret) <|
 .skip) <|
 .seq (.seq (.seq (.reg [⟨some 33, .load (some 2) (.t 5), none⟩,
 ⟨some 34, .load (some 2) (.t 8), none⟩,
 ⟨some 35, .build [.v (.bool false), .z true, .v (.bool false), .z true] [(0, 2, (.t 33)), (2, 2, (.t 34))], none⟩,
 ⟨some 10, .new [.v (.bool false), .z true, .v (.bool false), .z true], none⟩,
 ⟨none, .store 4 (.t 10) (.t 35), none⟩] []) <|
 .keep [2, 6, 9, 10] [[2], [10]]) <|
 .seq (.seq (.reg [⟨some 36, .load (some 4) (.t 10), none⟩,
 ⟨some 37, .call n_rat_Valid [(.t 36)] false, none⟩] []) <|
 .keep [2, 6, 9, 10, 37] [[2], [10]]) <|
 .cond (.t 37) (.seq (.seq (.reg [⟨some 38, .load (some 4) (.t 10), none⟩,
 ⟨some 39, .mov (.t 6), none⟩,
 ⟨some 40, .mov (.t 9), none⟩,
 ⟨some 41, .bin .add (.t 39) (.t 40), none⟩,
 ⟨none, .store 4 (.t 2) (.t 38), none⟩,
 ⟨some 3, .mov (.t 41), none⟩,
 ⟨some 4, .mov (.c (.v (.int .i64 0))), none⟩] []) <|
 .keep [2, 3, 4] [[2]]) <|
 .ret) <|
 .skip) <|
 .seq (.seq (.reg [⟨some 42, .build [.v (.bool false), .z true, .v (.bool false), .z true] [], none⟩,
 ⟨none, .store 4 (.t 2) (.t 42), none⟩,
 ⟨some 3, .mov (.c (.v (.int .i64 0))), none⟩,
 ⟨some 4, .mov (.c (.v (.int .i64 2))), none⟩] []) <|
 .keep [2, 3, 4] [[2]]) <|
 .ret, [.cell 2 (some 4), .t 3, .t 4]⟩

def gantryref01_Few : CF := ⟨2, .seq (.seq (.reg [⟨some 4, .mov (.c (.z true)), none⟩] []) <|
 .keep [0, 1] []) <|
 .seq (.seq (.reg [⟨some 5, .mov (.c (.z true)), none⟩] []) <|
 .keep [0, 1, 5] []) <|
 .seq (.seq (.reg [⟨some 6, .mov (.t 5), none⟩,
 ⟨some 7, .mov (.t 0), none⟩,
 ⟨some 8, .mov (.t 0), none⟩,
 ⟨some 9, .len (.t 8), none⟩,
 ⟨some 10, .mov (.t 1), none⟩,
 ⟨some 11, .mn [(.t 9), (.t 10)], none⟩,
 ⟨some 12, .slc 1 (.t 7) none (some (.t 11)) none, none⟩,
 ⟨some 13, .app 1 1 (.t 6) (.t 12) true, none⟩,
 ⟨some 4, .mov (.t 13), none⟩] []) <|
 .keep [4] [[13]]) <|
 .ret, [.t 4]⟩

def gantryref05_Text : CF := ⟨1, .seq (.seq (.reg [⟨some 1, .box (.t 0), none⟩,
 ⟨some 2, .mov (.c (.v (.string ⟨#[]⟩))), none⟩] []) <|
 .keep [1] [[1]]) <|
 .seq (.seq (.seq (.reg [⟨some 3, .fad 2 (.t 1), none⟩,
 ⟨some 4, .fad 1 (.t 3), none⟩,
 ⟨some 5, .load none (.t 4), none⟩,
 ⟨some 6, .len (.t 5), none⟩,
 ⟨some 7, .bin .eql (.t 6) (.c (.v (.int .i64 0))), none⟩] []) <|
 .keep [1, 7] [[1]]) <|
 .cond (.t 7) (.seq (.seq (.reg [⟨some 8, .fad 0 (.t 1), none⟩,
 ⟨some 9, .load (some 2) (.t 8), none⟩,
 ⟨some 10, .call n_gantryref04_Text [(.t 9)] false, none⟩,
 ⟨some 2, .mov (.t 10), none⟩] []) <|
 .keep [2] []) <|
 .ret) <|
 .skip) <|
 .seq (.seq (.reg [⟨some 11, .fad 0 (.t 1), none⟩,
 ⟨some 12, .load (some 2) (.t 11), none⟩,
 ⟨some 13, .call n_gantryref04_Text [(.t 12)] false, none⟩,
 ⟨some 14, .bin .add (.t 13) (.c (.v (.string ⟨#[47]⟩))), none⟩,
 ⟨some 15, .fad 2 (.t 1), none⟩,
 ⟨some 16, .load (some 2) (.t 15), none⟩,
 ⟨some 17, .call n_gantryref04_Text [(.t 16)] false, none⟩,
 ⟨some 18, .bin .add (.t 14) (.t 17), none⟩,
 ⟨some 2, .mov (.t 18), none⟩] []) <|
 .keep [2] []) <|
 .ret, [.t 2]⟩

def gantryref01_Same_l0 : C :=
 .seq (.seq (.seq (.seq (.reg [⟨some 11, .mov (.t 5), none⟩,
 ⟨some 12, .mov (.t 0), none⟩,
 ⟨some 13, .len (.t 12), none⟩,
 ⟨some 14, .bin .lss (.t 11) (.t 13), none⟩] []) <|
 .keep [0, 1, 5, 14] []) <|
 .cond (.t 14) (.skip) <|
 .seq (.keep [] []) <|
 .exit 0) <|
 .seq (.seq (.blk 1 <|
 .seq (.seq (.reg [⟨some 17, .mov (.t 0), none⟩,
 ⟨some 18, .mov (.t 5), none⟩,
 ⟨some 19, .ixa 1 (.t 17) (.t 18), none⟩,
 ⟨some 20, .load none (.t 19), none⟩,
 ⟨some 21, .mov (.t 1), none⟩,
 ⟨some 22, .mov (.t 5), none⟩,
 ⟨some 23, .ixa 1 (.t 21) (.t 22), none⟩,
 ⟨some 24, .load none (.t 23), none⟩,
 ⟨some 25, .bin .neq (.t 20) (.t 24), none⟩] []) <|
 .keep [0, 1, 5, 25] []) <|
 .cond (.t 25) (.seq (.seq (.reg [⟨some 4, .mov (.c (.v (.bool false))), none⟩] []) <|
 .keep [4] []) <|
 .ret) <|
 .skip) <|
 .keep [0, 1, 5] []) <|
 .seq (.reg [⟨some 15, .mov (.t 5), none⟩,
 ⟨some 16, .bin .add (.t 15) (.c (.v (.int .i64 1))), none⟩,
 ⟨some 5, .mov (.t 16), none⟩] []) <|
 .keep [0, 1, 5] []) <|
 .keep [0, 1, 5] []
def gantryref01_Same : CF := ⟨2, .seq (.seq (.reg [⟨some 4, .mov (.c (.v (.bool false))), none⟩] []) <|
 .keep [0, 1] []) <|
 .seq (.seq (.seq (.reg [⟨some 6, .mov (.t 0), none⟩,
 ⟨some 7, .len (.t 6), none⟩,
 ⟨some 8, .mov (.t 1), none⟩,
 ⟨some 9, .len (.t 8), none⟩,
 ⟨some 10, .bin .neq (.t 7) (.t 9), none⟩] []) <|
 .keep [0, 1, 10] []) <|
 .cond (.t 10) (.seq (.seq (.reg [⟨some 4, .mov (.c (.v (.bool false))), none⟩] []) <|
 .keep [4] []) <|
 .ret) <|
 .skip) <|
 .seq (.seq (.seq (.reg [⟨some 5, .mov (.c (.v (.int .i64 0))), none⟩] []) <|
 .keep [0, 1, 5] []) <|
 .seq (.blk 0 <|
 .seq (.keep [0, 1, 5] []) <|
 .loop gantryref01_Same_l0) <|
 .keep [] []) <|
 .seq (.seq (.reg [⟨some 4, .mov (.c (.v (.bool true))), none⟩] []) <|
 .keep [4] []) <|
 .ret, [.t 4]⟩

def gantryref05_Encode : CF := ⟨1, .seq (.seq (.reg [⟨some 1, .box (.t 0), none⟩,
 ⟨some 2, .mov (.c (.z true)), none⟩] []) <|
 .keep [1] [[1]]) <|
 .seq (.seq (.reg [⟨some 3, .fad 0 (.t 1), none⟩,
 ⟨some 4, .load (some 2) (.t 3), none⟩,
 ⟨some 5, .call n_gantryref04_Encode [(.t 4)] true, none⟩,
 ⟨some 6, .fad 2 (.t 1), none⟩,
 ⟨some 7, .load (some 2) (.t 6), none⟩,
 ⟨some 8, .call n_gantryref04_Encode [(.t 7)] false, none⟩,
 ⟨some 9, .app 1 1 (.t 5) (.t 8) true, none⟩,
 ⟨some 2, .mov (.t 9), none⟩] []) <|
 .keep [2] [[5], [9]]) <|
 .ret, [.t 2]⟩

def gantryref01_Short : CF := ⟨2, .seq (.seq (.reg [⟨some 4, .mov (.c (.v (.string ⟨#[]⟩))), none⟩] []) <|
 .keep [0, 1] []) <|
 .seq (.seq (.seq (.reg [⟨some 5, .mov (.t 0), none⟩,
 ⟨some 6, .lns (.t 5), none⟩,
 ⟨some 7, .mov (.t 1), none⟩,
 ⟨some 8, .bin .gtr (.t 6) (.t 7), none⟩] []) <|
 .keep [0, 1, 8] []) <|
 .cond (.t 8) (.seq (.seq (.reg [⟨some 9, .mov (.t 0), none⟩,
 ⟨some 10, .mov (.t 1), none⟩,
 ⟨some 11, .sls (.t 9) none (some (.t 10)), none⟩,
 ⟨some 4, .mov (.t 11), none⟩] []) <|
 .keep [4] []) <|
 .ret) <|
 .skip) <|
 .seq (.seq (.reg [⟨some 12, .mov (.t 0), none⟩,
 ⟨some 4, .mov (.t 12), none⟩] []) <|
 .keep [4] []) <|
 .ret, [.t 4]⟩

def gantryref05_Parse_l0 : C :=
 .seq (.seq (.seq (.seq (.reg [⟨some 14, .mov (.t 4), none⟩,
 ⟨some 15, .mov (.t 0), none⟩,
 ⟨some 16, .lns (.t 15), none⟩,
 ⟨some 17, .bin .lss (.t 14) (.t 16), none⟩,
 ⟨some 18, .mov (.t 17), none⟩,
 ⟨some 19, .mov (.t 0), (some (18, true))⟩,
 ⟨some 20, .mov (.t 4), (some (18, true))⟩,
 ⟨some 21, .ixs (.t 19) (.t 20), (some (18, true))⟩,
 ⟨some 22, .bin .neq (.t 21) (.c (.v (.int .u8 47))), (some (18, true))⟩,
 ⟨some 23, .pick (.t 18) (.t 22) (.c (.v (.bool false))), none⟩] []) <|
 .keep [0, 2, 4, 23] [[2]]) <|
 .cond (.t 23) (.skip) <|
 .seq (.keep [0, 2, 4] [[2]]) <|
 .exit 0) <|
 .seq (.blk 1 <|
 .seq (.reg [⟨some 24, .mov (.t 4), none⟩,
 ⟨some 25, .bin .add (.t 24) (.c (.v (.int .i64 1))), none⟩,
 ⟨some 4, .mov (.t 25), none⟩] []) <|
 .keep [0, 2, 4] [[2]]) <|
 .keep [0, 2, 4] [[2]]) <|
 .keep [0, 2, 4] [[2]]
def gantryref05_Parse : CF := ⟨1, .seq (.seq (.reg [⟨some 2, .new [.v (.bool false), .z true, .v (.bool false), .z true], none⟩,
 ⟨some 3, .mov (.c (.v (.int .i64 0))), none⟩] []) <|
 .keep [0, 2] [[2]]) <|
 .seq (.seq (.seq (.reg [⟨some 10, .mov (.t 0), none⟩,
 ⟨some 11, .lns (.t 10), none⟩,
 ⟨some 12, .bin .gtr (.t 11) (.c (.v (.int .i64 65536))), none⟩] []) <|
 .keep [0, 2, 12] [[2]]) <|
 .cond (.t 12) (.seq (.seq (.reg [⟨some 13, .build [.v (.bool false), .z true, .v (.bool false), .z true] [], none⟩,
 ⟨none, .store 4 (.t 2) (.t 13), none⟩,
 ⟨some 3, .mov (.c (.v (.int .i64 4))), none⟩] []) <|
 .keep [2, 3] [[2]]) <|
 .ret) <|
 .skip) <|
 .seq (.seq (.reg [⟨some 4, .mov (.c (.v (.int .i64 0))), none⟩] []) <|
 .keep [0, 2, 4] [[2]]) <|
 .seq (.seq (.blk 0 <|
 .seq (.keep [0, 2, 4] [[2]]) <|
 .loop gantryref05_Parse_l0) <|
 .keep [0, 2, 4] [[2]]) <|
 .seq (.seq (.reg [⟨some 27, .mov (.t 0), none⟩,
 ⟨some 28, .mov (.t 4), none⟩,
 ⟨some 29, .sls (.t 27) none (some (.t 28)), none⟩,
 ⟨some 30, .call n_gantryref04_Parse [(.t 29)] false, none⟩,
 ⟨some 26, .mov (.t 30), none⟩,
 ⟨some 31, .ext (.t 26) 0, none⟩,
 ⟨some 32, .ext (.t 26) 1, none⟩,
 ⟨some 5, .new [.v (.bool false), .z true], none⟩,
 ⟨none, .store 2 (.t 5) (.t 31), none⟩,
 ⟨some 6, .mov (.t 32), none⟩] []) <|
 .keep [0, 2, 4, 5, 6] [[2], [5]]) <|
 .seq (.seq (.seq (.reg [⟨some 33, .mov (.t 6), none⟩,
 ⟨some 34, .bin .neq (.t 33) (.c (.v (.int .i64 0))), none⟩] []) <|
 .keep [0, 2, 4, 5, 6, 34] [[2], [5]]) <|
 .cond (.t 34) (.seq (.seq (.reg [⟨some 35, .build [.v (.bool false), .z true, .v (.bool false), .z true] [], none⟩,
 ⟨some 36, .mov (.t 6), none⟩,
 ⟨none, .store 4 (.t 2) (.t 35), none⟩,
 ⟨some 3, .mov (.t 36), none⟩] []) <|
 .keep [2, 3] [[2]]) <|
 .ret) <|
 .skip) <|
 .seq (.seq (.seq (.reg [⟨some 37, .mov (.t 4), none⟩,
 ⟨some 38, .mov (.t 0), none⟩,
 ⟨some 39, .lns (.t 38), none⟩,
 ⟨some 40, .bin .eql (.t 37) (.t 39), none⟩] []) <|
 .keep [0, 2, 4, 5, 40] [[2], [5]]) <|
 .cond (.t 40) (.seq (.seq (.reg [⟨some 41, .load (some 2) (.t 5), none⟩,
 ⟨some 42, .build [.v (.bool false), .z true, .v (.bool false), .z true] [(0, 2, (.t 41))], none⟩,
 ⟨none, .store 4 (.t 2) (.t 42), none⟩,
 ⟨some 3, .mov (.c (.v (.int .i64 0))), none⟩] []) <|
 .keep [2, 3] [[2]]) <|
 .ret) <|
 .skip) <|
 .seq (.seq (.reg [⟨some 44, .mov (.t 0), none⟩,
 ⟨some 45, .mov (.t 4), none⟩,
 ⟨some 46, .bin .add (.t 45) (.c (.v (.int .i64 1))), none⟩,
 ⟨some 47, .sls (.t 44) (some (.t 46)) none, none⟩,
 ⟨some 48, .call n_gantryref04_Parse [(.t 47)] false, none⟩,
 ⟨some 43, .mov (.t 48), none⟩,
 ⟨some 49, .ext (.t 43) 0, none⟩,
 ⟨some 50, .ext (.t 43) 1, none⟩,
 ⟨some 7, .new [.v (.bool false), .z true], none⟩,
 ⟨none, .store 2 (.t 7) (.t 49), none⟩,
 ⟨some 8, .mov (.t 50), none⟩] []) <|
 .keep [2, 5, 7, 8] [[2], [5], [7]]) <|
 .seq (.seq (.seq (.reg [⟨some 51, .mov (.t 8), none⟩,
 ⟨some 52, .bin .neq (.t 51) (.c (.v (.int .i64 0))), none⟩] []) <|
 .keep [2, 5, 7, 8, 52] [[2], [5], [7]]) <|
 .cond (.t 52) (.seq (.seq (.reg [⟨some 53, .build [.v (.bool false), .z true, .v (.bool false), .z true] [], none⟩,
 ⟨some 54, .mov (.t 8), none⟩,
 ⟨none, .store 4 (.t 2) (.t 53), none⟩,
 ⟨some 3, .mov (.t 54), none⟩] []) <|
 .keep [2, 3] [[2]]) <|
 .ret) <|
 .skip) <|
 .seq (.seq (.reg [⟨some 55, .load (some 2) (.t 5), none⟩,
 ⟨some 56, .load (some 2) (.t 7), none⟩,
 ⟨some 57, .build [.v (.bool false), .z true, .v (.bool false), .z true] [(0, 2, (.t 55)), (2, 2, (.t 56))], none⟩,
 ⟨some 9, .new [.v (.bool false), .z true, .v (.bool false), .z true], none⟩,
 ⟨none, .store 4 (.t 9) (.t 57), none⟩] []) <|
 .keep [2, 7, 9] [[2], [7], [9]]) <|
 .seq (.seq (.seq (.reg [⟨some 58, .fad 1 (.t 7), none⟩,
 ⟨some 59, .load none (.t 58), none⟩,
 ⟨some 60, .len (.t 59), none⟩,
 ⟨some 61, .bin .eql (.t 60) (.c (.v (.int .i64 0))), none⟩,
 ⟨some 62, .mov (.t 61), none⟩,
 ⟨some 63, .load (some 4) (.t 9), (some (62, false))⟩,
 ⟨some 64, .call n_gantryref05_Valid [(.t 63)] false, (some (62, false))⟩,
 ⟨some 65, .un .not (.t 64), (some (62, false))⟩,
 ⟨some 66, .pick (.t 62) (.c (.v (.bool true))) (.t 65), none⟩] []) <|
 .keep [2, 9, 66] [[2], [9]]) <|
 .cond (.t 66) (.seq (.seq (.reg [⟨some 67, .build [.v (.bool false), .z true, .v (.bool false), .z true] [], none⟩,
 ⟨none, .store 4 (.t 2) (.t 67), none⟩,
 ⟨some 3, .mov (.c (.v (.int .i64 2))), none⟩] []) <|
 .keep [2, 3] [[2]]) <|
 .ret) <|
 .skip) <|
 .seq (.seq (.reg [⟨some 68, .load (some 4) (.t 9), none⟩,
 ⟨none, .store 4 (.t 2) (.t 68), none⟩,
 ⟨some 3, .mov (.c (.v (.int .i64 0))), none⟩] []) <|
 .keep [2, 3] [[2]]) <|
 .ret, [.cell 2 (some 4), .t 3]⟩

def gantryref04_Encode : CF := ⟨1, .seq (.seq (.reg [⟨some 1, .box (.t 0), none⟩,
 ⟨some 2, .mov (.c (.z true)), none⟩] []) <|
 .keep [1] [[1]]) <|
 .seq (.seq (.reg [⟨some 3, .load (some 2) (.t 1), none⟩,
 ⟨some 4, .call n_gantryref04_Sign [(.t 3)] false, none⟩,
 ⟨some 5, .lit 1 1 [.v (.int .i64 0)] [(0, (.t 4))] false, none⟩,
 ⟨some 6, .fad 1 (.t 1), none⟩,
 ⟨some 7, .load none (.t 6), none⟩,
 ⟨some 8, .app 1 8 (.t 5) (.t 7) true, none⟩,
 ⟨some 9, .call n_gantryref01_Ints [(.t 8)] true, none⟩,
 ⟨some 2, .mov (.t 9), none⟩] []) <|
 .keep [2] [[9]]) <|
 .ret, [.t 2]⟩

def gantryref04_Of_l0 : C :=
 .seq (.seq (.seq (.seq (.reg [⟨some 8, .mov (.t 0), none⟩,
 ⟨some 9, .bin .neq (.t 8) (.c (.v (.int .i64 0))), none⟩] []) <|
 .keep [0, 2, 3, 4, 9] [[2], [19]]) <|
 .cond (.t 9) (.skip) <|
 .seq (.keep [2, 3, 4] [[2], [19]]) <|
 .exit 0) <|
 .seq (.blk 1 <|
 .seq (.seq (.reg [⟨some 10, .mov (.t 0), none⟩,
 ⟨some 11, .bin .rem (.t 10) (.c (.v (.int .i64 1000000000))), none⟩,
 ⟨some 5, .mov (.t 11), none⟩] []) <|
 .keep [0, 2, 3, 4, 5] [[2], [19]]) <|
 .seq (.seq (.seq (.reg [⟨some 12, .mov (.t 5), none⟩,
 ⟨some 13, .bin .lss (.t 12) (.c (.v (.int .i64 0))), none⟩] []) <|
 .keep [0, 2, 3, 4, 5, 13] [[2], [19]]) <|
 .cond (.t 13) (.seq (.reg [⟨some 14, .mov (.t 5), none⟩,
 ⟨some 15, .un .neg (.t 14), none⟩,
 ⟨some 5, .mov (.t 15), none⟩] []) <|
 .keep [0, 2, 3, 4, 5] [[2], [19]]) <|
 .skip) <|
 .seq (.seq (.reg [⟨some 16, .mov (.t 3), none⟩,
 ⟨some 17, .mov (.t 5), none⟩,
 ⟨some 18, .lit 1 1 [.v (.int .i64 0)] [(0, (.t 17))] true, none⟩,
 ⟨some 19, .app 1 8 (.t 16) (.t 18) false, none⟩,
 ⟨some 3, .mov (.t 19), none⟩] []) <|
 .keep [0, 2, 3, 4] [[2], [19]]) <|
 .seq (.reg [⟨some 20, .mov (.t 0), none⟩,
 ⟨some 21, .bin .quo (.t 20) (.c (.v (.int .i64 1000000000))), none⟩,
 ⟨some 0, .mov (.t 21), none⟩] []) <|
 .keep [0, 2, 3, 4] [[2], [19]]) <|
 .keep [0, 2, 3, 4] [[2], [19]]) <|
 .keep [0, 2, 3, 4] [[2], [19]]
def gantryref04_Of : CF := ⟨1, .seq (.seq (.reg [⟨some 2, .new [.v (.bool false), .z true], none⟩] []) <|
 .keep [0, 2] [[2]]) <|
 .seq (.seq (.reg [⟨some 3, .mov (.c (.z true)), none⟩] []) <|
 .keep [0, 2, 3] [[2], [19]]) <|
 .seq (.seq (.reg [⟨some 6, .mov (.t 0), none⟩,
 ⟨some 7, .bin .lss (.t 6) (.c (.v (.int .i64 0))), none⟩,
 ⟨some 4, .mov (.t 7), none⟩] []) <|
 .keep [0, 2, 3, 4] [[2], [19]]) <|
 .seq (.seq (.blk 0 <|
 .seq (.keep [0, 2, 3, 4] [[2], [19]]) <|
 .loop gantryref04_Of_l0) <|
 .keep [2, 3, 4] [[2], [19]]) <|
 .seq (.seq (.frz 3) <|
 .seq (.reg [⟨some 22, .mov (.t 4), none⟩,
 ⟨some 23, .mov (.t 3), none⟩,
 ⟨some 24, .call n_gantryref04_normal [(.t 22), (.t 23)] false, none⟩,
 ⟨none, .store 2 (.t 2) (.t 24), none⟩] []) <|
 .keep [2] [[2]]) <|
 .ret, [.cell 2 (some 2)]⟩

def gantryref05_Decode : CF := ⟨1, .seq (.seq (.reg [⟨some 2, .new [.v (.bool false), .z true, .v (.bool false), .z true], none⟩,
 ⟨some 3, .mov (.c (.v (.int .i64 0))), none⟩,
 ⟨some 4, .mov (.c (.v (.int .i64 0))), none⟩] []) <|
 .keep [0, 2] [[2]]) <|
 .seq (.seq (.reg [⟨some 13, .mov (.t 0), none⟩,
 ⟨some 14, .call n_gantryref04_Decode [(.t 13)] false, none⟩,
 ⟨some 12, .mov (.t 14), none⟩,
 ⟨some 15, .ext (.t 12) 0, none⟩,
 ⟨some 16, .ext (.t 12) 1, none⟩,
 ⟨some 17, .ext (.t 12) 2, none⟩,
 ⟨some 5, .new [.v (.bool false), .z true], none⟩,
 ⟨none, .store 2 (.t 5) (.t 15), none⟩,
 ⟨some 6, .mov (.t 16), none⟩,
 ⟨some 7, .mov (.t 17), none⟩] []) <|
 .keep [0, 2, 5, 6, 7] [[2], [5]]) <|
 .seq (.seq (.seq (.reg [⟨some 18, .mov (.t 7), none⟩,
 ⟨some 19, .bin .neq (.t 18) (.c (.v (.int .i64 0))), none⟩] []) <|
 .keep [0, 2, 5, 6, 7, 19] [[2], [5]]) <|
 .cond (.t 19) (.seq (.seq (.reg [⟨some 20, .build [.v (.bool false), .z true, .v (.bool false), .z true] [], none⟩,
 ⟨some 21, .mov (.t 7), none⟩,
 ⟨none, .store 4 (.t 2) (.t 20), none⟩,
 ⟨some 3, .mov (.c (.v (.int .i64 0))), none⟩,
 ⟨some 4, .mov (.t 21), none⟩] []) <|
 .keep [2, 3, 4] [[2]]) <|
 .ret) <|
 .skip) <|
 .seq (.seq (.reg [⟨some 23, .mov (.t 0), none⟩,
 ⟨some 24, .mov (.t 6), none⟩,
 ⟨some 25, .slc 1 (.t 23) (some (.t 24)) none none, none⟩,
 ⟨some 26, .call n_gantryref04_Decode [(.t 25)] false, none⟩,
 ⟨some 22, .mov (.t 26), none⟩,
 ⟨some 27, .ext (.t 22) 0, none⟩,
 ⟨some 28, .ext (.t 22) 1, none⟩,
 ⟨some 29, .ext (.t 22) 2, none⟩,
 ⟨some 8, .new [.v (.bool false), .z true], none⟩,
 ⟨none, .store 2 (.t 8) (.t 27), none⟩,
 ⟨some 9, .mov (.t 28), none⟩,
 ⟨some 10, .mov (.t 29), none⟩] []) <|
 .keep [2, 5, 6, 8, 9, 10] [[2], [5], [8]]) <|
 .seq (.seq (.seq (.reg [⟨some 30, .mov (.t 10), none⟩,
 ⟨some 31, .bin .neq (.t 30) (.c (.v (.int .i64 0))), none⟩] []) <|
 .keep [2, 5, 6, 8, 9, 10, 31] [[2], [5], [8]]) <|
 .cond (.t 31) (.seq (.seq (.reg [⟨some 32, .build [.v (.bool false), .z true, .v (.bool false), .z true] [], none⟩,
 ⟨some 33, .mov (.t 10), none⟩,
 ⟨none, .store 4 (.t 2) (.t 32), none⟩,
 ⟨some 3, .mov (.c (.v (.int .i64 0))), none⟩,
 ⟨some 4, .mov (.t 33), none⟩] []) <|
 .keep [2, 3, 4] [[2]]) <|
 .ret) <|
 .skip) <|
 .seq (.seq (.reg [⟨some 34, .load (some 2) (.t 5), none⟩,
 ⟨some 35, .load (some 2) (.t 8), none⟩,
 ⟨some 36, .build [.v (.bool false), .z true, .v (.bool false), .z true] [(0, 2, (.t 34)), (2, 2, (.t 35))], none⟩,
 ⟨some 11, .new [.v (.bool false), .z true, .v (.bool false), .z true], none⟩,
 ⟨none, .store 4 (.t 11) (.t 36), none⟩] []) <|
 .keep [2, 6, 9, 11] [[2], [11]]) <|
 .seq (.seq (.seq (.reg [⟨some 37, .load (some 4) (.t 11), none⟩,
 ⟨some 38, .call n_gantryref05_Valid [(.t 37)] false, none⟩,
 ⟨some 39, .un .not (.t 38), none⟩] []) <|
 .keep [2, 6, 9, 11, 39] [[2], [11]]) <|
 .cond (.t 39) (.seq (.seq (.reg [⟨some 40, .build [.v (.bool false), .z true, .v (.bool false), .z true] [], none⟩,
 ⟨none, .store 4 (.t 2) (.t 40), none⟩,
 ⟨some 3, .mov (.c (.v (.int .i64 0))), none⟩,
 ⟨some 4, .mov (.c (.v (.int .i64 2))), none⟩] []) <|
 .keep [2, 3, 4] [[2]]) <|
 .ret) <|
 .skip) <|
 .seq (.seq (.reg [⟨some 41, .load (some 4) (.t 11), none⟩,
 ⟨some 42, .mov (.t 6), none⟩,
 ⟨some 43, .mov (.t 9), none⟩,
 ⟨some 44, .bin .add (.t 42) (.t 43), none⟩,
 ⟨none, .store 4 (.t 2) (.t 41), none⟩,
 ⟨some 3, .mov (.t 44), none⟩,
 ⟨some 4, .mov (.c (.v (.int .i64 0))), none⟩] []) <|
 .keep [2, 3, 4] [[2]]) <|
 .ret, [.cell 2 (some 4), .t 3, .t 4]⟩

def gantryref04_Number_l0 : C :=
 .seq (.seq (.seq (.seq (.reg [⟨some 72, .mov (.t 10), none⟩,
 ⟨some 73, .mov (.t 6), none⟩,
 ⟨some 74, .bin .quo (.t 73) (.c (.v (.int .i64 2))), none⟩,
 ⟨some 75, .bin .rem (.t 74) (.c (.v (.int .i64 5))), none⟩,
 ⟨some 76, .bin .add (.c (.v (.int .i64 1))) (.t 75), none⟩,
 ⟨some 77, .bin .lss (.t 72) (.t 76), none⟩] []) <|
 .keep [0, 1, 4, 6, 7, 8, 10, 77] [[4], [39], [91]]) <|
 .cond (.t 77) (.skip) <|
 .seq (.keep [4, 7, 8] [[4], [39], [91]]) <|
 .exit 3) <|
 .seq (.seq (.blk 4 <|
 .seq (.reg [⟨some 80, .mov (.t 8), none⟩,
 ⟨some 81, .lit 1 4 [.v (.int .i64 0)] [(0, (.c (.v (.int .i64 0)))), (1, (.c (.v (.int .i64 999999999)))), (2, (.c (.v (.int .i64 1)))), (3, (.c (.v (.int .i64 500000000))))] true, none⟩,
 ⟨some 82, .mov (.t 0), none⟩,
 ⟨some 83, .mov (.t 1), none⟩,
 ⟨some 84, .bin .add (.t 83) (.c (.v (.int .i64 2))), none⟩,
 ⟨some 85, .mov (.t 10), none⟩,
 ⟨some 86, .bin .add (.t 84) (.t 85), none⟩,
 ⟨some 87, .call n_gantryref01_At [(.t 82), (.t 86), (.c (.v (.int .i64 4)))] false, none⟩,
 ⟨some 88, .ixa 1 (.t 81) (.t 87), none⟩,
 ⟨some 89, .load none (.t 88), none⟩,
 ⟨some 90, .lit 1 1 [.v (.int .i64 0)] [(0, (.t 89))] true, none⟩,
 ⟨some 91, .app 1 8 (.t 80) (.t 90) false, none⟩,
 ⟨some 8, .mov (.t 91), none⟩] []) <|
 .keep [0, 1, 4, 6, 7, 8, 10] [[4], [39], [91]]) <|
 .keep [0, 1, 4, 6, 7, 8, 10] [[4], [39], [91]]) <|
 .seq (.reg [⟨some 78, .mov (.t 10), none⟩,
 ⟨some 79, .bin .add (.t 78) (.c (.v (.int .i64 1))), none⟩,
 ⟨some 10, .mov (.t 79), none⟩] []) <|
 .keep [0, 1, 4, 6, 7, 8, 10] [[4], [39], [91]]) <|
 .keep [0, 1, 4, 6, 7, 8, 10] [[4], [39], [91]]
def gantryref04_Number_l1 : C :=
 .seq (.seq (.seq (.seq (.reg [⟨some 23, .mov (.t 11), none⟩,
 ⟨some 24, .mov (.t 6), none⟩,
 ⟨some 25, .bin .quo (.t 24) (.c (.v (.int .i64 2))), none⟩,
 ⟨some 26, .bin .rem (.t 25) (.c (.v (.int .i64 6))), none⟩,
 ⟨some 27, .bin .add (.c (.v (.int .i64 1))) (.t 26), none⟩,
 ⟨some 28, .bin .lss (.t 23) (.t 27), none⟩] []) <|
 .keep [0, 1, 4, 6, 7, 8, 11, 28] [[4], [39], [91]]) <|
 .cond (.t 28) (.skip) <|
 .seq (.keep [4, 7, 8] [[4], [39], [91]]) <|
 .exit 1) <|
 .seq (.seq (.blk 2 <|
 .seq (.reg [⟨some 31, .mov (.t 8), none⟩,
 ⟨some 32, .mov (.t 0), none⟩,
 ⟨some 33, .mov (.t 1), none⟩,
 ⟨some 34, .bin .add (.t 33) (.c (.v (.int .i64 2))), none⟩,
 ⟨some 35, .mov (.t 11), none⟩,
 ⟨some 36, .bin .add (.t 34) (.t 35), none⟩,
 ⟨some 37, .call n_gantryref01_At [(.t 32), (.t 36), (.c (.v (.int .i64 1000000000)))] false, none⟩,
 ⟨some 38, .lit 1 1 [.v (.int .i64 0)] [(0, (.t 37))] true, none⟩,
 ⟨some 39, .app 1 8 (.t 31) (.t 38) false, none⟩,
 ⟨some 8, .mov (.t 39), none⟩] []) <|
 .keep [0, 1, 4, 6, 7, 8, 11] [[4], [39], [91]]) <|
 .keep [0, 1, 4, 6, 7, 8, 11] [[4], [39], [91]]) <|
 .seq (.reg [⟨some 29, .mov (.t 11), none⟩,
 ⟨some 30, .bin .add (.t 29) (.c (.v (.int .i64 1))), none⟩,
 ⟨some 11, .mov (.t 30), none⟩] []) <|
 .keep [0, 1, 4, 6, 7, 8, 11] [[4], [39], [91]]) <|
 .keep [0, 1, 4, 6, 7, 8, 11] [[4], [39], [91]]
def gantryref04_Number : CF := ⟨2, .seq (.seq (.reg [⟨some 4, .new [.v (.bool false), .z true], none⟩] []) <|
 .keep [0, 1, 4] [[4]]) <|
 .seq (.seq (.reg [⟨some 12, .mov (.t 0), none⟩,
 ⟨some 13, .mov (.t 1), none⟩,
 ⟨some 14, .call n_gantryref01_At [(.t 12), (.t 13), (.c (.v (.int .i64 6)))] false, none⟩,
 ⟨some 5, .mov (.t 14), none⟩] []) <|
 .keep [0, 1, 4, 5] [[4]]) <|
 .seq (.seq (.reg [⟨some 15, .mov (.t 0), none⟩,
 ⟨some 16, .mov (.t 1), none⟩,
 ⟨some 17, .bin .add (.t 16) (.c (.v (.int .i64 1))), none⟩,
 ⟨some 18, .call n_gantryref01_At [(.t 15), (.t 17), (.c (.v (.int .i64 1000000)))] false, none⟩,
 ⟨some 6, .mov (.t 18), none⟩] []) <|
 .keep [0, 1, 4, 5, 6] [[4]]) <|
 .seq (.seq (.reg [⟨some 19, .mov (.t 6), none⟩,
 ⟨some 20, .bin .rem (.t 19) (.c (.v (.int .i64 2))), none⟩,
 ⟨some 21, .bin .eql (.t 20) (.c (.v (.int .i64 1))), none⟩,
 ⟨some 7, .mov (.t 21), none⟩] []) <|
 .keep [0, 1, 4, 5, 6, 7] [[4]]) <|
 .seq (.seq (.reg [⟨some 8, .mov (.c (.z true)), none⟩] []) <|
 .keep [0, 1, 4, 5, 6, 7, 8] [[4], [39], [91]]) <|
 .seq (.seq (.seq (.reg [⟨some 22, .mov (.t 5), none⟩] []) <|
 .keep [0, 1, 4, 6, 7, 8, 22] [[4], [39], [91]]) <|
 .seq (.blk 0 <|
 .seq (.seq (.reg [⟨some 41, .bin .eql (.t 22) (.c (.v (.int .i64 0))), none⟩,
 ⟨some 40, .mov (.t 41), none⟩] []) <|
 .keep [0, 1, 4, 6, 7, 8, 22, 40] [[4], [39], [91]]) <|
 .cond (.t 40) (.seq (.seq (.reg [⟨some 42, .mov (.t 6), none⟩,
 ⟨some 43, .bin .rem (.t 42) (.c (.v (.int .i64 41))), none⟩,
 ⟨some 44, .bin .sub (.t 43) (.c (.v (.int .i64 20))), none⟩,
 ⟨some 45, .call n_gantryref04_Of [(.t 44)] false, none⟩,
 ⟨none, .store 2 (.t 4) (.t 45), none⟩] []) <|
 .keep [4] [[4]]) <|
 .ret) <|
 .seq (.seq (.reg [⟨some 47, .bin .eql (.t 22) (.c (.v (.int .i64 1))), none⟩,
 ⟨some 46, .mov (.t 47), none⟩] []) <|
 .keep [0, 1, 4, 6, 7, 8, 22, 46] [[4], [39], [91]]) <|
 .cond (.t 46) (.seq (.seq (.reg [⟨some 48, .mov (.t 6), none⟩,
 ⟨some 49, .bin .sub (.t 48) (.c (.v (.int .i64 500000))), none⟩,
 ⟨some 50, .call n_gantryref04_Of [(.t 49)] false, none⟩,
 ⟨none, .store 2 (.t 4) (.t 50), none⟩] []) <|
 .keep [4] [[4]]) <|
 .ret) <|
 .seq (.seq (.reg [⟨some 52, .bin .eql (.t 22) (.c (.v (.int .i64 2))), none⟩,
 ⟨some 51, .mov (.t 52), none⟩] []) <|
 .keep [0, 1, 4, 6, 7, 8, 22, 51] [[4], [39], [91]]) <|
 .cond (.t 51) (.seq (.seq (.reg [⟨some 53, .mov (.t 6), none⟩,
 ⟨some 54, .bin .quo (.t 53) (.c (.v (.int .i64 2))), none⟩,
 ⟨some 55, .bin .rem (.t 54) (.c (.v (.int .i64 30))), none⟩,
 ⟨some 56, .call n_gantryref04_Power [(.t 55)] false, none⟩,
 ⟨some 57, .mov (.t 6), none⟩,
 ⟨some 58, .bin .quo (.t 57) (.c (.v (.int .i64 60))), none⟩,
 ⟨some 59, .bin .rem (.t 58) (.c (.v (.int .i64 5))), none⟩,
 ⟨some 60, .bin .sub (.t 59) (.c (.v (.int .i64 2))), none⟩,
 ⟨some 61, .call n_gantryref04_Of [(.t 60)] false, none⟩,
 ⟨some 62, .call n_gantryref04_Add [(.t 56), (.t 61)] false, none⟩,
 ⟨some 9, .new [.v (.bool false), .z true], none⟩,
 ⟨none, .store 2 (.t 9) (.t 62), none⟩] []) <|
 .keep [4, 7, 9] [[4], [9]]) <|
 .seq (.seq (.reg [⟨some 63, .mov (.t 7), none⟩,
 ⟨some 64, .fad 0 (.t 9), none⟩,
 ⟨some 65, .load none (.t 64), none⟩,
 ⟨some 66, .binb true (.t 63) (.t 65), none⟩,
 ⟨some 67, .fad 1 (.t 9), none⟩,
 ⟨some 68, .load none (.t 67), none⟩,
 ⟨some 69, .call n_gantryref04_normal [(.t 66), (.t 68)] false, none⟩,
 ⟨none, .store 2 (.t 4) (.t 69), none⟩] []) <|
 .keep [4] [[4]]) <|
 .ret) <|
 .seq (.seq (.reg [⟨some 71, .bin .eql (.t 22) (.c (.v (.int .i64 3))), none⟩,
 ⟨some 70, .mov (.t 71), none⟩] []) <|
 .keep [0, 1, 4, 6, 7, 8, 70] [[4], [39], [91]]) <|
 .cond (.t 70) (.seq (.seq (.reg [⟨some 10, .mov (.c (.v (.int .i64 0))), none⟩] []) <|
 .keep [0, 1, 4, 6, 7, 8, 10] [[4], [39], [91]]) <|
 .seq (.blk 3 <|
 .seq (.keep [0, 1, 4, 6, 7, 8, 10] [[4], [39], [91]]) <|
 .loop gantryref04_Number_l0) <|
 .keep [4, 7, 8] [[4], [39], [91]]) <|
 .seq (.seq (.reg [⟨some 11, .mov (.c (.v (.int .i64 0))), none⟩] []) <|
 .keep [0, 1, 4, 6, 7, 8, 11] [[4], [39], [91]]) <|
 .seq (.blk 1 <|
 .seq (.keep [0, 1, 4, 6, 7, 8, 11] [[4], [39], [91]]) <|
 .loop gantryref04_Number_l1) <|
 .keep [4, 7, 8] [[4], [39], [91]]) <|
 .keep [4, 7, 8] [[4], [39], [91]]) <|
 .seq (.seq (.frz 8) <|
 .seq (.reg [⟨some 92, .mov (.t 7), none⟩,
 ⟨some 93, .mov (.t 8), none⟩,
 ⟨some 94, .call n_gantryref04_normal [(.t 92), (.t 93)] false, none⟩,
 ⟨none, .store 2 (.t 4) (.t 94), none⟩] []) <|
 .keep [4] [[4]]) <|
 .ret, [.cell 4 (some 2)]⟩

def gantryref05_Make : CF := ⟨2, .seq (.seq (.reg [⟨some 2, .box (.t 0), none⟩,
 ⟨some 3, .box (.t 1), none⟩,
 ⟨some 4, .new [.v (.bool false), .z true, .v (.bool false), .z true], none⟩] []) <|
 .keep [2, 3, 4] [[2], [3], [4]]) <|
 .seq (.seq (.seq (.reg [⟨some 10, .fad 1 (.t 3), none⟩,
 ⟨some 11, .load none (.t 10), none⟩,
 ⟨some 12, .len (.t 11), none⟩,
 ⟨some 13, .bin .eql (.t 12) (.c (.v (.int .i64 0))), none⟩,
 ⟨some 14, .mov (.t 13), none⟩,
 ⟨some 15, .fad 1 (.t 2), (some (14, false))⟩,
 ⟨some 16, .load none (.t 15), (some (14, false))⟩,
 ⟨some 17, .len (.t 16), (some (14, false))⟩,
 ⟨some 18, .bin .eql (.t 17) (.c (.v (.int .i64 0))), (some (14, false))⟩,
 ⟨some 19, .pick (.t 14) (.c (.v (.bool true))) (.t 18), none⟩] []) <|
 .keep [2, 3, 4, 19] [[2], [3], [4]]) <|
 .cond (.t 19) (.seq (.seq (.reg [⟨some 20, .build [.v (.bool false), .z true, .v (.bool false), .z true] [], none⟩,
 ⟨none, .store 4 (.t 4) (.t 20), none⟩] []) <|
 .keep [4] [[4]]) <|
 .ret) <|
 .skip) <|
 .seq (.seq (.reg [⟨some 21, .load (some 2) (.t 2), none⟩,
 ⟨some 22, .load (some 2) (.t 3), none⟩,
 ⟨some 23, .call n_gantryref04_Gcd [(.t 21), (.t 22)] false, none⟩,
 ⟨some 5, .new [.v (.bool false), .z true], none⟩,
 ⟨none, .store 2 (.t 5) (.t 23), none⟩] []) <|
 .keep [2, 3, 4, 5] [[2], [3], [4], [5]]) <|
 .seq (.seq (.reg [⟨some 25, .load (some 2) (.t 2), none⟩,
 ⟨some 26, .load (some 2) (.t 5), none⟩,
 ⟨some 27, .call n_gantryref04_Div [(.t 25), (.t 26)] false, none⟩,
 ⟨some 24, .mov (.t 27), none⟩,
 ⟨some 28, .ext (.t 24) 0, none⟩,
 ⟨some 29, .ext (.t 24) 1, none⟩,
 ⟨some 6, .new [.v (.bool false), .z true], none⟩,
 ⟨some 7, .new [.v (.bool false), .z true], none⟩,
 ⟨none, .store 2 (.t 6) (.t 28), none⟩,
 ⟨none, .store 2 (.t 7) (.t 29), none⟩] []) <|
 .keep [3, 4, 5, 6] [[3], [4], [5], [6]]) <|
 .seq (.seq (.reg [⟨some 31, .load (some 2) (.t 3), none⟩,
 ⟨some 32, .load (some 2) (.t 5), none⟩,
 ⟨some 33, .call n_gantryref04_Div [(.t 31), (.t 32)] false, none⟩,
 ⟨some 30, .mov (.t 33), none⟩,
 ⟨some 34, .ext (.t 30) 0, none⟩,
 ⟨some 35, .ext (.t 30) 1, none⟩,
 ⟨some 8, .new [.v (.bool false), .z true], none⟩,
 ⟨some 9, .new [.v (.bool false), .z true], none⟩,
 ⟨none, .store 2 (.t 8) (.t 34), none⟩,
 ⟨none, .store 2 (.t 9) (.t 35), none⟩] []) <|
 .keep [4, 6, 8] [[4], [6], [8]]) <|
 .seq (.seq (.seq (.reg [⟨some 36, .fad 0 (.t 8), none⟩,
 ⟨some 37, .load none (.t 36), none⟩] []) <|
 .keep [4, 6, 8, 37] [[4], [6], [8]]) <|
 .cond (.t 37) (.seq (.seq (.reg [⟨some 38, .load (some 2) (.t 6), none⟩,
 ⟨some 39, .call n_gantryref04_Neg [(.t 38)] false, none⟩,
 ⟨none, .store 2 (.t 6) (.t 39), none⟩] []) <|
 .keep [4, 6, 8] [[4], [6], [8]]) <|
 .seq (.reg [⟨some 40, .load (some 2) (.t 8), none⟩,
 ⟨some 41, .call n_gantryref04_Neg [(.t 40)] false, none⟩,
 ⟨none, .store 2 (.t 8) (.t 41), none⟩] []) <|
 .keep [4, 6, 8] [[4], [6], [8]]) <|
 .skip) <|
 .seq (.seq (.seq (.reg [⟨some 42, .load (some 2) (.t 8), none⟩,
 ⟨some 43, .call n_gantryref05_one [(.t 42)] false, none⟩] []) <|
 .keep [4, 6, 8, 43] [[4], [6], [8]]) <|
 .cond (.t 43) (.seq (.seq (.reg [⟨some 44, .load (some 2) (.t 6), none⟩,
 ⟨some 45, .build [.v (.bool false), .z true, .v (.bool false), .z true] [(0, 2, (.t 44))], none⟩,
 ⟨none, .store 4 (.t 4) (.t 45), none⟩] []) <|
 .keep [4] [[4]]) <|
 .ret) <|
 .skip) <|
 .seq (.seq (.reg [⟨some 46, .load (some 2) (.t 6), none⟩,
 ⟨some 47, .load (some 2) (.t 8), none⟩,
 ⟨some 48, .build [.v (.bool false), .z true, .v (.bool false), .z true] [(0, 2, (.t 46)), (2, 2, (.t 47))], none⟩,
 ⟨none, .store 4 (.t 4) (.t 48), none⟩] []) <|
 .keep [4] [[4]]) <|
 .ret, [.cell 4 (some 4)]⟩

def gantryref01_Take : CF := ⟨2, .seq (.seq (.reg [⟨some 4, .mov (.c (.z true)), none⟩] []) <|
 .keep [0, 1] []) <|
 .seq (.seq (.reg [⟨some 5, .mov (.c (.z true)), none⟩] []) <|
 .keep [0, 1, 5] []) <|
 .seq (.seq (.reg [⟨some 6, .mov (.t 5), none⟩,
 ⟨some 7, .mov (.t 0), none⟩,
 ⟨some 8, .mov (.t 0), none⟩,
 ⟨some 9, .len (.t 8), none⟩,
 ⟨some 10, .mov (.t 1), none⟩,
 ⟨some 11, .mn [(.t 9), (.t 10)], none⟩,
 ⟨some 12, .slc 1 (.t 7) none (some (.t 11)) none, none⟩,
 ⟨some 13, .app 1 8 (.t 6) (.t 12) true, none⟩,
 ⟨some 4, .mov (.t 13), none⟩] []) <|
 .keep [4] [[13]]) <|
 .ret, [.t 4]⟩
end Go.AM

