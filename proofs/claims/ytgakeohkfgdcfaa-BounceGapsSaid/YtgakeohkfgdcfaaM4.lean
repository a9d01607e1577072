/- Part 4 of the proof: a small machine, its soundness against the model, and what the program's functions compute on it. -/
import Derived.Test.YtgakeohkfgdcfaaM0
import Derived.Test.YtgakeohkfgdcfaaProg
import Derived.KernelRfl
import Derived.Test.YtgakeohkfgdcfaaM3
set_option linter.unusedVariables false
set_option linter.unusedSimpArgs false
set_option maxRecDepth 100000
namespace Go.AM
open Go Go.Proofs
abbrev n_gantrylaw17_BounceLimits : Nat := 3
abbrev n_gantrylaw17_BounceFlights : Nat := 4
abbrev n_gantrylaw17_BounceHeights : Nat := 5
abbrev n_gantrylaw17_BounceNext : Nat := 6
abbrev n_gantrylaw17_BounceContracts : Nat := 7
abbrev n_gantrylaw17_BounceScaled : Nat := 8
abbrev n_gantrylaw17_BounceGaps : Nat := 9
abbrev n_gantryref17_Some : Nat := 10
abbrev n_gantryref17_Time : Nat := 11
abbrev n_gantryref01_Around : Nat := 12
abbrev n_gantrylaw17_same : Nat := 13
abbrev n_bounce_Loss : Nat := 14
abbrev n_gantrylaw17_given : Nat := 15
abbrev n_gantryref17_Loss : Nat := 16
abbrev n_bounce_Valid : Nat := 17
abbrev n_gantryref17_Valid : Nat := 18
abbrev n_bounce_Limit : Nat := 19
abbrev n_gantryref17_Limit : Nat := 20
abbrev n_bounce_Ends : Nat := 21
abbrev n_gantryref17_Ends : Nat := 22
abbrev n_gantrylaw17_lives : Nat := 23
abbrev n_bounce_Flight : Nat := 24
abbrev n_gantryref17_Flight : Nat := 25
abbrev n_bounce_Height : Nat := 26
abbrev n_gantryref17_Height : Nat := 27
abbrev n_rat_Sub : Nat := 28
abbrev n_rat_Mul : Nat := 29
abbrev n_rat_Add : Nat := 30
abbrev n_gantryref17_Power : Nat := 31
abbrev n_rat_Compare : Nat := 32
abbrev n_gantryref05_Of : Nat := 33
abbrev n_gantryref05_Mul : Nat := 34
abbrev n_poly_Trim : Nat := 35
abbrev n_rat_Neg : Nat := 36
abbrev n_rat_Sign : Nat := 37
abbrev n_poly_Eval : Nat := 38
abbrev n_gantryref01_At : Nat := 39
abbrev n_gantryref17_whole : Nat := 40
abbrev n_gantryref05_Neg : Nat := 41
abbrev n_gantryref17_Same : Nat := 42
abbrev n_bounce_within : Nat := 43
abbrev n_bounce_power_api_Rat : Nat := 44
abbrev n_bounce_one : Nat := 45
abbrev n_gantryref05_Sub : Nat := 46
abbrev n_gantryref05_Sign : Nat := 47
abbrev n_gantryref05_Compare : Nat := 48
abbrev n_bounce_double : Nat := 49
abbrev n_gantryref05_Div : Nat := 50
abbrev n_gantrylaw17_whole : Nat := 51
abbrev n_bounce_Series_flights : Nat := 52
abbrev n_gantryref17_duration : Nat := 53
abbrev n_rat_Of : Nat := 54
abbrev n_integer_Mul : Nat := 55
abbrev n_rat_Make : Nat := 56
abbrev n_rat_Den : Nat := 57
abbrev n_rat_lowest : Nat := 58
abbrev n_integer_Add : Nat := 59
abbrev n_integer_Compare : Nat := 60
abbrev n_integer_Of : Nat := 61
abbrev n_gantryref05_Make : Nat := 62
abbrev n_gantryref04_Of : Nat := 63
abbrev n_gantryref04_Mul : Nat := 64
abbrev n_gantryref05_Den : Nat := 65
abbrev n_slices_Clone_api_Poly_api_Rat : Nat := 66
abbrev n_integer_Neg : Nat := 67
abbrev n_integer_Sign : Nat := 68
abbrev n_slices_Backward_api_Poly_api_Rat : Nat := 69
abbrev n_gantryref04_Neg : Nat := 70
abbrev n_gantryref05_Add : Nat := 71
abbrev n_gantryref04_Sign : Nat := 72
abbrev n_gantryref04_Compare : Nat := 73
abbrev n_rat_Div : Nat := 74
abbrev n_bounce_Series_flights_1 : Nat := 75
abbrev n_integer_unsigned : Nat := 76
abbrev n_integer_of : Nat := 77
abbrev n_integer_Gcd : Nat := 78
abbrev n_rat_unit : Nat := 79
abbrev n_integer_Div : Nat := 80
abbrev n_rat_one : Nat := 81
abbrev n_integer_plus : Nat := 82
abbrev n_integer_compare : Nat := 83
abbrev n_integer_minus : Nat := 84
abbrev n_gantryref04_Gcd : Nat := 85
abbrev n_gantryref04_Div : Nat := 86
abbrev n_gantryref05_one : Nat := 87
abbrev n_gantryref04_normal : Nat := 88
abbrev n_slices_Backward_api_Poly_api_Rat_1 : Nat := 89
abbrev n_gantryref04_Add : Nat := 90
abbrev n_gantryref04_compared : Nat := 91
abbrev n_integer_two : Nat := 92
abbrev n_integer_divide : Nat := 93
abbrev n_cmp_Compare_int : Nat := 94
abbrev n_gantryref04_tiny : Nat := 95
abbrev n_gantryref04_divided : Nat := 96
abbrev n_gantryref04_minus : Nat := 97
abbrev n_gantryref04_plus : Nat := 98
abbrev n_integer_short : Nat := 99
abbrev n_integer_long : Nat := 100
abbrev n_cmp_isNaN_int : Nat := 101
abbrev n_gantryref04_digit : Nat := 102
abbrev n_gantryref04_times : Nat := 103
abbrev n_integer_scaled : Nat := 104
abbrev n_runtime_boundsError_Error : Nat := 105
abbrev n_runtime_boundsError_RuntimeError : Nat := 106
abbrev n_runtime_errorString_Error : Nat := 107
abbrev n_runtime_errorString_RuntimeError : Nat := 108
abbrev n_runtime_plainError_Error : Nat := 109
abbrev n_runtime_plainError_RuntimeError : Nat := 110
abbrev n_runtime_errorAddressString_Error : Nat := 111
abbrev n_runtime_errorAddressString_RuntimeError : Nat := 112
abbrev n_runtime_TypeAssertionError_Error : Nat := 113
abbrev n_runtime_TypeAssertionError_RuntimeError : Nat := 114
abbrev n_runtime_PanicNilError_Error : Nat := 115
abbrev n_runtime_PanicNilError_RuntimeError : Nat := 116
abbrev n_internal_abi_Type_Align : Nat := 117
abbrev n_internal_runtime_maps_unhashableTypeError_Error : Nat := 118
abbrev n_internal_runtime_maps_unhashableTypeError_RuntimeError : Nat := 119
abbrev n_internal_abi_Kind_String : Nat := 120

/- 3: gantry/gantrylaw17.BounceLimits -/
def gantrylaw17_BounceLimits_l0 : C :=
  .seq (.seq (.seq (.seq (.reg [⟨(some 21), .mov (.t 10), none⟩,
    ⟨(some 22), .bin .lss (.t 21) (.c (.v (.int .i64 2))), none⟩] []) <|
  .keep [7, 8, 9, 10, 22] [[7], [8]]) <|
  .cond (.t 22) (.skip) <|
  .seq (.keep [7, 8] [[7], [8]]) <|
  .exit 0) <|
  .seq (.seq (.blk 1 <|
  .seq (.seq (.reg [⟨(some 25), .load (some 12) (.t 7), none⟩,
    ⟨(some 26), .call n_gantrylaw17_given [(.t 25)] false, none⟩,
    ⟨(some 27), .mov (.t 9), none⟩,
    ⟨(some 28), .mov (.t 10), none⟩,
    ⟨(some 29), .ixa 1 (.t 27) (.t 28), none⟩,
    ⟨(some 30), .load none (.t 29), none⟩,
    ⟨(some 31), .call n_bounce_Loss [(.t 26), (.t 30)] false, none⟩,
    ⟨(some 32), .load (some 12) (.t 7), none⟩,
    ⟨(some 33), .mov (.t 9), none⟩,
    ⟨(some 34), .mov (.t 10), none⟩,
    ⟨(some 35), .ixa 1 (.t 33) (.t 34), none⟩,
    ⟨(some 36), .load none (.t 35), none⟩,
    ⟨(some 37), .call n_gantryref17_Loss [(.t 32), (.t 36)] false, none⟩,
    ⟨(some 38), .call n_gantrylaw17_same [(.t 31), (.t 37)] false, none⟩,
    ⟨(some 39), .un .not (.t 38), none⟩] []) <|
  .keep [7, 8, 9, 10, 39] [[7], [8]]) <|
  .cond (.t 39) (.seq (.seq (.reg [⟨(some 6), .mov (.c (.v (.bool false))), none⟩] []) <|
  .keep [6] []) <|
  .ret) <|
  .skip) <|
  .keep [7, 8, 9, 10] [[7], [8]]) <|
  .seq (.reg [⟨(some 23), .mov (.t 10), none⟩,
    ⟨(some 24), .bin .add (.t 23) (.c (.v (.int .i64 1))), none⟩,
    ⟨(some 10), .mov (.t 24), none⟩] []) <|
  .keep [7, 8, 9, 10] [[7], [8]]) <|
  .keep [7, 8, 9, 10] [[7], [8]]
def gantrylaw17_BounceLimits : CF := ⟨3, .seq (.seq (.reg [⟨(some 6), .mov (.c (.v (.bool false))), none⟩] []) <|
  .keep [0, 1, 2] []) <|
  .seq (.seq (.reg [⟨(some 11), .mov (.t 0), none⟩,
    ⟨(some 12), .call n_gantryref17_Some [(.t 11)] false, none⟩,
    ⟨(some 7), .new [.v (.bool false), .z true, .v (.bool false), .z true, .v (.bool false), .z true, .v (.bool false), .z true, .v (.bool false), .z true, .v (.bool false), .z true], none⟩,
    ⟨none, .store 12 (.t 7) (.t 12), none⟩] []) <|
  .keep [1, 2, 7] [[7]]) <|
  .seq (.seq (.reg [⟨(some 13), .load (some 12) (.t 7), none⟩,
    ⟨(some 14), .mov (.t 1), none⟩,
    ⟨(some 15), .call n_gantryref17_Time [(.t 13), (.t 14)] false, none⟩,
    ⟨(some 8), .new [.v (.bool false), .z true, .v (.bool false), .z true], none⟩,
    ⟨none, .store 4 (.t 8) (.t 15), none⟩] []) <|
  .keep [2, 7, 8] [[7], [8]]) <|
  .seq (.seq (.reg [⟨(some 16), .mov (.t 2), none⟩,
    ⟨(some 17), .call n_gantryref01_Around [(.t 16), (.c (.v (.int .i64 70)))] false, none⟩,
    ⟨(some 18), .bin .sub (.t 17) (.c (.v (.int .i64 3))), none⟩,
    ⟨(some 19), .mov (.t 2), none⟩,
    ⟨(some 20), .lit 1 2 [.v (.int .i64 0)] [(0, (.t 18)), (1, (.t 19))] true, none⟩,
    ⟨(some 9), .mov (.t 20), none⟩] []) <|
  .keep [7, 8, 9] [[7], [8]]) <|
  .seq (.seq (.seq (.reg [⟨(some 10), .mov (.c (.v (.int .i64 0))), none⟩] []) <|
  .keep [7, 8, 9, 10] [[7], [8]]) <|
  .seq (.blk 0 <|
  .seq (.keep [7, 8, 9, 10] [[7], [8]]) <|
  .loop gantrylaw17_BounceLimits_l0) <|
  .keep [7, 8] [[7], [8]]) <|
  .seq (.seq (.reg [⟨(some 40), .load (some 12) (.t 7), none⟩,
    ⟨(some 41), .call n_gantrylaw17_given [(.t 40)] false, none⟩,
    ⟨(some 42), .call n_bounce_Valid [(.t 41)] false, none⟩,
    ⟨(some 43), .load (some 12) (.t 7), none⟩,
    ⟨(some 44), .call n_gantryref17_Valid [(.t 43)] false, none⟩,
    ⟨(some 45), .binb false (.t 42) (.t 44), none⟩,
    ⟨(some 46), .mov (.t 45), none⟩,
    ⟨(some 47), .load (some 12) (.t 7), (some (46, true))⟩,
    ⟨(some 48), .call n_gantrylaw17_given [(.t 47)] false, (some (46, true))⟩,
    ⟨(some 49), .call n_bounce_Limit [(.t 48)] false, (some (46, true))⟩,
    ⟨(some 50), .load (some 12) (.t 7), (some (46, true))⟩,
    ⟨(some 51), .call n_gantryref17_Limit [(.t 50)] false, (some (46, true))⟩,
    ⟨(some 52), .call n_gantrylaw17_same [(.t 49), (.t 51)] false, (some (46, true))⟩,
    ⟨(some 53), .pick (.t 46) (.t 52) (.c (.v (.bool false))), none⟩,
    ⟨(some 54), .mov (.t 53), none⟩,
    ⟨(some 55), .load (some 12) (.t 7), (some (54, true))⟩,
    ⟨(some 56), .call n_gantrylaw17_given [(.t 55)] false, (some (54, true))⟩,
    ⟨(some 57), .load (some 4) (.t 8), (some (54, true))⟩,
    ⟨(some 58), .call n_bounce_Ends [(.t 56), (.t 57)] false, (some (54, true))⟩,
    ⟨(some 59), .load (some 12) (.t 7), (some (54, true))⟩,
    ⟨(some 60), .load (some 4) (.t 8), (some (54, true))⟩,
    ⟨(some 61), .call n_gantryref17_Ends [(.t 59), (.t 60)] false, (some (54, true))⟩,
    ⟨(some 62), .binb false (.t 58) (.t 61), (some (54, true))⟩,
    ⟨(some 63), .pick (.t 54) (.t 62) (.c (.v (.bool false))), none⟩,
    ⟨(some 64), .mov (.t 63), none⟩,
    ⟨(some 65), .load (some 12) (.t 7), (some (64, true))⟩,
    ⟨(some 66), .call n_gantrylaw17_given [(.t 65)] false, (some (64, true))⟩,
    ⟨(some 67), .load (some 12) (.t 7), (some (64, true))⟩,
    ⟨(some 68), .call n_gantryref17_Limit [(.t 67)] false, (some (64, true))⟩,
    ⟨(some 69), .call n_bounce_Ends [(.t 66), (.t 68)] false, (some (64, true))⟩,
    ⟨(some 70), .load (some 12) (.t 7), (some (64, true))⟩,
    ⟨(some 71), .call n_gantryref17_Valid [(.t 70)] false, (some (64, true))⟩,
    ⟨(some 72), .binb false (.t 69) (.t 71), (some (64, true))⟩,
    ⟨(some 73), .pick (.t 64) (.t 72) (.c (.v (.bool false))), none⟩,
    ⟨(some 74), .mov (.t 73), none⟩,
    ⟨(some 75), .call n_gantrylaw17_lives [] false, (some (74, true))⟩,
    ⟨(some 76), .pick (.t 74) (.t 75) (.c (.v (.bool false))), none⟩,
    ⟨(some 6), .mov (.t 76), none⟩] []) <|
  .keep [6] []) <|
  .ret, [.t 6]⟩

/- 4: gantry/gantrylaw17.BounceFlights -/
def gantrylaw17_BounceFlights_l0 : C :=
  .seq (.seq (.seq (.seq (.reg [⟨(some 23), .mov (.t 7), none⟩,
    ⟨(some 24), .bin .lss (.t 23) (.c (.v (.int .i64 3))), none⟩] []) <|
  .keep [5, 6, 7, 24] [[5]]) <|
  .cond (.t 24) (.skip) <|
  .seq (.keep [] []) <|
  .exit 0) <|
  .seq (.seq (.blk 1 <|
  .seq (.seq (.reg [⟨(some 28), .load (some 12) (.t 5), none⟩,
    ⟨(some 29), .call n_gantrylaw17_given [(.t 28)] false, none⟩,
    ⟨(some 30), .mov (.t 6), none⟩,
    ⟨(some 31), .mov (.t 7), none⟩,
    ⟨(some 32), .ixa 1 (.t 30) (.t 31), none⟩,
    ⟨(some 33), .load none (.t 32), none⟩,
    ⟨(some 34), .call n_bounce_Flight [(.t 29), (.t 33)] false, none⟩,
    ⟨(some 27), .mov (.t 34), none⟩,
    ⟨(some 35), .ext (.t 27) 0, none⟩,
    ⟨(some 36), .ext (.t 27) 1, none⟩,
    ⟨(some 37), .ext (.t 27) 2, none⟩,
    ⟨(some 8), .new [.v (.bool false), .z true, .v (.bool false), .z true], none⟩,
    ⟨(some 9), .new [.v (.bool false), .z true, .v (.bool false), .z true], none⟩,
    ⟨(some 10), .new [.v (.bool false), .z true, .v (.bool false), .z true], none⟩,
    ⟨none, .store 4 (.t 8) (.t 35), none⟩,
    ⟨none, .store 4 (.t 9) (.t 36), none⟩,
    ⟨none, .store 4 (.t 10) (.t 37), none⟩] []) <|
  .keep [5, 6, 7, 8, 9, 10] [[5], [8], [9], [10]]) <|
  .seq (.seq (.reg [⟨(some 39), .load (some 12) (.t 5), none⟩,
    ⟨(some 40), .mov (.t 6), none⟩,
    ⟨(some 41), .mov (.t 7), none⟩,
    ⟨(some 42), .ixa 1 (.t 40) (.t 41), none⟩,
    ⟨(some 43), .load none (.t 42), none⟩,
    ⟨(some 44), .call n_gantryref17_Flight [(.t 39), (.t 43)] false, none⟩,
    ⟨(some 38), .mov (.t 44), none⟩,
    ⟨(some 45), .ext (.t 38) 0, none⟩,
    ⟨(some 46), .ext (.t 38) 1, none⟩,
    ⟨(some 47), .ext (.t 38) 2, none⟩,
    ⟨(some 11), .new [.v (.bool false), .z true, .v (.bool false), .z true], none⟩,
    ⟨(some 12), .new [.v (.bool false), .z true, .v (.bool false), .z true], none⟩,
    ⟨(some 13), .new [.v (.bool false), .z true, .v (.bool false), .z true], none⟩,
    ⟨none, .store 4 (.t 11) (.t 45), none⟩,
    ⟨none, .store 4 (.t 12) (.t 46), none⟩,
    ⟨none, .store 4 (.t 13) (.t 47), none⟩] []) <|
  .keep [5, 6, 7, 8, 9, 10, 11, 12, 13] [[5], [8], [9], [10], [11], [12], [13]]) <|
  .seq (.seq (.reg [⟨(some 48), .load (some 4) (.t 8), none⟩,
    ⟨(some 49), .load (some 4) (.t 11), none⟩,
    ⟨(some 50), .call n_gantrylaw17_same [(.t 48), (.t 49)] false, none⟩,
    ⟨(some 51), .un .not (.t 50), none⟩,
    ⟨(some 52), .mov (.t 51), none⟩,
    ⟨(some 53), .load (some 4) (.t 9), (some (52, false))⟩,
    ⟨(some 54), .load (some 4) (.t 12), (some (52, false))⟩,
    ⟨(some 55), .call n_gantrylaw17_same [(.t 53), (.t 54)] false, (some (52, false))⟩,
    ⟨(some 56), .un .not (.t 55), (some (52, false))⟩,
    ⟨(some 57), .pick (.t 52) (.c (.v (.bool true))) (.t 56), none⟩,
    ⟨(some 58), .mov (.t 57), none⟩,
    ⟨(some 59), .load (some 4) (.t 10), (some (58, false))⟩,
    ⟨(some 60), .load (some 4) (.t 13), (some (58, false))⟩,
    ⟨(some 61), .call n_gantrylaw17_same [(.t 59), (.t 60)] false, (some (58, false))⟩,
    ⟨(some 62), .un .not (.t 61), (some (58, false))⟩,
    ⟨(some 63), .pick (.t 58) (.c (.v (.bool true))) (.t 62), none⟩] []) <|
  .keep [5, 6, 7, 63] [[5]]) <|
  .cond (.t 63) (.seq (.seq (.reg [⟨(some 4), .mov (.c (.v (.bool false))), none⟩] []) <|
  .keep [4] []) <|
  .ret) <|
  .skip) <|
  .keep [5, 6, 7] [[5]]) <|
  .seq (.reg [⟨(some 25), .mov (.t 7), none⟩,
    ⟨(some 26), .bin .add (.t 25) (.c (.v (.int .i64 1))), none⟩,
    ⟨(some 7), .mov (.t 26), none⟩] []) <|
  .keep [5, 6, 7] [[5]]) <|
  .keep [5, 6, 7] [[5]]
def gantrylaw17_BounceFlights : CF := ⟨2, .seq (.seq (.reg [⟨(some 4), .mov (.c (.v (.bool false))), none⟩] []) <|
  .keep [0, 1] []) <|
  .seq (.seq (.reg [⟨(some 14), .mov (.t 0), none⟩,
    ⟨(some 15), .call n_gantryref17_Some [(.t 14)] false, none⟩,
    ⟨(some 5), .new [.v (.bool false), .z true, .v (.bool false), .z true, .v (.bool false), .z true, .v (.bool false), .z true, .v (.bool false), .z true, .v (.bool false), .z true], none⟩,
    ⟨none, .store 12 (.t 5) (.t 15), none⟩] []) <|
  .keep [1, 5] [[5]]) <|
  .seq (.seq (.reg [⟨(some 16), .mov (.t 1), none⟩,
    ⟨(some 17), .call n_gantryref01_Around [(.t 16), (.c (.v (.int .i64 12)))] false, none⟩,
    ⟨(some 18), .mov (.t 1), none⟩,
    ⟨(some 19), .call n_gantryref01_Around [(.t 18), (.c (.v (.int .i64 70)))] false, none⟩,
    ⟨(some 20), .bin .sub (.t 19) (.c (.v (.int .i64 3))), none⟩,
    ⟨(some 21), .mov (.t 1), none⟩,
    ⟨(some 22), .lit 1 3 [.v (.int .i64 0)] [(0, (.t 17)), (1, (.t 20)), (2, (.t 21))] true, none⟩,
    ⟨(some 6), .mov (.t 22), none⟩] []) <|
  .keep [5, 6] [[5]]) <|
  .seq (.seq (.seq (.reg [⟨(some 7), .mov (.c (.v (.int .i64 0))), none⟩] []) <|
  .keep [5, 6, 7] [[5]]) <|
  .seq (.blk 0 <|
  .seq (.keep [5, 6, 7] [[5]]) <|
  .loop gantrylaw17_BounceFlights_l0) <|
  .keep [] []) <|
  .seq (.seq (.reg [⟨(some 64), .call n_gantrylaw17_lives [] false, none⟩,
    ⟨(some 4), .mov (.t 64), none⟩] []) <|
  .keep [4] []) <|
  .ret, [.t 4]⟩

/- 5: gantry/gantrylaw17.BounceHeights -/
def gantrylaw17_BounceHeights_l0 : C :=
  .seq (.seq (.seq (.seq (.reg [⟨(some 26), .mov (.t 10), none⟩,
    ⟨(some 27), .bin .lss (.t 26) (.c (.v (.int .i64 3))), none⟩] []) <|
  .keep [7, 8, 9, 10, 27] [[7], [8]]) <|
  .cond (.t 27) (.skip) <|
  .seq (.keep [] []) <|
  .exit 0) <|
  .seq (.seq (.blk 1 <|
  .seq (.seq (.reg [⟨(some 31), .load (some 12) (.t 7), none⟩,
    ⟨(some 32), .call n_gantrylaw17_given [(.t 31)] false, none⟩,
    ⟨(some 33), .load (some 4) (.t 8), none⟩,
    ⟨(some 34), .mov (.t 9), none⟩,
    ⟨(some 35), .mov (.t 10), none⟩,
    ⟨(some 36), .ixa 1 (.t 34) (.t 35), none⟩,
    ⟨(some 37), .load none (.t 36), none⟩,
    ⟨(some 38), .call n_bounce_Height [(.t 32), (.t 33), (.t 37)] false, none⟩,
    ⟨(some 30), .mov (.t 38), none⟩,
    ⟨(some 39), .ext (.t 30) 0, none⟩,
    ⟨(some 40), .ext (.t 30) 1, none⟩,
    ⟨(some 41), .ext (.t 30) 2, none⟩,
    ⟨(some 11), .new [.v (.bool false), .z true, .v (.bool false), .z true], none⟩,
    ⟨none, .store 4 (.t 11) (.t 39), none⟩,
    ⟨(some 12), .mov (.t 40), none⟩,
    ⟨(some 13), .mov (.t 41), none⟩] []) <|
  .keep [7, 8, 9, 10, 11, 12, 13] [[7], [8], [11]]) <|
  .seq (.seq (.reg [⟨(some 43), .load (some 12) (.t 7), none⟩,
    ⟨(some 44), .load (some 4) (.t 8), none⟩,
    ⟨(some 45), .mov (.t 9), none⟩,
    ⟨(some 46), .mov (.t 10), none⟩,
    ⟨(some 47), .ixa 1 (.t 45) (.t 46), none⟩,
    ⟨(some 48), .load none (.t 47), none⟩,
    ⟨(some 49), .call n_gantryref17_Height [(.t 43), (.t 44), (.t 48)] false, none⟩,
    ⟨(some 42), .mov (.t 49), none⟩,
    ⟨(some 50), .ext (.t 42) 0, none⟩,
    ⟨(some 51), .ext (.t 42) 1, none⟩,
    ⟨(some 52), .ext (.t 42) 2, none⟩,
    ⟨(some 14), .new [.v (.bool false), .z true, .v (.bool false), .z true], none⟩,
    ⟨none, .store 4 (.t 14) (.t 50), none⟩,
    ⟨(some 15), .mov (.t 51), none⟩,
    ⟨(some 16), .mov (.t 52), none⟩] []) <|
  .keep [7, 8, 9, 10, 11, 12, 13, 14, 15, 16] [[7], [8], [11], [14]]) <|
  .seq (.seq (.reg [⟨(some 53), .mov (.t 13), none⟩,
    ⟨(some 54), .mov (.t 16), none⟩,
    ⟨(some 55), .bin .neq (.t 53) (.t 54), none⟩,
    ⟨(some 56), .mov (.t 55), none⟩,
    ⟨(some 57), .mov (.t 12), (some (56, false))⟩,
    ⟨(some 58), .mov (.t 15), (some (56, false))⟩,
    ⟨(some 59), .bin .neq (.t 57) (.t 58), (some (56, false))⟩,
    ⟨(some 60), .pick (.t 56) (.c (.v (.bool true))) (.t 59), none⟩,
    ⟨(some 61), .mov (.t 60), none⟩,
    ⟨(some 62), .load (some 4) (.t 11), (some (61, false))⟩,
    ⟨(some 63), .load (some 4) (.t 14), (some (61, false))⟩,
    ⟨(some 64), .call n_gantrylaw17_same [(.t 62), (.t 63)] false, (some (61, false))⟩,
    ⟨(some 65), .un .not (.t 64), (some (61, false))⟩,
    ⟨(some 66), .pick (.t 61) (.c (.v (.bool true))) (.t 65), none⟩] []) <|
  .keep [7, 8, 9, 10, 66] [[7], [8]]) <|
  .cond (.t 66) (.seq (.seq (.reg [⟨(some 6), .mov (.c (.v (.bool false))), none⟩] []) <|
  .keep [6] []) <|
  .ret) <|
  .skip) <|
  .keep [7, 8, 9, 10] [[7], [8]]) <|
  .seq (.reg [⟨(some 28), .mov (.t 10), none⟩,
    ⟨(some 29), .bin .add (.t 28) (.c (.v (.int .i64 1))), none⟩,
    ⟨(some 10), .mov (.t 29), none⟩] []) <|
  .keep [7, 8, 9, 10] [[7], [8]]) <|
  .keep [7, 8, 9, 10] [[7], [8]]
def gantrylaw17_BounceHeights : CF := ⟨3, .seq (.seq (.reg [⟨(some 6), .mov (.c (.v (.bool false))), none⟩] []) <|
  .keep [0, 1, 2] []) <|
  .seq (.seq (.reg [⟨(some 17), .mov (.t 0), none⟩,
    ⟨(some 18), .call n_gantryref17_Some [(.t 17)] false, none⟩,
    ⟨(some 7), .new [.v (.bool false), .z true, .v (.bool false), .z true, .v (.bool false), .z true, .v (.bool false), .z true, .v (.bool false), .z true, .v (.bool false), .z true], none⟩,
    ⟨none, .store 12 (.t 7) (.t 18), none⟩] []) <|
  .keep [1, 2, 7] [[7]]) <|
  .seq (.seq (.reg [⟨(some 19), .load (some 12) (.t 7), none⟩,
    ⟨(some 20), .mov (.t 1), none⟩,
    ⟨(some 21), .call n_gantryref17_Time [(.t 19), (.t 20)] false, none⟩,
    ⟨(some 8), .new [.v (.bool false), .z true, .v (.bool false), .z true], none⟩,
    ⟨none, .store 4 (.t 8) (.t 21), none⟩] []) <|
  .keep [2, 7, 8] [[7], [8]]) <|
  .seq (.seq (.reg [⟨(some 22), .mov (.t 2), none⟩,
    ⟨(some 23), .call n_gantryref01_Around [(.t 22), (.c (.v (.int .i64 5)))] false, none⟩,
    ⟨(some 24), .mov (.t 2), none⟩,
    ⟨(some 25), .lit 1 3 [.v (.int .i64 0)] [(0, (.c (.v (.int .i64 30)))), (1, (.t 23)), (2, (.t 24))] true, none⟩,
    ⟨(some 9), .mov (.t 25), none⟩] []) <|
  .keep [7, 8, 9] [[7], [8]]) <|
  .seq (.seq (.seq (.reg [⟨(some 10), .mov (.c (.v (.int .i64 0))), none⟩] []) <|
  .keep [7, 8, 9, 10] [[7], [8]]) <|
  .seq (.blk 0 <|
  .seq (.keep [7, 8, 9, 10] [[7], [8]]) <|
  .loop gantrylaw17_BounceHeights_l0) <|
  .keep [] []) <|
  .seq (.seq (.reg [⟨(some 67), .call n_gantrylaw17_lives [] false, none⟩,
    ⟨(some 6), .mov (.t 67), none⟩] []) <|
  .keep [6] []) <|
  .ret, [.t 6]⟩

/- 6: gantry/gantrylaw17.BounceNext -/
def gantrylaw17_BounceNext : CF := ⟨2, .seq (.seq (.reg [⟨(some 4), .mov (.c (.v (.bool false))), none⟩] []) <|
  .keep [0, 1] []) <|
  .seq (.seq (.reg [⟨(some 15), .mov (.t 0), none⟩,
    ⟨(some 16), .call n_gantryref17_Some [(.t 15)] false, none⟩,
    ⟨(some 5), .new [.v (.bool false), .z true, .v (.bool false), .z true, .v (.bool false), .z true, .v (.bool false), .z true, .v (.bool false), .z true, .v (.bool false), .z true], none⟩,
    ⟨none, .store 12 (.t 5) (.t 16), none⟩] []) <|
  .keep [1, 5] [[5]]) <|
  .seq (.seq (.seq (.reg [⟨(some 17), .load (some 12) (.t 5), none⟩,
    ⟨(some 18), .call n_gantryref17_Valid [(.t 17)] false, none⟩,
    ⟨(some 19), .un .not (.t 18), none⟩] []) <|
  .keep [1, 5, 19] [[5]]) <|
  .cond (.t 19) (.seq (.seq (.reg [⟨(some 20), .load (some 12) (.t 5), none⟩,
    ⟨(some 21), .call n_gantrylaw17_given [(.t 20)] false, none⟩,
    ⟨(some 22), .call n_bounce_Valid [(.t 21)] false, none⟩,
    ⟨(some 23), .un .not (.t 22), none⟩,
    ⟨(some 24), .mov (.t 23), none⟩,
    ⟨(some 25), .call n_gantrylaw17_lives [] false, (some (24, true))⟩,
    ⟨(some 26), .pick (.t 24) (.t 25) (.c (.v (.bool false))), none⟩,
    ⟨(some 4), .mov (.t 26), none⟩] []) <|
  .keep [4] []) <|
  .ret) <|
  .skip) <|
  .seq (.seq (.reg [⟨(some 27), .mov (.t 1), none⟩,
    ⟨(some 28), .call n_gantryref01_Around [(.t 27), (.c (.v (.int .i64 20)))] false, none⟩,
    ⟨(some 6), .mov (.t 28), none⟩] []) <|
  .keep [5, 6] [[5]]) <|
  .seq (.seq (.reg [⟨(some 30), .load (some 12) (.t 5), none⟩,
    ⟨(some 31), .call n_gantrylaw17_given [(.t 30)] false, none⟩,
    ⟨(some 32), .mov (.t 6), none⟩,
    ⟨(some 33), .call n_bounce_Flight [(.t 31), (.t 32)] false, none⟩,
    ⟨(some 29), .mov (.t 33), none⟩,
    ⟨(some 34), .ext (.t 29) 0, none⟩,
    ⟨(some 35), .ext (.t 29) 1, none⟩,
    ⟨(some 36), .ext (.t 29) 2, none⟩,
    ⟨(some 7), .new [.v (.bool false), .z true, .v (.bool false), .z true], none⟩,
    ⟨(some 8), .new [.v (.bool false), .z true, .v (.bool false), .z true], none⟩,
    ⟨(some 9), .new [.v (.bool false), .z true, .v (.bool false), .z true], none⟩,
    ⟨none, .store 4 (.t 7) (.t 34), none⟩,
    ⟨none, .store 4 (.t 8) (.t 35), none⟩,
    ⟨none, .store 4 (.t 9) (.t 36), none⟩] []) <|
  .keep [5, 6, 7, 8, 9] [[5], [7], [8], [9]]) <|
  .seq (.seq (.reg [⟨(some 38), .load (some 12) (.t 5), none⟩,
    ⟨(some 39), .call n_gantrylaw17_given [(.t 38)] false, none⟩,
    ⟨(some 40), .mov (.t 6), none⟩,
    ⟨(some 41), .bin .add (.t 40) (.c (.v (.int .i64 1))), none⟩,
    ⟨(some 42), .call n_bounce_Flight [(.t 39), (.t 41)] false, none⟩,
    ⟨(some 37), .mov (.t 42), none⟩,
    ⟨(some 43), .ext (.t 37) 0, none⟩,
    ⟨(some 44), .ext (.t 37) 1, none⟩,
    ⟨(some 45), .ext (.t 37) 2, none⟩,
    ⟨(some 10), .new [.v (.bool false), .z true, .v (.bool false), .z true], none⟩,
    ⟨(some 11), .new [.v (.bool false), .z true, .v (.bool false), .z true], none⟩,
    ⟨(some 12), .new [.v (.bool false), .z true, .v (.bool false), .z true], none⟩,
    ⟨none, .store 4 (.t 10) (.t 43), none⟩,
    ⟨none, .store 4 (.t 11) (.t 44), none⟩,
    ⟨none, .store 4 (.t 12) (.t 45), none⟩] []) <|
  .keep [5, 6, 7, 8, 9, 10, 11, 12] [[5], [7], [8], [9], [10], [11], [12]]) <|
  .seq (.seq (.reg [⟨(some 46), .load (some 12) (.t 5), none⟩,
    ⟨(some 47), .call n_gantrylaw17_given [(.t 46)] false, none⟩,
    ⟨(some 48), .call n_bounce_Limit [(.t 47)] false, none⟩,
    ⟨(some 49), .load (some 4) (.t 7), none⟩,
    ⟨(some 50), .call n_rat_Sub [(.t 48), (.t 49)] false, none⟩,
    ⟨(some 13), .new [.v (.bool false), .z true, .v (.bool false), .z true], none⟩,
    ⟨none, .store 4 (.t 13) (.t 50), none⟩] []) <|
  .keep [5, 6, 7, 8, 9, 10, 11, 12, 13] [[5], [7], [8], [9], [10], [11], [12], [13]]) <|
  .seq (.seq (.reg [⟨(some 51), .fad 4 (.t 5), none⟩,
    ⟨(some 52), .load (some 4) (.t 51), none⟩,
    ⟨(some 53), .load (some 4) (.t 8), none⟩,
    ⟨(some 54), .call n_rat_Mul [(.t 52), (.t 53)] false, none⟩,
    ⟨(some 55), .load (some 4) (.t 9), none⟩,
    ⟨(some 56), .call n_rat_Sub [(.t 54), (.t 55)] false, none⟩,
    ⟨(some 14), .new [.v (.bool false), .z true, .v (.bool false), .z true], none⟩,
    ⟨none, .store 4 (.t 14) (.t 56), none⟩] []) <|
  .keep [5, 6, 7, 8, 9, 10, 11, 12, 13, 14] [[5], [7], [8], [9], [10], [11], [12], [13], [14]]) <|
  .seq (.seq (.reg [⟨(some 57), .load (some 4) (.t 10), none⟩,
    ⟨(some 58), .load (some 4) (.t 7), none⟩,
    ⟨(some 59), .load (some 4) (.t 8), none⟩,
    ⟨(some 60), .call n_rat_Add [(.t 58), (.t 59)] false, none⟩,
    ⟨(some 61), .call n_gantrylaw17_same [(.t 57), (.t 60)] false, none⟩,
    ⟨(some 62), .mov (.t 61), none⟩,
    ⟨(some 63), .load (some 4) (.t 12), (some (62, true))⟩,
    ⟨(some 64), .load (some 4) (.t 9), (some (62, true))⟩,
    ⟨(some 65), .fad 8 (.t 5), (some (62, true))⟩,
    ⟨(some 66), .load (some 4) (.t 65), (some (62, true))⟩,
    ⟨(some 67), .call n_rat_Mul [(.t 64), (.t 66)] false, (some (62, true))⟩,
    ⟨(some 68), .call n_gantrylaw17_same [(.t 63), (.t 67)] false, (some (62, true))⟩,
    ⟨(some 69), .pick (.t 62) (.t 68) (.c (.v (.bool false))), none⟩,
    ⟨(some 70), .mov (.t 69), none⟩,
    ⟨(some 71), .load (some 4) (.t 11), (some (70, true))⟩,
    ⟨(some 72), .load (some 4) (.t 8), (some (70, true))⟩,
    ⟨(some 73), .fad 8 (.t 5), (some (70, true))⟩,
    ⟨(some 74), .load (some 4) (.t 73), (some (70, true))⟩,
    ⟨(some 75), .call n_rat_Mul [(.t 72), (.t 74)] false, (some (70, true))⟩,
    ⟨(some 76), .call n_gantrylaw17_same [(.t 71), (.t 75)] false, (some (70, true))⟩,
    ⟨(some 77), .pick (.t 70) (.t 76) (.c (.v (.bool false))), none⟩,
    ⟨(some 78), .mov (.t 77), none⟩,
    ⟨(some 79), .load (some 4) (.t 14), (some (78, true))⟩,
    ⟨(some 80), .load (some 4) (.t 9), (some (78, true))⟩,
    ⟨(some 81), .call n_gantrylaw17_same [(.t 79), (.t 80)] false, (some (78, true))⟩,
    ⟨(some 82), .pick (.t 78) (.t 81) (.c (.v (.bool false))), none⟩,
    ⟨(some 83), .mov (.t 82), none⟩,
    ⟨(some 84), .load (some 4) (.t 13), (some (83, true))⟩,
    ⟨(some 85), .fad 8 (.t 5), (some (83, true))⟩,
    ⟨(some 86), .load (some 4) (.t 85), (some (83, true))⟩,
    ⟨(some 87), .mov (.t 6), (some (83, true))⟩,
    ⟨(some 88), .call n_gantryref17_Power [(.t 86), (.t 87)] false, (some (83, true))⟩,
    ⟨(some 89), .load (some 12) (.t 5), (some (83, true))⟩,
    ⟨(some 90), .call n_gantrylaw17_given [(.t 89)] false, (some (83, true))⟩,
    ⟨(some 91), .call n_bounce_Limit [(.t 90)] false, (some (83, true))⟩,
    ⟨(some 92), .call n_rat_Mul [(.t 88), (.t 91)] false, (some (83, true))⟩,
    ⟨(some 93), .call n_gantrylaw17_same [(.t 84), (.t 92)] false, (some (83, true))⟩,
    ⟨(some 94), .pick (.t 83) (.t 93) (.c (.v (.bool false))), none⟩,
    ⟨(some 95), .mov (.t 94), none⟩,
    ⟨(some 96), .load (some 4) (.t 7), (some (95, true))⟩,
    ⟨(some 97), .load (some 12) (.t 5), (some (95, true))⟩,
    ⟨(some 98), .call n_gantrylaw17_given [(.t 97)] false, (some (95, true))⟩,
    ⟨(some 99), .call n_bounce_Limit [(.t 98)] false, (some (95, true))⟩,
    ⟨(some 100), .call n_rat_Compare [(.t 96), (.t 99)] false, (some (95, true))⟩,
    ⟨(some 101), .bin .leq (.t 100) (.c (.v (.int .i64 0))), (some (95, true))⟩,
    ⟨(some 102), .pick (.t 95) (.t 101) (.c (.v (.bool false))), none⟩,
    ⟨(some 103), .mov (.t 102), none⟩,
    ⟨(some 104), .call n_gantrylaw17_lives [] false, (some (103, true))⟩,
    ⟨(some 105), .pick (.t 103) (.t 104) (.c (.v (.bool false))), none⟩,
    ⟨(some 4), .mov (.t 105), none⟩] []) <|
  .keep [4] []) <|
  .ret, [.t 4]⟩

/- 7: gantry/gantrylaw17.BounceContracts -/
def gantrylaw17_BounceContracts : CF := ⟨3, .seq (.seq (.reg [⟨(some 6), .mov (.c (.v (.bool false))), none⟩] []) <|
  .keep [0, 1, 2] []) <|
  .seq (.seq (.reg [⟨(some 14), .mov (.t 0), none⟩,
    ⟨(some 15), .call n_gantryref17_Some [(.t 14)] false, none⟩,
    ⟨(some 7), .new [.v (.bool false), .z true, .v (.bool false), .z true, .v (.bool false), .z true, .v (.bool false), .z true, .v (.bool false), .z true, .v (.bool false), .z true], none⟩,
    ⟨none, .store 12 (.t 7) (.t 15), none⟩] []) <|
  .keep [1, 2, 7] [[7]]) <|
  .seq (.seq (.seq (.reg [⟨(some 16), .load (some 12) (.t 7), none⟩,
    ⟨(some 17), .call n_gantryref17_Valid [(.t 16)] false, none⟩,
    ⟨(some 18), .un .not (.t 17), none⟩] []) <|
  .keep [1, 2, 7, 18] [[7]]) <|
  .cond (.t 18) (.seq (.seq (.reg [⟨(some 19), .call n_gantrylaw17_lives [] false, none⟩,
    ⟨(some 6), .mov (.t 19), none⟩] []) <|
  .keep [6] []) <|
  .ret) <|
  .skip) <|
  .seq (.seq (.reg [⟨(some 21), .load (some 12) (.t 7), none⟩,
    ⟨(some 22), .call n_gantrylaw17_given [(.t 21)] false, none⟩,
    ⟨(some 23), .call n_bounce_Flight [(.t 22), (.c (.v (.int .i64 0)))] false, none⟩,
    ⟨(some 20), .mov (.t 23), none⟩,
    ⟨(some 24), .ext (.t 20) 0, none⟩,
    ⟨(some 25), .ext (.t 20) 1, none⟩,
    ⟨(some 26), .ext (.t 20) 2, none⟩,
    ⟨(some 8), .new [.v (.bool false), .z true, .v (.bool false), .z true], none⟩,
    ⟨(some 9), .new [.v (.bool false), .z true, .v (.bool false), .z true], none⟩,
    ⟨(some 10), .new [.v (.bool false), .z true, .v (.bool false), .z true], none⟩,
    ⟨none, .store 4 (.t 8) (.t 24), none⟩,
    ⟨none, .store 4 (.t 9) (.t 25), none⟩,
    ⟨none, .store 4 (.t 10) (.t 26), none⟩] []) <|
  .keep [1, 2, 7, 9] [[7], [9]]) <|
  .seq (.seq (.reg [⟨(some 27), .load (some 12) (.t 7), none⟩,
    ⟨(some 28), .call n_gantrylaw17_given [(.t 27)] false, none⟩,
    ⟨(some 29), .call n_bounce_Limit [(.t 28)] false, none⟩,
    ⟨(some 11), .new [.v (.bool false), .z true, .v (.bool false), .z true], none⟩,
    ⟨none, .store 4 (.t 11) (.t 29), none⟩] []) <|
  .keep [1, 2, 7, 9, 11] [[7], [9], [11]]) <|
  .seq (.seq (.reg [⟨(some 30), .mov (.t 1), none⟩,
    ⟨(some 31), .call n_gantryref01_Around [(.t 30), (.c (.v (.int .i64 99)))] false, none⟩,
    ⟨(some 32), .bin .sub (.t 31) (.c (.v (.int .i64 49))), none⟩,
    ⟨(some 33), .mov (.t 2), none⟩,
    ⟨(some 34), .call n_gantryref01_Around [(.t 33), (.c (.v (.int .i64 9)))] false, none⟩,
    ⟨(some 35), .bin .add (.c (.v (.int .i64 1))) (.t 34), none⟩,
    ⟨(some 36), .call n_gantryref05_Of [(.t 32), (.t 35)] false, none⟩,
    ⟨(some 12), .new [.v (.bool false), .z true, .v (.bool false), .z true], none⟩,
    ⟨none, .store 4 (.t 12) (.t 36), none⟩] []) <|
  .keep [7, 9, 11, 12] [[7], [9], [11], [12]]) <|
  .seq (.seq (.reg [⟨(some 37), .load (some 4) (.t 9), none⟩,
    ⟨(some 38), .fad 8 (.t 7), none⟩,
    ⟨(some 39), .load (some 4) (.t 38), none⟩,
    ⟨(some 40), .load (some 4) (.t 12), none⟩,
    ⟨(some 41), .call n_rat_Mul [(.t 39), (.t 40)] false, none⟩,
    ⟨(some 42), .call n_rat_Add [(.t 37), (.t 41)] false, none⟩,
    ⟨(some 13), .new [.v (.bool false), .z true, .v (.bool false), .z true], none⟩,
    ⟨none, .store 4 (.t 13) (.t 42), none⟩] []) <|
  .keep [7, 9, 11, 12, 13] [[7], [9], [11], [12], [13]]) <|
  .seq (.seq (.reg [⟨(some 43), .load (some 4) (.t 11), none⟩,
    ⟨(some 44), .load (some 4) (.t 9), none⟩,
    ⟨(some 45), .fad 8 (.t 7), none⟩,
    ⟨(some 46), .load (some 4) (.t 45), none⟩,
    ⟨(some 47), .load (some 4) (.t 11), none⟩,
    ⟨(some 48), .call n_rat_Mul [(.t 46), (.t 47)] false, none⟩,
    ⟨(some 49), .call n_rat_Add [(.t 44), (.t 48)] false, none⟩,
    ⟨(some 50), .call n_gantrylaw17_same [(.t 43), (.t 49)] false, none⟩,
    ⟨(some 51), .mov (.t 50), none⟩,
    ⟨(some 52), .load (some 4) (.t 13), (some (51, true))⟩,
    ⟨(some 53), .load (some 4) (.t 11), (some (51, true))⟩,
    ⟨(some 54), .call n_rat_Sub [(.t 52), (.t 53)] false, (some (51, true))⟩,
    ⟨(some 55), .fad 8 (.t 7), (some (51, true))⟩,
    ⟨(some 56), .load (some 4) (.t 55), (some (51, true))⟩,
    ⟨(some 57), .load (some 4) (.t 12), (some (51, true))⟩,
    ⟨(some 58), .load (some 4) (.t 11), (some (51, true))⟩,
    ⟨(some 59), .call n_rat_Sub [(.t 57), (.t 58)] false, (some (51, true))⟩,
    ⟨(some 60), .call n_rat_Mul [(.t 56), (.t 59)] false, (some (51, true))⟩,
    ⟨(some 61), .call n_gantrylaw17_same [(.t 54), (.t 60)] false, (some (51, true))⟩,
    ⟨(some 62), .pick (.t 51) (.t 61) (.c (.v (.bool false))), none⟩,
    ⟨(some 63), .mov (.t 62), none⟩,
    ⟨(some 64), .call n_gantrylaw17_lives [] false, (some (63, true))⟩,
    ⟨(some 65), .pick (.t 63) (.t 64) (.c (.v (.bool false))), none⟩,
    ⟨(some 6), .mov (.t 65), none⟩] []) <|
  .keep [6] []) <|
  .ret, [.t 6]⟩

/- 8: gantry/gantrylaw17.BounceScaled -/
def gantrylaw17_BounceScaled : CF := ⟨5, .seq (.seq (.reg [⟨(some 10), .mov (.c (.v (.bool false))), none⟩] []) <|
  .keep [0, 1, 2, 3, 4] []) <|
  .seq (.seq (.reg [⟨(some 31), .mov (.t 0), none⟩,
    ⟨(some 32), .call n_gantryref17_Some [(.t 31)] false, none⟩,
    ⟨(some 11), .new [.v (.bool false), .z true, .v (.bool false), .z true, .v (.bool false), .z true, .v (.bool false), .z true, .v (.bool false), .z true, .v (.bool false), .z true], none⟩,
    ⟨none, .store 12 (.t 11) (.t 32), none⟩] []) <|
  .keep [1, 2, 3, 4, 11] [[11]]) <|
  .seq (.seq (.seq (.reg [⟨(some 33), .load (some 12) (.t 11), none⟩,
    ⟨(some 34), .call n_gantryref17_Valid [(.t 33)] false, none⟩,
    ⟨(some 35), .un .not (.t 34), none⟩] []) <|
  .keep [1, 2, 3, 4, 11, 35] [[11]]) <|
  .cond (.t 35) (.seq (.seq (.reg [⟨(some 36), .call n_gantrylaw17_lives [] false, none⟩,
    ⟨(some 10), .mov (.t 36), none⟩] []) <|
  .keep [10] []) <|
  .ret) <|
  .skip) <|
  .seq (.seq (.reg [⟨(some 37), .mov (.t 1), none⟩,
    ⟨(some 38), .call n_gantryref01_Around [(.t 37), (.c (.v (.int .i64 9)))] false, none⟩,
    ⟨(some 39), .bin .add (.c (.v (.int .i64 1))) (.t 38), none⟩,
    ⟨(some 40), .mov (.t 2), none⟩,
    ⟨(some 41), .call n_gantryref01_Around [(.t 40), (.c (.v (.int .i64 9)))] false, none⟩,
    ⟨(some 42), .bin .add (.c (.v (.int .i64 1))) (.t 41), none⟩,
    ⟨(some 43), .call n_gantryref05_Of [(.t 39), (.t 42)] false, none⟩,
    ⟨(some 12), .new [.v (.bool false), .z true, .v (.bool false), .z true], none⟩,
    ⟨none, .store 4 (.t 12) (.t 43), none⟩] []) <|
  .keep [3, 4, 11, 12] [[11], [12]]) <|
  .seq (.seq (.reg [⟨(some 44), .load (some 12) (.t 11), none⟩,
    ⟨(some 13), .new [.v (.bool false), .z true, .v (.bool false), .z true, .v (.bool false), .z true, .v (.bool false), .z true, .v (.bool false), .z true, .v (.bool false), .z true], none⟩,
    ⟨none, .store 12 (.t 13) (.t 44), none⟩] []) <|
  .keep [3, 4, 11, 12, 13] [[11], [12], [13]]) <|
  .seq (.seq (.reg [⟨(some 45), .fad 0 (.t 11), none⟩,
    ⟨(some 46), .load (some 4) (.t 45), none⟩,
    ⟨(some 47), .load (some 4) (.t 12), none⟩,
    ⟨(some 48), .call n_gantryref05_Mul [(.t 46), (.t 47)] false, none⟩,
    ⟨(some 49), .fad 0 (.t 13), none⟩,
    ⟨none, .store 4 (.t 49) (.t 48), none⟩] []) <|
  .keep [3, 4, 11, 12, 13] [[11], [12], [13]]) <|
  .seq (.seq (.reg [⟨(some 50), .mov (.t 3), none⟩,
    ⟨(some 51), .call n_gantryref01_Around [(.t 50), (.c (.v (.int .i64 12)))] false, none⟩,
    ⟨(some 14), .mov (.t 51), none⟩] []) <|
  .keep [4, 11, 12, 13, 14] [[11], [12], [13]]) <|
  .seq (.seq (.reg [⟨(some 52), .load (some 12) (.t 11), none⟩,
    ⟨(some 53), .mov (.t 4), none⟩,
    ⟨(some 54), .call n_gantryref17_Time [(.t 52), (.t 53)] false, none⟩,
    ⟨(some 15), .new [.v (.bool false), .z true, .v (.bool false), .z true], none⟩,
    ⟨none, .store 4 (.t 15) (.t 54), none⟩] []) <|
  .keep [11, 12, 13, 14, 15] [[11], [12], [13], [15]]) <|
  .seq (.seq (.reg [⟨(some 56), .load (some 12) (.t 11), none⟩,
    ⟨(some 57), .call n_gantrylaw17_given [(.t 56)] false, none⟩,
    ⟨(some 58), .mov (.t 14), none⟩,
    ⟨(some 59), .call n_bounce_Flight [(.t 57), (.t 58)] false, none⟩,
    ⟨(some 55), .mov (.t 59), none⟩,
    ⟨(some 60), .ext (.t 55) 0, none⟩,
    ⟨(some 61), .ext (.t 55) 1, none⟩,
    ⟨(some 62), .ext (.t 55) 2, none⟩,
    ⟨(some 16), .new [.v (.bool false), .z true, .v (.bool false), .z true], none⟩,
    ⟨(some 17), .new [.v (.bool false), .z true, .v (.bool false), .z true], none⟩,
    ⟨(some 18), .new [.v (.bool false), .z true, .v (.bool false), .z true], none⟩,
    ⟨none, .store 4 (.t 16) (.t 60), none⟩,
    ⟨none, .store 4 (.t 17) (.t 61), none⟩,
    ⟨none, .store 4 (.t 18) (.t 62), none⟩] []) <|
  .keep [11, 12, 13, 14, 15, 16] [[11], [12], [13], [15], [16]]) <|
  .seq (.seq (.reg [⟨(some 64), .load (some 12) (.t 13), none⟩,
    ⟨(some 65), .call n_gantrylaw17_given [(.t 64)] false, none⟩,
    ⟨(some 66), .mov (.t 14), none⟩,
    ⟨(some 67), .call n_bounce_Flight [(.t 65), (.t 66)] false, none⟩,
    ⟨(some 63), .mov (.t 67), none⟩,
    ⟨(some 68), .ext (.t 63) 0, none⟩,
    ⟨(some 69), .ext (.t 63) 1, none⟩,
    ⟨(some 70), .ext (.t 63) 2, none⟩,
    ⟨(some 19), .new [.v (.bool false), .z true, .v (.bool false), .z true], none⟩,
    ⟨(some 20), .new [.v (.bool false), .z true, .v (.bool false), .z true], none⟩,
    ⟨(some 21), .new [.v (.bool false), .z true, .v (.bool false), .z true], none⟩,
    ⟨none, .store 4 (.t 19) (.t 68), none⟩,
    ⟨none, .store 4 (.t 20) (.t 69), none⟩,
    ⟨none, .store 4 (.t 21) (.t 70), none⟩] []) <|
  .keep [11, 12, 13, 14, 15, 16, 19] [[11], [12], [13], [15], [16], [19]]) <|
  .seq (.seq (.reg [⟨(some 72), .load (some 12) (.t 11), none⟩,
    ⟨(some 73), .call n_gantrylaw17_given [(.t 72)] false, none⟩,
    ⟨(some 74), .load (some 4) (.t 15), none⟩,
    ⟨(some 75), .call n_bounce_Height [(.t 73), (.t 74), (.c (.v (.int .i64 30)))] false, none⟩,
    ⟨(some 71), .mov (.t 75), none⟩,
    ⟨(some 76), .ext (.t 71) 0, none⟩,
    ⟨(some 77), .ext (.t 71) 1, none⟩,
    ⟨(some 78), .ext (.t 71) 2, none⟩,
    ⟨(some 22), .new [.v (.bool false), .z true, .v (.bool false), .z true], none⟩,
    ⟨none, .store 4 (.t 22) (.t 76), none⟩,
    ⟨(some 23), .mov (.t 77), none⟩,
    ⟨(some 24), .mov (.t 78), none⟩] []) <|
  .keep [11, 12, 13, 14, 15, 16, 19, 22, 23, 24] [[11], [12], [13], [15], [16], [19], [22]]) <|
  .seq (.seq (.reg [⟨(some 80), .load (some 12) (.t 13), none⟩,
    ⟨(some 81), .call n_gantrylaw17_given [(.t 80)] false, none⟩,
    ⟨(some 82), .load (some 4) (.t 15), none⟩,
    ⟨(some 83), .load (some 4) (.t 12), none⟩,
    ⟨(some 84), .call n_rat_Mul [(.t 82), (.t 83)] false, none⟩,
    ⟨(some 85), .call n_bounce_Height [(.t 81), (.t 84), (.c (.v (.int .i64 30)))] false, none⟩,
    ⟨(some 79), .mov (.t 85), none⟩,
    ⟨(some 86), .ext (.t 79) 0, none⟩,
    ⟨(some 87), .ext (.t 79) 1, none⟩,
    ⟨(some 88), .ext (.t 79) 2, none⟩,
    ⟨(some 25), .new [.v (.bool false), .z true, .v (.bool false), .z true], none⟩,
    ⟨none, .store 4 (.t 25) (.t 86), none⟩,
    ⟨(some 26), .mov (.t 87), none⟩,
    ⟨(some 27), .mov (.t 88), none⟩] []) <|
  .keep [11, 12, 13, 14, 16, 19, 22, 23, 24, 25, 26, 27] [[11], [12], [13], [16], [19], [22], [25]]) <|
  .seq (.seq (.reg [⟨(some 89), .load (some 4) (.t 12), none⟩,
    ⟨(some 90), .load (some 4) (.t 12), none⟩,
    ⟨(some 91), .call n_rat_Mul [(.t 89), (.t 90)] false, none⟩,
    ⟨(some 28), .new [.v (.bool false), .z true, .v (.bool false), .z true], none⟩,
    ⟨none, .store 4 (.t 28) (.t 91), none⟩] []) <|
  .keep [11, 12, 13, 14, 16, 19, 22, 23, 24, 25, 26, 27, 28] [[11], [12], [13], [16], [19], [22], [25], [28]]) <|
  .seq (.seq (.reg [⟨(some 92), .load (some 12) (.t 11), none⟩,
    ⟨(some 93), .call n_gantrylaw17_given [(.t 92)] false, none⟩,
    ⟨(some 94), .mov (.t 14), none⟩,
    ⟨(some 95), .call n_bounce_Loss [(.t 93), (.t 94)] false, none⟩,
    ⟨(some 29), .new [.v (.bool false), .z true, .v (.bool false), .z true], none⟩,
    ⟨none, .store 4 (.t 29) (.t 95), none⟩] []) <|
  .keep [11, 12, 13, 14, 16, 19, 22, 23, 24, 25, 26, 27, 28, 29] [[11], [12], [13], [16], [19], [22], [25], [28], [29]]) <|
  .seq (.seq (.reg [⟨(some 96), .load (some 12) (.t 11), none⟩,
    ⟨(some 97), .call n_gantrylaw17_given [(.t 96)] false, none⟩,
    ⟨(some 98), .mov (.t 14), none⟩,
    ⟨(some 99), .bin .add (.t 98) (.c (.v (.int .i64 1))), none⟩,
    ⟨(some 100), .call n_bounce_Loss [(.t 97), (.t 99)] false, none⟩,
    ⟨(some 30), .new [.v (.bool false), .z true, .v (.bool false), .z true], none⟩,
    ⟨none, .store 4 (.t 30) (.t 100), none⟩] []) <|
  .keep [11, 12, 13, 14, 16, 19, 22, 23, 24, 25, 26, 27, 28, 29, 30] [[11], [12], [13], [16], [19], [22], [25], [28], [29], [30]]) <|
  .seq (.seq (.seq (.reg [⟨(some 101), .mov (.t 24), none⟩,
    ⟨(some 102), .mov (.t 27), none⟩,
    ⟨(some 103), .bin .neq (.t 101) (.t 102), none⟩,
    ⟨(some 104), .mov (.t 103), none⟩,
    ⟨(some 105), .mov (.t 23), (some (104, false))⟩,
    ⟨(some 106), .mov (.t 26), (some (104, false))⟩,
    ⟨(some 107), .bin .neq (.t 105) (.t 106), (some (104, false))⟩,
    ⟨(some 108), .pick (.t 104) (.c (.v (.bool true))) (.t 107), none⟩,
    ⟨(some 109), .mov (.t 108), none⟩,
    ⟨(some 110), .load (some 4) (.t 22), (some (109, false))⟩,
    ⟨(some 111), .load (some 4) (.t 28), (some (109, false))⟩,
    ⟨(some 112), .call n_rat_Mul [(.t 110), (.t 111)] false, (some (109, false))⟩,
    ⟨(some 113), .load (some 4) (.t 25), (some (109, false))⟩,
    ⟨(some 114), .call n_gantrylaw17_same [(.t 112), (.t 113)] false, (some (109, false))⟩,
    ⟨(some 115), .un .not (.t 114), (some (109, false))⟩,
    ⟨(some 116), .pick (.t 109) (.c (.v (.bool true))) (.t 115), none⟩,
    ⟨(some 117), .mov (.t 116), none⟩,
    ⟨(some 118), .load (some 4) (.t 16), (some (117, false))⟩,
    ⟨(some 119), .load (some 4) (.t 12), (some (117, false))⟩,
    ⟨(some 120), .call n_rat_Mul [(.t 118), (.t 119)] false, (some (117, false))⟩,
    ⟨(some 121), .load (some 4) (.t 19), (some (117, false))⟩,
    ⟨(some 122), .call n_gantrylaw17_same [(.t 120), (.t 121)] false, (some (117, false))⟩,
    ⟨(some 123), .un .not (.t 122), (some (117, false))⟩,
    ⟨(some 124), .pick (.t 117) (.c (.v (.bool true))) (.t 123), none⟩,
    ⟨(some 125), .mov (.t 124), none⟩,
    ⟨(some 126), .load (some 4) (.t 29), (some (125, false))⟩,
    ⟨(some 127), .load (some 4) (.t 28), (some (125, false))⟩,
    ⟨(some 128), .call n_rat_Mul [(.t 126), (.t 127)] false, (some (125, false))⟩,
    ⟨(some 129), .load (some 12) (.t 13), (some (125, false))⟩,
    ⟨(some 130), .call n_gantrylaw17_given [(.t 129)] false, (some (125, false))⟩,
    ⟨(some 131), .mov (.t 14), (some (125, false))⟩,
    ⟨(some 132), .call n_bounce_Loss [(.t 130), (.t 131)] false, (some (125, false))⟩,
    ⟨(some 133), .call n_gantrylaw17_same [(.t 128), (.t 132)] false, (some (125, false))⟩,
    ⟨(some 134), .un .not (.t 133), (some (125, false))⟩,
    ⟨(some 135), .pick (.t 125) (.c (.v (.bool true))) (.t 134), none⟩] []) <|
  .keep [11, 12, 13, 29, 30, 135] [[11], [12], [13], [29], [30]]) <|
  .cond (.t 135) (.seq (.seq (.reg [⟨(some 10), .mov (.c (.v (.bool false))), none⟩] []) <|
  .keep [10] []) <|
  .ret) <|
  .skip) <|
  .seq (.seq (.reg [⟨(some 136), .load (some 4) (.t 29), none⟩,
    ⟨(some 137), .load (some 4) (.t 30), none⟩,
    ⟨(some 138), .call n_rat_Compare [(.t 136), (.t 137)] false, none⟩,
    ⟨(some 139), .bin .leq (.t 138) (.c (.v (.int .i64 0))), none⟩,
    ⟨(some 140), .mov (.t 139), none⟩,
    ⟨(some 141), .load (some 4) (.t 30), (some (140, true))⟩,
    ⟨(some 142), .fad 0 (.t 11), (some (140, true))⟩,
    ⟨(some 143), .load (some 4) (.t 142), (some (140, true))⟩,
    ⟨(some 144), .fad 0 (.t 11), (some (140, true))⟩,
    ⟨(some 145), .load (some 4) (.t 144), (some (140, true))⟩,
    ⟨(some 146), .call n_rat_Mul [(.t 143), (.t 145)] false, (some (140, true))⟩,
    ⟨(some 147), .call n_rat_Compare [(.t 141), (.t 146)] false, (some (140, true))⟩,
    ⟨(some 148), .bin .leq (.t 147) (.c (.v (.int .i64 0))), (some (140, true))⟩,
    ⟨(some 149), .pick (.t 140) (.t 148) (.c (.v (.bool false))), none⟩,
    ⟨(some 150), .mov (.t 149), none⟩,
    ⟨(some 151), .load (some 12) (.t 11), (some (150, true))⟩,
    ⟨(some 152), .call n_gantrylaw17_given [(.t 151)] false, (some (150, true))⟩,
    ⟨(some 153), .call n_bounce_Limit [(.t 152)] false, (some (150, true))⟩,
    ⟨(some 154), .load (some 4) (.t 12), (some (150, true))⟩,
    ⟨(some 155), .call n_rat_Mul [(.t 153), (.t 154)] false, (some (150, true))⟩,
    ⟨(some 156), .load (some 12) (.t 13), (some (150, true))⟩,
    ⟨(some 157), .call n_gantrylaw17_given [(.t 156)] false, (some (150, true))⟩,
    ⟨(some 158), .call n_bounce_Limit [(.t 157)] false, (some (150, true))⟩,
    ⟨(some 159), .call n_gantrylaw17_same [(.t 155), (.t 158)] false, (some (150, true))⟩,
    ⟨(some 160), .pick (.t 150) (.t 159) (.c (.v (.bool false))), none⟩,
    ⟨(some 161), .mov (.t 160), none⟩,
    ⟨(some 162), .call n_gantrylaw17_lives [] false, (some (161, true))⟩,
    ⟨(some 163), .pick (.t 161) (.t 162) (.c (.v (.bool false))), none⟩,
    ⟨(some 10), .mov (.t 163), none⟩] []) <|
  .keep [10] []) <|
  .ret, [.t 10]⟩

/- 9: gantry/gantrylaw17.BounceGaps -/
def gantrylaw17_BounceGaps : CF := ⟨2, .seq (.seq (.reg [⟨(some 4), .mov (.c (.v (.bool false))), none⟩] []) <|
  .keep [0, 1] []) <|
  .seq (.seq (.reg [⟨(some 22), .mov (.t 0), none⟩,
    ⟨(some 23), .call n_gantryref17_Some [(.t 22)] false, none⟩,
    ⟨(some 5), .new [.v (.bool false), .z true, .v (.bool false), .z true, .v (.bool false), .z true, .v (.bool false), .z true, .v (.bool false), .z true, .v (.bool false), .z true], none⟩,
    ⟨none, .store 12 (.t 5) (.t 23), none⟩] []) <|
  .keep [1, 5] [[5]]) <|
  .seq (.seq (.reg [⟨(some 24), .load (some 12) (.t 5), none⟩,
    ⟨(some 25), .mov (.t 1), none⟩,
    ⟨(some 26), .call n_gantryref17_Time [(.t 24), (.t 25)] false, none⟩,
    ⟨(some 6), .new [.v (.bool false), .z true, .v (.bool false), .z true], none⟩,
    ⟨none, .store 4 (.t 6) (.t 26), none⟩] []) <|
  .keep [5, 6] [[5], [6]]) <|
  .seq (.seq (.reg [⟨(some 28), .load (some 12) (.t 5), none⟩,
    ⟨(some 29), .call n_gantrylaw17_given [(.t 28)] false, none⟩,
    ⟨(some 30), .load (some 4) (.t 6), none⟩,
    ⟨(some 31), .call n_bounce_Height [(.t 29), (.t 30), (.c (.v (.int .i64 40)))] false, none⟩,
    ⟨(some 27), .mov (.t 31), none⟩,
    ⟨(some 32), .ext (.t 27) 0, none⟩,
    ⟨(some 33), .ext (.t 27) 1, none⟩,
    ⟨(some 34), .ext (.t 27) 2, none⟩,
    ⟨(some 7), .new [.v (.bool false), .z true, .v (.bool false), .z true], none⟩,
    ⟨none, .store 4 (.t 7) (.t 32), none⟩,
    ⟨(some 8), .mov (.t 33), none⟩,
    ⟨(some 9), .mov (.t 34), none⟩] []) <|
  .keep [5, 6, 7, 8, 9] [[5], [6], [7]]) <|
  .seq (.seq (.seq (.reg [⟨(some 35), .mov (.t 9), none⟩,
    ⟨(some 36), .bin .neq (.t 35) (.c (.v (.int .i64 0))), none⟩] []) <|
  .keep [5, 6, 7, 8, 36] [[5], [6], [7]]) <|
  .cond (.t 36) (.seq (.seq (.reg [⟨(some 37), .call n_gantrylaw17_lives [] false, none⟩,
    ⟨(some 4), .mov (.t 37), none⟩] []) <|
  .keep [4] []) <|
  .ret) <|
  .skip) <|
  .seq (.seq (.reg [⟨(some 39), .load (some 12) (.t 5), none⟩,
    ⟨(some 40), .call n_gantrylaw17_given [(.t 39)] false, none⟩,
    ⟨(some 41), .mov (.t 8), none⟩,
    ⟨(some 42), .call n_bounce_Flight [(.t 40), (.t 41)] false, none⟩,
    ⟨(some 38), .mov (.t 42), none⟩,
    ⟨(some 43), .ext (.t 38) 0, none⟩,
    ⟨(some 44), .ext (.t 38) 1, none⟩,
    ⟨(some 45), .ext (.t 38) 2, none⟩,
    ⟨(some 10), .new [.v (.bool false), .z true, .v (.bool false), .z true], none⟩,
    ⟨(some 11), .new [.v (.bool false), .z true, .v (.bool false), .z true], none⟩,
    ⟨(some 12), .new [.v (.bool false), .z true, .v (.bool false), .z true], none⟩,
    ⟨none, .store 4 (.t 10) (.t 43), none⟩,
    ⟨none, .store 4 (.t 11) (.t 44), none⟩,
    ⟨none, .store 4 (.t 12) (.t 45), none⟩] []) <|
  .keep [5, 6, 7, 8, 10, 11, 12] [[5], [6], [7], [10], [11], [12]]) <|
  .seq (.seq (.reg [⟨(some 46), .load (some 4) (.t 6), none⟩,
    ⟨(some 47), .load (some 4) (.t 10), none⟩,
    ⟨(some 48), .call n_rat_Sub [(.t 46), (.t 47)] false, none⟩,
    ⟨(some 13), .new [.v (.bool false), .z true, .v (.bool false), .z true], none⟩,
    ⟨none, .store 4 (.t 13) (.t 48), none⟩] []) <|
  .keep [5, 6, 7, 8, 11, 12, 13] [[5], [6], [7], [11], [12], [13]]) <|
  .seq (.seq (.reg [⟨(some 49), .build [.v (.bool false), .z true, .v (.bool false), .z true] [], none⟩,
    ⟨(some 50), .load (some 4) (.t 12), none⟩,
    ⟨(some 51), .call n_gantryref05_Of [(.c (.v (.int .i64 1))), (.c (.v (.int .i64 2)))] false, none⟩,
    ⟨(some 52), .fad 4 (.t 5), none⟩,
    ⟨(some 53), .load (some 4) (.t 52), none⟩,
    ⟨(some 54), .call n_rat_Mul [(.t 51), (.t 53)] false, none⟩,
    ⟨(some 55), .call n_rat_Neg [(.t 54)] false, none⟩,
    ⟨(some 56), .lit 4 3 [.v (.bool false), .z true, .v (.bool false), .z true] [(0, (.t 49)), (1, (.t 50)), (2, (.t 55))] true, none⟩,
    ⟨(some 57), .call n_poly_Trim [(.t 56)] false, none⟩,
    ⟨(some 14), .mov (.t 57), none⟩] []) <|
  .keep [5, 6, 7, 8, 11, 13, 14] [[5], [6], [7], [11], [13]]) <|
  .seq (.seq (.seq (.reg [⟨(some 58), .load (some 4) (.t 7), none⟩,
    ⟨(some 59), .call n_rat_Sign [(.t 58)] false, none⟩,
    ⟨(some 60), .bin .lss (.t 59) (.c (.v (.int .i64 0))), none⟩,
    ⟨(some 61), .mov (.t 60), none⟩,
    ⟨(some 62), .load (some 4) (.t 7), (some (61, false))⟩,
    ⟨(some 63), .call n_rat_Sign [(.t 62)] false, (some (61, false))⟩,
    ⟨(some 64), .bin .eql (.t 63) (.c (.v (.int .i64 0))), (some (61, false))⟩,
    ⟨(some 65), .load (some 4) (.t 13), (some (61, false))⟩,
    ⟨(some 66), .call n_rat_Sign [(.t 65)] false, (some (61, false))⟩,
    ⟨(some 67), .bin .eql (.t 66) (.c (.v (.int .i64 0))), (some (61, false))⟩,
    ⟨(some 68), .binb true (.t 64) (.t 67), (some (61, false))⟩,
    ⟨(some 69), .pick (.t 61) (.c (.v (.bool true))) (.t 68), none⟩,
    ⟨(some 70), .mov (.t 69), none⟩,
    ⟨(some 71), .load (some 4) (.t 13), (some (70, false))⟩,
    ⟨(some 72), .call n_rat_Sign [(.t 71)] false, (some (70, false))⟩,
    ⟨(some 73), .bin .lss (.t 72) (.c (.v (.int .i64 0))), (some (70, false))⟩,
    ⟨(some 74), .pick (.t 70) (.c (.v (.bool true))) (.t 73), none⟩,
    ⟨(some 75), .mov (.t 74), none⟩,
    ⟨(some 76), .load (some 4) (.t 13), (some (75, false))⟩,
    ⟨(some 77), .load (some 4) (.t 11), (some (75, false))⟩,
    ⟨(some 78), .call n_rat_Compare [(.t 76), (.t 77)] false, (some (75, false))⟩,
    ⟨(some 79), .bin .geq (.t 78) (.c (.v (.int .i64 0))), (some (75, false))⟩,
    ⟨(some 80), .pick (.t 75) (.c (.v (.bool true))) (.t 79), none⟩,
    ⟨(some 81), .mov (.t 80), none⟩,
    ⟨(some 82), .load (some 4) (.t 7), (some (81, false))⟩,
    ⟨(some 83), .mov (.t 14), (some (81, false))⟩,
    ⟨(some 84), .load (some 4) (.t 13), (some (81, false))⟩,
    ⟨(some 85), .call n_poly_Eval [(.t 83), (.t 84)] false, (some (81, false))⟩,
    ⟨(some 86), .call n_gantrylaw17_same [(.t 82), (.t 85)] false, (some (81, false))⟩,
    ⟨(some 87), .un .not (.t 86), (some (81, false))⟩,
    ⟨(some 88), .pick (.t 81) (.c (.v (.bool true))) (.t 87), none⟩] []) <|
  .keep [5, 6, 7, 8, 88] [[5], [6], [7]]) <|
  .cond (.t 88) (.seq (.seq (.reg [⟨(some 4), .mov (.c (.v (.bool false))), none⟩] []) <|
  .keep [4] []) <|
  .ret) <|
  .skip) <|
  .seq (.seq (.seq (.reg [⟨(some 89), .mov (.t 8), none⟩,
    ⟨(some 90), .bin .eql (.t 89) (.c (.v (.int .i64 0))), none⟩] []) <|
  .keep [5, 6, 7, 8, 90] [[5], [6], [7]]) <|
  .cond (.t 90) (.seq (.seq (.reg [⟨(some 91), .call n_gantrylaw17_lives [] false, none⟩,
    ⟨(some 4), .mov (.t 91), none⟩] []) <|
  .keep [4] []) <|
  .ret) <|
  .skip) <|
  .seq (.seq (.reg [⟨(some 93), .load (some 12) (.t 5), none⟩,
    ⟨(some 94), .call n_gantrylaw17_given [(.t 93)] false, none⟩,
    ⟨(some 95), .call n_bounce_Flight [(.t 94), (.c (.v (.int .i64 0)))] false, none⟩,
    ⟨(some 92), .mov (.t 95), none⟩,
    ⟨(some 96), .ext (.t 92) 0, none⟩,
    ⟨(some 97), .ext (.t 92) 1, none⟩,
    ⟨(some 98), .ext (.t 92) 2, none⟩,
    ⟨(some 15), .new [.v (.bool false), .z true, .v (.bool false), .z true], none⟩,
    ⟨(some 16), .new [.v (.bool false), .z true, .v (.bool false), .z true], none⟩,
    ⟨(some 17), .new [.v (.bool false), .z true, .v (.bool false), .z true], none⟩,
    ⟨none, .store 4 (.t 15) (.t 96), none⟩,
    ⟨none, .store 4 (.t 16) (.t 97), none⟩,
    ⟨none, .store 4 (.t 17) (.t 98), none⟩] []) <|
  .keep [5, 6, 7, 8, 16] [[5], [6], [7], [16]]) <|
  .seq (.seq (.reg [⟨(some 99), .fad 0 (.t 5), none⟩,
    ⟨(some 100), .load (some 4) (.t 99), none⟩,
    ⟨(some 101), .fad 8 (.t 5), none⟩,
    ⟨(some 102), .load (some 4) (.t 101), none⟩,
    ⟨(some 103), .call n_rat_Mul [(.t 100), (.t 102)] false, none⟩,
    ⟨(some 104), .fad 4 (.t 5), none⟩,
    ⟨(some 105), .load (some 4) (.t 104), none⟩,
    ⟨(some 106), .fad 8 (.t 5), none⟩,
    ⟨(some 107), .load (some 4) (.t 106), none⟩,
    ⟨(some 108), .build [.v (.bool false), .z true, .v (.bool false), .z true, .v (.bool false), .z true, .v (.bool false), .z true, .v (.bool false), .z true, .v (.bool false), .z true] [(0, 4, (.t 103)), (4, 4, (.t 105)), (8, 4, (.t 107))], none⟩,
    ⟨(some 18), .new [.v (.bool false), .z true, .v (.bool false), .z true, .v (.bool false), .z true, .v (.bool false), .z true, .v (.bool false), .z true, .v (.bool false), .z true], none⟩,
    ⟨none, .store 12 (.t 18) (.t 108), none⟩] []) <|
  .keep [6, 7, 8, 16, 18] [[6], [7], [16], [18]]) <|
  .seq (.seq (.reg [⟨(some 110), .load (some 12) (.t 18), none⟩,
    ⟨(some 111), .load (some 4) (.t 6), none⟩,
    ⟨(some 112), .load (some 4) (.t 16), none⟩,
    ⟨(some 113), .call n_rat_Sub [(.t 111), (.t 112)] false, none⟩,
    ⟨(some 114), .call n_bounce_Height [(.t 110), (.t 113), (.c (.v (.int .i64 40)))] false, none⟩,
    ⟨(some 109), .mov (.t 114), none⟩,
    ⟨(some 115), .ext (.t 109) 0, none⟩,
    ⟨(some 116), .ext (.t 109) 1, none⟩,
    ⟨(some 117), .ext (.t 109) 2, none⟩,
    ⟨(some 19), .new [.v (.bool false), .z true, .v (.bool false), .z true], none⟩,
    ⟨none, .store 4 (.t 19) (.t 115), none⟩,
    ⟨(some 20), .mov (.t 116), none⟩,
    ⟨(some 21), .mov (.t 117), none⟩] []) <|
  .keep [7, 8, 19, 20, 21] [[7], [19]]) <|
  .seq (.seq (.reg [⟨(some 118), .mov (.t 21), none⟩,
    ⟨(some 119), .bin .eql (.t 118) (.c (.v (.int .i64 0))), none⟩,
    ⟨(some 120), .mov (.t 119), none⟩,
    ⟨(some 121), .mov (.t 20), (some (120, true))⟩,
    ⟨(some 122), .mov (.t 8), (some (120, true))⟩,
    ⟨(some 123), .bin .sub (.t 122) (.c (.v (.int .i64 1))), (some (120, true))⟩,
    ⟨(some 124), .bin .eql (.t 121) (.t 123), (some (120, true))⟩,
    ⟨(some 125), .pick (.t 120) (.t 124) (.c (.v (.bool false))), none⟩,
    ⟨(some 126), .mov (.t 125), none⟩,
    ⟨(some 127), .load (some 4) (.t 19), (some (126, true))⟩,
    ⟨(some 128), .load (some 4) (.t 7), (some (126, true))⟩,
    ⟨(some 129), .call n_gantrylaw17_same [(.t 127), (.t 128)] false, (some (126, true))⟩,
    ⟨(some 130), .pick (.t 126) (.t 129) (.c (.v (.bool false))), none⟩,
    ⟨(some 131), .mov (.t 130), none⟩,
    ⟨(some 132), .call n_gantrylaw17_lives [] false, (some (131, true))⟩,
    ⟨(some 133), .pick (.t 131) (.t 132) (.c (.v (.bool false))), none⟩,
    ⟨(some 4), .mov (.t 133), none⟩] []) <|
  .keep [4] []) <|
  .ret, [.t 4]⟩

/- 10: gantry/gantryref17.Some -/
def gantryref17_Some : CF := ⟨1, .seq (.seq (.reg [⟨(some 2), .new [.v (.bool false), .z true, .v (.bool false), .z true, .v (.bool false), .z true, .v (.bool false), .z true, .v (.bool false), .z true, .v (.bool false), .z true], none⟩] []) <|
  .keep [0, 2] [[2]]) <|
  .seq (.seq (.reg [⟨(some 5), .mov (.t 0), none⟩,
    ⟨(some 6), .call n_gantryref01_At [(.t 5), (.c (.v (.int .i64 0))), (.c (.v (.int .i64 30)))] false, none⟩,
    ⟨(some 7), .mov (.t 0), none⟩,
    ⟨(some 8), .call n_gantryref01_At [(.t 7), (.c (.v (.int .i64 1))), (.c (.v (.int .i64 6)))] false, none⟩,
    ⟨(some 9), .bin .add (.c (.v (.int .i64 1))) (.t 8), none⟩,
    ⟨(some 10), .call n_gantryref05_Of [(.t 6), (.t 9)] false, none⟩,
    ⟨(some 11), .mov (.t 0), none⟩,
    ⟨(some 12), .call n_gantryref01_At [(.t 11), (.c (.v (.int .i64 2))), (.c (.v (.int .i64 20)))] false, none⟩,
    ⟨(some 13), .bin .add (.c (.v (.int .i64 1))) (.t 12), none⟩,
    ⟨(some 14), .mov (.t 0), none⟩,
    ⟨(some 15), .call n_gantryref01_At [(.t 14), (.c (.v (.int .i64 3))), (.c (.v (.int .i64 6)))] false, none⟩,
    ⟨(some 16), .bin .add (.c (.v (.int .i64 1))) (.t 15), none⟩,
    ⟨(some 17), .call n_gantryref05_Of [(.t 13), (.t 16)] false, none⟩,
    ⟨(some 18), .build [.v (.bool false), .z true, .v (.bool false), .z true, .v (.bool false), .z true, .v (.bool false), .z true, .v (.bool false), .z true, .v (.bool false), .z true] [(0, 4, (.t 10)), (4, 4, (.t 17))], none⟩,
    ⟨(some 3), .new [.v (.bool false), .z true, .v (.bool false), .z true, .v (.bool false), .z true, .v (.bool false), .z true, .v (.bool false), .z true, .v (.bool false), .z true], none⟩,
    ⟨none, .store 12 (.t 3) (.t 18), none⟩] []) <|
  .keep [0, 2, 3] [[2], [3]]) <|
  .seq (.seq (.reg [⟨(some 19), .mov (.t 0), none⟩,
    ⟨(some 20), .call n_gantryref01_At [(.t 19), (.c (.v (.int .i64 4))), (.c (.v (.int .i64 9)))] false, none⟩,
    ⟨(some 21), .bin .add (.c (.v (.int .i64 1))) (.t 20), none⟩,
    ⟨(some 4), .mov (.t 21), none⟩] []) <|
  .keep [0, 2, 3, 4] [[2], [3]]) <|
  .seq (.seq (.reg [⟨(some 22), .mov (.t 0), none⟩,
    ⟨(some 23), .mov (.t 4), none⟩,
    ⟨(some 24), .call n_gantryref01_At [(.t 22), (.c (.v (.int .i64 5))), (.t 23)] false, none⟩,
    ⟨(some 25), .mov (.t 4), none⟩,
    ⟨(some 26), .call n_gantryref05_Of [(.t 24), (.t 25)] false, none⟩,
    ⟨(some 27), .fad 8 (.t 3), none⟩,
    ⟨none, .store 4 (.t 27) (.t 26), none⟩] []) <|
  .keep [0, 2, 3] [[2], [3]]) <|
  .seq (.seq (.seq (.reg [⟨(some 28), .mov (.t 0), none⟩,
    ⟨(some 29), .call n_gantryref01_At [(.t 28), (.c (.v (.int .i64 6))), (.c (.v (.int .i64 20)))] false, none⟩] []) <|
  .keep [2, 3, 29] [[2], [3]]) <|
  .seq (.blk 0 <|
  .seq (.seq (.reg [⟨(some 31), .bin .eql (.t 29) (.c (.v (.int .i64 1))), none⟩,
    ⟨(some 30), .mov (.t 31), none⟩] []) <|
  .keep [2, 3, 29, 30] [[2], [3]]) <|
  .cond (.t 30) (.seq (.reg [⟨(some 32), .call n_gantryref17_whole [(.c (.v (.int .i64 1)))] false, none⟩,
    ⟨(some 33), .fad 8 (.t 3), none⟩,
    ⟨none, .store 4 (.t 33) (.t 32), none⟩] []) <|
  .keep [2, 3] [[2], [3]]) <|
  .seq (.seq (.reg [⟨(some 35), .bin .eql (.t 29) (.c (.v (.int .i64 2))), none⟩,
    ⟨(some 34), .mov (.t 35), none⟩] []) <|
  .keep [2, 3, 29, 34] [[2], [3]]) <|
  .cond (.t 34) (.seq (.reg [⟨(some 36), .call n_gantryref05_Of [(.c (.v (.int .i64 (-1)))), (.c (.v (.int .i64 3)))] false, none⟩,
    ⟨(some 37), .fad 0 (.t 3), none⟩,
    ⟨none, .store 4 (.t 37) (.t 36), none⟩] []) <|
  .keep [2, 3] [[2], [3]]) <|
  .seq (.seq (.reg [⟨(some 39), .bin .eql (.t 29) (.c (.v (.int .i64 3))), none⟩,
    ⟨(some 38), .mov (.t 39), none⟩] []) <|
  .keep [2, 3, 29, 38] [[2], [3]]) <|
  .cond (.t 38) (.seq (.reg [⟨(some 40), .build [.v (.bool false), .z true, .v (.bool false), .z true] [], none⟩,
    ⟨(some 41), .fad 4 (.t 3), none⟩,
    ⟨none, .store 4 (.t 41) (.t 40), none⟩] []) <|
  .keep [2, 3] [[2], [3]]) <|
  .seq (.seq (.reg [⟨(some 43), .bin .eql (.t 29) (.c (.v (.int .i64 4))), none⟩,
    ⟨(some 42), .mov (.t 43), none⟩] []) <|
  .keep [2, 3, 42] [[2], [3]]) <|
  .cond (.t 42) (.seq (.reg [⟨(some 44), .call n_gantryref05_Of [(.c (.v (.int .i64 (-1)))), (.c (.v (.int .i64 2)))] false, none⟩,
    ⟨(some 45), .fad 8 (.t 3), none⟩,
    ⟨none, .store 4 (.t 45) (.t 44), none⟩] []) <|
  .keep [2, 3] [[2], [3]]) <|
  .skip) <|
  .keep [2, 3] [[2], [3]]) <|
  .seq (.seq (.reg [⟨(some 46), .load (some 12) (.t 3), none⟩,
    ⟨none, .store 12 (.t 2) (.t 46), none⟩] []) <|
  .keep [2] [[2]]) <|
  .ret, [.cell 2 (some 12)]⟩

/- 11: gantry/gantryref17.Time -/
def gantryref17_Time : CF := ⟨2, .seq (.seq (.reg [⟨(some 2), .box (.t 0), none⟩,
    ⟨(some 4), .new [.v (.bool false), .z true, .v (.bool false), .z true], none⟩] []) <|
  .keep [1, 2, 4] [[2], [4]]) <|
  .seq (.seq (.reg [⟨(some 9), .load (some 12) (.t 2), none⟩,
    ⟨(some 10), .call n_gantryref17_Limit [(.t 9)] false, none⟩,
    ⟨(some 11), .mov (.t 1), none⟩,
    ⟨(some 12), .call n_gantryref01_Around [(.t 11), (.c (.v (.int .i64 68)))] false, none⟩,
    ⟨(some 13), .call n_gantryref05_Of [(.t 12), (.c (.v (.int .i64 64)))] false, none⟩,
    ⟨(some 14), .call n_gantryref05_Mul [(.t 10), (.t 13)] false, none⟩,
    ⟨(some 5), .new [.v (.bool false), .z true, .v (.bool false), .z true], none⟩,
    ⟨none, .store 4 (.t 5) (.t 14), none⟩] []) <|
  .keep [1, 2, 4, 5] [[2], [4], [5]]) <|
  .seq (.seq (.seq (.reg [⟨(some 15), .mov (.t 1), none⟩,
    ⟨(some 16), .bin .quo (.t 15) (.c (.v (.int .i64 68))), none⟩,
    ⟨(some 17), .call n_gantryref01_Around [(.t 16), (.c (.v (.int .i64 9)))] false, none⟩,
    ⟨(some 18), .bin .eql (.t 17) (.c (.v (.int .i64 1))), none⟩] []) <|
  .keep [1, 2, 4, 5, 18] [[2], [4], [5]]) <|
  .cond (.t 18) (.seq (.seq (.reg [⟨(some 19), .load (some 4) (.t 5), none⟩,
    ⟨(some 20), .call n_gantryref05_Neg [(.t 19)] false, none⟩,
    ⟨none, .store 4 (.t 4) (.t 20), none⟩] []) <|
  .keep [4] [[4]]) <|
  .ret) <|
  .skip) <|
  .seq (.seq (.seq (.reg [⟨(some 21), .mov (.t 1), none⟩,
    ⟨(some 22), .bin .quo (.t 21) (.c (.v (.int .i64 68))), none⟩,
    ⟨(some 23), .call n_gantryref01_Around [(.t 22), (.c (.v (.int .i64 9)))] false, none⟩,
    ⟨(some 24), .bin .eql (.t 23) (.c (.v (.int .i64 2))), none⟩] []) <|
  .keep [1, 2, 4, 5, 24] [[2], [4], [5]]) <|
  .cond (.t 24) (.seq (.seq (.reg [⟨(some 26), .load (some 12) (.t 2), none⟩,
    ⟨(some 27), .mov (.t 1), none⟩,
    ⟨(some 28), .call n_gantryref01_Around [(.t 27), (.c (.v (.int .i64 5)))] false, none⟩,
    ⟨(some 29), .call n_gantryref17_Flight [(.t 26), (.t 28)] false, none⟩,
    ⟨(some 25), .mov (.t 29), none⟩,
    ⟨(some 30), .ext (.t 25) 0, none⟩,
    ⟨(some 31), .ext (.t 25) 1, none⟩,
    ⟨(some 32), .ext (.t 25) 2, none⟩,
    ⟨(some 6), .new [.v (.bool false), .z true, .v (.bool false), .z true], none⟩,
    ⟨(some 7), .new [.v (.bool false), .z true, .v (.bool false), .z true], none⟩,
    ⟨(some 8), .new [.v (.bool false), .z true, .v (.bool false), .z true], none⟩,
    ⟨none, .store 4 (.t 6) (.t 30), none⟩,
    ⟨none, .store 4 (.t 7) (.t 31), none⟩,
    ⟨none, .store 4 (.t 8) (.t 32), none⟩] []) <|
  .keep [4, 6] [[4], [6]]) <|
  .seq (.seq (.reg [⟨(some 33), .load (some 4) (.t 6), none⟩,
    ⟨none, .store 4 (.t 4) (.t 33), none⟩] []) <|
  .keep [4] [[4]]) <|
  .ret) <|
  .skip) <|
  .seq (.seq (.reg [⟨(some 34), .load (some 4) (.t 5), none⟩,
    ⟨none, .store 4 (.t 4) (.t 34), none⟩] []) <|
  .keep [4] [[4]]) <|
  .ret, [.cell 4 (some 4)]⟩

/- 12: gantry/gantryref01.Around -/
def gantryref01_Around : CF := ⟨2, .seq (.seq (.reg [⟨(some 4), .mov (.c (.v (.int .i64 0))), none⟩] []) <|
  .keep [0, 1] []) <|
  .seq (.seq (.seq (.reg [⟨(some 5), .mov (.t 0), none⟩,
    ⟨(some 6), .bin .lss (.t 5) (.c (.v (.int .i64 0))), none⟩] []) <|
  .keep [0, 1, 6] []) <|
  .cond (.t 6) (.seq (.reg [⟨(some 7), .mov (.t 0), none⟩,
    ⟨(some 8), .bin .add (.t 7) (.c (.v (.int .i64 1))), none⟩,
    ⟨(some 9), .un .neg (.t 8), none⟩,
    ⟨(some 0), .mov (.t 9), none⟩] []) <|
  .keep [0, 1] []) <|
  .skip) <|
  .seq (.seq (.reg [⟨(some 10), .mov (.t 0), none⟩,
    ⟨(some 11), .mov (.t 1), none⟩,
    ⟨(some 12), .bin .rem (.t 10) (.t 11), none⟩,
    ⟨(some 4), .mov (.t 12), none⟩] []) <|
  .keep [4] []) <|
  .ret, [.t 4]⟩

/- 13: gantry/gantrylaw17.same -/
def gantrylaw17_same : CF := ⟨2, .seq (.seq (.reg [⟨(some 2), .box (.t 0), none⟩,
    ⟨(some 3), .box (.t 1), none⟩,
    ⟨(some 4), .mov (.c (.v (.bool false))), none⟩] []) <|
  .keep [2, 3] [[2], [3]]) <|
  .seq (.seq (.reg [⟨(some 5), .load (some 4) (.t 2), none⟩,
    ⟨(some 6), .load (some 4) (.t 3), none⟩,
    ⟨(some 7), .call n_gantryref17_Same [(.t 5), (.t 6)] false, none⟩,
    ⟨(some 4), .mov (.t 7), none⟩] []) <|
  .keep [4] []) <|
  .ret, [.t 4]⟩

/- 14: gantry/bounce.Loss -/
def bounce_Loss : CF := ⟨2, .seq (.seq (.reg [⟨(some 2), .box (.t 0), none⟩,
    ⟨(some 4), .new [.v (.bool false), .z true, .v (.bool false), .z true], none⟩] []) <|
  .keep [1, 2, 4] [[2], [4]]) <|
  .seq (.seq (.seq (.reg [⟨(some 6), .load (some 12) (.t 2), none⟩,
    ⟨(some 7), .call n_bounce_Valid [(.t 6)] false, none⟩,
    ⟨(some 8), .un .not (.t 7), none⟩,
    ⟨(some 9), .mov (.t 8), none⟩,
    ⟨(some 10), .mov (.t 1), (some (9, false))⟩,
    ⟨(some 11), .call n_bounce_within [(.t 10)] false, (some (9, false))⟩,
    ⟨(some 12), .un .not (.t 11), (some (9, false))⟩,
    ⟨(some 13), .pick (.t 9) (.c (.v (.bool true))) (.t 12), none⟩] []) <|
  .keep [1, 2, 4, 13] [[2], [4]]) <|
  .cond (.t 13) (.seq (.seq (.reg [⟨(some 14), .build [.v (.bool false), .z true, .v (.bool false), .z true] [], none⟩,
    ⟨none, .store 4 (.t 4) (.t 14), none⟩] []) <|
  .keep [4] [[4]]) <|
  .ret) <|
  .skip) <|
  .seq (.seq (.reg [⟨(some 15), .fad 0 (.t 2), none⟩,
    ⟨(some 16), .load (some 4) (.t 15), none⟩,
    ⟨(some 17), .fad 8 (.t 2), none⟩,
    ⟨(some 18), .load (some 4) (.t 17), none⟩,
    ⟨(some 19), .call n_bounce_one [] false, none⟩,
    ⟨(some 20), .mov (.t 1), none⟩,
    ⟨(some 21), .call n_bounce_power_api_Rat [(.t 18), (.t 19), (.t 20), (.f n_rat_Mul)] false, none⟩,
    ⟨(some 22), .call n_rat_Mul [(.t 16), (.t 21)] false, none⟩,
    ⟨(some 5), .new [.v (.bool false), .z true, .v (.bool false), .z true], none⟩,
    ⟨none, .store 4 (.t 5) (.t 22), none⟩] []) <|
  .keep [2, 4, 5] [[2], [4], [5]]) <|
  .seq (.seq (.reg [⟨(some 23), .fad 0 (.t 2), none⟩,
    ⟨(some 24), .load (some 4) (.t 23), none⟩,
    ⟨(some 25), .fad 0 (.t 2), none⟩,
    ⟨(some 26), .load (some 4) (.t 25), none⟩,
    ⟨(some 27), .call n_rat_Mul [(.t 24), (.t 26)] false, none⟩,
    ⟨(some 28), .load (some 4) (.t 5), none⟩,
    ⟨(some 29), .load (some 4) (.t 5), none⟩,
    ⟨(some 30), .call n_rat_Mul [(.t 28), (.t 29)] false, none⟩,
    ⟨(some 31), .call n_rat_Sub [(.t 27), (.t 30)] false, none⟩,
    ⟨none, .store 4 (.t 4) (.t 31), none⟩] []) <|
  .keep [4] [[4]]) <|
  .ret, [.cell 4 (some 4)]⟩

/- 15: gantry/gantrylaw17.given -/
def gantrylaw17_given : CF := ⟨1, .seq (.seq (.reg [⟨(some 1), .box (.t 0), none⟩,
    ⟨(some 2), .new [.v (.bool false), .z true, .v (.bool false), .z true, .v (.bool false), .z true, .v (.bool false), .z true, .v (.bool false), .z true, .v (.bool false), .z true], none⟩] []) <|
  .keep [1, 2] [[1], [2]]) <|
  .seq (.seq (.reg [⟨(some 3), .fad 0 (.t 1), none⟩,
    ⟨(some 4), .load (some 4) (.t 3), none⟩,
    ⟨(some 5), .fad 4 (.t 1), none⟩,
    ⟨(some 6), .load (some 4) (.t 5), none⟩,
    ⟨(some 7), .fad 8 (.t 1), none⟩,
    ⟨(some 8), .load (some 4) (.t 7), none⟩,
    ⟨(some 9), .build [.v (.bool false), .z true, .v (.bool false), .z true, .v (.bool false), .z true, .v (.bool false), .z true, .v (.bool false), .z true, .v (.bool false), .z true] [(0, 4, (.t 4)), (4, 4, (.t 6)), (8, 4, (.t 8))], none⟩,
    ⟨none, .store 12 (.t 2) (.t 9), none⟩] []) <|
  .keep [2] [[2]]) <|
  .ret, [.cell 2 (some 12)]⟩

/- 16: gantry/gantryref17.Loss -/
def gantryref17_Loss : CF := ⟨2, .seq (.seq (.reg [⟨(some 2), .box (.t 0), none⟩,
    ⟨(some 4), .new [.v (.bool false), .z true, .v (.bool false), .z true], none⟩] []) <|
  .keep [1, 2, 4] [[2], [4]]) <|
  .seq (.seq (.seq (.reg [⟨(some 8), .load (some 12) (.t 2), none⟩,
    ⟨(some 9), .call n_gantryref17_Valid [(.t 8)] false, none⟩,
    ⟨(some 10), .un .not (.t 9), none⟩,
    ⟨(some 11), .mov (.t 10), none⟩,
    ⟨(some 12), .mov (.t 1), (some (11, false))⟩,
    ⟨(some 13), .bin .lss (.t 12) (.c (.v (.int .i64 0))), (some (11, false))⟩,
    ⟨(some 14), .pick (.t 11) (.c (.v (.bool true))) (.t 13), none⟩,
    ⟨(some 15), .mov (.t 14), none⟩,
    ⟨(some 16), .mov (.t 1), (some (15, false))⟩,
    ⟨(some 17), .bin .gtr (.t 16) (.c (.v (.int .i64 64))), (some (15, false))⟩,
    ⟨(some 18), .pick (.t 15) (.c (.v (.bool true))) (.t 17), none⟩] []) <|
  .keep [1, 2, 4, 18] [[2], [4]]) <|
  .cond (.t 18) (.seq (.seq (.reg [⟨(some 19), .build [.v (.bool false), .z true, .v (.bool false), .z true] [], none⟩,
    ⟨none, .store 4 (.t 4) (.t 19), none⟩] []) <|
  .keep [4] [[4]]) <|
  .ret) <|
  .skip) <|
  .seq (.seq (.reg [⟨(some 21), .load (some 12) (.t 2), none⟩,
    ⟨(some 22), .mov (.t 1), none⟩,
    ⟨(some 23), .call n_gantryref17_Flight [(.t 21), (.t 22)] false, none⟩,
    ⟨(some 20), .mov (.t 23), none⟩,
    ⟨(some 24), .ext (.t 20) 0, none⟩,
    ⟨(some 25), .ext (.t 20) 1, none⟩,
    ⟨(some 26), .ext (.t 20) 2, none⟩,
    ⟨(some 5), .new [.v (.bool false), .z true, .v (.bool false), .z true], none⟩,
    ⟨(some 6), .new [.v (.bool false), .z true, .v (.bool false), .z true], none⟩,
    ⟨(some 7), .new [.v (.bool false), .z true, .v (.bool false), .z true], none⟩,
    ⟨none, .store 4 (.t 5) (.t 24), none⟩,
    ⟨none, .store 4 (.t 6) (.t 25), none⟩,
    ⟨none, .store 4 (.t 7) (.t 26), none⟩] []) <|
  .keep [2, 4, 7] [[2], [4], [7]]) <|
  .seq (.seq (.reg [⟨(some 27), .fad 0 (.t 2), none⟩,
    ⟨(some 28), .load (some 4) (.t 27), none⟩,
    ⟨(some 29), .fad 0 (.t 2), none⟩,
    ⟨(some 30), .load (some 4) (.t 29), none⟩,
    ⟨(some 31), .call n_gantryref05_Mul [(.t 28), (.t 30)] false, none⟩,
    ⟨(some 32), .load (some 4) (.t 7), none⟩,
    ⟨(some 33), .load (some 4) (.t 7), none⟩,
    ⟨(some 34), .call n_gantryref05_Mul [(.t 32), (.t 33)] false, none⟩,
    ⟨(some 35), .call n_gantryref05_Sub [(.t 31), (.t 34)] false, none⟩,
    ⟨none, .store 4 (.t 4) (.t 35), none⟩] []) <|
  .keep [4] [[4]]) <|
  .ret, [.cell 4 (some 4)]⟩

/- 17: gantry/bounce.Valid -/
def bounce_Valid : CF := ⟨1, .seq (.seq (.reg [⟨(some 1), .box (.t 0), none⟩,
    ⟨(some 2), .mov (.c (.v (.bool false))), none⟩] []) <|
  .keep [1] [[1]]) <|
  .seq (.seq (.reg [⟨(some 3), .fad 0 (.t 1), none⟩,
    ⟨(some 4), .load (some 4) (.t 3), none⟩,
    ⟨(some 5), .call n_rat_Sign [(.t 4)] false, none⟩,
    ⟨(some 6), .bin .geq (.t 5) (.c (.v (.int .i64 0))), none⟩,
    ⟨(some 7), .mov (.t 6), none⟩,
    ⟨(some 8), .fad 4 (.t 1), (some (7, true))⟩,
    ⟨(some 9), .load (some 4) (.t 8), (some (7, true))⟩,
    ⟨(some 10), .call n_rat_Sign [(.t 9)] false, (some (7, true))⟩,
    ⟨(some 11), .bin .gtr (.t 10) (.c (.v (.int .i64 0))), (some (7, true))⟩,
    ⟨(some 12), .pick (.t 7) (.t 11) (.c (.v (.bool false))), none⟩,
    ⟨(some 13), .mov (.t 12), none⟩,
    ⟨(some 14), .fad 8 (.t 1), (some (13, true))⟩,
    ⟨(some 15), .load (some 4) (.t 14), (some (13, true))⟩,
    ⟨(some 16), .call n_rat_Sign [(.t 15)] false, (some (13, true))⟩,
    ⟨(some 17), .bin .geq (.t 16) (.c (.v (.int .i64 0))), (some (13, true))⟩,
    ⟨(some 18), .pick (.t 13) (.t 17) (.c (.v (.bool false))), none⟩,
    ⟨(some 19), .mov (.t 18), none⟩,
    ⟨(some 20), .fad 8 (.t 1), (some (19, true))⟩,
    ⟨(some 21), .load (some 4) (.t 20), (some (19, true))⟩,
    ⟨(some 22), .call n_bounce_one [] false, (some (19, true))⟩,
    ⟨(some 23), .call n_rat_Compare [(.t 21), (.t 22)] false, (some (19, true))⟩,
    ⟨(some 24), .bin .lss (.t 23) (.c (.v (.int .i64 0))), (some (19, true))⟩,
    ⟨(some 25), .pick (.t 19) (.t 24) (.c (.v (.bool false))), none⟩,
    ⟨(some 2), .mov (.t 25), none⟩] []) <|
  .keep [2] []) <|
  .ret, [.t 2]⟩

/- 18: gantry/gantryref17.Valid -/
def gantryref17_Valid : CF := ⟨1, .seq (.seq (.reg [⟨(some 1), .box (.t 0), none⟩,
    ⟨(some 2), .mov (.c (.v (.bool false))), none⟩] []) <|
  .keep [1] [[1]]) <|
  .seq (.seq (.reg [⟨(some 3), .fad 0 (.t 1), none⟩,
    ⟨(some 4), .load (some 4) (.t 3), none⟩,
    ⟨(some 5), .call n_gantryref05_Sign [(.t 4)] false, none⟩,
    ⟨(some 6), .bin .geq (.t 5) (.c (.v (.int .i64 0))), none⟩,
    ⟨(some 7), .mov (.t 6), none⟩,
    ⟨(some 8), .fad 4 (.t 1), (some (7, true))⟩,
    ⟨(some 9), .load (some 4) (.t 8), (some (7, true))⟩,
    ⟨(some 10), .call n_gantryref05_Sign [(.t 9)] false, (some (7, true))⟩,
    ⟨(some 11), .bin .gtr (.t 10) (.c (.v (.int .i64 0))), (some (7, true))⟩,
    ⟨(some 12), .pick (.t 7) (.t 11) (.c (.v (.bool false))), none⟩,
    ⟨(some 13), .mov (.t 12), none⟩,
    ⟨(some 14), .fad 8 (.t 1), (some (13, true))⟩,
    ⟨(some 15), .load (some 4) (.t 14), (some (13, true))⟩,
    ⟨(some 16), .call n_gantryref05_Sign [(.t 15)] false, (some (13, true))⟩,
    ⟨(some 17), .bin .geq (.t 16) (.c (.v (.int .i64 0))), (some (13, true))⟩,
    ⟨(some 18), .pick (.t 13) (.t 17) (.c (.v (.bool false))), none⟩,
    ⟨(some 19), .mov (.t 18), none⟩,
    ⟨(some 20), .fad 8 (.t 1), (some (19, true))⟩,
    ⟨(some 21), .load (some 4) (.t 20), (some (19, true))⟩,
    ⟨(some 22), .call n_gantryref17_whole [(.c (.v (.int .i64 1)))] false, (some (19, true))⟩,
    ⟨(some 23), .call n_gantryref05_Compare [(.t 21), (.t 22)] false, (some (19, true))⟩,
    ⟨(some 24), .bin .lss (.t 23) (.c (.v (.int .i64 0))), (some (19, true))⟩,
    ⟨(some 25), .pick (.t 19) (.t 24) (.c (.v (.bool false))), none⟩,
    ⟨(some 2), .mov (.t 25), none⟩] []) <|
  .keep [2] []) <|
  .ret, [.t 2]⟩

/- 19: gantry/bounce.Limit -/
def bounce_Limit : CF := ⟨1, .seq (.seq (.reg [⟨(some 1), .box (.t 0), none⟩,
    ⟨(some 2), .new [.v (.bool false), .z true, .v (.bool false), .z true], none⟩] []) <|
  .keep [1, 2] [[1], [2]]) <|
  .seq (.seq (.seq (.reg [⟨(some 3), .load (some 12) (.t 1), none⟩,
    ⟨(some 4), .call n_bounce_Valid [(.t 3)] false, none⟩,
    ⟨(some 5), .un .not (.t 4), none⟩] []) <|
  .keep [1, 2, 5] [[1], [2]]) <|
  .cond (.t 5) (.seq (.seq (.reg [⟨(some 6), .build [.v (.bool false), .z true, .v (.bool false), .z true] [], none⟩,
    ⟨none, .store 4 (.t 2) (.t 6), none⟩] []) <|
  .keep [2] [[2]]) <|
  .ret) <|
  .skip) <|
  .seq (.seq (.reg [⟨(some 7), .fad 0 (.t 1), none⟩,
    ⟨(some 8), .load (some 4) (.t 7), none⟩,
    ⟨(some 9), .fad 4 (.t 1), none⟩,
    ⟨(some 10), .load (some 4) (.t 9), none⟩,
    ⟨(some 11), .call n_bounce_one [] false, none⟩,
    ⟨(some 12), .fad 8 (.t 1), none⟩,
    ⟨(some 13), .load (some 4) (.t 12), none⟩,
    ⟨(some 14), .call n_rat_Sub [(.t 11), (.t 13)] false, none⟩,
    ⟨(some 15), .call n_rat_Mul [(.t 10), (.t 14)] false, none⟩,
    ⟨(some 16), .call n_bounce_double [(.t 8), (.t 15)] false, none⟩,
    ⟨none, .store 4 (.t 2) (.t 16), none⟩] []) <|
  .keep [2] [[2]]) <|
  .ret, [.cell 2 (some 4)]⟩

/- 20: gantry/gantryref17.Limit -/
def gantryref17_Limit : CF := ⟨1, .seq (.seq (.reg [⟨(some 1), .box (.t 0), none⟩,
    ⟨(some 2), .new [.v (.bool false), .z true, .v (.bool false), .z true], none⟩] []) <|
  .keep [1, 2] [[1], [2]]) <|
  .seq (.seq (.seq (.reg [⟨(some 3), .load (some 12) (.t 1), none⟩,
    ⟨(some 4), .call n_gantryref17_Valid [(.t 3)] false, none⟩,
    ⟨(some 5), .un .not (.t 4), none⟩] []) <|
  .keep [1, 2, 5] [[1], [2]]) <|
  .cond (.t 5) (.seq (.seq (.reg [⟨(some 6), .build [.v (.bool false), .z true, .v (.bool false), .z true] [], none⟩,
    ⟨none, .store 4 (.t 2) (.t 6), none⟩] []) <|
  .keep [2] [[2]]) <|
  .ret) <|
  .skip) <|
  .seq (.seq (.reg [⟨(some 7), .call n_gantryref17_whole [(.c (.v (.int .i64 2)))] false, none⟩,
    ⟨(some 8), .fad 0 (.t 1), none⟩,
    ⟨(some 9), .load (some 4) (.t 8), none⟩,
    ⟨(some 10), .call n_gantryref05_Mul [(.t 7), (.t 9)] false, none⟩,
    ⟨(some 11), .fad 4 (.t 1), none⟩,
    ⟨(some 12), .load (some 4) (.t 11), none⟩,
    ⟨(some 13), .call n_gantryref17_whole [(.c (.v (.int .i64 1)))] false, none⟩,
    ⟨(some 14), .fad 8 (.t 1), none⟩,
    ⟨(some 15), .load (some 4) (.t 14), none⟩,
    ⟨(some 16), .call n_gantryref05_Sub [(.t 13), (.t 15)] false, none⟩,
    ⟨(some 17), .call n_gantryref05_Mul [(.t 12), (.t 16)] false, none⟩,
    ⟨(some 18), .call n_gantryref05_Div [(.t 10), (.t 17)] false, none⟩,
    ⟨none, .store 4 (.t 2) (.t 18), none⟩] []) <|
  .keep [2] [[2]]) <|
  .ret, [.cell 2 (some 4)]⟩

/- 21: gantry/bounce.Ends -/
def bounce_Ends : CF := ⟨2, .seq (.seq (.reg [⟨(some 2), .box (.t 0), none⟩,
    ⟨(some 3), .box (.t 1), none⟩,
    ⟨(some 4), .mov (.c (.v (.bool false))), none⟩] []) <|
  .keep [2, 3] [[2], [3]]) <|
  .seq (.seq (.reg [⟨(some 5), .load (some 12) (.t 2), none⟩,
    ⟨(some 6), .call n_bounce_Valid [(.t 5)] false, none⟩,
    ⟨(some 7), .mov (.t 6), none⟩,
    ⟨(some 8), .load (some 12) (.t 2), (some (7, true))⟩,
    ⟨(some 9), .call n_bounce_Limit [(.t 8)] false, (some (7, true))⟩,
    ⟨(some 10), .load (some 4) (.t 3), (some (7, true))⟩,
    ⟨(some 11), .call n_rat_Compare [(.t 9), (.t 10)] false, (some (7, true))⟩,
    ⟨(some 12), .bin .leq (.t 11) (.c (.v (.int .i64 0))), (some (7, true))⟩,
    ⟨(some 13), .pick (.t 7) (.t 12) (.c (.v (.bool false))), none⟩,
    ⟨(some 4), .mov (.t 13), none⟩] []) <|
  .keep [4] []) <|
  .ret, [.t 4]⟩

/- 22: gantry/gantryref17.Ends -/
def gantryref17_Ends : CF := ⟨2, .seq (.seq (.reg [⟨(some 2), .box (.t 0), none⟩,
    ⟨(some 3), .box (.t 1), none⟩,
    ⟨(some 4), .mov (.c (.v (.bool false))), none⟩] []) <|
  .keep [2, 3] [[2], [3]]) <|
  .seq (.seq (.reg [⟨(some 5), .load (some 12) (.t 2), none⟩,
    ⟨(some 6), .call n_gantryref17_Valid [(.t 5)] false, none⟩,
    ⟨(some 7), .mov (.t 6), none⟩,
    ⟨(some 8), .load (some 12) (.t 2), (some (7, true))⟩,
    ⟨(some 9), .call n_gantryref17_Limit [(.t 8)] false, (some (7, true))⟩,
    ⟨(some 10), .load (some 4) (.t 3), (some (7, true))⟩,
    ⟨(some 11), .call n_gantryref05_Compare [(.t 9), (.t 10)] false, (some (7, true))⟩,
    ⟨(some 12), .bin .leq (.t 11) (.c (.v (.int .i64 0))), (some (7, true))⟩,
    ⟨(some 13), .pick (.t 7) (.t 12) (.c (.v (.bool false))), none⟩,
    ⟨(some 4), .mov (.t 13), none⟩] []) <|
  .keep [4] []) <|
  .ret, [.t 4]⟩

/- 23: gantry/gantrylaw17.lives -/
def gantrylaw17_lives : CF := ⟨0, .seq (.seq (.reg [⟨(some 0), .mov (.c (.v (.bool false))), none⟩] []) <|
  .keep [] []) <|
  .seq (.seq (.reg [⟨(some 14), .call n_gantrylaw17_whole [(.c (.v (.int .i64 2)))] false, none⟩,
    ⟨(some 15), .call n_gantrylaw17_whole [(.c (.v (.int .i64 1)))] false, none⟩,
    ⟨(some 16), .call n_gantryref05_Of [(.c (.v (.int .i64 1))), (.c (.v (.int .i64 2)))] false, none⟩,
    ⟨(some 17), .build [.v (.bool false), .z true, .v (.bool false), .z true, .v (.bool false), .z true, .v (.bool false), .z true, .v (.bool false), .z true, .v (.bool false), .z true] [(0, 4, (.t 14)), (4, 4, (.t 15)), (8, 4, (.t 16))], none⟩,
    ⟨(some 1), .new [.v (.bool false), .z true, .v (.bool false), .z true, .v (.bool false), .z true, .v (.bool false), .z true, .v (.bool false), .z true, .v (.bool false), .z true], none⟩,
    ⟨none, .store 12 (.t 1) (.t 17), none⟩] []) <|
  .keep [1] [[1]]) <|
  .seq (.seq (.reg [⟨(some 19), .load (some 12) (.t 1), none⟩,
    ⟨(some 20), .call n_bounce_Flight [(.t 19), (.c (.v (.int .i64 1)))] false, none⟩,
    ⟨(some 18), .mov (.t 20), none⟩,
    ⟨(some 21), .ext (.t 18) 0, none⟩,
    ⟨(some 22), .ext (.t 18) 1, none⟩,
    ⟨(some 23), .ext (.t 18) 2, none⟩,
    ⟨(some 2), .new [.v (.bool false), .z true, .v (.bool false), .z true], none⟩,
    ⟨(some 3), .new [.v (.bool false), .z true, .v (.bool false), .z true], none⟩,
    ⟨(some 4), .new [.v (.bool false), .z true, .v (.bool false), .z true], none⟩,
    ⟨none, .store 4 (.t 2) (.t 21), none⟩,
    ⟨none, .store 4 (.t 3) (.t 22), none⟩,
    ⟨none, .store 4 (.t 4) (.t 23), none⟩] []) <|
  .keep [1, 2, 3, 4] [[1], [2], [3], [4]]) <|
  .seq (.seq (.reg [⟨(some 25), .load (some 12) (.t 1), none⟩,
    ⟨(some 26), .call n_gantrylaw17_whole [(.c (.v (.int .i64 5)))] false, none⟩,
    ⟨(some 27), .call n_bounce_Height [(.t 25), (.t 26), (.c (.v (.int .i64 10)))] false, none⟩,
    ⟨(some 24), .mov (.t 27), none⟩,
    ⟨(some 28), .ext (.t 24) 0, none⟩,
    ⟨(some 29), .ext (.t 24) 1, none⟩,
    ⟨(some 30), .ext (.t 24) 2, none⟩,
    ⟨(some 5), .new [.v (.bool false), .z true, .v (.bool false), .z true], none⟩,
    ⟨none, .store 4 (.t 5) (.t 28), none⟩,
    ⟨(some 6), .mov (.t 29), none⟩,
    ⟨(some 7), .mov (.t 30), none⟩] []) <|
  .keep [1, 2, 3, 4, 5, 6, 7] [[1], [2], [3], [4], [5]]) <|
  .seq (.seq (.reg [⟨(some 32), .load (some 12) (.t 1), none⟩,
    ⟨(some 33), .call n_gantrylaw17_whole [(.c (.v (.int .i64 8)))] false, none⟩,
    ⟨(some 34), .call n_bounce_Height [(.t 32), (.t 33), (.c (.v (.int .i64 10)))] false, none⟩,
    ⟨(some 31), .mov (.t 34), none⟩,
    ⟨(some 35), .ext (.t 31) 0, none⟩,
    ⟨(some 36), .ext (.t 31) 1, none⟩,
    ⟨(some 37), .ext (.t 31) 2, none⟩,
    ⟨(some 8), .new [.v (.bool false), .z true, .v (.bool false), .z true], none⟩,
    ⟨none, .store 4 (.t 8) (.t 35), none⟩,
    ⟨(some 9), .mov (.t 36), none⟩,
    ⟨(some 10), .mov (.t 37), none⟩] []) <|
  .keep [1, 2, 3, 4, 5, 6, 7, 10] [[1], [2], [3], [4], [5]]) <|
  .seq (.seq (.reg [⟨(some 39), .load (some 12) (.t 1), none⟩,
    ⟨(some 40), .call n_gantrylaw17_whole [(.c (.v (.int .i64 5)))] false, none⟩,
    ⟨(some 41), .call n_bounce_Height [(.t 39), (.t 40), (.c (.v (.int .i64 0)))] false, none⟩,
    ⟨(some 38), .mov (.t 41), none⟩,
    ⟨(some 42), .ext (.t 38) 0, none⟩,
    ⟨(some 43), .ext (.t 38) 1, none⟩,
    ⟨(some 44), .ext (.t 38) 2, none⟩,
    ⟨(some 11), .new [.v (.bool false), .z true, .v (.bool false), .z true], none⟩,
    ⟨none, .store 4 (.t 11) (.t 42), none⟩,
    ⟨(some 12), .mov (.t 43), none⟩,
    ⟨(some 13), .mov (.t 44), none⟩] []) <|
  .keep [1, 2, 3, 4, 5, 6, 7, 10, 13] [[1], [2], [3], [4], [5]]) <|
  .seq (.seq (.reg [⟨(some 45), .load (some 12) (.t 1), none⟩,
    ⟨(some 46), .call n_bounce_Limit [(.t 45)] false, none⟩,
    ⟨(some 47), .call n_gantrylaw17_whole [(.c (.v (.int .i64 8)))] false, none⟩,
    ⟨(some 48), .call n_gantrylaw17_same [(.t 46), (.t 47)] false, none⟩,
    ⟨(some 49), .mov (.t 48), none⟩,
    ⟨(some 50), .load (some 4) (.t 2), (some (49, true))⟩,
    ⟨(some 51), .call n_gantrylaw17_whole [(.c (.v (.int .i64 4)))] false, (some (49, true))⟩,
    ⟨(some 52), .call n_gantrylaw17_same [(.t 50), (.t 51)] false, (some (49, true))⟩,
    ⟨(some 53), .pick (.t 49) (.t 52) (.c (.v (.bool false))), none⟩,
    ⟨(some 54), .mov (.t 53), none⟩,
    ⟨(some 55), .load (some 4) (.t 3), (some (54, true))⟩,
    ⟨(some 56), .call n_gantrylaw17_whole [(.c (.v (.int .i64 2)))] false, (some (54, true))⟩,
    ⟨(some 57), .call n_gantrylaw17_same [(.t 55), (.t 56)] false, (some (54, true))⟩,
    ⟨(some 58), .pick (.t 54) (.t 57) (.c (.v (.bool false))), none⟩,
    ⟨(some 59), .mov (.t 58), none⟩,
    ⟨(some 60), .load (some 4) (.t 4), (some (59, true))⟩,
    ⟨(some 61), .call n_gantrylaw17_whole [(.c (.v (.int .i64 1)))] false, (some (59, true))⟩,
    ⟨(some 62), .call n_gantrylaw17_same [(.t 60), (.t 61)] false, (some (59, true))⟩,
    ⟨(some 63), .pick (.t 59) (.t 62) (.c (.v (.bool false))), none⟩,
    ⟨(some 64), .mov (.t 63), none⟩,
    ⟨(some 65), .load (some 4) (.t 5), (some (64, true))⟩,
    ⟨(some 66), .call n_gantryref05_Of [(.c (.v (.int .i64 1))), (.c (.v (.int .i64 2)))] false, (some (64, true))⟩,
    ⟨(some 67), .call n_gantrylaw17_same [(.t 65), (.t 66)] false, (some (64, true))⟩,
    ⟨(some 68), .pick (.t 64) (.t 67) (.c (.v (.bool false))), none⟩,
    ⟨(some 69), .mov (.t 68), none⟩,
    ⟨(some 70), .mov (.t 6), (some (69, true))⟩,
    ⟨(some 71), .bin .eql (.t 70) (.c (.v (.int .i64 1))), (some (69, true))⟩,
    ⟨(some 72), .pick (.t 69) (.t 71) (.c (.v (.bool false))), none⟩,
    ⟨(some 73), .mov (.t 72), none⟩,
    ⟨(some 74), .mov (.t 7), (some (73, true))⟩,
    ⟨(some 75), .bin .eql (.t 74) (.c (.v (.int .i64 0))), (some (73, true))⟩,
    ⟨(some 76), .pick (.t 73) (.t 75) (.c (.v (.bool false))), none⟩,
    ⟨(some 77), .mov (.t 76), none⟩,
    ⟨(some 78), .mov (.t 10), (some (77, true))⟩,
    ⟨(some 79), .bin .eql (.t 78) (.c (.v (.int .i64 5))), (some (77, true))⟩,
    ⟨(some 80), .pick (.t 77) (.t 79) (.c (.v (.bool false))), none⟩,
    ⟨(some 81), .mov (.t 80), none⟩,
    ⟨(some 82), .mov (.t 13), (some (81, true))⟩,
    ⟨(some 83), .bin .eql (.t 82) (.c (.v (.int .i64 4))), (some (81, true))⟩,
    ⟨(some 84), .pick (.t 81) (.t 83) (.c (.v (.bool false))), none⟩,
    ⟨(some 85), .mov (.t 84), none⟩,
    ⟨(some 86), .load (some 12) (.t 1), (some (85, true))⟩,
    ⟨(some 87), .call n_bounce_Loss [(.t 86), (.c (.v (.int .i64 1)))] false, (some (85, true))⟩,
    ⟨(some 88), .call n_gantrylaw17_whole [(.c (.v (.int .i64 3)))] false, (some (85, true))⟩,
    ⟨(some 89), .call n_gantrylaw17_same [(.t 87), (.t 88)] false, (some (85, true))⟩,
    ⟨(some 90), .pick (.t 85) (.t 89) (.c (.v (.bool false))), none⟩,
    ⟨(some 91), .mov (.t 90), none⟩,
    ⟨(some 92), .load (some 12) (.t 1), (some (91, true))⟩,
    ⟨(some 93), .call n_gantrylaw17_whole [(.c (.v (.int .i64 8)))] false, (some (91, true))⟩,
    ⟨(some 94), .call n_bounce_Ends [(.t 92), (.t 93)] false, (some (91, true))⟩,
    ⟨(some 95), .pick (.t 91) (.t 94) (.c (.v (.bool false))), none⟩,
    ⟨(some 96), .mov (.t 95), none⟩,
    ⟨(some 97), .load (some 12) (.t 1), (some (96, true))⟩,
    ⟨(some 98), .call n_gantrylaw17_whole [(.c (.v (.int .i64 7)))] false, (some (96, true))⟩,
    ⟨(some 99), .call n_bounce_Ends [(.t 97), (.t 98)] false, (some (96, true))⟩,
    ⟨(some 100), .un .not (.t 99), (some (96, true))⟩,
    ⟨(some 101), .pick (.t 96) (.t 100) (.c (.v (.bool false))), none⟩,
    ⟨(some 0), .mov (.t 101), none⟩] []) <|
  .keep [0] []) <|
  .ret, [.t 0]⟩

/- 24: gantry/bounce.Flight -/
def bounce_Flight_a0 : C :=
  .seq (.reg [⟨(some 8), .new [.v (.int .i64 0), .v (.bool false), .z true, .v (.bool false), .z true, .v (.bool false), .z true, .v (.bool false), .z true, .v (.bool false), .z true, .v (.bool false), .z true], none⟩,
    ⟨none, .store 13 (.t 8) (.t 23), none⟩] []) <|
  .keep [7, 8] [[7], [8], [4], [5], [6]]
def bounce_Flight_b0 : C :=
  .seq (.blk 1 <|
  .seq (.reg [⟨(some 24), .load (some 13) (.t 8), none⟩,
    ⟨none, .store 13 (.t 7) (.t 24), none⟩] []) <|
  .keep [] [[4], [5], [6], [7]]) <|
  .keep [] [[4], [5], [6], [7]]
def bounce_Flight : CF := ⟨2, .seq (.seq (.reg [⟨(some 2), .box (.t 0), none⟩,
    ⟨(some 4), .new [.v (.bool false), .z true, .v (.bool false), .z true], none⟩,
    ⟨(some 5), .new [.v (.bool false), .z true, .v (.bool false), .z true], none⟩,
    ⟨(some 6), .new [.v (.bool false), .z true, .v (.bool false), .z true], none⟩] []) <|
  .keep [1, 2, 4, 5, 6] [[2], [4], [5], [6]]) <|
  .seq (.seq (.seq (.reg [⟨(some 9), .load (some 12) (.t 2), none⟩,
    ⟨(some 10), .call n_bounce_Valid [(.t 9)] false, none⟩,
    ⟨(some 11), .un .not (.t 10), none⟩,
    ⟨(some 12), .mov (.t 11), none⟩,
    ⟨(some 13), .mov (.t 1), (some (12, false))⟩,
    ⟨(some 14), .call n_bounce_within [(.t 13)] false, (some (12, false))⟩,
    ⟨(some 15), .un .not (.t 14), (some (12, false))⟩,
    ⟨(some 16), .pick (.t 12) (.c (.v (.bool true))) (.t 15), none⟩] []) <|
  .keep [1, 2, 4, 5, 6, 16] [[2], [4], [5], [6]]) <|
  .cond (.t 16) (.seq (.seq (.reg [⟨(some 17), .build [.v (.bool false), .z true, .v (.bool false), .z true] [], none⟩,
    ⟨(some 18), .build [.v (.bool false), .z true, .v (.bool false), .z true] [], none⟩,
    ⟨(some 19), .build [.v (.bool false), .z true, .v (.bool false), .z true] [], none⟩,
    ⟨none, .store 4 (.t 4) (.t 17), none⟩,
    ⟨none, .store 4 (.t 5) (.t 18), none⟩,
    ⟨none, .store 4 (.t 6) (.t 19), none⟩] []) <|
  .keep [4, 5, 6] [[4], [5], [6]]) <|
  .ret) <|
  .skip) <|
  .seq (.seq (.reg [⟨(some 7), .new [.v (.int .i64 0), .v (.bool false), .z true, .v (.bool false), .z true, .v (.bool false), .z true, .v (.bool false), .z true, .v (.bool false), .z true, .v (.bool false), .z true], none⟩] []) <|
  .keep [1, 2, 4, 5, 6, 7] [[2], [4], [5], [6], [7]]) <|
  .seq (.seq (.seq (.reg [⟨(some 20), .load (some 12) (.t 2), none⟩,
    ⟨(some 21), .mov (.t 1), none⟩,
    ⟨(some 22), .call n_bounce_Series_flights [(.t 20), (.t 21)] false, none⟩] []) <|
  .keep [4, 5, 6, 7, 22] [[4], [5], [6], [7]]) <|
  .seq (.blk 0 <|
  .seq (.rfn (.t 22) [23] bounce_Flight_a0 bounce_Flight_b0 [4, 5, 6, 7] [[4], [5], [6], [7]]) <|
  .keep [4, 5, 6, 7] [[4], [5], [6], [7]]) <|
  .keep [4, 5, 6, 7] [[4], [5], [6], [7]]) <|
  .seq (.seq (.reg [⟨(some 25), .fad 1 (.t 7), none⟩,
    ⟨(some 26), .load (some 4) (.t 25), none⟩,
    ⟨(some 27), .fad 5 (.t 7), none⟩,
    ⟨(some 28), .load (some 4) (.t 27), none⟩,
    ⟨(some 29), .fad 9 (.t 7), none⟩,
    ⟨(some 30), .load (some 4) (.t 29), none⟩,
    ⟨none, .store 4 (.t 4) (.t 26), none⟩,
    ⟨none, .store 4 (.t 5) (.t 28), none⟩,
    ⟨none, .store 4 (.t 6) (.t 30), none⟩] [((.t 27), 4, (.t 4), 4), ((.t 29), 4, (.t 4), 4), ((.t 29), 4, (.t 5), 4)]) <|
  .keep [4, 5, 6] [[4], [5], [6]]) <|
  .ret, [.cell 4 (some 4), .cell 5 (some 4), .cell 6 (some 4)]⟩

/- 25: gantry/gantryref17.Flight -/
def gantryref17_Flight : CF := ⟨2, .seq (.seq (.reg [⟨(some 2), .box (.t 0), none⟩,
    ⟨(some 4), .new [.v (.bool false), .z true, .v (.bool false), .z true], none⟩,
    ⟨(some 5), .new [.v (.bool false), .z true, .v (.bool false), .z true], none⟩,
    ⟨(some 6), .new [.v (.bool false), .z true, .v (.bool false), .z true], none⟩] []) <|
  .keep [1, 2, 4, 5, 6] [[2], [4], [5], [6]]) <|
  .seq (.seq (.seq (.reg [⟨(some 8), .load (some 12) (.t 2), none⟩,
    ⟨(some 9), .call n_gantryref17_Valid [(.t 8)] false, none⟩,
    ⟨(some 10), .un .not (.t 9), none⟩,
    ⟨(some 11), .mov (.t 10), none⟩,
    ⟨(some 12), .mov (.t 1), (some (11, false))⟩,
    ⟨(some 13), .bin .lss (.t 12) (.c (.v (.int .i64 0))), (some (11, false))⟩,
    ⟨(some 14), .pick (.t 11) (.c (.v (.bool true))) (.t 13), none⟩,
    ⟨(some 15), .mov (.t 14), none⟩,
    ⟨(some 16), .mov (.t 1), (some (15, false))⟩,
    ⟨(some 17), .bin .gtr (.t 16) (.c (.v (.int .i64 64))), (some (15, false))⟩,
    ⟨(some 18), .pick (.t 15) (.c (.v (.bool true))) (.t 17), none⟩] []) <|
  .keep [1, 2, 4, 5, 6, 18] [[2], [4], [5], [6]]) <|
  .cond (.t 18) (.seq (.seq (.reg [⟨(some 19), .build [.v (.bool false), .z true, .v (.bool false), .z true] [], none⟩,
    ⟨(some 20), .build [.v (.bool false), .z true, .v (.bool false), .z true] [], none⟩,
    ⟨(some 21), .build [.v (.bool false), .z true, .v (.bool false), .z true] [], none⟩,
    ⟨none, .store 4 (.t 4) (.t 19), none⟩,
    ⟨none, .store 4 (.t 5) (.t 20), none⟩,
    ⟨none, .store 4 (.t 6) (.t 21), none⟩] []) <|
  .keep [4, 5, 6] [[4], [5], [6]]) <|
  .ret) <|
  .skip) <|
  .seq (.seq (.reg [⟨(some 22), .load (some 12) (.t 2), none⟩,
    ⟨(some 23), .call n_gantryref17_Limit [(.t 22)] false, none⟩,
    ⟨(some 24), .fad 8 (.t 2), none⟩,
    ⟨(some 25), .load (some 4) (.t 24), none⟩,
    ⟨(some 26), .mov (.t 1), none⟩,
    ⟨(some 27), .call n_gantryref17_Power [(.t 25), (.t 26)] false, none⟩,
    ⟨(some 28), .call n_gantryref05_Mul [(.t 23), (.t 27)] false, none⟩,
    ⟨(some 7), .new [.v (.bool false), .z true, .v (.bool false), .z true], none⟩,
    ⟨none, .store 4 (.t 7) (.t 28), none⟩] []) <|
  .keep [1, 2, 4, 5, 6, 7] [[2], [4], [5], [6], [7]]) <|
  .seq (.seq (.reg [⟨(some 29), .load (some 12) (.t 2), none⟩,
    ⟨(some 30), .call n_gantryref17_Limit [(.t 29)] false, none⟩,
    ⟨(some 31), .load (some 4) (.t 7), none⟩,
    ⟨(some 32), .call n_gantryref05_Sub [(.t 30), (.t 31)] false, none⟩,
    ⟨(some 33), .load (some 12) (.t 2), none⟩,
    ⟨(some 34), .mov (.t 1), none⟩,
    ⟨(some 35), .call n_gantryref17_duration [(.t 33), (.t 34)] false, none⟩,
    ⟨(some 36), .fad 0 (.t 2), none⟩,
    ⟨(some 37), .load (some 4) (.t 36), none⟩,
    ⟨(some 38), .fad 8 (.t 2), none⟩,
    ⟨(some 39), .load (some 4) (.t 38), none⟩,
    ⟨(some 40), .mov (.t 1), none⟩,
    ⟨(some 41), .call n_gantryref17_Power [(.t 39), (.t 40)] false, none⟩,
    ⟨(some 42), .call n_gantryref05_Mul [(.t 37), (.t 41)] false, none⟩,
    ⟨none, .store 4 (.t 4) (.t 32), none⟩,
    ⟨none, .store 4 (.t 5) (.t 35), none⟩,
    ⟨none, .store 4 (.t 6) (.t 42), none⟩] []) <|
  .keep [4, 5, 6] [[4], [5], [6]]) <|
  .ret, [.cell 4 (some 4), .cell 5 (some 4), .cell 6 (some 4)]⟩

/- 26: gantry/bounce.Height -/
def bounce_Height_a0 : C :=
  .seq (.reg [⟨(some 9), .new [.v (.int .i64 0), .v (.bool false), .z true, .v (.bool false), .z true, .v (.bool false), .z true, .v (.bool false), .z true, .v (.bool false), .z true, .v (.bool false), .z true], none⟩,
    ⟨none, .store 13 (.t 9) (.t 38), none⟩] []) <|
  .keep [3, 4, 6, 7, 8, 9] [[3], [4], [6], [7], [8], [9]]
def bounce_Height_b0 : C :=
  .seq (.blk 2 <|
  .seq (.seq (.reg [⟨(some 39), .load (some 4) (.t 4), none⟩,
    ⟨(some 40), .fad 1 (.t 9), none⟩,
    ⟨(some 41), .load (some 4) (.t 40), none⟩,
    ⟨(some 42), .call n_rat_Sub [(.t 39), (.t 41)] false, none⟩,
    ⟨(some 10), .new [.v (.bool false), .z true, .v (.bool false), .z true], none⟩,
    ⟨none, .store 4 (.t 10) (.t 42), none⟩] []) <|
  .keep [3, 6, 7, 8, 9, 10] [[3], [6], [7], [8], [9], [10], [4]]) <|
  .seq (.seq (.reg [⟨(some 43), .load (some 4) (.t 10), none⟩,
    ⟨(some 44), .fad 5 (.t 9), none⟩,
    ⟨(some 45), .load (some 4) (.t 44), none⟩,
    ⟨(some 46), .call n_rat_Compare [(.t 43), (.t 45)] false, none⟩,
    ⟨(some 47), .build [.v (.int .i64 0)] [(0, 1, (.t 46))], none⟩,
    ⟨(some 11), .new [.v (.int .i64 0)], none⟩,
    ⟨none, .store 1 (.t 11) (.t 47), none⟩] []) <|
  .keep [3, 6, 7, 8, 9, 10, 11] [[3], [6], [7], [8], [9], [10], [11], [4]]) <|
  .seq (.seq (.reg [⟨(some 48), .load (some 1) (.t 11), none⟩,
    ⟨(some 49), .build [.v (.int .i64 0)] [(0, 1, (.c (.v (.int .i64 (-1)))))], none⟩,
    ⟨(some 50), .eqs false (.t 48) (.t 49), none⟩] []) <|
  .keep [3, 6, 7, 8, 9, 10, 50] [[3], [6], [7], [8], [9], [10], [4]]) <|
  .cond (.t 50) (.seq (.seq (.reg [⟨(some 51), .call n_rat_Of [(.c (.v (.int .i64 1))), (.c (.v (.int .i64 2)))] false, none⟩,
    ⟨(some 52), .fad 4 (.t 3), none⟩,
    ⟨(some 53), .load (some 4) (.t 52), none⟩,
    ⟨(some 54), .load (some 4) (.t 10), none⟩,
    ⟨(some 55), .load (some 4) (.t 10), none⟩,
    ⟨(some 56), .call n_rat_Mul [(.t 54), (.t 55)] false, none⟩,
    ⟨(some 57), .call n_rat_Mul [(.t 53), (.t 56)] false, none⟩,
    ⟨(some 58), .call n_rat_Mul [(.t 51), (.t 57)] false, none⟩,
    ⟨(some 12), .new [.v (.bool false), .z true, .v (.bool false), .z true], none⟩,
    ⟨none, .store 4 (.t 12) (.t 58), none⟩] []) <|
  .keep [6, 7, 8, 9, 10, 12] [[6], [7], [8], [9], [10], [12], [3], [4]]) <|
  .seq (.seq (.reg [⟨(some 59), .fad 9 (.t 9), none⟩,
    ⟨(some 60), .load (some 4) (.t 59), none⟩,
    ⟨(some 61), .load (some 4) (.t 10), none⟩,
    ⟨(some 62), .call n_rat_Mul [(.t 60), (.t 61)] false, none⟩,
    ⟨(some 63), .load (some 4) (.t 12), none⟩,
    ⟨(some 64), .call n_rat_Sub [(.t 62), (.t 63)] false, none⟩,
    ⟨(some 65), .fad 0 (.t 9), none⟩,
    ⟨(some 66), .load none (.t 65), none⟩,
    ⟨none, .store 4 (.t 6) (.t 64), none⟩,
    ⟨none, .store 1 (.t 7) (.t 66), none⟩,
    ⟨none, .store 1 (.t 8) (.c (.v (.int .i64 0))), none⟩] [((.t 65), 1, (.t 6), 4)]) <|
  .keep [6, 7, 8] [[6], [7], [8], [3], [4]]) <|
  .ret) <|
  .skip) <|
  .keep [] [[3], [4], [6], [7], [8]]
def bounce_Height : CF := ⟨3, .seq (.seq (.reg [⟨(some 3), .box (.t 0), none⟩,
    ⟨(some 4), .box (.t 1), none⟩,
    ⟨(some 6), .new [.v (.bool false), .z true, .v (.bool false), .z true], none⟩,
    ⟨(some 7), .new [.v (.int .i64 0)], none⟩,
    ⟨(some 8), .new [.v (.int .i64 0)], none⟩] []) <|
  .keep [2, 3, 4, 6, 7, 8] [[3], [4], [6], [7], [8]]) <|
  .seq (.seq (.blk 0 <|
  .seq (.seq (.reg [⟨(some 14), .load (some 12) (.t 3), none⟩,
    ⟨(some 15), .call n_bounce_Valid [(.t 14)] false, none⟩,
    ⟨(some 16), .un .not (.t 15), none⟩,
    ⟨(some 17), .mov (.t 16), none⟩,
    ⟨(some 18), .load (some 4) (.t 4), (some (17, false))⟩,
    ⟨(some 19), .call n_rat_Sign [(.t 18)] false, (some (17, false))⟩,
    ⟨(some 20), .bin .lss (.t 19) (.c (.v (.int .i64 0))), (some (17, false))⟩,
    ⟨(some 21), .pick (.t 17) (.c (.v (.bool true))) (.t 20), none⟩,
    ⟨(some 22), .mov (.t 21), none⟩,
    ⟨(some 23), .mov (.t 2), (some (22, false))⟩,
    ⟨(some 24), .call n_bounce_within [(.t 23)] false, (some (22, false))⟩,
    ⟨(some 25), .un .not (.t 24), (some (22, false))⟩,
    ⟨(some 26), .pick (.t 22) (.c (.v (.bool true))) (.t 25), none⟩,
    ⟨(some 13), .mov (.t 26), none⟩] []) <|
  .keep [2, 3, 4, 6, 7, 8, 13] [[3], [4], [6], [7], [8]]) <|
  .cond (.t 13) (.seq (.seq (.reg [⟨(some 27), .build [.v (.bool false), .z true, .v (.bool false), .z true] [], none⟩,
    ⟨none, .store 4 (.t 6) (.t 27), none⟩,
    ⟨none, .store 1 (.t 7) (.c (.v (.int .i64 0))), none⟩,
    ⟨none, .store 1 (.t 8) (.c (.v (.int .i64 1))), none⟩] []) <|
  .keep [6, 7, 8] [[6], [7], [8]]) <|
  .ret) <|
  .seq (.seq (.reg [⟨(some 29), .load (some 4) (.t 4), none⟩,
    ⟨(some 30), .load (some 12) (.t 3), none⟩,
    ⟨(some 31), .call n_bounce_Limit [(.t 30)] false, none⟩,
    ⟨(some 32), .call n_rat_Compare [(.t 29), (.t 31)] false, none⟩,
    ⟨(some 33), .bin .geq (.t 32) (.c (.v (.int .i64 0))), none⟩,
    ⟨(some 28), .mov (.t 33), none⟩] []) <|
  .keep [2, 3, 4, 6, 7, 8, 28] [[3], [4], [6], [7], [8]]) <|
  .cond (.t 28) (.seq (.seq (.reg [⟨(some 34), .build [.v (.bool false), .z true, .v (.bool false), .z true] [], none⟩,
    ⟨none, .store 4 (.t 6) (.t 34), none⟩,
    ⟨none, .store 1 (.t 7) (.c (.v (.int .i64 0))), none⟩,
    ⟨none, .store 1 (.t 8) (.c (.v (.int .i64 5))), none⟩] []) <|
  .keep [6, 7, 8] [[6], [7], [8]]) <|
  .ret) <|
  .skip) <|
  .keep [2, 3, 4, 6, 7, 8] [[3], [4], [6], [7], [8]]) <|
  .seq (.seq (.seq (.reg [⟨(some 35), .load (some 12) (.t 3), none⟩,
    ⟨(some 36), .mov (.t 2), none⟩,
    ⟨(some 37), .call n_bounce_Series_flights [(.t 35), (.t 36)] false, none⟩] []) <|
  .keep [3, 4, 6, 7, 8, 37] [[3], [4], [6], [7], [8]]) <|
  .seq (.blk 1 <|
  .seq (.rfn (.t 37) [38] bounce_Height_a0 bounce_Height_b0 [3, 4, 6, 7, 8] [[3], [4], [6], [7], [8]]) <|
  .keep [6, 7, 8] [[6], [7], [8]]) <|
  .keep [6, 7, 8] [[6], [7], [8]]) <|
  .seq (.seq (.reg [⟨(some 67), .build [.v (.bool false), .z true, .v (.bool false), .z true] [], none⟩,
    ⟨none, .store 4 (.t 6) (.t 67), none⟩,
    ⟨none, .store 1 (.t 7) (.c (.v (.int .i64 0))), none⟩,
    ⟨none, .store 1 (.t 8) (.c (.v (.int .i64 4))), none⟩] []) <|
  .keep [6, 7, 8] [[6], [7], [8]]) <|
  .ret, [.cell 6 (some 4), .cell 7 none, .cell 8 none]⟩

/- 27: gantry/gantryref17.Height -/
def gantryref17_Height_l0 : C :=
  .seq (.seq (.seq (.seq (.reg [⟨(some 38), .mov (.t 9), none⟩,
    ⟨(some 39), .mov (.t 2), none⟩,
    ⟨(some 40), .bin .leq (.t 38) (.t 39), none⟩] []) <|
  .keep [2, 3, 4, 6, 9, 40] [[3], [4], [6]]) <|
  .cond (.t 40) (.skip) <|
  .seq (.keep [6] [[6]]) <|
  .exit 0) <|
  .seq (.seq (.blk 1 <|
  .seq (.seq (.reg [⟨(some 44), .load (some 12) (.t 3), none⟩,
    ⟨(some 45), .mov (.t 9), none⟩,
    ⟨(some 46), .call n_gantryref17_Flight [(.t 44), (.t 45)] false, none⟩,
    ⟨(some 43), .mov (.t 46), none⟩,
    ⟨(some 47), .ext (.t 43) 0, none⟩,
    ⟨(some 48), .ext (.t 43) 1, none⟩,
    ⟨(some 49), .ext (.t 43) 2, none⟩,
    ⟨(some 10), .new [.v (.bool false), .z true, .v (.bool false), .z true], none⟩,
    ⟨(some 11), .new [.v (.bool false), .z true, .v (.bool false), .z true], none⟩,
    ⟨(some 12), .new [.v (.bool false), .z true, .v (.bool false), .z true], none⟩,
    ⟨none, .store 4 (.t 10) (.t 47), none⟩,
    ⟨none, .store 4 (.t 11) (.t 48), none⟩,
    ⟨none, .store 4 (.t 12) (.t 49), none⟩] []) <|
  .keep [2, 3, 4, 6, 9, 10, 11, 12] [[3], [4], [6], [10], [11], [12]]) <|
  .seq (.seq (.reg [⟨(some 50), .load (some 4) (.t 4), none⟩,
    ⟨(some 51), .load (some 4) (.t 10), none⟩,
    ⟨(some 52), .call n_gantryref05_Sub [(.t 50), (.t 51)] false, none⟩,
    ⟨(some 13), .new [.v (.bool false), .z true, .v (.bool false), .z true], none⟩,
    ⟨none, .store 4 (.t 13) (.t 52), none⟩] []) <|
  .keep [2, 3, 4, 6, 9, 11, 12, 13] [[3], [4], [6], [11], [12], [13]]) <|
  .seq (.seq (.reg [⟨(some 53), .load (some 4) (.t 13), none⟩,
    ⟨(some 54), .load (some 4) (.t 11), none⟩,
    ⟨(some 55), .call n_gantryref05_Compare [(.t 53), (.t 54)] false, none⟩,
    ⟨(some 56), .bin .lss (.t 55) (.c (.v (.int .i64 0))), none⟩] []) <|
  .keep [2, 3, 4, 6, 9, 12, 13, 56] [[3], [4], [6], [12], [13]]) <|
  .cond (.t 56) (.seq (.seq (.reg [⟨(some 57), .fad 4 (.t 3), none⟩,
    ⟨(some 58), .load (some 4) (.t 57), none⟩,
    ⟨(some 59), .load (some 4) (.t 13), none⟩,
    ⟨(some 60), .load (some 4) (.t 13), none⟩,
    ⟨(some 61), .call n_gantryref05_Mul [(.t 59), (.t 60)] false, none⟩,
    ⟨(some 62), .call n_gantryref05_Mul [(.t 58), (.t 61)] false, none⟩,
    ⟨(some 63), .call n_gantryref17_whole [(.c (.v (.int .i64 2)))] false, none⟩,
    ⟨(some 64), .call n_gantryref05_Div [(.t 62), (.t 63)] false, none⟩,
    ⟨(some 14), .new [.v (.bool false), .z true, .v (.bool false), .z true], none⟩,
    ⟨none, .store 4 (.t 14) (.t 64), none⟩] []) <|
  .keep [6, 9, 12, 13, 14] [[6], [12], [13], [14]]) <|
  .seq (.seq (.reg [⟨(some 65), .load (some 4) (.t 12), none⟩,
    ⟨(some 66), .load (some 4) (.t 13), none⟩,
    ⟨(some 67), .call n_gantryref05_Mul [(.t 65), (.t 66)] false, none⟩,
    ⟨(some 68), .load (some 4) (.t 14), none⟩,
    ⟨(some 69), .call n_gantryref05_Sub [(.t 67), (.t 68)] false, none⟩,
    ⟨(some 70), .mov (.t 9), none⟩,
    ⟨none, .store 4 (.t 6) (.t 69), none⟩,
    ⟨(some 7), .mov (.t 70), none⟩,
    ⟨(some 8), .mov (.c (.v (.int .i64 0))), none⟩] []) <|
  .keep [6, 7, 8] [[6]]) <|
  .ret) <|
  .skip) <|
  .keep [2, 3, 4, 6, 9] [[3], [4], [6]]) <|
  .seq (.reg [⟨(some 41), .mov (.t 9), none⟩,
    ⟨(some 42), .bin .add (.t 41) (.c (.v (.int .i64 1))), none⟩,
    ⟨(some 9), .mov (.t 42), none⟩] []) <|
  .keep [2, 3, 4, 6, 9] [[3], [4], [6]]) <|
  .keep [2, 3, 4, 6, 9] [[3], [4], [6]]
def gantryref17_Height : CF := ⟨3, .seq (.seq (.reg [⟨(some 3), .box (.t 0), none⟩,
    ⟨(some 4), .box (.t 1), none⟩,
    ⟨(some 6), .new [.v (.bool false), .z true, .v (.bool false), .z true], none⟩,
    ⟨(some 7), .mov (.c (.v (.int .i64 0))), none⟩,
    ⟨(some 8), .mov (.c (.v (.int .i64 0))), none⟩] []) <|
  .keep [2, 3, 4, 6] [[3], [4], [6]]) <|
  .seq (.seq (.seq (.reg [⟨(some 15), .load (some 12) (.t 3), none⟩,
    ⟨(some 16), .call n_gantryref17_Valid [(.t 15)] false, none⟩,
    ⟨(some 17), .un .not (.t 16), none⟩,
    ⟨(some 18), .mov (.t 17), none⟩,
    ⟨(some 19), .load (some 4) (.t 4), (some (18, false))⟩,
    ⟨(some 20), .call n_gantryref05_Sign [(.t 19)] false, (some (18, false))⟩,
    ⟨(some 21), .bin .lss (.t 20) (.c (.v (.int .i64 0))), (some (18, false))⟩,
    ⟨(some 22), .pick (.t 18) (.c (.v (.bool true))) (.t 21), none⟩,
    ⟨(some 23), .mov (.t 22), none⟩,
    ⟨(some 24), .mov (.t 2), (some (23, false))⟩,
    ⟨(some 25), .bin .lss (.t 24) (.c (.v (.int .i64 0))), (some (23, false))⟩,
    ⟨(some 26), .pick (.t 23) (.c (.v (.bool true))) (.t 25), none⟩,
    ⟨(some 27), .mov (.t 26), none⟩,
    ⟨(some 28), .mov (.t 2), (some (27, false))⟩,
    ⟨(some 29), .bin .gtr (.t 28) (.c (.v (.int .i64 64))), (some (27, false))⟩,
    ⟨(some 30), .pick (.t 27) (.c (.v (.bool true))) (.t 29), none⟩] []) <|
  .keep [2, 3, 4, 6, 30] [[3], [4], [6]]) <|
  .cond (.t 30) (.seq (.seq (.reg [⟨(some 31), .build [.v (.bool false), .z true, .v (.bool false), .z true] [], none⟩,
    ⟨none, .store 4 (.t 6) (.t 31), none⟩,
    ⟨(some 7), .mov (.c (.v (.int .i64 0))), none⟩,
    ⟨(some 8), .mov (.c (.v (.int .i64 1))), none⟩] []) <|
  .keep [6, 7, 8] [[6]]) <|
  .ret) <|
  .skip) <|
  .seq (.seq (.seq (.reg [⟨(some 32), .load (some 4) (.t 4), none⟩,
    ⟨(some 33), .load (some 12) (.t 3), none⟩,
    ⟨(some 34), .call n_gantryref17_Limit [(.t 33)] false, none⟩,
    ⟨(some 35), .call n_gantryref05_Compare [(.t 32), (.t 34)] false, none⟩,
    ⟨(some 36), .bin .geq (.t 35) (.c (.v (.int .i64 0))), none⟩] []) <|
  .keep [2, 3, 4, 6, 36] [[3], [4], [6]]) <|
  .cond (.t 36) (.seq (.seq (.reg [⟨(some 37), .build [.v (.bool false), .z true, .v (.bool false), .z true] [], none⟩,
    ⟨none, .store 4 (.t 6) (.t 37), none⟩,
    ⟨(some 7), .mov (.c (.v (.int .i64 0))), none⟩,
    ⟨(some 8), .mov (.c (.v (.int .i64 5))), none⟩] []) <|
  .keep [6, 7, 8] [[6]]) <|
  .ret) <|
  .skip) <|
  .seq (.seq (.seq (.reg [⟨(some 9), .mov (.c (.v (.int .i64 0))), none⟩] []) <|
  .keep [2, 3, 4, 6, 9] [[3], [4], [6]]) <|
  .seq (.blk 0 <|
  .seq (.keep [2, 3, 4, 6, 9] [[3], [4], [6]]) <|
  .loop gantryref17_Height_l0) <|
  .keep [6] [[6]]) <|
  .seq (.seq (.reg [⟨(some 71), .build [.v (.bool false), .z true, .v (.bool false), .z true] [], none⟩,
    ⟨none, .store 4 (.t 6) (.t 71), none⟩,
    ⟨(some 7), .mov (.c (.v (.int .i64 0))), none⟩,
    ⟨(some 8), .mov (.c (.v (.int .i64 4))), none⟩] []) <|
  .keep [6, 7, 8] [[6]]) <|
  .ret, [.cell 6 (some 4), .t 7, .t 8]⟩

/- 28: gantry/rat.Sub -/
def rat_Sub : CF := ⟨2, .seq (.seq (.reg [⟨(some 2), .box (.t 0), none⟩,
    ⟨(some 3), .box (.t 1), none⟩,
    ⟨(some 4), .new [.v (.bool false), .z true, .v (.bool false), .z true], none⟩] []) <|
  .keep [2, 3, 4] [[2], [3], [4]]) <|
  .seq (.seq (.reg [⟨(some 5), .load (some 4) (.t 2), none⟩,
    ⟨(some 6), .load (some 4) (.t 3), none⟩,
    ⟨(some 7), .call n_rat_Neg [(.t 6)] false, none⟩,
    ⟨(some 8), .call n_rat_Add [(.t 5), (.t 7)] false, none⟩,
    ⟨none, .store 4 (.t 4) (.t 8), none⟩] []) <|
  .keep [4] [[4]]) <|
  .ret, [.cell 4 (some 4)]⟩

/- 29: gantry/rat.Mul -/
def rat_Mul : CF := ⟨2, .seq (.seq (.reg [⟨(some 2), .box (.t 0), none⟩,
    ⟨(some 3), .box (.t 1), none⟩,
    ⟨(some 4), .new [.v (.bool false), .z true, .v (.bool false), .z true], none⟩] []) <|
  .keep [2, 3, 4] [[2], [3], [4]]) <|
  .seq (.seq (.seq (.reg [⟨(some 7), .fad 0 (.t 2), none⟩,
    ⟨(some 8), .fad 1 (.t 7), none⟩,
    ⟨(some 9), .load none (.t 8), none⟩,
    ⟨(some 10), .len (.t 9), none⟩,
    ⟨(some 11), .bin .eql (.t 10) (.c (.v (.int .i64 0))), none⟩,
    ⟨(some 12), .mov (.t 11), none⟩,
    ⟨(some 13), .fad 0 (.t 3), (some (12, false))⟩,
    ⟨(some 14), .fad 1 (.t 13), (some (12, false))⟩,
    ⟨(some 15), .load none (.t 14), (some (12, false))⟩,
    ⟨(some 16), .len (.t 15), (some (12, false))⟩,
    ⟨(some 17), .bin .eql (.t 16) (.c (.v (.int .i64 0))), (some (12, false))⟩,
    ⟨(some 18), .pick (.t 12) (.c (.v (.bool true))) (.t 17), none⟩] []) <|
  .keep [2, 3, 4, 18] [[2], [3], [4]]) <|
  .cond (.t 18) (.seq (.seq (.reg [⟨(some 19), .build [.v (.bool false), .z true, .v (.bool false), .z true] [], none⟩,
    ⟨none, .store 4 (.t 4) (.t 19), none⟩] []) <|
  .keep [4] [[4]]) <|
  .ret) <|
  .skip) <|
  .seq (.seq (.seq (.reg [⟨(some 20), .fad 2 (.t 2), none⟩,
    ⟨(some 21), .fad 1 (.t 20), none⟩,
    ⟨(some 22), .load none (.t 21), none⟩,
    ⟨(some 23), .len (.t 22), none⟩,
    ⟨(some 24), .bin .eql (.t 23) (.c (.v (.int .i64 0))), none⟩,
    ⟨(some 25), .mov (.t 24), none⟩,
    ⟨(some 26), .fad 2 (.t 3), (some (25, true))⟩,
    ⟨(some 27), .fad 1 (.t 26), (some (25, true))⟩,
    ⟨(some 28), .load none (.t 27), (some (25, true))⟩,
    ⟨(some 29), .len (.t 28), (some (25, true))⟩,
    ⟨(some 30), .bin .eql (.t 29) (.c (.v (.int .i64 0))), (some (25, true))⟩,
    ⟨(some 31), .pick (.t 25) (.t 30) (.c (.v (.bool false))), none⟩] []) <|
  .keep [2, 3, 4, 31] [[2], [3], [4]]) <|
  .cond (.t 31) (.seq (.seq (.reg [⟨(some 32), .fad 0 (.t 2), none⟩,
    ⟨(some 33), .load (some 2) (.t 32), none⟩,
    ⟨(some 34), .fad 0 (.t 3), none⟩,
    ⟨(some 35), .load (some 2) (.t 34), none⟩,
    ⟨(some 36), .call n_integer_Mul [(.t 33), (.t 35)] false, none⟩,
    ⟨(some 37), .build [.v (.bool false), .z true, .v (.bool false), .z true] [(0, 2, (.t 36))], none⟩,
    ⟨none, .store 4 (.t 4) (.t 37), none⟩] []) <|
  .keep [4] [[4]]) <|
  .ret) <|
  .skip) <|
  .seq (.seq (.reg [⟨(some 38), .fad 0 (.t 2), none⟩,
    ⟨(some 39), .load (some 2) (.t 38), none⟩,
    ⟨(some 40), .load (some 4) (.t 3), none⟩,
    ⟨(some 41), .call n_rat_Den [(.t 40)] false, none⟩,
    ⟨(some 42), .call n_rat_Make [(.t 39), (.t 41)] false, none⟩,
    ⟨(some 43), .fad 0 (.t 3), none⟩,
    ⟨(some 44), .load (some 2) (.t 43), none⟩,
    ⟨(some 45), .load (some 4) (.t 2), none⟩,
    ⟨(some 46), .call n_rat_Den [(.t 45)] false, none⟩,
    ⟨(some 47), .call n_rat_Make [(.t 44), (.t 46)] false, none⟩,
    ⟨(some 5), .new [.v (.bool false), .z true, .v (.bool false), .z true], none⟩,
    ⟨(some 6), .new [.v (.bool false), .z true, .v (.bool false), .z true], none⟩,
    ⟨none, .store 4 (.t 5) (.t 42), none⟩,
    ⟨none, .store 4 (.t 6) (.t 47), none⟩] []) <|
  .keep [4, 5, 6] [[4], [5], [6]]) <|
  .seq (.seq (.reg [⟨(some 48), .fad 0 (.t 5), none⟩,
    ⟨(some 49), .load (some 2) (.t 48), none⟩,
    ⟨(some 50), .fad 0 (.t 6), none⟩,
    ⟨(some 51), .load (some 2) (.t 50), none⟩,
    ⟨(some 52), .call n_integer_Mul [(.t 49), (.t 51)] false, none⟩,
    ⟨(some 53), .load (some 4) (.t 5), none⟩,
    ⟨(some 54), .call n_rat_Den [(.t 53)] false, none⟩,
    ⟨(some 55), .load (some 4) (.t 6), none⟩,
    ⟨(some 56), .call n_rat_Den [(.t 55)] false, none⟩,
    ⟨(some 57), .call n_integer_Mul [(.t 54), (.t 56)] false, none⟩,
    ⟨(some 58), .call n_rat_lowest [(.t 52), (.t 57)] false, none⟩,
    ⟨none, .store 4 (.t 4) (.t 58), none⟩] []) <|
  .keep [4] [[4]]) <|
  .ret, [.cell 4 (some 4)]⟩

/- 30: gantry/rat.Add -/
def rat_Add : CF := ⟨2, .seq (.seq (.reg [⟨(some 2), .box (.t 0), none⟩,
    ⟨(some 3), .box (.t 1), none⟩,
    ⟨(some 4), .new [.v (.bool false), .z true, .v (.bool false), .z true], none⟩] []) <|
  .keep [2, 3, 4] [[2], [3], [4]]) <|
  .seq (.seq (.blk 0 <|
  .seq (.seq (.reg [⟨(some 8), .fad 2 (.t 2), none⟩,
    ⟨(some 9), .fad 1 (.t 8), none⟩,
    ⟨(some 10), .load none (.t 9), none⟩,
    ⟨(some 11), .len (.t 10), none⟩,
    ⟨(some 12), .bin .eql (.t 11) (.c (.v (.int .i64 0))), none⟩,
    ⟨(some 13), .mov (.t 12), none⟩,
    ⟨(some 14), .fad 2 (.t 3), (some (13, true))⟩,
    ⟨(some 15), .fad 1 (.t 14), (some (13, true))⟩,
    ⟨(some 16), .load none (.t 15), (some (13, true))⟩,
    ⟨(some 17), .len (.t 16), (some (13, true))⟩,
    ⟨(some 18), .bin .eql (.t 17) (.c (.v (.int .i64 0))), (some (13, true))⟩,
    ⟨(some 19), .pick (.t 13) (.t 18) (.c (.v (.bool false))), none⟩,
    ⟨(some 7), .mov (.t 19), none⟩] []) <|
  .keep [2, 3, 4, 7] [[2], [3], [4]]) <|
  .cond (.t 7) (.seq (.seq (.reg [⟨(some 20), .fad 0 (.t 2), none⟩,
    ⟨(some 21), .load (some 2) (.t 20), none⟩,
    ⟨(some 22), .fad 0 (.t 3), none⟩,
    ⟨(some 23), .load (some 2) (.t 22), none⟩,
    ⟨(some 24), .call n_integer_Add [(.t 21), (.t 23)] false, none⟩,
    ⟨(some 25), .build [.v (.bool false), .z true, .v (.bool false), .z true] [(0, 2, (.t 24))], none⟩,
    ⟨none, .store 4 (.t 4) (.t 25), none⟩] []) <|
  .keep [4] [[4]]) <|
  .ret) <|
  .seq (.seq (.reg [⟨(some 27), .fad 0 (.t 2), none⟩,
    ⟨(some 28), .fad 1 (.t 27), none⟩,
    ⟨(some 29), .load none (.t 28), none⟩,
    ⟨(some 30), .len (.t 29), none⟩,
    ⟨(some 31), .bin .eql (.t 30) (.c (.v (.int .i64 0))), none⟩,
    ⟨(some 26), .mov (.t 31), none⟩] []) <|
  .keep [2, 3, 4, 26] [[2], [3], [4]]) <|
  .cond (.t 26) (.seq (.seq (.reg [⟨(some 32), .load (some 4) (.t 3), none⟩,
    ⟨none, .store 4 (.t 4) (.t 32), none⟩] []) <|
  .keep [4] [[4]]) <|
  .ret) <|
  .seq (.seq (.reg [⟨(some 34), .fad 0 (.t 3), none⟩,
    ⟨(some 35), .fad 1 (.t 34), none⟩,
    ⟨(some 36), .load none (.t 35), none⟩,
    ⟨(some 37), .len (.t 36), none⟩,
    ⟨(some 38), .bin .eql (.t 37) (.c (.v (.int .i64 0))), none⟩,
    ⟨(some 33), .mov (.t 38), none⟩] []) <|
  .keep [2, 3, 4, 33] [[2], [3], [4]]) <|
  .cond (.t 33) (.seq (.seq (.reg [⟨(some 39), .load (some 4) (.t 2), none⟩,
    ⟨none, .store 4 (.t 4) (.t 39), none⟩] []) <|
  .keep [4] [[4]]) <|
  .ret) <|
  .skip) <|
  .keep [2, 3, 4] [[2], [3], [4]]) <|
  .seq (.seq (.reg [⟨(some 40), .load (some 4) (.t 2), none⟩,
    ⟨(some 41), .call n_rat_Den [(.t 40)] false, none⟩,
    ⟨(some 42), .load (some 4) (.t 3), none⟩,
    ⟨(some 43), .call n_rat_Den [(.t 42)] false, none⟩,
    ⟨(some 5), .new [.v (.bool false), .z true], none⟩,
    ⟨(some 6), .new [.v (.bool false), .z true], none⟩,
    ⟨none, .store 2 (.t 5) (.t 41), none⟩,
    ⟨none, .store 2 (.t 6) (.t 43), none⟩] []) <|
  .keep [2, 3, 4, 5, 6] [[2], [3], [4], [5], [6]]) <|
  .seq (.seq (.reg [⟨(some 44), .fad 0 (.t 2), none⟩,
    ⟨(some 45), .load (some 2) (.t 44), none⟩,
    ⟨(some 46), .load (some 2) (.t 6), none⟩,
    ⟨(some 47), .call n_integer_Mul [(.t 45), (.t 46)] false, none⟩,
    ⟨(some 48), .fad 0 (.t 3), none⟩,
    ⟨(some 49), .load (some 2) (.t 48), none⟩,
    ⟨(some 50), .load (some 2) (.t 5), none⟩,
    ⟨(some 51), .call n_integer_Mul [(.t 49), (.t 50)] false, none⟩,
    ⟨(some 52), .call n_integer_Add [(.t 47), (.t 51)] false, none⟩,
    ⟨(some 53), .load (some 2) (.t 5), none⟩,
    ⟨(some 54), .load (some 2) (.t 6), none⟩,
    ⟨(some 55), .call n_integer_Mul [(.t 53), (.t 54)] false, none⟩,
    ⟨(some 56), .call n_rat_Make [(.t 52), (.t 55)] false, none⟩,
    ⟨none, .store 4 (.t 4) (.t 56), none⟩] []) <|
  .keep [4] [[4]]) <|
  .ret, [.cell 4 (some 4)]⟩

/- 31: gantry/gantryref17.Power -/
def gantryref17_Power_l0 : C :=
  .seq (.seq (.seq (.seq (.reg [⟨(some 8), .mov (.t 6), none⟩,
    ⟨(some 9), .mov (.t 1), none⟩,
    ⟨(some 10), .bin .lss (.t 8) (.t 9), none⟩] []) <|
  .keep [1, 2, 4, 5, 6, 10] [[2], [4], [5]]) <|
  .cond (.t 10) (.skip) <|
  .seq (.keep [4, 5] [[4], [5]]) <|
  .exit 0) <|
  .seq (.seq (.blk 1 <|
  .seq (.reg [⟨(some 13), .load (some 4) (.t 5), none⟩,
    ⟨(some 14), .load (some 4) (.t 2), none⟩,
    ⟨(some 15), .call n_gantryref05_Mul [(.t 13), (.t 14)] false, none⟩,
    ⟨none, .store 4 (.t 5) (.t 15), none⟩] []) <|
  .keep [1, 2, 4, 5, 6] [[2], [4], [5]]) <|
  .keep [1, 2, 4, 5, 6] [[2], [4], [5]]) <|
  .seq (.reg [⟨(some 11), .mov (.t 6), none⟩,
    ⟨(some 12), .bin .add (.t 11) (.c (.v (.int .i64 1))), none⟩,
    ⟨(some 6), .mov (.t 12), none⟩] []) <|
  .keep [1, 2, 4, 5, 6] [[2], [4], [5]]) <|
  .keep [1, 2, 4, 5, 6] [[2], [4], [5]]
def gantryref17_Power : CF := ⟨2, .seq (.seq (.reg [⟨(some 2), .box (.t 0), none⟩,
    ⟨(some 4), .new [.v (.bool false), .z true, .v (.bool false), .z true], none⟩] []) <|
  .keep [1, 2, 4] [[2], [4]]) <|
  .seq (.seq (.reg [⟨(some 7), .call n_gantryref17_whole [(.c (.v (.int .i64 1)))] false, none⟩,
    ⟨(some 5), .new [.v (.bool false), .z true, .v (.bool false), .z true], none⟩,
    ⟨none, .store 4 (.t 5) (.t 7), none⟩] []) <|
  .keep [1, 2, 4, 5] [[2], [4], [5]]) <|
  .seq (.seq (.seq (.reg [⟨(some 6), .mov (.c (.v (.int .i64 0))), none⟩] []) <|
  .keep [1, 2, 4, 5, 6] [[2], [4], [5]]) <|
  .seq (.blk 0 <|
  .seq (.keep [1, 2, 4, 5, 6] [[2], [4], [5]]) <|
  .loop gantryref17_Power_l0) <|
  .keep [4, 5] [[4], [5]]) <|
  .seq (.seq (.reg [⟨(some 16), .load (some 4) (.t 5), none⟩,
    ⟨none, .store 4 (.t 4) (.t 16), none⟩] []) <|
  .keep [4] [[4]]) <|
  .ret, [.cell 4 (some 4)]⟩

/- 32: gantry/rat.Compare -/
def rat_Compare : CF := ⟨2, .seq (.seq (.reg [⟨(some 2), .box (.t 0), none⟩,
    ⟨(some 3), .box (.t 1), none⟩,
    ⟨(some 4), .mov (.c (.v (.int .i64 0))), none⟩] []) <|
  .keep [2, 3] [[2], [3]]) <|
  .seq (.seq (.seq (.reg [⟨(some 7), .load (some 4) (.t 2), none⟩,
    ⟨(some 8), .call n_rat_Sign [(.t 7)] false, none⟩,
    ⟨(some 9), .load (some 4) (.t 3), none⟩,
    ⟨(some 10), .call n_rat_Sign [(.t 9)] false, none⟩,
    ⟨(some 5), .mov (.t 8), none⟩,
    ⟨(some 6), .mov (.t 10), none⟩] []) <|
  .keep [2, 3, 5, 6] [[2], [3]]) <|
  .seq (.seq (.reg [⟨(some 11), .mov (.t 5), none⟩,
    ⟨(some 12), .mov (.t 6), none⟩,
    ⟨(some 13), .bin .neq (.t 11) (.t 12), none⟩,
    ⟨(some 14), .mov (.t 13), none⟩,
    ⟨(some 15), .mov (.t 5), (some (14, false))⟩,
    ⟨(some 16), .bin .eql (.t 15) (.c (.v (.int .i64 0))), (some (14, false))⟩,
    ⟨(some 17), .pick (.t 14) (.c (.v (.bool true))) (.t 16), none⟩] []) <|
  .keep [2, 3, 5, 6, 17] [[2], [3]]) <|
  .cond (.t 17) (.seq (.seq (.reg [⟨(some 18), .mov (.t 5), none⟩,
    ⟨(some 19), .call n_integer_Of [(.t 18)] false, none⟩,
    ⟨(some 20), .mov (.t 6), none⟩,
    ⟨(some 21), .call n_integer_Of [(.t 20)] false, none⟩,
    ⟨(some 22), .call n_integer_Compare [(.t 19), (.t 21)] false, none⟩,
    ⟨(some 4), .mov (.t 22), none⟩] []) <|
  .keep [4] []) <|
  .ret) <|
  .skip) <|
  .seq (.seq (.reg [⟨(some 23), .fad 0 (.t 2), none⟩,
    ⟨(some 24), .load (some 2) (.t 23), none⟩,
    ⟨(some 25), .load (some 4) (.t 3), none⟩,
    ⟨(some 26), .call n_rat_Den [(.t 25)] false, none⟩,
    ⟨(some 27), .call n_integer_Mul [(.t 24), (.t 26)] false, none⟩,
    ⟨(some 28), .fad 0 (.t 3), none⟩,
    ⟨(some 29), .load (some 2) (.t 28), none⟩,
    ⟨(some 30), .load (some 4) (.t 2), none⟩,
    ⟨(some 31), .call n_rat_Den [(.t 30)] false, none⟩,
    ⟨(some 32), .call n_integer_Mul [(.t 29), (.t 31)] false, none⟩,
    ⟨(some 33), .call n_integer_Compare [(.t 27), (.t 32)] false, none⟩,
    ⟨(some 4), .mov (.t 33), none⟩] []) <|
  .keep [4] []) <|
  .ret, [.t 4]⟩

/- 33: gantry/gantryref05.Of -/
def gantryref05_Of : CF := ⟨2, .seq (.seq (.reg [⟨(some 4), .new [.v (.bool false), .z true, .v (.bool false), .z true], none⟩] []) <|
  .keep [0, 1, 4] [[4]]) <|
  .seq (.seq (.reg [⟨(some 5), .mov (.t 0), none⟩,
    ⟨(some 6), .call n_gantryref04_Of [(.t 5)] false, none⟩,
    ⟨(some 7), .mov (.t 1), none⟩,
    ⟨(some 8), .call n_gantryref04_Of [(.t 7)] false, none⟩,
    ⟨(some 9), .call n_gantryref05_Make [(.t 6), (.t 8)] false, none⟩,
    ⟨none, .store 4 (.t 4) (.t 9), none⟩] []) <|
  .keep [4] [[4]]) <|
  .ret, [.cell 4 (some 4)]⟩

/- 34: gantry/gantryref05.Mul -/
def gantryref05_Mul : CF := ⟨2, .seq (.seq (.reg [⟨(some 2), .box (.t 0), none⟩,
    ⟨(some 3), .box (.t 1), none⟩,
    ⟨(some 4), .new [.v (.bool false), .z true, .v (.bool false), .z true], none⟩] []) <|
  .keep [2, 3, 4] [[2], [3], [4]]) <|
  .seq (.seq (.reg [⟨(some 5), .fad 0 (.t 2), none⟩,
    ⟨(some 6), .load (some 2) (.t 5), none⟩,
    ⟨(some 7), .fad 0 (.t 3), none⟩,
    ⟨(some 8), .load (some 2) (.t 7), none⟩,
    ⟨(some 9), .call n_gantryref04_Mul [(.t 6), (.t 8)] false, none⟩,
    ⟨(some 10), .load (some 4) (.t 2), none⟩,
    ⟨(some 11), .call n_gantryref05_Den [(.t 10)] false, none⟩,
    ⟨(some 12), .load (some 4) (.t 3), none⟩,
    ⟨(some 13), .call n_gantryref05_Den [(.t 12)] false, none⟩,
    ⟨(some 14), .call n_gantryref04_Mul [(.t 11), (.t 13)] false, none⟩,
    ⟨(some 15), .call n_gantryref05_Make [(.t 9), (.t 14)] false, none⟩,
    ⟨none, .store 4 (.t 4) (.t 15), none⟩] []) <|
  .keep [4] [[4]]) <|
  .ret, [.cell 4 (some 4)]⟩

/- 35: gantry/poly.Trim -/
def poly_Trim_l0 : C :=
  .seq (.seq (.seq (.seq (.reg [⟨(some 6), .mov (.t 3), none⟩,
    ⟨(some 7), .bin .gtr (.t 6) (.c (.v (.int .i64 0))), none⟩,
    ⟨(some 8), .mov (.t 7), none⟩,
    ⟨(some 9), .mov (.t 0), (some (8, true))⟩,
    ⟨(some 10), .mov (.t 3), (some (8, true))⟩,
    ⟨(some 11), .bin .sub (.t 10) (.c (.v (.int .i64 1))), (some (8, true))⟩,
    ⟨(some 12), .ixa 4 (.t 9) (.t 11), (some (8, true))⟩,
    ⟨(some 13), .load (some 4) (.t 12), (some (8, true))⟩,
    ⟨(some 14), .call n_rat_Sign [(.t 13)] false, (some (8, true))⟩,
    ⟨(some 15), .bin .eql (.t 14) (.c (.v (.int .i64 0))), (some (8, true))⟩,
    ⟨(some 16), .pick (.t 8) (.t 15) (.c (.v (.bool false))), none⟩] []) <|
  .keep [0, 3, 16] []) <|
  .cond (.t 16) (.skip) <|
  .seq (.keep [0, 3] []) <|
  .exit 0) <|
  .seq (.blk 1 <|
  .seq (.reg [⟨(some 17), .mov (.t 3), none⟩,
    ⟨(some 18), .bin .sub (.t 17) (.c (.v (.int .i64 1))), none⟩,
    ⟨(some 3), .mov (.t 18), none⟩] []) <|
  .keep [0, 3] []) <|
  .keep [0, 3] []) <|
  .keep [0, 3] []
def poly_Trim : CF := ⟨1, .seq (.seq (.reg [⟨(some 2), .mov (.c (.z true)), none⟩] []) <|
  .keep [0] []) <|
  .seq (.seq (.reg [⟨(some 4), .mov (.t 0), none⟩,
    ⟨(some 5), .len (.t 4), none⟩,
    ⟨(some 3), .mov (.t 5), none⟩] []) <|
  .keep [0, 3] []) <|
  .seq (.seq (.blk 0 <|
  .seq (.keep [0, 3] []) <|
  .loop poly_Trim_l0) <|
  .keep [0, 3] []) <|
  .seq (.seq (.reg [⟨(some 19), .mov (.t 0), none⟩,
    ⟨(some 20), .mov (.t 3), none⟩,
    ⟨(some 21), .slc 4 (.t 19) none (some (.t 20)) none, none⟩,
    ⟨(some 22), .call n_slices_Clone_api_Poly_api_Rat [(.t 21)] false, none⟩,
    ⟨(some 2), .mov (.t 22), none⟩] []) <|
  .keep [2] []) <|
  .ret, [.t 2]⟩

/- 36: gantry/rat.Neg -/
def rat_Neg : CF := ⟨1, .seq (.seq (.reg [⟨(some 1), .box (.t 0), none⟩,
    ⟨(some 2), .new [.v (.bool false), .z true, .v (.bool false), .z true], none⟩] []) <|
  .keep [1, 2] [[1], [2]]) <|
  .seq (.seq (.reg [⟨(some 3), .fad 0 (.t 1), none⟩,
    ⟨(some 4), .load (some 2) (.t 3), none⟩,
    ⟨(some 5), .call n_integer_Neg [(.t 4)] false, none⟩,
    ⟨(some 6), .fad 2 (.t 1), none⟩,
    ⟨(some 7), .load (some 2) (.t 6), none⟩,
    ⟨(some 8), .build [.v (.bool false), .z true, .v (.bool false), .z true] [(0, 2, (.t 5)), (2, 2, (.t 7))], none⟩,
    ⟨none, .store 4 (.t 2) (.t 8), none⟩] []) <|
  .keep [2] [[2]]) <|
  .ret, [.cell 2 (some 4)]⟩

/- 37: gantry/rat.Sign -/
def rat_Sign : CF := ⟨1, .seq (.seq (.reg [⟨(some 1), .box (.t 0), none⟩,
    ⟨(some 2), .mov (.c (.v (.int .i64 0))), none⟩] []) <|
  .keep [1] [[1]]) <|
  .seq (.seq (.reg [⟨(some 3), .fad 0 (.t 1), none⟩,
    ⟨(some 4), .load (some 2) (.t 3), none⟩,
    ⟨(some 5), .call n_integer_Sign [(.t 4)] false, none⟩,
    ⟨(some 2), .mov (.t 5), none⟩] []) <|
  .keep [2] []) <|
  .ret, [.t 2]⟩

/- 38: gantry/poly.Eval -/
def poly_Eval_a0 : C :=
  .seq (.reg [⟨(some 7), .new [.v (.bool false), .z true, .v (.bool false), .z true], none⟩,
    ⟨none, .store 4 (.t 7) (.t 11), none⟩] []) <|
  .keep [3, 5, 7] [[3], [5], [7], [4]]
def poly_Eval_b0 : C :=
  .seq (.blk 1 <|
  .seq (.reg [⟨(some 12), .load (some 4) (.t 5), none⟩,
    ⟨(some 13), .load (some 4) (.t 3), none⟩,
    ⟨(some 14), .call n_rat_Mul [(.t 12), (.t 13)] false, none⟩,
    ⟨(some 15), .load (some 4) (.t 7), none⟩,
    ⟨(some 16), .call n_rat_Add [(.t 14), (.t 15)] false, none⟩,
    ⟨none, .store 4 (.t 5) (.t 16), none⟩] []) <|
  .keep [] [[3], [4], [5]]) <|
  .keep [] [[3], [4], [5]]
def poly_Eval : CF := ⟨2, .seq (.seq (.reg [⟨(some 3), .box (.t 1), none⟩,
    ⟨(some 4), .new [.v (.bool false), .z true, .v (.bool false), .z true], none⟩] []) <|
  .keep [0, 3, 4] [[3], [4]]) <|
  .seq (.seq (.reg [⟨(some 5), .new [.v (.bool false), .z true, .v (.bool false), .z true], none⟩] []) <|
  .keep [0, 3, 4, 5] [[3], [4], [5]]) <|
  .seq (.seq (.seq (.reg [⟨(some 8), .mov (.t 0), none⟩,
    ⟨(some 9), .call n_slices_Backward_api_Poly_api_Rat [(.t 8)] false, none⟩] []) <|
  .keep [3, 4, 5, 9] [[3], [4], [5]]) <|
  .seq (.blk 0 <|
  .seq (.rfn (.t 9) [10, 11] poly_Eval_a0 poly_Eval_b0 [3, 4, 5] [[3], [4], [5]]) <|
  .keep [4, 5] [[4], [5]]) <|
  .keep [4, 5] [[4], [5]]) <|
  .seq (.seq (.reg [⟨(some 17), .load (some 4) (.t 5), none⟩,
    ⟨none, .store 4 (.t 4) (.t 17), none⟩] []) <|
  .keep [4] [[4]]) <|
  .ret, [.cell 4 (some 4)]⟩

/- 39: gantry/gantryref01.At -/
def gantryref01_At : CF := ⟨3, .seq (.seq (.reg [⟨(some 6), .mov (.c (.v (.int .i64 0))), none⟩] []) <|
  .keep [0, 1, 2] []) <|
  .seq (.seq (.seq (.reg [⟨(some 7), .mov (.t 1), none⟩,
    ⟨(some 8), .bin .lss (.t 7) (.c (.v (.int .i64 0))), none⟩,
    ⟨(some 9), .mov (.t 8), none⟩,
    ⟨(some 10), .mov (.t 1), (some (9, false))⟩,
    ⟨(some 11), .mov (.t 0), (some (9, false))⟩,
    ⟨(some 12), .len (.t 11), (some (9, false))⟩,
    ⟨(some 13), .bin .geq (.t 10) (.t 12), (some (9, false))⟩,
    ⟨(some 14), .pick (.t 9) (.c (.v (.bool true))) (.t 13), none⟩] []) <|
  .keep [0, 1, 2, 14] []) <|
  .cond (.t 14) (.seq (.seq (.reg [⟨(some 6), .mov (.c (.v (.int .i64 0))), none⟩] []) <|
  .keep [6] []) <|
  .ret) <|
  .skip) <|
  .seq (.seq (.reg [⟨(some 15), .mov (.t 0), none⟩,
    ⟨(some 16), .mov (.t 1), none⟩,
    ⟨(some 17), .ixa 1 (.t 15) (.t 16), none⟩,
    ⟨(some 18), .load none (.t 17), none⟩,
    ⟨(some 19), .mov (.t 2), none⟩,
    ⟨(some 20), .call n_gantryref01_Around [(.t 18), (.t 19)] false, none⟩,
    ⟨(some 6), .mov (.t 20), none⟩] []) <|
  .keep [6] []) <|
  .ret, [.t 6]⟩

/- 40: gantry/gantryref17.whole -/
def gantryref17_whole : CF := ⟨1, .seq (.seq (.reg [⟨(some 2), .new [.v (.bool false), .z true, .v (.bool false), .z true], none⟩] []) <|
  .keep [0, 2] [[2]]) <|
  .seq (.seq (.reg [⟨(some 3), .mov (.t 0), none⟩,
    ⟨(some 4), .call n_gantryref05_Of [(.t 3), (.c (.v (.int .i64 1)))] false, none⟩,
    ⟨none, .store 4 (.t 2) (.t 4), none⟩] []) <|
  .keep [2] [[2]]) <|
  .ret, [.cell 2 (some 4)]⟩

/- 41: gantry/gantryref05.Neg -/
def gantryref05_Neg : CF := ⟨1, .seq (.seq (.reg [⟨(some 1), .box (.t 0), none⟩,
    ⟨(some 2), .new [.v (.bool false), .z true, .v (.bool false), .z true], none⟩] []) <|
  .keep [1, 2] [[1], [2]]) <|
  .seq (.seq (.reg [⟨(some 3), .fad 0 (.t 1), none⟩,
    ⟨(some 4), .load (some 2) (.t 3), none⟩,
    ⟨(some 5), .call n_gantryref04_Neg [(.t 4)] false, none⟩,
    ⟨(some 6), .fad 2 (.t 1), none⟩,
    ⟨(some 7), .load (some 2) (.t 6), none⟩,
    ⟨(some 8), .build [.v (.bool false), .z true, .v (.bool false), .z true] [(0, 2, (.t 5)), (2, 2, (.t 7))], none⟩,
    ⟨none, .store 4 (.t 2) (.t 8), none⟩] []) <|
  .keep [2] [[2]]) <|
  .ret, [.cell 2 (some 4)]⟩

/- 42: gantry/gantryref17.Same -/
def gantryref17_Same : CF := ⟨2, .seq (.seq (.reg [⟨(some 2), .box (.t 0), none⟩,
    ⟨(some 3), .box (.t 1), none⟩,
    ⟨(some 4), .mov (.c (.v (.bool false))), none⟩] []) <|
  .keep [2, 3] [[2], [3]]) <|
  .seq (.seq (.reg [⟨(some 5), .load (some 4) (.t 2), none⟩,
    ⟨(some 6), .load (some 4) (.t 3), none⟩,
    ⟨(some 7), .call n_gantryref05_Compare [(.t 5), (.t 6)] false, none⟩,
    ⟨(some 8), .bin .eql (.t 7) (.c (.v (.int .i64 0))), none⟩,
    ⟨(some 4), .mov (.t 8), none⟩] []) <|
  .keep [4] []) <|
  .ret, [.t 4]⟩

/- 43: gantry/bounce.within -/
def bounce_within : CF := ⟨1, .seq (.seq (.reg [⟨(some 2), .mov (.c (.v (.bool false))), none⟩] []) <|
  .keep [0] []) <|
  .seq (.seq (.reg [⟨(some 3), .mov (.t 0), none⟩,
    ⟨(some 4), .bin .geq (.t 3) (.c (.v (.int .i64 0))), none⟩,
    ⟨(some 5), .mov (.t 4), none⟩,
    ⟨(some 6), .mov (.t 0), (some (5, true))⟩,
    ⟨(some 7), .bin .leq (.t 6) (.c (.v (.int .i64 64))), (some (5, true))⟩,
    ⟨(some 8), .pick (.t 5) (.t 7) (.c (.v (.bool false))), none⟩,
    ⟨(some 2), .mov (.t 8), none⟩] []) <|
  .keep [2] []) <|
  .ret, [.t 2]⟩

/- 44: gantry/bounce.power[gantry/api.Rat] -/
def bounce_power_api_Rat_l0 : C :=
  .seq (.seq (.seq (.reg [⟨(some 13), .bin .lss (.t 12) (.t 11), none⟩] []) <|
  .keep [3, 4, 8, 9, 11, 12, 13] [[4], [8], [9]]) <|
  .seq (.cond (.t 13) (.skip) <|
  .seq (.keep [8, 9] [[8], [9]]) <|
  .exit 0) <|
  .seq (.seq (.blk 1 <|
  .seq (.reg [⟨(some 14), .mov (.t 3), none⟩,
    ⟨(some 15), .load (some 4) (.t 9), none⟩,
    ⟨(some 16), .load (some 4) (.t 4), none⟩,
    ⟨(some 17), .calv (.t 14) [(.t 15), (.t 16)], none⟩,
    ⟨none, .store 4 (.t 9) (.t 17), none⟩] []) <|
  .keep [3, 4, 8, 9, 11, 12] [[4], [8], [9]]) <|
  .keep [3, 4, 8, 9, 11, 12] [[4], [8], [9]]) <|
  .seq (.reg [⟨(some 18), .bin .add (.t 12) (.c (.v (.int .i64 1))), none⟩,
    ⟨(some 12), .mov (.t 18), none⟩] []) <|
  .keep [3, 4, 8, 9, 11, 12] [[4], [8], [9]]) <|
  .keep [3, 4, 8, 9, 11, 12] [[4], [8], [9]]
def bounce_power_api_Rat : CF := ⟨4, .seq (.seq (.reg [⟨(some 4), .box (.t 0), none⟩,
    ⟨(some 5), .box (.t 1), none⟩,
    ⟨(some 8), .new [.v (.bool false), .z true, .v (.bool false), .z true], none⟩] []) <|
  .keep [2, 3, 4, 5, 8] [[4], [5], [8]]) <|
  .seq (.seq (.reg [⟨(some 10), .load (some 4) (.t 5), none⟩,
    ⟨(some 9), .new [.v (.bool false), .z true, .v (.bool false), .z true], none⟩,
    ⟨none, .store 4 (.t 9) (.t 10), none⟩] []) <|
  .keep [2, 3, 4, 8, 9] [[4], [8], [9]]) <|
  .seq (.seq (.seq (.reg [⟨(some 11), .mov (.t 2), none⟩,
    ⟨(some 12), .mov (.c (.v (.int .i64 0))), none⟩] []) <|
  .keep [3, 4, 8, 9, 11, 12] [[4], [8], [9]]) <|
  .seq (.blk 0 <|
  .seq (.keep [3, 4, 8, 9, 11, 12] [[4], [8], [9]]) <|
  .loop bounce_power_api_Rat_l0) <|
  .keep [8, 9] [[8], [9]]) <|
  .seq (.seq (.reg [⟨(some 19), .load (some 4) (.t 9), none⟩,
    ⟨none, .store 4 (.t 8) (.t 19), none⟩] []) <|
  .keep [8] [[8]]) <|
  .ret, [.cell 8 (some 4)]⟩

/- 45: gantry/bounce.one -/
def bounce_one : CF := ⟨0, .seq (.seq (.reg [⟨(some 0), .new [.v (.bool false), .z true, .v (.bool false), .z true], none⟩] []) <|
  .keep [0] [[0]]) <|
  .seq (.seq (.reg [⟨(some 1), .call n_rat_Of [(.c (.v (.int .i64 1))), (.c (.v (.int .i64 1)))] false, none⟩,
    ⟨none, .store 4 (.t 0) (.t 1), none⟩] []) <|
  .keep [0] [[0]]) <|
  .ret, [.cell 0 (some 4)]⟩

/- 46: gantry/gantryref05.Sub -/
def gantryref05_Sub : CF := ⟨2, .seq (.seq (.reg [⟨(some 2), .box (.t 0), none⟩,
    ⟨(some 3), .box (.t 1), none⟩,
    ⟨(some 4), .new [.v (.bool false), .z true, .v (.bool false), .z true], none⟩] []) <|
  .keep [2, 3, 4] [[2], [3], [4]]) <|
  .seq (.seq (.reg [⟨(some 5), .load (some 4) (.t 2), none⟩,
    ⟨(some 6), .load (some 4) (.t 3), none⟩,
    ⟨(some 7), .call n_gantryref05_Neg [(.t 6)] false, none⟩,
    ⟨(some 8), .call n_gantryref05_Add [(.t 5), (.t 7)] false, none⟩,
    ⟨none, .store 4 (.t 4) (.t 8), none⟩] []) <|
  .keep [4] [[4]]) <|
  .ret, [.cell 4 (some 4)]⟩

/- 47: gantry/gantryref05.Sign -/
def gantryref05_Sign : CF := ⟨1, .seq (.seq (.reg [⟨(some 1), .box (.t 0), none⟩,
    ⟨(some 2), .mov (.c (.v (.int .i64 0))), none⟩] []) <|
  .keep [1] [[1]]) <|
  .seq (.seq (.reg [⟨(some 3), .fad 0 (.t 1), none⟩,
    ⟨(some 4), .load (some 2) (.t 3), none⟩,
    ⟨(some 5), .call n_gantryref04_Sign [(.t 4)] false, none⟩,
    ⟨(some 2), .mov (.t 5), none⟩] []) <|
  .keep [2] []) <|
  .ret, [.t 2]⟩

/- 48: gantry/gantryref05.Compare -/
def gantryref05_Compare : CF := ⟨2, .seq (.seq (.reg [⟨(some 2), .box (.t 0), none⟩,
    ⟨(some 3), .box (.t 1), none⟩,
    ⟨(some 4), .mov (.c (.v (.int .i64 0))), none⟩] []) <|
  .keep [2, 3] [[2], [3]]) <|
  .seq (.seq (.reg [⟨(some 5), .fad 0 (.t 2), none⟩,
    ⟨(some 6), .load (some 2) (.t 5), none⟩,
    ⟨(some 7), .load (some 4) (.t 3), none⟩,
    ⟨(some 8), .call n_gantryref05_Den [(.t 7)] false, none⟩,
    ⟨(some 9), .call n_gantryref04_Mul [(.t 6), (.t 8)] false, none⟩,
    ⟨(some 10), .fad 0 (.t 3), none⟩,
    ⟨(some 11), .load (some 2) (.t 10), none⟩,
    ⟨(some 12), .load (some 4) (.t 2), none⟩,
    ⟨(some 13), .call n_gantryref05_Den [(.t 12)] false, none⟩,
    ⟨(some 14), .call n_gantryref04_Mul [(.t 11), (.t 13)] false, none⟩,
    ⟨(some 15), .call n_gantryref04_Compare [(.t 9), (.t 14)] false, none⟩,
    ⟨(some 4), .mov (.t 15), none⟩] []) <|
  .keep [4] []) <|
  .ret, [.t 4]⟩

/- 49: gantry/bounce.double -/
def bounce_double : CF := ⟨2, .seq (.seq (.reg [⟨(some 2), .box (.t 0), none⟩,
    ⟨(some 3), .box (.t 1), none⟩,
    ⟨(some 4), .new [.v (.bool false), .z true, .v (.bool false), .z true], none⟩] []) <|
  .keep [2, 3, 4] [[2], [3], [4]]) <|
  .seq (.seq (.reg [⟨(some 5), .load (some 4) (.t 2), none⟩,
    ⟨(some 6), .load (some 4) (.t 2), none⟩,
    ⟨(some 7), .call n_rat_Add [(.t 5), (.t 6)] false, none⟩,
    ⟨(some 8), .load (some 4) (.t 3), none⟩,
    ⟨(some 9), .call n_rat_Div [(.t 7), (.t 8)] false, none⟩,
    ⟨none, .store 4 (.t 4) (.t 9), none⟩] []) <|
  .keep [4] [[4]]) <|
  .ret, [.cell 4 (some 4)]⟩

/- 50: gantry/gantryref05.Div -/
def gantryref05_Div : CF := ⟨2, .seq (.seq (.reg [⟨(some 2), .box (.t 0), none⟩,
    ⟨(some 3), .box (.t 1), none⟩,
    ⟨(some 4), .new [.v (.bool false), .z true, .v (.bool false), .z true], none⟩] []) <|
  .keep [2, 3, 4] [[2], [3], [4]]) <|
  .seq (.seq (.reg [⟨(some 5), .fad 0 (.t 2), none⟩,
    ⟨(some 6), .load (some 2) (.t 5), none⟩,
    ⟨(some 7), .load (some 4) (.t 3), none⟩,
    ⟨(some 8), .call n_gantryref05_Den [(.t 7)] false, none⟩,
    ⟨(some 9), .call n_gantryref04_Mul [(.t 6), (.t 8)] false, none⟩,
    ⟨(some 10), .load (some 4) (.t 2), none⟩,
    ⟨(some 11), .call n_gantryref05_Den [(.t 10)] false, none⟩,
    ⟨(some 12), .fad 0 (.t 3), none⟩,
    ⟨(some 13), .load (some 2) (.t 12), none⟩,
    ⟨(some 14), .call n_gantryref04_Mul [(.t 11), (.t 13)] false, none⟩,
    ⟨(some 15), .call n_gantryref05_Make [(.t 9), (.t 14)] false, none⟩,
    ⟨none, .store 4 (.t 4) (.t 15), none⟩] []) <|
  .keep [4] [[4]]) <|
  .ret, [.cell 4 (some 4)]⟩

/- 51: gantry/gantrylaw17.whole -/
def gantrylaw17_whole : CF := ⟨1, .seq (.seq (.reg [⟨(some 2), .new [.v (.bool false), .z true, .v (.bool false), .z true], none⟩] []) <|
  .keep [0, 2] [[2]]) <|
  .seq (.seq (.reg [⟨(some 3), .mov (.t 0), none⟩,
    ⟨(some 4), .call n_gantryref05_Of [(.t 3), (.c (.v (.int .i64 1)))] false, none⟩,
    ⟨none, .store 4 (.t 2) (.t 4), none⟩] []) <|
  .keep [2] [[2]]) <|
  .ret, [.cell 2 (some 4)]⟩

/- 52: (gantry/bounce.Series).flights -/
def bounce_Series_flights : CF := ⟨2, .seq (.seq (.reg [⟨(some 2), .box (.t 0), none⟩,
    ⟨(some 3), .box (.t 1), none⟩,
    ⟨(some 4), .mov (.c (.v (.nilFunc))), none⟩] []) <|
  .keep [2, 3] [[2], [3]]) <|
  .seq (.seq (.reg [⟨(some 5), .mkfn n_bounce_Series_flights_1 [(.t 2), (.t 3)] true, none⟩,
    ⟨(some 4), .mov (.t 5), none⟩] []) <|
  .keep [4] []) <|
  .ret, [.t 4]⟩

/- 53: gantry/gantryref17.duration -/
def gantryref17_duration : CF := ⟨2, .seq (.seq (.reg [⟨(some 2), .box (.t 0), none⟩,
    ⟨(some 4), .new [.v (.bool false), .z true, .v (.bool false), .z true], none⟩] []) <|
  .keep [1, 2, 4] [[2], [4]]) <|
  .seq (.seq (.reg [⟨(some 5), .call n_gantryref17_whole [(.c (.v (.int .i64 2)))] false, none⟩,
    ⟨(some 6), .fad 0 (.t 2), none⟩,
    ⟨(some 7), .load (some 4) (.t 6), none⟩,
    ⟨(some 8), .call n_gantryref05_Mul [(.t 5), (.t 7)] false, none⟩,
    ⟨(some 9), .fad 8 (.t 2), none⟩,
    ⟨(some 10), .load (some 4) (.t 9), none⟩,
    ⟨(some 11), .mov (.t 1), none⟩,
    ⟨(some 12), .call n_gantryref17_Power [(.t 10), (.t 11)] false, none⟩,
    ⟨(some 13), .call n_gantryref05_Mul [(.t 8), (.t 12)] false, none⟩,
    ⟨(some 14), .fad 4 (.t 2), none⟩,
    ⟨(some 15), .load (some 4) (.t 14), none⟩,
    ⟨(some 16), .call n_gantryref05_Div [(.t 13), (.t 15)] false, none⟩,
    ⟨none, .store 4 (.t 4) (.t 16), none⟩] []) <|
  .keep [4] [[4]]) <|
  .ret, [.cell 4 (some 4)]⟩

/- 54: gantry/rat.Of -/
def rat_Of : CF := ⟨2, .seq (.seq (.reg [⟨(some 4), .new [.v (.bool false), .z true, .v (.bool false), .z true], none⟩] []) <|
  .keep [0, 1, 4] [[4]]) <|
  .seq (.seq (.reg [⟨(some 5), .mov (.t 0), none⟩,
    ⟨(some 6), .call n_integer_Of [(.t 5)] false, none⟩,
    ⟨(some 7), .mov (.t 1), none⟩,
    ⟨(some 8), .call n_integer_Of [(.t 7)] false, none⟩,
    ⟨(some 9), .call n_rat_Make [(.t 6), (.t 8)] false, none⟩,
    ⟨none, .store 4 (.t 4) (.t 9), none⟩] []) <|
  .keep [4] [[4]]) <|
  .ret, [.cell 4 (some 4)]⟩

/- 55: gantry/integer.Mul -/
def integer_Mul_l0 : C :=
  .seq (.seq (.seq (.reg [⟨(some 57), .bin .lss (.t 56) (.t 55), none⟩] []) <|
  .keep [2, 3, 4, 6, 7, 8, 9, 10, 47, 48, 49, 54, 55, 56, 57] [[2], [3], [4], [46]]) <|
  .seq (.cond (.t 57) (.skip) <|
  .seq (.keep [2, 3, 4, 6, 7, 8, 10, 47, 48, 49] [[2], [3], [4], [46]]) <|
  .exit 2) <|
  .seq (.seq (.blk 3 <|
  .seq (.seq (.reg [⟨(some 58), .mov (.t 56), none⟩,
    ⟨(some 59), .ixa 1 (.t 54) (.t 56), none⟩,
    ⟨(some 60), .load none (.t 59), none⟩,
    ⟨(some 11), .mov (.t 58), none⟩,
    ⟨(some 12), .mov (.t 60), none⟩] []) <|
  .keep [2, 3, 4, 6, 7, 8, 9, 10, 11, 12, 47, 48, 49, 54, 55, 56] [[2], [3], [4], [46]]) <|
  .seq (.seq (.reg [⟨(some 61), .mov (.t 7), none⟩,
    ⟨(some 62), .mov (.t 8), none⟩,
    ⟨(some 63), .mov (.t 11), none⟩,
    ⟨(some 64), .bin .add (.t 62) (.t 63), none⟩,
    ⟨(some 65), .ixa 1 (.t 61) (.t 64), none⟩,
    ⟨(some 66), .load none (.t 65), none⟩,
    ⟨(some 67), .mov (.t 9), none⟩,
    ⟨(some 68), .mov (.t 12), none⟩,
    ⟨(some 69), .bin .mul (.t 67) (.t 68), none⟩,
    ⟨(some 70), .bin .add (.t 66) (.t 69), none⟩,
    ⟨(some 71), .mov (.t 10), none⟩,
    ⟨(some 72), .bin .add (.t 70) (.t 71), none⟩,
    ⟨(some 13), .mov (.t 72), none⟩] []) <|
  .keep [2, 3, 4, 6, 7, 8, 9, 11, 13, 47, 48, 49, 54, 55, 56] [[2], [3], [4], [46]]) <|
  .seq (.seq (.reg [⟨(some 73), .mov (.t 13), none⟩,
    ⟨(some 74), .bin .quo (.t 73) (.c (.v (.int .i64 1000000000))), none⟩,
    ⟨(some 10), .mov (.t 74), none⟩] []) <|
  .keep [2, 3, 4, 6, 7, 8, 9, 10, 11, 13, 47, 48, 49, 54, 55, 56] [[2], [3], [4], [46]]) <|
  .seq (.reg [⟨(some 75), .mov (.t 7), none⟩,
    ⟨(some 76), .mov (.t 8), none⟩,
    ⟨(some 77), .mov (.t 11), none⟩,
    ⟨(some 78), .bin .add (.t 76) (.t 77), none⟩,
    ⟨(some 79), .mov (.t 13), none⟩,
    ⟨(some 80), .mov (.t 10), none⟩,
    ⟨(some 81), .bin .mul (.t 80) (.c (.v (.int .i64 1000000000))), none⟩,
    ⟨(some 82), .bin .sub (.t 79) (.t 81), none⟩,
    ⟨(some 83), .ixa 1 (.t 75) (.t 78), none⟩,
    ⟨none, .store 1 (.t 83) (.t 82), none⟩] []) <|
  .keep [2, 3, 4, 6, 7, 8, 9, 10, 47, 48, 49, 54, 55, 56] [[2], [3], [4], [46]]) <|
  .keep [2, 3, 4, 6, 7, 8, 9, 10, 47, 48, 49, 54, 55, 56] [[2], [3], [4], [46]]) <|
  .seq (.reg [⟨(some 84), .bin .add (.t 56) (.c (.v (.int .i64 1))), none⟩,
    ⟨(some 56), .mov (.t 84), none⟩] []) <|
  .keep [2, 3, 4, 6, 7, 8, 9, 10, 47, 48, 49, 54, 55, 56] [[2], [3], [4], [46]]) <|
  .keep [2, 3, 4, 6, 7, 8, 9, 10, 47, 48, 49, 54, 55, 56] [[2], [3], [4], [46]]
def integer_Mul_l1 : C :=
  .seq (.seq (.seq (.reg [⟨(some 50), .bin .lss (.t 49) (.t 48), none⟩] []) <|
  .keep [2, 3, 4, 6, 7, 47, 48, 49, 50] [[2], [3], [4], [46]]) <|
  .seq (.cond (.t 50) (.skip) <|
  .seq (.keep [2, 3, 4, 7] [[2], [3], [4], [46]]) <|
  .exit 0) <|
  .seq (.seq (.blk 1 <|
  .seq (.seq (.reg [⟨(some 51), .mov (.t 49), none⟩,
    ⟨(some 52), .ixa 1 (.t 47) (.t 49), none⟩,
    ⟨(some 53), .load none (.t 52), none⟩,
    ⟨(some 8), .mov (.t 51), none⟩,
    ⟨(some 9), .mov (.t 53), none⟩] []) <|
  .keep [2, 3, 4, 6, 7, 8, 9, 47, 48, 49] [[2], [3], [4], [46]]) <|
  .seq (.seq (.reg [⟨(some 10), .mov (.c (.v (.int .i64 0))), none⟩] []) <|
  .keep [2, 3, 4, 6, 7, 8, 9, 10, 47, 48, 49] [[2], [3], [4], [46]]) <|
  .seq (.seq (.seq (.reg [⟨(some 54), .mov (.t 6), none⟩,
    ⟨(some 55), .len (.t 54), none⟩,
    ⟨(some 56), .mov (.c (.v (.int .i64 0))), none⟩] []) <|
  .keep [2, 3, 4, 6, 7, 8, 9, 10, 47, 48, 49, 54, 55, 56] [[2], [3], [4], [46]]) <|
  .seq (.blk 2 <|
  .seq (.keep [2, 3, 4, 6, 7, 8, 9, 10, 47, 48, 49, 54, 55, 56] [[2], [3], [4], [46]]) <|
  .loop integer_Mul_l0) <|
  .keep [2, 3, 4, 6, 7, 8, 10, 47, 48, 49] [[2], [3], [4], [46]]) <|
  .seq (.reg [⟨(some 85), .mov (.t 7), none⟩,
    ⟨(some 86), .mov (.t 8), none⟩,
    ⟨(some 87), .mov (.t 6), none⟩,
    ⟨(some 88), .len (.t 87), none⟩,
    ⟨(some 89), .bin .add (.t 86) (.t 88), none⟩,
    ⟨(some 90), .mov (.t 10), none⟩,
    ⟨(some 91), .ixa 1 (.t 85) (.t 89), none⟩,
    ⟨none, .store 1 (.t 91) (.t 90), none⟩] []) <|
  .keep [2, 3, 4, 6, 7, 47, 48, 49] [[2], [3], [4], [46]]) <|
  .keep [2, 3, 4, 6, 7, 47, 48, 49] [[2], [3], [4], [46]]) <|
  .seq (.reg [⟨(some 92), .bin .add (.t 49) (.c (.v (.int .i64 1))), none⟩,
    ⟨(some 49), .mov (.t 92), none⟩] []) <|
  .keep [2, 3, 4, 6, 7, 47, 48, 49] [[2], [3], [4], [46]]) <|
  .keep [2, 3, 4, 6, 7, 47, 48, 49] [[2], [3], [4], [46]]
def integer_Mul : CF := ⟨2, .seq (.seq (.reg [⟨(some 2), .box (.t 0), none⟩,
    ⟨(some 3), .box (.t 1), none⟩,
    ⟨(some 4), .new [.v (.bool false), .z true], none⟩] []) <|
  .keep [2, 3, 4] [[2], [3], [4]]) <|
  .seq (.seq (.reg [⟨(some 14), .fad 1 (.t 2), none⟩,
    ⟨(some 15), .load none (.t 14), none⟩,
    ⟨(some 16), .fad 1 (.t 3), none⟩,
    ⟨(some 17), .load none (.t 16), none⟩,
    ⟨(some 5), .mov (.t 15), none⟩,
    ⟨(some 6), .mov (.t 17), none⟩] []) <|
  .keep [2, 3, 4, 5, 6] [[2], [3], [4]]) <|
  .seq (.seq (.seq (.reg [⟨(some 18), .mov (.t 5), none⟩,
    ⟨(some 19), .len (.t 18), none⟩,
    ⟨(some 20), .bin .eql (.t 19) (.c (.v (.int .i64 1))), none⟩,
    ⟨(some 21), .mov (.t 20), none⟩,
    ⟨(some 22), .mov (.t 6), (some (21, true))⟩,
    ⟨(some 23), .len (.t 22), (some (21, true))⟩,
    ⟨(some 24), .bin .eql (.t 23) (.c (.v (.int .i64 1))), (some (21, true))⟩,
    ⟨(some 25), .pick (.t 21) (.t 24) (.c (.v (.bool false))), none⟩] []) <|
  .keep [2, 3, 4, 5, 6, 25] [[2], [3], [4]]) <|
  .cond (.t 25) (.seq (.seq (.reg [⟨(some 26), .fad 0 (.t 2), none⟩,
    ⟨(some 27), .load none (.t 26), none⟩,
    ⟨(some 28), .fad 0 (.t 3), none⟩,
    ⟨(some 29), .load none (.t 28), none⟩,
    ⟨(some 30), .binb true (.t 27) (.t 29), none⟩,
    ⟨(some 31), .mov (.t 5), none⟩,
    ⟨(some 32), .ixa 1 (.t 31) (.c (.v (.int .i64 0))), none⟩,
    ⟨(some 33), .load none (.t 32), none⟩,
    ⟨(some 34), .conv (.int .u64) (.t 33), none⟩,
    ⟨(some 35), .mov (.t 6), none⟩,
    ⟨(some 36), .ixa 1 (.t 35) (.c (.v (.int .i64 0))), none⟩,
    ⟨(some 37), .load none (.t 36), none⟩,
    ⟨(some 38), .conv (.int .u64) (.t 37), none⟩,
    ⟨(some 39), .bin .mul (.t 34) (.t 38), none⟩,
    ⟨(some 40), .call n_integer_unsigned [(.t 30), (.t 39)] false, none⟩,
    ⟨none, .store 2 (.t 4) (.t 40), none⟩] []) <|
  .keep [4] [[4]]) <|
  .ret) <|
  .skip) <|
  .seq (.seq (.reg [⟨(some 41), .mov (.t 5), none⟩,
    ⟨(some 42), .len (.t 41), none⟩,
    ⟨(some 43), .mov (.t 6), none⟩,
    ⟨(some 44), .len (.t 43), none⟩,
    ⟨(some 45), .bin .add (.t 42) (.t 44), none⟩,
    ⟨(some 46), .mksl 1 8 [.v (.int .i64 0)] (.t 45) (.t 45), none⟩,
    ⟨(some 7), .mov (.t 46), none⟩] []) <|
  .keep [2, 3, 4, 5, 6, 7] [[2], [3], [4], [46]]) <|
  .seq (.seq (.seq (.reg [⟨(some 47), .mov (.t 5), none⟩,
    ⟨(some 48), .len (.t 47), none⟩,
    ⟨(some 49), .mov (.c (.v (.int .i64 0))), none⟩] []) <|
  .keep [2, 3, 4, 6, 7, 47, 48, 49] [[2], [3], [4], [46]]) <|
  .seq (.blk 0 <|
  .seq (.keep [2, 3, 4, 6, 7, 47, 48, 49] [[2], [3], [4], [46]]) <|
  .loop integer_Mul_l1) <|
  .keep [2, 3, 4, 7] [[2], [3], [4], [46]]) <|
  .seq (.seq (.frz 7) <|
  .seq (.reg [⟨(some 93), .fad 0 (.t 2), none⟩,
    ⟨(some 94), .load none (.t 93), none⟩,
    ⟨(some 95), .fad 0 (.t 3), none⟩,
    ⟨(some 96), .load none (.t 95), none⟩,
    ⟨(some 97), .binb true (.t 94) (.t 96), none⟩,
    ⟨(some 98), .mov (.t 7), none⟩,
    ⟨(some 99), .call n_integer_of [(.t 97), (.t 98)] false, none⟩,
    ⟨none, .store 2 (.t 4) (.t 99), none⟩] []) <|
  .keep [4] [[4]]) <|
  .ret, [.cell 4 (some 2)]⟩
end Go.AM

