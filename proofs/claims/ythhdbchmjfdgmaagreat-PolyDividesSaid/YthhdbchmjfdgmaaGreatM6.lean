/- Part 6 of the proof: a small machine, its soundness against the model, and what the program's functions compute on it. -/
import Derived.Test.YthhdbchmjfdgmaaGreatM5
import Derived.Test.YthhdbchmjfdgmaaGreatProg
import Derived.KernelRfl
import Derived.Test.YthhdbchmjfdgmaaGreatM3
import Derived.Test.YthhdbchmjfdgmaaGreatM0
import Derived.RowKit
set_option linter.unusedVariables false
set_option linter.unusedSimpArgs false
set_option maxRecDepth 100000
namespace Go.AM
open Go Go.Proofs


/- 127: gantry/gantryref04.divided -/
def gantryref04_divided_l0 : C :=
  .seq (.seq (.seq (.seq (.reg [⟨(some 64), .mov (.t 12), none⟩,
    ⟨(some 65), .mov (.t 13), none⟩,
    ⟨(some 66), .bin .lss (.t 64) (.t 65), none⟩] []) <|
  .keep [0, 1, 8, 9, 10, 12, 13, 66] [[42]]) <|
  .cond (.t 66) (.skip) <|
  .seq (.keep [0, 1, 8, 9, 10, 12] [[42]]) <|
  .exit 2) <|
  .seq (.blk 3 <|
  .seq (.seq (.reg [⟨(some 67), .mov (.t 12), none⟩,
    ⟨(some 68), .mov (.t 13), none⟩,
    ⟨(some 69), .bin .add (.t 67) (.t 68), none⟩,
    ⟨(some 70), .bin .add (.t 69) (.c (.v (.int .i64 1))), none⟩,
    ⟨(some 71), .bin .quo (.t 70) (.c (.v (.int .i64 2))), none⟩,
    ⟨(some 14), .mov (.t 71), none⟩] []) <|
  .keep [0, 1, 8, 9, 10, 12, 13, 14] [[42]]) <|
  .seq (.seq (.reg [⟨(some 72), .mov (.t 1), none⟩,
    ⟨(some 73), .mov (.t 14), none⟩,
    ⟨(some 74), .call n_gantryref04_times [(.t 72), (.t 73)] false, none⟩,
    ⟨(some 75), .mov (.t 9), none⟩,
    ⟨(some 76), .call n_gantryref04_compared [(.t 74), (.t 75)] false, none⟩,
    ⟨(some 77), .bin .leq (.t 76) (.c (.v (.int .i64 0))), none⟩] []) <|
  .keep [0, 1, 8, 9, 10, 12, 13, 14, 77] [[42]]) <|
  .cond (.t 77) (.seq (.reg [⟨(some 78), .mov (.t 14), none⟩,
    ⟨(some 12), .mov (.t 78), none⟩] []) <|
  .keep [0, 1, 8, 9, 10, 12, 13] [[42]]) <|
  .seq (.reg [⟨(some 79), .mov (.t 14), none⟩,
    ⟨(some 80), .bin .sub (.t 79) (.c (.v (.int .i64 1))), none⟩,
    ⟨(some 13), .mov (.t 80), none⟩] []) <|
  .keep [0, 1, 8, 9, 10, 12, 13] [[42]]) <|
  .keep [0, 1, 8, 9, 10, 12, 13] [[42]]) <|
  .keep [0, 1, 8, 9, 10, 12, 13] [[42]]
def gantryref04_divided_l1 : C :=
  .seq (.seq (.seq (.seq (.reg [⟨(some 46), .mov (.t 10), none⟩,
    ⟨(some 47), .bin .geq (.t 46) (.c (.v (.int .i64 0))), none⟩] []) <|
  .keep [0, 1, 8, 9, 10, 47] [[42]]) <|
  .cond (.t 47) (.skip) <|
  .seq (.keep [8, 9] [[42]]) <|
  .exit 0) <|
  .seq (.seq (.blk 1 <|
  .seq (.seq (.reg [⟨(some 50), .mov (.t 0), none⟩,
    ⟨(some 51), .mov (.t 10), none⟩,
    ⟨(some 52), .ixa 1 (.t 50) (.t 51), none⟩,
    ⟨(some 53), .load none (.t 52), none⟩,
    ⟨(some 54), .lit 1 1 [.v (.int .i64 0)] [(0, (.t 53))] false, none⟩,
    ⟨(some 55), .mov (.t 9), none⟩,
    ⟨(some 56), .app 1 8 (.t 54) (.t 55) true, none⟩,
    ⟨(some 57), .call n_gantryref04_normal [(.c (.v (.bool false))), (.t 56)] false, none⟩,
    ⟨(some 11), .new [.v (.bool false), .z true], none⟩,
    ⟨none, .store 2 (.t 11) (.t 57), none⟩] []) <|
  .keep [0, 1, 8, 10, 11] [[11], [42]]) <|
  .seq (.seq (.reg [⟨(some 58), .fad 1 (.t 11), none⟩,
    ⟨(some 59), .load none (.t 58), none⟩,
    ⟨(some 9), .mov (.t 59), none⟩] []) <|
  .keep [0, 1, 8, 9, 10] [[42]]) <|
  .seq (.seq (.reg [⟨(some 12), .mov (.c (.v (.int .i64 0))), none⟩] []) <|
  .keep [0, 1, 8, 9, 10, 12] [[42]]) <|
  .seq (.seq (.reg [⟨(some 13), .mov (.c (.v (.int .i64 999999999))), none⟩] []) <|
  .keep [0, 1, 8, 9, 10, 12, 13] [[42]]) <|
  .seq (.seq (.seq (.reg [⟨(some 60), .mov (.t 9), none⟩,
    ⟨(some 61), .mov (.t 1), none⟩,
    ⟨(some 62), .call n_gantryref04_compared [(.t 60), (.t 61)] false, none⟩,
    ⟨(some 63), .bin .lss (.t 62) (.c (.v (.int .i64 0))), none⟩] []) <|
  .keep [0, 1, 8, 9, 10, 12, 13, 63] [[42]]) <|
  .cond (.t 63) (.seq (.reg [⟨(some 13), .mov (.c (.v (.int .i64 0))), none⟩] []) <|
  .keep [0, 1, 8, 9, 10, 12, 13] [[42]]) <|
  .skip) <|
  .seq (.seq (.blk 2 <|
  .seq (.keep [0, 1, 8, 9, 10, 12, 13] [[42]]) <|
  .loop gantryref04_divided_l0) <|
  .keep [0, 1, 8, 9, 10, 12] [[42]]) <|
  .seq (.seq (.reg [⟨(some 81), .mov (.t 9), none⟩,
    ⟨(some 82), .mov (.t 1), none⟩,
    ⟨(some 83), .mov (.t 12), none⟩,
    ⟨(some 84), .call n_gantryref04_times [(.t 82), (.t 83)] false, none⟩,
    ⟨(some 85), .call n_gantryref04_minus [(.t 81), (.t 84)] false, none⟩,
    ⟨(some 86), .call n_gantryref04_normal [(.c (.v (.bool false))), (.t 85)] false, none⟩,
    ⟨(some 15), .new [.v (.bool false), .z true], none⟩,
    ⟨none, .store 2 (.t 15) (.t 86), none⟩] []) <|
  .keep [0, 1, 8, 10, 12, 15] [[15], [42]]) <|
  .seq (.seq (.reg [⟨(some 87), .mov (.t 8), none⟩,
    ⟨(some 88), .mov (.t 10), none⟩,
    ⟨(some 89), .mov (.t 12), none⟩,
    ⟨(some 90), .ixa 1 (.t 87) (.t 88), none⟩,
    ⟨none, .store 1 (.t 90) (.t 89), none⟩] []) <|
  .keep [0, 1, 8, 10, 15] [[15], [42]]) <|
  .seq (.reg [⟨(some 91), .fad 1 (.t 15), none⟩,
    ⟨(some 92), .load none (.t 91), none⟩,
    ⟨(some 9), .mov (.t 92), none⟩] []) <|
  .keep [0, 1, 8, 9, 10] [[42]]) <|
  .keep [0, 1, 8, 9, 10] [[42]]) <|
  .seq (.reg [⟨(some 48), .mov (.t 10), none⟩,
    ⟨(some 49), .bin .sub (.t 48) (.c (.v (.int .i64 1))), none⟩,
    ⟨(some 10), .mov (.t 49), none⟩] []) <|
  .keep [0, 1, 8, 9, 10] [[42]]) <|
  .keep [0, 1, 8, 9, 10] [[42]]
def gantryref04_divided : CF := ⟨2, .seq (.seq (.reg [⟨(some 4), .mov (.c (.z true)), none⟩,
    ⟨(some 5), .mov (.c (.z true)), none⟩] []) <|
  .keep [0, 1] []) <|
  .seq (.seq (.seq (.reg [⟨(some 16), .mov (.t 0), none⟩,
    ⟨(some 17), .len (.t 16), none⟩,
    ⟨(some 18), .bin .leq (.t 17) (.c (.v (.int .i64 2))), none⟩,
    ⟨(some 19), .mov (.t 18), none⟩,
    ⟨(some 20), .mov (.t 1), (some (19, true))⟩,
    ⟨(some 21), .len (.t 20), (some (19, true))⟩,
    ⟨(some 22), .bin .leq (.t 21) (.c (.v (.int .i64 2))), (some (19, true))⟩,
    ⟨(some 23), .pick (.t 19) (.t 22) (.c (.v (.bool false))), none⟩] []) <|
  .keep [0, 1, 23] []) <|
  .cond (.t 23) (.seq (.seq (.reg [⟨(some 24), .mov (.t 0), none⟩,
    ⟨(some 25), .call n_gantryref04_tiny [(.t 24)] false, none⟩,
    ⟨(some 26), .mov (.t 1), none⟩,
    ⟨(some 27), .call n_gantryref04_tiny [(.t 26)] false, none⟩,
    ⟨(some 28), .bin .quo (.t 25) (.t 27), none⟩,
    ⟨(some 29), .call n_gantryref04_Of [(.t 28)] false, none⟩,
    ⟨(some 6), .new [.v (.bool false), .z true], none⟩,
    ⟨none, .store 2 (.t 6) (.t 29), none⟩] []) <|
  .keep [0, 1, 6] [[6]]) <|
  .seq (.seq (.reg [⟨(some 30), .mov (.t 0), none⟩,
    ⟨(some 31), .call n_gantryref04_tiny [(.t 30)] false, none⟩,
    ⟨(some 32), .mov (.t 1), none⟩,
    ⟨(some 33), .call n_gantryref04_tiny [(.t 32)] false, none⟩,
    ⟨(some 34), .bin .rem (.t 31) (.t 33), none⟩,
    ⟨(some 35), .call n_gantryref04_Of [(.t 34)] false, none⟩,
    ⟨(some 7), .new [.v (.bool false), .z true], none⟩,
    ⟨none, .store 2 (.t 7) (.t 35), none⟩] []) <|
  .keep [6, 7] [[6], [7]]) <|
  .seq (.seq (.reg [⟨(some 36), .fad 1 (.t 6), none⟩,
    ⟨(some 37), .load none (.t 36), none⟩,
    ⟨(some 38), .fad 1 (.t 7), none⟩,
    ⟨(some 39), .load none (.t 38), none⟩,
    ⟨(some 4), .mov (.t 37), none⟩,
    ⟨(some 5), .mov (.t 39), none⟩] []) <|
  .keep [4, 5] [[42]]) <|
  .ret) <|
  .skip) <|
  .seq (.seq (.reg [⟨(some 40), .mov (.t 0), none⟩,
    ⟨(some 41), .len (.t 40), none⟩,
    ⟨(some 42), .mksl 1 8 [.v (.int .i64 0)] (.t 41) (.t 41), none⟩,
    ⟨(some 8), .mov (.t 42), none⟩] []) <|
  .keep [0, 1, 8] [[42]]) <|
  .seq (.seq (.reg [⟨(some 9), .mov (.c (.z true)), none⟩] []) <|
  .keep [0, 1, 8, 9] [[42]]) <|
  .seq (.seq (.seq (.reg [⟨(some 43), .mov (.t 0), none⟩,
    ⟨(some 44), .len (.t 43), none⟩,
    ⟨(some 45), .bin .sub (.t 44) (.c (.v (.int .i64 1))), none⟩,
    ⟨(some 10), .mov (.t 45), none⟩] []) <|
  .keep [0, 1, 8, 9, 10] [[42]]) <|
  .seq (.blk 0 <|
  .seq (.keep [0, 1, 8, 9, 10] [[42]]) <|
  .loop gantryref04_divided_l1) <|
  .keep [8, 9] [[42]]) <|
  .seq (.seq (.reg [⟨(some 93), .mov (.t 8), none⟩,
    ⟨(some 94), .mov (.t 9), none⟩,
    ⟨(some 4), .mov (.t 93), none⟩,
    ⟨(some 5), .mov (.t 94), none⟩] []) <|
  .keep [4, 5] [[42]]) <|
  .ret, [.t 4, .t 5]⟩

/- 128: cmp.Compare[int] -/
def cmp_Compare_int : CF := ⟨2, .seq (.seq (.reg [⟨(some 4), .mov (.c (.v (.int .i64 0))), none⟩] []) <|
  .keep [0, 1] []) <|
  .seq (.seq (.reg [⟨(some 7), .mov (.t 0), none⟩,
    ⟨(some 8), .call n_cmp_isNaN_int [(.t 7)] false, none⟩,
    ⟨(some 5), .mov (.t 8), none⟩] []) <|
  .keep [0, 1, 5] []) <|
  .seq (.seq (.reg [⟨(some 9), .mov (.t 1), none⟩,
    ⟨(some 10), .call n_cmp_isNaN_int [(.t 9)] false, none⟩,
    ⟨(some 6), .mov (.t 10), none⟩] []) <|
  .keep [0, 1, 5, 6] []) <|
  .seq (.seq (.seq (.reg [⟨(some 11), .mov (.t 5), none⟩] []) <|
  .keep [0, 1, 6, 11] []) <|
  .cond (.t 11) (.seq (.seq (.seq (.reg [⟨(some 12), .mov (.t 6), none⟩] []) <|
  .keep [12] []) <|
  .cond (.t 12) (.seq (.seq (.reg [⟨(some 4), .mov (.c (.v (.int .i64 0))), none⟩] []) <|
  .keep [4] []) <|
  .ret) <|
  .skip) <|
  .seq (.seq (.reg [⟨(some 4), .mov (.c (.v (.int .i64 (-1)))), none⟩] []) <|
  .keep [4] []) <|
  .ret) <|
  .skip) <|
  .seq (.seq (.seq (.reg [⟨(some 13), .mov (.t 6), none⟩] []) <|
  .keep [0, 1, 13] []) <|
  .cond (.t 13) (.seq (.seq (.reg [⟨(some 4), .mov (.c (.v (.int .i64 1))), none⟩] []) <|
  .keep [4] []) <|
  .ret) <|
  .skip) <|
  .seq (.seq (.seq (.reg [⟨(some 14), .mov (.t 0), none⟩,
    ⟨(some 15), .mov (.t 1), none⟩,
    ⟨(some 16), .bin .lss (.t 14) (.t 15), none⟩] []) <|
  .keep [0, 1, 16] []) <|
  .cond (.t 16) (.seq (.seq (.reg [⟨(some 4), .mov (.c (.v (.int .i64 (-1)))), none⟩] []) <|
  .keep [4] []) <|
  .ret) <|
  .skip) <|
  .seq (.seq (.seq (.reg [⟨(some 17), .mov (.t 0), none⟩,
    ⟨(some 18), .mov (.t 1), none⟩,
    ⟨(some 19), .bin .gtr (.t 17) (.t 18), none⟩] []) <|
  .keep [19] []) <|
  .cond (.t 19) (.seq (.seq (.reg [⟨(some 4), .mov (.c (.v (.int .i64 1))), none⟩] []) <|
  .keep [4] []) <|
  .ret) <|
  .skip) <|
  .seq (.seq (.reg [⟨(some 4), .mov (.c (.v (.int .i64 0))), none⟩] []) <|
  .keep [4] []) <|
  .ret, [.t 4]⟩

/- 129: gantry/integer.two -/
def integer_two : CF := ⟨1, .seq (.seq (.reg [⟨(some 2), .mov (.c (.v (.int .i64 0))), none⟩,
    ⟨(some 3), .mov (.c (.v (.bool false))), none⟩] []) <|
  .keep [0] []) <|
  .seq (.seq (.seq (.reg [⟨(some 4), .mov (.t 0), none⟩,
    ⟨(some 5), .len (.t 4), none⟩] []) <|
  .keep [0, 5] []) <|
  .seq (.blk 0 <|
  .seq (.seq (.reg [⟨(some 7), .bin .eql (.t 5) (.c (.v (.int .i64 0))), none⟩,
    ⟨(some 6), .mov (.t 7), none⟩] []) <|
  .keep [0, 5, 6] []) <|
  .cond (.t 6) (.seq (.seq (.reg [⟨(some 2), .mov (.c (.v (.int .i64 0))), none⟩,
    ⟨(some 3), .mov (.c (.v (.bool true))), none⟩] []) <|
  .keep [2, 3] []) <|
  .ret) <|
  .seq (.seq (.reg [⟨(some 9), .bin .eql (.t 5) (.c (.v (.int .i64 1))), none⟩,
    ⟨(some 8), .mov (.t 9), none⟩] []) <|
  .keep [0, 5, 8] []) <|
  .cond (.t 8) (.seq (.seq (.reg [⟨(some 10), .mov (.t 0), none⟩,
    ⟨(some 11), .ixa 1 (.t 10) (.c (.v (.int .i64 0))), none⟩,
    ⟨(some 12), .load none (.t 11), none⟩,
    ⟨(some 2), .mov (.t 12), none⟩,
    ⟨(some 3), .mov (.c (.v (.bool true))), none⟩] []) <|
  .keep [2, 3] []) <|
  .ret) <|
  .seq (.seq (.reg [⟨(some 14), .bin .eql (.t 5) (.c (.v (.int .i64 2))), none⟩,
    ⟨(some 13), .mov (.t 14), none⟩] []) <|
  .keep [0, 13] []) <|
  .cond (.t 13) (.seq (.seq (.reg [⟨(some 15), .mov (.t 0), none⟩,
    ⟨(some 16), .ixa 1 (.t 15) (.c (.v (.int .i64 1))), none⟩,
    ⟨(some 17), .load none (.t 16), none⟩,
    ⟨(some 18), .bin .mul (.t 17) (.c (.v (.int .i64 1000000000))), none⟩,
    ⟨(some 19), .mov (.t 0), none⟩,
    ⟨(some 20), .ixa 1 (.t 19) (.c (.v (.int .i64 0))), none⟩,
    ⟨(some 21), .load none (.t 20), none⟩,
    ⟨(some 22), .bin .add (.t 18) (.t 21), none⟩,
    ⟨(some 2), .mov (.t 22), none⟩,
    ⟨(some 3), .mov (.c (.v (.bool true))), none⟩] []) <|
  .keep [2, 3] []) <|
  .ret) <|
  .skip) <|
  .keep [] []) <|
  .seq (.seq (.reg [⟨(some 2), .mov (.c (.v (.int .i64 0))), none⟩,
    ⟨(some 3), .mov (.c (.v (.bool false))), none⟩] []) <|
  .keep [2, 3] []) <|
  .ret, [.t 2, .t 3]⟩

/- 130: gantry/integer.divide -/
def integer_divide : CF := ⟨2, .seq (.seq (.reg [⟨(some 4), .new [.v (.bool false), .z true], none⟩,
    ⟨(some 5), .new [.v (.bool false), .z true], none⟩] []) <|
  .keep [0, 1, 4, 5] [[4], [5]]) <|
  .seq (.seq (.seq (.reg [⟨(some 15), .mov (.t 0), none⟩,
    ⟨(some 16), .call n_integer_two [(.t 15)] false, none⟩,
    ⟨(some 14), .mov (.t 16), none⟩,
    ⟨(some 17), .ext (.t 14) 0, none⟩,
    ⟨(some 18), .ext (.t 14) 1, none⟩,
    ⟨(some 6), .mov (.t 17), none⟩,
    ⟨(some 7), .mov (.t 18), none⟩] []) <|
  .keep [0, 1, 4, 5, 6, 7] [[4], [5]]) <|
  .seq (.seq (.reg [⟨(some 19), .mov (.t 7), none⟩] []) <|
  .keep [0, 1, 4, 5, 6, 19] [[4], [5]]) <|
  .cond (.t 19) (.seq (.seq (.reg [⟨(some 21), .mov (.t 1), none⟩,
    ⟨(some 22), .call n_integer_two [(.t 21)] false, none⟩,
    ⟨(some 20), .mov (.t 22), none⟩,
    ⟨(some 23), .ext (.t 20) 0, none⟩,
    ⟨(some 24), .ext (.t 20) 1, none⟩,
    ⟨(some 8), .mov (.t 23), none⟩,
    ⟨(some 9), .mov (.t 24), none⟩] []) <|
  .keep [0, 1, 4, 5, 6, 8, 9] [[4], [5]]) <|
  .seq (.seq (.reg [⟨(some 25), .mov (.t 9), none⟩] []) <|
  .keep [0, 1, 4, 5, 6, 8, 25] [[4], [5]]) <|
  .cond (.t 25) (.seq (.seq (.reg [⟨(some 26), .mov (.t 6), none⟩,
    ⟨(some 27), .mov (.t 8), none⟩,
    ⟨(some 28), .bin .quo (.t 26) (.t 27), none⟩,
    ⟨(some 29), .conv (.int .u64) (.t 28), none⟩,
    ⟨(some 30), .call n_integer_unsigned [(.c (.v (.bool false))), (.t 29)] false, none⟩,
    ⟨(some 31), .mov (.t 6), none⟩,
    ⟨(some 32), .mov (.t 8), none⟩,
    ⟨(some 33), .bin .rem (.t 31) (.t 32), none⟩,
    ⟨(some 34), .conv (.int .u64) (.t 33), none⟩,
    ⟨(some 35), .call n_integer_unsigned [(.c (.v (.bool false))), (.t 34)] false, none⟩,
    ⟨none, .store 2 (.t 4) (.t 30), none⟩,
    ⟨none, .store 2 (.t 5) (.t 35), none⟩] []) <|
  .keep [4, 5] [[4], [5]]) <|
  .ret) <|
  .skip) <|
  .skip) <|
  .seq (.seq (.seq (.reg [⟨(some 36), .mov (.t 0), none⟩,
    ⟨(some 37), .mov (.t 1), none⟩,
    ⟨(some 38), .call n_integer_compare [(.t 36), (.t 37)] false, none⟩,
    ⟨(some 39), .bin .lss (.t 38) (.c (.v (.int .i64 0))), none⟩] []) <|
  .keep [0, 1, 4, 5, 39] [[4], [5]]) <|
  .cond (.t 39) (.seq (.seq (.reg [⟨(some 40), .build [.v (.bool false), .z true] [], none⟩,
    ⟨(some 41), .mov (.t 0), none⟩,
    ⟨(some 42), .call n_integer_of [(.c (.v (.bool false))), (.t 41)] false, none⟩,
    ⟨none, .store 2 (.t 4) (.t 40), none⟩,
    ⟨none, .store 2 (.t 5) (.t 42), none⟩] []) <|
  .keep [4, 5] [[4], [5]]) <|
  .ret) <|
  .skip) <|
  .seq (.seq (.seq (.reg [⟨(some 43), .mov (.t 1), none⟩,
    ⟨(some 44), .len (.t 43), none⟩,
    ⟨(some 45), .bin .eql (.t 44) (.c (.v (.int .i64 1))), none⟩] []) <|
  .keep [0, 1, 4, 5, 45] [[4], [5]]) <|
  .cond (.t 45) (.seq (.seq (.reg [⟨(some 47), .mov (.t 0), none⟩,
    ⟨(some 48), .mov (.t 1), none⟩,
    ⟨(some 49), .ixa 1 (.t 48) (.c (.v (.int .i64 0))), none⟩,
    ⟨(some 50), .load none (.t 49), none⟩,
    ⟨(some 51), .call n_integer_short [(.t 47), (.t 50)] false, none⟩,
    ⟨(some 46), .mov (.t 51), none⟩,
    ⟨(some 52), .ext (.t 46) 0, none⟩,
    ⟨(some 53), .ext (.t 46) 1, none⟩,
    ⟨(some 10), .mov (.t 52), none⟩,
    ⟨(some 11), .mov (.t 53), none⟩] []) <|
  .keep [4, 5, 10, 11] [[4], [5]]) <|
  .seq (.seq (.reg [⟨(some 54), .mov (.t 10), none⟩,
    ⟨(some 55), .call n_integer_of [(.c (.v (.bool false))), (.t 54)] false, none⟩,
    ⟨(some 56), .mov (.t 11), none⟩,
    ⟨(some 57), .conv (.int .u64) (.t 56), none⟩,
    ⟨(some 58), .call n_integer_unsigned [(.c (.v (.bool false))), (.t 57)] false, none⟩,
    ⟨none, .store 2 (.t 4) (.t 55), none⟩,
    ⟨none, .store 2 (.t 5) (.t 58), none⟩] []) <|
  .keep [4, 5] [[4], [5]]) <|
  .ret) <|
  .skip) <|
  .seq (.seq (.reg [⟨(some 60), .mov (.t 0), none⟩,
    ⟨(some 61), .mov (.t 1), none⟩,
    ⟨(some 62), .call n_integer_long [(.t 60), (.t 61)] false, none⟩,
    ⟨(some 59), .mov (.t 62), none⟩,
    ⟨(some 63), .ext (.t 59) 0, none⟩,
    ⟨(some 64), .ext (.t 59) 1, none⟩,
    ⟨(some 12), .mov (.t 63), none⟩,
    ⟨(some 13), .mov (.t 64), none⟩] []) <|
  .keep [4, 5, 12, 13] [[4], [5]]) <|
  .seq (.seq (.reg [⟨(some 65), .mov (.t 12), none⟩,
    ⟨(some 66), .call n_integer_of [(.c (.v (.bool false))), (.t 65)] false, none⟩,
    ⟨(some 67), .mov (.t 13), none⟩,
    ⟨(some 68), .call n_integer_of [(.c (.v (.bool false))), (.t 67)] false, none⟩,
    ⟨none, .store 2 (.t 4) (.t 66), none⟩,
    ⟨none, .store 2 (.t 5) (.t 68), none⟩] []) <|
  .keep [4, 5] [[4], [5]]) <|
  .ret, [.cell 4 (some 2), .cell 5 (some 2)]⟩

/- 132: gantry/wire.Ints -/
def wire_Ints_l0 : C :=
  .seq (.seq (.seq (.reg [⟨(some 12), .bin .lss (.t 11) (.t 10), none⟩] []) <|
  .keep [3, 9, 10, 11, 12] [[8], [18]]) <|
  .seq (.cond (.t 12) (.skip) <|
  .seq (.keep [3] [[8], [18]]) <|
  .exit 0) <|
  .seq (.seq (.blk 1 <|
  .seq (.seq (.reg [⟨(some 13), .ixa 1 (.t 9) (.t 11), none⟩,
    ⟨(some 14), .load none (.t 13), none⟩,
    ⟨(some 5), .mov (.t 14), none⟩] []) <|
  .keep [3, 5, 9, 10, 11] [[8], [18]]) <|
  .seq (.reg [⟨(some 15), .mov (.t 3), none⟩,
    ⟨(some 16), .mov (.t 5), none⟩,
    ⟨(some 17), .call n_wire_Int [(.t 16)] false, none⟩,
    ⟨(some 18), .app 1 1 (.t 15) (.t 17) false, none⟩,
    ⟨(some 3), .mov (.t 18), none⟩] []) <|
  .keep [3, 9, 10, 11] [[8], [18]]) <|
  .keep [3, 9, 10, 11] [[8], [18]]) <|
  .seq (.reg [⟨(some 19), .bin .add (.t 11) (.c (.v (.int .i64 1))), none⟩,
    ⟨(some 11), .mov (.t 19), none⟩] []) <|
  .keep [3, 9, 10, 11] [[8], [18]]) <|
  .keep [3, 9, 10, 11] [[8], [18]]
def wire_Ints : CF := ⟨1, .seq (.seq (.reg [⟨(some 2), .mov (.c (.z true)), none⟩] []) <|
  .keep [0] []) <|
  .seq (.seq (.reg [⟨(some 6), .mov (.t 0), none⟩,
    ⟨(some 7), .len (.t 6), none⟩,
    ⟨(some 8), .call n_wire_Int [(.t 7)] true, none⟩,
    ⟨(some 3), .mov (.t 8), none⟩] []) <|
  .keep [0, 3] [[8], [18]]) <|
  .seq (.seq (.seq (.reg [⟨(some 9), .mov (.t 0), none⟩,
    ⟨(some 10), .len (.t 9), none⟩,
    ⟨(some 11), .mov (.c (.v (.int .i64 0))), none⟩] []) <|
  .keep [3, 9, 10, 11] [[8], [18]]) <|
  .seq (.blk 0 <|
  .seq (.keep [3, 9, 10, 11] [[8], [18]]) <|
  .loop wire_Ints_l0) <|
  .keep [3] [[8], [18]]) <|
  .seq (.seq (.reg [⟨(some 20), .mov (.t 3), none⟩,
    ⟨(some 2), .mov (.t 20), none⟩] []) <|
  .keep [2] [[8], [18]]) <|
  .ret, [.t 2]⟩

/- 133: gantry/gantryref01.Ints -/
def gantryref01_Ints_l0 : C :=
  .seq (.seq (.seq (.seq (.reg [⟨(some 8), .mov (.t 4), none⟩,
    ⟨(some 9), .mov (.t 0), none⟩,
    ⟨(some 10), .len (.t 9), none⟩,
    ⟨(some 11), .bin .lss (.t 8) (.t 10), none⟩] []) <|
  .keep [0, 3, 4, 11] [[7], [20]]) <|
  .cond (.t 11) (.skip) <|
  .seq (.keep [3] [[7], [20]]) <|
  .exit 0) <|
  .seq (.seq (.blk 1 <|
  .seq (.reg [⟨(some 14), .mov (.t 3), none⟩,
    ⟨(some 15), .mov (.t 0), none⟩,
    ⟨(some 16), .mov (.t 4), none⟩,
    ⟨(some 17), .ixa 1 (.t 15) (.t 16), none⟩,
    ⟨(some 18), .load none (.t 17), none⟩,
    ⟨(some 19), .call n_gantryref01_Int [(.t 18)] false, none⟩,
    ⟨(some 20), .app 1 1 (.t 14) (.t 19) false, none⟩,
    ⟨(some 3), .mov (.t 20), none⟩] []) <|
  .keep [0, 3, 4] [[7], [20]]) <|
  .keep [0, 3, 4] [[7], [20]]) <|
  .seq (.reg [⟨(some 12), .mov (.t 4), none⟩,
    ⟨(some 13), .bin .add (.t 12) (.c (.v (.int .i64 1))), none⟩,
    ⟨(some 4), .mov (.t 13), none⟩] []) <|
  .keep [0, 3, 4] [[7], [20]]) <|
  .keep [0, 3, 4] [[7], [20]]
def gantryref01_Ints : CF := ⟨1, .seq (.seq (.reg [⟨(some 2), .mov (.c (.z true)), none⟩] []) <|
  .keep [0] []) <|
  .seq (.seq (.reg [⟨(some 5), .mov (.t 0), none⟩,
    ⟨(some 6), .len (.t 5), none⟩,
    ⟨(some 7), .call n_gantryref01_Int [(.t 6)] true, none⟩,
    ⟨(some 3), .mov (.t 7), none⟩] []) <|
  .keep [0, 3] [[7], [20]]) <|
  .seq (.seq (.seq (.reg [⟨(some 4), .mov (.c (.v (.int .i64 0))), none⟩] []) <|
  .keep [0, 3, 4] [[7], [20]]) <|
  .seq (.blk 0 <|
  .seq (.keep [0, 3, 4] [[7], [20]]) <|
  .loop gantryref01_Ints_l0) <|
  .keep [3] [[7], [20]]) <|
  .seq (.seq (.reg [⟨(some 21), .mov (.t 3), none⟩,
    ⟨(some 2), .mov (.t 21), none⟩] []) <|
  .keep [2] [[7], [20]]) <|
  .ret, [.t 2]⟩

/- 134: gantry/wire.GetInts -/
def wire_GetInts_l0 : C :=
  .seq (.seq (.seq (.reg [⟨(some 27), .bin .lss (.t 26) (.t 25), none⟩] []) <|
  .keep [6, 8, 9, 25, 26, 27] [[40]]) <|
  .seq (.cond (.t 27) (.skip) <|
  .seq (.keep [6, 9] [[40]]) <|
  .exit 0) <|
  .seq (.seq (.blk 1 <|
  .seq (.seq (.reg [⟨(some 29), .mov (.t 8), none⟩,
    ⟨(some 30), .calv (.t 29) [], none⟩,
    ⟨(some 28), .mov (.t 30), none⟩,
    ⟨(some 31), .ext (.t 28) 0, none⟩,
    ⟨(some 32), .ext (.t 28) 1, none⟩,
    ⟨(some 33), .ext (.t 28) 2, none⟩,
    ⟨(some 10), .mov (.t 31), none⟩,
    ⟨(some 11), .mov (.t 32), none⟩,
    ⟨(some 12), .mov (.t 33), none⟩] []) <|
  .keep [8, 9, 10, 11, 12, 25, 26] [[40]]) <|
  .seq (.seq (.seq (.reg [⟨(some 34), .mov (.t 12), none⟩,
    ⟨(some 35), .bin .neq (.t 34) (.c (.v (.int .i64 0))), none⟩] []) <|
  .keep [8, 9, 10, 11, 12, 25, 26, 35] [[40]]) <|
  .cond (.t 35) (.seq (.seq (.reg [⟨(some 36), .mov (.t 12), none⟩,
    ⟨(some 2), .mov (.c (.z true)), none⟩,
    ⟨(some 3), .mov (.c (.v (.int .i64 0))), none⟩,
    ⟨(some 4), .mov (.t 36), none⟩] []) <|
  .keep [2, 3, 4] [[40]]) <|
  .ret) <|
  .skip) <|
  .seq (.reg [⟨(some 37), .mov (.t 9), none⟩,
    ⟨(some 38), .mov (.t 10), none⟩,
    ⟨(some 39), .lit 1 1 [.v (.int .i64 0)] [(0, (.t 38))] true, none⟩,
    ⟨(some 40), .app 1 8 (.t 37) (.t 39) false, none⟩,
    ⟨(some 41), .mov (.t 11), none⟩,
    ⟨(some 9), .mov (.t 40), none⟩,
    ⟨(some 6), .mov (.t 41), none⟩] []) <|
  .keep [6, 8, 9, 25, 26] [[40]]) <|
  .keep [6, 8, 9, 25, 26] [[40]]) <|
  .seq (.reg [⟨(some 42), .bin .add (.t 26) (.c (.v (.int .i64 1))), none⟩,
    ⟨(some 26), .mov (.t 42), none⟩] []) <|
  .keep [6, 8, 9, 25, 26] [[40]]) <|
  .keep [6, 8, 9, 25, 26] [[40]]
def wire_GetInts : CF := ⟨1, .seq (.seq (.reg [⟨(some 2), .mov (.c (.z true)), none⟩,
    ⟨(some 3), .mov (.c (.v (.int .i64 0))), none⟩,
    ⟨(some 4), .mov (.c (.v (.int .i64 0))), none⟩] []) <|
  .keep [0] []) <|
  .seq (.seq (.reg [⟨(some 14), .mov (.t 0), none⟩,
    ⟨(some 15), .call n_wire_count [(.t 14), (.c (.v (.int .i64 1)))] false, none⟩,
    ⟨(some 13), .mov (.t 15), none⟩,
    ⟨(some 16), .ext (.t 13) 0, none⟩,
    ⟨(some 17), .ext (.t 13) 1, none⟩,
    ⟨(some 18), .ext (.t 13) 2, none⟩,
    ⟨(some 5), .mov (.t 16), none⟩,
    ⟨(some 6), .mov (.t 17), none⟩,
    ⟨(some 7), .mov (.t 18), none⟩] []) <|
  .keep [0, 5, 6, 7] []) <|
  .seq (.seq (.seq (.reg [⟨(some 19), .mov (.t 7), none⟩,
    ⟨(some 20), .bin .neq (.t 19) (.c (.v (.int .i64 0))), none⟩] []) <|
  .keep [0, 5, 6, 7, 20] []) <|
  .cond (.t 20) (.seq (.seq (.reg [⟨(some 21), .mov (.t 7), none⟩,
    ⟨(some 2), .mov (.c (.z true)), none⟩,
    ⟨(some 3), .mov (.c (.v (.int .i64 0))), none⟩,
    ⟨(some 4), .mov (.t 21), none⟩] []) <|
  .keep [2, 3, 4] [[40]]) <|
  .ret) <|
  .skip) <|
  .seq (.seq (.reg [⟨(some 22), .mov (.t 0), none⟩,
    ⟨(some 23), .mov (.t 6), none⟩,
    ⟨(some 24), .call n_wire_reader [(.t 22), (.t 23)] false, none⟩,
    ⟨(some 8), .mov (.t 24), none⟩] []) <|
  .keep [5, 6, 8] []) <|
  .seq (.seq (.reg [⟨(some 9), .mov (.c (.z true)), none⟩] []) <|
  .keep [5, 6, 8, 9] [[40]]) <|
  .seq (.seq (.seq (.reg [⟨(some 25), .mov (.t 5), none⟩,
    ⟨(some 26), .mov (.c (.v (.int .i64 0))), none⟩] []) <|
  .keep [6, 8, 9, 25, 26] [[40]]) <|
  .seq (.blk 0 <|
  .seq (.keep [6, 8, 9, 25, 26] [[40]]) <|
  .loop wire_GetInts_l0) <|
  .keep [6, 9] [[40]]) <|
  .seq (.seq (.reg [⟨(some 43), .mov (.t 9), none⟩,
    ⟨(some 44), .mov (.t 6), none⟩,
    ⟨(some 2), .mov (.t 43), none⟩,
    ⟨(some 3), .mov (.t 44), none⟩,
    ⟨(some 4), .mov (.c (.v (.int .i64 0))), none⟩] []) <|
  .keep [2, 3, 4] [[40]]) <|
  .ret, [.t 2, .t 3, .t 4]⟩

/- 135: slices.Clone[[]int,int] -/
def slices_Clone_int_int : CF := ⟨1, .seq (.seq (.reg [⟨(some 2), .mov (.c (.z true)), none⟩] []) <|
  .keep [0] []) <|
  .seq (.seq (.seq (.reg [⟨(some 3), .mov (.t 0), none⟩,
    ⟨(some 4), .isn false (.t 3), none⟩] []) <|
  .keep [0, 4] []) <|
  .cond (.t 4) (.seq (.seq (.reg [⟨(some 2), .mov (.c (.z true)), none⟩] []) <|
  .keep [2] [[5], [7]]) <|
  .ret) <|
  .skip) <|
  .seq (.seq (.reg [⟨(some 5), .lit 1 0 [.v (.int .i64 0)] [] false, none⟩,
    ⟨(some 6), .mov (.t 0), none⟩,
    ⟨(some 7), .app 1 8 (.t 5) (.t 6) true, none⟩,
    ⟨(some 2), .mov (.t 7), none⟩] []) <|
  .keep [2] [[5], [7]]) <|
  .ret, [.t 2]⟩

/- 136: gantry/gantryref01.GetInts -/
def gantryref01_GetInts_l0 : C :=
  .seq (.seq (.seq (.seq (.reg [⟨(some 22), .mov (.t 9), none⟩,
    ⟨(some 23), .mov (.t 5), none⟩,
    ⟨(some 24), .bin .lss (.t 22) (.t 23), none⟩] []) <|
  .keep [0, 5, 6, 8, 9, 24] [[41]]) <|
  .cond (.t 24) (.skip) <|
  .seq (.keep [6, 8] [[41]]) <|
  .exit 0) <|
  .seq (.seq (.blk 1 <|
  .seq (.seq (.reg [⟨(some 28), .mov (.t 0), none⟩,
    ⟨(some 29), .mov (.t 6), none⟩,
    ⟨(some 30), .slc 1 (.t 28) (some (.t 29)) none none, none⟩,
    ⟨(some 31), .call n_gantryref01_GetInt [(.t 30)] false, none⟩,
    ⟨(some 27), .mov (.t 31), none⟩,
    ⟨(some 32), .ext (.t 27) 0, none⟩,
    ⟨(some 33), .ext (.t 27) 1, none⟩,
    ⟨(some 34), .ext (.t 27) 2, none⟩,
    ⟨(some 10), .mov (.t 32), none⟩,
    ⟨(some 11), .mov (.t 33), none⟩,
    ⟨(some 12), .mov (.t 34), none⟩] []) <|
  .keep [0, 5, 6, 8, 9, 10, 11, 12] [[41]]) <|
  .seq (.seq (.seq (.reg [⟨(some 35), .mov (.t 12), none⟩,
    ⟨(some 36), .bin .neq (.t 35) (.c (.v (.int .i64 0))), none⟩] []) <|
  .keep [0, 5, 6, 8, 9, 10, 11, 12, 36] [[41]]) <|
  .cond (.t 36) (.seq (.seq (.reg [⟨(some 37), .mov (.t 12), none⟩,
    ⟨(some 2), .mov (.c (.z true)), none⟩,
    ⟨(some 3), .mov (.c (.v (.int .i64 0))), none⟩,
    ⟨(some 4), .mov (.t 37), none⟩] []) <|
  .keep [2, 3, 4] [[41]]) <|
  .ret) <|
  .skip) <|
  .seq (.seq (.reg [⟨(some 38), .mov (.t 8), none⟩,
    ⟨(some 39), .mov (.t 10), none⟩,
    ⟨(some 40), .lit 1 1 [.v (.int .i64 0)] [(0, (.t 39))] true, none⟩,
    ⟨(some 41), .app 1 8 (.t 38) (.t 40) false, none⟩,
    ⟨(some 8), .mov (.t 41), none⟩] []) <|
  .keep [0, 5, 6, 8, 9, 11] [[41]]) <|
  .seq (.reg [⟨(some 42), .mov (.t 6), none⟩,
    ⟨(some 43), .mov (.t 11), none⟩,
    ⟨(some 44), .bin .add (.t 42) (.t 43), none⟩,
    ⟨(some 6), .mov (.t 44), none⟩] []) <|
  .keep [0, 5, 6, 8, 9] [[41]]) <|
  .keep [0, 5, 6, 8, 9] [[41]]) <|
  .seq (.reg [⟨(some 25), .mov (.t 9), none⟩,
    ⟨(some 26), .bin .add (.t 25) (.c (.v (.int .i64 1))), none⟩,
    ⟨(some 9), .mov (.t 26), none⟩] []) <|
  .keep [0, 5, 6, 8, 9] [[41]]) <|
  .keep [0, 5, 6, 8, 9] [[41]]
def gantryref01_GetInts : CF := ⟨1, .seq (.seq (.reg [⟨(some 2), .mov (.c (.z true)), none⟩,
    ⟨(some 3), .mov (.c (.v (.int .i64 0))), none⟩,
    ⟨(some 4), .mov (.c (.v (.int .i64 0))), none⟩] []) <|
  .keep [0] []) <|
  .seq (.seq (.reg [⟨(some 14), .mov (.t 0), none⟩,
    ⟨(some 15), .call n_gantryref01_count [(.t 14), (.c (.v (.int .i64 1)))] false, none⟩,
    ⟨(some 13), .mov (.t 15), none⟩,
    ⟨(some 16), .ext (.t 13) 0, none⟩,
    ⟨(some 17), .ext (.t 13) 1, none⟩,
    ⟨(some 18), .ext (.t 13) 2, none⟩,
    ⟨(some 5), .mov (.t 16), none⟩,
    ⟨(some 6), .mov (.t 17), none⟩,
    ⟨(some 7), .mov (.t 18), none⟩] []) <|
  .keep [0, 5, 6, 7] []) <|
  .seq (.seq (.seq (.reg [⟨(some 19), .mov (.t 7), none⟩,
    ⟨(some 20), .bin .neq (.t 19) (.c (.v (.int .i64 0))), none⟩] []) <|
  .keep [0, 5, 6, 7, 20] []) <|
  .cond (.t 20) (.seq (.seq (.reg [⟨(some 21), .mov (.t 7), none⟩,
    ⟨(some 2), .mov (.c (.z true)), none⟩,
    ⟨(some 3), .mov (.c (.v (.int .i64 0))), none⟩,
    ⟨(some 4), .mov (.t 21), none⟩] []) <|
  .keep [2, 3, 4] [[41]]) <|
  .ret) <|
  .skip) <|
  .seq (.seq (.reg [⟨(some 8), .mov (.c (.z true)), none⟩] []) <|
  .keep [0, 5, 6, 8] [[41]]) <|
  .seq (.seq (.seq (.reg [⟨(some 9), .mov (.c (.v (.int .i64 0))), none⟩] []) <|
  .keep [0, 5, 6, 8, 9] [[41]]) <|
  .seq (.blk 0 <|
  .seq (.keep [0, 5, 6, 8, 9] [[41]]) <|
  .loop gantryref01_GetInts_l0) <|
  .keep [6, 8] [[41]]) <|
  .seq (.seq (.reg [⟨(some 45), .mov (.t 8), none⟩,
    ⟨(some 46), .mov (.t 6), none⟩,
    ⟨(some 2), .mov (.t 45), none⟩,
    ⟨(some 3), .mov (.t 46), none⟩,
    ⟨(some 4), .mov (.c (.v (.int .i64 0))), none⟩] []) <|
  .keep [2, 3, 4] [[41]]) <|
  .ret, [.t 2, .t 3, .t 4]⟩

/- 137: gantry/gantryref04.Valid -/
def gantryref04_Valid_l0 : C :=
  .seq (.seq (.seq (.seq (.reg [⟨(some 4), .mov (.t 3), none⟩,
    ⟨(some 5), .fad 1 (.t 1), none⟩,
    ⟨(some 6), .load none (.t 5), none⟩,
    ⟨(some 7), .len (.t 6), none⟩,
    ⟨(some 8), .bin .lss (.t 4) (.t 7), none⟩] []) <|
  .keep [1, 3, 8] [[1]]) <|
  .cond (.t 8) (.skip) <|
  .seq (.keep [1] [[1]]) <|
  .exit 0) <|
  .seq (.seq (.blk 1 <|
  .seq (.seq (.reg [⟨(some 11), .fad 1 (.t 1), none⟩,
    ⟨(some 12), .load none (.t 11), none⟩,
    ⟨(some 13), .mov (.t 3), none⟩,
    ⟨(some 14), .ixa 1 (.t 12) (.t 13), none⟩,
    ⟨(some 15), .load none (.t 14), none⟩,
    ⟨(some 16), .bin .lss (.t 15) (.c (.v (.int .i64 0))), none⟩,
    ⟨(some 17), .mov (.t 16), none⟩,
    ⟨(some 18), .fad 1 (.t 1), (some (17, false))⟩,
    ⟨(some 19), .load none (.t 18), (some (17, false))⟩,
    ⟨(some 20), .mov (.t 3), (some (17, false))⟩,
    ⟨(some 21), .ixa 1 (.t 19) (.t 20), (some (17, false))⟩,
    ⟨(some 22), .load none (.t 21), (some (17, false))⟩,
    ⟨(some 23), .bin .geq (.t 22) (.c (.v (.int .i64 1000000000))), (some (17, false))⟩,
    ⟨(some 24), .pick (.t 17) (.c (.v (.bool true))) (.t 23), none⟩] []) <|
  .keep [1, 3, 24] [[1]]) <|
  .cond (.t 24) (.seq (.seq (.reg [⟨(some 2), .mov (.c (.v (.bool false))), none⟩] []) <|
  .keep [2] []) <|
  .ret) <|
  .skip) <|
  .keep [1, 3] [[1]]) <|
  .seq (.reg [⟨(some 9), .mov (.t 3), none⟩,
    ⟨(some 10), .bin .add (.t 9) (.c (.v (.int .i64 1))), none⟩,
    ⟨(some 3), .mov (.t 10), none⟩] []) <|
  .keep [1, 3] [[1]]) <|
  .keep [1, 3] [[1]]
def gantryref04_Valid : CF := ⟨1, .seq (.seq (.reg [⟨(some 1), .box (.t 0), none⟩,
    ⟨(some 2), .mov (.c (.v (.bool false))), none⟩] []) <|
  .keep [1] [[1]]) <|
  .seq (.seq (.seq (.reg [⟨(some 3), .mov (.c (.v (.int .i64 0))), none⟩] []) <|
  .keep [1, 3] [[1]]) <|
  .seq (.blk 0 <|
  .seq (.keep [1, 3] [[1]]) <|
  .loop gantryref04_Valid_l0) <|
  .keep [1] [[1]]) <|
  .seq (.seq (.seq (.reg [⟨(some 25), .fad 1 (.t 1), none⟩,
    ⟨(some 26), .load none (.t 25), none⟩,
    ⟨(some 27), .len (.t 26), none⟩,
    ⟨(some 28), .bin .eql (.t 27) (.c (.v (.int .i64 0))), none⟩] []) <|
  .keep [1, 28] [[1]]) <|
  .cond (.t 28) (.seq (.seq (.reg [⟨(some 29), .fad 0 (.t 1), none⟩,
    ⟨(some 30), .load none (.t 29), none⟩,
    ⟨(some 31), .un .not (.t 30), none⟩,
    ⟨(some 2), .mov (.t 31), none⟩] []) <|
  .keep [2] []) <|
  .ret) <|
  .skip) <|
  .seq (.seq (.reg [⟨(some 32), .fad 1 (.t 1), none⟩,
    ⟨(some 33), .load none (.t 32), none⟩,
    ⟨(some 34), .fad 1 (.t 1), none⟩,
    ⟨(some 35), .load none (.t 34), none⟩,
    ⟨(some 36), .len (.t 35), none⟩,
    ⟨(some 37), .bin .sub (.t 36) (.c (.v (.int .i64 1))), none⟩,
    ⟨(some 38), .ixa 1 (.t 33) (.t 37), none⟩,
    ⟨(some 39), .load none (.t 38), none⟩,
    ⟨(some 40), .bin .neq (.t 39) (.c (.v (.int .i64 0))), none⟩,
    ⟨(some 2), .mov (.t 40), none⟩] []) <|
  .keep [2] []) <|
  .ret, [.t 2]⟩

/- 138: gantry/gantryref04.Compare -/
def gantryref04_Compare : CF := ⟨2, .seq (.seq (.reg [⟨(some 2), .box (.t 0), none⟩,
    ⟨(some 3), .box (.t 1), none⟩,
    ⟨(some 4), .mov (.c (.v (.int .i64 0))), none⟩] []) <|
  .keep [2, 3] [[2], [3]]) <|
  .seq (.seq (.seq (.reg [⟨(some 5), .fad 0 (.t 2), none⟩,
    ⟨(some 6), .load none (.t 5), none⟩,
    ⟨(some 7), .fad 0 (.t 3), none⟩,
    ⟨(some 8), .load none (.t 7), none⟩,
    ⟨(some 9), .binb true (.t 6) (.t 8), none⟩] []) <|
  .keep [2, 3, 9] [[2], [3]]) <|
  .cond (.t 9) (.seq (.seq (.seq (.reg [⟨(some 10), .fad 0 (.t 2), none⟩,
    ⟨(some 11), .load none (.t 10), none⟩] []) <|
  .keep [11] []) <|
  .cond (.t 11) (.seq (.seq (.reg [⟨(some 4), .mov (.c (.v (.int .i64 (-1)))), none⟩] []) <|
  .keep [4] []) <|
  .ret) <|
  .skip) <|
  .seq (.seq (.reg [⟨(some 4), .mov (.c (.v (.int .i64 1))), none⟩] []) <|
  .keep [4] []) <|
  .ret) <|
  .skip) <|
  .seq (.seq (.seq (.reg [⟨(some 12), .fad 0 (.t 2), none⟩,
    ⟨(some 13), .load none (.t 12), none⟩] []) <|
  .keep [2, 3, 13] [[2], [3]]) <|
  .cond (.t 13) (.seq (.seq (.reg [⟨(some 14), .fad 1 (.t 3), none⟩,
    ⟨(some 15), .load none (.t 14), none⟩,
    ⟨(some 16), .fad 1 (.t 2), none⟩,
    ⟨(some 17), .load none (.t 16), none⟩,
    ⟨(some 18), .call n_gantryref04_compared [(.t 15), (.t 17)] false, none⟩,
    ⟨(some 4), .mov (.t 18), none⟩] []) <|
  .keep [4] []) <|
  .ret) <|
  .skip) <|
  .seq (.seq (.reg [⟨(some 19), .fad 1 (.t 2), none⟩,
    ⟨(some 20), .load none (.t 19), none⟩,
    ⟨(some 21), .fad 1 (.t 3), none⟩,
    ⟨(some 22), .load none (.t 21), none⟩,
    ⟨(some 23), .call n_gantryref04_compared [(.t 20), (.t 22)] false, none⟩,
    ⟨(some 4), .mov (.t 23), none⟩] []) <|
  .keep [4] []) <|
  .ret, [.t 4]⟩

/- 139: gantry/gantryref04.digit -/
def gantryref04_digit : CF := ⟨2, .seq (.seq (.reg [⟨(some 4), .mov (.c (.v (.int .i64 0))), none⟩] []) <|
  .keep [0, 1] []) <|
  .seq (.seq (.seq (.reg [⟨(some 5), .mov (.t 1), none⟩,
    ⟨(some 6), .mov (.t 0), none⟩,
    ⟨(some 7), .len (.t 6), none⟩,
    ⟨(some 8), .bin .lss (.t 5) (.t 7), none⟩] []) <|
  .keep [0, 1, 8] []) <|
  .cond (.t 8) (.seq (.seq (.reg [⟨(some 9), .mov (.t 0), none⟩,
    ⟨(some 10), .mov (.t 1), none⟩,
    ⟨(some 11), .ixa 1 (.t 9) (.t 10), none⟩,
    ⟨(some 12), .load none (.t 11), none⟩,
    ⟨(some 4), .mov (.t 12), none⟩] []) <|
  .keep [4] []) <|
  .ret) <|
  .skip) <|
  .seq (.seq (.reg [⟨(some 4), .mov (.c (.v (.int .i64 0))), none⟩] []) <|
  .keep [4] []) <|
  .ret, [.t 4]⟩

/- 140: slices.ContainsFunc[[]int,int] -/
def slices_ContainsFunc_int_int : CF := ⟨2, .seq (.seq (.reg [⟨(some 4), .mov (.c (.v (.bool false))), none⟩] []) <|
  .keep [0, 1] []) <|
  .seq (.seq (.reg [⟨(some 5), .mov (.t 0), none⟩,
    ⟨(some 6), .mov (.t 1), none⟩,
    ⟨(some 7), .call n_slices_IndexFunc_int_int [(.t 5), (.t 6)] false, none⟩,
    ⟨(some 8), .bin .geq (.t 7) (.c (.v (.int .i64 0))), none⟩,
    ⟨(some 4), .mov (.t 8), none⟩] []) <|
  .keep [4] []) <|
  .ret, [.t 4]⟩

/- 141: gantry/integer.Valid$1 -/
def integer_Valid_1 : CF := ⟨1, .seq (.seq (.reg [⟨(some 2), .mov (.c (.v (.bool false))), none⟩] []) <|
  .keep [0] []) <|
  .seq (.seq (.reg [⟨(some 3), .mov (.t 0), none⟩,
    ⟨(some 4), .bin .lss (.t 3) (.c (.v (.int .i64 0))), none⟩,
    ⟨(some 5), .mov (.t 4), none⟩,
    ⟨(some 6), .mov (.t 0), (some (5, false))⟩,
    ⟨(some 7), .bin .geq (.t 6) (.c (.v (.int .i64 1000000000))), (some (5, false))⟩,
    ⟨(some 8), .pick (.t 5) (.c (.v (.bool true))) (.t 7), none⟩,
    ⟨(some 2), .mov (.t 8), none⟩] []) <|
  .keep [2] []) <|
  .ret, [.t 2]⟩

/- 142: gantry/gantryref04.times -/
def gantryref04_times : CF := ⟨2, .seq (.seq (.reg [⟨(some 4), .mov (.c (.z true)), none⟩] []) <|
  .keep [0, 1] []) <|
  .seq (.seq (.reg [⟨(some 6), .mov (.t 0), none⟩,
    ⟨(some 7), .call n_gantryref04_normal [(.c (.v (.bool false))), (.t 6)] false, none⟩,
    ⟨(some 8), .mov (.t 1), none⟩,
    ⟨(some 9), .call n_gantryref04_Of [(.t 8)] false, none⟩,
    ⟨(some 10), .call n_gantryref04_Mul [(.t 7), (.t 9)] false, none⟩,
    ⟨(some 5), .new [.v (.bool false), .z true], none⟩,
    ⟨none, .store 2 (.t 5) (.t 10), none⟩] []) <|
  .keep [5] [[5]]) <|
  .seq (.seq (.reg [⟨(some 11), .fad 1 (.t 5), none⟩,
    ⟨(some 12), .load none (.t 11), none⟩,
    ⟨(some 4), .mov (.t 12), none⟩] []) <|
  .keep [4] []) <|
  .ret, [.t 4]⟩

/- 143: cmp.isNaN[int] -/
def cmp_isNaN_int : CF := ⟨1, .seq (.seq (.reg [⟨(some 2), .mov (.c (.v (.bool false))), none⟩] []) <|
  .keep [0] []) <|
  .seq (.seq (.reg [⟨(some 3), .mov (.t 0), none⟩,
    ⟨(some 4), .mov (.t 0), none⟩,
    ⟨(some 5), .bin .neq (.t 3) (.t 4), none⟩,
    ⟨(some 2), .mov (.t 5), none⟩] []) <|
  .keep [2] []) <|
  .ret, [.t 2]⟩

/- 144: gantry/integer.short -/
def integer_short_l0 : C :=
  .seq (.seq (.seq (.seq (.reg [⟨(some 16), .mov (.t 8), none⟩,
    ⟨(some 17), .bin .geq (.t 16) (.c (.v (.int .i64 0))), none⟩] []) <|
  .keep [0, 1, 6, 7, 8, 17] [[12]]) <|
  .cond (.t 17) (.skip) <|
  .seq (.keep [6, 7] [[12]]) <|
  .exit 0) <|
  .seq (.seq (.blk 1 <|
  .seq (.seq (.reg [⟨(some 20), .mov (.t 7), none⟩,
    ⟨(some 21), .bin .mul (.t 20) (.c (.v (.int .i64 1000000000))), none⟩,
    ⟨(some 22), .mov (.t 0), none⟩,
    ⟨(some 23), .mov (.t 8), none⟩,
    ⟨(some 24), .ixa 1 (.t 22) (.t 23), none⟩,
    ⟨(some 25), .load none (.t 24), none⟩,
    ⟨(some 26), .bin .add (.t 21) (.t 25), none⟩,
    ⟨(some 9), .mov (.t 26), none⟩] []) <|
  .keep [0, 1, 6, 8, 9] [[12]]) <|
  .seq (.reg [⟨(some 27), .mov (.t 6), none⟩,
    ⟨(some 28), .mov (.t 8), none⟩,
    ⟨(some 29), .mov (.t 9), none⟩,
    ⟨(some 30), .mov (.t 1), none⟩,
    ⟨(some 31), .bin .quo (.t 29) (.t 30), none⟩,
    ⟨(some 32), .mov (.t 9), none⟩,
    ⟨(some 33), .mov (.t 1), none⟩,
    ⟨(some 34), .bin .rem (.t 32) (.t 33), none⟩,
    ⟨(some 35), .ixa 1 (.t 27) (.t 28), none⟩,
    ⟨none, .store 1 (.t 35) (.t 31), none⟩,
    ⟨(some 7), .mov (.t 34), none⟩] []) <|
  .keep [0, 1, 6, 7, 8] [[12]]) <|
  .keep [0, 1, 6, 7, 8] [[12]]) <|
  .seq (.reg [⟨(some 18), .mov (.t 8), none⟩,
    ⟨(some 19), .bin .sub (.t 18) (.c (.v (.int .i64 1))), none⟩,
    ⟨(some 8), .mov (.t 19), none⟩] []) <|
  .keep [0, 1, 6, 7, 8] [[12]]) <|
  .keep [0, 1, 6, 7, 8] [[12]]
def integer_short : CF := ⟨2, .seq (.seq (.reg [⟨(some 4), .mov (.c (.z true)), none⟩,
    ⟨(some 5), .mov (.c (.v (.int .i64 0))), none⟩] []) <|
  .keep [0, 1] []) <|
  .seq (.seq (.reg [⟨(some 10), .mov (.t 0), none⟩,
    ⟨(some 11), .len (.t 10), none⟩,
    ⟨(some 12), .mksl 1 8 [.v (.int .i64 0)] (.t 11) (.t 11), none⟩,
    ⟨(some 6), .mov (.t 12), none⟩] []) <|
  .keep [0, 1, 6] [[12]]) <|
  .seq (.seq (.reg [⟨(some 7), .mov (.c (.v (.int .i64 0))), none⟩] []) <|
  .keep [0, 1, 6, 7] [[12]]) <|
  .seq (.seq (.seq (.reg [⟨(some 13), .mov (.t 0), none⟩,
    ⟨(some 14), .len (.t 13), none⟩,
    ⟨(some 15), .bin .sub (.t 14) (.c (.v (.int .i64 1))), none⟩,
    ⟨(some 8), .mov (.t 15), none⟩] []) <|
  .keep [0, 1, 6, 7, 8] [[12]]) <|
  .seq (.blk 0 <|
  .seq (.keep [0, 1, 6, 7, 8] [[12]]) <|
  .loop integer_short_l0) <|
  .keep [6, 7] [[12]]) <|
  .seq (.seq (.reg [⟨(some 36), .mov (.t 6), none⟩,
    ⟨(some 37), .mov (.t 7), none⟩,
    ⟨(some 4), .mov (.t 36), none⟩,
    ⟨(some 5), .mov (.t 37), none⟩] []) <|
  .keep [4, 5] [[12]]) <|
  .ret, [.t 4, .t 5]⟩

/- 145: gantry/integer.long -/
def integer_long_l0 : C :=
  .seq (.seq (.seq (.seq (.reg [⟨(some 84), .mov (.t 13), none⟩,
    ⟨(some 85), .bin .geq (.t 84) (.c (.v (.int .i64 1000000000))), none⟩,
    ⟨(some 86), .mov (.t 85), none⟩,
    ⟨(some 87), .mov (.t 13), (some (86, false))⟩,
    ⟨(some 88), .mov (.t 8), (some (86, false))⟩,
    ⟨(some 89), .mov (.t 9), (some (86, false))⟩,
    ⟨(some 90), .bin .sub (.t 89) (.c (.v (.int .i64 2))), (some (86, false))⟩,
    ⟨(some 91), .ixa 1 (.t 88) (.t 90), (some (86, false))⟩,
    ⟨(some 92), .load none (.t 91), (some (86, false))⟩,
    ⟨(some 93), .bin .mul (.t 87) (.t 92), (some (86, false))⟩,
    ⟨(some 94), .mov (.t 14), (some (86, false))⟩,
    ⟨(some 95), .bin .mul (.t 94) (.c (.v (.int .i64 1000000000))), (some (86, false))⟩,
    ⟨(some 96), .mov (.t 7), (some (86, false))⟩,
    ⟨(some 97), .mov (.t 11), (some (86, false))⟩,
    ⟨(some 98), .mov (.t 9), (some (86, false))⟩,
    ⟨(some 99), .bin .add (.t 97) (.t 98), (some (86, false))⟩,
    ⟨(some 100), .bin .sub (.t 99) (.c (.v (.int .i64 2))), (some (86, false))⟩,
    ⟨(some 101), .ixa 1 (.t 96) (.t 100), (some (86, false))⟩,
    ⟨(some 102), .load none (.t 101), (some (86, false))⟩,
    ⟨(some 103), .bin .add (.t 95) (.t 102), (some (86, false))⟩,
    ⟨(some 104), .bin .gtr (.t 93) (.t 103), (some (86, false))⟩,
    ⟨(some 105), .pick (.t 86) (.c (.v (.bool true))) (.t 104), none⟩] []) <|
  .keep [6, 7, 8, 9, 10, 11, 13, 14, 105] [[32], [46]]) <|
  .cond (.t 105) (.skip) <|
  .seq (.keep [6, 7, 8, 9, 10, 11, 13] [[32], [46]]) <|
  .exit 2) <|
  .seq (.blk 3 <|
  .seq (.seq (.reg [⟨(some 106), .mov (.t 13), none⟩,
    ⟨(some 107), .bin .sub (.t 106) (.c (.v (.int .i64 1))), none⟩,
    ⟨(some 13), .mov (.t 107), none⟩] []) <|
  .keep [6, 7, 8, 9, 10, 11, 13, 14] [[32], [46]]) <|
  .seq (.seq (.reg [⟨(some 108), .mov (.t 14), none⟩,
    ⟨(some 109), .mov (.t 8), none⟩,
    ⟨(some 110), .mov (.t 9), none⟩,
    ⟨(some 111), .bin .sub (.t 110) (.c (.v (.int .i64 1))), none⟩,
    ⟨(some 112), .ixa 1 (.t 109) (.t 111), none⟩,
    ⟨(some 113), .load none (.t 112), none⟩,
    ⟨(some 114), .bin .add (.t 108) (.t 113), none⟩,
    ⟨(some 14), .mov (.t 114), none⟩] []) <|
  .keep [6, 7, 8, 9, 10, 11, 13, 14] [[32], [46]]) <|
  .seq (.seq (.reg [⟨(some 115), .mov (.t 14), none⟩,
    ⟨(some 116), .bin .geq (.t 115) (.c (.v (.int .i64 1000000000))), none⟩] []) <|
  .keep [6, 7, 8, 9, 10, 11, 13, 14, 116] [[32], [46]]) <|
  .cond (.t 116) (.seq (.keep [6, 7, 8, 9, 10, 11, 13] [[32], [46]]) <|
  .exit 2) <|
  .skip) <|
  .keep [6, 7, 8, 9, 10, 11, 13, 14] [[32], [46]]) <|
  .keep [6, 7, 8, 9, 10, 11, 13, 14] [[32], [46]]
def integer_long_l1 : C :=
  .seq (.seq (.seq (.reg [⟨(some 119), .bin .lss (.t 118) (.t 117), none⟩] []) <|
  .keep [6, 7, 8, 9, 10, 11, 13, 15, 117, 118, 119] [[32], [46]]) <|
  .seq (.cond (.t 119) (.skip) <|
  .seq (.keep [6, 7, 8, 9, 10, 11, 13, 15] [[32], [46]]) <|
  .exit 4) <|
  .seq (.seq (.blk 5 <|
  .seq (.seq (.reg [⟨(some 120), .mov (.t 118), none⟩,
    ⟨(some 16), .mov (.t 120), none⟩] []) <|
  .keep [6, 7, 8, 9, 10, 11, 13, 15, 16, 117, 118] [[32], [46]]) <|
  .seq (.seq (.reg [⟨(some 121), .mov (.t 7), none⟩,
    ⟨(some 122), .mov (.t 16), none⟩,
    ⟨(some 123), .mov (.t 11), none⟩,
    ⟨(some 124), .bin .add (.t 122) (.t 123), none⟩,
    ⟨(some 125), .ixa 1 (.t 121) (.t 124), none⟩,
    ⟨(some 126), .load none (.t 125), none⟩,
    ⟨(some 127), .mov (.t 13), none⟩,
    ⟨(some 128), .mov (.t 8), none⟩,
    ⟨(some 129), .mov (.t 16), none⟩,
    ⟨(some 130), .ixa 1 (.t 128) (.t 129), none⟩,
    ⟨(some 131), .load none (.t 130), none⟩,
    ⟨(some 132), .bin .mul (.t 127) (.t 131), none⟩,
    ⟨(some 133), .bin .sub (.t 126) (.t 132), none⟩,
    ⟨(some 134), .mov (.t 15), none⟩,
    ⟨(some 135), .bin .sub (.t 133) (.t 134), none⟩,
    ⟨(some 17), .mov (.t 135), none⟩] []) <|
  .keep [6, 7, 8, 9, 10, 11, 13, 16, 17, 117, 118] [[32], [46]]) <|
  .seq (.seq (.reg [⟨(some 15), .mov (.c (.v (.int .i64 0))), none⟩] []) <|
  .keep [6, 7, 8, 9, 10, 11, 13, 15, 16, 17, 117, 118] [[32], [46]]) <|
  .seq (.seq (.seq (.reg [⟨(some 136), .mov (.t 17), none⟩,
    ⟨(some 137), .bin .lss (.t 136) (.c (.v (.int .i64 0))), none⟩] []) <|
  .keep [6, 7, 8, 9, 10, 11, 13, 15, 16, 17, 117, 118, 137] [[32], [46]]) <|
  .cond (.t 137) (.seq (.seq (.reg [⟨(some 138), .mov (.t 17), none⟩,
    ⟨(some 139), .un .neg (.t 138), none⟩,
    ⟨(some 140), .bin .add (.t 139) (.c (.v (.int .i64 1000000000))), none⟩,
    ⟨(some 141), .bin .sub (.t 140) (.c (.v (.int .i64 1))), none⟩,
    ⟨(some 142), .bin .quo (.t 141) (.c (.v (.int .i64 1000000000))), none⟩,
    ⟨(some 15), .mov (.t 142), none⟩] []) <|
  .keep [6, 7, 8, 9, 10, 11, 13, 15, 16, 17, 117, 118] [[32], [46]]) <|
  .seq (.reg [⟨(some 143), .mov (.t 17), none⟩,
    ⟨(some 144), .mov (.t 15), none⟩,
    ⟨(some 145), .bin .mul (.t 144) (.c (.v (.int .i64 1000000000))), none⟩,
    ⟨(some 146), .bin .add (.t 143) (.t 145), none⟩,
    ⟨(some 17), .mov (.t 146), none⟩] []) <|
  .keep [6, 7, 8, 9, 10, 11, 13, 15, 16, 17, 117, 118] [[32], [46]]) <|
  .skip) <|
  .seq (.reg [⟨(some 147), .mov (.t 7), none⟩,
    ⟨(some 148), .mov (.t 16), none⟩,
    ⟨(some 149), .mov (.t 11), none⟩,
    ⟨(some 150), .bin .add (.t 148) (.t 149), none⟩,
    ⟨(some 151), .mov (.t 17), none⟩,
    ⟨(some 152), .ixa 1 (.t 147) (.t 150), none⟩,
    ⟨none, .store 1 (.t 152) (.t 151), none⟩] []) <|
  .keep [6, 7, 8, 9, 10, 11, 13, 15, 117, 118] [[32], [46]]) <|
  .keep [6, 7, 8, 9, 10, 11, 13, 15, 117, 118] [[32], [46]]) <|
  .seq (.reg [⟨(some 153), .bin .add (.t 118) (.c (.v (.int .i64 1))), none⟩,
    ⟨(some 118), .mov (.t 153), none⟩] []) <|
  .keep [6, 7, 8, 9, 10, 11, 13, 15, 117, 118] [[32], [46]]) <|
  .keep [6, 7, 8, 9, 10, 11, 13, 15, 117, 118] [[32], [46]]
def integer_long_l2 : C :=
  .seq (.seq (.seq (.reg [⟨(some 174), .bin .lss (.t 173) (.t 172), none⟩] []) <|
  .keep [6, 7, 8, 9, 10, 11, 13, 15, 172, 173, 174] [[32], [46]]) <|
  .seq (.cond (.t 174) (.skip) <|
  .seq (.keep [6, 7, 8, 9, 10, 11, 13, 15] [[32], [46]]) <|
  .exit 6) <|
  .seq (.seq (.blk 7 <|
  .seq (.seq (.reg [⟨(some 175), .mov (.t 173), none⟩,
    ⟨(some 18), .mov (.t 175), none⟩] []) <|
  .keep [6, 7, 8, 9, 10, 11, 13, 15, 18, 172, 173] [[32], [46]]) <|
  .seq (.seq (.reg [⟨(some 176), .mov (.t 7), none⟩,
    ⟨(some 177), .mov (.t 18), none⟩,
    ⟨(some 178), .mov (.t 11), none⟩,
    ⟨(some 179), .bin .add (.t 177) (.t 178), none⟩,
    ⟨(some 180), .ixa 1 (.t 176) (.t 179), none⟩,
    ⟨(some 181), .load none (.t 180), none⟩,
    ⟨(some 182), .mov (.t 8), none⟩,
    ⟨(some 183), .mov (.t 18), none⟩,
    ⟨(some 184), .ixa 1 (.t 182) (.t 183), none⟩,
    ⟨(some 185), .load none (.t 184), none⟩,
    ⟨(some 186), .bin .add (.t 181) (.t 185), none⟩,
    ⟨(some 187), .mov (.t 15), none⟩,
    ⟨(some 188), .bin .add (.t 186) (.t 187), none⟩,
    ⟨(some 19), .mov (.t 188), none⟩] []) <|
  .keep [6, 7, 8, 9, 10, 11, 13, 18, 19, 172, 173] [[32], [46]]) <|
  .seq (.reg [⟨(some 189), .mov (.t 7), none⟩,
    ⟨(some 190), .mov (.t 18), none⟩,
    ⟨(some 191), .mov (.t 11), none⟩,
    ⟨(some 192), .bin .add (.t 190) (.t 191), none⟩,
    ⟨(some 193), .mov (.t 19), none⟩,
    ⟨(some 194), .bin .rem (.t 193) (.c (.v (.int .i64 1000000000))), none⟩,
    ⟨(some 195), .mov (.t 19), none⟩,
    ⟨(some 196), .bin .quo (.t 195) (.c (.v (.int .i64 1000000000))), none⟩,
    ⟨(some 197), .ixa 1 (.t 189) (.t 192), none⟩,
    ⟨none, .store 1 (.t 197) (.t 194), none⟩,
    ⟨(some 15), .mov (.t 196), none⟩] []) <|
  .keep [6, 7, 8, 9, 10, 11, 13, 15, 172, 173] [[32], [46]]) <|
  .keep [6, 7, 8, 9, 10, 11, 13, 15, 172, 173] [[32], [46]]) <|
  .seq (.reg [⟨(some 198), .bin .add (.t 173) (.c (.v (.int .i64 1))), none⟩,
    ⟨(some 173), .mov (.t 198), none⟩] []) <|
  .keep [6, 7, 8, 9, 10, 11, 13, 15, 172, 173] [[32], [46]]) <|
  .keep [6, 7, 8, 9, 10, 11, 13, 15, 172, 173] [[32], [46]]
def integer_long_l3 : C :=
  .seq (.seq (.seq (.seq (.reg [⟨(some 51), .mov (.t 11), none⟩,
    ⟨(some 52), .bin .geq (.t 51) (.c (.v (.int .i64 0))), none⟩] []) <|
  .keep [6, 7, 8, 9, 10, 11, 52] [[32], [46]]) <|
  .cond (.t 52) (.skip) <|
  .seq (.keep [6, 7, 9, 10] [[32], [46]]) <|
  .exit 0) <|
  .seq (.seq (.blk 1 <|
  .seq (.seq (.reg [⟨(some 55), .mov (.t 7), none⟩,
    ⟨(some 56), .mov (.t 11), none⟩,
    ⟨(some 57), .mov (.t 9), none⟩,
    ⟨(some 58), .bin .add (.t 56) (.t 57), none⟩,
    ⟨(some 59), .ixa 1 (.t 55) (.t 58), none⟩,
    ⟨(some 60), .load none (.t 59), none⟩,
    ⟨(some 61), .bin .mul (.t 60) (.c (.v (.int .i64 1000000000))), none⟩,
    ⟨(some 62), .mov (.t 7), none⟩,
    ⟨(some 63), .mov (.t 11), none⟩,
    ⟨(some 64), .mov (.t 9), none⟩,
    ⟨(some 65), .bin .add (.t 63) (.t 64), none⟩,
    ⟨(some 66), .bin .sub (.t 65) (.c (.v (.int .i64 1))), none⟩,
    ⟨(some 67), .ixa 1 (.t 62) (.t 66), none⟩,
    ⟨(some 68), .load none (.t 67), none⟩,
    ⟨(some 69), .bin .add (.t 61) (.t 68), none⟩,
    ⟨(some 12), .mov (.t 69), none⟩] []) <|
  .keep [6, 7, 8, 9, 10, 11, 12] [[32], [46]]) <|
  .seq (.seq (.reg [⟨(some 70), .mov (.t 12), none⟩,
    ⟨(some 71), .mov (.t 8), none⟩,
    ⟨(some 72), .mov (.t 9), none⟩,
    ⟨(some 73), .bin .sub (.t 72) (.c (.v (.int .i64 1))), none⟩,
    ⟨(some 74), .ixa 1 (.t 71) (.t 73), none⟩,
    ⟨(some 75), .load none (.t 74), none⟩,
    ⟨(some 76), .bin .quo (.t 70) (.t 75), none⟩,
    ⟨(some 77), .mov (.t 12), none⟩,
    ⟨(some 78), .mov (.t 8), none⟩,
    ⟨(some 79), .mov (.t 9), none⟩,
    ⟨(some 80), .bin .sub (.t 79) (.c (.v (.int .i64 1))), none⟩,
    ⟨(some 81), .ixa 1 (.t 78) (.t 80), none⟩,
    ⟨(some 82), .load none (.t 81), none⟩,
    ⟨(some 83), .bin .rem (.t 77) (.t 82), none⟩,
    ⟨(some 13), .mov (.t 76), none⟩,
    ⟨(some 14), .mov (.t 83), none⟩] []) <|
  .keep [6, 7, 8, 9, 10, 11, 13, 14] [[32], [46]]) <|
  .seq (.skip) <|
  .seq (.seq (.blk 2 <|
  .seq (.keep [6, 7, 8, 9, 10, 11, 13, 14] [[32], [46]]) <|
  .loop integer_long_l0) <|
  .keep [6, 7, 8, 9, 10, 11, 13] [[32], [46]]) <|
  .seq (.seq (.reg [⟨(some 15), .mov (.c (.v (.int .i64 0))), none⟩] []) <|
  .keep [6, 7, 8, 9, 10, 11, 13, 15] [[32], [46]]) <|
  .seq (.seq (.seq (.reg [⟨(some 117), .mov (.t 9), none⟩,
    ⟨(some 118), .mov (.c (.v (.int .i64 0))), none⟩] []) <|
  .keep [6, 7, 8, 9, 10, 11, 13, 15, 117, 118] [[32], [46]]) <|
  .seq (.blk 4 <|
  .seq (.keep [6, 7, 8, 9, 10, 11, 13, 15, 117, 118] [[32], [46]]) <|
  .loop integer_long_l1) <|
  .keep [6, 7, 8, 9, 10, 11, 13, 15] [[32], [46]]) <|
  .seq (.seq (.seq (.reg [⟨(some 154), .mov (.t 7), none⟩,
    ⟨(some 155), .mov (.t 11), none⟩,
    ⟨(some 156), .mov (.t 9), none⟩,
    ⟨(some 157), .bin .add (.t 155) (.t 156), none⟩,
    ⟨(some 158), .ixa 1 (.t 154) (.t 157), none⟩,
    ⟨(some 159), .load none (.t 158), none⟩,
    ⟨(some 160), .mov (.t 15), none⟩,
    ⟨(some 161), .bin .sub (.t 159) (.t 160), none⟩,
    ⟨(some 162), .ixa 1 (.t 154) (.t 157), none⟩,
    ⟨none, .store 1 (.t 162) (.t 161), none⟩] []) <|
  .keep [6, 7, 8, 9, 10, 11, 13] [[32], [46]]) <|
  .seq (.seq (.reg [⟨(some 163), .mov (.t 7), none⟩,
    ⟨(some 164), .mov (.t 11), none⟩,
    ⟨(some 165), .mov (.t 9), none⟩,
    ⟨(some 166), .bin .add (.t 164) (.t 165), none⟩,
    ⟨(some 167), .ixa 1 (.t 163) (.t 166), none⟩,
    ⟨(some 168), .load none (.t 167), none⟩,
    ⟨(some 169), .bin .lss (.t 168) (.c (.v (.int .i64 0))), none⟩] []) <|
  .keep [6, 7, 8, 9, 10, 11, 13, 169] [[32], [46]]) <|
  .cond (.t 169) (.seq (.seq (.reg [⟨(some 170), .mov (.t 13), none⟩,
    ⟨(some 171), .bin .sub (.t 170) (.c (.v (.int .i64 1))), none⟩,
    ⟨(some 13), .mov (.t 171), none⟩] []) <|
  .keep [6, 7, 8, 9, 10, 11, 13] [[32], [46]]) <|
  .seq (.seq (.reg [⟨(some 15), .mov (.c (.v (.int .i64 0))), none⟩] []) <|
  .keep [6, 7, 8, 9, 10, 11, 13, 15] [[32], [46]]) <|
  .seq (.seq (.seq (.reg [⟨(some 172), .mov (.t 9), none⟩,
    ⟨(some 173), .mov (.c (.v (.int .i64 0))), none⟩] []) <|
  .keep [6, 7, 8, 9, 10, 11, 13, 15, 172, 173] [[32], [46]]) <|
  .seq (.blk 6 <|
  .seq (.keep [6, 7, 8, 9, 10, 11, 13, 15, 172, 173] [[32], [46]]) <|
  .loop integer_long_l2) <|
  .keep [6, 7, 8, 9, 10, 11, 13, 15] [[32], [46]]) <|
  .seq (.reg [⟨(some 199), .mov (.t 7), none⟩,
    ⟨(some 200), .mov (.t 11), none⟩,
    ⟨(some 201), .mov (.t 9), none⟩,
    ⟨(some 202), .bin .add (.t 200) (.t 201), none⟩,
    ⟨(some 203), .ixa 1 (.t 199) (.t 202), none⟩,
    ⟨(some 204), .load none (.t 203), none⟩,
    ⟨(some 205), .mov (.t 15), none⟩,
    ⟨(some 206), .bin .add (.t 204) (.t 205), none⟩,
    ⟨(some 207), .ixa 1 (.t 199) (.t 202), none⟩,
    ⟨none, .store 1 (.t 207) (.t 206), none⟩] []) <|
  .keep [6, 7, 8, 9, 10, 11, 13] [[32], [46]]) <|
  .skip) <|
  .seq (.reg [⟨(some 208), .mov (.t 10), none⟩,
    ⟨(some 209), .mov (.t 11), none⟩,
    ⟨(some 210), .mov (.t 13), none⟩,
    ⟨(some 211), .ixa 1 (.t 208) (.t 209), none⟩,
    ⟨none, .store 1 (.t 211) (.t 210), none⟩] []) <|
  .keep [6, 7, 8, 9, 10, 11] [[32], [46]]) <|
  .keep [6, 7, 8, 9, 10, 11] [[32], [46]]) <|
  .seq (.reg [⟨(some 53), .mov (.t 11), none⟩,
    ⟨(some 54), .bin .sub (.t 53) (.c (.v (.int .i64 1))), none⟩,
    ⟨(some 11), .mov (.t 54), none⟩] []) <|
  .keep [6, 7, 8, 9, 10, 11] [[32], [46]]) <|
  .keep [6, 7, 8, 9, 10, 11] [[32], [46]]
def integer_long : CF := ⟨2, .seq (.seq (.reg [⟨(some 4), .mov (.c (.z true)), none⟩,
    ⟨(some 5), .mov (.c (.z true)), none⟩] []) <|
  .keep [0, 1] []) <|
  .seq (.seq (.reg [⟨(some 22), .mov (.t 1), none⟩,
    ⟨(some 23), .mov (.t 1), none⟩,
    ⟨(some 24), .len (.t 23), none⟩,
    ⟨(some 25), .bin .sub (.t 24) (.c (.v (.int .i64 1))), none⟩,
    ⟨(some 26), .ixa 1 (.t 22) (.t 25), none⟩,
    ⟨(some 27), .load none (.t 26), none⟩,
    ⟨(some 28), .bin .add (.t 27) (.c (.v (.int .i64 1))), none⟩,
    ⟨(some 29), .bin .quo (.c (.v (.int .i64 1000000000))) (.t 28), none⟩,
    ⟨(some 6), .mov (.t 29), none⟩] []) <|
  .keep [0, 1, 6] []) <|
  .seq (.seq (.reg [⟨(some 30), .mov (.t 0), none⟩,
    ⟨(some 31), .mov (.t 6), none⟩,
    ⟨(some 32), .call n_integer_scaled [(.t 30), (.t 31)] true, none⟩,
    ⟨(some 33), .mov (.t 1), none⟩,
    ⟨(some 34), .mov (.t 6), none⟩,
    ⟨(some 35), .call n_integer_scaled [(.t 33), (.t 34)] false, none⟩,
    ⟨(some 36), .mov (.t 1), none⟩,
    ⟨(some 37), .len (.t 36), none⟩,
    ⟨(some 38), .slc 1 (.t 35) none (some (.t 37)) none, none⟩,
    ⟨(some 7), .mov (.t 32), none⟩,
    ⟨(some 8), .mov (.t 38), none⟩] []) <|
  .keep [0, 1, 6, 7, 8] [[32]]) <|
  .seq (.seq (.reg [⟨(some 39), .mov (.t 1), none⟩,
    ⟨(some 40), .len (.t 39), none⟩,
    ⟨(some 9), .mov (.t 40), none⟩] []) <|
  .keep [0, 6, 7, 8, 9] [[32]]) <|
  .seq (.seq (.reg [⟨(some 41), .mov (.t 0), none⟩,
    ⟨(some 42), .len (.t 41), none⟩,
    ⟨(some 43), .mov (.t 9), none⟩,
    ⟨(some 44), .bin .sub (.t 42) (.t 43), none⟩,
    ⟨(some 45), .bin .add (.t 44) (.c (.v (.int .i64 1))), none⟩,
    ⟨(some 46), .mksl 1 8 [.v (.int .i64 0)] (.t 45) (.t 45), none⟩,
    ⟨(some 10), .mov (.t 46), none⟩] []) <|
  .keep [0, 6, 7, 8, 9, 10] [[32], [46]]) <|
  .seq (.seq (.seq (.reg [⟨(some 47), .mov (.t 0), none⟩,
    ⟨(some 48), .len (.t 47), none⟩,
    ⟨(some 49), .mov (.t 9), none⟩,
    ⟨(some 50), .bin .sub (.t 48) (.t 49), none⟩,
    ⟨(some 11), .mov (.t 50), none⟩] []) <|
  .keep [6, 7, 8, 9, 10, 11] [[32], [46]]) <|
  .seq (.blk 0 <|
  .seq (.keep [6, 7, 8, 9, 10, 11] [[32], [46]]) <|
  .loop integer_long_l3) <|
  .keep [6, 7, 9, 10] [[32], [46]]) <|
  .seq (.seq (.frz 7) <|
  .seq (.reg [⟨(some 213), .mov (.t 7), none⟩,
    ⟨(some 214), .mov (.t 9), none⟩,
    ⟨(some 215), .slc 1 (.t 213) none (some (.t 214)) none, none⟩,
    ⟨(some 216), .mov (.t 6), none⟩,
    ⟨(some 217), .call n_integer_short [(.t 215), (.t 216)] false, none⟩,
    ⟨(some 212), .mov (.t 217), none⟩,
    ⟨(some 218), .ext (.t 212) 0, none⟩,
    ⟨(some 219), .ext (.t 212) 1, none⟩,
    ⟨(some 20), .mov (.t 218), none⟩,
    ⟨(some 21), .mov (.t 219), none⟩] []) <|
  .keep [10, 20] [[46]]) <|
  .seq (.seq (.reg [⟨(some 220), .mov (.t 10), none⟩,
    ⟨(some 221), .mov (.t 20), none⟩,
    ⟨(some 4), .mov (.t 220), none⟩,
    ⟨(some 5), .mov (.t 221), none⟩] []) <|
  .keep [4, 5] [[46]]) <|
  .ret, [.t 4, .t 5]⟩

/- 146: gantry/wire.count -/
def wire_count : CF := ⟨2, .seq (.seq (.reg [⟨(some 4), .mov (.c (.v (.int .i64 0))), none⟩,
    ⟨(some 5), .mov (.c (.v (.int .i64 0))), none⟩,
    ⟨(some 6), .mov (.c (.v (.int .i64 0))), none⟩] []) <|
  .keep [0, 1] []) <|
  .seq (.seq (.reg [⟨(some 8), .mov (.t 0), none⟩,
    ⟨(some 9), .call n_wire_GetInt [(.t 8)] false, none⟩,
    ⟨(some 7), .mov (.t 9), none⟩,
    ⟨(some 10), .ext (.t 7) 0, none⟩,
    ⟨(some 11), .ext (.t 7) 1, none⟩,
    ⟨(some 12), .ext (.t 7) 2, none⟩,
    ⟨(some 4), .mov (.t 10), none⟩,
    ⟨(some 5), .mov (.t 11), none⟩,
    ⟨(some 6), .mov (.t 12), none⟩] []) <|
  .keep [0, 1, 4, 5, 6] []) <|
  .seq (.seq (.blk 0 <|
  .seq (.seq (.reg [⟨(some 14), .mov (.t 6), none⟩,
    ⟨(some 15), .bin .neq (.t 14) (.c (.v (.int .i64 0))), none⟩,
    ⟨(some 13), .mov (.t 15), none⟩] []) <|
  .keep [0, 1, 4, 5, 6, 13] []) <|
  .cond (.t 13) (.skip) <|
  .seq (.seq (.reg [⟨(some 17), .mov (.t 4), none⟩,
    ⟨(some 18), .bin .lss (.t 17) (.c (.v (.int .i64 0))), none⟩,
    ⟨(some 16), .mov (.t 18), none⟩] []) <|
  .keep [0, 1, 4, 5, 6, 16] []) <|
  .cond (.t 16) (.seq (.reg [⟨(some 6), .mov (.c (.v (.int .i64 2))), none⟩] []) <|
  .keep [4, 5, 6] []) <|
  .seq (.seq (.reg [⟨(some 20), .mov (.t 4), none⟩,
    ⟨(some 21), .mov (.t 0), none⟩,
    ⟨(some 22), .len (.t 21), none⟩,
    ⟨(some 23), .mov (.t 5), none⟩,
    ⟨(some 24), .bin .sub (.t 22) (.t 23), none⟩,
    ⟨(some 25), .mov (.t 1), none⟩,
    ⟨(some 26), .bin .quo (.t 24) (.t 25), none⟩,
    ⟨(some 27), .bin .gtr (.t 20) (.t 26), none⟩,
    ⟨(some 19), .mov (.t 27), none⟩] []) <|
  .keep [4, 5, 6, 19] []) <|
  .cond (.t 19) (.seq (.reg [⟨(some 6), .mov (.c (.v (.int .i64 3))), none⟩] []) <|
  .keep [4, 5, 6] []) <|
  .skip) <|
  .keep [4, 5, 6] []) <|
  .seq (.seq (.reg [⟨(some 28), .mov (.t 4), none⟩,
    ⟨(some 29), .mov (.t 5), none⟩,
    ⟨(some 30), .mov (.t 6), none⟩,
    ⟨(some 4), .mov (.t 28), none⟩,
    ⟨(some 5), .mov (.t 29), none⟩,
    ⟨(some 6), .mov (.t 30), none⟩] []) <|
  .keep [4, 5, 6] []) <|
  .ret, [.t 4, .t 5, .t 6]⟩

/- 147: gantry/wire.reader -/
def wire_reader : CF := ⟨2, .seq (.seq (.reg [⟨(some 2), .box (.t 0), none⟩,
    ⟨(some 3), .box (.t 1), none⟩,
    ⟨(some 4), .mov (.c (.v (.nilFunc))), none⟩] []) <|
  .keep [2, 3] [[2], [3]]) <|
  .seq (.seq (.reg [⟨(some 5), .mkfn n_wire_reader_1 [(.t 2), (.t 3)] true, none⟩,
    ⟨(some 4), .mov (.t 5), none⟩] []) <|
  .keep [4] []) <|
  .ret, [.t 4]⟩

/- 148: gantry/gantryref01.count -/
def gantryref01_count : CF := ⟨2, .seq (.seq (.reg [⟨(some 4), .mov (.c (.v (.int .i64 0))), none⟩,
    ⟨(some 5), .mov (.c (.v (.int .i64 0))), none⟩,
    ⟨(some 6), .mov (.c (.v (.int .i64 0))), none⟩] []) <|
  .keep [0, 1] []) <|
  .seq (.seq (.reg [⟨(some 11), .mov (.t 0), none⟩,
    ⟨(some 12), .call n_gantryref01_GetInt [(.t 11)] false, none⟩,
    ⟨(some 10), .mov (.t 12), none⟩,
    ⟨(some 13), .ext (.t 10) 0, none⟩,
    ⟨(some 14), .ext (.t 10) 1, none⟩,
    ⟨(some 15), .ext (.t 10) 2, none⟩,
    ⟨(some 7), .mov (.t 13), none⟩,
    ⟨(some 8), .mov (.t 14), none⟩,
    ⟨(some 9), .mov (.t 15), none⟩] []) <|
  .keep [0, 1, 7, 8, 9] []) <|
  .seq (.seq (.seq (.reg [⟨(some 16), .mov (.t 9), none⟩,
    ⟨(some 17), .bin .neq (.t 16) (.c (.v (.int .i64 0))), none⟩] []) <|
  .keep [0, 1, 7, 8, 9, 17] []) <|
  .cond (.t 17) (.seq (.seq (.reg [⟨(some 18), .mov (.t 9), none⟩,
    ⟨(some 4), .mov (.c (.v (.int .i64 0))), none⟩,
    ⟨(some 5), .mov (.c (.v (.int .i64 0))), none⟩,
    ⟨(some 6), .mov (.t 18), none⟩] []) <|
  .keep [4, 5, 6] []) <|
  .ret) <|
  .skip) <|
  .seq (.seq (.seq (.reg [⟨(some 19), .mov (.t 7), none⟩,
    ⟨(some 20), .bin .lss (.t 19) (.c (.v (.int .i64 0))), none⟩] []) <|
  .keep [0, 1, 7, 8, 20] []) <|
  .cond (.t 20) (.seq (.seq (.reg [⟨(some 4), .mov (.c (.v (.int .i64 0))), none⟩,
    ⟨(some 5), .mov (.c (.v (.int .i64 0))), none⟩,
    ⟨(some 6), .mov (.c (.v (.int .i64 2))), none⟩] []) <|
  .keep [4, 5, 6] []) <|
  .ret) <|
  .skip) <|
  .seq (.seq (.seq (.reg [⟨(some 21), .mov (.t 7), none⟩,
    ⟨(some 22), .mov (.t 0), none⟩,
    ⟨(some 23), .len (.t 22), none⟩,
    ⟨(some 24), .bin .gtr (.t 21) (.t 23), none⟩,
    ⟨(some 25), .mov (.t 24), none⟩,
    ⟨(some 26), .mov (.t 7), (some (25, false))⟩,
    ⟨(some 27), .mov (.t 1), (some (25, false))⟩,
    ⟨(some 28), .bin .mul (.t 26) (.t 27), (some (25, false))⟩,
    ⟨(some 29), .mov (.t 0), (some (25, false))⟩,
    ⟨(some 30), .len (.t 29), (some (25, false))⟩,
    ⟨(some 31), .mov (.t 8), (some (25, false))⟩,
    ⟨(some 32), .bin .sub (.t 30) (.t 31), (some (25, false))⟩,
    ⟨(some 33), .bin .gtr (.t 28) (.t 32), (some (25, false))⟩,
    ⟨(some 34), .pick (.t 25) (.c (.v (.bool true))) (.t 33), none⟩] []) <|
  .keep [7, 8, 34] []) <|
  .cond (.t 34) (.seq (.seq (.reg [⟨(some 4), .mov (.c (.v (.int .i64 0))), none⟩,
    ⟨(some 5), .mov (.c (.v (.int .i64 0))), none⟩,
    ⟨(some 6), .mov (.c (.v (.int .i64 3))), none⟩] []) <|
  .keep [4, 5, 6] []) <|
  .ret) <|
  .skip) <|
  .seq (.seq (.reg [⟨(some 35), .mov (.t 7), none⟩,
    ⟨(some 36), .mov (.t 8), none⟩,
    ⟨(some 4), .mov (.t 35), none⟩,
    ⟨(some 5), .mov (.t 36), none⟩,
    ⟨(some 6), .mov (.c (.v (.int .i64 0))), none⟩] []) <|
  .keep [4, 5, 6] []) <|
  .ret, [.t 4, .t 5, .t 6]⟩

/- 149: slices.IndexFunc[[]int,int] -/
def slices_IndexFunc_int_int_l0 : C :=
  .seq (.seq (.seq (.reg [⟨(some 9), .bin .lss (.t 8) (.t 7), none⟩] []) <|
  .keep [0, 1, 7, 8, 9] []) <|
  .seq (.cond (.t 9) (.skip) <|
  .seq (.keep [] []) <|
  .exit 0) <|
  .seq (.seq (.blk 1 <|
  .seq (.seq (.reg [⟨(some 10), .mov (.t 8), none⟩,
    ⟨(some 5), .mov (.t 10), none⟩] []) <|
  .keep [0, 1, 5, 7, 8] []) <|
  .seq (.seq (.reg [⟨(some 11), .mov (.t 1), none⟩,
    ⟨(some 12), .mov (.t 0), none⟩,
    ⟨(some 13), .mov (.t 5), none⟩,
    ⟨(some 14), .ixa 1 (.t 12) (.t 13), none⟩,
    ⟨(some 15), .load none (.t 14), none⟩,
    ⟨(some 16), .calv (.t 11) [(.t 15)], none⟩] []) <|
  .keep [0, 1, 5, 7, 8, 16] []) <|
  .cond (.t 16) (.seq (.seq (.reg [⟨(some 17), .mov (.t 5), none⟩,
    ⟨(some 4), .mov (.t 17), none⟩] []) <|
  .keep [4] []) <|
  .ret) <|
  .skip) <|
  .keep [0, 1, 7, 8] []) <|
  .seq (.reg [⟨(some 18), .bin .add (.t 8) (.c (.v (.int .i64 1))), none⟩,
    ⟨(some 8), .mov (.t 18), none⟩] []) <|
  .keep [0, 1, 7, 8] []) <|
  .keep [0, 1, 7, 8] []
def slices_IndexFunc_int_int : CF := ⟨2, .seq (.seq (.reg [⟨(some 4), .mov (.c (.v (.int .i64 0))), none⟩] []) <|
  .keep [0, 1] []) <|
  .seq (.seq (.seq (.reg [⟨(some 6), .mov (.t 0), none⟩,
    ⟨(some 7), .len (.t 6), none⟩,
    ⟨(some 8), .mov (.c (.v (.int .i64 0))), none⟩] []) <|
  .keep [0, 1, 7, 8] []) <|
  .seq (.blk 0 <|
  .seq (.keep [0, 1, 7, 8] []) <|
  .loop slices_IndexFunc_int_int_l0) <|
  .keep [] []) <|
  .seq (.seq (.reg [⟨(some 4), .mov (.c (.v (.int .i64 (-1)))), none⟩] []) <|
  .keep [4] []) <|
  .ret, [.t 4]⟩

/- 150: gantry/integer.scaled -/
def integer_scaled_l0 : C :=
  .seq (.seq (.seq (.reg [⟨(some 17), .bin .lss (.t 16) (.t 15), none⟩] []) <|
  .keep [0, 1, 5, 6, 14, 15, 16, 17] [[13]]) <|
  .seq (.cond (.t 17) (.skip) <|
  .seq (.keep [0, 5, 6] [[13]]) <|
  .exit 0) <|
  .seq (.seq (.blk 1 <|
  .seq (.seq (.reg [⟨(some 18), .mov (.t 16), none⟩,
    ⟨(some 19), .ixa 1 (.t 14) (.t 16), none⟩,
    ⟨(some 20), .load none (.t 19), none⟩,
    ⟨(some 7), .mov (.t 18), none⟩,
    ⟨(some 8), .mov (.t 20), none⟩] []) <|
  .keep [0, 1, 5, 6, 7, 8, 14, 15, 16] [[13]]) <|
  .seq (.seq (.reg [⟨(some 21), .mov (.t 8), none⟩,
    ⟨(some 22), .mov (.t 1), none⟩,
    ⟨(some 23), .bin .mul (.t 21) (.t 22), none⟩,
    ⟨(some 24), .mov (.t 6), none⟩,
    ⟨(some 25), .bin .add (.t 23) (.t 24), none⟩,
    ⟨(some 9), .mov (.t 25), none⟩] []) <|
  .keep [0, 1, 5, 7, 9, 14, 15, 16] [[13]]) <|
  .seq (.reg [⟨(some 26), .mov (.t 5), none⟩,
    ⟨(some 27), .mov (.t 7), none⟩,
    ⟨(some 28), .mov (.t 9), none⟩,
    ⟨(some 29), .bin .rem (.t 28) (.c (.v (.int .i64 1000000000))), none⟩,
    ⟨(some 30), .mov (.t 9), none⟩,
    ⟨(some 31), .bin .quo (.t 30) (.c (.v (.int .i64 1000000000))), none⟩,
    ⟨(some 32), .ixa 1 (.t 26) (.t 27), none⟩,
    ⟨none, .store 1 (.t 32) (.t 29), none⟩,
    ⟨(some 6), .mov (.t 31), none⟩] []) <|
  .keep [0, 1, 5, 6, 14, 15, 16] [[13]]) <|
  .keep [0, 1, 5, 6, 14, 15, 16] [[13]]) <|
  .seq (.reg [⟨(some 33), .bin .add (.t 16) (.c (.v (.int .i64 1))), none⟩,
    ⟨(some 16), .mov (.t 33), none⟩] []) <|
  .keep [0, 1, 5, 6, 14, 15, 16] [[13]]) <|
  .keep [0, 1, 5, 6, 14, 15, 16] [[13]]
def integer_scaled : CF := ⟨2, .seq (.seq (.reg [⟨(some 4), .mov (.c (.z true)), none⟩] []) <|
  .keep [0, 1] []) <|
  .seq (.seq (.reg [⟨(some 10), .mov (.t 0), none⟩,
    ⟨(some 11), .len (.t 10), none⟩,
    ⟨(some 12), .bin .add (.t 11) (.c (.v (.int .i64 1))), none⟩,
    ⟨(some 13), .mksl 1 8 [.v (.int .i64 0)] (.t 12) (.t 12), none⟩,
    ⟨(some 5), .mov (.t 13), none⟩] []) <|
  .keep [0, 1, 5] [[13]]) <|
  .seq (.seq (.reg [⟨(some 6), .mov (.c (.v (.int .i64 0))), none⟩] []) <|
  .keep [0, 1, 5, 6] [[13]]) <|
  .seq (.seq (.seq (.reg [⟨(some 14), .mov (.t 0), none⟩,
    ⟨(some 15), .len (.t 14), none⟩,
    ⟨(some 16), .mov (.c (.v (.int .i64 0))), none⟩] []) <|
  .keep [0, 1, 5, 6, 14, 15, 16] [[13]]) <|
  .seq (.blk 0 <|
  .seq (.keep [0, 1, 5, 6, 14, 15, 16] [[13]]) <|
  .loop integer_scaled_l0) <|
  .keep [0, 5, 6] [[13]]) <|
  .seq (.seq (.reg [⟨(some 34), .mov (.t 5), none⟩,
    ⟨(some 35), .mov (.t 0), none⟩,
    ⟨(some 36), .len (.t 35), none⟩,
    ⟨(some 37), .mov (.t 6), none⟩,
    ⟨(some 38), .ixa 1 (.t 34) (.t 36), none⟩,
    ⟨none, .store 1 (.t 38) (.t 37), none⟩] []) <|
  .keep [5] [[13]]) <|
  .seq (.seq (.reg [⟨(some 39), .mov (.t 5), none⟩,
    ⟨(some 4), .mov (.t 39), none⟩] []) <|
  .keep [4] [[13]]) <|
  .ret, [.t 4]⟩

/- 151: gantry/wire.reader$1 -/
def wire_reader_1 : CF := ⟨2, .seq (.seq (.reg [⟨(some 2), .mov (.c (.v (.int .i64 0))), none⟩,
    ⟨(some 3), .mov (.c (.v (.int .i64 0))), none⟩,
    ⟨(some 4), .mov (.c (.v (.int .i64 0))), none⟩] []) <|
  .keep [0, 1] []) <|
  .seq (.seq (.reg [⟨(some 9), .load none (.t 0), none⟩,
    ⟨(some 10), .load none (.t 1), none⟩,
    ⟨(some 11), .slc 1 (.t 9) (some (.t 10)) none none, none⟩,
    ⟨(some 12), .call n_wire_GetInt [(.t 11)] false, none⟩,
    ⟨(some 8), .mov (.t 12), none⟩,
    ⟨(some 13), .ext (.t 8) 0, none⟩,
    ⟨(some 14), .ext (.t 8) 1, none⟩,
    ⟨(some 15), .ext (.t 8) 2, none⟩,
    ⟨(some 5), .mov (.t 13), none⟩,
    ⟨(some 6), .mov (.t 14), none⟩,
    ⟨(some 7), .mov (.t 15), none⟩] []) <|
  .keep [1, 5, 6, 7] []) <|
  .seq (.seq (.reg [⟨(some 16), .load none (.t 1), none⟩,
    ⟨(some 17), .mov (.t 6), none⟩,
    ⟨(some 18), .bin .add (.t 16) (.t 17), none⟩,
    ⟨none, .store 1 (.t 1) (.t 18), none⟩] []) <|
  .keep [1, 5, 7] []) <|
  .seq (.seq (.reg [⟨(some 19), .mov (.t 5), none⟩,
    ⟨(some 20), .load none (.t 1), none⟩,
    ⟨(some 21), .mov (.t 7), none⟩,
    ⟨(some 2), .mov (.t 19), none⟩,
    ⟨(some 3), .mov (.t 20), none⟩,
    ⟨(some 4), .mov (.t 21), none⟩] []) <|
  .keep [2, 3, 4] []) <|
  .ret, [.t 2, .t 3, .t 4]⟩

end Go.AM

set_option maxRecDepth 100000
namespace Go.AM
open Go Go.Proofs

def ft : Nat → Option CF
  | 3 => some gantrylaw06_PolyDivides
  | 4 => some gantrylaw06_PolyComputes
  | 5 => some gantrylaw06_PolyRing
  | 7 => some gantryref06_Poly
  | 8 => some gantryref06_Mul
  | 9 => some gantryref06_Derive
  | 10 => some poly_Div
  | 11 => some gantryref06_Div
  | 12 => some gantryref06_Same
  | 13 => some poly_Gcd
  | 14 => some gantryref06_Gcd
  | 15 => some poly_Free
  | 16 => some gantryref06_Free
  | 17 => some gantrylaw06_lives
  | 18 => some gantryref06_Small
  | 19 => some gantryref06_Scale
  | 20 => some gantryref05_Of
  | 21 => some poly_Add
  | 22 => some gantryref06_Add
  | 23 => some poly_Sub
  | 24 => some gantryref06_Sub
  | 25 => some poly_Mul
  | 26 => some poly_Scale
  | 27 => some gantryref05_Same
  | 28 => some poly_Eval
  | 29 => some gantryref06_Eval
  | 30 => some poly_Derive
  | 31 => some poly_Shift
  | 32 => some gantryref06_Shift
  | 33 => some rat_Same
  | 34 => some rat_Add
  | 35 => some rat_Mul
  | 36 => some poly_Encode
  | 37 => some gantryref01_Same
  | 38 => some gantryref06_Encode
  | 39 => some gantryref01_Around
  | 40 => some poly_Decode
  | 41 => some gantryref06_Decode
  | 42 => some gantryref01_At
  | 43 => some gantryref06_Trim
  | 44 => some gantryref05_Neg
  | 45 => some gantryref05_Add
  | 46 => some gantryref05_Mul
  | 47 => some slices_Clone_api_Poly_api_Rat
  | 48 => some rat_Div
  | 49 => some rat_Sub
  | 50 => some poly_Trim
  | 51 => some gantryref05_Div
  | 52 => some poly_monic
  | 53 => some gantryref06_Monic
  | 54 => some gantrylaw06_of
  | 55 => some gantrylaw06_is
  | 56 => some poly_Degree
  | 57 => some poly_Valid
  | 58 => some gantryref05_Make
  | 59 => some gantryref04_Of
  | 60 => some poly_made
  | 61 => some poly_Add_1
  | 62 => some poly_at
  | 63 => some gantryref06_At
  | 64 => some poly_Sub_1
  | 65 => some poly_Mul_1
  | 66 => some poly_Scale_1
  | 67 => some gantryref04_Same
  | 68 => some slices_Backward_api_Poly_api_Rat
  | 69 => some poly_Derive_1
  | 70 => some rat_Of
  | 71 => some rat_Same_1
  | 72 => some slices_Equal_int_int
  | 73 => some integer_Add
  | 74 => some rat_Den
  | 75 => some rat_Make
  | 76 => some integer_Mul
  | 77 => some rat_lowest
  | 78 => some wire_Int
  | 79 => some rat_Encode
  | 80 => some gantryref01_Int
  | 81 => some gantryref05_Encode
  | 82 => some wire_GetInt
  | 83 => some rat_Decode
  | 84 => some gantryref01_GetInt
  | 85 => some gantryref05_Decode
  | 86 => some gantryref06_Valid
  | 87 => some gantryref05_Sign
  | 88 => some gantryref04_Neg
  | 89 => some gantryref04_Mul
  | 90 => some gantryref05_Den
  | 91 => some gantryref04_Add
  | 92 => some rat_Neg
  | 93 => some rat_Sign
  | 94 => some slices_ContainsFunc_api_Poly_api_Rat
  | 95 => some poly_Valid_1
  | 96 => some rat_Valid
  | 97 => some gantryref04_Gcd
  | 98 => some gantryref04_Div
  | 99 => some gantryref05_one
  | 100 => some gantryref04_normal
  | 101 => some slices_Backward_api_Poly_api_Rat_1
  | 102 => some integer_Of
  | 103 => some integer_of
  | 104 => some integer_plus
  | 105 => some integer_compare
  | 106 => some integer_minus
  | 107 => some rat_one
  | 108 => some integer_Gcd
  | 109 => some rat_unit
  | 110 => some integer_Div
  | 111 => some integer_unsigned
  | 112 => some integer_Neg
  | 114 => some integer_Encode
  | 115 => some gantryref04_Encode
  | 116 => some integer_Decode
  | 117 => some gantryref04_Decode
  | 118 => some gantryref05_Valid
  | 119 => some gantryref04_Sign
  | 120 => some gantryref04_plus
  | 121 => some gantryref04_compared
  | 122 => some gantryref04_minus
  | 123 => some integer_Sign
  | 124 => some slices_IndexFunc_api_Poly_api_Rat
  | 125 => some integer_Valid
  | 126 => some gantryref04_tiny
  | 127 => some gantryref04_divided
  | 128 => some cmp_Compare_int
  | 129 => some integer_two
  | 130 => some integer_divide
  | 132 => some wire_Ints
  | 133 => some gantryref01_Ints
  | 134 => some wire_GetInts
  | 135 => some slices_Clone_int_int
  | 136 => some gantryref01_GetInts
  | 137 => some gantryref04_Valid
  | 138 => some gantryref04_Compare
  | 139 => some gantryref04_digit
  | 140 => some slices_ContainsFunc_int_int
  | 141 => some integer_Valid_1
  | 142 => some gantryref04_times
  | 143 => some cmp_isNaN_int
  | 144 => some integer_short
  | 145 => some integer_long
  | 146 => some wire_count
  | 147 => some wire_reader
  | 148 => some gantryref01_count
  | 149 => some slices_IndexFunc_int_int
  | 150 => some integer_scaled
  | 151 => some wire_reader_1
  | _ => none
theorem gantrylaw06_PolyDivides_c : compF Tryz.prog Tryz.f3 = some gantrylaw06_PolyDivides.er := by kernel_rfl
theorem gantrylaw06_PolyComputes_c : compF Tryz.prog Tryz.f4 = some gantrylaw06_PolyComputes.er := by kernel_rfl
theorem gantrylaw06_PolyRing_c : compF Tryz.prog Tryz.f5 = some gantrylaw06_PolyRing.er := by kernel_rfl
theorem gantryref06_Poly_c : compF Tryz.prog Tryz.f7 = some gantryref06_Poly.er := by kernel_rfl
theorem gantryref06_Mul_c : compF Tryz.prog Tryz.f8 = some gantryref06_Mul.er := by kernel_rfl
theorem gantryref06_Derive_c : compF Tryz.prog Tryz.f9 = some gantryref06_Derive.er := by kernel_rfl
theorem poly_Div_c : compF Tryz.prog Tryz.f10 = some poly_Div.er := by kernel_rfl
theorem gantryref06_Div_c : compF Tryz.prog Tryz.f11 = some gantryref06_Div.er := by kernel_rfl
theorem gantryref06_Same_c : compF Tryz.prog Tryz.f12 = some gantryref06_Same.er := by kernel_rfl
theorem poly_Gcd_c : compF Tryz.prog Tryz.f13 = some poly_Gcd.er := by kernel_rfl
theorem gantryref06_Gcd_c : compF Tryz.prog Tryz.f14 = some gantryref06_Gcd.er := by kernel_rfl
theorem poly_Free_c : compF Tryz.prog Tryz.f15 = some poly_Free.er := by kernel_rfl
theorem gantryref06_Free_c : compF Tryz.prog Tryz.f16 = some gantryref06_Free.er := by kernel_rfl
theorem gantrylaw06_lives_c : compF Tryz.prog Tryz.f17 = some gantrylaw06_lives.er := by kernel_rfl
theorem gantryref06_Small_c : compF Tryz.prog Tryz.f18 = some gantryref06_Small.er := by kernel_rfl
theorem gantryref06_Scale_c : compF Tryz.prog Tryz.f19 = some gantryref06_Scale.er := by kernel_rfl
theorem gantryref05_Of_c : compF Tryz.prog Tryz.f20 = some gantryref05_Of.er := by kernel_rfl
theorem poly_Add_c : compF Tryz.prog Tryz.f21 = some poly_Add.er := by kernel_rfl
theorem gantryref06_Add_c : compF Tryz.prog Tryz.f22 = some gantryref06_Add.er := by kernel_rfl
theorem poly_Sub_c : compF Tryz.prog Tryz.f23 = some poly_Sub.er := by kernel_rfl
theorem gantryref06_Sub_c : compF Tryz.prog Tryz.f24 = some gantryref06_Sub.er := by kernel_rfl
theorem poly_Mul_c : compF Tryz.prog Tryz.f25 = some poly_Mul.er := by kernel_rfl
theorem poly_Scale_c : compF Tryz.prog Tryz.f26 = some poly_Scale.er := by kernel_rfl
theorem gantryref05_Same_c : compF Tryz.prog Tryz.f27 = some gantryref05_Same.er := by kernel_rfl
theorem poly_Eval_c : compF Tryz.prog Tryz.f28 = some poly_Eval.er := by kernel_rfl
theorem gantryref06_Eval_c : compF Tryz.prog Tryz.f29 = some gantryref06_Eval.er := by kernel_rfl
theorem poly_Derive_c : compF Tryz.prog Tryz.f30 = some poly_Derive.er := by kernel_rfl
theorem poly_Shift_c : compF Tryz.prog Tryz.f31 = some poly_Shift.er := by kernel_rfl
theorem gantryref06_Shift_c : compF Tryz.prog Tryz.f32 = some gantryref06_Shift.er := by kernel_rfl
theorem rat_Same_c : compF Tryz.prog Tryz.f33 = some rat_Same.er := by kernel_rfl
theorem rat_Add_c : compF Tryz.prog Tryz.f34 = some rat_Add.er := by kernel_rfl
theorem rat_Mul_c : compF Tryz.prog Tryz.f35 = some rat_Mul.er := by kernel_rfl
theorem poly_Encode_c : compF Tryz.prog Tryz.f36 = some poly_Encode.er := by kernel_rfl
theorem gantryref01_Same_c : compF Tryz.prog Tryz.f37 = some gantryref01_Same.er := by kernel_rfl
theorem gantryref06_Encode_c : compF Tryz.prog Tryz.f38 = some gantryref06_Encode.er := by kernel_rfl
theorem gantryref01_Around_c : compF Tryz.prog Tryz.f39 = some gantryref01_Around.er := by kernel_rfl
theorem poly_Decode_c : compF Tryz.prog Tryz.f40 = some poly_Decode.er := by kernel_rfl
theorem gantryref06_Decode_c : compF Tryz.prog Tryz.f41 = some gantryref06_Decode.er := by kernel_rfl
theorem gantryref01_At_c : compF Tryz.prog Tryz.f42 = some gantryref01_At.er := by kernel_rfl
theorem gantryref06_Trim_c : compF Tryz.prog Tryz.f43 = some gantryref06_Trim.er := by kernel_rfl
theorem gantryref05_Neg_c : compF Tryz.prog Tryz.f44 = some gantryref05_Neg.er := by kernel_rfl
theorem gantryref05_Add_c : compF Tryz.prog Tryz.f45 = some gantryref05_Add.er := by kernel_rfl
theorem gantryref05_Mul_c : compF Tryz.prog Tryz.f46 = some gantryref05_Mul.er := by kernel_rfl
theorem slices_Clone_api_Poly_api_Rat_c : compF Tryz.prog Tryz.f47 = some slices_Clone_api_Poly_api_Rat.er := by kernel_rfl
theorem rat_Div_c : compF Tryz.prog Tryz.f48 = some rat_Div.er := by kernel_rfl
theorem rat_Sub_c : compF Tryz.prog Tryz.f49 = some rat_Sub.er := by kernel_rfl
theorem poly_Trim_c : compF Tryz.prog Tryz.f50 = some poly_Trim.er := by kernel_rfl
theorem gantryref05_Div_c : compF Tryz.prog Tryz.f51 = some gantryref05_Div.er := by kernel_rfl
theorem poly_monic_c : compF Tryz.prog Tryz.f52 = some poly_monic.er := by kernel_rfl
theorem gantryref06_Monic_c : compF Tryz.prog Tryz.f53 = some gantryref06_Monic.er := by kernel_rfl
theorem gantrylaw06_of_c : compF Tryz.prog Tryz.f54 = some gantrylaw06_of.er := by kernel_rfl
theorem gantrylaw06_is_c : compF Tryz.prog Tryz.f55 = some gantrylaw06_is.er := by kernel_rfl
theorem poly_Degree_c : compF Tryz.prog Tryz.f56 = some poly_Degree.er := by kernel_rfl
theorem poly_Valid_c : compF Tryz.prog Tryz.f57 = some poly_Valid.er := by kernel_rfl
theorem gantryref05_Make_c : compF Tryz.prog Tryz.f58 = some gantryref05_Make.er := by kernel_rfl
theorem gantryref04_Of_c : compF Tryz.prog Tryz.f59 = some gantryref04_Of.er := by kernel_rfl
theorem poly_made_c : compF Tryz.prog Tryz.f60 = some poly_made.er := by kernel_rfl
theorem poly_Add_1_c : compF Tryz.prog Tryz.f61 = some poly_Add_1.er := by kernel_rfl
theorem poly_at_c : compF Tryz.prog Tryz.f62 = some poly_at.er := by kernel_rfl
theorem gantryref06_At_c : compF Tryz.prog Tryz.f63 = some gantryref06_At.er := by kernel_rfl
theorem poly_Sub_1_c : compF Tryz.prog Tryz.f64 = some poly_Sub_1.er := by kernel_rfl
theorem poly_Mul_1_c : compF Tryz.prog Tryz.f65 = some poly_Mul_1.er := by kernel_rfl
theorem poly_Scale_1_c : compF Tryz.prog Tryz.f66 = some poly_Scale_1.er := by kernel_rfl
theorem gantryref04_Same_c : compF Tryz.prog Tryz.f67 = some gantryref04_Same.er := by kernel_rfl
theorem slices_Backward_api_Poly_api_Rat_c : compF Tryz.prog Tryz.f68 = some slices_Backward_api_Poly_api_Rat.er := by kernel_rfl
theorem poly_Derive_1_c : compF Tryz.prog Tryz.f69 = some poly_Derive_1.er := by kernel_rfl
theorem rat_Of_c : compF Tryz.prog Tryz.f70 = some rat_Of.er := by kernel_rfl
theorem rat_Same_1_c : compF Tryz.prog Tryz.f71 = some rat_Same_1.er := by kernel_rfl
theorem slices_Equal_int_int_c : compF Tryz.prog Tryz.f72 = some slices_Equal_int_int.er := by kernel_rfl
theorem integer_Add_c : compF Tryz.prog Tryz.f73 = some integer_Add.er := by kernel_rfl
theorem rat_Den_c : compF Tryz.prog Tryz.f74 = some rat_Den.er := by kernel_rfl
theorem rat_Make_c : compF Tryz.prog Tryz.f75 = some rat_Make.er := by kernel_rfl
theorem integer_Mul_c : compF Tryz.prog Tryz.f76 = some integer_Mul.er := by kernel_rfl
theorem rat_lowest_c : compF Tryz.prog Tryz.f77 = some rat_lowest.er := by kernel_rfl
theorem wire_Int_c : compF Tryz.prog Tryz.f78 = some wire_Int.er := by kernel_rfl
theorem rat_Encode_c : compF Tryz.prog Tryz.f79 = some rat_Encode.er := by kernel_rfl
theorem gantryref01_Int_c : compF Tryz.prog Tryz.f80 = some gantryref01_Int.er := by kernel_rfl
theorem gantryref05_Encode_c : compF Tryz.prog Tryz.f81 = some gantryref05_Encode.er := by kernel_rfl
theorem wire_GetInt_c : compF Tryz.prog Tryz.f82 = some wire_GetInt.er := by kernel_rfl
theorem rat_Decode_c : compF Tryz.prog Tryz.f83 = some rat_Decode.er := by kernel_rfl
theorem gantryref01_GetInt_c : compF Tryz.prog Tryz.f84 = some gantryref01_GetInt.er := by kernel_rfl
theorem gantryref05_Decode_c : compF Tryz.prog Tryz.f85 = some gantryref05_Decode.er := by kernel_rfl
theorem gantryref06_Valid_c : compF Tryz.prog Tryz.f86 = some gantryref06_Valid.er := by kernel_rfl
theorem gantryref05_Sign_c : compF Tryz.prog Tryz.f87 = some gantryref05_Sign.er := by kernel_rfl
theorem gantryref04_Neg_c : compF Tryz.prog Tryz.f88 = some gantryref04_Neg.er := by kernel_rfl
theorem gantryref04_Mul_c : compF Tryz.prog Tryz.f89 = some gantryref04_Mul.er := by kernel_rfl
theorem gantryref05_Den_c : compF Tryz.prog Tryz.f90 = some gantryref05_Den.er := by kernel_rfl
theorem gantryref04_Add_c : compF Tryz.prog Tryz.f91 = some gantryref04_Add.er := by kernel_rfl
theorem rat_Neg_c : compF Tryz.prog Tryz.f92 = some rat_Neg.er := by kernel_rfl
theorem rat_Sign_c : compF Tryz.prog Tryz.f93 = some rat_Sign.er := by kernel_rfl
theorem slices_ContainsFunc_api_Poly_api_Rat_c : compF Tryz.prog Tryz.f94 = some slices_ContainsFunc_api_Poly_api_Rat.er := by kernel_rfl
theorem poly_Valid_1_c : compF Tryz.prog Tryz.f95 = some poly_Valid_1.er := by kernel_rfl
theorem rat_Valid_c : compF Tryz.prog Tryz.f96 = some rat_Valid.er := by kernel_rfl
theorem gantryref04_Gcd_c : compF Tryz.prog Tryz.f97 = some gantryref04_Gcd.er := by kernel_rfl
theorem gantryref04_Div_c : compF Tryz.prog Tryz.f98 = some gantryref04_Div.er := by kernel_rfl
theorem gantryref05_one_c : compF Tryz.prog Tryz.f99 = some gantryref05_one.er := by kernel_rfl
theorem gantryref04_normal_c : compF Tryz.prog Tryz.f100 = some gantryref04_normal.er := by kernel_rfl
theorem slices_Backward_api_Poly_api_Rat_1_c : compF Tryz.prog Tryz.f101 = some slices_Backward_api_Poly_api_Rat_1.er := by kernel_rfl
theorem integer_Of_c : compF Tryz.prog Tryz.f102 = some integer_Of.er := by kernel_rfl
theorem integer_of_c : compF Tryz.prog Tryz.f103 = some integer_of.er := by kernel_rfl
theorem integer_plus_c : compF Tryz.prog Tryz.f104 = some integer_plus.er := by kernel_rfl
theorem integer_compare_c : compF Tryz.prog Tryz.f105 = some integer_compare.er := by kernel_rfl
theorem integer_minus_c : compF Tryz.prog Tryz.f106 = some integer_minus.er := by kernel_rfl
theorem rat_one_c : compF Tryz.prog Tryz.f107 = some rat_one.er := by kernel_rfl
theorem integer_Gcd_c : compF Tryz.prog Tryz.f108 = some integer_Gcd.er := by kernel_rfl
theorem rat_unit_c : compF Tryz.prog Tryz.f109 = some rat_unit.er := by kernel_rfl
theorem integer_Div_c : compF Tryz.prog Tryz.f110 = some integer_Div.er := by kernel_rfl
theorem integer_unsigned_c : compF Tryz.prog Tryz.f111 = some integer_unsigned.er := by kernel_rfl
theorem integer_Neg_c : compF Tryz.prog Tryz.f112 = some integer_Neg.er := by kernel_rfl
theorem integer_Encode_c : compF Tryz.prog Tryz.f114 = some integer_Encode.er := by kernel_rfl
theorem gantryref04_Encode_c : compF Tryz.prog Tryz.f115 = some gantryref04_Encode.er := by kernel_rfl
theorem integer_Decode_c : compF Tryz.prog Tryz.f116 = some integer_Decode.er := by kernel_rfl
theorem gantryref04_Decode_c : compF Tryz.prog Tryz.f117 = some gantryref04_Decode.er := by kernel_rfl
theorem gantryref05_Valid_c : compF Tryz.prog Tryz.f118 = some gantryref05_Valid.er := by kernel_rfl
theorem gantryref04_Sign_c : compF Tryz.prog Tryz.f119 = some gantryref04_Sign.er := by kernel_rfl
theorem gantryref04_plus_c : compF Tryz.prog Tryz.f120 = some gantryref04_plus.er := by kernel_rfl
theorem gantryref04_compared_c : compF Tryz.prog Tryz.f121 = some gantryref04_compared.er := by kernel_rfl
theorem gantryref04_minus_c : compF Tryz.prog Tryz.f122 = some gantryref04_minus.er := by kernel_rfl
theorem integer_Sign_c : compF Tryz.prog Tryz.f123 = some integer_Sign.er := by kernel_rfl
theorem slices_IndexFunc_api_Poly_api_Rat_c : compF Tryz.prog Tryz.f124 = some slices_IndexFunc_api_Poly_api_Rat.er := by kernel_rfl
theorem integer_Valid_c : compF Tryz.prog Tryz.f125 = some integer_Valid.er := by kernel_rfl
theorem gantryref04_tiny_c : compF Tryz.prog Tryz.f126 = some gantryref04_tiny.er := by kernel_rfl
theorem gantryref04_divided_c : compF Tryz.prog Tryz.f127 = some gantryref04_divided.er := by kernel_rfl
theorem cmp_Compare_int_c : compF Tryz.prog Tryz.f128 = some cmp_Compare_int.er := by kernel_rfl
theorem integer_two_c : compF Tryz.prog Tryz.f129 = some integer_two.er := by kernel_rfl
theorem integer_divide_c : compF Tryz.prog Tryz.f130 = some integer_divide.er := by kernel_rfl
theorem wire_Ints_c : compF Tryz.prog Tryz.f132 = some wire_Ints.er := by kernel_rfl
theorem gantryref01_Ints_c : compF Tryz.prog Tryz.f133 = some gantryref01_Ints.er := by kernel_rfl
theorem wire_GetInts_c : compF Tryz.prog Tryz.f134 = some wire_GetInts.er := by kernel_rfl
theorem slices_Clone_int_int_c : compF Tryz.prog Tryz.f135 = some slices_Clone_int_int.er := by kernel_rfl
theorem gantryref01_GetInts_c : compF Tryz.prog Tryz.f136 = some gantryref01_GetInts.er := by kernel_rfl
theorem gantryref04_Valid_c : compF Tryz.prog Tryz.f137 = some gantryref04_Valid.er := by kernel_rfl
theorem gantryref04_Compare_c : compF Tryz.prog Tryz.f138 = some gantryref04_Compare.er := by kernel_rfl
theorem gantryref04_digit_c : compF Tryz.prog Tryz.f139 = some gantryref04_digit.er := by kernel_rfl
theorem slices_ContainsFunc_int_int_c : compF Tryz.prog Tryz.f140 = some slices_ContainsFunc_int_int.er := by kernel_rfl
theorem integer_Valid_1_c : compF Tryz.prog Tryz.f141 = some integer_Valid_1.er := by kernel_rfl
theorem gantryref04_times_c : compF Tryz.prog Tryz.f142 = some gantryref04_times.er := by kernel_rfl
theorem cmp_isNaN_int_c : compF Tryz.prog Tryz.f143 = some cmp_isNaN_int.er := by kernel_rfl
theorem integer_short_c : compF Tryz.prog Tryz.f144 = some integer_short.er := by kernel_rfl
theorem integer_long_c : compF Tryz.prog Tryz.f145 = some integer_long.er := by kernel_rfl
theorem wire_count_c : compF Tryz.prog Tryz.f146 = some wire_count.er := by kernel_rfl
theorem wire_reader_c : compF Tryz.prog Tryz.f147 = some wire_reader.er := by kernel_rfl
theorem gantryref01_count_c : compF Tryz.prog Tryz.f148 = some gantryref01_count.er := by kernel_rfl
theorem slices_IndexFunc_int_int_c : compF Tryz.prog Tryz.f149 = some slices_IndexFunc_int_int.er := by kernel_rfl
theorem integer_scaled_c : compF Tryz.prog Tryz.f150 = some integer_scaled.er := by kernel_rfl
theorem wire_reader_1_c : compF Tryz.prog Tryz.f151 = some wire_reader_1.er := by kernel_rfl
theorem ft_ok : ∀ f cf, ft f = some cf → ∃ fn, Tryz.prog.funcs[f]? = some fn ∧ compF Tryz.prog fn = some cf.er := by
  intro f cf h
  unfold ft at h
  split at h
  · cases h; exact ⟨_, Tryz.func3, gantrylaw06_PolyDivides_c⟩
  · cases h; exact ⟨_, Tryz.func4, gantrylaw06_PolyComputes_c⟩
  · cases h; exact ⟨_, Tryz.func5, gantrylaw06_PolyRing_c⟩
  · cases h; exact ⟨_, Tryz.func7, gantryref06_Poly_c⟩
  · cases h; exact ⟨_, Tryz.func8, gantryref06_Mul_c⟩
  · cases h; exact ⟨_, Tryz.func9, gantryref06_Derive_c⟩
  · cases h; exact ⟨_, Tryz.func10, poly_Div_c⟩
  · cases h; exact ⟨_, Tryz.func11, gantryref06_Div_c⟩
  · cases h; exact ⟨_, Tryz.func12, gantryref06_Same_c⟩
  · cases h; exact ⟨_, Tryz.func13, poly_Gcd_c⟩
  · cases h; exact ⟨_, Tryz.func14, gantryref06_Gcd_c⟩
  · cases h; exact ⟨_, Tryz.func15, poly_Free_c⟩
  · cases h; exact ⟨_, Tryz.func16, gantryref06_Free_c⟩
  · cases h; exact ⟨_, Tryz.func17, gantrylaw06_lives_c⟩
  · cases h; exact ⟨_, Tryz.func18, gantryref06_Small_c⟩
  · cases h; exact ⟨_, Tryz.func19, gantryref06_Scale_c⟩
  · cases h; exact ⟨_, Tryz.func20, gantryref05_Of_c⟩
  · cases h; exact ⟨_, Tryz.func21, poly_Add_c⟩
  · cases h; exact ⟨_, Tryz.func22, gantryref06_Add_c⟩
  · cases h; exact ⟨_, Tryz.func23, poly_Sub_c⟩
  · cases h; exact ⟨_, Tryz.func24, gantryref06_Sub_c⟩
  · cases h; exact ⟨_, Tryz.func25, poly_Mul_c⟩
  · cases h; exact ⟨_, Tryz.func26, poly_Scale_c⟩
  · cases h; exact ⟨_, Tryz.func27, gantryref05_Same_c⟩
  · cases h; exact ⟨_, Tryz.func28, poly_Eval_c⟩
  · cases h; exact ⟨_, Tryz.func29, gantryref06_Eval_c⟩
  · cases h; exact ⟨_, Tryz.func30, poly_Derive_c⟩
  · cases h; exact ⟨_, Tryz.func31, poly_Shift_c⟩
  · cases h; exact ⟨_, Tryz.func32, gantryref06_Shift_c⟩
  · cases h; exact ⟨_, Tryz.func33, rat_Same_c⟩
  · cases h; exact ⟨_, Tryz.func34, rat_Add_c⟩
  · cases h; exact ⟨_, Tryz.func35, rat_Mul_c⟩
  · cases h; exact ⟨_, Tryz.func36, poly_Encode_c⟩
  · cases h; exact ⟨_, Tryz.func37, gantryref01_Same_c⟩
  · cases h; exact ⟨_, Tryz.func38, gantryref06_Encode_c⟩
  · cases h; exact ⟨_, Tryz.func39, gantryref01_Around_c⟩
  · cases h; exact ⟨_, Tryz.func40, poly_Decode_c⟩
  · cases h; exact ⟨_, Tryz.func41, gantryref06_Decode_c⟩
  · cases h; exact ⟨_, Tryz.func42, gantryref01_At_c⟩
  · cases h; exact ⟨_, Tryz.func43, gantryref06_Trim_c⟩
  · cases h; exact ⟨_, Tryz.func44, gantryref05_Neg_c⟩
  · cases h; exact ⟨_, Tryz.func45, gantryref05_Add_c⟩
  · cases h; exact ⟨_, Tryz.func46, gantryref05_Mul_c⟩
  · cases h; exact ⟨_, Tryz.func47, slices_Clone_api_Poly_api_Rat_c⟩
  · cases h; exact ⟨_, Tryz.func48, rat_Div_c⟩
  · cases h; exact ⟨_, Tryz.func49, rat_Sub_c⟩
  · cases h; exact ⟨_, Tryz.func50, poly_Trim_c⟩
  · cases h; exact ⟨_, Tryz.func51, gantryref05_Div_c⟩
  · cases h; exact ⟨_, Tryz.func52, poly_monic_c⟩
  · cases h; exact ⟨_, Tryz.func53, gantryref06_Monic_c⟩
  · cases h; exact ⟨_, Tryz.func54, gantrylaw06_of_c⟩
  · cases h; exact ⟨_, Tryz.func55, gantrylaw06_is_c⟩
  · cases h; exact ⟨_, Tryz.func56, poly_Degree_c⟩
  · cases h; exact ⟨_, Tryz.func57, poly_Valid_c⟩
  · cases h; exact ⟨_, Tryz.func58, gantryref05_Make_c⟩
  · cases h; exact ⟨_, Tryz.func59, gantryref04_Of_c⟩
  · cases h; exact ⟨_, Tryz.func60, poly_made_c⟩
  · cases h; exact ⟨_, Tryz.func61, poly_Add_1_c⟩
  · cases h; exact ⟨_, Tryz.func62, poly_at_c⟩
  · cases h; exact ⟨_, Tryz.func63, gantryref06_At_c⟩
  · cases h; exact ⟨_, Tryz.func64, poly_Sub_1_c⟩
  · cases h; exact ⟨_, Tryz.func65, poly_Mul_1_c⟩
  · cases h; exact ⟨_, Tryz.func66, poly_Scale_1_c⟩
  · cases h; exact ⟨_, Tryz.func67, gantryref04_Same_c⟩
  · cases h; exact ⟨_, Tryz.func68, slices_Backward_api_Poly_api_Rat_c⟩
  · cases h; exact ⟨_, Tryz.func69, poly_Derive_1_c⟩
  · cases h; exact ⟨_, Tryz.func70, rat_Of_c⟩
  · cases h; exact ⟨_, Tryz.func71, rat_Same_1_c⟩
  · cases h; exact ⟨_, Tryz.func72, slices_Equal_int_int_c⟩
  · cases h; exact ⟨_, Tryz.func73, integer_Add_c⟩
  · cases h; exact ⟨_, Tryz.func74, rat_Den_c⟩
  · cases h; exact ⟨_, Tryz.func75, rat_Make_c⟩
  · cases h; exact ⟨_, Tryz.func76, integer_Mul_c⟩
  · cases h; exact ⟨_, Tryz.func77, rat_lowest_c⟩
  · cases h; exact ⟨_, Tryz.func78, wire_Int_c⟩
  · cases h; exact ⟨_, Tryz.func79, rat_Encode_c⟩
  · cases h; exact ⟨_, Tryz.func80, gantryref01_Int_c⟩
  · cases h; exact ⟨_, Tryz.func81, gantryref05_Encode_c⟩
  · cases h; exact ⟨_, Tryz.func82, wire_GetInt_c⟩
  · cases h; exact ⟨_, Tryz.func83, rat_Decode_c⟩
  · cases h; exact ⟨_, Tryz.func84, gantryref01_GetInt_c⟩
  · cases h; exact ⟨_, Tryz.func85, gantryref05_Decode_c⟩
  · cases h; exact ⟨_, Tryz.func86, gantryref06_Valid_c⟩
  · cases h; exact ⟨_, Tryz.func87, gantryref05_Sign_c⟩
  · cases h; exact ⟨_, Tryz.func88, gantryref04_Neg_c⟩
  · cases h; exact ⟨_, Tryz.func89, gantryref04_Mul_c⟩
  · cases h; exact ⟨_, Tryz.func90, gantryref05_Den_c⟩
  · cases h; exact ⟨_, Tryz.func91, gantryref04_Add_c⟩
  · cases h; exact ⟨_, Tryz.func92, rat_Neg_c⟩
  · cases h; exact ⟨_, Tryz.func93, rat_Sign_c⟩
  · cases h; exact ⟨_, Tryz.func94, slices_ContainsFunc_api_Poly_api_Rat_c⟩
  · cases h; exact ⟨_, Tryz.func95, poly_Valid_1_c⟩
  · cases h; exact ⟨_, Tryz.func96, rat_Valid_c⟩
  · cases h; exact ⟨_, Tryz.func97, gantryref04_Gcd_c⟩
  · cases h; exact ⟨_, Tryz.func98, gantryref04_Div_c⟩
  · cases h; exact ⟨_, Tryz.func99, gantryref05_one_c⟩
  · cases h; exact ⟨_, Tryz.func100, gantryref04_normal_c⟩
  · cases h; exact ⟨_, Tryz.func101, slices_Backward_api_Poly_api_Rat_1_c⟩
  · cases h; exact ⟨_, Tryz.func102, integer_Of_c⟩
  · cases h; exact ⟨_, Tryz.func103, integer_of_c⟩
  · cases h; exact ⟨_, Tryz.func104, integer_plus_c⟩
  · cases h; exact ⟨_, Tryz.func105, integer_compare_c⟩
  · cases h; exact ⟨_, Tryz.func106, integer_minus_c⟩
  · cases h; exact ⟨_, Tryz.func107, rat_one_c⟩
  · cases h; exact ⟨_, Tryz.func108, integer_Gcd_c⟩
  · cases h; exact ⟨_, Tryz.func109, rat_unit_c⟩
  · cases h; exact ⟨_, Tryz.func110, integer_Div_c⟩
  · cases h; exact ⟨_, Tryz.func111, integer_unsigned_c⟩
  · cases h; exact ⟨_, Tryz.func112, integer_Neg_c⟩
  · cases h; exact ⟨_, Tryz.func114, integer_Encode_c⟩
  · cases h; exact ⟨_, Tryz.func115, gantryref04_Encode_c⟩
  · cases h; exact ⟨_, Tryz.func116, integer_Decode_c⟩
  · cases h; exact ⟨_, Tryz.func117, gantryref04_Decode_c⟩
  · cases h; exact ⟨_, Tryz.func118, gantryref05_Valid_c⟩
  · cases h; exact ⟨_, Tryz.func119, gantryref04_Sign_c⟩
  · cases h; exact ⟨_, Tryz.func120, gantryref04_plus_c⟩
  · cases h; exact ⟨_, Tryz.func121, gantryref04_compared_c⟩
  · cases h; exact ⟨_, Tryz.func122, gantryref04_minus_c⟩
  · cases h; exact ⟨_, Tryz.func123, integer_Sign_c⟩
  · cases h; exact ⟨_, Tryz.func124, slices_IndexFunc_api_Poly_api_Rat_c⟩
  · cases h; exact ⟨_, Tryz.func125, integer_Valid_c⟩
  · cases h; exact ⟨_, Tryz.func126, gantryref04_tiny_c⟩
  · cases h; exact ⟨_, Tryz.func127, gantryref04_divided_c⟩
  · cases h; exact ⟨_, Tryz.func128, cmp_Compare_int_c⟩
  · cases h; exact ⟨_, Tryz.func129, integer_two_c⟩
  · cases h; exact ⟨_, Tryz.func130, integer_divide_c⟩
  · cases h; exact ⟨_, Tryz.func132, wire_Ints_c⟩
  · cases h; exact ⟨_, Tryz.func133, gantryref01_Ints_c⟩
  · cases h; exact ⟨_, Tryz.func134, wire_GetInts_c⟩
  · cases h; exact ⟨_, Tryz.func135, slices_Clone_int_int_c⟩
  · cases h; exact ⟨_, Tryz.func136, gantryref01_GetInts_c⟩
  · cases h; exact ⟨_, Tryz.func137, gantryref04_Valid_c⟩
  · cases h; exact ⟨_, Tryz.func138, gantryref04_Compare_c⟩
  · cases h; exact ⟨_, Tryz.func139, gantryref04_digit_c⟩
  · cases h; exact ⟨_, Tryz.func140, slices_ContainsFunc_int_int_c⟩
  · cases h; exact ⟨_, Tryz.func141, integer_Valid_1_c⟩
  · cases h; exact ⟨_, Tryz.func142, gantryref04_times_c⟩
  · cases h; exact ⟨_, Tryz.func143, cmp_isNaN_int_c⟩
  · cases h; exact ⟨_, Tryz.func144, integer_short_c⟩
  · cases h; exact ⟨_, Tryz.func145, integer_long_c⟩
  · cases h; exact ⟨_, Tryz.func146, wire_count_c⟩
  · cases h; exact ⟨_, Tryz.func147, wire_reader_c⟩
  · cases h; exact ⟨_, Tryz.func148, gantryref01_count_c⟩
  · cases h; exact ⟨_, Tryz.func149, slices_IndexFunc_int_int_c⟩
  · cases h; exact ⟨_, Tryz.func150, integer_scaled_c⟩
  · cases h; exact ⟨_, Tryz.func151, wire_reader_1_c⟩
  · cases h
end Go.AM

/- The seat's functions, and that their small texts are theirs. -/
namespace Go.AM
open Go Go.Proofs
/-- What the seat's iterators yield. -/
class Its where
  it : Nat → List D → Option (List (List D))
abbrev noIts : Its := ⟨fun _ _ => none⟩
def G [Its] : Env := ⟨ft, fun _ _ => none, Its.it⟩
theorem env_ok [Its] (h : ∀ f ds xs, Its.it f ds = some xs → ItOk Tryz.prog f ds xs) : EnvOk Tryz.prog G := ⟨by kernel_rfl, ft_ok, fun _ _ _ _ h => (by cases h), h⟩
theorem env_ok0 : EnvOk Tryz.prog (@G noIts) := @env_ok noIts fun _ _ _ h => by cases h
end Go.AM

/- How the evaluator is run by simp: its equations, and lemmas on data. -/
namespace Go.AM
open Go Go.RowKit


theorem upd_get (f : Fr) (i j : Nat) (x : A) : upd f i x j = if j = i then some x else f j := rfl
theorem hupd_get (f : Hp) (i j : Key) (x : Obj) : hupd f i x j = if j = i then some x else f j := rfl
theorem updO_some (f : Fr) (i : Nat) (x : A) : updO f i (some x) = upd f i x := rfl
theorem hupdO_some (f : Hp) (i : Key) (x : Obj) : hupdO f i (some x) = hupd f i x := rfl
theorem updO_get (f : Fr) (i j : Nat) (x : Option A) : updO f i x j = if j = i then x else f j := rfl
theorem hupdO_get (f : Hp) (i j : Key) (x : Option Obj) : hupdO f i x j = if j = i then x else f j := rfl
theorem fr0_get (i : Nat) : fr0 i = none := rfl
theorem hp0_get (i : Key) : hp0 i = none := rfl

/-- The wrap of a number, behind a wall: nobody unfolds it. -/
theorem w64_ex : ∃ f : Int → Int, ∀ n, IntKind.i64.wrap n = f n := ⟨_, fun _ => rfl⟩
noncomputable def w64 : Int → Int := Classical.choose w64_ex
theorem wrap_i64 (n : Int) : IntKind.i64.wrap n = w64 n := Classical.choose_spec w64_ex n
theorem w64_id {n : Int} (h0 : -9223372036854775808 ≤ n) (h1 : n < 9223372036854775808) : w64 n = n := by
  rw [← wrap_i64]
  unfold IntKind.wrap
  simp only [IntKind.signed, IntKind.bits, Bool.true_and, decide_eq_true_eq, ge_iff_le]
  by_cases h : (2 : Int) ^ (64 - 1) ≤ n % 2 ^ 64
  · rw [if_pos h]; omega
  · rw [if_neg h]; omega

theorem bind_ite {α β : Type} (c : Prop) [Decidable c] (x y : Option α) (f : α → Option β) : (if c then x else y).bind f = if c then x.bind f else y.bind f := by split <;> rfl
theorem map_ite {α β : Type} (c : Prop) [Decidable c] (x y : Option α) (f : α → β) : (if c then x else y).map f = if c then x.map f else y.map f := by split <;> rfl
theorem guardO_true {α : Type} {p : Prop} [Decidable p] (h : p) (x : Option α) : guardO p x = x := if_pos h

/-! ### Rows of numbers -/
def dg (l : List Int) : D := if l = [] then .z true else .row l.length (l.map iv)
theorem dg_nil : dg [] = .z true := rfl
theorem dg_cons (x : Int) (l : List Int) : dg (x :: l) = .row (l.length + 1) (iv x :: l.map iv) := rfl
theorem dg_ne {l : List Int} (h : l ≠ []) : dg l = .row l.length (l.map iv) := if_neg h

theorem lenA_dg (l : List Int) : lenA (.d (dg l)) = some l.length := by
  cases l with
  | nil => rfl
  | cons x l => rfl
theorem ixa_dg (h : Hp) (l : List Int) {j : Int} (h0 : 0 ≤ j) (h1 : j < l.length) : ixaA h 1 j (.d (dg l)) = some (.d (.rp ((l.drop j.toNat).map iv))) := by
  have hl : l ≠ [] := by rintro rfl; simp at h1; omega
  rw [dg_ne hl]
  simp only [ixaA, guardO]
  rw [if_pos ⟨h0, h1⟩, Nat.mul_one, List.map_drop]
theorem load_rp_ints (h : Hp) (l : List Int) {j : Nat} (h1 : j < l.length) : loadA h none (.d (.rp ((l.drop j).map iv))) = some (.d (.v (.int .i64 (l.getD j 0)))) := by
  simp only [loadA, ldrow]
  rw [List.head?_map, List.head?_drop]
  simp [h1, iv]
theorem src_dg (st : St) (l : List Int) : src st (.d (dg l)) = some (l.length, l.map iv) := by
  cases l with
  | nil => rfl
  | cons x l => rfl
theorem argD_dg (st : St) (x : D) : argD st (.d x) = some (x, true) := rfl

/-! ### The helpers at each kind of value -/
theorem lenA_z (b : Bool) : lenA (.d (.z b)) = some 0 := rfl
theorem lenA_row (n : Nat) (cs : List D) : lenA (.d (.row n cs)) = some n := rfl
theorem lenA_own (k : Key) (n : Nat) : lenA (.own k n) = some n := rfl
theorem loadA_ptr (h : Hp) (sz : Option Nat) (k : Key) (off : Nat) : loadA h sz (.ptr k off) = (h k).bind fun o => ldcells sz off o.cs := rfl
theorem loadA_ep (h : Hp) (sz : Option Nat) (k : Key) (n off : Nat) : loadA h sz (.ep k n off) = (h k).bind fun o => guardO (o.n = n) (ldcells sz off o.cs) := rfl
theorem fadA_ptr (i : Nat) (k : Key) (o : Nat) : fadA i (.ptr k o) = some (.ptr k (o + i)) := rfl
theorem fadA_ep (i : Nat) (k : Key) (n o : Nat) : fadA i (.ep k n o) = some (.ep k n (o + i)) := rfl
theorem fadA_rp (i : Nat) (cs : List D) : fadA i (.d (.rp cs)) = some (.d (.rp (cs.drop i))) := rfl
theorem ixaA_own (h : Hp) (es : Nat) (j : Int) (q : Key) (n : Nat) : ixaA h es j (.own q n) = (h q).bind fun o => guardO (o.n = n ∧ 0 ≤ j ∧ j < n) (some (.ep q n (j.toNat * es))) := rfl
theorem storeA_ptr (h : Hp) (v : A) (k : Key) (off : Nat) : storeA h v (.ptr k off) = (h k).bind fun o => guardO (o.fz = false) ((stcells off (cellsOf v) o.cs).map fun cs => hupd h k { o with cs }) := rfl
theorem storeA_ep (h : Hp) (v : A) (k : Key) (n off : Nat) : storeA h v (.ep k n off) = (h k).bind fun o => guardO (o.fz = false ∧ o.n = n) ((allD (cellsOf v)).bind fun _ => (stcells off (cellsOf v) o.cs).map fun cs => hupd h k { o with cs }) := rfl
theorem strA_s (s : ByteArray) : strA (.d (.v (.string s))) = some s := rfl
theorem valA_v (x : Value) : valA (.d (.v x)) = some x := rfl
theorem aggA_g (cs : List D) : aggA (.d (.agg cs)) = some cs := rfl
theorem extA_t (i : Nat) (xs : List D) : extA i (.d (.tup xs)) = (xs[i]?).map .d := rfl
theorem fnA_f (f : Nat) (c : List D) : fnA (.d (.fn f c)) = some (f, c) := rfl
theorem int_i (k : IntKind) (n : Int) : A.int? (.d (.v (.int k n))) = some n := rfl
theorem bool_b (b : Bool) : A.bool? (.d (.v (.bool b))) = some b := rfl
theorem argD_d (st : St) (x : D) : argD st (.d x) = some (x, true) := rfl
theorem argD_own (st : St) (k : Key) (n : Nat) : argD st (.own k n) = (st.hp k).bind fun o => guardO (o.n = n) ((allD o.cs).map fun cs => (.row n cs, o.fz)) := rfl
theorem toD_d (st : St) (x : D) : toD st (.d x) = some x := rfl
theorem toD_own (st : St) (k : Key) (n : Nat) : toD st (.own k n) = (st.hp k).bind fun o => guardO (o.n = n) ((allD o.cs).map fun cs => .row n cs) := rfl
theorem retA_d (k : Key) (h : Hp) (ad fz : Bool) (x : D) : retA k h ad fz (.d x) = guardO (fz = true ∨ x.flat = true) (some (.d x, h)) := rfl
theorem retA_own (k : Key) (h : Hp) (ad fz : Bool) (es n : Nat) (cs : List D) : retA k h ad fz (.own es n cs) = guardO (fz = true) (mkA k h (!ad) es n cs) := rfl
theorem mkA_t (k : Key) (h : Hp) (es n : Nat) (cs : List D) : mkA k h true es n cs = some (.d (.row n cs), h) := rfl
theorem mkA_f (k : Key) (h : Hp) (es n : Nat) (cs : List D) : mkA k h false es n cs = guardO ((h k).isNone = true) (some (.own k n, hupd h k ⟨es, n, cs.map .d, false⟩)) := rfl
theorem appA_z (k : Key) (h : Hp) (fz : Bool) (es by_ m : Nat) (ys : List D) (b : Bool) : appA k h fz es by_ m ys (.d (.z b)) =
    guardO (m * by_ ≤ bound ∧ ys.length = m * es) (if m = 0 then some (.d (.z b), h) else mkA k h fz es m ys) := rfl
theorem appA_own (k : Key) (h : Hp) (fz : Bool) (es by_ m : Nat) (ys : List D) (q : Key) (n : Nat) : appA k h fz es by_ m ys (.own q n) =
    (h q).bind fun o => guardO (o.n = n ∧ o.fz = false ∧ o.es = es ∧ o.cs.length = n * es ∧ (n + m) * by_ ≤ bound ∧ ys.length = m * es ∧ ys.all D.one = true)
      (if fz then (allD o.cs).map fun cs => (.d (.row (n + m) (cs ++ ys)), hupd h q ⟨es, n + m, o.cs ++ ys.map .d, true⟩)
       else some (.own q (n + m), hupd h q ⟨es, n + m, o.cs ++ ys.map .d, false⟩)) := rfl
theorem ex_n_x (i : Nat) : (Ex.n = Ex.x i) = False := by simp
theorem ex_x_n (i : Nat) : (Ex.x i = Ex.n) = False := by simp
theorem ex_x_x (i j : Nat) : (Ex.x i = Ex.x j) = (i = j) := by simp
theorem ex_r_n : (Ex.r = Ex.n) = False := by simp
theorem ex_r_x (i : Nat) : (Ex.r = Ex.x i) = False := by simp
theorem ex_n_n : (Ex.n = Ex.n) = True := by simp

theorem bind_congr_l {α β : Type} {x y : Option α} {f : α → Option β} (h : x = y) : x.bind f = y.bind f := by rw [h]
theorem map_congr_l {α β : Type} {x y : Option α} {f : α → β} (h : x = y) : x.map f = y.map f := by rw [h]

attribute [go_sem] X_seq X_reg X_cond X_blk X_keep X_frz X_exit X_ret X_skip exs exO act wantedO putO E.ev allE argsD upd_get hupd_get fr0_get hp0_get
  Option.bind_some Option.map_some Option.bind_none Option.map_none Option.getD_some Option.getD_none Option.isNone_none Option.isNone_some guardO binV binI shOp undefA iA
  endOf ending resL resV argF keepSt keepF keepH keepRefs keepRefsH refsO refsOO updO_some hupdO_some updO_get hupdO_get refs refsL List.all_nil List.all_cons wrap_i64 bind_ite map_ite
  lenA_z lenA_row lenA_own loadA_ptr loadA_ep fadA_ptr fadA_ep fadA_rp ixaA_own storeA_ptr storeA_ep strA_s valA_v aggA_g extA_t fnA_f int_i bool_b argD_d argD_own toD_d toD_own
  retA_d retA_own mkA_t mkA_f appA_z appA_own lenA_dg ex_n_x ex_x_n ex_x_x ex_r_n ex_r_x ex_n_n
theorem key1 (a b : Nat) : (([a] : Key) = [b]) = (a = b) := by simp
theorem keyIsIn (k : Key) (ks : List Key) : k.isIn ks = ks.any fun q => decide (q = k) := rfl
theorem tt_true : (true = true) = True := by simp
theorem ft_false : (false = true) = False := by simp
theorem oo_ite (c : Prop) [Decidable c] {α : Type} (x : α) : (if c then some x else none) = guardO c (some x) := rfl
attribute [go_sem] key1 Key.isIn List.any_cons List.any_nil tt_true ft_false decide_true decide_false Bool.and_true Bool.true_and Bool.and_self Bool.or_true Bool.true_or Bool.or_false Bool.false_or and_true true_and and_self
theorem ge_t {a b : Int} (h : a ≥ b) : decide (a ≥ b) = true := decide_eq_true h
theorem ge_f {a b : Int} (h : ¬ a ≥ b) : decide (a ≥ b) = false := decide_eq_false h
theorem gt_t {a b : Int} (h : a > b) : decide (a > b) = true := decide_eq_true h
theorem gt_f {a b : Int} (h : ¬ a > b) : decide (a > b) = false := decide_eq_false h
theorem lt_t {a b : Int} (h : a < b) : decide (a < b) = true := decide_eq_true h
theorem lt_f {a b : Int} (h : ¬ a < b) : decide (a < b) = false := decide_eq_false h
theorem le_t {a b : Int} (h : a ≤ b) : decide (a ≤ b) = true := decide_eq_true h
theorem le_f {a b : Int} (h : ¬ a ≤ b) : decide (a ≤ b) = false := decide_eq_false h
theorem beq_t {a b : Int} (h : a = b) : (a == b) = true := by simp [h]
theorem beq_f {a b : Int} (h : a ≠ b) : (a == b) = false := by simp [h]
theorem bne_t {a b : Int} (h : a ≠ b) : (a != b) = true := by simp [h]
theorem bne_f {a b : Int} (h : a = b) : (a != b) = false := by simp [h]
theorem ofNat_cast (n : Nat) : Int.ofNat n = (n : Int) := rfl
theorem one_int (k : IntKind) (n : Int) : A.one (.d (.v (.int k n))) = true := rfl
theorem one_bool (b : Bool) : A.one (.d (.v (.bool b))) = true := rfl
theorem one_str (b : ByteArray) : A.one (.d (.v (.string b))) = true := rfl
theorem one_z (b : Bool) : A.one (.d (.z b)) = true := rfl
theorem one_row (n : Nat) (cs : List D) : A.one (.d (.row n cs)) = true := rfl
theorem one_own (k : Key) (n : Nat) : A.one (.own k n) = true := rfl
theorem one_ptr (k : Key) (n : Nat) : A.one (.ptr k n) = true := rfl
theorem one_dg' (l : List Int) : A.one (.d (dg l)) = true := by cases l <;> rfl
theorem one_agg (cs : List D) : A.one (.d (.agg cs)) = false := rfl
theorem cells_agg (cs : List D) : cellsOf (.d (.agg cs)) = cs.map .d := rfl
theorem cells_int (k : IntKind) (n : Int) : cellsOf (.d (.v (.int k n))) = [.d (.v (.int k n))] := rfl
theorem cells_bool (b : Bool) : cellsOf (.d (.v (.bool b))) = [.d (.v (.bool b))] := rfl
theorem cells_str (b : ByteArray) : cellsOf (.d (.v (.string b))) = [.d (.v (.string b))] := rfl
theorem cells_z (b : Bool) : cellsOf (.d (.z b)) = [.d (.z b)] := rfl
theorem cells_row (n : Nat) (cs : List D) : cellsOf (.d (.row n cs)) = [.d (.row n cs)] := rfl
theorem cells_dg (l : List Int) : cellsOf (.d (dg l)) = [.d (dg l)] := by cases l <;> rfl
theorem cells_own (k : Key) (n : Nat) : cellsOf (.own k n) = [.own k n] := rfl
theorem cells_ptr (k : Key) (n : Nat) : cellsOf (.ptr k n) = [.ptr k n] := rfl
theorem dc_agg (cs : List D) : dcells (.d (.agg cs)) = some cs := rfl
theorem dc_int (k : IntKind) (n : Int) : dcells (.d (.v (.int k n))) = some [.v (.int k n)] := rfl
theorem dc_bool (b : Bool) : dcells (.d (.v (.bool b))) = some [.v (.bool b)] := rfl
theorem dc_str (b : ByteArray) : dcells (.d (.v (.string b))) = some [.v (.string b)] := rfl
theorem dc_z (b : Bool) : dcells (.d (.z b)) = some [.z b] := rfl
theorem dc_row (n : Nat) (cs : List D) : dcells (.d (.row n cs)) = some [.row n cs] := rfl
theorem dc_dg (l : List Int) : dcells (.d (dg l)) = some [dg l] := by cases l <;> rfl
theorem dc_fn (f : Nat) (cs : List D) : dcells (.d (.fn f cs)) = some [.fn f cs] := rfl
theorem rep_1 (z : D) : rep 1 [z] = [z] := rfl
theorem rep_2 (z : D) : rep 2 [z] = [z, z] := rfl
theorem rep_3 (z : D) : rep 3 [z] = [z, z, z] := rfl
theorem wrap_u64 (n : Int) : IntKind.u64.wrap n = n % 18446744073709551616 := by
  unfold IntKind.wrap
  simp [IntKind.signed, IntKind.bits]
theorem base_ne : ((1000000000 : Int) = 0) = False := by simp
theorem nc0 : ((0 : Nat) : Int) = 0 := rfl
theorem toNat0 : Int.toNat 0 = 0 := rfl
theorem ob_ft : (some false = some true) = False := by simp
theorem ob_tf : (some true = some false) = False := by simp
theorem ob_tt : (some true = some true) = True := by simp
theorem ob_ff : (some false = some false) = True := by simp
theorem tf_false : (true = false) = False := by simp
theorem ff_true : (false = false) = True := by simp
attribute [go_sem] rep_1 rep_2 rep_3 wrap_u64 base_ne fillD Nat.reduceMul Nat.reduceSub List.getElem?_cons_zero List.getElem?_cons_succ List.getElem?_nil true_or or_true or_self false_or or_false and_false false_and nc0 toNat0 Nat.sub_zero Nat.mul_one Nat.zero_mul ofNat_cast List.map_cons List.map_nil List.length_cons List.length_nil Nat.reduceAdd Nat.reduceLeDiff List.take_succ_cons List.take_zero List.drop_succ_cons List.drop_zero List.drop_nil List.take_nil List.nil_append List.cons_append List.append_nil Int.toNat_natCast ob_ft ob_tf ob_tt ob_ff tf_false ff_true Bool.not_true Bool.not_false Bool.false_and Bool.and_false unV eqD slcA bnds optI cut srcS bytesD partsD partsB fillB D.flat ldrow allD one_int one_bool one_str one_z one_row one_own one_ptr one_dg' one_agg cells_agg cells_int cells_bool cells_str cells_z cells_row cells_dg cells_own cells_ptr dc_agg dc_int dc_bool dc_str dc_z dc_row dc_dg dc_fn
attribute [congr] bind_congr_l map_congr_l
end Go.AM

/- Numbers in digits: plain mathematics, no program in sight. -/
namespace Go.AM


def digs : Nat → List Int
  | 0 => []
  | n + 1 => (((n + 1) % 1000000000 : Nat) : Int) :: digs ((n + 1) / 1000000000)
  decreasing_by omega
def val : List Int → Int
  | [] => 0
  | d :: r => d + 1000000000 * val r
def Dig (l : List Int) : Prop := ∀ d ∈ l, 0 ≤ d ∧ d < 1000000000

theorem digs_zero : digs 0 = [] := by rw [digs]
theorem digs_pos {n : Nat} (h : 0 < n) : digs n = ((n % 1000000000 : Nat) : Int) :: digs (n / 1000000000) := by
  cases n with
  | zero => omega
  | succ n => rw [digs]
theorem Dig.nil : Dig [] := by intro d h; cases h
theorem Dig.cons {d : Int} {l : List Int} : Dig (d :: l) ↔ (0 ≤ d ∧ d < 1000000000) ∧ Dig l := by
  constructor
  · intro h; exact ⟨h d (by simp), fun e he => h e (by simp [he])⟩
  · rintro ⟨h1, h2⟩ e he
    rcases List.mem_cons.1 he with rfl | he
    · exact h1
    · exact h2 e he
theorem Dig.append {l m : List Int} : Dig (l ++ m) ↔ Dig l ∧ Dig m := by
  constructor
  · intro h; exact ⟨fun e he => h e (by simp [he]), fun e he => h e (by simp [he])⟩
  · rintro ⟨h1, h2⟩ e he
    rcases List.mem_append.1 he with he | he
    · exact h1 e he
    · exact h2 e he
theorem Dig.take {l : List Int} (h : Dig l) (n : Nat) : Dig (l.take n) := fun e he => h e (List.mem_of_mem_take he)
theorem Dig.drop {l : List Int} (h : Dig l) (n : Nat) : Dig (l.drop n) := fun e he => h e (List.mem_of_mem_drop he)
theorem Dig.getD {l : List Int} (h : Dig l) (i : Nat) : 0 ≤ l.getD i 0 ∧ l.getD i 0 < 1000000000 := by
  rw [List.getD_eq_getElem?_getD]
  cases hq : l[i]? with
  | none => simp
  | some x => exact h x (List.mem_of_getElem? hq)
theorem Dig.set {l : List Int} (h : Dig l) {i : Nat} {d : Int} (hd : 0 ≤ d ∧ d < 1000000000) : Dig (l.set i d) := by
  intro e he
  rcases List.mem_or_eq_of_mem_set he with he | rfl
  · exact h e he
  · exact hd
theorem Dig.replicate (n : Nat) : Dig (List.replicate n 0) := by
  intro e he
  rw [(List.mem_replicate.1 he).2]; omega

theorem digs_dig : ∀ n : Nat, Dig (digs n) := by
  intro n
  induction n using Nat.strongRecOn with
  | _ n ih =>
    rcases Nat.eq_zero_or_pos n with rfl | h
    · rw [digs_zero]; exact .nil
    · rw [digs_pos h, Dig.cons]
      exact ⟨by omega, ih _ (by omega)⟩
theorem val_digs : ∀ n : Nat, val (digs n) = n := by
  intro n
  induction n using Nat.strongRecOn with
  | _ n ih =>
    rcases Nat.eq_zero_or_pos n with rfl | h
    · rw [digs_zero]; rfl
    · rw [digs_pos h, val, ih _ (by omega)]
      omega
theorem val_nonneg : ∀ {l : List Int}, Dig l → 0 ≤ val l
  | [], _ => Int.le_refl _
  | d :: r, h => by
    obtain ⟨h1, h2⟩ := Dig.cons.1 h
    have := val_nonneg h2
    simp only [val]
    omega
theorem digs_ne {n : Nat} : digs n = [] ↔ n = 0 := by
  constructor
  · intro h
    rcases Nat.eq_zero_or_pos n with h' | h'
    · exact h'
    · rw [digs_pos h'] at h; cases h
  · rintro rfl; exact digs_zero
theorem digs_length_pos {n : Nat} : 0 < (digs n).length ↔ 0 < n := by
  rw [List.length_pos_iff, ne_eq, digs_ne]; omega

/-- Without zeros at the end. -/
def Top (l : List Int) : Prop := ∀ h : l ≠ [], l.getLast h ≠ 0
theorem digs_top : ∀ n : Nat, Top (digs n) := by
  intro n
  induction n using Nat.strongRecOn with
  | _ n ih =>
    intro h
    rcases Nat.eq_zero_or_pos n with rfl | hp
    · exact absurd digs_zero h
    · have e := digs_pos hp
      by_cases h0 : n / 1000000000 = 0
      · have : digs n = [((n % 1000000000 : Nat) : Int)] := by rw [e, h0, digs_zero]
        simp only [this, List.getLast_singleton]
        omega
      · have hne : digs (n / 1000000000) ≠ [] := by rw [ne_eq, digs_ne]; exact h0
        have : (digs n).getLast h = (digs (n / 1000000000)).getLast hne := by
          simp only [e]
          exact List.getLast_cons hne
        rw [this]
        exact ih _ (by omega) hne
/-- Digits without zeros at the end are those of their value. -/
theorem digs_val : ∀ {l : List Int}, Dig l → Top l → digs (val l).toNat = l
  | [], _, _ => digs_zero
  | d :: r, h, ht => by
    obtain ⟨h1, h2⟩ := Dig.cons.1 h
    have hv := val_nonneg h2
    have htr : Top r := by
      intro hne
      have := ht (by simp)
      rw [List.getLast_cons hne] at this
      exact this
    have ih := digs_val h2 htr
    have hpos : 0 < (val (d :: r)).toNat := by
      simp only [val]
      by_cases hr : r = []
      · subst hr
        have := ht (by simp)
        simp at this
        simp only [val]
        omega
      · have : val r ≠ 0 := by
          intro h0
          rw [h0] at ih
          exact hr (ih.symm.trans digs_zero)
        omega
    rw [digs_pos hpos]
    have e1 : ((val (d :: r)).toNat % 1000000000 : Nat) = d.toNat := by simp only [val]; omega
    have e2 : (val (d :: r)).toNat / 1000000000 = (val r).toNat := by simp only [val]; omega
    rw [e1, e2, ih]
    congr 1
    omega
theorem val_append : ∀ (l m : List Int), val (l ++ m) = val l + (1000000000 : Int) ^ l.length * val m
  | [], m => by simp [val]
  | d :: r, m => by
    rw [List.cons_append, val, val_append r m, val, List.length_cons]
    grind
theorem val_replicate : ∀ n : Nat, val (List.replicate n 0) = 0
  | 0 => rfl
  | n + 1 => by rw [List.replicate_succ, val, val_replicate n]; rfl
theorem val_lt : ∀ {l : List Int}, Dig l → val l < (1000000000 : Int) ^ l.length
  | [], _ => by simp [val]
  | d :: r, h => by
    obtain ⟨h1, h2⟩ := Dig.cons.1 h
    have := val_lt h2
    rw [val, List.length_cons, Int.pow_succ]
    grind
theorem val_set : ∀ (l : List Int) (i : Nat) (d : Int), i < l.length → val (l.set i d) = val l + (1000000000 : Int) ^ i * (d - l.getD i 0)
  | [], i, d, h => by simp at h
  | e :: r, 0, d, h => by simp [val]; omega
  | e :: r, i + 1, d, h => by
    rw [List.set_cons_succ, val, val, val_set r i d (by simpa using h)]
    simp only [List.getD_cons_succ]
    grind
theorem pow_mono {n m : Nat} (h : n ≤ m) : (1000000000 : Int) ^ n ≤ (1000000000 : Int) ^ m := by
  obtain ⟨k, rfl⟩ := Nat.exists_eq_add_of_le h
  rw [Int.pow_add]
  have h1 : (0 : Int) < (1000000000 : Int) ^ k := Int.pow_pos (by omega)
  have h2 : (0 : Int) ≤ (1000000000 : Int) ^ n := Int.pow_nonneg (by omega)
  have h3 : (1000000000 : Int) ^ n * 1 ≤ (1000000000 : Int) ^ n * (1000000000 : Int) ^ k := Int.mul_le_mul_of_nonneg_left (by omega) h2
  omega
end Go.AM

/- Integers as the program holds them. -/
namespace Go.AM
open Go Go.RowKit

def sgn (neg : Bool) (x : Int) : Int := if neg then -x else x
def encI (x : Int) : D := .agg [bv (decide (x < 0)), dg (digs x.natAbs)]
/-- A row of these numbers. -/
def rowI (l : List Int) : D := .row l.length (l.map iv)
def I64 (n : Int) : Prop := -9223372036854775808 ≤ n ∧ n < 9223372036854775808

theorem lenA_rowI (l : List Int) : lenA (.d (rowI l)) = some l.length := rfl
theorem ixa_rowI (h : Hp) (l : List Int) {j : Int} (h0 : 0 ≤ j) (h1 : j < l.length) : ixaA h 1 j (.d (rowI l)) = some (.d (.rp ((l.drop j.toNat).map iv))) := by
  simp only [ixaA, guardO, rowI]
  rw [if_pos ⟨h0, h1⟩, Nat.mul_one, List.map_drop]
theorem load_rpI (h : Hp) (l : List Int) {j : Nat} (h1 : j < l.length) : loadA h none (.d (.rp ((l.drop j).map iv))) = some (.d (iv (l.getD j 0))) := load_rp_ints h l h1
theorem src_rowI (st : St) (l : List Int) : src st (.d (rowI l)) = some (l.length, l.map iv) := rfl

/-- Reads these numbers, nil or not. -/
def Rw (d : D) (l : List Int) : Prop := d = dg l ∨ d = rowI l
theorem Rw.dg (l : List Int) : Rw (dg l) l := .inl rfl
theorem Rw.row (l : List Int) : Rw (rowI l) l := .inr rfl
theorem Rw.len {d : D} {l : List Int} (h : Rw d l) : lenA (.d d) = some l.length := by
  rcases h with rfl | rfl
  · exact lenA_dg l
  · rfl
theorem Rw.ixa {d : D} {l : List Int} (hr : Rw d l) {j : Int} (h0 : 0 ≤ j) (h1 : j < l.length) (h : Hp) : ixaA h 1 j (.d d) = some (.d (.rp ((l.drop j.toNat).map iv))) := by
  rcases hr with rfl | rfl
  · exact ixa_dg h l h0 h1
  · exact ixa_rowI h l h0 h1
theorem Rw.ixn {d : D} {l : List Int} (hr : Rw d l) {j : Nat} (h1 : j < l.length) (h : Hp) : ixaA h 1 (j : Int) (.d d) = some (.d (.rp ((l.drop j).map iv))) := by
  have := hr.ixa (j := (j : Int)) (by omega) (by omega) h
  simpa using this
theorem Rw.src {d : D} {l : List Int} (hr : Rw d l) (st : St) : src st (.d d) = some (l.length, l.map iv) := by
  rcases hr with rfl | rfl
  · exact src_dg st l
  · rfl
theorem Rw.ne {d : D} {l : List Int} (hr : Rw d l) (h : l ≠ []) : d = rowI l := by
  rcases hr with rfl | rfl
  · exact dg_ne h
  · rfl
theorem ldv (h : Hp) (l : List Int) {j : Nat} (h1 : j < l.length) : loadA h none (.d (.rp ((l.drop j).map iv))) = some (.d (.v (.int .i64 (l.getD j 0)))) := load_rp_ints h l h1

/-- The length without zeros at the end of the first n. -/
def cutn (l : List Int) : Nat → Nat
  | 0 => 0
  | n + 1 => if l.getD n 0 = 0 then cutn l n else n + 1
theorem cutn_le (l : List Int) : ∀ n, cutn l n ≤ n
  | 0 => Nat.le_refl _
  | n + 1 => by
    rw [cutn]
    split
    · exact Nat.le_succ_of_le (cutn_le l n)
    · exact Nat.le_refl _
theorem val_take_succ (l : List Int) (n : Nat) (h : n < l.length) : val (l.take (n + 1)) = val (l.take n) + (1000000000 : Int) ^ n * l.getD n 0 := by
  have : l.take (n + 1) = l.take n ++ [l.getD n 0] := by
    rw [List.take_add_one]
    simp [List.getD, h]
  rw [this, val_append, List.length_take, Nat.min_eq_left (Nat.le_of_lt h)]
  simp [val]
theorem val_cutn (l : List Int) : ∀ n, n ≤ l.length → val (l.take (cutn l n)) = val (l.take n)
  | 0, _ => rfl
  | n + 1, h => by
    rw [cutn]
    split
    · rename_i h0
      rw [val_cutn l n (by omega), val_take_succ l n (by omega), h0]; omega
    · rfl
theorem top_cutn (l : List Int) : ∀ n, n ≤ l.length → Top (l.take (cutn l n))
  | 0, _ => by intro h; simp [cutn] at h
  | n + 1, h => by
    rw [cutn]
    split
    · exact top_cutn l n (by omega)
    · rename_i h0
      intro hne
      have : l.take (n + 1) = l.take n ++ [l.getD n 0] := by
        rw [List.take_add_one]
        simp [List.getD, (by omega : n < l.length)]
      simp only [this]
      rw [List.getLast_append_of_ne_nil _ (by simp)]
      simpa using h0
theorem digs_cutn {l : List Int} (hd : Dig l) : digs (val l).toNat = l.take (cutn l l.length) := by
  have h1 := val_cutn l l.length (Nat.le_refl _)
  rw [List.take_length] at h1
  rw [← h1]
  exact digs_val (hd.take _) (top_cutn l _ (Nat.le_refl _))
theorem cutn_zero {l : List Int} (hd : Dig l) : cutn l l.length = 0 ↔ val l = 0 := by
  have hc := cutn_le l l.length
  have h1 := digs_cutn hd
  have hv := val_nonneg hd
  constructor
  · intro h
    rw [h, List.take_zero, digs_ne] at h1
    omega
  · intro h
    rw [h] at h1
    have h2 : l.take (cutn l l.length) = [] := by rw [← h1]; exact digs_zero
    have := congrArg List.length h2
    simp at this
    rcases this with h' | h'
    · exact h'
    · subst h'; simp at hc; exact hc
theorem natAbs_sgn (neg : Bool) (x : Int) : (sgn neg x).natAbs = x.natAbs := by cases neg <;> simp [sgn]
theorem encI_sgn {neg : Bool} {l : List Int} (hd : Dig l) : encI (sgn neg (val l)) = if cutn l l.length = 0 then .agg [bv false, .z true] else .agg [bv neg, .row (cutn l l.length) ((l.map iv).take (cutn l l.length))] := by
  have hv := val_nonneg hd
  have hc := cutn_le l l.length
  by_cases h0 : cutn l l.length = 0
  · rw [if_pos h0, (cutn_zero hd).1 h0]
    have e : encI 0 = .agg [bv false, .z true] := by
      have : digs (0 : Int).natAbs = [] := digs_zero
      rw [encI, this]; rfl
    cases neg <;> exact e
  · rw [if_neg h0]
    have hne : val l ≠ 0 := fun h => h0 ((cutn_zero hd).2 h)
    have e1 : decide (sgn neg (val l) < 0) = neg := by
      cases neg
      · simp only [sgn, Bool.false_eq_true, if_false, decide_eq_false_iff_not]; omega
      · simp only [sgn, if_true, decide_eq_true_eq]; omega
    have e2 : (sgn neg (val l)).natAbs = (val l).toNat := by rw [natAbs_sgn]; omega
    have hne2 : l.take (cutn l l.length) ≠ [] := by
      intro h
      have := congrArg List.length h
      simp at this
      rcases this with h' | h'
      · exact h0 h'
      · subst h'; exact h0 rfl
    rw [encI, e1, e2, digs_cutn hd, dg_ne hne2, List.map_take]
    congr 3
    simp; omega

theorem val_take_set {l : List Int} {i : Nat} (d : Int) (h : i < l.length) : val ((l.set i d).take (i + 1)) = val (l.take i) + (1000000000 : Int) ^ i * d := by
  rw [val_take_succ _ _ (by simpa using h)]
  have e1 : (l.set i d).take i = l.take i := by
    apply List.ext_getElem?
    intro j
    simp only [List.getElem?_take, List.getElem?_set]
    split
    · rw [if_neg (by omega)]
    · rfl
  have e2 : (l.set i d).getD i 0 = d := by simp [List.getD, h]
  rw [e1, e2]
theorem getD_set_ne {l : List Int} {i j : Nat} (d : Int) (h : i ≠ j) : (l.set i d).getD j 0 = l.getD j 0 := by
  simp [List.getD, List.getElem?_set, h]
theorem val_take_getD (l : List Int) (n : Nat) : val (l.take (n + 1)) = val (l.take n) + (1000000000 : Int) ^ n * l.getD n 0 := by
  by_cases h : n < l.length
  · exact val_take_succ l n h
  · have e1 : l.take (n + 1) = l := List.take_of_length_le (by omega)
    have e2 : l.take n = l := List.take_of_length_le (by omega)
    have e3 : l.getD n 0 = 0 := by rw [List.getD_eq_getElem?_getD, List.getElem?_eq_none (by omega)]; rfl
    rw [e1, e2, e3]; omega

/-! ### Arrays of numbers that are written -/
def cellsI (l : List Int) : List A := l.map fun x => A.d (.v (.int .i64 x))
theorem cellsI_length (l : List Int) : (cellsI l).length = l.length := by simp [cellsI]
theorem stcells_I {l : List Int} {off : Nat} {v : Int} (h : off < l.length) : stcells off [A.d (.v (.int .i64 v))] (cellsI l) = some (cellsI (l.set off v)) := by
  rw [stcells, guardO, if_pos (by rw [cellsI_length]; simp; omega)]
  congr 1
  apply List.ext_getElem?
  intro j
  rw [seg_get _ _ _ (by rw [cellsI_length]; simp; omega)]
  simp only [List.length_cons, List.length_nil, cellsI, List.getElem?_map, List.getElem?_set]
  by_cases h1 : j < off
  · rw [if_pos h1, if_neg (by omega)]
  · rw [if_neg h1]
    by_cases h2 : j < off + (0 + 1)
    · obtain rfl : j = off := by omega
      simp [h]
    · rw [if_neg h2, if_neg (by omega)]
theorem ldcells_I {l : List Int} {off : Nat} (h : off < l.length) : ldcells none off (cellsI l) = some (A.d (.v (.int .i64 (l.getD off 0)))) := by
  simp [ldcells, cellsI, List.getD, h]
theorem refsL_I (ks : List Key) (l : List Int) : refsL ks (cellsI l) = true := by
  induction l with
  | nil => rfl
  | cons x r ih => simpa [cellsI, refsL, refs] using ih
theorem allD_I (l : List Int) : allD (cellsI l) = some (l.map iv) := by
  induction l with
  | nil => rfl
  | cons x r ih =>
    simp only [cellsI, List.map_cons, allD] at ih ⊢
    rw [ih]; rfl
theorem rep_I (n : Nat) : List.map A.d (rep n [.v (.int .i64 0)]) = cellsI (List.replicate n 0) := by
  induction n with
  | zero => rfl
  | succ n ih =>
    simp only [rep, List.replicate_succ, List.flatten_cons, List.map_append, List.map_cons, List.map_nil, cellsI, List.cons_append, List.nil_append] at ih ⊢
    rw [ih]
theorem mapd_I (l : List Int) : List.map A.d (l.map iv) = cellsI l := by simp [cellsI, iv]
theorem cpy_I {h : Hp} {k : Key} {a out : List Int} {n : Nat} (hk : h k = some ⟨1, n, cellsI out, false⟩) (hn : n = a.length) (ho : out.length = n) : cpyA h 1 a.length (a.map iv) (.own k n) = some (n, hupd h k ⟨1, n, cellsI a, false⟩) := by
  subst hn
  have h1 : ∀ l : List Int, (l.map iv).all D.one = true := by
    intro l; simp [iv, D.one, A.one]
  simp only [cpyA, hk, Option.bind_some, guardO, cellsI_length, ho, Nat.mul_one, List.length_map, h1, and_self, if_true, Nat.min_self]
  congr 3
  rw [List.take_of_length_le (by simp), List.drop_eq_nil_of_le (by rw [cellsI_length, ho]; exact Nat.le_refl _), List.append_nil, mapd_I]
theorem val_take_le {l : List Int} (h : Dig l) (n : Nat) : val (l.take n) ≤ val l := by
  have e : l.take n ++ l.drop n = l := List.take_append_drop n l
  have h1 : val l = val (l.take n) + (1000000000 : Int) ^ (l.take n).length * val (l.drop n) := by rw [← val_append, e]
  have h2 := val_nonneg (h.drop n)
  have h3 : (0 : Int) ≤ (1000000000 : Int) ^ (l.take n).length * val (l.drop n) := Int.mul_nonneg (Int.pow_nonneg (by omega)) h2
  omega
theorem dig_of_parts {l : List Int} {i : Nat} (h1 : Dig (l.take i)) (h2 : 0 ≤ l.getD i 0 ∧ l.getD i 0 < 1000000000) (h3 : Dig (l.drop (i + 1))) : Dig l := by
  have e : l.take i ++ l.drop i = l := List.take_append_drop i l
  rw [← e, Dig.append]
  refine ⟨h1, ?_⟩
  by_cases hi : i < l.length
  · have : l.drop i = l.getD i 0 :: l.drop (i + 1) := by
      rw [List.drop_eq_getElem_cons hi]
      simp [List.getD, hi]
    rw [this, Dig.cons]
    exact ⟨h2, h3⟩
  · rw [List.drop_eq_nil_of_le (by omega)]; exact .nil
theorem dig_getD_drop {l : List Int} {i j : Nat} (h : Dig (l.drop i)) (hij : i ≤ j) : 0 ≤ l.getD j 0 ∧ l.getD j 0 < 1000000000 := by
  have := h.getD (j - i)
  rw [List.getD_eq_getElem?_getD, List.getElem?_drop, show i + (j - i) = j by omega, ← List.getD_eq_getElem?_getD] at this
  exact this
theorem take_set_ge (l : List Int) {i j : Nat} (d : Int) (h : i ≤ j) : (l.set j d).take i = l.take i := by
  apply List.ext_getElem?
  intro q
  simp only [List.getElem?_take, List.getElem?_set]
  split
  · rw [if_neg (by omega)]
  · rfl
theorem drop_set_lt (l : List Int) {i j : Nat} (d : Int) (h : j < i) : (l.set j d).drop i = l.drop i := by
  apply List.ext_getElem?
  intro q
  simp only [List.getElem?_drop, List.getElem?_set]
  rw [if_neg (by omega)]
theorem take_succ_set {l : List Int} {i : Nat} (d : Int) (h : i < l.length) : (l.set i d).take (i + 1) = l.take i ++ [d] := by
  rw [List.take_add_one, take_set_ge l d (Nat.le_refl _)]
  simp [h]

/-! ### Sizes -/
def nd (x : Int) : Nat := (digs x.natAbs).length
theorem digs_length_le : ∀ (k n : Nat), n < 1000000000 ^ k → (digs n).length ≤ k
  | 0, n, h => by
    have : n = 0 := by simpa using h
    subst this; rw [digs_zero]; exact Nat.le_refl _
  | k + 1, n, h => by
    rcases Nat.eq_zero_or_pos n with rfl | hp
    · rw [digs_zero]; simp
    · rw [digs_pos hp, List.length_cons]
      have : n / 1000000000 < 1000000000 ^ k := by
        rw [Nat.pow_succ] at h
        exact Nat.div_lt_of_lt_mul (by rw [Nat.mul_comm]; exact h)
      exact Nat.succ_le_succ (digs_length_le k _ this)
theorem lt_pow_nd (x : Int) : x.natAbs < 1000000000 ^ nd x := by
  have h1 := val_lt (digs_dig x.natAbs)
  rw [val_digs] at h1
  have h2 : ((1000000000 ^ (digs x.natAbs).length : Nat) : Int) = (1000000000 : Int) ^ (digs x.natAbs).length := by simp
  rw [← h2] at h1
  exact Int.ofNat_lt.1 h1
theorem nd_le {x : Int} {k : Nat} (h : x.natAbs < 1000000000 ^ k) : nd x ≤ k := digs_length_le k _ h
theorem npow_mono {n m : Nat} (h : n ≤ m) : 1000000000 ^ n ≤ 1000000000 ^ m := Nat.pow_le_pow_right (by omega) h
theorem nd_add {x y : Int} {k : Nat} (hx : nd x ≤ k) (hy : nd y ≤ k) : nd (x + y) ≤ k + 1 := by
  apply nd_le
  have h1 := Nat.lt_of_lt_of_le (lt_pow_nd x) (npow_mono hx)
  have h2 := Nat.lt_of_lt_of_le (lt_pow_nd y) (npow_mono hy)
  rw [Nat.pow_succ]
  omega
theorem nd_neg (x : Int) : nd (-x) = nd x := by simp [nd]
theorem nd_mul {x y : Int} : nd (x * y) ≤ nd x + nd y := by
  apply nd_le
  rw [Int.natAbs_mul, Nat.pow_add]
  exact Nat.mul_lt_mul'' (lt_pow_nd x) (lt_pow_nd y)
theorem nd_mono {x y : Int} (h : x.natAbs ≤ y.natAbs) : nd x ≤ nd y := nd_le (Nat.lt_of_le_of_lt h (lt_pow_nd y))
theorem nd_i64 {x : Int} (h : -9223372036854775808 ≤ x ∧ x < 9223372036854775808) : nd x ≤ 3 := by
  apply nd_le
  have : (1000000000 : Nat) ^ 3 = 1000000000000000000000000000 := by decide
  omega
theorem nd_zero : nd 0 = 0 := by
  have : digs (0 : Int).natAbs = [] := digs_zero
  rw [nd, this]; rfl
theorem val_dabs (x : Int) : val (digs x.natAbs) = x.natAbs := val_digs _
theorem dg_eq_zero {x : Int} : dg (digs x.natAbs) = .z true ↔ x = 0 := by
  constructor
  · intro h
    by_cases hd : digs x.natAbs = []
    · rw [digs_ne] at hd; omega
    · rw [dg_ne hd] at h; cases h
  · rintro rfl
    have : digs (0 : Int).natAbs = [] := digs_zero
    rw [this]; rfl
end Go.AM

/- integer.of -/
namespace Go.AM
open Go Go.RowKit
variable [Its]

section
variable (neg : Bool) (d : D) (l : List Int)
def of_st (n : Int) : St := ⟨upd (upd (upd (upd fr0 5 (.d (iv n))) 4 (.ptr [4] 0)) 1 (.d d)) 0 (.d (bv neg)), hupd hp0 [4] ⟨0, 0, [.d (bv false), .d (.z true)], false⟩, []⟩

theorem of_go (hr : Rw d l) (n : Nat) (h : n < l.length) (hl : l.length < 4611686018427387904) (h0 : l.getD n 0 = 0) : X G integer_of_l0 (of_st neg d ((n + 1 : Nat) : Int)) = some (.n, of_st neg d n) := by
  have e1 : decide (((n + 1 : Nat) : Int) > 0) = true := gt_t (by omega)
  have e2 : w64 (((n + 1 : Nat) : Int) - 1) = n := by rw [w64_id (by omega) (by omega)]; omega
  have e3 := hr.ixn (j := n) (by omega)
  have e4 := fun hp => ldv hp l (j := n) (by omega)
  simp -implicitDefEqProofs (maxSteps := 10000000) only [integer_of_l0, of_st, go_sem, iv, bv, e1, e2, e3, e4, h0, Int.toNat_natCast, beq_self_eq_true, reduceCtorEq, ↓reduceIte, Nat.reduceEqDiff]
theorem of_stop (hr : Rw d l) (n : Nat) (h : n < l.length) (hl : l.length < 4611686018427387904) (h0 : l.getD n 0 ≠ 0) : X G integer_of_l0 (of_st neg d ((n + 1 : Nat) : Int)) = some (.x 0, of_st neg d ((n + 1 : Nat) : Int)) := by
  have e1 : decide (((n + 1 : Nat) : Int) > 0) = true := gt_t (by omega)
  have e2 : w64 (((n + 1 : Nat) : Int) - 1) = n := by rw [w64_id (by omega) (by omega)]; omega
  have e3 := hr.ixn (j := n) (by omega)
  have e4 := fun hp => ldv hp l (j := n) (by omega)
  simp -implicitDefEqProofs (maxSteps := 10000000) only [integer_of_l0, of_st, go_sem, iv, bv, e1, e2, e3, e4, beq_f h0, Int.toNat_natCast, reduceCtorEq, ↓reduceIte, Nat.reduceEqDiff]
theorem of_zero : X G integer_of_l0 (of_st neg d ((0 : Nat) : Int)) = some (.x 0, of_st neg d ((0 : Nat) : Int)) := by
  have e1 : decide ((0 : Int) > 0) = false := rfl
  simp -implicitDefEqProofs (maxSteps := 10000000) only [integer_of_l0, of_st, go_sem, iv, bv, e1, reduceCtorEq, ↓reduceIte, Nat.reduceEqDiff]

theorem of_loop (hr : Rw d l) (hl : l.length < 4611686018427387904) : ∀ n : Nat, n ≤ l.length → X G (.loop integer_of_l0) (of_st neg d (n : Int)) = some (.x 0, of_st neg d (cutn l n : Nat))
  | 0, _ => by
    rw [X_loop, of_zero]
    rfl
  | n + 1, h => by
    rw [X_loop, cutn]
    by_cases h0 : l.getD n 0 = 0
    · rw [of_go neg d l hr n (by omega) hl h0, if_pos h0]
      exact of_loop hr hl n (by omega)
    · rw [of_stop neg d l hr n (by omega) hl h0, if_neg h0]
      rfl
end

theorem of_spec (neg : Bool) {d : D} {l : List Int} (hr : Rw d l) (hl : l.length < 4611686018427387904) (hd : Dig l) : callX G n_integer_of [bv neg, d] = some (.d (encI (sgn neg (val l)))) := by
  rw [callX_eq (cf := integer_of) rfl, encI_sgn hd]
  have hc := cutn_le l l.length
  have el := of_loop neg d l hr hl l.length (Nat.le_refl _)
  simp only [of_st, iv, bv] at el
  generalize hn : cutn l l.length = n at *
  by_cases h0 : n = 0
  · subst h0
    have e0 : ((0 : Int) == 0) = true := rfl
    simp only [nc0] at el
    simp -implicitDefEqProofs (maxSteps := 10000000) only [integer_of, go_sem, stcells, ldcells, iv, bv, hr.len, el, e0, reduceCtorEq, ↓reduceIte, Nat.reduceEqDiff, List.length_cons, List.length_nil]
  · obtain rfl := hr.ne (by rintro rfl; simp [cutn] at hn; exact h0 hn.symm)
    have e0 : (((n : Nat) : Int) == 0) = false := beq_f (by omega)
    have e1 : (0 : Int) ≤ 0 ∧ (0 : Int) ≤ (n : Int) ∧ (n : Int) ≤ (l.length : Int) := by omega
    have e2 : (n : Int) ≤ (n : Int) ∧ (n : Int) ≤ (l.length : Int) := by omega
    simp only [rowI] at el
    have e3 : (some n = some 0) = False := by simp [h0]
    simp -implicitDefEqProofs (maxSteps := 10000000) only [integer_of, go_sem, stcells, ldcells, iv, bv, rowI, el, e0, e1, e2, e3, h0, reduceCtorEq, ↓reduceIte, Nat.reduceEqDiff, List.length_cons, List.length_nil]
end Go.AM

