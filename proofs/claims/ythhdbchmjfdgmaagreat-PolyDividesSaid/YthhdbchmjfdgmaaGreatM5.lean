/- Part 5 of the proof: a small machine, its soundness against the model, and what the program's functions compute on it. -/
import Derived.Test.YthhdbchmjfdgmaaGreatM4
import Derived.Test.YthhdbchmjfdgmaaGreatProg
import Derived.KernelRfl
set_option linter.unusedVariables false
set_option linter.unusedSimpArgs false
set_option maxRecDepth 100000
namespace Go.AM
open Go Go.Proofs


/- 67: gantry/gantryref04.Same -/
def gantryref04_Same_l0 : C :=
  .seq (.seq (.seq (.seq (.reg [⟨(some 20), .mov (.t 5), none⟩,
    ⟨(some 21), .fad 1 (.t 2), none⟩,
    ⟨(some 22), .load none (.t 21), none⟩,
    ⟨(some 23), .len (.t 22), none⟩,
    ⟨(some 24), .bin .lss (.t 20) (.t 23), none⟩] []) <|
  .keep [2, 3, 5, 24] [[2], [3]]) <|
  .cond (.t 24) (.skip) <|
  .seq (.keep [] []) <|
  .exit 0) <|
  .seq (.seq (.blk 1 <|
  .seq (.seq (.reg [⟨(some 27), .fad 1 (.t 2), none⟩,
    ⟨(some 28), .load none (.t 27), none⟩,
    ⟨(some 29), .mov (.t 5), none⟩,
    ⟨(some 30), .ixa 1 (.t 28) (.t 29), none⟩,
    ⟨(some 31), .load none (.t 30), none⟩,
    ⟨(some 32), .fad 1 (.t 3), none⟩,
    ⟨(some 33), .load none (.t 32), none⟩,
    ⟨(some 34), .mov (.t 5), none⟩,
    ⟨(some 35), .ixa 1 (.t 33) (.t 34), none⟩,
    ⟨(some 36), .load none (.t 35), none⟩,
    ⟨(some 37), .bin .neq (.t 31) (.t 36), none⟩] []) <|
  .keep [2, 3, 5, 37] [[2], [3]]) <|
  .cond (.t 37) (.seq (.seq (.reg [⟨(some 4), .mov (.c (.v (.bool false))), none⟩] []) <|
  .keep [4] []) <|
  .ret) <|
  .skip) <|
  .keep [2, 3, 5] [[2], [3]]) <|
  .seq (.reg [⟨(some 25), .mov (.t 5), none⟩,
    ⟨(some 26), .bin .add (.t 25) (.c (.v (.int .i64 1))), none⟩,
    ⟨(some 5), .mov (.t 26), none⟩] []) <|
  .keep [2, 3, 5] [[2], [3]]) <|
  .keep [2, 3, 5] [[2], [3]]
def gantryref04_Same : CF := ⟨2, .seq (.seq (.reg [⟨(some 2), .box (.t 0), none⟩,
    ⟨(some 3), .box (.t 1), none⟩,
    ⟨(some 4), .mov (.c (.v (.bool false))), none⟩] []) <|
  .keep [2, 3] [[2], [3]]) <|
  .seq (.seq (.seq (.reg [⟨(some 6), .fad 0 (.t 2), none⟩,
    ⟨(some 7), .load none (.t 6), none⟩,
    ⟨(some 8), .fad 0 (.t 3), none⟩,
    ⟨(some 9), .load none (.t 8), none⟩,
    ⟨(some 10), .binb true (.t 7) (.t 9), none⟩,
    ⟨(some 11), .mov (.t 10), none⟩,
    ⟨(some 12), .fad 1 (.t 2), (some (11, false))⟩,
    ⟨(some 13), .load none (.t 12), (some (11, false))⟩,
    ⟨(some 14), .len (.t 13), (some (11, false))⟩,
    ⟨(some 15), .fad 1 (.t 3), (some (11, false))⟩,
    ⟨(some 16), .load none (.t 15), (some (11, false))⟩,
    ⟨(some 17), .len (.t 16), (some (11, false))⟩,
    ⟨(some 18), .bin .neq (.t 14) (.t 17), (some (11, false))⟩,
    ⟨(some 19), .pick (.t 11) (.c (.v (.bool true))) (.t 18), none⟩] []) <|
  .keep [2, 3, 19] [[2], [3]]) <|
  .cond (.t 19) (.seq (.seq (.reg [⟨(some 4), .mov (.c (.v (.bool false))), none⟩] []) <|
  .keep [4] []) <|
  .ret) <|
  .skip) <|
  .seq (.seq (.seq (.reg [⟨(some 5), .mov (.c (.v (.int .i64 0))), none⟩] []) <|
  .keep [2, 3, 5] [[2], [3]]) <|
  .seq (.blk 0 <|
  .seq (.keep [2, 3, 5] [[2], [3]]) <|
  .loop gantryref04_Same_l0) <|
  .keep [] []) <|
  .seq (.seq (.reg [⟨(some 4), .mov (.c (.v (.bool true))), none⟩] []) <|
  .keep [4] []) <|
  .ret, [.t 4]⟩

/- 68: slices.Backward[gantry/api.Poly,gantry/api.Rat] -/
def slices_Backward_api_Poly_api_Rat : CF := ⟨1, .seq (.seq (.reg [⟨(some 1), .box (.t 0), none⟩,
    ⟨(some 2), .mov (.c (.v (.nilFunc))), none⟩] []) <|
  .keep [1] [[1]]) <|
  .seq (.seq (.reg [⟨(some 3), .mkfn n_slices_Backward_api_Poly_api_Rat_1 [(.t 1)] true, none⟩,
    ⟨(some 2), .mov (.t 3), none⟩] []) <|
  .keep [2] []) <|
  .ret, [.t 2]⟩

/- 69: gantry/poly.Derive$1 -/
def poly_Derive_1 : CF := ⟨2, .seq (.seq (.reg [⟨(some 3), .new [.v (.bool false), .z true, .v (.bool false), .z true], none⟩] []) <|
  .keep [0, 1, 3] [[3]]) <|
  .seq (.seq (.reg [⟨(some 4), .load none (.t 1), none⟩,
    ⟨(some 5), .mov (.t 0), none⟩,
    ⟨(some 6), .bin .add (.t 5) (.c (.v (.int .i64 1))), none⟩,
    ⟨(some 7), .ixa 4 (.t 4) (.t 6), none⟩,
    ⟨(some 8), .load (some 4) (.t 7), none⟩,
    ⟨(some 9), .mov (.t 0), none⟩,
    ⟨(some 10), .bin .add (.t 9) (.c (.v (.int .i64 1))), none⟩,
    ⟨(some 11), .call n_rat_Of [(.t 10), (.c (.v (.int .i64 1)))] false, none⟩,
    ⟨(some 12), .call n_rat_Mul [(.t 8), (.t 11)] false, none⟩,
    ⟨none, .store 4 (.t 3) (.t 12), none⟩] []) <|
  .keep [3] [[3]]) <|
  .ret, [.cell 3 (some 4)]⟩

/- 70: gantry/rat.Of -/
def rat_Of : CF := ⟨2, .seq (.seq (.reg [⟨(some 4), .new [.v (.bool false), .z true, .v (.bool false), .z true], none⟩] []) <|
  .keep [0, 1, 4] [[4]]) <|
  .seq (.seq (.reg [⟨(some 5), .mov (.t 0), none⟩,
    ⟨(some 6), .call n_integer_Of [(.t 5)] false, none⟩,
    ⟨(some 7), .mov (.t 1), none⟩,
    ⟨(some 8), .call n_integer_Of [(.t 7)] false, none⟩,
    ⟨(some 9), .call n_rat_Make [(.t 6), (.t 8)] false, none⟩,
    ⟨none, .store 4 (.t 4) (.t 9), none⟩] []) <|
  .keep [4] [[4]]) <|
  .ret, [.cell 4 (some 4)]⟩

/- 71: gantry/rat.Same$1 -/
def rat_Same_1 : CF := ⟨2, .seq (.seq (.reg [⟨(some 2), .box (.t 0), none⟩,
    ⟨(some 3), .box (.t 1), none⟩,
    ⟨(some 4), .mov (.c (.v (.bool false))), none⟩] []) <|
  .keep [2, 3] [[2], [3]]) <|
  .seq (.seq (.reg [⟨(some 5), .fad 0 (.t 2), none⟩,
    ⟨(some 6), .load none (.t 5), none⟩,
    ⟨(some 7), .fad 0 (.t 3), none⟩,
    ⟨(some 8), .load none (.t 7), none⟩,
    ⟨(some 9), .binb false (.t 6) (.t 8), none⟩,
    ⟨(some 10), .mov (.t 9), none⟩,
    ⟨(some 11), .fad 1 (.t 2), (some (10, true))⟩,
    ⟨(some 12), .load none (.t 11), (some (10, true))⟩,
    ⟨(some 13), .fad 1 (.t 3), (some (10, true))⟩,
    ⟨(some 14), .load none (.t 13), (some (10, true))⟩,
    ⟨(some 15), .call n_slices_Equal_int_int [(.t 12), (.t 14)] false, (some (10, true))⟩,
    ⟨(some 16), .pick (.t 10) (.t 15) (.c (.v (.bool false))), none⟩,
    ⟨(some 4), .mov (.t 16), none⟩] []) <|
  .keep [4] []) <|
  .ret, [.t 4]⟩

/- 72: slices.Equal[[]int,int] -/
def slices_Equal_int_int_l0 : C :=
  .seq (.seq (.seq (.reg [⟨(some 14), .bin .lss (.t 13) (.t 12), none⟩] []) <|
  .keep [0, 1, 12, 13, 14] []) <|
  .seq (.cond (.t 14) (.skip) <|
  .seq (.keep [] []) <|
  .exit 0) <|
  .seq (.seq (.blk 1 <|
  .seq (.seq (.reg [⟨(some 15), .mov (.t 13), none⟩,
    ⟨(some 5), .mov (.t 15), none⟩] []) <|
  .keep [0, 1, 5, 12, 13] []) <|
  .seq (.seq (.reg [⟨(some 16), .mov (.t 0), none⟩,
    ⟨(some 17), .mov (.t 5), none⟩,
    ⟨(some 18), .ixa 1 (.t 16) (.t 17), none⟩,
    ⟨(some 19), .load none (.t 18), none⟩,
    ⟨(some 20), .mov (.t 1), none⟩,
    ⟨(some 21), .mov (.t 5), none⟩,
    ⟨(some 22), .ixa 1 (.t 20) (.t 21), none⟩,
    ⟨(some 23), .load none (.t 22), none⟩,
    ⟨(some 24), .bin .neq (.t 19) (.t 23), none⟩] []) <|
  .keep [0, 1, 12, 13, 24] []) <|
  .cond (.t 24) (.seq (.seq (.reg [⟨(some 4), .mov (.c (.v (.bool false))), none⟩] []) <|
  .keep [4] []) <|
  .ret) <|
  .skip) <|
  .keep [0, 1, 12, 13] []) <|
  .seq (.reg [⟨(some 25), .bin .add (.t 13) (.c (.v (.int .i64 1))), none⟩,
    ⟨(some 13), .mov (.t 25), none⟩] []) <|
  .keep [0, 1, 12, 13] []) <|
  .keep [0, 1, 12, 13] []
def slices_Equal_int_int : CF := ⟨2, .seq (.seq (.reg [⟨(some 4), .mov (.c (.v (.bool false))), none⟩] []) <|
  .keep [0, 1] []) <|
  .seq (.seq (.seq (.reg [⟨(some 6), .mov (.t 0), none⟩,
    ⟨(some 7), .len (.t 6), none⟩,
    ⟨(some 8), .mov (.t 1), none⟩,
    ⟨(some 9), .len (.t 8), none⟩,
    ⟨(some 10), .bin .neq (.t 7) (.t 9), none⟩] []) <|
  .keep [0, 1, 10] []) <|
  .cond (.t 10) (.seq (.seq (.reg [⟨(some 4), .mov (.c (.v (.bool false))), none⟩] []) <|
  .keep [4] []) <|
  .ret) <|
  .skip) <|
  .seq (.seq (.seq (.reg [⟨(some 11), .mov (.t 0), none⟩,
    ⟨(some 12), .len (.t 11), none⟩,
    ⟨(some 13), .mov (.c (.v (.int .i64 0))), none⟩] []) <|
  .keep [0, 1, 12, 13] []) <|
  .seq (.blk 0 <|
  .seq (.keep [0, 1, 12, 13] []) <|
  .loop slices_Equal_int_int_l0) <|
  .keep [] []) <|
  .seq (.seq (.reg [⟨(some 4), .mov (.c (.v (.bool true))), none⟩] []) <|
  .keep [4] []) <|
  .ret, [.t 4]⟩

/- 73: gantry/integer.Add -/
def integer_Add : CF := ⟨2, .seq (.seq (.reg [⟨(some 2), .box (.t 0), none⟩,
    ⟨(some 3), .box (.t 1), none⟩,
    ⟨(some 4), .new [.v (.bool false), .z true], none⟩] []) <|
  .keep [2, 3, 4] [[2], [3], [4]]) <|
  .seq (.seq (.blk 0 <|
  .seq (.seq (.reg [⟨(some 6), .fad 0 (.t 2), none⟩,
    ⟨(some 7), .load none (.t 6), none⟩,
    ⟨(some 8), .fad 0 (.t 3), none⟩,
    ⟨(some 9), .load none (.t 8), none⟩,
    ⟨(some 10), .binb false (.t 7) (.t 9), none⟩,
    ⟨(some 5), .mov (.t 10), none⟩] []) <|
  .keep [2, 3, 4, 5] [[2], [3], [4]]) <|
  .cond (.t 5) (.seq (.seq (.reg [⟨(some 11), .fad 0 (.t 2), none⟩,
    ⟨(some 12), .load none (.t 11), none⟩,
    ⟨(some 13), .fad 1 (.t 2), none⟩,
    ⟨(some 14), .load none (.t 13), none⟩,
    ⟨(some 15), .fad 1 (.t 3), none⟩,
    ⟨(some 16), .load none (.t 15), none⟩,
    ⟨(some 17), .call n_integer_plus [(.t 14), (.t 16)] false, none⟩,
    ⟨(some 18), .call n_integer_of [(.t 12), (.t 17)] false, none⟩,
    ⟨none, .store 2 (.t 4) (.t 18), none⟩] []) <|
  .keep [4] [[4]]) <|
  .ret) <|
  .seq (.seq (.reg [⟨(some 20), .fad 1 (.t 2), none⟩,
    ⟨(some 21), .load none (.t 20), none⟩,
    ⟨(some 22), .fad 1 (.t 3), none⟩,
    ⟨(some 23), .load none (.t 22), none⟩,
    ⟨(some 24), .call n_integer_compare [(.t 21), (.t 23)] false, none⟩,
    ⟨(some 25), .bin .lss (.t 24) (.c (.v (.int .i64 0))), none⟩,
    ⟨(some 19), .mov (.t 25), none⟩] []) <|
  .keep [2, 3, 4, 19] [[2], [3], [4]]) <|
  .cond (.t 19) (.seq (.seq (.reg [⟨(some 26), .fad 0 (.t 3), none⟩,
    ⟨(some 27), .load none (.t 26), none⟩,
    ⟨(some 28), .fad 1 (.t 3), none⟩,
    ⟨(some 29), .load none (.t 28), none⟩,
    ⟨(some 30), .fad 1 (.t 2), none⟩,
    ⟨(some 31), .load none (.t 30), none⟩,
    ⟨(some 32), .call n_integer_minus [(.t 29), (.t 31)] false, none⟩,
    ⟨(some 33), .call n_integer_of [(.t 27), (.t 32)] false, none⟩,
    ⟨none, .store 2 (.t 4) (.t 33), none⟩] []) <|
  .keep [4] [[4]]) <|
  .ret) <|
  .skip) <|
  .keep [2, 3, 4] [[2], [3], [4]]) <|
  .seq (.seq (.reg [⟨(some 34), .fad 0 (.t 2), none⟩,
    ⟨(some 35), .load none (.t 34), none⟩,
    ⟨(some 36), .fad 1 (.t 2), none⟩,
    ⟨(some 37), .load none (.t 36), none⟩,
    ⟨(some 38), .fad 1 (.t 3), none⟩,
    ⟨(some 39), .load none (.t 38), none⟩,
    ⟨(some 40), .call n_integer_minus [(.t 37), (.t 39)] false, none⟩,
    ⟨(some 41), .call n_integer_of [(.t 35), (.t 40)] false, none⟩,
    ⟨none, .store 2 (.t 4) (.t 41), none⟩] []) <|
  .keep [4] [[4]]) <|
  .ret, [.cell 4 (some 2)]⟩

/- 74: gantry/rat.Den -/
def rat_Den : CF := ⟨1, .seq (.seq (.reg [⟨(some 1), .box (.t 0), none⟩,
    ⟨(some 2), .new [.v (.bool false), .z true], none⟩] []) <|
  .keep [1, 2] [[1], [2]]) <|
  .seq (.seq (.seq (.reg [⟨(some 3), .fad 2 (.t 1), none⟩,
    ⟨(some 4), .fad 1 (.t 3), none⟩,
    ⟨(some 5), .load none (.t 4), none⟩,
    ⟨(some 6), .len (.t 5), none⟩,
    ⟨(some 7), .bin .eql (.t 6) (.c (.v (.int .i64 0))), none⟩] []) <|
  .keep [1, 2, 7] [[1], [2]]) <|
  .cond (.t 7) (.seq (.seq (.reg [⟨(some 8), .call n_rat_one [] false, none⟩,
    ⟨none, .store 2 (.t 2) (.t 8), none⟩] []) <|
  .keep [2] [[2]]) <|
  .ret) <|
  .skip) <|
  .seq (.seq (.reg [⟨(some 9), .fad 2 (.t 1), none⟩,
    ⟨(some 10), .load (some 2) (.t 9), none⟩,
    ⟨none, .store 2 (.t 2) (.t 10), none⟩] []) <|
  .keep [2] [[2]]) <|
  .ret, [.cell 2 (some 2)]⟩

/- 75: gantry/rat.Make -/
def rat_Make : CF := ⟨2, .seq (.seq (.reg [⟨(some 2), .box (.t 0), none⟩,
    ⟨(some 3), .box (.t 1), none⟩,
    ⟨(some 4), .new [.v (.bool false), .z true, .v (.bool false), .z true], none⟩] []) <|
  .keep [2, 3, 4] [[2], [3], [4]]) <|
  .seq (.seq (.seq (.reg [⟨(some 6), .fad 1 (.t 3), none⟩,
    ⟨(some 7), .load none (.t 6), none⟩,
    ⟨(some 8), .len (.t 7), none⟩,
    ⟨(some 9), .bin .eql (.t 8) (.c (.v (.int .i64 0))), none⟩,
    ⟨(some 10), .mov (.t 9), none⟩,
    ⟨(some 11), .fad 1 (.t 2), (some (10, false))⟩,
    ⟨(some 12), .load none (.t 11), (some (10, false))⟩,
    ⟨(some 13), .len (.t 12), (some (10, false))⟩,
    ⟨(some 14), .bin .eql (.t 13) (.c (.v (.int .i64 0))), (some (10, false))⟩,
    ⟨(some 15), .pick (.t 10) (.c (.v (.bool true))) (.t 14), none⟩] []) <|
  .keep [2, 3, 4, 15] [[2], [3], [4]]) <|
  .cond (.t 15) (.seq (.seq (.reg [⟨(some 16), .build [.v (.bool false), .z true, .v (.bool false), .z true] [], none⟩,
    ⟨none, .store 4 (.t 4) (.t 16), none⟩] []) <|
  .keep [4] [[4]]) <|
  .ret) <|
  .skip) <|
  .seq (.seq (.seq (.reg [⟨(some 17), .load (some 2) (.t 2), none⟩,
    ⟨(some 18), .load (some 2) (.t 3), none⟩,
    ⟨(some 19), .call n_integer_Gcd [(.t 17), (.t 18)] false, none⟩,
    ⟨(some 5), .new [.v (.bool false), .z true], none⟩,
    ⟨none, .store 2 (.t 5) (.t 19), none⟩] []) <|
  .keep [2, 3, 4, 5] [[2], [3], [4], [5]]) <|
  .seq (.seq (.reg [⟨(some 20), .load (some 2) (.t 5), none⟩,
    ⟨(some 21), .call n_rat_unit [(.t 20)] false, none⟩,
    ⟨(some 22), .un .not (.t 21), none⟩] []) <|
  .keep [2, 3, 4, 5, 22] [[2], [3], [4], [5]]) <|
  .cond (.t 22) (.seq (.seq (.reg [⟨(some 24), .load (some 2) (.t 2), none⟩,
    ⟨(some 25), .load (some 2) (.t 5), none⟩,
    ⟨(some 26), .call n_integer_Div [(.t 24), (.t 25)] false, none⟩,
    ⟨(some 23), .mov (.t 26), none⟩,
    ⟨(some 27), .ext (.t 23) 0, none⟩,
    ⟨(some 28), .ext (.t 23) 1, none⟩,
    ⟨none, .store 2 (.t 2) (.t 27), none⟩] []) <|
  .keep [2, 3, 4, 5] [[2], [3], [4], [5]]) <|
  .seq (.reg [⟨(some 30), .load (some 2) (.t 3), none⟩,
    ⟨(some 31), .load (some 2) (.t 5), none⟩,
    ⟨(some 32), .call n_integer_Div [(.t 30), (.t 31)] false, none⟩,
    ⟨(some 29), .mov (.t 32), none⟩,
    ⟨(some 33), .ext (.t 29) 0, none⟩,
    ⟨(some 34), .ext (.t 29) 1, none⟩,
    ⟨none, .store 2 (.t 3) (.t 33), none⟩] []) <|
  .keep [2, 3, 4] [[2], [3], [4]]) <|
  .skip) <|
  .seq (.seq (.reg [⟨(some 35), .load (some 2) (.t 2), none⟩,
    ⟨(some 36), .load (some 2) (.t 3), none⟩,
    ⟨(some 37), .call n_rat_lowest [(.t 35), (.t 36)] false, none⟩,
    ⟨none, .store 4 (.t 4) (.t 37), none⟩] []) <|
  .keep [4] [[4]]) <|
  .ret, [.cell 4 (some 4)]⟩

/- 76: gantry/integer.Mul -/
def integer_Mul_l0 : C :=
  .seq (.seq (.seq (.reg [⟨(some 57), .bin .lss (.t 56) (.t 55), none⟩] []) <|
  .keep [2, 3, 4, 6, 7, 8, 9, 10, 47, 48, 49, 54, 55, 56, 57] [[2], [3], [4], [46]]) <|
  .seq (.cond (.t 57) (.skip) <|
  .seq (.keep [2, 3, 4, 6, 7, 8, 10, 47, 48, 49] [[2], [3], [4], [46]]) <|
  .exit 2) <|
  .seq (.seq (.blk 3 <|
  .seq (.seq (.reg [⟨(some 58), .mov (.t 56), none⟩,
    ⟨(some 59), .ixa 1 (.t 54) (.t 56), none⟩,
    ⟨(some 60), .load none (.t 59), none⟩,
    ⟨(some 11), .mov (.t 58), none⟩,
    ⟨(some 12), .mov (.t 60), none⟩] []) <|
  .keep [2, 3, 4, 6, 7, 8, 9, 10, 11, 12, 47, 48, 49, 54, 55, 56] [[2], [3], [4], [46]]) <|
  .seq (.seq (.reg [⟨(some 61), .mov (.t 7), none⟩,
    ⟨(some 62), .mov (.t 8), none⟩,
    ⟨(some 63), .mov (.t 11), none⟩,
    ⟨(some 64), .bin .add (.t 62) (.t 63), none⟩,
    ⟨(some 65), .ixa 1 (.t 61) (.t 64), none⟩,
    ⟨(some 66), .load none (.t 65), none⟩,
    ⟨(some 67), .mov (.t 9), none⟩,
    ⟨(some 68), .mov (.t 12), none⟩,
    ⟨(some 69), .bin .mul (.t 67) (.t 68), none⟩,
    ⟨(some 70), .bin .add (.t 66) (.t 69), none⟩,
    ⟨(some 71), .mov (.t 10), none⟩,
    ⟨(some 72), .bin .add (.t 70) (.t 71), none⟩,
    ⟨(some 13), .mov (.t 72), none⟩] []) <|
  .keep [2, 3, 4, 6, 7, 8, 9, 11, 13, 47, 48, 49, 54, 55, 56] [[2], [3], [4], [46]]) <|
  .seq (.seq (.reg [⟨(some 73), .mov (.t 13), none⟩,
    ⟨(some 74), .bin .quo (.t 73) (.c (.v (.int .i64 1000000000))), none⟩,
    ⟨(some 10), .mov (.t 74), none⟩] []) <|
  .keep [2, 3, 4, 6, 7, 8, 9, 10, 11, 13, 47, 48, 49, 54, 55, 56] [[2], [3], [4], [46]]) <|
  .seq (.reg [⟨(some 75), .mov (.t 7), none⟩,
    ⟨(some 76), .mov (.t 8), none⟩,
    ⟨(some 77), .mov (.t 11), none⟩,
    ⟨(some 78), .bin .add (.t 76) (.t 77), none⟩,
    ⟨(some 79), .mov (.t 13), none⟩,
    ⟨(some 80), .mov (.t 10), none⟩,
    ⟨(some 81), .bin .mul (.t 80) (.c (.v (.int .i64 1000000000))), none⟩,
    ⟨(some 82), .bin .sub (.t 79) (.t 81), none⟩,
    ⟨(some 83), .ixa 1 (.t 75) (.t 78), none⟩,
    ⟨none, .store 1 (.t 83) (.t 82), none⟩] []) <|
  .keep [2, 3, 4, 6, 7, 8, 9, 10, 47, 48, 49, 54, 55, 56] [[2], [3], [4], [46]]) <|
  .keep [2, 3, 4, 6, 7, 8, 9, 10, 47, 48, 49, 54, 55, 56] [[2], [3], [4], [46]]) <|
  .seq (.reg [⟨(some 84), .bin .add (.t 56) (.c (.v (.int .i64 1))), none⟩,
    ⟨(some 56), .mov (.t 84), none⟩] []) <|
  .keep [2, 3, 4, 6, 7, 8, 9, 10, 47, 48, 49, 54, 55, 56] [[2], [3], [4], [46]]) <|
  .keep [2, 3, 4, 6, 7, 8, 9, 10, 47, 48, 49, 54, 55, 56] [[2], [3], [4], [46]]
def integer_Mul_l1 : C :=
  .seq (.seq (.seq (.reg [⟨(some 50), .bin .lss (.t 49) (.t 48), none⟩] []) <|
  .keep [2, 3, 4, 6, 7, 47, 48, 49, 50] [[2], [3], [4], [46]]) <|
  .seq (.cond (.t 50) (.skip) <|
  .seq (.keep [2, 3, 4, 7] [[2], [3], [4], [46]]) <|
  .exit 0) <|
  .seq (.seq (.blk 1 <|
  .seq (.seq (.reg [⟨(some 51), .mov (.t 49), none⟩,
    ⟨(some 52), .ixa 1 (.t 47) (.t 49), none⟩,
    ⟨(some 53), .load none (.t 52), none⟩,
    ⟨(some 8), .mov (.t 51), none⟩,
    ⟨(some 9), .mov (.t 53), none⟩] []) <|
  .keep [2, 3, 4, 6, 7, 8, 9, 47, 48, 49] [[2], [3], [4], [46]]) <|
  .seq (.seq (.reg [⟨(some 10), .mov (.c (.v (.int .i64 0))), none⟩] []) <|
  .keep [2, 3, 4, 6, 7, 8, 9, 10, 47, 48, 49] [[2], [3], [4], [46]]) <|
  .seq (.seq (.seq (.reg [⟨(some 54), .mov (.t 6), none⟩,
    ⟨(some 55), .len (.t 54), none⟩,
    ⟨(some 56), .mov (.c (.v (.int .i64 0))), none⟩] []) <|
  .keep [2, 3, 4, 6, 7, 8, 9, 10, 47, 48, 49, 54, 55, 56] [[2], [3], [4], [46]]) <|
  .seq (.blk 2 <|
  .seq (.keep [2, 3, 4, 6, 7, 8, 9, 10, 47, 48, 49, 54, 55, 56] [[2], [3], [4], [46]]) <|
  .loop integer_Mul_l0) <|
  .keep [2, 3, 4, 6, 7, 8, 10, 47, 48, 49] [[2], [3], [4], [46]]) <|
  .seq (.reg [⟨(some 85), .mov (.t 7), none⟩,
    ⟨(some 86), .mov (.t 8), none⟩,
    ⟨(some 87), .mov (.t 6), none⟩,
    ⟨(some 88), .len (.t 87), none⟩,
    ⟨(some 89), .bin .add (.t 86) (.t 88), none⟩,
    ⟨(some 90), .mov (.t 10), none⟩,
    ⟨(some 91), .ixa 1 (.t 85) (.t 89), none⟩,
    ⟨none, .store 1 (.t 91) (.t 90), none⟩] []) <|
  .keep [2, 3, 4, 6, 7, 47, 48, 49] [[2], [3], [4], [46]]) <|
  .keep [2, 3, 4, 6, 7, 47, 48, 49] [[2], [3], [4], [46]]) <|
  .seq (.reg [⟨(some 92), .bin .add (.t 49) (.c (.v (.int .i64 1))), none⟩,
    ⟨(some 49), .mov (.t 92), none⟩] []) <|
  .keep [2, 3, 4, 6, 7, 47, 48, 49] [[2], [3], [4], [46]]) <|
  .keep [2, 3, 4, 6, 7, 47, 48, 49] [[2], [3], [4], [46]]
def integer_Mul : CF := ⟨2, .seq (.seq (.reg [⟨(some 2), .box (.t 0), none⟩,
    ⟨(some 3), .box (.t 1), none⟩,
    ⟨(some 4), .new [.v (.bool false), .z true], none⟩] []) <|
  .keep [2, 3, 4] [[2], [3], [4]]) <|
  .seq (.seq (.reg [⟨(some 14), .fad 1 (.t 2), none⟩,
    ⟨(some 15), .load none (.t 14), none⟩,
    ⟨(some 16), .fad 1 (.t 3), none⟩,
    ⟨(some 17), .load none (.t 16), none⟩,
    ⟨(some 5), .mov (.t 15), none⟩,
    ⟨(some 6), .mov (.t 17), none⟩] []) <|
  .keep [2, 3, 4, 5, 6] [[2], [3], [4]]) <|
  .seq (.seq (.seq (.reg [⟨(some 18), .mov (.t 5), none⟩,
    ⟨(some 19), .len (.t 18), none⟩,
    ⟨(some 20), .bin .eql (.t 19) (.c (.v (.int .i64 1))), none⟩,
    ⟨(some 21), .mov (.t 20), none⟩,
    ⟨(some 22), .mov (.t 6), (some (21, true))⟩,
    ⟨(some 23), .len (.t 22), (some (21, true))⟩,
    ⟨(some 24), .bin .eql (.t 23) (.c (.v (.int .i64 1))), (some (21, true))⟩,
    ⟨(some 25), .pick (.t 21) (.t 24) (.c (.v (.bool false))), none⟩] []) <|
  .keep [2, 3, 4, 5, 6, 25] [[2], [3], [4]]) <|
  .cond (.t 25) (.seq (.seq (.reg [⟨(some 26), .fad 0 (.t 2), none⟩,
    ⟨(some 27), .load none (.t 26), none⟩,
    ⟨(some 28), .fad 0 (.t 3), none⟩,
    ⟨(some 29), .load none (.t 28), none⟩,
    ⟨(some 30), .binb true (.t 27) (.t 29), none⟩,
    ⟨(some 31), .mov (.t 5), none⟩,
    ⟨(some 32), .ixa 1 (.t 31) (.c (.v (.int .i64 0))), none⟩,
    ⟨(some 33), .load none (.t 32), none⟩,
    ⟨(some 34), .conv (.int .u64) (.t 33), none⟩,
    ⟨(some 35), .mov (.t 6), none⟩,
    ⟨(some 36), .ixa 1 (.t 35) (.c (.v (.int .i64 0))), none⟩,
    ⟨(some 37), .load none (.t 36), none⟩,
    ⟨(some 38), .conv (.int .u64) (.t 37), none⟩,
    ⟨(some 39), .bin .mul (.t 34) (.t 38), none⟩,
    ⟨(some 40), .call n_integer_unsigned [(.t 30), (.t 39)] false, none⟩,
    ⟨none, .store 2 (.t 4) (.t 40), none⟩] []) <|
  .keep [4] [[4]]) <|
  .ret) <|
  .skip) <|
  .seq (.seq (.reg [⟨(some 41), .mov (.t 5), none⟩,
    ⟨(some 42), .len (.t 41), none⟩,
    ⟨(some 43), .mov (.t 6), none⟩,
    ⟨(some 44), .len (.t 43), none⟩,
    ⟨(some 45), .bin .add (.t 42) (.t 44), none⟩,
    ⟨(some 46), .mksl 1 8 [.v (.int .i64 0)] (.t 45) (.t 45), none⟩,
    ⟨(some 7), .mov (.t 46), none⟩] []) <|
  .keep [2, 3, 4, 5, 6, 7] [[2], [3], [4], [46]]) <|
  .seq (.seq (.seq (.reg [⟨(some 47), .mov (.t 5), none⟩,
    ⟨(some 48), .len (.t 47), none⟩,
    ⟨(some 49), .mov (.c (.v (.int .i64 0))), none⟩] []) <|
  .keep [2, 3, 4, 6, 7, 47, 48, 49] [[2], [3], [4], [46]]) <|
  .seq (.blk 0 <|
  .seq (.keep [2, 3, 4, 6, 7, 47, 48, 49] [[2], [3], [4], [46]]) <|
  .loop integer_Mul_l1) <|
  .keep [2, 3, 4, 7] [[2], [3], [4], [46]]) <|
  .seq (.seq (.frz 7) <|
  .seq (.reg [⟨(some 93), .fad 0 (.t 2), none⟩,
    ⟨(some 94), .load none (.t 93), none⟩,
    ⟨(some 95), .fad 0 (.t 3), none⟩,
    ⟨(some 96), .load none (.t 95), none⟩,
    ⟨(some 97), .binb true (.t 94) (.t 96), none⟩,
    ⟨(some 98), .mov (.t 7), none⟩,
    ⟨(some 99), .call n_integer_of [(.t 97), (.t 98)] false, none⟩,
    ⟨none, .store 2 (.t 4) (.t 99), none⟩] []) <|
  .keep [4] [[4]]) <|
  .ret, [.cell 4 (some 2)]⟩

/- 77: gantry/rat.lowest -/
def rat_lowest : CF := ⟨2, .seq (.seq (.reg [⟨(some 2), .box (.t 0), none⟩,
    ⟨(some 3), .box (.t 1), none⟩,
    ⟨(some 4), .new [.v (.bool false), .z true, .v (.bool false), .z true], none⟩] []) <|
  .keep [2, 3, 4] [[2], [3], [4]]) <|
  .seq (.seq (.seq (.reg [⟨(some 5), .fad 0 (.t 3), none⟩,
    ⟨(some 6), .load none (.t 5), none⟩] []) <|
  .keep [2, 3, 4, 6] [[2], [3], [4]]) <|
  .cond (.t 6) (.seq (.reg [⟨(some 7), .load (some 2) (.t 2), none⟩,
    ⟨(some 8), .call n_integer_Neg [(.t 7)] false, none⟩,
    ⟨(some 9), .load (some 2) (.t 3), none⟩,
    ⟨(some 10), .call n_integer_Neg [(.t 9)] false, none⟩,
    ⟨none, .store 2 (.t 2) (.t 8), none⟩,
    ⟨none, .store 2 (.t 3) (.t 10), none⟩] []) <|
  .keep [2, 3, 4] [[2], [3], [4]]) <|
  .skip) <|
  .seq (.seq (.seq (.reg [⟨(some 11), .load (some 2) (.t 3), none⟩,
    ⟨(some 12), .call n_rat_unit [(.t 11)] false, none⟩] []) <|
  .keep [2, 3, 4, 12] [[2], [3], [4]]) <|
  .cond (.t 12) (.seq (.seq (.reg [⟨(some 13), .load (some 2) (.t 2), none⟩,
    ⟨(some 14), .build [.v (.bool false), .z true, .v (.bool false), .z true] [(0, 2, (.t 13))], none⟩,
    ⟨none, .store 4 (.t 4) (.t 14), none⟩] []) <|
  .keep [4] [[4]]) <|
  .ret) <|
  .skip) <|
  .seq (.seq (.reg [⟨(some 15), .load (some 2) (.t 2), none⟩,
    ⟨(some 16), .load (some 2) (.t 3), none⟩,
    ⟨(some 17), .build [.v (.bool false), .z true, .v (.bool false), .z true] [(0, 2, (.t 15)), (2, 2, (.t 16))], none⟩,
    ⟨none, .store 4 (.t 4) (.t 17), none⟩] []) <|
  .keep [4] [[4]]) <|
  .ret, [.cell 4 (some 4)]⟩

/- 78: gantry/wire.Int -/
def wire_Int_l0 : C :=
  .seq (.seq (.seq (.seq (.reg [⟨(some 14), .mov (.t 5), none⟩,
    ⟨(some 15), .bin .gtr (.t 14) (.c (.v (.int .i64 0))), none⟩] []) <|
  .keep [3, 4, 5, 15] []) <|
  .cond (.t 15) (.skip) <|
  .seq (.keep [3, 4, 5] []) <|
  .exit 0) <|
  .seq (.blk 1 <|
  .seq (.seq (.seq (.reg [⟨(some 16), .mov (.t 3), none⟩,
    ⟨(some 17), .mov (.t 5), none⟩,
    ⟨(some 18), .bin .sub (.t 17) (.c (.v (.int .i64 1))), none⟩,
    ⟨(some 19), .bin .mul (.c (.v (.int .i64 8))) (.t 18), none⟩,
    ⟨(some 20), .bin .shr (.t 16) (.t 19), none⟩,
    ⟨(some 21), .bin .gtr (.t 20) (.c (.v (.int .u64 0))), none⟩] []) <|
  .keep [3, 4, 5, 21] []) <|
  .cond (.t 21) (.seq (.keep [3, 4, 5] []) <|
  .exit 0) <|
  .skip) <|
  .seq (.reg [⟨(some 22), .mov (.t 5), none⟩,
    ⟨(some 23), .bin .sub (.t 22) (.c (.v (.int .i64 1))), none⟩,
    ⟨(some 5), .mov (.t 23), none⟩] []) <|
  .keep [3, 4, 5] []) <|
  .keep [3, 4, 5] []) <|
  .keep [3, 4, 5] []
def wire_Int_l1 : C :=
  .seq (.seq (.seq (.seq (.reg [⟨(some 32), .mov (.t 7), none⟩,
    ⟨(some 33), .bin .geq (.t 32) (.c (.v (.int .i64 0))), none⟩] []) <|
  .keep [3, 4, 6, 7, 33] [[29], [45]]) <|
  .cond (.t 33) (.skip) <|
  .seq (.keep [6] [[29], [45]]) <|
  .exit 2) <|
  .seq (.seq (.blk 3 <|
  .seq (.reg [⟨(some 36), .mov (.t 6), none⟩,
    ⟨(some 37), .mov (.t 3), none⟩,
    ⟨(some 38), .mov (.t 7), none⟩,
    ⟨(some 39), .bin .mul (.c (.v (.int .i64 8))) (.t 38), none⟩,
    ⟨(some 40), .bin .shr (.t 37) (.t 39), none⟩,
    ⟨(some 41), .conv (.int .u8) (.t 40), none⟩,
    ⟨(some 42), .mov (.t 4), none⟩,
    ⟨(some 43), .bin .xor (.t 41) (.t 42), none⟩,
    ⟨(some 44), .lit 1 1 [.v (.int .u8 0)] [(0, (.t 43))] true, none⟩,
    ⟨(some 45), .app 1 1 (.t 36) (.t 44) false, none⟩,
    ⟨(some 6), .mov (.t 45), none⟩] []) <|
  .keep [3, 4, 6, 7] [[29], [45]]) <|
  .keep [3, 4, 6, 7] [[29], [45]]) <|
  .seq (.reg [⟨(some 34), .mov (.t 7), none⟩,
    ⟨(some 35), .bin .sub (.t 34) (.c (.v (.int .i64 1))), none⟩,
    ⟨(some 7), .mov (.t 35), none⟩] []) <|
  .keep [3, 4, 6, 7] [[29], [45]]) <|
  .keep [3, 4, 6, 7] [[29], [45]]
def wire_Int : CF := ⟨1, .seq (.seq (.reg [⟨(some 2), .mov (.c (.z true)), none⟩] []) <|
  .keep [0] []) <|
  .seq (.seq (.reg [⟨(some 8), .mov (.t 0), none⟩,
    ⟨(some 9), .conv (.int .u64) (.t 8), none⟩,
    ⟨(some 3), .mov (.t 9), none⟩,
    ⟨(some 4), .mov (.c (.v (.int .u8 0))), none⟩] []) <|
  .keep [0, 3, 4] []) <|
  .seq (.seq (.seq (.reg [⟨(some 10), .mov (.t 0), none⟩,
    ⟨(some 11), .bin .lss (.t 10) (.c (.v (.int .i64 0))), none⟩] []) <|
  .keep [3, 4, 11] []) <|
  .cond (.t 11) (.seq (.reg [⟨(some 12), .mov (.t 3), none⟩,
    ⟨(some 13), .un .xor (.t 12), none⟩,
    ⟨(some 3), .mov (.t 13), none⟩,
    ⟨(some 4), .mov (.c (.v (.int .u8 255))), none⟩] []) <|
  .keep [3, 4] []) <|
  .skip) <|
  .seq (.seq (.reg [⟨(some 5), .mov (.c (.v (.int .i64 8))), none⟩] []) <|
  .keep [3, 4, 5] []) <|
  .seq (.skip) <|
  .seq (.seq (.blk 0 <|
  .seq (.keep [3, 4, 5] []) <|
  .loop wire_Int_l0) <|
  .keep [3, 4, 5] []) <|
  .seq (.seq (.reg [⟨(some 24), .mov (.t 5), none⟩,
    ⟨(some 25), .bin .add (.c (.v (.int .i64 128))) (.t 24), none⟩,
    ⟨(some 26), .conv (.int .u8) (.t 25), none⟩,
    ⟨(some 27), .mov (.t 4), none⟩,
    ⟨(some 28), .bin .xor (.t 26) (.t 27), none⟩,
    ⟨(some 29), .lit 1 1 [.v (.int .u8 0)] [(0, (.t 28))] false, none⟩,
    ⟨(some 6), .mov (.t 29), none⟩] []) <|
  .keep [3, 4, 5, 6] [[29], [45]]) <|
  .seq (.seq (.seq (.reg [⟨(some 30), .mov (.t 5), none⟩,
    ⟨(some 31), .bin .sub (.t 30) (.c (.v (.int .i64 1))), none⟩,
    ⟨(some 7), .mov (.t 31), none⟩] []) <|
  .keep [3, 4, 6, 7] [[29], [45]]) <|
  .seq (.blk 2 <|
  .seq (.keep [3, 4, 6, 7] [[29], [45]]) <|
  .loop wire_Int_l1) <|
  .keep [6] [[29], [45]]) <|
  .seq (.seq (.reg [⟨(some 46), .mov (.t 6), none⟩,
    ⟨(some 2), .mov (.t 46), none⟩] []) <|
  .keep [2] [[29], [45]]) <|
  .ret, [.t 2]⟩

/- 79: gantry/rat.Encode -/
def rat_Encode : CF := ⟨1, .seq (.seq (.reg [⟨(some 1), .box (.t 0), none⟩,
    ⟨(some 2), .mov (.c (.z true)), none⟩] []) <|
  .keep [1] [[1]]) <|
  .seq (.seq (.reg [⟨(some 3), .fad 0 (.t 1), none⟩,
    ⟨(some 4), .load (some 2) (.t 3), none⟩,
    ⟨(some 5), .call n_integer_Encode [(.t 4)] false, none⟩,
    ⟨(some 6), .fad 2 (.t 1), none⟩,
    ⟨(some 7), .load (some 2) (.t 6), none⟩,
    ⟨(some 8), .call n_integer_Encode [(.t 7)] false, none⟩,
    ⟨(some 9), .lit 1 2 [.z true] [(0, (.t 5)), (1, (.t 8))] true, none⟩,
    ⟨(some 10), .call n_slices_Concat_byte_byte [(.t 9)] false, none⟩,
    ⟨(some 2), .mov (.t 10), none⟩] []) <|
  .keep [2] []) <|
  .ret, [.t 2]⟩

/- 80: gantry/gantryref01.Int -/
def gantryref01_Int_l0 : C :=
  .seq (.seq (.seq (.seq (.reg [⟨(some 14), .mov (.t 3), none⟩,
    ⟨(some 15), .bin .gtr (.t 14) (.c (.v (.int .i64 0))), none⟩] []) <|
  .keep [0, 3, 4, 15] [[21]]) <|
  .cond (.t 15) (.skip) <|
  .seq (.keep [0, 4] [[21]]) <|
  .exit 0) <|
  .seq (.blk 1 <|
  .seq (.seq (.reg [⟨(some 16), .mov (.t 4), none⟩,
    ⟨(some 17), .mov (.t 3), none⟩,
    ⟨(some 18), .bin .rem (.t 17) (.c (.v (.int .i64 256))), none⟩,
    ⟨(some 19), .conv (.int .u8) (.t 18), none⟩,
    ⟨(some 20), .lit 1 1 [.v (.int .u8 0)] [(0, (.t 19))] true, none⟩,
    ⟨(some 21), .app 1 1 (.t 16) (.t 20) false, none⟩,
    ⟨(some 4), .mov (.t 21), none⟩] []) <|
  .keep [0, 3, 4] [[21]]) <|
  .seq (.reg [⟨(some 22), .mov (.t 3), none⟩,
    ⟨(some 23), .bin .quo (.t 22) (.c (.v (.int .i64 256))), none⟩,
    ⟨(some 3), .mov (.t 23), none⟩] []) <|
  .keep [0, 3, 4] [[21]]) <|
  .keep [0, 3, 4] [[21]]) <|
  .keep [0, 3, 4] [[21]]
def gantryref01_Int_l1 : C :=
  .seq (.seq (.seq (.seq (.reg [⟨(some 42), .mov (.t 7), none⟩,
    ⟨(some 43), .bin .geq (.t 42) (.c (.v (.int .i64 0))), none⟩] []) <|
  .keep [0, 4, 6, 7, 43] [[21], [33], [39], [57]]) <|
  .cond (.t 43) (.skip) <|
  .seq (.keep [6] [[33], [39], [57]]) <|
  .exit 2) <|
  .seq (.seq (.blk 3 <|
  .seq (.seq (.reg [⟨(some 46), .mov (.t 4), none⟩,
    ⟨(some 47), .mov (.t 7), none⟩,
    ⟨(some 48), .ixa 1 (.t 46) (.t 47), none⟩,
    ⟨(some 49), .load none (.t 48), none⟩,
    ⟨(some 8), .mov (.t 49), none⟩] []) <|
  .keep [0, 4, 6, 7, 8] [[21], [33], [39], [57]]) <|
  .seq (.seq (.seq (.reg [⟨(some 50), .mov (.t 0), none⟩,
    ⟨(some 51), .bin .lss (.t 50) (.c (.v (.int .i64 0))), none⟩] []) <|
  .keep [0, 4, 6, 7, 8, 51] [[21], [33], [39], [57]]) <|
  .cond (.t 51) (.seq (.reg [⟨(some 52), .mov (.t 8), none⟩,
    ⟨(some 53), .bin .sub (.c (.v (.int .u8 255))) (.t 52), none⟩,
    ⟨(some 8), .mov (.t 53), none⟩] []) <|
  .keep [0, 4, 6, 7, 8] [[21], [33], [39], [57]]) <|
  .skip) <|
  .seq (.reg [⟨(some 54), .mov (.t 6), none⟩,
    ⟨(some 55), .mov (.t 8), none⟩,
    ⟨(some 56), .lit 1 1 [.v (.int .u8 0)] [(0, (.t 55))] true, none⟩,
    ⟨(some 57), .app 1 1 (.t 54) (.t 56) false, none⟩,
    ⟨(some 6), .mov (.t 57), none⟩] []) <|
  .keep [0, 4, 6, 7] [[21], [33], [39], [57]]) <|
  .keep [0, 4, 6, 7] [[21], [33], [39], [57]]) <|
  .seq (.reg [⟨(some 44), .mov (.t 7), none⟩,
    ⟨(some 45), .bin .sub (.t 44) (.c (.v (.int .i64 1))), none⟩,
    ⟨(some 7), .mov (.t 45), none⟩] []) <|
  .keep [0, 4, 6, 7] [[21], [33], [39], [57]]) <|
  .keep [0, 4, 6, 7] [[21], [33], [39], [57]]
def gantryref01_Int : CF := ⟨1, .seq (.seq (.reg [⟨(some 2), .mov (.c (.z true)), none⟩] []) <|
  .keep [0] []) <|
  .seq (.seq (.reg [⟨(some 9), .mov (.t 0), none⟩,
    ⟨(some 3), .mov (.t 9), none⟩] []) <|
  .keep [0, 3] []) <|
  .seq (.seq (.seq (.reg [⟨(some 10), .mov (.t 0), none⟩,
    ⟨(some 11), .bin .lss (.t 10) (.c (.v (.int .i64 0))), none⟩] []) <|
  .keep [0, 3, 11] []) <|
  .cond (.t 11) (.seq (.reg [⟨(some 12), .mov (.t 0), none⟩,
    ⟨(some 13), .bin .sub (.c (.v (.int .i64 (-1)))) (.t 12), none⟩,
    ⟨(some 3), .mov (.t 13), none⟩] []) <|
  .keep [0, 3] []) <|
  .skip) <|
  .seq (.seq (.reg [⟨(some 4), .mov (.c (.z true)), none⟩] []) <|
  .keep [0, 3, 4] [[21]]) <|
  .seq (.seq (.blk 0 <|
  .seq (.keep [0, 3, 4] [[21]]) <|
  .loop gantryref01_Int_l0) <|
  .keep [0, 4] [[21]]) <|
  .seq (.seq (.reg [⟨(some 24), .mov (.t 4), none⟩,
    ⟨(some 25), .len (.t 24), none⟩,
    ⟨(some 5), .mov (.t 25), none⟩] []) <|
  .keep [0, 4, 5] [[21]]) <|
  .seq (.seq (.reg [⟨(some 6), .mov (.c (.z true)), none⟩] []) <|
  .keep [0, 4, 5, 6] [[21], [33], [39], [57]]) <|
  .seq (.seq (.seq (.reg [⟨(some 26), .mov (.t 0), none⟩,
    ⟨(some 27), .bin .geq (.t 26) (.c (.v (.int .i64 0))), none⟩] []) <|
  .keep [0, 4, 5, 6, 27] [[21], [33], [39], [57]]) <|
  .cond (.t 27) (.seq (.reg [⟨(some 28), .mov (.t 6), none⟩,
    ⟨(some 29), .mov (.t 5), none⟩,
    ⟨(some 30), .bin .add (.c (.v (.int .i64 128))) (.t 29), none⟩,
    ⟨(some 31), .conv (.int .u8) (.t 30), none⟩,
    ⟨(some 32), .lit 1 1 [.v (.int .u8 0)] [(0, (.t 31))] true, none⟩,
    ⟨(some 33), .app 1 1 (.t 28) (.t 32) false, none⟩,
    ⟨(some 6), .mov (.t 33), none⟩] []) <|
  .keep [0, 4, 5, 6] [[21], [33], [39], [57]]) <|
  .seq (.reg [⟨(some 34), .mov (.t 6), none⟩,
    ⟨(some 35), .mov (.t 5), none⟩,
    ⟨(some 36), .bin .sub (.c (.v (.int .i64 127))) (.t 35), none⟩,
    ⟨(some 37), .conv (.int .u8) (.t 36), none⟩,
    ⟨(some 38), .lit 1 1 [.v (.int .u8 0)] [(0, (.t 37))] true, none⟩,
    ⟨(some 39), .app 1 1 (.t 34) (.t 38) false, none⟩,
    ⟨(some 6), .mov (.t 39), none⟩] []) <|
  .keep [0, 4, 5, 6] [[21], [33], [39], [57]]) <|
  .seq (.seq (.seq (.reg [⟨(some 40), .mov (.t 5), none⟩,
    ⟨(some 41), .bin .sub (.t 40) (.c (.v (.int .i64 1))), none⟩,
    ⟨(some 7), .mov (.t 41), none⟩] []) <|
  .keep [0, 4, 6, 7] [[21], [33], [39], [57]]) <|
  .seq (.blk 2 <|
  .seq (.keep [0, 4, 6, 7] [[21], [33], [39], [57]]) <|
  .loop gantryref01_Int_l1) <|
  .keep [6] [[33], [39], [57]]) <|
  .seq (.seq (.reg [⟨(some 58), .mov (.t 6), none⟩,
    ⟨(some 2), .mov (.t 58), none⟩] []) <|
  .keep [2] [[33], [39], [57]]) <|
  .ret, [.t 2]⟩

/- 81: gantry/gantryref05.Encode -/
def gantryref05_Encode : CF := ⟨1, .seq (.seq (.reg [⟨(some 1), .box (.t 0), none⟩,
    ⟨(some 2), .mov (.c (.z true)), none⟩] []) <|
  .keep [1] [[1]]) <|
  .seq (.seq (.reg [⟨(some 3), .fad 0 (.t 1), none⟩,
    ⟨(some 4), .load (some 2) (.t 3), none⟩,
    ⟨(some 5), .call n_gantryref04_Encode [(.t 4)] true, none⟩,
    ⟨(some 6), .fad 2 (.t 1), none⟩,
    ⟨(some 7), .load (some 2) (.t 6), none⟩,
    ⟨(some 8), .call n_gantryref04_Encode [(.t 7)] false, none⟩,
    ⟨(some 9), .app 1 1 (.t 5) (.t 8) true, none⟩,
    ⟨(some 2), .mov (.t 9), none⟩] []) <|
  .keep [2] [[5], [9]]) <|
  .ret, [.t 2]⟩

/- 82: gantry/wire.GetInt -/
def wire_GetInt_l0 : C :=
  .seq (.seq (.seq (.reg [⟨(some 49), .bin .lss (.t 48) (.t 47), none⟩] []) <|
  .keep [5, 6, 7, 46, 47, 48, 49] []) <|
  .seq (.cond (.t 49) (.skip) <|
  .seq (.keep [5, 6, 7] []) <|
  .exit 1) <|
  .seq (.seq (.blk 2 <|
  .seq (.seq (.reg [⟨(some 50), .ixa 1 (.t 46) (.t 48), none⟩,
    ⟨(some 51), .load none (.t 50), none⟩,
    ⟨(some 9), .mov (.t 51), none⟩] []) <|
  .keep [5, 6, 7, 9, 46, 47, 48] []) <|
  .seq (.reg [⟨(some 52), .mov (.t 7), none⟩,
    ⟨(some 53), .bin .shl (.t 52) (.c (.v (.int .u64 8))), none⟩,
    ⟨(some 54), .mov (.t 9), none⟩,
    ⟨(some 55), .mov (.t 5), none⟩,
    ⟨(some 56), .bin .xor (.t 54) (.t 55), none⟩,
    ⟨(some 57), .conv (.int .u64) (.t 56), none⟩,
    ⟨(some 58), .bin .or (.t 53) (.t 57), none⟩,
    ⟨(some 7), .mov (.t 58), none⟩] []) <|
  .keep [5, 6, 7, 46, 47, 48] []) <|
  .keep [5, 6, 7, 46, 47, 48] []) <|
  .seq (.reg [⟨(some 59), .bin .add (.t 48) (.c (.v (.int .i64 1))), none⟩,
    ⟨(some 48), .mov (.t 59), none⟩] []) <|
  .keep [5, 6, 7, 46, 47, 48] []) <|
  .keep [5, 6, 7, 46, 47, 48] []
def wire_GetInt : CF := ⟨1, .seq (.seq (.reg [⟨(some 2), .mov (.c (.v (.int .i64 0))), none⟩,
    ⟨(some 3), .mov (.c (.v (.int .i64 0))), none⟩,
    ⟨(some 4), .mov (.c (.v (.int .i64 0))), none⟩] []) <|
  .keep [0] []) <|
  .seq (.seq (.seq (.reg [⟨(some 10), .mov (.t 0), none⟩,
    ⟨(some 11), .len (.t 10), none⟩,
    ⟨(some 12), .bin .eql (.t 11) (.c (.v (.int .i64 0))), none⟩] []) <|
  .keep [0, 12] []) <|
  .cond (.t 12) (.seq (.seq (.reg [⟨(some 2), .mov (.c (.v (.int .i64 0))), none⟩,
    ⟨(some 3), .mov (.c (.v (.int .i64 0))), none⟩,
    ⟨(some 4), .mov (.c (.v (.int .i64 3))), none⟩] []) <|
  .keep [2, 3, 4] []) <|
  .ret) <|
  .skip) <|
  .seq (.seq (.reg [⟨(some 5), .mov (.c (.v (.int .u8 0))), none⟩] []) <|
  .keep [0, 5] []) <|
  .seq (.seq (.seq (.reg [⟨(some 13), .mov (.t 0), none⟩,
    ⟨(some 14), .ixa 1 (.t 13) (.c (.v (.int .i64 0))), none⟩,
    ⟨(some 15), .load none (.t 14), none⟩,
    ⟨(some 16), .bin .lss (.t 15) (.c (.v (.int .u8 128))), none⟩] []) <|
  .keep [0, 5, 16] []) <|
  .cond (.t 16) (.seq (.reg [⟨(some 5), .mov (.c (.v (.int .u8 255))), none⟩] []) <|
  .keep [0, 5] []) <|
  .skip) <|
  .seq (.seq (.reg [⟨(some 17), .mov (.t 0), none⟩,
    ⟨(some 18), .ixa 1 (.t 17) (.c (.v (.int .i64 0))), none⟩,
    ⟨(some 19), .load none (.t 18), none⟩,
    ⟨(some 20), .mov (.t 5), none⟩,
    ⟨(some 21), .bin .xor (.t 19) (.t 20), none⟩,
    ⟨(some 22), .conv (.int .i64) (.t 21), none⟩,
    ⟨(some 23), .bin .sub (.t 22) (.c (.v (.int .i64 128))), none⟩,
    ⟨(some 6), .mov (.t 23), none⟩] []) <|
  .keep [0, 5, 6] []) <|
  .seq (.seq (.blk 0 <|
  .seq (.seq (.reg [⟨(some 25), .mov (.t 6), none⟩,
    ⟨(some 26), .bin .gtr (.t 25) (.c (.v (.int .i64 8))), none⟩,
    ⟨(some 24), .mov (.t 26), none⟩] []) <|
  .keep [0, 5, 6, 24] []) <|
  .cond (.t 24) (.seq (.seq (.reg [⟨(some 2), .mov (.c (.v (.int .i64 0))), none⟩,
    ⟨(some 3), .mov (.c (.v (.int .i64 0))), none⟩,
    ⟨(some 4), .mov (.c (.v (.int .i64 2))), none⟩] []) <|
  .keep [2, 3, 4] []) <|
  .ret) <|
  .seq (.seq (.reg [⟨(some 28), .mov (.t 0), none⟩,
    ⟨(some 29), .len (.t 28), none⟩,
    ⟨(some 30), .mov (.t 6), none⟩,
    ⟨(some 31), .bin .leq (.t 29) (.t 30), none⟩,
    ⟨(some 27), .mov (.t 31), none⟩] []) <|
  .keep [0, 5, 6, 27] []) <|
  .cond (.t 27) (.seq (.seq (.reg [⟨(some 2), .mov (.c (.v (.int .i64 0))), none⟩,
    ⟨(some 3), .mov (.c (.v (.int .i64 0))), none⟩,
    ⟨(some 4), .mov (.c (.v (.int .i64 3))), none⟩] []) <|
  .keep [2, 3, 4] []) <|
  .ret) <|
  .seq (.seq (.reg [⟨(some 33), .mov (.t 6), none⟩,
    ⟨(some 34), .bin .gtr (.t 33) (.c (.v (.int .i64 0))), none⟩,
    ⟨(some 35), .mov (.t 34), none⟩,
    ⟨(some 36), .mov (.t 0), (some (35, true))⟩,
    ⟨(some 37), .ixa 1 (.t 36) (.c (.v (.int .i64 1))), (some (35, true))⟩,
    ⟨(some 38), .load none (.t 37), (some (35, true))⟩,
    ⟨(some 39), .mov (.t 5), (some (35, true))⟩,
    ⟨(some 40), .bin .xor (.t 38) (.t 39), (some (35, true))⟩,
    ⟨(some 41), .bin .eql (.t 40) (.c (.v (.int .u8 0))), (some (35, true))⟩,
    ⟨(some 42), .pick (.t 35) (.t 41) (.c (.v (.bool false))), none⟩,
    ⟨(some 32), .mov (.t 42), none⟩] []) <|
  .keep [0, 5, 6, 32] []) <|
  .cond (.t 32) (.seq (.seq (.reg [⟨(some 2), .mov (.c (.v (.int .i64 0))), none⟩,
    ⟨(some 3), .mov (.c (.v (.int .i64 0))), none⟩,
    ⟨(some 4), .mov (.c (.v (.int .i64 2))), none⟩] []) <|
  .keep [2, 3, 4] []) <|
  .ret) <|
  .skip) <|
  .keep [0, 5, 6] []) <|
  .seq (.seq (.reg [⟨(some 7), .mov (.c (.v (.int .u64 0))), none⟩] []) <|
  .keep [0, 5, 6, 7] []) <|
  .seq (.seq (.seq (.reg [⟨(some 43), .mov (.t 0), none⟩,
    ⟨(some 44), .mov (.t 6), none⟩,
    ⟨(some 45), .bin .add (.t 44) (.c (.v (.int .i64 1))), none⟩,
    ⟨(some 46), .slc 1 (.t 43) (some (.c (.v (.int .i64 1)))) (some (.t 45)) none, none⟩,
    ⟨(some 47), .len (.t 46), none⟩,
    ⟨(some 48), .mov (.c (.v (.int .i64 0))), none⟩] []) <|
  .keep [5, 6, 7, 46, 47, 48] []) <|
  .seq (.blk 1 <|
  .seq (.keep [5, 6, 7, 46, 47, 48] []) <|
  .loop wire_GetInt_l0) <|
  .keep [5, 6, 7] []) <|
  .seq (.seq (.seq (.reg [⟨(some 60), .mov (.t 7), none⟩,
    ⟨(some 61), .bin .shr (.t 60) (.c (.v (.int .u64 63))), none⟩,
    ⟨(some 62), .bin .gtr (.t 61) (.c (.v (.int .u64 0))), none⟩] []) <|
  .keep [5, 6, 7, 62] []) <|
  .cond (.t 62) (.seq (.seq (.reg [⟨(some 2), .mov (.c (.v (.int .i64 0))), none⟩,
    ⟨(some 3), .mov (.c (.v (.int .i64 0))), none⟩,
    ⟨(some 4), .mov (.c (.v (.int .i64 2))), none⟩] []) <|
  .keep [2, 3, 4] []) <|
  .ret) <|
  .skip) <|
  .seq (.seq (.seq (.reg [⟨(some 63), .mov (.t 5), none⟩,
    ⟨(some 64), .bin .gtr (.t 63) (.c (.v (.int .u8 0))), none⟩] []) <|
  .keep [6, 7, 64] []) <|
  .cond (.t 64) (.seq (.reg [⟨(some 65), .mov (.t 7), none⟩,
    ⟨(some 66), .un .xor (.t 65), none⟩,
    ⟨(some 7), .mov (.t 66), none⟩] []) <|
  .keep [6, 7] []) <|
  .skip) <|
  .seq (.seq (.reg [⟨(some 67), .mov (.t 7), none⟩,
    ⟨(some 68), .conv (.int .i64) (.t 67), none⟩,
    ⟨(some 69), .mov (.t 6), none⟩,
    ⟨(some 70), .bin .add (.t 69) (.c (.v (.int .i64 1))), none⟩,
    ⟨(some 2), .mov (.t 68), none⟩,
    ⟨(some 3), .mov (.t 70), none⟩,
    ⟨(some 4), .mov (.c (.v (.int .i64 0))), none⟩] []) <|
  .keep [2, 3, 4] []) <|
  .ret, [.t 2, .t 3, .t 4]⟩

/- 83: gantry/rat.Decode -/
def rat_Decode : CF := ⟨1, .seq (.seq (.reg [⟨(some 2), .new [.v (.bool false), .z true, .v (.bool false), .z true], none⟩,
    ⟨(some 3), .mov (.c (.v (.int .i64 0))), none⟩,
    ⟨(some 4), .mov (.c (.v (.int .i64 0))), none⟩] []) <|
  .keep [0, 2] [[2]]) <|
  .seq (.seq (.reg [⟨(some 12), .mov (.t 0), none⟩,
    ⟨(some 13), .call n_integer_Decode [(.t 12)] false, none⟩,
    ⟨(some 11), .mov (.t 13), none⟩,
    ⟨(some 14), .ext (.t 11) 0, none⟩,
    ⟨(some 15), .ext (.t 11) 1, none⟩,
    ⟨(some 16), .ext (.t 11) 2, none⟩,
    ⟨(some 5), .new [.v (.bool false), .z true], none⟩,
    ⟨none, .store 2 (.t 5) (.t 14), none⟩,
    ⟨(some 6), .mov (.t 15), none⟩,
    ⟨(some 7), .mov (.t 16), none⟩] []) <|
  .keep [0, 2, 5, 6, 7] [[2], [5]]) <|
  .seq (.seq (.seq (.reg [⟨(some 17), .mov (.t 7), none⟩,
    ⟨(some 18), .bin .neq (.t 17) (.c (.v (.int .i64 0))), none⟩] []) <|
  .keep [0, 2, 5, 6, 7, 18] [[2], [5]]) <|
  .cond (.t 18) (.seq (.seq (.reg [⟨(some 19), .build [.v (.bool false), .z true, .v (.bool false), .z true] [], none⟩,
    ⟨(some 20), .mov (.t 7), none⟩,
    ⟨none, .store 4 (.t 2) (.t 19), none⟩,
    ⟨(some 3), .mov (.c (.v (.int .i64 0))), none⟩,
    ⟨(some 4), .mov (.t 20), none⟩] []) <|
  .keep [2, 3, 4] [[2]]) <|
  .ret) <|
  .skip) <|
  .seq (.seq (.reg [⟨(some 22), .mov (.t 0), none⟩,
    ⟨(some 23), .mov (.t 6), none⟩,
    ⟨(some 24), .slc 1 (.t 22) (some (.t 23)) none none, none⟩,
    ⟨(some 25), .call n_integer_Decode [(.t 24)] false, none⟩,
    ⟨(some 21), .mov (.t 25), none⟩,
    ⟨(some 26), .ext (.t 21) 0, none⟩,
    ⟨(some 27), .ext (.t 21) 1, none⟩,
    ⟨(some 28), .ext (.t 21) 2, none⟩,
    ⟨(some 8), .new [.v (.bool false), .z true], none⟩,
    ⟨none, .store 2 (.t 8) (.t 26), none⟩,
    ⟨(some 9), .mov (.t 27), none⟩,
    ⟨(some 7), .mov (.t 28), none⟩] []) <|
  .keep [2, 5, 6, 7, 8, 9] [[2], [5], [8]]) <|
  .seq (.seq (.seq (.reg [⟨(some 29), .mov (.t 7), none⟩,
    ⟨(some 30), .bin .neq (.t 29) (.c (.v (.int .i64 0))), none⟩] []) <|
  .keep [2, 5, 6, 7, 8, 9, 30] [[2], [5], [8]]) <|
  .cond (.t 30) (.seq (.seq (.reg [⟨(some 31), .build [.v (.bool false), .z true, .v (.bool false), .z true] [], none⟩,
    ⟨(some 32), .mov (.t 7), none⟩,
    ⟨none, .store 4 (.t 2) (.t 31), none⟩,
    ⟨(some 3), .mov (.c (.v (.int .i64 0))), none⟩,
    ⟨(some 4), .mov (.t 32), none⟩] []) <|
  .keep [2, 3, 4] [[2]]) <|
  .ret) <|
  .skip) <|
  .seq (.seq (.seq (.reg [⟨(some 33), .load (some 2) (.t 5), none⟩,
    ⟨(some 34), .load (some 2) (.t 8), none⟩,
    ⟨(some 35), .build [.v (.bool false), .z true, .v (.bool false), .z true] [(0, 2, (.t 33)), (2, 2, (.t 34))], none⟩,
    ⟨(some 10), .new [.v (.bool false), .z true, .v (.bool false), .z true], none⟩,
    ⟨none, .store 4 (.t 10) (.t 35), none⟩] []) <|
  .keep [2, 6, 9, 10] [[2], [10]]) <|
  .seq (.seq (.reg [⟨(some 36), .load (some 4) (.t 10), none⟩,
    ⟨(some 37), .call n_rat_Valid [(.t 36)] false, none⟩] []) <|
  .keep [2, 6, 9, 10, 37] [[2], [10]]) <|
  .cond (.t 37) (.seq (.seq (.reg [⟨(some 38), .load (some 4) (.t 10), none⟩,
    ⟨(some 39), .mov (.t 6), none⟩,
    ⟨(some 40), .mov (.t 9), none⟩,
    ⟨(some 41), .bin .add (.t 39) (.t 40), none⟩,
    ⟨none, .store 4 (.t 2) (.t 38), none⟩,
    ⟨(some 3), .mov (.t 41), none⟩,
    ⟨(some 4), .mov (.c (.v (.int .i64 0))), none⟩] []) <|
  .keep [2, 3, 4] [[2]]) <|
  .ret) <|
  .skip) <|
  .seq (.seq (.reg [⟨(some 42), .build [.v (.bool false), .z true, .v (.bool false), .z true] [], none⟩,
    ⟨none, .store 4 (.t 2) (.t 42), none⟩,
    ⟨(some 3), .mov (.c (.v (.int .i64 0))), none⟩,
    ⟨(some 4), .mov (.c (.v (.int .i64 2))), none⟩] []) <|
  .keep [2, 3, 4] [[2]]) <|
  .ret, [.cell 2 (some 4), .t 3, .t 4]⟩

/- 84: gantry/gantryref01.GetInt -/
def gantryref01_GetInt_l0 : C :=
  .seq (.seq (.seq (.seq (.reg [⟨(some 35), .mov (.t 8), none⟩,
    ⟨(some 36), .mov (.t 6), none⟩,
    ⟨(some 37), .bin .leq (.t 35) (.t 36), none⟩] []) <|
  .keep [0, 5, 6, 7, 8, 37] []) <|
  .cond (.t 37) (.skip) <|
  .seq (.keep [0, 5, 6, 7] []) <|
  .exit 0) <|
  .seq (.seq (.blk 1 <|
  .seq (.seq (.reg [⟨(some 40), .mov (.t 0), none⟩,
    ⟨(some 41), .mov (.t 8), none⟩,
    ⟨(some 42), .ixa 1 (.t 40) (.t 41), none⟩,
    ⟨(some 43), .load none (.t 42), none⟩,
    ⟨(some 44), .conv (.int .i64) (.t 43), none⟩,
    ⟨(some 9), .mov (.t 44), none⟩] []) <|
  .keep [0, 5, 6, 7, 8, 9] []) <|
  .seq (.seq (.seq (.reg [⟨(some 45), .mov (.t 5), none⟩,
    ⟨(some 46), .bin .lss (.t 45) (.c (.v (.int .i64 128))), none⟩] []) <|
  .keep [0, 5, 6, 7, 8, 9, 46] []) <|
  .cond (.t 46) (.seq (.reg [⟨(some 47), .mov (.t 9), none⟩,
    ⟨(some 48), .bin .sub (.c (.v (.int .i64 255))) (.t 47), none⟩,
    ⟨(some 9), .mov (.t 48), none⟩] []) <|
  .keep [0, 5, 6, 7, 8, 9] []) <|
  .skip) <|
  .seq (.seq (.seq (.reg [⟨(some 49), .mov (.t 7), none⟩,
    ⟨(some 50), .bin .gtr (.t 49) (.c (.v (.int .i64 36028797018963967))), none⟩] []) <|
  .keep [0, 5, 6, 7, 8, 9, 50] []) <|
  .cond (.t 50) (.seq (.seq (.reg [⟨(some 2), .mov (.c (.v (.int .i64 0))), none⟩,
    ⟨(some 3), .mov (.c (.v (.int .i64 0))), none⟩,
    ⟨(some 4), .mov (.c (.v (.int .i64 2))), none⟩] []) <|
  .keep [2, 3, 4] []) <|
  .ret) <|
  .skip) <|
  .seq (.reg [⟨(some 51), .mov (.t 7), none⟩,
    ⟨(some 52), .bin .mul (.c (.v (.int .i64 256))) (.t 51), none⟩,
    ⟨(some 53), .mov (.t 9), none⟩,
    ⟨(some 54), .bin .add (.t 52) (.t 53), none⟩,
    ⟨(some 7), .mov (.t 54), none⟩] []) <|
  .keep [0, 5, 6, 7, 8] []) <|
  .keep [0, 5, 6, 7, 8] []) <|
  .seq (.reg [⟨(some 38), .mov (.t 8), none⟩,
    ⟨(some 39), .bin .add (.t 38) (.c (.v (.int .i64 1))), none⟩,
    ⟨(some 8), .mov (.t 39), none⟩] []) <|
  .keep [0, 5, 6, 7, 8] []) <|
  .keep [0, 5, 6, 7, 8] []
def gantryref01_GetInt : CF := ⟨1, .seq (.seq (.reg [⟨(some 2), .mov (.c (.v (.int .i64 0))), none⟩,
    ⟨(some 3), .mov (.c (.v (.int .i64 0))), none⟩,
    ⟨(some 4), .mov (.c (.v (.int .i64 0))), none⟩] []) <|
  .keep [0] []) <|
  .seq (.seq (.seq (.reg [⟨(some 11), .mov (.t 0), none⟩,
    ⟨(some 12), .len (.t 11), none⟩,
    ⟨(some 13), .bin .eql (.t 12) (.c (.v (.int .i64 0))), none⟩] []) <|
  .keep [0, 13] []) <|
  .cond (.t 13) (.seq (.seq (.reg [⟨(some 2), .mov (.c (.v (.int .i64 0))), none⟩,
    ⟨(some 3), .mov (.c (.v (.int .i64 0))), none⟩,
    ⟨(some 4), .mov (.c (.v (.int .i64 3))), none⟩] []) <|
  .keep [2, 3, 4] []) <|
  .ret) <|
  .skip) <|
  .seq (.seq (.reg [⟨(some 14), .mov (.t 0), none⟩,
    ⟨(some 15), .ixa 1 (.t 14) (.c (.v (.int .i64 0))), none⟩,
    ⟨(some 16), .load none (.t 15), none⟩,
    ⟨(some 17), .conv (.int .i64) (.t 16), none⟩,
    ⟨(some 5), .mov (.t 17), none⟩] []) <|
  .keep [0, 5] []) <|
  .seq (.seq (.seq (.reg [⟨(some 18), .mov (.t 5), none⟩,
    ⟨(some 19), .bin .lss (.t 18) (.c (.v (.int .i64 119))), none⟩,
    ⟨(some 20), .mov (.t 19), none⟩,
    ⟨(some 21), .mov (.t 5), (some (20, false))⟩,
    ⟨(some 22), .bin .gtr (.t 21) (.c (.v (.int .i64 136))), (some (20, false))⟩,
    ⟨(some 23), .pick (.t 20) (.c (.v (.bool true))) (.t 22), none⟩] []) <|
  .keep [0, 5, 23] []) <|
  .cond (.t 23) (.seq (.seq (.reg [⟨(some 2), .mov (.c (.v (.int .i64 0))), none⟩,
    ⟨(some 3), .mov (.c (.v (.int .i64 0))), none⟩,
    ⟨(some 4), .mov (.c (.v (.int .i64 2))), none⟩] []) <|
  .keep [2, 3, 4] []) <|
  .ret) <|
  .skip) <|
  .seq (.seq (.reg [⟨(some 24), .mov (.t 5), none⟩,
    ⟨(some 25), .bin .sub (.t 24) (.c (.v (.int .i64 128))), none⟩,
    ⟨(some 6), .mov (.t 25), none⟩] []) <|
  .keep [0, 5, 6] []) <|
  .seq (.seq (.seq (.reg [⟨(some 26), .mov (.t 5), none⟩,
    ⟨(some 27), .bin .lss (.t 26) (.c (.v (.int .i64 128))), none⟩] []) <|
  .keep [0, 5, 6, 27] []) <|
  .cond (.t 27) (.seq (.reg [⟨(some 28), .mov (.t 5), none⟩,
    ⟨(some 29), .bin .sub (.c (.v (.int .i64 127))) (.t 28), none⟩,
    ⟨(some 6), .mov (.t 29), none⟩] []) <|
  .keep [0, 5, 6] []) <|
  .skip) <|
  .seq (.seq (.seq (.reg [⟨(some 30), .mov (.t 0), none⟩,
    ⟨(some 31), .len (.t 30), none⟩,
    ⟨(some 32), .mov (.t 6), none⟩,
    ⟨(some 33), .bin .add (.t 32) (.c (.v (.int .i64 1))), none⟩,
    ⟨(some 34), .bin .lss (.t 31) (.t 33), none⟩] []) <|
  .keep [0, 5, 6, 34] []) <|
  .cond (.t 34) (.seq (.seq (.reg [⟨(some 2), .mov (.c (.v (.int .i64 0))), none⟩,
    ⟨(some 3), .mov (.c (.v (.int .i64 0))), none⟩,
    ⟨(some 4), .mov (.c (.v (.int .i64 3))), none⟩] []) <|
  .keep [2, 3, 4] []) <|
  .ret) <|
  .skip) <|
  .seq (.seq (.reg [⟨(some 7), .mov (.c (.v (.int .i64 0))), none⟩] []) <|
  .keep [0, 5, 6, 7] []) <|
  .seq (.seq (.seq (.reg [⟨(some 8), .mov (.c (.v (.int .i64 1))), none⟩] []) <|
  .keep [0, 5, 6, 7, 8] []) <|
  .seq (.blk 0 <|
  .seq (.keep [0, 5, 6, 7, 8] []) <|
  .loop gantryref01_GetInt_l0) <|
  .keep [0, 5, 6, 7] []) <|
  .seq (.seq (.reg [⟨(some 55), .mov (.t 7), none⟩,
    ⟨(some 10), .mov (.t 55), none⟩] []) <|
  .keep [0, 5, 6, 7, 10] []) <|
  .seq (.seq (.seq (.reg [⟨(some 56), .mov (.t 5), none⟩,
    ⟨(some 57), .bin .lss (.t 56) (.c (.v (.int .i64 128))), none⟩] []) <|
  .keep [0, 6, 7, 10, 57] []) <|
  .cond (.t 57) (.seq (.reg [⟨(some 58), .mov (.t 7), none⟩,
    ⟨(some 59), .bin .sub (.c (.v (.int .i64 (-1)))) (.t 58), none⟩,
    ⟨(some 10), .mov (.t 59), none⟩] []) <|
  .keep [0, 6, 10] []) <|
  .skip) <|
  .seq (.seq (.seq (.reg [⟨(some 60), .mov (.t 10), none⟩,
    ⟨(some 61), .call n_gantryref01_Int [(.t 60)] false, none⟩,
    ⟨(some 62), .mov (.t 0), none⟩,
    ⟨(some 63), .mov (.t 6), none⟩,
    ⟨(some 64), .bin .add (.t 63) (.c (.v (.int .i64 1))), none⟩,
    ⟨(some 65), .slc 1 (.t 62) none (some (.t 64)) none, none⟩,
    ⟨(some 66), .call n_gantryref01_Same [(.t 61), (.t 65)] false, none⟩,
    ⟨(some 67), .un .not (.t 66), none⟩] []) <|
  .keep [6, 10, 67] []) <|
  .cond (.t 67) (.seq (.seq (.reg [⟨(some 2), .mov (.c (.v (.int .i64 0))), none⟩,
    ⟨(some 3), .mov (.c (.v (.int .i64 0))), none⟩,
    ⟨(some 4), .mov (.c (.v (.int .i64 2))), none⟩] []) <|
  .keep [2, 3, 4] []) <|
  .ret) <|
  .skip) <|
  .seq (.seq (.reg [⟨(some 68), .mov (.t 10), none⟩,
    ⟨(some 69), .mov (.t 6), none⟩,
    ⟨(some 70), .bin .add (.t 69) (.c (.v (.int .i64 1))), none⟩,
    ⟨(some 2), .mov (.t 68), none⟩,
    ⟨(some 3), .mov (.t 70), none⟩,
    ⟨(some 4), .mov (.c (.v (.int .i64 0))), none⟩] []) <|
  .keep [2, 3, 4] []) <|
  .ret, [.t 2, .t 3, .t 4]⟩

/- 85: gantry/gantryref05.Decode -/
def gantryref05_Decode : CF := ⟨1, .seq (.seq (.reg [⟨(some 2), .new [.v (.bool false), .z true, .v (.bool false), .z true], none⟩,
    ⟨(some 3), .mov (.c (.v (.int .i64 0))), none⟩,
    ⟨(some 4), .mov (.c (.v (.int .i64 0))), none⟩] []) <|
  .keep [0, 2] [[2]]) <|
  .seq (.seq (.reg [⟨(some 13), .mov (.t 0), none⟩,
    ⟨(some 14), .call n_gantryref04_Decode [(.t 13)] false, none⟩,
    ⟨(some 12), .mov (.t 14), none⟩,
    ⟨(some 15), .ext (.t 12) 0, none⟩,
    ⟨(some 16), .ext (.t 12) 1, none⟩,
    ⟨(some 17), .ext (.t 12) 2, none⟩,
    ⟨(some 5), .new [.v (.bool false), .z true], none⟩,
    ⟨none, .store 2 (.t 5) (.t 15), none⟩,
    ⟨(some 6), .mov (.t 16), none⟩,
    ⟨(some 7), .mov (.t 17), none⟩] []) <|
  .keep [0, 2, 5, 6, 7] [[2], [5]]) <|
  .seq (.seq (.seq (.reg [⟨(some 18), .mov (.t 7), none⟩,
    ⟨(some 19), .bin .neq (.t 18) (.c (.v (.int .i64 0))), none⟩] []) <|
  .keep [0, 2, 5, 6, 7, 19] [[2], [5]]) <|
  .cond (.t 19) (.seq (.seq (.reg [⟨(some 20), .build [.v (.bool false), .z true, .v (.bool false), .z true] [], none⟩,
    ⟨(some 21), .mov (.t 7), none⟩,
    ⟨none, .store 4 (.t 2) (.t 20), none⟩,
    ⟨(some 3), .mov (.c (.v (.int .i64 0))), none⟩,
    ⟨(some 4), .mov (.t 21), none⟩] []) <|
  .keep [2, 3, 4] [[2]]) <|
  .ret) <|
  .skip) <|
  .seq (.seq (.reg [⟨(some 23), .mov (.t 0), none⟩,
    ⟨(some 24), .mov (.t 6), none⟩,
    ⟨(some 25), .slc 1 (.t 23) (some (.t 24)) none none, none⟩,
    ⟨(some 26), .call n_gantryref04_Decode [(.t 25)] false, none⟩,
    ⟨(some 22), .mov (.t 26), none⟩,
    ⟨(some 27), .ext (.t 22) 0, none⟩,
    ⟨(some 28), .ext (.t 22) 1, none⟩,
    ⟨(some 29), .ext (.t 22) 2, none⟩,
    ⟨(some 8), .new [.v (.bool false), .z true], none⟩,
    ⟨none, .store 2 (.t 8) (.t 27), none⟩,
    ⟨(some 9), .mov (.t 28), none⟩,
    ⟨(some 10), .mov (.t 29), none⟩] []) <|
  .keep [2, 5, 6, 8, 9, 10] [[2], [5], [8]]) <|
  .seq (.seq (.seq (.reg [⟨(some 30), .mov (.t 10), none⟩,
    ⟨(some 31), .bin .neq (.t 30) (.c (.v (.int .i64 0))), none⟩] []) <|
  .keep [2, 5, 6, 8, 9, 10, 31] [[2], [5], [8]]) <|
  .cond (.t 31) (.seq (.seq (.reg [⟨(some 32), .build [.v (.bool false), .z true, .v (.bool false), .z true] [], none⟩,
    ⟨(some 33), .mov (.t 10), none⟩,
    ⟨none, .store 4 (.t 2) (.t 32), none⟩,
    ⟨(some 3), .mov (.c (.v (.int .i64 0))), none⟩,
    ⟨(some 4), .mov (.t 33), none⟩] []) <|
  .keep [2, 3, 4] [[2]]) <|
  .ret) <|
  .skip) <|
  .seq (.seq (.reg [⟨(some 34), .load (some 2) (.t 5), none⟩,
    ⟨(some 35), .load (some 2) (.t 8), none⟩,
    ⟨(some 36), .build [.v (.bool false), .z true, .v (.bool false), .z true] [(0, 2, (.t 34)), (2, 2, (.t 35))], none⟩,
    ⟨(some 11), .new [.v (.bool false), .z true, .v (.bool false), .z true], none⟩,
    ⟨none, .store 4 (.t 11) (.t 36), none⟩] []) <|
  .keep [2, 6, 9, 11] [[2], [11]]) <|
  .seq (.seq (.seq (.reg [⟨(some 37), .load (some 4) (.t 11), none⟩,
    ⟨(some 38), .call n_gantryref05_Valid [(.t 37)] false, none⟩,
    ⟨(some 39), .un .not (.t 38), none⟩] []) <|
  .keep [2, 6, 9, 11, 39] [[2], [11]]) <|
  .cond (.t 39) (.seq (.seq (.reg [⟨(some 40), .build [.v (.bool false), .z true, .v (.bool false), .z true] [], none⟩,
    ⟨none, .store 4 (.t 2) (.t 40), none⟩,
    ⟨(some 3), .mov (.c (.v (.int .i64 0))), none⟩,
    ⟨(some 4), .mov (.c (.v (.int .i64 2))), none⟩] []) <|
  .keep [2, 3, 4] [[2]]) <|
  .ret) <|
  .skip) <|
  .seq (.seq (.reg [⟨(some 41), .load (some 4) (.t 11), none⟩,
    ⟨(some 42), .mov (.t 6), none⟩,
    ⟨(some 43), .mov (.t 9), none⟩,
    ⟨(some 44), .bin .add (.t 42) (.t 43), none⟩,
    ⟨none, .store 4 (.t 2) (.t 41), none⟩,
    ⟨(some 3), .mov (.t 44), none⟩,
    ⟨(some 4), .mov (.c (.v (.int .i64 0))), none⟩] []) <|
  .keep [2, 3, 4] [[2]]) <|
  .ret, [.cell 2 (some 4), .t 3, .t 4]⟩

/- 86: gantry/gantryref06.Valid -/
def gantryref06_Valid_l0 : C :=
  .seq (.seq (.seq (.seq (.reg [⟨(some 4), .mov (.t 3), none⟩,
    ⟨(some 5), .mov (.t 0), none⟩,
    ⟨(some 6), .len (.t 5), none⟩,
    ⟨(some 7), .bin .lss (.t 4) (.t 6), none⟩] []) <|
  .keep [0, 3, 7] []) <|
  .cond (.t 7) (.skip) <|
  .seq (.keep [0] []) <|
  .exit 0) <|
  .seq (.seq (.blk 1 <|
  .seq (.seq (.reg [⟨(some 10), .mov (.t 0), none⟩,
    ⟨(some 11), .mov (.t 3), none⟩,
    ⟨(some 12), .ixa 4 (.t 10) (.t 11), none⟩,
    ⟨(some 13), .load (some 4) (.t 12), none⟩,
    ⟨(some 14), .call n_gantryref05_Valid [(.t 13)] false, none⟩,
    ⟨(some 15), .un .not (.t 14), none⟩] []) <|
  .keep [0, 3, 15] []) <|
  .cond (.t 15) (.seq (.seq (.reg [⟨(some 2), .mov (.c (.v (.bool false))), none⟩] []) <|
  .keep [2] []) <|
  .ret) <|
  .skip) <|
  .keep [0, 3] []) <|
  .seq (.reg [⟨(some 8), .mov (.t 3), none⟩,
    ⟨(some 9), .bin .add (.t 8) (.c (.v (.int .i64 1))), none⟩,
    ⟨(some 3), .mov (.t 9), none⟩] []) <|
  .keep [0, 3] []) <|
  .keep [0, 3] []
def gantryref06_Valid : CF := ⟨1, .seq (.seq (.reg [⟨(some 2), .mov (.c (.v (.bool false))), none⟩] []) <|
  .keep [0] []) <|
  .seq (.seq (.seq (.reg [⟨(some 3), .mov (.c (.v (.int .i64 0))), none⟩] []) <|
  .keep [0, 3] []) <|
  .seq (.blk 0 <|
  .seq (.keep [0, 3] []) <|
  .loop gantryref06_Valid_l0) <|
  .keep [0] []) <|
  .seq (.seq (.reg [⟨(some 16), .mov (.t 0), none⟩,
    ⟨(some 17), .len (.t 16), none⟩,
    ⟨(some 18), .bin .eql (.t 17) (.c (.v (.int .i64 0))), none⟩,
    ⟨(some 19), .mov (.t 18), none⟩,
    ⟨(some 20), .mov (.t 0), (some (19, false))⟩,
    ⟨(some 21), .mov (.t 0), (some (19, false))⟩,
    ⟨(some 22), .len (.t 21), (some (19, false))⟩,
    ⟨(some 23), .bin .sub (.t 22) (.c (.v (.int .i64 1))), (some (19, false))⟩,
    ⟨(some 24), .mx [(.t 23), (.c (.v (.int .i64 0)))], (some (19, false))⟩,
    ⟨(some 25), .ixa 4 (.t 20) (.t 24), (some (19, false))⟩,
    ⟨(some 26), .load (some 4) (.t 25), (some (19, false))⟩,
    ⟨(some 27), .call n_gantryref05_Sign [(.t 26)] false, (some (19, false))⟩,
    ⟨(some 28), .bin .neq (.t 27) (.c (.v (.int .i64 0))), (some (19, false))⟩,
    ⟨(some 29), .pick (.t 19) (.c (.v (.bool true))) (.t 28), none⟩,
    ⟨(some 2), .mov (.t 29), none⟩] []) <|
  .keep [2] []) <|
  .ret, [.t 2]⟩

/- 87: gantry/gantryref05.Sign -/
def gantryref05_Sign : CF := ⟨1, .seq (.seq (.reg [⟨(some 1), .box (.t 0), none⟩,
    ⟨(some 2), .mov (.c (.v (.int .i64 0))), none⟩] []) <|
  .keep [1] [[1]]) <|
  .seq (.seq (.reg [⟨(some 3), .fad 0 (.t 1), none⟩,
    ⟨(some 4), .load (some 2) (.t 3), none⟩,
    ⟨(some 5), .call n_gantryref04_Sign [(.t 4)] false, none⟩,
    ⟨(some 2), .mov (.t 5), none⟩] []) <|
  .keep [2] []) <|
  .ret, [.t 2]⟩

/- 88: gantry/gantryref04.Neg -/
def gantryref04_Neg : CF := ⟨1, .seq (.seq (.reg [⟨(some 1), .box (.t 0), none⟩,
    ⟨(some 2), .new [.v (.bool false), .z true], none⟩] []) <|
  .keep [1, 2] [[1], [2]]) <|
  .seq (.seq (.reg [⟨(some 3), .fad 0 (.t 1), none⟩,
    ⟨(some 4), .load none (.t 3), none⟩,
    ⟨(some 5), .un .not (.t 4), none⟩,
    ⟨(some 6), .fad 1 (.t 1), none⟩,
    ⟨(some 7), .load none (.t 6), none⟩,
    ⟨(some 8), .call n_gantryref04_normal [(.t 5), (.t 7)] false, none⟩,
    ⟨none, .store 2 (.t 2) (.t 8), none⟩] []) <|
  .keep [2] [[2]]) <|
  .ret, [.cell 2 (some 2)]⟩

/- 89: gantry/gantryref04.Mul -/
def gantryref04_Mul_l0 : C :=
  .seq (.seq (.seq (.seq (.reg [⟨(some 25), .mov (.t 8), none⟩,
    ⟨(some 26), .fad 1 (.t 3), none⟩,
    ⟨(some 27), .load none (.t 26), none⟩,
    ⟨(some 28), .len (.t 27), none⟩,
    ⟨(some 29), .bin .lss (.t 25) (.t 28), none⟩] []) <|
  .keep [2, 3, 4, 5, 6, 7, 8, 29] [[2], [3], [4], [17]]) <|
  .cond (.t 29) (.skip) <|
  .seq (.keep [2, 3, 4, 5, 6, 7] [[2], [3], [4], [17]]) <|
  .exit 2) <|
  .seq (.seq (.blk 3 <|
  .seq (.seq (.reg [⟨(some 32), .mov (.t 5), none⟩,
    ⟨(some 33), .mov (.t 6), none⟩,
    ⟨(some 34), .mov (.t 8), none⟩,
    ⟨(some 35), .bin .add (.t 33) (.t 34), none⟩,
    ⟨(some 36), .ixa 1 (.t 32) (.t 35), none⟩,
    ⟨(some 37), .load none (.t 36), none⟩,
    ⟨(some 38), .fad 1 (.t 2), none⟩,
    ⟨(some 39), .load none (.t 38), none⟩,
    ⟨(some 40), .mov (.t 6), none⟩,
    ⟨(some 41), .ixa 1 (.t 39) (.t 40), none⟩,
    ⟨(some 42), .load none (.t 41), none⟩,
    ⟨(some 43), .fad 1 (.t 3), none⟩,
    ⟨(some 44), .load none (.t 43), none⟩,
    ⟨(some 45), .mov (.t 8), none⟩,
    ⟨(some 46), .ixa 1 (.t 44) (.t 45), none⟩,
    ⟨(some 47), .load none (.t 46), none⟩,
    ⟨(some 48), .bin .mul (.t 42) (.t 47), none⟩,
    ⟨(some 49), .bin .add (.t 37) (.t 48), none⟩,
    ⟨(some 50), .mov (.t 7), none⟩,
    ⟨(some 51), .bin .add (.t 49) (.t 50), none⟩,
    ⟨(some 9), .mov (.t 51), none⟩] []) <|
  .keep [2, 3, 4, 5, 6, 8, 9] [[2], [3], [4], [17]]) <|
  .seq (.seq (.reg [⟨(some 52), .mov (.t 5), none⟩,
    ⟨(some 53), .mov (.t 6), none⟩,
    ⟨(some 54), .mov (.t 8), none⟩,
    ⟨(some 55), .bin .add (.t 53) (.t 54), none⟩,
    ⟨(some 56), .mov (.t 9), none⟩,
    ⟨(some 57), .bin .rem (.t 56) (.c (.v (.int .i64 1000000000))), none⟩,
    ⟨(some 58), .ixa 1 (.t 52) (.t 55), none⟩,
    ⟨none, .store 1 (.t 58) (.t 57), none⟩] []) <|
  .keep [2, 3, 4, 5, 6, 8, 9] [[2], [3], [4], [17]]) <|
  .seq (.reg [⟨(some 59), .mov (.t 9), none⟩,
    ⟨(some 60), .bin .quo (.t 59) (.c (.v (.int .i64 1000000000))), none⟩,
    ⟨(some 7), .mov (.t 60), none⟩] []) <|
  .keep [2, 3, 4, 5, 6, 7, 8] [[2], [3], [4], [17]]) <|
  .keep [2, 3, 4, 5, 6, 7, 8] [[2], [3], [4], [17]]) <|
  .seq (.reg [⟨(some 30), .mov (.t 8), none⟩,
    ⟨(some 31), .bin .add (.t 30) (.c (.v (.int .i64 1))), none⟩,
    ⟨(some 8), .mov (.t 31), none⟩] []) <|
  .keep [2, 3, 4, 5, 6, 7, 8] [[2], [3], [4], [17]]) <|
  .keep [2, 3, 4, 5, 6, 7, 8] [[2], [3], [4], [17]]
def gantryref04_Mul_l1 : C :=
  .seq (.seq (.seq (.seq (.reg [⟨(some 18), .mov (.t 6), none⟩,
    ⟨(some 19), .fad 1 (.t 2), none⟩,
    ⟨(some 20), .load none (.t 19), none⟩,
    ⟨(some 21), .len (.t 20), none⟩,
    ⟨(some 22), .bin .lss (.t 18) (.t 21), none⟩] []) <|
  .keep [2, 3, 4, 5, 6, 22] [[2], [3], [4], [17]]) <|
  .cond (.t 22) (.skip) <|
  .seq (.keep [2, 3, 4, 5] [[2], [3], [4], [17]]) <|
  .exit 0) <|
  .seq (.seq (.blk 1 <|
  .seq (.seq (.reg [⟨(some 7), .mov (.c (.v (.int .i64 0))), none⟩] []) <|
  .keep [2, 3, 4, 5, 6, 7] [[2], [3], [4], [17]]) <|
  .seq (.seq (.seq (.reg [⟨(some 8), .mov (.c (.v (.int .i64 0))), none⟩] []) <|
  .keep [2, 3, 4, 5, 6, 7, 8] [[2], [3], [4], [17]]) <|
  .seq (.blk 2 <|
  .seq (.keep [2, 3, 4, 5, 6, 7, 8] [[2], [3], [4], [17]]) <|
  .loop gantryref04_Mul_l0) <|
  .keep [2, 3, 4, 5, 6, 7] [[2], [3], [4], [17]]) <|
  .seq (.reg [⟨(some 61), .mov (.t 5), none⟩,
    ⟨(some 62), .mov (.t 6), none⟩,
    ⟨(some 63), .fad 1 (.t 3), none⟩,
    ⟨(some 64), .load none (.t 63), none⟩,
    ⟨(some 65), .len (.t 64), none⟩,
    ⟨(some 66), .bin .add (.t 62) (.t 65), none⟩,
    ⟨(some 67), .mov (.t 7), none⟩,
    ⟨(some 68), .ixa 1 (.t 61) (.t 66), none⟩,
    ⟨none, .store 1 (.t 68) (.t 67), none⟩] []) <|
  .keep [2, 3, 4, 5, 6] [[2], [3], [4], [17]]) <|
  .keep [2, 3, 4, 5, 6] [[2], [3], [4], [17]]) <|
  .seq (.reg [⟨(some 23), .mov (.t 6), none⟩,
    ⟨(some 24), .bin .add (.t 23) (.c (.v (.int .i64 1))), none⟩,
    ⟨(some 6), .mov (.t 24), none⟩] []) <|
  .keep [2, 3, 4, 5, 6] [[2], [3], [4], [17]]) <|
  .keep [2, 3, 4, 5, 6] [[2], [3], [4], [17]]
def gantryref04_Mul : CF := ⟨2, .seq (.seq (.reg [⟨(some 2), .box (.t 0), none⟩,
    ⟨(some 3), .box (.t 1), none⟩,
    ⟨(some 4), .new [.v (.bool false), .z true], none⟩] []) <|
  .keep [2, 3, 4] [[2], [3], [4]]) <|
  .seq (.seq (.reg [⟨(some 10), .fad 1 (.t 2), none⟩,
    ⟨(some 11), .load none (.t 10), none⟩,
    ⟨(some 12), .len (.t 11), none⟩,
    ⟨(some 13), .fad 1 (.t 3), none⟩,
    ⟨(some 14), .load none (.t 13), none⟩,
    ⟨(some 15), .len (.t 14), none⟩,
    ⟨(some 16), .bin .add (.t 12) (.t 15), none⟩,
    ⟨(some 17), .mksl 1 8 [.v (.int .i64 0)] (.t 16) (.t 16), none⟩,
    ⟨(some 5), .mov (.t 17), none⟩] []) <|
  .keep [2, 3, 4, 5] [[2], [3], [4], [17]]) <|
  .seq (.seq (.seq (.reg [⟨(some 6), .mov (.c (.v (.int .i64 0))), none⟩] []) <|
  .keep [2, 3, 4, 5, 6] [[2], [3], [4], [17]]) <|
  .seq (.blk 0 <|
  .seq (.keep [2, 3, 4, 5, 6] [[2], [3], [4], [17]]) <|
  .loop gantryref04_Mul_l1) <|
  .keep [2, 3, 4, 5] [[2], [3], [4], [17]]) <|
  .seq (.seq (.frz 5) <|
  .seq (.reg [⟨(some 69), .fad 0 (.t 2), none⟩,
    ⟨(some 70), .load none (.t 69), none⟩,
    ⟨(some 71), .fad 0 (.t 3), none⟩,
    ⟨(some 72), .load none (.t 71), none⟩,
    ⟨(some 73), .binb true (.t 70) (.t 72), none⟩,
    ⟨(some 74), .mov (.t 5), none⟩,
    ⟨(some 75), .call n_gantryref04_normal [(.t 73), (.t 74)] false, none⟩,
    ⟨none, .store 2 (.t 4) (.t 75), none⟩] []) <|
  .keep [4] [[4]]) <|
  .ret, [.cell 4 (some 2)]⟩

/- 90: gantry/gantryref05.Den -/
def gantryref05_Den : CF := ⟨1, .seq (.seq (.reg [⟨(some 1), .box (.t 0), none⟩,
    ⟨(some 2), .new [.v (.bool false), .z true], none⟩] []) <|
  .keep [1, 2] [[1], [2]]) <|
  .seq (.seq (.seq (.reg [⟨(some 3), .fad 2 (.t 1), none⟩,
    ⟨(some 4), .fad 1 (.t 3), none⟩,
    ⟨(some 5), .load none (.t 4), none⟩,
    ⟨(some 6), .len (.t 5), none⟩,
    ⟨(some 7), .bin .eql (.t 6) (.c (.v (.int .i64 0))), none⟩] []) <|
  .keep [1, 2, 7] [[1], [2]]) <|
  .cond (.t 7) (.seq (.seq (.reg [⟨(some 8), .call n_gantryref04_Of [(.c (.v (.int .i64 1)))] false, none⟩,
    ⟨none, .store 2 (.t 2) (.t 8), none⟩] []) <|
  .keep [2] [[2]]) <|
  .ret) <|
  .skip) <|
  .seq (.seq (.reg [⟨(some 9), .fad 2 (.t 1), none⟩,
    ⟨(some 10), .load (some 2) (.t 9), none⟩,
    ⟨none, .store 2 (.t 2) (.t 10), none⟩] []) <|
  .keep [2] [[2]]) <|
  .ret, [.cell 2 (some 2)]⟩

/- 91: gantry/gantryref04.Add -/
def gantryref04_Add : CF := ⟨2, .seq (.seq (.reg [⟨(some 2), .box (.t 0), none⟩,
    ⟨(some 3), .box (.t 1), none⟩,
    ⟨(some 4), .new [.v (.bool false), .z true], none⟩] []) <|
  .keep [2, 3, 4] [[2], [3], [4]]) <|
  .seq (.seq (.seq (.reg [⟨(some 5), .fad 0 (.t 2), none⟩,
    ⟨(some 6), .load none (.t 5), none⟩,
    ⟨(some 7), .fad 0 (.t 3), none⟩,
    ⟨(some 8), .load none (.t 7), none⟩,
    ⟨(some 9), .binb false (.t 6) (.t 8), none⟩] []) <|
  .keep [2, 3, 4, 9] [[2], [3], [4]]) <|
  .cond (.t 9) (.seq (.seq (.reg [⟨(some 10), .fad 0 (.t 2), none⟩,
    ⟨(some 11), .load none (.t 10), none⟩,
    ⟨(some 12), .fad 1 (.t 2), none⟩,
    ⟨(some 13), .load none (.t 12), none⟩,
    ⟨(some 14), .fad 1 (.t 3), none⟩,
    ⟨(some 15), .load none (.t 14), none⟩,
    ⟨(some 16), .call n_gantryref04_plus [(.t 13), (.t 15)] false, none⟩,
    ⟨(some 17), .call n_gantryref04_normal [(.t 11), (.t 16)] false, none⟩,
    ⟨none, .store 2 (.t 4) (.t 17), none⟩] []) <|
  .keep [4] [[4]]) <|
  .ret) <|
  .skip) <|
  .seq (.seq (.seq (.reg [⟨(some 18), .fad 1 (.t 2), none⟩,
    ⟨(some 19), .load none (.t 18), none⟩,
    ⟨(some 20), .fad 1 (.t 3), none⟩,
    ⟨(some 21), .load none (.t 20), none⟩,
    ⟨(some 22), .call n_gantryref04_compared [(.t 19), (.t 21)] false, none⟩,
    ⟨(some 23), .bin .lss (.t 22) (.c (.v (.int .i64 0))), none⟩] []) <|
  .keep [2, 3, 4, 23] [[2], [3], [4]]) <|
  .cond (.t 23) (.seq (.seq (.reg [⟨(some 24), .fad 0 (.t 3), none⟩,
    ⟨(some 25), .load none (.t 24), none⟩,
    ⟨(some 26), .fad 1 (.t 3), none⟩,
    ⟨(some 27), .load none (.t 26), none⟩,
    ⟨(some 28), .fad 1 (.t 2), none⟩,
    ⟨(some 29), .load none (.t 28), none⟩,
    ⟨(some 30), .call n_gantryref04_minus [(.t 27), (.t 29)] false, none⟩,
    ⟨(some 31), .call n_gantryref04_normal [(.t 25), (.t 30)] false, none⟩,
    ⟨none, .store 2 (.t 4) (.t 31), none⟩] []) <|
  .keep [4] [[4]]) <|
  .ret) <|
  .skip) <|
  .seq (.seq (.reg [⟨(some 32), .fad 0 (.t 2), none⟩,
    ⟨(some 33), .load none (.t 32), none⟩,
    ⟨(some 34), .fad 1 (.t 2), none⟩,
    ⟨(some 35), .load none (.t 34), none⟩,
    ⟨(some 36), .fad 1 (.t 3), none⟩,
    ⟨(some 37), .load none (.t 36), none⟩,
    ⟨(some 38), .call n_gantryref04_minus [(.t 35), (.t 37)] false, none⟩,
    ⟨(some 39), .call n_gantryref04_normal [(.t 33), (.t 38)] false, none⟩,
    ⟨none, .store 2 (.t 4) (.t 39), none⟩] []) <|
  .keep [4] [[4]]) <|
  .ret, [.cell 4 (some 2)]⟩

/- 92: gantry/rat.Neg -/
def rat_Neg : CF := ⟨1, .seq (.seq (.reg [⟨(some 1), .box (.t 0), none⟩,
    ⟨(some 2), .new [.v (.bool false), .z true, .v (.bool false), .z true], none⟩] []) <|
  .keep [1, 2] [[1], [2]]) <|
  .seq (.seq (.reg [⟨(some 3), .fad 0 (.t 1), none⟩,
    ⟨(some 4), .load (some 2) (.t 3), none⟩,
    ⟨(some 5), .call n_integer_Neg [(.t 4)] false, none⟩,
    ⟨(some 6), .fad 2 (.t 1), none⟩,
    ⟨(some 7), .load (some 2) (.t 6), none⟩,
    ⟨(some 8), .build [.v (.bool false), .z true, .v (.bool false), .z true] [(0, 2, (.t 5)), (2, 2, (.t 7))], none⟩,
    ⟨none, .store 4 (.t 2) (.t 8), none⟩] []) <|
  .keep [2] [[2]]) <|
  .ret, [.cell 2 (some 4)]⟩

/- 93: gantry/rat.Sign -/
def rat_Sign : CF := ⟨1, .seq (.seq (.reg [⟨(some 1), .box (.t 0), none⟩,
    ⟨(some 2), .mov (.c (.v (.int .i64 0))), none⟩] []) <|
  .keep [1] [[1]]) <|
  .seq (.seq (.reg [⟨(some 3), .fad 0 (.t 1), none⟩,
    ⟨(some 4), .load (some 2) (.t 3), none⟩,
    ⟨(some 5), .call n_integer_Sign [(.t 4)] false, none⟩,
    ⟨(some 2), .mov (.t 5), none⟩] []) <|
  .keep [2] []) <|
  .ret, [.t 2]⟩

/- 94: slices.ContainsFunc[gantry/api.Poly,gantry/api.Rat] -/
def slices_ContainsFunc_api_Poly_api_Rat : CF := ⟨2, .seq (.seq (.reg [⟨(some 4), .mov (.c (.v (.bool false))), none⟩] []) <|
  .keep [0, 1] []) <|
  .seq (.seq (.reg [⟨(some 5), .mov (.t 0), none⟩,
    ⟨(some 6), .mov (.t 1), none⟩,
    ⟨(some 7), .call n_slices_IndexFunc_api_Poly_api_Rat [(.t 5), (.t 6)] false, none⟩,
    ⟨(some 8), .bin .geq (.t 7) (.c (.v (.int .i64 0))), none⟩,
    ⟨(some 4), .mov (.t 8), none⟩] []) <|
  .keep [4] []) <|
  .ret, [.t 4]⟩

/- 95: gantry/poly.Valid$1 -/
def poly_Valid_1 : CF := ⟨1, .seq (.seq (.reg [⟨(some 1), .box (.t 0), none⟩,
    ⟨(some 2), .mov (.c (.v (.bool false))), none⟩] []) <|
  .keep [1] [[1]]) <|
  .seq (.seq (.reg [⟨(some 3), .load (some 4) (.t 1), none⟩,
    ⟨(some 4), .call n_rat_Valid [(.t 3)] false, none⟩,
    ⟨(some 5), .un .not (.t 4), none⟩,
    ⟨(some 2), .mov (.t 5), none⟩] []) <|
  .keep [2] []) <|
  .ret, [.t 2]⟩

/- 96: gantry/rat.Valid -/
def rat_Valid : CF := ⟨1, .seq (.seq (.reg [⟨(some 1), .box (.t 0), none⟩,
    ⟨(some 2), .mov (.c (.v (.bool false))), none⟩] []) <|
  .keep [1] [[1]]) <|
  .seq (.seq (.blk 0 <|
  .seq (.seq (.reg [⟨(some 4), .fad 0 (.t 1), none⟩,
    ⟨(some 5), .load (some 2) (.t 4), none⟩,
    ⟨(some 6), .call n_integer_Valid [(.t 5)] false, none⟩,
    ⟨(some 7), .un .not (.t 6), none⟩,
    ⟨(some 8), .mov (.t 7), none⟩,
    ⟨(some 9), .fad 2 (.t 1), (some (8, false))⟩,
    ⟨(some 10), .load (some 2) (.t 9), (some (8, false))⟩,
    ⟨(some 11), .call n_integer_Valid [(.t 10)] false, (some (8, false))⟩,
    ⟨(some 12), .un .not (.t 11), (some (8, false))⟩,
    ⟨(some 13), .pick (.t 8) (.c (.v (.bool true))) (.t 12), none⟩,
    ⟨(some 14), .mov (.t 13), none⟩,
    ⟨(some 15), .fad 2 (.t 1), (some (14, false))⟩,
    ⟨(some 16), .fad 0 (.t 15), (some (14, false))⟩,
    ⟨(some 17), .load none (.t 16), (some (14, false))⟩,
    ⟨(some 18), .pick (.t 14) (.c (.v (.bool true))) (.t 17), none⟩,
    ⟨(some 19), .mov (.t 18), none⟩,
    ⟨(some 20), .fad 2 (.t 1), (some (19, false))⟩,
    ⟨(some 21), .load (some 2) (.t 20), (some (19, false))⟩,
    ⟨(some 22), .call n_rat_unit [(.t 21)] false, (some (19, false))⟩,
    ⟨(some 23), .pick (.t 19) (.c (.v (.bool true))) (.t 22), none⟩,
    ⟨(some 3), .mov (.t 23), none⟩] []) <|
  .keep [1, 3] [[1]]) <|
  .cond (.t 3) (.seq (.seq (.reg [⟨(some 2), .mov (.c (.v (.bool false))), none⟩] []) <|
  .keep [2] []) <|
  .ret) <|
  .seq (.seq (.reg [⟨(some 25), .fad 2 (.t 1), none⟩,
    ⟨(some 26), .fad 1 (.t 25), none⟩,
    ⟨(some 27), .load none (.t 26), none⟩,
    ⟨(some 28), .len (.t 27), none⟩,
    ⟨(some 29), .bin .eql (.t 28) (.c (.v (.int .i64 0))), none⟩,
    ⟨(some 24), .mov (.t 29), none⟩] []) <|
  .keep [1, 24] [[1]]) <|
  .cond (.t 24) (.seq (.seq (.reg [⟨(some 2), .mov (.c (.v (.bool true))), none⟩] []) <|
  .keep [2] []) <|
  .ret) <|
  .skip) <|
  .keep [1] [[1]]) <|
  .seq (.seq (.reg [⟨(some 30), .fad 0 (.t 1), none⟩,
    ⟨(some 31), .load (some 2) (.t 30), none⟩,
    ⟨(some 32), .fad 2 (.t 1), none⟩,
    ⟨(some 33), .load (some 2) (.t 32), none⟩,
    ⟨(some 34), .call n_integer_Gcd [(.t 31), (.t 33)] false, none⟩,
    ⟨(some 35), .call n_rat_unit [(.t 34)] false, none⟩,
    ⟨(some 2), .mov (.t 35), none⟩] []) <|
  .keep [2] []) <|
  .ret, [.t 2]⟩

/- 97: gantry/gantryref04.Gcd -/
def gantryref04_Gcd_l0 : C :=
  .seq (.seq (.seq (.seq (.reg [⟨(some 38), .mov (.t 8), none⟩,
    ⟨(some 39), .bin .gtr (.t 38) (.c (.v (.int .i64 0))), none⟩] []) <|
  .keep [4, 7, 8, 39] [[4]]) <|
  .cond (.t 39) (.skip) <|
  .seq (.keep [4, 7] [[4]]) <|
  .exit 2) <|
  .seq (.blk 3 <|
  .seq (.seq (.reg [⟨(some 40), .mov (.t 7), none⟩,
    ⟨(some 41), .mov (.t 8), none⟩,
    ⟨(some 42), .bin .rem (.t 40) (.t 41), none⟩,
    ⟨(some 9), .mov (.t 42), none⟩] []) <|
  .keep [4, 8, 9] [[4]]) <|
  .seq (.seq (.reg [⟨(some 43), .mov (.t 8), none⟩,
    ⟨(some 7), .mov (.t 43), none⟩] []) <|
  .keep [4, 7, 9] [[4]]) <|
  .seq (.reg [⟨(some 44), .mov (.t 9), none⟩,
    ⟨(some 8), .mov (.t 44), none⟩] []) <|
  .keep [4, 7, 8] [[4]]) <|
  .keep [4, 7, 8] [[4]]) <|
  .keep [4, 7, 8] [[4]]
def gantryref04_Gcd_l1 : C :=
  .seq (.seq (.seq (.seq (.reg [⟨(some 18), .fad 1 (.t 6), none⟩,
    ⟨(some 19), .load none (.t 18), none⟩,
    ⟨(some 20), .len (.t 19), none⟩,
    ⟨(some 21), .bin .gtr (.t 20) (.c (.v (.int .i64 0))), none⟩] []) <|
  .keep [4, 5, 6, 21] [[4], [5], [6]]) <|
  .cond (.t 21) (.skip) <|
  .seq (.keep [4, 5] [[4], [5]]) <|
  .exit 0) <|
  .seq (.blk 1 <|
  .seq (.seq (.seq (.reg [⟨(some 22), .fad 1 (.t 5), none⟩,
    ⟨(some 23), .load none (.t 22), none⟩,
    ⟨(some 24), .len (.t 23), none⟩,
    ⟨(some 25), .bin .leq (.t 24) (.c (.v (.int .i64 2))), none⟩,
    ⟨(some 26), .mov (.t 25), none⟩,
    ⟨(some 27), .fad 1 (.t 6), (some (26, true))⟩,
    ⟨(some 28), .load none (.t 27), (some (26, true))⟩,
    ⟨(some 29), .len (.t 28), (some (26, true))⟩,
    ⟨(some 30), .bin .leq (.t 29) (.c (.v (.int .i64 2))), (some (26, true))⟩,
    ⟨(some 31), .pick (.t 26) (.t 30) (.c (.v (.bool false))), none⟩] []) <|
  .keep [4, 5, 6, 31] [[4], [5], [6]]) <|
  .cond (.t 31) (.seq (.seq (.reg [⟨(some 32), .fad 1 (.t 5), none⟩,
    ⟨(some 33), .load none (.t 32), none⟩,
    ⟨(some 34), .call n_gantryref04_tiny [(.t 33)] false, none⟩,
    ⟨(some 7), .mov (.t 34), none⟩] []) <|
  .keep [4, 6, 7] [[4], [6]]) <|
  .seq (.seq (.reg [⟨(some 35), .fad 1 (.t 6), none⟩,
    ⟨(some 36), .load none (.t 35), none⟩,
    ⟨(some 37), .call n_gantryref04_tiny [(.t 36)] false, none⟩,
    ⟨(some 8), .mov (.t 37), none⟩] []) <|
  .keep [4, 7, 8] [[4]]) <|
  .seq (.seq (.blk 2 <|
  .seq (.keep [4, 7, 8] [[4]]) <|
  .loop gantryref04_Gcd_l0) <|
  .keep [4, 7] [[4]]) <|
  .seq (.seq (.reg [⟨(some 45), .mov (.t 7), none⟩,
    ⟨(some 46), .call n_gantryref04_Of [(.t 45)] false, none⟩,
    ⟨none, .store 2 (.t 4) (.t 46), none⟩] []) <|
  .keep [4] [[4]]) <|
  .ret) <|
  .skip) <|
  .seq (.seq (.reg [⟨(some 48), .load (some 2) (.t 5), none⟩,
    ⟨(some 49), .load (some 2) (.t 6), none⟩,
    ⟨(some 50), .call n_gantryref04_Div [(.t 48), (.t 49)] false, none⟩,
    ⟨(some 47), .mov (.t 50), none⟩,
    ⟨(some 51), .ext (.t 47) 0, none⟩,
    ⟨(some 52), .ext (.t 47) 1, none⟩,
    ⟨(some 10), .new [.v (.bool false), .z true], none⟩,
    ⟨(some 11), .new [.v (.bool false), .z true], none⟩,
    ⟨none, .store 2 (.t 10) (.t 51), none⟩,
    ⟨none, .store 2 (.t 11) (.t 52), none⟩] []) <|
  .keep [4, 5, 6, 11] [[4], [5], [6], [11]]) <|
  .seq (.seq (.reg [⟨(some 53), .load (some 2) (.t 6), none⟩,
    ⟨none, .store 2 (.t 5) (.t 53), none⟩] []) <|
  .keep [4, 5, 6, 11] [[4], [5], [6], [11]]) <|
  .seq (.reg [⟨(some 54), .load (some 2) (.t 11), none⟩,
    ⟨none, .store 2 (.t 6) (.t 54), none⟩] []) <|
  .keep [4, 5, 6] [[4], [5], [6]]) <|
  .keep [4, 5, 6] [[4], [5], [6]]) <|
  .keep [4, 5, 6] [[4], [5], [6]]
def gantryref04_Gcd : CF := ⟨2, .seq (.seq (.reg [⟨(some 2), .box (.t 0), none⟩,
    ⟨(some 3), .box (.t 1), none⟩,
    ⟨(some 4), .new [.v (.bool false), .z true], none⟩] []) <|
  .keep [2, 3, 4] [[2], [3], [4]]) <|
  .seq (.seq (.reg [⟨(some 12), .fad 1 (.t 2), none⟩,
    ⟨(some 13), .load none (.t 12), none⟩,
    ⟨(some 14), .call n_gantryref04_normal [(.c (.v (.bool false))), (.t 13)] false, none⟩,
    ⟨(some 5), .new [.v (.bool false), .z true], none⟩,
    ⟨none, .store 2 (.t 5) (.t 14), none⟩] []) <|
  .keep [3, 4, 5] [[3], [4], [5]]) <|
  .seq (.seq (.reg [⟨(some 15), .fad 1 (.t 3), none⟩,
    ⟨(some 16), .load none (.t 15), none⟩,
    ⟨(some 17), .call n_gantryref04_normal [(.c (.v (.bool false))), (.t 16)] false, none⟩,
    ⟨(some 6), .new [.v (.bool false), .z true], none⟩,
    ⟨none, .store 2 (.t 6) (.t 17), none⟩] []) <|
  .keep [4, 5, 6] [[4], [5], [6]]) <|
  .seq (.seq (.blk 0 <|
  .seq (.keep [4, 5, 6] [[4], [5], [6]]) <|
  .loop gantryref04_Gcd_l1) <|
  .keep [4, 5] [[4], [5]]) <|
  .seq (.seq (.reg [⟨(some 55), .load (some 2) (.t 5), none⟩,
    ⟨none, .store 2 (.t 4) (.t 55), none⟩] []) <|
  .keep [4] [[4]]) <|
  .ret, [.cell 4 (some 2)]⟩

/- 98: gantry/gantryref04.Div -/
def gantryref04_Div : CF := ⟨2, .seq (.seq (.reg [⟨(some 2), .box (.t 0), none⟩,
    ⟨(some 3), .box (.t 1), none⟩,
    ⟨(some 4), .new [.v (.bool false), .z true], none⟩,
    ⟨(some 5), .new [.v (.bool false), .z true], none⟩] []) <|
  .keep [2, 3, 4, 5] [[2], [3], [4], [5]]) <|
  .seq (.seq (.seq (.reg [⟨(some 10), .fad 1 (.t 3), none⟩,
    ⟨(some 11), .load none (.t 10), none⟩,
    ⟨(some 12), .len (.t 11), none⟩,
    ⟨(some 13), .bin .eql (.t 12) (.c (.v (.int .i64 0))), none⟩] []) <|
  .keep [2, 3, 4, 5, 13] [[2], [3], [4], [5]]) <|
  .cond (.t 13) (.seq (.seq (.reg [⟨(some 14), .build [.v (.bool false), .z true] [], none⟩,
    ⟨(some 15), .build [.v (.bool false), .z true] [], none⟩,
    ⟨none, .store 2 (.t 4) (.t 14), none⟩,
    ⟨none, .store 2 (.t 5) (.t 15), none⟩] []) <|
  .keep [4, 5] [[4], [5]]) <|
  .ret) <|
  .skip) <|
  .seq (.seq (.reg [⟨(some 17), .fad 1 (.t 2), none⟩,
    ⟨(some 18), .load none (.t 17), none⟩,
    ⟨(some 19), .fad 1 (.t 3), none⟩,
    ⟨(some 20), .load none (.t 19), none⟩,
    ⟨(some 21), .call n_gantryref04_divided [(.t 18), (.t 20)] false, none⟩,
    ⟨(some 16), .mov (.t 21), none⟩,
    ⟨(some 22), .ext (.t 16) 0, none⟩,
    ⟨(some 23), .ext (.t 16) 1, none⟩,
    ⟨(some 6), .mov (.t 22), none⟩,
    ⟨(some 7), .mov (.t 23), none⟩] []) <|
  .keep [2, 3, 4, 5, 6, 7] [[2], [3], [4], [5]]) <|
  .seq (.seq (.reg [⟨(some 24), .fad 0 (.t 2), none⟩,
    ⟨(some 25), .load none (.t 24), none⟩,
    ⟨(some 26), .fad 0 (.t 3), none⟩,
    ⟨(some 27), .load none (.t 26), none⟩,
    ⟨(some 28), .binb true (.t 25) (.t 27), none⟩,
    ⟨(some 29), .mov (.t 6), none⟩,
    ⟨(some 30), .call n_gantryref04_normal [(.t 28), (.t 29)] false, none⟩,
    ⟨(some 8), .new [.v (.bool false), .z true], none⟩,
    ⟨none, .store 2 (.t 8) (.t 30), none⟩] []) <|
  .keep [2, 3, 4, 5, 7, 8] [[2], [3], [4], [5], [8]]) <|
  .seq (.seq (.reg [⟨(some 31), .mov (.t 7), none⟩,
    ⟨(some 32), .call n_gantryref04_normal [(.c (.v (.bool false))), (.t 31)] false, none⟩,
    ⟨(some 9), .new [.v (.bool false), .z true], none⟩,
    ⟨none, .store 2 (.t 9) (.t 32), none⟩] []) <|
  .keep [2, 3, 4, 5, 8, 9] [[2], [3], [4], [5], [8], [9]]) <|
  .seq (.seq (.seq (.reg [⟨(some 33), .fad 0 (.t 2), none⟩,
    ⟨(some 34), .load none (.t 33), none⟩,
    ⟨(some 35), .mov (.t 34), none⟩,
    ⟨(some 36), .fad 1 (.t 9), (some (35, true))⟩,
    ⟨(some 37), .load none (.t 36), (some (35, true))⟩,
    ⟨(some 38), .len (.t 37), (some (35, true))⟩,
    ⟨(some 39), .bin .gtr (.t 38) (.c (.v (.int .i64 0))), (some (35, true))⟩,
    ⟨(some 40), .pick (.t 35) (.t 39) (.c (.v (.bool false))), none⟩] []) <|
  .keep [2, 3, 4, 5, 8, 9, 40] [[2], [3], [4], [5], [8], [9]]) <|
  .cond (.t 40) (.seq (.seq (.reg [⟨(some 41), .load (some 2) (.t 8), none⟩,
    ⟨(some 42), .fad 0 (.t 2), none⟩,
    ⟨(some 43), .load none (.t 42), none⟩,
    ⟨(some 44), .fad 0 (.t 3), none⟩,
    ⟨(some 45), .load none (.t 44), none⟩,
    ⟨(some 46), .binb true (.t 43) (.t 45), none⟩,
    ⟨(some 47), .lit 1 1 [.v (.int .i64 0)] [(0, (.c (.v (.int .i64 1))))] true, none⟩,
    ⟨(some 48), .call n_gantryref04_normal [(.t 46), (.t 47)] false, none⟩,
    ⟨(some 49), .call n_gantryref04_Add [(.t 41), (.t 48)] false, none⟩,
    ⟨none, .store 2 (.t 8) (.t 49), none⟩] []) <|
  .keep [3, 4, 5, 8, 9] [[3], [4], [5], [8], [9]]) <|
  .seq (.reg [⟨(some 50), .fad 1 (.t 3), none⟩,
    ⟨(some 51), .load none (.t 50), none⟩,
    ⟨(some 52), .fad 1 (.t 9), none⟩,
    ⟨(some 53), .load none (.t 52), none⟩,
    ⟨(some 54), .call n_gantryref04_minus [(.t 51), (.t 53)] false, none⟩,
    ⟨(some 55), .call n_gantryref04_normal [(.c (.v (.bool false))), (.t 54)] false, none⟩,
    ⟨none, .store 2 (.t 9) (.t 55), none⟩] []) <|
  .keep [4, 5, 8, 9] [[4], [5], [8], [9]]) <|
  .skip) <|
  .seq (.seq (.reg [⟨(some 56), .load (some 2) (.t 8), none⟩,
    ⟨(some 57), .load (some 2) (.t 9), none⟩,
    ⟨none, .store 2 (.t 4) (.t 56), none⟩,
    ⟨none, .store 2 (.t 5) (.t 57), none⟩] [((.t 9), 2, (.t 4), 2)]) <|
  .keep [4, 5] [[4], [5]]) <|
  .ret, [.cell 4 (some 2), .cell 5 (some 2)]⟩

/- 99: gantry/gantryref05.one -/
def gantryref05_one : CF := ⟨1, .seq (.seq (.reg [⟨(some 1), .box (.t 0), none⟩,
    ⟨(some 2), .mov (.c (.v (.bool false))), none⟩] []) <|
  .keep [1] [[1]]) <|
  .seq (.seq (.seq (.reg [⟨(some 3), .fad 0 (.t 1), none⟩,
    ⟨(some 4), .load none (.t 3), none⟩,
    ⟨(some 5), .mov (.t 4), none⟩,
    ⟨(some 6), .fad 1 (.t 1), (some (5, false))⟩,
    ⟨(some 7), .load none (.t 6), (some (5, false))⟩,
    ⟨(some 8), .len (.t 7), (some (5, false))⟩,
    ⟨(some 9), .bin .neq (.t 8) (.c (.v (.int .i64 1))), (some (5, false))⟩,
    ⟨(some 10), .pick (.t 5) (.c (.v (.bool true))) (.t 9), none⟩] []) <|
  .keep [1, 10] [[1]]) <|
  .cond (.t 10) (.seq (.seq (.reg [⟨(some 2), .mov (.c (.v (.bool false))), none⟩] []) <|
  .keep [2] []) <|
  .ret) <|
  .skip) <|
  .seq (.seq (.reg [⟨(some 11), .fad 1 (.t 1), none⟩,
    ⟨(some 12), .load none (.t 11), none⟩,
    ⟨(some 13), .ixa 1 (.t 12) (.c (.v (.int .i64 0))), none⟩,
    ⟨(some 14), .load none (.t 13), none⟩,
    ⟨(some 15), .bin .eql (.t 14) (.c (.v (.int .i64 1))), none⟩,
    ⟨(some 2), .mov (.t 15), none⟩] []) <|
  .keep [2] []) <|
  .ret, [.t 2]⟩

/- 100: gantry/gantryref04.normal -/
def gantryref04_normal_l0 : C :=
  .seq (.seq (.seq (.seq (.reg [⟨(some 8), .mov (.t 5), none⟩,
    ⟨(some 9), .bin .gtr (.t 8) (.c (.v (.int .i64 0))), none⟩,
    ⟨(some 10), .mov (.t 9), none⟩,
    ⟨(some 11), .mov (.t 1), (some (10, true))⟩,
    ⟨(some 12), .mov (.t 5), (some (10, true))⟩,
    ⟨(some 13), .bin .sub (.t 12) (.c (.v (.int .i64 1))), (some (10, true))⟩,
    ⟨(some 14), .mx [(.t 13), (.c (.v (.int .i64 0)))], (some (10, true))⟩,
    ⟨(some 15), .ixa 1 (.t 11) (.t 14), (some (10, true))⟩,
    ⟨(some 16), .load none (.t 15), (some (10, true))⟩,
    ⟨(some 17), .bin .eql (.t 16) (.c (.v (.int .i64 0))), (some (10, true))⟩,
    ⟨(some 18), .pick (.t 10) (.t 17) (.c (.v (.bool false))), none⟩] []) <|
  .keep [0, 1, 4, 5, 18] [[4]]) <|
  .cond (.t 18) (.skip) <|
  .seq (.keep [0, 1, 4, 5] [[4]]) <|
  .exit 0) <|
  .seq (.blk 1 <|
  .seq (.reg [⟨(some 19), .mov (.t 5), none⟩,
    ⟨(some 20), .bin .sub (.t 19) (.c (.v (.int .i64 1))), none⟩,
    ⟨(some 5), .mov (.t 20), none⟩] []) <|
  .keep [0, 1, 4, 5] [[4]]) <|
  .keep [0, 1, 4, 5] [[4]]) <|
  .keep [0, 1, 4, 5] [[4]]
def gantryref04_normal : CF := ⟨2, .seq (.seq (.reg [⟨(some 4), .new [.v (.bool false), .z true], none⟩] []) <|
  .keep [0, 1, 4] [[4]]) <|
  .seq (.seq (.reg [⟨(some 6), .mov (.t 1), none⟩,
    ⟨(some 7), .len (.t 6), none⟩,
    ⟨(some 5), .mov (.t 7), none⟩] []) <|
  .keep [0, 1, 4, 5] [[4]]) <|
  .seq (.seq (.blk 0 <|
  .seq (.keep [0, 1, 4, 5] [[4]]) <|
  .loop gantryref04_normal_l0) <|
  .keep [0, 1, 4, 5] [[4]]) <|
  .seq (.seq (.seq (.reg [⟨(some 21), .mov (.t 5), none⟩,
    ⟨(some 22), .bin .eql (.t 21) (.c (.v (.int .i64 0))), none⟩] []) <|
  .keep [0, 1, 4, 5, 22] [[4]]) <|
  .cond (.t 22) (.seq (.seq (.reg [⟨(some 23), .build [.v (.bool false), .z true] [], none⟩,
    ⟨none, .store 2 (.t 4) (.t 23), none⟩] []) <|
  .keep [4] [[4]]) <|
  .ret) <|
  .skip) <|
  .seq (.seq (.reg [⟨(some 24), .mov (.t 0), none⟩,
    ⟨(some 25), .mov (.t 1), none⟩,
    ⟨(some 26), .mov (.t 5), none⟩,
    ⟨(some 27), .slc 1 (.t 25) none (some (.t 26)) none, none⟩,
    ⟨(some 28), .build [.v (.bool false), .z true] [(0, 1, (.t 24)), (1, 1, (.t 27))], none⟩,
    ⟨none, .store 2 (.t 4) (.t 28), none⟩] []) <|
  .keep [4] [[4]]) <|
  .ret, [.cell 4 (some 2)]⟩

/- 101: slices.Backward[gantry/api.Poly,gantry/api.Rat]$1 -/
def slices_Backward_api_Poly_api_Rat_1_l0 : C :=
  .seq (.seq (.seq (.seq (.reg [⟨(some 7), .mov (.t 3), none⟩,
    ⟨(some 8), .bin .geq (.t 7) (.c (.v (.int .i64 0))), none⟩] []) <|
  .keep [0, 1, 3, 8] []) <|
  .cond (.t 8) (.skip) <|
  .seq (.keep [] []) <|
  .exit 0) <|
  .seq (.seq (.blk 1 <|
  .seq (.seq (.reg [⟨(some 11), .mov (.t 0), none⟩,
    ⟨(some 12), .mov (.t 3), none⟩,
    ⟨(some 13), .load none (.t 1), none⟩,
    ⟨(some 14), .mov (.t 3), none⟩,
    ⟨(some 15), .ixa 4 (.t 13) (.t 14), none⟩,
    ⟨(some 16), .load (some 4) (.t 15), none⟩,
    ⟨(some 17), .calv (.t 11) [(.t 12), (.t 16)], none⟩,
    ⟨(some 18), .un .not (.t 17), none⟩] []) <|
  .keep [0, 1, 3, 18] []) <|
  .cond (.t 18) (.ret) <|
  .skip) <|
  .keep [0, 1, 3] []) <|
  .seq (.reg [⟨(some 9), .mov (.t 3), none⟩,
    ⟨(some 10), .bin .sub (.t 9) (.c (.v (.int .i64 1))), none⟩,
    ⟨(some 3), .mov (.t 10), none⟩] []) <|
  .keep [0, 1, 3] []) <|
  .keep [0, 1, 3] []
def slices_Backward_api_Poly_api_Rat_1 : CF := ⟨2, .seq (.seq (.reg [⟨(some 4), .load none (.t 1), none⟩,
    ⟨(some 5), .len (.t 4), none⟩,
    ⟨(some 6), .bin .sub (.t 5) (.c (.v (.int .i64 1))), none⟩,
    ⟨(some 3), .mov (.t 6), none⟩] []) <|
  .keep [0, 1, 3] []) <|
  .seq (.blk 0 <|
  .seq (.keep [0, 1, 3] []) <|
  .loop slices_Backward_api_Poly_api_Rat_1_l0) <|
  .keep [] [], []⟩

/- 102: gantry/integer.Of -/
def integer_Of : CF := ⟨1, .seq (.seq (.reg [⟨(some 2), .new [.v (.bool false), .z true], none⟩] []) <|
  .keep [0, 2] [[2]]) <|
  .seq (.seq (.reg [⟨(some 4), .mov (.t 0), none⟩,
    ⟨(some 5), .conv (.int .u64) (.t 4), none⟩,
    ⟨(some 3), .mov (.t 5), none⟩] []) <|
  .keep [0, 2, 3] [[2]]) <|
  .seq (.seq (.seq (.reg [⟨(some 6), .mov (.t 0), none⟩,
    ⟨(some 7), .bin .lss (.t 6) (.c (.v (.int .i64 0))), none⟩] []) <|
  .keep [0, 2, 3, 7] [[2]]) <|
  .cond (.t 7) (.seq (.reg [⟨(some 8), .mov (.t 3), none⟩,
    ⟨(some 9), .un .neg (.t 8), none⟩,
    ⟨(some 3), .mov (.t 9), none⟩] []) <|
  .keep [0, 2, 3] [[2]]) <|
  .skip) <|
  .seq (.seq (.reg [⟨(some 10), .mov (.t 0), none⟩,
    ⟨(some 11), .bin .lss (.t 10) (.c (.v (.int .i64 0))), none⟩,
    ⟨(some 12), .mov (.t 3), none⟩,
    ⟨(some 13), .call n_integer_unsigned [(.t 11), (.t 12)] false, none⟩,
    ⟨none, .store 2 (.t 2) (.t 13), none⟩] []) <|
  .keep [2] [[2]]) <|
  .ret, [.cell 2 (some 2)]⟩

/- 103: gantry/integer.of -/
def integer_of_l0 : C :=
  .seq (.seq (.seq (.seq (.reg [⟨(some 8), .mov (.t 5), none⟩,
    ⟨(some 9), .bin .gtr (.t 8) (.c (.v (.int .i64 0))), none⟩,
    ⟨(some 10), .mov (.t 9), none⟩,
    ⟨(some 11), .mov (.t 1), (some (10, true))⟩,
    ⟨(some 12), .mov (.t 5), (some (10, true))⟩,
    ⟨(some 13), .bin .sub (.t 12) (.c (.v (.int .i64 1))), (some (10, true))⟩,
    ⟨(some 14), .ixa 1 (.t 11) (.t 13), (some (10, true))⟩,
    ⟨(some 15), .load none (.t 14), (some (10, true))⟩,
    ⟨(some 16), .bin .eql (.t 15) (.c (.v (.int .i64 0))), (some (10, true))⟩,
    ⟨(some 17), .pick (.t 10) (.t 16) (.c (.v (.bool false))), none⟩] []) <|
  .keep [0, 1, 4, 5, 17] [[4]]) <|
  .cond (.t 17) (.skip) <|
  .seq (.keep [0, 1, 4, 5] [[4]]) <|
  .exit 0) <|
  .seq (.blk 1 <|
  .seq (.reg [⟨(some 18), .mov (.t 5), none⟩,
    ⟨(some 19), .bin .sub (.t 18) (.c (.v (.int .i64 1))), none⟩,
    ⟨(some 5), .mov (.t 19), none⟩] []) <|
  .keep [0, 1, 4, 5] [[4]]) <|
  .keep [0, 1, 4, 5] [[4]]) <|
  .keep [0, 1, 4, 5] [[4]]
def integer_of : CF := ⟨2, .seq (.seq (.reg [⟨(some 4), .new [.v (.bool false), .z true], none⟩] []) <|
  .keep [0, 1, 4] [[4]]) <|
  .seq (.seq (.reg [⟨(some 6), .mov (.t 1), none⟩,
    ⟨(some 7), .len (.t 6), none⟩,
    ⟨(some 5), .mov (.t 7), none⟩] []) <|
  .keep [0, 1, 4, 5] [[4]]) <|
  .seq (.seq (.blk 0 <|
  .seq (.keep [0, 1, 4, 5] [[4]]) <|
  .loop integer_of_l0) <|
  .keep [0, 1, 4, 5] [[4]]) <|
  .seq (.seq (.seq (.reg [⟨(some 20), .mov (.t 5), none⟩,
    ⟨(some 21), .bin .eql (.t 20) (.c (.v (.int .i64 0))), none⟩] []) <|
  .keep [0, 1, 4, 5, 21] [[4]]) <|
  .cond (.t 21) (.seq (.seq (.reg [⟨(some 22), .build [.v (.bool false), .z true] [], none⟩,
    ⟨none, .store 2 (.t 4) (.t 22), none⟩] []) <|
  .keep [4] [[4]]) <|
  .ret) <|
  .skip) <|
  .seq (.seq (.reg [⟨(some 23), .mov (.t 0), none⟩,
    ⟨(some 24), .mov (.t 1), none⟩,
    ⟨(some 25), .mov (.t 5), none⟩,
    ⟨(some 26), .mov (.t 5), none⟩,
    ⟨(some 27), .slc 1 (.t 24) none (some (.t 25)) (some (.t 26)), none⟩,
    ⟨(some 28), .build [.v (.bool false), .z true] [(0, 1, (.t 23)), (1, 1, (.t 27))], none⟩,
    ⟨none, .store 2 (.t 4) (.t 28), none⟩] []) <|
  .keep [4] [[4]]) <|
  .ret, [.cell 4 (some 2)]⟩

/- 104: gantry/integer.plus -/
def integer_plus_l0 : C :=
  .seq (.seq (.seq (.reg [⟨(some 24), .bin .lss (.t 23) (.t 22), none⟩] []) <|
  .keep [0, 1, 5, 6, 21, 22, 23, 24] [[20]]) <|
  .seq (.cond (.t 24) (.skip) <|
  .seq (.keep [0, 5, 6] [[20]]) <|
  .exit 0) <|
  .seq (.seq (.blk 1 <|
  .seq (.seq (.reg [⟨(some 25), .mov (.t 23), none⟩,
    ⟨(some 26), .ixa 1 (.t 21) (.t 23), none⟩,
    ⟨(some 27), .load none (.t 26), none⟩,
    ⟨(some 7), .mov (.t 25), none⟩,
    ⟨(some 8), .mov (.t 27), none⟩] []) <|
  .keep [0, 1, 5, 6, 7, 8, 21, 22, 23] [[20]]) <|
  .seq (.seq (.reg [⟨(some 28), .mov (.t 8), none⟩,
    ⟨(some 29), .mov (.t 6), none⟩,
    ⟨(some 30), .bin .add (.t 28) (.t 29), none⟩,
    ⟨(some 9), .mov (.t 30), none⟩] []) <|
  .keep [0, 1, 5, 7, 9, 21, 22, 23] [[20]]) <|
  .seq (.seq (.seq (.reg [⟨(some 31), .mov (.t 7), none⟩,
    ⟨(some 32), .mov (.t 1), none⟩,
    ⟨(some 33), .len (.t 32), none⟩,
    ⟨(some 34), .bin .lss (.t 31) (.t 33), none⟩] []) <|
  .keep [0, 1, 5, 7, 9, 21, 22, 23, 34] [[20]]) <|
  .cond (.t 34) (.seq (.reg [⟨(some 35), .mov (.t 9), none⟩,
    ⟨(some 36), .mov (.t 1), none⟩,
    ⟨(some 37), .mov (.t 7), none⟩,
    ⟨(some 38), .ixa 1 (.t 36) (.t 37), none⟩,
    ⟨(some 39), .load none (.t 38), none⟩,
    ⟨(some 40), .bin .add (.t 35) (.t 39), none⟩,
    ⟨(some 9), .mov (.t 40), none⟩] []) <|
  .keep [0, 1, 5, 7, 9, 21, 22, 23] [[20]]) <|
  .skip) <|
  .seq (.seq (.reg [⟨(some 6), .mov (.c (.v (.int .i64 0))), none⟩] []) <|
  .keep [0, 1, 5, 6, 7, 9, 21, 22, 23] [[20]]) <|
  .seq (.seq (.seq (.reg [⟨(some 41), .mov (.t 9), none⟩,
    ⟨(some 42), .bin .geq (.t 41) (.c (.v (.int .i64 1000000000))), none⟩] []) <|
  .keep [0, 1, 5, 6, 7, 9, 21, 22, 23, 42] [[20]]) <|
  .cond (.t 42) (.seq (.reg [⟨(some 43), .mov (.t 9), none⟩,
    ⟨(some 44), .bin .sub (.t 43) (.c (.v (.int .i64 1000000000))), none⟩,
    ⟨(some 9), .mov (.t 44), none⟩,
    ⟨(some 6), .mov (.c (.v (.int .i64 1))), none⟩] []) <|
  .keep [0, 1, 5, 6, 7, 9, 21, 22, 23] [[20]]) <|
  .skip) <|
  .seq (.reg [⟨(some 45), .mov (.t 5), none⟩,
    ⟨(some 46), .mov (.t 7), none⟩,
    ⟨(some 47), .mov (.t 9), none⟩,
    ⟨(some 48), .ixa 1 (.t 45) (.t 46), none⟩,
    ⟨none, .store 1 (.t 48) (.t 47), none⟩] []) <|
  .keep [0, 1, 5, 6, 21, 22, 23] [[20]]) <|
  .keep [0, 1, 5, 6, 21, 22, 23] [[20]]) <|
  .seq (.reg [⟨(some 49), .bin .add (.t 23) (.c (.v (.int .i64 1))), none⟩,
    ⟨(some 23), .mov (.t 49), none⟩] []) <|
  .keep [0, 1, 5, 6, 21, 22, 23] [[20]]) <|
  .keep [0, 1, 5, 6, 21, 22, 23] [[20]]
def integer_plus : CF := ⟨2, .seq (.seq (.reg [⟨(some 4), .mov (.c (.z true)), none⟩] []) <|
  .keep [0, 1] []) <|
  .seq (.seq (.seq (.reg [⟨(some 10), .mov (.t 0), none⟩,
    ⟨(some 11), .len (.t 10), none⟩,
    ⟨(some 12), .mov (.t 1), none⟩,
    ⟨(some 13), .len (.t 12), none⟩,
    ⟨(some 14), .bin .lss (.t 11) (.t 13), none⟩] []) <|
  .keep [0, 1, 14] []) <|
  .cond (.t 14) (.seq (.reg [⟨(some 15), .mov (.t 1), none⟩,
    ⟨(some 16), .mov (.t 0), none⟩,
    ⟨(some 0), .mov (.t 15), none⟩,
    ⟨(some 1), .mov (.t 16), none⟩] []) <|
  .keep [0, 1] []) <|
  .skip) <|
  .seq (.seq (.reg [⟨(some 17), .mov (.t 0), none⟩,
    ⟨(some 18), .len (.t 17), none⟩,
    ⟨(some 19), .bin .add (.t 18) (.c (.v (.int .i64 1))), none⟩,
    ⟨(some 20), .mksl 1 8 [.v (.int .i64 0)] (.t 19) (.t 19), none⟩,
    ⟨(some 5), .mov (.t 20), none⟩] []) <|
  .keep [0, 1, 5] [[20]]) <|
  .seq (.seq (.reg [⟨(some 6), .mov (.c (.v (.int .i64 0))), none⟩] []) <|
  .keep [0, 1, 5, 6] [[20]]) <|
  .seq (.seq (.seq (.reg [⟨(some 21), .mov (.t 0), none⟩,
    ⟨(some 22), .len (.t 21), none⟩,
    ⟨(some 23), .mov (.c (.v (.int .i64 0))), none⟩] []) <|
  .keep [0, 1, 5, 6, 21, 22, 23] [[20]]) <|
  .seq (.blk 0 <|
  .seq (.keep [0, 1, 5, 6, 21, 22, 23] [[20]]) <|
  .loop integer_plus_l0) <|
  .keep [0, 5, 6] [[20]]) <|
  .seq (.seq (.reg [⟨(some 50), .mov (.t 5), none⟩,
    ⟨(some 51), .mov (.t 0), none⟩,
    ⟨(some 52), .len (.t 51), none⟩,
    ⟨(some 53), .mov (.t 6), none⟩,
    ⟨(some 54), .ixa 1 (.t 50) (.t 52), none⟩,
    ⟨none, .store 1 (.t 54) (.t 53), none⟩] []) <|
  .keep [5] [[20]]) <|
  .seq (.seq (.reg [⟨(some 55), .mov (.t 5), none⟩,
    ⟨(some 4), .mov (.t 55), none⟩] []) <|
  .keep [4] [[20]]) <|
  .ret, [.t 4]⟩

/- 105: gantry/integer.compare -/
def integer_compare_l0 : C :=
  .seq (.seq (.seq (.seq (.reg [⟨(some 19), .mov (.t 5), none⟩,
    ⟨(some 20), .bin .geq (.t 19) (.c (.v (.int .i64 0))), none⟩] []) <|
  .keep [0, 1, 5, 20] []) <|
  .cond (.t 20) (.skip) <|
  .seq (.keep [] []) <|
  .exit 0) <|
  .seq (.seq (.blk 1 <|
  .seq (.seq (.reg [⟨(some 23), .mov (.t 0), none⟩,
    ⟨(some 24), .mov (.t 5), none⟩,
    ⟨(some 25), .ixa 1 (.t 23) (.t 24), none⟩,
    ⟨(some 26), .load none (.t 25), none⟩,
    ⟨(some 27), .mov (.t 1), none⟩,
    ⟨(some 28), .mov (.t 5), none⟩,
    ⟨(some 29), .ixa 1 (.t 27) (.t 28), none⟩,
    ⟨(some 30), .load none (.t 29), none⟩,
    ⟨(some 31), .bin .neq (.t 26) (.t 30), none⟩] []) <|
  .keep [0, 1, 5, 31] []) <|
  .cond (.t 31) (.seq (.seq (.reg [⟨(some 32), .mov (.t 0), none⟩,
    ⟨(some 33), .mov (.t 5), none⟩,
    ⟨(some 34), .ixa 1 (.t 32) (.t 33), none⟩,
    ⟨(some 35), .load none (.t 34), none⟩,
    ⟨(some 36), .mov (.t 1), none⟩,
    ⟨(some 37), .mov (.t 5), none⟩,
    ⟨(some 38), .ixa 1 (.t 36) (.t 37), none⟩,
    ⟨(some 39), .load none (.t 38), none⟩,
    ⟨(some 40), .call n_cmp_Compare_int [(.t 35), (.t 39)] false, none⟩,
    ⟨(some 4), .mov (.t 40), none⟩] []) <|
  .keep [4] []) <|
  .ret) <|
  .skip) <|
  .keep [0, 1, 5] []) <|
  .seq (.reg [⟨(some 21), .mov (.t 5), none⟩,
    ⟨(some 22), .bin .sub (.t 21) (.c (.v (.int .i64 1))), none⟩,
    ⟨(some 5), .mov (.t 22), none⟩] []) <|
  .keep [0, 1, 5] []) <|
  .keep [0, 1, 5] []
def integer_compare : CF := ⟨2, .seq (.seq (.reg [⟨(some 4), .mov (.c (.v (.int .i64 0))), none⟩] []) <|
  .keep [0, 1] []) <|
  .seq (.seq (.seq (.reg [⟨(some 6), .mov (.t 0), none⟩,
    ⟨(some 7), .len (.t 6), none⟩,
    ⟨(some 8), .mov (.t 1), none⟩,
    ⟨(some 9), .len (.t 8), none⟩,
    ⟨(some 10), .bin .neq (.t 7) (.t 9), none⟩] []) <|
  .keep [0, 1, 10] []) <|
  .cond (.t 10) (.seq (.seq (.reg [⟨(some 11), .mov (.t 0), none⟩,
    ⟨(some 12), .len (.t 11), none⟩,
    ⟨(some 13), .mov (.t 1), none⟩,
    ⟨(some 14), .len (.t 13), none⟩,
    ⟨(some 15), .call n_cmp_Compare_int [(.t 12), (.t 14)] false, none⟩,
    ⟨(some 4), .mov (.t 15), none⟩] []) <|
  .keep [4] []) <|
  .ret) <|
  .skip) <|
  .seq (.seq (.seq (.reg [⟨(some 16), .mov (.t 0), none⟩,
    ⟨(some 17), .len (.t 16), none⟩,
    ⟨(some 18), .bin .sub (.t 17) (.c (.v (.int .i64 1))), none⟩,
    ⟨(some 5), .mov (.t 18), none⟩] []) <|
  .keep [0, 1, 5] []) <|
  .seq (.blk 0 <|
  .seq (.keep [0, 1, 5] []) <|
  .loop integer_compare_l0) <|
  .keep [] []) <|
  .seq (.seq (.reg [⟨(some 4), .mov (.c (.v (.int .i64 0))), none⟩] []) <|
  .keep [4] []) <|
  .ret, [.t 4]⟩

/- 106: gantry/integer.minus -/
def integer_minus_l0 : C :=
  .seq (.seq (.seq (.reg [⟨(some 16), .bin .lss (.t 15) (.t 14), none⟩] []) <|
  .keep [1, 5, 14, 15, 16] [[9]]) <|
  .seq (.cond (.t 16) (.skip) <|
  .seq (.keep [5] [[9]]) <|
  .exit 0) <|
  .seq (.seq (.blk 1 <|
  .seq (.seq (.reg [⟨(some 17), .mov (.t 15), none⟩,
    ⟨(some 6), .mov (.t 17), none⟩] []) <|
  .keep [1, 5, 6, 14, 15] [[9]]) <|
  .seq (.seq (.seq (.reg [⟨(some 18), .mov (.t 6), none⟩,
    ⟨(some 19), .mov (.t 1), none⟩,
    ⟨(some 20), .len (.t 19), none⟩,
    ⟨(some 21), .bin .lss (.t 18) (.t 20), none⟩] []) <|
  .keep [1, 5, 6, 14, 15, 21] [[9]]) <|
  .cond (.t 21) (.seq (.reg [⟨(some 22), .mov (.t 5), none⟩,
    ⟨(some 23), .mov (.t 6), none⟩,
    ⟨(some 24), .ixa 1 (.t 22) (.t 23), none⟩,
    ⟨(some 25), .load none (.t 24), none⟩,
    ⟨(some 26), .mov (.t 1), none⟩,
    ⟨(some 27), .mov (.t 6), none⟩,
    ⟨(some 28), .ixa 1 (.t 26) (.t 27), none⟩,
    ⟨(some 29), .load none (.t 28), none⟩,
    ⟨(some 30), .bin .sub (.t 25) (.t 29), none⟩,
    ⟨(some 31), .ixa 1 (.t 22) (.t 23), none⟩,
    ⟨none, .store 1 (.t 31) (.t 30), none⟩] []) <|
  .keep [1, 5, 6, 14, 15] [[9]]) <|
  .skip) <|
  .seq (.seq (.reg [⟨(some 32), .mov (.t 5), none⟩,
    ⟨(some 33), .mov (.t 6), none⟩,
    ⟨(some 34), .ixa 1 (.t 32) (.t 33), none⟩,
    ⟨(some 35), .load none (.t 34), none⟩,
    ⟨(some 36), .bin .lss (.t 35) (.c (.v (.int .i64 0))), none⟩] []) <|
  .keep [1, 5, 6, 14, 15, 36] [[9]]) <|
  .cond (.t 36) (.seq (.seq (.reg [⟨(some 37), .mov (.t 5), none⟩,
    ⟨(some 38), .mov (.t 6), none⟩,
    ⟨(some 39), .ixa 1 (.t 37) (.t 38), none⟩,
    ⟨(some 40), .load none (.t 39), none⟩,
    ⟨(some 41), .bin .add (.t 40) (.c (.v (.int .i64 1000000000))), none⟩,
    ⟨(some 42), .ixa 1 (.t 37) (.t 38), none⟩,
    ⟨none, .store 1 (.t 42) (.t 41), none⟩] []) <|
  .keep [1, 5, 6, 14, 15] [[9]]) <|
  .seq (.reg [⟨(some 43), .mov (.t 5), none⟩,
    ⟨(some 44), .mov (.t 6), none⟩,
    ⟨(some 45), .bin .add (.t 44) (.c (.v (.int .i64 1))), none⟩,
    ⟨(some 46), .ixa 1 (.t 43) (.t 45), none⟩,
    ⟨(some 47), .load none (.t 46), none⟩,
    ⟨(some 48), .bin .sub (.t 47) (.c (.v (.int .i64 1))), none⟩,
    ⟨(some 49), .ixa 1 (.t 43) (.t 45), none⟩,
    ⟨none, .store 1 (.t 49) (.t 48), none⟩] []) <|
  .keep [1, 5, 14, 15] [[9]]) <|
  .skip) <|
  .keep [1, 5, 14, 15] [[9]]) <|
  .seq (.reg [⟨(some 50), .bin .add (.t 15) (.c (.v (.int .i64 1))), none⟩,
    ⟨(some 15), .mov (.t 50), none⟩] []) <|
  .keep [1, 5, 14, 15] [[9]]) <|
  .keep [1, 5, 14, 15] [[9]]
def integer_minus : CF := ⟨2, .seq (.seq (.reg [⟨(some 4), .mov (.c (.z true)), none⟩] []) <|
  .keep [0, 1] []) <|
  .seq (.seq (.reg [⟨(some 7), .mov (.t 0), none⟩,
    ⟨(some 8), .len (.t 7), none⟩,
    ⟨(some 9), .mksl 1 8 [.v (.int .i64 0)] (.t 8) (.t 8), none⟩,
    ⟨(some 5), .mov (.t 9), none⟩] []) <|
  .keep [0, 1, 5] [[9]]) <|
  .seq (.seq (.reg [⟨(some 10), .mov (.t 5), none⟩,
    ⟨(some 11), .mov (.t 0), none⟩,
    ⟨(some 12), .cpy 1 (.t 10) (.t 11), none⟩] []) <|
  .keep [1, 5] [[9]]) <|
  .seq (.seq (.seq (.reg [⟨(some 13), .mov (.t 5), none⟩,
    ⟨(some 14), .len (.t 13), none⟩,
    ⟨(some 15), .mov (.c (.v (.int .i64 0))), none⟩] []) <|
  .keep [1, 5, 14, 15] [[9]]) <|
  .seq (.blk 0 <|
  .seq (.keep [1, 5, 14, 15] [[9]]) <|
  .loop integer_minus_l0) <|
  .keep [5] [[9]]) <|
  .seq (.seq (.reg [⟨(some 51), .mov (.t 5), none⟩,
    ⟨(some 4), .mov (.t 51), none⟩] []) <|
  .keep [4] [[9]]) <|
  .ret, [.t 4]⟩

/- 107: gantry/rat.one -/
def rat_one : CF := ⟨0, .seq (.seq (.reg [⟨(some 0), .new [.v (.bool false), .z true], none⟩] []) <|
  .keep [0] [[0]]) <|
  .seq (.seq (.reg [⟨(some 1), .call n_integer_Of [(.c (.v (.int .i64 1)))] false, none⟩,
    ⟨none, .store 2 (.t 0) (.t 1), none⟩] []) <|
  .keep [0] [[0]]) <|
  .ret, [.cell 0 (some 2)]⟩

/- 108: gantry/integer.Gcd -/
def integer_Gcd_l0 : C :=
  .seq (.seq (.seq (.seq (.reg [⟨(some 39), .mov (.t 9), none⟩,
    ⟨(some 40), .bin .gtr (.t 39) (.c (.v (.int .i64 0))), none⟩] []) <|
  .keep [4, 7, 9, 40] [[4]]) <|
  .cond (.t 40) (.skip) <|
  .seq (.keep [4, 7] [[4]]) <|
  .exit 2) <|
  .seq (.blk 3 <|
  .seq (.reg [⟨(some 41), .mov (.t 9), none⟩,
    ⟨(some 42), .mov (.t 7), none⟩,
    ⟨(some 43), .mov (.t 9), none⟩,
    ⟨(some 44), .bin .rem (.t 42) (.t 43), none⟩,
    ⟨(some 7), .mov (.t 41), none⟩,
    ⟨(some 9), .mov (.t 44), none⟩] []) <|
  .keep [4, 7, 9] [[4]]) <|
  .keep [4, 7, 9] [[4]]) <|
  .keep [4, 7, 9] [[4]]
def integer_Gcd_l1 : C :=
  .seq (.seq (.seq (.seq (.reg [⟨(some 19), .fad 1 (.t 6), none⟩,
    ⟨(some 20), .load none (.t 19), none⟩,
    ⟨(some 21), .len (.t 20), none⟩,
    ⟨(some 22), .bin .gtr (.t 21) (.c (.v (.int .i64 0))), none⟩] []) <|
  .keep [4, 5, 6, 22] [[4], [5], [6]]) <|
  .cond (.t 22) (.skip) <|
  .seq (.keep [4, 5] [[4], [5]]) <|
  .exit 0) <|
  .seq (.blk 1 <|
  .seq (.seq (.reg [⟨(some 24), .fad 1 (.t 5), none⟩,
    ⟨(some 25), .load none (.t 24), none⟩,
    ⟨(some 26), .call n_integer_two [(.t 25)] false, none⟩,
    ⟨(some 23), .mov (.t 26), none⟩,
    ⟨(some 27), .ext (.t 23) 0, none⟩,
    ⟨(some 28), .ext (.t 23) 1, none⟩,
    ⟨(some 7), .mov (.t 27), none⟩,
    ⟨(some 8), .mov (.t 28), none⟩] []) <|
  .keep [4, 5, 6, 7, 8] [[4], [5], [6]]) <|
  .seq (.seq (.reg [⟨(some 30), .fad 1 (.t 6), none⟩,
    ⟨(some 31), .load none (.t 30), none⟩,
    ⟨(some 32), .call n_integer_two [(.t 31)] false, none⟩,
    ⟨(some 29), .mov (.t 32), none⟩,
    ⟨(some 33), .ext (.t 29) 0, none⟩,
    ⟨(some 34), .ext (.t 29) 1, none⟩,
    ⟨(some 9), .mov (.t 33), none⟩,
    ⟨(some 10), .mov (.t 34), none⟩] []) <|
  .keep [4, 5, 6, 7, 8, 9, 10] [[4], [5], [6]]) <|
  .seq (.seq (.seq (.reg [⟨(some 35), .mov (.t 8), none⟩,
    ⟨(some 36), .mov (.t 35), none⟩,
    ⟨(some 37), .mov (.t 10), (some (36, true))⟩,
    ⟨(some 38), .pick (.t 36) (.t 37) (.c (.v (.bool false))), none⟩] []) <|
  .keep [4, 5, 6, 7, 9, 38] [[4], [5], [6]]) <|
  .cond (.t 38) (.seq (.seq (.blk 2 <|
  .seq (.keep [4, 7, 9] [[4]]) <|
  .loop integer_Gcd_l0) <|
  .keep [4, 7] [[4]]) <|
  .seq (.seq (.reg [⟨(some 45), .mov (.t 7), none⟩,
    ⟨(some 46), .conv (.int .u64) (.t 45), none⟩,
    ⟨(some 47), .call n_integer_unsigned [(.c (.v (.bool false))), (.t 46)] false, none⟩,
    ⟨none, .store 2 (.t 4) (.t 47), none⟩] []) <|
  .keep [4] [[4]]) <|
  .ret) <|
  .skip) <|
  .seq (.seq (.reg [⟨(some 49), .fad 1 (.t 5), none⟩,
    ⟨(some 50), .load none (.t 49), none⟩,
    ⟨(some 51), .fad 1 (.t 6), none⟩,
    ⟨(some 52), .load none (.t 51), none⟩,
    ⟨(some 53), .call n_integer_divide [(.t 50), (.t 52)] false, none⟩,
    ⟨(some 48), .mov (.t 53), none⟩,
    ⟨(some 54), .ext (.t 48) 0, none⟩,
    ⟨(some 55), .ext (.t 48) 1, none⟩,
    ⟨(some 11), .new [.v (.bool false), .z true], none⟩,
    ⟨(some 12), .new [.v (.bool false), .z true], none⟩,
    ⟨none, .store 2 (.t 11) (.t 54), none⟩,
    ⟨none, .store 2 (.t 12) (.t 55), none⟩] []) <|
  .keep [4, 5, 6, 12] [[4], [5], [6], [12]]) <|
  .seq (.reg [⟨(some 56), .load (some 2) (.t 6), none⟩,
    ⟨(some 57), .load (some 2) (.t 12), none⟩,
    ⟨none, .store 2 (.t 5) (.t 56), none⟩,
    ⟨none, .store 2 (.t 6) (.t 57), none⟩] [((.t 12), 2, (.t 5), 2)]) <|
  .keep [4, 5, 6] [[4], [5], [6]]) <|
  .keep [4, 5, 6] [[4], [5], [6]]) <|
  .keep [4, 5, 6] [[4], [5], [6]]
def integer_Gcd : CF := ⟨2, .seq (.seq (.reg [⟨(some 2), .box (.t 0), none⟩,
    ⟨(some 3), .box (.t 1), none⟩,
    ⟨(some 4), .new [.v (.bool false), .z true], none⟩] []) <|
  .keep [2, 3, 4] [[2], [3], [4]]) <|
  .seq (.seq (.reg [⟨(some 13), .fad 1 (.t 2), none⟩,
    ⟨(some 14), .load none (.t 13), none⟩,
    ⟨(some 15), .call n_integer_of [(.c (.v (.bool false))), (.t 14)] false, none⟩,
    ⟨(some 16), .fad 1 (.t 3), none⟩,
    ⟨(some 17), .load none (.t 16), none⟩,
    ⟨(some 18), .call n_integer_of [(.c (.v (.bool false))), (.t 17)] false, none⟩,
    ⟨(some 5), .new [.v (.bool false), .z true], none⟩,
    ⟨(some 6), .new [.v (.bool false), .z true], none⟩,
    ⟨none, .store 2 (.t 5) (.t 15), none⟩,
    ⟨none, .store 2 (.t 6) (.t 18), none⟩] []) <|
  .keep [4, 5, 6] [[4], [5], [6]]) <|
  .seq (.seq (.blk 0 <|
  .seq (.keep [4, 5, 6] [[4], [5], [6]]) <|
  .loop integer_Gcd_l1) <|
  .keep [4, 5] [[4], [5]]) <|
  .seq (.seq (.reg [⟨(some 58), .load (some 2) (.t 5), none⟩,
    ⟨none, .store 2 (.t 4) (.t 58), none⟩] []) <|
  .keep [4] [[4]]) <|
  .ret, [.cell 4 (some 2)]⟩

/- 109: gantry/rat.unit -/
def rat_unit : CF := ⟨1, .seq (.seq (.reg [⟨(some 1), .box (.t 0), none⟩,
    ⟨(some 2), .mov (.c (.v (.bool false))), none⟩] []) <|
  .keep [1] [[1]]) <|
  .seq (.seq (.reg [⟨(some 3), .fad 0 (.t 1), none⟩,
    ⟨(some 4), .load none (.t 3), none⟩,
    ⟨(some 5), .un .not (.t 4), none⟩,
    ⟨(some 6), .mov (.t 5), none⟩,
    ⟨(some 7), .fad 1 (.t 1), (some (6, true))⟩,
    ⟨(some 8), .load none (.t 7), (some (6, true))⟩,
    ⟨(some 9), .len (.t 8), (some (6, true))⟩,
    ⟨(some 10), .bin .eql (.t 9) (.c (.v (.int .i64 1))), (some (6, true))⟩,
    ⟨(some 11), .pick (.t 6) (.t 10) (.c (.v (.bool false))), none⟩,
    ⟨(some 12), .mov (.t 11), none⟩,
    ⟨(some 13), .fad 1 (.t 1), (some (12, true))⟩,
    ⟨(some 14), .load none (.t 13), (some (12, true))⟩,
    ⟨(some 15), .ixa 1 (.t 14) (.c (.v (.int .i64 0))), (some (12, true))⟩,
    ⟨(some 16), .load none (.t 15), (some (12, true))⟩,
    ⟨(some 17), .bin .eql (.t 16) (.c (.v (.int .i64 1))), (some (12, true))⟩,
    ⟨(some 18), .pick (.t 12) (.t 17) (.c (.v (.bool false))), none⟩,
    ⟨(some 2), .mov (.t 18), none⟩] []) <|
  .keep [2] []) <|
  .ret, [.t 2]⟩

/- 110: gantry/integer.Div -/
def integer_Div : CF := ⟨2, .seq (.seq (.reg [⟨(some 2), .box (.t 0), none⟩,
    ⟨(some 3), .box (.t 1), none⟩,
    ⟨(some 4), .new [.v (.bool false), .z true], none⟩,
    ⟨(some 5), .new [.v (.bool false), .z true], none⟩] []) <|
  .keep [2, 3, 4, 5] [[2], [3], [4], [5]]) <|
  .seq (.seq (.seq (.reg [⟨(some 8), .fad 1 (.t 3), none⟩,
    ⟨(some 9), .load none (.t 8), none⟩,
    ⟨(some 10), .len (.t 9), none⟩,
    ⟨(some 11), .bin .eql (.t 10) (.c (.v (.int .i64 0))), none⟩] []) <|
  .keep [2, 3, 4, 5, 11] [[2], [3], [4], [5]]) <|
  .cond (.t 11) (.seq (.seq (.reg [⟨(some 12), .build [.v (.bool false), .z true] [], none⟩,
    ⟨(some 13), .build [.v (.bool false), .z true] [], none⟩,
    ⟨none, .store 2 (.t 4) (.t 12), none⟩,
    ⟨none, .store 2 (.t 5) (.t 13), none⟩] []) <|
  .keep [4, 5] [[4], [5]]) <|
  .ret) <|
  .skip) <|
  .seq (.seq (.reg [⟨(some 15), .fad 1 (.t 2), none⟩,
    ⟨(some 16), .load none (.t 15), none⟩,
    ⟨(some 17), .fad 1 (.t 3), none⟩,
    ⟨(some 18), .load none (.t 17), none⟩,
    ⟨(some 19), .call n_integer_divide [(.t 16), (.t 18)] false, none⟩,
    ⟨(some 14), .mov (.t 19), none⟩,
    ⟨(some 20), .ext (.t 14) 0, none⟩,
    ⟨(some 21), .ext (.t 14) 1, none⟩,
    ⟨(some 6), .new [.v (.bool false), .z true], none⟩,
    ⟨(some 7), .new [.v (.bool false), .z true], none⟩,
    ⟨none, .store 2 (.t 6) (.t 20), none⟩,
    ⟨none, .store 2 (.t 7) (.t 21), none⟩] []) <|
  .keep [2, 3, 4, 5, 6, 7] [[2], [3], [4], [5], [6], [7]]) <|
  .seq (.seq (.seq (.reg [⟨(some 22), .fad 0 (.t 2), none⟩,
    ⟨(some 23), .load none (.t 22), none⟩,
    ⟨(some 24), .mov (.t 23), none⟩,
    ⟨(some 25), .fad 1 (.t 7), (some (24, true))⟩,
    ⟨(some 26), .load none (.t 25), (some (24, true))⟩,
    ⟨(some 27), .len (.t 26), (some (24, true))⟩,
    ⟨(some 28), .bin .gtr (.t 27) (.c (.v (.int .i64 0))), (some (24, true))⟩,
    ⟨(some 29), .pick (.t 24) (.t 28) (.c (.v (.bool false))), none⟩] []) <|
  .keep [2, 3, 4, 5, 6, 7, 29] [[2], [3], [4], [5], [6], [7]]) <|
  .cond (.t 29) (.seq (.seq (.reg [⟨(some 30), .fad 1 (.t 6), none⟩,
    ⟨(some 31), .load none (.t 30), none⟩,
    ⟨(some 32), .lit 1 1 [.v (.int .i64 0)] [(0, (.c (.v (.int .i64 1))))] true, none⟩,
    ⟨(some 33), .call n_integer_plus [(.t 31), (.t 32)] false, none⟩,
    ⟨(some 34), .call n_integer_of [(.c (.v (.bool false))), (.t 33)] false, none⟩,
    ⟨none, .store 2 (.t 6) (.t 34), none⟩] []) <|
  .keep [2, 3, 4, 5, 6, 7] [[2], [3], [4], [5], [6], [7]]) <|
  .seq (.reg [⟨(some 35), .fad 1 (.t 3), none⟩,
    ⟨(some 36), .load none (.t 35), none⟩,
    ⟨(some 37), .fad 1 (.t 7), none⟩,
    ⟨(some 38), .load none (.t 37), none⟩,
    ⟨(some 39), .call n_integer_minus [(.t 36), (.t 38)] false, none⟩,
    ⟨(some 40), .call n_integer_of [(.c (.v (.bool false))), (.t 39)] false, none⟩,
    ⟨none, .store 2 (.t 7) (.t 40), none⟩] []) <|
  .keep [2, 3, 4, 5, 6, 7] [[2], [3], [4], [5], [6], [7]]) <|
  .skip) <|
  .seq (.seq (.reg [⟨(some 41), .fad 0 (.t 2), none⟩,
    ⟨(some 42), .load none (.t 41), none⟩,
    ⟨(some 43), .fad 0 (.t 3), none⟩,
    ⟨(some 44), .load none (.t 43), none⟩,
    ⟨(some 45), .binb true (.t 42) (.t 44), none⟩,
    ⟨(some 46), .mov (.t 45), none⟩,
    ⟨(some 47), .fad 1 (.t 6), (some (46, true))⟩,
    ⟨(some 48), .load none (.t 47), (some (46, true))⟩,
    ⟨(some 49), .len (.t 48), (some (46, true))⟩,
    ⟨(some 50), .bin .gtr (.t 49) (.c (.v (.int .i64 0))), (some (46, true))⟩,
    ⟨(some 51), .pick (.t 46) (.t 50) (.c (.v (.bool false))), none⟩,
    ⟨(some 52), .fad 0 (.t 6), none⟩,
    ⟨none, .store 1 (.t 52) (.t 51), none⟩] []) <|
  .keep [4, 5, 6, 7] [[4], [5], [6], [7]]) <|
  .seq (.seq (.reg [⟨(some 53), .load (some 2) (.t 6), none⟩,
    ⟨(some 54), .load (some 2) (.t 7), none⟩,
    ⟨none, .store 2 (.t 4) (.t 53), none⟩,
    ⟨none, .store 2 (.t 5) (.t 54), none⟩] [((.t 7), 2, (.t 4), 2)]) <|
  .keep [4, 5] [[4], [5]]) <|
  .ret, [.cell 4 (some 2), .cell 5 (some 2)]⟩

/- 111: gantry/integer.unsigned -/
def integer_unsigned : CF := ⟨2, .seq (.seq (.reg [⟨(some 4), .new [.v (.bool false), .z true], none⟩] []) <|
  .keep [0, 1, 4] [[4]]) <|
  .seq (.seq (.blk 0 <|
  .seq (.seq (.reg [⟨(some 6), .mov (.t 1), none⟩,
    ⟨(some 7), .bin .eql (.t 6) (.c (.v (.int .u64 0))), none⟩,
    ⟨(some 5), .mov (.t 7), none⟩] []) <|
  .keep [0, 1, 4, 5] [[4]]) <|
  .cond (.t 5) (.seq (.seq (.reg [⟨(some 8), .build [.v (.bool false), .z true] [], none⟩,
    ⟨none, .store 2 (.t 4) (.t 8), none⟩] []) <|
  .keep [4] [[4]]) <|
  .ret) <|
  .seq (.seq (.reg [⟨(some 10), .mov (.t 1), none⟩,
    ⟨(some 11), .bin .lss (.t 10) (.c (.v (.int .u64 1000000000))), none⟩,
    ⟨(some 9), .mov (.t 11), none⟩] []) <|
  .keep [0, 1, 4, 9] [[4]]) <|
  .cond (.t 9) (.seq (.seq (.reg [⟨(some 12), .mov (.t 0), none⟩,
    ⟨(some 13), .mov (.t 1), none⟩,
    ⟨(some 14), .conv (.int .i64) (.t 13), none⟩,
    ⟨(some 15), .lit 1 1 [.v (.int .i64 0)] [(0, (.t 14))] true, none⟩,
    ⟨(some 16), .build [.v (.bool false), .z true] [(0, 1, (.t 12)), (1, 1, (.t 15))], none⟩,
    ⟨none, .store 2 (.t 4) (.t 16), none⟩] []) <|
  .keep [4] [[4]]) <|
  .ret) <|
  .seq (.seq (.reg [⟨(some 18), .mov (.t 1), none⟩,
    ⟨(some 19), .bin .lss (.t 18) (.c (.v (.int .u64 1000000000000000000))), none⟩,
    ⟨(some 17), .mov (.t 19), none⟩] []) <|
  .keep [0, 1, 4, 17] [[4]]) <|
  .cond (.t 17) (.seq (.seq (.reg [⟨(some 20), .mov (.t 0), none⟩,
    ⟨(some 21), .mov (.t 1), none⟩,
    ⟨(some 22), .bin .rem (.t 21) (.c (.v (.int .u64 1000000000))), none⟩,
    ⟨(some 23), .conv (.int .i64) (.t 22), none⟩,
    ⟨(some 24), .mov (.t 1), none⟩,
    ⟨(some 25), .bin .quo (.t 24) (.c (.v (.int .u64 1000000000))), none⟩,
    ⟨(some 26), .conv (.int .i64) (.t 25), none⟩,
    ⟨(some 27), .lit 1 2 [.v (.int .i64 0)] [(0, (.t 23)), (1, (.t 26))] true, none⟩,
    ⟨(some 28), .build [.v (.bool false), .z true] [(0, 1, (.t 20)), (1, 1, (.t 27))], none⟩,
    ⟨none, .store 2 (.t 4) (.t 28), none⟩] []) <|
  .keep [4] [[4]]) <|
  .ret) <|
  .skip) <|
  .keep [0, 1, 4] [[4]]) <|
  .seq (.seq (.reg [⟨(some 29), .mov (.t 0), none⟩,
    ⟨(some 30), .mov (.t 1), none⟩,
    ⟨(some 31), .bin .rem (.t 30) (.c (.v (.int .u64 1000000000))), none⟩,
    ⟨(some 32), .conv (.int .i64) (.t 31), none⟩,
    ⟨(some 33), .mov (.t 1), none⟩,
    ⟨(some 34), .bin .quo (.t 33) (.c (.v (.int .u64 1000000000))), none⟩,
    ⟨(some 35), .bin .rem (.t 34) (.c (.v (.int .u64 1000000000))), none⟩,
    ⟨(some 36), .conv (.int .i64) (.t 35), none⟩,
    ⟨(some 37), .mov (.t 1), none⟩,
    ⟨(some 38), .bin .quo (.t 37) (.c (.v (.int .u64 1000000000))), none⟩,
    ⟨(some 39), .bin .quo (.t 38) (.c (.v (.int .u64 1000000000))), none⟩,
    ⟨(some 40), .conv (.int .i64) (.t 39), none⟩,
    ⟨(some 41), .lit 1 3 [.v (.int .i64 0)] [(0, (.t 32)), (1, (.t 36)), (2, (.t 40))] true, none⟩,
    ⟨(some 42), .build [.v (.bool false), .z true] [(0, 1, (.t 29)), (1, 1, (.t 41))], none⟩,
    ⟨none, .store 2 (.t 4) (.t 42), none⟩] []) <|
  .keep [4] [[4]]) <|
  .ret, [.cell 4 (some 2)]⟩

/- 112: gantry/integer.Neg -/
def integer_Neg : CF := ⟨1, .seq (.seq (.reg [⟨(some 1), .box (.t 0), none⟩,
    ⟨(some 2), .new [.v (.bool false), .z true], none⟩] []) <|
  .keep [1, 2] [[1], [2]]) <|
  .seq (.seq (.reg [⟨(some 3), .fad 0 (.t 1), none⟩,
    ⟨(some 4), .load none (.t 3), none⟩,
    ⟨(some 5), .un .not (.t 4), none⟩,
    ⟨(some 6), .mov (.t 5), none⟩,
    ⟨(some 7), .fad 1 (.t 1), (some (6, true))⟩,
    ⟨(some 8), .load none (.t 7), (some (6, true))⟩,
    ⟨(some 9), .len (.t 8), (some (6, true))⟩,
    ⟨(some 10), .bin .gtr (.t 9) (.c (.v (.int .i64 0))), (some (6, true))⟩,
    ⟨(some 11), .pick (.t 6) (.t 10) (.c (.v (.bool false))), none⟩,
    ⟨(some 12), .fad 0 (.t 1), none⟩,
    ⟨none, .store 1 (.t 12) (.t 11), none⟩] []) <|
  .keep [1, 2] [[1], [2]]) <|
  .seq (.seq (.reg [⟨(some 13), .load (some 2) (.t 1), none⟩,
    ⟨none, .store 2 (.t 2) (.t 13), none⟩] []) <|
  .keep [2] [[2]]) <|
  .ret, [.cell 2 (some 2)]⟩

/- 114: gantry/integer.Encode -/
def integer_Encode : CF := ⟨1, .seq (.seq (.reg [⟨(some 1), .box (.t 0), none⟩,
    ⟨(some 2), .mov (.c (.z true)), none⟩] []) <|
  .keep [1] [[1]]) <|
  .seq (.seq (.reg [⟨(some 3), .load (some 2) (.t 1), none⟩,
    ⟨(some 4), .call n_integer_Sign [(.t 3)] false, none⟩,
    ⟨(some 5), .lit 1 1 [.v (.int .i64 0)] [(0, (.t 4))] false, none⟩,
    ⟨(some 6), .fad 1 (.t 1), none⟩,
    ⟨(some 7), .load none (.t 6), none⟩,
    ⟨(some 8), .app 1 8 (.t 5) (.t 7) true, none⟩,
    ⟨(some 9), .call n_wire_Ints [(.t 8)] false, none⟩,
    ⟨(some 2), .mov (.t 9), none⟩] []) <|
  .keep [2] []) <|
  .ret, [.t 2]⟩

/- 115: gantry/gantryref04.Encode -/
def gantryref04_Encode : CF := ⟨1, .seq (.seq (.reg [⟨(some 1), .box (.t 0), none⟩,
    ⟨(some 2), .mov (.c (.z true)), none⟩] []) <|
  .keep [1] [[1]]) <|
  .seq (.seq (.reg [⟨(some 3), .load (some 2) (.t 1), none⟩,
    ⟨(some 4), .call n_gantryref04_Sign [(.t 3)] false, none⟩,
    ⟨(some 5), .lit 1 1 [.v (.int .i64 0)] [(0, (.t 4))] false, none⟩,
    ⟨(some 6), .fad 1 (.t 1), none⟩,
    ⟨(some 7), .load none (.t 6), none⟩,
    ⟨(some 8), .app 1 8 (.t 5) (.t 7) true, none⟩,
    ⟨(some 9), .call n_gantryref01_Ints [(.t 8)] true, none⟩,
    ⟨(some 2), .mov (.t 9), none⟩] []) <|
  .keep [2] [[9]]) <|
  .ret, [.t 2]⟩

/- 116: gantry/integer.Decode -/
def integer_Decode : CF := ⟨1, .seq (.seq (.reg [⟨(some 2), .new [.v (.bool false), .z true], none⟩,
    ⟨(some 3), .mov (.c (.v (.int .i64 0))), none⟩,
    ⟨(some 4), .mov (.c (.v (.int .i64 0))), none⟩] []) <|
  .keep [0, 2] [[2]]) <|
  .seq (.seq (.reg [⟨(some 10), .mov (.t 0), none⟩,
    ⟨(some 11), .call n_wire_GetInts [(.t 10)] false, none⟩,
    ⟨(some 9), .mov (.t 11), none⟩,
    ⟨(some 12), .ext (.t 9) 0, none⟩,
    ⟨(some 13), .ext (.t 9) 1, none⟩,
    ⟨(some 14), .ext (.t 9) 2, none⟩,
    ⟨(some 5), .mov (.t 12), none⟩,
    ⟨(some 6), .mov (.t 13), none⟩,
    ⟨(some 7), .mov (.t 14), none⟩] []) <|
  .keep [2, 5, 6, 7] [[2]]) <|
  .seq (.seq (.seq (.reg [⟨(some 15), .mov (.t 7), none⟩,
    ⟨(some 16), .bin .neq (.t 15) (.c (.v (.int .i64 0))), none⟩] []) <|
  .keep [2, 5, 6, 7, 16] [[2]]) <|
  .cond (.t 16) (.seq (.seq (.reg [⟨(some 17), .build [.v (.bool false), .z true] [], none⟩,
    ⟨(some 18), .mov (.t 7), none⟩,
    ⟨none, .store 2 (.t 2) (.t 17), none⟩,
    ⟨(some 3), .mov (.c (.v (.int .i64 0))), none⟩,
    ⟨(some 4), .mov (.t 18), none⟩] []) <|
  .keep [2, 3, 4] [[2]]) <|
  .ret) <|
  .skip) <|
  .seq (.seq (.seq (.reg [⟨(some 19), .mov (.t 5), none⟩,
    ⟨(some 20), .len (.t 19), none⟩,
    ⟨(some 21), .bin .eql (.t 20) (.c (.v (.int .i64 0))), none⟩] []) <|
  .keep [2, 5, 6, 21] [[2]]) <|
  .cond (.t 21) (.seq (.seq (.reg [⟨(some 22), .build [.v (.bool false), .z true] [], none⟩,
    ⟨none, .store 2 (.t 2) (.t 22), none⟩,
    ⟨(some 3), .mov (.c (.v (.int .i64 0))), none⟩,
    ⟨(some 4), .mov (.c (.v (.int .i64 2))), none⟩] []) <|
  .keep [2, 3, 4] [[2]]) <|
  .ret) <|
  .skip) <|
  .seq (.seq (.reg [⟨(some 23), .mov (.t 5), none⟩,
    ⟨(some 24), .ixa 1 (.t 23) (.c (.v (.int .i64 0))), none⟩,
    ⟨(some 25), .load none (.t 24), none⟩,
    ⟨(some 26), .bin .eql (.t 25) (.c (.v (.int .i64 (-1)))), none⟩,
    ⟨(some 27), .mov (.t 5), none⟩,
    ⟨(some 28), .slc 1 (.t 27) (some (.c (.v (.int .i64 1)))) none none, none⟩,
    ⟨(some 29), .call n_slices_Clone_int_int [(.t 28)] false, none⟩,
    ⟨(some 30), .build [.v (.bool false), .z true] [(0, 1, (.t 26)), (1, 1, (.t 29))], none⟩,
    ⟨(some 8), .new [.v (.bool false), .z true], none⟩,
    ⟨none, .store 2 (.t 8) (.t 30), none⟩] []) <|
  .keep [2, 5, 6, 8] [[2], [8]]) <|
  .seq (.seq (.seq (.reg [⟨(some 31), .load (some 2) (.t 8), none⟩,
    ⟨(some 32), .call n_integer_Valid [(.t 31)] false, none⟩,
    ⟨(some 33), .un .not (.t 32), none⟩,
    ⟨(some 34), .mov (.t 33), none⟩,
    ⟨(some 35), .load (some 2) (.t 8), (some (34, false))⟩,
    ⟨(some 36), .call n_integer_Sign [(.t 35)] false, (some (34, false))⟩,
    ⟨(some 37), .mov (.t 5), (some (34, false))⟩,
    ⟨(some 38), .ixa 1 (.t 37) (.c (.v (.int .i64 0))), (some (34, false))⟩,
    ⟨(some 39), .load none (.t 38), (some (34, false))⟩,
    ⟨(some 40), .bin .neq (.t 36) (.t 39), (some (34, false))⟩,
    ⟨(some 41), .pick (.t 34) (.c (.v (.bool true))) (.t 40), none⟩] []) <|
  .keep [2, 6, 8, 41] [[2], [8]]) <|
  .cond (.t 41) (.seq (.seq (.reg [⟨(some 42), .build [.v (.bool false), .z true] [], none⟩,
    ⟨none, .store 2 (.t 2) (.t 42), none⟩,
    ⟨(some 3), .mov (.c (.v (.int .i64 0))), none⟩,
    ⟨(some 4), .mov (.c (.v (.int .i64 2))), none⟩] []) <|
  .keep [2, 3, 4] [[2]]) <|
  .ret) <|
  .skip) <|
  .seq (.seq (.reg [⟨(some 43), .load (some 2) (.t 8), none⟩,
    ⟨(some 44), .mov (.t 6), none⟩,
    ⟨none, .store 2 (.t 2) (.t 43), none⟩,
    ⟨(some 3), .mov (.t 44), none⟩,
    ⟨(some 4), .mov (.c (.v (.int .i64 0))), none⟩] []) <|
  .keep [2, 3, 4] [[2]]) <|
  .ret, [.cell 2 (some 2), .t 3, .t 4]⟩

/- 117: gantry/gantryref04.Decode -/
def gantryref04_Decode : CF := ⟨1, .seq (.seq (.reg [⟨(some 2), .new [.v (.bool false), .z true], none⟩,
    ⟨(some 3), .mov (.c (.v (.int .i64 0))), none⟩,
    ⟨(some 4), .mov (.c (.v (.int .i64 0))), none⟩] []) <|
  .keep [0, 2] [[2]]) <|
  .seq (.seq (.reg [⟨(some 10), .mov (.t 0), none⟩,
    ⟨(some 11), .call n_gantryref01_GetInts [(.t 10)] false, none⟩,
    ⟨(some 9), .mov (.t 11), none⟩,
    ⟨(some 12), .ext (.t 9) 0, none⟩,
    ⟨(some 13), .ext (.t 9) 1, none⟩,
    ⟨(some 14), .ext (.t 9) 2, none⟩,
    ⟨(some 5), .mov (.t 12), none⟩,
    ⟨(some 6), .mov (.t 13), none⟩,
    ⟨(some 7), .mov (.t 14), none⟩] []) <|
  .keep [2, 5, 6, 7] [[2]]) <|
  .seq (.seq (.seq (.reg [⟨(some 15), .mov (.t 7), none⟩,
    ⟨(some 16), .bin .neq (.t 15) (.c (.v (.int .i64 0))), none⟩] []) <|
  .keep [2, 5, 6, 7, 16] [[2]]) <|
  .cond (.t 16) (.seq (.seq (.reg [⟨(some 17), .build [.v (.bool false), .z true] [], none⟩,
    ⟨(some 18), .mov (.t 7), none⟩,
    ⟨none, .store 2 (.t 2) (.t 17), none⟩,
    ⟨(some 3), .mov (.c (.v (.int .i64 0))), none⟩,
    ⟨(some 4), .mov (.t 18), none⟩] []) <|
  .keep [2, 3, 4] [[2]]) <|
  .ret) <|
  .skip) <|
  .seq (.seq (.seq (.reg [⟨(some 19), .mov (.t 5), none⟩,
    ⟨(some 20), .len (.t 19), none⟩,
    ⟨(some 21), .bin .eql (.t 20) (.c (.v (.int .i64 0))), none⟩] []) <|
  .keep [2, 5, 6, 21] [[2]]) <|
  .cond (.t 21) (.seq (.seq (.reg [⟨(some 22), .build [.v (.bool false), .z true] [], none⟩,
    ⟨none, .store 2 (.t 2) (.t 22), none⟩,
    ⟨(some 3), .mov (.c (.v (.int .i64 0))), none⟩,
    ⟨(some 4), .mov (.c (.v (.int .i64 2))), none⟩] []) <|
  .keep [2, 3, 4] [[2]]) <|
  .ret) <|
  .skip) <|
  .seq (.seq (.reg [⟨(some 23), .mov (.t 5), none⟩,
    ⟨(some 24), .ixa 1 (.t 23) (.c (.v (.int .i64 0))), none⟩,
    ⟨(some 25), .load none (.t 24), none⟩,
    ⟨(some 26), .bin .eql (.t 25) (.c (.v (.int .i64 (-1)))), none⟩,
    ⟨(some 27), .mov (.t 5), none⟩,
    ⟨(some 28), .slc 1 (.t 27) (some (.c (.v (.int .i64 1)))) none none, none⟩,
    ⟨(some 29), .build [.v (.bool false), .z true] [(0, 1, (.t 26)), (1, 1, (.t 28))], none⟩,
    ⟨(some 8), .new [.v (.bool false), .z true], none⟩,
    ⟨none, .store 2 (.t 8) (.t 29), none⟩] []) <|
  .keep [2, 5, 6, 8] [[2], [8]]) <|
  .seq (.seq (.seq (.reg [⟨(some 30), .load (some 2) (.t 8), none⟩,
    ⟨(some 31), .call n_gantryref04_Valid [(.t 30)] false, none⟩,
    ⟨(some 32), .un .not (.t 31), none⟩] []) <|
  .keep [2, 5, 6, 8, 32] [[2], [8]]) <|
  .cond (.t 32) (.seq (.seq (.reg [⟨(some 33), .build [.v (.bool false), .z true] [], none⟩,
    ⟨none, .store 2 (.t 2) (.t 33), none⟩,
    ⟨(some 3), .mov (.c (.v (.int .i64 0))), none⟩,
    ⟨(some 4), .mov (.c (.v (.int .i64 2))), none⟩] []) <|
  .keep [2, 3, 4] [[2]]) <|
  .ret) <|
  .skip) <|
  .seq (.seq (.seq (.reg [⟨(some 34), .load (some 2) (.t 8), none⟩,
    ⟨(some 35), .call n_gantryref04_Sign [(.t 34)] false, none⟩,
    ⟨(some 36), .mov (.t 5), none⟩,
    ⟨(some 37), .ixa 1 (.t 36) (.c (.v (.int .i64 0))), none⟩,
    ⟨(some 38), .load none (.t 37), none⟩,
    ⟨(some 39), .bin .neq (.t 35) (.t 38), none⟩] []) <|
  .keep [2, 6, 8, 39] [[2], [8]]) <|
  .cond (.t 39) (.seq (.seq (.reg [⟨(some 40), .build [.v (.bool false), .z true] [], none⟩,
    ⟨none, .store 2 (.t 2) (.t 40), none⟩,
    ⟨(some 3), .mov (.c (.v (.int .i64 0))), none⟩,
    ⟨(some 4), .mov (.c (.v (.int .i64 2))), none⟩] []) <|
  .keep [2, 3, 4] [[2]]) <|
  .ret) <|
  .skip) <|
  .seq (.seq (.reg [⟨(some 41), .load (some 2) (.t 8), none⟩,
    ⟨(some 42), .mov (.t 6), none⟩,
    ⟨none, .store 2 (.t 2) (.t 41), none⟩,
    ⟨(some 3), .mov (.t 42), none⟩,
    ⟨(some 4), .mov (.c (.v (.int .i64 0))), none⟩] []) <|
  .keep [2, 3, 4] [[2]]) <|
  .ret, [.cell 2 (some 2), .t 3, .t 4]⟩

/- 118: gantry/gantryref05.Valid -/
def gantryref05_Valid : CF := ⟨1, .seq (.seq (.reg [⟨(some 1), .box (.t 0), none⟩,
    ⟨(some 2), .mov (.c (.v (.bool false))), none⟩] []) <|
  .keep [1] [[1]]) <|
  .seq (.seq (.seq (.reg [⟨(some 3), .fad 0 (.t 1), none⟩,
    ⟨(some 4), .load (some 2) (.t 3), none⟩,
    ⟨(some 5), .call n_gantryref04_Valid [(.t 4)] false, none⟩,
    ⟨(some 6), .un .not (.t 5), none⟩,
    ⟨(some 7), .mov (.t 6), none⟩,
    ⟨(some 8), .fad 2 (.t 1), (some (7, false))⟩,
    ⟨(some 9), .load (some 2) (.t 8), (some (7, false))⟩,
    ⟨(some 10), .call n_gantryref04_Valid [(.t 9)] false, (some (7, false))⟩,
    ⟨(some 11), .un .not (.t 10), (some (7, false))⟩,
    ⟨(some 12), .pick (.t 7) (.c (.v (.bool true))) (.t 11), none⟩,
    ⟨(some 13), .mov (.t 12), none⟩,
    ⟨(some 14), .fad 2 (.t 1), (some (13, false))⟩,
    ⟨(some 15), .fad 0 (.t 14), (some (13, false))⟩,
    ⟨(some 16), .load none (.t 15), (some (13, false))⟩,
    ⟨(some 17), .pick (.t 13) (.c (.v (.bool true))) (.t 16), none⟩,
    ⟨(some 18), .mov (.t 17), none⟩,
    ⟨(some 19), .fad 2 (.t 1), (some (18, false))⟩,
    ⟨(some 20), .load (some 2) (.t 19), (some (18, false))⟩,
    ⟨(some 21), .call n_gantryref05_one [(.t 20)] false, (some (18, false))⟩,
    ⟨(some 22), .pick (.t 18) (.c (.v (.bool true))) (.t 21), none⟩] []) <|
  .keep [1, 22] [[1]]) <|
  .cond (.t 22) (.seq (.seq (.reg [⟨(some 2), .mov (.c (.v (.bool false))), none⟩] []) <|
  .keep [2] []) <|
  .ret) <|
  .skip) <|
  .seq (.seq (.seq (.reg [⟨(some 23), .fad 2 (.t 1), none⟩,
    ⟨(some 24), .fad 1 (.t 23), none⟩,
    ⟨(some 25), .load none (.t 24), none⟩,
    ⟨(some 26), .len (.t 25), none⟩,
    ⟨(some 27), .bin .eql (.t 26) (.c (.v (.int .i64 0))), none⟩] []) <|
  .keep [1, 27] [[1]]) <|
  .cond (.t 27) (.seq (.seq (.reg [⟨(some 2), .mov (.c (.v (.bool true))), none⟩] []) <|
  .keep [2] []) <|
  .ret) <|
  .skip) <|
  .seq (.seq (.reg [⟨(some 28), .fad 0 (.t 1), none⟩,
    ⟨(some 29), .load (some 2) (.t 28), none⟩,
    ⟨(some 30), .fad 2 (.t 1), none⟩,
    ⟨(some 31), .load (some 2) (.t 30), none⟩,
    ⟨(some 32), .call n_gantryref04_Gcd [(.t 29), (.t 31)] false, none⟩,
    ⟨(some 33), .call n_gantryref05_one [(.t 32)] false, none⟩,
    ⟨(some 2), .mov (.t 33), none⟩] []) <|
  .keep [2] []) <|
  .ret, [.t 2]⟩

/- 119: gantry/gantryref04.Sign -/
def gantryref04_Sign : CF := ⟨1, .seq (.seq (.reg [⟨(some 1), .box (.t 0), none⟩,
    ⟨(some 2), .mov (.c (.v (.int .i64 0))), none⟩] []) <|
  .keep [1] [[1]]) <|
  .seq (.seq (.reg [⟨(some 3), .load (some 2) (.t 1), none⟩,
    ⟨(some 4), .build [.v (.bool false), .z true] [], none⟩,
    ⟨(some 5), .call n_gantryref04_Compare [(.t 3), (.t 4)] false, none⟩,
    ⟨(some 2), .mov (.t 5), none⟩] []) <|
  .keep [2] []) <|
  .ret, [.t 2]⟩

/- 120: gantry/gantryref04.plus -/
def gantryref04_plus_l0 : C :=
  .seq (.seq (.seq (.seq (.reg [⟨(some 9), .mov (.t 7), none⟩,
    ⟨(some 10), .mov (.t 0), none⟩,
    ⟨(some 11), .len (.t 10), none⟩,
    ⟨(some 12), .bin .lss (.t 9) (.t 11), none⟩,
    ⟨(some 13), .mov (.t 12), none⟩,
    ⟨(some 14), .mov (.t 7), (some (13, false))⟩,
    ⟨(some 15), .mov (.t 1), (some (13, false))⟩,
    ⟨(some 16), .len (.t 15), (some (13, false))⟩,
    ⟨(some 17), .bin .lss (.t 14) (.t 16), (some (13, false))⟩,
    ⟨(some 18), .pick (.t 13) (.c (.v (.bool true))) (.t 17), none⟩,
    ⟨(some 19), .mov (.t 18), none⟩,
    ⟨(some 20), .mov (.t 6), (some (19, false))⟩,
    ⟨(some 21), .bin .gtr (.t 20) (.c (.v (.int .i64 0))), (some (19, false))⟩,
    ⟨(some 22), .pick (.t 19) (.c (.v (.bool true))) (.t 21), none⟩] []) <|
  .keep [0, 1, 5, 6, 7, 22] [[38]]) <|
  .cond (.t 22) (.skip) <|
  .seq (.keep [5] [[38]]) <|
  .exit 0) <|
  .seq (.seq (.blk 1 <|
  .seq (.seq (.reg [⟨(some 25), .mov (.t 0), none⟩,
    ⟨(some 26), .mov (.t 7), none⟩,
    ⟨(some 27), .call n_gantryref04_digit [(.t 25), (.t 26)] false, none⟩,
    ⟨(some 28), .mov (.t 1), none⟩,
    ⟨(some 29), .mov (.t 7), none⟩,
    ⟨(some 30), .call n_gantryref04_digit [(.t 28), (.t 29)] false, none⟩,
    ⟨(some 31), .bin .add (.t 27) (.t 30), none⟩,
    ⟨(some 32), .mov (.t 6), none⟩,
    ⟨(some 33), .bin .add (.t 31) (.t 32), none⟩,
    ⟨(some 8), .mov (.t 33), none⟩] []) <|
  .keep [0, 1, 5, 7, 8] [[38]]) <|
  .seq (.seq (.reg [⟨(some 34), .mov (.t 5), none⟩,
    ⟨(some 35), .mov (.t 8), none⟩,
    ⟨(some 36), .bin .rem (.t 35) (.c (.v (.int .i64 1000000000))), none⟩,
    ⟨(some 37), .lit 1 1 [.v (.int .i64 0)] [(0, (.t 36))] true, none⟩,
    ⟨(some 38), .app 1 8 (.t 34) (.t 37) false, none⟩,
    ⟨(some 5), .mov (.t 38), none⟩] []) <|
  .keep [0, 1, 5, 7, 8] [[38]]) <|
  .seq (.reg [⟨(some 39), .mov (.t 8), none⟩,
    ⟨(some 40), .bin .quo (.t 39) (.c (.v (.int .i64 1000000000))), none⟩,
    ⟨(some 6), .mov (.t 40), none⟩] []) <|
  .keep [0, 1, 5, 6, 7] [[38]]) <|
  .keep [0, 1, 5, 6, 7] [[38]]) <|
  .seq (.reg [⟨(some 23), .mov (.t 7), none⟩,
    ⟨(some 24), .bin .add (.t 23) (.c (.v (.int .i64 1))), none⟩,
    ⟨(some 7), .mov (.t 24), none⟩] []) <|
  .keep [0, 1, 5, 6, 7] [[38]]) <|
  .keep [0, 1, 5, 6, 7] [[38]]
def gantryref04_plus : CF := ⟨2, .seq (.seq (.reg [⟨(some 4), .mov (.c (.z true)), none⟩] []) <|
  .keep [0, 1] []) <|
  .seq (.seq (.reg [⟨(some 5), .mov (.c (.z true)), none⟩] []) <|
  .keep [0, 1, 5] [[38]]) <|
  .seq (.seq (.reg [⟨(some 6), .mov (.c (.v (.int .i64 0))), none⟩] []) <|
  .keep [0, 1, 5, 6] [[38]]) <|
  .seq (.seq (.seq (.reg [⟨(some 7), .mov (.c (.v (.int .i64 0))), none⟩] []) <|
  .keep [0, 1, 5, 6, 7] [[38]]) <|
  .seq (.blk 0 <|
  .seq (.keep [0, 1, 5, 6, 7] [[38]]) <|
  .loop gantryref04_plus_l0) <|
  .keep [5] [[38]]) <|
  .seq (.seq (.reg [⟨(some 41), .mov (.t 5), none⟩,
    ⟨(some 4), .mov (.t 41), none⟩] []) <|
  .keep [4] [[38]]) <|
  .ret, [.t 4]⟩

/- 121: gantry/gantryref04.compared -/
def gantryref04_compared_l0 : C :=
  .seq (.seq (.seq (.seq (.reg [⟨(some 19), .mov (.t 5), none⟩,
    ⟨(some 20), .bin .geq (.t 19) (.c (.v (.int .i64 0))), none⟩] []) <|
  .keep [0, 1, 5, 20] []) <|
  .cond (.t 20) (.skip) <|
  .seq (.keep [] []) <|
  .exit 0) <|
  .seq (.seq (.blk 1 <|
  .seq (.seq (.seq (.reg [⟨(some 23), .mov (.t 0), none⟩,
    ⟨(some 24), .mov (.t 5), none⟩,
    ⟨(some 25), .ixa 1 (.t 23) (.t 24), none⟩,
    ⟨(some 26), .load none (.t 25), none⟩,
    ⟨(some 27), .mov (.t 1), none⟩,
    ⟨(some 28), .mov (.t 5), none⟩,
    ⟨(some 29), .ixa 1 (.t 27) (.t 28), none⟩,
    ⟨(some 30), .load none (.t 29), none⟩,
    ⟨(some 31), .bin .lss (.t 26) (.t 30), none⟩] []) <|
  .keep [0, 1, 5, 31] []) <|
  .cond (.t 31) (.seq (.seq (.reg [⟨(some 4), .mov (.c (.v (.int .i64 (-1)))), none⟩] []) <|
  .keep [4] []) <|
  .ret) <|
  .skip) <|
  .seq (.seq (.reg [⟨(some 32), .mov (.t 0), none⟩,
    ⟨(some 33), .mov (.t 5), none⟩,
    ⟨(some 34), .ixa 1 (.t 32) (.t 33), none⟩,
    ⟨(some 35), .load none (.t 34), none⟩,
    ⟨(some 36), .mov (.t 1), none⟩,
    ⟨(some 37), .mov (.t 5), none⟩,
    ⟨(some 38), .ixa 1 (.t 36) (.t 37), none⟩,
    ⟨(some 39), .load none (.t 38), none⟩,
    ⟨(some 40), .bin .gtr (.t 35) (.t 39), none⟩] []) <|
  .keep [0, 1, 5, 40] []) <|
  .cond (.t 40) (.seq (.seq (.reg [⟨(some 4), .mov (.c (.v (.int .i64 1))), none⟩] []) <|
  .keep [4] []) <|
  .ret) <|
  .skip) <|
  .keep [0, 1, 5] []) <|
  .seq (.reg [⟨(some 21), .mov (.t 5), none⟩,
    ⟨(some 22), .bin .sub (.t 21) (.c (.v (.int .i64 1))), none⟩,
    ⟨(some 5), .mov (.t 22), none⟩] []) <|
  .keep [0, 1, 5] []) <|
  .keep [0, 1, 5] []
def gantryref04_compared : CF := ⟨2, .seq (.seq (.reg [⟨(some 4), .mov (.c (.v (.int .i64 0))), none⟩] []) <|
  .keep [0, 1] []) <|
  .seq (.seq (.seq (.reg [⟨(some 6), .mov (.t 0), none⟩,
    ⟨(some 7), .len (.t 6), none⟩,
    ⟨(some 8), .mov (.t 1), none⟩,
    ⟨(some 9), .len (.t 8), none⟩,
    ⟨(some 10), .bin .lss (.t 7) (.t 9), none⟩] []) <|
  .keep [0, 1, 10] []) <|
  .cond (.t 10) (.seq (.seq (.reg [⟨(some 4), .mov (.c (.v (.int .i64 (-1)))), none⟩] []) <|
  .keep [4] []) <|
  .ret) <|
  .skip) <|
  .seq (.seq (.seq (.reg [⟨(some 11), .mov (.t 0), none⟩,
    ⟨(some 12), .len (.t 11), none⟩,
    ⟨(some 13), .mov (.t 1), none⟩,
    ⟨(some 14), .len (.t 13), none⟩,
    ⟨(some 15), .bin .gtr (.t 12) (.t 14), none⟩] []) <|
  .keep [0, 1, 15] []) <|
  .cond (.t 15) (.seq (.seq (.reg [⟨(some 4), .mov (.c (.v (.int .i64 1))), none⟩] []) <|
  .keep [4] []) <|
  .ret) <|
  .skip) <|
  .seq (.seq (.seq (.reg [⟨(some 16), .mov (.t 0), none⟩,
    ⟨(some 17), .len (.t 16), none⟩,
    ⟨(some 18), .bin .sub (.t 17) (.c (.v (.int .i64 1))), none⟩,
    ⟨(some 5), .mov (.t 18), none⟩] []) <|
  .keep [0, 1, 5] []) <|
  .seq (.blk 0 <|
  .seq (.keep [0, 1, 5] []) <|
  .loop gantryref04_compared_l0) <|
  .keep [] []) <|
  .seq (.seq (.reg [⟨(some 4), .mov (.c (.v (.int .i64 0))), none⟩] []) <|
  .keep [4] []) <|
  .ret, [.t 4]⟩

/- 122: gantry/gantryref04.minus -/
def gantryref04_minus_l0 : C :=
  .seq (.seq (.seq (.seq (.reg [⟨(some 9), .mov (.t 7), none⟩,
    ⟨(some 10), .mov (.t 0), none⟩,
    ⟨(some 11), .len (.t 10), none⟩,
    ⟨(some 12), .bin .lss (.t 9) (.t 11), none⟩] []) <|
  .keep [0, 1, 5, 6, 7, 12] [[32]]) <|
  .cond (.t 12) (.skip) <|
  .seq (.keep [5] [[32]]) <|
  .exit 0) <|
  .seq (.seq (.blk 1 <|
  .seq (.seq (.reg [⟨(some 15), .mov (.t 0), none⟩,
    ⟨(some 16), .mov (.t 7), none⟩,
    ⟨(some 17), .ixa 1 (.t 15) (.t 16), none⟩,
    ⟨(some 18), .load none (.t 17), none⟩,
    ⟨(some 19), .mov (.t 1), none⟩,
    ⟨(some 20), .mov (.t 7), none⟩,
    ⟨(some 21), .call n_gantryref04_digit [(.t 19), (.t 20)] false, none⟩,
    ⟨(some 22), .bin .sub (.t 18) (.t 21), none⟩,
    ⟨(some 23), .mov (.t 6), none⟩,
    ⟨(some 24), .bin .sub (.t 22) (.t 23), none⟩,
    ⟨(some 8), .mov (.t 24), none⟩] []) <|
  .keep [0, 1, 5, 7, 8] [[32]]) <|
  .seq (.seq (.reg [⟨(some 6), .mov (.c (.v (.int .i64 0))), none⟩] []) <|
  .keep [0, 1, 5, 6, 7, 8] [[32]]) <|
  .seq (.seq (.seq (.reg [⟨(some 25), .mov (.t 8), none⟩,
    ⟨(some 26), .bin .lss (.t 25) (.c (.v (.int .i64 0))), none⟩] []) <|
  .keep [0, 1, 5, 6, 7, 8, 26] [[32]]) <|
  .cond (.t 26) (.seq (.seq (.reg [⟨(some 27), .mov (.t 8), none⟩,
    ⟨(some 28), .bin .add (.t 27) (.c (.v (.int .i64 1000000000))), none⟩,
    ⟨(some 8), .mov (.t 28), none⟩] []) <|
  .keep [0, 1, 5, 7, 8] [[32]]) <|
  .seq (.reg [⟨(some 6), .mov (.c (.v (.int .i64 1))), none⟩] []) <|
  .keep [0, 1, 5, 6, 7, 8] [[32]]) <|
  .skip) <|
  .seq (.reg [⟨(some 29), .mov (.t 5), none⟩,
    ⟨(some 30), .mov (.t 8), none⟩,
    ⟨(some 31), .lit 1 1 [.v (.int .i64 0)] [(0, (.t 30))] true, none⟩,
    ⟨(some 32), .app 1 8 (.t 29) (.t 31) false, none⟩,
    ⟨(some 5), .mov (.t 32), none⟩] []) <|
  .keep [0, 1, 5, 6, 7] [[32]]) <|
  .keep [0, 1, 5, 6, 7] [[32]]) <|
  .seq (.reg [⟨(some 13), .mov (.t 7), none⟩,
    ⟨(some 14), .bin .add (.t 13) (.c (.v (.int .i64 1))), none⟩,
    ⟨(some 7), .mov (.t 14), none⟩] []) <|
  .keep [0, 1, 5, 6, 7] [[32]]) <|
  .keep [0, 1, 5, 6, 7] [[32]]
def gantryref04_minus : CF := ⟨2, .seq (.seq (.reg [⟨(some 4), .mov (.c (.z true)), none⟩] []) <|
  .keep [0, 1] []) <|
  .seq (.seq (.reg [⟨(some 5), .mov (.c (.z true)), none⟩] []) <|
  .keep [0, 1, 5] [[32]]) <|
  .seq (.seq (.reg [⟨(some 6), .mov (.c (.v (.int .i64 0))), none⟩] []) <|
  .keep [0, 1, 5, 6] [[32]]) <|
  .seq (.seq (.seq (.reg [⟨(some 7), .mov (.c (.v (.int .i64 0))), none⟩] []) <|
  .keep [0, 1, 5, 6, 7] [[32]]) <|
  .seq (.blk 0 <|
  .seq (.keep [0, 1, 5, 6, 7] [[32]]) <|
  .loop gantryref04_minus_l0) <|
  .keep [5] [[32]]) <|
  .seq (.seq (.reg [⟨(some 33), .mov (.t 5), none⟩,
    ⟨(some 4), .mov (.t 33), none⟩] []) <|
  .keep [4] [[32]]) <|
  .ret, [.t 4]⟩

/- 123: gantry/integer.Sign -/
def integer_Sign : CF := ⟨1, .seq (.seq (.reg [⟨(some 1), .box (.t 0), none⟩,
    ⟨(some 2), .mov (.c (.v (.int .i64 0))), none⟩] []) <|
  .keep [1] [[1]]) <|
  .seq (.seq (.blk 0 <|
  .seq (.seq (.reg [⟨(some 4), .fad 0 (.t 1), none⟩,
    ⟨(some 5), .load none (.t 4), none⟩,
    ⟨(some 3), .mov (.t 5), none⟩] []) <|
  .keep [1, 3] [[1]]) <|
  .cond (.t 3) (.seq (.seq (.reg [⟨(some 2), .mov (.c (.v (.int .i64 (-1)))), none⟩] []) <|
  .keep [2] []) <|
  .ret) <|
  .seq (.seq (.reg [⟨(some 7), .fad 1 (.t 1), none⟩,
    ⟨(some 8), .load none (.t 7), none⟩,
    ⟨(some 9), .len (.t 8), none⟩,
    ⟨(some 10), .bin .eql (.t 9) (.c (.v (.int .i64 0))), none⟩,
    ⟨(some 6), .mov (.t 10), none⟩] []) <|
  .keep [6] []) <|
  .cond (.t 6) (.seq (.seq (.reg [⟨(some 2), .mov (.c (.v (.int .i64 0))), none⟩] []) <|
  .keep [2] []) <|
  .ret) <|
  .skip) <|
  .keep [] []) <|
  .seq (.seq (.reg [⟨(some 2), .mov (.c (.v (.int .i64 1))), none⟩] []) <|
  .keep [2] []) <|
  .ret, [.t 2]⟩

/- 124: slices.IndexFunc[gantry/api.Poly,gantry/api.Rat] -/
def slices_IndexFunc_api_Poly_api_Rat_l0 : C :=
  .seq (.seq (.seq (.reg [⟨(some 9), .bin .lss (.t 8) (.t 7), none⟩] []) <|
  .keep [0, 1, 7, 8, 9] []) <|
  .seq (.cond (.t 9) (.skip) <|
  .seq (.keep [] []) <|
  .exit 0) <|
  .seq (.seq (.blk 1 <|
  .seq (.seq (.reg [⟨(some 10), .mov (.t 8), none⟩,
    ⟨(some 5), .mov (.t 10), none⟩] []) <|
  .keep [0, 1, 5, 7, 8] []) <|
  .seq (.seq (.reg [⟨(some 11), .mov (.t 1), none⟩,
    ⟨(some 12), .mov (.t 0), none⟩,
    ⟨(some 13), .mov (.t 5), none⟩,
    ⟨(some 14), .ixa 4 (.t 12) (.t 13), none⟩,
    ⟨(some 15), .load (some 4) (.t 14), none⟩,
    ⟨(some 16), .calv (.t 11) [(.t 15)], none⟩] []) <|
  .keep [0, 1, 5, 7, 8, 16] []) <|
  .cond (.t 16) (.seq (.seq (.reg [⟨(some 17), .mov (.t 5), none⟩,
    ⟨(some 4), .mov (.t 17), none⟩] []) <|
  .keep [4] []) <|
  .ret) <|
  .skip) <|
  .keep [0, 1, 7, 8] []) <|
  .seq (.reg [⟨(some 18), .bin .add (.t 8) (.c (.v (.int .i64 1))), none⟩,
    ⟨(some 8), .mov (.t 18), none⟩] []) <|
  .keep [0, 1, 7, 8] []) <|
  .keep [0, 1, 7, 8] []
def slices_IndexFunc_api_Poly_api_Rat : CF := ⟨2, .seq (.seq (.reg [⟨(some 4), .mov (.c (.v (.int .i64 0))), none⟩] []) <|
  .keep [0, 1] []) <|
  .seq (.seq (.seq (.reg [⟨(some 6), .mov (.t 0), none⟩,
    ⟨(some 7), .len (.t 6), none⟩,
    ⟨(some 8), .mov (.c (.v (.int .i64 0))), none⟩] []) <|
  .keep [0, 1, 7, 8] []) <|
  .seq (.blk 0 <|
  .seq (.keep [0, 1, 7, 8] []) <|
  .loop slices_IndexFunc_api_Poly_api_Rat_l0) <|
  .keep [] []) <|
  .seq (.seq (.reg [⟨(some 4), .mov (.c (.v (.int .i64 (-1)))), none⟩] []) <|
  .keep [4] []) <|
  .ret, [.t 4]⟩

/- 125: gantry/integer.Valid -/
def integer_Valid : CF := ⟨1, .seq (.seq (.reg [⟨(some 1), .box (.t 0), none⟩,
    ⟨(some 2), .mov (.c (.v (.bool false))), none⟩] []) <|
  .keep [1] [[1]]) <|
  .seq (.seq (.seq (.reg [⟨(some 3), .fad 1 (.t 1), none⟩,
    ⟨(some 4), .load none (.t 3), none⟩,
    ⟨(some 5), .call n_slices_ContainsFunc_int_int [(.t 4), (.f n_integer_Valid_1)] false, none⟩] []) <|
  .keep [1, 5] [[1]]) <|
  .cond (.t 5) (.seq (.seq (.reg [⟨(some 2), .mov (.c (.v (.bool false))), none⟩] []) <|
  .keep [2] []) <|
  .ret) <|
  .skip) <|
  .seq (.seq (.reg [⟨(some 6), .fad 1 (.t 1), none⟩,
    ⟨(some 7), .load none (.t 6), none⟩,
    ⟨(some 8), .len (.t 7), none⟩,
    ⟨(some 9), .bin .eql (.t 8) (.c (.v (.int .i64 0))), none⟩,
    ⟨(some 10), .mov (.t 9), none⟩,
    ⟨(some 11), .fad 0 (.t 1), (some (10, true))⟩,
    ⟨(some 12), .load none (.t 11), (some (10, true))⟩,
    ⟨(some 13), .un .not (.t 12), (some (10, true))⟩,
    ⟨(some 14), .pick (.t 10) (.t 13) (.c (.v (.bool false))), none⟩,
    ⟨(some 15), .mov (.t 14), none⟩,
    ⟨(some 16), .fad 1 (.t 1), (some (15, false))⟩,
    ⟨(some 17), .load none (.t 16), (some (15, false))⟩,
    ⟨(some 18), .len (.t 17), (some (15, false))⟩,
    ⟨(some 19), .bin .gtr (.t 18) (.c (.v (.int .i64 0))), (some (15, false))⟩,
    ⟨(some 20), .mov (.t 19), (some (15, false))⟩,
    ⟨(some 21), .fad 1 (.t 1), (some (20, true))⟩,
    ⟨(some 22), .load none (.t 21), (some (20, true))⟩,
    ⟨(some 23), .fad 1 (.t 1), (some (20, true))⟩,
    ⟨(some 24), .load none (.t 23), (some (20, true))⟩,
    ⟨(some 25), .len (.t 24), (some (20, true))⟩,
    ⟨(some 26), .bin .sub (.t 25) (.c (.v (.int .i64 1))), (some (20, true))⟩,
    ⟨(some 27), .ixa 1 (.t 22) (.t 26), (some (20, true))⟩,
    ⟨(some 28), .load none (.t 27), (some (20, true))⟩,
    ⟨(some 29), .bin .neq (.t 28) (.c (.v (.int .i64 0))), (some (20, true))⟩,
    ⟨(some 30), .pick (.t 20) (.t 29) (.c (.v (.bool false))), (some (15, false))⟩,
    ⟨(some 31), .pick (.t 15) (.c (.v (.bool true))) (.t 30), none⟩,
    ⟨(some 2), .mov (.t 31), none⟩] []) <|
  .keep [2] []) <|
  .ret, [.t 2]⟩

/- 126: gantry/gantryref04.tiny -/
def gantryref04_tiny : CF := ⟨1, .seq (.seq (.reg [⟨(some 2), .mov (.c (.v (.int .i64 0))), none⟩] []) <|
  .keep [0] []) <|
  .seq (.seq (.reg [⟨(some 3), .mov (.t 0), none⟩,
    ⟨(some 4), .call n_gantryref04_digit [(.t 3), (.c (.v (.int .i64 1)))] false, none⟩,
    ⟨(some 5), .bin .mul (.t 4) (.c (.v (.int .i64 1000000000))), none⟩,
    ⟨(some 6), .mov (.t 0), none⟩,
    ⟨(some 7), .call n_gantryref04_digit [(.t 6), (.c (.v (.int .i64 0)))] false, none⟩,
    ⟨(some 8), .bin .add (.t 5) (.t 7), none⟩,
    ⟨(some 2), .mov (.t 8), none⟩] []) <|
  .keep [2] []) <|
  .ret, [.t 2]⟩
end Go.AM

