/- Part 5 of the proof: a small machine, its soundness against the model, and what the program's functions compute on it. -/
import Derived.Test.YtecihganhcapoaaGreatDoorM4
import Derived.Test.YtecihganhcapoaaGreatDoorProg
import Derived.KernelRfl
set_option linter.unusedVariables false
set_option linter.unusedSimpArgs false
set_option maxRecDepth 100000
namespace Go.AM
open Go Go.Proofs


/- 37: gantry/gantryref01.Take -/
def gantryref01_Take : CF := ⟨2, .seq (.seq (.reg [⟨(some 4), .mov (.c (.z true)), none⟩] []) <|
  .keep [0, 1] []) <|
  .seq (.seq (.reg [⟨(some 5), .mov (.c (.z true)), none⟩] []) <|
  .keep [0, 1, 5] []) <|
  .seq (.seq (.reg [⟨(some 6), .mov (.t 5), none⟩,
    ⟨(some 7), .mov (.t 0), none⟩,
    ⟨(some 8), .mov (.t 0), none⟩,
    ⟨(some 9), .len (.t 8), none⟩,
    ⟨(some 10), .mov (.t 1), none⟩,
    ⟨(some 11), .mn [(.t 9), (.t 10)], none⟩,
    ⟨(some 12), .slc 1 (.t 7) none (some (.t 11)) none, none⟩,
    ⟨(some 13), .app 1 8 (.t 6) (.t 12) true, none⟩,
    ⟨(some 4), .mov (.t 13), none⟩] []) <|
  .keep [4] [[13]]) <|
  .ret, [.t 4]⟩

/- 38: gantry/integer.Valid -/
def integer_Valid : CF := ⟨1, .seq (.seq (.reg [⟨(some 1), .box (.t 0), none⟩,
    ⟨(some 2), .mov (.c (.v (.bool false))), none⟩] []) <|
  .keep [1] [[1]]) <|
  .seq (.seq (.seq (.reg [⟨(some 3), .fad 1 (.t 1), none⟩,
    ⟨(some 4), .load none (.t 3), none⟩,
    ⟨(some 5), .call n_slices_ContainsFunc_int_int [(.t 4), (.f n_integer_Valid_1)] false, none⟩] []) <|
  .keep [1, 5] [[1]]) <|
  .cond (.t 5) (.seq (.seq (.reg [⟨(some 2), .mov (.c (.v (.bool false))), none⟩] []) <|
  .keep [2] []) <|
  .ret) <|
  .skip) <|
  .seq (.seq (.reg [⟨(some 6), .fad 1 (.t 1), none⟩,
    ⟨(some 7), .load none (.t 6), none⟩,
    ⟨(some 8), .len (.t 7), none⟩,
    ⟨(some 9), .bin .eql (.t 8) (.c (.v (.int .i64 0))), none⟩,
    ⟨(some 10), .mov (.t 9), none⟩,
    ⟨(some 11), .fad 0 (.t 1), (some (10, true))⟩,
    ⟨(some 12), .load none (.t 11), (some (10, true))⟩,
    ⟨(some 13), .un .not (.t 12), (some (10, true))⟩,
    ⟨(some 14), .pick (.t 10) (.t 13) (.c (.v (.bool false))), none⟩,
    ⟨(some 15), .mov (.t 14), none⟩,
    ⟨(some 16), .fad 1 (.t 1), (some (15, false))⟩,
    ⟨(some 17), .load none (.t 16), (some (15, false))⟩,
    ⟨(some 18), .len (.t 17), (some (15, false))⟩,
    ⟨(some 19), .bin .gtr (.t 18) (.c (.v (.int .i64 0))), (some (15, false))⟩,
    ⟨(some 20), .mov (.t 19), (some (15, false))⟩,
    ⟨(some 21), .fad 1 (.t 1), (some (20, true))⟩,
    ⟨(some 22), .load none (.t 21), (some (20, true))⟩,
    ⟨(some 23), .fad 1 (.t 1), (some (20, true))⟩,
    ⟨(some 24), .load none (.t 23), (some (20, true))⟩,
    ⟨(some 25), .len (.t 24), (some (20, true))⟩,
    ⟨(some 26), .bin .sub (.t 25) (.c (.v (.int .i64 1))), (some (20, true))⟩,
    ⟨(some 27), .ixa 1 (.t 22) (.t 26), (some (20, true))⟩,
    ⟨(some 28), .load none (.t 27), (some (20, true))⟩,
    ⟨(some 29), .bin .neq (.t 28) (.c (.v (.int .i64 0))), (some (20, true))⟩,
    ⟨(some 30), .pick (.t 20) (.t 29) (.c (.v (.bool false))), (some (15, false))⟩,
    ⟨(some 31), .pick (.t 15) (.c (.v (.bool true))) (.t 30), none⟩,
    ⟨(some 2), .mov (.t 31), none⟩] []) <|
  .keep [2] []) <|
  .ret, [.t 2]⟩

/- 39: gantry/gantryref04.Valid -/
def gantryref04_Valid_l0 : C :=
  .seq (.seq (.seq (.seq (.reg [⟨(some 4), .mov (.t 3), none⟩,
    ⟨(some 5), .fad 1 (.t 1), none⟩,
    ⟨(some 6), .load none (.t 5), none⟩,
    ⟨(some 7), .len (.t 6), none⟩,
    ⟨(some 8), .bin .lss (.t 4) (.t 7), none⟩] []) <|
  .keep [1, 3, 8] [[1]]) <|
  .cond (.t 8) (.skip) <|
  .seq (.keep [1] [[1]]) <|
  .exit 0) <|
  .seq (.seq (.blk 1 <|
  .seq (.seq (.reg [⟨(some 11), .fad 1 (.t 1), none⟩,
    ⟨(some 12), .load none (.t 11), none⟩,
    ⟨(some 13), .mov (.t 3), none⟩,
    ⟨(some 14), .ixa 1 (.t 12) (.t 13), none⟩,
    ⟨(some 15), .load none (.t 14), none⟩,
    ⟨(some 16), .bin .lss (.t 15) (.c (.v (.int .i64 0))), none⟩,
    ⟨(some 17), .mov (.t 16), none⟩,
    ⟨(some 18), .fad 1 (.t 1), (some (17, false))⟩,
    ⟨(some 19), .load none (.t 18), (some (17, false))⟩,
    ⟨(some 20), .mov (.t 3), (some (17, false))⟩,
    ⟨(some 21), .ixa 1 (.t 19) (.t 20), (some (17, false))⟩,
    ⟨(some 22), .load none (.t 21), (some (17, false))⟩,
    ⟨(some 23), .bin .geq (.t 22) (.c (.v (.int .i64 1000000000))), (some (17, false))⟩,
    ⟨(some 24), .pick (.t 17) (.c (.v (.bool true))) (.t 23), none⟩] []) <|
  .keep [1, 3, 24] [[1]]) <|
  .cond (.t 24) (.seq (.seq (.reg [⟨(some 2), .mov (.c (.v (.bool false))), none⟩] []) <|
  .keep [2] []) <|
  .ret) <|
  .skip) <|
  .keep [1, 3] [[1]]) <|
  .seq (.reg [⟨(some 9), .mov (.t 3), none⟩,
    ⟨(some 10), .bin .add (.t 9) (.c (.v (.int .i64 1))), none⟩,
    ⟨(some 3), .mov (.t 10), none⟩] []) <|
  .keep [1, 3] [[1]]) <|
  .keep [1, 3] [[1]]
def gantryref04_Valid : CF := ⟨1, .seq (.seq (.reg [⟨(some 1), .box (.t 0), none⟩,
    ⟨(some 2), .mov (.c (.v (.bool false))), none⟩] []) <|
  .keep [1] [[1]]) <|
  .seq (.seq (.seq (.reg [⟨(some 3), .mov (.c (.v (.int .i64 0))), none⟩] []) <|
  .keep [1, 3] [[1]]) <|
  .seq (.blk 0 <|
  .seq (.keep [1, 3] [[1]]) <|
  .loop gantryref04_Valid_l0) <|
  .keep [1] [[1]]) <|
  .seq (.seq (.seq (.reg [⟨(some 25), .fad 1 (.t 1), none⟩,
    ⟨(some 26), .load none (.t 25), none⟩,
    ⟨(some 27), .len (.t 26), none⟩,
    ⟨(some 28), .bin .eql (.t 27) (.c (.v (.int .i64 0))), none⟩] []) <|
  .keep [1, 28] [[1]]) <|
  .cond (.t 28) (.seq (.seq (.reg [⟨(some 29), .fad 0 (.t 1), none⟩,
    ⟨(some 30), .load none (.t 29), none⟩,
    ⟨(some 31), .un .not (.t 30), none⟩,
    ⟨(some 2), .mov (.t 31), none⟩] []) <|
  .keep [2] []) <|
  .ret) <|
  .skip) <|
  .seq (.seq (.reg [⟨(some 32), .fad 1 (.t 1), none⟩,
    ⟨(some 33), .load none (.t 32), none⟩,
    ⟨(some 34), .fad 1 (.t 1), none⟩,
    ⟨(some 35), .load none (.t 34), none⟩,
    ⟨(some 36), .len (.t 35), none⟩,
    ⟨(some 37), .bin .sub (.t 36) (.c (.v (.int .i64 1))), none⟩,
    ⟨(some 38), .ixa 1 (.t 33) (.t 37), none⟩,
    ⟨(some 39), .load none (.t 38), none⟩,
    ⟨(some 40), .bin .neq (.t 39) (.c (.v (.int .i64 0))), none⟩,
    ⟨(some 2), .mov (.t 40), none⟩] []) <|
  .keep [2] []) <|
  .ret, [.t 2]⟩

/- 40: gantry/integer.Small -/
def integer_Small_l0 : C :=
  .seq (.seq (.seq (.seq (.reg [⟨(some 27), .mov (.t 5), none⟩,
    ⟨(some 28), .bin .geq (.t 27) (.c (.v (.int .i64 0))), none⟩] []) <|
  .keep [1, 4, 5, 28] [[1]]) <|
  .cond (.t 28) (.skip) <|
  .seq (.keep [1, 4] [[1]]) <|
  .exit 0) <|
  .seq (.seq (.blk 1 <|
  .seq (.reg [⟨(some 31), .mov (.t 4), none⟩,
    ⟨(some 32), .bin .mul (.t 31) (.c (.v (.int .u64 1000000000))), none⟩,
    ⟨(some 33), .fad 1 (.t 1), none⟩,
    ⟨(some 34), .load none (.t 33), none⟩,
    ⟨(some 35), .mov (.t 5), none⟩,
    ⟨(some 36), .ixa 1 (.t 34) (.t 35), none⟩,
    ⟨(some 37), .load none (.t 36), none⟩,
    ⟨(some 38), .conv (.int .u64) (.t 37), none⟩,
    ⟨(some 39), .bin .add (.t 32) (.t 38), none⟩,
    ⟨(some 4), .mov (.t 39), none⟩] []) <|
  .keep [1, 4, 5] [[1]]) <|
  .keep [1, 4, 5] [[1]]) <|
  .seq (.reg [⟨(some 29), .mov (.t 5), none⟩,
    ⟨(some 30), .bin .sub (.t 29) (.c (.v (.int .i64 1))), none⟩,
    ⟨(some 5), .mov (.t 30), none⟩] []) <|
  .keep [1, 4, 5] [[1]]) <|
  .keep [1, 4, 5] [[1]]
def integer_Small : CF := ⟨1, .seq (.seq (.reg [⟨(some 1), .box (.t 0), none⟩,
    ⟨(some 2), .mov (.c (.v (.int .i64 0))), none⟩,
    ⟨(some 3), .mov (.c (.v (.bool false))), none⟩] []) <|
  .keep [1] [[1]]) <|
  .seq (.seq (.seq (.reg [⟨(some 6), .fad 1 (.t 1), none⟩,
    ⟨(some 7), .load none (.t 6), none⟩,
    ⟨(some 8), .len (.t 7), none⟩,
    ⟨(some 9), .bin .gtr (.t 8) (.c (.v (.int .i64 3))), none⟩,
    ⟨(some 10), .mov (.t 9), none⟩,
    ⟨(some 11), .fad 1 (.t 1), (some (10, false))⟩,
    ⟨(some 12), .load none (.t 11), (some (10, false))⟩,
    ⟨(some 13), .len (.t 12), (some (10, false))⟩,
    ⟨(some 14), .bin .eql (.t 13) (.c (.v (.int .i64 3))), (some (10, false))⟩,
    ⟨(some 15), .mov (.t 14), (some (10, false))⟩,
    ⟨(some 16), .fad 1 (.t 1), (some (15, true))⟩,
    ⟨(some 17), .load none (.t 16), (some (15, true))⟩,
    ⟨(some 18), .ixa 1 (.t 17) (.c (.v (.int .i64 2))), (some (15, true))⟩,
    ⟨(some 19), .load none (.t 18), (some (15, true))⟩,
    ⟨(some 20), .bin .gtr (.t 19) (.c (.v (.int .i64 9))), (some (15, true))⟩,
    ⟨(some 21), .pick (.t 15) (.t 20) (.c (.v (.bool false))), (some (10, false))⟩,
    ⟨(some 22), .pick (.t 10) (.c (.v (.bool true))) (.t 21), none⟩] []) <|
  .keep [1, 22] [[1]]) <|
  .cond (.t 22) (.seq (.seq (.reg [⟨(some 2), .mov (.c (.v (.int .i64 0))), none⟩,
    ⟨(some 3), .mov (.c (.v (.bool false))), none⟩] []) <|
  .keep [2, 3] []) <|
  .ret) <|
  .skip) <|
  .seq (.seq (.reg [⟨(some 4), .mov (.c (.v (.int .u64 0))), none⟩] []) <|
  .keep [1, 4] [[1]]) <|
  .seq (.seq (.seq (.reg [⟨(some 23), .fad 1 (.t 1), none⟩,
    ⟨(some 24), .load none (.t 23), none⟩,
    ⟨(some 25), .len (.t 24), none⟩,
    ⟨(some 26), .bin .sub (.t 25) (.c (.v (.int .i64 1))), none⟩,
    ⟨(some 5), .mov (.t 26), none⟩] []) <|
  .keep [1, 4, 5] [[1]]) <|
  .seq (.blk 0 <|
  .seq (.keep [1, 4, 5] [[1]]) <|
  .loop integer_Small_l0) <|
  .keep [1, 4] [[1]]) <|
  .seq (.seq (.blk 2 <|
  .seq (.seq (.reg [⟨(some 41), .fad 0 (.t 1), none⟩,
    ⟨(some 42), .load none (.t 41), none⟩,
    ⟨(some 43), .mov (.t 42), none⟩,
    ⟨(some 44), .mov (.t 4), (some (43, true))⟩,
    ⟨(some 45), .bin .leq (.t 44) (.c (.v (.int .u64 9223372036854775808))), (some (43, true))⟩,
    ⟨(some 46), .pick (.t 43) (.t 45) (.c (.v (.bool false))), none⟩,
    ⟨(some 40), .mov (.t 46), none⟩] []) <|
  .keep [1, 4, 40] [[1]]) <|
  .cond (.t 40) (.seq (.seq (.reg [⟨(some 47), .mov (.t 4), none⟩,
    ⟨(some 48), .un .neg (.t 47), none⟩,
    ⟨(some 49), .conv (.int .i64) (.t 48), none⟩,
    ⟨(some 2), .mov (.t 49), none⟩,
    ⟨(some 3), .mov (.c (.v (.bool true))), none⟩] []) <|
  .keep [2, 3] []) <|
  .ret) <|
  .seq (.seq (.reg [⟨(some 51), .fad 0 (.t 1), none⟩,
    ⟨(some 52), .load none (.t 51), none⟩,
    ⟨(some 53), .un .not (.t 52), none⟩,
    ⟨(some 54), .mov (.t 53), none⟩,
    ⟨(some 55), .mov (.t 4), (some (54, true))⟩,
    ⟨(some 56), .bin .lss (.t 55) (.c (.v (.int .u64 9223372036854775808))), (some (54, true))⟩,
    ⟨(some 57), .pick (.t 54) (.t 56) (.c (.v (.bool false))), none⟩,
    ⟨(some 50), .mov (.t 57), none⟩] []) <|
  .keep [4, 50] []) <|
  .cond (.t 50) (.seq (.seq (.reg [⟨(some 58), .mov (.t 4), none⟩,
    ⟨(some 59), .conv (.int .i64) (.t 58), none⟩,
    ⟨(some 2), .mov (.t 59), none⟩,
    ⟨(some 3), .mov (.c (.v (.bool true))), none⟩] []) <|
  .keep [2, 3] []) <|
  .ret) <|
  .skip) <|
  .keep [] []) <|
  .seq (.seq (.reg [⟨(some 2), .mov (.c (.v (.int .i64 0))), none⟩,
    ⟨(some 3), .mov (.c (.v (.bool false))), none⟩] []) <|
  .keep [2, 3] []) <|
  .ret, [.t 2, .t 3]⟩

/- 41: gantry/gantryref04.Small -/
def gantryref04_Small_l0 : C :=
  .seq (.seq (.seq (.seq (.reg [⟨(some 20), .mov (.t 5), none⟩,
    ⟨(some 21), .bin .geq (.t 20) (.c (.v (.int .i64 0))), none⟩] []) <|
  .keep [1, 4, 5, 21] [[1]]) <|
  .cond (.t 21) (.skip) <|
  .seq (.keep [4] []) <|
  .exit 0) <|
  .seq (.seq (.blk 1 <|
  .seq (.seq (.reg [⟨(some 24), .fad 0 (.t 1), none⟩,
    ⟨(some 25), .load none (.t 24), none⟩] []) <|
  .keep [1, 4, 5, 25] [[1]]) <|
  .cond (.t 25) (.seq (.reg [⟨(some 26), .mov (.t 4), none⟩,
    ⟨(some 27), .bin .mul (.t 26) (.c (.v (.int .i64 1000000000))), none⟩,
    ⟨(some 28), .fad 1 (.t 1), none⟩,
    ⟨(some 29), .load none (.t 28), none⟩,
    ⟨(some 30), .mov (.t 5), none⟩,
    ⟨(some 31), .ixa 1 (.t 29) (.t 30), none⟩,
    ⟨(some 32), .load none (.t 31), none⟩,
    ⟨(some 33), .bin .sub (.t 27) (.t 32), none⟩,
    ⟨(some 4), .mov (.t 33), none⟩] []) <|
  .keep [1, 4, 5] [[1]]) <|
  .seq (.reg [⟨(some 34), .mov (.t 4), none⟩,
    ⟨(some 35), .bin .mul (.t 34) (.c (.v (.int .i64 1000000000))), none⟩,
    ⟨(some 36), .fad 1 (.t 1), none⟩,
    ⟨(some 37), .load none (.t 36), none⟩,
    ⟨(some 38), .mov (.t 5), none⟩,
    ⟨(some 39), .ixa 1 (.t 37) (.t 38), none⟩,
    ⟨(some 40), .load none (.t 39), none⟩,
    ⟨(some 41), .bin .add (.t 35) (.t 40), none⟩,
    ⟨(some 4), .mov (.t 41), none⟩] []) <|
  .keep [1, 4, 5] [[1]]) <|
  .keep [1, 4, 5] [[1]]) <|
  .seq (.reg [⟨(some 22), .mov (.t 5), none⟩,
    ⟨(some 23), .bin .sub (.t 22) (.c (.v (.int .i64 1))), none⟩,
    ⟨(some 5), .mov (.t 23), none⟩] []) <|
  .keep [1, 4, 5] [[1]]) <|
  .keep [1, 4, 5] [[1]]
def gantryref04_Small : CF := ⟨1, .seq (.seq (.reg [⟨(some 1), .box (.t 0), none⟩,
    ⟨(some 2), .mov (.c (.v (.int .i64 0))), none⟩,
    ⟨(some 3), .mov (.c (.v (.bool false))), none⟩] []) <|
  .keep [1] [[1]]) <|
  .seq (.seq (.seq (.reg [⟨(some 6), .load (some 2) (.t 1), none⟩,
    ⟨(some 7), .call n_gantryref04_Of [(.c (.v (.int .i64 9223372036854775807)))] false, none⟩,
    ⟨(some 8), .call n_gantryref04_Compare [(.t 6), (.t 7)] false, none⟩,
    ⟨(some 9), .bin .gtr (.t 8) (.c (.v (.int .i64 0))), none⟩,
    ⟨(some 10), .mov (.t 9), none⟩,
    ⟨(some 11), .load (some 2) (.t 1), (some (10, false))⟩,
    ⟨(some 12), .call n_gantryref04_Of [(.c (.v (.int .i64 (-9223372036854775808))))] false, (some (10, false))⟩,
    ⟨(some 13), .call n_gantryref04_Compare [(.t 11), (.t 12)] false, (some (10, false))⟩,
    ⟨(some 14), .bin .lss (.t 13) (.c (.v (.int .i64 0))), (some (10, false))⟩,
    ⟨(some 15), .pick (.t 10) (.c (.v (.bool true))) (.t 14), none⟩] []) <|
  .keep [1, 15] [[1]]) <|
  .cond (.t 15) (.seq (.seq (.reg [⟨(some 2), .mov (.c (.v (.int .i64 0))), none⟩,
    ⟨(some 3), .mov (.c (.v (.bool false))), none⟩] []) <|
  .keep [2, 3] []) <|
  .ret) <|
  .skip) <|
  .seq (.seq (.reg [⟨(some 4), .mov (.c (.v (.int .i64 0))), none⟩] []) <|
  .keep [1, 4] [[1]]) <|
  .seq (.seq (.seq (.reg [⟨(some 16), .fad 1 (.t 1), none⟩,
    ⟨(some 17), .load none (.t 16), none⟩,
    ⟨(some 18), .len (.t 17), none⟩,
    ⟨(some 19), .bin .sub (.t 18) (.c (.v (.int .i64 1))), none⟩,
    ⟨(some 5), .mov (.t 19), none⟩] []) <|
  .keep [1, 4, 5] [[1]]) <|
  .seq (.blk 0 <|
  .seq (.keep [1, 4, 5] [[1]]) <|
  .loop gantryref04_Small_l0) <|
  .keep [4] []) <|
  .seq (.seq (.reg [⟨(some 42), .mov (.t 4), none⟩,
    ⟨(some 2), .mov (.t 42), none⟩,
    ⟨(some 3), .mov (.c (.v (.bool true))), none⟩] []) <|
  .keep [2, 3] []) <|
  .ret, [.t 2, .t 3]⟩

/- 43: gantry/integer.Parse -/
def integer_Parse_l0 : C :=
  .seq (.seq (.seq (.seq (.reg [⟨(some 40), .mov (.t 4), none⟩,
    ⟨(some 41), .lns (.t 40), none⟩,
    ⟨(some 42), .bin .gtr (.t 41) (.c (.v (.int .i64 0))), none⟩] []) <|
  .keep [2, 4, 5, 6, 42] [[2], [57]]) <|
  .cond (.t 42) (.skip) <|
  .seq (.keep [2, 5, 6] [[2], [57]]) <|
  .exit 0) <|
  .seq (.blk 1 <|
  .seq (.seq (.reg [⟨(some 43), .mov (.t 4), none⟩,
    ⟨(some 44), .lns (.t 43), none⟩,
    ⟨(some 45), .bin .sub (.t 44) (.c (.v (.int .i64 9))), none⟩,
    ⟨(some 46), .mx [(.c (.v (.int .i64 0))), (.t 45)], none⟩,
    ⟨(some 7), .mov (.t 46), none⟩] []) <|
  .keep [2, 4, 5, 6, 7] [[2], [57]]) <|
  .seq (.seq (.reg [⟨(some 48), .mov (.t 4), none⟩,
    ⟨(some 49), .mov (.t 7), none⟩,
    ⟨(some 50), .sls (.t 48) (some (.t 49)) none, none⟩,
    ⟨(some 51), .call n_strconv_Atoi [(.t 50)] false, none⟩,
    ⟨(some 47), .mov (.t 51), none⟩,
    ⟨(some 52), .ext (.t 47) 0, none⟩,
    ⟨(some 53), .ext (.t 47) 1, none⟩,
    ⟨(some 8), .mov (.t 52), none⟩,
    ⟨(some 9), .mov (.t 53), none⟩] []) <|
  .keep [2, 4, 5, 6, 7, 8] [[2], [57]]) <|
  .seq (.reg [⟨(some 54), .mov (.t 6), none⟩,
    ⟨(some 55), .mov (.t 8), none⟩,
    ⟨(some 56), .lit 1 1 [.v (.int .i64 0)] [(0, (.t 55))] true, none⟩,
    ⟨(some 57), .app 1 8 (.t 54) (.t 56) false, none⟩,
    ⟨(some 58), .mov (.t 4), none⟩,
    ⟨(some 59), .mov (.t 7), none⟩,
    ⟨(some 60), .sls (.t 58) none (some (.t 59)), none⟩,
    ⟨(some 6), .mov (.t 57), none⟩,
    ⟨(some 4), .mov (.t 60), none⟩] []) <|
  .keep [2, 4, 5, 6] [[2], [57]]) <|
  .keep [2, 4, 5, 6] [[2], [57]]) <|
  .keep [2, 4, 5, 6] [[2], [57]]
def integer_Parse : CF := ⟨1, .seq (.seq (.reg [⟨(some 2), .new [.v (.bool false), .z true], none⟩,
    ⟨(some 3), .mov (.c (.v (.int .i64 0))), none⟩] []) <|
  .keep [0, 2] [[2]]) <|
  .seq (.seq (.seq (.reg [⟨(some 10), .mov (.t 0), none⟩,
    ⟨(some 11), .lns (.t 10), none⟩,
    ⟨(some 12), .bin .gtr (.t 11) (.c (.v (.int .i64 65536))), none⟩] []) <|
  .keep [0, 2, 12] [[2]]) <|
  .cond (.t 12) (.seq (.seq (.reg [⟨(some 13), .build [.v (.bool false), .z true] [], none⟩,
    ⟨none, .store 2 (.t 2) (.t 13), none⟩,
    ⟨(some 3), .mov (.c (.v (.int .i64 4))), none⟩] []) <|
  .keep [2, 3] [[2]]) <|
  .ret) <|
  .skip) <|
  .seq (.seq (.reg [⟨(some 15), .mov (.t 0), none⟩,
    ⟨(some 16), .call n_strings_CutPrefix [(.t 15), (.c (.v (.string ⟨#[45]⟩)))] false, none⟩,
    ⟨(some 14), .mov (.t 16), none⟩,
    ⟨(some 17), .ext (.t 14) 0, none⟩,
    ⟨(some 18), .ext (.t 14) 1, none⟩,
    ⟨(some 4), .mov (.t 17), none⟩,
    ⟨(some 5), .mov (.t 18), none⟩] []) <|
  .keep [2, 4, 5] [[2]]) <|
  .seq (.seq (.seq (.reg [⟨(some 19), .mov (.t 4), none⟩,
    ⟨(some 20), .bin .eql (.t 19) (.c (.v (.string ⟨#[]⟩))), none⟩,
    ⟨(some 21), .mov (.t 20), none⟩,
    ⟨(some 22), .mov (.t 4), (some (21, false))⟩,
    ⟨(some 23), .call n_strings_Trim [(.t 22), (.c (.v (.string ⟨#[48, 49, 50, 51, 52, 53, 54, 55, 56, 57]⟩)))] false, (some (21, false))⟩,
    ⟨(some 24), .bin .neq (.t 23) (.c (.v (.string ⟨#[]⟩))), (some (21, false))⟩,
    ⟨(some 25), .pick (.t 21) (.c (.v (.bool true))) (.t 24), none⟩,
    ⟨(some 26), .mov (.t 25), none⟩,
    ⟨(some 27), .mov (.t 4), (some (26, false))⟩,
    ⟨(some 28), .ixs (.t 27) (.c (.v (.int .i64 0))), (some (26, false))⟩,
    ⟨(some 29), .bin .eql (.t 28) (.c (.v (.int .u8 48))), (some (26, false))⟩,
    ⟨(some 30), .mov (.t 29), (some (26, false))⟩,
    ⟨(some 31), .mov (.t 5), (some (30, true))⟩,
    ⟨(some 32), .mov (.t 31), (some (30, true))⟩,
    ⟨(some 33), .mov (.t 4), (some (32, false))⟩,
    ⟨(some 34), .lns (.t 33), (some (32, false))⟩,
    ⟨(some 35), .bin .gtr (.t 34) (.c (.v (.int .i64 1))), (some (32, false))⟩,
    ⟨(some 36), .pick (.t 32) (.c (.v (.bool true))) (.t 35), (some (30, true))⟩,
    ⟨(some 37), .pick (.t 30) (.t 36) (.c (.v (.bool false))), (some (26, false))⟩,
    ⟨(some 38), .pick (.t 26) (.c (.v (.bool true))) (.t 37), none⟩] []) <|
  .keep [2, 4, 5, 38] [[2]]) <|
  .cond (.t 38) (.seq (.seq (.reg [⟨(some 39), .build [.v (.bool false), .z true] [], none⟩,
    ⟨none, .store 2 (.t 2) (.t 39), none⟩,
    ⟨(some 3), .mov (.c (.v (.int .i64 2))), none⟩] []) <|
  .keep [2, 3] [[2]]) <|
  .ret) <|
  .skip) <|
  .seq (.seq (.reg [⟨(some 6), .mov (.c (.z true)), none⟩] []) <|
  .keep [2, 4, 5, 6] [[2], [57]]) <|
  .seq (.seq (.blk 0 <|
  .seq (.keep [2, 4, 5, 6] [[2], [57]]) <|
  .loop integer_Parse_l0) <|
  .keep [2, 5, 6] [[2], [57]]) <|
  .seq (.seq (.frz 6) <|
  .seq (.reg [⟨(some 61), .mov (.t 5), none⟩,
    ⟨(some 62), .mov (.t 6), none⟩,
    ⟨(some 63), .call n_integer_of [(.t 61), (.t 62)] false, none⟩,
    ⟨none, .store 2 (.t 2) (.t 63), none⟩,
    ⟨(some 3), .mov (.c (.v (.int .i64 0))), none⟩] []) <|
  .keep [2, 3] [[2]]) <|
  .ret, [.cell 2 (some 2), .t 3]⟩

/- 44: gantry/integer.Encode -/
def integer_Encode : CF := ⟨1, .seq (.seq (.reg [⟨(some 1), .box (.t 0), none⟩,
    ⟨(some 2), .mov (.c (.z true)), none⟩] []) <|
  .keep [1] [[1]]) <|
  .seq (.seq (.reg [⟨(some 3), .load (some 2) (.t 1), none⟩,
    ⟨(some 4), .call n_integer_Sign [(.t 3)] false, none⟩,
    ⟨(some 5), .lit 1 1 [.v (.int .i64 0)] [(0, (.t 4))] false, none⟩,
    ⟨(some 6), .fad 1 (.t 1), none⟩,
    ⟨(some 7), .load none (.t 6), none⟩,
    ⟨(some 8), .app 1 8 (.t 5) (.t 7) true, none⟩,
    ⟨(some 9), .call n_wire_Ints [(.t 8)] false, none⟩,
    ⟨(some 2), .mov (.t 9), none⟩] []) <|
  .keep [2] []) <|
  .ret, [.t 2]⟩

/- 45: gantry/integer.Decode -/
def integer_Decode : CF := ⟨1, .seq (.seq (.reg [⟨(some 2), .new [.v (.bool false), .z true], none⟩,
    ⟨(some 3), .mov (.c (.v (.int .i64 0))), none⟩,
    ⟨(some 4), .mov (.c (.v (.int .i64 0))), none⟩] []) <|
  .keep [0, 2] [[2]]) <|
  .seq (.seq (.reg [⟨(some 10), .mov (.t 0), none⟩,
    ⟨(some 11), .call n_wire_GetInts [(.t 10)] false, none⟩,
    ⟨(some 9), .mov (.t 11), none⟩,
    ⟨(some 12), .ext (.t 9) 0, none⟩,
    ⟨(some 13), .ext (.t 9) 1, none⟩,
    ⟨(some 14), .ext (.t 9) 2, none⟩,
    ⟨(some 5), .mov (.t 12), none⟩,
    ⟨(some 6), .mov (.t 13), none⟩,
    ⟨(some 7), .mov (.t 14), none⟩] []) <|
  .keep [2, 5, 6, 7] [[2]]) <|
  .seq (.seq (.seq (.reg [⟨(some 15), .mov (.t 7), none⟩,
    ⟨(some 16), .bin .neq (.t 15) (.c (.v (.int .i64 0))), none⟩] []) <|
  .keep [2, 5, 6, 7, 16] [[2]]) <|
  .cond (.t 16) (.seq (.seq (.reg [⟨(some 17), .build [.v (.bool false), .z true] [], none⟩,
    ⟨(some 18), .mov (.t 7), none⟩,
    ⟨none, .store 2 (.t 2) (.t 17), none⟩,
    ⟨(some 3), .mov (.c (.v (.int .i64 0))), none⟩,
    ⟨(some 4), .mov (.t 18), none⟩] []) <|
  .keep [2, 3, 4] [[2]]) <|
  .ret) <|
  .skip) <|
  .seq (.seq (.seq (.reg [⟨(some 19), .mov (.t 5), none⟩,
    ⟨(some 20), .len (.t 19), none⟩,
    ⟨(some 21), .bin .eql (.t 20) (.c (.v (.int .i64 0))), none⟩] []) <|
  .keep [2, 5, 6, 21] [[2]]) <|
  .cond (.t 21) (.seq (.seq (.reg [⟨(some 22), .build [.v (.bool false), .z true] [], none⟩,
    ⟨none, .store 2 (.t 2) (.t 22), none⟩,
    ⟨(some 3), .mov (.c (.v (.int .i64 0))), none⟩,
    ⟨(some 4), .mov (.c (.v (.int .i64 2))), none⟩] []) <|
  .keep [2, 3, 4] [[2]]) <|
  .ret) <|
  .skip) <|
  .seq (.seq (.reg [⟨(some 23), .mov (.t 5), none⟩,
    ⟨(some 24), .ixa 1 (.t 23) (.c (.v (.int .i64 0))), none⟩,
    ⟨(some 25), .load none (.t 24), none⟩,
    ⟨(some 26), .bin .eql (.t 25) (.c (.v (.int .i64 (-1)))), none⟩,
    ⟨(some 27), .mov (.t 5), none⟩,
    ⟨(some 28), .slc 1 (.t 27) (some (.c (.v (.int .i64 1)))) none none, none⟩,
    ⟨(some 29), .call n_slices_Clone_int_int [(.t 28)] false, none⟩,
    ⟨(some 30), .build [.v (.bool false), .z true] [(0, 1, (.t 26)), (1, 1, (.t 29))], none⟩,
    ⟨(some 8), .new [.v (.bool false), .z true], none⟩,
    ⟨none, .store 2 (.t 8) (.t 30), none⟩] []) <|
  .keep [2, 5, 6, 8] [[2], [8]]) <|
  .seq (.seq (.seq (.reg [⟨(some 31), .load (some 2) (.t 8), none⟩,
    ⟨(some 32), .call n_integer_Valid [(.t 31)] false, none⟩,
    ⟨(some 33), .un .not (.t 32), none⟩,
    ⟨(some 34), .mov (.t 33), none⟩,
    ⟨(some 35), .load (some 2) (.t 8), (some (34, false))⟩,
    ⟨(some 36), .call n_integer_Sign [(.t 35)] false, (some (34, false))⟩,
    ⟨(some 37), .mov (.t 5), (some (34, false))⟩,
    ⟨(some 38), .ixa 1 (.t 37) (.c (.v (.int .i64 0))), (some (34, false))⟩,
    ⟨(some 39), .load none (.t 38), (some (34, false))⟩,
    ⟨(some 40), .bin .neq (.t 36) (.t 39), (some (34, false))⟩,
    ⟨(some 41), .pick (.t 34) (.c (.v (.bool true))) (.t 40), none⟩] []) <|
  .keep [2, 6, 8, 41] [[2], [8]]) <|
  .cond (.t 41) (.seq (.seq (.reg [⟨(some 42), .build [.v (.bool false), .z true] [], none⟩,
    ⟨none, .store 2 (.t 2) (.t 42), none⟩,
    ⟨(some 3), .mov (.c (.v (.int .i64 0))), none⟩,
    ⟨(some 4), .mov (.c (.v (.int .i64 2))), none⟩] []) <|
  .keep [2, 3, 4] [[2]]) <|
  .ret) <|
  .skip) <|
  .seq (.seq (.reg [⟨(some 43), .load (some 2) (.t 8), none⟩,
    ⟨(some 44), .mov (.t 6), none⟩,
    ⟨none, .store 2 (.t 2) (.t 43), none⟩,
    ⟨(some 3), .mov (.t 44), none⟩,
    ⟨(some 4), .mov (.c (.v (.int .i64 0))), none⟩] []) <|
  .keep [2, 3, 4] [[2]]) <|
  .ret, [.cell 2 (some 2), .t 3, .t 4]⟩

/- 46: gantry/gantryref01.Few -/
def gantryref01_Few : CF := ⟨2, .seq (.seq (.reg [⟨(some 4), .mov (.c (.z true)), none⟩] []) <|
  .keep [0, 1] []) <|
  .seq (.seq (.reg [⟨(some 5), .mov (.c (.z true)), none⟩] []) <|
  .keep [0, 1, 5] []) <|
  .seq (.seq (.reg [⟨(some 6), .mov (.t 5), none⟩,
    ⟨(some 7), .mov (.t 0), none⟩,
    ⟨(some 8), .mov (.t 0), none⟩,
    ⟨(some 9), .len (.t 8), none⟩,
    ⟨(some 10), .mov (.t 1), none⟩,
    ⟨(some 11), .mn [(.t 9), (.t 10)], none⟩,
    ⟨(some 12), .slc 1 (.t 7) none (some (.t 11)) none, none⟩,
    ⟨(some 13), .app 1 1 (.t 6) (.t 12) true, none⟩,
    ⟨(some 4), .mov (.t 13), none⟩] []) <|
  .keep [4] [[13]]) <|
  .ret, [.t 4]⟩

/- 47: gantry/gantryref04.Text -/
def gantryref04_Text_l0 : C :=
  .seq (.seq (.seq (.seq (.reg [⟨(some 33), .mov (.t 5), none⟩,
    ⟨(some 34), .lns (.t 33), none⟩,
    ⟨(some 35), .bin .lss (.t 34) (.c (.v (.int .i64 9))), none⟩] []) <|
  .keep [1, 3, 4, 5, 35] [[1]]) <|
  .cond (.t 35) (.skip) <|
  .seq (.keep [1, 3, 4, 5] [[1]]) <|
  .exit 2) <|
  .seq (.blk 3 <|
  .seq (.reg [⟨(some 36), .mov (.t 5), none⟩,
    ⟨(some 37), .bin .add (.c (.v (.string ⟨#[48]⟩))) (.t 36), none⟩,
    ⟨(some 5), .mov (.t 37), none⟩] []) <|
  .keep [1, 3, 4, 5] [[1]]) <|
  .keep [1, 3, 4, 5] [[1]]) <|
  .keep [1, 3, 4, 5] [[1]]
def gantryref04_Text_l1 : C :=
  .seq (.seq (.seq (.seq (.reg [⟨(some 23), .mov (.t 4), none⟩,
    ⟨(some 24), .bin .geq (.t 23) (.c (.v (.int .i64 0))), none⟩] []) <|
  .keep [1, 3, 4, 24] [[1]]) <|
  .cond (.t 24) (.skip) <|
  .seq (.keep [1, 3] [[1]]) <|
  .exit 0) <|
  .seq (.seq (.blk 1 <|
  .seq (.seq (.reg [⟨(some 27), .fad 1 (.t 1), none⟩,
    ⟨(some 28), .load none (.t 27), none⟩,
    ⟨(some 29), .mov (.t 4), none⟩,
    ⟨(some 30), .ixa 1 (.t 28) (.t 29), none⟩,
    ⟨(some 31), .load none (.t 30), none⟩,
    ⟨(some 32), .call n_gantryref04_decimal [(.t 31)] false, none⟩,
    ⟨(some 5), .mov (.t 32), none⟩] []) <|
  .keep [1, 3, 4, 5] [[1]]) <|
  .seq (.seq (.blk 2 <|
  .seq (.keep [1, 3, 4, 5] [[1]]) <|
  .loop gantryref04_Text_l0) <|
  .keep [1, 3, 4, 5] [[1]]) <|
  .seq (.reg [⟨(some 38), .mov (.t 3), none⟩,
    ⟨(some 39), .mov (.t 5), none⟩,
    ⟨(some 40), .bin .add (.t 38) (.t 39), none⟩,
    ⟨(some 3), .mov (.t 40), none⟩] []) <|
  .keep [1, 3, 4] [[1]]) <|
  .keep [1, 3, 4] [[1]]) <|
  .seq (.reg [⟨(some 25), .mov (.t 4), none⟩,
    ⟨(some 26), .bin .sub (.t 25) (.c (.v (.int .i64 1))), none⟩,
    ⟨(some 4), .mov (.t 26), none⟩] []) <|
  .keep [1, 3, 4] [[1]]) <|
  .keep [1, 3, 4] [[1]]
def gantryref04_Text : CF := ⟨1, .seq (.seq (.reg [⟨(some 1), .box (.t 0), none⟩,
    ⟨(some 2), .mov (.c (.v (.string ⟨#[]⟩))), none⟩] []) <|
  .keep [1] [[1]]) <|
  .seq (.seq (.seq (.reg [⟨(some 6), .fad 1 (.t 1), none⟩,
    ⟨(some 7), .load none (.t 6), none⟩,
    ⟨(some 8), .len (.t 7), none⟩,
    ⟨(some 9), .bin .eql (.t 8) (.c (.v (.int .i64 0))), none⟩] []) <|
  .keep [1, 9] [[1]]) <|
  .cond (.t 9) (.seq (.seq (.reg [⟨(some 2), .mov (.c (.v (.string ⟨#[48]⟩))), none⟩] []) <|
  .keep [2] []) <|
  .ret) <|
  .skip) <|
  .seq (.seq (.reg [⟨(some 10), .fad 1 (.t 1), none⟩,
    ⟨(some 11), .load none (.t 10), none⟩,
    ⟨(some 12), .fad 1 (.t 1), none⟩,
    ⟨(some 13), .load none (.t 12), none⟩,
    ⟨(some 14), .len (.t 13), none⟩,
    ⟨(some 15), .bin .sub (.t 14) (.c (.v (.int .i64 1))), none⟩,
    ⟨(some 16), .ixa 1 (.t 11) (.t 15), none⟩,
    ⟨(some 17), .load none (.t 16), none⟩,
    ⟨(some 18), .call n_gantryref04_decimal [(.t 17)] false, none⟩,
    ⟨(some 3), .mov (.t 18), none⟩] []) <|
  .keep [1, 3] [[1]]) <|
  .seq (.seq (.seq (.reg [⟨(some 19), .fad 1 (.t 1), none⟩,
    ⟨(some 20), .load none (.t 19), none⟩,
    ⟨(some 21), .len (.t 20), none⟩,
    ⟨(some 22), .bin .sub (.t 21) (.c (.v (.int .i64 2))), none⟩,
    ⟨(some 4), .mov (.t 22), none⟩] []) <|
  .keep [1, 3, 4] [[1]]) <|
  .seq (.blk 0 <|
  .seq (.keep [1, 3, 4] [[1]]) <|
  .loop gantryref04_Text_l1) <|
  .keep [1, 3] [[1]]) <|
  .seq (.seq (.seq (.reg [⟨(some 41), .fad 0 (.t 1), none⟩,
    ⟨(some 42), .load none (.t 41), none⟩] []) <|
  .keep [3, 42] []) <|
  .cond (.t 42) (.seq (.seq (.reg [⟨(some 43), .mov (.t 3), none⟩,
    ⟨(some 44), .bin .add (.c (.v (.string ⟨#[45]⟩))) (.t 43), none⟩,
    ⟨(some 2), .mov (.t 44), none⟩] []) <|
  .keep [2] []) <|
  .ret) <|
  .skip) <|
  .seq (.seq (.reg [⟨(some 45), .mov (.t 3), none⟩,
    ⟨(some 2), .mov (.t 45), none⟩] []) <|
  .keep [2] []) <|
  .ret, [.t 2]⟩

/- 48: gantry/gantryref01.Short -/
def gantryref01_Short : CF := ⟨2, .seq (.seq (.reg [⟨(some 4), .mov (.c (.v (.string ⟨#[]⟩))), none⟩] []) <|
  .keep [0, 1] []) <|
  .seq (.seq (.seq (.reg [⟨(some 5), .mov (.t 0), none⟩,
    ⟨(some 6), .lns (.t 5), none⟩,
    ⟨(some 7), .mov (.t 1), none⟩,
    ⟨(some 8), .bin .gtr (.t 6) (.t 7), none⟩] []) <|
  .keep [0, 1, 8] []) <|
  .cond (.t 8) (.seq (.seq (.reg [⟨(some 9), .mov (.t 0), none⟩,
    ⟨(some 10), .mov (.t 1), none⟩,
    ⟨(some 11), .sls (.t 9) none (some (.t 10)), none⟩,
    ⟨(some 4), .mov (.t 11), none⟩] []) <|
  .keep [4] []) <|
  .ret) <|
  .skip) <|
  .seq (.seq (.reg [⟨(some 12), .mov (.t 0), none⟩,
    ⟨(some 4), .mov (.t 12), none⟩] []) <|
  .keep [4] []) <|
  .ret, [.t 4]⟩

/- 49: gantry/gantryref04.Parse -/
def gantryref04_Parse_l0 : C :=
  .seq (.seq (.seq (.seq (.reg [⟨(some 44), .mov (.t 6), none⟩,
    ⟨(some 45), .mov (.t 5), none⟩,
    ⟨(some 46), .lns (.t 45), none⟩,
    ⟨(some 47), .bin .lss (.t 44) (.t 46), none⟩] []) <|
  .keep [2, 4, 5, 6, 47] [[2]]) <|
  .cond (.t 47) (.skip) <|
  .seq (.keep [2, 4, 5] [[2]]) <|
  .exit 0) <|
  .seq (.seq (.blk 1 <|
  .seq (.seq (.reg [⟨(some 50), .mov (.t 5), none⟩,
    ⟨(some 51), .mov (.t 6), none⟩,
    ⟨(some 52), .ixs (.t 50) (.t 51), none⟩,
    ⟨(some 53), .bin .lss (.t 52) (.c (.v (.int .u8 48))), none⟩,
    ⟨(some 54), .mov (.t 53), none⟩,
    ⟨(some 55), .mov (.t 5), (some (54, false))⟩,
    ⟨(some 56), .mov (.t 6), (some (54, false))⟩,
    ⟨(some 57), .ixs (.t 55) (.t 56), (some (54, false))⟩,
    ⟨(some 58), .bin .gtr (.t 57) (.c (.v (.int .u8 57))), (some (54, false))⟩,
    ⟨(some 59), .pick (.t 54) (.c (.v (.bool true))) (.t 58), none⟩] []) <|
  .keep [2, 4, 5, 6, 59] [[2]]) <|
  .cond (.t 59) (.seq (.seq (.reg [⟨(some 60), .build [.v (.bool false), .z true] [], none⟩,
    ⟨none, .store 2 (.t 2) (.t 60), none⟩,
    ⟨(some 3), .mov (.c (.v (.int .i64 2))), none⟩] []) <|
  .keep [2, 3] [[2]]) <|
  .ret) <|
  .skip) <|
  .keep [2, 4, 5, 6] [[2]]) <|
  .seq (.reg [⟨(some 48), .mov (.t 6), none⟩,
    ⟨(some 49), .bin .add (.t 48) (.c (.v (.int .i64 1))), none⟩,
    ⟨(some 6), .mov (.t 49), none⟩] []) <|
  .keep [2, 4, 5, 6] [[2]]) <|
  .keep [2, 4, 5, 6] [[2]]
def gantryref04_Parse_l1 : C :=
  .seq (.seq (.seq (.seq (.reg [⟨(some 70), .mov (.t 10), none⟩,
    ⟨(some 71), .mov (.t 8), none⟩,
    ⟨(some 72), .bin .lss (.t 70) (.t 71), none⟩] []) <|
  .keep [2, 4, 5, 7, 8, 9, 10, 72] [[2], [86]]) <|
  .cond (.t 72) (.skip) <|
  .seq (.keep [2, 4, 5, 7, 8, 9] [[2], [86]]) <|
  .exit 4) <|
  .seq (.seq (.blk 5 <|
  .seq (.reg [⟨(some 75), .mov (.t 9), none⟩,
    ⟨(some 76), .bin .mul (.c (.v (.int .i64 10))) (.t 75), none⟩,
    ⟨(some 77), .mov (.t 5), none⟩,
    ⟨(some 78), .mov (.t 10), none⟩,
    ⟨(some 79), .ixs (.t 77) (.t 78), none⟩,
    ⟨(some 80), .bin .sub (.t 79) (.c (.v (.int .u8 48))), none⟩,
    ⟨(some 81), .conv (.int .i64) (.t 80), none⟩,
    ⟨(some 82), .bin .add (.t 76) (.t 81), none⟩,
    ⟨(some 9), .mov (.t 82), none⟩] []) <|
  .keep [2, 4, 5, 7, 8, 9, 10] [[2], [86]]) <|
  .keep [2, 4, 5, 7, 8, 9, 10] [[2], [86]]) <|
  .seq (.reg [⟨(some 73), .mov (.t 10), none⟩,
    ⟨(some 74), .bin .add (.t 73) (.c (.v (.int .i64 1))), none⟩,
    ⟨(some 10), .mov (.t 74), none⟩] []) <|
  .keep [2, 4, 5, 7, 8, 9, 10] [[2], [86]]) <|
  .keep [2, 4, 5, 7, 8, 9, 10] [[2], [86]]
def gantryref04_Parse_l2 : C :=
  .seq (.seq (.seq (.seq (.reg [⟨(some 63), .mov (.t 8), none⟩,
    ⟨(some 64), .bin .gtr (.t 63) (.c (.v (.int .i64 0))), none⟩] []) <|
  .keep [2, 4, 5, 7, 8, 64] [[2], [86]]) <|
  .cond (.t 64) (.skip) <|
  .seq (.keep [2, 4, 7] [[2], [86]]) <|
  .exit 2) <|
  .seq (.seq (.blk 3 <|
  .seq (.seq (.reg [⟨(some 9), .mov (.c (.v (.int .i64 0))), none⟩] []) <|
  .keep [2, 4, 5, 7, 8, 9] [[2], [86]]) <|
  .seq (.seq (.seq (.reg [⟨(some 67), .mov (.t 8), none⟩,
    ⟨(some 68), .bin .sub (.t 67) (.c (.v (.int .i64 9))), none⟩,
    ⟨(some 69), .mx [(.c (.v (.int .i64 0))), (.t 68)], none⟩,
    ⟨(some 10), .mov (.t 69), none⟩] []) <|
  .keep [2, 4, 5, 7, 8, 9, 10] [[2], [86]]) <|
  .seq (.blk 4 <|
  .seq (.keep [2, 4, 5, 7, 8, 9, 10] [[2], [86]]) <|
  .loop gantryref04_Parse_l1) <|
  .keep [2, 4, 5, 7, 8, 9] [[2], [86]]) <|
  .seq (.reg [⟨(some 83), .mov (.t 7), none⟩,
    ⟨(some 84), .mov (.t 9), none⟩,
    ⟨(some 85), .lit 1 1 [.v (.int .i64 0)] [(0, (.t 84))] true, none⟩,
    ⟨(some 86), .app 1 8 (.t 83) (.t 85) false, none⟩,
    ⟨(some 7), .mov (.t 86), none⟩] []) <|
  .keep [2, 4, 5, 7, 8] [[2], [86]]) <|
  .keep [2, 4, 5, 7, 8] [[2], [86]]) <|
  .seq (.reg [⟨(some 65), .mov (.t 8), none⟩,
    ⟨(some 66), .bin .sub (.t 65) (.c (.v (.int .i64 9))), none⟩,
    ⟨(some 8), .mov (.t 66), none⟩] []) <|
  .keep [2, 4, 5, 7, 8] [[2], [86]]) <|
  .keep [2, 4, 5, 7, 8] [[2], [86]]
def gantryref04_Parse : CF := ⟨1, .seq (.seq (.reg [⟨(some 2), .new [.v (.bool false), .z true], none⟩,
    ⟨(some 3), .mov (.c (.v (.int .i64 0))), none⟩] []) <|
  .keep [0, 2] [[2]]) <|
  .seq (.seq (.seq (.reg [⟨(some 11), .mov (.t 0), none⟩,
    ⟨(some 12), .lns (.t 11), none⟩,
    ⟨(some 13), .bin .gtr (.t 12) (.c (.v (.int .i64 65536))), none⟩] []) <|
  .keep [0, 2, 13] [[2]]) <|
  .cond (.t 13) (.seq (.seq (.reg [⟨(some 14), .build [.v (.bool false), .z true] [], none⟩,
    ⟨none, .store 2 (.t 2) (.t 14), none⟩,
    ⟨(some 3), .mov (.c (.v (.int .i64 4))), none⟩] []) <|
  .keep [2, 3] [[2]]) <|
  .ret) <|
  .skip) <|
  .seq (.seq (.reg [⟨(some 15), .mov (.t 0), none⟩,
    ⟨(some 16), .lns (.t 15), none⟩,
    ⟨(some 17), .bin .gtr (.t 16) (.c (.v (.int .i64 0))), none⟩,
    ⟨(some 18), .mov (.t 17), none⟩,
    ⟨(some 19), .mov (.t 0), (some (18, true))⟩,
    ⟨(some 20), .ixs (.t 19) (.c (.v (.int .i64 0))), (some (18, true))⟩,
    ⟨(some 21), .bin .eql (.t 20) (.c (.v (.int .u8 45))), (some (18, true))⟩,
    ⟨(some 22), .pick (.t 18) (.t 21) (.c (.v (.bool false))), none⟩,
    ⟨(some 4), .mov (.t 22), none⟩] []) <|
  .keep [0, 2, 4] [[2]]) <|
  .seq (.seq (.reg [⟨(some 23), .mov (.t 0), none⟩,
    ⟨(some 5), .mov (.t 23), none⟩] []) <|
  .keep [0, 2, 4, 5] [[2]]) <|
  .seq (.seq (.seq (.reg [⟨(some 24), .mov (.t 4), none⟩] []) <|
  .keep [0, 2, 4, 5, 24] [[2]]) <|
  .cond (.t 24) (.seq (.reg [⟨(some 25), .mov (.t 0), none⟩,
    ⟨(some 26), .sls (.t 25) (some (.c (.v (.int .i64 1)))) none, none⟩,
    ⟨(some 5), .mov (.t 26), none⟩] []) <|
  .keep [2, 4, 5] [[2]]) <|
  .skip) <|
  .seq (.seq (.seq (.reg [⟨(some 27), .mov (.t 5), none⟩,
    ⟨(some 28), .lns (.t 27), none⟩,
    ⟨(some 29), .bin .eql (.t 28) (.c (.v (.int .i64 0))), none⟩,
    ⟨(some 30), .mov (.t 29), none⟩,
    ⟨(some 31), .mov (.t 5), (some (30, false))⟩,
    ⟨(some 32), .ixs (.t 31) (.c (.v (.int .i64 0))), (some (30, false))⟩,
    ⟨(some 33), .bin .eql (.t 32) (.c (.v (.int .u8 48))), (some (30, false))⟩,
    ⟨(some 34), .mov (.t 33), (some (30, false))⟩,
    ⟨(some 35), .mov (.t 4), (some (34, true))⟩,
    ⟨(some 36), .mov (.t 35), (some (34, true))⟩,
    ⟨(some 37), .mov (.t 5), (some (36, false))⟩,
    ⟨(some 38), .lns (.t 37), (some (36, false))⟩,
    ⟨(some 39), .bin .gtr (.t 38) (.c (.v (.int .i64 1))), (some (36, false))⟩,
    ⟨(some 40), .pick (.t 36) (.c (.v (.bool true))) (.t 39), (some (34, true))⟩,
    ⟨(some 41), .pick (.t 34) (.t 40) (.c (.v (.bool false))), (some (30, false))⟩,
    ⟨(some 42), .pick (.t 30) (.c (.v (.bool true))) (.t 41), none⟩] []) <|
  .keep [2, 4, 5, 42] [[2]]) <|
  .cond (.t 42) (.seq (.seq (.reg [⟨(some 43), .build [.v (.bool false), .z true] [], none⟩,
    ⟨none, .store 2 (.t 2) (.t 43), none⟩,
    ⟨(some 3), .mov (.c (.v (.int .i64 2))), none⟩] []) <|
  .keep [2, 3] [[2]]) <|
  .ret) <|
  .skip) <|
  .seq (.seq (.seq (.reg [⟨(some 6), .mov (.c (.v (.int .i64 0))), none⟩] []) <|
  .keep [2, 4, 5, 6] [[2]]) <|
  .seq (.blk 0 <|
  .seq (.keep [2, 4, 5, 6] [[2]]) <|
  .loop gantryref04_Parse_l0) <|
  .keep [2, 4, 5] [[2]]) <|
  .seq (.seq (.reg [⟨(some 7), .mov (.c (.z true)), none⟩] []) <|
  .keep [2, 4, 5, 7] [[2], [86]]) <|
  .seq (.seq (.seq (.reg [⟨(some 61), .mov (.t 5), none⟩,
    ⟨(some 62), .lns (.t 61), none⟩,
    ⟨(some 8), .mov (.t 62), none⟩] []) <|
  .keep [2, 4, 5, 7, 8] [[2], [86]]) <|
  .seq (.blk 2 <|
  .seq (.keep [2, 4, 5, 7, 8] [[2], [86]]) <|
  .loop gantryref04_Parse_l2) <|
  .keep [2, 4, 7] [[2], [86]]) <|
  .seq (.seq (.frz 7) <|
  .seq (.reg [⟨(some 87), .mov (.t 4), none⟩,
    ⟨(some 88), .mov (.t 7), none⟩,
    ⟨(some 89), .call n_gantryref04_normal [(.t 87), (.t 88)] false, none⟩,
    ⟨none, .store 2 (.t 2) (.t 89), none⟩,
    ⟨(some 3), .mov (.c (.v (.int .i64 0))), none⟩] []) <|
  .keep [2, 3] [[2]]) <|
  .ret, [.cell 2 (some 2), .t 3]⟩

/- 50: gantry/gantryref01.Ints -/
def gantryref01_Ints_l0 : C :=
  .seq (.seq (.seq (.seq (.reg [⟨(some 8), .mov (.t 4), none⟩,
    ⟨(some 9), .mov (.t 0), none⟩,
    ⟨(some 10), .len (.t 9), none⟩,
    ⟨(some 11), .bin .lss (.t 8) (.t 10), none⟩] []) <|
  .keep [0, 3, 4, 11] [[7], [20]]) <|
  .cond (.t 11) (.skip) <|
  .seq (.keep [3] [[7], [20]]) <|
  .exit 0) <|
  .seq (.seq (.blk 1 <|
  .seq (.reg [⟨(some 14), .mov (.t 3), none⟩,
    ⟨(some 15), .mov (.t 0), none⟩,
    ⟨(some 16), .mov (.t 4), none⟩,
    ⟨(some 17), .ixa 1 (.t 15) (.t 16), none⟩,
    ⟨(some 18), .load none (.t 17), none⟩,
    ⟨(some 19), .call n_gantryref01_Int [(.t 18)] false, none⟩,
    ⟨(some 20), .app 1 1 (.t 14) (.t 19) false, none⟩,
    ⟨(some 3), .mov (.t 20), none⟩] []) <|
  .keep [0, 3, 4] [[7], [20]]) <|
  .keep [0, 3, 4] [[7], [20]]) <|
  .seq (.reg [⟨(some 12), .mov (.t 4), none⟩,
    ⟨(some 13), .bin .add (.t 12) (.c (.v (.int .i64 1))), none⟩,
    ⟨(some 4), .mov (.t 13), none⟩] []) <|
  .keep [0, 3, 4] [[7], [20]]) <|
  .keep [0, 3, 4] [[7], [20]]
def gantryref01_Ints : CF := ⟨1, .seq (.seq (.reg [⟨(some 2), .mov (.c (.z true)), none⟩] []) <|
  .keep [0] []) <|
  .seq (.seq (.reg [⟨(some 5), .mov (.t 0), none⟩,
    ⟨(some 6), .len (.t 5), none⟩,
    ⟨(some 7), .call n_gantryref01_Int [(.t 6)] true, none⟩,
    ⟨(some 3), .mov (.t 7), none⟩] []) <|
  .keep [0, 3] [[7], [20]]) <|
  .seq (.seq (.seq (.reg [⟨(some 4), .mov (.c (.v (.int .i64 0))), none⟩] []) <|
  .keep [0, 3, 4] [[7], [20]]) <|
  .seq (.blk 0 <|
  .seq (.keep [0, 3, 4] [[7], [20]]) <|
  .loop gantryref01_Ints_l0) <|
  .keep [3] [[7], [20]]) <|
  .seq (.seq (.reg [⟨(some 21), .mov (.t 3), none⟩,
    ⟨(some 2), .mov (.t 21), none⟩] []) <|
  .keep [2] [[7], [20]]) <|
  .ret, [.t 2]⟩

/- 51: gantry/gantryref04.Decode -/
def gantryref04_Decode : CF := ⟨1, .seq (.seq (.reg [⟨(some 2), .new [.v (.bool false), .z true], none⟩,
    ⟨(some 3), .mov (.c (.v (.int .i64 0))), none⟩,
    ⟨(some 4), .mov (.c (.v (.int .i64 0))), none⟩] []) <|
  .keep [0, 2] [[2]]) <|
  .seq (.seq (.reg [⟨(some 10), .mov (.t 0), none⟩,
    ⟨(some 11), .call n_gantryref01_GetInts [(.t 10)] false, none⟩,
    ⟨(some 9), .mov (.t 11), none⟩,
    ⟨(some 12), .ext (.t 9) 0, none⟩,
    ⟨(some 13), .ext (.t 9) 1, none⟩,
    ⟨(some 14), .ext (.t 9) 2, none⟩,
    ⟨(some 5), .mov (.t 12), none⟩,
    ⟨(some 6), .mov (.t 13), none⟩,
    ⟨(some 7), .mov (.t 14), none⟩] []) <|
  .keep [2, 5, 6, 7] [[2]]) <|
  .seq (.seq (.seq (.reg [⟨(some 15), .mov (.t 7), none⟩,
    ⟨(some 16), .bin .neq (.t 15) (.c (.v (.int .i64 0))), none⟩] []) <|
  .keep [2, 5, 6, 7, 16] [[2]]) <|
  .cond (.t 16) (.seq (.seq (.reg [⟨(some 17), .build [.v (.bool false), .z true] [], none⟩,
    ⟨(some 18), .mov (.t 7), none⟩,
    ⟨none, .store 2 (.t 2) (.t 17), none⟩,
    ⟨(some 3), .mov (.c (.v (.int .i64 0))), none⟩,
    ⟨(some 4), .mov (.t 18), none⟩] []) <|
  .keep [2, 3, 4] [[2]]) <|
  .ret) <|
  .skip) <|
  .seq (.seq (.seq (.reg [⟨(some 19), .mov (.t 5), none⟩,
    ⟨(some 20), .len (.t 19), none⟩,
    ⟨(some 21), .bin .eql (.t 20) (.c (.v (.int .i64 0))), none⟩] []) <|
  .keep [2, 5, 6, 21] [[2]]) <|
  .cond (.t 21) (.seq (.seq (.reg [⟨(some 22), .build [.v (.bool false), .z true] [], none⟩,
    ⟨none, .store 2 (.t 2) (.t 22), none⟩,
    ⟨(some 3), .mov (.c (.v (.int .i64 0))), none⟩,
    ⟨(some 4), .mov (.c (.v (.int .i64 2))), none⟩] []) <|
  .keep [2, 3, 4] [[2]]) <|
  .ret) <|
  .skip) <|
  .seq (.seq (.reg [⟨(some 23), .mov (.t 5), none⟩,
    ⟨(some 24), .ixa 1 (.t 23) (.c (.v (.int .i64 0))), none⟩,
    ⟨(some 25), .load none (.t 24), none⟩,
    ⟨(some 26), .bin .eql (.t 25) (.c (.v (.int .i64 (-1)))), none⟩,
    ⟨(some 27), .mov (.t 5), none⟩,
    ⟨(some 28), .slc 1 (.t 27) (some (.c (.v (.int .i64 1)))) none none, none⟩,
    ⟨(some 29), .build [.v (.bool false), .z true] [(0, 1, (.t 26)), (1, 1, (.t 28))], none⟩,
    ⟨(some 8), .new [.v (.bool false), .z true], none⟩,
    ⟨none, .store 2 (.t 8) (.t 29), none⟩] []) <|
  .keep [2, 5, 6, 8] [[2], [8]]) <|
  .seq (.seq (.seq (.reg [⟨(some 30), .load (some 2) (.t 8), none⟩,
    ⟨(some 31), .call n_gantryref04_Valid [(.t 30)] false, none⟩,
    ⟨(some 32), .un .not (.t 31), none⟩] []) <|
  .keep [2, 5, 6, 8, 32] [[2], [8]]) <|
  .cond (.t 32) (.seq (.seq (.reg [⟨(some 33), .build [.v (.bool false), .z true] [], none⟩,
    ⟨none, .store 2 (.t 2) (.t 33), none⟩,
    ⟨(some 3), .mov (.c (.v (.int .i64 0))), none⟩,
    ⟨(some 4), .mov (.c (.v (.int .i64 2))), none⟩] []) <|
  .keep [2, 3, 4] [[2]]) <|
  .ret) <|
  .skip) <|
  .seq (.seq (.seq (.reg [⟨(some 34), .load (some 2) (.t 8), none⟩,
    ⟨(some 35), .call n_gantryref04_Sign [(.t 34)] false, none⟩,
    ⟨(some 36), .mov (.t 5), none⟩,
    ⟨(some 37), .ixa 1 (.t 36) (.c (.v (.int .i64 0))), none⟩,
    ⟨(some 38), .load none (.t 37), none⟩,
    ⟨(some 39), .bin .neq (.t 35) (.t 38), none⟩] []) <|
  .keep [2, 6, 8, 39] [[2], [8]]) <|
  .cond (.t 39) (.seq (.seq (.reg [⟨(some 40), .build [.v (.bool false), .z true] [], none⟩,
    ⟨none, .store 2 (.t 2) (.t 40), none⟩,
    ⟨(some 3), .mov (.c (.v (.int .i64 0))), none⟩,
    ⟨(some 4), .mov (.c (.v (.int .i64 2))), none⟩] []) <|
  .keep [2, 3, 4] [[2]]) <|
  .ret) <|
  .skip) <|
  .seq (.seq (.reg [⟨(some 41), .load (some 2) (.t 8), none⟩,
    ⟨(some 42), .mov (.t 6), none⟩,
    ⟨none, .store 2 (.t 2) (.t 41), none⟩,
    ⟨(some 3), .mov (.t 42), none⟩,
    ⟨(some 4), .mov (.c (.v (.int .i64 0))), none⟩] []) <|
  .keep [2, 3, 4] [[2]]) <|
  .ret, [.cell 2 (some 2), .t 3, .t 4]⟩

/- 52: gantry/gantryref01.At -/
def gantryref01_At : CF := ⟨3, .seq (.seq (.reg [⟨(some 6), .mov (.c (.v (.int .i64 0))), none⟩] []) <|
  .keep [0, 1, 2] []) <|
  .seq (.seq (.seq (.reg [⟨(some 7), .mov (.t 1), none⟩,
    ⟨(some 8), .bin .lss (.t 7) (.c (.v (.int .i64 0))), none⟩,
    ⟨(some 9), .mov (.t 8), none⟩,
    ⟨(some 10), .mov (.t 1), (some (9, false))⟩,
    ⟨(some 11), .mov (.t 0), (some (9, false))⟩,
    ⟨(some 12), .len (.t 11), (some (9, false))⟩,
    ⟨(some 13), .bin .geq (.t 10) (.t 12), (some (9, false))⟩,
    ⟨(some 14), .pick (.t 9) (.c (.v (.bool true))) (.t 13), none⟩] []) <|
  .keep [0, 1, 2, 14] []) <|
  .cond (.t 14) (.seq (.seq (.reg [⟨(some 6), .mov (.c (.v (.int .i64 0))), none⟩] []) <|
  .keep [6] []) <|
  .ret) <|
  .skip) <|
  .seq (.seq (.reg [⟨(some 15), .mov (.t 0), none⟩,
    ⟨(some 16), .mov (.t 1), none⟩,
    ⟨(some 17), .ixa 1 (.t 15) (.t 16), none⟩,
    ⟨(some 18), .load none (.t 17), none⟩,
    ⟨(some 19), .mov (.t 2), none⟩,
    ⟨(some 20), .call n_gantryref01_Around [(.t 18), (.t 19)] false, none⟩,
    ⟨(some 6), .mov (.t 20), none⟩] []) <|
  .keep [6] []) <|
  .ret, [.t 6]⟩

/- 53: gantry/gantryref04.Power -/
def gantryref04_Power_l0 : C :=
  .seq (.seq (.seq (.seq (.reg [⟨(some 6), .mov (.t 4), none⟩,
    ⟨(some 7), .mov (.t 0), none⟩,
    ⟨(some 8), .bin .lss (.t 6) (.t 7), none⟩] []) <|
  .keep [0, 2, 3, 4, 8] [[2], [3]]) <|
  .cond (.t 8) (.skip) <|
  .seq (.keep [2, 3] [[2], [3]]) <|
  .exit 0) <|
  .seq (.seq (.blk 1 <|
  .seq (.reg [⟨(some 11), .load (some 2) (.t 3), none⟩,
    ⟨(some 12), .call n_gantryref04_Of [(.c (.v (.int .i64 10)))] false, none⟩,
    ⟨(some 13), .call n_gantryref04_Mul [(.t 11), (.t 12)] false, none⟩,
    ⟨none, .store 2 (.t 3) (.t 13), none⟩] []) <|
  .keep [0, 2, 3, 4] [[2], [3]]) <|
  .keep [0, 2, 3, 4] [[2], [3]]) <|
  .seq (.reg [⟨(some 9), .mov (.t 4), none⟩,
    ⟨(some 10), .bin .add (.t 9) (.c (.v (.int .i64 1))), none⟩,
    ⟨(some 4), .mov (.t 10), none⟩] []) <|
  .keep [0, 2, 3, 4] [[2], [3]]) <|
  .keep [0, 2, 3, 4] [[2], [3]]
def gantryref04_Power : CF := ⟨1, .seq (.seq (.reg [⟨(some 2), .new [.v (.bool false), .z true], none⟩] []) <|
  .keep [0, 2] [[2]]) <|
  .seq (.seq (.reg [⟨(some 5), .call n_gantryref04_Of [(.c (.v (.int .i64 1)))] false, none⟩,
    ⟨(some 3), .new [.v (.bool false), .z true], none⟩,
    ⟨none, .store 2 (.t 3) (.t 5), none⟩] []) <|
  .keep [0, 2, 3] [[2], [3]]) <|
  .seq (.seq (.seq (.reg [⟨(some 4), .mov (.c (.v (.int .i64 0))), none⟩] []) <|
  .keep [0, 2, 3, 4] [[2], [3]]) <|
  .seq (.blk 0 <|
  .seq (.keep [0, 2, 3, 4] [[2], [3]]) <|
  .loop gantryref04_Power_l0) <|
  .keep [2, 3] [[2], [3]]) <|
  .seq (.seq (.reg [⟨(some 14), .load (some 2) (.t 3), none⟩,
    ⟨none, .store 2 (.t 2) (.t 14), none⟩] []) <|
  .keep [2] [[2]]) <|
  .ret, [.cell 2 (some 2)]⟩

/- 54: gantry/gantryref04.normal -/
def gantryref04_normal_l0 : C :=
  .seq (.seq (.seq (.seq (.reg [⟨(some 8), .mov (.t 5), none⟩,
    ⟨(some 9), .bin .gtr (.t 8) (.c (.v (.int .i64 0))), none⟩,
    ⟨(some 10), .mov (.t 9), none⟩,
    ⟨(some 11), .mov (.t 1), (some (10, true))⟩,
    ⟨(some 12), .mov (.t 5), (some (10, true))⟩,
    ⟨(some 13), .bin .sub (.t 12) (.c (.v (.int .i64 1))), (some (10, true))⟩,
    ⟨(some 14), .mx [(.t 13), (.c (.v (.int .i64 0)))], (some (10, true))⟩,
    ⟨(some 15), .ixa 1 (.t 11) (.t 14), (some (10, true))⟩,
    ⟨(some 16), .load none (.t 15), (some (10, true))⟩,
    ⟨(some 17), .bin .eql (.t 16) (.c (.v (.int .i64 0))), (some (10, true))⟩,
    ⟨(some 18), .pick (.t 10) (.t 17) (.c (.v (.bool false))), none⟩] []) <|
  .keep [0, 1, 4, 5, 18] [[4]]) <|
  .cond (.t 18) (.skip) <|
  .seq (.keep [0, 1, 4, 5] [[4]]) <|
  .exit 0) <|
  .seq (.blk 1 <|
  .seq (.reg [⟨(some 19), .mov (.t 5), none⟩,
    ⟨(some 20), .bin .sub (.t 19) (.c (.v (.int .i64 1))), none⟩,
    ⟨(some 5), .mov (.t 20), none⟩] []) <|
  .keep [0, 1, 4, 5] [[4]]) <|
  .keep [0, 1, 4, 5] [[4]]) <|
  .keep [0, 1, 4, 5] [[4]]
def gantryref04_normal : CF := ⟨2, .seq (.seq (.reg [⟨(some 4), .new [.v (.bool false), .z true], none⟩] []) <|
  .keep [0, 1, 4] [[4]]) <|
  .seq (.seq (.reg [⟨(some 6), .mov (.t 1), none⟩,
    ⟨(some 7), .len (.t 6), none⟩,
    ⟨(some 5), .mov (.t 7), none⟩] []) <|
  .keep [0, 1, 4, 5] [[4]]) <|
  .seq (.seq (.blk 0 <|
  .seq (.keep [0, 1, 4, 5] [[4]]) <|
  .loop gantryref04_normal_l0) <|
  .keep [0, 1, 4, 5] [[4]]) <|
  .seq (.seq (.seq (.reg [⟨(some 21), .mov (.t 5), none⟩,
    ⟨(some 22), .bin .eql (.t 21) (.c (.v (.int .i64 0))), none⟩] []) <|
  .keep [0, 1, 4, 5, 22] [[4]]) <|
  .cond (.t 22) (.seq (.seq (.reg [⟨(some 23), .build [.v (.bool false), .z true] [], none⟩,
    ⟨none, .store 2 (.t 4) (.t 23), none⟩] []) <|
  .keep [4] [[4]]) <|
  .ret) <|
  .skip) <|
  .seq (.seq (.reg [⟨(some 24), .mov (.t 0), none⟩,
    ⟨(some 25), .mov (.t 1), none⟩,
    ⟨(some 26), .mov (.t 5), none⟩,
    ⟨(some 27), .slc 1 (.t 25) none (some (.t 26)) none, none⟩,
    ⟨(some 28), .build [.v (.bool false), .z true] [(0, 1, (.t 24)), (1, 1, (.t 27))], none⟩,
    ⟨none, .store 2 (.t 4) (.t 28), none⟩] []) <|
  .keep [4] [[4]]) <|
  .ret, [.cell 4 (some 2)]⟩

/- 55: gantry/gantryref04.plus -/
def gantryref04_plus_l0 : C :=
  .seq (.seq (.seq (.seq (.reg [⟨(some 9), .mov (.t 7), none⟩,
    ⟨(some 10), .mov (.t 0), none⟩,
    ⟨(some 11), .len (.t 10), none⟩,
    ⟨(some 12), .bin .lss (.t 9) (.t 11), none⟩,
    ⟨(some 13), .mov (.t 12), none⟩,
    ⟨(some 14), .mov (.t 7), (some (13, false))⟩,
    ⟨(some 15), .mov (.t 1), (some (13, false))⟩,
    ⟨(some 16), .len (.t 15), (some (13, false))⟩,
    ⟨(some 17), .bin .lss (.t 14) (.t 16), (some (13, false))⟩,
    ⟨(some 18), .pick (.t 13) (.c (.v (.bool true))) (.t 17), none⟩,
    ⟨(some 19), .mov (.t 18), none⟩,
    ⟨(some 20), .mov (.t 6), (some (19, false))⟩,
    ⟨(some 21), .bin .gtr (.t 20) (.c (.v (.int .i64 0))), (some (19, false))⟩,
    ⟨(some 22), .pick (.t 19) (.c (.v (.bool true))) (.t 21), none⟩] []) <|
  .keep [0, 1, 5, 6, 7, 22] [[38]]) <|
  .cond (.t 22) (.skip) <|
  .seq (.keep [5] [[38]]) <|
  .exit 0) <|
  .seq (.seq (.blk 1 <|
  .seq (.seq (.reg [⟨(some 25), .mov (.t 0), none⟩,
    ⟨(some 26), .mov (.t 7), none⟩,
    ⟨(some 27), .call n_gantryref04_digit [(.t 25), (.t 26)] false, none⟩,
    ⟨(some 28), .mov (.t 1), none⟩,
    ⟨(some 29), .mov (.t 7), none⟩,
    ⟨(some 30), .call n_gantryref04_digit [(.t 28), (.t 29)] false, none⟩,
    ⟨(some 31), .bin .add (.t 27) (.t 30), none⟩,
    ⟨(some 32), .mov (.t 6), none⟩,
    ⟨(some 33), .bin .add (.t 31) (.t 32), none⟩,
    ⟨(some 8), .mov (.t 33), none⟩] []) <|
  .keep [0, 1, 5, 7, 8] [[38]]) <|
  .seq (.seq (.reg [⟨(some 34), .mov (.t 5), none⟩,
    ⟨(some 35), .mov (.t 8), none⟩,
    ⟨(some 36), .bin .rem (.t 35) (.c (.v (.int .i64 1000000000))), none⟩,
    ⟨(some 37), .lit 1 1 [.v (.int .i64 0)] [(0, (.t 36))] true, none⟩,
    ⟨(some 38), .app 1 8 (.t 34) (.t 37) false, none⟩,
    ⟨(some 5), .mov (.t 38), none⟩] []) <|
  .keep [0, 1, 5, 7, 8] [[38]]) <|
  .seq (.reg [⟨(some 39), .mov (.t 8), none⟩,
    ⟨(some 40), .bin .quo (.t 39) (.c (.v (.int .i64 1000000000))), none⟩,
    ⟨(some 6), .mov (.t 40), none⟩] []) <|
  .keep [0, 1, 5, 6, 7] [[38]]) <|
  .keep [0, 1, 5, 6, 7] [[38]]) <|
  .seq (.reg [⟨(some 23), .mov (.t 7), none⟩,
    ⟨(some 24), .bin .add (.t 23) (.c (.v (.int .i64 1))), none⟩,
    ⟨(some 7), .mov (.t 24), none⟩] []) <|
  .keep [0, 1, 5, 6, 7] [[38]]) <|
  .keep [0, 1, 5, 6, 7] [[38]]
def gantryref04_plus : CF := ⟨2, .seq (.seq (.reg [⟨(some 4), .mov (.c (.z true)), none⟩] []) <|
  .keep [0, 1] []) <|
  .seq (.seq (.reg [⟨(some 5), .mov (.c (.z true)), none⟩] []) <|
  .keep [0, 1, 5] [[38]]) <|
  .seq (.seq (.reg [⟨(some 6), .mov (.c (.v (.int .i64 0))), none⟩] []) <|
  .keep [0, 1, 5, 6] [[38]]) <|
  .seq (.seq (.seq (.reg [⟨(some 7), .mov (.c (.v (.int .i64 0))), none⟩] []) <|
  .keep [0, 1, 5, 6, 7] [[38]]) <|
  .seq (.blk 0 <|
  .seq (.keep [0, 1, 5, 6, 7] [[38]]) <|
  .loop gantryref04_plus_l0) <|
  .keep [5] [[38]]) <|
  .seq (.seq (.reg [⟨(some 41), .mov (.t 5), none⟩,
    ⟨(some 4), .mov (.t 41), none⟩] []) <|
  .keep [4] [[38]]) <|
  .ret, [.t 4]⟩

/- 56: gantry/gantryref04.compared -/
def gantryref04_compared_l0 : C :=
  .seq (.seq (.seq (.seq (.reg [⟨(some 19), .mov (.t 5), none⟩,
    ⟨(some 20), .bin .geq (.t 19) (.c (.v (.int .i64 0))), none⟩] []) <|
  .keep [0, 1, 5, 20] []) <|
  .cond (.t 20) (.skip) <|
  .seq (.keep [] []) <|
  .exit 0) <|
  .seq (.seq (.blk 1 <|
  .seq (.seq (.seq (.reg [⟨(some 23), .mov (.t 0), none⟩,
    ⟨(some 24), .mov (.t 5), none⟩,
    ⟨(some 25), .ixa 1 (.t 23) (.t 24), none⟩,
    ⟨(some 26), .load none (.t 25), none⟩,
    ⟨(some 27), .mov (.t 1), none⟩,
    ⟨(some 28), .mov (.t 5), none⟩,
    ⟨(some 29), .ixa 1 (.t 27) (.t 28), none⟩,
    ⟨(some 30), .load none (.t 29), none⟩,
    ⟨(some 31), .bin .lss (.t 26) (.t 30), none⟩] []) <|
  .keep [0, 1, 5, 31] []) <|
  .cond (.t 31) (.seq (.seq (.reg [⟨(some 4), .mov (.c (.v (.int .i64 (-1)))), none⟩] []) <|
  .keep [4] []) <|
  .ret) <|
  .skip) <|
  .seq (.seq (.reg [⟨(some 32), .mov (.t 0), none⟩,
    ⟨(some 33), .mov (.t 5), none⟩,
    ⟨(some 34), .ixa 1 (.t 32) (.t 33), none⟩,
    ⟨(some 35), .load none (.t 34), none⟩,
    ⟨(some 36), .mov (.t 1), none⟩,
    ⟨(some 37), .mov (.t 5), none⟩,
    ⟨(some 38), .ixa 1 (.t 36) (.t 37), none⟩,
    ⟨(some 39), .load none (.t 38), none⟩,
    ⟨(some 40), .bin .gtr (.t 35) (.t 39), none⟩] []) <|
  .keep [0, 1, 5, 40] []) <|
  .cond (.t 40) (.seq (.seq (.reg [⟨(some 4), .mov (.c (.v (.int .i64 1))), none⟩] []) <|
  .keep [4] []) <|
  .ret) <|
  .skip) <|
  .keep [0, 1, 5] []) <|
  .seq (.reg [⟨(some 21), .mov (.t 5), none⟩,
    ⟨(some 22), .bin .sub (.t 21) (.c (.v (.int .i64 1))), none⟩,
    ⟨(some 5), .mov (.t 22), none⟩] []) <|
  .keep [0, 1, 5] []) <|
  .keep [0, 1, 5] []
def gantryref04_compared : CF := ⟨2, .seq (.seq (.reg [⟨(some 4), .mov (.c (.v (.int .i64 0))), none⟩] []) <|
  .keep [0, 1] []) <|
  .seq (.seq (.seq (.reg [⟨(some 6), .mov (.t 0), none⟩,
    ⟨(some 7), .len (.t 6), none⟩,
    ⟨(some 8), .mov (.t 1), none⟩,
    ⟨(some 9), .len (.t 8), none⟩,
    ⟨(some 10), .bin .lss (.t 7) (.t 9), none⟩] []) <|
  .keep [0, 1, 10] []) <|
  .cond (.t 10) (.seq (.seq (.reg [⟨(some 4), .mov (.c (.v (.int .i64 (-1)))), none⟩] []) <|
  .keep [4] []) <|
  .ret) <|
  .skip) <|
  .seq (.seq (.seq (.reg [⟨(some 11), .mov (.t 0), none⟩,
    ⟨(some 12), .len (.t 11), none⟩,
    ⟨(some 13), .mov (.t 1), none⟩,
    ⟨(some 14), .len (.t 13), none⟩,
    ⟨(some 15), .bin .gtr (.t 12) (.t 14), none⟩] []) <|
  .keep [0, 1, 15] []) <|
  .cond (.t 15) (.seq (.seq (.reg [⟨(some 4), .mov (.c (.v (.int .i64 1))), none⟩] []) <|
  .keep [4] []) <|
  .ret) <|
  .skip) <|
  .seq (.seq (.seq (.reg [⟨(some 16), .mov (.t 0), none⟩,
    ⟨(some 17), .len (.t 16), none⟩,
    ⟨(some 18), .bin .sub (.t 17) (.c (.v (.int .i64 1))), none⟩,
    ⟨(some 5), .mov (.t 18), none⟩] []) <|
  .keep [0, 1, 5] []) <|
  .seq (.blk 0 <|
  .seq (.keep [0, 1, 5] []) <|
  .loop gantryref04_compared_l0) <|
  .keep [] []) <|
  .seq (.seq (.reg [⟨(some 4), .mov (.c (.v (.int .i64 0))), none⟩] []) <|
  .keep [4] []) <|
  .ret, [.t 4]⟩

/- 57: gantry/gantryref04.minus -/
def gantryref04_minus_l0 : C :=
  .seq (.seq (.seq (.seq (.reg [⟨(some 9), .mov (.t 7), none⟩,
    ⟨(some 10), .mov (.t 0), none⟩,
    ⟨(some 11), .len (.t 10), none⟩,
    ⟨(some 12), .bin .lss (.t 9) (.t 11), none⟩] []) <|
  .keep [0, 1, 5, 6, 7, 12] [[32]]) <|
  .cond (.t 12) (.skip) <|
  .seq (.keep [5] [[32]]) <|
  .exit 0) <|
  .seq (.seq (.blk 1 <|
  .seq (.seq (.reg [⟨(some 15), .mov (.t 0), none⟩,
    ⟨(some 16), .mov (.t 7), none⟩,
    ⟨(some 17), .ixa 1 (.t 15) (.t 16), none⟩,
    ⟨(some 18), .load none (.t 17), none⟩,
    ⟨(some 19), .mov (.t 1), none⟩,
    ⟨(some 20), .mov (.t 7), none⟩,
    ⟨(some 21), .call n_gantryref04_digit [(.t 19), (.t 20)] false, none⟩,
    ⟨(some 22), .bin .sub (.t 18) (.t 21), none⟩,
    ⟨(some 23), .mov (.t 6), none⟩,
    ⟨(some 24), .bin .sub (.t 22) (.t 23), none⟩,
    ⟨(some 8), .mov (.t 24), none⟩] []) <|
  .keep [0, 1, 5, 7, 8] [[32]]) <|
  .seq (.seq (.reg [⟨(some 6), .mov (.c (.v (.int .i64 0))), none⟩] []) <|
  .keep [0, 1, 5, 6, 7, 8] [[32]]) <|
  .seq (.seq (.seq (.reg [⟨(some 25), .mov (.t 8), none⟩,
    ⟨(some 26), .bin .lss (.t 25) (.c (.v (.int .i64 0))), none⟩] []) <|
  .keep [0, 1, 5, 6, 7, 8, 26] [[32]]) <|
  .cond (.t 26) (.seq (.seq (.reg [⟨(some 27), .mov (.t 8), none⟩,
    ⟨(some 28), .bin .add (.t 27) (.c (.v (.int .i64 1000000000))), none⟩,
    ⟨(some 8), .mov (.t 28), none⟩] []) <|
  .keep [0, 1, 5, 7, 8] [[32]]) <|
  .seq (.reg [⟨(some 6), .mov (.c (.v (.int .i64 1))), none⟩] []) <|
  .keep [0, 1, 5, 6, 7, 8] [[32]]) <|
  .skip) <|
  .seq (.reg [⟨(some 29), .mov (.t 5), none⟩,
    ⟨(some 30), .mov (.t 8), none⟩,
    ⟨(some 31), .lit 1 1 [.v (.int .i64 0)] [(0, (.t 30))] true, none⟩,
    ⟨(some 32), .app 1 8 (.t 29) (.t 31) false, none⟩,
    ⟨(some 5), .mov (.t 32), none⟩] []) <|
  .keep [0, 1, 5, 6, 7] [[32]]) <|
  .keep [0, 1, 5, 6, 7] [[32]]) <|
  .seq (.reg [⟨(some 13), .mov (.t 7), none⟩,
    ⟨(some 14), .bin .add (.t 13) (.c (.v (.int .i64 1))), none⟩,
    ⟨(some 7), .mov (.t 14), none⟩] []) <|
  .keep [0, 1, 5, 6, 7] [[32]]) <|
  .keep [0, 1, 5, 6, 7] [[32]]
def gantryref04_minus : CF := ⟨2, .seq (.seq (.reg [⟨(some 4), .mov (.c (.z true)), none⟩] []) <|
  .keep [0, 1] []) <|
  .seq (.seq (.reg [⟨(some 5), .mov (.c (.z true)), none⟩] []) <|
  .keep [0, 1, 5] [[32]]) <|
  .seq (.seq (.reg [⟨(some 6), .mov (.c (.v (.int .i64 0))), none⟩] []) <|
  .keep [0, 1, 5, 6] [[32]]) <|
  .seq (.seq (.seq (.reg [⟨(some 7), .mov (.c (.v (.int .i64 0))), none⟩] []) <|
  .keep [0, 1, 5, 6, 7] [[32]]) <|
  .seq (.blk 0 <|
  .seq (.keep [0, 1, 5, 6, 7] [[32]]) <|
  .loop gantryref04_minus_l0) <|
  .keep [5] [[32]]) <|
  .seq (.seq (.reg [⟨(some 33), .mov (.t 5), none⟩,
    ⟨(some 4), .mov (.t 33), none⟩] []) <|
  .keep [4] [[32]]) <|
  .ret, [.t 4]⟩

/- 58: gantry/integer.of -/
def integer_of_l0 : C :=
  .seq (.seq (.seq (.seq (.reg [⟨(some 8), .mov (.t 5), none⟩,
    ⟨(some 9), .bin .gtr (.t 8) (.c (.v (.int .i64 0))), none⟩,
    ⟨(some 10), .mov (.t 9), none⟩,
    ⟨(some 11), .mov (.t 1), (some (10, true))⟩,
    ⟨(some 12), .mov (.t 5), (some (10, true))⟩,
    ⟨(some 13), .bin .sub (.t 12) (.c (.v (.int .i64 1))), (some (10, true))⟩,
    ⟨(some 14), .ixa 1 (.t 11) (.t 13), (some (10, true))⟩,
    ⟨(some 15), .load none (.t 14), (some (10, true))⟩,
    ⟨(some 16), .bin .eql (.t 15) (.c (.v (.int .i64 0))), (some (10, true))⟩,
    ⟨(some 17), .pick (.t 10) (.t 16) (.c (.v (.bool false))), none⟩] []) <|
  .keep [0, 1, 4, 5, 17] [[4]]) <|
  .cond (.t 17) (.skip) <|
  .seq (.keep [0, 1, 4, 5] [[4]]) <|
  .exit 0) <|
  .seq (.blk 1 <|
  .seq (.reg [⟨(some 18), .mov (.t 5), none⟩,
    ⟨(some 19), .bin .sub (.t 18) (.c (.v (.int .i64 1))), none⟩,
    ⟨(some 5), .mov (.t 19), none⟩] []) <|
  .keep [0, 1, 4, 5] [[4]]) <|
  .keep [0, 1, 4, 5] [[4]]) <|
  .keep [0, 1, 4, 5] [[4]]
def integer_of : CF := ⟨2, .seq (.seq (.reg [⟨(some 4), .new [.v (.bool false), .z true], none⟩] []) <|
  .keep [0, 1, 4] [[4]]) <|
  .seq (.seq (.reg [⟨(some 6), .mov (.t 1), none⟩,
    ⟨(some 7), .len (.t 6), none⟩,
    ⟨(some 5), .mov (.t 7), none⟩] []) <|
  .keep [0, 1, 4, 5] [[4]]) <|
  .seq (.seq (.blk 0 <|
  .seq (.keep [0, 1, 4, 5] [[4]]) <|
  .loop integer_of_l0) <|
  .keep [0, 1, 4, 5] [[4]]) <|
  .seq (.seq (.seq (.reg [⟨(some 20), .mov (.t 5), none⟩,
    ⟨(some 21), .bin .eql (.t 20) (.c (.v (.int .i64 0))), none⟩] []) <|
  .keep [0, 1, 4, 5, 21] [[4]]) <|
  .cond (.t 21) (.seq (.seq (.reg [⟨(some 22), .build [.v (.bool false), .z true] [], none⟩,
    ⟨none, .store 2 (.t 4) (.t 22), none⟩] []) <|
  .keep [4] [[4]]) <|
  .ret) <|
  .skip) <|
  .seq (.seq (.reg [⟨(some 23), .mov (.t 0), none⟩,
    ⟨(some 24), .mov (.t 1), none⟩,
    ⟨(some 25), .mov (.t 5), none⟩,
    ⟨(some 26), .mov (.t 5), none⟩,
    ⟨(some 27), .slc 1 (.t 24) none (some (.t 25)) (some (.t 26)), none⟩,
    ⟨(some 28), .build [.v (.bool false), .z true] [(0, 1, (.t 23)), (1, 1, (.t 27))], none⟩,
    ⟨none, .store 2 (.t 4) (.t 28), none⟩] []) <|
  .keep [4] [[4]]) <|
  .ret, [.cell 4 (some 2)]⟩

/- 59: gantry/gantryref04.Same -/
def gantryref04_Same_l0 : C :=
  .seq (.seq (.seq (.seq (.reg [⟨(some 20), .mov (.t 5), none⟩,
    ⟨(some 21), .fad 1 (.t 2), none⟩,
    ⟨(some 22), .load none (.t 21), none⟩,
    ⟨(some 23), .len (.t 22), none⟩,
    ⟨(some 24), .bin .lss (.t 20) (.t 23), none⟩] []) <|
  .keep [2, 3, 5, 24] [[2], [3]]) <|
  .cond (.t 24) (.skip) <|
  .seq (.keep [] []) <|
  .exit 0) <|
  .seq (.seq (.blk 1 <|
  .seq (.seq (.reg [⟨(some 27), .fad 1 (.t 2), none⟩,
    ⟨(some 28), .load none (.t 27), none⟩,
    ⟨(some 29), .mov (.t 5), none⟩,
    ⟨(some 30), .ixa 1 (.t 28) (.t 29), none⟩,
    ⟨(some 31), .load none (.t 30), none⟩,
    ⟨(some 32), .fad 1 (.t 3), none⟩,
    ⟨(some 33), .load none (.t 32), none⟩,
    ⟨(some 34), .mov (.t 5), none⟩,
    ⟨(some 35), .ixa 1 (.t 33) (.t 34), none⟩,
    ⟨(some 36), .load none (.t 35), none⟩,
    ⟨(some 37), .bin .neq (.t 31) (.t 36), none⟩] []) <|
  .keep [2, 3, 5, 37] [[2], [3]]) <|
  .cond (.t 37) (.seq (.seq (.reg [⟨(some 4), .mov (.c (.v (.bool false))), none⟩] []) <|
  .keep [4] []) <|
  .ret) <|
  .skip) <|
  .keep [2, 3, 5] [[2], [3]]) <|
  .seq (.reg [⟨(some 25), .mov (.t 5), none⟩,
    ⟨(some 26), .bin .add (.t 25) (.c (.v (.int .i64 1))), none⟩,
    ⟨(some 5), .mov (.t 26), none⟩] []) <|
  .keep [2, 3, 5] [[2], [3]]) <|
  .keep [2, 3, 5] [[2], [3]]
def gantryref04_Same : CF := ⟨2, .seq (.seq (.reg [⟨(some 2), .box (.t 0), none⟩,
    ⟨(some 3), .box (.t 1), none⟩,
    ⟨(some 4), .mov (.c (.v (.bool false))), none⟩] []) <|
  .keep [2, 3] [[2], [3]]) <|
  .seq (.seq (.seq (.reg [⟨(some 6), .fad 0 (.t 2), none⟩,
    ⟨(some 7), .load none (.t 6), none⟩,
    ⟨(some 8), .fad 0 (.t 3), none⟩,
    ⟨(some 9), .load none (.t 8), none⟩,
    ⟨(some 10), .binb true (.t 7) (.t 9), none⟩,
    ⟨(some 11), .mov (.t 10), none⟩,
    ⟨(some 12), .fad 1 (.t 2), (some (11, false))⟩,
    ⟨(some 13), .load none (.t 12), (some (11, false))⟩,
    ⟨(some 14), .len (.t 13), (some (11, false))⟩,
    ⟨(some 15), .fad 1 (.t 3), (some (11, false))⟩,
    ⟨(some 16), .load none (.t 15), (some (11, false))⟩,
    ⟨(some 17), .len (.t 16), (some (11, false))⟩,
    ⟨(some 18), .bin .neq (.t 14) (.t 17), (some (11, false))⟩,
    ⟨(some 19), .pick (.t 11) (.c (.v (.bool true))) (.t 18), none⟩] []) <|
  .keep [2, 3, 19] [[2], [3]]) <|
  .cond (.t 19) (.seq (.seq (.reg [⟨(some 4), .mov (.c (.v (.bool false))), none⟩] []) <|
  .keep [4] []) <|
  .ret) <|
  .skip) <|
  .seq (.seq (.seq (.reg [⟨(some 5), .mov (.c (.v (.int .i64 0))), none⟩] []) <|
  .keep [2, 3, 5] [[2], [3]]) <|
  .seq (.blk 0 <|
  .seq (.keep [2, 3, 5] [[2], [3]]) <|
  .loop gantryref04_Same_l0) <|
  .keep [] []) <|
  .seq (.seq (.reg [⟨(some 4), .mov (.c (.v (.bool true))), none⟩] []) <|
  .keep [4] []) <|
  .ret, [.t 4]⟩

/- 60: gantry/integer.plus -/
def integer_plus_l0 : C :=
  .seq (.seq (.seq (.reg [⟨(some 24), .bin .lss (.t 23) (.t 22), none⟩] []) <|
  .keep [0, 1, 5, 6, 21, 22, 23, 24] [[20]]) <|
  .seq (.cond (.t 24) (.skip) <|
  .seq (.keep [0, 5, 6] [[20]]) <|
  .exit 0) <|
  .seq (.seq (.blk 1 <|
  .seq (.seq (.reg [⟨(some 25), .mov (.t 23), none⟩,
    ⟨(some 26), .ixa 1 (.t 21) (.t 23), none⟩,
    ⟨(some 27), .load none (.t 26), none⟩,
    ⟨(some 7), .mov (.t 25), none⟩,
    ⟨(some 8), .mov (.t 27), none⟩] []) <|
  .keep [0, 1, 5, 6, 7, 8, 21, 22, 23] [[20]]) <|
  .seq (.seq (.reg [⟨(some 28), .mov (.t 8), none⟩,
    ⟨(some 29), .mov (.t 6), none⟩,
    ⟨(some 30), .bin .add (.t 28) (.t 29), none⟩,
    ⟨(some 9), .mov (.t 30), none⟩] []) <|
  .keep [0, 1, 5, 7, 9, 21, 22, 23] [[20]]) <|
  .seq (.seq (.seq (.reg [⟨(some 31), .mov (.t 7), none⟩,
    ⟨(some 32), .mov (.t 1), none⟩,
    ⟨(some 33), .len (.t 32), none⟩,
    ⟨(some 34), .bin .lss (.t 31) (.t 33), none⟩] []) <|
  .keep [0, 1, 5, 7, 9, 21, 22, 23, 34] [[20]]) <|
  .cond (.t 34) (.seq (.reg [⟨(some 35), .mov (.t 9), none⟩,
    ⟨(some 36), .mov (.t 1), none⟩,
    ⟨(some 37), .mov (.t 7), none⟩,
    ⟨(some 38), .ixa 1 (.t 36) (.t 37), none⟩,
    ⟨(some 39), .load none (.t 38), none⟩,
    ⟨(some 40), .bin .add (.t 35) (.t 39), none⟩,
    ⟨(some 9), .mov (.t 40), none⟩] []) <|
  .keep [0, 1, 5, 7, 9, 21, 22, 23] [[20]]) <|
  .skip) <|
  .seq (.seq (.reg [⟨(some 6), .mov (.c (.v (.int .i64 0))), none⟩] []) <|
  .keep [0, 1, 5, 6, 7, 9, 21, 22, 23] [[20]]) <|
  .seq (.seq (.seq (.reg [⟨(some 41), .mov (.t 9), none⟩,
    ⟨(some 42), .bin .geq (.t 41) (.c (.v (.int .i64 1000000000))), none⟩] []) <|
  .keep [0, 1, 5, 6, 7, 9, 21, 22, 23, 42] [[20]]) <|
  .cond (.t 42) (.seq (.reg [⟨(some 43), .mov (.t 9), none⟩,
    ⟨(some 44), .bin .sub (.t 43) (.c (.v (.int .i64 1000000000))), none⟩,
    ⟨(some 9), .mov (.t 44), none⟩,
    ⟨(some 6), .mov (.c (.v (.int .i64 1))), none⟩] []) <|
  .keep [0, 1, 5, 6, 7, 9, 21, 22, 23] [[20]]) <|
  .skip) <|
  .seq (.reg [⟨(some 45), .mov (.t 5), none⟩,
    ⟨(some 46), .mov (.t 7), none⟩,
    ⟨(some 47), .mov (.t 9), none⟩,
    ⟨(some 48), .ixa 1 (.t 45) (.t 46), none⟩,
    ⟨none, .store 1 (.t 48) (.t 47), none⟩] []) <|
  .keep [0, 1, 5, 6, 21, 22, 23] [[20]]) <|
  .keep [0, 1, 5, 6, 21, 22, 23] [[20]]) <|
  .seq (.reg [⟨(some 49), .bin .add (.t 23) (.c (.v (.int .i64 1))), none⟩,
    ⟨(some 23), .mov (.t 49), none⟩] []) <|
  .keep [0, 1, 5, 6, 21, 22, 23] [[20]]) <|
  .keep [0, 1, 5, 6, 21, 22, 23] [[20]]
def integer_plus : CF := ⟨2, .seq (.seq (.reg [⟨(some 4), .mov (.c (.z true)), none⟩] []) <|
  .keep [0, 1] []) <|
  .seq (.seq (.seq (.reg [⟨(some 10), .mov (.t 0), none⟩,
    ⟨(some 11), .len (.t 10), none⟩,
    ⟨(some 12), .mov (.t 1), none⟩,
    ⟨(some 13), .len (.t 12), none⟩,
    ⟨(some 14), .bin .lss (.t 11) (.t 13), none⟩] []) <|
  .keep [0, 1, 14] []) <|
  .cond (.t 14) (.seq (.reg [⟨(some 15), .mov (.t 1), none⟩,
    ⟨(some 16), .mov (.t 0), none⟩,
    ⟨(some 0), .mov (.t 15), none⟩,
    ⟨(some 1), .mov (.t 16), none⟩] []) <|
  .keep [0, 1] []) <|
  .skip) <|
  .seq (.seq (.reg [⟨(some 17), .mov (.t 0), none⟩,
    ⟨(some 18), .len (.t 17), none⟩,
    ⟨(some 19), .bin .add (.t 18) (.c (.v (.int .i64 1))), none⟩,
    ⟨(some 20), .mksl 1 8 [.v (.int .i64 0)] (.t 19) (.t 19), none⟩,
    ⟨(some 5), .mov (.t 20), none⟩] []) <|
  .keep [0, 1, 5] [[20]]) <|
  .seq (.seq (.reg [⟨(some 6), .mov (.c (.v (.int .i64 0))), none⟩] []) <|
  .keep [0, 1, 5, 6] [[20]]) <|
  .seq (.seq (.seq (.reg [⟨(some 21), .mov (.t 0), none⟩,
    ⟨(some 22), .len (.t 21), none⟩,
    ⟨(some 23), .mov (.c (.v (.int .i64 0))), none⟩] []) <|
  .keep [0, 1, 5, 6, 21, 22, 23] [[20]]) <|
  .seq (.blk 0 <|
  .seq (.keep [0, 1, 5, 6, 21, 22, 23] [[20]]) <|
  .loop integer_plus_l0) <|
  .keep [0, 5, 6] [[20]]) <|
  .seq (.seq (.reg [⟨(some 50), .mov (.t 5), none⟩,
    ⟨(some 51), .mov (.t 0), none⟩,
    ⟨(some 52), .len (.t 51), none⟩,
    ⟨(some 53), .mov (.t 6), none⟩,
    ⟨(some 54), .ixa 1 (.t 50) (.t 52), none⟩,
    ⟨none, .store 1 (.t 54) (.t 53), none⟩] []) <|
  .keep [5] [[20]]) <|
  .seq (.seq (.reg [⟨(some 55), .mov (.t 5), none⟩,
    ⟨(some 4), .mov (.t 55), none⟩] []) <|
  .keep [4] [[20]]) <|
  .ret, [.t 4]⟩

/- 61: gantry/integer.compare -/
def integer_compare_l0 : C :=
  .seq (.seq (.seq (.seq (.reg [⟨(some 19), .mov (.t 5), none⟩,
    ⟨(some 20), .bin .geq (.t 19) (.c (.v (.int .i64 0))), none⟩] []) <|
  .keep [0, 1, 5, 20] []) <|
  .cond (.t 20) (.skip) <|
  .seq (.keep [] []) <|
  .exit 0) <|
  .seq (.seq (.blk 1 <|
  .seq (.seq (.reg [⟨(some 23), .mov (.t 0), none⟩,
    ⟨(some 24), .mov (.t 5), none⟩,
    ⟨(some 25), .ixa 1 (.t 23) (.t 24), none⟩,
    ⟨(some 26), .load none (.t 25), none⟩,
    ⟨(some 27), .mov (.t 1), none⟩,
    ⟨(some 28), .mov (.t 5), none⟩,
    ⟨(some 29), .ixa 1 (.t 27) (.t 28), none⟩,
    ⟨(some 30), .load none (.t 29), none⟩,
    ⟨(some 31), .bin .neq (.t 26) (.t 30), none⟩] []) <|
  .keep [0, 1, 5, 31] []) <|
  .cond (.t 31) (.seq (.seq (.reg [⟨(some 32), .mov (.t 0), none⟩,
    ⟨(some 33), .mov (.t 5), none⟩,
    ⟨(some 34), .ixa 1 (.t 32) (.t 33), none⟩,
    ⟨(some 35), .load none (.t 34), none⟩,
    ⟨(some 36), .mov (.t 1), none⟩,
    ⟨(some 37), .mov (.t 5), none⟩,
    ⟨(some 38), .ixa 1 (.t 36) (.t 37), none⟩,
    ⟨(some 39), .load none (.t 38), none⟩,
    ⟨(some 40), .call n_cmp_Compare_int [(.t 35), (.t 39)] false, none⟩,
    ⟨(some 4), .mov (.t 40), none⟩] []) <|
  .keep [4] []) <|
  .ret) <|
  .skip) <|
  .keep [0, 1, 5] []) <|
  .seq (.reg [⟨(some 21), .mov (.t 5), none⟩,
    ⟨(some 22), .bin .sub (.t 21) (.c (.v (.int .i64 1))), none⟩,
    ⟨(some 5), .mov (.t 22), none⟩] []) <|
  .keep [0, 1, 5] []) <|
  .keep [0, 1, 5] []
def integer_compare : CF := ⟨2, .seq (.seq (.reg [⟨(some 4), .mov (.c (.v (.int .i64 0))), none⟩] []) <|
  .keep [0, 1] []) <|
  .seq (.seq (.seq (.reg [⟨(some 6), .mov (.t 0), none⟩,
    ⟨(some 7), .len (.t 6), none⟩,
    ⟨(some 8), .mov (.t 1), none⟩,
    ⟨(some 9), .len (.t 8), none⟩,
    ⟨(some 10), .bin .neq (.t 7) (.t 9), none⟩] []) <|
  .keep [0, 1, 10] []) <|
  .cond (.t 10) (.seq (.seq (.reg [⟨(some 11), .mov (.t 0), none⟩,
    ⟨(some 12), .len (.t 11), none⟩,
    ⟨(some 13), .mov (.t 1), none⟩,
    ⟨(some 14), .len (.t 13), none⟩,
    ⟨(some 15), .call n_cmp_Compare_int [(.t 12), (.t 14)] false, none⟩,
    ⟨(some 4), .mov (.t 15), none⟩] []) <|
  .keep [4] []) <|
  .ret) <|
  .skip) <|
  .seq (.seq (.seq (.reg [⟨(some 16), .mov (.t 0), none⟩,
    ⟨(some 17), .len (.t 16), none⟩,
    ⟨(some 18), .bin .sub (.t 17) (.c (.v (.int .i64 1))), none⟩,
    ⟨(some 5), .mov (.t 18), none⟩] []) <|
  .keep [0, 1, 5] []) <|
  .seq (.blk 0 <|
  .seq (.keep [0, 1, 5] []) <|
  .loop integer_compare_l0) <|
  .keep [] []) <|
  .seq (.seq (.reg [⟨(some 4), .mov (.c (.v (.int .i64 0))), none⟩] []) <|
  .keep [4] []) <|
  .ret, [.t 4]⟩

/- 62: gantry/integer.minus -/
def integer_minus_l0 : C :=
  .seq (.seq (.seq (.reg [⟨(some 16), .bin .lss (.t 15) (.t 14), none⟩] []) <|
  .keep [1, 5, 14, 15, 16] [[9]]) <|
  .seq (.cond (.t 16) (.skip) <|
  .seq (.keep [5] [[9]]) <|
  .exit 0) <|
  .seq (.seq (.blk 1 <|
  .seq (.seq (.reg [⟨(some 17), .mov (.t 15), none⟩,
    ⟨(some 6), .mov (.t 17), none⟩] []) <|
  .keep [1, 5, 6, 14, 15] [[9]]) <|
  .seq (.seq (.seq (.reg [⟨(some 18), .mov (.t 6), none⟩,
    ⟨(some 19), .mov (.t 1), none⟩,
    ⟨(some 20), .len (.t 19), none⟩,
    ⟨(some 21), .bin .lss (.t 18) (.t 20), none⟩] []) <|
  .keep [1, 5, 6, 14, 15, 21] [[9]]) <|
  .cond (.t 21) (.seq (.reg [⟨(some 22), .mov (.t 5), none⟩,
    ⟨(some 23), .mov (.t 6), none⟩,
    ⟨(some 24), .ixa 1 (.t 22) (.t 23), none⟩,
    ⟨(some 25), .load none (.t 24), none⟩,
    ⟨(some 26), .mov (.t 1), none⟩,
    ⟨(some 27), .mov (.t 6), none⟩,
    ⟨(some 28), .ixa 1 (.t 26) (.t 27), none⟩,
    ⟨(some 29), .load none (.t 28), none⟩,
    ⟨(some 30), .bin .sub (.t 25) (.t 29), none⟩,
    ⟨(some 31), .ixa 1 (.t 22) (.t 23), none⟩,
    ⟨none, .store 1 (.t 31) (.t 30), none⟩] []) <|
  .keep [1, 5, 6, 14, 15] [[9]]) <|
  .skip) <|
  .seq (.seq (.reg [⟨(some 32), .mov (.t 5), none⟩,
    ⟨(some 33), .mov (.t 6), none⟩,
    ⟨(some 34), .ixa 1 (.t 32) (.t 33), none⟩,
    ⟨(some 35), .load none (.t 34), none⟩,
    ⟨(some 36), .bin .lss (.t 35) (.c (.v (.int .i64 0))), none⟩] []) <|
  .keep [1, 5, 6, 14, 15, 36] [[9]]) <|
  .cond (.t 36) (.seq (.seq (.reg [⟨(some 37), .mov (.t 5), none⟩,
    ⟨(some 38), .mov (.t 6), none⟩,
    ⟨(some 39), .ixa 1 (.t 37) (.t 38), none⟩,
    ⟨(some 40), .load none (.t 39), none⟩,
    ⟨(some 41), .bin .add (.t 40) (.c (.v (.int .i64 1000000000))), none⟩,
    ⟨(some 42), .ixa 1 (.t 37) (.t 38), none⟩,
    ⟨none, .store 1 (.t 42) (.t 41), none⟩] []) <|
  .keep [1, 5, 6, 14, 15] [[9]]) <|
  .seq (.reg [⟨(some 43), .mov (.t 5), none⟩,
    ⟨(some 44), .mov (.t 6), none⟩,
    ⟨(some 45), .bin .add (.t 44) (.c (.v (.int .i64 1))), none⟩,
    ⟨(some 46), .ixa 1 (.t 43) (.t 45), none⟩,
    ⟨(some 47), .load none (.t 46), none⟩,
    ⟨(some 48), .bin .sub (.t 47) (.c (.v (.int .i64 1))), none⟩,
    ⟨(some 49), .ixa 1 (.t 43) (.t 45), none⟩,
    ⟨none, .store 1 (.t 49) (.t 48), none⟩] []) <|
  .keep [1, 5, 14, 15] [[9]]) <|
  .skip) <|
  .keep [1, 5, 14, 15] [[9]]) <|
  .seq (.reg [⟨(some 50), .bin .add (.t 15) (.c (.v (.int .i64 1))), none⟩,
    ⟨(some 15), .mov (.t 50), none⟩] []) <|
  .keep [1, 5, 14, 15] [[9]]) <|
  .keep [1, 5, 14, 15] [[9]]
def integer_minus : CF := ⟨2, .seq (.seq (.reg [⟨(some 4), .mov (.c (.z true)), none⟩] []) <|
  .keep [0, 1] []) <|
  .seq (.seq (.reg [⟨(some 7), .mov (.t 0), none⟩,
    ⟨(some 8), .len (.t 7), none⟩,
    ⟨(some 9), .mksl 1 8 [.v (.int .i64 0)] (.t 8) (.t 8), none⟩,
    ⟨(some 5), .mov (.t 9), none⟩] []) <|
  .keep [0, 1, 5] [[9]]) <|
  .seq (.seq (.reg [⟨(some 10), .mov (.t 5), none⟩,
    ⟨(some 11), .mov (.t 0), none⟩,
    ⟨(some 12), .cpy 1 (.t 10) (.t 11), none⟩] []) <|
  .keep [1, 5] [[9]]) <|
  .seq (.seq (.seq (.reg [⟨(some 13), .mov (.t 5), none⟩,
    ⟨(some 14), .len (.t 13), none⟩,
    ⟨(some 15), .mov (.c (.v (.int .i64 0))), none⟩] []) <|
  .keep [1, 5, 14, 15] [[9]]) <|
  .seq (.blk 0 <|
  .seq (.keep [1, 5, 14, 15] [[9]]) <|
  .loop integer_minus_l0) <|
  .keep [5] [[9]]) <|
  .seq (.seq (.reg [⟨(some 51), .mov (.t 5), none⟩,
    ⟨(some 4), .mov (.t 51), none⟩] []) <|
  .keep [4] [[9]]) <|
  .ret, [.t 4]⟩

/- 63: gantry/integer.unsigned -/
def integer_unsigned : CF := ⟨2, .seq (.seq (.reg [⟨(some 4), .new [.v (.bool false), .z true], none⟩] []) <|
  .keep [0, 1, 4] [[4]]) <|
  .seq (.seq (.blk 0 <|
  .seq (.seq (.reg [⟨(some 6), .mov (.t 1), none⟩,
    ⟨(some 7), .bin .eql (.t 6) (.c (.v (.int .u64 0))), none⟩,
    ⟨(some 5), .mov (.t 7), none⟩] []) <|
  .keep [0, 1, 4, 5] [[4]]) <|
  .cond (.t 5) (.seq (.seq (.reg [⟨(some 8), .build [.v (.bool false), .z true] [], none⟩,
    ⟨none, .store 2 (.t 4) (.t 8), none⟩] []) <|
  .keep [4] [[4]]) <|
  .ret) <|
  .seq (.seq (.reg [⟨(some 10), .mov (.t 1), none⟩,
    ⟨(some 11), .bin .lss (.t 10) (.c (.v (.int .u64 1000000000))), none⟩,
    ⟨(some 9), .mov (.t 11), none⟩] []) <|
  .keep [0, 1, 4, 9] [[4]]) <|
  .cond (.t 9) (.seq (.seq (.reg [⟨(some 12), .mov (.t 0), none⟩,
    ⟨(some 13), .mov (.t 1), none⟩,
    ⟨(some 14), .conv (.int .i64) (.t 13), none⟩,
    ⟨(some 15), .lit 1 1 [.v (.int .i64 0)] [(0, (.t 14))] true, none⟩,
    ⟨(some 16), .build [.v (.bool false), .z true] [(0, 1, (.t 12)), (1, 1, (.t 15))], none⟩,
    ⟨none, .store 2 (.t 4) (.t 16), none⟩] []) <|
  .keep [4] [[4]]) <|
  .ret) <|
  .seq (.seq (.reg [⟨(some 18), .mov (.t 1), none⟩,
    ⟨(some 19), .bin .lss (.t 18) (.c (.v (.int .u64 1000000000000000000))), none⟩,
    ⟨(some 17), .mov (.t 19), none⟩] []) <|
  .keep [0, 1, 4, 17] [[4]]) <|
  .cond (.t 17) (.seq (.seq (.reg [⟨(some 20), .mov (.t 0), none⟩,
    ⟨(some 21), .mov (.t 1), none⟩,
    ⟨(some 22), .bin .rem (.t 21) (.c (.v (.int .u64 1000000000))), none⟩,
    ⟨(some 23), .conv (.int .i64) (.t 22), none⟩,
    ⟨(some 24), .mov (.t 1), none⟩,
    ⟨(some 25), .bin .quo (.t 24) (.c (.v (.int .u64 1000000000))), none⟩,
    ⟨(some 26), .conv (.int .i64) (.t 25), none⟩,
    ⟨(some 27), .lit 1 2 [.v (.int .i64 0)] [(0, (.t 23)), (1, (.t 26))] true, none⟩,
    ⟨(some 28), .build [.v (.bool false), .z true] [(0, 1, (.t 20)), (1, 1, (.t 27))], none⟩,
    ⟨none, .store 2 (.t 4) (.t 28), none⟩] []) <|
  .keep [4] [[4]]) <|
  .ret) <|
  .skip) <|
  .keep [0, 1, 4] [[4]]) <|
  .seq (.seq (.reg [⟨(some 29), .mov (.t 0), none⟩,
    ⟨(some 30), .mov (.t 1), none⟩,
    ⟨(some 31), .bin .rem (.t 30) (.c (.v (.int .u64 1000000000))), none⟩,
    ⟨(some 32), .conv (.int .i64) (.t 31), none⟩,
    ⟨(some 33), .mov (.t 1), none⟩,
    ⟨(some 34), .bin .quo (.t 33) (.c (.v (.int .u64 1000000000))), none⟩,
    ⟨(some 35), .bin .rem (.t 34) (.c (.v (.int .u64 1000000000))), none⟩,
    ⟨(some 36), .conv (.int .i64) (.t 35), none⟩,
    ⟨(some 37), .mov (.t 1), none⟩,
    ⟨(some 38), .bin .quo (.t 37) (.c (.v (.int .u64 1000000000))), none⟩,
    ⟨(some 39), .bin .quo (.t 38) (.c (.v (.int .u64 1000000000))), none⟩,
    ⟨(some 40), .conv (.int .i64) (.t 39), none⟩,
    ⟨(some 41), .lit 1 3 [.v (.int .i64 0)] [(0, (.t 32)), (1, (.t 36)), (2, (.t 40))] true, none⟩,
    ⟨(some 42), .build [.v (.bool false), .z true] [(0, 1, (.t 29)), (1, 1, (.t 41))], none⟩,
    ⟨none, .store 2 (.t 4) (.t 42), none⟩] []) <|
  .keep [4] [[4]]) <|
  .ret, [.cell 4 (some 2)]⟩

/- 64: gantry/integer.divide -/
def integer_divide : CF := ⟨2, .seq (.seq (.reg [⟨(some 4), .new [.v (.bool false), .z true], none⟩,
    ⟨(some 5), .new [.v (.bool false), .z true], none⟩] []) <|
  .keep [0, 1, 4, 5] [[4], [5]]) <|
  .seq (.seq (.seq (.reg [⟨(some 15), .mov (.t 0), none⟩,
    ⟨(some 16), .call n_integer_two [(.t 15)] false, none⟩,
    ⟨(some 14), .mov (.t 16), none⟩,
    ⟨(some 17), .ext (.t 14) 0, none⟩,
    ⟨(some 18), .ext (.t 14) 1, none⟩,
    ⟨(some 6), .mov (.t 17), none⟩,
    ⟨(some 7), .mov (.t 18), none⟩] []) <|
  .keep [0, 1, 4, 5, 6, 7] [[4], [5]]) <|
  .seq (.seq (.reg [⟨(some 19), .mov (.t 7), none⟩] []) <|
  .keep [0, 1, 4, 5, 6, 19] [[4], [5]]) <|
  .cond (.t 19) (.seq (.seq (.reg [⟨(some 21), .mov (.t 1), none⟩,
    ⟨(some 22), .call n_integer_two [(.t 21)] false, none⟩,
    ⟨(some 20), .mov (.t 22), none⟩,
    ⟨(some 23), .ext (.t 20) 0, none⟩,
    ⟨(some 24), .ext (.t 20) 1, none⟩,
    ⟨(some 8), .mov (.t 23), none⟩,
    ⟨(some 9), .mov (.t 24), none⟩] []) <|
  .keep [0, 1, 4, 5, 6, 8, 9] [[4], [5]]) <|
  .seq (.seq (.reg [⟨(some 25), .mov (.t 9), none⟩] []) <|
  .keep [0, 1, 4, 5, 6, 8, 25] [[4], [5]]) <|
  .cond (.t 25) (.seq (.seq (.reg [⟨(some 26), .mov (.t 6), none⟩,
    ⟨(some 27), .mov (.t 8), none⟩,
    ⟨(some 28), .bin .quo (.t 26) (.t 27), none⟩,
    ⟨(some 29), .conv (.int .u64) (.t 28), none⟩,
    ⟨(some 30), .call n_integer_unsigned [(.c (.v (.bool false))), (.t 29)] false, none⟩,
    ⟨(some 31), .mov (.t 6), none⟩,
    ⟨(some 32), .mov (.t 8), none⟩,
    ⟨(some 33), .bin .rem (.t 31) (.t 32), none⟩,
    ⟨(some 34), .conv (.int .u64) (.t 33), none⟩,
    ⟨(some 35), .call n_integer_unsigned [(.c (.v (.bool false))), (.t 34)] false, none⟩,
    ⟨none, .store 2 (.t 4) (.t 30), none⟩,
    ⟨none, .store 2 (.t 5) (.t 35), none⟩] []) <|
  .keep [4, 5] [[4], [5]]) <|
  .ret) <|
  .skip) <|
  .skip) <|
  .seq (.seq (.seq (.reg [⟨(some 36), .mov (.t 0), none⟩,
    ⟨(some 37), .mov (.t 1), none⟩,
    ⟨(some 38), .call n_integer_compare [(.t 36), (.t 37)] false, none⟩,
    ⟨(some 39), .bin .lss (.t 38) (.c (.v (.int .i64 0))), none⟩] []) <|
  .keep [0, 1, 4, 5, 39] [[4], [5]]) <|
  .cond (.t 39) (.seq (.seq (.reg [⟨(some 40), .build [.v (.bool false), .z true] [], none⟩,
    ⟨(some 41), .mov (.t 0), none⟩,
    ⟨(some 42), .call n_integer_of [(.c (.v (.bool false))), (.t 41)] false, none⟩,
    ⟨none, .store 2 (.t 4) (.t 40), none⟩,
    ⟨none, .store 2 (.t 5) (.t 42), none⟩] []) <|
  .keep [4, 5] [[4], [5]]) <|
  .ret) <|
  .skip) <|
  .seq (.seq (.seq (.reg [⟨(some 43), .mov (.t 1), none⟩,
    ⟨(some 44), .len (.t 43), none⟩,
    ⟨(some 45), .bin .eql (.t 44) (.c (.v (.int .i64 1))), none⟩] []) <|
  .keep [0, 1, 4, 5, 45] [[4], [5]]) <|
  .cond (.t 45) (.seq (.seq (.reg [⟨(some 47), .mov (.t 0), none⟩,
    ⟨(some 48), .mov (.t 1), none⟩,
    ⟨(some 49), .ixa 1 (.t 48) (.c (.v (.int .i64 0))), none⟩,
    ⟨(some 50), .load none (.t 49), none⟩,
    ⟨(some 51), .call n_integer_short [(.t 47), (.t 50)] false, none⟩,
    ⟨(some 46), .mov (.t 51), none⟩,
    ⟨(some 52), .ext (.t 46) 0, none⟩,
    ⟨(some 53), .ext (.t 46) 1, none⟩,
    ⟨(some 10), .mov (.t 52), none⟩,
    ⟨(some 11), .mov (.t 53), none⟩] []) <|
  .keep [4, 5, 10, 11] [[4], [5]]) <|
  .seq (.seq (.reg [⟨(some 54), .mov (.t 10), none⟩,
    ⟨(some 55), .call n_integer_of [(.c (.v (.bool false))), (.t 54)] false, none⟩,
    ⟨(some 56), .mov (.t 11), none⟩,
    ⟨(some 57), .conv (.int .u64) (.t 56), none⟩,
    ⟨(some 58), .call n_integer_unsigned [(.c (.v (.bool false))), (.t 57)] false, none⟩,
    ⟨none, .store 2 (.t 4) (.t 55), none⟩,
    ⟨none, .store 2 (.t 5) (.t 58), none⟩] []) <|
  .keep [4, 5] [[4], [5]]) <|
  .ret) <|
  .skip) <|
  .seq (.seq (.reg [⟨(some 60), .mov (.t 0), none⟩,
    ⟨(some 61), .mov (.t 1), none⟩,
    ⟨(some 62), .call n_integer_long [(.t 60), (.t 61)] false, none⟩,
    ⟨(some 59), .mov (.t 62), none⟩,
    ⟨(some 63), .ext (.t 59) 0, none⟩,
    ⟨(some 64), .ext (.t 59) 1, none⟩,
    ⟨(some 12), .mov (.t 63), none⟩,
    ⟨(some 13), .mov (.t 64), none⟩] []) <|
  .keep [4, 5, 12, 13] [[4], [5]]) <|
  .seq (.seq (.reg [⟨(some 65), .mov (.t 12), none⟩,
    ⟨(some 66), .call n_integer_of [(.c (.v (.bool false))), (.t 65)] false, none⟩,
    ⟨(some 67), .mov (.t 13), none⟩,
    ⟨(some 68), .call n_integer_of [(.c (.v (.bool false))), (.t 67)] false, none⟩,
    ⟨none, .store 2 (.t 4) (.t 66), none⟩,
    ⟨none, .store 2 (.t 5) (.t 68), none⟩] []) <|
  .keep [4, 5] [[4], [5]]) <|
  .ret, [.cell 4 (some 2), .cell 5 (some 2)]⟩

/- 65: gantry/gantryref04.divided -/
def gantryref04_divided_l0 : C :=
  .seq (.seq (.seq (.seq (.reg [⟨(some 64), .mov (.t 12), none⟩,
    ⟨(some 65), .mov (.t 13), none⟩,
    ⟨(some 66), .bin .lss (.t 64) (.t 65), none⟩] []) <|
  .keep [0, 1, 8, 9, 10, 12, 13, 66] [[42]]) <|
  .cond (.t 66) (.skip) <|
  .seq (.keep [0, 1, 8, 9, 10, 12] [[42]]) <|
  .exit 2) <|
  .seq (.blk 3 <|
  .seq (.seq (.reg [⟨(some 67), .mov (.t 12), none⟩,
    ⟨(some 68), .mov (.t 13), none⟩,
    ⟨(some 69), .bin .add (.t 67) (.t 68), none⟩,
    ⟨(some 70), .bin .add (.t 69) (.c (.v (.int .i64 1))), none⟩,
    ⟨(some 71), .bin .quo (.t 70) (.c (.v (.int .i64 2))), none⟩,
    ⟨(some 14), .mov (.t 71), none⟩] []) <|
  .keep [0, 1, 8, 9, 10, 12, 13, 14] [[42]]) <|
  .seq (.seq (.reg [⟨(some 72), .mov (.t 1), none⟩,
    ⟨(some 73), .mov (.t 14), none⟩,
    ⟨(some 74), .call n_gantryref04_times [(.t 72), (.t 73)] false, none⟩,
    ⟨(some 75), .mov (.t 9), none⟩,
    ⟨(some 76), .call n_gantryref04_compared [(.t 74), (.t 75)] false, none⟩,
    ⟨(some 77), .bin .leq (.t 76) (.c (.v (.int .i64 0))), none⟩] []) <|
  .keep [0, 1, 8, 9, 10, 12, 13, 14, 77] [[42]]) <|
  .cond (.t 77) (.seq (.reg [⟨(some 78), .mov (.t 14), none⟩,
    ⟨(some 12), .mov (.t 78), none⟩] []) <|
  .keep [0, 1, 8, 9, 10, 12, 13] [[42]]) <|
  .seq (.reg [⟨(some 79), .mov (.t 14), none⟩,
    ⟨(some 80), .bin .sub (.t 79) (.c (.v (.int .i64 1))), none⟩,
    ⟨(some 13), .mov (.t 80), none⟩] []) <|
  .keep [0, 1, 8, 9, 10, 12, 13] [[42]]) <|
  .keep [0, 1, 8, 9, 10, 12, 13] [[42]]) <|
  .keep [0, 1, 8, 9, 10, 12, 13] [[42]]
def gantryref04_divided_l1 : C :=
  .seq (.seq (.seq (.seq (.reg [⟨(some 46), .mov (.t 10), none⟩,
    ⟨(some 47), .bin .geq (.t 46) (.c (.v (.int .i64 0))), none⟩] []) <|
  .keep [0, 1, 8, 9, 10, 47] [[42]]) <|
  .cond (.t 47) (.skip) <|
  .seq (.keep [8, 9] [[42]]) <|
  .exit 0) <|
  .seq (.seq (.blk 1 <|
  .seq (.seq (.reg [⟨(some 50), .mov (.t 0), none⟩,
    ⟨(some 51), .mov (.t 10), none⟩,
    ⟨(some 52), .ixa 1 (.t 50) (.t 51), none⟩,
    ⟨(some 53), .load none (.t 52), none⟩,
    ⟨(some 54), .lit 1 1 [.v (.int .i64 0)] [(0, (.t 53))] false, none⟩,
    ⟨(some 55), .mov (.t 9), none⟩,
    ⟨(some 56), .app 1 8 (.t 54) (.t 55) true, none⟩,
    ⟨(some 57), .call n_gantryref04_normal [(.c (.v (.bool false))), (.t 56)] false, none⟩,
    ⟨(some 11), .new [.v (.bool false), .z true], none⟩,
    ⟨none, .store 2 (.t 11) (.t 57), none⟩] []) <|
  .keep [0, 1, 8, 10, 11] [[11], [42]]) <|
  .seq (.seq (.reg [⟨(some 58), .fad 1 (.t 11), none⟩,
    ⟨(some 59), .load none (.t 58), none⟩,
    ⟨(some 9), .mov (.t 59), none⟩] []) <|
  .keep [0, 1, 8, 9, 10] [[42]]) <|
  .seq (.seq (.reg [⟨(some 12), .mov (.c (.v (.int .i64 0))), none⟩] []) <|
  .keep [0, 1, 8, 9, 10, 12] [[42]]) <|
  .seq (.seq (.reg [⟨(some 13), .mov (.c (.v (.int .i64 999999999))), none⟩] []) <|
  .keep [0, 1, 8, 9, 10, 12, 13] [[42]]) <|
  .seq (.seq (.seq (.reg [⟨(some 60), .mov (.t 9), none⟩,
    ⟨(some 61), .mov (.t 1), none⟩,
    ⟨(some 62), .call n_gantryref04_compared [(.t 60), (.t 61)] false, none⟩,
    ⟨(some 63), .bin .lss (.t 62) (.c (.v (.int .i64 0))), none⟩] []) <|
  .keep [0, 1, 8, 9, 10, 12, 13, 63] [[42]]) <|
  .cond (.t 63) (.seq (.reg [⟨(some 13), .mov (.c (.v (.int .i64 0))), none⟩] []) <|
  .keep [0, 1, 8, 9, 10, 12, 13] [[42]]) <|
  .skip) <|
  .seq (.seq (.blk 2 <|
  .seq (.keep [0, 1, 8, 9, 10, 12, 13] [[42]]) <|
  .loop gantryref04_divided_l0) <|
  .keep [0, 1, 8, 9, 10, 12] [[42]]) <|
  .seq (.seq (.reg [⟨(some 81), .mov (.t 9), none⟩,
    ⟨(some 82), .mov (.t 1), none⟩,
    ⟨(some 83), .mov (.t 12), none⟩,
    ⟨(some 84), .call n_gantryref04_times [(.t 82), (.t 83)] false, none⟩,
    ⟨(some 85), .call n_gantryref04_minus [(.t 81), (.t 84)] false, none⟩,
    ⟨(some 86), .call n_gantryref04_normal [(.c (.v (.bool false))), (.t 85)] false, none⟩,
    ⟨(some 15), .new [.v (.bool false), .z true], none⟩,
    ⟨none, .store 2 (.t 15) (.t 86), none⟩] []) <|
  .keep [0, 1, 8, 10, 12, 15] [[15], [42]]) <|
  .seq (.seq (.reg [⟨(some 87), .mov (.t 8), none⟩,
    ⟨(some 88), .mov (.t 10), none⟩,
    ⟨(some 89), .mov (.t 12), none⟩,
    ⟨(some 90), .ixa 1 (.t 87) (.t 88), none⟩,
    ⟨none, .store 1 (.t 90) (.t 89), none⟩] []) <|
  .keep [0, 1, 8, 10, 15] [[15], [42]]) <|
  .seq (.reg [⟨(some 91), .fad 1 (.t 15), none⟩,
    ⟨(some 92), .load none (.t 91), none⟩,
    ⟨(some 9), .mov (.t 92), none⟩] []) <|
  .keep [0, 1, 8, 9, 10] [[42]]) <|
  .keep [0, 1, 8, 9, 10] [[42]]) <|
  .seq (.reg [⟨(some 48), .mov (.t 10), none⟩,
    ⟨(some 49), .bin .sub (.t 48) (.c (.v (.int .i64 1))), none⟩,
    ⟨(some 10), .mov (.t 49), none⟩] []) <|
  .keep [0, 1, 8, 9, 10] [[42]]) <|
  .keep [0, 1, 8, 9, 10] [[42]]
def gantryref04_divided : CF := ⟨2, .seq (.seq (.reg [⟨(some 4), .mov (.c (.z true)), none⟩,
    ⟨(some 5), .mov (.c (.z true)), none⟩] []) <|
  .keep [0, 1] []) <|
  .seq (.seq (.seq (.reg [⟨(some 16), .mov (.t 0), none⟩,
    ⟨(some 17), .len (.t 16), none⟩,
    ⟨(some 18), .bin .leq (.t 17) (.c (.v (.int .i64 2))), none⟩,
    ⟨(some 19), .mov (.t 18), none⟩,
    ⟨(some 20), .mov (.t 1), (some (19, true))⟩,
    ⟨(some 21), .len (.t 20), (some (19, true))⟩,
    ⟨(some 22), .bin .leq (.t 21) (.c (.v (.int .i64 2))), (some (19, true))⟩,
    ⟨(some 23), .pick (.t 19) (.t 22) (.c (.v (.bool false))), none⟩] []) <|
  .keep [0, 1, 23] []) <|
  .cond (.t 23) (.seq (.seq (.reg [⟨(some 24), .mov (.t 0), none⟩,
    ⟨(some 25), .call n_gantryref04_tiny [(.t 24)] false, none⟩,
    ⟨(some 26), .mov (.t 1), none⟩,
    ⟨(some 27), .call n_gantryref04_tiny [(.t 26)] false, none⟩,
    ⟨(some 28), .bin .quo (.t 25) (.t 27), none⟩,
    ⟨(some 29), .call n_gantryref04_Of [(.t 28)] false, none⟩,
    ⟨(some 6), .new [.v (.bool false), .z true], none⟩,
    ⟨none, .store 2 (.t 6) (.t 29), none⟩] []) <|
  .keep [0, 1, 6] [[6]]) <|
  .seq (.seq (.reg [⟨(some 30), .mov (.t 0), none⟩,
    ⟨(some 31), .call n_gantryref04_tiny [(.t 30)] false, none⟩,
    ⟨(some 32), .mov (.t 1), none⟩,
    ⟨(some 33), .call n_gantryref04_tiny [(.t 32)] false, none⟩,
    ⟨(some 34), .bin .rem (.t 31) (.t 33), none⟩,
    ⟨(some 35), .call n_gantryref04_Of [(.t 34)] false, none⟩,
    ⟨(some 7), .new [.v (.bool false), .z true], none⟩,
    ⟨none, .store 2 (.t 7) (.t 35), none⟩] []) <|
  .keep [6, 7] [[6], [7]]) <|
  .seq (.seq (.reg [⟨(some 36), .fad 1 (.t 6), none⟩,
    ⟨(some 37), .load none (.t 36), none⟩,
    ⟨(some 38), .fad 1 (.t 7), none⟩,
    ⟨(some 39), .load none (.t 38), none⟩,
    ⟨(some 4), .mov (.t 37), none⟩,
    ⟨(some 5), .mov (.t 39), none⟩] []) <|
  .keep [4, 5] [[42]]) <|
  .ret) <|
  .skip) <|
  .seq (.seq (.reg [⟨(some 40), .mov (.t 0), none⟩,
    ⟨(some 41), .len (.t 40), none⟩,
    ⟨(some 42), .mksl 1 8 [.v (.int .i64 0)] (.t 41) (.t 41), none⟩,
    ⟨(some 8), .mov (.t 42), none⟩] []) <|
  .keep [0, 1, 8] [[42]]) <|
  .seq (.seq (.reg [⟨(some 9), .mov (.c (.z true)), none⟩] []) <|
  .keep [0, 1, 8, 9] [[42]]) <|
  .seq (.seq (.seq (.reg [⟨(some 43), .mov (.t 0), none⟩,
    ⟨(some 44), .len (.t 43), none⟩,
    ⟨(some 45), .bin .sub (.t 44) (.c (.v (.int .i64 1))), none⟩,
    ⟨(some 10), .mov (.t 45), none⟩] []) <|
  .keep [0, 1, 8, 9, 10] [[42]]) <|
  .seq (.blk 0 <|
  .seq (.keep [0, 1, 8, 9, 10] [[42]]) <|
  .loop gantryref04_divided_l1) <|
  .keep [8, 9] [[42]]) <|
  .seq (.seq (.reg [⟨(some 93), .mov (.t 8), none⟩,
    ⟨(some 94), .mov (.t 9), none⟩,
    ⟨(some 4), .mov (.t 93), none⟩,
    ⟨(some 5), .mov (.t 94), none⟩] []) <|
  .keep [4, 5] [[42]]) <|
  .ret, [.t 4, .t 5]⟩

/- 66: gantry/integer.two -/
def integer_two : CF := ⟨1, .seq (.seq (.reg [⟨(some 2), .mov (.c (.v (.int .i64 0))), none⟩,
    ⟨(some 3), .mov (.c (.v (.bool false))), none⟩] []) <|
  .keep [0] []) <|
  .seq (.seq (.seq (.reg [⟨(some 4), .mov (.t 0), none⟩,
    ⟨(some 5), .len (.t 4), none⟩] []) <|
  .keep [0, 5] []) <|
  .seq (.blk 0 <|
  .seq (.seq (.reg [⟨(some 7), .bin .eql (.t 5) (.c (.v (.int .i64 0))), none⟩,
    ⟨(some 6), .mov (.t 7), none⟩] []) <|
  .keep [0, 5, 6] []) <|
  .cond (.t 6) (.seq (.seq (.reg [⟨(some 2), .mov (.c (.v (.int .i64 0))), none⟩,
    ⟨(some 3), .mov (.c (.v (.bool true))), none⟩] []) <|
  .keep [2, 3] []) <|
  .ret) <|
  .seq (.seq (.reg [⟨(some 9), .bin .eql (.t 5) (.c (.v (.int .i64 1))), none⟩,
    ⟨(some 8), .mov (.t 9), none⟩] []) <|
  .keep [0, 5, 8] []) <|
  .cond (.t 8) (.seq (.seq (.reg [⟨(some 10), .mov (.t 0), none⟩,
    ⟨(some 11), .ixa 1 (.t 10) (.c (.v (.int .i64 0))), none⟩,
    ⟨(some 12), .load none (.t 11), none⟩,
    ⟨(some 2), .mov (.t 12), none⟩,
    ⟨(some 3), .mov (.c (.v (.bool true))), none⟩] []) <|
  .keep [2, 3] []) <|
  .ret) <|
  .seq (.seq (.reg [⟨(some 14), .bin .eql (.t 5) (.c (.v (.int .i64 2))), none⟩,
    ⟨(some 13), .mov (.t 14), none⟩] []) <|
  .keep [0, 13] []) <|
  .cond (.t 13) (.seq (.seq (.reg [⟨(some 15), .mov (.t 0), none⟩,
    ⟨(some 16), .ixa 1 (.t 15) (.c (.v (.int .i64 1))), none⟩,
    ⟨(some 17), .load none (.t 16), none⟩,
    ⟨(some 18), .bin .mul (.t 17) (.c (.v (.int .i64 1000000000))), none⟩,
    ⟨(some 19), .mov (.t 0), none⟩,
    ⟨(some 20), .ixa 1 (.t 19) (.c (.v (.int .i64 0))), none⟩,
    ⟨(some 21), .load none (.t 20), none⟩,
    ⟨(some 22), .bin .add (.t 18) (.t 21), none⟩,
    ⟨(some 2), .mov (.t 22), none⟩,
    ⟨(some 3), .mov (.c (.v (.bool true))), none⟩] []) <|
  .keep [2, 3] []) <|
  .ret) <|
  .skip) <|
  .keep [] []) <|
  .seq (.seq (.reg [⟨(some 2), .mov (.c (.v (.int .i64 0))), none⟩,
    ⟨(some 3), .mov (.c (.v (.bool false))), none⟩] []) <|
  .keep [2, 3] []) <|
  .ret, [.t 2, .t 3]⟩

/- 67: gantry/gantryref04.tiny -/
def gantryref04_tiny : CF := ⟨1, .seq (.seq (.reg [⟨(some 2), .mov (.c (.v (.int .i64 0))), none⟩] []) <|
  .keep [0] []) <|
  .seq (.seq (.reg [⟨(some 3), .mov (.t 0), none⟩,
    ⟨(some 4), .call n_gantryref04_digit [(.t 3), (.c (.v (.int .i64 1)))] false, none⟩,
    ⟨(some 5), .bin .mul (.t 4) (.c (.v (.int .i64 1000000000))), none⟩,
    ⟨(some 6), .mov (.t 0), none⟩,
    ⟨(some 7), .call n_gantryref04_digit [(.t 6), (.c (.v (.int .i64 0)))] false, none⟩,
    ⟨(some 8), .bin .add (.t 5) (.t 7), none⟩,
    ⟨(some 2), .mov (.t 8), none⟩] []) <|
  .keep [2] []) <|
  .ret, [.t 2]⟩

/- 68: slices.ContainsFunc[[]int,int] -/
def slices_ContainsFunc_int_int : CF := ⟨2, .seq (.seq (.reg [⟨(some 4), .mov (.c (.v (.bool false))), none⟩] []) <|
  .keep [0, 1] []) <|
  .seq (.seq (.reg [⟨(some 5), .mov (.t 0), none⟩,
    ⟨(some 6), .mov (.t 1), none⟩,
    ⟨(some 7), .call n_slices_IndexFunc_int_int [(.t 5), (.t 6)] false, none⟩,
    ⟨(some 8), .bin .geq (.t 7) (.c (.v (.int .i64 0))), none⟩,
    ⟨(some 4), .mov (.t 8), none⟩] []) <|
  .keep [4] []) <|
  .ret, [.t 4]⟩

/- 69: gantry/integer.Valid$1 -/
def integer_Valid_1 : CF := ⟨1, .seq (.seq (.reg [⟨(some 2), .mov (.c (.v (.bool false))), none⟩] []) <|
  .keep [0] []) <|
  .seq (.seq (.reg [⟨(some 3), .mov (.t 0), none⟩,
    ⟨(some 4), .bin .lss (.t 3) (.c (.v (.int .i64 0))), none⟩,
    ⟨(some 5), .mov (.t 4), none⟩,
    ⟨(some 6), .mov (.t 0), (some (5, false))⟩,
    ⟨(some 7), .bin .geq (.t 6) (.c (.v (.int .i64 1000000000))), (some (5, false))⟩,
    ⟨(some 8), .pick (.t 5) (.c (.v (.bool true))) (.t 7), none⟩,
    ⟨(some 2), .mov (.t 8), none⟩] []) <|
  .keep [2] []) <|
  .ret, [.t 2]⟩

/- 72: strconv.Itoa -/
def strconv_Itoa : CF := ⟨1, .seq (.seq (.reg [⟨(some 2), .mov (.c (.v (.string ⟨#[]⟩))), none⟩] []) <|
  .keep [0] []) <|
  .seq (.seq (.reg [⟨(some 3), .mov (.t 0), none⟩,
    ⟨(some 4), .call n_internal_strconv_Itoa [(.t 3)] false, none⟩,
    ⟨(some 2), .mov (.t 4), none⟩] []) <|
  .keep [2] []) <|
  .ret, [.t 2]⟩

/- 75: strings.CutPrefix -/
def strings_CutPrefix : CF := ⟨2, .seq (.seq (.reg [⟨(some 4), .mov (.c (.v (.string ⟨#[]⟩))), none⟩,
    ⟨(some 5), .mov (.c (.v (.bool false))), none⟩] []) <|
  .keep [0, 1] []) <|
  .seq (.seq (.reg [⟨(some 6), .mov (.t 0), none⟩,
    ⟨(some 7), .mov (.t 1), none⟩,
    ⟨(some 8), .call n_internal_stringslite_CutPrefix [(.t 6), (.t 7)] false, none⟩,
    ⟨(some 9), .ext (.t 8) 0, none⟩,
    ⟨(some 10), .ext (.t 8) 1, none⟩,
    ⟨(some 4), .mov (.t 9), none⟩,
    ⟨(some 5), .mov (.t 10), none⟩] []) <|
  .keep [4, 5] []) <|
  .ret, [.t 4, .t 5]⟩

/- 78: gantry/wire.Ints -/
def wire_Ints_l0 : C :=
  .seq (.seq (.seq (.reg [⟨(some 12), .bin .lss (.t 11) (.t 10), none⟩] []) <|
  .keep [3, 9, 10, 11, 12] [[8], [18]]) <|
  .seq (.cond (.t 12) (.skip) <|
  .seq (.keep [3] [[8], [18]]) <|
  .exit 0) <|
  .seq (.seq (.blk 1 <|
  .seq (.seq (.reg [⟨(some 13), .ixa 1 (.t 9) (.t 11), none⟩,
    ⟨(some 14), .load none (.t 13), none⟩,
    ⟨(some 5), .mov (.t 14), none⟩] []) <|
  .keep [3, 5, 9, 10, 11] [[8], [18]]) <|
  .seq (.reg [⟨(some 15), .mov (.t 3), none⟩,
    ⟨(some 16), .mov (.t 5), none⟩,
    ⟨(some 17), .call n_wire_Int [(.t 16)] false, none⟩,
    ⟨(some 18), .app 1 1 (.t 15) (.t 17) false, none⟩,
    ⟨(some 3), .mov (.t 18), none⟩] []) <|
  .keep [3, 9, 10, 11] [[8], [18]]) <|
  .keep [3, 9, 10, 11] [[8], [18]]) <|
  .seq (.reg [⟨(some 19), .bin .add (.t 11) (.c (.v (.int .i64 1))), none⟩,
    ⟨(some 11), .mov (.t 19), none⟩] []) <|
  .keep [3, 9, 10, 11] [[8], [18]]) <|
  .keep [3, 9, 10, 11] [[8], [18]]
def wire_Ints : CF := ⟨1, .seq (.seq (.reg [⟨(some 2), .mov (.c (.z true)), none⟩] []) <|
  .keep [0] []) <|
  .seq (.seq (.reg [⟨(some 6), .mov (.t 0), none⟩,
    ⟨(some 7), .len (.t 6), none⟩,
    ⟨(some 8), .call n_wire_Int [(.t 7)] true, none⟩,
    ⟨(some 3), .mov (.t 8), none⟩] []) <|
  .keep [0, 3] [[8], [18]]) <|
  .seq (.seq (.seq (.reg [⟨(some 9), .mov (.t 0), none⟩,
    ⟨(some 10), .len (.t 9), none⟩,
    ⟨(some 11), .mov (.c (.v (.int .i64 0))), none⟩] []) <|
  .keep [3, 9, 10, 11] [[8], [18]]) <|
  .seq (.blk 0 <|
  .seq (.keep [3, 9, 10, 11] [[8], [18]]) <|
  .loop wire_Ints_l0) <|
  .keep [3] [[8], [18]]) <|
  .seq (.seq (.reg [⟨(some 20), .mov (.t 3), none⟩,
    ⟨(some 2), .mov (.t 20), none⟩] []) <|
  .keep [2] [[8], [18]]) <|
  .ret, [.t 2]⟩

/- 79: gantry/wire.GetInts -/
def wire_GetInts_l0 : C :=
  .seq (.seq (.seq (.reg [⟨(some 27), .bin .lss (.t 26) (.t 25), none⟩] []) <|
  .keep [6, 8, 9, 25, 26, 27] [[40]]) <|
  .seq (.cond (.t 27) (.skip) <|
  .seq (.keep [6, 9] [[40]]) <|
  .exit 0) <|
  .seq (.seq (.blk 1 <|
  .seq (.seq (.reg [⟨(some 29), .mov (.t 8), none⟩,
    ⟨(some 30), .calv (.t 29) [], none⟩,
    ⟨(some 28), .mov (.t 30), none⟩,
    ⟨(some 31), .ext (.t 28) 0, none⟩,
    ⟨(some 32), .ext (.t 28) 1, none⟩,
    ⟨(some 33), .ext (.t 28) 2, none⟩,
    ⟨(some 10), .mov (.t 31), none⟩,
    ⟨(some 11), .mov (.t 32), none⟩,
    ⟨(some 12), .mov (.t 33), none⟩] []) <|
  .keep [8, 9, 10, 11, 12, 25, 26] [[40]]) <|
  .seq (.seq (.seq (.reg [⟨(some 34), .mov (.t 12), none⟩,
    ⟨(some 35), .bin .neq (.t 34) (.c (.v (.int .i64 0))), none⟩] []) <|
  .keep [8, 9, 10, 11, 12, 25, 26, 35] [[40]]) <|
  .cond (.t 35) (.seq (.seq (.reg [⟨(some 36), .mov (.t 12), none⟩,
    ⟨(some 2), .mov (.c (.z true)), none⟩,
    ⟨(some 3), .mov (.c (.v (.int .i64 0))), none⟩,
    ⟨(some 4), .mov (.t 36), none⟩] []) <|
  .keep [2, 3, 4] [[40]]) <|
  .ret) <|
  .skip) <|
  .seq (.reg [⟨(some 37), .mov (.t 9), none⟩,
    ⟨(some 38), .mov (.t 10), none⟩,
    ⟨(some 39), .lit 1 1 [.v (.int .i64 0)] [(0, (.t 38))] true, none⟩,
    ⟨(some 40), .app 1 8 (.t 37) (.t 39) false, none⟩,
    ⟨(some 41), .mov (.t 11), none⟩,
    ⟨(some 9), .mov (.t 40), none⟩,
    ⟨(some 6), .mov (.t 41), none⟩] []) <|
  .keep [6, 8, 9, 25, 26] [[40]]) <|
  .keep [6, 8, 9, 25, 26] [[40]]) <|
  .seq (.reg [⟨(some 42), .bin .add (.t 26) (.c (.v (.int .i64 1))), none⟩,
    ⟨(some 26), .mov (.t 42), none⟩] []) <|
  .keep [6, 8, 9, 25, 26] [[40]]) <|
  .keep [6, 8, 9, 25, 26] [[40]]
def wire_GetInts : CF := ⟨1, .seq (.seq (.reg [⟨(some 2), .mov (.c (.z true)), none⟩,
    ⟨(some 3), .mov (.c (.v (.int .i64 0))), none⟩,
    ⟨(some 4), .mov (.c (.v (.int .i64 0))), none⟩] []) <|
  .keep [0] []) <|
  .seq (.seq (.reg [⟨(some 14), .mov (.t 0), none⟩,
    ⟨(some 15), .call n_wire_count [(.t 14), (.c (.v (.int .i64 1)))] false, none⟩,
    ⟨(some 13), .mov (.t 15), none⟩,
    ⟨(some 16), .ext (.t 13) 0, none⟩,
    ⟨(some 17), .ext (.t 13) 1, none⟩,
    ⟨(some 18), .ext (.t 13) 2, none⟩,
    ⟨(some 5), .mov (.t 16), none⟩,
    ⟨(some 6), .mov (.t 17), none⟩,
    ⟨(some 7), .mov (.t 18), none⟩] []) <|
  .keep [0, 5, 6, 7] []) <|
  .seq (.seq (.seq (.reg [⟨(some 19), .mov (.t 7), none⟩,
    ⟨(some 20), .bin .neq (.t 19) (.c (.v (.int .i64 0))), none⟩] []) <|
  .keep [0, 5, 6, 7, 20] []) <|
  .cond (.t 20) (.seq (.seq (.reg [⟨(some 21), .mov (.t 7), none⟩,
    ⟨(some 2), .mov (.c (.z true)), none⟩,
    ⟨(some 3), .mov (.c (.v (.int .i64 0))), none⟩,
    ⟨(some 4), .mov (.t 21), none⟩] []) <|
  .keep [2, 3, 4] [[40]]) <|
  .ret) <|
  .skip) <|
  .seq (.seq (.reg [⟨(some 22), .mov (.t 0), none⟩,
    ⟨(some 23), .mov (.t 6), none⟩,
    ⟨(some 24), .call n_wire_reader [(.t 22), (.t 23)] false, none⟩,
    ⟨(some 8), .mov (.t 24), none⟩] []) <|
  .keep [5, 6, 8] []) <|
  .seq (.seq (.reg [⟨(some 9), .mov (.c (.z true)), none⟩] []) <|
  .keep [5, 6, 8, 9] [[40]]) <|
  .seq (.seq (.seq (.reg [⟨(some 25), .mov (.t 5), none⟩,
    ⟨(some 26), .mov (.c (.v (.int .i64 0))), none⟩] []) <|
  .keep [6, 8, 9, 25, 26] [[40]]) <|
  .seq (.blk 0 <|
  .seq (.keep [6, 8, 9, 25, 26] [[40]]) <|
  .loop wire_GetInts_l0) <|
  .keep [6, 9] [[40]]) <|
  .seq (.seq (.reg [⟨(some 43), .mov (.t 9), none⟩,
    ⟨(some 44), .mov (.t 6), none⟩,
    ⟨(some 2), .mov (.t 43), none⟩,
    ⟨(some 3), .mov (.t 44), none⟩,
    ⟨(some 4), .mov (.c (.v (.int .i64 0))), none⟩] []) <|
  .keep [2, 3, 4] [[40]]) <|
  .ret, [.t 2, .t 3, .t 4]⟩

/- 80: slices.Clone[[]int,int] -/
def slices_Clone_int_int : CF := ⟨1, .seq (.seq (.reg [⟨(some 2), .mov (.c (.z true)), none⟩] []) <|
  .keep [0] []) <|
  .seq (.seq (.seq (.reg [⟨(some 3), .mov (.t 0), none⟩,
    ⟨(some 4), .isn false (.t 3), none⟩] []) <|
  .keep [0, 4] []) <|
  .cond (.t 4) (.seq (.seq (.reg [⟨(some 2), .mov (.c (.z true)), none⟩] []) <|
  .keep [2] [[5], [7]]) <|
  .ret) <|
  .skip) <|
  .seq (.seq (.reg [⟨(some 5), .lit 1 0 [.v (.int .i64 0)] [] false, none⟩,
    ⟨(some 6), .mov (.t 0), none⟩,
    ⟨(some 7), .app 1 8 (.t 5) (.t 6) true, none⟩,
    ⟨(some 2), .mov (.t 7), none⟩] []) <|
  .keep [2] [[5], [7]]) <|
  .ret, [.t 2]⟩

/- 81: gantry/gantryref04.decimal -/
def gantryref04_decimal_l0 : C :=
  .seq (.seq (.seq (.seq (.reg [⟨(some 4), .mov (.t 0), none⟩,
    ⟨(some 5), .bin .gtr (.t 4) (.c (.v (.int .i64 0))), none⟩] []) <|
  .keep [0, 3, 5] []) <|
  .cond (.t 5) (.skip) <|
  .seq (.keep [3] []) <|
  .exit 0) <|
  .seq (.blk 1 <|
  .seq (.seq (.reg [⟨(some 6), .mov (.t 0), none⟩,
    ⟨(some 7), .bin .rem (.t 6) (.c (.v (.int .i64 10))), none⟩,
    ⟨(some 8), .bin .add (.c (.v (.int .i64 48))) (.t 7), none⟩,
    ⟨(some 9), .conv (.int .u8) (.t 8), none⟩,
    ⟨(some 10), .lit 1 1 [.v (.int .u8 0)] [(0, (.t 9))] true, none⟩,
    ⟨(some 11), .conv .b2s (.t 10), none⟩,
    ⟨(some 12), .mov (.t 3), none⟩,
    ⟨(some 13), .bin .add (.t 11) (.t 12), none⟩,
    ⟨(some 3), .mov (.t 13), none⟩] []) <|
  .keep [0, 3] []) <|
  .seq (.reg [⟨(some 14), .mov (.t 0), none⟩,
    ⟨(some 15), .bin .quo (.t 14) (.c (.v (.int .i64 10))), none⟩,
    ⟨(some 0), .mov (.t 15), none⟩] []) <|
  .keep [0, 3] []) <|
  .keep [0, 3] []) <|
  .keep [0, 3] []
def gantryref04_decimal : CF := ⟨1, .seq (.seq (.reg [⟨(some 2), .mov (.c (.v (.string ⟨#[]⟩))), none⟩] []) <|
  .keep [0] []) <|
  .seq (.seq (.reg [⟨(some 3), .mov (.c (.v (.string ⟨#[]⟩))), none⟩] []) <|
  .keep [0, 3] []) <|
  .seq (.seq (.blk 0 <|
  .seq (.keep [0, 3] []) <|
  .loop gantryref04_decimal_l0) <|
  .keep [3] []) <|
  .seq (.seq (.reg [⟨(some 16), .mov (.t 3), none⟩,
    ⟨(some 2), .mov (.t 16), none⟩] []) <|
  .keep [2] []) <|
  .ret, [.t 2]⟩

/- 82: gantry/gantryref01.Int -/
def gantryref01_Int_l0 : C :=
  .seq (.seq (.seq (.seq (.reg [⟨(some 14), .mov (.t 3), none⟩,
    ⟨(some 15), .bin .gtr (.t 14) (.c (.v (.int .i64 0))), none⟩] []) <|
  .keep [0, 3, 4, 15] [[21]]) <|
  .cond (.t 15) (.skip) <|
  .seq (.keep [0, 4] [[21]]) <|
  .exit 0) <|
  .seq (.blk 1 <|
  .seq (.seq (.reg [⟨(some 16), .mov (.t 4), none⟩,
    ⟨(some 17), .mov (.t 3), none⟩,
    ⟨(some 18), .bin .rem (.t 17) (.c (.v (.int .i64 256))), none⟩,
    ⟨(some 19), .conv (.int .u8) (.t 18), none⟩,
    ⟨(some 20), .lit 1 1 [.v (.int .u8 0)] [(0, (.t 19))] true, none⟩,
    ⟨(some 21), .app 1 1 (.t 16) (.t 20) false, none⟩,
    ⟨(some 4), .mov (.t 21), none⟩] []) <|
  .keep [0, 3, 4] [[21]]) <|
  .seq (.reg [⟨(some 22), .mov (.t 3), none⟩,
    ⟨(some 23), .bin .quo (.t 22) (.c (.v (.int .i64 256))), none⟩,
    ⟨(some 3), .mov (.t 23), none⟩] []) <|
  .keep [0, 3, 4] [[21]]) <|
  .keep [0, 3, 4] [[21]]) <|
  .keep [0, 3, 4] [[21]]
def gantryref01_Int_l1 : C :=
  .seq (.seq (.seq (.seq (.reg [⟨(some 42), .mov (.t 7), none⟩,
    ⟨(some 43), .bin .geq (.t 42) (.c (.v (.int .i64 0))), none⟩] []) <|
  .keep [0, 4, 6, 7, 43] [[21], [33], [39], [57]]) <|
  .cond (.t 43) (.skip) <|
  .seq (.keep [6] [[33], [39], [57]]) <|
  .exit 2) <|
  .seq (.seq (.blk 3 <|
  .seq (.seq (.reg [⟨(some 46), .mov (.t 4), none⟩,
    ⟨(some 47), .mov (.t 7), none⟩,
    ⟨(some 48), .ixa 1 (.t 46) (.t 47), none⟩,
    ⟨(some 49), .load none (.t 48), none⟩,
    ⟨(some 8), .mov (.t 49), none⟩] []) <|
  .keep [0, 4, 6, 7, 8] [[21], [33], [39], [57]]) <|
  .seq (.seq (.seq (.reg [⟨(some 50), .mov (.t 0), none⟩,
    ⟨(some 51), .bin .lss (.t 50) (.c (.v (.int .i64 0))), none⟩] []) <|
  .keep [0, 4, 6, 7, 8, 51] [[21], [33], [39], [57]]) <|
  .cond (.t 51) (.seq (.reg [⟨(some 52), .mov (.t 8), none⟩,
    ⟨(some 53), .bin .sub (.c (.v (.int .u8 255))) (.t 52), none⟩,
    ⟨(some 8), .mov (.t 53), none⟩] []) <|
  .keep [0, 4, 6, 7, 8] [[21], [33], [39], [57]]) <|
  .skip) <|
  .seq (.reg [⟨(some 54), .mov (.t 6), none⟩,
    ⟨(some 55), .mov (.t 8), none⟩,
    ⟨(some 56), .lit 1 1 [.v (.int .u8 0)] [(0, (.t 55))] true, none⟩,
    ⟨(some 57), .app 1 1 (.t 54) (.t 56) false, none⟩,
    ⟨(some 6), .mov (.t 57), none⟩] []) <|
  .keep [0, 4, 6, 7] [[21], [33], [39], [57]]) <|
  .keep [0, 4, 6, 7] [[21], [33], [39], [57]]) <|
  .seq (.reg [⟨(some 44), .mov (.t 7), none⟩,
    ⟨(some 45), .bin .sub (.t 44) (.c (.v (.int .i64 1))), none⟩,
    ⟨(some 7), .mov (.t 45), none⟩] []) <|
  .keep [0, 4, 6, 7] [[21], [33], [39], [57]]) <|
  .keep [0, 4, 6, 7] [[21], [33], [39], [57]]
def gantryref01_Int : CF := ⟨1, .seq (.seq (.reg [⟨(some 2), .mov (.c (.z true)), none⟩] []) <|
  .keep [0] []) <|
  .seq (.seq (.reg [⟨(some 9), .mov (.t 0), none⟩,
    ⟨(some 3), .mov (.t 9), none⟩] []) <|
  .keep [0, 3] []) <|
  .seq (.seq (.seq (.reg [⟨(some 10), .mov (.t 0), none⟩,
    ⟨(some 11), .bin .lss (.t 10) (.c (.v (.int .i64 0))), none⟩] []) <|
  .keep [0, 3, 11] []) <|
  .cond (.t 11) (.seq (.reg [⟨(some 12), .mov (.t 0), none⟩,
    ⟨(some 13), .bin .sub (.c (.v (.int .i64 (-1)))) (.t 12), none⟩,
    ⟨(some 3), .mov (.t 13), none⟩] []) <|
  .keep [0, 3] []) <|
  .skip) <|
  .seq (.seq (.reg [⟨(some 4), .mov (.c (.z true)), none⟩] []) <|
  .keep [0, 3, 4] [[21]]) <|
  .seq (.seq (.blk 0 <|
  .seq (.keep [0, 3, 4] [[21]]) <|
  .loop gantryref01_Int_l0) <|
  .keep [0, 4] [[21]]) <|
  .seq (.seq (.reg [⟨(some 24), .mov (.t 4), none⟩,
    ⟨(some 25), .len (.t 24), none⟩,
    ⟨(some 5), .mov (.t 25), none⟩] []) <|
  .keep [0, 4, 5] [[21]]) <|
  .seq (.seq (.reg [⟨(some 6), .mov (.c (.z true)), none⟩] []) <|
  .keep [0, 4, 5, 6] [[21], [33], [39], [57]]) <|
  .seq (.seq (.seq (.reg [⟨(some 26), .mov (.t 0), none⟩,
    ⟨(some 27), .bin .geq (.t 26) (.c (.v (.int .i64 0))), none⟩] []) <|
  .keep [0, 4, 5, 6, 27] [[21], [33], [39], [57]]) <|
  .cond (.t 27) (.seq (.reg [⟨(some 28), .mov (.t 6), none⟩,
    ⟨(some 29), .mov (.t 5), none⟩,
    ⟨(some 30), .bin .add (.c (.v (.int .i64 128))) (.t 29), none⟩,
    ⟨(some 31), .conv (.int .u8) (.t 30), none⟩,
    ⟨(some 32), .lit 1 1 [.v (.int .u8 0)] [(0, (.t 31))] true, none⟩,
    ⟨(some 33), .app 1 1 (.t 28) (.t 32) false, none⟩,
    ⟨(some 6), .mov (.t 33), none⟩] []) <|
  .keep [0, 4, 5, 6] [[21], [33], [39], [57]]) <|
  .seq (.reg [⟨(some 34), .mov (.t 6), none⟩,
    ⟨(some 35), .mov (.t 5), none⟩,
    ⟨(some 36), .bin .sub (.c (.v (.int .i64 127))) (.t 35), none⟩,
    ⟨(some 37), .conv (.int .u8) (.t 36), none⟩,
    ⟨(some 38), .lit 1 1 [.v (.int .u8 0)] [(0, (.t 37))] true, none⟩,
    ⟨(some 39), .app 1 1 (.t 34) (.t 38) false, none⟩,
    ⟨(some 6), .mov (.t 39), none⟩] []) <|
  .keep [0, 4, 5, 6] [[21], [33], [39], [57]]) <|
  .seq (.seq (.seq (.reg [⟨(some 40), .mov (.t 5), none⟩,
    ⟨(some 41), .bin .sub (.t 40) (.c (.v (.int .i64 1))), none⟩,
    ⟨(some 7), .mov (.t 41), none⟩] []) <|
  .keep [0, 4, 6, 7] [[21], [33], [39], [57]]) <|
  .seq (.blk 2 <|
  .seq (.keep [0, 4, 6, 7] [[21], [33], [39], [57]]) <|
  .loop gantryref01_Int_l1) <|
  .keep [6] [[33], [39], [57]]) <|
  .seq (.seq (.reg [⟨(some 58), .mov (.t 6), none⟩,
    ⟨(some 2), .mov (.t 58), none⟩] []) <|
  .keep [2] [[33], [39], [57]]) <|
  .ret, [.t 2]⟩

/- 83: gantry/gantryref01.GetInts -/
def gantryref01_GetInts_l0 : C :=
  .seq (.seq (.seq (.seq (.reg [⟨(some 22), .mov (.t 9), none⟩,
    ⟨(some 23), .mov (.t 5), none⟩,
    ⟨(some 24), .bin .lss (.t 22) (.t 23), none⟩] []) <|
  .keep [0, 5, 6, 8, 9, 24] [[41]]) <|
  .cond (.t 24) (.skip) <|
  .seq (.keep [6, 8] [[41]]) <|
  .exit 0) <|
  .seq (.seq (.blk 1 <|
  .seq (.seq (.reg [⟨(some 28), .mov (.t 0), none⟩,
    ⟨(some 29), .mov (.t 6), none⟩,
    ⟨(some 30), .slc 1 (.t 28) (some (.t 29)) none none, none⟩,
    ⟨(some 31), .call n_gantryref01_GetInt [(.t 30)] false, none⟩,
    ⟨(some 27), .mov (.t 31), none⟩,
    ⟨(some 32), .ext (.t 27) 0, none⟩,
    ⟨(some 33), .ext (.t 27) 1, none⟩,
    ⟨(some 34), .ext (.t 27) 2, none⟩,
    ⟨(some 10), .mov (.t 32), none⟩,
    ⟨(some 11), .mov (.t 33), none⟩,
    ⟨(some 12), .mov (.t 34), none⟩] []) <|
  .keep [0, 5, 6, 8, 9, 10, 11, 12] [[41]]) <|
  .seq (.seq (.seq (.reg [⟨(some 35), .mov (.t 12), none⟩,
    ⟨(some 36), .bin .neq (.t 35) (.c (.v (.int .i64 0))), none⟩] []) <|
  .keep [0, 5, 6, 8, 9, 10, 11, 12, 36] [[41]]) <|
  .cond (.t 36) (.seq (.seq (.reg [⟨(some 37), .mov (.t 12), none⟩,
    ⟨(some 2), .mov (.c (.z true)), none⟩,
    ⟨(some 3), .mov (.c (.v (.int .i64 0))), none⟩,
    ⟨(some 4), .mov (.t 37), none⟩] []) <|
  .keep [2, 3, 4] [[41]]) <|
  .ret) <|
  .skip) <|
  .seq (.seq (.reg [⟨(some 38), .mov (.t 8), none⟩,
    ⟨(some 39), .mov (.t 10), none⟩,
    ⟨(some 40), .lit 1 1 [.v (.int .i64 0)] [(0, (.t 39))] true, none⟩,
    ⟨(some 41), .app 1 8 (.t 38) (.t 40) false, none⟩,
    ⟨(some 8), .mov (.t 41), none⟩] []) <|
  .keep [0, 5, 6, 8, 9, 11] [[41]]) <|
  .seq (.reg [⟨(some 42), .mov (.t 6), none⟩,
    ⟨(some 43), .mov (.t 11), none⟩,
    ⟨(some 44), .bin .add (.t 42) (.t 43), none⟩,
    ⟨(some 6), .mov (.t 44), none⟩] []) <|
  .keep [0, 5, 6, 8, 9] [[41]]) <|
  .keep [0, 5, 6, 8, 9] [[41]]) <|
  .seq (.reg [⟨(some 25), .mov (.t 9), none⟩,
    ⟨(some 26), .bin .add (.t 25) (.c (.v (.int .i64 1))), none⟩,
    ⟨(some 9), .mov (.t 26), none⟩] []) <|
  .keep [0, 5, 6, 8, 9] [[41]]) <|
  .keep [0, 5, 6, 8, 9] [[41]]
def gantryref01_GetInts : CF := ⟨1, .seq (.seq (.reg [⟨(some 2), .mov (.c (.z true)), none⟩,
    ⟨(some 3), .mov (.c (.v (.int .i64 0))), none⟩,
    ⟨(some 4), .mov (.c (.v (.int .i64 0))), none⟩] []) <|
  .keep [0] []) <|
  .seq (.seq (.reg [⟨(some 14), .mov (.t 0), none⟩,
    ⟨(some 15), .call n_gantryref01_count [(.t 14), (.c (.v (.int .i64 1)))] false, none⟩,
    ⟨(some 13), .mov (.t 15), none⟩,
    ⟨(some 16), .ext (.t 13) 0, none⟩,
    ⟨(some 17), .ext (.t 13) 1, none⟩,
    ⟨(some 18), .ext (.t 13) 2, none⟩,
    ⟨(some 5), .mov (.t 16), none⟩,
    ⟨(some 6), .mov (.t 17), none⟩,
    ⟨(some 7), .mov (.t 18), none⟩] []) <|
  .keep [0, 5, 6, 7] []) <|
  .seq (.seq (.seq (.reg [⟨(some 19), .mov (.t 7), none⟩,
    ⟨(some 20), .bin .neq (.t 19) (.c (.v (.int .i64 0))), none⟩] []) <|
  .keep [0, 5, 6, 7, 20] []) <|
  .cond (.t 20) (.seq (.seq (.reg [⟨(some 21), .mov (.t 7), none⟩,
    ⟨(some 2), .mov (.c (.z true)), none⟩,
    ⟨(some 3), .mov (.c (.v (.int .i64 0))), none⟩,
    ⟨(some 4), .mov (.t 21), none⟩] []) <|
  .keep [2, 3, 4] [[41]]) <|
  .ret) <|
  .skip) <|
  .seq (.seq (.reg [⟨(some 8), .mov (.c (.z true)), none⟩] []) <|
  .keep [0, 5, 6, 8] [[41]]) <|
  .seq (.seq (.seq (.reg [⟨(some 9), .mov (.c (.v (.int .i64 0))), none⟩] []) <|
  .keep [0, 5, 6, 8, 9] [[41]]) <|
  .seq (.blk 0 <|
  .seq (.keep [0, 5, 6, 8, 9] [[41]]) <|
  .loop gantryref01_GetInts_l0) <|
  .keep [6, 8] [[41]]) <|
  .seq (.seq (.reg [⟨(some 45), .mov (.t 8), none⟩,
    ⟨(some 46), .mov (.t 6), none⟩,
    ⟨(some 2), .mov (.t 45), none⟩,
    ⟨(some 3), .mov (.t 46), none⟩,
    ⟨(some 4), .mov (.c (.v (.int .i64 0))), none⟩] []) <|
  .keep [2, 3, 4] [[41]]) <|
  .ret, [.t 2, .t 3, .t 4]⟩

/- 84: gantry/gantryref04.digit -/
def gantryref04_digit : CF := ⟨2, .seq (.seq (.reg [⟨(some 4), .mov (.c (.v (.int .i64 0))), none⟩] []) <|
  .keep [0, 1] []) <|
  .seq (.seq (.seq (.reg [⟨(some 5), .mov (.t 1), none⟩,
    ⟨(some 6), .mov (.t 0), none⟩,
    ⟨(some 7), .len (.t 6), none⟩,
    ⟨(some 8), .bin .lss (.t 5) (.t 7), none⟩] []) <|
  .keep [0, 1, 8] []) <|
  .cond (.t 8) (.seq (.seq (.reg [⟨(some 9), .mov (.t 0), none⟩,
    ⟨(some 10), .mov (.t 1), none⟩,
    ⟨(some 11), .ixa 1 (.t 9) (.t 10), none⟩,
    ⟨(some 12), .load none (.t 11), none⟩,
    ⟨(some 4), .mov (.t 12), none⟩] []) <|
  .keep [4] []) <|
  .ret) <|
  .skip) <|
  .seq (.seq (.reg [⟨(some 4), .mov (.c (.v (.int .i64 0))), none⟩] []) <|
  .keep [4] []) <|
  .ret, [.t 4]⟩

/- 85: cmp.Compare[int] -/
def cmp_Compare_int : CF := ⟨2, .seq (.seq (.reg [⟨(some 4), .mov (.c (.v (.int .i64 0))), none⟩] []) <|
  .keep [0, 1] []) <|
  .seq (.seq (.reg [⟨(some 7), .mov (.t 0), none⟩,
    ⟨(some 8), .call n_cmp_isNaN_int [(.t 7)] false, none⟩,
    ⟨(some 5), .mov (.t 8), none⟩] []) <|
  .keep [0, 1, 5] []) <|
  .seq (.seq (.reg [⟨(some 9), .mov (.t 1), none⟩,
    ⟨(some 10), .call n_cmp_isNaN_int [(.t 9)] false, none⟩,
    ⟨(some 6), .mov (.t 10), none⟩] []) <|
  .keep [0, 1, 5, 6] []) <|
  .seq (.seq (.seq (.reg [⟨(some 11), .mov (.t 5), none⟩] []) <|
  .keep [0, 1, 6, 11] []) <|
  .cond (.t 11) (.seq (.seq (.seq (.reg [⟨(some 12), .mov (.t 6), none⟩] []) <|
  .keep [12] []) <|
  .cond (.t 12) (.seq (.seq (.reg [⟨(some 4), .mov (.c (.v (.int .i64 0))), none⟩] []) <|
  .keep [4] []) <|
  .ret) <|
  .skip) <|
  .seq (.seq (.reg [⟨(some 4), .mov (.c (.v (.int .i64 (-1)))), none⟩] []) <|
  .keep [4] []) <|
  .ret) <|
  .skip) <|
  .seq (.seq (.seq (.reg [⟨(some 13), .mov (.t 6), none⟩] []) <|
  .keep [0, 1, 13] []) <|
  .cond (.t 13) (.seq (.seq (.reg [⟨(some 4), .mov (.c (.v (.int .i64 1))), none⟩] []) <|
  .keep [4] []) <|
  .ret) <|
  .skip) <|
  .seq (.seq (.seq (.reg [⟨(some 14), .mov (.t 0), none⟩,
    ⟨(some 15), .mov (.t 1), none⟩,
    ⟨(some 16), .bin .lss (.t 14) (.t 15), none⟩] []) <|
  .keep [0, 1, 16] []) <|
  .cond (.t 16) (.seq (.seq (.reg [⟨(some 4), .mov (.c (.v (.int .i64 (-1)))), none⟩] []) <|
  .keep [4] []) <|
  .ret) <|
  .skip) <|
  .seq (.seq (.seq (.reg [⟨(some 17), .mov (.t 0), none⟩,
    ⟨(some 18), .mov (.t 1), none⟩,
    ⟨(some 19), .bin .gtr (.t 17) (.t 18), none⟩] []) <|
  .keep [19] []) <|
  .cond (.t 19) (.seq (.seq (.reg [⟨(some 4), .mov (.c (.v (.int .i64 1))), none⟩] []) <|
  .keep [4] []) <|
  .ret) <|
  .skip) <|
  .seq (.seq (.reg [⟨(some 4), .mov (.c (.v (.int .i64 0))), none⟩] []) <|
  .keep [4] []) <|
  .ret, [.t 4]⟩

/- 86: gantry/integer.short -/
def integer_short_l0 : C :=
  .seq (.seq (.seq (.seq (.reg [⟨(some 16), .mov (.t 8), none⟩,
    ⟨(some 17), .bin .geq (.t 16) (.c (.v (.int .i64 0))), none⟩] []) <|
  .keep [0, 1, 6, 7, 8, 17] [[12]]) <|
  .cond (.t 17) (.skip) <|
  .seq (.keep [6, 7] [[12]]) <|
  .exit 0) <|
  .seq (.seq (.blk 1 <|
  .seq (.seq (.reg [⟨(some 20), .mov (.t 7), none⟩,
    ⟨(some 21), .bin .mul (.t 20) (.c (.v (.int .i64 1000000000))), none⟩,
    ⟨(some 22), .mov (.t 0), none⟩,
    ⟨(some 23), .mov (.t 8), none⟩,
    ⟨(some 24), .ixa 1 (.t 22) (.t 23), none⟩,
    ⟨(some 25), .load none (.t 24), none⟩,
    ⟨(some 26), .bin .add (.t 21) (.t 25), none⟩,
    ⟨(some 9), .mov (.t 26), none⟩] []) <|
  .keep [0, 1, 6, 8, 9] [[12]]) <|
  .seq (.reg [⟨(some 27), .mov (.t 6), none⟩,
    ⟨(some 28), .mov (.t 8), none⟩,
    ⟨(some 29), .mov (.t 9), none⟩,
    ⟨(some 30), .mov (.t 1), none⟩,
    ⟨(some 31), .bin .quo (.t 29) (.t 30), none⟩,
    ⟨(some 32), .mov (.t 9), none⟩,
    ⟨(some 33), .mov (.t 1), none⟩,
    ⟨(some 34), .bin .rem (.t 32) (.t 33), none⟩,
    ⟨(some 35), .ixa 1 (.t 27) (.t 28), none⟩,
    ⟨none, .store 1 (.t 35) (.t 31), none⟩,
    ⟨(some 7), .mov (.t 34), none⟩] []) <|
  .keep [0, 1, 6, 7, 8] [[12]]) <|
  .keep [0, 1, 6, 7, 8] [[12]]) <|
  .seq (.reg [⟨(some 18), .mov (.t 8), none⟩,
    ⟨(some 19), .bin .sub (.t 18) (.c (.v (.int .i64 1))), none⟩,
    ⟨(some 8), .mov (.t 19), none⟩] []) <|
  .keep [0, 1, 6, 7, 8] [[12]]) <|
  .keep [0, 1, 6, 7, 8] [[12]]
def integer_short : CF := ⟨2, .seq (.seq (.reg [⟨(some 4), .mov (.c (.z true)), none⟩,
    ⟨(some 5), .mov (.c (.v (.int .i64 0))), none⟩] []) <|
  .keep [0, 1] []) <|
  .seq (.seq (.reg [⟨(some 10), .mov (.t 0), none⟩,
    ⟨(some 11), .len (.t 10), none⟩,
    ⟨(some 12), .mksl 1 8 [.v (.int .i64 0)] (.t 11) (.t 11), none⟩,
    ⟨(some 6), .mov (.t 12), none⟩] []) <|
  .keep [0, 1, 6] [[12]]) <|
  .seq (.seq (.reg [⟨(some 7), .mov (.c (.v (.int .i64 0))), none⟩] []) <|
  .keep [0, 1, 6, 7] [[12]]) <|
  .seq (.seq (.seq (.reg [⟨(some 13), .mov (.t 0), none⟩,
    ⟨(some 14), .len (.t 13), none⟩,
    ⟨(some 15), .bin .sub (.t 14) (.c (.v (.int .i64 1))), none⟩,
    ⟨(some 8), .mov (.t 15), none⟩] []) <|
  .keep [0, 1, 6, 7, 8] [[12]]) <|
  .seq (.blk 0 <|
  .seq (.keep [0, 1, 6, 7, 8] [[12]]) <|
  .loop integer_short_l0) <|
  .keep [6, 7] [[12]]) <|
  .seq (.seq (.reg [⟨(some 36), .mov (.t 6), none⟩,
    ⟨(some 37), .mov (.t 7), none⟩,
    ⟨(some 4), .mov (.t 36), none⟩,
    ⟨(some 5), .mov (.t 37), none⟩] []) <|
  .keep [4, 5] [[12]]) <|
  .ret, [.t 4, .t 5]⟩

/- 87: gantry/integer.long -/
def integer_long_l0 : C :=
  .seq (.seq (.seq (.seq (.reg [⟨(some 84), .mov (.t 13), none⟩,
    ⟨(some 85), .bin .geq (.t 84) (.c (.v (.int .i64 1000000000))), none⟩,
    ⟨(some 86), .mov (.t 85), none⟩,
    ⟨(some 87), .mov (.t 13), (some (86, false))⟩,
    ⟨(some 88), .mov (.t 8), (some (86, false))⟩,
    ⟨(some 89), .mov (.t 9), (some (86, false))⟩,
    ⟨(some 90), .bin .sub (.t 89) (.c (.v (.int .i64 2))), (some (86, false))⟩,
    ⟨(some 91), .ixa 1 (.t 88) (.t 90), (some (86, false))⟩,
    ⟨(some 92), .load none (.t 91), (some (86, false))⟩,
    ⟨(some 93), .bin .mul (.t 87) (.t 92), (some (86, false))⟩,
    ⟨(some 94), .mov (.t 14), (some (86, false))⟩,
    ⟨(some 95), .bin .mul (.t 94) (.c (.v (.int .i64 1000000000))), (some (86, false))⟩,
    ⟨(some 96), .mov (.t 7), (some (86, false))⟩,
    ⟨(some 97), .mov (.t 11), (some (86, false))⟩,
    ⟨(some 98), .mov (.t 9), (some (86, false))⟩,
    ⟨(some 99), .bin .add (.t 97) (.t 98), (some (86, false))⟩,
    ⟨(some 100), .bin .sub (.t 99) (.c (.v (.int .i64 2))), (some (86, false))⟩,
    ⟨(some 101), .ixa 1 (.t 96) (.t 100), (some (86, false))⟩,
    ⟨(some 102), .load none (.t 101), (some (86, false))⟩,
    ⟨(some 103), .bin .add (.t 95) (.t 102), (some (86, false))⟩,
    ⟨(some 104), .bin .gtr (.t 93) (.t 103), (some (86, false))⟩,
    ⟨(some 105), .pick (.t 86) (.c (.v (.bool true))) (.t 104), none⟩] []) <|
  .keep [6, 7, 8, 9, 10, 11, 13, 14, 105] [[32], [46]]) <|
  .cond (.t 105) (.skip) <|
  .seq (.keep [6, 7, 8, 9, 10, 11, 13] [[32], [46]]) <|
  .exit 2) <|
  .seq (.blk 3 <|
  .seq (.seq (.reg [⟨(some 106), .mov (.t 13), none⟩,
    ⟨(some 107), .bin .sub (.t 106) (.c (.v (.int .i64 1))), none⟩,
    ⟨(some 13), .mov (.t 107), none⟩] []) <|
  .keep [6, 7, 8, 9, 10, 11, 13, 14] [[32], [46]]) <|
  .seq (.seq (.reg [⟨(some 108), .mov (.t 14), none⟩,
    ⟨(some 109), .mov (.t 8), none⟩,
    ⟨(some 110), .mov (.t 9), none⟩,
    ⟨(some 111), .bin .sub (.t 110) (.c (.v (.int .i64 1))), none⟩,
    ⟨(some 112), .ixa 1 (.t 109) (.t 111), none⟩,
    ⟨(some 113), .load none (.t 112), none⟩,
    ⟨(some 114), .bin .add (.t 108) (.t 113), none⟩,
    ⟨(some 14), .mov (.t 114), none⟩] []) <|
  .keep [6, 7, 8, 9, 10, 11, 13, 14] [[32], [46]]) <|
  .seq (.seq (.reg [⟨(some 115), .mov (.t 14), none⟩,
    ⟨(some 116), .bin .geq (.t 115) (.c (.v (.int .i64 1000000000))), none⟩] []) <|
  .keep [6, 7, 8, 9, 10, 11, 13, 14, 116] [[32], [46]]) <|
  .cond (.t 116) (.seq (.keep [6, 7, 8, 9, 10, 11, 13] [[32], [46]]) <|
  .exit 2) <|
  .skip) <|
  .keep [6, 7, 8, 9, 10, 11, 13, 14] [[32], [46]]) <|
  .keep [6, 7, 8, 9, 10, 11, 13, 14] [[32], [46]]
def integer_long_l1 : C :=
  .seq (.seq (.seq (.reg [⟨(some 119), .bin .lss (.t 118) (.t 117), none⟩] []) <|
  .keep [6, 7, 8, 9, 10, 11, 13, 15, 117, 118, 119] [[32], [46]]) <|
  .seq (.cond (.t 119) (.skip) <|
  .seq (.keep [6, 7, 8, 9, 10, 11, 13, 15] [[32], [46]]) <|
  .exit 4) <|
  .seq (.seq (.blk 5 <|
  .seq (.seq (.reg [⟨(some 120), .mov (.t 118), none⟩,
    ⟨(some 16), .mov (.t 120), none⟩] []) <|
  .keep [6, 7, 8, 9, 10, 11, 13, 15, 16, 117, 118] [[32], [46]]) <|
  .seq (.seq (.reg [⟨(some 121), .mov (.t 7), none⟩,
    ⟨(some 122), .mov (.t 16), none⟩,
    ⟨(some 123), .mov (.t 11), none⟩,
    ⟨(some 124), .bin .add (.t 122) (.t 123), none⟩,
    ⟨(some 125), .ixa 1 (.t 121) (.t 124), none⟩,
    ⟨(some 126), .load none (.t 125), none⟩,
    ⟨(some 127), .mov (.t 13), none⟩,
    ⟨(some 128), .mov (.t 8), none⟩,
    ⟨(some 129), .mov (.t 16), none⟩,
    ⟨(some 130), .ixa 1 (.t 128) (.t 129), none⟩,
    ⟨(some 131), .load none (.t 130), none⟩,
    ⟨(some 132), .bin .mul (.t 127) (.t 131), none⟩,
    ⟨(some 133), .bin .sub (.t 126) (.t 132), none⟩,
    ⟨(some 134), .mov (.t 15), none⟩,
    ⟨(some 135), .bin .sub (.t 133) (.t 134), none⟩,
    ⟨(some 17), .mov (.t 135), none⟩] []) <|
  .keep [6, 7, 8, 9, 10, 11, 13, 16, 17, 117, 118] [[32], [46]]) <|
  .seq (.seq (.reg [⟨(some 15), .mov (.c (.v (.int .i64 0))), none⟩] []) <|
  .keep [6, 7, 8, 9, 10, 11, 13, 15, 16, 17, 117, 118] [[32], [46]]) <|
  .seq (.seq (.seq (.reg [⟨(some 136), .mov (.t 17), none⟩,
    ⟨(some 137), .bin .lss (.t 136) (.c (.v (.int .i64 0))), none⟩] []) <|
  .keep [6, 7, 8, 9, 10, 11, 13, 15, 16, 17, 117, 118, 137] [[32], [46]]) <|
  .cond (.t 137) (.seq (.seq (.reg [⟨(some 138), .mov (.t 17), none⟩,
    ⟨(some 139), .un .neg (.t 138), none⟩,
    ⟨(some 140), .bin .add (.t 139) (.c (.v (.int .i64 1000000000))), none⟩,
    ⟨(some 141), .bin .sub (.t 140) (.c (.v (.int .i64 1))), none⟩,
    ⟨(some 142), .bin .quo (.t 141) (.c (.v (.int .i64 1000000000))), none⟩,
    ⟨(some 15), .mov (.t 142), none⟩] []) <|
  .keep [6, 7, 8, 9, 10, 11, 13, 15, 16, 17, 117, 118] [[32], [46]]) <|
  .seq (.reg [⟨(some 143), .mov (.t 17), none⟩,
    ⟨(some 144), .mov (.t 15), none⟩,
    ⟨(some 145), .bin .mul (.t 144) (.c (.v (.int .i64 1000000000))), none⟩,
    ⟨(some 146), .bin .add (.t 143) (.t 145), none⟩,
    ⟨(some 17), .mov (.t 146), none⟩] []) <|
  .keep [6, 7, 8, 9, 10, 11, 13, 15, 16, 17, 117, 118] [[32], [46]]) <|
  .skip) <|
  .seq (.reg [⟨(some 147), .mov (.t 7), none⟩,
    ⟨(some 148), .mov (.t 16), none⟩,
    ⟨(some 149), .mov (.t 11), none⟩,
    ⟨(some 150), .bin .add (.t 148) (.t 149), none⟩,
    ⟨(some 151), .mov (.t 17), none⟩,
    ⟨(some 152), .ixa 1 (.t 147) (.t 150), none⟩,
    ⟨none, .store 1 (.t 152) (.t 151), none⟩] []) <|
  .keep [6, 7, 8, 9, 10, 11, 13, 15, 117, 118] [[32], [46]]) <|
  .keep [6, 7, 8, 9, 10, 11, 13, 15, 117, 118] [[32], [46]]) <|
  .seq (.reg [⟨(some 153), .bin .add (.t 118) (.c (.v (.int .i64 1))), none⟩,
    ⟨(some 118), .mov (.t 153), none⟩] []) <|
  .keep [6, 7, 8, 9, 10, 11, 13, 15, 117, 118] [[32], [46]]) <|
  .keep [6, 7, 8, 9, 10, 11, 13, 15, 117, 118] [[32], [46]]
def integer_long_l2 : C :=
  .seq (.seq (.seq (.reg [⟨(some 174), .bin .lss (.t 173) (.t 172), none⟩] []) <|
  .keep [6, 7, 8, 9, 10, 11, 13, 15, 172, 173, 174] [[32], [46]]) <|
  .seq (.cond (.t 174) (.skip) <|
  .seq (.keep [6, 7, 8, 9, 10, 11, 13, 15] [[32], [46]]) <|
  .exit 6) <|
  .seq (.seq (.blk 7 <|
  .seq (.seq (.reg [⟨(some 175), .mov (.t 173), none⟩,
    ⟨(some 18), .mov (.t 175), none⟩] []) <|
  .keep [6, 7, 8, 9, 10, 11, 13, 15, 18, 172, 173] [[32], [46]]) <|
  .seq (.seq (.reg [⟨(some 176), .mov (.t 7), none⟩,
    ⟨(some 177), .mov (.t 18), none⟩,
    ⟨(some 178), .mov (.t 11), none⟩,
    ⟨(some 179), .bin .add (.t 177) (.t 178), none⟩,
    ⟨(some 180), .ixa 1 (.t 176) (.t 179), none⟩,
    ⟨(some 181), .load none (.t 180), none⟩,
    ⟨(some 182), .mov (.t 8), none⟩,
    ⟨(some 183), .mov (.t 18), none⟩,
    ⟨(some 184), .ixa 1 (.t 182) (.t 183), none⟩,
    ⟨(some 185), .load none (.t 184), none⟩,
    ⟨(some 186), .bin .add (.t 181) (.t 185), none⟩,
    ⟨(some 187), .mov (.t 15), none⟩,
    ⟨(some 188), .bin .add (.t 186) (.t 187), none⟩,
    ⟨(some 19), .mov (.t 188), none⟩] []) <|
  .keep [6, 7, 8, 9, 10, 11, 13, 18, 19, 172, 173] [[32], [46]]) <|
  .seq (.reg [⟨(some 189), .mov (.t 7), none⟩,
    ⟨(some 190), .mov (.t 18), none⟩,
    ⟨(some 191), .mov (.t 11), none⟩,
    ⟨(some 192), .bin .add (.t 190) (.t 191), none⟩,
    ⟨(some 193), .mov (.t 19), none⟩,
    ⟨(some 194), .bin .rem (.t 193) (.c (.v (.int .i64 1000000000))), none⟩,
    ⟨(some 195), .mov (.t 19), none⟩,
    ⟨(some 196), .bin .quo (.t 195) (.c (.v (.int .i64 1000000000))), none⟩,
    ⟨(some 197), .ixa 1 (.t 189) (.t 192), none⟩,
    ⟨none, .store 1 (.t 197) (.t 194), none⟩,
    ⟨(some 15), .mov (.t 196), none⟩] []) <|
  .keep [6, 7, 8, 9, 10, 11, 13, 15, 172, 173] [[32], [46]]) <|
  .keep [6, 7, 8, 9, 10, 11, 13, 15, 172, 173] [[32], [46]]) <|
  .seq (.reg [⟨(some 198), .bin .add (.t 173) (.c (.v (.int .i64 1))), none⟩,
    ⟨(some 173), .mov (.t 198), none⟩] []) <|
  .keep [6, 7, 8, 9, 10, 11, 13, 15, 172, 173] [[32], [46]]) <|
  .keep [6, 7, 8, 9, 10, 11, 13, 15, 172, 173] [[32], [46]]
def integer_long_l3 : C :=
  .seq (.seq (.seq (.seq (.reg [⟨(some 51), .mov (.t 11), none⟩,
    ⟨(some 52), .bin .geq (.t 51) (.c (.v (.int .i64 0))), none⟩] []) <|
  .keep [6, 7, 8, 9, 10, 11, 52] [[32], [46]]) <|
  .cond (.t 52) (.skip) <|
  .seq (.keep [6, 7, 9, 10] [[32], [46]]) <|
  .exit 0) <|
  .seq (.seq (.blk 1 <|
  .seq (.seq (.reg [⟨(some 55), .mov (.t 7), none⟩,
    ⟨(some 56), .mov (.t 11), none⟩,
    ⟨(some 57), .mov (.t 9), none⟩,
    ⟨(some 58), .bin .add (.t 56) (.t 57), none⟩,
    ⟨(some 59), .ixa 1 (.t 55) (.t 58), none⟩,
    ⟨(some 60), .load none (.t 59), none⟩,
    ⟨(some 61), .bin .mul (.t 60) (.c (.v (.int .i64 1000000000))), none⟩,
    ⟨(some 62), .mov (.t 7), none⟩,
    ⟨(some 63), .mov (.t 11), none⟩,
    ⟨(some 64), .mov (.t 9), none⟩,
    ⟨(some 65), .bin .add (.t 63) (.t 64), none⟩,
    ⟨(some 66), .bin .sub (.t 65) (.c (.v (.int .i64 1))), none⟩,
    ⟨(some 67), .ixa 1 (.t 62) (.t 66), none⟩,
    ⟨(some 68), .load none (.t 67), none⟩,
    ⟨(some 69), .bin .add (.t 61) (.t 68), none⟩,
    ⟨(some 12), .mov (.t 69), none⟩] []) <|
  .keep [6, 7, 8, 9, 10, 11, 12] [[32], [46]]) <|
  .seq (.seq (.reg [⟨(some 70), .mov (.t 12), none⟩,
    ⟨(some 71), .mov (.t 8), none⟩,
    ⟨(some 72), .mov (.t 9), none⟩,
    ⟨(some 73), .bin .sub (.t 72) (.c (.v (.int .i64 1))), none⟩,
    ⟨(some 74), .ixa 1 (.t 71) (.t 73), none⟩,
    ⟨(some 75), .load none (.t 74), none⟩,
    ⟨(some 76), .bin .quo (.t 70) (.t 75), none⟩,
    ⟨(some 77), .mov (.t 12), none⟩,
    ⟨(some 78), .mov (.t 8), none⟩,
    ⟨(some 79), .mov (.t 9), none⟩,
    ⟨(some 80), .bin .sub (.t 79) (.c (.v (.int .i64 1))), none⟩,
    ⟨(some 81), .ixa 1 (.t 78) (.t 80), none⟩,
    ⟨(some 82), .load none (.t 81), none⟩,
    ⟨(some 83), .bin .rem (.t 77) (.t 82), none⟩,
    ⟨(some 13), .mov (.t 76), none⟩,
    ⟨(some 14), .mov (.t 83), none⟩] []) <|
  .keep [6, 7, 8, 9, 10, 11, 13, 14] [[32], [46]]) <|
  .seq (.skip) <|
  .seq (.seq (.blk 2 <|
  .seq (.keep [6, 7, 8, 9, 10, 11, 13, 14] [[32], [46]]) <|
  .loop integer_long_l0) <|
  .keep [6, 7, 8, 9, 10, 11, 13] [[32], [46]]) <|
  .seq (.seq (.reg [⟨(some 15), .mov (.c (.v (.int .i64 0))), none⟩] []) <|
  .keep [6, 7, 8, 9, 10, 11, 13, 15] [[32], [46]]) <|
  .seq (.seq (.seq (.reg [⟨(some 117), .mov (.t 9), none⟩,
    ⟨(some 118), .mov (.c (.v (.int .i64 0))), none⟩] []) <|
  .keep [6, 7, 8, 9, 10, 11, 13, 15, 117, 118] [[32], [46]]) <|
  .seq (.blk 4 <|
  .seq (.keep [6, 7, 8, 9, 10, 11, 13, 15, 117, 118] [[32], [46]]) <|
  .loop integer_long_l1) <|
  .keep [6, 7, 8, 9, 10, 11, 13, 15] [[32], [46]]) <|
  .seq (.seq (.seq (.reg [⟨(some 154), .mov (.t 7), none⟩,
    ⟨(some 155), .mov (.t 11), none⟩,
    ⟨(some 156), .mov (.t 9), none⟩,
    ⟨(some 157), .bin .add (.t 155) (.t 156), none⟩,
    ⟨(some 158), .ixa 1 (.t 154) (.t 157), none⟩,
    ⟨(some 159), .load none (.t 158), none⟩,
    ⟨(some 160), .mov (.t 15), none⟩,
    ⟨(some 161), .bin .sub (.t 159) (.t 160), none⟩,
    ⟨(some 162), .ixa 1 (.t 154) (.t 157), none⟩,
    ⟨none, .store 1 (.t 162) (.t 161), none⟩] []) <|
  .keep [6, 7, 8, 9, 10, 11, 13] [[32], [46]]) <|
  .seq (.seq (.reg [⟨(some 163), .mov (.t 7), none⟩,
    ⟨(some 164), .mov (.t 11), none⟩,
    ⟨(some 165), .mov (.t 9), none⟩,
    ⟨(some 166), .bin .add (.t 164) (.t 165), none⟩,
    ⟨(some 167), .ixa 1 (.t 163) (.t 166), none⟩,
    ⟨(some 168), .load none (.t 167), none⟩,
    ⟨(some 169), .bin .lss (.t 168) (.c (.v (.int .i64 0))), none⟩] []) <|
  .keep [6, 7, 8, 9, 10, 11, 13, 169] [[32], [46]]) <|
  .cond (.t 169) (.seq (.seq (.reg [⟨(some 170), .mov (.t 13), none⟩,
    ⟨(some 171), .bin .sub (.t 170) (.c (.v (.int .i64 1))), none⟩,
    ⟨(some 13), .mov (.t 171), none⟩] []) <|
  .keep [6, 7, 8, 9, 10, 11, 13] [[32], [46]]) <|
  .seq (.seq (.reg [⟨(some 15), .mov (.c (.v (.int .i64 0))), none⟩] []) <|
  .keep [6, 7, 8, 9, 10, 11, 13, 15] [[32], [46]]) <|
  .seq (.seq (.seq (.reg [⟨(some 172), .mov (.t 9), none⟩,
    ⟨(some 173), .mov (.c (.v (.int .i64 0))), none⟩] []) <|
  .keep [6, 7, 8, 9, 10, 11, 13, 15, 172, 173] [[32], [46]]) <|
  .seq (.blk 6 <|
  .seq (.keep [6, 7, 8, 9, 10, 11, 13, 15, 172, 173] [[32], [46]]) <|
  .loop integer_long_l2) <|
  .keep [6, 7, 8, 9, 10, 11, 13, 15] [[32], [46]]) <|
  .seq (.reg [⟨(some 199), .mov (.t 7), none⟩,
    ⟨(some 200), .mov (.t 11), none⟩,
    ⟨(some 201), .mov (.t 9), none⟩,
    ⟨(some 202), .bin .add (.t 200) (.t 201), none⟩,
    ⟨(some 203), .ixa 1 (.t 199) (.t 202), none⟩,
    ⟨(some 204), .load none (.t 203), none⟩,
    ⟨(some 205), .mov (.t 15), none⟩,
    ⟨(some 206), .bin .add (.t 204) (.t 205), none⟩,
    ⟨(some 207), .ixa 1 (.t 199) (.t 202), none⟩,
    ⟨none, .store 1 (.t 207) (.t 206), none⟩] []) <|
  .keep [6, 7, 8, 9, 10, 11, 13] [[32], [46]]) <|
  .skip) <|
  .seq (.reg [⟨(some 208), .mov (.t 10), none⟩,
    ⟨(some 209), .mov (.t 11), none⟩,
    ⟨(some 210), .mov (.t 13), none⟩,
    ⟨(some 211), .ixa 1 (.t 208) (.t 209), none⟩,
    ⟨none, .store 1 (.t 211) (.t 210), none⟩] []) <|
  .keep [6, 7, 8, 9, 10, 11] [[32], [46]]) <|
  .keep [6, 7, 8, 9, 10, 11] [[32], [46]]) <|
  .seq (.reg [⟨(some 53), .mov (.t 11), none⟩,
    ⟨(some 54), .bin .sub (.t 53) (.c (.v (.int .i64 1))), none⟩,
    ⟨(some 11), .mov (.t 54), none⟩] []) <|
  .keep [6, 7, 8, 9, 10, 11] [[32], [46]]) <|
  .keep [6, 7, 8, 9, 10, 11] [[32], [46]]
def integer_long : CF := ⟨2, .seq (.seq (.reg [⟨(some 4), .mov (.c (.z true)), none⟩,
    ⟨(some 5), .mov (.c (.z true)), none⟩] []) <|
  .keep [0, 1] []) <|
  .seq (.seq (.reg [⟨(some 22), .mov (.t 1), none⟩,
    ⟨(some 23), .mov (.t 1), none⟩,
    ⟨(some 24), .len (.t 23), none⟩,
    ⟨(some 25), .bin .sub (.t 24) (.c (.v (.int .i64 1))), none⟩,
    ⟨(some 26), .ixa 1 (.t 22) (.t 25), none⟩,
    ⟨(some 27), .load none (.t 26), none⟩,
    ⟨(some 28), .bin .add (.t 27) (.c (.v (.int .i64 1))), none⟩,
    ⟨(some 29), .bin .quo (.c (.v (.int .i64 1000000000))) (.t 28), none⟩,
    ⟨(some 6), .mov (.t 29), none⟩] []) <|
  .keep [0, 1, 6] []) <|
  .seq (.seq (.reg [⟨(some 30), .mov (.t 0), none⟩,
    ⟨(some 31), .mov (.t 6), none⟩,
    ⟨(some 32), .call n_integer_scaled [(.t 30), (.t 31)] true, none⟩,
    ⟨(some 33), .mov (.t 1), none⟩,
    ⟨(some 34), .mov (.t 6), none⟩,
    ⟨(some 35), .call n_integer_scaled [(.t 33), (.t 34)] false, none⟩,
    ⟨(some 36), .mov (.t 1), none⟩,
    ⟨(some 37), .len (.t 36), none⟩,
    ⟨(some 38), .slc 1 (.t 35) none (some (.t 37)) none, none⟩,
    ⟨(some 7), .mov (.t 32), none⟩,
    ⟨(some 8), .mov (.t 38), none⟩] []) <|
  .keep [0, 1, 6, 7, 8] [[32]]) <|
  .seq (.seq (.reg [⟨(some 39), .mov (.t 1), none⟩,
    ⟨(some 40), .len (.t 39), none⟩,
    ⟨(some 9), .mov (.t 40), none⟩] []) <|
  .keep [0, 6, 7, 8, 9] [[32]]) <|
  .seq (.seq (.reg [⟨(some 41), .mov (.t 0), none⟩,
    ⟨(some 42), .len (.t 41), none⟩,
    ⟨(some 43), .mov (.t 9), none⟩,
    ⟨(some 44), .bin .sub (.t 42) (.t 43), none⟩,
    ⟨(some 45), .bin .add (.t 44) (.c (.v (.int .i64 1))), none⟩,
    ⟨(some 46), .mksl 1 8 [.v (.int .i64 0)] (.t 45) (.t 45), none⟩,
    ⟨(some 10), .mov (.t 46), none⟩] []) <|
  .keep [0, 6, 7, 8, 9, 10] [[32], [46]]) <|
  .seq (.seq (.seq (.reg [⟨(some 47), .mov (.t 0), none⟩,
    ⟨(some 48), .len (.t 47), none⟩,
    ⟨(some 49), .mov (.t 9), none⟩,
    ⟨(some 50), .bin .sub (.t 48) (.t 49), none⟩,
    ⟨(some 11), .mov (.t 50), none⟩] []) <|
  .keep [6, 7, 8, 9, 10, 11] [[32], [46]]) <|
  .seq (.blk 0 <|
  .seq (.keep [6, 7, 8, 9, 10, 11] [[32], [46]]) <|
  .loop integer_long_l3) <|
  .keep [6, 7, 9, 10] [[32], [46]]) <|
  .seq (.seq (.frz 7) <|
  .seq (.reg [⟨(some 213), .mov (.t 7), none⟩,
    ⟨(some 214), .mov (.t 9), none⟩,
    ⟨(some 215), .slc 1 (.t 213) none (some (.t 214)) none, none⟩,
    ⟨(some 216), .mov (.t 6), none⟩,
    ⟨(some 217), .call n_integer_short [(.t 215), (.t 216)] false, none⟩,
    ⟨(some 212), .mov (.t 217), none⟩,
    ⟨(some 218), .ext (.t 212) 0, none⟩,
    ⟨(some 219), .ext (.t 212) 1, none⟩,
    ⟨(some 20), .mov (.t 218), none⟩,
    ⟨(some 21), .mov (.t 219), none⟩] []) <|
  .keep [10, 20] [[46]]) <|
  .seq (.seq (.reg [⟨(some 220), .mov (.t 10), none⟩,
    ⟨(some 221), .mov (.t 20), none⟩,
    ⟨(some 4), .mov (.t 220), none⟩,
    ⟨(some 5), .mov (.t 221), none⟩] []) <|
  .keep [4, 5] [[46]]) <|
  .ret, [.t 4, .t 5]⟩

/- 88: gantry/gantryref04.times -/
def gantryref04_times : CF := ⟨2, .seq (.seq (.reg [⟨(some 4), .mov (.c (.z true)), none⟩] []) <|
  .keep [0, 1] []) <|
  .seq (.seq (.reg [⟨(some 6), .mov (.t 0), none⟩,
    ⟨(some 7), .call n_gantryref04_normal [(.c (.v (.bool false))), (.t 6)] false, none⟩,
    ⟨(some 8), .mov (.t 1), none⟩,
    ⟨(some 9), .call n_gantryref04_Of [(.t 8)] false, none⟩,
    ⟨(some 10), .call n_gantryref04_Mul [(.t 7), (.t 9)] false, none⟩,
    ⟨(some 5), .new [.v (.bool false), .z true], none⟩,
    ⟨none, .store 2 (.t 5) (.t 10), none⟩] []) <|
  .keep [5] [[5]]) <|
  .seq (.seq (.reg [⟨(some 11), .fad 1 (.t 5), none⟩,
    ⟨(some 12), .load none (.t 11), none⟩,
    ⟨(some 4), .mov (.t 12), none⟩] []) <|
  .keep [4] []) <|
  .ret, [.t 4]⟩

/- 89: slices.IndexFunc[[]int,int] -/
def slices_IndexFunc_int_int_l0 : C :=
  .seq (.seq (.seq (.reg [⟨(some 9), .bin .lss (.t 8) (.t 7), none⟩] []) <|
  .keep [0, 1, 7, 8, 9] []) <|
  .seq (.cond (.t 9) (.skip) <|
  .seq (.keep [] []) <|
  .exit 0) <|
  .seq (.seq (.blk 1 <|
  .seq (.seq (.reg [⟨(some 10), .mov (.t 8), none⟩,
    ⟨(some 5), .mov (.t 10), none⟩] []) <|
  .keep [0, 1, 5, 7, 8] []) <|
  .seq (.seq (.reg [⟨(some 11), .mov (.t 1), none⟩,
    ⟨(some 12), .mov (.t 0), none⟩,
    ⟨(some 13), .mov (.t 5), none⟩,
    ⟨(some 14), .ixa 1 (.t 12) (.t 13), none⟩,
    ⟨(some 15), .load none (.t 14), none⟩,
    ⟨(some 16), .calv (.t 11) [(.t 15)], none⟩] []) <|
  .keep [0, 1, 5, 7, 8, 16] []) <|
  .cond (.t 16) (.seq (.seq (.reg [⟨(some 17), .mov (.t 5), none⟩,
    ⟨(some 4), .mov (.t 17), none⟩] []) <|
  .keep [4] []) <|
  .ret) <|
  .skip) <|
  .keep [0, 1, 7, 8] []) <|
  .seq (.reg [⟨(some 18), .bin .add (.t 8) (.c (.v (.int .i64 1))), none⟩,
    ⟨(some 8), .mov (.t 18), none⟩] []) <|
  .keep [0, 1, 7, 8] []) <|
  .keep [0, 1, 7, 8] []
def slices_IndexFunc_int_int : CF := ⟨2, .seq (.seq (.reg [⟨(some 4), .mov (.c (.v (.int .i64 0))), none⟩] []) <|
  .keep [0, 1] []) <|
  .seq (.seq (.seq (.reg [⟨(some 6), .mov (.t 0), none⟩,
    ⟨(some 7), .len (.t 6), none⟩,
    ⟨(some 8), .mov (.c (.v (.int .i64 0))), none⟩] []) <|
  .keep [0, 1, 7, 8] []) <|
  .seq (.blk 0 <|
  .seq (.keep [0, 1, 7, 8] []) <|
  .loop slices_IndexFunc_int_int_l0) <|
  .keep [] []) <|
  .seq (.seq (.reg [⟨(some 4), .mov (.c (.v (.int .i64 (-1)))), none⟩] []) <|
  .keep [4] []) <|
  .ret, [.t 4]⟩

/- 91: internal/strconv.Itoa -/
def internal_strconv_Itoa : CF := ⟨1, .seq (.seq (.reg [⟨(some 2), .mov (.c (.v (.string ⟨#[]⟩))), none⟩] []) <|
  .keep [0] []) <|
  .seq (.seq (.reg [⟨(some 3), .mov (.t 0), none⟩,
    ⟨(some 4), .call n_internal_strconv_FormatInt [(.t 3), (.c (.v (.int .i64 10)))] false, none⟩,
    ⟨(some 2), .mov (.t 4), none⟩] []) <|
  .keep [2] []) <|
  .ret, [.t 2]⟩

/- 92: math/bits.Mul -/
def math_bits_Mul : CF := ⟨2, .seq (.seq (.reg [⟨(some 4), .mov (.c (.v (.int .u64 0))), none⟩,
    ⟨(some 5), .mov (.c (.v (.int .u64 0))), none⟩] []) <|
  .keep [0, 1] []) <|
  .seq (.cond (.c (.v (.bool false))) (.seq (.seq (.reg [⟨(some 11), .mov (.t 0), none⟩,
    ⟨(some 12), .conv (.int .u32) (.t 11), none⟩,
    ⟨(some 13), .mov (.t 1), none⟩,
    ⟨(some 14), .conv (.int .u32) (.t 13), none⟩,
    ⟨(some 15), .call n_math_bits_Mul32 [(.t 12), (.t 14)] false, none⟩,
    ⟨(some 10), .mov (.t 15), none⟩,
    ⟨(some 16), .ext (.t 10) 0, none⟩,
    ⟨(some 17), .ext (.t 10) 1, none⟩,
    ⟨(some 6), .mov (.t 16), none⟩,
    ⟨(some 7), .mov (.t 17), none⟩] []) <|
  .keep [6, 7] []) <|
  .seq (.seq (.reg [⟨(some 18), .mov (.t 6), none⟩,
    ⟨(some 19), .conv (.int .u64) (.t 18), none⟩,
    ⟨(some 20), .mov (.t 7), none⟩,
    ⟨(some 21), .conv (.int .u64) (.t 20), none⟩,
    ⟨(some 4), .mov (.t 19), none⟩,
    ⟨(some 5), .mov (.t 21), none⟩] []) <|
  .keep [4, 5] []) <|
  .ret) <|
  .skip) <|
  .seq (.seq (.reg [⟨(some 23), .mov (.t 0), none⟩,
    ⟨(some 24), .mov (.t 1), none⟩,
    ⟨(some 25), .call n_math_bits_Mul64 [(.t 23), (.t 24)] false, none⟩,
    ⟨(some 22), .mov (.t 25), none⟩,
    ⟨(some 26), .ext (.t 22) 0, none⟩,
    ⟨(some 27), .ext (.t 22) 1, none⟩,
    ⟨(some 8), .mov (.t 26), none⟩,
    ⟨(some 9), .mov (.t 27), none⟩] []) <|
  .keep [8, 9] []) <|
  .seq (.seq (.reg [⟨(some 28), .mov (.t 8), none⟩,
    ⟨(some 29), .mov (.t 9), none⟩,
    ⟨(some 4), .mov (.t 28), none⟩,
    ⟨(some 5), .mov (.t 29), none⟩] []) <|
  .keep [4, 5] []) <|
  .ret, [.t 4, .t 5]⟩

/- 93: strings.HasPrefix -/
def strings_HasPrefix : CF := ⟨2, .seq (.seq (.reg [⟨(some 4), .mov (.c (.v (.bool false))), none⟩] []) <|
  .keep [0, 1] []) <|
  .seq (.seq (.reg [⟨(some 5), .mov (.t 0), none⟩,
    ⟨(some 6), .mov (.t 1), none⟩,
    ⟨(some 7), .call n_internal_stringslite_HasPrefix [(.t 5), (.t 6)] false, none⟩,
    ⟨(some 4), .mov (.t 7), none⟩] []) <|
  .keep [4] []) <|
  .ret, [.t 4]⟩

/- 96: internal/stringslite.CutPrefix -/
def internal_stringslite_CutPrefix : CF := ⟨2, .seq (.seq (.reg [⟨(some 4), .mov (.c (.v (.string ⟨#[]⟩))), none⟩,
    ⟨(some 5), .mov (.c (.v (.bool false))), none⟩] []) <|
  .keep [0, 1] []) <|
  .seq (.seq (.seq (.reg [⟨(some 6), .mov (.t 0), none⟩,
    ⟨(some 7), .mov (.t 1), none⟩,
    ⟨(some 8), .call n_internal_stringslite_HasPrefix [(.t 6), (.t 7)] false, none⟩,
    ⟨(some 9), .un .not (.t 8), none⟩] []) <|
  .keep [0, 1, 9] []) <|
  .cond (.t 9) (.seq (.seq (.reg [⟨(some 10), .mov (.t 0), none⟩,
    ⟨(some 4), .mov (.t 10), none⟩,
    ⟨(some 5), .mov (.c (.v (.bool false))), none⟩] []) <|
  .keep [4, 5] []) <|
  .ret) <|
  .skip) <|
  .seq (.seq (.reg [⟨(some 11), .mov (.t 0), none⟩,
    ⟨(some 12), .mov (.t 1), none⟩,
    ⟨(some 13), .lns (.t 12), none⟩,
    ⟨(some 14), .sls (.t 11) (some (.t 13)) none, none⟩,
    ⟨(some 4), .mov (.t 14), none⟩,
    ⟨(some 5), .mov (.c (.v (.bool true))), none⟩] []) <|
  .keep [4, 5] []) <|
  .ret, [.t 4, .t 5]⟩

/- 97: strings.trimLeftByte -/
def strings_trimLeftByte_l0 : C :=
  .seq (.seq (.seq (.seq (.reg [⟨(some 5), .mov (.t 0), none⟩,
    ⟨(some 6), .lns (.t 5), none⟩,
    ⟨(some 7), .bin .gtr (.t 6) (.c (.v (.int .i64 0))), none⟩,
    ⟨(some 8), .mov (.t 7), none⟩,
    ⟨(some 9), .mov (.t 0), (some (8, true))⟩,
    ⟨(some 10), .ixs (.t 9) (.c (.v (.int .i64 0))), (some (8, true))⟩,
    ⟨(some 11), .mov (.t 1), (some (8, true))⟩,
    ⟨(some 12), .bin .eql (.t 10) (.t 11), (some (8, true))⟩,
    ⟨(some 13), .pick (.t 8) (.t 12) (.c (.v (.bool false))), none⟩] []) <|
  .keep [0, 1, 13] []) <|
  .cond (.t 13) (.skip) <|
  .seq (.keep [0] []) <|
  .exit 0) <|
  .seq (.blk 1 <|
  .seq (.reg [⟨(some 14), .mov (.t 0), none⟩,
    ⟨(some 15), .sls (.t 14) (some (.c (.v (.int .i64 1)))) none, none⟩,
    ⟨(some 0), .mov (.t 15), none⟩] []) <|
  .keep [0, 1] []) <|
  .keep [0, 1] []) <|
  .keep [0, 1] []
def strings_trimLeftByte : CF := ⟨2, .seq (.seq (.reg [⟨(some 4), .mov (.c (.v (.string ⟨#[]⟩))), none⟩] []) <|
  .keep [0, 1] []) <|
  .seq (.seq (.blk 0 <|
  .seq (.keep [0, 1] []) <|
  .loop strings_trimLeftByte_l0) <|
  .keep [0] []) <|
  .seq (.seq (.reg [⟨(some 16), .mov (.t 0), none⟩,
    ⟨(some 4), .mov (.t 16), none⟩] []) <|
  .keep [4] []) <|
  .ret, [.t 4]⟩

/- 98: strings.trimRightByte -/
def strings_trimRightByte_l0 : C :=
  .seq (.seq (.seq (.seq (.reg [⟨(some 5), .mov (.t 0), none⟩,
    ⟨(some 6), .lns (.t 5), none⟩,
    ⟨(some 7), .bin .gtr (.t 6) (.c (.v (.int .i64 0))), none⟩,
    ⟨(some 8), .mov (.t 7), none⟩,
    ⟨(some 9), .mov (.t 0), (some (8, true))⟩,
    ⟨(some 10), .mov (.t 0), (some (8, true))⟩,
    ⟨(some 11), .lns (.t 10), (some (8, true))⟩,
    ⟨(some 12), .bin .sub (.t 11) (.c (.v (.int .i64 1))), (some (8, true))⟩,
    ⟨(some 13), .ixs (.t 9) (.t 12), (some (8, true))⟩,
    ⟨(some 14), .mov (.t 1), (some (8, true))⟩,
    ⟨(some 15), .bin .eql (.t 13) (.t 14), (some (8, true))⟩,
    ⟨(some 16), .pick (.t 8) (.t 15) (.c (.v (.bool false))), none⟩] []) <|
  .keep [0, 1, 16] []) <|
  .cond (.t 16) (.skip) <|
  .seq (.keep [0] []) <|
  .exit 0) <|
  .seq (.blk 1 <|
  .seq (.reg [⟨(some 17), .mov (.t 0), none⟩,
    ⟨(some 18), .mov (.t 0), none⟩,
    ⟨(some 19), .lns (.t 18), none⟩,
    ⟨(some 20), .bin .sub (.t 19) (.c (.v (.int .i64 1))), none⟩,
    ⟨(some 21), .sls (.t 17) none (some (.t 20)), none⟩,
    ⟨(some 0), .mov (.t 21), none⟩] []) <|
  .keep [0, 1] []) <|
  .keep [0, 1] []) <|
  .keep [0, 1] []
def strings_trimRightByte : CF := ⟨2, .seq (.seq (.reg [⟨(some 4), .mov (.c (.v (.string ⟨#[]⟩))), none⟩] []) <|
  .keep [0, 1] []) <|
  .seq (.seq (.blk 0 <|
  .seq (.keep [0, 1] []) <|
  .loop strings_trimRightByte_l0) <|
  .keep [0] []) <|
  .seq (.seq (.reg [⟨(some 22), .mov (.t 0), none⟩,
    ⟨(some 4), .mov (.t 22), none⟩] []) <|
  .keep [4] []) <|
  .ret, [.t 4]⟩

/- 100: strings.trimLeftASCII -/
def strings_trimLeftASCII_l0 : C :=
  .seq (.seq (.seq (.seq (.reg [⟨(some 5), .mov (.t 0), none⟩,
    ⟨(some 6), .lns (.t 5), none⟩,
    ⟨(some 7), .bin .gtr (.t 6) (.c (.v (.int .i64 0))), none⟩] []) <|
  .keep [0, 1, 7] []) <|
  .cond (.t 7) (.skip) <|
  .seq (.keep [0] []) <|
  .exit 0) <|
  .seq (.blk 1 <|
  .seq (.seq (.seq (.reg [⟨(some 8), .mov (.t 1), none⟩,
    ⟨(some 9), .mov (.t 0), none⟩,
    ⟨(some 10), .ixs (.t 9) (.c (.v (.int .i64 0))), none⟩,
    ⟨(some 11), .call n_strings_asciiSet_contains [(.t 8), (.t 10)] false, none⟩,
    ⟨(some 12), .un .not (.t 11), none⟩] []) <|
  .keep [0, 1, 12] []) <|
  .cond (.t 12) (.seq (.keep [0] []) <|
  .exit 0) <|
  .skip) <|
  .seq (.reg [⟨(some 13), .mov (.t 0), none⟩,
    ⟨(some 14), .sls (.t 13) (some (.c (.v (.int .i64 1)))) none, none⟩,
    ⟨(some 0), .mov (.t 14), none⟩] []) <|
  .keep [0, 1] []) <|
  .keep [0, 1] []) <|
  .keep [0, 1] []
def strings_trimLeftASCII : CF := ⟨2, .seq (.seq (.reg [⟨(some 4), .mov (.c (.v (.string ⟨#[]⟩))), none⟩] []) <|
  .keep [0, 1] []) <|
  .seq (.seq (.blk 0 <|
  .seq (.keep [0, 1] []) <|
  .loop strings_trimLeftASCII_l0) <|
  .keep [0] []) <|
  .seq (.seq (.reg [⟨(some 15), .mov (.t 0), none⟩,
    ⟨(some 4), .mov (.t 15), none⟩] []) <|
  .keep [4] []) <|
  .ret, [.t 4]⟩

/- 101: strings.trimRightASCII -/
def strings_trimRightASCII_l0 : C :=
  .seq (.seq (.seq (.seq (.reg [⟨(some 5), .mov (.t 0), none⟩,
    ⟨(some 6), .lns (.t 5), none⟩,
    ⟨(some 7), .bin .gtr (.t 6) (.c (.v (.int .i64 0))), none⟩] []) <|
  .keep [0, 1, 7] []) <|
  .cond (.t 7) (.skip) <|
  .seq (.keep [0] []) <|
  .exit 0) <|
  .seq (.blk 1 <|
  .seq (.seq (.seq (.reg [⟨(some 8), .mov (.t 1), none⟩,
    ⟨(some 9), .mov (.t 0), none⟩,
    ⟨(some 10), .mov (.t 0), none⟩,
    ⟨(some 11), .lns (.t 10), none⟩,
    ⟨(some 12), .bin .sub (.t 11) (.c (.v (.int .i64 1))), none⟩,
    ⟨(some 13), .ixs (.t 9) (.t 12), none⟩,
    ⟨(some 14), .call n_strings_asciiSet_contains [(.t 8), (.t 13)] false, none⟩,
    ⟨(some 15), .un .not (.t 14), none⟩] []) <|
  .keep [0, 1, 15] []) <|
  .cond (.t 15) (.seq (.keep [0] []) <|
  .exit 0) <|
  .skip) <|
  .seq (.reg [⟨(some 16), .mov (.t 0), none⟩,
    ⟨(some 17), .mov (.t 0), none⟩,
    ⟨(some 18), .lns (.t 17), none⟩,
    ⟨(some 19), .bin .sub (.t 18) (.c (.v (.int .i64 1))), none⟩,
    ⟨(some 20), .sls (.t 16) none (some (.t 19)), none⟩,
    ⟨(some 0), .mov (.t 20), none⟩] []) <|
  .keep [0, 1] []) <|
  .keep [0, 1] []) <|
  .keep [0, 1] []
def strings_trimRightASCII : CF := ⟨2, .seq (.seq (.reg [⟨(some 4), .mov (.c (.v (.string ⟨#[]⟩))), none⟩] []) <|
  .keep [0, 1] []) <|
  .seq (.seq (.blk 0 <|
  .seq (.keep [0, 1] []) <|
  .loop strings_trimRightASCII_l0) <|
  .keep [0] []) <|
  .seq (.seq (.reg [⟨(some 21), .mov (.t 0), none⟩,
    ⟨(some 4), .mov (.t 21), none⟩] []) <|
  .keep [4] []) <|
  .ret, [.t 4]⟩

/- 102: strings.trimLeftUnicode -/
def strings_trimLeftUnicode_l0 : C :=
  .seq (.seq (.seq (.seq (.reg [⟨(some 7), .mov (.t 0), none⟩,
    ⟨(some 8), .lns (.t 7), none⟩,
    ⟨(some 9), .bin .gtr (.t 8) (.c (.v (.int .i64 0))), none⟩] []) <|
  .keep [0, 1, 9] []) <|
  .cond (.t 9) (.skip) <|
  .seq (.keep [0] []) <|
  .exit 0) <|
  .seq (.blk 1 <|
  .seq (.seq (.reg [⟨(some 11), .mov (.t 0), none⟩,
    ⟨(some 12), .call n_unicode_utf8_DecodeRuneInString [(.t 11)] false, none⟩,
    ⟨(some 10), .mov (.t 12), none⟩,
    ⟨(some 13), .ext (.t 10) 0, none⟩,
    ⟨(some 14), .ext (.t 10) 1, none⟩,
    ⟨(some 5), .mov (.t 13), none⟩,
    ⟨(some 6), .mov (.t 14), none⟩] []) <|
  .keep [0, 1, 5, 6] []) <|
  .seq (.seq (.seq (.reg [⟨(some 15), .mov (.t 1), none⟩,
    ⟨(some 16), .mov (.t 5), none⟩,
    ⟨(some 17), .call n_strings_ContainsRune [(.t 15), (.t 16)] false, none⟩,
    ⟨(some 18), .un .not (.t 17), none⟩] []) <|
  .keep [0, 1, 6, 18] []) <|
  .cond (.t 18) (.seq (.keep [0] []) <|
  .exit 0) <|
  .skip) <|
  .seq (.reg [⟨(some 19), .mov (.t 0), none⟩,
    ⟨(some 20), .mov (.t 6), none⟩,
    ⟨(some 21), .sls (.t 19) (some (.t 20)) none, none⟩,
    ⟨(some 0), .mov (.t 21), none⟩] []) <|
  .keep [0, 1] []) <|
  .keep [0, 1] []) <|
  .keep [0, 1] []
def strings_trimLeftUnicode : CF := ⟨2, .seq (.seq (.reg [⟨(some 4), .mov (.c (.v (.string ⟨#[]⟩))), none⟩] []) <|
  .keep [0, 1] []) <|
  .seq (.seq (.blk 0 <|
  .seq (.keep [0, 1] []) <|
  .loop strings_trimLeftUnicode_l0) <|
  .keep [0] []) <|
  .seq (.seq (.reg [⟨(some 22), .mov (.t 0), none⟩,
    ⟨(some 4), .mov (.t 22), none⟩] []) <|
  .keep [4] []) <|
  .ret, [.t 4]⟩
end Go.AM

