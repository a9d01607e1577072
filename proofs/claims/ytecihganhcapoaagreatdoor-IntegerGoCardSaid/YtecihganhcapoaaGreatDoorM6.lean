/- Part 6 of the proof: a small machine, its soundness against the model, and what the program's functions compute on it. -/
import Derived.Test.YtecihganhcapoaaGreatDoorM5
import Derived.Test.YtecihganhcapoaaGreatDoorProg
import Derived.KernelRfl
import Derived.Test.YtecihganhcapoaaGreatDoorM3
import Derived.Test.YtecihganhcapoaaGreatDoorM0
import Derived.RowKit
set_option linter.unusedVariables false
set_option linter.unusedSimpArgs false
set_option maxRecDepth 100000
namespace Go.AM
open Go Go.Proofs


/- 103: strings.trimRightUnicode -/
def strings_trimRightUnicode_l0 : C :=
  .seq (.seq (.seq (.seq (.reg [⟨(some 7), .mov (.t 0), none⟩,
    ⟨(some 8), .lns (.t 7), none⟩,
    ⟨(some 9), .bin .gtr (.t 8) (.c (.v (.int .i64 0))), none⟩] []) <|
  .keep [0, 1, 9] []) <|
  .cond (.t 9) (.skip) <|
  .seq (.keep [0] []) <|
  .exit 0) <|
  .seq (.blk 1 <|
  .seq (.seq (.reg [⟨(some 10), .mov (.t 0), none⟩,
    ⟨(some 11), .mov (.t 0), none⟩,
    ⟨(some 12), .lns (.t 11), none⟩,
    ⟨(some 13), .bin .sub (.t 12) (.c (.v (.int .i64 1))), none⟩,
    ⟨(some 14), .ixs (.t 10) (.t 13), none⟩,
    ⟨(some 15), .conv (.int .i32) (.t 14), none⟩,
    ⟨(some 5), .mov (.t 15), none⟩,
    ⟨(some 6), .mov (.c (.v (.int .i64 1))), none⟩] []) <|
  .keep [0, 1, 5, 6] []) <|
  .seq (.seq (.seq (.reg [⟨(some 16), .mov (.t 5), none⟩,
    ⟨(some 17), .bin .geq (.t 16) (.c (.v (.int .i32 128))), none⟩] []) <|
  .keep [0, 1, 5, 6, 17] []) <|
  .cond (.t 17) (.seq (.reg [⟨(some 19), .mov (.t 0), none⟩,
    ⟨(some 20), .call n_unicode_utf8_DecodeLastRuneInString [(.t 19)] false, none⟩,
    ⟨(some 18), .mov (.t 20), none⟩,
    ⟨(some 21), .ext (.t 18) 0, none⟩,
    ⟨(some 22), .ext (.t 18) 1, none⟩,
    ⟨(some 5), .mov (.t 21), none⟩,
    ⟨(some 6), .mov (.t 22), none⟩] []) <|
  .keep [0, 1, 5, 6] []) <|
  .skip) <|
  .seq (.seq (.seq (.reg [⟨(some 23), .mov (.t 1), none⟩,
    ⟨(some 24), .mov (.t 5), none⟩,
    ⟨(some 25), .call n_strings_ContainsRune [(.t 23), (.t 24)] false, none⟩,
    ⟨(some 26), .un .not (.t 25), none⟩] []) <|
  .keep [0, 1, 6, 26] []) <|
  .cond (.t 26) (.seq (.keep [0] []) <|
  .exit 0) <|
  .skip) <|
  .seq (.reg [⟨(some 27), .mov (.t 0), none⟩,
    ⟨(some 28), .mov (.t 0), none⟩,
    ⟨(some 29), .lns (.t 28), none⟩,
    ⟨(some 30), .mov (.t 6), none⟩,
    ⟨(some 31), .bin .sub (.t 29) (.t 30), none⟩,
    ⟨(some 32), .sls (.t 27) none (some (.t 31)), none⟩,
    ⟨(some 0), .mov (.t 32), none⟩] []) <|
  .keep [0, 1] []) <|
  .keep [0, 1] []) <|
  .keep [0, 1] []
def strings_trimRightUnicode : CF := ⟨2, .seq (.seq (.reg [⟨(some 4), .mov (.c (.v (.string ⟨#[]⟩))), none⟩] []) <|
  .keep [0, 1] []) <|
  .seq (.seq (.blk 0 <|
  .seq (.keep [0, 1] []) <|
  .loop strings_trimRightUnicode_l0) <|
  .keep [0] []) <|
  .seq (.seq (.reg [⟨(some 33), .mov (.t 0), none⟩,
    ⟨(some 4), .mov (.t 33), none⟩] []) <|
  .keep [4] []) <|
  .ret, [.t 4]⟩

/- 106: gantry/wire.Int -/
def wire_Int_l0 : C :=
  .seq (.seq (.seq (.seq (.reg [⟨(some 14), .mov (.t 5), none⟩,
    ⟨(some 15), .bin .gtr (.t 14) (.c (.v (.int .i64 0))), none⟩] []) <|
  .keep [3, 4, 5, 15] []) <|
  .cond (.t 15) (.skip) <|
  .seq (.keep [3, 4, 5] []) <|
  .exit 0) <|
  .seq (.blk 1 <|
  .seq (.seq (.seq (.reg [⟨(some 16), .mov (.t 3), none⟩,
    ⟨(some 17), .mov (.t 5), none⟩,
    ⟨(some 18), .bin .sub (.t 17) (.c (.v (.int .i64 1))), none⟩,
    ⟨(some 19), .bin .mul (.c (.v (.int .i64 8))) (.t 18), none⟩,
    ⟨(some 20), .bin .shr (.t 16) (.t 19), none⟩,
    ⟨(some 21), .bin .gtr (.t 20) (.c (.v (.int .u64 0))), none⟩] []) <|
  .keep [3, 4, 5, 21] []) <|
  .cond (.t 21) (.seq (.keep [3, 4, 5] []) <|
  .exit 0) <|
  .skip) <|
  .seq (.reg [⟨(some 22), .mov (.t 5), none⟩,
    ⟨(some 23), .bin .sub (.t 22) (.c (.v (.int .i64 1))), none⟩,
    ⟨(some 5), .mov (.t 23), none⟩] []) <|
  .keep [3, 4, 5] []) <|
  .keep [3, 4, 5] []) <|
  .keep [3, 4, 5] []
def wire_Int_l1 : C :=
  .seq (.seq (.seq (.seq (.reg [⟨(some 32), .mov (.t 7), none⟩,
    ⟨(some 33), .bin .geq (.t 32) (.c (.v (.int .i64 0))), none⟩] []) <|
  .keep [3, 4, 6, 7, 33] [[29], [45]]) <|
  .cond (.t 33) (.skip) <|
  .seq (.keep [6] [[29], [45]]) <|
  .exit 2) <|
  .seq (.seq (.blk 3 <|
  .seq (.reg [⟨(some 36), .mov (.t 6), none⟩,
    ⟨(some 37), .mov (.t 3), none⟩,
    ⟨(some 38), .mov (.t 7), none⟩,
    ⟨(some 39), .bin .mul (.c (.v (.int .i64 8))) (.t 38), none⟩,
    ⟨(some 40), .bin .shr (.t 37) (.t 39), none⟩,
    ⟨(some 41), .conv (.int .u8) (.t 40), none⟩,
    ⟨(some 42), .mov (.t 4), none⟩,
    ⟨(some 43), .bin .xor (.t 41) (.t 42), none⟩,
    ⟨(some 44), .lit 1 1 [.v (.int .u8 0)] [(0, (.t 43))] true, none⟩,
    ⟨(some 45), .app 1 1 (.t 36) (.t 44) false, none⟩,
    ⟨(some 6), .mov (.t 45), none⟩] []) <|
  .keep [3, 4, 6, 7] [[29], [45]]) <|
  .keep [3, 4, 6, 7] [[29], [45]]) <|
  .seq (.reg [⟨(some 34), .mov (.t 7), none⟩,
    ⟨(some 35), .bin .sub (.t 34) (.c (.v (.int .i64 1))), none⟩,
    ⟨(some 7), .mov (.t 35), none⟩] []) <|
  .keep [3, 4, 6, 7] [[29], [45]]) <|
  .keep [3, 4, 6, 7] [[29], [45]]
def wire_Int : CF := ⟨1, .seq (.seq (.reg [⟨(some 2), .mov (.c (.z true)), none⟩] []) <|
  .keep [0] []) <|
  .seq (.seq (.reg [⟨(some 8), .mov (.t 0), none⟩,
    ⟨(some 9), .conv (.int .u64) (.t 8), none⟩,
    ⟨(some 3), .mov (.t 9), none⟩,
    ⟨(some 4), .mov (.c (.v (.int .u8 0))), none⟩] []) <|
  .keep [0, 3, 4] []) <|
  .seq (.seq (.seq (.reg [⟨(some 10), .mov (.t 0), none⟩,
    ⟨(some 11), .bin .lss (.t 10) (.c (.v (.int .i64 0))), none⟩] []) <|
  .keep [3, 4, 11] []) <|
  .cond (.t 11) (.seq (.reg [⟨(some 12), .mov (.t 3), none⟩,
    ⟨(some 13), .un .xor (.t 12), none⟩,
    ⟨(some 3), .mov (.t 13), none⟩,
    ⟨(some 4), .mov (.c (.v (.int .u8 255))), none⟩] []) <|
  .keep [3, 4] []) <|
  .skip) <|
  .seq (.seq (.reg [⟨(some 5), .mov (.c (.v (.int .i64 8))), none⟩] []) <|
  .keep [3, 4, 5] []) <|
  .seq (.skip) <|
  .seq (.seq (.blk 0 <|
  .seq (.keep [3, 4, 5] []) <|
  .loop wire_Int_l0) <|
  .keep [3, 4, 5] []) <|
  .seq (.seq (.reg [⟨(some 24), .mov (.t 5), none⟩,
    ⟨(some 25), .bin .add (.c (.v (.int .i64 128))) (.t 24), none⟩,
    ⟨(some 26), .conv (.int .u8) (.t 25), none⟩,
    ⟨(some 27), .mov (.t 4), none⟩,
    ⟨(some 28), .bin .xor (.t 26) (.t 27), none⟩,
    ⟨(some 29), .lit 1 1 [.v (.int .u8 0)] [(0, (.t 28))] false, none⟩,
    ⟨(some 6), .mov (.t 29), none⟩] []) <|
  .keep [3, 4, 5, 6] [[29], [45]]) <|
  .seq (.seq (.seq (.reg [⟨(some 30), .mov (.t 5), none⟩,
    ⟨(some 31), .bin .sub (.t 30) (.c (.v (.int .i64 1))), none⟩,
    ⟨(some 7), .mov (.t 31), none⟩] []) <|
  .keep [3, 4, 6, 7] [[29], [45]]) <|
  .seq (.blk 2 <|
  .seq (.keep [3, 4, 6, 7] [[29], [45]]) <|
  .loop wire_Int_l1) <|
  .keep [6] [[29], [45]]) <|
  .seq (.seq (.reg [⟨(some 46), .mov (.t 6), none⟩,
    ⟨(some 2), .mov (.t 46), none⟩] []) <|
  .keep [2] [[29], [45]]) <|
  .ret, [.t 2]⟩

/- 107: gantry/wire.count -/
def wire_count : CF := ⟨2, .seq (.seq (.reg [⟨(some 4), .mov (.c (.v (.int .i64 0))), none⟩,
    ⟨(some 5), .mov (.c (.v (.int .i64 0))), none⟩,
    ⟨(some 6), .mov (.c (.v (.int .i64 0))), none⟩] []) <|
  .keep [0, 1] []) <|
  .seq (.seq (.reg [⟨(some 8), .mov (.t 0), none⟩,
    ⟨(some 9), .call n_wire_GetInt [(.t 8)] false, none⟩,
    ⟨(some 7), .mov (.t 9), none⟩,
    ⟨(some 10), .ext (.t 7) 0, none⟩,
    ⟨(some 11), .ext (.t 7) 1, none⟩,
    ⟨(some 12), .ext (.t 7) 2, none⟩,
    ⟨(some 4), .mov (.t 10), none⟩,
    ⟨(some 5), .mov (.t 11), none⟩,
    ⟨(some 6), .mov (.t 12), none⟩] []) <|
  .keep [0, 1, 4, 5, 6] []) <|
  .seq (.seq (.blk 0 <|
  .seq (.seq (.reg [⟨(some 14), .mov (.t 6), none⟩,
    ⟨(some 15), .bin .neq (.t 14) (.c (.v (.int .i64 0))), none⟩,
    ⟨(some 13), .mov (.t 15), none⟩] []) <|
  .keep [0, 1, 4, 5, 6, 13] []) <|
  .cond (.t 13) (.skip) <|
  .seq (.seq (.reg [⟨(some 17), .mov (.t 4), none⟩,
    ⟨(some 18), .bin .lss (.t 17) (.c (.v (.int .i64 0))), none⟩,
    ⟨(some 16), .mov (.t 18), none⟩] []) <|
  .keep [0, 1, 4, 5, 6, 16] []) <|
  .cond (.t 16) (.seq (.reg [⟨(some 6), .mov (.c (.v (.int .i64 2))), none⟩] []) <|
  .keep [4, 5, 6] []) <|
  .seq (.seq (.reg [⟨(some 20), .mov (.t 4), none⟩,
    ⟨(some 21), .mov (.t 0), none⟩,
    ⟨(some 22), .len (.t 21), none⟩,
    ⟨(some 23), .mov (.t 5), none⟩,
    ⟨(some 24), .bin .sub (.t 22) (.t 23), none⟩,
    ⟨(some 25), .mov (.t 1), none⟩,
    ⟨(some 26), .bin .quo (.t 24) (.t 25), none⟩,
    ⟨(some 27), .bin .gtr (.t 20) (.t 26), none⟩,
    ⟨(some 19), .mov (.t 27), none⟩] []) <|
  .keep [4, 5, 6, 19] []) <|
  .cond (.t 19) (.seq (.reg [⟨(some 6), .mov (.c (.v (.int .i64 3))), none⟩] []) <|
  .keep [4, 5, 6] []) <|
  .skip) <|
  .keep [4, 5, 6] []) <|
  .seq (.seq (.reg [⟨(some 28), .mov (.t 4), none⟩,
    ⟨(some 29), .mov (.t 5), none⟩,
    ⟨(some 30), .mov (.t 6), none⟩,
    ⟨(some 4), .mov (.t 28), none⟩,
    ⟨(some 5), .mov (.t 29), none⟩,
    ⟨(some 6), .mov (.t 30), none⟩] []) <|
  .keep [4, 5, 6] []) <|
  .ret, [.t 4, .t 5, .t 6]⟩

/- 108: gantry/wire.reader -/
def wire_reader : CF := ⟨2, .seq (.seq (.reg [⟨(some 2), .box (.t 0), none⟩,
    ⟨(some 3), .box (.t 1), none⟩,
    ⟨(some 4), .mov (.c (.v (.nilFunc))), none⟩] []) <|
  .keep [2, 3] [[2], [3]]) <|
  .seq (.seq (.reg [⟨(some 5), .mkfn n_wire_reader_1 [(.t 2), (.t 3)] true, none⟩,
    ⟨(some 4), .mov (.t 5), none⟩] []) <|
  .keep [4] []) <|
  .ret, [.t 4]⟩

/- 109: gantry/gantryref01.count -/
def gantryref01_count : CF := ⟨2, .seq (.seq (.reg [⟨(some 4), .mov (.c (.v (.int .i64 0))), none⟩,
    ⟨(some 5), .mov (.c (.v (.int .i64 0))), none⟩,
    ⟨(some 6), .mov (.c (.v (.int .i64 0))), none⟩] []) <|
  .keep [0, 1] []) <|
  .seq (.seq (.reg [⟨(some 11), .mov (.t 0), none⟩,
    ⟨(some 12), .call n_gantryref01_GetInt [(.t 11)] false, none⟩,
    ⟨(some 10), .mov (.t 12), none⟩,
    ⟨(some 13), .ext (.t 10) 0, none⟩,
    ⟨(some 14), .ext (.t 10) 1, none⟩,
    ⟨(some 15), .ext (.t 10) 2, none⟩,
    ⟨(some 7), .mov (.t 13), none⟩,
    ⟨(some 8), .mov (.t 14), none⟩,
    ⟨(some 9), .mov (.t 15), none⟩] []) <|
  .keep [0, 1, 7, 8, 9] []) <|
  .seq (.seq (.seq (.reg [⟨(some 16), .mov (.t 9), none⟩,
    ⟨(some 17), .bin .neq (.t 16) (.c (.v (.int .i64 0))), none⟩] []) <|
  .keep [0, 1, 7, 8, 9, 17] []) <|
  .cond (.t 17) (.seq (.seq (.reg [⟨(some 18), .mov (.t 9), none⟩,
    ⟨(some 4), .mov (.c (.v (.int .i64 0))), none⟩,
    ⟨(some 5), .mov (.c (.v (.int .i64 0))), none⟩,
    ⟨(some 6), .mov (.t 18), none⟩] []) <|
  .keep [4, 5, 6] []) <|
  .ret) <|
  .skip) <|
  .seq (.seq (.seq (.reg [⟨(some 19), .mov (.t 7), none⟩,
    ⟨(some 20), .bin .lss (.t 19) (.c (.v (.int .i64 0))), none⟩] []) <|
  .keep [0, 1, 7, 8, 20] []) <|
  .cond (.t 20) (.seq (.seq (.reg [⟨(some 4), .mov (.c (.v (.int .i64 0))), none⟩,
    ⟨(some 5), .mov (.c (.v (.int .i64 0))), none⟩,
    ⟨(some 6), .mov (.c (.v (.int .i64 2))), none⟩] []) <|
  .keep [4, 5, 6] []) <|
  .ret) <|
  .skip) <|
  .seq (.seq (.seq (.reg [⟨(some 21), .mov (.t 7), none⟩,
    ⟨(some 22), .mov (.t 0), none⟩,
    ⟨(some 23), .len (.t 22), none⟩,
    ⟨(some 24), .bin .gtr (.t 21) (.t 23), none⟩,
    ⟨(some 25), .mov (.t 24), none⟩,
    ⟨(some 26), .mov (.t 7), (some (25, false))⟩,
    ⟨(some 27), .mov (.t 1), (some (25, false))⟩,
    ⟨(some 28), .bin .mul (.t 26) (.t 27), (some (25, false))⟩,
    ⟨(some 29), .mov (.t 0), (some (25, false))⟩,
    ⟨(some 30), .len (.t 29), (some (25, false))⟩,
    ⟨(some 31), .mov (.t 8), (some (25, false))⟩,
    ⟨(some 32), .bin .sub (.t 30) (.t 31), (some (25, false))⟩,
    ⟨(some 33), .bin .gtr (.t 28) (.t 32), (some (25, false))⟩,
    ⟨(some 34), .pick (.t 25) (.c (.v (.bool true))) (.t 33), none⟩] []) <|
  .keep [7, 8, 34] []) <|
  .cond (.t 34) (.seq (.seq (.reg [⟨(some 4), .mov (.c (.v (.int .i64 0))), none⟩,
    ⟨(some 5), .mov (.c (.v (.int .i64 0))), none⟩,
    ⟨(some 6), .mov (.c (.v (.int .i64 3))), none⟩] []) <|
  .keep [4, 5, 6] []) <|
  .ret) <|
  .skip) <|
  .seq (.seq (.reg [⟨(some 35), .mov (.t 7), none⟩,
    ⟨(some 36), .mov (.t 8), none⟩,
    ⟨(some 4), .mov (.t 35), none⟩,
    ⟨(some 5), .mov (.t 36), none⟩,
    ⟨(some 6), .mov (.c (.v (.int .i64 0))), none⟩] []) <|
  .keep [4, 5, 6] []) <|
  .ret, [.t 4, .t 5, .t 6]⟩

/- 110: gantry/gantryref01.GetInt -/
def gantryref01_GetInt_l0 : C :=
  .seq (.seq (.seq (.seq (.reg [⟨(some 35), .mov (.t 8), none⟩,
    ⟨(some 36), .mov (.t 6), none⟩,
    ⟨(some 37), .bin .leq (.t 35) (.t 36), none⟩] []) <|
  .keep [0, 5, 6, 7, 8, 37] []) <|
  .cond (.t 37) (.skip) <|
  .seq (.keep [0, 5, 6, 7] []) <|
  .exit 0) <|
  .seq (.seq (.blk 1 <|
  .seq (.seq (.reg [⟨(some 40), .mov (.t 0), none⟩,
    ⟨(some 41), .mov (.t 8), none⟩,
    ⟨(some 42), .ixa 1 (.t 40) (.t 41), none⟩,
    ⟨(some 43), .load none (.t 42), none⟩,
    ⟨(some 44), .conv (.int .i64) (.t 43), none⟩,
    ⟨(some 9), .mov (.t 44), none⟩] []) <|
  .keep [0, 5, 6, 7, 8, 9] []) <|
  .seq (.seq (.seq (.reg [⟨(some 45), .mov (.t 5), none⟩,
    ⟨(some 46), .bin .lss (.t 45) (.c (.v (.int .i64 128))), none⟩] []) <|
  .keep [0, 5, 6, 7, 8, 9, 46] []) <|
  .cond (.t 46) (.seq (.reg [⟨(some 47), .mov (.t 9), none⟩,
    ⟨(some 48), .bin .sub (.c (.v (.int .i64 255))) (.t 47), none⟩,
    ⟨(some 9), .mov (.t 48), none⟩] []) <|
  .keep [0, 5, 6, 7, 8, 9] []) <|
  .skip) <|
  .seq (.seq (.seq (.reg [⟨(some 49), .mov (.t 7), none⟩,
    ⟨(some 50), .bin .gtr (.t 49) (.c (.v (.int .i64 36028797018963967))), none⟩] []) <|
  .keep [0, 5, 6, 7, 8, 9, 50] []) <|
  .cond (.t 50) (.seq (.seq (.reg [⟨(some 2), .mov (.c (.v (.int .i64 0))), none⟩,
    ⟨(some 3), .mov (.c (.v (.int .i64 0))), none⟩,
    ⟨(some 4), .mov (.c (.v (.int .i64 2))), none⟩] []) <|
  .keep [2, 3, 4] []) <|
  .ret) <|
  .skip) <|
  .seq (.reg [⟨(some 51), .mov (.t 7), none⟩,
    ⟨(some 52), .bin .mul (.c (.v (.int .i64 256))) (.t 51), none⟩,
    ⟨(some 53), .mov (.t 9), none⟩,
    ⟨(some 54), .bin .add (.t 52) (.t 53), none⟩,
    ⟨(some 7), .mov (.t 54), none⟩] []) <|
  .keep [0, 5, 6, 7, 8] []) <|
  .keep [0, 5, 6, 7, 8] []) <|
  .seq (.reg [⟨(some 38), .mov (.t 8), none⟩,
    ⟨(some 39), .bin .add (.t 38) (.c (.v (.int .i64 1))), none⟩,
    ⟨(some 8), .mov (.t 39), none⟩] []) <|
  .keep [0, 5, 6, 7, 8] []) <|
  .keep [0, 5, 6, 7, 8] []
def gantryref01_GetInt : CF := ⟨1, .seq (.seq (.reg [⟨(some 2), .mov (.c (.v (.int .i64 0))), none⟩,
    ⟨(some 3), .mov (.c (.v (.int .i64 0))), none⟩,
    ⟨(some 4), .mov (.c (.v (.int .i64 0))), none⟩] []) <|
  .keep [0] []) <|
  .seq (.seq (.seq (.reg [⟨(some 11), .mov (.t 0), none⟩,
    ⟨(some 12), .len (.t 11), none⟩,
    ⟨(some 13), .bin .eql (.t 12) (.c (.v (.int .i64 0))), none⟩] []) <|
  .keep [0, 13] []) <|
  .cond (.t 13) (.seq (.seq (.reg [⟨(some 2), .mov (.c (.v (.int .i64 0))), none⟩,
    ⟨(some 3), .mov (.c (.v (.int .i64 0))), none⟩,
    ⟨(some 4), .mov (.c (.v (.int .i64 3))), none⟩] []) <|
  .keep [2, 3, 4] []) <|
  .ret) <|
  .skip) <|
  .seq (.seq (.reg [⟨(some 14), .mov (.t 0), none⟩,
    ⟨(some 15), .ixa 1 (.t 14) (.c (.v (.int .i64 0))), none⟩,
    ⟨(some 16), .load none (.t 15), none⟩,
    ⟨(some 17), .conv (.int .i64) (.t 16), none⟩,
    ⟨(some 5), .mov (.t 17), none⟩] []) <|
  .keep [0, 5] []) <|
  .seq (.seq (.seq (.reg [⟨(some 18), .mov (.t 5), none⟩,
    ⟨(some 19), .bin .lss (.t 18) (.c (.v (.int .i64 119))), none⟩,
    ⟨(some 20), .mov (.t 19), none⟩,
    ⟨(some 21), .mov (.t 5), (some (20, false))⟩,
    ⟨(some 22), .bin .gtr (.t 21) (.c (.v (.int .i64 136))), (some (20, false))⟩,
    ⟨(some 23), .pick (.t 20) (.c (.v (.bool true))) (.t 22), none⟩] []) <|
  .keep [0, 5, 23] []) <|
  .cond (.t 23) (.seq (.seq (.reg [⟨(some 2), .mov (.c (.v (.int .i64 0))), none⟩,
    ⟨(some 3), .mov (.c (.v (.int .i64 0))), none⟩,
    ⟨(some 4), .mov (.c (.v (.int .i64 2))), none⟩] []) <|
  .keep [2, 3, 4] []) <|
  .ret) <|
  .skip) <|
  .seq (.seq (.reg [⟨(some 24), .mov (.t 5), none⟩,
    ⟨(some 25), .bin .sub (.t 24) (.c (.v (.int .i64 128))), none⟩,
    ⟨(some 6), .mov (.t 25), none⟩] []) <|
  .keep [0, 5, 6] []) <|
  .seq (.seq (.seq (.reg [⟨(some 26), .mov (.t 5), none⟩,
    ⟨(some 27), .bin .lss (.t 26) (.c (.v (.int .i64 128))), none⟩] []) <|
  .keep [0, 5, 6, 27] []) <|
  .cond (.t 27) (.seq (.reg [⟨(some 28), .mov (.t 5), none⟩,
    ⟨(some 29), .bin .sub (.c (.v (.int .i64 127))) (.t 28), none⟩,
    ⟨(some 6), .mov (.t 29), none⟩] []) <|
  .keep [0, 5, 6] []) <|
  .skip) <|
  .seq (.seq (.seq (.reg [⟨(some 30), .mov (.t 0), none⟩,
    ⟨(some 31), .len (.t 30), none⟩,
    ⟨(some 32), .mov (.t 6), none⟩,
    ⟨(some 33), .bin .add (.t 32) (.c (.v (.int .i64 1))), none⟩,
    ⟨(some 34), .bin .lss (.t 31) (.t 33), none⟩] []) <|
  .keep [0, 5, 6, 34] []) <|
  .cond (.t 34) (.seq (.seq (.reg [⟨(some 2), .mov (.c (.v (.int .i64 0))), none⟩,
    ⟨(some 3), .mov (.c (.v (.int .i64 0))), none⟩,
    ⟨(some 4), .mov (.c (.v (.int .i64 3))), none⟩] []) <|
  .keep [2, 3, 4] []) <|
  .ret) <|
  .skip) <|
  .seq (.seq (.reg [⟨(some 7), .mov (.c (.v (.int .i64 0))), none⟩] []) <|
  .keep [0, 5, 6, 7] []) <|
  .seq (.seq (.seq (.reg [⟨(some 8), .mov (.c (.v (.int .i64 1))), none⟩] []) <|
  .keep [0, 5, 6, 7, 8] []) <|
  .seq (.blk 0 <|
  .seq (.keep [0, 5, 6, 7, 8] []) <|
  .loop gantryref01_GetInt_l0) <|
  .keep [0, 5, 6, 7] []) <|
  .seq (.seq (.reg [⟨(some 55), .mov (.t 7), none⟩,
    ⟨(some 10), .mov (.t 55), none⟩] []) <|
  .keep [0, 5, 6, 7, 10] []) <|
  .seq (.seq (.seq (.reg [⟨(some 56), .mov (.t 5), none⟩,
    ⟨(some 57), .bin .lss (.t 56) (.c (.v (.int .i64 128))), none⟩] []) <|
  .keep [0, 6, 7, 10, 57] []) <|
  .cond (.t 57) (.seq (.reg [⟨(some 58), .mov (.t 7), none⟩,
    ⟨(some 59), .bin .sub (.c (.v (.int .i64 (-1)))) (.t 58), none⟩,
    ⟨(some 10), .mov (.t 59), none⟩] []) <|
  .keep [0, 6, 10] []) <|
  .skip) <|
  .seq (.seq (.seq (.reg [⟨(some 60), .mov (.t 10), none⟩,
    ⟨(some 61), .call n_gantryref01_Int [(.t 60)] false, none⟩,
    ⟨(some 62), .mov (.t 0), none⟩,
    ⟨(some 63), .mov (.t 6), none⟩,
    ⟨(some 64), .bin .add (.t 63) (.c (.v (.int .i64 1))), none⟩,
    ⟨(some 65), .slc 1 (.t 62) none (some (.t 64)) none, none⟩,
    ⟨(some 66), .call n_gantryref01_Same [(.t 61), (.t 65)] false, none⟩,
    ⟨(some 67), .un .not (.t 66), none⟩] []) <|
  .keep [6, 10, 67] []) <|
  .cond (.t 67) (.seq (.seq (.reg [⟨(some 2), .mov (.c (.v (.int .i64 0))), none⟩,
    ⟨(some 3), .mov (.c (.v (.int .i64 0))), none⟩,
    ⟨(some 4), .mov (.c (.v (.int .i64 2))), none⟩] []) <|
  .keep [2, 3, 4] []) <|
  .ret) <|
  .skip) <|
  .seq (.seq (.reg [⟨(some 68), .mov (.t 10), none⟩,
    ⟨(some 69), .mov (.t 6), none⟩,
    ⟨(some 70), .bin .add (.t 69) (.c (.v (.int .i64 1))), none⟩,
    ⟨(some 2), .mov (.t 68), none⟩,
    ⟨(some 3), .mov (.t 70), none⟩,
    ⟨(some 4), .mov (.c (.v (.int .i64 0))), none⟩] []) <|
  .keep [2, 3, 4] []) <|
  .ret, [.t 2, .t 3, .t 4]⟩

/- 111: cmp.isNaN[int] -/
def cmp_isNaN_int : CF := ⟨1, .seq (.seq (.reg [⟨(some 2), .mov (.c (.v (.bool false))), none⟩] []) <|
  .keep [0] []) <|
  .seq (.seq (.reg [⟨(some 3), .mov (.t 0), none⟩,
    ⟨(some 4), .mov (.t 0), none⟩,
    ⟨(some 5), .bin .neq (.t 3) (.t 4), none⟩,
    ⟨(some 2), .mov (.t 5), none⟩] []) <|
  .keep [2] []) <|
  .ret, [.t 2]⟩

/- 112: gantry/integer.scaled -/
def integer_scaled_l0 : C :=
  .seq (.seq (.seq (.reg [⟨(some 17), .bin .lss (.t 16) (.t 15), none⟩] []) <|
  .keep [0, 1, 5, 6, 14, 15, 16, 17] [[13]]) <|
  .seq (.cond (.t 17) (.skip) <|
  .seq (.keep [0, 5, 6] [[13]]) <|
  .exit 0) <|
  .seq (.seq (.blk 1 <|
  .seq (.seq (.reg [⟨(some 18), .mov (.t 16), none⟩,
    ⟨(some 19), .ixa 1 (.t 14) (.t 16), none⟩,
    ⟨(some 20), .load none (.t 19), none⟩,
    ⟨(some 7), .mov (.t 18), none⟩,
    ⟨(some 8), .mov (.t 20), none⟩] []) <|
  .keep [0, 1, 5, 6, 7, 8, 14, 15, 16] [[13]]) <|
  .seq (.seq (.reg [⟨(some 21), .mov (.t 8), none⟩,
    ⟨(some 22), .mov (.t 1), none⟩,
    ⟨(some 23), .bin .mul (.t 21) (.t 22), none⟩,
    ⟨(some 24), .mov (.t 6), none⟩,
    ⟨(some 25), .bin .add (.t 23) (.t 24), none⟩,
    ⟨(some 9), .mov (.t 25), none⟩] []) <|
  .keep [0, 1, 5, 7, 9, 14, 15, 16] [[13]]) <|
  .seq (.reg [⟨(some 26), .mov (.t 5), none⟩,
    ⟨(some 27), .mov (.t 7), none⟩,
    ⟨(some 28), .mov (.t 9), none⟩,
    ⟨(some 29), .bin .rem (.t 28) (.c (.v (.int .i64 1000000000))), none⟩,
    ⟨(some 30), .mov (.t 9), none⟩,
    ⟨(some 31), .bin .quo (.t 30) (.c (.v (.int .i64 1000000000))), none⟩,
    ⟨(some 32), .ixa 1 (.t 26) (.t 27), none⟩,
    ⟨none, .store 1 (.t 32) (.t 29), none⟩,
    ⟨(some 6), .mov (.t 31), none⟩] []) <|
  .keep [0, 1, 5, 6, 14, 15, 16] [[13]]) <|
  .keep [0, 1, 5, 6, 14, 15, 16] [[13]]) <|
  .seq (.reg [⟨(some 33), .bin .add (.t 16) (.c (.v (.int .i64 1))), none⟩,
    ⟨(some 16), .mov (.t 33), none⟩] []) <|
  .keep [0, 1, 5, 6, 14, 15, 16] [[13]]) <|
  .keep [0, 1, 5, 6, 14, 15, 16] [[13]]
def integer_scaled : CF := ⟨2, .seq (.seq (.reg [⟨(some 4), .mov (.c (.z true)), none⟩] []) <|
  .keep [0, 1] []) <|
  .seq (.seq (.reg [⟨(some 10), .mov (.t 0), none⟩,
    ⟨(some 11), .len (.t 10), none⟩,
    ⟨(some 12), .bin .add (.t 11) (.c (.v (.int .i64 1))), none⟩,
    ⟨(some 13), .mksl 1 8 [.v (.int .i64 0)] (.t 12) (.t 12), none⟩,
    ⟨(some 5), .mov (.t 13), none⟩] []) <|
  .keep [0, 1, 5] [[13]]) <|
  .seq (.seq (.reg [⟨(some 6), .mov (.c (.v (.int .i64 0))), none⟩] []) <|
  .keep [0, 1, 5, 6] [[13]]) <|
  .seq (.seq (.seq (.reg [⟨(some 14), .mov (.t 0), none⟩,
    ⟨(some 15), .len (.t 14), none⟩,
    ⟨(some 16), .mov (.c (.v (.int .i64 0))), none⟩] []) <|
  .keep [0, 1, 5, 6, 14, 15, 16] [[13]]) <|
  .seq (.blk 0 <|
  .seq (.keep [0, 1, 5, 6, 14, 15, 16] [[13]]) <|
  .loop integer_scaled_l0) <|
  .keep [0, 5, 6] [[13]]) <|
  .seq (.seq (.reg [⟨(some 34), .mov (.t 5), none⟩,
    ⟨(some 35), .mov (.t 0), none⟩,
    ⟨(some 36), .len (.t 35), none⟩,
    ⟨(some 37), .mov (.t 6), none⟩,
    ⟨(some 38), .ixa 1 (.t 34) (.t 36), none⟩,
    ⟨none, .store 1 (.t 38) (.t 37), none⟩] []) <|
  .keep [5] [[13]]) <|
  .seq (.seq (.reg [⟨(some 39), .mov (.t 5), none⟩,
    ⟨(some 4), .mov (.t 39), none⟩] []) <|
  .keep [4] [[13]]) <|
  .ret, [.t 4]⟩

/- 115: math/bits.Mul32 -/
def math_bits_Mul32 : CF := ⟨2, .seq (.seq (.reg [⟨(some 4), .mov (.c (.v (.int .u32 0))), none⟩,
    ⟨(some 5), .mov (.c (.v (.int .u32 0))), none⟩] []) <|
  .keep [0, 1] []) <|
  .seq (.seq (.reg [⟨(some 7), .mov (.t 0), none⟩,
    ⟨(some 8), .conv (.int .u64) (.t 7), none⟩,
    ⟨(some 9), .mov (.t 1), none⟩,
    ⟨(some 10), .conv (.int .u64) (.t 9), none⟩,
    ⟨(some 11), .bin .mul (.t 8) (.t 10), none⟩,
    ⟨(some 6), .mov (.t 11), none⟩] []) <|
  .keep [6] []) <|
  .seq (.seq (.reg [⟨(some 12), .mov (.t 6), none⟩,
    ⟨(some 13), .bin .shr (.t 12) (.c (.v (.int .u64 32))), none⟩,
    ⟨(some 14), .conv (.int .u32) (.t 13), none⟩,
    ⟨(some 15), .mov (.t 6), none⟩,
    ⟨(some 16), .conv (.int .u32) (.t 15), none⟩,
    ⟨(some 4), .mov (.t 14), none⟩,
    ⟨(some 5), .mov (.t 16), none⟩] []) <|
  .keep [4, 5] []) <|
  .ret, [.t 4, .t 5]⟩

/- 116: math/bits.Mul64 -/
def math_bits_Mul64 : CF := ⟨2, .seq (.seq (.reg [⟨(some 4), .mov (.c (.v (.int .u64 0))), none⟩,
    ⟨(some 5), .mov (.c (.v (.int .u64 0))), none⟩] []) <|
  .keep [0, 1] []) <|
  .seq (.seq (.reg [⟨(some 14), .mov (.t 0), none⟩,
    ⟨(some 15), .bin .and (.t 14) (.c (.v (.int .u64 4294967295))), none⟩,
    ⟨(some 6), .mov (.t 15), none⟩] []) <|
  .keep [0, 1, 6] []) <|
  .seq (.seq (.reg [⟨(some 16), .mov (.t 0), none⟩,
    ⟨(some 17), .bin .shr (.t 16) (.c (.v (.int .u64 32))), none⟩,
    ⟨(some 7), .mov (.t 17), none⟩] []) <|
  .keep [0, 1, 6, 7] []) <|
  .seq (.seq (.reg [⟨(some 18), .mov (.t 1), none⟩,
    ⟨(some 19), .bin .and (.t 18) (.c (.v (.int .u64 4294967295))), none⟩,
    ⟨(some 8), .mov (.t 19), none⟩] []) <|
  .keep [0, 1, 6, 7, 8] []) <|
  .seq (.seq (.reg [⟨(some 20), .mov (.t 1), none⟩,
    ⟨(some 21), .bin .shr (.t 20) (.c (.v (.int .u64 32))), none⟩,
    ⟨(some 9), .mov (.t 21), none⟩] []) <|
  .keep [0, 1, 6, 7, 8, 9] []) <|
  .seq (.seq (.reg [⟨(some 22), .mov (.t 6), none⟩,
    ⟨(some 23), .mov (.t 8), none⟩,
    ⟨(some 24), .bin .mul (.t 22) (.t 23), none⟩,
    ⟨(some 10), .mov (.t 24), none⟩] []) <|
  .keep [0, 1, 6, 7, 8, 9, 10] []) <|
  .seq (.seq (.reg [⟨(some 25), .mov (.t 7), none⟩,
    ⟨(some 26), .mov (.t 8), none⟩,
    ⟨(some 27), .bin .mul (.t 25) (.t 26), none⟩,
    ⟨(some 28), .mov (.t 10), none⟩,
    ⟨(some 29), .bin .shr (.t 28) (.c (.v (.int .u64 32))), none⟩,
    ⟨(some 30), .bin .add (.t 27) (.t 29), none⟩,
    ⟨(some 11), .mov (.t 30), none⟩] []) <|
  .keep [0, 1, 6, 7, 9, 11] []) <|
  .seq (.seq (.reg [⟨(some 31), .mov (.t 11), none⟩,
    ⟨(some 32), .bin .and (.t 31) (.c (.v (.int .u64 4294967295))), none⟩,
    ⟨(some 12), .mov (.t 32), none⟩] []) <|
  .keep [0, 1, 6, 7, 9, 11, 12] []) <|
  .seq (.seq (.reg [⟨(some 33), .mov (.t 11), none⟩,
    ⟨(some 34), .bin .shr (.t 33) (.c (.v (.int .u64 32))), none⟩,
    ⟨(some 13), .mov (.t 34), none⟩] []) <|
  .keep [0, 1, 6, 7, 9, 12, 13] []) <|
  .seq (.seq (.reg [⟨(some 35), .mov (.t 12), none⟩,
    ⟨(some 36), .mov (.t 6), none⟩,
    ⟨(some 37), .mov (.t 9), none⟩,
    ⟨(some 38), .bin .mul (.t 36) (.t 37), none⟩,
    ⟨(some 39), .bin .add (.t 35) (.t 38), none⟩,
    ⟨(some 12), .mov (.t 39), none⟩] []) <|
  .keep [0, 1, 7, 9, 12, 13] []) <|
  .seq (.seq (.reg [⟨(some 40), .mov (.t 7), none⟩,
    ⟨(some 41), .mov (.t 9), none⟩,
    ⟨(some 42), .bin .mul (.t 40) (.t 41), none⟩,
    ⟨(some 43), .mov (.t 13), none⟩,
    ⟨(some 44), .bin .add (.t 42) (.t 43), none⟩,
    ⟨(some 45), .mov (.t 12), none⟩,
    ⟨(some 46), .bin .shr (.t 45) (.c (.v (.int .u64 32))), none⟩,
    ⟨(some 47), .bin .add (.t 44) (.t 46), none⟩,
    ⟨(some 4), .mov (.t 47), none⟩] []) <|
  .keep [0, 1, 4] []) <|
  .seq (.seq (.reg [⟨(some 48), .mov (.t 0), none⟩,
    ⟨(some 49), .mov (.t 1), none⟩,
    ⟨(some 50), .bin .mul (.t 48) (.t 49), none⟩,
    ⟨(some 5), .mov (.t 50), none⟩] []) <|
  .keep [4, 5] []) <|
  .ret, [.t 4, .t 5]⟩

/- 117: internal/stringslite.HasPrefix -/
def internal_stringslite_HasPrefix : CF := ⟨2, .seq (.seq (.reg [⟨(some 4), .mov (.c (.v (.bool false))), none⟩] []) <|
  .keep [0, 1] []) <|
  .seq (.seq (.reg [⟨(some 5), .mov (.t 0), none⟩,
    ⟨(some 6), .lns (.t 5), none⟩,
    ⟨(some 7), .mov (.t 1), none⟩,
    ⟨(some 8), .lns (.t 7), none⟩,
    ⟨(some 9), .bin .geq (.t 6) (.t 8), none⟩,
    ⟨(some 10), .mov (.t 9), none⟩,
    ⟨(some 11), .mov (.t 0), (some (10, true))⟩,
    ⟨(some 12), .mov (.t 1), (some (10, true))⟩,
    ⟨(some 13), .lns (.t 12), (some (10, true))⟩,
    ⟨(some 14), .sls (.t 11) none (some (.t 13)), (some (10, true))⟩,
    ⟨(some 15), .mov (.t 1), (some (10, true))⟩,
    ⟨(some 16), .bin .eql (.t 14) (.t 15), (some (10, true))⟩,
    ⟨(some 17), .pick (.t 10) (.t 16) (.c (.v (.bool false))), none⟩,
    ⟨(some 4), .mov (.t 17), none⟩] []) <|
  .keep [4] []) <|
  .ret, [.t 4]⟩

/- 120: unicode/utf8.DecodeRuneInString -/
def unicode_utf8_DecodeRuneInString : CF := ⟨1, .seq (.seq (.reg [⟨(some 2), .mov (.c (.v (.int .i32 0))), none⟩,
    ⟨(some 3), .mov (.c (.v (.int .i64 0))), none⟩] []) <|
  .keep [0] []) <|
  .seq (.seq (.seq (.reg [⟨(some 4), .mov (.t 0), none⟩,
    ⟨(some 5), .bin .neq (.t 4) (.c (.v (.string ⟨#[]⟩))), none⟩,
    ⟨(some 6), .mov (.t 5), none⟩,
    ⟨(some 7), .mov (.t 0), (some (6, true))⟩,
    ⟨(some 8), .ixs (.t 7) (.c (.v (.int .i64 0))), (some (6, true))⟩,
    ⟨(some 9), .bin .lss (.t 8) (.c (.v (.int .u8 128))), (some (6, true))⟩,
    ⟨(some 10), .pick (.t 6) (.t 9) (.c (.v (.bool false))), none⟩] []) <|
  .keep [0, 10] []) <|
  .cond (.t 10) (.seq (.seq (.reg [⟨(some 11), .mov (.t 0), none⟩,
    ⟨(some 12), .ixs (.t 11) (.c (.v (.int .i64 0))), none⟩,
    ⟨(some 13), .conv (.int .i32) (.t 12), none⟩,
    ⟨(some 2), .mov (.t 13), none⟩,
    ⟨(some 3), .mov (.c (.v (.int .i64 1))), none⟩] []) <|
  .keep [2, 3] []) <|
  .ret) <|
  .seq (.reg [⟨(some 15), .mov (.t 0), none⟩,
    ⟨(some 16), .call n_unicode_utf8_decodeRuneInStringSlow [(.t 15)] false, none⟩,
    ⟨(some 14), .mov (.t 16), none⟩,
    ⟨(some 17), .ext (.t 14) 0, none⟩,
    ⟨(some 18), .ext (.t 14) 1, none⟩,
    ⟨(some 2), .mov (.t 17), none⟩,
    ⟨(some 3), .mov (.t 18), none⟩] []) <|
  .keep [2, 3] []) <|
  .ret, [.t 2, .t 3]⟩

/- 121: strings.ContainsRune -/
def strings_ContainsRune : CF := ⟨2, .seq (.seq (.reg [⟨(some 4), .mov (.c (.v (.bool false))), none⟩] []) <|
  .keep [0, 1] []) <|
  .seq (.seq (.reg [⟨(some 5), .mov (.t 0), none⟩,
    ⟨(some 6), .mov (.t 1), none⟩,
    ⟨(some 7), .call n_strings_IndexRune [(.t 5), (.t 6)] false, none⟩,
    ⟨(some 8), .bin .geq (.t 7) (.c (.v (.int .i64 0))), none⟩,
    ⟨(some 4), .mov (.t 8), none⟩] []) <|
  .keep [4] []) <|
  .ret, [.t 4]⟩

/- 122: unicode/utf8.DecodeLastRuneInString -/
def unicode_utf8_DecodeLastRuneInString_l0 : C :=
  .seq (.seq (.seq (.seq (.reg [⟨(some 25), .mov (.t 5), none⟩,
    ⟨(some 26), .mov (.t 6), none⟩,
    ⟨(some 27), .bin .geq (.t 25) (.t 26), none⟩] []) <|
  .keep [0, 4, 5, 6, 27] []) <|
  .cond (.t 27) (.skip) <|
  .seq (.keep [0, 4, 5] []) <|
  .exit 0) <|
  .seq (.seq (.blk 1 <|
  .seq (.seq (.reg [⟨(some 30), .mov (.t 0), none⟩,
    ⟨(some 31), .mov (.t 5), none⟩,
    ⟨(some 32), .ixs (.t 30) (.t 31), none⟩,
    ⟨(some 33), .call n_unicode_utf8_RuneStart [(.t 32)] false, none⟩] []) <|
  .keep [0, 4, 5, 6, 33] []) <|
  .cond (.t 33) (.seq (.keep [0, 4, 5] []) <|
  .exit 0) <|
  .skip) <|
  .keep [0, 4, 5, 6] []) <|
  .seq (.reg [⟨(some 28), .mov (.t 5), none⟩,
    ⟨(some 29), .bin .sub (.t 28) (.c (.v (.int .i64 1))), none⟩,
    ⟨(some 5), .mov (.t 29), none⟩] []) <|
  .keep [0, 4, 5, 6] []) <|
  .keep [0, 4, 5, 6] []
def unicode_utf8_DecodeLastRuneInString : CF := ⟨1, .seq (.seq (.reg [⟨(some 2), .mov (.c (.v (.int .i32 0))), none⟩,
    ⟨(some 3), .mov (.c (.v (.int .i64 0))), none⟩] []) <|
  .keep [0] []) <|
  .seq (.seq (.reg [⟨(some 7), .mov (.t 0), none⟩,
    ⟨(some 8), .lns (.t 7), none⟩,
    ⟨(some 4), .mov (.t 8), none⟩] []) <|
  .keep [0, 4] []) <|
  .seq (.seq (.seq (.reg [⟨(some 9), .mov (.t 4), none⟩,
    ⟨(some 10), .bin .eql (.t 9) (.c (.v (.int .i64 0))), none⟩] []) <|
  .keep [0, 4, 10] []) <|
  .cond (.t 10) (.seq (.seq (.reg [⟨(some 2), .mov (.c (.v (.int .i32 65533))), none⟩,
    ⟨(some 3), .mov (.c (.v (.int .i64 0))), none⟩] []) <|
  .keep [2, 3] []) <|
  .ret) <|
  .skip) <|
  .seq (.seq (.reg [⟨(some 11), .mov (.t 4), none⟩,
    ⟨(some 12), .bin .sub (.t 11) (.c (.v (.int .i64 1))), none⟩,
    ⟨(some 5), .mov (.t 12), none⟩] []) <|
  .keep [0, 4, 5] []) <|
  .seq (.seq (.reg [⟨(some 13), .mov (.t 0), none⟩,
    ⟨(some 14), .mov (.t 5), none⟩,
    ⟨(some 15), .ixs (.t 13) (.t 14), none⟩,
    ⟨(some 16), .conv (.int .i32) (.t 15), none⟩,
    ⟨(some 2), .mov (.t 16), none⟩] []) <|
  .keep [0, 2, 4, 5] []) <|
  .seq (.seq (.seq (.reg [⟨(some 17), .mov (.t 2), none⟩,
    ⟨(some 18), .bin .lss (.t 17) (.c (.v (.int .i32 128))), none⟩] []) <|
  .keep [0, 2, 4, 5, 18] []) <|
  .cond (.t 18) (.seq (.seq (.reg [⟨(some 19), .mov (.t 2), none⟩,
    ⟨(some 2), .mov (.t 19), none⟩,
    ⟨(some 3), .mov (.c (.v (.int .i64 1))), none⟩] []) <|
  .keep [2, 3] []) <|
  .ret) <|
  .skip) <|
  .seq (.seq (.reg [⟨(some 20), .mov (.t 4), none⟩,
    ⟨(some 21), .bin .sub (.t 20) (.c (.v (.int .i64 4))), none⟩,
    ⟨(some 22), .mx [(.t 21), (.c (.v (.int .i64 0)))], none⟩,
    ⟨(some 6), .mov (.t 22), none⟩] []) <|
  .keep [0, 4, 5, 6] []) <|
  .seq (.seq (.seq (.reg [⟨(some 23), .mov (.t 5), none⟩,
    ⟨(some 24), .bin .sub (.t 23) (.c (.v (.int .i64 1))), none⟩,
    ⟨(some 5), .mov (.t 24), none⟩] []) <|
  .keep [0, 4, 5, 6] []) <|
  .seq (.blk 0 <|
  .seq (.keep [0, 4, 5, 6] []) <|
  .loop unicode_utf8_DecodeLastRuneInString_l0) <|
  .keep [0, 4, 5] []) <|
  .seq (.seq (.seq (.reg [⟨(some 34), .mov (.t 5), none⟩,
    ⟨(some 35), .bin .lss (.t 34) (.c (.v (.int .i64 0))), none⟩] []) <|
  .keep [0, 4, 5, 35] []) <|
  .cond (.t 35) (.seq (.reg [⟨(some 5), .mov (.c (.v (.int .i64 0))), none⟩] []) <|
  .keep [0, 4, 5] []) <|
  .skip) <|
  .seq (.seq (.reg [⟨(some 37), .mov (.t 0), none⟩,
    ⟨(some 38), .mov (.t 5), none⟩,
    ⟨(some 39), .mov (.t 4), none⟩,
    ⟨(some 40), .sls (.t 37) (some (.t 38)) (some (.t 39)), none⟩,
    ⟨(some 41), .call n_unicode_utf8_DecodeRuneInString [(.t 40)] false, none⟩,
    ⟨(some 36), .mov (.t 41), none⟩,
    ⟨(some 42), .ext (.t 36) 0, none⟩,
    ⟨(some 43), .ext (.t 36) 1, none⟩,
    ⟨(some 2), .mov (.t 42), none⟩,
    ⟨(some 3), .mov (.t 43), none⟩] []) <|
  .keep [2, 3, 4, 5] []) <|
  .seq (.seq (.seq (.reg [⟨(some 44), .mov (.t 5), none⟩,
    ⟨(some 45), .mov (.t 3), none⟩,
    ⟨(some 46), .bin .add (.t 44) (.t 45), none⟩,
    ⟨(some 47), .mov (.t 4), none⟩,
    ⟨(some 48), .bin .neq (.t 46) (.t 47), none⟩] []) <|
  .keep [2, 3, 48] []) <|
  .cond (.t 48) (.seq (.seq (.reg [⟨(some 2), .mov (.c (.v (.int .i32 65533))), none⟩,
    ⟨(some 3), .mov (.c (.v (.int .i64 1))), none⟩] []) <|
  .keep [2, 3] []) <|
  .ret) <|
  .skip) <|
  .seq (.seq (.reg [⟨(some 49), .mov (.t 2), none⟩,
    ⟨(some 50), .mov (.t 3), none⟩,
    ⟨(some 2), .mov (.t 49), none⟩,
    ⟨(some 3), .mov (.t 50), none⟩] []) <|
  .keep [2, 3] []) <|
  .ret, [.t 2, .t 3]⟩

/- 126: strconv.baseError -/
def strconv_baseError : CF := ⟨3, .seq (.seq (.reg [⟨(some 6), .mov (.c (.v (.pointer none))), none⟩] []) <|
  .keep [0, 1, 2] []) <|
  .seq (.seq (.reg [⟨(some 7), .mov (.t 0), none⟩,
    ⟨(some 8), .mov (.t 1), none⟩,
    ⟨(some 9), .call n_internal_stringslite_Clone [(.t 8)] false, none⟩,
    ⟨(some 10), .mov (.t 2), none⟩,
    ⟨(some 11), .call n_strconv_Itoa [(.t 10)] false, none⟩,
    ⟨(some 12), .bin .add (.c (.v (.string ⟨#[105, 110, 118, 97, 108, 105, 100, 32, 98, 97, 115, 101, 32]⟩))) (.t 11), none⟩,
    ⟨(some 13), .call n_errors_New [(.t 12)] false, none⟩,
    ⟨(some 14), .build [.v (.string ⟨#[]⟩), .v (.string ⟨#[]⟩), .v (.nilIface)] [(0, 1, (.t 7)), (1, 1, (.t 9)), (2, 1, (.t 13))], none⟩,
    ⟨(some 15), .box (.t 14), none⟩,
    ⟨(some 6), .mov (.t 15), none⟩] []) <|
  .keep [6] [[15]]) <|
  .ret, [.t 6]⟩

/- 127: strconv.bitSizeError -/
def strconv_bitSizeError : CF := ⟨3, .seq (.seq (.reg [⟨(some 6), .mov (.c (.v (.pointer none))), none⟩] []) <|
  .keep [0, 1, 2] []) <|
  .seq (.seq (.reg [⟨(some 7), .mov (.t 0), none⟩,
    ⟨(some 8), .mov (.t 1), none⟩,
    ⟨(some 9), .call n_internal_stringslite_Clone [(.t 8)] false, none⟩,
    ⟨(some 10), .mov (.t 2), none⟩,
    ⟨(some 11), .call n_strconv_Itoa [(.t 10)] false, none⟩,
    ⟨(some 12), .bin .add (.c (.v (.string ⟨#[105, 110, 118, 97, 108, 105, 100, 32, 98, 105, 116, 32, 115, 105, 122, 101, 32]⟩))) (.t 11), none⟩,
    ⟨(some 13), .call n_errors_New [(.t 12)] false, none⟩,
    ⟨(some 14), .build [.v (.string ⟨#[]⟩), .v (.string ⟨#[]⟩), .v (.nilIface)] [(0, 1, (.t 7)), (1, 1, (.t 9)), (2, 1, (.t 13))], none⟩,
    ⟨(some 15), .box (.t 14), none⟩,
    ⟨(some 6), .mov (.t 15), none⟩] []) <|
  .keep [6] [[15]]) <|
  .ret, [.t 6]⟩

/- 128: gantry/wire.GetInt -/
def wire_GetInt_l0 : C :=
  .seq (.seq (.seq (.reg [⟨(some 49), .bin .lss (.t 48) (.t 47), none⟩] []) <|
  .keep [5, 6, 7, 46, 47, 48, 49] []) <|
  .seq (.cond (.t 49) (.skip) <|
  .seq (.keep [5, 6, 7] []) <|
  .exit 1) <|
  .seq (.seq (.blk 2 <|
  .seq (.seq (.reg [⟨(some 50), .ixa 1 (.t 46) (.t 48), none⟩,
    ⟨(some 51), .load none (.t 50), none⟩,
    ⟨(some 9), .mov (.t 51), none⟩] []) <|
  .keep [5, 6, 7, 9, 46, 47, 48] []) <|
  .seq (.reg [⟨(some 52), .mov (.t 7), none⟩,
    ⟨(some 53), .bin .shl (.t 52) (.c (.v (.int .u64 8))), none⟩,
    ⟨(some 54), .mov (.t 9), none⟩,
    ⟨(some 55), .mov (.t 5), none⟩,
    ⟨(some 56), .bin .xor (.t 54) (.t 55), none⟩,
    ⟨(some 57), .conv (.int .u64) (.t 56), none⟩,
    ⟨(some 58), .bin .or (.t 53) (.t 57), none⟩,
    ⟨(some 7), .mov (.t 58), none⟩] []) <|
  .keep [5, 6, 7, 46, 47, 48] []) <|
  .keep [5, 6, 7, 46, 47, 48] []) <|
  .seq (.reg [⟨(some 59), .bin .add (.t 48) (.c (.v (.int .i64 1))), none⟩,
    ⟨(some 48), .mov (.t 59), none⟩] []) <|
  .keep [5, 6, 7, 46, 47, 48] []) <|
  .keep [5, 6, 7, 46, 47, 48] []
def wire_GetInt : CF := ⟨1, .seq (.seq (.reg [⟨(some 2), .mov (.c (.v (.int .i64 0))), none⟩,
    ⟨(some 3), .mov (.c (.v (.int .i64 0))), none⟩,
    ⟨(some 4), .mov (.c (.v (.int .i64 0))), none⟩] []) <|
  .keep [0] []) <|
  .seq (.seq (.seq (.reg [⟨(some 10), .mov (.t 0), none⟩,
    ⟨(some 11), .len (.t 10), none⟩,
    ⟨(some 12), .bin .eql (.t 11) (.c (.v (.int .i64 0))), none⟩] []) <|
  .keep [0, 12] []) <|
  .cond (.t 12) (.seq (.seq (.reg [⟨(some 2), .mov (.c (.v (.int .i64 0))), none⟩,
    ⟨(some 3), .mov (.c (.v (.int .i64 0))), none⟩,
    ⟨(some 4), .mov (.c (.v (.int .i64 3))), none⟩] []) <|
  .keep [2, 3, 4] []) <|
  .ret) <|
  .skip) <|
  .seq (.seq (.reg [⟨(some 5), .mov (.c (.v (.int .u8 0))), none⟩] []) <|
  .keep [0, 5] []) <|
  .seq (.seq (.seq (.reg [⟨(some 13), .mov (.t 0), none⟩,
    ⟨(some 14), .ixa 1 (.t 13) (.c (.v (.int .i64 0))), none⟩,
    ⟨(some 15), .load none (.t 14), none⟩,
    ⟨(some 16), .bin .lss (.t 15) (.c (.v (.int .u8 128))), none⟩] []) <|
  .keep [0, 5, 16] []) <|
  .cond (.t 16) (.seq (.reg [⟨(some 5), .mov (.c (.v (.int .u8 255))), none⟩] []) <|
  .keep [0, 5] []) <|
  .skip) <|
  .seq (.seq (.reg [⟨(some 17), .mov (.t 0), none⟩,
    ⟨(some 18), .ixa 1 (.t 17) (.c (.v (.int .i64 0))), none⟩,
    ⟨(some 19), .load none (.t 18), none⟩,
    ⟨(some 20), .mov (.t 5), none⟩,
    ⟨(some 21), .bin .xor (.t 19) (.t 20), none⟩,
    ⟨(some 22), .conv (.int .i64) (.t 21), none⟩,
    ⟨(some 23), .bin .sub (.t 22) (.c (.v (.int .i64 128))), none⟩,
    ⟨(some 6), .mov (.t 23), none⟩] []) <|
  .keep [0, 5, 6] []) <|
  .seq (.seq (.blk 0 <|
  .seq (.seq (.reg [⟨(some 25), .mov (.t 6), none⟩,
    ⟨(some 26), .bin .gtr (.t 25) (.c (.v (.int .i64 8))), none⟩,
    ⟨(some 24), .mov (.t 26), none⟩] []) <|
  .keep [0, 5, 6, 24] []) <|
  .cond (.t 24) (.seq (.seq (.reg [⟨(some 2), .mov (.c (.v (.int .i64 0))), none⟩,
    ⟨(some 3), .mov (.c (.v (.int .i64 0))), none⟩,
    ⟨(some 4), .mov (.c (.v (.int .i64 2))), none⟩] []) <|
  .keep [2, 3, 4] []) <|
  .ret) <|
  .seq (.seq (.reg [⟨(some 28), .mov (.t 0), none⟩,
    ⟨(some 29), .len (.t 28), none⟩,
    ⟨(some 30), .mov (.t 6), none⟩,
    ⟨(some 31), .bin .leq (.t 29) (.t 30), none⟩,
    ⟨(some 27), .mov (.t 31), none⟩] []) <|
  .keep [0, 5, 6, 27] []) <|
  .cond (.t 27) (.seq (.seq (.reg [⟨(some 2), .mov (.c (.v (.int .i64 0))), none⟩,
    ⟨(some 3), .mov (.c (.v (.int .i64 0))), none⟩,
    ⟨(some 4), .mov (.c (.v (.int .i64 3))), none⟩] []) <|
  .keep [2, 3, 4] []) <|
  .ret) <|
  .seq (.seq (.reg [⟨(some 33), .mov (.t 6), none⟩,
    ⟨(some 34), .bin .gtr (.t 33) (.c (.v (.int .i64 0))), none⟩,
    ⟨(some 35), .mov (.t 34), none⟩,
    ⟨(some 36), .mov (.t 0), (some (35, true))⟩,
    ⟨(some 37), .ixa 1 (.t 36) (.c (.v (.int .i64 1))), (some (35, true))⟩,
    ⟨(some 38), .load none (.t 37), (some (35, true))⟩,
    ⟨(some 39), .mov (.t 5), (some (35, true))⟩,
    ⟨(some 40), .bin .xor (.t 38) (.t 39), (some (35, true))⟩,
    ⟨(some 41), .bin .eql (.t 40) (.c (.v (.int .u8 0))), (some (35, true))⟩,
    ⟨(some 42), .pick (.t 35) (.t 41) (.c (.v (.bool false))), none⟩,
    ⟨(some 32), .mov (.t 42), none⟩] []) <|
  .keep [0, 5, 6, 32] []) <|
  .cond (.t 32) (.seq (.seq (.reg [⟨(some 2), .mov (.c (.v (.int .i64 0))), none⟩,
    ⟨(some 3), .mov (.c (.v (.int .i64 0))), none⟩,
    ⟨(some 4), .mov (.c (.v (.int .i64 2))), none⟩] []) <|
  .keep [2, 3, 4] []) <|
  .ret) <|
  .skip) <|
  .keep [0, 5, 6] []) <|
  .seq (.seq (.reg [⟨(some 7), .mov (.c (.v (.int .u64 0))), none⟩] []) <|
  .keep [0, 5, 6, 7] []) <|
  .seq (.seq (.seq (.reg [⟨(some 43), .mov (.t 0), none⟩,
    ⟨(some 44), .mov (.t 6), none⟩,
    ⟨(some 45), .bin .add (.t 44) (.c (.v (.int .i64 1))), none⟩,
    ⟨(some 46), .slc 1 (.t 43) (some (.c (.v (.int .i64 1)))) (some (.t 45)) none, none⟩,
    ⟨(some 47), .len (.t 46), none⟩,
    ⟨(some 48), .mov (.c (.v (.int .i64 0))), none⟩] []) <|
  .keep [5, 6, 7, 46, 47, 48] []) <|
  .seq (.blk 1 <|
  .seq (.keep [5, 6, 7, 46, 47, 48] []) <|
  .loop wire_GetInt_l0) <|
  .keep [5, 6, 7] []) <|
  .seq (.seq (.seq (.reg [⟨(some 60), .mov (.t 7), none⟩,
    ⟨(some 61), .bin .shr (.t 60) (.c (.v (.int .u64 63))), none⟩,
    ⟨(some 62), .bin .gtr (.t 61) (.c (.v (.int .u64 0))), none⟩] []) <|
  .keep [5, 6, 7, 62] []) <|
  .cond (.t 62) (.seq (.seq (.reg [⟨(some 2), .mov (.c (.v (.int .i64 0))), none⟩,
    ⟨(some 3), .mov (.c (.v (.int .i64 0))), none⟩,
    ⟨(some 4), .mov (.c (.v (.int .i64 2))), none⟩] []) <|
  .keep [2, 3, 4] []) <|
  .ret) <|
  .skip) <|
  .seq (.seq (.seq (.reg [⟨(some 63), .mov (.t 5), none⟩,
    ⟨(some 64), .bin .gtr (.t 63) (.c (.v (.int .u8 0))), none⟩] []) <|
  .keep [6, 7, 64] []) <|
  .cond (.t 64) (.seq (.reg [⟨(some 65), .mov (.t 7), none⟩,
    ⟨(some 66), .un .xor (.t 65), none⟩,
    ⟨(some 7), .mov (.t 66), none⟩] []) <|
  .keep [6, 7] []) <|
  .skip) <|
  .seq (.seq (.reg [⟨(some 67), .mov (.t 7), none⟩,
    ⟨(some 68), .conv (.int .i64) (.t 67), none⟩,
    ⟨(some 69), .mov (.t 6), none⟩,
    ⟨(some 70), .bin .add (.t 69) (.c (.v (.int .i64 1))), none⟩,
    ⟨(some 2), .mov (.t 68), none⟩,
    ⟨(some 3), .mov (.t 70), none⟩,
    ⟨(some 4), .mov (.c (.v (.int .i64 0))), none⟩] []) <|
  .keep [2, 3, 4] []) <|
  .ret, [.t 2, .t 3, .t 4]⟩

/- 129: gantry/wire.reader$1 -/
def wire_reader_1 : CF := ⟨2, .seq (.seq (.reg [⟨(some 2), .mov (.c (.v (.int .i64 0))), none⟩,
    ⟨(some 3), .mov (.c (.v (.int .i64 0))), none⟩,
    ⟨(some 4), .mov (.c (.v (.int .i64 0))), none⟩] []) <|
  .keep [0, 1] []) <|
  .seq (.seq (.reg [⟨(some 9), .load none (.t 0), none⟩,
    ⟨(some 10), .load none (.t 1), none⟩,
    ⟨(some 11), .slc 1 (.t 9) (some (.t 10)) none none, none⟩,
    ⟨(some 12), .call n_wire_GetInt [(.t 11)] false, none⟩,
    ⟨(some 8), .mov (.t 12), none⟩,
    ⟨(some 13), .ext (.t 8) 0, none⟩,
    ⟨(some 14), .ext (.t 8) 1, none⟩,
    ⟨(some 15), .ext (.t 8) 2, none⟩,
    ⟨(some 5), .mov (.t 13), none⟩,
    ⟨(some 6), .mov (.t 14), none⟩,
    ⟨(some 7), .mov (.t 15), none⟩] []) <|
  .keep [1, 5, 6, 7] []) <|
  .seq (.seq (.reg [⟨(some 16), .load none (.t 1), none⟩,
    ⟨(some 17), .mov (.t 6), none⟩,
    ⟨(some 18), .bin .add (.t 16) (.t 17), none⟩,
    ⟨none, .store 1 (.t 1) (.t 18), none⟩] []) <|
  .keep [1, 5, 7] []) <|
  .seq (.seq (.reg [⟨(some 19), .mov (.t 5), none⟩,
    ⟨(some 20), .load none (.t 1), none⟩,
    ⟨(some 21), .mov (.t 7), none⟩,
    ⟨(some 2), .mov (.t 19), none⟩,
    ⟨(some 3), .mov (.t 20), none⟩,
    ⟨(some 4), .mov (.t 21), none⟩] []) <|
  .keep [2, 3, 4] []) <|
  .ret, [.t 2, .t 3, .t 4]⟩

/- 130: internal/strconv.small -/
def internal_strconv_small : CF := ⟨1, .seq (.seq (.reg [⟨(some 2), .mov (.c (.v (.string ⟨#[]⟩))), none⟩] []) <|
  .keep [0] []) <|
  .seq (.seq (.seq (.reg [⟨(some 3), .mov (.t 0), none⟩,
    ⟨(some 4), .bin .lss (.t 3) (.c (.v (.int .i64 10))), none⟩] []) <|
  .keep [0, 4] []) <|
  .cond (.t 4) (.seq (.seq (.reg [⟨(some 5), .mov (.t 0), none⟩,
    ⟨(some 6), .mov (.t 0), none⟩,
    ⟨(some 7), .bin .add (.t 6) (.c (.v (.int .i64 1))), none⟩,
    ⟨(some 8), .sls (.c (.v (.string ⟨#[48, 49, 50, 51, 52, 53, 54, 55, 56, 57, 97, 98, 99, 100, 101, 102, 103, 104, 105, 106, 107, 108, 109, 110, 111, 112, 113, 114, 115, 116, 117, 118, 119, 120, 121, 122]⟩))) (some (.t 5)) (some (.t 7)), none⟩,
    ⟨(some 2), .mov (.t 8), none⟩] []) <|
  .keep [2] []) <|
  .ret) <|
  .skip) <|
  .seq (.seq (.reg [⟨(some 9), .mov (.t 0), none⟩,
    ⟨(some 10), .bin .mul (.t 9) (.c (.v (.int .i64 2))), none⟩,
    ⟨(some 11), .mov (.t 0), none⟩,
    ⟨(some 12), .bin .mul (.t 11) (.c (.v (.int .i64 2))), none⟩,
    ⟨(some 13), .bin .add (.t 12) (.c (.v (.int .i64 2))), none⟩,
    ⟨(some 14), .sls (.c (.v (.string ⟨#[48, 48, 48, 49, 48, 50, 48, 51, 48, 52, 48, 53, 48, 54, 48, 55, 48, 56, 48, 57, 49, 48, 49, 49, 49, 50, 49, 51, 49, 52, 49, 53, 49, 54, 49, 55, 49, 56, 49, 57, 50, 48, 50, 49, 50, 50, 50, 51, 50, 52, 50, 53, 50, 54, 50, 55, 50, 56, 50, 57, 51, 48, 51, 49, 51, 50, 51, 51, 51, 52, 51, 53, 51, 54, 51, 55, 51, 56, 51, 57, 52, 48, 52, 49, 52, 50, 52, 51, 52, 52, 52, 53, 52, 54, 52, 55, 52, 56, 52, 57, 53, 48, 53, 49, 53, 50, 53, 51, 53, 52, 53, 53, 53, 54, 53, 55, 53, 56, 53, 57, 54, 48, 54, 49, 54, 50, 54, 51, 54, 52, 54, 53, 54, 54, 54, 55, 54, 56, 54, 57, 55, 48, 55, 49, 55, 50, 55, 51, 55, 52, 55, 53, 55, 54, 55, 55, 55, 56, 55, 57, 56, 48, 56, 49, 56, 50, 56, 51, 56, 52, 56, 53, 56, 54, 56, 55, 56, 56, 56, 57, 57, 48, 57, 49, 57, 50, 57, 51, 57, 52, 57, 53, 57, 54, 57, 55, 57, 56, 57, 57]⟩))) (some (.t 10)) (some (.t 13)), none⟩,
    ⟨(some 2), .mov (.t 14), none⟩] []) <|
  .keep [2] []) <|
  .ret, [.t 2]⟩

/- 132: internal/strconv.formatBase10 -/
def internal_strconv_formatBase10_l0 : C :=
  .seq (.seq (.seq (.seq (.reg [⟨(some 19), .mov (.t 4), none⟩,
    ⟨(some 20), .bin .geq (.t 19) (.c (.v (.int .i64 8))), none⟩] []) <|
  .keep [0, 1, 4, 20] []) <|
  .cond (.t 20) (.skip) <|
  .seq (.keep [0, 1, 4] []) <|
  .exit 0) <|
  .seq (.blk 1 <|
  .seq (.seq (.reg [⟨(some 21), .mov (.t 1), none⟩,
    ⟨(some 22), .bin .rem (.t 21) (.c (.v (.int .u64 100000000))), none⟩,
    ⟨(some 23), .conv (.int .u32) (.t 22), none⟩,
    ⟨(some 5), .mov (.t 23), none⟩] []) <|
  .keep [0, 1, 4, 5] []) <|
  .seq (.seq (.reg [⟨(some 24), .mov (.t 1), none⟩,
    ⟨(some 25), .bin .quo (.t 24) (.c (.v (.int .u64 100000000))), none⟩,
    ⟨(some 1), .mov (.t 25), none⟩] []) <|
  .keep [0, 1, 4, 5] []) <|
  .seq (.seq (.reg [⟨(some 26), .mov (.t 5), none⟩,
    ⟨(some 27), .bin .quo (.t 26) (.c (.v (.int .u32 10000))), none⟩,
    ⟨(some 28), .mov (.t 5), none⟩,
    ⟨(some 29), .bin .rem (.t 28) (.c (.v (.int .u32 10000))), none⟩,
    ⟨(some 6), .mov (.t 27), none⟩,
    ⟨(some 7), .mov (.t 29), none⟩] []) <|
  .keep [0, 1, 4, 6, 7] []) <|
  .seq (.seq (.reg [⟨(some 30), .mov (.t 7), none⟩,
    ⟨(some 31), .bin .quo (.t 30) (.c (.v (.int .u32 100))), none⟩,
    ⟨(some 32), .bin .mul (.t 31) (.c (.v (.int .u32 2))), none⟩,
    ⟨(some 33), .mov (.t 7), none⟩,
    ⟨(some 34), .bin .rem (.t 33) (.c (.v (.int .u32 100))), none⟩,
    ⟨(some 35), .bin .mul (.t 34) (.c (.v (.int .u32 2))), none⟩,
    ⟨(some 8), .mov (.t 32), none⟩,
    ⟨(some 9), .mov (.t 35), none⟩] []) <|
  .keep [0, 1, 4, 6, 8, 9] []) <|
  .seq (.seq (.reg [⟨(some 36), .mov (.t 6), none⟩,
    ⟨(some 37), .bin .quo (.t 36) (.c (.v (.int .u32 100))), none⟩,
    ⟨(some 38), .bin .mul (.t 37) (.c (.v (.int .u32 2))), none⟩,
    ⟨(some 39), .mov (.t 6), none⟩,
    ⟨(some 40), .bin .rem (.t 39) (.c (.v (.int .u32 100))), none⟩,
    ⟨(some 41), .bin .mul (.t 40) (.c (.v (.int .u32 2))), none⟩,
    ⟨(some 10), .mov (.t 38), none⟩,
    ⟨(some 11), .mov (.t 41), none⟩] []) <|
  .keep [0, 1, 4, 8, 9, 10, 11] []) <|
  .seq (.seq (.reg [⟨(some 42), .mov (.t 0), none⟩,
    ⟨(some 43), .mov (.t 4), none⟩,
    ⟨(some 44), .bin .sub (.t 43) (.c (.v (.int .i64 1))), none⟩,
    ⟨(some 45), .mov (.t 0), none⟩,
    ⟨(some 46), .mov (.t 4), none⟩,
    ⟨(some 47), .bin .sub (.t 46) (.c (.v (.int .i64 2))), none⟩,
    ⟨(some 48), .mov (.t 9), none⟩,
    ⟨(some 49), .bin .add (.t 48) (.c (.v (.int .u32 1))), none⟩,
    ⟨(some 50), .ixs (.c (.v (.string ⟨#[48, 48, 48, 49, 48, 50, 48, 51, 48, 52, 48, 53, 48, 54, 48, 55, 48, 56, 48, 57, 49, 48, 49, 49, 49, 50, 49, 51, 49, 52, 49, 53, 49, 54, 49, 55, 49, 56, 49, 57, 50, 48, 50, 49, 50, 50, 50, 51, 50, 52, 50, 53, 50, 54, 50, 55, 50, 56, 50, 57, 51, 48, 51, 49, 51, 50, 51, 51, 51, 52, 51, 53, 51, 54, 51, 55, 51, 56, 51, 57, 52, 48, 52, 49, 52, 50, 52, 51, 52, 52, 52, 53, 52, 54, 52, 55, 52, 56, 52, 57, 53, 48, 53, 49, 53, 50, 53, 51, 53, 52, 53, 53, 53, 54, 53, 55, 53, 56, 53, 57, 54, 48, 54, 49, 54, 50, 54, 51, 54, 52, 54, 53, 54, 54, 54, 55, 54, 56, 54, 57, 55, 48, 55, 49, 55, 50, 55, 51, 55, 52, 55, 53, 55, 54, 55, 55, 55, 56, 55, 57, 56, 48, 56, 49, 56, 50, 56, 51, 56, 52, 56, 53, 56, 54, 56, 55, 56, 56, 56, 57, 57, 48, 57, 49, 57, 50, 57, 51, 57, 52, 57, 53, 57, 54, 57, 55, 57, 56, 57, 57]⟩))) (.t 49), none⟩,
    ⟨(some 51), .mov (.t 9), none⟩,
    ⟨(some 52), .ixs (.c (.v (.string ⟨#[48, 48, 48, 49, 48, 50, 48, 51, 48, 52, 48, 53, 48, 54, 48, 55, 48, 56, 48, 57, 49, 48, 49, 49, 49, 50, 49, 51, 49, 52, 49, 53, 49, 54, 49, 55, 49, 56, 49, 57, 50, 48, 50, 49, 50, 50, 50, 51, 50, 52, 50, 53, 50, 54, 50, 55, 50, 56, 50, 57, 51, 48, 51, 49, 51, 50, 51, 51, 51, 52, 51, 53, 51, 54, 51, 55, 51, 56, 51, 57, 52, 48, 52, 49, 52, 50, 52, 51, 52, 52, 52, 53, 52, 54, 52, 55, 52, 56, 52, 57, 53, 48, 53, 49, 53, 50, 53, 51, 53, 52, 53, 53, 53, 54, 53, 55, 53, 56, 53, 57, 54, 48, 54, 49, 54, 50, 54, 51, 54, 52, 54, 53, 54, 54, 54, 55, 54, 56, 54, 57, 55, 48, 55, 49, 55, 50, 55, 51, 55, 52, 55, 53, 55, 54, 55, 55, 55, 56, 55, 57, 56, 48, 56, 49, 56, 50, 56, 51, 56, 52, 56, 53, 56, 54, 56, 55, 56, 56, 56, 57, 57, 48, 57, 49, 57, 50, 57, 51, 57, 52, 57, 53, 57, 54, 57, 55, 57, 56, 57, 57]⟩))) (.t 51), none⟩,
    ⟨(some 53), .ixa 1 (.t 42) (.t 44), none⟩,
    ⟨none, .store 1 (.t 53) (.t 50), none⟩,
    ⟨(some 54), .ixa 1 (.t 45) (.t 47), none⟩,
    ⟨none, .store 1 (.t 54) (.t 52), none⟩] []) <|
  .keep [0, 1, 4, 8, 10, 11] []) <|
  .seq (.seq (.reg [⟨(some 55), .mov (.t 0), none⟩,
    ⟨(some 56), .mov (.t 4), none⟩,
    ⟨(some 57), .bin .sub (.t 56) (.c (.v (.int .i64 3))), none⟩,
    ⟨(some 58), .mov (.t 0), none⟩,
    ⟨(some 59), .mov (.t 4), none⟩,
    ⟨(some 60), .bin .sub (.t 59) (.c (.v (.int .i64 4))), none⟩,
    ⟨(some 61), .mov (.t 8), none⟩,
    ⟨(some 62), .bin .add (.t 61) (.c (.v (.int .u32 1))), none⟩,
    ⟨(some 63), .ixs (.c (.v (.string ⟨#[48, 48, 48, 49, 48, 50, 48, 51, 48, 52, 48, 53, 48, 54, 48, 55, 48, 56, 48, 57, 49, 48, 49, 49, 49, 50, 49, 51, 49, 52, 49, 53, 49, 54, 49, 55, 49, 56, 49, 57, 50, 48, 50, 49, 50, 50, 50, 51, 50, 52, 50, 53, 50, 54, 50, 55, 50, 56, 50, 57, 51, 48, 51, 49, 51, 50, 51, 51, 51, 52, 51, 53, 51, 54, 51, 55, 51, 56, 51, 57, 52, 48, 52, 49, 52, 50, 52, 51, 52, 52, 52, 53, 52, 54, 52, 55, 52, 56, 52, 57, 53, 48, 53, 49, 53, 50, 53, 51, 53, 52, 53, 53, 53, 54, 53, 55, 53, 56, 53, 57, 54, 48, 54, 49, 54, 50, 54, 51, 54, 52, 54, 53, 54, 54, 54, 55, 54, 56, 54, 57, 55, 48, 55, 49, 55, 50, 55, 51, 55, 52, 55, 53, 55, 54, 55, 55, 55, 56, 55, 57, 56, 48, 56, 49, 56, 50, 56, 51, 56, 52, 56, 53, 56, 54, 56, 55, 56, 56, 56, 57, 57, 48, 57, 49, 57, 50, 57, 51, 57, 52, 57, 53, 57, 54, 57, 55, 57, 56, 57, 57]⟩))) (.t 62), none⟩,
    ⟨(some 64), .mov (.t 8), none⟩,
    ⟨(some 65), .ixs (.c (.v (.string ⟨#[48, 48, 48, 49, 48, 50, 48, 51, 48, 52, 48, 53, 48, 54, 48, 55, 48, 56, 48, 57, 49, 48, 49, 49, 49, 50, 49, 51, 49, 52, 49, 53, 49, 54, 49, 55, 49, 56, 49, 57, 50, 48, 50, 49, 50, 50, 50, 51, 50, 52, 50, 53, 50, 54, 50, 55, 50, 56, 50, 57, 51, 48, 51, 49, 51, 50, 51, 51, 51, 52, 51, 53, 51, 54, 51, 55, 51, 56, 51, 57, 52, 48, 52, 49, 52, 50, 52, 51, 52, 52, 52, 53, 52, 54, 52, 55, 52, 56, 52, 57, 53, 48, 53, 49, 53, 50, 53, 51, 53, 52, 53, 53, 53, 54, 53, 55, 53, 56, 53, 57, 54, 48, 54, 49, 54, 50, 54, 51, 54, 52, 54, 53, 54, 54, 54, 55, 54, 56, 54, 57, 55, 48, 55, 49, 55, 50, 55, 51, 55, 52, 55, 53, 55, 54, 55, 55, 55, 56, 55, 57, 56, 48, 56, 49, 56, 50, 56, 51, 56, 52, 56, 53, 56, 54, 56, 55, 56, 56, 56, 57, 57, 48, 57, 49, 57, 50, 57, 51, 57, 52, 57, 53, 57, 54, 57, 55, 57, 56, 57, 57]⟩))) (.t 64), none⟩,
    ⟨(some 66), .ixa 1 (.t 55) (.t 57), none⟩,
    ⟨none, .store 1 (.t 66) (.t 63), none⟩,
    ⟨(some 67), .ixa 1 (.t 58) (.t 60), none⟩,
    ⟨none, .store 1 (.t 67) (.t 65), none⟩] []) <|
  .keep [0, 1, 4, 10, 11] []) <|
  .seq (.seq (.reg [⟨(some 68), .mov (.t 0), none⟩,
    ⟨(some 69), .mov (.t 4), none⟩,
    ⟨(some 70), .bin .sub (.t 69) (.c (.v (.int .i64 5))), none⟩,
    ⟨(some 71), .mov (.t 0), none⟩,
    ⟨(some 72), .mov (.t 4), none⟩,
    ⟨(some 73), .bin .sub (.t 72) (.c (.v (.int .i64 6))), none⟩,
    ⟨(some 74), .mov (.t 11), none⟩,
    ⟨(some 75), .bin .add (.t 74) (.c (.v (.int .u32 1))), none⟩,
    ⟨(some 76), .ixs (.c (.v (.string ⟨#[48, 48, 48, 49, 48, 50, 48, 51, 48, 52, 48, 53, 48, 54, 48, 55, 48, 56, 48, 57, 49, 48, 49, 49, 49, 50, 49, 51, 49, 52, 49, 53, 49, 54, 49, 55, 49, 56, 49, 57, 50, 48, 50, 49, 50, 50, 50, 51, 50, 52, 50, 53, 50, 54, 50, 55, 50, 56, 50, 57, 51, 48, 51, 49, 51, 50, 51, 51, 51, 52, 51, 53, 51, 54, 51, 55, 51, 56, 51, 57, 52, 48, 52, 49, 52, 50, 52, 51, 52, 52, 52, 53, 52, 54, 52, 55, 52, 56, 52, 57, 53, 48, 53, 49, 53, 50, 53, 51, 53, 52, 53, 53, 53, 54, 53, 55, 53, 56, 53, 57, 54, 48, 54, 49, 54, 50, 54, 51, 54, 52, 54, 53, 54, 54, 54, 55, 54, 56, 54, 57, 55, 48, 55, 49, 55, 50, 55, 51, 55, 52, 55, 53, 55, 54, 55, 55, 55, 56, 55, 57, 56, 48, 56, 49, 56, 50, 56, 51, 56, 52, 56, 53, 56, 54, 56, 55, 56, 56, 56, 57, 57, 48, 57, 49, 57, 50, 57, 51, 57, 52, 57, 53, 57, 54, 57, 55, 57, 56, 57, 57]⟩))) (.t 75), none⟩,
    ⟨(some 77), .mov (.t 11), none⟩,
    ⟨(some 78), .ixs (.c (.v (.string ⟨#[48, 48, 48, 49, 48, 50, 48, 51, 48, 52, 48, 53, 48, 54, 48, 55, 48, 56, 48, 57, 49, 48, 49, 49, 49, 50, 49, 51, 49, 52, 49, 53, 49, 54, 49, 55, 49, 56, 49, 57, 50, 48, 50, 49, 50, 50, 50, 51, 50, 52, 50, 53, 50, 54, 50, 55, 50, 56, 50, 57, 51, 48, 51, 49, 51, 50, 51, 51, 51, 52, 51, 53, 51, 54, 51, 55, 51, 56, 51, 57, 52, 48, 52, 49, 52, 50, 52, 51, 52, 52, 52, 53, 52, 54, 52, 55, 52, 56, 52, 57, 53, 48, 53, 49, 53, 50, 53, 51, 53, 52, 53, 53, 53, 54, 53, 55, 53, 56, 53, 57, 54, 48, 54, 49, 54, 50, 54, 51, 54, 52, 54, 53, 54, 54, 54, 55, 54, 56, 54, 57, 55, 48, 55, 49, 55, 50, 55, 51, 55, 52, 55, 53, 55, 54, 55, 55, 55, 56, 55, 57, 56, 48, 56, 49, 56, 50, 56, 51, 56, 52, 56, 53, 56, 54, 56, 55, 56, 56, 56, 57, 57, 48, 57, 49, 57, 50, 57, 51, 57, 52, 57, 53, 57, 54, 57, 55, 57, 56, 57, 57]⟩))) (.t 77), none⟩,
    ⟨(some 79), .ixa 1 (.t 68) (.t 70), none⟩,
    ⟨none, .store 1 (.t 79) (.t 76), none⟩,
    ⟨(some 80), .ixa 1 (.t 71) (.t 73), none⟩,
    ⟨none, .store 1 (.t 80) (.t 78), none⟩] []) <|
  .keep [0, 1, 4, 10] []) <|
  .seq (.seq (.reg [⟨(some 81), .mov (.t 0), none⟩,
    ⟨(some 82), .mov (.t 4), none⟩,
    ⟨(some 83), .bin .sub (.t 82) (.c (.v (.int .i64 7))), none⟩,
    ⟨(some 84), .mov (.t 0), none⟩,
    ⟨(some 85), .mov (.t 4), none⟩,
    ⟨(some 86), .bin .sub (.t 85) (.c (.v (.int .i64 8))), none⟩,
    ⟨(some 87), .mov (.t 10), none⟩,
    ⟨(some 88), .bin .add (.t 87) (.c (.v (.int .u32 1))), none⟩,
    ⟨(some 89), .ixs (.c (.v (.string ⟨#[48, 48, 48, 49, 48, 50, 48, 51, 48, 52, 48, 53, 48, 54, 48, 55, 48, 56, 48, 57, 49, 48, 49, 49, 49, 50, 49, 51, 49, 52, 49, 53, 49, 54, 49, 55, 49, 56, 49, 57, 50, 48, 50, 49, 50, 50, 50, 51, 50, 52, 50, 53, 50, 54, 50, 55, 50, 56, 50, 57, 51, 48, 51, 49, 51, 50, 51, 51, 51, 52, 51, 53, 51, 54, 51, 55, 51, 56, 51, 57, 52, 48, 52, 49, 52, 50, 52, 51, 52, 52, 52, 53, 52, 54, 52, 55, 52, 56, 52, 57, 53, 48, 53, 49, 53, 50, 53, 51, 53, 52, 53, 53, 53, 54, 53, 55, 53, 56, 53, 57, 54, 48, 54, 49, 54, 50, 54, 51, 54, 52, 54, 53, 54, 54, 54, 55, 54, 56, 54, 57, 55, 48, 55, 49, 55, 50, 55, 51, 55, 52, 55, 53, 55, 54, 55, 55, 55, 56, 55, 57, 56, 48, 56, 49, 56, 50, 56, 51, 56, 52, 56, 53, 56, 54, 56, 55, 56, 56, 56, 57, 57, 48, 57, 49, 57, 50, 57, 51, 57, 52, 57, 53, 57, 54, 57, 55, 57, 56, 57, 57]⟩))) (.t 88), none⟩,
    ⟨(some 90), .mov (.t 10), none⟩,
    ⟨(some 91), .ixs (.c (.v (.string ⟨#[48, 48, 48, 49, 48, 50, 48, 51, 48, 52, 48, 53, 48, 54, 48, 55, 48, 56, 48, 57, 49, 48, 49, 49, 49, 50, 49, 51, 49, 52, 49, 53, 49, 54, 49, 55, 49, 56, 49, 57, 50, 48, 50, 49, 50, 50, 50, 51, 50, 52, 50, 53, 50, 54, 50, 55, 50, 56, 50, 57, 51, 48, 51, 49, 51, 50, 51, 51, 51, 52, 51, 53, 51, 54, 51, 55, 51, 56, 51, 57, 52, 48, 52, 49, 52, 50, 52, 51, 52, 52, 52, 53, 52, 54, 52, 55, 52, 56, 52, 57, 53, 48, 53, 49, 53, 50, 53, 51, 53, 52, 53, 53, 53, 54, 53, 55, 53, 56, 53, 57, 54, 48, 54, 49, 54, 50, 54, 51, 54, 52, 54, 53, 54, 54, 54, 55, 54, 56, 54, 57, 55, 48, 55, 49, 55, 50, 55, 51, 55, 52, 55, 53, 55, 54, 55, 55, 55, 56, 55, 57, 56, 48, 56, 49, 56, 50, 56, 51, 56, 52, 56, 53, 56, 54, 56, 55, 56, 56, 56, 57, 57, 48, 57, 49, 57, 50, 57, 51, 57, 52, 57, 53, 57, 54, 57, 55, 57, 56, 57, 57]⟩))) (.t 90), none⟩,
    ⟨(some 92), .ixa 1 (.t 81) (.t 83), none⟩,
    ⟨none, .store 1 (.t 92) (.t 89), none⟩,
    ⟨(some 93), .ixa 1 (.t 84) (.t 86), none⟩,
    ⟨none, .store 1 (.t 93) (.t 91), none⟩] []) <|
  .keep [0, 1, 4] []) <|
  .seq (.reg [⟨(some 94), .mov (.t 4), none⟩,
    ⟨(some 95), .bin .sub (.t 94) (.c (.v (.int .i64 8))), none⟩,
    ⟨(some 4), .mov (.t 95), none⟩] []) <|
  .keep [0, 1, 4] []) <|
  .keep [0, 1, 4] []) <|
  .keep [0, 1, 4] []
def internal_strconv_formatBase10 : CF := ⟨2, .seq (.seq (.reg [⟨(some 17), .mov (.t 0), none⟩,
    ⟨(some 18), .len (.t 17), none⟩,
    ⟨(some 4), .mov (.t 18), none⟩] []) <|
  .keep [0, 1, 4] []) <|
  .seq (.seq (.blk 0 <|
  .seq (.keep [0, 1, 4] []) <|
  .loop internal_strconv_formatBase10_l0) <|
  .keep [0, 1, 4] []) <|
  .seq (.seq (.reg [⟨(some 96), .mov (.t 1), none⟩,
    ⟨(some 97), .conv (.int .u32) (.t 96), none⟩,
    ⟨(some 12), .mov (.t 97), none⟩] []) <|
  .keep [0, 4, 12] []) <|
  .seq (.seq (.seq (.reg [⟨(some 98), .mov (.t 4), none⟩,
    ⟨(some 99), .bin .geq (.t 98) (.c (.v (.int .i64 4))), none⟩] []) <|
  .keep [0, 4, 12, 99] []) <|
  .cond (.t 99) (.seq (.seq (.reg [⟨(some 100), .mov (.t 12), none⟩,
    ⟨(some 101), .bin .rem (.t 100) (.c (.v (.int .u32 10000))), none⟩,
    ⟨(some 13), .mov (.t 101), none⟩] []) <|
  .keep [0, 4, 12, 13] []) <|
  .seq (.seq (.reg [⟨(some 102), .mov (.t 12), none⟩,
    ⟨(some 103), .bin .quo (.t 102) (.c (.v (.int .u32 10000))), none⟩,
    ⟨(some 12), .mov (.t 103), none⟩] []) <|
  .keep [0, 4, 12, 13] []) <|
  .seq (.seq (.reg [⟨(some 104), .mov (.t 13), none⟩,
    ⟨(some 105), .bin .quo (.t 104) (.c (.v (.int .u32 100))), none⟩,
    ⟨(some 106), .bin .mul (.t 105) (.c (.v (.int .u32 2))), none⟩,
    ⟨(some 107), .mov (.t 13), none⟩,
    ⟨(some 108), .bin .rem (.t 107) (.c (.v (.int .u32 100))), none⟩,
    ⟨(some 109), .bin .mul (.t 108) (.c (.v (.int .u32 2))), none⟩,
    ⟨(some 14), .mov (.t 106), none⟩,
    ⟨(some 15), .mov (.t 109), none⟩] []) <|
  .keep [0, 4, 12, 14, 15] []) <|
  .seq (.seq (.reg [⟨(some 110), .mov (.t 0), none⟩,
    ⟨(some 111), .mov (.t 4), none⟩,
    ⟨(some 112), .bin .sub (.t 111) (.c (.v (.int .i64 1))), none⟩,
    ⟨(some 113), .mov (.t 0), none⟩,
    ⟨(some 114), .mov (.t 4), none⟩,
    ⟨(some 115), .bin .sub (.t 114) (.c (.v (.int .i64 2))), none⟩,
    ⟨(some 116), .mov (.t 15), none⟩,
    ⟨(some 117), .bin .add (.t 116) (.c (.v (.int .u32 1))), none⟩,
    ⟨(some 118), .ixs (.c (.v (.string ⟨#[48, 48, 48, 49, 48, 50, 48, 51, 48, 52, 48, 53, 48, 54, 48, 55, 48, 56, 48, 57, 49, 48, 49, 49, 49, 50, 49, 51, 49, 52, 49, 53, 49, 54, 49, 55, 49, 56, 49, 57, 50, 48, 50, 49, 50, 50, 50, 51, 50, 52, 50, 53, 50, 54, 50, 55, 50, 56, 50, 57, 51, 48, 51, 49, 51, 50, 51, 51, 51, 52, 51, 53, 51, 54, 51, 55, 51, 56, 51, 57, 52, 48, 52, 49, 52, 50, 52, 51, 52, 52, 52, 53, 52, 54, 52, 55, 52, 56, 52, 57, 53, 48, 53, 49, 53, 50, 53, 51, 53, 52, 53, 53, 53, 54, 53, 55, 53, 56, 53, 57, 54, 48, 54, 49, 54, 50, 54, 51, 54, 52, 54, 53, 54, 54, 54, 55, 54, 56, 54, 57, 55, 48, 55, 49, 55, 50, 55, 51, 55, 52, 55, 53, 55, 54, 55, 55, 55, 56, 55, 57, 56, 48, 56, 49, 56, 50, 56, 51, 56, 52, 56, 53, 56, 54, 56, 55, 56, 56, 56, 57, 57, 48, 57, 49, 57, 50, 57, 51, 57, 52, 57, 53, 57, 54, 57, 55, 57, 56, 57, 57]⟩))) (.t 117), none⟩,
    ⟨(some 119), .mov (.t 15), none⟩,
    ⟨(some 120), .ixs (.c (.v (.string ⟨#[48, 48, 48, 49, 48, 50, 48, 51, 48, 52, 48, 53, 48, 54, 48, 55, 48, 56, 48, 57, 49, 48, 49, 49, 49, 50, 49, 51, 49, 52, 49, 53, 49, 54, 49, 55, 49, 56, 49, 57, 50, 48, 50, 49, 50, 50, 50, 51, 50, 52, 50, 53, 50, 54, 50, 55, 50, 56, 50, 57, 51, 48, 51, 49, 51, 50, 51, 51, 51, 52, 51, 53, 51, 54, 51, 55, 51, 56, 51, 57, 52, 48, 52, 49, 52, 50, 52, 51, 52, 52, 52, 53, 52, 54, 52, 55, 52, 56, 52, 57, 53, 48, 53, 49, 53, 50, 53, 51, 53, 52, 53, 53, 53, 54, 53, 55, 53, 56, 53, 57, 54, 48, 54, 49, 54, 50, 54, 51, 54, 52, 54, 53, 54, 54, 54, 55, 54, 56, 54, 57, 55, 48, 55, 49, 55, 50, 55, 51, 55, 52, 55, 53, 55, 54, 55, 55, 55, 56, 55, 57, 56, 48, 56, 49, 56, 50, 56, 51, 56, 52, 56, 53, 56, 54, 56, 55, 56, 56, 56, 57, 57, 48, 57, 49, 57, 50, 57, 51, 57, 52, 57, 53, 57, 54, 57, 55, 57, 56, 57, 57]⟩))) (.t 119), none⟩,
    ⟨(some 121), .ixa 1 (.t 110) (.t 112), none⟩,
    ⟨none, .store 1 (.t 121) (.t 118), none⟩,
    ⟨(some 122), .ixa 1 (.t 113) (.t 115), none⟩,
    ⟨none, .store 1 (.t 122) (.t 120), none⟩] []) <|
  .keep [0, 4, 12, 14] []) <|
  .seq (.seq (.reg [⟨(some 123), .mov (.t 0), none⟩,
    ⟨(some 124), .mov (.t 4), none⟩,
    ⟨(some 125), .bin .sub (.t 124) (.c (.v (.int .i64 3))), none⟩,
    ⟨(some 126), .mov (.t 0), none⟩,
    ⟨(some 127), .mov (.t 4), none⟩,
    ⟨(some 128), .bin .sub (.t 127) (.c (.v (.int .i64 4))), none⟩,
    ⟨(some 129), .mov (.t 14), none⟩,
    ⟨(some 130), .bin .add (.t 129) (.c (.v (.int .u32 1))), none⟩,
    ⟨(some 131), .ixs (.c (.v (.string ⟨#[48, 48, 48, 49, 48, 50, 48, 51, 48, 52, 48, 53, 48, 54, 48, 55, 48, 56, 48, 57, 49, 48, 49, 49, 49, 50, 49, 51, 49, 52, 49, 53, 49, 54, 49, 55, 49, 56, 49, 57, 50, 48, 50, 49, 50, 50, 50, 51, 50, 52, 50, 53, 50, 54, 50, 55, 50, 56, 50, 57, 51, 48, 51, 49, 51, 50, 51, 51, 51, 52, 51, 53, 51, 54, 51, 55, 51, 56, 51, 57, 52, 48, 52, 49, 52, 50, 52, 51, 52, 52, 52, 53, 52, 54, 52, 55, 52, 56, 52, 57, 53, 48, 53, 49, 53, 50, 53, 51, 53, 52, 53, 53, 53, 54, 53, 55, 53, 56, 53, 57, 54, 48, 54, 49, 54, 50, 54, 51, 54, 52, 54, 53, 54, 54, 54, 55, 54, 56, 54, 57, 55, 48, 55, 49, 55, 50, 55, 51, 55, 52, 55, 53, 55, 54, 55, 55, 55, 56, 55, 57, 56, 48, 56, 49, 56, 50, 56, 51, 56, 52, 56, 53, 56, 54, 56, 55, 56, 56, 56, 57, 57, 48, 57, 49, 57, 50, 57, 51, 57, 52, 57, 53, 57, 54, 57, 55, 57, 56, 57, 57]⟩))) (.t 130), none⟩,
    ⟨(some 132), .mov (.t 14), none⟩,
    ⟨(some 133), .ixs (.c (.v (.string ⟨#[48, 48, 48, 49, 48, 50, 48, 51, 48, 52, 48, 53, 48, 54, 48, 55, 48, 56, 48, 57, 49, 48, 49, 49, 49, 50, 49, 51, 49, 52, 49, 53, 49, 54, 49, 55, 49, 56, 49, 57, 50, 48, 50, 49, 50, 50, 50, 51, 50, 52, 50, 53, 50, 54, 50, 55, 50, 56, 50, 57, 51, 48, 51, 49, 51, 50, 51, 51, 51, 52, 51, 53, 51, 54, 51, 55, 51, 56, 51, 57, 52, 48, 52, 49, 52, 50, 52, 51, 52, 52, 52, 53, 52, 54, 52, 55, 52, 56, 52, 57, 53, 48, 53, 49, 53, 50, 53, 51, 53, 52, 53, 53, 53, 54, 53, 55, 53, 56, 53, 57, 54, 48, 54, 49, 54, 50, 54, 51, 54, 52, 54, 53, 54, 54, 54, 55, 54, 56, 54, 57, 55, 48, 55, 49, 55, 50, 55, 51, 55, 52, 55, 53, 55, 54, 55, 55, 55, 56, 55, 57, 56, 48, 56, 49, 56, 50, 56, 51, 56, 52, 56, 53, 56, 54, 56, 55, 56, 56, 56, 57, 57, 48, 57, 49, 57, 50, 57, 51, 57, 52, 57, 53, 57, 54, 57, 55, 57, 56, 57, 57]⟩))) (.t 132), none⟩,
    ⟨(some 134), .ixa 1 (.t 123) (.t 125), none⟩,
    ⟨none, .store 1 (.t 134) (.t 131), none⟩,
    ⟨(some 135), .ixa 1 (.t 126) (.t 128), none⟩,
    ⟨none, .store 1 (.t 135) (.t 133), none⟩] []) <|
  .keep [0, 4, 12] []) <|
  .seq (.reg [⟨(some 136), .mov (.t 4), none⟩,
    ⟨(some 137), .bin .sub (.t 136) (.c (.v (.int .i64 4))), none⟩,
    ⟨(some 4), .mov (.t 137), none⟩] []) <|
  .keep [0, 4, 12] []) <|
  .skip) <|
  .seq (.seq (.seq (.reg [⟨(some 138), .mov (.t 4), none⟩,
    ⟨(some 139), .bin .geq (.t 138) (.c (.v (.int .i64 2))), none⟩] []) <|
  .keep [0, 4, 12, 139] []) <|
  .cond (.t 139) (.seq (.seq (.reg [⟨(some 140), .mov (.t 12), none⟩,
    ⟨(some 141), .bin .rem (.t 140) (.c (.v (.int .u32 100))), none⟩,
    ⟨(some 142), .bin .mul (.t 141) (.c (.v (.int .u32 2))), none⟩,
    ⟨(some 16), .mov (.t 142), none⟩] []) <|
  .keep [0, 4, 12, 16] []) <|
  .seq (.seq (.reg [⟨(some 143), .mov (.t 12), none⟩,
    ⟨(some 144), .bin .quo (.t 143) (.c (.v (.int .u32 100))), none⟩,
    ⟨(some 12), .mov (.t 144), none⟩] []) <|
  .keep [0, 4, 12, 16] []) <|
  .seq (.seq (.reg [⟨(some 145), .mov (.t 0), none⟩,
    ⟨(some 146), .mov (.t 4), none⟩,
    ⟨(some 147), .bin .sub (.t 146) (.c (.v (.int .i64 1))), none⟩,
    ⟨(some 148), .mov (.t 0), none⟩,
    ⟨(some 149), .mov (.t 4), none⟩,
    ⟨(some 150), .bin .sub (.t 149) (.c (.v (.int .i64 2))), none⟩,
    ⟨(some 151), .mov (.t 16), none⟩,
    ⟨(some 152), .bin .add (.t 151) (.c (.v (.int .u32 1))), none⟩,
    ⟨(some 153), .ixs (.c (.v (.string ⟨#[48, 48, 48, 49, 48, 50, 48, 51, 48, 52, 48, 53, 48, 54, 48, 55, 48, 56, 48, 57, 49, 48, 49, 49, 49, 50, 49, 51, 49, 52, 49, 53, 49, 54, 49, 55, 49, 56, 49, 57, 50, 48, 50, 49, 50, 50, 50, 51, 50, 52, 50, 53, 50, 54, 50, 55, 50, 56, 50, 57, 51, 48, 51, 49, 51, 50, 51, 51, 51, 52, 51, 53, 51, 54, 51, 55, 51, 56, 51, 57, 52, 48, 52, 49, 52, 50, 52, 51, 52, 52, 52, 53, 52, 54, 52, 55, 52, 56, 52, 57, 53, 48, 53, 49, 53, 50, 53, 51, 53, 52, 53, 53, 53, 54, 53, 55, 53, 56, 53, 57, 54, 48, 54, 49, 54, 50, 54, 51, 54, 52, 54, 53, 54, 54, 54, 55, 54, 56, 54, 57, 55, 48, 55, 49, 55, 50, 55, 51, 55, 52, 55, 53, 55, 54, 55, 55, 55, 56, 55, 57, 56, 48, 56, 49, 56, 50, 56, 51, 56, 52, 56, 53, 56, 54, 56, 55, 56, 56, 56, 57, 57, 48, 57, 49, 57, 50, 57, 51, 57, 52, 57, 53, 57, 54, 57, 55, 57, 56, 57, 57]⟩))) (.t 152), none⟩,
    ⟨(some 154), .mov (.t 16), none⟩,
    ⟨(some 155), .ixs (.c (.v (.string ⟨#[48, 48, 48, 49, 48, 50, 48, 51, 48, 52, 48, 53, 48, 54, 48, 55, 48, 56, 48, 57, 49, 48, 49, 49, 49, 50, 49, 51, 49, 52, 49, 53, 49, 54, 49, 55, 49, 56, 49, 57, 50, 48, 50, 49, 50, 50, 50, 51, 50, 52, 50, 53, 50, 54, 50, 55, 50, 56, 50, 57, 51, 48, 51, 49, 51, 50, 51, 51, 51, 52, 51, 53, 51, 54, 51, 55, 51, 56, 51, 57, 52, 48, 52, 49, 52, 50, 52, 51, 52, 52, 52, 53, 52, 54, 52, 55, 52, 56, 52, 57, 53, 48, 53, 49, 53, 50, 53, 51, 53, 52, 53, 53, 53, 54, 53, 55, 53, 56, 53, 57, 54, 48, 54, 49, 54, 50, 54, 51, 54, 52, 54, 53, 54, 54, 54, 55, 54, 56, 54, 57, 55, 48, 55, 49, 55, 50, 55, 51, 55, 52, 55, 53, 55, 54, 55, 55, 55, 56, 55, 57, 56, 48, 56, 49, 56, 50, 56, 51, 56, 52, 56, 53, 56, 54, 56, 55, 56, 56, 56, 57, 57, 48, 57, 49, 57, 50, 57, 51, 57, 52, 57, 53, 57, 54, 57, 55, 57, 56, 57, 57]⟩))) (.t 154), none⟩,
    ⟨(some 156), .ixa 1 (.t 145) (.t 147), none⟩,
    ⟨none, .store 1 (.t 156) (.t 153), none⟩,
    ⟨(some 157), .ixa 1 (.t 148) (.t 150), none⟩,
    ⟨none, .store 1 (.t 157) (.t 155), none⟩] []) <|
  .keep [0, 4, 12] []) <|
  .seq (.reg [⟨(some 158), .mov (.t 4), none⟩,
    ⟨(some 159), .bin .sub (.t 158) (.c (.v (.int .i64 2))), none⟩,
    ⟨(some 4), .mov (.t 159), none⟩] []) <|
  .keep [0, 4, 12] []) <|
  .skip) <|
  .seq (.seq (.reg [⟨(some 160), .mov (.t 4), none⟩,
    ⟨(some 161), .bin .gtr (.t 160) (.c (.v (.int .i64 0))), none⟩] []) <|
  .keep [0, 12, 161] []) <|
  .cond (.t 161) (.seq (.reg [⟨(some 162), .mov (.t 0), none⟩,
    ⟨(some 163), .mov (.t 12), none⟩,
    ⟨(some 164), .bin .add (.c (.v (.int .u32 48))) (.t 163), none⟩,
    ⟨(some 165), .conv (.int .u8) (.t 164), none⟩,
    ⟨(some 166), .ixa 1 (.t 162) (.c (.v (.int .i64 0))), none⟩,
    ⟨none, .store 1 (.t 166) (.t 165), none⟩] []) <|
  .keep [] []) <|
  .skip, []⟩

/- 137: unicode/utf8.RuneStart -/
def unicode_utf8_RuneStart : CF := ⟨1, .seq (.seq (.reg [⟨(some 2), .mov (.c (.v (.bool false))), none⟩] []) <|
  .keep [0] []) <|
  .seq (.seq (.reg [⟨(some 3), .mov (.t 0), none⟩,
    ⟨(some 4), .bin .and (.t 3) (.c (.v (.int .u8 192))), none⟩,
    ⟨(some 5), .bin .neq (.t 4) (.c (.v (.int .u8 128))), none⟩,
    ⟨(some 2), .mov (.t 5), none⟩] []) <|
  .keep [2] []) <|
  .ret, [.t 2]⟩

/- 141: internal/strconv.log10Pow2 -/
def internal_strconv_log10Pow2 : CF := ⟨1, .seq (.seq (.reg [⟨(some 2), .mov (.c (.v (.int .i64 0))), none⟩] []) <|
  .keep [0] []) <|
  .seq (.seq (.reg [⟨(some 3), .mov (.t 0), none⟩,
    ⟨(some 4), .bin .mul (.t 3) (.c (.v (.int .i64 78913))), none⟩,
    ⟨(some 5), .bin .shr (.t 4) (.c (.v (.int .u64 18))), none⟩,
    ⟨(some 2), .mov (.t 5), none⟩] []) <|
  .keep [2] []) <|
  .ret, [.t 2]⟩

/- 142: math/bits.Len64 -/
def math_bits_Len64 : CF := ⟨1, .seq (.seq (.reg [⟨(some 2), .mov (.c (.v (.int .i64 0))), none⟩] []) <|
  .keep [0, 2] []) <|
  .seq (.seq (.seq (.reg [⟨(some 3), .mov (.t 0), none⟩,
    ⟨(some 4), .bin .geq (.t 3) (.c (.v (.int .u64 4294967296))), none⟩] []) <|
  .keep [0, 2, 4] []) <|
  .cond (.t 4) (.seq (.seq (.reg [⟨(some 5), .mov (.t 0), none⟩,
    ⟨(some 6), .bin .shr (.t 5) (.c (.v (.int .u64 32))), none⟩,
    ⟨(some 0), .mov (.t 6), none⟩] []) <|
  .keep [0] []) <|
  .seq (.reg [⟨(some 2), .mov (.c (.v (.int .i64 32))), none⟩] []) <|
  .keep [0, 2] []) <|
  .skip) <|
  .seq (.seq (.seq (.reg [⟨(some 7), .mov (.t 0), none⟩,
    ⟨(some 8), .bin .geq (.t 7) (.c (.v (.int .u64 65536))), none⟩] []) <|
  .keep [0, 2, 8] []) <|
  .cond (.t 8) (.seq (.seq (.reg [⟨(some 9), .mov (.t 0), none⟩,
    ⟨(some 10), .bin .shr (.t 9) (.c (.v (.int .u64 16))), none⟩,
    ⟨(some 0), .mov (.t 10), none⟩] []) <|
  .keep [0, 2] []) <|
  .seq (.reg [⟨(some 11), .mov (.t 2), none⟩,
    ⟨(some 12), .bin .add (.t 11) (.c (.v (.int .i64 16))), none⟩,
    ⟨(some 2), .mov (.t 12), none⟩] []) <|
  .keep [0, 2] []) <|
  .skip) <|
  .seq (.seq (.seq (.reg [⟨(some 13), .mov (.t 0), none⟩,
    ⟨(some 14), .bin .geq (.t 13) (.c (.v (.int .u64 256))), none⟩] []) <|
  .keep [0, 2, 14] []) <|
  .cond (.t 14) (.seq (.seq (.reg [⟨(some 15), .mov (.t 0), none⟩,
    ⟨(some 16), .bin .shr (.t 15) (.c (.v (.int .u64 8))), none⟩,
    ⟨(some 0), .mov (.t 16), none⟩] []) <|
  .keep [0, 2] []) <|
  .seq (.reg [⟨(some 17), .mov (.t 2), none⟩,
    ⟨(some 18), .bin .add (.t 17) (.c (.v (.int .i64 8))), none⟩,
    ⟨(some 2), .mov (.t 18), none⟩] []) <|
  .keep [0, 2] []) <|
  .skip) <|
  .seq (.seq (.reg [⟨(some 19), .mov (.t 2), none⟩,
    ⟨(some 20), .mov (.t 0), none⟩,
    ⟨(some 21), .conv (.int .u8) (.t 20), none⟩,
    ⟨(some 22), .ixs (.c (.v (.string ⟨#[0, 1, 2, 2, 3, 3, 3, 3, 4, 4, 4, 4, 4, 4, 4, 4, 5, 5, 5, 5, 5, 5, 5, 5, 5, 5, 5, 5, 5, 5, 5, 5, 6, 6, 6, 6, 6, 6, 6, 6, 6, 6, 6, 6, 6, 6, 6, 6, 6, 6, 6, 6, 6, 6, 6, 6, 6, 6, 6, 6, 6, 6, 6, 6, 7, 7, 7, 7, 7, 7, 7, 7, 7, 7, 7, 7, 7, 7, 7, 7, 7, 7, 7, 7, 7, 7, 7, 7, 7, 7, 7, 7, 7, 7, 7, 7, 7, 7, 7, 7, 7, 7, 7, 7, 7, 7, 7, 7, 7, 7, 7, 7, 7, 7, 7, 7, 7, 7, 7, 7, 7, 7, 7, 7, 7, 7, 7, 7, 8, 8, 8, 8, 8, 8, 8, 8, 8, 8, 8, 8, 8, 8, 8, 8, 8, 8, 8, 8, 8, 8, 8, 8, 8, 8, 8, 8, 8, 8, 8, 8, 8, 8, 8, 8, 8, 8, 8, 8, 8, 8, 8, 8, 8, 8, 8, 8, 8, 8, 8, 8, 8, 8, 8, 8, 8, 8, 8, 8, 8, 8, 8, 8, 8, 8, 8, 8, 8, 8, 8, 8, 8, 8, 8, 8, 8, 8, 8, 8, 8, 8, 8, 8, 8, 8, 8, 8, 8, 8, 8, 8, 8, 8, 8, 8, 8, 8, 8, 8, 8, 8, 8, 8, 8, 8, 8, 8, 8, 8, 8, 8, 8, 8, 8, 8, 8, 8, 8, 8, 8, 8, 8, 8, 8, 8, 8, 8]⟩))) (.t 21), none⟩,
    ⟨(some 23), .conv (.int .i64) (.t 22), none⟩,
    ⟨(some 24), .bin .add (.t 19) (.t 23), none⟩,
    ⟨(some 2), .mov (.t 24), none⟩] []) <|
  .keep [2] []) <|
  .ret, [.t 2]⟩

/- 143: internal/strconv.bool2[int] -/
def internal_strconv_bool2_int : CF := ⟨1, .seq (.seq (.reg [⟨(some 2), .mov (.c (.v (.int .i64 0))), none⟩] []) <|
  .keep [0] []) <|
  .seq (.seq (.seq (.reg [⟨(some 3), .mov (.t 0), none⟩] []) <|
  .keep [3] []) <|
  .cond (.t 3) (.seq (.seq (.reg [⟨(some 2), .mov (.c (.v (.int .i64 1))), none⟩] []) <|
  .keep [2] []) <|
  .ret) <|
  .skip) <|
  .seq (.seq (.reg [⟨(some 2), .mov (.c (.v (.int .i64 0))), none⟩] []) <|
  .keep [2] []) <|
  .ret, [.t 2]⟩

/- 144: internal/strconv.isPowerOfTwo -/
def internal_strconv_isPowerOfTwo : CF := ⟨1, .seq (.seq (.reg [⟨(some 2), .mov (.c (.v (.bool false))), none⟩] []) <|
  .keep [0] []) <|
  .seq (.seq (.reg [⟨(some 3), .mov (.t 0), none⟩,
    ⟨(some 4), .mov (.t 0), none⟩,
    ⟨(some 5), .bin .sub (.t 4) (.c (.v (.int .i64 1))), none⟩,
    ⟨(some 6), .bin .and (.t 3) (.t 5), none⟩,
    ⟨(some 7), .bin .eql (.t 6) (.c (.v (.int .i64 0))), none⟩,
    ⟨(some 2), .mov (.t 7), none⟩] []) <|
  .keep [2] []) <|
  .ret, [.t 2]⟩

/- 145: math/bits.TrailingZeros -/
def math_bits_TrailingZeros : CF := ⟨1, .seq (.seq (.reg [⟨(some 2), .mov (.c (.v (.int .i64 0))), none⟩] []) <|
  .keep [0] []) <|
  .seq (.cond (.c (.v (.bool false))) (.seq (.seq (.reg [⟨(some 3), .mov (.t 0), none⟩,
    ⟨(some 4), .conv (.int .u32) (.t 3), none⟩,
    ⟨(some 5), .call n_math_bits_TrailingZeros32 [(.t 4)] false, none⟩,
    ⟨(some 2), .mov (.t 5), none⟩] []) <|
  .keep [2] []) <|
  .ret) <|
  .skip) <|
  .seq (.seq (.reg [⟨(some 6), .mov (.t 0), none⟩,
    ⟨(some 7), .call n_math_bits_TrailingZeros64 [(.t 6)] false, none⟩,
    ⟨(some 2), .mov (.t 7), none⟩] []) <|
  .keep [2] []) <|
  .ret, [.t 2]⟩

/- 146: strings.IndexByte -/
def strings_IndexByte : CF := ⟨2, .seq (.seq (.reg [⟨(some 4), .mov (.c (.v (.int .i64 0))), none⟩] []) <|
  .keep [0, 1] []) <|
  .seq (.seq (.reg [⟨(some 5), .mov (.t 0), none⟩,
    ⟨(some 6), .mov (.t 1), none⟩,
    ⟨(some 7), .call n_internal_stringslite_IndexByte [(.t 5), (.t 6)] false, none⟩,
    ⟨(some 4), .mov (.t 7), none⟩] []) <|
  .keep [4] []) <|
  .ret, [.t 4]⟩

/- 147: unicode/utf8.ValidRune -/
def unicode_utf8_ValidRune : CF := ⟨1, .seq (.seq (.reg [⟨(some 2), .mov (.c (.v (.bool false))), none⟩] []) <|
  .keep [0] []) <|
  .seq (.seq (.blk 0 <|
  .seq (.seq (.reg [⟨(some 4), .mov (.t 0), none⟩,
    ⟨(some 5), .bin .leq (.c (.v (.int .i32 0))) (.t 4), none⟩,
    ⟨(some 6), .mov (.t 5), none⟩,
    ⟨(some 7), .mov (.t 0), (some (6, true))⟩,
    ⟨(some 8), .bin .lss (.t 7) (.c (.v (.int .i32 55296))), (some (6, true))⟩,
    ⟨(some 9), .pick (.t 6) (.t 8) (.c (.v (.bool false))), none⟩,
    ⟨(some 3), .mov (.t 9), none⟩] []) <|
  .keep [0, 3] []) <|
  .cond (.t 3) (.seq (.seq (.reg [⟨(some 2), .mov (.c (.v (.bool true))), none⟩] []) <|
  .keep [2] []) <|
  .ret) <|
  .seq (.seq (.reg [⟨(some 11), .mov (.t 0), none⟩,
    ⟨(some 12), .bin .lss (.c (.v (.int .i32 57343))) (.t 11), none⟩,
    ⟨(some 13), .mov (.t 12), none⟩,
    ⟨(some 14), .mov (.t 0), (some (13, true))⟩,
    ⟨(some 15), .bin .leq (.t 14) (.c (.v (.int .i32 1114111))), (some (13, true))⟩,
    ⟨(some 16), .pick (.t 13) (.t 15) (.c (.v (.bool false))), none⟩,
    ⟨(some 10), .mov (.t 16), none⟩] []) <|
  .keep [10] []) <|
  .cond (.t 10) (.seq (.seq (.reg [⟨(some 2), .mov (.c (.v (.bool true))), none⟩] []) <|
  .keep [2] []) <|
  .ret) <|
  .skip) <|
  .keep [] []) <|
  .seq (.seq (.reg [⟨(some 2), .mov (.c (.v (.bool false))), none⟩] []) <|
  .keep [2] []) <|
  .ret, [.t 2]⟩

/- 148: internal/bytealg.Cutover -/
def internal_bytealg_Cutover : CF := ⟨1, .seq (.seq (.reg [⟨(some 2), .mov (.c (.v (.int .i64 0))), none⟩] []) <|
  .keep [0] []) <|
  .seq (.seq (.reg [⟨(some 3), .mov (.t 0), none⟩,
    ⟨(some 4), .bin .add (.t 3) (.c (.v (.int .i64 16))), none⟩,
    ⟨(some 5), .bin .quo (.t 4) (.c (.v (.int .i64 8))), none⟩,
    ⟨(some 2), .mov (.t 5), none⟩] []) <|
  .keep [2] []) <|
  .ret, [.t 2]⟩

/- 150: internal/strconv.lower -/
def internal_strconv_lower : CF := ⟨1, .seq (.seq (.reg [⟨(some 2), .mov (.c (.v (.int .u8 0))), none⟩] []) <|
  .keep [0] []) <|
  .seq (.seq (.reg [⟨(some 3), .mov (.t 0), none⟩,
    ⟨(some 4), .bin .or (.t 3) (.c (.v (.int .u8 32))), none⟩,
    ⟨(some 2), .mov (.t 4), none⟩] []) <|
  .keep [2] []) <|
  .ret, [.t 2]⟩

/- 151: internal/strconv.underscoreOK -/
def internal_strconv_underscoreOK_l0 : C :=
  .seq (.seq (.seq (.seq (.reg [⟨(some 51), .mov (.t 4), none⟩,
    ⟨(some 52), .mov (.t 0), none⟩,
    ⟨(some 53), .lns (.t 52), none⟩,
    ⟨(some 54), .bin .lss (.t 51) (.t 53), none⟩] []) <|
  .keep [0, 3, 4, 5, 54] []) <|
  .cond (.t 54) (.skip) <|
  .seq (.keep [3] []) <|
  .exit 0) <|
  .seq (.seq (.blk 1 <|
  .seq (.seq (.seq (.reg [⟨(some 57), .mov (.t 0), none⟩,
    ⟨(some 58), .mov (.t 4), none⟩,
    ⟨(some 59), .ixs (.t 57) (.t 58), none⟩,
    ⟨(some 60), .bin .leq (.c (.v (.int .u8 48))) (.t 59), none⟩,
    ⟨(some 61), .mov (.t 60), none⟩,
    ⟨(some 62), .mov (.t 0), (some (61, true))⟩,
    ⟨(some 63), .mov (.t 4), (some (61, true))⟩,
    ⟨(some 64), .ixs (.t 62) (.t 63), (some (61, true))⟩,
    ⟨(some 65), .bin .leq (.t 64) (.c (.v (.int .u8 57))), (some (61, true))⟩,
    ⟨(some 66), .pick (.t 61) (.t 65) (.c (.v (.bool false))), none⟩,
    ⟨(some 67), .mov (.t 66), none⟩,
    ⟨(some 68), .mov (.t 5), (some (67, false))⟩,
    ⟨(some 69), .mov (.t 68), (some (67, false))⟩,
    ⟨(some 70), .mov (.t 0), (some (69, true))⟩,
    ⟨(some 71), .mov (.t 4), (some (69, true))⟩,
    ⟨(some 72), .ixs (.t 70) (.t 71), (some (69, true))⟩,
    ⟨(some 73), .call n_internal_strconv_lower [(.t 72)] false, (some (69, true))⟩,
    ⟨(some 74), .bin .leq (.c (.v (.int .u8 97))) (.t 73), (some (69, true))⟩,
    ⟨(some 75), .pick (.t 69) (.t 74) (.c (.v (.bool false))), (some (67, false))⟩,
    ⟨(some 76), .mov (.t 75), (some (67, false))⟩,
    ⟨(some 77), .mov (.t 0), (some (76, true))⟩,
    ⟨(some 78), .mov (.t 4), (some (76, true))⟩,
    ⟨(some 79), .ixs (.t 77) (.t 78), (some (76, true))⟩,
    ⟨(some 80), .call n_internal_strconv_lower [(.t 79)] false, (some (76, true))⟩,
    ⟨(some 81), .bin .leq (.t 80) (.c (.v (.int .u8 102))), (some (76, true))⟩,
    ⟨(some 82), .pick (.t 76) (.t 81) (.c (.v (.bool false))), (some (67, false))⟩,
    ⟨(some 83), .pick (.t 67) (.c (.v (.bool true))) (.t 82), none⟩] []) <|
  .keep [0, 3, 4, 5, 83] []) <|
  .cond (.t 83) (.seq (.seq (.reg [⟨(some 3), .mov (.c (.v (.int .i32 48))), none⟩] []) <|
  .keep [0, 3, 4, 5] []) <|
  .seq (.keep [0, 3, 4, 5] []) <|
  .exit 1) <|
  .skip) <|
  .seq (.seq (.seq (.reg [⟨(some 84), .mov (.t 0), none⟩,
    ⟨(some 85), .mov (.t 4), none⟩,
    ⟨(some 86), .ixs (.t 84) (.t 85), none⟩,
    ⟨(some 87), .bin .eql (.t 86) (.c (.v (.int .u8 95))), none⟩] []) <|
  .keep [0, 3, 4, 5, 87] []) <|
  .cond (.t 87) (.seq (.seq (.seq (.reg [⟨(some 88), .mov (.t 3), none⟩,
    ⟨(some 89), .bin .neq (.t 88) (.c (.v (.int .i32 48))), none⟩] []) <|
  .keep [0, 4, 5, 89] []) <|
  .cond (.t 89) (.seq (.seq (.reg [⟨(some 2), .mov (.c (.v (.bool false))), none⟩] []) <|
  .keep [2] []) <|
  .ret) <|
  .skip) <|
  .seq (.seq (.reg [⟨(some 3), .mov (.c (.v (.int .i32 95))), none⟩] []) <|
  .keep [0, 3, 4, 5] []) <|
  .seq (.keep [0, 3, 4, 5] []) <|
  .exit 1) <|
  .skip) <|
  .seq (.seq (.seq (.reg [⟨(some 90), .mov (.t 3), none⟩,
    ⟨(some 91), .bin .eql (.t 90) (.c (.v (.int .i32 95))), none⟩] []) <|
  .keep [0, 4, 5, 91] []) <|
  .cond (.t 91) (.seq (.seq (.reg [⟨(some 2), .mov (.c (.v (.bool false))), none⟩] []) <|
  .keep [2] []) <|
  .ret) <|
  .skip) <|
  .seq (.reg [⟨(some 3), .mov (.c (.v (.int .i32 33))), none⟩] []) <|
  .keep [0, 3, 4, 5] []) <|
  .keep [0, 3, 4, 5] []) <|
  .seq (.reg [⟨(some 55), .mov (.t 4), none⟩,
    ⟨(some 56), .bin .add (.t 55) (.c (.v (.int .i64 1))), none⟩,
    ⟨(some 4), .mov (.t 56), none⟩] []) <|
  .keep [0, 3, 4, 5] []) <|
  .keep [0, 3, 4, 5] []
def internal_strconv_underscoreOK : CF := ⟨1, .seq (.seq (.reg [⟨(some 2), .mov (.c (.v (.bool false))), none⟩] []) <|
  .keep [0] []) <|
  .seq (.seq (.reg [⟨(some 3), .mov (.c (.v (.int .i32 94))), none⟩] []) <|
  .keep [0, 3] []) <|
  .seq (.seq (.reg [⟨(some 4), .mov (.c (.v (.int .i64 0))), none⟩] []) <|
  .keep [0, 3, 4] []) <|
  .seq (.seq (.seq (.reg [⟨(some 6), .mov (.t 0), none⟩,
    ⟨(some 7), .lns (.t 6), none⟩,
    ⟨(some 8), .bin .geq (.t 7) (.c (.v (.int .i64 1))), none⟩,
    ⟨(some 9), .mov (.t 8), none⟩,
    ⟨(some 10), .mov (.t 0), (some (9, true))⟩,
    ⟨(some 11), .ixs (.t 10) (.c (.v (.int .i64 0))), (some (9, true))⟩,
    ⟨(some 12), .bin .eql (.t 11) (.c (.v (.int .u8 45))), (some (9, true))⟩,
    ⟨(some 13), .mov (.t 12), (some (9, true))⟩,
    ⟨(some 14), .mov (.t 0), (some (13, false))⟩,
    ⟨(some 15), .ixs (.t 14) (.c (.v (.int .i64 0))), (some (13, false))⟩,
    ⟨(some 16), .bin .eql (.t 15) (.c (.v (.int .u8 43))), (some (13, false))⟩,
    ⟨(some 17), .pick (.t 13) (.c (.v (.bool true))) (.t 16), (some (9, true))⟩,
    ⟨(some 18), .pick (.t 9) (.t 17) (.c (.v (.bool false))), none⟩] []) <|
  .keep [0, 3, 4, 18] []) <|
  .cond (.t 18) (.seq (.reg [⟨(some 19), .mov (.t 0), none⟩,
    ⟨(some 20), .sls (.t 19) (some (.c (.v (.int .i64 1)))) none, none⟩,
    ⟨(some 0), .mov (.t 20), none⟩] []) <|
  .keep [0, 3, 4] []) <|
  .skip) <|
  .seq (.seq (.reg [⟨(some 5), .mov (.c (.v (.bool false))), none⟩] []) <|
  .keep [0, 3, 4, 5] []) <|
  .seq (.seq (.seq (.reg [⟨(some 21), .mov (.t 0), none⟩,
    ⟨(some 22), .lns (.t 21), none⟩,
    ⟨(some 23), .bin .geq (.t 22) (.c (.v (.int .i64 2))), none⟩,
    ⟨(some 24), .mov (.t 23), none⟩,
    ⟨(some 25), .mov (.t 0), (some (24, true))⟩,
    ⟨(some 26), .ixs (.t 25) (.c (.v (.int .i64 0))), (some (24, true))⟩,
    ⟨(some 27), .bin .eql (.t 26) (.c (.v (.int .u8 48))), (some (24, true))⟩,
    ⟨(some 28), .pick (.t 24) (.t 27) (.c (.v (.bool false))), none⟩,
    ⟨(some 29), .mov (.t 28), none⟩,
    ⟨(some 30), .mov (.t 0), (some (29, true))⟩,
    ⟨(some 31), .ixs (.t 30) (.c (.v (.int .i64 1))), (some (29, true))⟩,
    ⟨(some 32), .call n_internal_strconv_lower [(.t 31)] false, (some (29, true))⟩,
    ⟨(some 33), .bin .eql (.t 32) (.c (.v (.int .u8 98))), (some (29, true))⟩,
    ⟨(some 34), .mov (.t 33), (some (29, true))⟩,
    ⟨(some 35), .mov (.t 0), (some (34, false))⟩,
    ⟨(some 36), .ixs (.t 35) (.c (.v (.int .i64 1))), (some (34, false))⟩,
    ⟨(some 37), .call n_internal_strconv_lower [(.t 36)] false, (some (34, false))⟩,
    ⟨(some 38), .bin .eql (.t 37) (.c (.v (.int .u8 111))), (some (34, false))⟩,
    ⟨(some 39), .pick (.t 34) (.c (.v (.bool true))) (.t 38), (some (29, true))⟩,
    ⟨(some 40), .mov (.t 39), (some (29, true))⟩,
    ⟨(some 41), .mov (.t 0), (some (40, false))⟩,
    ⟨(some 42), .ixs (.t 41) (.c (.v (.int .i64 1))), (some (40, false))⟩,
    ⟨(some 43), .call n_internal_strconv_lower [(.t 42)] false, (some (40, false))⟩,
    ⟨(some 44), .bin .eql (.t 43) (.c (.v (.int .u8 120))), (some (40, false))⟩,
    ⟨(some 45), .pick (.t 40) (.c (.v (.bool true))) (.t 44), (some (29, true))⟩,
    ⟨(some 46), .pick (.t 29) (.t 45) (.c (.v (.bool false))), none⟩] []) <|
  .keep [0, 3, 4, 5, 46] []) <|
  .cond (.t 46) (.seq (.seq (.reg [⟨(some 4), .mov (.c (.v (.int .i64 2))), none⟩] []) <|
  .keep [0, 4] []) <|
  .seq (.seq (.reg [⟨(some 3), .mov (.c (.v (.int .i32 48))), none⟩] []) <|
  .keep [0, 3, 4] []) <|
  .seq (.reg [⟨(some 47), .mov (.t 0), none⟩,
    ⟨(some 48), .ixs (.t 47) (.c (.v (.int .i64 1))), none⟩,
    ⟨(some 49), .call n_internal_strconv_lower [(.t 48)] false, none⟩,
    ⟨(some 50), .bin .eql (.t 49) (.c (.v (.int .u8 120))), none⟩,
    ⟨(some 5), .mov (.t 50), none⟩] []) <|
  .keep [0, 3, 4, 5] []) <|
  .skip) <|
  .seq (.seq (.blk 0 <|
  .seq (.keep [0, 3, 4, 5] []) <|
  .loop internal_strconv_underscoreOK_l0) <|
  .keep [3] []) <|
  .seq (.seq (.reg [⟨(some 92), .mov (.t 3), none⟩,
    ⟨(some 93), .bin .neq (.t 92) (.c (.v (.int .i32 95))), none⟩,
    ⟨(some 2), .mov (.t 93), none⟩] []) <|
  .keep [2] []) <|
  .ret, [.t 2]⟩

end Go.AM

set_option maxRecDepth 100000
namespace Go.AM
open Go Go.Proofs

def ft : Nat → Option CF
  | 3 => some gantrylaw04_IntegerRoots
  | 4 => some gantrylaw04_IntegerSums
  | 5 => some gantrylaw04_IntegerRing
  | 6 => some gantrylaw04_IntegerGo
  | 7 => some gantrylaw04_IntegerQuotients
  | 9 => some gantrylaw04_IntegerDivisors
  | 10 => some gantrylaw04_IntegerTexts
  | 11 => some gantryref04_Number
  | 12 => some gantryref04_Mul
  | 13 => some gantryref04_Add
  | 14 => some gantryref04_Of
  | 15 => some gantryref01_Around
  | 16 => some gantryref04_Sub
  | 17 => some integer_Root
  | 18 => some gantryref04_Root
  | 19 => some gantrylaw04_same
  | 20 => some gantrylaw04_lives
  | 21 => some gantryref04_Encode
  | 22 => some integer_Add
  | 23 => some integer_Sub
  | 24 => some integer_Mul
  | 25 => some integer_Neg
  | 26 => some gantryref04_Neg
  | 27 => some integer_Compare
  | 28 => some gantryref04_Compare
  | 29 => some integer_Sign
  | 30 => some gantryref04_Sign
  | 31 => some gantryref01_Same
  | 32 => some integer_Of
  | 33 => some integer_Div
  | 34 => some gantryref04_Div
  | 35 => some integer_Gcd
  | 36 => some gantryref04_Gcd
  | 37 => some gantryref01_Take
  | 38 => some integer_Valid
  | 39 => some gantryref04_Valid
  | 40 => some integer_Small
  | 41 => some gantryref04_Small
  | 43 => some integer_Parse
  | 44 => some integer_Encode
  | 45 => some integer_Decode
  | 46 => some gantryref01_Few
  | 47 => some gantryref04_Text
  | 48 => some gantryref01_Short
  | 49 => some gantryref04_Parse
  | 50 => some gantryref01_Ints
  | 51 => some gantryref04_Decode
  | 52 => some gantryref01_At
  | 53 => some gantryref04_Power
  | 54 => some gantryref04_normal
  | 55 => some gantryref04_plus
  | 56 => some gantryref04_compared
  | 57 => some gantryref04_minus
  | 58 => some integer_of
  | 59 => some gantryref04_Same
  | 60 => some integer_plus
  | 61 => some integer_compare
  | 62 => some integer_minus
  | 63 => some integer_unsigned
  | 64 => some integer_divide
  | 65 => some gantryref04_divided
  | 66 => some integer_two
  | 67 => some gantryref04_tiny
  | 68 => some slices_ContainsFunc_int_int
  | 69 => some integer_Valid_1
  | 72 => some strconv_Itoa
  | 75 => some strings_CutPrefix
  | 78 => some wire_Ints
  | 79 => some wire_GetInts
  | 80 => some slices_Clone_int_int
  | 81 => some gantryref04_decimal
  | 82 => some gantryref01_Int
  | 83 => some gantryref01_GetInts
  | 84 => some gantryref04_digit
  | 85 => some cmp_Compare_int
  | 86 => some integer_short
  | 87 => some integer_long
  | 88 => some gantryref04_times
  | 89 => some slices_IndexFunc_int_int
  | 91 => some internal_strconv_Itoa
  | 92 => some math_bits_Mul
  | 93 => some strings_HasPrefix
  | 96 => some internal_stringslite_CutPrefix
  | 97 => some strings_trimLeftByte
  | 98 => some strings_trimRightByte
  | 100 => some strings_trimLeftASCII
  | 101 => some strings_trimRightASCII
  | 102 => some strings_trimLeftUnicode
  | 103 => some strings_trimRightUnicode
  | 106 => some wire_Int
  | 107 => some wire_count
  | 108 => some wire_reader
  | 109 => some gantryref01_count
  | 110 => some gantryref01_GetInt
  | 111 => some cmp_isNaN_int
  | 112 => some integer_scaled
  | 115 => some math_bits_Mul32
  | 116 => some math_bits_Mul64
  | 117 => some internal_stringslite_HasPrefix
  | 120 => some unicode_utf8_DecodeRuneInString
  | 121 => some strings_ContainsRune
  | 122 => some unicode_utf8_DecodeLastRuneInString
  | 126 => some strconv_baseError
  | 127 => some strconv_bitSizeError
  | 128 => some wire_GetInt
  | 129 => some wire_reader_1
  | 130 => some internal_strconv_small
  | 132 => some internal_strconv_formatBase10
  | 137 => some unicode_utf8_RuneStart
  | 141 => some internal_strconv_log10Pow2
  | 142 => some math_bits_Len64
  | 143 => some internal_strconv_bool2_int
  | 144 => some internal_strconv_isPowerOfTwo
  | 145 => some math_bits_TrailingZeros
  | 146 => some strings_IndexByte
  | 147 => some unicode_utf8_ValidRune
  | 148 => some internal_bytealg_Cutover
  | 150 => some internal_strconv_lower
  | 151 => some internal_strconv_underscoreOK
  | _ => none
theorem gantrylaw04_IntegerRoots_c : compF Tryz.prog Tryz.f3 = some gantrylaw04_IntegerRoots.er := by kernel_rfl
theorem gantrylaw04_IntegerSums_c : compF Tryz.prog Tryz.f4 = some gantrylaw04_IntegerSums.er := by kernel_rfl
theorem gantrylaw04_IntegerRing_c : compF Tryz.prog Tryz.f5 = some gantrylaw04_IntegerRing.er := by kernel_rfl
theorem gantrylaw04_IntegerGo_c : compF Tryz.prog Tryz.f6 = some gantrylaw04_IntegerGo.er := by kernel_rfl
theorem gantrylaw04_IntegerQuotients_c : compF Tryz.prog Tryz.f7 = some gantrylaw04_IntegerQuotients.er := by kernel_rfl
theorem gantrylaw04_IntegerDivisors_c : compF Tryz.prog Tryz.f9 = some gantrylaw04_IntegerDivisors.er := by kernel_rfl
theorem gantrylaw04_IntegerTexts_c : compF Tryz.prog Tryz.f10 = some gantrylaw04_IntegerTexts.er := by kernel_rfl
theorem gantryref04_Number_c : compF Tryz.prog Tryz.f11 = some gantryref04_Number.er := by kernel_rfl
theorem gantryref04_Mul_c : compF Tryz.prog Tryz.f12 = some gantryref04_Mul.er := by kernel_rfl
theorem gantryref04_Add_c : compF Tryz.prog Tryz.f13 = some gantryref04_Add.er := by kernel_rfl
theorem gantryref04_Of_c : compF Tryz.prog Tryz.f14 = some gantryref04_Of.er := by kernel_rfl
theorem gantryref01_Around_c : compF Tryz.prog Tryz.f15 = some gantryref01_Around.er := by kernel_rfl
theorem gantryref04_Sub_c : compF Tryz.prog Tryz.f16 = some gantryref04_Sub.er := by kernel_rfl
theorem integer_Root_c : compF Tryz.prog Tryz.f17 = some integer_Root.er := by kernel_rfl
theorem gantryref04_Root_c : compF Tryz.prog Tryz.f18 = some gantryref04_Root.er := by kernel_rfl
theorem gantrylaw04_same_c : compF Tryz.prog Tryz.f19 = some gantrylaw04_same.er := by kernel_rfl
theorem gantrylaw04_lives_c : compF Tryz.prog Tryz.f20 = some gantrylaw04_lives.er := by kernel_rfl
theorem gantryref04_Encode_c : compF Tryz.prog Tryz.f21 = some gantryref04_Encode.er := by kernel_rfl
theorem integer_Add_c : compF Tryz.prog Tryz.f22 = some integer_Add.er := by kernel_rfl
theorem integer_Sub_c : compF Tryz.prog Tryz.f23 = some integer_Sub.er := by kernel_rfl
theorem integer_Mul_c : compF Tryz.prog Tryz.f24 = some integer_Mul.er := by kernel_rfl
theorem integer_Neg_c : compF Tryz.prog Tryz.f25 = some integer_Neg.er := by kernel_rfl
theorem gantryref04_Neg_c : compF Tryz.prog Tryz.f26 = some gantryref04_Neg.er := by kernel_rfl
theorem integer_Compare_c : compF Tryz.prog Tryz.f27 = some integer_Compare.er := by kernel_rfl
theorem gantryref04_Compare_c : compF Tryz.prog Tryz.f28 = some gantryref04_Compare.er := by kernel_rfl
theorem integer_Sign_c : compF Tryz.prog Tryz.f29 = some integer_Sign.er := by kernel_rfl
theorem gantryref04_Sign_c : compF Tryz.prog Tryz.f30 = some gantryref04_Sign.er := by kernel_rfl
theorem gantryref01_Same_c : compF Tryz.prog Tryz.f31 = some gantryref01_Same.er := by kernel_rfl
theorem integer_Of_c : compF Tryz.prog Tryz.f32 = some integer_Of.er := by kernel_rfl
theorem integer_Div_c : compF Tryz.prog Tryz.f33 = some integer_Div.er := by kernel_rfl
theorem gantryref04_Div_c : compF Tryz.prog Tryz.f34 = some gantryref04_Div.er := by kernel_rfl
theorem integer_Gcd_c : compF Tryz.prog Tryz.f35 = some integer_Gcd.er := by kernel_rfl
theorem gantryref04_Gcd_c : compF Tryz.prog Tryz.f36 = some gantryref04_Gcd.er := by kernel_rfl
theorem gantryref01_Take_c : compF Tryz.prog Tryz.f37 = some gantryref01_Take.er := by kernel_rfl
theorem integer_Valid_c : compF Tryz.prog Tryz.f38 = some integer_Valid.er := by kernel_rfl
theorem gantryref04_Valid_c : compF Tryz.prog Tryz.f39 = some gantryref04_Valid.er := by kernel_rfl
theorem integer_Small_c : compF Tryz.prog Tryz.f40 = some integer_Small.er := by kernel_rfl
theorem gantryref04_Small_c : compF Tryz.prog Tryz.f41 = some gantryref04_Small.er := by kernel_rfl
theorem integer_Parse_c : compF Tryz.prog Tryz.f43 = some integer_Parse.er := by kernel_rfl
theorem integer_Encode_c : compF Tryz.prog Tryz.f44 = some integer_Encode.er := by kernel_rfl
theorem integer_Decode_c : compF Tryz.prog Tryz.f45 = some integer_Decode.er := by kernel_rfl
theorem gantryref01_Few_c : compF Tryz.prog Tryz.f46 = some gantryref01_Few.er := by kernel_rfl
theorem gantryref04_Text_c : compF Tryz.prog Tryz.f47 = some gantryref04_Text.er := by kernel_rfl
theorem gantryref01_Short_c : compF Tryz.prog Tryz.f48 = some gantryref01_Short.er := by kernel_rfl
theorem gantryref04_Parse_c : compF Tryz.prog Tryz.f49 = some gantryref04_Parse.er := by kernel_rfl
theorem gantryref01_Ints_c : compF Tryz.prog Tryz.f50 = some gantryref01_Ints.er := by kernel_rfl
theorem gantryref04_Decode_c : compF Tryz.prog Tryz.f51 = some gantryref04_Decode.er := by kernel_rfl
theorem gantryref01_At_c : compF Tryz.prog Tryz.f52 = some gantryref01_At.er := by kernel_rfl
theorem gantryref04_Power_c : compF Tryz.prog Tryz.f53 = some gantryref04_Power.er := by kernel_rfl
theorem gantryref04_normal_c : compF Tryz.prog Tryz.f54 = some gantryref04_normal.er := by kernel_rfl
theorem gantryref04_plus_c : compF Tryz.prog Tryz.f55 = some gantryref04_plus.er := by kernel_rfl
theorem gantryref04_compared_c : compF Tryz.prog Tryz.f56 = some gantryref04_compared.er := by kernel_rfl
theorem gantryref04_minus_c : compF Tryz.prog Tryz.f57 = some gantryref04_minus.er := by kernel_rfl
theorem integer_of_c : compF Tryz.prog Tryz.f58 = some integer_of.er := by kernel_rfl
theorem gantryref04_Same_c : compF Tryz.prog Tryz.f59 = some gantryref04_Same.er := by kernel_rfl
theorem integer_plus_c : compF Tryz.prog Tryz.f60 = some integer_plus.er := by kernel_rfl
theorem integer_compare_c : compF Tryz.prog Tryz.f61 = some integer_compare.er := by kernel_rfl
theorem integer_minus_c : compF Tryz.prog Tryz.f62 = some integer_minus.er := by kernel_rfl
theorem integer_unsigned_c : compF Tryz.prog Tryz.f63 = some integer_unsigned.er := by kernel_rfl
theorem integer_divide_c : compF Tryz.prog Tryz.f64 = some integer_divide.er := by kernel_rfl
theorem gantryref04_divided_c : compF Tryz.prog Tryz.f65 = some gantryref04_divided.er := by kernel_rfl
theorem integer_two_c : compF Tryz.prog Tryz.f66 = some integer_two.er := by kernel_rfl
theorem gantryref04_tiny_c : compF Tryz.prog Tryz.f67 = some gantryref04_tiny.er := by kernel_rfl
theorem slices_ContainsFunc_int_int_c : compF Tryz.prog Tryz.f68 = some slices_ContainsFunc_int_int.er := by kernel_rfl
theorem integer_Valid_1_c : compF Tryz.prog Tryz.f69 = some integer_Valid_1.er := by kernel_rfl
theorem strconv_Itoa_c : compF Tryz.prog Tryz.f72 = some strconv_Itoa.er := by kernel_rfl
theorem strings_CutPrefix_c : compF Tryz.prog Tryz.f75 = some strings_CutPrefix.er := by kernel_rfl
theorem wire_Ints_c : compF Tryz.prog Tryz.f78 = some wire_Ints.er := by kernel_rfl
theorem wire_GetInts_c : compF Tryz.prog Tryz.f79 = some wire_GetInts.er := by kernel_rfl
theorem slices_Clone_int_int_c : compF Tryz.prog Tryz.f80 = some slices_Clone_int_int.er := by kernel_rfl
theorem gantryref04_decimal_c : compF Tryz.prog Tryz.f81 = some gantryref04_decimal.er := by kernel_rfl
theorem gantryref01_Int_c : compF Tryz.prog Tryz.f82 = some gantryref01_Int.er := by kernel_rfl
theorem gantryref01_GetInts_c : compF Tryz.prog Tryz.f83 = some gantryref01_GetInts.er := by kernel_rfl
theorem gantryref04_digit_c : compF Tryz.prog Tryz.f84 = some gantryref04_digit.er := by kernel_rfl
theorem cmp_Compare_int_c : compF Tryz.prog Tryz.f85 = some cmp_Compare_int.er := by kernel_rfl
theorem integer_short_c : compF Tryz.prog Tryz.f86 = some integer_short.er := by kernel_rfl
theorem integer_long_c : compF Tryz.prog Tryz.f87 = some integer_long.er := by kernel_rfl
theorem gantryref04_times_c : compF Tryz.prog Tryz.f88 = some gantryref04_times.er := by kernel_rfl
theorem slices_IndexFunc_int_int_c : compF Tryz.prog Tryz.f89 = some slices_IndexFunc_int_int.er := by kernel_rfl
theorem internal_strconv_Itoa_c : compF Tryz.prog Tryz.f91 = some internal_strconv_Itoa.er := by kernel_rfl
theorem math_bits_Mul_c : compF Tryz.prog Tryz.f92 = some math_bits_Mul.er := by kernel_rfl
theorem strings_HasPrefix_c : compF Tryz.prog Tryz.f93 = some strings_HasPrefix.er := by kernel_rfl
theorem internal_stringslite_CutPrefix_c : compF Tryz.prog Tryz.f96 = some internal_stringslite_CutPrefix.er := by kernel_rfl
theorem strings_trimLeftByte_c : compF Tryz.prog Tryz.f97 = some strings_trimLeftByte.er := by kernel_rfl
theorem strings_trimRightByte_c : compF Tryz.prog Tryz.f98 = some strings_trimRightByte.er := by kernel_rfl
theorem strings_trimLeftASCII_c : compF Tryz.prog Tryz.f100 = some strings_trimLeftASCII.er := by kernel_rfl
theorem strings_trimRightASCII_c : compF Tryz.prog Tryz.f101 = some strings_trimRightASCII.er := by kernel_rfl
theorem strings_trimLeftUnicode_c : compF Tryz.prog Tryz.f102 = some strings_trimLeftUnicode.er := by kernel_rfl
theorem strings_trimRightUnicode_c : compF Tryz.prog Tryz.f103 = some strings_trimRightUnicode.er := by kernel_rfl
theorem wire_Int_c : compF Tryz.prog Tryz.f106 = some wire_Int.er := by kernel_rfl
theorem wire_count_c : compF Tryz.prog Tryz.f107 = some wire_count.er := by kernel_rfl
theorem wire_reader_c : compF Tryz.prog Tryz.f108 = some wire_reader.er := by kernel_rfl
theorem gantryref01_count_c : compF Tryz.prog Tryz.f109 = some gantryref01_count.er := by kernel_rfl
theorem gantryref01_GetInt_c : compF Tryz.prog Tryz.f110 = some gantryref01_GetInt.er := by kernel_rfl
theorem cmp_isNaN_int_c : compF Tryz.prog Tryz.f111 = some cmp_isNaN_int.er := by kernel_rfl
theorem integer_scaled_c : compF Tryz.prog Tryz.f112 = some integer_scaled.er := by kernel_rfl
theorem math_bits_Mul32_c : compF Tryz.prog Tryz.f115 = some math_bits_Mul32.er := by kernel_rfl
theorem math_bits_Mul64_c : compF Tryz.prog Tryz.f116 = some math_bits_Mul64.er := by kernel_rfl
theorem internal_stringslite_HasPrefix_c : compF Tryz.prog Tryz.f117 = some internal_stringslite_HasPrefix.er := by kernel_rfl
theorem unicode_utf8_DecodeRuneInString_c : compF Tryz.prog Tryz.f120 = some unicode_utf8_DecodeRuneInString.er := by kernel_rfl
theorem strings_ContainsRune_c : compF Tryz.prog Tryz.f121 = some strings_ContainsRune.er := by kernel_rfl
theorem unicode_utf8_DecodeLastRuneInString_c : compF Tryz.prog Tryz.f122 = some unicode_utf8_DecodeLastRuneInString.er := by kernel_rfl
theorem strconv_baseError_c : compF Tryz.prog Tryz.f126 = some strconv_baseError.er := by kernel_rfl
theorem strconv_bitSizeError_c : compF Tryz.prog Tryz.f127 = some strconv_bitSizeError.er := by kernel_rfl
theorem wire_GetInt_c : compF Tryz.prog Tryz.f128 = some wire_GetInt.er := by kernel_rfl
theorem wire_reader_1_c : compF Tryz.prog Tryz.f129 = some wire_reader_1.er := by kernel_rfl
theorem internal_strconv_small_c : compF Tryz.prog Tryz.f130 = some internal_strconv_small.er := by kernel_rfl
theorem internal_strconv_formatBase10_c : compF Tryz.prog Tryz.f132 = some internal_strconv_formatBase10.er := by kernel_rfl
theorem unicode_utf8_RuneStart_c : compF Tryz.prog Tryz.f137 = some unicode_utf8_RuneStart.er := by kernel_rfl
theorem internal_strconv_log10Pow2_c : compF Tryz.prog Tryz.f141 = some internal_strconv_log10Pow2.er := by kernel_rfl
theorem math_bits_Len64_c : compF Tryz.prog Tryz.f142 = some math_bits_Len64.er := by kernel_rfl
theorem internal_strconv_bool2_int_c : compF Tryz.prog Tryz.f143 = some internal_strconv_bool2_int.er := by kernel_rfl
theorem internal_strconv_isPowerOfTwo_c : compF Tryz.prog Tryz.f144 = some internal_strconv_isPowerOfTwo.er := by kernel_rfl
theorem math_bits_TrailingZeros_c : compF Tryz.prog Tryz.f145 = some math_bits_TrailingZeros.er := by kernel_rfl
theorem strings_IndexByte_c : compF Tryz.prog Tryz.f146 = some strings_IndexByte.er := by kernel_rfl
theorem unicode_utf8_ValidRune_c : compF Tryz.prog Tryz.f147 = some unicode_utf8_ValidRune.er := by kernel_rfl
theorem internal_bytealg_Cutover_c : compF Tryz.prog Tryz.f148 = some internal_bytealg_Cutover.er := by kernel_rfl
theorem internal_strconv_lower_c : compF Tryz.prog Tryz.f150 = some internal_strconv_lower.er := by kernel_rfl
theorem internal_strconv_underscoreOK_c : compF Tryz.prog Tryz.f151 = some internal_strconv_underscoreOK.er := by kernel_rfl
theorem ft_ok : ∀ f cf, ft f = some cf → ∃ fn, Tryz.prog.funcs[f]? = some fn ∧ compF Tryz.prog fn = some cf.er := by
  intro f cf h
  unfold ft at h
  split at h
  · cases h; exact ⟨_, Tryz.func3, gantrylaw04_IntegerRoots_c⟩
  · cases h; exact ⟨_, Tryz.func4, gantrylaw04_IntegerSums_c⟩
  · cases h; exact ⟨_, Tryz.func5, gantrylaw04_IntegerRing_c⟩
  · cases h; exact ⟨_, Tryz.func6, gantrylaw04_IntegerGo_c⟩
  · cases h; exact ⟨_, Tryz.func7, gantrylaw04_IntegerQuotients_c⟩
  · cases h; exact ⟨_, Tryz.func9, gantrylaw04_IntegerDivisors_c⟩
  · cases h; exact ⟨_, Tryz.func10, gantrylaw04_IntegerTexts_c⟩
  · cases h; exact ⟨_, Tryz.func11, gantryref04_Number_c⟩
  · cases h; exact ⟨_, Tryz.func12, gantryref04_Mul_c⟩
  · cases h; exact ⟨_, Tryz.func13, gantryref04_Add_c⟩
  · cases h; exact ⟨_, Tryz.func14, gantryref04_Of_c⟩
  · cases h; exact ⟨_, Tryz.func15, gantryref01_Around_c⟩
  · cases h; exact ⟨_, Tryz.func16, gantryref04_Sub_c⟩
  · cases h; exact ⟨_, Tryz.func17, integer_Root_c⟩
  · cases h; exact ⟨_, Tryz.func18, gantryref04_Root_c⟩
  · cases h; exact ⟨_, Tryz.func19, gantrylaw04_same_c⟩
  · cases h; exact ⟨_, Tryz.func20, gantrylaw04_lives_c⟩
  · cases h; exact ⟨_, Tryz.func21, gantryref04_Encode_c⟩
  · cases h; exact ⟨_, Tryz.func22, integer_Add_c⟩
  · cases h; exact ⟨_, Tryz.func23, integer_Sub_c⟩
  · cases h; exact ⟨_, Tryz.func24, integer_Mul_c⟩
  · cases h; exact ⟨_, Tryz.func25, integer_Neg_c⟩
  · cases h; exact ⟨_, Tryz.func26, gantryref04_Neg_c⟩
  · cases h; exact ⟨_, Tryz.func27, integer_Compare_c⟩
  · cases h; exact ⟨_, Tryz.func28, gantryref04_Compare_c⟩
  · cases h; exact ⟨_, Tryz.func29, integer_Sign_c⟩
  · cases h; exact ⟨_, Tryz.func30, gantryref04_Sign_c⟩
  · cases h; exact ⟨_, Tryz.func31, gantryref01_Same_c⟩
  · cases h; exact ⟨_, Tryz.func32, integer_Of_c⟩
  · cases h; exact ⟨_, Tryz.func33, integer_Div_c⟩
  · cases h; exact ⟨_, Tryz.func34, gantryref04_Div_c⟩
  · cases h; exact ⟨_, Tryz.func35, integer_Gcd_c⟩
  · cases h; exact ⟨_, Tryz.func36, gantryref04_Gcd_c⟩
  · cases h; exact ⟨_, Tryz.func37, gantryref01_Take_c⟩
  · cases h; exact ⟨_, Tryz.func38, integer_Valid_c⟩
  · cases h; exact ⟨_, Tryz.func39, gantryref04_Valid_c⟩
  · cases h; exact ⟨_, Tryz.func40, integer_Small_c⟩
  · cases h; exact ⟨_, Tryz.func41, gantryref04_Small_c⟩
  · cases h; exact ⟨_, Tryz.func43, integer_Parse_c⟩
  · cases h; exact ⟨_, Tryz.func44, integer_Encode_c⟩
  · cases h; exact ⟨_, Tryz.func45, integer_Decode_c⟩
  · cases h; exact ⟨_, Tryz.func46, gantryref01_Few_c⟩
  · cases h; exact ⟨_, Tryz.func47, gantryref04_Text_c⟩
  · cases h; exact ⟨_, Tryz.func48, gantryref01_Short_c⟩
  · cases h; exact ⟨_, Tryz.func49, gantryref04_Parse_c⟩
  · cases h; exact ⟨_, Tryz.func50, gantryref01_Ints_c⟩
  · cases h; exact ⟨_, Tryz.func51, gantryref04_Decode_c⟩
  · cases h; exact ⟨_, Tryz.func52, gantryref01_At_c⟩
  · cases h; exact ⟨_, Tryz.func53, gantryref04_Power_c⟩
  · cases h; exact ⟨_, Tryz.func54, gantryref04_normal_c⟩
  · cases h; exact ⟨_, Tryz.func55, gantryref04_plus_c⟩
  · cases h; exact ⟨_, Tryz.func56, gantryref04_compared_c⟩
  · cases h; exact ⟨_, Tryz.func57, gantryref04_minus_c⟩
  · cases h; exact ⟨_, Tryz.func58, integer_of_c⟩
  · cases h; exact ⟨_, Tryz.func59, gantryref04_Same_c⟩
  · cases h; exact ⟨_, Tryz.func60, integer_plus_c⟩
  · cases h; exact ⟨_, Tryz.func61, integer_compare_c⟩
  · cases h; exact ⟨_, Tryz.func62, integer_minus_c⟩
  · cases h; exact ⟨_, Tryz.func63, integer_unsigned_c⟩
  · cases h; exact ⟨_, Tryz.func64, integer_divide_c⟩
  · cases h; exact ⟨_, Tryz.func65, gantryref04_divided_c⟩
  · cases h; exact ⟨_, Tryz.func66, integer_two_c⟩
  · cases h; exact ⟨_, Tryz.func67, gantryref04_tiny_c⟩
  · cases h; exact ⟨_, Tryz.func68, slices_ContainsFunc_int_int_c⟩
  · cases h; exact ⟨_, Tryz.func69, integer_Valid_1_c⟩
  · cases h; exact ⟨_, Tryz.func72, strconv_Itoa_c⟩
  · cases h; exact ⟨_, Tryz.func75, strings_CutPrefix_c⟩
  · cases h; exact ⟨_, Tryz.func78, wire_Ints_c⟩
  · cases h; exact ⟨_, Tryz.func79, wire_GetInts_c⟩
  · cases h; exact ⟨_, Tryz.func80, slices_Clone_int_int_c⟩
  · cases h; exact ⟨_, Tryz.func81, gantryref04_decimal_c⟩
  · cases h; exact ⟨_, Tryz.func82, gantryref01_Int_c⟩
  · cases h; exact ⟨_, Tryz.func83, gantryref01_GetInts_c⟩
  · cases h; exact ⟨_, Tryz.func84, gantryref04_digit_c⟩
  · cases h; exact ⟨_, Tryz.func85, cmp_Compare_int_c⟩
  · cases h; exact ⟨_, Tryz.func86, integer_short_c⟩
  · cases h; exact ⟨_, Tryz.func87, integer_long_c⟩
  · cases h; exact ⟨_, Tryz.func88, gantryref04_times_c⟩
  · cases h; exact ⟨_, Tryz.func89, slices_IndexFunc_int_int_c⟩
  · cases h; exact ⟨_, Tryz.func91, internal_strconv_Itoa_c⟩
  · cases h; exact ⟨_, Tryz.func92, math_bits_Mul_c⟩
  · cases h; exact ⟨_, Tryz.func93, strings_HasPrefix_c⟩
  · cases h; exact ⟨_, Tryz.func96, internal_stringslite_CutPrefix_c⟩
  · cases h; exact ⟨_, Tryz.func97, strings_trimLeftByte_c⟩
  · cases h; exact ⟨_, Tryz.func98, strings_trimRightByte_c⟩
  · cases h; exact ⟨_, Tryz.func100, strings_trimLeftASCII_c⟩
  · cases h; exact ⟨_, Tryz.func101, strings_trimRightASCII_c⟩
  · cases h; exact ⟨_, Tryz.func102, strings_trimLeftUnicode_c⟩
  · cases h; exact ⟨_, Tryz.func103, strings_trimRightUnicode_c⟩
  · cases h; exact ⟨_, Tryz.func106, wire_Int_c⟩
  · cases h; exact ⟨_, Tryz.func107, wire_count_c⟩
  · cases h; exact ⟨_, Tryz.func108, wire_reader_c⟩
  · cases h; exact ⟨_, Tryz.func109, gantryref01_count_c⟩
  · cases h; exact ⟨_, Tryz.func110, gantryref01_GetInt_c⟩
  · cases h; exact ⟨_, Tryz.func111, cmp_isNaN_int_c⟩
  · cases h; exact ⟨_, Tryz.func112, integer_scaled_c⟩
  · cases h; exact ⟨_, Tryz.func115, math_bits_Mul32_c⟩
  · cases h; exact ⟨_, Tryz.func116, math_bits_Mul64_c⟩
  · cases h; exact ⟨_, Tryz.func117, internal_stringslite_HasPrefix_c⟩
  · cases h; exact ⟨_, Tryz.func120, unicode_utf8_DecodeRuneInString_c⟩
  · cases h; exact ⟨_, Tryz.func121, strings_ContainsRune_c⟩
  · cases h; exact ⟨_, Tryz.func122, unicode_utf8_DecodeLastRuneInString_c⟩
  · cases h; exact ⟨_, Tryz.func126, strconv_baseError_c⟩
  · cases h; exact ⟨_, Tryz.func127, strconv_bitSizeError_c⟩
  · cases h; exact ⟨_, Tryz.func128, wire_GetInt_c⟩
  · cases h; exact ⟨_, Tryz.func129, wire_reader_1_c⟩
  · cases h; exact ⟨_, Tryz.func130, internal_strconv_small_c⟩
  · cases h; exact ⟨_, Tryz.func132, internal_strconv_formatBase10_c⟩
  · cases h; exact ⟨_, Tryz.func137, unicode_utf8_RuneStart_c⟩
  · cases h; exact ⟨_, Tryz.func141, internal_strconv_log10Pow2_c⟩
  · cases h; exact ⟨_, Tryz.func142, math_bits_Len64_c⟩
  · cases h; exact ⟨_, Tryz.func143, internal_strconv_bool2_int_c⟩
  · cases h; exact ⟨_, Tryz.func144, internal_strconv_isPowerOfTwo_c⟩
  · cases h; exact ⟨_, Tryz.func145, math_bits_TrailingZeros_c⟩
  · cases h; exact ⟨_, Tryz.func146, strings_IndexByte_c⟩
  · cases h; exact ⟨_, Tryz.func147, unicode_utf8_ValidRune_c⟩
  · cases h; exact ⟨_, Tryz.func148, internal_bytealg_Cutover_c⟩
  · cases h; exact ⟨_, Tryz.func150, internal_strconv_lower_c⟩
  · cases h; exact ⟨_, Tryz.func151, internal_strconv_underscoreOK_c⟩
  · cases h
end Go.AM

/- The seat's functions, and that their small texts are theirs. -/
namespace Go.AM
open Go Go.Proofs
/-- What the seat's iterators yield. -/
class Its where
  it : Nat → List D → Option (List (List D))
  orc : Nat → List D → Option R := fun _ _ => none
abbrev noIts : Its := { it := fun _ _ => none }
def G [Its] : Env := ⟨ft, Its.orc, Its.it⟩
theorem env_okO [Its] (h : ∀ f ds xs, Its.it f ds = some xs → ItOk Tryz.prog f ds xs) (ho : ∀ f ds r, ft f = none → Its.orc f ds = some r → CallOk Tryz.prog f ds r) : EnvOk Tryz.prog G := ⟨by kernel_rfl, ft_ok, ho, h⟩
theorem env_ok [Its] (h : ∀ f ds xs, Its.it f ds = some xs → ItOk Tryz.prog f ds xs) (h0 : ∀ f ds, (Its.orc f ds : Option R) = none := by intros; rfl) : EnvOk Tryz.prog G := env_okO h fun f ds r _ h => by rw [h0] at h; cases h
theorem env_ok0 : EnvOk Tryz.prog (@G noIts) := @env_ok noIts (fun _ _ _ h => by cases h) (fun _ _ => rfl)
end Go.AM

/- How the evaluator is run by simp: its equations, and lemmas on data. -/
namespace Go.AM
open Go Go.RowKit


theorem upd_get (f : Fr) (i j : Nat) (x : A) : upd f i x j = if j = i then some x else f j := rfl
theorem hupd_get (f : Hp) (i j : Key) (x : Obj) : hupd f i x j = if j = i then some x else f j := rfl
theorem updO_some (f : Fr) (i : Nat) (x : A) : updO f i (some x) = upd f i x := rfl
theorem hupdO_some (f : Hp) (i : Key) (x : Obj) : hupdO f i (some x) = hupd f i x := rfl
theorem updO_get (f : Fr) (i j : Nat) (x : Option A) : updO f i x j = if j = i then x else f j := rfl
theorem hupdO_get (f : Hp) (i j : Key) (x : Option Obj) : hupdO f i x j = if j = i then x else f j := rfl
theorem fr0_get (i : Nat) : fr0 i = none := rfl
theorem hp0_get (i : Key) : hp0 i = none := rfl

/-- The wrap of a number, behind a wall: nobody unfolds it. -/
theorem w64_ex : ∃ f : Int → Int, ∀ n, IntKind.i64.wrap n = f n := ⟨_, fun _ => rfl⟩
noncomputable def w64 : Int → Int := Classical.choose w64_ex
theorem wrap_i64 (n : Int) : IntKind.i64.wrap n = w64 n := Classical.choose_spec w64_ex n
theorem w64_id {n : Int} (h0 : -9223372036854775808 ≤ n) (h1 : n < 9223372036854775808) : w64 n = n := by
  rw [← wrap_i64]
  unfold IntKind.wrap
  simp only [IntKind.signed, IntKind.bits, Bool.true_and, decide_eq_true_eq, ge_iff_le]
  by_cases h : (2 : Int) ^ (64 - 1) ≤ n % 2 ^ 64
  · rw [if_pos h]; omega
  · rw [if_neg h]; omega

theorem bind_ite {α β : Type} (c : Prop) [Decidable c] (x y : Option α) (f : α → Option β) : (if c then x else y).bind f = if c then x.bind f else y.bind f := by split <;> rfl
theorem map_ite {α β : Type} (c : Prop) [Decidable c] (x y : Option α) (f : α → β) : (if c then x else y).map f = if c then x.map f else y.map f := by split <;> rfl
theorem guardO_true {α : Type} {p : Prop} [Decidable p] (h : p) (x : Option α) : guardO p x = x := if_pos h

/-! ### Rows of numbers -/
def dg (l : List Int) : D := if l = [] then .z true else .row l.length (l.map iv)
theorem dg_nil : dg [] = .z true := rfl
theorem dg_cons (x : Int) (l : List Int) : dg (x :: l) = .row (l.length + 1) (iv x :: l.map iv) := rfl
theorem dg_ne {l : List Int} (h : l ≠ []) : dg l = .row l.length (l.map iv) := if_neg h

theorem lenA_dg (l : List Int) : lenA (.d (dg l)) = some l.length := by
  cases l with
  | nil => rfl
  | cons x l => rfl
theorem ixa_dg (h : Hp) (l : List Int) {j : Int} (h0 : 0 ≤ j) (h1 : j < l.length) : ixaA h 1 j (.d (dg l)) = some (.d (.rp ((l.drop j.toNat).map iv))) := by
  have hl : l ≠ [] := by rintro rfl; simp at h1; omega
  rw [dg_ne hl]
  simp only [ixaA, guardO]
  rw [if_pos ⟨h0, h1⟩, Nat.mul_one, List.map_drop]
theorem load_rp_ints (h : Hp) (l : List Int) {j : Nat} (h1 : j < l.length) : loadA h none (.d (.rp ((l.drop j).map iv))) = some (.d (.v (.int .i64 (l.getD j 0)))) := by
  simp only [loadA, ldrow]
  rw [List.head?_map, List.head?_drop]
  simp [h1, iv]
theorem src_dg (st : St) (l : List Int) : src st (.d (dg l)) = some (l.length, l.map iv) := by
  cases l with
  | nil => rfl
  | cons x l => rfl
theorem argD_dg (st : St) (x : D) : argD st (.d x) = some (x, true) := rfl

/-! ### The helpers at each kind of value -/
theorem lenA_z (b : Bool) : lenA (.d (.z b)) = some 0 := rfl
theorem lenA_row (n : Nat) (cs : List D) : lenA (.d (.row n cs)) = some n := rfl
theorem lenA_own (k : Key) (n : Nat) : lenA (.own k n) = some n := rfl
theorem loadA_ptr (h : Hp) (sz : Option Nat) (k : Key) (off : Nat) : loadA h sz (.ptr k off) = (h k).bind fun o => ldcells sz off o.cs := rfl
theorem loadA_ep (h : Hp) (sz : Option Nat) (k : Key) (n off : Nat) : loadA h sz (.ep k n off) = (h k).bind fun o => guardO (o.n = n) (ldcells sz off o.cs) := rfl
theorem fadA_ptr (i : Nat) (k : Key) (o : Nat) : fadA i (.ptr k o) = some (.ptr k (o + i)) := rfl
theorem fadA_ep (i : Nat) (k : Key) (n o : Nat) : fadA i (.ep k n o) = some (.ep k n (o + i)) := rfl
theorem fadA_rp (i : Nat) (cs : List D) : fadA i (.d (.rp cs)) = some (.d (.rp (cs.drop i))) := rfl
theorem ixaA_own (h : Hp) (es : Nat) (j : Int) (q : Key) (n : Nat) : ixaA h es j (.own q n) = (h q).bind fun o => guardO (o.n = n ∧ 0 ≤ j ∧ j < n) (some (.ep q n (j.toNat * es))) := rfl
theorem storeA_ptr (h : Hp) (v : A) (k : Key) (off : Nat) : storeA h v (.ptr k off) = (h k).bind fun o => guardO (o.fz = false) ((stcells off (cellsOf v) o.cs).map fun cs => hupd h k { o with cs }) := rfl
theorem storeA_ep (h : Hp) (v : A) (k : Key) (n off : Nat) : storeA h v (.ep k n off) = (h k).bind fun o => guardO (o.fz = false ∧ o.n = n) ((allD (cellsOf v)).bind fun _ => (stcells off (cellsOf v) o.cs).map fun cs => hupd h k { o with cs }) := rfl
theorem strA_s (s : ByteArray) : strA (.d (.v (.string s))) = some s := rfl
theorem valA_v (x : Value) : valA (.d (.v x)) = some x := rfl
theorem aggA_g (cs : List D) : aggA (.d (.agg cs)) = some cs := rfl
theorem extA_t (i : Nat) (xs : List D) : extA i (.d (.tup xs)) = (xs[i]?).map .d := rfl
theorem fnA_f (f : Nat) (c : List D) : fnA (.d (.fn f c)) = some (f, c) := rfl
theorem int_i (k : IntKind) (n : Int) : A.int? (.d (.v (.int k n))) = some n := rfl
theorem bool_b (b : Bool) : A.bool? (.d (.v (.bool b))) = some b := rfl
theorem argD_d (st : St) (x : D) : argD st (.d x) = some (x, true) := rfl
theorem argD_own (st : St) (k : Key) (n : Nat) : argD st (.own k n) = (st.hp k).bind fun o => guardO (o.n = n) ((allD o.cs).map fun cs => (.row n cs, o.fz)) := rfl
theorem toD_d (st : St) (x : D) : toD st (.d x) = some x := rfl
theorem toD_own (st : St) (k : Key) (n : Nat) : toD st (.own k n) = (st.hp k).bind fun o => guardO (o.n = n) ((allD o.cs).map fun cs => .row n cs) := rfl
theorem retA_d (k : Key) (h : Hp) (ad fz : Bool) (x : D) : retA k h ad fz (.d x) = guardO (fz = true ∨ x.flat = true) (some (.d x, h)) := rfl
theorem retA_own (k : Key) (h : Hp) (ad fz : Bool) (es n : Nat) (cs : List D) : retA k h ad fz (.own es n cs) = guardO (fz = true) (mkA k h (!ad) es n cs) := rfl
theorem mkA_t (k : Key) (h : Hp) (es n : Nat) (cs : List D) : mkA k h true es n cs = some (.d (.row n cs), h) := rfl
theorem mkA_f (k : Key) (h : Hp) (es n : Nat) (cs : List D) : mkA k h false es n cs = guardO ((h k).isNone = true) (some (.own k n, hupd h k ⟨es, n, cs.map .d, false⟩)) := rfl
theorem appA_z (k : Key) (h : Hp) (fz : Bool) (es by_ m : Nat) (ys : List D) (b : Bool) : appA k h fz es by_ m ys (.d (.z b)) =
    guardO (m * by_ ≤ bound ∧ ys.length = m * es) (if m = 0 then some (.d (.z b), h) else mkA k h fz es m ys) := rfl
theorem appA_own (k : Key) (h : Hp) (fz : Bool) (es by_ m : Nat) (ys : List D) (q : Key) (n : Nat) : appA k h fz es by_ m ys (.own q n) =
    (h q).bind fun o => guardO (o.n = n ∧ o.fz = false ∧ o.es = es ∧ o.cs.length = n * es ∧ (n + m) * by_ ≤ bound ∧ ys.length = m * es ∧ ys.all D.one = true)
      (if fz then (allD o.cs).map fun cs => (.d (.row (n + m) (cs ++ ys)), hupd h q ⟨es, n + m, o.cs ++ ys.map .d, true⟩)
       else some (.own q (n + m), hupd h q ⟨es, n + m, o.cs ++ ys.map .d, false⟩)) := rfl
theorem ex_n_x (i : Nat) : (Ex.n = Ex.x i) = False := by simp
theorem ex_x_n (i : Nat) : (Ex.x i = Ex.n) = False := by simp
theorem ex_x_x (i j : Nat) : (Ex.x i = Ex.x j) = (i = j) := by simp
theorem ex_r_n : (Ex.r = Ex.n) = False := by simp
theorem ex_r_x (i : Nat) : (Ex.r = Ex.x i) = False := by simp
theorem ex_n_n : (Ex.n = Ex.n) = True := by simp

theorem bind_congr_l {α β : Type} {x y : Option α} {f : α → Option β} (h : x = y) : x.bind f = y.bind f := by rw [h]
theorem map_congr_l {α β : Type} {x y : Option α} {f : α → β} (h : x = y) : x.map f = y.map f := by rw [h]

attribute [go_sem] X_seq X_reg X_cond X_blk X_keep X_frz X_exit X_ret X_skip exs exO act wantedO putO E.ev allE argsD upd_get hupd_get fr0_get hp0_get
  Option.bind_some Option.map_some Option.bind_none Option.map_none Option.getD_some Option.getD_none Option.isNone_none Option.isNone_some guardO binV binI shOp undefA iA
  endOf ending resL resV argF keepSt keepF keepH keepRefs keepRefsH refsO refsOO updO_some hupdO_some updO_get hupdO_get refs refsL List.all_nil List.all_cons wrap_i64 bind_ite map_ite
  lenA_z lenA_row lenA_own loadA_ptr loadA_ep fadA_ptr fadA_ep fadA_rp ixaA_own storeA_ptr storeA_ep strA_s valA_v aggA_g extA_t fnA_f int_i bool_b argD_d argD_own toD_d toD_own
  retA_d retA_own mkA_t mkA_f appA_z appA_own lenA_dg ex_n_x ex_x_n ex_x_x ex_r_n ex_r_x ex_n_n
theorem key1 (a b : Nat) : (([a] : Key) = [b]) = (a = b) := by simp
theorem keyIsIn (k : Key) (ks : List Key) : k.isIn ks = ks.any fun q => decide (q = k) := rfl
theorem tt_true : (true = true) = True := by simp
theorem ft_false : (false = true) = False := by simp
theorem oo_ite (c : Prop) [Decidable c] {α : Type} (x : α) : (if c then some x else none) = guardO c (some x) := rfl
attribute [go_sem] key1 Key.isIn List.any_cons List.any_nil tt_true ft_false decide_true decide_false Bool.and_true Bool.true_and Bool.and_self Bool.or_true Bool.true_or Bool.or_false Bool.false_or and_true true_and and_self
theorem ge_t {a b : Int} (h : a ≥ b) : decide (a ≥ b) = true := decide_eq_true h
theorem ge_f {a b : Int} (h : ¬ a ≥ b) : decide (a ≥ b) = false := decide_eq_false h
theorem gt_t {a b : Int} (h : a > b) : decide (a > b) = true := decide_eq_true h
theorem gt_f {a b : Int} (h : ¬ a > b) : decide (a > b) = false := decide_eq_false h
theorem lt_t {a b : Int} (h : a < b) : decide (a < b) = true := decide_eq_true h
theorem lt_f {a b : Int} (h : ¬ a < b) : decide (a < b) = false := decide_eq_false h
theorem le_t {a b : Int} (h : a ≤ b) : decide (a ≤ b) = true := decide_eq_true h
theorem le_f {a b : Int} (h : ¬ a ≤ b) : decide (a ≤ b) = false := decide_eq_false h
theorem beq_t {a b : Int} (h : a = b) : (a == b) = true := by simp [h]
theorem beq_f {a b : Int} (h : a ≠ b) : (a == b) = false := by simp [h]
theorem bne_t {a b : Int} (h : a ≠ b) : (a != b) = true := by simp [h]
theorem bne_f {a b : Int} (h : a = b) : (a != b) = false := by simp [h]
theorem ofNat_cast (n : Nat) : Int.ofNat n = (n : Int) := rfl
theorem one_int (k : IntKind) (n : Int) : A.one (.d (.v (.int k n))) = true := rfl
theorem one_bool (b : Bool) : A.one (.d (.v (.bool b))) = true := rfl
theorem one_str (b : ByteArray) : A.one (.d (.v (.string b))) = true := rfl
theorem one_z (b : Bool) : A.one (.d (.z b)) = true := rfl
theorem one_row (n : Nat) (cs : List D) : A.one (.d (.row n cs)) = true := rfl
theorem one_own (k : Key) (n : Nat) : A.one (.own k n) = true := rfl
theorem one_ptr (k : Key) (n : Nat) : A.one (.ptr k n) = true := rfl
theorem one_dg' (l : List Int) : A.one (.d (dg l)) = true := by cases l <;> rfl
theorem one_agg (cs : List D) : A.one (.d (.agg cs)) = false := rfl
theorem cells_agg (cs : List D) : cellsOf (.d (.agg cs)) = cs.map .d := rfl
theorem cells_int (k : IntKind) (n : Int) : cellsOf (.d (.v (.int k n))) = [.d (.v (.int k n))] := rfl
theorem cells_bool (b : Bool) : cellsOf (.d (.v (.bool b))) = [.d (.v (.bool b))] := rfl
theorem cells_str (b : ByteArray) : cellsOf (.d (.v (.string b))) = [.d (.v (.string b))] := rfl
theorem cells_z (b : Bool) : cellsOf (.d (.z b)) = [.d (.z b)] := rfl
theorem cells_row (n : Nat) (cs : List D) : cellsOf (.d (.row n cs)) = [.d (.row n cs)] := rfl
theorem cells_dg (l : List Int) : cellsOf (.d (dg l)) = [.d (dg l)] := by cases l <;> rfl
theorem cells_own (k : Key) (n : Nat) : cellsOf (.own k n) = [.own k n] := rfl
theorem cells_ptr (k : Key) (n : Nat) : cellsOf (.ptr k n) = [.ptr k n] := rfl
theorem dc_agg (cs : List D) : dcells (.d (.agg cs)) = some cs := rfl
theorem dc_int (k : IntKind) (n : Int) : dcells (.d (.v (.int k n))) = some [.v (.int k n)] := rfl
theorem dc_bool (b : Bool) : dcells (.d (.v (.bool b))) = some [.v (.bool b)] := rfl
theorem dc_str (b : ByteArray) : dcells (.d (.v (.string b))) = some [.v (.string b)] := rfl
theorem dc_z (b : Bool) : dcells (.d (.z b)) = some [.z b] := rfl
theorem dc_row (n : Nat) (cs : List D) : dcells (.d (.row n cs)) = some [.row n cs] := rfl
theorem dc_dg (l : List Int) : dcells (.d (dg l)) = some [dg l] := by cases l <;> rfl
theorem dc_fn (f : Nat) (cs : List D) : dcells (.d (.fn f cs)) = some [.fn f cs] := rfl
theorem rep_1 (z : D) : rep 1 [z] = [z] := rfl
theorem rep_2 (z : D) : rep 2 [z] = [z, z] := rfl
theorem rep_3 (z : D) : rep 3 [z] = [z, z, z] := rfl
theorem wrap_u64 (n : Int) : IntKind.u64.wrap n = n % 18446744073709551616 := by
  unfold IntKind.wrap
  simp [IntKind.signed, IntKind.bits]
theorem base_ne : ((1000000000 : Int) = 0) = False := by simp
theorem nc0 : ((0 : Nat) : Int) = 0 := rfl
theorem toNat0 : Int.toNat 0 = 0 := rfl
theorem ob_ft : (some false = some true) = False := by simp
theorem ob_tf : (some true = some false) = False := by simp
theorem ob_tt : (some true = some true) = True := by simp
theorem ob_ff : (some false = some false) = True := by simp
theorem tf_false : (true = false) = False := by simp
theorem ff_true : (false = false) = True := by simp
attribute [go_sem] rep_1 rep_2 rep_3 wrap_u64 base_ne fillD Nat.reduceMul Nat.reduceSub List.getElem?_cons_zero List.getElem?_cons_succ List.getElem?_nil true_or or_true or_self false_or or_false and_false false_and nc0 toNat0 Nat.sub_zero Nat.mul_one Nat.zero_mul ofNat_cast List.map_cons List.map_nil List.length_cons List.length_nil Nat.reduceAdd Nat.reduceLeDiff List.take_succ_cons List.take_zero List.drop_succ_cons List.drop_zero List.drop_nil List.take_nil List.nil_append List.cons_append List.append_nil Int.toNat_natCast ob_ft ob_tf ob_tt ob_ff tf_false ff_true Bool.not_true Bool.not_false Bool.false_and Bool.and_false unV eqD slcA bnds optI cut srcS bytesD partsD partsB fillB D.flat ldrow allD one_int one_bool one_str one_z one_row one_own one_ptr one_dg' one_agg cells_agg cells_int cells_bool cells_str cells_z cells_row cells_dg cells_own cells_ptr dc_agg dc_int dc_bool dc_str dc_z dc_row dc_dg dc_fn
attribute [congr] bind_congr_l map_congr_l
end Go.AM

/- Numbers in digits: plain mathematics, no program in sight. -/
namespace Go.AM


def digs : Nat → List Int
  | 0 => []
  | n + 1 => (((n + 1) % 1000000000 : Nat) : Int) :: digs ((n + 1) / 1000000000)
  decreasing_by omega
def val : List Int → Int
  | [] => 0
  | d :: r => d + 1000000000 * val r
def Dig (l : List Int) : Prop := ∀ d ∈ l, 0 ≤ d ∧ d < 1000000000

theorem digs_zero : digs 0 = [] := by rw [digs]
theorem digs_pos {n : Nat} (h : 0 < n) : digs n = ((n % 1000000000 : Nat) : Int) :: digs (n / 1000000000) := by
  cases n with
  | zero => omega
  | succ n => rw [digs]
theorem Dig.nil : Dig [] := by intro d h; cases h
theorem Dig.cons {d : Int} {l : List Int} : Dig (d :: l) ↔ (0 ≤ d ∧ d < 1000000000) ∧ Dig l := by
  constructor
  · intro h; exact ⟨h d (by simp), fun e he => h e (by simp [he])⟩
  · rintro ⟨h1, h2⟩ e he
    rcases List.mem_cons.1 he with rfl | he
    · exact h1
    · exact h2 e he
theorem Dig.append {l m : List Int} : Dig (l ++ m) ↔ Dig l ∧ Dig m := by
  constructor
  · intro h; exact ⟨fun e he => h e (by simp [he]), fun e he => h e (by simp [he])⟩
  · rintro ⟨h1, h2⟩ e he
    rcases List.mem_append.1 he with he | he
    · exact h1 e he
    · exact h2 e he
theorem Dig.take {l : List Int} (h : Dig l) (n : Nat) : Dig (l.take n) := fun e he => h e (List.mem_of_mem_take he)
theorem Dig.drop {l : List Int} (h : Dig l) (n : Nat) : Dig (l.drop n) := fun e he => h e (List.mem_of_mem_drop he)
theorem Dig.getD {l : List Int} (h : Dig l) (i : Nat) : 0 ≤ l.getD i 0 ∧ l.getD i 0 < 1000000000 := by
  rw [List.getD_eq_getElem?_getD]
  cases hq : l[i]? with
  | none => simp
  | some x => exact h x (List.mem_of_getElem? hq)
theorem Dig.set {l : List Int} (h : Dig l) {i : Nat} {d : Int} (hd : 0 ≤ d ∧ d < 1000000000) : Dig (l.set i d) := by
  intro e he
  rcases List.mem_or_eq_of_mem_set he with he | rfl
  · exact h e he
  · exact hd
theorem Dig.replicate (n : Nat) : Dig (List.replicate n 0) := by
  intro e he
  rw [(List.mem_replicate.1 he).2]; omega

theorem digs_dig : ∀ n : Nat, Dig (digs n) := by
  intro n
  induction n using Nat.strongRecOn with
  | _ n ih =>
    rcases Nat.eq_zero_or_pos n with rfl | h
    · rw [digs_zero]; exact .nil
    · rw [digs_pos h, Dig.cons]
      exact ⟨by omega, ih _ (by omega)⟩
theorem val_digs : ∀ n : Nat, val (digs n) = n := by
  intro n
  induction n using Nat.strongRecOn with
  | _ n ih =>
    rcases Nat.eq_zero_or_pos n with rfl | h
    · rw [digs_zero]; rfl
    · rw [digs_pos h, val, ih _ (by omega)]
      omega
theorem val_nonneg : ∀ {l : List Int}, Dig l → 0 ≤ val l
  | [], _ => Int.le_refl _
  | d :: r, h => by
    obtain ⟨h1, h2⟩ := Dig.cons.1 h
    have := val_nonneg h2
    simp only [val]
    omega
theorem digs_ne {n : Nat} : digs n = [] ↔ n = 0 := by
  constructor
  · intro h
    rcases Nat.eq_zero_or_pos n with h' | h'
    · exact h'
    · rw [digs_pos h'] at h; cases h
  · rintro rfl; exact digs_zero
theorem digs_length_pos {n : Nat} : 0 < (digs n).length ↔ 0 < n := by
  rw [List.length_pos_iff, ne_eq, digs_ne]; omega

/-- Without zeros at the end. -/
def Top (l : List Int) : Prop := ∀ h : l ≠ [], l.getLast h ≠ 0
theorem digs_top : ∀ n : Nat, Top (digs n) := by
  intro n
  induction n using Nat.strongRecOn with
  | _ n ih =>
    intro h
    rcases Nat.eq_zero_or_pos n with rfl | hp
    · exact absurd digs_zero h
    · have e := digs_pos hp
      by_cases h0 : n / 1000000000 = 0
      · have : digs n = [((n % 1000000000 : Nat) : Int)] := by rw [e, h0, digs_zero]
        simp only [this, List.getLast_singleton]
        omega
      · have hne : digs (n / 1000000000) ≠ [] := by rw [ne_eq, digs_ne]; exact h0
        have : (digs n).getLast h = (digs (n / 1000000000)).getLast hne := by
          simp only [e]
          exact List.getLast_cons hne
        rw [this]
        exact ih _ (by omega) hne
/-- Digits without zeros at the end are those of their value. -/
theorem digs_val : ∀ {l : List Int}, Dig l → Top l → digs (val l).toNat = l
  | [], _, _ => digs_zero
  | d :: r, h, ht => by
    obtain ⟨h1, h2⟩ := Dig.cons.1 h
    have hv := val_nonneg h2
    have htr : Top r := by
      intro hne
      have := ht (by simp)
      rw [List.getLast_cons hne] at this
      exact this
    have ih := digs_val h2 htr
    have hpos : 0 < (val (d :: r)).toNat := by
      simp only [val]
      by_cases hr : r = []
      · subst hr
        have := ht (by simp)
        simp at this
        simp only [val]
        omega
      · have : val r ≠ 0 := by
          intro h0
          rw [h0] at ih
          exact hr (ih.symm.trans digs_zero)
        omega
    rw [digs_pos hpos]
    have e1 : ((val (d :: r)).toNat % 1000000000 : Nat) = d.toNat := by simp only [val]; omega
    have e2 : (val (d :: r)).toNat / 1000000000 = (val r).toNat := by simp only [val]; omega
    rw [e1, e2, ih]
    congr 1
    omega
theorem val_append : ∀ (l m : List Int), val (l ++ m) = val l + (1000000000 : Int) ^ l.length * val m
  | [], m => by simp [val]
  | d :: r, m => by
    rw [List.cons_append, val, val_append r m, val, List.length_cons]
    grind
theorem val_replicate : ∀ n : Nat, val (List.replicate n 0) = 0
  | 0 => rfl
  | n + 1 => by rw [List.replicate_succ, val, val_replicate n]; rfl
theorem val_lt : ∀ {l : List Int}, Dig l → val l < (1000000000 : Int) ^ l.length
  | [], _ => by simp [val]
  | d :: r, h => by
    obtain ⟨h1, h2⟩ := Dig.cons.1 h
    have := val_lt h2
    rw [val, List.length_cons, Int.pow_succ]
    grind
theorem val_set : ∀ (l : List Int) (i : Nat) (d : Int), i < l.length → val (l.set i d) = val l + (1000000000 : Int) ^ i * (d - l.getD i 0)
  | [], i, d, h => by simp at h
  | e :: r, 0, d, h => by simp [val]; omega
  | e :: r, i + 1, d, h => by
    rw [List.set_cons_succ, val, val, val_set r i d (by simpa using h)]
    simp only [List.getD_cons_succ]
    grind
theorem pow_mono {n m : Nat} (h : n ≤ m) : (1000000000 : Int) ^ n ≤ (1000000000 : Int) ^ m := by
  obtain ⟨k, rfl⟩ := Nat.exists_eq_add_of_le h
  rw [Int.pow_add]
  have h1 : (0 : Int) < (1000000000 : Int) ^ k := Int.pow_pos (by omega)
  have h2 : (0 : Int) ≤ (1000000000 : Int) ^ n := Int.pow_nonneg (by omega)
  have h3 : (1000000000 : Int) ^ n * 1 ≤ (1000000000 : Int) ^ n * (1000000000 : Int) ^ k := Int.mul_le_mul_of_nonneg_left (by omega) h2
  omega
end Go.AM

