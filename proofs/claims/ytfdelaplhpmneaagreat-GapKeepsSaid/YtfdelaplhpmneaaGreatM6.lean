/- Part 6 of the proof: a small machine, its soundness against the model, and what the program's functions compute on it. -/
import Derived.Test.YtfdelaplhpmneaaGreatM5
import Derived.Test.YtfdelaplhpmneaaGreatProg
import Derived.KernelRfl
import Derived.Test.YtfdelaplhpmneaaGreatM3
set_option linter.unusedVariables false
set_option linter.unusedSimpArgs false
set_option maxRecDepth 100000
namespace Go.AM
open Go Go.Proofs


def Qbq : C :=
 .seq (.seq (.seq (.seq (.reg [ol 25 2 4,
 ol 26 2 6,
 oo 27 (.call QcD [(.t 25), (.t 26)] false),
 ol 28 2 5,
 oo 29 (.call Qa5 [(.t 27), (.t 28)] false),
 oo 30 (.bin .lss (.t 29) (.c (.v (.int .i64 0))))] []) <|
 .keep [1, 2, 4, 5, 6, 7, 30] [[1], [2], [4], [5], [6], [7]]) <|
 .cond (.t 30) (.skip) <|
 .seq (.keep [1, 2, 4] [[1], [2], [4]]) <|
 .exit 0) <|
 .seq (.blk 1 <|
 .seq (.seq (.reg [ol 32 2 4,
 ol 33 2 5,
 oo 34 (.call QcD [(.t 32), (.t 33)] false),
 ol 35 2 7,
 oo 36 (.call QcI [(.t 34), (.t 35)] false),
 om 31 36,
 oo 37 (.ext (.t 31) 0),
 oo 38 (.ext (.t 31) 1),
 oo 8 (.new [.v (.bool false), .z true]),
 oo 9 (.new [.v (.bool false), .z true]),
 ⟨none, .store 2 (.t 8) (.t 37), none⟩,
 ⟨none, .store 2 (.t 9) (.t 38), none⟩] []) <|
 .keep [1, 2, 4, 5, 6, 7, 8] [[1], [2], [4], [5], [6], [7], [8]]) <|
 .seq (.seq (.reg [ol 39 2 8,
 ol 40 2 8,
 oo 41 (.call QaR [(.t 39), (.t 40)] false),
 ol 42 2 1,
 oo 43 (.call Qa5 [(.t 41), (.t 42)] false),
 oo 44 (.bin .leq (.t 43) (.c (.v (.int .i64 0))))] []) <|
 .keep [1, 2, 4, 5, 6, 7, 8, 44] [[1], [2], [4], [5], [6], [7], [8]]) <|
 .cond (.t 44) (.seq (.reg [ol 45 2 8,
 ⟨none, .store 2 (.t 4) (.t 45), none⟩] []) <|
 .keep [1, 2, 4, 5, 6, 7] [[1], [2], [4], [5], [6], [7]]) <|
 .seq (.reg [ol 46 2 8,
 ⟨none, .store 2 (.t 5) (.t 46), none⟩] []) <|
 .keep [1, 2, 4, 5, 6, 7] [[1], [2], [4], [5], [6], [7]]) <|
 .keep [1, 2, 4, 5, 6, 7] [[1], [2], [4], [5], [6], [7]]) <|
 .keep [1, 2, 4, 5, 6, 7] [[1], [2], [4], [5], [6], [7]]
def gantryref04_Root : CF := ⟨1, .seq (.seq (.reg [oo 1 (.box (.t 0)),
 oo 2 (.new [.v (.bool false), .z true]),
 oo 3 (.mov (.c (.v (.bool false))))] []) <|
 .keep [1, 2] [[1], [2]]) <|
 .seq (.seq (.seq (.reg [oo 10 (.fad 0 (.t 1)),
 oo 11 (.load none (.t 10))] []) <|
 .keep [1, 2, 11] [[1], [2]]) <|
 .cond (.t 11) (.seq (.seq (.reg [oo 12 (.build [.v (.bool false), .z true] []),
 ⟨none, .store 2 (.t 2) (.t 12), none⟩,
 oo 3 (.mov (.c (.v (.bool false))))] []) <|
 .keep [2, 3] [[2]]) <|
 .ret) <|
 .skip) <|
 .seq (.seq (.reg [oo 13 (.build [.v (.bool false), .z true] []),
 oo 4 (.new [.v (.bool false), .z true]),
 ⟨none, .store 2 (.t 4) (.t 13), none⟩] []) <|
 .keep [1, 2, 4] [[1], [2], [4]]) <|
 .seq (.seq (.reg [oo 14 (.fad 1 (.t 1)),
 oo 15 (.load none (.t 14)),
 oo 16 (.len (.t 15)),
 oo 17 (.bin .quo (.t 16) (.c (.v (.int .i64 2)))),
 oo 18 (.bin .add (.t 17) (.c (.v (.int .i64 1)))),
 oo 19 (.mksl 1 8 [.v (.int .i64 0)] (.t 18) (.t 18)),
 oo 20 (.lit 1 1 [.v (.int .i64 0)] [(0, (.c (.v (.int .i64 1))))] true),
 oo 21 (.app 1 8 (.t 19) (.t 20) true),
 oo 22 (.call Qam [(.c (.v (.bool false))), (.t 21)] false),
 oo 5 (.new [.v (.bool false), .z true]),
 ⟨none, .store 2 (.t 5) (.t 22), none⟩] []) <|
 .keep [1, 2, 4, 5] [[1], [2], [4], [5]]) <|
 .seq (.seq (.reg [oo 23 (.call QaM [(.c (.v (.int .i64 1)))] false),
 oo 6 (.new [.v (.bool false), .z true]),
 ⟨none, .store 2 (.t 6) (.t 23), none⟩] []) <|
 .keep [1, 2, 4, 5, 6] [[1], [2], [4], [5], [6]]) <|
 .seq (.seq (.reg [oo 24 (.call QaM [(.c (.v (.int .i64 2)))] false),
 oo 7 (.new [.v (.bool false), .z true]),
 ⟨none, .store 2 (.t 7) (.t 24), none⟩] []) <|
 .keep [1, 2, 4, 5, 6, 7] [[1], [2], [4], [5], [6], [7]]) <|
 .seq (.seq (.blk 0 <|
 .seq (.keep [1, 2, 4, 5, 6, 7] [[1], [2], [4], [5], [6], [7]]) <|
 .loop Qbq) <|
 .keep [1, 2, 4] [[1], [2], [4]]) <|
 .seq (.seq (.reg [ol 47 2 4,
 ol 48 2 4,
 ol 49 2 4,
 oo 50 (.call QaR [(.t 48), (.t 49)] false),
 ol 51 2 1,
 oo 52 (.call Qa5 [(.t 50), (.t 51)] false),
 oo 53 (.bin .eql (.t 52) (.c (.v (.int .i64 0)))),
 ⟨none, .store 2 (.t 2) (.t 47), none⟩,
 om 3 53] []) <|
 .keep [2, 3] [[2]]) <|
 .ret, [.cell 2 (some 2), .t 3]⟩

def Qba : C :=
 .seq (.seq (.seq (.seq (.reg [om 20 5,
 oo 21 (.bin .geq (.t 20) (.c (.v (.int .i64 0))))] []) <|
 .keep [1, 4, 5, 21] [[1]]) <|
 .cond (.t 21) (.skip) <|
 .seq (.keep [4] []) <|
 .exit 0) <|
 .seq (.seq (.blk 1 <|
 .seq (.seq (.reg [oo 24 (.fad 0 (.t 1)),
 oo 25 (.load none (.t 24))] []) <|
 .keep [1, 4, 5, 25] [[1]]) <|
 .cond (.t 25) (.seq (.reg [om 26 4,
 oo 27 (.bin .mul (.t 26) (.c (.v (.int .i64 1000000000)))),
 oo 28 (.fad 1 (.t 1)),
 oo 29 (.load none (.t 28)),
 om 30 5,
 oo 31 (.ixa 1 (.t 29) (.t 30)),
 oo 32 (.load none (.t 31)),
 oo 33 (.bin .sub (.t 27) (.t 32)),
 om 4 33] []) <|
 .keep [1, 4, 5] [[1]]) <|
 .seq (.reg [om 34 4,
 oo 35 (.bin .mul (.t 34) (.c (.v (.int .i64 1000000000)))),
 oo 36 (.fad 1 (.t 1)),
 oo 37 (.load none (.t 36)),
 om 38 5,
 oo 39 (.ixa 1 (.t 37) (.t 38)),
 oo 40 (.load none (.t 39)),
 oo 41 (.bin .add (.t 35) (.t 40)),
 om 4 41] []) <|
 .keep [1, 4, 5] [[1]]) <|
 .keep [1, 4, 5] [[1]]) <|
 .seq (.reg [om 22 5,
 oo 23 (.bin .sub (.t 22) (.c (.v (.int .i64 1)))),
 om 5 23] []) <|
 .keep [1, 4, 5] [[1]]) <|
 .keep [1, 4, 5] [[1]]
def gantryref04_Small : CF := ⟨1, .seq (.seq (.reg [oo 1 (.box (.t 0)),
 oo 2 (.mov (.c (.v (.int .i64 0)))),
 oo 3 (.mov (.c (.v (.bool false))))] []) <|
 .keep [1] [[1]]) <|
 .seq (.seq (.seq (.reg [ol 6 2 1,
 oo 7 (.call QaM [(.c (.v (.int .i64 9223372036854775807)))] false),
 oo 8 (.call Qa5 [(.t 6), (.t 7)] false),
 oo 9 (.bin .gtr (.t 8) (.c (.v (.int .i64 0)))),
 om 10 9,
 og 11 10 false (.load (some 2) (.t 1)),
 og 12 10 false (.call QaM [(.c (.v (.int .i64 (-9223372036854775808))))] false),
 og 13 10 false (.call Qa5 [(.t 11), (.t 12)] false),
 og 14 10 false (.bin .lss (.t 13) (.c (.v (.int .i64 0)))),
 oo 15 (.pick (.t 10) (.c (.v (.bool true))) (.t 14))] []) <|
 .keep [1, 15] [[1]]) <|
 .cond (.t 15) (.seq (.seq (.reg [oo 2 (.mov (.c (.v (.int .i64 0)))),
 oo 3 (.mov (.c (.v (.bool false))))] []) <|
 .keep [2, 3] []) <|
 .ret) <|
 .skip) <|
 .seq (.seq (.reg [oo 4 (.mov (.c (.v (.int .i64 0))))] []) <|
 .keep [1, 4] [[1]]) <|
 .seq (.seq (.seq (.reg [oo 16 (.fad 1 (.t 1)),
 oo 17 (.load none (.t 16)),
 oo 18 (.len (.t 17)),
 oo 19 (.bin .sub (.t 18) (.c (.v (.int .i64 1)))),
 om 5 19] []) <|
 .keep [1, 4, 5] [[1]]) <|
 .seq (.blk 0 <|
 .seq (.keep [1, 4, 5] [[1]]) <|
 .loop Qba) <|
 .keep [4] []) <|
 .seq (.seq (.reg [om 42 4,
 om 2 42,
 oo 3 (.mov (.c (.v (.bool true))))] []) <|
 .keep [2, 3] []) <|
 .ret, [.t 2, .t 3]⟩

def Qbi : C :=
 .seq (.seq (.seq (.seq (.reg [om 6 1,
 oo 7 (.bin .neq (.t 6) (.c (.v (.int .i64 0))))] []) <|
 .keep [0, 1, 7] []) <|
 .cond (.t 7) (.skip) <|
 .seq (.keep [0] []) <|
 .exit 0) <|
 .seq (.blk 1 <|
 .seq (.seq (.reg [om 8 0,
 om 9 1,
 oo 10 (.bin .rem (.t 8) (.t 9)),
 om 5 10] []) <|
 .keep [1, 5] []) <|
 .seq (.seq (.reg [om 11 1,
 om 0 11] []) <|
 .keep [0, 5] []) <|
 .seq (.reg [om 12 5,
 om 1 12] []) <|
 .keep [0, 1] []) <|
 .keep [0, 1] []) <|
 .keep [0, 1] []
def gantryref12_divisor : CF := ⟨2, .seq (.seq (.reg [oo 4 (.mov (.c (.v (.int .i64 0))))] []) <|
 .keep [0, 1] []) <|
 .seq (.seq (.blk 0 <|
 .seq (.keep [0, 1] []) <|
 .loop Qbi) <|
 .keep [0] []) <|
 .seq (.seq (.reg [om 13 0,
 om 4 13] []) <|
 .keep [4] []) <|
 .ret, [.t 4]⟩

def gantryref12_size : CF := ⟨1, .seq (.seq (.reg [oo 2 (.mov (.c (.v (.int .i64 0))))] []) <|
 .keep [0] []) <|
 .seq (.seq (.reg [om 3 0,
 om 4 0,
 oo 5 (.un .neg (.t 4)),
 oo 6 (.mx [(.t 3), (.t 5)]),
 om 2 6] []) <|
 .keep [2] []) <|
 .ret, [.t 2]⟩

def QbT : C :=
 .seq (.seq (.seq (.seq (.reg [om 25 8,
 oo 26 (.fad 1 (.t 3)),
 oo 27 (.load none (.t 26)),
 oo 28 (.len (.t 27)),
 oo 29 (.bin .lss (.t 25) (.t 28))] []) <|
 .keep [2, 3, 4, 5, 6, 7, 8, 29] [[2], [3], [4], [17]]) <|
 .cond (.t 29) (.skip) <|
 .seq (.keep [2, 3, 4, 5, 6, 7] [[2], [3], [4], [17]]) <|
 .exit 2) <|
 .seq (.seq (.blk 3 <|
 .seq (.seq (.reg [om 32 5,
 om 33 6,
 om 34 8,
 oo 35 (.bin .add (.t 33) (.t 34)),
 oo 36 (.ixa 1 (.t 32) (.t 35)),
 oo 37 (.load none (.t 36)),
 oo 38 (.fad 1 (.t 2)),
 oo 39 (.load none (.t 38)),
 om 40 6,
 oo 41 (.ixa 1 (.t 39) (.t 40)),
 oo 42 (.load none (.t 41)),
 oo 43 (.fad 1 (.t 3)),
 oo 44 (.load none (.t 43)),
 om 45 8,
 oo 46 (.ixa 1 (.t 44) (.t 45)),
 oo 47 (.load none (.t 46)),
 oo 48 (.bin .mul (.t 42) (.t 47)),
 oo 49 (.bin .add (.t 37) (.t 48)),
 om 50 7,
 oo 51 (.bin .add (.t 49) (.t 50)),
 om 9 51] []) <|
 .keep [2, 3, 4, 5, 6, 8, 9] [[2], [3], [4], [17]]) <|
 .seq (.seq (.reg [om 52 5,
 om 53 6,
 om 54 8,
 oo 55 (.bin .add (.t 53) (.t 54)),
 om 56 9,
 oo 57 (.bin .rem (.t 56) (.c (.v (.int .i64 1000000000)))),
 oo 58 (.ixa 1 (.t 52) (.t 55)),
 ⟨none, .store 1 (.t 58) (.t 57), none⟩] []) <|
 .keep [2, 3, 4, 5, 6, 8, 9] [[2], [3], [4], [17]]) <|
 .seq (.reg [om 59 9,
 oo 60 (.bin .quo (.t 59) (.c (.v (.int .i64 1000000000)))),
 om 7 60] []) <|
 .keep [2, 3, 4, 5, 6, 7, 8] [[2], [3], [4], [17]]) <|
 .keep [2, 3, 4, 5, 6, 7, 8] [[2], [3], [4], [17]]) <|
 .seq (.reg [om 30 8,
 oo 31 (.bin .add (.t 30) (.c (.v (.int .i64 1)))),
 om 8 31] []) <|
 .keep [2, 3, 4, 5, 6, 7, 8] [[2], [3], [4], [17]]) <|
 .keep [2, 3, 4, 5, 6, 7, 8] [[2], [3], [4], [17]]
def QbV : C :=
 .seq (.seq (.seq (.seq (.reg [om 18 6,
 oo 19 (.fad 1 (.t 2)),
 oo 20 (.load none (.t 19)),
 oo 21 (.len (.t 20)),
 oo 22 (.bin .lss (.t 18) (.t 21))] []) <|
 .keep [2, 3, 4, 5, 6, 22] [[2], [3], [4], [17]]) <|
 .cond (.t 22) (.skip) <|
 .seq (.keep [2, 3, 4, 5] [[2], [3], [4], [17]]) <|
 .exit 0) <|
 .seq (.seq (.blk 1 <|
 .seq (.seq (.reg [oo 7 (.mov (.c (.v (.int .i64 0))))] []) <|
 .keep [2, 3, 4, 5, 6, 7] [[2], [3], [4], [17]]) <|
 .seq (.seq (.seq (.reg [oo 8 (.mov (.c (.v (.int .i64 0))))] []) <|
 .keep [2, 3, 4, 5, 6, 7, 8] [[2], [3], [4], [17]]) <|
 .seq (.blk 2 <|
 .seq (.keep [2, 3, 4, 5, 6, 7, 8] [[2], [3], [4], [17]]) <|
 .loop QbT) <|
 .keep [2, 3, 4, 5, 6, 7] [[2], [3], [4], [17]]) <|
 .seq (.reg [om 61 5,
 om 62 6,
 oo 63 (.fad 1 (.t 3)),
 oo 64 (.load none (.t 63)),
 oo 65 (.len (.t 64)),
 oo 66 (.bin .add (.t 62) (.t 65)),
 om 67 7,
 oo 68 (.ixa 1 (.t 61) (.t 66)),
 ⟨none, .store 1 (.t 68) (.t 67), none⟩] []) <|
 .keep [2, 3, 4, 5, 6] [[2], [3], [4], [17]]) <|
 .keep [2, 3, 4, 5, 6] [[2], [3], [4], [17]]) <|
 .seq (.reg [om 23 6,
 oo 24 (.bin .add (.t 23) (.c (.v (.int .i64 1)))),
 om 6 24] []) <|
 .keep [2, 3, 4, 5, 6] [[2], [3], [4], [17]]) <|
 .keep [2, 3, 4, 5, 6] [[2], [3], [4], [17]]
def gantryref04_Mul : CF := ⟨2, .seq (.seq (.reg [oo 2 (.box (.t 0)),
 oo 3 (.box (.t 1)),
 oo 4 (.new [.v (.bool false), .z true])] []) <|
 .keep [2, 3, 4] [[2], [3], [4]]) <|
 .seq (.seq (.reg [oo 10 (.fad 1 (.t 2)),
 oo 11 (.load none (.t 10)),
 oo 12 (.len (.t 11)),
 oo 13 (.fad 1 (.t 3)),
 oo 14 (.load none (.t 13)),
 oo 15 (.len (.t 14)),
 oo 16 (.bin .add (.t 12) (.t 15)),
 oo 17 (.mksl 1 8 [.v (.int .i64 0)] (.t 16) (.t 16)),
 om 5 17] []) <|
 .keep [2, 3, 4, 5] [[2], [3], [4], [17]]) <|
 .seq (.seq (.seq (.reg [oo 6 (.mov (.c (.v (.int .i64 0))))] []) <|
 .keep [2, 3, 4, 5, 6] [[2], [3], [4], [17]]) <|
 .seq (.blk 0 <|
 .seq (.keep [2, 3, 4, 5, 6] [[2], [3], [4], [17]]) <|
 .loop QbV) <|
 .keep [2, 3, 4, 5] [[2], [3], [4], [17]]) <|
 .seq (.seq (.frz 5) <|
 .seq (.reg [oo 69 (.fad 0 (.t 2)),
 oo 70 (.load none (.t 69)),
 oo 71 (.fad 0 (.t 3)),
 oo 72 (.load none (.t 71)),
 oo 73 (.binb true (.t 70) (.t 72)),
 om 74 5,
 oo 75 (.call Qam [(.t 73), (.t 74)] false),
 ⟨none, .store 2 (.t 4) (.t 75), none⟩] []) <|
 .keep [4] [[4]]) <|
 .ret, [.cell 4 (some 2)]⟩

def gantryref05_Den : CF := ⟨1, .seq (.seq (.reg [oo 1 (.box (.t 0)),
 oo 2 (.new [.v (.bool false), .z true])] []) <|
 .keep [1, 2] [[1], [2]]) <|
 .seq (.seq (.seq (.reg [oo 3 (.fad 2 (.t 1)),
 oo 4 (.fad 1 (.t 3)),
 oo 5 (.load none (.t 4)),
 oo 6 (.len (.t 5)),
 oo 7 (.bin .eql (.t 6) (.c (.v (.int .i64 0))))] []) <|
 .keep [1, 2, 7] [[1], [2]]) <|
 .cond (.t 7) (.seq (.seq (.reg [oo 8 (.call QaM [(.c (.v (.int .i64 1)))] false),
 ⟨none, .store 2 (.t 2) (.t 8), none⟩] []) <|
 .keep [2] [[2]]) <|
 .ret) <|
 .skip) <|
 .seq (.seq (.reg [oo 9 (.fad 2 (.t 1)),
 ol 10 2 9,
 ⟨none, .store 2 (.t 2) (.t 10), none⟩] []) <|
 .keep [2] [[2]]) <|
 .ret, [.cell 2 (some 2)]⟩

def Qcq : C :=
 .seq (.seq (.seq (.seq (.reg [om 38 8,
 oo 39 (.bin .gtr (.t 38) (.c (.v (.int .i64 0))))] []) <|
 .keep [4, 7, 8, 39] [[4]]) <|
 .cond (.t 39) (.skip) <|
 .seq (.keep [4, 7] [[4]]) <|
 .exit 2) <|
 .seq (.blk 3 <|
 .seq (.seq (.reg [om 40 7,
 om 41 8,
 oo 42 (.bin .rem (.t 40) (.t 41)),
 om 9 42] []) <|
 .keep [4, 8, 9] [[4]]) <|
 .seq (.seq (.reg [om 43 8,
 om 7 43] []) <|
 .keep [4, 7, 9] [[4]]) <|
 .seq (.reg [om 44 9,
 om 8 44] []) <|
 .keep [4, 7, 8] [[4]]) <|
 .keep [4, 7, 8] [[4]]) <|
 .keep [4, 7, 8] [[4]]
def Qbd : C :=
 .seq (.seq (.seq (.seq (.reg [oo 18 (.fad 1 (.t 6)),
 oo 19 (.load none (.t 18)),
 oo 20 (.len (.t 19)),
 oo 21 (.bin .gtr (.t 20) (.c (.v (.int .i64 0))))] []) <|
 .keep [4, 5, 6, 21] [[4], [5], [6]]) <|
 .cond (.t 21) (.skip) <|
 .seq (.keep [4, 5] [[4], [5]]) <|
 .exit 0) <|
 .seq (.blk 1 <|
 .seq (.seq (.seq (.reg [oo 22 (.fad 1 (.t 5)),
 oo 23 (.load none (.t 22)),
 oo 24 (.len (.t 23)),
 oo 25 (.bin .leq (.t 24) (.c (.v (.int .i64 2)))),
 om 26 25,
 og 27 26 true (.fad 1 (.t 6)),
 og 28 26 true (.load none (.t 27)),
 og 29 26 true (.len (.t 28)),
 og 30 26 true (.bin .leq (.t 29) (.c (.v (.int .i64 2)))),
 oo 31 (.pick (.t 26) (.t 30) (.c (.v (.bool false))))] []) <|
 .keep [4, 5, 6, 31] [[4], [5], [6]]) <|
 .cond (.t 31) (.seq (.seq (.reg [oo 32 (.fad 1 (.t 5)),
 oo 33 (.load none (.t 32)),
 oo 34 (.call QbA [(.t 33)] false),
 om 7 34] []) <|
 .keep [4, 6, 7] [[4], [6]]) <|
 .seq (.seq (.reg [oo 35 (.fad 1 (.t 6)),
 oo 36 (.load none (.t 35)),
 oo 37 (.call QbA [(.t 36)] false),
 om 8 37] []) <|
 .keep [4, 7, 8] [[4]]) <|
 .seq (.seq (.blk 2 <|
 .seq (.keep [4, 7, 8] [[4]]) <|
 .loop Qcq) <|
 .keep [4, 7] [[4]]) <|
 .seq (.seq (.reg [om 45 7,
 oo 46 (.call QaM [(.t 45)] false),
 ⟨none, .store 2 (.t 4) (.t 46), none⟩] []) <|
 .keep [4] [[4]]) <|
 .ret) <|
 .skip) <|
 .seq (.seq (.reg [ol 48 2 5,
 ol 49 2 6,
 oo 50 (.call QcI [(.t 48), (.t 49)] false),
 om 47 50,
 oo 51 (.ext (.t 47) 0),
 oo 52 (.ext (.t 47) 1),
 oo 10 (.new [.v (.bool false), .z true]),
 oo 11 (.new [.v (.bool false), .z true]),
 ⟨none, .store 2 (.t 10) (.t 51), none⟩,
 ⟨none, .store 2 (.t 11) (.t 52), none⟩] []) <|
 .keep [4, 5, 6, 11] [[4], [5], [6], [11]]) <|
 .seq (.seq (.reg [ol 53 2 6,
 ⟨none, .store 2 (.t 5) (.t 53), none⟩] []) <|
 .keep [4, 5, 6, 11] [[4], [5], [6], [11]]) <|
 .seq (.reg [ol 54 2 11,
 ⟨none, .store 2 (.t 6) (.t 54), none⟩] []) <|
 .keep [4, 5, 6] [[4], [5], [6]]) <|
 .keep [4, 5, 6] [[4], [5], [6]]) <|
 .keep [4, 5, 6] [[4], [5], [6]]
def gantryref04_Gcd : CF := ⟨2, .seq (.seq (.reg [oo 2 (.box (.t 0)),
 oo 3 (.box (.t 1)),
 oo 4 (.new [.v (.bool false), .z true])] []) <|
 .keep [2, 3, 4] [[2], [3], [4]]) <|
 .seq (.seq (.reg [oo 12 (.fad 1 (.t 2)),
 oo 13 (.load none (.t 12)),
 oo 14 (.call Qam [(.c (.v (.bool false))), (.t 13)] false),
 oo 5 (.new [.v (.bool false), .z true]),
 ⟨none, .store 2 (.t 5) (.t 14), none⟩] []) <|
 .keep [3, 4, 5] [[3], [4], [5]]) <|
 .seq (.seq (.reg [oo 15 (.fad 1 (.t 3)),
 oo 16 (.load none (.t 15)),
 oo 17 (.call Qam [(.c (.v (.bool false))), (.t 16)] false),
 oo 6 (.new [.v (.bool false), .z true]),
 ⟨none, .store 2 (.t 6) (.t 17), none⟩] []) <|
 .keep [4, 5, 6] [[4], [5], [6]]) <|
 .seq (.seq (.blk 0 <|
 .seq (.keep [4, 5, 6] [[4], [5], [6]]) <|
 .loop Qbd) <|
 .keep [4, 5] [[4], [5]]) <|
 .seq (.seq (.reg [ol 55 2 5,
 ⟨none, .store 2 (.t 4) (.t 55), none⟩] []) <|
 .keep [4] [[4]]) <|
 .ret, [.cell 4 (some 2)]⟩

def gantryref04_Div : CF := ⟨2, .seq (.seq (.reg [oo 2 (.box (.t 0)),
 oo 3 (.box (.t 1)),
 oo 4 (.new [.v (.bool false), .z true]),
 oo 5 (.new [.v (.bool false), .z true])] []) <|
 .keep [2, 3, 4, 5] [[2], [3], [4], [5]]) <|
 .seq (.seq (.seq (.reg [oo 10 (.fad 1 (.t 3)),
 oo 11 (.load none (.t 10)),
 oo 12 (.len (.t 11)),
 oo 13 (.bin .eql (.t 12) (.c (.v (.int .i64 0))))] []) <|
 .keep [2, 3, 4, 5, 13] [[2], [3], [4], [5]]) <|
 .cond (.t 13) (.seq (.seq (.reg [oo 14 (.build [.v (.bool false), .z true] []),
 oo 15 (.build [.v (.bool false), .z true] []),
 ⟨none, .store 2 (.t 4) (.t 14), none⟩,
 ⟨none, .store 2 (.t 5) (.t 15), none⟩] []) <|
 .keep [4, 5] [[4], [5]]) <|
 .ret) <|
 .skip) <|
 .seq (.seq (.reg [oo 17 (.fad 1 (.t 2)),
 oo 18 (.load none (.t 17)),
 oo 19 (.fad 1 (.t 3)),
 oo 20 (.load none (.t 19)),
 oo 21 (.call Qes [(.t 18), (.t 20)] false),
 om 16 21,
 oo 22 (.ext (.t 16) 0),
 oo 23 (.ext (.t 16) 1),
 om 6 22,
 om 7 23] []) <|
 .keep [2, 3, 4, 5, 6, 7] [[2], [3], [4], [5]]) <|
 .seq (.seq (.reg [oo 24 (.fad 0 (.t 2)),
 oo 25 (.load none (.t 24)),
 oo 26 (.fad 0 (.t 3)),
 oo 27 (.load none (.t 26)),
 oo 28 (.binb true (.t 25) (.t 27)),
 om 29 6,
 oo 30 (.call Qam [(.t 28), (.t 29)] false),
 oo 8 (.new [.v (.bool false), .z true]),
 ⟨none, .store 2 (.t 8) (.t 30), none⟩] []) <|
 .keep [2, 3, 4, 5, 7, 8] [[2], [3], [4], [5], [8]]) <|
 .seq (.seq (.reg [om 31 7,
 oo 32 (.call Qam [(.c (.v (.bool false))), (.t 31)] false),
 oo 9 (.new [.v (.bool false), .z true]),
 ⟨none, .store 2 (.t 9) (.t 32), none⟩] []) <|
 .keep [2, 3, 4, 5, 8, 9] [[2], [3], [4], [5], [8], [9]]) <|
 .seq (.seq (.seq (.reg [oo 33 (.fad 0 (.t 2)),
 oo 34 (.load none (.t 33)),
 om 35 34,
 og 36 35 true (.fad 1 (.t 9)),
 og 37 35 true (.load none (.t 36)),
 og 38 35 true (.len (.t 37)),
 og 39 35 true (.bin .gtr (.t 38) (.c (.v (.int .i64 0)))),
 oo 40 (.pick (.t 35) (.t 39) (.c (.v (.bool false))))] []) <|
 .keep [2, 3, 4, 5, 8, 9, 40] [[2], [3], [4], [5], [8], [9]]) <|
 .cond (.t 40) (.seq (.seq (.reg [ol 41 2 8,
 oo 42 (.fad 0 (.t 2)),
 oo 43 (.load none (.t 42)),
 oo 44 (.fad 0 (.t 3)),
 oo 45 (.load none (.t 44)),
 oo 46 (.binb true (.t 43) (.t 45)),
 oo 47 (.lit 1 1 [.v (.int .i64 0)] [(0, (.c (.v (.int .i64 1))))] true),
 oo 48 (.call Qam [(.t 46), (.t 47)] false),
 oo 49 (.call QcD [(.t 41), (.t 48)] false),
 ⟨none, .store 2 (.t 8) (.t 49), none⟩] []) <|
 .keep [3, 4, 5, 8, 9] [[3], [4], [5], [8], [9]]) <|
 .seq (.reg [oo 50 (.fad 1 (.t 3)),
 oo 51 (.load none (.t 50)),
 oo 52 (.fad 1 (.t 9)),
 oo 53 (.load none (.t 52)),
 oo 54 (.call Qb7 [(.t 51), (.t 53)] false),
 oo 55 (.call Qam [(.c (.v (.bool false))), (.t 54)] false),
 ⟨none, .store 2 (.t 9) (.t 55), none⟩] []) <|
 .keep [4, 5, 8, 9] [[4], [5], [8], [9]]) <|
 .skip) <|
 .seq (.seq (.reg [ol 56 2 8,
 ol 57 2 9,
 ⟨none, .store 2 (.t 4) (.t 56), none⟩,
 ⟨none, .store 2 (.t 5) (.t 57), none⟩] [((.t 9), 2, (.t 4), 2)]) <|
 .keep [4, 5] [[4], [5]]) <|
 .ret, [.cell 4 (some 2), .cell 5 (some 2)]⟩

def gantryref04_Neg : CF := ⟨1, .seq (.seq (.reg [oo 1 (.box (.t 0)),
 oo 2 (.new [.v (.bool false), .z true])] []) <|
 .keep [1, 2] [[1], [2]]) <|
 .seq (.seq (.reg [oo 3 (.fad 0 (.t 1)),
 oo 4 (.load none (.t 3)),
 oo 5 (.un .not (.t 4)),
 oo 6 (.fad 1 (.t 1)),
 oo 7 (.load none (.t 6)),
 oo 8 (.call Qam [(.t 5), (.t 7)] false),
 ⟨none, .store 2 (.t 2) (.t 8), none⟩] []) <|
 .keep [2] [[2]]) <|
 .ret, [.cell 2 (some 2)]⟩

def gantryref05_one : CF := ⟨1, .seq (.seq (.reg [oo 1 (.box (.t 0)),
 oo 2 (.mov (.c (.v (.bool false))))] []) <|
 .keep [1] [[1]]) <|
 .seq (.seq (.seq (.reg [oo 3 (.fad 0 (.t 1)),
 oo 4 (.load none (.t 3)),
 om 5 4,
 og 6 5 false (.fad 1 (.t 1)),
 og 7 5 false (.load none (.t 6)),
 og 8 5 false (.len (.t 7)),
 og 9 5 false (.bin .neq (.t 8) (.c (.v (.int .i64 1)))),
 oo 10 (.pick (.t 5) (.c (.v (.bool true))) (.t 9))] []) <|
 .keep [1, 10] [[1]]) <|
 .cond (.t 10) (.seq (.seq (.reg [oo 2 (.mov (.c (.v (.bool false))))] []) <|
 .keep [2] []) <|
 .ret) <|
 .skip) <|
 .seq (.seq (.reg [oo 11 (.fad 1 (.t 1)),
 oo 12 (.load none (.t 11)),
 oo 13 (.ixa 1 (.t 12) (.c (.v (.int .i64 0)))),
 oo 14 (.load none (.t 13)),
 oo 15 (.bin .eql (.t 14) (.c (.v (.int .i64 1)))),
 om 2 15] []) <|
 .keep [2] []) <|
 .ret, [.t 2]⟩

def QaS : C :=
 .seq (.seq (.seq (.seq (.reg [om 8 5,
 oo 9 (.bin .gtr (.t 8) (.c (.v (.int .i64 0)))),
 om 10 9,
 og 11 10 true (.mov (.t 1)),
 og 12 10 true (.mov (.t 5)),
 og 13 10 true (.bin .sub (.t 12) (.c (.v (.int .i64 1)))),
 og 14 10 true (.mx [(.t 13), (.c (.v (.int .i64 0)))]),
 og 15 10 true (.ixa 1 (.t 11) (.t 14)),
 og 16 10 true (.load none (.t 15)),
 og 17 10 true (.bin .eql (.t 16) (.c (.v (.int .i64 0)))),
 oo 18 (.pick (.t 10) (.t 17) (.c (.v (.bool false))))] []) <|
 .keep [0, 1, 4, 5, 18] [[4]]) <|
 .cond (.t 18) (.skip) <|
 .seq (.keep [0, 1, 4, 5] [[4]]) <|
 .exit 0) <|
 .seq (.blk 1 <|
 .seq (.reg [om 19 5,
 oo 20 (.bin .sub (.t 19) (.c (.v (.int .i64 1)))),
 om 5 20] []) <|
 .keep [0, 1, 4, 5] [[4]]) <|
 .keep [0, 1, 4, 5] [[4]]) <|
 .keep [0, 1, 4, 5] [[4]]
def gantryref04_normal : CF := ⟨2, .seq (.seq (.reg [oo 4 (.new [.v (.bool false), .z true])] []) <|
 .keep [0, 1, 4] [[4]]) <|
 .seq (.seq (.reg [om 6 1,
 oo 7 (.len (.t 6)),
 om 5 7] []) <|
 .keep [0, 1, 4, 5] [[4]]) <|
 .seq (.seq (.blk 0 <|
 .seq (.keep [0, 1, 4, 5] [[4]]) <|
 .loop QaS) <|
 .keep [0, 1, 4, 5] [[4]]) <|
 .seq (.seq (.seq (.reg [om 21 5,
 oo 22 (.bin .eql (.t 21) (.c (.v (.int .i64 0))))] []) <|
 .keep [0, 1, 4, 5, 22] [[4]]) <|
 .cond (.t 22) (.seq (.seq (.reg [oo 23 (.build [.v (.bool false), .z true] []),
 ⟨none, .store 2 (.t 4) (.t 23), none⟩] []) <|
 .keep [4] [[4]]) <|
 .ret) <|
 .skip) <|
 .seq (.seq (.reg [om 24 0,
 om 25 1,
 om 26 5,
 oo 27 (.slc 1 (.t 25) none (some (.t 26)) none),
 oo 28 (.build [.v (.bool false), .z true] [(0, 1, (.t 24)), (1, 1, (.t 27))]),
 ⟨none, .store 2 (.t 4) (.t 28), none⟩] []) <|
 .keep [4] [[4]]) <|
 .ret, [.cell 4 (some 2)]⟩

def gantryref04_Sign : CF := ⟨1, .seq (.seq (.reg [oo 1 (.box (.t 0)),
 oo 2 (.mov (.c (.v (.int .i64 0))))] []) <|
 .keep [1] [[1]]) <|
 .seq (.seq (.reg [ol 3 2 1,
 oo 4 (.build [.v (.bool false), .z true] []),
 oo 5 (.call Qa5 [(.t 3), (.t 4)] false),
 om 2 5] []) <|
 .keep [2] []) <|
 .ret, [.t 2]⟩

def gantryref04_Compare : CF := ⟨2, .seq (.seq (.reg [oo 2 (.box (.t 0)),
 oo 3 (.box (.t 1)),
 oo 4 (.mov (.c (.v (.int .i64 0))))] []) <|
 .keep [2, 3] [[2], [3]]) <|
 .seq (.seq (.seq (.reg [oo 5 (.fad 0 (.t 2)),
 oo 6 (.load none (.t 5)),
 oo 7 (.fad 0 (.t 3)),
 oo 8 (.load none (.t 7)),
 oo 9 (.binb true (.t 6) (.t 8))] []) <|
 .keep [2, 3, 9] [[2], [3]]) <|
 .cond (.t 9) (.seq (.seq (.seq (.reg [oo 10 (.fad 0 (.t 2)),
 oo 11 (.load none (.t 10))] []) <|
 .keep [11] []) <|
 .cond (.t 11) (.seq (.seq (.reg [oo 4 (.mov (.c (.v (.int .i64 (-1)))))] []) <|
 .keep [4] []) <|
 .ret) <|
 .skip) <|
 .seq (.seq (.reg [oo 4 (.mov (.c (.v (.int .i64 1))))] []) <|
 .keep [4] []) <|
 .ret) <|
 .skip) <|
 .seq (.seq (.seq (.reg [oo 12 (.fad 0 (.t 2)),
 oo 13 (.load none (.t 12))] []) <|
 .keep [2, 3, 13] [[2], [3]]) <|
 .cond (.t 13) (.seq (.seq (.reg [oo 14 (.fad 1 (.t 3)),
 oo 15 (.load none (.t 14)),
 oo 16 (.fad 1 (.t 2)),
 oo 17 (.load none (.t 16)),
 oo 18 (.call Qbh [(.t 15), (.t 17)] false),
 om 4 18] []) <|
 .keep [4] []) <|
 .ret) <|
 .skip) <|
 .seq (.seq (.reg [oo 19 (.fad 1 (.t 2)),
 oo 20 (.load none (.t 19)),
 oo 21 (.fad 1 (.t 3)),
 oo 22 (.load none (.t 21)),
 oo 23 (.call Qbh [(.t 20), (.t 22)] false),
 om 4 23] []) <|
 .keep [4] []) <|
 .ret, [.t 4]⟩

def gantryref04_Add : CF := ⟨2, .seq (.seq (.reg [oo 2 (.box (.t 0)),
 oo 3 (.box (.t 1)),
 oo 4 (.new [.v (.bool false), .z true])] []) <|
 .keep [2, 3, 4] [[2], [3], [4]]) <|
 .seq (.seq (.seq (.reg [oo 5 (.fad 0 (.t 2)),
 oo 6 (.load none (.t 5)),
 oo 7 (.fad 0 (.t 3)),
 oo 8 (.load none (.t 7)),
 oo 9 (.binb false (.t 6) (.t 8))] []) <|
 .keep [2, 3, 4, 9] [[2], [3], [4]]) <|
 .cond (.t 9) (.seq (.seq (.reg [oo 10 (.fad 0 (.t 2)),
 oo 11 (.load none (.t 10)),
 oo 12 (.fad 1 (.t 2)),
 oo 13 (.load none (.t 12)),
 oo 14 (.fad 1 (.t 3)),
 oo 15 (.load none (.t 14)),
 oo 16 (.call Qe3 [(.t 13), (.t 15)] false),
 oo 17 (.call Qam [(.t 11), (.t 16)] false),
 ⟨none, .store 2 (.t 4) (.t 17), none⟩] []) <|
 .keep [4] [[4]]) <|
 .ret) <|
 .skip) <|
 .seq (.seq (.seq (.reg [oo 18 (.fad 1 (.t 2)),
 oo 19 (.load none (.t 18)),
 oo 20 (.fad 1 (.t 3)),
 oo 21 (.load none (.t 20)),
 oo 22 (.call Qbh [(.t 19), (.t 21)] false),
 oo 23 (.bin .lss (.t 22) (.c (.v (.int .i64 0))))] []) <|
 .keep [2, 3, 4, 23] [[2], [3], [4]]) <|
 .cond (.t 23) (.seq (.seq (.reg [oo 24 (.fad 0 (.t 3)),
 oo 25 (.load none (.t 24)),
 oo 26 (.fad 1 (.t 3)),
 oo 27 (.load none (.t 26)),
 oo 28 (.fad 1 (.t 2)),
 oo 29 (.load none (.t 28)),
 oo 30 (.call Qb7 [(.t 27), (.t 29)] false),
 oo 31 (.call Qam [(.t 25), (.t 30)] false),
 ⟨none, .store 2 (.t 4) (.t 31), none⟩] []) <|
 .keep [4] [[4]]) <|
 .ret) <|
 .skip) <|
 .seq (.seq (.reg [oo 32 (.fad 0 (.t 2)),
 oo 33 (.load none (.t 32)),
 oo 34 (.fad 1 (.t 2)),
 oo 35 (.load none (.t 34)),
 oo 36 (.fad 1 (.t 3)),
 oo 37 (.load none (.t 36)),
 oo 38 (.call Qb7 [(.t 35), (.t 37)] false),
 oo 39 (.call Qam [(.t 33), (.t 38)] false),
 ⟨none, .store 2 (.t 4) (.t 39), none⟩] []) <|
 .keep [4] [[4]]) <|
 .ret, [.cell 4 (some 2)]⟩

def slices_Clone_api_Poly_api_Rat : CF := ⟨1, .seq (.seq (.reg [oo 2 (.mov (.c (.z true)))] []) <|
 .keep [0] []) <|
 .seq (.seq (.seq (.reg [om 3 0,
 oo 4 (.isn false (.t 3))] []) <|
 .keep [0, 4] []) <|
 .cond (.t 4) (.seq (.seq (.reg [oo 2 (.mov (.c (.z true)))] []) <|
 .keep [2] [[5], [7]]) <|
 .ret) <|
 .skip) <|
 .seq (.seq (.reg [oo 5 (.lit 4 0 [.v (.bool false), .z true, .v (.bool false), .z true] [] false),
 om 6 0,
 oo 7 (.app 4 64 (.t 5) (.t 6) false),
 om 2 7] []) <|
 .keep [2] [[5], [7]]) <|
 .ret, [.t 2]⟩

def gantryref05_Neg : CF := ⟨1, .seq (.seq (.reg [oo 1 (.box (.t 0)),
 oo 2 (.new [.v (.bool false), .z true, .v (.bool false), .z true])] []) <|
 .keep [1, 2] [[1], [2]]) <|
 .seq (.seq (.reg [oo 3 (.fad 0 (.t 1)),
 ol 4 2 3,
 oo 5 (.call Qde [(.t 4)] false),
 oo 6 (.fad 2 (.t 1)),
 ol 7 2 6,
 oo 8 (.build [.v (.bool false), .z true, .v (.bool false), .z true] [(0, 2, (.t 5)), (2, 2, (.t 7))]),
 ⟨none, .store 4 (.t 2) (.t 8), none⟩] []) <|
 .keep [2] [[2]]) <|
 .ret, [.cell 2 (some 4)]⟩

def Qcm : C :=
 .seq (.seq (.seq (.seq (.reg [om 8 5,
 oo 9 (.bin .gtr (.t 8) (.c (.v (.int .i64 0)))),
 om 10 9,
 og 11 10 true (.mov (.t 1)),
 og 12 10 true (.mov (.t 5)),
 og 13 10 true (.bin .sub (.t 12) (.c (.v (.int .i64 1)))),
 og 14 10 true (.ixa 1 (.t 11) (.t 13)),
 og 15 10 true (.load none (.t 14)),
 og 16 10 true (.bin .eql (.t 15) (.c (.v (.int .i64 0)))),
 oo 17 (.pick (.t 10) (.t 16) (.c (.v (.bool false))))] []) <|
 .keep [0, 1, 4, 5, 17] [[4]]) <|
 .cond (.t 17) (.skip) <|
 .seq (.keep [0, 1, 4, 5] [[4]]) <|
 .exit 0) <|
 .seq (.blk 1 <|
 .seq (.reg [om 18 5,
 oo 19 (.bin .sub (.t 18) (.c (.v (.int .i64 1)))),
 om 5 19] []) <|
 .keep [0, 1, 4, 5] [[4]]) <|
 .keep [0, 1, 4, 5] [[4]]) <|
 .keep [0, 1, 4, 5] [[4]]
def integer_of : CF := ⟨2, .seq (.seq (.reg [oo 4 (.new [.v (.bool false), .z true])] []) <|
 .keep [0, 1, 4] [[4]]) <|
 .seq (.seq (.reg [om 6 1,
 oo 7 (.len (.t 6)),
 om 5 7] []) <|
 .keep [0, 1, 4, 5] [[4]]) <|
 .seq (.seq (.blk 0 <|
 .seq (.keep [0, 1, 4, 5] [[4]]) <|
 .loop Qcm) <|
 .keep [0, 1, 4, 5] [[4]]) <|
 .seq (.seq (.seq (.reg [om 20 5,
 oo 21 (.bin .eql (.t 20) (.c (.v (.int .i64 0))))] []) <|
 .keep [0, 1, 4, 5, 21] [[4]]) <|
 .cond (.t 21) (.seq (.seq (.reg [oo 22 (.build [.v (.bool false), .z true] []),
 ⟨none, .store 2 (.t 4) (.t 22), none⟩] []) <|
 .keep [4] [[4]]) <|
 .ret) <|
 .skip) <|
 .seq (.seq (.reg [om 23 0,
 om 24 1,
 om 25 5,
 om 26 5,
 oo 27 (.slc 1 (.t 24) none (some (.t 25)) (some (.t 26))),
 oo 28 (.build [.v (.bool false), .z true] [(0, 1, (.t 23)), (1, 1, (.t 27))]),
 ⟨none, .store 2 (.t 4) (.t 28), none⟩] []) <|
 .keep [4] [[4]]) <|
 .ret, [.cell 4 (some 2)]⟩

def Qbw : C :=
 .seq (.seq (.seq (.reg [oo 24 (.bin .lss (.t 23) (.t 22))] []) <|
 .keep [0, 1, 5, 6, 21, 22, 23, 24] [[20]]) <|
 .seq (.cond (.t 24) (.skip) <|
 .seq (.keep [0, 5, 6] [[20]]) <|
 .exit 0) <|
 .seq (.seq (.blk 1 <|
 .seq (.seq (.reg [om 25 23,
 oo 26 (.ixa 1 (.t 21) (.t 23)),
 oo 27 (.load none (.t 26)),
 om 7 25,
 om 8 27] []) <|
 .keep [0, 1, 5, 6, 7, 8, 21, 22, 23] [[20]]) <|
 .seq (.seq (.reg [om 28 8,
 om 29 6,
 oo 30 (.bin .add (.t 28) (.t 29)),
 om 9 30] []) <|
 .keep [0, 1, 5, 7, 9, 21, 22, 23] [[20]]) <|
 .seq (.seq (.seq (.reg [om 31 7,
 om 32 1,
 oo 33 (.len (.t 32)),
 oo 34 (.bin .lss (.t 31) (.t 33))] []) <|
 .keep [0, 1, 5, 7, 9, 21, 22, 23, 34] [[20]]) <|
 .cond (.t 34) (.seq (.reg [om 35 9,
 om 36 1,
 om 37 7,
 oo 38 (.ixa 1 (.t 36) (.t 37)),
 oo 39 (.load none (.t 38)),
 oo 40 (.bin .add (.t 35) (.t 39)),
 om 9 40] []) <|
 .keep [0, 1, 5, 7, 9, 21, 22, 23] [[20]]) <|
 .skip) <|
 .seq (.seq (.reg [oo 6 (.mov (.c (.v (.int .i64 0))))] []) <|
 .keep [0, 1, 5, 6, 7, 9, 21, 22, 23] [[20]]) <|
 .seq (.seq (.seq (.reg [om 41 9,
 oo 42 (.bin .geq (.t 41) (.c (.v (.int .i64 1000000000))))] []) <|
 .keep [0, 1, 5, 6, 7, 9, 21, 22, 23, 42] [[20]]) <|
 .cond (.t 42) (.seq (.reg [om 43 9,
 oo 44 (.bin .sub (.t 43) (.c (.v (.int .i64 1000000000)))),
 om 9 44,
 oo 6 (.mov (.c (.v (.int .i64 1))))] []) <|
 .keep [0, 1, 5, 6, 7, 9, 21, 22, 23] [[20]]) <|
 .skip) <|
 .seq (.reg [om 45 5,
 om 46 7,
 om 47 9,
 oo 48 (.ixa 1 (.t 45) (.t 46)),
 ⟨none, .store 1 (.t 48) (.t 47), none⟩] []) <|
 .keep [0, 1, 5, 6, 21, 22, 23] [[20]]) <|
 .keep [0, 1, 5, 6, 21, 22, 23] [[20]]) <|
 .seq (.reg [oo 49 (.bin .add (.t 23) (.c (.v (.int .i64 1)))),
 om 23 49] []) <|
 .keep [0, 1, 5, 6, 21, 22, 23] [[20]]) <|
 .keep [0, 1, 5, 6, 21, 22, 23] [[20]]
def integer_plus : CF := ⟨2, .seq (.seq (.reg [oo 4 (.mov (.c (.z true)))] []) <|
 .keep [0, 1] []) <|
 .seq (.seq (.seq (.reg [om 10 0,
 oo 11 (.len (.t 10)),
 om 12 1,
 oo 13 (.len (.t 12)),
 oo 14 (.bin .lss (.t 11) (.t 13))] []) <|
 .keep [0, 1, 14] []) <|
 .cond (.t 14) (.seq (.reg [om 15 1,
 om 16 0,
 om 0 15,
 om 1 16] []) <|
 .keep [0, 1] []) <|
 .skip) <|
 .seq (.seq (.reg [om 17 0,
 oo 18 (.len (.t 17)),
 oo 19 (.bin .add (.t 18) (.c (.v (.int .i64 1)))),
 oo 20 (.mksl 1 8 [.v (.int .i64 0)] (.t 19) (.t 19)),
 om 5 20] []) <|
 .keep [0, 1, 5] [[20]]) <|
 .seq (.seq (.reg [oo 6 (.mov (.c (.v (.int .i64 0))))] []) <|
 .keep [0, 1, 5, 6] [[20]]) <|
 .seq (.seq (.seq (.reg [om 21 0,
 oo 22 (.len (.t 21)),
 oo 23 (.mov (.c (.v (.int .i64 0))))] []) <|
 .keep [0, 1, 5, 6, 21, 22, 23] [[20]]) <|
 .seq (.blk 0 <|
 .seq (.keep [0, 1, 5, 6, 21, 22, 23] [[20]]) <|
 .loop Qbw) <|
 .keep [0, 5, 6] [[20]]) <|
 .seq (.seq (.reg [om 50 5,
 om 51 0,
 oo 52 (.len (.t 51)),
 om 53 6,
 oo 54 (.ixa 1 (.t 50) (.t 52)),
 ⟨none, .store 1 (.t 54) (.t 53), none⟩] []) <|
 .keep [5] [[20]]) <|
 .seq (.seq (.reg [om 55 5,
 om 4 55] []) <|
 .keep [4] [[20]]) <|
 .ret, [.t 4]⟩

def Qbg : C :=
 .seq (.seq (.seq (.seq (.reg [om 19 5,
 oo 20 (.bin .geq (.t 19) (.c (.v (.int .i64 0))))] []) <|
 .keep [0, 1, 5, 20] []) <|
 .cond (.t 20) (.skip) <|
 .seq (.keep [] []) <|
 .exit 0) <|
 .seq (.seq (.blk 1 <|
 .seq (.seq (.reg [om 23 0,
 om 24 5,
 oo 25 (.ixa 1 (.t 23) (.t 24)),
 oo 26 (.load none (.t 25)),
 om 27 1,
 om 28 5,
 oo 29 (.ixa 1 (.t 27) (.t 28)),
 oo 30 (.load none (.t 29)),
 oo 31 (.bin .neq (.t 26) (.t 30))] []) <|
 .keep [0, 1, 5, 31] []) <|
 .cond (.t 31) (.seq (.seq (.reg [om 32 0,
 om 33 5,
 oo 34 (.ixa 1 (.t 32) (.t 33)),
 oo 35 (.load none (.t 34)),
 om 36 1,
 om 37 5,
 oo 38 (.ixa 1 (.t 36) (.t 37)),
 oo 39 (.load none (.t 38)),
 oo 40 (.call QbO [(.t 35), (.t 39)] false),
 om 4 40] []) <|
 .keep [4] []) <|
 .ret) <|
 .skip) <|
 .keep [0, 1, 5] []) <|
 .seq (.reg [om 21 5,
 oo 22 (.bin .sub (.t 21) (.c (.v (.int .i64 1)))),
 om 5 22] []) <|
 .keep [0, 1, 5] []) <|
 .keep [0, 1, 5] []
def integer_compare : CF := ⟨2, .seq (.seq (.reg [oo 4 (.mov (.c (.v (.int .i64 0))))] []) <|
 .keep [0, 1] []) <|
 .seq (.seq (.seq (.reg [om 6 0,
 oo 7 (.len (.t 6)),
 om 8 1,
 oo 9 (.len (.t 8)),
 oo 10 (.bin .neq (.t 7) (.t 9))] []) <|
 .keep [0, 1, 10] []) <|
 .cond (.t 10) (.seq (.seq (.reg [om 11 0,
 oo 12 (.len (.t 11)),
 om 13 1,
 oo 14 (.len (.t 13)),
 oo 15 (.call QbO [(.t 12), (.t 14)] false),
 om 4 15] []) <|
 .keep [4] []) <|
 .ret) <|
 .skip) <|
 .seq (.seq (.seq (.reg [om 16 0,
 oo 17 (.len (.t 16)),
 oo 18 (.bin .sub (.t 17) (.c (.v (.int .i64 1)))),
 om 5 18] []) <|
 .keep [0, 1, 5] []) <|
 .seq (.blk 0 <|
 .seq (.keep [0, 1, 5] []) <|
 .loop Qbg) <|
 .keep [] []) <|
 .seq (.seq (.reg [oo 4 (.mov (.c (.v (.int .i64 0))))] []) <|
 .keep [4] []) <|
 .ret, [.t 4]⟩

def Qa6 : C :=
 .seq (.seq (.seq (.reg [oo 16 (.bin .lss (.t 15) (.t 14))] []) <|
 .keep [1, 5, 14, 15, 16] [[9]]) <|
 .seq (.cond (.t 16) (.skip) <|
 .seq (.keep [5] [[9]]) <|
 .exit 0) <|
 .seq (.seq (.blk 1 <|
 .seq (.seq (.reg [om 17 15,
 om 6 17] []) <|
 .keep [1, 5, 6, 14, 15] [[9]]) <|
 .seq (.seq (.seq (.reg [om 18 6,
 om 19 1,
 oo 20 (.len (.t 19)),
 oo 21 (.bin .lss (.t 18) (.t 20))] []) <|
 .keep [1, 5, 6, 14, 15, 21] [[9]]) <|
 .cond (.t 21) (.seq (.reg [om 22 5,
 om 23 6,
 oo 24 (.ixa 1 (.t 22) (.t 23)),
 oo 25 (.load none (.t 24)),
 om 26 1,
 om 27 6,
 oo 28 (.ixa 1 (.t 26) (.t 27)),
 oo 29 (.load none (.t 28)),
 oo 30 (.bin .sub (.t 25) (.t 29)),
 oo 31 (.ixa 1 (.t 22) (.t 23)),
 ⟨none, .store 1 (.t 31) (.t 30), none⟩] []) <|
 .keep [1, 5, 6, 14, 15] [[9]]) <|
 .skip) <|
 .seq (.seq (.reg [om 32 5,
 om 33 6,
 oo 34 (.ixa 1 (.t 32) (.t 33)),
 oo 35 (.load none (.t 34)),
 oo 36 (.bin .lss (.t 35) (.c (.v (.int .i64 0))))] []) <|
 .keep [1, 5, 6, 14, 15, 36] [[9]]) <|
 .cond (.t 36) (.seq (.seq (.reg [om 37 5,
 om 38 6,
 oo 39 (.ixa 1 (.t 37) (.t 38)),
 oo 40 (.load none (.t 39)),
 oo 41 (.bin .add (.t 40) (.c (.v (.int .i64 1000000000)))),
 oo 42 (.ixa 1 (.t 37) (.t 38)),
 ⟨none, .store 1 (.t 42) (.t 41), none⟩] []) <|
 .keep [1, 5, 6, 14, 15] [[9]]) <|
 .seq (.reg [om 43 5,
 om 44 6,
 oo 45 (.bin .add (.t 44) (.c (.v (.int .i64 1)))),
 oo 46 (.ixa 1 (.t 43) (.t 45)),
 oo 47 (.load none (.t 46)),
 oo 48 (.bin .sub (.t 47) (.c (.v (.int .i64 1)))),
 oo 49 (.ixa 1 (.t 43) (.t 45)),
 ⟨none, .store 1 (.t 49) (.t 48), none⟩] []) <|
 .keep [1, 5, 14, 15] [[9]]) <|
 .skip) <|
 .keep [1, 5, 14, 15] [[9]]) <|
 .seq (.reg [oo 50 (.bin .add (.t 15) (.c (.v (.int .i64 1)))),
 om 15 50] []) <|
 .keep [1, 5, 14, 15] [[9]]) <|
 .keep [1, 5, 14, 15] [[9]]
def integer_minus : CF := ⟨2, .seq (.seq (.reg [oo 4 (.mov (.c (.z true)))] []) <|
 .keep [0, 1] []) <|
 .seq (.seq (.reg [om 7 0,
 oo 8 (.len (.t 7)),
 oo 9 (.mksl 1 8 [.v (.int .i64 0)] (.t 8) (.t 8)),
 om 5 9] []) <|
 .keep [0, 1, 5] [[9]]) <|
 .seq (.seq (.reg [om 10 5,
 om 11 0,
 oo 12 (.cpy 1 (.t 10) (.t 11))] []) <|
 .keep [1, 5] [[9]]) <|
 .seq (.seq (.seq (.reg [om 13 5,
 oo 14 (.len (.t 13)),
 oo 15 (.mov (.c (.v (.int .i64 0))))] []) <|
 .keep [1, 5, 14, 15] [[9]]) <|
 .seq (.blk 0 <|
 .seq (.keep [1, 5, 14, 15] [[9]]) <|
 .loop Qa6) <|
 .keep [5] [[9]]) <|
 .seq (.seq (.reg [om 51 5,
 om 4 51] []) <|
 .keep [4] [[9]]) <|
 .ret, [.t 4]⟩

def rat_one : CF := ⟨0, .seq (.seq (.reg [oo 0 (.new [.v (.bool false), .z true])] []) <|
 .keep [0] [[0]]) <|
 .seq (.seq (.reg [oo 1 (.call QcJ [(.c (.v (.int .i64 1)))] false),
 ⟨none, .store 2 (.t 0) (.t 1), none⟩] []) <|
 .keep [0] [[0]]) <|
 .ret, [.cell 0 (some 2)]⟩

def Qdr : C :=
 .seq (.seq (.seq (.seq (.reg [om 39 9,
 oo 40 (.bin .gtr (.t 39) (.c (.v (.int .i64 0))))] []) <|
 .keep [4, 7, 9, 40] [[4]]) <|
 .cond (.t 40) (.skip) <|
 .seq (.keep [4, 7] [[4]]) <|
 .exit 2) <|
 .seq (.blk 3 <|
 .seq (.reg [om 41 9,
 om 42 7,
 om 43 9,
 oo 44 (.bin .rem (.t 42) (.t 43)),
 om 7 41,
 om 9 44] []) <|
 .keep [4, 7, 9] [[4]]) <|
 .keep [4, 7, 9] [[4]]) <|
 .keep [4, 7, 9] [[4]]
def QbS : C :=
 .seq (.seq (.seq (.seq (.reg [oo 19 (.fad 1 (.t 6)),
 oo 20 (.load none (.t 19)),
 oo 21 (.len (.t 20)),
 oo 22 (.bin .gtr (.t 21) (.c (.v (.int .i64 0))))] []) <|
 .keep [4, 5, 6, 22] [[4], [5], [6]]) <|
 .cond (.t 22) (.skip) <|
 .seq (.keep [4, 5] [[4], [5]]) <|
 .exit 0) <|
 .seq (.blk 1 <|
 .seq (.seq (.reg [oo 24 (.fad 1 (.t 5)),
 oo 25 (.load none (.t 24)),
 oo 26 (.call QdY [(.t 25)] false),
 om 23 26,
 oo 27 (.ext (.t 23) 0),
 oo 28 (.ext (.t 23) 1),
 om 7 27,
 om 8 28] []) <|
 .keep [4, 5, 6, 7, 8] [[4], [5], [6]]) <|
 .seq (.seq (.reg [oo 30 (.fad 1 (.t 6)),
 oo 31 (.load none (.t 30)),
 oo 32 (.call QdY [(.t 31)] false),
 om 29 32,
 oo 33 (.ext (.t 29) 0),
 oo 34 (.ext (.t 29) 1),
 om 9 33,
 om 10 34] []) <|
 .keep [4, 5, 6, 7, 8, 9, 10] [[4], [5], [6]]) <|
 .seq (.seq (.seq (.reg [om 35 8,
 om 36 35,
 og 37 36 true (.mov (.t 10)),
 oo 38 (.pick (.t 36) (.t 37) (.c (.v (.bool false))))] []) <|
 .keep [4, 5, 6, 7, 9, 38] [[4], [5], [6]]) <|
 .cond (.t 38) (.seq (.seq (.blk 2 <|
 .seq (.keep [4, 7, 9] [[4]]) <|
 .loop Qdr) <|
 .keep [4, 7] [[4]]) <|
 .seq (.seq (.reg [om 45 7,
 oo 46 (.conv (.int .u64) (.t 45)),
 oo 47 (.call Qbz [(.c (.v (.bool false))), (.t 46)] false),
 ⟨none, .store 2 (.t 4) (.t 47), none⟩] []) <|
 .keep [4] [[4]]) <|
 .ret) <|
 .skip) <|
 .seq (.seq (.reg [oo 49 (.fad 1 (.t 5)),
 oo 50 (.load none (.t 49)),
 oo 51 (.fad 1 (.t 6)),
 oo 52 (.load none (.t 51)),
 oo 53 (.call Qew [(.t 50), (.t 52)] false),
 om 48 53,
 oo 54 (.ext (.t 48) 0),
 oo 55 (.ext (.t 48) 1),
 oo 11 (.new [.v (.bool false), .z true]),
 oo 12 (.new [.v (.bool false), .z true]),
 ⟨none, .store 2 (.t 11) (.t 54), none⟩,
 ⟨none, .store 2 (.t 12) (.t 55), none⟩] []) <|
 .keep [4, 5, 6, 12] [[4], [5], [6], [12]]) <|
 .seq (.reg [ol 56 2 6,
 ol 57 2 12,
 ⟨none, .store 2 (.t 5) (.t 56), none⟩,
 ⟨none, .store 2 (.t 6) (.t 57), none⟩] [((.t 12), 2, (.t 5), 2)]) <|
 .keep [4, 5, 6] [[4], [5], [6]]) <|
 .keep [4, 5, 6] [[4], [5], [6]]) <|
 .keep [4, 5, 6] [[4], [5], [6]]
def integer_Gcd : CF := ⟨2, .seq (.seq (.reg [oo 2 (.box (.t 0)),
 oo 3 (.box (.t 1)),
 oo 4 (.new [.v (.bool false), .z true])] []) <|
 .keep [2, 3, 4] [[2], [3], [4]]) <|
 .seq (.seq (.reg [oo 13 (.fad 1 (.t 2)),
 oo 14 (.load none (.t 13)),
 oo 15 (.call Qbc [(.c (.v (.bool false))), (.t 14)] false),
 oo 16 (.fad 1 (.t 3)),
 oo 17 (.load none (.t 16)),
 oo 18 (.call Qbc [(.c (.v (.bool false))), (.t 17)] false),
 oo 5 (.new [.v (.bool false), .z true]),
 oo 6 (.new [.v (.bool false), .z true]),
 ⟨none, .store 2 (.t 5) (.t 15), none⟩,
 ⟨none, .store 2 (.t 6) (.t 18), none⟩] []) <|
 .keep [4, 5, 6] [[4], [5], [6]]) <|
 .seq (.seq (.blk 0 <|
 .seq (.keep [4, 5, 6] [[4], [5], [6]]) <|
 .loop QbS) <|
 .keep [4, 5] [[4], [5]]) <|
 .seq (.seq (.reg [ol 58 2 5,
 ⟨none, .store 2 (.t 4) (.t 58), none⟩] []) <|
 .keep [4] [[4]]) <|
 .ret, [.cell 4 (some 2)]⟩

def rat_unit : CF := ⟨1, .seq (.seq (.reg [oo 1 (.box (.t 0)),
 oo 2 (.mov (.c (.v (.bool false))))] []) <|
 .keep [1] [[1]]) <|
 .seq (.seq (.reg [oo 3 (.fad 0 (.t 1)),
 oo 4 (.load none (.t 3)),
 oo 5 (.un .not (.t 4)),
 om 6 5,
 og 7 6 true (.fad 1 (.t 1)),
 og 8 6 true (.load none (.t 7)),
 og 9 6 true (.len (.t 8)),
 og 10 6 true (.bin .eql (.t 9) (.c (.v (.int .i64 1)))),
 oo 11 (.pick (.t 6) (.t 10) (.c (.v (.bool false)))),
 om 12 11,
 og 13 12 true (.fad 1 (.t 1)),
 og 14 12 true (.load none (.t 13)),
 og 15 12 true (.ixa 1 (.t 14) (.c (.v (.int .i64 0)))),
 og 16 12 true (.load none (.t 15)),
 og 17 12 true (.bin .eql (.t 16) (.c (.v (.int .i64 1)))),
 oo 18 (.pick (.t 12) (.t 17) (.c (.v (.bool false)))),
 om 2 18] []) <|
 .keep [2] []) <|
 .ret, [.t 2]⟩

def integer_Div : CF := ⟨2, .seq (.seq (.reg [oo 2 (.box (.t 0)),
 oo 3 (.box (.t 1)),
 oo 4 (.new [.v (.bool false), .z true]),
 oo 5 (.new [.v (.bool false), .z true])] []) <|
 .keep [2, 3, 4, 5] [[2], [3], [4], [5]]) <|
 .seq (.seq (.seq (.reg [oo 8 (.fad 1 (.t 3)),
 oo 9 (.load none (.t 8)),
 oo 10 (.len (.t 9)),
 oo 11 (.bin .eql (.t 10) (.c (.v (.int .i64 0))))] []) <|
 .keep [2, 3, 4, 5, 11] [[2], [3], [4], [5]]) <|
 .cond (.t 11) (.seq (.seq (.reg [oo 12 (.build [.v (.bool false), .z true] []),
 oo 13 (.build [.v (.bool false), .z true] []),
 ⟨none, .store 2 (.t 4) (.t 12), none⟩,
 ⟨none, .store 2 (.t 5) (.t 13), none⟩] []) <|
 .keep [4, 5] [[4], [5]]) <|
 .ret) <|
 .skip) <|
 .seq (.seq (.reg [oo 15 (.fad 1 (.t 2)),
 oo 16 (.load none (.t 15)),
 oo 17 (.fad 1 (.t 3)),
 oo 18 (.load none (.t 17)),
 oo 19 (.call Qew [(.t 16), (.t 18)] false),
 om 14 19,
 oo 20 (.ext (.t 14) 0),
 oo 21 (.ext (.t 14) 1),
 oo 6 (.new [.v (.bool false), .z true]),
 oo 7 (.new [.v (.bool false), .z true]),
 ⟨none, .store 2 (.t 6) (.t 20), none⟩,
 ⟨none, .store 2 (.t 7) (.t 21), none⟩] []) <|
 .keep [2, 3, 4, 5, 6, 7] [[2], [3], [4], [5], [6], [7]]) <|
 .seq (.seq (.seq (.reg [oo 22 (.fad 0 (.t 2)),
 oo 23 (.load none (.t 22)),
 om 24 23,
 og 25 24 true (.fad 1 (.t 7)),
 og 26 24 true (.load none (.t 25)),
 og 27 24 true (.len (.t 26)),
 og 28 24 true (.bin .gtr (.t 27) (.c (.v (.int .i64 0)))),
 oo 29 (.pick (.t 24) (.t 28) (.c (.v (.bool false))))] []) <|
 .keep [2, 3, 4, 5, 6, 7, 29] [[2], [3], [4], [5], [6], [7]]) <|
 .cond (.t 29) (.seq (.seq (.reg [oo 30 (.fad 1 (.t 6)),
 oo 31 (.load none (.t 30)),
 oo 32 (.lit 1 1 [.v (.int .i64 0)] [(0, (.c (.v (.int .i64 1))))] true),
 oo 33 (.call Qdn [(.t 31), (.t 32)] false),
 oo 34 (.call Qbc [(.c (.v (.bool false))), (.t 33)] false),
 ⟨none, .store 2 (.t 6) (.t 34), none⟩] []) <|
 .keep [2, 3, 4, 5, 6, 7] [[2], [3], [4], [5], [6], [7]]) <|
 .seq (.reg [oo 35 (.fad 1 (.t 3)),
 oo 36 (.load none (.t 35)),
 oo 37 (.fad 1 (.t 7)),
 oo 38 (.load none (.t 37)),
 oo 39 (.call QdG [(.t 36), (.t 38)] false),
 oo 40 (.call Qbc [(.c (.v (.bool false))), (.t 39)] false),
 ⟨none, .store 2 (.t 7) (.t 40), none⟩] []) <|
 .keep [2, 3, 4, 5, 6, 7] [[2], [3], [4], [5], [6], [7]]) <|
 .skip) <|
 .seq (.seq (.reg [oo 41 (.fad 0 (.t 2)),
 oo 42 (.load none (.t 41)),
 oo 43 (.fad 0 (.t 3)),
 oo 44 (.load none (.t 43)),
 oo 45 (.binb true (.t 42) (.t 44)),
 om 46 45,
 og 47 46 true (.fad 1 (.t 6)),
 og 48 46 true (.load none (.t 47)),
 og 49 46 true (.len (.t 48)),
 og 50 46 true (.bin .gtr (.t 49) (.c (.v (.int .i64 0)))),
 oo 51 (.pick (.t 46) (.t 50) (.c (.v (.bool false)))),
 oo 52 (.fad 0 (.t 6)),
 ⟨none, .store 1 (.t 52) (.t 51), none⟩] []) <|
 .keep [4, 5, 6, 7] [[4], [5], [6], [7]]) <|
 .seq (.seq (.reg [ol 53 2 6,
 ol 54 2 7,
 ⟨none, .store 2 (.t 4) (.t 53), none⟩,
 ⟨none, .store 2 (.t 5) (.t 54), none⟩] [((.t 7), 2, (.t 4), 2)]) <|
 .keep [4, 5] [[4], [5]]) <|
 .ret, [.cell 4 (some 2), .cell 5 (some 2)]⟩

def integer_unsigned : CF := ⟨2, .seq (.seq (.reg [oo 4 (.new [.v (.bool false), .z true])] []) <|
 .keep [0, 1, 4] [[4]]) <|
 .seq (.seq (.blk 0 <|
 .seq (.seq (.reg [om 6 1,
 oo 7 (.bin .eql (.t 6) (.c (.v (.int .u64 0)))),
 om 5 7] []) <|
 .keep [0, 1, 4, 5] [[4]]) <|
 .cond (.t 5) (.seq (.seq (.reg [oo 8 (.build [.v (.bool false), .z true] []),
 ⟨none, .store 2 (.t 4) (.t 8), none⟩] []) <|
 .keep [4] [[4]]) <|
 .ret) <|
 .seq (.seq (.reg [om 10 1,
 oo 11 (.bin .lss (.t 10) (.c (.v (.int .u64 1000000000)))),
 om 9 11] []) <|
 .keep [0, 1, 4, 9] [[4]]) <|
 .cond (.t 9) (.seq (.seq (.reg [om 12 0,
 om 13 1,
 oo 14 (.conv (.int .i64) (.t 13)),
 oo 15 (.lit 1 1 [.v (.int .i64 0)] [(0, (.t 14))] true),
 oo 16 (.build [.v (.bool false), .z true] [(0, 1, (.t 12)), (1, 1, (.t 15))]),
 ⟨none, .store 2 (.t 4) (.t 16), none⟩] []) <|
 .keep [4] [[4]]) <|
 .ret) <|
 .seq (.seq (.reg [om 18 1,
 oo 19 (.bin .lss (.t 18) (.c (.v (.int .u64 1000000000000000000)))),
 om 17 19] []) <|
 .keep [0, 1, 4, 17] [[4]]) <|
 .cond (.t 17) (.seq (.seq (.reg [om 20 0,
 om 21 1,
 oo 22 (.bin .rem (.t 21) (.c (.v (.int .u64 1000000000)))),
 oo 23 (.conv (.int .i64) (.t 22)),
 om 24 1,
 oo 25 (.bin .quo (.t 24) (.c (.v (.int .u64 1000000000)))),
 oo 26 (.conv (.int .i64) (.t 25)),
 oo 27 (.lit 1 2 [.v (.int .i64 0)] [(0, (.t 23)), (1, (.t 26))] true),
 oo 28 (.build [.v (.bool false), .z true] [(0, 1, (.t 20)), (1, 1, (.t 27))]),
 ⟨none, .store 2 (.t 4) (.t 28), none⟩] []) <|
 .keep [4] [[4]]) <|
 .ret) <|
 .skip) <|
 .keep [0, 1, 4] [[4]]) <|
 .seq (.seq (.reg [om 29 0,
 om 30 1,
 oo 31 (.bin .rem (.t 30) (.c (.v (.int .u64 1000000000)))),
 oo 32 (.conv (.int .i64) (.t 31)),
 om 33 1,
 oo 34 (.bin .quo (.t 33) (.c (.v (.int .u64 1000000000)))),
 oo 35 (.bin .rem (.t 34) (.c (.v (.int .u64 1000000000)))),
 oo 36 (.conv (.int .i64) (.t 35)),
 om 37 1,
 oo 38 (.bin .quo (.t 37) (.c (.v (.int .u64 1000000000)))),
 oo 39 (.bin .quo (.t 38) (.c (.v (.int .u64 1000000000)))),
 oo 40 (.conv (.int .i64) (.t 39)),
 oo 41 (.lit 1 3 [.v (.int .i64 0)] [(0, (.t 32)), (1, (.t 36)), (2, (.t 40))] true),
 oo 42 (.build [.v (.bool false), .z true] [(0, 1, (.t 29)), (1, 1, (.t 41))]),
 ⟨none, .store 2 (.t 4) (.t 42), none⟩] []) <|
 .keep [4] [[4]]) <|
 .ret, [.cell 4 (some 2)]⟩

def slices_Backward_api_Poly_api_Rat_1_l0 : C :=
 .seq (.seq (.seq (.seq (.reg [om 7 3,
 oo 8 (.bin .geq (.t 7) (.c (.v (.int .i64 0))))] []) <|
 .keep [0, 1, 3, 8] []) <|
 .cond (.t 8) (.skip) <|
 .seq (.keep [] []) <|
 .exit 0) <|
 .seq (.seq (.blk 1 <|
 .seq (.seq (.reg [om 11 0,
 om 12 3,
 oo 13 (.load none (.t 1)),
 om 14 3,
 oo 15 (.ixa 4 (.t 13) (.t 14)),
 ol 16 4 15,
 oo 17 (.calv (.t 11) [(.t 12), (.t 16)]),
 oo 18 (.un .not (.t 17))] []) <|
 .keep [0, 1, 3, 18] []) <|
 .cond (.t 18) (.ret) <|
 .skip) <|
 .keep [0, 1, 3] []) <|
 .seq (.reg [om 9 3,
 oo 10 (.bin .sub (.t 9) (.c (.v (.int .i64 1)))),
 om 3 10] []) <|
 .keep [0, 1, 3] []) <|
 .keep [0, 1, 3] []
def slices_Backward_api_Poly_api_Rat_1 : CF := ⟨2, .seq (.seq (.reg [oo 4 (.load none (.t 1)),
 oo 5 (.len (.t 4)),
 oo 6 (.bin .sub (.t 5) (.c (.v (.int .i64 1)))),
 om 3 6] []) <|
 .keep [0, 1, 3] []) <|
 .seq (.blk 0 <|
 .seq (.keep [0, 1, 3] []) <|
 .loop slices_Backward_api_Poly_api_Rat_1_l0) <|
 .keep [] [], []⟩

def integer_Neg : CF := ⟨1, .seq (.seq (.reg [oo 1 (.box (.t 0)),
 oo 2 (.new [.v (.bool false), .z true])] []) <|
 .keep [1, 2] [[1], [2]]) <|
 .seq (.seq (.reg [oo 3 (.fad 0 (.t 1)),
 oo 4 (.load none (.t 3)),
 oo 5 (.un .not (.t 4)),
 om 6 5,
 og 7 6 true (.fad 1 (.t 1)),
 og 8 6 true (.load none (.t 7)),
 og 9 6 true (.len (.t 8)),
 og 10 6 true (.bin .gtr (.t 9) (.c (.v (.int .i64 0)))),
 oo 11 (.pick (.t 6) (.t 10) (.c (.v (.bool false)))),
 oo 12 (.fad 0 (.t 1)),
 ⟨none, .store 1 (.t 12) (.t 11), none⟩] []) <|
 .keep [1, 2] [[1], [2]]) <|
 .seq (.seq (.reg [ol 13 2 1,
 ⟨none, .store 2 (.t 2) (.t 13), none⟩] []) <|
 .keep [2] [[2]]) <|
 .ret, [.cell 2 (some 2)]⟩

def integer_Compare : CF := ⟨2, .seq (.seq (.reg [oo 2 (.box (.t 0)),
 oo 3 (.box (.t 1)),
 oo 4 (.mov (.c (.v (.int .i64 0))))] []) <|
 .keep [2, 3] [[2], [3]]) <|
 .seq (.seq (.blk 0 <|
 .seq (.seq (.reg [oo 6 (.fad 0 (.t 2)),
 oo 7 (.load none (.t 6)),
 oo 8 (.fad 0 (.t 3)),
 oo 9 (.load none (.t 8)),
 oo 10 (.binb true (.t 7) (.t 9)),
 om 11 10,
 og 12 11 true (.fad 0 (.t 2)),
 og 13 11 true (.load none (.t 12)),
 oo 14 (.pick (.t 11) (.t 13) (.c (.v (.bool false)))),
 om 5 14] []) <|
 .keep [2, 3, 5] [[2], [3]]) <|
 .cond (.t 5) (.seq (.seq (.reg [oo 4 (.mov (.c (.v (.int .i64 (-1)))))] []) <|
 .keep [4] []) <|
 .ret) <|
 .seq (.seq (.reg [oo 16 (.fad 0 (.t 2)),
 oo 17 (.load none (.t 16)),
 oo 18 (.fad 0 (.t 3)),
 oo 19 (.load none (.t 18)),
 oo 20 (.binb true (.t 17) (.t 19)),
 om 15 20] []) <|
 .keep [2, 3, 15] [[2], [3]]) <|
 .cond (.t 15) (.seq (.seq (.reg [oo 4 (.mov (.c (.v (.int .i64 1))))] []) <|
 .keep [4] []) <|
 .ret) <|
 .seq (.seq (.reg [oo 22 (.fad 0 (.t 2)),
 oo 23 (.load none (.t 22)),
 om 21 23] []) <|
 .keep [2, 3, 21] [[2], [3]]) <|
 .cond (.t 21) (.seq (.seq (.reg [oo 24 (.fad 1 (.t 3)),
 oo 25 (.load none (.t 24)),
 oo 26 (.fad 1 (.t 2)),
 oo 27 (.load none (.t 26)),
 oo 28 (.call QcH [(.t 25), (.t 27)] false),
 om 4 28] []) <|
 .keep [4] []) <|
 .ret) <|
 .skip) <|
 .keep [2, 3] [[2], [3]]) <|
 .seq (.seq (.reg [oo 29 (.fad 1 (.t 2)),
 oo 30 (.load none (.t 29)),
 oo 31 (.fad 1 (.t 3)),
 oo 32 (.load none (.t 31)),
 oo 33 (.call QcH [(.t 30), (.t 32)] false),
 om 4 33] []) <|
 .keep [4] []) <|
 .ret, [.t 4]⟩

def convex_dot : CF := ⟨2, .seq (.seq (.reg [oo 2 (.box (.t 0)),
 oo 3 (.box (.t 1)),
 oo 4 (.mov (.c (.v (.int .i64 0))))] []) <|
 .keep [2, 3] [[2], [3]]) <|
 .seq (.seq (.reg [oo 5 (.fad 0 (.t 2)),
 oo 6 (.load none (.t 5)),
 oo 7 (.fad 0 (.t 3)),
 oo 8 (.load none (.t 7)),
 oo 9 (.bin .mul (.t 6) (.t 8)),
 oo 10 (.fad 1 (.t 2)),
 oo 11 (.load none (.t 10)),
 oo 12 (.fad 1 (.t 3)),
 oo 13 (.load none (.t 12)),
 oo 14 (.bin .mul (.t 11) (.t 13)),
 oo 15 (.bin .add (.t 9) (.t 14)),
 om 4 15] []) <|
 .keep [4] []) <|
 .ret, [.t 4]⟩

def Qau : C :=
 .seq (.seq (.seq (.seq (.reg [om 14 6,
 om 15 0,
 oo 16 (.len (.t 15)),
 oo 17 (.bin .lss (.t 14) (.t 16))] []) <|
 .keep [0, 1, 4, 5, 6, 17] [[4], [5]]) <|
 .cond (.t 17) (.skip) <|
 .seq (.keep [4, 5] [[4], [5]]) <|
 .exit 0) <|
 .seq (.seq (.blk 1 <|
 .seq (.seq (.reg [om 20 1,
 om 21 0,
 om 22 6,
 oo 23 (.ixa 2 (.t 21) (.t 22)),
 ol 24 2 23,
 ol 25 2 5,
 oo 26 (.calv (.t 20) [(.t 24), (.t 25)]),
 oo 27 (.bin .gtr (.t 26) (.c (.v (.int .i64 0))))] []) <|
 .keep [0, 1, 4, 5, 6, 27] [[4], [5]]) <|
 .cond (.t 27) (.seq (.reg [om 28 0,
 om 29 6,
 oo 30 (.ixa 2 (.t 28) (.t 29)),
 ol 31 2 30,
 ⟨none, .store 2 (.t 5) (.t 31), none⟩] []) <|
 .keep [0, 1, 4, 5, 6] [[4], [5]]) <|
 .skip) <|
 .keep [0, 1, 4, 5, 6] [[4], [5]]) <|
 .seq (.reg [om 18 6,
 oo 19 (.bin .add (.t 18) (.c (.v (.int .i64 1)))),
 om 6 19] []) <|
 .keep [0, 1, 4, 5, 6] [[4], [5]]) <|
 .keep [0, 1, 4, 5, 6] [[4], [5]]
def slices_MaxFunc_api_Point_api_Point : CF := ⟨2, .seq (.seq (.reg [oo 4 (.new [.v (.int .i64 0), .v (.int .i64 0)])] []) <|
 .keep [0, 1, 4] [[4]]) <|
 .seq (.seq (.seq (.reg [om 7 0,
 oo 8 (.len (.t 7)),
 oo 9 (.bin .lss (.t 8) (.c (.v (.int .i64 1))))] []) <|
 .keep [0, 1, 4, 9] [[4]]) <|
 .cond (.t 9) (.cond (.c (.v (.int .i64 7))) (.skip) <|
 .skip) <|
 .skip) <|
 .seq (.seq (.reg [om 11 0,
 oo 12 (.ixa 2 (.t 11) (.c (.v (.int .i64 0)))),
 ol 13 2 12,
 oo 5 (.new [.v (.int .i64 0), .v (.int .i64 0)]),
 ⟨none, .store 2 (.t 5) (.t 13), none⟩] []) <|
 .keep [0, 1, 4, 5] [[4], [5]]) <|
 .seq (.seq (.seq (.reg [oo 6 (.mov (.c (.v (.int .i64 1))))] []) <|
 .keep [0, 1, 4, 5, 6] [[4], [5]]) <|
 .seq (.blk 0 <|
 .seq (.keep [0, 1, 4, 5, 6] [[4], [5]]) <|
 .loop Qau) <|
 .keep [4, 5] [[4], [5]]) <|
 .seq (.seq (.reg [ol 32 2 5,
 ⟨none, .store 2 (.t 4) (.t 32), none⟩] []) <|
 .keep [4] [[4]]) <|
 .ret, [.cell 4 (some 2)]⟩

def convex_Most_1 : CF := ⟨3, .seq (.seq (.reg [oo 3 (.box (.t 0)),
 oo 4 (.box (.t 1)),
 oo 5 (.mov (.c (.v (.int .i64 0))))] []) <|
 .keep [2, 3, 4] [[3], [4]]) <|
 .seq (.seq (.reg [ol 6 3 2,
 ol 7 2 3,
 oo 8 (.call Qff [(.t 6), (.t 7)] false),
 ol 9 3 2,
 ol 10 2 4,
 oo 11 (.call Qff [(.t 9), (.t 10)] false),
 oo 12 (.call QbO [(.t 8), (.t 11)] false),
 om 5 12] []) <|
 .keep [5] []) <|
 .ret, [.t 5]⟩

def Qda : C :=
 .seq (.seq (.blk 1 <|
 .seq (.seq (.reg [ol 31 2 1,
 ol 32 2 4,
 oo 33 (.call QdQ [(.t 31), (.t 32)] false),
 om 30 33,
 oo 34 (.ext (.t 30) 0),
 oo 35 (.ext (.t 30) 1),
 oo 5 (.new [.v (.bool false), .z true]),
 oo 6 (.new [.v (.bool false), .z true]),
 ⟨none, .store 2 (.t 5) (.t 34), none⟩,
 ⟨none, .store 2 (.t 6) (.t 35), none⟩] []) <|
 .keep [1, 2, 4, 5] [[1], [2], [4], [5]]) <|
 .seq (.seq (.reg [ol 37 2 4,
 ol 38 2 5,
 oo 39 (.call QeD [(.t 37), (.t 38)] false),
 oo 40 (.call QcJ [(.c (.v (.int .i64 2)))] false),
 oo 41 (.call QdQ [(.t 39), (.t 40)] false),
 om 36 41,
 oo 42 (.ext (.t 36) 0),
 oo 43 (.ext (.t 36) 1),
 oo 7 (.new [.v (.bool false), .z true]),
 oo 8 (.new [.v (.bool false), .z true]),
 ⟨none, .store 2 (.t 7) (.t 42), none⟩,
 ⟨none, .store 2 (.t 8) (.t 43), none⟩] []) <|
 .keep [1, 2, 4, 7] [[1], [2], [4], [7]]) <|
 .seq (.seq (.seq (.reg [ol 44 2 7,
 ol 45 2 4,
 oo 46 (.call QcC [(.t 44), (.t 45)] false),
 oo 47 (.bin .geq (.t 46) (.c (.v (.int .i64 0))))] []) <|
 .keep [1, 2, 4, 7, 47] [[1], [2], [4], [7]]) <|
 .cond (.t 47) (.seq (.keep [1, 2, 4] [[1], [2], [4]]) <|
 .exit 0) <|
 .skip) <|
 .seq (.reg [ol 48 2 7,
 ⟨none, .store 2 (.t 4) (.t 48), none⟩] []) <|
 .keep [1, 2, 4] [[1], [2], [4]]) <|
 .keep [1, 2, 4] [[1], [2], [4]]) <|
 .keep [1, 2, 4] [[1], [2], [4]]
def integer_Root : CF := ⟨1, .seq (.seq (.reg [oo 1 (.box (.t 0)),
 oo 2 (.new [.v (.bool false), .z true]),
 oo 3 (.mov (.c (.v (.bool false))))] []) <|
 .keep [1, 2] [[1], [2]]) <|
 .seq (.seq (.seq (.reg [oo 9 (.fad 0 (.t 1)),
 oo 10 (.load none (.t 9)),
 om 11 10,
 og 12 11 false (.fad 1 (.t 1)),
 og 13 11 false (.load none (.t 12)),
 og 14 11 false (.len (.t 13)),
 og 15 11 false (.bin .eql (.t 14) (.c (.v (.int .i64 0)))),
 oo 16 (.pick (.t 11) (.c (.v (.bool true))) (.t 15))] []) <|
 .keep [1, 2, 16] [[1], [2]]) <|
 .cond (.t 16) (.seq (.seq (.reg [oo 17 (.build [.v (.bool false), .z true] []),
 oo 18 (.fad 0 (.t 1)),
 oo 19 (.load none (.t 18)),
 oo 20 (.un .not (.t 19)),
 ⟨none, .store 2 (.t 2) (.t 17), none⟩,
 om 3 20] [((.t 18), 1, (.t 2), 2)]) <|
 .keep [2, 3] [[2]]) <|
 .ret) <|
 .skip) <|
 .seq (.seq (.reg [oo 21 (.fad 1 (.t 1)),
 oo 22 (.load none (.t 21)),
 oo 23 (.len (.t 22)),
 oo 24 (.bin .add (.t 23) (.c (.v (.int .i64 1)))),
 oo 25 (.bin .quo (.t 24) (.c (.v (.int .i64 2)))),
 oo 26 (.mksl 1 8 [.v (.int .i64 0)] (.t 25) (.t 25)),
 oo 27 (.lit 1 1 [.v (.int .i64 0)] [(0, (.c (.v (.int .i64 1))))] true),
 oo 28 (.app 1 8 (.t 26) (.t 27) true),
 oo 29 (.call Qbc [(.c (.v (.bool false))), (.t 28)] false),
 oo 4 (.new [.v (.bool false), .z true]),
 ⟨none, .store 2 (.t 4) (.t 29), none⟩] []) <|
 .keep [1, 2, 4] [[1], [2], [4]]) <|
 .seq (.seq (.blk 0 <|
 .seq (.keep [1, 2, 4] [[1], [2], [4]]) <|
 .loop Qda) <|
 .keep [1, 2, 4] [[1], [2], [4]]) <|
 .seq (.seq (.reg [ol 49 2 4,
 ol 50 2 4,
 ol 51 2 4,
 oo 52 (.call Qbx [(.t 50), (.t 51)] false),
 ol 53 2 1,
 oo 54 (.call QcC [(.t 52), (.t 53)] false),
 oo 55 (.bin .eql (.t 54) (.c (.v (.int .i64 0)))),
 ⟨none, .store 2 (.t 2) (.t 49), none⟩,
 om 3 55] []) <|
 .keep [2, 3] [[2]]) <|
 .ret, [.cell 2 (some 2), .t 3]⟩

def Qch : C :=
 .seq (.seq (.seq (.seq (.reg [om 27 5,
 oo 28 (.bin .geq (.t 27) (.c (.v (.int .i64 0))))] []) <|
 .keep [1, 4, 5, 28] [[1]]) <|
 .cond (.t 28) (.skip) <|
 .seq (.keep [1, 4] [[1]]) <|
 .exit 0) <|
 .seq (.seq (.blk 1 <|
 .seq (.reg [om 31 4,
 oo 32 (.bin .mul (.t 31) (.c (.v (.int .u64 1000000000)))),
 oo 33 (.fad 1 (.t 1)),
 oo 34 (.load none (.t 33)),
 om 35 5,
 oo 36 (.ixa 1 (.t 34) (.t 35)),
 oo 37 (.load none (.t 36)),
 oo 38 (.conv (.int .u64) (.t 37)),
 oo 39 (.bin .add (.t 32) (.t 38)),
 om 4 39] []) <|
 .keep [1, 4, 5] [[1]]) <|
 .keep [1, 4, 5] [[1]]) <|
 .seq (.reg [om 29 5,
 oo 30 (.bin .sub (.t 29) (.c (.v (.int .i64 1)))),
 om 5 30] []) <|
 .keep [1, 4, 5] [[1]]) <|
 .keep [1, 4, 5] [[1]]
def integer_Small : CF := ⟨1, .seq (.seq (.reg [oo 1 (.box (.t 0)),
 oo 2 (.mov (.c (.v (.int .i64 0)))),
 oo 3 (.mov (.c (.v (.bool false))))] []) <|
 .keep [1] [[1]]) <|
 .seq (.seq (.seq (.reg [oo 6 (.fad 1 (.t 1)),
 oo 7 (.load none (.t 6)),
 oo 8 (.len (.t 7)),
 oo 9 (.bin .gtr (.t 8) (.c (.v (.int .i64 3)))),
 om 10 9,
 og 11 10 false (.fad 1 (.t 1)),
 og 12 10 false (.load none (.t 11)),
 og 13 10 false (.len (.t 12)),
 og 14 10 false (.bin .eql (.t 13) (.c (.v (.int .i64 3)))),
 og 15 10 false (.mov (.t 14)),
 og 16 15 true (.fad 1 (.t 1)),
 og 17 15 true (.load none (.t 16)),
 og 18 15 true (.ixa 1 (.t 17) (.c (.v (.int .i64 2)))),
 og 19 15 true (.load none (.t 18)),
 og 20 15 true (.bin .gtr (.t 19) (.c (.v (.int .i64 9)))),
 og 21 10 false (.pick (.t 15) (.t 20) (.c (.v (.bool false)))),
 oo 22 (.pick (.t 10) (.c (.v (.bool true))) (.t 21))] []) <|
 .keep [1, 22] [[1]]) <|
 .cond (.t 22) (.seq (.seq (.reg [oo 2 (.mov (.c (.v (.int .i64 0)))),
 oo 3 (.mov (.c (.v (.bool false))))] []) <|
 .keep [2, 3] []) <|
 .ret) <|
 .skip) <|
 .seq (.seq (.reg [oo 4 (.mov (.c (.v (.int .u64 0))))] []) <|
 .keep [1, 4] [[1]]) <|
 .seq (.seq (.seq (.reg [oo 23 (.fad 1 (.t 1)),
 oo 24 (.load none (.t 23)),
 oo 25 (.len (.t 24)),
 oo 26 (.bin .sub (.t 25) (.c (.v (.int .i64 1)))),
 om 5 26] []) <|
 .keep [1, 4, 5] [[1]]) <|
 .seq (.blk 0 <|
 .seq (.keep [1, 4, 5] [[1]]) <|
 .loop Qch) <|
 .keep [1, 4] [[1]]) <|
 .seq (.seq (.blk 2 <|
 .seq (.seq (.reg [oo 41 (.fad 0 (.t 1)),
 oo 42 (.load none (.t 41)),
 om 43 42,
 og 44 43 true (.mov (.t 4)),
 og 45 43 true (.bin .leq (.t 44) (.c (.v (.int .u64 9223372036854775808)))),
 oo 46 (.pick (.t 43) (.t 45) (.c (.v (.bool false)))),
 om 40 46] []) <|
 .keep [1, 4, 40] [[1]]) <|
 .cond (.t 40) (.seq (.seq (.reg [om 47 4,
 oo 48 (.un .neg (.t 47)),
 oo 49 (.conv (.int .i64) (.t 48)),
 om 2 49,
 oo 3 (.mov (.c (.v (.bool true))))] []) <|
 .keep [2, 3] []) <|
 .ret) <|
 .seq (.seq (.reg [oo 51 (.fad 0 (.t 1)),
 oo 52 (.load none (.t 51)),
 oo 53 (.un .not (.t 52)),
 om 54 53,
 og 55 54 true (.mov (.t 4)),
 og 56 54 true (.bin .lss (.t 55) (.c (.v (.int .u64 9223372036854775808)))),
 oo 57 (.pick (.t 54) (.t 56) (.c (.v (.bool false)))),
 om 50 57] []) <|
 .keep [4, 50] []) <|
 .cond (.t 50) (.seq (.seq (.reg [om 58 4,
 oo 59 (.conv (.int .i64) (.t 58)),
 om 2 59,
 oo 3 (.mov (.c (.v (.bool true))))] []) <|
 .keep [2, 3] []) <|
 .ret) <|
 .skip) <|
 .keep [] []) <|
 .seq (.seq (.reg [oo 2 (.mov (.c (.v (.int .i64 0)))),
 oo 3 (.mov (.c (.v (.bool false))))] []) <|
 .keep [2, 3] []) <|
 .ret, [.t 2, .t 3]⟩

def Qdh : C :=
 .seq (.seq (.seq (.seq (.reg [om 5 1,
 oo 6 (.bin .neq (.t 5) (.c (.v (.int .i64 0))))] []) <|
 .keep [0, 1, 6] []) <|
 .cond (.t 6) (.skip) <|
 .seq (.keep [0] []) <|
 .exit 0) <|
 .seq (.blk 1 <|
 .seq (.reg [om 7 1,
 om 8 0,
 om 9 1,
 oo 10 (.bin .rem (.t 8) (.t 9)),
 om 0 7,
 om 1 10] []) <|
 .keep [0, 1] []) <|
 .keep [0, 1] []) <|
 .keep [0, 1] []
def convex_gcd : CF := ⟨2, .seq (.seq (.reg [oo 4 (.mov (.c (.v (.int .i64 0))))] []) <|
 .keep [0, 1] []) <|
 .seq (.seq (.blk 0 <|
 .seq (.keep [0, 1] []) <|
 .loop Qdh) <|
 .keep [0] []) <|
 .seq (.seq (.reg [om 11 0,
 om 12 0,
 oo 13 (.un .neg (.t 12)),
 oo 14 (.mx [(.t 11), (.t 13)]),
 om 4 14] []) <|
 .keep [4] []) <|
 .ret, [.t 4]⟩

def cmp_isNaN_int : CF := ⟨1, .seq (.seq (.reg [oo 2 (.mov (.c (.v (.bool false))))] []) <|
 .keep [0] []) <|
 .seq (.seq (.reg [om 3 0,
 om 4 0,
 oo 5 (.bin .neq (.t 3) (.t 4)),
 om 2 5] []) <|
 .keep [2] []) <|
 .ret, [.t 2]⟩

def gantryref04_tiny : CF := ⟨1, .seq (.seq (.reg [oo 2 (.mov (.c (.v (.int .i64 0))))] []) <|
 .keep [0] []) <|
 .seq (.seq (.reg [om 3 0,
 oo 4 (.call QbL [(.t 3), (.c (.v (.int .i64 1)))] false),
 oo 5 (.bin .mul (.t 4) (.c (.v (.int .i64 1000000000)))),
 om 6 0,
 oo 7 (.call QbL [(.t 6), (.c (.v (.int .i64 0)))] false),
 oo 8 (.bin .add (.t 5) (.t 7)),
 om 2 8] []) <|
 .keep [2] []) <|
 .ret, [.t 2]⟩

def Qbj : C :=
 .seq (.seq (.seq (.seq (.reg [om 64 12,
 om 65 13,
 oo 66 (.bin .lss (.t 64) (.t 65))] []) <|
 .keep [0, 1, 8, 9, 10, 12, 13, 66] [[42]]) <|
 .cond (.t 66) (.skip) <|
 .seq (.keep [0, 1, 8, 9, 10, 12] [[42]]) <|
 .exit 2) <|
 .seq (.blk 3 <|
 .seq (.seq (.reg [om 67 12,
 om 68 13,
 oo 69 (.bin .add (.t 67) (.t 68)),
 oo 70 (.bin .add (.t 69) (.c (.v (.int .i64 1)))),
 oo 71 (.bin .quo (.t 70) (.c (.v (.int .i64 2)))),
 om 14 71] []) <|
 .keep [0, 1, 8, 9, 10, 12, 13, 14] [[42]]) <|
 .seq (.seq (.reg [om 72 1,
 om 73 14,
 oo 74 (.call Qdw [(.t 72), (.t 73)] false),
 om 75 9,
 oo 76 (.call Qbh [(.t 74), (.t 75)] false),
 oo 77 (.bin .leq (.t 76) (.c (.v (.int .i64 0))))] []) <|
 .keep [0, 1, 8, 9, 10, 12, 13, 14, 77] [[42]]) <|
 .cond (.t 77) (.seq (.reg [om 78 14,
 om 12 78] []) <|
 .keep [0, 1, 8, 9, 10, 12, 13] [[42]]) <|
 .seq (.reg [om 79 14,
 oo 80 (.bin .sub (.t 79) (.c (.v (.int .i64 1)))),
 om 13 80] []) <|
 .keep [0, 1, 8, 9, 10, 12, 13] [[42]]) <|
 .keep [0, 1, 8, 9, 10, 12, 13] [[42]]) <|
 .keep [0, 1, 8, 9, 10, 12, 13] [[42]]
def Qa1 : C :=
 .seq (.seq (.seq (.seq (.reg [om 46 10,
 oo 47 (.bin .geq (.t 46) (.c (.v (.int .i64 0))))] []) <|
 .keep [0, 1, 8, 9, 10, 47] [[42]]) <|
 .cond (.t 47) (.skip) <|
 .seq (.keep [8, 9] [[42]]) <|
 .exit 0) <|
 .seq (.seq (.blk 1 <|
 .seq (.seq (.reg [om 50 0,
 om 51 10,
 oo 52 (.ixa 1 (.t 50) (.t 51)),
 oo 53 (.load none (.t 52)),
 oo 54 (.lit 1 1 [.v (.int .i64 0)] [(0, (.t 53))] false),
 om 55 9,
 oo 56 (.app 1 8 (.t 54) (.t 55) true),
 oo 57 (.call Qam [(.c (.v (.bool false))), (.t 56)] false),
 oo 11 (.new [.v (.bool false), .z true]),
 ⟨none, .store 2 (.t 11) (.t 57), none⟩] []) <|
 .keep [0, 1, 8, 10, 11] [[11], [42]]) <|
 .seq (.seq (.reg [oo 58 (.fad 1 (.t 11)),
 oo 59 (.load none (.t 58)),
 om 9 59] []) <|
 .keep [0, 1, 8, 9, 10] [[42]]) <|
 .seq (.seq (.reg [oo 12 (.mov (.c (.v (.int .i64 0))))] []) <|
 .keep [0, 1, 8, 9, 10, 12] [[42]]) <|
 .seq (.seq (.reg [oo 13 (.mov (.c (.v (.int .i64 999999999))))] []) <|
 .keep [0, 1, 8, 9, 10, 12, 13] [[42]]) <|
 .seq (.seq (.seq (.reg [om 60 9,
 om 61 1,
 oo 62 (.call Qbh [(.t 60), (.t 61)] false),
 oo 63 (.bin .lss (.t 62) (.c (.v (.int .i64 0))))] []) <|
 .keep [0, 1, 8, 9, 10, 12, 13, 63] [[42]]) <|
 .cond (.t 63) (.seq (.reg [oo 13 (.mov (.c (.v (.int .i64 0))))] []) <|
 .keep [0, 1, 8, 9, 10, 12, 13] [[42]]) <|
 .skip) <|
 .seq (.seq (.blk 2 <|
 .seq (.keep [0, 1, 8, 9, 10, 12, 13] [[42]]) <|
 .loop Qbj) <|
 .keep [0, 1, 8, 9, 10, 12] [[42]]) <|
 .seq (.seq (.reg [om 81 9,
 om 82 1,
 om 83 12,
 oo 84 (.call Qdw [(.t 82), (.t 83)] false),
 oo 85 (.call Qb7 [(.t 81), (.t 84)] false),
 oo 86 (.call Qam [(.c (.v (.bool false))), (.t 85)] false),
 oo 15 (.new [.v (.bool false), .z true]),
 ⟨none, .store 2 (.t 15) (.t 86), none⟩] []) <|
 .keep [0, 1, 8, 10, 12, 15] [[15], [42]]) <|
 .seq (.seq (.reg [om 87 8,
 om 88 10,
 om 89 12,
 oo 90 (.ixa 1 (.t 87) (.t 88)),
 ⟨none, .store 1 (.t 90) (.t 89), none⟩] []) <|
 .keep [0, 1, 8, 10, 15] [[15], [42]]) <|
 .seq (.reg [oo 91 (.fad 1 (.t 15)),
 oo 92 (.load none (.t 91)),
 om 9 92] []) <|
 .keep [0, 1, 8, 9, 10] [[42]]) <|
 .keep [0, 1, 8, 9, 10] [[42]]) <|
 .seq (.reg [om 48 10,
 oo 49 (.bin .sub (.t 48) (.c (.v (.int .i64 1)))),
 om 10 49] []) <|
 .keep [0, 1, 8, 9, 10] [[42]]) <|
 .keep [0, 1, 8, 9, 10] [[42]]
def gantryref04_divided : CF := ⟨2, .seq (.seq (.reg [oo 4 (.mov (.c (.z true))),
 oo 5 (.mov (.c (.z true)))] []) <|
 .keep [0, 1] []) <|
 .seq (.seq (.seq (.reg [om 16 0,
 oo 17 (.len (.t 16)),
 oo 18 (.bin .leq (.t 17) (.c (.v (.int .i64 2)))),
 om 19 18,
 og 20 19 true (.mov (.t 1)),
 og 21 19 true (.len (.t 20)),
 og 22 19 true (.bin .leq (.t 21) (.c (.v (.int .i64 2)))),
 oo 23 (.pick (.t 19) (.t 22) (.c (.v (.bool false))))] []) <|
 .keep [0, 1, 23] []) <|
 .cond (.t 23) (.seq (.seq (.reg [om 24 0,
 oo 25 (.call QbA [(.t 24)] false),
 om 26 1,
 oo 27 (.call QbA [(.t 26)] false),
 oo 28 (.bin .quo (.t 25) (.t 27)),
 oo 29 (.call QaM [(.t 28)] false),
 oo 6 (.new [.v (.bool false), .z true]),
 ⟨none, .store 2 (.t 6) (.t 29), none⟩] []) <|
 .keep [0, 1, 6] [[6]]) <|
 .seq (.seq (.reg [om 30 0,
 oo 31 (.call QbA [(.t 30)] false),
 om 32 1,
 oo 33 (.call QbA [(.t 32)] false),
 oo 34 (.bin .rem (.t 31) (.t 33)),
 oo 35 (.call QaM [(.t 34)] false),
 oo 7 (.new [.v (.bool false), .z true]),
 ⟨none, .store 2 (.t 7) (.t 35), none⟩] []) <|
 .keep [6, 7] [[6], [7]]) <|
 .seq (.seq (.reg [oo 36 (.fad 1 (.t 6)),
 oo 37 (.load none (.t 36)),
 oo 38 (.fad 1 (.t 7)),
 oo 39 (.load none (.t 38)),
 om 4 37,
 om 5 39] []) <|
 .keep [4, 5] [[42]]) <|
 .ret) <|
 .skip) <|
 .seq (.seq (.reg [om 40 0,
 oo 41 (.len (.t 40)),
 oo 42 (.mksl 1 8 [.v (.int .i64 0)] (.t 41) (.t 41)),
 om 8 42] []) <|
 .keep [0, 1, 8] [[42]]) <|
 .seq (.seq (.reg [oo 9 (.mov (.c (.z true)))] []) <|
 .keep [0, 1, 8, 9] [[42]]) <|
 .seq (.seq (.seq (.reg [om 43 0,
 oo 44 (.len (.t 43)),
 oo 45 (.bin .sub (.t 44) (.c (.v (.int .i64 1)))),
 om 10 45] []) <|
 .keep [0, 1, 8, 9, 10] [[42]]) <|
 .seq (.blk 0 <|
 .seq (.keep [0, 1, 8, 9, 10] [[42]]) <|
 .loop Qa1) <|
 .keep [8, 9] [[42]]) <|
 .seq (.seq (.reg [om 93 8,
 om 94 9,
 om 4 93,
 om 5 94] []) <|
 .keep [4, 5] [[42]]) <|
 .ret, [.t 4, .t 5]⟩

def QaK : C :=
 .seq (.seq (.seq (.seq (.reg [om 9 7,
 om 10 0,
 oo 11 (.len (.t 10)),
 oo 12 (.bin .lss (.t 9) (.t 11))] []) <|
 .keep [0, 1, 5, 6, 7, 12] [[32]]) <|
 .cond (.t 12) (.skip) <|
 .seq (.keep [5] [[32]]) <|
 .exit 0) <|
 .seq (.seq (.blk 1 <|
 .seq (.seq (.reg [om 15 0,
 om 16 7,
 oo 17 (.ixa 1 (.t 15) (.t 16)),
 oo 18 (.load none (.t 17)),
 om 19 1,
 om 20 7,
 oo 21 (.call QbL [(.t 19), (.t 20)] false),
 oo 22 (.bin .sub (.t 18) (.t 21)),
 om 23 6,
 oo 24 (.bin .sub (.t 22) (.t 23)),
 om 8 24] []) <|
 .keep [0, 1, 5, 7, 8] [[32]]) <|
 .seq (.seq (.reg [oo 6 (.mov (.c (.v (.int .i64 0))))] []) <|
 .keep [0, 1, 5, 6, 7, 8] [[32]]) <|
 .seq (.seq (.seq (.reg [om 25 8,
 oo 26 (.bin .lss (.t 25) (.c (.v (.int .i64 0))))] []) <|
 .keep [0, 1, 5, 6, 7, 8, 26] [[32]]) <|
 .cond (.t 26) (.seq (.seq (.reg [om 27 8,
 oo 28 (.bin .add (.t 27) (.c (.v (.int .i64 1000000000)))),
 om 8 28] []) <|
 .keep [0, 1, 5, 7, 8] [[32]]) <|
 .seq (.reg [oo 6 (.mov (.c (.v (.int .i64 1))))] []) <|
 .keep [0, 1, 5, 6, 7, 8] [[32]]) <|
 .skip) <|
 .seq (.reg [om 29 5,
 om 30 8,
 oo 31 (.lit 1 1 [.v (.int .i64 0)] [(0, (.t 30))] true),
 oo 32 (.app 1 8 (.t 29) (.t 31) false),
 om 5 32] []) <|
 .keep [0, 1, 5, 6, 7] [[32]]) <|
 .keep [0, 1, 5, 6, 7] [[32]]) <|
 .seq (.reg [om 13 7,
 oo 14 (.bin .add (.t 13) (.c (.v (.int .i64 1)))),
 om 7 14] []) <|
 .keep [0, 1, 5, 6, 7] [[32]]) <|
 .keep [0, 1, 5, 6, 7] [[32]]
def gantryref04_minus : CF := ⟨2, .seq (.seq (.reg [oo 4 (.mov (.c (.z true)))] []) <|
 .keep [0, 1] []) <|
 .seq (.seq (.reg [oo 5 (.mov (.c (.z true)))] []) <|
 .keep [0, 1, 5] [[32]]) <|
 .seq (.seq (.reg [oo 6 (.mov (.c (.v (.int .i64 0))))] []) <|
 .keep [0, 1, 5, 6] [[32]]) <|
 .seq (.seq (.seq (.reg [oo 7 (.mov (.c (.v (.int .i64 0))))] []) <|
 .keep [0, 1, 5, 6, 7] [[32]]) <|
 .seq (.blk 0 <|
 .seq (.keep [0, 1, 5, 6, 7] [[32]]) <|
 .loop QaK) <|
 .keep [5] [[32]]) <|
 .seq (.seq (.reg [om 33 5,
 om 4 33] []) <|
 .keep [4] [[32]]) <|
 .ret, [.t 4]⟩

def QaA : C :=
 .seq (.seq (.seq (.seq (.reg [om 19 5,
 oo 20 (.bin .geq (.t 19) (.c (.v (.int .i64 0))))] []) <|
 .keep [0, 1, 5, 20] []) <|
 .cond (.t 20) (.skip) <|
 .seq (.keep [] []) <|
 .exit 0) <|
 .seq (.seq (.blk 1 <|
 .seq (.seq (.seq (.reg [om 23 0,
 om 24 5,
 oo 25 (.ixa 1 (.t 23) (.t 24)),
 oo 26 (.load none (.t 25)),
 om 27 1,
 om 28 5,
 oo 29 (.ixa 1 (.t 27) (.t 28)),
 oo 30 (.load none (.t 29)),
 oo 31 (.bin .lss (.t 26) (.t 30))] []) <|
 .keep [0, 1, 5, 31] []) <|
 .cond (.t 31) (.seq (.seq (.reg [oo 4 (.mov (.c (.v (.int .i64 (-1)))))] []) <|
 .keep [4] []) <|
 .ret) <|
 .skip) <|
 .seq (.seq (.reg [om 32 0,
 om 33 5,
 oo 34 (.ixa 1 (.t 32) (.t 33)),
 oo 35 (.load none (.t 34)),
 om 36 1,
 om 37 5,
 oo 38 (.ixa 1 (.t 36) (.t 37)),
 oo 39 (.load none (.t 38)),
 oo 40 (.bin .gtr (.t 35) (.t 39))] []) <|
 .keep [0, 1, 5, 40] []) <|
 .cond (.t 40) (.seq (.seq (.reg [oo 4 (.mov (.c (.v (.int .i64 1))))] []) <|
 .keep [4] []) <|
 .ret) <|
 .skip) <|
 .keep [0, 1, 5] []) <|
 .seq (.reg [om 21 5,
 oo 22 (.bin .sub (.t 21) (.c (.v (.int .i64 1)))),
 om 5 22] []) <|
 .keep [0, 1, 5] []) <|
 .keep [0, 1, 5] []
def gantryref04_compared : CF := ⟨2, .seq (.seq (.reg [oo 4 (.mov (.c (.v (.int .i64 0))))] []) <|
 .keep [0, 1] []) <|
 .seq (.seq (.seq (.reg [om 6 0,
 oo 7 (.len (.t 6)),
 om 8 1,
 oo 9 (.len (.t 8)),
 oo 10 (.bin .lss (.t 7) (.t 9))] []) <|
 .keep [0, 1, 10] []) <|
 .cond (.t 10) (.seq (.seq (.reg [oo 4 (.mov (.c (.v (.int .i64 (-1)))))] []) <|
 .keep [4] []) <|
 .ret) <|
 .skip) <|
 .seq (.seq (.seq (.reg [om 11 0,
 oo 12 (.len (.t 11)),
 om 13 1,
 oo 14 (.len (.t 13)),
 oo 15 (.bin .gtr (.t 12) (.t 14))] []) <|
 .keep [0, 1, 15] []) <|
 .cond (.t 15) (.seq (.seq (.reg [oo 4 (.mov (.c (.v (.int .i64 1))))] []) <|
 .keep [4] []) <|
 .ret) <|
 .skip) <|
 .seq (.seq (.seq (.reg [om 16 0,
 oo 17 (.len (.t 16)),
 oo 18 (.bin .sub (.t 17) (.c (.v (.int .i64 1)))),
 om 5 18] []) <|
 .keep [0, 1, 5] []) <|
 .seq (.blk 0 <|
 .seq (.keep [0, 1, 5] []) <|
 .loop QaA) <|
 .keep [] []) <|
 .seq (.seq (.reg [oo 4 (.mov (.c (.v (.int .i64 0))))] []) <|
 .keep [4] []) <|
 .ret, [.t 4]⟩

def QaW : C :=
 .seq (.seq (.seq (.seq (.reg [om 9 7,
 om 10 0,
 oo 11 (.len (.t 10)),
 oo 12 (.bin .lss (.t 9) (.t 11)),
 om 13 12,
 og 14 13 false (.mov (.t 7)),
 og 15 13 false (.mov (.t 1)),
 og 16 13 false (.len (.t 15)),
 og 17 13 false (.bin .lss (.t 14) (.t 16)),
 oo 18 (.pick (.t 13) (.c (.v (.bool true))) (.t 17)),
 om 19 18,
 og 20 19 false (.mov (.t 6)),
 og 21 19 false (.bin .gtr (.t 20) (.c (.v (.int .i64 0)))),
 oo 22 (.pick (.t 19) (.c (.v (.bool true))) (.t 21))] []) <|
 .keep [0, 1, 5, 6, 7, 22] [[38]]) <|
 .cond (.t 22) (.skip) <|
 .seq (.keep [5] [[38]]) <|
 .exit 0) <|
 .seq (.seq (.blk 1 <|
 .seq (.seq (.reg [om 25 0,
 om 26 7,
 oo 27 (.call QbL [(.t 25), (.t 26)] false),
 om 28 1,
 om 29 7,
 oo 30 (.call QbL [(.t 28), (.t 29)] false),
 oo 31 (.bin .add (.t 27) (.t 30)),
 om 32 6,
 oo 33 (.bin .add (.t 31) (.t 32)),
 om 8 33] []) <|
 .keep [0, 1, 5, 7, 8] [[38]]) <|
 .seq (.seq (.reg [om 34 5,
 om 35 8,
 oo 36 (.bin .rem (.t 35) (.c (.v (.int .i64 1000000000)))),
 oo 37 (.lit 1 1 [.v (.int .i64 0)] [(0, (.t 36))] true),
 oo 38 (.app 1 8 (.t 34) (.t 37) false),
 om 5 38] []) <|
 .keep [0, 1, 5, 7, 8] [[38]]) <|
 .seq (.reg [om 39 8,
 oo 40 (.bin .quo (.t 39) (.c (.v (.int .i64 1000000000)))),
 om 6 40] []) <|
 .keep [0, 1, 5, 6, 7] [[38]]) <|
 .keep [0, 1, 5, 6, 7] [[38]]) <|
 .seq (.reg [om 23 7,
 oo 24 (.bin .add (.t 23) (.c (.v (.int .i64 1)))),
 om 7 24] []) <|
 .keep [0, 1, 5, 6, 7] [[38]]) <|
 .keep [0, 1, 5, 6, 7] [[38]]
def gantryref04_plus : CF := ⟨2, .seq (.seq (.reg [oo 4 (.mov (.c (.z true)))] []) <|
 .keep [0, 1] []) <|
 .seq (.seq (.reg [oo 5 (.mov (.c (.z true)))] []) <|
 .keep [0, 1, 5] [[38]]) <|
 .seq (.seq (.reg [oo 6 (.mov (.c (.v (.int .i64 0))))] []) <|
 .keep [0, 1, 5, 6] [[38]]) <|
 .seq (.seq (.seq (.reg [oo 7 (.mov (.c (.v (.int .i64 0))))] []) <|
 .keep [0, 1, 5, 6, 7] [[38]]) <|
 .seq (.blk 0 <|
 .seq (.keep [0, 1, 5, 6, 7] [[38]]) <|
 .loop QaW) <|
 .keep [5] [[38]]) <|
 .seq (.seq (.reg [om 41 5,
 om 4 41] []) <|
 .keep [4] [[38]]) <|
 .ret, [.t 4]⟩

def integer_two : CF := ⟨1, .seq (.seq (.reg [oo 2 (.mov (.c (.v (.int .i64 0)))),
 oo 3 (.mov (.c (.v (.bool false))))] []) <|
 .keep [0] []) <|
 .seq (.seq (.seq (.reg [om 4 0,
 oo 5 (.len (.t 4))] []) <|
 .keep [0, 5] []) <|
 .seq (.blk 0 <|
 .seq (.seq (.reg [oo 7 (.bin .eql (.t 5) (.c (.v (.int .i64 0)))),
 om 6 7] []) <|
 .keep [0, 5, 6] []) <|
 .cond (.t 6) (.seq (.seq (.reg [oo 2 (.mov (.c (.v (.int .i64 0)))),
 oo 3 (.mov (.c (.v (.bool true))))] []) <|
 .keep [2, 3] []) <|
 .ret) <|
 .seq (.seq (.reg [oo 9 (.bin .eql (.t 5) (.c (.v (.int .i64 1)))),
 om 8 9] []) <|
 .keep [0, 5, 8] []) <|
 .cond (.t 8) (.seq (.seq (.reg [om 10 0,
 oo 11 (.ixa 1 (.t 10) (.c (.v (.int .i64 0)))),
 oo 12 (.load none (.t 11)),
 om 2 12,
 oo 3 (.mov (.c (.v (.bool true))))] []) <|
 .keep [2, 3] []) <|
 .ret) <|
 .seq (.seq (.reg [oo 14 (.bin .eql (.t 5) (.c (.v (.int .i64 2)))),
 om 13 14] []) <|
 .keep [0, 13] []) <|
 .cond (.t 13) (.seq (.seq (.reg [om 15 0,
 oo 16 (.ixa 1 (.t 15) (.c (.v (.int .i64 1)))),
 oo 17 (.load none (.t 16)),
 oo 18 (.bin .mul (.t 17) (.c (.v (.int .i64 1000000000)))),
 om 19 0,
 oo 20 (.ixa 1 (.t 19) (.c (.v (.int .i64 0)))),
 oo 21 (.load none (.t 20)),
 oo 22 (.bin .add (.t 18) (.t 21)),
 om 2 22,
 oo 3 (.mov (.c (.v (.bool true))))] []) <|
 .keep [2, 3] []) <|
 .ret) <|
 .skip) <|
 .keep [] []) <|
 .seq (.seq (.reg [oo 2 (.mov (.c (.v (.int .i64 0)))),
 oo 3 (.mov (.c (.v (.bool false))))] []) <|
 .keep [2, 3] []) <|
 .ret, [.t 2, .t 3]⟩

def integer_divide : CF := ⟨2, .seq (.seq (.reg [oo 4 (.new [.v (.bool false), .z true]),
 oo 5 (.new [.v (.bool false), .z true])] []) <|
 .keep [0, 1, 4, 5] [[4], [5]]) <|
 .seq (.seq (.seq (.reg [om 15 0,
 oo 16 (.call QdY [(.t 15)] false),
 om 14 16,
 oo 17 (.ext (.t 14) 0),
 oo 18 (.ext (.t 14) 1),
 om 6 17,
 om 7 18] []) <|
 .keep [0, 1, 4, 5, 6, 7] [[4], [5]]) <|
 .seq (.seq (.reg [om 19 7] []) <|
 .keep [0, 1, 4, 5, 6, 19] [[4], [5]]) <|
 .cond (.t 19) (.seq (.seq (.reg [om 21 1,
 oo 22 (.call QdY [(.t 21)] false),
 om 20 22,
 oo 23 (.ext (.t 20) 0),
 oo 24 (.ext (.t 20) 1),
 om 8 23,
 om 9 24] []) <|
 .keep [0, 1, 4, 5, 6, 8, 9] [[4], [5]]) <|
 .seq (.seq (.reg [om 25 9] []) <|
 .keep [0, 1, 4, 5, 6, 8, 25] [[4], [5]]) <|
 .cond (.t 25) (.seq (.seq (.reg [om 26 6,
 om 27 8,
 oo 28 (.bin .quo (.t 26) (.t 27)),
 oo 29 (.conv (.int .u64) (.t 28)),
 oo 30 (.call Qbz [(.c (.v (.bool false))), (.t 29)] false),
 om 31 6,
 om 32 8,
 oo 33 (.bin .rem (.t 31) (.t 32)),
 oo 34 (.conv (.int .u64) (.t 33)),
 oo 35 (.call Qbz [(.c (.v (.bool false))), (.t 34)] false),
 ⟨none, .store 2 (.t 4) (.t 30), none⟩,
 ⟨none, .store 2 (.t 5) (.t 35), none⟩] []) <|
 .keep [4, 5] [[4], [5]]) <|
 .ret) <|
 .skip) <|
 .skip) <|
 .seq (.seq (.seq (.reg [om 36 0,
 om 37 1,
 oo 38 (.call QcH [(.t 36), (.t 37)] false),
 oo 39 (.bin .lss (.t 38) (.c (.v (.int .i64 0))))] []) <|
 .keep [0, 1, 4, 5, 39] [[4], [5]]) <|
 .cond (.t 39) (.seq (.seq (.reg [oo 40 (.build [.v (.bool false), .z true] []),
 om 41 0,
 oo 42 (.call Qbc [(.c (.v (.bool false))), (.t 41)] false),
 ⟨none, .store 2 (.t 4) (.t 40), none⟩,
 ⟨none, .store 2 (.t 5) (.t 42), none⟩] []) <|
 .keep [4, 5] [[4], [5]]) <|
 .ret) <|
 .skip) <|
 .seq (.seq (.seq (.reg [om 43 1,
 oo 44 (.len (.t 43)),
 oo 45 (.bin .eql (.t 44) (.c (.v (.int .i64 1))))] []) <|
 .keep [0, 1, 4, 5, 45] [[4], [5]]) <|
 .cond (.t 45) (.seq (.seq (.reg [om 47 0,
 om 48 1,
 oo 49 (.ixa 1 (.t 48) (.c (.v (.int .i64 0)))),
 oo 50 (.load none (.t 49)),
 oo 51 (.call QeK [(.t 47), (.t 50)] false),
 om 46 51,
 oo 52 (.ext (.t 46) 0),
 oo 53 (.ext (.t 46) 1),
 om 10 52,
 om 11 53] []) <|
 .keep [4, 5, 10, 11] [[4], [5]]) <|
 .seq (.seq (.reg [om 54 10,
 oo 55 (.call Qbc [(.c (.v (.bool false))), (.t 54)] false),
 om 56 11,
 oo 57 (.conv (.int .u64) (.t 56)),
 oo 58 (.call Qbz [(.c (.v (.bool false))), (.t 57)] false),
 ⟨none, .store 2 (.t 4) (.t 55), none⟩,
 ⟨none, .store 2 (.t 5) (.t 58), none⟩] []) <|
 .keep [4, 5] [[4], [5]]) <|
 .ret) <|
 .skip) <|
 .seq (.seq (.reg [om 60 0,
 om 61 1,
 oo 62 (.call QgZ [(.t 60), (.t 61)] false),
 om 59 62,
 oo 63 (.ext (.t 59) 0),
 oo 64 (.ext (.t 59) 1),
 om 12 63,
 om 13 64] []) <|
 .keep [4, 5, 12, 13] [[4], [5]]) <|
 .seq (.seq (.reg [om 65 12,
 oo 66 (.call Qbc [(.c (.v (.bool false))), (.t 65)] false),
 om 67 13,
 oo 68 (.call Qbc [(.c (.v (.bool false))), (.t 67)] false),
 ⟨none, .store 2 (.t 4) (.t 66), none⟩,
 ⟨none, .store 2 (.t 5) (.t 68), none⟩] []) <|
 .keep [4, 5] [[4], [5]]) <|
 .ret, [.cell 4 (some 2), .cell 5 (some 2)]⟩

end Go.AM

set_option maxRecDepth 100000
namespace Go.AM
open Go Go.Proofs


def gantryref04_digit : CF := ⟨2, .seq (.seq (.reg [oo 4 (.mov (.c (.v (.int .i64 0))))] []) <|
 .keep [0, 1] []) <|
 .seq (.seq (.seq (.reg [om 5 1,
 om 6 0,
 oo 7 (.len (.t 6)),
 oo 8 (.bin .lss (.t 5) (.t 7))] []) <|
 .keep [0, 1, 8] []) <|
 .cond (.t 8) (.seq (.seq (.reg [om 9 0,
 om 10 1,
 oo 11 (.ixa 1 (.t 9) (.t 10)),
 oo 12 (.load none (.t 11)),
 om 4 12] []) <|
 .keep [4] []) <|
 .ret) <|
 .skip) <|
 .seq (.seq (.reg [oo 4 (.mov (.c (.v (.int .i64 0))))] []) <|
 .keep [4] []) <|
 .ret, [.t 4]⟩

def gantryref04_times : CF := ⟨2, .seq (.seq (.reg [oo 4 (.mov (.c (.z true)))] []) <|
 .keep [0, 1] []) <|
 .seq (.seq (.reg [om 6 0,
 oo 7 (.call Qam [(.c (.v (.bool false))), (.t 6)] false),
 om 8 1,
 oo 9 (.call QaM [(.t 8)] false),
 oo 10 (.call QaR [(.t 7), (.t 9)] false),
 oo 5 (.new [.v (.bool false), .z true]),
 ⟨none, .store 2 (.t 5) (.t 10), none⟩] []) <|
 .keep [5] [[5]]) <|
 .seq (.seq (.reg [oo 11 (.fad 1 (.t 5)),
 oo 12 (.load none (.t 11)),
 om 4 12] []) <|
 .keep [4] []) <|
 .ret, [.t 4]⟩

def Qci : C :=
 .seq (.seq (.seq (.seq (.reg [om 16 8,
 oo 17 (.bin .geq (.t 16) (.c (.v (.int .i64 0))))] []) <|
 .keep [0, 1, 6, 7, 8, 17] [[12]]) <|
 .cond (.t 17) (.skip) <|
 .seq (.keep [6, 7] [[12]]) <|
 .exit 0) <|
 .seq (.seq (.blk 1 <|
 .seq (.seq (.reg [om 20 7,
 oo 21 (.bin .mul (.t 20) (.c (.v (.int .i64 1000000000)))),
 om 22 0,
 om 23 8,
 oo 24 (.ixa 1 (.t 22) (.t 23)),
 oo 25 (.load none (.t 24)),
 oo 26 (.bin .add (.t 21) (.t 25)),
 om 9 26] []) <|
 .keep [0, 1, 6, 8, 9] [[12]]) <|
 .seq (.reg [om 27 6,
 om 28 8,
 om 29 9,
 om 30 1,
 oo 31 (.bin .quo (.t 29) (.t 30)),
 om 32 9,
 om 33 1,
 oo 34 (.bin .rem (.t 32) (.t 33)),
 oo 35 (.ixa 1 (.t 27) (.t 28)),
 ⟨none, .store 1 (.t 35) (.t 31), none⟩,
 om 7 34] []) <|
 .keep [0, 1, 6, 7, 8] [[12]]) <|
 .keep [0, 1, 6, 7, 8] [[12]]) <|
 .seq (.reg [om 18 8,
 oo 19 (.bin .sub (.t 18) (.c (.v (.int .i64 1)))),
 om 8 19] []) <|
 .keep [0, 1, 6, 7, 8] [[12]]) <|
 .keep [0, 1, 6, 7, 8] [[12]]
def integer_short : CF := ⟨2, .seq (.seq (.reg [oo 4 (.mov (.c (.z true))),
 oo 5 (.mov (.c (.v (.int .i64 0))))] []) <|
 .keep [0, 1] []) <|
 .seq (.seq (.reg [om 10 0,
 oo 11 (.len (.t 10)),
 oo 12 (.mksl 1 8 [.v (.int .i64 0)] (.t 11) (.t 11)),
 om 6 12] []) <|
 .keep [0, 1, 6] [[12]]) <|
 .seq (.seq (.reg [oo 7 (.mov (.c (.v (.int .i64 0))))] []) <|
 .keep [0, 1, 6, 7] [[12]]) <|
 .seq (.seq (.seq (.reg [om 13 0,
 oo 14 (.len (.t 13)),
 oo 15 (.bin .sub (.t 14) (.c (.v (.int .i64 1)))),
 om 8 15] []) <|
 .keep [0, 1, 6, 7, 8] [[12]]) <|
 .seq (.blk 0 <|
 .seq (.keep [0, 1, 6, 7, 8] [[12]]) <|
 .loop Qci) <|
 .keep [6, 7] [[12]]) <|
 .seq (.seq (.reg [om 36 6,
 om 37 7,
 om 4 36,
 om 5 37] []) <|
 .keep [4, 5] [[12]]) <|
 .ret, [.t 4, .t 5]⟩

def Qbn : C :=
 .seq (.seq (.seq (.seq (.reg [om 84 13,
 oo 85 (.bin .geq (.t 84) (.c (.v (.int .i64 1000000000)))),
 om 86 85,
 og 87 86 false (.mov (.t 13)),
 og 88 86 false (.mov (.t 8)),
 og 89 86 false (.mov (.t 9)),
 og 90 86 false (.bin .sub (.t 89) (.c (.v (.int .i64 2)))),
 og 91 86 false (.ixa 1 (.t 88) (.t 90)),
 og 92 86 false (.load none (.t 91)),
 og 93 86 false (.bin .mul (.t 87) (.t 92)),
 og 94 86 false (.mov (.t 14)),
 og 95 86 false (.bin .mul (.t 94) (.c (.v (.int .i64 1000000000)))),
 og 96 86 false (.mov (.t 7)),
 og 97 86 false (.mov (.t 11)),
 og 98 86 false (.mov (.t 9)),
 og 99 86 false (.bin .add (.t 97) (.t 98)),
 og 100 86 false (.bin .sub (.t 99) (.c (.v (.int .i64 2)))),
 og 101 86 false (.ixa 1 (.t 96) (.t 100)),
 og 102 86 false (.load none (.t 101)),
 og 103 86 false (.bin .add (.t 95) (.t 102)),
 og 104 86 false (.bin .gtr (.t 93) (.t 103)),
 oo 105 (.pick (.t 86) (.c (.v (.bool true))) (.t 104))] []) <|
 .keep [6, 7, 8, 9, 10, 11, 13, 14, 105] [[32], [46]]) <|
 .cond (.t 105) (.skip) <|
 .seq (.keep [6, 7, 8, 9, 10, 11, 13] [[32], [46]]) <|
 .exit 2) <|
 .seq (.blk 3 <|
 .seq (.seq (.reg [om 106 13,
 oo 107 (.bin .sub (.t 106) (.c (.v (.int .i64 1)))),
 om 13 107] []) <|
 .keep [6, 7, 8, 9, 10, 11, 13, 14] [[32], [46]]) <|
 .seq (.seq (.reg [om 108 14,
 om 109 8,
 om 110 9,
 oo 111 (.bin .sub (.t 110) (.c (.v (.int .i64 1)))),
 oo 112 (.ixa 1 (.t 109) (.t 111)),
 oo 113 (.load none (.t 112)),
 oo 114 (.bin .add (.t 108) (.t 113)),
 om 14 114] []) <|
 .keep [6, 7, 8, 9, 10, 11, 13, 14] [[32], [46]]) <|
 .seq (.seq (.reg [om 115 14,
 oo 116 (.bin .geq (.t 115) (.c (.v (.int .i64 1000000000))))] []) <|
 .keep [6, 7, 8, 9, 10, 11, 13, 14, 116] [[32], [46]]) <|
 .cond (.t 116) (.seq (.keep [6, 7, 8, 9, 10, 11, 13] [[32], [46]]) <|
 .exit 2) <|
 .skip) <|
 .keep [6, 7, 8, 9, 10, 11, 13, 14] [[32], [46]]) <|
 .keep [6, 7, 8, 9, 10, 11, 13, 14] [[32], [46]]
def Qce : C :=
 .seq (.seq (.seq (.reg [oo 119 (.bin .lss (.t 118) (.t 117))] []) <|
 .keep [6, 7, 8, 9, 10, 11, 13, 15, 117, 118, 119] [[32], [46]]) <|
 .seq (.cond (.t 119) (.skip) <|
 .seq (.keep [6, 7, 8, 9, 10, 11, 13, 15] [[32], [46]]) <|
 .exit 4) <|
 .seq (.seq (.blk 5 <|
 .seq (.seq (.reg [om 120 118,
 om 16 120] []) <|
 .keep [6, 7, 8, 9, 10, 11, 13, 15, 16, 117, 118] [[32], [46]]) <|
 .seq (.seq (.reg [om 121 7,
 om 122 16,
 om 123 11,
 oo 124 (.bin .add (.t 122) (.t 123)),
 oo 125 (.ixa 1 (.t 121) (.t 124)),
 oo 126 (.load none (.t 125)),
 om 127 13,
 om 128 8,
 om 129 16,
 oo 130 (.ixa 1 (.t 128) (.t 129)),
 oo 131 (.load none (.t 130)),
 oo 132 (.bin .mul (.t 127) (.t 131)),
 oo 133 (.bin .sub (.t 126) (.t 132)),
 om 134 15,
 oo 135 (.bin .sub (.t 133) (.t 134)),
 om 17 135] []) <|
 .keep [6, 7, 8, 9, 10, 11, 13, 16, 17, 117, 118] [[32], [46]]) <|
 .seq (.seq (.reg [oo 15 (.mov (.c (.v (.int .i64 0))))] []) <|
 .keep [6, 7, 8, 9, 10, 11, 13, 15, 16, 17, 117, 118] [[32], [46]]) <|
 .seq (.seq (.seq (.reg [om 136 17,
 oo 137 (.bin .lss (.t 136) (.c (.v (.int .i64 0))))] []) <|
 .keep [6, 7, 8, 9, 10, 11, 13, 15, 16, 17, 117, 118, 137] [[32], [46]]) <|
 .cond (.t 137) (.seq (.seq (.reg [om 138 17,
 oo 139 (.un .neg (.t 138)),
 oo 140 (.bin .add (.t 139) (.c (.v (.int .i64 1000000000)))),
 oo 141 (.bin .sub (.t 140) (.c (.v (.int .i64 1)))),
 oo 142 (.bin .quo (.t 141) (.c (.v (.int .i64 1000000000)))),
 om 15 142] []) <|
 .keep [6, 7, 8, 9, 10, 11, 13, 15, 16, 17, 117, 118] [[32], [46]]) <|
 .seq (.reg [om 143 17,
 om 144 15,
 oo 145 (.bin .mul (.t 144) (.c (.v (.int .i64 1000000000)))),
 oo 146 (.bin .add (.t 143) (.t 145)),
 om 17 146] []) <|
 .keep [6, 7, 8, 9, 10, 11, 13, 15, 16, 17, 117, 118] [[32], [46]]) <|
 .skip) <|
 .seq (.reg [om 147 7,
 om 148 16,
 om 149 11,
 oo 150 (.bin .add (.t 148) (.t 149)),
 om 151 17,
 oo 152 (.ixa 1 (.t 147) (.t 150)),
 ⟨none, .store 1 (.t 152) (.t 151), none⟩] []) <|
 .keep [6, 7, 8, 9, 10, 11, 13, 15, 117, 118] [[32], [46]]) <|
 .keep [6, 7, 8, 9, 10, 11, 13, 15, 117, 118] [[32], [46]]) <|
 .seq (.reg [oo 153 (.bin .add (.t 118) (.c (.v (.int .i64 1)))),
 om 118 153] []) <|
 .keep [6, 7, 8, 9, 10, 11, 13, 15, 117, 118] [[32], [46]]) <|
 .keep [6, 7, 8, 9, 10, 11, 13, 15, 117, 118] [[32], [46]]
def Qcz : C :=
 .seq (.seq (.seq (.reg [oo 174 (.bin .lss (.t 173) (.t 172))] []) <|
 .keep [6, 7, 8, 9, 10, 11, 13, 15, 172, 173, 174] [[32], [46]]) <|
 .seq (.cond (.t 174) (.skip) <|
 .seq (.keep [6, 7, 8, 9, 10, 11, 13, 15] [[32], [46]]) <|
 .exit 6) <|
 .seq (.seq (.blk 7 <|
 .seq (.seq (.reg [om 175 173,
 om 18 175] []) <|
 .keep [6, 7, 8, 9, 10, 11, 13, 15, 18, 172, 173] [[32], [46]]) <|
 .seq (.seq (.reg [om 176 7,
 om 177 18,
 om 178 11,
 oo 179 (.bin .add (.t 177) (.t 178)),
 oo 180 (.ixa 1 (.t 176) (.t 179)),
 oo 181 (.load none (.t 180)),
 om 182 8,
 om 183 18,
 oo 184 (.ixa 1 (.t 182) (.t 183)),
 oo 185 (.load none (.t 184)),
 oo 186 (.bin .add (.t 181) (.t 185)),
 om 187 15,
 oo 188 (.bin .add (.t 186) (.t 187)),
 om 19 188] []) <|
 .keep [6, 7, 8, 9, 10, 11, 13, 18, 19, 172, 173] [[32], [46]]) <|
 .seq (.reg [om 189 7,
 om 190 18,
 om 191 11,
 oo 192 (.bin .add (.t 190) (.t 191)),
 om 193 19,
 oo 194 (.bin .rem (.t 193) (.c (.v (.int .i64 1000000000)))),
 om 195 19,
 oo 196 (.bin .quo (.t 195) (.c (.v (.int .i64 1000000000)))),
 oo 197 (.ixa 1 (.t 189) (.t 192)),
 ⟨none, .store 1 (.t 197) (.t 194), none⟩,
 om 15 196] []) <|
 .keep [6, 7, 8, 9, 10, 11, 13, 15, 172, 173] [[32], [46]]) <|
 .keep [6, 7, 8, 9, 10, 11, 13, 15, 172, 173] [[32], [46]]) <|
 .seq (.reg [oo 198 (.bin .add (.t 173) (.c (.v (.int .i64 1)))),
 om 173 198] []) <|
 .keep [6, 7, 8, 9, 10, 11, 13, 15, 172, 173] [[32], [46]]) <|
 .keep [6, 7, 8, 9, 10, 11, 13, 15, 172, 173] [[32], [46]]
def Qb8 : C :=
 .seq (.seq (.seq (.seq (.reg [om 51 11,
 oo 52 (.bin .geq (.t 51) (.c (.v (.int .i64 0))))] []) <|
 .keep [6, 7, 8, 9, 10, 11, 52] [[32], [46]]) <|
 .cond (.t 52) (.skip) <|
 .seq (.keep [6, 7, 9, 10] [[32], [46]]) <|
 .exit 0) <|
 .seq (.seq (.blk 1 <|
 .seq (.seq (.reg [om 55 7,
 om 56 11,
 om 57 9,
 oo 58 (.bin .add (.t 56) (.t 57)),
 oo 59 (.ixa 1 (.t 55) (.t 58)),
 oo 60 (.load none (.t 59)),
 oo 61 (.bin .mul (.t 60) (.c (.v (.int .i64 1000000000)))),
 om 62 7,
 om 63 11,
 om 64 9,
 oo 65 (.bin .add (.t 63) (.t 64)),
 oo 66 (.bin .sub (.t 65) (.c (.v (.int .i64 1)))),
 oo 67 (.ixa 1 (.t 62) (.t 66)),
 oo 68 (.load none (.t 67)),
 oo 69 (.bin .add (.t 61) (.t 68)),
 om 12 69] []) <|
 .keep [6, 7, 8, 9, 10, 11, 12] [[32], [46]]) <|
 .seq (.seq (.reg [om 70 12,
 om 71 8,
 om 72 9,
 oo 73 (.bin .sub (.t 72) (.c (.v (.int .i64 1)))),
 oo 74 (.ixa 1 (.t 71) (.t 73)),
 oo 75 (.load none (.t 74)),
 oo 76 (.bin .quo (.t 70) (.t 75)),
 om 77 12,
 om 78 8,
 om 79 9,
 oo 80 (.bin .sub (.t 79) (.c (.v (.int .i64 1)))),
 oo 81 (.ixa 1 (.t 78) (.t 80)),
 oo 82 (.load none (.t 81)),
 oo 83 (.bin .rem (.t 77) (.t 82)),
 om 13 76,
 om 14 83] []) <|
 .keep [6, 7, 8, 9, 10, 11, 13, 14] [[32], [46]]) <|
 .seq (.skip) <|
 .seq (.seq (.blk 2 <|
 .seq (.keep [6, 7, 8, 9, 10, 11, 13, 14] [[32], [46]]) <|
 .loop Qbn) <|
 .keep [6, 7, 8, 9, 10, 11, 13] [[32], [46]]) <|
 .seq (.seq (.reg [oo 15 (.mov (.c (.v (.int .i64 0))))] []) <|
 .keep [6, 7, 8, 9, 10, 11, 13, 15] [[32], [46]]) <|
 .seq (.seq (.seq (.reg [om 117 9,
 oo 118 (.mov (.c (.v (.int .i64 0))))] []) <|
 .keep [6, 7, 8, 9, 10, 11, 13, 15, 117, 118] [[32], [46]]) <|
 .seq (.blk 4 <|
 .seq (.keep [6, 7, 8, 9, 10, 11, 13, 15, 117, 118] [[32], [46]]) <|
 .loop Qce) <|
 .keep [6, 7, 8, 9, 10, 11, 13, 15] [[32], [46]]) <|
 .seq (.seq (.seq (.reg [om 154 7,
 om 155 11,
 om 156 9,
 oo 157 (.bin .add (.t 155) (.t 156)),
 oo 158 (.ixa 1 (.t 154) (.t 157)),
 oo 159 (.load none (.t 158)),
 om 160 15,
 oo 161 (.bin .sub (.t 159) (.t 160)),
 oo 162 (.ixa 1 (.t 154) (.t 157)),
 ⟨none, .store 1 (.t 162) (.t 161), none⟩] []) <|
 .keep [6, 7, 8, 9, 10, 11, 13] [[32], [46]]) <|
 .seq (.seq (.reg [om 163 7,
 om 164 11,
 om 165 9,
 oo 166 (.bin .add (.t 164) (.t 165)),
 oo 167 (.ixa 1 (.t 163) (.t 166)),
 oo 168 (.load none (.t 167)),
 oo 169 (.bin .lss (.t 168) (.c (.v (.int .i64 0))))] []) <|
 .keep [6, 7, 8, 9, 10, 11, 13, 169] [[32], [46]]) <|
 .cond (.t 169) (.seq (.seq (.reg [om 170 13,
 oo 171 (.bin .sub (.t 170) (.c (.v (.int .i64 1)))),
 om 13 171] []) <|
 .keep [6, 7, 8, 9, 10, 11, 13] [[32], [46]]) <|
 .seq (.seq (.reg [oo 15 (.mov (.c (.v (.int .i64 0))))] []) <|
 .keep [6, 7, 8, 9, 10, 11, 13, 15] [[32], [46]]) <|
 .seq (.seq (.seq (.reg [om 172 9,
 oo 173 (.mov (.c (.v (.int .i64 0))))] []) <|
 .keep [6, 7, 8, 9, 10, 11, 13, 15, 172, 173] [[32], [46]]) <|
 .seq (.blk 6 <|
 .seq (.keep [6, 7, 8, 9, 10, 11, 13, 15, 172, 173] [[32], [46]]) <|
 .loop Qcz) <|
 .keep [6, 7, 8, 9, 10, 11, 13, 15] [[32], [46]]) <|
 .seq (.reg [om 199 7,
 om 200 11,
 om 201 9,
 oo 202 (.bin .add (.t 200) (.t 201)),
 oo 203 (.ixa 1 (.t 199) (.t 202)),
 oo 204 (.load none (.t 203)),
 om 205 15,
 oo 206 (.bin .add (.t 204) (.t 205)),
 oo 207 (.ixa 1 (.t 199) (.t 202)),
 ⟨none, .store 1 (.t 207) (.t 206), none⟩] []) <|
 .keep [6, 7, 8, 9, 10, 11, 13] [[32], [46]]) <|
 .skip) <|
 .seq (.reg [om 208 10,
 om 209 11,
 om 210 13,
 oo 211 (.ixa 1 (.t 208) (.t 209)),
 ⟨none, .store 1 (.t 211) (.t 210), none⟩] []) <|
 .keep [6, 7, 8, 9, 10, 11] [[32], [46]]) <|
 .keep [6, 7, 8, 9, 10, 11] [[32], [46]]) <|
 .seq (.reg [om 53 11,
 oo 54 (.bin .sub (.t 53) (.c (.v (.int .i64 1)))),
 om 11 54] []) <|
 .keep [6, 7, 8, 9, 10, 11] [[32], [46]]) <|
 .keep [6, 7, 8, 9, 10, 11] [[32], [46]]
def integer_long : CF := ⟨2, .seq (.seq (.reg [oo 4 (.mov (.c (.z true))),
 oo 5 (.mov (.c (.z true)))] []) <|
 .keep [0, 1] []) <|
 .seq (.seq (.reg [om 22 1,
 om 23 1,
 oo 24 (.len (.t 23)),
 oo 25 (.bin .sub (.t 24) (.c (.v (.int .i64 1)))),
 oo 26 (.ixa 1 (.t 22) (.t 25)),
 oo 27 (.load none (.t 26)),
 oo 28 (.bin .add (.t 27) (.c (.v (.int .i64 1)))),
 oo 29 (.bin .quo (.c (.v (.int .i64 1000000000))) (.t 28)),
 om 6 29] []) <|
 .keep [0, 1, 6] []) <|
 .seq (.seq (.reg [om 30 0,
 om 31 6,
 oo 32 (.call Qex [(.t 30), (.t 31)] true),
 om 33 1,
 om 34 6,
 oo 35 (.call Qex [(.t 33), (.t 34)] false),
 om 36 1,
 oo 37 (.len (.t 36)),
 oo 38 (.slc 1 (.t 35) none (some (.t 37)) none),
 om 7 32,
 om 8 38] []) <|
 .keep [0, 1, 6, 7, 8] [[32]]) <|
 .seq (.seq (.reg [om 39 1,
 oo 40 (.len (.t 39)),
 om 9 40] []) <|
 .keep [0, 6, 7, 8, 9] [[32]]) <|
 .seq (.seq (.reg [om 41 0,
 oo 42 (.len (.t 41)),
 om 43 9,
 oo 44 (.bin .sub (.t 42) (.t 43)),
 oo 45 (.bin .add (.t 44) (.c (.v (.int .i64 1)))),
 oo 46 (.mksl 1 8 [.v (.int .i64 0)] (.t 45) (.t 45)),
 om 10 46] []) <|
 .keep [0, 6, 7, 8, 9, 10] [[32], [46]]) <|
 .seq (.seq (.seq (.reg [om 47 0,
 oo 48 (.len (.t 47)),
 om 49 9,
 oo 50 (.bin .sub (.t 48) (.t 49)),
 om 11 50] []) <|
 .keep [6, 7, 8, 9, 10, 11] [[32], [46]]) <|
 .seq (.blk 0 <|
 .seq (.keep [6, 7, 8, 9, 10, 11] [[32], [46]]) <|
 .loop Qb8) <|
 .keep [6, 7, 9, 10] [[32], [46]]) <|
 .seq (.seq (.frz 7) <|
 .seq (.reg [om 213 7,
 om 214 9,
 oo 215 (.slc 1 (.t 213) none (some (.t 214)) none),
 om 216 6,
 oo 217 (.call QeK [(.t 215), (.t 216)] false),
 om 212 217,
 oo 218 (.ext (.t 212) 0),
 oo 219 (.ext (.t 212) 1),
 om 20 218,
 om 21 219] []) <|
 .keep [10, 20] [[46]]) <|
 .seq (.seq (.reg [om 220 10,
 om 221 20,
 om 4 220,
 om 5 221] []) <|
 .keep [4, 5] [[46]]) <|
 .ret, [.t 4, .t 5]⟩

def Qb6 : C :=
 .seq (.seq (.seq (.reg [oo 17 (.bin .lss (.t 16) (.t 15))] []) <|
 .keep [0, 1, 5, 6, 14, 15, 16, 17] [[13]]) <|
 .seq (.cond (.t 17) (.skip) <|
 .seq (.keep [0, 5, 6] [[13]]) <|
 .exit 0) <|
 .seq (.seq (.blk 1 <|
 .seq (.seq (.reg [om 18 16,
 oo 19 (.ixa 1 (.t 14) (.t 16)),
 oo 20 (.load none (.t 19)),
 om 7 18,
 om 8 20] []) <|
 .keep [0, 1, 5, 6, 7, 8, 14, 15, 16] [[13]]) <|
 .seq (.seq (.reg [om 21 8,
 om 22 1,
 oo 23 (.bin .mul (.t 21) (.t 22)),
 om 24 6,
 oo 25 (.bin .add (.t 23) (.t 24)),
 om 9 25] []) <|
 .keep [0, 1, 5, 7, 9, 14, 15, 16] [[13]]) <|
 .seq (.reg [om 26 5,
 om 27 7,
 om 28 9,
 oo 29 (.bin .rem (.t 28) (.c (.v (.int .i64 1000000000)))),
 om 30 9,
 oo 31 (.bin .quo (.t 30) (.c (.v (.int .i64 1000000000)))),
 oo 32 (.ixa 1 (.t 26) (.t 27)),
 ⟨none, .store 1 (.t 32) (.t 29), none⟩,
 om 6 31] []) <|
 .keep [0, 1, 5, 6, 14, 15, 16] [[13]]) <|
 .keep [0, 1, 5, 6, 14, 15, 16] [[13]]) <|
 .seq (.reg [oo 33 (.bin .add (.t 16) (.c (.v (.int .i64 1)))),
 om 16 33] []) <|
 .keep [0, 1, 5, 6, 14, 15, 16] [[13]]) <|
 .keep [0, 1, 5, 6, 14, 15, 16] [[13]]
def integer_scaled : CF := ⟨2, .seq (.seq (.reg [oo 4 (.mov (.c (.z true)))] []) <|
 .keep [0, 1] []) <|
 .seq (.seq (.reg [om 10 0,
 oo 11 (.len (.t 10)),
 oo 12 (.bin .add (.t 11) (.c (.v (.int .i64 1)))),
 oo 13 (.mksl 1 8 [.v (.int .i64 0)] (.t 12) (.t 12)),
 om 5 13] []) <|
 .keep [0, 1, 5] [[13]]) <|
 .seq (.seq (.reg [oo 6 (.mov (.c (.v (.int .i64 0))))] []) <|
 .keep [0, 1, 5, 6] [[13]]) <|
 .seq (.seq (.seq (.reg [om 14 0,
 oo 15 (.len (.t 14)),
 oo 16 (.mov (.c (.v (.int .i64 0))))] []) <|
 .keep [0, 1, 5, 6, 14, 15, 16] [[13]]) <|
 .seq (.blk 0 <|
 .seq (.keep [0, 1, 5, 6, 14, 15, 16] [[13]]) <|
 .loop Qb6) <|
 .keep [0, 5, 6] [[13]]) <|
 .seq (.seq (.reg [om 34 5,
 om 35 0,
 oo 36 (.len (.t 35)),
 om 37 6,
 oo 38 (.ixa 1 (.t 34) (.t 36)),
 ⟨none, .store 1 (.t 38) (.t 37), none⟩] []) <|
 .keep [5] [[13]]) <|
 .seq (.seq (.reg [om 39 5,
 om 4 39] []) <|
 .keep [4] [[13]]) <|
 .ret, [.t 4]⟩

end Go.AM

set_option maxRecDepth 100000
namespace Go.AM
open Go Go.Proofs

def ft : Nat → Option CF
  | 4 => some gantrylaw13_GapAlong
  | 6 => some gantrylaw13_GapKeeps
  | 8 => some gantryref12_Shape
  | 9 => some gantryref12_Sides
  | 10 => some gantryref12_Vec
  | 11 => some gantryref01_At
  | 13 => some gantryref13_Times
  | 14 => some gantryref05_Of
  | 15 => some gap_Free
  | 17 => some gap_Contact
  | 19 => some gantryref13_Plus
  | 20 => some gap_Best
  | 22 => some gap_Meet
  | 24 => some gantrylaw13_lives
  | 25 => some gap_Along
  | 26 => some gantryref05_Same
  | 27 => some gap_Gap
  | 28 => some gantryref13_Gap
  | 29 => some gantryref06_Same
  | 30 => some gantryref13_Along
  | 31 => some rat_Add
  | 32 => some gantryref13_Rate
  | 33 => some rat_Same
  | 34 => some poly_Eval
  | 35 => some rat_Of
  | 37 => some gantryref06_Trim
  | 40 => some gantryref01_Around
  | 42 => some gap_Stays
  | 45 => some convex_Sides
  | 46 => some convex_Sum
  | 47 => some rat_Mul
  | 48 => some rat_Sign
  | 49 => some convex_Has
  | 50 => some gantryref12_Move
  | 51 => some gantryref12_Norm
  | 52 => some gantryref12_Next
  | 53 => some gantryref12_Turn
  | 54 => some gantryref12_Most
  | 57 => some gantryref05_Mul
  | 58 => some gantryref05_Make
  | 59 => some gantryref04_Of
  | 60 => some slices_IndexFunc_api_Edge_api_Edge
  | 61 => some gap_Free_1
  | 62 => some gap_Contact_1
  | 63 => some gap_rate
  | 64 => some slices_ContainsFunc_api_Edge_api_Edge
  | 65 => some gap_greatest_api_Edge
  | 66 => some gap_Contact_2
  | 67 => some gantryref05_Sign
  | 69 => some gantryref05_Add
  | 70 => some gap_Best_1
  | 71 => some gap_Meet_1
  | 72 => some gantrylaw13_vec
  | 73 => some poly_Trim
  | 74 => some gantryref04_Same
  | 75 => some rat_Sub
  | 76 => some gantryref05_Div
  | 77 => some gantryref05_Sub
  | 78 => some gantryref12_Dot
  | 79 => some integer_Add
  | 80 => some rat_Den
  | 81 => some rat_Make
  | 82 => some integer_Mul
  | 83 => some rat_Same_1
  | 84 => some slices_Equal_int_int
  | 85 => some slices_Backward_api_Poly_api_Rat
  | 86 => some integer_Of
  | 88 => some rat_Div
  | 89 => some rat_Neg
  | 90 => some rat_Compare
  | 96 => some convex_Sides_1
  | 97 => some convex_Sides_1_1
  | 98 => some convex_Most
  | 99 => some convex_turned
  | 100 => some convex_Norm
  | 101 => some convex_next
  | 102 => some slices_MinFunc_api_Point_api_Point
  | 103 => some convex_Sum_1
  | 104 => some cmp_Or_int
  | 105 => some cmp_Compare_int
  | 106 => some convex_cross
  | 107 => some convex_far
  | 108 => some rat_lowest
  | 109 => some integer_Sign
  | 110 => some gantryref04_Root
  | 111 => some gantryref04_Small
  | 112 => some gantryref12_divisor
  | 113 => some gantryref12_size
  | 115 => some gantryref04_Mul
  | 116 => some gantryref05_Den
  | 117 => some gantryref04_Gcd
  | 118 => some gantryref04_Div
  | 119 => some gantryref04_Neg
  | 120 => some gantryref05_one
  | 121 => some gantryref04_normal
  | 122 => some gantryref04_Sign
  | 123 => some gantryref04_Compare
  | 124 => some gantryref04_Add
  | 125 => some slices_Clone_api_Poly_api_Rat
  | 126 => some gantryref05_Neg
  | 127 => some integer_of
  | 128 => some integer_plus
  | 129 => some integer_compare
  | 130 => some integer_minus
  | 131 => some rat_one
  | 132 => some integer_Gcd
  | 133 => some rat_unit
  | 134 => some integer_Div
  | 135 => some integer_unsigned
  | 136 => some slices_Backward_api_Poly_api_Rat_1
  | 138 => some integer_Neg
  | 139 => some integer_Compare
  | 153 => some convex_dot
  | 154 => some slices_MaxFunc_api_Point_api_Point
  | 155 => some convex_Most_1
  | 156 => some integer_Root
  | 157 => some integer_Small
  | 158 => some convex_gcd
  | 159 => some cmp_isNaN_int
  | 160 => some gantryref04_tiny
  | 161 => some gantryref04_divided
  | 162 => some gantryref04_minus
  | 163 => some gantryref04_compared
  | 164 => some gantryref04_plus
  | 165 => some integer_two
  | 166 => some integer_divide
  | 178 => some gantryref04_digit
  | 179 => some gantryref04_times
  | 180 => some integer_short
  | 181 => some integer_long
  | 184 => some integer_scaled
  | _ => none
theorem Qf2 : Qar Tryz.prog Tryz.f4 = some gantrylaw13_GapAlong.er := by kernel_rfl
theorem Qf1 : Qar Tryz.prog Tryz.f6 = some gantrylaw13_GapKeeps.er := by kernel_rfl
theorem Qht : Qar Tryz.prog Tryz.f8 = some gantryref12_Shape.er := by kernel_rfl
theorem Qhe : Qar Tryz.prog Tryz.f9 = some gantryref12_Sides.er := by kernel_rfl
theorem QiJ : Qar Tryz.prog Tryz.f10 = some gantryref12_Vec.er := by kernel_rfl
theorem QjO : Qar Tryz.prog Tryz.f11 = some gantryref01_At.er := by kernel_rfl
theorem Qhn : Qar Tryz.prog Tryz.f13 = some gantryref13_Times.er := by kernel_rfl
theorem QjV : Qar Tryz.prog Tryz.f14 = some gantryref05_Of.er := by kernel_rfl
theorem Qsg : Qar Tryz.prog Tryz.f15 = some gap_Free.er := by kernel_rfl
theorem Qmw : Qar Tryz.prog Tryz.f17 = some gap_Contact.er := by kernel_rfl
theorem Qhz : Qar Tryz.prog Tryz.f19 = some gantryref13_Plus.er := by kernel_rfl
theorem Qss : Qar Tryz.prog Tryz.f20 = some gap_Best.er := by kernel_rfl
theorem QsA : Qar Tryz.prog Tryz.f22 = some gap_Meet.er := by kernel_rfl
theorem Qg6 : Qar Tryz.prog Tryz.f24 = some gantrylaw13_lives.er := by kernel_rfl
theorem QpX : Qar Tryz.prog Tryz.f25 = some gap_Along.er := by kernel_rfl
theorem Qiw : Qar Tryz.prog Tryz.f26 = some gantryref05_Same.er := by kernel_rfl
theorem gap_Gap_c : Qar Tryz.prog Tryz.f27 = some gap_Gap.er := by kernel_rfl
theorem Qjf : Qar Tryz.prog Tryz.f28 = some gantryref13_Gap.er := by kernel_rfl
theorem Qiu : Qar Tryz.prog Tryz.f29 = some gantryref06_Same.er := by kernel_rfl
theorem Qhq : Qar Tryz.prog Tryz.f30 = some gantryref13_Along.er := by kernel_rfl
theorem rat_Add_c : Qar Tryz.prog Tryz.f31 = some rat_Add.er := by kernel_rfl
theorem Qh8 : Qar Tryz.prog Tryz.f32 = some gantryref13_Rate.er := by kernel_rfl
theorem QsI : Qar Tryz.prog Tryz.f33 = some rat_Same.er := by kernel_rfl
theorem QpD : Qar Tryz.prog Tryz.f34 = some poly_Eval.er := by kernel_rfl
theorem rat_Of_c : Qar Tryz.prog Tryz.f35 = some rat_Of.er := by kernel_rfl
theorem Qir : Qar Tryz.prog Tryz.f37 = some gantryref06_Trim.er := by kernel_rfl
theorem QgS : Qar Tryz.prog Tryz.f40 = some gantryref01_Around.er := by kernel_rfl
theorem Qp1 : Qar Tryz.prog Tryz.f42 = some gap_Stays.er := by kernel_rfl
theorem Qlx : Qar Tryz.prog Tryz.f45 = some convex_Sides.er := by kernel_rfl
theorem Qoz : Qar Tryz.prog Tryz.f46 = some convex_Sum.er := by kernel_rfl
theorem rat_Mul_c : Qar Tryz.prog Tryz.f47 = some rat_Mul.er := by kernel_rfl
theorem QrR : Qar Tryz.prog Tryz.f48 = some rat_Sign.er := by kernel_rfl
theorem Qn8 : Qar Tryz.prog Tryz.f49 = some convex_Has.er := by kernel_rfl
theorem QhV : Qar Tryz.prog Tryz.f50 = some gantryref12_Move.er := by kernel_rfl
theorem QhL : Qar Tryz.prog Tryz.f51 = some gantryref12_Norm.er := by kernel_rfl
theorem Qii : Qar Tryz.prog Tryz.f52 = some gantryref12_Next.er := by kernel_rfl
theorem Qie : Qar Tryz.prog Tryz.f53 = some gantryref12_Turn.er := by kernel_rfl
theorem QhX : Qar Tryz.prog Tryz.f54 = some gantryref12_Most.er := by kernel_rfl
theorem Qi7 : Qar Tryz.prog Tryz.f57 = some gantryref05_Mul.er := by kernel_rfl
theorem QhS : Qar Tryz.prog Tryz.f58 = some gantryref05_Make.er := by kernel_rfl
theorem QjQ : Qar Tryz.prog Tryz.f59 = some gantryref04_Of.er := by kernel_rfl
theorem Qdt : Qar Tryz.prog Tryz.f60 = some slices_IndexFunc_api_Edge_api_Edge.er := by kernel_rfl
theorem QnV : Qar Tryz.prog Tryz.f61 = some gap_Free_1.er := by kernel_rfl
theorem Qli : Qar Tryz.prog Tryz.f62 = some gap_Contact_1.er := by kernel_rfl
theorem QrX : Qar Tryz.prog Tryz.f63 = some gap_rate.er := by kernel_rfl
theorem Qdb : Qar Tryz.prog Tryz.f64 = some slices_ContainsFunc_api_Edge_api_Edge.er := by kernel_rfl
theorem QfI : Qar Tryz.prog Tryz.f65 = some gap_greatest_api_Edge.er := by kernel_rfl
theorem Qke : Qar Tryz.prog Tryz.f66 = some gap_Contact_2.er := by kernel_rfl
theorem Qid : Qar Tryz.prog Tryz.f67 = some gantryref05_Sign.er := by kernel_rfl
theorem Qjm : Qar Tryz.prog Tryz.f69 = some gantryref05_Add.er := by kernel_rfl
theorem Qo6 : Qar Tryz.prog Tryz.f70 = some gap_Best_1.er := by kernel_rfl
theorem QoA : Qar Tryz.prog Tryz.f71 = some gap_Meet_1.er := by kernel_rfl
theorem QiA : Qar Tryz.prog Tryz.f72 = some gantrylaw13_vec.er := by kernel_rfl
theorem Qpr : Qar Tryz.prog Tryz.f73 = some poly_Trim.er := by kernel_rfl
theorem Qio : Qar Tryz.prog Tryz.f74 = some gantryref04_Same.er := by kernel_rfl
theorem rat_Sub_c : Qar Tryz.prog Tryz.f75 = some rat_Sub.er := by kernel_rfl
theorem QiO : Qar Tryz.prog Tryz.f76 = some gantryref05_Div.er := by kernel_rfl
theorem Qjh : Qar Tryz.prog Tryz.f77 = some gantryref05_Sub.er := by kernel_rfl
theorem Qiy : Qar Tryz.prog Tryz.f78 = some gantryref12_Dot.er := by kernel_rfl
theorem QmP : Qar Tryz.prog Tryz.f79 = some integer_Add.er := by kernel_rfl
theorem rat_Den_c : Qar Tryz.prog Tryz.f80 = some rat_Den.er := by kernel_rfl
theorem Qr0 : Qar Tryz.prog Tryz.f81 = some rat_Make.er := by kernel_rfl
theorem Qnj : Qar Tryz.prog Tryz.f82 = some integer_Mul.er := by kernel_rfl
theorem QnI : Qar Tryz.prog Tryz.f83 = some rat_Same_1.er := by kernel_rfl
theorem Qf3 : Qar Tryz.prog Tryz.f84 = some slices_Equal_int_int.er := by kernel_rfl
theorem QdF : Qar Tryz.prog Tryz.f85 = some slices_Backward_api_Poly_api_Rat.er := by kernel_rfl
theorem Qn7 : Qar Tryz.prog Tryz.f86 = some integer_Of.er := by kernel_rfl
theorem rat_Div_c : Qar Tryz.prog Tryz.f88 = some rat_Div.er := by kernel_rfl
theorem rat_Neg_c : Qar Tryz.prog Tryz.f89 = some rat_Neg.er := by kernel_rfl
theorem Qm0 : Qar Tryz.prog Tryz.f90 = some rat_Compare.er := by kernel_rfl
theorem QjP : Qar Tryz.prog Tryz.f96 = some convex_Sides_1.er := by kernel_rfl
theorem Qiq : Qar Tryz.prog Tryz.f97 = some convex_Sides_1_1.er := by kernel_rfl
theorem Qm7 : Qar Tryz.prog Tryz.f98 = some convex_Most.er := by kernel_rfl
theorem QkK : Qar Tryz.prog Tryz.f99 = some convex_turned.er := by kernel_rfl
theorem Qnm : Qar Tryz.prog Tryz.f100 = some convex_Norm.er := by kernel_rfl
theorem Qnc : Qar Tryz.prog Tryz.f101 = some convex_next.er := by kernel_rfl
theorem Qdp : Qar Tryz.prog Tryz.f102 = some slices_MinFunc_api_Point_api_Point.er := by kernel_rfl
theorem QlB : Qar Tryz.prog Tryz.f103 = some convex_Sum_1.er := by kernel_rfl
theorem QnT : Qar Tryz.prog Tryz.f104 = some cmp_Or_int.er := by kernel_rfl
theorem Qi5 : Qar Tryz.prog Tryz.f105 = some cmp_Compare_int.er := by kernel_rfl
theorem QlD : Qar Tryz.prog Tryz.f106 = some convex_cross.er := by kernel_rfl
theorem Qom : Qar Tryz.prog Tryz.f107 = some convex_far.er := by kernel_rfl
theorem Qoi : Qar Tryz.prog Tryz.f108 = some rat_lowest.er := by kernel_rfl
theorem Qlu : Qar Tryz.prog Tryz.f109 = some integer_Sign.er := by kernel_rfl
theorem QhO : Qar Tryz.prog Tryz.f110 = some gantryref04_Root.er := by kernel_rfl
theorem Qhb : Qar Tryz.prog Tryz.f111 = some gantryref04_Small.er := by kernel_rfl
theorem Qgy : Qar Tryz.prog Tryz.f112 = some gantryref12_divisor.er := by kernel_rfl
theorem QhA : Qar Tryz.prog Tryz.f113 = some gantryref12_size.er := by kernel_rfl
theorem Qje : Qar Tryz.prog Tryz.f115 = some gantryref04_Mul.er := by kernel_rfl
theorem Qjd : Qar Tryz.prog Tryz.f116 = some gantryref05_Den.er := by kernel_rfl
theorem QiU : Qar Tryz.prog Tryz.f117 = some gantryref04_Gcd.er := by kernel_rfl
theorem Qi2 : Qar Tryz.prog Tryz.f118 = some gantryref04_Div.er := by kernel_rfl
theorem Qi4 : Qar Tryz.prog Tryz.f119 = some gantryref04_Neg.er := by kernel_rfl
theorem Qjk : Qar Tryz.prog Tryz.f120 = some gantryref05_one.er := by kernel_rfl
theorem QgR : Qar Tryz.prog Tryz.f121 = some gantryref04_normal.er := by kernel_rfl
theorem QhU : Qar Tryz.prog Tryz.f122 = some gantryref04_Sign.er := by kernel_rfl
theorem Qgt : Qar Tryz.prog Tryz.f123 = some gantryref04_Compare.er := by kernel_rfl
theorem Qji : Qar Tryz.prog Tryz.f124 = some gantryref04_Add.er := by kernel_rfl
theorem Qed : Qar Tryz.prog Tryz.f125 = some slices_Clone_api_Poly_api_Rat.er := by kernel_rfl
theorem QiX : Qar Tryz.prog Tryz.f126 = some gantryref05_Neg.er := by kernel_rfl
theorem QnA : Qar Tryz.prog Tryz.f127 = some integer_of.er := by kernel_rfl
theorem QlC : Qar Tryz.prog Tryz.f128 = some integer_plus.er := by kernel_rfl
theorem Qjj : Qar Tryz.prog Tryz.f129 = some integer_compare.er := by kernel_rfl
theorem QkZ : Qar Tryz.prog Tryz.f130 = some integer_minus.er := by kernel_rfl
theorem rat_one_c : Qar Tryz.prog Tryz.f131 = some rat_one.er := by kernel_rfl
theorem Qnn : Qar Tryz.prog Tryz.f132 = some integer_Gcd.er := by kernel_rfl
theorem Qsb : Qar Tryz.prog Tryz.f133 = some rat_unit.er := by kernel_rfl
theorem QmA : Qar Tryz.prog Tryz.f134 = some integer_Div.er := by kernel_rfl
theorem Qig : Qar Tryz.prog Tryz.f135 = some integer_unsigned.er := by kernel_rfl
theorem Qb5 : Qar Tryz.prog Tryz.f136 = some slices_Backward_api_Poly_api_Rat_1.er := by kernel_rfl
theorem Qmx : Qar Tryz.prog Tryz.f138 = some integer_Neg.er := by kernel_rfl
theorem QiG : Qar Tryz.prog Tryz.f139 = some integer_Compare.er := by kernel_rfl
theorem QnD : Qar Tryz.prog Tryz.f153 = some convex_dot.er := by kernel_rfl
theorem Qdo : Qar Tryz.prog Tryz.f154 = some slices_MaxFunc_api_Point_api_Point.er := by kernel_rfl
theorem Qlk : Qar Tryz.prog Tryz.f155 = some convex_Most_1.er := by kernel_rfl
theorem Qls : Qar Tryz.prog Tryz.f156 = some integer_Root.er := by kernel_rfl
theorem QkP : Qar Tryz.prog Tryz.f157 = some integer_Small.er := by kernel_rfl
theorem QnL : Qar Tryz.prog Tryz.f158 = some convex_gcd.er := by kernel_rfl
theorem Qkw : Qar Tryz.prog Tryz.f159 = some cmp_isNaN_int.er := by kernel_rfl
theorem QhR : Qar Tryz.prog Tryz.f160 = some gantryref04_tiny.er := by kernel_rfl
theorem Qgc : Qar Tryz.prog Tryz.f161 = some gantryref04_divided.er := by kernel_rfl
theorem Qhi : Qar Tryz.prog Tryz.f162 = some gantryref04_minus.er := by kernel_rfl
theorem Qf0 : Qar Tryz.prog Tryz.f163 = some gantryref04_compared.er := by kernel_rfl
theorem Qic : Qar Tryz.prog Tryz.f164 = some gantryref04_plus.er := by kernel_rfl
theorem Qne : Qar Tryz.prog Tryz.f165 = some integer_two.er := by kernel_rfl
theorem QjH : Qar Tryz.prog Tryz.f166 = some integer_divide.er := by kernel_rfl
theorem Qg7 : Qar Tryz.prog Tryz.f178 = some gantryref04_digit.er := by kernel_rfl
theorem Qhj : Qar Tryz.prog Tryz.f179 = some gantryref04_times.er := by kernel_rfl
theorem Qln : Qar Tryz.prog Tryz.f180 = some integer_short.er := by kernel_rfl
theorem Qlz : Qar Tryz.prog Tryz.f181 = some integer_long.er := by kernel_rfl
theorem QjR : Qar Tryz.prog Tryz.f184 = some integer_scaled.er := by kernel_rfl
theorem QiB : InlN Tryz.prog [96] Qcj QcE [] 4 := ⟨by decide, _, _, Tryz.func96, rfl, by kernel_rfl, by kernel_rfl⟩
theorem Qjl : InlN Tryz.prog [96] Qcj convex_Sides_i2 [] 4 := ⟨by decide, _, _, Tryz.func96, rfl, by kernel_rfl, by kernel_rfl⟩
theorem ft_ok : ∀ f cf, ft f = some cf → ∃ fn L, Tryz.prog.funcs[f]? = some fn ∧ Qar Tryz.prog fn = some cf.er ∧ Qgp Tryz.prog L cf.body ∧ (L = [] ∨ ∀ b, fn.body = some b → okI L b = true) := by
  intro f cf h
  unfold ft at h
  split at h
  · cases h; exact ⟨_, [], Tryz.func4, Qf2, Qab (by kernel_rfl), .inl rfl⟩
  · cases h; exact ⟨_, [], Tryz.func6, Qf1, Qab (by kernel_rfl), .inl rfl⟩
  · cases h; exact ⟨_, [], Tryz.func8, Qht, Qab (by kernel_rfl), .inl rfl⟩
  · cases h; exact ⟨_, [], Tryz.func9, Qhe, Qab (by kernel_rfl), .inl rfl⟩
  · cases h; exact ⟨_, [], Tryz.func10, QiJ, Qab (by kernel_rfl), .inl rfl⟩
  · cases h; exact ⟨_, [], Tryz.func11, QjO, Qab (by kernel_rfl), .inl rfl⟩
  · cases h; exact ⟨_, [], Tryz.func13, Qhn, Qab (by kernel_rfl), .inl rfl⟩
  · cases h; exact ⟨_, [], Tryz.func14, QjV, Qab (by kernel_rfl), .inl rfl⟩
  · cases h; exact ⟨_, [], Tryz.func15, Qsg, Qab (by kernel_rfl), .inl rfl⟩
  · cases h; exact ⟨_, [], Tryz.func17, Qmw, Qab (by kernel_rfl), .inl rfl⟩
  · cases h; exact ⟨_, [], Tryz.func19, Qhz, Qab (by kernel_rfl), .inl rfl⟩
  · cases h; exact ⟨_, [], Tryz.func20, Qss, Qab (by kernel_rfl), .inl rfl⟩
  · cases h; exact ⟨_, [], Tryz.func22, QsA, Qab (by kernel_rfl), .inl rfl⟩
  · cases h; exact ⟨_, [], Tryz.func24, Qg6, Qab (by kernel_rfl), .inl rfl⟩
  · cases h; exact ⟨_, [], Tryz.func25, QpX, Qab (by kernel_rfl), .inl rfl⟩
  · cases h; exact ⟨_, [], Tryz.func26, Qiw, Qab (by kernel_rfl), .inl rfl⟩
  · cases h; exact ⟨_, [], Tryz.func27, gap_Gap_c, Qab (by kernel_rfl), .inl rfl⟩
  · cases h; exact ⟨_, [], Tryz.func28, Qjf, Qab (by kernel_rfl), .inl rfl⟩
  · cases h; exact ⟨_, [], Tryz.func29, Qiu, Qab (by kernel_rfl), .inl rfl⟩
  · cases h; exact ⟨_, [], Tryz.func30, Qhq, Qab (by kernel_rfl), .inl rfl⟩
  · cases h; exact ⟨_, [], Tryz.func31, rat_Add_c, Qab (by kernel_rfl), .inl rfl⟩
  · cases h; exact ⟨_, [], Tryz.func32, Qh8, Qab (by kernel_rfl), .inl rfl⟩
  · cases h; exact ⟨_, [], Tryz.func33, QsI, Qab (by kernel_rfl), .inl rfl⟩
  · cases h; exact ⟨_, [], Tryz.func34, QpD, Qab (by kernel_rfl), .inl rfl⟩
  · cases h; exact ⟨_, [], Tryz.func35, rat_Of_c, Qab (by kernel_rfl), .inl rfl⟩
  · cases h; exact ⟨_, [], Tryz.func37, Qir, Qab (by kernel_rfl), .inl rfl⟩
  · cases h; exact ⟨_, [], Tryz.func40, QgS, Qab (by kernel_rfl), .inl rfl⟩
  · cases h; exact ⟨_, [], Tryz.func42, Qp1, Qab (by kernel_rfl), .inl rfl⟩
  · cases h; exact ⟨_, [96], Tryz.func45, Qlx, by simp only [Qgp, convex_Sides, Qbo, Qbm, eq_true QiB, eq_true (Qab (P := Tryz.prog) (L := [96]) (c := QcE) (by kernel_rfl)), eq_true Qjl, eq_true (Qab (P := Tryz.prog) (L := [96]) (c := convex_Sides_i2) (by kernel_rfl)), and_self, and_true], .inr fun b hb => by cases hb; kernel_rfl⟩
  · cases h; exact ⟨_, [], Tryz.func46, Qoz, Qab (by kernel_rfl), .inl rfl⟩
  · cases h; exact ⟨_, [], Tryz.func47, rat_Mul_c, Qab (by kernel_rfl), .inl rfl⟩
  · cases h; exact ⟨_, [], Tryz.func48, QrR, Qab (by kernel_rfl), .inl rfl⟩
  · cases h; exact ⟨_, [], Tryz.func49, Qn8, Qab (by kernel_rfl), .inl rfl⟩
  · cases h; exact ⟨_, [], Tryz.func50, QhV, Qab (by kernel_rfl), .inl rfl⟩
  · cases h; exact ⟨_, [], Tryz.func51, QhL, Qab (by kernel_rfl), .inl rfl⟩
  · cases h; exact ⟨_, [], Tryz.func52, Qii, Qab (by kernel_rfl), .inl rfl⟩
  · cases h; exact ⟨_, [], Tryz.func53, Qie, Qab (by kernel_rfl), .inl rfl⟩
  · cases h; exact ⟨_, [], Tryz.func54, QhX, Qab (by kernel_rfl), .inl rfl⟩
  · cases h; exact ⟨_, [], Tryz.func57, Qi7, Qab (by kernel_rfl), .inl rfl⟩
  · cases h; exact ⟨_, [], Tryz.func58, QhS, Qab (by kernel_rfl), .inl rfl⟩
  · cases h; exact ⟨_, [], Tryz.func59, QjQ, Qab (by kernel_rfl), .inl rfl⟩
  · cases h; exact ⟨_, [], Tryz.func60, Qdt, Qab (by kernel_rfl), .inl rfl⟩
  · cases h; exact ⟨_, [], Tryz.func61, QnV, Qab (by kernel_rfl), .inl rfl⟩
  · cases h; exact ⟨_, [], Tryz.func62, Qli, Qab (by kernel_rfl), .inl rfl⟩
  · cases h; exact ⟨_, [], Tryz.func63, QrX, Qab (by kernel_rfl), .inl rfl⟩
  · cases h; exact ⟨_, [], Tryz.func64, Qdb, Qab (by kernel_rfl), .inl rfl⟩
  · cases h; exact ⟨_, [], Tryz.func65, QfI, Qab (by kernel_rfl), .inl rfl⟩
  · cases h; exact ⟨_, [], Tryz.func66, Qke, Qab (by kernel_rfl), .inl rfl⟩
  · cases h; exact ⟨_, [], Tryz.func67, Qid, Qab (by kernel_rfl), .inl rfl⟩
  · cases h; exact ⟨_, [], Tryz.func69, Qjm, Qab (by kernel_rfl), .inl rfl⟩
  · cases h; exact ⟨_, [], Tryz.func70, Qo6, Qab (by kernel_rfl), .inl rfl⟩
  · cases h; exact ⟨_, [], Tryz.func71, QoA, Qab (by kernel_rfl), .inl rfl⟩
  · cases h; exact ⟨_, [], Tryz.func72, QiA, Qab (by kernel_rfl), .inl rfl⟩
  · cases h; exact ⟨_, [], Tryz.func73, Qpr, Qab (by kernel_rfl), .inl rfl⟩
  · cases h; exact ⟨_, [], Tryz.func74, Qio, Qab (by kernel_rfl), .inl rfl⟩
  · cases h; exact ⟨_, [], Tryz.func75, rat_Sub_c, Qab (by kernel_rfl), .inl rfl⟩
  · cases h; exact ⟨_, [], Tryz.func76, QiO, Qab (by kernel_rfl), .inl rfl⟩
  · cases h; exact ⟨_, [], Tryz.func77, Qjh, Qab (by kernel_rfl), .inl rfl⟩
  · cases h; exact ⟨_, [], Tryz.func78, Qiy, Qab (by kernel_rfl), .inl rfl⟩
  · cases h; exact ⟨_, [], Tryz.func79, QmP, Qab (by kernel_rfl), .inl rfl⟩
  · cases h; exact ⟨_, [], Tryz.func80, rat_Den_c, Qab (by kernel_rfl), .inl rfl⟩
  · cases h; exact ⟨_, [], Tryz.func81, Qr0, Qab (by kernel_rfl), .inl rfl⟩
  · cases h; exact ⟨_, [], Tryz.func82, Qnj, Qab (by kernel_rfl), .inl rfl⟩
  · cases h; exact ⟨_, [], Tryz.func83, QnI, Qab (by kernel_rfl), .inl rfl⟩
  · cases h; exact ⟨_, [], Tryz.func84, Qf3, Qab (by kernel_rfl), .inl rfl⟩
  · cases h; exact ⟨_, [], Tryz.func85, QdF, Qab (by kernel_rfl), .inl rfl⟩
  · cases h; exact ⟨_, [], Tryz.func86, Qn7, Qab (by kernel_rfl), .inl rfl⟩
  · cases h; exact ⟨_, [], Tryz.func88, rat_Div_c, Qab (by kernel_rfl), .inl rfl⟩
  · cases h; exact ⟨_, [], Tryz.func89, rat_Neg_c, Qab (by kernel_rfl), .inl rfl⟩
  · cases h; exact ⟨_, [], Tryz.func90, Qm0, Qab (by kernel_rfl), .inl rfl⟩
  · cases h; exact ⟨_, [], Tryz.func96, QjP, Qab (by kernel_rfl), .inl rfl⟩
  · cases h; exact ⟨_, [], Tryz.func97, Qiq, Qab (by kernel_rfl), .inl rfl⟩
  · cases h; exact ⟨_, [], Tryz.func98, Qm7, Qab (by kernel_rfl), .inl rfl⟩
  · cases h; exact ⟨_, [], Tryz.func99, QkK, Qab (by kernel_rfl), .inl rfl⟩
  · cases h; exact ⟨_, [], Tryz.func100, Qnm, Qab (by kernel_rfl), .inl rfl⟩
  · cases h; exact ⟨_, [], Tryz.func101, Qnc, Qab (by kernel_rfl), .inl rfl⟩
  · cases h; exact ⟨_, [], Tryz.func102, Qdp, Qab (by kernel_rfl), .inl rfl⟩
  · cases h; exact ⟨_, [], Tryz.func103, QlB, Qab (by kernel_rfl), .inl rfl⟩
  · cases h; exact ⟨_, [], Tryz.func104, QnT, Qab (by kernel_rfl), .inl rfl⟩
  · cases h; exact ⟨_, [], Tryz.func105, Qi5, Qab (by kernel_rfl), .inl rfl⟩
  · cases h; exact ⟨_, [], Tryz.func106, QlD, Qab (by kernel_rfl), .inl rfl⟩
  · cases h; exact ⟨_, [], Tryz.func107, Qom, Qab (by kernel_rfl), .inl rfl⟩
  · cases h; exact ⟨_, [], Tryz.func108, Qoi, Qab (by kernel_rfl), .inl rfl⟩
  · cases h; exact ⟨_, [], Tryz.func109, Qlu, Qab (by kernel_rfl), .inl rfl⟩
  · cases h; exact ⟨_, [], Tryz.func110, QhO, Qab (by kernel_rfl), .inl rfl⟩
  · cases h; exact ⟨_, [], Tryz.func111, Qhb, Qab (by kernel_rfl), .inl rfl⟩
  · cases h; exact ⟨_, [], Tryz.func112, Qgy, Qab (by kernel_rfl), .inl rfl⟩
  · cases h; exact ⟨_, [], Tryz.func113, QhA, Qab (by kernel_rfl), .inl rfl⟩
  · cases h; exact ⟨_, [], Tryz.func115, Qje, Qab (by kernel_rfl), .inl rfl⟩
  · cases h; exact ⟨_, [], Tryz.func116, Qjd, Qab (by kernel_rfl), .inl rfl⟩
  · cases h; exact ⟨_, [], Tryz.func117, QiU, Qab (by kernel_rfl), .inl rfl⟩
  · cases h; exact ⟨_, [], Tryz.func118, Qi2, Qab (by kernel_rfl), .inl rfl⟩
  · cases h; exact ⟨_, [], Tryz.func119, Qi4, Qab (by kernel_rfl), .inl rfl⟩
  · cases h; exact ⟨_, [], Tryz.func120, Qjk, Qab (by kernel_rfl), .inl rfl⟩
  · cases h; exact ⟨_, [], Tryz.func121, QgR, Qab (by kernel_rfl), .inl rfl⟩
  · cases h; exact ⟨_, [], Tryz.func122, QhU, Qab (by kernel_rfl), .inl rfl⟩
  · cases h; exact ⟨_, [], Tryz.func123, Qgt, Qab (by kernel_rfl), .inl rfl⟩
  · cases h; exact ⟨_, [], Tryz.func124, Qji, Qab (by kernel_rfl), .inl rfl⟩
  · cases h; exact ⟨_, [], Tryz.func125, Qed, Qab (by kernel_rfl), .inl rfl⟩
  · cases h; exact ⟨_, [], Tryz.func126, QiX, Qab (by kernel_rfl), .inl rfl⟩
  · cases h; exact ⟨_, [], Tryz.func127, QnA, Qab (by kernel_rfl), .inl rfl⟩
  · cases h; exact ⟨_, [], Tryz.func128, QlC, Qab (by kernel_rfl), .inl rfl⟩
  · cases h; exact ⟨_, [], Tryz.func129, Qjj, Qab (by kernel_rfl), .inl rfl⟩
  · cases h; exact ⟨_, [], Tryz.func130, QkZ, Qab (by kernel_rfl), .inl rfl⟩
  · cases h; exact ⟨_, [], Tryz.func131, rat_one_c, Qab (by kernel_rfl), .inl rfl⟩
  · cases h; exact ⟨_, [], Tryz.func132, Qnn, Qab (by kernel_rfl), .inl rfl⟩
  · cases h; exact ⟨_, [], Tryz.func133, Qsb, Qab (by kernel_rfl), .inl rfl⟩
  · cases h; exact ⟨_, [], Tryz.func134, QmA, Qab (by kernel_rfl), .inl rfl⟩
  · cases h; exact ⟨_, [], Tryz.func135, Qig, Qab (by kernel_rfl), .inl rfl⟩
  · cases h; exact ⟨_, [], Tryz.func136, Qb5, Qab (by kernel_rfl), .inl rfl⟩
  · cases h; exact ⟨_, [], Tryz.func138, Qmx, Qab (by kernel_rfl), .inl rfl⟩
  · cases h; exact ⟨_, [], Tryz.func139, QiG, Qab (by kernel_rfl), .inl rfl⟩
  · cases h; exact ⟨_, [], Tryz.func153, QnD, Qab (by kernel_rfl), .inl rfl⟩
  · cases h; exact ⟨_, [], Tryz.func154, Qdo, Qab (by kernel_rfl), .inl rfl⟩
  · cases h; exact ⟨_, [], Tryz.func155, Qlk, Qab (by kernel_rfl), .inl rfl⟩
  · cases h; exact ⟨_, [], Tryz.func156, Qls, Qab (by kernel_rfl), .inl rfl⟩
  · cases h; exact ⟨_, [], Tryz.func157, QkP, Qab (by kernel_rfl), .inl rfl⟩
  · cases h; exact ⟨_, [], Tryz.func158, QnL, Qab (by kernel_rfl), .inl rfl⟩
  · cases h; exact ⟨_, [], Tryz.func159, Qkw, Qab (by kernel_rfl), .inl rfl⟩
  · cases h; exact ⟨_, [], Tryz.func160, QhR, Qab (by kernel_rfl), .inl rfl⟩
  · cases h; exact ⟨_, [], Tryz.func161, Qgc, Qab (by kernel_rfl), .inl rfl⟩
  · cases h; exact ⟨_, [], Tryz.func162, Qhi, Qab (by kernel_rfl), .inl rfl⟩
  · cases h; exact ⟨_, [], Tryz.func163, Qf0, Qab (by kernel_rfl), .inl rfl⟩
  · cases h; exact ⟨_, [], Tryz.func164, Qic, Qab (by kernel_rfl), .inl rfl⟩
  · cases h; exact ⟨_, [], Tryz.func165, Qne, Qab (by kernel_rfl), .inl rfl⟩
  · cases h; exact ⟨_, [], Tryz.func166, QjH, Qab (by kernel_rfl), .inl rfl⟩
  · cases h; exact ⟨_, [], Tryz.func178, Qg7, Qab (by kernel_rfl), .inl rfl⟩
  · cases h; exact ⟨_, [], Tryz.func179, Qhj, Qab (by kernel_rfl), .inl rfl⟩
  · cases h; exact ⟨_, [], Tryz.func180, Qln, Qab (by kernel_rfl), .inl rfl⟩
  · cases h; exact ⟨_, [], Tryz.func181, Qlz, Qab (by kernel_rfl), .inl rfl⟩
  · cases h; exact ⟨_, [], Tryz.func184, QjR, Qab (by kernel_rfl), .inl rfl⟩
  · cases h
end Go.AM

/- The seat's functions, and that their small texts are theirs. -/
namespace Go.AM
open Go Go.Proofs
/-- What the seat's iterators yield. -/
class Its where
  it : Nat → List D → Option (List (List D))
  orc : Nat → List D → Option R := fun _ _ => none
abbrev noIts : Its := { it := fun _ _ => none }
def G [Its] : Env := ⟨ft, Its.orc, Its.it⟩
theorem env_okO [Its] (h : ∀ f ds xs, Its.it f ds = some xs → ItOk Tryz.prog f ds xs) (ho : ∀ f ds r, ft f = none → Its.orc f ds = some r → CallOk Tryz.prog f ds r) : EnvOk Tryz.prog G := ⟨by kernel_rfl, ft_ok, ho, h⟩
theorem env_ok [Its] (h : ∀ f ds xs, Its.it f ds = some xs → ItOk Tryz.prog f ds xs) (h0 : ∀ f ds, (Its.orc f ds : Option R) = none := by intros; rfl) : EnvOk Tryz.prog G := env_okO h fun f ds r _ h => by rw [h0] at h; cases h
theorem env_ok0 : EnvOk Tryz.prog (@G noIts) := @env_ok noIts (fun _ _ _ h => by cases h) (fun _ _ => rfl)
end Go.AM

