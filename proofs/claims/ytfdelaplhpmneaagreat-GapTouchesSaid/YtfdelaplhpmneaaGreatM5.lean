/- Part 5 of the proof: a small machine, its soundness against the model, and what the program's functions compute on it. -/
import Derived.Test.YtfdelaplhpmneaaGreatM4
import Derived.Test.YtfdelaplhpmneaaGreatProg
import Derived.KernelRfl
import Derived.Test.YtfdelaplhpmneaaGreatM3
import Derived.Test.YtfdelaplhpmneaaGreatM0
import Derived.RowKit
set_option linter.unusedVariables false
set_option linter.unusedSimpArgs false
set_option maxRecDepth 100000
namespace Go.AM
open Go Go.Proofs


def QbE : C :=
 .seq (.seq (.seq (oR [oL 25 2 4, oL 26 2 6, oA 27 (.call QcL [.t 25, .t 26] false), oL 28 2 5, oA 29 (.call Qbe [.t 27, .t 28] false), oA 30 (.bin .lss (.t 29) (oC 0))] [1, 2, 4, 5, 6, 7, 30] [[1], [2], [4], [5], [6], [7]]) <| .cond (.t 30) (.skip) <| .seq (.keep [1, 2, 4] [[1], [2], [4]]) <| .exit 0) <| .seq (.blk 1 <| .seq (oR [oL 32 2 4, oL 33 2 5, oA 34 (.call QcL [.t 32, .t 33] false), oL 35 2 7, oA 36 (.call QcN [.t 34, .t 35] false), oM 31 36, oA 37 (.ext (.t 31) 0), oA 38 (.ext (.t 31) 1), oA 8 (.new [.v (.bool false), .z true]), oA 9 (.new [.v (.bool false), .z true]), ⟨none, .store 2 (.t 8) (.t 37), none⟩, ⟨none, .store 2 (.t 9) (.t 38), none⟩] [1, 2, 4, 5, 6, 7, 8] [[1], [2], [4], [5], [6], [7], [8]]) <| .seq (oR [oL 39 2 8, oL 40 2 8, oA 41 (.call QaS [.t 39, .t 40] false), oL 42 2 1, oA 43 (.call Qbe [.t 41, .t 42] false), oA 44 (.bin .leq (.t 43) (oC 0))] [1, 2, 4, 5, 6, 7, 8, 44] [[1], [2], [4], [5], [6], [7], [8]]) <| .cond (.t 44) (oR [oL 45 2 8, ⟨none, .store 2 (.t 4) (.t 45), none⟩] [1, 2, 4, 5, 6, 7] [[1], [2], [4], [5], [6], [7]]) <| oR [oL 46 2 8, ⟨none, .store 2 (.t 5) (.t 46), none⟩] [1, 2, 4, 5, 6, 7] [[1], [2], [4], [5], [6], [7]]) <| .keep [1, 2, 4, 5, 6, 7] [[1], [2], [4], [5], [6], [7]]) <| .keep [1, 2, 4, 5, 6, 7] [[1], [2], [4], [5], [6], [7]]
def gantryref04_Root : CF := ⟨1, .seq (oR [oA 1 (.box (.t 0)), oA 2 (.new [.v (.bool false), .z true]), oA 3 (.mov (.c (.v (.bool false))))] [1, 2] [[1], [2]]) <| .seq (.seq (oR [oA 10 (.fad 0 (.t 1)), oA 11 (.load none (.t 10))] [1, 2, 11] [[1], [2]]) <| .cond (.t 11) (.seq (oR [oA 12 (.build [.v (.bool false), .z true] []), ⟨none, .store 2 (.t 2) (.t 12), none⟩, oA 3 (.mov (.c (.v (.bool false))))] [2, 3] [[2]]) <| .ret) <| .skip) <| .seq (oR [oA 13 (.build [.v (.bool false), .z true] []), oA 4 (.new [.v (.bool false), .z true]), ⟨none, .store 2 (.t 4) (.t 13), none⟩] [1, 2, 4] [[1], [2], [4]]) <| .seq (oR [oA 14 (.fad 1 (.t 1)), oA 15 (.load none (.t 14)), oA 16 (.len (.t 15)), oA 17 (.bin .quo (.t 16) (oC 2)), oA 18 (.bin .add (.t 17) (oC 1)), oA 19 (.mksl 1 8 [.v (.int .i64 0)] (.t 18) (.t 18)), oA 20 (.lit 1 1 [.v (.int .i64 0)] [(0, (oC 1))] true), oA 21 (.app 1 8 (.t 19) (.t 20) true), oA 22 (.call Qam [(.c (.v (.bool false))), (.t 21)] false), oA 5 (.new [.v (.bool false), .z true]), ⟨none, .store 2 (.t 5) (.t 22), none⟩] [1, 2, 4, 5] [[1], [2], [4], [5]]) <| .seq (oR [oA 23 (.call QaO [(oC 1)] false), oA 6 (.new [.v (.bool false), .z true]), ⟨none, .store 2 (.t 6) (.t 23), none⟩] [1, 2, 4, 5, 6] [[1], [2], [4], [5], [6]]) <| .seq (oR [oA 24 (.call QaO [(oC 2)] false), oA 7 (.new [.v (.bool false), .z true]), ⟨none, .store 2 (.t 7) (.t 24), none⟩] [1, 2, 4, 5, 6, 7] [[1], [2], [4], [5], [6], [7]]) <| .seq (.seq (.blk 0 <| .seq (.keep [1, 2, 4, 5, 6, 7] [[1], [2], [4], [5], [6], [7]]) <| .loop QbE) <| .keep [1, 2, 4] [[1], [2], [4]]) <| .seq (oR [oL 47 2 4, oL 48 2 4, oL 49 2 4, oA 50 (.call QaS [.t 48, .t 49] false), oL 51 2 1, oA 52 (.call Qbe [.t 50, .t 51] false), oA 53 (.bin .eql (.t 52) (oC 0)), ⟨none, .store 2 (.t 2) (.t 47), none⟩, oM 3 53] [2, 3] [[2]]) <| .ret, [.cell 2 (some 2), .t 3]⟩

def Qbn : C :=
 .seq (.seq (.seq (oR [oM 20 5, oA 21 (.bin .geq (.t 20) (oC 0))] [1, 4, 5, 21] [[1]]) <| .cond (.t 21) (.skip) <| .seq (.keep [4] []) <| .exit 0) <| .seq (.seq (.blk 1 <| .seq (oR [oA 24 (.fad 0 (.t 1)), oA 25 (.load none (.t 24))] [1, 4, 5, 25] [[1]]) <| .cond (.t 25) (oR [oM 26 4, oA 27 (.bin .mul (.t 26) (oC 1000000000)), oA 28 (.fad 1 (.t 1)), oA 29 (.load none (.t 28)), oM 30 5, oA 31 (.ixa 1 (.t 29) (.t 30)), oA 32 (.load none (.t 31)), oA 33 (.bin .sub (.t 27) (.t 32)), oM 4 33] [1, 4, 5] [[1]]) <| oR [oM 34 4, oA 35 (.bin .mul (.t 34) (oC 1000000000)), oA 36 (.fad 1 (.t 1)), oA 37 (.load none (.t 36)), oM 38 5, oA 39 (.ixa 1 (.t 37) (.t 38)), oA 40 (.load none (.t 39)), oA 41 (.bin .add (.t 35) (.t 40)), oM 4 41] [1, 4, 5] [[1]]) <| .keep [1, 4, 5] [[1]]) <| oR [oM 22 5, oA 23 (.bin .sub (.t 22) (oC 1)), oM 5 23] [1, 4, 5] [[1]]) <| .keep [1, 4, 5] [[1]]
def gantryref04_Small : CF := ⟨1, .seq (oR [oA 1 (.box (.t 0)), oA 2 (.mov (oC 0)), oA 3 (.mov (.c (.v (.bool false))))] [1] [[1]]) <| .seq (.seq (oR [oL 6 2 1, oA 7 (.call QaO [(oC 9223372036854775807)] false), oA 8 (.call Qbe [.t 6, .t 7] false), oA 9 (.bin .gtr (.t 8) (oC 0)), oM 10 9, oG 11 10 false (.load (some 2) (.t 1)), oG 12 10 false (.call QaO [(oC (-9223372036854775808))] false), oG 13 10 false (.call Qbe [.t 11, .t 12] false), oG 14 10 false (.bin .lss (.t 13) (oC 0)), oA 15 (.pick (.t 10) (.c (.v (.bool true))) (.t 14))] [1, 15] [[1]]) <| .cond (.t 15) (.seq (oR [oA 2 (.mov (oC 0)), oA 3 (.mov (.c (.v (.bool false))))] [2, 3] []) <| .ret) <| .skip) <| .seq (oR [oA 4 (.mov (oC 0))] [1, 4] [[1]]) <| .seq (.seq (oR [oA 16 (.fad 1 (.t 1)), oA 17 (.load none (.t 16)), oA 18 (.len (.t 17)), oA 19 (.bin .sub (.t 18) (oC 1)), oM 5 19] [1, 4, 5] [[1]]) <| .seq (.blk 0 <| .seq (.keep [1, 4, 5] [[1]]) <| .loop Qbn) <| .keep [4] []) <| .seq (oR [oM 42 4, oM 2 42, oA 3 (.mov (.c (.v (.bool true))))] [2, 3] []) <| .ret, [.t 2, .t 3]⟩

def Qbx : C :=
 .seq (.seq (.seq (oR [oM 6 1, oA 7 (.bin .neq (.t 6) (oC 0))] [0, 1, 7] []) <| .cond (.t 7) (.skip) <| .seq (.keep [0] []) <| .exit 0) <| .seq (.blk 1 <| .seq (oR [oM 8 0, oM 9 1, oA 10 (.bin .rem (.t 8) (.t 9)), oM 5 10] [1, 5] []) <| .seq (oR [oM 11 1, oM 0 11] [0, 5] []) <| oR [oM 12 5, oM 1 12] [0, 1] []) <| .keep [0, 1] []) <| .keep [0, 1] []
def gantryref12_divisor : CF := ⟨2, .seq (oR [oA 4 (.mov (oC 0))] [0, 1] []) <| .seq (.seq (.blk 0 <| .seq (.keep [0, 1] []) <| .loop Qbx) <| .keep [0] []) <| .seq (oR [oM 13 0, oM 4 13] [4] []) <| .ret, [.t 4]⟩

def gantryref12_size : CF := ⟨1, .seq (oR [oA 2 (.mov (oC 0))] [0] []) <| .seq (oR [oM 3 0, oM 4 0, oA 5 (.un .neg (.t 4)), oA 6 (.mx [.t 3, .t 5]), oM 2 6] [2] []) <| .ret, [.t 2]⟩

def gantryref12_Left : CF := ⟨3, .seq (oR [oA 3 (.box (.t 0)), oA 4 (.box (.t 1)), oA 5 (.box (.t 2)), oA 6 (.mov (oC 0))] [3, 4, 5] [[3], [4], [5]]) <| .seq (oR [oA 7 (.fad 0 (.t 4)), oA 8 (.load none (.t 7)), oA 9 (.fad 0 (.t 3)), oA 10 (.load none (.t 9)), oA 11 (.bin .sub (.t 8) (.t 10)), oA 12 (.fad 1 (.t 5)), oA 13 (.load none (.t 12)), oA 14 (.fad 1 (.t 3)), oA 15 (.load none (.t 14)), oA 16 (.bin .sub (.t 13) (.t 15)), oA 17 (.bin .mul (.t 11) (.t 16)), oA 18 (.fad 1 (.t 4)), oA 19 (.load none (.t 18)), oA 20 (.fad 1 (.t 3)), oA 21 (.load none (.t 20)), oA 22 (.bin .sub (.t 19) (.t 21)), oA 23 (.fad 0 (.t 5)), oA 24 (.load none (.t 23)), oA 25 (.fad 0 (.t 3)), oA 26 (.load none (.t 25)), oA 27 (.bin .sub (.t 24) (.t 26)), oA 28 (.bin .mul (.t 22) (.t 27)), oA 29 (.bin .sub (.t 17) (.t 28)), oM 6 29] [6] []) <| .ret, [.t 6]⟩

def Qcb : C :=
 .seq (.seq (.seq (oR [oM 25 8, oA 26 (.fad 1 (.t 3)), oA 27 (.load none (.t 26)), oA 28 (.len (.t 27)), oA 29 (.bin .lss (.t 25) (.t 28))] [2, 3, 4, 5, 6, 7, 8, 29] [[2], [3], [4], [17]]) <| .cond (.t 29) (.skip) <| .seq (.keep [2, 3, 4, 5, 6, 7] [[2], [3], [4], [17]]) <| .exit 2) <| .seq (.seq (.blk 3 <| .seq (oR [oM 32 5, oM 33 6, oM 34 8, oA 35 (.bin .add (.t 33) (.t 34)), oA 36 (.ixa 1 (.t 32) (.t 35)), oA 37 (.load none (.t 36)), oA 38 (.fad 1 (.t 2)), oA 39 (.load none (.t 38)), oM 40 6, oA 41 (.ixa 1 (.t 39) (.t 40)), oA 42 (.load none (.t 41)), oA 43 (.fad 1 (.t 3)), oA 44 (.load none (.t 43)), oM 45 8, oA 46 (.ixa 1 (.t 44) (.t 45)), oA 47 (.load none (.t 46)), oA 48 (.bin .mul (.t 42) (.t 47)), oA 49 (.bin .add (.t 37) (.t 48)), oM 50 7, oA 51 (.bin .add (.t 49) (.t 50)), oM 9 51] [2, 3, 4, 5, 6, 8, 9] [[2], [3], [4], [17]]) <| .seq (oR [oM 52 5, oM 53 6, oM 54 8, oA 55 (.bin .add (.t 53) (.t 54)), oM 56 9, oA 57 (.bin .rem (.t 56) (oC 1000000000)), oA 58 (.ixa 1 (.t 52) (.t 55)), ⟨none, .store 1 (.t 58) (.t 57), none⟩] [2, 3, 4, 5, 6, 8, 9] [[2], [3], [4], [17]]) <| oR [oM 59 9, oA 60 (.bin .quo (.t 59) (oC 1000000000)), oM 7 60] [2, 3, 4, 5, 6, 7, 8] [[2], [3], [4], [17]]) <| .keep [2, 3, 4, 5, 6, 7, 8] [[2], [3], [4], [17]]) <| oR [oM 30 8, oA 31 (.bin .add (.t 30) (oC 1)), oM 8 31] [2, 3, 4, 5, 6, 7, 8] [[2], [3], [4], [17]]) <| .keep [2, 3, 4, 5, 6, 7, 8] [[2], [3], [4], [17]]
def Qca : C :=
 .seq (.seq (.seq (oR [oM 18 6, oA 19 (.fad 1 (.t 2)), oA 20 (.load none (.t 19)), oA 21 (.len (.t 20)), oA 22 (.bin .lss (.t 18) (.t 21))] [2, 3, 4, 5, 6, 22] [[2], [3], [4], [17]]) <| .cond (.t 22) (.skip) <| .seq (.keep [2, 3, 4, 5] [[2], [3], [4], [17]]) <| .exit 0) <| .seq (.seq (.blk 1 <| .seq (oR [oA 7 (.mov (oC 0))] [2, 3, 4, 5, 6, 7] [[2], [3], [4], [17]]) <| .seq (.seq (oR [oA 8 (.mov (oC 0))] [2, 3, 4, 5, 6, 7, 8] [[2], [3], [4], [17]]) <| .seq (.blk 2 <| .seq (.keep [2, 3, 4, 5, 6, 7, 8] [[2], [3], [4], [17]]) <| .loop Qcb) <| .keep [2, 3, 4, 5, 6, 7] [[2], [3], [4], [17]]) <| oR [oM 61 5, oM 62 6, oA 63 (.fad 1 (.t 3)), oA 64 (.load none (.t 63)), oA 65 (.len (.t 64)), oA 66 (.bin .add (.t 62) (.t 65)), oM 67 7, oA 68 (.ixa 1 (.t 61) (.t 66)), ⟨none, .store 1 (.t 68) (.t 67), none⟩] [2, 3, 4, 5, 6] [[2], [3], [4], [17]]) <| .keep [2, 3, 4, 5, 6] [[2], [3], [4], [17]]) <| oR [oM 23 6, oA 24 (.bin .add (.t 23) (oC 1)), oM 6 24] [2, 3, 4, 5, 6] [[2], [3], [4], [17]]) <| .keep [2, 3, 4, 5, 6] [[2], [3], [4], [17]]
def gantryref04_Mul : CF := ⟨2, .seq (oR [oA 2 (.box (.t 0)), oA 3 (.box (.t 1)), oA 4 (.new [.v (.bool false), .z true])] [2, 3, 4] [[2], [3], [4]]) <| .seq (oR [oA 10 (.fad 1 (.t 2)), oA 11 (.load none (.t 10)), oA 12 (.len (.t 11)), oA 13 (.fad 1 (.t 3)), oA 14 (.load none (.t 13)), oA 15 (.len (.t 14)), oA 16 (.bin .add (.t 12) (.t 15)), oA 17 (.mksl 1 8 [.v (.int .i64 0)] (.t 16) (.t 16)), oM 5 17] [2, 3, 4, 5] [[2], [3], [4], [17]]) <| .seq (.seq (oR [oA 6 (.mov (oC 0))] [2, 3, 4, 5, 6] [[2], [3], [4], [17]]) <| .seq (.blk 0 <| .seq (.keep [2, 3, 4, 5, 6] [[2], [3], [4], [17]]) <| .loop Qca) <| .keep [2, 3, 4, 5] [[2], [3], [4], [17]]) <| .seq (.seq (.frz 5) <| oR [oA 69 (.fad 0 (.t 2)), oA 70 (.load none (.t 69)), oA 71 (.fad 0 (.t 3)), oA 72 (.load none (.t 71)), oA 73 (.binb true (.t 70) (.t 72)), oM 74 5, oA 75 (.call Qam [.t 73, .t 74] false), ⟨none, .store 2 (.t 4) (.t 75), none⟩] [4] [[4]]) <| .ret, [.cell 4 (some 2)]⟩

def gantryref05_Den : CF := ⟨1, .seq (oR [oA 1 (.box (.t 0)), oA 2 (.new [.v (.bool false), .z true])] [1, 2] [[1], [2]]) <| .seq (.seq (oR [oA 3 (.fad 2 (.t 1)), oA 4 (.fad 1 (.t 3)), oA 5 (.load none (.t 4)), oA 6 (.len (.t 5)), oA 7 (.bin .eql (.t 6) (oC 0))] [1, 2, 7] [[1], [2]]) <| .cond (.t 7) (.seq (oR [oA 8 (.call QaO [(oC 1)] false), ⟨none, .store 2 (.t 2) (.t 8), none⟩] [2] [[2]]) <| .ret) <| .skip) <| .seq (oR [oA 9 (.fad 2 (.t 1)), oL 10 2 9, ⟨none, .store 2 (.t 2) (.t 10), none⟩] [2] [[2]]) <| .ret, [.cell 2 (some 2)]⟩

def Qcz : C :=
 .seq (.seq (.seq (oR [oM 38 8, oA 39 (.bin .gtr (.t 38) (oC 0))] [4, 7, 8, 39] [[4]]) <| .cond (.t 39) (.skip) <| .seq (.keep [4, 7] [[4]]) <| .exit 2) <| .seq (.blk 3 <| .seq (oR [oM 40 7, oM 41 8, oA 42 (.bin .rem (.t 40) (.t 41)), oM 9 42] [4, 8, 9] [[4]]) <| .seq (oR [oM 43 8, oM 7 43] [4, 7, 9] [[4]]) <| oR [oM 44 9, oM 8 44] [4, 7, 8] [[4]]) <| .keep [4, 7, 8] [[4]]) <| .keep [4, 7, 8] [[4]]
def Qbq : C :=
 .seq (.seq (.seq (oR [oA 18 (.fad 1 (.t 6)), oA 19 (.load none (.t 18)), oA 20 (.len (.t 19)), oA 21 (.bin .gtr (.t 20) (oC 0))] [4, 5, 6, 21] [[4], [5], [6]]) <| .cond (.t 21) (.skip) <| .seq (.keep [4, 5] [[4], [5]]) <| .exit 0) <| .seq (.blk 1 <| .seq (.seq (oR [oA 22 (.fad 1 (.t 5)), oA 23 (.load none (.t 22)), oA 24 (.len (.t 23)), oA 25 (.bin .leq (.t 24) (oC 2)), oM 26 25, oG 27 26 true (.fad 1 (.t 6)), oG 28 26 true (.load none (.t 27)), oG 29 26 true (.len (.t 28)), oG 30 26 true (.bin .leq (.t 29) (oC 2)), oA 31 (.pick (.t 26) (.t 30) (.c (.v (.bool false))))] [4, 5, 6, 31] [[4], [5], [6]]) <| .cond (.t 31) (.seq (oR [oA 32 (.fad 1 (.t 5)), oA 33 (.load none (.t 32)), oA 34 (.call QbO [.t 33] false), oM 7 34] [4, 6, 7] [[4], [6]]) <| .seq (oR [oA 35 (.fad 1 (.t 6)), oA 36 (.load none (.t 35)), oA 37 (.call QbO [.t 36] false), oM 8 37] [4, 7, 8] [[4]]) <| .seq (.seq (.blk 2 <| .seq (.keep [4, 7, 8] [[4]]) <| .loop Qcz) <| .keep [4, 7] [[4]]) <| .seq (oR [oM 45 7, oA 46 (.call QaO [.t 45] false), ⟨none, .store 2 (.t 4) (.t 46), none⟩] [4] [[4]]) <| .ret) <| .skip) <| .seq (oR [oL 48 2 5, oL 49 2 6, oA 50 (.call QcN [.t 48, .t 49] false), oM 47 50, oA 51 (.ext (.t 47) 0), oA 52 (.ext (.t 47) 1), oA 10 (.new [.v (.bool false), .z true]), oA 11 (.new [.v (.bool false), .z true]), ⟨none, .store 2 (.t 10) (.t 51), none⟩, ⟨none, .store 2 (.t 11) (.t 52), none⟩] [4, 5, 6, 11] [[4], [5], [6], [11]]) <| .seq (oR [oL 53 2 6, ⟨none, .store 2 (.t 5) (.t 53), none⟩] [4, 5, 6, 11] [[4], [5], [6], [11]]) <| oR [oL 54 2 11, ⟨none, .store 2 (.t 6) (.t 54), none⟩] [4, 5, 6] [[4], [5], [6]]) <| .keep [4, 5, 6] [[4], [5], [6]]) <| .keep [4, 5, 6] [[4], [5], [6]]
def gantryref04_Gcd : CF := ⟨2, .seq (oR [oA 2 (.box (.t 0)), oA 3 (.box (.t 1)), oA 4 (.new [.v (.bool false), .z true])] [2, 3, 4] [[2], [3], [4]]) <| .seq (oR [oA 12 (.fad 1 (.t 2)), oA 13 (.load none (.t 12)), oA 14 (.call Qam [(.c (.v (.bool false))), (.t 13)] false), oA 5 (.new [.v (.bool false), .z true]), ⟨none, .store 2 (.t 5) (.t 14), none⟩] [3, 4, 5] [[3], [4], [5]]) <| .seq (oR [oA 15 (.fad 1 (.t 3)), oA 16 (.load none (.t 15)), oA 17 (.call Qam [(.c (.v (.bool false))), (.t 16)] false), oA 6 (.new [.v (.bool false), .z true]), ⟨none, .store 2 (.t 6) (.t 17), none⟩] [4, 5, 6] [[4], [5], [6]]) <| .seq (.seq (.blk 0 <| .seq (.keep [4, 5, 6] [[4], [5], [6]]) <| .loop Qbq) <| .keep [4, 5] [[4], [5]]) <| .seq (oR [oL 55 2 5, ⟨none, .store 2 (.t 4) (.t 55), none⟩] [4] [[4]]) <| .ret, [.cell 4 (some 2)]⟩

def gantryref04_Div : CF := ⟨2, .seq (oR [oA 2 (.box (.t 0)), oA 3 (.box (.t 1)), oA 4 (.new [.v (.bool false), .z true]), oA 5 (.new [.v (.bool false), .z true])] [2, 3, 4, 5] [[2], [3], [4], [5]]) <| .seq (.seq (oR [oA 10 (.fad 1 (.t 3)), oA 11 (.load none (.t 10)), oA 12 (.len (.t 11)), oA 13 (.bin .eql (.t 12) (oC 0))] [2, 3, 4, 5, 13] [[2], [3], [4], [5]]) <| .cond (.t 13) (.seq (oR [oA 14 (.build [.v (.bool false), .z true] []), oA 15 (.build [.v (.bool false), .z true] []), ⟨none, .store 2 (.t 4) (.t 14), none⟩, ⟨none, .store 2 (.t 5) (.t 15), none⟩] [4, 5] [[4], [5]]) <| .ret) <| .skip) <| .seq (oR [oA 17 (.fad 1 (.t 2)), oA 18 (.load none (.t 17)), oA 19 (.fad 1 (.t 3)), oA 20 (.load none (.t 19)), oA 21 (.call QeC [.t 18, .t 20] false), oM 16 21, oA 22 (.ext (.t 16) 0), oA 23 (.ext (.t 16) 1), oM 6 22, oM 7 23] [2, 3, 4, 5, 6, 7] [[2], [3], [4], [5]]) <| .seq (oR [oA 24 (.fad 0 (.t 2)), oA 25 (.load none (.t 24)), oA 26 (.fad 0 (.t 3)), oA 27 (.load none (.t 26)), oA 28 (.binb true (.t 25) (.t 27)), oM 29 6, oA 30 (.call Qam [.t 28, .t 29] false), oA 8 (.new [.v (.bool false), .z true]), ⟨none, .store 2 (.t 8) (.t 30), none⟩] [2, 3, 4, 5, 7, 8] [[2], [3], [4], [5], [8]]) <| .seq (oR [oM 31 7, oA 32 (.call Qam [(.c (.v (.bool false))), (.t 31)] false), oA 9 (.new [.v (.bool false), .z true]), ⟨none, .store 2 (.t 9) (.t 32), none⟩] [2, 3, 4, 5, 8, 9] [[2], [3], [4], [5], [8], [9]]) <| .seq (.seq (oR [oA 33 (.fad 0 (.t 2)), oA 34 (.load none (.t 33)), oM 35 34, oG 36 35 true (.fad 1 (.t 9)), oG 37 35 true (.load none (.t 36)), oG 38 35 true (.len (.t 37)), oG 39 35 true (.bin .gtr (.t 38) (oC 0)), oA 40 (.pick (.t 35) (.t 39) (.c (.v (.bool false))))] [2, 3, 4, 5, 8, 9, 40] [[2], [3], [4], [5], [8], [9]]) <| .cond (.t 40) (.seq (oR [oL 41 2 8, oA 42 (.fad 0 (.t 2)), oA 43 (.load none (.t 42)), oA 44 (.fad 0 (.t 3)), oA 45 (.load none (.t 44)), oA 46 (.binb true (.t 43) (.t 45)), oA 47 (.lit 1 1 [.v (.int .i64 0)] [(0, (oC 1))] true), oA 48 (.call Qam [.t 46, .t 47] false), oA 49 (.call QcL [.t 41, .t 48] false), ⟨none, .store 2 (.t 8) (.t 49), none⟩] [3, 4, 5, 8, 9] [[3], [4], [5], [8], [9]]) <| oR [oA 50 (.fad 1 (.t 3)), oA 51 (.load none (.t 50)), oA 52 (.fad 1 (.t 9)), oA 53 (.load none (.t 52)), oA 54 (.call Qco [.t 51, .t 53] false), oA 55 (.call Qam [(.c (.v (.bool false))), (.t 54)] false), ⟨none, .store 2 (.t 9) (.t 55), none⟩] [4, 5, 8, 9] [[4], [5], [8], [9]]) <| .skip) <| .seq (.seq (.reg [oL 56 2 8, oL 57 2 9, ⟨none, .store 2 (.t 4) (.t 56), none⟩, ⟨none, .store 2 (.t 5) (.t 57), none⟩] [((.t 9), 2, (.t 4), 2)]) <| .keep [4, 5] [[4], [5]]) <| .ret, [.cell 4 (some 2), .cell 5 (some 2)]⟩

def gantryref04_Neg : CF := ⟨1, .seq (oR [oA 1 (.box (.t 0)), oA 2 (.new [.v (.bool false), .z true])] [1, 2] [[1], [2]]) <| .seq (oR [oA 3 (.fad 0 (.t 1)), oA 4 (.load none (.t 3)), oA 5 (.un .not (.t 4)), oA 6 (.fad 1 (.t 1)), oA 7 (.load none (.t 6)), oA 8 (.call Qam [.t 5, .t 7] false), ⟨none, .store 2 (.t 2) (.t 8), none⟩] [2] [[2]]) <| .ret, [.cell 2 (some 2)]⟩

def gantryref05_one : CF := ⟨1, .seq (oR [oA 1 (.box (.t 0)), oA 2 (.mov (.c (.v (.bool false))))] [1] [[1]]) <| .seq (.seq (oR [oA 3 (.fad 0 (.t 1)), oA 4 (.load none (.t 3)), oM 5 4, oG 6 5 false (.fad 1 (.t 1)), oG 7 5 false (.load none (.t 6)), oG 8 5 false (.len (.t 7)), oG 9 5 false (.bin .neq (.t 8) (oC 1)), oA 10 (.pick (.t 5) (.c (.v (.bool true))) (.t 9))] [1, 10] [[1]]) <| .cond (.t 10) (.seq (oR [oA 2 (.mov (.c (.v (.bool false))))] [2] []) <| .ret) <| .skip) <| .seq (oR [oA 11 (.fad 1 (.t 1)), oA 12 (.load none (.t 11)), oA 13 (.ixa 1 (.t 12) (oC 0)), oA 14 (.load none (.t 13)), oA 15 (.bin .eql (.t 14) (oC 1)), oM 2 15] [2] []) <| .ret, [.t 2]⟩

def QaY : C :=
 .seq (.seq (.seq (oR [oM 8 5, oA 9 (.bin .gtr (.t 8) (oC 0)), oM 10 9, oG 11 10 true (.mov (.t 1)), oG 12 10 true (.mov (.t 5)), oG 13 10 true (.bin .sub (.t 12) (oC 1)), oG 14 10 true (.mx [(.t 13), (oC 0)]), oG 15 10 true (.ixa 1 (.t 11) (.t 14)), oG 16 10 true (.load none (.t 15)), oG 17 10 true (.bin .eql (.t 16) (oC 0)), oA 18 (.pick (.t 10) (.t 17) (.c (.v (.bool false))))] [0, 1, 4, 5, 18] [[4]]) <| .cond (.t 18) (.skip) <| .seq (.keep [0, 1, 4, 5] [[4]]) <| .exit 0) <| .seq (.blk 1 <| oR [oM 19 5, oA 20 (.bin .sub (.t 19) (oC 1)), oM 5 20] [0, 1, 4, 5] [[4]]) <| .keep [0, 1, 4, 5] [[4]]) <| .keep [0, 1, 4, 5] [[4]]
def gantryref04_normal : CF := ⟨2, .seq (oR [oA 4 (.new [.v (.bool false), .z true])] [0, 1, 4] [[4]]) <| .seq (oR [oM 6 1, oA 7 (.len (.t 6)), oM 5 7] [0, 1, 4, 5] [[4]]) <| .seq (.seq (.blk 0 <| .seq (.keep [0, 1, 4, 5] [[4]]) <| .loop QaY) <| .keep [0, 1, 4, 5] [[4]]) <| .seq (.seq (oR [oM 21 5, oA 22 (.bin .eql (.t 21) (oC 0))] [0, 1, 4, 5, 22] [[4]]) <| .cond (.t 22) (.seq (oR [oA 23 (.build [.v (.bool false), .z true] []), ⟨none, .store 2 (.t 4) (.t 23), none⟩] [4] [[4]]) <| .ret) <| .skip) <| .seq (oR [oM 24 0, oM 25 1, oM 26 5, oA 27 (.slc 1 (.t 25) none (some (.t 26)) none), oA 28 (.build [.v (.bool false), .z true] [(0, 1, (.t 24)), (1, 1, (.t 27))]), ⟨none, .store 2 (.t 4) (.t 28), none⟩] [4] [[4]]) <| .ret, [.cell 4 (some 2)]⟩

def gantryref04_Sign : CF := ⟨1, .seq (oR [oA 1 (.box (.t 0)), oA 2 (.mov (oC 0))] [1] [[1]]) <| .seq (oR [oL 3 2 1, oA 4 (.build [.v (.bool false), .z true] []), oA 5 (.call Qbe [.t 3, .t 4] false), oM 2 5] [2] []) <| .ret, [.t 2]⟩

def gantryref04_Compare : CF := ⟨2, .seq (oR [oA 2 (.box (.t 0)), oA 3 (.box (.t 1)), oA 4 (.mov (oC 0))] [2, 3] [[2], [3]]) <| .seq (.seq (oR [oA 5 (.fad 0 (.t 2)), oA 6 (.load none (.t 5)), oA 7 (.fad 0 (.t 3)), oA 8 (.load none (.t 7)), oA 9 (.binb true (.t 6) (.t 8))] [2, 3, 9] [[2], [3]]) <| .cond (.t 9) (.seq (.seq (oR [oA 10 (.fad 0 (.t 2)), oA 11 (.load none (.t 10))] [11] []) <| .cond (.t 11) (.seq (oR [oA 4 (.mov (oC (-1)))] [4] []) <| .ret) <| .skip) <| .seq (oR [oA 4 (.mov (oC 1))] [4] []) <| .ret) <| .skip) <| .seq (.seq (oR [oA 12 (.fad 0 (.t 2)), oA 13 (.load none (.t 12))] [2, 3, 13] [[2], [3]]) <| .cond (.t 13) (.seq (oR [oA 14 (.fad 1 (.t 3)), oA 15 (.load none (.t 14)), oA 16 (.fad 1 (.t 2)), oA 17 (.load none (.t 16)), oA 18 (.call Qbv [.t 15, .t 17] false), oM 4 18] [4] []) <| .ret) <| .skip) <| .seq (oR [oA 19 (.fad 1 (.t 2)), oA 20 (.load none (.t 19)), oA 21 (.fad 1 (.t 3)), oA 22 (.load none (.t 21)), oA 23 (.call Qbv [.t 20, .t 22] false), oM 4 23] [4] []) <| .ret, [.t 4]⟩

def gantryref04_Add : CF := ⟨2, .seq (oR [oA 2 (.box (.t 0)), oA 3 (.box (.t 1)), oA 4 (.new [.v (.bool false), .z true])] [2, 3, 4] [[2], [3], [4]]) <| .seq (.seq (oR [oA 5 (.fad 0 (.t 2)), oA 6 (.load none (.t 5)), oA 7 (.fad 0 (.t 3)), oA 8 (.load none (.t 7)), oA 9 (.binb false (.t 6) (.t 8))] [2, 3, 4, 9] [[2], [3], [4]]) <| .cond (.t 9) (.seq (oR [oA 10 (.fad 0 (.t 2)), oA 11 (.load none (.t 10)), oA 12 (.fad 1 (.t 2)), oA 13 (.load none (.t 12)), oA 14 (.fad 1 (.t 3)), oA 15 (.load none (.t 14)), oA 16 (.call Qfi [.t 13, .t 15] false), oA 17 (.call Qam [.t 11, .t 16] false), ⟨none, .store 2 (.t 4) (.t 17), none⟩] [4] [[4]]) <| .ret) <| .skip) <| .seq (.seq (oR [oA 18 (.fad 1 (.t 2)), oA 19 (.load none (.t 18)), oA 20 (.fad 1 (.t 3)), oA 21 (.load none (.t 20)), oA 22 (.call Qbv [.t 19, .t 21] false), oA 23 (.bin .lss (.t 22) (oC 0))] [2, 3, 4, 23] [[2], [3], [4]]) <| .cond (.t 23) (.seq (oR [oA 24 (.fad 0 (.t 3)), oA 25 (.load none (.t 24)), oA 26 (.fad 1 (.t 3)), oA 27 (.load none (.t 26)), oA 28 (.fad 1 (.t 2)), oA 29 (.load none (.t 28)), oA 30 (.call Qco [.t 27, .t 29] false), oA 31 (.call Qam [.t 25, .t 30] false), ⟨none, .store 2 (.t 4) (.t 31), none⟩] [4] [[4]]) <| .ret) <| .skip) <| .seq (oR [oA 32 (.fad 0 (.t 2)), oA 33 (.load none (.t 32)), oA 34 (.fad 1 (.t 2)), oA 35 (.load none (.t 34)), oA 36 (.fad 1 (.t 3)), oA 37 (.load none (.t 36)), oA 38 (.call Qco [.t 35, .t 37] false), oA 39 (.call Qam [.t 33, .t 38] false), ⟨none, .store 2 (.t 4) (.t 39), none⟩] [4] [[4]]) <| .ret, [.cell 4 (some 2)]⟩

def slices_Clone_api_Poly_api_Rat : CF := ⟨1, .seq (oR [oA 2 (.mov (.c (.z true)))] [0] []) <| .seq (.seq (oR [oM 3 0, oA 4 (.isn false (.t 3))] [0, 4] []) <| .cond (.t 4) (.seq (oR [oA 2 (.mov (.c (.z true)))] [2] [[5], [7]]) <| .ret) <| .skip) <| .seq (oR [oA 5 (.lit 4 0 oZ4 [] false), oM 6 0, oA 7 (.app 4 64 (.t 5) (.t 6) false), oM 2 7] [2] [[5], [7]]) <| .ret, [.t 2]⟩

def gantryref05_Neg : CF := ⟨1, .seq (oR [oA 1 (.box (.t 0)), oA 2 (.new oZ4)] [1, 2] [[1], [2]]) <| .seq (oR [oA 3 (.fad 0 (.t 1)), oL 4 2 3, oA 5 (.call Qds [.t 4] false), oA 6 (.fad 2 (.t 1)), oL 7 2 6, oA 8 (.build oZ4 [(0, 2, (.t 5)), (2, 2, (.t 7))]), ⟨none, .store 4 (.t 2) (.t 8), none⟩] [2] [[2]]) <| .ret, [.cell 2 (some 4)]⟩

def QcC : C :=
 .seq (.seq (.seq (oR [oM 8 5, oA 9 (.bin .gtr (.t 8) (oC 0)), oM 10 9, oG 11 10 true (.mov (.t 1)), oG 12 10 true (.mov (.t 5)), oG 13 10 true (.bin .sub (.t 12) (oC 1)), oG 14 10 true (.ixa 1 (.t 11) (.t 13)), oG 15 10 true (.load none (.t 14)), oG 16 10 true (.bin .eql (.t 15) (oC 0)), oA 17 (.pick (.t 10) (.t 16) (.c (.v (.bool false))))] [0, 1, 4, 5, 17] [[4]]) <| .cond (.t 17) (.skip) <| .seq (.keep [0, 1, 4, 5] [[4]]) <| .exit 0) <| .seq (.blk 1 <| oR [oM 18 5, oA 19 (.bin .sub (.t 18) (oC 1)), oM 5 19] [0, 1, 4, 5] [[4]]) <| .keep [0, 1, 4, 5] [[4]]) <| .keep [0, 1, 4, 5] [[4]]
def integer_of : CF := ⟨2, .seq (oR [oA 4 (.new [.v (.bool false), .z true])] [0, 1, 4] [[4]]) <| .seq (oR [oM 6 1, oA 7 (.len (.t 6)), oM 5 7] [0, 1, 4, 5] [[4]]) <| .seq (.seq (.blk 0 <| .seq (.keep [0, 1, 4, 5] [[4]]) <| .loop QcC) <| .keep [0, 1, 4, 5] [[4]]) <| .seq (.seq (oR [oM 20 5, oA 21 (.bin .eql (.t 20) (oC 0))] [0, 1, 4, 5, 21] [[4]]) <| .cond (.t 21) (.seq (oR [oA 22 (.build [.v (.bool false), .z true] []), ⟨none, .store 2 (.t 4) (.t 22), none⟩] [4] [[4]]) <| .ret) <| .skip) <| .seq (oR [oM 23 0, oM 24 1, oM 25 5, oM 26 5, oA 27 (.slc 1 (.t 24) none (some (.t 25)) (some (.t 26))), oA 28 (.build [.v (.bool false), .z true] [(0, 1, (.t 23)), (1, 1, (.t 27))]), ⟨none, .store 2 (.t 4) (.t 28), none⟩] [4] [[4]]) <| .ret, [.cell 4 (some 2)]⟩

def QbN : C :=
 .seq (.seq (oR [oA 24 (.bin .lss (.t 23) (.t 22))] [0, 1, 5, 6, 21, 22, 23, 24] [[20]]) <| .seq (.cond (.t 24) (.skip) <| .seq (.keep [0, 5, 6] [[20]]) <| .exit 0) <| .seq (.seq (.blk 1 <| .seq (oR [oM 25 23, oA 26 (.ixa 1 (.t 21) (.t 23)), oA 27 (.load none (.t 26)), oM 7 25, oM 8 27] [0, 1, 5, 6, 7, 8, 21, 22, 23] [[20]]) <| .seq (oR [oM 28 8, oM 29 6, oA 30 (.bin .add (.t 28) (.t 29)), oM 9 30] [0, 1, 5, 7, 9, 21, 22, 23] [[20]]) <| .seq (.seq (oR [oM 31 7, oM 32 1, oA 33 (.len (.t 32)), oA 34 (.bin .lss (.t 31) (.t 33))] [0, 1, 5, 7, 9, 21, 22, 23, 34] [[20]]) <| .cond (.t 34) (oR [oM 35 9, oM 36 1, oM 37 7, oA 38 (.ixa 1 (.t 36) (.t 37)), oA 39 (.load none (.t 38)), oA 40 (.bin .add (.t 35) (.t 39)), oM 9 40] [0, 1, 5, 7, 9, 21, 22, 23] [[20]]) <| .skip) <| .seq (oR [oA 6 (.mov (oC 0))] [0, 1, 5, 6, 7, 9, 21, 22, 23] [[20]]) <| .seq (.seq (oR [oM 41 9, oA 42 (.bin .geq (.t 41) (oC 1000000000))] [0, 1, 5, 6, 7, 9, 21, 22, 23, 42] [[20]]) <| .cond (.t 42) (oR [oM 43 9, oA 44 (.bin .sub (.t 43) (oC 1000000000)), oM 9 44, oA 6 (.mov (oC 1))] [0, 1, 5, 6, 7, 9, 21, 22, 23] [[20]]) <| .skip) <| oR [oM 45 5, oM 46 7, oM 47 9, oA 48 (.ixa 1 (.t 45) (.t 46)), ⟨none, .store 1 (.t 48) (.t 47), none⟩] [0, 1, 5, 6, 21, 22, 23] [[20]]) <| .keep [0, 1, 5, 6, 21, 22, 23] [[20]]) <| oR [oA 49 (.bin .add (.t 23) (oC 1)), oM 23 49] [0, 1, 5, 6, 21, 22, 23] [[20]]) <| .keep [0, 1, 5, 6, 21, 22, 23] [[20]]
def integer_plus : CF := ⟨2, .seq (oR [oA 4 (.mov (.c (.z true)))] [0, 1] []) <| .seq (.seq (oR [oM 10 0, oA 11 (.len (.t 10)), oM 12 1, oA 13 (.len (.t 12)), oA 14 (.bin .lss (.t 11) (.t 13))] [0, 1, 14] []) <| .cond (.t 14) (oR [oM 15 1, oM 16 0, oM 0 15, oM 1 16] [0, 1] []) <| .skip) <| .seq (oR [oM 17 0, oA 18 (.len (.t 17)), oA 19 (.bin .add (.t 18) (oC 1)), oA 20 (.mksl 1 8 [.v (.int .i64 0)] (.t 19) (.t 19)), oM 5 20] [0, 1, 5] [[20]]) <| .seq (oR [oA 6 (.mov (oC 0))] [0, 1, 5, 6] [[20]]) <| .seq (.seq (oR [oM 21 0, oA 22 (.len (.t 21)), oA 23 (.mov (oC 0))] [0, 1, 5, 6, 21, 22, 23] [[20]]) <| .seq (.blk 0 <| .seq (.keep [0, 1, 5, 6, 21, 22, 23] [[20]]) <| .loop QbN) <| .keep [0, 5, 6] [[20]]) <| .seq (oR [oM 50 5, oM 51 0, oA 52 (.len (.t 51)), oM 53 6, oA 54 (.ixa 1 (.t 50) (.t 52)), ⟨none, .store 1 (.t 54) (.t 53), none⟩] [5] [[20]]) <| .seq (oR [oM 55 5, oM 4 55] [4] [[20]]) <| .ret, [.t 4]⟩

def Qbo : C :=
 .seq (.seq (.seq (oR [oM 19 5, oA 20 (.bin .geq (.t 19) (oC 0))] [0, 1, 5, 20] []) <| .cond (.t 20) (.skip) <| .seq (.keep [] []) <| .exit 0) <| .seq (.seq (.blk 1 <| .seq (oR [oM 23 0, oM 24 5, oA 25 (.ixa 1 (.t 23) (.t 24)), oA 26 (.load none (.t 25)), oM 27 1, oM 28 5, oA 29 (.ixa 1 (.t 27) (.t 28)), oA 30 (.load none (.t 29)), oA 31 (.bin .neq (.t 26) (.t 30))] [0, 1, 5, 31] []) <| .cond (.t 31) (.seq (oR [oM 32 0, oM 33 5, oA 34 (.ixa 1 (.t 32) (.t 33)), oA 35 (.load none (.t 34)), oM 36 1, oM 37 5, oA 38 (.ixa 1 (.t 36) (.t 37)), oA 39 (.load none (.t 38)), oA 40 (.call Qb2 [.t 35, .t 39] false), oM 4 40] [4] []) <| .ret) <| .skip) <| .keep [0, 1, 5] []) <| oR [oM 21 5, oA 22 (.bin .sub (.t 21) (oC 1)), oM 5 22] [0, 1, 5] []) <| .keep [0, 1, 5] []
def integer_compare : CF := ⟨2, .seq (oR [oA 4 (.mov (oC 0))] [0, 1] []) <| .seq (.seq (oR [oM 6 0, oA 7 (.len (.t 6)), oM 8 1, oA 9 (.len (.t 8)), oA 10 (.bin .neq (.t 7) (.t 9))] [0, 1, 10] []) <| .cond (.t 10) (.seq (oR [oM 11 0, oA 12 (.len (.t 11)), oM 13 1, oA 14 (.len (.t 13)), oA 15 (.call Qb2 [.t 12, .t 14] false), oM 4 15] [4] []) <| .ret) <| .skip) <| .seq (.seq (oR [oM 16 0, oA 17 (.len (.t 16)), oA 18 (.bin .sub (.t 17) (oC 1)), oM 5 18] [0, 1, 5] []) <| .seq (.blk 0 <| .seq (.keep [0, 1, 5] []) <| .loop Qbo) <| .keep [] []) <| .seq (oR [oA 4 (.mov (oC 0))] [4] []) <| .ret, [.t 4]⟩

def Qbf : C :=
 .seq (.seq (oR [oA 16 (.bin .lss (.t 15) (.t 14))] [1, 5, 14, 15, 16] [[9]]) <| .seq (.cond (.t 16) (.skip) <| .seq (.keep [5] [[9]]) <| .exit 0) <| .seq (.seq (.blk 1 <| .seq (oR [oM 17 15, oM 6 17] [1, 5, 6, 14, 15] [[9]]) <| .seq (.seq (oR [oM 18 6, oM 19 1, oA 20 (.len (.t 19)), oA 21 (.bin .lss (.t 18) (.t 20))] [1, 5, 6, 14, 15, 21] [[9]]) <| .cond (.t 21) (oR [oM 22 5, oM 23 6, oA 24 (.ixa 1 (.t 22) (.t 23)), oA 25 (.load none (.t 24)), oM 26 1, oM 27 6, oA 28 (.ixa 1 (.t 26) (.t 27)), oA 29 (.load none (.t 28)), oA 30 (.bin .sub (.t 25) (.t 29)), oA 31 (.ixa 1 (.t 22) (.t 23)), ⟨none, .store 1 (.t 31) (.t 30), none⟩] [1, 5, 6, 14, 15] [[9]]) <| .skip) <| .seq (oR [oM 32 5, oM 33 6, oA 34 (.ixa 1 (.t 32) (.t 33)), oA 35 (.load none (.t 34)), oA 36 (.bin .lss (.t 35) (oC 0))] [1, 5, 6, 14, 15, 36] [[9]]) <| .cond (.t 36) (.seq (oR [oM 37 5, oM 38 6, oA 39 (.ixa 1 (.t 37) (.t 38)), oA 40 (.load none (.t 39)), oA 41 (.bin .add (.t 40) (oC 1000000000)), oA 42 (.ixa 1 (.t 37) (.t 38)), ⟨none, .store 1 (.t 42) (.t 41), none⟩] [1, 5, 6, 14, 15] [[9]]) <| oR [oM 43 5, oM 44 6, oA 45 (.bin .add (.t 44) (oC 1)), oA 46 (.ixa 1 (.t 43) (.t 45)), oA 47 (.load none (.t 46)), oA 48 (.bin .sub (.t 47) (oC 1)), oA 49 (.ixa 1 (.t 43) (.t 45)), ⟨none, .store 1 (.t 49) (.t 48), none⟩] [1, 5, 14, 15] [[9]]) <| .skip) <| .keep [1, 5, 14, 15] [[9]]) <| oR [oA 50 (.bin .add (.t 15) (oC 1)), oM 15 50] [1, 5, 14, 15] [[9]]) <| .keep [1, 5, 14, 15] [[9]]
def integer_minus : CF := ⟨2, .seq (oR [oA 4 (.mov (.c (.z true)))] [0, 1] []) <| .seq (oR [oM 7 0, oA 8 (.len (.t 7)), oA 9 (.mksl 1 8 [.v (.int .i64 0)] (.t 8) (.t 8)), oM 5 9] [0, 1, 5] [[9]]) <| .seq (oR [oM 10 5, oM 11 0, oA 12 (.cpy 1 (.t 10) (.t 11))] [1, 5] [[9]]) <| .seq (.seq (oR [oM 13 5, oA 14 (.len (.t 13)), oA 15 (.mov (oC 0))] [1, 5, 14, 15] [[9]]) <| .seq (.blk 0 <| .seq (.keep [1, 5, 14, 15] [[9]]) <| .loop Qbf) <| .keep [5] [[9]]) <| .seq (oR [oM 51 5, oM 4 51] [4] [[9]]) <| .ret, [.t 4]⟩

def rat_one : CF := ⟨0, .seq (oR [oA 0 (.new [.v (.bool false), .z true])] [0] [[0]]) <| .seq (oR [oA 1 (.call QcX [(oC 1)] false), ⟨none, .store 2 (.t 0) (.t 1), none⟩] [0] [[0]]) <| .ret, [.cell 0 (some 2)]⟩

def QdE : C :=
 .seq (.seq (.seq (oR [oM 39 9, oA 40 (.bin .gtr (.t 39) (oC 0))] [4, 7, 9, 40] [[4]]) <| .cond (.t 40) (.skip) <| .seq (.keep [4, 7] [[4]]) <| .exit 2) <| .seq (.blk 3 <| oR [oM 41 9, oM 42 7, oM 43 9, oA 44 (.bin .rem (.t 42) (.t 43)), oM 7 41, oM 9 44] [4, 7, 9] [[4]]) <| .keep [4, 7, 9] [[4]]) <| .keep [4, 7, 9] [[4]]
def Qb6 : C :=
 .seq (.seq (.seq (oR [oA 19 (.fad 1 (.t 6)), oA 20 (.load none (.t 19)), oA 21 (.len (.t 20)), oA 22 (.bin .gtr (.t 21) (oC 0))] [4, 5, 6, 22] [[4], [5], [6]]) <| .cond (.t 22) (.skip) <| .seq (.keep [4, 5] [[4], [5]]) <| .exit 0) <| .seq (.blk 1 <| .seq (oR [oA 24 (.fad 1 (.t 5)), oA 25 (.load none (.t 24)), oA 26 (.call QdU [.t 25] false), oM 23 26, oA 27 (.ext (.t 23) 0), oA 28 (.ext (.t 23) 1), oM 7 27, oM 8 28] [4, 5, 6, 7, 8] [[4], [5], [6]]) <| .seq (oR [oA 30 (.fad 1 (.t 6)), oA 31 (.load none (.t 30)), oA 32 (.call QdU [.t 31] false), oM 29 32, oA 33 (.ext (.t 29) 0), oA 34 (.ext (.t 29) 1), oM 9 33, oM 10 34] [4, 5, 6, 7, 8, 9, 10] [[4], [5], [6]]) <| .seq (.seq (oR [oM 35 8, oM 36 35, oG 37 36 true (.mov (.t 10)), oA 38 (.pick (.t 36) (.t 37) (.c (.v (.bool false))))] [4, 5, 6, 7, 9, 38] [[4], [5], [6]]) <| .cond (.t 38) (.seq (.seq (.blk 2 <| .seq (.keep [4, 7, 9] [[4]]) <| .loop QdE) <| .keep [4, 7] [[4]]) <| .seq (oR [oM 45 7, oA 46 (.conv (.int .u64) (.t 45)), oA 47 (.call QbM [(.c (.v (.bool false))), (.t 46)] false), ⟨none, .store 2 (.t 4) (.t 47), none⟩] [4] [[4]]) <| .ret) <| .skip) <| .seq (oR [oA 49 (.fad 1 (.t 5)), oA 50 (.load none (.t 49)), oA 51 (.fad 1 (.t 6)), oA 52 (.load none (.t 51)), oA 53 (.call QeM [.t 50, .t 52] false), oM 48 53, oA 54 (.ext (.t 48) 0), oA 55 (.ext (.t 48) 1), oA 11 (.new [.v (.bool false), .z true]), oA 12 (.new [.v (.bool false), .z true]), ⟨none, .store 2 (.t 11) (.t 54), none⟩, ⟨none, .store 2 (.t 12) (.t 55), none⟩] [4, 5, 6, 12] [[4], [5], [6], [12]]) <| .seq (.reg [oL 56 2 6, oL 57 2 12, ⟨none, .store 2 (.t 5) (.t 56), none⟩, ⟨none, .store 2 (.t 6) (.t 57), none⟩] [((.t 12), 2, (.t 5), 2)]) <| .keep [4, 5, 6] [[4], [5], [6]]) <| .keep [4, 5, 6] [[4], [5], [6]]) <| .keep [4, 5, 6] [[4], [5], [6]]
def integer_Gcd : CF := ⟨2, .seq (oR [oA 2 (.box (.t 0)), oA 3 (.box (.t 1)), oA 4 (.new [.v (.bool false), .z true])] [2, 3, 4] [[2], [3], [4]]) <| .seq (oR [oA 13 (.fad 1 (.t 2)), oA 14 (.load none (.t 13)), oA 15 (.call Qbs [(.c (.v (.bool false))), (.t 14)] false), oA 16 (.fad 1 (.t 3)), oA 17 (.load none (.t 16)), oA 18 (.call Qbs [(.c (.v (.bool false))), (.t 17)] false), oA 5 (.new [.v (.bool false), .z true]), oA 6 (.new [.v (.bool false), .z true]), ⟨none, .store 2 (.t 5) (.t 15), none⟩, ⟨none, .store 2 (.t 6) (.t 18), none⟩] [4, 5, 6] [[4], [5], [6]]) <| .seq (.seq (.blk 0 <| .seq (.keep [4, 5, 6] [[4], [5], [6]]) <| .loop Qb6) <| .keep [4, 5] [[4], [5]]) <| .seq (oR [oL 58 2 5, ⟨none, .store 2 (.t 4) (.t 58), none⟩] [4] [[4]]) <| .ret, [.cell 4 (some 2)]⟩

def rat_unit : CF := ⟨1, .seq (oR [oA 1 (.box (.t 0)), oA 2 (.mov (.c (.v (.bool false))))] [1] [[1]]) <| .seq (oR [oA 3 (.fad 0 (.t 1)), oA 4 (.load none (.t 3)), oA 5 (.un .not (.t 4)), oM 6 5, oG 7 6 true (.fad 1 (.t 1)), oG 8 6 true (.load none (.t 7)), oG 9 6 true (.len (.t 8)), oG 10 6 true (.bin .eql (.t 9) (oC 1)), oA 11 (.pick (.t 6) (.t 10) (.c (.v (.bool false)))), oM 12 11, oG 13 12 true (.fad 1 (.t 1)), oG 14 12 true (.load none (.t 13)), oG 15 12 true (.ixa 1 (.t 14) (oC 0)), oG 16 12 true (.load none (.t 15)), oG 17 12 true (.bin .eql (.t 16) (oC 1)), oA 18 (.pick (.t 12) (.t 17) (.c (.v (.bool false)))), oM 2 18] [2] []) <| .ret, [.t 2]⟩

def integer_Div : CF := ⟨2, .seq (oR [oA 2 (.box (.t 0)), oA 3 (.box (.t 1)), oA 4 (.new [.v (.bool false), .z true]), oA 5 (.new [.v (.bool false), .z true])] [2, 3, 4, 5] [[2], [3], [4], [5]]) <| .seq (.seq (oR [oA 8 (.fad 1 (.t 3)), oA 9 (.load none (.t 8)), oA 10 (.len (.t 9)), oA 11 (.bin .eql (.t 10) (oC 0))] [2, 3, 4, 5, 11] [[2], [3], [4], [5]]) <| .cond (.t 11) (.seq (oR [oA 12 (.build [.v (.bool false), .z true] []), oA 13 (.build [.v (.bool false), .z true] []), ⟨none, .store 2 (.t 4) (.t 12), none⟩, ⟨none, .store 2 (.t 5) (.t 13), none⟩] [4, 5] [[4], [5]]) <| .ret) <| .skip) <| .seq (oR [oA 15 (.fad 1 (.t 2)), oA 16 (.load none (.t 15)), oA 17 (.fad 1 (.t 3)), oA 18 (.load none (.t 17)), oA 19 (.call QeM [.t 16, .t 18] false), oM 14 19, oA 20 (.ext (.t 14) 0), oA 21 (.ext (.t 14) 1), oA 6 (.new [.v (.bool false), .z true]), oA 7 (.new [.v (.bool false), .z true]), ⟨none, .store 2 (.t 6) (.t 20), none⟩, ⟨none, .store 2 (.t 7) (.t 21), none⟩] [2, 3, 4, 5, 6, 7] [[2], [3], [4], [5], [6], [7]]) <| .seq (.seq (oR [oA 22 (.fad 0 (.t 2)), oA 23 (.load none (.t 22)), oM 24 23, oG 25 24 true (.fad 1 (.t 7)), oG 26 24 true (.load none (.t 25)), oG 27 24 true (.len (.t 26)), oG 28 24 true (.bin .gtr (.t 27) (oC 0)), oA 29 (.pick (.t 24) (.t 28) (.c (.v (.bool false))))] [2, 3, 4, 5, 6, 7, 29] [[2], [3], [4], [5], [6], [7]]) <| .cond (.t 29) (.seq (oR [oA 30 (.fad 1 (.t 6)), oA 31 (.load none (.t 30)), oA 32 (.lit 1 1 [.v (.int .i64 0)] [(0, (oC 1))] true), oA 33 (.call QdG [.t 31, .t 32] false), oA 34 (.call Qbs [(.c (.v (.bool false))), (.t 33)] false), ⟨none, .store 2 (.t 6) (.t 34), none⟩] [2, 3, 4, 5, 6, 7] [[2], [3], [4], [5], [6], [7]]) <| oR [oA 35 (.fad 1 (.t 3)), oA 36 (.load none (.t 35)), oA 37 (.fad 1 (.t 7)), oA 38 (.load none (.t 37)), oA 39 (.call QdY [.t 36, .t 38] false), oA 40 (.call Qbs [(.c (.v (.bool false))), (.t 39)] false), ⟨none, .store 2 (.t 7) (.t 40), none⟩] [2, 3, 4, 5, 6, 7] [[2], [3], [4], [5], [6], [7]]) <| .skip) <| .seq (oR [oA 41 (.fad 0 (.t 2)), oA 42 (.load none (.t 41)), oA 43 (.fad 0 (.t 3)), oA 44 (.load none (.t 43)), oA 45 (.binb true (.t 42) (.t 44)), oM 46 45, oG 47 46 true (.fad 1 (.t 6)), oG 48 46 true (.load none (.t 47)), oG 49 46 true (.len (.t 48)), oG 50 46 true (.bin .gtr (.t 49) (oC 0)), oA 51 (.pick (.t 46) (.t 50) (.c (.v (.bool false)))), oA 52 (.fad 0 (.t 6)), ⟨none, .store 1 (.t 52) (.t 51), none⟩] [4, 5, 6, 7] [[4], [5], [6], [7]]) <| .seq (.seq (.reg [oL 53 2 6, oL 54 2 7, ⟨none, .store 2 (.t 4) (.t 53), none⟩, ⟨none, .store 2 (.t 5) (.t 54), none⟩] [((.t 7), 2, (.t 4), 2)]) <| .keep [4, 5] [[4], [5]]) <| .ret, [.cell 4 (some 2), .cell 5 (some 2)]⟩

def integer_unsigned : CF := ⟨2, .seq (oR [oA 4 (.new [.v (.bool false), .z true])] [0, 1, 4] [[4]]) <| .seq (.seq (.blk 0 <| .seq (oR [oM 6 1, oA 7 (.bin .eql (.t 6) (.c (.v (.int .u64 0)))), oM 5 7] [0, 1, 4, 5] [[4]]) <| .cond (.t 5) (.seq (oR [oA 8 (.build [.v (.bool false), .z true] []), ⟨none, .store 2 (.t 4) (.t 8), none⟩] [4] [[4]]) <| .ret) <| .seq (oR [oM 10 1, oA 11 (.bin .lss (.t 10) (.c (.v (.int .u64 1000000000)))), oM 9 11] [0, 1, 4, 9] [[4]]) <| .cond (.t 9) (.seq (oR [oM 12 0, oM 13 1, oA 14 (.conv (.int .i64) (.t 13)), oA 15 (.lit 1 1 [.v (.int .i64 0)] [(0, (.t 14))] true), oA 16 (.build [.v (.bool false), .z true] [(0, 1, (.t 12)), (1, 1, (.t 15))]), ⟨none, .store 2 (.t 4) (.t 16), none⟩] [4] [[4]]) <| .ret) <| .seq (oR [oM 18 1, oA 19 (.bin .lss (.t 18) (.c (.v (.int .u64 1000000000000000000)))), oM 17 19] [0, 1, 4, 17] [[4]]) <| .cond (.t 17) (.seq (oR [oM 20 0, oM 21 1, oA 22 (.bin .rem (.t 21) (.c (.v (.int .u64 1000000000)))), oA 23 (.conv (.int .i64) (.t 22)), oM 24 1, oA 25 (.bin .quo (.t 24) (.c (.v (.int .u64 1000000000)))), oA 26 (.conv (.int .i64) (.t 25)), oA 27 (.lit 1 2 [.v (.int .i64 0)] [(0, (.t 23)), (1, (.t 26))] true), oA 28 (.build [.v (.bool false), .z true] [(0, 1, (.t 20)), (1, 1, (.t 27))]), ⟨none, .store 2 (.t 4) (.t 28), none⟩] [4] [[4]]) <| .ret) <| .skip) <| .keep [0, 1, 4] [[4]]) <| .seq (oR [oM 29 0, oM 30 1, oA 31 (.bin .rem (.t 30) (.c (.v (.int .u64 1000000000)))), oA 32 (.conv (.int .i64) (.t 31)), oM 33 1, oA 34 (.bin .quo (.t 33) (.c (.v (.int .u64 1000000000)))), oA 35 (.bin .rem (.t 34) (.c (.v (.int .u64 1000000000)))), oA 36 (.conv (.int .i64) (.t 35)), oM 37 1, oA 38 (.bin .quo (.t 37) (.c (.v (.int .u64 1000000000)))), oA 39 (.bin .quo (.t 38) (.c (.v (.int .u64 1000000000)))), oA 40 (.conv (.int .i64) (.t 39)), oA 41 (.lit 1 3 [.v (.int .i64 0)] [(0, (.t 32)), (1, (.t 36)), (2, (.t 40))] true), oA 42 (.build [.v (.bool false), .z true] [(0, 1, (.t 29)), (1, 1, (.t 41))]), ⟨none, .store 2 (.t 4) (.t 42), none⟩] [4] [[4]]) <| .ret, [.cell 4 (some 2)]⟩

def slices_Backward_api_Poly_api_Rat_1_l0 : C :=
 .seq (.seq (.seq (oR [oM 7 3, oA 8 (.bin .geq (.t 7) (oC 0))] [0, 1, 3, 8] []) <| .cond (.t 8) (.skip) <| .seq (.keep [] []) <| .exit 0) <| .seq (.seq (.blk 1 <| .seq (oR [oM 11 0, oM 12 3, oA 13 (.load none (.t 1)), oM 14 3, oA 15 (.ixa 4 (.t 13) (.t 14)), oL 16 4 15, oA 17 (.calv (.t 11) [.t 12, .t 16]), oA 18 (.un .not (.t 17))] [0, 1, 3, 18] []) <| .cond (.t 18) (.ret) <| .skip) <| .keep [0, 1, 3] []) <| oR [oM 9 3, oA 10 (.bin .sub (.t 9) (oC 1)), oM 3 10] [0, 1, 3] []) <| .keep [0, 1, 3] []
def slices_Backward_api_Poly_api_Rat_1 : CF := ⟨2, .seq (oR [oA 4 (.load none (.t 1)), oA 5 (.len (.t 4)), oA 6 (.bin .sub (.t 5) (oC 1)), oM 3 6] [0, 1, 3] []) <| .seq (.blk 0 <| .seq (.keep [0, 1, 3] []) <| .loop slices_Backward_api_Poly_api_Rat_1_l0) <| .keep [] [], []⟩

def integer_Neg : CF := ⟨1, .seq (oR [oA 1 (.box (.t 0)), oA 2 (.new [.v (.bool false), .z true])] [1, 2] [[1], [2]]) <| .seq (oR [oA 3 (.fad 0 (.t 1)), oA 4 (.load none (.t 3)), oA 5 (.un .not (.t 4)), oM 6 5, oG 7 6 true (.fad 1 (.t 1)), oG 8 6 true (.load none (.t 7)), oG 9 6 true (.len (.t 8)), oG 10 6 true (.bin .gtr (.t 9) (oC 0)), oA 11 (.pick (.t 6) (.t 10) (.c (.v (.bool false)))), oA 12 (.fad 0 (.t 1)), ⟨none, .store 1 (.t 12) (.t 11), none⟩] [1, 2] [[1], [2]]) <| .seq (oR [oL 13 2 1, ⟨none, .store 2 (.t 2) (.t 13), none⟩] [2] [[2]]) <| .ret, [.cell 2 (some 2)]⟩

def integer_Compare : CF := ⟨2, .seq (oR [oA 2 (.box (.t 0)), oA 3 (.box (.t 1)), oA 4 (.mov (oC 0))] [2, 3] [[2], [3]]) <| .seq (.seq (.blk 0 <| .seq (oR [oA 6 (.fad 0 (.t 2)), oA 7 (.load none (.t 6)), oA 8 (.fad 0 (.t 3)), oA 9 (.load none (.t 8)), oA 10 (.binb true (.t 7) (.t 9)), oM 11 10, oG 12 11 true (.fad 0 (.t 2)), oG 13 11 true (.load none (.t 12)), oA 14 (.pick (.t 11) (.t 13) (.c (.v (.bool false)))), oM 5 14] [2, 3, 5] [[2], [3]]) <| .cond (.t 5) (.seq (oR [oA 4 (.mov (oC (-1)))] [4] []) <| .ret) <| .seq (oR [oA 16 (.fad 0 (.t 2)), oA 17 (.load none (.t 16)), oA 18 (.fad 0 (.t 3)), oA 19 (.load none (.t 18)), oA 20 (.binb true (.t 17) (.t 19)), oM 15 20] [2, 3, 15] [[2], [3]]) <| .cond (.t 15) (.seq (oR [oA 4 (.mov (oC 1))] [4] []) <| .ret) <| .seq (oR [oA 22 (.fad 0 (.t 2)), oA 23 (.load none (.t 22)), oM 21 23] [2, 3, 21] [[2], [3]]) <| .cond (.t 21) (.seq (oR [oA 24 (.fad 1 (.t 3)), oA 25 (.load none (.t 24)), oA 26 (.fad 1 (.t 2)), oA 27 (.load none (.t 26)), oA 28 (.call QcM [.t 25, .t 27] false), oM 4 28] [4] []) <| .ret) <| .skip) <| .keep [2, 3] [[2], [3]]) <| .seq (oR [oA 29 (.fad 1 (.t 2)), oA 30 (.load none (.t 29)), oA 31 (.fad 1 (.t 3)), oA 32 (.load none (.t 31)), oA 33 (.call QcM [.t 30, .t 32] false), oM 4 33] [4] []) <| .ret, [.t 4]⟩

def convex_dot : CF := ⟨2, .seq (oR [oA 2 (.box (.t 0)), oA 3 (.box (.t 1)), oA 4 (.mov (oC 0))] [2, 3] [[2], [3]]) <| .seq (oR [oA 5 (.fad 0 (.t 2)), oA 6 (.load none (.t 5)), oA 7 (.fad 0 (.t 3)), oA 8 (.load none (.t 7)), oA 9 (.bin .mul (.t 6) (.t 8)), oA 10 (.fad 1 (.t 2)), oA 11 (.load none (.t 10)), oA 12 (.fad 1 (.t 3)), oA 13 (.load none (.t 12)), oA 14 (.bin .mul (.t 11) (.t 13)), oA 15 (.bin .add (.t 9) (.t 14)), oM 4 15] [4] []) <| .ret, [.t 4]⟩

def Qax : C :=
 .seq (.seq (.seq (oR [oM 14 6, oM 15 0, oA 16 (.len (.t 15)), oA 17 (.bin .lss (.t 14) (.t 16))] [0, 1, 4, 5, 6, 17] [[4], [5]]) <| .cond (.t 17) (.skip) <| .seq (.keep [4, 5] [[4], [5]]) <| .exit 0) <| .seq (.seq (.blk 1 <| .seq (oR [oM 20 1, oM 21 0, oM 22 6, oA 23 (.ixa 2 (.t 21) (.t 22)), oL 24 2 23, oL 25 2 5, oA 26 (.calv (.t 20) [.t 24, .t 25]), oA 27 (.bin .gtr (.t 26) (oC 0))] [0, 1, 4, 5, 6, 27] [[4], [5]]) <| .cond (.t 27) (oR [oM 28 0, oM 29 6, oA 30 (.ixa 2 (.t 28) (.t 29)), oL 31 2 30, ⟨none, .store 2 (.t 5) (.t 31), none⟩] [0, 1, 4, 5, 6] [[4], [5]]) <| .skip) <| .keep [0, 1, 4, 5, 6] [[4], [5]]) <| oR [oM 18 6, oA 19 (.bin .add (.t 18) (oC 1)), oM 6 19] [0, 1, 4, 5, 6] [[4], [5]]) <| .keep [0, 1, 4, 5, 6] [[4], [5]]
def slices_MaxFunc_api_Point_api_Point : CF := ⟨2, .seq (oR [oA 4 (.new oI2)] [0, 1, 4] [[4]]) <| .seq (.seq (oR [oM 7 0, oA 8 (.len (.t 7)), oA 9 (.bin .lss (.t 8) (oC 1))] [0, 1, 4, 9] [[4]]) <| .cond (.t 9) (.cond (oC 7) (.skip) <| .skip) <| .skip) <| .seq (oR [oM 11 0, oA 12 (.ixa 2 (.t 11) (oC 0)), oL 13 2 12, oA 5 (.new oI2), ⟨none, .store 2 (.t 5) (.t 13), none⟩] [0, 1, 4, 5] [[4], [5]]) <| .seq (.seq (oR [oA 6 (.mov (oC 1))] [0, 1, 4, 5, 6] [[4], [5]]) <| .seq (.blk 0 <| .seq (.keep [0, 1, 4, 5, 6] [[4], [5]]) <| .loop Qax) <| .keep [4, 5] [[4], [5]]) <| .seq (oR [oL 32 2 5, ⟨none, .store 2 (.t 4) (.t 32), none⟩] [4] [[4]]) <| .ret, [.cell 4 (some 2)]⟩

def convex_Most_1 : CF := ⟨3, .seq (oR [oA 3 (.box (.t 0)), oA 4 (.box (.t 1)), oA 5 (.mov (oC 0))] [2, 3, 4] [[3], [4]]) <| .seq (oR [oL 6 3 2, oL 7 2 3, oA 8 (.call Qfp [.t 6, .t 7] false), oL 9 3 2, oL 10 2 4, oA 11 (.call Qfp [.t 9, .t 10] false), oA 12 (.call Qb2 [.t 8, .t 11] false), oM 5 12] [5] []) <| .ret, [.t 5]⟩

def Qdm : C :=
 .seq (.seq (.blk 1 <| .seq (oR [oL 31 2 1, oL 32 2 4, oA 33 (.call Qea [.t 31, .t 32] false), oM 30 33, oA 34 (.ext (.t 30) 0), oA 35 (.ext (.t 30) 1), oA 5 (.new [.v (.bool false), .z true]), oA 6 (.new [.v (.bool false), .z true]), ⟨none, .store 2 (.t 5) (.t 34), none⟩, ⟨none, .store 2 (.t 6) (.t 35), none⟩] [1, 2, 4, 5] [[1], [2], [4], [5]]) <| .seq (oR [oL 37 2 4, oL 38 2 5, oA 39 (.call QeS [.t 37, .t 38] false), oA 40 (.call QcX [(oC 2)] false), oA 41 (.call Qea [.t 39, .t 40] false), oM 36 41, oA 42 (.ext (.t 36) 0), oA 43 (.ext (.t 36) 1), oA 7 (.new [.v (.bool false), .z true]), oA 8 (.new [.v (.bool false), .z true]), ⟨none, .store 2 (.t 7) (.t 42), none⟩, ⟨none, .store 2 (.t 8) (.t 43), none⟩] [1, 2, 4, 7] [[1], [2], [4], [7]]) <| .seq (.seq (oR [oL 44 2 7, oL 45 2 4, oA 46 (.call QcV [.t 44, .t 45] false), oA 47 (.bin .geq (.t 46) (oC 0))] [1, 2, 4, 7, 47] [[1], [2], [4], [7]]) <| .cond (.t 47) (.seq (.keep [1, 2, 4] [[1], [2], [4]]) <| .exit 0) <| .skip) <| oR [oL 48 2 7, ⟨none, .store 2 (.t 4) (.t 48), none⟩] [1, 2, 4] [[1], [2], [4]]) <| .keep [1, 2, 4] [[1], [2], [4]]) <| .keep [1, 2, 4] [[1], [2], [4]]
def integer_Root : CF := ⟨1, .seq (oR [oA 1 (.box (.t 0)), oA 2 (.new [.v (.bool false), .z true]), oA 3 (.mov (.c (.v (.bool false))))] [1, 2] [[1], [2]]) <| .seq (.seq (oR [oA 9 (.fad 0 (.t 1)), oA 10 (.load none (.t 9)), oM 11 10, oG 12 11 false (.fad 1 (.t 1)), oG 13 11 false (.load none (.t 12)), oG 14 11 false (.len (.t 13)), oG 15 11 false (.bin .eql (.t 14) (oC 0)), oA 16 (.pick (.t 11) (.c (.v (.bool true))) (.t 15))] [1, 2, 16] [[1], [2]]) <| .cond (.t 16) (.seq (.seq (.reg [oA 17 (.build [.v (.bool false), .z true] []), oA 18 (.fad 0 (.t 1)), oA 19 (.load none (.t 18)), oA 20 (.un .not (.t 19)), ⟨none, .store 2 (.t 2) (.t 17), none⟩, oM 3 20] [((.t 18), 1, (.t 2), 2)]) <| .keep [2, 3] [[2]]) <| .ret) <| .skip) <| .seq (oR [oA 21 (.fad 1 (.t 1)), oA 22 (.load none (.t 21)), oA 23 (.len (.t 22)), oA 24 (.bin .add (.t 23) (oC 1)), oA 25 (.bin .quo (.t 24) (oC 2)), oA 26 (.mksl 1 8 [.v (.int .i64 0)] (.t 25) (.t 25)), oA 27 (.lit 1 1 [.v (.int .i64 0)] [(0, (oC 1))] true), oA 28 (.app 1 8 (.t 26) (.t 27) true), oA 29 (.call Qbs [(.c (.v (.bool false))), (.t 28)] false), oA 4 (.new [.v (.bool false), .z true]), ⟨none, .store 2 (.t 4) (.t 29), none⟩] [1, 2, 4] [[1], [2], [4]]) <| .seq (.seq (.blk 0 <| .seq (.keep [1, 2, 4] [[1], [2], [4]]) <| .loop Qdm) <| .keep [1, 2, 4] [[1], [2], [4]]) <| .seq (oR [oL 49 2 4, oL 50 2 4, oL 51 2 4, oA 52 (.call QbP [.t 50, .t 51] false), oL 53 2 1, oA 54 (.call QcV [.t 52, .t 53] false), oA 55 (.bin .eql (.t 54) (oC 0)), ⟨none, .store 2 (.t 2) (.t 49), none⟩, oM 3 55] [2, 3] [[2]]) <| .ret, [.cell 2 (some 2), .t 3]⟩

def Qct : C :=
 .seq (.seq (.seq (oR [oM 27 5, oA 28 (.bin .geq (.t 27) (oC 0))] [1, 4, 5, 28] [[1]]) <| .cond (.t 28) (.skip) <| .seq (.keep [1, 4] [[1]]) <| .exit 0) <| .seq (.seq (.blk 1 <| oR [oM 31 4, oA 32 (.bin .mul (.t 31) (.c (.v (.int .u64 1000000000)))), oA 33 (.fad 1 (.t 1)), oA 34 (.load none (.t 33)), oM 35 5, oA 36 (.ixa 1 (.t 34) (.t 35)), oA 37 (.load none (.t 36)), oA 38 (.conv (.int .u64) (.t 37)), oA 39 (.bin .add (.t 32) (.t 38)), oM 4 39] [1, 4, 5] [[1]]) <| .keep [1, 4, 5] [[1]]) <| oR [oM 29 5, oA 30 (.bin .sub (.t 29) (oC 1)), oM 5 30] [1, 4, 5] [[1]]) <| .keep [1, 4, 5] [[1]]
def integer_Small : CF := ⟨1, .seq (oR [oA 1 (.box (.t 0)), oA 2 (.mov (oC 0)), oA 3 (.mov (.c (.v (.bool false))))] [1] [[1]]) <| .seq (.seq (oR [oA 6 (.fad 1 (.t 1)), oA 7 (.load none (.t 6)), oA 8 (.len (.t 7)), oA 9 (.bin .gtr (.t 8) (oC 3)), oM 10 9, oG 11 10 false (.fad 1 (.t 1)), oG 12 10 false (.load none (.t 11)), oG 13 10 false (.len (.t 12)), oG 14 10 false (.bin .eql (.t 13) (oC 3)), oG 15 10 false (.mov (.t 14)), oG 16 15 true (.fad 1 (.t 1)), oG 17 15 true (.load none (.t 16)), oG 18 15 true (.ixa 1 (.t 17) (oC 2)), oG 19 15 true (.load none (.t 18)), oG 20 15 true (.bin .gtr (.t 19) (oC 9)), oG 21 10 false (.pick (.t 15) (.t 20) (.c (.v (.bool false)))), oA 22 (.pick (.t 10) (.c (.v (.bool true))) (.t 21))] [1, 22] [[1]]) <| .cond (.t 22) (.seq (oR [oA 2 (.mov (oC 0)), oA 3 (.mov (.c (.v (.bool false))))] [2, 3] []) <| .ret) <| .skip) <| .seq (oR [oA 4 (.mov (.c (.v (.int .u64 0))))] [1, 4] [[1]]) <| .seq (.seq (oR [oA 23 (.fad 1 (.t 1)), oA 24 (.load none (.t 23)), oA 25 (.len (.t 24)), oA 26 (.bin .sub (.t 25) (oC 1)), oM 5 26] [1, 4, 5] [[1]]) <| .seq (.blk 0 <| .seq (.keep [1, 4, 5] [[1]]) <| .loop Qct) <| .keep [1, 4] [[1]]) <| .seq (.seq (.blk 2 <| .seq (oR [oA 41 (.fad 0 (.t 1)), oA 42 (.load none (.t 41)), oM 43 42, oG 44 43 true (.mov (.t 4)), oG 45 43 true (.bin .leq (.t 44) (.c (.v (.int .u64 9223372036854775808)))), oA 46 (.pick (.t 43) (.t 45) (.c (.v (.bool false)))), oM 40 46] [1, 4, 40] [[1]]) <| .cond (.t 40) (.seq (oR [oM 47 4, oA 48 (.un .neg (.t 47)), oA 49 (.conv (.int .i64) (.t 48)), oM 2 49, oA 3 (.mov (.c (.v (.bool true))))] [2, 3] []) <| .ret) <| .seq (oR [oA 51 (.fad 0 (.t 1)), oA 52 (.load none (.t 51)), oA 53 (.un .not (.t 52)), oM 54 53, oG 55 54 true (.mov (.t 4)), oG 56 54 true (.bin .lss (.t 55) (.c (.v (.int .u64 9223372036854775808)))), oA 57 (.pick (.t 54) (.t 56) (.c (.v (.bool false)))), oM 50 57] [4, 50] []) <| .cond (.t 50) (.seq (oR [oM 58 4, oA 59 (.conv (.int .i64) (.t 58)), oM 2 59, oA 3 (.mov (.c (.v (.bool true))))] [2, 3] []) <| .ret) <| .skip) <| .keep [] []) <| .seq (oR [oA 2 (.mov (oC 0)), oA 3 (.mov (.c (.v (.bool false))))] [2, 3] []) <| .ret, [.t 2, .t 3]⟩

def Qdp : C :=
 .seq (.seq (.seq (oR [oM 5 1, oA 6 (.bin .neq (.t 5) (oC 0))] [0, 1, 6] []) <| .cond (.t 6) (.skip) <| .seq (.keep [0] []) <| .exit 0) <| .seq (.blk 1 <| oR [oM 7 1, oM 8 0, oM 9 1, oA 10 (.bin .rem (.t 8) (.t 9)), oM 0 7, oM 1 10] [0, 1] []) <| .keep [0, 1] []) <| .keep [0, 1] []
def convex_gcd : CF := ⟨2, .seq (oR [oA 4 (.mov (oC 0))] [0, 1] []) <| .seq (.seq (.blk 0 <| .seq (.keep [0, 1] []) <| .loop Qdp) <| .keep [0] []) <| .seq (oR [oM 11 0, oM 12 0, oA 13 (.un .neg (.t 12)), oA 14 (.mx [.t 11, .t 13]), oM 4 14] [4] []) <| .ret, [.t 4]⟩

def cmp_isNaN_int : CF := ⟨1, .seq (oR [oA 2 (.mov (.c (.v (.bool false))))] [0] []) <| .seq (oR [oM 3 0, oM 4 0, oA 5 (.bin .neq (.t 3) (.t 4)), oM 2 5] [2] []) <| .ret, [.t 2]⟩

def gantryref04_tiny : CF := ⟨1, .seq (oR [oA 2 (.mov (oC 0))] [0] []) <| .seq (oR [oM 3 0, oA 4 (.call QbY [(.t 3), (oC 1)] false), oA 5 (.bin .mul (.t 4) (oC 1000000000)), oM 6 0, oA 7 (.call QbY [(.t 6), (oC 0)] false), oA 8 (.bin .add (.t 5) (.t 7)), oM 2 8] [2] []) <| .ret, [.t 2]⟩

def Qbw : C :=
 .seq (.seq (.seq (oR [oM 64 12, oM 65 13, oA 66 (.bin .lss (.t 64) (.t 65))] [0, 1, 8, 9, 10, 12, 13, 66] [[42]]) <| .cond (.t 66) (.skip) <| .seq (.keep [0, 1, 8, 9, 10, 12] [[42]]) <| .exit 2) <| .seq (.blk 3 <| .seq (oR [oM 67 12, oM 68 13, oA 69 (.bin .add (.t 67) (.t 68)), oA 70 (.bin .add (.t 69) (oC 1)), oA 71 (.bin .quo (.t 70) (oC 2)), oM 14 71] [0, 1, 8, 9, 10, 12, 13, 14] [[42]]) <| .seq (oR [oM 72 1, oM 73 14, oA 74 (.call QdK [.t 72, .t 73] false), oM 75 9, oA 76 (.call Qbv [.t 74, .t 75] false), oA 77 (.bin .leq (.t 76) (oC 0))] [0, 1, 8, 9, 10, 12, 13, 14, 77] [[42]]) <| .cond (.t 77) (oR [oM 78 14, oM 12 78] [0, 1, 8, 9, 10, 12, 13] [[42]]) <| oR [oM 79 14, oA 80 (.bin .sub (.t 79) (oC 1)), oM 13 80] [0, 1, 8, 9, 10, 12, 13] [[42]]) <| .keep [0, 1, 8, 9, 10, 12, 13] [[42]]) <| .keep [0, 1, 8, 9, 10, 12, 13] [[42]]
def Qa7 : C :=
 .seq (.seq (.seq (oR [oM 46 10, oA 47 (.bin .geq (.t 46) (oC 0))] [0, 1, 8, 9, 10, 47] [[42]]) <| .cond (.t 47) (.skip) <| .seq (.keep [8, 9] [[42]]) <| .exit 0) <| .seq (.seq (.blk 1 <| .seq (oR [oM 50 0, oM 51 10, oA 52 (.ixa 1 (.t 50) (.t 51)), oA 53 (.load none (.t 52)), oA 54 (.lit 1 1 [.v (.int .i64 0)] [(0, (.t 53))] false), oM 55 9, oA 56 (.app 1 8 (.t 54) (.t 55) true), oA 57 (.call Qam [(.c (.v (.bool false))), (.t 56)] false), oA 11 (.new [.v (.bool false), .z true]), ⟨none, .store 2 (.t 11) (.t 57), none⟩] [0, 1, 8, 10, 11] [[11], [42]]) <| .seq (oR [oA 58 (.fad 1 (.t 11)), oA 59 (.load none (.t 58)), oM 9 59] [0, 1, 8, 9, 10] [[42]]) <| .seq (oR [oA 12 (.mov (oC 0))] [0, 1, 8, 9, 10, 12] [[42]]) <| .seq (oR [oA 13 (.mov (oC 999999999))] [0, 1, 8, 9, 10, 12, 13] [[42]]) <| .seq (.seq (oR [oM 60 9, oM 61 1, oA 62 (.call Qbv [.t 60, .t 61] false), oA 63 (.bin .lss (.t 62) (oC 0))] [0, 1, 8, 9, 10, 12, 13, 63] [[42]]) <| .cond (.t 63) (oR [oA 13 (.mov (oC 0))] [0, 1, 8, 9, 10, 12, 13] [[42]]) <| .skip) <| .seq (.seq (.blk 2 <| .seq (.keep [0, 1, 8, 9, 10, 12, 13] [[42]]) <| .loop Qbw) <| .keep [0, 1, 8, 9, 10, 12] [[42]]) <| .seq (oR [oM 81 9, oM 82 1, oM 83 12, oA 84 (.call QdK [.t 82, .t 83] false), oA 85 (.call Qco [.t 81, .t 84] false), oA 86 (.call Qam [(.c (.v (.bool false))), (.t 85)] false), oA 15 (.new [.v (.bool false), .z true]), ⟨none, .store 2 (.t 15) (.t 86), none⟩] [0, 1, 8, 10, 12, 15] [[15], [42]]) <| .seq (oR [oM 87 8, oM 88 10, oM 89 12, oA 90 (.ixa 1 (.t 87) (.t 88)), ⟨none, .store 1 (.t 90) (.t 89), none⟩] [0, 1, 8, 10, 15] [[15], [42]]) <| oR [oA 91 (.fad 1 (.t 15)), oA 92 (.load none (.t 91)), oM 9 92] [0, 1, 8, 9, 10] [[42]]) <| .keep [0, 1, 8, 9, 10] [[42]]) <| oR [oM 48 10, oA 49 (.bin .sub (.t 48) (oC 1)), oM 10 49] [0, 1, 8, 9, 10] [[42]]) <| .keep [0, 1, 8, 9, 10] [[42]]
def gantryref04_divided : CF := ⟨2, .seq (oR [oA 4 (.mov (.c (.z true))), oA 5 (.mov (.c (.z true)))] [0, 1] []) <| .seq (.seq (oR [oM 16 0, oA 17 (.len (.t 16)), oA 18 (.bin .leq (.t 17) (oC 2)), oM 19 18, oG 20 19 true (.mov (.t 1)), oG 21 19 true (.len (.t 20)), oG 22 19 true (.bin .leq (.t 21) (oC 2)), oA 23 (.pick (.t 19) (.t 22) (.c (.v (.bool false))))] [0, 1, 23] []) <| .cond (.t 23) (.seq (oR [oM 24 0, oA 25 (.call QbO [.t 24] false), oM 26 1, oA 27 (.call QbO [.t 26] false), oA 28 (.bin .quo (.t 25) (.t 27)), oA 29 (.call QaO [.t 28] false), oA 6 (.new [.v (.bool false), .z true]), ⟨none, .store 2 (.t 6) (.t 29), none⟩] [0, 1, 6] [[6]]) <| .seq (oR [oM 30 0, oA 31 (.call QbO [.t 30] false), oM 32 1, oA 33 (.call QbO [.t 32] false), oA 34 (.bin .rem (.t 31) (.t 33)), oA 35 (.call QaO [.t 34] false), oA 7 (.new [.v (.bool false), .z true]), ⟨none, .store 2 (.t 7) (.t 35), none⟩] [6, 7] [[6], [7]]) <| .seq (oR [oA 36 (.fad 1 (.t 6)), oA 37 (.load none (.t 36)), oA 38 (.fad 1 (.t 7)), oA 39 (.load none (.t 38)), oM 4 37, oM 5 39] [4, 5] [[42]]) <| .ret) <| .skip) <| .seq (oR [oM 40 0, oA 41 (.len (.t 40)), oA 42 (.mksl 1 8 [.v (.int .i64 0)] (.t 41) (.t 41)), oM 8 42] [0, 1, 8] [[42]]) <| .seq (oR [oA 9 (.mov (.c (.z true)))] [0, 1, 8, 9] [[42]]) <| .seq (.seq (oR [oM 43 0, oA 44 (.len (.t 43)), oA 45 (.bin .sub (.t 44) (oC 1)), oM 10 45] [0, 1, 8, 9, 10] [[42]]) <| .seq (.blk 0 <| .seq (.keep [0, 1, 8, 9, 10] [[42]]) <| .loop Qa7) <| .keep [8, 9] [[42]]) <| .seq (oR [oM 93 8, oM 94 9, oM 4 93, oM 5 94] [4, 5] [[42]]) <| .ret, [.t 4, .t 5]⟩

def QaM : C :=
 .seq (.seq (.seq (oR [oM 9 7, oM 10 0, oA 11 (.len (.t 10)), oA 12 (.bin .lss (.t 9) (.t 11))] [0, 1, 5, 6, 7, 12] [[32]]) <| .cond (.t 12) (.skip) <| .seq (.keep [5] [[32]]) <| .exit 0) <| .seq (.seq (.blk 1 <| .seq (oR [oM 15 0, oM 16 7, oA 17 (.ixa 1 (.t 15) (.t 16)), oA 18 (.load none (.t 17)), oM 19 1, oM 20 7, oA 21 (.call QbY [.t 19, .t 20] false), oA 22 (.bin .sub (.t 18) (.t 21)), oM 23 6, oA 24 (.bin .sub (.t 22) (.t 23)), oM 8 24] [0, 1, 5, 7, 8] [[32]]) <| .seq (oR [oA 6 (.mov (oC 0))] [0, 1, 5, 6, 7, 8] [[32]]) <| .seq (.seq (oR [oM 25 8, oA 26 (.bin .lss (.t 25) (oC 0))] [0, 1, 5, 6, 7, 8, 26] [[32]]) <| .cond (.t 26) (.seq (oR [oM 27 8, oA 28 (.bin .add (.t 27) (oC 1000000000)), oM 8 28] [0, 1, 5, 7, 8] [[32]]) <| oR [oA 6 (.mov (oC 1))] [0, 1, 5, 6, 7, 8] [[32]]) <| .skip) <| oR [oM 29 5, oM 30 8, oA 31 (.lit 1 1 [.v (.int .i64 0)] [(0, (.t 30))] true), oA 32 (.app 1 8 (.t 29) (.t 31) false), oM 5 32] [0, 1, 5, 6, 7] [[32]]) <| .keep [0, 1, 5, 6, 7] [[32]]) <| oR [oM 13 7, oA 14 (.bin .add (.t 13) (oC 1)), oM 7 14] [0, 1, 5, 6, 7] [[32]]) <| .keep [0, 1, 5, 6, 7] [[32]]
def gantryref04_minus : CF := ⟨2, .seq (oR [oA 4 (.mov (.c (.z true)))] [0, 1] []) <| .seq (oR [oA 5 (.mov (.c (.z true)))] [0, 1, 5] [[32]]) <| .seq (oR [oA 6 (.mov (oC 0))] [0, 1, 5, 6] [[32]]) <| .seq (.seq (oR [oA 7 (.mov (oC 0))] [0, 1, 5, 6, 7] [[32]]) <| .seq (.blk 0 <| .seq (.keep [0, 1, 5, 6, 7] [[32]]) <| .loop QaM) <| .keep [5] [[32]]) <| .seq (oR [oM 33 5, oM 4 33] [4] [[32]]) <| .ret, [.t 4]⟩

def QaD : C :=
 .seq (.seq (.seq (oR [oM 19 5, oA 20 (.bin .geq (.t 19) (oC 0))] [0, 1, 5, 20] []) <| .cond (.t 20) (.skip) <| .seq (.keep [] []) <| .exit 0) <| .seq (.seq (.blk 1 <| .seq (.seq (oR [oM 23 0, oM 24 5, oA 25 (.ixa 1 (.t 23) (.t 24)), oA 26 (.load none (.t 25)), oM 27 1, oM 28 5, oA 29 (.ixa 1 (.t 27) (.t 28)), oA 30 (.load none (.t 29)), oA 31 (.bin .lss (.t 26) (.t 30))] [0, 1, 5, 31] []) <| .cond (.t 31) (.seq (oR [oA 4 (.mov (oC (-1)))] [4] []) <| .ret) <| .skip) <| .seq (oR [oM 32 0, oM 33 5, oA 34 (.ixa 1 (.t 32) (.t 33)), oA 35 (.load none (.t 34)), oM 36 1, oM 37 5, oA 38 (.ixa 1 (.t 36) (.t 37)), oA 39 (.load none (.t 38)), oA 40 (.bin .gtr (.t 35) (.t 39))] [0, 1, 5, 40] []) <| .cond (.t 40) (.seq (oR [oA 4 (.mov (oC 1))] [4] []) <| .ret) <| .skip) <| .keep [0, 1, 5] []) <| oR [oM 21 5, oA 22 (.bin .sub (.t 21) (oC 1)), oM 5 22] [0, 1, 5] []) <| .keep [0, 1, 5] []
def gantryref04_compared : CF := ⟨2, .seq (oR [oA 4 (.mov (oC 0))] [0, 1] []) <| .seq (.seq (oR [oM 6 0, oA 7 (.len (.t 6)), oM 8 1, oA 9 (.len (.t 8)), oA 10 (.bin .lss (.t 7) (.t 9))] [0, 1, 10] []) <| .cond (.t 10) (.seq (oR [oA 4 (.mov (oC (-1)))] [4] []) <| .ret) <| .skip) <| .seq (.seq (oR [oM 11 0, oA 12 (.len (.t 11)), oM 13 1, oA 14 (.len (.t 13)), oA 15 (.bin .gtr (.t 12) (.t 14))] [0, 1, 15] []) <| .cond (.t 15) (.seq (oR [oA 4 (.mov (oC 1))] [4] []) <| .ret) <| .skip) <| .seq (.seq (oR [oM 16 0, oA 17 (.len (.t 16)), oA 18 (.bin .sub (.t 17) (oC 1)), oM 5 18] [0, 1, 5] []) <| .seq (.blk 0 <| .seq (.keep [0, 1, 5] []) <| .loop QaD) <| .keep [] []) <| .seq (oR [oA 4 (.mov (oC 0))] [4] []) <| .ret, [.t 4]⟩

def Qa0 : C :=
 .seq (.seq (.seq (oR [oM 9 7, oM 10 0, oA 11 (.len (.t 10)), oA 12 (.bin .lss (.t 9) (.t 11)), oM 13 12, oG 14 13 false (.mov (.t 7)), oG 15 13 false (.mov (.t 1)), oG 16 13 false (.len (.t 15)), oG 17 13 false (.bin .lss (.t 14) (.t 16)), oA 18 (.pick (.t 13) (.c (.v (.bool true))) (.t 17)), oM 19 18, oG 20 19 false (.mov (.t 6)), oG 21 19 false (.bin .gtr (.t 20) (oC 0)), oA 22 (.pick (.t 19) (.c (.v (.bool true))) (.t 21))] [0, 1, 5, 6, 7, 22] [[38]]) <| .cond (.t 22) (.skip) <| .seq (.keep [5] [[38]]) <| .exit 0) <| .seq (.seq (.blk 1 <| .seq (oR [oM 25 0, oM 26 7, oA 27 (.call QbY [.t 25, .t 26] false), oM 28 1, oM 29 7, oA 30 (.call QbY [.t 28, .t 29] false), oA 31 (.bin .add (.t 27) (.t 30)), oM 32 6, oA 33 (.bin .add (.t 31) (.t 32)), oM 8 33] [0, 1, 5, 7, 8] [[38]]) <| .seq (oR [oM 34 5, oM 35 8, oA 36 (.bin .rem (.t 35) (oC 1000000000)), oA 37 (.lit 1 1 [.v (.int .i64 0)] [(0, (.t 36))] true), oA 38 (.app 1 8 (.t 34) (.t 37) false), oM 5 38] [0, 1, 5, 7, 8] [[38]]) <| oR [oM 39 8, oA 40 (.bin .quo (.t 39) (oC 1000000000)), oM 6 40] [0, 1, 5, 6, 7] [[38]]) <| .keep [0, 1, 5, 6, 7] [[38]]) <| oR [oM 23 7, oA 24 (.bin .add (.t 23) (oC 1)), oM 7 24] [0, 1, 5, 6, 7] [[38]]) <| .keep [0, 1, 5, 6, 7] [[38]]
def gantryref04_plus : CF := ⟨2, .seq (oR [oA 4 (.mov (.c (.z true)))] [0, 1] []) <| .seq (oR [oA 5 (.mov (.c (.z true)))] [0, 1, 5] [[38]]) <| .seq (oR [oA 6 (.mov (oC 0))] [0, 1, 5, 6] [[38]]) <| .seq (.seq (oR [oA 7 (.mov (oC 0))] [0, 1, 5, 6, 7] [[38]]) <| .seq (.blk 0 <| .seq (.keep [0, 1, 5, 6, 7] [[38]]) <| .loop Qa0) <| .keep [5] [[38]]) <| .seq (oR [oM 41 5, oM 4 41] [4] [[38]]) <| .ret, [.t 4]⟩

def integer_two : CF := ⟨1, .seq (oR [oA 2 (.mov (oC 0)), oA 3 (.mov (.c (.v (.bool false))))] [0] []) <| .seq (.seq (oR [oM 4 0, oA 5 (.len (.t 4))] [0, 5] []) <| .seq (.blk 0 <| .seq (oR [oA 7 (.bin .eql (.t 5) (oC 0)), oM 6 7] [0, 5, 6] []) <| .cond (.t 6) (.seq (oR [oA 2 (.mov (oC 0)), oA 3 (.mov (.c (.v (.bool true))))] [2, 3] []) <| .ret) <| .seq (oR [oA 9 (.bin .eql (.t 5) (oC 1)), oM 8 9] [0, 5, 8] []) <| .cond (.t 8) (.seq (oR [oM 10 0, oA 11 (.ixa 1 (.t 10) (oC 0)), oA 12 (.load none (.t 11)), oM 2 12, oA 3 (.mov (.c (.v (.bool true))))] [2, 3] []) <| .ret) <| .seq (oR [oA 14 (.bin .eql (.t 5) (oC 2)), oM 13 14] [0, 13] []) <| .cond (.t 13) (.seq (oR [oM 15 0, oA 16 (.ixa 1 (.t 15) (oC 1)), oA 17 (.load none (.t 16)), oA 18 (.bin .mul (.t 17) (oC 1000000000)), oM 19 0, oA 20 (.ixa 1 (.t 19) (oC 0)), oA 21 (.load none (.t 20)), oA 22 (.bin .add (.t 18) (.t 21)), oM 2 22, oA 3 (.mov (.c (.v (.bool true))))] [2, 3] []) <| .ret) <| .skip) <| .keep [] []) <| .seq (oR [oA 2 (.mov (oC 0)), oA 3 (.mov (.c (.v (.bool false))))] [2, 3] []) <| .ret, [.t 2, .t 3]⟩

def integer_divide : CF := ⟨2, .seq (oR [oA 4 (.new [.v (.bool false), .z true]), oA 5 (.new [.v (.bool false), .z true])] [0, 1, 4, 5] [[4], [5]]) <| .seq (.seq (oR [oM 15 0, oA 16 (.call QdU [.t 15] false), oM 14 16, oA 17 (.ext (.t 14) 0), oA 18 (.ext (.t 14) 1), oM 6 17, oM 7 18] [0, 1, 4, 5, 6, 7] [[4], [5]]) <| .seq (oR [oM 19 7] [0, 1, 4, 5, 6, 19] [[4], [5]]) <| .cond (.t 19) (.seq (oR [oM 21 1, oA 22 (.call QdU [.t 21] false), oM 20 22, oA 23 (.ext (.t 20) 0), oA 24 (.ext (.t 20) 1), oM 8 23, oM 9 24] [0, 1, 4, 5, 6, 8, 9] [[4], [5]]) <| .seq (oR [oM 25 9] [0, 1, 4, 5, 6, 8, 25] [[4], [5]]) <| .cond (.t 25) (.seq (oR [oM 26 6, oM 27 8, oA 28 (.bin .quo (.t 26) (.t 27)), oA 29 (.conv (.int .u64) (.t 28)), oA 30 (.call QbM [(.c (.v (.bool false))), (.t 29)] false), oM 31 6, oM 32 8, oA 33 (.bin .rem (.t 31) (.t 32)), oA 34 (.conv (.int .u64) (.t 33)), oA 35 (.call QbM [(.c (.v (.bool false))), (.t 34)] false), ⟨none, .store 2 (.t 4) (.t 30), none⟩, ⟨none, .store 2 (.t 5) (.t 35), none⟩] [4, 5] [[4], [5]]) <| .ret) <| .skip) <| .skip) <| .seq (.seq (oR [oM 36 0, oM 37 1, oA 38 (.call QcM [.t 36, .t 37] false), oA 39 (.bin .lss (.t 38) (oC 0))] [0, 1, 4, 5, 39] [[4], [5]]) <| .cond (.t 39) (.seq (oR [oA 40 (.build [.v (.bool false), .z true] []), oM 41 0, oA 42 (.call Qbs [(.c (.v (.bool false))), (.t 41)] false), ⟨none, .store 2 (.t 4) (.t 40), none⟩, ⟨none, .store 2 (.t 5) (.t 42), none⟩] [4, 5] [[4], [5]]) <| .ret) <| .skip) <| .seq (.seq (oR [oM 43 1, oA 44 (.len (.t 43)), oA 45 (.bin .eql (.t 44) (oC 1))] [0, 1, 4, 5, 45] [[4], [5]]) <| .cond (.t 45) (.seq (oR [oM 47 0, oM 48 1, oA 49 (.ixa 1 (.t 48) (oC 0)), oA 50 (.load none (.t 49)), oA 51 (.call Qe5 [.t 47, .t 50] false), oM 46 51, oA 52 (.ext (.t 46) 0), oA 53 (.ext (.t 46) 1), oM 10 52, oM 11 53] [4, 5, 10, 11] [[4], [5]]) <| .seq (oR [oM 54 10, oA 55 (.call Qbs [(.c (.v (.bool false))), (.t 54)] false), oM 56 11, oA 57 (.conv (.int .u64) (.t 56)), oA 58 (.call QbM [(.c (.v (.bool false))), (.t 57)] false), ⟨none, .store 2 (.t 4) (.t 55), none⟩, ⟨none, .store 2 (.t 5) (.t 58), none⟩] [4, 5] [[4], [5]]) <| .ret) <| .skip) <| .seq (oR [oM 60 0, oM 61 1, oA 62 (.call Qhj [.t 60, .t 61] false), oM 59 62, oA 63 (.ext (.t 59) 0), oA 64 (.ext (.t 59) 1), oM 12 63, oM 13 64] [4, 5, 12, 13] [[4], [5]]) <| .seq (oR [oM 65 12, oA 66 (.call Qbs [(.c (.v (.bool false))), (.t 65)] false), oM 67 13, oA 68 (.call Qbs [(.c (.v (.bool false))), (.t 67)] false), ⟨none, .store 2 (.t 4) (.t 66), none⟩, ⟨none, .store 2 (.t 5) (.t 68), none⟩] [4, 5] [[4], [5]]) <| .ret, [.cell 4 (some 2), .cell 5 (some 2)]⟩

end Go.AM

set_option maxRecDepth 100000
namespace Go.AM
open Go Go.Proofs


def gantryref04_digit : CF := ⟨2, .seq (oR [oA 4 (.mov (oC 0))] [0, 1] []) <| .seq (.seq (oR [oM 5 1, oM 6 0, oA 7 (.len (.t 6)), oA 8 (.bin .lss (.t 5) (.t 7))] [0, 1, 8] []) <| .cond (.t 8) (.seq (oR [oM 9 0, oM 10 1, oA 11 (.ixa 1 (.t 9) (.t 10)), oA 12 (.load none (.t 11)), oM 4 12] [4] []) <| .ret) <| .skip) <| .seq (oR [oA 4 (.mov (oC 0))] [4] []) <| .ret, [.t 4]⟩

def gantryref04_times : CF := ⟨2, .seq (oR [oA 4 (.mov (.c (.z true)))] [0, 1] []) <| .seq (oR [oM 6 0, oA 7 (.call Qam [(.c (.v (.bool false))), (.t 6)] false), oM 8 1, oA 9 (.call QaO [.t 8] false), oA 10 (.call QaS [.t 7, .t 9] false), oA 5 (.new [.v (.bool false), .z true]), ⟨none, .store 2 (.t 5) (.t 10), none⟩] [5] [[5]]) <| .seq (oR [oA 11 (.fad 1 (.t 5)), oA 12 (.load none (.t 11)), oM 4 12] [4] []) <| .ret, [.t 4]⟩

def Qcs : C :=
 .seq (.seq (.seq (oR [oM 16 8, oA 17 (.bin .geq (.t 16) (oC 0))] [0, 1, 6, 7, 8, 17] [[12]]) <| .cond (.t 17) (.skip) <| .seq (.keep [6, 7] [[12]]) <| .exit 0) <| .seq (.seq (.blk 1 <| .seq (oR [oM 20 7, oA 21 (.bin .mul (.t 20) (oC 1000000000)), oM 22 0, oM 23 8, oA 24 (.ixa 1 (.t 22) (.t 23)), oA 25 (.load none (.t 24)), oA 26 (.bin .add (.t 21) (.t 25)), oM 9 26] [0, 1, 6, 8, 9] [[12]]) <| oR [oM 27 6, oM 28 8, oM 29 9, oM 30 1, oA 31 (.bin .quo (.t 29) (.t 30)), oM 32 9, oM 33 1, oA 34 (.bin .rem (.t 32) (.t 33)), oA 35 (.ixa 1 (.t 27) (.t 28)), ⟨none, .store 1 (.t 35) (.t 31), none⟩, oM 7 34] [0, 1, 6, 7, 8] [[12]]) <| .keep [0, 1, 6, 7, 8] [[12]]) <| oR [oM 18 8, oA 19 (.bin .sub (.t 18) (oC 1)), oM 8 19] [0, 1, 6, 7, 8] [[12]]) <| .keep [0, 1, 6, 7, 8] [[12]]
def integer_short : CF := ⟨2, .seq (oR [oA 4 (.mov (.c (.z true))), oA 5 (.mov (oC 0))] [0, 1] []) <| .seq (oR [oM 10 0, oA 11 (.len (.t 10)), oA 12 (.mksl 1 8 [.v (.int .i64 0)] (.t 11) (.t 11)), oM 6 12] [0, 1, 6] [[12]]) <| .seq (oR [oA 7 (.mov (oC 0))] [0, 1, 6, 7] [[12]]) <| .seq (.seq (oR [oM 13 0, oA 14 (.len (.t 13)), oA 15 (.bin .sub (.t 14) (oC 1)), oM 8 15] [0, 1, 6, 7, 8] [[12]]) <| .seq (.blk 0 <| .seq (.keep [0, 1, 6, 7, 8] [[12]]) <| .loop Qcs) <| .keep [6, 7] [[12]]) <| .seq (oR [oM 36 6, oM 37 7, oM 4 36, oM 5 37] [4, 5] [[12]]) <| .ret, [.t 4, .t 5]⟩

def QbA : C :=
 .seq (.seq (.seq (oR [oM 84 13, oA 85 (.bin .geq (.t 84) (oC 1000000000)), oM 86 85, oG 87 86 false (.mov (.t 13)), oG 88 86 false (.mov (.t 8)), oG 89 86 false (.mov (.t 9)), oG 90 86 false (.bin .sub (.t 89) (oC 2)), oG 91 86 false (.ixa 1 (.t 88) (.t 90)), oG 92 86 false (.load none (.t 91)), oG 93 86 false (.bin .mul (.t 87) (.t 92)), oG 94 86 false (.mov (.t 14)), oG 95 86 false (.bin .mul (.t 94) (oC 1000000000)), oG 96 86 false (.mov (.t 7)), oG 97 86 false (.mov (.t 11)), oG 98 86 false (.mov (.t 9)), oG 99 86 false (.bin .add (.t 97) (.t 98)), oG 100 86 false (.bin .sub (.t 99) (oC 2)), oG 101 86 false (.ixa 1 (.t 96) (.t 100)), oG 102 86 false (.load none (.t 101)), oG 103 86 false (.bin .add (.t 95) (.t 102)), oG 104 86 false (.bin .gtr (.t 93) (.t 103)), oA 105 (.pick (.t 86) (.c (.v (.bool true))) (.t 104))] [6, 7, 8, 9, 10, 11, 13, 14, 105] [[32], [46]]) <| .cond (.t 105) (.skip) <| .seq (.keep [6, 7, 8, 9, 10, 11, 13] [[32], [46]]) <| .exit 2) <| .seq (.blk 3 <| .seq (oR [oM 106 13, oA 107 (.bin .sub (.t 106) (oC 1)), oM 13 107] [6, 7, 8, 9, 10, 11, 13, 14] [[32], [46]]) <| .seq (oR [oM 108 14, oM 109 8, oM 110 9, oA 111 (.bin .sub (.t 110) (oC 1)), oA 112 (.ixa 1 (.t 109) (.t 111)), oA 113 (.load none (.t 112)), oA 114 (.bin .add (.t 108) (.t 113)), oM 14 114] [6, 7, 8, 9, 10, 11, 13, 14] [[32], [46]]) <| .seq (oR [oM 115 14, oA 116 (.bin .geq (.t 115) (oC 1000000000))] [6, 7, 8, 9, 10, 11, 13, 14, 116] [[32], [46]]) <| .cond (.t 116) (.seq (.keep [6, 7, 8, 9, 10, 11, 13] [[32], [46]]) <| .exit 2) <| .skip) <| .keep [6, 7, 8, 9, 10, 11, 13, 14] [[32], [46]]) <| .keep [6, 7, 8, 9, 10, 11, 13, 14] [[32], [46]]
def Qcl : C :=
 .seq (.seq (oR [oA 119 (.bin .lss (.t 118) (.t 117))] [6, 7, 8, 9, 10, 11, 13, 15, 117, 118, 119] [[32], [46]]) <| .seq (.cond (.t 119) (.skip) <| .seq (.keep [6, 7, 8, 9, 10, 11, 13, 15] [[32], [46]]) <| .exit 4) <| .seq (.seq (.blk 5 <| .seq (oR [oM 120 118, oM 16 120] [6, 7, 8, 9, 10, 11, 13, 15, 16, 117, 118] [[32], [46]]) <| .seq (oR [oM 121 7, oM 122 16, oM 123 11, oA 124 (.bin .add (.t 122) (.t 123)), oA 125 (.ixa 1 (.t 121) (.t 124)), oA 126 (.load none (.t 125)), oM 127 13, oM 128 8, oM 129 16, oA 130 (.ixa 1 (.t 128) (.t 129)), oA 131 (.load none (.t 130)), oA 132 (.bin .mul (.t 127) (.t 131)), oA 133 (.bin .sub (.t 126) (.t 132)), oM 134 15, oA 135 (.bin .sub (.t 133) (.t 134)), oM 17 135] [6, 7, 8, 9, 10, 11, 13, 16, 17, 117, 118] [[32], [46]]) <| .seq (oR [oA 15 (.mov (oC 0))] [6, 7, 8, 9, 10, 11, 13, 15, 16, 17, 117, 118] [[32], [46]]) <| .seq (.seq (oR [oM 136 17, oA 137 (.bin .lss (.t 136) (oC 0))] [6, 7, 8, 9, 10, 11, 13, 15, 16, 17, 117, 118, 137] [[32], [46]]) <| .cond (.t 137) (.seq (oR [oM 138 17, oA 139 (.un .neg (.t 138)), oA 140 (.bin .add (.t 139) (oC 1000000000)), oA 141 (.bin .sub (.t 140) (oC 1)), oA 142 (.bin .quo (.t 141) (oC 1000000000)), oM 15 142] [6, 7, 8, 9, 10, 11, 13, 15, 16, 17, 117, 118] [[32], [46]]) <| oR [oM 143 17, oM 144 15, oA 145 (.bin .mul (.t 144) (oC 1000000000)), oA 146 (.bin .add (.t 143) (.t 145)), oM 17 146] [6, 7, 8, 9, 10, 11, 13, 15, 16, 17, 117, 118] [[32], [46]]) <| .skip) <| oR [oM 147 7, oM 148 16, oM 149 11, oA 150 (.bin .add (.t 148) (.t 149)), oM 151 17, oA 152 (.ixa 1 (.t 147) (.t 150)), ⟨none, .store 1 (.t 152) (.t 151), none⟩] [6, 7, 8, 9, 10, 11, 13, 15, 117, 118] [[32], [46]]) <| .keep [6, 7, 8, 9, 10, 11, 13, 15, 117, 118] [[32], [46]]) <| oR [oA 153 (.bin .add (.t 118) (oC 1)), oM 118 153] [6, 7, 8, 9, 10, 11, 13, 15, 117, 118] [[32], [46]]) <| .keep [6, 7, 8, 9, 10, 11, 13, 15, 117, 118] [[32], [46]]
def QcS : C :=
 .seq (.seq (oR [oA 174 (.bin .lss (.t 173) (.t 172))] [6, 7, 8, 9, 10, 11, 13, 15, 172, 173, 174] [[32], [46]]) <| .seq (.cond (.t 174) (.skip) <| .seq (.keep [6, 7, 8, 9, 10, 11, 13, 15] [[32], [46]]) <| .exit 6) <| .seq (.seq (.blk 7 <| .seq (oR [oM 175 173, oM 18 175] [6, 7, 8, 9, 10, 11, 13, 15, 18, 172, 173] [[32], [46]]) <| .seq (oR [oM 176 7, oM 177 18, oM 178 11, oA 179 (.bin .add (.t 177) (.t 178)), oA 180 (.ixa 1 (.t 176) (.t 179)), oA 181 (.load none (.t 180)), oM 182 8, oM 183 18, oA 184 (.ixa 1 (.t 182) (.t 183)), oA 185 (.load none (.t 184)), oA 186 (.bin .add (.t 181) (.t 185)), oM 187 15, oA 188 (.bin .add (.t 186) (.t 187)), oM 19 188] [6, 7, 8, 9, 10, 11, 13, 18, 19, 172, 173] [[32], [46]]) <| oR [oM 189 7, oM 190 18, oM 191 11, oA 192 (.bin .add (.t 190) (.t 191)), oM 193 19, oA 194 (.bin .rem (.t 193) (oC 1000000000)), oM 195 19, oA 196 (.bin .quo (.t 195) (oC 1000000000)), oA 197 (.ixa 1 (.t 189) (.t 192)), ⟨none, .store 1 (.t 197) (.t 194), none⟩, oM 15 196] [6, 7, 8, 9, 10, 11, 13, 15, 172, 173] [[32], [46]]) <| .keep [6, 7, 8, 9, 10, 11, 13, 15, 172, 173] [[32], [46]]) <| oR [oA 198 (.bin .add (.t 173) (oC 1)), oM 173 198] [6, 7, 8, 9, 10, 11, 13, 15, 172, 173] [[32], [46]]) <| .keep [6, 7, 8, 9, 10, 11, 13, 15, 172, 173] [[32], [46]]
def Qcn : C :=
 .seq (.seq (.seq (oR [oM 51 11, oA 52 (.bin .geq (.t 51) (oC 0))] [6, 7, 8, 9, 10, 11, 52] [[32], [46]]) <| .cond (.t 52) (.skip) <| .seq (.keep [6, 7, 9, 10] [[32], [46]]) <| .exit 0) <| .seq (.seq (.blk 1 <| .seq (oR [oM 55 7, oM 56 11, oM 57 9, oA 58 (.bin .add (.t 56) (.t 57)), oA 59 (.ixa 1 (.t 55) (.t 58)), oA 60 (.load none (.t 59)), oA 61 (.bin .mul (.t 60) (oC 1000000000)), oM 62 7, oM 63 11, oM 64 9, oA 65 (.bin .add (.t 63) (.t 64)), oA 66 (.bin .sub (.t 65) (oC 1)), oA 67 (.ixa 1 (.t 62) (.t 66)), oA 68 (.load none (.t 67)), oA 69 (.bin .add (.t 61) (.t 68)), oM 12 69] [6, 7, 8, 9, 10, 11, 12] [[32], [46]]) <| .seq (oR [oM 70 12, oM 71 8, oM 72 9, oA 73 (.bin .sub (.t 72) (oC 1)), oA 74 (.ixa 1 (.t 71) (.t 73)), oA 75 (.load none (.t 74)), oA 76 (.bin .quo (.t 70) (.t 75)), oM 77 12, oM 78 8, oM 79 9, oA 80 (.bin .sub (.t 79) (oC 1)), oA 81 (.ixa 1 (.t 78) (.t 80)), oA 82 (.load none (.t 81)), oA 83 (.bin .rem (.t 77) (.t 82)), oM 13 76, oM 14 83] [6, 7, 8, 9, 10, 11, 13, 14] [[32], [46]]) <| .seq (.skip) <| .seq (.seq (.blk 2 <| .seq (.keep [6, 7, 8, 9, 10, 11, 13, 14] [[32], [46]]) <| .loop QbA) <| .keep [6, 7, 8, 9, 10, 11, 13] [[32], [46]]) <| .seq (oR [oA 15 (.mov (oC 0))] [6, 7, 8, 9, 10, 11, 13, 15] [[32], [46]]) <| .seq (.seq (oR [oM 117 9, oA 118 (.mov (oC 0))] [6, 7, 8, 9, 10, 11, 13, 15, 117, 118] [[32], [46]]) <| .seq (.blk 4 <| .seq (.keep [6, 7, 8, 9, 10, 11, 13, 15, 117, 118] [[32], [46]]) <| .loop Qcl) <| .keep [6, 7, 8, 9, 10, 11, 13, 15] [[32], [46]]) <| .seq (.seq (oR [oM 154 7, oM 155 11, oM 156 9, oA 157 (.bin .add (.t 155) (.t 156)), oA 158 (.ixa 1 (.t 154) (.t 157)), oA 159 (.load none (.t 158)), oM 160 15, oA 161 (.bin .sub (.t 159) (.t 160)), oA 162 (.ixa 1 (.t 154) (.t 157)), ⟨none, .store 1 (.t 162) (.t 161), none⟩] [6, 7, 8, 9, 10, 11, 13] [[32], [46]]) <| .seq (oR [oM 163 7, oM 164 11, oM 165 9, oA 166 (.bin .add (.t 164) (.t 165)), oA 167 (.ixa 1 (.t 163) (.t 166)), oA 168 (.load none (.t 167)), oA 169 (.bin .lss (.t 168) (oC 0))] [6, 7, 8, 9, 10, 11, 13, 169] [[32], [46]]) <| .cond (.t 169) (.seq (oR [oM 170 13, oA 171 (.bin .sub (.t 170) (oC 1)), oM 13 171] [6, 7, 8, 9, 10, 11, 13] [[32], [46]]) <| .seq (oR [oA 15 (.mov (oC 0))] [6, 7, 8, 9, 10, 11, 13, 15] [[32], [46]]) <| .seq (.seq (oR [oM 172 9, oA 173 (.mov (oC 0))] [6, 7, 8, 9, 10, 11, 13, 15, 172, 173] [[32], [46]]) <| .seq (.blk 6 <| .seq (.keep [6, 7, 8, 9, 10, 11, 13, 15, 172, 173] [[32], [46]]) <| .loop QcS) <| .keep [6, 7, 8, 9, 10, 11, 13, 15] [[32], [46]]) <| oR [oM 199 7, oM 200 11, oM 201 9, oA 202 (.bin .add (.t 200) (.t 201)), oA 203 (.ixa 1 (.t 199) (.t 202)), oA 204 (.load none (.t 203)), oM 205 15, oA 206 (.bin .add (.t 204) (.t 205)), oA 207 (.ixa 1 (.t 199) (.t 202)), ⟨none, .store 1 (.t 207) (.t 206), none⟩] [6, 7, 8, 9, 10, 11, 13] [[32], [46]]) <| .skip) <| oR [oM 208 10, oM 209 11, oM 210 13, oA 211 (.ixa 1 (.t 208) (.t 209)), ⟨none, .store 1 (.t 211) (.t 210), none⟩] [6, 7, 8, 9, 10, 11] [[32], [46]]) <| .keep [6, 7, 8, 9, 10, 11] [[32], [46]]) <| oR [oM 53 11, oA 54 (.bin .sub (.t 53) (oC 1)), oM 11 54] [6, 7, 8, 9, 10, 11] [[32], [46]]) <| .keep [6, 7, 8, 9, 10, 11] [[32], [46]]
def integer_long : CF := ⟨2, .seq (oR [oA 4 (.mov (.c (.z true))), oA 5 (.mov (.c (.z true)))] [0, 1] []) <| .seq (oR [oM 22 1, oM 23 1, oA 24 (.len (.t 23)), oA 25 (.bin .sub (.t 24) (oC 1)), oA 26 (.ixa 1 (.t 22) (.t 25)), oA 27 (.load none (.t 26)), oA 28 (.bin .add (.t 27) (oC 1)), oA 29 (.bin .quo (oC 1000000000) (.t 28)), oM 6 29] [0, 1, 6] []) <| .seq (oR [oM 30 0, oM 31 6, oA 32 (.call QeK [.t 30, .t 31] true), oM 33 1, oM 34 6, oA 35 (.call QeK [.t 33, .t 34] false), oM 36 1, oA 37 (.len (.t 36)), oA 38 (.slc 1 (.t 35) none (some (.t 37)) none), oM 7 32, oM 8 38] [0, 1, 6, 7, 8] [[32]]) <| .seq (oR [oM 39 1, oA 40 (.len (.t 39)), oM 9 40] [0, 6, 7, 8, 9] [[32]]) <| .seq (oR [oM 41 0, oA 42 (.len (.t 41)), oM 43 9, oA 44 (.bin .sub (.t 42) (.t 43)), oA 45 (.bin .add (.t 44) (oC 1)), oA 46 (.mksl 1 8 [.v (.int .i64 0)] (.t 45) (.t 45)), oM 10 46] [0, 6, 7, 8, 9, 10] [[32], [46]]) <| .seq (.seq (oR [oM 47 0, oA 48 (.len (.t 47)), oM 49 9, oA 50 (.bin .sub (.t 48) (.t 49)), oM 11 50] [6, 7, 8, 9, 10, 11] [[32], [46]]) <| .seq (.blk 0 <| .seq (.keep [6, 7, 8, 9, 10, 11] [[32], [46]]) <| .loop Qcn) <| .keep [6, 7, 9, 10] [[32], [46]]) <| .seq (.seq (.frz 7) <| oR [oM 213 7, oM 214 9, oA 215 (.slc 1 (.t 213) none (some (.t 214)) none), oM 216 6, oA 217 (.call Qe5 [.t 215, .t 216] false), oM 212 217, oA 218 (.ext (.t 212) 0), oA 219 (.ext (.t 212) 1), oM 20 218, oM 21 219] [10, 20] [[46]]) <| .seq (oR [oM 220 10, oM 221 20, oM 4 220, oM 5 221] [4, 5] [[46]]) <| .ret, [.t 4, .t 5]⟩

def Qcj : C :=
 .seq (.seq (oR [oA 17 (.bin .lss (.t 16) (.t 15))] [0, 1, 5, 6, 14, 15, 16, 17] [[13]]) <| .seq (.cond (.t 17) (.skip) <| .seq (.keep [0, 5, 6] [[13]]) <| .exit 0) <| .seq (.seq (.blk 1 <| .seq (oR [oM 18 16, oA 19 (.ixa 1 (.t 14) (.t 16)), oA 20 (.load none (.t 19)), oM 7 18, oM 8 20] [0, 1, 5, 6, 7, 8, 14, 15, 16] [[13]]) <| .seq (oR [oM 21 8, oM 22 1, oA 23 (.bin .mul (.t 21) (.t 22)), oM 24 6, oA 25 (.bin .add (.t 23) (.t 24)), oM 9 25] [0, 1, 5, 7, 9, 14, 15, 16] [[13]]) <| oR [oM 26 5, oM 27 7, oM 28 9, oA 29 (.bin .rem (.t 28) (oC 1000000000)), oM 30 9, oA 31 (.bin .quo (.t 30) (oC 1000000000)), oA 32 (.ixa 1 (.t 26) (.t 27)), ⟨none, .store 1 (.t 32) (.t 29), none⟩, oM 6 31] [0, 1, 5, 6, 14, 15, 16] [[13]]) <| .keep [0, 1, 5, 6, 14, 15, 16] [[13]]) <| oR [oA 33 (.bin .add (.t 16) (oC 1)), oM 16 33] [0, 1, 5, 6, 14, 15, 16] [[13]]) <| .keep [0, 1, 5, 6, 14, 15, 16] [[13]]
def integer_scaled : CF := ⟨2, .seq (oR [oA 4 (.mov (.c (.z true)))] [0, 1] []) <| .seq (oR [oM 10 0, oA 11 (.len (.t 10)), oA 12 (.bin .add (.t 11) (oC 1)), oA 13 (.mksl 1 8 [.v (.int .i64 0)] (.t 12) (.t 12)), oM 5 13] [0, 1, 5] [[13]]) <| .seq (oR [oA 6 (.mov (oC 0))] [0, 1, 5, 6] [[13]]) <| .seq (.seq (oR [oM 14 0, oA 15 (.len (.t 14)), oA 16 (.mov (oC 0))] [0, 1, 5, 6, 14, 15, 16] [[13]]) <| .seq (.blk 0 <| .seq (.keep [0, 1, 5, 6, 14, 15, 16] [[13]]) <| .loop Qcj) <| .keep [0, 5, 6] [[13]]) <| .seq (oR [oM 34 5, oM 35 0, oA 36 (.len (.t 35)), oM 37 6, oA 38 (.ixa 1 (.t 34) (.t 36)), ⟨none, .store 1 (.t 38) (.t 37), none⟩] [5] [[13]]) <| .seq (oR [oM 39 5, oM 4 39] [4] [[13]]) <| .ret, [.t 4]⟩

end Go.AM

set_option maxRecDepth 100000
namespace Go.AM
open Go Go.Proofs

def ft : Nat → Option CF
 | 4 => some gantrylaw13_GapAlong
 | 6 => some gantrylaw13_GapKeeps
 | 7 => some gantrylaw13_GapTouches
 | 8 => some gantryref12_Shape
 | 9 => some gantryref12_Sides
 | 10 => some gantryref12_Vec
 | 11 => some gantryref01_At
 | 12 => some gantryref13_Touch
 | 13 => some gantryref13_Times
 | 14 => some gantryref05_Of
 | 15 => some gap_Free
 | 17 => some gap_Contact
 | 19 => some gantryref13_Plus
 | 20 => some gap_Best
 | 22 => some gap_Meet
 | 24 => some gantrylaw13_lives
 | 25 => some gap_Along
 | 26 => some gantryref05_Same
 | 27 => some gap_Gap
 | 28 => some gantryref13_Gap
 | 29 => some gantryref06_Same
 | 30 => some gantryref13_Along
 | 31 => some rat_Add
 | 32 => some gantryref13_Rate
 | 33 => some rat_Same
 | 34 => some poly_Eval
 | 35 => some rat_Of
 | 37 => some gantryref06_Trim
 | 40 => some gantryref01_Around
 | 42 => some gap_Stays
 | 45 => some convex_Sides
 | 46 => some convex_Sum
 | 47 => some rat_Mul
 | 48 => some rat_Sign
 | 49 => some convex_Has
 | 50 => some gantryref12_Move
 | 51 => some gantryref12_Norm
 | 52 => some gantryref12_Next
 | 53 => some gantryref12_Turn
 | 54 => some gantryref12_Most
 | 55 => some gantryref12_Sum
 | 56 => some gantryref13_Minus
 | 57 => some gantryref05_Mul
 | 58 => some gantryref05_Make
 | 59 => some gantryref04_Of
 | 60 => some slices_IndexFunc_api_Edge_api_Edge
 | 61 => some gap_Free_1
 | 62 => some gap_Contact_1
 | 63 => some gap_rate
 | 64 => some slices_ContainsFunc_api_Edge_api_Edge
 | 65 => some gap_greatest_api_Edge
 | 66 => some gap_Contact_2
 | 67 => some gantryref05_Sign
 | 69 => some gantryref05_Add
 | 70 => some gap_Best_1
 | 71 => some gap_Meet_1
 | 72 => some gantrylaw13_vec
 | 73 => some poly_Trim
 | 74 => some gantryref04_Same
 | 75 => some rat_Sub
 | 76 => some gantryref05_Div
 | 77 => some gantryref05_Sub
 | 78 => some gantryref12_Dot
 | 79 => some integer_Add
 | 80 => some rat_Den
 | 81 => some rat_Make
 | 82 => some integer_Mul
 | 83 => some rat_Same_1
 | 84 => some slices_Equal_int_int
 | 85 => some slices_Backward_api_Poly_api_Rat
 | 86 => some integer_Of
 | 88 => some rat_Div
 | 89 => some rat_Neg
 | 90 => some rat_Compare
 | 96 => some convex_Sides_1
 | 97 => some convex_Sides_1_1
 | 98 => some convex_Most
 | 99 => some convex_turned
 | 100 => some convex_Norm
 | 101 => some convex_next
 | 102 => some slices_MinFunc_api_Point_api_Point
 | 103 => some convex_Sum_1
 | 104 => some cmp_Or_int
 | 105 => some cmp_Compare_int
 | 106 => some convex_cross
 | 107 => some convex_far
 | 108 => some rat_lowest
 | 109 => some integer_Sign
 | 110 => some gantryref04_Root
 | 111 => some gantryref04_Small
 | 112 => some gantryref12_divisor
 | 113 => some gantryref12_size
 | 114 => some gantryref12_Left
 | 115 => some gantryref04_Mul
 | 116 => some gantryref05_Den
 | 117 => some gantryref04_Gcd
 | 118 => some gantryref04_Div
 | 119 => some gantryref04_Neg
 | 120 => some gantryref05_one
 | 121 => some gantryref04_normal
 | 122 => some gantryref04_Sign
 | 123 => some gantryref04_Compare
 | 124 => some gantryref04_Add
 | 125 => some slices_Clone_api_Poly_api_Rat
 | 126 => some gantryref05_Neg
 | 127 => some integer_of
 | 128 => some integer_plus
 | 129 => some integer_compare
 | 130 => some integer_minus
 | 131 => some rat_one
 | 132 => some integer_Gcd
 | 133 => some rat_unit
 | 134 => some integer_Div
 | 135 => some integer_unsigned
 | 136 => some slices_Backward_api_Poly_api_Rat_1
 | 138 => some integer_Neg
 | 139 => some integer_Compare
 | 153 => some convex_dot
 | 154 => some slices_MaxFunc_api_Point_api_Point
 | 155 => some convex_Most_1
 | 156 => some integer_Root
 | 157 => some integer_Small
 | 158 => some convex_gcd
 | 159 => some cmp_isNaN_int
 | 160 => some gantryref04_tiny
 | 161 => some gantryref04_divided
 | 162 => some gantryref04_minus
 | 163 => some gantryref04_compared
 | 164 => some gantryref04_plus
 | 165 => some integer_two
 | 166 => some integer_divide
 | 178 => some gantryref04_digit
 | 179 => some gantryref04_times
 | 180 => some integer_short
 | 181 => some integer_long
 | 184 => some integer_scaled
 | _ => none
theorem Qgq : Qar Tryz.prog Tryz.f4 = some gantrylaw13_GapAlong.er := by kernel_rfl
theorem Qgn : Qar Tryz.prog Tryz.f6 = some gantrylaw13_GapKeeps.er := by kernel_rfl
theorem QfU : Qar Tryz.prog Tryz.f7 = some gantrylaw13_GapTouches.er := by kernel_rfl
theorem QhP : Qar Tryz.prog Tryz.f8 = some gantryref12_Shape.er := by kernel_rfl
theorem QhU : Qar Tryz.prog Tryz.f9 = some gantryref12_Sides.er := by kernel_rfl
theorem Qjz : Qar Tryz.prog Tryz.f10 = some gantryref12_Vec.er := by kernel_rfl
theorem Qkj : Qar Tryz.prog Tryz.f11 = some gantryref01_At.er := by kernel_rfl
theorem Qhu : Qar Tryz.prog Tryz.f12 = some gantryref13_Touch.er := by kernel_rfl
theorem QhN : Qar Tryz.prog Tryz.f13 = some gantryref13_Times.er := by kernel_rfl
theorem Qkk : Qar Tryz.prog Tryz.f14 = some gantryref05_Of.er := by kernel_rfl
theorem QrQ : Qar Tryz.prog Tryz.f15 = some gap_Free.er := by kernel_rfl
theorem QmM : Qar Tryz.prog Tryz.f17 = some gap_Contact.er := by kernel_rfl
theorem Qij : Qar Tryz.prog Tryz.f19 = some gantryref13_Plus.er := by kernel_rfl
theorem QsK : Qar Tryz.prog Tryz.f20 = some gap_Best.er := by kernel_rfl
theorem QsL : Qar Tryz.prog Tryz.f22 = some gap_Meet.er := by kernel_rfl
theorem QhV : Qar Tryz.prog Tryz.f24 = some gantrylaw13_lives.er := by kernel_rfl
theorem Qqf : Qar Tryz.prog Tryz.f25 = some gap_Along.er := by kernel_rfl
theorem QiJ : Qar Tryz.prog Tryz.f26 = some gantryref05_Same.er := by kernel_rfl
theorem gap_Gap_c : Qar Tryz.prog Tryz.f27 = some gap_Gap.er := by kernel_rfl
theorem Qjc : Qar Tryz.prog Tryz.f28 = some gantryref13_Gap.er := by kernel_rfl
theorem Qig : Qar Tryz.prog Tryz.f29 = some gantryref06_Same.er := by kernel_rfl
theorem Qhz : Qar Tryz.prog Tryz.f30 = some gantryref13_Along.er := by kernel_rfl
theorem rat_Add_c : Qar Tryz.prog Tryz.f31 = some rat_Add.er := by kernel_rfl
theorem Qh9 : Qar Tryz.prog Tryz.f32 = some gantryref13_Rate.er := by kernel_rfl
theorem Qr9 : Qar Tryz.prog Tryz.f33 = some rat_Same.er := by kernel_rfl
theorem Qqa : Qar Tryz.prog Tryz.f34 = some poly_Eval.er := by kernel_rfl
theorem rat_Of_c : Qar Tryz.prog Tryz.f35 = some rat_Of.er := by kernel_rfl
theorem QiT : Qar Tryz.prog Tryz.f37 = some gantryref06_Trim.er := by kernel_rfl
theorem Qhh : Qar Tryz.prog Tryz.f40 = some gantryref01_Around.er := by kernel_rfl
theorem Qpx : Qar Tryz.prog Tryz.f42 = some gap_Stays.er := by kernel_rfl
theorem Ql2 : Qar Tryz.prog Tryz.f45 = some convex_Sides.er := by kernel_rfl
theorem Qol : Qar Tryz.prog Tryz.f46 = some convex_Sum.er := by kernel_rfl
theorem rat_Mul_c : Qar Tryz.prog Tryz.f47 = some rat_Mul.er := by kernel_rfl
theorem QsM : Qar Tryz.prog Tryz.f48 = some rat_Sign.er := by kernel_rfl
theorem QoA : Qar Tryz.prog Tryz.f49 = some convex_Has.er := by kernel_rfl
theorem QhY : Qar Tryz.prog Tryz.f50 = some gantryref12_Move.er := by kernel_rfl
theorem QiW : Qar Tryz.prog Tryz.f51 = some gantryref12_Norm.er := by kernel_rfl
theorem QhW : Qar Tryz.prog Tryz.f52 = some gantryref12_Next.er := by kernel_rfl
theorem Qik : Qar Tryz.prog Tryz.f53 = some gantryref12_Turn.er := by kernel_rfl
theorem QhX : Qar Tryz.prog Tryz.f54 = some gantryref12_Most.er := by kernel_rfl
theorem Qjh : Qar Tryz.prog Tryz.f55 = some gantryref12_Sum.er := by kernel_rfl
theorem Qhx : Qar Tryz.prog Tryz.f56 = some gantryref13_Minus.er := by kernel_rfl
theorem Qi2 : Qar Tryz.prog Tryz.f57 = some gantryref05_Mul.er := by kernel_rfl
theorem QiC : Qar Tryz.prog Tryz.f58 = some gantryref05_Make.er := by kernel_rfl
theorem Qka : Qar Tryz.prog Tryz.f59 = some gantryref04_Of.er := by kernel_rfl
theorem QdA : Qar Tryz.prog Tryz.f60 = some slices_IndexFunc_api_Edge_api_Edge.er := by kernel_rfl
theorem QnY : Qar Tryz.prog Tryz.f61 = some gap_Free_1.er := by kernel_rfl
theorem QlR : Qar Tryz.prog Tryz.f62 = some gap_Contact_1.er := by kernel_rfl
theorem QrZ : Qar Tryz.prog Tryz.f63 = some gap_rate.er := by kernel_rfl
theorem Qdj : Qar Tryz.prog Tryz.f64 = some slices_ContainsFunc_api_Edge_api_Edge.er := by kernel_rfl
theorem Qf8 : Qar Tryz.prog Tryz.f65 = some gap_greatest_api_Edge.er := by kernel_rfl
theorem Qk9 : Qar Tryz.prog Tryz.f66 = some gap_Contact_2.er := by kernel_rfl
theorem QiX : Qar Tryz.prog Tryz.f67 = some gantryref05_Sign.er := by kernel_rfl
theorem QjO : Qar Tryz.prog Tryz.f69 = some gantryref05_Add.er := by kernel_rfl
theorem Qo7 : Qar Tryz.prog Tryz.f70 = some gap_Best_1.er := by kernel_rfl
theorem Qoh : Qar Tryz.prog Tryz.f71 = some gap_Meet_1.er := by kernel_rfl
theorem QjA : Qar Tryz.prog Tryz.f72 = some gantrylaw13_vec.er := by kernel_rfl
theorem Qpz : Qar Tryz.prog Tryz.f73 = some poly_Trim.er := by kernel_rfl
theorem Qh1 : Qar Tryz.prog Tryz.f74 = some gantryref04_Same.er := by kernel_rfl
theorem rat_Sub_c : Qar Tryz.prog Tryz.f75 = some rat_Sub.er := by kernel_rfl
theorem Qjt : Qar Tryz.prog Tryz.f76 = some gantryref05_Div.er := by kernel_rfl
theorem QjN : Qar Tryz.prog Tryz.f77 = some gantryref05_Sub.er := by kernel_rfl
theorem Qjp : Qar Tryz.prog Tryz.f78 = some gantryref12_Dot.er := by kernel_rfl
theorem Qnp : Qar Tryz.prog Tryz.f79 = some integer_Add.er := by kernel_rfl
theorem rat_Den_c : Qar Tryz.prog Tryz.f80 = some rat_Den.er := by kernel_rfl
theorem Qsk : Qar Tryz.prog Tryz.f81 = some rat_Make.er := by kernel_rfl
theorem Qnl : Qar Tryz.prog Tryz.f82 = some integer_Mul.er := by kernel_rfl
theorem Qot : Qar Tryz.prog Tryz.f83 = some rat_Same_1.er := by kernel_rfl
theorem Qgt : Qar Tryz.prog Tryz.f84 = some slices_Equal_int_int.er := by kernel_rfl
theorem QdQ : Qar Tryz.prog Tryz.f85 = some slices_Backward_api_Poly_api_Rat.er := by kernel_rfl
theorem QoU : Qar Tryz.prog Tryz.f86 = some integer_Of.er := by kernel_rfl
theorem rat_Div_c : Qar Tryz.prog Tryz.f88 = some rat_Div.er := by kernel_rfl
theorem rat_Neg_c : Qar Tryz.prog Tryz.f89 = some rat_Neg.er := by kernel_rfl
theorem QmP : Qar Tryz.prog Tryz.f90 = some rat_Compare.er := by kernel_rfl
theorem Qkb : Qar Tryz.prog Tryz.f96 = some convex_Sides_1.er := by kernel_rfl
theorem Qio : Qar Tryz.prog Tryz.f97 = some convex_Sides_1_1.er := by kernel_rfl
theorem QmR : Qar Tryz.prog Tryz.f98 = some convex_Most.er := by kernel_rfl
theorem QlD : Qar Tryz.prog Tryz.f99 = some convex_turned.er := by kernel_rfl
theorem QmK : Qar Tryz.prog Tryz.f100 = some convex_Norm.er := by kernel_rfl
theorem QnI : Qar Tryz.prog Tryz.f101 = some convex_next.er := by kernel_rfl
theorem Qdy : Qar Tryz.prog Tryz.f102 = some slices_MinFunc_api_Point_api_Point.er := by kernel_rfl
theorem QlT : Qar Tryz.prog Tryz.f103 = some convex_Sum_1.er := by kernel_rfl
theorem Qog : Qar Tryz.prog Tryz.f104 = some cmp_Or_int.er := by kernel_rfl
theorem Qi5 : Qar Tryz.prog Tryz.f105 = some cmp_Compare_int.er := by kernel_rfl
theorem Ql3 : Qar Tryz.prog Tryz.f106 = some convex_cross.er := by kernel_rfl
theorem Qn2 : Qar Tryz.prog Tryz.f107 = some convex_far.er := by kernel_rfl
theorem Qoj : Qar Tryz.prog Tryz.f108 = some rat_lowest.er := by kernel_rfl
theorem Ql0 : Qar Tryz.prog Tryz.f109 = some integer_Sign.er := by kernel_rfl
theorem Qh4 : Qar Tryz.prog Tryz.f110 = some gantryref04_Root.er := by kernel_rfl
theorem QhM : Qar Tryz.prog Tryz.f111 = some gantryref04_Small.er := by kernel_rfl
theorem QgM : Qar Tryz.prog Tryz.f112 = some gantryref12_divisor.er := by kernel_rfl
theorem QiD : Qar Tryz.prog Tryz.f113 = some gantryref12_size.er := by kernel_rfl
theorem Qil : Qar Tryz.prog Tryz.f114 = some gantryref12_Left.er := by kernel_rfl
theorem Qi8 : Qar Tryz.prog Tryz.f115 = some gantryref04_Mul.er := by kernel_rfl
theorem Qjx : Qar Tryz.prog Tryz.f116 = some gantryref05_Den.er := by kernel_rfl
theorem QjB : Qar Tryz.prog Tryz.f117 = some gantryref04_Gcd.er := by kernel_rfl
theorem QjF : Qar Tryz.prog Tryz.f118 = some gantryref04_Div.er := by kernel_rfl
theorem QjK : Qar Tryz.prog Tryz.f119 = some gantryref04_Neg.er := by kernel_rfl
theorem Qju : Qar Tryz.prog Tryz.f120 = some gantryref05_one.er := by kernel_rfl
theorem Qhg : Qar Tryz.prog Tryz.f121 = some gantryref04_normal.er := by kernel_rfl
theorem QiG : Qar Tryz.prog Tryz.f122 = some gantryref04_Sign.er := by kernel_rfl
theorem QgE : Qar Tryz.prog Tryz.f123 = some gantryref04_Compare.er := by kernel_rfl
theorem Qjd : Qar Tryz.prog Tryz.f124 = some gantryref04_Add.er := by kernel_rfl
theorem Qej : Qar Tryz.prog Tryz.f125 = some slices_Clone_api_Poly_api_Rat.er := by kernel_rfl
theorem QjH : Qar Tryz.prog Tryz.f126 = some gantryref05_Neg.er := by kernel_rfl
theorem QoS : Qar Tryz.prog Tryz.f127 = some integer_of.er := by kernel_rfl
theorem Ql1 : Qar Tryz.prog Tryz.f128 = some integer_plus.er := by kernel_rfl
theorem Qjb : Qar Tryz.prog Tryz.f129 = some integer_compare.er := by kernel_rfl
theorem Qll : Qar Tryz.prog Tryz.f130 = some integer_minus.er := by kernel_rfl
theorem rat_one_c : Qar Tryz.prog Tryz.f131 = some rat_one.er := by kernel_rfl
theorem Qnc : Qar Tryz.prog Tryz.f132 = some integer_Gcd.er := by kernel_rfl
theorem Qsw : Qar Tryz.prog Tryz.f133 = some rat_unit.er := by kernel_rfl
theorem QmQ : Qar Tryz.prog Tryz.f134 = some integer_Div.er := by kernel_rfl
theorem QiH : Qar Tryz.prog Tryz.f135 = some integer_unsigned.er := by kernel_rfl
theorem Qcg : Qar Tryz.prog Tryz.f136 = some slices_Backward_api_Poly_api_Rat_1.er := by kernel_rfl
theorem Qnh : Qar Tryz.prog Tryz.f138 = some integer_Neg.er := by kernel_rfl
theorem Qjo : Qar Tryz.prog Tryz.f139 = some integer_Compare.er := by kernel_rfl
theorem Qn6 : Qar Tryz.prog Tryz.f153 = some convex_dot.er := by kernel_rfl
theorem QdF : Qar Tryz.prog Tryz.f154 = some slices_MaxFunc_api_Point_api_Point.er := by kernel_rfl
theorem QkB : Qar Tryz.prog Tryz.f155 = some convex_Most_1.er := by kernel_rfl
theorem QlX : Qar Tryz.prog Tryz.f156 = some integer_Root.er := by kernel_rfl
theorem Qk6 : Qar Tryz.prog Tryz.f157 = some integer_Small.er := by kernel_rfl
theorem QoH : Qar Tryz.prog Tryz.f158 = some convex_gcd.er := by kernel_rfl
theorem QkW : Qar Tryz.prog Tryz.f159 = some cmp_isNaN_int.er := by kernel_rfl
theorem Qim : Qar Tryz.prog Tryz.f160 = some gantryref04_tiny.er := by kernel_rfl
theorem QgK : Qar Tryz.prog Tryz.f161 = some gantryref04_divided.er := by kernel_rfl
theorem QhG : Qar Tryz.prog Tryz.f162 = some gantryref04_minus.er := by kernel_rfl
theorem Qgs : Qar Tryz.prog Tryz.f163 = some gantryref04_compared.er := by kernel_rfl
theorem QiL : Qar Tryz.prog Tryz.f164 = some gantryref04_plus.er := by kernel_rfl
theorem QmJ : Qar Tryz.prog Tryz.f165 = some integer_two.er := by kernel_rfl
theorem Qkg : Qar Tryz.prog Tryz.f166 = some integer_divide.er := by kernel_rfl
theorem QhQ : Qar Tryz.prog Tryz.f178 = some gantryref04_digit.er := by kernel_rfl
theorem QhS : Qar Tryz.prog Tryz.f179 = some gantryref04_times.er := by kernel_rfl
theorem Qlo : Qar Tryz.prog Tryz.f180 = some integer_short.er := by kernel_rfl
theorem QlU : Qar Tryz.prog Tryz.f181 = some integer_long.er := by kernel_rfl
theorem Qke : Qar Tryz.prog Tryz.f184 = some integer_scaled.er := by kernel_rfl
theorem Qi4 : InlN Tryz.prog [96] Qcr QcU [] 4 := ⟨by decide, _, _, Tryz.func96, rfl, by kernel_rfl, by kernel_rfl⟩
theorem QjJ : InlN Tryz.prog [96] Qcr convex_Sides_i2 [] 4 := ⟨by decide, _, _, Tryz.func96, rfl, by kernel_rfl, by kernel_rfl⟩
theorem ft_ok : ∀ f cf, ft f = some cf → ∃ fn L, Tryz.prog.funcs[f]? = some fn ∧ Qar Tryz.prog fn = some cf.er ∧ QgY Tryz.prog L cf.body ∧ (L = [] ∨ ∀ b, fn.body = some b → okI L b = true) := by
  intro f cf h
  unfold ft at h
  split at h
  · cases h; exact ⟨_, [], Tryz.func4, Qgq, Qad (by kernel_rfl), .inl rfl⟩
  · cases h; exact ⟨_, [], Tryz.func6, Qgn, Qad (by kernel_rfl), .inl rfl⟩
  · cases h; exact ⟨_, [], Tryz.func7, QfU, Qad (by kernel_rfl), .inl rfl⟩
  · cases h; exact ⟨_, [], Tryz.func8, QhP, Qad (by kernel_rfl), .inl rfl⟩
  · cases h; exact ⟨_, [], Tryz.func9, QhU, Qad (by kernel_rfl), .inl rfl⟩
  · cases h; exact ⟨_, [], Tryz.func10, Qjz, Qad (by kernel_rfl), .inl rfl⟩
  · cases h; exact ⟨_, [], Tryz.func11, Qkj, Qad (by kernel_rfl), .inl rfl⟩
  · cases h; exact ⟨_, [], Tryz.func12, Qhu, Qad (by kernel_rfl), .inl rfl⟩
  · cases h; exact ⟨_, [], Tryz.func13, QhN, Qad (by kernel_rfl), .inl rfl⟩
  · cases h; exact ⟨_, [], Tryz.func14, Qkk, Qad (by kernel_rfl), .inl rfl⟩
  · cases h; exact ⟨_, [], Tryz.func15, QrQ, Qad (by kernel_rfl), .inl rfl⟩
  · cases h; exact ⟨_, [], Tryz.func17, QmM, Qad (by kernel_rfl), .inl rfl⟩
  · cases h; exact ⟨_, [], Tryz.func19, Qij, Qad (by kernel_rfl), .inl rfl⟩
  · cases h; exact ⟨_, [], Tryz.func20, QsK, Qad (by kernel_rfl), .inl rfl⟩
  · cases h; exact ⟨_, [], Tryz.func22, QsL, Qad (by kernel_rfl), .inl rfl⟩
  · cases h; exact ⟨_, [], Tryz.func24, QhV, Qad (by kernel_rfl), .inl rfl⟩
  · cases h; exact ⟨_, [], Tryz.func25, Qqf, Qad (by kernel_rfl), .inl rfl⟩
  · cases h; exact ⟨_, [], Tryz.func26, QiJ, Qad (by kernel_rfl), .inl rfl⟩
  · cases h; exact ⟨_, [], Tryz.func27, gap_Gap_c, Qad (by kernel_rfl), .inl rfl⟩
  · cases h; exact ⟨_, [], Tryz.func28, Qjc, Qad (by kernel_rfl), .inl rfl⟩
  · cases h; exact ⟨_, [], Tryz.func29, Qig, Qad (by kernel_rfl), .inl rfl⟩
  · cases h; exact ⟨_, [], Tryz.func30, Qhz, Qad (by kernel_rfl), .inl rfl⟩
  · cases h; exact ⟨_, [], Tryz.func31, rat_Add_c, Qad (by kernel_rfl), .inl rfl⟩
  · cases h; exact ⟨_, [], Tryz.func32, Qh9, Qad (by kernel_rfl), .inl rfl⟩
  · cases h; exact ⟨_, [], Tryz.func33, Qr9, Qad (by kernel_rfl), .inl rfl⟩
  · cases h; exact ⟨_, [], Tryz.func34, Qqa, Qad (by kernel_rfl), .inl rfl⟩
  · cases h; exact ⟨_, [], Tryz.func35, rat_Of_c, Qad (by kernel_rfl), .inl rfl⟩
  · cases h; exact ⟨_, [], Tryz.func37, QiT, Qad (by kernel_rfl), .inl rfl⟩
  · cases h; exact ⟨_, [], Tryz.func40, Qhh, Qad (by kernel_rfl), .inl rfl⟩
  · cases h; exact ⟨_, [], Tryz.func42, Qpx, Qad (by kernel_rfl), .inl rfl⟩
  · cases h; exact ⟨_, [96], Tryz.func45, Ql2, by simp only [QgY, convex_Sides, Qby, Qbz, eq_true Qi4, eq_true (Qad (P := Tryz.prog) (L := [96]) (c := QcU) (by kernel_rfl)), eq_true QjJ, eq_true (Qad (P := Tryz.prog) (L := [96]) (c := convex_Sides_i2) (by kernel_rfl)), and_self, and_true], .inr fun b hb => by cases hb; kernel_rfl⟩
  · cases h; exact ⟨_, [], Tryz.func46, Qol, Qad (by kernel_rfl), .inl rfl⟩
  · cases h; exact ⟨_, [], Tryz.func47, rat_Mul_c, Qad (by kernel_rfl), .inl rfl⟩
  · cases h; exact ⟨_, [], Tryz.func48, QsM, Qad (by kernel_rfl), .inl rfl⟩
  · cases h; exact ⟨_, [], Tryz.func49, QoA, Qad (by kernel_rfl), .inl rfl⟩
  · cases h; exact ⟨_, [], Tryz.func50, QhY, Qad (by kernel_rfl), .inl rfl⟩
  · cases h; exact ⟨_, [], Tryz.func51, QiW, Qad (by kernel_rfl), .inl rfl⟩
  · cases h; exact ⟨_, [], Tryz.func52, QhW, Qad (by kernel_rfl), .inl rfl⟩
  · cases h; exact ⟨_, [], Tryz.func53, Qik, Qad (by kernel_rfl), .inl rfl⟩
  · cases h; exact ⟨_, [], Tryz.func54, QhX, Qad (by kernel_rfl), .inl rfl⟩
  · cases h; exact ⟨_, [], Tryz.func55, Qjh, Qad (by kernel_rfl), .inl rfl⟩
  · cases h; exact ⟨_, [], Tryz.func56, Qhx, Qad (by kernel_rfl), .inl rfl⟩
  · cases h; exact ⟨_, [], Tryz.func57, Qi2, Qad (by kernel_rfl), .inl rfl⟩
  · cases h; exact ⟨_, [], Tryz.func58, QiC, Qad (by kernel_rfl), .inl rfl⟩
  · cases h; exact ⟨_, [], Tryz.func59, Qka, Qad (by kernel_rfl), .inl rfl⟩
  · cases h; exact ⟨_, [], Tryz.func60, QdA, Qad (by kernel_rfl), .inl rfl⟩
  · cases h; exact ⟨_, [], Tryz.func61, QnY, Qad (by kernel_rfl), .inl rfl⟩
  · cases h; exact ⟨_, [], Tryz.func62, QlR, Qad (by kernel_rfl), .inl rfl⟩
  · cases h; exact ⟨_, [], Tryz.func63, QrZ, Qad (by kernel_rfl), .inl rfl⟩
  · cases h; exact ⟨_, [], Tryz.func64, Qdj, Qad (by kernel_rfl), .inl rfl⟩
  · cases h; exact ⟨_, [], Tryz.func65, Qf8, Qad (by kernel_rfl), .inl rfl⟩
  · cases h; exact ⟨_, [], Tryz.func66, Qk9, Qad (by kernel_rfl), .inl rfl⟩
  · cases h; exact ⟨_, [], Tryz.func67, QiX, Qad (by kernel_rfl), .inl rfl⟩
  · cases h; exact ⟨_, [], Tryz.func69, QjO, Qad (by kernel_rfl), .inl rfl⟩
  · cases h; exact ⟨_, [], Tryz.func70, Qo7, Qad (by kernel_rfl), .inl rfl⟩
  · cases h; exact ⟨_, [], Tryz.func71, Qoh, Qad (by kernel_rfl), .inl rfl⟩
  · cases h; exact ⟨_, [], Tryz.func72, QjA, Qad (by kernel_rfl), .inl rfl⟩
  · cases h; exact ⟨_, [], Tryz.func73, Qpz, Qad (by kernel_rfl), .inl rfl⟩
  · cases h; exact ⟨_, [], Tryz.func74, Qh1, Qad (by kernel_rfl), .inl rfl⟩
  · cases h; exact ⟨_, [], Tryz.func75, rat_Sub_c, Qad (by kernel_rfl), .inl rfl⟩
  · cases h; exact ⟨_, [], Tryz.func76, Qjt, Qad (by kernel_rfl), .inl rfl⟩
  · cases h; exact ⟨_, [], Tryz.func77, QjN, Qad (by kernel_rfl), .inl rfl⟩
  · cases h; exact ⟨_, [], Tryz.func78, Qjp, Qad (by kernel_rfl), .inl rfl⟩
  · cases h; exact ⟨_, [], Tryz.func79, Qnp, Qad (by kernel_rfl), .inl rfl⟩
  · cases h; exact ⟨_, [], Tryz.func80, rat_Den_c, Qad (by kernel_rfl), .inl rfl⟩
  · cases h; exact ⟨_, [], Tryz.func81, Qsk, Qad (by kernel_rfl), .inl rfl⟩
  · cases h; exact ⟨_, [], Tryz.func82, Qnl, Qad (by kernel_rfl), .inl rfl⟩
  · cases h; exact ⟨_, [], Tryz.func83, Qot, Qad (by kernel_rfl), .inl rfl⟩
  · cases h; exact ⟨_, [], Tryz.func84, Qgt, Qad (by kernel_rfl), .inl rfl⟩
  · cases h; exact ⟨_, [], Tryz.func85, QdQ, Qad (by kernel_rfl), .inl rfl⟩
  · cases h; exact ⟨_, [], Tryz.func86, QoU, Qad (by kernel_rfl), .inl rfl⟩
  · cases h; exact ⟨_, [], Tryz.func88, rat_Div_c, Qad (by kernel_rfl), .inl rfl⟩
  · cases h; exact ⟨_, [], Tryz.func89, rat_Neg_c, Qad (by kernel_rfl), .inl rfl⟩
  · cases h; exact ⟨_, [], Tryz.func90, QmP, Qad (by kernel_rfl), .inl rfl⟩
  · cases h; exact ⟨_, [], Tryz.func96, Qkb, Qad (by kernel_rfl), .inl rfl⟩
  · cases h; exact ⟨_, [], Tryz.func97, Qio, Qad (by kernel_rfl), .inl rfl⟩
  · cases h; exact ⟨_, [], Tryz.func98, QmR, Qad (by kernel_rfl), .inl rfl⟩
  · cases h; exact ⟨_, [], Tryz.func99, QlD, Qad (by kernel_rfl), .inl rfl⟩
  · cases h; exact ⟨_, [], Tryz.func100, QmK, Qad (by kernel_rfl), .inl rfl⟩
  · cases h; exact ⟨_, [], Tryz.func101, QnI, Qad (by kernel_rfl), .inl rfl⟩
  · cases h; exact ⟨_, [], Tryz.func102, Qdy, Qad (by kernel_rfl), .inl rfl⟩
  · cases h; exact ⟨_, [], Tryz.func103, QlT, Qad (by kernel_rfl), .inl rfl⟩
  · cases h; exact ⟨_, [], Tryz.func104, Qog, Qad (by kernel_rfl), .inl rfl⟩
  · cases h; exact ⟨_, [], Tryz.func105, Qi5, Qad (by kernel_rfl), .inl rfl⟩
  · cases h; exact ⟨_, [], Tryz.func106, Ql3, Qad (by kernel_rfl), .inl rfl⟩
  · cases h; exact ⟨_, [], Tryz.func107, Qn2, Qad (by kernel_rfl), .inl rfl⟩
  · cases h; exact ⟨_, [], Tryz.func108, Qoj, Qad (by kernel_rfl), .inl rfl⟩
  · cases h; exact ⟨_, [], Tryz.func109, Ql0, Qad (by kernel_rfl), .inl rfl⟩
  · cases h; exact ⟨_, [], Tryz.func110, Qh4, Qad (by kernel_rfl), .inl rfl⟩
  · cases h; exact ⟨_, [], Tryz.func111, QhM, Qad (by kernel_rfl), .inl rfl⟩
  · cases h; exact ⟨_, [], Tryz.func112, QgM, Qad (by kernel_rfl), .inl rfl⟩
  · cases h; exact ⟨_, [], Tryz.func113, QiD, Qad (by kernel_rfl), .inl rfl⟩
  · cases h; exact ⟨_, [], Tryz.func114, Qil, Qad (by kernel_rfl), .inl rfl⟩
  · cases h; exact ⟨_, [], Tryz.func115, Qi8, Qad (by kernel_rfl), .inl rfl⟩
  · cases h; exact ⟨_, [], Tryz.func116, Qjx, Qad (by kernel_rfl), .inl rfl⟩
  · cases h; exact ⟨_, [], Tryz.func117, QjB, Qad (by kernel_rfl), .inl rfl⟩
  · cases h; exact ⟨_, [], Tryz.func118, QjF, Qad (by kernel_rfl), .inl rfl⟩
  · cases h; exact ⟨_, [], Tryz.func119, QjK, Qad (by kernel_rfl), .inl rfl⟩
  · cases h; exact ⟨_, [], Tryz.func120, Qju, Qad (by kernel_rfl), .inl rfl⟩
  · cases h; exact ⟨_, [], Tryz.func121, Qhg, Qad (by kernel_rfl), .inl rfl⟩
  · cases h; exact ⟨_, [], Tryz.func122, QiG, Qad (by kernel_rfl), .inl rfl⟩
  · cases h; exact ⟨_, [], Tryz.func123, QgE, Qad (by kernel_rfl), .inl rfl⟩
  · cases h; exact ⟨_, [], Tryz.func124, Qjd, Qad (by kernel_rfl), .inl rfl⟩
  · cases h; exact ⟨_, [], Tryz.func125, Qej, Qad (by kernel_rfl), .inl rfl⟩
  · cases h; exact ⟨_, [], Tryz.func126, QjH, Qad (by kernel_rfl), .inl rfl⟩
  · cases h; exact ⟨_, [], Tryz.func127, QoS, Qad (by kernel_rfl), .inl rfl⟩
  · cases h; exact ⟨_, [], Tryz.func128, Ql1, Qad (by kernel_rfl), .inl rfl⟩
  · cases h; exact ⟨_, [], Tryz.func129, Qjb, Qad (by kernel_rfl), .inl rfl⟩
  · cases h; exact ⟨_, [], Tryz.func130, Qll, Qad (by kernel_rfl), .inl rfl⟩
  · cases h; exact ⟨_, [], Tryz.func131, rat_one_c, Qad (by kernel_rfl), .inl rfl⟩
  · cases h; exact ⟨_, [], Tryz.func132, Qnc, Qad (by kernel_rfl), .inl rfl⟩
  · cases h; exact ⟨_, [], Tryz.func133, Qsw, Qad (by kernel_rfl), .inl rfl⟩
  · cases h; exact ⟨_, [], Tryz.func134, QmQ, Qad (by kernel_rfl), .inl rfl⟩
  · cases h; exact ⟨_, [], Tryz.func135, QiH, Qad (by kernel_rfl), .inl rfl⟩
  · cases h; exact ⟨_, [], Tryz.func136, Qcg, Qad (by kernel_rfl), .inl rfl⟩
  · cases h; exact ⟨_, [], Tryz.func138, Qnh, Qad (by kernel_rfl), .inl rfl⟩
  · cases h; exact ⟨_, [], Tryz.func139, Qjo, Qad (by kernel_rfl), .inl rfl⟩
  · cases h; exact ⟨_, [], Tryz.func153, Qn6, Qad (by kernel_rfl), .inl rfl⟩
  · cases h; exact ⟨_, [], Tryz.func154, QdF, Qad (by kernel_rfl), .inl rfl⟩
  · cases h; exact ⟨_, [], Tryz.func155, QkB, Qad (by kernel_rfl), .inl rfl⟩
  · cases h; exact ⟨_, [], Tryz.func156, QlX, Qad (by kernel_rfl), .inl rfl⟩
  · cases h; exact ⟨_, [], Tryz.func157, Qk6, Qad (by kernel_rfl), .inl rfl⟩
  · cases h; exact ⟨_, [], Tryz.func158, QoH, Qad (by kernel_rfl), .inl rfl⟩
  · cases h; exact ⟨_, [], Tryz.func159, QkW, Qad (by kernel_rfl), .inl rfl⟩
  · cases h; exact ⟨_, [], Tryz.func160, Qim, Qad (by kernel_rfl), .inl rfl⟩
  · cases h; exact ⟨_, [], Tryz.func161, QgK, Qad (by kernel_rfl), .inl rfl⟩
  · cases h; exact ⟨_, [], Tryz.func162, QhG, Qad (by kernel_rfl), .inl rfl⟩
  · cases h; exact ⟨_, [], Tryz.func163, Qgs, Qad (by kernel_rfl), .inl rfl⟩
  · cases h; exact ⟨_, [], Tryz.func164, QiL, Qad (by kernel_rfl), .inl rfl⟩
  · cases h; exact ⟨_, [], Tryz.func165, QmJ, Qad (by kernel_rfl), .inl rfl⟩
  · cases h; exact ⟨_, [], Tryz.func166, Qkg, Qad (by kernel_rfl), .inl rfl⟩
  · cases h; exact ⟨_, [], Tryz.func178, QhQ, Qad (by kernel_rfl), .inl rfl⟩
  · cases h; exact ⟨_, [], Tryz.func179, QhS, Qad (by kernel_rfl), .inl rfl⟩
  · cases h; exact ⟨_, [], Tryz.func180, Qlo, Qad (by kernel_rfl), .inl rfl⟩
  · cases h; exact ⟨_, [], Tryz.func181, QlU, Qad (by kernel_rfl), .inl rfl⟩
  · cases h; exact ⟨_, [], Tryz.func184, Qke, Qad (by kernel_rfl), .inl rfl⟩
  · cases h
end Go.AM

/- The seat's functions, and that their small texts are theirs. -/
namespace Go.AM
open Go Go.Proofs
class Its where
 it : Nat → List D → Option (List (List D))
 orc : Nat → List D → Option R := fun _ _ => none
abbrev noIts : Its := { it := fun _ _ => none }
def G [Its] : Env := ⟨ft, Its.orc, Its.it⟩
theorem env_okO [Its] (h : ∀ f ds xs, Its.it f ds = some xs → ItOk Tryz.prog f ds xs) (ho : ∀ f ds r, ft f = none → Its.orc f ds = some r → CallOk Tryz.prog f ds r) : EnvOk Tryz.prog G := ⟨by kernel_rfl, ft_ok, ho, h⟩
theorem env_ok [Its] (h : ∀ f ds xs, Its.it f ds = some xs → ItOk Tryz.prog f ds xs) (h0 : ∀ f ds, (Its.orc f ds : Option R) = none := by intros; rfl) : EnvOk Tryz.prog G := env_okO h fun f ds r _ h => by rw [h0] at h; cases h
theorem env_ok0 : EnvOk Tryz.prog (@G noIts) := @env_ok noIts (fun _ _ _ h => by cases h) (fun _ _ => rfl)
end Go.AM

/- How the evaluator is run by simp: its equations, and lemmas on data. -/
namespace Go.AM
open Go Go.RowKit


theorem upd_get (f : Fr) (i j : Nat) (x : A) : upd f i x j = if j = i then some x else f j := rfl
theorem hupd_get (f : Hp) (i j : Key) (x : Obj) : hupd f i x j = if j = i then some x else f j := rfl
theorem updO_some (f : Fr) (i : Nat) (x : A) : updO f i (some x) = upd f i x := rfl
theorem Qr2 (f : Hp) (i : Key) (x : Obj) : QbK f i (some x) = hupd f i x := rfl
theorem updO_get (f : Fr) (i j : Nat) (x : Option A) : updO f i x j = if j = i then x else f j := rfl
theorem hupdO_get (f : Hp) (i j : Key) (x : Option Obj) : QbK f i x j = if j = i then x else f j := rfl
theorem fr0_get (i : Nat) : fr0 i = none := rfl
theorem hp0_get (i : Key) : hp0 i = none := rfl

theorem w64_ex : ∃ f : Int → Int, ∀ n, IntKind.i64.wrap n = f n := ⟨_, fun _ => rfl⟩
noncomputable def w64 : Int → Int := Classical.choose w64_ex
theorem QnO (n : Int) : IntKind.i64.wrap n = w64 n := Classical.choose_spec w64_ex n
theorem Qac {n : Int} (h0 : -9223372036854775808 ≤ n) (h1 : n < 9223372036854775808) : w64 n = n := by
 rw [← QnO]
 unfold IntKind.wrap
 simp only [IntKind.signed, IntKind.bits, Bool.true_and, decide_eq_true_eq, ge_iff_le]
 by_cases h : (2 : Int) ^ (64 - 1) ≤ n % 2 ^ 64
 ·rw [if_pos h]; omega
 ·rw [if_neg h]; omega

theorem bind_ite {α β : Type} (c : Prop) [Decidable c] (x y : Option α) (f : α → Option β) : (if c then x else y).bind f = if c then x.bind f else y.bind f := by split <;> rfl
theorem map_ite {α β : Type} (c : Prop) [Decidable c] (x y : Option α) (f : α → β) : (if c then x else y).map f = if c then x.map f else y.map f := by split <;> rfl
/-! ### Rows of numbers -/
def dg (l : List Int) : D := if l = [] then .z true else .row l.length (l.map iv)
theorem Qom : dg [] = .z true := rfl
theorem Qp6 (x : Int) (l : List Int) : dg (x :: l) = .row (l.length + 1) (iv x :: l.map iv) := rfl
theorem Qm5 {l : List Int} (h : l ≠ []) : dg l = .row l.length (l.map iv) := if_neg h

theorem QaP (l : List Int) : lenA (.d (dg l)) = some l.length := by
 cases l with
 | nil => rfl
 | cons x l => rfl
theorem ixa_dg (h : Hp) (l : List Int) {j : Int} (h0 : 0 ≤ j) (h1 : j < l.length) : ixaA h 1 j (.d (dg l)) = some (.d (.rp ((l.drop j.toNat).map iv))) := by
 have hl : l ≠ [] := by rintro rfl; simp at h1; omega
 rw [Qm5 hl]
 simp only [ixaA, guardO]
 rw [if_pos ⟨h0, h1⟩, Nat.mul_one, List.map_drop]
theorem Qox (h : Hp) (l : List Int) {j : Nat} (h1 : j < l.length) : QcF h none (.d (.rp ((l.drop j).map iv))) = some (.d (.v (.int .i64 (l.getD j 0)))) := by
 simp only [QcF, Qja]
 rw [List.head?_map, List.head?_drop]
 simp [h1, iv]
theorem src_dg (st : St) (l : List Int) : src st (.d (dg l)) = some (l.length, l.map iv) := by
 cases l with
 | nil => rfl
 | cons x l => rfl
/-! ### The helpers at each kind of value -/
theorem lenA_z (b : Bool) : lenA (.d (.z b)) = some 0 := rfl
theorem lenA_row (n : Nat) (cs : List D) : lenA (.d (.row n cs)) = some n := rfl
theorem lenA_own (k : Key) (n : Nat) : lenA (.own k n) = some n := rfl
theorem loadA_ptr (h : Hp) (sz : Option Nat) (k : Key) (off : Nat) : QcF h sz (.ptr k off) = (h k).bind fun o => Qab sz off o.cs := rfl
theorem loadA_ep (h : Hp) (sz : Option Nat) (k : Key) (n off : Nat) : QcF h sz (.ep k n off) = (h k).bind fun o => guardO (o.n = n) (Qab sz off o.cs) := rfl
theorem loadA_rc (h : Hp) (f : Nat) : QcF h none (.d (.rc f)) = some (.d (.fn f [.rc f])) := rfl
theorem fadA_ptr (i : Nat) (k : Key) (o : Nat) : fadA i (.ptr k o) = some (.ptr k (o + i)) := rfl
theorem fadA_ep (i : Nat) (k : Key) (n o : Nat) : fadA i (.ep k n o) = some (.ep k n (o + i)) := rfl
theorem fadA_rp (i : Nat) (cs : List D) : fadA i (.d (.rp cs)) = some (.d (.rp (cs.drop i))) := rfl
theorem ixaA_own (h : Hp) (es : Nat) (j : Int) (q : Key) (n : Nat) : ixaA h es j (.own q n) = (h q).bind fun o => guardO (o.n = n ∧ 0 ≤ j ∧ j < n) (some (.ep q n (j.toNat * es))) := rfl
theorem QrN (h : Hp) (v : A) (k : Key) (off : Nat) : QfQ h v (.ptr k off) = (h k).bind fun o => guardO (o.fz = false) ((Qaf off (QaT v) o.cs).map fun cs => hupd h k { o with cs }) := rfl
theorem storeA_ep (h : Hp) (v : A) (k : Key) (n off : Nat) : QfQ h v (.ep k n off) = (h k).bind fun o => guardO (o.fz = false ∧ o.n = n) ((allD (QaT v)).bind fun _ => (Qaf off (QaT v) o.cs).map fun cs => hupd h k { o with cs }) := rfl
theorem strA_s (s : ByteArray) : strA (.d (.v (.string s))) = some s := rfl
theorem valA_v (x : Value) : valA (.d (.v x)) = some x := rfl
theorem aggA_g (cs : List D) : aggA (.d (.agg cs)) = some cs := rfl
theorem extA_t (i : Nat) (xs : List D) : extA i (.d (.tup xs)) = (xs[i]?).map .d := rfl
theorem fnA_f (f : Nat) (c : List D) : fnA (.d (.fn f c)) = some (f, c) := rfl
theorem int_i (k : IntKind) (n : Int) : A.int? (.d (.v (.int k n))) = some n := rfl
theorem bool_b (b : Bool) : A.bool? (.d (.v (.bool b))) = some b := rfl
theorem argD_d (st : St) (x : D) : argD st (.d x) = some (x, true) := rfl
theorem argD_own (st : St) (k : Key) (n : Nat) : argD st (.own k n) = (st.hp k).bind fun o => guardO (o.n = n) ((allD o.cs).map fun cs => (.row n cs, o.fz)) := rfl
theorem toD_d (st : St) (x : D) : toD st (.d x) = some x := rfl
theorem toD_own (st : St) (k : Key) (n : Nat) : toD st (.own k n) = (st.hp k).bind fun o => guardO (o.n = n) ((allD o.cs).map fun cs => .row n cs) := rfl
theorem retA_d (k : Key) (h : Hp) (ad fz : Bool) (x : D) : retA k h ad fz (.d x) = guardO (fz = true ∨ x.flat = true) (some (.d x, h)) := rfl
theorem retA_own (k : Key) (h : Hp) (ad fz : Bool) (es n : Nat) (cs : List D) : retA k h ad fz (.own es n cs) = guardO (fz = true) (mkA k h (!ad) es n cs) := rfl
theorem mkA_t (k : Key) (h : Hp) (es n : Nat) (cs : List D) : mkA k h true es n cs = some (.d (.row n cs), h) := rfl
theorem mkA_f (k : Key) (h : Hp) (es n : Nat) (cs : List D) : mkA k h false es n cs = guardO ((h k).isNone = true) (some (.own k n, hupd h k ⟨es, n, cs.map .d, false⟩)) := rfl
theorem appA_z (k : Key) (h : Hp) (fz : Bool) (es by_ m : Nat) (ys : List D) (b : Bool) : appA k h fz es by_ m ys (.d (.z b)) =
    guardO (m * by_ ≤ bound ∧ ys.length = m * es) (if m = 0 then some (.d (.z b), h) else mkA k h fz es m ys) := rfl
theorem appA_own (k : Key) (h : Hp) (fz : Bool) (es by_ m : Nat) (ys : List D) (q : Key) (n : Nat) : appA k h fz es by_ m ys (.own q n) =
    (h q).bind fun o => guardO (o.n = n ∧ o.fz = false ∧ o.es = es ∧ o.cs.length = n * es ∧ (n + m) * by_ ≤ bound ∧ ys.length = m * es ∧ ys.all D.one = true)
      (if fz then (allD o.cs).map fun cs => (.d (.row (n + m) (cs ++ ys)), hupd h q ⟨es, n + m, o.cs ++ ys.map .d, true⟩)
       else some (.own q (n + m), hupd h q ⟨es, n + m, o.cs ++ ys.map .d, false⟩)) := rfl
theorem ex_n_x (i : Nat) : (Ex.n = Ex.x i) = False := by simp
theorem ex_x_n (i : Nat) : (Ex.x i = Ex.n) = False := by simp
theorem ex_x_x (i j : Nat) : (Ex.x i = Ex.x j) = (i = j) := by simp
theorem ex_r_n : (Ex.r = Ex.n) = False := by simp
theorem ex_r_x (i : Nat) : (Ex.r = Ex.x i) = False := by simp
theorem ex_n_n : (Ex.n = Ex.n) = True := by simp

theorem Qpf {α β : Type} {x y : Option α} {f : α → Option β} (h : x = y) : x.bind f = y.bind f := by rw [h]
theorem Qp9 {α β : Type} {x y : Option α} {f : α → β} (h : x = y) : x.map f = y.map f := by rw [h]

attribute [go_sem] X_seq X_reg X_cond X_blk X_keep X_frz X_exit X_ret X_skip exs exO act Qde putO E.ev allE QhC upd_get hupd_get fr0_get hp0_get
 Option.bind_some Option.map_some Option.bind_none Option.map_none Option.getD_some Option.getD_none Option.isNone_none Option.isNone_some guardO binV binI shOp Qef iA
 endOf Ql8 resL resV argF QgL QlS QkM Qit QfN refsO refsOO updO_some Qr2 updO_get hupdO_get refs QfO List.all_nil List.all_cons QnO bind_ite map_ite
 lenA_z lenA_row lenA_own loadA_ptr loadA_ep loadA_rc fadA_ptr fadA_ep fadA_rp ixaA_own QrN storeA_ep strA_s valA_v aggA_g extA_t fnA_f int_i bool_b argD_d argD_own toD_d toD_own
 retA_d retA_own mkA_t mkA_f appA_z appA_own QaP ex_n_x ex_x_n ex_x_x ex_r_n ex_r_x ex_n_n
theorem key1 (a b : Nat) : (([a] : Key) = [b]) = (a = b) := by simp
theorem tt_true : (true = true) = True := by simp
theorem ft_false : (false = true) = False := by simp
theorem lenD1 (a : D) : ([a] : List D).length = 1 := rfl
theorem lenD2 (a b : D) : ([a, b] : List D).length = 2 := rfl
theorem lenD3 (a b c : D) : ([a, b, c] : List D).length = 3 := rfl
theorem lenD4 (a b c d : D) : ([a, b, c, d] : List D).length = 4 := rfl
attribute [go_sem] X_inl calA QmO QsE waitO capO asideO QeJ goneO resA Ex.fin
attribute [go_sem] lenD1 lenD2 lenD3 lenD4 key1 Key.isIn List.any_cons List.any_nil tt_true ft_false decide_true decide_false Bool.and_true Bool.true_and Bool.and_self Bool.or_true Bool.true_or Bool.or_false Bool.false_or and_true true_and and_self
theorem ge_t {a b : Int} (h : a ≥ b) : decide (a ≥ b) = true := decide_eq_true h
theorem ge_f {a b : Int} (h : ¬ a ≥ b) : decide (a ≥ b) = false := decide_eq_false h
theorem gt_t {a b : Int} (h : a > b) : decide (a > b) = true := decide_eq_true h
theorem gt_f {a b : Int} (h : ¬ a > b) : decide (a > b) = false := decide_eq_false h
theorem lt_t {a b : Int} (h : a < b) : decide (a < b) = true := decide_eq_true h
theorem lt_f {a b : Int} (h : ¬ a < b) : decide (a < b) = false := decide_eq_false h
theorem le_t {a b : Int} (h : a ≤ b) : decide (a ≤ b) = true := decide_eq_true h
theorem le_f {a b : Int} (h : ¬ a ≤ b) : decide (a ≤ b) = false := decide_eq_false h
theorem Qk4 {a b : Int} (h : a = b) : (a == b) = true := by simp [h]
theorem QdJ {a b : Int} (h : a ≠ b) : (a == b) = false := by simp [h]
theorem bne_t {a b : Int} (h : a ≠ b) : (a != b) = true := by simp [h]
theorem bne_f {a b : Int} (h : a = b) : (a != b) = false := by simp [h]
theorem Qr4 (n : Nat) : Int.ofNat n = (n : Int) := rfl
theorem one_int (k : IntKind) (n : Int) : A.one (.d (.v (.int k n))) = true := rfl
theorem Qrj (b : Bool) : A.one (.d (.v (.bool b))) = true := rfl
theorem one_str (b : ByteArray) : A.one (.d (.v (.string b))) = true := rfl
theorem one_z (b : Bool) : A.one (.d (.z b)) = true := rfl
theorem one_row (n : Nat) (cs : List D) : A.one (.d (.row n cs)) = true := rfl
theorem one_own (k : Key) (n : Nat) : A.one (.own k n) = true := rfl
theorem one_ptr (k : Key) (n : Nat) : A.one (.ptr k n) = true := rfl
theorem QaA (l : List Int) : A.one (.d (dg l)) = true := by cases l <;> rfl
theorem one_agg (cs : List D) : A.one (.d (.agg cs)) = false := rfl
theorem cells_agg (cs : List D) : QaT (.d (.agg cs)) = cs.map .d := rfl
theorem cells_int (k : IntKind) (n : Int) : QaT (.d (.v (.int k n))) = [.d (.v (.int k n))] := rfl
theorem QsJ (b : Bool) : QaT (.d (.v (.bool b))) = [.d (.v (.bool b))] := rfl
theorem cells_str (b : ByteArray) : QaT (.d (.v (.string b))) = [.d (.v (.string b))] := rfl
theorem cells_z (b : Bool) : QaT (.d (.z b)) = [.d (.z b)] := rfl
theorem cells_row (n : Nat) (cs : List D) : QaT (.d (.row n cs)) = [.d (.row n cs)] := rfl
theorem Qaq (l : List Int) : QaT (.d (dg l)) = [.d (dg l)] := by cases l <;> rfl
theorem cells_own (k : Key) (n : Nat) : QaT (.own k n) = [.own k n] := rfl
theorem cells_ptr (k : Key) (n : Nat) : QaT (.ptr k n) = [.ptr k n] := rfl
theorem dc_agg (cs : List D) : Qc7 (.d (.agg cs)) = some cs := rfl
theorem dc_int (k : IntKind) (n : Int) : Qc7 (.d (.v (.int k n))) = some [.v (.int k n)] := rfl
theorem dc_bool (b : Bool) : Qc7 (.d (.v (.bool b))) = some [.v (.bool b)] := rfl
theorem dc_str (b : ByteArray) : Qc7 (.d (.v (.string b))) = some [.v (.string b)] := rfl
theorem dc_z (b : Bool) : Qc7 (.d (.z b)) = some [.z b] := rfl
theorem dc_row (n : Nat) (cs : List D) : Qc7 (.d (.row n cs)) = some [.row n cs] := rfl
theorem QbT (l : List Int) : Qc7 (.d (dg l)) = some [dg l] := by cases l <;> rfl
theorem dc_fn (f : Nat) (cs : List D) : Qc7 (.d (.fn f cs)) = some [.fn f cs] := rfl
theorem rep_1 (z : D) : rep 1 [z] = [z] := rfl
theorem rep_2 (z : D) : rep 2 [z] = [z, z] := rfl
theorem rep_3 (z : D) : rep 3 [z] = [z, z, z] := rfl
theorem wrap_u64 (n : Int) : IntKind.u64.wrap n = n % 18446744073709551616 := by
 unfold IntKind.wrap
 simp [IntKind.signed, IntKind.bits]
theorem base_ne : ((1000000000 : Int) = 0) = False := by simp
theorem nc0 : ((0 : Nat) : Int) = 0 := rfl
theorem toNat0 : Int.toNat 0 = 0 := rfl
theorem ob_ft : (some false = some true) = False := by simp
theorem ob_tf : (some true = some false) = False := by simp
theorem ob_tt : (some true = some true) = True := by simp
theorem ob_ff : (some false = some false) = True := by simp
theorem tf_false : (true = false) = False := by simp
theorem ff_true : (false = false) = True := by simp
attribute [go_sem] rep_1 rep_2 rep_3 wrap_u64 base_ne fillD Nat.reduceMul Nat.reduceSub List.getElem?_cons_zero List.getElem?_cons_succ List.getElem?_nil true_or or_true or_self false_or or_false and_false false_and nc0 toNat0 Nat.sub_zero Nat.mul_one Nat.zero_mul Qr4 List.map_cons List.map_nil List.length_cons List.length_nil Nat.reduceAdd Nat.reduceLeDiff List.take_succ_cons List.take_zero List.drop_succ_cons List.drop_zero List.drop_nil List.take_nil List.nil_append List.cons_append List.append_nil Int.toNat_natCast ob_ft ob_tf ob_tt ob_ff tf_false ff_true Bool.not_true Bool.not_false Bool.false_and Bool.and_false unV eqD slcA bnds optI cut srcS QkF Qgx Qbl QcG D.flat Qja allD one_int Qrj one_str one_z one_row one_own one_ptr QaA one_agg cells_agg cells_int QsJ cells_str cells_z cells_row Qaq cells_own cells_ptr dc_agg dc_int dc_bool dc_str dc_z dc_row QbT dc_fn
attribute [congr] Qpf Qp9
end Go.AM

/- Numbers in digits: plain mathematics, no program in sight. -/
namespace Go.AM


def digs : Nat → List Int
 | 0 => []
 | n + 1 => (((n + 1) % 1000000000 : Nat) : Int) :: digs ((n + 1) / 1000000000)
 decreasing_by omega
def val : List Int → Int
 | [] => 0
 | d :: r => d + 1000000000 * val r
def Dig (l : List Int) : Prop := ∀ d ∈ l, 0 ≤ d ∧ d < 1000000000

theorem QaH : digs 0 = [] := by rw [digs]
theorem Qd6 {n : Nat} (h : 0 < n) : digs n = ((n % 1000000000 : Nat) : Int) :: digs (n / 1000000000) := by
 cases n with
 | zero => omega
 | succ n => rw [digs]
theorem Dig.nil : Dig [] := by intro d h; cases h
theorem Dig.cons {d : Int} {l : List Int} : Dig (d :: l) ↔ (0 ≤ d ∧ d < 1000000000) ∧ Dig l := by
 constructor
 ·intro h; exact ⟨h d (by simp), fun e he => h e (by simp [he])⟩
 ·rintro ⟨h1, h2⟩ e he
  rcases List.mem_cons.1 he with rfl | he
  ·exact h1
  ·exact h2 e he
theorem Dig.append {l m : List Int} : Dig (l ++ m) ↔ Dig l ∧ Dig m := by
 constructor
 ·intro h; exact ⟨fun e he => h e (by simp [he]), fun e he => h e (by simp [he])⟩
 ·rintro ⟨h1, h2⟩ e he
  rcases List.mem_append.1 he with he | he
  ·exact h1 e he
  ·exact h2 e he
theorem Dig.take {l : List Int} (h : Dig l) (n : Nat) : Dig (l.take n) := fun e he => h e (List.mem_of_mem_take he)
theorem Dig.drop {l : List Int} (h : Dig l) (n : Nat) : Dig (l.drop n) := fun e he => h e (List.mem_of_mem_drop he)
theorem Dig.getD {l : List Int} (h : Dig l) (i : Nat) : 0 ≤ l.getD i 0 ∧ l.getD i 0 < 1000000000 := by
 rw [List.getD_eq_getElem?_getD]
 cases hq : l[i]? with
 | none => simp
 | some x => exact h x (List.mem_of_getElem? hq)
theorem Dig.set {l : List Int} (h : Dig l) {i : Nat} {d : Int} (hd : 0 ≤ d ∧ d < 1000000000) : Dig (l.set i d) := by
 intro e he
 rcases List.mem_or_eq_of_mem_set he with he | rfl
 ·exact h e he
 ·exact hd
theorem Dig.replicate (n : Nat) : Dig (List.replicate n 0) := by
 intro e he
 rw [(List.mem_replicate.1 he).2]; omega

theorem Qat : ∀ n : Nat, Dig (digs n) := by
 intro n
 induction n using Nat.strongRecOn with
 | _ n ih =>
  rcases Nat.eq_zero_or_pos n with rfl | h
  ·rw [QaH]; exact .nil
  ·rw [Qd6 h, Dig.cons]
   exact ⟨by omega, ih _ (by omega)⟩
theorem QaE : ∀ n : Nat, val (digs n) = n := by
 intro n
 induction n using Nat.strongRecOn with
 | _ n ih =>
  rcases Nat.eq_zero_or_pos n with rfl | h
  ·rw [QaH]; rfl
  ·rw [Qd6 h, val, ih _ (by omega)]
   omega
theorem QaK : ∀ {l : List Int}, Dig l → 0 ≤ val l
 | [], _ => Int.le_refl _
 | d :: r, h => by
  obtain ⟨h1, h2⟩ := Dig.cons.1 h
  have := QaK h2
  simp only [val]
  omega
theorem Qqe {n : Nat} : digs n = [] ↔ n = 0 := by
 constructor
 ·intro h
  rcases Nat.eq_zero_or_pos n with h' | h'
  ·exact h'
  ·rw [Qd6 h'] at h; cases h
 ·rintro rfl; exact QaH
theorem digs_length_pos {n : Nat} : 0 < (digs n).length ↔ 0 < n := by
 rw [List.length_pos_iff, ne_eq, Qqe]; omega

def Top (l : List Int) : Prop := ∀ h : l ≠ [], l.getLast h ≠ 0
theorem Qcf : ∀ n : Nat, Top (digs n) := by
 intro n
 induction n using Nat.strongRecOn with
 | _ n ih =>
  intro h
  rcases Nat.eq_zero_or_pos n with rfl | hp
  ·exact absurd QaH h
  ·have e := Qd6 hp
   by_cases h0 : n / 1000000000 = 0
   ·have : digs n = [((n % 1000000000 : Nat) : Int)] := by rw [e, h0, QaH]
    simp only [this, List.getLast_singleton]
    omega
   ·have hne : digs (n / 1000000000) ≠ [] := by rw [ne_eq, Qqe]; exact h0
    have : (digs n).getLast h = (digs (n / 1000000000)).getLast hne := by
     simp only [e]
     exact List.getLast_cons hne
    rw [this]
    exact ih _ (by omega) hne
theorem QqD : ∀ {l : List Int}, Dig l → Top l → digs (val l).toNat = l
  | [], _, _ => QaH
  | d :: r, h, ht => by
    obtain ⟨h1, h2⟩ := Dig.cons.1 h
    have hv := QaK h2
    have htr : Top r := by
      intro hne
      have := ht (by simp)
      rw [List.getLast_cons hne] at this
      exact this
    have ih := QqD h2 htr
    have hpos : 0 < (val (d :: r)).toNat := by
      simp only [val]
      by_cases hr : r = []
      · subst hr
        have := ht (by simp)
        simp at this
        simp only [val]
        omega
      · have : val r ≠ 0 := by
          intro h0
          rw [h0] at ih
          exact hr (ih.symm.trans QaH)
        omega
    rw [Qd6 hpos]
    have e1 : ((val (d :: r)).toNat % 1000000000 : Nat) = d.toNat := by simp only [val]; omega
    have e2 : (val (d :: r)).toNat / 1000000000 = (val r).toNat := by simp only [val]; omega
    rw [e1, e2, ih]
    congr 1
    omega
theorem QeW : ∀ (l m : List Int), val (l ++ m) = val l + (1000000000 : Int) ^ l.length * val m
 | [], m => by simp [val]
 | d :: r, m => by
  rw [List.cons_append, val, QeW r m, val, List.length_cons]
  grind
theorem QdT : ∀ n : Nat, val (List.replicate n 0) = 0
 | 0 => rfl
 | n + 1 => by rw [List.replicate_succ, val, QdT n]; rfl
theorem QeD : ∀ {l : List Int}, Dig l → val l < (1000000000 : Int) ^ l.length
 | [], _ => by simp [val]
 | d :: r, h => by
  obtain ⟨h1, h2⟩ := Dig.cons.1 h
  have := QeD h2
  rw [val, List.length_cons, Int.pow_succ]
  grind
theorem Qek : ∀ (l : List Int) (i : Nat) (d : Int), i < l.length → val (l.set i d) = val l + (1000000000 : Int) ^ i * (d - l.getD i 0)
 | [], i, d, h => by simp at h
 | e :: r, 0, d, h => by simp [val]; omega
 | e :: r, i + 1, d, h => by
  rw [List.set_cons_succ, val, val, Qek r i d (by simpa using h)]
  simp only [List.getD_cons_succ]
  grind
theorem Qg7 {n m : Nat} (h : n ≤ m) : (1000000000 : Int) ^ n ≤ (1000000000 : Int) ^ m := by
 obtain ⟨k, rfl⟩ := Nat.exists_eq_add_of_le h
 rw [Int.pow_add]
 have h1 : (0 : Int) < (1000000000 : Int) ^ k := Int.pow_pos (by omega)
 have h2 : (0 : Int) ≤ (1000000000 : Int) ^ n := Int.pow_nonneg (by omega)
 have h3 : (1000000000 : Int) ^ n * 1 ≤ (1000000000 : Int) ^ n * (1000000000 : Int) ^ k := Int.mul_le_mul_of_nonneg_left (by omega) h2
 omega
end Go.AM

/- Integers as the program holds them. -/
namespace Go.AM
open Go Go.RowKit

def sgn (neg : Bool) (x : Int) : Int := if neg then -x else x
def encI (x : Int) : D := .agg [bv (decide (x < 0)), dg (digs x.natAbs)]
def rowI (l : List Int) : D := .row l.length (l.map iv)
def I64 (n : Int) : Prop := -9223372036854775808 ≤ n ∧ n < 9223372036854775808

theorem ixa_rowI (h : Hp) (l : List Int) {j : Int} (h0 : 0 ≤ j) (h1 : j < l.length) : ixaA h 1 j (.d (rowI l)) = some (.d (.rp ((l.drop j.toNat).map iv))) := by
 simp only [ixaA, guardO, rowI]
 rw [if_pos ⟨h0, h1⟩, Nat.mul_one, List.map_drop]
def Rw (d : D) (l : List Int) : Prop := d = dg l ∨ d = rowI l
theorem Rw.dg (l : List Int) : Rw (dg l) l := .inl rfl
theorem Rw.row (l : List Int) : Rw (rowI l) l := .inr rfl
theorem Rw.len {d : D} {l : List Int} (h : Rw d l) : lenA (.d d) = some l.length := by
 rcases h with rfl | rfl
 ·exact QaP l
 ·rfl
theorem Rw.ixa {d : D} {l : List Int} (hr : Rw d l) {j : Int} (h0 : 0 ≤ j) (h1 : j < l.length) (h : Hp) : ixaA h 1 j (.d d) = some (.d (.rp ((l.drop j.toNat).map iv))) := by
 rcases hr with rfl | rfl
 ·exact ixa_dg h l h0 h1
 ·exact ixa_rowI h l h0 h1
theorem Rw.ixn {d : D} {l : List Int} (hr : Rw d l) {j : Nat} (h1 : j < l.length) (h : Hp) : ixaA h 1 (j : Int) (.d d) = some (.d (.rp ((l.drop j).map iv))) := by
 have := hr.ixa (j := (j : Int)) (by omega) (by omega) h
 simpa using this
theorem Rw.src {d : D} {l : List Int} (hr : Rw d l) (st : St) : src st (.d d) = some (l.length, l.map iv) := by
 rcases hr with rfl | rfl
 ·exact src_dg st l
 ·rfl
theorem Rw.ne {d : D} {l : List Int} (hr : Rw d l) (h : l ≠ []) : d = rowI l := by
 rcases hr with rfl | rfl
 ·exact Qm5 h
 ·rfl
theorem ldv (h : Hp) (l : List Int) {j : Nat} (h1 : j < l.length) : QcF h none (.d (.rp ((l.drop j).map iv))) = some (.d (.v (.int .i64 (l.getD j 0)))) := Qox h l h1

def cutn (l : List Int) : Nat → Nat
 | 0 => 0
 | n + 1 => if l.getD n 0 = 0 then cutn l n else n + 1
theorem QlB (l : List Int) : ∀ n, cutn l n ≤ n
 | 0 => Nat.le_refl _
 | n + 1 => by
  rw [cutn]
  split
  ·exact Nat.le_succ_of_le (QlB l n)
  ·exact Nat.le_refl _
theorem Qf6 (l : List Int) (n : Nat) (h : n < l.length) : val (l.take (n + 1)) = val (l.take n) + (1000000000 : Int) ^ n * l.getD n 0 := by
 have : l.take (n + 1) = l.take n ++ [l.getD n 0] := by
  rw [List.take_add_one]
  simp [List.getD, h]
 rw [this, QeW, List.length_take, Nat.min_eq_left (Nat.le_of_lt h)]
 simp [val]
theorem QrC (l : List Int) : ∀ n, n ≤ l.length → val (l.take (cutn l n)) = val (l.take n)
 | 0, _ => rfl
 | n + 1, h => by
  rw [cutn]
  split
  ·rename_i h0
   rw [QrC l n (by omega), Qf6 l n (by omega), h0]; omega
  ·rfl
theorem Qq9 (l : List Int) : ∀ n, n ≤ l.length → Top (l.take (cutn l n))
 | 0, _ => by intro h; simp [cutn] at h
 | n + 1, h => by
  rw [cutn]
  split
  ·exact Qq9 l n (by omega)
  ·rename_i h0
   intro hne
   have : l.take (n + 1) = l.take n ++ [l.getD n 0] := by
    rw [List.take_add_one]
    simp [List.getD, (by omega : n < l.length)]
   simp only [this]
   rw [List.getLast_append_of_ne_nil _ (by simp)]
   simpa using h0
theorem Qoo {l : List Int} (hd : Dig l) : digs (val l).toNat = l.take (cutn l l.length) := by
 have h1 := QrC l l.length (Nat.le_refl _)
 rw [List.take_length] at h1
 rw [← h1]
 exact QqD (hd.take _) (Qq9 l _ (Nat.le_refl _))
theorem QoF {l : List Int} (hd : Dig l) : cutn l l.length = 0 ↔ val l = 0 := by
 have hc := QlB l l.length
 have h1 := Qoo hd
 have hv := QaK hd
 constructor
 ·intro h
  rw [h, List.take_zero, Qqe] at h1
  omega
 ·intro h
  rw [h] at h1
  have h2 : l.take (cutn l l.length) = [] := by rw [← h1]; exact QaH
  have := congrArg List.length h2
  simp at this
  rcases this with h' | h'
  ·exact h'
  ·subst h'; simp at hc; exact hc
theorem Qg5 (neg : Bool) (x : Int) : (sgn neg x).natAbs = x.natAbs := by cases neg <;> simp [sgn]
theorem Qqt {neg : Bool} {l : List Int} (hd : Dig l) : encI (sgn neg (val l)) = if cutn l l.length = 0 then .agg [bv false, .z true] else .agg [bv neg, .row (cutn l l.length) ((l.map iv).take (cutn l l.length))] := by
 have hv := QaK hd
 have hc := QlB l l.length
 by_cases h0 : cutn l l.length = 0
 ·rw [if_pos h0, (QoF hd).1 h0]
  have e : encI 0 = .agg [bv false, .z true] := by
   have : digs (0 : Int).natAbs = [] := QaH
   rw [encI, this]; rfl
  cases neg <;> exact e
 ·rw [if_neg h0]
  have hne : val l ≠ 0 := fun h => h0 ((QoF hd).2 h)
  have e1 : decide (sgn neg (val l) < 0) = neg := by
   cases neg
   ·simp only [sgn, Bool.false_eq_true, if_false, decide_eq_false_iff_not]; omega
   ·simp only [sgn, if_true, decide_eq_true_eq]; omega
  have e2 : (sgn neg (val l)).natAbs = (val l).toNat := by rw [Qg5]; omega
  have hne2 : l.take (cutn l l.length) ≠ [] := by
   intro h
   have := congrArg List.length h
   simp at this
   rcases this with h' | h'
   ·exact h0 h'
   ·subst h'; exact h0 rfl
  rw [encI, e1, e2, Qoo hd, Qm5 hne2, List.map_take]
  congr 3
  simp; omega

theorem QeG {l : List Int} {i : Nat} (d : Int) (h : i < l.length) : val ((l.set i d).take (i + 1)) = val (l.take i) + (1000000000 : Int) ^ i * d := by
 rw [Qf6 _ _ (by simpa using h)]
 have e1 : (l.set i d).take i = l.take i := by
  apply List.ext_getElem?
  intro j
  simp only [List.getElem?_take, List.getElem?_set]
  split
  ·rw [if_neg (by omega)]
  ·rfl
 have e2 : (l.set i d).getD i 0 = d := by simp [List.getD, h]
 rw [e1, e2]
theorem Qba {l : List Int} {i j : Nat} (d : Int) (h : i ≠ j) : (l.set i d).getD j 0 = l.getD j 0 := by
 simp [List.getD, List.getElem?_set, h]
theorem Qaz (l : List Int) (n : Nat) : val (l.take (n + 1)) = val (l.take n) + (1000000000 : Int) ^ n * l.getD n 0 := by
 by_cases h : n < l.length
 ·exact Qf6 l n h
 ·have e1 : l.take (n + 1) = l := List.take_of_length_le (by omega)
  have e2 : l.take n = l := List.take_of_length_le (by omega)
  have e3 : l.getD n 0 = 0 := by rw [List.getD_eq_getElem?_getD, List.getElem?_eq_none (by omega)]; rfl
  rw [e1, e2, e3]; omega

/-! ### Arrays of numbers that are written -/
def QbL (l : List Int) : List A := l.map fun x => A.d (.v (.int .i64 x))
theorem Qai (l : List Int) : (QbL l).length = l.length := by simp [QbL]
theorem QbH {l : List Int} {off : Nat} {v : Int} (h : off < l.length) : Qaf off [A.d (.v (.int .i64 v))] (QbL l) = some (QbL (l.set off v)) := by
 rw [Qaf, guardO, if_pos (by rw [Qai]; simp; omega)]
 congr 1
 apply List.ext_getElem?
 intro j
 rw [Qjj _ _ _ (by rw [Qai]; simp; omega)]
 simp only [List.length_cons, List.length_nil, QbL, List.getElem?_map, List.getElem?_set]
 by_cases h1 : j < off
 ·rw [if_pos h1, if_neg (by omega)]
 ·rw [if_neg h1]
  by_cases h2 : j < off + (0 + 1)
  ·obtain rfl : j = off := by omega
   simp [h]
  ·rw [if_neg h2, if_neg (by omega)]
theorem Qcc {l : List Int} {off : Nat} (h : off < l.length) : Qab none off (QbL l) = some (A.d (.v (.int .i64 (l.getD off 0)))) := by
 simp [Qab, QbL, List.getD, h]
theorem Qap (ks : List Key) (l : List Int) : QfO ks (QbL l) = true := by
 induction l with
 | nil => rfl
 | cons x r ih => simpa [QbL, QfO, refs] using ih
theorem QbU (l : List Int) : allD (QbL l) = some (l.map iv) := by
 induction l with
 | nil => rfl
 | cons x r ih =>
  simp only [QbL, List.map_cons, allD] at ih ⊢
  rw [ih]; rfl
theorem Qjr (n : Nat) : List.map A.d (rep n [.v (.int .i64 0)]) = QbL (List.replicate n 0) := by
 induction n with
 | zero => rfl
 | succ n ih =>
  simp only [rep, List.replicate_succ, List.flatten_cons, List.map_append, List.map_cons, List.map_nil, QbL, List.cons_append, List.nil_append] at ih ⊢
  rw [ih]
theorem mapd_I (l : List Int) : List.map A.d (l.map iv) = QbL l := by simp [QbL, iv]
theorem cpy_I {h : Hp} {k : Key} {a out : List Int} {n : Nat} (hk : h k = some ⟨1, n, QbL out, false⟩) (hn : n = a.length) (ho : out.length = n) : cpyA h 1 a.length (a.map iv) (.own k n) = some (n, hupd h k ⟨1, n, QbL a, false⟩) := by
 subst hn
 have h1 : ∀ l : List Int, (l.map iv).all D.one = true := by
  intro l; simp [iv, D.one, A.one]
 simp only [cpyA, hk, Option.bind_some, guardO, Qai, ho, Nat.mul_one, List.length_map, h1, and_self, if_true, Nat.min_self]
 congr 3
 rw [List.take_of_length_le (by simp), List.drop_eq_nil_of_le (by rw [Qai, ho]; exact Nat.le_refl _), List.append_nil, mapd_I]
theorem QpA {l : List Int} (h : Dig l) (n : Nat) : val (l.take n) ≤ val l := by
 have e : l.take n ++ l.drop n = l := List.take_append_drop n l
 have h1 : val l = val (l.take n) + (1000000000 : Int) ^ (l.take n).length * val (l.drop n) := by rw [← QeW, e]
 have h2 := QaK (h.drop n)
 have h3 : (0 : Int) ≤ (1000000000 : Int) ^ (l.take n).length * val (l.drop n) := Int.mul_nonneg (Int.pow_nonneg (by omega)) h2
 omega
theorem Qh3 {l : List Int} {i j : Nat} (h : Dig (l.drop i)) (hij : i ≤ j) : 0 ≤ l.getD j 0 ∧ l.getD j 0 < 1000000000 := by
 have := h.getD (j - i)
 rw [List.getD_eq_getElem?_getD, List.getElem?_drop, show i + (j - i) = j by omega, ← List.getD_eq_getElem?_getD] at this
 exact this
theorem QkO (l : List Int) {i j : Nat} (d : Int) (h : i ≤ j) : (l.set j d).take i = l.take i := by
 apply List.ext_getElem?
 intro q
 simp only [List.getElem?_take, List.getElem?_set]
 split
 ·rw [if_neg (by omega)]
 ·rfl
theorem Qf1 (l : List Int) {i j : Nat} (d : Int) (h : j < i) : (l.set j d).drop i = l.drop i := by
 apply List.ext_getElem?
 intro q
 simp only [List.getElem?_drop, List.getElem?_set]
 rw [if_neg (by omega)]
theorem QiP {l : List Int} {i : Nat} (d : Int) (h : i < l.length) : (l.set i d).take (i + 1) = l.take i ++ [d] := by
 rw [List.take_add_one, QkO l d (Nat.le_refl _)]
 simp [h]

/-! ### Sizes -/
def nd (x : Int) : Nat := (digs x.natAbs).length
theorem QfA : ∀ (k n : Nat), n < 1000000000 ^ k → (digs n).length ≤ k
 | 0, n, h => by
  have : n = 0 := by simpa using h
  subst this; rw [QaH]; exact Nat.le_refl _
 | k + 1, n, h => by
  rcases Nat.eq_zero_or_pos n with rfl | hp
  ·rw [QaH]; simp
  ·rw [Qd6 hp, List.length_cons]
   have : n / 1000000000 < 1000000000 ^ k := by
    rw [Nat.pow_succ] at h
    exact Nat.div_lt_of_lt_mul (by rw [Nat.mul_comm]; exact h)
   exact Nat.succ_le_succ (QfA k _ this)
theorem Qdz (x : Int) : x.natAbs < 1000000000 ^ nd x := by
 have h1 := QeD (Qat x.natAbs)
 rw [QaE] at h1
 have h2 : ((1000000000 ^ (digs x.natAbs).length : Nat) : Int) = (1000000000 : Int) ^ (digs x.natAbs).length := by simp
 rw [← h2] at h1
 exact Int.ofNat_lt.1 h1
theorem QoY {x : Int} {k : Nat} (h : x.natAbs < 1000000000 ^ k) : nd x ≤ k := QfA k _ h
theorem QiN {n m : Nat} (h : n ≤ m) : 1000000000 ^ n ≤ 1000000000 ^ m := Nat.pow_le_pow_right (by omega) h
theorem QkG {x y : Int} {k : Nat} (hx : nd x ≤ k) (hy : nd y ≤ k) : nd (x + y) ≤ k + 1 := by
 apply QoY
 have h1 := Nat.lt_of_lt_of_le (Qdz x) (QiN hx)
 have h2 := Nat.lt_of_lt_of_le (Qdz y) (QiN hy)
 rw [Nat.pow_succ]
 omega
theorem nd_neg (x : Int) : nd (-x) = nd x := by simp [nd]
theorem Qc9 {x y : Int} : nd (x * y) ≤ nd x + nd y := by
 apply QoY
 rw [Int.natAbs_mul, Nat.pow_add]
 exact Nat.mul_lt_mul'' (Qdz x) (Qdz y)
theorem QgJ {x y : Int} (h : x.natAbs ≤ y.natAbs) : nd x ≤ nd y := QoY (Nat.lt_of_le_of_lt h (Qdz y))
theorem Qdg {x : Int} (h : -9223372036854775808 ≤ x ∧ x < 9223372036854775808) : nd x ≤ 3 := by
 apply QoY
 have : (1000000000 : Nat) ^ 3 = 1000000000000000000000000000 := by decide
 omega
theorem Qlg : nd 0 = 0 := by
 have : digs (0 : Int).natAbs = [] := QaH
 rw [nd, this]; rfl
theorem Qdh (x : Int) : val (digs x.natAbs) = x.natAbs := QaE _
end Go.AM

