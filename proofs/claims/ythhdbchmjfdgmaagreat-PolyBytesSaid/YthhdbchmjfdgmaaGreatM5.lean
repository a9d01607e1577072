/- Part 5 of the proof: a small machine, its soundness against the model, and what the program's functions compute on it. -/
import Derived.Test.YthhdbchmjfdgmaaGreatM4
import Derived.Test.YthhdbchmjfdgmaaGreatProg
import Derived.KernelRfl
import Derived.Test.YthhdbchmjfdgmaaGreatM3
import Derived.Test.YthhdbchmjfdgmaaGreatM0
import Derived.RowKit
set_option linter.unusedVariables false
set_option linter.unusedSimpArgs false
set_option maxRecDepth 100000
namespace Go.AM
open Go Go.Proofs


def QaJ:C :=
 .seq (.seq (.seq (oR [oM 9 7,oM 10 0,oQq 11 10,oBb 12 .lss 9 11] [0,1,5,6,7,12] [[32]])<|.cond (.t 12) (.skip)<|.seq (.keep [5] [[32]])<|.exit 0)<|.seq (.seq (.blk 1<|.seq (oR [oM 15 0,oM 16 7,oXx 17 1 15 16,oDd 18 17,oM 19 1,oM 20 7,oJ 21 QbV [19,20],oBb 22 .sub 18 21,oM 23 6,oBb 24 .sub 22 23,oM 8 24] [0,1,5,7,8] [[32]])<|.seq (oR [oA 6 (.mov (oC 0))] [0,1,5,6,7,8] [[32]])<|.seq (.seq (oR [oM 25 8,oA 26 (.bin .lss (.t 25) (oC 0))] [0,1,5,6,7,8,26] [[32]])<|.cond (.t 26) (.seq (oR [oM 27 8,oA 28 (.bin .add (.t 27) (oC 1000000000)),oM 8 28] [0,1,5,7,8] [[32]])<|oR [oA 6 (.mov (oC 1))] [0,1,5,6,7,8] [[32]])<|.skip)<|oR [oM 29 5,oM 30 8,oA 31 (.lit 1 1 [.v (.int .i64 0)] [(0,(.t 30))] true),oA 32 (.app 1 8 (.t 29) (.t 31) false),oM 5 32] [0,1,5,6,7] [[32]])<|.keep [0,1,5,6,7] [[32]])<|oR [oM 13 7,oA 14 (.bin .add (.t 13) (oC 1)),oM 7 14] [0,1,5,6,7] [[32]])<|.keep [0,1,5,6,7] [[32]]
def QdA:CF:=⟨2,.seq (oR [oA 4 (.mov (.c (.z true)))] [0,1] [])<|.seq (oR [oA 5 (.mov (.c (.z true)))] [0,1,5] [[32]])<|.seq (oR [oA 6 (.mov (oC 0))] [0,1,5,6] [[32]])<|.seq (.seq (oR [oA 7 (.mov (oC 0))] [0,1,5,6,7] [[32]])<|.seq (.blk 0<|.seq (.keep [0,1,5,6,7] [[32]])<|.loop QaJ)<|.keep [5] [[32]])<|.seq (oR [oM 33 5,oM 4 33] [4] [[32]])<|.ret,[.t 4]⟩

def QcC:CF:=⟨1,.seq (oR [oEe 1 0,oA 2 (.mov (oC 0))] [1] [[1]])<|.seq (.seq (.blk 0<|.seq (oR [oNn 4 0 1,oDd 5 4,oM 3 5] [1,3] [[1]])<|.cond (.t 3) (.seq (oR [oA 2 (.mov (oC (-1)))] [2] [])<|.ret)<|.seq (oR [oNn 7 1 1,oDd 8 7,oQq 9 8,oA 10 (.bin .eql (.t 9) (oC 0)),oM 6 10] [6] [])<|.cond (.t 6) (.seq (oR [oA 2 (.mov (oC 0))] [2] [])<|.ret)<|.skip)<|.keep [] [])<|.seq (oR [oA 2 (.mov (oC 1))] [2] [])<|.ret,[.t 2]⟩

def Qas:C :=
 .seq (.seq (oR [oBb 9 .lss 8 7] [0,1,7,8,9] [])<|.seq (.cond (.t 9) (.skip)<|.seq (.keep [] [])<|.exit 0)<|.seq (.seq (.blk 1<|.seq (oR [oM 10 8,oM 5 10] [0,1,5,7,8] [])<|.seq (oR [oM 11 1,oM 12 0,oM 13 5,oXx 14 4 12 13,oL 15 4 14,oA 16 (.calv (.t 11) [.t 15])] [0,1,5,7,8,16] [])<|.cond (.t 16) (.seq (oR [oM 17 5,oM 4 17] [4] [])<|.ret)<|.skip)<|.keep [0,1,7,8] [])<|oR [oA 18 (.bin .add (.t 8) (oC 1)),oM 8 18] [0,1,7,8] [])<|.keep [0,1,7,8] []
def QbH:CF:=⟨2,.seq (oR [oA 4 (.mov (oC 0))] [0,1] [])<|.seq (.seq (oR [oM 6 0,oQq 7 6,oA 8 (.mov (oC 0))] [0,1,7,8] [])<|.seq (.blk 0<|.seq (.keep [0,1,7,8] [])<|.loop Qas)<|.keep [] [])<|.seq (oR [oA 4 (.mov (oC (-1)))] [4] [])<|.ret,[.t 4]⟩

def QcD:CF:=⟨1,.seq (oR [oEe 1 0,oA 2 (.mov (.c (.v (.bool false))))] [1] [[1]])<|.seq (.seq (oR [oNn 3 1 1,oDd 4 3,oA 5 (.call Qb7 [(.t 4),(.f QaD)] false)] [1,5] [[1]])<|.cond (.t 5) (.seq (oR [oA 2 (.mov (.c (.v (.bool false))))] [2] [])<|.ret)<|.skip)<|.seq (oR [oNn 6 1 1,oDd 7 6,oQq 8 7,oA 9 (.bin .eql (.t 8) (oC 0)),oM 10 9,oG 11 10 true (.fad 0 (.t 1)),oG 12 10 true (.load none (.t 11)),oG 13 10 true (.un .not (.t 12)),oA 14 (.pick (.t 10) (.t 13) (.c (.v (.bool false)))),oM 15 14,oG 16 15 false (.fad 1 (.t 1)),oG 17 15 false (.load none (.t 16)),oG 18 15 false (.len (.t 17)),oG 19 15 false (.bin .gtr (.t 18) (oC 0)),oHh 20 15 false 19,oG 21 20 true (.fad 1 (.t 1)),oG 22 20 true (.load none (.t 21)),oG 23 20 true (.fad 1 (.t 1)),oG 24 20 true (.load none (.t 23)),oG 25 20 true (.len (.t 24)),oG 26 20 true (.bin .sub (.t 25) (oC 1)),oG 27 20 true (.ixa 1 (.t 22) (.t 26)),oG 28 20 true (.load none (.t 27)),oG 29 20 true (.bin .neq (.t 28) (oC 0)),oG 30 15 false (.pick (.t 20) (.t 29) (.c (.v (.bool false)))),oA 31 (.pick (.t 15) (.c (.v (.bool true))) (.t 30)),oM 2 31] [2] [])<|.ret,[.t 2]⟩

def Qfq:CF:=⟨1,.seq (oR [oA 2 (.mov (oC 0))] [0] [])<|.seq (oR [oM 3 0,oA 4 (.call QbV [(.t 3),(oC 1)] false),oA 5 (.bin .mul (.t 4) (oC 1000000000)),oM 6 0,oA 7 (.call QbV [(.t 6),(oC 0)] false),oBb 8 .add 5 7,oM 2 8] [2] [])<|.ret,[.t 2]⟩

def Qbj:C :=
 .seq (.seq (.seq (oR [oM 64 12,oM 65 13,oBb 66 .lss 64 65] [0,1,8,9,10,12,13,66] [[42]])<|.cond (.t 66) (.skip)<|.seq (.keep [0,1,8,9,10,12] [[42]])<|.exit 2)<|.seq (.blk 3<|.seq (oR [oM 67 12,oM 68 13,oBb 69 .add 67 68,oA 70 (.bin .add (.t 69) (oC 1)),oA 71 (.bin .quo (.t 70) (oC 2)),oM 14 71] [0,1,8,9,10,12,13,14] [[42]])<|.seq (oR [oM 72 1,oM 73 14,oJ 74 Qd8 [72,73],oM 75 9,oJ 76 Qbi [74,75],oA 77 (.bin .leq (.t 76) (oC 0))] [0,1,8,9,10,12,13,14,77] [[42]])<|.cond (.t 77) (oR [oM 78 14,oM 12 78] [0,1,8,9,10,12,13] [[42]])<|oR [oM 79 14,oA 80 (.bin .sub (.t 79) (oC 1)),oM 13 80] [0,1,8,9,10,12,13] [[42]])<|.keep [0,1,8,9,10,12,13] [[42]])<|.keep [0,1,8,9,10,12,13] [[42]]
def Qa7:C :=
 .seq (.seq (.seq (oR [oM 46 10,oA 47 (.bin .geq (.t 46) (oC 0))] [0,1,8,9,10,47] [[42]])<|.cond (.t 47) (.skip)<|.seq (.keep [8,9] [[42]])<|.exit 0)<|.seq (.seq (.blk 1<|.seq (oR [oM 50 0,oM 51 10,oXx 52 1 50 51,oDd 53 52,oA 54 (.lit 1 1 [.v (.int .i64 0)] [(0,(.t 53))] false),oM 55 9,oA 56 (.app 1 8 (.t 54) (.t 55) true),oA 57 (.call Qao [(.c (.v (.bool false))),(.t 56)] false),oA 11 (.new [.v (.bool false),.z true]),oPp 2 11 57] [0,1,8,10,11] [[11],[42]])<|.seq (oR [oNn 58 1 11,oDd 59 58,oM 9 59] [0,1,8,9,10] [[42]])<|.seq (oR [oA 12 (.mov (oC 0))] [0,1,8,9,10,12] [[42]])<|.seq (oR [oA 13 (.mov (oC 999999999))] [0,1,8,9,10,12,13] [[42]])<|.seq (.seq (oR [oM 60 9,oM 61 1,oJ 62 Qbi [60,61],oA 63 (.bin .lss (.t 62) (oC 0))] [0,1,8,9,10,12,13,63] [[42]])<|.cond (.t 63) (oR [oA 13 (.mov (oC 0))] [0,1,8,9,10,12,13] [[42]])<|.skip)<|.seq (.seq (.blk 2<|.seq (.keep [0,1,8,9,10,12,13] [[42]])<|.loop Qbj)<|.keep [0,1,8,9,10,12] [[42]])<|.seq (oR [oM 81 9,oM 82 1,oM 83 12,oJ 84 Qd8 [82,83],oJ 85 Qcp [81,84],oA 86 (.call Qao [(.c (.v (.bool false))),(.t 85)] false),oA 15 (.new [.v (.bool false),.z true]),oPp 2 15 86] [0,1,8,10,12,15] [[15],[42]])<|.seq (oR [oM 87 8,oM 88 10,oM 89 12,oXx 90 1 87 88,oPp 1 90 89] [0,1,8,10,15] [[15],[42]])<|oR [oNn 91 1 15,oDd 92 91,oM 9 92] [0,1,8,9,10] [[42]])<|.keep [0,1,8,9,10] [[42]])<|oR [oM 48 10,oA 49 (.bin .sub (.t 48) (oC 1)),oM 10 49] [0,1,8,9,10] [[42]])<|.keep [0,1,8,9,10] [[42]]
def Qbq:CF:=⟨2,.seq (oR [oA 4 (.mov (.c (.z true))),oA 5 (.mov (.c (.z true)))] [0,1] [])<|.seq (.seq (oR [oM 16 0,oQq 17 16,oA 18 (.bin .leq (.t 17) (oC 2)),oM 19 18,oHh 20 19 true 1,oG 21 19 true (.len (.t 20)),oG 22 19 true (.bin .leq (.t 21) (oC 2)),oA 23 (.pick (.t 19) (.t 22) (.c (.v (.bool false))))] [0,1,23] [])<|.cond (.t 23) (.seq (oR [oM 24 0,oJ 25 QbD [24],oM 26 1,oJ 27 QbD [26],oBb 28 .quo 25 27,oJ 29 QbN [28],oA 6 (.new [.v (.bool false),.z true]),oPp 2 6 29] [0,1,6] [[6]])<|.seq (oR [oM 30 0,oJ 31 QbD [30],oM 32 1,oJ 33 QbD [32],oBb 34 .rem 31 33,oJ 35 QbN [34],oA 7 (.new [.v (.bool false),.z true]),oPp 2 7 35] [6,7] [[6],[7]])<|.seq (oR [oNn 36 1 6,oDd 37 36,oNn 38 1 7,oDd 39 38,oM 4 37,oM 5 39] [4,5] [[42]])<|.ret)<|.skip)<|.seq (oR [oM 40 0,oQq 41 40,oA 42 (.mksl 1 8 [.v (.int .i64 0)] (.t 41) (.t 41)),oM 8 42] [0,1,8] [[42]])<|.seq (oR [oA 9 (.mov (.c (.z true)))] [0,1,8,9] [[42]])<|.seq (.seq (oR [oM 43 0,oQq 44 43,oA 45 (.bin .sub (.t 44) (oC 1)),oM 10 45] [0,1,8,9,10] [[42]])<|.seq (.blk 0<|.seq (.keep [0,1,8,9,10] [[42]])<|.loop Qa7)<|.keep [8,9] [[42]])<|.seq (oR [oM 93 8,oM 94 9,oM 4 93,oM 5 94] [4,5] [[42]])<|.ret,[.t 4,.t 5]⟩

def Qdx:CF:=⟨2,.seq (oR [oA 4 (.mov (oC 0))] [0,1] [])<|.seq (oR [oM 7 0,oJ 8 QfL [7],oM 5 8] [0,1,5] [])<|.seq (oR [oM 9 1,oJ 10 QfL [9],oM 6 10] [0,1,5,6] [])<|.seq (.seq (oR [oM 11 5] [0,1,6,11] [])<|.cond (.t 11) (.seq (.seq (oR [oM 12 6] [12] [])<|.cond (.t 12) (.seq (oR [oA 4 (.mov (oC 0))] [4] [])<|.ret)<|.skip)<|.seq (oR [oA 4 (.mov (oC (-1)))] [4] [])<|.ret)<|.skip)<|.seq (.seq (oR [oM 13 6] [0,1,13] [])<|.cond (.t 13) (.seq (oR [oA 4 (.mov (oC 1))] [4] [])<|.ret)<|.skip)<|.seq (.seq (oR [oM 14 0,oM 15 1,oBb 16 .lss 14 15] [0,1,16] [])<|.cond (.t 16) (.seq (oR [oA 4 (.mov (oC (-1)))] [4] [])<|.ret)<|.skip)<|.seq (.seq (oR [oM 17 0,oM 18 1,oBb 19 .gtr 17 18] [19] [])<|.cond (.t 19) (.seq (oR [oA 4 (.mov (oC 1))] [4] [])<|.ret)<|.skip)<|.seq (oR [oA 4 (.mov (oC 0))] [4] [])<|.ret,[.t 4]⟩

def QeB:CF:=⟨1,.seq (oR [oA 2 (.mov (oC 0)),oA 3 (.mov (.c (.v (.bool false))))] [0] [])<|.seq (.seq (oR [oM 4 0,oQq 5 4] [0,5] [])<|.seq (.blk 0<|.seq (oR [oA 7 (.bin .eql (.t 5) (oC 0)),oM 6 7] [0,5,6] [])<|.cond (.t 6) (.seq (oR [oA 2 (.mov (oC 0)),oA 3 (.mov (.c (.v (.bool true))))] [2,3] [])<|.ret)<|.seq (oR [oA 9 (.bin .eql (.t 5) (oC 1)),oM 8 9] [0,5,8] [])<|.cond (.t 8) (.seq (oR [oM 10 0,oA 11 (.ixa 1 (.t 10) (oC 0)),oDd 12 11,oM 2 12,oA 3 (.mov (.c (.v (.bool true))))] [2,3] [])<|.ret)<|.seq (oR [oA 14 (.bin .eql (.t 5) (oC 2)),oM 13 14] [0,13] [])<|.cond (.t 13) (.seq (oR [oM 15 0,oA 16 (.ixa 1 (.t 15) (oC 1)),oDd 17 16,oA 18 (.bin .mul (.t 17) (oC 1000000000)),oM 19 0,oA 20 (.ixa 1 (.t 19) (oC 0)),oDd 21 20,oBb 22 .add 18 21,oM 2 22,oA 3 (.mov (.c (.v (.bool true))))] [2,3] [])<|.ret)<|.skip)<|.keep [] [])<|.seq (oR [oA 2 (.mov (oC 0)),oA 3 (.mov (.c (.v (.bool false))))] [2,3] [])<|.ret,[.t 2,.t 3]⟩

def Qcd:CF:=⟨2,.seq (oR [oA 4 (.new [.v (.bool false),.z true]),oA 5 (.new [.v (.bool false),.z true])] [0,1,4,5] [[4],[5]])<|.seq (.seq (oR [oM 15 0,oJ 16 Qeg [15],oM 14 16,oA 17 (.ext (.t 14) 0),oA 18 (.ext (.t 14) 1),oM 6 17,oM 7 18] [0,1,4,5,6,7] [[4],[5]])<|.seq (oR [oM 19 7] [0,1,4,5,6,19] [[4],[5]])<|.cond (.t 19) (.seq (oR [oM 21 1,oJ 22 Qeg [21],oM 20 22,oA 23 (.ext (.t 20) 0),oA 24 (.ext (.t 20) 1),oM 8 23,oM 9 24] [0,1,4,5,6,8,9] [[4],[5]])<|.seq (oR [oM 25 9] [0,1,4,5,6,8,25] [[4],[5]])<|.cond (.t 25) (.seq (oR [oM 26 6,oM 27 8,oBb 28 .quo 26 27,oA 29 (.conv (.int .u64) (.t 28)),oA 30 (.call QbC [(.c (.v (.bool false))),(.t 29)] false),oM 31 6,oM 32 8,oBb 33 .rem 31 32,oA 34 (.conv (.int .u64) (.t 33)),oA 35 (.call QbC [(.c (.v (.bool false))),(.t 34)] false),oPp 2 4 30,oPp 2 5 35] [4,5] [[4],[5]])<|.ret)<|.skip)<|.skip)<|.seq (.seq (oR [oM 36 0,oM 37 1,oJ 38 QeH [36,37],oA 39 (.bin .lss (.t 38) (oC 0))] [0,1,4,5,39] [[4],[5]])<|.cond (.t 39) (.seq (oR [oA 40 (.build [.v (.bool false),.z true] []),oM 41 0,oA 42 (.call Qbu [(.c (.v (.bool false))),(.t 41)] false),oPp 2 4 40,oPp 2 5 42] [4,5] [[4],[5]])<|.ret)<|.skip)<|.seq (.seq (oR [oM 43 1,oQq 44 43,oA 45 (.bin .eql (.t 44) (oC 1))] [0,1,4,5,45] [[4],[5]])<|.cond (.t 45) (.seq (oR [oM 47 0,oM 48 1,oA 49 (.ixa 1 (.t 48) (oC 0)),oDd 50 49,oJ 51 QfW [47,50],oM 46 51,oA 52 (.ext (.t 46) 0),oA 53 (.ext (.t 46) 1),oM 10 52,oM 11 53] [4,5,10,11] [[4],[5]])<|.seq (oR [oM 54 10,oA 55 (.call Qbu [(.c (.v (.bool false))),(.t 54)] false),oM 56 11,oA 57 (.conv (.int .u64) (.t 56)),oA 58 (.call QbC [(.c (.v (.bool false))),(.t 57)] false),oPp 2 4 55,oPp 2 5 58] [4,5] [[4],[5]])<|.ret)<|.skip)<|.seq (oR [oM 60 0,oM 61 1,oJ 62 Qip [60,61],oM 59 62,oA 63 (.ext (.t 59) 0),oA 64 (.ext (.t 59) 1),oM 12 63,oM 13 64] [4,5,12,13] [[4],[5]])<|.seq (oR [oM 65 12,oA 66 (.call Qbu [(.c (.v (.bool false))),(.t 65)] false),oM 67 13,oA 68 (.call Qbu [(.c (.v (.bool false))),(.t 67)] false),oPp 2 4 66,oPp 2 5 68] [4,5] [[4],[5]])<|.ret,[.cell 4 (some 2),.cell 5 (some 2)]⟩

def Qe6:C :=
 .seq (.seq (oR [oBb 12 .lss 11 10] [3,9,10,11,12] [[8],[18]])<|.seq (.cond (.t 12) (.skip)<|.seq (.keep [3] [[8],[18]])<|.exit 0)<|.seq (.seq (.blk 1<|.seq (oR [oXx 13 1 9 11,oDd 14 13,oM 5 14] [3,5,9,10,11] [[8],[18]])<|oR [oM 15 3,oM 16 5,oJ 17 Qic [16],oA 18 (.app 1 1 (.t 15) (.t 17) false),oM 3 18] [3,9,10,11] [[8],[18]])<|.keep [3,9,10,11] [[8],[18]])<|oR [oA 19 (.bin .add (.t 11) (oC 1)),oM 11 19] [3,9,10,11] [[8],[18]])<|.keep [3,9,10,11] [[8],[18]]
def Qlx:CF:=⟨1,.seq (oR [oA 2 (.mov (.c (.z true)))] [0] [])<|.seq (oR [oM 6 0,oQq 7 6,oA 8 (.call Qic [.t 7] true),oM 3 8] [0,3] [[8],[18]])<|.seq (.seq (oR [oM 9 0,oQq 10 9,oA 11 (.mov (oC 0))] [3,9,10,11] [[8],[18]])<|.seq (.blk 0<|.seq (.keep [3,9,10,11] [[8],[18]])<|.loop Qe6)<|.keep [3] [[8],[18]])<|.seq (oR [oM 20 3,oM 2 20] [2] [[8],[18]])<|.ret,[.t 2]⟩

def Qcq:C :=
 .seq (.seq (.seq (oR [oM 8 4,oM 9 0,oQq 10 9,oBb 11 .lss 8 10] [0,3,4,11] [[7],[20]])<|.cond (.t 11) (.skip)<|.seq (.keep [3] [[7],[20]])<|.exit 0)<|.seq (.seq (.blk 1<|oR [oM 14 3,oM 15 0,oM 16 4,oXx 17 1 15 16,oDd 18 17,oJ 19 QcV [18],oA 20 (.app 1 1 (.t 14) (.t 19) false),oM 3 20] [0,3,4] [[7],[20]])<|.keep [0,3,4] [[7],[20]])<|oR [oM 12 4,oA 13 (.bin .add (.t 12) (oC 1)),oM 4 13] [0,3,4] [[7],[20]])<|.keep [0,3,4] [[7],[20]]
def Qfg:CF:=⟨1,.seq (oR [oA 2 (.mov (.c (.z true)))] [0] [])<|.seq (oR [oM 5 0,oQq 6 5,oA 7 (.call QcV [.t 6] true),oM 3 7] [0,3] [[7],[20]])<|.seq (.seq (oR [oA 4 (.mov (oC 0))] [0,3,4] [[7],[20]])<|.seq (.blk 0<|.seq (.keep [0,3,4] [[7],[20]])<|.loop Qcq)<|.keep [3] [[7],[20]])<|.seq (oR [oM 21 3,oM 2 21] [2] [[7],[20]])<|.ret,[.t 2]⟩

def wire_GetInts_i0:C :=
 .seq (oR [oEe 2 0,oEe 3 1,oA 4 (.mov (.c (.v (.nilFunc))))] [2,3] [[2,0],[3,0]])<|.seq (oR [oA 5 (.mkfn Qdu [.t 2,.t 3] false),oM 4 5] [4] [[2,0],[3,0]])<|.ret
def wire_GetInts_i1:C :=
 .seq (oR [oA 2 (.mov (oC 0)),oA 3 (.mov (oC 0)),oA 4 (.mov (oC 0))] [0,1] [[2,0],[3,0]])<|.seq (oR [oDd 9 0,oDd 10 1,oA 11 (.slc 1 (.t 9) (some (.t 10)) none none),oJ 12 QdM [11],oM 8 12,oA 13 (.ext (.t 8) 0),oA 14 (.ext (.t 8) 1),oA 15 (.ext (.t 8) 2),oM 5 13,oM 6 14,oM 7 15] [1,5,6,7] [[2,0],[3,0]])<|.seq (oR [oDd 16 1,oM 17 6,oBb 18 .add 16 17,oPp 1 1 18] [1,5,7] [[2,0],[3,0]])<|.seq (oR [oM 19 5,oDd 20 1,oM 21 7,oM 2 19,oM 3 20,oM 4 21] [2,3,4] [[2,0],[3,0]])<|.ret
def QaO:C :=
 .seq (.seq (oR [oBb 27 .lss 26 25] [6,8,9,25,26,27] [[40],[2,0],[3,0]])<|.seq (.cond (.t 27) (.skip)<|.seq (.keep [6,9] [[40],[2,0],[3,0]])<|.exit 0)<|.seq (.seq (.blk 1<|.seq (.seq (.inl [oM 29 8] (some 30) (.t 29) [] Qdu wire_GetInts_i1 [.t 2,.t 3,.t 4] 2 [oM 28 30,oA 31 (.ext (.t 28) 0),oA 32 (.ext (.t 28) 1),oA 33 (.ext (.t 28) 2),oM 10 31,oM 11 32,oM 12 33] [8,9,25,26] [[2,0],[3,0]] [[40]])<|.keep [8,9,10,11,12,25,26] [[40],[2,0],[3,0]])<|.seq (.seq (oR [oM 34 12,oA 35 (.bin .neq (.t 34) (oC 0))] [8,9,10,11,12,25,26,35] [[40],[2,0],[3,0]])<|.cond (.t 35) (.seq (oR [oM 36 12,oA 2 (.mov (.c (.z true))),oA 3 (.mov (oC 0)),oM 4 36] [2,3,4] [[40],[2,0],[3,0]])<|.ret)<|.skip)<|oR [oM 37 9,oM 38 10,oA 39 (.lit 1 1 [.v (.int .i64 0)] [(0,(.t 38))] true),oA 40 (.app 1 8 (.t 37) (.t 39) false),oM 41 11,oM 9 40,oM 6 41] [6,8,9,25,26] [[40],[2,0],[3,0]])<|.keep [6,8,9,25,26] [[40],[2,0],[3,0]])<|oR [oA 42 (.bin .add (.t 26) (oC 1)),oM 26 42] [6,8,9,25,26] [[40],[2,0],[3,0]])<|.keep [6,8,9,25,26] [[40],[2,0],[3,0]]
def wire_GetInts:CF:=⟨1,.seq (oR [oA 2 (.mov (.c (.z true))),oA 3 (.mov (oC 0)),oA 4 (.mov (oC 0))] [0] [[2,0],[3,0]])<|.seq (oR [oM 14 0,oA 15 (.call Qkm [(.t 14),(oC 1)] false),oM 13 15,oA 16 (.ext (.t 13) 0),oA 17 (.ext (.t 13) 1),oA 18 (.ext (.t 13) 2),oM 5 16,oM 6 17,oM 7 18] [0,5,6,7] [[2,0],[3,0]])<|.seq (.seq (oR [oM 19 7,oA 20 (.bin .neq (.t 19) (oC 0))] [0,5,6,7,20] [[2,0],[3,0]])<|.cond (.t 20) (.seq (oR [oM 21 7,oA 2 (.mov (.c (.z true))),oA 3 (.mov (oC 0)),oM 4 21] [2,3,4] [[40],[2,0],[3,0]])<|.ret)<|.skip)<|.seq (.seq (.inl [oM 22 0,oM 23 6] (some 24) (.f QgY) [.t 22,.t 23] QgY wire_GetInts_i0 [.t 4] 2 [oM 8 24] [5,6] [[2,0],[3,0]] [])<|.keep [5,6,8] [[2,0],[3,0]])<|.seq (oR [oA 9 (.mov (.c (.z true)))] [5,6,8,9] [[40],[2,0],[3,0]])<|.seq (.seq (oR [oM 25 5,oA 26 (.mov (oC 0))] [6,8,9,25,26] [[40],[2,0],[3,0]])<|.seq (.blk 0<|.seq (.keep [6,8,9,25,26] [[40],[2,0],[3,0]])<|.loop QaO)<|.keep [6,9] [[40],[2,0],[3,0]])<|.seq (oR [oM 43 9,oM 44 6,oM 2 43,oM 3 44,oA 4 (.mov (oC 0))] [2,3,4] [[40],[2,0],[3,0]])<|.ret,[.t 2,.t 3,.t 4]⟩

def QdS:CF:=⟨1,.seq (oR [oA 2 (.mov (.c (.z true)))] [0] [])<|.seq (.seq (oR [oM 3 0,oA 4 (.isn false (.t 3))] [0,4] [])<|.cond (.t 4) (.seq (oR [oA 2 (.mov (.c (.z true)))] [2] [[5],[7]])<|.ret)<|.skip)<|.seq (oR [oA 5 (.lit 1 0 [.v (.int .i64 0)] [] false),oM 6 0,oA 7 (.app 1 8 (.t 5) (.t 6) true),oM 2 7] [2] [[5],[7]])<|.ret,[.t 2]⟩

def Qau:C :=
 .seq (.seq (.seq (oR [oM 22 9,oM 23 5,oBb 24 .lss 22 23] [0,5,6,8,9,24] [[41]])<|.cond (.t 24) (.skip)<|.seq (.keep [6,8] [[41]])<|.exit 0)<|.seq (.seq (.blk 1<|.seq (oR [oM 28 0,oM 29 6,oA 30 (.slc 1 (.t 28) (some (.t 29)) none none),oJ 31 Qca [30],oM 27 31,oA 32 (.ext (.t 27) 0),oA 33 (.ext (.t 27) 1),oA 34 (.ext (.t 27) 2),oM 10 32,oM 11 33,oM 12 34] [0,5,6,8,9,10,11,12] [[41]])<|.seq (.seq (oR [oM 35 12,oA 36 (.bin .neq (.t 35) (oC 0))] [0,5,6,8,9,10,11,12,36] [[41]])<|.cond (.t 36) (.seq (oR [oM 37 12,oA 2 (.mov (.c (.z true))),oA 3 (.mov (oC 0)),oM 4 37] [2,3,4] [[41]])<|.ret)<|.skip)<|.seq (oR [oM 38 8,oM 39 10,oA 40 (.lit 1 1 [.v (.int .i64 0)] [(0,(.t 39))] true),oA 41 (.app 1 8 (.t 38) (.t 40) false),oM 8 41] [0,5,6,8,9,11] [[41]])<|oR [oM 42 6,oM 43 11,oBb 44 .add 42 43,oM 6 44] [0,5,6,8,9] [[41]])<|.keep [0,5,6,8,9] [[41]])<|oR [oM 25 9,oA 26 (.bin .add (.t 25) (oC 1)),oM 9 26] [0,5,6,8,9] [[41]])<|.keep [0,5,6,8,9] [[41]]
def Qbp:CF:=⟨1,.seq (oR [oA 2 (.mov (.c (.z true))),oA 3 (.mov (oC 0)),oA 4 (.mov (oC 0))] [0] [])<|.seq (oR [oM 14 0,oA 15 (.call QfU [(.t 14),(oC 1)] false),oM 13 15,oA 16 (.ext (.t 13) 0),oA 17 (.ext (.t 13) 1),oA 18 (.ext (.t 13) 2),oM 5 16,oM 6 17,oM 7 18] [0,5,6,7] [])<|.seq (.seq (oR [oM 19 7,oA 20 (.bin .neq (.t 19) (oC 0))] [0,5,6,7,20] [])<|.cond (.t 20) (.seq (oR [oM 21 7,oA 2 (.mov (.c (.z true))),oA 3 (.mov (oC 0)),oM 4 21] [2,3,4] [[41]])<|.ret)<|.skip)<|.seq (oR [oA 8 (.mov (.c (.z true)))] [0,5,6,8] [[41]])<|.seq (.seq (oR [oA 9 (.mov (oC 0))] [0,5,6,8,9] [[41]])<|.seq (.blk 0<|.seq (.keep [0,5,6,8,9] [[41]])<|.loop Qau)<|.keep [6,8] [[41]])<|.seq (oR [oM 45 8,oM 46 6,oM 2 45,oM 3 46,oA 4 (.mov (oC 0))] [2,3,4] [[41]])<|.ret,[.t 2,.t 3,.t 4]⟩

def QaI:C :=
 .seq (.seq (.seq (oR [oM 4 3,oNn 5 1 1,oDd 6 5,oQq 7 6,oBb 8 .lss 4 7] [1,3,8] [[1]])<|.cond (.t 8) (.skip)<|.seq (.keep [1] [[1]])<|.exit 0)<|.seq (.seq (.blk 1<|.seq (oR [oNn 11 1 1,oDd 12 11,oM 13 3,oXx 14 1 12 13,oDd 15 14,oA 16 (.bin .lss (.t 15) (oC 0)),oM 17 16,oG 18 17 false (.fad 1 (.t 1)),oG 19 17 false (.load none (.t 18)),oHh 20 17 false 3,oG 21 17 false (.ixa 1 (.t 19) (.t 20)),oG 22 17 false (.load none (.t 21)),oG 23 17 false (.bin .geq (.t 22) (oC 1000000000)),oA 24 (.pick (.t 17) (.c (.v (.bool true))) (.t 23))] [1,3,24] [[1]])<|.cond (.t 24) (.seq (oR [oA 2 (.mov (.c (.v (.bool false))))] [2] [])<|.ret)<|.skip)<|.keep [1,3] [[1]])<|oR [oM 9 3,oA 10 (.bin .add (.t 9) (oC 1)),oM 3 10] [1,3] [[1]])<|.keep [1,3] [[1]]
def QcP:CF:=⟨1,.seq (oR [oEe 1 0,oA 2 (.mov (.c (.v (.bool false))))] [1] [[1]])<|.seq (.seq (oR [oA 3 (.mov (oC 0))] [1,3] [[1]])<|.seq (.blk 0<|.seq (.keep [1,3] [[1]])<|.loop QaI)<|.keep [1] [[1]])<|.seq (.seq (oR [oNn 25 1 1,oDd 26 25,oQq 27 26,oA 28 (.bin .eql (.t 27) (oC 0))] [1,28] [[1]])<|.cond (.t 28) (.seq (oR [oNn 29 0 1,oDd 30 29,oA 31 (.un .not (.t 30)),oM 2 31] [2] [])<|.ret)<|.skip)<|.seq (oR [oNn 32 1 1,oDd 33 32,oNn 34 1 1,oDd 35 34,oQq 36 35,oA 37 (.bin .sub (.t 36) (oC 1)),oXx 38 1 33 37,oDd 39 38,oA 40 (.bin .neq (.t 39) (oC 0)),oM 2 40] [2] [])<|.ret,[.t 2]⟩

def QbS:CF:=⟨2,.seq (oR [oEe 2 0,oEe 3 1,oA 4 (.mov (oC 0))] [2,3] [[2],[3]])<|.seq (.seq (oR [oNn 5 0 2,oDd 6 5,oNn 7 0 3,oDd 8 7,oA 9 (.binb true (.t 6) (.t 8))] [2,3,9] [[2],[3]])<|.cond (.t 9) (.seq (.seq (oR [oNn 10 0 2,oDd 11 10] [11] [])<|.cond (.t 11) (.seq (oR [oA 4 (.mov (oC (-1)))] [4] [])<|.ret)<|.skip)<|.seq (oR [oA 4 (.mov (oC 1))] [4] [])<|.ret)<|.skip)<|.seq (.seq (oR [oNn 12 0 2,oDd 13 12] [2,3,13] [[2],[3]])<|.cond (.t 13) (.seq (oR [oNn 14 1 3,oDd 15 14,oNn 16 1 2,oDd 17 16,oJ 18 Qbi [15,17],oM 4 18] [4] [])<|.ret)<|.skip)<|.seq (oR [oNn 19 1 2,oDd 20 19,oNn 21 1 3,oDd 22 21,oJ 23 Qbi [20,22],oM 4 23] [4] [])<|.ret,[.t 4]⟩

def QdL:CF:=⟨2,.seq (oR [oA 4 (.mov (oC 0))] [0,1] [])<|.seq (.seq (oR [oM 5 1,oM 6 0,oQq 7 6,oBb 8 .lss 5 7] [0,1,8] [])<|.cond (.t 8) (.seq (oR [oM 9 0,oM 10 1,oXx 11 1 9 10,oDd 12 11,oM 4 12] [4] [])<|.ret)<|.skip)<|.seq (oR [oA 4 (.mov (oC 0))] [4] [])<|.ret,[.t 4]⟩

def QaP:CF:=⟨2,.seq (oR [oA 4 (.mov (.c (.v (.bool false))))] [0,1] [])<|.seq (oR [oM 5 0,oM 6 1,oJ 7 QbO [5,6],oA 8 (.bin .geq (.t 7) (oC 0)),oM 4 8] [4] [])<|.ret,[.t 4]⟩

def QcW:CF:=⟨1,.seq (oR [oA 2 (.mov (.c (.v (.bool false))))] [0] [])<|.seq (oR [oM 3 0,oA 4 (.bin .lss (.t 3) (oC 0)),oM 5 4,oHh 6 5 false 0,oG 7 5 false (.bin .geq (.t 6) (oC 1000000000)),oA 8 (.pick (.t 5) (.c (.v (.bool true))) (.t 7)),oM 2 8] [2] [])<|.ret,[.t 2]⟩

def QeX:CF:=⟨2,.seq (oR [oA 4 (.mov (.c (.z true)))] [0,1] [])<|.seq (oR [oM 6 0,oA 7 (.call Qao [(.c (.v (.bool false))),(.t 6)] false),oM 8 1,oJ 9 QbN [8],oJ 10 QbR [7,9],oA 5 (.new [.v (.bool false),.z true]),oPp 2 5 10] [5] [[5]])<|.seq (oR [oNn 11 1 5,oDd 12 11,oM 4 12] [4] [])<|.ret,[.t 4]⟩

def QgX:CF:=⟨1,.seq (oR [oA 2 (.mov (.c (.v (.bool false))))] [0] [])<|.seq (oR [oM 3 0,oM 4 0,oBb 5 .neq 3 4,oM 2 5] [2] [])<|.ret,[.t 2]⟩

def Qct:C :=
 .seq (.seq (.seq (oR [oM 16 8,oA 17 (.bin .geq (.t 16) (oC 0))] [0,1,6,7,8,17] [[12]])<|.cond (.t 17) (.skip)<|.seq (.keep [6,7] [[12]])<|.exit 0)<|.seq (.seq (.blk 1<|.seq (oR [oM 20 7,oA 21 (.bin .mul (.t 20) (oC 1000000000)),oM 22 0,oM 23 8,oXx 24 1 22 23,oDd 25 24,oBb 26 .add 21 25,oM 9 26] [0,1,6,8,9] [[12]])<|oR [oM 27 6,oM 28 8,oM 29 9,oM 30 1,oBb 31 .quo 29 30,oM 32 9,oM 33 1,oBb 34 .rem 32 33,oXx 35 1 27 28,oPp 1 35 31,oM 7 34] [0,1,6,7,8] [[12]])<|.keep [0,1,6,7,8] [[12]])<|oR [oM 18 8,oA 19 (.bin .sub (.t 18) (oC 1)),oM 8 19] [0,1,6,7,8] [[12]])<|.keep [0,1,6,7,8] [[12]]
def Qg3:CF:=⟨2,.seq (oR [oA 4 (.mov (.c (.z true))),oA 5 (.mov (oC 0))] [0,1] [])<|.seq (oR [oM 10 0,oQq 11 10,oA 12 (.mksl 1 8 [.v (.int .i64 0)] (.t 11) (.t 11)),oM 6 12] [0,1,6] [[12]])<|.seq (oR [oA 7 (.mov (oC 0))] [0,1,6,7] [[12]])<|.seq (.seq (oR [oM 13 0,oQq 14 13,oA 15 (.bin .sub (.t 14) (oC 1)),oM 8 15] [0,1,6,7,8] [[12]])<|.seq (.blk 0<|.seq (.keep [0,1,6,7,8] [[12]])<|.loop Qct)<|.keep [6,7] [[12]])<|.seq (oR [oM 36 6,oM 37 7,oM 4 36,oM 5 37] [4,5] [[12]])<|.ret,[.t 4,.t 5]⟩

def Qbl:C :=
 .seq (.seq (.seq (oR [oM 84 13,oA 85 (.bin .geq (.t 84) (oC 1000000000)),oM 86 85,oHh 87 86 false 13,oHh 88 86 false 8,oHh 89 86 false 9,oG 90 86 false (.bin .sub (.t 89) (oC 2)),oG 91 86 false (.ixa 1 (.t 88) (.t 90)),oG 92 86 false (.load none (.t 91)),oG 93 86 false (.bin .mul (.t 87) (.t 92)),oHh 94 86 false 14,oG 95 86 false (.bin .mul (.t 94) (oC 1000000000)),oHh 96 86 false 7,oHh 97 86 false 11,oHh 98 86 false 9,oG 99 86 false (.bin .add (.t 97) (.t 98)),oG 100 86 false (.bin .sub (.t 99) (oC 2)),oG 101 86 false (.ixa 1 (.t 96) (.t 100)),oG 102 86 false (.load none (.t 101)),oG 103 86 false (.bin .add (.t 95) (.t 102)),oG 104 86 false (.bin .gtr (.t 93) (.t 103)),oA 105 (.pick (.t 86) (.c (.v (.bool true))) (.t 104))] [6,7,8,9,10,11,13,14,105] [[32],[46]])<|.cond (.t 105) (.skip)<|.seq (.keep [6,7,8,9,10,11,13] [[32],[46]])<|.exit 2)<|.seq (.blk 3<|.seq (oR [oM 106 13,oA 107 (.bin .sub (.t 106) (oC 1)),oM 13 107] [6,7,8,9,10,11,13,14] [[32],[46]])<|.seq (oR [oM 108 14,oM 109 8,oM 110 9,oA 111 (.bin .sub (.t 110) (oC 1)),oXx 112 1 109 111,oDd 113 112,oBb 114 .add 108 113,oM 14 114] [6,7,8,9,10,11,13,14] [[32],[46]])<|.seq (oR [oM 115 14,oA 116 (.bin .geq (.t 115) (oC 1000000000))] [6,7,8,9,10,11,13,14,116] [[32],[46]])<|.cond (.t 116) (.seq (.keep [6,7,8,9,10,11,13] [[32],[46]])<|.exit 2)<|.skip)<|.keep [6,7,8,9,10,11,13,14] [[32],[46]])<|.keep [6,7,8,9,10,11,13,14] [[32],[46]]
def Qcj:C :=
 .seq (.seq (oR [oBb 119 .lss 118 117] [6,7,8,9,10,11,13,15,117,118,119] [[32],[46]])<|.seq (.cond (.t 119) (.skip)<|.seq (.keep [6,7,8,9,10,11,13,15] [[32],[46]])<|.exit 4)<|.seq (.seq (.blk 5<|.seq (oR [oM 120 118,oM 16 120] [6,7,8,9,10,11,13,15,16,117,118] [[32],[46]])<|.seq (oR [oM 121 7,oM 122 16,oM 123 11,oBb 124 .add 122 123,oXx 125 1 121 124,oDd 126 125,oM 127 13,oM 128 8,oM 129 16,oXx 130 1 128 129,oDd 131 130,oBb 132 .mul 127 131,oBb 133 .sub 126 132,oM 134 15,oBb 135 .sub 133 134,oM 17 135] [6,7,8,9,10,11,13,16,17,117,118] [[32],[46]])<|.seq (oR [oA 15 (.mov (oC 0))] [6,7,8,9,10,11,13,15,16,17,117,118] [[32],[46]])<|.seq (.seq (oR [oM 136 17,oA 137 (.bin .lss (.t 136) (oC 0))] [6,7,8,9,10,11,13,15,16,17,117,118,137] [[32],[46]])<|.cond (.t 137) (.seq (oR [oM 138 17,oA 139 (.un .neg (.t 138)),oA 140 (.bin .add (.t 139) (oC 1000000000)),oA 141 (.bin .sub (.t 140) (oC 1)),oA 142 (.bin .quo (.t 141) (oC 1000000000)),oM 15 142] [6,7,8,9,10,11,13,15,16,17,117,118] [[32],[46]])<|oR [oM 143 17,oM 144 15,oA 145 (.bin .mul (.t 144) (oC 1000000000)),oBb 146 .add 143 145,oM 17 146] [6,7,8,9,10,11,13,15,16,17,117,118] [[32],[46]])<|.skip)<|oR [oM 147 7,oM 148 16,oM 149 11,oBb 150 .add 148 149,oM 151 17,oXx 152 1 147 150,oPp 1 152 151] [6,7,8,9,10,11,13,15,117,118] [[32],[46]])<|.keep [6,7,8,9,10,11,13,15,117,118] [[32],[46]])<|oR [oA 153 (.bin .add (.t 118) (oC 1)),oM 118 153] [6,7,8,9,10,11,13,15,117,118] [[32],[46]])<|.keep [6,7,8,9,10,11,13,15,117,118] [[32],[46]]
def QcU:C :=
 .seq (.seq (oR [oBb 174 .lss 173 172] [6,7,8,9,10,11,13,15,172,173,174] [[32],[46]])<|.seq (.cond (.t 174) (.skip)<|.seq (.keep [6,7,8,9,10,11,13,15] [[32],[46]])<|.exit 6)<|.seq (.seq (.blk 7<|.seq (oR [oM 175 173,oM 18 175] [6,7,8,9,10,11,13,15,18,172,173] [[32],[46]])<|.seq (oR [oM 176 7,oM 177 18,oM 178 11,oBb 179 .add 177 178,oXx 180 1 176 179,oDd 181 180,oM 182 8,oM 183 18,oXx 184 1 182 183,oDd 185 184,oBb 186 .add 181 185,oM 187 15,oBb 188 .add 186 187,oM 19 188] [6,7,8,9,10,11,13,18,19,172,173] [[32],[46]])<|oR [oM 189 7,oM 190 18,oM 191 11,oBb 192 .add 190 191,oM 193 19,oA 194 (.bin .rem (.t 193) (oC 1000000000)),oM 195 19,oA 196 (.bin .quo (.t 195) (oC 1000000000)),oXx 197 1 189 192,oPp 1 197 194,oM 15 196] [6,7,8,9,10,11,13,15,172,173] [[32],[46]])<|.keep [6,7,8,9,10,11,13,15,172,173] [[32],[46]])<|oR [oA 198 (.bin .add (.t 173) (oC 1)),oM 173 198] [6,7,8,9,10,11,13,15,172,173] [[32],[46]])<|.keep [6,7,8,9,10,11,13,15,172,173] [[32],[46]]
def Qck:C :=
 .seq (.seq (.seq (oR [oM 51 11,oA 52 (.bin .geq (.t 51) (oC 0))] [6,7,8,9,10,11,52] [[32],[46]])<|.cond (.t 52) (.skip)<|.seq (.keep [6,7,9,10] [[32],[46]])<|.exit 0)<|.seq (.seq (.blk 1<|.seq (oR [oM 55 7,oM 56 11,oM 57 9,oBb 58 .add 56 57,oXx 59 1 55 58,oDd 60 59,oA 61 (.bin .mul (.t 60) (oC 1000000000)),oM 62 7,oM 63 11,oM 64 9,oBb 65 .add 63 64,oA 66 (.bin .sub (.t 65) (oC 1)),oXx 67 1 62 66,oDd 68 67,oBb 69 .add 61 68,oM 12 69] [6,7,8,9,10,11,12] [[32],[46]])<|.seq (oR [oM 70 12,oM 71 8,oM 72 9,oA 73 (.bin .sub (.t 72) (oC 1)),oXx 74 1 71 73,oDd 75 74,oBb 76 .quo 70 75,oM 77 12,oM 78 8,oM 79 9,oA 80 (.bin .sub (.t 79) (oC 1)),oXx 81 1 78 80,oDd 82 81,oBb 83 .rem 77 82,oM 13 76,oM 14 83] [6,7,8,9,10,11,13,14] [[32],[46]])<|.seq (.skip)<|.seq (.seq (.blk 2<|.seq (.keep [6,7,8,9,10,11,13,14] [[32],[46]])<|.loop Qbl)<|.keep [6,7,8,9,10,11,13] [[32],[46]])<|.seq (oR [oA 15 (.mov (oC 0))] [6,7,8,9,10,11,13,15] [[32],[46]])<|.seq (.seq (oR [oM 117 9,oA 118 (.mov (oC 0))] [6,7,8,9,10,11,13,15,117,118] [[32],[46]])<|.seq (.blk 4<|.seq (.keep [6,7,8,9,10,11,13,15,117,118] [[32],[46]])<|.loop Qcj)<|.keep [6,7,8,9,10,11,13,15] [[32],[46]])<|.seq (.seq (oR [oM 154 7,oM 155 11,oM 156 9,oBb 157 .add 155 156,oXx 158 1 154 157,oDd 159 158,oM 160 15,oBb 161 .sub 159 160,oXx 162 1 154 157,oPp 1 162 161] [6,7,8,9,10,11,13] [[32],[46]])<|.seq (oR [oM 163 7,oM 164 11,oM 165 9,oBb 166 .add 164 165,oXx 167 1 163 166,oDd 168 167,oA 169 (.bin .lss (.t 168) (oC 0))] [6,7,8,9,10,11,13,169] [[32],[46]])<|.cond (.t 169) (.seq (oR [oM 170 13,oA 171 (.bin .sub (.t 170) (oC 1)),oM 13 171] [6,7,8,9,10,11,13] [[32],[46]])<|.seq (oR [oA 15 (.mov (oC 0))] [6,7,8,9,10,11,13,15] [[32],[46]])<|.seq (.seq (oR [oM 172 9,oA 173 (.mov (oC 0))] [6,7,8,9,10,11,13,15,172,173] [[32],[46]])<|.seq (.blk 6<|.seq (.keep [6,7,8,9,10,11,13,15,172,173] [[32],[46]])<|.loop QcU)<|.keep [6,7,8,9,10,11,13,15] [[32],[46]])<|oR [oM 199 7,oM 200 11,oM 201 9,oBb 202 .add 200 201,oXx 203 1 199 202,oDd 204 203,oM 205 15,oBb 206 .add 204 205,oXx 207 1 199 202,oPp 1 207 206] [6,7,8,9,10,11,13] [[32],[46]])<|.skip)<|oR [oM 208 10,oM 209 11,oM 210 13,oXx 211 1 208 209,oPp 1 211 210] [6,7,8,9,10,11] [[32],[46]])<|.keep [6,7,8,9,10,11] [[32],[46]])<|oR [oM 53 11,oA 54 (.bin .sub (.t 53) (oC 1)),oM 11 54] [6,7,8,9,10,11] [[32],[46]])<|.keep [6,7,8,9,10,11] [[32],[46]]
def Qhv:CF:=⟨2,.seq (oR [oA 4 (.mov (.c (.z true))),oA 5 (.mov (.c (.z true)))] [0,1] [])<|.seq (oR [oM 22 1,oM 23 1,oQq 24 23,oA 25 (.bin .sub (.t 24) (oC 1)),oXx 26 1 22 25,oDd 27 26,oA 28 (.bin .add (.t 27) (oC 1)),oA 29 (.bin .quo (oC 1000000000) (.t 28)),oM 6 29] [0,1,6] [])<|.seq (oR [oM 30 0,oM 31 6,oA 32 (.call Qfh [.t 30,.t 31] true),oM 33 1,oM 34 6,oJ 35 Qfh [33,34],oM 36 1,oQq 37 36,oA 38 (.slc 1 (.t 35) none (some (.t 37)) none),oM 7 32,oM 8 38] [0,1,6,7,8] [[32]])<|.seq (oR [oM 39 1,oQq 40 39,oM 9 40] [0,6,7,8,9] [[32]])<|.seq (oR [oM 41 0,oQq 42 41,oM 43 9,oBb 44 .sub 42 43,oA 45 (.bin .add (.t 44) (oC 1)),oA 46 (.mksl 1 8 [.v (.int .i64 0)] (.t 45) (.t 45)),oM 10 46] [0,6,7,8,9,10] [[32],[46]])<|.seq (.seq (oR [oM 47 0,oQq 48 47,oM 49 9,oBb 50 .sub 48 49,oM 11 50] [6,7,8,9,10,11] [[32],[46]])<|.seq (.blk 0<|.seq (.keep [6,7,8,9,10,11] [[32],[46]])<|.loop Qck)<|.keep [6,7,9,10] [[32],[46]])<|.seq (.seq (.frz 7)<|oR [oM 213 7,oM 214 9,oA 215 (.slc 1 (.t 213) none (some (.t 214)) none),oM 216 6,oJ 217 QfW [215,216],oM 212 217,oA 218 (.ext (.t 212) 0),oA 219 (.ext (.t 212) 1),oM 20 218,oM 21 219] [10,20] [[46]])<|.seq (oR [oM 220 10,oM 221 20,oM 4 220,oM 5 221] [4,5] [[46]])<|.ret,[.t 4,.t 5]⟩

def QfD:CF:=⟨2,.seq (oR [oA 4 (.mov (oC 0)),oA 5 (.mov (oC 0)),oA 6 (.mov (oC 0))] [0,1] [])<|.seq (oR [oM 8 0,oJ 9 QdM [8],oM 7 9,oA 10 (.ext (.t 7) 0),oA 11 (.ext (.t 7) 1),oA 12 (.ext (.t 7) 2),oM 4 10,oM 5 11,oM 6 12] [0,1,4,5,6] [])<|.seq (.seq (.blk 0<|.seq (oR [oM 14 6,oA 15 (.bin .neq (.t 14) (oC 0)),oM 13 15] [0,1,4,5,6,13] [])<|.cond (.t 13) (.skip)<|.seq (oR [oM 17 4,oA 18 (.bin .lss (.t 17) (oC 0)),oM 16 18] [0,1,4,5,6,16] [])<|.cond (.t 16) (oR [oA 6 (.mov (oC 2))] [4,5,6] [])<|.seq (oR [oM 20 4,oM 21 0,oQq 22 21,oM 23 5,oBb 24 .sub 22 23,oM 25 1,oBb 26 .quo 24 25,oBb 27 .gtr 20 26,oM 19 27] [4,5,6,19] [])<|.cond (.t 19) (oR [oA 6 (.mov (oC 3))] [4,5,6] [])<|.skip)<|.keep [4,5,6] [])<|.seq (oR [oM 28 4,oM 29 5,oM 30 6,oM 4 28,oM 5 29,oM 6 30] [4,5,6] [])<|.ret,[.t 4,.t 5,.t 6]⟩

def Qps:CF:=⟨2,.seq (oR [oEe 2 0,oEe 3 1,oA 4 (.mov (.c (.v (.nilFunc))))] [2,3] [[2],[3]])<|.seq (oR [oA 5 (.mkfn Qdu [.t 2,.t 3] true),oM 4 5] [4] [])<|.ret,[.t 4]⟩

def QbW:CF:=⟨2,.seq (oR [oA 4 (.mov (oC 0)),oA 5 (.mov (oC 0)),oA 6 (.mov (oC 0))] [0,1] [])<|.seq (oR [oM 11 0,oJ 12 Qca [11],oM 10 12,oA 13 (.ext (.t 10) 0),oA 14 (.ext (.t 10) 1),oA 15 (.ext (.t 10) 2),oM 7 13,oM 8 14,oM 9 15] [0,1,7,8,9] [])<|.seq (.seq (oR [oM 16 9,oA 17 (.bin .neq (.t 16) (oC 0))] [0,1,7,8,9,17] [])<|.cond (.t 17) (.seq (oR [oM 18 9,oA 4 (.mov (oC 0)),oA 5 (.mov (oC 0)),oM 6 18] [4,5,6] [])<|.ret)<|.skip)<|.seq (.seq (oR [oM 19 7,oA 20 (.bin .lss (.t 19) (oC 0))] [0,1,7,8,20] [])<|.cond (.t 20) (.seq (oR [oA 4 (.mov (oC 0)),oA 5 (.mov (oC 0)),oA 6 (.mov (oC 2))] [4,5,6] [])<|.ret)<|.skip)<|.seq (.seq (oR [oM 21 7,oM 22 0,oQq 23 22,oBb 24 .gtr 21 23,oM 25 24,oHh 26 25 false 7,oHh 27 25 false 1,oG 28 25 false (.bin .mul (.t 26) (.t 27)),oHh 29 25 false 0,oG 30 25 false (.len (.t 29)),oHh 31 25 false 8,oG 32 25 false (.bin .sub (.t 30) (.t 31)),oG 33 25 false (.bin .gtr (.t 28) (.t 32)),oA 34 (.pick (.t 25) (.c (.v (.bool true))) (.t 33))] [7,8,34] [])<|.cond (.t 34) (.seq (oR [oA 4 (.mov (oC 0)),oA 5 (.mov (oC 0)),oA 6 (.mov (oC 3))] [4,5,6] [])<|.ret)<|.skip)<|.seq (oR [oM 35 7,oM 36 8,oM 4 35,oM 5 36,oA 6 (.mov (oC 0))] [4,5,6] [])<|.ret,[.t 4,.t 5,.t 6]⟩

def Qal:C :=
 .seq (.seq (oR [oBb 9 .lss 8 7] [0,1,7,8,9] [])<|.seq (.cond (.t 9) (.skip)<|.seq (.keep [] [])<|.exit 0)<|.seq (.seq (.blk 1<|.seq (oR [oM 10 8,oM 5 10] [0,1,5,7,8] [])<|.seq (oR [oM 11 1,oM 12 0,oM 13 5,oXx 14 1 12 13,oDd 15 14,oA 16 (.calv (.t 11) [.t 15])] [0,1,5,7,8,16] [])<|.cond (.t 16) (.seq (oR [oM 17 5,oM 4 17] [4] [])<|.ret)<|.skip)<|.keep [0,1,7,8] [])<|oR [oA 18 (.bin .add (.t 8) (oC 1)),oM 8 18] [0,1,7,8] [])<|.keep [0,1,7,8] []
def QaQ:CF:=⟨2,.seq (oR [oA 4 (.mov (oC 0))] [0,1] [])<|.seq (.seq (oR [oM 6 0,oQq 7 6,oA 8 (.mov (oC 0))] [0,1,7,8] [])<|.seq (.blk 0<|.seq (.keep [0,1,7,8] [])<|.loop Qal)<|.keep [] [])<|.seq (oR [oA 4 (.mov (oC (-1)))] [4] [])<|.ret,[.t 4]⟩

def Qcf:C :=
 .seq (.seq (oR [oBb 17 .lss 16 15] [0,1,5,6,14,15,16,17] [[13]])<|.seq (.cond (.t 17) (.skip)<|.seq (.keep [0,5,6] [[13]])<|.exit 0)<|.seq (.seq (.blk 1<|.seq (oR [oM 18 16,oXx 19 1 14 16,oDd 20 19,oM 7 18,oM 8 20] [0,1,5,6,7,8,14,15,16] [[13]])<|.seq (oR [oM 21 8,oM 22 1,oBb 23 .mul 21 22,oM 24 6,oBb 25 .add 23 24,oM 9 25] [0,1,5,7,9,14,15,16] [[13]])<|oR [oM 26 5,oM 27 7,oM 28 9,oA 29 (.bin .rem (.t 28) (oC 1000000000)),oM 30 9,oA 31 (.bin .quo (.t 30) (oC 1000000000)),oXx 32 1 26 27,oPp 1 32 29,oM 6 31] [0,1,5,6,14,15,16] [[13]])<|.keep [0,1,5,6,14,15,16] [[13]])<|oR [oA 33 (.bin .add (.t 16) (oC 1)),oM 16 33] [0,1,5,6,14,15,16] [[13]])<|.keep [0,1,5,6,14,15,16] [[13]]
def Qgv:CF:=⟨2,.seq (oR [oA 4 (.mov (.c (.z true)))] [0,1] [])<|.seq (oR [oM 10 0,oQq 11 10,oA 12 (.bin .add (.t 11) (oC 1)),oA 13 (.mksl 1 8 [.v (.int .i64 0)] (.t 12) (.t 12)),oM 5 13] [0,1,5] [[13]])<|.seq (oR [oA 6 (.mov (oC 0))] [0,1,5,6] [[13]])<|.seq (.seq (oR [oM 14 0,oQq 15 14,oA 16 (.mov (oC 0))] [0,1,5,6,14,15,16] [[13]])<|.seq (.blk 0<|.seq (.keep [0,1,5,6,14,15,16] [[13]])<|.loop Qcf)<|.keep [0,5,6] [[13]])<|.seq (oR [oM 34 5,oM 35 0,oQq 36 35,oM 37 6,oXx 38 1 34 36,oPp 1 38 37] [5] [[13]])<|.seq (oR [oM 39 5,oM 4 39] [4] [[13]])<|.ret,[.t 4]⟩

def QnS:CF:=⟨2,.seq (oR [oA 2 (.mov (oC 0)),oA 3 (.mov (oC 0)),oA 4 (.mov (oC 0))] [0,1] [])<|.seq (oR [oDd 9 0,oDd 10 1,oA 11 (.slc 1 (.t 9) (some (.t 10)) none none),oJ 12 QdM [11],oM 8 12,oA 13 (.ext (.t 8) 0),oA 14 (.ext (.t 8) 1),oA 15 (.ext (.t 8) 2),oM 5 13,oM 6 14,oM 7 15] [1,5,6,7] [])<|.seq (oR [oDd 16 1,oM 17 6,oBb 18 .add 16 17,oPp 1 1 18] [1,5,7] [])<|.seq (oR [oM 19 5,oDd 20 1,oM 21 7,oM 2 19,oM 3 20,oM 4 21] [2,3,4] [])<|.ret,[.t 2,.t 3,.t 4]⟩

end Go.AM

set_option maxRecDepth 100000
namespace Go.AM
open Go Go.Proofs

def ft:Nat→Option CF
 | 6=>some Qcz
 | 7=>some Qc9
 | 8=>some Qds
 | 10=>some Qh1
 | 12=>some Qc5
 | 13=>some QmU
 | 15=>some Qlq
 | 17=>some QeE
 | 18=>some QeU
 | 20=>some Qgz
 | 25=>some Qne
 | 26=>some QjT
 | 27=>some Qc8
 | 28=>some QlV
 | 30=>some Qiv
 | 31=>some Qid
 | 34=>some Qhf
 | 35=>some Qiz
 | 36=>some QiK
 | 37=>some Qdb
 | 38=>some Qet
 | 39=>some Qdo
 | 40=>some Qc3
 | 41=>some Qa8
 | 42=>some QdX
 | 43=>some Qc4
 | 44=>some Qf1
 | 45=>some QfX
 | 46=>some QfO
 | 47=>some Qa3
 | 48=>some Qng
 | 49=>some QpW
 | 50=>some QiS
 | 52=>some QhY
 | 54=>some Ql8
 | 55=>some Qgq
 | 56=>some QpL
 | 57=>some Qh7
 | 58=>some QbM
 | 59=>some Qe2
 | 60=>some Qjj
 | 65=>some Qjy
 | 66=>some QhB
 | 67=>some Qc6
 | 68=>some Qba
 | 69=>some Qg5
 | 70=>some rat_Of
 | 73=>some QfS
 | 74=>some Qnb
 | 75=>some Qh4
 | 76=>some QeV
 | 77=>some QfE
 | 78=>some QkI
 | 79=>some QjP
 | 80=>some QcQ
 | 81=>some Qer
 | 82=>some Qcl
 | 83=>some QfF
 | 84=>some QaE
 | 85=>some Qb0
 | 86=>some Qdz
 | 87=>some Qc7
 | 88=>some QfQ
 | 89=>some Qf3
 | 90=>some Qej
 | 91=>some Qdv
 | 92=>some Qp6
 | 93=>some Qi1
 | 94=>some Qbk
 | 95=>some QhC
 | 96=>some QfM
 | 97=>some Qcg
 | 98=>some Qdw
 | 99=>some Qci
 | 100=>some Qdn
 | 101=>some slices_Backward_api_Poly_api_Rat_1
 | 102=>some Qif
 | 103=>some Qie
 | 104=>some Qfc
 | 105=>some Qdt
 | 106=>some Qhh
 | 107=>some Qp0
 | 108=>some Qd9
 | 109=>some Qgn
 | 110=>some Qdy
 | 111=>some Qcu
 | 112=>some Qg9
 | 113=>some QcZ
 | 114=>some Qgr
 | 115=>some Qel
 | 116=>some QcG
 | 117=>some Qby
 | 118=>some QbU
 | 119=>some Qfp
 | 120=>some Qd4
 | 121=>some Qbf
 | 122=>some QdA
 | 123=>some QcC
 | 124=>some QbH
 | 125=>some QcD
 | 126=>some Qfq
 | 127=>some Qbq
 | 128=>some Qdx
 | 129=>some QeB
 | 130=>some Qcd
 | 132=>some Qlx
 | 133=>some Qfg
 | 134=>some wire_GetInts
 | 135=>some QdS
 | 136=>some Qbp
 | 137=>some QcP
 | 138=>some QbS
 | 139=>some QdL
 | 140=>some QaP
 | 141=>some QcW
 | 142=>some QeX
 | 143=>some QgX
 | 144=>some Qg3
 | 145=>some Qhv
 | 146=>some QfD
 | 147=>some Qps
 | 148=>some QbW
 | 149=>some QaQ
 | 150=>some Qgv
 | 151=>some QnS
 | _=>none
theorem Qce:QlH Tryz.prog Tryz.f101=some slices_Backward_api_Poly_api_Rat_1.er:=by kernel_rfl
theorem Ql3:QlH Tryz.prog Tryz.f134=some wire_GetInts.er:=by kernel_rfl
theorem Qj7:InlN Tryz.prog [147,151] QgY wire_GetInts_i0 [.t 4] 2:=⟨by decide,_,_,Tryz.func147,rfl,by kernel_rfl,by kernel_rfl⟩
theorem QjF:InlN Tryz.prog [147,151] Qdu wire_GetInts_i1 [.t 2,.t 3,.t 4] 2:=⟨by decide,_,_,Tryz.func151,rfl,by kernel_rfl,by kernel_rfl⟩
theorem fkH {f:Nat} {fn:Func} {cf:CF} (h1:Tryz.prog.funcs[f]?=some fn) (h2:QlH Tryz.prog fn=some cf.er:=by kernel_rfl) (h3:cf.body.noInl=true:=by kernel_rfl):∃ fn L,Tryz.prog.funcs[f]?=some fn∧QlH Tryz.prog fn=some cf.er∧Qhq Tryz.prog L cf.body∧(L=[]∨∀ b,fn.body=some b→okI L b=true):=⟨_,[],h1,h2,QdD h3,.inl rfl⟩
theorem ft_ok:∀ f cf,ft f=some cf→∃ fn L,Tryz.prog.funcs[f]?=some fn∧QlH Tryz.prog fn=some cf.er∧Qhq Tryz.prog L cf.body∧(L=[]∨∀ b,fn.body=some b→okI L b=true):=by
  intro f cf h
  unfold ft at h
  split at h
  · cases h;exact fkH Tryz.func6
  · cases h;exact fkH Tryz.func7
  · cases h;exact fkH Tryz.func8
  · cases h;exact fkH Tryz.func10
  · cases h;exact fkH Tryz.func12
  · cases h;exact fkH Tryz.func13
  · cases h;exact fkH Tryz.func15
  · cases h;exact fkH Tryz.func17
  · cases h;exact fkH Tryz.func18
  · cases h;exact fkH Tryz.func20
  · cases h;exact fkH Tryz.func25
  · cases h;exact fkH Tryz.func26
  · cases h;exact fkH Tryz.func27
  · cases h;exact fkH Tryz.func28
  · cases h;exact fkH Tryz.func30
  · cases h;exact fkH Tryz.func31
  · cases h;exact fkH Tryz.func34
  · cases h;exact fkH Tryz.func35
  · cases h;exact fkH Tryz.func36
  · cases h;exact fkH Tryz.func37
  · cases h;exact fkH Tryz.func38
  · cases h;exact fkH Tryz.func39
  · cases h;exact fkH Tryz.func40
  · cases h;exact fkH Tryz.func41
  · cases h;exact fkH Tryz.func42
  · cases h;exact fkH Tryz.func43
  · cases h;exact fkH Tryz.func44
  · cases h;exact fkH Tryz.func45
  · cases h;exact fkH Tryz.func46
  · cases h;exact fkH Tryz.func47
  · cases h;exact fkH Tryz.func48
  · cases h;exact fkH Tryz.func49
  · cases h;exact fkH Tryz.func50
  · cases h;exact fkH Tryz.func52
  · cases h;exact fkH Tryz.func54
  · cases h;exact fkH Tryz.func55
  · cases h;exact fkH Tryz.func56
  · cases h;exact fkH Tryz.func57
  · cases h;exact fkH Tryz.func58
  · cases h;exact fkH Tryz.func59
  · cases h;exact fkH Tryz.func60
  · cases h;exact fkH Tryz.func65
  · cases h;exact fkH Tryz.func66
  · cases h;exact fkH Tryz.func67
  · cases h;exact fkH Tryz.func68
  · cases h;exact fkH Tryz.func69
  · cases h;exact fkH Tryz.func70
  · cases h;exact fkH Tryz.func73
  · cases h;exact fkH Tryz.func74
  · cases h;exact fkH Tryz.func75
  · cases h;exact fkH Tryz.func76
  · cases h;exact fkH Tryz.func77
  · cases h;exact fkH Tryz.func78
  · cases h;exact fkH Tryz.func79
  · cases h;exact fkH Tryz.func80
  · cases h;exact fkH Tryz.func81
  · cases h;exact fkH Tryz.func82
  · cases h;exact fkH Tryz.func83
  · cases h;exact fkH Tryz.func84
  · cases h;exact fkH Tryz.func85
  · cases h;exact fkH Tryz.func86
  · cases h;exact fkH Tryz.func87
  · cases h;exact fkH Tryz.func88
  · cases h;exact fkH Tryz.func89
  · cases h;exact fkH Tryz.func90
  · cases h;exact fkH Tryz.func91
  · cases h;exact fkH Tryz.func92
  · cases h;exact fkH Tryz.func93
  · cases h;exact fkH Tryz.func94
  · cases h;exact fkH Tryz.func95
  · cases h;exact fkH Tryz.func96
  · cases h;exact fkH Tryz.func97
  · cases h;exact fkH Tryz.func98
  · cases h;exact fkH Tryz.func99
  · cases h;exact fkH Tryz.func100
  · cases h;exact ⟨_,[],Tryz.func101,Qce,QdD (by kernel_rfl),.inl rfl⟩
  · cases h;exact fkH Tryz.func102
  · cases h;exact fkH Tryz.func103
  · cases h;exact fkH Tryz.func104
  · cases h;exact fkH Tryz.func105
  · cases h;exact fkH Tryz.func106
  · cases h;exact fkH Tryz.func107
  · cases h;exact fkH Tryz.func108
  · cases h;exact fkH Tryz.func109
  · cases h;exact fkH Tryz.func110
  · cases h;exact fkH Tryz.func111
  · cases h;exact fkH Tryz.func112
  · cases h;exact fkH Tryz.func113
  · cases h;exact fkH Tryz.func114
  · cases h;exact fkH Tryz.func115
  · cases h;exact fkH Tryz.func116
  · cases h;exact fkH Tryz.func117
  · cases h;exact fkH Tryz.func118
  · cases h;exact fkH Tryz.func119
  · cases h;exact fkH Tryz.func120
  · cases h;exact fkH Tryz.func121
  · cases h;exact fkH Tryz.func122
  · cases h;exact fkH Tryz.func123
  · cases h;exact fkH Tryz.func124
  · cases h;exact fkH Tryz.func125
  · cases h;exact fkH Tryz.func126
  · cases h;exact fkH Tryz.func127
  · cases h;exact fkH Tryz.func128
  · cases h;exact fkH Tryz.func129
  · cases h;exact fkH Tryz.func130
  · cases h;exact fkH Tryz.func132
  · cases h;exact fkH Tryz.func133
  · cases h;exact ⟨_,[147,151],Tryz.func134,Ql3,by simp only [Qhq,wire_GetInts,QaO,eq_true Qj7,eq_true (QdD (P:=Tryz.prog) (L:=[147,151]) (c:=wire_GetInts_i0) (by kernel_rfl)),eq_true QjF,eq_true (QdD (P:=Tryz.prog) (L:=[147,151]) (c:=wire_GetInts_i1) (by kernel_rfl)),and_self,and_true],.inr fun b hb=>by cases hb;kernel_rfl⟩
  · cases h;exact fkH Tryz.func135
  · cases h;exact fkH Tryz.func136
  · cases h;exact fkH Tryz.func137
  · cases h;exact fkH Tryz.func138
  · cases h;exact fkH Tryz.func139
  · cases h;exact fkH Tryz.func140
  · cases h;exact fkH Tryz.func141
  · cases h;exact fkH Tryz.func142
  · cases h;exact fkH Tryz.func143
  · cases h;exact fkH Tryz.func144
  · cases h;exact fkH Tryz.func145
  · cases h;exact fkH Tryz.func146
  · cases h;exact fkH Tryz.func147
  · cases h;exact fkH Tryz.func148
  · cases h;exact fkH Tryz.func149
  · cases h;exact fkH Tryz.func150
  · cases h;exact fkH Tryz.func151
  · cases h
end Go.AM

/- The seat's functions, and that their small texts are theirs. -/
namespace Go.AM
open Go Go.Proofs
class Its where
 it:Nat→List D→Option (List (List D))
 orc:Nat→List D→Option R:=fun _ _=>none
abbrev noIts:Its:={ it:=fun _ _=>none }
def G [Its]:Env:=⟨ft,Its.orc,Its.it⟩
theorem env_okO [Its] (h:∀ f ds xs,Its.it f ds=some xs→ItOk Tryz.prog f ds xs) (ho:∀ f ds r,ft f=none→Its.orc f ds=some r→CallOk Tryz.prog f ds r):EnvOk Tryz.prog G:=⟨by kernel_rfl,ft_ok,ho,h⟩
theorem env_ok [Its] (h:∀ f ds xs,Its.it f ds=some xs→ItOk Tryz.prog f ds xs) (h0:∀ f ds,(Its.orc f ds:Option R)=none:=by intros;rfl):EnvOk Tryz.prog G:=env_okO h fun f ds r _ h=>by rw [h0] at h;cases h
theorem env_ok0:EnvOk Tryz.prog (@G noIts):=@env_ok noIts (fun _ _ _ h=>by cases h) (fun _ _=>rfl)
end Go.AM

/- How the evaluator is run by simp: its equations, and lemmas on data. -/
namespace Go.AM
open Go Go.RowKit


theorem upd_get (f:Fr) (i j:Nat) (x:A):upd f i x j=if j=i then some x else f j:=rfl
theorem hupd_get (f:Hp) (i j:Key) (x:Obj):hupd f i x j=if j=i then some x else f j:=rfl
theorem updO_some (f:Fr) (i:Nat) (x:A):updO f i (some x)=upd f i x:=rfl
theorem Qsg (f:Hp) (i:Key) (x:Obj):Qbw f i (some x)=hupd f i x:=rfl
theorem updO_get (f:Fr) (i j:Nat) (x:Option A):updO f i x j=if j=i then x else f j:=rfl
theorem hupdO_get (f:Hp) (i j:Key) (x:Option Obj):Qbw f i x j=if j=i then x else f j:=rfl
theorem fr0_get (i:Nat):fr0 i=none:=rfl
theorem hp0_get (i:Key):hp0 i=none:=rfl

theorem w64_ex:∃ f:Int→Int,∀ n,IntKind.i64.wrap n=f n:=⟨_,fun _=>rfl⟩
noncomputable def w64:Int→Int:=Classical.choose w64_ex
theorem Qny (n:Int):IntKind.i64.wrap n=w64 n:=Classical.choose_spec w64_ex n
theorem Qae {n:Int} (h0:-9223372036854775808≤n) (h1:n<9223372036854775808):w64 n=n:=by
 rw [← Qny]
 unfold IntKind.wrap
 simp only [IntKind.signed,IntKind.bits,Bool.true_and,decide_eq_true_eq,ge_iff_le]
 by_cases h:(2:Int)^(64-1)≤n%2^64
 ·rw [if_pos h];omega
 ·rw [if_neg h];omega

theorem bind_ite {α β:Type} (c:Prop) [Decidable c] (x y:Option α) (f:α→Option β):(if c then x else y).bind f=if c then x.bind f else y.bind f:=by split<;>rfl
theorem map_ite {α β:Type} (c:Prop) [Decidable c] (x y:Option α) (f:α→β):(if c then x else y).map f=if c then x.map f else y.map f:=by split<;>rfl
/-! ### Rows of numbers -/
def dg (l:List Int):D:=if l=[] then .z true else .row l.length (l.map iv)
theorem Qoi:dg []=.z true:=rfl
theorem QpD (x:Int) (l:List Int):dg (x :: l)=.row (l.length+1) (iv x :: l.map iv):=rfl
theorem Qhr {l:List Int} (h:l≠[]):dg l=.row l.length (l.map iv):=if_neg h

theorem QaV (l:List Int):lenA (.d (dg l))=some l.length:=by
 cases l with
 | nil=>rfl
 | cons x l=>rfl
theorem ixa_dg (h:Hp) (l:List Int) {j:Int} (h0:0≤j) (h1:j<l.length):ixaA h 1 j (.d (dg l))=some (.d (.rp ((l.drop j.toNat).map iv))):=by
 have hl:l≠[]:=by rintro rfl;simp at h1;omega
 rw [Qhr hl]
 simp only [ixaA,guardO]
 rw [if_pos ⟨h0,h1⟩,Nat.mul_one,List.map_drop]
theorem Qo5 (h:Hp) (l:List Int) {j:Nat} (h1:j<l.length):Qco h none (.d (.rp ((l.drop j).map iv)))=some (.d (.v (.int .i64 (l.getD j 0)))):=by
 simp only [Qco,QjV]
 rw [List.head?_map,List.head?_drop]
 simp [h1,iv]
theorem QoO (st:St) (l:List Int):src st (.d (dg l))=some (l.length,l.map iv):=by
 cases l with
 | nil=>rfl
 | cons x l=>rfl
/-! ### The helpers at each kind of value -/
theorem lenA_z (b:Bool):lenA (.d (.z b))=some 0:=rfl
theorem lenA_row (n:Nat) (cs:List D):lenA (.d (.row n cs))=some n:=rfl
theorem Qqf (k:Key) (n:Nat):lenA (.own k n)=some n:=rfl
theorem loadA_ptr (h:Hp) (sz:Option Nat) (k:Key) (off:Nat):Qco h sz (.ptr k off)=(h k).bind fun o=>Qab sz off o.cs:=rfl
theorem loadA_ep (h:Hp) (sz:Option Nat) (k:Key) (n off:Nat):Qco h sz (.ep k n off)=(h k).bind fun o=>guardO (o.n=n) (Qab sz off o.cs):=rfl
theorem loadA_rc (h:Hp) (f:Nat) (pre:List D):Qco h none (.d (.rc f pre))=some (.d (.fn f (pre++[.rc f pre]))):=rfl
theorem fadA_ptr (i:Nat) (k:Key) (o:Nat):fadA i (.ptr k o)=some (.ptr k (o+i)):=rfl
theorem fadA_ep (i:Nat) (k:Key) (n o:Nat):fadA i (.ep k n o)=some (.ep k n (o+i)):=rfl
theorem fadA_rp (i:Nat) (cs:List D):fadA i (.d (.rp cs))=some (.d (.rp (cs.drop i))):=rfl
theorem ixaA_own (h:Hp) (es:Nat) (j:Int) (q:Key) (n:Nat):ixaA h es j (.own q n)=(h q).bind fun o=>guardO (o.n=n∧0≤j∧j<n) (some (.ep q n (j.toNat*es))):=rfl
theorem Qse (h:Hp) (v:A) (k:Key) (off:Nat):Qgo h v (.ptr k off)=(h k).bind fun o=>guardO (o.fz=false) ((Qac off (QaA v) o.cs).map fun cs=>hupd h k { o with cs }):=rfl
theorem storeA_ep (h:Hp) (v:A) (k:Key) (n off:Nat):Qgo h v (.ep k n off)=(h k).bind fun o=>guardO (o.fz=false∧o.n=n) ((allD (QaA v)).bind fun _=>(Qac off (QaA v) o.cs).map fun cs=>hupd h k { o with cs }):=rfl
theorem strA_s (s:ByteArray):strA (.d (.v (.string s)))=some s:=rfl
theorem valA_v (x:Value):valA (.d (.v x))=some x:=rfl
theorem aggA_g (cs:List D):aggA (.d (.agg cs))=some cs:=rfl
theorem extA_t (i:Nat) (xs:List D):extA i (.d (.tup xs))=(xs[i]?).map .d:=rfl
theorem fnA_f (f:Nat) (c:List D):fnA (.d (.fn f c))=some (f,c):=rfl
theorem int_i (k:IntKind) (n:Int):A.int? (.d (.v (.int k n)))=some n:=rfl
theorem bool_b (b:Bool):A.bool? (.d (.v (.bool b)))=some b:=rfl
theorem argD_d (st:St) (x:D):argD st (.d x)=some (x,true):=rfl
theorem argD_own (st:St) (k:Key) (n:Nat):argD st (.own k n)=(st.hp k).bind fun o=>guardO (o.n=n) ((allD o.cs).map fun cs=>(.row n cs,o.fz)):=rfl
theorem toD_d (st:St) (x:D):toD st (.d x)=some x:=rfl
theorem toD_own (st:St) (k:Key) (n:Nat):toD st (.own k n)=(st.hp k).bind fun o=>guardO (o.n=n) ((allD o.cs).map fun cs=>.row n cs):=rfl
theorem retA_d (k:Key) (h:Hp) (ad fz:Bool) (x:D):retA k h ad fz (.d x)=guardO (fz=true∨x.flat=true) (some (.d x,h)):=rfl
theorem retA_own (k:Key) (h:Hp) (ad fz:Bool) (es n:Nat) (cs:List D):retA k h ad fz (.own es n cs)=guardO (fz=true) (mkA k h (!ad) es n cs):=rfl
theorem mkA_t (k:Key) (h:Hp) (es n:Nat) (cs:List D):mkA k h true es n cs=some (.d (.row n cs),h):=rfl
theorem mkA_f (k:Key) (h:Hp) (es n:Nat) (cs:List D):mkA k h false es n cs=guardO ((h k).isNone=true) (some (.own k n,hupd h k ⟨es,n,cs.map .d,false⟩)):=rfl
theorem appA_z (k:Key) (h:Hp) (fz:Bool) (es by_ m:Nat) (ys:List D) (b:Bool):appA k h fz es by_ m ys (.d (.z b)) =
    guardO (m*by_≤bound∧ys.length=m*es) (if m=0 then some (.d (.z b),h) else mkA k h fz es m ys):=rfl
theorem appA_own (k:Key) (h:Hp) (fz:Bool) (es by_ m:Nat) (ys:List D) (q:Key) (n:Nat):appA k h fz es by_ m ys (.own q n) =
    (h q).bind fun o=>guardO (o.n=n∧o.fz=false∧o.es=es∧o.cs.length=n*es∧(n+m)*by_≤bound∧ys.length=m*es∧ys.all D.one=true)
      (if fz then (allD o.cs).map fun cs=>(.d (.row (n+m) (cs++ys)),hupd h q ⟨es,n+m,o.cs++ys.map .d,true⟩)
       else some (.own q (n+m),hupd h q ⟨es,n+m,o.cs++ys.map .d,false⟩)):=rfl
theorem ex_n_x (i:Nat):(Ex.n=Ex.x i)=False:=by simp
theorem ex_x_n (i:Nat):(Ex.x i=Ex.n)=False:=by simp
theorem ex_x_x (i j:Nat):(Ex.x i=Ex.x j)=(i=j):=by simp
theorem ex_r_n:(Ex.r=Ex.n)=False:=by simp
theorem ex_r_x (i:Nat):(Ex.r=Ex.x i)=False:=by simp
theorem ex_n_n:(Ex.n=Ex.n)=True:=by simp

theorem Qoc {α β:Type} {x y:Option α} {f:α→Option β} (h:x=y):x.bind f=y.bind f:=by rw [h]
theorem Qpj {α β:Type} {x y:Option α} {f:α→β} (h:x=y):x.map f=y.map f:=by rw [h]

attribute [go_sem] X_seq X_reg X_cond X_blk X_keep X_frz X_exit X_ret X_skip exs exO act Qdi putO E.ev allE QiD upd_get hupd_get fr0_get hp0_get
 Option.bind_some Option.map_some Option.bind_none Option.map_none Option.getD_some Option.getD_none Option.isNone_none Option.isNone_some guardO binV binI shOp Qep iA
 endOf Qmx resL resV argF QhK Ql9 Qla Qi9 QgD refsO refsOO updO_some Qsg updO_get hupdO_get refs Qdg List.all_nil List.all_cons Qny bind_ite map_ite
 lenA_z lenA_row Qqf loadA_ptr loadA_ep loadA_rc fadA_ptr fadA_ep fadA_rp ixaA_own Qse storeA_ep strA_s valA_v aggA_g extA_t fnA_f int_i bool_b argD_d argD_own toD_d toD_own
 retA_d retA_own mkA_t mkA_f appA_z appA_own QaV ex_n_x ex_x_n ex_x_x ex_r_n ex_r_x ex_n_n
theorem key1 (a b:Nat):(([a]:Key)=[b])=(a=b):=by simp
theorem tt_true:(true=true)=True:=by simp
theorem ft_false:(false=true)=False:=by simp
theorem lenD1 (a:D):([a]:List D).length=1:=rfl
theorem lenD2 (a b:D):([a,b]:List D).length=2:=rfl
theorem lenD3 (a b c:D):([a,b,c]:List D).length=3:=rfl
theorem lenD4 (a b c d:D):([a,b,c,d]:List D).length=4:=rfl
attribute [go_sem] X_inl calA Qnm Qr7 waitO capO asideO Qfl goneO resA Ex.fin
attribute [go_sem] lenD1 lenD2 lenD3 lenD4 key1 Key.isIn List.any_cons List.any_nil tt_true ft_false decide_true decide_false Bool.and_true Bool.true_and Bool.and_self Bool.or_true Bool.true_or Bool.or_false Bool.false_or and_true true_and and_self
theorem ge_t {a b:Int} (h:a≥b):decide (a≥b)=true:=decide_eq_true h
theorem ge_f {a b:Int} (h:¬ a≥b):decide (a≥b)=false:=decide_eq_false h
theorem gt_t {a b:Int} (h:a>b):decide (a>b)=true:=decide_eq_true h
theorem gt_f {a b:Int} (h:¬ a>b):decide (a>b)=false:=decide_eq_false h
theorem lt_t {a b:Int} (h:a<b):decide (a<b)=true:=decide_eq_true h
theorem lt_f {a b:Int} (h:¬ a<b):decide (a<b)=false:=decide_eq_false h
theorem le_t {a b:Int} (h:a≤b):decide (a≤b)=true:=decide_eq_true h
theorem le_f {a b:Int} (h:¬ a≤b):decide (a≤b)=false:=decide_eq_false h
theorem Qkx {a b:Int} (h:a=b):(a==b)=true:=by simp [h]
theorem Qb9 {a b:Int} (h:a≠b):(a==b)=false:=by simp [h]
theorem QeL {a b:Int} (h:a≠b):(a != b)=true:=by simp [h]
theorem bne_f {a b:Int} (h:a=b):(a != b)=false:=by simp [h]
theorem QrZ (n:Nat):Int.ofNat n=(n:Int):=rfl
theorem one_int (k:IntKind) (n:Int):A.one (.d (.v (.int k n)))=true:=rfl
theorem QrE (b:Bool):A.one (.d (.v (.bool b)))=true:=rfl
theorem one_str (b:ByteArray):A.one (.d (.v (.string b)))=true:=rfl
theorem one_z (b:Bool):A.one (.d (.z b))=true:=rfl
theorem one_row (n:Nat) (cs:List D):A.one (.d (.row n cs))=true:=rfl
theorem one_own (k:Key) (n:Nat):A.one (.own k n)=true:=rfl
theorem one_ptr (k:Key) (n:Nat):A.one (.ptr k n)=true:=rfl
theorem QnO (l:List Int):A.one (.d (dg l))=true:=by cases l<;>rfl
theorem one_agg (cs:List D):A.one (.d (.agg cs))=false:=rfl
theorem cells_agg (cs:List D):QaA (.d (.agg cs))=cs.map .d:=rfl
theorem cells_int (k:IntKind) (n:Int):QaA (.d (.v (.int k n)))=[.d (.v (.int k n))]:=rfl
theorem Qr2 (b:Bool):QaA (.d (.v (.bool b)))=[.d (.v (.bool b))]:=rfl
theorem cells_str (b:ByteArray):QaA (.d (.v (.string b)))=[.d (.v (.string b))]:=rfl
theorem cells_z (b:Bool):QaA (.d (.z b))=[.d (.z b)]:=rfl
theorem cells_row (n:Nat) (cs:List D):QaA (.d (.row n cs))=[.d (.row n cs)]:=rfl
theorem cells_dg (l:List Int):QaA (.d (dg l))=[.d (dg l)]:=by cases l<;>rfl
theorem cells_own (k:Key) (n:Nat):QaA (.own k n)=[.own k n]:=rfl
theorem cells_ptr (k:Key) (n:Nat):QaA (.ptr k n)=[.ptr k n]:=rfl
theorem dc_agg (cs:List D):QbZ (.d (.agg cs))=some cs:=rfl
theorem dc_int (k:IntKind) (n:Int):QbZ (.d (.v (.int k n)))=some [.v (.int k n)]:=rfl
theorem dc_bool (b:Bool):QbZ (.d (.v (.bool b)))=some [.v (.bool b)]:=rfl
theorem dc_str (b:ByteArray):QbZ (.d (.v (.string b)))=some [.v (.string b)]:=rfl
theorem dc_z (b:Bool):QbZ (.d (.z b))=some [.z b]:=rfl
theorem dc_row (n:Nat) (cs:List D):QbZ (.d (.row n cs))=some [.row n cs]:=rfl
theorem dc_dg (l:List Int):QbZ (.d (dg l))=some [dg l]:=by cases l<;>rfl
theorem dc_fn (f:Nat) (cs:List D):QbZ (.d (.fn f cs))=some [.fn f cs]:=rfl
theorem rep_1 (z:D):rep 1 [z]=[z]:=rfl
theorem rep_2 (z:D):rep 2 [z]=[z,z]:=rfl
theorem rep_3 (z:D):rep 3 [z]=[z,z,z]:=rfl
theorem QkQ (n:Int):IntKind.u64.wrap n=n%18446744073709551616:=by
 unfold IntKind.wrap
 simp [IntKind.signed,IntKind.bits]
theorem base_ne:((1000000000:Int)=0)=False:=by simp
theorem nc0:((0:Nat):Int)=0:=rfl
theorem toNat0:Int.toNat 0=0:=rfl
theorem ob_ft:(some false=some true)=False:=by simp
theorem ob_tf:(some true=some false)=False:=by simp
theorem ob_tt:(some true=some true)=True:=by simp
theorem ob_ff:(some false=some false)=True:=by simp
theorem tf_false:(true=false)=False:=by simp
theorem ff_true:(false=false)=True:=by simp
attribute [go_sem] rep_1 rep_2 rep_3 QkQ base_ne Qo8 Nat.reduceMul Nat.reduceSub List.getElem?_cons_zero List.getElem?_cons_succ List.getElem?_nil true_or or_true or_self false_or or_false and_false false_and nc0 toNat0 Nat.sub_zero Nat.mul_one Nat.zero_mul QrZ List.map_cons List.map_nil List.length_cons List.length_nil Nat.reduceAdd Nat.reduceLeDiff List.take_succ_cons List.take_zero List.drop_succ_cons List.drop_zero List.drop_nil List.take_nil List.nil_append List.cons_append List.append_nil Int.toNat_natCast ob_ft ob_tf ob_tt ob_ff tf_false ff_true Bool.not_true Bool.not_false Bool.false_and Bool.and_false unV eqD slcA bnds optI cut srcS Qk6 QgR QbA Qdh D.flat QjV allD one_int QrE one_str one_z one_row one_own one_ptr QnO one_agg cells_agg cells_int Qr2 cells_str cells_z cells_row cells_dg cells_own cells_ptr dc_agg dc_int dc_bool dc_str dc_z dc_row dc_dg dc_fn
attribute [congr] Qoc Qpj
end Go.AM

/- Numbers in digits: plain mathematics, no program in sight. -/
namespace Go.AM


def digs:Nat→List Int
 | 0=>[]
 | n+1=>(((n+1)%1000000000:Nat):Int) :: digs ((n+1)/1000000000)
 decreasing_by omega
def val:List Int→Int
 | []=>0
 | d :: r=>d+1000000000*val r
def Dig (l:List Int):Prop:=∀ d∈l,0≤d∧d<1000000000

theorem Qav:digs 0=[]:=by rw [digs]
theorem Qeq {n:Nat} (h:0<n):digs n=((n%1000000000:Nat):Int) :: digs (n/1000000000):=by
 cases n with
 | zero=>omega
 | succ n=>rw [digs]
theorem Dig.nil:Dig []:=by intro d h;cases h
theorem Dig.cons {d:Int} {l:List Int}:Dig (d :: l)↔(0≤d∧d<1000000000)∧Dig l:=by
 constructor
 ·intro h;exact ⟨h d (by simp),fun e he=>h e (by simp [he])⟩
 ·rintro ⟨h1,h2⟩ e he
  rcases List.mem_cons.1 he with rfl | he
  ·exact h1
  ·exact h2 e he
theorem Dig.append {l m:List Int}:Dig (l++m)↔Dig l∧Dig m:=by
 constructor
 ·intro h;exact ⟨fun e he=>h e (by simp [he]),fun e he=>h e (by simp [he])⟩
 ·rintro ⟨h1,h2⟩ e he
  rcases List.mem_append.1 he with he | he
  ·exact h1 e he
  ·exact h2 e he
theorem Dig.take {l:List Int} (h:Dig l) (n:Nat):Dig (l.take n):=fun e he=>h e (List.mem_of_mem_take he)
theorem Dig.drop {l:List Int} (h:Dig l) (n:Nat):Dig (l.drop n):=fun e he=>h e (List.mem_of_mem_drop he)
theorem Dig.getD {l:List Int} (h:Dig l) (i:Nat):0≤l.getD i 0∧l.getD i 0<1000000000:=by
 rw [List.getD_eq_getElem?_getD]
 cases hq:l[i]? with
 | none=>simp
 | some x=>exact h x (List.mem_of_getElem? hq)
theorem Dig.set {l:List Int} (h:Dig l) {i:Nat} {d:Int} (hd:0≤d∧d<1000000000):Dig (l.set i d):=by
 intro e he
 rcases List.mem_or_eq_of_mem_set he with he | rfl
 ·exact h e he
 ·exact hd
theorem Dig.replicate (n:Nat):Dig (List.replicate n 0):=by
 intro e he
 rw [(List.mem_replicate.1 he).2];omega

theorem Qap:∀ n:Nat,Dig (digs n):=by
 intro n
 induction n using Nat.strongRecOn with
 | _ n ih =>
  rcases Nat.eq_zero_or_pos n with rfl | h
  ·rw [Qav];exact .nil
  ·rw [Qeq h,Dig.cons]
   exact ⟨by omega,ih _ (by omega)⟩
theorem Qat:∀ n:Nat,val (digs n)=n:=by
 intro n
 induction n using Nat.strongRecOn with
 | _ n ih =>
  rcases Nat.eq_zero_or_pos n with rfl | h
  ·rw [Qav];rfl
  ·rw [Qeq h,val,ih _ (by omega)]
   omega
theorem QaK:∀ {l:List Int},Dig l→0≤val l
 | [],_=>Int.le_refl _
 | d :: r,h=>by
  obtain ⟨h1,h2⟩:=Dig.cons.1 h
  have:=QaK h2
  simp only [val]
  omega
theorem Qpw {n:Nat}:digs n=[]↔n=0:=by
 constructor
 ·intro h
  rcases Nat.eq_zero_or_pos n with h' | h'
  ·exact h'
  ·rw [Qeq h'] at h;cases h
 ·rintro rfl;exact Qav
theorem digs_length_pos {n:Nat}:0<(digs n).length↔0<n:=by
 rw [List.length_pos_iff,ne_eq,Qpw];omega

def Top (l:List Int):Prop:=∀ h:l≠[],l.getLast h≠0
theorem QcM:∀ n:Nat,Top (digs n):=by
 intro n
 induction n using Nat.strongRecOn with
 | _ n ih =>
  intro h
  rcases Nat.eq_zero_or_pos n with rfl | hp
  ·exact absurd Qav h
  ·have e:=Qeq hp
   by_cases h0:n/1000000000=0
   ·have:digs n=[((n%1000000000:Nat):Int)]:=by rw [e,h0,Qav]
    simp only [this,List.getLast_singleton]
    omega
   ·have hne:digs (n/1000000000)≠[]:=by rw [ne_eq,Qpw];exact h0
    have:(digs n).getLast h=(digs (n/1000000000)).getLast hne:=by
     simp only [e]
     exact List.getLast_cons hne
    rw [this]
    exact ih _ (by omega) hne
theorem Qji:∀ {l:List Int},Dig l→Top l→digs (val l).toNat=l
  | [],_,_=>Qav
  | d :: r,h,ht=>by
    obtain ⟨h1,h2⟩:=Dig.cons.1 h
    have hv:=QaK h2
    have htr:Top r:=by
      intro hne
      have:=ht (by simp)
      rw [List.getLast_cons hne] at this
      exact this
    have ih:=Qji h2 htr
    have hpos:0<(val (d :: r)).toNat:=by
      simp only [val]
      by_cases hr:r=[]
      · subst hr
        have:=ht (by simp)
        simp at this
        simp only [val]
        omega
      · have : val r ≠ 0 := by
          intro h0
          rw [h0] at ih
          exact hr (ih.symm.trans Qav)
        omega
    rw [Qeq hpos]
    have e1:((val (d :: r)).toNat%1000000000:Nat)=d.toNat:=by simp only [val];omega
    have e2:(val (d :: r)).toNat/1000000000=(val r).toNat:=by simp only [val];omega
    rw [e1,e2,ih]
    congr 1
    omega
theorem QgK:∀ (l m:List Int),val (l++m)=val l+(1000000000:Int)^l.length*val m
 | [],m=>by simp [val]
 | d :: r,m=>by
  rw [List.cons_append,val,QgK r m,val,List.length_cons]
  grind
theorem QfA:∀ n:Nat,val (List.replicate n 0)=0
 | 0=>rfl
 | n+1=>by rw [List.replicate_succ,val,QfA n];rfl
theorem Qfs:∀ {l:List Int},Dig l→val l<(1000000000:Int)^l.length
 | [],_=>by simp [val]
 | d :: r,h=>by
  obtain ⟨h1,h2⟩:=Dig.cons.1 h
  have:=Qfs h2
  rw [val,List.length_cons,Int.pow_succ]
  grind
theorem QeC:∀ (l:List Int) (i:Nat) (d:Int),i<l.length→val (l.set i d)=val l+(1000000000:Int)^i*(d-l.getD i 0)
 | [],i,d,h=>by simp at h
 | e :: r,0,d,h=>by simp [val];omega
 | e :: r,i+1,d,h=>by
  rw [List.set_cons_succ,val,val,QeC r i d (by simpa using h)]
  simp only [List.getD_cons_succ]
  grind
theorem Qi5 {n m:Nat} (h:n≤m):(1000000000:Int)^n≤(1000000000:Int)^m:=by
 obtain ⟨k,rfl⟩:=Nat.exists_eq_add_of_le h
 rw [Int.pow_add]
 have h1:(0:Int)<(1000000000:Int)^k:=Int.pow_pos (by omega)
 have h2:(0:Int)≤(1000000000:Int)^n:=Int.pow_nonneg (by omega)
 have h3:(1000000000:Int)^n*1≤(1000000000:Int)^n*(1000000000:Int)^k:=Int.mul_le_mul_of_nonneg_left (by omega) h2
 omega
end Go.AM

/- Integers as the program holds them. -/
namespace Go.AM
open Go Go.RowKit

def sgn (neg:Bool) (x:Int):Int:=if neg then -x else x
def encI (x:Int):D:=.agg [bv (decide (x<0)),dg (digs x.natAbs)]
def rowI (l:List Int):D:=.row l.length (l.map iv)
def I64 (n:Int):Prop:=-9223372036854775808≤n∧n<9223372036854775808

theorem ixa_rowI (h:Hp) (l:List Int) {j:Int} (h0:0≤j) (h1:j<l.length):ixaA h 1 j (.d (rowI l))=some (.d (.rp ((l.drop j.toNat).map iv))):=by
 simp only [ixaA,guardO,rowI]
 rw [if_pos ⟨h0,h1⟩,Nat.mul_one,List.map_drop]
def Rw (d:D) (l:List Int):Prop:=d=dg l∨d=rowI l
theorem Rw.dg (l:List Int):Rw (dg l) l:=.inl rfl
theorem Rw.row (l:List Int):Rw (rowI l) l:=.inr rfl
theorem Rw.len {d:D} {l:List Int} (h:Rw d l):lenA (.d d)=some l.length:=by
 rcases h with rfl | rfl
 ·exact QaV l
 ·rfl
theorem Rw.ixa {d:D} {l:List Int} (hr:Rw d l) {j:Int} (h0:0≤j) (h1:j<l.length) (h:Hp):ixaA h 1 j (.d d)=some (.d (.rp ((l.drop j.toNat).map iv))):=by
 rcases hr with rfl | rfl
 ·exact ixa_dg h l h0 h1
 ·exact ixa_rowI h l h0 h1
theorem Rw.ixn {d:D} {l:List Int} (hr:Rw d l) {j:Nat} (h1:j<l.length) (h:Hp):ixaA h 1 (j:Int) (.d d)=some (.d (.rp ((l.drop j).map iv))):=by
 have:=hr.ixa (j:=(j:Int)) (by omega) (by omega) h
 simpa using this
theorem Rw.src {d:D} {l:List Int} (hr:Rw d l) (st:St):src st (.d d)=some (l.length,l.map iv):=by
 rcases hr with rfl | rfl
 ·exact QoO st l
 ·rfl
theorem Rw.ne {d:D} {l:List Int} (hr:Rw d l) (h:l≠[]):d=rowI l:=by
 rcases hr with rfl | rfl
 ·exact Qhr h
 ·rfl
theorem ldv (h:Hp) (l:List Int) {j:Nat} (h1:j<l.length):Qco h none (.d (.rp ((l.drop j).map iv)))=some (.d (.v (.int .i64 (l.getD j 0)))):=Qo5 h l h1

def cutn (l:List Int):Nat→Nat
 | 0=>0
 | n+1=>if l.getD n 0=0 then cutn l n else n+1
theorem Qlo (l:List Int):∀ n,cutn l n≤n
 | 0=>Nat.le_refl _
 | n+1=>by
  rw [cutn]
  split
  ·exact Nat.le_succ_of_le (Qlo l n)
  ·exact Nat.le_refl _
theorem QgZ (l:List Int) (n:Nat) (h:n<l.length):val (l.take (n+1))=val (l.take n)+(1000000000:Int)^n*l.getD n 0:=by
 have:l.take (n+1)=l.take n++[l.getD n 0]:=by
  rw [List.take_add_one]
  simp [List.getD,h]
 rw [this,QgK,List.length_take,Nat.min_eq_left (Nat.le_of_lt h)]
 simp [val]
theorem Qq8 (l:List Int):∀ n,n≤l.length→val (l.take (cutn l n))=val (l.take n)
 | 0,_=>rfl
 | n+1,h=>by
  rw [cutn]
  split
  ·rename_i h0
   rw [Qq8 l n (by omega),QgZ l n (by omega),h0];omega
  ·rfl
theorem Qrr (l:List Int):∀ n,n≤l.length→Top (l.take (cutn l n))
 | 0,_=>by intro h;simp [cutn] at h
 | n+1,h=>by
  rw [cutn]
  split
  ·exact Qrr l n (by omega)
  ·rename_i h0
   intro hne
   have:l.take (n+1)=l.take n++[l.getD n 0]:=by
    rw [List.take_add_one]
    simp [List.getD,(by omega:n<l.length)]
   simp only [this]
   rw [List.getLast_append_of_ne_nil _ (by simp)]
   simpa using h0
theorem Qor {l:List Int} (hd:Dig l):digs (val l).toNat=l.take (cutn l l.length):=by
 have h1:=Qq8 l l.length (Nat.le_refl _)
 rw [List.take_length] at h1
 rw [← h1]
 exact Qji (hd.take _) (Qrr l _ (Nat.le_refl _))
theorem Qoo {l:List Int} (hd:Dig l):cutn l l.length=0↔val l=0:=by
 have hc:=Qlo l l.length
 have h1:=Qor hd
 have hv:=QaK hd
 constructor
 ·intro h
  rw [h,List.take_zero,Qpw] at h1
  omega
 ·intro h
  rw [h] at h1
  have h2:l.take (cutn l l.length)=[]:=by rw [← h1];exact Qav
  have:=congrArg List.length h2
  simp at this
  rcases this with h' | h'
  ·exact h'
  ·subst h';simp at hc;exact hc
theorem Qij (neg:Bool) (x:Int):(sgn neg x).natAbs=x.natAbs:=by cases neg<;>simp [sgn]
theorem Qrb {neg:Bool} {l:List Int} (hd:Dig l):encI (sgn neg (val l))=if cutn l l.length=0 then .agg [bv false,.z true] else .agg [bv neg,.row (cutn l l.length) ((l.map iv).take (cutn l l.length))]:=by
 have hv:=QaK hd
 have hc:=Qlo l l.length
 by_cases h0:cutn l l.length=0
 ·rw [if_pos h0,(Qoo hd).1 h0]
  have e:encI 0=.agg [bv false,.z true]:=by
   have:digs (0:Int).natAbs=[]:=Qav
   rw [encI,this];rfl
  cases neg<;>exact e
 ·rw [if_neg h0]
  have hne:val l≠0:=fun h=>h0 ((Qoo hd).2 h)
  have e1:decide (sgn neg (val l)<0)=neg:=by
   cases neg
   ·simp only [sgn,Bool.false_eq_true,if_false,decide_eq_false_iff_not];omega
   ·simp only [sgn,if_true,decide_eq_true_eq];omega
  have e2:(sgn neg (val l)).natAbs=(val l).toNat:=by rw [Qij];omega
  have hne2:l.take (cutn l l.length)≠[]:=by
   intro h
   have:=congrArg List.length h
   simp at this
   rcases this with h' | h'
   ·exact h0 h'
   ·subst h';exact h0 rfl
  rw [encI,e1,e2,Qor hd,Qhr hne2,List.map_take]
  congr 3
  simp;omega

theorem Qff {l:List Int} {i:Nat} (d:Int) (h:i<l.length):val ((l.set i d).take (i+1))=val (l.take i)+(1000000000:Int)^i*d:=by
 rw [QgZ _ _ (by simpa using h)]
 have e1:(l.set i d).take i=l.take i:=by
  apply List.ext_getElem?
  intro j
  simp only [List.getElem?_take,List.getElem?_set]
  split
  ·rw [if_neg (by omega)]
  ·rfl
 have e2:(l.set i d).getD i 0=d:=by simp [List.getD,h]
 rw [e1,e2]
theorem Qbb {l:List Int} {i j:Nat} (d:Int) (h:i≠j):(l.set i d).getD j 0=l.getD j 0:=by
 simp [List.getD,List.getElem?_set,h]
theorem Qaq (l:List Int) (n:Nat):val (l.take (n+1))=val (l.take n)+(1000000000:Int)^n*l.getD n 0:=by
 by_cases h:n<l.length
 ·exact QgZ l n h
 ·have e1:l.take (n+1)=l:=List.take_of_length_le (by omega)
  have e2:l.take n=l:=List.take_of_length_le (by omega)
  have e3:l.getD n 0=0:=by rw [List.getD_eq_getElem?_getD,List.getElem?_eq_none (by omega)];rfl
  rw [e1,e2,e3];omega

/-! ### Arrays of numbers that are written -/
def QbP (l:List Int):List A:=l.map fun x=>A.d (.v (.int .i64 x))
theorem Qai (l:List Int):(QbP l).length=l.length:=by simp [QbP]
theorem Qbs {l:List Int} {off:Nat} {v:Int} (h:off<l.length):Qac off [A.d (.v (.int .i64 v))] (QbP l)=some (QbP (l.set off v)):=by
 rw [Qac,guardO,if_pos (by rw [Qai];simp;omega)]
 congr 1
 apply List.ext_getElem?
 intro j
 rw [QjH _ _ _ (by rw [Qai];simp;omega)]
 simp only [List.length_cons,List.length_nil,QbP,List.getElem?_map,List.getElem?_set]
 by_cases h1:j<off
 ·rw [if_pos h1,if_neg (by omega)]
 ·rw [if_neg h1]
  by_cases h2:j<off+(0+1)
  ·obtain rfl:j=off:=by omega
   simp [h]
  ·rw [if_neg h2,if_neg (by omega)]
theorem Qb8 {l:List Int} {off:Nat} (h:off<l.length):Qab none off (QbP l)=some (A.d (.v (.int .i64 (l.getD off 0)))):=by
 simp [Qab,QbP,List.getD,h]
theorem Qak (ks:List Key) (l:List Int):Qdg ks (QbP l)=true:=by
 induction l with
 | nil=>rfl
 | cons x r ih=>simpa [QbP,Qdg,refs] using ih
theorem QbK (l:List Int):allD (QbP l)=some (l.map iv):=by
 induction l with
 | nil=>rfl
 | cons x r ih =>
  simp only [QbP,List.map_cons,allD] at ih ⊢
  rw [ih];rfl
theorem QlE (n:Nat):List.map A.d (rep n [.v (.int .i64 0)])=QbP (List.replicate n 0):=by
 induction n with
 | zero=>rfl
 | succ n ih =>
  simp only [rep,List.replicate_succ,List.flatten_cons,List.map_append,List.map_cons,List.map_nil,QbP,List.cons_append,List.nil_append] at ih ⊢
  rw [ih]
theorem mapd_I (l:List Int):List.map A.d (l.map iv)=QbP l:=by simp [QbP,iv]
theorem cpy_I {h:Hp} {k:Key} {a out:List Int} {n:Nat} (hk:h k=some ⟨1,n,QbP out,false⟩) (hn:n=a.length) (ho:out.length=n):cpyA h 1 a.length (a.map iv) (.own k n)=some (n,hupd h k ⟨1,n,QbP a,false⟩):=by
 subst hn
 have h1:∀ l:List Int,(l.map iv).all D.one=true:=by
  intro l;simp [iv,D.one,A.one]
 simp only [cpyA,hk,Option.bind_some,guardO,Qai,ho,Nat.mul_one,List.length_map,h1,and_self,if_true,Nat.min_self]
 congr 3
 rw [List.take_of_length_le (by simp),List.drop_eq_nil_of_le (by rw [Qai,ho];exact Nat.le_refl _),List.append_nil,mapd_I]
theorem Qpn {l:List Int} (h:Dig l) (n:Nat):val (l.take n)≤val l:=by
 have e:l.take n++l.drop n=l:=List.take_append_drop n l
 have h1:val l=val (l.take n)+(1000000000:Int)^(l.take n).length*val (l.drop n):=by rw [← QgK,e]
 have h2:=QaK (h.drop n)
 have h3:(0:Int)≤(1000000000:Int)^(l.take n).length*val (l.drop n):=Int.mul_nonneg (Int.pow_nonneg (by omega)) h2
 omega
theorem Qjc {l:List Int} {i j:Nat} (h:Dig (l.drop i)) (hij:i≤j):0≤l.getD j 0∧l.getD j 0<1000000000:=by
 have:=h.getD (j-i)
 rw [List.getD_eq_getElem?_getD,List.getElem?_drop,show i+(j-i)=j by omega,← List.getD_eq_getElem?_getD] at this
 exact this
theorem QlO (l:List Int) {i j:Nat} (d:Int) (h:i≤j):(l.set j d).take i=l.take i:=by
 apply List.ext_getElem?
 intro q
 simp only [List.getElem?_take,List.getElem?_set]
 split
 ·rw [if_neg (by omega)]
 ·rfl
theorem Qhj (l:List Int) {i j:Nat} (d:Int) (h:j<i):(l.set j d).drop i=l.drop i:=by
 apply List.ext_getElem?
 intro q
 simp only [List.getElem?_drop,List.getElem?_set]
 rw [if_neg (by omega)]
theorem Qjb {l:List Int} {i:Nat} (d:Int) (h:i<l.length):(l.set i d).take (i+1)=l.take i++[d]:=by
 rw [List.take_add_one,QlO l d (Nat.le_refl _)]
 simp [h]

/-! ### Sizes -/
def nd (x:Int):Nat:=(digs x.natAbs).length
theorem Qgu:∀ (k n:Nat),n<1000000000^k→(digs n).length≤k
 | 0,n,h=>by
  have:n=0:=by simpa using h
  subst this;rw [Qav];exact Nat.le_refl _
 | k+1,n,h=>by
  rcases Nat.eq_zero_or_pos n with rfl | hp
  ·rw [Qav];simp
  ·rw [Qeq hp,List.length_cons]
   have:n/1000000000<1000000000^k:=by
    rw [Nat.pow_succ] at h
    exact Nat.div_lt_of_lt_mul (by rw [Nat.mul_comm];exact h)
   exact Nat.succ_le_succ (Qgu k _ this)
theorem Qfb (x:Int):x.natAbs<1000000000^nd x:=by
 have h1:=Qfs (Qap x.natAbs)
 rw [Qat] at h1
 have h2:((1000000000^(digs x.natAbs).length:Nat):Int)=(1000000000:Int)^(digs x.natAbs).length:=by simp
 rw [← h2] at h1
 exact Int.ofNat_lt.1 h1
theorem QoQ {x:Int} {k:Nat} (h:x.natAbs<1000000000^k):nd x≤k:=Qgu k _ h
theorem QoW {n m:Nat} (h:n≤m):1000000000^n≤1000000000^m:=Nat.pow_le_pow_right (by omega) h
theorem nd_add {x y:Int} {k:Nat} (hx:nd x≤k) (hy:nd y≤k):nd (x+y)≤k+1:=by
 apply QoQ
 have h1:=Nat.lt_of_lt_of_le (Qfb x) (QoW hx)
 have h2:=Nat.lt_of_lt_of_le (Qfb y) (QoW hy)
 rw [Nat.pow_succ]
 omega
theorem nd_neg (x:Int):nd (-x)=nd x:=by simp [nd]
theorem Qez {x y:Int}:nd (x*y)≤nd x+nd y:=by
 apply QoQ
 rw [Int.natAbs_mul,Nat.pow_add]
 exact Nat.mul_lt_mul'' (Qfb x) (Qfb y)
theorem QhO {x y:Int} (h:x.natAbs≤y.natAbs):nd x≤nd y:=QoQ (Nat.lt_of_le_of_lt h (Qfb y))
theorem Qjl {x:Int} (h:-9223372036854775808≤x∧x<9223372036854775808):nd x≤3:=by
 apply QoQ
 have:(1000000000:Nat)^3=1000000000000000000000000000:=by decide
 omega
theorem QfT:nd 0=0:=by
 have:digs (0:Int).natAbs=[]:=Qav
 rw [nd,this];rfl
theorem Qd7 (x:Int):val (digs x.natAbs)=x.natAbs:=Qat _
end Go.AM

/- integer.of -/
namespace Go.AM
open Go Go.RowKit
variable [Its]

section
variable (neg:Bool) (d:D) (l:List Int)
def Qkv (n:Int):St:=⟨upd (upd (upd (upd fr0 5 (.d (iv n))) 4 (.ptr [4] 0)) 1 (.d d)) 0 (.d (bv neg)),hupd hp0 [4] ⟨0,0,[.d (bv false),.d (.z true)],false⟩,[]⟩

theorem of_go (hr:Rw d l) (n:Nat) (h:n<l.length) (hl:l.length<4611686018427387904) (h0:l.getD n 0=0):X G QcB (Qkv neg d ((n+1:Nat):Int))=some (.n,Qkv neg d n):=by
 have e1:decide (((n+1:Nat):Int)>0)=true:=gt_t (by omega)
 have e2:w64 (((n+1:Nat):Int)-1)=n:=by rw [Qae (by omega) (by omega)];omega
 have e3:=hr.ixn (j:=n) (by omega)
 have e4:=fun hp=>ldv hp l (j:=n) (by omega)
 simp -implicitDefEqProofs (maxSteps:=9^8) only [QcB,Qkv,go_sem,iv,bv,e1,e2,e3,e4,h0,Int.toNat_natCast,beq_self_eq_true,reduceCtorEq,↓reduceIte,Nat.reduceEqDiff]
theorem of_stop (hr:Rw d l) (n:Nat) (h:n<l.length) (hl:l.length<4611686018427387904) (h0:l.getD n 0≠0):X G QcB (Qkv neg d ((n+1:Nat):Int))=some (.x 0,Qkv neg d ((n+1:Nat):Int)):=by
 have e1:decide (((n+1:Nat):Int)>0)=true:=gt_t (by omega)
 have e2:w64 (((n+1:Nat):Int)-1)=n:=by rw [Qae (by omega) (by omega)];omega
 have e3:=hr.ixn (j:=n) (by omega)
 have e4:=fun hp=>ldv hp l (j:=n) (by omega)
 simp -implicitDefEqProofs (maxSteps:=9^8) only [QcB,Qkv,go_sem,iv,bv,e1,e2,e3,e4,Qb9 h0,Int.toNat_natCast,reduceCtorEq,↓reduceIte,Nat.reduceEqDiff]
theorem of_zero:X G QcB (Qkv neg d ((0:Nat):Int))=some (.x 0,Qkv neg d ((0:Nat):Int)):=by
 have e1:decide ((0:Int)>0)=false:=rfl
 simp -implicitDefEqProofs (maxSteps:=9^8) only [QcB,Qkv,go_sem,iv,bv,e1,reduceCtorEq,↓reduceIte,Nat.reduceEqDiff]

theorem of_loop (hr:Rw d l) (hl:l.length<4611686018427387904):∀ n:Nat,n≤l.length→X G (.loop QcB) (Qkv neg d (n:Int))=some (.x 0,Qkv neg d (cutn l n:Nat))
 | 0,_=>by
  rw [Qag,of_zero]
  rfl
 | n+1,h=>by
  rw [Qag,cutn]
  by_cases h0:l.getD n 0=0
  ·rw [of_go neg d l hr n (by omega) hl h0,if_pos h0]
   exact of_loop hr hl n (by omega)
  ·rw [of_stop neg d l hr n (by omega) hl h0,if_neg h0]
   rfl
end

theorem Qeb (neg:Bool) {d:D} {l:List Int} (hr:Rw d l) (hl:l.length<4611686018427387904) (hd:Dig l):Qah G Qbu [bv neg,d]=some (.d (encI (sgn neg (val l)))):=by
 rw [Qad (cf:=Qie) rfl,Qrb hd]
 have hc:=Qlo l l.length
 have el:=of_loop neg d l hr hl l.length (Nat.le_refl _)
 simp only [Qkv,iv,bv] at el
 generalize hn:cutn l l.length=n at *
 by_cases h0:n=0
 ·subst h0
  have e0:((0:Int)==0)=true:=rfl
  simp only [nc0] at el
  simp -implicitDefEqProofs (maxSteps:=9^8) only [Qie,go_sem,Qac,Qab,iv,bv,hr.len,el,e0,reduceCtorEq,↓reduceIte,Nat.reduceEqDiff,List.length_cons,List.length_nil]
 ·obtain rfl:=hr.ne (by rintro rfl;simp [cutn] at hn;exact h0 hn.symm)
  have e0:(((n:Nat):Int)==0)=false:=Qb9 (by omega)
  have e1:(0:Int)≤0∧(0:Int)≤(n:Int)∧(n:Int)≤(l.length:Int):=by omega
  have e2:(n:Int)≤(n:Int)∧(n:Int)≤(l.length:Int):=by omega
  simp only [rowI] at el
  have e3:(some n=some 0)=False:=by simp [h0]
  simp -implicitDefEqProofs (maxSteps:=9^8) only [Qie,go_sem,Qac,Qab,iv,bv,rowI,el,e0,e1,e2,e3,h0,reduceCtorEq,↓reduceIte,Nat.reduceEqDiff,List.length_cons,List.length_nil]
end Go.AM

/- integer.unsigned, Of -/
namespace Go.AM
open Go Go.RowKit
variable [Its]

theorem Qpx (neg:Bool) {u:Int} (h:0<u):encI (sgn neg u)=.agg [bv neg,dg (digs u.toNat)]:=by
 have _its:Its:=inferInstance
 have e1:decide (sgn neg u<0)=neg:=by
  cases neg
  ·simp only [sgn,Bool.false_eq_true,if_false,decide_eq_false_iff_not];omega
  ·simp only [sgn,if_true,decide_eq_true_eq];omega
 rw [encI,e1,Qij,show u.natAbs=u.toNat by omega]
theorem encI_sgn0 (neg:Bool):encI (sgn neg 0)=.agg [bv false,.z true]:=by
 have _its:Its:=inferInstance
 have e:encI 0=.agg [bv false,.z true]:=by
  have:digs (0:Int).natAbs=[]:=Qav
  rw [encI,this];rfl
 cases neg<;>exact e

theorem Qcb (neg:Bool) {u:Int} (h:0≤u∧u<18446744073709551616):Qah G QbC [bv neg,.v (.int .u64 u)]=some (.d (encI (sgn neg u))):=by
 rw [Qad (cf:=Qcu) rfl]
 have q1:∀ x:Int,0≤x→x.tmod 1000000000=x%1000000000:=fun x hx=>Int.tmod_eq_emod_of_nonneg hx
 have q2:∀ x:Int,0≤x→x.tdiv 1000000000=x/1000000000:=fun x hx=>Int.tdiv_eq_ediv_of_nonneg hx
 by_cases h0:u=0
 ·subst h0
  rw [encI_sgn0]
  have e1:((0:Int)==0)=true:=rfl
  simp -implicitDefEqProofs (maxSteps:=9^8) only [Qcu,go_sem,Qac,Qab,iv,bv,e1,reduceCtorEq,↓reduceIte,Nat.reduceEqDiff]
 ·have e1:(u==0)=false:=Qb9 h0
  rw [Qpx neg (by omega)]
  have d1:=Qeq (n:=u.toNat) (by omega)
  by_cases h1:u<1000000000
  ·have e2:decide (u<1000000000)=true:=lt_t h1
   have e3:w64 u=u:=Qae (by omega) (by omega)
   have d2:digs u.toNat=[u]:=by
    rw [d1,show u.toNat/1000000000=0 by omega,Qav,show ((u.toNat%1000000000:Nat):Int)=u by omega]
   rw [d2,QpD]
   simp -implicitDefEqProofs (maxSteps:=9^8) only [Qcu,go_sem,Qac,Qab,iv,bv,e1,e2,e3,reduceCtorEq,↓reduceIte,Nat.reduceEqDiff]
  ·have e2:decide (u<1000000000)=false:=lt_f h1
   have t1:=q1 u (by omega)
   have t2:=q2 u (by omega)
   have e3:w64 (u%1000000000)=u%1000000000:=Qae (by omega) (by omega)
   have m1:u/1000000000%18446744073709551616=u/1000000000:=by omega
   have e4:w64 (u/1000000000)=u/1000000000:=Qae (by omega) (by omega)
   have d1':=Qeq (n:=u.toNat/1000000000) (by omega)
   by_cases h2:u<1000000000000000000
   ·have e5:decide (u<1000000000000000000)=true:=lt_t h2
    have d2:digs u.toNat=[u%1000000000,u/1000000000]:=by
     rw [d1,d1',show u.toNat/1000000000/1000000000=0 by omega,Qav,show ((u.toNat%1000000000:Nat):Int)=u%1000000000 by omega,show ((u.toNat/1000000000%1000000000:Nat):Int)=u/1000000000 by omega]
    rw [d2,QpD]
    simp -implicitDefEqProofs (maxSteps:=9^8) only [Qcu,go_sem,Qac,Qab,iv,bv,e1,e2,t1,t2,m1,e3,e4,e5,reduceCtorEq,↓reduceIte,Nat.reduceEqDiff]
   ·have e5:decide (u<1000000000000000000)=false:=lt_f h2
    have t3:=q1 (u/1000000000) (by omega)
    have t4:=q2 (u/1000000000) (by omega)
    have e6:w64 (u/1000000000%1000000000)=u/1000000000%1000000000:=Qae (by omega) (by omega)
    have m2:u/1000000000/1000000000%18446744073709551616=u/1000000000/1000000000:=by omega
    have e7:w64 (u/1000000000/1000000000)=u/1000000000/1000000000:=Qae (by omega) (by omega)
    have d1'':=Qeq (n:=u.toNat/1000000000/1000000000) (by omega)
    have d2:digs u.toNat=[u%1000000000,u/1000000000%1000000000,u/1000000000/1000000000]:=by
     rw [d1,d1',d1'',show u.toNat/1000000000/1000000000/1000000000=0 by omega,Qav,show ((u.toNat%1000000000:Nat):Int)=u%1000000000 by omega,show ((u.toNat/1000000000%1000000000:Nat):Int)=u/1000000000%1000000000 by omega,
      show ((u.toNat/1000000000/1000000000%1000000000:Nat):Int)=u/1000000000/1000000000 by omega]
    rw [d2,QpD]
    simp -implicitDefEqProofs (maxSteps:=9^8) only [Qcu,go_sem,Qac,Qab,iv,bv,e1,e2,t1,t2,t3,t4,m1,m2,e3,e4,e5,e6,e7,reduceCtorEq,↓reduceIte,Nat.reduceEqDiff]

theorem Qp7 {n:Int} (h:I64 n):Qah G Qgm [iv n]=some (.d (encI n)):=by
 obtain ⟨h1,h2⟩:=h
 rw [Qad (cf:=Qif) rfl]
 by_cases hn:n<0
 ·have e1:decide (n<0)=true:=lt_t hn
  have e2:(0-n%18446744073709551616)%18446744073709551616 = -n:=by omega
  have e3:=Qcb true (u:=-n) (by omega)
  have e4:sgn true (-n)=n:=by simp [sgn]
  rw [e4] at e3
  simp only [bv] at e3
  simp -implicitDefEqProofs (maxSteps:=9^8) only [Qif,encI,go_sem,Qac,Qab,iv,bv,e1,e2,reduceCtorEq,↓reduceIte,Nat.reduceEqDiff]
  simp only [e1,e3,encI,go_sem,Qac,Qab,iv,bv,reduceCtorEq,↓reduceIte,Nat.reduceEqDiff]
 ·have e1:decide (n<0)=false:=lt_f hn
  have e2:n%18446744073709551616=n:=by omega
  have e3:=Qcb false (u:=n) (by omega)
  have e4:sgn false n=n:=rfl
  rw [e4] at e3
  simp only [bv] at e3
  simp -implicitDefEqProofs (maxSteps:=9^8) only [Qif,encI,go_sem,Qac,Qab,iv,bv,e1,e2,reduceCtorEq,↓reduceIte,Nat.reduceEqDiff]
  simp only [e1,e3,encI,go_sem,Qac,Qab,iv,bv,reduceCtorEq,↓reduceIte,Nat.reduceEqDiff]
end Go.AM

/- integer.Mul -/
namespace Go.AM
open Go Go.RowKit
variable [Its]

theorem Qlt {d e:Int} (hd:0≤d∧d<1000000000) (he:0≤e∧e<1000000000):0≤d*e∧d*e≤999999998000000001:=by
 have _its:Its:=inferInstance
 refine ⟨Int.mul_nonneg hd.1 he.1, ?_⟩
 have h1:d*e≤999999999*e:=Int.mul_le_mul_of_nonneg_right (by omega) he.1
 omega

theorem mul_arith {o pr c:Int} (m:0≤pr∧pr≤999999998000000001) (ho:0≤o∧o<1000000000) (hc:0≤c∧c<1000000000) :
    w64 pr=pr∧w64 (o+pr)=o+pr∧w64 (o+pr+c)=o+pr+c∧(o+pr+c).tdiv 1000000000=(o+pr+c)/1000000000∧w64 ((o+pr+c)/1000000000)=(o+pr+c)/1000000000 ∧
    w64 ((o+pr+c)/1000000000*1000000000)=(o+pr+c)/1000000000*1000000000∧w64 (o+pr+c-(o+pr+c)/1000000000*1000000000)=(o+pr+c)%1000000000:=by
  have _its:Its:=inferInstance
  refine ⟨Qae (by omega) (by omega),Qae (by omega) (by omega),Qae (by omega) (by omega),Int.tdiv_eq_ediv_of_nonneg (by omega),Qae (by omega) (by omega),Qae (by omega) (by omega), ?_⟩
  rw [Qae (by omega) (by omega)];omega

section
variable (p q:Bool) (dx dy da db:D) (a b:List Int)
def mulH (out:List Int):Hp:=hupd (hupd (hupd (hupd hp0 [46] ⟨1,a.length+b.length,QbP out,false⟩) [4] ⟨0,0,[.d (.v (.bool false)),.d (.z true)],false⟩) [3] ⟨0,0,[.d (.v (.bool q)),.d dy],false⟩) [2] ⟨0,0,[.d (.v (.bool p)),.d dx],false⟩
def QlY (out:List Int) (i:Nat) (d c k:Int):St :=
 ⟨upd (upd (upd (upd (upd (upd (upd (upd (upd (upd (upd (upd (upd (upd fr0 56 (.d (.v (.int .i64 k)))) 55 (.d (.v (.int .i64 b.length)))) 54 (.d db)) 49 (.d (.v (.int .i64 i)))) 48 (.d (.v (.int .i64 a.length)))) 47 (.d da))
  10 (.d (.v (.int .i64 c)))) 9 (.d (.v (.int .i64 d)))) 8 (.d (.v (.int .i64 i)))) 7 (.own [46] (a.length+b.length))) 6 (.d db)) 4 (.ptr [4] 0)) 3 (.ptr [3] 0)) 2 (.ptr [2] 0),mulH p q dx dy a b out,[]⟩
def QnM (out:List Int) (i:Nat) (c:Int):St :=
 ⟨upd (upd (upd (upd (upd (upd (upd (upd (upd (upd fr0 49 (.d (.v (.int .i64 i)))) 48 (.d (.v (.int .i64 a.length)))) 47 (.d da))
  10 (.d (.v (.int .i64 c)))) 8 (.d (.v (.int .i64 i)))) 7 (.own [46] (a.length+b.length))) 6 (.d db)) 4 (.ptr [4] 0)) 3 (.ptr [3] 0)) 2 (.ptr [2] 0),mulH p q dx dy a b out,[]⟩

theorem Qp3 (out:List Int) (i:Nat) (d c:Int):X G Qdf (QlY p q dx dy da db a b out i d c b.length)=some (.x 2,QnM p q dx dy da db a b out i c):=by
 have e1:decide ((b.length:Int)<(b.length:Int))=false:=lt_f (by omega)
 simp -implicitDefEqProofs (maxSteps:=9^8) only [Qdf,QlY,QnM,mulH,go_sem,iv,bv,e1,Qak,reduceCtorEq,↓reduceIte,Nat.reduceEqDiff]

theorem mul_in_go (hrb:Rw db b) (hb:Dig b) (out:List Int) (i k:Nat) (d c:Int) (hd:0≤d∧d<1000000000) (hc:0≤c∧c<1000000000) (ho:Dig out) (hi:i<a.length) (hk:k<b.length) (hl:a.length+b.length<4611686018427387904) (hlen:out.length=a.length+b.length) :
    X G Qdf (QlY p q dx dy da db a b out i d c k)=some (.n,QlY p q dx dy da db a b (out.set (i+k) ((out.getD (i+k) 0+d*b.getD k 0+c)%1000000000)) i d ((out.getD (i+k) 0+d*b.getD k 0+c)/1000000000) ((k+1:Nat):Int)):=by
  have e1:decide ((k:Int)<(b.length:Int))=true:=lt_t (by omega)
  have e2:=hrb.ixn hk
  have e3:=fun hp=>ldv hp b hk
  have e4:w64 ((i:Int)+(k:Int))=((i+k:Nat):Int):=by rw [Qae (by omega) (by omega)];omega
  have g1:(0:Int)≤((i+k:Nat):Int)∧((i+k:Nat):Int)<((a.length+b.length:Nat):Int):=by omega
  have g3:=Qb8 (l:=out) (off:=i+k) (by omega)
  have g2:=fun v=>Qbs (l:=out) (off:=i+k) (v:=v) (by omega)
  have e9:w64 ((k:Int)+1)=((k+1:Nat):Int):=by rw [Qae (by omega) (by omega)];omega
  obtain ⟨e5,e6,e7,q1,e8,e10,e11⟩:=mul_arith (Qlt hd (hb.getD k)) (ho.getD (i+k)) hc
  simp -implicitDefEqProofs (maxSteps:=9^8) only [Qdf,QlY,mulH,go_sem,iv,bv,e1,e2,e3,e4,e5,e6,e7,q1,e8,e9,e10,e11,g1,g2,g3,Qak,Qai,QbK,reduceCtorEq,↓reduceIte,Nat.reduceEqDiff]

theorem Qlb         (hrb:Rw db b) (hb:Dig b) (i:Nat) (d:Int) (hd:0≤d∧d<1000000000) (hi:i<a.length) (hl:a.length+b.length<4611686018427387904):∀ (r k:Nat) (out:List Int) (c:Int),k+r=b.length→(0≤c∧c<1000000000)→Dig out→out.length=a.length+b.length →
    ∃ out' c',X G (.loop Qdf) (QlY p q dx dy da db a b out i d c k)=some (.x 2,QnM p q dx dy da db a b out' i c')∧(0≤c'∧c'<1000000000)∧Dig out'∧out'.length=a.length+b.length∧(∀ j,i+b.length≤j→out'.getD j 0=out.getD j 0) ∧
      val out'+(1000000000:Int)^(i+b.length)*c'=val out+(1000000000:Int)^(i+k)*c+(1000000000:Int)^i*d*(val b-val (b.take k))
  | 0,k,out,c,hk,hc,ho,hlen=>by
    obtain rfl:k=b.length:=by omega
    refine ⟨out,c, ?_,hc,ho,hlen,fun _ _=>rfl, ?_⟩
    · rw [Qag,Qp3];rfl
    · rw [List.take_length,Int.sub_self,Int.mul_zero,Int.add_zero]
  | r+1,k,out,c,hk,hc,ho,hlen=>by
    have hx:=mul_in_go p q dx dy da db a b hrb hb out i k d c hd hc ho hi (by omega) hl hlen
    have hik:i+k<out.length:=by omega
    have hvt:=Qaq b k
    obtain ⟨m1,m2⟩:=Qlt hd (hb.getD k)
    have hok:=ho.getD (i+k)
    generalize hv:out.getD (i+k) 0+d*b.getD k 0+c=v at hx
    have hv1:0≤v∧v<1000000000000000000:=by
      generalize d*b.getD k 0=pr at *
      omega
    obtain ⟨out',c',g1,g2,g3,g4,g5,g6⟩:=Qlb hrb hb i d hd hi hl r (k+1) (out.set (i+k) (v%1000000000)) (v/1000000000) (by omega) (by omega) (ho.set (by omega)) (by simpa using hlen)
    refine ⟨out',c', ?_,g2,g3,g4,fun j hj=>?_, ?_⟩
    · rw [Qag,hx];exact g1
    · rw [g5 j hj,Qbb _ (by omega)]
    · rw [g6,QeC _ _ _ hik,hvt,show i+(k+1)=(i+k)+1 by omega,Int.pow_succ,Int.pow_add]
      have hdm:v%1000000000+1000000000*(v/1000000000)=v:=by omega
      have hv2:=hv.symm
      generalize v%1000000000=vm at *
      generalize v/1000000000=vd at *
      grind

def QiH (out:List Int) (i:Int):St :=
 ⟨upd (upd (upd (upd (upd (upd (upd (upd fr0 49 (.d (.v (.int .i64 i)))) 48 (.d (.v (.int .i64 a.length)))) 47 (.d da))
  7 (.own [46] (a.length+b.length))) 6 (.d db)) 4 (.ptr [4] 0)) 3 (.ptr [3] 0)) 2 (.ptr [2] 0),mulH p q dx dy a b out,[]⟩
def QnD (out:List Int):St :=
 ⟨upd (upd (upd (upd fr0 7 (.own [46] (a.length+b.length))) 4 (.ptr [4] 0)) 3 (.ptr [3] 0)) 2 (.ptr [2] 0),mulH p q dx dy a b out,[]⟩

theorem Qo7 (out:List Int):X G Qdd (QiH p q dx dy da db a b out a.length)=some (.x 0,QnD p q dx dy a b out):=by
 have e1:decide ((a.length:Int)<(a.length:Int))=false:=lt_f (by omega)
 simp -implicitDefEqProofs (maxSteps:=9^8) only [Qdd,QiH,QnD,mulH,go_sem,iv,bv,e1,Qak,reduceCtorEq,↓reduceIte,Nat.reduceEqDiff]

theorem Qsd        (hra:Rw da a) (hrb:Rw db b) (ha:Dig a) (hb:Dig b) (out:List Int) (i:Nat) (ho:Dig out) (hi:i<a.length) (hl:a.length+b.length<4611686018427387904) (hlen:out.length=a.length+b.length) :
    ∃ out',X G Qdd (QiH p q dx dy da db a b out i)=some (.n,QiH p q dx dy da db a b out' ((i+1:Nat):Int))∧Dig out'∧out'.length=a.length+b.length ∧
      (∀ j,i+b.length<j→out'.getD j 0=out.getD j 0)∧(out.getD (i+b.length) 0=0→val out'=val out+(1000000000:Int)^i*a.getD i 0*val b):=by
  have e1:decide ((i:Int)<(a.length:Int))=true:=lt_t (by omega)
  have e2:=hra.ixn hi
  have e3:=fun hp=>ldv hp a hi
  have e4:w64 ((i:Int)+(b.length:Int))=((i+b.length:Nat):Int):=by rw [Qae (by omega) (by omega)];omega
  have e9:w64 ((i:Int)+1)=((i+1:Nat):Int):=by rw [Qae (by omega) (by omega)];omega
  have g7:(0:Int)≤((i+b.length:Nat):Int)∧((i+b.length:Nat):Int)<((a.length+b.length:Nat):Int):=by omega
  have hib0:i+b.length<a.length+b.length:=by omega
  have hne:∀ j,i+b.length<j→i+b.length≠j∧i+b.length≤j:=fun j hj=>by omega
  obtain ⟨o2,c,g1,g2,g3,g4,g5,g6⟩:=Qlb p q dx dy da db a b hrb hb i (a.getD i 0) (ha.getD i) hi hl b.length 0 out 0 (by omega) (by omega) ho hlen
  have hib:i+b.length<o2.length:=by rw [g4];exact hib0
  have g8:=fun v=>Qbs (l:=o2) (off:=i+b.length) (v:=v) hib
  simp only [QlY,QnM,mulH,nc0] at g1
  refine ⟨o2.set (i+b.length) c, ?_,g3.set g2,by simpa using g4,fun j hj=>?_,fun h0=>?_⟩
  · simp -implicitDefEqProofs (maxSteps:=9^8) only [Qdd,QiH,mulH,go_sem,iv,bv,e1,e2,e3,e4,e9,g1,g7,g8,hrb.len,Qak,Qai,QbK,reduceCtorEq,↓reduceIte,Nat.reduceEqDiff]
  · rw [Qbb _ (hne j hj).1,g5 j (hne j hj).2]
  · rw [QeC _ _ _ hib,g5 _ (Nat.le_refl _),h0]
    simp only [List.take_zero,val,Int.sub_zero,Int.mul_zero,Int.add_zero] at g6 ⊢
    exact g6

theorem Qj9          (hra:Rw da a) (hrb:Rw db b) (ha:Dig a) (hb:Dig b) (hl:a.length+b.length<4611686018427387904):∀ (r i:Nat) (out:List Int),i+r=a.length→Dig out→out.length=a.length+b.length→(∀ j,i+b.length≤j→out.getD j 0=0)→val out=val (a.take i)*val b →
    ∃ out',X G (.loop Qdd) (QiH p q dx dy da db a b out i)=some (.x 0,QnD p q dx dy a b out')∧Dig out'∧out'.length=a.length+b.length∧val out'=val a*val b
  | 0,i,out,hi,ho,hlen,hz,hv=>by
    obtain rfl:i=a.length:=by clear hv;omega
    refine ⟨out, ?_,ho,hlen, ?_⟩
    · rw [Qag,Qo7];rfl
    · rw [hv,List.take_length]
  | r+1,i,out,hi,ho,hlen,hz,hv=>by
    have hi':i<a.length:=by clear hv;omega
    have hn:i+1+r=a.length:=by clear hv;omega
    have hj:∀ j,i+1+b.length≤j→i+b.length<j∧i+b.length≤j:=by clear hv;intro j hj;omega
    obtain ⟨out',g1,g2,g3,g4,g5⟩:=Qsd p q dx dy da db a b hra hrb ha hb out i ho hi' hl hlen
    have hv':=g5 (hz _ (Nat.le_refl _))
    obtain ⟨o2,k1,k2⟩:=Qj9 hra hrb ha hb hl r (i+1) out' hn g2 g3 (fun j h=>by rw [g4 j (hj j h).1];exact hz j (hj j h).2) (by rw [hv',hv,Qaq a];grind)
    refine ⟨o2, ?_,k2⟩
    rw [Qag,g1]
    exact k1
end
end Go.AM

/- integer.Mul as a function -/
namespace Go.AM
open Go Go.RowKit
variable [Its]

theorem sgn_mul {x y:Int} (h:x≠0) (h2:y≠0):sgn (!(decide (x<0)==decide (y<0))) ((x.natAbs:Int)*(y.natAbs:Int))=x*y:=by
 have _its:Its:=inferInstance
 by_cases hx:x<0<;>by_cases hy:y<0
 ·have e1:(x.natAbs:Int) = -x:=by omega
  have e2:(y.natAbs:Int) = -y:=by omega
  simp [sgn,hx,hy,e1,e2]
  try grind
 ·have e1:(x.natAbs:Int) = -x:=by omega
  have e2:(y.natAbs:Int)=y:=by omega
  simp [sgn,hx,hy,e1,e2]
  try grind
 ·have e1:(x.natAbs:Int)=x:=by omega
  have e2:(y.natAbs:Int) = -y:=by omega
  simp [sgn,hx,hy,e1,e2]
  try grind
 ·have e1:(x.natAbs:Int)=x:=by omega
  have e2:(y.natAbs:Int)=y:=by omega
  simp [sgn,hx,hy,e1,e2]
  try grind

theorem QmR (x y:Int):sgn (!(decide (x<0)==decide (y<0))) ((x.natAbs:Int)*(y.natAbs:Int))=x*y:=by
 by_cases h:x=0
 ·subst h
  have:((0:Int).natAbs:Int)=0:=rfl
  rw [this,Int.zero_mul,Int.zero_mul]
  unfold sgn;split<;>rfl
 ·by_cases h2:y=0
  ·subst h2
   have:((0:Int).natAbs:Int)=0:=rfl
   rw [this,Int.mul_zero,Int.mul_zero]
   unfold sgn;split<;>rfl
  ·exact sgn_mul h h2

theorem Qlm {n:Nat} (h:(digs n).length=1):(digs n).getD 0 0=n∧n<1000000000:=by
 have _its:Its:=inferInstance
 have hv:=Qat n
 have hd:=Qap n
 match hl:digs n,h with
 | [d],_ =>
  rw [hl] at hv hd
  have:=hd d (by simp)
  simp only [val] at hv
  simp only [List.getD_cons_zero]
  omega

theorem Mul_one {x y:Int} (hx:(digs x.natAbs).length=1) (hy:(digs y.natAbs).length=1):Qah G Qcy [encI x,encI y]=some (.d (encI (x*y))):=by
 rw [Qad (cf:=QeV) rfl]
 obtain ⟨a1,a2⟩:=Qlm hx
 obtain ⟨b1,b2⟩:=Qlm hy
 have e0:=QaV (digs x.natAbs)
 have e1:=QaV (digs y.natAbs)
 rw [hx] at e0
 rw [hy] at e1
 have e2:=(Rw.dg (digs x.natAbs)).ixn (j:=0) (by omega)
 have e3:=fun hp=>ldv hp (digs x.natAbs) (j:=0) (by omega)
 have e4:=(Rw.dg (digs y.natAbs)).ixn (j:=0) (by omega)
 have e5:=fun hp=>ldv hp (digs y.natAbs) (j:=0) (by omega)
 simp only [nc0,a1,b1,List.drop_zero] at e2 e3 e4 e5
 have e6:(((1:Nat):Int)==1)=true:=rfl
 have e7:((x.natAbs:Nat):Int)%18446744073709551616=(x.natAbs:Int):=by omega
 have e8:((y.natAbs:Nat):Int)%18446744073709551616=(y.natAbs:Int):=by omega
 have e9:((x.natAbs:Nat):Int)*((y.natAbs:Nat):Int)%18446744073709551616=(x.natAbs:Int)*(y.natAbs:Int)∧0≤(x.natAbs:Int)*(y.natAbs:Int)∧(x.natAbs:Int)*(y.natAbs:Int)<18446744073709551616:=by
  obtain ⟨m1,m2⟩:=Qlt (d:=(x.natAbs:Int)) (e:=(y.natAbs:Int)) (by omega) (by omega)
  generalize (x.natAbs:Int)*(y.natAbs:Int)=pr at *
  clear e0 e1 e2 e3 e4 e5
  omega
 have g:=Qcb (!(decide (x<0)==decide (y<0))) e9.2
 rw [QmR] at g
 simp only [bv] at g
 simp -implicitDefEqProofs (maxSteps:=9^8) only [QeV,encI,go_sem,Qac,Qab,iv,bv,e0,e1,e2,e3,e4,e5,e6,e7,e8,e9.1,g,reduceCtorEq,↓reduceIte,Nat.reduceEqDiff]

theorem Qig {x y:Int} (hx:nd x≤1000000000000) (hy:nd y≤1000000000000):Qah G Qcy [encI x,encI y]=some (.d (encI (x*y))):=by
 by_cases h1:(digs x.natAbs).length=1∧(digs y.natAbs).length=1
 ·exact Mul_one h1.1 h1.2
 rw [Qad (cf:=QeV) rfl]
 have hx':(digs x.natAbs).length≤1000000000000:=hx
 have hy':(digs y.natAbs).length≤1000000000000:=hy
 have e0:=QaV (digs x.natAbs)
 have e1:=QaV (digs y.natAbs)
 have vx:=Qd7 x
 have vy:=Qd7 y
 have dx:=Qap x.natAbs
 have dy:=Qap y.natAbs
 have hw:w64 (((digs x.natAbs).length:Int)+((digs y.natAbs).length:Int))=(((digs x.natAbs).length+(digs y.natAbs).length:Nat):Int):=by rw [Qae (by omega) (by omega)];omega
 have hm:(0:Int)≤(((digs x.natAbs).length+(digs y.natAbs).length:Nat):Int)∧(((digs x.natAbs).length+(digs y.natAbs).length:Nat):Int)*((8:Nat):Int)≤((bound:Nat):Int):=by simp only [bound];omega
 have hlt:(digs x.natAbs).length+(digs y.natAbs).length<4611686018427387904:=by omega
 obtain ⟨out,g1,g2,g3,g4⟩:=Qj9 (decide (x<0)) (decide (y<0)) (dg (digs x.natAbs)) (dg (digs y.natAbs)) (dg (digs x.natAbs)) (dg (digs y.natAbs)) (digs x.natAbs) (digs y.natAbs) (Rw.dg _) (Rw.dg _) dx dy hlt
  (digs x.natAbs).length 0 (List.replicate ((digs x.natAbs).length+(digs y.natAbs).length) 0) (by omega) (Dig.replicate _) (by simp) (fun j _=>by simp only [List.getD_eq_getElem?_getD,List.getElem?_replicate];split<;>rfl) (by rw [QfA];simp [val])
 have hol:out.length<4611686018427387904:=by rw [g3];exact hlt
 have g5:=Qeb (!(decide (x<0)==decide (y<0))) (Rw.row out) hol g2
 rw [g4,vx,vy,QmR] at g5
 simp only [rowI,bv,g3] at g5
 simp only [QiH,QnD,mulH,nc0] at g1
 by_cases h2:(digs x.natAbs).length=1
 ·have k1:(((digs x.natAbs).length:Int)==1)=true:=Qkx (by omega)
  have k2:(((digs y.natAbs).length:Int)==1)=false:=Qb9 (by omega)
  simp -implicitDefEqProofs (maxSteps:=9^8) only [QeV,encI,go_sem,Qac,Qab,QdG,iv,bv,e0,e1,k1,k2,hw,hm,QlE,Qak,QbK,g1,g5,reduceCtorEq,↓reduceIte,Nat.reduceEqDiff]
 ·have k1:(((digs x.natAbs).length:Int)==1)=false:=Qb9 (by omega)
  simp -implicitDefEqProofs (maxSteps:=9^8) only [QeV,encI,go_sem,Qac,Qab,QdG,iv,bv,e0,e1,k1,hw,hm,QlE,Qak,QbK,g1,g5,reduceCtorEq,↓reduceIte,Nat.reduceEqDiff]
end Go.AM

/- integer.two -/
namespace Go.AM
open Go Go.RowKit

theorem val_one {l:List Int} (h:l.length=1):val l=l.getD 0 0:=by
 match l,h with
 | [x],_=>simp [val]
theorem val_two {l:List Int} (h:l.length=2):val l=l.getD 1 0*1000000000+l.getD 0 0:=by
 match l,h with
 | [x,y],_=>simp [val];omega
variable [Its]

theorem QkE      {d:D} {l:List Int} (h:Rw d l) (hd:Dig l) (hl:l.length<4611686018427387904) :
    Qah G Qeg [d]=some (.d (.tup [iv (if l.length≤2 then val l else 0),bv (decide (l.length≤2))])):=by
  rw [Qad (cf:=QeB) rfl]
  have b0:=hd.getD 0
  have b1:=hd.getD 1
  have hh:=h.len
  by_cases h0:l.length=0
  · have e1:val l=0:=by rw [List.length_eq_zero_iff.1 h0];rfl
    have e2:(((0:Nat):Int)==0)=true:=rfl
    have e3:(0:Nat)≤2:=by omega
    simp -implicitDefEqProofs (maxSteps:=9^8) only [QeB,go_sem,iv,bv,hh,h0,e1,e2,e3,toDs,beq_self_eq_true,reduceCtorEq,↓reduceIte,Nat.reduceEqDiff]
  · by_cases h1:l.length=1
    · have e1:=h.ixn (j:=0) (by omega)
      have e2:=fun hp=>ldv hp l (j:=0) (by omega)
      simp only [nc0,List.drop_zero] at e1 e2
      have e3:(((1:Nat):Int)==0)=false:=rfl
      have e4:(((1:Nat):Int)==1)=true:=rfl
      have e5:(1:Nat)≤2:=by omega
      simp -implicitDefEqProofs (maxSteps:=9^8) only [QeB,go_sem,iv,bv,hh,h1,e1,e2,e3,e4,e5,val_one h1,toDs,reduceCtorEq,↓reduceIte,Nat.reduceEqDiff]
    · by_cases h2:l.length=2
      · have e1:=h.ixn (j:=0) (by omega)
        have e2:=fun hp=>ldv hp l (j:=0) (by omega)
        have f1:=h.ixn (j:=1) (by omega)
        have f2:=fun hp=>ldv hp l (j:=1) (by omega)
        simp only [nc0,List.drop_zero] at e1 e2
        have e3:(((2:Nat):Int)==0)=false:=rfl
        have e4:(((2:Nat):Int)==1)=false:=rfl
        have e5:(((2:Nat):Int)==2)=true:=rfl
        have e8:(2:Nat)≤2:=by omega
        have e9:((1:Nat):Int)=1:=rfl
        rw [e9] at f1
        have e6:w64 (l.getD 1 0*1000000000)=l.getD 1 0*1000000000:=Qae (by omega) (by omega)
        have e7:w64 (l.getD 1 0*1000000000+l.getD 0 0)=l.getD 1 0*1000000000+l.getD 0 0:=Qae (by omega) (by omega)
        simp -implicitDefEqProofs (maxSteps:=9^8) only [QeB,go_sem,iv,bv,hh,h2,e1,e2,e3,e4,e5,e6,e7,e8,f1,f2,val_two h2,toDs,reduceCtorEq,↓reduceIte,Nat.reduceEqDiff]
      · have e3:((l.length:Int)==0)=false:=Qb9 (by omega)
        have e4:((l.length:Int)==1)=false:=Qb9 (by omega)
        have e5:((l.length:Int)==2)=false:=Qb9 (by omega)
        have e6:¬ l.length≤2:=by omega
        simp -implicitDefEqProofs (maxSteps:=9^8) only [QeB,go_sem,iv,bv,hh,e3,e4,e5,e6,toDs,reduceCtorEq,↓reduceIte,Nat.reduceEqDiff]
end Go.AM

/- States as lists; quotients; values from the top. -/
namespace Go.AM
open Go Go.RowKit

def frL:List (Nat×A)→Fr
 | []=>fr0
 | (i,x) :: r=>upd (frL r) i x
def hpL:List (Key×Obj)→Hp
 | []=>hp0
 | (k,o) :: r=>hupd (hpL r) k o
def mkS (f:List (Nat×A)) (h:List (Key×Obj)):St:=⟨frL f,hpL h,[]⟩
def ai (x:Int):A:=.d (.v (.int .i64 x))
def ab (b:Bool):A:=.d (.v (.bool b))
def arrI (n:Nat) (l:List Int):Obj:=⟨1,n,QbP l,false⟩
attribute [go_sem] mkS frL hpL ai ab arrI

theorem QeN {a b:Int} (ha:0≤a):a.tdiv b=a/b:=Int.tdiv_eq_ediv_of_nonneg ha
theorem QdV {a b:Int} (ha:0≤a):a.tmod b=a%b:=Int.tmod_eq_emod_of_nonneg ha
theorem Qjr {b:Int} (h:b≠0):(b=0)=False:=eq_false h

theorem Qa0 (l:List Int) (k:Nat):val (l.drop k)=l.getD k 0+1000000000*val (l.drop (k+1)):=by
 by_cases h:k<l.length
 ·rw [List.drop_eq_getElem_cons h,val]
  simp [List.getD,h]
 ·rw [List.drop_eq_nil_of_le (by omega),List.drop_eq_nil_of_le (by omega)]
  have:l.getD k 0=0:=by rw [List.getD_eq_getElem?_getD,List.getElem?_eq_none (by omega)];rfl
  rw [this];simp [val]
theorem Qkg {l:List Int} {k:Nat} (d:Int) (h:k<l.length):val ((l.set k d).drop k)=d+1000000000*val (l.drop (k+1)):=by
 rw [Qa0,Qhj l d (Nat.lt_succ_self k)]
 simp [List.getD,h]
theorem QiO {l:List Int} {k:Nat} (d:Int) (h:k<l.length):(l.set k d).getD k 0=d:=by simp [List.getD,h]
theorem QcY (n:Nat):(0:Int)<(1000000000:Int)^n:=Int.pow_pos (by omega)
theorem bnd (n:Nat) (h:n*8≤140737488351232):(0:Int)≤((n:Nat):Int)∧((n:Nat):Int)*((8:Nat):Int)≤((bound:Nat):Int):=by simp only [bound];omega
end Go.AM

/- integer.short -/
namespace Go.AM
open Go Go.RowKit

theorem QlU         {r a b:Int} (hb:0<b∧b<1000000000) (hr:0≤r∧r<b) (ha:0≤a∧a<1000000000) :
    0≤r*1000000000+a∧r*1000000000+a<1000000000000000000∧0≤(r*1000000000+a)/b∧(r*1000000000+a)/b<1000000000∧0≤(r*1000000000+a)%b∧(r*1000000000+a)%b<b∧(r*1000000000+a)/b*b+(r*1000000000+a)%b=r*1000000000+a:=by
  refine ⟨by omega,by omega,Int.ediv_nonneg (by omega) (by omega), ?_,Int.emod_nonneg _ (by omega),Int.emod_lt_of_pos _ (by omega),Int.ediv_mul_add_emod _ _⟩
  apply Int.ediv_lt_of_lt_mul (by omega)
  omega
variable [Its]

section
variable (da:D) (a:List Int) (b:Int)
def Qhk (q:List Int) (r i:Int):St:=mkS [(0,.d da),(1,ai b),(6,.own [12] a.length),(7,ai r),(8,ai i)] [([12],arrI a.length q)]
def Qi3 (q:List Int) (r:Int):St:=mkS [(6,.own [12] a.length),(7,ai r)] [([12],arrI a.length q)]

theorem QrQ (q:List Int) (r:Int):X G Qct (Qhk da a b q r (-1))=some (.x 0,Qi3 a q r):=by
 have e1:decide ((-1:Int)≥0)=false:=rfl
 simp -implicitDefEqProofs (maxSteps:=9^8) only [Qct,Qhk,Qi3,go_sem,iv,bv,e1,Qak,reduceCtorEq,↓reduceIte,Nat.reduceEqDiff]

theorem short_go (hra:Rw da a) (ha:Dig a) (hb:0<b∧b<1000000000) (q:List Int) (r:Int) (hr:0≤r∧r<b) (hq:q.length=a.length) {i:Nat} (hi:i<a.length) (hl:a.length<4611686018427387904) :
    X G Qct (Qhk da a b q r (i:Int))=some (.n,Qhk da a b (q.set i ((r*1000000000+a.getD i 0)/b)) ((r*1000000000+a.getD i 0)%b) ((i:Int)-1)):=by
  obtain ⟨h1,h2,h3,h4,h5,h6,_⟩:=QlU hb hr (ha.getD i)
  have a1:=ha.getD i
  have e1:decide ((i:Int)≥0)=true:=ge_t (by omega)
  have e2:=hra.ixn (j:=i) (by omega)
  have e3:=fun hp=>ldv hp a (j:=i) (by omega)
  have e4:w64 (r*1000000000)=r*1000000000:=Qae (by omega) (by omega)
  have e5:w64 (r*1000000000+a.getD i 0)=r*1000000000+a.getD i 0:=Qae (by omega) (by omega)
  have e6:=Qjr (b:=b) (by omega)
  have e7:=QeN (b:=b) h1
  have e8:=QdV (b:=b) h1
  have e9:w64 ((r*1000000000+a.getD i 0)/b)=(r*1000000000+a.getD i 0)/b:=Qae (by omega) (by omega)
  have f1:(0:Int)≤(i:Int)∧(i:Int)<((a.length:Nat):Int):=by omega
  have f2:=fun v=>Qbs (l:=q) (off:=i) (v:=v) (by omega)
  have f3:w64 ((i:Int)-1)=(i:Int)-1:=Qae (by omega) (by omega)
  simp -implicitDefEqProofs (maxSteps:=9^8) only [Qct,Qhk,go_sem,iv,bv,e1,e2,e3,e4,e5,e6,e7,e8,e9,f1,f2,f3,allD,Qak,Qai,QbK,reduceCtorEq,↓reduceIte,Nat.reduceEqDiff]

theorem QmF        (hra:Rw da a) (ha:Dig a) (hb:0<b∧b<1000000000) (hl:a.length<4611686018427387904):∀ (k:Nat) (q:List Int) (r:Int),k≤a.length→(0≤r∧r<b)→q.length=a.length→Dig q→val (a.drop k)=val (q.drop k)*b+r →
    ∃ q' r',X G (.loop Qct) (Qhk da a b q r ((k:Int)-1))=some (.x 0,Qi3 a q' r')∧(0≤r'∧r'<b)∧q'.length=a.length∧Dig q'∧val a=val q'*b+r'
  | 0,q,r,hk,hr,hq,hd,hv=>by
    refine ⟨q,r, ?_,hr,hq,hd,by simpa using hv⟩
    have:((0:Nat):Int)-1 = -1:=rfl
    rw [this,Qag,QrQ];rfl
  | k+1,q,r,hk,hr,hq,hd,hv=>by
    obtain ⟨h1,h2,h3,h4,h5,h6,h7⟩:=QlU hb hr (ha.getD k)
    have hx:=short_go da a b hra ha hb q r hr hq (i:=k) (by omega) hl
    obtain ⟨q',r',g1,g2⟩:=QmF hra ha hb hl k (q.set k ((r*1000000000+a.getD k 0)/b)) ((r*1000000000+a.getD k 0)%b) (by omega) ⟨h5,h6⟩ (by simpa using hq) (hd.set ⟨h3,h4⟩) (by
      rw [Qa0,hv,Qkg _ (by omega)]
      generalize (r*1000000000+a.getD k 0)/b=Q at *
      generalize (r*1000000000+a.getD k 0)%b=M at *
      clear hx h1 h2 h3 h4 h5 h6
      grind)
    refine ⟨q',r', ?_,g2⟩
    have:((k+1:Nat):Int)-1=(k:Int):=by omega
    rw [this,Qag,hx]
    exact g1
end

theorem Qmm        {da:D} {a:List Int} {b:Int} (hra:Rw da a) (ha:Dig a) (hb:0<b∧b<1000000000) (hl:a.length*8≤140737488351232) :
    ∃ q r,Qah G QfW [da,iv b]=some (.d (.tup [rowI q,iv r]))∧(0≤r∧r<b)∧q.length=a.length∧Dig q∧val a=val q*b+r:=by
  obtain ⟨q,r,h1,h2,h3,h4,h5⟩:=QmF da a b hra ha hb (by omega) a.length (List.replicate a.length 0) 0 (Nat.le_refl _) (by omega) (by simp) (Dig.replicate _) (by
    rw [List.drop_length,List.drop_eq_nil_of_le (by simp)];simp [val])
  refine ⟨q,r, ?_,h2,h3,h4,h5⟩
  rw [Qad (cf:=Qg3) rfl]
  have e1:=bnd a.length hl
  have e2:w64 ((a.length:Int)-1)=(a.length:Int)-1:=Qae (by omega) (by omega)
  simp only [Qhk,Qi3,go_sem] at h1
  simp -implicitDefEqProofs (maxSteps:=9^8) only [Qg3,go_sem,iv,bv,h1,e1,e2,hra.len,QlE,Qak,QbK,Qai,toDs,rowI,h3,reduceCtorEq,↓reduceIte,Nat.reduceEqDiff]
end Go.AM

/- integer.scaled -/
namespace Go.AM
open Go Go.RowKit

theorem Qkq          {d k c:Int} (hd:0≤d∧d<1000000000) (hk:0<k∧k<1000000000) (hc:0≤c∧c<k) :
    0≤d*k∧d*k<1000000000000000000∧0≤d*k+c∧d*k+c<1000000000000000000∧0≤(d*k+c)/1000000000∧(d*k+c)/1000000000<k:=by
  have h1:0≤d*k:=Int.mul_nonneg hd.1 (by omega)
  have h2:d*k≤999999999*k:=Int.mul_le_mul_of_nonneg_right (by omega) (by omega)
  generalize d*k=p at *
  omega
variable [Its]

section
variable (da:D) (a:List Int) (k:Int)
def Qf0 (o:List Int) (c i:Int):St:=mkS [(0,.d da),(1,ai k),(5,.own [13] (a.length+1)),(6,ai c),(14,.d da),(15,ai a.length),(16,ai i)] [([13],arrI (a.length+1) o)]
def Qh3 (o:List Int) (c:Int):St:=mkS [(0,.d da),(5,.own [13] (a.length+1)),(6,ai c)] [([13],arrI (a.length+1) o)]

theorem Qpr (o:List Int) (c:Int):X G Qcf (Qf0 da a k o c a.length)=some (.x 0,Qh3 da a o c):=by
 have e1:decide ((a.length:Int)<(a.length:Int))=false:=lt_f (by omega)
 simp -implicitDefEqProofs (maxSteps:=9^8) only [Qcf,Qf0,Qh3,go_sem,iv,bv,e1,Qak,reduceCtorEq,↓reduceIte,Nat.reduceEqDiff]

theorem scaled_go (hra:Rw da a) (ha:Dig a) (hk:0<k∧k<1000000000) (o:List Int) (c:Int) (hc:0≤c∧c<k) (ho:o.length=a.length+1) {i:Nat} (hi:i<a.length) (hl:a.length<4611686018427387904) :
    X G Qcf (Qf0 da a k o c (i:Int))=some (.n,Qf0 da a k (o.set i ((a.getD i 0*k+c)%1000000000)) ((a.getD i 0*k+c)/1000000000) ((i+1:Nat):Int)):=by
  obtain ⟨h1,h2,h3,h4,h5,h6⟩:=Qkq (ha.getD i) hk hc
  have e1:decide ((i:Int)<(a.length:Int))=true:=lt_t (by omega)
  have e2:=hra.ixn (j:=i) (by omega)
  have e3:=fun hp=>ldv hp a (j:=i) (by omega)
  have e7:=QeN (b:=1000000000) h3
  have e8:=QdV (b:=1000000000) h3
  have f1:(0:Int)≤(i:Int)∧(i:Int)<((a.length+1:Nat):Int):=by omega
  have f2:=fun v=>Qbs (l:=o) (off:=i) (v:=v) (by omega)
  have f3:w64 ((i:Int)+1)=((i+1:Nat):Int):=by rw [Qae (by omega) (by omega)];omega
  have e4:w64 (a.getD i 0*k)=a.getD i 0*k:=by
    generalize a.getD i 0*k=p at *;exact Qae (by omega) (by omega)
  have e5:w64 (a.getD i 0*k+c)=a.getD i 0*k+c:=by
    generalize a.getD i 0*k=p at *;exact Qae (by omega) (by omega)
  have e9:w64 ((a.getD i 0*k+c)/1000000000)=(a.getD i 0*k+c)/1000000000:=by
    generalize a.getD i 0*k=p at *;exact Qae (by omega) (by omega)
  simp -implicitDefEqProofs (maxSteps:=9^8) only [Qcf,Qf0,go_sem,iv,bv,e1,e2,e3,e4,e5,e7,e8,e9,f1,f2,f3,allD,Qak,Qai,QbK,reduceCtorEq,↓reduceIte,Nat.reduceEqDiff]

theorem QlT         (hra:Rw da a) (ha:Dig a) (hk:0<k∧k<1000000000) (hl:a.length<4611686018427387904):∀ (j i:Nat) (o:List Int) (c:Int),i+j=a.length→(0≤c∧c<k)→o.length=a.length+1→Dig o→o.getD a.length 0=0→val (o.take i)+(1000000000:Int)^i*c=val (a.take i)*k →
    ∃ o' c',X G (.loop Qcf) (Qf0 da a k o c (i:Int))=some (.x 0,Qh3 da a o' c')∧(0≤c'∧c'<k)∧o'.length=a.length+1∧Dig o'∧val (o'.take a.length)+(1000000000:Int)^a.length*c'=val a*k
  | 0,i,o,c,hi,hc,ho,hd,hz,hv=>by
    obtain rfl:i=a.length:=by omega
    refine ⟨o,c, ?_,hc,ho,hd, ?_⟩
    · rw [Qag,Qpr];rfl
    · rw [hv,List.take_length]
  | j+1,i,o,c,hi,hc,ho,hd,hz,hv=>by
    obtain ⟨h1,h2,h3,h4,h5,h6⟩:=Qkq (ha.getD i) hk hc
    have hx:=scaled_go da a k hra ha hk o c hc ho (i:=i) (by omega) hl
    have hm:=Int.ediv_mul_add_emod (a.getD i 0*k+c) 1000000000
    have hm1:0≤(a.getD i 0*k+c)%1000000000:=Int.emod_nonneg _ (by omega)
    have hm2:(a.getD i 0*k+c)%1000000000<1000000000:=Int.emod_lt_of_pos _ (by omega)
    obtain ⟨o',c',g1,g2⟩:=QlT hra ha hk hl j (i+1) (o.set i ((a.getD i 0*k+c)%1000000000)) ((a.getD i 0*k+c)/1000000000) (by omega) ⟨h5,h6⟩ (by simpa using ho) (hd.set ⟨hm1,hm2⟩) (by rw [Qbb _ (by omega)];exact hz) (by
      rw [Qff _ (by omega),Qaq a,Int.pow_succ]
      generalize (a.getD i 0*k+c)%1000000000=M at *
      generalize (a.getD i 0*k+c)/1000000000=Q at *
      clear hx h1 h2 h3 h4 h5 h6
      grind)
    refine ⟨o',c', ?_,g2⟩
    rw [Qag,hx]
    exact g1
end

theorem Qlv         {da:D} {a:List Int} {k:Int} (hra:Rw da a) (ha:Dig a) (hk:0<k∧k<1000000000) (hl:(a.length+1)*8≤140737488351232) :
    ∃ o,Qah G Qfh [da,iv k]=some (.own 1 (a.length+1) (o.map iv))∧o.length=a.length+1∧Dig o∧val o=val a*k:=by
  obtain ⟨o,c,h1,h2,h3,h4,h5⟩:=QlT da a k hra ha hk (by omega) a.length 0 (List.replicate (a.length+1) 0) 0 (by omega) (by omega) (by simp) (Dig.replicate _) (by simp [List.getD]) (by simp [val])
  refine ⟨o.set a.length c, ?_,by simpa using h3,h4.set (by omega), ?_⟩
  · rw [Qad (cf:=Qgv) rfl]
    have e1:=bnd (a.length+1) hl
    have e2:w64 ((a.length:Int)+1)=((a.length+1:Nat):Int):=by rw [Qae (by omega) (by omega)];omega
    have e4:(0:Int)≤((a.length:Nat):Int)∧(a.length:Int)<((a.length+1:Nat):Int):=by omega
    have g2:=fun v=>Qbs (l:=o) (off:=a.length) (v:=v) (by omega)
    simp only [Qf0,Qh3,go_sem,nc0] at h1
    simp -implicitDefEqProofs (maxSteps:=9^8) only [Qgv,go_sem,iv,bv,h1,e1,e2,e4,g2,hra.len,QlE,Qak,Qai,QbK,reduceCtorEq,↓reduceIte,Nat.reduceEqDiff]
  · have:=Qff c (l:=o) (i:=a.length) (by omega)
    rw [List.take_of_length_le (by simp;omega)] at this
    rw [this];exact h5
end Go.AM

/- Long division, one digit of the quotient: plain arithmetic. -/
namespace Go.AM

section
variable {P v1 v2 vl u0 u1 u2 ul:Int}

theorem kn_first (hP:0<P) (h1:0<v1) (h2:0≤v2) (hvl:0≤vl) (hul:0≤ul∧ul<P) (hu2:0≤u2∧u2<1000000000) (hu:0≤u0∧0≤u1) :
    let top:=u0*1000000000+u1
    0≤top/v1∧0≤top%v1∧top%v1<v1∧top/v1*v1+top%v1=top∧(top*1000000000*P+u2*P+ul)<(top/v1+1)*(v1*1000000000*P+v2*P+vl):=by
  intro top
  have ht:0≤top:=by show 0≤u0*1000000000+u1;omega
  have e1:0≤top/v1:=Int.ediv_nonneg ht (by omega)
  have e2:0≤top%v1:=Int.emod_nonneg _ (by omega)
  have e3:top%v1<v1:=Int.emod_lt_of_pos _ h1
  have e4:top/v1*v1+top%v1=top:=Int.ediv_mul_add_emod _ _
  refine ⟨e1,e2,e3,e4, ?_⟩
  generalize top/v1=g at *
  generalize top%v1=r at *
  clear_value top
  have p1:(top+1)*P≤((g+1)*v1)*P:=Int.mul_le_mul_of_nonneg_right (by rw [Int.add_mul];omega) (by omega)
  have p2:0≤(g+1)*(v2*P+vl):=Int.mul_nonneg (by omega) (by have:=Int.mul_nonneg h2 (Int.le_of_lt hP);omega)
  have p3:u2*P≤999999999*P:=Int.mul_le_mul_of_nonneg_right (by omega) (by omega)
  have q1:(g+1)*(v1*1000000000*P+v2*P+vl)=1000000000*(((g+1)*v1)*P)+(g+1)*(v2*P+vl):=by grind
  have q2:top*1000000000*P=1000000000*(top*P):=by grind
  have q3:(top+1)*P=top*P+P:=by grind
  rw [q1,q2]
  rw [q3] at p1
  generalize ((g+1)*v1)*P=a at *
  generalize (g+1)*(v2*P+vl)=b at *
  generalize top*P=c at *
  generalize u2*P=d at *
  omega

theorem kn_more (hP:0<P) (hvl:0≤vl) (hul:ul<P) {g r:Int} (hg:0≤g) (hgr:g*v1+r=u0*1000000000+u1)
    (ht:r*1000000000+u2<g*v2):(u0*1000000000+u1)*1000000000*P+u2*P+ul<g*(v1*1000000000*P+v2*P+vl):=by
  rw [← hgr]
  have p1:(r*1000000000+u2+1)*P≤(g*v2)*P:=Int.mul_le_mul_of_nonneg_right (by omega) (by omega)
  have p2:0≤g*vl:=Int.mul_nonneg hg hvl
  have q1:g*(v1*1000000000*P+v2*P+vl)=1000000000*((g*v1)*P)+(g*v2)*P+g*vl:=by grind
  have q2:(g*v1+r)*1000000000*P+u2*P+ul=1000000000*((g*v1)*P)+1000000000*(r*P)+u2*P+ul:=by grind
  have q3:(r*1000000000+u2+1)*P=1000000000*(r*P)+u2*P+P:=by grind
  rw [q1,q2]
  rw [q3] at p1
  generalize (g*v1)*P=a at *
  generalize (g*v2)*P=b at *
  generalize g*vl=c at *
  generalize r*P=d at *
  generalize u2*P=e at *
  omega

theorem kn_stop (hP:0<P) (h1:0<v1) (hv2:0≤v2) (hvl:0≤vl∧vl<P) (hul:0≤ul) {g r:Int} (hg:0≤g∧g<1000000000) (hgr:g*v1+r=u0*1000000000+u1)
    (ht:g*v2≤r*1000000000+u2):(g-1)*(v1*1000000000*P+v2*P+vl)≤(u0*1000000000+u1)*1000000000*P+u2*P+ul:=by
  rw [← hgr]
  have p1:(g*v2)*P≤(r*1000000000+u2)*P:=Int.mul_le_mul_of_nonneg_right ht (by omega)
  have p2:g*vl≤g*P:=Int.mul_le_mul_of_nonneg_left (by omega) (by omega)
  have p3:g*P≤1000000000*P:=Int.mul_le_mul_of_nonneg_right (by omega) (by omega)
  have p4:1*P≤v1*P:=Int.mul_le_mul_of_nonneg_right (by omega) (by omega)
  have p5:0≤v2*P:=Int.mul_nonneg hv2 (by omega)
  have q1:(g-1)*(v1*1000000000*P+v2*P+vl)=1000000000*((g*v1)*P)+(g*v2)*P+g*vl-1000000000*(v1*P)-v2*P-vl:=by grind
  have q2:(g*v1+r)*1000000000*P+u2*P+ul=1000000000*((g*v1)*P)+1000000000*(r*P)+u2*P+ul:=by grind
  have q3:(r*1000000000+u2)*P=1000000000*(r*P)+u2*P:=by grind
  rw [q1,q2]
  rw [q3] at p1
  generalize (g*v1)*P=a at *
  generalize (g*v2)*P=b at *
  generalize g*vl=c at *
  generalize r*P=d at *
  generalize u2*P=e at *
  generalize g*P=f at *
  generalize v1*P=h at *
  generalize v2*P=i at *
  omega

theorem kn_digit (hP:0<P) (h1:0<v1) (hv2:0≤v2∧v2<1000000000) (hvl:0≤vl∧vl<P) (hul:0≤ul) (hu2:0≤u2)
    (hU:(u0*1000000000+u1)*1000000000*P+u2*P+ul<1000000000*(v1*1000000000*P+v2*P+vl)) {g r:Int} (hgr:g*v1+r=u0*1000000000+u1) (hr:1000000000≤r):g<1000000000:=by
  have p5:0≤u2*P:=Int.mul_nonneg hu2 (by omega)
  have p6:v2*P≤999999999*P:=Int.mul_le_mul_of_nonneg_right (by omega) (by omega)
  have q2:(u0*1000000000+u1)*1000000000*P=1000000000*((u0*1000000000+u1)*P):=by grind
  have q3:v1*1000000000*P=1000000000*(v1*P):=by grind
  rw [q2,q3] at hU
  have k1:(u0*1000000000+u1)*P<(v1*1000000000+1000000000)*P:=by
    have q4:(v1*1000000000+1000000000)*P=1000000000*(v1*P)+1000000000*P:=by grind
    rw [q4]
    generalize (u0*1000000000+u1)*P=a at *
    generalize v1*P=b at *
    generalize v2*P=c at *
    generalize u2*P=d at *
    omega
  have k2:u0*1000000000+u1<v1*1000000000+1000000000:=Int.lt_of_mul_lt_mul_right k1 (by omega)
  rw [← hgr] at k2
  have k3:g*v1<1000000000*v1:=by
    generalize g*v1=a at *
    omega
  exact Int.lt_of_mul_lt_mul_right k3 (by omega)
end

theorem QqY    {u g v c:Int} (hu:0≤u∧u<1000000000) (hg:0≤g∧g<1000000000) (hv:0≤v∧v<1000000000) (hc:0≤c∧c<1000000000) :
    0≤g*v∧g*v≤999999999*999999999∧(u-g*v-c<0→0≤-(u-g*v-c)+1000000000-1∧0≤(-(u-g*v-c)+1000000000-1)/1000000000∧(-(u-g*v-c)+1000000000-1)/1000000000<1000000000 ∧
      0≤u-g*v-c+(-(u-g*v-c)+1000000000-1)/1000000000*1000000000∧u-g*v-c+(-(u-g*v-c)+1000000000-1)/1000000000*1000000000<1000000000):=by
  have h1:0≤g*v:=Int.mul_nonneg hg.1 hv.1
  have h2:g*v≤999999999*v:=Int.mul_le_mul_of_nonneg_right (by omega) hv.1
  generalize g*v=p at *
  omega
end Go.AM

/- integer.long: the guess -/
namespace Go.AM
open Go Go.RowKit
theorem kn_wrap {g v:Int} (hg:0≤g∧g<1000000000) (hv:0≤v∧v<1000000000):w64 (g*v)=g*v:=by
 obtain ⟨m1,m2,_⟩:=QqY (u:=0) (c:=0) (by omega) hg hv (by omega)
 generalize g*v=x at *
 exact Qae (by omega) (by omega)
theorem kn_small {g v r u:Int} (hg:0≤g∧g<1000000000) (hv:0≤v∧v<1000000000) (hr:1000000000≤r) (hu:0≤u):g*v≤r*1000000000+u:=by
 obtain ⟨m1,m2,_⟩:=QqY (u:=0) (c:=0) (by omega) hg hv (by omega)
 generalize g*v=x at *
 omega
theorem kn_pos {g U V:Int} (h:U<g*V) (hU:0≤U) (hg:0≤g):1≤g:=by
 rcases Int.lt_or_le 0 g with h' | h'
 ·exact h'
 ·obtain rfl:g=0:=Int.le_antisymm h' hg
  rw [Int.zero_mul] at h
  exact absurd (Int.lt_of_le_of_lt hU h) (Int.lt_irrefl 0)
theorem kn_nonneg {P v1 v2 vl:Int} (hP:0<P) (h1:0≤v1) (h2:0≤v2) (hl:0≤vl):0≤v1*1000000000*P+v2*P+vl:=by
 have k1:=Int.mul_nonneg (Int.mul_nonneg h1 (show (0:Int)≤1000000000 by omega)) (Int.le_of_lt hP)
 have k2:=Int.mul_nonneg h2 (Int.le_of_lt hP)
 generalize v1*1000000000*P=a at *
 generalize v2*P=b at *
 omega
theorem w_ru {r u:Int} (hr:0≤r∧r<1000000000) (hu:0≤u∧u<1000000000):w64 (r*1000000000)=r*1000000000∧w64 (r*1000000000+u)=r*1000000000+u :=
 ⟨Qae (by omega) (by omega),Qae (by omega) (by omega)⟩
theorem w_dec {g r v:Int} (hg:1≤g∧g<1000000000000000000) (hr:0≤r∧r<1000000000) (hv:0≤v∧v<1000000000):w64 (g-1)=g-1∧w64 (r+v)=r+v :=
 ⟨Qae (by omega) (by omega),Qae (by omega) (by omega)⟩
theorem lg_ix {p L j:Nat} (hj:j+p+2<L) (hL:L<4611686018427387904):w64 (((p+2:Nat):Int)-2)=(p:Int)∧w64 ((j:Int)+((p+2:Nat):Int))=((j+p+2:Nat):Int) ∧
    w64 (((j+p+2:Nat):Int)-2)=((j+p:Nat):Int)∧((0:Int)≤((j+p:Nat):Int)∧((j+p:Nat):Int)<((L:Nat):Int))∧j+p<L:=by
  refine ⟨?_, ?_, ?_,by omega,by omega⟩<;>rw [Qae (by omega) (by omega)]<;>omega
theorem lg_ix2 {p L j:Nat} (hj:j+p+2<L) (hL:L<4611686018427387904):w64 (((p+2:Nat):Int)-1)=((p+1:Nat):Int):=by
 rw [Qae (by omega) (by omega)];omega
variable [Its]

section
variable (s:Int) (dv:D) (p L M j:Nat) (u q v:List Int)
def Qk2 (g r:Int):St:=mkS [(6,ai s),(7,.own [32] L),(8,.d dv),(9,ai ((p+2:Nat):Int)),(10,.own [46] M),(11,ai (j:Int)),(13,ai g),(14,ai r)] [([32],arrI L u),([46],arrI M q)]
def Qis (g:Int):St:=mkS [(6,ai s),(7,.own [32] L),(8,.d dv),(9,ai ((p+2:Nat):Int)),(10,.own [46] M),(11,ai (j:Int)),(13,ai g)] [([32],arrI L u),([46],arrI M q)]

variable (hrv:Rw dv v) (hv:Dig v) (hu:Dig u) (hvl:v.length=p+2) (hul:u.length=L) (hj:j+p+2<L) (hL:L<4611686018427387904)
include hrv hv hu hvl hul hj hL

theorem lg_stop {g r:Int} (hg:0≤g∧g<1000000000) (hr:0≤r∧r<1000000000) (ht:¬ g*v.getD p 0>r*1000000000+u.getD (j+p) 0) :
    X G Qbl (Qk2 s dv p L M j u q g r)=some (.x 2,Qis s dv p L M j u q g):=by
  have e7:decide (g*v.getD p 0>r*1000000000+u.getD (j+p) 0)=false:=decide_eq_false ht
  have e1:decide (g≥1000000000)=false:=ge_f (Int.not_le.2 hg.2)
  have e2:=hrv.ixn (j:=p) (hvl ▸ Nat.lt_add_of_pos_right (by decide))
  have e3:=fun hp=>ldv hp v (j:=p) (hvl ▸ Nat.lt_add_of_pos_right (by decide))
  obtain ⟨e5,e6⟩:=w_ru hr (hu.getD (j+p))
  obtain ⟨i1,i2,i3,i4,i5'⟩:=lg_ix hj hL
  have i5:=Qb8 (l:=u) (off:=j+p) (hul ▸ i5')
  have e4:=kn_wrap hg (hv.getD p)
  simp -implicitDefEqProofs (maxSteps:=9^8) only [Qbl,Qk2,Qis,go_sem,iv,bv,e1,e2,e3,e4,e5,e6,e7,i1,i2,i3,i4,i5,Qak,reduceCtorEq,↓reduceIte,Nat.reduceEqDiff]

theorem lg_more {g r:Int} (hg:1≤g∧g<1000000000000000000) (hr:0≤r∧r<1000000000) (ht:g≥1000000000∨g*v.getD p 0>r*1000000000+u.getD (j+p) 0) :
    X G Qbl (Qk2 s dv p L M j u q g r)=if r+v.getD (p+1) 0≥1000000000 then some (.x 2,Qis s dv p L M j u q (g-1)) else some (.n,Qk2 s dv p L M j u q (g-1) (r+v.getD (p+1) 0)):=by
  obtain ⟨f1,f2⟩:=w_dec hg hr (hv.getD (p+1))
  have f3:w64 (((p+2:Nat):Int)-1)=((p+1:Nat):Int):=(lg_ix2 hj hL)
  have f4:=hrv.ixn (j:=p+1) (hvl ▸ Nat.lt_succ_self _)
  have f5:=fun hp=>ldv hp v (j:=p+1) (hvl ▸ Nat.lt_succ_self _)
  by_cases h1:g≥1000000000
  · have e1:decide (g≥1000000000)=true:=ge_t h1
    by_cases h2:r+v.getD (p+1) 0≥1000000000
    · have e2:decide (r+v.getD (p+1) 0≥1000000000)=true:=ge_t h2
      rw [if_pos h2]
      simp -implicitDefEqProofs (maxSteps:=9^8) only [Qbl,Qk2,Qis,go_sem,iv,bv,e1,e2,f1,f2,f3,f4,f5,Qak,reduceCtorEq,↓reduceIte,Nat.reduceEqDiff]
    · have e2:decide (r+v.getD (p+1) 0≥1000000000)=false:=ge_f h2
      rw [if_neg h2]
      simp -implicitDefEqProofs (maxSteps:=9^8) only [Qbl,Qk2,Qis,go_sem,iv,bv,e1,e2,f1,f2,f3,f4,f5,Qak,reduceCtorEq,↓reduceIte,Nat.reduceEqDiff]
  · have e7:decide (g*v.getD p 0>r*1000000000+u.getD (j+p) 0)=true:=decide_eq_true (ht.resolve_left h1)
    have e1:decide (g≥1000000000)=false:=ge_f h1
    have e2:=hrv.ixn (j:=p) (hvl ▸ Nat.lt_add_of_pos_right (by decide))
    have e3:=fun hp=>ldv hp v (j:=p) (hvl ▸ Nat.lt_add_of_pos_right (by decide))
    obtain ⟨e5,e6⟩:=w_ru hr (hu.getD (j+p))
    obtain ⟨i1,i2,i3,i4,i5'⟩:=lg_ix hj hL
    have i5:=Qb8 (l:=u) (off:=j+p) (hul ▸ i5')
    have e4:=kn_wrap (g:=g) ⟨Int.le_trans (by decide) hg.1,Int.not_le.1 h1⟩ (hv.getD p)
    by_cases h2:r+v.getD (p+1) 0≥1000000000
    · have e8:decide (r+v.getD (p+1) 0≥1000000000)=true:=ge_t h2
      rw [if_pos h2]
      simp -implicitDefEqProofs (maxSteps:=9^8) only [Qbl,Qk2,Qis,go_sem,iv,bv,e1,e2,e3,e4,e5,e6,e7,e8,f1,f2,f3,f4,f5,i1,i2,i3,i4,i5,Qak,reduceCtorEq,↓reduceIte,Nat.reduceEqDiff]
    · have e8:decide (r+v.getD (p+1) 0≥1000000000)=false:=ge_f h2
      rw [if_neg h2]
      simp -implicitDefEqProofs (maxSteps:=9^8) only [Qbl,Qk2,Qis,go_sem,iv,bv,e1,e2,e3,e4,e5,e6,e7,e8,f1,f2,f3,f4,f5,i1,i2,i3,i4,i5,Qak,reduceCtorEq,↓reduceIte,Nat.reduceEqDiff]

theorem lg_loop {P vl ul u0 u1:Int} (hP:0<P) (h1:0<v.getD (p+1) 0) (hvl':0≤vl∧vl<P) (hul':0≤ul∧ul<P)
    (hU:(u0*1000000000+u1)*1000000000*P+u.getD (j+p) 0*P+ul<1000000000*(v.getD (p+1) 0*1000000000*P+v.getD p 0*P+vl)) (hU0:0≤(u0*1000000000+u1)*1000000000*P+u.getD (j+p) 0*P+ul):∀ (k:Nat) (g r:Int),1000000000≤r+k→(0≤g∧g<1000000000000000000)→(0≤r∧r<1000000000)→g*v.getD (p+1) 0+r=u0*1000000000+u1 →
    (u0*1000000000+u1)*1000000000*P+u.getD (j+p) 0*P+ul<(g+1)*(v.getD (p+1) 0*1000000000*P+v.getD p 0*P+vl) →
    ∃ g',X G (.loop Qbl) (Qk2 s dv p L M j u q g r)=some (.x 2,Qis s dv p L M j u q g')∧(0≤g'∧g'<1000000000) ∧
      (u0*1000000000+u1)*1000000000*P+u.getD (j+p) 0*P+ul<(g'+1)*(v.getD (p+1) 0*1000000000*P+v.getD p 0*P+vl) ∧
      (g'-1)*(v.getD (p+1) 0*1000000000*P+v.getD p 0*P+vl)≤(u0*1000000000+u1)*1000000000*P+u.getD (j+p) 0*P+ul
  | 0,g,r,hk,hg,hr,hgr,hlt=>by
    exfalso
    clear hlt hU hU0 hgr
    omega
  | k+1,g,r,hk,hg,hr,hgr,hlt=>by
    have b1:=hv.getD (p+1)
    have b2:=hv.getD p
    have b3:=hu.getD (j+p)
    have hnn:=kn_nonneg hP b1.1 b2.1 hvl'.1
    have arith:∀ {g':Int},1≤g→g'=g-1→1000000000≤(r+v.getD (p+1) 0)+(k:Int)∧(0≤g'∧g'<1000000000000000000)∧0≤r+v.getD (p+1) 0:=by
      intro g' h1 h2
      clear hlt hU hU0 hgr hnn
      omega
    by_cases ht:g≥1000000000∨g*v.getD p 0>r*1000000000+u.getD (j+p) 0
    · -- more than the digit
      have hmore:(u0*1000000000+u1)*1000000000*P+u.getD (j+p) 0*P+ul<g*(v.getD (p+1) 0*1000000000*P+v.getD p 0*P+vl):=by
        rcases ht with ht | ht
        · exact Int.lt_of_lt_of_le hU (Int.mul_le_mul_of_nonneg_right ht hnn)
        · exact kn_more hP hvl'.1 hul'.2 hg.1 hgr ht
      have hg1:1≤g:=kn_pos hmore hU0 hg.1
      have hx:=lg_more s dv p L M j u q v hrv hv hu hvl hul hj hL ⟨hg1,hg.2⟩ hr ht
      have hgr':(g-1)*v.getD (p+1) 0+(r+v.getD (p+1) 0)=u0*1000000000+u1:=by rw [← hgr,Int.sub_mul,Int.one_mul,← Int.add_assoc,Int.add_right_comm,Int.sub_add_cancel]
      obtain ⟨a1,a2,a3⟩:=arith hg1 rfl
      have hlt':(u0*1000000000+u1)*1000000000*P+u.getD (j+p) 0*P+ul<(g-1+1)*(v.getD (p+1) 0*1000000000*P+v.getD p 0*P+vl):=by rw [Int.sub_add_cancel];exact hmore
      by_cases h2:r+v.getD (p+1) 0≥1000000000
      · rw [if_pos h2] at hx
        have hd:=kn_digit hP h1 b2 hvl' hul'.1 b3.1 hU hgr' h2
        have hst:=kn_stop (u2:=u.getD (j+p) 0) (ul:=ul) hP h1 b2.1 hvl' hul'.1 (g:=g-1) ⟨a2.1,hd⟩ hgr' (kn_small ⟨a2.1,hd⟩ b2 h2 b3.1)
        exact ⟨g-1,by rw [Qag,hx];rfl,⟨a2.1,hd⟩,hlt',hst⟩
      · rw [if_neg h2] at hx
        obtain ⟨g',i1,i2⟩:=lg_loop hP h1 hvl' hul' hU hU0 k (g-1) (r+v.getD (p+1) 0) a1 a2 ⟨a3,Int.not_le.1 h2⟩ hgr' hlt'
        exact ⟨g',by rw [Qag,hx];exact i1,i2⟩
    · have hg2 : g < 1000000000 := by
        rcases Int.lt_or_le g 1000000000 with h | h
        · exact h
        · exact absurd (.inl h) ht
      have ht2:¬ g*v.getD p 0>r*1000000000+u.getD (j+p) 0:=fun h=>ht (.inr h)
      have hx:=lg_stop s dv p L M j u q v hrv hv hu hvl hul hj hL ⟨hg.1,hg2⟩ hr ht2
      have hst:=kn_stop (u2:=u.getD (j+p) 0) (ul:=ul) hP h1 b2.1 hvl' hul'.1 (g:=g) ⟨hg.1,hg2⟩ hgr (Int.not_lt.1 ht2)
      exact ⟨g,by rw [Qag,hx];rfl,⟨hg.1,hg2⟩,hlt,hst⟩
end
end Go.AM

