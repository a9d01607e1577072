/- Part 4 of the proof: a small machine, its soundness against the model, and what the program's functions compute on it. -/
import Derived.Test.YtbbemgfheagobaaGreatM0
import Derived.Test.YtbbemgfheagobaaGreatProg
import Derived.KernelRfl
import Derived.Test.YtbbemgfheagobaaGreatM3
import Derived.RowKit
set_option linter.unusedVariables false
set_option linter.unusedSimpArgs false
set_option maxRecDepth 100000
namespace Go.AM
open Go Go.Proofs
@[go_sem] abbrev oA (n : Nat) (i : I) : O := ⟨some n,i,none⟩
@[go_sem] abbrev oM (n m : Nat) : O := ⟨some n,.mov (.t m),none⟩
@[go_sem] abbrev oL (n k m : Nat) : O := ⟨some n,.load (some k) (.t m),none⟩
@[go_sem] abbrev oG (n g : Nat) (b : Bool) (i : I) : O := ⟨some n,i,some (g,b)⟩
@[go_sem] abbrev oBb (n : Nat) (o : BinOp) (a b : Nat) : O := ⟨some n,.bin o (.t a) (.t b),none⟩
@[go_sem] abbrev oJ (n f : Nat) (l : List Nat) : O := ⟨some n,.call f (l.map .t) false,none⟩
@[go_sem] abbrev oNn (n k a : Nat) : O := ⟨some n,.fad k (.t a),none⟩
@[go_sem] abbrev oQq (n a : Nat) : O := ⟨some n,.len (.t a),none⟩
@[go_sem] abbrev oDd (n a : Nat) : O := ⟨some n,.load none (.t a),none⟩
@[go_sem] abbrev oXx (n k a b : Nat) : O := ⟨some n,.ixa k (.t a) (.t b),none⟩
@[go_sem] abbrev oEe (n a : Nat) : O := ⟨some n,.box (.t a),none⟩
@[go_sem] abbrev oPp (k a b : Nat) : O := ⟨none,.store k (.t a) (.t b),none⟩
@[go_sem] abbrev oHh (n g : Nat) (b : Bool) (m : Nat) : O := ⟨some n,.mov (.t m),some (g,b)⟩
@[go_sem] abbrev oC (n : Int) : E := .c (.v (.int .i64 n))
@[go_sem] abbrev oZ4 : List D := [.v (.bool false),.z true,.v (.bool false),.z true]
@[go_sem] abbrev oZ8 : List D := [.v (.bool false),.z true,.v (.bool false),.z true,.v (.bool false),.z true,.v (.bool false),.z true]
@[go_sem] abbrev oI2 : List D := [.v (.int .i64 0),.v (.int .i64 0)]
@[go_sem] abbrev oR (o : List O) (a : List Nat) (b : List Key) : C := .seq (.reg o []) (.keep a b)
abbrev QfT : Nat := 9
abbrev QfG : Nat := 10
abbrev Qbk : Nat := 11
abbrev QaM : Nat := 12
abbrev QfX : Nat := 14
abbrev QbY : Nat := 15
abbrev QfA : Nat := 16
abbrev QdV : Nat := 18
abbrev Qe1 : Nat := 19
abbrev Qdy : Nat := 21
abbrev Qbw : Nat := 22
abbrev QcR : Nat := 23
abbrev Qem : Nat := 24
abbrev Qau : Nat := 25
abbrev QcY : Nat := 26
abbrev Qax : Nat := 27
abbrev QhQ : Nat := 28
abbrev Qgq : Nat := 29
abbrev Qda : Nat := 30
abbrev Qhs : Nat := 31
abbrev QaF : Nat := 32
abbrev QfQ : Nat := 33
abbrev QfB : Nat := 35
abbrev QeN : Nat := 41
abbrev Qc5 : Nat := 42
abbrev QfE : Nat := 47
abbrev Qb8 : Nat := 48
abbrev QgB : Nat := 49
abbrev Qj8 : Nat := 50
abbrev QdF : Nat := 51
abbrev QgT : Nat := 52
abbrev QdN : Nat := 53
abbrev QiD : Nat := 54
abbrev QiI : Nat := 55
abbrev Qe4 : Nat := 56
abbrev Qgl : Nat := 57
abbrev QfR : Nat := 58
abbrev Qby : Nat := 60
abbrev QcP : Nat := 61
abbrev Qa4 : Nat := 62
abbrev Qa5 : Nat := 63
abbrev Qc0 : Nat := 64
abbrev Qfu : Nat := 65
abbrev QcL : Nat := 66
abbrev Qeh : Nat := 67
abbrev QbA : Nat := 68
abbrev QgU : Nat := 69
abbrev Qhr : Nat := 70
abbrev Qew : Nat := 71
abbrev QeG : Nat := 72
abbrev QcF : Nat := 73
abbrev Qft : Nat := 74
abbrev Qgx : Nat := 75
abbrev Qf7 : Nat := 76
abbrev Qf0 : Nat := 77
abbrev QfW : Nat := 78
abbrev Qgn : Nat := 79
abbrev Qdb : Nat := 80
abbrev Qiy : Nat := 81
abbrev Qa6 : Nat := 84
abbrev Qfj : Nat := 85
abbrev Qfi : Nat := 90
abbrev Qh8 : Nat := 91
abbrev Qb9 : Nat := 92
abbrev QfM : Nat := 93
abbrev Qdo : Nat := 94
abbrev Qe2 : Nat := 95
abbrev Qek : Nat := 96
abbrev QdD : Nat := 97
abbrev QbM : Nat := 98
abbrev QgZ : Nat := 99
abbrev Qgg : Nat := 100
abbrev Qbb : Nat := 101
abbrev Qal : Nat := 102
abbrev Qgp : Nat := 103
abbrev Qc4 : Nat := 104
abbrev Qgo : Nat := 105
abbrev QfH : Nat := 106
abbrev Qb7 : Nat := 107
abbrev QoH : Nat := 108
abbrev QbU : Nat := 109
abbrev QaC : Nat := 110
abbrev Qao : Nat := 111
abbrev Qag : Nat := 114
abbrev QjJ : Nat := 115
abbrev Qoy : Nat := 116
abbrev Qcl : Nat := 117
abbrev Qbt : Nat := 118
abbrev Qbn : Nat := 119
abbrev Qdn : Nat := 120
abbrev QdM : Nat := 121
abbrev Qi2 : Nat := 122
abbrev QgR : Nat := 123
abbrev Qbv : Nat := 124
abbrev QeD : Nat := 125
abbrev QbF : Nat := 126
abbrev Qen : Nat := 127
abbrev QdS : Nat := 128
abbrev QeP : Nat := 129
abbrev Qdv : Nat := 130
abbrev QfC : Nat := 131
abbrev Qfd : Nat := 132
abbrev Qh4 : Nat := 133
abbrev QeS : Nat := 134

def QaV : C :=
 .seq (.seq (.seq (oR [oM 45 18,oA 46 (.bin .lss (.t 45) (oC 2))] [11,12,14,15,16,17,18,46] [[14],[15],[16]]) <| .cond (.t 46) (.skip) <| .seq (.keep [11,12,14,16] [[14],[16]]) <| .exit 0) <| .seq (.seq (.blk 1 <| .seq (oR [oM 49 17,oM 50 18,oXx 51 1 49 50,oDd 52 51,oL 53 4 14,oL 54 4 15,oJ 55 Qau [52,53,54],oM 56 17,oM 57 18,oXx 58 1 56 57,oDd 59 58,oL 60 4 15,oL 61 4 16,oJ 62 Qau [59,60,61],oBb 63 .add 55 62,oM 64 17,oM 65 18,oXx 66 1 64 65,oDd 67 66,oL 68 4 14,oL 69 4 16,oJ 70 Qau [67,68,69],oBb 71 .neq 63 70] [11,12,14,15,16,17,18,71] [[14],[15],[16]]) <| .cond (.t 71) (.seq (oR [oA 10 (.mov (.c (.v (.bool false))))] [10] []) <| .ret) <| .skip) <| .keep [11,12,14,15,16,17,18] [[14],[15],[16]]) <| oR [oM 47 18,oA 48 (.bin .add (.t 47) (oC 1)),oM 18 48] [11,12,14,15,16,17,18] [[14],[15],[16]]) <| .keep [11,12,14,15,16,17,18] [[14],[15],[16]]
def Qbc : CF := ⟨5,.seq (oR [oA 10 (.mov (.c (.v (.bool false))))] [0,1,2,3,4] []) <| .seq (oR [oM 22 0,oJ 23 QfT [22],oM 11 23] [1,2,3,4,11] []) <| .seq (oR [oM 25 1,oM 26 4,oJ 27 QfG [25,26],oM 24 27,oA 28 (.ext (.t 24) 0),oA 29 (.ext (.t 24) 1),oM 12 28,oM 13 29] [2,3,4,11,12] []) <| .seq (oR [oM 30 2,oJ 31 Qbk [30],oA 14 (.new oZ4),oPp 4 14 31] [3,4,11,12,14] [[14]]) <| .seq (oR [oL 32 4 14,oM 33 3,oA 34 (.call Qbw [(.t 33),(oC 30)] false),oA 35 (.call Qax [(.t 34),(oC 4)] false),oJ 36 QcY [32,35],oA 15 (.new oZ4),oPp 4 15 36] [4,11,12,14,15] [[14],[15]]) <| .seq (oR [oL 37 4 15,oM 38 4,oA 39 (.call Qbw [(.t 38),(oC 30)] false),oA 40 (.call Qax [(.t 39),(oC 4)] false),oJ 41 QcY [37,40],oA 16 (.new oZ4),oPp 4 16 41] [11,12,14,15,16] [[14],[15],[16]]) <| .seq (oR [oM 42 11,oM 43 12,oA 44 (.lit 1 2 [.z true] [(0,(.t 42)),(1,(.t 43))] true),oM 17 44] [11,12,14,15,16,17] [[14],[15],[16]]) <| .seq (.seq (oR [oA 18 (.mov (oC 0))] [11,12,14,15,16,17,18] [[14],[15],[16]]) <| .seq (.blk 0 <| .seq (.keep [11,12,14,15,16,17,18] [[14],[15],[16]]) <| .loop QaV) <| .keep [11,12,14,16] [[14],[16]]) <| .seq (oR [oM 72 11,oM 73 12,oJ 74 QhQ [72,73],oM 19 74] [11,12,14,16,19] [[14],[16]]) <| .seq (oR [oM 75 19,oL 76 4 14,oL 77 4 16,oJ 78 Qau [75,76,77],oM 20 78] [11,12,14,16,20] [[14],[16]]) <| .seq (oR [oM 79 11,oL 80 4 14,oL 81 4 16,oJ 82 Qau [79,80,81],oM 83 12,oL 84 4 14,oL 85 4 16,oJ 86 Qau [83,84,85],oBb 87 .add 82 86,oM 21 87] [11,12,20,21] []) <| .seq (.seq (oR [oM 88 11,oQq 89 88,oA 90 (.bin .eql (.t 89) (oC 0))] [11,12,20,21,90] []) <| .cond (.t 90) (.seq (oR [oM 91 20,oA 92 (.bin .eql (.t 91) (oC 0)),oM 93 92,oG 94 93 true (.call Qdy [] false),oA 95 (.pick (.t 93) (.t 94) (.c (.v (.bool false)))),oM 10 95] [10] []) <| .ret) <| .skip) <| .seq (oR [oM 96 20,oM 97 21,oBb 98 .leq 96 97,oM 99 98,oHh 100 99 true 11,oHh 101 99 true 12,oG 102 99 true (.call Qgq [.t 100,.t 101] false),oG 103 99 true (.len (.t 102)),oG 104 99 true (.bin .neq (.t 103) (oC 1)),oHh 105 99 true 104,oHh 106 105 false 20,oHh 107 105 false 21,oG 108 105 false (.bin .eql (.t 106) (.t 107)),oG 109 99 true (.pick (.t 105) (.c (.v (.bool true))) (.t 108)),oA 110 (.pick (.t 99) (.t 109) (.c (.v (.bool false)))),oM 111 110,oG 112 111 true (.call Qdy [] false),oA 113 (.pick (.t 111) (.t 112) (.c (.v (.bool false)))),oM 10 113] [10] []) <| .ret,[.t 10]⟩

def QaI : C :=
 .seq (.seq (.seq (oR [oM 11 4,oM 12 0,oQq 13 12,oBb 14 .lss 11 13,oM 15 14,oHh 16 15 true 4,oG 17 15 true (.bin .lss (.t 16) (oC 6)),oA 18 (.pick (.t 15) (.t 17) (.c (.v (.bool false))))] [0,3,4,18] [[28]]) <| .cond (.t 18) (.skip) <| .seq (.keep [3] [[28]]) <| .exit 0) <| .seq (.seq (.blk 1 <| oR [oM 21 3,oM 22 0,oM 23 4,oXx 24 1 22 23,oDd 25 24,oJ 26 Qbk [25],oA 27 (.lit 4 1 oZ4 [(0,(.t 26))] true),oA 28 (.app 4 64 (.t 21) (.t 27) false),oM 3 28] [0,3,4] [[28]]) <| .keep [0,3,4] [[28]]) <| oR [oM 19 4,oA 20 (.bin .add (.t 19) (oC 1)),oM 4 20] [0,3,4] [[28]]) <| .keep [0,3,4] [[28]]
def QaH : C :=
 .seq (.seq (.seq (oR [oM 37 6,oM 38 0,oQq 39 38,oBb 40 .lss 37 39,oM 41 40,oHh 42 41 true 6,oG 43 41 true (.bin .lss (.t 42) (oC 5)),oA 44 (.pick (.t 41) (.t 43) (.c (.v (.bool false))))] [0,5,6,44] []) <| .cond (.t 44) (.skip) <| .seq (.keep [5] []) <| .exit 2) <| .seq (.seq (.blk 3 <| .seq (oR [oM 47 0,oM 48 6,oXx 49 1 47 48,oDd 50 49,oJ 51 Qbk [50],oJ 52 Qem [51],oA 53 (.call Qax [(oC 1),(oC 1)] false),oA 54 (.lit 4 2 oZ4 [(0,(.t 52)),(1,(.t 53))] true),oM 7 54] [0,5,6,7] []) <| .seq (.seq (oR [oM 55 0,oM 56 6,oXx 57 1 55 56,oDd 58 57,oA 59 (.bin .rem (.t 58) (oC 7)),oA 60 (.bin .eql (.t 59) (oC 3)),oM 61 60,oHh 62 61 true 6,oG 63 61 true (.bin .lss (.t 62) (oC 4)),oA 64 (.pick (.t 61) (.t 63) (.c (.v (.bool false)))),oM 65 64,oHh 66 65 true 5,oG 67 65 true (.len (.t 66)),oG 68 65 true (.bin .lss (.t 67) (oC 4)),oA 69 (.pick (.t 65) (.t 68) (.c (.v (.bool false))))] [0,5,6,7,69] []) <| .cond (.t 69) (oR [oM 70 0,oM 71 6,oXx 72 1 70 71,oDd 73 72,oA 74 (.bin .quo (.t 73) (oC 7)),oJ 75 Qbk [74],oM 76 0,oM 77 6,oXx 78 1 76 77,oDd 79 78,oA 80 (.bin .quo (.t 79) (oC 3)),oJ 81 Qbk [80],oA 82 (.call Qax [(oC 1),(oC 1)] false),oA 83 (.lit 4 3 oZ4 [(0,(.t 75)),(1,(.t 81)),(2,(.t 82))] true),oM 7 83] [0,5,6,7] []) <| .skip) <| oR [oM 84 5,oM 85 7,oJ 86 QaM [85],oJ 87 Qc5 [84,86],oM 5 87] [0,5,6] []) <| .keep [0,5,6] []) <| oR [oM 45 6,oA 46 (.bin .add (.t 45) (oC 1)),oM 6 46] [0,5,6] []) <| .keep [0,5,6] []
def QcB : CF := ⟨1,.seq (oR [oA 2 (.mov (.c (.z true)))] [0] []) <| .seq (.seq (oR [oM 8 0,oA 9 (.call QeN [(.t 8),(oC 0),(oC 3)] false),oA 10 (.bin .eql (.t 9) (oC 0))] [0,10] []) <| .cond (.t 10) (.seq (oR [oA 3 (.mov (.c (.z true)))] [0,3] [[28]]) <| .seq (.seq (oR [oA 4 (.mov (oC 1))] [0,3,4] [[28]]) <| .seq (.blk 0 <| .seq (.keep [0,3,4] [[28]]) <| .loop QaI) <| .keep [3] [[28]]) <| .seq (.seq (.frz 3) <| oR [oM 29 3,oJ 30 QaM [29],oM 2 30] [2] []) <| .ret) <| .skip) <| .seq (oR [oM 31 0,oA 32 (.call QeN [(.t 31),(oC 1),(oC 5)] false),oA 33 (.bin .add (oC 1) (.t 32)),oA 34 (.call Qax [(.t 33),(oC 1)] false),oA 35 (.lit 4 1 oZ4 [(0,(.t 34))] true),oJ 36 QaM [35],oM 5 36] [0,5] []) <| .seq (.seq (oR [oA 6 (.mov (oC 2))] [0,5,6] []) <| .seq (.blk 2 <| .seq (.keep [0,5,6] []) <| .loop QaH) <| .keep [5] []) <| .seq (oR [oM 88 5,oM 2 88] [2] []) <| .ret,[.t 2]⟩

def Qbi : C :=
 .seq (.seq (.seq (oR [oM 37 10,oM 38 7,oQq 39 38,oBb 40 .lss 37 39,oM 41 40,oHh 42 41 true 7,oHh 43 41 true 10,oHh 44 41 true 7,oG 45 41 true (.len (.t 44)),oG 46 41 true (.bin .sub (.t 45) (oC 1)),oG 47 41 true (.mn [.t 43,.t 46]),oG 48 41 true (.ixa 4 (.t 42) (.t 47)),oG 49 41 true (.load (some 4) (.t 48)),oG 50 41 true (.load (some 4) (.t 9)),oG 51 41 true (.call QcR [.t 49,.t 50] false),oG 52 41 true (.bin .lss (.t 51) (oC 0)),oA 53 (.pick (.t 41) (.t 52) (.c (.v (.bool false))))] [0,1,6,7,8,9,10,53] [[9],[77],[80],[85]]) <| .cond (.t 53) (.skip) <| .seq (.keep [0,1,6,7,8,9,10] [[9],[77],[80],[85]]) <| .exit 2) <| .seq (.blk 3 <| oR [oM 54 10,oA 55 (.bin .add (.t 54) (oC 1)),oM 10 55] [0,1,6,7,8,9,10] [[9],[77],[80],[85]]) <| .keep [0,1,6,7,8,9,10] [[9],[77],[80],[85]]) <| .keep [0,1,6,7,8,9,10] [[9],[77],[80],[85]]
def Qaw : C :=
 .seq (.seq (.seq (oR [oM 15 8,oM 16 0,oQq 17 16,oBb 18 .lss 15 17,oM 19 18,oHh 20 19 true 8,oG 21 19 true (.bin .lss (.t 20) (oC 4)),oA 22 (.pick (.t 19) (.t 21) (.c (.v (.bool false))))] [0,1,6,7,8,22] [[77],[80],[85]]) <| .cond (.t 22) (.skip) <| .seq (.keep [1,6,7] [[77],[80],[85]]) <| .exit 0) <| .seq (.seq (.blk 1 <| .seq (oR [oM 25 0,oM 26 8,oXx 27 1 25 26,oDd 28 27,oJ 29 Qbk [28],oA 9 (.new oZ4),oPp 4 9 29] [0,1,6,7,8,9] [[9],[77],[80],[85]]) <| .seq (oR [oM 30 6,oL 31 4 9,oJ 32 Qem [31],oA 33 (.call Qax [(oC 1),(oC 1)] false),oA 34 (.lit 4 2 oZ4 [(0,(.t 32)),(1,(.t 33))] true),oJ 35 QaM [34],oJ 36 Qc5 [30,35],oM 6 36] [0,1,6,7,8,9] [[9],[77],[80],[85]]) <| .seq (oR [oA 10 (.mov (oC 0))] [0,1,6,7,8,9,10] [[9],[77],[80],[85]]) <| .seq (.seq (.blk 2 <| .seq (.keep [0,1,6,7,8,9,10] [[9],[77],[80],[85]]) <| .loop Qbi) <| .keep [0,1,6,7,8,9,10] [[9],[77],[80],[85]]) <| .seq (.seq (oR [oM 56 10,oM 57 7,oQq 58 57,oBb 59 .lss 56 58,oM 60 59,oHh 61 60 true 7,oHh 62 60 true 10,oHh 63 60 true 7,oG 64 60 true (.len (.t 63)),oG 65 60 true (.bin .sub (.t 64) (oC 1)),oG 66 60 true (.mn [.t 62,.t 65]),oG 67 60 true (.ixa 4 (.t 61) (.t 66)),oG 68 60 true (.load (some 4) (.t 67)),oG 69 60 true (.load (some 4) (.t 9)),oG 70 60 true (.call QcR [.t 68,.t 69] false),oG 71 60 true (.bin .eql (.t 70) (oC 0)),oA 72 (.pick (.t 60) (.t 71) (.c (.v (.bool false))))] [0,1,6,7,8,9,10,72] [[9],[77],[80],[85]]) <| .cond (.t 72) (.seq (.keep [0,1,6,7,8] [[77],[80],[85]]) <| .exit 1) <| .skip) <| .seq (oR [oA 11 (.mov (.c (.z true)))] [0,1,6,7,8,9,10,11] [[9],[77],[80],[85]]) <| .seq (.seq (.reg [oM 73 11,oM 74 7,oM 75 10,oA 76 (.slc 4 (.t 74) none (some (.t 75)) none),oA 77 (.app 4 64 (.t 73) (.t 76) false),oL 78 4 9,oA 79 (.lit 4 1 oZ4 [(0,(.t 78))] true),oA 80 (.app 4 64 (.t 77) (.t 79) false),oM 11 80] [((.t 9),0,(.t 9),0),((.t 78),0,(.t 78),0)]) <| .keep [0,1,6,7,8,10,11] [[77],[80],[85]]) <| oR [oM 81 11,oM 82 7,oM 83 10,oA 84 (.slc 4 (.t 82) (some (.t 83)) none none),oA 85 (.app 4 64 (.t 81) (.t 84) true),oM 7 85] [0,1,6,7,8] []) <| .keep [0,1,6,7,8] [[77],[80],[85]]) <| oR [oM 23 8,oA 24 (.bin .add (.t 23) (oC 1)),oM 8 24] [0,1,6,7,8] [[77],[80],[85]]) <| .keep [0,1,6,7,8] [[77],[80],[85]]
def Qds : CF := ⟨2,.seq (oR [oA 4 (.mov (.c (.z true))),oA 5 (.mov (.c (.z true)))] [0,1] []) <| .seq (oR [oA 12 (.call Qax [(oC 2),(oC 3)] false),oA 13 (.lit 4 1 oZ4 [(0,(.t 12))] true),oJ 14 QaM [13],oM 6 14] [0,1,6] []) <| .seq (oR [oA 7 (.mov (.c (.z true)))] [0,1,6,7] [[77],[80],[85]]) <| .seq (.seq (oR [oA 8 (.mov (oC 0))] [0,1,6,7,8] [[77],[80],[85]]) <| .seq (.blk 0 <| .seq (.keep [0,1,6,7,8] [[77],[80],[85]]) <| .loop Qaw) <| .keep [1,6,7] [[77],[80],[85]]) <| .seq (.seq (oR [oM 86 1,oA 87 (.bin .rem (.t 86) (oC 2)),oA 88 (.bin .neq (.t 87) (oC 0))] [6,7,88] [[77],[80],[85]]) <| .cond (.t 88) (oR [oM 89 6,oA 90 (.call Qax [(oC 1),(oC 1)] false),oA 91 (.build oZ4 []),oA 92 (.call Qax [(oC 1),(oC 1)] false),oA 93 (.lit 4 3 oZ4 [(0,(.t 90)),(1,(.t 91)),(2,(.t 92))] true),oJ 94 QaM [93],oJ 95 Qc5 [89,94],oM 6 95] [6,7] [[77],[80],[85]]) <| .skip) <| .seq (oR [oM 96 6,oM 97 7,oM 4 96,oM 5 97] [4,5] [[77],[80],[85]]) <| .ret,[.t 4,.t 5]⟩

def Qeb : CF := ⟨1,.seq (oR [oA 2 (.new oZ4)] [0,2] [[2]]) <| .seq (oR [oM 4 0,oA 5 (.call Qbw [(.t 4),(oC 105)] false),oM 3 5] [2,3] [[2]]) <| .seq (oR [oM 6 3,oA 7 (.bin .rem (.t 6) (oC 15)),oA 8 (.bin .sub (.t 7) (oC 7)),oM 9 3,oA 10 (.bin .quo (.t 9) (oC 15)),oA 11 (.bin .rem (.t 10) (oC 4)),oA 12 (.bin .add (oC 1) (.t 11)),oJ 13 Qax [8,12],oPp 4 2 13] [2] [[2]]) <| .ret,[.cell 2 (some 4)]⟩

def QaQ : C :=
 .seq (.seq (.seq (oR [oM 7 3,oA 8 (.bin .gtr (.t 7) (oC 0)),oM 9 8,oHh 10 9 true 0,oHh 11 9 true 3,oG 12 9 true (.bin .sub (.t 11) (oC 1)),oG 13 9 true (.mx [(.t 12),(oC 0)]),oG 14 9 true (.ixa 4 (.t 10) (.t 13)),oG 15 9 true (.load (some 4) (.t 14)),oG 16 9 true (.call QfQ [.t 15] false),oG 17 9 true (.bin .eql (.t 16) (oC 0)),oA 18 (.pick (.t 9) (.t 17) (.c (.v (.bool false))))] [0,3,18] []) <| .cond (.t 18) (.skip) <| .seq (.keep [0,3] []) <| .exit 0) <| .seq (.blk 1 <| oR [oM 19 3,oA 20 (.bin .sub (.t 19) (oC 1)),oM 3 20] [0,3] []) <| .keep [0,3] []) <| .keep [0,3] []
def QcA : CF := ⟨1,.seq (oR [oA 2 (.mov (.c (.z true)))] [0] []) <| .seq (oR [oM 5 0,oQq 6 5,oM 3 6] [0,3] []) <| .seq (.seq (.blk 0 <| .seq (.keep [0,3] []) <| .loop QaQ) <| .keep [0,3] []) <| .seq (oR [oA 4 (.mov (.c (.z true)))] [0,3,4] []) <| .seq (oR [oM 21 4,oM 22 0,oM 23 3,oA 24 (.slc 4 (.t 22) none (some (.t 23)) none),oA 25 (.app 4 64 (.t 21) (.t 24) true),oM 2 25] [2] [[25]]) <| .ret,[.t 2]⟩

def QbE : C :=
 .seq (.seq (.seq (oR [oM 11 5,oM 12 0,oQq 13 12,oBb 14 .lss 11 13] [0,1,5,14] []) <| .cond (.t 14) (.skip) <| .seq (.keep [] []) <| .exit 0) <| .seq (.seq (.blk 1 <| .seq (oR [oM 17 0,oM 18 5,oXx 19 1 17 18,oDd 20 19,oM 21 1,oM 22 5,oXx 23 1 21 22,oDd 24 23,oJ 25 QfE [20,24],oA 26 (.un .not (.t 25))] [0,1,5,26] []) <| .cond (.t 26) (.seq (oR [oA 4 (.mov (.c (.v (.bool false))))] [4] []) <| .ret) <| .skip) <| .keep [0,1,5] []) <| oR [oM 15 5,oA 16 (.bin .add (.t 15) (oC 1)),oM 5 16] [0,1,5] []) <| .keep [0,1,5] []
def QeL : CF := ⟨2,.seq (oR [oA 4 (.mov (.c (.v (.bool false))))] [0,1] []) <| .seq (.seq (oR [oM 6 0,oQq 7 6,oM 8 1,oQq 9 8,oBb 10 .neq 7 9] [0,1,10] []) <| .cond (.t 10) (.seq (oR [oA 4 (.mov (.c (.v (.bool false))))] [4] []) <| .ret) <| .skip) <| .seq (.seq (oR [oA 5 (.mov (oC 0))] [0,1,5] []) <| .seq (.blk 0 <| .seq (.keep [0,1,5] []) <| .loop QbE) <| .keep [] []) <| .seq (oR [oA 4 (.mov (.c (.v (.bool true))))] [4] []) <| .ret,[.t 4]⟩

def QbL : C :=
 .seq (.seq (.seq (oR [oM 10 4,oQq 11 10,oA 12 (.bin .gtr (.t 11) (oC 0))] [3,4,5,12] [[20]]) <| .cond (.t 12) (.skip) <| .seq (.keep [3] [[20]]) <| .exit 0) <| .seq (.seq (.blk 1 <| oR [oM 17 3,oM 18 4,oA 19 (.lit 1 1 [.z true] [(0,(.t 18))] true),oA 20 (.app 1 24 (.t 17) (.t 19) false),oM 3 20] [3,4,5] [[20]]) <| .keep [3,4,5] [[20]]) <| oR [oM 13 5,oM 14 4,oM 15 5,oJ 16 Qj8 [14,15],oM 4 13,oM 5 16] [3,4,5] [[20]]) <| .keep [3,4,5] [[20]]
def Qfs : CF := ⟨1,.seq (oR [oA 2 (.mov (.c (.z true)))] [0] []) <| .seq (oR [oA 3 (.mov (.c (.z true)))] [0,3] [[20]]) <| .seq (oR [oM 6 0,oJ 7 Qb8 [6],oM 4 7] [3,4] [[20]]) <| .seq (oR [oM 8 4,oJ 9 QgB [8],oM 5 9] [3,4,5] [[20]]) <| .seq (.seq (.blk 0 <| .seq (.keep [3,4,5] [[20]]) <| .loop QbL) <| .keep [3] [[20]]) <| .seq (oR [oM 21 3,oM 2 21] [2] [[20]]) <| .ret,[.t 2]⟩

def QbB : C :=
 .seq (.seq (oR [oBb 13 .lss 12 11] [3,5,6,10,11,12,13] [[3]]) <| .seq (.cond (.t 13) (.skip) <| .seq (.keep [5] []) <| .exit 0) <| .seq (.seq (.blk 1 <| .seq (oR [oXx 14 1 10 12,oDd 15 14,oM 8 15] [3,5,6,8,10,11,12] [[3]]) <| .seq (oR [oM 16 8,oL 17 4 3,oJ 18 QgT [16,17],oJ 19 QdF [18],oM 9 19] [3,5,6,9,10,11,12] [[3]]) <| .seq (oR [oM 20 9,oA 21 (.bin .neq (.t 20) (oC 0))] [3,5,6,9,10,11,12,21] [[3]]) <| .cond (.t 21) (.seq (.seq (oR [oM 22 9,oM 23 6,oA 24 (.un .neg (.t 23)),oBb 25 .eql 22 24] [3,5,9,10,11,12,25] [[3]]) <| .cond (.t 25) (oR [oM 26 5,oA 27 (.bin .add (.t 26) (oC 1)),oM 5 27] [3,5,9,10,11,12] [[3]]) <| .skip) <| oR [oM 28 9,oM 6 28] [3,5,6,10,11,12] [[3]]) <| .skip) <| .keep [3,5,6,10,11,12] [[3]]) <| oR [oA 29 (.bin .add (.t 12) (oC 1)),oM 12 29] [3,5,6,10,11,12] [[3]]) <| .keep [3,5,6,10,11,12] [[3]]
def QgX : CF := ⟨2,.seq (oR [oEe 3 1,oA 4 (.mov (oC 0))] [0,3] [[3]]) <| .seq (oR [oA 5 (.mov (oC 0)),oA 6 (.mov (oC 0))] [0,3,5,6] [[3]]) <| .seq (.seq (oR [oM 10 0,oQq 11 10,oA 12 (.mov (oC 0))] [3,5,6,10,11,12] [[3]]) <| .seq (.blk 0 <| .seq (.keep [3,5,6,10,11,12] [[3]]) <| .loop QbB) <| .keep [5] []) <| .seq (oR [oM 30 5,oM 4 30] [4] []) <| .ret,[.t 4]⟩

def QeR : CF := ⟨2,.seq (oR [oEe 2 0,oEe 3 1,oA 4 (.mov (.c (.v (.bool false))))] [2,3] [[2],[3]]) <| .seq (oR [oNn 5 0 2,oL 6 2 5,oNn 7 0 3,oL 8 2 7,oJ 9 QdN [6,8],oM 10 9,oG 11 10 true (.fad 2 (.t 2)),oG 12 10 true (.load (some 2) (.t 11)),oG 13 10 true (.fad 2 (.t 3)),oG 14 10 true (.load (some 2) (.t 13)),oG 15 10 true (.call QdN [.t 12,.t 14] false),oA 16 (.pick (.t 10) (.t 15) (.c (.v (.bool false)))),oM 4 16] [4] []) <| .ret,[.t 4]⟩

def Qbq : C :=
 .seq (.seq (oR [oBb 10 .lss 9 8] [0,2,3,8,9,10] [[2],[3]]) <| .seq (.cond (.t 10) (.skip) <| .seq (.keep [2,3] [[2],[3]]) <| .exit 0) <| .seq (.seq (.blk 1 <| .seq (oR [oM 11 9,oM 4 11] [0,2,3,4,8,9] [[2],[3]]) <| .seq (oR [oM 12 0,oM 13 4,oXx 14 4 12 13,oL 15 4 14,oM 16 0,oM 17 0,oQq 18 17,oA 19 (.bin .sub (.t 18) (oC 1)),oXx 20 4 16 19,oL 21 4 20,oJ 22 QiD [15,21],oA 5 (.new oZ4),oPp 4 5 22] [0,2,3,5,8,9] [[2],[3],[5]]) <| .seq (.seq (oR [oL 23 4 5,oJ 24 QdF [23],oA 25 (.bin .lss (.t 24) (oC 0))] [0,2,3,5,8,9,25] [[2],[3],[5]]) <| .cond (.t 25) (oR [oL 26 4 5,oJ 27 QiI [26],oPp 4 5 27] [0,2,3,5,8,9] [[2],[3],[5]]) <| .skip) <| .seq (oR [oL 28 4 5,oL 29 4 3,oJ 30 Qe4 [28,29],oA 31 (.bin .gtr (.t 30) (oC 0))] [0,2,3,5,8,9,31] [[2],[3],[5]]) <| .cond (.t 31) (oR [oL 32 4 5,oPp 4 3 32] [0,2,3,8,9] [[2],[3]]) <| .skip) <| .keep [0,2,3,8,9] [[2],[3]]) <| oR [oA 33 (.bin .add (.t 9) (oC 1)),oM 9 33] [0,2,3,8,9] [[2],[3]]) <| .keep [0,2,3,8,9] [[2],[3]]
def Qih : CF := ⟨1,.seq (oR [oA 2 (.new oZ4)] [0,2] [[2]]) <| .seq (oR [oA 3 (.new oZ4)] [0,2,3] [[2],[3]]) <| .seq (.seq (oR [oM 6 0,oQq 7 6,oA 8 (.bin .sub (.t 7) (oC 1)),oA 9 (.mov (oC 0))] [0,2,3,8,9] [[2],[3]]) <| .seq (.blk 0 <| .seq (.keep [0,2,3,8,9] [[2],[3]]) <| .loop Qbq) <| .keep [2,3] [[2],[3]]) <| .seq (oR [oL 34 4 3,oA 35 (.call QfR [(oC 1),(oC 1)] false),oJ 36 Qgl [34,35],oPp 4 2 36] [2] [[2]]) <| .ret,[.cell 2 (some 4)]⟩

def Qed : CF := ⟨0,.seq (oR [oA 0 (.mov (.c (.v (.bool false))))] [] []) <| .seq (oR [oA 6 (.lit 1 4 [.v (.int .i64 0)] [(0,(oC 2)),(1,(oC (-3))),(2,(oC 0)),(3,(oC 1))] true),oA 7 (.call Qby [(oC 1),(.t 6)] false),oM 1 7] [1] []) <| .seq (oR [oA 8 (.lit 1 3 [.v (.int .i64 0)] [(0,(oC (-2))),(1,(oC 1)),(2,(oC 1))] true),oA 9 (.call Qby [(oC 1),(.t 8)] false),oA 10 (.lit 1 2 [.v (.int .i64 0)] [(0,(oC 1)),(1,(oC 2))] true),oA 11 (.call Qby [(oC 1),(.t 10)] false),oA 12 (.lit 1 1 [.v (.int .i64 0)] [(0,(oC 9))] true),oA 13 (.call Qby [(oC 4),(.t 12)] false),oA 14 (.lit 1 3 [.z true] [(0,(.t 9)),(1,(.t 11)),(2,(.t 13))] true),oM 2 14] [1,2] []) <| .seq (oR [oM 15 1,oA 16 (.call QaF [(oC (-3))] false),oA 17 (.call QaF [(oC 3)] false),oJ 18 Qau [15,16,17],oA 19 (.bin .eql (.t 18) (oC 2)),oM 20 19,oHh 21 20 true 1,oG 22 20 true (.call QaF [(oC (-2))] false),oG 23 20 true (.call QaF [(oC 1)] false),oG 24 20 true (.call Qau [.t 21,.t 22,.t 23] false),oG 25 20 true (.bin .eql (.t 24) (oC 1)),oA 26 (.pick (.t 20) (.t 25) (.c (.v (.bool false)))),oM 27 26,oHh 28 27 true 1,oG 29 27 true (.call QaF [(oC 1)] false),oG 30 27 true (.call QaF [(oC 5)] false),oG 31 27 true (.call Qau [.t 28,.t 29,.t 30] false),oG 32 27 true (.bin .eql (.t 31) (oC 0)),oA 33 (.pick (.t 27) (.t 32) (.c (.v (.bool false)))),oM 3 33] [1,2,3] []) <| .seq (oR [oM 35 1,oJ 36 QfB [35],oM 34 36,oA 37 (.ext (.t 34) 0),oA 38 (.ext (.t 34) 1),oM 4 37,oM 5 38] [1,2,3,4,5] []) <| .seq (oR [oM 39 1,oJ 40 QbY [39],oM 41 2,oJ 42 QfX [40,41],oM 43 42,oHh 44 43 true 3,oA 45 (.pick (.t 43) (.t 44) (.c (.v (.bool false)))),oM 46 45,oHh 47 46 true 1,oG 48 46 true (.call Qe1 [.t 47] false),oG 49 46 true (.call QaF [(oC 4)] false),oG 50 46 true (.call QdV [.t 48,.t 49] false),oA 51 (.pick (.t 46) (.t 50) (.c (.v (.bool false)))),oM 52 51,oHh 53 52 true 1,oG 54 52 true (.call QaF [(oC (-2))] false),oG 55 52 true (.call QaF [(oC 9)] false),oG 56 52 true (.call Qda [.t 53,.t 54,.t 55] false),oA 57 (.pick (.t 52) (.t 56) (.c (.v (.bool false)))),oM 58 57,oHh 59 58 true 1,oG 60 58 true (.call QaF [(oC (-3))] false),oG 61 58 true (.call QaF [(oC 0)] false),oG 62 58 true (.call Qda [.t 59,.t 60,.t 61] false),oG 63 58 true (.un .not (.t 62)),oA 64 (.pick (.t 58) (.t 63) (.c (.v (.bool false)))),oM 65 64,oHh 66 65 true 5,oG 67 65 true (.bin .eql (.t 66) (oC 0)),oA 68 (.pick (.t 65) (.t 67) (.c (.v (.bool false)))),oM 69 68,oHh 70 69 true 4,oG 71 69 true (.len (.t 70)),oG 72 69 true (.bin .eql (.t 71) (oC 2)),oA 73 (.pick (.t 69) (.t 72) (.c (.v (.bool false)))),oM 0 73] [0] []) <| .ret,[.t 0]⟩

def QcI : CF := ⟨2,.seq (oR [oA 4 (.mov (oC 0))] [0,1] []) <| .seq (.seq (oR [oM 5 0,oA 6 (.bin .lss (.t 5) (oC 0))] [0,1,6] []) <| .cond (.t 6) (oR [oM 7 0,oA 8 (.bin .add (.t 7) (oC 1)),oA 9 (.un .neg (.t 8)),oM 0 9] [0,1] []) <| .skip) <| .seq (oR [oM 10 0,oM 11 1,oBb 12 .rem 10 11,oM 4 12] [4] []) <| .ret,[.t 4]⟩

def Qdx : CF := ⟨2,.seq (oR [oEe 2 0,oEe 3 1,oA 4 (.mov (oC 0))] [2,3] [[2],[3]]) <| .seq (oR [oNn 5 0 2,oL 6 2 5,oL 7 4 3,oJ 8 Qa5 [7],oJ 9 Qa4 [6,8],oNn 10 0 3,oL 11 2 10,oL 12 4 2,oJ 13 Qa5 [12],oJ 14 Qa4 [11,13],oJ 15 QcP [9,14],oM 4 15] [4] []) <| .ret,[.t 4]⟩

def Qe9 : CF := ⟨1,.seq (oR [oEe 1 0,oA 2 (.new oZ4)] [1,2] [[1],[2]]) <| .seq (oR [oNn 3 0 1,oL 4 2 3,oJ 5 Qc0 [4],oNn 6 2 1,oL 7 2 6,oA 8 (.build oZ4 [(0,2,(.t 5)),(2,2,(.t 7))]),oPp 4 2 8] [2] [[2]]) <| .ret,[.cell 2 (some 4)]⟩

def Qfy : CF := ⟨3,.seq (oR [oEe 4 1,oEe 5 2,oA 6 (.mov (oC 0))] [0,4,5] [[4],[5]]) <| .seq (oR [oM 7 0,oJ 8 QbY [7],oL 9 4 4,oL 10 4 5,oJ 11 Qfu [8,9,10],oM 6 11] [6] []) <| .ret,[.t 6]⟩

def Qfx : CF := ⟨2,.seq (oR [oEe 2 0,oEe 3 1,oA 4 (.new oZ4)] [2,3,4] [[2],[3],[4]]) <| .seq (oR [oNn 7 0 2,oL 8 2 7,oL 9 4 3,oJ 10 Qa5 [9],oJ 11 Qa4 [8,10],oA 5 (.new [.v (.bool false),.z true]),oPp 2 5 11] [2,3,4,5] [[2],[3],[4],[5]]) <| .seq (oR [oNn 12 0 3,oL 13 2 12,oL 14 4 2,oJ 15 Qa5 [14],oJ 16 Qa4 [13,15],oA 6 (.new [.v (.bool false),.z true]),oPp 2 6 16] [2,3,4,5,6] [[2],[3],[4],[5],[6]]) <| .seq (oR [oL 17 2 5,oL 18 2 6,oJ 19 Qeh [17,18],oL 20 4 2,oJ 21 Qa5 [20],oL 22 4 3,oJ 23 Qa5 [22],oJ 24 Qa4 [21,23],oJ 25 QcL [19,24],oPp 4 4 25] [4] [[4]]) <| .ret,[.cell 4 (some 4)]⟩

def Qgd : CF := ⟨2,.seq (oR [oA 4 (.new oZ4)] [0,1,4] [[4]]) <| .seq (oR [oM 5 0,oJ 6 QbA [5],oM 7 1,oJ 8 QbA [7],oJ 9 QcL [6,8],oPp 4 4 9] [4] [[4]]) <| .ret,[.cell 4 (some 4)]⟩

def Qnz : CF := ⟨2,.seq (oR [oEe 2 0,oEe 3 1,oA 4 (.mov (.c (.z true)))] [2,3] [[2],[3]]) <| .seq (oR [oDd 5 2,oQq 6 5,oDd 7 3,oQq 8 7,oBb 9 .add 6 8,oA 10 (.bin .sub (.t 9) (oC 1)),oA 11 (.mkfn Qhr [.t 3,.t 2] true),oJ 12 QgU [10,11],oM 4 12] [4] []) <| .ret,[.t 4]⟩

def Qeg : C :=
 .seq (.seq (.seq (oR [oM 11 1,oQq 12 11,oA 13 (.bin .gtr (.t 12) (oC 0))] [0,1,13] []) <| .cond (.t 13) (.skip) <| .seq (.keep [0] []) <| .exit 0) <| .seq (.blk 1 <| .seq (oR [oM 15 0,oM 16 1,oJ 17 QcF [15,16],oM 14 17,oA 18 (.ext (.t 14) 0),oA 19 (.ext (.t 14) 1),oM 5 18,oM 6 19] [1,6] []) <| oR [oM 20 1,oM 21 6,oJ 22 QeG [21],oM 0 20,oM 1 22] [0,1] []) <| .keep [0,1] []) <| .keep [0,1] []
def Qnl : CF := ⟨2,.seq (oR [oA 4 (.mov (.c (.z true)))] [0,1] []) <| .seq (oR [oM 7 0,oJ 8 QeG [7],oM 9 1,oJ 10 QeG [9],oM 0 8,oM 1 10] [0,1] []) <| .seq (.seq (.blk 0 <| .seq (.keep [0,1] []) <| .loop Qeg) <| .keep [0] []) <| .seq (oR [oM 23 0,oM 4 23] [4] []) <| .ret,[.t 4]⟩

def Qb1 : C :=
 .seq (.seq (oR [oBb 52 .lss 51 50] [4,7,10,50,51,52] [[4],[10]]) <| .seq (.cond (.t 52) (.skip) <| .seq (.keep [] []) <| .exit 0) <| .seq (.seq (.blk 1 <| .seq (oR [oL 53 4 4,oL 54 4 10,oA 55 (.build oZ8 [(0,4,(.t 53)),(4,4,(.t 54))]),oJ 56 Qf7 [55],oPp 4 10 56] [4,7,10,50,51] [[4],[10]]) <| .seq (oR [oM 57 7,oL 58 4 10,oA 59 (.calv (.t 57) [.t 58])] [4,7,10,50,51,59] [[4],[10]]) <| .cond (.t 59) (.seq (oR [oA 6 (.mov (.c (.v (.bool false))))] [6] []) <| .ret) <| .skip) <| .keep [4,7,10,50,51] [[4],[10]]) <| oR [oA 60 (.bin .add (.t 51) (oC 1)),oM 51 60] [4,7,10,50,51] [[4],[10]]) <| .keep [4,7,10,50,51] [[4],[10]]
def Qfl : CF := ⟨3,.seq (oR [oEe 3 0,oEe 4 1,oEe 5 2,oA 6 (.mov (.c (.v (.bool false))))] [3,4,5] [[3],[4],[5]]) <| .seq (.seq (oR [oL 11 4 4,oL 12 4 5,oJ 13 Qe4 [11,12],oA 14 (.bin .gtr (.t 13) (oC 0)),oM 15 14,oG 16 15 false (.load none (.t 3)),oG 17 15 false (.len (.t 16)),oG 18 15 false (.bin .eql (.t 17) (oC 0)),oA 19 (.pick (.t 15) (.c (.v (.bool true))) (.t 18))] [3,4,5,19] [[3],[4],[5]]) <| .cond (.t 19) (.seq (oR [oA 6 (.mov (.c (.v (.bool true))))] [6] []) <| .ret) <| .skip) <| .seq (oR [oA 20 (.mkfn Qft [.t 3] true),oM 7 20] [3,4,5,7] [[3],[4],[5]]) <| .seq (.seq (oR [oM 21 7,oL 22 4 4,oA 23 (.calv (.t 21) [.t 22]),oM 24 23,oHh 25 24 false 7,oG 26 24 false (.load (some 4) (.t 5)),oG 27 24 false (.calv (.t 25) [.t 26]),oA 28 (.pick (.t 24) (.c (.v (.bool true))) (.t 27))] [3,4,5,7,28] [[3],[4],[5]]) <| .cond (.t 28) (.seq (oR [oA 6 (.mov (.c (.v (.bool false))))] [6] []) <| .ret) <| .skip) <| .seq (oR [oDd 29 3,oJ 30 Qgx [29],oM 8 30] [3,4,5,7,8] [[3],[4],[5]]) <| .seq (oR [oM 31 8,oL 32 4 4,oL 33 4 5,oJ 34 Qau [31,32,33],oM 9 34] [3,4,5,7,8,9] [[3],[4],[5]]) <| .seq (.seq (oR [oM 35 9,oA 36 (.bin .gtr (.t 35) (oC 0)),oM 37 36,oHh 38 37 true 8,oG 39 37 true (.load (some 4) (.t 5)),oG 40 37 true (.call QgT [.t 38,.t 39] false),oG 41 37 true (.call QdF [.t 40] false),oG 42 37 true (.bin .eql (.t 41) (oC 0)),oA 43 (.pick (.t 37) (.t 42) (.c (.v (.bool false))))] [3,4,5,7,9,43] [[3],[4],[5]]) <| .cond (.t 43) (oR [oM 44 9,oA 45 (.bin .sub (.t 44) (oC 1)),oM 9 45] [3,4,5,7,9] [[3],[4],[5]]) <| .skip) <| .seq (.seq (oR [oM 46 9,oA 47 (.bin .gtr (.t 46) (oC 0))] [3,4,5,7,47] [[3],[4],[5]]) <| .cond (.t 47) (.seq (oR [oA 6 (.mov (.c (.v (.bool false))))] [6] []) <| .ret) <| .skip) <| .seq (oR [oL 48 4 5,oA 10 (.new oZ4),oPp 4 10 48] [3,4,7,10] [[3],[4],[10]]) <| .seq (.seq (oR [oDd 49 3,oQq 50 49,oA 51 (.mov (oC 0))] [4,7,10,50,51] [[4],[10]]) <| .seq (.blk 0 <| .seq (.keep [4,7,10,50,51] [[4],[10]]) <| .loop Qb1) <| .keep [] []) <| .seq (oR [oA 6 (.mov (.c (.v (.bool true))))] [6] []) <| .ret,[.t 6]⟩

def Qjk : CF := ⟨2,.seq (oR [oEe 2 0,oEe 3 1,oA 4 (.mov (.c (.z true)))] [2,3] [[2],[3]]) <| .seq (oR [oDd 5 2,oQq 6 5,oA 7 (.mkfn Qf0 [.t 2,.t 3] true),oJ 8 QgU [6,7],oM 4 8] [4] []) <| .ret,[.t 4]⟩

def Qfq : CF := ⟨1,.seq (oR [oA 2 (.new oZ4)] [0,2] [[2]]) <| .seq (oR [oM 3 0,oA 4 (.call Qax [(.t 3),(oC 1)] false),oPp 4 2 4] [2] [[2]]) <| .ret,[.cell 2 (some 4)]⟩

def QeT : CF := ⟨1,.seq (oR [oEe 1 0,oA 2 (.mov (oC 0))] [1] [[1]]) <| .seq (oR [oNn 3 0 1,oL 4 2 3,oJ 5 QfW [4],oM 2 5] [2] []) <| .ret,[.t 2]⟩

def Qg2 : CF := ⟨1,.seq (oR [oA 2 (.mov (.c (.z true))),oA 3 (.mov (oC 0))] [0] []) <| .seq (.seq (.blk 0 <| .seq (oR [oM 6 0,oQq 7 6,oA 8 (.bin .eql (.t 7) (oC 0)),oM 5 8] [0,5] []) <| .cond (.t 5) (.seq (oR [oA 2 (.mov (.c (.z true))),oA 3 (.mov (oC 1))] [2,3] []) <| .ret) <| .seq (oR [oM 10 0,oQq 11 10,oA 12 (.bin .gtr (.t 11) (oC 17)),oM 9 12] [0,9] []) <| .cond (.t 9) (.seq (oR [oA 2 (.mov (.c (.z true))),oA 3 (.mov (oC 4))] [2,3] []) <| .ret) <| .skip) <| .keep [0] []) <| .seq (oR [oM 13 0,oJ 14 Qe1 [13],oA 4 (.new oZ4),oPp 4 4 14] [0,4] [[4]]) <| .seq (oR [oM 15 0,oJ 16 QbY [15],oL 17 4 4,oJ 18 QiI [17],oL 19 4 4,oA 20 (.build oZ8 [(0,4,(.t 18)),(4,4,(.t 19))]),oJ 21 Qiy [16,20],oJ 22 Qdb [21],oM 2 22,oA 3 (.mov (oC 0))] [2,3] []) <| .ret,[.t 2,.t 3]⟩

def Qdm : CF := ⟨3,.seq (oR [oA 6 (.mov (oC 0))] [0,1,2] []) <| .seq (.seq (oR [oM 7 1,oA 8 (.bin .lss (.t 7) (oC 0)),oM 9 8,oHh 10 9 false 1,oHh 11 9 false 0,oG 12 9 false (.len (.t 11)),oG 13 9 false (.bin .geq (.t 10) (.t 12)),oA 14 (.pick (.t 9) (.c (.v (.bool true))) (.t 13))] [0,1,2,14] []) <| .cond (.t 14) (.seq (oR [oA 6 (.mov (oC 0))] [6] []) <| .ret) <| .skip) <| .seq (oR [oM 15 0,oM 16 1,oXx 17 1 15 16,oDd 18 17,oM 19 2,oJ 20 Qbw [18,19],oM 6 20] [6] []) <| .ret,[.t 6]⟩

def QbP : C :=
 .seq (.seq (.seq (oR [oM 29 7,oM 30 1,oQq 31 30,oBb 32 .lss 29 31] [0,1,5,6,7,32] [[22]]) <| .cond (.t 32) (.skip) <| .seq (.keep [0,1,5,6] [[22]]) <| .exit 2) <| .seq (.seq (.blk 3 <| oR [oM 35 5,oM 36 6,oM 37 7,oBb 38 .add 36 37,oM 39 5,oM 40 6,oM 41 7,oBb 42 .add 40 41,oXx 43 4 39 42,oL 44 4 43,oM 45 0,oM 46 6,oXx 47 4 45 46,oL 48 4 47,oM 49 1,oM 50 7,oXx 51 4 49 50,oL 52 4 51,oJ 53 Qgn [48,52],oJ 54 QcY [44,53],oXx 55 4 35 38,oPp 4 55 54] [0,1,5,6,7] [[22]]) <| .keep [0,1,5,6,7] [[22]]) <| oR [oM 33 7,oA 34 (.bin .add (.t 33) (oC 1)),oM 7 34] [0,1,5,6,7] [[22]]) <| .keep [0,1,5,6,7] [[22]]
def QbS : C :=
 .seq (.seq (.seq (oR [oM 23 6,oM 24 0,oQq 25 24,oBb 26 .lss 23 25] [0,1,5,6,26] [[22]]) <| .cond (.t 26) (.skip) <| .seq (.keep [5] [[22]]) <| .exit 0) <| .seq (.seq (.blk 1 <| .seq (oR [oA 7 (.mov (oC 0))] [0,1,5,6,7] [[22]]) <| .seq (.blk 2 <| .seq (.keep [0,1,5,6,7] [[22]]) <| .loop QbP) <| .keep [0,1,5,6] [[22]]) <| .keep [0,1,5,6] [[22]]) <| oR [oM 27 6,oA 28 (.bin .add (.t 27) (oC 1)),oM 6 28] [0,1,5,6] [[22]]) <| .keep [0,1,5,6] [[22]]
def QcT : CF := ⟨2,.seq (oR [oA 4 (.mov (.c (.z true)))] [0,1] []) <| .seq (.seq (oR [oM 8 0,oQq 9 8,oA 10 (.bin .eql (.t 9) (oC 0)),oM 11 10,oHh 12 11 false 1,oG 13 11 false (.len (.t 12)),oG 14 11 false (.bin .eql (.t 13) (oC 0)),oA 15 (.pick (.t 11) (.c (.v (.bool true))) (.t 14))] [0,1,15] []) <| .cond (.t 15) (.seq (oR [oA 4 (.mov (.c (.z true)))] [4] []) <| .ret) <| .skip) <| .seq (oR [oM 16 0,oQq 17 16,oM 18 1,oQq 19 18,oBb 20 .add 17 19,oA 21 (.bin .sub (.t 20) (oC 1)),oA 22 (.mksl 4 64 oZ4 (.t 21) (.t 21)),oM 5 22] [0,1,5] [[22]]) <| .seq (.seq (oR [oA 6 (.mov (oC 0))] [0,1,5,6] [[22]]) <| .seq (.blk 0 <| .seq (.keep [0,1,5,6] [[22]]) <| .loop QbS) <| .keep [5] [[22]]) <| .seq (.seq (.frz 5) <| oR [oM 56 5,oJ 57 QaM [56],oM 4 57] [4] []) <| .ret,[.t 4]⟩

def QbG : C :=
 .seq (.seq (.seq (oR [oM 11 5,oM 12 0,oQq 13 12,oBb 14 .lss 11 13] [0,1,5,14] []) <| .cond (.t 14) (.skip) <| .seq (.keep [] []) <| .exit 0) <| .seq (.seq (.blk 1 <| .seq (oR [oM 17 0,oM 18 5,oXx 19 4 17 18,oL 20 4 19,oM 21 1,oM 22 5,oXx 23 4 21 22,oL 24 4 23,oJ 25 QdV [20,24],oA 26 (.un .not (.t 25))] [0,1,5,26] []) <| .cond (.t 26) (.seq (oR [oA 4 (.mov (.c (.v (.bool false))))] [4] []) <| .ret) <| .skip) <| .keep [0,1,5] []) <| oR [oM 15 5,oA 16 (.bin .add (.t 15) (oC 1)),oM 5 16] [0,1,5] []) <| .keep [0,1,5] []
def QeJ : CF := ⟨2,.seq (oR [oA 4 (.mov (.c (.v (.bool false))))] [0,1] []) <| .seq (.seq (oR [oM 6 0,oQq 7 6,oM 8 1,oQq 9 8,oBb 10 .neq 7 9] [0,1,10] []) <| .cond (.t 10) (.seq (oR [oA 4 (.mov (.c (.v (.bool false))))] [4] []) <| .ret) <| .skip) <| .seq (.seq (oR [oA 5 (.mov (oC 0))] [0,1,5] []) <| .seq (.blk 0 <| .seq (.keep [0,1,5] []) <| .loop QbG) <| .keep [] []) <| .seq (oR [oA 4 (.mov (.c (.v (.bool true))))] [4] []) <| .ret,[.t 4]⟩

def Qk7 : CF := ⟨1,.seq (oR [oA 2 (.mov (.c (.z true)))] [0] []) <| .seq (oR [oM 6 0,oM 7 0,oM 8 0,oJ 9 QgB [8],oJ 10 Qgq [7,9],oJ 11 QcF [6,10],oM 5 11,oA 12 (.ext (.t 5) 0),oA 13 (.ext (.t 5) 1),oM 3 12,oM 4 13] [3] []) <| .seq (oR [oM 14 3,oJ 15 QeG [14],oM 2 15] [2] []) <| .ret,[.t 2]⟩

def Qik : CF := ⟨1,.seq (oR [oEe 1 0,oA 2 (.mov (.c (.z true)))] [1] [[1]]) <| .seq (oR [oDd 3 1,oQq 4 3,oA 5 (.bin .sub (.t 4) (oC 1)),oA 6 (.mkfn Qfi [.t 1] true),oJ 7 QgU [5,6],oM 2 7] [2] []) <| .ret,[.t 2]⟩

def Qjq : CF := ⟨2,.seq (oR [oA 4 (.mov (.c (.z true)))] [0,1] []) <| .seq (oR [oM 8 0,oM 9 1,oJ 10 QcF [8,9],oM 7 10,oA 11 (.ext (.t 7) 0),oA 12 (.ext (.t 7) 1),oM 5 11,oM 6 12] [6] []) <| .seq (oR [oM 13 6,oA 14 (.call QfR [(oC (-1)),(oC 1)] false),oJ 15 Qhs [13,14],oM 4 15] [4] []) <| .ret,[.t 4]⟩

def Qm2 : CF := ⟨1,.seq (oR [oEe 1 0,oA 2 (.mov (oC 0))] [1] [[1]]) <| .seq (oR [oNn 3 0 1,oL 4 2 3,oJ 5 Qh8 [4],oM 2 5] [2] []) <| .ret,[.t 2]⟩

def poly_Eval_a0 : C :=
 oR [oA 7 (.new oZ4),oPp 4 7 11] [3,5,7] [[3],[5],[7],[4]]
def poly_Eval_b0 : C :=
 .seq (.blk 1 <| oR [oL 12 4 5,oL 13 4 3,oJ 14 Qew [12,13],oL 15 4 7,oJ 16 Qgl [14,15],oPp 4 5 16] [] [[3],[4],[5]]) <| .keep [] [[3],[4],[5]]
def Qk9 : CF := ⟨2,.seq (oR [oEe 3 1,oA 4 (.new oZ4)] [0,3,4] [[3],[4]]) <| .seq (oR [oA 5 (.new oZ4)] [0,3,4,5] [[3],[4],[5]]) <| .seq (.seq (oR [oM 8 0,oJ 9 Qb9 [8]] [3,4,5,9] [[3],[4],[5]]) <| .seq (.blk 0 <| .seq (.rfn (.t 9) [10,11] poly_Eval_a0 poly_Eval_b0 [3,4,5] [[3],[4],[5]]) <| .keep [4,5] [[4],[5]]) <| .keep [4,5] [[4],[5]]) <| .seq (oR [oL 17 4 5,oPp 4 4 17] [4] [[4]]) <| .ret,[.cell 4 (some 4)]⟩

def QbH : C :=
 .seq (.seq (.seq (oR [oM 20 5,oNn 21 1 2,oDd 22 21,oQq 23 22,oBb 24 .lss 20 23] [2,3,5,24] [[2],[3]]) <| .cond (.t 24) (.skip) <| .seq (.keep [] []) <| .exit 0) <| .seq (.seq (.blk 1 <| .seq (oR [oNn 27 1 2,oDd 28 27,oM 29 5,oXx 30 1 28 29,oDd 31 30,oNn 32 1 3,oDd 33 32,oM 34 5,oXx 35 1 33 34,oDd 36 35,oBb 37 .neq 31 36] [2,3,5,37] [[2],[3]]) <| .cond (.t 37) (.seq (oR [oA 4 (.mov (.c (.v (.bool false))))] [4] []) <| .ret) <| .skip) <| .keep [2,3,5] [[2],[3]]) <| oR [oM 25 5,oA 26 (.bin .add (.t 25) (oC 1)),oM 5 26] [2,3,5] [[2],[3]]) <| .keep [2,3,5] [[2],[3]]
def QeI : CF := ⟨2,.seq (oR [oEe 2 0,oEe 3 1,oA 4 (.mov (.c (.v (.bool false))))] [2,3] [[2],[3]]) <| .seq (.seq (oR [oNn 6 0 2,oDd 7 6,oNn 8 0 3,oDd 9 8,oA 10 (.binb true (.t 7) (.t 9)),oM 11 10,oG 12 11 false (.fad 1 (.t 2)),oG 13 11 false (.load none (.t 12)),oG 14 11 false (.len (.t 13)),oG 15 11 false (.fad 1 (.t 3)),oG 16 11 false (.load none (.t 15)),oG 17 11 false (.len (.t 16)),oG 18 11 false (.bin .neq (.t 14) (.t 17)),oA 19 (.pick (.t 11) (.c (.v (.bool true))) (.t 18))] [2,3,19] [[2],[3]]) <| .cond (.t 19) (.seq (oR [oA 4 (.mov (.c (.v (.bool false))))] [4] []) <| .ret) <| .skip) <| .seq (.seq (oR [oA 5 (.mov (oC 0))] [2,3,5] [[2],[3]]) <| .seq (.blk 0 <| .seq (.keep [2,3,5] [[2],[3]]) <| .loop QbH) <| .keep [] []) <| .seq (oR [oA 4 (.mov (.c (.v (.bool true))))] [4] []) <| .ret,[.t 4]⟩
end Go.AM

set_option maxRecDepth 100000
namespace Go.AM
open Go Go.Proofs


def Qnj : CF := ⟨2,.seq (oR [oEe 2 0,oEe 3 1,oA 4 (.new oZ4)] [2,3,4] [[2],[3],[4]]) <| .seq (.seq (oR [oNn 5 0 3,oNn 6 1 5,oDd 7 6,oQq 8 7,oA 9 (.bin .eql (.t 8) (oC 0))] [2,3,4,9] [[2],[3],[4]]) <| .cond (.t 9) (.seq (oR [oA 10 (.build oZ4 []),oPp 4 4 10] [4] [[4]]) <| .ret) <| .skip) <| .seq (oR [oL 11 4 2,oL 12 4 3,oJ 13 Qdo [12],oNn 14 0 3,oL 15 2 14,oJ 16 QfM [13,15],oJ 17 Qew [11,16],oPp 4 4 17] [4] [[4]]) <| .ret,[.cell 4 (some 4)]⟩

def Qpb : CF := ⟨1,.seq (oR [oEe 1 0,oA 2 (.new oZ4)] [1,2] [[1],[2]]) <| .seq (oR [oNn 3 0 1,oL 4 2 3,oJ 5 Qe2 [4],oNn 6 2 1,oL 7 2 6,oA 8 (.build oZ4 [(0,2,(.t 5)),(2,2,(.t 7))]),oPp 4 2 8] [2] [[2]]) <| .ret,[.cell 2 (some 4)]⟩

def Qfh : CF := ⟨2,.seq (oR [oEe 2 0,oEe 3 1,oA 4 (.mov (oC 0))] [2,3] [[2],[3]]) <| .seq (.seq (oR [oL 7 4 2,oJ 8 QdF [7],oL 9 4 3,oJ 10 QdF [9],oM 5 8,oM 6 10] [2,3,5,6] [[2],[3]]) <| .seq (oR [oM 11 5,oM 12 6,oBb 13 .neq 11 12,oM 14 13,oHh 15 14 false 5,oG 16 14 false (.bin .eql (.t 15) (oC 0)),oA 17 (.pick (.t 14) (.c (.v (.bool true))) (.t 16))] [2,3,5,6,17] [[2],[3]]) <| .cond (.t 17) (.seq (oR [oM 18 5,oJ 19 QdD [18],oM 20 6,oJ 21 QdD [20],oJ 22 Qek [19,21],oM 4 22] [4] []) <| .ret) <| .skip) <| .seq (oR [oNn 23 0 2,oL 24 2 23,oL 25 4 3,oJ 26 Qdo [25],oJ 27 QbM [24,26],oNn 28 0 3,oL 29 2 28,oL 30 4 2,oJ 31 Qdo [30],oJ 32 QbM [29,31],oJ 33 Qek [27,32],oM 4 33] [4] []) <| .ret,[.t 4]⟩

def Qg0 : CF := ⟨2,.seq (oR [oEe 2 0,oEe 3 1,oA 4 (.new oZ4)] [2,3,4] [[2],[3],[4]]) <| .seq (.seq (.blk 0 <| .seq (oR [oNn 8 2 2,oNn 9 1 8,oDd 10 9,oQq 11 10,oA 12 (.bin .eql (.t 11) (oC 0)),oM 13 12,oG 14 13 true (.fad 2 (.t 3)),oG 15 13 true (.fad 1 (.t 14)),oG 16 13 true (.load none (.t 15)),oG 17 13 true (.len (.t 16)),oG 18 13 true (.bin .eql (.t 17) (oC 0)),oA 19 (.pick (.t 13) (.t 18) (.c (.v (.bool false)))),oM 7 19] [2,3,4,7] [[2],[3],[4]]) <| .cond (.t 7) (.seq (oR [oNn 20 0 2,oL 21 2 20,oNn 22 0 3,oL 23 2 22,oJ 24 QgZ [21,23],oA 25 (.build oZ4 [(0,2,(.t 24))]),oPp 4 4 25] [4] [[4]]) <| .ret) <| .seq (oR [oNn 27 0 2,oNn 28 1 27,oDd 29 28,oQq 30 29,oA 31 (.bin .eql (.t 30) (oC 0)),oM 26 31] [2,3,4,26] [[2],[3],[4]]) <| .cond (.t 26) (.seq (oR [oL 32 4 3,oPp 4 4 32] [4] [[4]]) <| .ret) <| .seq (oR [oNn 34 0 3,oNn 35 1 34,oDd 36 35,oQq 37 36,oA 38 (.bin .eql (.t 37) (oC 0)),oM 33 38] [2,3,4,33] [[2],[3],[4]]) <| .cond (.t 33) (.seq (oR [oL 39 4 2,oPp 4 4 39] [4] [[4]]) <| .ret) <| .skip) <| .keep [2,3,4] [[2],[3],[4]]) <| .seq (oR [oL 40 4 2,oJ 41 Qdo [40],oL 42 4 3,oJ 43 Qdo [42],oA 5 (.new [.v (.bool false),.z true]),oA 6 (.new [.v (.bool false),.z true]),oPp 2 5 41,oPp 2 6 43] [2,3,4,5,6] [[2],[3],[4],[5],[6]]) <| .seq (oR [oNn 44 0 2,oL 45 2 44,oL 46 2 6,oJ 47 QbM [45,46],oNn 48 0 3,oL 49 2 48,oL 50 2 5,oJ 51 QbM [49,50],oJ 52 QgZ [47,51],oL 53 2 5,oL 54 2 6,oJ 55 QbM [53,54],oJ 56 Qgg [52,55],oPp 4 4 56] [4] [[4]]) <| .ret,[.cell 4 (some 4)]⟩

def rat_Of : CF := ⟨2,.seq (oR [oA 4 (.new oZ4)] [0,1,4] [[4]]) <| .seq (oR [oM 5 0,oJ 6 QdD [5],oM 7 1,oJ 8 QdD [7],oJ 9 Qgg [6,8],oPp 4 4 9] [4] [[4]]) <| .ret,[.cell 4 (some 4)]⟩

def QjL : C :=
 .seq (.seq (.seq (oR [oM 7 6,oM 8 1,oQq 9 8,oBb 10 .lss 7 9] [0,1,5,6,10] [[21]]) <| .cond (.t 10) (.skip) <| .seq (.keep [5] [[21]]) <| .exit 0) <| .seq (.seq (.blk 1 <| oR [oM 13 5,oM 14 1,oM 15 6,oXx 16 1 14 15,oDd 17 16,oM 18 0,oJ 19 Qax [17,18],oA 20 (.lit 4 1 oZ4 [(0,(.t 19))] true),oA 21 (.app 4 64 (.t 13) (.t 20) false),oM 5 21] [0,1,5,6] [[21]]) <| .keep [0,1,5,6] [[21]]) <| oR [oM 11 6,oA 12 (.bin .add (.t 11) (oC 1)),oM 6 12] [0,1,5,6] [[21]]) <| .keep [0,1,5,6] [[21]]
def QlT : CF := ⟨2,.seq (oR [oA 4 (.mov (.c (.z true)))] [0,1] []) <| .seq (oR [oA 5 (.mov (.c (.z true)))] [0,1,5] [[21]]) <| .seq (.seq (oR [oA 6 (.mov (oC 0))] [0,1,5,6] [[21]]) <| .seq (.blk 0 <| .seq (.keep [0,1,5,6] [[21]]) <| .loop QjL) <| .keep [5] [[21]]) <| .seq (.seq (.frz 5) <| oR [oM 22 5,oJ 23 QaM [22],oM 4 23] [4] []) <| .ret,[.t 4]⟩

def QbI : CF := ⟨2,.seq (oR [oEe 2 0,oEe 3 1,oA 4 (.mov (oC 0))] [2,3] [[2],[3]]) <| .seq (.seq (oR [oNn 5 0 2,oDd 6 5,oNn 7 0 3,oDd 8 7,oA 9 (.binb true (.t 6) (.t 8))] [2,3,9] [[2],[3]]) <| .cond (.t 9) (.seq (.seq (oR [oNn 10 0 2,oDd 11 10] [11] []) <| .cond (.t 11) (.seq (oR [oA 4 (.mov (oC (-1)))] [4] []) <| .ret) <| .skip) <| .seq (oR [oA 4 (.mov (oC 1))] [4] []) <| .ret) <| .skip) <| .seq (.seq (oR [oNn 12 0 2,oDd 13 12] [2,3,13] [[2],[3]]) <| .cond (.t 13) (.seq (oR [oNn 14 1 3,oDd 15 14,oNn 16 1 2,oDd 17 16,oJ 18 Qbb [15,17],oM 4 18] [4] []) <| .ret) <| .skip) <| .seq (oR [oNn 19 1 2,oDd 20 19,oNn 21 1 3,oDd 22 21,oJ 23 Qbb [20,22],oM 4 23] [4] []) <| .ret,[.t 4]⟩

def QbO : C :=
 .seq (.seq (.seq (oR [oM 25 8,oNn 26 1 3,oDd 27 26,oQq 28 27,oBb 29 .lss 25 28] [2,3,4,5,6,7,8,29] [[2],[3],[4],[17]]) <| .cond (.t 29) (.skip) <| .seq (.keep [2,3,4,5,6,7] [[2],[3],[4],[17]]) <| .exit 2) <| .seq (.seq (.blk 3 <| .seq (oR [oM 32 5,oM 33 6,oM 34 8,oBb 35 .add 33 34,oXx 36 1 32 35,oDd 37 36,oNn 38 1 2,oDd 39 38,oM 40 6,oXx 41 1 39 40,oDd 42 41,oNn 43 1 3,oDd 44 43,oM 45 8,oXx 46 1 44 45,oDd 47 46,oBb 48 .mul 42 47,oBb 49 .add 37 48,oM 50 7,oBb 51 .add 49 50,oM 9 51] [2,3,4,5,6,8,9] [[2],[3],[4],[17]]) <| .seq (oR [oM 52 5,oM 53 6,oM 54 8,oBb 55 .add 53 54,oM 56 9,oA 57 (.bin .rem (.t 56) (oC 1000000000)),oXx 58 1 52 55,oPp 1 58 57] [2,3,4,5,6,8,9] [[2],[3],[4],[17]]) <| oR [oM 59 9,oA 60 (.bin .quo (.t 59) (oC 1000000000)),oM 7 60] [2,3,4,5,6,7,8] [[2],[3],[4],[17]]) <| .keep [2,3,4,5,6,7,8] [[2],[3],[4],[17]]) <| oR [oM 30 8,oA 31 (.bin .add (.t 30) (oC 1)),oM 8 31] [2,3,4,5,6,7,8] [[2],[3],[4],[17]]) <| .keep [2,3,4,5,6,7,8] [[2],[3],[4],[17]]
def QbQ : C :=
 .seq (.seq (.seq (oR [oM 18 6,oNn 19 1 2,oDd 20 19,oQq 21 20,oBb 22 .lss 18 21] [2,3,4,5,6,22] [[2],[3],[4],[17]]) <| .cond (.t 22) (.skip) <| .seq (.keep [2,3,4,5] [[2],[3],[4],[17]]) <| .exit 0) <| .seq (.seq (.blk 1 <| .seq (oR [oA 7 (.mov (oC 0))] [2,3,4,5,6,7] [[2],[3],[4],[17]]) <| .seq (.seq (oR [oA 8 (.mov (oC 0))] [2,3,4,5,6,7,8] [[2],[3],[4],[17]]) <| .seq (.blk 2 <| .seq (.keep [2,3,4,5,6,7,8] [[2],[3],[4],[17]]) <| .loop QbO) <| .keep [2,3,4,5,6,7] [[2],[3],[4],[17]]) <| oR [oM 61 5,oM 62 6,oNn 63 1 3,oDd 64 63,oQq 65 64,oBb 66 .add 62 65,oM 67 7,oXx 68 1 61 66,oPp 1 68 67] [2,3,4,5,6] [[2],[3],[4],[17]]) <| .keep [2,3,4,5,6] [[2],[3],[4],[17]]) <| oR [oM 23 6,oA 24 (.bin .add (.t 23) (oC 1)),oM 6 24] [2,3,4,5,6] [[2],[3],[4],[17]]) <| .keep [2,3,4,5,6] [[2],[3],[4],[17]]
def Qfe : CF := ⟨2,.seq (oR [oEe 2 0,oEe 3 1,oA 4 (.new [.v (.bool false),.z true])] [2,3,4] [[2],[3],[4]]) <| .seq (oR [oNn 10 1 2,oDd 11 10,oQq 12 11,oNn 13 1 3,oDd 14 13,oQq 15 14,oBb 16 .add 12 15,oA 17 (.mksl 1 8 [.v (.int .i64 0)] (.t 16) (.t 16)),oM 5 17] [2,3,4,5] [[2],[3],[4],[17]]) <| .seq (.seq (oR [oA 6 (.mov (oC 0))] [2,3,4,5,6] [[2],[3],[4],[17]]) <| .seq (.blk 0 <| .seq (.keep [2,3,4,5,6] [[2],[3],[4],[17]]) <| .loop QbQ) <| .keep [2,3,4,5] [[2],[3],[4],[17]]) <| .seq (.seq (.frz 5) <| oR [oNn 69 0 2,oDd 70 69,oNn 71 0 3,oDd 72 71,oA 73 (.binb true (.t 70) (.t 72)),oM 74 5,oJ 75 Qal [73,74],oPp 2 4 75] [4] [[4]]) <| .ret,[.cell 4 (some 2)]⟩

def QdY : CF := ⟨1,.seq (oR [oEe 1 0,oA 2 (.new [.v (.bool false),.z true])] [1,2] [[1],[2]]) <| .seq (.seq (oR [oNn 3 2 1,oNn 4 1 3,oDd 5 4,oQq 6 5,oA 7 (.bin .eql (.t 6) (oC 0))] [1,2,7] [[1],[2]]) <| .cond (.t 7) (.seq (oR [oA 8 (.call QbA [(oC 1)] false),oPp 2 2 8] [2] [[2]]) <| .ret) <| .skip) <| .seq (oR [oNn 9 2 1,oL 10 2 9,oPp 2 2 10] [2] [[2]]) <| .ret,[.cell 2 (some 2)]⟩

def Qfa : CF := ⟨1,.seq (oR [oEe 1 0,oA 2 (.new [.v (.bool false),.z true])] [1,2] [[1],[2]]) <| .seq (oR [oNn 3 0 1,oDd 4 3,oA 5 (.un .not (.t 4)),oNn 6 1 1,oDd 7 6,oJ 8 Qal [5,7],oPp 2 2 8] [2] [[2]]) <| .ret,[.cell 2 (some 2)]⟩

def QeZ : CF := ⟨3,.seq (oR [oEe 4 1,oEe 5 2,oA 6 (.mov (oC 0))] [0,4,5] [[4],[5]]) <| .seq (.seq (oR [oL 7 4 4,oL 8 4 5,oJ 9 Qe4 [7,8],oA 10 (.bin .geq (.t 9) (oC 0))] [0,4,5,10] [[4],[5]]) <| .cond (.t 10) (.seq (oR [oA 6 (.mov (oC 0))] [6] []) <| .ret) <| .skip) <| .seq (oR [oM 11 0,oL 12 4 4,oJ 13 QfA [11,12],oM 14 0,oL 15 4 5,oJ 16 QfA [14,15],oBb 17 .sub 13 16,oM 6 17] [6] []) <| .ret,[.t 6]⟩

def Qbz : CF := ⟨2,.seq (oR [oEe 2 0,oEe 3 1,oA 4 (.new oZ4)] [2,3,4] [[2],[3],[4]]) <| .seq (.seq (oR [oNn 10 1 3,oDd 11 10,oQq 12 11,oA 13 (.bin .eql (.t 12) (oC 0)),oM 14 13,oG 15 14 false (.fad 1 (.t 2)),oG 16 14 false (.load none (.t 15)),oG 17 14 false (.len (.t 16)),oG 18 14 false (.bin .eql (.t 17) (oC 0)),oA 19 (.pick (.t 14) (.c (.v (.bool true))) (.t 18))] [2,3,4,19] [[2],[3],[4]]) <| .cond (.t 19) (.seq (oR [oA 20 (.build oZ4 []),oPp 4 4 20] [4] [[4]]) <| .ret) <| .skip) <| .seq (oR [oL 21 2 2,oL 22 2 3,oJ 23 Qgp [21,22],oA 5 (.new [.v (.bool false),.z true]),oPp 2 5 23] [2,3,4,5] [[2],[3],[4],[5]]) <| .seq (oR [oL 25 2 2,oL 26 2 5,oJ 27 Qc4 [25,26],oM 24 27,oA 28 (.ext (.t 24) 0),oA 29 (.ext (.t 24) 1),oA 6 (.new [.v (.bool false),.z true]),oA 7 (.new [.v (.bool false),.z true]),oPp 2 6 28,oPp 2 7 29] [3,4,5,6] [[3],[4],[5],[6]]) <| .seq (oR [oL 31 2 3,oL 32 2 5,oJ 33 Qc4 [31,32],oM 30 33,oA 34 (.ext (.t 30) 0),oA 35 (.ext (.t 30) 1),oA 8 (.new [.v (.bool false),.z true]),oA 9 (.new [.v (.bool false),.z true]),oPp 2 8 34,oPp 2 9 35] [4,6,8] [[4],[6],[8]]) <| .seq (.seq (oR [oNn 36 0 8,oDd 37 36] [4,6,8,37] [[4],[6],[8]]) <| .cond (.t 37) (.seq (oR [oL 38 2 6,oJ 39 Qc0 [38],oPp 2 6 39] [4,6,8] [[4],[6],[8]]) <| oR [oL 40 2 8,oJ 41 Qc0 [40],oPp 2 8 41] [4,6,8] [[4],[6],[8]]) <| .skip) <| .seq (.seq (oR [oL 42 2 8,oJ 43 Qgo [42]] [4,6,8,43] [[4],[6],[8]]) <| .cond (.t 43) (.seq (oR [oL 44 2 6,oA 45 (.build oZ4 [(0,2,(.t 44))]),oPp 4 4 45] [4] [[4]]) <| .ret) <| .skip) <| .seq (oR [oL 46 2 6,oL 47 2 8,oA 48 (.build oZ4 [(0,2,(.t 46)),(2,2,(.t 47))]),oPp 4 4 48] [4] [[4]]) <| .ret,[.cell 4 (some 4)]⟩

def QcQ : CF := ⟨2,.seq (oR [oEe 2 0,oEe 3 1,oA 4 (.new [.v (.bool false),.z true])] [2,3,4] [[2],[3],[4]]) <| .seq (.seq (oR [oNn 5 0 2,oDd 6 5,oNn 7 0 3,oDd 8 7,oA 9 (.binb false (.t 6) (.t 8))] [2,3,4,9] [[2],[3],[4]]) <| .cond (.t 9) (.seq (oR [oNn 10 0 2,oDd 11 10,oNn 12 1 2,oDd 13 12,oNn 14 1 3,oDd 15 14,oJ 16 QfH [13,15],oJ 17 Qal [11,16],oPp 2 4 17] [4] [[4]]) <| .ret) <| .skip) <| .seq (.seq (oR [oNn 18 1 2,oDd 19 18,oNn 20 1 3,oDd 21 20,oJ 22 Qbb [19,21],oA 23 (.bin .lss (.t 22) (oC 0))] [2,3,4,23] [[2],[3],[4]]) <| .cond (.t 23) (.seq (oR [oNn 24 0 3,oDd 25 24,oNn 26 1 3,oDd 27 26,oNn 28 1 2,oDd 29 28,oJ 30 Qb7 [27,29],oJ 31 Qal [25,30],oPp 2 4 31] [4] [[4]]) <| .ret) <| .skip) <| .seq (oR [oNn 32 0 2,oDd 33 32,oNn 34 1 2,oDd 35 34,oNn 36 1 3,oDd 37 36,oJ 38 Qb7 [35,37],oJ 39 Qal [33,38],oPp 2 4 39] [4] [[4]]) <| .ret,[.cell 4 (some 2)]⟩

def QaW : C :=
 .seq (.seq (.seq (oR [oM 8 0,oA 9 (.bin .neq (.t 8) (oC 0))] [0,2,3,4,9] [[2],[19]]) <| .cond (.t 9) (.skip) <| .seq (.keep [2,3,4] [[2],[19]]) <| .exit 0) <| .seq (.blk 1 <| .seq (oR [oM 10 0,oA 11 (.bin .rem (.t 10) (oC 1000000000)),oM 5 11] [0,2,3,4,5] [[2],[19]]) <| .seq (.seq (oR [oM 12 5,oA 13 (.bin .lss (.t 12) (oC 0))] [0,2,3,4,5,13] [[2],[19]]) <| .cond (.t 13) (oR [oM 14 5,oA 15 (.un .neg (.t 14)),oM 5 15] [0,2,3,4,5] [[2],[19]]) <| .skip) <| .seq (oR [oM 16 3,oM 17 5,oA 18 (.lit 1 1 [.v (.int .i64 0)] [(0,(.t 17))] true),oA 19 (.app 1 8 (.t 16) (.t 18) false),oM 3 19] [0,2,3,4] [[2],[19]]) <| oR [oM 20 0,oA 21 (.bin .quo (.t 20) (oC 1000000000)),oM 0 21] [0,2,3,4] [[2],[19]]) <| .keep [0,2,3,4] [[2],[19]]) <| .keep [0,2,3,4] [[2],[19]]
def Qer : CF := ⟨1,.seq (oR [oA 2 (.new [.v (.bool false),.z true])] [0,2] [[2]]) <| .seq (oR [oA 3 (.mov (.c (.z true)))] [0,2,3] [[2],[19]]) <| .seq (oR [oM 6 0,oA 7 (.bin .lss (.t 6) (oC 0)),oM 4 7] [0,2,3,4] [[2],[19]]) <| .seq (.seq (.blk 0 <| .seq (.keep [0,2,3,4] [[2],[19]]) <| .loop QaW) <| .keep [2,3,4] [[2],[19]]) <| .seq (.seq (.frz 3) <| oR [oM 22 4,oM 23 3,oJ 24 Qal [22,23],oPp 2 2 24] [2] [[2]]) <| .ret,[.cell 2 (some 2)]⟩

def Qcp : C :=
 .seq (.seq (oR [oBb 10 .lss 9 8] [1,5,8,9,10] [[17]]) <| .seq (.cond (.t 10) (.skip) <| .seq (.keep [5] [[17]]) <| .exit 0) <| .seq (.seq (.blk 1 <| .seq (oR [oM 11 9,oM 6 11] [1,5,6,8,9] [[17]]) <| oR [oM 12 5,oM 13 1,oM 14 6,oA 15 (.calv (.t 13) [.t 14]),oA 16 (.lit 4 1 oZ4 [(0,(.t 15))] true),oA 17 (.app 4 64 (.t 12) (.t 16) false),oM 5 17] [1,5,8,9] [[17]]) <| .keep [1,5,8,9] [[17]]) <| oR [oA 18 (.bin .add (.t 9) (oC 1)),oM 9 18] [1,5,8,9] [[17]]) <| .keep [1,5,8,9] [[17]]
def QiL : CF := ⟨2,.seq (oR [oA 4 (.mov (.c (.z true)))] [0,1] []) <| .seq (oR [oA 5 (.mov (.c (.z true)))] [0,1,5] [[17]]) <| .seq (.seq (oR [oM 7 0,oA 8 (.mx [(.t 7),(oC 0)]),oA 9 (.mov (oC 0))] [1,5,8,9] [[17]]) <| .seq (.blk 0 <| .seq (.keep [1,5,8,9] [[17]]) <| .loop Qcp) <| .keep [5] [[17]]) <| .seq (.seq (.frz 5) <| oR [oM 19 5,oJ 20 Qfj [19],oM 4 20] [4] []) <| .ret,[.t 4]⟩

def QcZ : C :=
 .seq (.seq (.seq (oR [oM 13 6,oM 14 0,oDd 15 2,oQq 16 15,oA 17 (.bin .sub (.t 16) (oC 1)),oA 18 (.mn [.t 14,.t 17]),oBb 19 .leq 13 18] [0,1,2,4,5,6,19] [[4],[5]]) <| .cond (.t 19) (.skip) <| .seq (.keep [4,5] [[4],[5]]) <| .exit 0) <| .seq (.seq (.blk 1 <| oR [oL 22 4 5,oDd 23 2,oM 24 6,oXx 25 4 23 24,oL 26 4 25,oDd 27 1,oM 28 0,oM 29 6,oBb 30 .sub 28 29,oXx 31 4 27 30,oL 32 4 31,oJ 33 Qew [26,32],oJ 34 Qgl [22,33],oPp 4 5 34] [0,1,2,4,5,6] [[4],[5]]) <| .keep [0,1,2,4,5,6] [[4],[5]]) <| oR [oM 20 6,oA 21 (.bin .add (.t 20) (oC 1)),oM 6 21] [0,1,2,4,5,6] [[4],[5]]) <| .keep [0,1,2,4,5,6] [[4],[5]]
def QjA : CF := ⟨3,.seq (oR [oA 4 (.new oZ4)] [0,1,2,4] [[4]]) <| .seq (oR [oA 5 (.new oZ4)] [0,1,2,4,5] [[4],[5]]) <| .seq (.seq (oR [oM 7 0,oDd 8 1,oQq 9 8,oBb 10 .sub 7 9,oA 11 (.bin .add (.t 10) (oC 1)),oA 12 (.mx [(oC 0),(.t 11)]),oM 6 12] [0,1,2,4,5,6] [[4],[5]]) <| .seq (.blk 0 <| .seq (.keep [0,1,2,4,5,6] [[4],[5]]) <| .loop QcZ) <| .keep [4,5] [[4],[5]]) <| .seq (oR [oL 35 4 5,oPp 4 4 35] [4] [[4]]) <| .ret,[.cell 4 (some 4)]⟩

def Qio : CF := ⟨2,.seq (oR [oEe 2 0,oEe 3 1,oA 4 (.new oZ4)] [2,3,4] [[2],[3],[4]]) <| .seq (.seq (oR [oNn 7 0 2,oNn 8 1 7,oDd 9 8,oQq 10 9,oA 11 (.bin .eql (.t 10) (oC 0)),oM 12 11,oG 13 12 false (.fad 0 (.t 3)),oG 14 12 false (.fad 1 (.t 13)),oG 15 12 false (.load none (.t 14)),oG 16 12 false (.len (.t 15)),oG 17 12 false (.bin .eql (.t 16) (oC 0)),oA 18 (.pick (.t 12) (.c (.v (.bool true))) (.t 17))] [2,3,4,18] [[2],[3],[4]]) <| .cond (.t 18) (.seq (oR [oA 19 (.build oZ4 []),oPp 4 4 19] [4] [[4]]) <| .ret) <| .skip) <| .seq (.seq (oR [oNn 20 2 2,oNn 21 1 20,oDd 22 21,oQq 23 22,oA 24 (.bin .eql (.t 23) (oC 0)),oM 25 24,oG 26 25 true (.fad 2 (.t 3)),oG 27 25 true (.fad 1 (.t 26)),oG 28 25 true (.load none (.t 27)),oG 29 25 true (.len (.t 28)),oG 30 25 true (.bin .eql (.t 29) (oC 0)),oA 31 (.pick (.t 25) (.t 30) (.c (.v (.bool false))))] [2,3,4,31] [[2],[3],[4]]) <| .cond (.t 31) (.seq (oR [oNn 32 0 2,oL 33 2 32,oNn 34 0 3,oL 35 2 34,oJ 36 QbM [33,35],oA 37 (.build oZ4 [(0,2,(.t 36))]),oPp 4 4 37] [4] [[4]]) <| .ret) <| .skip) <| .seq (oR [oNn 38 0 2,oL 39 2 38,oL 40 4 3,oJ 41 Qdo [40],oJ 42 Qgg [39,41],oNn 43 0 3,oL 44 2 43,oL 45 4 2,oJ 46 Qdo [45],oJ 47 Qgg [44,46],oA 5 (.new oZ4),oA 6 (.new oZ4),oPp 4 5 42,oPp 4 6 47] [4,5,6] [[4],[5],[6]]) <| .seq (oR [oNn 48 0 5,oL 49 2 48,oNn 50 0 6,oL 51 2 50,oJ 52 QbM [49,51],oL 53 4 5,oJ 54 Qdo [53],oL 55 4 6,oJ 56 Qdo [55],oJ 57 QbM [54,56],oJ 58 QfM [52,57],oPp 4 4 58] [4] [[4]]) <| .ret,[.cell 4 (some 4)]⟩

def QhZ : CF := ⟨1,.seq (oR [oA 2 (.mov (.c (.z true)))] [0] []) <| .seq (.seq (oR [oM 3 0,oQq 4 3,oA 5 (.bin .eql (.t 4) (oC 0))] [0,5] []) <| .cond (.t 5) (.seq (oR [oA 2 (.mov (.c (.z true)))] [2] []) <| .ret) <| .skip) <| .seq (oR [oM 6 0,oA 7 (.call QfR [(oC 1),(oC 1)] false),oM 8 0,oM 9 0,oQq 10 9,oA 11 (.bin .sub (.t 10) (oC 1)),oXx 12 4 8 11,oL 13 4 12,oJ 14 QiD [7,13],oJ 15 Qhs [6,14],oM 2 15] [2] []) <| .ret,[.t 2]⟩

def Qea : C :=
 .seq (.seq (oR [oBb 56 .lss 55 54] [1,6,7,8,9,53,54,55,56] [[9],[16],[24]]) <| .seq (.cond (.t 56) (.skip) <| .seq (.keep [1,6,7,8] [[16],[24]]) <| .exit 2) <| .seq (.seq (.blk 3 <| .seq (oR [oM 57 55,oXx 58 4 53 55,oL 59 4 58,oA 11 (.new oZ4),oM 10 57,oPp 4 11 59] [1,6,7,8,9,10,11,53,54,55] [[9],[11],[16],[24]]) <| oR [oM 60 6,oM 61 8,oM 62 10,oBb 63 .add 61 62,oM 64 6,oM 65 8,oM 66 10,oBb 67 .add 65 66,oXx 68 4 64 67,oL 69 4 68,oL 70 4 9,oL 71 4 11,oJ 72 Qew [70,71],oJ 73 QoH [69,72],oXx 74 4 60 63,oPp 4 74 73] [1,6,7,8,9,53,54,55] [[9],[16],[24]]) <| .keep [1,6,7,8,9,53,54,55] [[9],[16],[24]]) <| oR [oA 75 (.bin .add (.t 55) (oC 1)),oM 55 75] [1,6,7,8,9,53,54,55] [[9],[16],[24]]) <| .keep [1,6,7,8,9,53,54,55] [[9],[16],[24]]
def Qch : C :=
 .seq (.seq (.seq (oR [oM 30 8,oA 31 (.bin .geq (.t 30) (oC 0))] [1,6,7,8,31] [[16],[24]]) <| .cond (.t 31) (.skip) <| .seq (.keep [6,7] [[16],[24]]) <| .exit 0) <| .seq (.seq (.blk 1 <| .seq (oR [oM 34 6,oM 35 8,oM 36 1,oQq 37 36,oBb 38 .add 35 37,oA 39 (.bin .sub (.t 38) (oC 1)),oXx 40 4 34 39,oL 41 4 40,oM 42 1,oM 43 1,oQq 44 43,oA 45 (.bin .sub (.t 44) (oC 1)),oXx 46 4 42 45,oL 47 4 46,oJ 48 QiD [41,47],oA 9 (.new oZ4),oPp 4 9 48] [1,6,7,8,9] [[9],[16],[24]]) <| .seq (oR [oM 49 7,oM 50 8,oL 51 4 9,oXx 52 4 49 50,oPp 4 52 51] [1,6,7,8,9] [[9],[16],[24]]) <| .seq (oR [oM 53 1,oQq 54 53,oA 55 (.mov (oC 0))] [1,6,7,8,9,53,54,55] [[9],[16],[24]]) <| .seq (.blk 2 <| .seq (.keep [1,6,7,8,9,53,54,55] [[9],[16],[24]]) <| .loop Qea) <| .keep [1,6,7,8] [[16],[24]]) <| .keep [1,6,7,8] [[16],[24]]) <| oR [oM 32 8,oA 33 (.bin .sub (.t 32) (oC 1)),oM 8 33] [1,6,7,8] [[16],[24]]) <| .keep [1,6,7,8] [[16],[24]]
def QhR : CF := ⟨2,.seq (oR [oA 4 (.mov (.c (.z true))),oA 5 (.mov (.c (.z true)))] [0,1] []) <| .seq (.seq (oR [oM 12 1,oQq 13 12,oA 14 (.bin .eql (.t 13) (oC 0))] [0,1,14] []) <| .cond (.t 14) (.seq (oR [oA 4 (.mov (.c (.z true))),oA 5 (.mov (.c (.z true)))] [4,5] []) <| .ret) <| .skip) <| .seq (oR [oM 15 0,oA 16 (.call Qa6 [.t 15] true),oM 6 16] [0,1,6] [[16]]) <| .seq (oR [oM 17 0,oQq 18 17,oM 19 1,oQq 20 19,oBb 21 .sub 18 20,oA 22 (.bin .add (.t 21) (oC 1)),oA 23 (.mx [(oC 0),(.t 22)]),oA 24 (.mksl 4 64 oZ4 (.t 23) (.t 23)),oM 7 24] [0,1,6,7] [[16],[24]]) <| .seq (.seq (oR [oM 25 0,oQq 26 25,oM 27 1,oQq 28 27,oBb 29 .sub 26 28,oM 8 29] [1,6,7,8] [[16],[24]]) <| .seq (.blk 0 <| .seq (.keep [1,6,7,8] [[16],[24]]) <| .loop Qch) <| .keep [6,7] [[16],[24]]) <| .seq (.seq (.frz 7) <| .seq (.frz 6) <| oR [oM 76 7,oJ 77 Qfj [76],oM 78 6,oJ 79 Qfj [78],oM 4 77,oM 5 79] [4,5] []) <| .ret,[.t 4,.t 5]⟩

def QgQ : CF := ⟨2,.seq (oR [oEe 2 0,oA 3 (.mov (.c (.v (.bool false))))] [1,2] [[2]]) <| .seq (oR [oDd 4 1,oL 5 4 2,oJ 6 QgT [4,5],oJ 7 QdF [6],oA 8 (.bin .lss (.t 7) (oC 0)),oM 3 8] [3] []) <| .ret,[.t 3]⟩

def QdB : C :=
 .seq (.seq (.seq (oR [oM 12 4,oQq 13 12,oA 14 (.bin .gtr (.t 13) (oC 1))] [3,4,14] []) <| .cond (.t 14) (.skip) <| .seq (.keep [3] []) <| .exit 0) <| .seq (.blk 1 <| .seq (oR [oM 15 4,oJ 16 Qb8 [15],oM 5 16] [3,4,5] []) <| .seq (oR [oM 18 4,oM 19 5,oJ 20 QcF [18,19],oM 17 20,oA 21 (.ext (.t 17) 0),oA 22 (.ext (.t 17) 1),oM 4 21] [3,4,5] []) <| .seq (oR [oM 23 4,oJ 24 Qb8 [23],oM 6 24] [3,4,5,6] []) <| .seq (oR [oM 26 5,oM 27 5,oM 28 6,oJ 29 Qgq [27,28],oJ 30 QcF [26,29],oM 25 30,oA 31 (.ext (.t 25) 0),oA 32 (.ext (.t 25) 1),oM 7 31,oM 8 32] [3,4,6,7] []) <| .seq (oR [oM 33 3,oM 34 7,oJ 35 QhQ [33,34],oM 3 35] [3,4,6] []) <| oR [oM 37 4,oM 38 6,oJ 39 QcF [37,38],oM 36 39,oA 40 (.ext (.t 36) 0),oA 41 (.ext (.t 36) 1),oM 4 40] [3,4] []) <| .keep [3,4] []) <| .keep [3,4] []
def Qlx : CF := ⟨1,.seq (oR [oA 2 (.mov (.c (.z true)))] [0] []) <| .seq (oR [oA 9 (.call QfR [(oC 1),(oC 1)] false),oA 10 (.lit 4 1 oZ4 [(0,(.t 9))] true),oM 3 10] [0,3] []) <| .seq (oR [oM 11 0,oM 4 11] [3,4] []) <| .seq (.seq (.blk 0 <| .seq (.keep [3,4] []) <| .loop QdB) <| .keep [3] []) <| .seq (oR [oM 42 3,oM 2 42] [2] []) <| .ret,[.t 2]⟩

def Qhj : CF := ⟨1,.seq (oR [oEe 1 0,oA 2 (.new oZ4)] [1,2] [[1],[2]]) <| .seq (oR [oNn 3 0 1,oL 4 4 3,oNn 5 4 1,oL 6 4 5,oJ 7 Qgl [4,6],oA 8 (.call QfR [(oC 1),(oC 2)] false),oJ 9 Qew [7,8],oPp 4 2 9] [2] [[2]]) <| .ret,[.cell 2 (some 4)]⟩

def Qhp : CF := ⟨3,.seq (oR [oA 4 (.new oZ4)] [0,1,2,4] [[4]]) <| .seq (oR [oDd 5 1,oM 6 0,oXx 7 4 5 6,oL 8 4 7,oL 9 4 2,oJ 10 Qew [8,9],oPp 4 4 10] [4] [[4]]) <| .ret,[.cell 4 (some 4)]⟩

def QeQ : CF := ⟨1,.seq (oR [oEe 1 0,oA 2 (.mov (oC 0))] [1] [[1]]) <| .seq (oR [oL 3 2 1,oA 4 (.build [.v (.bool false),.z true] []),oJ 5 QcP [3,4],oM 2 5] [2] []) <| .ret,[.t 2]⟩

def Qfm : CF := ⟨2,.seq (oR [oEe 2 0,oEe 3 1,oA 4 (.new oZ4)] [2,3,4] [[2],[3],[4]]) <| .seq (oR [oNn 5 0 2,oL 6 2 5,oNn 7 0 3,oL 8 2 7,oJ 9 Qa4 [6,8],oL 10 4 2,oJ 11 Qa5 [10],oL 12 4 3,oJ 13 Qa5 [12],oJ 14 Qa4 [11,13],oJ 15 QcL [9,14],oPp 4 4 15] [4] [[4]]) <| .ret,[.cell 4 (some 4)]⟩

def QbT : CF := ⟨1,.seq (oR [oA 2 (.mov (.c (.z true)))] [0] []) <| .seq (oR [oM 3 0,oA 4 (.call QbU [(.c (.z true)),(.t 3)] false),oM 2 4] [2] []) <| .ret,[.t 2]⟩

def Qit : CF := ⟨2,.seq (oR [oEe 2 0,oEe 3 1,oA 4 (.mov (.c (.v (.nilFunc))))] [2,3] [[2],[3]]) <| .seq (oR [oA 5 (.mkfn QaC [.t 2,.t 3] true),oM 4 5] [4] []) <| .ret,[.t 4]⟩

def QaU : CF := ⟨1,.seq (oR [oA 2 (.mov (.c (.z true)))] [0] []) <| .seq (.seq (oR [oM 3 0,oA 4 (.isn false (.t 3))] [0,4] []) <| .cond (.t 4) (.seq (oR [oA 2 (.mov (.c (.z true)))] [2] [[5],[7]]) <| .ret) <| .skip) <| .seq (oR [oA 5 (.lit 4 0 oZ4 [] false),oM 6 0,oA 7 (.app 4 64 (.t 5) (.t 6) false),oM 2 7] [2] [[5],[7]]) <| .ret,[.t 2]⟩

def Qcc : C :=
 .seq (.seq (.seq (oR [oM 6 3,oA 7 (.bin .gtr (.t 6) (oC 0)),oM 8 7,oHh 9 8 true 0,oHh 10 8 true 3,oG 11 8 true (.bin .sub (.t 10) (oC 1)),oG 12 8 true (.ixa 4 (.t 9) (.t 11)),oG 13 8 true (.load (some 4) (.t 12)),oG 14 8 true (.call QdF [.t 13] false),oG 15 8 true (.bin .eql (.t 14) (oC 0)),oA 16 (.pick (.t 8) (.t 15) (.c (.v (.bool false))))] [0,3,16] []) <| .cond (.t 16) (.skip) <| .seq (.keep [0,3] []) <| .exit 0) <| .seq (.blk 1 <| oR [oM 17 3,oA 18 (.bin .sub (.t 17) (oC 1)),oM 3 18] [0,3] []) <| .keep [0,3] []) <| .keep [0,3] []
def Qiw : CF := ⟨1,.seq (oR [oA 2 (.mov (.c (.z true)))] [0] []) <| .seq (oR [oM 4 0,oQq 5 4,oM 3 5] [0,3] []) <| .seq (.seq (.blk 0 <| .seq (.keep [0,3] []) <| .loop Qcc) <| .keep [0,3] []) <| .seq (oR [oM 19 0,oM 20 3,oA 21 (.slc 4 (.t 19) none (some (.t 20)) none),oJ 22 Qa6 [21],oM 2 22] [2] []) <| .ret,[.t 2]⟩

def QgA : CF := ⟨2,.seq (oR [oA 3 (.new oZ4)] [0,1,3] [[3]]) <| .seq (oR [oDd 4 1,oM 5 0,oA 6 (.bin .add (.t 5) (oC 1)),oXx 7 4 4 6,oL 8 4 7,oM 9 0,oA 10 (.bin .add (.t 9) (oC 1)),oA 11 (.call QfR [(.t 10),(oC 1)] false),oJ 12 Qew [8,11],oPp 4 3 12] [3] [[3]]) <| .ret,[.cell 3 (some 4)]⟩

def Qez : CF := ⟨1,.seq (oR [oEe 1 0,oA 2 (.mov (oC 0))] [1] [[1]]) <| .seq (.seq (.blk 0 <| .seq (oR [oNn 4 0 1,oDd 5 4,oM 3 5] [1,3] [[1]]) <| .cond (.t 3) (.seq (oR [oA 2 (.mov (oC (-1)))] [2] []) <| .ret) <| .seq (oR [oNn 7 1 1,oDd 8 7,oQq 9 8,oA 10 (.bin .eql (.t 9) (oC 0)),oM 6 10] [6] []) <| .cond (.t 6) (.seq (oR [oA 2 (.mov (oC 0))] [2] []) <| .ret) <| .skip) <| .keep [] []) <| .seq (oR [oA 2 (.mov (oC 1))] [2] []) <| .ret,[.t 2]⟩

def Qa1 : CF := ⟨1,.seq (oR [oEe 1 0,oA 2 (.mov (.c (.v (.nilFunc))))] [1] [[1]]) <| .seq (oR [oA 3 (.mkfn Qag [.t 1] true),oM 2 3] [2] []) <| .ret,[.t 2]⟩

def Qe8 : CF := ⟨2,.seq (oR [oEe 2 0,oEe 3 1,oA 4 (.new oZ4)] [2,3,4] [[2],[3],[4]]) <| .seq (.seq (oR [oNn 5 0 3,oDd 6 5] [2,3,4,6] [[2],[3],[4]]) <| .cond (.t 6) (oR [oL 7 2 2,oJ 8 Qe2 [7],oL 9 2 3,oJ 10 Qe2 [9],oPp 2 2 8,oPp 2 3 10] [2,3,4] [[2],[3],[4]]) <| .skip) <| .seq (.seq (oR [oL 11 2 3,oJ 12 QjJ [11]] [2,3,4,12] [[2],[3],[4]]) <| .cond (.t 12) (.seq (oR [oL 13 2 2,oA 14 (.build oZ4 [(0,2,(.t 13))]),oPp 4 4 14] [4] [[4]]) <| .ret) <| .skip) <| .seq (oR [oL 15 2 2,oL 16 2 3,oA 17 (.build oZ4 [(0,2,(.t 15)),(2,2,(.t 16))]),oPp 4 4 17] [4] [[4]]) <| .ret,[.cell 4 (some 4)]⟩

def Qns : CF := ⟨1,.seq (oR [oEe 1 0,oA 2 (.new [.v (.bool false),.z true])] [1,2] [[1],[2]]) <| .seq (.seq (oR [oNn 3 2 1,oNn 4 1 3,oDd 5 4,oQq 6 5,oA 7 (.bin .eql (.t 6) (oC 0))] [1,2,7] [[1],[2]]) <| .cond (.t 7) (.seq (oR [oJ 8 Qoy [],oPp 2 2 8] [2] [[2]]) <| .ret) <| .skip) <| .seq (oR [oNn 9 2 1,oL 10 2 9,oPp 2 2 10] [2] [[2]]) <| .ret,[.cell 2 (some 2)]⟩

def QgV : CF := ⟨1,.seq (oR [oEe 1 0,oA 2 (.new [.v (.bool false),.z true])] [1,2] [[1],[2]]) <| .seq (oR [oNn 3 0 1,oDd 4 3,oA 5 (.un .not (.t 4)),oM 6 5,oG 7 6 true (.fad 1 (.t 1)),oG 8 6 true (.load none (.t 7)),oG 9 6 true (.len (.t 8)),oG 10 6 true (.bin .gtr (.t 9) (oC 0)),oA 11 (.pick (.t 6) (.t 10) (.c (.v (.bool false)))),oNn 12 0 1,oPp 1 12 11] [1,2] [[1],[2]]) <| .seq (oR [oL 13 2 1,oPp 2 2 13] [2] [[2]]) <| .ret,[.cell 2 (some 2)]⟩

def Qco : CF := ⟨2,.seq (oR [oEe 2 0,oEe 3 1,oA 4 (.mov (oC 0))] [2,3] [[2],[3]]) <| .seq (.seq (.blk 0 <| .seq (oR [oNn 6 0 2,oDd 7 6,oNn 8 0 3,oDd 9 8,oA 10 (.binb true (.t 7) (.t 9)),oM 11 10,oG 12 11 true (.fad 0 (.t 2)),oG 13 11 true (.load none (.t 12)),oA 14 (.pick (.t 11) (.t 13) (.c (.v (.bool false)))),oM 5 14] [2,3,5] [[2],[3]]) <| .cond (.t 5) (.seq (oR [oA 4 (.mov (oC (-1)))] [4] []) <| .ret) <| .seq (oR [oNn 16 0 2,oDd 17 16,oNn 18 0 3,oDd 19 18,oA 20 (.binb true (.t 17) (.t 19)),oM 15 20] [2,3,15] [[2],[3]]) <| .cond (.t 15) (.seq (oR [oA 4 (.mov (oC 1))] [4] []) <| .ret) <| .seq (oR [oNn 22 0 2,oDd 23 22,oM 21 23] [2,3,21] [[2],[3]]) <| .cond (.t 21) (.seq (oR [oNn 24 1 3,oDd 25 24,oNn 26 1 2,oDd 27 26,oJ 28 Qcl [25,27],oM 4 28] [4] []) <| .ret) <| .skip) <| .keep [2,3] [[2],[3]]) <| .seq (oR [oNn 29 1 2,oDd 30 29,oNn 31 1 3,oDd 32 31,oJ 33 Qcl [30,32],oM 4 33] [4] []) <| .ret,[.t 4]⟩

def QhS : CF := ⟨1,.seq (oR [oA 2 (.new [.v (.bool false),.z true])] [0,2] [[2]]) <| .seq (oR [oM 4 0,oA 5 (.conv (.int .u64) (.t 4)),oM 3 5] [0,2,3] [[2]]) <| .seq (.seq (oR [oM 6 0,oA 7 (.bin .lss (.t 6) (oC 0))] [0,2,3,7] [[2]]) <| .cond (.t 7) (oR [oM 8 3,oA 9 (.un .neg (.t 8)),oM 3 9] [0,2,3] [[2]]) <| .skip) <| .seq (oR [oM 10 0,oA 11 (.bin .lss (.t 10) (oC 0)),oM 12 3,oJ 13 Qbt [11,12],oPp 2 2 13] [2] [[2]]) <| .ret,[.cell 2 (some 2)]⟩

def QcG : C :=
 .seq (.seq (oR [oBb 57 .lss 56 55] [2,3,4,6,7,8,9,10,47,48,49,54,55,56,57] [[2],[3],[4],[46]]) <| .seq (.cond (.t 57) (.skip) <| .seq (.keep [2,3,4,6,7,8,10,47,48,49] [[2],[3],[4],[46]]) <| .exit 2) <| .seq (.seq (.blk 3 <| .seq (oR [oM 58 56,oXx 59 1 54 56,oDd 60 59,oM 11 58,oM 12 60] [2,3,4,6,7,8,9,10,11,12,47,48,49,54,55,56] [[2],[3],[4],[46]]) <| .seq (oR [oM 61 7,oM 62 8,oM 63 11,oBb 64 .add 62 63,oXx 65 1 61 64,oDd 66 65,oM 67 9,oM 68 12,oBb 69 .mul 67 68,oBb 70 .add 66 69,oM 71 10,oBb 72 .add 70 71,oM 13 72] [2,3,4,6,7,8,9,11,13,47,48,49,54,55,56] [[2],[3],[4],[46]]) <| .seq (oR [oM 73 13,oA 74 (.bin .quo (.t 73) (oC 1000000000)),oM 10 74] [2,3,4,6,7,8,9,10,11,13,47,48,49,54,55,56] [[2],[3],[4],[46]]) <| oR [oM 75 7,oM 76 8,oM 77 11,oBb 78 .add 76 77,oM 79 13,oM 80 10,oA 81 (.bin .mul (.t 80) (oC 1000000000)),oBb 82 .sub 79 81,oXx 83 1 75 78,oPp 1 83 82] [2,3,4,6,7,8,9,10,47,48,49,54,55,56] [[2],[3],[4],[46]]) <| .keep [2,3,4,6,7,8,9,10,47,48,49,54,55,56] [[2],[3],[4],[46]]) <| oR [oA 84 (.bin .add (.t 56) (oC 1)),oM 56 84] [2,3,4,6,7,8,9,10,47,48,49,54,55,56] [[2],[3],[4],[46]]) <| .keep [2,3,4,6,7,8,9,10,47,48,49,54,55,56] [[2],[3],[4],[46]]
def QcE : C :=
 .seq (.seq (oR [oBb 50 .lss 49 48] [2,3,4,6,7,47,48,49,50] [[2],[3],[4],[46]]) <| .seq (.cond (.t 50) (.skip) <| .seq (.keep [2,3,4,7] [[2],[3],[4],[46]]) <| .exit 0) <| .seq (.seq (.blk 1 <| .seq (oR [oM 51 49,oXx 52 1 47 49,oDd 53 52,oM 8 51,oM 9 53] [2,3,4,6,7,8,9,47,48,49] [[2],[3],[4],[46]]) <| .seq (oR [oA 10 (.mov (oC 0))] [2,3,4,6,7,8,9,10,47,48,49] [[2],[3],[4],[46]]) <| .seq (.seq (oR [oM 54 6,oQq 55 54,oA 56 (.mov (oC 0))] [2,3,4,6,7,8,9,10,47,48,49,54,55,56] [[2],[3],[4],[46]]) <| .seq (.blk 2 <| .seq (.keep [2,3,4,6,7,8,9,10,47,48,49,54,55,56] [[2],[3],[4],[46]]) <| .loop QcG) <| .keep [2,3,4,6,7,8,10,47,48,49] [[2],[3],[4],[46]]) <| oR [oM 85 7,oM 86 8,oM 87 6,oQq 88 87,oBb 89 .add 86 88,oM 90 10,oXx 91 1 85 89,oPp 1 91 90] [2,3,4,6,7,47,48,49] [[2],[3],[4],[46]]) <| .keep [2,3,4,6,7,47,48,49] [[2],[3],[4],[46]]) <| oR [oA 92 (.bin .add (.t 49) (oC 1)),oM 49 92] [2,3,4,6,7,47,48,49] [[2],[3],[4],[46]]) <| .keep [2,3,4,6,7,47,48,49] [[2],[3],[4],[46]]
def Qeo : CF := ⟨2,.seq (oR [oEe 2 0,oEe 3 1,oA 4 (.new [.v (.bool false),.z true])] [2,3,4] [[2],[3],[4]]) <| .seq (oR [oNn 14 1 2,oDd 15 14,oNn 16 1 3,oDd 17 16,oM 5 15,oM 6 17] [2,3,4,5,6] [[2],[3],[4]]) <| .seq (.seq (oR [oM 18 5,oQq 19 18,oA 20 (.bin .eql (.t 19) (oC 1)),oM 21 20,oHh 22 21 true 6,oG 23 21 true (.len (.t 22)),oG 24 21 true (.bin .eql (.t 23) (oC 1)),oA 25 (.pick (.t 21) (.t 24) (.c (.v (.bool false))))] [2,3,4,5,6,25] [[2],[3],[4]]) <| .cond (.t 25) (.seq (oR [oNn 26 0 2,oDd 27 26,oNn 28 0 3,oDd 29 28,oA 30 (.binb true (.t 27) (.t 29)),oM 31 5,oA 32 (.ixa 1 (.t 31) (oC 0)),oDd 33 32,oA 34 (.conv (.int .u64) (.t 33)),oM 35 6,oA 36 (.ixa 1 (.t 35) (oC 0)),oDd 37 36,oA 38 (.conv (.int .u64) (.t 37)),oBb 39 .mul 34 38,oJ 40 Qbt [30,39],oPp 2 4 40] [4] [[4]]) <| .ret) <| .skip) <| .seq (oR [oM 41 5,oQq 42 41,oM 43 6,oQq 44 43,oBb 45 .add 42 44,oA 46 (.mksl 1 8 [.v (.int .i64 0)] (.t 45) (.t 45)),oM 7 46] [2,3,4,5,6,7] [[2],[3],[4],[46]]) <| .seq (.seq (oR [oM 47 5,oQq 48 47,oA 49 (.mov (oC 0))] [2,3,4,6,7,47,48,49] [[2],[3],[4],[46]]) <| .seq (.blk 0 <| .seq (.keep [2,3,4,6,7,47,48,49] [[2],[3],[4],[46]]) <| .loop QcE) <| .keep [2,3,4,7] [[2],[3],[4],[46]]) <| .seq (.seq (.frz 7) <| oR [oNn 93 0 2,oDd 94 93,oNn 95 0 3,oDd 96 95,oA 97 (.binb true (.t 94) (.t 96)),oM 98 7,oJ 99 Qbn [97,98],oPp 2 4 99] [4] [[4]]) <| .ret,[.cell 4 (some 2)]⟩

def Qfw : CF := ⟨2,.seq (oR [oEe 2 0,oEe 3 1,oA 4 (.new [.v (.bool false),.z true])] [2,3,4] [[2],[3],[4]]) <| .seq (.seq (.blk 0 <| .seq (oR [oNn 6 0 2,oDd 7 6,oNn 8 0 3,oDd 9 8,oA 10 (.binb false (.t 7) (.t 9)),oM 5 10] [2,3,4,5] [[2],[3],[4]]) <| .cond (.t 5) (.seq (oR [oNn 11 0 2,oDd 12 11,oNn 13 1 2,oDd 14 13,oNn 15 1 3,oDd 16 15,oJ 17 Qdn [14,16],oJ 18 Qbn [12,17],oPp 2 4 18] [4] [[4]]) <| .ret) <| .seq (oR [oNn 20 1 2,oDd 21 20,oNn 22 1 3,oDd 23 22,oJ 24 Qcl [21,23],oA 25 (.bin .lss (.t 24) (oC 0)),oM 19 25] [2,3,4,19] [[2],[3],[4]]) <| .cond (.t 19) (.seq (oR [oNn 26 0 3,oDd 27 26,oNn 28 1 3,oDd 29 28,oNn 30 1 2,oDd 31 30,oJ 32 QdM [29,31],oJ 33 Qbn [27,32],oPp 2 4 33] [4] [[4]]) <| .ret) <| .skip) <| .keep [2,3,4] [[2],[3],[4]]) <| .seq (oR [oNn 34 0 2,oDd 35 34,oNn 36 1 2,oDd 37 36,oNn 38 1 3,oDd 39 38,oJ 40 QdM [37,39],oJ 41 Qbn [35,40],oPp 2 4 41] [4] [[4]]) <| .ret,[.cell 4 (some 2)]⟩

def QhV : CF := ⟨2,.seq (oR [oEe 2 0,oEe 3 1,oA 4 (.new oZ4)] [2,3,4] [[2],[3],[4]]) <| .seq (.seq (oR [oNn 6 1 3,oDd 7 6,oQq 8 7,oA 9 (.bin .eql (.t 8) (oC 0)),oM 10 9,oG 11 10 false (.fad 1 (.t 2)),oG 12 10 false (.load none (.t 11)),oG 13 10 false (.len (.t 12)),oG 14 10 false (.bin .eql (.t 13) (oC 0)),oA 15 (.pick (.t 10) (.c (.v (.bool true))) (.t 14))] [2,3,4,15] [[2],[3],[4]]) <| .cond (.t 15) (.seq (oR [oA 16 (.build oZ4 []),oPp 4 4 16] [4] [[4]]) <| .ret) <| .skip) <| .seq (.seq (oR [oL 17 2 2,oL 18 2 3,oJ 19 Qi2 [17,18],oA 5 (.new [.v (.bool false),.z true]),oPp 2 5 19] [2,3,4,5] [[2],[3],[4],[5]]) <| .seq (oR [oL 20 2 5,oJ 21 QjJ [20],oA 22 (.un .not (.t 21))] [2,3,4,5,22] [[2],[3],[4],[5]]) <| .cond (.t 22) (.seq (oR [oL 24 2 2,oL 25 2 5,oJ 26 QgR [24,25],oM 23 26,oA 27 (.ext (.t 23) 0),oA 28 (.ext (.t 23) 1),oPp 2 2 27] [2,3,4,5] [[2],[3],[4],[5]]) <| oR [oL 30 2 3,oL 31 2 5,oJ 32 QgR [30,31],oM 29 32,oA 33 (.ext (.t 29) 0),oA 34 (.ext (.t 29) 1),oPp 2 3 33] [2,3,4] [[2],[3],[4]]) <| .skip) <| .seq (oR [oL 35 2 2,oL 36 2 3,oJ 37 QfM [35,36],oPp 4 4 37] [4] [[4]]) <| .ret,[.cell 4 (some 4)]⟩

def Qat : C :=
 .seq (.seq (.seq (oR [oM 19 5,oA 20 (.bin .geq (.t 19) (oC 0))] [0,1,5,20] []) <| .cond (.t 20) (.skip) <| .seq (.keep [] []) <| .exit 0) <| .seq (.seq (.blk 1 <| .seq (.seq (oR [oM 23 0,oM 24 5,oXx 25 1 23 24,oDd 26 25,oM 27 1,oM 28 5,oXx 29 1 27 28,oDd 30 29,oBb 31 .lss 26 30] [0,1,5,31] []) <| .cond (.t 31) (.seq (oR [oA 4 (.mov (oC (-1)))] [4] []) <| .ret) <| .skip) <| .seq (oR [oM 32 0,oM 33 5,oXx 34 1 32 33,oDd 35 34,oM 36 1,oM 37 5,oXx 38 1 36 37,oDd 39 38,oBb 40 .gtr 35 39] [0,1,5,40] []) <| .cond (.t 40) (.seq (oR [oA 4 (.mov (oC 1))] [4] []) <| .ret) <| .skip) <| .keep [0,1,5] []) <| oR [oM 21 5,oA 22 (.bin .sub (.t 21) (oC 1)),oM 5 22] [0,1,5] []) <| .keep [0,1,5] []
def Qa7 : CF := ⟨2,.seq (oR [oA 4 (.mov (oC 0))] [0,1] []) <| .seq (.seq (oR [oM 6 0,oQq 7 6,oM 8 1,oQq 9 8,oBb 10 .lss 7 9] [0,1,10] []) <| .cond (.t 10) (.seq (oR [oA 4 (.mov (oC (-1)))] [4] []) <| .ret) <| .skip) <| .seq (.seq (oR [oM 11 0,oQq 12 11,oM 13 1,oQq 14 13,oBb 15 .gtr 12 14] [0,1,15] []) <| .cond (.t 15) (.seq (oR [oA 4 (.mov (oC 1))] [4] []) <| .ret) <| .skip) <| .seq (.seq (oR [oM 16 0,oQq 17 16,oA 18 (.bin .sub (.t 17) (oC 1)),oM 5 18] [0,1,5] []) <| .seq (.blk 0 <| .seq (.keep [0,1,5] []) <| .loop Qat) <| .keep [] []) <| .seq (oR [oA 4 (.mov (oC 0))] [4] []) <| .ret,[.t 4]⟩

def QaO : C :=
 .seq (.seq (.seq (oR [oM 8 5,oA 9 (.bin .gtr (.t 8) (oC 0)),oM 10 9,oHh 11 10 true 1,oHh 12 10 true 5,oG 13 10 true (.bin .sub (.t 12) (oC 1)),oG 14 10 true (.mx [(.t 13),(oC 0)]),oG 15 10 true (.ixa 1 (.t 11) (.t 14)),oG 16 10 true (.load none (.t 15)),oG 17 10 true (.bin .eql (.t 16) (oC 0)),oA 18 (.pick (.t 10) (.t 17) (.c (.v (.bool false))))] [0,1,4,5,18] [[4]]) <| .cond (.t 18) (.skip) <| .seq (.keep [0,1,4,5] [[4]]) <| .exit 0) <| .seq (.blk 1 <| oR [oM 19 5,oA 20 (.bin .sub (.t 19) (oC 1)),oM 5 20] [0,1,4,5] [[4]]) <| .keep [0,1,4,5] [[4]]) <| .keep [0,1,4,5] [[4]]
def QcH : CF := ⟨2,.seq (oR [oA 4 (.new [.v (.bool false),.z true])] [0,1,4] [[4]]) <| .seq (oR [oM 6 1,oQq 7 6,oM 5 7] [0,1,4,5] [[4]]) <| .seq (.seq (.blk 0 <| .seq (.keep [0,1,4,5] [[4]]) <| .loop QaO) <| .keep [0,1,4,5] [[4]]) <| .seq (.seq (oR [oM 21 5,oA 22 (.bin .eql (.t 21) (oC 0))] [0,1,4,5,22] [[4]]) <| .cond (.t 22) (.seq (oR [oA 23 (.build [.v (.bool false),.z true] []),oPp 2 4 23] [4] [[4]]) <| .ret) <| .skip) <| .seq (oR [oM 24 0,oM 25 1,oM 26 5,oA 27 (.slc 1 (.t 25) none (some (.t 26)) none),oA 28 (.build [.v (.bool false),.z true] [(0,1,(.t 24)),(1,1,(.t 27))]),oPp 2 4 28] [4] [[4]]) <| .ret,[.cell 4 (some 2)]⟩

def Qcg : C :=
 .seq (.seq (.seq (oR [oM 38 8,oA 39 (.bin .gtr (.t 38) (oC 0))] [4,7,8,39] [[4]]) <| .cond (.t 39) (.skip) <| .seq (.keep [4,7] [[4]]) <| .exit 2) <| .seq (.blk 3 <| .seq (oR [oM 40 7,oM 41 8,oBb 42 .rem 40 41,oM 9 42] [4,8,9] [[4]]) <| .seq (oR [oM 43 8,oM 7 43] [4,7,9] [[4]]) <| oR [oM 44 9,oM 8 44] [4,7,8] [[4]]) <| .keep [4,7,8] [[4]]) <| .keep [4,7,8] [[4]]
def Qa8 : C :=
 .seq (.seq (.seq (oR [oNn 18 1 6,oDd 19 18,oQq 20 19,oA 21 (.bin .gtr (.t 20) (oC 0))] [4,5,6,21] [[4],[5],[6]]) <| .cond (.t 21) (.skip) <| .seq (.keep [4,5] [[4],[5]]) <| .exit 0) <| .seq (.blk 1 <| .seq (.seq (oR [oNn 22 1 5,oDd 23 22,oQq 24 23,oA 25 (.bin .leq (.t 24) (oC 2)),oM 26 25,oG 27 26 true (.fad 1 (.t 6)),oG 28 26 true (.load none (.t 27)),oG 29 26 true (.len (.t 28)),oG 30 26 true (.bin .leq (.t 29) (oC 2)),oA 31 (.pick (.t 26) (.t 30) (.c (.v (.bool false))))] [4,5,6,31] [[4],[5],[6]]) <| .cond (.t 31) (.seq (oR [oNn 32 1 5,oDd 33 32,oJ 34 Qbv [33],oM 7 34] [4,6,7] [[4],[6]]) <| .seq (oR [oNn 35 1 6,oDd 36 35,oJ 37 Qbv [36],oM 8 37] [4,7,8] [[4]]) <| .seq (.seq (.blk 2 <| .seq (.keep [4,7,8] [[4]]) <| .loop Qcg) <| .keep [4,7] [[4]]) <| .seq (oR [oM 45 7,oJ 46 QbA [45],oPp 2 4 46] [4] [[4]]) <| .ret) <| .skip) <| .seq (oR [oL 48 2 5,oL 49 2 6,oJ 50 Qc4 [48,49],oM 47 50,oA 51 (.ext (.t 47) 0),oA 52 (.ext (.t 47) 1),oA 10 (.new [.v (.bool false),.z true]),oA 11 (.new [.v (.bool false),.z true]),oPp 2 10 51,oPp 2 11 52] [4,5,6,11] [[4],[5],[6],[11]]) <| .seq (oR [oL 53 2 6,oPp 2 5 53] [4,5,6,11] [[4],[5],[6],[11]]) <| oR [oL 54 2 11,oPp 2 6 54] [4,5,6] [[4],[5],[6]]) <| .keep [4,5,6] [[4],[5],[6]]) <| .keep [4,5,6] [[4],[5],[6]]
def QdL : CF := ⟨2,.seq (oR [oEe 2 0,oEe 3 1,oA 4 (.new [.v (.bool false),.z true])] [2,3,4] [[2],[3],[4]]) <| .seq (oR [oNn 12 1 2,oDd 13 12,oA 14 (.call Qal [(.c (.v (.bool false))),(.t 13)] false),oA 5 (.new [.v (.bool false),.z true]),oPp 2 5 14] [3,4,5] [[3],[4],[5]]) <| .seq (oR [oNn 15 1 3,oDd 16 15,oA 17 (.call Qal [(.c (.v (.bool false))),(.t 16)] false),oA 6 (.new [.v (.bool false),.z true]),oPp 2 6 17] [4,5,6] [[4],[5],[6]]) <| .seq (.seq (.blk 0 <| .seq (.keep [4,5,6] [[4],[5],[6]]) <| .loop Qa8) <| .keep [4,5] [[4],[5]]) <| .seq (oR [oL 55 2 5,oPp 2 4 55] [4] [[4]]) <| .ret,[.cell 4 (some 2)]⟩

def QcO : CF := ⟨2,.seq (oR [oEe 2 0,oEe 3 1,oA 4 (.new [.v (.bool false),.z true]),oA 5 (.new [.v (.bool false),.z true])] [2,3,4,5] [[2],[3],[4],[5]]) <| .seq (.seq (oR [oNn 10 1 3,oDd 11 10,oQq 12 11,oA 13 (.bin .eql (.t 12) (oC 0))] [2,3,4,5,13] [[2],[3],[4],[5]]) <| .cond (.t 13) (.seq (oR [oA 14 (.build [.v (.bool false),.z true] []),oA 15 (.build [.v (.bool false),.z true] []),oPp 2 4 14,oPp 2 5 15] [4,5] [[4],[5]]) <| .ret) <| .skip) <| .seq (oR [oNn 17 1 2,oDd 18 17,oNn 19 1 3,oDd 20 19,oJ 21 QeD [18,20],oM 16 21,oA 22 (.ext (.t 16) 0),oA 23 (.ext (.t 16) 1),oM 6 22,oM 7 23] [2,3,4,5,6,7] [[2],[3],[4],[5]]) <| .seq (oR [oNn 24 0 2,oDd 25 24,oNn 26 0 3,oDd 27 26,oA 28 (.binb true (.t 25) (.t 27)),oM 29 6,oJ 30 Qal [28,29],oA 8 (.new [.v (.bool false),.z true]),oPp 2 8 30] [2,3,4,5,7,8] [[2],[3],[4],[5],[8]]) <| .seq (oR [oM 31 7,oA 32 (.call Qal [(.c (.v (.bool false))),(.t 31)] false),oA 9 (.new [.v (.bool false),.z true]),oPp 2 9 32] [2,3,4,5,8,9] [[2],[3],[4],[5],[8],[9]]) <| .seq (.seq (oR [oNn 33 0 2,oDd 34 33,oM 35 34,oG 36 35 true (.fad 1 (.t 9)),oG 37 35 true (.load none (.t 36)),oG 38 35 true (.len (.t 37)),oG 39 35 true (.bin .gtr (.t 38) (oC 0)),oA 40 (.pick (.t 35) (.t 39) (.c (.v (.bool false))))] [2,3,4,5,8,9,40] [[2],[3],[4],[5],[8],[9]]) <| .cond (.t 40) (.seq (oR [oL 41 2 8,oNn 42 0 2,oDd 43 42,oNn 44 0 3,oDd 45 44,oA 46 (.binb true (.t 43) (.t 45)),oA 47 (.lit 1 1 [.v (.int .i64 0)] [(0,(oC 1))] true),oJ 48 Qal [46,47],oJ 49 Qeh [41,48],oPp 2 8 49] [3,4,5,8,9] [[3],[4],[5],[8],[9]]) <| oR [oNn 50 1 3,oDd 51 50,oNn 52 1 9,oDd 53 52,oJ 54 Qb7 [51,53],oA 55 (.call Qal [(.c (.v (.bool false))),(.t 54)] false),oPp 2 9 55] [4,5,8,9] [[4],[5],[8],[9]]) <| .skip) <| .seq (.seq (.reg [oL 56 2 8,oL 57 2 9,oPp 2 4 56,oPp 2 5 57] [((.t 9),2,(.t 4),2)]) <| .keep [4,5] [[4],[5]]) <| .ret,[.cell 4 (some 2),.cell 5 (some 2)]⟩

def QdZ : CF := ⟨1,.seq (oR [oEe 1 0,oA 2 (.mov (.c (.v (.bool false))))] [1] [[1]]) <| .seq (.seq (oR [oNn 3 0 1,oDd 4 3,oM 5 4,oG 6 5 false (.fad 1 (.t 1)),oG 7 5 false (.load none (.t 6)),oG 8 5 false (.len (.t 7)),oG 9 5 false (.bin .neq (.t 8) (oC 1)),oA 10 (.pick (.t 5) (.c (.v (.bool true))) (.t 9))] [1,10] [[1]]) <| .cond (.t 10) (.seq (oR [oA 2 (.mov (.c (.v (.bool false))))] [2] []) <| .ret) <| .skip) <| .seq (oR [oNn 11 1 1,oDd 12 11,oA 13 (.ixa 1 (.t 12) (oC 0)),oDd 14 13,oA 15 (.bin .eql (.t 14) (oC 1)),oM 2 15] [2] []) <| .ret,[.t 2]⟩

def QaR : C :=
 .seq (.seq (.seq (oR [oM 9 7,oM 10 0,oQq 11 10,oBb 12 .lss 9 11,oM 13 12,oHh 14 13 false 7,oHh 15 13 false 1,oG 16 13 false (.len (.t 15)),oG 17 13 false (.bin .lss (.t 14) (.t 16)),oA 18 (.pick (.t 13) (.c (.v (.bool true))) (.t 17)),oM 19 18,oHh 20 19 false 6,oG 21 19 false (.bin .gtr (.t 20) (oC 0)),oA 22 (.pick (.t 19) (.c (.v (.bool true))) (.t 21))] [0,1,5,6,7,22] [[38]]) <| .cond (.t 22) (.skip) <| .seq (.keep [5] [[38]]) <| .exit 0) <| .seq (.seq (.blk 1 <| .seq (oR [oM 25 0,oM 26 7,oJ 27 QbF [25,26],oM 28 1,oM 29 7,oJ 30 QbF [28,29],oBb 31 .add 27 30,oM 32 6,oBb 33 .add 31 32,oM 8 33] [0,1,5,7,8] [[38]]) <| .seq (oR [oM 34 5,oM 35 8,oA 36 (.bin .rem (.t 35) (oC 1000000000)),oA 37 (.lit 1 1 [.v (.int .i64 0)] [(0,(.t 36))] true),oA 38 (.app 1 8 (.t 34) (.t 37) false),oM 5 38] [0,1,5,7,8] [[38]]) <| oR [oM 39 8,oA 40 (.bin .quo (.t 39) (oC 1000000000)),oM 6 40] [0,1,5,6,7] [[38]]) <| .keep [0,1,5,6,7] [[38]]) <| oR [oM 23 7,oA 24 (.bin .add (.t 23) (oC 1)),oM 7 24] [0,1,5,6,7] [[38]]) <| .keep [0,1,5,6,7] [[38]]
def Qdr : CF := ⟨2,.seq (oR [oA 4 (.mov (.c (.z true)))] [0,1] []) <| .seq (oR [oA 5 (.mov (.c (.z true)))] [0,1,5] [[38]]) <| .seq (oR [oA 6 (.mov (oC 0))] [0,1,5,6] [[38]]) <| .seq (.seq (oR [oA 7 (.mov (oC 0))] [0,1,5,6,7] [[38]]) <| .seq (.blk 0 <| .seq (.keep [0,1,5,6,7] [[38]]) <| .loop QaR) <| .keep [5] [[38]]) <| .seq (oR [oM 41 5,oM 4 41] [4] [[38]]) <| .ret,[.t 4]⟩

def QaE : C :=
 .seq (.seq (.seq (oR [oM 9 7,oM 10 0,oQq 11 10,oBb 12 .lss 9 11] [0,1,5,6,7,12] [[32]]) <| .cond (.t 12) (.skip) <| .seq (.keep [5] [[32]]) <| .exit 0) <| .seq (.seq (.blk 1 <| .seq (oR [oM 15 0,oM 16 7,oXx 17 1 15 16,oDd 18 17,oM 19 1,oM 20 7,oJ 21 QbF [19,20],oBb 22 .sub 18 21,oM 23 6,oBb 24 .sub 22 23,oM 8 24] [0,1,5,7,8] [[32]]) <| .seq (oR [oA 6 (.mov (oC 0))] [0,1,5,6,7,8] [[32]]) <| .seq (.seq (oR [oM 25 8,oA 26 (.bin .lss (.t 25) (oC 0))] [0,1,5,6,7,8,26] [[32]]) <| .cond (.t 26) (.seq (oR [oM 27 8,oA 28 (.bin .add (.t 27) (oC 1000000000)),oM 8 28] [0,1,5,7,8] [[32]]) <| oR [oA 6 (.mov (oC 1))] [0,1,5,6,7,8] [[32]]) <| .skip) <| oR [oM 29 5,oM 30 8,oA 31 (.lit 1 1 [.v (.int .i64 0)] [(0,(.t 30))] true),oA 32 (.app 1 8 (.t 29) (.t 31) false),oM 5 32] [0,1,5,6,7] [[32]]) <| .keep [0,1,5,6,7] [[32]]) <| oR [oM 13 7,oA 14 (.bin .add (.t 13) (oC 1)),oM 7 14] [0,1,5,6,7] [[32]]) <| .keep [0,1,5,6,7] [[32]]
def Qc2 : CF := ⟨2,.seq (oR [oA 4 (.mov (.c (.z true)))] [0,1] []) <| .seq (oR [oA 5 (.mov (.c (.z true)))] [0,1,5] [[32]]) <| .seq (oR [oA 6 (.mov (oC 0))] [0,1,5,6] [[32]]) <| .seq (.seq (oR [oA 7 (.mov (oC 0))] [0,1,5,6,7] [[32]]) <| .seq (.blk 0 <| .seq (.keep [0,1,5,6,7] [[32]]) <| .loop QaE) <| .keep [5] [[32]]) <| .seq (oR [oM 33 5,oM 4 33] [4] [[32]]) <| .ret,[.t 4]⟩

def Qpu : CF := ⟨2,.seq (oR [oEe 2 0,oEe 3 1,oA 4 (.new oZ4)] [2,3,4] [[2],[3],[4]]) <| .seq (oR [oL 5 4 2,oL 6 4 3,oJ 7 QiI [6],oJ 8 Qgl [5,7],oPp 4 4 8] [4] [[4]]) <| .ret,[.cell 4 (some 4)]⟩

def slices_AppendSeq_2_api_Rat_2_api_Rat_a0 : C :=
 oR [oA 5 (.new oZ8),oPp 8 5 7] [2,5] [[2],[5],[11]]
def slices_AppendSeq_2_api_Rat_2_api_Rat_b0 : C :=
 .seq (.blk 1 <| oR [oDd 8 2,oL 9 8 5,oA 10 (.lit 8 1 oZ8 [(0,(.t 9))] true),oA 11 (.app 8 128 (.t 8) (.t 10) false),oPp 1 2 11] [] [[2],[11]]) <| .keep [] [[2],[11]]
def QaL : CF := ⟨2,.seq (oR [oEe 2 0,oA 4 (.mov (.c (.z true)))] [1,2] [[2],[11]]) <| .seq (.seq (oR [oM 6 1] [2,6] [[2],[11]]) <| .seq (.blk 0 <| .seq (.rfn (.t 6) [7] slices_AppendSeq_2_api_Rat_2_api_Rat_a0 slices_AppendSeq_2_api_Rat_2_api_Rat_b0 [2] [[2]]) <| .keep [2] [[2],[11]]) <| .keep [2] [[2],[11]]) <| .seq (oR [oDd 12 2,oM 4 12] [4] [[11]]) <| .ret,[.t 4]⟩

def sturm_zeros_1 : CF := ⟨3,.seq (oR [oEe 3 0] [1,2,3] [[3]]) <| .seq (oR [oA 4 (.new [.v (.nilFunc)])] [1,2,3,4] [[3],[4]]) <| .seq (oR [oA 5 (.mkfn Qao [.t 1,.t 3,.t 4] true),oPp 1 4 5] [2,4] [[4]]) <| oR [oDd 6 4,oL 7 8 2,oA 8 (.calv (.t 6) [.t 7])] [] [],[]⟩

def sturm_zeros_1_1 : CF := ⟨4,.seq (oR [oEe 4 0,oA 5 (.mov (.c (.v (.bool false))))] [1,2,3,4] [[4]]) <| .seq (.seq (oR [oDd 7 1,oNn 8 0 4,oL 9 4 8,oNn 10 4 4,oL 11 4 10,oJ 12 Qfu [7,9,11]] [2,3,4,12] [[4]]) <| .seq (.blk 0 <| .seq (oR [oA 14 (.bin .eql (.t 12) (oC 0)),oM 13 14] [2,3,4,12,13] [[4]]) <| .cond (.t 13) (.seq (oR [oA 5 (.mov (.c (.v (.bool true))))] [5] []) <| .ret) <| .seq (oR [oA 16 (.bin .eql (.t 12) (oC 1)),oM 15 16] [2,3,4,15] [[4]]) <| .cond (.t 15) (.seq (oR [oDd 17 2,oL 18 8 4,oA 19 (.calv (.t 17) [.t 18]),oM 5 19] [5] []) <| .ret) <| .skip) <| .keep [3,4] [[4]]) <| .seq (oR [oL 20 8 4,oJ 21 Qf7 [20],oA 6 (.new oZ4),oPp 4 6 21] [3,4,6] [[4],[6]]) <| .seq (oR [oDd 22 3,oNn 23 0 4,oL 24 4 23,oL 25 4 6,oA 26 (.build oZ8 [(0,4,(.t 24)),(4,4,(.t 25))]),oA 27 (.calv (.t 22) [.t 26]),oM 28 27,oG 29 28 true (.load none (.t 3)),oG 30 28 true (.load (some 4) (.t 6)),oG 31 28 true (.fad 4 (.t 4)),oG 32 28 true (.load (some 4) (.t 31)),oG 33 28 true (.build oZ8 [(0,4,(.t 30)),(4,4,(.t 32))]),oG 34 28 true (.calv (.t 29) [.t 33]),oA 35 (.pick (.t 28) (.t 34) (.c (.v (.bool false)))),oM 5 35] [5] []) <| .ret,[.t 5]⟩

def slices_Backward_api_Poly_api_Rat_1_l0 : C :=
 .seq (.seq (.seq (oR [oM 7 3,oA 8 (.bin .geq (.t 7) (oC 0))] [0,1,3,8] []) <| .cond (.t 8) (.skip) <| .seq (.keep [] []) <| .exit 0) <| .seq (.seq (.blk 1 <| .seq (oR [oM 11 0,oM 12 3,oDd 13 1,oM 14 3,oXx 15 4 13 14,oL 16 4 15,oA 17 (.calv (.t 11) [.t 12,.t 16]),oA 18 (.un .not (.t 17))] [0,1,3,18] []) <| .cond (.t 18) (.ret) <| .skip) <| .keep [0,1,3] []) <| oR [oM 9 3,oA 10 (.bin .sub (.t 9) (oC 1)),oM 3 10] [0,1,3] []) <| .keep [0,1,3] []
def slices_Backward_api_Poly_api_Rat_1 : CF := ⟨2,.seq (oR [oDd 4 1,oQq 5 4,oA 6 (.bin .sub (.t 5) (oC 1)),oM 3 6] [0,1,3] []) <| .seq (.blk 0 <| .seq (.keep [0,1,3] []) <| .loop slices_Backward_api_Poly_api_Rat_1_l0) <| .keep [] [],[]⟩

def Qiz : CF := ⟨1,.seq (oR [oEe 1 0,oA 2 (.mov (.c (.v (.bool false))))] [1] [[1]]) <| .seq (oR [oNn 3 0 1,oDd 4 3,oA 5 (.un .not (.t 4)),oM 6 5,oG 7 6 true (.fad 1 (.t 1)),oG 8 6 true (.load none (.t 7)),oG 9 6 true (.len (.t 8)),oG 10 6 true (.bin .eql (.t 9) (oC 1)),oA 11 (.pick (.t 6) (.t 10) (.c (.v (.bool false)))),oM 12 11,oG 13 12 true (.fad 1 (.t 1)),oG 14 12 true (.load none (.t 13)),oG 15 12 true (.ixa 1 (.t 14) (oC 0)),oG 16 12 true (.load none (.t 15)),oG 17 12 true (.bin .eql (.t 16) (oC 1)),oA 18 (.pick (.t 12) (.t 17) (.c (.v (.bool false)))),oM 2 18] [2] []) <| .ret,[.t 2]⟩

def Qpw : CF := ⟨0,.seq (oR [oA 0 (.new [.v (.bool false),.z true])] [0] [[0]]) <| .seq (oR [oA 1 (.call QdD [(oC 1)] false),oPp 2 0 1] [0] [[0]]) <| .ret,[.cell 0 (some 2)]⟩

def Qa9 : C :=
 .seq (.seq (.seq (oR [oM 19 5,oA 20 (.bin .geq (.t 19) (oC 0))] [0,1,5,20] []) <| .cond (.t 20) (.skip) <| .seq (.keep [] []) <| .exit 0) <| .seq (.seq (.blk 1 <| .seq (oR [oM 23 0,oM 24 5,oXx 25 1 23 24,oDd 26 25,oM 27 1,oM 28 5,oXx 29 1 27 28,oDd 30 29,oBb 31 .neq 26 30] [0,1,5,31] []) <| .cond (.t 31) (.seq (oR [oM 32 0,oM 33 5,oXx 34 1 32 33,oDd 35 34,oM 36 1,oM 37 5,oXx 38 1 36 37,oDd 39 38,oJ 40 Qen [35,39],oM 4 40] [4] []) <| .ret) <| .skip) <| .keep [0,1,5] []) <| oR [oM 21 5,oA 22 (.bin .sub (.t 21) (oC 1)),oM 5 22] [0,1,5] []) <| .keep [0,1,5] []
def QcS : CF := ⟨2,.seq (oR [oA 4 (.mov (oC 0))] [0,1] []) <| .seq (.seq (oR [oM 6 0,oQq 7 6,oM 8 1,oQq 9 8,oBb 10 .neq 7 9] [0,1,10] []) <| .cond (.t 10) (.seq (oR [oM 11 0,oQq 12 11,oM 13 1,oQq 14 13,oJ 15 Qen [12,14],oM 4 15] [4] []) <| .ret) <| .skip) <| .seq (.seq (oR [oM 16 0,oQq 17 16,oA 18 (.bin .sub (.t 17) (oC 1)),oM 5 18] [0,1,5] []) <| .seq (.blk 0 <| .seq (.keep [0,1,5] []) <| .loop Qa9) <| .keep [] []) <| .seq (oR [oA 4 (.mov (oC 0))] [4] []) <| .ret,[.t 4]⟩

def Qca : CF := ⟨2,.seq (oR [oA 4 (.new [.v (.bool false),.z true])] [0,1,4] [[4]]) <| .seq (.seq (.blk 0 <| .seq (oR [oM 6 1,oA 7 (.bin .eql (.t 6) (.c (.v (.int .u64 0)))),oM 5 7] [0,1,4,5] [[4]]) <| .cond (.t 5) (.seq (oR [oA 8 (.build [.v (.bool false),.z true] []),oPp 2 4 8] [4] [[4]]) <| .ret) <| .seq (oR [oM 10 1,oA 11 (.bin .lss (.t 10) (.c (.v (.int .u64 1000000000)))),oM 9 11] [0,1,4,9] [[4]]) <| .cond (.t 9) (.seq (oR [oM 12 0,oM 13 1,oA 14 (.conv (.int .i64) (.t 13)),oA 15 (.lit 1 1 [.v (.int .i64 0)] [(0,(.t 14))] true),oA 16 (.build [.v (.bool false),.z true] [(0,1,(.t 12)),(1,1,(.t 15))]),oPp 2 4 16] [4] [[4]]) <| .ret) <| .seq (oR [oM 18 1,oA 19 (.bin .lss (.t 18) (.c (.v (.int .u64 1000000000000000000)))),oM 17 19] [0,1,4,17] [[4]]) <| .cond (.t 17) (.seq (oR [oM 20 0,oM 21 1,oA 22 (.bin .rem (.t 21) (.c (.v (.int .u64 1000000000)))),oA 23 (.conv (.int .i64) (.t 22)),oM 24 1,oA 25 (.bin .quo (.t 24) (.c (.v (.int .u64 1000000000)))),oA 26 (.conv (.int .i64) (.t 25)),oA 27 (.lit 1 2 [.v (.int .i64 0)] [(0,(.t 23)),(1,(.t 26))] true),oA 28 (.build [.v (.bool false),.z true] [(0,1,(.t 20)),(1,1,(.t 27))]),oPp 2 4 28] [4] [[4]]) <| .ret) <| .skip) <| .keep [0,1,4] [[4]]) <| .seq (oR [oM 29 0,oM 30 1,oA 31 (.bin .rem (.t 30) (.c (.v (.int .u64 1000000000)))),oA 32 (.conv (.int .i64) (.t 31)),oM 33 1,oA 34 (.bin .quo (.t 33) (.c (.v (.int .u64 1000000000)))),oA 35 (.bin .rem (.t 34) (.c (.v (.int .u64 1000000000)))),oA 36 (.conv (.int .i64) (.t 35)),oM 37 1,oA 38 (.bin .quo (.t 37) (.c (.v (.int .u64 1000000000)))),oA 39 (.bin .quo (.t 38) (.c (.v (.int .u64 1000000000)))),oA 40 (.conv (.int .i64) (.t 39)),oA 41 (.lit 1 3 [.v (.int .i64 0)] [(0,(.t 32)),(1,(.t 36)),(2,(.t 40))] true),oA 42 (.build [.v (.bool false),.z true] [(0,1,(.t 29)),(1,1,(.t 41))]),oPp 2 4 42] [4] [[4]]) <| .ret,[.cell 4 (some 2)]⟩

def Qcf : C :=
 .seq (.seq (.seq (oR [oM 8 5,oA 9 (.bin .gtr (.t 8) (oC 0)),oM 10 9,oHh 11 10 true 1,oHh 12 10 true 5,oG 13 10 true (.bin .sub (.t 12) (oC 1)),oG 14 10 true (.ixa 1 (.t 11) (.t 13)),oG 15 10 true (.load none (.t 14)),oG 16 10 true (.bin .eql (.t 15) (oC 0)),oA 17 (.pick (.t 10) (.t 16) (.c (.v (.bool false))))] [0,1,4,5,17] [[4]]) <| .cond (.t 17) (.skip) <| .seq (.keep [0,1,4,5] [[4]]) <| .exit 0) <| .seq (.blk 1 <| oR [oM 18 5,oA 19 (.bin .sub (.t 18) (oC 1)),oM 5 19] [0,1,4,5] [[4]]) <| .keep [0,1,4,5] [[4]]) <| .keep [0,1,4,5] [[4]]
def QhG : CF := ⟨2,.seq (oR [oA 4 (.new [.v (.bool false),.z true])] [0,1,4] [[4]]) <| .seq (oR [oM 6 1,oQq 7 6,oM 5 7] [0,1,4,5] [[4]]) <| .seq (.seq (.blk 0 <| .seq (.keep [0,1,4,5] [[4]]) <| .loop Qcf) <| .keep [0,1,4,5] [[4]]) <| .seq (.seq (oR [oM 20 5,oA 21 (.bin .eql (.t 20) (oC 0))] [0,1,4,5,21] [[4]]) <| .cond (.t 21) (.seq (oR [oA 22 (.build [.v (.bool false),.z true] []),oPp 2 4 22] [4] [[4]]) <| .ret) <| .skip) <| .seq (oR [oM 23 0,oM 24 1,oM 25 5,oM 26 5,oA 27 (.slc 1 (.t 24) none (some (.t 25)) (some (.t 26))),oA 28 (.build [.v (.bool false),.z true] [(0,1,(.t 23)),(1,1,(.t 27))]),oPp 2 4 28] [4] [[4]]) <| .ret,[.cell 4 (some 2)]⟩

def Qbu : C :=
 .seq (.seq (oR [oBb 24 .lss 23 22] [0,1,5,6,21,22,23,24] [[20]]) <| .seq (.cond (.t 24) (.skip) <| .seq (.keep [0,5,6] [[20]]) <| .exit 0) <| .seq (.seq (.blk 1 <| .seq (oR [oM 25 23,oXx 26 1 21 23,oDd 27 26,oM 7 25,oM 8 27] [0,1,5,6,7,8,21,22,23] [[20]]) <| .seq (oR [oM 28 8,oM 29 6,oBb 30 .add 28 29,oM 9 30] [0,1,5,7,9,21,22,23] [[20]]) <| .seq (.seq (oR [oM 31 7,oM 32 1,oQq 33 32,oBb 34 .lss 31 33] [0,1,5,7,9,21,22,23,34] [[20]]) <| .cond (.t 34) (oR [oM 35 9,oM 36 1,oM 37 7,oXx 38 1 36 37,oDd 39 38,oBb 40 .add 35 39,oM 9 40] [0,1,5,7,9,21,22,23] [[20]]) <| .skip) <| .seq (oR [oA 6 (.mov (oC 0))] [0,1,5,6,7,9,21,22,23] [[20]]) <| .seq (.seq (oR [oM 41 9,oA 42 (.bin .geq (.t 41) (oC 1000000000))] [0,1,5,6,7,9,21,22,23,42] [[20]]) <| .cond (.t 42) (oR [oM 43 9,oA 44 (.bin .sub (.t 43) (oC 1000000000)),oM 9 44,oA 6 (.mov (oC 1))] [0,1,5,6,7,9,21,22,23] [[20]]) <| .skip) <| oR [oM 45 5,oM 46 7,oM 47 9,oXx 48 1 45 46,oPp 1 48 47] [0,1,5,6,21,22,23] [[20]]) <| .keep [0,1,5,6,21,22,23] [[20]]) <| oR [oA 49 (.bin .add (.t 23) (oC 1)),oM 23 49] [0,1,5,6,21,22,23] [[20]]) <| .keep [0,1,5,6,21,22,23] [[20]]
def QeC : CF := ⟨2,.seq (oR [oA 4 (.mov (.c (.z true)))] [0,1] []) <| .seq (.seq (oR [oM 10 0,oQq 11 10,oM 12 1,oQq 13 12,oBb 14 .lss 11 13] [0,1,14] []) <| .cond (.t 14) (oR [oM 15 1,oM 16 0,oM 0 15,oM 1 16] [0,1] []) <| .skip) <| .seq (oR [oM 17 0,oQq 18 17,oA 19 (.bin .add (.t 18) (oC 1)),oA 20 (.mksl 1 8 [.v (.int .i64 0)] (.t 19) (.t 19)),oM 5 20] [0,1,5] [[20]]) <| .seq (oR [oA 6 (.mov (oC 0))] [0,1,5,6] [[20]]) <| .seq (.seq (oR [oM 21 0,oQq 22 21,oA 23 (.mov (oC 0))] [0,1,5,6,21,22,23] [[20]]) <| .seq (.blk 0 <| .seq (.keep [0,1,5,6,21,22,23] [[20]]) <| .loop Qbu) <| .keep [0,5,6] [[20]]) <| .seq (oR [oM 50 5,oM 51 0,oQq 52 51,oM 53 6,oXx 54 1 50 52,oPp 1 54 53] [5] [[20]]) <| .seq (oR [oM 55 5,oM 4 55] [4] [[20]]) <| .ret,[.t 4]⟩

def Qa3 : C :=
 .seq (.seq (oR [oBb 16 .lss 15 14] [1,5,14,15,16] [[9]]) <| .seq (.cond (.t 16) (.skip) <| .seq (.keep [5] [[9]]) <| .exit 0) <| .seq (.seq (.blk 1 <| .seq (oR [oM 17 15,oM 6 17] [1,5,6,14,15] [[9]]) <| .seq (.seq (oR [oM 18 6,oM 19 1,oQq 20 19,oBb 21 .lss 18 20] [1,5,6,14,15,21] [[9]]) <| .cond (.t 21) (oR [oM 22 5,oM 23 6,oXx 24 1 22 23,oDd 25 24,oM 26 1,oM 27 6,oXx 28 1 26 27,oDd 29 28,oBb 30 .sub 25 29,oXx 31 1 22 23,oPp 1 31 30] [1,5,6,14,15] [[9]]) <| .skip) <| .seq (oR [oM 32 5,oM 33 6,oXx 34 1 32 33,oDd 35 34,oA 36 (.bin .lss (.t 35) (oC 0))] [1,5,6,14,15,36] [[9]]) <| .cond (.t 36) (.seq (oR [oM 37 5,oM 38 6,oXx 39 1 37 38,oDd 40 39,oA 41 (.bin .add (.t 40) (oC 1000000000)),oXx 42 1 37 38,oPp 1 42 41] [1,5,6,14,15] [[9]]) <| oR [oM 43 5,oM 44 6,oA 45 (.bin .add (.t 44) (oC 1)),oXx 46 1 43 45,oDd 47 46,oA 48 (.bin .sub (.t 47) (oC 1)),oXx 49 1 43 45,oPp 1 49 48] [1,5,14,15] [[9]]) <| .skip) <| .keep [1,5,14,15] [[9]]) <| oR [oA 50 (.bin .add (.t 15) (oC 1)),oM 15 50] [1,5,14,15] [[9]]) <| .keep [1,5,14,15] [[9]]
def QgS : CF := ⟨2,.seq (oR [oA 4 (.mov (.c (.z true)))] [0,1] []) <| .seq (oR [oM 7 0,oQq 8 7,oA 9 (.mksl 1 8 [.v (.int .i64 0)] (.t 8) (.t 8)),oM 5 9] [0,1,5] [[9]]) <| .seq (oR [oM 10 5,oM 11 0,oA 12 (.cpy 1 (.t 10) (.t 11))] [1,5] [[9]]) <| .seq (.seq (oR [oM 13 5,oQq 14 13,oA 15 (.mov (oC 0))] [1,5,14,15] [[9]]) <| .seq (.blk 0 <| .seq (.keep [1,5,14,15] [[9]]) <| .loop Qa3) <| .keep [5] [[9]]) <| .seq (oR [oM 51 5,oM 4 51] [4] [[9]]) <| .ret,[.t 4]⟩

def Qdi : C :=
 .seq (.seq (.seq (oR [oM 39 9,oA 40 (.bin .gtr (.t 39) (oC 0))] [4,7,9,40] [[4]]) <| .cond (.t 40) (.skip) <| .seq (.keep [4,7] [[4]]) <| .exit 2) <| .seq (.blk 3 <| oR [oM 41 9,oM 42 7,oM 43 9,oBb 44 .rem 42 43,oM 7 41,oM 9 44] [4,7,9] [[4]]) <| .keep [4,7,9] [[4]]) <| .keep [4,7,9] [[4]]
def QbJ : C :=
 .seq (.seq (.seq (oR [oNn 19 1 6,oDd 20 19,oQq 21 20,oA 22 (.bin .gtr (.t 21) (oC 0))] [4,5,6,22] [[4],[5],[6]]) <| .cond (.t 22) (.skip) <| .seq (.keep [4,5] [[4],[5]]) <| .exit 0) <| .seq (.blk 1 <| .seq (oR [oNn 24 1 5,oDd 25 24,oJ 26 QdS [25],oM 23 26,oA 27 (.ext (.t 23) 0),oA 28 (.ext (.t 23) 1),oM 7 27,oM 8 28] [4,5,6,7,8] [[4],[5],[6]]) <| .seq (oR [oNn 30 1 6,oDd 31 30,oJ 32 QdS [31],oM 29 32,oA 33 (.ext (.t 29) 0),oA 34 (.ext (.t 29) 1),oM 9 33,oM 10 34] [4,5,6,7,8,9,10] [[4],[5],[6]]) <| .seq (.seq (oR [oM 35 8,oM 36 35,oHh 37 36 true 10,oA 38 (.pick (.t 36) (.t 37) (.c (.v (.bool false))))] [4,5,6,7,9,38] [[4],[5],[6]]) <| .cond (.t 38) (.seq (.seq (.blk 2 <| .seq (.keep [4,7,9] [[4]]) <| .loop Qdi) <| .keep [4,7] [[4]]) <| .seq (oR [oM 45 7,oA 46 (.conv (.int .u64) (.t 45)),oA 47 (.call Qbt [(.c (.v (.bool false))),(.t 46)] false),oPp 2 4 47] [4] [[4]]) <| .ret) <| .skip) <| .seq (oR [oNn 49 1 5,oDd 50 49,oNn 51 1 6,oDd 52 51,oJ 53 QeP [50,52],oM 48 53,oA 54 (.ext (.t 48) 0),oA 55 (.ext (.t 48) 1),oA 11 (.new [.v (.bool false),.z true]),oA 12 (.new [.v (.bool false),.z true]),oPp 2 11 54,oPp 2 12 55] [4,5,6,12] [[4],[5],[6],[12]]) <| .seq (.reg [oL 56 2 6,oL 57 2 12,oPp 2 5 56,oPp 2 6 57] [((.t 12),2,(.t 5),2)]) <| .keep [4,5,6] [[4],[5],[6]]) <| .keep [4,5,6] [[4],[5],[6]]) <| .keep [4,5,6] [[4],[5],[6]]
def QgH : CF := ⟨2,.seq (oR [oEe 2 0,oEe 3 1,oA 4 (.new [.v (.bool false),.z true])] [2,3,4] [[2],[3],[4]]) <| .seq (oR [oNn 13 1 2,oDd 14 13,oA 15 (.call Qbn [(.c (.v (.bool false))),(.t 14)] false),oNn 16 1 3,oDd 17 16,oA 18 (.call Qbn [(.c (.v (.bool false))),(.t 17)] false),oA 5 (.new [.v (.bool false),.z true]),oA 6 (.new [.v (.bool false),.z true]),oPp 2 5 15,oPp 2 6 18] [4,5,6] [[4],[5],[6]]) <| .seq (.seq (.blk 0 <| .seq (.keep [4,5,6] [[4],[5],[6]]) <| .loop QbJ) <| .keep [4,5] [[4],[5]]) <| .seq (oR [oL 58 2 5,oPp 2 4 58] [4] [[4]]) <| .ret,[.cell 4 (some 2)]⟩

def QcM : CF := ⟨2,.seq (oR [oEe 2 0,oEe 3 1,oA 4 (.new [.v (.bool false),.z true]),oA 5 (.new [.v (.bool false),.z true])] [2,3,4,5] [[2],[3],[4],[5]]) <| .seq (.seq (oR [oNn 8 1 3,oDd 9 8,oQq 10 9,oA 11 (.bin .eql (.t 10) (oC 0))] [2,3,4,5,11] [[2],[3],[4],[5]]) <| .cond (.t 11) (.seq (oR [oA 12 (.build [.v (.bool false),.z true] []),oA 13 (.build [.v (.bool false),.z true] []),oPp 2 4 12,oPp 2 5 13] [4,5] [[4],[5]]) <| .ret) <| .skip) <| .seq (oR [oNn 15 1 2,oDd 16 15,oNn 17 1 3,oDd 18 17,oJ 19 QeP [16,18],oM 14 19,oA 20 (.ext (.t 14) 0),oA 21 (.ext (.t 14) 1),oA 6 (.new [.v (.bool false),.z true]),oA 7 (.new [.v (.bool false),.z true]),oPp 2 6 20,oPp 2 7 21] [2,3,4,5,6,7] [[2],[3],[4],[5],[6],[7]]) <| .seq (.seq (oR [oNn 22 0 2,oDd 23 22,oM 24 23,oG 25 24 true (.fad 1 (.t 7)),oG 26 24 true (.load none (.t 25)),oG 27 24 true (.len (.t 26)),oG 28 24 true (.bin .gtr (.t 27) (oC 0)),oA 29 (.pick (.t 24) (.t 28) (.c (.v (.bool false))))] [2,3,4,5,6,7,29] [[2],[3],[4],[5],[6],[7]]) <| .cond (.t 29) (.seq (oR [oNn 30 1 6,oDd 31 30,oA 32 (.lit 1 1 [.v (.int .i64 0)] [(0,(oC 1))] true),oJ 33 Qdn [31,32],oA 34 (.call Qbn [(.c (.v (.bool false))),(.t 33)] false),oPp 2 6 34] [2,3,4,5,6,7] [[2],[3],[4],[5],[6],[7]]) <| oR [oNn 35 1 3,oDd 36 35,oNn 37 1 7,oDd 38 37,oJ 39 QdM [36,38],oA 40 (.call Qbn [(.c (.v (.bool false))),(.t 39)] false),oPp 2 7 40] [2,3,4,5,6,7] [[2],[3],[4],[5],[6],[7]]) <| .skip) <| .seq (oR [oNn 41 0 2,oDd 42 41,oNn 43 0 3,oDd 44 43,oA 45 (.binb true (.t 42) (.t 44)),oM 46 45,oG 47 46 true (.fad 1 (.t 6)),oG 48 46 true (.load none (.t 47)),oG 49 46 true (.len (.t 48)),oG 50 46 true (.bin .gtr (.t 49) (oC 0)),oA 51 (.pick (.t 46) (.t 50) (.c (.v (.bool false)))),oNn 52 0 6,oPp 1 52 51] [4,5,6,7] [[4],[5],[6],[7]]) <| .seq (.seq (.reg [oL 53 2 6,oL 54 2 7,oPp 2 4 53,oPp 2 5 54] [((.t 7),2,(.t 4),2)]) <| .keep [4,5] [[4],[5]]) <| .ret,[.cell 4 (some 2),.cell 5 (some 2)]⟩

def QeM : CF := ⟨1,.seq (oR [oA 2 (.mov (oC 0))] [0] []) <| .seq (oR [oM 3 0,oA 4 (.call QbF [(.t 3),(oC 1)] false),oA 5 (.bin .mul (.t 4) (oC 1000000000)),oM 6 0,oA 7 (.call QbF [(.t 6),(oC 0)] false),oBb 8 .add 5 7,oM 2 8] [2] []) <| .ret,[.t 2]⟩
end Go.AM

set_option maxRecDepth 100000
namespace Go.AM
open Go Go.Proofs


def Qbd : C :=
 .seq (.seq (.seq (oR [oM 64 12,oM 65 13,oBb 66 .lss 64 65] [0,1,8,9,10,12,13,66] [[42]]) <| .cond (.t 66) (.skip) <| .seq (.keep [0,1,8,9,10,12] [[42]]) <| .exit 2) <| .seq (.blk 3 <| .seq (oR [oM 67 12,oM 68 13,oBb 69 .add 67 68,oA 70 (.bin .add (.t 69) (oC 1)),oA 71 (.bin .quo (.t 70) (oC 2)),oM 14 71] [0,1,8,9,10,12,13,14] [[42]]) <| .seq (oR [oM 72 1,oM 73 14,oJ 74 Qdv [72,73],oM 75 9,oJ 76 Qbb [74,75],oA 77 (.bin .leq (.t 76) (oC 0))] [0,1,8,9,10,12,13,14,77] [[42]]) <| .cond (.t 77) (oR [oM 78 14,oM 12 78] [0,1,8,9,10,12,13] [[42]]) <| oR [oM 79 14,oA 80 (.bin .sub (.t 79) (oC 1)),oM 13 80] [0,1,8,9,10,12,13] [[42]]) <| .keep [0,1,8,9,10,12,13] [[42]]) <| .keep [0,1,8,9,10,12,13] [[42]]
def QaY : C :=
 .seq (.seq (.seq (oR [oM 46 10,oA 47 (.bin .geq (.t 46) (oC 0))] [0,1,8,9,10,47] [[42]]) <| .cond (.t 47) (.skip) <| .seq (.keep [8,9] [[42]]) <| .exit 0) <| .seq (.seq (.blk 1 <| .seq (oR [oM 50 0,oM 51 10,oXx 52 1 50 51,oDd 53 52,oA 54 (.lit 1 1 [.v (.int .i64 0)] [(0,(.t 53))] false),oM 55 9,oA 56 (.app 1 8 (.t 54) (.t 55) true),oA 57 (.call Qal [(.c (.v (.bool false))),(.t 56)] false),oA 11 (.new [.v (.bool false),.z true]),oPp 2 11 57] [0,1,8,10,11] [[11],[42]]) <| .seq (oR [oNn 58 1 11,oDd 59 58,oM 9 59] [0,1,8,9,10] [[42]]) <| .seq (oR [oA 12 (.mov (oC 0))] [0,1,8,9,10,12] [[42]]) <| .seq (oR [oA 13 (.mov (oC 999999999))] [0,1,8,9,10,12,13] [[42]]) <| .seq (.seq (oR [oM 60 9,oM 61 1,oJ 62 Qbb [60,61],oA 63 (.bin .lss (.t 62) (oC 0))] [0,1,8,9,10,12,13,63] [[42]]) <| .cond (.t 63) (oR [oA 13 (.mov (oC 0))] [0,1,8,9,10,12,13] [[42]]) <| .skip) <| .seq (.seq (.blk 2 <| .seq (.keep [0,1,8,9,10,12,13] [[42]]) <| .loop Qbd) <| .keep [0,1,8,9,10,12] [[42]]) <| .seq (oR [oM 81 9,oM 82 1,oM 83 12,oJ 84 Qdv [82,83],oJ 85 Qb7 [81,84],oA 86 (.call Qal [(.c (.v (.bool false))),(.t 85)] false),oA 15 (.new [.v (.bool false),.z true]),oPp 2 15 86] [0,1,8,10,12,15] [[15],[42]]) <| .seq (oR [oM 87 8,oM 88 10,oM 89 12,oXx 90 1 87 88,oPp 1 90 89] [0,1,8,10,15] [[15],[42]]) <| oR [oNn 91 1 15,oDd 92 91,oM 9 92] [0,1,8,9,10] [[42]]) <| .keep [0,1,8,9,10] [[42]]) <| oR [oM 48 10,oA 49 (.bin .sub (.t 48) (oC 1)),oM 10 49] [0,1,8,9,10] [[42]]) <| .keep [0,1,8,9,10] [[42]]
def Qbl : CF := ⟨2,.seq (oR [oA 4 (.mov (.c (.z true))),oA 5 (.mov (.c (.z true)))] [0,1] []) <| .seq (.seq (oR [oM 16 0,oQq 17 16,oA 18 (.bin .leq (.t 17) (oC 2)),oM 19 18,oHh 20 19 true 1,oG 21 19 true (.len (.t 20)),oG 22 19 true (.bin .leq (.t 21) (oC 2)),oA 23 (.pick (.t 19) (.t 22) (.c (.v (.bool false))))] [0,1,23] []) <| .cond (.t 23) (.seq (oR [oM 24 0,oJ 25 Qbv [24],oM 26 1,oJ 27 Qbv [26],oBb 28 .quo 25 27,oJ 29 QbA [28],oA 6 (.new [.v (.bool false),.z true]),oPp 2 6 29] [0,1,6] [[6]]) <| .seq (oR [oM 30 0,oJ 31 Qbv [30],oM 32 1,oJ 33 Qbv [32],oBb 34 .rem 31 33,oJ 35 QbA [34],oA 7 (.new [.v (.bool false),.z true]),oPp 2 7 35] [6,7] [[6],[7]]) <| .seq (oR [oNn 36 1 6,oDd 37 36,oNn 38 1 7,oDd 39 38,oM 4 37,oM 5 39] [4,5] [[42]]) <| .ret) <| .skip) <| .seq (oR [oM 40 0,oQq 41 40,oA 42 (.mksl 1 8 [.v (.int .i64 0)] (.t 41) (.t 41)),oM 8 42] [0,1,8] [[42]]) <| .seq (oR [oA 9 (.mov (.c (.z true)))] [0,1,8,9] [[42]]) <| .seq (.seq (oR [oM 43 0,oQq 44 43,oA 45 (.bin .sub (.t 44) (oC 1)),oM 10 45] [0,1,8,9,10] [[42]]) <| .seq (.blk 0 <| .seq (.keep [0,1,8,9,10] [[42]]) <| .loop QaY) <| .keep [8,9] [[42]]) <| .seq (oR [oM 93 8,oM 94 9,oM 4 93,oM 5 94] [4,5] [[42]]) <| .ret,[.t 4,.t 5]⟩

def Qc6 : CF := ⟨2,.seq (oR [oA 4 (.mov (oC 0))] [0,1] []) <| .seq (.seq (oR [oM 5 1,oM 6 0,oQq 7 6,oBb 8 .lss 5 7] [0,1,8] []) <| .cond (.t 8) (.seq (oR [oM 9 0,oM 10 1,oXx 11 1 9 10,oDd 12 11,oM 4 12] [4] []) <| .ret) <| .skip) <| .seq (oR [oA 4 (.mov (oC 0))] [4] []) <| .ret,[.t 4]⟩

def QcN : CF := ⟨2,.seq (oR [oA 4 (.mov (oC 0))] [0,1] []) <| .seq (oR [oM 7 0,oJ 8 QfC [7],oM 5 8] [0,1,5] []) <| .seq (oR [oM 9 1,oJ 10 QfC [9],oM 6 10] [0,1,5,6] []) <| .seq (.seq (oR [oM 11 5] [0,1,6,11] []) <| .cond (.t 11) (.seq (.seq (oR [oM 12 6] [12] []) <| .cond (.t 12) (.seq (oR [oA 4 (.mov (oC 0))] [4] []) <| .ret) <| .skip) <| .seq (oR [oA 4 (.mov (oC (-1)))] [4] []) <| .ret) <| .skip) <| .seq (.seq (oR [oM 13 6] [0,1,13] []) <| .cond (.t 13) (.seq (oR [oA 4 (.mov (oC 1))] [4] []) <| .ret) <| .skip) <| .seq (.seq (oR [oM 14 0,oM 15 1,oBb 16 .lss 14 15] [0,1,16] []) <| .cond (.t 16) (.seq (oR [oA 4 (.mov (oC (-1)))] [4] []) <| .ret) <| .skip) <| .seq (.seq (oR [oM 17 0,oM 18 1,oBb 19 .gtr 17 18] [19] []) <| .cond (.t 19) (.seq (oR [oA 4 (.mov (oC 1))] [4] []) <| .ret) <| .skip) <| .seq (oR [oA 4 (.mov (oC 0))] [4] []) <| .ret,[.t 4]⟩

def Qee : CF := ⟨1,.seq (oR [oA 2 (.mov (oC 0)),oA 3 (.mov (.c (.v (.bool false))))] [0] []) <| .seq (.seq (oR [oM 4 0,oQq 5 4] [0,5] []) <| .seq (.blk 0 <| .seq (oR [oA 7 (.bin .eql (.t 5) (oC 0)),oM 6 7] [0,5,6] []) <| .cond (.t 6) (.seq (oR [oA 2 (.mov (oC 0)),oA 3 (.mov (.c (.v (.bool true))))] [2,3] []) <| .ret) <| .seq (oR [oA 9 (.bin .eql (.t 5) (oC 1)),oM 8 9] [0,5,8] []) <| .cond (.t 8) (.seq (oR [oM 10 0,oA 11 (.ixa 1 (.t 10) (oC 0)),oDd 12 11,oM 2 12,oA 3 (.mov (.c (.v (.bool true))))] [2,3] []) <| .ret) <| .seq (oR [oA 14 (.bin .eql (.t 5) (oC 2)),oM 13 14] [0,13] []) <| .cond (.t 13) (.seq (oR [oM 15 0,oA 16 (.ixa 1 (.t 15) (oC 1)),oDd 17 16,oA 18 (.bin .mul (.t 17) (oC 1000000000)),oM 19 0,oA 20 (.ixa 1 (.t 19) (oC 0)),oDd 21 20,oBb 22 .add 18 21,oM 2 22,oA 3 (.mov (.c (.v (.bool true))))] [2,3] []) <| .ret) <| .skip) <| .keep [] []) <| .seq (oR [oA 2 (.mov (oC 0)),oA 3 (.mov (.c (.v (.bool false))))] [2,3] []) <| .ret,[.t 2,.t 3]⟩

def Qb2 : CF := ⟨2,.seq (oR [oA 4 (.new [.v (.bool false),.z true]),oA 5 (.new [.v (.bool false),.z true])] [0,1,4,5] [[4],[5]]) <| .seq (.seq (oR [oM 15 0,oJ 16 QdS [15],oM 14 16,oA 17 (.ext (.t 14) 0),oA 18 (.ext (.t 14) 1),oM 6 17,oM 7 18] [0,1,4,5,6,7] [[4],[5]]) <| .seq (oR [oM 19 7] [0,1,4,5,6,19] [[4],[5]]) <| .cond (.t 19) (.seq (oR [oM 21 1,oJ 22 QdS [21],oM 20 22,oA 23 (.ext (.t 20) 0),oA 24 (.ext (.t 20) 1),oM 8 23,oM 9 24] [0,1,4,5,6,8,9] [[4],[5]]) <| .seq (oR [oM 25 9] [0,1,4,5,6,8,25] [[4],[5]]) <| .cond (.t 25) (.seq (oR [oM 26 6,oM 27 8,oBb 28 .quo 26 27,oA 29 (.conv (.int .u64) (.t 28)),oA 30 (.call Qbt [(.c (.v (.bool false))),(.t 29)] false),oM 31 6,oM 32 8,oBb 33 .rem 31 32,oA 34 (.conv (.int .u64) (.t 33)),oA 35 (.call Qbt [(.c (.v (.bool false))),(.t 34)] false),oPp 2 4 30,oPp 2 5 35] [4,5] [[4],[5]]) <| .ret) <| .skip) <| .skip) <| .seq (.seq (oR [oM 36 0,oM 37 1,oJ 38 Qcl [36,37],oA 39 (.bin .lss (.t 38) (oC 0))] [0,1,4,5,39] [[4],[5]]) <| .cond (.t 39) (.seq (oR [oA 40 (.build [.v (.bool false),.z true] []),oM 41 0,oA 42 (.call Qbn [(.c (.v (.bool false))),(.t 41)] false),oPp 2 4 40,oPp 2 5 42] [4,5] [[4],[5]]) <| .ret) <| .skip) <| .seq (.seq (oR [oM 43 1,oQq 44 43,oA 45 (.bin .eql (.t 44) (oC 1))] [0,1,4,5,45] [[4],[5]]) <| .cond (.t 45) (.seq (oR [oM 47 0,oM 48 1,oA 49 (.ixa 1 (.t 48) (oC 0)),oDd 50 49,oJ 51 Qfd [47,50],oM 46 51,oA 52 (.ext (.t 46) 0),oA 53 (.ext (.t 46) 1),oM 10 52,oM 11 53] [4,5,10,11] [[4],[5]]) <| .seq (oR [oM 54 10,oA 55 (.call Qbn [(.c (.v (.bool false))),(.t 54)] false),oM 56 11,oA 57 (.conv (.int .u64) (.t 56)),oA 58 (.call Qbt [(.c (.v (.bool false))),(.t 57)] false),oPp 2 4 55,oPp 2 5 58] [4,5] [[4],[5]]) <| .ret) <| .skip) <| .seq (oR [oM 60 0,oM 61 1,oJ 62 Qh4 [60,61],oM 59 62,oA 63 (.ext (.t 59) 0),oA 64 (.ext (.t 59) 1),oM 12 63,oM 13 64] [4,5,12,13] [[4],[5]]) <| .seq (oR [oM 65 12,oA 66 (.call Qbn [(.c (.v (.bool false))),(.t 65)] false),oM 67 13,oA 68 (.call Qbn [(.c (.v (.bool false))),(.t 67)] false),oPp 2 4 66,oPp 2 5 68] [4,5] [[4],[5]]) <| .ret,[.cell 4 (some 2),.cell 5 (some 2)]⟩

def Qd5 : CF := ⟨2,.seq (oR [oA 4 (.mov (.c (.z true)))] [0,1] []) <| .seq (oR [oM 6 0,oA 7 (.call Qal [(.c (.v (.bool false))),(.t 6)] false),oM 8 1,oJ 9 QbA [8],oJ 10 Qa4 [7,9],oA 5 (.new [.v (.bool false),.z true]),oPp 2 5 10] [5] [[5]]) <| .seq (oR [oNn 11 1 5,oDd 12 11,oM 4 12] [4] []) <| .ret,[.t 4]⟩

def QgO : CF := ⟨1,.seq (oR [oA 2 (.mov (.c (.v (.bool false))))] [0] []) <| .seq (oR [oM 3 0,oM 4 0,oBb 5 .neq 3 4,oM 2 5] [2] []) <| .ret,[.t 2]⟩

def Qcb : C :=
 .seq (.seq (.seq (oR [oM 16 8,oA 17 (.bin .geq (.t 16) (oC 0))] [0,1,6,7,8,17] [[12]]) <| .cond (.t 17) (.skip) <| .seq (.keep [6,7] [[12]]) <| .exit 0) <| .seq (.seq (.blk 1 <| .seq (oR [oM 20 7,oA 21 (.bin .mul (.t 20) (oC 1000000000)),oM 22 0,oM 23 8,oXx 24 1 22 23,oDd 25 24,oBb 26 .add 21 25,oM 9 26] [0,1,6,8,9] [[12]]) <| oR [oM 27 6,oM 28 8,oM 29 9,oM 30 1,oBb 31 .quo 29 30,oM 32 9,oM 33 1,oBb 34 .rem 32 33,oXx 35 1 27 28,oPp 1 35 31,oM 7 34] [0,1,6,7,8] [[12]]) <| .keep [0,1,6,7,8] [[12]]) <| oR [oM 18 8,oA 19 (.bin .sub (.t 18) (oC 1)),oM 8 19] [0,1,6,7,8] [[12]]) <| .keep [0,1,6,7,8] [[12]]
def QgP : CF := ⟨2,.seq (oR [oA 4 (.mov (.c (.z true))),oA 5 (.mov (oC 0))] [0,1] []) <| .seq (oR [oM 10 0,oQq 11 10,oA 12 (.mksl 1 8 [.v (.int .i64 0)] (.t 11) (.t 11)),oM 6 12] [0,1,6] [[12]]) <| .seq (oR [oA 7 (.mov (oC 0))] [0,1,6,7] [[12]]) <| .seq (.seq (oR [oM 13 0,oQq 14 13,oA 15 (.bin .sub (.t 14) (oC 1)),oM 8 15] [0,1,6,7,8] [[12]]) <| .seq (.blk 0 <| .seq (.keep [0,1,6,7,8] [[12]]) <| .loop Qcb) <| .keep [6,7] [[12]]) <| .seq (oR [oM 36 6,oM 37 7,oM 4 36,oM 5 37] [4,5] [[12]]) <| .ret,[.t 4,.t 5]⟩

def Qbf : C :=
 .seq (.seq (.seq (oR [oM 84 13,oA 85 (.bin .geq (.t 84) (oC 1000000000)),oM 86 85,oHh 87 86 false 13,oHh 88 86 false 8,oHh 89 86 false 9,oG 90 86 false (.bin .sub (.t 89) (oC 2)),oG 91 86 false (.ixa 1 (.t 88) (.t 90)),oG 92 86 false (.load none (.t 91)),oG 93 86 false (.bin .mul (.t 87) (.t 92)),oHh 94 86 false 14,oG 95 86 false (.bin .mul (.t 94) (oC 1000000000)),oHh 96 86 false 7,oHh 97 86 false 11,oHh 98 86 false 9,oG 99 86 false (.bin .add (.t 97) (.t 98)),oG 100 86 false (.bin .sub (.t 99) (oC 2)),oG 101 86 false (.ixa 1 (.t 96) (.t 100)),oG 102 86 false (.load none (.t 101)),oG 103 86 false (.bin .add (.t 95) (.t 102)),oG 104 86 false (.bin .gtr (.t 93) (.t 103)),oA 105 (.pick (.t 86) (.c (.v (.bool true))) (.t 104))] [6,7,8,9,10,11,13,14,105] [[32],[46]]) <| .cond (.t 105) (.skip) <| .seq (.keep [6,7,8,9,10,11,13] [[32],[46]]) <| .exit 2) <| .seq (.blk 3 <| .seq (oR [oM 106 13,oA 107 (.bin .sub (.t 106) (oC 1)),oM 13 107] [6,7,8,9,10,11,13,14] [[32],[46]]) <| .seq (oR [oM 108 14,oM 109 8,oM 110 9,oA 111 (.bin .sub (.t 110) (oC 1)),oXx 112 1 109 111,oDd 113 112,oBb 114 .add 108 113,oM 14 114] [6,7,8,9,10,11,13,14] [[32],[46]]) <| .seq (oR [oM 115 14,oA 116 (.bin .geq (.t 115) (oC 1000000000))] [6,7,8,9,10,11,13,14,116] [[32],[46]]) <| .cond (.t 116) (.seq (.keep [6,7,8,9,10,11,13] [[32],[46]]) <| .exit 2) <| .skip) <| .keep [6,7,8,9,10,11,13,14] [[32],[46]]) <| .keep [6,7,8,9,10,11,13,14] [[32],[46]]
def Qb4 : C :=
 .seq (.seq (oR [oBb 119 .lss 118 117] [6,7,8,9,10,11,13,15,117,118,119] [[32],[46]]) <| .seq (.cond (.t 119) (.skip) <| .seq (.keep [6,7,8,9,10,11,13,15] [[32],[46]]) <| .exit 4) <| .seq (.seq (.blk 5 <| .seq (oR [oM 120 118,oM 16 120] [6,7,8,9,10,11,13,15,16,117,118] [[32],[46]]) <| .seq (oR [oM 121 7,oM 122 16,oM 123 11,oBb 124 .add 122 123,oXx 125 1 121 124,oDd 126 125,oM 127 13,oM 128 8,oM 129 16,oXx 130 1 128 129,oDd 131 130,oBb 132 .mul 127 131,oBb 133 .sub 126 132,oM 134 15,oBb 135 .sub 133 134,oM 17 135] [6,7,8,9,10,11,13,16,17,117,118] [[32],[46]]) <| .seq (oR [oA 15 (.mov (oC 0))] [6,7,8,9,10,11,13,15,16,17,117,118] [[32],[46]]) <| .seq (.seq (oR [oM 136 17,oA 137 (.bin .lss (.t 136) (oC 0))] [6,7,8,9,10,11,13,15,16,17,117,118,137] [[32],[46]]) <| .cond (.t 137) (.seq (oR [oM 138 17,oA 139 (.un .neg (.t 138)),oA 140 (.bin .add (.t 139) (oC 1000000000)),oA 141 (.bin .sub (.t 140) (oC 1)),oA 142 (.bin .quo (.t 141) (oC 1000000000)),oM 15 142] [6,7,8,9,10,11,13,15,16,17,117,118] [[32],[46]]) <| oR [oM 143 17,oM 144 15,oA 145 (.bin .mul (.t 144) (oC 1000000000)),oBb 146 .add 143 145,oM 17 146] [6,7,8,9,10,11,13,15,16,17,117,118] [[32],[46]]) <| .skip) <| oR [oM 147 7,oM 148 16,oM 149 11,oBb 150 .add 148 149,oM 151 17,oXx 152 1 147 150,oPp 1 152 151] [6,7,8,9,10,11,13,15,117,118] [[32],[46]]) <| .keep [6,7,8,9,10,11,13,15,117,118] [[32],[46]]) <| oR [oA 153 (.bin .add (.t 118) (oC 1)),oM 118 153] [6,7,8,9,10,11,13,15,117,118] [[32],[46]]) <| .keep [6,7,8,9,10,11,13,15,117,118] [[32],[46]]
def Qcn : C :=
 .seq (.seq (oR [oBb 174 .lss 173 172] [6,7,8,9,10,11,13,15,172,173,174] [[32],[46]]) <| .seq (.cond (.t 174) (.skip) <| .seq (.keep [6,7,8,9,10,11,13,15] [[32],[46]]) <| .exit 6) <| .seq (.seq (.blk 7 <| .seq (oR [oM 175 173,oM 18 175] [6,7,8,9,10,11,13,15,18,172,173] [[32],[46]]) <| .seq (oR [oM 176 7,oM 177 18,oM 178 11,oBb 179 .add 177 178,oXx 180 1 176 179,oDd 181 180,oM 182 8,oM 183 18,oXx 184 1 182 183,oDd 185 184,oBb 186 .add 181 185,oM 187 15,oBb 188 .add 186 187,oM 19 188] [6,7,8,9,10,11,13,18,19,172,173] [[32],[46]]) <| oR [oM 189 7,oM 190 18,oM 191 11,oBb 192 .add 190 191,oM 193 19,oA 194 (.bin .rem (.t 193) (oC 1000000000)),oM 195 19,oA 196 (.bin .quo (.t 195) (oC 1000000000)),oXx 197 1 189 192,oPp 1 197 194,oM 15 196] [6,7,8,9,10,11,13,15,172,173] [[32],[46]]) <| .keep [6,7,8,9,10,11,13,15,172,173] [[32],[46]]) <| oR [oA 198 (.bin .add (.t 173) (oC 1)),oM 173 198] [6,7,8,9,10,11,13,15,172,173] [[32],[46]]) <| .keep [6,7,8,9,10,11,13,15,172,173] [[32],[46]]
def Qb6 : C :=
 .seq (.seq (.seq (oR [oM 51 11,oA 52 (.bin .geq (.t 51) (oC 0))] [6,7,8,9,10,11,52] [[32],[46]]) <| .cond (.t 52) (.skip) <| .seq (.keep [6,7,9,10] [[32],[46]]) <| .exit 0) <| .seq (.seq (.blk 1 <| .seq (oR [oM 55 7,oM 56 11,oM 57 9,oBb 58 .add 56 57,oXx 59 1 55 58,oDd 60 59,oA 61 (.bin .mul (.t 60) (oC 1000000000)),oM 62 7,oM 63 11,oM 64 9,oBb 65 .add 63 64,oA 66 (.bin .sub (.t 65) (oC 1)),oXx 67 1 62 66,oDd 68 67,oBb 69 .add 61 68,oM 12 69] [6,7,8,9,10,11,12] [[32],[46]]) <| .seq (oR [oM 70 12,oM 71 8,oM 72 9,oA 73 (.bin .sub (.t 72) (oC 1)),oXx 74 1 71 73,oDd 75 74,oBb 76 .quo 70 75,oM 77 12,oM 78 8,oM 79 9,oA 80 (.bin .sub (.t 79) (oC 1)),oXx 81 1 78 80,oDd 82 81,oBb 83 .rem 77 82,oM 13 76,oM 14 83] [6,7,8,9,10,11,13,14] [[32],[46]]) <| .seq (.skip) <| .seq (.seq (.blk 2 <| .seq (.keep [6,7,8,9,10,11,13,14] [[32],[46]]) <| .loop Qbf) <| .keep [6,7,8,9,10,11,13] [[32],[46]]) <| .seq (oR [oA 15 (.mov (oC 0))] [6,7,8,9,10,11,13,15] [[32],[46]]) <| .seq (.seq (oR [oM 117 9,oA 118 (.mov (oC 0))] [6,7,8,9,10,11,13,15,117,118] [[32],[46]]) <| .seq (.blk 4 <| .seq (.keep [6,7,8,9,10,11,13,15,117,118] [[32],[46]]) <| .loop Qb4) <| .keep [6,7,8,9,10,11,13,15] [[32],[46]]) <| .seq (.seq (oR [oM 154 7,oM 155 11,oM 156 9,oBb 157 .add 155 156,oXx 158 1 154 157,oDd 159 158,oM 160 15,oBb 161 .sub 159 160,oXx 162 1 154 157,oPp 1 162 161] [6,7,8,9,10,11,13] [[32],[46]]) <| .seq (oR [oM 163 7,oM 164 11,oM 165 9,oBb 166 .add 164 165,oXx 167 1 163 166,oDd 168 167,oA 169 (.bin .lss (.t 168) (oC 0))] [6,7,8,9,10,11,13,169] [[32],[46]]) <| .cond (.t 169) (.seq (oR [oM 170 13,oA 171 (.bin .sub (.t 170) (oC 1)),oM 13 171] [6,7,8,9,10,11,13] [[32],[46]]) <| .seq (oR [oA 15 (.mov (oC 0))] [6,7,8,9,10,11,13,15] [[32],[46]]) <| .seq (.seq (oR [oM 172 9,oA 173 (.mov (oC 0))] [6,7,8,9,10,11,13,15,172,173] [[32],[46]]) <| .seq (.blk 6 <| .seq (.keep [6,7,8,9,10,11,13,15,172,173] [[32],[46]]) <| .loop Qcn) <| .keep [6,7,8,9,10,11,13,15] [[32],[46]]) <| oR [oM 199 7,oM 200 11,oM 201 9,oBb 202 .add 200 201,oXx 203 1 199 202,oDd 204 203,oM 205 15,oBb 206 .add 204 205,oXx 207 1 199 202,oPp 1 207 206] [6,7,8,9,10,11,13] [[32],[46]]) <| .skip) <| oR [oM 208 10,oM 209 11,oM 210 13,oXx 211 1 208 209,oPp 1 211 210] [6,7,8,9,10,11] [[32],[46]]) <| .keep [6,7,8,9,10,11] [[32],[46]]) <| oR [oM 53 11,oA 54 (.bin .sub (.t 53) (oC 1)),oM 11 54] [6,7,8,9,10,11] [[32],[46]]) <| .keep [6,7,8,9,10,11] [[32],[46]]
def QhB : CF := ⟨2,.seq (oR [oA 4 (.mov (.c (.z true))),oA 5 (.mov (.c (.z true)))] [0,1] []) <| .seq (oR [oM 22 1,oM 23 1,oQq 24 23,oA 25 (.bin .sub (.t 24) (oC 1)),oXx 26 1 22 25,oDd 27 26,oA 28 (.bin .add (.t 27) (oC 1)),oA 29 (.bin .quo (oC 1000000000) (.t 28)),oM 6 29] [0,1,6] []) <| .seq (oR [oM 30 0,oM 31 6,oA 32 (.call QeS [.t 30,.t 31] true),oM 33 1,oM 34 6,oJ 35 QeS [33,34],oM 36 1,oQq 37 36,oA 38 (.slc 1 (.t 35) none (some (.t 37)) none),oM 7 32,oM 8 38] [0,1,6,7,8] [[32]]) <| .seq (oR [oM 39 1,oQq 40 39,oM 9 40] [0,6,7,8,9] [[32]]) <| .seq (oR [oM 41 0,oQq 42 41,oM 43 9,oBb 44 .sub 42 43,oA 45 (.bin .add (.t 44) (oC 1)),oA 46 (.mksl 1 8 [.v (.int .i64 0)] (.t 45) (.t 45)),oM 10 46] [0,6,7,8,9,10] [[32],[46]]) <| .seq (.seq (oR [oM 47 0,oQq 48 47,oM 49 9,oBb 50 .sub 48 49,oM 11 50] [6,7,8,9,10,11] [[32],[46]]) <| .seq (.blk 0 <| .seq (.keep [6,7,8,9,10,11] [[32],[46]]) <| .loop Qb6) <| .keep [6,7,9,10] [[32],[46]]) <| .seq (.seq (.frz 7) <| oR [oM 213 7,oM 214 9,oA 215 (.slc 1 (.t 213) none (some (.t 214)) none),oM 216 6,oJ 217 Qfd [215,216],oM 212 217,oA 218 (.ext (.t 212) 0),oA 219 (.ext (.t 212) 1),oM 20 218,oM 21 219] [10,20] [[46]]) <| .seq (oR [oM 220 10,oM 221 20,oM 4 220,oM 5 221] [4,5] [[46]]) <| .ret,[.t 4,.t 5]⟩

def Qb3 : C :=
 .seq (.seq (oR [oBb 17 .lss 16 15] [0,1,5,6,14,15,16,17] [[13]]) <| .seq (.cond (.t 17) (.skip) <| .seq (.keep [0,5,6] [[13]]) <| .exit 0) <| .seq (.seq (.blk 1 <| .seq (oR [oM 18 16,oXx 19 1 14 16,oDd 20 19,oM 7 18,oM 8 20] [0,1,5,6,7,8,14,15,16] [[13]]) <| .seq (oR [oM 21 8,oM 22 1,oBb 23 .mul 21 22,oM 24 6,oBb 25 .add 23 24,oM 9 25] [0,1,5,7,9,14,15,16] [[13]]) <| oR [oM 26 5,oM 27 7,oM 28 9,oA 29 (.bin .rem (.t 28) (oC 1000000000)),oM 30 9,oA 31 (.bin .quo (.t 30) (oC 1000000000)),oXx 32 1 26 27,oPp 1 32 29,oM 6 31] [0,1,5,6,14,15,16] [[13]]) <| .keep [0,1,5,6,14,15,16] [[13]]) <| oR [oA 33 (.bin .add (.t 16) (oC 1)),oM 16 33] [0,1,5,6,14,15,16] [[13]]) <| .keep [0,1,5,6,14,15,16] [[13]]
def Qf5 : CF := ⟨2,.seq (oR [oA 4 (.mov (.c (.z true)))] [0,1] []) <| .seq (oR [oM 10 0,oQq 11 10,oA 12 (.bin .add (.t 11) (oC 1)),oA 13 (.mksl 1 8 [.v (.int .i64 0)] (.t 12) (.t 12)),oM 5 13] [0,1,5] [[13]]) <| .seq (oR [oA 6 (.mov (oC 0))] [0,1,5,6] [[13]]) <| .seq (.seq (oR [oM 14 0,oQq 15 14,oA 16 (.mov (oC 0))] [0,1,5,6,14,15,16] [[13]]) <| .seq (.blk 0 <| .seq (.keep [0,1,5,6,14,15,16] [[13]]) <| .loop Qb3) <| .keep [0,5,6] [[13]]) <| .seq (oR [oM 34 5,oM 35 0,oQq 36 35,oM 37 6,oXx 38 1 34 36,oPp 1 38 37] [5] [[13]]) <| .seq (oR [oM 39 5,oM 4 39] [4] [[13]]) <| .ret,[.t 4]⟩

end Go.AM

set_option maxRecDepth 100000
namespace Go.AM
open Go Go.Proofs

def ft : Nat → Option CF
 | 5 => some Qbc
 | 9 => some QcB
 | 10 => some Qds
 | 11 => some Qeb
 | 12 => some QcA
 | 14 => some QeL
 | 15 => some Qfs
 | 16 => some QgX
 | 18 => some QeR
 | 19 => some Qih
 | 21 => some Qed
 | 22 => some QcI
 | 23 => some Qdx
 | 24 => some Qe9
 | 25 => some Qfy
 | 26 => some Qfx
 | 27 => some Qgd
 | 28 => some Qnz
 | 29 => some Qnl
 | 30 => some Qfl
 | 31 => some Qjk
 | 32 => some Qfq
 | 33 => some QeT
 | 35 => some Qg2
 | 41 => some Qdm
 | 42 => some QcT
 | 47 => some QeJ
 | 48 => some Qk7
 | 49 => some Qik
 | 50 => some Qjq
 | 51 => some Qm2
 | 52 => some Qk9
 | 53 => some QeI
 | 54 => some Qnj
 | 55 => some Qpb
 | 56 => some Qfh
 | 57 => some Qg0
 | 58 => some rat_Of
 | 60 => some QlT
 | 61 => some QbI
 | 62 => some Qfe
 | 63 => some QdY
 | 64 => some Qfa
 | 65 => some QeZ
 | 66 => some Qbz
 | 67 => some QcQ
 | 68 => some Qer
 | 69 => some QiL
 | 70 => some QjA
 | 71 => some Qio
 | 72 => some QhZ
 | 73 => some QhR
 | 74 => some QgQ
 | 75 => some Qlx
 | 76 => some Qhj
 | 77 => some Qhp
 | 78 => some QeQ
 | 79 => some Qfm
 | 80 => some QbT
 | 81 => some Qit
 | 84 => some QaU
 | 85 => some Qiw
 | 90 => some QgA
 | 91 => some Qez
 | 92 => some Qa1
 | 93 => some Qe8
 | 94 => some Qns
 | 95 => some QgV
 | 96 => some Qco
 | 97 => some QhS
 | 98 => some Qeo
 | 99 => some Qfw
 | 100 => some QhV
 | 101 => some Qa7
 | 102 => some QcH
 | 103 => some QdL
 | 104 => some QcO
 | 105 => some QdZ
 | 106 => some Qdr
 | 107 => some Qc2
 | 108 => some Qpu
 | 109 => some QaL
 | 110 => some sturm_zeros_1
 | 111 => some sturm_zeros_1_1
 | 114 => some slices_Backward_api_Poly_api_Rat_1
 | 115 => some Qiz
 | 116 => some Qpw
 | 117 => some QcS
 | 118 => some Qca
 | 119 => some QhG
 | 120 => some QeC
 | 121 => some QgS
 | 122 => some QgH
 | 123 => some QcM
 | 124 => some QeM
 | 125 => some Qbl
 | 126 => some Qc6
 | 127 => some QcN
 | 128 => some Qee
 | 129 => some Qb2
 | 130 => some Qd5
 | 131 => some QgO
 | 132 => some QgP
 | 133 => some QhB
 | 134 => some Qf5
 | _ => none
theorem Qhe : QiY Tryz.prog Tryz.f110 = some sturm_zeros_1.er := by kernel_rfl
theorem Qgr : QiY Tryz.prog Tryz.f111 = some sturm_zeros_1_1.er := by kernel_rfl
theorem Qb0 : QiY Tryz.prog Tryz.f114 = some slices_Backward_api_Poly_api_Rat_1.er := by kernel_rfl
theorem fkH {f : Nat} {fn : Func} {cf : CF} (h1 : Tryz.prog.funcs[f]? = some fn) (h2 : QiY Tryz.prog fn = some cf.er := by kernel_rfl) (h3 : cf.body.noInl = true := by kernel_rfl) : ∃ fn L, Tryz.prog.funcs[f]? = some fn ∧ QiY Tryz.prog fn = some cf.er ∧ Qhk Tryz.prog L cf.body ∧ (L = [] ∨ ∀ b, fn.body = some b → okI L b = true) := ⟨_, [], h1, h2, QcW h3, .inl rfl⟩
theorem ft_ok : ∀ f cf, ft f = some cf → ∃ fn L, Tryz.prog.funcs[f]? = some fn ∧ QiY Tryz.prog fn = some cf.er ∧ Qhk Tryz.prog L cf.body ∧ (L = [] ∨ ∀ b, fn.body = some b → okI L b = true) := by
  intro f cf h
  unfold ft at h
  split at h
  · cases h; exact fkH Tryz.func5
  · cases h; exact fkH Tryz.func9
  · cases h; exact fkH Tryz.func10
  · cases h; exact fkH Tryz.func11
  · cases h; exact fkH Tryz.func12
  · cases h; exact fkH Tryz.func14
  · cases h; exact fkH Tryz.func15
  · cases h; exact fkH Tryz.func16
  · cases h; exact fkH Tryz.func18
  · cases h; exact fkH Tryz.func19
  · cases h; exact fkH Tryz.func21
  · cases h; exact fkH Tryz.func22
  · cases h; exact fkH Tryz.func23
  · cases h; exact fkH Tryz.func24
  · cases h; exact fkH Tryz.func25
  · cases h; exact fkH Tryz.func26
  · cases h; exact fkH Tryz.func27
  · cases h; exact fkH Tryz.func28
  · cases h; exact fkH Tryz.func29
  · cases h; exact fkH Tryz.func30
  · cases h; exact fkH Tryz.func31
  · cases h; exact fkH Tryz.func32
  · cases h; exact fkH Tryz.func33
  · cases h; exact fkH Tryz.func35
  · cases h; exact fkH Tryz.func41
  · cases h; exact fkH Tryz.func42
  · cases h; exact fkH Tryz.func47
  · cases h; exact fkH Tryz.func48
  · cases h; exact fkH Tryz.func49
  · cases h; exact fkH Tryz.func50
  · cases h; exact fkH Tryz.func51
  · cases h; exact fkH Tryz.func52
  · cases h; exact fkH Tryz.func53
  · cases h; exact fkH Tryz.func54
  · cases h; exact fkH Tryz.func55
  · cases h; exact fkH Tryz.func56
  · cases h; exact fkH Tryz.func57
  · cases h; exact fkH Tryz.func58
  · cases h; exact fkH Tryz.func60
  · cases h; exact fkH Tryz.func61
  · cases h; exact fkH Tryz.func62
  · cases h; exact fkH Tryz.func63
  · cases h; exact fkH Tryz.func64
  · cases h; exact fkH Tryz.func65
  · cases h; exact fkH Tryz.func66
  · cases h; exact fkH Tryz.func67
  · cases h; exact fkH Tryz.func68
  · cases h; exact fkH Tryz.func69
  · cases h; exact fkH Tryz.func70
  · cases h; exact fkH Tryz.func71
  · cases h; exact fkH Tryz.func72
  · cases h; exact fkH Tryz.func73
  · cases h; exact fkH Tryz.func74
  · cases h; exact fkH Tryz.func75
  · cases h; exact fkH Tryz.func76
  · cases h; exact fkH Tryz.func77
  · cases h; exact fkH Tryz.func78
  · cases h; exact fkH Tryz.func79
  · cases h; exact fkH Tryz.func80
  · cases h; exact fkH Tryz.func81
  · cases h; exact fkH Tryz.func84
  · cases h; exact fkH Tryz.func85
  · cases h; exact fkH Tryz.func90
  · cases h; exact fkH Tryz.func91
  · cases h; exact fkH Tryz.func92
  · cases h; exact fkH Tryz.func93
  · cases h; exact fkH Tryz.func94
  · cases h; exact fkH Tryz.func95
  · cases h; exact fkH Tryz.func96
  · cases h; exact fkH Tryz.func97
  · cases h; exact fkH Tryz.func98
  · cases h; exact fkH Tryz.func99
  · cases h; exact fkH Tryz.func100
  · cases h; exact fkH Tryz.func101
  · cases h; exact fkH Tryz.func102
  · cases h; exact fkH Tryz.func103
  · cases h; exact fkH Tryz.func104
  · cases h; exact fkH Tryz.func105
  · cases h; exact fkH Tryz.func106
  · cases h; exact fkH Tryz.func107
  · cases h; exact fkH Tryz.func108
  · cases h; exact fkH Tryz.func109
  · cases h; exact ⟨_, [], Tryz.func110, Qhe, QcW (by kernel_rfl), .inl rfl⟩
  · cases h; exact ⟨_, [], Tryz.func111, Qgr, QcW (by kernel_rfl), .inl rfl⟩
  · cases h; exact ⟨_, [], Tryz.func114, Qb0, QcW (by kernel_rfl), .inl rfl⟩
  · cases h; exact fkH Tryz.func115
  · cases h; exact fkH Tryz.func116
  · cases h; exact fkH Tryz.func117
  · cases h; exact fkH Tryz.func118
  · cases h; exact fkH Tryz.func119
  · cases h; exact fkH Tryz.func120
  · cases h; exact fkH Tryz.func121
  · cases h; exact fkH Tryz.func122
  · cases h; exact fkH Tryz.func123
  · cases h; exact fkH Tryz.func124
  · cases h; exact fkH Tryz.func125
  · cases h; exact fkH Tryz.func126
  · cases h; exact fkH Tryz.func127
  · cases h; exact fkH Tryz.func128
  · cases h; exact fkH Tryz.func129
  · cases h; exact fkH Tryz.func130
  · cases h; exact fkH Tryz.func131
  · cases h; exact fkH Tryz.func132
  · cases h; exact fkH Tryz.func133
  · cases h; exact fkH Tryz.func134
  · cases h
end Go.AM

/- The seat's functions, and that their small texts are theirs. -/
namespace Go.AM
open Go Go.Proofs
class Its where
 it : Nat → List D → Option (List (List D))
 orc : Nat → List D → Option R := fun _ _ => none
abbrev noIts : Its := { it := fun _ _ => none }
def G [Its] : Env := ⟨ft, Its.orc, Its.it⟩
theorem env_okO [Its] (h : ∀ f ds xs, Its.it f ds = some xs → ItOk Tryz.prog f ds xs) (ho : ∀ f ds r, ft f = none → Its.orc f ds = some r → CallOk Tryz.prog f ds r) : EnvOk Tryz.prog G := ⟨by kernel_rfl, ft_ok, ho, h⟩
theorem env_ok [Its] (h : ∀ f ds xs, Its.it f ds = some xs → ItOk Tryz.prog f ds xs) (h0 : ∀ f ds, (Its.orc f ds : Option R) = none := by intros; rfl) : EnvOk Tryz.prog G := env_okO h fun f ds r _ h => by rw [h0] at h; cases h
theorem env_ok0 : EnvOk Tryz.prog (@G noIts) := @env_ok noIts (fun _ _ _ h => by cases h) (fun _ _ => rfl)
end Go.AM

/- How the evaluator is run by simp: its equations, and lemmas on data. -/
namespace Go.AM
open Go Go.RowKit


theorem upd_get (f : Fr) (i j : Nat) (x : A) : upd f i x j = if j = i then some x else f j := rfl
theorem hupd_get (f : Hp) (i j : Key) (x : Obj) : hupd f i x j = if j = i then some x else f j := rfl
theorem updO_some (f : Fr) (i : Nat) (x : A) : updO f i (some x) = upd f i x := rfl
theorem Qsf (f : Hp) (i : Key) (x : Obj) : Qbx f i (some x) = hupd f i x := rfl
theorem updO_get (f : Fr) (i j : Nat) (x : Option A) : updO f i x j = if j = i then x else f j := rfl
theorem hupdO_get (f : Hp) (i j : Key) (x : Option Obj) : Qbx f i x j = if j = i then x else f j := rfl
theorem fr0_get (i : Nat) : fr0 i = none := rfl
theorem hp0_get (i : Key) : hp0 i = none := rfl

theorem w64_ex : ∃ f : Int → Int, ∀ n, IntKind.i64.wrap n = f n := ⟨_, fun _ => rfl⟩
noncomputable def w64 : Int → Int := Classical.choose w64_ex
theorem QqE (n : Int) : IntKind.i64.wrap n = w64 n := Classical.choose_spec w64_ex n
theorem Qaf {n : Int} (h0 : -9223372036854775808 ≤ n) (h1 : n < 9223372036854775808) : w64 n = n := by
 rw [← QqE]
 unfold IntKind.wrap
 simp only [IntKind.signed, IntKind.bits, Bool.true_and, decide_eq_true_eq, ge_iff_le]
 by_cases h : (2 : Int) ^ (64 - 1) ≤ n % 2 ^ 64
 ·rw [if_pos h]; omega
 ·rw [if_neg h]; omega

theorem bind_ite {α β : Type} (c : Prop) [Decidable c] (x y : Option α) (f : α → Option β) : (if c then x else y).bind f = if c then x.bind f else y.bind f := by split <;> rfl
theorem map_ite {α β : Type} (c : Prop) [Decidable c] (x y : Option α) (f : α → β) : (if c then x else y).map f = if c then x.map f else y.map f := by split <;> rfl
/-! ### Rows of numbers -/
def dg (l : List Int) : D := if l = [] then .z true else .row l.length (l.map iv)
theorem QnE : dg [] = .z true := rfl
theorem QpR (x : Int) (l : List Int) : dg (x :: l) = .row (l.length + 1) (iv x :: l.map iv) := rfl
theorem Qm6 {l : List Int} (h : l ≠ []) : dg l = .row l.length (l.map iv) := if_neg h

theorem QaN (l : List Int) : lenA (.d (dg l)) = some l.length := by
 cases l with
 | nil => rfl
 | cons x l => rfl
theorem ixa_dg (h : Hp) (l : List Int) {j : Int} (h0 : 0 ≤ j) (h1 : j < l.length) : ixaA h 1 j (.d (dg l)) = some (.d (.rp ((l.drop j.toNat).map iv))) := by
 have hl : l ≠ [] := by rintro rfl; simp at h1; omega
 rw [Qm6 hl]
 simp only [ixaA, guardO]
 rw [if_pos ⟨h0, h1⟩, Nat.mul_one, List.map_drop]
theorem Qos (h : Hp) (l : List Int) {j : Nat} (h1 : j < l.length) : Qci h none (.d (.rp ((l.drop j).map iv))) = some (.d (.v (.int .i64 (l.getD j 0)))) := by
 simp only [Qci, QjE]
 rw [List.head?_map, List.head?_drop]
 simp [h1, iv]
theorem src_dg (st : St) (l : List Int) : src st (.d (dg l)) = some (l.length, l.map iv) := by
 cases l with
 | nil => rfl
 | cons x l => rfl
/-! ### The helpers at each kind of value -/
theorem lenA_z (b : Bool) : lenA (.d (.z b)) = some 0 := rfl
theorem lenA_row (n : Nat) (cs : List D) : lenA (.d (.row n cs)) = some n := rfl
theorem lenA_own (k : Key) (n : Nat) : lenA (.own k n) = some n := rfl
theorem loadA_ptr (h : Hp) (sz : Option Nat) (k : Key) (off : Nat) : Qci h sz (.ptr k off) = (h k).bind fun o => Qaa sz off o.cs := rfl
theorem loadA_ep (h : Hp) (sz : Option Nat) (k : Key) (n off : Nat) : Qci h sz (.ep k n off) = (h k).bind fun o => guardO (o.n = n) (Qaa sz off o.cs) := rfl
theorem Qnm (h : Hp) (f : Nat) (pre : List D) : Qci h none (.d (.rc f pre)) = some (.d (.fn f (pre ++ [.rc f pre]))) := rfl
theorem fadA_ptr (i : Nat) (k : Key) (o : Nat) : fadA i (.ptr k o) = some (.ptr k (o + i)) := rfl
theorem fadA_ep (i : Nat) (k : Key) (n o : Nat) : fadA i (.ep k n o) = some (.ep k n (o + i)) := rfl
theorem fadA_rp (i : Nat) (cs : List D) : fadA i (.d (.rp cs)) = some (.d (.rp (cs.drop i))) := rfl
theorem ixaA_own (h : Hp) (es : Nat) (j : Int) (q : Key) (n : Nat) : ixaA h es j (.own q n) = (h q).bind fun o => guardO (o.n = n ∧ 0 ≤ j ∧ j < n) (some (.ep q n (j.toNat * es))) := rfl
theorem Qsq (h : Hp) (v : A) (k : Key) (off : Nat) : QfS h v (.ptr k off) = (h k).bind fun o => guardO (o.fz = false) ((Qab off (QaB v) o.cs).map fun cs => hupd h k { o with cs }) := rfl
theorem storeA_ep (h : Hp) (v : A) (k : Key) (n off : Nat) : QfS h v (.ep k n off) = (h k).bind fun o => guardO (o.fz = false ∧ o.n = n) ((allD (QaB v)).bind fun _ => (Qab off (QaB v) o.cs).map fun cs => hupd h k { o with cs }) := rfl
theorem strA_s (s : ByteArray) : strA (.d (.v (.string s))) = some s := rfl
theorem valA_v (x : Value) : valA (.d (.v x)) = some x := rfl
theorem aggA_g (cs : List D) : aggA (.d (.agg cs)) = some cs := rfl
theorem extA_t (i : Nat) (xs : List D) : extA i (.d (.tup xs)) = (xs[i]?).map .d := rfl
theorem fnA_f (f : Nat) (c : List D) : fnA (.d (.fn f c)) = some (f, c) := rfl
theorem int_i (k : IntKind) (n : Int) : A.int? (.d (.v (.int k n))) = some n := rfl
theorem bool_b (b : Bool) : A.bool? (.d (.v (.bool b))) = some b := rfl
theorem argD_d (st : St) (x : D) : argD st (.d x) = some (x, true) := rfl
theorem argD_own (st : St) (k : Key) (n : Nat) : argD st (.own k n) = (st.hp k).bind fun o => guardO (o.n = n) ((allD o.cs).map fun cs => (.row n cs, o.fz)) := rfl
theorem toD_d (st : St) (x : D) : toD st (.d x) = some x := rfl
theorem toD_own (st : St) (k : Key) (n : Nat) : toD st (.own k n) = (st.hp k).bind fun o => guardO (o.n = n) ((allD o.cs).map fun cs => .row n cs) := rfl
theorem retA_d (k : Key) (h : Hp) (ad fz : Bool) (x : D) : retA k h ad fz (.d x) = guardO (fz = true ∨ x.flat = true) (some (.d x, h)) := rfl
theorem retA_own (k : Key) (h : Hp) (ad fz : Bool) (es n : Nat) (cs : List D) : retA k h ad fz (.own es n cs) = guardO (fz = true) (mkA k h (!ad) es n cs) := rfl
theorem mkA_t (k : Key) (h : Hp) (es n : Nat) (cs : List D) : mkA k h true es n cs = some (.d (.row n cs), h) := rfl
theorem mkA_f (k : Key) (h : Hp) (es n : Nat) (cs : List D) : mkA k h false es n cs = guardO ((h k).isNone = true) (some (.own k n, hupd h k ⟨es, n, cs.map .d, false⟩)) := rfl
theorem appA_z (k : Key) (h : Hp) (fz : Bool) (es by_ m : Nat) (ys : List D) (b : Bool) : appA k h fz es by_ m ys (.d (.z b)) =
    guardO (m * by_ ≤ bound ∧ ys.length = m * es) (if m = 0 then some (.d (.z b), h) else mkA k h fz es m ys) := rfl
theorem appA_own (k : Key) (h : Hp) (fz : Bool) (es by_ m : Nat) (ys : List D) (q : Key) (n : Nat) : appA k h fz es by_ m ys (.own q n) =
    (h q).bind fun o => guardO (o.n = n ∧ o.fz = false ∧ o.es = es ∧ o.cs.length = n * es ∧ (n + m) * by_ ≤ bound ∧ ys.length = m * es ∧ ys.all D.one = true)
      (if fz then (allD o.cs).map fun cs => (.d (.row (n + m) (cs ++ ys)), hupd h q ⟨es, n + m, o.cs ++ ys.map .d, true⟩)
       else some (.own q (n + m), hupd h q ⟨es, n + m, o.cs ++ ys.map .d, false⟩)) := rfl
theorem ex_n_x (i : Nat) : (Ex.n = Ex.x i) = False := by simp
theorem ex_x_n (i : Nat) : (Ex.x i = Ex.n) = False := by simp
theorem ex_x_x (i j : Nat) : (Ex.x i = Ex.x j) = (i = j) := by simp
theorem ex_r_n : (Ex.r = Ex.n) = False := by simp
theorem ex_r_x (i : Nat) : (Ex.r = Ex.x i) = False := by simp
theorem ex_n_n : (Ex.n = Ex.n) = True := by simp

theorem Qob {α β : Type} {x y : Option α} {f : α → Option β} (h : x = y) : x.bind f = y.bind f := by rw [h]
theorem Qpg {α β : Type} {x y : Option α} {f : α → β} (h : x = y) : x.map f = y.map f := by rw [h]

attribute [go_sem] X_seq X_reg X_cond X_blk X_keep X_frz X_exit X_ret X_skip exs exO act Qcr putO E.ev allE Qil upd_get hupd_get fr0_get hp0_get
 Option.bind_some Option.map_some Option.bind_none Option.map_none Option.getD_some Option.getD_none Option.isNone_none Option.isNone_some guardO binV binI shOp QdP iA
 endOf Ql9 resL resV argF Qhm QlN QkY QiP Qgi refsO refsOO updO_some Qsf updO_get hupdO_get refs Qc7 List.all_nil List.all_cons QqE bind_ite map_ite
 lenA_z lenA_row lenA_own loadA_ptr loadA_ep Qnm fadA_ptr fadA_ep fadA_rp ixaA_own Qsq storeA_ep strA_s valA_v aggA_g extA_t fnA_f int_i bool_b argD_d argD_own toD_d toD_own
 retA_d retA_own mkA_t mkA_f appA_z appA_own QaN ex_n_x ex_x_n ex_x_x ex_r_n ex_r_x ex_n_n
theorem key1 (a b : Nat) : (([a] : Key) = [b]) = (a = b) := by simp
theorem tt_true : (true = true) = True := by simp
theorem ft_false : (false = true) = False := by simp
theorem lenD1 (a : D) : ([a] : List D).length = 1 := rfl
theorem lenD2 (a b : D) : ([a, b] : List D).length = 2 := rfl
theorem lenD3 (a b c : D) : ([a, b, c] : List D).length = 3 := rfl
theorem lenD4 (a b c d : D) : ([a, b, c, d] : List D).length = 4 := rfl
attribute [go_sem] X_inl calA Qmz Qr0 waitO capO asideO QeO goneO resA Ex.fin
attribute [go_sem] lenD1 lenD2 lenD3 lenD4 key1 Key.isIn List.any_cons List.any_nil tt_true ft_false decide_true decide_false Bool.and_true Bool.true_and Bool.and_self Bool.or_true Bool.true_or Bool.or_false Bool.false_or and_true true_and and_self
theorem ge_t {a b : Int} (h : a ≥ b) : decide (a ≥ b) = true := decide_eq_true h
theorem ge_f {a b : Int} (h : ¬ a ≥ b) : decide (a ≥ b) = false := decide_eq_false h
theorem gt_t {a b : Int} (h : a > b) : decide (a > b) = true := decide_eq_true h
theorem gt_f {a b : Int} (h : ¬ a > b) : decide (a > b) = false := decide_eq_false h
theorem lt_t {a b : Int} (h : a < b) : decide (a < b) = true := decide_eq_true h
theorem lt_f {a b : Int} (h : ¬ a < b) : decide (a < b) = false := decide_eq_false h
theorem le_t {a b : Int} (h : a ≤ b) : decide (a ≤ b) = true := decide_eq_true h
theorem le_f {a b : Int} (h : ¬ a ≤ b) : decide (a ≤ b) = false := decide_eq_false h
theorem Qie {a b : Int} (h : a = b) : (a == b) = true := by simp [h]
theorem Qcy {a b : Int} (h : a ≠ b) : (a == b) = false := by simp [h]
theorem Qsc {a b : Int} (h : a ≠ b) : (a != b) = true := by simp [h]
theorem QrF {a b : Int} (h : a = b) : (a != b) = false := by simp [h]
theorem Qsw (n : Nat) : Int.ofNat n = (n : Int) := rfl
theorem one_int (k : IntKind) (n : Int) : A.one (.d (.v (.int k n))) = true := rfl
theorem Qrx (b : Bool) : A.one (.d (.v (.bool b))) = true := rfl
theorem one_str (b : ByteArray) : A.one (.d (.v (.string b))) = true := rfl
theorem one_z (b : Bool) : A.one (.d (.z b)) = true := rfl
theorem one_row (n : Nat) (cs : List D) : A.one (.d (.row n cs)) = true := rfl
theorem one_own (k : Key) (n : Nat) : A.one (.own k n) = true := rfl
theorem one_ptr (k : Key) (n : Nat) : A.one (.ptr k n) = true := rfl
theorem QpC (l : List Int) : A.one (.d (dg l)) = true := by cases l <;> rfl
theorem one_agg (cs : List D) : A.one (.d (.agg cs)) = false := rfl
theorem cells_agg (cs : List D) : QaB (.d (.agg cs)) = cs.map .d := rfl
theorem cells_int (k : IntKind) (n : Int) : QaB (.d (.v (.int k n))) = [.d (.v (.int k n))] := rfl
theorem QrL (b : Bool) : QaB (.d (.v (.bool b))) = [.d (.v (.bool b))] := rfl
theorem cells_str (b : ByteArray) : QaB (.d (.v (.string b))) = [.d (.v (.string b))] := rfl
theorem cells_z (b : Bool) : QaB (.d (.z b)) = [.d (.z b)] := rfl
theorem cells_row (n : Nat) (cs : List D) : QaB (.d (.row n cs)) = [.d (.row n cs)] := rfl
theorem cells_dg (l : List Int) : QaB (.d (dg l)) = [.d (dg l)] := by cases l <;> rfl
theorem cells_own (k : Key) (n : Nat) : QaB (.own k n) = [.own k n] := rfl
theorem cells_ptr (k : Key) (n : Nat) : QaB (.ptr k n) = [.ptr k n] := rfl
theorem dc_agg (cs : List D) : Qce (.d (.agg cs)) = some cs := rfl
theorem dc_int (k : IntKind) (n : Int) : Qce (.d (.v (.int k n))) = some [.v (.int k n)] := rfl
theorem dc_bool (b : Bool) : Qce (.d (.v (.bool b))) = some [.v (.bool b)] := rfl
theorem dc_str (b : ByteArray) : Qce (.d (.v (.string b))) = some [.v (.string b)] := rfl
theorem dc_z (b : Bool) : Qce (.d (.z b)) = some [.z b] := rfl
theorem dc_row (n : Nat) (cs : List D) : Qce (.d (.row n cs)) = some [.row n cs] := rfl
theorem dc_dg (l : List Int) : Qce (.d (dg l)) = some [dg l] := by cases l <;> rfl
theorem dc_fn (f : Nat) (cs : List D) : Qce (.d (.fn f cs)) = some [.fn f cs] := rfl
theorem rep_1 (z : D) : rep 1 [z] = [z] := rfl
theorem rep_2 (z : D) : rep 2 [z] = [z, z] := rfl
theorem rep_3 (z : D) : rep 3 [z] = [z, z, z] := rfl
theorem wrap_u64 (n : Int) : IntKind.u64.wrap n = n % 18446744073709551616 := by
 unfold IntKind.wrap
 simp [IntKind.signed, IntKind.bits]
theorem base_ne : ((1000000000 : Int) = 0) = False := by simp
theorem nc0 : ((0 : Nat) : Int) = 0 := rfl
theorem toNat0 : Int.toNat 0 = 0 := rfl
theorem ob_ft : (some false = some true) = False := by simp
theorem ob_tf : (some true = some false) = False := by simp
theorem ob_tt : (some true = some true) = True := by simp
theorem ob_ff : (some false = some false) = True := by simp
theorem tf_false : (true = false) = False := by simp
theorem ff_true : (false = false) = True := by simp
attribute [go_sem] rep_1 rep_2 rep_3 wrap_u64 base_ne QnL Nat.reduceMul Nat.reduceSub List.getElem?_cons_zero List.getElem?_cons_succ List.getElem?_nil true_or or_true or_self false_or or_false and_false false_and nc0 toNat0 Nat.sub_zero Nat.mul_one Nat.zero_mul Qsw List.map_cons List.map_nil List.length_cons List.length_nil Nat.reduceAdd Nat.reduceLeDiff List.take_succ_cons List.take_zero List.drop_succ_cons List.drop_zero List.drop_nil List.take_nil List.nil_append List.cons_append List.append_nil Int.toNat_natCast ob_ft ob_tf ob_tt ob_ff tf_false ff_true Bool.not_true Bool.not_false Bool.false_and Bool.and_false unV eqD slcA bnds optI cut srcS QkX Qhh Qcd Qel D.flat QjE allD one_int Qrx one_str one_z one_row one_own one_ptr QpC one_agg cells_agg cells_int QrL cells_str cells_z cells_row cells_dg cells_own cells_ptr dc_agg dc_int dc_bool dc_str dc_z dc_row dc_dg dc_fn
attribute [congr] Qob Qpg
end Go.AM

