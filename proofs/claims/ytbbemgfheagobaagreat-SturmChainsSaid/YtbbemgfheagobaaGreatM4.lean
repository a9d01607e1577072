/- Part 4 of the proof: a small machine, its soundness against the model, and what the program's functions compute on it. -/
import Derived.Test.YtbbemgfheagobaaGreatM0
import Derived.Test.YtbbemgfheagobaaGreatProg
import Derived.KernelRfl
import Derived.Test.YtbbemgfheagobaaGreatM3
set_option linter.unusedVariables false
set_option linter.unusedSimpArgs false
set_option maxRecDepth 100000
namespace Go.AM
open Go Go.Proofs
@[go_sem] abbrev oA (n : Nat) (i : I) : O := ⟨some n,i,none⟩
@[go_sem] abbrev oM (n m : Nat) : O := ⟨some n,.mov (.t m),none⟩
@[go_sem] abbrev oL (n k m : Nat) : O := ⟨some n,.load (some k) (.t m),none⟩
@[go_sem] abbrev oG (n g : Nat) (b : Bool) (i : I) : O := ⟨some n,i,some (g,b)⟩
@[go_sem] abbrev oBb (n : Nat) (o : BinOp) (a b : Nat) : O := ⟨some n,.bin o (.t a) (.t b),none⟩
@[go_sem] abbrev oJ (n f : Nat) (l : List Nat) : O := ⟨some n,.call f (l.map .t) false,none⟩
@[go_sem] abbrev oNn (n k a : Nat) : O := ⟨some n,.fad k (.t a),none⟩
@[go_sem] abbrev oQq (n a : Nat) : O := ⟨some n,.len (.t a),none⟩
@[go_sem] abbrev oDd (n a : Nat) : O := ⟨some n,.load none (.t a),none⟩
@[go_sem] abbrev oXx (n k a b : Nat) : O := ⟨some n,.ixa k (.t a) (.t b),none⟩
@[go_sem] abbrev oEe (n a : Nat) : O := ⟨some n,.box (.t a),none⟩
@[go_sem] abbrev oPp (k a b : Nat) : O := ⟨none,.store k (.t a) (.t b),none⟩
@[go_sem] abbrev oHh (n g : Nat) (b : Bool) (m : Nat) : O := ⟨some n,.mov (.t m),some (g,b)⟩
@[go_sem] abbrev oC (n : Int) : E := .c (.v (.int .i64 n))
@[go_sem] abbrev oZ4 : List D := [.v (.bool false),.z true,.v (.bool false),.z true]
@[go_sem] abbrev oZ8 : List D := [.v (.bool false),.z true,.v (.bool false),.z true,.v (.bool false),.z true,.v (.bool false),.z true]
@[go_sem] abbrev oI2 : List D := [.v (.int .i64 0),.v (.int .i64 0)]
@[go_sem] abbrev oR (o : List O) (a : List Nat) (b : List Key) : C := .seq (.reg o []) (.keep a b)
abbrev Qgr : Nat := 9
abbrev Qgt : Nat := 10
abbrev Qbm : Nat := 11
abbrev Qar : Nat := 12
abbrev QcL : Nat := 13
abbrev Qek : Nat := 14
abbrev QbK : Nat := 15
abbrev Qdl : Nat := 16
abbrev Qdf : Nat := 17
abbrev Qc5 : Nat := 18
abbrev QcP : Nat := 19
abbrev QcN : Nat := 20
abbrev QfX : Nat := 21
abbrev QdH : Nat := 22
abbrev Qcr : Nat := 23
abbrev Qdt : Nat := 24
abbrev QcJ : Nat := 25
abbrev QcE : Nat := 26
abbrev Qaq : Nat := 27
abbrev Qkg : Nat := 28
abbrev Qif : Nat := 29
abbrev Qds : Nat := 30
abbrev QhR : Nat := 31
abbrev QaG : Nat := 32
abbrev Qc2 : Nat := 33
abbrev Qgu : Nat := 34
abbrev Qgb : Nat := 35
abbrev Qfu : Nat := 41
abbrev QcB : Nat := 42
abbrev Qem : Nat := 43
abbrev QdI : Nat := 44
abbrev Qdo : Nat := 45
abbrev QcO : Nat := 46
abbrev Qgq : Nat := 47
abbrev Qct : Nat := 48
abbrev Qhq : Nat := 49
abbrev Qku : Nat := 50
abbrev Qeb : Nat := 51
abbrev Qhe : Nat := 52
abbrev Qel : Nat := 53
abbrev Qi6 : Nat := 54
abbrev Qjp : Nat := 55
abbrev QfE : Nat := 56
abbrev QgR : Nat := 57
abbrev Qgn : Nat := 58
abbrev QdA : Nat := 59
abbrev QbA : Nat := 60
abbrev Qdg : Nat := 61
abbrev QaN : Nat := 62
abbrev QaM : Nat := 63
abbrev Qdq : Nat := 64
abbrev Qf6 : Nat := 65
abbrev Qco : Nat := 66
abbrev QeD : Nat := 67
abbrev Qbz : Nat := 68
abbrev Qhm : Nat := 69
abbrev Qh3 : Nat := 70
abbrev Qfc : Nat := 71
abbrev Qfa : Nat := 72
abbrev Qc1 : Nat := 73
abbrev QfO : Nat := 74
abbrev Qg6 : Nat := 75
abbrev QgB : Nat := 76
abbrev QgD : Nat := 77
abbrev Qgw : Nat := 78
abbrev Qb8 : Nat := 79
abbrev QdE : Nat := 80
abbrev Qjz : Nat := 81
abbrev Qa8 : Nat := 84
abbrev QfS : Nat := 85
abbrev QgY : Nat := 86
abbrev Qcc : Nat := 87
abbrev QeJ : Nat := 88
abbrev Qg1 : Nat := 89
abbrev Qgd : Nat := 90
abbrev Qiy : Nat := 91
abbrev Qcf : Nat := 92
abbrev Qgv : Nat := 93
abbrev QdT : Nat := 94
abbrev QfF : Nat := 95
abbrev QeW : Nat := 96
abbrev Qd7 : Nat := 97
abbrev QbJ : Nat := 98
abbrev Qhn : Nat := 99
abbrev QgZ : Nat := 100
abbrev Qbe : Nat := 101
abbrev Qam : Nat := 102
abbrev Qg3 : Nat := 103
abbrev Qdw : Nat := 104
abbrev QgS : Nat := 105
abbrev Qgl : Nat := 106
abbrev Qb9 : Nat := 107
abbrev Qob : Nat := 108
abbrev QbP : Nat := 109
abbrev QaB : Nat := 110
abbrev Qao : Nat := 111
abbrev Qfk : Nat := 113
abbrev Qag : Nat := 114
abbrev Qki : Nat := 115
abbrev Qn2 : Nat := 116
abbrev QcD : Nat := 117
abbrev Qbv : Nat := 118
abbrev Qbn : Nat := 119
abbrev QdJ : Nat := 120
abbrev Qeh : Nat := 121
abbrev Qju : Nat := 122
abbrev Qg5 : Nat := 123
abbrev Qbu : Nat := 124
abbrev Qff : Nat := 125
abbrev QbG : Nat := 126
abbrev QeQ : Nat := 127
abbrev Qeg : Nat := 128
abbrev Qfs : Nat := 129
abbrev Qd6 : Nat := 130
abbrev Qf7 : Nat := 131
abbrev Qf4 : Nat := 132
abbrev Qiz : Nat := 133
abbrev Qfj : Nat := 134

def QaF : C :=
 .seq (.seq (.seq (oR [oM 30 12,oA 31 (.bin .lss (.t 30) (oC 4))] [10,11,12,31] [[10]]) <| .cond (.t 31) (.skip) <| .seq (.keep [10,11] [[10]]) <| .exit 0) <| .seq (.seq (.blk 1 <| .seq (oR [oM 34 11,oM 35 12,oXx 36 1 34 35,oDd 37 36,oJ 38 QcL [37],oM 13 38] [10,11,12,13] [[10]]) <| .seq (oR [oM 39 11,oM 40 12,oXx 41 1 39 40,oDd 42 41,oJ 43 QbK [42],oM 44 13,oJ 45 Qek [43,44],oA 46 (.un .not (.t 45)),oM 47 46,oHh 48 47 false 13,oG 49 47 false (.load (some 4) (.t 10)),oG 50 47 false (.call Qdl [.t 48,.t 49] false),oHh 51 47 false 13,oG 52 47 false (.load (some 4) (.t 10)),oG 53 47 false (.call Qdf [.t 51,.t 52] false),oG 54 47 false (.bin .neq (.t 50) (.t 53)),oA 55 (.pick (.t 47) (.c (.v (.bool true))) (.t 54)),oM 56 55,oHh 57 56 false 11,oHh 58 56 false 12,oG 59 56 false (.ixa 1 (.t 57) (.t 58)),oG 60 56 false (.load none (.t 59)),oG 61 56 false (.call QcP [.t 60] false),oHh 62 56 false 11,oHh 63 56 false 12,oG 64 56 false (.ixa 1 (.t 62) (.t 63)),oG 65 56 false (.load none (.t 64)),oG 66 56 false (.call QcN [.t 65] false),oG 67 56 false (.call Qc5 [.t 61,.t 66] false),oG 68 56 false (.un .not (.t 67)),oA 69 (.pick (.t 56) (.c (.v (.bool true))) (.t 68))] [10,11,12,69] [[10]]) <| .cond (.t 69) (.seq (oR [oA 6 (.mov (.c (.v (.bool false))))] [6] []) <| .ret) <| .skip) <| .keep [10,11,12] [[10]]) <| oR [oM 32 12,oA 33 (.bin .add (.t 32) (oC 1)),oM 12 33] [10,11,12] [[10]]) <| .keep [10,11,12] [[10]]
def QcQ : CF := ⟨3,.seq (oR [oA 6 (.mov (.c (.v (.bool false))))] [0,1,2] []) <| .seq (oR [oM 14 0,oJ 15 Qgr [14],oM 7 15] [1,2,7] []) <| .seq (oR [oM 17 1,oM 18 2,oJ 19 Qgt [17,18],oM 16 19,oA 20 (.ext (.t 16) 0),oA 21 (.ext (.t 16) 1),oM 8 20,oM 9 21] [2,7,8] []) <| .seq (oR [oM 22 2,oJ 23 Qbm [22],oA 10 (.new oZ4),oPp 4 10 23] [7,8,10] [[10]]) <| .seq (oR [oM 24 7,oM 25 8,oL 26 4 10,oA 27 (.lit 4 1 oZ4 [(0,(.t 26))] true),oJ 28 Qar [27],oA 29 (.lit 1 4 [.z true] [(0,(.t 24)),(1,(.t 25)),(2,(.c (.z true))),(3,(.t 28))] true),oM 11 29] [10,11] [[10]]) <| .seq (.seq (oR [oA 12 (.mov (oC 0))] [10,11,12] [[10]]) <| .seq (.blk 0 <| .seq (.keep [10,11,12] [[10]]) <| .loop QaF) <| .keep [10,11] [[10]]) <| .seq (oR [oM 70 11,oL 71 4 10,oJ 72 Qdl [70,71],oM 73 11,oL 74 4 10,oJ 75 Qdf [73,74],oBb 76 .eql 72 75,oM 77 76,oG 78 77 true (.call QfX [] false),oA 79 (.pick (.t 77) (.t 78) (.c (.v (.bool false)))),oM 6 79] [6] []) <| .ret,[.t 6]⟩

def QaI : C :=
 .seq (.seq (.seq (oR [oM 11 4,oM 12 0,oQq 13 12,oBb 14 .lss 11 13,oM 15 14,oHh 16 15 true 4,oG 17 15 true (.bin .lss (.t 16) (oC 6)),oA 18 (.pick (.t 15) (.t 17) (.c (.v (.bool false))))] [0,3,4,18] [[28]]) <| .cond (.t 18) (.skip) <| .seq (.keep [3] [[28]]) <| .exit 0) <| .seq (.seq (.blk 1 <| oR [oM 21 3,oM 22 0,oM 23 4,oXx 24 1 22 23,oDd 25 24,oJ 26 Qbm [25],oA 27 (.lit 4 1 oZ4 [(0,(.t 26))] true),oA 28 (.app 4 64 (.t 21) (.t 27) false),oM 3 28] [0,3,4] [[28]]) <| .keep [0,3,4] [[28]]) <| oR [oM 19 4,oA 20 (.bin .add (.t 19) (oC 1)),oM 4 20] [0,3,4] [[28]]) <| .keep [0,3,4] [[28]]
def QaH : C :=
 .seq (.seq (.seq (oR [oM 37 6,oM 38 0,oQq 39 38,oBb 40 .lss 37 39,oM 41 40,oHh 42 41 true 6,oG 43 41 true (.bin .lss (.t 42) (oC 5)),oA 44 (.pick (.t 41) (.t 43) (.c (.v (.bool false))))] [0,5,6,44] []) <| .cond (.t 44) (.skip) <| .seq (.keep [5] []) <| .exit 2) <| .seq (.seq (.blk 3 <| .seq (oR [oM 47 0,oM 48 6,oXx 49 1 47 48,oDd 50 49,oJ 51 Qbm [50],oJ 52 Qdt [51],oA 53 (.call Qaq [(oC 1),(oC 1)] false),oA 54 (.lit 4 2 oZ4 [(0,(.t 52)),(1,(.t 53))] true),oM 7 54] [0,5,6,7] []) <| .seq (.seq (oR [oM 55 0,oM 56 6,oXx 57 1 55 56,oDd 58 57,oA 59 (.bin .rem (.t 58) (oC 7)),oA 60 (.bin .eql (.t 59) (oC 3)),oM 61 60,oHh 62 61 true 6,oG 63 61 true (.bin .lss (.t 62) (oC 4)),oA 64 (.pick (.t 61) (.t 63) (.c (.v (.bool false)))),oM 65 64,oHh 66 65 true 5,oG 67 65 true (.len (.t 66)),oG 68 65 true (.bin .lss (.t 67) (oC 4)),oA 69 (.pick (.t 65) (.t 68) (.c (.v (.bool false))))] [0,5,6,7,69] []) <| .cond (.t 69) (oR [oM 70 0,oM 71 6,oXx 72 1 70 71,oDd 73 72,oA 74 (.bin .quo (.t 73) (oC 7)),oJ 75 Qbm [74],oM 76 0,oM 77 6,oXx 78 1 76 77,oDd 79 78,oA 80 (.bin .quo (.t 79) (oC 3)),oJ 81 Qbm [80],oA 82 (.call Qaq [(oC 1),(oC 1)] false),oA 83 (.lit 4 3 oZ4 [(0,(.t 75)),(1,(.t 81)),(2,(.t 82))] true),oM 7 83] [0,5,6,7] []) <| .skip) <| oR [oM 84 5,oM 85 7,oJ 86 Qar [85],oJ 87 QcB [84,86],oM 5 87] [0,5,6] []) <| .keep [0,5,6] []) <| oR [oM 45 6,oA 46 (.bin .add (.t 45) (oC 1)),oM 6 46] [0,5,6] []) <| .keep [0,5,6] []
def QcV : CF := ⟨1,.seq (oR [oA 2 (.mov (.c (.z true)))] [0] []) <| .seq (.seq (oR [oM 8 0,oA 9 (.call Qfu [(.t 8),(oC 0),(oC 3)] false),oA 10 (.bin .eql (.t 9) (oC 0))] [0,10] []) <| .cond (.t 10) (.seq (oR [oA 3 (.mov (.c (.z true)))] [0,3] [[28]]) <| .seq (.seq (oR [oA 4 (.mov (oC 1))] [0,3,4] [[28]]) <| .seq (.blk 0 <| .seq (.keep [0,3,4] [[28]]) <| .loop QaI) <| .keep [3] [[28]]) <| .seq (.seq (.frz 3) <| oR [oM 29 3,oJ 30 Qar [29],oM 2 30] [2] []) <| .ret) <| .skip) <| .seq (oR [oM 31 0,oA 32 (.call Qfu [(.t 31),(oC 1),(oC 5)] false),oA 33 (.bin .add (oC 1) (.t 32)),oA 34 (.call Qaq [(.t 33),(oC 1)] false),oA 35 (.lit 4 1 oZ4 [(0,(.t 34))] true),oJ 36 Qar [35],oM 5 36] [0,5] []) <| .seq (.seq (oR [oA 6 (.mov (oC 2))] [0,5,6] []) <| .seq (.blk 2 <| .seq (.keep [0,5,6] []) <| .loop QaH) <| .keep [5] []) <| .seq (oR [oM 88 5,oM 2 88] [2] []) <| .ret,[.t 2]⟩

def Qbk : C :=
 .seq (.seq (.seq (oR [oM 37 10,oM 38 7,oQq 39 38,oBb 40 .lss 37 39,oM 41 40,oHh 42 41 true 7,oHh 43 41 true 10,oHh 44 41 true 7,oG 45 41 true (.len (.t 44)),oG 46 41 true (.bin .sub (.t 45) (oC 1)),oG 47 41 true (.mn [.t 43,.t 46]),oG 48 41 true (.ixa 4 (.t 42) (.t 47)),oG 49 41 true (.load (some 4) (.t 48)),oG 50 41 true (.load (some 4) (.t 9)),oG 51 41 true (.call Qcr [.t 49,.t 50] false),oG 52 41 true (.bin .lss (.t 51) (oC 0)),oA 53 (.pick (.t 41) (.t 52) (.c (.v (.bool false))))] [0,1,6,7,8,9,10,53] [[9],[77],[80],[85]]) <| .cond (.t 53) (.skip) <| .seq (.keep [0,1,6,7,8,9,10] [[9],[77],[80],[85]]) <| .exit 2) <| .seq (.blk 3 <| oR [oM 54 10,oA 55 (.bin .add (.t 54) (oC 1)),oM 10 55] [0,1,6,7,8,9,10] [[9],[77],[80],[85]]) <| .keep [0,1,6,7,8,9,10] [[9],[77],[80],[85]]) <| .keep [0,1,6,7,8,9,10] [[9],[77],[80],[85]]
def Qax : C :=
 .seq (.seq (.seq (oR [oM 15 8,oM 16 0,oQq 17 16,oBb 18 .lss 15 17,oM 19 18,oHh 20 19 true 8,oG 21 19 true (.bin .lss (.t 20) (oC 4)),oA 22 (.pick (.t 19) (.t 21) (.c (.v (.bool false))))] [0,1,6,7,8,22] [[77],[80],[85]]) <| .cond (.t 22) (.skip) <| .seq (.keep [1,6,7] [[77],[80],[85]]) <| .exit 0) <| .seq (.seq (.blk 1 <| .seq (oR [oM 25 0,oM 26 8,oXx 27 1 25 26,oDd 28 27,oJ 29 Qbm [28],oA 9 (.new oZ4),oPp 4 9 29] [0,1,6,7,8,9] [[9],[77],[80],[85]]) <| .seq (oR [oM 30 6,oL 31 4 9,oJ 32 Qdt [31],oA 33 (.call Qaq [(oC 1),(oC 1)] false),oA 34 (.lit 4 2 oZ4 [(0,(.t 32)),(1,(.t 33))] true),oJ 35 Qar [34],oJ 36 QcB [30,35],oM 6 36] [0,1,6,7,8,9] [[9],[77],[80],[85]]) <| .seq (oR [oA 10 (.mov (oC 0))] [0,1,6,7,8,9,10] [[9],[77],[80],[85]]) <| .seq (.seq (.blk 2 <| .seq (.keep [0,1,6,7,8,9,10] [[9],[77],[80],[85]]) <| .loop Qbk) <| .keep [0,1,6,7,8,9,10] [[9],[77],[80],[85]]) <| .seq (.seq (oR [oM 56 10,oM 57 7,oQq 58 57,oBb 59 .lss 56 58,oM 60 59,oHh 61 60 true 7,oHh 62 60 true 10,oHh 63 60 true 7,oG 64 60 true (.len (.t 63)),oG 65 60 true (.bin .sub (.t 64) (oC 1)),oG 66 60 true (.mn [.t 62,.t 65]),oG 67 60 true (.ixa 4 (.t 61) (.t 66)),oG 68 60 true (.load (some 4) (.t 67)),oG 69 60 true (.load (some 4) (.t 9)),oG 70 60 true (.call Qcr [.t 68,.t 69] false),oG 71 60 true (.bin .eql (.t 70) (oC 0)),oA 72 (.pick (.t 60) (.t 71) (.c (.v (.bool false))))] [0,1,6,7,8,9,10,72] [[9],[77],[80],[85]]) <| .cond (.t 72) (.seq (.keep [0,1,6,7,8] [[77],[80],[85]]) <| .exit 1) <| .skip) <| .seq (oR [oA 11 (.mov (.c (.z true)))] [0,1,6,7,8,9,10,11] [[9],[77],[80],[85]]) <| .seq (.seq (.reg [oM 73 11,oM 74 7,oM 75 10,oA 76 (.slc 4 (.t 74) none (some (.t 75)) none),oA 77 (.app 4 64 (.t 73) (.t 76) false),oL 78 4 9,oA 79 (.lit 4 1 oZ4 [(0,(.t 78))] true),oA 80 (.app 4 64 (.t 77) (.t 79) false),oM 11 80] [((.t 9),0,(.t 9),0),((.t 78),0,(.t 78),0)]) <| .keep [0,1,6,7,8,10,11] [[77],[80],[85]]) <| oR [oM 81 11,oM 82 7,oM 83 10,oA 84 (.slc 4 (.t 82) (some (.t 83)) none none),oA 85 (.app 4 64 (.t 81) (.t 84) true),oM 7 85] [0,1,6,7,8] []) <| .keep [0,1,6,7,8] [[77],[80],[85]]) <| oR [oM 23 8,oA 24 (.bin .add (.t 23) (oC 1)),oM 8 24] [0,1,6,7,8] [[77],[80],[85]]) <| .keep [0,1,6,7,8] [[77],[80],[85]]
def QdV : CF := ⟨2,.seq (oR [oA 4 (.mov (.c (.z true))),oA 5 (.mov (.c (.z true)))] [0,1] []) <| .seq (oR [oA 12 (.call Qaq [(oC 2),(oC 3)] false),oA 13 (.lit 4 1 oZ4 [(0,(.t 12))] true),oJ 14 Qar [13],oM 6 14] [0,1,6] []) <| .seq (oR [oA 7 (.mov (.c (.z true)))] [0,1,6,7] [[77],[80],[85]]) <| .seq (.seq (oR [oA 8 (.mov (oC 0))] [0,1,6,7,8] [[77],[80],[85]]) <| .seq (.blk 0 <| .seq (.keep [0,1,6,7,8] [[77],[80],[85]]) <| .loop Qax) <| .keep [1,6,7] [[77],[80],[85]]) <| .seq (.seq (oR [oM 86 1,oA 87 (.bin .rem (.t 86) (oC 2)),oA 88 (.bin .neq (.t 87) (oC 0))] [6,7,88] [[77],[80],[85]]) <| .cond (.t 88) (oR [oM 89 6,oA 90 (.call Qaq [(oC 1),(oC 1)] false),oA 91 (.build oZ4 []),oA 92 (.call Qaq [(oC 1),(oC 1)] false),oA 93 (.lit 4 3 oZ4 [(0,(.t 90)),(1,(.t 91)),(2,(.t 92))] true),oJ 94 Qar [93],oJ 95 QcB [89,94],oM 6 95] [6,7] [[77],[80],[85]]) <| .skip) <| .seq (oR [oM 96 6,oM 97 7,oM 4 96,oM 5 97] [4,5] [[77],[80],[85]]) <| .ret,[.t 4,.t 5]⟩

def QeO : CF := ⟨1,.seq (oR [oA 2 (.new oZ4)] [0,2] [[2]]) <| .seq (oR [oM 4 0,oA 5 (.call QdH [(.t 4),(oC 105)] false),oM 3 5] [2,3] [[2]]) <| .seq (oR [oM 6 3,oA 7 (.bin .rem (.t 6) (oC 15)),oA 8 (.bin .sub (.t 7) (oC 7)),oM 9 3,oA 10 (.bin .quo (.t 9) (oC 15)),oA 11 (.bin .rem (.t 10) (oC 4)),oA 12 (.bin .add (oC 1) (.t 11)),oJ 13 Qaq [8,12],oPp 4 2 13] [2] [[2]]) <| .ret,[.cell 2 (some 4)]⟩

def QaX : C :=
 .seq (.seq (.seq (oR [oM 7 3,oA 8 (.bin .gtr (.t 7) (oC 0)),oM 9 8,oHh 10 9 true 0,oHh 11 9 true 3,oG 12 9 true (.bin .sub (.t 11) (oC 1)),oG 13 9 true (.mx [(.t 12),(oC 0)]),oG 14 9 true (.ixa 4 (.t 10) (.t 13)),oG 15 9 true (.load (some 4) (.t 14)),oG 16 9 true (.call Qc2 [.t 15] false),oG 17 9 true (.bin .eql (.t 16) (oC 0)),oA 18 (.pick (.t 9) (.t 17) (.c (.v (.bool false))))] [0,3,18] []) <| .cond (.t 18) (.skip) <| .seq (.keep [0,3] []) <| .exit 0) <| .seq (.blk 1 <| oR [oM 19 3,oA 20 (.bin .sub (.t 19) (oC 1)),oM 3 20] [0,3] []) <| .keep [0,3] []) <| .keep [0,3] []
def QcW : CF := ⟨1,.seq (oR [oA 2 (.mov (.c (.z true)))] [0] []) <| .seq (oR [oM 5 0,oQq 6 5,oM 3 6] [0,3] []) <| .seq (.seq (.blk 0 <| .seq (.keep [0,3] []) <| .loop QaX) <| .keep [0,3] []) <| .seq (oR [oA 4 (.mov (.c (.z true)))] [0,3,4] []) <| .seq (oR [oM 21 4,oM 22 0,oM 23 3,oA 24 (.slc 4 (.t 22) none (some (.t 23)) none),oA 25 (.app 4 64 (.t 21) (.t 24) true),oM 2 25] [2] [[25]]) <| .ret,[.t 2]⟩

def Qbx : C :=
 .seq (.seq (.seq (oR [oM 17 5,oQq 18 17,oA 19 (.bin .gtr (.t 18) (oC 0))] [3,4,5,19] [[14],[23]]) <| .cond (.t 19) (.skip) <| .seq (.keep [4] [[14],[23]]) <| .exit 0) <| .seq (.blk 1 <| .seq (oR [oM 20 4,oM 21 5,oA 22 (.lit 1 1 [.z true] [(0,(.t 21))] true),oA 23 (.app 1 24 (.t 20) (.t 22) false),oM 4 23] [3,4,5] [[14],[23]]) <| .seq (oR [oM 25 3,oM 26 5,oJ 27 Qdo [25,26],oM 24 27,oA 28 (.ext (.t 24) 0),oA 29 (.ext (.t 24) 1),oM 6 28,oM 7 29] [4,5,7] [[14],[23]]) <| .seq (oR [oM 30 5,oM 3 30] [3,4,7] [[14],[23]]) <| oR [oM 31 7,oA 32 (.call Qaq [(oC (-1)),(oC 1)] false),oJ 33 QcO [31,32],oM 5 33] [3,4,5] [[14],[23]]) <| .keep [3,4,5] [[14],[23]]) <| .keep [3,4,5] [[14],[23]]
def QcC : CF := ⟨1,.seq (oR [oA 2 (.mov (.c (.z true)))] [0] []) <| .seq (.seq (oR [oM 8 0,oQq 9 8,oA 10 (.bin .eql (.t 9) (oC 0))] [0,10] []) <| .cond (.t 10) (.seq (oR [oA 2 (.mov (.c (.z true)))] [2] [[14],[23]]) <| .ret) <| .skip) <| .seq (oR [oM 11 0,oJ 12 Qem [11],oM 3 12] [3] []) <| .seq (oR [oM 13 3,oA 14 (.lit 1 1 [.z true] [(0,(.t 13))] false),oM 4 14] [3,4] [[14],[23]]) <| .seq (oR [oM 15 3,oJ 16 QdI [15],oM 5 16] [3,4,5] [[14],[23]]) <| .seq (.seq (.blk 0 <| .seq (.keep [3,4,5] [[14],[23]]) <| .loop Qbx) <| .keep [4] [[14],[23]]) <| .seq (oR [oM 34 4,oM 2 34] [2] [[14],[23]]) <| .ret,[.t 2]⟩

def QbD : C :=
 .seq (.seq (.seq (oR [oM 11 5,oM 12 0,oQq 13 12,oBb 14 .lss 11 13] [0,1,5,14] []) <| .cond (.t 14) (.skip) <| .seq (.keep [] []) <| .exit 0) <| .seq (.seq (.blk 1 <| .seq (oR [oM 17 0,oM 18 5,oXx 19 1 17 18,oDd 20 19,oM 21 1,oM 22 5,oXx 23 1 21 22,oDd 24 23,oJ 25 Qgq [20,24],oA 26 (.un .not (.t 25))] [0,1,5,26] []) <| .cond (.t 26) (.seq (oR [oA 4 (.mov (.c (.v (.bool false))))] [4] []) <| .ret) <| .skip) <| .keep [0,1,5] []) <| oR [oM 15 5,oA 16 (.bin .add (.t 15) (oC 1)),oM 5 16] [0,1,5] []) <| .keep [0,1,5] []
def Qfv : CF := ⟨2,.seq (oR [oA 4 (.mov (.c (.v (.bool false))))] [0,1] []) <| .seq (.seq (oR [oM 6 0,oQq 7 6,oM 8 1,oQq 9 8,oBb 10 .neq 7 9] [0,1,10] []) <| .cond (.t 10) (.seq (oR [oA 4 (.mov (.c (.v (.bool false))))] [4] []) <| .ret) <| .skip) <| .seq (.seq (oR [oA 5 (.mov (oC 0))] [0,1,5] []) <| .seq (.blk 0 <| .seq (.keep [0,1,5] []) <| .loop QbD) <| .keep [] []) <| .seq (oR [oA 4 (.mov (.c (.v (.bool true))))] [4] []) <| .ret,[.t 4]⟩

def QbM : C :=
 .seq (.seq (.seq (oR [oM 10 4,oQq 11 10,oA 12 (.bin .gtr (.t 11) (oC 0))] [3,4,5,12] [[20]]) <| .cond (.t 12) (.skip) <| .seq (.keep [3] [[20]]) <| .exit 0) <| .seq (.seq (.blk 1 <| oR [oM 17 3,oM 18 4,oA 19 (.lit 1 1 [.z true] [(0,(.t 18))] true),oA 20 (.app 1 24 (.t 17) (.t 19) false),oM 3 20] [3,4,5] [[20]]) <| .keep [3,4,5] [[20]]) <| oR [oM 13 5,oM 14 4,oM 15 5,oJ 16 Qku [14,15],oM 4 13,oM 5 16] [3,4,5] [[20]]) <| .keep [3,4,5] [[20]]
def QfW : CF := ⟨1,.seq (oR [oA 2 (.mov (.c (.z true)))] [0] []) <| .seq (oR [oA 3 (.mov (.c (.z true)))] [0,3] [[20]]) <| .seq (oR [oM 6 0,oJ 7 Qct [6],oM 4 7] [3,4] [[20]]) <| .seq (oR [oM 8 4,oJ 9 Qhq [8],oM 5 9] [3,4,5] [[20]]) <| .seq (.seq (.blk 0 <| .seq (.keep [3,4,5] [[20]]) <| .loop QbM) <| .keep [3] [[20]]) <| .seq (oR [oM 21 3,oM 2 21] [2] [[20]]) <| .ret,[.t 2]⟩

def QbC : C :=
 .seq (.seq (oR [oBb 13 .lss 12 11] [3,5,6,10,11,12,13] [[3]]) <| .seq (.cond (.t 13) (.skip) <| .seq (.keep [5] []) <| .exit 0) <| .seq (.seq (.blk 1 <| .seq (oR [oXx 14 1 10 12,oDd 15 14,oM 8 15] [3,5,6,8,10,11,12] [[3]]) <| .seq (oR [oM 16 8,oL 17 4 3,oJ 18 Qhe [16,17],oJ 19 Qeb [18],oM 9 19] [3,5,6,9,10,11,12] [[3]]) <| .seq (oR [oM 20 9,oA 21 (.bin .neq (.t 20) (oC 0))] [3,5,6,9,10,11,12,21] [[3]]) <| .cond (.t 21) (.seq (.seq (oR [oM 22 9,oM 23 6,oA 24 (.un .neg (.t 23)),oBb 25 .eql 22 24] [3,5,9,10,11,12,25] [[3]]) <| .cond (.t 25) (oR [oM 26 5,oA 27 (.bin .add (.t 26) (oC 1)),oM 5 27] [3,5,9,10,11,12] [[3]]) <| .skip) <| oR [oM 28 9,oM 6 28] [3,5,6,10,11,12] [[3]]) <| .skip) <| .keep [3,5,6,10,11,12] [[3]]) <| oR [oA 29 (.bin .add (.t 12) (oC 1)),oM 12 29] [3,5,6,10,11,12] [[3]]) <| .keep [3,5,6,10,11,12] [[3]]
def Qhu : CF := ⟨2,.seq (oR [oEe 3 1,oA 4 (.mov (oC 0))] [0,3] [[3]]) <| .seq (oR [oA 5 (.mov (oC 0)),oA 6 (.mov (oC 0))] [0,3,5,6] [[3]]) <| .seq (.seq (oR [oM 10 0,oQq 11 10,oA 12 (.mov (oC 0))] [3,5,6,10,11,12] [[3]]) <| .seq (.blk 0 <| .seq (.keep [3,5,6,10,11,12] [[3]]) <| .loop QbC) <| .keep [5] []) <| .seq (oR [oM 30 5,oM 4 30] [4] []) <| .ret,[.t 4]⟩

def Qaw : C :=
 .seq (.seq (.seq (oR [oM 10 6,oM 11 0,oQq 12 11,oBb 13 .lss 10 12] [0,3,5,6,13] [[3],[28]]) <| .cond (.t 13) (.skip) <| .seq (.keep [5] [[28]]) <| .exit 0) <| .seq (.seq (.blk 1 <| .seq (oR [oM 16 0,oM 17 6,oXx 18 1 16 17,oDd 19 18,oL 20 4 3,oJ 21 Qgu [19,20],oJ 22 Qc2 [21],oM 7 22] [0,3,5,6,7] [[3],[28]]) <| .seq (oR [oM 23 7,oA 24 (.bin .neq (.t 23) (oC 0))] [0,3,5,6,7,24] [[3],[28]]) <| .cond (.t 24) (oR [oM 25 5,oM 26 7,oA 27 (.lit 1 1 [.v (.int .i64 0)] [(0,(.t 26))] true),oA 28 (.app 1 8 (.t 25) (.t 27) false),oM 5 28] [0,3,5,6] [[3],[28]]) <| .skip) <| .keep [0,3,5,6] [[3],[28]]) <| oR [oM 14 6,oA 15 (.bin .add (.t 14) (oC 1)),oM 6 15] [0,3,5,6] [[3],[28]]) <| .keep [0,3,5,6] [[3],[28]]
def QaD : C :=
 .seq (.seq (.seq (oR [oM 29 9,oM 30 5,oQq 31 30,oBb 32 .lss 29 31] [5,8,9,32] [[28]]) <| .cond (.t 32) (.skip) <| .seq (.keep [8] []) <| .exit 2) <| .seq (.seq (.blk 3 <| .seq (oR [oM 35 5,oM 36 9,oXx 37 1 35 36,oDd 38 37,oM 39 5,oM 40 9,oA 41 (.bin .sub (.t 40) (oC 1)),oXx 42 1 39 41,oDd 43 42,oBb 44 .neq 38 43] [5,8,9,44] [[28]]) <| .cond (.t 44) (oR [oM 45 8,oA 46 (.bin .add (.t 45) (oC 1)),oM 8 46] [5,8,9] [[28]]) <| .skip) <| .keep [5,8,9] [[28]]) <| oR [oM 33 9,oA 34 (.bin .add (.t 33) (oC 1)),oM 9 34] [5,8,9] [[28]]) <| .keep [5,8,9] [[28]]
def QcK : CF := ⟨2,.seq (oR [oEe 3 1,oA 4 (.mov (oC 0))] [0,3] [[3]]) <| .seq (oR [oA 5 (.mov (.c (.z true)))] [0,3,5] [[3],[28]]) <| .seq (.seq (oR [oA 6 (.mov (oC 0))] [0,3,5,6] [[3],[28]]) <| .seq (.blk 0 <| .seq (.keep [0,3,5,6] [[3],[28]]) <| .loop Qaw) <| .keep [5] [[28]]) <| .seq (oR [oA 8 (.mov (oC 0))] [5,8] [[28]]) <| .seq (.seq (oR [oA 9 (.mov (oC 1))] [5,8,9] [[28]]) <| .seq (.blk 2 <| .seq (.keep [5,8,9] [[28]]) <| .loop QaD) <| .keep [8] []) <| .seq (oR [oM 47 8,oM 4 47] [4] []) <| .ret,[.t 4]⟩

def Qfr : CF := ⟨2,.seq (oR [oEe 2 0,oEe 3 1,oA 4 (.mov (.c (.v (.bool false))))] [2,3] [[2],[3]]) <| .seq (oR [oNn 5 0 2,oL 6 2 5,oNn 7 0 3,oL 8 2 7,oJ 9 Qel [6,8],oM 10 9,oG 11 10 true (.fad 2 (.t 2)),oG 12 10 true (.load (some 2) (.t 11)),oG 13 10 true (.fad 2 (.t 3)),oG 14 10 true (.load (some 2) (.t 13)),oG 15 10 true (.call Qel [.t 12,.t 14] false),oA 16 (.pick (.t 10) (.t 15) (.c (.v (.bool false)))),oM 4 16] [4] []) <| .ret,[.t 4]⟩

def Qbs : C :=
 .seq (.seq (oR [oBb 10 .lss 9 8] [0,2,3,8,9,10] [[2],[3]]) <| .seq (.cond (.t 10) (.skip) <| .seq (.keep [2,3] [[2],[3]]) <| .exit 0) <| .seq (.seq (.blk 1 <| .seq (oR [oM 11 9,oM 4 11] [0,2,3,4,8,9] [[2],[3]]) <| .seq (oR [oM 12 0,oM 13 4,oXx 14 4 12 13,oL 15 4 14,oM 16 0,oM 17 0,oQq 18 17,oA 19 (.bin .sub (.t 18) (oC 1)),oXx 20 4 16 19,oL 21 4 20,oJ 22 Qi6 [15,21],oA 5 (.new oZ4),oPp 4 5 22] [0,2,3,5,8,9] [[2],[3],[5]]) <| .seq (.seq (oR [oL 23 4 5,oJ 24 Qeb [23],oA 25 (.bin .lss (.t 24) (oC 0))] [0,2,3,5,8,9,25] [[2],[3],[5]]) <| .cond (.t 25) (oR [oL 26 4 5,oJ 27 Qjp [26],oPp 4 5 27] [0,2,3,5,8,9] [[2],[3],[5]]) <| .skip) <| .seq (oR [oL 28 4 5,oL 29 4 3,oJ 30 QfE [28,29],oA 31 (.bin .gtr (.t 30) (oC 0))] [0,2,3,5,8,9,31] [[2],[3],[5]]) <| .cond (.t 31) (oR [oL 32 4 5,oPp 4 3 32] [0,2,3,8,9] [[2],[3]]) <| .skip) <| .keep [0,2,3,8,9] [[2],[3]]) <| oR [oA 33 (.bin .add (.t 9) (oC 1)),oM 9 33] [0,2,3,8,9] [[2],[3]]) <| .keep [0,2,3,8,9] [[2],[3]]
def QiU : CF := ⟨1,.seq (oR [oA 2 (.new oZ4)] [0,2] [[2]]) <| .seq (oR [oA 3 (.new oZ4)] [0,2,3] [[2],[3]]) <| .seq (.seq (oR [oM 6 0,oQq 7 6,oA 8 (.bin .sub (.t 7) (oC 1)),oA 9 (.mov (oC 0))] [0,2,3,8,9] [[2],[3]]) <| .seq (.blk 0 <| .seq (.keep [0,2,3,8,9] [[2],[3]]) <| .loop Qbs) <| .keep [2,3] [[2],[3]]) <| .seq (oR [oL 34 4 3,oA 35 (.call Qgn [(oC 1),(oC 1)] false),oJ 36 QgR [34,35],oPp 4 2 36] [2] [[2]]) <| .ret,[.cell 2 (some 4)]⟩

def QaJ : C :=
 .seq (.seq (.seq (oR [oM 7 4,oA 8 (.bin .add (.t 7) (oC 1)),oM 9 0,oQq 10 9,oBb 11 .lss 8 10] [0,2,3,4,11] [[2],[3]]) <| .cond (.t 11) (.skip) <| .seq (.keep [2,3] [[2],[3]]) <| .exit 0) <| .seq (.seq (.blk 1 <| .seq (oR [oM 14 0,oM 15 4,oXx 16 4 14 15,oL 17 4 16,oM 18 0,oM 19 0,oQq 20 19,oA 21 (.bin .sub (.t 20) (oC 1)),oXx 22 4 18 21,oL 23 4 22,oJ 24 QdA [17,23],oA 5 (.new oZ4),oPp 4 5 24] [0,2,3,4,5] [[2],[3],[5]]) <| .seq (.seq (oR [oL 25 4 5,oJ 26 Qc2 [25],oA 27 (.bin .lss (.t 26) (oC 0))] [0,2,3,4,5,27] [[2],[3],[5]]) <| .cond (.t 27) (oR [oL 28 4 5,oJ 29 Qdt [28],oPp 4 5 29] [0,2,3,4,5] [[2],[3],[5]]) <| .skip) <| .seq (oR [oL 30 4 5,oL 31 4 3,oJ 32 Qcr [30,31],oA 33 (.bin .gtr (.t 32) (oC 0))] [0,2,3,4,5,33] [[2],[3],[5]]) <| .cond (.t 33) (oR [oL 34 4 5,oPp 4 3 34] [0,2,3,4] [[2],[3]]) <| .skip) <| .keep [0,2,3,4] [[2],[3]]) <| oR [oM 12 4,oA 13 (.bin .add (.t 12) (oC 1)),oM 4 13] [0,2,3,4] [[2],[3]]) <| .keep [0,2,3,4] [[2],[3]]
def QeL : CF := ⟨1,.seq (oR [oA 2 (.new oZ4)] [0,2] [[2]]) <| .seq (oR [oA 6 (.build oZ4 []),oA 3 (.new oZ4),oPp 4 3 6] [0,2,3] [[2],[3]]) <| .seq (.seq (oR [oA 4 (.mov (oC 0))] [0,2,3,4] [[2],[3]]) <| .seq (.blk 0 <| .seq (.keep [0,2,3,4] [[2],[3]]) <| .loop QaJ) <| .keep [2,3] [[2],[3]]) <| .seq (oR [oL 35 4 3,oA 36 (.call Qaq [(oC 1),(oC 1)] false),oJ 37 QcE [35,36],oPp 4 2 37] [2] [[2]]) <| .ret,[.cell 2 (some 4)]⟩

def QeI : CF := ⟨0,.seq (oR [oA 0 (.mov (.c (.v (.bool false))))] [] []) <| .seq (oR [oA 6 (.lit 1 4 [.v (.int .i64 0)] [(0,(oC 2)),(1,(oC (-3))),(2,(oC 0)),(3,(oC 1))] true),oA 7 (.call QbA [(oC 1),(.t 6)] false),oM 1 7] [1] []) <| .seq (oR [oA 8 (.lit 1 3 [.v (.int .i64 0)] [(0,(oC (-2))),(1,(oC 1)),(2,(oC 1))] true),oA 9 (.call QbA [(oC 1),(.t 8)] false),oA 10 (.lit 1 2 [.v (.int .i64 0)] [(0,(oC 1)),(1,(oC 2))] true),oA 11 (.call QbA [(oC 1),(.t 10)] false),oA 12 (.lit 1 1 [.v (.int .i64 0)] [(0,(oC 9))] true),oA 13 (.call QbA [(oC 4),(.t 12)] false),oA 14 (.lit 1 3 [.z true] [(0,(.t 9)),(1,(.t 11)),(2,(.t 13))] true),oM 2 14] [1,2] []) <| .seq (oR [oM 15 1,oA 16 (.call QaG [(oC (-3))] false),oA 17 (.call QaG [(oC 3)] false),oJ 18 QcJ [15,16,17],oA 19 (.bin .eql (.t 18) (oC 2)),oM 20 19,oHh 21 20 true 1,oG 22 20 true (.call QaG [(oC (-2))] false),oG 23 20 true (.call QaG [(oC 1)] false),oG 24 20 true (.call QcJ [.t 21,.t 22,.t 23] false),oG 25 20 true (.bin .eql (.t 24) (oC 1)),oA 26 (.pick (.t 20) (.t 25) (.c (.v (.bool false)))),oM 27 26,oHh 28 27 true 1,oG 29 27 true (.call QaG [(oC 1)] false),oG 30 27 true (.call QaG [(oC 5)] false),oG 31 27 true (.call QcJ [.t 28,.t 29,.t 30] false),oG 32 27 true (.bin .eql (.t 31) (oC 0)),oA 33 (.pick (.t 27) (.t 32) (.c (.v (.bool false)))),oM 3 33] [1,2,3] []) <| .seq (oR [oM 35 1,oJ 36 Qgb [35],oM 34 36,oA 37 (.ext (.t 34) 0),oA 38 (.ext (.t 34) 1),oM 4 37,oM 5 38] [1,2,3,4,5] []) <| .seq (oR [oM 39 1,oJ 40 QbK [39],oM 41 2,oJ 42 Qek [40,41],oM 43 42,oHh 44 43 true 3,oA 45 (.pick (.t 43) (.t 44) (.c (.v (.bool false)))),oM 46 45,oHh 47 46 true 1,oG 48 46 true (.call QcP [.t 47] false),oG 49 46 true (.call QaG [(oC 4)] false),oG 50 46 true (.call Qc5 [.t 48,.t 49] false),oA 51 (.pick (.t 46) (.t 50) (.c (.v (.bool false)))),oM 52 51,oHh 53 52 true 1,oG 54 52 true (.call QaG [(oC (-2))] false),oG 55 52 true (.call QaG [(oC 9)] false),oG 56 52 true (.call Qds [.t 53,.t 54,.t 55] false),oA 57 (.pick (.t 52) (.t 56) (.c (.v (.bool false)))),oM 58 57,oHh 59 58 true 1,oG 60 58 true (.call QaG [(oC (-3))] false),oG 61 58 true (.call QaG [(oC 0)] false),oG 62 58 true (.call Qds [.t 59,.t 60,.t 61] false),oG 63 58 true (.un .not (.t 62)),oA 64 (.pick (.t 58) (.t 63) (.c (.v (.bool false)))),oM 65 64,oHh 66 65 true 5,oG 67 65 true (.bin .eql (.t 66) (oC 0)),oA 68 (.pick (.t 65) (.t 67) (.c (.v (.bool false)))),oM 69 68,oHh 70 69 true 4,oG 71 69 true (.len (.t 70)),oG 72 69 true (.bin .eql (.t 71) (oC 2)),oA 73 (.pick (.t 69) (.t 72) (.c (.v (.bool false)))),oM 0 73] [0] []) <| .ret,[.t 0]⟩

def Qc3 : CF := ⟨2,.seq (oR [oA 4 (.mov (oC 0))] [0,1] []) <| .seq (.seq (oR [oM 5 0,oA 6 (.bin .lss (.t 5) (oC 0))] [0,1,6] []) <| .cond (.t 6) (oR [oM 7 0,oA 8 (.bin .add (.t 7) (oC 1)),oA 9 (.un .neg (.t 8)),oM 0 9] [0,1] []) <| .skip) <| .seq (oR [oM 10 0,oM 11 1,oBb 12 .rem 10 11,oM 4 12] [4] []) <| .ret,[.t 4]⟩

def Qd3 : CF := ⟨2,.seq (oR [oEe 2 0,oEe 3 1,oA 4 (.mov (oC 0))] [2,3] [[2],[3]]) <| .seq (oR [oNn 5 0 2,oL 6 2 5,oL 7 4 3,oJ 8 QaM [7],oJ 9 QaN [6,8],oNn 10 0 3,oL 11 2 10,oL 12 4 2,oJ 13 QaM [12],oJ 14 QaN [11,13],oJ 15 Qdg [9,14],oM 4 15] [4] []) <| .ret,[.t 4]⟩

def QfP : CF := ⟨1,.seq (oR [oEe 1 0,oA 2 (.new oZ4)] [1,2] [[1],[2]]) <| .seq (oR [oNn 3 0 1,oL 4 2 3,oJ 5 Qdq [4],oNn 6 2 1,oL 7 2 6,oA 8 (.build oZ4 [(0,2,(.t 5)),(2,2,(.t 7))]),oPp 4 2 8] [2] [[2]]) <| .ret,[.cell 2 (some 4)]⟩

def Qi2 : CF := ⟨3,.seq (oR [oEe 4 1,oEe 5 2,oA 6 (.mov (oC 0))] [0,4,5] [[4],[5]]) <| .seq (oR [oM 7 0,oJ 8 QbK [7],oL 9 4 4,oL 10 4 5,oJ 11 Qf6 [8,9,10],oM 6 11] [6] []) <| .ret,[.t 6]⟩

def QfV : CF := ⟨2,.seq (oR [oEe 2 0,oEe 3 1,oA 4 (.new oZ4)] [2,3,4] [[2],[3],[4]]) <| .seq (oR [oNn 7 0 2,oL 8 2 7,oL 9 4 3,oJ 10 QaM [9],oJ 11 QaN [8,10],oA 5 (.new [.v (.bool false),.z true]),oPp 2 5 11] [2,3,4,5] [[2],[3],[4],[5]]) <| .seq (oR [oNn 12 0 3,oL 13 2 12,oL 14 4 2,oJ 15 QaM [14],oJ 16 QaN [13,15],oA 6 (.new [.v (.bool false),.z true]),oPp 2 6 16] [2,3,4,5,6] [[2],[3],[4],[5],[6]]) <| .seq (oR [oL 17 2 5,oL 18 2 6,oJ 19 QeD [17,18],oL 20 4 2,oJ 21 QaM [20],oL 22 4 3,oJ 23 QaM [22],oJ 24 QaN [21,23],oJ 25 Qco [19,24],oPp 4 4 25] [4] [[4]]) <| .ret,[.cell 4 (some 4)]⟩

def QgF : CF := ⟨2,.seq (oR [oA 4 (.new oZ4)] [0,1,4] [[4]]) <| .seq (oR [oM 5 0,oJ 6 Qbz [5],oM 7 1,oJ 8 Qbz [7],oJ 9 Qco [6,8],oPp 4 4 9] [4] [[4]]) <| .ret,[.cell 4 (some 4)]⟩

def Qnl : CF := ⟨2,.seq (oR [oEe 2 0,oEe 3 1,oA 4 (.mov (.c (.z true)))] [2,3] [[2],[3]]) <| .seq (oR [oDd 5 2,oQq 6 5,oDd 7 3,oQq 8 7,oBb 9 .add 6 8,oA 10 (.bin .sub (.t 9) (oC 1)),oA 11 (.mkfn Qh3 [.t 3,.t 2] true),oJ 12 Qhm [10,11],oM 4 12] [4] []) <| .ret,[.t 4]⟩

def QeA : C :=
 .seq (.seq (.seq (oR [oM 11 1,oQq 12 11,oA 13 (.bin .gtr (.t 12) (oC 0))] [0,1,13] []) <| .cond (.t 13) (.skip) <| .seq (.keep [0] []) <| .exit 0) <| .seq (.blk 1 <| .seq (oR [oM 15 0,oM 16 1,oJ 17 Qc1 [15,16],oM 14 17,oA 18 (.ext (.t 14) 0),oA 19 (.ext (.t 14) 1),oM 5 18,oM 6 19] [1,6] []) <| oR [oM 20 1,oM 21 6,oJ 22 Qfa [21],oM 0 20,oM 1 22] [0,1] []) <| .keep [0,1] []) <| .keep [0,1] []
def Qnn : CF := ⟨2,.seq (oR [oA 4 (.mov (.c (.z true)))] [0,1] []) <| .seq (oR [oM 7 0,oJ 8 Qfa [7],oM 9 1,oJ 10 Qfa [9],oM 0 8,oM 1 10] [0,1] []) <| .seq (.seq (.blk 0 <| .seq (.keep [0,1] []) <| .loop QeA) <| .keep [0] []) <| .seq (oR [oM 23 0,oM 4 23] [4] []) <| .ret,[.t 4]⟩

def Qb3 : C :=
 .seq (.seq (oR [oBb 52 .lss 51 50] [4,7,10,50,51,52] [[4],[10]]) <| .seq (.cond (.t 52) (.skip) <| .seq (.keep [] []) <| .exit 0) <| .seq (.seq (.blk 1 <| .seq (oR [oL 53 4 4,oL 54 4 10,oA 55 (.build oZ8 [(0,4,(.t 53)),(4,4,(.t 54))]),oJ 56 QgB [55],oPp 4 10 56] [4,7,10,50,51] [[4],[10]]) <| .seq (oR [oM 57 7,oL 58 4 10,oA 59 (.calv (.t 57) [.t 58])] [4,7,10,50,51,59] [[4],[10]]) <| .cond (.t 59) (.seq (oR [oA 6 (.mov (.c (.v (.bool false))))] [6] []) <| .ret) <| .skip) <| .keep [4,7,10,50,51] [[4],[10]]) <| oR [oA 60 (.bin .add (.t 51) (oC 1)),oM 51 60] [4,7,10,50,51] [[4],[10]]) <| .keep [4,7,10,50,51] [[4],[10]]
def Qgf : CF := ⟨3,.seq (oR [oEe 3 0,oEe 4 1,oEe 5 2,oA 6 (.mov (.c (.v (.bool false))))] [3,4,5] [[3],[4],[5]]) <| .seq (.seq (oR [oL 11 4 4,oL 12 4 5,oJ 13 QfE [11,12],oA 14 (.bin .gtr (.t 13) (oC 0)),oM 15 14,oG 16 15 false (.load none (.t 3)),oG 17 15 false (.len (.t 16)),oG 18 15 false (.bin .eql (.t 17) (oC 0)),oA 19 (.pick (.t 15) (.c (.v (.bool true))) (.t 18))] [3,4,5,19] [[3],[4],[5]]) <| .cond (.t 19) (.seq (oR [oA 6 (.mov (.c (.v (.bool true))))] [6] []) <| .ret) <| .skip) <| .seq (oR [oA 20 (.mkfn QfO [.t 3] true),oM 7 20] [3,4,5,7] [[3],[4],[5]]) <| .seq (.seq (oR [oM 21 7,oL 22 4 4,oA 23 (.calv (.t 21) [.t 22]),oM 24 23,oHh 25 24 false 7,oG 26 24 false (.load (some 4) (.t 5)),oG 27 24 false (.calv (.t 25) [.t 26]),oA 28 (.pick (.t 24) (.c (.v (.bool true))) (.t 27))] [3,4,5,7,28] [[3],[4],[5]]) <| .cond (.t 28) (.seq (oR [oA 6 (.mov (.c (.v (.bool false))))] [6] []) <| .ret) <| .skip) <| .seq (oR [oDd 29 3,oJ 30 Qg6 [29],oM 8 30] [3,4,5,7,8] [[3],[4],[5]]) <| .seq (oR [oM 31 8,oL 32 4 4,oL 33 4 5,oJ 34 QcJ [31,32,33],oM 9 34] [3,4,5,7,8,9] [[3],[4],[5]]) <| .seq (.seq (oR [oM 35 9,oA 36 (.bin .gtr (.t 35) (oC 0)),oM 37 36,oHh 38 37 true 8,oG 39 37 true (.load (some 4) (.t 5)),oG 40 37 true (.call Qhe [.t 38,.t 39] false),oG 41 37 true (.call Qeb [.t 40] false),oG 42 37 true (.bin .eql (.t 41) (oC 0)),oA 43 (.pick (.t 37) (.t 42) (.c (.v (.bool false))))] [3,4,5,7,9,43] [[3],[4],[5]]) <| .cond (.t 43) (oR [oM 44 9,oA 45 (.bin .sub (.t 44) (oC 1)),oM 9 45] [3,4,5,7,9] [[3],[4],[5]]) <| .skip) <| .seq (.seq (oR [oM 46 9,oA 47 (.bin .gtr (.t 46) (oC 0))] [3,4,5,7,47] [[3],[4],[5]]) <| .cond (.t 47) (.seq (oR [oA 6 (.mov (.c (.v (.bool false))))] [6] []) <| .ret) <| .skip) <| .seq (oR [oL 48 4 5,oA 10 (.new oZ4),oPp 4 10 48] [3,4,7,10] [[3],[4],[10]]) <| .seq (.seq (oR [oDd 49 3,oQq 50 49,oA 51 (.mov (oC 0))] [4,7,10,50,51] [[4],[10]]) <| .seq (.blk 0 <| .seq (.keep [4,7,10,50,51] [[4],[10]]) <| .loop Qb3) <| .keep [] []) <| .seq (oR [oA 6 (.mov (.c (.v (.bool true))))] [6] []) <| .ret,[.t 6]⟩

def Qkl : CF := ⟨2,.seq (oR [oEe 2 0,oEe 3 1,oA 4 (.mov (.c (.z true)))] [2,3] [[2],[3]]) <| .seq (oR [oDd 5 2,oQq 6 5,oA 7 (.mkfn QgD [.t 2,.t 3] true),oJ 8 Qhm [6,7],oM 4 8] [4] []) <| .ret,[.t 4]⟩

def Qf9 : CF := ⟨1,.seq (oR [oA 2 (.new oZ4)] [0,2] [[2]]) <| .seq (oR [oM 3 0,oA 4 (.call Qaq [(.t 3),(oC 1)] false),oPp 4 2 4] [2] [[2]]) <| .ret,[.cell 2 (some 4)]⟩

def Qfp : CF := ⟨1,.seq (oR [oEe 1 0,oA 2 (.mov (oC 0))] [1] [[1]]) <| .seq (oR [oNn 3 0 1,oL 4 2 3,oJ 5 Qgw [4],oM 2 5] [2] []) <| .ret,[.t 2]⟩

def QbE : C :=
 .seq (.seq (.seq (oR [oM 10 7,oM 11 0,oQq 12 11,oBb 13 .lss 10 12] [0,3,4,5,6,7,13] [[3],[4],[5],[6]]) <| .cond (.t 13) (.skip) <| .seq (.keep [4,5] [[4],[5]]) <| .exit 0) <| .seq (.seq (.blk 1 <| .seq (oR [oL 16 4 5,oM 17 0,oM 18 7,oXx 19 4 17 18,oL 20 4 19,oL 21 4 6,oJ 22 Qb8 [20,21],oJ 23 QcE [16,22],oPp 4 5 23] [0,3,4,5,6,7] [[3],[4],[5],[6]]) <| oR [oL 24 4 6,oL 25 4 3,oJ 26 Qb8 [24,25],oPp 4 6 26] [0,3,4,5,6,7] [[3],[4],[5],[6]]) <| .keep [0,3,4,5,6,7] [[3],[4],[5],[6]]) <| oR [oM 14 7,oA 15 (.bin .add (.t 14) (oC 1)),oM 7 15] [0,3,4,5,6,7] [[3],[4],[5],[6]]) <| .keep [0,3,4,5,6,7] [[3],[4],[5],[6]]
def Qfz : CF := ⟨2,.seq (oR [oEe 3 1,oA 4 (.new oZ4)] [0,3,4] [[3],[4]]) <| .seq (oR [oA 8 (.build oZ4 []),oA 5 (.new oZ4),oPp 4 5 8] [0,3,4,5] [[3],[4],[5]]) <| .seq (oR [oA 9 (.call Qaq [(oC 1),(oC 1)] false),oA 6 (.new oZ4),oPp 4 6 9] [0,3,4,5,6] [[3],[4],[5],[6]]) <| .seq (.seq (oR [oA 7 (.mov (oC 0))] [0,3,4,5,6,7] [[3],[4],[5],[6]]) <| .seq (.blk 0 <| .seq (.keep [0,3,4,5,6,7] [[3],[4],[5],[6]]) <| .loop QbE) <| .keep [4,5] [[4],[5]]) <| .seq (oR [oL 27 4 5,oPp 4 4 27] [4] [[4]]) <| .ret,[.cell 4 (some 4)]⟩

def Qhb : CF := ⟨1,.seq (oR [oA 2 (.mov (.c (.z true))),oA 3 (.mov (oC 0))] [0] []) <| .seq (.seq (.blk 0 <| .seq (oR [oM 6 0,oQq 7 6,oA 8 (.bin .eql (.t 7) (oC 0)),oM 5 8] [0,5] []) <| .cond (.t 5) (.seq (oR [oA 2 (.mov (.c (.z true))),oA 3 (.mov (oC 1))] [2,3] []) <| .ret) <| .seq (oR [oM 10 0,oQq 11 10,oA 12 (.bin .gtr (.t 11) (oC 17)),oM 9 12] [0,9] []) <| .cond (.t 9) (.seq (oR [oA 2 (.mov (.c (.z true))),oA 3 (.mov (oC 4))] [2,3] []) <| .ret) <| .skip) <| .keep [0] []) <| .seq (oR [oM 13 0,oJ 14 QcP [13],oA 4 (.new oZ4),oPp 4 4 14] [0,4] [[4]]) <| .seq (oR [oM 15 0,oJ 16 QbK [15],oL 17 4 4,oJ 18 Qjp [17],oL 19 4 4,oA 20 (.build oZ8 [(0,4,(.t 18)),(4,4,(.t 19))]),oJ 21 Qjz [16,20],oJ 22 QdE [21],oM 2 22,oA 3 (.mov (oC 0))] [2,3] []) <| .ret,[.t 2,.t 3]⟩

def QdR : CF := ⟨3,.seq (oR [oA 6 (.mov (oC 0))] [0,1,2] []) <| .seq (.seq (oR [oM 7 1,oA 8 (.bin .lss (.t 7) (oC 0)),oM 9 8,oHh 10 9 false 1,oHh 11 9 false 0,oG 12 9 false (.len (.t 11)),oG 13 9 false (.bin .geq (.t 10) (.t 12)),oA 14 (.pick (.t 9) (.c (.v (.bool true))) (.t 13))] [0,1,2,14] []) <| .cond (.t 14) (.seq (oR [oA 6 (.mov (oC 0))] [6] []) <| .ret) <| .skip) <| .seq (oR [oM 15 0,oM 16 1,oXx 17 1 15 16,oDd 18 17,oM 19 2,oJ 20 QdH [18,19],oM 6 20] [6] []) <| .ret,[.t 6]⟩

def QbQ : C :=
 .seq (.seq (.seq (oR [oM 29 7,oM 30 1,oQq 31 30,oBb 32 .lss 29 31] [0,1,5,6,7,32] [[22]]) <| .cond (.t 32) (.skip) <| .seq (.keep [0,1,5,6] [[22]]) <| .exit 2) <| .seq (.seq (.blk 3 <| oR [oM 35 5,oM 36 6,oM 37 7,oBb 38 .add 36 37,oM 39 5,oM 40 6,oM 41 7,oBb 42 .add 40 41,oXx 43 4 39 42,oL 44 4 43,oM 45 0,oM 46 6,oXx 47 4 45 46,oL 48 4 47,oM 49 1,oM 50 7,oXx 51 4 49 50,oL 52 4 51,oJ 53 Qb8 [48,52],oJ 54 QcE [44,53],oXx 55 4 35 38,oPp 4 55 54] [0,1,5,6,7] [[22]]) <| .keep [0,1,5,6,7] [[22]]) <| oR [oM 33 7,oA 34 (.bin .add (.t 33) (oC 1)),oM 7 34] [0,1,5,6,7] [[22]]) <| .keep [0,1,5,6,7] [[22]]
def QbT : C :=
 .seq (.seq (.seq (oR [oM 23 6,oM 24 0,oQq 25 24,oBb 26 .lss 23 25] [0,1,5,6,26] [[22]]) <| .cond (.t 26) (.skip) <| .seq (.keep [5] [[22]]) <| .exit 0) <| .seq (.seq (.blk 1 <| .seq (oR [oA 7 (.mov (oC 0))] [0,1,5,6,7] [[22]]) <| .seq (.blk 2 <| .seq (.keep [0,1,5,6,7] [[22]]) <| .loop QbQ) <| .keep [0,1,5,6] [[22]]) <| .keep [0,1,5,6] [[22]]) <| oR [oM 27 6,oA 28 (.bin .add (.t 27) (oC 1)),oM 6 28] [0,1,5,6] [[22]]) <| .keep [0,1,5,6] [[22]]
def Qdh : CF := ⟨2,.seq (oR [oA 4 (.mov (.c (.z true)))] [0,1] []) <| .seq (.seq (oR [oM 8 0,oQq 9 8,oA 10 (.bin .eql (.t 9) (oC 0)),oM 11 10,oHh 12 11 false 1,oG 13 11 false (.len (.t 12)),oG 14 11 false (.bin .eql (.t 13) (oC 0)),oA 15 (.pick (.t 11) (.c (.v (.bool true))) (.t 14))] [0,1,15] []) <| .cond (.t 15) (.seq (oR [oA 4 (.mov (.c (.z true)))] [4] []) <| .ret) <| .skip) <| .seq (oR [oM 16 0,oQq 17 16,oM 18 1,oQq 19 18,oBb 20 .add 17 19,oA 21 (.bin .sub (.t 20) (oC 1)),oA 22 (.mksl 4 64 oZ4 (.t 21) (.t 21)),oM 5 22] [0,1,5] [[22]]) <| .seq (.seq (oR [oA 6 (.mov (oC 0))] [0,1,5,6] [[22]]) <| .seq (.blk 0 <| .seq (.keep [0,1,5,6] [[22]]) <| .loop QbT) <| .keep [5] [[22]]) <| .seq (.seq (.frz 5) <| oR [oM 56 5,oJ 57 Qar [56],oM 4 57] [4] []) <| .ret,[.t 4]⟩

def Qfy : CF := ⟨1,.seq (oR [oA 2 (.mov (.c (.z true)))] [0] []) <| .seq (oR [oM 6 0,oM 7 0,oM 8 0,oJ 9 QdI [8],oJ 10 QgY [7,9],oJ 11 Qdo [6,10],oM 5 11,oA 12 (.ext (.t 5) 0),oA 13 (.ext (.t 5) 1),oM 3 12,oM 4 13] [3] []) <| .seq (oR [oM 14 3,oJ 15 Qcc [14],oM 2 15] [2] []) <| .ret,[.t 2]⟩

def QaT : C :=
 .seq (.seq (.seq (oR [oM 5 4,oM 6 0,oQq 7 6,oBb 8 .lss 5 7] [0,3,4,8] [[20]]) <| .cond (.t 8) (.skip) <| .seq (.keep [3] [[20]]) <| .exit 0) <| .seq (.seq (.blk 1 <| oR [oM 11 3,oM 12 0,oM 13 4,oXx 14 4 12 13,oL 15 4 14,oM 16 4,oA 17 (.call Qaq [(.t 16),(oC 1)] false),oJ 18 Qb8 [15,17],oA 19 (.lit 4 1 oZ4 [(0,(.t 18))] true),oA 20 (.app 4 64 (.t 11) (.t 19) false),oM 3 20] [0,3,4] [[20]]) <| .keep [0,3,4] [[20]]) <| oR [oM 9 4,oA 10 (.bin .add (.t 9) (oC 1)),oM 4 10] [0,3,4] [[20]]) <| .keep [0,3,4] [[20]]
def Qc6 : CF := ⟨1,.seq (oR [oA 2 (.mov (.c (.z true)))] [0] []) <| .seq (oR [oA 3 (.mov (.c (.z true)))] [0,3] [[20]]) <| .seq (.seq (oR [oA 4 (.mov (oC 1))] [0,3,4] [[20]]) <| .seq (.blk 0 <| .seq (.keep [0,3,4] [[20]]) <| .loop QaT) <| .keep [3] [[20]]) <| .seq (.seq (.frz 3) <| oR [oM 21 3,oJ 22 Qar [21],oM 2 22] [2] []) <| .ret,[.t 2]⟩

def QbW : C :=
 .seq (.seq (.seq (oR [oM 15 7,oQq 16 15,oM 17 1,oQq 18 17,oBb 19 .geq 16 18] [1,6,7,19] []) <| .cond (.t 19) (.skip) <| .seq (.keep [6,7] []) <| .exit 0) <| .seq (.blk 1 <| .seq (oR [oM 20 7,oQq 21 20,oM 22 1,oQq 23 22,oBb 24 .sub 21 23,oM 8 24] [1,6,7,8] []) <| .seq (oR [oM 25 8,oA 26 (.bin .add (.t 25) (oC 1)),oA 27 (.mksl 4 64 oZ4 (.t 26) (.t 26)),oM 9 27] [1,6,7,8,9] [[27]]) <| .seq (oR [oM 28 9,oM 29 8,oM 30 7,oM 31 7,oQq 32 31,oA 33 (.bin .sub (.t 32) (oC 1)),oXx 34 4 30 33,oL 35 4 34,oM 36 1,oM 37 1,oQq 38 37,oA 39 (.bin .sub (.t 38) (oC 1)),oXx 40 4 36 39,oL 41 4 40,oJ 42 QdA [35,41],oXx 43 4 28 29,oPp 4 43 42] [1,6,7,9] [[27]]) <| .seq (.seq (.frz 9) <| oR [oM 44 9,oJ 45 Qar [44],oM 10 45] [1,6,7,10] []) <| .seq (oR [oM 46 6,oM 47 10,oJ 48 QeJ [46,47],oM 6 48] [1,6,7,10] []) <| oR [oM 49 7,oM 50 10,oM 51 1,oJ 52 QcB [50,51],oJ 53 Qg1 [49,52],oM 7 53] [1,6,7] []) <| .keep [1,6,7] []) <| .keep [1,6,7] []
def Qes : CF := ⟨2,.seq (oR [oA 4 (.mov (.c (.z true))),oA 5 (.mov (.c (.z true)))] [0,1] []) <| .seq (.seq (oR [oM 11 1,oQq 12 11,oA 13 (.bin .eql (.t 12) (oC 0))] [0,1,13] []) <| .cond (.t 13) (.seq (oR [oA 4 (.mov (.c (.z true))),oA 5 (.mov (.c (.z true)))] [4,5] []) <| .ret) <| .skip) <| .seq (oR [oA 6 (.mov (.c (.z true)))] [0,1,6] []) <| .seq (oR [oM 14 0,oM 7 14] [1,6,7] []) <| .seq (.seq (.blk 0 <| .seq (.keep [1,6,7] []) <| .loop QbW) <| .keep [6,7] []) <| .seq (oR [oM 54 6,oM 55 7,oM 4 54,oM 5 55] [4,5] []) <| .ret,[.t 4,.t 5]⟩

def Qa3 : C :=
 .seq (.seq (.seq (oR [oM 7 6,oM 8 0,oQq 9 8,oBb 10 .lss 7 9] [0,3,5,6,10] [[3],[21]]) <| .cond (.t 10) (.skip) <| .seq (.keep [5] [[21]]) <| .exit 0) <| .seq (.seq (.blk 1 <| oR [oM 13 5,oM 14 0,oM 15 6,oXx 16 4 14 15,oL 17 4 16,oL 18 4 3,oJ 19 Qb8 [17,18],oA 20 (.lit 4 1 oZ4 [(0,(.t 19))] true),oA 21 (.app 4 64 (.t 13) (.t 20) false),oM 5 21] [0,3,5,6] [[3],[21]]) <| .keep [0,3,5,6] [[3],[21]]) <| oR [oM 11 6,oA 12 (.bin .add (.t 11) (oC 1)),oM 6 12] [0,3,5,6] [[3],[21]]) <| .keep [0,3,5,6] [[3],[21]]
def QdB : CF := ⟨2,.seq (oR [oEe 3 1,oA 4 (.mov (.c (.z true)))] [0,3] [[3]]) <| .seq (oR [oA 5 (.mov (.c (.z true)))] [0,3,5] [[3],[21]]) <| .seq (.seq (oR [oA 6 (.mov (oC 0))] [0,3,5,6] [[3],[21]]) <| .seq (.blk 0 <| .seq (.keep [0,3,5,6] [[3],[21]]) <| .loop Qa3) <| .keep [5] [[21]]) <| .seq (.seq (.frz 5) <| oR [oM 22 5,oJ 23 Qar [22],oM 4 23] [4] []) <| .ret,[.t 4]⟩

def QbF : C :=
 .seq (.seq (.seq (oR [oM 11 5,oM 12 0,oQq 13 12,oBb 14 .lss 11 13] [0,1,5,14] []) <| .cond (.t 14) (.skip) <| .seq (.keep [] []) <| .exit 0) <| .seq (.seq (.blk 1 <| .seq (oR [oM 17 0,oM 18 5,oXx 19 4 17 18,oL 20 4 19,oM 21 1,oM 22 5,oXx 23 4 21 22,oL 24 4 23,oJ 25 Qc5 [20,24],oA 26 (.un .not (.t 25))] [0,1,5,26] []) <| .cond (.t 26) (.seq (oR [oA 4 (.mov (.c (.v (.bool false))))] [4] []) <| .ret) <| .skip) <| .keep [0,1,5] []) <| oR [oM 15 5,oA 16 (.bin .add (.t 15) (oC 1)),oM 5 16] [0,1,5] []) <| .keep [0,1,5] []
def Qfx : CF := ⟨2,.seq (oR [oA 4 (.mov (.c (.v (.bool false))))] [0,1] []) <| .seq (.seq (oR [oM 6 0,oQq 7 6,oM 8 1,oQq 9 8,oBb 10 .neq 7 9] [0,1,10] []) <| .cond (.t 10) (.seq (oR [oA 4 (.mov (.c (.v (.bool false))))] [4] []) <| .ret) <| .skip) <| .seq (.seq (oR [oA 5 (.mov (oC 0))] [0,1,5] []) <| .seq (.blk 0 <| .seq (.keep [0,1,5] []) <| .loop QbF) <| .keep [] []) <| .seq (oR [oA 4 (.mov (.c (.v (.bool true))))] [4] []) <| .ret,[.t 4]⟩

def Qlm : CF := ⟨1,.seq (oR [oA 2 (.mov (.c (.z true)))] [0] []) <| .seq (oR [oM 6 0,oM 7 0,oM 8 0,oJ 9 Qhq [8],oJ 10 Qif [7,9],oJ 11 Qc1 [6,10],oM 5 11,oA 12 (.ext (.t 5) 0),oA 13 (.ext (.t 5) 1),oM 3 12,oM 4 13] [3] []) <| .seq (oR [oM 14 3,oJ 15 Qfa [14],oM 2 15] [2] []) <| .ret,[.t 2]⟩

def QiT : CF := ⟨1,.seq (oR [oEe 1 0,oA 2 (.mov (.c (.z true)))] [1] [[1]]) <| .seq (oR [oDd 3 1,oQq 4 3,oA 5 (.bin .sub (.t 4) (oC 1)),oA 6 (.mkfn Qgd [.t 1] true),oJ 7 Qhm [5,6],oM 2 7] [2] []) <| .ret,[.t 2]⟩

def Qkh : CF := ⟨2,.seq (oR [oA 4 (.mov (.c (.z true)))] [0,1] []) <| .seq (oR [oM 8 0,oM 9 1,oJ 10 Qc1 [8,9],oM 7 10,oA 11 (.ext (.t 7) 0),oA 12 (.ext (.t 7) 1),oM 5 11,oM 6 12] [6] []) <| .seq (oR [oM 13 6,oA 14 (.call Qgn [(oC (-1)),(oC 1)] false),oJ 15 QhR [13,14],oM 4 15] [4] []) <| .ret,[.t 4]⟩

def QnB : CF := ⟨1,.seq (oR [oEe 1 0,oA 2 (.mov (oC 0))] [1] [[1]]) <| .seq (oR [oNn 3 0 1,oL 4 2 3,oJ 5 Qiy [4],oM 2 5] [2] []) <| .ret,[.t 2]⟩

def poly_Eval_a0 : C :=
 oR [oA 7 (.new oZ4),oPp 4 7 11] [3,5,7] [[3],[5],[7],[4]]
def poly_Eval_b0 : C :=
 .seq (.blk 1 <| oR [oL 12 4 5,oL 13 4 3,oJ 14 Qfc [12,13],oL 15 4 7,oJ 16 QgR [14,15],oPp 4 5 16] [] [[3],[4],[5]]) <| .keep [] [[3],[4],[5]]
def QlJ : CF := ⟨2,.seq (oR [oEe 3 1,oA 4 (.new oZ4)] [0,3,4] [[3],[4]]) <| .seq (oR [oA 5 (.new oZ4)] [0,3,4,5] [[3],[4],[5]]) <| .seq (.seq (oR [oM 8 0,oJ 9 Qcf [8]] [3,4,5,9] [[3],[4],[5]]) <| .seq (.blk 0 <| .seq (.rfn (.t 9) [10,11] poly_Eval_a0 poly_Eval_b0 [3,4,5] [[3],[4],[5]]) <| .keep [4,5] [[4],[5]]) <| .keep [4,5] [[4],[5]]) <| .seq (oR [oL 17 4 5,oPp 4 4 17] [4] [[4]]) <| .ret,[.cell 4 (some 4)]⟩

def QbI : C :=
 .seq (.seq (.seq (oR [oM 20 5,oNn 21 1 2,oDd 22 21,oQq 23 22,oBb 24 .lss 20 23] [2,3,5,24] [[2],[3]]) <| .cond (.t 24) (.skip) <| .seq (.keep [] []) <| .exit 0) <| .seq (.seq (.blk 1 <| .seq (oR [oNn 27 1 2,oDd 28 27,oM 29 5,oXx 30 1 28 29,oDd 31 30,oNn 32 1 3,oDd 33 32,oM 34 5,oXx 35 1 33 34,oDd 36 35,oBb 37 .neq 31 36] [2,3,5,37] [[2],[3]]) <| .cond (.t 37) (.seq (oR [oA 4 (.mov (.c (.v (.bool false))))] [4] []) <| .ret) <| .skip) <| .keep [2,3,5] [[2],[3]]) <| oR [oM 25 5,oA 26 (.bin .add (.t 25) (oC 1)),oM 5 26] [2,3,5] [[2],[3]]) <| .keep [2,3,5] [[2],[3]]
def Qfo : CF := ⟨2,.seq (oR [oEe 2 0,oEe 3 1,oA 4 (.mov (.c (.v (.bool false))))] [2,3] [[2],[3]]) <| .seq (.seq (oR [oNn 6 0 2,oDd 7 6,oNn 8 0 3,oDd 9 8,oA 10 (.binb true (.t 7) (.t 9)),oM 11 10,oG 12 11 false (.fad 1 (.t 2)),oG 13 11 false (.load none (.t 12)),oG 14 11 false (.len (.t 13)),oG 15 11 false (.fad 1 (.t 3)),oG 16 11 false (.load none (.t 15)),oG 17 11 false (.len (.t 16)),oG 18 11 false (.bin .neq (.t 14) (.t 17)),oA 19 (.pick (.t 11) (.c (.v (.bool true))) (.t 18))] [2,3,19] [[2],[3]]) <| .cond (.t 19) (.seq (oR [oA 4 (.mov (.c (.v (.bool false))))] [4] []) <| .ret) <| .skip) <| .seq (.seq (oR [oA 5 (.mov (oC 0))] [2,3,5] [[2],[3]]) <| .seq (.blk 0 <| .seq (.keep [2,3,5] [[2],[3]]) <| .loop QbI) <| .keep [] []) <| .seq (oR [oA 4 (.mov (.c (.v (.bool true))))] [4] []) <| .ret,[.t 4]⟩
end Go.AM

set_option maxRecDepth 100000
namespace Go.AM
open Go Go.Proofs


def QnI : CF := ⟨2,.seq (oR [oEe 2 0,oEe 3 1,oA 4 (.new oZ4)] [2,3,4] [[2],[3],[4]]) <| .seq (.seq (oR [oNn 5 0 3,oNn 6 1 5,oDd 7 6,oQq 8 7,oA 9 (.bin .eql (.t 8) (oC 0))] [2,3,4,9] [[2],[3],[4]]) <| .cond (.t 9) (.seq (oR [oA 10 (.build oZ4 []),oPp 4 4 10] [4] [[4]]) <| .ret) <| .skip) <| .seq (oR [oL 11 4 2,oL 12 4 3,oJ 13 QdT [12],oNn 14 0 3,oL 15 2 14,oJ 16 Qgv [13,15],oJ 17 Qfc [11,16],oPp 4 4 17] [4] [[4]]) <| .ret,[.cell 4 (some 4)]⟩

def QpT : CF := ⟨1,.seq (oR [oEe 1 0,oA 2 (.new oZ4)] [1,2] [[1],[2]]) <| .seq (oR [oNn 3 0 1,oL 4 2 3,oJ 5 QfF [4],oNn 6 2 1,oL 7 2 6,oA 8 (.build oZ4 [(0,2,(.t 5)),(2,2,(.t 7))]),oPp 4 2 8] [2] [[2]]) <| .ret,[.cell 2 (some 4)]⟩

def Qf2 : CF := ⟨2,.seq (oR [oEe 2 0,oEe 3 1,oA 4 (.mov (oC 0))] [2,3] [[2],[3]]) <| .seq (.seq (oR [oL 7 4 2,oJ 8 Qeb [7],oL 9 4 3,oJ 10 Qeb [9],oM 5 8,oM 6 10] [2,3,5,6] [[2],[3]]) <| .seq (oR [oM 11 5,oM 12 6,oBb 13 .neq 11 12,oM 14 13,oHh 15 14 false 5,oG 16 14 false (.bin .eql (.t 15) (oC 0)),oA 17 (.pick (.t 14) (.c (.v (.bool true))) (.t 16))] [2,3,5,6,17] [[2],[3]]) <| .cond (.t 17) (.seq (oR [oM 18 5,oJ 19 Qd7 [18],oM 20 6,oJ 21 Qd7 [20],oJ 22 QeW [19,21],oM 4 22] [4] []) <| .ret) <| .skip) <| .seq (oR [oNn 23 0 2,oL 24 2 23,oL 25 4 3,oJ 26 QdT [25],oJ 27 QbJ [24,26],oNn 28 0 3,oL 29 2 28,oL 30 4 2,oJ 31 QdT [30],oJ 32 QbJ [29,31],oJ 33 QeW [27,32],oM 4 33] [4] []) <| .ret,[.t 4]⟩

def Qg7 : CF := ⟨2,.seq (oR [oEe 2 0,oEe 3 1,oA 4 (.new oZ4)] [2,3,4] [[2],[3],[4]]) <| .seq (.seq (.blk 0 <| .seq (oR [oNn 8 2 2,oNn 9 1 8,oDd 10 9,oQq 11 10,oA 12 (.bin .eql (.t 11) (oC 0)),oM 13 12,oG 14 13 true (.fad 2 (.t 3)),oG 15 13 true (.fad 1 (.t 14)),oG 16 13 true (.load none (.t 15)),oG 17 13 true (.len (.t 16)),oG 18 13 true (.bin .eql (.t 17) (oC 0)),oA 19 (.pick (.t 13) (.t 18) (.c (.v (.bool false)))),oM 7 19] [2,3,4,7] [[2],[3],[4]]) <| .cond (.t 7) (.seq (oR [oNn 20 0 2,oL 21 2 20,oNn 22 0 3,oL 23 2 22,oJ 24 Qhn [21,23],oA 25 (.build oZ4 [(0,2,(.t 24))]),oPp 4 4 25] [4] [[4]]) <| .ret) <| .seq (oR [oNn 27 0 2,oNn 28 1 27,oDd 29 28,oQq 30 29,oA 31 (.bin .eql (.t 30) (oC 0)),oM 26 31] [2,3,4,26] [[2],[3],[4]]) <| .cond (.t 26) (.seq (oR [oL 32 4 3,oPp 4 4 32] [4] [[4]]) <| .ret) <| .seq (oR [oNn 34 0 3,oNn 35 1 34,oDd 36 35,oQq 37 36,oA 38 (.bin .eql (.t 37) (oC 0)),oM 33 38] [2,3,4,33] [[2],[3],[4]]) <| .cond (.t 33) (.seq (oR [oL 39 4 2,oPp 4 4 39] [4] [[4]]) <| .ret) <| .skip) <| .keep [2,3,4] [[2],[3],[4]]) <| .seq (oR [oL 40 4 2,oJ 41 QdT [40],oL 42 4 3,oJ 43 QdT [42],oA 5 (.new [.v (.bool false),.z true]),oA 6 (.new [.v (.bool false),.z true]),oPp 2 5 41,oPp 2 6 43] [2,3,4,5,6] [[2],[3],[4],[5],[6]]) <| .seq (oR [oNn 44 0 2,oL 45 2 44,oL 46 2 6,oJ 47 QbJ [45,46],oNn 48 0 3,oL 49 2 48,oL 50 2 5,oJ 51 QbJ [49,50],oJ 52 Qhn [47,51],oL 53 2 5,oL 54 2 6,oJ 55 QbJ [53,54],oJ 56 QgZ [52,55],oPp 4 4 56] [4] [[4]]) <| .ret,[.cell 4 (some 4)]⟩

def rat_Of : CF := ⟨2,.seq (oR [oA 4 (.new oZ4)] [0,1,4] [[4]]) <| .seq (oR [oM 5 0,oJ 6 Qd7 [5],oM 7 1,oJ 8 Qd7 [7],oJ 9 QgZ [6,8],oPp 4 4 9] [4] [[4]]) <| .ret,[.cell 4 (some 4)]⟩

def QfU : CF := ⟨2,.seq (oR [oEe 2 0,oEe 3 1,oA 4 (.new oZ4)] [2,3,4] [[2],[3],[4]]) <| .seq (oR [oNn 5 0 2,oL 6 2 5,oL 7 4 3,oJ 8 QaM [7],oJ 9 QaN [6,8],oL 10 4 2,oJ 11 QaM [10],oNn 12 0 3,oL 13 2 12,oJ 14 QaN [11,13],oJ 15 Qco [9,14],oPp 4 4 15] [4] [[4]]) <| .ret,[.cell 4 (some 4)]⟩

def QjY : C :=
 .seq (.seq (.seq (oR [oM 7 6,oM 8 1,oQq 9 8,oBb 10 .lss 7 9] [0,1,5,6,10] [[21]]) <| .cond (.t 10) (.skip) <| .seq (.keep [5] [[21]]) <| .exit 0) <| .seq (.seq (.blk 1 <| oR [oM 13 5,oM 14 1,oM 15 6,oXx 16 1 14 15,oDd 17 16,oM 18 0,oJ 19 Qaq [17,18],oA 20 (.lit 4 1 oZ4 [(0,(.t 19))] true),oA 21 (.app 4 64 (.t 13) (.t 20) false),oM 5 21] [0,1,5,6] [[21]]) <| .keep [0,1,5,6] [[21]]) <| oR [oM 11 6,oA 12 (.bin .add (.t 11) (oC 1)),oM 6 12] [0,1,5,6] [[21]]) <| .keep [0,1,5,6] [[21]]
def Qma : CF := ⟨2,.seq (oR [oA 4 (.mov (.c (.z true)))] [0,1] []) <| .seq (oR [oA 5 (.mov (.c (.z true)))] [0,1,5] [[21]]) <| .seq (.seq (oR [oA 6 (.mov (oC 0))] [0,1,5,6] [[21]]) <| .seq (.blk 0 <| .seq (.keep [0,1,5,6] [[21]]) <| .loop QjY) <| .keep [5] [[21]]) <| .seq (.seq (.frz 5) <| oR [oM 22 5,oJ 23 Qar [22],oM 4 23] [4] []) <| .ret,[.t 4]⟩

def QbH : CF := ⟨2,.seq (oR [oEe 2 0,oEe 3 1,oA 4 (.mov (oC 0))] [2,3] [[2],[3]]) <| .seq (.seq (oR [oNn 5 0 2,oDd 6 5,oNn 7 0 3,oDd 8 7,oA 9 (.binb true (.t 6) (.t 8))] [2,3,9] [[2],[3]]) <| .cond (.t 9) (.seq (.seq (oR [oNn 10 0 2,oDd 11 10] [11] []) <| .cond (.t 11) (.seq (oR [oA 4 (.mov (oC (-1)))] [4] []) <| .ret) <| .skip) <| .seq (oR [oA 4 (.mov (oC 1))] [4] []) <| .ret) <| .skip) <| .seq (.seq (oR [oNn 12 0 2,oDd 13 12] [2,3,13] [[2],[3]]) <| .cond (.t 13) (.seq (oR [oNn 14 1 3,oDd 15 14,oNn 16 1 2,oDd 17 16,oJ 18 Qbe [15,17],oM 4 18] [4] []) <| .ret) <| .skip) <| .seq (oR [oNn 19 1 2,oDd 20 19,oNn 21 1 3,oDd 22 21,oJ 23 Qbe [20,22],oM 4 23] [4] []) <| .ret,[.t 4]⟩

def QbS : C :=
 .seq (.seq (.seq (oR [oM 25 8,oNn 26 1 3,oDd 27 26,oQq 28 27,oBb 29 .lss 25 28] [2,3,4,5,6,7,8,29] [[2],[3],[4],[17]]) <| .cond (.t 29) (.skip) <| .seq (.keep [2,3,4,5,6,7] [[2],[3],[4],[17]]) <| .exit 2) <| .seq (.seq (.blk 3 <| .seq (oR [oM 32 5,oM 33 6,oM 34 8,oBb 35 .add 33 34,oXx 36 1 32 35,oDd 37 36,oNn 38 1 2,oDd 39 38,oM 40 6,oXx 41 1 39 40,oDd 42 41,oNn 43 1 3,oDd 44 43,oM 45 8,oXx 46 1 44 45,oDd 47 46,oBb 48 .mul 42 47,oBb 49 .add 37 48,oM 50 7,oBb 51 .add 49 50,oM 9 51] [2,3,4,5,6,8,9] [[2],[3],[4],[17]]) <| .seq (oR [oM 52 5,oM 53 6,oM 54 8,oBb 55 .add 53 54,oM 56 9,oA 57 (.bin .rem (.t 56) (oC 1000000000)),oXx 58 1 52 55,oPp 1 58 57] [2,3,4,5,6,8,9] [[2],[3],[4],[17]]) <| oR [oM 59 9,oA 60 (.bin .quo (.t 59) (oC 1000000000)),oM 7 60] [2,3,4,5,6,7,8] [[2],[3],[4],[17]]) <| .keep [2,3,4,5,6,7,8] [[2],[3],[4],[17]]) <| oR [oM 30 8,oA 31 (.bin .add (.t 30) (oC 1)),oM 8 31] [2,3,4,5,6,7,8] [[2],[3],[4],[17]]) <| .keep [2,3,4,5,6,7,8] [[2],[3],[4],[17]]
def QbU : C :=
 .seq (.seq (.seq (oR [oM 18 6,oNn 19 1 2,oDd 20 19,oQq 21 20,oBb 22 .lss 18 21] [2,3,4,5,6,22] [[2],[3],[4],[17]]) <| .cond (.t 22) (.skip) <| .seq (.keep [2,3,4,5] [[2],[3],[4],[17]]) <| .exit 0) <| .seq (.seq (.blk 1 <| .seq (oR [oA 7 (.mov (oC 0))] [2,3,4,5,6,7] [[2],[3],[4],[17]]) <| .seq (.seq (oR [oA 8 (.mov (oC 0))] [2,3,4,5,6,7,8] [[2],[3],[4],[17]]) <| .seq (.blk 2 <| .seq (.keep [2,3,4,5,6,7,8] [[2],[3],[4],[17]]) <| .loop QbS) <| .keep [2,3,4,5,6,7] [[2],[3],[4],[17]]) <| oR [oM 61 5,oM 62 6,oNn 63 1 3,oDd 64 63,oQq 65 64,oBb 66 .add 62 65,oM 67 7,oXx 68 1 61 66,oPp 1 68 67] [2,3,4,5,6] [[2],[3],[4],[17]]) <| .keep [2,3,4,5,6] [[2],[3],[4],[17]]) <| oR [oM 23 6,oA 24 (.bin .add (.t 23) (oC 1)),oM 6 24] [2,3,4,5,6] [[2],[3],[4],[17]]) <| .keep [2,3,4,5,6] [[2],[3],[4],[17]]
def Qf8 : CF := ⟨2,.seq (oR [oEe 2 0,oEe 3 1,oA 4 (.new [.v (.bool false),.z true])] [2,3,4] [[2],[3],[4]]) <| .seq (oR [oNn 10 1 2,oDd 11 10,oQq 12 11,oNn 13 1 3,oDd 14 13,oQq 15 14,oBb 16 .add 12 15,oA 17 (.mksl 1 8 [.v (.int .i64 0)] (.t 16) (.t 16)),oM 5 17] [2,3,4,5] [[2],[3],[4],[17]]) <| .seq (.seq (oR [oA 6 (.mov (oC 0))] [2,3,4,5,6] [[2],[3],[4],[17]]) <| .seq (.blk 0 <| .seq (.keep [2,3,4,5,6] [[2],[3],[4],[17]]) <| .loop QbU) <| .keep [2,3,4,5] [[2],[3],[4],[17]]) <| .seq (.seq (.frz 5) <| oR [oNn 69 0 2,oDd 70 69,oNn 71 0 3,oDd 72 71,oA 73 (.binb true (.t 70) (.t 72)),oM 74 5,oJ 75 Qam [73,74],oPp 2 4 75] [4] [[4]]) <| .ret,[.cell 4 (some 2)]⟩

def Qeq : CF := ⟨1,.seq (oR [oEe 1 0,oA 2 (.new [.v (.bool false),.z true])] [1,2] [[1],[2]]) <| .seq (.seq (oR [oNn 3 2 1,oNn 4 1 3,oDd 5 4,oQq 6 5,oA 7 (.bin .eql (.t 6) (oC 0))] [1,2,7] [[1],[2]]) <| .cond (.t 7) (.seq (oR [oA 8 (.call Qbz [(oC 1)] false),oPp 2 2 8] [2] [[2]]) <| .ret) <| .skip) <| .seq (oR [oNn 9 2 1,oL 10 2 9,oPp 2 2 10] [2] [[2]]) <| .ret,[.cell 2 (some 2)]⟩

def Qf3 : CF := ⟨1,.seq (oR [oEe 1 0,oA 2 (.new [.v (.bool false),.z true])] [1,2] [[1],[2]]) <| .seq (oR [oNn 3 0 1,oDd 4 3,oA 5 (.un .not (.t 4)),oNn 6 1 1,oDd 7 6,oJ 8 Qam [5,7],oPp 2 2 8] [2] [[2]]) <| .ret,[.cell 2 (some 2)]⟩

def QfI : CF := ⟨3,.seq (oR [oEe 4 1,oEe 5 2,oA 6 (.mov (oC 0))] [0,4,5] [[4],[5]]) <| .seq (.seq (oR [oL 7 4 4,oL 8 4 5,oJ 9 QfE [7,8],oA 10 (.bin .geq (.t 9) (oC 0))] [0,4,5,10] [[4],[5]]) <| .cond (.t 10) (.seq (oR [oA 6 (.mov (oC 0))] [6] []) <| .ret) <| .skip) <| .seq (oR [oM 11 0,oL 12 4 4,oJ 13 Qdl [11,12],oM 14 0,oL 15 4 5,oJ 16 Qdl [14,15],oBb 17 .sub 13 16,oM 6 17] [6] []) <| .ret,[.t 6]⟩

def QbB : CF := ⟨2,.seq (oR [oEe 2 0,oEe 3 1,oA 4 (.new oZ4)] [2,3,4] [[2],[3],[4]]) <| .seq (.seq (oR [oNn 10 1 3,oDd 11 10,oQq 12 11,oA 13 (.bin .eql (.t 12) (oC 0)),oM 14 13,oG 15 14 false (.fad 1 (.t 2)),oG 16 14 false (.load none (.t 15)),oG 17 14 false (.len (.t 16)),oG 18 14 false (.bin .eql (.t 17) (oC 0)),oA 19 (.pick (.t 14) (.c (.v (.bool true))) (.t 18))] [2,3,4,19] [[2],[3],[4]]) <| .cond (.t 19) (.seq (oR [oA 20 (.build oZ4 []),oPp 4 4 20] [4] [[4]]) <| .ret) <| .skip) <| .seq (oR [oL 21 2 2,oL 22 2 3,oJ 23 Qg3 [21,22],oA 5 (.new [.v (.bool false),.z true]),oPp 2 5 23] [2,3,4,5] [[2],[3],[4],[5]]) <| .seq (oR [oL 25 2 2,oL 26 2 5,oJ 27 Qdw [25,26],oM 24 27,oA 28 (.ext (.t 24) 0),oA 29 (.ext (.t 24) 1),oA 6 (.new [.v (.bool false),.z true]),oA 7 (.new [.v (.bool false),.z true]),oPp 2 6 28,oPp 2 7 29] [3,4,5,6] [[3],[4],[5],[6]]) <| .seq (oR [oL 31 2 3,oL 32 2 5,oJ 33 Qdw [31,32],oM 30 33,oA 34 (.ext (.t 30) 0),oA 35 (.ext (.t 30) 1),oA 8 (.new [.v (.bool false),.z true]),oA 9 (.new [.v (.bool false),.z true]),oPp 2 8 34,oPp 2 9 35] [4,6,8] [[4],[6],[8]]) <| .seq (.seq (oR [oNn 36 0 8,oDd 37 36] [4,6,8,37] [[4],[6],[8]]) <| .cond (.t 37) (.seq (oR [oL 38 2 6,oJ 39 Qdq [38],oPp 2 6 39] [4,6,8] [[4],[6],[8]]) <| oR [oL 40 2 8,oJ 41 Qdq [40],oPp 2 8 41] [4,6,8] [[4],[6],[8]]) <| .skip) <| .seq (.seq (oR [oL 42 2 8,oJ 43 QgS [42]] [4,6,8,43] [[4],[6],[8]]) <| .cond (.t 43) (.seq (oR [oL 44 2 6,oA 45 (.build oZ4 [(0,2,(.t 44))]),oPp 4 4 45] [4] [[4]]) <| .ret) <| .skip) <| .seq (oR [oL 46 2 6,oL 47 2 8,oA 48 (.build oZ4 [(0,2,(.t 46)),(2,2,(.t 47))]),oPp 4 4 48] [4] [[4]]) <| .ret,[.cell 4 (some 4)]⟩

def Qdb : CF := ⟨2,.seq (oR [oEe 2 0,oEe 3 1,oA 4 (.new [.v (.bool false),.z true])] [2,3,4] [[2],[3],[4]]) <| .seq (.seq (oR [oNn 5 0 2,oDd 6 5,oNn 7 0 3,oDd 8 7,oA 9 (.binb false (.t 6) (.t 8))] [2,3,4,9] [[2],[3],[4]]) <| .cond (.t 9) (.seq (oR [oNn 10 0 2,oDd 11 10,oNn 12 1 2,oDd 13 12,oNn 14 1 3,oDd 15 14,oJ 16 Qgl [13,15],oJ 17 Qam [11,16],oPp 2 4 17] [4] [[4]]) <| .ret) <| .skip) <| .seq (.seq (oR [oNn 18 1 2,oDd 19 18,oNn 20 1 3,oDd 21 20,oJ 22 Qbe [19,21],oA 23 (.bin .lss (.t 22) (oC 0))] [2,3,4,23] [[2],[3],[4]]) <| .cond (.t 23) (.seq (oR [oNn 24 0 3,oDd 25 24,oNn 26 1 3,oDd 27 26,oNn 28 1 2,oDd 29 28,oJ 30 Qb9 [27,29],oJ 31 Qam [25,30],oPp 2 4 31] [4] [[4]]) <| .ret) <| .skip) <| .seq (oR [oNn 32 0 2,oDd 33 32,oNn 34 1 2,oDd 35 34,oNn 36 1 3,oDd 37 36,oJ 38 Qb9 [35,37],oJ 39 Qam [33,38],oPp 2 4 39] [4] [[4]]) <| .ret,[.cell 4 (some 2)]⟩

def Qa2 : C :=
 .seq (.seq (.seq (oR [oM 8 0,oA 9 (.bin .neq (.t 8) (oC 0))] [0,2,3,4,9] [[2],[19]]) <| .cond (.t 9) (.skip) <| .seq (.keep [2,3,4] [[2],[19]]) <| .exit 0) <| .seq (.blk 1 <| .seq (oR [oM 10 0,oA 11 (.bin .rem (.t 10) (oC 1000000000)),oM 5 11] [0,2,3,4,5] [[2],[19]]) <| .seq (.seq (oR [oM 12 5,oA 13 (.bin .lss (.t 12) (oC 0))] [0,2,3,4,5,13] [[2],[19]]) <| .cond (.t 13) (oR [oM 14 5,oA 15 (.un .neg (.t 14)),oM 5 15] [0,2,3,4,5] [[2],[19]]) <| .skip) <| .seq (oR [oM 16 3,oM 17 5,oA 18 (.lit 1 1 [.v (.int .i64 0)] [(0,(.t 17))] true),oA 19 (.app 1 8 (.t 16) (.t 18) false),oM 3 19] [0,2,3,4] [[2],[19]]) <| oR [oM 20 0,oA 21 (.bin .quo (.t 20) (oC 1000000000)),oM 0 21] [0,2,3,4] [[2],[19]]) <| .keep [0,2,3,4] [[2],[19]]) <| .keep [0,2,3,4] [[2],[19]]
def Qe1 : CF := ⟨1,.seq (oR [oA 2 (.new [.v (.bool false),.z true])] [0,2] [[2]]) <| .seq (oR [oA 3 (.mov (.c (.z true)))] [0,2,3] [[2],[19]]) <| .seq (oR [oM 6 0,oA 7 (.bin .lss (.t 6) (oC 0)),oM 4 7] [0,2,3,4] [[2],[19]]) <| .seq (.seq (.blk 0 <| .seq (.keep [0,2,3,4] [[2],[19]]) <| .loop Qa2) <| .keep [2,3,4] [[2],[19]]) <| .seq (.seq (.frz 3) <| oR [oM 22 4,oM 23 3,oJ 24 Qam [22,23],oPp 2 2 24] [2] [[2]]) <| .ret,[.cell 2 (some 2)]⟩

def QcI : C :=
 .seq (.seq (oR [oBb 10 .lss 9 8] [1,5,8,9,10] [[17]]) <| .seq (.cond (.t 10) (.skip) <| .seq (.keep [5] [[17]]) <| .exit 0) <| .seq (.seq (.blk 1 <| .seq (oR [oM 11 9,oM 6 11] [1,5,6,8,9] [[17]]) <| oR [oM 12 5,oM 13 1,oM 14 6,oA 15 (.calv (.t 13) [.t 14]),oA 16 (.lit 4 1 oZ4 [(0,(.t 15))] true),oA 17 (.app 4 64 (.t 12) (.t 16) false),oM 5 17] [1,5,8,9] [[17]]) <| .keep [1,5,8,9] [[17]]) <| oR [oA 18 (.bin .add (.t 9) (oC 1)),oM 9 18] [1,5,8,9] [[17]]) <| .keep [1,5,8,9] [[17]]
def QjJ : CF := ⟨2,.seq (oR [oA 4 (.mov (.c (.z true)))] [0,1] []) <| .seq (oR [oA 5 (.mov (.c (.z true)))] [0,1,5] [[17]]) <| .seq (.seq (oR [oM 7 0,oA 8 (.mx [(.t 7),(oC 0)]),oA 9 (.mov (oC 0))] [1,5,8,9] [[17]]) <| .seq (.blk 0 <| .seq (.keep [1,5,8,9] [[17]]) <| .loop QcI) <| .keep [5] [[17]]) <| .seq (.seq (.frz 5) <| oR [oM 19 5,oJ 20 QfS [19],oM 4 20] [4] []) <| .ret,[.t 4]⟩

def Qdu : C :=
 .seq (.seq (.seq (oR [oM 13 6,oM 14 0,oDd 15 2,oQq 16 15,oA 17 (.bin .sub (.t 16) (oC 1)),oA 18 (.mn [.t 14,.t 17]),oBb 19 .leq 13 18] [0,1,2,4,5,6,19] [[4],[5]]) <| .cond (.t 19) (.skip) <| .seq (.keep [4,5] [[4],[5]]) <| .exit 0) <| .seq (.seq (.blk 1 <| oR [oL 22 4 5,oDd 23 2,oM 24 6,oXx 25 4 23 24,oL 26 4 25,oDd 27 1,oM 28 0,oM 29 6,oBb 30 .sub 28 29,oXx 31 4 27 30,oL 32 4 31,oJ 33 Qfc [26,32],oJ 34 QgR [22,33],oPp 4 5 34] [0,1,2,4,5,6] [[4],[5]]) <| .keep [0,1,2,4,5,6] [[4],[5]]) <| oR [oM 20 6,oA 21 (.bin .add (.t 20) (oC 1)),oM 6 21] [0,1,2,4,5,6] [[4],[5]]) <| .keep [0,1,2,4,5,6] [[4],[5]]
def QjU : CF := ⟨3,.seq (oR [oA 4 (.new oZ4)] [0,1,2,4] [[4]]) <| .seq (oR [oA 5 (.new oZ4)] [0,1,2,4,5] [[4],[5]]) <| .seq (.seq (oR [oM 7 0,oDd 8 1,oQq 9 8,oBb 10 .sub 7 9,oA 11 (.bin .add (.t 10) (oC 1)),oA 12 (.mx [(oC 0),(.t 11)]),oM 6 12] [0,1,2,4,5,6] [[4],[5]]) <| .seq (.blk 0 <| .seq (.keep [0,1,2,4,5,6] [[4],[5]]) <| .loop Qdu) <| .keep [4,5] [[4],[5]]) <| .seq (oR [oL 35 4 5,oPp 4 4 35] [4] [[4]]) <| .ret,[.cell 4 (some 4)]⟩

def QiJ : CF := ⟨2,.seq (oR [oEe 2 0,oEe 3 1,oA 4 (.new oZ4)] [2,3,4] [[2],[3],[4]]) <| .seq (.seq (oR [oNn 7 0 2,oNn 8 1 7,oDd 9 8,oQq 10 9,oA 11 (.bin .eql (.t 10) (oC 0)),oM 12 11,oG 13 12 false (.fad 0 (.t 3)),oG 14 12 false (.fad 1 (.t 13)),oG 15 12 false (.load none (.t 14)),oG 16 12 false (.len (.t 15)),oG 17 12 false (.bin .eql (.t 16) (oC 0)),oA 18 (.pick (.t 12) (.c (.v (.bool true))) (.t 17))] [2,3,4,18] [[2],[3],[4]]) <| .cond (.t 18) (.seq (oR [oA 19 (.build oZ4 []),oPp 4 4 19] [4] [[4]]) <| .ret) <| .skip) <| .seq (.seq (oR [oNn 20 2 2,oNn 21 1 20,oDd 22 21,oQq 23 22,oA 24 (.bin .eql (.t 23) (oC 0)),oM 25 24,oG 26 25 true (.fad 2 (.t 3)),oG 27 25 true (.fad 1 (.t 26)),oG 28 25 true (.load none (.t 27)),oG 29 25 true (.len (.t 28)),oG 30 25 true (.bin .eql (.t 29) (oC 0)),oA 31 (.pick (.t 25) (.t 30) (.c (.v (.bool false))))] [2,3,4,31] [[2],[3],[4]]) <| .cond (.t 31) (.seq (oR [oNn 32 0 2,oL 33 2 32,oNn 34 0 3,oL 35 2 34,oJ 36 QbJ [33,35],oA 37 (.build oZ4 [(0,2,(.t 36))]),oPp 4 4 37] [4] [[4]]) <| .ret) <| .skip) <| .seq (oR [oNn 38 0 2,oL 39 2 38,oL 40 4 3,oJ 41 QdT [40],oJ 42 QgZ [39,41],oNn 43 0 3,oL 44 2 43,oL 45 4 2,oJ 46 QdT [45],oJ 47 QgZ [44,46],oA 5 (.new oZ4),oA 6 (.new oZ4),oPp 4 5 42,oPp 4 6 47] [4,5,6] [[4],[5],[6]]) <| .seq (oR [oNn 48 0 5,oL 49 2 48,oNn 50 0 6,oL 51 2 50,oJ 52 QbJ [49,51],oL 53 4 5,oJ 54 QdT [53],oL 55 4 6,oJ 56 QdT [55],oJ 57 QbJ [54,56],oJ 58 Qgv [52,57],oPp 4 4 58] [4] [[4]]) <| .ret,[.cell 4 (some 4)]⟩

def Qim : CF := ⟨1,.seq (oR [oA 2 (.mov (.c (.z true)))] [0] []) <| .seq (.seq (oR [oM 3 0,oQq 4 3,oA 5 (.bin .eql (.t 4) (oC 0))] [0,5] []) <| .cond (.t 5) (.seq (oR [oA 2 (.mov (.c (.z true)))] [2] []) <| .ret) <| .skip) <| .seq (oR [oM 6 0,oA 7 (.call Qgn [(oC 1),(oC 1)] false),oM 8 0,oM 9 0,oQq 10 9,oA 11 (.bin .sub (.t 10) (oC 1)),oXx 12 4 8 11,oL 13 4 12,oJ 14 Qi6 [7,13],oJ 15 QhR [6,14],oM 2 15] [2] []) <| .ret,[.t 2]⟩

def QeC : C :=
 .seq (.seq (oR [oBb 56 .lss 55 54] [1,6,7,8,9,53,54,55,56] [[9],[16],[24]]) <| .seq (.cond (.t 56) (.skip) <| .seq (.keep [1,6,7,8] [[16],[24]]) <| .exit 2) <| .seq (.seq (.blk 3 <| .seq (oR [oM 57 55,oXx 58 4 53 55,oL 59 4 58,oA 11 (.new oZ4),oM 10 57,oPp 4 11 59] [1,6,7,8,9,10,11,53,54,55] [[9],[11],[16],[24]]) <| oR [oM 60 6,oM 61 8,oM 62 10,oBb 63 .add 61 62,oM 64 6,oM 65 8,oM 66 10,oBb 67 .add 65 66,oXx 68 4 64 67,oL 69 4 68,oL 70 4 9,oL 71 4 11,oJ 72 Qfc [70,71],oJ 73 Qob [69,72],oXx 74 4 60 63,oPp 4 74 73] [1,6,7,8,9,53,54,55] [[9],[16],[24]]) <| .keep [1,6,7,8,9,53,54,55] [[9],[16],[24]]) <| oR [oA 75 (.bin .add (.t 55) (oC 1)),oM 55 75] [1,6,7,8,9,53,54,55] [[9],[16],[24]]) <| .keep [1,6,7,8,9,53,54,55] [[9],[16],[24]]
def Qcs : C :=
 .seq (.seq (.seq (oR [oM 30 8,oA 31 (.bin .geq (.t 30) (oC 0))] [1,6,7,8,31] [[16],[24]]) <| .cond (.t 31) (.skip) <| .seq (.keep [6,7] [[16],[24]]) <| .exit 0) <| .seq (.seq (.blk 1 <| .seq (oR [oM 34 6,oM 35 8,oM 36 1,oQq 37 36,oBb 38 .add 35 37,oA 39 (.bin .sub (.t 38) (oC 1)),oXx 40 4 34 39,oL 41 4 40,oM 42 1,oM 43 1,oQq 44 43,oA 45 (.bin .sub (.t 44) (oC 1)),oXx 46 4 42 45,oL 47 4 46,oJ 48 Qi6 [41,47],oA 9 (.new oZ4),oPp 4 9 48] [1,6,7,8,9] [[9],[16],[24]]) <| .seq (oR [oM 49 7,oM 50 8,oL 51 4 9,oXx 52 4 49 50,oPp 4 52 51] [1,6,7,8,9] [[9],[16],[24]]) <| .seq (oR [oM 53 1,oQq 54 53,oA 55 (.mov (oC 0))] [1,6,7,8,9,53,54,55] [[9],[16],[24]]) <| .seq (.blk 2 <| .seq (.keep [1,6,7,8,9,53,54,55] [[9],[16],[24]]) <| .loop QeC) <| .keep [1,6,7,8] [[16],[24]]) <| .keep [1,6,7,8] [[16],[24]]) <| oR [oM 32 8,oA 33 (.bin .sub (.t 32) (oC 1)),oM 8 33] [1,6,7,8] [[16],[24]]) <| .keep [1,6,7,8] [[16],[24]]
def Qij : CF := ⟨2,.seq (oR [oA 4 (.mov (.c (.z true))),oA 5 (.mov (.c (.z true)))] [0,1] []) <| .seq (.seq (oR [oM 12 1,oQq 13 12,oA 14 (.bin .eql (.t 13) (oC 0))] [0,1,14] []) <| .cond (.t 14) (.seq (oR [oA 4 (.mov (.c (.z true))),oA 5 (.mov (.c (.z true)))] [4,5] []) <| .ret) <| .skip) <| .seq (oR [oM 15 0,oA 16 (.call Qa8 [.t 15] true),oM 6 16] [0,1,6] [[16]]) <| .seq (oR [oM 17 0,oQq 18 17,oM 19 1,oQq 20 19,oBb 21 .sub 18 20,oA 22 (.bin .add (.t 21) (oC 1)),oA 23 (.mx [(oC 0),(.t 22)]),oA 24 (.mksl 4 64 oZ4 (.t 23) (.t 23)),oM 7 24] [0,1,6,7] [[16],[24]]) <| .seq (.seq (oR [oM 25 0,oQq 26 25,oM 27 1,oQq 28 27,oBb 29 .sub 26 28,oM 8 29] [1,6,7,8] [[16],[24]]) <| .seq (.blk 0 <| .seq (.keep [1,6,7,8] [[16],[24]]) <| .loop Qcs) <| .keep [6,7] [[16],[24]]) <| .seq (.seq (.frz 7) <| .seq (.frz 6) <| oR [oM 76 7,oJ 77 QfS [76],oM 78 6,oJ 79 QfS [78],oM 4 77,oM 5 79] [4,5] []) <| .ret,[.t 4,.t 5]⟩

def Qg8 : CF := ⟨2,.seq (oR [oEe 2 0,oA 3 (.mov (.c (.v (.bool false))))] [1,2] [[2]]) <| .seq (oR [oDd 4 1,oL 5 4 2,oJ 6 Qhe [4,5],oJ 7 Qeb [6],oA 8 (.bin .lss (.t 7) (oC 0)),oM 3 8] [3] []) <| .ret,[.t 3]⟩

def Qea : C :=
 .seq (.seq (.seq (oR [oM 12 4,oQq 13 12,oA 14 (.bin .gtr (.t 13) (oC 1))] [3,4,14] []) <| .cond (.t 14) (.skip) <| .seq (.keep [3] []) <| .exit 0) <| .seq (.blk 1 <| .seq (oR [oM 15 4,oJ 16 Qct [15],oM 5 16] [3,4,5] []) <| .seq (oR [oM 18 4,oM 19 5,oJ 20 Qc1 [18,19],oM 17 20,oA 21 (.ext (.t 17) 0),oA 22 (.ext (.t 17) 1),oM 4 21] [3,4,5] []) <| .seq (oR [oM 23 4,oJ 24 Qct [23],oM 6 24] [3,4,5,6] []) <| .seq (oR [oM 26 5,oM 27 5,oM 28 6,oJ 29 Qif [27,28],oJ 30 Qc1 [26,29],oM 25 30,oA 31 (.ext (.t 25) 0),oA 32 (.ext (.t 25) 1),oM 7 31,oM 8 32] [3,4,6,7] []) <| .seq (oR [oM 33 3,oM 34 7,oJ 35 Qkg [33,34],oM 3 35] [3,4,6] []) <| oR [oM 37 4,oM 38 6,oJ 39 Qc1 [37,38],oM 36 39,oA 40 (.ext (.t 36) 0),oA 41 (.ext (.t 36) 1),oM 4 40] [3,4] []) <| .keep [3,4] []) <| .keep [3,4] []
def QlT : CF := ⟨1,.seq (oR [oA 2 (.mov (.c (.z true)))] [0] []) <| .seq (oR [oA 9 (.call Qgn [(oC 1),(oC 1)] false),oA 10 (.lit 4 1 oZ4 [(0,(.t 9))] true),oM 3 10] [0,3] []) <| .seq (oR [oM 11 0,oM 4 11] [3,4] []) <| .seq (.seq (.blk 0 <| .seq (.keep [3,4] []) <| .loop Qea) <| .keep [3] []) <| .seq (oR [oM 42 3,oM 2 42] [2] []) <| .ret,[.t 2]⟩

def Qh4 : CF := ⟨1,.seq (oR [oEe 1 0,oA 2 (.new oZ4)] [1,2] [[1],[2]]) <| .seq (oR [oNn 3 0 1,oL 4 4 3,oNn 5 4 1,oL 6 4 5,oJ 7 QgR [4,6],oA 8 (.call Qgn [(oC 1),(oC 2)] false),oJ 9 Qfc [7,8],oPp 4 2 9] [2] [[2]]) <| .ret,[.cell 2 (some 4)]⟩

def QhO : CF := ⟨3,.seq (oR [oA 4 (.new oZ4)] [0,1,2,4] [[4]]) <| .seq (oR [oDd 5 1,oM 6 0,oXx 7 4 5 6,oL 8 4 7,oL 9 4 2,oJ 10 Qfc [8,9],oPp 4 4 10] [4] [[4]]) <| .ret,[.cell 4 (some 4)]⟩

def Qfn : CF := ⟨1,.seq (oR [oEe 1 0,oA 2 (.mov (oC 0))] [1] [[1]]) <| .seq (oR [oL 3 2 1,oA 4 (.build [.v (.bool false),.z true] []),oJ 5 Qdg [3,4],oM 2 5] [2] []) <| .ret,[.t 2]⟩

def Qgc : CF := ⟨2,.seq (oR [oEe 2 0,oEe 3 1,oA 4 (.new oZ4)] [2,3,4] [[2],[3],[4]]) <| .seq (oR [oNn 5 0 2,oL 6 2 5,oNn 7 0 3,oL 8 2 7,oJ 9 QaN [6,8],oL 10 4 2,oJ 11 QaM [10],oL 12 4 3,oJ 13 QaM [12],oJ 14 QaN [11,13],oJ 15 Qco [9,14],oPp 4 4 15] [4] [[4]]) <| .ret,[.cell 4 (some 4)]⟩

def QbX : CF := ⟨1,.seq (oR [oA 2 (.mov (.c (.z true)))] [0] []) <| .seq (oR [oM 3 0,oA 4 (.call QbP [(.c (.z true)),(.t 3)] false),oM 2 4] [2] []) <| .ret,[.t 2]⟩

def QiI : CF := ⟨2,.seq (oR [oEe 2 0,oEe 3 1,oA 4 (.mov (.c (.v (.nilFunc))))] [2,3] [[2],[3]]) <| .seq (oR [oA 5 (.mkfn QaB [.t 2,.t 3] true),oM 4 5] [4] []) <| .ret,[.t 4]⟩

def QaZ : CF := ⟨1,.seq (oR [oA 2 (.mov (.c (.z true)))] [0] []) <| .seq (.seq (oR [oM 3 0,oA 4 (.isn false (.t 3))] [0,4] []) <| .cond (.t 4) (.seq (oR [oA 2 (.mov (.c (.z true)))] [2] [[5],[7]]) <| .ret) <| .skip) <| .seq (oR [oA 5 (.lit 4 0 oZ4 [] false),oM 6 0,oA 7 (.app 4 64 (.t 5) (.t 6) false),oM 2 7] [2] [[5],[7]]) <| .ret,[.t 2]⟩

def Qcp : C :=
 .seq (.seq (.seq (oR [oM 6 3,oA 7 (.bin .gtr (.t 6) (oC 0)),oM 8 7,oHh 9 8 true 0,oHh 10 8 true 3,oG 11 8 true (.bin .sub (.t 10) (oC 1)),oG 12 8 true (.ixa 4 (.t 9) (.t 11)),oG 13 8 true (.load (some 4) (.t 12)),oG 14 8 true (.call Qeb [.t 13] false),oG 15 8 true (.bin .eql (.t 14) (oC 0)),oA 16 (.pick (.t 8) (.t 15) (.c (.v (.bool false))))] [0,3,16] []) <| .cond (.t 16) (.skip) <| .seq (.keep [0,3] []) <| .exit 0) <| .seq (.blk 1 <| oR [oM 17 3,oA 18 (.bin .sub (.t 17) (oC 1)),oM 3 18] [0,3] []) <| .keep [0,3] []) <| .keep [0,3] []
def Qi5 : CF := ⟨1,.seq (oR [oA 2 (.mov (.c (.z true)))] [0] []) <| .seq (oR [oM 4 0,oQq 5 4,oM 3 5] [0,3] []) <| .seq (.seq (.blk 0 <| .seq (.keep [0,3] []) <| .loop Qcp) <| .keep [0,3] []) <| .seq (oR [oM 19 0,oM 20 3,oA 21 (.slc 4 (.t 19) none (some (.t 20)) none),oJ 22 Qa8 [21],oM 2 22] [2] []) <| .ret,[.t 2]⟩

def QbV : C :=
 .seq (.seq (.seq (oR [oM 13 6,oQq 14 13,oA 15 (.bin .gtr (.t 14) (oC 0))] [5,6,15] []) <| .cond (.t 15) (.skip) <| .seq (.keep [5] []) <| .exit 0) <| .seq (.blk 1 <| .seq (oR [oM 17 5,oM 18 6,oJ 19 Qdo [17,18],oM 16 19,oA 20 (.ext (.t 16) 0),oA 21 (.ext (.t 16) 1),oM 7 20,oM 8 21] [6,8] []) <| .seq (oR [oM 22 6,oM 5 22] [5,8] []) <| oR [oM 23 8,oJ 24 Qcc [23],oM 6 24] [5,6] []) <| .keep [5,6] []) <| .keep [5,6] []
def Qga : CF := ⟨2,.seq (oR [oA 4 (.mov (.c (.z true)))] [0,1] []) <| .seq (oR [oM 9 0,oJ 10 Qcc [9],oM 5 10] [1,5] []) <| .seq (oR [oM 11 1,oJ 12 Qcc [11],oM 6 12] [5,6] []) <| .seq (.seq (.blk 0 <| .seq (.keep [5,6] []) <| .loop QbV) <| .keep [5] []) <| .seq (oR [oM 25 5,oM 4 25] [4] []) <| .ret,[.t 4]⟩

def Qdx : CF := ⟨1,.seq (oR [oA 2 (.mov (.c (.z true)))] [0] []) <| .seq (.seq (oR [oM 3 0,oQq 4 3,oA 5 (.bin .eql (.t 4) (oC 0))] [0,5] []) <| .cond (.t 5) (.seq (oR [oA 2 (.mov (.c (.z true)))] [2] []) <| .ret) <| .skip) <| .seq (oR [oM 6 0,oA 7 (.call Qaq [(oC 1),(oC 1)] false),oM 8 0,oM 9 0,oQq 10 9,oA 11 (.bin .sub (.t 10) (oC 1)),oXx 12 4 8 11,oL 13 4 12,oJ 14 QdA [7,13],oJ 15 QcO [6,14],oM 2 15] [2] []) <| .ret,[.t 2]⟩

def QaQ : C :=
 .seq (.seq (.seq (oR [oM 7 6,oM 8 0,oQq 9 8,oBb 10 .lss 7 9,oM 11 10,oHh 12 11 false 6,oHh 13 11 false 1,oG 14 11 false (.len (.t 13)),oG 15 11 false (.bin .lss (.t 12) (.t 14)),oA 16 (.pick (.t 11) (.c (.v (.bool true))) (.t 15))] [0,1,5,6,16] [[28]]) <| .cond (.t 16) (.skip) <| .seq (.keep [5] [[28]]) <| .exit 0) <| .seq (.seq (.blk 1 <| oR [oM 19 5,oM 20 0,oM 21 6,oJ 22 Qfk [20,21],oM 23 1,oM 24 6,oJ 25 Qfk [23,24],oJ 26 QcE [22,25],oA 27 (.lit 4 1 oZ4 [(0,(.t 26))] true),oA 28 (.app 4 64 (.t 19) (.t 27) false),oM 5 28] [0,1,5,6] [[28]]) <| .keep [0,1,5,6] [[28]]) <| oR [oM 17 6,oA 18 (.bin .add (.t 17) (oC 1)),oM 6 18] [0,1,5,6] [[28]]) <| .keep [0,1,5,6] [[28]]
def Qep : CF := ⟨2,.seq (oR [oA 4 (.mov (.c (.z true)))] [0,1] []) <| .seq (oR [oA 5 (.mov (.c (.z true)))] [0,1,5] [[28]]) <| .seq (.seq (oR [oA 6 (.mov (oC 0))] [0,1,5,6] [[28]]) <| .seq (.blk 0 <| .seq (.keep [0,1,5,6] [[28]]) <| .loop QaQ) <| .keep [5] [[28]]) <| .seq (.seq (.frz 5) <| oR [oM 29 5,oJ 30 Qar [29],oM 4 30] [4] []) <| .ret,[.t 4]⟩

def QfZ : CF := ⟨2,.seq (oR [oA 4 (.mov (.c (.z true)))] [0,1] []) <| .seq (oR [oM 5 0,oM 6 1,oA 7 (.call Qaq [(oC (-1)),(oC 1)] false),oJ 8 QcO [6,7],oJ 9 QeJ [5,8],oM 4 9] [4] []) <| .ret,[.t 4]⟩

def Qho : CF := ⟨2,.seq (oR [oA 3 (.new oZ4)] [0,1,3] [[3]]) <| .seq (oR [oDd 4 1,oM 5 0,oA 6 (.bin .add (.t 5) (oC 1)),oXx 7 4 4 6,oL 8 4 7,oM 9 0,oA 10 (.bin .add (.t 9) (oC 1)),oA 11 (.call Qgn [(.t 10),(oC 1)] false),oJ 12 Qfc [8,11],oPp 4 3 12] [3] [[3]]) <| .ret,[.cell 3 (some 4)]⟩

def Qfd : CF := ⟨1,.seq (oR [oEe 1 0,oA 2 (.mov (oC 0))] [1] [[1]]) <| .seq (.seq (.blk 0 <| .seq (oR [oNn 4 0 1,oDd 5 4,oM 3 5] [1,3] [[1]]) <| .cond (.t 3) (.seq (oR [oA 2 (.mov (oC (-1)))] [2] []) <| .ret) <| .seq (oR [oNn 7 1 1,oDd 8 7,oQq 9 8,oA 10 (.bin .eql (.t 9) (oC 0)),oM 6 10] [6] []) <| .cond (.t 6) (.seq (oR [oA 2 (.mov (oC 0))] [2] []) <| .ret) <| .skip) <| .keep [] []) <| .seq (oR [oA 2 (.mov (oC 1))] [2] []) <| .ret,[.t 2]⟩

def Qa5 : CF := ⟨1,.seq (oR [oEe 1 0,oA 2 (.mov (.c (.v (.nilFunc))))] [1] [[1]]) <| .seq (oR [oA 3 (.mkfn Qag [.t 1] true),oM 2 3] [2] []) <| .ret,[.t 2]⟩

def QfN : CF := ⟨2,.seq (oR [oEe 2 0,oEe 3 1,oA 4 (.new oZ4)] [2,3,4] [[2],[3],[4]]) <| .seq (.seq (oR [oNn 5 0 3,oDd 6 5] [2,3,4,6] [[2],[3],[4]]) <| .cond (.t 6) (oR [oL 7 2 2,oJ 8 QfF [7],oL 9 2 3,oJ 10 QfF [9],oPp 2 2 8,oPp 2 3 10] [2,3,4] [[2],[3],[4]]) <| .skip) <| .seq (.seq (oR [oL 11 2 3,oJ 12 Qki [11]] [2,3,4,12] [[2],[3],[4]]) <| .cond (.t 12) (.seq (oR [oL 13 2 2,oA 14 (.build oZ4 [(0,2,(.t 13))]),oPp 4 4 14] [4] [[4]]) <| .ret) <| .skip) <| .seq (oR [oL 15 2 2,oL 16 2 3,oA 17 (.build oZ4 [(0,2,(.t 15)),(2,2,(.t 16))]),oPp 4 4 17] [4] [[4]]) <| .ret,[.cell 4 (some 4)]⟩

def QnS : CF := ⟨1,.seq (oR [oEe 1 0,oA 2 (.new [.v (.bool false),.z true])] [1,2] [[1],[2]]) <| .seq (.seq (oR [oNn 3 2 1,oNn 4 1 3,oDd 5 4,oQq 6 5,oA 7 (.bin .eql (.t 6) (oC 0))] [1,2,7] [[1],[2]]) <| .cond (.t 7) (.seq (oR [oJ 8 Qn2 [],oPp 2 2 8] [2] [[2]]) <| .ret) <| .skip) <| .seq (oR [oNn 9 2 1,oL 10 2 9,oPp 2 2 10] [2] [[2]]) <| .ret,[.cell 2 (some 2)]⟩

def Qhr : CF := ⟨1,.seq (oR [oEe 1 0,oA 2 (.new [.v (.bool false),.z true])] [1,2] [[1],[2]]) <| .seq (oR [oNn 3 0 1,oDd 4 3,oA 5 (.un .not (.t 4)),oM 6 5,oG 7 6 true (.fad 1 (.t 1)),oG 8 6 true (.load none (.t 7)),oG 9 6 true (.len (.t 8)),oG 10 6 true (.bin .gtr (.t 9) (oC 0)),oA 11 (.pick (.t 6) (.t 10) (.c (.v (.bool false)))),oNn 12 0 1,oPp 1 12 11] [1,2] [[1],[2]]) <| .seq (oR [oL 13 2 1,oPp 2 2 13] [2] [[2]]) <| .ret,[.cell 2 (some 2)]⟩

def Qcy : CF := ⟨2,.seq (oR [oEe 2 0,oEe 3 1,oA 4 (.mov (oC 0))] [2,3] [[2],[3]]) <| .seq (.seq (.blk 0 <| .seq (oR [oNn 6 0 2,oDd 7 6,oNn 8 0 3,oDd 9 8,oA 10 (.binb true (.t 7) (.t 9)),oM 11 10,oG 12 11 true (.fad 0 (.t 2)),oG 13 11 true (.load none (.t 12)),oA 14 (.pick (.t 11) (.t 13) (.c (.v (.bool false)))),oM 5 14] [2,3,5] [[2],[3]]) <| .cond (.t 5) (.seq (oR [oA 4 (.mov (oC (-1)))] [4] []) <| .ret) <| .seq (oR [oNn 16 0 2,oDd 17 16,oNn 18 0 3,oDd 19 18,oA 20 (.binb true (.t 17) (.t 19)),oM 15 20] [2,3,15] [[2],[3]]) <| .cond (.t 15) (.seq (oR [oA 4 (.mov (oC 1))] [4] []) <| .ret) <| .seq (oR [oNn 22 0 2,oDd 23 22,oM 21 23] [2,3,21] [[2],[3]]) <| .cond (.t 21) (.seq (oR [oNn 24 1 3,oDd 25 24,oNn 26 1 2,oDd 27 26,oJ 28 QcD [25,27],oM 4 28] [4] []) <| .ret) <| .skip) <| .keep [2,3] [[2],[3]]) <| .seq (oR [oNn 29 1 2,oDd 30 29,oNn 31 1 3,oDd 32 31,oJ 33 QcD [30,32],oM 4 33] [4] []) <| .ret,[.t 4]⟩

def Qir : CF := ⟨1,.seq (oR [oA 2 (.new [.v (.bool false),.z true])] [0,2] [[2]]) <| .seq (oR [oM 4 0,oA 5 (.conv (.int .u64) (.t 4)),oM 3 5] [0,2,3] [[2]]) <| .seq (.seq (oR [oM 6 0,oA 7 (.bin .lss (.t 6) (oC 0))] [0,2,3,7] [[2]]) <| .cond (.t 7) (oR [oM 8 3,oA 9 (.un .neg (.t 8)),oM 3 9] [0,2,3] [[2]]) <| .skip) <| .seq (oR [oM 10 0,oA 11 (.bin .lss (.t 10) (oC 0)),oM 12 3,oJ 13 Qbv [11,12],oPp 2 2 13] [2] [[2]]) <| .ret,[.cell 2 (some 2)]⟩

def QcZ : C :=
 .seq (.seq (oR [oBb 57 .lss 56 55] [2,3,4,6,7,8,9,10,47,48,49,54,55,56,57] [[2],[3],[4],[46]]) <| .seq (.cond (.t 57) (.skip) <| .seq (.keep [2,3,4,6,7,8,10,47,48,49] [[2],[3],[4],[46]]) <| .exit 2) <| .seq (.seq (.blk 3 <| .seq (oR [oM 58 56,oXx 59 1 54 56,oDd 60 59,oM 11 58,oM 12 60] [2,3,4,6,7,8,9,10,11,12,47,48,49,54,55,56] [[2],[3],[4],[46]]) <| .seq (oR [oM 61 7,oM 62 8,oM 63 11,oBb 64 .add 62 63,oXx 65 1 61 64,oDd 66 65,oM 67 9,oM 68 12,oBb 69 .mul 67 68,oBb 70 .add 66 69,oM 71 10,oBb 72 .add 70 71,oM 13 72] [2,3,4,6,7,8,9,11,13,47,48,49,54,55,56] [[2],[3],[4],[46]]) <| .seq (oR [oM 73 13,oA 74 (.bin .quo (.t 73) (oC 1000000000)),oM 10 74] [2,3,4,6,7,8,9,10,11,13,47,48,49,54,55,56] [[2],[3],[4],[46]]) <| oR [oM 75 7,oM 76 8,oM 77 11,oBb 78 .add 76 77,oM 79 13,oM 80 10,oA 81 (.bin .mul (.t 80) (oC 1000000000)),oBb 82 .sub 79 81,oXx 83 1 75 78,oPp 1 83 82] [2,3,4,6,7,8,9,10,47,48,49,54,55,56] [[2],[3],[4],[46]]) <| .keep [2,3,4,6,7,8,9,10,47,48,49,54,55,56] [[2],[3],[4],[46]]) <| oR [oA 84 (.bin .add (.t 56) (oC 1)),oM 56 84] [2,3,4,6,7,8,9,10,47,48,49,54,55,56] [[2],[3],[4],[46]]) <| .keep [2,3,4,6,7,8,9,10,47,48,49,54,55,56] [[2],[3],[4],[46]]
def Qc0 : C :=
 .seq (.seq (oR [oBb 50 .lss 49 48] [2,3,4,6,7,47,48,49,50] [[2],[3],[4],[46]]) <| .seq (.cond (.t 50) (.skip) <| .seq (.keep [2,3,4,7] [[2],[3],[4],[46]]) <| .exit 0) <| .seq (.seq (.blk 1 <| .seq (oR [oM 51 49,oXx 52 1 47 49,oDd 53 52,oM 8 51,oM 9 53] [2,3,4,6,7,8,9,47,48,49] [[2],[3],[4],[46]]) <| .seq (oR [oA 10 (.mov (oC 0))] [2,3,4,6,7,8,9,10,47,48,49] [[2],[3],[4],[46]]) <| .seq (.seq (oR [oM 54 6,oQq 55 54,oA 56 (.mov (oC 0))] [2,3,4,6,7,8,9,10,47,48,49,54,55,56] [[2],[3],[4],[46]]) <| .seq (.blk 2 <| .seq (.keep [2,3,4,6,7,8,9,10,47,48,49,54,55,56] [[2],[3],[4],[46]]) <| .loop QcZ) <| .keep [2,3,4,6,7,8,10,47,48,49] [[2],[3],[4],[46]]) <| oR [oM 85 7,oM 86 8,oM 87 6,oQq 88 87,oBb 89 .add 86 88,oM 90 10,oXx 91 1 85 89,oPp 1 91 90] [2,3,4,6,7,47,48,49] [[2],[3],[4],[46]]) <| .keep [2,3,4,6,7,47,48,49] [[2],[3],[4],[46]]) <| oR [oA 92 (.bin .add (.t 49) (oC 1)),oM 49 92] [2,3,4,6,7,47,48,49] [[2],[3],[4],[46]]) <| .keep [2,3,4,6,7,47,48,49] [[2],[3],[4],[46]]
def QeX : CF := ⟨2,.seq (oR [oEe 2 0,oEe 3 1,oA 4 (.new [.v (.bool false),.z true])] [2,3,4] [[2],[3],[4]]) <| .seq (oR [oNn 14 1 2,oDd 15 14,oNn 16 1 3,oDd 17 16,oM 5 15,oM 6 17] [2,3,4,5,6] [[2],[3],[4]]) <| .seq (.seq (oR [oM 18 5,oQq 19 18,oA 20 (.bin .eql (.t 19) (oC 1)),oM 21 20,oHh 22 21 true 6,oG 23 21 true (.len (.t 22)),oG 24 21 true (.bin .eql (.t 23) (oC 1)),oA 25 (.pick (.t 21) (.t 24) (.c (.v (.bool false))))] [2,3,4,5,6,25] [[2],[3],[4]]) <| .cond (.t 25) (.seq (oR [oNn 26 0 2,oDd 27 26,oNn 28 0 3,oDd 29 28,oA 30 (.binb true (.t 27) (.t 29)),oM 31 5,oA 32 (.ixa 1 (.t 31) (oC 0)),oDd 33 32,oA 34 (.conv (.int .u64) (.t 33)),oM 35 6,oA 36 (.ixa 1 (.t 35) (oC 0)),oDd 37 36,oA 38 (.conv (.int .u64) (.t 37)),oBb 39 .mul 34 38,oJ 40 Qbv [30,39],oPp 2 4 40] [4] [[4]]) <| .ret) <| .skip) <| .seq (oR [oM 41 5,oQq 42 41,oM 43 6,oQq 44 43,oBb 45 .add 42 44,oA 46 (.mksl 1 8 [.v (.int .i64 0)] (.t 45) (.t 45)),oM 7 46] [2,3,4,5,6,7] [[2],[3],[4],[46]]) <| .seq (.seq (oR [oM 47 5,oQq 48 47,oA 49 (.mov (oC 0))] [2,3,4,6,7,47,48,49] [[2],[3],[4],[46]]) <| .seq (.blk 0 <| .seq (.keep [2,3,4,6,7,47,48,49] [[2],[3],[4],[46]]) <| .loop Qc0) <| .keep [2,3,4,7] [[2],[3],[4],[46]]) <| .seq (.seq (.frz 7) <| oR [oNn 93 0 2,oDd 94 93,oNn 95 0 3,oDd 96 95,oA 97 (.binb true (.t 94) (.t 96)),oM 98 7,oJ 99 Qbn [97,98],oPp 2 4 99] [4] [[4]]) <| .ret,[.cell 4 (some 2)]⟩

def Qf5 : CF := ⟨2,.seq (oR [oEe 2 0,oEe 3 1,oA 4 (.new [.v (.bool false),.z true])] [2,3,4] [[2],[3],[4]]) <| .seq (.seq (.blk 0 <| .seq (oR [oNn 6 0 2,oDd 7 6,oNn 8 0 3,oDd 9 8,oA 10 (.binb false (.t 7) (.t 9)),oM 5 10] [2,3,4,5] [[2],[3],[4]]) <| .cond (.t 5) (.seq (oR [oNn 11 0 2,oDd 12 11,oNn 13 1 2,oDd 14 13,oNn 15 1 3,oDd 16 15,oJ 17 QdJ [14,16],oJ 18 Qbn [12,17],oPp 2 4 18] [4] [[4]]) <| .ret) <| .seq (oR [oNn 20 1 2,oDd 21 20,oNn 22 1 3,oDd 23 22,oJ 24 QcD [21,23],oA 25 (.bin .lss (.t 24) (oC 0)),oM 19 25] [2,3,4,19] [[2],[3],[4]]) <| .cond (.t 19) (.seq (oR [oNn 26 0 3,oDd 27 26,oNn 28 1 3,oDd 29 28,oNn 30 1 2,oDd 31 30,oJ 32 Qeh [29,31],oJ 33 Qbn [27,32],oPp 2 4 33] [4] [[4]]) <| .ret) <| .skip) <| .keep [2,3,4] [[2],[3],[4]]) <| .seq (oR [oNn 34 0 2,oDd 35 34,oNn 36 1 2,oDd 37 36,oNn 38 1 3,oDd 39 38,oJ 40 Qeh [37,39],oJ 41 Qbn [35,40],oPp 2 4 41] [4] [[4]]) <| .ret,[.cell 4 (some 2)]⟩

def Qil : CF := ⟨2,.seq (oR [oEe 2 0,oEe 3 1,oA 4 (.new oZ4)] [2,3,4] [[2],[3],[4]]) <| .seq (.seq (oR [oNn 6 1 3,oDd 7 6,oQq 8 7,oA 9 (.bin .eql (.t 8) (oC 0)),oM 10 9,oG 11 10 false (.fad 1 (.t 2)),oG 12 10 false (.load none (.t 11)),oG 13 10 false (.len (.t 12)),oG 14 10 false (.bin .eql (.t 13) (oC 0)),oA 15 (.pick (.t 10) (.c (.v (.bool true))) (.t 14))] [2,3,4,15] [[2],[3],[4]]) <| .cond (.t 15) (.seq (oR [oA 16 (.build oZ4 []),oPp 4 4 16] [4] [[4]]) <| .ret) <| .skip) <| .seq (.seq (oR [oL 17 2 2,oL 18 2 3,oJ 19 Qju [17,18],oA 5 (.new [.v (.bool false),.z true]),oPp 2 5 19] [2,3,4,5] [[2],[3],[4],[5]]) <| .seq (oR [oL 20 2 5,oJ 21 Qki [20],oA 22 (.un .not (.t 21))] [2,3,4,5,22] [[2],[3],[4],[5]]) <| .cond (.t 22) (.seq (oR [oL 24 2 2,oL 25 2 5,oJ 26 Qg5 [24,25],oM 23 26,oA 27 (.ext (.t 23) 0),oA 28 (.ext (.t 23) 1),oPp 2 2 27] [2,3,4,5] [[2],[3],[4],[5]]) <| oR [oL 30 2 3,oL 31 2 5,oJ 32 Qg5 [30,31],oM 29 32,oA 33 (.ext (.t 29) 0),oA 34 (.ext (.t 29) 1),oPp 2 3 33] [2,3,4] [[2],[3],[4]]) <| .skip) <| .seq (oR [oL 35 2 2,oL 36 2 3,oJ 37 Qgv [35,36],oPp 4 4 37] [4] [[4]]) <| .ret,[.cell 4 (some 4)]⟩

def Qau : C :=
 .seq (.seq (.seq (oR [oM 19 5,oA 20 (.bin .geq (.t 19) (oC 0))] [0,1,5,20] []) <| .cond (.t 20) (.skip) <| .seq (.keep [] []) <| .exit 0) <| .seq (.seq (.blk 1 <| .seq (.seq (oR [oM 23 0,oM 24 5,oXx 25 1 23 24,oDd 26 25,oM 27 1,oM 28 5,oXx 29 1 27 28,oDd 30 29,oBb 31 .lss 26 30] [0,1,5,31] []) <| .cond (.t 31) (.seq (oR [oA 4 (.mov (oC (-1)))] [4] []) <| .ret) <| .skip) <| .seq (oR [oM 32 0,oM 33 5,oXx 34 1 32 33,oDd 35 34,oM 36 1,oM 37 5,oXx 38 1 36 37,oDd 39 38,oBb 40 .gtr 35 39] [0,1,5,40] []) <| .cond (.t 40) (.seq (oR [oA 4 (.mov (oC 1))] [4] []) <| .ret) <| .skip) <| .keep [0,1,5] []) <| oR [oM 21 5,oA 22 (.bin .sub (.t 21) (oC 1)),oM 5 22] [0,1,5] []) <| .keep [0,1,5] []
def Qa9 : CF := ⟨2,.seq (oR [oA 4 (.mov (oC 0))] [0,1] []) <| .seq (.seq (oR [oM 6 0,oQq 7 6,oM 8 1,oQq 9 8,oBb 10 .lss 7 9] [0,1,10] []) <| .cond (.t 10) (.seq (oR [oA 4 (.mov (oC (-1)))] [4] []) <| .ret) <| .skip) <| .seq (.seq (oR [oM 11 0,oQq 12 11,oM 13 1,oQq 14 13,oBb 15 .gtr 12 14] [0,1,15] []) <| .cond (.t 15) (.seq (oR [oA 4 (.mov (oC 1))] [4] []) <| .ret) <| .skip) <| .seq (.seq (oR [oM 16 0,oQq 17 16,oA 18 (.bin .sub (.t 17) (oC 1)),oM 5 18] [0,1,5] []) <| .seq (.blk 0 <| .seq (.keep [0,1,5] []) <| .loop Qau) <| .keep [] []) <| .seq (oR [oA 4 (.mov (oC 0))] [4] []) <| .ret,[.t 4]⟩

def QaU : C :=
 .seq (.seq (.seq (oR [oM 8 5,oA 9 (.bin .gtr (.t 8) (oC 0)),oM 10 9,oHh 11 10 true 1,oHh 12 10 true 5,oG 13 10 true (.bin .sub (.t 12) (oC 1)),oG 14 10 true (.mx [(.t 13),(oC 0)]),oG 15 10 true (.ixa 1 (.t 11) (.t 14)),oG 16 10 true (.load none (.t 15)),oG 17 10 true (.bin .eql (.t 16) (oC 0)),oA 18 (.pick (.t 10) (.t 17) (.c (.v (.bool false))))] [0,1,4,5,18] [[4]]) <| .cond (.t 18) (.skip) <| .seq (.keep [0,1,4,5] [[4]]) <| .exit 0) <| .seq (.blk 1 <| oR [oM 19 5,oA 20 (.bin .sub (.t 19) (oC 1)),oM 5 20] [0,1,4,5] [[4]]) <| .keep [0,1,4,5] [[4]]) <| .keep [0,1,4,5] [[4]]
def Qc4 : CF := ⟨2,.seq (oR [oA 4 (.new [.v (.bool false),.z true])] [0,1,4] [[4]]) <| .seq (oR [oM 6 1,oQq 7 6,oM 5 7] [0,1,4,5] [[4]]) <| .seq (.seq (.blk 0 <| .seq (.keep [0,1,4,5] [[4]]) <| .loop QaU) <| .keep [0,1,4,5] [[4]]) <| .seq (.seq (oR [oM 21 5,oA 22 (.bin .eql (.t 21) (oC 0))] [0,1,4,5,22] [[4]]) <| .cond (.t 22) (.seq (oR [oA 23 (.build [.v (.bool false),.z true] []),oPp 2 4 23] [4] [[4]]) <| .ret) <| .skip) <| .seq (oR [oM 24 0,oM 25 1,oM 26 5,oA 27 (.slc 1 (.t 25) none (some (.t 26)) none),oA 28 (.build [.v (.bool false),.z true] [(0,1,(.t 24)),(1,1,(.t 27))]),oPp 2 4 28] [4] [[4]]) <| .ret,[.cell 4 (some 2)]⟩

def Qcq : C :=
 .seq (.seq (.seq (oR [oM 38 8,oA 39 (.bin .gtr (.t 38) (oC 0))] [4,7,8,39] [[4]]) <| .cond (.t 39) (.skip) <| .seq (.keep [4,7] [[4]]) <| .exit 2) <| .seq (.blk 3 <| .seq (oR [oM 40 7,oM 41 8,oBb 42 .rem 40 41,oM 9 42] [4,8,9] [[4]]) <| .seq (oR [oM 43 8,oM 7 43] [4,7,9] [[4]]) <| oR [oM 44 9,oM 8 44] [4,7,8] [[4]]) <| .keep [4,7,8] [[4]]) <| .keep [4,7,8] [[4]]
def Qbd : C :=
 .seq (.seq (.seq (oR [oNn 18 1 6,oDd 19 18,oQq 20 19,oA 21 (.bin .gtr (.t 20) (oC 0))] [4,5,6,21] [[4],[5],[6]]) <| .cond (.t 21) (.skip) <| .seq (.keep [4,5] [[4],[5]]) <| .exit 0) <| .seq (.blk 1 <| .seq (.seq (oR [oNn 22 1 5,oDd 23 22,oQq 24 23,oA 25 (.bin .leq (.t 24) (oC 2)),oM 26 25,oG 27 26 true (.fad 1 (.t 6)),oG 28 26 true (.load none (.t 27)),oG 29 26 true (.len (.t 28)),oG 30 26 true (.bin .leq (.t 29) (oC 2)),oA 31 (.pick (.t 26) (.t 30) (.c (.v (.bool false))))] [4,5,6,31] [[4],[5],[6]]) <| .cond (.t 31) (.seq (oR [oNn 32 1 5,oDd 33 32,oJ 34 Qbu [33],oM 7 34] [4,6,7] [[4],[6]]) <| .seq (oR [oNn 35 1 6,oDd 36 35,oJ 37 Qbu [36],oM 8 37] [4,7,8] [[4]]) <| .seq (.seq (.blk 2 <| .seq (.keep [4,7,8] [[4]]) <| .loop Qcq) <| .keep [4,7] [[4]]) <| .seq (oR [oM 45 7,oJ 46 Qbz [45],oPp 2 4 46] [4] [[4]]) <| .ret) <| .skip) <| .seq (oR [oL 48 2 5,oL 49 2 6,oJ 50 Qdw [48,49],oM 47 50,oA 51 (.ext (.t 47) 0),oA 52 (.ext (.t 47) 1),oA 10 (.new [.v (.bool false),.z true]),oA 11 (.new [.v (.bool false),.z true]),oPp 2 10 51,oPp 2 11 52] [4,5,6,11] [[4],[5],[6],[11]]) <| .seq (oR [oL 53 2 6,oPp 2 5 53] [4,5,6,11] [[4],[5],[6],[11]]) <| oR [oL 54 2 11,oPp 2 6 54] [4,5,6] [[4],[5],[6]]) <| .keep [4,5,6] [[4],[5],[6]]) <| .keep [4,5,6] [[4],[5],[6]]
def Qer : CF := ⟨2,.seq (oR [oEe 2 0,oEe 3 1,oA 4 (.new [.v (.bool false),.z true])] [2,3,4] [[2],[3],[4]]) <| .seq (oR [oNn 12 1 2,oDd 13 12,oA 14 (.call Qam [(.c (.v (.bool false))),(.t 13)] false),oA 5 (.new [.v (.bool false),.z true]),oPp 2 5 14] [3,4,5] [[3],[4],[5]]) <| .seq (oR [oNn 15 1 3,oDd 16 15,oA 17 (.call Qam [(.c (.v (.bool false))),(.t 16)] false),oA 6 (.new [.v (.bool false),.z true]),oPp 2 6 17] [4,5,6] [[4],[5],[6]]) <| .seq (.seq (.blk 0 <| .seq (.keep [4,5,6] [[4],[5],[6]]) <| .loop Qbd) <| .keep [4,5] [[4],[5]]) <| .seq (oR [oL 55 2 5,oPp 2 4 55] [4] [[4]]) <| .ret,[.cell 4 (some 2)]⟩

def Qda : CF := ⟨2,.seq (oR [oEe 2 0,oEe 3 1,oA 4 (.new [.v (.bool false),.z true]),oA 5 (.new [.v (.bool false),.z true])] [2,3,4,5] [[2],[3],[4],[5]]) <| .seq (.seq (oR [oNn 10 1 3,oDd 11 10,oQq 12 11,oA 13 (.bin .eql (.t 12) (oC 0))] [2,3,4,5,13] [[2],[3],[4],[5]]) <| .cond (.t 13) (.seq (oR [oA 14 (.build [.v (.bool false),.z true] []),oA 15 (.build [.v (.bool false),.z true] []),oPp 2 4 14,oPp 2 5 15] [4,5] [[4],[5]]) <| .ret) <| .skip) <| .seq (oR [oNn 17 1 2,oDd 18 17,oNn 19 1 3,oDd 20 19,oJ 21 Qff [18,20],oM 16 21,oA 22 (.ext (.t 16) 0),oA 23 (.ext (.t 16) 1),oM 6 22,oM 7 23] [2,3,4,5,6,7] [[2],[3],[4],[5]]) <| .seq (oR [oNn 24 0 2,oDd 25 24,oNn 26 0 3,oDd 27 26,oA 28 (.binb true (.t 25) (.t 27)),oM 29 6,oJ 30 Qam [28,29],oA 8 (.new [.v (.bool false),.z true]),oPp 2 8 30] [2,3,4,5,7,8] [[2],[3],[4],[5],[8]]) <| .seq (oR [oM 31 7,oA 32 (.call Qam [(.c (.v (.bool false))),(.t 31)] false),oA 9 (.new [.v (.bool false),.z true]),oPp 2 9 32] [2,3,4,5,8,9] [[2],[3],[4],[5],[8],[9]]) <| .seq (.seq (oR [oNn 33 0 2,oDd 34 33,oM 35 34,oG 36 35 true (.fad 1 (.t 9)),oG 37 35 true (.load none (.t 36)),oG 38 35 true (.len (.t 37)),oG 39 35 true (.bin .gtr (.t 38) (oC 0)),oA 40 (.pick (.t 35) (.t 39) (.c (.v (.bool false))))] [2,3,4,5,8,9,40] [[2],[3],[4],[5],[8],[9]]) <| .cond (.t 40) (.seq (oR [oL 41 2 8,oNn 42 0 2,oDd 43 42,oNn 44 0 3,oDd 45 44,oA 46 (.binb true (.t 43) (.t 45)),oA 47 (.lit 1 1 [.v (.int .i64 0)] [(0,(oC 1))] true),oJ 48 Qam [46,47],oJ 49 QeD [41,48],oPp 2 8 49] [3,4,5,8,9] [[3],[4],[5],[8],[9]]) <| oR [oNn 50 1 3,oDd 51 50,oNn 52 1 9,oDd 53 52,oJ 54 Qb9 [51,53],oA 55 (.call Qam [(.c (.v (.bool false))),(.t 54)] false),oPp 2 9 55] [4,5,8,9] [[4],[5],[8],[9]]) <| .skip) <| .seq (.seq (.reg [oL 56 2 8,oL 57 2 9,oPp 2 4 56,oPp 2 5 57] [((.t 9),2,(.t 4),2)]) <| .keep [4,5] [[4],[5]]) <| .ret,[.cell 4 (some 2),.cell 5 (some 2)]⟩

def Qei : CF := ⟨1,.seq (oR [oEe 1 0,oA 2 (.mov (.c (.v (.bool false))))] [1] [[1]]) <| .seq (.seq (oR [oNn 3 0 1,oDd 4 3,oM 5 4,oG 6 5 false (.fad 1 (.t 1)),oG 7 5 false (.load none (.t 6)),oG 8 5 false (.len (.t 7)),oG 9 5 false (.bin .neq (.t 8) (oC 1)),oA 10 (.pick (.t 5) (.c (.v (.bool true))) (.t 9))] [1,10] [[1]]) <| .cond (.t 10) (.seq (oR [oA 2 (.mov (.c (.v (.bool false))))] [2] []) <| .ret) <| .skip) <| .seq (oR [oNn 11 1 1,oDd 12 11,oA 13 (.ixa 1 (.t 12) (oC 0)),oDd 14 13,oA 15 (.bin .eql (.t 14) (oC 1)),oM 2 15] [2] []) <| .ret,[.t 2]⟩

def QaY : C :=
 .seq (.seq (.seq (oR [oM 9 7,oM 10 0,oQq 11 10,oBb 12 .lss 9 11,oM 13 12,oHh 14 13 false 7,oHh 15 13 false 1,oG 16 13 false (.len (.t 15)),oG 17 13 false (.bin .lss (.t 14) (.t 16)),oA 18 (.pick (.t 13) (.c (.v (.bool true))) (.t 17)),oM 19 18,oHh 20 19 false 6,oG 21 19 false (.bin .gtr (.t 20) (oC 0)),oA 22 (.pick (.t 19) (.c (.v (.bool true))) (.t 21))] [0,1,5,6,7,22] [[38]]) <| .cond (.t 22) (.skip) <| .seq (.keep [5] [[38]]) <| .exit 0) <| .seq (.seq (.blk 1 <| .seq (oR [oM 25 0,oM 26 7,oJ 27 QbG [25,26],oM 28 1,oM 29 7,oJ 30 QbG [28,29],oBb 31 .add 27 30,oM 32 6,oBb 33 .add 31 32,oM 8 33] [0,1,5,7,8] [[38]]) <| .seq (oR [oM 34 5,oM 35 8,oA 36 (.bin .rem (.t 35) (oC 1000000000)),oA 37 (.lit 1 1 [.v (.int .i64 0)] [(0,(.t 36))] true),oA 38 (.app 1 8 (.t 34) (.t 37) false),oM 5 38] [0,1,5,7,8] [[38]]) <| oR [oM 39 8,oA 40 (.bin .quo (.t 39) (oC 1000000000)),oM 6 40] [0,1,5,6,7] [[38]]) <| .keep [0,1,5,6,7] [[38]]) <| oR [oM 23 7,oA 24 (.bin .add (.t 23) (oC 1)),oM 7 24] [0,1,5,6,7] [[38]]) <| .keep [0,1,5,6,7] [[38]]
def QdZ : CF := ⟨2,.seq (oR [oA 4 (.mov (.c (.z true)))] [0,1] []) <| .seq (oR [oA 5 (.mov (.c (.z true)))] [0,1,5] [[38]]) <| .seq (oR [oA 6 (.mov (oC 0))] [0,1,5,6] [[38]]) <| .seq (.seq (oR [oA 7 (.mov (oC 0))] [0,1,5,6,7] [[38]]) <| .seq (.blk 0 <| .seq (.keep [0,1,5,6,7] [[38]]) <| .loop QaY) <| .keep [5] [[38]]) <| .seq (oR [oM 41 5,oM 4 41] [4] [[38]]) <| .ret,[.t 4]⟩

def QaE : C :=
 .seq (.seq (.seq (oR [oM 9 7,oM 10 0,oQq 11 10,oBb 12 .lss 9 11] [0,1,5,6,7,12] [[32]]) <| .cond (.t 12) (.skip) <| .seq (.keep [5] [[32]]) <| .exit 0) <| .seq (.seq (.blk 1 <| .seq (oR [oM 15 0,oM 16 7,oXx 17 1 15 16,oDd 18 17,oM 19 1,oM 20 7,oJ 21 QbG [19,20],oBb 22 .sub 18 21,oM 23 6,oBb 24 .sub 22 23,oM 8 24] [0,1,5,7,8] [[32]]) <| .seq (oR [oA 6 (.mov (oC 0))] [0,1,5,6,7,8] [[32]]) <| .seq (.seq (oR [oM 25 8,oA 26 (.bin .lss (.t 25) (oC 0))] [0,1,5,6,7,8,26] [[32]]) <| .cond (.t 26) (.seq (oR [oM 27 8,oA 28 (.bin .add (.t 27) (oC 1000000000)),oM 8 28] [0,1,5,7,8] [[32]]) <| oR [oA 6 (.mov (oC 1))] [0,1,5,6,7,8] [[32]]) <| .skip) <| oR [oM 29 5,oM 30 8,oA 31 (.lit 1 1 [.v (.int .i64 0)] [(0,(.t 30))] true),oA 32 (.app 1 8 (.t 29) (.t 31) false),oM 5 32] [0,1,5,6,7] [[32]]) <| .keep [0,1,5,6,7] [[32]]) <| oR [oM 13 7,oA 14 (.bin .add (.t 13) (oC 1)),oM 7 14] [0,1,5,6,7] [[32]]) <| .keep [0,1,5,6,7] [[32]]
def QdC : CF := ⟨2,.seq (oR [oA 4 (.mov (.c (.z true)))] [0,1] []) <| .seq (oR [oA 5 (.mov (.c (.z true)))] [0,1,5] [[32]]) <| .seq (oR [oA 6 (.mov (oC 0))] [0,1,5,6] [[32]]) <| .seq (.seq (oR [oA 7 (.mov (oC 0))] [0,1,5,6,7] [[32]]) <| .seq (.blk 0 <| .seq (.keep [0,1,5,6,7] [[32]]) <| .loop QaE) <| .keep [5] [[32]]) <| .seq (oR [oM 33 5,oM 4 33] [4] [[32]]) <| .ret,[.t 4]⟩

def QpO : CF := ⟨2,.seq (oR [oEe 2 0,oEe 3 1,oA 4 (.new oZ4)] [2,3,4] [[2],[3],[4]]) <| .seq (oR [oL 5 4 2,oL 6 4 3,oJ 7 Qjp [6],oJ 8 QgR [5,7],oPp 4 4 8] [4] [[4]]) <| .ret,[.cell 4 (some 4)]⟩

def slices_AppendSeq_2_api_Rat_2_api_Rat_a0 : C :=
 oR [oA 5 (.new oZ8),oPp 8 5 7] [2,5] [[2],[5],[11]]
def slices_AppendSeq_2_api_Rat_2_api_Rat_b0 : C :=
 .seq (.blk 1 <| oR [oDd 8 2,oL 9 8 5,oA 10 (.lit 8 1 oZ8 [(0,(.t 9))] true),oA 11 (.app 8 128 (.t 8) (.t 10) false),oPp 1 2 11] [] [[2],[11]]) <| .keep [] [[2],[11]]
def QaP : CF := ⟨2,.seq (oR [oEe 2 0,oA 4 (.mov (.c (.z true)))] [1,2] [[2],[11]]) <| .seq (.seq (oR [oM 6 1] [2,6] [[2],[11]]) <| .seq (.blk 0 <| .seq (.rfn (.t 6) [7] slices_AppendSeq_2_api_Rat_2_api_Rat_a0 slices_AppendSeq_2_api_Rat_2_api_Rat_b0 [2] [[2]]) <| .keep [2] [[2],[11]]) <| .keep [2] [[2],[11]]) <| .seq (oR [oDd 12 2,oM 4 12] [4] [[11]]) <| .ret,[.t 4]⟩

def sturm_zeros_1 : CF := ⟨3,.seq (oR [oEe 3 0] [1,2,3] [[3]]) <| .seq (oR [oA 4 (.new [.v (.nilFunc)])] [1,2,3,4] [[3],[4]]) <| .seq (oR [oA 5 (.mkfn Qao [.t 1,.t 3,.t 4] true),oPp 1 4 5] [2,4] [[4]]) <| oR [oDd 6 4,oL 7 8 2,oA 8 (.calv (.t 6) [.t 7])] [] [],[]⟩

def sturm_zeros_1_1 : CF := ⟨4,.seq (oR [oEe 4 0,oA 5 (.mov (.c (.v (.bool false))))] [1,2,3,4] [[4]]) <| .seq (.seq (oR [oDd 7 1,oNn 8 0 4,oL 9 4 8,oNn 10 4 4,oL 11 4 10,oJ 12 Qf6 [7,9,11]] [2,3,4,12] [[4]]) <| .seq (.blk 0 <| .seq (oR [oA 14 (.bin .eql (.t 12) (oC 0)),oM 13 14] [2,3,4,12,13] [[4]]) <| .cond (.t 13) (.seq (oR [oA 5 (.mov (.c (.v (.bool true))))] [5] []) <| .ret) <| .seq (oR [oA 16 (.bin .eql (.t 12) (oC 1)),oM 15 16] [2,3,4,15] [[4]]) <| .cond (.t 15) (.seq (oR [oDd 17 2,oL 18 8 4,oA 19 (.calv (.t 17) [.t 18]),oM 5 19] [5] []) <| .ret) <| .skip) <| .keep [3,4] [[4]]) <| .seq (oR [oL 20 8 4,oJ 21 QgB [20],oA 6 (.new oZ4),oPp 4 6 21] [3,4,6] [[4],[6]]) <| .seq (oR [oDd 22 3,oNn 23 0 4,oL 24 4 23,oL 25 4 6,oA 26 (.build oZ8 [(0,4,(.t 24)),(4,4,(.t 25))]),oA 27 (.calv (.t 22) [.t 26]),oM 28 27,oG 29 28 true (.load none (.t 3)),oG 30 28 true (.load (some 4) (.t 6)),oG 31 28 true (.fad 4 (.t 4)),oG 32 28 true (.load (some 4) (.t 31)),oG 33 28 true (.build oZ8 [(0,4,(.t 30)),(4,4,(.t 32))]),oG 34 28 true (.calv (.t 29) [.t 33]),oA 35 (.pick (.t 28) (.t 34) (.c (.v (.bool false)))),oM 5 35] [5] []) <| .ret,[.t 5]⟩

def Qe2 : CF := ⟨2,.seq (oR [oA 4 (.new oZ4)] [0,1,4] [[4]]) <| .seq (.seq (oR [oM 5 1,oA 6 (.bin .lss (.t 5) (oC 0)),oM 7 6,oHh 8 7 false 1,oHh 9 7 false 0,oG 10 7 false (.len (.t 9)),oG 11 7 false (.bin .geq (.t 8) (.t 10)),oA 12 (.pick (.t 7) (.c (.v (.bool true))) (.t 11))] [0,1,4,12] [[4]]) <| .cond (.t 12) (.seq (oR [oA 13 (.build oZ4 []),oPp 4 4 13] [4] [[4]]) <| .ret) <| .skip) <| .seq (oR [oM 14 0,oM 15 1,oXx 16 4 14 15,oL 17 4 16,oPp 4 4 17] [4] [[4]]) <| .ret,[.cell 4 (some 4)]⟩

def slices_Backward_api_Poly_api_Rat_1_l0 : C :=
 .seq (.seq (.seq (oR [oM 7 3,oA 8 (.bin .geq (.t 7) (oC 0))] [0,1,3,8] []) <| .cond (.t 8) (.skip) <| .seq (.keep [] []) <| .exit 0) <| .seq (.seq (.blk 1 <| .seq (oR [oM 11 0,oM 12 3,oDd 13 1,oM 14 3,oXx 15 4 13 14,oL 16 4 15,oA 17 (.calv (.t 11) [.t 12,.t 16]),oA 18 (.un .not (.t 17))] [0,1,3,18] []) <| .cond (.t 18) (.ret) <| .skip) <| .keep [0,1,3] []) <| oR [oM 9 3,oA 10 (.bin .sub (.t 9) (oC 1)),oM 3 10] [0,1,3] []) <| .keep [0,1,3] []
def slices_Backward_api_Poly_api_Rat_1 : CF := ⟨2,.seq (oR [oDd 4 1,oQq 5 4,oA 6 (.bin .sub (.t 5) (oC 1)),oM 3 6] [0,1,3] []) <| .seq (.blk 0 <| .seq (.keep [0,1,3] []) <| .loop slices_Backward_api_Poly_api_Rat_1_l0) <| .keep [] [],[]⟩

def Qi7 : CF := ⟨1,.seq (oR [oEe 1 0,oA 2 (.mov (.c (.v (.bool false))))] [1] [[1]]) <| .seq (oR [oNn 3 0 1,oDd 4 3,oA 5 (.un .not (.t 4)),oM 6 5,oG 7 6 true (.fad 1 (.t 1)),oG 8 6 true (.load none (.t 7)),oG 9 6 true (.len (.t 8)),oG 10 6 true (.bin .eql (.t 9) (oC 1)),oA 11 (.pick (.t 6) (.t 10) (.c (.v (.bool false)))),oM 12 11,oG 13 12 true (.fad 1 (.t 1)),oG 14 12 true (.load none (.t 13)),oG 15 12 true (.ixa 1 (.t 14) (oC 0)),oG 16 12 true (.load none (.t 15)),oG 17 12 true (.bin .eql (.t 16) (oC 1)),oA 18 (.pick (.t 12) (.t 17) (.c (.v (.bool false)))),oM 2 18] [2] []) <| .ret,[.t 2]⟩

def QpD : CF := ⟨0,.seq (oR [oA 0 (.new [.v (.bool false),.z true])] [0] [[0]]) <| .seq (oR [oA 1 (.call Qd7 [(oC 1)] false),oPp 2 0 1] [0] [[0]]) <| .ret,[.cell 0 (some 2)]⟩

def Qba : C :=
 .seq (.seq (.seq (oR [oM 19 5,oA 20 (.bin .geq (.t 19) (oC 0))] [0,1,5,20] []) <| .cond (.t 20) (.skip) <| .seq (.keep [] []) <| .exit 0) <| .seq (.seq (.blk 1 <| .seq (oR [oM 23 0,oM 24 5,oXx 25 1 23 24,oDd 26 25,oM 27 1,oM 28 5,oXx 29 1 27 28,oDd 30 29,oBb 31 .neq 26 30] [0,1,5,31] []) <| .cond (.t 31) (.seq (oR [oM 32 0,oM 33 5,oXx 34 1 32 33,oDd 35 34,oM 36 1,oM 37 5,oXx 38 1 36 37,oDd 39 38,oJ 40 QeQ [35,39],oM 4 40] [4] []) <| .ret) <| .skip) <| .keep [0,1,5] []) <| oR [oM 21 5,oA 22 (.bin .sub (.t 21) (oC 1)),oM 5 22] [0,1,5] []) <| .keep [0,1,5] []
def Qdk : CF := ⟨2,.seq (oR [oA 4 (.mov (oC 0))] [0,1] []) <| .seq (.seq (oR [oM 6 0,oQq 7 6,oM 8 1,oQq 9 8,oBb 10 .neq 7 9] [0,1,10] []) <| .cond (.t 10) (.seq (oR [oM 11 0,oQq 12 11,oM 13 1,oQq 14 13,oJ 15 QeQ [12,14],oM 4 15] [4] []) <| .ret) <| .skip) <| .seq (.seq (oR [oM 16 0,oQq 17 16,oA 18 (.bin .sub (.t 17) (oC 1)),oM 5 18] [0,1,5] []) <| .seq (.blk 0 <| .seq (.keep [0,1,5] []) <| .loop Qba) <| .keep [] []) <| .seq (oR [oA 4 (.mov (oC 0))] [4] []) <| .ret,[.t 4]⟩

def Qcj : CF := ⟨2,.seq (oR [oA 4 (.new [.v (.bool false),.z true])] [0,1,4] [[4]]) <| .seq (.seq (.blk 0 <| .seq (oR [oM 6 1,oA 7 (.bin .eql (.t 6) (.c (.v (.int .u64 0)))),oM 5 7] [0,1,4,5] [[4]]) <| .cond (.t 5) (.seq (oR [oA 8 (.build [.v (.bool false),.z true] []),oPp 2 4 8] [4] [[4]]) <| .ret) <| .seq (oR [oM 10 1,oA 11 (.bin .lss (.t 10) (.c (.v (.int .u64 1000000000)))),oM 9 11] [0,1,4,9] [[4]]) <| .cond (.t 9) (.seq (oR [oM 12 0,oM 13 1,oA 14 (.conv (.int .i64) (.t 13)),oA 15 (.lit 1 1 [.v (.int .i64 0)] [(0,(.t 14))] true),oA 16 (.build [.v (.bool false),.z true] [(0,1,(.t 12)),(1,1,(.t 15))]),oPp 2 4 16] [4] [[4]]) <| .ret) <| .seq (oR [oM 18 1,oA 19 (.bin .lss (.t 18) (.c (.v (.int .u64 1000000000000000000)))),oM 17 19] [0,1,4,17] [[4]]) <| .cond (.t 17) (.seq (oR [oM 20 0,oM 21 1,oA 22 (.bin .rem (.t 21) (.c (.v (.int .u64 1000000000)))),oA 23 (.conv (.int .i64) (.t 22)),oM 24 1,oA 25 (.bin .quo (.t 24) (.c (.v (.int .u64 1000000000)))),oA 26 (.conv (.int .i64) (.t 25)),oA 27 (.lit 1 2 [.v (.int .i64 0)] [(0,(.t 23)),(1,(.t 26))] true),oA 28 (.build [.v (.bool false),.z true] [(0,1,(.t 20)),(1,1,(.t 27))]),oPp 2 4 28] [4] [[4]]) <| .ret) <| .skip) <| .keep [0,1,4] [[4]]) <| .seq (oR [oM 29 0,oM 30 1,oA 31 (.bin .rem (.t 30) (.c (.v (.int .u64 1000000000)))),oA 32 (.conv (.int .i64) (.t 31)),oM 33 1,oA 34 (.bin .quo (.t 33) (.c (.v (.int .u64 1000000000)))),oA 35 (.bin .rem (.t 34) (.c (.v (.int .u64 1000000000)))),oA 36 (.conv (.int .i64) (.t 35)),oM 37 1,oA 38 (.bin .quo (.t 37) (.c (.v (.int .u64 1000000000)))),oA 39 (.bin .quo (.t 38) (.c (.v (.int .u64 1000000000)))),oA 40 (.conv (.int .i64) (.t 39)),oA 41 (.lit 1 3 [.v (.int .i64 0)] [(0,(.t 32)),(1,(.t 36)),(2,(.t 40))] true),oA 42 (.build [.v (.bool false),.z true] [(0,1,(.t 29)),(1,1,(.t 41))]),oPp 2 4 42] [4] [[4]]) <| .ret,[.cell 4 (some 2)]⟩

def Qcl : C :=
 .seq (.seq (.seq (oR [oM 8 5,oA 9 (.bin .gtr (.t 8) (oC 0)),oM 10 9,oHh 11 10 true 1,oHh 12 10 true 5,oG 13 10 true (.bin .sub (.t 12) (oC 1)),oG 14 10 true (.ixa 1 (.t 11) (.t 13)),oG 15 10 true (.load none (.t 14)),oG 16 10 true (.bin .eql (.t 15) (oC 0)),oA 17 (.pick (.t 10) (.t 16) (.c (.v (.bool false))))] [0,1,4,5,17] [[4]]) <| .cond (.t 17) (.skip) <| .seq (.keep [0,1,4,5] [[4]]) <| .exit 0) <| .seq (.blk 1 <| oR [oM 18 5,oA 19 (.bin .sub (.t 18) (oC 1)),oM 5 19] [0,1,4,5] [[4]]) <| .keep [0,1,4,5] [[4]]) <| .keep [0,1,4,5] [[4]]
def Qih : CF := ⟨2,.seq (oR [oA 4 (.new [.v (.bool false),.z true])] [0,1,4] [[4]]) <| .seq (oR [oM 6 1,oQq 7 6,oM 5 7] [0,1,4,5] [[4]]) <| .seq (.seq (.blk 0 <| .seq (.keep [0,1,4,5] [[4]]) <| .loop Qcl) <| .keep [0,1,4,5] [[4]]) <| .seq (.seq (oR [oM 20 5,oA 21 (.bin .eql (.t 20) (oC 0))] [0,1,4,5,21] [[4]]) <| .cond (.t 21) (.seq (oR [oA 22 (.build [.v (.bool false),.z true] []),oPp 2 4 22] [4] [[4]]) <| .ret) <| .skip) <| .seq (oR [oM 23 0,oM 24 1,oM 25 5,oM 26 5,oA 27 (.slc 1 (.t 24) none (some (.t 25)) (some (.t 26))),oA 28 (.build [.v (.bool false),.z true] [(0,1,(.t 23)),(1,1,(.t 27))]),oPp 2 4 28] [4] [[4]]) <| .ret,[.cell 4 (some 2)]⟩

def Qbt : C :=
 .seq (.seq (oR [oBb 24 .lss 23 22] [0,1,5,6,21,22,23,24] [[20]]) <| .seq (.cond (.t 24) (.skip) <| .seq (.keep [0,5,6] [[20]]) <| .exit 0) <| .seq (.seq (.blk 1 <| .seq (oR [oM 25 23,oXx 26 1 21 23,oDd 27 26,oM 7 25,oM 8 27] [0,1,5,6,7,8,21,22,23] [[20]]) <| .seq (oR [oM 28 8,oM 29 6,oBb 30 .add 28 29,oM 9 30] [0,1,5,7,9,21,22,23] [[20]]) <| .seq (.seq (oR [oM 31 7,oM 32 1,oQq 33 32,oBb 34 .lss 31 33] [0,1,5,7,9,21,22,23,34] [[20]]) <| .cond (.t 34) (oR [oM 35 9,oM 36 1,oM 37 7,oXx 38 1 36 37,oDd 39 38,oBb 40 .add 35 39,oM 9 40] [0,1,5,7,9,21,22,23] [[20]]) <| .skip) <| .seq (oR [oA 6 (.mov (oC 0))] [0,1,5,6,7,9,21,22,23] [[20]]) <| .seq (.seq (oR [oM 41 9,oA 42 (.bin .geq (.t 41) (oC 1000000000))] [0,1,5,6,7,9,21,22,23,42] [[20]]) <| .cond (.t 42) (oR [oM 43 9,oA 44 (.bin .sub (.t 43) (oC 1000000000)),oM 9 44,oA 6 (.mov (oC 1))] [0,1,5,6,7,9,21,22,23] [[20]]) <| .skip) <| oR [oM 45 5,oM 46 7,oM 47 9,oXx 48 1 45 46,oPp 1 48 47] [0,1,5,6,21,22,23] [[20]]) <| .keep [0,1,5,6,21,22,23] [[20]]) <| oR [oA 49 (.bin .add (.t 23) (oC 1)),oM 23 49] [0,1,5,6,21,22,23] [[20]]) <| .keep [0,1,5,6,21,22,23] [[20]]
def Qe9 : CF := ⟨2,.seq (oR [oA 4 (.mov (.c (.z true)))] [0,1] []) <| .seq (.seq (oR [oM 10 0,oQq 11 10,oM 12 1,oQq 13 12,oBb 14 .lss 11 13] [0,1,14] []) <| .cond (.t 14) (oR [oM 15 1,oM 16 0,oM 0 15,oM 1 16] [0,1] []) <| .skip) <| .seq (oR [oM 17 0,oQq 18 17,oA 19 (.bin .add (.t 18) (oC 1)),oA 20 (.mksl 1 8 [.v (.int .i64 0)] (.t 19) (.t 19)),oM 5 20] [0,1,5] [[20]]) <| .seq (oR [oA 6 (.mov (oC 0))] [0,1,5,6] [[20]]) <| .seq (.seq (oR [oM 21 0,oQq 22 21,oA 23 (.mov (oC 0))] [0,1,5,6,21,22,23] [[20]]) <| .seq (.blk 0 <| .seq (.keep [0,1,5,6,21,22,23] [[20]]) <| .loop Qbt) <| .keep [0,5,6] [[20]]) <| .seq (oR [oM 50 5,oM 51 0,oQq 52 51,oM 53 6,oXx 54 1 50 52,oPp 1 54 53] [5] [[20]]) <| .seq (oR [oM 55 5,oM 4 55] [4] [[20]]) <| .ret,[.t 4]⟩

def Qa7 : C :=
 .seq (.seq (oR [oBb 16 .lss 15 14] [1,5,14,15,16] [[9]]) <| .seq (.cond (.t 16) (.skip) <| .seq (.keep [5] [[9]]) <| .exit 0) <| .seq (.seq (.blk 1 <| .seq (oR [oM 17 15,oM 6 17] [1,5,6,14,15] [[9]]) <| .seq (.seq (oR [oM 18 6,oM 19 1,oQq 20 19,oBb 21 .lss 18 20] [1,5,6,14,15,21] [[9]]) <| .cond (.t 21) (oR [oM 22 5,oM 23 6,oXx 24 1 22 23,oDd 25 24,oM 26 1,oM 27 6,oXx 28 1 26 27,oDd 29 28,oBb 30 .sub 25 29,oXx 31 1 22 23,oPp 1 31 30] [1,5,6,14,15] [[9]]) <| .skip) <| .seq (oR [oM 32 5,oM 33 6,oXx 34 1 32 33,oDd 35 34,oA 36 (.bin .lss (.t 35) (oC 0))] [1,5,6,14,15,36] [[9]]) <| .cond (.t 36) (.seq (oR [oM 37 5,oM 38 6,oXx 39 1 37 38,oDd 40 39,oA 41 (.bin .add (.t 40) (oC 1000000000)),oXx 42 1 37 38,oPp 1 42 41] [1,5,6,14,15] [[9]]) <| oR [oM 43 5,oM 44 6,oA 45 (.bin .add (.t 44) (oC 1)),oXx 46 1 43 45,oDd 47 46,oA 48 (.bin .sub (.t 47) (oC 1)),oXx 49 1 43 45,oPp 1 49 48] [1,5,14,15] [[9]]) <| .skip) <| .keep [1,5,14,15] [[9]]) <| oR [oA 50 (.bin .add (.t 15) (oC 1)),oM 15 50] [1,5,14,15] [[9]]) <| .keep [1,5,14,15] [[9]]
def Qhx : CF := ⟨2,.seq (oR [oA 4 (.mov (.c (.z true)))] [0,1] []) <| .seq (oR [oM 7 0,oQq 8 7,oA 9 (.mksl 1 8 [.v (.int .i64 0)] (.t 8) (.t 8)),oM 5 9] [0,1,5] [[9]]) <| .seq (oR [oM 10 5,oM 11 0,oA 12 (.cpy 1 (.t 10) (.t 11))] [1,5] [[9]]) <| .seq (.seq (oR [oM 13 5,oQq 14 13,oA 15 (.mov (oC 0))] [1,5,14,15] [[9]]) <| .seq (.blk 0 <| .seq (.keep [1,5,14,15] [[9]]) <| .loop Qa7) <| .keep [5] [[9]]) <| .seq (oR [oM 51 5,oM 4 51] [4] [[9]]) <| .ret,[.t 4]⟩

def QdO : C :=
 .seq (.seq (.seq (oR [oM 39 9,oA 40 (.bin .gtr (.t 39) (oC 0))] [4,7,9,40] [[4]]) <| .cond (.t 40) (.skip) <| .seq (.keep [4,7] [[4]]) <| .exit 2) <| .seq (.blk 3 <| oR [oM 41 9,oM 42 7,oM 43 9,oBb 44 .rem 42 43,oM 7 41,oM 9 44] [4,7,9] [[4]]) <| .keep [4,7,9] [[4]]) <| .keep [4,7,9] [[4]]
def QbL : C :=
 .seq (.seq (.seq (oR [oNn 19 1 6,oDd 20 19,oQq 21 20,oA 22 (.bin .gtr (.t 21) (oC 0))] [4,5,6,22] [[4],[5],[6]]) <| .cond (.t 22) (.skip) <| .seq (.keep [4,5] [[4],[5]]) <| .exit 0) <| .seq (.blk 1 <| .seq (oR [oNn 24 1 5,oDd 25 24,oJ 26 Qeg [25],oM 23 26,oA 27 (.ext (.t 23) 0),oA 28 (.ext (.t 23) 1),oM 7 27,oM 8 28] [4,5,6,7,8] [[4],[5],[6]]) <| .seq (oR [oNn 30 1 6,oDd 31 30,oJ 32 Qeg [31],oM 29 32,oA 33 (.ext (.t 29) 0),oA 34 (.ext (.t 29) 1),oM 9 33,oM 10 34] [4,5,6,7,8,9,10] [[4],[5],[6]]) <| .seq (.seq (oR [oM 35 8,oM 36 35,oHh 37 36 true 10,oA 38 (.pick (.t 36) (.t 37) (.c (.v (.bool false))))] [4,5,6,7,9,38] [[4],[5],[6]]) <| .cond (.t 38) (.seq (.seq (.blk 2 <| .seq (.keep [4,7,9] [[4]]) <| .loop QdO) <| .keep [4,7] [[4]]) <| .seq (oR [oM 45 7,oA 46 (.conv (.int .u64) (.t 45)),oA 47 (.call Qbv [(.c (.v (.bool false))),(.t 46)] false),oPp 2 4 47] [4] [[4]]) <| .ret) <| .skip) <| .seq (oR [oNn 49 1 5,oDd 50 49,oNn 51 1 6,oDd 52 51,oJ 53 Qfs [50,52],oM 48 53,oA 54 (.ext (.t 48) 0),oA 55 (.ext (.t 48) 1),oA 11 (.new [.v (.bool false),.z true]),oA 12 (.new [.v (.bool false),.z true]),oPp 2 11 54,oPp 2 12 55] [4,5,6,12] [[4],[5],[6],[12]]) <| .seq (.reg [oL 56 2 6,oL 57 2 12,oPp 2 5 56,oPp 2 6 57] [((.t 12),2,(.t 5),2)]) <| .keep [4,5,6] [[4],[5],[6]]) <| .keep [4,5,6] [[4],[5],[6]]) <| .keep [4,5,6] [[4],[5],[6]]
def Qhg : CF := ⟨2,.seq (oR [oEe 2 0,oEe 3 1,oA 4 (.new [.v (.bool false),.z true])] [2,3,4] [[2],[3],[4]]) <| .seq (oR [oNn 13 1 2,oDd 14 13,oA 15 (.call Qbn [(.c (.v (.bool false))),(.t 14)] false),oNn 16 1 3,oDd 17 16,oA 18 (.call Qbn [(.c (.v (.bool false))),(.t 17)] false),oA 5 (.new [.v (.bool false),.z true]),oA 6 (.new [.v (.bool false),.z true]),oPp 2 5 15,oPp 2 6 18] [4,5,6] [[4],[5],[6]]) <| .seq (.seq (.blk 0 <| .seq (.keep [4,5,6] [[4],[5],[6]]) <| .loop QbL) <| .keep [4,5] [[4],[5]]) <| .seq (oR [oL 58 2 5,oPp 2 4 58] [4] [[4]]) <| .ret,[.cell 4 (some 2)]⟩

def Qc9 : CF := ⟨2,.seq (oR [oEe 2 0,oEe 3 1,oA 4 (.new [.v (.bool false),.z true]),oA 5 (.new [.v (.bool false),.z true])] [2,3,4,5] [[2],[3],[4],[5]]) <| .seq (.seq (oR [oNn 8 1 3,oDd 9 8,oQq 10 9,oA 11 (.bin .eql (.t 10) (oC 0))] [2,3,4,5,11] [[2],[3],[4],[5]]) <| .cond (.t 11) (.seq (oR [oA 12 (.build [.v (.bool false),.z true] []),oA 13 (.build [.v (.bool false),.z true] []),oPp 2 4 12,oPp 2 5 13] [4,5] [[4],[5]]) <| .ret) <| .skip) <| .seq (oR [oNn 15 1 2,oDd 16 15,oNn 17 1 3,oDd 18 17,oJ 19 Qfs [16,18],oM 14 19,oA 20 (.ext (.t 14) 0),oA 21 (.ext (.t 14) 1),oA 6 (.new [.v (.bool false),.z true]),oA 7 (.new [.v (.bool false),.z true]),oPp 2 6 20,oPp 2 7 21] [2,3,4,5,6,7] [[2],[3],[4],[5],[6],[7]]) <| .seq (.seq (oR [oNn 22 0 2,oDd 23 22,oM 24 23,oG 25 24 true (.fad 1 (.t 7)),oG 26 24 true (.load none (.t 25)),oG 27 24 true (.len (.t 26)),oG 28 24 true (.bin .gtr (.t 27) (oC 0)),oA 29 (.pick (.t 24) (.t 28) (.c (.v (.bool false))))] [2,3,4,5,6,7,29] [[2],[3],[4],[5],[6],[7]]) <| .cond (.t 29) (.seq (oR [oNn 30 1 6,oDd 31 30,oA 32 (.lit 1 1 [.v (.int .i64 0)] [(0,(oC 1))] true),oJ 33 QdJ [31,32],oA 34 (.call Qbn [(.c (.v (.bool false))),(.t 33)] false),oPp 2 6 34] [2,3,4,5,6,7] [[2],[3],[4],[5],[6],[7]]) <| oR [oNn 35 1 3,oDd 36 35,oNn 37 1 7,oDd 38 37,oJ 39 Qeh [36,38],oA 40 (.call Qbn [(.c (.v (.bool false))),(.t 39)] false),oPp 2 7 40] [2,3,4,5,6,7] [[2],[3],[4],[5],[6],[7]]) <| .skip) <| .seq (oR [oNn 41 0 2,oDd 42 41,oNn 43 0 3,oDd 44 43,oA 45 (.binb true (.t 42) (.t 44)),oM 46 45,oG 47 46 true (.fad 1 (.t 6)),oG 48 46 true (.load none (.t 47)),oG 49 46 true (.len (.t 48)),oG 50 46 true (.bin .gtr (.t 49) (oC 0)),oA 51 (.pick (.t 46) (.t 50) (.c (.v (.bool false)))),oNn 52 0 6,oPp 1 52 51] [4,5,6,7] [[4],[5],[6],[7]]) <| .seq (.seq (.reg [oL 53 2 6,oL 54 2 7,oPp 2 4 53,oPp 2 5 54] [((.t 7),2,(.t 4),2)]) <| .keep [4,5] [[4],[5]]) <| .ret,[.cell 4 (some 2),.cell 5 (some 2)]⟩

def Qfm : CF := ⟨1,.seq (oR [oA 2 (.mov (oC 0))] [0] []) <| .seq (oR [oM 3 0,oA 4 (.call QbG [(.t 3),(oC 1)] false),oA 5 (.bin .mul (.t 4) (oC 1000000000)),oM 6 0,oA 7 (.call QbG [(.t 6),(oC 0)] false),oBb 8 .add 5 7,oM 2 8] [2] []) <| .ret,[.t 2]⟩
end Go.AM

set_option maxRecDepth 100000
namespace Go.AM
open Go Go.Proofs


def Qbf : C :=
 .seq (.seq (.seq (oR [oM 64 12,oM 65 13,oBb 66 .lss 64 65] [0,1,8,9,10,12,13,66] [[42]]) <| .cond (.t 66) (.skip) <| .seq (.keep [0,1,8,9,10,12] [[42]]) <| .exit 2) <| .seq (.blk 3 <| .seq (oR [oM 67 12,oM 68 13,oBb 69 .add 67 68,oA 70 (.bin .add (.t 69) (oC 1)),oA 71 (.bin .quo (.t 70) (oC 2)),oM 14 71] [0,1,8,9,10,12,13,14] [[42]]) <| .seq (oR [oM 72 1,oM 73 14,oJ 74 Qd6 [72,73],oM 75 9,oJ 76 Qbe [74,75],oA 77 (.bin .leq (.t 76) (oC 0))] [0,1,8,9,10,12,13,14,77] [[42]]) <| .cond (.t 77) (oR [oM 78 14,oM 12 78] [0,1,8,9,10,12,13] [[42]]) <| oR [oM 79 14,oA 80 (.bin .sub (.t 79) (oC 1)),oM 13 80] [0,1,8,9,10,12,13] [[42]]) <| .keep [0,1,8,9,10,12,13] [[42]]) <| .keep [0,1,8,9,10,12,13] [[42]]
def Qa4 : C :=
 .seq (.seq (.seq (oR [oM 46 10,oA 47 (.bin .geq (.t 46) (oC 0))] [0,1,8,9,10,47] [[42]]) <| .cond (.t 47) (.skip) <| .seq (.keep [8,9] [[42]]) <| .exit 0) <| .seq (.seq (.blk 1 <| .seq (oR [oM 50 0,oM 51 10,oXx 52 1 50 51,oDd 53 52,oA 54 (.lit 1 1 [.v (.int .i64 0)] [(0,(.t 53))] false),oM 55 9,oA 56 (.app 1 8 (.t 54) (.t 55) true),oA 57 (.call Qam [(.c (.v (.bool false))),(.t 56)] false),oA 11 (.new [.v (.bool false),.z true]),oPp 2 11 57] [0,1,8,10,11] [[11],[42]]) <| .seq (oR [oNn 58 1 11,oDd 59 58,oM 9 59] [0,1,8,9,10] [[42]]) <| .seq (oR [oA 12 (.mov (oC 0))] [0,1,8,9,10,12] [[42]]) <| .seq (oR [oA 13 (.mov (oC 999999999))] [0,1,8,9,10,12,13] [[42]]) <| .seq (.seq (oR [oM 60 9,oM 61 1,oJ 62 Qbe [60,61],oA 63 (.bin .lss (.t 62) (oC 0))] [0,1,8,9,10,12,13,63] [[42]]) <| .cond (.t 63) (oR [oA 13 (.mov (oC 0))] [0,1,8,9,10,12,13] [[42]]) <| .skip) <| .seq (.seq (.blk 2 <| .seq (.keep [0,1,8,9,10,12,13] [[42]]) <| .loop Qbf) <| .keep [0,1,8,9,10,12] [[42]]) <| .seq (oR [oM 81 9,oM 82 1,oM 83 12,oJ 84 Qd6 [82,83],oJ 85 Qb9 [81,84],oA 86 (.call Qam [(.c (.v (.bool false))),(.t 85)] false),oA 15 (.new [.v (.bool false),.z true]),oPp 2 15 86] [0,1,8,10,12,15] [[15],[42]]) <| .seq (oR [oM 87 8,oM 88 10,oM 89 12,oXx 90 1 87 88,oPp 1 90 89] [0,1,8,10,15] [[15],[42]]) <| oR [oNn 91 1 15,oDd 92 91,oM 9 92] [0,1,8,9,10] [[42]]) <| .keep [0,1,8,9,10] [[42]]) <| oR [oM 48 10,oA 49 (.bin .sub (.t 48) (oC 1)),oM 10 49] [0,1,8,9,10] [[42]]) <| .keep [0,1,8,9,10] [[42]]
def Qbj : CF := ⟨2,.seq (oR [oA 4 (.mov (.c (.z true))),oA 5 (.mov (.c (.z true)))] [0,1] []) <| .seq (.seq (oR [oM 16 0,oQq 17 16,oA 18 (.bin .leq (.t 17) (oC 2)),oM 19 18,oHh 20 19 true 1,oG 21 19 true (.len (.t 20)),oG 22 19 true (.bin .leq (.t 21) (oC 2)),oA 23 (.pick (.t 19) (.t 22) (.c (.v (.bool false))))] [0,1,23] []) <| .cond (.t 23) (.seq (oR [oM 24 0,oJ 25 Qbu [24],oM 26 1,oJ 27 Qbu [26],oBb 28 .quo 25 27,oJ 29 Qbz [28],oA 6 (.new [.v (.bool false),.z true]),oPp 2 6 29] [0,1,6] [[6]]) <| .seq (oR [oM 30 0,oJ 31 Qbu [30],oM 32 1,oJ 33 Qbu [32],oBb 34 .rem 31 33,oJ 35 Qbz [34],oA 7 (.new [.v (.bool false),.z true]),oPp 2 7 35] [6,7] [[6],[7]]) <| .seq (oR [oNn 36 1 6,oDd 37 36,oNn 38 1 7,oDd 39 38,oM 4 37,oM 5 39] [4,5] [[42]]) <| .ret) <| .skip) <| .seq (oR [oM 40 0,oQq 41 40,oA 42 (.mksl 1 8 [.v (.int .i64 0)] (.t 41) (.t 41)),oM 8 42] [0,1,8] [[42]]) <| .seq (oR [oA 9 (.mov (.c (.z true)))] [0,1,8,9] [[42]]) <| .seq (.seq (oR [oM 43 0,oQq 44 43,oA 45 (.bin .sub (.t 44) (oC 1)),oM 10 45] [0,1,8,9,10] [[42]]) <| .seq (.blk 0 <| .seq (.keep [0,1,8,9,10] [[42]]) <| .loop Qa4) <| .keep [8,9] [[42]]) <| .seq (oR [oM 93 8,oM 94 9,oM 4 93,oM 5 94] [4,5] [[42]]) <| .ret,[.t 4,.t 5]⟩

def Qdy : CF := ⟨2,.seq (oR [oA 4 (.mov (oC 0))] [0,1] []) <| .seq (.seq (oR [oM 5 1,oM 6 0,oQq 7 6,oBb 8 .lss 5 7] [0,1,8] []) <| .cond (.t 8) (.seq (oR [oM 9 0,oM 10 1,oXx 11 1 9 10,oDd 12 11,oM 4 12] [4] []) <| .ret) <| .skip) <| .seq (oR [oA 4 (.mov (oC 0))] [4] []) <| .ret,[.t 4]⟩

def Qdd : CF := ⟨2,.seq (oR [oA 4 (.mov (oC 0))] [0,1] []) <| .seq (oR [oM 7 0,oJ 8 Qf7 [7],oM 5 8] [0,1,5] []) <| .seq (oR [oM 9 1,oJ 10 Qf7 [9],oM 6 10] [0,1,5,6] []) <| .seq (.seq (oR [oM 11 5] [0,1,6,11] []) <| .cond (.t 11) (.seq (.seq (oR [oM 12 6] [12] []) <| .cond (.t 12) (.seq (oR [oA 4 (.mov (oC 0))] [4] []) <| .ret) <| .skip) <| .seq (oR [oA 4 (.mov (oC (-1)))] [4] []) <| .ret) <| .skip) <| .seq (.seq (oR [oM 13 6] [0,1,13] []) <| .cond (.t 13) (.seq (oR [oA 4 (.mov (oC 1))] [4] []) <| .ret) <| .skip) <| .seq (.seq (oR [oM 14 0,oM 15 1,oBb 16 .lss 14 15] [0,1,16] []) <| .cond (.t 16) (.seq (oR [oA 4 (.mov (oC (-1)))] [4] []) <| .ret) <| .skip) <| .seq (.seq (oR [oM 17 0,oM 18 1,oBb 19 .gtr 17 18] [19] []) <| .cond (.t 19) (.seq (oR [oA 4 (.mov (oC 1))] [4] []) <| .ret) <| .skip) <| .seq (oR [oA 4 (.mov (oC 0))] [4] []) <| .ret,[.t 4]⟩

def QeH : CF := ⟨1,.seq (oR [oA 2 (.mov (oC 0)),oA 3 (.mov (.c (.v (.bool false))))] [0] []) <| .seq (.seq (oR [oM 4 0,oQq 5 4] [0,5] []) <| .seq (.blk 0 <| .seq (oR [oA 7 (.bin .eql (.t 5) (oC 0)),oM 6 7] [0,5,6] []) <| .cond (.t 6) (.seq (oR [oA 2 (.mov (oC 0)),oA 3 (.mov (.c (.v (.bool true))))] [2,3] []) <| .ret) <| .seq (oR [oA 9 (.bin .eql (.t 5) (oC 1)),oM 8 9] [0,5,8] []) <| .cond (.t 8) (.seq (oR [oM 10 0,oA 11 (.ixa 1 (.t 10) (oC 0)),oDd 12 11,oM 2 12,oA 3 (.mov (.c (.v (.bool true))))] [2,3] []) <| .ret) <| .seq (oR [oA 14 (.bin .eql (.t 5) (oC 2)),oM 13 14] [0,13] []) <| .cond (.t 13) (.seq (oR [oM 15 0,oA 16 (.ixa 1 (.t 15) (oC 1)),oDd 17 16,oA 18 (.bin .mul (.t 17) (oC 1000000000)),oM 19 0,oA 20 (.ixa 1 (.t 19) (oC 0)),oDd 21 20,oBb 22 .add 18 21,oM 2 22,oA 3 (.mov (.c (.v (.bool true))))] [2,3] []) <| .ret) <| .skip) <| .keep [] []) <| .seq (oR [oA 2 (.mov (oC 0)),oA 3 (.mov (.c (.v (.bool false))))] [2,3] []) <| .ret,[.t 2,.t 3]⟩

def Qb5 : CF := ⟨2,.seq (oR [oA 4 (.new [.v (.bool false),.z true]),oA 5 (.new [.v (.bool false),.z true])] [0,1,4,5] [[4],[5]]) <| .seq (.seq (oR [oM 15 0,oJ 16 Qeg [15],oM 14 16,oA 17 (.ext (.t 14) 0),oA 18 (.ext (.t 14) 1),oM 6 17,oM 7 18] [0,1,4,5,6,7] [[4],[5]]) <| .seq (oR [oM 19 7] [0,1,4,5,6,19] [[4],[5]]) <| .cond (.t 19) (.seq (oR [oM 21 1,oJ 22 Qeg [21],oM 20 22,oA 23 (.ext (.t 20) 0),oA 24 (.ext (.t 20) 1),oM 8 23,oM 9 24] [0,1,4,5,6,8,9] [[4],[5]]) <| .seq (oR [oM 25 9] [0,1,4,5,6,8,25] [[4],[5]]) <| .cond (.t 25) (.seq (oR [oM 26 6,oM 27 8,oBb 28 .quo 26 27,oA 29 (.conv (.int .u64) (.t 28)),oA 30 (.call Qbv [(.c (.v (.bool false))),(.t 29)] false),oM 31 6,oM 32 8,oBb 33 .rem 31 32,oA 34 (.conv (.int .u64) (.t 33)),oA 35 (.call Qbv [(.c (.v (.bool false))),(.t 34)] false),oPp 2 4 30,oPp 2 5 35] [4,5] [[4],[5]]) <| .ret) <| .skip) <| .skip) <| .seq (.seq (oR [oM 36 0,oM 37 1,oJ 38 QcD [36,37],oA 39 (.bin .lss (.t 38) (oC 0))] [0,1,4,5,39] [[4],[5]]) <| .cond (.t 39) (.seq (oR [oA 40 (.build [.v (.bool false),.z true] []),oM 41 0,oA 42 (.call Qbn [(.c (.v (.bool false))),(.t 41)] false),oPp 2 4 40,oPp 2 5 42] [4,5] [[4],[5]]) <| .ret) <| .skip) <| .seq (.seq (oR [oM 43 1,oQq 44 43,oA 45 (.bin .eql (.t 44) (oC 1))] [0,1,4,5,45] [[4],[5]]) <| .cond (.t 45) (.seq (oR [oM 47 0,oM 48 1,oA 49 (.ixa 1 (.t 48) (oC 0)),oDd 50 49,oJ 51 Qf4 [47,50],oM 46 51,oA 52 (.ext (.t 46) 0),oA 53 (.ext (.t 46) 1),oM 10 52,oM 11 53] [4,5,10,11] [[4],[5]]) <| .seq (oR [oM 54 10,oA 55 (.call Qbn [(.c (.v (.bool false))),(.t 54)] false),oM 56 11,oA 57 (.conv (.int .u64) (.t 56)),oA 58 (.call Qbv [(.c (.v (.bool false))),(.t 57)] false),oPp 2 4 55,oPp 2 5 58] [4,5] [[4],[5]]) <| .ret) <| .skip) <| .seq (oR [oM 60 0,oM 61 1,oJ 62 Qiz [60,61],oM 59 62,oA 63 (.ext (.t 59) 0),oA 64 (.ext (.t 59) 1),oM 12 63,oM 13 64] [4,5,12,13] [[4],[5]]) <| .seq (oR [oM 65 12,oA 66 (.call Qbn [(.c (.v (.bool false))),(.t 65)] false),oM 67 13,oA 68 (.call Qbn [(.c (.v (.bool false))),(.t 67)] false),oPp 2 4 66,oPp 2 5 68] [4,5] [[4],[5]]) <| .ret,[.cell 4 (some 2),.cell 5 (some 2)]⟩

def QeE : CF := ⟨2,.seq (oR [oA 4 (.mov (.c (.z true)))] [0,1] []) <| .seq (oR [oM 6 0,oA 7 (.call Qam [(.c (.v (.bool false))),(.t 6)] false),oM 8 1,oJ 9 Qbz [8],oJ 10 QaN [7,9],oA 5 (.new [.v (.bool false),.z true]),oPp 2 5 10] [5] [[5]]) <| .seq (oR [oNn 11 1 5,oDd 12 11,oM 4 12] [4] []) <| .ret,[.t 4]⟩

def Qhv : CF := ⟨1,.seq (oR [oA 2 (.mov (.c (.v (.bool false))))] [0] []) <| .seq (oR [oM 3 0,oM 4 0,oBb 5 .neq 3 4,oM 2 5] [2] []) <| .ret,[.t 2]⟩

def Qck : C :=
 .seq (.seq (.seq (oR [oM 16 8,oA 17 (.bin .geq (.t 16) (oC 0))] [0,1,6,7,8,17] [[12]]) <| .cond (.t 17) (.skip) <| .seq (.keep [6,7] [[12]]) <| .exit 0) <| .seq (.seq (.blk 1 <| .seq (oR [oM 20 7,oA 21 (.bin .mul (.t 20) (oC 1000000000)),oM 22 0,oM 23 8,oXx 24 1 22 23,oDd 25 24,oBb 26 .add 21 25,oM 9 26] [0,1,6,8,9] [[12]]) <| oR [oM 27 6,oM 28 8,oM 29 9,oM 30 1,oBb 31 .quo 29 30,oM 32 9,oM 33 1,oBb 34 .rem 32 33,oXx 35 1 27 28,oPp 1 35 31,oM 7 34] [0,1,6,7,8] [[12]]) <| .keep [0,1,6,7,8] [[12]]) <| oR [oM 18 8,oA 19 (.bin .sub (.t 18) (oC 1)),oM 8 19] [0,1,6,7,8] [[12]]) <| .keep [0,1,6,7,8] [[12]]
def Qha : CF := ⟨2,.seq (oR [oA 4 (.mov (.c (.z true))),oA 5 (.mov (oC 0))] [0,1] []) <| .seq (oR [oM 10 0,oQq 11 10,oA 12 (.mksl 1 8 [.v (.int .i64 0)] (.t 11) (.t 11)),oM 6 12] [0,1,6] [[12]]) <| .seq (oR [oA 7 (.mov (oC 0))] [0,1,6,7] [[12]]) <| .seq (.seq (oR [oM 13 0,oQq 14 13,oA 15 (.bin .sub (.t 14) (oC 1)),oM 8 15] [0,1,6,7,8] [[12]]) <| .seq (.blk 0 <| .seq (.keep [0,1,6,7,8] [[12]]) <| .loop Qck) <| .keep [6,7] [[12]]) <| .seq (oR [oM 36 6,oM 37 7,oM 4 36,oM 5 37] [4,5] [[12]]) <| .ret,[.t 4,.t 5]⟩

def Qbh : C :=
 .seq (.seq (.seq (oR [oM 84 13,oA 85 (.bin .geq (.t 84) (oC 1000000000)),oM 86 85,oHh 87 86 false 13,oHh 88 86 false 8,oHh 89 86 false 9,oG 90 86 false (.bin .sub (.t 89) (oC 2)),oG 91 86 false (.ixa 1 (.t 88) (.t 90)),oG 92 86 false (.load none (.t 91)),oG 93 86 false (.bin .mul (.t 87) (.t 92)),oHh 94 86 false 14,oG 95 86 false (.bin .mul (.t 94) (oC 1000000000)),oHh 96 86 false 7,oHh 97 86 false 11,oHh 98 86 false 9,oG 99 86 false (.bin .add (.t 97) (.t 98)),oG 100 86 false (.bin .sub (.t 99) (oC 2)),oG 101 86 false (.ixa 1 (.t 96) (.t 100)),oG 102 86 false (.load none (.t 101)),oG 103 86 false (.bin .add (.t 95) (.t 102)),oG 104 86 false (.bin .gtr (.t 93) (.t 103)),oA 105 (.pick (.t 86) (.c (.v (.bool true))) (.t 104))] [6,7,8,9,10,11,13,14,105] [[32],[46]]) <| .cond (.t 105) (.skip) <| .seq (.keep [6,7,8,9,10,11,13] [[32],[46]]) <| .exit 2) <| .seq (.blk 3 <| .seq (oR [oM 106 13,oA 107 (.bin .sub (.t 106) (oC 1)),oM 13 107] [6,7,8,9,10,11,13,14] [[32],[46]]) <| .seq (oR [oM 108 14,oM 109 8,oM 110 9,oA 111 (.bin .sub (.t 110) (oC 1)),oXx 112 1 109 111,oDd 113 112,oBb 114 .add 108 113,oM 14 114] [6,7,8,9,10,11,13,14] [[32],[46]]) <| .seq (oR [oM 115 14,oA 116 (.bin .geq (.t 115) (oC 1000000000))] [6,7,8,9,10,11,13,14,116] [[32],[46]]) <| .cond (.t 116) (.seq (.keep [6,7,8,9,10,11,13] [[32],[46]]) <| .exit 2) <| .skip) <| .keep [6,7,8,9,10,11,13,14] [[32],[46]]) <| .keep [6,7,8,9,10,11,13,14] [[32],[46]]
def Qcd : C :=
 .seq (.seq (oR [oBb 119 .lss 118 117] [6,7,8,9,10,11,13,15,117,118,119] [[32],[46]]) <| .seq (.cond (.t 119) (.skip) <| .seq (.keep [6,7,8,9,10,11,13,15] [[32],[46]]) <| .exit 4) <| .seq (.seq (.blk 5 <| .seq (oR [oM 120 118,oM 16 120] [6,7,8,9,10,11,13,15,16,117,118] [[32],[46]]) <| .seq (oR [oM 121 7,oM 122 16,oM 123 11,oBb 124 .add 122 123,oXx 125 1 121 124,oDd 126 125,oM 127 13,oM 128 8,oM 129 16,oXx 130 1 128 129,oDd 131 130,oBb 132 .mul 127 131,oBb 133 .sub 126 132,oM 134 15,oBb 135 .sub 133 134,oM 17 135] [6,7,8,9,10,11,13,16,17,117,118] [[32],[46]]) <| .seq (oR [oA 15 (.mov (oC 0))] [6,7,8,9,10,11,13,15,16,17,117,118] [[32],[46]]) <| .seq (.seq (oR [oM 136 17,oA 137 (.bin .lss (.t 136) (oC 0))] [6,7,8,9,10,11,13,15,16,17,117,118,137] [[32],[46]]) <| .cond (.t 137) (.seq (oR [oM 138 17,oA 139 (.un .neg (.t 138)),oA 140 (.bin .add (.t 139) (oC 1000000000)),oA 141 (.bin .sub (.t 140) (oC 1)),oA 142 (.bin .quo (.t 141) (oC 1000000000)),oM 15 142] [6,7,8,9,10,11,13,15,16,17,117,118] [[32],[46]]) <| oR [oM 143 17,oM 144 15,oA 145 (.bin .mul (.t 144) (oC 1000000000)),oBb 146 .add 143 145,oM 17 146] [6,7,8,9,10,11,13,15,16,17,117,118] [[32],[46]]) <| .skip) <| oR [oM 147 7,oM 148 16,oM 149 11,oBb 150 .add 148 149,oM 151 17,oXx 152 1 147 150,oPp 1 152 151] [6,7,8,9,10,11,13,15,117,118] [[32],[46]]) <| .keep [6,7,8,9,10,11,13,15,117,118] [[32],[46]]) <| oR [oA 153 (.bin .add (.t 118) (oC 1)),oM 118 153] [6,7,8,9,10,11,13,15,117,118] [[32],[46]]) <| .keep [6,7,8,9,10,11,13,15,117,118] [[32],[46]]
def QcF : C :=
 .seq (.seq (oR [oBb 174 .lss 173 172] [6,7,8,9,10,11,13,15,172,173,174] [[32],[46]]) <| .seq (.cond (.t 174) (.skip) <| .seq (.keep [6,7,8,9,10,11,13,15] [[32],[46]]) <| .exit 6) <| .seq (.seq (.blk 7 <| .seq (oR [oM 175 173,oM 18 175] [6,7,8,9,10,11,13,15,18,172,173] [[32],[46]]) <| .seq (oR [oM 176 7,oM 177 18,oM 178 11,oBb 179 .add 177 178,oXx 180 1 176 179,oDd 181 180,oM 182 8,oM 183 18,oXx 184 1 182 183,oDd 185 184,oBb 186 .add 181 185,oM 187 15,oBb 188 .add 186 187,oM 19 188] [6,7,8,9,10,11,13,18,19,172,173] [[32],[46]]) <| oR [oM 189 7,oM 190 18,oM 191 11,oBb 192 .add 190 191,oM 193 19,oA 194 (.bin .rem (.t 193) (oC 1000000000)),oM 195 19,oA 196 (.bin .quo (.t 195) (oC 1000000000)),oXx 197 1 189 192,oPp 1 197 194,oM 15 196] [6,7,8,9,10,11,13,15,172,173] [[32],[46]]) <| .keep [6,7,8,9,10,11,13,15,172,173] [[32],[46]]) <| oR [oA 198 (.bin .add (.t 173) (oC 1)),oM 173 198] [6,7,8,9,10,11,13,15,172,173] [[32],[46]]) <| .keep [6,7,8,9,10,11,13,15,172,173] [[32],[46]]
def Qce : C :=
 .seq (.seq (.seq (oR [oM 51 11,oA 52 (.bin .geq (.t 51) (oC 0))] [6,7,8,9,10,11,52] [[32],[46]]) <| .cond (.t 52) (.skip) <| .seq (.keep [6,7,9,10] [[32],[46]]) <| .exit 0) <| .seq (.seq (.blk 1 <| .seq (oR [oM 55 7,oM 56 11,oM 57 9,oBb 58 .add 56 57,oXx 59 1 55 58,oDd 60 59,oA 61 (.bin .mul (.t 60) (oC 1000000000)),oM 62 7,oM 63 11,oM 64 9,oBb 65 .add 63 64,oA 66 (.bin .sub (.t 65) (oC 1)),oXx 67 1 62 66,oDd 68 67,oBb 69 .add 61 68,oM 12 69] [6,7,8,9,10,11,12] [[32],[46]]) <| .seq (oR [oM 70 12,oM 71 8,oM 72 9,oA 73 (.bin .sub (.t 72) (oC 1)),oXx 74 1 71 73,oDd 75 74,oBb 76 .quo 70 75,oM 77 12,oM 78 8,oM 79 9,oA 80 (.bin .sub (.t 79) (oC 1)),oXx 81 1 78 80,oDd 82 81,oBb 83 .rem 77 82,oM 13 76,oM 14 83] [6,7,8,9,10,11,13,14] [[32],[46]]) <| .seq (.skip) <| .seq (.seq (.blk 2 <| .seq (.keep [6,7,8,9,10,11,13,14] [[32],[46]]) <| .loop Qbh) <| .keep [6,7,8,9,10,11,13] [[32],[46]]) <| .seq (oR [oA 15 (.mov (oC 0))] [6,7,8,9,10,11,13,15] [[32],[46]]) <| .seq (.seq (oR [oM 117 9,oA 118 (.mov (oC 0))] [6,7,8,9,10,11,13,15,117,118] [[32],[46]]) <| .seq (.blk 4 <| .seq (.keep [6,7,8,9,10,11,13,15,117,118] [[32],[46]]) <| .loop Qcd) <| .keep [6,7,8,9,10,11,13,15] [[32],[46]]) <| .seq (.seq (oR [oM 154 7,oM 155 11,oM 156 9,oBb 157 .add 155 156,oXx 158 1 154 157,oDd 159 158,oM 160 15,oBb 161 .sub 159 160,oXx 162 1 154 157,oPp 1 162 161] [6,7,8,9,10,11,13] [[32],[46]]) <| .seq (oR [oM 163 7,oM 164 11,oM 165 9,oBb 166 .add 164 165,oXx 167 1 163 166,oDd 168 167,oA 169 (.bin .lss (.t 168) (oC 0))] [6,7,8,9,10,11,13,169] [[32],[46]]) <| .cond (.t 169) (.seq (oR [oM 170 13,oA 171 (.bin .sub (.t 170) (oC 1)),oM 13 171] [6,7,8,9,10,11,13] [[32],[46]]) <| .seq (oR [oA 15 (.mov (oC 0))] [6,7,8,9,10,11,13,15] [[32],[46]]) <| .seq (.seq (oR [oM 172 9,oA 173 (.mov (oC 0))] [6,7,8,9,10,11,13,15,172,173] [[32],[46]]) <| .seq (.blk 6 <| .seq (.keep [6,7,8,9,10,11,13,15,172,173] [[32],[46]]) <| .loop QcF) <| .keep [6,7,8,9,10,11,13,15] [[32],[46]]) <| oR [oM 199 7,oM 200 11,oM 201 9,oBb 202 .add 200 201,oXx 203 1 199 202,oDd 204 203,oM 205 15,oBb 206 .add 204 205,oXx 207 1 199 202,oPp 1 207 206] [6,7,8,9,10,11,13] [[32],[46]]) <| .skip) <| oR [oM 208 10,oM 209 11,oM 210 13,oXx 211 1 208 209,oPp 1 211 210] [6,7,8,9,10,11] [[32],[46]]) <| .keep [6,7,8,9,10,11] [[32],[46]]) <| oR [oM 53 11,oA 54 (.bin .sub (.t 53) (oC 1)),oM 11 54] [6,7,8,9,10,11] [[32],[46]]) <| .keep [6,7,8,9,10,11] [[32],[46]]
def QhL : CF := ⟨2,.seq (oR [oA 4 (.mov (.c (.z true))),oA 5 (.mov (.c (.z true)))] [0,1] []) <| .seq (oR [oM 22 1,oM 23 1,oQq 24 23,oA 25 (.bin .sub (.t 24) (oC 1)),oXx 26 1 22 25,oDd 27 26,oA 28 (.bin .add (.t 27) (oC 1)),oA 29 (.bin .quo (oC 1000000000) (.t 28)),oM 6 29] [0,1,6] []) <| .seq (oR [oM 30 0,oM 31 6,oA 32 (.call Qfj [.t 30,.t 31] true),oM 33 1,oM 34 6,oJ 35 Qfj [33,34],oM 36 1,oQq 37 36,oA 38 (.slc 1 (.t 35) none (some (.t 37)) none),oM 7 32,oM 8 38] [0,1,6,7,8] [[32]]) <| .seq (oR [oM 39 1,oQq 40 39,oM 9 40] [0,6,7,8,9] [[32]]) <| .seq (oR [oM 41 0,oQq 42 41,oM 43 9,oBb 44 .sub 42 43,oA 45 (.bin .add (.t 44) (oC 1)),oA 46 (.mksl 1 8 [.v (.int .i64 0)] (.t 45) (.t 45)),oM 10 46] [0,6,7,8,9,10] [[32],[46]]) <| .seq (.seq (oR [oM 47 0,oQq 48 47,oM 49 9,oBb 50 .sub 48 49,oM 11 50] [6,7,8,9,10,11] [[32],[46]]) <| .seq (.blk 0 <| .seq (.keep [6,7,8,9,10,11] [[32],[46]]) <| .loop Qce) <| .keep [6,7,9,10] [[32],[46]]) <| .seq (.seq (.frz 7) <| oR [oM 213 7,oM 214 9,oA 215 (.slc 1 (.t 213) none (some (.t 214)) none),oM 216 6,oJ 217 Qf4 [215,216],oM 212 217,oA 218 (.ext (.t 212) 0),oA 219 (.ext (.t 212) 1),oM 20 218,oM 21 219] [10,20] [[46]]) <| .seq (oR [oM 220 10,oM 221 20,oM 4 220,oM 5 221] [4,5] [[46]]) <| .ret,[.t 4,.t 5]⟩

def Qb7 : C :=
 .seq (.seq (oR [oBb 17 .lss 16 15] [0,1,5,6,14,15,16,17] [[13]]) <| .seq (.cond (.t 17) (.skip) <| .seq (.keep [0,5,6] [[13]]) <| .exit 0) <| .seq (.seq (.blk 1 <| .seq (oR [oM 18 16,oXx 19 1 14 16,oDd 20 19,oM 7 18,oM 8 20] [0,1,5,6,7,8,14,15,16] [[13]]) <| .seq (oR [oM 21 8,oM 22 1,oBb 23 .mul 21 22,oM 24 6,oBb 25 .add 23 24,oM 9 25] [0,1,5,7,9,14,15,16] [[13]]) <| oR [oM 26 5,oM 27 7,oM 28 9,oA 29 (.bin .rem (.t 28) (oC 1000000000)),oM 30 9,oA 31 (.bin .quo (.t 30) (oC 1000000000)),oXx 32 1 26 27,oPp 1 32 29,oM 6 31] [0,1,5,6,14,15,16] [[13]]) <| .keep [0,1,5,6,14,15,16] [[13]]) <| oR [oA 33 (.bin .add (.t 16) (oC 1)),oM 16 33] [0,1,5,6,14,15,16] [[13]]) <| .keep [0,1,5,6,14,15,16] [[13]]
def QgG : CF := ⟨2,.seq (oR [oA 4 (.mov (.c (.z true)))] [0,1] []) <| .seq (oR [oM 10 0,oQq 11 10,oA 12 (.bin .add (.t 11) (oC 1)),oA 13 (.mksl 1 8 [.v (.int .i64 0)] (.t 12) (.t 12)),oM 5 13] [0,1,5] [[13]]) <| .seq (oR [oA 6 (.mov (oC 0))] [0,1,5,6] [[13]]) <| .seq (.seq (oR [oM 14 0,oQq 15 14,oA 16 (.mov (oC 0))] [0,1,5,6,14,15,16] [[13]]) <| .seq (.blk 0 <| .seq (.keep [0,1,5,6,14,15,16] [[13]]) <| .loop Qb7) <| .keep [0,5,6] [[13]]) <| .seq (oR [oM 34 5,oM 35 0,oQq 36 35,oM 37 6,oXx 38 1 34 36,oPp 1 38 37] [5] [[13]]) <| .seq (oR [oM 39 5,oM 4 39] [4] [[13]]) <| .ret,[.t 4]⟩

end Go.AM

set_option maxRecDepth 100000
namespace Go.AM
open Go Go.Proofs

def ft : Nat → Option CF
 | 3 => some QcQ
 | 9 => some QcV
 | 10 => some QdV
 | 11 => some QeO
 | 12 => some QcW
 | 13 => some QcC
 | 14 => some Qfv
 | 15 => some QfW
 | 16 => some Qhu
 | 17 => some QcK
 | 18 => some Qfr
 | 19 => some QiU
 | 20 => some QeL
 | 21 => some QeI
 | 22 => some Qc3
 | 23 => some Qd3
 | 24 => some QfP
 | 25 => some Qi2
 | 26 => some QfV
 | 27 => some QgF
 | 28 => some Qnl
 | 29 => some Qnn
 | 30 => some Qgf
 | 31 => some Qkl
 | 32 => some Qf9
 | 33 => some Qfp
 | 34 => some Qfz
 | 35 => some Qhb
 | 41 => some QdR
 | 42 => some Qdh
 | 43 => some Qfy
 | 44 => some Qc6
 | 45 => some Qes
 | 46 => some QdB
 | 47 => some Qfx
 | 48 => some Qlm
 | 49 => some QiT
 | 50 => some Qkh
 | 51 => some QnB
 | 52 => some QlJ
 | 53 => some Qfo
 | 54 => some QnI
 | 55 => some QpT
 | 56 => some Qf2
 | 57 => some Qg7
 | 58 => some rat_Of
 | 59 => some QfU
 | 60 => some Qma
 | 61 => some QbH
 | 62 => some Qf8
 | 63 => some Qeq
 | 64 => some Qf3
 | 65 => some QfI
 | 66 => some QbB
 | 67 => some Qdb
 | 68 => some Qe1
 | 69 => some QjJ
 | 70 => some QjU
 | 71 => some QiJ
 | 72 => some Qim
 | 73 => some Qij
 | 74 => some Qg8
 | 75 => some QlT
 | 76 => some Qh4
 | 77 => some QhO
 | 78 => some Qfn
 | 79 => some Qgc
 | 80 => some QbX
 | 81 => some QiI
 | 84 => some QaZ
 | 85 => some Qi5
 | 86 => some Qga
 | 87 => some Qdx
 | 88 => some Qep
 | 89 => some QfZ
 | 90 => some Qho
 | 91 => some Qfd
 | 92 => some Qa5
 | 93 => some QfN
 | 94 => some QnS
 | 95 => some Qhr
 | 96 => some Qcy
 | 97 => some Qir
 | 98 => some QeX
 | 99 => some Qf5
 | 100 => some Qil
 | 101 => some Qa9
 | 102 => some Qc4
 | 103 => some Qer
 | 104 => some Qda
 | 105 => some Qei
 | 106 => some QdZ
 | 107 => some QdC
 | 108 => some QpO
 | 109 => some QaP
 | 110 => some sturm_zeros_1
 | 111 => some sturm_zeros_1_1
 | 113 => some Qe2
 | 114 => some slices_Backward_api_Poly_api_Rat_1
 | 115 => some Qi7
 | 116 => some QpD
 | 117 => some Qdk
 | 118 => some Qcj
 | 119 => some Qih
 | 120 => some Qe9
 | 121 => some Qhx
 | 122 => some Qhg
 | 123 => some Qc9
 | 124 => some Qfm
 | 125 => some Qbj
 | 126 => some Qdy
 | 127 => some Qdd
 | 128 => some QeH
 | 129 => some Qb5
 | 130 => some QeE
 | 131 => some Qhv
 | 132 => some Qha
 | 133 => some QhL
 | 134 => some QgG
 | _ => none
theorem QhT : QjD Tryz.prog Tryz.f110 = some sturm_zeros_1.er := by kernel_rfl
theorem QgW : QjD Tryz.prog Tryz.f111 = some sturm_zeros_1_1.er := by kernel_rfl
theorem Qb4 : QjD Tryz.prog Tryz.f114 = some slices_Backward_api_Poly_api_Rat_1.er := by kernel_rfl
theorem fkH {f : Nat} {fn : Func} {cf : CF} (h1 : Tryz.prog.funcs[f]? = some fn) (h2 : QjD Tryz.prog fn = some cf.er := by kernel_rfl) (h3 : cf.body.noInl = true := by kernel_rfl) : ∃ fn L, Tryz.prog.funcs[f]? = some fn ∧ QjD Tryz.prog fn = some cf.er ∧ Qh7 Tryz.prog L cf.body ∧ (L = [] ∨ ∀ b, fn.body = some b → okI L b = true) := ⟨_, [], h1, h2, Qdm h3, .inl rfl⟩
theorem ft_ok : ∀ f cf, ft f = some cf → ∃ fn L, Tryz.prog.funcs[f]? = some fn ∧ QjD Tryz.prog fn = some cf.er ∧ Qh7 Tryz.prog L cf.body ∧ (L = [] ∨ ∀ b, fn.body = some b → okI L b = true) := by
  intro f cf h
  unfold ft at h
  split at h
  · cases h; exact fkH Tryz.func3
  · cases h; exact fkH Tryz.func9
  · cases h; exact fkH Tryz.func10
  · cases h; exact fkH Tryz.func11
  · cases h; exact fkH Tryz.func12
  · cases h; exact fkH Tryz.func13
  · cases h; exact fkH Tryz.func14
  · cases h; exact fkH Tryz.func15
  · cases h; exact fkH Tryz.func16
  · cases h; exact fkH Tryz.func17
  · cases h; exact fkH Tryz.func18
  · cases h; exact fkH Tryz.func19
  · cases h; exact fkH Tryz.func20
  · cases h; exact fkH Tryz.func21
  · cases h; exact fkH Tryz.func22
  · cases h; exact fkH Tryz.func23
  · cases h; exact fkH Tryz.func24
  · cases h; exact fkH Tryz.func25
  · cases h; exact fkH Tryz.func26
  · cases h; exact fkH Tryz.func27
  · cases h; exact fkH Tryz.func28
  · cases h; exact fkH Tryz.func29
  · cases h; exact fkH Tryz.func30
  · cases h; exact fkH Tryz.func31
  · cases h; exact fkH Tryz.func32
  · cases h; exact fkH Tryz.func33
  · cases h; exact fkH Tryz.func34
  · cases h; exact fkH Tryz.func35
  · cases h; exact fkH Tryz.func41
  · cases h; exact fkH Tryz.func42
  · cases h; exact fkH Tryz.func43
  · cases h; exact fkH Tryz.func44
  · cases h; exact fkH Tryz.func45
  · cases h; exact fkH Tryz.func46
  · cases h; exact fkH Tryz.func47
  · cases h; exact fkH Tryz.func48
  · cases h; exact fkH Tryz.func49
  · cases h; exact fkH Tryz.func50
  · cases h; exact fkH Tryz.func51
  · cases h; exact fkH Tryz.func52
  · cases h; exact fkH Tryz.func53
  · cases h; exact fkH Tryz.func54
  · cases h; exact fkH Tryz.func55
  · cases h; exact fkH Tryz.func56
  · cases h; exact fkH Tryz.func57
  · cases h; exact fkH Tryz.func58
  · cases h; exact fkH Tryz.func59
  · cases h; exact fkH Tryz.func60
  · cases h; exact fkH Tryz.func61
  · cases h; exact fkH Tryz.func62
  · cases h; exact fkH Tryz.func63
  · cases h; exact fkH Tryz.func64
  · cases h; exact fkH Tryz.func65
  · cases h; exact fkH Tryz.func66
  · cases h; exact fkH Tryz.func67
  · cases h; exact fkH Tryz.func68
  · cases h; exact fkH Tryz.func69
  · cases h; exact fkH Tryz.func70
  · cases h; exact fkH Tryz.func71
  · cases h; exact fkH Tryz.func72
  · cases h; exact fkH Tryz.func73
  · cases h; exact fkH Tryz.func74
  · cases h; exact fkH Tryz.func75
  · cases h; exact fkH Tryz.func76
  · cases h; exact fkH Tryz.func77
  · cases h; exact fkH Tryz.func78
  · cases h; exact fkH Tryz.func79
  · cases h; exact fkH Tryz.func80
  · cases h; exact fkH Tryz.func81
  · cases h; exact fkH Tryz.func84
  · cases h; exact fkH Tryz.func85
  · cases h; exact fkH Tryz.func86
  · cases h; exact fkH Tryz.func87
  · cases h; exact fkH Tryz.func88
  · cases h; exact fkH Tryz.func89
  · cases h; exact fkH Tryz.func90
  · cases h; exact fkH Tryz.func91
  · cases h; exact fkH Tryz.func92
  · cases h; exact fkH Tryz.func93
  · cases h; exact fkH Tryz.func94
  · cases h; exact fkH Tryz.func95
  · cases h; exact fkH Tryz.func96
  · cases h; exact fkH Tryz.func97
  · cases h; exact fkH Tryz.func98
  · cases h; exact fkH Tryz.func99
  · cases h; exact fkH Tryz.func100
  · cases h; exact fkH Tryz.func101
  · cases h; exact fkH Tryz.func102
  · cases h; exact fkH Tryz.func103
  · cases h; exact fkH Tryz.func104
  · cases h; exact fkH Tryz.func105
  · cases h; exact fkH Tryz.func106
  · cases h; exact fkH Tryz.func107
  · cases h; exact fkH Tryz.func108
  · cases h; exact fkH Tryz.func109
  · cases h; exact ⟨_, [], Tryz.func110, QhT, Qdm (by kernel_rfl), .inl rfl⟩
  · cases h; exact ⟨_, [], Tryz.func111, QgW, Qdm (by kernel_rfl), .inl rfl⟩
  · cases h; exact fkH Tryz.func113
  · cases h; exact ⟨_, [], Tryz.func114, Qb4, Qdm (by kernel_rfl), .inl rfl⟩
  · cases h; exact fkH Tryz.func115
  · cases h; exact fkH Tryz.func116
  · cases h; exact fkH Tryz.func117
  · cases h; exact fkH Tryz.func118
  · cases h; exact fkH Tryz.func119
  · cases h; exact fkH Tryz.func120
  · cases h; exact fkH Tryz.func121
  · cases h; exact fkH Tryz.func122
  · cases h; exact fkH Tryz.func123
  · cases h; exact fkH Tryz.func124
  · cases h; exact fkH Tryz.func125
  · cases h; exact fkH Tryz.func126
  · cases h; exact fkH Tryz.func127
  · cases h; exact fkH Tryz.func128
  · cases h; exact fkH Tryz.func129
  · cases h; exact fkH Tryz.func130
  · cases h; exact fkH Tryz.func131
  · cases h; exact fkH Tryz.func132
  · cases h; exact fkH Tryz.func133
  · cases h; exact fkH Tryz.func134
  · cases h
end Go.AM

/- The seat's functions, and that their small texts are theirs. -/
namespace Go.AM
open Go Go.Proofs
class Its where
 it : Nat → List D → Option (List (List D))
 orc : Nat → List D → Option R := fun _ _ => none
abbrev noIts : Its := { it := fun _ _ => none }
def G [Its] : Env := ⟨ft, Its.orc, Its.it⟩
theorem env_okO [Its] (h : ∀ f ds xs, Its.it f ds = some xs → ItOk Tryz.prog f ds xs) (ho : ∀ f ds r, ft f = none → Its.orc f ds = some r → CallOk Tryz.prog f ds r) : EnvOk Tryz.prog G := ⟨by kernel_rfl, ft_ok, ho, h⟩
theorem env_ok [Its] (h : ∀ f ds xs, Its.it f ds = some xs → ItOk Tryz.prog f ds xs) (h0 : ∀ f ds, (Its.orc f ds : Option R) = none := by intros; rfl) : EnvOk Tryz.prog G := env_okO h fun f ds r _ h => by rw [h0] at h; cases h
theorem env_ok0 : EnvOk Tryz.prog (@G noIts) := @env_ok noIts (fun _ _ _ h => by cases h) (fun _ _ => rfl)
end Go.AM

