/- Part 4 of the proof: a small machine, its soundness against the model, and what the program's functions compute on it. -/
import Derived.Test.YtbbemgfheagobaaGreatM0
import Derived.Test.YtbbemgfheagobaaGreatProg
import Derived.KernelRfl
import Derived.Test.YtbbemgfheagobaaGreatM3
set_option linter.unusedVariables false
set_option linter.unusedSimpArgs false
set_option maxRecDepth 100000
namespace Go.AM
open Go Go.Proofs
@[go_sem] abbrev oA (n:Nat) (i:I):O:=⟨some n,i,none⟩
@[go_sem] abbrev oM (n m:Nat):O:=⟨some n,.mov (.t m),none⟩
@[go_sem] abbrev oL (n k m:Nat):O:=⟨some n,.load (some k) (.t m),none⟩
@[go_sem] abbrev oG (n g:Nat) (b:Bool) (i:I):O:=⟨some n,i,some (g,b)⟩
@[go_sem] abbrev oBb (n:Nat) (o:BinOp) (a b:Nat):O:=⟨some n,.bin o (.t a) (.t b),none⟩
@[go_sem] abbrev oJ (n f:Nat) (l:List Nat):O:=⟨some n,.call f (l.map .t) false,none⟩
@[go_sem] abbrev oNn (n k a:Nat):O:=⟨some n,.fad k (.t a),none⟩
@[go_sem] abbrev oQq (n a:Nat):O:=⟨some n,.len (.t a),none⟩
@[go_sem] abbrev oDd (n a:Nat):O:=⟨some n,.load none (.t a),none⟩
@[go_sem] abbrev oXx (n k a b:Nat):O:=⟨some n,.ixa k (.t a) (.t b),none⟩
@[go_sem] abbrev oEe (n a:Nat):O:=⟨some n,.box (.t a),none⟩
@[go_sem] abbrev oPp (k a b:Nat):O:=⟨none,.store k (.t a) (.t b),none⟩
@[go_sem] abbrev oHh (n g:Nat) (b:Bool) (m:Nat):O:=⟨some n,.mov (.t m),some (g,b)⟩
@[go_sem] abbrev oC (n:Int):E:=.c (.v (.int .i64 n))
@[go_sem] abbrev oZ4:List D:=[.v (.bool false),.z true,.v (.bool false),.z true]
@[go_sem] abbrev oZ8:List D:=[.v (.bool false),.z true,.v (.bool false),.z true,.v (.bool false),.z true,.v (.bool false),.z true]
@[go_sem] abbrev oI2:List D:=[.v (.int .i64 0),.v (.int .i64 0)]
@[go_sem] abbrev oR (o:List O) (a:List Nat) (b:List Key):C:=.seq (.reg o []) (.keep a b)
abbrev QgI:Nat:=9
abbrev QgA:Nat:=10
abbrev QbL:Nat:=11
abbrev Qat:Nat:=12
abbrev QcV:Nat:=13
abbrev QgF:Nat:=14
abbrev Qcy:Nat:=15
abbrev Qgu:Nat:=16
abbrev Qdr:Nat:=17
abbrev QcC:Nat:=18
abbrev QeM:Nat:=19
abbrev Qeg:Nat:=20
abbrev Qge:Nat:=21
abbrev QcI:Nat:=22
abbrev Qbr:Nat:=23
abbrev QcP:Nat:=24
abbrev QbS:Nat:=25
abbrev Qcf:Nat:=26
abbrev Qap:Nat:=27
abbrev QkY:Nat:=28
abbrev QiP:Nat:=29
abbrev QdK:Nat:=30
abbrev Qiu:Nat:=31
abbrev QaF:Nat:=32
abbrev Qdh:Nat:=33
abbrev QgK:Nat:=34
abbrev QbB:Nat:=35
abbrev Qcl:Nat:=36
abbrev QhU:Nat:=37
abbrev Qei:Nat:=38
abbrev QfE:Nat:=41
abbrev QcR:Nat:=42
abbrev QeB:Nat:=43
abbrev QdT:Nat:=44
abbrev QdE:Nat:=45
abbrev QcZ:Nat:=46
abbrev QgN:Nat:=47
abbrev Qc0:Nat:=48
abbrev QhF:Nat:=49
abbrev Qls:Nat:=50
abbrev Qep:Nat:=51
abbrev QhP:Nat:=52
abbrev QeN:Nat:=53
abbrev Qkk:Nat:=54
abbrev Qka:Nat:=55
abbrev Qf4:Nat:=56
abbrev Qgr:Nat:=57
abbrev QgC:Nat:=58
abbrev QdC:Nat:=59
abbrev QbG:Nat:=60
abbrev Qdq:Nat:=61
abbrev QaV:Nat:=62
abbrev QaT:Nat:=63
abbrev QdB:Nat:=64
abbrev Qgv:Nat:=65
abbrev QcA:Nat:=66
abbrev Qe2:Nat:=67
abbrev QbH:Nat:=68
abbrev QhJ:Nat:=69
abbrev Qih:Nat:=70
abbrev QeD:Nat:=71
abbrev Qft:Nat:=72
abbrev Qdf:Nat:=73
abbrev Qgc:Nat:=74
abbrev Qhy:Nat:=75
abbrev Qfk:Nat:=76
abbrev Qg4:Nat:=77
abbrev QgR:Nat:=78
abbrev QbN:Nat:=79
abbrev QdS:Nat:=80
abbrev QjQ:Nat:=81
abbrev Qcv:Nat:=82
abbrev QfW:Nat:=83
abbrev QaR:Nat:=84
abbrev Qfb:Nat:=85
abbrev Qhe:Nat:=86
abbrev Qci:Nat:=87
abbrev QeZ:Nat:=88
abbrev Qhc:Nat:=89
abbrev Qgd:Nat:=90
abbrev Qi9:Nat:=91
abbrev Qcn:Nat:=92
abbrev QgJ:Nat:=93
abbrev QdX:Nat:=94
abbrev Qf0:Nat:=95
abbrev QeY:Nat:=96
abbrev Qem:Nat:=97
abbrev QbR:Nat:=98
abbrev QhV:Nat:=99
abbrev Qg8:Nat:=100
abbrev Qbj:Nat:=101
abbrev Qam:Nat:=102
abbrev Qhi:Nat:=103
abbrev QdR:Nat:=104
abbrev Qg6:Nat:=105
abbrev QgB:Nat:=106
abbrev Qch:Nat:=107
abbrev QpX:Nat:=108
abbrev Qb4:Nat:=109
abbrev QaI:Nat:=110
abbrev Qaq:Nat:=111
abbrev QfV:Nat:=112
abbrev QfR:Nat:=113
abbrev Qag:Nat:=114
abbrev Qky:Nat:=115
abbrev Qo9:Nat:=116
abbrev QcL:Nat:=117
abbrev QbA:Nat:=118
abbrev Qbt:Nat:=119
abbrev Qd6:Nat:=120
abbrev QeC:Nat:=121
abbrev Qkr:Nat:=122
abbrev Qhu:Nat:=123
abbrev QbC:Nat:=124
abbrev QfD:Nat:=125
abbrev QbP:Nat:=126
abbrev Qe5:Nat:=127
abbrev QeL:Nat:=128
abbrev QfM:Nat:=129
abbrev Qeh:Nat:=130
abbrev Qgi:Nat:=131
abbrev Qgj:Nat:=132
abbrev Qi7:Nat:=133
abbrev QfG:Nat:=134

def QaC:C :=
 .seq (.seq (.seq (oR [oM 79 17,oM 80 14,oQq 81 80,oBb 82 .lss 79 81] [3,12,13,14,17,82] [])<|.cond (.t 82) (.skip)<|.seq (.keep [3,12,13] [])<|.exit 2)<|.seq (.seq (.blk 3<|.seq (.seq (oR [oM 85 12,oM 86 13,oXx 87 1 85 86,oDd 88 87,oM 89 14,oM 90 17,oXx 91 8 89 90,oNn 92 0 91,oL 93 4 92,oM 94 14,oM 95 17,oXx 96 8 94 95,oNn 97 4 96,oL 98 4 97,oJ 99 Qcl [88,93,98],oA 100 (.bin .neq (.t 99) (oC 1)),oM 101 100,oHh 102 101 false 17,oG 103 101 false (.bin .gtr (.t 102) (oC 0)),oHh 104 101 false 103,oHh 105 104 true 14,oHh 106 104 true 17,oG 107 104 true (.bin .sub (.t 106) (oC 1)),oG 108 104 true (.ixa 8 (.t 105) (.t 107)),oG 109 104 true (.fad 4 (.t 108)),oG 110 104 true (.load (some 4) (.t 109)),oHh 111 104 true 14,oHh 112 104 true 17,oG 113 104 true (.ixa 8 (.t 111) (.t 112)),oG 114 104 true (.fad 0 (.t 113)),oG 115 104 true (.load (some 4) (.t 114)),oG 116 104 true (.call Qbr [.t 110,.t 115] false),oG 117 104 true (.bin .gtr (.t 116) (oC 0)),oG 118 101 false (.pick (.t 104) (.t 117) (.c (.v (.bool false)))),oA 119 (.pick (.t 101) (.c (.v (.bool true))) (.t 118))] [3,12,13,14,17,119] [])<|.cond (.t 119) (.seq (oR [oA 8 (.mov (.c (.v (.bool false))))] [8] [])<|.ret)<|.skip)<|.seq (oR [oM 120 12,oM 121 13,oXx 122 1 120 121,oDd 123 122,oM 124 14,oM 125 17,oXx 126 8 124 125,oL 127 8 126,oJ 128 QhU [123,127],oA 18 (.new oZ8),oPp 8 18 128] [3,12,13,14,17,18] [[18]])<|.seq (oR [oM 129 12,oM 130 13,oXx 131 1 129 130,oDd 132 131,oM 133 14,oM 134 17,oXx 135 8 133 134,oL 136 8 135,oJ 137 Qei [132,136],oA 19 (.new oZ8),oPp 8 19 137] [3,12,13,14,17,18,19] [[18],[19]])<|.seq (oR [oNn 138 0 18,oL 139 4 138,oNn 140 0 19,oL 141 4 140,oJ 142 QcC [139,141],oA 143 (.un .not (.t 142)),oM 144 143,oG 145 144 false (.fad 4 (.t 18)),oG 146 144 false (.load (some 4) (.t 145)),oG 147 144 false (.fad 4 (.t 19)),oG 148 144 false (.load (some 4) (.t 147)),oG 149 144 false (.call QcC [.t 146,.t 148] false),oG 150 144 false (.un .not (.t 149)),oA 151 (.pick (.t 144) (.c (.v (.bool true))) (.t 150))] [3,12,13,14,17,151] [])<|.cond (.t 151) (.seq (oR [oA 8 (.mov (.c (.v (.bool false))))] [8] [])<|.ret)<|.skip)<|.keep [3,12,13,14,17] [])<|oR [oM 83 17,oA 84 (.bin .add (.t 83) (oC 1)),oM 17 84] [3,12,13,14,17] [])<|.keep [3,12,13,14,17] []
def Qan:C :=
 .seq (.seq (.seq (oR [oM 34 13,oA 35 (.bin .lss (.t 34) (oC 2))] [3,12,13,35] [])<|.cond (.t 35) (.skip)<|.seq (.keep [3] [])<|.exit 0)<|.seq (.seq (.blk 1<|.seq (oR [oM 39 12,oM 40 13,oXx 41 1 39 40,oDd 42 41,oJ 43 QbB [42],oM 38 43,oA 44 (.ext (.t 38) 0),oA 45 (.ext (.t 38) 1),oM 14 44,oM 15 45] [3,12,13,14,15] [])<|.seq (.seq (oR [oM 46 12,oM 47 13,oXx 48 1 46 47,oDd 49 48,oQq 50 49,oA 51 (.bin .eql (.t 50) (oC 0))] [3,12,13,14,15,51] [])<|.cond (.t 51) (.seq (.seq (oR [oM 52 15,oA 53 (.bin .neq (.t 52) (oC 1)),oM 54 53,oHh 55 54 false 14,oG 56 54 false (.len (.t 55)),oG 57 54 false (.bin .gtr (.t 56) (oC 0)),oA 58 (.pick (.t 54) (.c (.v (.bool true))) (.t 57))] [3,12,13,58] [])<|.cond (.t 58) (.seq (oR [oA 8 (.mov (.c (.v (.bool false))))] [8] [])<|.ret)<|.skip)<|.seq (.keep [3,12,13] [])<|.exit 1)<|.skip)<|.seq (oR [oM 59 12,oM 60 13,oXx 61 1 59 60,oDd 62 61,oJ 63 Qeg [62],oA 16 (.new oZ4),oPp 4 16 63] [3,12,13,14,15,16] [[16]])<|.seq (.seq (oR [oM 64 15,oA 65 (.bin .neq (.t 64) (oC 0)),oM 66 65,oHh 67 66 false 14,oG 68 66 false (.len (.t 67)),oHh 69 66 false 12,oHh 70 66 false 13,oG 71 66 false (.ixa 1 (.t 69) (.t 70)),oG 72 66 false (.load none (.t 71)),oG 73 66 false (.load (some 4) (.t 16)),oG 74 66 false (.call QcP [.t 73] false),oG 75 66 false (.load (some 4) (.t 16)),oG 76 66 false (.call Qcl [.t 72,.t 74,.t 75] false),oG 77 66 false (.bin .neq (.t 68) (.t 76)),oA 78 (.pick (.t 66) (.c (.v (.bool true))) (.t 77))] [3,12,13,14,78] [])<|.cond (.t 78) (.seq (oR [oA 8 (.mov (.c (.v (.bool false))))] [8] [])<|.ret)<|.skip)<|.seq (oR [oA 17 (.mov (oC 0))] [3,12,13,14,17] [])<|.seq (.blk 2<|.seq (.keep [3,12,13,14,17] [])<|.loop QaC)<|.keep [3,12,13] [])<|.keep [3,12,13] [])<|oR [oM 36 13,oA 37 (.bin .add (.t 36) (oC 1)),oM 13 37] [3,12,13] [])<|.keep [3,12,13] []
def QcE:CF:=⟨4,.seq (oR [oA 8 (.mov (.c (.v (.bool false))))] [0,1,2,3] [])<|.seq (oR [oM 23 0,oJ 24 QgI [23],oM 9 24] [1,2,3,9] [])<|.seq (oR [oM 26 1,oM 27 2,oJ 28 QgA [26,27],oM 25 28,oA 29 (.ext (.t 25) 0),oA 30 (.ext (.t 25) 1),oM 10 29,oM 11 30] [3,9,10] [])<|.seq (oR [oM 31 9,oM 32 10,oA 33 (.lit 1 2 [.z true] [(0,(.t 31)),(1,(.t 32))] true),oM 12 33] [3,12] [])<|.seq (.seq (oR [oA 13 (.mov (oC 0))] [3,12,13] [])<|.seq (.blk 0<|.seq (.keep [3,12,13] [])<|.loop Qan)<|.keep [3] [])<|.seq (oR [oM 152 3,oA 153 (.call QcI [(.t 152),(oC 5)] false),oA 154 (.bin .add (oC 18) (.t 153)),oA 155 (.mksl 4 64 oZ4 (.t 154) (.t 154)),oM 20 155] [20] [[155]])<|.seq (oR [oM 156 20,oM 157 20,oQq 158 157,oA 159 (.bin .sub (.t 158) (oC 1)),oA 160 (.call QaF [(oC 1)] false),oXx 161 4 156 159,oPp 4 161 160] [20] [[155]])<|.seq (.seq (.frz 20)<|oR [oM 163 20,oJ 164 QbB [163],oM 162 164,oA 165 (.ext (.t 162) 0),oA 166 (.ext (.t 162) 1),oM 21 165,oM 22 166] [21,22] [])<|.seq (oR [oM 167 22,oA 168 (.bin .eql (.t 167) (oC 4)),oM 169 168,oHh 170 169 true 21,oG 171 169 true (.len (.t 170)),oG 172 169 true (.bin .eql (.t 171) (oC 0)),oA 173 (.pick (.t 169) (.t 172) (.c (.v (.bool false)))),oM 174 173,oG 175 174 true (.call Qge [] false),oA 176 (.pick (.t 174) (.t 175) (.c (.v (.bool false)))),oM 8 176] [8] [])<|.ret,[.t 8]⟩

def QaN:C :=
 .seq (.seq (.seq (oR [oM 11 4,oM 12 0,oQq 13 12,oBb 14 .lss 11 13,oM 15 14,oHh 16 15 true 4,oG 17 15 true (.bin .lss (.t 16) (oC 6)),oA 18 (.pick (.t 15) (.t 17) (.c (.v (.bool false))))] [0,3,4,18] [[28]])<|.cond (.t 18) (.skip)<|.seq (.keep [3] [[28]])<|.exit 0)<|.seq (.seq (.blk 1<|oR [oM 21 3,oM 22 0,oM 23 4,oXx 24 1 22 23,oDd 25 24,oJ 26 QbL [25],oA 27 (.lit 4 1 oZ4 [(0,(.t 26))] true),oA 28 (.app 4 64 (.t 21) (.t 27) false),oM 3 28] [0,3,4] [[28]])<|.keep [0,3,4] [[28]])<|oR [oM 19 4,oA 20 (.bin .add (.t 19) (oC 1)),oM 4 20] [0,3,4] [[28]])<|.keep [0,3,4] [[28]]
def QaM:C :=
 .seq (.seq (.seq (oR [oM 37 6,oM 38 0,oQq 39 38,oBb 40 .lss 37 39,oM 41 40,oHh 42 41 true 6,oG 43 41 true (.bin .lss (.t 42) (oC 5)),oA 44 (.pick (.t 41) (.t 43) (.c (.v (.bool false))))] [0,5,6,44] [])<|.cond (.t 44) (.skip)<|.seq (.keep [5] [])<|.exit 2)<|.seq (.seq (.blk 3<|.seq (oR [oM 47 0,oM 48 6,oXx 49 1 47 48,oDd 50 49,oJ 51 QbL [50],oJ 52 QcP [51],oA 53 (.call Qap [(oC 1),(oC 1)] false),oA 54 (.lit 4 2 oZ4 [(0,(.t 52)),(1,(.t 53))] true),oM 7 54] [0,5,6,7] [])<|.seq (.seq (oR [oM 55 0,oM 56 6,oXx 57 1 55 56,oDd 58 57,oA 59 (.bin .rem (.t 58) (oC 7)),oA 60 (.bin .eql (.t 59) (oC 3)),oM 61 60,oHh 62 61 true 6,oG 63 61 true (.bin .lss (.t 62) (oC 4)),oA 64 (.pick (.t 61) (.t 63) (.c (.v (.bool false)))),oM 65 64,oHh 66 65 true 5,oG 67 65 true (.len (.t 66)),oG 68 65 true (.bin .lss (.t 67) (oC 4)),oA 69 (.pick (.t 65) (.t 68) (.c (.v (.bool false))))] [0,5,6,7,69] [])<|.cond (.t 69) (oR [oM 70 0,oM 71 6,oXx 72 1 70 71,oDd 73 72,oA 74 (.bin .quo (.t 73) (oC 7)),oJ 75 QbL [74],oM 76 0,oM 77 6,oXx 78 1 76 77,oDd 79 78,oA 80 (.bin .quo (.t 79) (oC 3)),oJ 81 QbL [80],oA 82 (.call Qap [(oC 1),(oC 1)] false),oA 83 (.lit 4 3 oZ4 [(0,(.t 75)),(1,(.t 81)),(2,(.t 82))] true),oM 7 83] [0,5,6,7] [])<|.skip)<|oR [oM 84 5,oM 85 7,oJ 86 Qat [85],oJ 87 QcR [84,86],oM 5 87] [0,5,6] [])<|.keep [0,5,6] [])<|oR [oM 45 6,oA 46 (.bin .add (.t 45) (oC 1)),oM 6 46] [0,5,6] [])<|.keep [0,5,6] []
def Qc7:CF:=⟨1,.seq (oR [oA 2 (.mov (.c (.z true)))] [0] [])<|.seq (.seq (oR [oM 8 0,oA 9 (.call QfE [(.t 8),(oC 0),(oC 3)] false),oA 10 (.bin .eql (.t 9) (oC 0))] [0,10] [])<|.cond (.t 10) (.seq (oR [oA 3 (.mov (.c (.z true)))] [0,3] [[28]])<|.seq (.seq (oR [oA 4 (.mov (oC 1))] [0,3,4] [[28]])<|.seq (.blk 0<|.seq (.keep [0,3,4] [[28]])<|.loop QaN)<|.keep [3] [[28]])<|.seq (.seq (.frz 3)<|oR [oM 29 3,oJ 30 Qat [29],oM 2 30] [2] [])<|.ret)<|.skip)<|.seq (oR [oM 31 0,oA 32 (.call QfE [(.t 31),(oC 1),(oC 5)] false),oA 33 (.bin .add (oC 1) (.t 32)),oA 34 (.call Qap [(.t 33),(oC 1)] false),oA 35 (.lit 4 1 oZ4 [(0,(.t 34))] true),oJ 36 Qat [35],oM 5 36] [0,5] [])<|.seq (.seq (oR [oA 6 (.mov (oC 2))] [0,5,6] [])<|.seq (.blk 2<|.seq (.keep [0,5,6] [])<|.loop QaM)<|.keep [5] [])<|.seq (oR [oM 88 5,oM 2 88] [2] [])<|.ret,[.t 2]⟩

def Qbo:C :=
 .seq (.seq (.seq (oR [oM 37 10,oM 38 7,oQq 39 38,oBb 40 .lss 37 39,oM 41 40,oHh 42 41 true 7,oHh 43 41 true 10,oHh 44 41 true 7,oG 45 41 true (.len (.t 44)),oG 46 41 true (.bin .sub (.t 45) (oC 1)),oG 47 41 true (.mn [.t 43,.t 46]),oG 48 41 true (.ixa 4 (.t 42) (.t 47)),oG 49 41 true (.load (some 4) (.t 48)),oG 50 41 true (.load (some 4) (.t 9)),oG 51 41 true (.call Qbr [.t 49,.t 50] false),oG 52 41 true (.bin .lss (.t 51) (oC 0)),oA 53 (.pick (.t 41) (.t 52) (.c (.v (.bool false))))] [0,1,6,7,8,9,10,53] [[9],[77],[80],[85]])<|.cond (.t 53) (.skip)<|.seq (.keep [0,1,6,7,8,9,10] [[9],[77],[80],[85]])<|.exit 2)<|.seq (.blk 3<|oR [oM 54 10,oA 55 (.bin .add (.t 54) (oC 1)),oM 10 55] [0,1,6,7,8,9,10] [[9],[77],[80],[85]])<|.keep [0,1,6,7,8,9,10] [[9],[77],[80],[85]])<|.keep [0,1,6,7,8,9,10] [[9],[77],[80],[85]]
def QaA:C :=
 .seq (.seq (.seq (oR [oM 15 8,oM 16 0,oQq 17 16,oBb 18 .lss 15 17,oM 19 18,oHh 20 19 true 8,oG 21 19 true (.bin .lss (.t 20) (oC 4)),oA 22 (.pick (.t 19) (.t 21) (.c (.v (.bool false))))] [0,1,6,7,8,22] [[77],[80],[85]])<|.cond (.t 22) (.skip)<|.seq (.keep [1,6,7] [[77],[80],[85]])<|.exit 0)<|.seq (.seq (.blk 1<|.seq (oR [oM 25 0,oM 26 8,oXx 27 1 25 26,oDd 28 27,oJ 29 QbL [28],oA 9 (.new oZ4),oPp 4 9 29] [0,1,6,7,8,9] [[9],[77],[80],[85]])<|.seq (oR [oM 30 6,oL 31 4 9,oJ 32 QcP [31],oA 33 (.call Qap [(oC 1),(oC 1)] false),oA 34 (.lit 4 2 oZ4 [(0,(.t 32)),(1,(.t 33))] true),oJ 35 Qat [34],oJ 36 QcR [30,35],oM 6 36] [0,1,6,7,8,9] [[9],[77],[80],[85]])<|.seq (oR [oA 10 (.mov (oC 0))] [0,1,6,7,8,9,10] [[9],[77],[80],[85]])<|.seq (.seq (.blk 2<|.seq (.keep [0,1,6,7,8,9,10] [[9],[77],[80],[85]])<|.loop Qbo)<|.keep [0,1,6,7,8,9,10] [[9],[77],[80],[85]])<|.seq (.seq (oR [oM 56 10,oM 57 7,oQq 58 57,oBb 59 .lss 56 58,oM 60 59,oHh 61 60 true 7,oHh 62 60 true 10,oHh 63 60 true 7,oG 64 60 true (.len (.t 63)),oG 65 60 true (.bin .sub (.t 64) (oC 1)),oG 66 60 true (.mn [.t 62,.t 65]),oG 67 60 true (.ixa 4 (.t 61) (.t 66)),oG 68 60 true (.load (some 4) (.t 67)),oG 69 60 true (.load (some 4) (.t 9)),oG 70 60 true (.call Qbr [.t 68,.t 69] false),oG 71 60 true (.bin .eql (.t 70) (oC 0)),oA 72 (.pick (.t 60) (.t 71) (.c (.v (.bool false))))] [0,1,6,7,8,9,10,72] [[9],[77],[80],[85]])<|.cond (.t 72) (.seq (.keep [0,1,6,7,8] [[77],[80],[85]])<|.exit 1)<|.skip)<|.seq (oR [oA 11 (.mov (.c (.z true)))] [0,1,6,7,8,9,10,11] [[9],[77],[80],[85]])<|.seq (.seq (.reg [oM 73 11,oM 74 7,oM 75 10,oA 76 (.slc 4 (.t 74) none (some (.t 75)) none),oA 77 (.app 4 64 (.t 73) (.t 76) false),oL 78 4 9,oA 79 (.lit 4 1 oZ4 [(0,(.t 78))] true),oA 80 (.app 4 64 (.t 77) (.t 79) false),oM 11 80] [((.t 9),0,(.t 9),0),((.t 78),0,(.t 78),0)])<|.keep [0,1,6,7,8,10,11] [[77],[80],[85]])<|oR [oM 81 11,oM 82 7,oM 83 10,oA 84 (.slc 4 (.t 82) (some (.t 83)) none none),oA 85 (.app 4 64 (.t 81) (.t 84) true),oM 7 85] [0,1,6,7,8] [])<|.keep [0,1,6,7,8] [[77],[80],[85]])<|oR [oM 23 8,oA 24 (.bin .add (.t 23) (oC 1)),oM 8 24] [0,1,6,7,8] [[77],[80],[85]])<|.keep [0,1,6,7,8] [[77],[80],[85]]
def Qea:CF:=⟨2,.seq (oR [oA 4 (.mov (.c (.z true))),oA 5 (.mov (.c (.z true)))] [0,1] [])<|.seq (oR [oA 12 (.call Qap [(oC 2),(oC 3)] false),oA 13 (.lit 4 1 oZ4 [(0,(.t 12))] true),oJ 14 Qat [13],oM 6 14] [0,1,6] [])<|.seq (oR [oA 7 (.mov (.c (.z true)))] [0,1,6,7] [[77],[80],[85]])<|.seq (.seq (oR [oA 8 (.mov (oC 0))] [0,1,6,7,8] [[77],[80],[85]])<|.seq (.blk 0<|.seq (.keep [0,1,6,7,8] [[77],[80],[85]])<|.loop QaA)<|.keep [1,6,7] [[77],[80],[85]])<|.seq (.seq (oR [oM 86 1,oA 87 (.bin .rem (.t 86) (oC 2)),oA 88 (.bin .neq (.t 87) (oC 0))] [6,7,88] [[77],[80],[85]])<|.cond (.t 88) (oR [oM 89 6,oA 90 (.call Qap [(oC 1),(oC 1)] false),oA 91 (.build oZ4 []),oA 92 (.call Qap [(oC 1),(oC 1)] false),oA 93 (.lit 4 3 oZ4 [(0,(.t 90)),(1,(.t 91)),(2,(.t 92))] true),oJ 94 Qat [93],oJ 95 QcR [89,94],oM 6 95] [6,7] [[77],[80],[85]])<|.skip)<|.seq (oR [oM 96 6,oM 97 7,oM 4 96,oM 5 97] [4,5] [[77],[80],[85]])<|.ret,[.t 4,.t 5]⟩

def QeX:CF:=⟨1,.seq (oR [oA 2 (.new oZ4)] [0,2] [[2]])<|.seq (oR [oM 4 0,oA 5 (.call QcI [(.t 4),(oC 105)] false),oM 3 5] [2,3] [[2]])<|.seq (oR [oM 6 3,oA 7 (.bin .rem (.t 6) (oC 15)),oA 8 (.bin .sub (.t 7) (oC 7)),oM 9 3,oA 10 (.bin .quo (.t 9) (oC 15)),oA 11 (.bin .rem (.t 10) (oC 4)),oA 12 (.bin .add (oC 1) (.t 11)),oJ 13 Qap [8,12],oPp 4 2 13] [2] [[2]])<|.ret,[.cell 2 (some 4)]⟩

def Qa4:C :=
 .seq (.seq (.seq (oR [oM 7 3,oA 8 (.bin .gtr (.t 7) (oC 0)),oM 9 8,oHh 10 9 true 0,oHh 11 9 true 3,oG 12 9 true (.bin .sub (.t 11) (oC 1)),oG 13 9 true (.mx [(.t 12),(oC 0)]),oG 14 9 true (.ixa 4 (.t 10) (.t 13)),oG 15 9 true (.load (some 4) (.t 14)),oG 16 9 true (.call Qdh [.t 15] false),oG 17 9 true (.bin .eql (.t 16) (oC 0)),oA 18 (.pick (.t 9) (.t 17) (.c (.v (.bool false))))] [0,3,18] [])<|.cond (.t 18) (.skip)<|.seq (.keep [0,3] [])<|.exit 0)<|.seq (.blk 1<|oR [oM 19 3,oA 20 (.bin .sub (.t 19) (oC 1)),oM 3 20] [0,3] [])<|.keep [0,3] [])<|.keep [0,3] []
def Qc9:CF:=⟨1,.seq (oR [oA 2 (.mov (.c (.z true)))] [0] [])<|.seq (oR [oM 5 0,oQq 6 5,oM 3 6] [0,3] [])<|.seq (.seq (.blk 0<|.seq (.keep [0,3] [])<|.loop Qa4)<|.keep [0,3] [])<|.seq (oR [oA 4 (.mov (.c (.z true)))] [0,3,4] [])<|.seq (oR [oM 21 4,oM 22 0,oM 23 3,oA 24 (.slc 4 (.t 22) none (some (.t 23)) none),oA 25 (.app 4 64 (.t 21) (.t 24) true),oM 2 25] [2] [[25]])<|.ret,[.t 2]⟩

def QbD:C :=
 .seq (.seq (.seq (oR [oM 17 5,oQq 18 17,oA 19 (.bin .gtr (.t 18) (oC 0))] [3,4,5,19] [[14],[23]])<|.cond (.t 19) (.skip)<|.seq (.keep [4] [[14],[23]])<|.exit 0)<|.seq (.blk 1<|.seq (oR [oM 20 4,oM 21 5,oA 22 (.lit 1 1 [.z true] [(0,(.t 21))] true),oA 23 (.app 1 24 (.t 20) (.t 22) false),oM 4 23] [3,4,5] [[14],[23]])<|.seq (oR [oM 25 3,oM 26 5,oJ 27 QdE [25,26],oM 24 27,oA 28 (.ext (.t 24) 0),oA 29 (.ext (.t 24) 1),oM 6 28,oM 7 29] [4,5,7] [[14],[23]])<|.seq (oR [oM 30 5,oM 3 30] [3,4,7] [[14],[23]])<|oR [oM 31 7,oA 32 (.call Qap [(oC (-1)),(oC 1)] false),oJ 33 QcZ [31,32],oM 5 33] [3,4,5] [[14],[23]])<|.keep [3,4,5] [[14],[23]])<|.keep [3,4,5] [[14],[23]]
def Qe6:CF:=⟨1,.seq (oR [oA 2 (.mov (.c (.z true)))] [0] [])<|.seq (.seq (oR [oM 8 0,oQq 9 8,oA 10 (.bin .eql (.t 9) (oC 0))] [0,10] [])<|.cond (.t 10) (.seq (oR [oA 2 (.mov (.c (.z true)))] [2] [[14],[23]])<|.ret)<|.skip)<|.seq (oR [oM 11 0,oJ 12 QeB [11],oM 3 12] [3] [])<|.seq (oR [oM 13 3,oA 14 (.lit 1 1 [.z true] [(0,(.t 13))] false),oM 4 14] [3,4] [[14],[23]])<|.seq (oR [oM 15 3,oJ 16 QdT [15],oM 5 16] [3,4,5] [[14],[23]])<|.seq (.seq (.blk 0<|.seq (.keep [3,4,5] [[14],[23]])<|.loop QbD)<|.keep [4] [[14],[23]])<|.seq (oR [oM 34 4,oM 2 34] [2] [[14],[23]])<|.ret,[.t 2]⟩

def QbJ:C :=
 .seq (.seq (.seq (oR [oM 11 5,oM 12 0,oQq 13 12,oBb 14 .lss 11 13] [0,1,5,14] [])<|.cond (.t 14) (.skip)<|.seq (.keep [] [])<|.exit 0)<|.seq (.seq (.blk 1<|.seq (oR [oM 17 0,oM 18 5,oXx 19 1 17 18,oDd 20 19,oM 21 1,oM 22 5,oXx 23 1 21 22,oDd 24 23,oJ 25 QgN [20,24],oA 26 (.un .not (.t 25))] [0,1,5,26] [])<|.cond (.t 26) (.seq (oR [oA 4 (.mov (.c (.v (.bool false))))] [4] [])<|.ret)<|.skip)<|.keep [0,1,5] [])<|oR [oM 15 5,oA 16 (.bin .add (.t 15) (oC 1)),oM 5 16] [0,1,5] [])<|.keep [0,1,5] []
def QfP:CF:=⟨2,.seq (oR [oA 4 (.mov (.c (.v (.bool false))))] [0,1] [])<|.seq (.seq (oR [oM 6 0,oQq 7 6,oM 8 1,oQq 9 8,oBb 10 .neq 7 9] [0,1,10] [])<|.cond (.t 10) (.seq (oR [oA 4 (.mov (.c (.v (.bool false))))] [4] [])<|.ret)<|.skip)<|.seq (.seq (oR [oA 5 (.mov (oC 0))] [0,1,5] [])<|.seq (.blk 0<|.seq (.keep [0,1,5] [])<|.loop QbJ)<|.keep [] [])<|.seq (oR [oA 4 (.mov (.c (.v (.bool true))))] [4] [])<|.ret,[.t 4]⟩

def Qcc:C :=
 .seq (.seq (.seq (oR [oM 10 4,oQq 11 10,oA 12 (.bin .gtr (.t 11) (oC 0))] [3,4,5,12] [[20]])<|.cond (.t 12) (.skip)<|.seq (.keep [3] [[20]])<|.exit 0)<|.seq (.seq (.blk 1<|oR [oM 17 3,oM 18 4,oA 19 (.lit 1 1 [.z true] [(0,(.t 18))] true),oA 20 (.app 1 24 (.t 17) (.t 19) false),oM 3 20] [3,4,5] [[20]])<|.keep [3,4,5] [[20]])<|oR [oM 13 5,oM 14 4,oM 15 5,oJ 16 Qls [14,15],oM 4 13,oM 5 16] [3,4,5] [[20]])<|.keep [3,4,5] [[20]]
def Qjr:CF:=⟨1,.seq (oR [oA 2 (.mov (.c (.z true)))] [0] [])<|.seq (oR [oA 3 (.mov (.c (.z true)))] [0,3] [[20]])<|.seq (oR [oM 6 0,oJ 7 Qc0 [6],oM 4 7] [3,4] [[20]])<|.seq (oR [oM 8 4,oJ 9 QhF [8],oM 5 9] [3,4,5] [[20]])<|.seq (.seq (.blk 0<|.seq (.keep [3,4,5] [[20]])<|.loop Qcc)<|.keep [3] [[20]])<|.seq (oR [oM 21 3,oM 2 21] [2] [[20]])<|.ret,[.t 2]⟩

def QbF:C :=
 .seq (.seq (oR [oBb 13 .lss 12 11] [3,5,6,10,11,12,13] [[3]])<|.seq (.cond (.t 13) (.skip)<|.seq (.keep [5] [])<|.exit 0)<|.seq (.seq (.blk 1<|.seq (oR [oXx 14 1 10 12,oDd 15 14,oM 8 15] [3,5,6,8,10,11,12] [[3]])<|.seq (oR [oM 16 8,oL 17 4 3,oJ 18 QhP [16,17],oJ 19 Qep [18],oM 9 19] [3,5,6,9,10,11,12] [[3]])<|.seq (oR [oM 20 9,oA 21 (.bin .neq (.t 20) (oC 0))] [3,5,6,9,10,11,12,21] [[3]])<|.cond (.t 21) (.seq (.seq (oR [oM 22 9,oM 23 6,oA 24 (.un .neg (.t 23)),oBb 25 .eql 22 24] [3,5,9,10,11,12,25] [[3]])<|.cond (.t 25) (oR [oM 26 5,oA 27 (.bin .add (.t 26) (oC 1)),oM 5 27] [3,5,9,10,11,12] [[3]])<|.skip)<|oR [oM 28 9,oM 6 28] [3,5,6,10,11,12] [[3]])<|.skip)<|.keep [3,5,6,10,11,12] [[3]])<|oR [oA 29 (.bin .add (.t 12) (oC 1)),oM 12 29] [3,5,6,10,11,12] [[3]])<|.keep [3,5,6,10,11,12] [[3]]
def QhE:CF:=⟨2,.seq (oR [oEe 3 1,oA 4 (.mov (oC 0))] [0,3] [[3]])<|.seq (oR [oA 5 (.mov (oC 0)),oA 6 (.mov (oC 0))] [0,3,5,6] [[3]])<|.seq (.seq (oR [oM 10 0,oQq 11 10,oA 12 (.mov (oC 0))] [3,5,6,10,11,12] [[3]])<|.seq (.blk 0<|.seq (.keep [3,5,6,10,11,12] [[3]])<|.loop QbF)<|.keep [5] [])<|.seq (oR [oM 30 5,oM 4 30] [4] [])<|.ret,[.t 4]⟩

def Qaz:C :=
 .seq (.seq (.seq (oR [oM 10 6,oM 11 0,oQq 12 11,oBb 13 .lss 10 12] [0,3,5,6,13] [[3],[28]])<|.cond (.t 13) (.skip)<|.seq (.keep [5] [[28]])<|.exit 0)<|.seq (.seq (.blk 1<|.seq (oR [oM 16 0,oM 17 6,oXx 18 1 16 17,oDd 19 18,oL 20 4 3,oJ 21 QgK [19,20],oJ 22 Qdh [21],oM 7 22] [0,3,5,6,7] [[3],[28]])<|.seq (oR [oM 23 7,oA 24 (.bin .neq (.t 23) (oC 0))] [0,3,5,6,7,24] [[3],[28]])<|.cond (.t 24) (oR [oM 25 5,oM 26 7,oA 27 (.lit 1 1 [.v (.int .i64 0)] [(0,(.t 26))] true),oA 28 (.app 1 8 (.t 25) (.t 27) false),oM 5 28] [0,3,5,6] [[3],[28]])<|.skip)<|.keep [0,3,5,6] [[3],[28]])<|oR [oM 14 6,oA 15 (.bin .add (.t 14) (oC 1)),oM 6 15] [0,3,5,6] [[3],[28]])<|.keep [0,3,5,6] [[3],[28]]
def QaK:C :=
 .seq (.seq (.seq (oR [oM 29 9,oM 30 5,oQq 31 30,oBb 32 .lss 29 31] [5,8,9,32] [[28]])<|.cond (.t 32) (.skip)<|.seq (.keep [8] [])<|.exit 2)<|.seq (.seq (.blk 3<|.seq (oR [oM 35 5,oM 36 9,oXx 37 1 35 36,oDd 38 37,oM 39 5,oM 40 9,oA 41 (.bin .sub (.t 40) (oC 1)),oXx 42 1 39 41,oDd 43 42,oBb 44 .neq 38 43] [5,8,9,44] [[28]])<|.cond (.t 44) (oR [oM 45 8,oA 46 (.bin .add (.t 45) (oC 1)),oM 8 46] [5,8,9] [[28]])<|.skip)<|.keep [5,8,9] [[28]])<|oR [oM 33 9,oA 34 (.bin .add (.t 33) (oC 1)),oM 9 34] [5,8,9] [[28]])<|.keep [5,8,9] [[28]]
def QcU:CF:=⟨2,.seq (oR [oEe 3 1,oA 4 (.mov (oC 0))] [0,3] [[3]])<|.seq (oR [oA 5 (.mov (.c (.z true)))] [0,3,5] [[3],[28]])<|.seq (.seq (oR [oA 6 (.mov (oC 0))] [0,3,5,6] [[3],[28]])<|.seq (.blk 0<|.seq (.keep [0,3,5,6] [[3],[28]])<|.loop Qaz)<|.keep [5] [[28]])<|.seq (oR [oA 8 (.mov (oC 0))] [5,8] [[28]])<|.seq (.seq (oR [oA 9 (.mov (oC 1))] [5,8,9] [[28]])<|.seq (.blk 2<|.seq (.keep [5,8,9] [[28]])<|.loop QaK)<|.keep [8] [])<|.seq (oR [oM 47 8,oM 4 47] [4] [])<|.ret,[.t 4]⟩

def QfF:CF:=⟨2,.seq (oR [oEe 2 0,oEe 3 1,oA 4 (.mov (.c (.v (.bool false))))] [2,3] [[2],[3]])<|.seq (oR [oNn 5 0 2,oL 6 2 5,oNn 7 0 3,oL 8 2 7,oJ 9 QeN [6,8],oM 10 9,oG 11 10 true (.fad 2 (.t 2)),oG 12 10 true (.load (some 2) (.t 11)),oG 13 10 true (.fad 2 (.t 3)),oG 14 10 true (.load (some 2) (.t 13)),oG 15 10 true (.call QeN [.t 12,.t 14] false),oA 16 (.pick (.t 10) (.t 15) (.c (.v (.bool false)))),oM 4 16] [4] [])<|.ret,[.t 4]⟩

def Qbx:C :=
 .seq (.seq (oR [oBb 10 .lss 9 8] [0,2,3,8,9,10] [[2],[3]])<|.seq (.cond (.t 10) (.skip)<|.seq (.keep [2,3] [[2],[3]])<|.exit 0)<|.seq (.seq (.blk 1<|.seq (oR [oM 11 9,oM 4 11] [0,2,3,4,8,9] [[2],[3]])<|.seq (oR [oM 12 0,oM 13 4,oXx 14 4 12 13,oL 15 4 14,oM 16 0,oM 17 0,oQq 18 17,oA 19 (.bin .sub (.t 18) (oC 1)),oXx 20 4 16 19,oL 21 4 20,oJ 22 Qkk [15,21],oA 5 (.new oZ4),oPp 4 5 22] [0,2,3,5,8,9] [[2],[3],[5]])<|.seq (.seq (oR [oL 23 4 5,oJ 24 Qep [23],oA 25 (.bin .lss (.t 24) (oC 0))] [0,2,3,5,8,9,25] [[2],[3],[5]])<|.cond (.t 25) (oR [oL 26 4 5,oJ 27 Qka [26],oPp 4 5 27] [0,2,3,5,8,9] [[2],[3],[5]])<|.skip)<|.seq (oR [oL 28 4 5,oL 29 4 3,oJ 30 Qf4 [28,29],oA 31 (.bin .gtr (.t 30) (oC 0))] [0,2,3,5,8,9,31] [[2],[3],[5]])<|.cond (.t 31) (oR [oL 32 4 5,oPp 4 3 32] [0,2,3,8,9] [[2],[3]])<|.skip)<|.keep [0,2,3,8,9] [[2],[3]])<|oR [oA 33 (.bin .add (.t 9) (oC 1)),oM 9 33] [0,2,3,8,9] [[2],[3]])<|.keep [0,2,3,8,9] [[2],[3]]
def Qjc:CF:=⟨1,.seq (oR [oA 2 (.new oZ4)] [0,2] [[2]])<|.seq (oR [oA 3 (.new oZ4)] [0,2,3] [[2],[3]])<|.seq (.seq (oR [oM 6 0,oQq 7 6,oA 8 (.bin .sub (.t 7) (oC 1)),oA 9 (.mov (oC 0))] [0,2,3,8,9] [[2],[3]])<|.seq (.blk 0<|.seq (.keep [0,2,3,8,9] [[2],[3]])<|.loop Qbx)<|.keep [2,3] [[2],[3]])<|.seq (oR [oL 34 4 3,oA 35 (.call QgC [(oC 1),(oC 1)] false),oJ 36 Qgr [34,35],oPp 4 2 36] [2] [[2]])<|.ret,[.cell 2 (some 4)]⟩

def QaP:C :=
 .seq (.seq (.seq (oR [oM 7 4,oA 8 (.bin .add (.t 7) (oC 1)),oM 9 0,oQq 10 9,oBb 11 .lss 8 10] [0,2,3,4,11] [[2],[3]])<|.cond (.t 11) (.skip)<|.seq (.keep [2,3] [[2],[3]])<|.exit 0)<|.seq (.seq (.blk 1<|.seq (oR [oM 14 0,oM 15 4,oXx 16 4 14 15,oL 17 4 16,oM 18 0,oM 19 0,oQq 20 19,oA 21 (.bin .sub (.t 20) (oC 1)),oXx 22 4 18 21,oL 23 4 22,oJ 24 QdC [17,23],oA 5 (.new oZ4),oPp 4 5 24] [0,2,3,4,5] [[2],[3],[5]])<|.seq (.seq (oR [oL 25 4 5,oJ 26 Qdh [25],oA 27 (.bin .lss (.t 26) (oC 0))] [0,2,3,4,5,27] [[2],[3],[5]])<|.cond (.t 27) (oR [oL 28 4 5,oJ 29 QcP [28],oPp 4 5 29] [0,2,3,4,5] [[2],[3],[5]])<|.skip)<|.seq (oR [oL 30 4 5,oL 31 4 3,oJ 32 Qbr [30,31],oA 33 (.bin .gtr (.t 32) (oC 0))] [0,2,3,4,5,33] [[2],[3],[5]])<|.cond (.t 33) (oR [oL 34 4 5,oPp 4 3 34] [0,2,3,4] [[2],[3]])<|.skip)<|.keep [0,2,3,4] [[2],[3]])<|oR [oM 12 4,oA 13 (.bin .add (.t 12) (oC 1)),oM 4 13] [0,2,3,4] [[2],[3]])<|.keep [0,2,3,4] [[2],[3]]
def Qfa:CF:=⟨1,.seq (oR [oA 2 (.new oZ4)] [0,2] [[2]])<|.seq (oR [oA 6 (.build oZ4 []),oA 3 (.new oZ4),oPp 4 3 6] [0,2,3] [[2],[3]])<|.seq (.seq (oR [oA 4 (.mov (oC 0))] [0,2,3,4] [[2],[3]])<|.seq (.blk 0<|.seq (.keep [0,2,3,4] [[2],[3]])<|.loop QaP)<|.keep [2,3] [[2],[3]])<|.seq (oR [oL 35 4 3,oA 36 (.call Qap [(oC 1),(oC 1)] false),oJ 37 Qcf [35,36],oPp 4 2 37] [2] [[2]])<|.ret,[.cell 2 (some 4)]⟩

def Qfh:CF:=⟨0,.seq (oR [oA 0 (.mov (.c (.v (.bool false))))] [] [])<|.seq (oR [oA 6 (.lit 1 4 [.v (.int .i64 0)] [(0,(oC 2)),(1,(oC (-3))),(2,(oC 0)),(3,(oC 1))] true),oA 7 (.call QbG [(oC 1),(.t 6)] false),oM 1 7] [1] [])<|.seq (oR [oA 8 (.lit 1 3 [.v (.int .i64 0)] [(0,(oC (-2))),(1,(oC 1)),(2,(oC 1))] true),oA 9 (.call QbG [(oC 1),(.t 8)] false),oA 10 (.lit 1 2 [.v (.int .i64 0)] [(0,(oC 1)),(1,(oC 2))] true),oA 11 (.call QbG [(oC 1),(.t 10)] false),oA 12 (.lit 1 1 [.v (.int .i64 0)] [(0,(oC 9))] true),oA 13 (.call QbG [(oC 4),(.t 12)] false),oA 14 (.lit 1 3 [.z true] [(0,(.t 9)),(1,(.t 11)),(2,(.t 13))] true),oM 2 14] [1,2] [])<|.seq (oR [oM 15 1,oA 16 (.call QaF [(oC (-3))] false),oA 17 (.call QaF [(oC 3)] false),oJ 18 QbS [15,16,17],oA 19 (.bin .eql (.t 18) (oC 2)),oM 20 19,oHh 21 20 true 1,oG 22 20 true (.call QaF [(oC (-2))] false),oG 23 20 true (.call QaF [(oC 1)] false),oG 24 20 true (.call QbS [.t 21,.t 22,.t 23] false),oG 25 20 true (.bin .eql (.t 24) (oC 1)),oA 26 (.pick (.t 20) (.t 25) (.c (.v (.bool false)))),oM 27 26,oHh 28 27 true 1,oG 29 27 true (.call QaF [(oC 1)] false),oG 30 27 true (.call QaF [(oC 5)] false),oG 31 27 true (.call QbS [.t 28,.t 29,.t 30] false),oG 32 27 true (.bin .eql (.t 31) (oC 0)),oA 33 (.pick (.t 27) (.t 32) (.c (.v (.bool false)))),oM 3 33] [1,2,3] [])<|.seq (oR [oM 35 1,oJ 36 QbB [35],oM 34 36,oA 37 (.ext (.t 34) 0),oA 38 (.ext (.t 34) 1),oM 4 37,oM 5 38] [1,2,3,4,5] [])<|.seq (oR [oM 39 1,oJ 40 Qcy [39],oM 41 2,oJ 42 QgF [40,41],oM 43 42,oHh 44 43 true 3,oA 45 (.pick (.t 43) (.t 44) (.c (.v (.bool false)))),oM 46 45,oHh 47 46 true 1,oG 48 46 true (.call QeM [.t 47] false),oG 49 46 true (.call QaF [(oC 4)] false),oG 50 46 true (.call QcC [.t 48,.t 49] false),oA 51 (.pick (.t 46) (.t 50) (.c (.v (.bool false)))),oM 52 51,oHh 53 52 true 1,oG 54 52 true (.call QaF [(oC (-2))] false),oG 55 52 true (.call QaF [(oC 9)] false),oG 56 52 true (.call QdK [.t 53,.t 54,.t 55] false),oA 57 (.pick (.t 52) (.t 56) (.c (.v (.bool false)))),oM 58 57,oHh 59 58 true 1,oG 60 58 true (.call QaF [(oC (-3))] false),oG 61 58 true (.call QaF [(oC 0)] false),oG 62 58 true (.call QdK [.t 59,.t 60,.t 61] false),oG 63 58 true (.un .not (.t 62)),oA 64 (.pick (.t 58) (.t 63) (.c (.v (.bool false)))),oM 65 64,oHh 66 65 true 5,oG 67 65 true (.bin .eql (.t 66) (oC 0)),oA 68 (.pick (.t 65) (.t 67) (.c (.v (.bool false)))),oM 69 68,oHh 70 69 true 4,oG 71 69 true (.len (.t 70)),oG 72 69 true (.bin .eql (.t 71) (oC 2)),oA 73 (.pick (.t 69) (.t 72) (.c (.v (.bool false)))),oM 0 73] [0] [])<|.ret,[.t 0]⟩

def Qdj:CF:=⟨2,.seq (oR [oA 4 (.mov (oC 0))] [0,1] [])<|.seq (.seq (oR [oM 5 0,oA 6 (.bin .lss (.t 5) (oC 0))] [0,1,6] [])<|.cond (.t 6) (oR [oM 7 0,oA 8 (.bin .add (.t 7) (oC 1)),oA 9 (.un .neg (.t 8)),oM 0 9] [0,1] [])<|.skip)<|.seq (oR [oM 10 0,oM 11 1,oBb 12 .rem 10 11,oM 4 12] [4] [])<|.ret,[.t 4]⟩

def Qed:CF:=⟨2,.seq (oR [oEe 2 0,oEe 3 1,oA 4 (.mov (oC 0))] [2,3] [[2],[3]])<|.seq (oR [oNn 5 0 2,oL 6 2 5,oL 7 4 3,oJ 8 QaT [7],oJ 9 QaV [6,8],oNn 10 0 3,oL 11 2 10,oL 12 4 2,oJ 13 QaT [12],oJ 14 QaV [11,13],oJ 15 Qdq [9,14],oM 4 15] [4] [])<|.ret,[.t 4]⟩

def Qgo:CF:=⟨1,.seq (oR [oEe 1 0,oA 2 (.new oZ4)] [1,2] [[1],[2]])<|.seq (oR [oNn 3 0 1,oL 4 2 3,oJ 5 QdB [4],oNn 6 2 1,oL 7 2 6,oA 8 (.build oZ4 [(0,2,(.t 5)),(2,2,(.t 7))]),oPp 4 2 8] [2] [[2]])<|.ret,[.cell 2 (some 4)]⟩

def QjB:CF:=⟨3,.seq (oR [oEe 4 1,oEe 5 2,oA 6 (.mov (oC 0))] [0,4,5] [[4],[5]])<|.seq (oR [oM 7 0,oJ 8 Qcy [7],oL 9 4 4,oL 10 4 5,oJ 11 Qgv [8,9,10],oM 6 11] [6] [])<|.ret,[.t 6]⟩

def Qgb:CF:=⟨2,.seq (oR [oEe 2 0,oEe 3 1,oA 4 (.new oZ4)] [2,3,4] [[2],[3],[4]])<|.seq (oR [oNn 7 0 2,oL 8 2 7,oL 9 4 3,oJ 10 QaT [9],oJ 11 QaV [8,10],oA 5 (.new [.v (.bool false),.z true]),oPp 2 5 11] [2,3,4,5] [[2],[3],[4],[5]])<|.seq (oR [oNn 12 0 3,oL 13 2 12,oL 14 4 2,oJ 15 QaT [14],oJ 16 QaV [13,15],oA 6 (.new [.v (.bool false),.z true]),oPp 2 6 16] [2,3,4,5,6] [[2],[3],[4],[5],[6]])<|.seq (oR [oL 17 2 5,oL 18 2 6,oJ 19 Qe2 [17,18],oL 20 4 2,oJ 21 QaT [20],oL 22 4 3,oJ 23 QaT [22],oJ 24 QaV [21,23],oJ 25 QcA [19,24],oPp 4 4 25] [4] [[4]])<|.ret,[.cell 4 (some 4)]⟩

def Qg0:CF:=⟨2,.seq (oR [oA 4 (.new oZ4)] [0,1,4] [[4]])<|.seq (oR [oM 5 0,oJ 6 QbH [5],oM 7 1,oJ 8 QbH [7],oJ 9 QcA [6,8],oPp 4 4 9] [4] [[4]])<|.ret,[.cell 4 (some 4)]⟩

def QoC:CF:=⟨2,.seq (oR [oEe 2 0,oEe 3 1,oA 4 (.mov (.c (.z true)))] [2,3] [[2],[3]])<|.seq (oR [oDd 5 2,oQq 6 5,oDd 7 3,oQq 8 7,oBb 9 .add 6 8,oA 10 (.bin .sub (.t 9) (oC 1)),oA 11 (.mkfn Qih [.t 3,.t 2] true),oJ 12 QhJ [10,11],oM 4 12] [4] [])<|.ret,[.t 4]⟩

def Qfi:C :=
 .seq (.seq (.seq (oR [oM 11 1,oQq 12 11,oA 13 (.bin .gtr (.t 12) (oC 0))] [0,1,13] [])<|.cond (.t 13) (.skip)<|.seq (.keep [0] [])<|.exit 0)<|.seq (.blk 1<|.seq (oR [oM 15 0,oM 16 1,oJ 17 Qdf [15,16],oM 14 17,oA 18 (.ext (.t 14) 0),oA 19 (.ext (.t 14) 1),oM 5 18,oM 6 19] [1,6] [])<|oR [oM 20 1,oM 21 6,oJ 22 Qft [21],oM 0 20,oM 1 22] [0,1] [])<|.keep [0,1] [])<|.keep [0,1] []
def QoL:CF:=⟨2,.seq (oR [oA 4 (.mov (.c (.z true)))] [0,1] [])<|.seq (oR [oM 7 0,oJ 8 Qft [7],oM 9 1,oJ 10 Qft [9],oM 0 8,oM 1 10] [0,1] [])<|.seq (.seq (.blk 0<|.seq (.keep [0,1] [])<|.loop Qfi)<|.keep [0] [])<|.seq (oR [oM 23 0,oM 4 23] [4] [])<|.ret,[.t 4]⟩

def Qca:C :=
 .seq (.seq (oR [oBb 52 .lss 51 50] [4,7,10,50,51,52] [[4],[10]])<|.seq (.cond (.t 52) (.skip)<|.seq (.keep [] [])<|.exit 0)<|.seq (.seq (.blk 1<|.seq (oR [oL 53 4 4,oL 54 4 10,oA 55 (.build oZ8 [(0,4,(.t 53)),(4,4,(.t 54))]),oJ 56 Qfk [55],oPp 4 10 56] [4,7,10,50,51] [[4],[10]])<|.seq (oR [oM 57 7,oL 58 4 10,oA 59 (.calv (.t 57) [.t 58])] [4,7,10,50,51,59] [[4],[10]])<|.cond (.t 59) (.seq (oR [oA 6 (.mov (.c (.v (.bool false))))] [6] [])<|.ret)<|.skip)<|.keep [4,7,10,50,51] [[4],[10]])<|oR [oA 60 (.bin .add (.t 51) (oC 1)),oM 51 60] [4,7,10,50,51] [[4],[10]])<|.keep [4,7,10,50,51] [[4],[10]]
def Qgh:CF:=⟨3,.seq (oR [oEe 3 0,oEe 4 1,oEe 5 2,oA 6 (.mov (.c (.v (.bool false))))] [3,4,5] [[3],[4],[5]])<|.seq (.seq (oR [oL 11 4 4,oL 12 4 5,oJ 13 Qf4 [11,12],oA 14 (.bin .gtr (.t 13) (oC 0)),oM 15 14,oG 16 15 false (.load none (.t 3)),oG 17 15 false (.len (.t 16)),oG 18 15 false (.bin .eql (.t 17) (oC 0)),oA 19 (.pick (.t 15) (.c (.v (.bool true))) (.t 18))] [3,4,5,19] [[3],[4],[5]])<|.cond (.t 19) (.seq (oR [oA 6 (.mov (.c (.v (.bool true))))] [6] [])<|.ret)<|.skip)<|.seq (oR [oA 20 (.mkfn Qgc [.t 3] true),oM 7 20] [3,4,5,7] [[3],[4],[5]])<|.seq (.seq (oR [oM 21 7,oL 22 4 4,oA 23 (.calv (.t 21) [.t 22]),oM 24 23,oHh 25 24 false 7,oG 26 24 false (.load (some 4) (.t 5)),oG 27 24 false (.calv (.t 25) [.t 26]),oA 28 (.pick (.t 24) (.c (.v (.bool true))) (.t 27))] [3,4,5,7,28] [[3],[4],[5]])<|.cond (.t 28) (.seq (oR [oA 6 (.mov (.c (.v (.bool false))))] [6] [])<|.ret)<|.skip)<|.seq (oR [oDd 29 3,oJ 30 Qhy [29],oM 8 30] [3,4,5,7,8] [[3],[4],[5]])<|.seq (oR [oM 31 8,oL 32 4 4,oL 33 4 5,oJ 34 QbS [31,32,33],oM 9 34] [3,4,5,7,8,9] [[3],[4],[5]])<|.seq (.seq (oR [oM 35 9,oA 36 (.bin .gtr (.t 35) (oC 0)),oM 37 36,oHh 38 37 true 8,oG 39 37 true (.load (some 4) (.t 5)),oG 40 37 true (.call QhP [.t 38,.t 39] false),oG 41 37 true (.call Qep [.t 40] false),oG 42 37 true (.bin .eql (.t 41) (oC 0)),oA 43 (.pick (.t 37) (.t 42) (.c (.v (.bool false))))] [3,4,5,7,9,43] [[3],[4],[5]])<|.cond (.t 43) (oR [oM 44 9,oA 45 (.bin .sub (.t 44) (oC 1)),oM 9 45] [3,4,5,7,9] [[3],[4],[5]])<|.skip)<|.seq (.seq (oR [oM 46 9,oA 47 (.bin .gtr (.t 46) (oC 0))] [3,4,5,7,47] [[3],[4],[5]])<|.cond (.t 47) (.seq (oR [oA 6 (.mov (.c (.v (.bool false))))] [6] [])<|.ret)<|.skip)<|.seq (oR [oL 48 4 5,oA 10 (.new oZ4),oPp 4 10 48] [3,4,7,10] [[3],[4],[10]])<|.seq (.seq (oR [oDd 49 3,oQq 50 49,oA 51 (.mov (oC 0))] [4,7,10,50,51] [[4],[10]])<|.seq (.blk 0<|.seq (.keep [4,7,10,50,51] [[4],[10]])<|.loop Qca)<|.keep [] [])<|.seq (oR [oA 6 (.mov (.c (.v (.bool true))))] [6] [])<|.ret,[.t 6]⟩

def Qlb:CF:=⟨2,.seq (oR [oEe 2 0,oEe 3 1,oA 4 (.mov (.c (.z true)))] [2,3] [[2],[3]])<|.seq (oR [oDd 5 2,oQq 6 5,oA 7 (.mkfn Qg4 [.t 2,.t 3] true),oJ 8 QhJ [6,7],oM 4 8] [4] [])<|.ret,[.t 4]⟩

def Qgm:CF:=⟨1,.seq (oR [oA 2 (.new oZ4)] [0,2] [[2]])<|.seq (oR [oM 3 0,oA 4 (.call Qap [(.t 3),(oC 1)] false),oPp 4 2 4] [2] [[2]])<|.ret,[.cell 2 (some 4)]⟩

def QfH:CF:=⟨1,.seq (oR [oEe 1 0,oA 2 (.mov (oC 0))] [1] [[1]])<|.seq (oR [oNn 3 0 1,oL 4 2 3,oJ 5 QgR [4],oM 2 5] [2] [])<|.ret,[.t 2]⟩

def QbK:C :=
 .seq (.seq (.seq (oR [oM 10 7,oM 11 0,oQq 12 11,oBb 13 .lss 10 12] [0,3,4,5,6,7,13] [[3],[4],[5],[6]])<|.cond (.t 13) (.skip)<|.seq (.keep [4,5] [[4],[5]])<|.exit 0)<|.seq (.seq (.blk 1<|.seq (oR [oL 16 4 5,oM 17 0,oM 18 7,oXx 19 4 17 18,oL 20 4 19,oL 21 4 6,oJ 22 QbN [20,21],oJ 23 Qcf [16,22],oPp 4 5 23] [0,3,4,5,6,7] [[3],[4],[5],[6]])<|oR [oL 24 4 6,oL 25 4 3,oJ 26 QbN [24,25],oPp 4 6 26] [0,3,4,5,6,7] [[3],[4],[5],[6]])<|.keep [0,3,4,5,6,7] [[3],[4],[5],[6]])<|oR [oM 14 7,oA 15 (.bin .add (.t 14) (oC 1)),oM 7 15] [0,3,4,5,6,7] [[3],[4],[5],[6]])<|.keep [0,3,4,5,6,7] [[3],[4],[5],[6]]
def QfN:CF:=⟨2,.seq (oR [oEe 3 1,oA 4 (.new oZ4)] [0,3,4] [[3],[4]])<|.seq (oR [oA 8 (.build oZ4 []),oA 5 (.new oZ4),oPp 4 5 8] [0,3,4,5] [[3],[4],[5]])<|.seq (oR [oA 9 (.call Qap [(oC 1),(oC 1)] false),oA 6 (.new oZ4),oPp 4 6 9] [0,3,4,5,6] [[3],[4],[5],[6]])<|.seq (.seq (oR [oA 7 (.mov (oC 0))] [0,3,4,5,6,7] [[3],[4],[5],[6]])<|.seq (.blk 0<|.seq (.keep [0,3,4,5,6,7] [[3],[4],[5],[6]])<|.loop QbK)<|.keep [4,5] [[4],[5]])<|.seq (oR [oL 27 4 5,oPp 4 4 27] [4] [[4]])<|.ret,[.cell 4 (some 4)]⟩

def Qc5:CF:=⟨1,.seq (oR [oA 2 (.mov (.c (.z true))),oA 3 (.mov (oC 0))] [0] [])<|.seq (.seq (.blk 0<|.seq (oR [oM 6 0,oQq 7 6,oA 8 (.bin .eql (.t 7) (oC 0)),oM 5 8] [0,5] [])<|.cond (.t 5) (.seq (oR [oA 2 (.mov (.c (.z true))),oA 3 (.mov (oC 1))] [2,3] [])<|.ret)<|.seq (oR [oM 10 0,oQq 11 10,oA 12 (.bin .gtr (.t 11) (oC 17)),oM 9 12] [0,9] [])<|.cond (.t 9) (.seq (oR [oA 2 (.mov (.c (.z true))),oA 3 (.mov (oC 4))] [2,3] [])<|.ret)<|.skip)<|.keep [0] [])<|.seq (oR [oM 13 0,oJ 14 QeM [13],oA 4 (.new oZ4),oPp 4 4 14] [0,4] [[4]])<|.seq (oR [oM 15 0,oJ 16 Qcy [15],oL 17 4 4,oJ 18 Qka [17],oL 19 4 4,oA 20 (.build oZ8 [(0,4,(.t 18)),(4,4,(.t 19))]),oJ 21 QjQ [16,20],oJ 22 QdS [21],oM 2 22,oA 3 (.mov (oC 0))] [2,3] [])<|.ret,[.t 2,.t 3]⟩

def QeR:CF:=⟨3,.seq (oR [oEe 4 1,oEe 5 2,oA 6 (.mov (oC 0))] [0,4,5] [[4],[5]])<|.seq (oR [oM 7 0,oJ 8 QcV [7],oL 9 4 4,oL 10 4 5,oJ 11 Qcv [8,9,10],oM 6 11] [6] [])<|.ret,[.t 6]⟩

def QhN:CF:=⟨2,.seq (oR [oEe 3 1,oA 4 (.new oZ8)] [0,3,4] [[3],[4]])<|.seq (oR [oL 6 8 3,oJ 7 Qfk [6],oA 5 (.new oZ4),oPp 4 5 7] [0,3,4,5] [[3],[4],[5]])<|.seq (.seq (oR [oM 8 0,oNn 9 0 3,oL 10 4 9,oL 11 4 5,oJ 12 QbS [8,10,11],oA 13 (.bin .eql (.t 12) (oC 1))] [3,4,5,13] [[3],[4],[5]])<|.cond (.t 13) (.seq (oR [oNn 14 0 3,oL 15 4 14,oL 16 4 5,oA 17 (.build oZ8 [(0,4,(.t 15)),(4,4,(.t 16))]),oPp 8 4 17] [4] [[4]])<|.ret)<|.skip)<|.seq (oR [oL 18 4 5,oNn 19 4 3,oL 20 4 19,oA 21 (.build oZ8 [(0,4,(.t 18)),(4,4,(.t 20))]),oPp 8 4 21] [4] [[4]])<|.ret,[.cell 4 (some 8)]⟩

def Qe4:CF:=⟨2,.seq (oR [oEe 3 1,oA 4 (.new oZ8)] [0,3,4] [[3],[4]])<|.seq (oR [oM 5 0,oJ 6 QcV [5],oL 7 8 3,oJ 8 QfW [6,7],oPp 8 4 8] [4] [[4]])<|.ret,[.cell 4 (some 8)]⟩

def QdL:C :=
 .seq (.seq (.seq (oR [oM 18 7,oM 19 6,oBb 20 .geq 18 19] [3,5,6,7,11,12,20] [[3],[9]])<|.cond (.t 20) (.skip)<|.seq (.keep [3,5,11,12] [[3],[9]])<|.exit 2)<|.seq (.seq (.blk 3<|oR [oM 23 5,oM 24 7,oM 25 5,oM 26 7,oXx 27 4 25 26,oL 28 4 27,oL 29 4 3,oM 30 5,oM 31 7,oA 32 (.bin .add (.t 31) (oC 1)),oXx 33 4 30 32,oL 34 4 33,oJ 35 QeD [29,34],oJ 36 Qgr [28,35],oXx 37 4 23 24,oPp 4 37 36] [3,5,6,7,11,12] [[3],[9]])<|.keep [3,5,6,7,11,12] [[3],[9]])<|oR [oM 21 7,oA 22 (.bin .sub (.t 21) (oC 1)),oM 7 22] [3,5,6,7,11,12] [[3],[9]])<|.keep [3,5,6,7,11,12] [[3],[9]]
def Qoc:C :=
 .seq (.seq (oR [oBb 13 .lss 12 11] [3,5,11,12,13] [[3],[9]])<|.seq (.cond (.t 13) (.skip)<|.seq (.keep [5] [[9]])<|.exit 0)<|.seq (.seq (.blk 1<|.seq (oR [oM 14 12,oM 6 14] [3,5,6,11,12] [[3],[9]])<|.seq (oR [oM 15 5,oQq 16 15,oA 17 (.bin .sub (.t 16) (oC 2)),oM 7 17] [3,5,6,7,11,12] [[3],[9]])<|.seq (.blk 2<|.seq (.keep [3,5,6,7,11,12] [[3],[9]])<|.loop QdL)<|.keep [3,5,11,12] [[3],[9]])<|.keep [3,5,11,12] [[3],[9]])<|oR [oA 38 (.bin .add (.t 12) (oC 1)),oM 12 38] [3,5,11,12] [[3],[9]])<|.keep [3,5,11,12] [[3],[9]]
def Qt7:CF:=⟨2,.seq (oR [oEe 3 1,oA 4 (.mov (.c (.z true)))] [0,3] [[3]])<|.seq (oR [oM 8 0,oA 9 (.call QaR [.t 8] true),oM 5 9] [3,5] [[3],[9]])<|.seq (.seq (oR [oM 10 5,oQq 11 10,oA 12 (.mov (oC 0))] [3,5,11,12] [[3],[9]])<|.seq (.blk 0<|.seq (.keep [3,5,11,12] [[3],[9]])<|.loop Qoc)<|.keep [5] [[9]])<|.seq (.seq (.frz 5)<|oR [oM 39 5,oJ 40 Qfb [39],oM 4 40] [4] [])<|.ret,[.t 4]⟩

def Qd4:CF:=⟨3,.seq (oR [oA 6 (.mov (oC 0))] [0,1,2] [])<|.seq (.seq (oR [oM 7 1,oA 8 (.bin .lss (.t 7) (oC 0)),oM 9 8,oHh 10 9 false 1,oHh 11 9 false 0,oG 12 9 false (.len (.t 11)),oG 13 9 false (.bin .geq (.t 10) (.t 12)),oA 14 (.pick (.t 9) (.c (.v (.bool true))) (.t 13))] [0,1,2,14] [])<|.cond (.t 14) (.seq (oR [oA 6 (.mov (oC 0))] [6] [])<|.ret)<|.skip)<|.seq (oR [oM 15 0,oM 16 1,oXx 17 1 15 16,oDd 18 17,oM 19 2,oJ 20 QcI [18,19],oM 6 20] [6] [])<|.ret,[.t 6]⟩

def Qb2:C :=
 .seq (.seq (.seq (oR [oM 29 7,oM 30 1,oQq 31 30,oBb 32 .lss 29 31] [0,1,5,6,7,32] [[22]])<|.cond (.t 32) (.skip)<|.seq (.keep [0,1,5,6] [[22]])<|.exit 2)<|.seq (.seq (.blk 3<|oR [oM 35 5,oM 36 6,oM 37 7,oBb 38 .add 36 37,oM 39 5,oM 40 6,oM 41 7,oBb 42 .add 40 41,oXx 43 4 39 42,oL 44 4 43,oM 45 0,oM 46 6,oXx 47 4 45 46,oL 48 4 47,oM 49 1,oM 50 7,oXx 51 4 49 50,oL 52 4 51,oJ 53 QbN [48,52],oJ 54 Qcf [44,53],oXx 55 4 35 38,oPp 4 55 54] [0,1,5,6,7] [[22]])<|.keep [0,1,5,6,7] [[22]])<|oR [oM 33 7,oA 34 (.bin .add (.t 33) (oC 1)),oM 7 34] [0,1,5,6,7] [[22]])<|.keep [0,1,5,6,7] [[22]]
def QbZ:C :=
 .seq (.seq (.seq (oR [oM 23 6,oM 24 0,oQq 25 24,oBb 26 .lss 23 25] [0,1,5,6,26] [[22]])<|.cond (.t 26) (.skip)<|.seq (.keep [5] [[22]])<|.exit 0)<|.seq (.seq (.blk 1<|.seq (oR [oA 7 (.mov (oC 0))] [0,1,5,6,7] [[22]])<|.seq (.blk 2<|.seq (.keep [0,1,5,6,7] [[22]])<|.loop Qb2)<|.keep [0,1,5,6] [[22]])<|.keep [0,1,5,6] [[22]])<|oR [oM 27 6,oA 28 (.bin .add (.t 27) (oC 1)),oM 6 28] [0,1,5,6] [[22]])<|.keep [0,1,5,6] [[22]]
def Qdp:CF:=⟨2,.seq (oR [oA 4 (.mov (.c (.z true)))] [0,1] [])<|.seq (.seq (oR [oM 8 0,oQq 9 8,oA 10 (.bin .eql (.t 9) (oC 0)),oM 11 10,oHh 12 11 false 1,oG 13 11 false (.len (.t 12)),oG 14 11 false (.bin .eql (.t 13) (oC 0)),oA 15 (.pick (.t 11) (.c (.v (.bool true))) (.t 14))] [0,1,15] [])<|.cond (.t 15) (.seq (oR [oA 4 (.mov (.c (.z true)))] [4] [])<|.ret)<|.skip)<|.seq (oR [oM 16 0,oQq 17 16,oM 18 1,oQq 19 18,oBb 20 .add 17 19,oA 21 (.bin .sub (.t 20) (oC 1)),oA 22 (.mksl 4 64 oZ4 (.t 21) (.t 21)),oM 5 22] [0,1,5] [[22]])<|.seq (.seq (oR [oA 6 (.mov (oC 0))] [0,1,5,6] [[22]])<|.seq (.blk 0<|.seq (.keep [0,1,5,6] [[22]])<|.loop QbZ)<|.keep [5] [[22]])<|.seq (.seq (.frz 5)<|oR [oM 56 5,oJ 57 Qat [56],oM 4 57] [4] [])<|.ret,[.t 4]⟩

def QfQ:CF:=⟨1,.seq (oR [oA 2 (.mov (.c (.z true)))] [0] [])<|.seq (oR [oM 6 0,oM 7 0,oM 8 0,oJ 9 QdT [8],oJ 10 Qhe [7,9],oJ 11 QdE [6,10],oM 5 11,oA 12 (.ext (.t 5) 0),oA 13 (.ext (.t 5) 1),oM 3 12,oM 4 13] [3] [])<|.seq (oR [oM 14 3,oJ 15 Qci [14],oM 2 15] [2] [])<|.ret,[.t 2]⟩

def Qa1:C :=
 .seq (.seq (.seq (oR [oM 5 4,oM 6 0,oQq 7 6,oBb 8 .lss 5 7] [0,3,4,8] [[20]])<|.cond (.t 8) (.skip)<|.seq (.keep [3] [[20]])<|.exit 0)<|.seq (.seq (.blk 1<|oR [oM 11 3,oM 12 0,oM 13 4,oXx 14 4 12 13,oL 15 4 14,oM 16 4,oA 17 (.call Qap [(.t 16),(oC 1)] false),oJ 18 QbN [15,17],oA 19 (.lit 4 1 oZ4 [(0,(.t 18))] true),oA 20 (.app 4 64 (.t 11) (.t 19) false),oM 3 20] [0,3,4] [[20]])<|.keep [0,3,4] [[20]])<|oR [oM 9 4,oA 10 (.bin .add (.t 9) (oC 1)),oM 4 10] [0,3,4] [[20]])<|.keep [0,3,4] [[20]]
def Qdi:CF:=⟨1,.seq (oR [oA 2 (.mov (.c (.z true)))] [0] [])<|.seq (oR [oA 3 (.mov (.c (.z true)))] [0,3] [[20]])<|.seq (.seq (oR [oA 4 (.mov (oC 1))] [0,3,4] [[20]])<|.seq (.blk 0<|.seq (.keep [0,3,4] [[20]])<|.loop Qa1)<|.keep [3] [[20]])<|.seq (.seq (.frz 3)<|oR [oM 21 3,oJ 22 Qat [21],oM 2 22] [2] [])<|.ret,[.t 2]⟩

def Qb0:C :=
 .seq (.seq (.seq (oR [oM 15 7,oQq 16 15,oM 17 1,oQq 18 17,oBb 19 .geq 16 18] [1,6,7,19] [])<|.cond (.t 19) (.skip)<|.seq (.keep [6,7] [])<|.exit 0)<|.seq (.blk 1<|.seq (oR [oM 20 7,oQq 21 20,oM 22 1,oQq 23 22,oBb 24 .sub 21 23,oM 8 24] [1,6,7,8] [])<|.seq (oR [oM 25 8,oA 26 (.bin .add (.t 25) (oC 1)),oA 27 (.mksl 4 64 oZ4 (.t 26) (.t 26)),oM 9 27] [1,6,7,8,9] [[27]])<|.seq (oR [oM 28 9,oM 29 8,oM 30 7,oM 31 7,oQq 32 31,oA 33 (.bin .sub (.t 32) (oC 1)),oXx 34 4 30 33,oL 35 4 34,oM 36 1,oM 37 1,oQq 38 37,oA 39 (.bin .sub (.t 38) (oC 1)),oXx 40 4 36 39,oL 41 4 40,oJ 42 QdC [35,41],oXx 43 4 28 29,oPp 4 43 42] [1,6,7,9] [[27]])<|.seq (.seq (.frz 9)<|oR [oM 44 9,oJ 45 Qat [44],oM 10 45] [1,6,7,10] [])<|.seq (oR [oM 46 6,oM 47 10,oJ 48 QeZ [46,47],oM 6 48] [1,6,7,10] [])<|oR [oM 49 7,oM 50 10,oM 51 1,oJ 52 QcR [50,51],oJ 53 Qhc [49,52],oM 7 53] [1,6,7] [])<|.keep [1,6,7] [])<|.keep [1,6,7] []
def Qes:CF:=⟨2,.seq (oR [oA 4 (.mov (.c (.z true))),oA 5 (.mov (.c (.z true)))] [0,1] [])<|.seq (.seq (oR [oM 11 1,oQq 12 11,oA 13 (.bin .eql (.t 12) (oC 0))] [0,1,13] [])<|.cond (.t 13) (.seq (oR [oA 4 (.mov (.c (.z true))),oA 5 (.mov (.c (.z true)))] [4,5] [])<|.ret)<|.skip)<|.seq (oR [oA 6 (.mov (.c (.z true)))] [0,1,6] [])<|.seq (oR [oM 14 0,oM 7 14] [1,6,7] [])<|.seq (.seq (.blk 0<|.seq (.keep [1,6,7] [])<|.loop Qb0)<|.keep [6,7] [])<|.seq (oR [oM 54 6,oM 55 7,oM 4 54,oM 5 55] [4,5] [])<|.ret,[.t 4,.t 5]⟩

def Qba:C :=
 .seq (.seq (.seq (oR [oM 7 6,oM 8 0,oQq 9 8,oBb 10 .lss 7 9] [0,3,5,6,10] [[3],[21]])<|.cond (.t 10) (.skip)<|.seq (.keep [5] [[21]])<|.exit 0)<|.seq (.seq (.blk 1<|oR [oM 13 5,oM 14 0,oM 15 6,oXx 16 4 14 15,oL 17 4 16,oL 18 4 3,oJ 19 QbN [17,18],oA 20 (.lit 4 1 oZ4 [(0,(.t 19))] true),oA 21 (.app 4 64 (.t 13) (.t 20) false),oM 5 21] [0,3,5,6] [[3],[21]])<|.keep [0,3,5,6] [[3],[21]])<|oR [oM 11 6,oA 12 (.bin .add (.t 11) (oC 1)),oM 6 12] [0,3,5,6] [[3],[21]])<|.keep [0,3,5,6] [[3],[21]]
def QdP:CF:=⟨2,.seq (oR [oEe 3 1,oA 4 (.mov (.c (.z true)))] [0,3] [[3]])<|.seq (oR [oA 5 (.mov (.c (.z true)))] [0,3,5] [[3],[21]])<|.seq (.seq (oR [oA 6 (.mov (oC 0))] [0,3,5,6] [[3],[21]])<|.seq (.blk 0<|.seq (.keep [0,3,5,6] [[3],[21]])<|.loop Qba)<|.keep [5] [[21]])<|.seq (.seq (.frz 5)<|oR [oM 22 5,oJ 23 Qat [22],oM 4 23] [4] [])<|.ret,[.t 4]⟩

def QbQ:C :=
 .seq (.seq (.seq (oR [oM 11 5,oM 12 0,oQq 13 12,oBb 14 .lss 11 13] [0,1,5,14] [])<|.cond (.t 14) (.skip)<|.seq (.keep [] [])<|.exit 0)<|.seq (.seq (.blk 1<|.seq (oR [oM 17 0,oM 18 5,oXx 19 4 17 18,oL 20 4 19,oM 21 1,oM 22 5,oXx 23 4 21 22,oL 24 4 23,oJ 25 QcC [20,24],oA 26 (.un .not (.t 25))] [0,1,5,26] [])<|.cond (.t 26) (.seq (oR [oA 4 (.mov (.c (.v (.bool false))))] [4] [])<|.ret)<|.skip)<|.keep [0,1,5] [])<|oR [oM 15 5,oA 16 (.bin .add (.t 15) (oC 1)),oM 5 16] [0,1,5] [])<|.keep [0,1,5] []
def QfJ:CF:=⟨2,.seq (oR [oA 4 (.mov (.c (.v (.bool false))))] [0,1] [])<|.seq (.seq (oR [oM 6 0,oQq 7 6,oM 8 1,oQq 9 8,oBb 10 .neq 7 9] [0,1,10] [])<|.cond (.t 10) (.seq (oR [oA 4 (.mov (.c (.v (.bool false))))] [4] [])<|.ret)<|.skip)<|.seq (.seq (oR [oA 5 (.mov (oC 0))] [0,1,5] [])<|.seq (.blk 0<|.seq (.keep [0,1,5] [])<|.loop QbQ)<|.keep [] [])<|.seq (oR [oA 4 (.mov (.c (.v (.bool true))))] [4] [])<|.ret,[.t 4]⟩

def Qmf:CF:=⟨1,.seq (oR [oA 2 (.mov (.c (.z true)))] [0] [])<|.seq (oR [oM 6 0,oM 7 0,oM 8 0,oJ 9 QhF [8],oJ 10 QiP [7,9],oJ 11 Qdf [6,10],oM 5 11,oA 12 (.ext (.t 5) 0),oA 13 (.ext (.t 5) 1),oM 3 12,oM 4 13] [3] [])<|.seq (oR [oM 14 3,oJ 15 Qft [14],oM 2 15] [2] [])<|.ret,[.t 2]⟩

def Qjt:CF:=⟨1,.seq (oR [oEe 1 0,oA 2 (.mov (.c (.z true)))] [1] [[1]])<|.seq (oR [oDd 3 1,oQq 4 3,oA 5 (.bin .sub (.t 4) (oC 1)),oA 6 (.mkfn Qgd [.t 1] true),oJ 7 QhJ [5,6],oM 2 7] [2] [])<|.ret,[.t 2]⟩

def QkE:CF:=⟨2,.seq (oR [oA 4 (.mov (.c (.z true)))] [0,1] [])<|.seq (oR [oM 8 0,oM 9 1,oJ 10 Qdf [8,9],oM 7 10,oA 11 (.ext (.t 7) 0),oA 12 (.ext (.t 7) 1),oM 5 11,oM 6 12] [6] [])<|.seq (oR [oM 13 6,oA 14 (.call QgC [(oC (-1)),(oC 1)] false),oJ 15 Qiu [13,14],oM 4 15] [4] [])<|.ret,[.t 4]⟩

def Qn9:CF:=⟨1,.seq (oR [oEe 1 0,oA 2 (.mov (oC 0))] [1] [[1]])<|.seq (oR [oNn 3 0 1,oL 4 2 3,oJ 5 Qi9 [4],oM 2 5] [2] [])<|.ret,[.t 2]⟩

def poly_Eval_a0:C :=
 oR [oA 7 (.new oZ4),oPp 4 7 11] [3,5,7] [[3],[5],[7],[4]]
def poly_Eval_b0:C :=
 .seq (.blk 1<|oR [oL 12 4 5,oL 13 4 3,oJ 14 QeD [12,13],oL 15 4 7,oJ 16 Qgr [14,15],oPp 4 5 16] [] [[3],[4],[5]])<|.keep [] [[3],[4],[5]]
def Qme:CF:=⟨2,.seq (oR [oEe 3 1,oA 4 (.new oZ4)] [0,3,4] [[3],[4]])<|.seq (oR [oA 5 (.new oZ4)] [0,3,4,5] [[3],[4],[5]])<|.seq (.seq (oR [oM 8 0,oJ 9 Qcn [8]] [3,4,5,9] [[3],[4],[5]])<|.seq (.blk 0<|.seq (.rfn (.t 9) [10,11] poly_Eval_a0 poly_Eval_b0 [3,4,5] [[3],[4],[5]])<|.keep [4,5] [[4],[5]])<|.keep [4,5] [[4],[5]])<|.seq (oR [oL 17 4 5,oPp 4 4 17] [4] [[4]])<|.ret,[.cell 4 (some 4)]⟩

def QbO:C :=
 .seq (.seq (.seq (oR [oM 20 5,oNn 21 1 2,oDd 22 21,oQq 23 22,oBb 24 .lss 20 23] [2,3,5,24] [[2],[3]])<|.cond (.t 24) (.skip)<|.seq (.keep [] [])<|.exit 0)<|.seq (.seq (.blk 1<|.seq (oR [oNn 27 1 2,oDd 28 27,oM 29 5,oXx 30 1 28 29,oDd 31 30,oNn 32 1 3,oDd 33 32,oM 34 5,oXx 35 1 33 34,oDd 36 35,oBb 37 .neq 31 36] [2,3,5,37] [[2],[3]])<|.cond (.t 37) (.seq (oR [oA 4 (.mov (.c (.v (.bool false))))] [4] [])<|.ret)<|.skip)<|.keep [2,3,5] [[2],[3]])<|oR [oM 25 5,oA 26 (.bin .add (.t 25) (oC 1)),oM 5 26] [2,3,5] [[2],[3]])<|.keep [2,3,5] [[2],[3]]
def QfS:CF:=⟨2,.seq (oR [oEe 2 0,oEe 3 1,oA 4 (.mov (.c (.v (.bool false))))] [2,3] [[2],[3]])<|.seq (.seq (oR [oNn 6 0 2,oDd 7 6,oNn 8 0 3,oDd 9 8,oA 10 (.binb true (.t 7) (.t 9)),oM 11 10,oG 12 11 false (.fad 1 (.t 2)),oG 13 11 false (.load none (.t 12)),oG 14 11 false (.len (.t 13)),oG 15 11 false (.fad 1 (.t 3)),oG 16 11 false (.load none (.t 15)),oG 17 11 false (.len (.t 16)),oG 18 11 false (.bin .neq (.t 14) (.t 17)),oA 19 (.pick (.t 11) (.c (.v (.bool true))) (.t 18))] [2,3,19] [[2],[3]])<|.cond (.t 19) (.seq (oR [oA 4 (.mov (.c (.v (.bool false))))] [4] [])<|.ret)<|.skip)<|.seq (.seq (oR [oA 5 (.mov (oC 0))] [2,3,5] [[2],[3]])<|.seq (.blk 0<|.seq (.keep [2,3,5] [[2],[3]])<|.loop QbO)<|.keep [] [])<|.seq (oR [oA 4 (.mov (.c (.v (.bool true))))] [4] [])<|.ret,[.t 4]⟩
end Go.AM

set_option maxRecDepth 100000
namespace Go.AM
open Go Go.Proofs


def QoW:CF:=⟨2,.seq (oR [oEe 2 0,oEe 3 1,oA 4 (.new oZ4)] [2,3,4] [[2],[3],[4]])<|.seq (.seq (oR [oNn 5 0 3,oNn 6 1 5,oDd 7 6,oQq 8 7,oA 9 (.bin .eql (.t 8) (oC 0))] [2,3,4,9] [[2],[3],[4]])<|.cond (.t 9) (.seq (oR [oA 10 (.build oZ4 []),oPp 4 4 10] [4] [[4]])<|.ret)<|.skip)<|.seq (oR [oL 11 4 2,oL 12 4 3,oJ 13 QdX [12],oNn 14 0 3,oL 15 2 14,oJ 16 QgJ [13,15],oJ 17 QeD [11,16],oPp 4 4 17] [4] [[4]])<|.ret,[.cell 4 (some 4)]⟩

def Qq8:CF:=⟨1,.seq (oR [oEe 1 0,oA 2 (.new oZ4)] [1,2] [[1],[2]])<|.seq (oR [oNn 3 0 1,oL 4 2 3,oJ 5 Qf0 [4],oNn 6 2 1,oL 7 2 6,oA 8 (.build oZ4 [(0,2,(.t 5)),(2,2,(.t 7))]),oPp 4 2 8] [2] [[2]])<|.ret,[.cell 2 (some 4)]⟩

def Qgf:CF:=⟨2,.seq (oR [oEe 2 0,oEe 3 1,oA 4 (.mov (oC 0))] [2,3] [[2],[3]])<|.seq (.seq (oR [oL 7 4 2,oJ 8 Qep [7],oL 9 4 3,oJ 10 Qep [9],oM 5 8,oM 6 10] [2,3,5,6] [[2],[3]])<|.seq (oR [oM 11 5,oM 12 6,oBb 13 .neq 11 12,oM 14 13,oHh 15 14 false 5,oG 16 14 false (.bin .eql (.t 15) (oC 0)),oA 17 (.pick (.t 14) (.c (.v (.bool true))) (.t 16))] [2,3,5,6,17] [[2],[3]])<|.cond (.t 17) (.seq (oR [oM 18 5,oJ 19 Qem [18],oM 20 6,oJ 21 Qem [20],oJ 22 QeY [19,21],oM 4 22] [4] [])<|.ret)<|.skip)<|.seq (oR [oNn 23 0 2,oL 24 2 23,oL 25 4 3,oJ 26 QdX [25],oJ 27 QbR [24,26],oNn 28 0 3,oL 29 2 28,oL 30 4 2,oJ 31 QdX [30],oJ 32 QbR [29,31],oJ 33 QeY [27,32],oM 4 33] [4] [])<|.ret,[.t 4]⟩

def Qhw:CF:=⟨2,.seq (oR [oEe 2 0,oEe 3 1,oA 4 (.new oZ4)] [2,3,4] [[2],[3],[4]])<|.seq (.seq (.blk 0<|.seq (oR [oNn 8 2 2,oNn 9 1 8,oDd 10 9,oQq 11 10,oA 12 (.bin .eql (.t 11) (oC 0)),oM 13 12,oG 14 13 true (.fad 2 (.t 3)),oG 15 13 true (.fad 1 (.t 14)),oG 16 13 true (.load none (.t 15)),oG 17 13 true (.len (.t 16)),oG 18 13 true (.bin .eql (.t 17) (oC 0)),oA 19 (.pick (.t 13) (.t 18) (.c (.v (.bool false)))),oM 7 19] [2,3,4,7] [[2],[3],[4]])<|.cond (.t 7) (.seq (oR [oNn 20 0 2,oL 21 2 20,oNn 22 0 3,oL 23 2 22,oJ 24 QhV [21,23],oA 25 (.build oZ4 [(0,2,(.t 24))]),oPp 4 4 25] [4] [[4]])<|.ret)<|.seq (oR [oNn 27 0 2,oNn 28 1 27,oDd 29 28,oQq 30 29,oA 31 (.bin .eql (.t 30) (oC 0)),oM 26 31] [2,3,4,26] [[2],[3],[4]])<|.cond (.t 26) (.seq (oR [oL 32 4 3,oPp 4 4 32] [4] [[4]])<|.ret)<|.seq (oR [oNn 34 0 3,oNn 35 1 34,oDd 36 35,oQq 37 36,oA 38 (.bin .eql (.t 37) (oC 0)),oM 33 38] [2,3,4,33] [[2],[3],[4]])<|.cond (.t 33) (.seq (oR [oL 39 4 2,oPp 4 4 39] [4] [[4]])<|.ret)<|.skip)<|.keep [2,3,4] [[2],[3],[4]])<|.seq (oR [oL 40 4 2,oJ 41 QdX [40],oL 42 4 3,oJ 43 QdX [42],oA 5 (.new [.v (.bool false),.z true]),oA 6 (.new [.v (.bool false),.z true]),oPp 2 5 41,oPp 2 6 43] [2,3,4,5,6] [[2],[3],[4],[5],[6]])<|.seq (oR [oNn 44 0 2,oL 45 2 44,oL 46 2 6,oJ 47 QbR [45,46],oNn 48 0 3,oL 49 2 48,oL 50 2 5,oJ 51 QbR [49,50],oJ 52 QhV [47,51],oL 53 2 5,oL 54 2 6,oJ 55 QbR [53,54],oJ 56 Qg8 [52,55],oPp 4 4 56] [4] [[4]])<|.ret,[.cell 4 (some 4)]⟩

def rat_Of:CF:=⟨2,.seq (oR [oA 4 (.new oZ4)] [0,1,4] [[4]])<|.seq (oR [oM 5 0,oJ 6 Qem [5],oM 7 1,oJ 8 Qem [7],oJ 9 Qg8 [6,8],oPp 4 4 9] [4] [[4]])<|.ret,[.cell 4 (some 4)]⟩

def Qgn:CF:=⟨2,.seq (oR [oEe 2 0,oEe 3 1,oA 4 (.new oZ4)] [2,3,4] [[2],[3],[4]])<|.seq (oR [oNn 5 0 2,oL 6 2 5,oL 7 4 3,oJ 8 QaT [7],oJ 9 QaV [6,8],oL 10 4 2,oJ 11 QaT [10],oNn 12 0 3,oL 13 2 12,oJ 14 QaV [11,13],oJ 15 QcA [9,14],oPp 4 4 15] [4] [[4]])<|.ret,[.cell 4 (some 4)]⟩

def Qk6:C :=
 .seq (.seq (.seq (oR [oM 7 6,oM 8 1,oQq 9 8,oBb 10 .lss 7 9] [0,1,5,6,10] [[21]])<|.cond (.t 10) (.skip)<|.seq (.keep [5] [[21]])<|.exit 0)<|.seq (.seq (.blk 1<|oR [oM 13 5,oM 14 1,oM 15 6,oXx 16 1 14 15,oDd 17 16,oM 18 0,oJ 19 Qap [17,18],oA 20 (.lit 4 1 oZ4 [(0,(.t 19))] true),oA 21 (.app 4 64 (.t 13) (.t 20) false),oM 5 21] [0,1,5,6] [[21]])<|.keep [0,1,5,6] [[21]])<|oR [oM 11 6,oA 12 (.bin .add (.t 11) (oC 1)),oM 6 12] [0,1,5,6] [[21]])<|.keep [0,1,5,6] [[21]]
def Qnd:CF:=⟨2,.seq (oR [oA 4 (.mov (.c (.z true)))] [0,1] [])<|.seq (oR [oA 5 (.mov (.c (.z true)))] [0,1,5] [[21]])<|.seq (.seq (oR [oA 6 (.mov (oC 0))] [0,1,5,6] [[21]])<|.seq (.blk 0<|.seq (.keep [0,1,5,6] [[21]])<|.loop Qk6)<|.keep [5] [[21]])<|.seq (.seq (.frz 5)<|oR [oM 22 5,oJ 23 Qat [22],oM 4 23] [4] [])<|.ret,[.t 4]⟩

def QbM:CF:=⟨2,.seq (oR [oEe 2 0,oEe 3 1,oA 4 (.mov (oC 0))] [2,3] [[2],[3]])<|.seq (.seq (oR [oNn 5 0 2,oDd 6 5,oNn 7 0 3,oDd 8 7,oA 9 (.binb true (.t 6) (.t 8))] [2,3,9] [[2],[3]])<|.cond (.t 9) (.seq (.seq (oR [oNn 10 0 2,oDd 11 10] [11] [])<|.cond (.t 11) (.seq (oR [oA 4 (.mov (oC (-1)))] [4] [])<|.ret)<|.skip)<|.seq (oR [oA 4 (.mov (oC 1))] [4] [])<|.ret)<|.skip)<|.seq (.seq (oR [oNn 12 0 2,oDd 13 12] [2,3,13] [[2],[3]])<|.cond (.t 13) (.seq (oR [oNn 14 1 3,oDd 15 14,oNn 16 1 2,oDd 17 16,oJ 18 Qbj [15,17],oM 4 18] [4] [])<|.ret)<|.skip)<|.seq (oR [oNn 19 1 2,oDd 20 19,oNn 21 1 3,oDd 22 21,oJ 23 Qbj [20,22],oM 4 23] [4] [])<|.ret,[.t 4]⟩

def Qb5:C :=
 .seq (.seq (.seq (oR [oM 25 8,oNn 26 1 3,oDd 27 26,oQq 28 27,oBb 29 .lss 25 28] [2,3,4,5,6,7,8,29] [[2],[3],[4],[17]])<|.cond (.t 29) (.skip)<|.seq (.keep [2,3,4,5,6,7] [[2],[3],[4],[17]])<|.exit 2)<|.seq (.seq (.blk 3<|.seq (oR [oM 32 5,oM 33 6,oM 34 8,oBb 35 .add 33 34,oXx 36 1 32 35,oDd 37 36,oNn 38 1 2,oDd 39 38,oM 40 6,oXx 41 1 39 40,oDd 42 41,oNn 43 1 3,oDd 44 43,oM 45 8,oXx 46 1 44 45,oDd 47 46,oBb 48 .mul 42 47,oBb 49 .add 37 48,oM 50 7,oBb 51 .add 49 50,oM 9 51] [2,3,4,5,6,8,9] [[2],[3],[4],[17]])<|.seq (oR [oM 52 5,oM 53 6,oM 54 8,oBb 55 .add 53 54,oM 56 9,oA 57 (.bin .rem (.t 56) (oC 1000000000)),oXx 58 1 52 55,oPp 1 58 57] [2,3,4,5,6,8,9] [[2],[3],[4],[17]])<|oR [oM 59 9,oA 60 (.bin .quo (.t 59) (oC 1000000000)),oM 7 60] [2,3,4,5,6,7,8] [[2],[3],[4],[17]])<|.keep [2,3,4,5,6,7,8] [[2],[3],[4],[17]])<|oR [oM 30 8,oA 31 (.bin .add (.t 30) (oC 1)),oM 8 31] [2,3,4,5,6,7,8] [[2],[3],[4],[17]])<|.keep [2,3,4,5,6,7,8] [[2],[3],[4],[17]]
def Qb3:C :=
 .seq (.seq (.seq (oR [oM 18 6,oNn 19 1 2,oDd 20 19,oQq 21 20,oBb 22 .lss 18 21] [2,3,4,5,6,22] [[2],[3],[4],[17]])<|.cond (.t 22) (.skip)<|.seq (.keep [2,3,4,5] [[2],[3],[4],[17]])<|.exit 0)<|.seq (.seq (.blk 1<|.seq (oR [oA 7 (.mov (oC 0))] [2,3,4,5,6,7] [[2],[3],[4],[17]])<|.seq (.seq (oR [oA 8 (.mov (oC 0))] [2,3,4,5,6,7,8] [[2],[3],[4],[17]])<|.seq (.blk 2<|.seq (.keep [2,3,4,5,6,7,8] [[2],[3],[4],[17]])<|.loop Qb5)<|.keep [2,3,4,5,6,7] [[2],[3],[4],[17]])<|oR [oM 61 5,oM 62 6,oNn 63 1 3,oDd 64 63,oQq 65 64,oBb 66 .add 62 65,oM 67 7,oXx 68 1 61 66,oPp 1 68 67] [2,3,4,5,6] [[2],[3],[4],[17]])<|.keep [2,3,4,5,6] [[2],[3],[4],[17]])<|oR [oM 23 6,oA 24 (.bin .add (.t 23) (oC 1)),oM 6 24] [2,3,4,5,6] [[2],[3],[4],[17]])<|.keep [2,3,4,5,6] [[2],[3],[4],[17]]
def Qgt:CF:=⟨2,.seq (oR [oEe 2 0,oEe 3 1,oA 4 (.new [.v (.bool false),.z true])] [2,3,4] [[2],[3],[4]])<|.seq (oR [oNn 10 1 2,oDd 11 10,oQq 12 11,oNn 13 1 3,oDd 14 13,oQq 15 14,oBb 16 .add 12 15,oA 17 (.mksl 1 8 [.v (.int .i64 0)] (.t 16) (.t 16)),oM 5 17] [2,3,4,5] [[2],[3],[4],[17]])<|.seq (.seq (oR [oA 6 (.mov (oC 0))] [2,3,4,5,6] [[2],[3],[4],[17]])<|.seq (.blk 0<|.seq (.keep [2,3,4,5,6] [[2],[3],[4],[17]])<|.loop Qb3)<|.keep [2,3,4,5] [[2],[3],[4],[17]])<|.seq (.seq (.frz 5)<|oR [oNn 69 0 2,oDd 70 69,oNn 71 0 3,oDd 72 71,oA 73 (.binb true (.t 70) (.t 72)),oM 74 5,oJ 75 Qam [73,74],oPp 2 4 75] [4] [[4]])<|.ret,[.cell 4 (some 2)]⟩

def Qet:CF:=⟨1,.seq (oR [oEe 1 0,oA 2 (.new [.v (.bool false),.z true])] [1,2] [[1],[2]])<|.seq (.seq (oR [oNn 3 2 1,oNn 4 1 3,oDd 5 4,oQq 6 5,oA 7 (.bin .eql (.t 6) (oC 0))] [1,2,7] [[1],[2]])<|.cond (.t 7) (.seq (oR [oA 8 (.call QbH [(oC 1)] false),oPp 2 2 8] [2] [[2]])<|.ret)<|.skip)<|.seq (oR [oNn 9 2 1,oL 10 2 9,oPp 2 2 10] [2] [[2]])<|.ret,[.cell 2 (some 2)]⟩

def Qga:CF:=⟨1,.seq (oR [oEe 1 0,oA 2 (.new [.v (.bool false),.z true])] [1,2] [[1],[2]])<|.seq (oR [oNn 3 0 1,oDd 4 3,oA 5 (.un .not (.t 4)),oNn 6 1 1,oDd 7 6,oJ 8 Qam [5,7],oPp 2 2 8] [2] [[2]])<|.ret,[.cell 2 (some 2)]⟩

def Qf2:CF:=⟨3,.seq (oR [oEe 4 1,oEe 5 2,oA 6 (.mov (oC 0))] [0,4,5] [[4],[5]])<|.seq (.seq (oR [oL 7 4 4,oL 8 4 5,oJ 9 Qf4 [7,8],oA 10 (.bin .geq (.t 9) (oC 0))] [0,4,5,10] [[4],[5]])<|.cond (.t 10) (.seq (oR [oA 6 (.mov (oC 0))] [6] [])<|.ret)<|.skip)<|.seq (oR [oM 11 0,oL 12 4 4,oJ 13 Qgu [11,12],oM 14 0,oL 15 4 5,oJ 16 Qgu [14,15],oBb 17 .sub 13 16,oM 6 17] [6] [])<|.ret,[.t 6]⟩

def QbI:CF:=⟨2,.seq (oR [oEe 2 0,oEe 3 1,oA 4 (.new oZ4)] [2,3,4] [[2],[3],[4]])<|.seq (.seq (oR [oNn 10 1 3,oDd 11 10,oQq 12 11,oA 13 (.bin .eql (.t 12) (oC 0)),oM 14 13,oG 15 14 false (.fad 1 (.t 2)),oG 16 14 false (.load none (.t 15)),oG 17 14 false (.len (.t 16)),oG 18 14 false (.bin .eql (.t 17) (oC 0)),oA 19 (.pick (.t 14) (.c (.v (.bool true))) (.t 18))] [2,3,4,19] [[2],[3],[4]])<|.cond (.t 19) (.seq (oR [oA 20 (.build oZ4 []),oPp 4 4 20] [4] [[4]])<|.ret)<|.skip)<|.seq (oR [oL 21 2 2,oL 22 2 3,oJ 23 Qhi [21,22],oA 5 (.new [.v (.bool false),.z true]),oPp 2 5 23] [2,3,4,5] [[2],[3],[4],[5]])<|.seq (oR [oL 25 2 2,oL 26 2 5,oJ 27 QdR [25,26],oM 24 27,oA 28 (.ext (.t 24) 0),oA 29 (.ext (.t 24) 1),oA 6 (.new [.v (.bool false),.z true]),oA 7 (.new [.v (.bool false),.z true]),oPp 2 6 28,oPp 2 7 29] [3,4,5,6] [[3],[4],[5],[6]])<|.seq (oR [oL 31 2 3,oL 32 2 5,oJ 33 QdR [31,32],oM 30 33,oA 34 (.ext (.t 30) 0),oA 35 (.ext (.t 30) 1),oA 8 (.new [.v (.bool false),.z true]),oA 9 (.new [.v (.bool false),.z true]),oPp 2 8 34,oPp 2 9 35] [4,6,8] [[4],[6],[8]])<|.seq (.seq (oR [oNn 36 0 8,oDd 37 36] [4,6,8,37] [[4],[6],[8]])<|.cond (.t 37) (.seq (oR [oL 38 2 6,oJ 39 QdB [38],oPp 2 6 39] [4,6,8] [[4],[6],[8]])<|oR [oL 40 2 8,oJ 41 QdB [40],oPp 2 8 41] [4,6,8] [[4],[6],[8]])<|.skip)<|.seq (.seq (oR [oL 42 2 8,oJ 43 Qg6 [42]] [4,6,8,43] [[4],[6],[8]])<|.cond (.t 43) (.seq (oR [oL 44 2 6,oA 45 (.build oZ4 [(0,2,(.t 44))]),oPp 4 4 45] [4] [[4]])<|.ret)<|.skip)<|.seq (oR [oL 46 2 6,oL 47 2 8,oA 48 (.build oZ4 [(0,2,(.t 46)),(2,2,(.t 47))]),oPp 4 4 48] [4] [[4]])<|.ret,[.cell 4 (some 4)]⟩

def Qdz:CF:=⟨2,.seq (oR [oEe 2 0,oEe 3 1,oA 4 (.new [.v (.bool false),.z true])] [2,3,4] [[2],[3],[4]])<|.seq (.seq (oR [oNn 5 0 2,oDd 6 5,oNn 7 0 3,oDd 8 7,oA 9 (.binb false (.t 6) (.t 8))] [2,3,4,9] [[2],[3],[4]])<|.cond (.t 9) (.seq (oR [oNn 10 0 2,oDd 11 10,oNn 12 1 2,oDd 13 12,oNn 14 1 3,oDd 15 14,oJ 16 QgB [13,15],oJ 17 Qam [11,16],oPp 2 4 17] [4] [[4]])<|.ret)<|.skip)<|.seq (.seq (oR [oNn 18 1 2,oDd 19 18,oNn 20 1 3,oDd 21 20,oJ 22 Qbj [19,21],oA 23 (.bin .lss (.t 22) (oC 0))] [2,3,4,23] [[2],[3],[4]])<|.cond (.t 23) (.seq (oR [oNn 24 0 3,oDd 25 24,oNn 26 1 3,oDd 27 26,oNn 28 1 2,oDd 29 28,oJ 30 Qch [27,29],oJ 31 Qam [25,30],oPp 2 4 31] [4] [[4]])<|.ret)<|.skip)<|.seq (oR [oNn 32 0 2,oDd 33 32,oNn 34 1 2,oDd 35 34,oNn 36 1 3,oDd 37 36,oJ 38 Qch [35,37],oJ 39 Qam [33,38],oPp 2 4 39] [4] [[4]])<|.ret,[.cell 4 (some 2)]⟩

def Qa7:C :=
 .seq (.seq (.seq (oR [oM 8 0,oA 9 (.bin .neq (.t 8) (oC 0))] [0,2,3,4,9] [[2],[19]])<|.cond (.t 9) (.skip)<|.seq (.keep [2,3,4] [[2],[19]])<|.exit 0)<|.seq (.blk 1<|.seq (oR [oM 10 0,oA 11 (.bin .rem (.t 10) (oC 1000000000)),oM 5 11] [0,2,3,4,5] [[2],[19]])<|.seq (.seq (oR [oM 12 5,oA 13 (.bin .lss (.t 12) (oC 0))] [0,2,3,4,5,13] [[2],[19]])<|.cond (.t 13) (oR [oM 14 5,oA 15 (.un .neg (.t 14)),oM 5 15] [0,2,3,4,5] [[2],[19]])<|.skip)<|.seq (oR [oM 16 3,oM 17 5,oA 18 (.lit 1 1 [.v (.int .i64 0)] [(0,(.t 17))] true),oA 19 (.app 1 8 (.t 16) (.t 18) false),oM 3 19] [0,2,3,4] [[2],[19]])<|oR [oM 20 0,oA 21 (.bin .quo (.t 20) (oC 1000000000)),oM 0 21] [0,2,3,4] [[2],[19]])<|.keep [0,2,3,4] [[2],[19]])<|.keep [0,2,3,4] [[2],[19]]
def Qfj:CF:=⟨1,.seq (oR [oA 2 (.new [.v (.bool false),.z true])] [0,2] [[2]])<|.seq (oR [oA 3 (.mov (.c (.z true)))] [0,2,3] [[2],[19]])<|.seq (oR [oM 6 0,oA 7 (.bin .lss (.t 6) (oC 0)),oM 4 7] [0,2,3,4] [[2],[19]])<|.seq (.seq (.blk 0<|.seq (.keep [0,2,3,4] [[2],[19]])<|.loop Qa7)<|.keep [2,3,4] [[2],[19]])<|.seq (.seq (.frz 3)<|oR [oM 22 4,oM 23 3,oJ 24 Qam [22,23],oPp 2 2 24] [2] [[2]])<|.ret,[.cell 2 (some 2)]⟩

def QcT:C :=
 .seq (.seq (oR [oBb 10 .lss 9 8] [1,5,8,9,10] [[17]])<|.seq (.cond (.t 10) (.skip)<|.seq (.keep [5] [[17]])<|.exit 0)<|.seq (.seq (.blk 1<|.seq (oR [oM 11 9,oM 6 11] [1,5,6,8,9] [[17]])<|oR [oM 12 5,oM 13 1,oM 14 6,oA 15 (.calv (.t 13) [.t 14]),oA 16 (.lit 4 1 oZ4 [(0,(.t 15))] true),oA 17 (.app 4 64 (.t 12) (.t 16) false),oM 5 17] [1,5,8,9] [[17]])<|.keep [1,5,8,9] [[17]])<|oR [oA 18 (.bin .add (.t 9) (oC 1)),oM 9 18] [1,5,8,9] [[17]])<|.keep [1,5,8,9] [[17]]
def Qkd:CF:=⟨2,.seq (oR [oA 4 (.mov (.c (.z true)))] [0,1] [])<|.seq (oR [oA 5 (.mov (.c (.z true)))] [0,1,5] [[17]])<|.seq (.seq (oR [oM 7 0,oA 8 (.mx [(.t 7),(oC 0)]),oA 9 (.mov (oC 0))] [1,5,8,9] [[17]])<|.seq (.blk 0<|.seq (.keep [1,5,8,9] [[17]])<|.loop QcT)<|.keep [5] [[17]])<|.seq (.seq (.frz 5)<|oR [oM 19 5,oJ 20 Qfb [19],oM 4 20] [4] [])<|.ret,[.t 4]⟩

def QdO:C :=
 .seq (.seq (.seq (oR [oM 13 6,oM 14 0,oDd 15 2,oQq 16 15,oA 17 (.bin .sub (.t 16) (oC 1)),oA 18 (.mn [.t 14,.t 17]),oBb 19 .leq 13 18] [0,1,2,4,5,6,19] [[4],[5]])<|.cond (.t 19) (.skip)<|.seq (.keep [4,5] [[4],[5]])<|.exit 0)<|.seq (.seq (.blk 1<|oR [oL 22 4 5,oDd 23 2,oM 24 6,oXx 25 4 23 24,oL 26 4 25,oDd 27 1,oM 28 0,oM 29 6,oBb 30 .sub 28 29,oXx 31 4 27 30,oL 32 4 31,oJ 33 QeD [26,32],oJ 34 Qgr [22,33],oPp 4 5 34] [0,1,2,4,5,6] [[4],[5]])<|.keep [0,1,2,4,5,6] [[4],[5]])<|oR [oM 20 6,oA 21 (.bin .add (.t 20) (oC 1)),oM 6 21] [0,1,2,4,5,6] [[4],[5]])<|.keep [0,1,2,4,5,6] [[4],[5]]
def QkM:CF:=⟨3,.seq (oR [oA 4 (.new oZ4)] [0,1,2,4] [[4]])<|.seq (oR [oA 5 (.new oZ4)] [0,1,2,4,5] [[4],[5]])<|.seq (.seq (oR [oM 7 0,oDd 8 1,oQq 9 8,oBb 10 .sub 7 9,oA 11 (.bin .add (.t 10) (oC 1)),oA 12 (.mx [(oC 0),(.t 11)]),oM 6 12] [0,1,2,4,5,6] [[4],[5]])<|.seq (.blk 0<|.seq (.keep [0,1,2,4,5,6] [[4],[5]])<|.loop QdO)<|.keep [4,5] [[4],[5]])<|.seq (oR [oL 35 4 5,oPp 4 4 35] [4] [[4]])<|.ret,[.cell 4 (some 4)]⟩

def Qjn:CF:=⟨2,.seq (oR [oEe 2 0,oEe 3 1,oA 4 (.new oZ4)] [2,3,4] [[2],[3],[4]])<|.seq (.seq (oR [oNn 7 0 2,oNn 8 1 7,oDd 9 8,oQq 10 9,oA 11 (.bin .eql (.t 10) (oC 0)),oM 12 11,oG 13 12 false (.fad 0 (.t 3)),oG 14 12 false (.fad 1 (.t 13)),oG 15 12 false (.load none (.t 14)),oG 16 12 false (.len (.t 15)),oG 17 12 false (.bin .eql (.t 16) (oC 0)),oA 18 (.pick (.t 12) (.c (.v (.bool true))) (.t 17))] [2,3,4,18] [[2],[3],[4]])<|.cond (.t 18) (.seq (oR [oA 19 (.build oZ4 []),oPp 4 4 19] [4] [[4]])<|.ret)<|.skip)<|.seq (.seq (oR [oNn 20 2 2,oNn 21 1 20,oDd 22 21,oQq 23 22,oA 24 (.bin .eql (.t 23) (oC 0)),oM 25 24,oG 26 25 true (.fad 2 (.t 3)),oG 27 25 true (.fad 1 (.t 26)),oG 28 25 true (.load none (.t 27)),oG 29 25 true (.len (.t 28)),oG 30 25 true (.bin .eql (.t 29) (oC 0)),oA 31 (.pick (.t 25) (.t 30) (.c (.v (.bool false))))] [2,3,4,31] [[2],[3],[4]])<|.cond (.t 31) (.seq (oR [oNn 32 0 2,oL 33 2 32,oNn 34 0 3,oL 35 2 34,oJ 36 QbR [33,35],oA 37 (.build oZ4 [(0,2,(.t 36))]),oPp 4 4 37] [4] [[4]])<|.ret)<|.skip)<|.seq (oR [oNn 38 0 2,oL 39 2 38,oL 40 4 3,oJ 41 QdX [40],oJ 42 Qg8 [39,41],oNn 43 0 3,oL 44 2 43,oL 45 4 2,oJ 46 QdX [45],oJ 47 Qg8 [44,46],oA 5 (.new oZ4),oA 6 (.new oZ4),oPp 4 5 42,oPp 4 6 47] [4,5,6] [[4],[5],[6]])<|.seq (oR [oNn 48 0 5,oL 49 2 48,oNn 50 0 6,oL 51 2 50,oJ 52 QbR [49,51],oL 53 4 5,oJ 54 QdX [53],oL 55 4 6,oJ 56 QdX [55],oJ 57 QbR [54,56],oJ 58 QgJ [52,57],oPp 4 4 58] [4] [[4]])<|.ret,[.cell 4 (some 4)]⟩

def QiB:CF:=⟨1,.seq (oR [oA 2 (.mov (.c (.z true)))] [0] [])<|.seq (.seq (oR [oM 3 0,oQq 4 3,oA 5 (.bin .eql (.t 4) (oC 0))] [0,5] [])<|.cond (.t 5) (.seq (oR [oA 2 (.mov (.c (.z true)))] [2] [])<|.ret)<|.skip)<|.seq (oR [oM 6 0,oA 7 (.call QgC [(oC 1),(oC 1)] false),oM 8 0,oM 9 0,oQq 10 9,oA 11 (.bin .sub (.t 10) (oC 1)),oXx 12 4 8 11,oL 13 4 12,oJ 14 Qkk [7,13],oJ 15 Qiu [6,14],oM 2 15] [2] [])<|.ret,[.t 2]⟩

def Qfg:C :=
 .seq (.seq (oR [oBb 56 .lss 55 54] [1,6,7,8,9,53,54,55,56] [[9],[16],[24]])<|.seq (.cond (.t 56) (.skip)<|.seq (.keep [1,6,7,8] [[16],[24]])<|.exit 2)<|.seq (.seq (.blk 3<|.seq (oR [oM 57 55,oXx 58 4 53 55,oL 59 4 58,oA 11 (.new oZ4),oM 10 57,oPp 4 11 59] [1,6,7,8,9,10,11,53,54,55] [[9],[11],[16],[24]])<|oR [oM 60 6,oM 61 8,oM 62 10,oBb 63 .add 61 62,oM 64 6,oM 65 8,oM 66 10,oBb 67 .add 65 66,oXx 68 4 64 67,oL 69 4 68,oL 70 4 9,oL 71 4 11,oJ 72 QeD [70,71],oJ 73 QpX [69,72],oXx 74 4 60 63,oPp 4 74 73] [1,6,7,8,9,53,54,55] [[9],[16],[24]])<|.keep [1,6,7,8,9,53,54,55] [[9],[16],[24]])<|oR [oA 75 (.bin .add (.t 55) (oC 1)),oM 55 75] [1,6,7,8,9,53,54,55] [[9],[16],[24]])<|.keep [1,6,7,8,9,53,54,55] [[9],[16],[24]]
def QcF:C :=
 .seq (.seq (.seq (oR [oM 30 8,oA 31 (.bin .geq (.t 30) (oC 0))] [1,6,7,8,31] [[16],[24]])<|.cond (.t 31) (.skip)<|.seq (.keep [6,7] [[16],[24]])<|.exit 0)<|.seq (.seq (.blk 1<|.seq (oR [oM 34 6,oM 35 8,oM 36 1,oQq 37 36,oBb 38 .add 35 37,oA 39 (.bin .sub (.t 38) (oC 1)),oXx 40 4 34 39,oL 41 4 40,oM 42 1,oM 43 1,oQq 44 43,oA 45 (.bin .sub (.t 44) (oC 1)),oXx 46 4 42 45,oL 47 4 46,oJ 48 Qkk [41,47],oA 9 (.new oZ4),oPp 4 9 48] [1,6,7,8,9] [[9],[16],[24]])<|.seq (oR [oM 49 7,oM 50 8,oL 51 4 9,oXx 52 4 49 50,oPp 4 52 51] [1,6,7,8,9] [[9],[16],[24]])<|.seq (oR [oM 53 1,oQq 54 53,oA 55 (.mov (oC 0))] [1,6,7,8,9,53,54,55] [[9],[16],[24]])<|.seq (.blk 2<|.seq (.keep [1,6,7,8,9,53,54,55] [[9],[16],[24]])<|.loop Qfg)<|.keep [1,6,7,8] [[16],[24]])<|.keep [1,6,7,8] [[16],[24]])<|oR [oM 32 8,oA 33 (.bin .sub (.t 32) (oC 1)),oM 8 33] [1,6,7,8] [[16],[24]])<|.keep [1,6,7,8] [[16],[24]]
def QiJ:CF:=⟨2,.seq (oR [oA 4 (.mov (.c (.z true))),oA 5 (.mov (.c (.z true)))] [0,1] [])<|.seq (.seq (oR [oM 12 1,oQq 13 12,oA 14 (.bin .eql (.t 13) (oC 0))] [0,1,14] [])<|.cond (.t 14) (.seq (oR [oA 4 (.mov (.c (.z true))),oA 5 (.mov (.c (.z true)))] [4,5] [])<|.ret)<|.skip)<|.seq (oR [oM 15 0,oA 16 (.call QaR [.t 15] true),oM 6 16] [0,1,6] [[16]])<|.seq (oR [oM 17 0,oQq 18 17,oM 19 1,oQq 20 19,oBb 21 .sub 18 20,oA 22 (.bin .add (.t 21) (oC 1)),oA 23 (.mx [(oC 0),(.t 22)]),oA 24 (.mksl 4 64 oZ4 (.t 23) (.t 23)),oM 7 24] [0,1,6,7] [[16],[24]])<|.seq (.seq (oR [oM 25 0,oQq 26 25,oM 27 1,oQq 28 27,oBb 29 .sub 26 28,oM 8 29] [1,6,7,8] [[16],[24]])<|.seq (.blk 0<|.seq (.keep [1,6,7,8] [[16],[24]])<|.loop QcF)<|.keep [6,7] [[16],[24]])<|.seq (.seq (.frz 7)<|.seq (.frz 6)<|oR [oM 76 7,oJ 77 Qfb [76],oM 78 6,oJ 79 Qfb [78],oM 4 77,oM 5 79] [4,5] [])<|.ret,[.t 4,.t 5]⟩

def QhL:CF:=⟨2,.seq (oR [oEe 2 0,oA 3 (.mov (.c (.v (.bool false))))] [1,2] [[2]])<|.seq (oR [oDd 4 1,oL 5 4 2,oJ 6 QhP [4,5],oJ 7 Qep [6],oA 8 (.bin .lss (.t 7) (oC 0)),oM 3 8] [3] [])<|.ret,[.t 3]⟩

def Qer:C :=
 .seq (.seq (.seq (oR [oM 12 4,oQq 13 12,oA 14 (.bin .gtr (.t 13) (oC 1))] [3,4,14] [])<|.cond (.t 14) (.skip)<|.seq (.keep [3] [])<|.exit 0)<|.seq (.blk 1<|.seq (oR [oM 15 4,oJ 16 Qc0 [15],oM 5 16] [3,4,5] [])<|.seq (oR [oM 18 4,oM 19 5,oJ 20 Qdf [18,19],oM 17 20,oA 21 (.ext (.t 17) 0),oA 22 (.ext (.t 17) 1),oM 4 21] [3,4,5] [])<|.seq (oR [oM 23 4,oJ 24 Qc0 [23],oM 6 24] [3,4,5,6] [])<|.seq (oR [oM 26 5,oM 27 5,oM 28 6,oJ 29 QiP [27,28],oJ 30 Qdf [26,29],oM 25 30,oA 31 (.ext (.t 25) 0),oA 32 (.ext (.t 25) 1),oM 7 31,oM 8 32] [3,4,6,7] [])<|.seq (oR [oM 33 3,oM 34 7,oJ 35 QkY [33,34],oM 3 35] [3,4,6] [])<|oR [oM 37 4,oM 38 6,oJ 39 Qdf [37,38],oM 36 39,oA 40 (.ext (.t 36) 0),oA 41 (.ext (.t 36) 1),oM 4 40] [3,4] [])<|.keep [3,4] [])<|.keep [3,4] []
def Qmz:CF:=⟨1,.seq (oR [oA 2 (.mov (.c (.z true)))] [0] [])<|.seq (oR [oA 9 (.call QgC [(oC 1),(oC 1)] false),oA 10 (.lit 4 1 oZ4 [(0,(.t 9))] true),oM 3 10] [0,3] [])<|.seq (oR [oM 11 0,oM 4 11] [3,4] [])<|.seq (.seq (.blk 0<|.seq (.keep [3,4] [])<|.loop Qer)<|.keep [3] [])<|.seq (oR [oM 42 3,oM 2 42] [2] [])<|.ret,[.t 2]⟩

def Qib:CF:=⟨1,.seq (oR [oEe 1 0,oA 2 (.new oZ4)] [1,2] [[1],[2]])<|.seq (oR [oNn 3 0 1,oL 4 4 3,oNn 5 4 1,oL 6 4 5,oJ 7 Qgr [4,6],oA 8 (.call QgC [(oC 1),(oC 2)] false),oJ 9 QeD [7,8],oPp 4 2 9] [2] [[2]])<|.ret,[.cell 2 (some 4)]⟩

def Qik:CF:=⟨3,.seq (oR [oA 4 (.new oZ4)] [0,1,2,4] [[4]])<|.seq (oR [oDd 5 1,oM 6 0,oXx 7 4 5 6,oL 8 4 7,oL 9 4 2,oJ 10 QeD [8,9],oPp 4 4 10] [4] [[4]])<|.ret,[.cell 4 (some 4)]⟩

def QfO:CF:=⟨1,.seq (oR [oEe 1 0,oA 2 (.mov (oC 0))] [1] [[1]])<|.seq (oR [oL 3 2 1,oA 4 (.build [.v (.bool false),.z true] []),oJ 5 Qdq [3,4],oM 2 5] [2] [])<|.ret,[.t 2]⟩

def Qgq:CF:=⟨2,.seq (oR [oEe 2 0,oEe 3 1,oA 4 (.new oZ4)] [2,3,4] [[2],[3],[4]])<|.seq (oR [oNn 5 0 2,oL 6 2 5,oNn 7 0 3,oL 8 2 7,oJ 9 QaV [6,8],oL 10 4 2,oJ 11 QaT [10],oL 12 4 3,oJ 13 QaT [12],oJ 14 QaV [11,13],oJ 15 QcA [9,14],oPp 4 4 15] [4] [[4]])<|.ret,[.cell 4 (some 4)]⟩

def QbX:CF:=⟨1,.seq (oR [oA 2 (.mov (.c (.z true)))] [0] [])<|.seq (oR [oM 3 0,oA 4 (.call Qb4 [(.c (.z true)),(.t 3)] false),oM 2 4] [2] [])<|.ret,[.t 2]⟩

def Qjm:CF:=⟨2,.seq (oR [oEe 2 0,oEe 3 1,oA 4 (.mov (.c (.v (.nilFunc))))] [2,3] [[2],[3]])<|.seq (oR [oA 5 (.mkfn QaI [.t 2,.t 3] true),oM 4 5] [4] [])<|.ret,[.t 4]⟩

def QcW:CF:=⟨3,.seq (oR [oEe 4 1,oEe 5 2,oA 6 (.mov (oC 0))] [0,4,5] [[4],[5]])<|.seq (.seq (oR [oL 7 4 4,oL 8 4 5,oJ 9 Qbr [7,8],oA 10 (.bin .geq (.t 9) (oC 0))] [0,4,5,10] [[4],[5]])<|.cond (.t 10) (.seq (oR [oA 6 (.mov (oC 0))] [6] [])<|.ret)<|.skip)<|.seq (oR [oM 11 0,oL 12 4 4,oJ 13 Qdr [11,12],oM 14 0,oL 15 4 5,oJ 16 Qdr [14,15],oBb 17 .sub 13 16,oM 6 17] [6] [])<|.ret,[.t 6]⟩

def Qdk:CF:=⟨2,.seq (oR [oEe 3 1,oA 4 (.new oZ8)] [0,3,4] [[3],[4]])<|.seq (oR [oNn 6 0 3,oL 7 4 6,oNn 8 4 3,oL 9 4 8,oJ 10 QfV [7,9],oA 5 (.new oZ4),oPp 4 5 10] [0,3,4,5] [[3],[4],[5]])<|.seq (.seq (oR [oM 11 0,oNn 12 0 3,oL 13 4 12,oL 14 4 5,oJ 15 Qcv [11,13,14],oA 16 (.bin .eql (.t 15) (oC 1))] [3,4,5,16] [[3],[4],[5]])<|.cond (.t 16) (.seq (oR [oNn 17 0 3,oL 18 4 17,oL 19 4 5,oA 20 (.build oZ8 [(0,4,(.t 18)),(4,4,(.t 19))]),oPp 8 4 20] [4] [[4]])<|.ret)<|.skip)<|.seq (oR [oL 21 4 5,oNn 22 4 3,oL 23 4 22,oA 24 (.build oZ8 [(0,4,(.t 21)),(4,4,(.t 23))]),oPp 8 4 24] [4] [[4]])<|.ret,[.cell 4 (some 8)]⟩

def Qa6:CF:=⟨1,.seq (oR [oA 2 (.mov (.c (.z true)))] [0] [])<|.seq (.seq (oR [oM 3 0,oA 4 (.isn false (.t 3))] [0,4] [])<|.cond (.t 4) (.seq (oR [oA 2 (.mov (.c (.z true)))] [2] [[5],[7]])<|.ret)<|.skip)<|.seq (oR [oA 5 (.lit 4 0 oZ4 [] false),oM 6 0,oA 7 (.app 4 64 (.t 5) (.t 6) false),oM 2 7] [2] [[5],[7]])<|.ret,[.t 2]⟩

def QcB:C :=
 .seq (.seq (.seq (oR [oM 6 3,oA 7 (.bin .gtr (.t 6) (oC 0)),oM 8 7,oHh 9 8 true 0,oHh 10 8 true 3,oG 11 8 true (.bin .sub (.t 10) (oC 1)),oG 12 8 true (.ixa 4 (.t 9) (.t 11)),oG 13 8 true (.load (some 4) (.t 12)),oG 14 8 true (.call Qep [.t 13] false),oG 15 8 true (.bin .eql (.t 14) (oC 0)),oA 16 (.pick (.t 8) (.t 15) (.c (.v (.bool false))))] [0,3,16] [])<|.cond (.t 16) (.skip)<|.seq (.keep [0,3] [])<|.exit 0)<|.seq (.blk 1<|oR [oM 17 3,oA 18 (.bin .sub (.t 17) (oC 1)),oM 3 18] [0,3] [])<|.keep [0,3] [])<|.keep [0,3] []
def QjN:CF:=⟨1,.seq (oR [oA 2 (.mov (.c (.z true)))] [0] [])<|.seq (oR [oM 4 0,oQq 5 4,oM 3 5] [0,3] [])<|.seq (.seq (.blk 0<|.seq (.keep [0,3] [])<|.loop QcB)<|.keep [0,3] [])<|.seq (oR [oM 19 0,oM 20 3,oA 21 (.slc 4 (.t 19) none (some (.t 20)) none),oJ 22 QaR [21],oM 2 22] [2] [])<|.ret,[.t 2]⟩

def QbW:C :=
 .seq (.seq (.seq (oR [oM 13 6,oQq 14 13,oA 15 (.bin .gtr (.t 14) (oC 0))] [5,6,15] [])<|.cond (.t 15) (.skip)<|.seq (.keep [5] [])<|.exit 0)<|.seq (.blk 1<|.seq (oR [oM 17 5,oM 18 6,oJ 19 QdE [17,18],oM 16 19,oA 20 (.ext (.t 16) 0),oA 21 (.ext (.t 16) 1),oM 7 20,oM 8 21] [6,8] [])<|.seq (oR [oM 22 6,oM 5 22] [5,8] [])<|oR [oM 23 8,oJ 24 Qci [23],oM 6 24] [5,6] [])<|.keep [5,6] [])<|.keep [5,6] []
def Qgx:CF:=⟨2,.seq (oR [oA 4 (.mov (.c (.z true)))] [0,1] [])<|.seq (oR [oM 9 0,oJ 10 Qci [9],oM 5 10] [1,5] [])<|.seq (oR [oM 11 1,oJ 12 Qci [11],oM 6 12] [5,6] [])<|.seq (.seq (.blk 0<|.seq (.keep [5,6] [])<|.loop QbW)<|.keep [5] [])<|.seq (oR [oM 25 5,oM 4 25] [4] [])<|.ret,[.t 4]⟩

def QdG:CF:=⟨1,.seq (oR [oA 2 (.mov (.c (.z true)))] [0] [])<|.seq (.seq (oR [oM 3 0,oQq 4 3,oA 5 (.bin .eql (.t 4) (oC 0))] [0,5] [])<|.cond (.t 5) (.seq (oR [oA 2 (.mov (.c (.z true)))] [2] [])<|.ret)<|.skip)<|.seq (oR [oM 6 0,oA 7 (.call Qap [(oC 1),(oC 1)] false),oM 8 0,oM 9 0,oQq 10 9,oA 11 (.bin .sub (.t 10) (oC 1)),oXx 12 4 8 11,oL 13 4 12,oJ 14 QdC [7,13],oJ 15 QcZ [6,14],oM 2 15] [2] [])<|.ret,[.t 2]⟩

def QaY:C :=
 .seq (.seq (.seq (oR [oM 7 6,oM 8 0,oQq 9 8,oBb 10 .lss 7 9,oM 11 10,oHh 12 11 false 6,oHh 13 11 false 1,oG 14 11 false (.len (.t 13)),oG 15 11 false (.bin .lss (.t 12) (.t 14)),oA 16 (.pick (.t 11) (.c (.v (.bool true))) (.t 15))] [0,1,5,6,16] [[28]])<|.cond (.t 16) (.skip)<|.seq (.keep [5] [[28]])<|.exit 0)<|.seq (.seq (.blk 1<|oR [oM 19 5,oM 20 0,oM 21 6,oJ 22 QfR [20,21],oM 23 1,oM 24 6,oJ 25 QfR [23,24],oJ 26 Qcf [22,25],oA 27 (.lit 4 1 oZ4 [(0,(.t 26))] true),oA 28 (.app 4 64 (.t 19) (.t 27) false),oM 5 28] [0,1,5,6] [[28]])<|.keep [0,1,5,6] [[28]])<|oR [oM 17 6,oA 18 (.bin .add (.t 17) (oC 1)),oM 6 18] [0,1,5,6] [[28]])<|.keep [0,1,5,6] [[28]]
def QeH:CF:=⟨2,.seq (oR [oA 4 (.mov (.c (.z true)))] [0,1] [])<|.seq (oR [oA 5 (.mov (.c (.z true)))] [0,1,5] [[28]])<|.seq (.seq (oR [oA 6 (.mov (oC 0))] [0,1,5,6] [[28]])<|.seq (.blk 0<|.seq (.keep [0,1,5,6] [[28]])<|.loop QaY)<|.keep [5] [[28]])<|.seq (.seq (.frz 5)<|oR [oM 29 5,oJ 30 Qat [29],oM 4 30] [4] [])<|.ret,[.t 4]⟩

def Qf9:CF:=⟨2,.seq (oR [oA 4 (.mov (.c (.z true)))] [0,1] [])<|.seq (oR [oM 5 0,oM 6 1,oA 7 (.call Qap [(oC (-1)),(oC 1)] false),oJ 8 QcZ [6,7],oJ 9 QeZ [5,8],oM 4 9] [4] [])<|.ret,[.t 4]⟩

def Qht:CF:=⟨2,.seq (oR [oA 3 (.new oZ4)] [0,1,3] [[3]])<|.seq (oR [oDd 4 1,oM 5 0,oA 6 (.bin .add (.t 5) (oC 1)),oXx 7 4 4 6,oL 8 4 7,oM 9 0,oA 10 (.bin .add (.t 9) (oC 1)),oA 11 (.call QgC [(.t 10),(oC 1)] false),oJ 12 QeD [8,11],oPp 4 3 12] [3] [[3]])<|.ret,[.cell 3 (some 4)]⟩

def Qfy:CF:=⟨1,.seq (oR [oEe 1 0,oA 2 (.mov (oC 0))] [1] [[1]])<|.seq (.seq (.blk 0<|.seq (oR [oNn 4 0 1,oDd 5 4,oM 3 5] [1,3] [[1]])<|.cond (.t 3) (.seq (oR [oA 2 (.mov (oC (-1)))] [2] [])<|.ret)<|.seq (oR [oNn 7 1 1,oDd 8 7,oQq 9 8,oA 10 (.bin .eql (.t 9) (oC 0)),oM 6 10] [6] [])<|.cond (.t 6) (.seq (oR [oA 2 (.mov (oC 0))] [2] [])<|.ret)<|.skip)<|.keep [] [])<|.seq (oR [oA 2 (.mov (oC 1))] [2] [])<|.ret,[.t 2]⟩

def Qbc:CF:=⟨1,.seq (oR [oEe 1 0,oA 2 (.mov (.c (.v (.nilFunc))))] [1] [[1]])<|.seq (oR [oA 3 (.mkfn Qag [.t 1] true),oM 2 3] [2] [])<|.ret,[.t 2]⟩

def Qf8:CF:=⟨2,.seq (oR [oEe 2 0,oEe 3 1,oA 4 (.new oZ4)] [2,3,4] [[2],[3],[4]])<|.seq (.seq (oR [oNn 5 0 3,oDd 6 5] [2,3,4,6] [[2],[3],[4]])<|.cond (.t 6) (oR [oL 7 2 2,oJ 8 Qf0 [7],oL 9 2 3,oJ 10 Qf0 [9],oPp 2 2 8,oPp 2 3 10] [2,3,4] [[2],[3],[4]])<|.skip)<|.seq (.seq (oR [oL 11 2 3,oJ 12 Qky [11]] [2,3,4,12] [[2],[3],[4]])<|.cond (.t 12) (.seq (oR [oL 13 2 2,oA 14 (.build oZ4 [(0,2,(.t 13))]),oPp 4 4 14] [4] [[4]])<|.ret)<|.skip)<|.seq (oR [oL 15 2 2,oL 16 2 3,oA 17 (.build oZ4 [(0,2,(.t 15)),(2,2,(.t 16))]),oPp 4 4 17] [4] [[4]])<|.ret,[.cell 4 (some 4)]⟩

def QoN:CF:=⟨1,.seq (oR [oEe 1 0,oA 2 (.new [.v (.bool false),.z true])] [1,2] [[1],[2]])<|.seq (.seq (oR [oNn 3 2 1,oNn 4 1 3,oDd 5 4,oQq 6 5,oA 7 (.bin .eql (.t 6) (oC 0))] [1,2,7] [[1],[2]])<|.cond (.t 7) (.seq (oR [oJ 8 Qo9 [],oPp 2 2 8] [2] [[2]])<|.ret)<|.skip)<|.seq (oR [oNn 9 2 1,oL 10 2 9,oPp 2 2 10] [2] [[2]])<|.ret,[.cell 2 (some 2)]⟩

def Qhx:CF:=⟨1,.seq (oR [oEe 1 0,oA 2 (.new [.v (.bool false),.z true])] [1,2] [[1],[2]])<|.seq (oR [oNn 3 0 1,oDd 4 3,oA 5 (.un .not (.t 4)),oM 6 5,oG 7 6 true (.fad 1 (.t 1)),oG 8 6 true (.load none (.t 7)),oG 9 6 true (.len (.t 8)),oG 10 6 true (.bin .gtr (.t 9) (oC 0)),oA 11 (.pick (.t 6) (.t 10) (.c (.v (.bool false)))),oNn 12 0 1,oPp 1 12 11] [1,2] [[1],[2]])<|.seq (oR [oL 13 2 1,oPp 2 2 13] [2] [[2]])<|.ret,[.cell 2 (some 2)]⟩

def QcS:CF:=⟨2,.seq (oR [oEe 2 0,oEe 3 1,oA 4 (.mov (oC 0))] [2,3] [[2],[3]])<|.seq (.seq (.blk 0<|.seq (oR [oNn 6 0 2,oDd 7 6,oNn 8 0 3,oDd 9 8,oA 10 (.binb true (.t 7) (.t 9)),oM 11 10,oG 12 11 true (.fad 0 (.t 2)),oG 13 11 true (.load none (.t 12)),oA 14 (.pick (.t 11) (.t 13) (.c (.v (.bool false)))),oM 5 14] [2,3,5] [[2],[3]])<|.cond (.t 5) (.seq (oR [oA 4 (.mov (oC (-1)))] [4] [])<|.ret)<|.seq (oR [oNn 16 0 2,oDd 17 16,oNn 18 0 3,oDd 19 18,oA 20 (.binb true (.t 17) (.t 19)),oM 15 20] [2,3,15] [[2],[3]])<|.cond (.t 15) (.seq (oR [oA 4 (.mov (oC 1))] [4] [])<|.ret)<|.seq (oR [oNn 22 0 2,oDd 23 22,oM 21 23] [2,3,21] [[2],[3]])<|.cond (.t 21) (.seq (oR [oNn 24 1 3,oDd 25 24,oNn 26 1 2,oDd 27 26,oJ 28 QcL [25,27],oM 4 28] [4] [])<|.ret)<|.skip)<|.keep [2,3] [[2],[3]])<|.seq (oR [oNn 29 1 2,oDd 30 29,oNn 31 1 3,oDd 32 31,oJ 33 QcL [30,32],oM 4 33] [4] [])<|.ret,[.t 4]⟩

def QiL:CF:=⟨1,.seq (oR [oA 2 (.new [.v (.bool false),.z true])] [0,2] [[2]])<|.seq (oR [oM 4 0,oA 5 (.conv (.int .u64) (.t 4)),oM 3 5] [0,2,3] [[2]])<|.seq (.seq (oR [oM 6 0,oA 7 (.bin .lss (.t 6) (oC 0))] [0,2,3,7] [[2]])<|.cond (.t 7) (oR [oM 8 3,oA 9 (.un .neg (.t 8)),oM 3 9] [0,2,3] [[2]])<|.skip)<|.seq (oR [oM 10 0,oA 11 (.bin .lss (.t 10) (oC 0)),oM 12 3,oJ 13 QbA [11,12],oPp 2 2 13] [2] [[2]])<|.ret,[.cell 2 (some 2)]⟩

def Qde:C :=
 .seq (.seq (oR [oBb 57 .lss 56 55] [2,3,4,6,7,8,9,10,47,48,49,54,55,56,57] [[2],[3],[4],[46]])<|.seq (.cond (.t 57) (.skip)<|.seq (.keep [2,3,4,6,7,8,10,47,48,49] [[2],[3],[4],[46]])<|.exit 2)<|.seq (.seq (.blk 3<|.seq (oR [oM 58 56,oXx 59 1 54 56,oDd 60 59,oM 11 58,oM 12 60] [2,3,4,6,7,8,9,10,11,12,47,48,49,54,55,56] [[2],[3],[4],[46]])<|.seq (oR [oM 61 7,oM 62 8,oM 63 11,oBb 64 .add 62 63,oXx 65 1 61 64,oDd 66 65,oM 67 9,oM 68 12,oBb 69 .mul 67 68,oBb 70 .add 66 69,oM 71 10,oBb 72 .add 70 71,oM 13 72] [2,3,4,6,7,8,9,11,13,47,48,49,54,55,56] [[2],[3],[4],[46]])<|.seq (oR [oM 73 13,oA 74 (.bin .quo (.t 73) (oC 1000000000)),oM 10 74] [2,3,4,6,7,8,9,10,11,13,47,48,49,54,55,56] [[2],[3],[4],[46]])<|oR [oM 75 7,oM 76 8,oM 77 11,oBb 78 .add 76 77,oM 79 13,oM 80 10,oA 81 (.bin .mul (.t 80) (oC 1000000000)),oBb 82 .sub 79 81,oXx 83 1 75 78,oPp 1 83 82] [2,3,4,6,7,8,9,10,47,48,49,54,55,56] [[2],[3],[4],[46]])<|.keep [2,3,4,6,7,8,9,10,47,48,49,54,55,56] [[2],[3],[4],[46]])<|oR [oA 84 (.bin .add (.t 56) (oC 1)),oM 56 84] [2,3,4,6,7,8,9,10,47,48,49,54,55,56] [[2],[3],[4],[46]])<|.keep [2,3,4,6,7,8,9,10,47,48,49,54,55,56] [[2],[3],[4],[46]]
def Qdg:C :=
 .seq (.seq (oR [oBb 50 .lss 49 48] [2,3,4,6,7,47,48,49,50] [[2],[3],[4],[46]])<|.seq (.cond (.t 50) (.skip)<|.seq (.keep [2,3,4,7] [[2],[3],[4],[46]])<|.exit 0)<|.seq (.seq (.blk 1<|.seq (oR [oM 51 49,oXx 52 1 47 49,oDd 53 52,oM 8 51,oM 9 53] [2,3,4,6,7,8,9,47,48,49] [[2],[3],[4],[46]])<|.seq (oR [oA 10 (.mov (oC 0))] [2,3,4,6,7,8,9,10,47,48,49] [[2],[3],[4],[46]])<|.seq (.seq (oR [oM 54 6,oQq 55 54,oA 56 (.mov (oC 0))] [2,3,4,6,7,8,9,10,47,48,49,54,55,56] [[2],[3],[4],[46]])<|.seq (.blk 2<|.seq (.keep [2,3,4,6,7,8,9,10,47,48,49,54,55,56] [[2],[3],[4],[46]])<|.loop Qde)<|.keep [2,3,4,6,7,8,10,47,48,49] [[2],[3],[4],[46]])<|oR [oM 85 7,oM 86 8,oM 87 6,oQq 88 87,oBb 89 .add 86 88,oM 90 10,oXx 91 1 85 89,oPp 1 91 90] [2,3,4,6,7,47,48,49] [[2],[3],[4],[46]])<|.keep [2,3,4,6,7,47,48,49] [[2],[3],[4],[46]])<|oR [oA 92 (.bin .add (.t 49) (oC 1)),oM 49 92] [2,3,4,6,7,47,48,49] [[2],[3],[4],[46]])<|.keep [2,3,4,6,7,47,48,49] [[2],[3],[4],[46]]
def Qe3:CF:=⟨2,.seq (oR [oEe 2 0,oEe 3 1,oA 4 (.new [.v (.bool false),.z true])] [2,3,4] [[2],[3],[4]])<|.seq (oR [oNn 14 1 2,oDd 15 14,oNn 16 1 3,oDd 17 16,oM 5 15,oM 6 17] [2,3,4,5,6] [[2],[3],[4]])<|.seq (.seq (oR [oM 18 5,oQq 19 18,oA 20 (.bin .eql (.t 19) (oC 1)),oM 21 20,oHh 22 21 true 6,oG 23 21 true (.len (.t 22)),oG 24 21 true (.bin .eql (.t 23) (oC 1)),oA 25 (.pick (.t 21) (.t 24) (.c (.v (.bool false))))] [2,3,4,5,6,25] [[2],[3],[4]])<|.cond (.t 25) (.seq (oR [oNn 26 0 2,oDd 27 26,oNn 28 0 3,oDd 29 28,oA 30 (.binb true (.t 27) (.t 29)),oM 31 5,oA 32 (.ixa 1 (.t 31) (oC 0)),oDd 33 32,oA 34 (.conv (.int .u64) (.t 33)),oM 35 6,oA 36 (.ixa 1 (.t 35) (oC 0)),oDd 37 36,oA 38 (.conv (.int .u64) (.t 37)),oBb 39 .mul 34 38,oJ 40 QbA [30,39],oPp 2 4 40] [4] [[4]])<|.ret)<|.skip)<|.seq (oR [oM 41 5,oQq 42 41,oM 43 6,oQq 44 43,oBb 45 .add 42 44,oA 46 (.mksl 1 8 [.v (.int .i64 0)] (.t 45) (.t 45)),oM 7 46] [2,3,4,5,6,7] [[2],[3],[4],[46]])<|.seq (.seq (oR [oM 47 5,oQq 48 47,oA 49 (.mov (oC 0))] [2,3,4,6,7,47,48,49] [[2],[3],[4],[46]])<|.seq (.blk 0<|.seq (.keep [2,3,4,6,7,47,48,49] [[2],[3],[4],[46]])<|.loop Qdg)<|.keep [2,3,4,7] [[2],[3],[4],[46]])<|.seq (.seq (.frz 7)<|oR [oNn 93 0 2,oDd 94 93,oNn 95 0 3,oDd 96 95,oA 97 (.binb true (.t 94) (.t 96)),oM 98 7,oJ 99 Qbt [97,98],oPp 2 4 99] [4] [[4]])<|.ret,[.cell 4 (some 2)]⟩

def Qgw:CF:=⟨2,.seq (oR [oEe 2 0,oEe 3 1,oA 4 (.new [.v (.bool false),.z true])] [2,3,4] [[2],[3],[4]])<|.seq (.seq (.blk 0<|.seq (oR [oNn 6 0 2,oDd 7 6,oNn 8 0 3,oDd 9 8,oA 10 (.binb false (.t 7) (.t 9)),oM 5 10] [2,3,4,5] [[2],[3],[4]])<|.cond (.t 5) (.seq (oR [oNn 11 0 2,oDd 12 11,oNn 13 1 2,oDd 14 13,oNn 15 1 3,oDd 16 15,oJ 17 Qd6 [14,16],oJ 18 Qbt [12,17],oPp 2 4 18] [4] [[4]])<|.ret)<|.seq (oR [oNn 20 1 2,oDd 21 20,oNn 22 1 3,oDd 23 22,oJ 24 QcL [21,23],oA 25 (.bin .lss (.t 24) (oC 0)),oM 19 25] [2,3,4,19] [[2],[3],[4]])<|.cond (.t 19) (.seq (oR [oNn 26 0 3,oDd 27 26,oNn 28 1 3,oDd 29 28,oNn 30 1 2,oDd 31 30,oJ 32 QeC [29,31],oJ 33 Qbt [27,32],oPp 2 4 33] [4] [[4]])<|.ret)<|.skip)<|.keep [2,3,4] [[2],[3],[4]])<|.seq (oR [oNn 34 0 2,oDd 35 34,oNn 36 1 2,oDd 37 36,oNn 38 1 3,oDd 39 38,oJ 40 QeC [37,39],oJ 41 Qbt [35,40],oPp 2 4 41] [4] [[4]])<|.ret,[.cell 4 (some 2)]⟩

def QiR:CF:=⟨2,.seq (oR [oEe 2 0,oEe 3 1,oA 4 (.new oZ4)] [2,3,4] [[2],[3],[4]])<|.seq (.seq (oR [oNn 6 1 3,oDd 7 6,oQq 8 7,oA 9 (.bin .eql (.t 8) (oC 0)),oM 10 9,oG 11 10 false (.fad 1 (.t 2)),oG 12 10 false (.load none (.t 11)),oG 13 10 false (.len (.t 12)),oG 14 10 false (.bin .eql (.t 13) (oC 0)),oA 15 (.pick (.t 10) (.c (.v (.bool true))) (.t 14))] [2,3,4,15] [[2],[3],[4]])<|.cond (.t 15) (.seq (oR [oA 16 (.build oZ4 []),oPp 4 4 16] [4] [[4]])<|.ret)<|.skip)<|.seq (.seq (oR [oL 17 2 2,oL 18 2 3,oJ 19 Qkr [17,18],oA 5 (.new [.v (.bool false),.z true]),oPp 2 5 19] [2,3,4,5] [[2],[3],[4],[5]])<|.seq (oR [oL 20 2 5,oJ 21 Qky [20],oA 22 (.un .not (.t 21))] [2,3,4,5,22] [[2],[3],[4],[5]])<|.cond (.t 22) (.seq (oR [oL 24 2 2,oL 25 2 5,oJ 26 Qhu [24,25],oM 23 26,oA 27 (.ext (.t 23) 0),oA 28 (.ext (.t 23) 1),oPp 2 2 27] [2,3,4,5] [[2],[3],[4],[5]])<|oR [oL 30 2 3,oL 31 2 5,oJ 32 Qhu [30,31],oM 29 32,oA 33 (.ext (.t 29) 0),oA 34 (.ext (.t 29) 1),oPp 2 3 33] [2,3,4] [[2],[3],[4]])<|.skip)<|.seq (oR [oL 35 2 2,oL 36 2 3,oJ 37 QgJ [35,36],oPp 4 4 37] [4] [[4]])<|.ret,[.cell 4 (some 4)]⟩

def Qaw:C :=
 .seq (.seq (.seq (oR [oM 19 5,oA 20 (.bin .geq (.t 19) (oC 0))] [0,1,5,20] [])<|.cond (.t 20) (.skip)<|.seq (.keep [] [])<|.exit 0)<|.seq (.seq (.blk 1<|.seq (.seq (oR [oM 23 0,oM 24 5,oXx 25 1 23 24,oDd 26 25,oM 27 1,oM 28 5,oXx 29 1 27 28,oDd 30 29,oBb 31 .lss 26 30] [0,1,5,31] [])<|.cond (.t 31) (.seq (oR [oA 4 (.mov (oC (-1)))] [4] [])<|.ret)<|.skip)<|.seq (oR [oM 32 0,oM 33 5,oXx 34 1 32 33,oDd 35 34,oM 36 1,oM 37 5,oXx 38 1 36 37,oDd 39 38,oBb 40 .gtr 35 39] [0,1,5,40] [])<|.cond (.t 40) (.seq (oR [oA 4 (.mov (oC 1))] [4] [])<|.ret)<|.skip)<|.keep [0,1,5] [])<|oR [oM 21 5,oA 22 (.bin .sub (.t 21) (oC 1)),oM 5 22] [0,1,5] [])<|.keep [0,1,5] []
def Qbf:CF:=⟨2,.seq (oR [oA 4 (.mov (oC 0))] [0,1] [])<|.seq (.seq (oR [oM 6 0,oQq 7 6,oM 8 1,oQq 9 8,oBb 10 .lss 7 9] [0,1,10] [])<|.cond (.t 10) (.seq (oR [oA 4 (.mov (oC (-1)))] [4] [])<|.ret)<|.skip)<|.seq (.seq (oR [oM 11 0,oQq 12 11,oM 13 1,oQq 14 13,oBb 15 .gtr 12 14] [0,1,15] [])<|.cond (.t 15) (.seq (oR [oA 4 (.mov (oC 1))] [4] [])<|.ret)<|.skip)<|.seq (.seq (oR [oM 16 0,oQq 17 16,oA 18 (.bin .sub (.t 17) (oC 1)),oM 5 18] [0,1,5] [])<|.seq (.blk 0<|.seq (.keep [0,1,5] [])<|.loop Qaw)<|.keep [] [])<|.seq (oR [oA 4 (.mov (oC 0))] [4] [])<|.ret,[.t 4]⟩

def Qa0:C :=
 .seq (.seq (.seq (oR [oM 8 5,oA 9 (.bin .gtr (.t 8) (oC 0)),oM 10 9,oHh 11 10 true 1,oHh 12 10 true 5,oG 13 10 true (.bin .sub (.t 12) (oC 1)),oG 14 10 true (.mx [(.t 13),(oC 0)]),oG 15 10 true (.ixa 1 (.t 11) (.t 14)),oG 16 10 true (.load none (.t 15)),oG 17 10 true (.bin .eql (.t 16) (oC 0)),oA 18 (.pick (.t 10) (.t 17) (.c (.v (.bool false))))] [0,1,4,5,18] [[4]])<|.cond (.t 18) (.skip)<|.seq (.keep [0,1,4,5] [[4]])<|.exit 0)<|.seq (.blk 1<|oR [oM 19 5,oA 20 (.bin .sub (.t 19) (oC 1)),oM 5 20] [0,1,4,5] [[4]])<|.keep [0,1,4,5] [[4]])<|.keep [0,1,4,5] [[4]]
def Qdl:CF:=⟨2,.seq (oR [oA 4 (.new [.v (.bool false),.z true])] [0,1,4] [[4]])<|.seq (oR [oM 6 1,oQq 7 6,oM 5 7] [0,1,4,5] [[4]])<|.seq (.seq (.blk 0<|.seq (.keep [0,1,4,5] [[4]])<|.loop Qa0)<|.keep [0,1,4,5] [[4]])<|.seq (.seq (oR [oM 21 5,oA 22 (.bin .eql (.t 21) (oC 0))] [0,1,4,5,22] [[4]])<|.cond (.t 22) (.seq (oR [oA 23 (.build [.v (.bool false),.z true] []),oPp 2 4 23] [4] [[4]])<|.ret)<|.skip)<|.seq (oR [oM 24 0,oM 25 1,oM 26 5,oA 27 (.slc 1 (.t 25) none (some (.t 26)) none),oA 28 (.build [.v (.bool false),.z true] [(0,1,(.t 24)),(1,1,(.t 27))]),oPp 2 4 28] [4] [[4]])<|.ret,[.cell 4 (some 2)]⟩

def Qcz:C :=
 .seq (.seq (.seq (oR [oM 38 8,oA 39 (.bin .gtr (.t 38) (oC 0))] [4,7,8,39] [[4]])<|.cond (.t 39) (.skip)<|.seq (.keep [4,7] [[4]])<|.exit 2)<|.seq (.blk 3<|.seq (oR [oM 40 7,oM 41 8,oBb 42 .rem 40 41,oM 9 42] [4,8,9] [[4]])<|.seq (oR [oM 43 8,oM 7 43] [4,7,9] [[4]])<|oR [oM 44 9,oM 8 44] [4,7,8] [[4]])<|.keep [4,7,8] [[4]])<|.keep [4,7,8] [[4]]
def Qbi:C :=
 .seq (.seq (.seq (oR [oNn 18 1 6,oDd 19 18,oQq 20 19,oA 21 (.bin .gtr (.t 20) (oC 0))] [4,5,6,21] [[4],[5],[6]])<|.cond (.t 21) (.skip)<|.seq (.keep [4,5] [[4],[5]])<|.exit 0)<|.seq (.blk 1<|.seq (.seq (oR [oNn 22 1 5,oDd 23 22,oQq 24 23,oA 25 (.bin .leq (.t 24) (oC 2)),oM 26 25,oG 27 26 true (.fad 1 (.t 6)),oG 28 26 true (.load none (.t 27)),oG 29 26 true (.len (.t 28)),oG 30 26 true (.bin .leq (.t 29) (oC 2)),oA 31 (.pick (.t 26) (.t 30) (.c (.v (.bool false))))] [4,5,6,31] [[4],[5],[6]])<|.cond (.t 31) (.seq (oR [oNn 32 1 5,oDd 33 32,oJ 34 QbC [33],oM 7 34] [4,6,7] [[4],[6]])<|.seq (oR [oNn 35 1 6,oDd 36 35,oJ 37 QbC [36],oM 8 37] [4,7,8] [[4]])<|.seq (.seq (.blk 2<|.seq (.keep [4,7,8] [[4]])<|.loop Qcz)<|.keep [4,7] [[4]])<|.seq (oR [oM 45 7,oJ 46 QbH [45],oPp 2 4 46] [4] [[4]])<|.ret)<|.skip)<|.seq (oR [oL 48 2 5,oL 49 2 6,oJ 50 QdR [48,49],oM 47 50,oA 51 (.ext (.t 47) 0),oA 52 (.ext (.t 47) 1),oA 10 (.new [.v (.bool false),.z true]),oA 11 (.new [.v (.bool false),.z true]),oPp 2 10 51,oPp 2 11 52] [4,5,6,11] [[4],[5],[6],[11]])<|.seq (oR [oL 53 2 6,oPp 2 5 53] [4,5,6,11] [[4],[5],[6],[11]])<|oR [oL 54 2 11,oPp 2 6 54] [4,5,6] [[4],[5],[6]])<|.keep [4,5,6] [[4],[5],[6]])<|.keep [4,5,6] [[4],[5],[6]]
def QeE:CF:=⟨2,.seq (oR [oEe 2 0,oEe 3 1,oA 4 (.new [.v (.bool false),.z true])] [2,3,4] [[2],[3],[4]])<|.seq (oR [oNn 12 1 2,oDd 13 12,oA 14 (.call Qam [(.c (.v (.bool false))),(.t 13)] false),oA 5 (.new [.v (.bool false),.z true]),oPp 2 5 14] [3,4,5] [[3],[4],[5]])<|.seq (oR [oNn 15 1 3,oDd 16 15,oA 17 (.call Qam [(.c (.v (.bool false))),(.t 16)] false),oA 6 (.new [.v (.bool false),.z true]),oPp 2 6 17] [4,5,6] [[4],[5],[6]])<|.seq (.seq (.blk 0<|.seq (.keep [4,5,6] [[4],[5],[6]])<|.loop Qbi)<|.keep [4,5] [[4],[5]])<|.seq (oR [oL 55 2 5,oPp 2 4 55] [4] [[4]])<|.ret,[.cell 4 (some 2)]⟩

def Qdy:CF:=⟨2,.seq (oR [oEe 2 0,oEe 3 1,oA 4 (.new [.v (.bool false),.z true]),oA 5 (.new [.v (.bool false),.z true])] [2,3,4,5] [[2],[3],[4],[5]])<|.seq (.seq (oR [oNn 10 1 3,oDd 11 10,oQq 12 11,oA 13 (.bin .eql (.t 12) (oC 0))] [2,3,4,5,13] [[2],[3],[4],[5]])<|.cond (.t 13) (.seq (oR [oA 14 (.build [.v (.bool false),.z true] []),oA 15 (.build [.v (.bool false),.z true] []),oPp 2 4 14,oPp 2 5 15] [4,5] [[4],[5]])<|.ret)<|.skip)<|.seq (oR [oNn 17 1 2,oDd 18 17,oNn 19 1 3,oDd 20 19,oJ 21 QfD [18,20],oM 16 21,oA 22 (.ext (.t 16) 0),oA 23 (.ext (.t 16) 1),oM 6 22,oM 7 23] [2,3,4,5,6,7] [[2],[3],[4],[5]])<|.seq (oR [oNn 24 0 2,oDd 25 24,oNn 26 0 3,oDd 27 26,oA 28 (.binb true (.t 25) (.t 27)),oM 29 6,oJ 30 Qam [28,29],oA 8 (.new [.v (.bool false),.z true]),oPp 2 8 30] [2,3,4,5,7,8] [[2],[3],[4],[5],[8]])<|.seq (oR [oM 31 7,oA 32 (.call Qam [(.c (.v (.bool false))),(.t 31)] false),oA 9 (.new [.v (.bool false),.z true]),oPp 2 9 32] [2,3,4,5,8,9] [[2],[3],[4],[5],[8],[9]])<|.seq (.seq (oR [oNn 33 0 2,oDd 34 33,oM 35 34,oG 36 35 true (.fad 1 (.t 9)),oG 37 35 true (.load none (.t 36)),oG 38 35 true (.len (.t 37)),oG 39 35 true (.bin .gtr (.t 38) (oC 0)),oA 40 (.pick (.t 35) (.t 39) (.c (.v (.bool false))))] [2,3,4,5,8,9,40] [[2],[3],[4],[5],[8],[9]])<|.cond (.t 40) (.seq (oR [oL 41 2 8,oNn 42 0 2,oDd 43 42,oNn 44 0 3,oDd 45 44,oA 46 (.binb true (.t 43) (.t 45)),oA 47 (.lit 1 1 [.v (.int .i64 0)] [(0,(oC 1))] true),oJ 48 Qam [46,47],oJ 49 Qe2 [41,48],oPp 2 8 49] [3,4,5,8,9] [[3],[4],[5],[8],[9]])<|oR [oNn 50 1 3,oDd 51 50,oNn 52 1 9,oDd 53 52,oJ 54 Qch [51,53],oA 55 (.call Qam [(.c (.v (.bool false))),(.t 54)] false),oPp 2 9 55] [4,5,8,9] [[4],[5],[8],[9]])<|.skip)<|.seq (.seq (.reg [oL 56 2 8,oL 57 2 9,oPp 2 4 56,oPp 2 5 57] [((.t 9),2,(.t 4),2)])<|.keep [4,5] [[4],[5]])<|.ret,[.cell 4 (some 2),.cell 5 (some 2)]⟩

def QeK:CF:=⟨1,.seq (oR [oEe 1 0,oA 2 (.mov (.c (.v (.bool false))))] [1] [[1]])<|.seq (.seq (oR [oNn 3 0 1,oDd 4 3,oM 5 4,oG 6 5 false (.fad 1 (.t 1)),oG 7 5 false (.load none (.t 6)),oG 8 5 false (.len (.t 7)),oG 9 5 false (.bin .neq (.t 8) (oC 1)),oA 10 (.pick (.t 5) (.c (.v (.bool true))) (.t 9))] [1,10] [[1]])<|.cond (.t 10) (.seq (oR [oA 2 (.mov (.c (.v (.bool false))))] [2] [])<|.ret)<|.skip)<|.seq (oR [oNn 11 1 1,oDd 12 11,oA 13 (.ixa 1 (.t 12) (oC 0)),oDd 14 13,oA 15 (.bin .eql (.t 14) (oC 1)),oM 2 15] [2] [])<|.ret,[.t 2]⟩

def Qa5:C :=
 .seq (.seq (.seq (oR [oM 9 7,oM 10 0,oQq 11 10,oBb 12 .lss 9 11,oM 13 12,oHh 14 13 false 7,oHh 15 13 false 1,oG 16 13 false (.len (.t 15)),oG 17 13 false (.bin .lss (.t 14) (.t 16)),oA 18 (.pick (.t 13) (.c (.v (.bool true))) (.t 17)),oM 19 18,oHh 20 19 false 6,oG 21 19 false (.bin .gtr (.t 20) (oC 0)),oA 22 (.pick (.t 19) (.c (.v (.bool true))) (.t 21))] [0,1,5,6,7,22] [[38]])<|.cond (.t 22) (.skip)<|.seq (.keep [5] [[38]])<|.exit 0)<|.seq (.seq (.blk 1<|.seq (oR [oM 25 0,oM 26 7,oJ 27 QbP [25,26],oM 28 1,oM 29 7,oJ 30 QbP [28,29],oBb 31 .add 27 30,oM 32 6,oBb 33 .add 31 32,oM 8 33] [0,1,5,7,8] [[38]])<|.seq (oR [oM 34 5,oM 35 8,oA 36 (.bin .rem (.t 35) (oC 1000000000)),oA 37 (.lit 1 1 [.v (.int .i64 0)] [(0,(.t 36))] true),oA 38 (.app 1 8 (.t 34) (.t 37) false),oM 5 38] [0,1,5,7,8] [[38]])<|oR [oM 39 8,oA 40 (.bin .quo (.t 39) (oC 1000000000)),oM 6 40] [0,1,5,6,7] [[38]])<|.keep [0,1,5,6,7] [[38]])<|oR [oM 23 7,oA 24 (.bin .add (.t 23) (oC 1)),oM 7 24] [0,1,5,6,7] [[38]])<|.keep [0,1,5,6,7] [[38]]
def Qd8:CF:=⟨2,.seq (oR [oA 4 (.mov (.c (.z true)))] [0,1] [])<|.seq (oR [oA 5 (.mov (.c (.z true)))] [0,1,5] [[38]])<|.seq (oR [oA 6 (.mov (oC 0))] [0,1,5,6] [[38]])<|.seq (.seq (oR [oA 7 (.mov (oC 0))] [0,1,5,6,7] [[38]])<|.seq (.blk 0<|.seq (.keep [0,1,5,6,7] [[38]])<|.loop Qa5)<|.keep [5] [[38]])<|.seq (oR [oM 41 5,oM 4 41] [4] [[38]])<|.ret,[.t 4]⟩

def QaL:C :=
 .seq (.seq (.seq (oR [oM 9 7,oM 10 0,oQq 11 10,oBb 12 .lss 9 11] [0,1,5,6,7,12] [[32]])<|.cond (.t 12) (.skip)<|.seq (.keep [5] [[32]])<|.exit 0)<|.seq (.seq (.blk 1<|.seq (oR [oM 15 0,oM 16 7,oXx 17 1 15 16,oDd 18 17,oM 19 1,oM 20 7,oJ 21 QbP [19,20],oBb 22 .sub 18 21,oM 23 6,oBb 24 .sub 22 23,oM 8 24] [0,1,5,7,8] [[32]])<|.seq (oR [oA 6 (.mov (oC 0))] [0,1,5,6,7,8] [[32]])<|.seq (.seq (oR [oM 25 8,oA 26 (.bin .lss (.t 25) (oC 0))] [0,1,5,6,7,8,26] [[32]])<|.cond (.t 26) (.seq (oR [oM 27 8,oA 28 (.bin .add (.t 27) (oC 1000000000)),oM 8 28] [0,1,5,7,8] [[32]])<|oR [oA 6 (.mov (oC 1))] [0,1,5,6,7,8] [[32]])<|.skip)<|oR [oM 29 5,oM 30 8,oA 31 (.lit 1 1 [.v (.int .i64 0)] [(0,(.t 30))] true),oA 32 (.app 1 8 (.t 29) (.t 31) false),oM 5 32] [0,1,5,6,7] [[32]])<|.keep [0,1,5,6,7] [[32]])<|oR [oM 13 7,oA 14 (.bin .add (.t 13) (oC 1)),oM 7 14] [0,1,5,6,7] [[32]])<|.keep [0,1,5,6,7] [[32]]
def QdD:CF:=⟨2,.seq (oR [oA 4 (.mov (.c (.z true)))] [0,1] [])<|.seq (oR [oA 5 (.mov (.c (.z true)))] [0,1,5] [[32]])<|.seq (oR [oA 6 (.mov (oC 0))] [0,1,5,6] [[32]])<|.seq (.seq (oR [oA 7 (.mov (oC 0))] [0,1,5,6,7] [[32]])<|.seq (.blk 0<|.seq (.keep [0,1,5,6,7] [[32]])<|.loop QaL)<|.keep [5] [[32]])<|.seq (oR [oM 33 5,oM 4 33] [4] [[32]])<|.ret,[.t 4]⟩

def Qq4:CF:=⟨2,.seq (oR [oEe 2 0,oEe 3 1,oA 4 (.new oZ4)] [2,3,4] [[2],[3],[4]])<|.seq (oR [oL 5 4 2,oL 6 4 3,oJ 7 Qka [6],oJ 8 Qgr [5,7],oPp 4 4 8] [4] [[4]])<|.ret,[.cell 4 (some 4)]⟩

def slices_AppendSeq_2_api_Rat_2_api_Rat_a0:C :=
 oR [oA 5 (.new oZ8),oPp 8 5 7] [2,5] [[2],[5],[11]]
def slices_AppendSeq_2_api_Rat_2_api_Rat_b0:C :=
 .seq (.blk 1<|oR [oDd 8 2,oL 9 8 5,oA 10 (.lit 8 1 oZ8 [(0,(.t 9))] true),oA 11 (.app 8 128 (.t 8) (.t 10) false),oPp 1 2 11] [] [[2],[11]])<|.keep [] [[2],[11]]
def QaX:CF:=⟨2,.seq (oR [oEe 2 0,oA 4 (.mov (.c (.z true)))] [1,2] [[2],[11]])<|.seq (.seq (oR [oM 6 1] [2,6] [[2],[11]])<|.seq (.blk 0<|.seq (.rfn (.t 6) [7] slices_AppendSeq_2_api_Rat_2_api_Rat_a0 slices_AppendSeq_2_api_Rat_2_api_Rat_b0 [2] [[2]])<|.keep [2] [[2],[11]])<|.keep [2] [[2],[11]])<|.seq (oR [oDd 12 2,oM 4 12] [4] [[11]])<|.ret,[.t 4]⟩

def sturm_zeros_1:CF:=⟨3,.seq (oR [oEe 3 0] [1,2,3] [[3]])<|.seq (oR [oA 4 (.new [.v (.nilFunc)])] [1,2,3,4] [[3],[4]])<|.seq (oR [oA 5 (.mkfn Qaq [.t 1,.t 3,.t 4] true),oPp 1 4 5] [2,4] [[4]])<|oR [oDd 6 4,oL 7 8 2,oA 8 (.calv (.t 6) [.t 7])] [] [],[]⟩

def sturm_zeros_1_1:CF:=⟨4,.seq (oR [oEe 4 0,oA 5 (.mov (.c (.v (.bool false))))] [1,2,3,4] [[4]])<|.seq (.seq (oR [oDd 7 1,oNn 8 0 4,oL 9 4 8,oNn 10 4 4,oL 11 4 10,oJ 12 Qgv [7,9,11]] [2,3,4,12] [[4]])<|.seq (.blk 0<|.seq (oR [oA 14 (.bin .eql (.t 12) (oC 0)),oM 13 14] [2,3,4,12,13] [[4]])<|.cond (.t 13) (.seq (oR [oA 5 (.mov (.c (.v (.bool true))))] [5] [])<|.ret)<|.seq (oR [oA 16 (.bin .eql (.t 12) (oC 1)),oM 15 16] [2,3,4,15] [[4]])<|.cond (.t 15) (.seq (oR [oDd 17 2,oL 18 8 4,oA 19 (.calv (.t 17) [.t 18]),oM 5 19] [5] [])<|.ret)<|.skip)<|.keep [3,4] [[4]])<|.seq (oR [oL 20 8 4,oJ 21 Qfk [20],oA 6 (.new oZ4),oPp 4 6 21] [3,4,6] [[4],[6]])<|.seq (oR [oDd 22 3,oNn 23 0 4,oL 24 4 23,oL 25 4 6,oA 26 (.build oZ8 [(0,4,(.t 24)),(4,4,(.t 25))]),oA 27 (.calv (.t 22) [.t 26]),oM 28 27,oG 29 28 true (.load none (.t 3)),oG 30 28 true (.load (some 4) (.t 6)),oG 31 28 true (.fad 4 (.t 4)),oG 32 28 true (.load (some 4) (.t 31)),oG 33 28 true (.build oZ8 [(0,4,(.t 30)),(4,4,(.t 32))]),oG 34 28 true (.calv (.t 29) [.t 33]),oA 35 (.pick (.t 28) (.t 34) (.c (.v (.bool false)))),oM 5 35] [5] [])<|.ret,[.t 5]⟩

def Qex:CF:=⟨2,.seq (oR [oEe 2 0,oEe 3 1,oA 4 (.new oZ4)] [2,3,4] [[2],[3],[4]])<|.seq (oR [oL 5 4 2,oL 6 4 3,oJ 7 Qcf [5,6],oA 8 (.call Qap [(oC 1),(oC 2)] false),oJ 9 QbN [7,8],oPp 4 4 9] [4] [[4]])<|.ret,[.cell 4 (some 4)]⟩

def Qfo:CF:=⟨2,.seq (oR [oA 4 (.new oZ4)] [0,1,4] [[4]])<|.seq (.seq (oR [oM 5 1,oA 6 (.bin .lss (.t 5) (oC 0)),oM 7 6,oHh 8 7 false 1,oHh 9 7 false 0,oG 10 7 false (.len (.t 9)),oG 11 7 false (.bin .geq (.t 8) (.t 10)),oA 12 (.pick (.t 7) (.c (.v (.bool true))) (.t 11))] [0,1,4,12] [[4]])<|.cond (.t 12) (.seq (oR [oA 13 (.build oZ4 []),oPp 4 4 13] [4] [[4]])<|.ret)<|.skip)<|.seq (oR [oM 14 0,oM 15 1,oXx 16 4 14 15,oL 17 4 16,oPp 4 4 17] [4] [[4]])<|.ret,[.cell 4 (some 4)]⟩

def slices_Backward_api_Poly_api_Rat_1_l0:C :=
 .seq (.seq (.seq (oR [oM 7 3,oA 8 (.bin .geq (.t 7) (oC 0))] [0,1,3,8] [])<|.cond (.t 8) (.skip)<|.seq (.keep [] [])<|.exit 0)<|.seq (.seq (.blk 1<|.seq (oR [oM 11 0,oM 12 3,oDd 13 1,oM 14 3,oXx 15 4 13 14,oL 16 4 15,oA 17 (.calv (.t 11) [.t 12,.t 16]),oA 18 (.un .not (.t 17))] [0,1,3,18] [])<|.cond (.t 18) (.ret)<|.skip)<|.keep [0,1,3] [])<|oR [oM 9 3,oA 10 (.bin .sub (.t 9) (oC 1)),oM 3 10] [0,1,3] [])<|.keep [0,1,3] []
def slices_Backward_api_Poly_api_Rat_1:CF:=⟨2,.seq (oR [oDd 4 1,oQq 5 4,oA 6 (.bin .sub (.t 5) (oC 1)),oM 3 6] [0,1,3] [])<|.seq (.blk 0<|.seq (.keep [0,1,3] [])<|.loop slices_Backward_api_Poly_api_Rat_1_l0)<|.keep [] [],[]⟩

def QjW:CF:=⟨1,.seq (oR [oEe 1 0,oA 2 (.mov (.c (.v (.bool false))))] [1] [[1]])<|.seq (oR [oNn 3 0 1,oDd 4 3,oA 5 (.un .not (.t 4)),oM 6 5,oG 7 6 true (.fad 1 (.t 1)),oG 8 6 true (.load none (.t 7)),oG 9 6 true (.len (.t 8)),oG 10 6 true (.bin .eql (.t 9) (oC 1)),oA 11 (.pick (.t 6) (.t 10) (.c (.v (.bool false)))),oM 12 11,oG 13 12 true (.fad 1 (.t 1)),oG 14 12 true (.load none (.t 13)),oG 15 12 true (.ixa 1 (.t 14) (oC 0)),oG 16 12 true (.load none (.t 15)),oG 17 12 true (.bin .eql (.t 16) (oC 1)),oA 18 (.pick (.t 12) (.t 17) (.c (.v (.bool false)))),oM 2 18] [2] [])<|.ret,[.t 2]⟩

def Qra:CF:=⟨0,.seq (oR [oA 0 (.new [.v (.bool false),.z true])] [0] [[0]])<|.seq (oR [oA 1 (.call Qem [(oC 1)] false),oPp 2 0 1] [0] [[0]])<|.ret,[.cell 0 (some 2)]⟩

def Qbg:C :=
 .seq (.seq (.seq (oR [oM 19 5,oA 20 (.bin .geq (.t 19) (oC 0))] [0,1,5,20] [])<|.cond (.t 20) (.skip)<|.seq (.keep [] [])<|.exit 0)<|.seq (.seq (.blk 1<|.seq (oR [oM 23 0,oM 24 5,oXx 25 1 23 24,oDd 26 25,oM 27 1,oM 28 5,oXx 29 1 27 28,oDd 30 29,oBb 31 .neq 26 30] [0,1,5,31] [])<|.cond (.t 31) (.seq (oR [oM 32 0,oM 33 5,oXx 34 1 32 33,oDd 35 34,oM 36 1,oM 37 5,oXx 38 1 36 37,oDd 39 38,oJ 40 Qe5 [35,39],oM 4 40] [4] [])<|.ret)<|.skip)<|.keep [0,1,5] [])<|oR [oM 21 5,oA 22 (.bin .sub (.t 21) (oC 1)),oM 5 22] [0,1,5] [])<|.keep [0,1,5] []
def QdA:CF:=⟨2,.seq (oR [oA 4 (.mov (oC 0))] [0,1] [])<|.seq (.seq (oR [oM 6 0,oQq 7 6,oM 8 1,oQq 9 8,oBb 10 .neq 7 9] [0,1,10] [])<|.cond (.t 10) (.seq (oR [oM 11 0,oQq 12 11,oM 13 1,oQq 14 13,oJ 15 Qe5 [12,14],oM 4 15] [4] [])<|.ret)<|.skip)<|.seq (.seq (oR [oM 16 0,oQq 17 16,oA 18 (.bin .sub (.t 17) (oC 1)),oM 5 18] [0,1,5] [])<|.seq (.blk 0<|.seq (.keep [0,1,5] [])<|.loop Qbg)<|.keep [] [])<|.seq (oR [oA 4 (.mov (oC 0))] [4] [])<|.ret,[.t 4]⟩

def Qcs:CF:=⟨2,.seq (oR [oA 4 (.new [.v (.bool false),.z true])] [0,1,4] [[4]])<|.seq (.seq (.blk 0<|.seq (oR [oM 6 1,oA 7 (.bin .eql (.t 6) (.c (.v (.int .u64 0)))),oM 5 7] [0,1,4,5] [[4]])<|.cond (.t 5) (.seq (oR [oA 8 (.build [.v (.bool false),.z true] []),oPp 2 4 8] [4] [[4]])<|.ret)<|.seq (oR [oM 10 1,oA 11 (.bin .lss (.t 10) (.c (.v (.int .u64 1000000000)))),oM 9 11] [0,1,4,9] [[4]])<|.cond (.t 9) (.seq (oR [oM 12 0,oM 13 1,oA 14 (.conv (.int .i64) (.t 13)),oA 15 (.lit 1 1 [.v (.int .i64 0)] [(0,(.t 14))] true),oA 16 (.build [.v (.bool false),.z true] [(0,1,(.t 12)),(1,1,(.t 15))]),oPp 2 4 16] [4] [[4]])<|.ret)<|.seq (oR [oM 18 1,oA 19 (.bin .lss (.t 18) (.c (.v (.int .u64 1000000000000000000)))),oM 17 19] [0,1,4,17] [[4]])<|.cond (.t 17) (.seq (oR [oM 20 0,oM 21 1,oA 22 (.bin .rem (.t 21) (.c (.v (.int .u64 1000000000)))),oA 23 (.conv (.int .i64) (.t 22)),oM 24 1,oA 25 (.bin .quo (.t 24) (.c (.v (.int .u64 1000000000)))),oA 26 (.conv (.int .i64) (.t 25)),oA 27 (.lit 1 2 [.v (.int .i64 0)] [(0,(.t 23)),(1,(.t 26))] true),oA 28 (.build [.v (.bool false),.z true] [(0,1,(.t 20)),(1,1,(.t 27))]),oPp 2 4 28] [4] [[4]])<|.ret)<|.skip)<|.keep [0,1,4] [[4]])<|.seq (oR [oM 29 0,oM 30 1,oA 31 (.bin .rem (.t 30) (.c (.v (.int .u64 1000000000)))),oA 32 (.conv (.int .i64) (.t 31)),oM 33 1,oA 34 (.bin .quo (.t 33) (.c (.v (.int .u64 1000000000)))),oA 35 (.bin .rem (.t 34) (.c (.v (.int .u64 1000000000)))),oA 36 (.conv (.int .i64) (.t 35)),oM 37 1,oA 38 (.bin .quo (.t 37) (.c (.v (.int .u64 1000000000)))),oA 39 (.bin .quo (.t 38) (.c (.v (.int .u64 1000000000)))),oA 40 (.conv (.int .i64) (.t 39)),oA 41 (.lit 1 3 [.v (.int .i64 0)] [(0,(.t 32)),(1,(.t 36)),(2,(.t 40))] true),oA 42 (.build [.v (.bool false),.z true] [(0,1,(.t 29)),(1,1,(.t 41))]),oPp 2 4 42] [4] [[4]])<|.ret,[.cell 4 (some 2)]⟩

def QcD:C :=
 .seq (.seq (.seq (oR [oM 8 5,oA 9 (.bin .gtr (.t 8) (oC 0)),oM 10 9,oHh 11 10 true 1,oHh 12 10 true 5,oG 13 10 true (.bin .sub (.t 12) (oC 1)),oG 14 10 true (.ixa 1 (.t 11) (.t 13)),oG 15 10 true (.load none (.t 14)),oG 16 10 true (.bin .eql (.t 15) (oC 0)),oA 17 (.pick (.t 10) (.t 16) (.c (.v (.bool false))))] [0,1,4,5,17] [[4]])<|.cond (.t 17) (.skip)<|.seq (.keep [0,1,4,5] [[4]])<|.exit 0)<|.seq (.blk 1<|oR [oM 18 5,oA 19 (.bin .sub (.t 18) (oC 1)),oM 5 19] [0,1,4,5] [[4]])<|.keep [0,1,4,5] [[4]])<|.keep [0,1,4,5] [[4]]
def QiT:CF:=⟨2,.seq (oR [oA 4 (.new [.v (.bool false),.z true])] [0,1,4] [[4]])<|.seq (oR [oM 6 1,oQq 7 6,oM 5 7] [0,1,4,5] [[4]])<|.seq (.seq (.blk 0<|.seq (.keep [0,1,4,5] [[4]])<|.loop QcD)<|.keep [0,1,4,5] [[4]])<|.seq (.seq (oR [oM 20 5,oA 21 (.bin .eql (.t 20) (oC 0))] [0,1,4,5,21] [[4]])<|.cond (.t 21) (.seq (oR [oA 22 (.build [.v (.bool false),.z true] []),oPp 2 4 22] [4] [[4]])<|.ret)<|.skip)<|.seq (oR [oM 23 0,oM 24 1,oM 25 5,oM 26 5,oA 27 (.slc 1 (.t 24) none (some (.t 25)) (some (.t 26))),oA 28 (.build [.v (.bool false),.z true] [(0,1,(.t 23)),(1,1,(.t 27))]),oPp 2 4 28] [4] [[4]])<|.ret,[.cell 4 (some 2)]⟩

def Qbz:C :=
 .seq (.seq (oR [oBb 24 .lss 23 22] [0,1,5,6,21,22,23,24] [[20]])<|.seq (.cond (.t 24) (.skip)<|.seq (.keep [0,5,6] [[20]])<|.exit 0)<|.seq (.seq (.blk 1<|.seq (oR [oM 25 23,oXx 26 1 21 23,oDd 27 26,oM 7 25,oM 8 27] [0,1,5,6,7,8,21,22,23] [[20]])<|.seq (oR [oM 28 8,oM 29 6,oBb 30 .add 28 29,oM 9 30] [0,1,5,7,9,21,22,23] [[20]])<|.seq (.seq (oR [oM 31 7,oM 32 1,oQq 33 32,oBb 34 .lss 31 33] [0,1,5,7,9,21,22,23,34] [[20]])<|.cond (.t 34) (oR [oM 35 9,oM 36 1,oM 37 7,oXx 38 1 36 37,oDd 39 38,oBb 40 .add 35 39,oM 9 40] [0,1,5,7,9,21,22,23] [[20]])<|.skip)<|.seq (oR [oA 6 (.mov (oC 0))] [0,1,5,6,7,9,21,22,23] [[20]])<|.seq (.seq (oR [oM 41 9,oA 42 (.bin .geq (.t 41) (oC 1000000000))] [0,1,5,6,7,9,21,22,23,42] [[20]])<|.cond (.t 42) (oR [oM 43 9,oA 44 (.bin .sub (.t 43) (oC 1000000000)),oM 9 44,oA 6 (.mov (oC 1))] [0,1,5,6,7,9,21,22,23] [[20]])<|.skip)<|oR [oM 45 5,oM 46 7,oM 47 9,oXx 48 1 45 46,oPp 1 48 47] [0,1,5,6,21,22,23] [[20]])<|.keep [0,1,5,6,21,22,23] [[20]])<|oR [oA 49 (.bin .add (.t 23) (oC 1)),oM 23 49] [0,1,5,6,21,22,23] [[20]])<|.keep [0,1,5,6,21,22,23] [[20]]
def QfA:CF:=⟨2,.seq (oR [oA 4 (.mov (.c (.z true)))] [0,1] [])<|.seq (.seq (oR [oM 10 0,oQq 11 10,oM 12 1,oQq 13 12,oBb 14 .lss 11 13] [0,1,14] [])<|.cond (.t 14) (oR [oM 15 1,oM 16 0,oM 0 15,oM 1 16] [0,1] [])<|.skip)<|.seq (oR [oM 17 0,oQq 18 17,oA 19 (.bin .add (.t 18) (oC 1)),oA 20 (.mksl 1 8 [.v (.int .i64 0)] (.t 19) (.t 19)),oM 5 20] [0,1,5] [[20]])<|.seq (oR [oA 6 (.mov (oC 0))] [0,1,5,6] [[20]])<|.seq (.seq (oR [oM 21 0,oQq 22 21,oA 23 (.mov (oC 0))] [0,1,5,6,21,22,23] [[20]])<|.seq (.blk 0<|.seq (.keep [0,1,5,6,21,22,23] [[20]])<|.loop Qbz)<|.keep [0,5,6] [[20]])<|.seq (oR [oM 50 5,oM 51 0,oQq 52 51,oM 53 6,oXx 54 1 50 52,oPp 1 54 53] [5] [[20]])<|.seq (oR [oM 55 5,oM 4 55] [4] [[20]])<|.ret,[.t 4]⟩

def Qbe:C :=
 .seq (.seq (oR [oBb 16 .lss 15 14] [1,5,14,15,16] [[9]])<|.seq (.cond (.t 16) (.skip)<|.seq (.keep [5] [[9]])<|.exit 0)<|.seq (.seq (.blk 1<|.seq (oR [oM 17 15,oM 6 17] [1,5,6,14,15] [[9]])<|.seq (.seq (oR [oM 18 6,oM 19 1,oQq 20 19,oBb 21 .lss 18 20] [1,5,6,14,15,21] [[9]])<|.cond (.t 21) (oR [oM 22 5,oM 23 6,oXx 24 1 22 23,oDd 25 24,oM 26 1,oM 27 6,oXx 28 1 26 27,oDd 29 28,oBb 30 .sub 25 29,oXx 31 1 22 23,oPp 1 31 30] [1,5,6,14,15] [[9]])<|.skip)<|.seq (oR [oM 32 5,oM 33 6,oXx 34 1 32 33,oDd 35 34,oA 36 (.bin .lss (.t 35) (oC 0))] [1,5,6,14,15,36] [[9]])<|.cond (.t 36) (.seq (oR [oM 37 5,oM 38 6,oXx 39 1 37 38,oDd 40 39,oA 41 (.bin .add (.t 40) (oC 1000000000)),oXx 42 1 37 38,oPp 1 42 41] [1,5,6,14,15] [[9]])<|oR [oM 43 5,oM 44 6,oA 45 (.bin .add (.t 44) (oC 1)),oXx 46 1 43 45,oDd 47 46,oA 48 (.bin .sub (.t 47) (oC 1)),oXx 49 1 43 45,oPp 1 49 48] [1,5,14,15] [[9]])<|.skip)<|.keep [1,5,14,15] [[9]])<|oR [oA 50 (.bin .add (.t 15) (oC 1)),oM 15 50] [1,5,14,15] [[9]])<|.keep [1,5,14,15] [[9]]
def Qhz:CF:=⟨2,.seq (oR [oA 4 (.mov (.c (.z true)))] [0,1] [])<|.seq (oR [oM 7 0,oQq 8 7,oA 9 (.mksl 1 8 [.v (.int .i64 0)] (.t 8) (.t 8)),oM 5 9] [0,1,5] [[9]])<|.seq (oR [oM 10 5,oM 11 0,oA 12 (.cpy 1 (.t 10) (.t 11))] [1,5] [[9]])<|.seq (.seq (oR [oM 13 5,oQq 14 13,oA 15 (.mov (oC 0))] [1,5,14,15] [[9]])<|.seq (.blk 0<|.seq (.keep [1,5,14,15] [[9]])<|.loop Qbe)<|.keep [5] [[9]])<|.seq (oR [oM 51 5,oM 4 51] [4] [[9]])<|.ret,[.t 4]⟩

def Qd3:C :=
 .seq (.seq (.seq (oR [oM 39 9,oA 40 (.bin .gtr (.t 39) (oC 0))] [4,7,9,40] [[4]])<|.cond (.t 40) (.skip)<|.seq (.keep [4,7] [[4]])<|.exit 2)<|.seq (.blk 3<|oR [oM 41 9,oM 42 7,oM 43 9,oBb 44 .rem 42 43,oM 7 41,oM 9 44] [4,7,9] [[4]])<|.keep [4,7,9] [[4]])<|.keep [4,7,9] [[4]]
def QbT:C :=
 .seq (.seq (.seq (oR [oNn 19 1 6,oDd 20 19,oQq 21 20,oA 22 (.bin .gtr (.t 21) (oC 0))] [4,5,6,22] [[4],[5],[6]])<|.cond (.t 22) (.skip)<|.seq (.keep [4,5] [[4],[5]])<|.exit 0)<|.seq (.blk 1<|.seq (oR [oNn 24 1 5,oDd 25 24,oJ 26 QeL [25],oM 23 26,oA 27 (.ext (.t 23) 0),oA 28 (.ext (.t 23) 1),oM 7 27,oM 8 28] [4,5,6,7,8] [[4],[5],[6]])<|.seq (oR [oNn 30 1 6,oDd 31 30,oJ 32 QeL [31],oM 29 32,oA 33 (.ext (.t 29) 0),oA 34 (.ext (.t 29) 1),oM 9 33,oM 10 34] [4,5,6,7,8,9,10] [[4],[5],[6]])<|.seq (.seq (oR [oM 35 8,oM 36 35,oHh 37 36 true 10,oA 38 (.pick (.t 36) (.t 37) (.c (.v (.bool false))))] [4,5,6,7,9,38] [[4],[5],[6]])<|.cond (.t 38) (.seq (.seq (.blk 2<|.seq (.keep [4,7,9] [[4]])<|.loop Qd3)<|.keep [4,7] [[4]])<|.seq (oR [oM 45 7,oA 46 (.conv (.int .u64) (.t 45)),oA 47 (.call QbA [(.c (.v (.bool false))),(.t 46)] false),oPp 2 4 47] [4] [[4]])<|.ret)<|.skip)<|.seq (oR [oNn 49 1 5,oDd 50 49,oNn 51 1 6,oDd 52 51,oJ 53 QfM [50,52],oM 48 53,oA 54 (.ext (.t 48) 0),oA 55 (.ext (.t 48) 1),oA 11 (.new [.v (.bool false),.z true]),oA 12 (.new [.v (.bool false),.z true]),oPp 2 11 54,oPp 2 12 55] [4,5,6,12] [[4],[5],[6],[12]])<|.seq (.reg [oL 56 2 6,oL 57 2 12,oPp 2 5 56,oPp 2 6 57] [((.t 12),2,(.t 5),2)])<|.keep [4,5,6] [[4],[5],[6]])<|.keep [4,5,6] [[4],[5],[6]])<|.keep [4,5,6] [[4],[5],[6]]
def QhH:CF:=⟨2,.seq (oR [oEe 2 0,oEe 3 1,oA 4 (.new [.v (.bool false),.z true])] [2,3,4] [[2],[3],[4]])<|.seq (oR [oNn 13 1 2,oDd 14 13,oA 15 (.call Qbt [(.c (.v (.bool false))),(.t 14)] false),oNn 16 1 3,oDd 17 16,oA 18 (.call Qbt [(.c (.v (.bool false))),(.t 17)] false),oA 5 (.new [.v (.bool false),.z true]),oA 6 (.new [.v (.bool false),.z true]),oPp 2 5 15,oPp 2 6 18] [4,5,6] [[4],[5],[6]])<|.seq (.seq (.blk 0<|.seq (.keep [4,5,6] [[4],[5],[6]])<|.loop QbT)<|.keep [4,5] [[4],[5]])<|.seq (oR [oL 58 2 5,oPp 2 4 58] [4] [[4]])<|.ret,[.cell 4 (some 2)]⟩

def Qdt:CF:=⟨2,.seq (oR [oEe 2 0,oEe 3 1,oA 4 (.new [.v (.bool false),.z true]),oA 5 (.new [.v (.bool false),.z true])] [2,3,4,5] [[2],[3],[4],[5]])<|.seq (.seq (oR [oNn 8 1 3,oDd 9 8,oQq 10 9,oA 11 (.bin .eql (.t 10) (oC 0))] [2,3,4,5,11] [[2],[3],[4],[5]])<|.cond (.t 11) (.seq (oR [oA 12 (.build [.v (.bool false),.z true] []),oA 13 (.build [.v (.bool false),.z true] []),oPp 2 4 12,oPp 2 5 13] [4,5] [[4],[5]])<|.ret)<|.skip)<|.seq (oR [oNn 15 1 2,oDd 16 15,oNn 17 1 3,oDd 18 17,oJ 19 QfM [16,18],oM 14 19,oA 20 (.ext (.t 14) 0),oA 21 (.ext (.t 14) 1),oA 6 (.new [.v (.bool false),.z true]),oA 7 (.new [.v (.bool false),.z true]),oPp 2 6 20,oPp 2 7 21] [2,3,4,5,6,7] [[2],[3],[4],[5],[6],[7]])<|.seq (.seq (oR [oNn 22 0 2,oDd 23 22,oM 24 23,oG 25 24 true (.fad 1 (.t 7)),oG 26 24 true (.load none (.t 25)),oG 27 24 true (.len (.t 26)),oG 28 24 true (.bin .gtr (.t 27) (oC 0)),oA 29 (.pick (.t 24) (.t 28) (.c (.v (.bool false))))] [2,3,4,5,6,7,29] [[2],[3],[4],[5],[6],[7]])<|.cond (.t 29) (.seq (oR [oNn 30 1 6,oDd 31 30,oA 32 (.lit 1 1 [.v (.int .i64 0)] [(0,(oC 1))] true),oJ 33 Qd6 [31,32],oA 34 (.call Qbt [(.c (.v (.bool false))),(.t 33)] false),oPp 2 6 34] [2,3,4,5,6,7] [[2],[3],[4],[5],[6],[7]])<|oR [oNn 35 1 3,oDd 36 35,oNn 37 1 7,oDd 38 37,oJ 39 QeC [36,38],oA 40 (.call Qbt [(.c (.v (.bool false))),(.t 39)] false),oPp 2 7 40] [2,3,4,5,6,7] [[2],[3],[4],[5],[6],[7]])<|.skip)<|.seq (oR [oNn 41 0 2,oDd 42 41,oNn 43 0 3,oDd 44 43,oA 45 (.binb true (.t 42) (.t 44)),oM 46 45,oG 47 46 true (.fad 1 (.t 6)),oG 48 46 true (.load none (.t 47)),oG 49 46 true (.len (.t 48)),oG 50 46 true (.bin .gtr (.t 49) (oC 0)),oA 51 (.pick (.t 46) (.t 50) (.c (.v (.bool false)))),oNn 52 0 6,oPp 1 52 51] [4,5,6,7] [[4],[5],[6],[7]])<|.seq (.seq (.reg [oL 53 2 6,oL 54 2 7,oPp 2 4 53,oPp 2 5 54] [((.t 7),2,(.t 4),2)])<|.keep [4,5] [[4],[5]])<|.ret,[.cell 4 (some 2),.cell 5 (some 2)]⟩

def QfK:CF:=⟨1,.seq (oR [oA 2 (.mov (oC 0))] [0] [])<|.seq (oR [oM 3 0,oA 4 (.call QbP [(.t 3),(oC 1)] false),oA 5 (.bin .mul (.t 4) (oC 1000000000)),oM 6 0,oA 7 (.call QbP [(.t 6),(oC 0)] false),oBb 8 .add 5 7,oM 2 8] [2] [])<|.ret,[.t 2]⟩
end Go.AM

set_option maxRecDepth 100000
namespace Go.AM
open Go Go.Proofs


def Qbk:C :=
 .seq (.seq (.seq (oR [oM 64 12,oM 65 13,oBb 66 .lss 64 65] [0,1,8,9,10,12,13,66] [[42]])<|.cond (.t 66) (.skip)<|.seq (.keep [0,1,8,9,10,12] [[42]])<|.exit 2)<|.seq (.blk 3<|.seq (oR [oM 67 12,oM 68 13,oBb 69 .add 67 68,oA 70 (.bin .add (.t 69) (oC 1)),oA 71 (.bin .quo (.t 70) (oC 2)),oM 14 71] [0,1,8,9,10,12,13,14] [[42]])<|.seq (oR [oM 72 1,oM 73 14,oJ 74 Qeh [72,73],oM 75 9,oJ 76 Qbj [74,75],oA 77 (.bin .leq (.t 76) (oC 0))] [0,1,8,9,10,12,13,14,77] [[42]])<|.cond (.t 77) (oR [oM 78 14,oM 12 78] [0,1,8,9,10,12,13] [[42]])<|oR [oM 79 14,oA 80 (.bin .sub (.t 79) (oC 1)),oM 13 80] [0,1,8,9,10,12,13] [[42]])<|.keep [0,1,8,9,10,12,13] [[42]])<|.keep [0,1,8,9,10,12,13] [[42]]
def Qbb:C :=
 .seq (.seq (.seq (oR [oM 46 10,oA 47 (.bin .geq (.t 46) (oC 0))] [0,1,8,9,10,47] [[42]])<|.cond (.t 47) (.skip)<|.seq (.keep [8,9] [[42]])<|.exit 0)<|.seq (.seq (.blk 1<|.seq (oR [oM 50 0,oM 51 10,oXx 52 1 50 51,oDd 53 52,oA 54 (.lit 1 1 [.v (.int .i64 0)] [(0,(.t 53))] false),oM 55 9,oA 56 (.app 1 8 (.t 54) (.t 55) true),oA 57 (.call Qam [(.c (.v (.bool false))),(.t 56)] false),oA 11 (.new [.v (.bool false),.z true]),oPp 2 11 57] [0,1,8,10,11] [[11],[42]])<|.seq (oR [oNn 58 1 11,oDd 59 58,oM 9 59] [0,1,8,9,10] [[42]])<|.seq (oR [oA 12 (.mov (oC 0))] [0,1,8,9,10,12] [[42]])<|.seq (oR [oA 13 (.mov (oC 999999999))] [0,1,8,9,10,12,13] [[42]])<|.seq (.seq (oR [oM 60 9,oM 61 1,oJ 62 Qbj [60,61],oA 63 (.bin .lss (.t 62) (oC 0))] [0,1,8,9,10,12,13,63] [[42]])<|.cond (.t 63) (oR [oA 13 (.mov (oC 0))] [0,1,8,9,10,12,13] [[42]])<|.skip)<|.seq (.seq (.blk 2<|.seq (.keep [0,1,8,9,10,12,13] [[42]])<|.loop Qbk)<|.keep [0,1,8,9,10,12] [[42]])<|.seq (oR [oM 81 9,oM 82 1,oM 83 12,oJ 84 Qeh [82,83],oJ 85 Qch [81,84],oA 86 (.call Qam [(.c (.v (.bool false))),(.t 85)] false),oA 15 (.new [.v (.bool false),.z true]),oPp 2 15 86] [0,1,8,10,12,15] [[15],[42]])<|.seq (oR [oM 87 8,oM 88 10,oM 89 12,oXx 90 1 87 88,oPp 1 90 89] [0,1,8,10,15] [[15],[42]])<|oR [oNn 91 1 15,oDd 92 91,oM 9 92] [0,1,8,9,10] [[42]])<|.keep [0,1,8,9,10] [[42]])<|oR [oM 48 10,oA 49 (.bin .sub (.t 48) (oC 1)),oM 10 49] [0,1,8,9,10] [[42]])<|.keep [0,1,8,9,10] [[42]]
def Qbp:CF:=⟨2,.seq (oR [oA 4 (.mov (.c (.z true))),oA 5 (.mov (.c (.z true)))] [0,1] [])<|.seq (.seq (oR [oM 16 0,oQq 17 16,oA 18 (.bin .leq (.t 17) (oC 2)),oM 19 18,oHh 20 19 true 1,oG 21 19 true (.len (.t 20)),oG 22 19 true (.bin .leq (.t 21) (oC 2)),oA 23 (.pick (.t 19) (.t 22) (.c (.v (.bool false))))] [0,1,23] [])<|.cond (.t 23) (.seq (oR [oM 24 0,oJ 25 QbC [24],oM 26 1,oJ 27 QbC [26],oBb 28 .quo 25 27,oJ 29 QbH [28],oA 6 (.new [.v (.bool false),.z true]),oPp 2 6 29] [0,1,6] [[6]])<|.seq (oR [oM 30 0,oJ 31 QbC [30],oM 32 1,oJ 33 QbC [32],oBb 34 .rem 31 33,oJ 35 QbH [34],oA 7 (.new [.v (.bool false),.z true]),oPp 2 7 35] [6,7] [[6],[7]])<|.seq (oR [oNn 36 1 6,oDd 37 36,oNn 38 1 7,oDd 39 38,oM 4 37,oM 5 39] [4,5] [[42]])<|.ret)<|.skip)<|.seq (oR [oM 40 0,oQq 41 40,oA 42 (.mksl 1 8 [.v (.int .i64 0)] (.t 41) (.t 41)),oM 8 42] [0,1,8] [[42]])<|.seq (oR [oA 9 (.mov (.c (.z true)))] [0,1,8,9] [[42]])<|.seq (.seq (oR [oM 43 0,oQq 44 43,oA 45 (.bin .sub (.t 44) (oC 1)),oM 10 45] [0,1,8,9,10] [[42]])<|.seq (.blk 0<|.seq (.keep [0,1,8,9,10] [[42]])<|.loop Qbb)<|.keep [8,9] [[42]])<|.seq (oR [oM 93 8,oM 94 9,oM 4 93,oM 5 94] [4,5] [[42]])<|.ret,[.t 4,.t 5]⟩

def QdM:CF:=⟨2,.seq (oR [oA 4 (.mov (oC 0))] [0,1] [])<|.seq (.seq (oR [oM 5 1,oM 6 0,oQq 7 6,oBb 8 .lss 5 7] [0,1,8] [])<|.cond (.t 8) (.seq (oR [oM 9 0,oM 10 1,oXx 11 1 9 10,oDd 12 11,oM 4 12] [4] [])<|.ret)<|.skip)<|.seq (oR [oA 4 (.mov (oC 0))] [4] [])<|.ret,[.t 4]⟩

def Qdv:CF:=⟨2,.seq (oR [oA 4 (.mov (oC 0))] [0,1] [])<|.seq (oR [oM 7 0,oJ 8 Qgi [7],oM 5 8] [0,1,5] [])<|.seq (oR [oM 9 1,oJ 10 Qgi [9],oM 6 10] [0,1,5,6] [])<|.seq (.seq (oR [oM 11 5] [0,1,6,11] [])<|.cond (.t 11) (.seq (.seq (oR [oM 12 6] [12] [])<|.cond (.t 12) (.seq (oR [oA 4 (.mov (oC 0))] [4] [])<|.ret)<|.skip)<|.seq (oR [oA 4 (.mov (oC (-1)))] [4] [])<|.ret)<|.skip)<|.seq (.seq (oR [oM 13 6] [0,1,13] [])<|.cond (.t 13) (.seq (oR [oA 4 (.mov (oC 1))] [4] [])<|.ret)<|.skip)<|.seq (.seq (oR [oM 14 0,oM 15 1,oBb 16 .lss 14 15] [0,1,16] [])<|.cond (.t 16) (.seq (oR [oA 4 (.mov (oC (-1)))] [4] [])<|.ret)<|.skip)<|.seq (.seq (oR [oM 17 0,oM 18 1,oBb 19 .gtr 17 18] [19] [])<|.cond (.t 19) (.seq (oR [oA 4 (.mov (oC 1))] [4] [])<|.ret)<|.skip)<|.seq (oR [oA 4 (.mov (oC 0))] [4] [])<|.ret,[.t 4]⟩

def Qfc:CF:=⟨1,.seq (oR [oA 2 (.mov (oC 0)),oA 3 (.mov (.c (.v (.bool false))))] [0] [])<|.seq (.seq (oR [oM 4 0,oQq 5 4] [0,5] [])<|.seq (.blk 0<|.seq (oR [oA 7 (.bin .eql (.t 5) (oC 0)),oM 6 7] [0,5,6] [])<|.cond (.t 6) (.seq (oR [oA 2 (.mov (oC 0)),oA 3 (.mov (.c (.v (.bool true))))] [2,3] [])<|.ret)<|.seq (oR [oA 9 (.bin .eql (.t 5) (oC 1)),oM 8 9] [0,5,8] [])<|.cond (.t 8) (.seq (oR [oM 10 0,oA 11 (.ixa 1 (.t 10) (oC 0)),oDd 12 11,oM 2 12,oA 3 (.mov (.c (.v (.bool true))))] [2,3] [])<|.ret)<|.seq (oR [oA 14 (.bin .eql (.t 5) (oC 2)),oM 13 14] [0,13] [])<|.cond (.t 13) (.seq (oR [oM 15 0,oA 16 (.ixa 1 (.t 15) (oC 1)),oDd 17 16,oA 18 (.bin .mul (.t 17) (oC 1000000000)),oM 19 0,oA 20 (.ixa 1 (.t 19) (oC 0)),oDd 21 20,oBb 22 .add 18 21,oM 2 22,oA 3 (.mov (.c (.v (.bool true))))] [2,3] [])<|.ret)<|.skip)<|.keep [] [])<|.seq (oR [oA 2 (.mov (oC 0)),oA 3 (.mov (.c (.v (.bool false))))] [2,3] [])<|.ret,[.t 2,.t 3]⟩

def Qcb:CF:=⟨2,.seq (oR [oA 4 (.new [.v (.bool false),.z true]),oA 5 (.new [.v (.bool false),.z true])] [0,1,4,5] [[4],[5]])<|.seq (.seq (oR [oM 15 0,oJ 16 QeL [15],oM 14 16,oA 17 (.ext (.t 14) 0),oA 18 (.ext (.t 14) 1),oM 6 17,oM 7 18] [0,1,4,5,6,7] [[4],[5]])<|.seq (oR [oM 19 7] [0,1,4,5,6,19] [[4],[5]])<|.cond (.t 19) (.seq (oR [oM 21 1,oJ 22 QeL [21],oM 20 22,oA 23 (.ext (.t 20) 0),oA 24 (.ext (.t 20) 1),oM 8 23,oM 9 24] [0,1,4,5,6,8,9] [[4],[5]])<|.seq (oR [oM 25 9] [0,1,4,5,6,8,25] [[4],[5]])<|.cond (.t 25) (.seq (oR [oM 26 6,oM 27 8,oBb 28 .quo 26 27,oA 29 (.conv (.int .u64) (.t 28)),oA 30 (.call QbA [(.c (.v (.bool false))),(.t 29)] false),oM 31 6,oM 32 8,oBb 33 .rem 31 32,oA 34 (.conv (.int .u64) (.t 33)),oA 35 (.call QbA [(.c (.v (.bool false))),(.t 34)] false),oPp 2 4 30,oPp 2 5 35] [4,5] [[4],[5]])<|.ret)<|.skip)<|.skip)<|.seq (.seq (oR [oM 36 0,oM 37 1,oJ 38 QcL [36,37],oA 39 (.bin .lss (.t 38) (oC 0))] [0,1,4,5,39] [[4],[5]])<|.cond (.t 39) (.seq (oR [oA 40 (.build [.v (.bool false),.z true] []),oM 41 0,oA 42 (.call Qbt [(.c (.v (.bool false))),(.t 41)] false),oPp 2 4 40,oPp 2 5 42] [4,5] [[4],[5]])<|.ret)<|.skip)<|.seq (.seq (oR [oM 43 1,oQq 44 43,oA 45 (.bin .eql (.t 44) (oC 1))] [0,1,4,5,45] [[4],[5]])<|.cond (.t 45) (.seq (oR [oM 47 0,oM 48 1,oA 49 (.ixa 1 (.t 48) (oC 0)),oDd 50 49,oJ 51 Qgj [47,50],oM 46 51,oA 52 (.ext (.t 46) 0),oA 53 (.ext (.t 46) 1),oM 10 52,oM 11 53] [4,5,10,11] [[4],[5]])<|.seq (oR [oM 54 10,oA 55 (.call Qbt [(.c (.v (.bool false))),(.t 54)] false),oM 56 11,oA 57 (.conv (.int .u64) (.t 56)),oA 58 (.call QbA [(.c (.v (.bool false))),(.t 57)] false),oPp 2 4 55,oPp 2 5 58] [4,5] [[4],[5]])<|.ret)<|.skip)<|.seq (oR [oM 60 0,oM 61 1,oJ 62 Qi7 [60,61],oM 59 62,oA 63 (.ext (.t 59) 0),oA 64 (.ext (.t 59) 1),oM 12 63,oM 13 64] [4,5,12,13] [[4],[5]])<|.seq (oR [oM 65 12,oA 66 (.call Qbt [(.c (.v (.bool false))),(.t 65)] false),oM 67 13,oA 68 (.call Qbt [(.c (.v (.bool false))),(.t 67)] false),oPp 2 4 66,oPp 2 5 68] [4,5] [[4],[5]])<|.ret,[.cell 4 (some 2),.cell 5 (some 2)]⟩

def QeV:CF:=⟨2,.seq (oR [oA 4 (.mov (.c (.z true)))] [0,1] [])<|.seq (oR [oM 6 0,oA 7 (.call Qam [(.c (.v (.bool false))),(.t 6)] false),oM 8 1,oJ 9 QbH [8],oJ 10 QaV [7,9],oA 5 (.new [.v (.bool false),.z true]),oPp 2 5 10] [5] [[5]])<|.seq (oR [oNn 11 1 5,oDd 12 11,oM 4 12] [4] [])<|.ret,[.t 4]⟩

def QhO:CF:=⟨1,.seq (oR [oA 2 (.mov (.c (.v (.bool false))))] [0] [])<|.seq (oR [oM 3 0,oM 4 0,oBb 5 .neq 3 4,oM 2 5] [2] [])<|.ret,[.t 2]⟩

def Qcr:C :=
 .seq (.seq (.seq (oR [oM 16 8,oA 17 (.bin .geq (.t 16) (oC 0))] [0,1,6,7,8,17] [[12]])<|.cond (.t 17) (.skip)<|.seq (.keep [6,7] [[12]])<|.exit 0)<|.seq (.seq (.blk 1<|.seq (oR [oM 20 7,oA 21 (.bin .mul (.t 20) (oC 1000000000)),oM 22 0,oM 23 8,oXx 24 1 22 23,oDd 25 24,oBb 26 .add 21 25,oM 9 26] [0,1,6,8,9] [[12]])<|oR [oM 27 6,oM 28 8,oM 29 9,oM 30 1,oBb 31 .quo 29 30,oM 32 9,oM 33 1,oBb 34 .rem 32 33,oXx 35 1 27 28,oPp 1 35 31,oM 7 34] [0,1,6,7,8] [[12]])<|.keep [0,1,6,7,8] [[12]])<|oR [oM 18 8,oA 19 (.bin .sub (.t 18) (oC 1)),oM 8 19] [0,1,6,7,8] [[12]])<|.keep [0,1,6,7,8] [[12]]
def QhR:CF:=⟨2,.seq (oR [oA 4 (.mov (.c (.z true))),oA 5 (.mov (oC 0))] [0,1] [])<|.seq (oR [oM 10 0,oQq 11 10,oA 12 (.mksl 1 8 [.v (.int .i64 0)] (.t 11) (.t 11)),oM 6 12] [0,1,6] [[12]])<|.seq (oR [oA 7 (.mov (oC 0))] [0,1,6,7] [[12]])<|.seq (.seq (oR [oM 13 0,oQq 14 13,oA 15 (.bin .sub (.t 14) (oC 1)),oM 8 15] [0,1,6,7,8] [[12]])<|.seq (.blk 0<|.seq (.keep [0,1,6,7,8] [[12]])<|.loop Qcr)<|.keep [6,7] [[12]])<|.seq (oR [oM 36 6,oM 37 7,oM 4 36,oM 5 37] [4,5] [[12]])<|.ret,[.t 4,.t 5]⟩

def Qbm:C :=
 .seq (.seq (.seq (oR [oM 84 13,oA 85 (.bin .geq (.t 84) (oC 1000000000)),oM 86 85,oHh 87 86 false 13,oHh 88 86 false 8,oHh 89 86 false 9,oG 90 86 false (.bin .sub (.t 89) (oC 2)),oG 91 86 false (.ixa 1 (.t 88) (.t 90)),oG 92 86 false (.load none (.t 91)),oG 93 86 false (.bin .mul (.t 87) (.t 92)),oHh 94 86 false 14,oG 95 86 false (.bin .mul (.t 94) (oC 1000000000)),oHh 96 86 false 7,oHh 97 86 false 11,oHh 98 86 false 9,oG 99 86 false (.bin .add (.t 97) (.t 98)),oG 100 86 false (.bin .sub (.t 99) (oC 2)),oG 101 86 false (.ixa 1 (.t 96) (.t 100)),oG 102 86 false (.load none (.t 101)),oG 103 86 false (.bin .add (.t 95) (.t 102)),oG 104 86 false (.bin .gtr (.t 93) (.t 103)),oA 105 (.pick (.t 86) (.c (.v (.bool true))) (.t 104))] [6,7,8,9,10,11,13,14,105] [[32],[46]])<|.cond (.t 105) (.skip)<|.seq (.keep [6,7,8,9,10,11,13] [[32],[46]])<|.exit 2)<|.seq (.blk 3<|.seq (oR [oM 106 13,oA 107 (.bin .sub (.t 106) (oC 1)),oM 13 107] [6,7,8,9,10,11,13,14] [[32],[46]])<|.seq (oR [oM 108 14,oM 109 8,oM 110 9,oA 111 (.bin .sub (.t 110) (oC 1)),oXx 112 1 109 111,oDd 113 112,oBb 114 .add 108 113,oM 14 114] [6,7,8,9,10,11,13,14] [[32],[46]])<|.seq (oR [oM 115 14,oA 116 (.bin .geq (.t 115) (oC 1000000000))] [6,7,8,9,10,11,13,14,116] [[32],[46]])<|.cond (.t 116) (.seq (.keep [6,7,8,9,10,11,13] [[32],[46]])<|.exit 2)<|.skip)<|.keep [6,7,8,9,10,11,13,14] [[32],[46]])<|.keep [6,7,8,9,10,11,13,14] [[32],[46]]
def Qcj:C :=
 .seq (.seq (oR [oBb 119 .lss 118 117] [6,7,8,9,10,11,13,15,117,118,119] [[32],[46]])<|.seq (.cond (.t 119) (.skip)<|.seq (.keep [6,7,8,9,10,11,13,15] [[32],[46]])<|.exit 4)<|.seq (.seq (.blk 5<|.seq (oR [oM 120 118,oM 16 120] [6,7,8,9,10,11,13,15,16,117,118] [[32],[46]])<|.seq (oR [oM 121 7,oM 122 16,oM 123 11,oBb 124 .add 122 123,oXx 125 1 121 124,oDd 126 125,oM 127 13,oM 128 8,oM 129 16,oXx 130 1 128 129,oDd 131 130,oBb 132 .mul 127 131,oBb 133 .sub 126 132,oM 134 15,oBb 135 .sub 133 134,oM 17 135] [6,7,8,9,10,11,13,16,17,117,118] [[32],[46]])<|.seq (oR [oA 15 (.mov (oC 0))] [6,7,8,9,10,11,13,15,16,17,117,118] [[32],[46]])<|.seq (.seq (oR [oM 136 17,oA 137 (.bin .lss (.t 136) (oC 0))] [6,7,8,9,10,11,13,15,16,17,117,118,137] [[32],[46]])<|.cond (.t 137) (.seq (oR [oM 138 17,oA 139 (.un .neg (.t 138)),oA 140 (.bin .add (.t 139) (oC 1000000000)),oA 141 (.bin .sub (.t 140) (oC 1)),oA 142 (.bin .quo (.t 141) (oC 1000000000)),oM 15 142] [6,7,8,9,10,11,13,15,16,17,117,118] [[32],[46]])<|oR [oM 143 17,oM 144 15,oA 145 (.bin .mul (.t 144) (oC 1000000000)),oBb 146 .add 143 145,oM 17 146] [6,7,8,9,10,11,13,15,16,17,117,118] [[32],[46]])<|.skip)<|oR [oM 147 7,oM 148 16,oM 149 11,oBb 150 .add 148 149,oM 151 17,oXx 152 1 147 150,oPp 1 152 151] [6,7,8,9,10,11,13,15,117,118] [[32],[46]])<|.keep [6,7,8,9,10,11,13,15,117,118] [[32],[46]])<|oR [oA 153 (.bin .add (.t 118) (oC 1)),oM 118 153] [6,7,8,9,10,11,13,15,117,118] [[32],[46]])<|.keep [6,7,8,9,10,11,13,15,117,118] [[32],[46]]
def QcQ:C :=
 .seq (.seq (oR [oBb 174 .lss 173 172] [6,7,8,9,10,11,13,15,172,173,174] [[32],[46]])<|.seq (.cond (.t 174) (.skip)<|.seq (.keep [6,7,8,9,10,11,13,15] [[32],[46]])<|.exit 6)<|.seq (.seq (.blk 7<|.seq (oR [oM 175 173,oM 18 175] [6,7,8,9,10,11,13,15,18,172,173] [[32],[46]])<|.seq (oR [oM 176 7,oM 177 18,oM 178 11,oBb 179 .add 177 178,oXx 180 1 176 179,oDd 181 180,oM 182 8,oM 183 18,oXx 184 1 182 183,oDd 185 184,oBb 186 .add 181 185,oM 187 15,oBb 188 .add 186 187,oM 19 188] [6,7,8,9,10,11,13,18,19,172,173] [[32],[46]])<|oR [oM 189 7,oM 190 18,oM 191 11,oBb 192 .add 190 191,oM 193 19,oA 194 (.bin .rem (.t 193) (oC 1000000000)),oM 195 19,oA 196 (.bin .quo (.t 195) (oC 1000000000)),oXx 197 1 189 192,oPp 1 197 194,oM 15 196] [6,7,8,9,10,11,13,15,172,173] [[32],[46]])<|.keep [6,7,8,9,10,11,13,15,172,173] [[32],[46]])<|oR [oA 198 (.bin .add (.t 173) (oC 1)),oM 173 198] [6,7,8,9,10,11,13,15,172,173] [[32],[46]])<|.keep [6,7,8,9,10,11,13,15,172,173] [[32],[46]]
def Qck:C :=
 .seq (.seq (.seq (oR [oM 51 11,oA 52 (.bin .geq (.t 51) (oC 0))] [6,7,8,9,10,11,52] [[32],[46]])<|.cond (.t 52) (.skip)<|.seq (.keep [6,7,9,10] [[32],[46]])<|.exit 0)<|.seq (.seq (.blk 1<|.seq (oR [oM 55 7,oM 56 11,oM 57 9,oBb 58 .add 56 57,oXx 59 1 55 58,oDd 60 59,oA 61 (.bin .mul (.t 60) (oC 1000000000)),oM 62 7,oM 63 11,oM 64 9,oBb 65 .add 63 64,oA 66 (.bin .sub (.t 65) (oC 1)),oXx 67 1 62 66,oDd 68 67,oBb 69 .add 61 68,oM 12 69] [6,7,8,9,10,11,12] [[32],[46]])<|.seq (oR [oM 70 12,oM 71 8,oM 72 9,oA 73 (.bin .sub (.t 72) (oC 1)),oXx 74 1 71 73,oDd 75 74,oBb 76 .quo 70 75,oM 77 12,oM 78 8,oM 79 9,oA 80 (.bin .sub (.t 79) (oC 1)),oXx 81 1 78 80,oDd 82 81,oBb 83 .rem 77 82,oM 13 76,oM 14 83] [6,7,8,9,10,11,13,14] [[32],[46]])<|.seq (.skip)<|.seq (.seq (.blk 2<|.seq (.keep [6,7,8,9,10,11,13,14] [[32],[46]])<|.loop Qbm)<|.keep [6,7,8,9,10,11,13] [[32],[46]])<|.seq (oR [oA 15 (.mov (oC 0))] [6,7,8,9,10,11,13,15] [[32],[46]])<|.seq (.seq (oR [oM 117 9,oA 118 (.mov (oC 0))] [6,7,8,9,10,11,13,15,117,118] [[32],[46]])<|.seq (.blk 4<|.seq (.keep [6,7,8,9,10,11,13,15,117,118] [[32],[46]])<|.loop Qcj)<|.keep [6,7,8,9,10,11,13,15] [[32],[46]])<|.seq (.seq (oR [oM 154 7,oM 155 11,oM 156 9,oBb 157 .add 155 156,oXx 158 1 154 157,oDd 159 158,oM 160 15,oBb 161 .sub 159 160,oXx 162 1 154 157,oPp 1 162 161] [6,7,8,9,10,11,13] [[32],[46]])<|.seq (oR [oM 163 7,oM 164 11,oM 165 9,oBb 166 .add 164 165,oXx 167 1 163 166,oDd 168 167,oA 169 (.bin .lss (.t 168) (oC 0))] [6,7,8,9,10,11,13,169] [[32],[46]])<|.cond (.t 169) (.seq (oR [oM 170 13,oA 171 (.bin .sub (.t 170) (oC 1)),oM 13 171] [6,7,8,9,10,11,13] [[32],[46]])<|.seq (oR [oA 15 (.mov (oC 0))] [6,7,8,9,10,11,13,15] [[32],[46]])<|.seq (.seq (oR [oM 172 9,oA 173 (.mov (oC 0))] [6,7,8,9,10,11,13,15,172,173] [[32],[46]])<|.seq (.blk 6<|.seq (.keep [6,7,8,9,10,11,13,15,172,173] [[32],[46]])<|.loop QcQ)<|.keep [6,7,8,9,10,11,13,15] [[32],[46]])<|oR [oM 199 7,oM 200 11,oM 201 9,oBb 202 .add 200 201,oXx 203 1 199 202,oDd 204 203,oM 205 15,oBb 206 .add 204 205,oXx 207 1 199 202,oPp 1 207 206] [6,7,8,9,10,11,13] [[32],[46]])<|.skip)<|oR [oM 208 10,oM 209 11,oM 210 13,oXx 211 1 208 209,oPp 1 211 210] [6,7,8,9,10,11] [[32],[46]])<|.keep [6,7,8,9,10,11] [[32],[46]])<|oR [oM 53 11,oA 54 (.bin .sub (.t 53) (oC 1)),oM 11 54] [6,7,8,9,10,11] [[32],[46]])<|.keep [6,7,8,9,10,11] [[32],[46]]
def Qh5:CF:=⟨2,.seq (oR [oA 4 (.mov (.c (.z true))),oA 5 (.mov (.c (.z true)))] [0,1] [])<|.seq (oR [oM 22 1,oM 23 1,oQq 24 23,oA 25 (.bin .sub (.t 24) (oC 1)),oXx 26 1 22 25,oDd 27 26,oA 28 (.bin .add (.t 27) (oC 1)),oA 29 (.bin .quo (oC 1000000000) (.t 28)),oM 6 29] [0,1,6] [])<|.seq (oR [oM 30 0,oM 31 6,oA 32 (.call QfG [.t 30,.t 31] true),oM 33 1,oM 34 6,oJ 35 QfG [33,34],oM 36 1,oQq 37 36,oA 38 (.slc 1 (.t 35) none (some (.t 37)) none),oM 7 32,oM 8 38] [0,1,6,7,8] [[32]])<|.seq (oR [oM 39 1,oQq 40 39,oM 9 40] [0,6,7,8,9] [[32]])<|.seq (oR [oM 41 0,oQq 42 41,oM 43 9,oBb 44 .sub 42 43,oA 45 (.bin .add (.t 44) (oC 1)),oA 46 (.mksl 1 8 [.v (.int .i64 0)] (.t 45) (.t 45)),oM 10 46] [0,6,7,8,9,10] [[32],[46]])<|.seq (.seq (oR [oM 47 0,oQq 48 47,oM 49 9,oBb 50 .sub 48 49,oM 11 50] [6,7,8,9,10,11] [[32],[46]])<|.seq (.blk 0<|.seq (.keep [6,7,8,9,10,11] [[32],[46]])<|.loop Qck)<|.keep [6,7,9,10] [[32],[46]])<|.seq (.seq (.frz 7)<|oR [oM 213 7,oM 214 9,oA 215 (.slc 1 (.t 213) none (some (.t 214)) none),oM 216 6,oJ 217 Qgj [215,216],oM 212 217,oA 218 (.ext (.t 212) 0),oA 219 (.ext (.t 212) 1),oM 20 218,oM 21 219] [10,20] [[46]])<|.seq (oR [oM 220 10,oM 221 20,oM 4 220,oM 5 221] [4,5] [[46]])<|.ret,[.t 4,.t 5]⟩

def Qce:C :=
 .seq (.seq (oR [oBb 17 .lss 16 15] [0,1,5,6,14,15,16,17] [[13]])<|.seq (.cond (.t 17) (.skip)<|.seq (.keep [0,5,6] [[13]])<|.exit 0)<|.seq (.seq (.blk 1<|.seq (oR [oM 18 16,oXx 19 1 14 16,oDd 20 19,oM 7 18,oM 8 20] [0,1,5,6,7,8,14,15,16] [[13]])<|.seq (oR [oM 21 8,oM 22 1,oBb 23 .mul 21 22,oM 24 6,oBb 25 .add 23 24,oM 9 25] [0,1,5,7,9,14,15,16] [[13]])<|oR [oM 26 5,oM 27 7,oM 28 9,oA 29 (.bin .rem (.t 28) (oC 1000000000)),oM 30 9,oA 31 (.bin .quo (.t 30) (oC 1000000000)),oXx 32 1 26 27,oPp 1 32 29,oM 6 31] [0,1,5,6,14,15,16] [[13]])<|.keep [0,1,5,6,14,15,16] [[13]])<|oR [oA 33 (.bin .add (.t 16) (oC 1)),oM 16 33] [0,1,5,6,14,15,16] [[13]])<|.keep [0,1,5,6,14,15,16] [[13]]
def Qg1:CF:=⟨2,.seq (oR [oA 4 (.mov (.c (.z true)))] [0,1] [])<|.seq (oR [oM 10 0,oQq 11 10,oA 12 (.bin .add (.t 11) (oC 1)),oA 13 (.mksl 1 8 [.v (.int .i64 0)] (.t 12) (.t 12)),oM 5 13] [0,1,5] [[13]])<|.seq (oR [oA 6 (.mov (oC 0))] [0,1,5,6] [[13]])<|.seq (.seq (oR [oM 14 0,oQq 15 14,oA 16 (.mov (oC 0))] [0,1,5,6,14,15,16] [[13]])<|.seq (.blk 0<|.seq (.keep [0,1,5,6,14,15,16] [[13]])<|.loop Qce)<|.keep [0,5,6] [[13]])<|.seq (oR [oM 34 5,oM 35 0,oQq 36 35,oM 37 6,oXx 38 1 34 36,oPp 1 38 37] [5] [[13]])<|.seq (oR [oM 39 5,oM 4 39] [4] [[13]])<|.ret,[.t 4]⟩

end Go.AM

set_option maxRecDepth 100000
namespace Go.AM
open Go Go.Proofs

def ft:Nat→Option CF
 | 7=>some QcE
 | 9=>some Qc7
 | 10=>some Qea
 | 11=>some QeX
 | 12=>some Qc9
 | 13=>some Qe6
 | 14=>some QfP
 | 15=>some Qjr
 | 16=>some QhE
 | 17=>some QcU
 | 18=>some QfF
 | 19=>some Qjc
 | 20=>some Qfa
 | 21=>some Qfh
 | 22=>some Qdj
 | 23=>some Qed
 | 24=>some Qgo
 | 25=>some QjB
 | 26=>some Qgb
 | 27=>some Qg0
 | 28=>some QoC
 | 29=>some QoL
 | 30=>some Qgh
 | 31=>some Qlb
 | 32=>some Qgm
 | 33=>some QfH
 | 34=>some QfN
 | 35=>some Qc5
 | 36=>some QeR
 | 37=>some QhN
 | 38=>some Qe4
 | 39=>some Qt7
 | 41=>some Qd4
 | 42=>some Qdp
 | 43=>some QfQ
 | 44=>some Qdi
 | 45=>some Qes
 | 46=>some QdP
 | 47=>some QfJ
 | 48=>some Qmf
 | 49=>some Qjt
 | 50=>some QkE
 | 51=>some Qn9
 | 52=>some Qme
 | 53=>some QfS
 | 54=>some QoW
 | 55=>some Qq8
 | 56=>some Qgf
 | 57=>some Qhw
 | 58=>some rat_Of
 | 59=>some Qgn
 | 60=>some Qnd
 | 61=>some QbM
 | 62=>some Qgt
 | 63=>some Qet
 | 64=>some Qga
 | 65=>some Qf2
 | 66=>some QbI
 | 67=>some Qdz
 | 68=>some Qfj
 | 69=>some Qkd
 | 70=>some QkM
 | 71=>some Qjn
 | 72=>some QiB
 | 73=>some QiJ
 | 74=>some QhL
 | 75=>some Qmz
 | 76=>some Qib
 | 77=>some Qik
 | 78=>some QfO
 | 79=>some Qgq
 | 80=>some QbX
 | 81=>some Qjm
 | 82=>some QcW
 | 83=>some Qdk
 | 84=>some Qa6
 | 85=>some QjN
 | 86=>some Qgx
 | 87=>some QdG
 | 88=>some QeH
 | 89=>some Qf9
 | 90=>some Qht
 | 91=>some Qfy
 | 92=>some Qbc
 | 93=>some Qf8
 | 94=>some QoN
 | 95=>some Qhx
 | 96=>some QcS
 | 97=>some QiL
 | 98=>some Qe3
 | 99=>some Qgw
 | 100=>some QiR
 | 101=>some Qbf
 | 102=>some Qdl
 | 103=>some QeE
 | 104=>some Qdy
 | 105=>some QeK
 | 106=>some Qd8
 | 107=>some QdD
 | 108=>some Qq4
 | 109=>some QaX
 | 110=>some sturm_zeros_1
 | 111=>some sturm_zeros_1_1
 | 112=>some Qex
 | 113=>some Qfo
 | 114=>some slices_Backward_api_Poly_api_Rat_1
 | 115=>some QjW
 | 116=>some Qra
 | 117=>some QdA
 | 118=>some Qcs
 | 119=>some QiT
 | 120=>some QfA
 | 121=>some Qhz
 | 122=>some QhH
 | 123=>some Qdt
 | 124=>some QfK
 | 125=>some Qbp
 | 126=>some QdM
 | 127=>some Qdv
 | 128=>some Qfc
 | 129=>some Qcb
 | 130=>some QeV
 | 131=>some QhO
 | 132=>some QhR
 | 133=>some Qh5
 | 134=>some Qg1
 | _=>none
theorem Qh6:QjV Tryz.prog Tryz.f110=some sturm_zeros_1.er:=by kernel_rfl
theorem Qg5:QjV Tryz.prog Tryz.f111=some sturm_zeros_1_1.er:=by kernel_rfl
theorem Qcd:QjV Tryz.prog Tryz.f114=some slices_Backward_api_Poly_api_Rat_1.er:=by kernel_rfl
theorem fkH {f:Nat} {fn:Func} {cf:CF} (h1:Tryz.prog.funcs[f]?=some fn) (h2:QjV Tryz.prog fn=some cf.er:=by kernel_rfl) (h3:cf.body.noInl=true:=by kernel_rfl):∃ fn L,Tryz.prog.funcs[f]?=some fn∧QjV Tryz.prog fn=some cf.er∧Qij Tryz.prog L cf.body∧(L=[]∨∀ b,fn.body=some b→okI L b=true):=⟨_,[],h1,h2,QdF h3,.inl rfl⟩
theorem ft_ok:∀ f cf,ft f=some cf→∃ fn L,Tryz.prog.funcs[f]?=some fn∧QjV Tryz.prog fn=some cf.er∧Qij Tryz.prog L cf.body∧(L=[]∨∀ b,fn.body=some b→okI L b=true):=by
  intro f cf h
  unfold ft at h
  split at h
  · cases h;exact fkH Tryz.func7
  · cases h;exact fkH Tryz.func9
  · cases h;exact fkH Tryz.func10
  · cases h;exact fkH Tryz.func11
  · cases h;exact fkH Tryz.func12
  · cases h;exact fkH Tryz.func13
  · cases h;exact fkH Tryz.func14
  · cases h;exact fkH Tryz.func15
  · cases h;exact fkH Tryz.func16
  · cases h;exact fkH Tryz.func17
  · cases h;exact fkH Tryz.func18
  · cases h;exact fkH Tryz.func19
  · cases h;exact fkH Tryz.func20
  · cases h;exact fkH Tryz.func21
  · cases h;exact fkH Tryz.func22
  · cases h;exact fkH Tryz.func23
  · cases h;exact fkH Tryz.func24
  · cases h;exact fkH Tryz.func25
  · cases h;exact fkH Tryz.func26
  · cases h;exact fkH Tryz.func27
  · cases h;exact fkH Tryz.func28
  · cases h;exact fkH Tryz.func29
  · cases h;exact fkH Tryz.func30
  · cases h;exact fkH Tryz.func31
  · cases h;exact fkH Tryz.func32
  · cases h;exact fkH Tryz.func33
  · cases h;exact fkH Tryz.func34
  · cases h;exact fkH Tryz.func35
  · cases h;exact fkH Tryz.func36
  · cases h;exact fkH Tryz.func37
  · cases h;exact fkH Tryz.func38
  · cases h;exact fkH Tryz.func39
  · cases h;exact fkH Tryz.func41
  · cases h;exact fkH Tryz.func42
  · cases h;exact fkH Tryz.func43
  · cases h;exact fkH Tryz.func44
  · cases h;exact fkH Tryz.func45
  · cases h;exact fkH Tryz.func46
  · cases h;exact fkH Tryz.func47
  · cases h;exact fkH Tryz.func48
  · cases h;exact fkH Tryz.func49
  · cases h;exact fkH Tryz.func50
  · cases h;exact fkH Tryz.func51
  · cases h;exact fkH Tryz.func52
  · cases h;exact fkH Tryz.func53
  · cases h;exact fkH Tryz.func54
  · cases h;exact fkH Tryz.func55
  · cases h;exact fkH Tryz.func56
  · cases h;exact fkH Tryz.func57
  · cases h;exact fkH Tryz.func58
  · cases h;exact fkH Tryz.func59
  · cases h;exact fkH Tryz.func60
  · cases h;exact fkH Tryz.func61
  · cases h;exact fkH Tryz.func62
  · cases h;exact fkH Tryz.func63
  · cases h;exact fkH Tryz.func64
  · cases h;exact fkH Tryz.func65
  · cases h;exact fkH Tryz.func66
  · cases h;exact fkH Tryz.func67
  · cases h;exact fkH Tryz.func68
  · cases h;exact fkH Tryz.func69
  · cases h;exact fkH Tryz.func70
  · cases h;exact fkH Tryz.func71
  · cases h;exact fkH Tryz.func72
  · cases h;exact fkH Tryz.func73
  · cases h;exact fkH Tryz.func74
  · cases h;exact fkH Tryz.func75
  · cases h;exact fkH Tryz.func76
  · cases h;exact fkH Tryz.func77
  · cases h;exact fkH Tryz.func78
  · cases h;exact fkH Tryz.func79
  · cases h;exact fkH Tryz.func80
  · cases h;exact fkH Tryz.func81
  · cases h;exact fkH Tryz.func82
  · cases h;exact fkH Tryz.func83
  · cases h;exact fkH Tryz.func84
  · cases h;exact fkH Tryz.func85
  · cases h;exact fkH Tryz.func86
  · cases h;exact fkH Tryz.func87
  · cases h;exact fkH Tryz.func88
  · cases h;exact fkH Tryz.func89
  · cases h;exact fkH Tryz.func90
  · cases h;exact fkH Tryz.func91
  · cases h;exact fkH Tryz.func92
  · cases h;exact fkH Tryz.func93
  · cases h;exact fkH Tryz.func94
  · cases h;exact fkH Tryz.func95
  · cases h;exact fkH Tryz.func96
  · cases h;exact fkH Tryz.func97
  · cases h;exact fkH Tryz.func98
  · cases h;exact fkH Tryz.func99
  · cases h;exact fkH Tryz.func100
  · cases h;exact fkH Tryz.func101
  · cases h;exact fkH Tryz.func102
  · cases h;exact fkH Tryz.func103
  · cases h;exact fkH Tryz.func104
  · cases h;exact fkH Tryz.func105
  · cases h;exact fkH Tryz.func106
  · cases h;exact fkH Tryz.func107
  · cases h;exact fkH Tryz.func108
  · cases h;exact fkH Tryz.func109
  · cases h;exact ⟨_,[],Tryz.func110,Qh6,QdF (by kernel_rfl),.inl rfl⟩
  · cases h;exact ⟨_,[],Tryz.func111,Qg5,QdF (by kernel_rfl),.inl rfl⟩
  · cases h;exact fkH Tryz.func112
  · cases h;exact fkH Tryz.func113
  · cases h;exact ⟨_,[],Tryz.func114,Qcd,QdF (by kernel_rfl),.inl rfl⟩
  · cases h;exact fkH Tryz.func115
  · cases h;exact fkH Tryz.func116
  · cases h;exact fkH Tryz.func117
  · cases h;exact fkH Tryz.func118
  · cases h;exact fkH Tryz.func119
  · cases h;exact fkH Tryz.func120
  · cases h;exact fkH Tryz.func121
  · cases h;exact fkH Tryz.func122
  · cases h;exact fkH Tryz.func123
  · cases h;exact fkH Tryz.func124
  · cases h;exact fkH Tryz.func125
  · cases h;exact fkH Tryz.func126
  · cases h;exact fkH Tryz.func127
  · cases h;exact fkH Tryz.func128
  · cases h;exact fkH Tryz.func129
  · cases h;exact fkH Tryz.func130
  · cases h;exact fkH Tryz.func131
  · cases h;exact fkH Tryz.func132
  · cases h;exact fkH Tryz.func133
  · cases h;exact fkH Tryz.func134
  · cases h
end Go.AM

