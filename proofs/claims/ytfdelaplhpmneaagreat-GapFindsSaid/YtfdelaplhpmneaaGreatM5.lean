/- Part 5 of the proof: a small machine, its soundness against the model, and what the program's functions compute on it. -/
import Derived.Test.YtfdelaplhpmneaaGreatM4
import Derived.Test.YtfdelaplhpmneaaGreatProg
import Derived.KernelRfl
import Derived.Test.YtfdelaplhpmneaaGreatM3
import Derived.Test.YtfdelaplhpmneaaGreatM0
import Derived.RowKit
set_option linter.unusedVariables false
set_option linter.unusedSimpArgs false
set_option maxRecDepth 100000
namespace Go.AM
open Go Go.Proofs


def Qay : C :=
 .seq (.seq (.seq (oR [oM 10 6,oM 11 0,oQq 12 11,oBb 13 .lss 10 12] [0,3,5,6,13] [[3],[28]]) <| .cond (.t 13) (.skip) <| .seq (.keep [5] [[28]]) <| .exit 0) <| .seq (.seq (.blk 1 <| .seq (oR [oM 16 0,oM 17 6,oXx 18 1 16 17,oDd 19 18,oL 20 4 3,oJ 21 QcW [19,20],oJ 22 QaS [21],oM 7 22] [0,3,5,6,7] [[3],[28]]) <| .seq (oR [oM 23 7,oA 24 (.bin .neq (.t 23) (oC 0))] [0,3,5,6,7,24] [[3],[28]]) <| .cond (.t 24) (oR [oM 25 5,oM 26 7,oA 27 (.lit 1 1 [.v (.int .i64 0)] [(0,(.t 26))] true),oA 28 (.app 1 8 (.t 25) (.t 27) false),oM 5 28] [0,3,5,6] [[3],[28]]) <| .skip) <| .keep [0,3,5,6] [[3],[28]]) <| oR [oM 14 6,oA 15 (.bin .add (.t 14) (oC 1)),oM 6 15] [0,3,5,6] [[3],[28]]) <| .keep [0,3,5,6] [[3],[28]]
def QaD : C :=
 .seq (.seq (.seq (oR [oM 29 9,oM 30 5,oQq 31 30,oBb 32 .lss 29 31] [5,8,9,32] [[28]]) <| .cond (.t 32) (.skip) <| .seq (.keep [8] []) <| .exit 2) <| .seq (.seq (.blk 3 <| .seq (oR [oM 35 5,oM 36 9,oXx 37 1 35 36,oDd 38 37,oM 39 5,oM 40 9,oA 41 (.bin .sub (.t 40) (oC 1)),oXx 42 1 39 41,oDd 43 42,oBb 44 .neq 38 43] [5,8,9,44] [[28]]) <| .cond (.t 44) (oR [oM 45 8,oA 46 (.bin .add (.t 45) (oC 1)),oM 8 46] [5,8,9] [[28]]) <| .skip) <| .keep [5,8,9] [[28]]) <| oR [oM 33 9,oA 34 (.bin .add (.t 33) (oC 1)),oM 9 34] [5,8,9] [[28]]) <| .keep [5,8,9] [[28]]
def Qdh : CF := ⟨2,.seq (oR [oEe 3 1,oA 4 (.mov (oC 0))] [0,3] [[3]]) <| .seq (oR [oA 5 (.mov (.c (.z true)))] [0,3,5] [[3],[28]]) <| .seq (.seq (oR [oA 6 (.mov (oC 0))] [0,3,5,6] [[3],[28]]) <| .seq (.blk 0 <| .seq (.keep [0,3,5,6] [[3],[28]]) <| .loop Qay) <| .keep [5] [[28]]) <| .seq (oR [oA 8 (.mov (oC 0))] [5,8] [[28]]) <| .seq (.seq (oR [oA 9 (.mov (oC 1))] [5,8,9] [[28]]) <| .seq (.blk 2 <| .seq (.keep [5,8,9] [[28]]) <| .loop QaD) <| .keep [8] []) <| .seq (oR [oM 47 8,oM 4 47] [4] []) <| .ret,[.t 4]⟩

def QdZ : CF := ⟨2,.seq (oR [oA 4 (.mov (oC 0))] [0,1] []) <| .seq (.seq (oR [oM 5 1,oM 6 0,oQq 7 6,oBb 8 .lss 5 7] [0,1,8] []) <| .cond (.t 8) (.seq (oR [oM 9 0,oM 10 1,oXx 11 1 9 10,oDd 12 11,oM 4 12] [4] []) <| .ret) <| .skip) <| .seq (oR [oA 4 (.mov (oC 0))] [4] []) <| .ret,[.t 4]⟩

def Qfr : CF := ⟨2,.seq (oR [oA 4 (.mov (.c (.z true)))] [0,1] []) <| .seq (oR [oM 6 0,oA 7 (.call Qan [(.c (.v (.bool false))),(.t 6)] false),oM 8 1,oJ 9 QaI [8],oJ 10 QaC [7,9],oA 5 (.new [.v (.bool false),.z true]),oPp 2 5 10] [5] [[5]]) <| .seq (oR [oNn 11 1 5,oDd 12 11,oM 4 12] [4] []) <| .ret,[.t 4]⟩

def QcN : C :=
 .seq (.seq (.seq (oR [oM 16 8,oA 17 (.bin .geq (.t 16) (oC 0))] [0,1,6,7,8,17] [[12]]) <| .cond (.t 17) (.skip) <| .seq (.keep [6,7] [[12]]) <| .exit 0) <| .seq (.seq (.blk 1 <| .seq (oR [oM 20 7,oA 21 (.bin .mul (.t 20) (oC 1000000000)),oM 22 0,oM 23 8,oXx 24 1 22 23,oDd 25 24,oBb 26 .add 21 25,oM 9 26] [0,1,6,8,9] [[12]]) <| oR [oM 27 6,oM 28 8,oM 29 9,oM 30 1,oBb 31 .quo 29 30,oM 32 9,oM 33 1,oBb 34 .rem 32 33,oXx 35 1 27 28,oPp 1 35 31,oM 7 34] [0,1,6,7,8] [[12]]) <| .keep [0,1,6,7,8] [[12]]) <| oR [oM 18 8,oA 19 (.bin .sub (.t 18) (oC 1)),oM 8 19] [0,1,6,7,8] [[12]]) <| .keep [0,1,6,7,8] [[12]]
def Qid : CF := ⟨2,.seq (oR [oA 4 (.mov (.c (.z true))),oA 5 (.mov (oC 0))] [0,1] []) <| .seq (oR [oM 10 0,oQq 11 10,oA 12 (.mksl 1 8 [.v (.int .i64 0)] (.t 11) (.t 11)),oM 6 12] [0,1,6] [[12]]) <| .seq (oR [oA 7 (.mov (oC 0))] [0,1,6,7] [[12]]) <| .seq (.seq (oR [oM 13 0,oQq 14 13,oA 15 (.bin .sub (.t 14) (oC 1)),oM 8 15] [0,1,6,7,8] [[12]]) <| .seq (.blk 0 <| .seq (.keep [0,1,6,7,8] [[12]]) <| .loop QcN) <| .keep [6,7] [[12]]) <| .seq (oR [oM 36 6,oM 37 7,oM 4 36,oM 5 37] [4,5] [[12]]) <| .ret,[.t 4,.t 5]⟩

def QbD : C :=
 .seq (.seq (.seq (oR [oM 84 13,oA 85 (.bin .geq (.t 84) (oC 1000000000)),oM 86 85,oHh 87 86 false 13,oHh 88 86 false 8,oHh 89 86 false 9,oG 90 86 false (.bin .sub (.t 89) (oC 2)),oG 91 86 false (.ixa 1 (.t 88) (.t 90)),oG 92 86 false (.load none (.t 91)),oG 93 86 false (.bin .mul (.t 87) (.t 92)),oHh 94 86 false 14,oG 95 86 false (.bin .mul (.t 94) (oC 1000000000)),oHh 96 86 false 7,oHh 97 86 false 11,oHh 98 86 false 9,oG 99 86 false (.bin .add (.t 97) (.t 98)),oG 100 86 false (.bin .sub (.t 99) (oC 2)),oG 101 86 false (.ixa 1 (.t 96) (.t 100)),oG 102 86 false (.load none (.t 101)),oG 103 86 false (.bin .add (.t 95) (.t 102)),oG 104 86 false (.bin .gtr (.t 93) (.t 103)),oA 105 (.pick (.t 86) (.c (.v (.bool true))) (.t 104))] [6,7,8,9,10,11,13,14,105] [[32],[46]]) <| .cond (.t 105) (.skip) <| .seq (.keep [6,7,8,9,10,11,13] [[32],[46]]) <| .exit 2) <| .seq (.blk 3 <| .seq (oR [oM 106 13,oA 107 (.bin .sub (.t 106) (oC 1)),oM 13 107] [6,7,8,9,10,11,13,14] [[32],[46]]) <| .seq (oR [oM 108 14,oM 109 8,oM 110 9,oA 111 (.bin .sub (.t 110) (oC 1)),oXx 112 1 109 111,oDd 113 112,oBb 114 .add 108 113,oM 14 114] [6,7,8,9,10,11,13,14] [[32],[46]]) <| .seq (oR [oM 115 14,oA 116 (.bin .geq (.t 115) (oC 1000000000))] [6,7,8,9,10,11,13,14,116] [[32],[46]]) <| .cond (.t 116) (.seq (.keep [6,7,8,9,10,11,13] [[32],[46]]) <| .exit 2) <| .skip) <| .keep [6,7,8,9,10,11,13,14] [[32],[46]]) <| .keep [6,7,8,9,10,11,13,14] [[32],[46]]
def QcD : C :=
 .seq (.seq (oR [oBb 119 .lss 118 117] [6,7,8,9,10,11,13,15,117,118,119] [[32],[46]]) <| .seq (.cond (.t 119) (.skip) <| .seq (.keep [6,7,8,9,10,11,13,15] [[32],[46]]) <| .exit 4) <| .seq (.seq (.blk 5 <| .seq (oR [oM 120 118,oM 16 120] [6,7,8,9,10,11,13,15,16,117,118] [[32],[46]]) <| .seq (oR [oM 121 7,oM 122 16,oM 123 11,oBb 124 .add 122 123,oXx 125 1 121 124,oDd 126 125,oM 127 13,oM 128 8,oM 129 16,oXx 130 1 128 129,oDd 131 130,oBb 132 .mul 127 131,oBb 133 .sub 126 132,oM 134 15,oBb 135 .sub 133 134,oM 17 135] [6,7,8,9,10,11,13,16,17,117,118] [[32],[46]]) <| .seq (oR [oA 15 (.mov (oC 0))] [6,7,8,9,10,11,13,15,16,17,117,118] [[32],[46]]) <| .seq (.seq (oR [oM 136 17,oA 137 (.bin .lss (.t 136) (oC 0))] [6,7,8,9,10,11,13,15,16,17,117,118,137] [[32],[46]]) <| .cond (.t 137) (.seq (oR [oM 138 17,oA 139 (.un .neg (.t 138)),oA 140 (.bin .add (.t 139) (oC 1000000000)),oA 141 (.bin .sub (.t 140) (oC 1)),oA 142 (.bin .quo (.t 141) (oC 1000000000)),oM 15 142] [6,7,8,9,10,11,13,15,16,17,117,118] [[32],[46]]) <| oR [oM 143 17,oM 144 15,oA 145 (.bin .mul (.t 144) (oC 1000000000)),oBb 146 .add 143 145,oM 17 146] [6,7,8,9,10,11,13,15,16,17,117,118] [[32],[46]]) <| .skip) <| oR [oM 147 7,oM 148 16,oM 149 11,oBb 150 .add 148 149,oM 151 17,oXx 152 1 147 150,oPp 1 152 151] [6,7,8,9,10,11,13,15,117,118] [[32],[46]]) <| .keep [6,7,8,9,10,11,13,15,117,118] [[32],[46]]) <| oR [oA 153 (.bin .add (.t 118) (oC 1)),oM 118 153] [6,7,8,9,10,11,13,15,117,118] [[32],[46]]) <| .keep [6,7,8,9,10,11,13,15,117,118] [[32],[46]]
def Qc5 : C :=
 .seq (.seq (oR [oBb 174 .lss 173 172] [6,7,8,9,10,11,13,15,172,173,174] [[32],[46]]) <| .seq (.cond (.t 174) (.skip) <| .seq (.keep [6,7,8,9,10,11,13,15] [[32],[46]]) <| .exit 6) <| .seq (.seq (.blk 7 <| .seq (oR [oM 175 173,oM 18 175] [6,7,8,9,10,11,13,15,18,172,173] [[32],[46]]) <| .seq (oR [oM 176 7,oM 177 18,oM 178 11,oBb 179 .add 177 178,oXx 180 1 176 179,oDd 181 180,oM 182 8,oM 183 18,oXx 184 1 182 183,oDd 185 184,oBb 186 .add 181 185,oM 187 15,oBb 188 .add 186 187,oM 19 188] [6,7,8,9,10,11,13,18,19,172,173] [[32],[46]]) <| oR [oM 189 7,oM 190 18,oM 191 11,oBb 192 .add 190 191,oM 193 19,oA 194 (.bin .rem (.t 193) (oC 1000000000)),oM 195 19,oA 196 (.bin .quo (.t 195) (oC 1000000000)),oXx 197 1 189 192,oPp 1 197 194,oM 15 196] [6,7,8,9,10,11,13,15,172,173] [[32],[46]]) <| .keep [6,7,8,9,10,11,13,15,172,173] [[32],[46]]) <| oR [oA 198 (.bin .add (.t 173) (oC 1)),oM 173 198] [6,7,8,9,10,11,13,15,172,173] [[32],[46]]) <| .keep [6,7,8,9,10,11,13,15,172,173] [[32],[46]]
def QcJ : C :=
 .seq (.seq (.seq (oR [oM 51 11,oA 52 (.bin .geq (.t 51) (oC 0))] [6,7,8,9,10,11,52] [[32],[46]]) <| .cond (.t 52) (.skip) <| .seq (.keep [6,7,9,10] [[32],[46]]) <| .exit 0) <| .seq (.seq (.blk 1 <| .seq (oR [oM 55 7,oM 56 11,oM 57 9,oBb 58 .add 56 57,oXx 59 1 55 58,oDd 60 59,oA 61 (.bin .mul (.t 60) (oC 1000000000)),oM 62 7,oM 63 11,oM 64 9,oBb 65 .add 63 64,oA 66 (.bin .sub (.t 65) (oC 1)),oXx 67 1 62 66,oDd 68 67,oBb 69 .add 61 68,oM 12 69] [6,7,8,9,10,11,12] [[32],[46]]) <| .seq (oR [oM 70 12,oM 71 8,oM 72 9,oA 73 (.bin .sub (.t 72) (oC 1)),oXx 74 1 71 73,oDd 75 74,oBb 76 .quo 70 75,oM 77 12,oM 78 8,oM 79 9,oA 80 (.bin .sub (.t 79) (oC 1)),oXx 81 1 78 80,oDd 82 81,oBb 83 .rem 77 82,oM 13 76,oM 14 83] [6,7,8,9,10,11,13,14] [[32],[46]]) <| .seq (.skip) <| .seq (.seq (.blk 2 <| .seq (.keep [6,7,8,9,10,11,13,14] [[32],[46]]) <| .loop QbD) <| .keep [6,7,8,9,10,11,13] [[32],[46]]) <| .seq (oR [oA 15 (.mov (oC 0))] [6,7,8,9,10,11,13,15] [[32],[46]]) <| .seq (.seq (oR [oM 117 9,oA 118 (.mov (oC 0))] [6,7,8,9,10,11,13,15,117,118] [[32],[46]]) <| .seq (.blk 4 <| .seq (.keep [6,7,8,9,10,11,13,15,117,118] [[32],[46]]) <| .loop QcD) <| .keep [6,7,8,9,10,11,13,15] [[32],[46]]) <| .seq (.seq (oR [oM 154 7,oM 155 11,oM 156 9,oBb 157 .add 155 156,oXx 158 1 154 157,oDd 159 158,oM 160 15,oBb 161 .sub 159 160,oXx 162 1 154 157,oPp 1 162 161] [6,7,8,9,10,11,13] [[32],[46]]) <| .seq (oR [oM 163 7,oM 164 11,oM 165 9,oBb 166 .add 164 165,oXx 167 1 163 166,oDd 168 167,oA 169 (.bin .lss (.t 168) (oC 0))] [6,7,8,9,10,11,13,169] [[32],[46]]) <| .cond (.t 169) (.seq (oR [oM 170 13,oA 171 (.bin .sub (.t 170) (oC 1)),oM 13 171] [6,7,8,9,10,11,13] [[32],[46]]) <| .seq (oR [oA 15 (.mov (oC 0))] [6,7,8,9,10,11,13,15] [[32],[46]]) <| .seq (.seq (oR [oM 172 9,oA 173 (.mov (oC 0))] [6,7,8,9,10,11,13,15,172,173] [[32],[46]]) <| .seq (.blk 6 <| .seq (.keep [6,7,8,9,10,11,13,15,172,173] [[32],[46]]) <| .loop Qc5) <| .keep [6,7,8,9,10,11,13,15] [[32],[46]]) <| oR [oM 199 7,oM 200 11,oM 201 9,oBb 202 .add 200 201,oXx 203 1 199 202,oDd 204 203,oM 205 15,oBb 206 .add 204 205,oXx 207 1 199 202,oPp 1 207 206] [6,7,8,9,10,11,13] [[32],[46]]) <| .skip) <| oR [oM 208 10,oM 209 11,oM 210 13,oXx 211 1 208 209,oPp 1 211 210] [6,7,8,9,10,11] [[32],[46]]) <| .keep [6,7,8,9,10,11] [[32],[46]]) <| oR [oM 53 11,oA 54 (.bin .sub (.t 53) (oC 1)),oM 11 54] [6,7,8,9,10,11] [[32],[46]]) <| .keep [6,7,8,9,10,11] [[32],[46]]
def Qiu : CF := ⟨2,.seq (oR [oA 4 (.mov (.c (.z true))),oA 5 (.mov (.c (.z true)))] [0,1] []) <| .seq (oR [oM 22 1,oM 23 1,oQq 24 23,oA 25 (.bin .sub (.t 24) (oC 1)),oXx 26 1 22 25,oDd 27 26,oA 28 (.bin .add (.t 27) (oC 1)),oA 29 (.bin .quo (oC 1000000000) (.t 28)),oM 6 29] [0,1,6] []) <| .seq (oR [oM 30 0,oM 31 6,oA 32 (.call Qf7 [.t 30,.t 31] true),oM 33 1,oM 34 6,oJ 35 Qf7 [33,34],oM 36 1,oQq 37 36,oA 38 (.slc 1 (.t 35) none (some (.t 37)) none),oM 7 32,oM 8 38] [0,1,6,7,8] [[32]]) <| .seq (oR [oM 39 1,oQq 40 39,oM 9 40] [0,6,7,8,9] [[32]]) <| .seq (oR [oM 41 0,oQq 42 41,oM 43 9,oBb 44 .sub 42 43,oA 45 (.bin .add (.t 44) (oC 1)),oA 46 (.mksl 1 8 [.v (.int .i64 0)] (.t 45) (.t 45)),oM 10 46] [0,6,7,8,9,10] [[32],[46]]) <| .seq (.seq (oR [oM 47 0,oQq 48 47,oM 49 9,oBb 50 .sub 48 49,oM 11 50] [6,7,8,9,10,11] [[32],[46]]) <| .seq (.blk 0 <| .seq (.keep [6,7,8,9,10,11] [[32],[46]]) <| .loop QcJ) <| .keep [6,7,9,10] [[32],[46]]) <| .seq (.seq (.frz 7) <| oR [oM 213 7,oM 214 9,oA 215 (.slc 1 (.t 213) none (some (.t 214)) none),oM 216 6,oJ 217 QgB [215,216],oM 212 217,oA 218 (.ext (.t 212) 0),oA 219 (.ext (.t 212) 1),oM 20 218,oM 21 219] [10,20] [[46]]) <| .seq (oR [oM 220 10,oM 221 20,oM 4 220,oM 5 221] [4,5] [[46]]) <| .ret,[.t 4,.t 5]⟩

def QcC : C :=
 .seq (.seq (oR [oBb 17 .lss 16 15] [0,1,5,6,14,15,16,17] [[13]]) <| .seq (.cond (.t 17) (.skip) <| .seq (.keep [0,5,6] [[13]]) <| .exit 0) <| .seq (.seq (.blk 1 <| .seq (oR [oM 18 16,oXx 19 1 14 16,oDd 20 19,oM 7 18,oM 8 20] [0,1,5,6,7,8,14,15,16] [[13]]) <| .seq (oR [oM 21 8,oM 22 1,oBb 23 .mul 21 22,oM 24 6,oBb 25 .add 23 24,oM 9 25] [0,1,5,7,9,14,15,16] [[13]]) <| oR [oM 26 5,oM 27 7,oM 28 9,oA 29 (.bin .rem (.t 28) (oC 1000000000)),oM 30 9,oA 31 (.bin .quo (.t 30) (oC 1000000000)),oXx 32 1 26 27,oPp 1 32 29,oM 6 31] [0,1,5,6,14,15,16] [[13]]) <| .keep [0,1,5,6,14,15,16] [[13]]) <| oR [oA 33 (.bin .add (.t 16) (oC 1)),oM 16 33] [0,1,5,6,14,15,16] [[13]]) <| .keep [0,1,5,6,14,15,16] [[13]]
def Qhw : CF := ⟨2,.seq (oR [oA 4 (.mov (.c (.z true)))] [0,1] []) <| .seq (oR [oM 10 0,oQq 11 10,oA 12 (.bin .add (.t 11) (oC 1)),oA 13 (.mksl 1 8 [.v (.int .i64 0)] (.t 12) (.t 12)),oM 5 13] [0,1,5] [[13]]) <| .seq (oR [oA 6 (.mov (oC 0))] [0,1,5,6] [[13]]) <| .seq (.seq (oR [oM 14 0,oQq 15 14,oA 16 (.mov (oC 0))] [0,1,5,6,14,15,16] [[13]]) <| .seq (.blk 0 <| .seq (.keep [0,1,5,6,14,15,16] [[13]]) <| .loop QcC) <| .keep [0,5,6] [[13]]) <| .seq (oR [oM 34 5,oM 35 0,oQq 36 35,oM 37 6,oXx 38 1 34 36,oPp 1 38 37] [5] [[13]]) <| .seq (oR [oM 39 5,oM 4 39] [4] [[13]]) <| .ret,[.t 4]⟩

end Go.AM

set_option maxRecDepth 100000
namespace Go.AM
open Go Go.Proofs

def ft : Nat → Option CF
 | 3 => some Qeg
 | 8 => some Qbo
 | 9 => some Qfe
 | 10 => some QgV
 | 11 => some Qel
 | 12 => some QcB
 | 13 => some Qfx
 | 14 => some Qhv
 | 15 => some QoR
 | 16 => some Qew
 | 17 => some QhX
 | 18 => some Qdo
 | 19 => some Qf4
 | 20 => some Qoe
 | 21 => some Qgk
 | 22 => some QoC
 | 23 => some Qey
 | 24 => some Qfc
 | 25 => some Ql1
 | 26 => some Qli
 | 27 => some QqK
 | 28 => some Qg4
 | 30 => some Qfs
 | 31 => some Qh6
 | 32 => some Qgf
 | 34 => some QmN
 | 35 => some rat_Of
 | 37 => some Qdt
 | 38 => some QdS
 | 39 => some QgK
 | 40 => some QdD
 | 41 => some Qd1
 | 42 => some QdL
 | 43 => some Qff
 | 47 => some Qjt
 | 48 => some Qoa
 | 50 => some Qeu
 | 51 => some Qgd
 | 52 => some Qet
 | 53 => some Qf2
 | 54 => some Qf5
 | 55 => some QgF
 | 56 => some Qfp
 | 57 => some QgX
 | 58 => some QbZ
 | 59 => some QfN
 | 60 => some Qa7
 | 61 => some QkU
 | 62 => some Qgp
 | 63 => some Qoj
 | 64 => some Qbr
 | 65 => some QdR
 | 66 => some QhU
 | 67 => some Qga
 | 68 => some QeA
 | 69 => some QgM
 | 70 => some QkL
 | 71 => some Qky
 | 72 => some Qmr
 | 73 => some QjV
 | 74 => some Qlj
 | 75 => some QqW
 | 76 => some QgL
 | 77 => some QgJ
 | 78 => some Qg3
 | 79 => some QgE
 | 80 => some QoI
 | 81 => some QiZ
 | 82 => some Qfh
 | 85 => some Qbh
 | 86 => some Qjc
 | 87 => some QeY
 | 88 => some QoU
 | 89 => some Qre
 | 90 => some Qg2
 | 91 => some Qax
 | 97 => some Qlk
 | 98 => some Qq2
 | 99 => some Qo4
 | 105 => some QdN
 | 108 => some Qgt
 | 109 => some QfU
 | 110 => some Qgc
 | 111 => some Qc6
 | 112 => some QeD
 | 113 => some Qf0
 | 114 => some Qgb
 | 115 => some Qgz
 | 116 => some QeN
 | 117 => some QeT
 | 118 => some QdO
 | 119 => some QgD
 | 120 => some Qe8
 | 121 => some QdE
 | 122 => some Qgi
 | 123 => some Qb8
 | 124 => some QdU
 | 125 => some Qa5
 | 126 => some QgG
 | 127 => some Qjd
 | 128 => some QfW
 | 129 => some QdV
 | 130 => some QhY
 | 131 => some Qqz
 | 132 => some Qic
 | 133 => some QjI
 | 134 => some QdQ
 | 135 => some QcO
 | 136 => some slices_Backward_api_Poly_api_Rat_1
 | 137 => some QfJ
 | 138 => some Qh1
 | 139 => some Qc8
 | 140 => some Qf9
 | 141 => some QdK
 | 142 => some Qfg
 | 143 => some QgZ
 | 144 => some QcQ
 | 145 => some Qdn
 | 146 => some QdJ
 | 153 => some Qtx
 | 154 => some QeL
 | 155 => some QoA
 | 159 => some Qh4
 | 160 => some Qgj
 | 161 => some QbI
 | 162 => some Qeb
 | 163 => some Qbs
 | 164 => some Qez
 | 165 => some Qfy
 | 166 => some Qcz
 | 167 => some Qf3
 | 168 => some QeQ
 | 169 => some Qea
 | 170 => some QeP
 | 171 => some Qdh
 | 178 => some QdZ
 | 179 => some Qfr
 | 180 => some Qid
 | 181 => some Qiu
 | 184 => some Qhw
 | _ => none
theorem Qcx : Qm1 Tryz.prog Tryz.f136 = some slices_Backward_api_Poly_api_Rat_1.er := by kernel_rfl
theorem fkH {f : Nat} {fn : Func} {cf : CF} (h1 : Tryz.prog.funcs[f]? = some fn) (h2 : Qm1 Tryz.prog fn = some cf.er := by kernel_rfl) (h3 : cf.body.noInl = true := by kernel_rfl) : ∃ fn L, Tryz.prog.funcs[f]? = some fn ∧ Qm1 Tryz.prog fn = some cf.er ∧ QiR Tryz.prog L cf.body ∧ (L = [] ∨ ∀ b, fn.body = some b → okI L b = true) := ⟨_, [], h1, h2, QeZ h3, .inl rfl⟩
theorem ft_ok : ∀ f cf, ft f = some cf → ∃ fn L, Tryz.prog.funcs[f]? = some fn ∧ Qm1 Tryz.prog fn = some cf.er ∧ QiR Tryz.prog L cf.body ∧ (L = [] ∨ ∀ b, fn.body = some b → okI L b = true) := by
  intro f cf h
  unfold ft at h
  split at h
  · cases h; exact fkH Tryz.func3
  · cases h; exact fkH Tryz.func8
  · cases h; exact fkH Tryz.func9
  · cases h; exact fkH Tryz.func10
  · cases h; exact fkH Tryz.func11
  · cases h; exact fkH Tryz.func12
  · cases h; exact fkH Tryz.func13
  · cases h; exact fkH Tryz.func14
  · cases h; exact fkH Tryz.func15
  · cases h; exact fkH Tryz.func16
  · cases h; exact fkH Tryz.func17
  · cases h; exact fkH Tryz.func18
  · cases h; exact fkH Tryz.func19
  · cases h; exact fkH Tryz.func20
  · cases h; exact fkH Tryz.func21
  · cases h; exact fkH Tryz.func22
  · cases h; exact fkH Tryz.func23
  · cases h; exact fkH Tryz.func24
  · cases h; exact fkH Tryz.func25
  · cases h; exact fkH Tryz.func26
  · cases h; exact fkH Tryz.func27
  · cases h; exact fkH Tryz.func28
  · cases h; exact fkH Tryz.func30
  · cases h; exact fkH Tryz.func31
  · cases h; exact fkH Tryz.func32
  · cases h; exact fkH Tryz.func34
  · cases h; exact fkH Tryz.func35
  · cases h; exact fkH Tryz.func37
  · cases h; exact fkH Tryz.func38
  · cases h; exact fkH Tryz.func39
  · cases h; exact fkH Tryz.func40
  · cases h; exact fkH Tryz.func41
  · cases h; exact fkH Tryz.func42
  · cases h; exact fkH Tryz.func43
  · cases h; exact fkH Tryz.func47
  · cases h; exact fkH Tryz.func48
  · cases h; exact fkH Tryz.func50
  · cases h; exact fkH Tryz.func51
  · cases h; exact fkH Tryz.func52
  · cases h; exact fkH Tryz.func53
  · cases h; exact fkH Tryz.func54
  · cases h; exact fkH Tryz.func55
  · cases h; exact fkH Tryz.func56
  · cases h; exact fkH Tryz.func57
  · cases h; exact fkH Tryz.func58
  · cases h; exact fkH Tryz.func59
  · cases h; exact fkH Tryz.func60
  · cases h; exact fkH Tryz.func61
  · cases h; exact fkH Tryz.func62
  · cases h; exact fkH Tryz.func63
  · cases h; exact fkH Tryz.func64
  · cases h; exact fkH Tryz.func65
  · cases h; exact fkH Tryz.func66
  · cases h; exact fkH Tryz.func67
  · cases h; exact fkH Tryz.func68
  · cases h; exact fkH Tryz.func69
  · cases h; exact fkH Tryz.func70
  · cases h; exact fkH Tryz.func71
  · cases h; exact fkH Tryz.func72
  · cases h; exact fkH Tryz.func73
  · cases h; exact fkH Tryz.func74
  · cases h; exact fkH Tryz.func75
  · cases h; exact fkH Tryz.func76
  · cases h; exact fkH Tryz.func77
  · cases h; exact fkH Tryz.func78
  · cases h; exact fkH Tryz.func79
  · cases h; exact fkH Tryz.func80
  · cases h; exact fkH Tryz.func81
  · cases h; exact fkH Tryz.func82
  · cases h; exact fkH Tryz.func85
  · cases h; exact fkH Tryz.func86
  · cases h; exact fkH Tryz.func87
  · cases h; exact fkH Tryz.func88
  · cases h; exact fkH Tryz.func89
  · cases h; exact fkH Tryz.func90
  · cases h; exact fkH Tryz.func91
  · cases h; exact fkH Tryz.func97
  · cases h; exact fkH Tryz.func98
  · cases h; exact fkH Tryz.func99
  · cases h; exact fkH Tryz.func105
  · cases h; exact fkH Tryz.func108
  · cases h; exact fkH Tryz.func109
  · cases h; exact fkH Tryz.func110
  · cases h; exact fkH Tryz.func111
  · cases h; exact fkH Tryz.func112
  · cases h; exact fkH Tryz.func113
  · cases h; exact fkH Tryz.func114
  · cases h; exact fkH Tryz.func115
  · cases h; exact fkH Tryz.func116
  · cases h; exact fkH Tryz.func117
  · cases h; exact fkH Tryz.func118
  · cases h; exact fkH Tryz.func119
  · cases h; exact fkH Tryz.func120
  · cases h; exact fkH Tryz.func121
  · cases h; exact fkH Tryz.func122
  · cases h; exact fkH Tryz.func123
  · cases h; exact fkH Tryz.func124
  · cases h; exact fkH Tryz.func125
  · cases h; exact fkH Tryz.func126
  · cases h; exact fkH Tryz.func127
  · cases h; exact fkH Tryz.func128
  · cases h; exact fkH Tryz.func129
  · cases h; exact fkH Tryz.func130
  · cases h; exact fkH Tryz.func131
  · cases h; exact fkH Tryz.func132
  · cases h; exact fkH Tryz.func133
  · cases h; exact fkH Tryz.func134
  · cases h; exact fkH Tryz.func135
  · cases h; exact ⟨_, [], Tryz.func136, Qcx, QeZ (by kernel_rfl), .inl rfl⟩
  · cases h; exact fkH Tryz.func137
  · cases h; exact fkH Tryz.func138
  · cases h; exact fkH Tryz.func139
  · cases h; exact fkH Tryz.func140
  · cases h; exact fkH Tryz.func141
  · cases h; exact fkH Tryz.func142
  · cases h; exact fkH Tryz.func143
  · cases h; exact fkH Tryz.func144
  · cases h; exact fkH Tryz.func145
  · cases h; exact fkH Tryz.func146
  · cases h; exact fkH Tryz.func153
  · cases h; exact fkH Tryz.func154
  · cases h; exact fkH Tryz.func155
  · cases h; exact fkH Tryz.func159
  · cases h; exact fkH Tryz.func160
  · cases h; exact fkH Tryz.func161
  · cases h; exact fkH Tryz.func162
  · cases h; exact fkH Tryz.func163
  · cases h; exact fkH Tryz.func164
  · cases h; exact fkH Tryz.func165
  · cases h; exact fkH Tryz.func166
  · cases h; exact fkH Tryz.func167
  · cases h; exact fkH Tryz.func168
  · cases h; exact fkH Tryz.func169
  · cases h; exact fkH Tryz.func170
  · cases h; exact fkH Tryz.func171
  · cases h; exact fkH Tryz.func178
  · cases h; exact fkH Tryz.func179
  · cases h; exact fkH Tryz.func180
  · cases h; exact fkH Tryz.func181
  · cases h; exact fkH Tryz.func184
  · cases h
end Go.AM

/- The seat's functions, and that their small texts are theirs. -/
namespace Go.AM
open Go Go.Proofs
class Its where
 it : Nat → List D → Option (List (List D))
 orc : Nat → List D → Option R := fun _ _ => none
abbrev noIts : Its := { it := fun _ _ => none }
def G [Its] : Env := ⟨ft, Its.orc, Its.it⟩
theorem env_okO [Its] (h : ∀ f ds xs, Its.it f ds = some xs → ItOk Tryz.prog f ds xs) (ho : ∀ f ds r, ft f = none → Its.orc f ds = some r → CallOk Tryz.prog f ds r) : EnvOk Tryz.prog G := ⟨by kernel_rfl, ft_ok, ho, h⟩
theorem env_ok [Its] (h : ∀ f ds xs, Its.it f ds = some xs → ItOk Tryz.prog f ds xs) (h0 : ∀ f ds, (Its.orc f ds : Option R) = none := by intros; rfl) : EnvOk Tryz.prog G := env_okO h fun f ds r _ h => by rw [h0] at h; cases h
theorem env_ok0 : EnvOk Tryz.prog (@G noIts) := @env_ok noIts (fun _ _ _ h => by cases h) (fun _ _ => rfl)
end Go.AM

/- How the evaluator is run by simp: its equations, and lemmas on data. -/
namespace Go.AM
open Go Go.RowKit


theorem upd_get (f : Fr) (i j : Nat) (x : A) : upd f i x j = if j = i then some x else f j := rfl
theorem hupd_get (f : Hp) (i j : Key) (x : Obj) : hupd f i x j = if j = i then some x else f j := rfl
theorem updO_some (f : Fr) (i : Nat) (x : A) : updO f i (some x) = upd f i x := rfl
theorem QtR (f : Hp) (i : Key) (x : Obj) : Qcc f i (some x) = hupd f i x := rfl
theorem updO_get (f : Fr) (i j : Nat) (x : Option A) : updO f i x j = if j = i then x else f j := rfl
theorem hupdO_get (f : Hp) (i j : Key) (x : Option Obj) : Qcc f i x j = if j = i then x else f j := rfl
theorem fr0_get (i : Nat) : fr0 i = none := rfl
theorem hp0_get (i : Key) : hp0 i = none := rfl

theorem w64_ex : ∃ f : Int → Int, ∀ n, IntKind.i64.wrap n = f n := ⟨_, fun _ => rfl⟩
noncomputable def w64 : Int → Int := Classical.choose w64_ex
theorem QsT (n : Int) : IntKind.i64.wrap n = w64 n := Classical.choose_spec w64_ex n
theorem Qad {n : Int} (h0 : -9223372036854775808 ≤ n) (h1 : n < 9223372036854775808) : w64 n = n := by
 rw [← QsT]
 unfold IntKind.wrap
 simp only [IntKind.signed, IntKind.bits, Bool.true_and, decide_eq_true_eq, ge_iff_le]
 by_cases h : (2 : Int) ^ (64 - 1) ≤ n % 2 ^ 64
 ·rw [if_pos h]; omega
 ·rw [if_neg h]; omega

theorem bind_ite {α β : Type} (c : Prop) [Decidable c] (x y : Option α) (f : α → Option β) : (if c then x else y).bind f = if c then x.bind f else y.bind f := by split <;> rfl
theorem map_ite {α β : Type} (c : Prop) [Decidable c] (x y : Option α) (f : α → β) : (if c then x else y).map f = if c then x.map f else y.map f := by split <;> rfl
/-! ### Rows of numbers -/
def dg (l : List Int) : D := if l = [] then .z true else .row l.length (l.map iv)
theorem QpM : dg [] = .z true := rfl
theorem Qrw (x : Int) (l : List Int) : dg (x :: l) = .row (l.length + 1) (iv x :: l.map iv) := rfl
theorem Qpc {l : List Int} (h : l ≠ []) : dg l = .row l.length (l.map iv) := if_neg h

theorem QaM (l : List Int) : lenA (.d (dg l)) = some l.length := by
 cases l with
 | nil => rfl
 | cons x l => rfl
theorem ixa_dg (h : Hp) (l : List Int) {j : Int} (h0 : 0 ≤ j) (h1 : j < l.length) : ixaA h 1 j (.d (dg l)) = some (.d (.rp ((l.drop j.toNat).map iv))) := by
 have hl : l ≠ [] := by rintro rfl; simp at h1; omega
 rw [Qpc hl]
 simp only [ixaA, guardO]
 rw [if_pos ⟨h0, h1⟩, Nat.mul_one, List.map_drop]
theorem Qqn (h : Hp) (l : List Int) {j : Nat} (h1 : j < l.length) : QcY h none (.d (.rp ((l.drop j).map iv))) = some (.d (.v (.int .i64 (l.getD j 0)))) := by
 simp only [QcY, Qj2]
 rw [List.head?_map, List.head?_drop]
 simp [h1, iv]
theorem src_dg (st : St) (l : List Int) : src st (.d (dg l)) = some (l.length, l.map iv) := by
 cases l with
 | nil => rfl
 | cons x l => rfl
/-! ### The helpers at each kind of value -/
theorem lenA_z (b : Bool) : lenA (.d (.z b)) = some 0 := rfl
theorem lenA_row (n : Nat) (cs : List D) : lenA (.d (.row n cs)) = some n := rfl
theorem lenA_own (k : Key) (n : Nat) : lenA (.own k n) = some n := rfl
theorem loadA_ptr (h : Hp) (sz : Option Nat) (k : Key) (off : Nat) : QcY h sz (.ptr k off) = (h k).bind fun o => Qab sz off o.cs := rfl
theorem loadA_ep (h : Hp) (sz : Option Nat) (k : Key) (n off : Nat) : QcY h sz (.ep k n off) = (h k).bind fun o => guardO (o.n = n) (Qab sz off o.cs) := rfl
theorem loadA_rc (h : Hp) (f : Nat) : QcY h none (.d (.rc f)) = some (.d (.fn f [.rc f])) := rfl
theorem fadA_ptr (i : Nat) (k : Key) (o : Nat) : fadA i (.ptr k o) = some (.ptr k (o + i)) := rfl
theorem fadA_ep (i : Nat) (k : Key) (n o : Nat) : fadA i (.ep k n o) = some (.ep k n (o + i)) := rfl
theorem fadA_rp (i : Nat) (cs : List D) : fadA i (.d (.rp cs)) = some (.d (.rp (cs.drop i))) := rfl
theorem ixaA_own (h : Hp) (es : Nat) (j : Int) (q : Key) (n : Nat) : ixaA h es j (.own q n) = (h q).bind fun o => guardO (o.n = n ∧ 0 ≤ j ∧ j < n) (some (.ep q n (j.toNat * es))) := rfl
theorem Qtv (h : Hp) (v : A) (k : Key) (off : Nat) : QhN h v (.ptr k off) = (h k).bind fun o => guardO (o.fz = false) ((Qae off (QaN v) o.cs).map fun cs => hupd h k { o with cs }) := rfl
theorem storeA_ep (h : Hp) (v : A) (k : Key) (n off : Nat) : QhN h v (.ep k n off) = (h k).bind fun o => guardO (o.fz = false ∧ o.n = n) ((allD (QaN v)).bind fun _ => (Qae off (QaN v) o.cs).map fun cs => hupd h k { o with cs }) := rfl
theorem strA_s (s : ByteArray) : strA (.d (.v (.string s))) = some s := rfl
theorem valA_v (x : Value) : valA (.d (.v x)) = some x := rfl
theorem aggA_g (cs : List D) : aggA (.d (.agg cs)) = some cs := rfl
theorem extA_t (i : Nat) (xs : List D) : extA i (.d (.tup xs)) = (xs[i]?).map .d := rfl
theorem fnA_f (f : Nat) (c : List D) : fnA (.d (.fn f c)) = some (f, c) := rfl
theorem int_i (k : IntKind) (n : Int) : A.int? (.d (.v (.int k n))) = some n := rfl
theorem bool_b (b : Bool) : A.bool? (.d (.v (.bool b))) = some b := rfl
theorem argD_d (st : St) (x : D) : argD st (.d x) = some (x, true) := rfl
theorem argD_own (st : St) (k : Key) (n : Nat) : argD st (.own k n) = (st.hp k).bind fun o => guardO (o.n = n) ((allD o.cs).map fun cs => (.row n cs, o.fz)) := rfl
theorem toD_d (st : St) (x : D) : toD st (.d x) = some x := rfl
theorem toD_own (st : St) (k : Key) (n : Nat) : toD st (.own k n) = (st.hp k).bind fun o => guardO (o.n = n) ((allD o.cs).map fun cs => .row n cs) := rfl
theorem retA_d (k : Key) (h : Hp) (ad fz : Bool) (x : D) : retA k h ad fz (.d x) = guardO (fz = true ∨ x.flat = true) (some (.d x, h)) := rfl
theorem retA_own (k : Key) (h : Hp) (ad fz : Bool) (es n : Nat) (cs : List D) : retA k h ad fz (.own es n cs) = guardO (fz = true) (mkA k h (!ad) es n cs) := rfl
theorem mkA_t (k : Key) (h : Hp) (es n : Nat) (cs : List D) : mkA k h true es n cs = some (.d (.row n cs), h) := rfl
theorem mkA_f (k : Key) (h : Hp) (es n : Nat) (cs : List D) : mkA k h false es n cs = guardO ((h k).isNone = true) (some (.own k n, hupd h k ⟨es, n, cs.map .d, false⟩)) := rfl
theorem appA_z (k : Key) (h : Hp) (fz : Bool) (es by_ m : Nat) (ys : List D) (b : Bool) : appA k h fz es by_ m ys (.d (.z b)) =
    guardO (m * by_ ≤ bound ∧ ys.length = m * es) (if m = 0 then some (.d (.z b), h) else mkA k h fz es m ys) := rfl
theorem appA_own (k : Key) (h : Hp) (fz : Bool) (es by_ m : Nat) (ys : List D) (q : Key) (n : Nat) : appA k h fz es by_ m ys (.own q n) =
    (h q).bind fun o => guardO (o.n = n ∧ o.fz = false ∧ o.es = es ∧ o.cs.length = n * es ∧ (n + m) * by_ ≤ bound ∧ ys.length = m * es ∧ ys.all D.one = true)
      (if fz then (allD o.cs).map fun cs => (.d (.row (n + m) (cs ++ ys)), hupd h q ⟨es, n + m, o.cs ++ ys.map .d, true⟩)
       else some (.own q (n + m), hupd h q ⟨es, n + m, o.cs ++ ys.map .d, false⟩)) := rfl
theorem ex_n_x (i : Nat) : (Ex.n = Ex.x i) = False := by simp
theorem ex_x_n (i : Nat) : (Ex.x i = Ex.n) = False := by simp
theorem ex_x_x (i j : Nat) : (Ex.x i = Ex.x j) = (i = j) := by simp
theorem ex_r_n : (Ex.r = Ex.n) = False := by simp
theorem ex_r_x (i : Nat) : (Ex.r = Ex.x i) = False := by simp
theorem ex_n_n : (Ex.n = Ex.n) = True := by simp

theorem Qp7 {α β : Type} {x y : Option α} {f : α → Option β} (h : x = y) : x.bind f = y.bind f := by rw [h]
theorem Qrj {α β : Type} {x y : Option α} {f : α → β} (h : x = y) : x.map f = y.map f := by rw [h]

attribute [go_sem] X_seq X_reg X_cond X_blk X_keep X_frz X_exit X_ret X_skip exs exO act QdB putO E.ev allE Qjz upd_get hupd_get fr0_get hp0_get
 Option.bind_some Option.map_some Option.bind_none Option.map_none Option.getD_some Option.getD_none Option.isNone_none Option.isNone_some guardO binV binI shOp QeV iA
 endOf Qng resL resV argF QiQ Qm3 QmK QjT QhM refsO refsOO updO_some QtR updO_get hupdO_get refs Qgg List.all_nil List.all_cons QsT bind_ite map_ite
 lenA_z lenA_row lenA_own loadA_ptr loadA_ep loadA_rc fadA_ptr fadA_ep fadA_rp ixaA_own Qtv storeA_ep strA_s valA_v aggA_g extA_t fnA_f int_i bool_b argD_d argD_own toD_d toD_own
 retA_d retA_own mkA_t mkA_f appA_z appA_own QaM ex_n_x ex_x_n ex_x_x ex_r_n ex_r_x ex_n_n
theorem key1 (a b : Nat) : (([a] : Key) = [b]) = (a = b) := by simp
theorem tt_true : (true = true) = True := by simp
theorem ft_false : (false = true) = False := by simp
theorem lenD1 (a : D) : ([a] : List D).length = 1 := rfl
theorem lenD2 (a b : D) : ([a, b] : List D).length = 2 := rfl
theorem lenD3 (a b c : D) : ([a, b, c] : List D).length = 3 := rfl
theorem lenD4 (a b c d : D) : ([a, b, c, d] : List D).length = 4 := rfl
attribute [go_sem] X_inl calA QoS Qtg waitO capO asideO Qge goneO resA Ex.fin
attribute [go_sem] lenD1 lenD2 lenD3 lenD4 key1 Key.isIn List.any_cons List.any_nil tt_true ft_false decide_true decide_false Bool.and_true Bool.true_and Bool.and_self Bool.or_true Bool.true_or Bool.or_false Bool.false_or and_true true_and and_self
theorem ge_t {a b : Int} (h : a ≥ b) : decide (a ≥ b) = true := decide_eq_true h
theorem ge_f {a b : Int} (h : ¬ a ≥ b) : decide (a ≥ b) = false := decide_eq_false h
theorem gt_t {a b : Int} (h : a > b) : decide (a > b) = true := decide_eq_true h
theorem gt_f {a b : Int} (h : ¬ a > b) : decide (a > b) = false := decide_eq_false h
theorem lt_t {a b : Int} (h : a < b) : decide (a < b) = true := decide_eq_true h
theorem lt_f {a b : Int} (h : ¬ a < b) : decide (a < b) = false := decide_eq_false h
theorem le_t {a b : Int} (h : a ≤ b) : decide (a ≤ b) = true := decide_eq_true h
theorem le_f {a b : Int} (h : ¬ a ≤ b) : decide (a ≤ b) = false := decide_eq_false h
theorem Qoq {a b : Int} (h : a = b) : (a == b) = true := by simp [h]
theorem Qds {a b : Int} (h : a ≠ b) : (a == b) = false := by simp [h]
theorem bne_t {a b : Int} (h : a ≠ b) : (a != b) = true := by simp [h]
theorem Qth {a b : Int} (h : a = b) : (a != b) = false := by simp [h]
theorem QtL (n : Nat) : Int.ofNat n = (n : Int) := rfl
theorem one_int (k : IntKind) (n : Int) : A.one (.d (.v (.int k n))) = true := rfl
theorem QrQ (b : Bool) : A.one (.d (.v (.bool b))) = true := rfl
theorem one_str (b : ByteArray) : A.one (.d (.v (.string b))) = true := rfl
theorem one_z (b : Bool) : A.one (.d (.z b)) = true := rfl
theorem one_row (n : Nat) (cs : List D) : A.one (.d (.row n cs)) = true := rfl
theorem one_own (k : Key) (n : Nat) : A.one (.own k n) = true := rfl
theorem one_ptr (k : Key) (n : Nat) : A.one (.ptr k n) = true := rfl
theorem QqP (l : List Int) : A.one (.d (dg l)) = true := by cases l <;> rfl
theorem one_agg (cs : List D) : A.one (.d (.agg cs)) = false := rfl
theorem cells_agg (cs : List D) : QaN (.d (.agg cs)) = cs.map .d := rfl
theorem cells_int (k : IntKind) (n : Int) : QaN (.d (.v (.int k n))) = [.d (.v (.int k n))] := rfl
theorem QtG (b : Bool) : QaN (.d (.v (.bool b))) = [.d (.v (.bool b))] := rfl
theorem cells_str (b : ByteArray) : QaN (.d (.v (.string b))) = [.d (.v (.string b))] := rfl
theorem cells_z (b : Bool) : QaN (.d (.z b)) = [.d (.z b)] := rfl
theorem cells_row (n : Nat) (cs : List D) : QaN (.d (.row n cs)) = [.d (.row n cs)] := rfl
theorem cells_dg (l : List Int) : QaN (.d (dg l)) = [.d (dg l)] := by cases l <;> rfl
theorem cells_own (k : Key) (n : Nat) : QaN (.own k n) = [.own k n] := rfl
theorem cells_ptr (k : Key) (n : Nat) : QaN (.ptr k n) = [.ptr k n] := rfl
theorem dc_agg (cs : List D) : Qdc (.d (.agg cs)) = some cs := rfl
theorem dc_int (k : IntKind) (n : Int) : Qdc (.d (.v (.int k n))) = some [.v (.int k n)] := rfl
theorem dc_bool (b : Bool) : Qdc (.d (.v (.bool b))) = some [.v (.bool b)] := rfl
theorem dc_str (b : ByteArray) : Qdc (.d (.v (.string b))) = some [.v (.string b)] := rfl
theorem dc_z (b : Bool) : Qdc (.d (.z b)) = some [.z b] := rfl
theorem dc_row (n : Nat) (cs : List D) : Qdc (.d (.row n cs)) = some [.row n cs] := rfl
theorem dc_dg (l : List Int) : Qdc (.d (dg l)) = some [dg l] := by cases l <;> rfl
theorem dc_fn (f : Nat) (cs : List D) : Qdc (.d (.fn f cs)) = some [.fn f cs] := rfl
theorem rep_1 (z : D) : rep 1 [z] = [z] := rfl
theorem rep_2 (z : D) : rep 2 [z] = [z, z] := rfl
theorem rep_3 (z : D) : rep 3 [z] = [z, z, z] := rfl
theorem wrap_u64 (n : Int) : IntKind.u64.wrap n = n % 18446744073709551616 := by
 unfold IntKind.wrap
 simp [IntKind.signed, IntKind.bits]
theorem base_ne : ((1000000000 : Int) = 0) = False := by simp
theorem nc0 : ((0 : Nat) : Int) = 0 := rfl
theorem toNat0 : Int.toNat 0 = 0 := rfl
theorem ob_ft : (some false = some true) = False := by simp
theorem ob_tf : (some true = some false) = False := by simp
theorem ob_tt : (some true = some true) = True := by simp
theorem ob_ff : (some false = some false) = True := by simp
theorem tf_false : (true = false) = False := by simp
theorem ff_true : (false = false) = True := by simp
attribute [go_sem] rep_1 rep_2 rep_3 wrap_u64 base_ne fillD Nat.reduceMul Nat.reduceSub List.getElem?_cons_zero List.getElem?_cons_succ List.getElem?_nil true_or or_true or_self false_or or_false and_false false_and nc0 toNat0 Nat.sub_zero Nat.mul_one Nat.zero_mul QtL List.map_cons List.map_nil List.length_cons List.length_nil Nat.reduceAdd Nat.reduceLeDiff List.take_succ_cons List.take_zero List.drop_succ_cons List.drop_zero List.drop_nil List.take_nil List.nil_append List.cons_append List.append_nil Int.toNat_natCast ob_ft ob_tf ob_tt ob_ff tf_false ff_true Bool.not_true Bool.not_false Bool.false_and Bool.and_false unV eqD slcA bnds optI cut srcS QmJ QiF QbF Qdb D.flat Qj2 allD one_int QrQ one_str one_z one_row one_own one_ptr QqP one_agg cells_agg cells_int QtG cells_str cells_z cells_row cells_dg cells_own cells_ptr dc_agg dc_int dc_bool dc_str dc_z dc_row dc_dg dc_fn
attribute [congr] Qp7 Qrj
end Go.AM

/- Numbers in digits: plain mathematics, no program in sight. -/
namespace Go.AM


def digs : Nat → List Int
 | 0 => []
 | n + 1 => (((n + 1) % 1000000000 : Nat) : Int) :: digs ((n + 1) / 1000000000)
 decreasing_by omega
def val : List Int → Int
 | [] => 0
 | d :: r => d + 1000000000 * val r
def Dig (l : List Int) : Prop := ∀ d ∈ l, 0 ≤ d ∧ d < 1000000000

theorem QaB : digs 0 = [] := by rw [digs]
theorem Qe1 {n : Nat} (h : 0 < n) : digs n = ((n % 1000000000 : Nat) : Int) :: digs (n / 1000000000) := by
 cases n with
 | zero => omega
 | succ n => rw [digs]
theorem Dig.nil : Dig [] := by intro d h; cases h
theorem Dig.cons {d : Int} {l : List Int} : Dig (d :: l) ↔ (0 ≤ d ∧ d < 1000000000) ∧ Dig l := by
 constructor
 ·intro h; exact ⟨h d (by simp), fun e he => h e (by simp [he])⟩
 ·rintro ⟨h1, h2⟩ e he
  rcases List.mem_cons.1 he with rfl | he
  ·exact h1
  ·exact h2 e he
theorem Dig.append {l m : List Int} : Dig (l ++ m) ↔ Dig l ∧ Dig m := by
 constructor
 ·intro h; exact ⟨fun e he => h e (by simp [he]), fun e he => h e (by simp [he])⟩
 ·rintro ⟨h1, h2⟩ e he
  rcases List.mem_append.1 he with he | he
  ·exact h1 e he
  ·exact h2 e he
theorem Dig.take {l : List Int} (h : Dig l) (n : Nat) : Dig (l.take n) := fun e he => h e (List.mem_of_mem_take he)
theorem Dig.drop {l : List Int} (h : Dig l) (n : Nat) : Dig (l.drop n) := fun e he => h e (List.mem_of_mem_drop he)
theorem Dig.getD {l : List Int} (h : Dig l) (i : Nat) : 0 ≤ l.getD i 0 ∧ l.getD i 0 < 1000000000 := by
 rw [List.getD_eq_getElem?_getD]
 cases hq : l[i]? with
 | none => simp
 | some x => exact h x (List.mem_of_getElem? hq)
theorem Dig.set {l : List Int} (h : Dig l) {i : Nat} {d : Int} (hd : 0 ≤ d ∧ d < 1000000000) : Dig (l.set i d) := by
 intro e he
 rcases List.mem_or_eq_of_mem_set he with he | rfl
 ·exact h e he
 ·exact hd
theorem Dig.replicate (n : Nat) : Dig (List.replicate n 0) := by
 intro e he
 rw [(List.mem_replicate.1 he).2]; omega

theorem Qaq : ∀ n : Nat, Dig (digs n) := by
 intro n
 induction n using Nat.strongRecOn with
 | _ n ih =>
  rcases Nat.eq_zero_or_pos n with rfl | h
  ·rw [QaB]; exact .nil
  ·rw [Qe1 h, Dig.cons]
   exact ⟨by omega, ih _ (by omega)⟩
theorem Qaz : ∀ n : Nat, val (digs n) = n := by
 intro n
 induction n using Nat.strongRecOn with
 | _ n ih =>
  rcases Nat.eq_zero_or_pos n with rfl | h
  ·rw [QaB]; rfl
  ·rw [Qe1 h, val, ih _ (by omega)]
   omega
theorem QaJ : ∀ {l : List Int}, Dig l → 0 ≤ val l
 | [], _ => Int.le_refl _
 | d :: r, h => by
  obtain ⟨h1, h2⟩ := Dig.cons.1 h
  have := QaJ h2
  simp only [val]
  omega
theorem Qry {n : Nat} : digs n = [] ↔ n = 0 := by
 constructor
 ·intro h
  rcases Nat.eq_zero_or_pos n with h' | h'
  ·exact h'
  ·rw [Qe1 h'] at h; cases h
 ·rintro rfl; exact QaB
theorem digs_length_pos {n : Nat} : 0 < (digs n).length ↔ 0 < n := by
 rw [List.length_pos_iff, ne_eq, Qry]; omega

def Top (l : List Int) : Prop := ∀ h : l ≠ [], l.getLast h ≠ 0
theorem Qcw : ∀ n : Nat, Top (digs n) := by
 intro n
 induction n using Nat.strongRecOn with
 | _ n ih =>
  intro h
  rcases Nat.eq_zero_or_pos n with rfl | hp
  ·exact absurd QaB h
  ·have e := Qe1 hp
   by_cases h0 : n / 1000000000 = 0
   ·have : digs n = [((n % 1000000000 : Nat) : Int)] := by rw [e, h0, QaB]
    simp only [this, List.getLast_singleton]
    omega
   ·have hne : digs (n / 1000000000) ≠ [] := by rw [ne_eq, Qry]; exact h0
    have : (digs n).getLast h = (digs (n / 1000000000)).getLast hne := by
     simp only [e]
     exact List.getLast_cons hne
    rw [this]
    exact ih _ (by omega) hne
theorem Qsv : ∀ {l : List Int}, Dig l → Top l → digs (val l).toNat = l
  | [], _, _ => QaB
  | d :: r, h, ht => by
    obtain ⟨h1, h2⟩ := Dig.cons.1 h
    have hv := QaJ h2
    have htr : Top r := by
      intro hne
      have := ht (by simp)
      rw [List.getLast_cons hne] at this
      exact this
    have ih := Qsv h2 htr
    have hpos : 0 < (val (d :: r)).toNat := by
      simp only [val]
      by_cases hr : r = []
      · subst hr
        have := ht (by simp)
        simp at this
        simp only [val]
        omega
      · have : val r ≠ 0 := by
          intro h0
          rw [h0] at ih
          exact hr (ih.symm.trans QaB)
        omega
    rw [Qe1 hpos]
    have e1 : ((val (d :: r)).toNat % 1000000000 : Nat) = d.toNat := by simp only [val]; omega
    have e2 : (val (d :: r)).toNat / 1000000000 = (val r).toNat := by simp only [val]; omega
    rw [e1, e2, ih]
    congr 1
    omega
theorem Qgx : ∀ (l m : List Int), val (l ++ m) = val l + (1000000000 : Int) ^ l.length * val m
 | [], m => by simp [val]
 | d :: r, m => by
  rw [List.cons_append, val, Qgx r m, val, List.length_cons]
  grind
theorem Qe4 : ∀ n : Nat, val (List.replicate n 0) = 0
 | 0 => rfl
 | n + 1 => by rw [List.replicate_succ, val, Qe4 n]; rfl
theorem Qgl : ∀ {l : List Int}, Dig l → val l < (1000000000 : Int) ^ l.length
 | [], _ => by simp [val]
 | d :: r, h => by
  obtain ⟨h1, h2⟩ := Dig.cons.1 h
  have := Qgl h2
  rw [val, List.length_cons, Int.pow_succ]
  grind
theorem Qfw : ∀ (l : List Int) (i : Nat) (d : Int), i < l.length → val (l.set i d) = val l + (1000000000 : Int) ^ i * (d - l.getD i 0)
 | [], i, d, h => by simp at h
 | e :: r, 0, d, h => by simp [val]; omega
 | e :: r, i + 1, d, h => by
  rw [List.set_cons_succ, val, val, Qfw r i d (by simpa using h)]
  simp only [List.getD_cons_succ]
  grind
theorem Qkh {n m : Nat} (h : n ≤ m) : (1000000000 : Int) ^ n ≤ (1000000000 : Int) ^ m := by
 obtain ⟨k, rfl⟩ := Nat.exists_eq_add_of_le h
 rw [Int.pow_add]
 have h1 : (0 : Int) < (1000000000 : Int) ^ k := Int.pow_pos (by omega)
 have h2 : (0 : Int) ≤ (1000000000 : Int) ^ n := Int.pow_nonneg (by omega)
 have h3 : (1000000000 : Int) ^ n * 1 ≤ (1000000000 : Int) ^ n * (1000000000 : Int) ^ k := Int.mul_le_mul_of_nonneg_left (by omega) h2
 omega
end Go.AM

/- Integers as the program holds them. -/
namespace Go.AM
open Go Go.RowKit

def sgn (neg : Bool) (x : Int) : Int := if neg then -x else x
def encI (x : Int) : D := .agg [bv (decide (x < 0)), dg (digs x.natAbs)]
def rowI (l : List Int) : D := .row l.length (l.map iv)
def I64 (n : Int) : Prop := -9223372036854775808 ≤ n ∧ n < 9223372036854775808

theorem ixa_rowI (h : Hp) (l : List Int) {j : Int} (h0 : 0 ≤ j) (h1 : j < l.length) : ixaA h 1 j (.d (rowI l)) = some (.d (.rp ((l.drop j.toNat).map iv))) := by
 simp only [ixaA, guardO, rowI]
 rw [if_pos ⟨h0, h1⟩, Nat.mul_one, List.map_drop]
def Rw (d : D) (l : List Int) : Prop := d = dg l ∨ d = rowI l
theorem Rw.dg (l : List Int) : Rw (dg l) l := .inl rfl
theorem Rw.row (l : List Int) : Rw (rowI l) l := .inr rfl
theorem Rw.len {d : D} {l : List Int} (h : Rw d l) : lenA (.d d) = some l.length := by
 rcases h with rfl | rfl
 ·exact QaM l
 ·rfl
theorem Rw.ixa {d : D} {l : List Int} (hr : Rw d l) {j : Int} (h0 : 0 ≤ j) (h1 : j < l.length) (h : Hp) : ixaA h 1 j (.d d) = some (.d (.rp ((l.drop j.toNat).map iv))) := by
 rcases hr with rfl | rfl
 ·exact ixa_dg h l h0 h1
 ·exact ixa_rowI h l h0 h1
theorem Rw.ixn {d : D} {l : List Int} (hr : Rw d l) {j : Nat} (h1 : j < l.length) (h : Hp) : ixaA h 1 (j : Int) (.d d) = some (.d (.rp ((l.drop j).map iv))) := by
 have := hr.ixa (j := (j : Int)) (by omega) (by omega) h
 simpa using this
theorem Rw.src {d : D} {l : List Int} (hr : Rw d l) (st : St) : src st (.d d) = some (l.length, l.map iv) := by
 rcases hr with rfl | rfl
 ·exact src_dg st l
 ·rfl
theorem Rw.ne {d : D} {l : List Int} (hr : Rw d l) (h : l ≠ []) : d = rowI l := by
 rcases hr with rfl | rfl
 ·exact Qpc h
 ·rfl
theorem ldv (h : Hp) (l : List Int) {j : Nat} (h1 : j < l.length) : QcY h none (.d (.rp ((l.drop j).map iv))) = some (.d (.v (.int .i64 (l.getD j 0)))) := Qqn h l h1

def cutn (l : List Int) : Nat → Nat
 | 0 => 0
 | n + 1 => if l.getD n 0 = 0 then cutn l n else n + 1
theorem Qmn (l : List Int) : ∀ n, cutn l n ≤ n
 | 0 => Nat.le_refl _
 | n + 1 => by
  rw [cutn]
  split
  ·exact Nat.le_succ_of_le (Qmn l n)
  ·exact Nat.le_refl _
theorem Qh9 (l : List Int) (n : Nat) (h : n < l.length) : val (l.take (n + 1)) = val (l.take n) + (1000000000 : Int) ^ n * l.getD n 0 := by
 have : l.take (n + 1) = l.take n ++ [l.getD n 0] := by
  rw [List.take_add_one]
  simp [List.getD, h]
 rw [this, Qgx, List.length_take, Nat.min_eq_left (Nat.le_of_lt h)]
 simp [val]
theorem Qsb (l : List Int) : ∀ n, n ≤ l.length → val (l.take (cutn l n)) = val (l.take n)
 | 0, _ => rfl
 | n + 1, h => by
  rw [cutn]
  split
  ·rename_i h0
   rw [Qsb l n (by omega), Qh9 l n (by omega), h0]; omega
  ·rfl
theorem QsI (l : List Int) : ∀ n, n ≤ l.length → Top (l.take (cutn l n))
 | 0, _ => by intro h; simp [cutn] at h
 | n + 1, h => by
  rw [cutn]
  split
  ·exact QsI l n (by omega)
  ·rename_i h0
   intro hne
   have : l.take (n + 1) = l.take n ++ [l.getD n 0] := by
    rw [List.take_add_one]
    simp [List.getD, (by omega : n < l.length)]
   simp only [this]
   rw [List.getLast_append_of_ne_nil _ (by simp)]
   simpa using h0
theorem Qpi {l : List Int} (hd : Dig l) : digs (val l).toNat = l.take (cutn l l.length) := by
 have h1 := Qsb l l.length (Nat.le_refl _)
 rw [List.take_length] at h1
 rw [← h1]
 exact Qsv (hd.take _) (QsI l _ (Nat.le_refl _))
theorem Qql {l : List Int} (hd : Dig l) : cutn l l.length = 0 ↔ val l = 0 := by
 have hc := Qmn l l.length
 have h1 := Qpi hd
 have hv := QaJ hd
 constructor
 ·intro h
  rw [h, List.take_zero, Qry] at h1
  omega
 ·intro h
  rw [h] at h1
  have h2 : l.take (cutn l l.length) = [] := by rw [← h1]; exact QaB
  have := congrArg List.length h2
  simp at this
  rcases this with h' | h'
  ·exact h'
  ·subst h'; simp at hc; exact hc
theorem Qjf (neg : Bool) (x : Int) : (sgn neg x).natAbs = x.natAbs := by cases neg <;> simp [sgn]
theorem QsP {neg : Bool} {l : List Int} (hd : Dig l) : encI (sgn neg (val l)) = if cutn l l.length = 0 then .agg [bv false, .z true] else .agg [bv neg, .row (cutn l l.length) ((l.map iv).take (cutn l l.length))] := by
 have hv := QaJ hd
 have hc := Qmn l l.length
 by_cases h0 : cutn l l.length = 0
 ·rw [if_pos h0, (Qql hd).1 h0]
  have e : encI 0 = .agg [bv false, .z true] := by
   have : digs (0 : Int).natAbs = [] := QaB
   rw [encI, this]; rfl
  cases neg <;> exact e
 ·rw [if_neg h0]
  have hne : val l ≠ 0 := fun h => h0 ((Qql hd).2 h)
  have e1 : decide (sgn neg (val l) < 0) = neg := by
   cases neg
   ·simp only [sgn, Bool.false_eq_true, if_false, decide_eq_false_iff_not]; omega
   ·simp only [sgn, if_true, decide_eq_true_eq]; omega
  have e2 : (sgn neg (val l)).natAbs = (val l).toNat := by rw [Qjf]; omega
  have hne2 : l.take (cutn l l.length) ≠ [] := by
   intro h
   have := congrArg List.length h
   simp at this
   rcases this with h' | h'
   ·exact h0 h'
   ·subst h'; exact h0 rfl
  rw [encI, e1, e2, Qpi hd, Qpc hne2, List.map_take]
  congr 3
  simp; omega

theorem QfV {l : List Int} {i : Nat} (d : Int) (h : i < l.length) : val ((l.set i d).take (i + 1)) = val (l.take i) + (1000000000 : Int) ^ i * d := by
 rw [Qh9 _ _ (by simpa using h)]
 have e1 : (l.set i d).take i = l.take i := by
  apply List.ext_getElem?
  intro j
  simp only [List.getElem?_take, List.getElem?_set]
  split
  ·rw [if_neg (by omega)]
  ·rfl
 have e2 : (l.set i d).getD i 0 = d := by simp [List.getD, h]
 rw [e1, e2]
theorem Qbi {l : List Int} {i j : Nat} (d : Int) (h : i ≠ j) : (l.set i d).getD j 0 = l.getD j 0 := by
 simp [List.getD, List.getElem?_set, h]
theorem Qar (l : List Int) (n : Nat) : val (l.take (n + 1)) = val (l.take n) + (1000000000 : Int) ^ n * l.getD n 0 := by
 by_cases h : n < l.length
 ·exact Qh9 l n h
 ·have e1 : l.take (n + 1) = l := List.take_of_length_le (by omega)
  have e2 : l.take n = l := List.take_of_length_le (by omega)
  have e3 : l.getD n 0 = 0 := by rw [List.getD_eq_getElem?_getD, List.getElem?_eq_none (by omega)]; rfl
  rw [e1, e2, e3]; omega

/-! ### Arrays of numbers that are written -/
def QbL (l : List Int) : List A := l.map fun x => A.d (.v (.int .i64 x))
theorem Qai (l : List Int) : (QbL l).length = l.length := by simp [QbL]
theorem QbK {l : List Int} {off : Nat} {v : Int} (h : off < l.length) : Qae off [A.d (.v (.int .i64 v))] (QbL l) = some (QbL (l.set off v)) := by
 rw [Qae, guardO, if_pos (by rw [Qai]; simp; omega)]
 congr 1
 apply List.ext_getElem?
 intro j
 rw [QkP _ _ _ (by rw [Qai]; simp; omega)]
 simp only [List.length_cons, List.length_nil, QbL, List.getElem?_map, List.getElem?_set]
 by_cases h1 : j < off
 ·rw [if_pos h1, if_neg (by omega)]
 ·rw [if_neg h1]
  by_cases h2 : j < off + (0 + 1)
  ·obtain rfl : j = off := by omega
   simp [h]
  ·rw [if_neg h2, if_neg (by omega)]
theorem Qcu {l : List Int} {off : Nat} (h : off < l.length) : Qab none off (QbL l) = some (A.d (.v (.int .i64 (l.getD off 0)))) := by
 simp [Qab, QbL, List.getD, h]
theorem Qam (ks : List Key) (l : List Int) : Qgg ks (QbL l) = true := by
 induction l with
 | nil => rfl
 | cons x r ih => simpa [QbL, Qgg, refs] using ih
theorem Qca (l : List Int) : allD (QbL l) = some (l.map iv) := by
 induction l with
 | nil => rfl
 | cons x r ih =>
  simp only [QbL, List.map_cons, allD] at ih ⊢
  rw [ih]; rfl
theorem Qj5 (n : Nat) : List.map A.d (rep n [.v (.int .i64 0)]) = QbL (List.replicate n 0) := by
 induction n with
 | zero => rfl
 | succ n ih =>
  simp only [rep, List.replicate_succ, List.flatten_cons, List.map_append, List.map_cons, List.map_nil, QbL, List.cons_append, List.nil_append] at ih ⊢
  rw [ih]
theorem mapd_I (l : List Int) : List.map A.d (l.map iv) = QbL l := by simp [QbL, iv]
theorem cpy_I {h : Hp} {k : Key} {a out : List Int} {n : Nat} (hk : h k = some ⟨1, n, QbL out, false⟩) (hn : n = a.length) (ho : out.length = n) : cpyA h 1 a.length (a.map iv) (.own k n) = some (n, hupd h k ⟨1, n, QbL a, false⟩) := by
 subst hn
 have h1 : ∀ l : List Int, (l.map iv).all D.one = true := by
  intro l; simp [iv, D.one, A.one]
 simp only [cpyA, hk, Option.bind_some, guardO, Qai, ho, Nat.mul_one, List.length_map, h1, and_self, if_true, Nat.min_self]
 congr 3
 rw [List.take_of_length_le (by simp), List.drop_eq_nil_of_le (by rw [Qai, ho]; exact Nat.le_refl _), List.append_nil, mapd_I]
theorem Qqy {l : List Int} (h : Dig l) (n : Nat) : val (l.take n) ≤ val l := by
 have e : l.take n ++ l.drop n = l := List.take_append_drop n l
 have h1 : val l = val (l.take n) + (1000000000 : Int) ^ (l.take n).length * val (l.drop n) := by rw [← Qgx, e]
 have h2 := QaJ (h.drop n)
 have h3 : (0 : Int) ≤ (1000000000 : Int) ^ (l.take n).length * val (l.drop n) := Int.mul_nonneg (Int.pow_nonneg (by omega)) h2
 omega
theorem Qkg {l : List Int} {i j : Nat} (h : Dig (l.drop i)) (hij : i ≤ j) : 0 ≤ l.getD j 0 ∧ l.getD j 0 < 1000000000 := by
 have := h.getD (j - i)
 rw [List.getD_eq_getElem?_getD, List.getElem?_drop, show i + (j - i) = j by omega, ← List.getD_eq_getElem?_getD] at this
 exact this
theorem Qme (l : List Int) {i j : Nat} (d : Int) (h : i ≤ j) : (l.set j d).take i = l.take i := by
 apply List.ext_getElem?
 intro q
 simp only [List.getElem?_take, List.getElem?_set]
 split
 ·rw [if_neg (by omega)]
 ·rfl
theorem QhZ (l : List Int) {i j : Nat} (d : Int) (h : j < i) : (l.set j d).drop i = l.drop i := by
 apply List.ext_getElem?
 intro q
 simp only [List.getElem?_drop, List.getElem?_set]
 rw [if_neg (by omega)]
theorem Qj0 {l : List Int} {i : Nat} (d : Int) (h : i < l.length) : (l.set i d).take (i + 1) = l.take i ++ [d] := by
 rw [List.take_add_one, Qme l d (Nat.le_refl _)]
 simp [h]

/-! ### Sizes -/
def nd (x : Int) : Nat := (digs x.natAbs).length
theorem Qhz : ∀ (k n : Nat), n < 1000000000 ^ k → (digs n).length ≤ k
 | 0, n, h => by
  have : n = 0 := by simpa using h
  subst this; rw [QaB]; exact Nat.le_refl _
 | k + 1, n, h => by
  rcases Nat.eq_zero_or_pos n with rfl | hp
  ·rw [QaB]; simp
  ·rw [Qe1 hp, List.length_cons]
   have : n / 1000000000 < 1000000000 ^ k := by
    rw [Nat.pow_succ] at h
    exact Nat.div_lt_of_lt_mul (by rw [Nat.mul_comm]; exact h)
   exact Nat.succ_le_succ (Qhz k _ this)
theorem QdP (x : Int) : x.natAbs < 1000000000 ^ nd x := by
 have h1 := Qgl (Qaq x.natAbs)
 rw [Qaz] at h1
 have h2 : ((1000000000 ^ (digs x.natAbs).length : Nat) : Int) = (1000000000 : Int) ^ (digs x.natAbs).length := by simp
 rw [← h2] at h1
 exact Int.ofNat_lt.1 h1
theorem Qrn {x : Int} {k : Nat} (h : x.natAbs < 1000000000 ^ k) : nd x ≤ k := Qhz k _ h
theorem QmE {n m : Nat} (h : n ≤ m) : 1000000000 ^ n ≤ 1000000000 ^ m := Nat.pow_le_pow_right (by omega) h
theorem Qnf {x y : Int} {k : Nat} (hx : nd x ≤ k) (hy : nd y ≤ k) : nd (x + y) ≤ k + 1 := by
 apply Qrn
 have h1 := Nat.lt_of_lt_of_le (QdP x) (QmE hx)
 have h2 := Nat.lt_of_lt_of_le (QdP y) (QmE hy)
 rw [Nat.pow_succ]
 omega
theorem nd_neg (x : Int) : nd (-x) = nd x := by simp [nd]
theorem Qde {x y : Int} : nd (x * y) ≤ nd x + nd y := by
 apply Qrn
 rw [Int.natAbs_mul, Nat.pow_add]
 exact Nat.mul_lt_mul'' (QdP x) (QdP y)
theorem QiN {x y : Int} (h : x.natAbs ≤ y.natAbs) : nd x ≤ nd y := Qrn (Nat.lt_of_le_of_lt h (QdP y))
theorem QeJ {x : Int} (h : -9223372036854775808 ≤ x ∧ x < 9223372036854775808) : nd x ≤ 3 := by
 apply Qrn
 have : (1000000000 : Nat) ^ 3 = 1000000000000000000000000000 := by decide
 omega
theorem QlP : nd 0 = 0 := by
 have : digs (0 : Int).natAbs = [] := QaB
 rw [nd, this]; rfl
theorem QdC (x : Int) : val (digs x.natAbs) = x.natAbs := Qaz _
end Go.AM

/- integer.of -/
namespace Go.AM
open Go Go.RowKit
variable [Its]

section
variable (neg : Bool) (d : D) (l : List Int)
def Qlp (n : Int) : St := ⟨upd (upd (upd (upd fr0 5 (.d (iv n))) 4 (.ptr [4] 0)) 1 (.d d)) 0 (.d (bv neg)), hupd hp0 [4] ⟨0, 0, [.d (bv false), .d (.z true)], false⟩, []⟩

theorem of_go (hr : Rw d l) (n : Nat) (h : n < l.length) (hl : l.length < 4611686018427387904) (h0 : l.getD n 0 = 0) : X G QcV (Qlp neg d ((n + 1 : Nat) : Int)) = some (.n, Qlp neg d n) := by
 have e1 : decide (((n + 1 : Nat) : Int) > 0) = true := gt_t (by omega)
 have e2 : w64 (((n + 1 : Nat) : Int) - 1) = n := by rw [Qad (by omega) (by omega)]; omega
 have e3 := hr.ixn (j := n) (by omega)
 have e4 := fun hp => ldv hp l (j := n) (by omega)
 simp -implicitDefEqProofs (maxSteps:=9^8) only [QcV, Qlp, go_sem, iv, bv, e1, e2, e3, e4, h0, Int.toNat_natCast, beq_self_eq_true, reduceCtorEq, ↓reduceIte, Nat.reduceEqDiff]
theorem of_stop (hr : Rw d l) (n : Nat) (h : n < l.length) (hl : l.length < 4611686018427387904) (h0 : l.getD n 0 ≠ 0) : X G QcV (Qlp neg d ((n + 1 : Nat) : Int)) = some (.x 0, Qlp neg d ((n + 1 : Nat) : Int)) := by
 have e1 : decide (((n + 1 : Nat) : Int) > 0) = true := gt_t (by omega)
 have e2 : w64 (((n + 1 : Nat) : Int) - 1) = n := by rw [Qad (by omega) (by omega)]; omega
 have e3 := hr.ixn (j := n) (by omega)
 have e4 := fun hp => ldv hp l (j := n) (by omega)
 simp -implicitDefEqProofs (maxSteps:=9^8) only [QcV, Qlp, go_sem, iv, bv, e1, e2, e3, e4, Qds h0, Int.toNat_natCast, reduceCtorEq, ↓reduceIte, Nat.reduceEqDiff]
theorem of_zero : X G QcV (Qlp neg d ((0 : Nat) : Int)) = some (.x 0, Qlp neg d ((0 : Nat) : Int)) := by
 have e1 : decide ((0 : Int) > 0) = false := rfl
 simp -implicitDefEqProofs (maxSteps:=9^8) only [QcV, Qlp, go_sem, iv, bv, e1, reduceCtorEq, ↓reduceIte, Nat.reduceEqDiff]

theorem of_loop (hr : Rw d l) (hl : l.length < 4611686018427387904) : ∀ n : Nat, n ≤ l.length → X G (.loop QcV) (Qlp neg d (n : Int)) = some (.x 0, Qlp neg d (cutn l n : Nat))
 | 0, _ => by
  rw [Qag, of_zero]
  rfl
 | n + 1, h => by
  rw [Qag, cutn]
  by_cases h0 : l.getD n 0 = 0
  ·rw [of_go neg d l hr n (by omega) hl h0, if_pos h0]
   exact of_loop hr hl n (by omega)
  ·rw [of_stop neg d l hr n (by omega) hl h0, if_neg h0]
   rfl
end

theorem Qfq (neg : Bool) {d : D} {l : List Int} (hr : Rw d l) (hl : l.length < 4611686018427387904) (hd : Dig l) : Qah G QbN [bv neg, d] = some (.d (encI (sgn neg (val l)))) := by
 rw [Qac (cf := Qjd) rfl, QsP hd]
 have hc := Qmn l l.length
 have el := of_loop neg d l hr hl l.length (Nat.le_refl _)
 simp only [Qlp, iv, bv] at el
 generalize hn : cutn l l.length = n at *
 by_cases h0 : n = 0
 ·subst h0
  have e0 : ((0 : Int) == 0) = true := rfl
  simp only [nc0] at el
  simp -implicitDefEqProofs (maxSteps:=9^8) only [Qjd, go_sem, Qae, Qab, iv, bv, hr.len, el, e0, reduceCtorEq, ↓reduceIte, Nat.reduceEqDiff, List.length_cons, List.length_nil]
 ·obtain rfl := hr.ne (by rintro rfl; simp [cutn] at hn; exact h0 hn.symm)
  have e0 : (((n : Nat) : Int) == 0) = false := Qds (by omega)
  have e1 : (0 : Int) ≤ 0 ∧ (0 : Int) ≤ (n : Int) ∧ (n : Int) ≤ (l.length : Int) := by omega
  have e2 : (n : Int) ≤ (n : Int) ∧ (n : Int) ≤ (l.length : Int) := by omega
  simp only [rowI] at el
  have e3 : (some n = some 0) = False := by simp [h0]
  simp -implicitDefEqProofs (maxSteps:=9^8) only [Qjd, go_sem, Qae, Qab, iv, bv, rowI, el, e0, e1, e2, e3, h0, reduceCtorEq, ↓reduceIte, Nat.reduceEqDiff, List.length_cons, List.length_nil]
end Go.AM

/- integer.unsigned, Of -/
namespace Go.AM
open Go Go.RowKit
variable [Its]

theorem Qq7 (neg : Bool) {u : Int} (h : 0 < u) : encI (sgn neg u) = .agg [bv neg, dg (digs u.toNat)] := by
 have _its : Its := inferInstance
 have e1 : decide (sgn neg u < 0) = neg := by
  cases neg
  ·simp only [sgn, Bool.false_eq_true, if_false, decide_eq_false_iff_not]; omega
  ·simp only [sgn, if_true, decide_eq_true_eq]; omega
 rw [encI, e1, Qjf, show u.natAbs = u.toNat by omega]
theorem encI_sgn0 (neg : Bool) : encI (sgn neg 0) = .agg [bv false, .z true] := by
 have _its : Its := inferInstance
 have e : encI 0 = .agg [bv false, .z true] := by
  have : digs (0 : Int).natAbs = [] := QaB
  rw [encI, this]; rfl
 cases neg <;> exact e

theorem Qcv (neg : Bool) {u : Int} (h : 0 ≤ u ∧ u < 18446744073709551616) : Qah G QbP [bv neg, .v (.int .u64 u)] = some (.d (encI (sgn neg u))) := by
 rw [Qac (cf := QcO) rfl]
 have q1 : ∀ x : Int, 0 ≤ x → x.tmod 1000000000 = x % 1000000000 := fun x hx => Int.tmod_eq_emod_of_nonneg hx
 have q2 : ∀ x : Int, 0 ≤ x → x.tdiv 1000000000 = x / 1000000000 := fun x hx => Int.tdiv_eq_ediv_of_nonneg hx
 by_cases h0 : u = 0
 ·subst h0
  rw [encI_sgn0]
  have e1 : ((0 : Int) == 0) = true := rfl
  simp -implicitDefEqProofs (maxSteps:=9^8) only [QcO, go_sem, Qae, Qab, iv, bv, e1, reduceCtorEq, ↓reduceIte, Nat.reduceEqDiff]
 ·have e1 : (u == 0) = false := Qds h0
  rw [Qq7 neg (by omega)]
  have d1 := Qe1 (n := u.toNat) (by omega)
  by_cases h1 : u < 1000000000
  ·have e2 : decide (u < 1000000000) = true := lt_t h1
   have e3 : w64 u = u := Qad (by omega) (by omega)
   have d2 : digs u.toNat = [u] := by
    rw [d1, show u.toNat / 1000000000 = 0 by omega, QaB, show ((u.toNat % 1000000000 : Nat) : Int) = u by omega]
   rw [d2, Qrw]
   simp -implicitDefEqProofs (maxSteps:=9^8) only [QcO, go_sem, Qae, Qab, iv, bv, e1, e2, e3, reduceCtorEq, ↓reduceIte, Nat.reduceEqDiff]
  ·have e2 : decide (u < 1000000000) = false := lt_f h1
   have t1 := q1 u (by omega)
   have t2 := q2 u (by omega)
   have e3 : w64 (u % 1000000000) = u % 1000000000 := Qad (by omega) (by omega)
   have m1 : u / 1000000000 % 18446744073709551616 = u / 1000000000 := by omega
   have e4 : w64 (u / 1000000000) = u / 1000000000 := Qad (by omega) (by omega)
   have d1' := Qe1 (n := u.toNat / 1000000000) (by omega)
   by_cases h2 : u < 1000000000000000000
   ·have e5 : decide (u < 1000000000000000000) = true := lt_t h2
    have d2 : digs u.toNat = [u % 1000000000, u / 1000000000] := by
     rw [d1, d1', show u.toNat / 1000000000 / 1000000000 = 0 by omega, QaB, show ((u.toNat % 1000000000 : Nat) : Int) = u % 1000000000 by omega, show ((u.toNat / 1000000000 % 1000000000 : Nat) : Int) = u / 1000000000 by omega]
    rw [d2, Qrw]
    simp -implicitDefEqProofs (maxSteps:=9^8) only [QcO, go_sem, Qae, Qab, iv, bv, e1, e2, t1, t2, m1, e3, e4, e5, reduceCtorEq, ↓reduceIte, Nat.reduceEqDiff]
   ·have e5 : decide (u < 1000000000000000000) = false := lt_f h2
    have t3 := q1 (u / 1000000000) (by omega)
    have t4 := q2 (u / 1000000000) (by omega)
    have e6 : w64 (u / 1000000000 % 1000000000) = u / 1000000000 % 1000000000 := Qad (by omega) (by omega)
    have m2 : u / 1000000000 / 1000000000 % 18446744073709551616 = u / 1000000000 / 1000000000 := by omega
    have e7 : w64 (u / 1000000000 / 1000000000) = u / 1000000000 / 1000000000 := Qad (by omega) (by omega)
    have d1'' := Qe1 (n := u.toNat / 1000000000 / 1000000000) (by omega)
    have d2 : digs u.toNat = [u % 1000000000, u / 1000000000 % 1000000000, u / 1000000000 / 1000000000] := by
     rw [d1, d1', d1'', show u.toNat / 1000000000 / 1000000000 / 1000000000 = 0 by omega, QaB, show ((u.toNat % 1000000000 : Nat) : Int) = u % 1000000000 by omega, show ((u.toNat / 1000000000 % 1000000000 : Nat) : Int) = u / 1000000000 % 1000000000 by omega,
      show ((u.toNat / 1000000000 / 1000000000 % 1000000000 : Nat) : Int) = u / 1000000000 / 1000000000 by omega]
    rw [d2, Qrw]
    simp -implicitDefEqProofs (maxSteps:=9^8) only [QcO, go_sem, Qae, Qab, iv, bv, e1, e2, t1, t2, t3, t4, m1, m2, e3, e4, e5, e6, e7, reduceCtorEq, ↓reduceIte, Nat.reduceEqDiff]

theorem Ql0 {n : Int} (h : I64 n) : Qah G QeH [iv n] = some (.d (encI n)) := by
 obtain ⟨h1, h2⟩ := h
 rw [Qac (cf := Qjc) rfl]
 by_cases hn : n < 0
 ·have e1 : decide (n < 0) = true := lt_t hn
  have e2 : (0 - n % 18446744073709551616) % 18446744073709551616 = -n := by omega
  have e3 := Qcv true (u := -n) (by omega)
  have e4 : sgn true (-n) = n := by simp [sgn]
  rw [e4] at e3
  simp only [bv] at e3
  simp -implicitDefEqProofs (maxSteps:=9^8) only [Qjc, encI, go_sem, Qae, Qab, iv, bv, e1, e2, reduceCtorEq, ↓reduceIte, Nat.reduceEqDiff]
  simp only [e1, e3, encI, go_sem, Qae, Qab, iv, bv, reduceCtorEq, ↓reduceIte, Nat.reduceEqDiff]
 ·have e1 : decide (n < 0) = false := lt_f hn
  have e2 : n % 18446744073709551616 = n := by omega
  have e3 := Qcv false (u := n) (by omega)
  have e4 : sgn false n = n := rfl
  rw [e4] at e3
  simp only [bv] at e3
  simp -implicitDefEqProofs (maxSteps:=9^8) only [Qjc, encI, go_sem, Qae, Qab, iv, bv, e1, e2, reduceCtorEq, ↓reduceIte, Nat.reduceEqDiff]
  simp only [e1, e3, encI, go_sem, Qae, Qab, iv, bv, reduceCtorEq, ↓reduceIte, Nat.reduceEqDiff]
end Go.AM

/- integer.Mul -/
namespace Go.AM
open Go Go.RowKit
variable [Its]

theorem QlM {d e : Int} (hd : 0 ≤ d ∧ d < 1000000000) (he : 0 ≤ e ∧ e < 1000000000) : 0 ≤ d * e ∧ d * e ≤ 999999998000000001 := by
 have _its : Its := inferInstance
 refine ⟨Int.mul_nonneg hd.1 he.1, ?_⟩
 have h1 : d * e ≤ 999999999 * e := Int.mul_le_mul_of_nonneg_right (by omega) he.1
 omega

theorem mul_arith {o pr c : Int} (m : 0 ≤ pr ∧ pr ≤ 999999998000000001) (ho : 0 ≤ o ∧ o < 1000000000) (hc : 0 ≤ c ∧ c < 1000000000) :
    w64 pr = pr ∧ w64 (o + pr) = o + pr ∧ w64 (o + pr + c) = o + pr + c ∧ (o + pr + c).tdiv 1000000000 = (o + pr + c) / 1000000000 ∧ w64 ((o + pr + c) / 1000000000) = (o + pr + c) / 1000000000 ∧
    w64 ((o + pr + c) / 1000000000 * 1000000000) = (o + pr + c) / 1000000000 * 1000000000 ∧ w64 (o + pr + c - (o + pr + c) / 1000000000 * 1000000000) = (o + pr + c) % 1000000000 := by
  have _its : Its := inferInstance
  refine ⟨Qad (by omega) (by omega), Qad (by omega) (by omega), Qad (by omega) (by omega), Int.tdiv_eq_ediv_of_nonneg (by omega), Qad (by omega) (by omega), Qad (by omega) (by omega), ?_⟩
  rw [Qad (by omega) (by omega)]; omega

section
variable (p q : Bool) (dx dy da db : D) (a b : List Int)
def mulH (out : List Int) : Hp := hupd (hupd (hupd (hupd hp0 [46] ⟨1, a.length + b.length, QbL out, false⟩) [4] ⟨0, 0, [.d (.v (.bool false)), .d (.z true)], false⟩) [3] ⟨0, 0, [.d (.v (.bool q)), .d dy], false⟩) [2] ⟨0, 0, [.d (.v (.bool p)), .d dx], false⟩
def QlJ (out : List Int) (i : Nat) (d c k : Int) : St :=
 ⟨upd (upd (upd (upd (upd (upd (upd (upd (upd (upd (upd (upd (upd (upd fr0 56 (.d (.v (.int .i64 k)))) 55 (.d (.v (.int .i64 b.length)))) 54 (.d db)) 49 (.d (.v (.int .i64 i)))) 48 (.d (.v (.int .i64 a.length)))) 47 (.d da))
  10 (.d (.v (.int .i64 c)))) 9 (.d (.v (.int .i64 d)))) 8 (.d (.v (.int .i64 i)))) 7 (.own [46] (a.length + b.length))) 6 (.d db)) 4 (.ptr [4] 0)) 3 (.ptr [3] 0)) 2 (.ptr [2] 0), mulH p q dx dy a b out, []⟩
def QoH (out : List Int) (i : Nat) (c : Int) : St :=
 ⟨upd (upd (upd (upd (upd (upd (upd (upd (upd (upd fr0 49 (.d (.v (.int .i64 i)))) 48 (.d (.v (.int .i64 a.length)))) 47 (.d da))
  10 (.d (.v (.int .i64 c)))) 8 (.d (.v (.int .i64 i)))) 7 (.own [46] (a.length + b.length))) 6 (.d db)) 4 (.ptr [4] 0)) 3 (.ptr [3] 0)) 2 (.ptr [2] 0), mulH p q dx dy a b out, []⟩

theorem QqR (out : List Int) (i : Nat) (d c : Int) : X G Qdx (QlJ p q dx dy da db a b out i d c b.length) = some (.x 2, QoH p q dx dy da db a b out i c) := by
 have e1 : decide ((b.length : Int) < (b.length : Int)) = false := lt_f (by omega)
 simp -implicitDefEqProofs (maxSteps:=9^8) only [Qdx, QlJ, QoH, mulH, go_sem, iv, bv, e1, Qam, reduceCtorEq, ↓reduceIte, Nat.reduceEqDiff]

theorem mul_in_go (hrb : Rw db b) (hb : Dig b) (out : List Int) (i k : Nat) (d c : Int) (hd : 0 ≤ d ∧ d < 1000000000) (hc : 0 ≤ c ∧ c < 1000000000) (ho : Dig out) (hi : i < a.length) (hk : k < b.length) (hl : a.length + b.length < 4611686018427387904) (hlen : out.length = a.length + b.length) :
    X G Qdx (QlJ p q dx dy da db a b out i d c k) = some (.n, QlJ p q dx dy da db a b (out.set (i + k) ((out.getD (i + k) 0 + d * b.getD k 0 + c) % 1000000000)) i d ((out.getD (i + k) 0 + d * b.getD k 0 + c) / 1000000000) ((k + 1 : Nat) : Int)) := by
  have e1 : decide ((k : Int) < (b.length : Int)) = true := lt_t (by omega)
  have e2 := hrb.ixn hk
  have e3 := fun hp => ldv hp b hk
  have e4 : w64 ((i : Int) + (k : Int)) = ((i + k : Nat) : Int) := by rw [Qad (by omega) (by omega)]; omega
  have g1 : (0 : Int) ≤ ((i + k : Nat) : Int) ∧ ((i + k : Nat) : Int) < ((a.length + b.length : Nat) : Int) := by omega
  have g3 := Qcu (l := out) (off := i + k) (by omega)
  have g2 := fun v => QbK (l := out) (off := i + k) (v := v) (by omega)
  have e9 : w64 ((k : Int) + 1) = ((k + 1 : Nat) : Int) := by rw [Qad (by omega) (by omega)]; omega
  obtain ⟨e5, e6, e7, q1, e8, e10, e11⟩ := mul_arith (QlM hd (hb.getD k)) (ho.getD (i + k)) hc
  simp -implicitDefEqProofs (maxSteps:=9^8) only [Qdx, QlJ, mulH, go_sem, iv, bv, e1, e2, e3, e4, e5, e6, e7, q1, e8, e9, e10, e11, g1, g2, g3, Qam, Qai, Qca, reduceCtorEq, ↓reduceIte, Nat.reduceEqDiff]

theorem QlU         (hrb : Rw db b) (hb : Dig b) (i : Nat) (d : Int) (hd : 0 ≤ d ∧ d < 1000000000) (hi : i < a.length) (hl : a.length + b.length < 4611686018427387904) : ∀ (r k : Nat) (out : List Int) (c : Int), k + r = b.length → (0 ≤ c ∧ c < 1000000000) → Dig out → out.length = a.length + b.length →
    ∃ out' c', X G (.loop Qdx) (QlJ p q dx dy da db a b out i d c k) = some (.x 2, QoH p q dx dy da db a b out' i c') ∧ (0 ≤ c' ∧ c' < 1000000000) ∧ Dig out' ∧ out'.length = a.length + b.length ∧ (∀ j, i + b.length ≤ j → out'.getD j 0 = out.getD j 0) ∧
      val out' + (1000000000 : Int) ^ (i + b.length) * c' = val out + (1000000000 : Int) ^ (i + k) * c + (1000000000 : Int) ^ i * d * (val b - val (b.take k))
  | 0, k, out, c, hk, hc, ho, hlen => by
    obtain rfl : k = b.length := by omega
    refine ⟨out, c, ?_, hc, ho, hlen, fun _ _ => rfl, ?_⟩
    · rw [Qag, QqR]; rfl
    · rw [List.take_length, Int.sub_self, Int.mul_zero, Int.add_zero]
  | r + 1, k, out, c, hk, hc, ho, hlen => by
    have hx := mul_in_go p q dx dy da db a b hrb hb out i k d c hd hc ho hi (by omega) hl hlen
    have hik : i + k < out.length := by omega
    have hvt := Qar b k
    obtain ⟨m1, m2⟩ := QlM hd (hb.getD k)
    have hok := ho.getD (i + k)
    generalize hv : out.getD (i + k) 0 + d * b.getD k 0 + c = v at hx
    have hv1 : 0 ≤ v ∧ v < 1000000000000000000 := by
      generalize d * b.getD k 0 = pr at *
      omega
    obtain ⟨out', c', g1, g2, g3, g4, g5, g6⟩ := QlU hrb hb i d hd hi hl r (k + 1) (out.set (i + k) (v % 1000000000)) (v / 1000000000) (by omega) (by omega) (ho.set (by omega)) (by simpa using hlen)
    refine ⟨out', c', ?_, g2, g3, g4, fun j hj => ?_, ?_⟩
    · rw [Qag, hx]; exact g1
    · rw [g5 j hj, Qbi _ (by omega)]
    · rw [g6, Qfw _ _ _ hik, hvt, show i + (k + 1) = (i + k) + 1 by omega, Int.pow_succ, Int.pow_add]
      have hdm : v % 1000000000 + 1000000000 * (v / 1000000000) = v := by omega
      have hv2 := hv.symm
      generalize v % 1000000000 = vm at *
      generalize v / 1000000000 = vd at *
      grind

def QjA (out : List Int) (i : Int) : St :=
 ⟨upd (upd (upd (upd (upd (upd (upd (upd fr0 49 (.d (.v (.int .i64 i)))) 48 (.d (.v (.int .i64 a.length)))) 47 (.d da))
  7 (.own [46] (a.length + b.length))) 6 (.d db)) 4 (.ptr [4] 0)) 3 (.ptr [3] 0)) 2 (.ptr [2] 0), mulH p q dx dy a b out, []⟩
def Qo6 (out : List Int) : St :=
 ⟨upd (upd (upd (upd fr0 7 (.own [46] (a.length + b.length))) 4 (.ptr [4] 0)) 3 (.ptr [3] 0)) 2 (.ptr [2] 0), mulH p q dx dy a b out, []⟩

theorem QpJ (out : List Int) : X G Qdz (QjA p q dx dy da db a b out a.length) = some (.x 0, Qo6 p q dx dy a b out) := by
 have e1 : decide ((a.length : Int) < (a.length : Int)) = false := lt_f (by omega)
 simp -implicitDefEqProofs (maxSteps:=9^8) only [Qdz, QjA, Qo6, mulH, go_sem, iv, bv, e1, Qam, reduceCtorEq, ↓reduceIte, Nat.reduceEqDiff]

theorem Qtw        (hra : Rw da a) (hrb : Rw db b) (ha : Dig a) (hb : Dig b) (out : List Int) (i : Nat) (ho : Dig out) (hi : i < a.length) (hl : a.length + b.length < 4611686018427387904) (hlen : out.length = a.length + b.length) :
    ∃ out', X G Qdz (QjA p q dx dy da db a b out i) = some (.n, QjA p q dx dy da db a b out' ((i + 1 : Nat) : Int)) ∧ Dig out' ∧ out'.length = a.length + b.length ∧
      (∀ j, i + b.length < j → out'.getD j 0 = out.getD j 0) ∧ (out.getD (i + b.length) 0 = 0 → val out' = val out + (1000000000 : Int) ^ i * a.getD i 0 * val b) := by
  have e1 : decide ((i : Int) < (a.length : Int)) = true := lt_t (by omega)
  have e2 := hra.ixn hi
  have e3 := fun hp => ldv hp a hi
  have e4 : w64 ((i : Int) + (b.length : Int)) = ((i + b.length : Nat) : Int) := by rw [Qad (by omega) (by omega)]; omega
  have e9 : w64 ((i : Int) + 1) = ((i + 1 : Nat) : Int) := by rw [Qad (by omega) (by omega)]; omega
  have g7 : (0 : Int) ≤ ((i + b.length : Nat) : Int) ∧ ((i + b.length : Nat) : Int) < ((a.length + b.length : Nat) : Int) := by omega
  have hib0 : i + b.length < a.length + b.length := by omega
  have hne : ∀ j, i + b.length < j → i + b.length ≠ j ∧ i + b.length ≤ j := fun j hj => by omega
  obtain ⟨o2, c, g1, g2, g3, g4, g5, g6⟩ := QlU p q dx dy da db a b hrb hb i (a.getD i 0) (ha.getD i) hi hl b.length 0 out 0 (by omega) (by omega) ho hlen
  have hib : i + b.length < o2.length := by rw [g4]; exact hib0
  have g8 := fun v => QbK (l := o2) (off := i + b.length) (v := v) hib
  simp only [QlJ, QoH, mulH, nc0] at g1
  refine ⟨o2.set (i + b.length) c, ?_, g3.set g2, by simpa using g4, fun j hj => ?_, fun h0 => ?_⟩
  · simp -implicitDefEqProofs (maxSteps:=9^8) only [Qdz, QjA, mulH, go_sem, iv, bv, e1, e2, e3, e4, e9, g1, g7, g8, hrb.len, Qam, Qai, Qca, reduceCtorEq, ↓reduceIte, Nat.reduceEqDiff]
  · rw [Qbi _ (hne j hj).1, g5 j (hne j hj).2]
  · rw [Qfw _ _ _ hib, g5 _ (Nat.le_refl _), h0]
    simp only [List.take_zero, val, Int.sub_zero, Int.mul_zero, Int.add_zero] at g6 ⊢
    exact g6

theorem Qk2          (hra : Rw da a) (hrb : Rw db b) (ha : Dig a) (hb : Dig b) (hl : a.length + b.length < 4611686018427387904) : ∀ (r i : Nat) (out : List Int), i + r = a.length → Dig out → out.length = a.length + b.length → (∀ j, i + b.length ≤ j → out.getD j 0 = 0) → val out = val (a.take i) * val b →
    ∃ out', X G (.loop Qdz) (QjA p q dx dy da db a b out i) = some (.x 0, Qo6 p q dx dy a b out') ∧ Dig out' ∧ out'.length = a.length + b.length ∧ val out' = val a * val b
  | 0, i, out, hi, ho, hlen, hz, hv => by
    obtain rfl : i = a.length := by clear hv; omega
    refine ⟨out, ?_, ho, hlen, ?_⟩
    · rw [Qag, QpJ]; rfl
    · rw [hv, List.take_length]
  | r + 1, i, out, hi, ho, hlen, hz, hv => by
    have hi' : i < a.length := by clear hv; omega
    have hn : i + 1 + r = a.length := by clear hv; omega
    have hj : ∀ j, i + 1 + b.length ≤ j → i + b.length < j ∧ i + b.length ≤ j := by clear hv; intro j hj; omega
    obtain ⟨out', g1, g2, g3, g4, g5⟩ := Qtw p q dx dy da db a b hra hrb ha hb out i ho hi' hl hlen
    have hv' := g5 (hz _ (Nat.le_refl _))
    obtain ⟨o2, k1, k2⟩ := Qk2 hra hrb ha hb hl r (i + 1) out' hn g2 g3 (fun j h => by rw [g4 j (hj j h).1]; exact hz j (hj j h).2) (by rw [hv', hv, Qar a]; grind)
    refine ⟨o2, ?_, k2⟩
    rw [Qag, g1]
    exact k1
end
end Go.AM

/- integer.Mul as a function -/
namespace Go.AM
open Go Go.RowKit
variable [Its]

theorem sgn_mul {x y : Int} (h : x ≠ 0) (h2 : y ≠ 0) : sgn (!(decide (x < 0) == decide (y < 0))) ((x.natAbs : Int) * (y.natAbs : Int)) = x * y := by
 have _its : Its := inferInstance
 by_cases hx : x < 0 <;> by_cases hy : y < 0
 ·have e1 : (x.natAbs : Int) = -x := by omega
  have e2 : (y.natAbs : Int) = -y := by omega
  simp [sgn, hx, hy, e1, e2]
  try grind
 ·have e1 : (x.natAbs : Int) = -x := by omega
  have e2 : (y.natAbs : Int) = y := by omega
  simp [sgn, hx, hy, e1, e2]
  try grind
 ·have e1 : (x.natAbs : Int) = x := by omega
  have e2 : (y.natAbs : Int) = -y := by omega
  simp [sgn, hx, hy, e1, e2]
  try grind
 ·have e1 : (x.natAbs : Int) = x := by omega
  have e2 : (y.natAbs : Int) = y := by omega
  simp [sgn, hx, hy, e1, e2]
  try grind

theorem QoT (x y : Int) : sgn (!(decide (x < 0) == decide (y < 0))) ((x.natAbs : Int) * (y.natAbs : Int)) = x * y := by
 by_cases h : x = 0
 ·subst h
  have : ((0 : Int).natAbs : Int) = 0 := rfl
  rw [this, Int.zero_mul, Int.zero_mul]
  unfold sgn; split <;> rfl
 ·by_cases h2 : y = 0
  ·subst h2
   have : ((0 : Int).natAbs : Int) = 0 := rfl
   rw [this, Int.mul_zero, Int.mul_zero]
   unfold sgn; split <;> rfl
  ·exact sgn_mul h h2

theorem Ql5 {n : Nat} (h : (digs n).length = 1) : (digs n).getD 0 0 = n ∧ n < 1000000000 := by
 have _its : Its := inferInstance
 have hv := Qaz n
 have hd := Qaq n
 match hl : digs n, h with
 | [d], _ =>
  rw [hl] at hv hd
  have := hd d (by simp)
  simp only [val] at hv
  simp only [List.getD_cons_zero]
  omega

theorem Mul_one {x y : Int} (hx : (digs x.natAbs).length = 1) (hy : (digs y.natAbs).length = 1) : Qah G Qcd [encI x, encI y] = some (.d (encI (x * y))) := by
 rw [Qac (cf := Qfh) rfl]
 obtain ⟨a1, a2⟩ := Ql5 hx
 obtain ⟨b1, b2⟩ := Ql5 hy
 have e0 := QaM (digs x.natAbs)
 have e1 := QaM (digs y.natAbs)
 rw [hx] at e0
 rw [hy] at e1
 have e2 := (Rw.dg (digs x.natAbs)).ixn (j := 0) (by omega)
 have e3 := fun hp => ldv hp (digs x.natAbs) (j := 0) (by omega)
 have e4 := (Rw.dg (digs y.natAbs)).ixn (j := 0) (by omega)
 have e5 := fun hp => ldv hp (digs y.natAbs) (j := 0) (by omega)
 simp only [nc0, a1, b1, List.drop_zero] at e2 e3 e4 e5
 have e6 : (((1 : Nat) : Int) == 1) = true := rfl
 have e7 : ((x.natAbs : Nat) : Int) % 18446744073709551616 = (x.natAbs : Int) := by omega
 have e8 : ((y.natAbs : Nat) : Int) % 18446744073709551616 = (y.natAbs : Int) := by omega
 have e9 : ((x.natAbs : Nat) : Int) * ((y.natAbs : Nat) : Int) % 18446744073709551616 = (x.natAbs : Int) * (y.natAbs : Int) ∧ 0 ≤ (x.natAbs : Int) * (y.natAbs : Int) ∧ (x.natAbs : Int) * (y.natAbs : Int) < 18446744073709551616 := by
  obtain ⟨m1, m2⟩ := QlM (d := (x.natAbs : Int)) (e := (y.natAbs : Int)) (by omega) (by omega)
  generalize (x.natAbs : Int) * (y.natAbs : Int) = pr at *
  clear e0 e1 e2 e3 e4 e5
  omega
 have g := Qcv (!(decide (x < 0) == decide (y < 0))) e9.2
 rw [QoT] at g
 simp only [bv] at g
 simp -implicitDefEqProofs (maxSteps:=9^8) only [Qfh, encI, go_sem, Qae, Qab, iv, bv, e0, e1, e2, e3, e4, e5, e6, e7, e8, e9.1, g, reduceCtorEq, ↓reduceIte, Nat.reduceEqDiff]

theorem Qhh {x y : Int} (hx : nd x ≤ 1000000000000) (hy : nd y ≤ 1000000000000) : Qah G Qcd [encI x, encI y] = some (.d (encI (x * y))) := by
 by_cases h1 : (digs x.natAbs).length = 1 ∧ (digs y.natAbs).length = 1
 ·exact Mul_one h1.1 h1.2
 rw [Qac (cf := Qfh) rfl]
 have hx' : (digs x.natAbs).length ≤ 1000000000000 := hx
 have hy' : (digs y.natAbs).length ≤ 1000000000000 := hy
 have e0 := QaM (digs x.natAbs)
 have e1 := QaM (digs y.natAbs)
 have vx := QdC x
 have vy := QdC y
 have dx := Qaq x.natAbs
 have dy := Qaq y.natAbs
 have hw : w64 (((digs x.natAbs).length : Int) + ((digs y.natAbs).length : Int)) = (((digs x.natAbs).length + (digs y.natAbs).length : Nat) : Int) := by rw [Qad (by omega) (by omega)]; omega
 have hm : (0 : Int) ≤ (((digs x.natAbs).length + (digs y.natAbs).length : Nat) : Int) ∧ (((digs x.natAbs).length + (digs y.natAbs).length : Nat) : Int) * ((8 : Nat) : Int) ≤ ((bound : Nat) : Int) := by simp only [bound]; omega
 have hlt : (digs x.natAbs).length + (digs y.natAbs).length < 4611686018427387904 := by omega
 obtain ⟨out, g1, g2, g3, g4⟩ := Qk2 (decide (x < 0)) (decide (y < 0)) (dg (digs x.natAbs)) (dg (digs y.natAbs)) (dg (digs x.natAbs)) (dg (digs y.natAbs)) (digs x.natAbs) (digs y.natAbs) (Rw.dg _) (Rw.dg _) dx dy hlt
  (digs x.natAbs).length 0 (List.replicate ((digs x.natAbs).length + (digs y.natAbs).length) 0) (by omega) (Dig.replicate _) (by simp) (fun j _ => by simp only [List.getD_eq_getElem?_getD, List.getElem?_replicate]; split <;> rfl) (by rw [Qe4]; simp [val])
 have hol : out.length < 4611686018427387904 := by rw [g3]; exact hlt
 have g5 := Qfq (!(decide (x < 0) == decide (y < 0))) (Rw.row out) hol g2
 rw [g4, vx, vy, QoT] at g5
 simp only [rowI, bv, g3] at g5
 simp only [QjA, Qo6, mulH, nc0] at g1
 by_cases h2 : (digs x.natAbs).length = 1
 ·have k1 : (((digs x.natAbs).length : Int) == 1) = true := Qoq (by omega)
  have k2 : (((digs y.natAbs).length : Int) == 1) = false := Qds (by omega)
  simp -implicitDefEqProofs (maxSteps:=9^8) only [Qfh, encI, go_sem, Qae, Qab, Qip, iv, bv, e0, e1, k1, k2, hw, hm, Qj5, Qam, Qca, g1, g5, reduceCtorEq, ↓reduceIte, Nat.reduceEqDiff]
 ·have k1 : (((digs x.natAbs).length : Int) == 1) = false := Qds (by omega)
  simp -implicitDefEqProofs (maxSteps:=9^8) only [Qfh, encI, go_sem, Qae, Qab, Qip, iv, bv, e0, e1, k1, hw, hm, Qj5, Qam, Qca, g1, g5, reduceCtorEq, ↓reduceIte, Nat.reduceEqDiff]
end Go.AM

/- integer.two -/
namespace Go.AM
open Go Go.RowKit

theorem val_one {l : List Int} (h : l.length = 1) : val l = l.getD 0 0 := by
 match l, h with
 | [x], _ => simp [val]
theorem val_two {l : List Int} (h : l.length = 2) : val l = l.getD 1 0 * 1000000000 + l.getD 0 0 := by
 match l, h with
 | [x, y], _ => simp [val]; omega
variable [Its]

theorem Qlu      {d : D} {l : List Int} (h : Rw d l) (hd : Dig l) (hl : l.length < 4611686018427387904) :
    Qah G Qe5 [d] = some (.d (.tup [iv (if l.length ≤ 2 then val l else 0), bv (decide (l.length ≤ 2))])) := by
  rw [Qac (cf := Qfy) rfl]
  have b0 := hd.getD 0
  have b1 := hd.getD 1
  have hh := h.len
  by_cases h0 : l.length = 0
  · have e1 : val l = 0 := by rw [List.length_eq_zero_iff.1 h0]; rfl
    have e2 : (((0 : Nat) : Int) == 0) = true := rfl
    have e3 : (0 : Nat) ≤ 2 := by omega
    simp -implicitDefEqProofs (maxSteps:=9^8) only [Qfy, go_sem, iv, bv, hh, h0, e1, e2, e3, toDs, beq_self_eq_true, reduceCtorEq, ↓reduceIte, Nat.reduceEqDiff]
  · by_cases h1 : l.length = 1
    · have e1 := h.ixn (j := 0) (by omega)
      have e2 := fun hp => ldv hp l (j := 0) (by omega)
      simp only [nc0, List.drop_zero] at e1 e2
      have e3 : (((1 : Nat) : Int) == 0) = false := rfl
      have e4 : (((1 : Nat) : Int) == 1) = true := rfl
      have e5 : (1 : Nat) ≤ 2 := by omega
      simp -implicitDefEqProofs (maxSteps:=9^8) only [Qfy, go_sem, iv, bv, hh, h1, e1, e2, e3, e4, e5, val_one h1, toDs, reduceCtorEq, ↓reduceIte, Nat.reduceEqDiff]
    · by_cases h2 : l.length = 2
      · have e1 := h.ixn (j := 0) (by omega)
        have e2 := fun hp => ldv hp l (j := 0) (by omega)
        have f1 := h.ixn (j := 1) (by omega)
        have f2 := fun hp => ldv hp l (j := 1) (by omega)
        simp only [nc0, List.drop_zero] at e1 e2
        have e3 : (((2 : Nat) : Int) == 0) = false := rfl
        have e4 : (((2 : Nat) : Int) == 1) = false := rfl
        have e5 : (((2 : Nat) : Int) == 2) = true := rfl
        have e8 : (2 : Nat) ≤ 2 := by omega
        have e9 : ((1 : Nat) : Int) = 1 := rfl
        rw [e9] at f1
        have e6 : w64 (l.getD 1 0 * 1000000000) = l.getD 1 0 * 1000000000 := Qad (by omega) (by omega)
        have e7 : w64 (l.getD 1 0 * 1000000000 + l.getD 0 0) = l.getD 1 0 * 1000000000 + l.getD 0 0 := Qad (by omega) (by omega)
        simp -implicitDefEqProofs (maxSteps:=9^8) only [Qfy, go_sem, iv, bv, hh, h2, e1, e2, e3, e4, e5, e6, e7, e8, f1, f2, val_two h2, toDs, reduceCtorEq, ↓reduceIte, Nat.reduceEqDiff]
      · have e3 : ((l.length : Int) == 0) = false := Qds (by omega)
        have e4 : ((l.length : Int) == 1) = false := Qds (by omega)
        have e5 : ((l.length : Int) == 2) = false := Qds (by omega)
        have e6 : ¬ l.length ≤ 2 := by omega
        simp -implicitDefEqProofs (maxSteps:=9^8) only [Qfy, go_sem, iv, bv, hh, e3, e4, e5, e6, toDs, reduceCtorEq, ↓reduceIte, Nat.reduceEqDiff]
end Go.AM

/- States as lists; quotients; values from the top. -/
namespace Go.AM
open Go Go.RowKit

def frL : List (Nat × A) → Fr
 | [] => fr0
 | (i, x) :: r => upd (frL r) i x
def hpL : List (Key × Obj) → Hp
 | [] => hp0
 | (k, o) :: r => hupd (hpL r) k o
def mkS (f : List (Nat × A)) (h : List (Key × Obj)) : St := ⟨frL f, hpL h, []⟩
def ai (x : Int) : A := .d (.v (.int .i64 x))
def ab (b : Bool) : A := .d (.v (.bool b))
def arrI (n : Nat) (l : List Int) : Obj := ⟨1, n, QbL l, false⟩
attribute [go_sem] mkS frL hpL ai ab arrI

theorem Qed {a b : Int} (ha : 0 ≤ a) : a.tdiv b = a / b := Int.tdiv_eq_ediv_of_nonneg ha
theorem Qdi {a b : Int} (ha : 0 ≤ a) : a.tmod b = a % b := Int.tmod_eq_emod_of_nonneg ha
theorem QmM {b : Int} (h : b ≠ 0) : (b = 0) = False := eq_false h

theorem Qa3 (l : List Int) (k : Nat) : val (l.drop k) = l.getD k 0 + 1000000000 * val (l.drop (k + 1)) := by
 by_cases h : k < l.length
 ·rw [List.drop_eq_getElem_cons h, val]
  simp [List.getD, h]
 ·rw [List.drop_eq_nil_of_le (by omega), List.drop_eq_nil_of_le (by omega)]
  have : l.getD k 0 = 0 := by rw [List.getD_eq_getElem?_getD, List.getElem?_eq_none (by omega)]; rfl
  rw [this]; simp [val]
theorem Qlg {l : List Int} {k : Nat} (d : Int) (h : k < l.length) : val ((l.set k d).drop k) = d + 1000000000 * val (l.drop (k + 1)) := by
 rw [Qa3, QhZ l d (Nat.lt_succ_self k)]
 simp [List.getD, h]
theorem QjM {l : List Int} {k : Nat} (d : Int) (h : k < l.length) : (l.set k d).getD k 0 = d := by simp [List.getD, h]
theorem QcP (n : Nat) : (0 : Int) < (1000000000 : Int) ^ n := Int.pow_pos (by omega)
theorem bnd (n : Nat) (h : n * 8 ≤ 140737488351232) : (0 : Int) ≤ ((n : Nat) : Int) ∧ ((n : Nat) : Int) * ((8 : Nat) : Int) ≤ ((bound : Nat) : Int) := by simp only [bound]; omega
end Go.AM

/- integer.short -/
namespace Go.AM
open Go Go.RowKit

theorem QmG         {r a b : Int} (hb : 0 < b ∧ b < 1000000000) (hr : 0 ≤ r ∧ r < b) (ha : 0 ≤ a ∧ a < 1000000000) :
    0 ≤ r * 1000000000 + a ∧ r * 1000000000 + a < 1000000000000000000 ∧ 0 ≤ (r * 1000000000 + a) / b ∧ (r * 1000000000 + a) / b < 1000000000 ∧ 0 ≤ (r * 1000000000 + a) % b ∧ (r * 1000000000 + a) % b < b ∧ (r * 1000000000 + a) / b * b + (r * 1000000000 + a) % b = r * 1000000000 + a := by
  refine ⟨by omega, by omega, Int.ediv_nonneg (by omega) (by omega), ?_, Int.emod_nonneg _ (by omega), Int.emod_lt_of_pos _ (by omega), Int.ediv_mul_add_emod _ _⟩
  apply Int.ediv_lt_of_lt_mul (by omega)
  omega
variable [Its]

section
variable (da : D) (a : List Int) (b : Int)
def QhW (q : List Int) (r i : Int) : St := mkS [(0, .d da), (1, ai b), (6, .own [12] a.length), (7, ai r), (8, ai i)] [([12], arrI a.length q)]
def Qkp (q : List Int) (r : Int) : St := mkS [(6, .own [12] a.length), (7, ai r)] [([12], arrI a.length q)]

theorem Que (q : List Int) (r : Int) : X G QcN (QhW da a b q r (-1)) = some (.x 0, Qkp a q r) := by
 have e1 : decide ((-1 : Int) ≥ 0) = false := rfl
 simp -implicitDefEqProofs (maxSteps:=9^8) only [QcN, QhW, Qkp, go_sem, iv, bv, e1, Qam, reduceCtorEq, ↓reduceIte, Nat.reduceEqDiff]

theorem short_go (hra : Rw da a) (ha : Dig a) (hb : 0 < b ∧ b < 1000000000) (q : List Int) (r : Int) (hr : 0 ≤ r ∧ r < b) (hq : q.length = a.length) {i : Nat} (hi : i < a.length) (hl : a.length < 4611686018427387904) :
    X G QcN (QhW da a b q r (i : Int)) = some (.n, QhW da a b (q.set i ((r * 1000000000 + a.getD i 0) / b)) ((r * 1000000000 + a.getD i 0) % b) ((i : Int) - 1)) := by
  obtain ⟨h1, h2, h3, h4, h5, h6, _⟩ := QmG hb hr (ha.getD i)
  have a1 := ha.getD i
  have e1 : decide ((i : Int) ≥ 0) = true := ge_t (by omega)
  have e2 := hra.ixn (j := i) (by omega)
  have e3 := fun hp => ldv hp a (j := i) (by omega)
  have e4 : w64 (r * 1000000000) = r * 1000000000 := Qad (by omega) (by omega)
  have e5 : w64 (r * 1000000000 + a.getD i 0) = r * 1000000000 + a.getD i 0 := Qad (by omega) (by omega)
  have e6 := QmM (b := b) (by omega)
  have e7 := Qed (b := b) h1
  have e8 := Qdi (b := b) h1
  have e9 : w64 ((r * 1000000000 + a.getD i 0) / b) = (r * 1000000000 + a.getD i 0) / b := Qad (by omega) (by omega)
  have f1 : (0 : Int) ≤ (i : Int) ∧ (i : Int) < ((a.length : Nat) : Int) := by omega
  have f2 := fun v => QbK (l := q) (off := i) (v := v) (by omega)
  have f3 : w64 ((i : Int) - 1) = (i : Int) - 1 := Qad (by omega) (by omega)
  simp -implicitDefEqProofs (maxSteps:=9^8) only [QcN, QhW, go_sem, iv, bv, e1, e2, e3, e4, e5, e6, e7, e8, e9, f1, f2, f3, allD, Qam, Qai, Qca, reduceCtorEq, ↓reduceIte, Nat.reduceEqDiff]

theorem QnK        (hra : Rw da a) (ha : Dig a) (hb : 0 < b ∧ b < 1000000000) (hl : a.length < 4611686018427387904) : ∀ (k : Nat) (q : List Int) (r : Int), k ≤ a.length → (0 ≤ r ∧ r < b) → q.length = a.length → Dig q → val (a.drop k) = val (q.drop k) * b + r →
    ∃ q' r', X G (.loop QcN) (QhW da a b q r ((k : Int) - 1)) = some (.x 0, Qkp a q' r') ∧ (0 ≤ r' ∧ r' < b) ∧ q'.length = a.length ∧ Dig q' ∧ val a = val q' * b + r'
  | 0, q, r, hk, hr, hq, hd, hv => by
    refine ⟨q, r, ?_, hr, hq, hd, by simpa using hv⟩
    have : ((0 : Nat) : Int) - 1 = -1 := rfl
    rw [this, Qag, Que]; rfl
  | k + 1, q, r, hk, hr, hq, hd, hv => by
    obtain ⟨h1, h2, h3, h4, h5, h6, h7⟩ := QmG hb hr (ha.getD k)
    have hx := short_go da a b hra ha hb q r hr hq (i := k) (by omega) hl
    obtain ⟨q', r', g1, g2⟩ := QnK hra ha hb hl k (q.set k ((r * 1000000000 + a.getD k 0) / b)) ((r * 1000000000 + a.getD k 0) % b) (by omega) ⟨h5, h6⟩ (by simpa using hq) (hd.set ⟨h3, h4⟩) (by
      rw [Qa3, hv, Qlg _ (by omega)]
      generalize (r * 1000000000 + a.getD k 0) / b = Q at *
      generalize (r * 1000000000 + a.getD k 0) % b = M at *
      clear hx h1 h2 h3 h4 h5 h6
      grind)
    refine ⟨q', r', ?_, g2⟩
    have : ((k + 1 : Nat) : Int) - 1 = (k : Int) := by omega
    rw [this, Qag, hx]
    exact g1
end

theorem Qnm        {da : D} {a : List Int} {b : Int} (hra : Rw da a) (ha : Dig a) (hb : 0 < b ∧ b < 1000000000) (hl : a.length * 8 ≤ 140737488351232) :
    ∃ q r, Qah G QgB [da, iv b] = some (.d (.tup [rowI q, iv r])) ∧ (0 ≤ r ∧ r < b) ∧ q.length = a.length ∧ Dig q ∧ val a = val q * b + r := by
  obtain ⟨q, r, h1, h2, h3, h4, h5⟩ := QnK da a b hra ha hb (by omega) a.length (List.replicate a.length 0) 0 (Nat.le_refl _) (by omega) (by simp) (Dig.replicate _) (by
    rw [List.drop_length, List.drop_eq_nil_of_le (by simp)]; simp [val])
  refine ⟨q, r, ?_, h2, h3, h4, h5⟩
  rw [Qac (cf := Qid) rfl]
  have e1 := bnd a.length hl
  have e2 : w64 ((a.length : Int) - 1) = (a.length : Int) - 1 := Qad (by omega) (by omega)
  simp only [QhW, Qkp, go_sem] at h1
  simp -implicitDefEqProofs (maxSteps:=9^8) only [Qid, go_sem, iv, bv, h1, e1, e2, hra.len, Qj5, Qam, Qca, Qai, toDs, rowI, h3, reduceCtorEq, ↓reduceIte, Nat.reduceEqDiff]
end Go.AM

/- integer.scaled -/
namespace Go.AM
open Go Go.RowKit

theorem Qla          {d k c : Int} (hd : 0 ≤ d ∧ d < 1000000000) (hk : 0 < k ∧ k < 1000000000) (hc : 0 ≤ c ∧ c < k) :
    0 ≤ d * k ∧ d * k < 1000000000000000000 ∧ 0 ≤ d * k + c ∧ d * k + c < 1000000000000000000 ∧ 0 ≤ (d * k + c) / 1000000000 ∧ (d * k + c) / 1000000000 < k := by
  have h1 : 0 ≤ d * k := Int.mul_nonneg hd.1 (by omega)
  have h2 : d * k ≤ 999999999 * k := Int.mul_le_mul_of_nonneg_right (by omega) (by omega)
  generalize d * k = p at *
  omega
variable [Its]

section
variable (da : D) (a : List Int) (k : Int)
def Qg0 (o : List Int) (c i : Int) : St := mkS [(0, .d da), (1, ai k), (5, .own [13] (a.length + 1)), (6, ai c), (14, .d da), (15, ai a.length), (16, ai i)] [([13], arrI (a.length + 1) o)]
def Qi9 (o : List Int) (c : Int) : St := mkS [(0, .d da), (5, .own [13] (a.length + 1)), (6, ai c)] [([13], arrI (a.length + 1) o)]

theorem Qru (o : List Int) (c : Int) : X G QcC (Qg0 da a k o c a.length) = some (.x 0, Qi9 da a o c) := by
 have e1 : decide ((a.length : Int) < (a.length : Int)) = false := lt_f (by omega)
 simp -implicitDefEqProofs (maxSteps:=9^8) only [QcC, Qg0, Qi9, go_sem, iv, bv, e1, Qam, reduceCtorEq, ↓reduceIte, Nat.reduceEqDiff]

theorem scaled_go (hra : Rw da a) (ha : Dig a) (hk : 0 < k ∧ k < 1000000000) (o : List Int) (c : Int) (hc : 0 ≤ c ∧ c < k) (ho : o.length = a.length + 1) {i : Nat} (hi : i < a.length) (hl : a.length < 4611686018427387904) :
    X G QcC (Qg0 da a k o c (i : Int)) = some (.n, Qg0 da a k (o.set i ((a.getD i 0 * k + c) % 1000000000)) ((a.getD i 0 * k + c) / 1000000000) ((i + 1 : Nat) : Int)) := by
  obtain ⟨h1, h2, h3, h4, h5, h6⟩ := Qla (ha.getD i) hk hc
  have e1 : decide ((i : Int) < (a.length : Int)) = true := lt_t (by omega)
  have e2 := hra.ixn (j := i) (by omega)
  have e3 := fun hp => ldv hp a (j := i) (by omega)
  have e7 := Qed (b := 1000000000) h3
  have e8 := Qdi (b := 1000000000) h3
  have f1 : (0 : Int) ≤ (i : Int) ∧ (i : Int) < ((a.length + 1 : Nat) : Int) := by omega
  have f2 := fun v => QbK (l := o) (off := i) (v := v) (by omega)
  have f3 : w64 ((i : Int) + 1) = ((i + 1 : Nat) : Int) := by rw [Qad (by omega) (by omega)]; omega
  have e4 : w64 (a.getD i 0 * k) = a.getD i 0 * k := by
    generalize a.getD i 0 * k = p at *; exact Qad (by omega) (by omega)
  have e5 : w64 (a.getD i 0 * k + c) = a.getD i 0 * k + c := by
    generalize a.getD i 0 * k = p at *; exact Qad (by omega) (by omega)
  have e9 : w64 ((a.getD i 0 * k + c) / 1000000000) = (a.getD i 0 * k + c) / 1000000000 := by
    generalize a.getD i 0 * k = p at *; exact Qad (by omega) (by omega)
  simp -implicitDefEqProofs (maxSteps:=9^8) only [QcC, Qg0, go_sem, iv, bv, e1, e2, e3, e4, e5, e7, e8, e9, f1, f2, f3, allD, Qam, Qai, Qca, reduceCtorEq, ↓reduceIte, Nat.reduceEqDiff]

theorem Qmt         (hra : Rw da a) (ha : Dig a) (hk : 0 < k ∧ k < 1000000000) (hl : a.length < 4611686018427387904) : ∀ (j i : Nat) (o : List Int) (c : Int), i + j = a.length → (0 ≤ c ∧ c < k) → o.length = a.length + 1 → Dig o → o.getD a.length 0 = 0 → val (o.take i) + (1000000000 : Int) ^ i * c = val (a.take i) * k →
    ∃ o' c', X G (.loop QcC) (Qg0 da a k o c (i : Int)) = some (.x 0, Qi9 da a o' c') ∧ (0 ≤ c' ∧ c' < k) ∧ o'.length = a.length + 1 ∧ Dig o' ∧ val (o'.take a.length) + (1000000000 : Int) ^ a.length * c' = val a * k
  | 0, i, o, c, hi, hc, ho, hd, hz, hv => by
    obtain rfl : i = a.length := by omega
    refine ⟨o, c, ?_, hc, ho, hd, ?_⟩
    · rw [Qag, Qru]; rfl
    · rw [hv, List.take_length]
  | j + 1, i, o, c, hi, hc, ho, hd, hz, hv => by
    obtain ⟨h1, h2, h3, h4, h5, h6⟩ := Qla (ha.getD i) hk hc
    have hx := scaled_go da a k hra ha hk o c hc ho (i := i) (by omega) hl
    have hm := Int.ediv_mul_add_emod (a.getD i 0 * k + c) 1000000000
    have hm1 : 0 ≤ (a.getD i 0 * k + c) % 1000000000 := Int.emod_nonneg _ (by omega)
    have hm2 : (a.getD i 0 * k + c) % 1000000000 < 1000000000 := Int.emod_lt_of_pos _ (by omega)
    obtain ⟨o', c', g1, g2⟩ := Qmt hra ha hk hl j (i + 1) (o.set i ((a.getD i 0 * k + c) % 1000000000)) ((a.getD i 0 * k + c) / 1000000000) (by omega) ⟨h5, h6⟩ (by simpa using ho) (hd.set ⟨hm1, hm2⟩) (by rw [Qbi _ (by omega)]; exact hz) (by
      rw [QfV _ (by omega), Qar a, Int.pow_succ]
      generalize (a.getD i 0 * k + c) % 1000000000 = M at *
      generalize (a.getD i 0 * k + c) / 1000000000 = Q at *
      clear hx h1 h2 h3 h4 h5 h6
      grind)
    refine ⟨o', c', ?_, g2⟩
    rw [Qag, hx]
    exact g1
end

theorem QlX         {da : D} {a : List Int} {k : Int} (hra : Rw da a) (ha : Dig a) (hk : 0 < k ∧ k < 1000000000) (hl : (a.length + 1) * 8 ≤ 140737488351232) :
    ∃ o, Qah G Qf7 [da, iv k] = some (.own 1 (a.length + 1) (o.map iv)) ∧ o.length = a.length + 1 ∧ Dig o ∧ val o = val a * k := by
  obtain ⟨o, c, h1, h2, h3, h4, h5⟩ := Qmt da a k hra ha hk (by omega) a.length 0 (List.replicate (a.length + 1) 0) 0 (by omega) (by omega) (by simp) (Dig.replicate _) (by simp [List.getD]) (by simp [val])
  refine ⟨o.set a.length c, ?_, by simpa using h3, h4.set (by omega), ?_⟩
  · rw [Qac (cf := Qhw) rfl]
    have e1 := bnd (a.length + 1) hl
    have e2 : w64 ((a.length : Int) + 1) = ((a.length + 1 : Nat) : Int) := by rw [Qad (by omega) (by omega)]; omega
    have e4 : (0 : Int) ≤ ((a.length : Nat) : Int) ∧ (a.length : Int) < ((a.length + 1 : Nat) : Int) := by omega
    have g2 := fun v => QbK (l := o) (off := a.length) (v := v) (by omega)
    simp only [Qg0, Qi9, go_sem, nc0] at h1
    simp -implicitDefEqProofs (maxSteps:=9^8) only [Qhw, go_sem, iv, bv, h1, e1, e2, e4, g2, hra.len, Qj5, Qam, Qai, Qca, reduceCtorEq, ↓reduceIte, Nat.reduceEqDiff]
  · have := QfV c (l := o) (i := a.length) (by omega)
    rw [List.take_of_length_le (by simp; omega)] at this
    rw [this]; exact h5
end Go.AM

/- Long division, one digit of the quotient: plain arithmetic. -/
namespace Go.AM

section
variable {P v1 v2 vl u0 u1 u2 ul : Int}

theorem kn_first (hP : 0 < P) (h1 : 0 < v1) (h2 : 0 ≤ v2) (hvl : 0 ≤ vl) (hul : 0 ≤ ul ∧ ul < P) (hu2 : 0 ≤ u2 ∧ u2 < 1000000000) (hu : 0 ≤ u0 ∧ 0 ≤ u1) :
    let top := u0 * 1000000000 + u1
    0 ≤ top / v1 ∧ 0 ≤ top % v1 ∧ top % v1 < v1 ∧ top / v1 * v1 + top % v1 = top ∧ (top * 1000000000 * P + u2 * P + ul) < (top / v1 + 1) * (v1 * 1000000000 * P + v2 * P + vl) := by
  intro top
  have ht : 0 ≤ top := by show 0 ≤ u0 * 1000000000 + u1; omega
  have e1 : 0 ≤ top / v1 := Int.ediv_nonneg ht (by omega)
  have e2 : 0 ≤ top % v1 := Int.emod_nonneg _ (by omega)
  have e3 : top % v1 < v1 := Int.emod_lt_of_pos _ h1
  have e4 : top / v1 * v1 + top % v1 = top := Int.ediv_mul_add_emod _ _
  refine ⟨e1, e2, e3, e4, ?_⟩
  generalize top / v1 = g at *
  generalize top % v1 = r at *
  clear_value top
  have p1 : (top + 1) * P ≤ ((g + 1) * v1) * P := Int.mul_le_mul_of_nonneg_right (by rw [Int.add_mul]; omega) (by omega)
  have p2 : 0 ≤ (g + 1) * (v2 * P + vl) := Int.mul_nonneg (by omega) (by have := Int.mul_nonneg h2 (Int.le_of_lt hP); omega)
  have p3 : u2 * P ≤ 999999999 * P := Int.mul_le_mul_of_nonneg_right (by omega) (by omega)
  have q1 : (g + 1) * (v1 * 1000000000 * P + v2 * P + vl) = 1000000000 * (((g + 1) * v1) * P) + (g + 1) * (v2 * P + vl) := by grind
  have q2 : top * 1000000000 * P = 1000000000 * (top * P) := by grind
  have q3 : (top + 1) * P = top * P + P := by grind
  rw [q1, q2]
  rw [q3] at p1
  generalize ((g + 1) * v1) * P = a at *
  generalize (g + 1) * (v2 * P + vl) = b at *
  generalize top * P = c at *
  generalize u2 * P = d at *
  omega

theorem kn_more (hP : 0 < P) (hvl : 0 ≤ vl) (hul : ul < P) {g r : Int} (hg : 0 ≤ g) (hgr : g * v1 + r = u0 * 1000000000 + u1)
    (ht : r * 1000000000 + u2 < g * v2) : (u0 * 1000000000 + u1) * 1000000000 * P + u2 * P + ul < g * (v1 * 1000000000 * P + v2 * P + vl) := by
  rw [← hgr]
  have p1 : (r * 1000000000 + u2 + 1) * P ≤ (g * v2) * P := Int.mul_le_mul_of_nonneg_right (by omega) (by omega)
  have p2 : 0 ≤ g * vl := Int.mul_nonneg hg hvl
  have q1 : g * (v1 * 1000000000 * P + v2 * P + vl) = 1000000000 * ((g * v1) * P) + (g * v2) * P + g * vl := by grind
  have q2 : (g * v1 + r) * 1000000000 * P + u2 * P + ul = 1000000000 * ((g * v1) * P) + 1000000000 * (r * P) + u2 * P + ul := by grind
  have q3 : (r * 1000000000 + u2 + 1) * P = 1000000000 * (r * P) + u2 * P + P := by grind
  rw [q1, q2]
  rw [q3] at p1
  generalize (g * v1) * P = a at *
  generalize (g * v2) * P = b at *
  generalize g * vl = c at *
  generalize r * P = d at *
  generalize u2 * P = e at *
  omega

theorem kn_stop (hP : 0 < P) (h1 : 0 < v1) (hv2 : 0 ≤ v2) (hvl : 0 ≤ vl ∧ vl < P) (hul : 0 ≤ ul) {g r : Int} (hg : 0 ≤ g ∧ g < 1000000000) (hgr : g * v1 + r = u0 * 1000000000 + u1)
    (ht : g * v2 ≤ r * 1000000000 + u2) : (g - 1) * (v1 * 1000000000 * P + v2 * P + vl) ≤ (u0 * 1000000000 + u1) * 1000000000 * P + u2 * P + ul := by
  rw [← hgr]
  have p1 : (g * v2) * P ≤ (r * 1000000000 + u2) * P := Int.mul_le_mul_of_nonneg_right ht (by omega)
  have p2 : g * vl ≤ g * P := Int.mul_le_mul_of_nonneg_left (by omega) (by omega)
  have p3 : g * P ≤ 1000000000 * P := Int.mul_le_mul_of_nonneg_right (by omega) (by omega)
  have p4 : 1 * P ≤ v1 * P := Int.mul_le_mul_of_nonneg_right (by omega) (by omega)
  have p5 : 0 ≤ v2 * P := Int.mul_nonneg hv2 (by omega)
  have q1 : (g - 1) * (v1 * 1000000000 * P + v2 * P + vl) = 1000000000 * ((g * v1) * P) + (g * v2) * P + g * vl - 1000000000 * (v1 * P) - v2 * P - vl := by grind
  have q2 : (g * v1 + r) * 1000000000 * P + u2 * P + ul = 1000000000 * ((g * v1) * P) + 1000000000 * (r * P) + u2 * P + ul := by grind
  have q3 : (r * 1000000000 + u2) * P = 1000000000 * (r * P) + u2 * P := by grind
  rw [q1, q2]
  rw [q3] at p1
  generalize (g * v1) * P = a at *
  generalize (g * v2) * P = b at *
  generalize g * vl = c at *
  generalize r * P = d at *
  generalize u2 * P = e at *
  generalize g * P = f at *
  generalize v1 * P = h at *
  generalize v2 * P = i at *
  omega

theorem kn_digit (hP : 0 < P) (h1 : 0 < v1) (hv2 : 0 ≤ v2 ∧ v2 < 1000000000) (hvl : 0 ≤ vl ∧ vl < P) (hul : 0 ≤ ul) (hu2 : 0 ≤ u2)
    (hU : (u0 * 1000000000 + u1) * 1000000000 * P + u2 * P + ul < 1000000000 * (v1 * 1000000000 * P + v2 * P + vl)) {g r : Int} (hgr : g * v1 + r = u0 * 1000000000 + u1) (hr : 1000000000 ≤ r) : g < 1000000000 := by
  have p5 : 0 ≤ u2 * P := Int.mul_nonneg hu2 (by omega)
  have p6 : v2 * P ≤ 999999999 * P := Int.mul_le_mul_of_nonneg_right (by omega) (by omega)
  have q2 : (u0 * 1000000000 + u1) * 1000000000 * P = 1000000000 * ((u0 * 1000000000 + u1) * P) := by grind
  have q3 : v1 * 1000000000 * P = 1000000000 * (v1 * P) := by grind
  rw [q2, q3] at hU
  have k1 : (u0 * 1000000000 + u1) * P < (v1 * 1000000000 + 1000000000) * P := by
    have q4 : (v1 * 1000000000 + 1000000000) * P = 1000000000 * (v1 * P) + 1000000000 * P := by grind
    rw [q4]
    generalize (u0 * 1000000000 + u1) * P = a at *
    generalize v1 * P = b at *
    generalize v2 * P = c at *
    generalize u2 * P = d at *
    omega
  have k2 : u0 * 1000000000 + u1 < v1 * 1000000000 + 1000000000 := Int.lt_of_mul_lt_mul_right k1 (by omega)
  rw [← hgr] at k2
  have k3 : g * v1 < 1000000000 * v1 := by
    generalize g * v1 = a at *
    omega
  exact Int.lt_of_mul_lt_mul_right k3 (by omega)
end

theorem QsV    {u g v c : Int} (hu : 0 ≤ u ∧ u < 1000000000) (hg : 0 ≤ g ∧ g < 1000000000) (hv : 0 ≤ v ∧ v < 1000000000) (hc : 0 ≤ c ∧ c < 1000000000) :
    0 ≤ g * v ∧ g * v ≤ 999999999 * 999999999 ∧ (u - g * v - c < 0 → 0 ≤ -(u - g * v - c) + 1000000000 - 1 ∧ 0 ≤ (-(u - g * v - c) + 1000000000 - 1) / 1000000000 ∧ (-(u - g * v - c) + 1000000000 - 1) / 1000000000 < 1000000000 ∧
      0 ≤ u - g * v - c + (-(u - g * v - c) + 1000000000 - 1) / 1000000000 * 1000000000 ∧ u - g * v - c + (-(u - g * v - c) + 1000000000 - 1) / 1000000000 * 1000000000 < 1000000000) := by
  have h1 : 0 ≤ g * v := Int.mul_nonneg hg.1 hv.1
  have h2 : g * v ≤ 999999999 * v := Int.mul_le_mul_of_nonneg_right (by omega) hv.1
  generalize g * v = p at *
  omega
end Go.AM

/- integer.long: the guess -/
namespace Go.AM
open Go Go.RowKit
theorem kn_wrap {g v : Int} (hg : 0 ≤ g ∧ g < 1000000000) (hv : 0 ≤ v ∧ v < 1000000000) : w64 (g * v) = g * v := by
 obtain ⟨m1, m2, _⟩ := QsV (u := 0) (c := 0) (by omega) hg hv (by omega)
 generalize g * v = x at *
 exact Qad (by omega) (by omega)
theorem kn_small {g v r u : Int} (hg : 0 ≤ g ∧ g < 1000000000) (hv : 0 ≤ v ∧ v < 1000000000) (hr : 1000000000 ≤ r) (hu : 0 ≤ u) : g * v ≤ r * 1000000000 + u := by
 obtain ⟨m1, m2, _⟩ := QsV (u := 0) (c := 0) (by omega) hg hv (by omega)
 generalize g * v = x at *
 omega
theorem kn_pos {g U V : Int} (h : U < g * V) (hU : 0 ≤ U) (hg : 0 ≤ g) : 1 ≤ g := by
 rcases Int.lt_or_le 0 g with h' | h'
 ·exact h'
 ·obtain rfl : g = 0 := Int.le_antisymm h' hg
  rw [Int.zero_mul] at h
  exact absurd (Int.lt_of_le_of_lt hU h) (Int.lt_irrefl 0)
theorem kn_nonneg {P v1 v2 vl : Int} (hP : 0 < P) (h1 : 0 ≤ v1) (h2 : 0 ≤ v2) (hl : 0 ≤ vl) : 0 ≤ v1 * 1000000000 * P + v2 * P + vl := by
 have k1 := Int.mul_nonneg (Int.mul_nonneg h1 (show (0 : Int) ≤ 1000000000 by omega)) (Int.le_of_lt hP)
 have k2 := Int.mul_nonneg h2 (Int.le_of_lt hP)
 generalize v1 * 1000000000 * P = a at *
 generalize v2 * P = b at *
 omega
theorem w_ru {r u : Int} (hr : 0 ≤ r ∧ r < 1000000000) (hu : 0 ≤ u ∧ u < 1000000000) : w64 (r * 1000000000) = r * 1000000000 ∧ w64 (r * 1000000000 + u) = r * 1000000000 + u :=
 ⟨Qad (by omega) (by omega), Qad (by omega) (by omega)⟩
theorem w_dec {g r v : Int} (hg : 1 ≤ g ∧ g < 1000000000000000000) (hr : 0 ≤ r ∧ r < 1000000000) (hv : 0 ≤ v ∧ v < 1000000000) : w64 (g - 1) = g - 1 ∧ w64 (r + v) = r + v :=
 ⟨Qad (by omega) (by omega), Qad (by omega) (by omega)⟩
theorem lg_ix {p L j : Nat} (hj : j + p + 2 < L) (hL : L < 4611686018427387904) : w64 (((p + 2 : Nat) : Int) - 2) = (p : Int) ∧ w64 ((j : Int) + ((p + 2 : Nat) : Int)) = ((j + p + 2 : Nat) : Int) ∧
    w64 (((j + p + 2 : Nat) : Int) - 2) = ((j + p : Nat) : Int) ∧ ((0 : Int) ≤ ((j + p : Nat) : Int) ∧ ((j + p : Nat) : Int) < ((L : Nat) : Int)) ∧ j + p < L := by
  refine ⟨?_, ?_, ?_, by omega, by omega⟩ <;> rw [Qad (by omega) (by omega)] <;> omega
theorem lg_ix2 {p L j : Nat} (hj : j + p + 2 < L) (hL : L < 4611686018427387904) : w64 (((p + 2 : Nat) : Int) - 1) = ((p + 1 : Nat) : Int) := by
 rw [Qad (by omega) (by omega)]; omega
variable [Its]

section
variable (s : Int) (dv : D) (p L M j : Nat) (u q v : List Int)
def Qmg (g r : Int) : St := mkS [(6, ai s), (7, .own [32] L), (8, .d dv), (9, ai ((p + 2 : Nat) : Int)), (10, .own [46] M), (11, ai (j : Int)), (13, ai g), (14, ai r)] [([32], arrI L u), ([46], arrI M q)]
def Qjk (g : Int) : St := mkS [(6, ai s), (7, .own [32] L), (8, .d dv), (9, ai ((p + 2 : Nat) : Int)), (10, .own [46] M), (11, ai (j : Int)), (13, ai g)] [([32], arrI L u), ([46], arrI M q)]

variable (hrv : Rw dv v) (hv : Dig v) (hu : Dig u) (hvl : v.length = p + 2) (hul : u.length = L) (hj : j + p + 2 < L) (hL : L < 4611686018427387904)
include hrv hv hu hvl hul hj hL

theorem lg_stop {g r : Int} (hg : 0 ≤ g ∧ g < 1000000000) (hr : 0 ≤ r ∧ r < 1000000000) (ht : ¬ g * v.getD p 0 > r * 1000000000 + u.getD (j + p) 0) :
    X G QbD (Qmg s dv p L M j u q g r) = some (.x 2, Qjk s dv p L M j u q g) := by
  have e7 : decide (g * v.getD p 0 > r * 1000000000 + u.getD (j + p) 0) = false := decide_eq_false ht
  have e1 : decide (g ≥ 1000000000) = false := ge_f (Int.not_le.2 hg.2)
  have e2 := hrv.ixn (j := p) (hvl ▸ Nat.lt_add_of_pos_right (by decide))
  have e3 := fun hp => ldv hp v (j := p) (hvl ▸ Nat.lt_add_of_pos_right (by decide))
  obtain ⟨e5, e6⟩ := w_ru hr (hu.getD (j + p))
  obtain ⟨i1, i2, i3, i4, i5'⟩ := lg_ix hj hL
  have i5 := Qcu (l := u) (off := j + p) (hul ▸ i5')
  have e4 := kn_wrap hg (hv.getD p)
  simp -implicitDefEqProofs (maxSteps:=9^8) only [QbD, Qmg, Qjk, go_sem, iv, bv, e1, e2, e3, e4, e5, e6, e7, i1, i2, i3, i4, i5, Qam, reduceCtorEq, ↓reduceIte, Nat.reduceEqDiff]

theorem lg_more {g r : Int} (hg : 1 ≤ g ∧ g < 1000000000000000000) (hr : 0 ≤ r ∧ r < 1000000000) (ht : g ≥ 1000000000 ∨ g * v.getD p 0 > r * 1000000000 + u.getD (j + p) 0) :
    X G QbD (Qmg s dv p L M j u q g r) = if r + v.getD (p + 1) 0 ≥ 1000000000 then some (.x 2, Qjk s dv p L M j u q (g - 1)) else some (.n, Qmg s dv p L M j u q (g - 1) (r + v.getD (p + 1) 0)) := by
  obtain ⟨f1, f2⟩ := w_dec hg hr (hv.getD (p + 1))
  have f3 : w64 (((p + 2 : Nat) : Int) - 1) = ((p + 1 : Nat) : Int) := (lg_ix2 hj hL)
  have f4 := hrv.ixn (j := p + 1) (hvl ▸ Nat.lt_succ_self _)
  have f5 := fun hp => ldv hp v (j := p + 1) (hvl ▸ Nat.lt_succ_self _)
  by_cases h1 : g ≥ 1000000000
  · have e1 : decide (g ≥ 1000000000) = true := ge_t h1
    by_cases h2 : r + v.getD (p + 1) 0 ≥ 1000000000
    · have e2 : decide (r + v.getD (p + 1) 0 ≥ 1000000000) = true := ge_t h2
      rw [if_pos h2]
      simp -implicitDefEqProofs (maxSteps:=9^8) only [QbD, Qmg, Qjk, go_sem, iv, bv, e1, e2, f1, f2, f3, f4, f5, Qam, reduceCtorEq, ↓reduceIte, Nat.reduceEqDiff]
    · have e2 : decide (r + v.getD (p + 1) 0 ≥ 1000000000) = false := ge_f h2
      rw [if_neg h2]
      simp -implicitDefEqProofs (maxSteps:=9^8) only [QbD, Qmg, Qjk, go_sem, iv, bv, e1, e2, f1, f2, f3, f4, f5, Qam, reduceCtorEq, ↓reduceIte, Nat.reduceEqDiff]
  · have e7 : decide (g * v.getD p 0 > r * 1000000000 + u.getD (j + p) 0) = true := decide_eq_true (ht.resolve_left h1)
    have e1 : decide (g ≥ 1000000000) = false := ge_f h1
    have e2 := hrv.ixn (j := p) (hvl ▸ Nat.lt_add_of_pos_right (by decide))
    have e3 := fun hp => ldv hp v (j := p) (hvl ▸ Nat.lt_add_of_pos_right (by decide))
    obtain ⟨e5, e6⟩ := w_ru hr (hu.getD (j + p))
    obtain ⟨i1, i2, i3, i4, i5'⟩ := lg_ix hj hL
    have i5 := Qcu (l := u) (off := j + p) (hul ▸ i5')
    have e4 := kn_wrap (g := g) ⟨Int.le_trans (by decide) hg.1, Int.not_le.1 h1⟩ (hv.getD p)
    by_cases h2 : r + v.getD (p + 1) 0 ≥ 1000000000
    · have e8 : decide (r + v.getD (p + 1) 0 ≥ 1000000000) = true := ge_t h2
      rw [if_pos h2]
      simp -implicitDefEqProofs (maxSteps:=9^8) only [QbD, Qmg, Qjk, go_sem, iv, bv, e1, e2, e3, e4, e5, e6, e7, e8, f1, f2, f3, f4, f5, i1, i2, i3, i4, i5, Qam, reduceCtorEq, ↓reduceIte, Nat.reduceEqDiff]
    · have e8 : decide (r + v.getD (p + 1) 0 ≥ 1000000000) = false := ge_f h2
      rw [if_neg h2]
      simp -implicitDefEqProofs (maxSteps:=9^8) only [QbD, Qmg, Qjk, go_sem, iv, bv, e1, e2, e3, e4, e5, e6, e7, e8, f1, f2, f3, f4, f5, i1, i2, i3, i4, i5, Qam, reduceCtorEq, ↓reduceIte, Nat.reduceEqDiff]

theorem lg_loop {P vl ul u0 u1 : Int} (hP : 0 < P) (h1 : 0 < v.getD (p + 1) 0) (hvl' : 0 ≤ vl ∧ vl < P) (hul' : 0 ≤ ul ∧ ul < P)
    (hU : (u0 * 1000000000 + u1) * 1000000000 * P + u.getD (j + p) 0 * P + ul < 1000000000 * (v.getD (p + 1) 0 * 1000000000 * P + v.getD p 0 * P + vl)) (hU0 : 0 ≤ (u0 * 1000000000 + u1) * 1000000000 * P + u.getD (j + p) 0 * P + ul) : ∀ (k : Nat) (g r : Int), 1000000000 ≤ r + k → (0 ≤ g ∧ g < 1000000000000000000) → (0 ≤ r ∧ r < 1000000000) → g * v.getD (p + 1) 0 + r = u0 * 1000000000 + u1 →
    (u0 * 1000000000 + u1) * 1000000000 * P + u.getD (j + p) 0 * P + ul < (g + 1) * (v.getD (p + 1) 0 * 1000000000 * P + v.getD p 0 * P + vl) →
    ∃ g', X G (.loop QbD) (Qmg s dv p L M j u q g r) = some (.x 2, Qjk s dv p L M j u q g') ∧ (0 ≤ g' ∧ g' < 1000000000) ∧
      (u0 * 1000000000 + u1) * 1000000000 * P + u.getD (j + p) 0 * P + ul < (g' + 1) * (v.getD (p + 1) 0 * 1000000000 * P + v.getD p 0 * P + vl) ∧
      (g' - 1) * (v.getD (p + 1) 0 * 1000000000 * P + v.getD p 0 * P + vl) ≤ (u0 * 1000000000 + u1) * 1000000000 * P + u.getD (j + p) 0 * P + ul
  | 0, g, r, hk, hg, hr, hgr, hlt => by
    exfalso
    clear hlt hU hU0 hgr
    omega
  | k + 1, g, r, hk, hg, hr, hgr, hlt => by
    have b1 := hv.getD (p + 1)
    have b2 := hv.getD p
    have b3 := hu.getD (j + p)
    have hnn := kn_nonneg hP b1.1 b2.1 hvl'.1
    have arith : ∀ {g' : Int}, 1 ≤ g → g' = g - 1 → 1000000000 ≤ (r + v.getD (p + 1) 0) + (k : Int) ∧ (0 ≤ g' ∧ g' < 1000000000000000000) ∧ 0 ≤ r + v.getD (p + 1) 0 := by
      intro g' h1 h2
      clear hlt hU hU0 hgr hnn
      omega
    by_cases ht : g ≥ 1000000000 ∨ g * v.getD p 0 > r * 1000000000 + u.getD (j + p) 0
    · -- more than the digit
      have hmore : (u0 * 1000000000 + u1) * 1000000000 * P + u.getD (j + p) 0 * P + ul < g * (v.getD (p + 1) 0 * 1000000000 * P + v.getD p 0 * P + vl) := by
        rcases ht with ht | ht
        · exact Int.lt_of_lt_of_le hU (Int.mul_le_mul_of_nonneg_right ht hnn)
        · exact kn_more hP hvl'.1 hul'.2 hg.1 hgr ht
      have hg1 : 1 ≤ g := kn_pos hmore hU0 hg.1
      have hx := lg_more s dv p L M j u q v hrv hv hu hvl hul hj hL ⟨hg1, hg.2⟩ hr ht
      have hgr' : (g - 1) * v.getD (p + 1) 0 + (r + v.getD (p + 1) 0) = u0 * 1000000000 + u1 := by rw [← hgr, Int.sub_mul, Int.one_mul, ← Int.add_assoc, Int.add_right_comm, Int.sub_add_cancel]
      obtain ⟨a1, a2, a3⟩ := arith hg1 rfl
      have hlt' : (u0 * 1000000000 + u1) * 1000000000 * P + u.getD (j + p) 0 * P + ul < (g - 1 + 1) * (v.getD (p + 1) 0 * 1000000000 * P + v.getD p 0 * P + vl) := by rw [Int.sub_add_cancel]; exact hmore
      by_cases h2 : r + v.getD (p + 1) 0 ≥ 1000000000
      · rw [if_pos h2] at hx
        have hd := kn_digit hP h1 b2 hvl' hul'.1 b3.1 hU hgr' h2
        have hst := kn_stop (u2 := u.getD (j + p) 0) (ul := ul) hP h1 b2.1 hvl' hul'.1 (g := g - 1) ⟨a2.1, hd⟩ hgr' (kn_small ⟨a2.1, hd⟩ b2 h2 b3.1)
        exact ⟨g - 1, by rw [Qag, hx]; rfl, ⟨a2.1, hd⟩, hlt', hst⟩
      · rw [if_neg h2] at hx
        obtain ⟨g', i1, i2⟩ := lg_loop hP h1 hvl' hul' hU hU0 k (g - 1) (r + v.getD (p + 1) 0) a1 a2 ⟨a3, Int.not_le.1 h2⟩ hgr' hlt'
        exact ⟨g', by rw [Qag, hx]; exact i1, i2⟩
    · have hg2 : g < 1000000000 := by
        rcases Int.lt_or_le g 1000000000 with h | h
        · exact h
        · exact absurd (.inl h) ht
      have ht2 : ¬ g * v.getD p 0 > r * 1000000000 + u.getD (j + p) 0 := fun h => ht (.inr h)
      have hx := lg_stop s dv p L M j u q v hrv hv hu hvl hul hj hL ⟨hg.1, hg2⟩ hr ht2
      have hst := kn_stop (u2 := u.getD (j + p) 0) (ul := ul) hP h1 b2.1 hvl' hul'.1 (g := g) ⟨hg.1, hg2⟩ hgr (Int.not_lt.1 ht2)
      exact ⟨g, by rw [Qag, hx]; rfl, ⟨hg.1, hg2⟩, hlt, hst⟩
end
end Go.AM

/- integer.long: the product is taken away; a divisor is added back -/
namespace Go.AM
open Go Go.RowKit

theorem w_neg {w : Int} (h : -1000000000000000000 < w ∧ w < 0) : w64 (0 - w) = 0 - w ∧ w64 (0 - w + 1000000000) = 0 - w + 1000000000 ∧ w64 (0 - w + 1000000000 - 1) = 0 - w + 1000000000 - 1 ∧ 0 ≤ 0 - w + 1000000000 - 1 ∧
    w64 ((0 - w + 1000000000 - 1) / 1000000000) = (0 - w + 1000000000 - 1) / 1000000000 ∧ w64 ((0 - w + 1000000000 - 1) / 1000000000 * 1000000000) = (0 - w + 1000000000 - 1) / 1000000000 * 1000000000 ∧
    w64 (w + (0 - w + 1000000000 - 1) / 1000000000 * 1000000000) = w + (0 - w + 1000000000 - 1) / 1000000000 * 1000000000 ∧
    (0 ≤ w + (0 - w + 1000000000 - 1) / 1000000000 * 1000000000 ∧ w + (0 - w + 1000000000 - 1) / 1000000000 * 1000000000 < 1000000000) ∧ 0 ≤ (0 - w + 1000000000 - 1) / 1000000000 ∧ (-999999999000000000 ≤ w → (0 - w + 1000000000 - 1) / 1000000000 < 1000000000) := by
  refine ⟨Qad (by omega) (by omega), Qad (by omega) (by omega), Qad (by omega) (by omega), by omega, Qad (by omega) (by omega), Qad (by omega) (by omega), Qad (by omega) (by omega), by omega, by omega, by omega⟩
theorem kn_w {u g v c : Int} (hu : 0 ≤ u ∧ u < 1000000000) (hg : 0 ≤ g ∧ g < 1000000000) (hv : 0 ≤ v ∧ v < 1000000000) (hc : 0 ≤ c ∧ c < 1000000000) :
    w64 (g * v) = g * v ∧ w64 (u - g * v) = u - g * v ∧ w64 (u - g * v - c) = u - g * v - c ∧ -999999999000000000 ≤ u - g * v - c ∧ u - g * v - c < 1000000000 := by
  obtain ⟨m1, m2, _⟩ := QsV (u := 0) (c := 0) (by omega) hg hv (by omega)
  generalize g * v = x at *
  exact ⟨Qad (by omega) (by omega), Qad (by omega) (by omega), Qad (by omega) (by omega), by omega, by omega⟩
theorem ls_ix {p L i j : Nat} (hi : i < p + 2) (hj : j + p + 2 < L) (hL : L < 4611686018427387904) : w64 ((i : Int) + (j : Int)) = ((i + j : Nat) : Int) ∧ ((0 : Int) ≤ ((i + j : Nat) : Int) ∧ ((i + j : Nat) : Int) < ((L : Nat) : Int)) ∧ i + j < L ∧
    decide ((i : Int) < ((p + 2 : Nat) : Int)) = true ∧ w64 ((i : Int) + 1) = ((i + 1 : Nat) : Int) := by
  refine ⟨?_, by omega, by omega, lt_t (by omega), ?_⟩ <;> rw [Qad (by omega) (by omega)] <;> omega
theorem Qsy    {u v c : Int} (hu : 0 ≤ u ∧ u < 1000000000) (hv : 0 ≤ v ∧ v < 1000000000) (hc : 0 ≤ c ∧ c ≤ 1) : w64 (u + v) = u + v ∧ w64 (u + v + c) = u + v + c ∧ 0 ≤ u + v + c ∧ w64 ((u + v + c) / 1000000000) = (u + v + c) / 1000000000 ∧
    (0 ≤ (u + v + c) / 1000000000 ∧ (u + v + c) / 1000000000 ≤ 1) ∧ (0 ≤ (u + v + c) % 1000000000 ∧ (u + v + c) % 1000000000 < 1000000000) ∧ (u + v + c) % 1000000000 + 1000000000 * ((u + v + c) / 1000000000) = u + v + c := by
  refine ⟨Qad (by omega) (by omega), Qad (by omega) (by omega), by omega, Qad (by omega) (by omega), by omega, by omega, by omega⟩
variable [Its]

section
variable (s : Int) (dv : D) (p L M j : Nat) (q v : List Int) (g : Int)
def QpS (u : List Int) (c i : Int) : St := mkS [(6, ai s), (7, .own [32] L), (8, .d dv), (9, ai ((p + 2 : Nat) : Int)), (10, .own [46] M), (11, ai (j : Int)), (13, ai g), (15, ai c), (117, ai ((p + 2 : Nat) : Int)), (118, ai i)] [([32], arrI L u), ([46], arrI M q)]
def Qk1 (u : List Int) (c : Int) : St := mkS [(6, ai s), (7, .own [32] L), (8, .d dv), (9, ai ((p + 2 : Nat) : Int)), (10, .own [46] M), (11, ai (j : Int)), (13, ai g), (15, ai c)] [([32], arrI L u), ([46], arrI M q)]
def Qrt (u : List Int) (c i : Int) : St := mkS [(6, ai s), (7, .own [32] L), (8, .d dv), (9, ai ((p + 2 : Nat) : Int)), (10, .own [46] M), (11, ai (j : Int)), (13, ai g), (15, ai c), (172, ai ((p + 2 : Nat) : Int)), (173, ai i)] [([32], arrI L u), ([46], arrI M q)]

theorem ls_stop (u : List Int) (c : Int) : X G QcD (QpS s dv p L M j q g u c ((p + 2 : Nat) : Int)) = some (.x 4, Qk1 s dv p L M j q g u c) := by
 have e1 : decide (((p + 2 : Nat) : Int) < ((p + 2 : Nat) : Int)) = false := lt_f (by omega)
 simp -implicitDefEqProofs (maxSteps:=9^8) only [QcD, QpS, Qk1, go_sem, iv, bv, e1, Qam, reduceCtorEq, ↓reduceIte, Nat.reduceEqDiff]
theorem la_stop (u : List Int) (c : Int) : X G Qc5 (Qrt s dv p L M j q g u c ((p + 2 : Nat) : Int)) = some (.x 6, Qk1 s dv p L M j q g u c) := by
 have e1 : decide (((p + 2 : Nat) : Int) < ((p + 2 : Nat) : Int)) = false := lt_f (by omega)
 simp -implicitDefEqProofs (maxSteps:=9^8) only [Qc5, Qrt, Qk1, go_sem, iv, bv, e1, Qam, reduceCtorEq, ↓reduceIte, Nat.reduceEqDiff]

variable (hrv : Rw dv v) (hv : Dig v) (hvl : v.length = p + 2) (hj : j + p + 2 < L) (hL : L < 4611686018427387904)
include hrv hv hvl hj hL

theorem ls_go (hg : 0 ≤ g ∧ g < 1000000000) {u : List Int} (hu : Dig u) (hul : u.length = L) {c : Int} (hc : 0 ≤ c ∧ c < 1000000000) {i : Nat} (hi : i < p + 2) :
    ∃ d c', (0 ≤ d ∧ d < 1000000000) ∧ (0 ≤ c' ∧ c' < 1000000000) ∧ d = u.getD (i + j) 0 - g * v.getD i 0 - c + 1000000000 * c' ∧ X G QcD (QpS s dv p L M j q g u c (i : Int)) = some (.n, QpS s dv p L M j q g (u.set (i + j) d) c' ((i + 1 : Nat) : Int)) := by
  obtain ⟨e1, e2, e3, e4, e5⟩ := kn_w (hu.getD (i + j)) hg (hv.getD i) hc
  obtain ⟨i1, i2, i3, i4, i5⟩ := ls_ix hi hj hL
  have f1 := Qcu (l := u) (off := i + j) (hul ▸ i3)
  have f2 := fun d => QbK (l := u) (off := i + j) (v := d) (hul ▸ i3)
  have f3 := hrv.ixn (j := i) (hvl ▸ hi)
  have f4 := fun hp => ldv hp v (j := i) (hvl ▸ hi)
  obtain ⟨w, hw⟩ : ∃ w, u.getD (i + j) 0 - g * v.getD i 0 - c = w := ⟨_, rfl⟩
  rw [hw] at e3 e4 e5 ⊢
  by_cases h0 : w < 0
  · obtain ⟨n1, n2, n3, n4, n5, n6, n7, n8, n9, n10⟩ := w_neg (w := w) ⟨by omega, h0⟩
    have n11 := Qed (b := 1000000000) n4
    have e6 : decide (w < 0) = true := lt_t h0
    refine ⟨_, _, n8, ⟨n9, n10 e4⟩, by rw [Int.mul_comm 1000000000], ?_⟩
    simp -implicitDefEqProofs (maxSteps:=9^8) only [QcD, QpS, go_sem, iv, bv, e1, e2, hw, e3, e6, n1, n2, n3, n5, n6, n7, n11, i1, i2, i4, i5, f1, f2, f3, f4, allD, Qam, Qca, Qai, reduceCtorEq, ↓reduceIte, Nat.reduceEqDiff]
  · have e6 : decide (w < 0) = false := lt_f h0
    refine ⟨w, 0, ⟨by omega, by omega⟩, by omega, by omega, ?_⟩
    simp -implicitDefEqProofs (maxSteps:=9^8) only [QcD, QpS, go_sem, iv, bv, e1, e2, hw, e3, e6, i1, i2, i4, i5, f1, f2, f3, f4, allD, Qam, Qca, Qai, reduceCtorEq, ↓reduceIte, Nat.reduceEqDiff]

theorem ls_loop (hg : 0 ≤ g ∧ g < 1000000000) (u0 : List Int) : ∀ (k i : Nat) (u : List Int) (c : Int), i + k = p + 2 → Dig u → u.length = L → (0 ≤ c ∧ c < 1000000000) → (∀ x, j + i ≤ x → u.getD x 0 = u0.getD x 0) → (∀ x, x < j → u.getD x 0 = u0.getD x 0) →
    val u - (1000000000 : Int) ^ (i + j) * c = val u0 - (1000000000 : Int) ^ j * (g * val (v.take i)) →
    ∃ u' c', X G (.loop QcD) (QpS s dv p L M j q g u c (i : Int)) = some (.x 4, Qk1 s dv p L M j q g u' c') ∧ Dig u' ∧ u'.length = L ∧ (0 ≤ c' ∧ c' < 1000000000) ∧ (∀ x, j + p + 2 ≤ x → u'.getD x 0 = u0.getD x 0) ∧ (∀ x, x < j → u'.getD x 0 = u0.getD x 0) ∧
      val u' - (1000000000 : Int) ^ (p + 2 + j) * c' = val u0 - (1000000000 : Int) ^ j * (g * val v)
  | 0, i, u, c, hi, hu, hul, hc, h1, h2, hval => by
    obtain rfl : i = p + 2 := by omega
    refine ⟨u, c, by rw [Qag, ls_stop]; rfl, hu, hul, hc, h1, h2, ?_⟩
    rw [hval, ← hvl, List.take_length]
  | k + 1, i, u, c, hi, hu, hul, hc, h1, h2, hval => by
    obtain ⟨d, c', hd, hc', hdv, hx⟩ := ls_go s dv p L M j q v g hrv hv hvl hj hL hg hu hul hc (i := i) (by omega)
    obtain ⟨u', c2, g1, g2⟩ := ls_loop hg u0 k (i + 1) (u.set (i + j) d) c' (by omega) (hu.set hd) (by simpa using hul) hc' (fun x hx' => by rw [Qbi _ (by omega)]; exact h1 x (by omega)) (fun x hx' => by rw [Qbi _ (by omega)]; exact h2 x hx') (by
      rw [Qfw _ _ _ (by omega), Qar v i, hdv, show i + 1 + j = (i + j) + 1 by omega, Int.pow_succ, Int.pow_add]
      rw [Int.pow_add] at hval
      clear hx hdv hd hc' h1 h2
      grind)
    exact ⟨u', c2, by rw [Qag, hx]; exact g1, g2⟩

theorem la_go {u : List Int} (hul : u.length = L) {c : Int} (hc : 0 ≤ c ∧ c ≤ 1) {i : Nat} (hi : i < p + 2) (hu : 0 ≤ u.getD (i + j) 0 ∧ u.getD (i + j) 0 < 1000000000) :
    X G Qc5 (Qrt s dv p L M j q g u c (i : Int)) = some (.n, Qrt s dv p L M j q g (u.set (i + j) ((u.getD (i + j) 0 + v.getD i 0 + c) % 1000000000)) ((u.getD (i + j) 0 + v.getD i 0 + c) / 1000000000) ((i + 1 : Nat) : Int)) := by
  obtain ⟨e1, e2, e3, e4, e5, e6, _⟩ := Qsy hu (hv.getD i) hc
  obtain ⟨i1, i2, i3, i4, i5⟩ := ls_ix hi hj hL
  have f1 := Qcu (l := u) (off := i + j) (hul ▸ i3)
  have f2 := fun d => QbK (l := u) (off := i + j) (v := d) (hul ▸ i3)
  have f3 := hrv.ixn (j := i) (hvl ▸ hi)
  have f4 := fun hp => ldv hp v (j := i) (hvl ▸ hi)
  have n1 := Qed (b := 1000000000) e3
  have n2 := Qdi (b := 1000000000) e3
  simp -implicitDefEqProofs (maxSteps:=9^8) only [Qc5, Qrt, go_sem, iv, bv, e1, e2, e4, n1, n2, i1, i2, i4, i5, f1, f2, f3, f4, allD, Qam, Qca, Qai, reduceCtorEq, ↓reduceIte, Nat.reduceEqDiff]

theorem la_loop (u0 : List Int) : ∀ (k i : Nat) (u : List Int) (c : Int), i + k = p + 2 → u.length = L → (0 ≤ c ∧ c ≤ 1) → (∀ x, x < j + p + 2 → 0 ≤ u.getD x 0 ∧ u.getD x 0 < 1000000000) → (∀ x, j + p + 2 ≤ x → u.getD x 0 = u0.getD x 0) → (∀ x, x < j → u.getD x 0 = u0.getD x 0) →
    val u + (1000000000 : Int) ^ (i + j) * c = val u0 + (1000000000 : Int) ^ j * val (v.take i) →
    ∃ u' c', X G (.loop Qc5) (Qrt s dv p L M j q g u c (i : Int)) = some (.x 6, Qk1 s dv p L M j q g u' c') ∧ u'.length = L ∧ (0 ≤ c' ∧ c' ≤ 1) ∧ (∀ x, x < j + p + 2 → 0 ≤ u'.getD x 0 ∧ u'.getD x 0 < 1000000000) ∧ (∀ x, j + p + 2 ≤ x → u'.getD x 0 = u0.getD x 0) ∧ (∀ x, x < j → u'.getD x 0 = u0.getD x 0) ∧
      val u' + (1000000000 : Int) ^ (p + 2 + j) * c' = val u0 + (1000000000 : Int) ^ j * val v
  | 0, i, u, c, hi, hul, hc, h1, h2, h3, hval => by
    obtain rfl : i = p + 2 := by omega
    refine ⟨u, c, by rw [Qag, la_stop]; rfl, hul, hc, h1, h2, h3, ?_⟩
    rw [hval, ← hvl, List.take_length]
  | k + 1, i, u, c, hi, hul, hc, h1, h2, h3, hval => by
    have hu := h1 (i + j) (by omega)
    have hx := la_go s dv p L M j q v g hrv hv hvl hj hL hul hc (i := i) (by omega) hu
    obtain ⟨_, _, _, _, e5, e6, e7⟩ := Qsy hu (hv.getD i) hc
    obtain ⟨u', c2, g1, g2⟩ := la_loop u0 k (i + 1) (u.set (i + j) ((u.getD (i + j) 0 + v.getD i 0 + c) % 1000000000)) ((u.getD (i + j) 0 + v.getD i 0 + c) / 1000000000) (by omega) (by simpa using hul) e5 (fun x hx' => by
        by_cases he : i + j = x
        · subst he; rw [QjM _ (by omega)]; exact e6
        · rw [Qbi _ he]; exact h1 x hx') (fun x hx' => by rw [Qbi _ (by omega)]; exact h2 x hx') (fun x hx' => by rw [Qbi _ (by omega)]; exact h3 x hx') (by
      rw [Qfw _ _ _ (by omega), Qar v i, show i + 1 + j = (i + j) + 1 by omega, Int.pow_succ, Int.pow_add]
      rw [Int.pow_add] at hval
      generalize (u.getD (i + j) 0 + v.getD i 0 + c) % 1000000000 = R at *
      generalize (u.getD (i + j) 0 + v.getD i 0 + c) / 1000000000 = Q at *
      clear hx e5 e6 h1 h2
      grind)
    exact ⟨u', c2, by rw [Qag, hx]; exact g1, g2⟩
end
end Go.AM

/- Long division: numbers in digits, cut at a digit. -/
namespace Go.AM
open Go Go.RowKit

theorem Qdu (l : List Int) {j : Nat} (h : j ≤ l.length) : val l = val (l.take j) + (1000000000 : Int) ^ j * val (l.drop j) := by
 have e : l.take j ++ l.drop j = l := List.take_append_drop j l
 have h1 : (l.take j).length = j := by simp; omega
 have h2 := Qgx (l.take j) (l.drop j)
 rw [e, h1] at h2
 exact h2
theorem QfM {l l' : List Int} (hl : l'.length = l.length) : ∀ (n k : Nat), l.length ≤ k + n → (∀ x, k ≤ x → l'.getD x 0 = l.getD x 0) → val (l'.drop k) = val (l.drop k)
 | 0, k, hk, h => by rw [List.drop_eq_nil_of_le (by omega), List.drop_eq_nil_of_le (by omega)]
 | n + 1, k, hk, h => by
  rw [Qa3, Qa3 l, h k (Nat.le_refl _), QfM hl n (k + 1) (by omega) (fun x hx => h x (by omega))]
theorem Qji {l l' : List Int} : ∀ (k : Nat), (∀ x, x < k → l'.getD x 0 = l.getD x 0) → val (l'.take k) = val (l.take k)
 | 0, h => rfl
 | k + 1, h => by
  rw [Qar, Qar l, h k (Nat.lt_succ_self k), Qji k (fun x hx => h x (by omega))]
theorem QlK (l : List Int) {j n : Nat} (h : j + n ≤ l.length) : val (l.drop j) = val ((l.drop j).take n) + (1000000000 : Int) ^ n * (l.getD (j + n) 0 + 1000000000 * val (l.drop (j + n + 1))) := by
 rw [Qdu (l.drop j) (j := n) (by simp; omega), List.drop_drop, Qa3 l (j + n)]
theorem dig_cut {l : List Int} {j n : Nat} (h : ∀ x, j ≤ x → x < j + n → 0 ≤ l.getD x 0 ∧ l.getD x 0 < 1000000000) : Dig ((l.drop j).take n) := by
 intro d hd
 obtain ⟨i, hi, rfl⟩ := List.getElem_of_mem hd
 simp only [List.length_take, List.length_drop] at hi
 have := h (j + i) (by omega) (by omega)
 have e : l.getD (j + i) 0 = ((l.drop j).take n)[i]'(by simp only [List.length_take, List.length_drop]; exact hi) := by
  rw [List.getElem_take, List.getElem_drop, List.getD_eq_getElem?_getD, List.getElem?_eq_getElem (by omega)]
  rfl
 rw [← e]; exact this
theorem QmB {l : List Int} (h : ∀ x, x < l.length → 0 ≤ l.getD x 0 ∧ l.getD x 0 < 1000000000) : Dig l := by
 have := dig_cut (l := l) (j := 0) (n := l.length) fun x _ hx => h x (by omega)
 rw [List.drop_zero, List.take_length] at this
 exact this
theorem QpF {l : List Int} {j n : Nat} (h : ∀ x, j ≤ x → x < j + n → 0 ≤ l.getD x 0 ∧ l.getD x 0 < 1000000000) (hl : j + n ≤ l.length) : 0 ≤ val ((l.drop j).take n) ∧ val ((l.drop j).take n) < (1000000000 : Int) ^ n := by
 have hd := dig_cut h
 have h2 := Qgl hd
 have e : ((l.drop j).take n).length = n := by simp; omega
 rw [e] at h2
 exact ⟨QaJ hd, h2⟩

theorem kn_core {u u' : List Int} {j n : Nat} (hlen : u'.length = u.length) (hj : j + n < u.length) (hlo : ∀ x, x < j → u'.getD x 0 = u.getD x 0) (hhi : ∀ x, j + n < x → u'.getD x 0 = u.getD x 0) (hz : val (u.drop (j + n + 1)) = 0) {T : Int}
    (hval : val u' = val u - (1000000000 : Int) ^ j * T) : val ((u'.drop j).take n) + (1000000000 : Int) ^ n * u'.getD (j + n) 0 = val (u.drop j) - T := by
  have e1 := Qdu u (j := j) (by omega)
  have e2 := Qdu u' (j := j) (by omega)
  have e3 := Qji (l := u) (l' := u') j hlo
  have e4 := QlK u' (j := j) (n := n) (by omega)
  have e5 : val (u'.drop (j + n + 1)) = 0 := by rw [QfM hlen u.length _ (by omega) (fun x hx => hhi x (by omega))]; exact hz
  rw [e5, Int.mul_zero, Int.add_zero] at e4
  rw [e1, e2, e3, e4] at hval
  have hp := QcP j
  have : (1000000000 : Int) ^ j * (val ((u'.drop j).take n) + (1000000000 : Int) ^ n * u'.getD (j + n) 0) = (1000000000 : Int) ^ j * (val (u.drop j) - T) := by
    clear e1 e2 e3 e4 e5
    grind
  exact Int.eq_of_mul_eq_mul_left (Int.ne_of_gt hp) this

theorem kn_zero {low t R V Bn : Int} (hl : 0 ≤ low ∧ low < Bn) (he : low + Bn * t = R) (h0 : 0 ≤ R) (h1 : R < V) (hV : V ≤ Bn) : t = 0 := by
 have hB : 0 < Bn := Int.lt_of_le_of_lt hl.1 hl.2
 rcases Int.lt_trichotomy t 0 with h | h | h
 ·exfalso
  have : Bn * t ≤ Bn * (-1) := Int.mul_le_mul_of_nonneg_left (by omega) (Int.le_of_lt hB)
  generalize Bn * t = x at *
  omega
 ·exact h
 ·exfalso
  have : Bn * 1 ≤ Bn * t := Int.mul_le_mul_of_nonneg_left (by omega) (Int.le_of_lt hB)
  generalize Bn * t = x at *
  omega

theorem kn_lead {u : List Int} {j p : Nat} (hu : Dig u) (hj : j + p + 2 < u.length) (hz : val (u.drop (j + (p + 2) + 1)) = 0) :
    val (u.drop j) = (u.getD (j + p + 2) 0 * 1000000000 + u.getD (j + p + 1) 0) * 1000000000 * (1000000000 : Int) ^ p + u.getD (j + p) 0 * (1000000000 : Int) ^ p + val ((u.drop j).take p) ∧
      0 ≤ val ((u.drop j).take p) ∧ val ((u.drop j).take p) < (1000000000 : Int) ^ p := by
  have e1 := QlK u (j := j) (n := p) (by omega)
  have e2 := Qa3 u (j + p + 1)
  have e3 := Qa3 u (j + p + 1 + 1)
  rw [show j + (p + 2) + 1 = j + p + 1 + 1 + 1 by omega] at hz
  rw [hz, Int.mul_zero, Int.add_zero] at e3
  refine ⟨?_, QpF (fun x _ _ => hu.getD x) (by omega)⟩
  rw [e1, e2, e3]
  show _ = (u.getD (j + p + 1 + 1) 0 * 1000000000 + u.getD (j + p + 1) 0) * 1000000000 * (1000000000 : Int) ^ p + u.getD (j + p) 0 * (1000000000 : Int) ^ p + val ((u.drop j).take p)
  clear e1 e2 e3 hz
  grind
theorem QsF      {v : List Int} {p : Nat} (hv : Dig v) (hl : v.length = p + 2) :
    val v = v.getD (p + 1) 0 * 1000000000 * (1000000000 : Int) ^ p + v.getD p 0 * (1000000000 : Int) ^ p + val (v.take p) ∧ 0 ≤ val (v.take p) ∧ val (v.take p) < (1000000000 : Int) ^ p := by
  have e1 := QlK v (j := 0) (n := p) (by omega)
  have e2 := Qa3 v (p + 1)
  have e3 : v.drop (p + 1 + 1) = [] := List.drop_eq_nil_of_le (by omega)
  have c1 := QpF (l := v) (j := 0) (n := p) (fun x _ _ => hv.getD x) (by omega)
  rw [e3] at e2
  simp only [List.drop_zero, Nat.zero_add] at e1 c1
  rw [e1, e2]
  refine ⟨?_, c1⟩
  simp only [val, Int.mul_zero, Int.add_zero]
  clear e1 e2 e3 c1
  grind
theorem kn_above {u v : List Int} {j n : Nat} (hu : Dig u) (hv : Dig v) (hl : v.length = n) (hj : j + n < u.length) (h : val (u.drop (j + 1)) < val v) : val (u.drop (j + n + 1)) = 0 := by
 have e1 := Qdu (u.drop (j + 1)) (j := n) (by simp; omega)
 rw [List.drop_drop, show j + 1 + n = j + n + 1 by omega] at e1
 have h1 := QaJ ((hu.drop (j + 1)).take n)
 have h2 := QaJ (hu.drop (j + n + 1))
 have h3 := Qgl hv
 rw [hl] at h3
 rcases Int.lt_or_le 0 (val (u.drop (j + n + 1))) with h4 | h4
 ·exfalso
  have : (1000000000 : Int) ^ n * 1 ≤ (1000000000 : Int) ^ n * val (u.drop (j + n + 1)) := Int.mul_le_mul_of_nonneg_left (by omega) (Int.le_of_lt (QcP n))
  generalize (1000000000 : Int) ^ n * val (u.drop (j + n + 1)) = x at *
  omega
 ·omega
end Go.AM

