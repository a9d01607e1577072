/- Part 4 of the proof: a small machine, its soundness against the model, and what the program's functions compute on it. -/
import Derived.Test.YtfdelaplhpmneaaGreatM0
import Derived.Test.YtfdelaplhpmneaaGreatProg
import Derived.KernelRfl
import Derived.Test.YtfdelaplhpmneaaGreatM3
set_option linter.unusedVariables false
set_option linter.unusedSimpArgs false
set_option maxRecDepth 100000
namespace Go.AM
open Go Go.Proofs
@[go_sem] abbrev oo (n : Nat) (i : I) : O := ⟨some n, i, none⟩
@[go_sem] abbrev om (n m : Nat) : O := ⟨some n, .mov (.t m), none⟩
@[go_sem] abbrev ol (n k m : Nat) : O := ⟨some n, .load (some k) (.t m), none⟩
@[go_sem] abbrev og (n g : Nat) (b : Bool) (i : I) : O := ⟨some n, i, some (g, b)⟩
abbrev Qns : Nat := 3
abbrev Qf5 : Nat := 4
abbrev Qnr : Nat := 5
abbrev Qf7 : Nat := 6
abbrev Qmn : Nat := 7
abbrev Qcc : Nat := 8
abbrev QcS : Nat := 9
abbrev QbJ : Nat := 10
abbrev Qaw : Nat := 11
abbrev Qpo : Nat := 12
abbrev QcR : Nat := 13
abbrev QaF : Nat := 14
abbrev QdD : Nat := 15
abbrev QqV : Nat := 16
abbrev Qcl : Nat := 17
abbrev QoH : Nat := 18
abbrev Qbf : Nat := 19
abbrev QfA : Nat := 20
abbrev Qq0 : Nat := 21
abbrev QdE : Nat := 22
abbrev Qrd : Nat := 23
abbrev QdA : Nat := 24
abbrev Qhc : Nat := 25
abbrev Qcn : Nat := 26
abbrev QbY : Nat := 27
abbrev Qeb : Nat := 28
abbrev QdS : Nat := 29
abbrev QeX : Nat := 30
abbrev Qgq : Nat := 31
abbrev Qc3 : Nat := 32
abbrev QgP : Nat := 33
abbrev Qdx : Nat := 34
abbrev Qcy : Nat := 35
abbrev Qpz : Nat := 36
abbrev Qfb : Nat := 37
abbrev Qsv : Nat := 38
abbrev Qsn : Nat := 39
abbrev Qcx : Nat := 40
abbrev QpR : Nat := 41
abbrev QkV : Nat := 42
abbrev Qpb : Nat := 43
abbrev n_sturm_Stays : Nat := 44
abbrev QgW : Nat := 45
abbrev QjC : Nat := 46
abbrev Qc8 : Nat := 47
abbrev QbB : Nat := 48
abbrev Qjv : Nat := 49
abbrev Qe2 : Nat := 50
abbrev QdN : Nat := 51
abbrev QdM : Nat := 52
abbrev Qd0 : Nat := 53
abbrev QdR : Nat := 54
abbrev Qsa : Nat := 55
abbrev Qpk : Nat := 56
abbrev QcA : Nat := 57
abbrev Qcp : Nat := 58
abbrev QaM : Nat := 59
abbrev Qbl : Nat := 60
abbrev Qgo : Nat := 61
abbrev QkU : Nat := 62
abbrev QeJ : Nat := 63
abbrev Qaq : Nat := 64
abbrev QcO : Nat := 65
abbrev Qkq : Nat := 66
abbrev Qe8 : Nat := 67
abbrev QnH : Nat := 68
abbrev QcB : Nat := 69
abbrev Qgm : Nat := 70
abbrev Qf9 : Nat := 71
abbrev Qan : Nat := 72
abbrev Qki : Nat := 73
abbrev QdZ : Nat := 74
abbrev QhZ : Nat := 75
abbrev Qdf : Nat := 76
abbrev Qfy : Nat := 77
abbrev Qea : Nat := 78
abbrev QeD : Nat := 79
abbrev Qds : Nat := 80
abbrev Qfq : Nat := 81
abbrev Qbx : Nat := 82
abbrev Qju : Nat := 83
abbrev Qd5 : Nat := 84
abbrev Qcg : Nat := 85
abbrev QcJ : Nat := 86
abbrev QrL : Nat := 87
abbrev QkO : Nat := 88
abbrev QkG : Nat := 89
abbrev QeE : Nat := 90
abbrev Qpn : Nat := 91
abbrev n_sturm_Stays_1 : Nat := 92
abbrev n_sturm_odd : Nat := 93
abbrev n_sturm_Count : Nat := 94
abbrev n_sturm_middle : Nat := 95
abbrev Qcj : Nat := 96
abbrev Qck : Nat := 97
abbrev Qb0 : Nat := 98
abbrev QcG : Nat := 99
abbrev QfJ : Nat := 100
abbrev QeH : Nat := 101
abbrev Qb4 : Nat := 102
abbrev Qek : Nat := 103
abbrev Qjq : Nat := 104
abbrev QbO : Nat := 105
abbrev Qfk : Nat := 106
abbrev Qgx : Nat := 107
abbrev Qe4 : Nat := 108
abbrev QgY : Nat := 109
abbrev Qfg : Nat := 110
abbrev QeL : Nat := 111
abbrev Qc6 : Nat := 112
abbrev Qd2 : Nat := 113
abbrev Qrk : Nat := 114
abbrev QaR : Nat := 115
abbrev Qa7 : Nat := 116
abbrev Qfw : Nat := 117
abbrev QcI : Nat := 118
abbrev Qde : Nat := 119
abbrev QfD : Nat := 120
abbrev Qam : Nat := 121
abbrev Qe5 : Nat := 122
abbrev Qa5 : Nat := 123
abbrev QcD : Nat := 124
abbrev QbM : Nat := 125
abbrev Qfx : Nat := 126
abbrev Qbc : Nat := 127
abbrev Qdn : Nat := 128
abbrev QcH : Nat := 129
abbrev QdG : Nat := 130
abbrev Qnx : Nat := 131
abbrev QhK : Nat := 132
abbrev QiE : Nat := 133
abbrev QdQ : Nat := 134
abbrev Qbz : Nat := 135
abbrev Qal : Nat := 136
abbrev QsM : Nat := 137
abbrev QeG : Nat := 138
abbrev QcC : Nat := 139
abbrev Qqm : Nat := 140
abbrev Qo9 : Nat := 141
abbrev Qp2 : Nat := 142
abbrev QrP : Nat := 143
abbrev Qo7 : Nat := 144
abbrev Qou : Nat := 145
abbrev Qo8 : Nat := 146
abbrev n_poly_Free : Nat := 147
abbrev n_poly_Div : Nat := 148
abbrev n_poly_Gcd : Nat := 149
abbrev n_poly_Mul : Nat := 150
abbrev n_sturm_counted : Nat := 151
abbrev n_sturm_Chain : Nat := 152
abbrev Qff : Nat := 153
abbrev Qb3 : Nat := 154
abbrev QdT : Nat := 155
abbrev Qg3 : Nat := 156
abbrev Qgr : Nat := 157
abbrev Qgu : Nat := 158
abbrev QdI : Nat := 159
abbrev QbA : Nat := 160
abbrev Qes : Nat := 161
abbrev Qb7 : Nat := 162
abbrev Qbh : Nat := 163
abbrev Qe3 : Nat := 164
abbrev QdY : Nat := 165
abbrev Qew : Nat := 166
abbrev QrI : Nat := 167
abbrev Qr6 : Nat := 168
abbrev QpO : Nat := 169
abbrev Qpa : Nat := 170
abbrev QnX : Nat := 171
abbrev n_poly_Derive : Nat := 172
abbrev n_poly_monic : Nat := 173
abbrev n_poly_made : Nat := 174
abbrev n_poly_Mul_1 : Nat := 175
abbrev n_sturm_Changes : Nat := 176
abbrev n_sturm_next : Nat := 177
abbrev QbL : Nat := 178
abbrev Qdw : Nat := 179
abbrev QeK : Nat := 180
abbrev QgZ : Nat := 181
abbrev n_poly_Derive_1 : Nat := 182
abbrev n_poly_Scale : Nat := 183
abbrev Qex : Nat := 184
abbrev n_poly_Scale_1 : Nat := 185
abbrev Qlm : Nat := 186
abbrev Qhy : Nat := 187
abbrev Qks : Nat := 188
abbrev Qhw : Nat := 189
abbrev Qlr : Nat := 190
abbrev Qiv : Nat := 191
abbrev Qhx : Nat := 192
abbrev Qf4 : Nat := 193
abbrev Qhv : Nat := 194
abbrev Qf6 : Nat := 195
abbrev QjJ : Nat := 196
abbrev Qg2 : Nat := 197
abbrev QlE : Nat := 198
abbrev QeZ : Nat := 199
abbrev Qev : Nat := 200
abbrev Qlq : Nat := 201

def Qa9 : C :=
 .seq (.seq (.seq (.seq (.reg [om 43 12,
 om 44 7,
 oo 45 (.len (.t 44)),
 oo 46 (.bin .lss (.t 43) (.t 45))] []) <|
 .keep [7, 8, 9, 10, 11, 12, 46] [[8], [9], [10], [11]]) <|
 .cond (.t 46) (.skip) <|
 .seq (.keep [] []) <|
 .exit 0) <|
 .seq (.seq (.blk 1 <|
 .seq (.seq (.reg [om 49 7,
 om 50 12,
 oo 51 (.ixa 4 (.t 49) (.t 50)),
 ol 52 4 51,
 oo 13 (.new [.v (.int .i64 0), .v (.int .i64 0), .v (.int .i64 0), .v (.int .i64 0)]),
 ⟨none, .store 4 (.t 13) (.t 52), none⟩] []) <|
 .keep [7, 8, 9, 10, 11, 12, 13] [[8], [9], [10], [11], [13]]) <|
 .seq (.seq (.reg [ol 53 4 13,
 ol 54 8 8,
 ol 55 8 9,
 ol 56 8 10,
 oo 57 (.call Qhc [(.t 53), (.t 54), (.t 55), (.t 56)] false),
 om 14 57] []) <|
 .keep [7, 8, 9, 10, 11, 12, 13, 14] [[8], [9], [10], [11], [13]]) <|
 .seq (.seq (.seq (.reg [ol 58 4 13,
 ol 59 8 8,
 oo 60 (.call QbY [(.t 58), (.t 59)] false),
 ol 61 4 13,
 ol 62 8 8,
 oo 63 (.call Qeb [(.t 61), (.t 62)] false),
 oo 64 (.call Qcn [(.t 60), (.t 63)] false),
 oo 65 (.un .not (.t 64)),
 om 66 65,
 og 67 66 false (.mov (.t 14)),
 og 68 66 false (.load (some 4) (.t 13)),
 og 69 66 false (.load (some 8) (.t 8)),
 og 70 66 false (.load (some 8) (.t 9)),
 og 71 66 false (.load (some 8) (.t 10)),
 og 72 66 false (.call QeX [(.t 68), (.t 69), (.t 70), (.t 71)] false),
 og 73 66 false (.call QdS [(.t 67), (.t 72)] false),
 og 74 66 false (.un .not (.t 73)),
 oo 75 (.pick (.t 66) (.c (.v (.bool true))) (.t 74))] []) <|
 .keep [7, 8, 9, 10, 11, 12, 13, 14, 75] [[8], [9], [10], [11], [13]]) <|
 .cond (.t 75) (.seq (.seq (.reg [oo 6 (.mov (.c (.v (.bool false))))] []) <|
 .keep [6] []) <|
 .ret) <|
 .skip) <|
 .seq (.seq (.reg [ol 76 4 13,
 ol 77 8 8,
 oo 78 (.call QbY [(.t 76), (.t 77)] false),
 ol 79 4 13,
 ol 80 8 9,
 oo 81 (.call Qc3 [(.t 79), (.t 80)] false),
 oo 82 (.call Qgq [(.t 78), (.t 81)] false),
 oo 15 (.new [.v (.bool false), .z true, .v (.bool false), .z true]),
 ⟨none, .store 4 (.t 15) (.t 82), none⟩] []) <|
 .keep [7, 8, 9, 10, 11, 12, 13, 14, 15] [[8], [9], [10], [11], [13], [15]]) <|
 .seq (.seq (.reg [ol 83 4 13,
 ol 84 8 8,
 ol 85 8 9,
 oo 86 (.call Qbf [(.t 84), (.t 85)] false),
 oo 87 (.call QbY [(.t 83), (.t 86)] false),
 ol 88 4 15,
 oo 89 (.call QgP [(.t 87), (.t 88)] false),
 oo 90 (.un .not (.t 89)),
 om 91 90,
 og 92 91 false (.mov (.t 14)),
 og 93 91 false (.build [.v (.bool false), .z true, .v (.bool false), .z true] []),
 og 94 91 false (.call Qdx [(.t 92), (.t 93)] false),
 og 95 91 false (.load (some 4) (.t 13)),
 og 96 91 false (.load (some 8) (.t 8)),
 og 97 91 false (.call QbY [(.t 95), (.t 96)] false),
 og 98 91 false (.call QgP [(.t 94), (.t 97)] false),
 og 99 91 false (.un .not (.t 98)),
 oo 100 (.pick (.t 91) (.c (.v (.bool true))) (.t 99)),
 om 101 100,
 og 102 101 false (.mov (.t 14)),
 og 103 101 false (.call Qcy [(.c (.v (.int .i64 1))), (.c (.v (.int .i64 1)))] false),
 og 104 101 false (.call Qdx [(.t 102), (.t 103)] false),
 og 105 101 false (.load (some 4) (.t 13)),
 og 106 101 false (.load (some 8) (.t 11)),
 og 107 101 false (.call QbY [(.t 105), (.t 106)] false),
 og 108 101 false (.call QgP [(.t 104), (.t 107)] false),
 og 109 101 false (.un .not (.t 108)),
 oo 110 (.pick (.t 101) (.c (.v (.bool true))) (.t 109))] []) <|
 .keep [7, 8, 9, 10, 11, 12, 110] [[8], [9], [10], [11]]) <|
 .cond (.t 110) (.seq (.seq (.reg [oo 6 (.mov (.c (.v (.bool false))))] []) <|
 .keep [6] []) <|
 .ret) <|
 .skip) <|
 .keep [7, 8, 9, 10, 11, 12] [[8], [9], [10], [11]]) <|
 .seq (.reg [om 47 12,
 oo 48 (.bin .add (.t 47) (.c (.v (.int .i64 1)))),
 om 12 48] []) <|
 .keep [7, 8, 9, 10, 11, 12] [[8], [9], [10], [11]]) <|
 .keep [7, 8, 9, 10, 11, 12] [[8], [9], [10], [11]]
def gantrylaw13_GapAlong : CF := ⟨3, .seq (.seq (.reg [oo 6 (.mov (.c (.v (.bool false))))] []) <|
 .keep [0, 1, 2] []) <|
 .seq (.seq (.reg [om 16 0,
 oo 17 (.call Qcc [(.t 16)] false),
 om 18 1,
 oo 19 (.call Qcc [(.t 18)] false),
 oo 20 (.call QcS [(.t 17), (.t 19)] false),
 om 7 20] []) <|
 .keep [2, 7] []) <|
 .seq (.seq (.reg [om 21 2,
 oo 22 (.call Qaw [(.t 21), (.c (.v (.int .i64 0))), (.c (.v (.int .i64 96)))] false),
 om 23 2,
 oo 24 (.call Qaw [(.t 23), (.c (.v (.int .i64 1))), (.c (.v (.int .i64 96)))] false),
 oo 25 (.call QbJ [(.t 22), (.t 24)] false),
 oo 8 (.new [.v (.bool false), .z true, .v (.bool false), .z true, .v (.bool false), .z true, .v (.bool false), .z true]),
 ⟨none, .store 8 (.t 8) (.t 25), none⟩] []) <|
 .keep [2, 7, 8] [[8]]) <|
 .seq (.seq (.reg [om 26 2,
 oo 27 (.call Qaw [(.t 26), (.c (.v (.int .i64 2))), (.c (.v (.int .i64 96)))] false),
 om 28 2,
 oo 29 (.call Qaw [(.t 28), (.c (.v (.int .i64 3))), (.c (.v (.int .i64 96)))] false),
 oo 30 (.call QbJ [(.t 27), (.t 29)] false),
 oo 9 (.new [.v (.bool false), .z true, .v (.bool false), .z true, .v (.bool false), .z true, .v (.bool false), .z true]),
 ⟨none, .store 8 (.t 9) (.t 30), none⟩] []) <|
 .keep [2, 7, 8, 9] [[8], [9]]) <|
 .seq (.seq (.reg [om 31 2,
 oo 32 (.call Qaw [(.t 31), (.c (.v (.int .i64 4))), (.c (.v (.int .i64 96)))] false),
 om 33 2,
 oo 34 (.call Qaw [(.t 33), (.c (.v (.int .i64 5))), (.c (.v (.int .i64 96)))] false),
 oo 35 (.call QbJ [(.t 32), (.t 34)] false),
 oo 10 (.new [.v (.bool false), .z true, .v (.bool false), .z true, .v (.bool false), .z true, .v (.bool false), .z true]),
 ⟨none, .store 8 (.t 10) (.t 35), none⟩] []) <|
 .keep [7, 8, 9, 10] [[8], [9], [10]]) <|
 .seq (.seq (.reg [ol 36 8 8,
 ol 37 8 9,
 oo 38 (.call Qbf [(.t 36), (.t 37)] false),
 oo 39 (.call QaF [(.c (.v (.int .i64 1))), (.c (.v (.int .i64 2)))] false),
 ol 40 8 10,
 oo 41 (.call QcR [(.t 39), (.t 40)] false),
 oo 42 (.call Qbf [(.t 38), (.t 41)] false),
 oo 11 (.new [.v (.bool false), .z true, .v (.bool false), .z true, .v (.bool false), .z true, .v (.bool false), .z true]),
 ⟨none, .store 8 (.t 11) (.t 42), none⟩] []) <|
 .keep [7, 8, 9, 10, 11] [[8], [9], [10], [11]]) <|
 .seq (.seq (.seq (.reg [oo 12 (.mov (.c (.v (.int .i64 0))))] []) <|
 .keep [7, 8, 9, 10, 11, 12] [[8], [9], [10], [11]]) <|
 .seq (.blk 0 <|
 .seq (.keep [7, 8, 9, 10, 11, 12] [[8], [9], [10], [11]]) <|
 .loop Qa9) <|
 .keep [] []) <|
 .seq (.seq (.reg [oo 111 (.call QdA [] false),
 om 6 111] []) <|
 .keep [6] []) <|
 .ret, [.t 6]⟩

def QaC : C :=
 .seq (.seq (.seq (.seq (.reg [om 62 15,
 oo 63 (.bin .leq (.t 62) (.c (.v (.int .i64 4)))),
 om 64 63,
 og 65 64 true (.mov (.t 14)),
 og 66 64 true (.bin .geq (.t 65) (.c (.v (.int .i64 0)))),
 oo 67 (.pick (.t 64) (.t 66) (.c (.v (.bool false))))] []) <|
 .keep [9, 10, 11, 12, 13, 14, 15, 67] [[11], [12], [13]]) <|
 .cond (.t 67) (.skip) <|
 .seq (.keep [9, 10, 11, 12] [[11], [12]]) <|
 .exit 0) <|
 .seq (.seq (.blk 1 <|
 .seq (.seq (.reg [om 70 15,
 oo 71 (.call Qcy [(.t 70), (.c (.v (.int .i64 4)))] false),
 oo 16 (.new [.v (.bool false), .z true, .v (.bool false), .z true]),
 ⟨none, .store 4 (.t 16) (.t 71), none⟩] []) <|
 .keep [9, 10, 11, 12, 13, 14, 15, 16] [[11], [12], [13], [16]]) <|
 .seq (.seq (.reg [ol 72 8 11,
 ol 73 4 16,
 ol 74 8 12,
 oo 75 (.call QcR [(.t 73), (.t 74)] false),
 ol 76 4 16,
 ol 77 4 16,
 oo 78 (.call Qc8 [(.t 76), (.t 77)] false),
 oo 79 (.call Qcy [(.c (.v (.int .i64 1))), (.c (.v (.int .i64 2)))] false),
 oo 80 (.call Qc8 [(.t 78), (.t 79)] false),
 ol 81 8 13,
 oo 82 (.call QcR [(.t 80), (.t 81)] false),
 oo 83 (.call Qbf [(.t 75), (.t 82)] false),
 oo 84 (.call Qbf [(.t 72), (.t 83)] false),
 oo 17 (.new [.v (.bool false), .z true, .v (.bool false), .z true, .v (.bool false), .z true, .v (.bool false), .z true]),
 ⟨none, .store 8 (.t 17) (.t 84), none⟩] []) <|
 .keep [9, 10, 11, 12, 13, 14, 15, 17] [[11], [12], [13], [17]]) <|
 .seq (.seq (.reg [om 85 9,
 ol 86 8 17,
 oo 87 (.call QdE [(.t 85), (.t 86)] false),
 om 88 87,
 og 89 88 false (.mov (.t 9)),
 og 90 88 false (.mov (.t 14)),
 og 91 88 false (.ixa 4 (.t 89) (.t 90)),
 og 92 88 false (.load (some 4) (.t 91)),
 og 93 88 false (.load (some 8) (.t 17)),
 og 94 88 false (.call QbY [(.t 92), (.t 93)] false),
 og 95 88 false (.call QbB [(.t 94)] false),
 og 96 88 false (.bin .lss (.t 95) (.c (.v (.int .i64 0)))),
 oo 97 (.pick (.t 88) (.c (.v (.bool true))) (.t 96))] []) <|
 .keep [9, 10, 11, 12, 13, 14, 15, 97] [[11], [12], [13]]) <|
 .cond (.t 97) (.seq (.seq (.reg [oo 6 (.mov (.c (.v (.bool false))))] []) <|
 .keep [6] []) <|
 .ret) <|
 .skip) <|
 .keep [9, 10, 11, 12, 13, 14, 15] [[11], [12], [13]]) <|
 .seq (.reg [om 68 15,
 oo 69 (.bin .add (.t 68) (.c (.v (.int .i64 1)))),
 om 15 69] []) <|
 .keep [9, 10, 11, 12, 13, 14, 15] [[11], [12], [13]]) <|
 .keep [9, 10, 11, 12, 13, 14, 15] [[11], [12], [13]]
def gantrylaw13_GapKeeps : CF := ⟨3, .seq (.seq (.reg [oo 6 (.mov (.c (.v (.bool false))))] []) <|
 .keep [0, 1, 2] []) <|
 .seq (.seq (.reg [om 19 0,
 oo 20 (.call Qcc [(.t 19)] false),
 om 7 20] []) <|
 .keep [1, 2, 7] []) <|
 .seq (.seq (.reg [om 21 1,
 oo 22 (.call Qcc [(.t 21)] false),
 om 8 22] []) <|
 .keep [2, 7, 8] []) <|
 .seq (.seq (.reg [om 23 7,
 om 24 8,
 oo 25 (.call QgW [(.t 23), (.t 24)] false),
 om 9 25] []) <|
 .keep [2, 7, 8, 9] []) <|
 .seq (.seq (.reg [om 26 7,
 om 27 8,
 oo 28 (.call QjC [(.t 26), (.t 27)] false),
 om 10 28] []) <|
 .keep [2, 9, 10] []) <|
 .seq (.seq (.reg [om 29 2,
 oo 30 (.call Qaw [(.t 29), (.c (.v (.int .i64 0))), (.c (.v (.int .i64 96)))] false),
 om 31 2,
 oo 32 (.call Qaw [(.t 31), (.c (.v (.int .i64 1))), (.c (.v (.int .i64 96)))] false),
 oo 33 (.call QbJ [(.t 30), (.t 32)] false),
 oo 11 (.new [.v (.bool false), .z true, .v (.bool false), .z true, .v (.bool false), .z true, .v (.bool false), .z true]),
 ⟨none, .store 8 (.t 11) (.t 33), none⟩] []) <|
 .keep [2, 9, 10, 11] [[11]]) <|
 .seq (.seq (.reg [om 34 2,
 oo 35 (.call Qaw [(.t 34), (.c (.v (.int .i64 2))), (.c (.v (.int .i64 96)))] false),
 om 36 2,
 oo 37 (.call Qaw [(.t 36), (.c (.v (.int .i64 3))), (.c (.v (.int .i64 96)))] false),
 oo 38 (.call QbJ [(.t 35), (.t 37)] false),
 oo 12 (.new [.v (.bool false), .z true, .v (.bool false), .z true, .v (.bool false), .z true, .v (.bool false), .z true]),
 ⟨none, .store 8 (.t 12) (.t 38), none⟩] []) <|
 .keep [2, 9, 10, 11, 12] [[11], [12]]) <|
 .seq (.seq (.reg [om 39 2,
 oo 40 (.call Qaw [(.t 39), (.c (.v (.int .i64 4))), (.c (.v (.int .i64 96)))] false),
 om 41 2,
 oo 42 (.call Qaw [(.t 41), (.c (.v (.int .i64 5))), (.c (.v (.int .i64 96)))] false),
 oo 43 (.call QbJ [(.t 40), (.t 42)] false),
 oo 13 (.new [.v (.bool false), .z true, .v (.bool false), .z true, .v (.bool false), .z true, .v (.bool false), .z true]),
 ⟨none, .store 8 (.t 13) (.t 43), none⟩] []) <|
 .keep [9, 10, 11, 12, 13] [[11], [12], [13]]) <|
 .seq (.seq (.reg [om 44 9,
 ol 45 8 11,
 ol 46 8 12,
 ol 47 8 13,
 oo 48 (.call QdD [(.t 44), (.t 45), (.t 46), (.t 47)] false),
 om 14 48] []) <|
 .keep [9, 10, 11, 12, 13, 14] [[11], [12], [13]]) <|
 .seq (.seq (.seq (.reg [om 49 14,
 om 50 9,
 oo 51 (.len (.t 50)),
 oo 52 (.bin .geq (.t 49) (.t 51)),
 om 53 52,
 og 54 53 false (.mov (.t 14)),
 og 55 53 false (.bin .lss (.t 54) (.c (.v (.int .i64 (-1))))),
 oo 56 (.pick (.t 53) (.c (.v (.bool true))) (.t 55)),
 om 57 56,
 og 58 57 false (.mov (.t 10)),
 og 59 57 false (.len (.t 58)),
 og 60 57 false (.bin .lss (.t 59) (.c (.v (.int .i64 3)))),
 oo 61 (.pick (.t 57) (.c (.v (.bool true))) (.t 60))] []) <|
 .keep [9, 10, 11, 12, 13, 14, 61] [[11], [12], [13]]) <|
 .cond (.t 61) (.seq (.seq (.reg [oo 6 (.mov (.c (.v (.bool false))))] []) <|
 .keep [6] []) <|
 .ret) <|
 .skip) <|
 .seq (.seq (.seq (.reg [oo 15 (.mov (.c (.v (.int .i64 0))))] []) <|
 .keep [9, 10, 11, 12, 13, 14, 15] [[11], [12], [13]]) <|
 .seq (.blk 0 <|
 .seq (.keep [9, 10, 11, 12, 13, 14, 15] [[11], [12], [13]]) <|
 .loop QaC) <|
 .keep [9, 10, 11, 12] [[11], [12]]) <|
 .seq (.seq (.seq (.reg [om 98 9,
 ol 99 8 11,
 oo 100 (.call QdE [(.t 98), (.t 99)] false),
 om 101 9,
 ol 102 8 11,
 ol 103 8 11,
 ol 104 8 12,
 oo 105 (.call Qbf [(.t 103), (.t 104)] false),
 oo 106 (.call QfA [(.t 101), (.t 102), (.t 105)] false),
 oo 107 (.bin .eql (.t 106) (.c (.v (.int .i64 (-1))))),
 oo 108 (.binb true (.t 100) (.t 107)),
 om 109 108,
 og 110 109 false (.mov (.t 9)),
 og 111 109 false (.load (some 8) (.t 11)),
 og 112 109 false (.call QdE [(.t 110), (.t 111)] false),
 og 113 109 false (.mov (.t 112)),
 og 114 113 true (.mov (.t 10)),
 og 115 113 true (.load (some 8) (.t 11)),
 og 116 113 true (.call Qjv [(.t 114), (.t 115)] false),
 og 117 113 true (.un .not (.t 116)),
 og 118 109 false (.pick (.t 113) (.t 117) (.c (.v (.bool false)))),
 oo 119 (.pick (.t 109) (.c (.v (.bool true))) (.t 118))] []) <|
 .keep [9, 11, 12, 119] [[11], [12]]) <|
 .cond (.t 119) (.seq (.seq (.reg [oo 6 (.mov (.c (.v (.bool false))))] []) <|
 .keep [6] []) <|
 .ret) <|
 .skip) <|
 .seq (.seq (.reg [om 120 9,
 ol 121 8 11,
 ol 122 8 11,
 ol 123 8 12,
 oo 124 (.call Qbf [(.t 122), (.t 123)] false),
 oo 125 (.call QfA [(.t 120), (.t 121), (.t 124)] false),
 om 18 125] []) <|
 .keep [9, 11, 18] [[11]]) <|
 .seq (.seq (.reg [om 126 18,
 oo 127 (.bin .lss (.t 126) (.c (.v (.int .i64 0)))),
 om 128 127,
 og 129 128 false (.mov (.t 18)),
 og 130 128 false (.mov (.t 9)),
 og 131 128 false (.len (.t 130)),
 og 132 128 false (.bin .lss (.t 129) (.t 131)),
 og 133 128 false (.mov (.t 132)),
 og 134 133 true (.mov (.t 9)),
 og 135 133 true (.mov (.t 18)),
 og 136 133 true (.ixa 4 (.t 134) (.t 135)),
 og 137 133 true (.load (some 4) (.t 136)),
 og 138 133 true (.load (some 8) (.t 11)),
 og 139 133 true (.call QbY [(.t 137), (.t 138)] false),
 og 140 133 true (.call QbB [(.t 139)] false),
 og 141 133 true (.bin .geq (.t 140) (.c (.v (.int .i64 0)))),
 og 142 128 false (.pick (.t 133) (.t 141) (.c (.v (.bool false)))),
 oo 143 (.pick (.t 128) (.c (.v (.bool true))) (.t 142)),
 om 144 143,
 og 145 144 true (.call QdA [] false),
 oo 146 (.pick (.t 144) (.t 145) (.c (.v (.bool false)))),
 om 6 146] []) <|
 .keep [6] []) <|
 .ret, [.t 6]⟩

def gantryref12_Shape : CF := ⟨1, .seq (.seq (.reg [oo 2 (.mov (.c (.z true)))] []) <|
 .keep [0] []) <|
 .seq (.seq (.reg [om 6 0,
 oo 7 (.call Qaw [(.t 6), (.c (.v (.int .i64 1))), (.c (.v (.int .i64 3)))] false),
 oo 8 (.bin .add (.c (.v (.int .i64 1))) (.t 7)),
 om 3 8] []) <|
 .keep [0, 3] []) <|
 .seq (.seq (.reg [om 9 0,
 oo 10 (.call Qaw [(.t 9), (.c (.v (.int .i64 2))), (.c (.v (.int .i64 6)))] false),
 oo 11 (.bin .add (.c (.v (.int .i64 1))) (.t 10)),
 om 4 11] []) <|
 .keep [0, 3, 4] []) <|
 .seq (.seq (.reg [oo 5 (.mov (.c (.z true)))] []) <|
 .keep [0, 3, 4] []) <|
 .seq (.seq (.seq (.reg [om 12 0,
 oo 13 (.call Qaw [(.t 12), (.c (.v (.int .i64 0))), (.c (.v (.int .i64 7)))] false)] []) <|
 .keep [0, 3, 4, 13] []) <|
 .seq (.blk 0 <|
 .seq (.seq (.seq (.reg [oo 25 (.bin .eql (.t 13) (.c (.v (.int .i64 0)))),
 om 24 25] []) <|
 .keep [0, 3, 4, 13, 24] []) <|
 .cond (.t 24) (.skip) <|
 .seq (.seq (.reg [oo 26 (.bin .eql (.t 13) (.c (.v (.int .i64 1)))),
 om 24 26] []) <|
 .keep [0, 3, 4, 13, 24] []) <|
 .cond (.t 24) (.skip) <|
 .seq (.reg [oo 27 (.bin .eql (.t 13) (.c (.v (.int .i64 2)))),
 om 24 27] []) <|
 .keep [0, 3, 4, 13, 24] []) <|
 .cond (.t 24) (.seq (.reg [oo 28 (.build [.v (.int .i64 0), .v (.int .i64 0)] []),
 om 29 3,
 oo 30 (.bin .mul (.c (.v (.int .i64 2))) (.t 29)),
 oo 31 (.build [.v (.int .i64 0), .v (.int .i64 0)] [(0, 1, (.t 30))]),
 om 32 3,
 oo 33 (.bin .mul (.c (.v (.int .i64 2))) (.t 32)),
 om 34 4,
 oo 35 (.build [.v (.int .i64 0), .v (.int .i64 0)] [(0, 1, (.t 33)), (1, 1, (.t 34))]),
 om 36 4,
 oo 37 (.build [.v (.int .i64 0), .v (.int .i64 0)] [(1, 1, (.t 36))]),
 oo 38 (.lit 2 4 [.v (.int .i64 0), .v (.int .i64 0)] [(0, (.t 28)), (1, (.t 31)), (2, (.t 35)), (3, (.t 37))] true),
 om 5 38] []) <|
 .keep [0, 5] []) <|
 .seq (.seq (.reg [oo 40 (.bin .eql (.t 13) (.c (.v (.int .i64 3)))),
 om 39 40] []) <|
 .keep [0, 3, 4, 13, 39] []) <|
 .cond (.t 39) (.seq (.reg [oo 41 (.build [.v (.int .i64 0), .v (.int .i64 0)] []),
 om 42 3,
 oo 43 (.bin .mul (.c (.v (.int .i64 4))) (.t 42)),
 oo 44 (.build [.v (.int .i64 0), .v (.int .i64 0)] [(0, 1, (.t 43))]),
 om 45 3,
 oo 46 (.bin .mul (.c (.v (.int .i64 3))) (.t 45)),
 oo 47 (.build [.v (.int .i64 0), .v (.int .i64 0)] [(1, 1, (.t 46))]),
 oo 48 (.lit 2 3 [.v (.int .i64 0), .v (.int .i64 0)] [(0, (.t 41)), (1, (.t 44)), (2, (.t 47))] true),
 om 5 48] []) <|
 .keep [0, 5] []) <|
 .seq (.seq (.reg [oo 50 (.bin .eql (.t 13) (.c (.v (.int .i64 4)))),
 om 49 50] []) <|
 .keep [0, 3, 4, 13, 49] []) <|
 .cond (.t 49) (.seq (.reg [oo 51 (.build [.v (.int .i64 0), .v (.int .i64 0)] []),
 om 52 3,
 oo 53 (.bin .mul (.c (.v (.int .i64 4))) (.t 52)),
 om 54 3,
 oo 55 (.bin .mul (.c (.v (.int .i64 (-3)))) (.t 54)),
 oo 56 (.build [.v (.int .i64 0), .v (.int .i64 0)] [(0, 1, (.t 53)), (1, 1, (.t 55))]),
 om 57 3,
 oo 58 (.bin .mul (.c (.v (.int .i64 8))) (.t 57)),
 oo 59 (.build [.v (.int .i64 0), .v (.int .i64 0)] [(0, 1, (.t 58))]),
 om 60 3,
 oo 61 (.bin .mul (.c (.v (.int .i64 4))) (.t 60)),
 om 62 3,
 oo 63 (.bin .mul (.c (.v (.int .i64 3))) (.t 62)),
 oo 64 (.build [.v (.int .i64 0), .v (.int .i64 0)] [(0, 1, (.t 61)), (1, 1, (.t 63))]),
 oo 65 (.lit 2 4 [.v (.int .i64 0), .v (.int .i64 0)] [(0, (.t 51)), (1, (.t 56)), (2, (.t 59)), (3, (.t 64))] true),
 om 5 65] []) <|
 .keep [0, 5] []) <|
 .seq (.seq (.reg [oo 67 (.bin .eql (.t 13) (.c (.v (.int .i64 5)))),
 om 66 67] []) <|
 .keep [0, 3, 4, 66] []) <|
 .cond (.t 66) (.seq (.reg [oo 68 (.build [.v (.int .i64 0), .v (.int .i64 0)] []),
 om 69 3,
 oo 70 (.bin .mul (.c (.v (.int .i64 8))) (.t 69)),
 oo 71 (.build [.v (.int .i64 0), .v (.int .i64 0)] [(0, 1, (.t 70))]),
 om 72 3,
 oo 73 (.bin .mul (.c (.v (.int .i64 8))) (.t 72)),
 om 74 4,
 oo 75 (.build [.v (.int .i64 0), .v (.int .i64 0)] [(0, 1, (.t 73)), (1, 1, (.t 74))]),
 om 76 3,
 oo 77 (.bin .mul (.c (.v (.int .i64 4))) (.t 76)),
 om 78 4,
 om 79 3,
 oo 80 (.bin .mul (.c (.v (.int .i64 3))) (.t 79)),
 oo 81 (.bin .add (.t 78) (.t 80)),
 oo 82 (.build [.v (.int .i64 0), .v (.int .i64 0)] [(0, 1, (.t 77)), (1, 1, (.t 81))]),
 om 83 4,
 oo 84 (.build [.v (.int .i64 0), .v (.int .i64 0)] [(1, 1, (.t 83))]),
 oo 85 (.lit 2 5 [.v (.int .i64 0), .v (.int .i64 0)] [(0, (.t 68)), (1, (.t 71)), (2, (.t 75)), (3, (.t 82)), (4, (.t 84))] true),
 om 5 85] []) <|
 .keep [0, 5] []) <|
 .seq (.reg [oo 14 (.build [.v (.int .i64 0), .v (.int .i64 0)] []),
 om 15 3,
 oo 16 (.bin .mul (.c (.v (.int .i64 6))) (.t 15)),
 oo 17 (.build [.v (.int .i64 0), .v (.int .i64 0)] [(0, 1, (.t 16))]),
 om 18 3,
 oo 19 (.bin .mul (.c (.v (.int .i64 3))) (.t 18)),
 om 20 3,
 oo 21 (.bin .mul (.c (.v (.int .i64 4))) (.t 20)),
 oo 22 (.build [.v (.int .i64 0), .v (.int .i64 0)] [(0, 1, (.t 19)), (1, 1, (.t 21))]),
 oo 23 (.lit 2 3 [.v (.int .i64 0), .v (.int .i64 0)] [(0, (.t 14)), (1, (.t 17)), (2, (.t 22))] true),
 om 5 23] []) <|
 .keep [0, 5] []) <|
 .keep [0, 5] []) <|
 .seq (.seq (.reg [om 86 5,
 om 87 0,
 oo 88 (.call Qaw [(.t 87), (.c (.v (.int .i64 3))), (.c (.v (.int .i64 5)))] false),
 oo 89 (.bin .sub (.t 88) (.c (.v (.int .i64 2)))),
 om 90 0,
 oo 91 (.call Qaw [(.t 90), (.c (.v (.int .i64 4))), (.c (.v (.int .i64 5)))] false),
 oo 92 (.bin .sub (.t 91) (.c (.v (.int .i64 2)))),
 oo 93 (.call Qe2 [(.t 86), (.t 89), (.t 92)] false),
 om 2 93] []) <|
 .keep [2] []) <|
 .ret, [.t 2]⟩

def QaZ : C :=
 .seq (.seq (.seq (.seq (.reg [om 16 6,
 om 17 0,
 oo 18 (.len (.t 17)),
 oo 19 (.bin .lss (.t 16) (.t 18))] []) <|
 .keep [0, 1, 5, 6, 19] [[36], [58]]) <|
 .cond (.t 19) (.skip) <|
 .seq (.keep [0, 1, 5] [[36], [58]]) <|
 .exit 0) <|
 .seq (.seq (.blk 1 <|
 .seq (.seq (.reg [om 23 0,
 om 24 6,
 oo 25 (.ixa 2 (.t 23) (.t 24)),
 ol 26 2 25,
 om 27 0,
 om 28 6,
 oo 29 (.call QdM [(.t 27), (.t 28)] false),
 oo 30 (.call QdN [(.t 26), (.t 29)] false),
 om 22 30,
 oo 31 (.ext (.t 22) 0),
 oo 32 (.ext (.t 22) 1),
 oo 7 (.new [.v (.int .i64 0), .v (.int .i64 0), .v (.int .i64 0)]),
 ⟨none, .store 3 (.t 7) (.t 31), none⟩,
 om 8 32] []) <|
 .keep [0, 1, 5, 6, 7] [[7], [36], [58]]) <|
 .seq (.reg [om 33 5,
 ol 34 3 7,
 oo 35 (.lit 3 1 [.v (.int .i64 0), .v (.int .i64 0), .v (.int .i64 0)] [(0, (.t 34))] true),
 oo 36 (.app 3 24 (.t 33) (.t 35) false),
 om 5 36] []) <|
 .keep [0, 1, 5, 6] [[36], [58]]) <|
 .keep [0, 1, 5, 6] [[36], [58]]) <|
 .seq (.reg [om 20 6,
 oo 21 (.bin .add (.t 20) (.c (.v (.int .i64 1)))),
 om 6 21] []) <|
 .keep [0, 1, 5, 6] [[36], [58]]) <|
 .keep [0, 1, 5, 6] [[36], [58]]
def QbC : C :=
 .seq (.seq (.seq (.seq (.reg [om 37 9,
 om 38 1,
 oo 39 (.len (.t 38)),
 oo 40 (.bin .lss (.t 37) (.t 39))] []) <|
 .keep [0, 1, 5, 9, 40] [[36], [58]]) <|
 .cond (.t 40) (.skip) <|
 .seq (.keep [0, 1, 5] [[36], [58]]) <|
 .exit 2) <|
 .seq (.seq (.blk 3 <|
 .seq (.seq (.reg [om 44 1,
 om 45 9,
 oo 46 (.ixa 2 (.t 44) (.t 45)),
 ol 47 2 46,
 om 48 1,
 om 49 9,
 oo 50 (.call QdM [(.t 48), (.t 49)] false),
 oo 51 (.call QdN [(.t 47), (.t 50)] false),
 om 43 51,
 oo 52 (.ext (.t 43) 0),
 oo 53 (.ext (.t 43) 1),
 oo 10 (.new [.v (.int .i64 0), .v (.int .i64 0), .v (.int .i64 0)]),
 ⟨none, .store 3 (.t 10) (.t 52), none⟩,
 om 11 53] []) <|
 .keep [0, 1, 5, 9, 10] [[10], [36], [58]]) <|
 .seq (.reg [om 54 5,
 ol 55 3 10,
 oo 56 (.call Qd0 [(.t 55)] false),
 oo 57 (.lit 3 1 [.v (.int .i64 0), .v (.int .i64 0), .v (.int .i64 0)] [(0, (.t 56))] true),
 oo 58 (.app 3 24 (.t 54) (.t 57) false),
 om 5 58] []) <|
 .keep [0, 1, 5, 9] [[36], [58]]) <|
 .keep [0, 1, 5, 9] [[36], [58]]) <|
 .seq (.reg [om 41 9,
 oo 42 (.bin .add (.t 41) (.c (.v (.int .i64 1)))),
 om 9 42] []) <|
 .keep [0, 1, 5, 9] [[36], [58]]) <|
 .keep [0, 1, 5, 9] [[36], [58]]
def Qa0 : C :=
 .seq (.seq (.seq (.seq (.reg [om 65 15,
 om 66 13,
 oo 67 (.bin .lss (.t 65) (.t 66))] []) <|
 .keep [0, 1, 5, 12, 13, 14, 15, 67] [[36], [58], [104]]) <|
 .cond (.t 67) (.skip) <|
 .seq (.keep [0, 1, 5, 12, 13, 14] [[36], [58], [104]]) <|
 .exit 6) <|
 .seq (.seq (.blk 7 <|
 .seq (.reg [om 70 14,
 om 71 70,
 og 72 71 true (.mov (.t 5)),
 og 73 71 true (.mov (.t 15)),
 og 74 71 true (.ixa 3 (.t 72) (.t 73)),
 og 75 71 true (.load (some 3) (.t 74)),
 og 76 71 true (.mov (.t 5)),
 og 77 71 true (.mov (.t 13)),
 og 78 71 true (.ixa 3 (.t 76) (.t 77)),
 og 79 71 true (.load (some 3) (.t 78)),
 og 80 71 true (.eqs 3 true (.t 75) (.t 79)),
 oo 81 (.pick (.t 71) (.t 80) (.c (.v (.bool false)))),
 om 14 81] []) <|
 .keep [0, 1, 5, 12, 13, 14, 15] [[36], [58], [104]]) <|
 .keep [0, 1, 5, 12, 13, 14, 15] [[36], [58], [104]]) <|
 .seq (.reg [om 68 15,
 oo 69 (.bin .add (.t 68) (.c (.v (.int .i64 1)))),
 om 15 69] []) <|
 .keep [0, 1, 5, 12, 13, 14, 15] [[36], [58], [104]]) <|
 .keep [0, 1, 5, 12, 13, 14, 15] [[36], [58], [104]]
def QaJ : C :=
 .seq (.seq (.seq (.seq (.reg [om 59 13,
 om 60 5,
 oo 61 (.len (.t 60)),
 oo 62 (.bin .lss (.t 59) (.t 61))] []) <|
 .keep [0, 1, 5, 12, 13, 62] [[36], [58], [104]]) <|
 .cond (.t 62) (.skip) <|
 .seq (.keep [12] [[104]]) <|
 .exit 4) <|
 .seq (.seq (.blk 5 <|
 .seq (.seq (.reg [oo 14 (.mov (.c (.v (.bool true))))] []) <|
 .keep [0, 1, 5, 12, 13, 14] [[36], [58], [104]]) <|
 .seq (.seq (.seq (.reg [oo 15 (.mov (.c (.v (.int .i64 0))))] []) <|
 .keep [0, 1, 5, 12, 13, 14, 15] [[36], [58], [104]]) <|
 .seq (.blk 6 <|
 .seq (.keep [0, 1, 5, 12, 13, 14, 15] [[36], [58], [104]]) <|
 .loop Qa0) <|
 .keep [0, 1, 5, 12, 13, 14] [[36], [58], [104]]) <|
 .seq (.seq (.reg [om 82 14] []) <|
 .keep [0, 1, 5, 12, 13, 82] [[36], [58], [104]]) <|
 .cond (.t 82) (.seq (.reg [om 83 12,
 om 84 5,
 om 85 13,
 oo 86 (.ixa 3 (.t 84) (.t 85)),
 ol 87 3 86,
 om 88 0,
 om 89 5,
 om 90 13,
 oo 91 (.ixa 3 (.t 89) (.t 90)),
 ol 92 3 91,
 oo 93 (.call QdR [(.t 88), (.t 92)] false),
 om 94 1,
 om 95 5,
 om 96 13,
 oo 97 (.ixa 3 (.t 95) (.t 96)),
 ol 98 3 97,
 oo 99 (.call Qd0 [(.t 98)] false),
 oo 100 (.call QdR [(.t 94), (.t 99)] false),
 oo 101 (.bin .add (.t 93) (.t 100)),
 oo 102 (.build [.v (.int .i64 0), .v (.int .i64 0), .v (.int .i64 0), .v (.int .i64 0)] [(0, 3, (.t 87)), (3, 1, (.t 101))]),
 oo 103 (.lit 4 1 [.v (.int .i64 0), .v (.int .i64 0), .v (.int .i64 0), .v (.int .i64 0)] [(0, (.t 102))] true),
 oo 104 (.app 4 32 (.t 83) (.t 103) false),
 om 12 104] []) <|
 .keep [0, 1, 5, 12, 13] [[36], [58], [104]]) <|
 .skip) <|
 .keep [0, 1, 5, 12, 13] [[36], [58], [104]]) <|
 .seq (.reg [om 63 13,
 oo 64 (.bin .add (.t 63) (.c (.v (.int .i64 1)))),
 om 13 64] []) <|
 .keep [0, 1, 5, 12, 13] [[36], [58], [104]]) <|
 .keep [0, 1, 5, 12, 13] [[36], [58], [104]]
def gantryref12_Sides : CF := ⟨2, .seq (.seq (.reg [oo 4 (.mov (.c (.z true)))] []) <|
 .keep [0, 1] []) <|
 .seq (.seq (.reg [oo 5 (.mov (.c (.z true)))] []) <|
 .keep [0, 1, 5] [[36], [58]]) <|
 .seq (.seq (.seq (.reg [oo 6 (.mov (.c (.v (.int .i64 0))))] []) <|
 .keep [0, 1, 5, 6] [[36], [58]]) <|
 .seq (.blk 0 <|
 .seq (.keep [0, 1, 5, 6] [[36], [58]]) <|
 .loop QaZ) <|
 .keep [0, 1, 5] [[36], [58]]) <|
 .seq (.seq (.seq (.reg [oo 9 (.mov (.c (.v (.int .i64 0))))] []) <|
 .keep [0, 1, 5, 9] [[36], [58]]) <|
 .seq (.blk 2 <|
 .seq (.keep [0, 1, 5, 9] [[36], [58]]) <|
 .loop QbC) <|
 .keep [0, 1, 5] [[36], [58]]) <|
 .seq (.seq (.reg [oo 12 (.mov (.c (.z true)))] []) <|
 .keep [0, 1, 5, 12] [[36], [58], [104]]) <|
 .seq (.seq (.seq (.reg [oo 13 (.mov (.c (.v (.int .i64 0))))] []) <|
 .keep [0, 1, 5, 12, 13] [[36], [58], [104]]) <|
 .seq (.blk 4 <|
 .seq (.keep [0, 1, 5, 12, 13] [[36], [58], [104]]) <|
 .loop QaJ) <|
 .keep [12] [[104]]) <|
 .seq (.seq (.reg [om 105 12,
 om 4 105] []) <|
 .keep [4] [[104]]) <|
 .ret, [.t 4]⟩

def gantryref12_Vec : CF := ⟨2, .seq (.seq (.reg [oo 4 (.new [.v (.bool false), .z true, .v (.bool false), .z true, .v (.bool false), .z true, .v (.bool false), .z true])] []) <|
 .keep [0, 1, 4] [[4]]) <|
 .seq (.seq (.reg [om 7 0,
 oo 8 (.call Qcx [(.t 7), (.c (.v (.int .i64 96)))] false),
 om 5 8] []) <|
 .keep [1, 4, 5] [[4]]) <|
 .seq (.seq (.reg [om 9 1,
 oo 10 (.call Qcx [(.t 9), (.c (.v (.int .i64 96)))] false),
 om 6 10] []) <|
 .keep [4, 5, 6] [[4]]) <|
 .seq (.seq (.reg [om 11 5,
 oo 12 (.bin .rem (.t 11) (.c (.v (.int .i64 24)))),
 oo 13 (.bin .mul (.t 12) (.c (.v (.int .i64 2)))),
 oo 14 (.bin .sub (.t 13) (.c (.v (.int .i64 24)))),
 om 15 5,
 oo 16 (.bin .quo (.t 15) (.c (.v (.int .i64 72)))),
 oo 17 (.bin .add (.t 14) (.t 16)),
 om 18 5,
 oo 19 (.bin .quo (.t 18) (.c (.v (.int .i64 48)))),
 oo 20 (.bin .rem (.t 19) (.c (.v (.int .i64 2)))),
 oo 21 (.bin .add (.c (.v (.int .i64 2))) (.t 20)),
 oo 22 (.call QaF [(.t 17), (.t 21)] false),
 om 23 6,
 oo 24 (.bin .rem (.t 23) (.c (.v (.int .i64 24)))),
 oo 25 (.bin .mul (.t 24) (.c (.v (.int .i64 2)))),
 oo 26 (.bin .sub (.t 25) (.c (.v (.int .i64 24)))),
 om 27 6,
 oo 28 (.bin .quo (.t 27) (.c (.v (.int .i64 72)))),
 oo 29 (.bin .add (.t 26) (.t 28)),
 om 30 6,
 oo 31 (.bin .quo (.t 30) (.c (.v (.int .i64 48)))),
 oo 32 (.bin .rem (.t 31) (.c (.v (.int .i64 2)))),
 oo 33 (.bin .add (.c (.v (.int .i64 2))) (.t 32)),
 oo 34 (.call QaF [(.t 29), (.t 33)] false),
 oo 35 (.build [.v (.bool false), .z true, .v (.bool false), .z true, .v (.bool false), .z true, .v (.bool false), .z true] [(0, 4, (.t 22)), (4, 4, (.t 34))]),
 ⟨none, .store 8 (.t 4) (.t 35), none⟩] []) <|
 .keep [4] [[4]]) <|
 .ret, [.cell 4 (some 8)]⟩

def gantryref01_At : CF := ⟨3, .seq (.seq (.reg [oo 6 (.mov (.c (.v (.int .i64 0))))] []) <|
 .keep [0, 1, 2] []) <|
 .seq (.seq (.seq (.reg [om 7 1,
 oo 8 (.bin .lss (.t 7) (.c (.v (.int .i64 0)))),
 om 9 8,
 og 10 9 false (.mov (.t 1)),
 og 11 9 false (.mov (.t 0)),
 og 12 9 false (.len (.t 11)),
 og 13 9 false (.bin .geq (.t 10) (.t 12)),
 oo 14 (.pick (.t 9) (.c (.v (.bool true))) (.t 13))] []) <|
 .keep [0, 1, 2, 14] []) <|
 .cond (.t 14) (.seq (.seq (.reg [oo 6 (.mov (.c (.v (.int .i64 0))))] []) <|
 .keep [6] []) <|
 .ret) <|
 .skip) <|
 .seq (.seq (.reg [om 15 0,
 om 16 1,
 oo 17 (.ixa 1 (.t 15) (.t 16)),
 oo 18 (.load none (.t 17)),
 om 19 2,
 oo 20 (.call Qcx [(.t 18), (.t 19)] false),
 om 6 20] []) <|
 .keep [6] []) <|
 .ret, [.t 6]⟩

def gantryref13_Times : CF := ⟨2, .seq (.seq (.reg [oo 2 (.box (.t 0)),
 oo 3 (.box (.t 1)),
 oo 4 (.new [.v (.bool false), .z true, .v (.bool false), .z true, .v (.bool false), .z true, .v (.bool false), .z true])] []) <|
 .keep [2, 3, 4] [[2], [3], [4]]) <|
 .seq (.seq (.reg [ol 5 4 2,
 oo 6 (.fad 0 (.t 3)),
 ol 7 4 6,
 oo 8 (.call QcA [(.t 5), (.t 7)] false),
 ol 9 4 2,
 oo 10 (.fad 4 (.t 3)),
 ol 11 4 10,
 oo 12 (.call QcA [(.t 9), (.t 11)] false),
 oo 13 (.build [.v (.bool false), .z true, .v (.bool false), .z true, .v (.bool false), .z true, .v (.bool false), .z true] [(0, 4, (.t 8)), (4, 4, (.t 12))]),
 ⟨none, .store 8 (.t 4) (.t 13), none⟩] []) <|
 .keep [4] [[4]]) <|
 .ret, [.cell 4 (some 8)]⟩

def gantryref05_Of : CF := ⟨2, .seq (.seq (.reg [oo 4 (.new [.v (.bool false), .z true, .v (.bool false), .z true])] []) <|
 .keep [0, 1, 4] [[4]]) <|
 .seq (.seq (.reg [om 5 0,
 oo 6 (.call QaM [(.t 5)] false),
 om 7 1,
 oo 8 (.call QaM [(.t 7)] false),
 oo 9 (.call Qcp [(.t 6), (.t 8)] false),
 ⟨none, .store 4 (.t 4) (.t 9), none⟩] []) <|
 .keep [4] [[4]]) <|
 .ret, [.cell 4 (some 4)]⟩

def gap_Free : CF := ⟨4, .seq (.seq (.reg [oo 5 (.box (.t 1)),
 oo 6 (.box (.t 2)),
 oo 7 (.box (.t 3)),
 oo 8 (.mov (.c (.v (.int .i64 0))))] []) <|
 .keep [0, 5, 6, 7] [[5], [6], [7]]) <|
 .seq (.seq (.reg [om 9 0,
 oo 10 (.mkfn Qgo [(.t 5), (.t 6), (.t 7)] true),
 oo 11 (.call Qbl [(.t 9), (.t 10)] false),
 om 8 11] []) <|
 .keep [8] []) <|
 .ret, [.t 8]⟩

def gap_Contact : CF := ⟨3, .seq (.seq (.reg [oo 4 (.box (.t 1)),
 oo 5 (.box (.t 2)),
 oo 6 (.mov (.c (.v (.int .i64 0))))] []) <|
 .keep [0, 4, 5] [[4], [5]]) <|
 .seq (.seq (.reg [oo 8 (.mkfn QkU [(.t 4), (.t 5)] true),
 om 7 8] []) <|
 .keep [0, 4, 5, 7] [[4], [5]]) <|
 .seq (.seq (.seq (.reg [om 9 0,
 om 10 7,
 oo 11 (.call Qaq [(.t 9), (.t 10)] false)] []) <|
 .keep [0, 4, 5, 11] [[4], [5]]) <|
 .cond (.t 11) (.seq (.seq (.reg [oo 6 (.mov (.c (.v (.int .i64 (-1)))))] []) <|
 .keep [6] []) <|
 .ret) <|
 .skip) <|
 .seq (.seq (.reg [om 12 0,
 oo 13 (.mkfn Qkq [(.t 5), (.t 4)] true),
 oo 14 (.call QcO [(.t 12), (.t 13)] false),
 om 6 14] []) <|
 .keep [6] []) <|
 .ret, [.t 6]⟩

def gantryref13_Plus : CF := ⟨2, .seq (.seq (.reg [oo 2 (.box (.t 0)),
 oo 3 (.box (.t 1)),
 oo 4 (.new [.v (.bool false), .z true, .v (.bool false), .z true, .v (.bool false), .z true, .v (.bool false), .z true])] []) <|
 .keep [2, 3, 4] [[2], [3], [4]]) <|
 .seq (.seq (.reg [oo 5 (.fad 0 (.t 2)),
 ol 6 4 5,
 oo 7 (.fad 0 (.t 3)),
 ol 8 4 7,
 oo 9 (.call QcB [(.t 6), (.t 8)] false),
 oo 10 (.fad 4 (.t 2)),
 ol 11 4 10,
 oo 12 (.fad 4 (.t 3)),
 ol 13 4 12,
 oo 14 (.call QcB [(.t 11), (.t 13)] false),
 oo 15 (.build [.v (.bool false), .z true, .v (.bool false), .z true, .v (.bool false), .z true, .v (.bool false), .z true] [(0, 4, (.t 9)), (4, 4, (.t 14))]),
 ⟨none, .store 8 (.t 4) (.t 15), none⟩] []) <|
 .keep [4] [[4]]) <|
 .ret, [.cell 4 (some 8)]⟩

def gap_Best : CF := ⟨3, .seq (.seq (.reg [oo 4 (.box (.t 1)),
 oo 5 (.box (.t 2)),
 oo 6 (.mov (.c (.v (.int .i64 0))))] []) <|
 .keep [0, 4, 5] [[4], [5]]) <|
 .seq (.seq (.reg [om 7 0,
 oo 8 (.mkfn Qgm [(.t 5), (.t 4)] true),
 oo 9 (.call QcO [(.t 7), (.t 8)] false),
 om 6 9] []) <|
 .keep [6] []) <|
 .ret, [.t 6]⟩

def gap_Meet : CF := ⟨2, .seq (.seq (.reg [oo 3 (.box (.t 1)),
 oo 4 (.mov (.c (.v (.bool false))))] []) <|
 .keep [0, 3] [[3]]) <|
 .seq (.seq (.reg [om 5 0,
 oo 6 (.mkfn Qf9 [(.t 3)] true),
 oo 7 (.call Qaq [(.t 5), (.t 6)] false),
 oo 8 (.un .not (.t 7)),
 om 4 8] []) <|
 .keep [4] []) <|
 .ret, [.t 4]⟩

def gantrylaw13_lives : CF := ⟨0, .seq (.seq (.reg [oo 0 (.mov (.c (.v (.bool false))))] []) <|
 .keep [] []) <|
 .seq (.seq (.reg [oo 7 (.build [.v (.int .i64 0), .v (.int .i64 0)] []),
 oo 8 (.build [.v (.int .i64 0), .v (.int .i64 0)] [(0, 1, (.c (.v (.int .i64 2))))]),
 oo 9 (.build [.v (.int .i64 0), .v (.int .i64 0)] [(0, 1, (.c (.v (.int .i64 2)))), (1, 1, (.c (.v (.int .i64 2))))]),
 oo 10 (.build [.v (.int .i64 0), .v (.int .i64 0)] [(1, 1, (.c (.v (.int .i64 2))))]),
 oo 11 (.lit 2 4 [.v (.int .i64 0), .v (.int .i64 0)] [(0, (.t 7)), (1, (.t 8)), (2, (.t 9)), (3, (.t 10))] true),
 om 1 11] []) <|
 .keep [1] []) <|
 .seq (.seq (.reg [om 12 1,
 om 13 1,
 oo 14 (.call QcS [(.t 12), (.t 13)] false),
 om 2 14] []) <|
 .keep [2] []) <|
 .seq (.seq (.reg [oo 15 (.call Qan [(.c (.v (.int .i64 0))), (.c (.v (.int .i64 0)))] false),
 oo 3 (.new [.v (.bool false), .z true, .v (.bool false), .z true, .v (.bool false), .z true, .v (.bool false), .z true]),
 ⟨none, .store 8 (.t 3) (.t 15), none⟩] []) <|
 .keep [2, 3] [[3]]) <|
 .seq (.seq (.reg [om 16 2,
 oo 17 (.ixa 4 (.t 16) (.c (.v (.int .i64 2)))),
 ol 18 4 17,
 oo 19 (.call Qan [(.c (.v (.int .i64 1))), (.c (.v (.int .i64 5)))] false),
 oo 20 (.call QbY [(.t 18), (.t 19)] false),
 oo 21 (.call QaF [(.c (.v (.int .i64 3))), (.c (.v (.int .i64 1)))] false),
 oo 22 (.call Qcn [(.t 20), (.t 21)] false),
 om 23 22,
 og 24 23 true (.mov (.t 2)),
 og 25 23 true (.call Qan [(.c (.v (.int .i64 1))), (.c (.v (.int .i64 1)))] false),
 og 26 23 true (.call QdE [(.t 24), (.t 25)] false),
 oo 27 (.pick (.t 23) (.t 26) (.c (.v (.bool false)))),
 om 28 27,
 og 29 28 true (.mov (.t 2)),
 og 30 28 true (.call Qan [(.c (.v (.int .i64 2))), (.c (.v (.int .i64 0)))] false),
 og 31 28 true (.call QdE [(.t 29), (.t 30)] false),
 og 32 28 true (.un .not (.t 31)),
 oo 33 (.pick (.t 28) (.t 32) (.c (.v (.bool false)))),
 om 4 33] []) <|
 .keep [2, 3, 4] [[3]]) <|
 .seq (.seq (.reg [om 34 2,
 oo 35 (.call Qan [(.c (.v (.int .i64 0))), (.c (.v (.int .i64 3)))] false),
 oo 36 (.call Qan [(.c (.v (.int .i64 0))), (.c (.v (.int .i64 (-2))))] false),
 ol 37 8 3,
 oo 38 (.call QdD [(.t 34), (.t 35), (.t 36), (.t 37)] false),
 oo 39 (.bin .eql (.t 38) (.c (.v (.int .i64 (-1))))),
 om 40 39,
 og 41 40 true (.mov (.t 2)),
 og 42 40 true (.call Qan [(.c (.v (.int .i64 0))), (.c (.v (.int .i64 3)))] false),
 og 43 40 true (.call Qan [(.c (.v (.int .i64 5))), (.c (.v (.int .i64 (-2))))] false),
 og 44 40 true (.load (some 8) (.t 3)),
 og 45 40 true (.call QdD [(.t 41), (.t 42), (.t 43), (.t 44)] false),
 og 46 40 true (.bin .eql (.t 45) (.c (.v (.int .i64 (-1))))),
 oo 47 (.pick (.t 40) (.t 46) (.c (.v (.bool false)))),
 om 48 47,
 og 49 48 true (.mov (.t 2)),
 og 50 48 true (.call Qan [(.c (.v (.int .i64 0))), (.c (.v (.int .i64 3)))] false),
 og 51 48 true (.call Qan [(.c (.v (.int .i64 5))), (.c (.v (.int .i64 1)))] false),
 og 52 48 true (.call QfA [(.t 49), (.t 50), (.t 51)] false),
 og 53 48 true (.bin .eql (.t 52) (.c (.v (.int .i64 2)))),
 oo 54 (.pick (.t 48) (.t 53) (.c (.v (.bool false)))),
 om 5 54] []) <|
 .keep [2, 3, 4, 5] [[3]]) <|
 .seq (.seq (.reg [om 55 2,
 oo 56 (.call Qan [(.c (.v (.int .i64 1))), (.c (.v (.int .i64 2)))] false),
 oo 57 (.call Qan [(.c (.v (.int .i64 1))), (.c (.v (.int .i64 0)))] false),
 oo 58 (.call Qcl [(.t 55), (.t 56), (.t 57)] false),
 oo 59 (.bin .eql (.t 58) (.c (.v (.int .i64 2)))),
 om 60 59,
 og 61 60 true (.mov (.t 2)),
 og 62 60 true (.call Qan [(.c (.v (.int .i64 1))), (.c (.v (.int .i64 2)))] false),
 og 63 60 true (.call Qan [(.c (.v (.int .i64 1))), (.c (.v (.int .i64 (-1))))] false),
 og 64 60 true (.call Qcl [(.t 61), (.t 62), (.t 63)] false),
 og 65 60 true (.bin .eql (.t 64) (.c (.v (.int .i64 2)))),
 oo 66 (.pick (.t 60) (.t 65) (.c (.v (.bool false)))),
 om 67 66,
 og 68 67 true (.mov (.t 2)),
 og 69 67 true (.call Qan [(.c (.v (.int .i64 1))), (.c (.v (.int .i64 2)))] false),
 og 70 67 true (.call Qan [(.c (.v (.int .i64 0))), (.c (.v (.int .i64 1)))] false),
 og 71 67 true (.call Qcl [(.t 68), (.t 69), (.t 70)] false),
 og 72 67 true (.bin .eql (.t 71) (.c (.v (.int .i64 (-1))))),
 oo 73 (.pick (.t 67) (.t 72) (.c (.v (.bool false)))),
 om 6 73] []) <|
 .keep [2, 3, 4, 5, 6] [[3]]) <|
 .seq (.seq (.reg [om 74 4,
 om 75 74,
 og 76 75 true (.mov (.t 5)),
 oo 77 (.pick (.t 75) (.t 76) (.c (.v (.bool false)))),
 om 78 77,
 og 79 78 true (.mov (.t 6)),
 oo 80 (.pick (.t 78) (.t 79) (.c (.v (.bool false)))),
 om 81 80,
 og 82 81 true (.mov (.t 2)),
 og 83 81 true (.call Qan [(.c (.v (.int .i64 2))), (.c (.v (.int .i64 2)))] false),
 og 84 81 true (.call Qan [(.c (.v (.int .i64 (-1)))), (.c (.v (.int .i64 (-2))))] false),
 og 85 81 true (.call Qcl [(.t 82), (.t 83), (.t 84)] false),
 og 86 81 true (.bin .eql (.t 85) (.c (.v (.int .i64 1)))),
 oo 87 (.pick (.t 81) (.t 86) (.c (.v (.bool false)))),
 om 88 87,
 og 89 88 true (.mov (.t 2)),
 og 90 88 true (.call Qan [(.c (.v (.int .i64 0))), (.c (.v (.int .i64 3)))] false),
 og 91 88 true (.call Qan [(.c (.v (.int .i64 0))), (.c (.v (.int .i64 (-1))))] false),
 og 92 88 true (.load (some 8) (.t 3)),
 og 93 88 true (.call QdD [(.t 89), (.t 90), (.t 91), (.t 92)] false),
 og 94 88 true (.bin .eql (.t 93) (.c (.v (.int .i64 2)))),
 oo 95 (.pick (.t 88) (.t 94) (.c (.v (.bool false)))),
 om 0 95] []) <|
 .keep [0] []) <|
 .ret, [.t 0]⟩

def gap_Along : CF := ⟨4, .seq (.seq (.reg [oo 4 (.box (.t 0)),
 oo 5 (.box (.t 1)),
 oo 6 (.box (.t 2)),
 oo 7 (.box (.t 3)),
 oo 8 (.mov (.c (.z true)))] []) <|
 .keep [4, 5, 6, 7] [[4], [5], [6], [7]]) <|
 .seq (.seq (.reg [ol 9 4 4,
 ol 10 8 5,
 oo 11 (.call QbY [(.t 9), (.t 10)] false),
 oo 12 (.fad 0 (.t 4)),
 ol 13 3 12,
 ol 14 8 6,
 oo 15 (.call QeJ [(.t 13), (.t 14)] false),
 oo 16 (.fad 0 (.t 4)),
 ol 17 3 16,
 ol 18 8 7,
 oo 19 (.call QeJ [(.t 17), (.t 18)] false),
 oo 20 (.call Qcy [(.c (.v (.int .i64 1))), (.c (.v (.int .i64 2)))] false),
 oo 21 (.call Qc8 [(.t 19), (.t 20)] false),
 oo 22 (.lit 4 3 [.v (.bool false), .z true, .v (.bool false), .z true] [(0, (.t 11)), (1, (.t 15)), (2, (.t 21))] true),
 oo 23 (.call Qki [(.t 22)] false),
 om 8 23] []) <|
 .keep [8] []) <|
 .ret, [.t 8]⟩

def gantryref05_Same : CF := ⟨2, .seq (.seq (.reg [oo 2 (.box (.t 0)),
 oo 3 (.box (.t 1)),
 oo 4 (.mov (.c (.v (.bool false))))] []) <|
 .keep [2, 3] [[2], [3]]) <|
 .seq (.seq (.reg [oo 5 (.fad 0 (.t 2)),
 ol 6 2 5,
 oo 7 (.fad 0 (.t 3)),
 ol 8 2 7,
 oo 9 (.call QdZ [(.t 6), (.t 8)] false),
 om 10 9,
 og 11 10 true (.fad 2 (.t 2)),
 og 12 10 true (.load (some 2) (.t 11)),
 og 13 10 true (.fad 2 (.t 3)),
 og 14 10 true (.load (some 2) (.t 13)),
 og 15 10 true (.call QdZ [(.t 12), (.t 14)] false),
 oo 16 (.pick (.t 10) (.t 15) (.c (.v (.bool false)))),
 om 4 16] []) <|
 .keep [4] []) <|
 .ret, [.t 4]⟩

def gap_Gap : CF := ⟨2, .seq (.seq (.reg [oo 2 (.box (.t 0)),
 oo 3 (.box (.t 1)),
 oo 4 (.new [.v (.bool false), .z true, .v (.bool false), .z true])] []) <|
 .keep [2, 3, 4] [[2], [3], [4]]) <|
 .seq (.seq (.reg [oo 5 (.fad 0 (.t 2)),
 ol 6 3 5,
 ol 7 8 3,
 oo 8 (.call QeJ [(.t 6), (.t 7)] false),
 oo 9 (.fad 3 (.t 2)),
 oo 10 (.load none (.t 9)),
 oo 11 (.fad 0 (.t 2)),
 oo 12 (.fad 2 (.t 11)),
 oo 13 (.load none (.t 12)),
 oo 14 (.call Qcy [(.t 10), (.t 13)] false),
 oo 15 (.call QhZ [(.t 8), (.t 14)] false),
 ⟨none, .store 4 (.t 4) (.t 15), none⟩] []) <|
 .keep [4] [[4]]) <|
 .ret, [.cell 4 (some 4)]⟩

def gantryref13_Gap : CF := ⟨2, .seq (.seq (.reg [oo 2 (.box (.t 0)),
 oo 3 (.box (.t 1)),
 oo 4 (.new [.v (.bool false), .z true, .v (.bool false), .z true])] []) <|
 .keep [2, 3, 4] [[2], [3], [4]]) <|
 .seq (.seq (.reg [oo 5 (.fad 0 (.t 2)),
 ol 6 3 5,
 ol 7 8 3,
 oo 8 (.call Qea [(.t 6), (.t 7)] false),
 oo 9 (.fad 3 (.t 2)),
 oo 10 (.load none (.t 9)),
 oo 11 (.call QaF [(.t 10), (.c (.v (.int .i64 1)))] false),
 oo 12 (.call Qfy [(.t 8), (.t 11)] false),
 oo 13 (.fad 0 (.t 2)),
 oo 14 (.fad 2 (.t 13)),
 oo 15 (.load none (.t 14)),
 oo 16 (.call QaF [(.t 15), (.c (.v (.int .i64 1)))] false),
 oo 17 (.call Qdf [(.t 12), (.t 16)] false),
 ⟨none, .store 4 (.t 4) (.t 17), none⟩] []) <|
 .keep [4] [[4]]) <|
 .ret, [.cell 4 (some 4)]⟩

def QbI : C :=
 .seq (.seq (.seq (.seq (.reg [om 11 5,
 om 12 0,
 oo 13 (.len (.t 12)),
 oo 14 (.bin .lss (.t 11) (.t 13))] []) <|
 .keep [0, 1, 5, 14] []) <|
 .cond (.t 14) (.skip) <|
 .seq (.keep [] []) <|
 .exit 0) <|
 .seq (.seq (.blk 1 <|
 .seq (.seq (.reg [om 17 0,
 om 18 5,
 oo 19 (.ixa 4 (.t 17) (.t 18)),
 ol 20 4 19,
 om 21 1,
 om 22 5,
 oo 23 (.ixa 4 (.t 21) (.t 22)),
 ol 24 4 23,
 oo 25 (.call Qcn [(.t 20), (.t 24)] false),
 oo 26 (.un .not (.t 25))] []) <|
 .keep [0, 1, 5, 26] []) <|
 .cond (.t 26) (.seq (.seq (.reg [oo 4 (.mov (.c (.v (.bool false))))] []) <|
 .keep [4] []) <|
 .ret) <|
 .skip) <|
 .keep [0, 1, 5] []) <|
 .seq (.reg [om 15 5,
 oo 16 (.bin .add (.t 15) (.c (.v (.int .i64 1)))),
 om 5 16] []) <|
 .keep [0, 1, 5] []) <|
 .keep [0, 1, 5] []
def gantryref06_Same : CF := ⟨2, .seq (.seq (.reg [oo 4 (.mov (.c (.v (.bool false))))] []) <|
 .keep [0, 1] []) <|
 .seq (.seq (.seq (.reg [om 6 0,
 oo 7 (.len (.t 6)),
 om 8 1,
 oo 9 (.len (.t 8)),
 oo 10 (.bin .neq (.t 7) (.t 9))] []) <|
 .keep [0, 1, 10] []) <|
 .cond (.t 10) (.seq (.seq (.reg [oo 4 (.mov (.c (.v (.bool false))))] []) <|
 .keep [4] []) <|
 .ret) <|
 .skip) <|
 .seq (.seq (.seq (.reg [oo 5 (.mov (.c (.v (.int .i64 0))))] []) <|
 .keep [0, 1, 5] []) <|
 .seq (.blk 0 <|
 .seq (.keep [0, 1, 5] []) <|
 .loop QbI) <|
 .keep [] []) <|
 .seq (.seq (.reg [oo 4 (.mov (.c (.v (.bool true))))] []) <|
 .keep [4] []) <|
 .ret, [.t 4]⟩

def gantryref13_Along : CF := ⟨4, .seq (.seq (.reg [oo 4 (.box (.t 0)),
 oo 5 (.box (.t 1)),
 oo 6 (.box (.t 2)),
 oo 7 (.box (.t 3)),
 oo 8 (.mov (.c (.z true)))] []) <|
 .keep [4, 5, 6, 7] [[4], [5], [6], [7]]) <|
 .seq (.seq (.reg [ol 9 4 4,
 ol 10 8 5,
 oo 11 (.call Qeb [(.t 9), (.t 10)] false),
 ol 12 4 4,
 ol 13 8 6,
 oo 14 (.call Qc3 [(.t 12), (.t 13)] false),
 ol 15 4 4,
 ol 16 8 7,
 oo 17 (.call Qc3 [(.t 15), (.t 16)] false),
 oo 18 (.call QaF [(.c (.v (.int .i64 2))), (.c (.v (.int .i64 1)))] false),
 oo 19 (.call Qdf [(.t 17), (.t 18)] false),
 oo 20 (.lit 4 3 [.v (.bool false), .z true, .v (.bool false), .z true] [(0, (.t 11)), (1, (.t 14)), (2, (.t 19))] true),
 oo 21 (.call Qfb [(.t 20)] false),
 om 8 21] []) <|
 .keep [8] []) <|
 .ret, [.t 8]⟩

def rat_Add : CF := ⟨2, .seq (.seq (.reg [oo 2 (.box (.t 0)),
 oo 3 (.box (.t 1)),
 oo 4 (.new [.v (.bool false), .z true, .v (.bool false), .z true])] []) <|
 .keep [2, 3, 4] [[2], [3], [4]]) <|
 .seq (.seq (.blk 0 <|
 .seq (.seq (.reg [oo 8 (.fad 2 (.t 2)),
 oo 9 (.fad 1 (.t 8)),
 oo 10 (.load none (.t 9)),
 oo 11 (.len (.t 10)),
 oo 12 (.bin .eql (.t 11) (.c (.v (.int .i64 0)))),
 om 13 12,
 og 14 13 true (.fad 2 (.t 3)),
 og 15 13 true (.fad 1 (.t 14)),
 og 16 13 true (.load none (.t 15)),
 og 17 13 true (.len (.t 16)),
 og 18 13 true (.bin .eql (.t 17) (.c (.v (.int .i64 0)))),
 oo 19 (.pick (.t 13) (.t 18) (.c (.v (.bool false)))),
 om 7 19] []) <|
 .keep [2, 3, 4, 7] [[2], [3], [4]]) <|
 .cond (.t 7) (.seq (.seq (.reg [oo 20 (.fad 0 (.t 2)),
 ol 21 2 20,
 oo 22 (.fad 0 (.t 3)),
 ol 23 2 22,
 oo 24 (.call QeD [(.t 21), (.t 23)] false),
 oo 25 (.build [.v (.bool false), .z true, .v (.bool false), .z true] [(0, 2, (.t 24))]),
 ⟨none, .store 4 (.t 4) (.t 25), none⟩] []) <|
 .keep [4] [[4]]) <|
 .ret) <|
 .seq (.seq (.reg [oo 27 (.fad 0 (.t 2)),
 oo 28 (.fad 1 (.t 27)),
 oo 29 (.load none (.t 28)),
 oo 30 (.len (.t 29)),
 oo 31 (.bin .eql (.t 30) (.c (.v (.int .i64 0)))),
 om 26 31] []) <|
 .keep [2, 3, 4, 26] [[2], [3], [4]]) <|
 .cond (.t 26) (.seq (.seq (.reg [ol 32 4 3,
 ⟨none, .store 4 (.t 4) (.t 32), none⟩] []) <|
 .keep [4] [[4]]) <|
 .ret) <|
 .seq (.seq (.reg [oo 34 (.fad 0 (.t 3)),
 oo 35 (.fad 1 (.t 34)),
 oo 36 (.load none (.t 35)),
 oo 37 (.len (.t 36)),
 oo 38 (.bin .eql (.t 37) (.c (.v (.int .i64 0)))),
 om 33 38] []) <|
 .keep [2, 3, 4, 33] [[2], [3], [4]]) <|
 .cond (.t 33) (.seq (.seq (.reg [ol 39 4 2,
 ⟨none, .store 4 (.t 4) (.t 39), none⟩] []) <|
 .keep [4] [[4]]) <|
 .ret) <|
 .skip) <|
 .keep [2, 3, 4] [[2], [3], [4]]) <|
 .seq (.seq (.reg [ol 40 4 2,
 oo 41 (.call Qds [(.t 40)] false),
 ol 42 4 3,
 oo 43 (.call Qds [(.t 42)] false),
 oo 5 (.new [.v (.bool false), .z true]),
 oo 6 (.new [.v (.bool false), .z true]),
 ⟨none, .store 2 (.t 5) (.t 41), none⟩,
 ⟨none, .store 2 (.t 6) (.t 43), none⟩] []) <|
 .keep [2, 3, 4, 5, 6] [[2], [3], [4], [5], [6]]) <|
 .seq (.seq (.reg [oo 44 (.fad 0 (.t 2)),
 ol 45 2 44,
 ol 46 2 6,
 oo 47 (.call Qbx [(.t 45), (.t 46)] false),
 oo 48 (.fad 0 (.t 3)),
 ol 49 2 48,
 ol 50 2 5,
 oo 51 (.call Qbx [(.t 49), (.t 50)] false),
 oo 52 (.call QeD [(.t 47), (.t 51)] false),
 ol 53 2 5,
 ol 54 2 6,
 oo 55 (.call Qbx [(.t 53), (.t 54)] false),
 oo 56 (.call Qfq [(.t 52), (.t 55)] false),
 ⟨none, .store 4 (.t 4) (.t 56), none⟩] []) <|
 .keep [4] [[4]]) <|
 .ret, [.cell 4 (some 4)]⟩

def gantryref13_Rate : CF := ⟨2, .seq (.seq (.reg [oo 2 (.box (.t 0)),
 oo 3 (.box (.t 1)),
 oo 4 (.new [.v (.bool false), .z true, .v (.bool false), .z true])] []) <|
 .keep [2, 3, 4] [[2], [3], [4]]) <|
 .seq (.seq (.reg [oo 5 (.fad 0 (.t 2)),
 ol 6 3 5,
 ol 7 8 3,
 oo 8 (.call Qea [(.t 6), (.t 7)] false),
 oo 9 (.fad 0 (.t 2)),
 oo 10 (.fad 2 (.t 9)),
 oo 11 (.load none (.t 10)),
 oo 12 (.call QaF [(.t 11), (.c (.v (.int .i64 1)))] false),
 oo 13 (.call Qdf [(.t 8), (.t 12)] false),
 ⟨none, .store 4 (.t 4) (.t 13), none⟩] []) <|
 .keep [4] [[4]]) <|
 .ret, [.cell 4 (some 4)]⟩

def rat_Same : CF := ⟨2, .seq (.seq (.reg [oo 2 (.box (.t 0)),
 oo 3 (.box (.t 1)),
 oo 4 (.mov (.c (.v (.bool false))))] []) <|
 .keep [2, 3] [[2], [3]]) <|
 .seq (.seq (.reg [oo 5 (.mov (.f Qju))] []) <|
 .keep [2, 3, 5] [[2], [3]]) <|
 .seq (.seq (.reg [om 6 5,
 oo 7 (.fad 0 (.t 2)),
 ol 8 2 7,
 oo 9 (.fad 0 (.t 3)),
 ol 10 2 9,
 oo 11 (.calv (.t 6) [(.t 8), (.t 10)]),
 om 12 11,
 og 13 12 true (.mov (.t 5)),
 og 14 12 true (.fad 2 (.t 2)),
 og 15 12 true (.load (some 2) (.t 14)),
 og 16 12 true (.fad 2 (.t 3)),
 og 17 12 true (.load (some 2) (.t 16)),
 og 18 12 true (.calv (.t 13) [(.t 15), (.t 17)]),
 oo 19 (.pick (.t 12) (.t 18) (.c (.v (.bool false)))),
 om 4 19] []) <|
 .keep [4] []) <|
 .ret, [.t 4]⟩

def poly_Eval_a0 : C :=
 .seq (.reg [oo 7 (.new [.v (.bool false), .z true, .v (.bool false), .z true]),
 ⟨none, .store 4 (.t 7) (.t 11), none⟩] []) <|
 .keep [3, 5, 7] [[3], [5], [7], [4]]
def poly_Eval_b0 : C :=
 .seq (.blk 1 <|
 .seq (.reg [ol 12 4 5,
 ol 13 4 3,
 oo 14 (.call Qc8 [(.t 12), (.t 13)] false),
 ol 15 4 7,
 oo 16 (.call Qgq [(.t 14), (.t 15)] false),
 ⟨none, .store 4 (.t 5) (.t 16), none⟩] []) <|
 .keep [] [[3], [4], [5]]) <|
 .keep [] [[3], [4], [5]]
def poly_Eval : CF := ⟨2, .seq (.seq (.reg [oo 3 (.box (.t 1)),
 oo 4 (.new [.v (.bool false), .z true, .v (.bool false), .z true])] []) <|
 .keep [0, 3, 4] [[3], [4]]) <|
 .seq (.seq (.reg [oo 5 (.new [.v (.bool false), .z true, .v (.bool false), .z true])] []) <|
 .keep [0, 3, 4, 5] [[3], [4], [5]]) <|
 .seq (.seq (.seq (.reg [om 8 0,
 oo 9 (.call Qcg [(.t 8)] false)] []) <|
 .keep [3, 4, 5, 9] [[3], [4], [5]]) <|
 .seq (.blk 0 <|
 .seq (.rfn (.t 9) [10, 11] poly_Eval_a0 poly_Eval_b0 [3, 4, 5] [[3], [4], [5]]) <|
 .keep [4, 5] [[4], [5]]) <|
 .keep [4, 5] [[4], [5]]) <|
 .seq (.seq (.reg [ol 17 4 5,
 ⟨none, .store 4 (.t 4) (.t 17), none⟩] []) <|
 .keep [4] [[4]]) <|
 .ret, [.cell 4 (some 4)]⟩

def rat_Of : CF := ⟨2, .seq (.seq (.reg [oo 4 (.new [.v (.bool false), .z true, .v (.bool false), .z true])] []) <|
 .keep [0, 1, 4] [[4]]) <|
 .seq (.seq (.reg [om 5 0,
 oo 6 (.call QcJ [(.t 5)] false),
 om 7 1,
 oo 8 (.call QcJ [(.t 7)] false),
 oo 9 (.call Qfq [(.t 6), (.t 8)] false),
 ⟨none, .store 4 (.t 4) (.t 9), none⟩] []) <|
 .keep [4] [[4]]) <|
 .ret, [.cell 4 (some 4)]⟩

def QaV : C :=
 .seq (.seq (.seq (.seq (.reg [om 7 3,
 oo 8 (.bin .gtr (.t 7) (.c (.v (.int .i64 0)))),
 om 9 8,
 og 10 9 true (.mov (.t 0)),
 og 11 9 true (.mov (.t 3)),
 og 12 9 true (.bin .sub (.t 11) (.c (.v (.int .i64 1)))),
 og 13 9 true (.mx [(.t 12), (.c (.v (.int .i64 0)))]),
 og 14 9 true (.ixa 4 (.t 10) (.t 13)),
 og 15 9 true (.load (some 4) (.t 14)),
 og 16 9 true (.call Qe8 [(.t 15)] false),
 og 17 9 true (.bin .eql (.t 16) (.c (.v (.int .i64 0)))),
 oo 18 (.pick (.t 9) (.t 17) (.c (.v (.bool false))))] []) <|
 .keep [0, 3, 18] []) <|
 .cond (.t 18) (.skip) <|
 .seq (.keep [0, 3] []) <|
 .exit 0) <|
 .seq (.blk 1 <|
 .seq (.reg [om 19 3,
 oo 20 (.bin .sub (.t 19) (.c (.v (.int .i64 1)))),
 om 3 20] []) <|
 .keep [0, 3] []) <|
 .keep [0, 3] []) <|
 .keep [0, 3] []
def gantryref06_Trim : CF := ⟨1, .seq (.seq (.reg [oo 2 (.mov (.c (.z true)))] []) <|
 .keep [0] []) <|
 .seq (.seq (.reg [om 5 0,
 oo 6 (.len (.t 5)),
 om 3 6] []) <|
 .keep [0, 3] []) <|
 .seq (.seq (.blk 0 <|
 .seq (.keep [0, 3] []) <|
 .loop QaV) <|
 .keep [0, 3] []) <|
 .seq (.seq (.reg [oo 4 (.mov (.c (.z true)))] []) <|
 .keep [0, 3, 4] []) <|
 .seq (.seq (.reg [om 21 4,
 om 22 0,
 om 23 3,
 oo 24 (.slc 4 (.t 22) none (some (.t 23)) none),
 oo 25 (.app 4 64 (.t 21) (.t 24) true),
 om 2 25] []) <|
 .keep [2] [[25]]) <|
 .ret, [.t 2]⟩

def gantryref01_Around : CF := ⟨2, .seq (.seq (.reg [oo 4 (.mov (.c (.v (.int .i64 0))))] []) <|
 .keep [0, 1] []) <|
 .seq (.seq (.seq (.reg [om 5 0,
 oo 6 (.bin .lss (.t 5) (.c (.v (.int .i64 0))))] []) <|
 .keep [0, 1, 6] []) <|
 .cond (.t 6) (.seq (.reg [om 7 0,
 oo 8 (.bin .add (.t 7) (.c (.v (.int .i64 1)))),
 oo 9 (.un .neg (.t 8)),
 om 0 9] []) <|
 .keep [0, 1] []) <|
 .skip) <|
 .seq (.seq (.reg [om 10 0,
 om 11 1,
 oo 12 (.bin .rem (.t 10) (.t 11)),
 om 4 12] []) <|
 .keep [4] []) <|
 .ret, [.t 4]⟩

def gap_Stays : CF := ⟨1, .seq (.seq (.reg [oo 2 (.mov (.c (.v (.bool false))))] []) <|
 .keep [0] []) <|
 .seq (.seq (.reg [oo 5 (.call Qcy [(.c (.v (.int .i64 1))), (.c (.v (.int .i64 1)))] false),
 oo 3 (.new [.v (.bool false), .z true, .v (.bool false), .z true]),
 ⟨none, .store 4 (.t 3) (.t 5), none⟩] []) <|
 .keep [0, 3] [[3]]) <|
 .seq (.seq (.seq (.reg [om 6 0,
 oo 7 (.build [.v (.bool false), .z true, .v (.bool false), .z true] []),
 oo 8 (.call Qdx [(.t 6), (.t 7)] false),
 oo 9 (.call QbB [(.t 8)] false),
 oo 10 (.bin .lss (.t 9) (.c (.v (.int .i64 0)))),
 om 11 10,
 og 12 11 false (.mov (.t 0)),
 og 13 11 false (.load (some 4) (.t 3)),
 og 14 11 false (.call Qdx [(.t 12), (.t 13)] false),
 og 15 11 false (.call QbB [(.t 14)] false),
 og 16 11 false (.bin .lss (.t 15) (.c (.v (.int .i64 0)))),
 oo 17 (.pick (.t 11) (.c (.v (.bool true))) (.t 16))] []) <|
 .keep [0, 3, 17] [[3]]) <|
 .cond (.t 17) (.seq (.seq (.reg [oo 2 (.mov (.c (.v (.bool false))))] []) <|
 .keep [2] []) <|
 .ret) <|
 .skip) <|
 .seq (.seq (.seq (.reg [om 18 0,
 oo 19 (.len (.t 18)),
 oo 20 (.bin .lss (.t 19) (.c (.v (.int .i64 3)))),
 om 21 20,
 og 22 21 false (.mov (.t 0)),
 og 23 21 false (.ixa 4 (.t 22) (.c (.v (.int .i64 2)))),
 og 24 21 false (.load (some 4) (.t 23)),
 og 25 21 false (.call QbB [(.t 24)] false),
 og 26 21 false (.bin .lss (.t 25) (.c (.v (.int .i64 0)))),
 oo 27 (.pick (.t 21) (.c (.v (.bool true))) (.t 26))] []) <|
 .keep [0, 3, 27] [[3]]) <|
 .cond (.t 27) (.seq (.seq (.reg [oo 2 (.mov (.c (.v (.bool true))))] []) <|
 .keep [2] []) <|
 .ret) <|
 .skip) <|
 .seq (.seq (.reg [om 28 0,
 oo 29 (.ixa 4 (.t 28) (.c (.v (.int .i64 1)))),
 ol 30 4 29,
 oo 31 (.call QkG [(.t 30)] false),
 om 32 0,
 oo 33 (.ixa 4 (.t 32) (.c (.v (.int .i64 2)))),
 ol 34 4 33,
 oo 35 (.call Qcy [(.c (.v (.int .i64 2))), (.c (.v (.int .i64 1)))] false),
 oo 36 (.call Qc8 [(.t 34), (.t 35)] false),
 oo 37 (.call QkO [(.t 31), (.t 36)] false),
 oo 4 (.new [.v (.bool false), .z true, .v (.bool false), .z true]),
 ⟨none, .store 4 (.t 4) (.t 37), none⟩] []) <|
 .keep [0, 3, 4] [[3], [4]]) <|
 .seq (.seq (.reg [ol 38 4 4,
 oo 39 (.call QbB [(.t 38)] false),
 oo 40 (.bin .leq (.t 39) (.c (.v (.int .i64 0)))),
 om 41 40,
 og 42 41 false (.load (some 4) (.t 4)),
 og 43 41 false (.load (some 4) (.t 3)),
 og 44 41 false (.call QeE [(.t 42), (.t 43)] false),
 og 45 41 false (.bin .geq (.t 44) (.c (.v (.int .i64 0)))),
 oo 46 (.pick (.t 41) (.c (.v (.bool true))) (.t 45)),
 om 47 46,
 og 48 47 false (.mov (.t 0)),
 og 49 47 false (.load (some 4) (.t 4)),
 og 50 47 false (.call Qdx [(.t 48), (.t 49)] false),
 og 51 47 false (.call QbB [(.t 50)] false),
 og 52 47 false (.bin .geq (.t 51) (.c (.v (.int .i64 0)))),
 oo 53 (.pick (.t 47) (.c (.v (.bool true))) (.t 52)),
 om 2 53] []) <|
 .keep [2] []) <|
 .ret, [.t 2]⟩

end Go.AM

