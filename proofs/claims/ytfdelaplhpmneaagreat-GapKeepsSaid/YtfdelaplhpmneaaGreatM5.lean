/- Part 5 of the proof: a small machine, its soundness against the model, and what the program's functions compute on it. -/
import Derived.Test.YtfdelaplhpmneaaGreatM4
import Derived.Test.YtfdelaplhpmneaaGreatProg
import Derived.KernelRfl
set_option linter.unusedVariables false
set_option linter.unusedSimpArgs false
set_option maxRecDepth 100000
namespace Go.AM
open Go Go.Proofs


def QcE : C :=
 .seq (.seq (.reg [oo 4 (.box (.t 0))] []) <|
 .keep [1, 2, 3, 4] [[4, 0], [2], [3], [5], [21, 0]]) <|
 .seq (.seq (.reg [oo 5 (.load none (.t 1)),
 oo 6 (.mkfn Qck [(.t 4)] true),
 oo 7 (.call Qaq [(.t 5), (.t 6)] false),
 oo 8 (.un .not (.t 7))] []) <|
 .keep [1, 2, 3, 4, 8] [[4, 0], [2], [3], [5], [21, 0]]) <|
 .cond (.t 8) (.seq (.reg [oo 9 (.load none (.t 1)),
 ol 10 3 4,
 oo 11 (.load none (.t 2)),
 ol 12 3 4,
 oo 13 (.call Qb0 [(.t 11), (.t 12)] false),
 oo 14 (.load none (.t 3)),
 ol 15 3 4,
 oo 16 (.call QcG [(.t 15)] false),
 oo 17 (.call Qb0 [(.t 14), (.t 16)] false),
 oo 18 (.bin .add (.t 13) (.t 17)),
 oo 19 (.build [.v (.int .i64 0), .v (.int .i64 0), .v (.int .i64 0), .v (.int .i64 0)] [(0, 3, (.t 10)), (3, 1, (.t 18))]),
 oo 20 (.lit 4 1 [.v (.int .i64 0), .v (.int .i64 0), .v (.int .i64 0), .v (.int .i64 0)] [(0, (.t 19))] true),
 oo 21 (.app 4 32 (.t 9) (.t 20) false),
 ⟨none, .store 1 (.t 1) (.t 21), none⟩] []) <|
 .keep [] [[2], [3], [5], [21, 0]]) <|
 .skip
def Qbo : C :=
 .seq (.seq (.seq (.reg [oo 17 (.bin .lss (.t 16) (.t 15))] []) <|
 .keep [2, 3, 5, 6, 15, 16, 17] [[2], [3], [5], [21, 0]]) <|
 .seq (.cond (.t 17) (.skip) <|
 .seq (.keep [3, 5, 6] [[2], [3], [5], [21, 0]]) <|
 .exit 0) <|
 .seq (.seq (.blk 1 <|
 .seq (.seq (.reg [om 18 16,
 om 7 18] []) <|
 .keep [2, 3, 5, 6, 7, 15, 16] [[2], [3], [5], [21, 0]]) <|
 .seq (.seq (.reg [oo 20 (.load none (.t 2)),
 om 21 7,
 oo 22 (.ixa 2 (.t 20) (.t 21)),
 ol 23 2 22,
 oo 24 (.load none (.t 2)),
 om 25 7,
 oo 26 (.call QeH [(.t 24), (.t 25)] false),
 oo 27 (.call QfJ [(.t 23), (.t 26)] false),
 om 19 27,
 oo 28 (.ext (.t 19) 0),
 oo 29 (.ext (.t 19) 1),
 oo 8 (.new [.v (.int .i64 0), .v (.int .i64 0), .v (.int .i64 0)]),
 ⟨none, .store 3 (.t 8) (.t 28), none⟩,
 om 9 29] []) <|
 .keep [2, 3, 5, 6, 8, 15, 16] [[2], [3], [5], [8], [21, 0]]) <|
 .seq (.inl [om 30 6, ol 31 3 8] (some 32) (.t 30) [(.t 31)] Qcj QcE [] 4 [] [2, 3, 5, 6, 15, 16] [[2], [3], [5], [21, 0]] []) <|
 .keep [2, 3, 5, 6, 15, 16] [[2], [3], [5], [21, 0]]) <|
 .keep [2, 3, 5, 6, 15, 16] [[2], [3], [5], [21, 0]]) <|
 .seq (.reg [oo 33 (.bin .add (.t 16) (.c (.v (.int .i64 1)))),
 om 16 33] []) <|
 .keep [2, 3, 5, 6, 15, 16] [[2], [3], [5], [21, 0]]) <|
 .keep [2, 3, 5, 6, 15, 16] [[2], [3], [5], [21, 0]]
def convex_Sides_i2 : C :=
 .seq (.seq (.reg [oo 4 (.box (.t 0))] []) <|
 .keep [1, 2, 3, 4] [[4, 0], [2], [3], [5], [21, 0]]) <|
 .seq (.seq (.reg [oo 5 (.load none (.t 1)),
 oo 6 (.mkfn Qck [(.t 4)] true),
 oo 7 (.call Qaq [(.t 5), (.t 6)] false),
 oo 8 (.un .not (.t 7))] []) <|
 .keep [1, 2, 3, 4, 8] [[4, 0], [2], [3], [5], [21, 0]]) <|
 .cond (.t 8) (.seq (.reg [oo 9 (.load none (.t 1)),
 ol 10 3 4,
 oo 11 (.load none (.t 2)),
 ol 12 3 4,
 oo 13 (.call Qb0 [(.t 11), (.t 12)] false),
 oo 14 (.load none (.t 3)),
 ol 15 3 4,
 oo 16 (.call QcG [(.t 15)] false),
 oo 17 (.call Qb0 [(.t 14), (.t 16)] false),
 oo 18 (.bin .add (.t 13) (.t 17)),
 oo 19 (.build [.v (.int .i64 0), .v (.int .i64 0), .v (.int .i64 0), .v (.int .i64 0)] [(0, 3, (.t 10)), (3, 1, (.t 18))]),
 oo 20 (.lit 4 1 [.v (.int .i64 0), .v (.int .i64 0), .v (.int .i64 0), .v (.int .i64 0)] [(0, (.t 19))] true),
 oo 21 (.app 4 32 (.t 9) (.t 20) false),
 ⟨none, .store 1 (.t 1) (.t 21), none⟩] []) <|
 .keep [] [[2], [3], [5], [21, 0]]) <|
 .skip
def Qbm : C :=
 .seq (.seq (.seq (.reg [oo 37 (.bin .lss (.t 36) (.t 35))] []) <|
 .keep [3, 5, 6, 35, 36, 37] [[2], [3], [5], [21, 0]]) <|
 .seq (.cond (.t 37) (.skip) <|
 .seq (.keep [5] [[5], [21, 0]]) <|
 .exit 2) <|
 .seq (.seq (.blk 3 <|
 .seq (.seq (.reg [om 38 36,
 om 10 38] []) <|
 .keep [3, 5, 6, 10, 35, 36] [[2], [3], [5], [21, 0]]) <|
 .seq (.seq (.reg [oo 40 (.load none (.t 3)),
 om 41 10,
 oo 42 (.ixa 2 (.t 40) (.t 41)),
 ol 43 2 42,
 oo 44 (.load none (.t 3)),
 om 45 10,
 oo 46 (.call QeH [(.t 44), (.t 45)] false),
 oo 47 (.call QfJ [(.t 43), (.t 46)] false),
 om 39 47,
 oo 48 (.ext (.t 39) 0),
 oo 49 (.ext (.t 39) 1),
 oo 11 (.new [.v (.int .i64 0), .v (.int .i64 0), .v (.int .i64 0)]),
 ⟨none, .store 3 (.t 11) (.t 48), none⟩,
 om 12 49] []) <|
 .keep [3, 5, 6, 11, 35, 36] [[2], [3], [5], [11], [21, 0]]) <|
 .seq (.inl [om 50 6, ol 51 3 11, oo 52 (.call QcG [(.t 51)] false)] (some 53) (.t 50) [(.t 52)] Qcj convex_Sides_i2 [] 4 [] [3, 5, 6, 35, 36] [[2], [3], [5], [21, 0]] []) <|
 .keep [3, 5, 6, 35, 36] [[2], [3], [5], [21, 0]]) <|
 .keep [3, 5, 6, 35, 36] [[2], [3], [5], [21, 0]]) <|
 .seq (.reg [oo 54 (.bin .add (.t 36) (.c (.v (.int .i64 1)))),
 om 36 54] []) <|
 .keep [3, 5, 6, 35, 36] [[2], [3], [5], [21, 0]]) <|
 .keep [3, 5, 6, 35, 36] [[2], [3], [5], [21, 0]]
def convex_Sides : CF := ⟨2, .seq (.seq (.reg [oo 2 (.box (.t 0)),
 oo 3 (.box (.t 1)),
 oo 4 (.mov (.c (.z true)))] []) <|
 .keep [2, 3] [[2], [3], [21, 0]]) <|
 .seq (.seq (.reg [oo 5 (.new [.z true])] []) <|
 .keep [2, 3, 5] [[2], [3], [5], [21, 0]]) <|
 .seq (.seq (.reg [oo 13 (.mkfn Qcj [(.t 5), (.t 2), (.t 3)] false),
 om 6 13] []) <|
 .keep [2, 3, 5, 6] [[2], [3], [5], [21, 0]]) <|
 .seq (.seq (.seq (.reg [oo 14 (.load none (.t 2)),
 oo 15 (.len (.t 14)),
 oo 16 (.mov (.c (.v (.int .i64 0))))] []) <|
 .keep [2, 3, 5, 6, 15, 16] [[2], [3], [5], [21, 0]]) <|
 .seq (.blk 0 <|
 .seq (.keep [2, 3, 5, 6, 15, 16] [[2], [3], [5], [21, 0]]) <|
 .loop Qbo) <|
 .keep [3, 5, 6] [[2], [3], [5], [21, 0]]) <|
 .seq (.seq (.seq (.reg [oo 34 (.load none (.t 3)),
 oo 35 (.len (.t 34)),
 oo 36 (.mov (.c (.v (.int .i64 0))))] []) <|
 .keep [3, 5, 6, 35, 36] [[2], [3], [5], [21, 0]]) <|
 .seq (.blk 2 <|
 .seq (.keep [3, 5, 6, 35, 36] [[2], [3], [5], [21, 0]]) <|
 .loop Qbm) <|
 .keep [5] [[5], [21, 0]]) <|
 .seq (.seq (.reg [oo 55 (.load none (.t 5)),
 om 4 55] []) <|
 .keep [4] [[21, 0]]) <|
 .ret, [.t 4]⟩

def Qco : C :=
 .seq (.seq (.seq (.reg [oo 25 (.bin .lss (.t 24) (.t 23))] []) <|
 .keep [1, 5, 7, 16, 17, 18, 22, 23, 24, 25] [[7], [41]]) <|
 .seq (.cond (.t 25) (.skip) <|
 .seq (.keep [1, 5, 16, 17, 18] [[41]]) <|
 .exit 2) <|
 .seq (.seq (.blk 3 <|
 .seq (.seq (.reg [oo 26 (.ixa 2 (.t 22) (.t 24)),
 ol 27 2 26,
 oo 9 (.new [.v (.int .i64 0), .v (.int .i64 0)]),
 ⟨none, .store 2 (.t 9) (.t 27), none⟩] []) <|
 .keep [1, 5, 7, 9, 16, 17, 18, 22, 23, 24] [[7], [9], [41]]) <|
 .seq (.reg [om 28 5,
 oo 29 (.fad 0 (.t 7)),
 oo 30 (.load none (.t 29)),
 oo 31 (.fad 0 (.t 9)),
 oo 32 (.load none (.t 31)),
 oo 33 (.bin .sub (.t 30) (.t 32)),
 oo 34 (.fad 1 (.t 7)),
 oo 35 (.load none (.t 34)),
 oo 36 (.fad 1 (.t 9)),
 oo 37 (.load none (.t 36)),
 oo 38 (.bin .sub (.t 35) (.t 37)),
 oo 39 (.build [.v (.int .i64 0), .v (.int .i64 0)] [(0, 1, (.t 33)), (1, 1, (.t 38))]),
 oo 40 (.lit 2 1 [.v (.int .i64 0), .v (.int .i64 0)] [(0, (.t 39))] true),
 oo 41 (.app 2 16 (.t 28) (.t 40) false),
 om 5 41] []) <|
 .keep [1, 5, 7, 16, 17, 18, 22, 23, 24] [[7], [41]]) <|
 .keep [1, 5, 7, 16, 17, 18, 22, 23, 24] [[7], [41]]) <|
 .seq (.reg [oo 42 (.bin .add (.t 24) (.c (.v (.int .i64 1)))),
 om 24 42] []) <|
 .keep [1, 5, 7, 16, 17, 18, 22, 23, 24] [[7], [41]]) <|
 .keep [1, 5, 7, 16, 17, 18, 22, 23, 24] [[7], [41]]
def QbP : C :=
 .seq (.seq (.seq (.reg [oo 19 (.bin .lss (.t 18) (.t 17))] []) <|
 .keep [1, 5, 16, 17, 18, 19] [[41]]) <|
 .seq (.cond (.t 19) (.skip) <|
 .seq (.keep [5] [[41]]) <|
 .exit 0) <|
 .seq (.seq (.blk 1 <|
 .seq (.seq (.reg [oo 20 (.ixa 2 (.t 16) (.t 18)),
 ol 21 2 20,
 oo 7 (.new [.v (.int .i64 0), .v (.int .i64 0)]),
 ⟨none, .store 2 (.t 7) (.t 21), none⟩] []) <|
 .keep [1, 5, 7, 16, 17, 18] [[7], [41]]) <|
 .seq (.seq (.reg [om 22 1,
 oo 23 (.len (.t 22)),
 oo 24 (.mov (.c (.v (.int .i64 0))))] []) <|
 .keep [1, 5, 7, 16, 17, 18, 22, 23, 24] [[7], [41]]) <|
 .seq (.blk 2 <|
 .seq (.keep [1, 5, 7, 16, 17, 18, 22, 23, 24] [[7], [41]]) <|
 .loop Qco) <|
 .keep [1, 5, 16, 17, 18] [[41]]) <|
 .keep [1, 5, 16, 17, 18] [[41]]) <|
 .seq (.reg [oo 43 (.bin .add (.t 18) (.c (.v (.int .i64 1)))),
 om 18 43] []) <|
 .keep [1, 5, 16, 17, 18] [[41]]) <|
 .keep [1, 5, 16, 17, 18] [[41]]
def QbR : C :=
 .seq (.seq (.seq (.reg [oo 58 (.bin .lss (.t 57) (.t 56))] []) <|
 .keep [5, 10, 11, 12, 13, 55, 56, 57, 58] [[10], [12], [13], [41], [47], [96]]) <|
 .seq (.cond (.t 58) (.skip) <|
 .seq (.keep [5, 10, 11, 13] [[10], [13], [41], [47], [96]]) <|
 .exit 6) <|
 .seq (.seq (.blk 7 <|
 .seq (.seq (.reg [oo 59 (.ixa 2 (.t 55) (.t 57)),
 ol 60 2 59,
 oo 15 (.new [.v (.int .i64 0), .v (.int .i64 0)]),
 ⟨none, .store 2 (.t 15) (.t 60), none⟩] []) <|
 .keep [5, 10, 11, 12, 13, 15, 55, 56, 57] [[10], [12], [13], [15], [41], [47], [96]]) <|
 .seq (.seq (.reg [ol 61 2 13,
 ol 62 2 12,
 oo 63 (.eqs 2 false (.t 61) (.t 62)),
 om 64 63,
 og 65 64 false (.load (some 2) (.t 12)),
 og 66 64 false (.load (some 2) (.t 13)),
 og 67 64 false (.load (some 2) (.t 15)),
 og 68 64 false (.call Qfk [(.t 65), (.t 66), (.t 67)] false),
 og 69 64 false (.bin .lss (.t 68) (.c (.v (.int .i64 0)))),
 oo 70 (.pick (.t 64) (.c (.v (.bool true))) (.t 69)),
 om 71 70,
 og 72 71 false (.load (some 2) (.t 12)),
 og 73 71 false (.load (some 2) (.t 13)),
 og 74 71 false (.load (some 2) (.t 15)),
 og 75 71 false (.call Qfk [(.t 72), (.t 73), (.t 74)] false),
 og 76 71 false (.bin .eql (.t 75) (.c (.v (.int .i64 0)))),
 og 77 71 false (.mov (.t 76)),
 og 78 77 true (.load (some 2) (.t 12)),
 og 79 77 true (.load (some 2) (.t 15)),
 og 80 77 true (.call Qgx [(.t 78), (.t 79)] false),
 og 81 77 true (.load (some 2) (.t 12)),
 og 82 77 true (.load (some 2) (.t 13)),
 og 83 77 true (.call Qgx [(.t 81), (.t 82)] false),
 og 84 77 true (.bin .gtr (.t 80) (.t 83)),
 og 85 71 false (.pick (.t 77) (.t 84) (.c (.v (.bool false)))),
 oo 86 (.pick (.t 71) (.c (.v (.bool true))) (.t 85))] []) <|
 .keep [5, 10, 11, 12, 13, 15, 55, 56, 57, 86] [[10], [12], [13], [15], [41], [47], [96]]) <|
 .cond (.t 86) (.seq (.reg [ol 87 2 15,
 ⟨none, .store 2 (.t 13) (.t 87), none⟩] []) <|
 .keep [5, 10, 11, 12, 13, 55, 56, 57] [[10], [12], [13], [41], [47], [96]]) <|
 .skip) <|
 .keep [5, 10, 11, 12, 13, 55, 56, 57] [[10], [12], [13], [41], [47], [96]]) <|
 .seq (.reg [oo 88 (.bin .add (.t 57) (.c (.v (.int .i64 1)))),
 om 57 88] []) <|
 .keep [5, 10, 11, 12, 13, 55, 56, 57] [[10], [12], [13], [41], [47], [96]]) <|
 .keep [5, 10, 11, 12, 13, 55, 56, 57] [[10], [12], [13], [41], [47], [96]]
def QdH : C :=
 .seq (.seq (.blk 5 <|
 .seq (.seq (.reg [om 48 11,
 om 49 11,
 oo 50 (.len (.t 49)),
 oo 51 (.bin .sub (.t 50) (.c (.v (.int .i64 1)))),
 oo 52 (.ixa 2 (.t 48) (.t 51)),
 ol 53 2 52,
 oo 12 (.new [.v (.int .i64 0), .v (.int .i64 0)]),
 ⟨none, .store 2 (.t 12) (.t 53), none⟩] []) <|
 .keep [5, 10, 11, 12] [[10], [12], [41], [47], [96]]) <|
 .seq (.seq (.reg [ol 54 2 12,
 oo 13 (.new [.v (.int .i64 0), .v (.int .i64 0)]),
 ⟨none, .store 2 (.t 13) (.t 54), none⟩] []) <|
 .keep [5, 10, 11, 12, 13] [[10], [12], [13], [41], [47], [96]]) <|
 .seq (.seq (.seq (.reg [om 55 5,
 oo 56 (.len (.t 55)),
 oo 57 (.mov (.c (.v (.int .i64 0))))] []) <|
 .keep [5, 10, 11, 12, 13, 55, 56, 57] [[10], [12], [13], [41], [47], [96]]) <|
 .seq (.blk 6 <|
 .seq (.keep [5, 10, 11, 12, 13, 55, 56, 57] [[10], [12], [13], [41], [47], [96]]) <|
 .loop QbR) <|
 .keep [5, 10, 11, 13] [[10], [13], [41], [47], [96]]) <|
 .seq (.seq (.seq (.reg [ol 89 2 13,
 ol 90 2 10,
 oo 91 (.eqs 2 false (.t 89) (.t 90))] []) <|
 .keep [5, 10, 11, 13, 91] [[10], [13], [41], [47], [96]]) <|
 .cond (.t 91) (.seq (.seq (.reg [om 92 11,
 om 4 92] []) <|
 .keep [4] [[47], [96]]) <|
 .ret) <|
 .skip) <|
 .seq (.reg [om 93 11,
 ol 94 2 13,
 oo 95 (.lit 2 1 [.v (.int .i64 0), .v (.int .i64 0)] [(0, (.t 94))] true),
 oo 96 (.app 2 16 (.t 93) (.t 95) false),
 om 11 96] []) <|
 .keep [5, 10, 11] [[10], [41], [47], [96]]) <|
 .keep [5, 10, 11] [[10], [41], [47], [96]]) <|
 .keep [5, 10, 11] [[10], [41], [47], [96]]
def convex_Sum : CF := ⟨2, .seq (.seq (.reg [oo 4 (.mov (.c (.z true)))] []) <|
 .keep [0, 1] []) <|
 .seq (.seq (.reg [oo 5 (.mov (.c (.z true)))] []) <|
 .keep [0, 1, 5] [[41]]) <|
 .seq (.seq (.seq (.reg [om 16 0,
 oo 17 (.len (.t 16)),
 oo 18 (.mov (.c (.v (.int .i64 0))))] []) <|
 .keep [1, 5, 16, 17, 18] [[41]]) <|
 .seq (.blk 0 <|
 .seq (.keep [1, 5, 16, 17, 18] [[41]]) <|
 .loop QbP) <|
 .keep [5] [[41]]) <|
 .seq (.seq (.frz 5) <|
 .seq (.reg [om 44 5,
 oo 45 (.call Qb4 [(.t 44), (.f Qek)] false),
 oo 10 (.new [.v (.int .i64 0), .v (.int .i64 0)]),
 ⟨none, .store 2 (.t 10) (.t 45), none⟩] []) <|
 .keep [5, 10] [[10], [41]]) <|
 .seq (.seq (.reg [ol 46 2 10,
 oo 47 (.lit 2 1 [.v (.int .i64 0), .v (.int .i64 0)] [(0, (.t 46))] false),
 om 11 47] []) <|
 .keep [5, 10, 11] [[10], [41], [47], [96]]) <|
 .seq (.blk 4 <|
 .seq (.keep [5, 10, 11] [[10], [41], [47], [96]]) <|
 .loop QdH) <|
 .keep [4] [[47], [96]], [.t 4]⟩

def rat_Mul : CF := ⟨2, .seq (.seq (.reg [oo 2 (.box (.t 0)),
 oo 3 (.box (.t 1)),
 oo 4 (.new [.v (.bool false), .z true, .v (.bool false), .z true])] []) <|
 .keep [2, 3, 4] [[2], [3], [4]]) <|
 .seq (.seq (.seq (.reg [oo 7 (.fad 0 (.t 2)),
 oo 8 (.fad 1 (.t 7)),
 oo 9 (.load none (.t 8)),
 oo 10 (.len (.t 9)),
 oo 11 (.bin .eql (.t 10) (.c (.v (.int .i64 0)))),
 om 12 11,
 og 13 12 false (.fad 0 (.t 3)),
 og 14 12 false (.fad 1 (.t 13)),
 og 15 12 false (.load none (.t 14)),
 og 16 12 false (.len (.t 15)),
 og 17 12 false (.bin .eql (.t 16) (.c (.v (.int .i64 0)))),
 oo 18 (.pick (.t 12) (.c (.v (.bool true))) (.t 17))] []) <|
 .keep [2, 3, 4, 18] [[2], [3], [4]]) <|
 .cond (.t 18) (.seq (.seq (.reg [oo 19 (.build [.v (.bool false), .z true, .v (.bool false), .z true] []),
 ⟨none, .store 4 (.t 4) (.t 19), none⟩] []) <|
 .keep [4] [[4]]) <|
 .ret) <|
 .skip) <|
 .seq (.seq (.seq (.reg [oo 20 (.fad 2 (.t 2)),
 oo 21 (.fad 1 (.t 20)),
 oo 22 (.load none (.t 21)),
 oo 23 (.len (.t 22)),
 oo 24 (.bin .eql (.t 23) (.c (.v (.int .i64 0)))),
 om 25 24,
 og 26 25 true (.fad 2 (.t 3)),
 og 27 25 true (.fad 1 (.t 26)),
 og 28 25 true (.load none (.t 27)),
 og 29 25 true (.len (.t 28)),
 og 30 25 true (.bin .eql (.t 29) (.c (.v (.int .i64 0)))),
 oo 31 (.pick (.t 25) (.t 30) (.c (.v (.bool false))))] []) <|
 .keep [2, 3, 4, 31] [[2], [3], [4]]) <|
 .cond (.t 31) (.seq (.seq (.reg [oo 32 (.fad 0 (.t 2)),
 ol 33 2 32,
 oo 34 (.fad 0 (.t 3)),
 ol 35 2 34,
 oo 36 (.call Qbx [(.t 33), (.t 35)] false),
 oo 37 (.build [.v (.bool false), .z true, .v (.bool false), .z true] [(0, 2, (.t 36))]),
 ⟨none, .store 4 (.t 4) (.t 37), none⟩] []) <|
 .keep [4] [[4]]) <|
 .ret) <|
 .skip) <|
 .seq (.seq (.reg [oo 38 (.fad 0 (.t 2)),
 ol 39 2 38,
 ol 40 4 3,
 oo 41 (.call Qds [(.t 40)] false),
 oo 42 (.call Qfq [(.t 39), (.t 41)] false),
 oo 43 (.fad 0 (.t 3)),
 ol 44 2 43,
 ol 45 4 2,
 oo 46 (.call Qds [(.t 45)] false),
 oo 47 (.call Qfq [(.t 44), (.t 46)] false),
 oo 5 (.new [.v (.bool false), .z true, .v (.bool false), .z true]),
 oo 6 (.new [.v (.bool false), .z true, .v (.bool false), .z true]),
 ⟨none, .store 4 (.t 5) (.t 42), none⟩,
 ⟨none, .store 4 (.t 6) (.t 47), none⟩] []) <|
 .keep [4, 5, 6] [[4], [5], [6]]) <|
 .seq (.seq (.reg [oo 48 (.fad 0 (.t 5)),
 ol 49 2 48,
 oo 50 (.fad 0 (.t 6)),
 ol 51 2 50,
 oo 52 (.call Qbx [(.t 49), (.t 51)] false),
 ol 53 4 5,
 oo 54 (.call Qds [(.t 53)] false),
 ol 55 4 6,
 oo 56 (.call Qds [(.t 55)] false),
 oo 57 (.call Qbx [(.t 54), (.t 56)] false),
 oo 58 (.call Qe4 [(.t 52), (.t 57)] false),
 ⟨none, .store 4 (.t 4) (.t 58), none⟩] []) <|
 .keep [4] [[4]]) <|
 .ret, [.cell 4 (some 4)]⟩

def rat_Sign : CF := ⟨1, .seq (.seq (.reg [oo 1 (.box (.t 0)),
 oo 2 (.mov (.c (.v (.int .i64 0))))] []) <|
 .keep [1] [[1]]) <|
 .seq (.seq (.reg [oo 3 (.fad 0 (.t 1)),
 ol 4 2 3,
 oo 5 (.call QgY [(.t 4)] false),
 om 2 5] []) <|
 .keep [2] []) <|
 .ret, [.t 2]⟩

def QcL : C :=
 .seq (.seq (.seq (.reg [oo 13 (.bin .lss (.t 12) (.t 11))] []) <|
 .keep [0, 3, 11, 12, 13] [[3]]) <|
 .seq (.cond (.t 13) (.skip) <|
 .seq (.keep [] []) <|
 .exit 0) <|
 .seq (.seq (.blk 1 <|
 .seq (.seq (.reg [om 14 12,
 om 5 14] []) <|
 .keep [0, 3, 5, 11, 12] [[3]]) <|
 .seq (.seq (.reg [om 15 0,
 om 16 5,
 oo 17 (.ixa 2 (.t 15) (.t 16)),
 ol 18 2 17,
 om 19 0,
 om 20 5,
 oo 21 (.call QeH [(.t 19), (.t 20)] false),
 oo 6 (.new [.v (.int .i64 0), .v (.int .i64 0)]),
 oo 7 (.new [.v (.int .i64 0), .v (.int .i64 0)]),
 ⟨none, .store 2 (.t 6) (.t 18), none⟩,
 ⟨none, .store 2 (.t 7) (.t 21), none⟩] []) <|
 .keep [0, 3, 6, 7, 11, 12] [[3], [6], [7]]) <|
 .seq (.seq (.reg [oo 22 (.fad 0 (.t 3)),
 ol 23 4 22,
 oo 24 (.fad 0 (.t 6)),
 oo 25 (.load none (.t 24)),
 oo 26 (.call Qcy [(.t 25), (.c (.v (.int .i64 1)))] false),
 oo 27 (.call QhZ [(.t 23), (.t 26)] false),
 oo 28 (.fad 4 (.t 3)),
 ol 29 4 28,
 oo 30 (.fad 1 (.t 6)),
 oo 31 (.load none (.t 30)),
 oo 32 (.call Qcy [(.t 31), (.c (.v (.int .i64 1)))] false),
 oo 33 (.call QhZ [(.t 29), (.t 32)] false),
 oo 8 (.new [.v (.bool false), .z true, .v (.bool false), .z true]),
 oo 9 (.new [.v (.bool false), .z true, .v (.bool false), .z true]),
 ⟨none, .store 4 (.t 8) (.t 27), none⟩,
 ⟨none, .store 4 (.t 9) (.t 33), none⟩] []) <|
 .keep [0, 3, 6, 7, 8, 9, 11, 12] [[3], [6], [7], [8], [9]]) <|
 .seq (.seq (.reg [oo 34 (.fad 0 (.t 7)),
 oo 35 (.load none (.t 34)),
 oo 36 (.fad 0 (.t 6)),
 oo 37 (.load none (.t 36)),
 oo 38 (.bin .sub (.t 35) (.t 37)),
 oo 39 (.call Qcy [(.t 38), (.c (.v (.int .i64 1)))] false),
 ol 40 4 9,
 oo 41 (.call Qc8 [(.t 39), (.t 40)] false),
 oo 42 (.fad 1 (.t 7)),
 oo 43 (.load none (.t 42)),
 oo 44 (.fad 1 (.t 6)),
 oo 45 (.load none (.t 44)),
 oo 46 (.bin .sub (.t 43) (.t 45)),
 oo 47 (.call Qcy [(.t 46), (.c (.v (.int .i64 1)))] false),
 ol 48 4 8,
 oo 49 (.call Qc8 [(.t 47), (.t 48)] false),
 oo 50 (.call QeE [(.t 41), (.t 49)] false),
 oo 51 (.bin .lss (.t 50) (.c (.v (.int .i64 0))))] []) <|
 .keep [0, 3, 11, 12, 51] [[3]]) <|
 .cond (.t 51) (.seq (.seq (.reg [oo 4 (.mov (.c (.v (.bool false))))] []) <|
 .keep [4] []) <|
 .ret) <|
 .skip) <|
 .keep [0, 3, 11, 12] [[3]]) <|
 .seq (.reg [oo 52 (.bin .add (.t 12) (.c (.v (.int .i64 1)))),
 om 12 52] []) <|
 .keep [0, 3, 11, 12] [[3]]) <|
 .keep [0, 3, 11, 12] [[3]]
def convex_Has : CF := ⟨2, .seq (.seq (.reg [oo 3 (.box (.t 1)),
 oo 4 (.mov (.c (.v (.bool false))))] []) <|
 .keep [0, 3] [[3]]) <|
 .seq (.seq (.seq (.reg [om 10 0,
 oo 11 (.len (.t 10)),
 oo 12 (.mov (.c (.v (.int .i64 0))))] []) <|
 .keep [0, 3, 11, 12] [[3]]) <|
 .seq (.blk 0 <|
 .seq (.keep [0, 3, 11, 12] [[3]]) <|
 .loop QcL) <|
 .keep [] []) <|
 .seq (.seq (.reg [oo 4 (.mov (.c (.v (.bool true))))] []) <|
 .keep [4] []) <|
 .ret, [.t 4]⟩

def Qa3 : C :=
 .seq (.seq (.seq (.seq (.reg [om 9 8,
 om 10 0,
 oo 11 (.len (.t 10)),
 oo 12 (.bin .lss (.t 9) (.t 11))] []) <|
 .keep [0, 1, 2, 7, 8, 12] [[32]]) <|
 .cond (.t 12) (.skip) <|
 .seq (.keep [7] [[32]]) <|
 .exit 0) <|
 .seq (.seq (.blk 1 <|
 .seq (.reg [om 15 7,
 om 16 0,
 om 17 8,
 oo 18 (.ixa 2 (.t 16) (.t 17)),
 oo 19 (.fad 0 (.t 18)),
 oo 20 (.load none (.t 19)),
 om 21 1,
 oo 22 (.bin .add (.t 20) (.t 21)),
 om 23 0,
 om 24 8,
 oo 25 (.ixa 2 (.t 23) (.t 24)),
 oo 26 (.fad 1 (.t 25)),
 oo 27 (.load none (.t 26)),
 om 28 2,
 oo 29 (.bin .add (.t 27) (.t 28)),
 oo 30 (.build [.v (.int .i64 0), .v (.int .i64 0)] [(0, 1, (.t 22)), (1, 1, (.t 29))]),
 oo 31 (.lit 2 1 [.v (.int .i64 0), .v (.int .i64 0)] [(0, (.t 30))] true),
 oo 32 (.app 2 16 (.t 15) (.t 31) false),
 om 7 32] []) <|
 .keep [0, 1, 2, 7, 8] [[32]]) <|
 .keep [0, 1, 2, 7, 8] [[32]]) <|
 .seq (.reg [om 13 8,
 oo 14 (.bin .add (.t 13) (.c (.v (.int .i64 1)))),
 om 8 14] []) <|
 .keep [0, 1, 2, 7, 8] [[32]]) <|
 .keep [0, 1, 2, 7, 8] [[32]]
def gantryref12_Move : CF := ⟨3, .seq (.seq (.reg [oo 6 (.mov (.c (.z true)))] []) <|
 .keep [0, 1, 2] []) <|
 .seq (.seq (.reg [oo 7 (.mov (.c (.z true)))] []) <|
 .keep [0, 1, 2, 7] [[32]]) <|
 .seq (.seq (.seq (.reg [oo 8 (.mov (.c (.v (.int .i64 0))))] []) <|
 .keep [0, 1, 2, 7, 8] [[32]]) <|
 .seq (.blk 0 <|
 .seq (.keep [0, 1, 2, 7, 8] [[32]]) <|
 .loop Qa3) <|
 .keep [7] [[32]]) <|
 .seq (.seq (.reg [om 33 7,
 om 6 33] []) <|
 .keep [6] [[32]]) <|
 .ret, [.t 6]⟩

def gantryref12_Norm : CF := ⟨2, .seq (.seq (.reg [oo 2 (.box (.t 0)),
 oo 3 (.box (.t 1)),
 oo 4 (.new [.v (.int .i64 0), .v (.int .i64 0), .v (.int .i64 0)]),
 oo 5 (.mov (.c (.v (.bool false))))] []) <|
 .keep [2, 3, 4] [[2], [3], [4]]) <|
 .seq (.seq (.reg [oo 13 (.fad 0 (.t 3)),
 oo 14 (.load none (.t 13)),
 oo 15 (.fad 0 (.t 2)),
 oo 16 (.load none (.t 15)),
 oo 17 (.bin .sub (.t 14) (.t 16)),
 om 6 17] []) <|
 .keep [2, 3, 4, 6] [[2], [3], [4]]) <|
 .seq (.seq (.reg [oo 18 (.fad 1 (.t 3)),
 oo 19 (.load none (.t 18)),
 oo 20 (.fad 1 (.t 2)),
 oo 21 (.load none (.t 20)),
 oo 22 (.bin .sub (.t 19) (.t 21)),
 om 7 22] []) <|
 .keep [4, 6, 7] [[4]]) <|
 .seq (.seq (.reg [om 24 6,
 om 25 6,
 oo 26 (.bin .mul (.t 24) (.t 25)),
 om 27 7,
 om 28 7,
 oo 29 (.bin .mul (.t 27) (.t 28)),
 oo 30 (.bin .add (.t 26) (.t 29)),
 oo 31 (.call QaM [(.t 30)] false),
 oo 32 (.call Qfg [(.t 31)] false),
 om 23 32,
 oo 33 (.ext (.t 23) 0),
 oo 34 (.ext (.t 23) 1),
 oo 8 (.new [.v (.bool false), .z true]),
 ⟨none, .store 2 (.t 8) (.t 33), none⟩,
 om 9 34] []) <|
 .keep [4, 6, 7, 8, 9] [[4], [8]]) <|
 .seq (.seq (.reg [ol 36 2 8,
 oo 37 (.call QeL [(.t 36)] false),
 om 35 37,
 oo 38 (.ext (.t 35) 0),
 oo 39 (.ext (.t 35) 1),
 om 10 38,
 om 11 39] []) <|
 .keep [4, 6, 7, 9, 10] [[4]]) <|
 .seq (.seq (.seq (.reg [om 40 9,
 oo 41 (.un .not (.t 40)),
 om 42 41,
 og 43 42 false (.mov (.t 10)),
 og 44 42 false (.bin .eql (.t 43) (.c (.v (.int .i64 0)))),
 oo 45 (.pick (.t 42) (.c (.v (.bool true))) (.t 44))] []) <|
 .keep [4, 6, 7, 10, 45] [[4]]) <|
 .cond (.t 45) (.seq (.seq (.reg [oo 46 (.build [.v (.int .i64 0), .v (.int .i64 0), .v (.int .i64 0)] []),
 ⟨none, .store 3 (.t 4) (.t 46), none⟩,
 oo 5 (.mov (.c (.v (.bool false))))] []) <|
 .keep [4, 5] [[4]]) <|
 .ret) <|
 .skip) <|
 .seq (.seq (.reg [om 47 6,
 oo 48 (.call Qd2 [(.t 47)] false),
 om 49 7,
 oo 50 (.call Qd2 [(.t 49)] false),
 oo 51 (.call Qc6 [(.t 48), (.t 50)] false),
 om 52 10,
 oo 53 (.call Qc6 [(.t 51), (.t 52)] false),
 om 12 53] []) <|
 .keep [4, 6, 7, 10, 12] [[4]]) <|
 .seq (.seq (.reg [om 54 7,
 om 55 12,
 oo 56 (.bin .quo (.t 54) (.t 55)),
 om 57 6,
 oo 58 (.un .neg (.t 57)),
 om 59 12,
 oo 60 (.bin .quo (.t 58) (.t 59)),
 om 61 10,
 om 62 12,
 oo 63 (.bin .quo (.t 61) (.t 62)),
 oo 64 (.build [.v (.int .i64 0), .v (.int .i64 0), .v (.int .i64 0)] [(0, 1, (.t 56)), (1, 1, (.t 60)), (2, 1, (.t 63))]),
 ⟨none, .store 3 (.t 4) (.t 64), none⟩,
 oo 5 (.mov (.c (.v (.bool true))))] []) <|
 .keep [4, 5] [[4]]) <|
 .ret, [.cell 4 (some 3), .t 5]⟩

def gantryref12_Next : CF := ⟨2, .seq (.seq (.reg [oo 4 (.new [.v (.int .i64 0), .v (.int .i64 0)])] []) <|
 .keep [0, 1, 4] [[4]]) <|
 .seq (.seq (.seq (.reg [om 5 1,
 oo 6 (.bin .add (.t 5) (.c (.v (.int .i64 1)))),
 om 7 0,
 oo 8 (.len (.t 7)),
 oo 9 (.bin .lss (.t 6) (.t 8))] []) <|
 .keep [0, 1, 4, 9] [[4]]) <|
 .cond (.t 9) (.seq (.seq (.reg [om 10 0,
 om 11 1,
 oo 12 (.bin .add (.t 11) (.c (.v (.int .i64 1)))),
 oo 13 (.ixa 2 (.t 10) (.t 12)),
 ol 14 2 13,
 ⟨none, .store 2 (.t 4) (.t 14), none⟩] []) <|
 .keep [4] [[4]]) <|
 .ret) <|
 .skip) <|
 .seq (.seq (.reg [om 15 0,
 oo 16 (.ixa 2 (.t 15) (.c (.v (.int .i64 0)))),
 ol 17 2 16,
 ⟨none, .store 2 (.t 4) (.t 17), none⟩] []) <|
 .keep [4] [[4]]) <|
 .ret, [.cell 4 (some 2)]⟩

def gantryref12_Turn : CF := ⟨1, .seq (.seq (.reg [oo 1 (.box (.t 0)),
 oo 2 (.new [.v (.int .i64 0), .v (.int .i64 0), .v (.int .i64 0)])] []) <|
 .keep [1, 2] [[1], [2]]) <|
 .seq (.seq (.reg [oo 3 (.fad 0 (.t 1)),
 oo 4 (.load none (.t 3)),
 oo 5 (.un .neg (.t 4)),
 oo 6 (.fad 1 (.t 1)),
 oo 7 (.load none (.t 6)),
 oo 8 (.un .neg (.t 7)),
 oo 9 (.fad 2 (.t 1)),
 oo 10 (.load none (.t 9)),
 oo 11 (.build [.v (.int .i64 0), .v (.int .i64 0), .v (.int .i64 0)] [(0, 1, (.t 5)), (1, 1, (.t 8)), (2, 1, (.t 10))]),
 ⟨none, .store 3 (.t 2) (.t 11), none⟩] []) <|
 .keep [2] [[2]]) <|
 .ret, [.cell 2 (some 3)]⟩

def QbN : C :=
 .seq (.seq (.seq (.seq (.reg [om 22 6,
 om 23 0,
 oo 24 (.len (.t 23)),
 oo 25 (.bin .lss (.t 22) (.t 24))] []) <|
 .keep [0, 3, 5, 6, 25] [[3]]) <|
 .cond (.t 25) (.skip) <|
 .seq (.keep [5] []) <|
 .exit 0) <|
 .seq (.seq (.blk 1 <|
 .seq (.reg [om 28 5,
 oo 29 (.fad 0 (.t 3)),
 oo 30 (.load none (.t 29)),
 om 31 0,
 om 32 6,
 oo 33 (.ixa 2 (.t 31) (.t 32)),
 oo 34 (.fad 0 (.t 33)),
 oo 35 (.load none (.t 34)),
 oo 36 (.bin .mul (.t 30) (.t 35)),
 oo 37 (.fad 1 (.t 3)),
 oo 38 (.load none (.t 37)),
 om 39 0,
 om 40 6,
 oo 41 (.ixa 2 (.t 39) (.t 40)),
 oo 42 (.fad 1 (.t 41)),
 oo 43 (.load none (.t 42)),
 oo 44 (.bin .mul (.t 38) (.t 43)),
 oo 45 (.bin .add (.t 36) (.t 44)),
 oo 46 (.mx [(.t 28), (.t 45)]),
 om 5 46] []) <|
 .keep [0, 3, 5, 6] [[3]]) <|
 .keep [0, 3, 5, 6] [[3]]) <|
 .seq (.reg [om 26 6,
 oo 27 (.bin .add (.t 26) (.c (.v (.int .i64 1)))),
 om 6 27] []) <|
 .keep [0, 3, 5, 6] [[3]]) <|
 .keep [0, 3, 5, 6] [[3]]
def gantryref12_Most : CF := ⟨2, .seq (.seq (.reg [oo 3 (.box (.t 1)),
 oo 4 (.mov (.c (.v (.int .i64 0))))] []) <|
 .keep [0, 3] [[3]]) <|
 .seq (.seq (.reg [oo 7 (.fad 0 (.t 3)),
 oo 8 (.load none (.t 7)),
 om 9 0,
 oo 10 (.ixa 2 (.t 9) (.c (.v (.int .i64 0)))),
 oo 11 (.fad 0 (.t 10)),
 oo 12 (.load none (.t 11)),
 oo 13 (.bin .mul (.t 8) (.t 12)),
 oo 14 (.fad 1 (.t 3)),
 oo 15 (.load none (.t 14)),
 om 16 0,
 oo 17 (.ixa 2 (.t 16) (.c (.v (.int .i64 0)))),
 oo 18 (.fad 1 (.t 17)),
 oo 19 (.load none (.t 18)),
 oo 20 (.bin .mul (.t 15) (.t 19)),
 oo 21 (.bin .add (.t 13) (.t 20)),
 om 5 21] []) <|
 .keep [0, 3, 5] [[3]]) <|
 .seq (.seq (.seq (.reg [oo 6 (.mov (.c (.v (.int .i64 0))))] []) <|
 .keep [0, 3, 5, 6] [[3]]) <|
 .seq (.blk 0 <|
 .seq (.keep [0, 3, 5, 6] [[3]]) <|
 .loop QbN) <|
 .keep [5] []) <|
 .seq (.seq (.reg [om 47 5,
 om 4 47] []) <|
 .keep [4] []) <|
 .ret, [.t 4]⟩

def gantryref05_Mul : CF := ⟨2, .seq (.seq (.reg [oo 2 (.box (.t 0)),
 oo 3 (.box (.t 1)),
 oo 4 (.new [.v (.bool false), .z true, .v (.bool false), .z true])] []) <|
 .keep [2, 3, 4] [[2], [3], [4]]) <|
 .seq (.seq (.reg [oo 5 (.fad 0 (.t 2)),
 ol 6 2 5,
 oo 7 (.fad 0 (.t 3)),
 ol 8 2 7,
 oo 9 (.call QaR [(.t 6), (.t 8)] false),
 ol 10 4 2,
 oo 11 (.call Qa7 [(.t 10)] false),
 ol 12 4 3,
 oo 13 (.call Qa7 [(.t 12)] false),
 oo 14 (.call QaR [(.t 11), (.t 13)] false),
 oo 15 (.call Qcp [(.t 9), (.t 14)] false),
 ⟨none, .store 4 (.t 4) (.t 15), none⟩] []) <|
 .keep [4] [[4]]) <|
 .ret, [.cell 4 (some 4)]⟩

def gantryref05_Make : CF := ⟨2, .seq (.seq (.reg [oo 2 (.box (.t 0)),
 oo 3 (.box (.t 1)),
 oo 4 (.new [.v (.bool false), .z true, .v (.bool false), .z true])] []) <|
 .keep [2, 3, 4] [[2], [3], [4]]) <|
 .seq (.seq (.seq (.reg [oo 10 (.fad 1 (.t 3)),
 oo 11 (.load none (.t 10)),
 oo 12 (.len (.t 11)),
 oo 13 (.bin .eql (.t 12) (.c (.v (.int .i64 0)))),
 om 14 13,
 og 15 14 false (.fad 1 (.t 2)),
 og 16 14 false (.load none (.t 15)),
 og 17 14 false (.len (.t 16)),
 og 18 14 false (.bin .eql (.t 17) (.c (.v (.int .i64 0)))),
 oo 19 (.pick (.t 14) (.c (.v (.bool true))) (.t 18))] []) <|
 .keep [2, 3, 4, 19] [[2], [3], [4]]) <|
 .cond (.t 19) (.seq (.seq (.reg [oo 20 (.build [.v (.bool false), .z true, .v (.bool false), .z true] []),
 ⟨none, .store 4 (.t 4) (.t 20), none⟩] []) <|
 .keep [4] [[4]]) <|
 .ret) <|
 .skip) <|
 .seq (.seq (.reg [ol 21 2 2,
 ol 22 2 3,
 oo 23 (.call Qfw [(.t 21), (.t 22)] false),
 oo 5 (.new [.v (.bool false), .z true]),
 ⟨none, .store 2 (.t 5) (.t 23), none⟩] []) <|
 .keep [2, 3, 4, 5] [[2], [3], [4], [5]]) <|
 .seq (.seq (.reg [ol 25 2 2,
 ol 26 2 5,
 oo 27 (.call QcI [(.t 25), (.t 26)] false),
 om 24 27,
 oo 28 (.ext (.t 24) 0),
 oo 29 (.ext (.t 24) 1),
 oo 6 (.new [.v (.bool false), .z true]),
 oo 7 (.new [.v (.bool false), .z true]),
 ⟨none, .store 2 (.t 6) (.t 28), none⟩,
 ⟨none, .store 2 (.t 7) (.t 29), none⟩] []) <|
 .keep [3, 4, 5, 6] [[3], [4], [5], [6]]) <|
 .seq (.seq (.reg [ol 31 2 3,
 ol 32 2 5,
 oo 33 (.call QcI [(.t 31), (.t 32)] false),
 om 30 33,
 oo 34 (.ext (.t 30) 0),
 oo 35 (.ext (.t 30) 1),
 oo 8 (.new [.v (.bool false), .z true]),
 oo 9 (.new [.v (.bool false), .z true]),
 ⟨none, .store 2 (.t 8) (.t 34), none⟩,
 ⟨none, .store 2 (.t 9) (.t 35), none⟩] []) <|
 .keep [4, 6, 8] [[4], [6], [8]]) <|
 .seq (.seq (.seq (.reg [oo 36 (.fad 0 (.t 8)),
 oo 37 (.load none (.t 36))] []) <|
 .keep [4, 6, 8, 37] [[4], [6], [8]]) <|
 .cond (.t 37) (.seq (.seq (.reg [ol 38 2 6,
 oo 39 (.call Qde [(.t 38)] false),
 ⟨none, .store 2 (.t 6) (.t 39), none⟩] []) <|
 .keep [4, 6, 8] [[4], [6], [8]]) <|
 .seq (.reg [ol 40 2 8,
 oo 41 (.call Qde [(.t 40)] false),
 ⟨none, .store 2 (.t 8) (.t 41), none⟩] []) <|
 .keep [4, 6, 8] [[4], [6], [8]]) <|
 .skip) <|
 .seq (.seq (.seq (.reg [ol 42 2 8,
 oo 43 (.call QfD [(.t 42)] false)] []) <|
 .keep [4, 6, 8, 43] [[4], [6], [8]]) <|
 .cond (.t 43) (.seq (.seq (.reg [ol 44 2 6,
 oo 45 (.build [.v (.bool false), .z true, .v (.bool false), .z true] [(0, 2, (.t 44))]),
 ⟨none, .store 4 (.t 4) (.t 45), none⟩] []) <|
 .keep [4] [[4]]) <|
 .ret) <|
 .skip) <|
 .seq (.seq (.reg [ol 46 2 6,
 ol 47 2 8,
 oo 48 (.build [.v (.bool false), .z true, .v (.bool false), .z true] [(0, 2, (.t 46)), (2, 2, (.t 47))]),
 ⟨none, .store 4 (.t 4) (.t 48), none⟩] []) <|
 .keep [4] [[4]]) <|
 .ret, [.cell 4 (some 4)]⟩

def QaX : C :=
 .seq (.seq (.seq (.seq (.reg [om 8 0,
 oo 9 (.bin .neq (.t 8) (.c (.v (.int .i64 0))))] []) <|
 .keep [0, 2, 3, 4, 9] [[2], [19]]) <|
 .cond (.t 9) (.skip) <|
 .seq (.keep [2, 3, 4] [[2], [19]]) <|
 .exit 0) <|
 .seq (.blk 1 <|
 .seq (.seq (.reg [om 10 0,
 oo 11 (.bin .rem (.t 10) (.c (.v (.int .i64 1000000000)))),
 om 5 11] []) <|
 .keep [0, 2, 3, 4, 5] [[2], [19]]) <|
 .seq (.seq (.seq (.reg [om 12 5,
 oo 13 (.bin .lss (.t 12) (.c (.v (.int .i64 0))))] []) <|
 .keep [0, 2, 3, 4, 5, 13] [[2], [19]]) <|
 .cond (.t 13) (.seq (.reg [om 14 5,
 oo 15 (.un .neg (.t 14)),
 om 5 15] []) <|
 .keep [0, 2, 3, 4, 5] [[2], [19]]) <|
 .skip) <|
 .seq (.seq (.reg [om 16 3,
 om 17 5,
 oo 18 (.lit 1 1 [.v (.int .i64 0)] [(0, (.t 17))] true),
 oo 19 (.app 1 8 (.t 16) (.t 18) false),
 om 3 19] []) <|
 .keep [0, 2, 3, 4] [[2], [19]]) <|
 .seq (.reg [om 20 0,
 oo 21 (.bin .quo (.t 20) (.c (.v (.int .i64 1000000000)))),
 om 0 21] []) <|
 .keep [0, 2, 3, 4] [[2], [19]]) <|
 .keep [0, 2, 3, 4] [[2], [19]]) <|
 .keep [0, 2, 3, 4] [[2], [19]]
def gantryref04_Of : CF := ⟨1, .seq (.seq (.reg [oo 2 (.new [.v (.bool false), .z true])] []) <|
 .keep [0, 2] [[2]]) <|
 .seq (.seq (.reg [oo 3 (.mov (.c (.z true)))] []) <|
 .keep [0, 2, 3] [[2], [19]]) <|
 .seq (.seq (.reg [om 6 0,
 oo 7 (.bin .lss (.t 6) (.c (.v (.int .i64 0)))),
 om 4 7] []) <|
 .keep [0, 2, 3, 4] [[2], [19]]) <|
 .seq (.seq (.blk 0 <|
 .seq (.keep [0, 2, 3, 4] [[2], [19]]) <|
 .loop QaX) <|
 .keep [2, 3, 4] [[2], [19]]) <|
 .seq (.seq (.frz 3) <|
 .seq (.reg [om 22 4,
 om 23 3,
 oo 24 (.call Qam [(.t 22), (.t 23)] false),
 ⟨none, .store 2 (.t 2) (.t 24), none⟩] []) <|
 .keep [2] [[2]]) <|
 .ret, [.cell 2 (some 2)]⟩

def Qao : C :=
 .seq (.seq (.seq (.reg [oo 9 (.bin .lss (.t 8) (.t 7))] []) <|
 .keep [0, 1, 7, 8, 9] []) <|
 .seq (.cond (.t 9) (.skip) <|
 .seq (.keep [] []) <|
 .exit 0) <|
 .seq (.seq (.blk 1 <|
 .seq (.seq (.reg [om 10 8,
 om 5 10] []) <|
 .keep [0, 1, 5, 7, 8] []) <|
 .seq (.seq (.reg [om 11 1,
 om 12 0,
 om 13 5,
 oo 14 (.ixa 4 (.t 12) (.t 13)),
 ol 15 4 14,
 oo 16 (.calv (.t 11) [(.t 15)])] []) <|
 .keep [0, 1, 5, 7, 8, 16] []) <|
 .cond (.t 16) (.seq (.seq (.reg [om 17 5,
 om 4 17] []) <|
 .keep [4] []) <|
 .ret) <|
 .skip) <|
 .keep [0, 1, 7, 8] []) <|
 .seq (.reg [oo 18 (.bin .add (.t 8) (.c (.v (.int .i64 1)))),
 om 8 18] []) <|
 .keep [0, 1, 7, 8] []) <|
 .keep [0, 1, 7, 8] []
def slices_IndexFunc_api_Edge_api_Edge : CF := ⟨2, .seq (.seq (.reg [oo 4 (.mov (.c (.v (.int .i64 0))))] []) <|
 .keep [0, 1] []) <|
 .seq (.seq (.seq (.reg [om 6 0,
 oo 7 (.len (.t 6)),
 oo 8 (.mov (.c (.v (.int .i64 0))))] []) <|
 .keep [0, 1, 7, 8] []) <|
 .seq (.blk 0 <|
 .seq (.keep [0, 1, 7, 8] []) <|
 .loop Qao) <|
 .keep [] []) <|
 .seq (.seq (.reg [oo 4 (.mov (.c (.v (.int .i64 (-1)))))] []) <|
 .keep [4] []) <|
 .ret, [.t 4]⟩

def gap_Free_1 : CF := ⟨4, .seq (.seq (.reg [oo 4 (.box (.t 0)),
 oo 5 (.mov (.c (.v (.bool false))))] []) <|
 .keep [1, 2, 3, 4] [[4]]) <|
 .seq (.seq (.reg [ol 6 4 4,
 ol 7 8 1,
 ol 8 8 2,
 ol 9 8 3,
 oo 10 (.call Qhc [(.t 6), (.t 7), (.t 8), (.t 9)] false),
 oo 11 (.call QkV [(.t 10)] false),
 om 5 11] []) <|
 .keep [5] []) <|
 .ret, [.t 5]⟩

def gap_Contact_1 : CF := ⟨3, .seq (.seq (.reg [oo 3 (.box (.t 0)),
 oo 4 (.mov (.c (.v (.bool false))))] []) <|
 .keep [1, 2, 3] [[3]]) <|
 .seq (.seq (.reg [ol 6 4 3,
 ol 7 8 1,
 oo 8 (.call QbY [(.t 6), (.t 7)] false),
 oo 9 (.call QbB [(.t 8)] false),
 om 5 9] []) <|
 .keep [2, 3, 5] [[3]]) <|
 .seq (.seq (.reg [om 10 5,
 oo 11 (.bin .gtr (.t 10) (.c (.v (.int .i64 0)))),
 om 12 11,
 og 13 12 false (.mov (.t 5)),
 og 14 12 false (.bin .eql (.t 13) (.c (.v (.int .i64 0)))),
 og 15 12 false (.mov (.t 14)),
 og 16 15 true (.fad 0 (.t 3)),
 og 17 15 true (.load (some 3) (.t 16)),
 og 18 15 true (.load (some 8) (.t 2)),
 og 19 15 true (.call QeJ [(.t 17), (.t 18)] false),
 og 20 15 true (.call QbB [(.t 19)] false),
 og 21 15 true (.bin .gtr (.t 20) (.c (.v (.int .i64 0)))),
 og 22 12 false (.pick (.t 15) (.t 21) (.c (.v (.bool false)))),
 oo 23 (.pick (.t 12) (.c (.v (.bool true))) (.t 22)),
 om 4 23] []) <|
 .keep [4] []) <|
 .ret, [.t 4]⟩

def gap_rate : CF := ⟨2, .seq (.seq (.reg [oo 2 (.box (.t 0)),
 oo 3 (.box (.t 1)),
 oo 4 (.new [.v (.bool false), .z true, .v (.bool false), .z true])] []) <|
 .keep [2, 3, 4] [[2], [3], [4]]) <|
 .seq (.seq (.reg [oo 5 (.fad 0 (.t 2)),
 oo 6 (.load none (.t 5)),
 oo 7 (.call Qcy [(.t 6), (.c (.v (.int .i64 1)))] false),
 oo 8 (.fad 0 (.t 3)),
 ol 9 4 8,
 oo 10 (.call Qc8 [(.t 7), (.t 9)] false),
 oo 11 (.fad 1 (.t 2)),
 oo 12 (.load none (.t 11)),
 oo 13 (.call Qcy [(.t 12), (.c (.v (.int .i64 1)))] false),
 oo 14 (.fad 4 (.t 3)),
 ol 15 4 14,
 oo 16 (.call Qc8 [(.t 13), (.t 15)] false),
 oo 17 (.call Qgq [(.t 10), (.t 16)] false),
 oo 18 (.fad 2 (.t 2)),
 oo 19 (.load none (.t 18)),
 oo 20 (.call Qcy [(.t 19), (.c (.v (.int .i64 1)))] false),
 oo 21 (.call QkO [(.t 17), (.t 20)] false),
 ⟨none, .store 4 (.t 4) (.t 21), none⟩] []) <|
 .keep [4] [[4]]) <|
 .ret, [.cell 4 (some 4)]⟩

def slices_ContainsFunc_api_Edge_api_Edge : CF := ⟨2, .seq (.seq (.reg [oo 4 (.mov (.c (.v (.bool false))))] []) <|
 .keep [0, 1] []) <|
 .seq (.seq (.reg [om 5 0,
 om 6 1,
 oo 7 (.call Qbl [(.t 5), (.t 6)] false),
 oo 8 (.bin .geq (.t 7) (.c (.v (.int .i64 0)))),
 om 4 8] []) <|
 .keep [4] []) <|
 .ret, [.t 4]⟩

def QaI : C :=
 .seq (.seq (.seq (.reg [oo 14 (.bin .lss (.t 13) (.t 12))] []) <|
 .keep [1, 5, 6, 11, 12, 13, 14] [[6]]) <|
 .seq (.cond (.t 14) (.skip) <|
 .seq (.keep [5] []) <|
 .exit 0) <|
 .seq (.seq (.blk 1 <|
 .seq (.seq (.reg [om 15 13,
 oo 16 (.ixa 4 (.t 11) (.t 13)),
 ol 17 4 16,
 oo 8 (.new [.v (.int .i64 0), .v (.int .i64 0), .v (.int .i64 0), .v (.int .i64 0)]),
 om 7 15,
 ⟨none, .store 4 (.t 8) (.t 17), none⟩] []) <|
 .keep [1, 5, 6, 7, 8, 11, 12, 13] [[6], [8]]) <|
 .seq (.seq (.reg [om 19 1,
 ol 20 4 8,
 oo 21 (.calv (.t 19) [(.t 20)]),
 om 18 21,
 oo 22 (.ext (.t 18) 0),
 oo 23 (.ext (.t 18) 1),
 oo 9 (.new [.v (.bool false), .z true, .v (.bool false), .z true]),
 ⟨none, .store 4 (.t 9) (.t 22), none⟩,
 om 10 23] []) <|
 .keep [1, 5, 6, 7, 9, 10, 11, 12, 13] [[6], [9]]) <|
 .seq (.seq (.reg [om 24 10,
 om 25 24,
 og 26 25 true (.mov (.t 5)),
 og 27 25 true (.bin .lss (.t 26) (.c (.v (.int .i64 0)))),
 og 28 25 true (.mov (.t 27)),
 og 29 28 false (.load (some 4) (.t 9)),
 og 30 28 false (.load (some 4) (.t 6)),
 og 31 28 false (.call QeE [(.t 29), (.t 30)] false),
 og 32 28 false (.bin .gtr (.t 31) (.c (.v (.int .i64 0)))),
 og 33 25 true (.pick (.t 28) (.c (.v (.bool true))) (.t 32)),
 oo 34 (.pick (.t 25) (.t 33) (.c (.v (.bool false))))] []) <|
 .keep [1, 5, 6, 7, 9, 11, 12, 13, 34] [[6], [9]]) <|
 .cond (.t 34) (.seq (.reg [om 35 7,
 ol 36 4 9,
 om 5 35,
 ⟨none, .store 4 (.t 6) (.t 36), none⟩] []) <|
 .keep [1, 5, 6, 11, 12, 13] [[6]]) <|
 .skip) <|
 .keep [1, 5, 6, 11, 12, 13] [[6]]) <|
 .seq (.reg [oo 37 (.bin .add (.t 13) (.c (.v (.int .i64 1)))),
 om 13 37] []) <|
 .keep [1, 5, 6, 11, 12, 13] [[6]]) <|
 .keep [1, 5, 6, 11, 12, 13] [[6]]
def gap_greatest_api_Edge : CF := ⟨2, .seq (.seq (.reg [oo 4 (.mov (.c (.v (.int .i64 0))))] []) <|
 .keep [0, 1] []) <|
 .seq (.seq (.reg [oo 5 (.mov (.c (.v (.int .i64 (-1)))))] []) <|
 .keep [0, 1, 5] []) <|
 .seq (.seq (.reg [oo 6 (.new [.v (.bool false), .z true, .v (.bool false), .z true])] []) <|
 .keep [0, 1, 5, 6] [[6]]) <|
 .seq (.seq (.seq (.reg [om 11 0,
 oo 12 (.len (.t 11)),
 oo 13 (.mov (.c (.v (.int .i64 0))))] []) <|
 .keep [1, 5, 6, 11, 12, 13] [[6]]) <|
 .seq (.blk 0 <|
 .seq (.keep [1, 5, 6, 11, 12, 13] [[6]]) <|
 .loop QaI) <|
 .keep [5] []) <|
 .seq (.seq (.reg [om 38 5,
 om 4 38] []) <|
 .keep [4] []) <|
 .ret, [.t 4]⟩

def gap_Contact_2 : CF := ⟨3, .seq (.seq (.reg [oo 3 (.box (.t 0)),
 oo 4 (.new [.v (.bool false), .z true, .v (.bool false), .z true]),
 oo 5 (.mov (.c (.v (.bool false))))] []) <|
 .keep [1, 2, 3, 4] [[3], [4]]) <|
 .seq (.seq (.reg [oo 6 (.fad 0 (.t 3)),
 ol 7 3 6,
 ol 8 8 1,
 oo 9 (.call QeJ [(.t 7), (.t 8)] false),
 ol 10 4 3,
 ol 11 8 2,
 oo 12 (.call QbY [(.t 10), (.t 11)] false),
 oo 13 (.call QbB [(.t 12)] false),
 oo 14 (.bin .eql (.t 13) (.c (.v (.int .i64 0)))),
 ⟨none, .store 4 (.t 4) (.t 9), none⟩,
 om 5 14] []) <|
 .keep [4, 5] [[4]]) <|
 .ret, [.cell 4 (some 4), .t 5]⟩

def gantryref05_Sign : CF := ⟨1, .seq (.seq (.reg [oo 1 (.box (.t 0)),
 oo 2 (.mov (.c (.v (.int .i64 0))))] []) <|
 .keep [1] [[1]]) <|
 .seq (.seq (.reg [oo 3 (.fad 0 (.t 1)),
 ol 4 2 3,
 oo 5 (.call Qe5 [(.t 4)] false),
 om 2 5] []) <|
 .keep [2] []) <|
 .ret, [.t 2]⟩

def gantryref05_Add : CF := ⟨2, .seq (.seq (.reg [oo 2 (.box (.t 0)),
 oo 3 (.box (.t 1)),
 oo 4 (.new [.v (.bool false), .z true, .v (.bool false), .z true])] []) <|
 .keep [2, 3, 4] [[2], [3], [4]]) <|
 .seq (.seq (.reg [oo 7 (.fad 0 (.t 2)),
 ol 8 2 7,
 ol 9 4 3,
 oo 10 (.call Qa7 [(.t 9)] false),
 oo 11 (.call QaR [(.t 8), (.t 10)] false),
 oo 5 (.new [.v (.bool false), .z true]),
 ⟨none, .store 2 (.t 5) (.t 11), none⟩] []) <|
 .keep [2, 3, 4, 5] [[2], [3], [4], [5]]) <|
 .seq (.seq (.reg [oo 12 (.fad 0 (.t 3)),
 ol 13 2 12,
 ol 14 4 2,
 oo 15 (.call Qa7 [(.t 14)] false),
 oo 16 (.call QaR [(.t 13), (.t 15)] false),
 oo 6 (.new [.v (.bool false), .z true]),
 ⟨none, .store 2 (.t 6) (.t 16), none⟩] []) <|
 .keep [2, 3, 4, 5, 6] [[2], [3], [4], [5], [6]]) <|
 .seq (.seq (.reg [ol 17 2 5,
 ol 18 2 6,
 oo 19 (.call QcD [(.t 17), (.t 18)] false),
 ol 20 4 2,
 oo 21 (.call Qa7 [(.t 20)] false),
 ol 22 4 3,
 oo 23 (.call Qa7 [(.t 22)] false),
 oo 24 (.call QaR [(.t 21), (.t 23)] false),
 oo 25 (.call Qcp [(.t 19), (.t 24)] false),
 ⟨none, .store 4 (.t 4) (.t 25), none⟩] []) <|
 .keep [4] [[4]]) <|
 .ret, [.cell 4 (some 4)]⟩

def gap_Best_1 : CF := ⟨3, .seq (.seq (.reg [oo 3 (.box (.t 0)),
 oo 4 (.new [.v (.bool false), .z true, .v (.bool false), .z true]),
 oo 5 (.mov (.c (.v (.bool false))))] []) <|
 .keep [1, 2, 3, 4] [[3], [4]]) <|
 .seq (.seq (.reg [ol 6 4 3,
 ol 7 8 1,
 oo 8 (.call QbY [(.t 6), (.t 7)] false),
 ol 9 4 3,
 ol 10 8 2,
 oo 11 (.call QbY [(.t 9), (.t 10)] false),
 oo 12 (.call QbB [(.t 11)] false),
 oo 13 (.bin .geq (.t 12) (.c (.v (.int .i64 0)))),
 ⟨none, .store 4 (.t 4) (.t 8), none⟩,
 om 5 13] []) <|
 .keep [4, 5] [[4]]) <|
 .ret, [.cell 4 (some 4), .t 5]⟩

def gap_Meet_1 : CF := ⟨2, .seq (.seq (.reg [oo 2 (.box (.t 0)),
 oo 3 (.mov (.c (.v (.bool false))))] []) <|
 .keep [1, 2] [[2]]) <|
 .seq (.seq (.reg [ol 4 4 2,
 ol 5 8 1,
 oo 6 (.call QbY [(.t 4), (.t 5)] false),
 oo 7 (.call QbB [(.t 6)] false),
 oo 8 (.bin .geq (.t 7) (.c (.v (.int .i64 0)))),
 om 3 8] []) <|
 .keep [3] []) <|
 .ret, [.t 3]⟩

def gantrylaw13_vec : CF := ⟨2, .seq (.seq (.reg [oo 4 (.new [.v (.bool false), .z true, .v (.bool false), .z true, .v (.bool false), .z true, .v (.bool false), .z true])] []) <|
 .keep [0, 1, 4] [[4]]) <|
 .seq (.seq (.reg [om 5 0,
 oo 6 (.call QaF [(.t 5), (.c (.v (.int .i64 1)))] false),
 om 7 1,
 oo 8 (.call QaF [(.t 7), (.c (.v (.int .i64 1)))] false),
 oo 9 (.build [.v (.bool false), .z true, .v (.bool false), .z true, .v (.bool false), .z true, .v (.bool false), .z true] [(0, 4, (.t 6)), (4, 4, (.t 8))]),
 ⟨none, .store 8 (.t 4) (.t 9), none⟩] []) <|
 .keep [4] [[4]]) <|
 .ret, [.cell 4 (some 8)]⟩

def Qcr : C :=
 .seq (.seq (.seq (.seq (.reg [om 6 3,
 oo 7 (.bin .gtr (.t 6) (.c (.v (.int .i64 0)))),
 om 8 7,
 og 9 8 true (.mov (.t 0)),
 og 10 8 true (.mov (.t 3)),
 og 11 8 true (.bin .sub (.t 10) (.c (.v (.int .i64 1)))),
 og 12 8 true (.ixa 4 (.t 9) (.t 11)),
 og 13 8 true (.load (some 4) (.t 12)),
 og 14 8 true (.call QbB [(.t 13)] false),
 og 15 8 true (.bin .eql (.t 14) (.c (.v (.int .i64 0)))),
 oo 16 (.pick (.t 8) (.t 15) (.c (.v (.bool false))))] []) <|
 .keep [0, 3, 16] []) <|
 .cond (.t 16) (.skip) <|
 .seq (.keep [0, 3] []) <|
 .exit 0) <|
 .seq (.blk 1 <|
 .seq (.reg [om 17 3,
 oo 18 (.bin .sub (.t 17) (.c (.v (.int .i64 1)))),
 om 3 18] []) <|
 .keep [0, 3] []) <|
 .keep [0, 3] []) <|
 .keep [0, 3] []
def poly_Trim : CF := ⟨1, .seq (.seq (.reg [oo 2 (.mov (.c (.z true)))] []) <|
 .keep [0] []) <|
 .seq (.seq (.reg [om 4 0,
 oo 5 (.len (.t 4)),
 om 3 5] []) <|
 .keep [0, 3] []) <|
 .seq (.seq (.blk 0 <|
 .seq (.keep [0, 3] []) <|
 .loop Qcr) <|
 .keep [0, 3] []) <|
 .seq (.seq (.reg [om 19 0,
 om 20 3,
 oo 21 (.slc 4 (.t 19) none (some (.t 20)) none),
 oo 22 (.call QbM [(.t 21)] false),
 om 2 22] []) <|
 .keep [2] []) <|
 .ret, [.t 2]⟩

def QbK : C :=
 .seq (.seq (.seq (.seq (.reg [om 20 5,
 oo 21 (.fad 1 (.t 2)),
 oo 22 (.load none (.t 21)),
 oo 23 (.len (.t 22)),
 oo 24 (.bin .lss (.t 20) (.t 23))] []) <|
 .keep [2, 3, 5, 24] [[2], [3]]) <|
 .cond (.t 24) (.skip) <|
 .seq (.keep [] []) <|
 .exit 0) <|
 .seq (.seq (.blk 1 <|
 .seq (.seq (.reg [oo 27 (.fad 1 (.t 2)),
 oo 28 (.load none (.t 27)),
 om 29 5,
 oo 30 (.ixa 1 (.t 28) (.t 29)),
 oo 31 (.load none (.t 30)),
 oo 32 (.fad 1 (.t 3)),
 oo 33 (.load none (.t 32)),
 om 34 5,
 oo 35 (.ixa 1 (.t 33) (.t 34)),
 oo 36 (.load none (.t 35)),
 oo 37 (.bin .neq (.t 31) (.t 36))] []) <|
 .keep [2, 3, 5, 37] [[2], [3]]) <|
 .cond (.t 37) (.seq (.seq (.reg [oo 4 (.mov (.c (.v (.bool false))))] []) <|
 .keep [4] []) <|
 .ret) <|
 .skip) <|
 .keep [2, 3, 5] [[2], [3]]) <|
 .seq (.reg [om 25 5,
 oo 26 (.bin .add (.t 25) (.c (.v (.int .i64 1)))),
 om 5 26] []) <|
 .keep [2, 3, 5] [[2], [3]]) <|
 .keep [2, 3, 5] [[2], [3]]
def gantryref04_Same : CF := ⟨2, .seq (.seq (.reg [oo 2 (.box (.t 0)),
 oo 3 (.box (.t 1)),
 oo 4 (.mov (.c (.v (.bool false))))] []) <|
 .keep [2, 3] [[2], [3]]) <|
 .seq (.seq (.seq (.reg [oo 6 (.fad 0 (.t 2)),
 oo 7 (.load none (.t 6)),
 oo 8 (.fad 0 (.t 3)),
 oo 9 (.load none (.t 8)),
 oo 10 (.binb true (.t 7) (.t 9)),
 om 11 10,
 og 12 11 false (.fad 1 (.t 2)),
 og 13 11 false (.load none (.t 12)),
 og 14 11 false (.len (.t 13)),
 og 15 11 false (.fad 1 (.t 3)),
 og 16 11 false (.load none (.t 15)),
 og 17 11 false (.len (.t 16)),
 og 18 11 false (.bin .neq (.t 14) (.t 17)),
 oo 19 (.pick (.t 11) (.c (.v (.bool true))) (.t 18))] []) <|
 .keep [2, 3, 19] [[2], [3]]) <|
 .cond (.t 19) (.seq (.seq (.reg [oo 4 (.mov (.c (.v (.bool false))))] []) <|
 .keep [4] []) <|
 .ret) <|
 .skip) <|
 .seq (.seq (.seq (.reg [oo 5 (.mov (.c (.v (.int .i64 0))))] []) <|
 .keep [2, 3, 5] [[2], [3]]) <|
 .seq (.blk 0 <|
 .seq (.keep [2, 3, 5] [[2], [3]]) <|
 .loop QbK) <|
 .keep [] []) <|
 .seq (.seq (.reg [oo 4 (.mov (.c (.v (.bool true))))] []) <|
 .keep [4] []) <|
 .ret, [.t 4]⟩

def rat_Sub : CF := ⟨2, .seq (.seq (.reg [oo 2 (.box (.t 0)),
 oo 3 (.box (.t 1)),
 oo 4 (.new [.v (.bool false), .z true, .v (.bool false), .z true])] []) <|
 .keep [2, 3, 4] [[2], [3], [4]]) <|
 .seq (.seq (.reg [ol 5 4 2,
 ol 6 4 3,
 oo 7 (.call QkG [(.t 6)] false),
 oo 8 (.call Qgq [(.t 5), (.t 7)] false),
 ⟨none, .store 4 (.t 4) (.t 8), none⟩] []) <|
 .keep [4] [[4]]) <|
 .ret, [.cell 4 (some 4)]⟩

def gantryref05_Div : CF := ⟨2, .seq (.seq (.reg [oo 2 (.box (.t 0)),
 oo 3 (.box (.t 1)),
 oo 4 (.new [.v (.bool false), .z true, .v (.bool false), .z true])] []) <|
 .keep [2, 3, 4] [[2], [3], [4]]) <|
 .seq (.seq (.reg [oo 5 (.fad 0 (.t 2)),
 ol 6 2 5,
 ol 7 4 3,
 oo 8 (.call Qa7 [(.t 7)] false),
 oo 9 (.call QaR [(.t 6), (.t 8)] false),
 ol 10 4 2,
 oo 11 (.call Qa7 [(.t 10)] false),
 oo 12 (.fad 0 (.t 3)),
 ol 13 2 12,
 oo 14 (.call QaR [(.t 11), (.t 13)] false),
 oo 15 (.call Qcp [(.t 9), (.t 14)] false),
 ⟨none, .store 4 (.t 4) (.t 15), none⟩] []) <|
 .keep [4] [[4]]) <|
 .ret, [.cell 4 (some 4)]⟩

def gantryref05_Sub : CF := ⟨2, .seq (.seq (.reg [oo 2 (.box (.t 0)),
 oo 3 (.box (.t 1)),
 oo 4 (.new [.v (.bool false), .z true, .v (.bool false), .z true])] []) <|
 .keep [2, 3, 4] [[2], [3], [4]]) <|
 .seq (.seq (.reg [ol 5 4 2,
 ol 6 4 3,
 oo 7 (.call Qfx [(.t 6)] false),
 oo 8 (.call QcB [(.t 5), (.t 7)] false),
 ⟨none, .store 4 (.t 4) (.t 8), none⟩] []) <|
 .keep [4] [[4]]) <|
 .ret, [.cell 4 (some 4)]⟩

def gantryref12_Dot : CF := ⟨2, .seq (.seq (.reg [oo 2 (.box (.t 0)),
 oo 3 (.box (.t 1)),
 oo 4 (.new [.v (.bool false), .z true, .v (.bool false), .z true])] []) <|
 .keep [2, 3, 4] [[2], [3], [4]]) <|
 .seq (.seq (.reg [oo 5 (.fad 0 (.t 2)),
 oo 6 (.load none (.t 5)),
 oo 7 (.call QaF [(.t 6), (.c (.v (.int .i64 1)))] false),
 oo 8 (.fad 0 (.t 3)),
 ol 9 4 8,
 oo 10 (.call QcA [(.t 7), (.t 9)] false),
 oo 11 (.fad 1 (.t 2)),
 oo 12 (.load none (.t 11)),
 oo 13 (.call QaF [(.t 12), (.c (.v (.int .i64 1)))] false),
 oo 14 (.fad 4 (.t 3)),
 ol 15 4 14,
 oo 16 (.call QcA [(.t 13), (.t 15)] false),
 oo 17 (.call QcB [(.t 10), (.t 16)] false),
 ⟨none, .store 4 (.t 4) (.t 17), none⟩] []) <|
 .keep [4] [[4]]) <|
 .ret, [.cell 4 (some 4)]⟩

def integer_Add : CF := ⟨2, .seq (.seq (.reg [oo 2 (.box (.t 0)),
 oo 3 (.box (.t 1)),
 oo 4 (.new [.v (.bool false), .z true])] []) <|
 .keep [2, 3, 4] [[2], [3], [4]]) <|
 .seq (.seq (.blk 0 <|
 .seq (.seq (.reg [oo 6 (.fad 0 (.t 2)),
 oo 7 (.load none (.t 6)),
 oo 8 (.fad 0 (.t 3)),
 oo 9 (.load none (.t 8)),
 oo 10 (.binb false (.t 7) (.t 9)),
 om 5 10] []) <|
 .keep [2, 3, 4, 5] [[2], [3], [4]]) <|
 .cond (.t 5) (.seq (.seq (.reg [oo 11 (.fad 0 (.t 2)),
 oo 12 (.load none (.t 11)),
 oo 13 (.fad 1 (.t 2)),
 oo 14 (.load none (.t 13)),
 oo 15 (.fad 1 (.t 3)),
 oo 16 (.load none (.t 15)),
 oo 17 (.call Qdn [(.t 14), (.t 16)] false),
 oo 18 (.call Qbc [(.t 12), (.t 17)] false),
 ⟨none, .store 2 (.t 4) (.t 18), none⟩] []) <|
 .keep [4] [[4]]) <|
 .ret) <|
 .seq (.seq (.reg [oo 20 (.fad 1 (.t 2)),
 oo 21 (.load none (.t 20)),
 oo 22 (.fad 1 (.t 3)),
 oo 23 (.load none (.t 22)),
 oo 24 (.call QcH [(.t 21), (.t 23)] false),
 oo 25 (.bin .lss (.t 24) (.c (.v (.int .i64 0)))),
 om 19 25] []) <|
 .keep [2, 3, 4, 19] [[2], [3], [4]]) <|
 .cond (.t 19) (.seq (.seq (.reg [oo 26 (.fad 0 (.t 3)),
 oo 27 (.load none (.t 26)),
 oo 28 (.fad 1 (.t 3)),
 oo 29 (.load none (.t 28)),
 oo 30 (.fad 1 (.t 2)),
 oo 31 (.load none (.t 30)),
 oo 32 (.call QdG [(.t 29), (.t 31)] false),
 oo 33 (.call Qbc [(.t 27), (.t 32)] false),
 ⟨none, .store 2 (.t 4) (.t 33), none⟩] []) <|
 .keep [4] [[4]]) <|
 .ret) <|
 .skip) <|
 .keep [2, 3, 4] [[2], [3], [4]]) <|
 .seq (.seq (.reg [oo 34 (.fad 0 (.t 2)),
 oo 35 (.load none (.t 34)),
 oo 36 (.fad 1 (.t 2)),
 oo 37 (.load none (.t 36)),
 oo 38 (.fad 1 (.t 3)),
 oo 39 (.load none (.t 38)),
 oo 40 (.call QdG [(.t 37), (.t 39)] false),
 oo 41 (.call Qbc [(.t 35), (.t 40)] false),
 ⟨none, .store 2 (.t 4) (.t 41), none⟩] []) <|
 .keep [4] [[4]]) <|
 .ret, [.cell 4 (some 2)]⟩

def rat_Den : CF := ⟨1, .seq (.seq (.reg [oo 1 (.box (.t 0)),
 oo 2 (.new [.v (.bool false), .z true])] []) <|
 .keep [1, 2] [[1], [2]]) <|
 .seq (.seq (.seq (.reg [oo 3 (.fad 2 (.t 1)),
 oo 4 (.fad 1 (.t 3)),
 oo 5 (.load none (.t 4)),
 oo 6 (.len (.t 5)),
 oo 7 (.bin .eql (.t 6) (.c (.v (.int .i64 0))))] []) <|
 .keep [1, 2, 7] [[1], [2]]) <|
 .cond (.t 7) (.seq (.seq (.reg [oo 8 (.call Qnx [] false),
 ⟨none, .store 2 (.t 2) (.t 8), none⟩] []) <|
 .keep [2] [[2]]) <|
 .ret) <|
 .skip) <|
 .seq (.seq (.reg [oo 9 (.fad 2 (.t 1)),
 ol 10 2 9,
 ⟨none, .store 2 (.t 2) (.t 10), none⟩] []) <|
 .keep [2] [[2]]) <|
 .ret, [.cell 2 (some 2)]⟩

def rat_Make : CF := ⟨2, .seq (.seq (.reg [oo 2 (.box (.t 0)),
 oo 3 (.box (.t 1)),
 oo 4 (.new [.v (.bool false), .z true, .v (.bool false), .z true])] []) <|
 .keep [2, 3, 4] [[2], [3], [4]]) <|
 .seq (.seq (.seq (.reg [oo 6 (.fad 1 (.t 3)),
 oo 7 (.load none (.t 6)),
 oo 8 (.len (.t 7)),
 oo 9 (.bin .eql (.t 8) (.c (.v (.int .i64 0)))),
 om 10 9,
 og 11 10 false (.fad 1 (.t 2)),
 og 12 10 false (.load none (.t 11)),
 og 13 10 false (.len (.t 12)),
 og 14 10 false (.bin .eql (.t 13) (.c (.v (.int .i64 0)))),
 oo 15 (.pick (.t 10) (.c (.v (.bool true))) (.t 14))] []) <|
 .keep [2, 3, 4, 15] [[2], [3], [4]]) <|
 .cond (.t 15) (.seq (.seq (.reg [oo 16 (.build [.v (.bool false), .z true, .v (.bool false), .z true] []),
 ⟨none, .store 4 (.t 4) (.t 16), none⟩] []) <|
 .keep [4] [[4]]) <|
 .ret) <|
 .skip) <|
 .seq (.seq (.seq (.reg [ol 17 2 2,
 ol 18 2 3,
 oo 19 (.call QhK [(.t 17), (.t 18)] false),
 oo 5 (.new [.v (.bool false), .z true]),
 ⟨none, .store 2 (.t 5) (.t 19), none⟩] []) <|
 .keep [2, 3, 4, 5] [[2], [3], [4], [5]]) <|
 .seq (.seq (.reg [ol 20 2 5,
 oo 21 (.call QiE [(.t 20)] false),
 oo 22 (.un .not (.t 21))] []) <|
 .keep [2, 3, 4, 5, 22] [[2], [3], [4], [5]]) <|
 .cond (.t 22) (.seq (.seq (.reg [ol 24 2 2,
 ol 25 2 5,
 oo 26 (.call QdQ [(.t 24), (.t 25)] false),
 om 23 26,
 oo 27 (.ext (.t 23) 0),
 oo 28 (.ext (.t 23) 1),
 ⟨none, .store 2 (.t 2) (.t 27), none⟩] []) <|
 .keep [2, 3, 4, 5] [[2], [3], [4], [5]]) <|
 .seq (.reg [ol 30 2 3,
 ol 31 2 5,
 oo 32 (.call QdQ [(.t 30), (.t 31)] false),
 om 29 32,
 oo 33 (.ext (.t 29) 0),
 oo 34 (.ext (.t 29) 1),
 ⟨none, .store 2 (.t 3) (.t 33), none⟩] []) <|
 .keep [2, 3, 4] [[2], [3], [4]]) <|
 .skip) <|
 .seq (.seq (.reg [ol 35 2 2,
 ol 36 2 3,
 oo 37 (.call Qe4 [(.t 35), (.t 36)] false),
 ⟨none, .store 4 (.t 4) (.t 37), none⟩] []) <|
 .keep [4] [[4]]) <|
 .ret, [.cell 4 (some 4)]⟩

def QcY : C :=
 .seq (.seq (.seq (.reg [oo 57 (.bin .lss (.t 56) (.t 55))] []) <|
 .keep [2, 3, 4, 6, 7, 8, 9, 10, 47, 48, 49, 54, 55, 56, 57] [[2], [3], [4], [46]]) <|
 .seq (.cond (.t 57) (.skip) <|
 .seq (.keep [2, 3, 4, 6, 7, 8, 10, 47, 48, 49] [[2], [3], [4], [46]]) <|
 .exit 2) <|
 .seq (.seq (.blk 3 <|
 .seq (.seq (.reg [om 58 56,
 oo 59 (.ixa 1 (.t 54) (.t 56)),
 oo 60 (.load none (.t 59)),
 om 11 58,
 om 12 60] []) <|
 .keep [2, 3, 4, 6, 7, 8, 9, 10, 11, 12, 47, 48, 49, 54, 55, 56] [[2], [3], [4], [46]]) <|
 .seq (.seq (.reg [om 61 7,
 om 62 8,
 om 63 11,
 oo 64 (.bin .add (.t 62) (.t 63)),
 oo 65 (.ixa 1 (.t 61) (.t 64)),
 oo 66 (.load none (.t 65)),
 om 67 9,
 om 68 12,
 oo 69 (.bin .mul (.t 67) (.t 68)),
 oo 70 (.bin .add (.t 66) (.t 69)),
 om 71 10,
 oo 72 (.bin .add (.t 70) (.t 71)),
 om 13 72] []) <|
 .keep [2, 3, 4, 6, 7, 8, 9, 11, 13, 47, 48, 49, 54, 55, 56] [[2], [3], [4], [46]]) <|
 .seq (.seq (.reg [om 73 13,
 oo 74 (.bin .quo (.t 73) (.c (.v (.int .i64 1000000000)))),
 om 10 74] []) <|
 .keep [2, 3, 4, 6, 7, 8, 9, 10, 11, 13, 47, 48, 49, 54, 55, 56] [[2], [3], [4], [46]]) <|
 .seq (.reg [om 75 7,
 om 76 8,
 om 77 11,
 oo 78 (.bin .add (.t 76) (.t 77)),
 om 79 13,
 om 80 10,
 oo 81 (.bin .mul (.t 80) (.c (.v (.int .i64 1000000000)))),
 oo 82 (.bin .sub (.t 79) (.t 81)),
 oo 83 (.ixa 1 (.t 75) (.t 78)),
 ⟨none, .store 1 (.t 83) (.t 82), none⟩] []) <|
 .keep [2, 3, 4, 6, 7, 8, 9, 10, 47, 48, 49, 54, 55, 56] [[2], [3], [4], [46]]) <|
 .keep [2, 3, 4, 6, 7, 8, 9, 10, 47, 48, 49, 54, 55, 56] [[2], [3], [4], [46]]) <|
 .seq (.reg [oo 84 (.bin .add (.t 56) (.c (.v (.int .i64 1)))),
 om 56 84] []) <|
 .keep [2, 3, 4, 6, 7, 8, 9, 10, 47, 48, 49, 54, 55, 56] [[2], [3], [4], [46]]) <|
 .keep [2, 3, 4, 6, 7, 8, 9, 10, 47, 48, 49, 54, 55, 56] [[2], [3], [4], [46]]
def QcZ : C :=
 .seq (.seq (.seq (.reg [oo 50 (.bin .lss (.t 49) (.t 48))] []) <|
 .keep [2, 3, 4, 6, 7, 47, 48, 49, 50] [[2], [3], [4], [46]]) <|
 .seq (.cond (.t 50) (.skip) <|
 .seq (.keep [2, 3, 4, 7] [[2], [3], [4], [46]]) <|
 .exit 0) <|
 .seq (.seq (.blk 1 <|
 .seq (.seq (.reg [om 51 49,
 oo 52 (.ixa 1 (.t 47) (.t 49)),
 oo 53 (.load none (.t 52)),
 om 8 51,
 om 9 53] []) <|
 .keep [2, 3, 4, 6, 7, 8, 9, 47, 48, 49] [[2], [3], [4], [46]]) <|
 .seq (.seq (.reg [oo 10 (.mov (.c (.v (.int .i64 0))))] []) <|
 .keep [2, 3, 4, 6, 7, 8, 9, 10, 47, 48, 49] [[2], [3], [4], [46]]) <|
 .seq (.seq (.seq (.reg [om 54 6,
 oo 55 (.len (.t 54)),
 oo 56 (.mov (.c (.v (.int .i64 0))))] []) <|
 .keep [2, 3, 4, 6, 7, 8, 9, 10, 47, 48, 49, 54, 55, 56] [[2], [3], [4], [46]]) <|
 .seq (.blk 2 <|
 .seq (.keep [2, 3, 4, 6, 7, 8, 9, 10, 47, 48, 49, 54, 55, 56] [[2], [3], [4], [46]]) <|
 .loop QcY) <|
 .keep [2, 3, 4, 6, 7, 8, 10, 47, 48, 49] [[2], [3], [4], [46]]) <|
 .seq (.reg [om 85 7,
 om 86 8,
 om 87 6,
 oo 88 (.len (.t 87)),
 oo 89 (.bin .add (.t 86) (.t 88)),
 om 90 10,
 oo 91 (.ixa 1 (.t 85) (.t 89)),
 ⟨none, .store 1 (.t 91) (.t 90), none⟩] []) <|
 .keep [2, 3, 4, 6, 7, 47, 48, 49] [[2], [3], [4], [46]]) <|
 .keep [2, 3, 4, 6, 7, 47, 48, 49] [[2], [3], [4], [46]]) <|
 .seq (.reg [oo 92 (.bin .add (.t 49) (.c (.v (.int .i64 1)))),
 om 49 92] []) <|
 .keep [2, 3, 4, 6, 7, 47, 48, 49] [[2], [3], [4], [46]]) <|
 .keep [2, 3, 4, 6, 7, 47, 48, 49] [[2], [3], [4], [46]]
def integer_Mul : CF := ⟨2, .seq (.seq (.reg [oo 2 (.box (.t 0)),
 oo 3 (.box (.t 1)),
 oo 4 (.new [.v (.bool false), .z true])] []) <|
 .keep [2, 3, 4] [[2], [3], [4]]) <|
 .seq (.seq (.reg [oo 14 (.fad 1 (.t 2)),
 oo 15 (.load none (.t 14)),
 oo 16 (.fad 1 (.t 3)),
 oo 17 (.load none (.t 16)),
 om 5 15,
 om 6 17] []) <|
 .keep [2, 3, 4, 5, 6] [[2], [3], [4]]) <|
 .seq (.seq (.seq (.reg [om 18 5,
 oo 19 (.len (.t 18)),
 oo 20 (.bin .eql (.t 19) (.c (.v (.int .i64 1)))),
 om 21 20,
 og 22 21 true (.mov (.t 6)),
 og 23 21 true (.len (.t 22)),
 og 24 21 true (.bin .eql (.t 23) (.c (.v (.int .i64 1)))),
 oo 25 (.pick (.t 21) (.t 24) (.c (.v (.bool false))))] []) <|
 .keep [2, 3, 4, 5, 6, 25] [[2], [3], [4]]) <|
 .cond (.t 25) (.seq (.seq (.reg [oo 26 (.fad 0 (.t 2)),
 oo 27 (.load none (.t 26)),
 oo 28 (.fad 0 (.t 3)),
 oo 29 (.load none (.t 28)),
 oo 30 (.binb true (.t 27) (.t 29)),
 om 31 5,
 oo 32 (.ixa 1 (.t 31) (.c (.v (.int .i64 0)))),
 oo 33 (.load none (.t 32)),
 oo 34 (.conv (.int .u64) (.t 33)),
 om 35 6,
 oo 36 (.ixa 1 (.t 35) (.c (.v (.int .i64 0)))),
 oo 37 (.load none (.t 36)),
 oo 38 (.conv (.int .u64) (.t 37)),
 oo 39 (.bin .mul (.t 34) (.t 38)),
 oo 40 (.call Qbz [(.t 30), (.t 39)] false),
 ⟨none, .store 2 (.t 4) (.t 40), none⟩] []) <|
 .keep [4] [[4]]) <|
 .ret) <|
 .skip) <|
 .seq (.seq (.reg [om 41 5,
 oo 42 (.len (.t 41)),
 om 43 6,
 oo 44 (.len (.t 43)),
 oo 45 (.bin .add (.t 42) (.t 44)),
 oo 46 (.mksl 1 8 [.v (.int .i64 0)] (.t 45) (.t 45)),
 om 7 46] []) <|
 .keep [2, 3, 4, 5, 6, 7] [[2], [3], [4], [46]]) <|
 .seq (.seq (.seq (.reg [om 47 5,
 oo 48 (.len (.t 47)),
 oo 49 (.mov (.c (.v (.int .i64 0))))] []) <|
 .keep [2, 3, 4, 6, 7, 47, 48, 49] [[2], [3], [4], [46]]) <|
 .seq (.blk 0 <|
 .seq (.keep [2, 3, 4, 6, 7, 47, 48, 49] [[2], [3], [4], [46]]) <|
 .loop QcZ) <|
 .keep [2, 3, 4, 7] [[2], [3], [4], [46]]) <|
 .seq (.seq (.frz 7) <|
 .seq (.reg [oo 93 (.fad 0 (.t 2)),
 oo 94 (.load none (.t 93)),
 oo 95 (.fad 0 (.t 3)),
 oo 96 (.load none (.t 95)),
 oo 97 (.binb true (.t 94) (.t 96)),
 om 98 7,
 oo 99 (.call Qbc [(.t 97), (.t 98)] false),
 ⟨none, .store 2 (.t 4) (.t 99), none⟩] []) <|
 .keep [4] [[4]]) <|
 .ret, [.cell 4 (some 2)]⟩

def rat_Same_1 : CF := ⟨2, .seq (.seq (.reg [oo 2 (.box (.t 0)),
 oo 3 (.box (.t 1)),
 oo 4 (.mov (.c (.v (.bool false))))] []) <|
 .keep [2, 3] [[2], [3]]) <|
 .seq (.seq (.reg [oo 5 (.fad 0 (.t 2)),
 oo 6 (.load none (.t 5)),
 oo 7 (.fad 0 (.t 3)),
 oo 8 (.load none (.t 7)),
 oo 9 (.binb false (.t 6) (.t 8)),
 om 10 9,
 og 11 10 true (.fad 1 (.t 2)),
 og 12 10 true (.load none (.t 11)),
 og 13 10 true (.fad 1 (.t 3)),
 og 14 10 true (.load none (.t 13)),
 og 15 10 true (.call Qd5 [(.t 12), (.t 14)] false),
 oo 16 (.pick (.t 10) (.t 15) (.c (.v (.bool false)))),
 om 4 16] []) <|
 .keep [4] []) <|
 .ret, [.t 4]⟩

def Qa8 : C :=
 .seq (.seq (.seq (.reg [oo 14 (.bin .lss (.t 13) (.t 12))] []) <|
 .keep [0, 1, 12, 13, 14] []) <|
 .seq (.cond (.t 14) (.skip) <|
 .seq (.keep [] []) <|
 .exit 0) <|
 .seq (.seq (.blk 1 <|
 .seq (.seq (.reg [om 15 13,
 om 5 15] []) <|
 .keep [0, 1, 5, 12, 13] []) <|
 .seq (.seq (.reg [om 16 0,
 om 17 5,
 oo 18 (.ixa 1 (.t 16) (.t 17)),
 oo 19 (.load none (.t 18)),
 om 20 1,
 om 21 5,
 oo 22 (.ixa 1 (.t 20) (.t 21)),
 oo 23 (.load none (.t 22)),
 oo 24 (.bin .neq (.t 19) (.t 23))] []) <|
 .keep [0, 1, 12, 13, 24] []) <|
 .cond (.t 24) (.seq (.seq (.reg [oo 4 (.mov (.c (.v (.bool false))))] []) <|
 .keep [4] []) <|
 .ret) <|
 .skip) <|
 .keep [0, 1, 12, 13] []) <|
 .seq (.reg [oo 25 (.bin .add (.t 13) (.c (.v (.int .i64 1)))),
 om 13 25] []) <|
 .keep [0, 1, 12, 13] []) <|
 .keep [0, 1, 12, 13] []
def slices_Equal_int_int : CF := ⟨2, .seq (.seq (.reg [oo 4 (.mov (.c (.v (.bool false))))] []) <|
 .keep [0, 1] []) <|
 .seq (.seq (.seq (.reg [om 6 0,
 oo 7 (.len (.t 6)),
 om 8 1,
 oo 9 (.len (.t 8)),
 oo 10 (.bin .neq (.t 7) (.t 9))] []) <|
 .keep [0, 1, 10] []) <|
 .cond (.t 10) (.seq (.seq (.reg [oo 4 (.mov (.c (.v (.bool false))))] []) <|
 .keep [4] []) <|
 .ret) <|
 .skip) <|
 .seq (.seq (.seq (.reg [om 11 0,
 oo 12 (.len (.t 11)),
 oo 13 (.mov (.c (.v (.int .i64 0))))] []) <|
 .keep [0, 1, 12, 13] []) <|
 .seq (.blk 0 <|
 .seq (.keep [0, 1, 12, 13] []) <|
 .loop Qa8) <|
 .keep [] []) <|
 .seq (.seq (.reg [oo 4 (.mov (.c (.v (.bool true))))] []) <|
 .keep [4] []) <|
 .ret, [.t 4]⟩

def slices_Backward_api_Poly_api_Rat : CF := ⟨1, .seq (.seq (.reg [oo 1 (.box (.t 0)),
 oo 2 (.mov (.c (.v (.nilFunc))))] []) <|
 .keep [1] [[1]]) <|
 .seq (.seq (.reg [oo 3 (.mkfn Qal [(.t 1)] true),
 om 2 3] []) <|
 .keep [2] []) <|
 .ret, [.t 2]⟩

def integer_Of : CF := ⟨1, .seq (.seq (.reg [oo 2 (.new [.v (.bool false), .z true])] []) <|
 .keep [0, 2] [[2]]) <|
 .seq (.seq (.reg [om 4 0,
 oo 5 (.conv (.int .u64) (.t 4)),
 om 3 5] []) <|
 .keep [0, 2, 3] [[2]]) <|
 .seq (.seq (.seq (.reg [om 6 0,
 oo 7 (.bin .lss (.t 6) (.c (.v (.int .i64 0))))] []) <|
 .keep [0, 2, 3, 7] [[2]]) <|
 .cond (.t 7) (.seq (.reg [om 8 3,
 oo 9 (.un .neg (.t 8)),
 om 3 9] []) <|
 .keep [0, 2, 3] [[2]]) <|
 .skip) <|
 .seq (.seq (.reg [om 10 0,
 oo 11 (.bin .lss (.t 10) (.c (.v (.int .i64 0)))),
 om 12 3,
 oo 13 (.call Qbz [(.t 11), (.t 12)] false),
 ⟨none, .store 2 (.t 2) (.t 13), none⟩] []) <|
 .keep [2] [[2]]) <|
 .ret, [.cell 2 (some 2)]⟩

def rat_Div : CF := ⟨2, .seq (.seq (.reg [oo 2 (.box (.t 0)),
 oo 3 (.box (.t 1)),
 oo 4 (.new [.v (.bool false), .z true, .v (.bool false), .z true])] []) <|
 .keep [2, 3, 4] [[2], [3], [4]]) <|
 .seq (.seq (.seq (.reg [oo 5 (.fad 0 (.t 3)),
 oo 6 (.fad 1 (.t 5)),
 oo 7 (.load none (.t 6)),
 oo 8 (.len (.t 7)),
 oo 9 (.bin .eql (.t 8) (.c (.v (.int .i64 0))))] []) <|
 .keep [2, 3, 4, 9] [[2], [3], [4]]) <|
 .cond (.t 9) (.seq (.seq (.reg [oo 10 (.build [.v (.bool false), .z true, .v (.bool false), .z true] []),
 ⟨none, .store 4 (.t 4) (.t 10), none⟩] []) <|
 .keep [4] [[4]]) <|
 .ret) <|
 .skip) <|
 .seq (.seq (.reg [ol 11 4 2,
 ol 12 4 3,
 oo 13 (.call Qds [(.t 12)] false),
 oo 14 (.fad 0 (.t 3)),
 ol 15 2 14,
 oo 16 (.call Qe4 [(.t 13), (.t 15)] false),
 oo 17 (.call Qc8 [(.t 11), (.t 16)] false),
 ⟨none, .store 4 (.t 4) (.t 17), none⟩] []) <|
 .keep [4] [[4]]) <|
 .ret, [.cell 4 (some 4)]⟩

def rat_Neg : CF := ⟨1, .seq (.seq (.reg [oo 1 (.box (.t 0)),
 oo 2 (.new [.v (.bool false), .z true, .v (.bool false), .z true])] []) <|
 .keep [1, 2] [[1], [2]]) <|
 .seq (.seq (.reg [oo 3 (.fad 0 (.t 1)),
 ol 4 2 3,
 oo 5 (.call QeG [(.t 4)] false),
 oo 6 (.fad 2 (.t 1)),
 ol 7 2 6,
 oo 8 (.build [.v (.bool false), .z true, .v (.bool false), .z true] [(0, 2, (.t 5)), (2, 2, (.t 7))]),
 ⟨none, .store 4 (.t 2) (.t 8), none⟩] []) <|
 .keep [2] [[2]]) <|
 .ret, [.cell 2 (some 4)]⟩

def rat_Compare : CF := ⟨2, .seq (.seq (.reg [oo 2 (.box (.t 0)),
 oo 3 (.box (.t 1)),
 oo 4 (.mov (.c (.v (.int .i64 0))))] []) <|
 .keep [2, 3] [[2], [3]]) <|
 .seq (.seq (.seq (.reg [ol 7 4 2,
 oo 8 (.call QbB [(.t 7)] false),
 ol 9 4 3,
 oo 10 (.call QbB [(.t 9)] false),
 om 5 8,
 om 6 10] []) <|
 .keep [2, 3, 5, 6] [[2], [3]]) <|
 .seq (.seq (.reg [om 11 5,
 om 12 6,
 oo 13 (.bin .neq (.t 11) (.t 12)),
 om 14 13,
 og 15 14 false (.mov (.t 5)),
 og 16 14 false (.bin .eql (.t 15) (.c (.v (.int .i64 0)))),
 oo 17 (.pick (.t 14) (.c (.v (.bool true))) (.t 16))] []) <|
 .keep [2, 3, 5, 6, 17] [[2], [3]]) <|
 .cond (.t 17) (.seq (.seq (.reg [om 18 5,
 oo 19 (.call QcJ [(.t 18)] false),
 om 20 6,
 oo 21 (.call QcJ [(.t 20)] false),
 oo 22 (.call QcC [(.t 19), (.t 21)] false),
 om 4 22] []) <|
 .keep [4] []) <|
 .ret) <|
 .skip) <|
 .seq (.seq (.reg [oo 23 (.fad 0 (.t 2)),
 ol 24 2 23,
 ol 25 4 3,
 oo 26 (.call Qds [(.t 25)] false),
 oo 27 (.call Qbx [(.t 24), (.t 26)] false),
 oo 28 (.fad 0 (.t 3)),
 ol 29 2 28,
 ol 30 4 2,
 oo 31 (.call Qds [(.t 30)] false),
 oo 32 (.call Qbx [(.t 29), (.t 31)] false),
 oo 33 (.call QcC [(.t 27), (.t 32)] false),
 om 4 33] []) <|
 .keep [4] []) <|
 .ret, [.t 4]⟩

def convex_Sides_1 : CF := ⟨4, .seq (.seq (.reg [oo 4 (.box (.t 0))] []) <|
 .keep [1, 2, 3, 4] [[4]]) <|
 .seq (.seq (.reg [oo 5 (.load none (.t 1)),
 oo 6 (.mkfn Qck [(.t 4)] true),
 oo 7 (.call Qaq [(.t 5), (.t 6)] false),
 oo 8 (.un .not (.t 7))] []) <|
 .keep [1, 2, 3, 4, 8] [[4]]) <|
 .cond (.t 8) (.seq (.reg [oo 9 (.load none (.t 1)),
 ol 10 3 4,
 oo 11 (.load none (.t 2)),
 ol 12 3 4,
 oo 13 (.call Qb0 [(.t 11), (.t 12)] false),
 oo 14 (.load none (.t 3)),
 ol 15 3 4,
 oo 16 (.call QcG [(.t 15)] false),
 oo 17 (.call Qb0 [(.t 14), (.t 16)] false),
 oo 18 (.bin .add (.t 13) (.t 17)),
 oo 19 (.build [.v (.int .i64 0), .v (.int .i64 0), .v (.int .i64 0), .v (.int .i64 0)] [(0, 3, (.t 10)), (3, 1, (.t 18))]),
 oo 20 (.lit 4 1 [.v (.int .i64 0), .v (.int .i64 0), .v (.int .i64 0), .v (.int .i64 0)] [(0, (.t 19))] true),
 oo 21 (.app 4 32 (.t 9) (.t 20) false),
 ⟨none, .store 1 (.t 1) (.t 21), none⟩] []) <|
 .keep [] []) <|
 .skip, []⟩

def convex_Sides_1_1 : CF := ⟨2, .seq (.seq (.reg [oo 2 (.box (.t 0)),
 oo 3 (.mov (.c (.v (.bool false))))] []) <|
 .keep [1, 2] [[2]]) <|
 .seq (.seq (.reg [oo 4 (.fad 0 (.t 2)),
 ol 5 3 4,
 ol 6 3 1,
 oo 7 (.eqs 3 false (.t 5) (.t 6)),
 om 3 7] []) <|
 .keep [3] []) <|
 .ret, [.t 3]⟩

def convex_Most : CF := ⟨2, .seq (.seq (.reg [oo 3 (.box (.t 1)),
 oo 4 (.mov (.c (.v (.int .i64 0))))] []) <|
 .keep [0, 3] [[3]]) <|
 .seq (.seq (.reg [ol 5 3 3,
 om 6 0,
 oo 7 (.mkfn QdT [(.t 3)] true),
 oo 8 (.call Qb3 [(.t 6), (.t 7)] false),
 oo 9 (.call Qff [(.t 5), (.t 8)] false),
 om 4 9] []) <|
 .keep [4] []) <|
 .ret, [.t 4]⟩

def convex_turned : CF := ⟨1, .seq (.seq (.reg [oo 1 (.box (.t 0)),
 oo 2 (.new [.v (.int .i64 0), .v (.int .i64 0), .v (.int .i64 0)])] []) <|
 .keep [1, 2] [[1], [2]]) <|
 .seq (.seq (.reg [oo 3 (.fad 0 (.t 1)),
 oo 4 (.load none (.t 3)),
 oo 5 (.un .neg (.t 4)),
 oo 6 (.fad 1 (.t 1)),
 oo 7 (.load none (.t 6)),
 oo 8 (.un .neg (.t 7)),
 oo 9 (.fad 2 (.t 1)),
 oo 10 (.load none (.t 9)),
 oo 11 (.build [.v (.int .i64 0), .v (.int .i64 0), .v (.int .i64 0)] [(0, 1, (.t 5)), (1, 1, (.t 8)), (2, 1, (.t 10))]),
 ⟨none, .store 3 (.t 2) (.t 11), none⟩] []) <|
 .keep [2] [[2]]) <|
 .ret, [.cell 2 (some 3)]⟩

def convex_Norm : CF := ⟨2, .seq (.seq (.reg [oo 2 (.box (.t 0)),
 oo 3 (.box (.t 1)),
 oo 4 (.new [.v (.int .i64 0), .v (.int .i64 0), .v (.int .i64 0)]),
 oo 5 (.mov (.c (.v (.bool false))))] []) <|
 .keep [2, 3, 4] [[2], [3], [4]]) <|
 .seq (.seq (.reg [oo 13 (.fad 0 (.t 3)),
 oo 14 (.load none (.t 13)),
 oo 15 (.fad 0 (.t 2)),
 oo 16 (.load none (.t 15)),
 oo 17 (.bin .sub (.t 14) (.t 16)),
 oo 18 (.fad 1 (.t 3)),
 oo 19 (.load none (.t 18)),
 oo 20 (.fad 1 (.t 2)),
 oo 21 (.load none (.t 20)),
 oo 22 (.bin .sub (.t 19) (.t 21)),
 om 6 17,
 om 7 22] []) <|
 .keep [4, 6, 7] [[4]]) <|
 .seq (.seq (.reg [om 24 6,
 om 25 6,
 oo 26 (.bin .mul (.t 24) (.t 25)),
 om 27 7,
 om 28 7,
 oo 29 (.bin .mul (.t 27) (.t 28)),
 oo 30 (.bin .add (.t 26) (.t 29)),
 oo 31 (.call QcJ [(.t 30)] false),
 oo 32 (.call Qg3 [(.t 31)] false),
 om 23 32,
 oo 33 (.ext (.t 23) 0),
 oo 34 (.ext (.t 23) 1),
 oo 8 (.new [.v (.bool false), .z true]),
 ⟨none, .store 2 (.t 8) (.t 33), none⟩,
 om 9 34] []) <|
 .keep [4, 6, 7, 8, 9] [[4], [8]]) <|
 .seq (.seq (.reg [ol 36 2 8,
 oo 37 (.call Qgr [(.t 36)] false),
 om 35 37,
 oo 38 (.ext (.t 35) 0),
 oo 39 (.ext (.t 35) 1),
 om 10 38,
 om 11 39] []) <|
 .keep [4, 6, 7, 9, 10] [[4]]) <|
 .seq (.seq (.seq (.reg [om 40 9,
 oo 41 (.un .not (.t 40)),
 om 42 41,
 og 43 42 false (.mov (.t 10)),
 og 44 42 false (.bin .eql (.t 43) (.c (.v (.int .i64 0)))),
 oo 45 (.pick (.t 42) (.c (.v (.bool true))) (.t 44))] []) <|
 .keep [4, 6, 7, 10, 45] [[4]]) <|
 .cond (.t 45) (.seq (.seq (.reg [oo 46 (.build [.v (.int .i64 0), .v (.int .i64 0), .v (.int .i64 0)] []),
 ⟨none, .store 3 (.t 4) (.t 46), none⟩,
 oo 5 (.mov (.c (.v (.bool false))))] []) <|
 .keep [4, 5] [[4]]) <|
 .ret) <|
 .skip) <|
 .seq (.seq (.reg [om 47 6,
 om 48 7,
 oo 49 (.call Qgu [(.t 47), (.t 48)] false),
 om 50 10,
 oo 51 (.call Qgu [(.t 49), (.t 50)] false),
 om 12 51] []) <|
 .keep [4, 6, 7, 10, 12] [[4]]) <|
 .seq (.seq (.reg [om 52 7,
 om 53 12,
 oo 54 (.bin .quo (.t 52) (.t 53)),
 om 55 6,
 oo 56 (.un .neg (.t 55)),
 om 57 12,
 oo 58 (.bin .quo (.t 56) (.t 57)),
 om 59 10,
 om 60 12,
 oo 61 (.bin .quo (.t 59) (.t 60)),
 oo 62 (.build [.v (.int .i64 0), .v (.int .i64 0), .v (.int .i64 0)] [(0, 1, (.t 54)), (1, 1, (.t 58)), (2, 1, (.t 61))]),
 ⟨none, .store 3 (.t 4) (.t 62), none⟩,
 oo 5 (.mov (.c (.v (.bool true))))] []) <|
 .keep [4, 5] [[4]]) <|
 .ret, [.cell 4 (some 3), .t 5]⟩

def convex_next : CF := ⟨2, .seq (.seq (.reg [oo 4 (.new [.v (.int .i64 0), .v (.int .i64 0)])] []) <|
 .keep [0, 1, 4] [[4]]) <|
 .seq (.seq (.reg [om 5 0,
 om 6 1,
 oo 7 (.bin .add (.t 6) (.c (.v (.int .i64 1)))),
 om 8 0,
 oo 9 (.len (.t 8)),
 oo 10 (.bin .rem (.t 7) (.t 9)),
 oo 11 (.ixa 2 (.t 5) (.t 10)),
 ol 12 2 11,
 ⟨none, .store 2 (.t 4) (.t 12), none⟩] []) <|
 .keep [4] [[4]]) <|
 .ret, [.cell 4 (some 2)]⟩

def Qat : C :=
 .seq (.seq (.seq (.seq (.reg [om 14 6,
 om 15 0,
 oo 16 (.len (.t 15)),
 oo 17 (.bin .lss (.t 14) (.t 16))] []) <|
 .keep [0, 1, 4, 5, 6, 17] [[4], [5]]) <|
 .cond (.t 17) (.skip) <|
 .seq (.keep [4, 5] [[4], [5]]) <|
 .exit 0) <|
 .seq (.seq (.blk 1 <|
 .seq (.seq (.reg [om 20 1,
 om 21 0,
 om 22 6,
 oo 23 (.ixa 2 (.t 21) (.t 22)),
 ol 24 2 23,
 ol 25 2 5,
 oo 26 (.calv (.t 20) [(.t 24), (.t 25)]),
 oo 27 (.bin .lss (.t 26) (.c (.v (.int .i64 0))))] []) <|
 .keep [0, 1, 4, 5, 6, 27] [[4], [5]]) <|
 .cond (.t 27) (.seq (.reg [om 28 0,
 om 29 6,
 oo 30 (.ixa 2 (.t 28) (.t 29)),
 ol 31 2 30,
 ⟨none, .store 2 (.t 5) (.t 31), none⟩] []) <|
 .keep [0, 1, 4, 5, 6] [[4], [5]]) <|
 .skip) <|
 .keep [0, 1, 4, 5, 6] [[4], [5]]) <|
 .seq (.reg [om 18 6,
 oo 19 (.bin .add (.t 18) (.c (.v (.int .i64 1)))),
 om 6 19] []) <|
 .keep [0, 1, 4, 5, 6] [[4], [5]]) <|
 .keep [0, 1, 4, 5, 6] [[4], [5]]
def slices_MinFunc_api_Point_api_Point : CF := ⟨2, .seq (.seq (.reg [oo 4 (.new [.v (.int .i64 0), .v (.int .i64 0)])] []) <|
 .keep [0, 1, 4] [[4]]) <|
 .seq (.seq (.seq (.reg [om 7 0,
 oo 8 (.len (.t 7)),
 oo 9 (.bin .lss (.t 8) (.c (.v (.int .i64 1))))] []) <|
 .keep [0, 1, 4, 9] [[4]]) <|
 .cond (.t 9) (.cond (.c (.v (.int .i64 7))) (.skip) <|
 .skip) <|
 .skip) <|
 .seq (.seq (.reg [om 11 0,
 oo 12 (.ixa 2 (.t 11) (.c (.v (.int .i64 0)))),
 ol 13 2 12,
 oo 5 (.new [.v (.int .i64 0), .v (.int .i64 0)]),
 ⟨none, .store 2 (.t 5) (.t 13), none⟩] []) <|
 .keep [0, 1, 4, 5] [[4], [5]]) <|
 .seq (.seq (.seq (.reg [oo 6 (.mov (.c (.v (.int .i64 1))))] []) <|
 .keep [0, 1, 4, 5, 6] [[4], [5]]) <|
 .seq (.blk 0 <|
 .seq (.keep [0, 1, 4, 5, 6] [[4], [5]]) <|
 .loop Qat) <|
 .keep [4, 5] [[4], [5]]) <|
 .seq (.seq (.reg [ol 32 2 5,
 ⟨none, .store 2 (.t 4) (.t 32), none⟩] []) <|
 .keep [4] [[4]]) <|
 .ret, [.cell 4 (some 2)]⟩

def convex_Sum_1 : CF := ⟨2, .seq (.seq (.reg [oo 2 (.box (.t 0)),
 oo 3 (.box (.t 1)),
 oo 4 (.mov (.c (.v (.int .i64 0))))] []) <|
 .keep [2, 3] [[2], [3]]) <|
 .seq (.seq (.reg [oo 5 (.fad 1 (.t 2)),
 oo 6 (.load none (.t 5)),
 oo 7 (.fad 1 (.t 3)),
 oo 8 (.load none (.t 7)),
 oo 9 (.call QbO [(.t 6), (.t 8)] false),
 oo 10 (.fad 0 (.t 2)),
 oo 11 (.load none (.t 10)),
 oo 12 (.fad 0 (.t 3)),
 oo 13 (.load none (.t 12)),
 oo 14 (.call QbO [(.t 11), (.t 13)] false),
 oo 15 (.lit 1 2 [.v (.int .i64 0)] [(0, (.t 9)), (1, (.t 14))] true),
 oo 16 (.call Qjq [(.t 15)] false),
 om 4 16] []) <|
 .keep [4] []) <|
 .ret, [.t 4]⟩

def Qa2 : C :=
 .seq (.seq (.seq (.reg [oo 9 (.bin .lss (.t 8) (.t 7))] []) <|
 .keep [3, 6, 7, 8, 9] []) <|
 .seq (.cond (.t 9) (.skip) <|
 .seq (.keep [3] []) <|
 .exit 0) <|
 .seq (.seq (.blk 1 <|
 .seq (.seq (.reg [oo 10 (.ixa 1 (.t 6) (.t 8)),
 oo 11 (.load none (.t 10)),
 om 5 11] []) <|
 .keep [3, 5, 6, 7, 8] []) <|
 .seq (.seq (.reg [om 12 5,
 om 13 3,
 oo 14 (.bin .neq (.t 12) (.t 13))] []) <|
 .keep [3, 5, 6, 7, 8, 14] []) <|
 .cond (.t 14) (.seq (.seq (.reg [om 15 5,
 om 2 15] []) <|
 .keep [2] []) <|
 .ret) <|
 .skip) <|
 .keep [3, 6, 7, 8] []) <|
 .seq (.reg [oo 16 (.bin .add (.t 8) (.c (.v (.int .i64 1)))),
 om 8 16] []) <|
 .keep [3, 6, 7, 8] []) <|
 .keep [3, 6, 7, 8] []
def cmp_Or_int : CF := ⟨1, .seq (.seq (.reg [oo 2 (.mov (.c (.v (.int .i64 0))))] []) <|
 .keep [0] []) <|
 .seq (.seq (.reg [oo 3 (.mov (.c (.v (.int .i64 0))))] []) <|
 .keep [0, 3] []) <|
 .seq (.seq (.seq (.reg [om 6 0,
 oo 7 (.len (.t 6)),
 oo 8 (.mov (.c (.v (.int .i64 0))))] []) <|
 .keep [3, 6, 7, 8] []) <|
 .seq (.blk 0 <|
 .seq (.keep [3, 6, 7, 8] []) <|
 .loop Qa2) <|
 .keep [3] []) <|
 .seq (.seq (.reg [om 17 3,
 om 2 17] []) <|
 .keep [2] []) <|
 .ret, [.t 2]⟩

def cmp_Compare_int : CF := ⟨2, .seq (.seq (.reg [oo 4 (.mov (.c (.v (.int .i64 0))))] []) <|
 .keep [0, 1] []) <|
 .seq (.seq (.reg [om 7 0,
 oo 8 (.call QdI [(.t 7)] false),
 om 5 8] []) <|
 .keep [0, 1, 5] []) <|
 .seq (.seq (.reg [om 9 1,
 oo 10 (.call QdI [(.t 9)] false),
 om 6 10] []) <|
 .keep [0, 1, 5, 6] []) <|
 .seq (.seq (.seq (.reg [om 11 5] []) <|
 .keep [0, 1, 6, 11] []) <|
 .cond (.t 11) (.seq (.seq (.seq (.reg [om 12 6] []) <|
 .keep [12] []) <|
 .cond (.t 12) (.seq (.seq (.reg [oo 4 (.mov (.c (.v (.int .i64 0))))] []) <|
 .keep [4] []) <|
 .ret) <|
 .skip) <|
 .seq (.seq (.reg [oo 4 (.mov (.c (.v (.int .i64 (-1)))))] []) <|
 .keep [4] []) <|
 .ret) <|
 .skip) <|
 .seq (.seq (.seq (.reg [om 13 6] []) <|
 .keep [0, 1, 13] []) <|
 .cond (.t 13) (.seq (.seq (.reg [oo 4 (.mov (.c (.v (.int .i64 1))))] []) <|
 .keep [4] []) <|
 .ret) <|
 .skip) <|
 .seq (.seq (.seq (.reg [om 14 0,
 om 15 1,
 oo 16 (.bin .lss (.t 14) (.t 15))] []) <|
 .keep [0, 1, 16] []) <|
 .cond (.t 16) (.seq (.seq (.reg [oo 4 (.mov (.c (.v (.int .i64 (-1)))))] []) <|
 .keep [4] []) <|
 .ret) <|
 .skip) <|
 .seq (.seq (.seq (.reg [om 17 0,
 om 18 1,
 oo 19 (.bin .gtr (.t 17) (.t 18))] []) <|
 .keep [19] []) <|
 .cond (.t 19) (.seq (.seq (.reg [oo 4 (.mov (.c (.v (.int .i64 1))))] []) <|
 .keep [4] []) <|
 .ret) <|
 .skip) <|
 .seq (.seq (.reg [oo 4 (.mov (.c (.v (.int .i64 0))))] []) <|
 .keep [4] []) <|
 .ret, [.t 4]⟩

def convex_cross : CF := ⟨3, .seq (.seq (.reg [oo 3 (.box (.t 0)),
 oo 4 (.box (.t 1)),
 oo 5 (.box (.t 2)),
 oo 6 (.mov (.c (.v (.int .i64 0))))] []) <|
 .keep [3, 4, 5] [[3], [4], [5]]) <|
 .seq (.seq (.reg [oo 7 (.fad 0 (.t 4)),
 oo 8 (.load none (.t 7)),
 oo 9 (.fad 0 (.t 3)),
 oo 10 (.load none (.t 9)),
 oo 11 (.bin .sub (.t 8) (.t 10)),
 oo 12 (.fad 1 (.t 5)),
 oo 13 (.load none (.t 12)),
 oo 14 (.fad 1 (.t 3)),
 oo 15 (.load none (.t 14)),
 oo 16 (.bin .sub (.t 13) (.t 15)),
 oo 17 (.bin .mul (.t 11) (.t 16)),
 oo 18 (.fad 1 (.t 4)),
 oo 19 (.load none (.t 18)),
 oo 20 (.fad 1 (.t 3)),
 oo 21 (.load none (.t 20)),
 oo 22 (.bin .sub (.t 19) (.t 21)),
 oo 23 (.fad 0 (.t 5)),
 oo 24 (.load none (.t 23)),
 oo 25 (.fad 0 (.t 3)),
 oo 26 (.load none (.t 25)),
 oo 27 (.bin .sub (.t 24) (.t 26)),
 oo 28 (.bin .mul (.t 22) (.t 27)),
 oo 29 (.bin .sub (.t 17) (.t 28)),
 om 6 29] []) <|
 .keep [6] []) <|
 .ret, [.t 6]⟩

def convex_far : CF := ⟨2, .seq (.seq (.reg [oo 2 (.box (.t 0)),
 oo 3 (.box (.t 1)),
 oo 4 (.mov (.c (.v (.int .i64 0))))] []) <|
 .keep [2, 3] [[2], [3]]) <|
 .seq (.seq (.reg [oo 5 (.fad 0 (.t 2)),
 oo 6 (.load none (.t 5)),
 oo 7 (.fad 0 (.t 3)),
 oo 8 (.load none (.t 7)),
 oo 9 (.bin .sub (.t 6) (.t 8)),
 oo 10 (.fad 0 (.t 2)),
 oo 11 (.load none (.t 10)),
 oo 12 (.fad 0 (.t 3)),
 oo 13 (.load none (.t 12)),
 oo 14 (.bin .sub (.t 11) (.t 13)),
 oo 15 (.bin .mul (.t 9) (.t 14)),
 oo 16 (.fad 1 (.t 2)),
 oo 17 (.load none (.t 16)),
 oo 18 (.fad 1 (.t 3)),
 oo 19 (.load none (.t 18)),
 oo 20 (.bin .sub (.t 17) (.t 19)),
 oo 21 (.fad 1 (.t 2)),
 oo 22 (.load none (.t 21)),
 oo 23 (.fad 1 (.t 3)),
 oo 24 (.load none (.t 23)),
 oo 25 (.bin .sub (.t 22) (.t 24)),
 oo 26 (.bin .mul (.t 20) (.t 25)),
 oo 27 (.bin .add (.t 15) (.t 26)),
 om 4 27] []) <|
 .keep [4] []) <|
 .ret, [.t 4]⟩

def rat_lowest : CF := ⟨2, .seq (.seq (.reg [oo 2 (.box (.t 0)),
 oo 3 (.box (.t 1)),
 oo 4 (.new [.v (.bool false), .z true, .v (.bool false), .z true])] []) <|
 .keep [2, 3, 4] [[2], [3], [4]]) <|
 .seq (.seq (.seq (.reg [oo 5 (.fad 0 (.t 3)),
 oo 6 (.load none (.t 5))] []) <|
 .keep [2, 3, 4, 6] [[2], [3], [4]]) <|
 .cond (.t 6) (.seq (.reg [ol 7 2 2,
 oo 8 (.call QeG [(.t 7)] false),
 ol 9 2 3,
 oo 10 (.call QeG [(.t 9)] false),
 ⟨none, .store 2 (.t 2) (.t 8), none⟩,
 ⟨none, .store 2 (.t 3) (.t 10), none⟩] []) <|
 .keep [2, 3, 4] [[2], [3], [4]]) <|
 .skip) <|
 .seq (.seq (.seq (.reg [ol 11 2 3,
 oo 12 (.call QiE [(.t 11)] false)] []) <|
 .keep [2, 3, 4, 12] [[2], [3], [4]]) <|
 .cond (.t 12) (.seq (.seq (.reg [ol 13 2 2,
 oo 14 (.build [.v (.bool false), .z true, .v (.bool false), .z true] [(0, 2, (.t 13))]),
 ⟨none, .store 4 (.t 4) (.t 14), none⟩] []) <|
 .keep [4] [[4]]) <|
 .ret) <|
 .skip) <|
 .seq (.seq (.reg [ol 15 2 2,
 ol 16 2 3,
 oo 17 (.build [.v (.bool false), .z true, .v (.bool false), .z true] [(0, 2, (.t 15)), (2, 2, (.t 16))]),
 ⟨none, .store 4 (.t 4) (.t 17), none⟩] []) <|
 .keep [4] [[4]]) <|
 .ret, [.cell 4 (some 4)]⟩

def integer_Sign : CF := ⟨1, .seq (.seq (.reg [oo 1 (.box (.t 0)),
 oo 2 (.mov (.c (.v (.int .i64 0))))] []) <|
 .keep [1] [[1]]) <|
 .seq (.seq (.blk 0 <|
 .seq (.seq (.reg [oo 4 (.fad 0 (.t 1)),
 oo 5 (.load none (.t 4)),
 om 3 5] []) <|
 .keep [1, 3] [[1]]) <|
 .cond (.t 3) (.seq (.seq (.reg [oo 2 (.mov (.c (.v (.int .i64 (-1)))))] []) <|
 .keep [2] []) <|
 .ret) <|
 .seq (.seq (.reg [oo 7 (.fad 1 (.t 1)),
 oo 8 (.load none (.t 7)),
 oo 9 (.len (.t 8)),
 oo 10 (.bin .eql (.t 9) (.c (.v (.int .i64 0)))),
 om 6 10] []) <|
 .keep [6] []) <|
 .cond (.t 6) (.seq (.seq (.reg [oo 2 (.mov (.c (.v (.int .i64 0))))] []) <|
 .keep [2] []) <|
 .ret) <|
 .skip) <|
 .keep [] []) <|
 .seq (.seq (.reg [oo 2 (.mov (.c (.v (.int .i64 1))))] []) <|
 .keep [2] []) <|
 .ret, [.t 2]⟩
end Go.AM

