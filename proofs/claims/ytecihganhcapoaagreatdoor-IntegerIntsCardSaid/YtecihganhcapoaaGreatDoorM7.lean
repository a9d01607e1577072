/- Part 7 of the proof: a small machine, its soundness against the model, and what the program's functions compute on it. -/
import Derived.Shelf.Strings.BuilderK
import Derived.Shelf.Strings.Repeat
import Derived.Shelf.LaysM
import Derived.Shelf.Strconv.Itoa3
import Derived.Shelf.Strings.SlTrimAscii
import Derived.Test.YtecihganhcapoaaGreatDoorProg
import Derived.WalkKit
import Derived.BigCall
import Derived.Lib.AppendIntMem
import Derived.Lib.OthersKept
import Derived.KernelRfl
set_option linter.unusedVariables false
set_option linter.unusedSimpArgs false
/-
  DERIVED: THE SHELF's CONTRACTS AT THIS DUMP, IN PLAIN WORDS (tools/lay-plain.mjs out of 'TryzShelf.lean', which tools/lay-shelf.mjs wrote): THE SAME DECLARATIONS UNDER THE SAME NAMES: 'import', 'namespace', 'open', 'def', 'theorem' AND NOTHING ELSE: no command of the shelf's: FOR A HAND-IN. Each laying: the table of numbers ('.._ren') and one theorem, a field a fact of the dump's own or the kernel's comparison; each contract: ONE APPLICATION.
-/
namespace Go.Proofs
open Go.Shelf
def Tryz.lays169_ren : Go.Shelf.Ren := ⟨fun | 169 => 74 | n => n, fun | 70 => 78 | 9 => 9 | 0 => 0 | 72 => 80 | 37 => 35 | 127 => 105 | 3 => 3 | 5 => 5 | n => n, fun | n => n⟩
theorem Tryz.lays169 : Go.Proofs.Lays.n169 Tryz.prog Tryz.lays169_ren := {
  mixed := by kernel_rfl
  f169 := Tryz.func74.trans (congrArg some (by kernel_rfl))
  t0 := Tryz.underlying0
  a0 := Tryz.isAgg0
  z0 := Tryz.sizeOf0
  v0 := Tryz.zeroValue0
  t3 := Tryz.underlying3
  a3 := Tryz.isAgg3
  z3 := Tryz.sizeOf3
  v3 := Tryz.zeroValue3
  t9 := Tryz.underlying9
  a9 := Tryz.isAgg9
  z9 := Tryz.sizeOf9
  v9 := Tryz.zeroValue9
  t37 := Tryz.underlying35
  a37 := Tryz.isAgg35
  z37 := Tryz.sizeOf35
  v37 := Tryz.zeroValue35
  t70 := Tryz.underlying78
  a70 := Tryz.isAgg78
  z70 := Tryz.sizeOf78
  v70 := Tryz.zeroValue78
  t72 := Tryz.underlying80
  a72 := Tryz.isAgg80
  z72 := Tryz.sizeOf80
  v72 := Tryz.zeroValue80
  t127 := Tryz.underlying105
  a127 := Tryz.isAgg105
  z127 := Tryz.sizeOf105
  v127 := Tryz.zeroValue105 }
theorem Tryz.Builder_Extra_169 : Builder.Extra Tryz.prog Tryz.lays169_ren := {
  sizeBuilder := by kernel_rfl
  liesBuilder := by kernel_rfl
  t5 := Tryz.underlying5
  a5 := Tryz.isAgg5
  z5 := Tryz.sizeOf5
  v5 := Tryz.zeroValue5
  infoByte := by kernel_rfl
  cellsByte := by kernel_rfl
  sizeByte := by kernel_rfl
  neB5 := by decide }
def Tryz.lays160_ren : Go.Shelf.Ren := ⟨fun | 160 => 76 | 232 => 98 | 231 => 97 | 227 => 99 | 234 => 101 | 233 => 100 | 236 => 103 | 235 => 102 | 228 => 119 | 271 => 122 | 151 => 121 | 197 => 120 | 120 => 137 | 152 => 136 | 260 => 135 | 137 => 146 | 119 => 147 | 224 => 148 | 225 => 149 | 217 => 154 | 266 => 155 | n => n, fun | 9 => 9 | 4 => 4 | 3 => 3 | 5 => 5 | 117 => 109 | 116 => 108 | 0 => 0 | 124 => 112 | 21 => 21 | 105 => 128 | 46 => 99 | 119 => 154 | 139 => 157 | 138 => 156 | n => n, fun | 3 => 4 | 4 => 5 | n => n⟩
theorem Tryz.lays160 : Go.Proofs.Lays.n160 Tryz.prog Tryz.lays160_ren := {
  mixed := by kernel_rfl
  f119 := Tryz.func147.trans (congrArg some (by kernel_rfl))
  f120 := Tryz.func137.trans (congrArg some (by kernel_rfl))
  f137 := Tryz.func146.trans (congrArg some (by kernel_rfl))
  f151 := Tryz.func121.trans (congrArg some (by kernel_rfl))
  f152 := Tryz.func136.trans (congrArg some (by kernel_rfl))
  f160 := Tryz.func76.trans (congrArg some (by kernel_rfl))
  f197 := Tryz.func120.trans (congrArg some (by kernel_rfl))
  f217 := Tryz.func154.trans (congrArg some (by kernel_rfl))
  f224 := Tryz.func148.trans (congrArg some (by kernel_rfl))
  f225 := Tryz.func149.trans (congrArg some (by kernel_rfl))
  f227 := Tryz.func99.trans (congrArg some (by kernel_rfl))
  f228 := Tryz.func119.trans (congrArg some (by kernel_rfl))
  f231 := Tryz.func97.trans (congrArg some (by kernel_rfl))
  f232 := Tryz.func98.trans (congrArg some (by kernel_rfl))
  f233 := Tryz.func100.trans (congrArg some (by kernel_rfl))
  f234 := Tryz.func101.trans (congrArg some (by kernel_rfl))
  f235 := Tryz.func102.trans (congrArg some (by kernel_rfl))
  f236 := Tryz.func103.trans (congrArg some (by kernel_rfl))
  f260 := Tryz.func135.trans (congrArg some (by kernel_rfl))
  f266 := Tryz.func155.trans (congrArg some (by kernel_rfl))
  f271 := Tryz.func122.trans (congrArg some (by kernel_rfl))
  t0 := Tryz.underlying0
  a0 := Tryz.isAgg0
  z0 := Tryz.sizeOf0
  v0 := Tryz.zeroValue0
  t3 := Tryz.underlying3
  a3 := Tryz.isAgg3
  z3 := Tryz.sizeOf3
  v3 := Tryz.zeroValue3
  t4 := Tryz.underlying4
  a4 := Tryz.isAgg4
  z4 := Tryz.sizeOf4
  v4 := Tryz.zeroValue4
  t5 := Tryz.underlying5
  a5 := Tryz.isAgg5
  z5 := Tryz.sizeOf5
  v5 := Tryz.zeroValue5
  t9 := Tryz.underlying9
  a9 := Tryz.isAgg9
  z9 := Tryz.sizeOf9
  v9 := Tryz.zeroValue9
  t21 := Tryz.underlying21
  a21 := Tryz.isAgg21
  z21 := Tryz.sizeOf21
  v21 := Tryz.zeroValue21
  t46 := Tryz.underlying99
  a46 := Tryz.isAgg99
  z46 := Tryz.sizeOf99
  v46 := Tryz.zeroValue99
  t105 := Tryz.underlying128
  a105 := Tryz.isAgg128
  z105 := Tryz.sizeOf128
  v105 := Tryz.zeroValue128
  t116 := Tryz.underlying108
  a116 := Tryz.isAgg108
  z116 := Tryz.sizeOf108
  t117 := Tryz.underlying109
  a117 := Tryz.isAgg109
  z117 := Tryz.sizeOf109
  v117 := Tryz.zeroValue109
  t119 := Tryz.underlying154
  a119 := Tryz.isAgg154
  z119 := Tryz.sizeOf154
  t124 := Tryz.underlying112
  a124 := Tryz.isAgg112
  z124 := Tryz.sizeOf112
  v124 := Tryz.zeroValue112
  t138 := Tryz.underlying156
  a138 := Tryz.isAgg156
  z138 := Tryz.sizeOf156
  v138 := Tryz.zeroValue156
  t139 := Tryz.underlying157
  a139 := Tryz.isAgg157
  z139 := Tryz.sizeOf157
  v139 := Tryz.zeroValue157
  g3 := by kernel_rfl
  g4 := by kernel_rfl }
def Tryz.laysM171_ren : Go.Shelf.Ren := ⟨fun | 171 => 72 | 243 => 91 | 246 => 114 | 283 => 130 | 284 => 131 | 285 => 132 | 286 => 133 | 129 => 142 | 317 => 141 | 318 => 143 | 319 => 144 | 320 => 145 | 337 => 152 | 338 => 153 | n => n, fun | 3 => 3 | 9 => 9 | 2 => 2 | 4 => 4 | 171 => 137 | 0 => 0 | 53 => 70 | 37 => 35 | 5 => 5 | 173 => 140 | 212 => 151 | 51 => 122 | 20 => 20 | 213 => 152 | 46 => 99 | 232 => 167 | 233 => 168 | n => n, fun | 17 => 2 | 18 => 6 | 19 => 7 | n => n⟩
theorem Tryz.laysM171 : Go.Proofs.LaysM.n171 Tryz.prog Tryz.laysM171_ren := {
  mixed := by kernel_rfl
  f129 := Tryz.func142.trans (congrArg some (by kernel_rfl))
  f171 := Tryz.func72.trans (congrArg some (by kernel_rfl))
  f243 := Tryz.func91.trans (congrArg some (by kernel_rfl))
  f246 := Tryz.func114.trans (congrArg some (by kernel_rfl))
  f283 := Tryz.func130.trans (congrArg some (by kernel_rfl))
  f284 := Tryz.func131.trans (congrArg some (by kernel_rfl))
  f285 := Tryz.func132.trans (congrArg some (by kernel_rfl))
  f286 := Tryz.func133.trans (congrArg some (by kernel_rfl))
  f317 := Tryz.func141.trans (congrArg some (by kernel_rfl))
  f318 := Tryz.func143.trans (congrArg some (by kernel_rfl))
  f319 := Tryz.func144.trans (congrArg some (by kernel_rfl))
  f320 := Tryz.func145.trans (congrArg some (by kernel_rfl))
  f337 := Tryz.func152.trans (congrArg some (by kernel_rfl))
  f338 := Tryz.func153.trans (congrArg some (by kernel_rfl))
  t0 := Tryz.underlying0
  a0 := Tryz.isAgg0
  z0 := Tryz.sizeOf0
  v0 := Tryz.zeroValue0
  t2 := Tryz.underlying2
  a2 := Tryz.isAgg2
  z2 := Tryz.sizeOf2
  v2 := Tryz.zeroValue2
  t3 := Tryz.underlying3
  a3 := Tryz.isAgg3
  z3 := Tryz.sizeOf3
  v3 := Tryz.zeroValue3
  t4 := Tryz.underlying4
  a4 := Tryz.isAgg4
  z4 := Tryz.sizeOf4
  v4 := Tryz.zeroValue4
  t5 := Tryz.underlying5
  a5 := Tryz.isAgg5
  z5 := Tryz.sizeOf5
  v5 := Tryz.zeroValue5
  t9 := Tryz.underlying9
  a9 := Tryz.isAgg9
  z9 := Tryz.sizeOf9
  v9 := Tryz.zeroValue9
  t20 := Tryz.underlying20
  a20 := Tryz.isAgg20
  z20 := Tryz.sizeOf20
  v20 := Tryz.zeroValue20
  t37 := Tryz.underlying35
  a37 := Tryz.isAgg35
  z37 := Tryz.sizeOf35
  v37 := Tryz.zeroValue35
  t46 := Tryz.underlying99
  a46 := Tryz.isAgg99
  z46 := Tryz.sizeOf99
  v46 := Tryz.zeroValue99
  t51 := Tryz.underlying122
  a51 := Tryz.isAgg122
  z51 := Tryz.sizeOf122
  v51 := Tryz.zeroValue122
  t53 := Tryz.underlying70
  a53 := Tryz.isAgg70
  z53 := Tryz.sizeOf70
  v53 := Tryz.zeroValue70
  t171 := Tryz.underlying137
  a171 := Tryz.isAgg137
  z171 := Tryz.sizeOf137
  v171 := Tryz.zeroValue137
  t173 := Tryz.underlying140
  a173 := Tryz.isAgg140
  z173 := Tryz.sizeOf140
  v173 := Tryz.zeroValue140
  t212 := Tryz.underlying151
  a212 := Tryz.isAgg151
  z212 := Tryz.sizeOf151
  v212 := Tryz.zeroValue151
  t213 := Tryz.underlying152
  a213 := Tryz.isAgg152
  z213 := Tryz.sizeOf152
  t232 := Tryz.underlying167
  a232 := Tryz.isAgg167
  z232 := Tryz.sizeOf167
  v232 := Tryz.zeroValue167
  t233 := Tryz.underlying168
  a233 := Tryz.isAgg168
  z233 := Tryz.sizeOf168
  v233 := Tryz.zeroValue168
  g17 := by kernel_rfl
  g18 := by kernel_rfl
  g19 := by kernel_rfl
  i0 := by kernel_rfl
  i2 := by kernel_rfl
  i3 := by kernel_rfl
  i4 := by kernel_rfl
  i5 := by kernel_rfl
  i9 := by kernel_rfl
  i20 := by kernel_rfl
  i37 := by kernel_rfl
  i46 := by kernel_rfl
  i51 := by kernel_rfl
  i53 := by kernel_rfl
  i171 := by kernel_rfl
  i173 := by kernel_rfl
  i212 := by kernel_rfl
  i232 := by kernel_rfl
  i233 := by kernel_rfl
  m17 := by kernel_rfl
  m18 := by kernel_rfl
  m19 := by kernel_rfl }
def Tryz.lays105_ren : Go.Shelf.Ren := ⟨fun | 105 => 73 | 212 => 92 | 99 => 93 | 165 => 94 | 166 => 71 | 170 => 95 | 169 => 74 | 263 => 115 | 264 => 116 | 206 => 117 | 240 => 90 | 241 => 118 | 276 => 113 | 277 => 134 | n => n, fun | 9 => 9 | 3 => 3 | 4 => 4 | 20 => 20 | 0 => 0 | 46 => 99 | 109 => 100 | 5 => 5 | 72 => 80 | 76 => 84 | 51 => 122 | 146 => 123 | 53 => 70 | 148 => 125 | 70 => 78 | 37 => 35 | 75 => 82 | 127 => 105 | 164 => 119 | 80 => 87 | n => n, fun | n => n⟩
theorem Tryz.lays105 : Go.Proofs.Lays.n105 Tryz.prog Tryz.lays105_ren := {
  mixed := by kernel_rfl
  f99 := Tryz.func93.trans (congrArg some (by kernel_rfl))
  f105 := Tryz.func73.trans (congrArg some (by kernel_rfl))
  f165 := Tryz.func94.trans (congrArg some (by kernel_rfl))
  f166 := Tryz.func71.trans (congrArg some (by kernel_rfl))
  f169 := Tryz.func74.trans (congrArg some (by kernel_rfl))
  f170 := Tryz.func95.trans (congrArg some (by kernel_rfl))
  f206 := Tryz.func117.trans (congrArg some (by kernel_rfl))
  f212 := Tryz.func92.trans (congrArg some (by kernel_rfl))
  f240 := Tryz.func90.trans (congrArg some (by kernel_rfl))
  f241 := Tryz.func118.trans (congrArg some (by kernel_rfl))
  f263 := Tryz.func115.trans (congrArg some (by kernel_rfl))
  f264 := Tryz.func116.trans (congrArg some (by kernel_rfl))
  f276 := Tryz.func113.trans (congrArg some (by kernel_rfl))
  f277 := Tryz.func134.trans (congrArg some (by kernel_rfl))
  t0 := Tryz.underlying0
  a0 := Tryz.isAgg0
  z0 := Tryz.sizeOf0
  v0 := Tryz.zeroValue0
  t3 := Tryz.underlying3
  a3 := Tryz.isAgg3
  z3 := Tryz.sizeOf3
  v3 := Tryz.zeroValue3
  t4 := Tryz.underlying4
  a4 := Tryz.isAgg4
  z4 := Tryz.sizeOf4
  v4 := Tryz.zeroValue4
  t5 := Tryz.underlying5
  a5 := Tryz.isAgg5
  z5 := Tryz.sizeOf5
  v5 := Tryz.zeroValue5
  t9 := Tryz.underlying9
  a9 := Tryz.isAgg9
  z9 := Tryz.sizeOf9
  v9 := Tryz.zeroValue9
  t20 := Tryz.underlying20
  a20 := Tryz.isAgg20
  z20 := Tryz.sizeOf20
  v20 := Tryz.zeroValue20
  t37 := Tryz.underlying35
  a37 := Tryz.isAgg35
  z37 := Tryz.sizeOf35
  v37 := Tryz.zeroValue35
  t46 := Tryz.underlying99
  a46 := Tryz.isAgg99
  z46 := Tryz.sizeOf99
  v46 := Tryz.zeroValue99
  t51 := Tryz.underlying122
  a51 := Tryz.isAgg122
  z51 := Tryz.sizeOf122
  v51 := Tryz.zeroValue122
  t53 := Tryz.underlying70
  a53 := Tryz.isAgg70
  z53 := Tryz.sizeOf70
  v53 := Tryz.zeroValue70
  t70 := Tryz.underlying78
  a70 := Tryz.isAgg78
  z70 := Tryz.sizeOf78
  v70 := Tryz.zeroValue78
  t72 := Tryz.underlying80
  a72 := Tryz.isAgg80
  z72 := Tryz.sizeOf80
  v72 := Tryz.zeroValue80
  t75 := Tryz.underlying82
  a75 := Tryz.isAgg82
  z75 := Tryz.sizeOf82
  v75 := Tryz.zeroValue82
  t76 := Tryz.underlying84
  a76 := Tryz.isAgg84
  z76 := Tryz.sizeOf84
  v76 := Tryz.zeroValue84
  t109 := Tryz.underlying100
  a109 := Tryz.isAgg100
  z109 := Tryz.sizeOf100
  v109 := Tryz.zeroValue100
  t127 := Tryz.underlying105
  a127 := Tryz.isAgg105
  z127 := Tryz.sizeOf105
  v127 := Tryz.zeroValue105
  t146 := Tryz.underlying123
  a146 := Tryz.isAgg123
  z146 := Tryz.sizeOf123
  v146 := Tryz.zeroValue123
  t148 := Tryz.underlying125
  a148 := Tryz.isAgg125
  z148 := Tryz.sizeOf125
  v148 := Tryz.zeroValue125
  t164 := Tryz.underlying119
  a164 := Tryz.isAgg119
  z164 := Tryz.sizeOf119
  v164 := Tryz.zeroValue119 }
theorem Tryz.Builder_Extra_105 : Builder.Extra Tryz.prog Tryz.lays105_ren := {
  sizeBuilder := by kernel_rfl
  liesBuilder := by kernel_rfl
  t5 := Tryz.underlying5
  a5 := Tryz.isAgg5
  z5 := Tryz.sizeOf5
  v5 := Tryz.zeroValue5
  infoByte := by kernel_rfl
  cellsByte := by kernel_rfl
  sizeByte := by kernel_rfl
  neB5 := by decide }
end Go.Proofs

/- integer.Text: its text. -/
namespace Go.Proofs
open Go.Shelf Go.RowKit

theorem bldBelowF {T e : TypeId} {B b : Nat} {p : Value} {bs : List Value} {W W' : World} (h : Lib.BuilderAtF T e B b p bs W) (hb : Below W.heap.size W W') : Lib.BuilderAtF T e B b p bs W' := by
  have hlt := h.lt
  obtain ⟨hB, v, hv, hown, hne⟩ := h
  exact ⟨hB, v, (hb.block b hlt).trans hv, hown.kept (row := none) ⟨hb.os, hb.tape, hb.output, hb.size, fun k hk _ => hb.block k hk⟩ (Classical.em _), hne⟩
theorem bldBelow {T e : TypeId} {B b : Nat} {bs : List Value} {W W' : World} (h : Lib.IsBuilderF T e B b bs W) (hb : Below W.heap.size W W') : Lib.IsBuilderF T e B b bs W' :=
  h.elim (fun x => .inl (bldBelowF x hb)) (fun x => .inr (bldBelowF x hb))
theorem belowGrow (w : World) (k : Nat) (os : Array Obj) : Below w.heap.size w (Sort.grow (w.drewN k) os) := Lib.below_grow _ w (Nat.le_refl _) k os
theorem Tryz.lays166x : Lays.n166 Tryz.prog Tryz.lays105_ren := { Tryz.lays105 with }

theorem itoaC (n : Int) (h0 : -9223372036854775808 ≤ n) (h1 : n ≤ 9223372036854775807) (w : World) (htab : Lib.TabIs Tryz.prog w "internal/strconv.uint64pow10" .u64 Lib.pow10Tab) :
    Calls Tryz.prog 72 #[.int .i64 n] w fun e w' => e = .returned (.string ⟨(Lib.itoa n).toArray⟩) ∧ ∃ k os, w' = Sort.grow (w.drewN k) os := Any.strconv_Itoa Tryz.laysM171 n h0 h1 w htab
theorem repeatC (s : ByteArray) (c : Nat) (w : World) (hc : c ≤ 9223372036854775807) (hlen : s.size * c ≤ 140737488355328) :
    Calls Tryz.prog 73 #[.string s, .int .i64 c] w fun e w' => e = .returned (.string ⟨(Lib.repeatL s.data.toList c).toArray⟩) ∧ Below w.heap.size w w' := Any.strings_Repeat Tryz.lays105 Tryz.Builder_Extra_105 s c w hc hlen
theorem stringC (B b : Nat) (l : List UInt8) (w : World) (h : Lib.IsBuilderF 80 5 B b (Lib.byteCells l) w) (hBw : B ≤ w.heap.size) :
    Calls Tryz.prog 74 #[.pointer (some ⟨b, 0, none⟩)] w fun e w' => e = .returned (.string ⟨l.toArray⟩) ∧ (Lib.IsBuilderF 80 5 B b (Lib.byteCells l) w' ∧ Below B w w' ∧ Lib.OthersKept 5 (some b) w w') := Any.Builder_String_any_k Tryz.lays169 Tryz.Builder_Extra_169 B b l w h hBw
theorem writeStr (B b : Nat) (bs : List Value) (t : ByteArray) (w : World) (h : Lib.IsBuilderF 80 5 B b bs w) (hlen : bs.length + t.size ≤ 140737488355328) (hBw : B ≤ w.heap.size) :
    Calls Tryz.prog 71 #[.pointer (some ⟨b, 0, none⟩), .string t] w fun e w' => e = .returned (.tuple #[.int .i64 t.size, .nilIface]) ∧ (Lib.BuilderAtF 80 5 B b (.pointer (some ⟨b, 0, none⟩)) (bs ++ Lib.strCells t) w' ∧ Below B w w' ∧ Lib.OthersKept 5 (some b) w w') :=
  Any.Builder_WriteString_k Tryz.lays166x Tryz.Builder_Extra_105 B b bs t w h hlen hBw

/-- A digit's nine places. -/
def pad9 (d : Int) : List UInt8 := Lib.repeatL [48] (9 - (Lib.itoa d).length) ++ Lib.itoa d
/-- The digits below the j-th. -/
def restL (f : Nat → Int) : Nat → List UInt8
  | 0 => []
  | j + 1 => pad9 (f j) ++ restL f j
theorem nDig_le : ∀ (k u : Nat), u < 10 ^ (k + 1) → Lib.nDigits u ≤ k + 1
  | 0, u, h => by rw [Lib.nDigits_small (by simpa using h)]; exact Nat.le_refl _
  | k + 1, u, h => by
    by_cases h1 : u < 10
    · rw [Lib.nDigits_small h1]; omega
    · rw [Lib.nDigits_big h1]
      have := nDig_le k (u / 10) (by rw [Nat.pow_succ] at h; omega)
      omega
theorem itoa_len {d : Int} (h : 0 ≤ d ∧ d < 1000000000) : (Lib.itoa d).length ≤ 9 := by
  unfold Lib.itoa
  rw [if_neg (by omega), Lib.decDigits_length]
  exact nDig_le 8 _ (by have : (10 : Nat) ^ (8 + 1) = 1000000000 := by decide
                        omega)
theorem pad9_len {d : Int} (h : 0 ≤ d ∧ d < 1000000000) : (pad9 d).length = 9 := by
  have := itoa_len h
  unfold pad9
  rw [List.length_append, Lib.repeatL_length]
  simp; omega

theorem restL_len {f : Nat → Int} (hd : ∀ i, 0 ≤ f i ∧ f i < 1000000000) : ∀ j, (restL f j).length = 9 * j
  | 0 => rfl
  | j + 1 => by rw [restL, List.length_append, pad9_len (hd j), restL_len hd j]; omega
theorem bld_sz {T e : TypeId} {B b : Nat} {bs : List Value} {W : World} (h : Lib.IsBuilderF T e B b bs W) : b < W.heap.size := h.elim (fun x => x.lt) (fun x => x.lt)

set_option maxHeartbeats 4000000 in
set_option maxRecDepth 1000000 in
theorem text_walk (f : Nat → Int) (n : Nat) (T : List UInt8) (hT : Lib.itoa (f n) ++ restL f n = T) (hn : n ≤ 1000000000) (hd : ∀ i, 0 ≤ f i ∧ f i < 1000000000) (ad : Addr) (cap : Nat) (w : World) (hc : ∀ i, i ≤ n → w.cell? (ad.add i) = some (.int .i64 (f i))) (hbw : ad.block < w.heap.size)
    (htab : Lib.TabBelow Tryz.prog w.heap.size w "internal/strconv.uint64pow10" .u64 Lib.pow10Tab) :
    Calls Tryz.prog 42 #[.agg #[.bool false, .slice (some ad) ((n + 1 : Nat)) cap]] w fun e w' => e = .returned (.string ⟨T.toArray⟩) ∧ Below w.heap.size w w' := by
  have cellB : ∀ W, Below w.heap.size w W → ∀ i, i ≤ n → W.cell? (ad.add i) = some (.int .i64 (f i)) := fun W hb i hi => by
    rw [World.cell?_of_block (w := w) (by
      have e : (ad.add i).block = ad.block := by unfold Addr.add; split <;> rfl
      rw [e]; exact hb.block _ hbw)]
    exact hc i hi
  have A1 : ∀ o1 o2, Below w.heap.size w ((w.alloc o1).alloc o2) := fun o1 o2 => ((Below.refl _ w).alloc (Nat.le_refl _) _).alloc (by simp) _
  have c1 : ∀ o1 o2, ((w.alloc o1).alloc o2).cell? (ad.add n) = some (.int .i64 (f n)) := fun o1 o2 => cellB _ (A1 o1 o2) _ (Nat.le_refl _)
  have hfn := hd n
  go_enter Tryz.func42, Tryz.ntmps42
  go_wp2_with (go_at_call 72; refine (itoaC (f n) (by omega) (by omega) _ ((htab.on (A1 _ _)).here)).mono ?_)
  rintro e w1 ⟨rfl, k, os, hw1⟩
  have I1 : Lib.IsBuilderF 80 5 (w.heap.size + 1) (w.heap.size + 1) [] w1 := by
    rw [hw1]
    refine bldBelow ?_ (belowGrow _ _ _)
    have := Lib.IsBuilderF.of (Lib.fresh_isBuilder 80 5 (w.alloc (Obj.cells #[.bool false, .slice (some ad) (n + 1) cap] 24)))
    simpa using this
  have B1 : Below w.heap.size w w1 := (A1 _ _).trans (by rw [hw1]; exact (belowGrow _ k os).mono (by simp; omega))
  have D1 : w1.cell? ⟨w.heap.size, 1, none⟩ = some (.slice (some ad) (n + 1) cap) := by
    have hb : w1.heap[w.heap.size]? = some (Obj.cells #[.bool false, .slice (some ad) (n + 1) cap] 24) := by
      rw [hw1, Lib.heap_grow_old _ _ _ _ (by simp; omega), Lib.alloc_old (w.alloc _) _ _ (by simp)]
      exact Array.getElem?_push_size
    rw [Lib.cell_of_heap hb]; rfl
  have hlen0 := itoa_len hfn
  have hz1 := bld_sz I1
  have hs0 : (⟨(Lib.itoa (f n)).toArray⟩ : ByteArray).size = (Lib.itoa (f n)).length := by
    show (Lib.itoa (f n)).toArray.size = _
    simp
  have hs1 : ([] : List Value).length + (⟨(Lib.itoa (f n)).toArray⟩ : ByteArray).size ≤ 140737488355328 := by rw [hs0, List.length_nil]; omega
  clear hw1
  go_wp2_with (go_at_call 71; refine (writeStr (w.heap.size + 1) (w.heap.size + 1) [] ⟨(Lib.itoa (f n)).toArray⟩ w1 I1 hs1 (by omega)).mono ?_)
  rintro e w2 ⟨rfl, I2, b2, -⟩
  have D2 : w2.cell? ⟨w.heap.size, 1, none⟩ = some (.slice (some ad) (n + 1) cap) := by
    rw [World.cell?_of_block (w := w1) (b2.block _ (Nat.lt_succ_self _))]; exact D1
  have B2 : Below w.heap.size w w2 := B1.trans (b2.mono (Nat.le_succ _))
  have hTl : T.length ≤ 9 + 9 * n := by rw [← hT, List.length_append, restL_len hd]; omega
  go_wp2
  go_loopw [4] (fun i wr => ∃ (j : Nat) (acc : List UInt8), i = .int .i64 ((j : Int) - 1) ∧ j ≤ n ∧ Lib.IsBuilderF 80 5 (w.heap.size + 1) (w.heap.size + 1) (Lib.byteCells acc) wr ∧ Below (w.heap.size + 1) w2 wr ∧ acc ++ restL f j = T) (fun i _ => (intOf i + 1).toNat)
  case atStart =>
    refine ⟨n, Lib.itoa (f n), by congr 1; omega, Nat.le_refl _, Or.inr ?_, Below.refl _ _, hT⟩
    exact I2
  case round =>
    obtain ⟨j, acc, rfl, hj, hI, hb, hacc⟩ := hrel
    have hB3 : Below w.heap.size w wr := B2.trans (hb.mono (Nat.le_succ _))
    have hzr := bld_sz hI
    have hal : acc.length ≤ T.length := by rw [← hacc, List.length_append]; omega
    by_cases hj0 : j = 0
    · subst hj0
      rw [restL, List.append_nil] at hacc
      subst hacc
      have e0 : decide (((0 : Nat) : Int) - 1 ≥ 0) = false := rfl
      go_wp2_with (go_at_call 74; refine (stringC (w.heap.size + 1) (w.heap.size + 1) acc wr hI (by omega)).mono ?_)
      rintro e W1 ⟨rfl, _, b3, _⟩
      go_wp2
      go_ret
      exact ⟨rfl, hB3.trans (b3.mono (Nat.le_succ _))⟩
    · obtain ⟨i, rfl⟩ : ∃ i, j = i + 1 := ⟨j - 1, by omega⟩
      have e1 : ((i + 1 : Nat) : Int) - 1 = (i : Int) := by omega
      rw [e1]
      have hfi := hd i
      have hli := itoa_len hfi
      have Dr : wr.cell? ⟨w.heap.size, 1, none⟩ = some (.slice (some ad) (n + 1) cap) := by
        rw [World.cell?_of_block (w := w2) (hb.block _ (Nat.lt_succ_self _))]; exact D2
      have Cr := cellB wr hB3 i (by omega)
      have hi1 : i < n + 1 := by omega
      go_wp2_with (go_at_call 72; refine (itoaC (f i) (by omega) (by omega) wr ((htab.on hB3).here)).mono ?_)
      rintro e w3 ⟨rfl, k3, os3, hw3⟩
      have hb3 : Below wr.heap.size wr w3 := by rw [hw3]; exact belowGrow _ _ _
      clear hw3
      have I3 := bldBelow hI hb3
      have e9 : (9 : Int) - ((Lib.itoa (f i)).length : Int) = ((9 - (Lib.itoa (f i)).length : Nat) : Int) := by omega
      have hr1 : (⟨#[48]⟩ : ByteArray).size * (9 - (Lib.itoa (f i)).length) ≤ 140737488355328 := by
        show 1 * (9 - (Lib.itoa (f i)).length) ≤ _
        omega
      go_wp2_with (go_at_call 73; refine (repeatC ⟨#[48]⟩ (9 - (Lib.itoa (f i)).length) w3 (by omega) hr1).mono ?_)
      intro e w4 he b4
      subst he
      have I4 := bldBelow I3 b4
      have hz4 := bld_sz I4
      obtain ⟨sA, hA⟩ : ∃ sA : ByteArray, (⟨(Lib.repeatL [48] (9 - (Lib.itoa (f i)).length)).toArray⟩ : ByteArray) = sA := ⟨_, rfl⟩
      obtain ⟨sB, hB⟩ : ∃ sB : ByteArray, (⟨(Lib.itoa (f i)).toArray⟩ : ByteArray) = sB := ⟨_, rfl⟩
      have hA1 : sA.size = 9 - (Lib.itoa (f i)).length := by
        rw [← hA]
        show (Lib.repeatL [48] (9 - (Lib.itoa (f i)).length)).toArray.size = _
        rw [List.size_toArray, Lib.repeatL_length]; simp
      have hB1 : sB.size = (Lib.itoa (f i)).length := by
        rw [← hB]
        show (Lib.itoa (f i)).toArray.size = _
        simp
      have hS : (sA ++ sB).size = 9 := by rw [ByteArray.size_append, hA1, hB1]; omega
      have hcells : Lib.byteCells acc ++ Lib.strCells (sA ++ sB) = Lib.byteCells (acc ++ pad9 (f i)) := by
        rw [Lib.byteCells_append, Lib.strCells_eq, ← hA, ← hB, pad9]
        congr 2
      rw [hA, hB]
      have hw5 : (Lib.byteCells acc).length + (sA ++ sB).size ≤ 140737488355328 := by rw [Lib.byteCells_length, hS]; omega
      have W5 := writeStr (w.heap.size + 1) (w.heap.size + 1) (Lib.byteCells acc) (sA ++ sB) w4 I4 hw5 (by omega)
      rw [hcells] at W5
      clear hA hB hcells hw5
      go_wp2_with (go_at_call 71; refine W5.mono ?_)
      rintro e w5 ⟨rfl, I5, b5, -⟩
      go_wp2
      go_roundw
      case rel =>
        have h1 : w3.heap.size ≤ w4.heap.size := b4.size
        have h2 : wr.heap.size ≤ w3.heap.size := hb3.size
        exact ⟨i, acc ++ pad9 (f i), by go_num, by omega, Or.inr I5, hb.trans ((hb3.mono (by omega)).trans ((b4.mono (by omega)).trans b5)), by rw [List.append_assoc]; exact hacc⟩
      case measure => simp [intOf]
end Go.Proofs

