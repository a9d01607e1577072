/- Part 9 of the proof: a small machine, its soundness against the model, and what the program's functions compute on it. -/
import Derived.Test.YtfdelaplhpmneaaGreatM7
import Derived.Test.YtfdelaplhpmneaaGreatM8
set_option linter.unusedVariables false
set_option linter.unusedSimpArgs false
/- Points, directions, edges: rows of them; ref12's small functions. -/
namespace Go.AM
open Go Go.RowKit

abbrev Pt := Int × Int
abbrev Dr := Int × Int × Int
abbrev Eg := Dr × Int
def cP (p : Pt) : List D := [iv p.1, iv p.2]
def cD (d : Dr) : List D := [iv d.1, iv d.2.1, iv d.2.2]
def cG (e : Eg) : List D := [iv e.1.1, iv e.1.2.1, iv e.1.2.2, iv e.2]
def encP (p : Pt) : D := .agg (cP p)
def encD (d : Dr) : D := .agg (cD d)
def encG (e : Eg) : D := .agg (cG e)
theorem Qb2 (p : Pt) : (cP p).length = 2 := rfl
theorem Qpq (p : Dr) : (cD p).length = 3 := rfl
theorem QeM (p : Eg) : (cG p).length = 4 := rfl

/-! ### Rows of things of es cells -/
section
variable {α : Type} {en : α → List D} {es : Nat}
def rowE (en : α → List D) (l : List α) : D := .row l.length (l.flatMap en)
def RwE (en : α → List D) (d : D) (l : List α) : Prop := (d = .z true ∧ l = []) ∨ d = rowE en l
def dE (en : α → List D) (l : List α) : D := if l = [] then .z true else rowE en l
theorem QsY (hE : ∀ a, (en a).length = es) : ∀ l : List α, (l.flatMap en).length = l.length * es
 | [] => by simp
 | a :: l => by rw [List.flatMap_cons, List.length_append, hE, QsY hE l, List.length_cons, Nat.succ_mul, Nat.add_comm]
theorem QiA (hE : ∀ a, (en a).length = es) : ∀ (l : List α) (j : Nat), (l.flatMap en).drop (j * es) = (l.drop j).flatMap en
 | l, 0 => by simp
 | [], j + 1 => by simp
 | a :: l, j + 1 => by
  rw [List.flatMap_cons, List.drop_succ_cons, ← QiA hE l j, Nat.succ_mul, Nat.add_comm, ← List.drop_drop]
  rw [List.drop_left' (hE a)]
theorem RwE.len {d : D} {l : List α} (h : RwE en d l) : lenA (.d d) = some l.length := by
 rcases h with ⟨rfl, rfl⟩ | rfl <;> rfl
theorem RwE.ixa (hE : ∀ a, (en a).length = es) {d : D} {l : List α} (hr : RwE en d l) {j : Nat} (h1 : j < l.length) (h : Hp) : ixaA h es (j : Int) (.d d) = some (.d (.rp ((l.drop j).flatMap en))) := by
 rcases hr with ⟨rfl, rfl⟩ | rfl
 ·simp at h1
 ·simp only [rowE, ixaA, guardO]
  rw [if_pos ⟨by omega, by omega⟩]
  simp only [Int.toNat_natCast]
  rw [QiA hE]
theorem Qen [Inhabited α]  {l : List α} {j : Nat} (h : j < l.length) : l.drop j = l.getD j default :: l.drop (j + 1) := by
 rw [List.drop_eq_getElem_cons h, List.getD_eq_getElem?_getD, List.getElem?_eq_getElem h, Option.getD_some]
theorem ldE [Inhabited α] (hE : ∀ a, (en a).length = es) (h : Hp) {l : List α} {j : Nat} (h1 : j < l.length) : QcY h (some es) (.d (.rp ((l.drop j).flatMap en))) = some (.d (.agg (en (l.getD j default)))) := by
 rw [Qen h1, List.flatMap_cons]
 simp only [QcY, Qj2, guardO]
 rw [if_pos (by rw [List.length_append, hE]; omega)]
 have : (en (l.getD j default) ++ (l.drop (j + 1)).flatMap en).take es = en (l.getD j default) := by
  rw [List.take_append_of_le_length (by rw [hE]; omega), List.take_of_length_le (by rw [hE]; omega)]
 rw [this]
theorem ldF [Inhabited α] (hE : ∀ a, (en a).length = es) (h : Hp) {l : List α} {j i : Nat} (h1 : j < l.length) (hi : i < es) : QcY h none (.d (.rp (((l.drop j).flatMap en).drop i))) = ((en (l.getD j default))[i]?).map .d := by
 rw [Qen h1, List.flatMap_cons]
 simp only [QcY, Qj2]
 rw [List.head?_drop, List.getElem?_append_left (by rw [hE]; exact hi)]
def gAE (k : Nat) (l : List α) : A := if l = [] then .d (.z true) else .own [k] l.length
def arE (en : α → List D) (es n : Nat) (l : List α) : Obj := ⟨es, n, (l.flatMap en).map .d, false⟩
def gHE (en : α → List D) (es k : Nat) (l : List α) : List (Key × Obj) := if l = [] then [] else [([k], arE en es l.length l)]
theorem Qcs (k : Nat) : gAE k ([] : List α) = .d (.z true) := rfl
theorem Qct (k : Nat) : gHE en es k [] = [] := rfl
theorem QcG {k : Nat} {l : List α} (h : l ≠ []) : gAE k l = .own [k] l.length := if_neg h
theorem QcH {k : Nat} {l : List α} (h : l ≠ []) : gHE en es k l = [([k], arE en es l.length l)] := if_neg h
theorem QlC (k : Nat) (l : List α) (v : α) : gAE k (l ++ [v]) = .own [k] (l.length + 1) := by rw [QcG (by simp)]; simp
theorem QlE (k : Nat) (l : List α) (v : α) : gHE en es k (l ++ [v]) = [([k], arE en es (l.length + 1) (l ++ [v]))] := by rw [QcH (by simp)]; simp
theorem QaP (ks : List Key) : ∀ cs : List D, Qgg ks (cs.map A.d) = true
 | [] => rfl
 | x :: r => by rw [List.map_cons, Qgg, QaP ks r]; rfl
theorem Qse (cs : List D) : allD (cs.map A.d) = some cs := Qg1 cs
theorem lenE (hE : ∀ a, (en a).length = es) (l : List α) : ((l.flatMap en).map A.d).length = l.length * es := by rw [List.length_map, QsY hE]
theorem ldO [Inhabited α] (hE : ∀ a, (en a).length = es) {l : List α} {j : Nat} (h1 : j < l.length) : Qab (some es) (j * es) ((l.flatMap en).map A.d) = some (.d (.agg (en (l.getD j default)))) := by
 have h2 : j * es + es ≤ l.length * es := by rw [← Nat.succ_mul]; exact Nat.mul_le_mul_right _ h1
 simp only [Qab, guardO]
 rw [if_pos (by rw [lenE hE]; exact h2), ← List.map_drop, QiA hE, ← List.map_take, Qse, Qen h1, List.flatMap_cons, List.take_append_of_le_length (by rw [hE]; omega), List.take_of_length_le (by rw [hE]; omega)]
 rfl
def rE (en : α → List D) (es : Nat) (l : List α) : R := if l = [] then .d (.z true) else .own es l.length (l.flatMap en)
theorem QtN {l : List α} (h : l ≠ []) : rE en es l = .own es l.length (l.flatMap en) := if_neg h
end
theorem Qrx (l : List Pt) (x y : Int) : (l.flatMap cP).map A.d ++ [.d (.v (.int .i64 x)), .d (.v (.int .i64 y))] = ((l ++ [(x, y)]).flatMap cP).map A.d := by simp [cP, iv]
theorem cD_snoc (l : List Dr) (x y z : Int) : (l.flatMap cD).map A.d ++ [.d (.v (.int .i64 x)), .d (.v (.int .i64 y)), .d (.v (.int .i64 z))] = ((l ++ [(x, y, z)]).flatMap cD).map A.d := by simp [cD, iv]
theorem cG_snoc (l : List Eg) (x y z t : Int) : (l.flatMap cG).map A.d ++ [.d (.v (.int .i64 x)), .d (.v (.int .i64 y)), .d (.v (.int .i64 z)), .d (.v (.int .i64 t))] = ((l ++ [((x, y, z), t)]).flatMap cG).map A.d := by simp [cG, iv]
theorem Qm7 (a b : D) : rep 1 [a, b] = [a, b] := rfl
theorem rep1_3 (a b c : D) : rep 1 [a, b, c] = [a, b, c] := rfl
theorem rep1_4 (a b c d : D) : rep 1 [a, b, c, d] = [a, b, c, d] := rfl
theorem oneI (k : IntKind) (x : Int) : (D.v (.int k x)).one = true := rfl
theorem flat1P (x y : Int) : ([(x, y)] : List Pt).flatMap cP = [.v (.int .i64 x), .v (.int .i64 y)] := rfl
theorem flat1D (x y z : Int) : ([(x, y, z)] : List Dr).flatMap cD = [.v (.int .i64 x), .v (.int .i64 y), .v (.int .i64 z)] := rfl
theorem flat1G (x y z t : Int) : ([((x, y, z), t)] : List Eg).flatMap cG = [.v (.int .i64 x), .v (.int .i64 y), .v (.int .i64 z), .v (.int .i64 t)] := rfl

def Sm (n : Int) : Prop := -100000000 ≤ n ∧ n ≤ 100000000
def SmP (p : Pt) : Prop := Sm p.1 ∧ Sm p.2
def SmD (d : Dr) : Prop := Sm d.1 ∧ Sm d.2.1 ∧ Sm d.2.2

def Qmy (a b : Int) : St := mkS [(0, ai a), (1, ai b)] []
def Qsl (a : Int) : St := mkS [(0, ai a)] []
def nxP (l : List Pt) (i : Nat) : Pt := if i + 1 < l.length then l.getD (i + 1) default else l.getD 0 default
def dotI (d : Dr) (p : Pt) : Int := d.1 * p.1 + d.2.1 * p.2
theorem QnA {a b : Int} (ha : Sm a) (hb : Sm b) : -10000000000000000 ≤ a * b ∧ a * b ≤ 10000000000000000 := by
 simp only [Sm] at ha hb
 have h1 : (a * b).natAbs ≤ 100000000 * 100000000 := by
  rw [Int.natAbs_mul]
  exact Nat.mul_le_mul (by omega) (by omega)
 omega
theorem mx_max (a b : Int) : (if b > a then b else a) = max a b := by split <;> omega
def mstN (d : Dr) (l : List Pt) : Nat → Int
 | 0 => dotI d (l.getD 0 default)
 | i + 1 => max (mstN d l i) (dotI d (l.getD i default))
def moP (d : Dr) (l : List Pt) : Int := mstN d l l.length
theorem Qd5 {α : Type} {p : α → Prop} {l : List α} {x : α} (h : ∀ q ∈ l, p q) (hx : p x) (i : Nat) : p (l.getD i x) := by
 rw [List.getD_eq_getElem?_getD]
 rcases Nat.lt_or_ge i l.length with h1 | h1
 ·rw [List.getElem?_eq_getElem h1]; exact h _ (List.getElem_mem h1)
 ·rw [List.getElem?_eq_none h1]; exact hx
theorem sm0 : Sm 0 := ⟨by omega, by omega⟩
theorem smP0 : SmP default := ⟨sm0, sm0⟩
def Qrf (d : D) (e : Dr) (o i : Int) : St := mkS [(0, .d d), (3, .ptr [3] 0), (5, ai o), (6, ai i)] [([3], ⟨0, 0, [.d (iv e.1), .d (iv e.2.1), .d (iv e.2.2)], false⟩)]
def ms_en (o : Int) : St := mkS [(5, ai o)] []
def g3 (dx dy h : Int) : Int := (Int.gcd (Int.gcd dx dy) h : Int)
def nrP (dx dy h : Int) : Dr := (dy.tdiv (g3 dx dy h), (-dx).tdiv (g3 dx dy h), h.tdiv (g3 dx dy h))
theorem QqV (a : Int) {g : Int} (hg : 0 < g) : -(a.natAbs : Int) ≤ a.tdiv g ∧ a.tdiv g ≤ (a.natAbs : Int) := by
 have h1 : (a.tdiv g).natAbs ≤ a.natAbs := by rw [Int.natAbs_tdiv]; exact Nat.div_le_self _ _
 omega
theorem g3_pos (dx dy : Int) {h : Int} (hh : 0 < h) : 0 < g3 dx dy h := by
 unfold g3
 have := Int.gcd_pos_of_ne_zero_right ((Int.gcd dx dy : Nat) : Int) (b := h) (by omega)
 omega
theorem box3s (a b c : D) : Qae 0 [.d a, .d b, .d c] [.d (.v (.int .i64 0)), .d (.v (.int .i64 0)), .d (.v (.int .i64 0))] = some [.d a, .d b, .d c] := rfl
def mvP (tx ty : Int) (p : Pt) : Pt := (p.1 + tx, p.2 + ty)
def Qn1 (d : D) (tx ty : Int) (L : List Pt) (i : Int) : St := mkS [(0, .d d), (1, ai tx), (2, ai ty), (7, gAE 32 L), (8, ai i)] (gHE cP 2 32 L)
def mv_en (L : List Pt) : St := mkS [(7, gAE 32 L)] (gHE cP 2 32 L)
def spB (c k m : Int) : List Pt :=
 if c = 0 ∨ c = 1 ∨ c = 2 then [(0, 0), (2 * k, 0), (2 * k, m), (0, m)]
 else if c = 3 then [(0, 0), (4 * k, 0), (0, 3 * k)]
 else if c = 4 then [(0, 0), (4 * k, -3 * k), (8 * k, 0), (4 * k, 3 * k)]
 else if c = 5 then [(0, 0), (8 * k, 0), (8 * k, m), (4 * k, m + 3 * k), (0, m)]
 else [(0, 0), (6 * k, 0), (3 * k, 4 * k)]
def spC (l : List Int) : Int := atr l 0 7
def spK (l : List Int) : Int := 1 + atr l 1 3
def spM (l : List Int) : Int := 1 + atr l 2 6
def spX (l : List Int) : Int := atr l 3 5 - 2
def spY (l : List Int) : Int := atr l 4 5 - 2
def spP (l : List Int) : List Pt := (spB (spC l) (spK l) (spM l)).map (mvP (spX l) (spY l))
theorem sh_b (l : List Int) : (0 ≤ spC l ∧ spC l < 7) ∧ (1 ≤ spK l ∧ spK l < 4) ∧ (1 ≤ spM l ∧ spM l < 7) ∧ (-2 ≤ spX l ∧ spX l < 3) ∧ (-2 ≤ spY l ∧ spY l < 3) := by
 have h1 := Qtl l 0 (m := 7) (by omega)
 have h2 := Qtl l 1 (m := 3) (by omega)
 have h3 := Qtl l 2 (m := 6) (by omega)
 have h4 := Qtl l 3 (m := 5) (by omega)
 have h5 := Qtl l 4 (m := 5) (by omega)
 unfold spC spK spM spX spY
 omega
variable [Its]
theorem Qpn {n : Int} (hn : -4000000000000000000 ≤ n ∧ n ≤ 4000000000000000000) : Qah G QeX [iv n] = some (.d (iv (n.natAbs : Int))) := by
 rw [Qac (cf := Qf0) rfl]
 have e1 : w64 (0 - n) = -n := by rw [Qad (by omega) (by omega)]; omega
 have e2 : (if -n > n then -n else n) = ((n.natAbs : Nat) : Int) := by split <;> omega
 generalize ((n.natAbs : Nat) : Int) = z at *
 simp -implicitDefEqProofs (maxSteps:=9^8) only [Qf0, QkB, mxV, go_sem, iv, bv, e1, e2, reduceCtorEq, ↓reduceIte, Nat.reduceEqDiff]

theorem QrD : ∀ (n : Nat) (a b : Int), b.natAbs < n → 0 ≤ a → 0 ≤ b → X G (.loop QbA) (Qmy a b) = some (.x 0, Qsl (Int.gcd a b : Int))
 | 0, a, b, h, _, _ => by omega
 | n + 1, a, b, h, ha, hb => by
  by_cases h0 : b = 0
  ·subst h0
   have e1 : ((0 : Int) != 0) = false := rfl
   have e2 : ((Int.gcd a 0 : Nat) : Int) = a := by rw [Int.gcd_zero_right]; omega
   rw [e2]
   have g : X G QbA (Qmy a 0) = some (.x 0, Qsl a) := by
    simp -implicitDefEqProofs (maxSteps:=9^8) only [QbA, Qmy, Qsl, go_sem, iv, bv, e1, reduceCtorEq, ↓reduceIte, Nat.reduceEqDiff]
   rw [Qag, g]; rfl
  ·have e1 : (b != 0) = true := by simpa using h0
   have e2 := QmM (b := b) h0
   have e3 := Qdi (a := a) (b := b) ha
   have g : X G QbA (Qmy a b) = some (.n, Qmy b (a % b)) := by
    simp -implicitDefEqProofs (maxSteps:=9^8) only [QbA, Qmy, go_sem, iv, bv, e1, e2, e3, reduceCtorEq, ↓reduceIte, Nat.reduceEqDiff]
   have h1 := Int.emod_nonneg a h0
   have h2 := Int.emod_lt_of_pos a (b := b) (by omega)
   have ih := QrD n b (a % b) (by omega) hb h1
   have e4 : Int.gcd b (a % b) = Int.gcd a b := by
    obtain ⟨u, rfl⟩ := Int.eq_ofNat_of_zero_le ha
    obtain ⟨v, rfl⟩ := Int.eq_ofNat_of_zero_le hb
    show Nat.gcd v _ = Nat.gcd u v
    rw [← Int.natCast_emod, Int.natAbs_natCast, Nat.gcd_comm v, ← Nat.gcd_rec v u |>.symm.trans (Nat.gcd_comm v u)]
   rw [Qag, g, Option.bind_some, if_pos rfl, ih, e4]
theorem Qle {a b : Int} (ha : 0 ≤ a) (hb : 0 ≤ b) : Qah G QdM [iv a, iv b] = some (.d (iv (Int.gcd a b : Int))) := by
 rw [Qac (cf := QeD) rfl]
 have g := QrD (b.natAbs + 1) a b (by omega) ha hb
 generalize ((Int.gcd a b : Nat) : Int) = z at *
 simp only [Qmy, Qsl, go_sem] at g
 simp -implicitDefEqProofs (maxSteps:=9^8) only [QeD, g, go_sem, iv, bv, reduceCtorEq, ↓reduceIte, Nat.reduceEqDiff]

theorem QpQ {d : Dr} (h : SmD d) : Qah G QeS [encD d] = some (.d (encD (-d.1, -d.2.1, d.2.2))) := by
 rw [Qac (cf := Qf2) rfl]
 obtain ⟨x, y, z⟩ := d
 obtain ⟨h1, h2, h3⟩ := h
 simp only [Sm] at h1 h2 h3
 have e1 : w64 (0 - x) = -x := by rw [Qad (by omega) (by omega)]; omega
 have e2 : w64 (0 - y) = -y := by rw [Qad (by omega) (by omega)]; omega
 simp -implicitDefEqProofs (maxSteps:=9^8) only [Qf2, encD, cD, Qae, Qab, go_sem, iv, bv, e1, e2, reduceCtorEq, ↓reduceIte, Nat.reduceEqDiff]

theorem Ql2 {d : D} {l : List Pt} (hr : RwE cP d l) {i : Nat} (hi : i < l.length) (hl : l.length ≤ 1000000) : Qah G QdI [d, iv (i : Int)] = some (.d (encP (nxP l i))) := by
 rw [Qac (cf := Qet) rfl]
 have ll := hr.len
 have e1 : w64 ((i : Int) + 1) = ((i + 1 : Nat) : Int) := by rw [Qad (by omega) (by omega)]; rfl
 unfold nxP
 by_cases h : i + 1 < l.length
 ·have e2 : decide (((i + 1 : Nat) : Int) < (l.length : Int)) = true := lt_t (by omega)
  have x1 := hr.ixa Qb2 h
  have x2 := fun hp => ldE Qb2 hp h
  rw [if_pos h]
  generalize l.getD (i + 1) default = q at *
  obtain ⟨x, y⟩ := q
  simp only [cP, iv] at x2
  simp -implicitDefEqProofs (maxSteps:=9^8) only [Qet, encP, cP, Qae, Qab, go_sem, iv, bv, e1, e2, ll, x1, x2, reduceCtorEq, ↓reduceIte, Nat.reduceEqDiff]
 ·have e2 : decide (((i + 1 : Nat) : Int) < (l.length : Int)) = false := lt_f (by omega)
  have x1 := hr.ixa (j := 0) Qb2 (by omega)
  have x2 := fun hp => ldE (j := 0) (l := l) Qb2 hp (by omega)
  simp only [nc0, List.drop_zero] at x1 x2
  rw [if_neg h]
  generalize l.getD 0 default = q at *
  obtain ⟨x, y⟩ := q
  simp only [cP, iv] at x2
  simp -implicitDefEqProofs (maxSteps:=9^8) only [Qet, encP, cP, Qae, Qab, go_sem, iv, bv, e1, e2, ll, x1, x2, reduceCtorEq, ↓reduceIte, Nat.reduceEqDiff]

theorem ms_go {d : D} {l : List Pt} {e : Dr} (hr : RwE cP d l) (hl : ∀ p ∈ l, SmP p) (he : SmD e) (hn : l.length ≤ 1000000) {o : Int} {i : Nat} (hi : i < l.length) : X G Qb6 (Qrf d e o i) = some (.n, Qrf d e (max o (dotI e (l.getD i default))) ((i + 1 : Nat) : Int)) := by
 have ll := hr.len
 have e1 : decide ((i : Int) < (l.length : Int)) = true := lt_t (by omega)
 have e2 : w64 ((i : Int) + 1) = ((i + 1 : Nat) : Int) := by rw [Qad (by omega) (by omega)]; rfl
 have x1 := hr.ixa Qb2 hi
 have x2 := fun hp => ldF (i := 0) Qb2 hp hi (by omega)
 have x3 := fun hp => ldF (i := 1) Qb2 hp hi (by omega)
 have hp := Qd5 hl smP0 i
 unfold dotI
 generalize l.getD i default = q at *
 obtain ⟨x, y⟩ := q
 obtain ⟨a, b, c⟩ := e
 obtain ⟨h1, h2, h3⟩ := he
 have m1 := QnA h1 hp.1
 have m2 := QnA h2 hp.2
 dsimp only at m1 m2 ⊢
 have e3 : w64 (a * x) = a * x := Qad (by omega) (by omega)
 have e4 : w64 (b * y) = b * y := Qad (by omega) (by omega)
 obtain ⟨s, hs⟩ : ∃ s, a * x + b * y = s := ⟨_, rfl⟩
 have e5 : w64 (a * x + b * y) = s := by rw [Qad (by omega) (by omega), hs]
 have e6 := mx_max o s
 rw [hs]
 simp only [cP, iv, List.getElem?_cons_zero, List.getElem?_cons_succ, Option.map_some, List.drop_zero] at x2 x3
 simp -implicitDefEqProofs (maxSteps:=9^8) only [Qb6, Qrf, QkB, mxV, Qae, Qab, go_sem, iv, bv, e1, e2, e3, e4, e5, e6, ll, x1, x2, x3, reduceCtorEq, ↓reduceIte, Nat.reduceEqDiff]
theorem ms_stop {d : D} {l : List Pt} {e : Dr} (hr : RwE cP d l) {o : Int} : X G Qb6 (Qrf d e o l.length) = some (.x 0, ms_en o) := by
 have ll := hr.len
 have e1 : decide ((l.length : Int) < (l.length : Int)) = false := lt_f (by omega)
 simp -implicitDefEqProofs (maxSteps:=9^8) only [Qb6, Qrf, ms_en, go_sem, iv, bv, e1, ll, reduceCtorEq, ↓reduceIte, Nat.reduceEqDiff]
theorem ms_loop {d : D} {l : List Pt} {e : Dr} (hr : RwE cP d l) (hl : ∀ p ∈ l, SmP p) (he : SmD e) (hn : l.length ≤ 1000000) : ∀ (j i : Nat), i + j = l.length → X G (.loop Qb6) (Qrf d e (mstN e l i) i) = some (.x 0, ms_en (moP e l))
 | 0, i, h => by
  have : i = l.length := by omega
  subst this
  rw [Qag, ms_stop hr]; rfl
 | j + 1, i, h => by
  rw [Qag, ms_go hr hl he hn (by omega), Option.bind_some, if_pos rfl]
  exact ms_loop hr hl he hn j (i + 1) (by omega)
theorem QpX {d : D} {l : List Pt} {e : Dr} (hr : RwE cP d l) (h0 : 0 < l.length) (hl : ∀ p ∈ l, SmP p) (he : SmD e) (hn : l.length ≤ 1000000) : Qah G QeO [d, encD e] = some (.d (iv (moP e l))) := by
 rw [Qac (cf := Qf5) rfl]
 have g := ms_loop hr hl he hn l.length 0 (by omega)
 have x1 := hr.ixa (j := 0) Qb2 h0
 have x2 := fun hp => ldF (i := 0) (l := l) Qb2 hp h0 (by omega)
 have x3 := fun hp => ldF (i := 1) (l := l) Qb2 hp h0 (by omega)
 have hp := Qd5 hl smP0 0
 simp only [mstN, dotI] at g
 generalize l.getD 0 default = q at *
 obtain ⟨x, y⟩ := q
 obtain ⟨a, b, c⟩ := e
 obtain ⟨h1, h2, h3⟩ := he
 have m1 := QnA h1 hp.1
 have m2 := QnA h2 hp.2
 dsimp only at m1 m2 g
 have e3 : w64 (a * x) = a * x := Qad (by omega) (by omega)
 have e4 : w64 (b * y) = b * y := Qad (by omega) (by omega)
 obtain ⟨s, hs⟩ : ∃ s, a * x + b * y = s := ⟨_, rfl⟩
 have e5 : w64 (a * x + b * y) = s := by rw [Qad (by omega) (by omega), hs]
 rw [hs] at g
 simp only [cP, iv, List.getElem?_cons_zero, List.getElem?_cons_succ, Option.map_some, List.drop_zero] at x2 x3
 generalize moP (a, b, c) l = z at *
 simp only [nc0, List.drop_zero] at x1 x2 x3
 simp only [Qrf, ms_en, iv, go_sem] at g
 simp -implicitDefEqProofs (maxSteps:=9^8) only [Qf5, encD, cD, g, Qae, Qab, go_sem, iv, bv, e3, e4, e5, x1, x2, x3, reduceCtorEq, ↓reduceIte, Nat.reduceEqDiff]

/-! ### Normals -/
theorem Qqm {a b : Pt} {h : Int} (ha : SmP a) (hb : SmP b) (hh : h * h = (b.1 - a.1) * (b.1 - a.1) + (b.2 - a.2) * (b.2 - a.2)) (h0 : 0 < h) : Qah G Qe3 [encP a, encP b] = some (.d (.tup [encD (nrP (b.1 - a.1) (b.2 - a.2) h), bv true])) := by
 rw [Qac (cf := Qgd) rfl]
 obtain ⟨ax, ay⟩ := a
 obtain ⟨bx, byy⟩ := b
 obtain ⟨h1, h2⟩ := ha
 obtain ⟨h3, h4⟩ := hb
 simp only [Sm] at h1 h2 h3 h4
 dsimp only at hh ⊢
 obtain ⟨dx, hdx⟩ : ∃ z, bx - ax = z := ⟨_, rfl⟩
 obtain ⟨dy, hdy⟩ : ∃ z, byy - ay = z := ⟨_, rfl⟩
 have e1 : w64 (bx - ax) = dx := by rw [Qad (by omega) (by omega), hdx]
 have e2 : w64 (byy - ay) = dy := by rw [Qad (by omega) (by omega), hdy]
 rw [hdx, hdy] at hh
 rw [hdx, hdy]
 have b1 : -200000000 ≤ dx ∧ dx ≤ 200000000 := by omega
 have b2 : -200000000 ≤ dy ∧ dy ≤ 200000000 := by omega
 clear hdx hdy h1 h2 h3 h4
 have sq : ∀ z : Int, -200000000 ≤ z ∧ z ≤ 200000000 → 0 ≤ z * z ∧ z * z ≤ 40000000000000000 := by
  intro z hz
  have h1 : (z * z).natAbs ≤ 200000000 * 200000000 := by
   rw [Int.natAbs_mul]
   exact Nat.mul_le_mul (by omega) (by omega)
  have h2 : 0 ≤ z * z := by
   rcases Int.le_total 0 z with h | h
   ·exact Int.mul_nonneg h h
   ·exact Int.mul_nonneg_of_nonpos_of_nonpos h h
  omega
 have q1 := sq dx b1
 have q2 := sq dy b2
 clear sq
 obtain ⟨p1, hp1⟩ : ∃ z, dx * dx = z := ⟨_, rfl⟩
 obtain ⟨p2, hp2⟩ : ∃ z, dy * dy = z := ⟨_, rfl⟩
 obtain ⟨s, hs⟩ : ∃ z, p1 + p2 = z := ⟨_, rfl⟩
 have e3 : w64 (dx * dx) = p1 := by rw [Qad (by omega) (by omega), hp1]
 have e4 : w64 (dy * dy) = p2 := by rw [Qad (by omega) (by omega), hp2]
 have e5 : w64 (p1 + p2) = s := by rw [Qad (by omega) (by omega), hs]
 rw [hp1, hp2, hs] at hh
 have hh2 : h < 1000000000 := by
  apply Classical.byContradiction
  intro hc
  have := Qq5 (a := 1000000000) (b := h) (by omega) (by omega)
  omega
 have hI : I64 (s) := ⟨by omega, by omega⟩
 have hrt : IsRt h s := by
  refine ⟨by omega, by omega, ?_⟩
  have e : (h + 1) * (h + 1) = h * h + 2 * h + 1 := by grind
  omega
 have g1 := Qex hI
 have g2 := QtC (x := s) (Nat.le_trans (QeJ hI) (by omega)) (by omega) hrt
 have hhI : I64 h := ⟨by omega, by omega⟩
 have g4 := Qrb (x := h) (Nat.le_trans (QeJ hhI) (by omega))
 rw [(smb_t hhI).1, (smb_t hhI).2] at g4
 rw [decide_eq_true hh] at g2
 have g5 := Qpn (n := dx) (by omega)
 have g6 := Qpn (n := dy) (by omega)
 have g7 := Qle (a := (dx.natAbs : Int)) (b := (dy.natAbs : Int)) (by omega) (by omega)
 have g8 := Qle (a := (Int.gcd dx dy : Int)) (b := h) (by omega) (by omega)
 have e6 : Int.gcd (dx.natAbs : Int) (dy.natAbs : Int) = Int.gcd dx dy := by simp [Int.gcd]
 rw [e6] at g7
 have gp := g3_pos dx dy h0
 have e7 : (Int.gcd (Int.gcd dx dy) h : Int) = g3 dx dy h := rfl
 rw [e7] at g8
 unfold nrP
 obtain ⟨g, hg⟩ : ∃ g, g3 dx dy h = g := ⟨_, rfl⟩
 rw [hg] at g8 gp ⊢
 have e8 := QmM (b := g) (by omega)
 have e9 : w64 (0 - dx) = -dx := by rw [Qad (by omega) (by omega)]; omega
 have t1 := QqV dy gp
 have t2 := QqV (-dx) gp
 have t3 := QqV h gp
 have f1 : w64 (dy.tdiv g) = dy.tdiv g := Qad (by omega) (by omega)
 have f2 : w64 ((-dx).tdiv g) = (-dx).tdiv g := Qad (by omega) (by omega)
 have f3 : w64 (h.tdiv g) = h.tdiv g := Qad (by omega) (by omega)
 have f4 : (h == 0) = false := Qds (by omega)
 clear t1 t2 t3 q1 q2
 have u1 := dc_dg (digs h.natAbs)
 simp only [encI, iv, bv] at g1 g2 g4 g5 g6 g7 g8
 generalize digs h.natAbs = dh at *
 generalize decide (h < 0) = sh at *
 simp -implicitDefEqProofs (maxSteps:=9^8) only [Qgd, toDs, encP, cP, encD, cD, box3s, Qae, Qab, u1, g1, g2, g4, g5, g6, g7, g8, e1, e2, e3, e4, e5, e8, e9, f1, f2, f3, f4, Bool.not_true, Bool.not_false, go_sem, iv, bv, reduceCtorEq, ↓reduceIte, Nat.reduceEqDiff]

/-! ### Moved shapes -/
theorem mv_go {d : D} {l : List Pt} {tx ty : Int} (hr : RwE cP d l) (hl : ∀ p ∈ l, SmP p) (hx : Sm tx) (hy : Sm ty) (hn : l.length ≤ 1000000) {L : List Pt} (hL : L.length ≤ 1000000) {i : Nat} (hi : i < l.length) :
    X G Qbj (Qn1 d tx ty L i) = some (.n, Qn1 d tx ty (L ++ [mvP tx ty (l.getD i default)]) ((i + 1 : Nat) : Int)) := by
  have ll := hr.len
  have e1 : decide ((i : Int) < (l.length : Int)) = true := lt_t (by omega)
  have e2 : w64 ((i : Int) + 1) = ((i + 1 : Nat) : Int) := by rw [Qad (by omega) (by omega)]; rfl
  have x1 := hr.ixa Qb2 hi
  have x2 := fun hp => ldF (i := 0) Qb2 hp hi (by omega)
  have x3 := fun hp => ldF (i := 1) Qb2 hp hi (by omega)
  have hp := Qd5 hl smP0 i
  generalize l.getD i default = q at *
  obtain ⟨x, y⟩ := q
  obtain ⟨h1, h2⟩ := hp
  simp only [Sm] at h1 h2 hx hy
  obtain ⟨u, hu⟩ : ∃ u, x + tx = u := ⟨_, rfl⟩
  obtain ⟨v, hv⟩ : ∃ v, y + ty = v := ⟨_, rfl⟩
  have e3 : w64 (x + tx) = u := by rw [Qad (by omega) (by omega), hu]
  have e4 : w64 (y + ty) = v := by rw [Qad (by omega) (by omega), hv]
  simp only [cP, iv, List.getElem?_cons_zero, List.getElem?_cons_succ, Option.map_some, List.drop_zero] at x2 x3
  unfold mvP
  dsimp only
  rw [hu, hv]
  by_cases h0 : L = []
  · subst h0
    have hb : (16 ≤ bound) = True := eq_true (by unfold bound; omega)
    have hb1 : (1 * 16 ≤ bound) = True := eq_true (by unfold bound; omega)
    have hq : ([(u, v)] : List Pt) ≠ [] := by simp
    simp -implicitDefEqProofs (maxSteps:=9^8) only [Qbj, Qn1, Qcs, Qct, QcG hq, QcH hq, arE, flat1P, Qaa, List.nil_append, List.cons_append, List.length_nil, List.length_cons, Nat.zero_add, List.map_cons, List.map_nil, Qm7, oneI, srcS, src, allD, hb, hb1, ll, x1, x2, x3, go_sem, iv, bv, e1, e2, e3, e4, reduceCtorEq, ↓reduceIte, Nat.reduceEqDiff]
  · have n3 := lenE Qb2 L
    have n4 : ((L.length + 1) * 16 ≤ bound) = True := eq_true (by unfold bound; omega)
    simp -implicitDefEqProofs (maxSteps:=9^8) only [Qbj, Qn1, QcG h0, QcH h0, QlC, QlE, arE, Qrx, QaP, n3, n4, List.nil_append, List.cons_append, List.length_nil, List.length_cons, Nat.zero_add, List.map_cons, List.map_nil, List.all_cons, List.all_nil, Qm7, oneI, srcS, src, allD, ll, x1, x2, x3, go_sem, iv, bv, e1, e2, e3, e4, reduceCtorEq, ↓reduceIte, Nat.reduceEqDiff]
theorem mv_stop {d : D} {l : List Pt} {tx ty : Int} (hr : RwE cP d l) {L : List Pt} : X G Qbj (Qn1 d tx ty L l.length) = some (.x 0, mv_en L) := by
 have ll := hr.len
 have e1 : decide ((l.length : Int) < (l.length : Int)) = false := lt_f (by omega)
 by_cases h0 : L = []
 ·subst h0
  simp -implicitDefEqProofs (maxSteps:=9^8) only [Qbj, Qn1, mv_en, Qcs, Qct, Qaa, ll, go_sem, iv, bv, e1, reduceCtorEq, ↓reduceIte, Nat.reduceEqDiff]
 ·simp -implicitDefEqProofs (maxSteps:=9^8) only [Qbj, Qn1, mv_en, QcG h0, QcH h0, arE, QaP, ll, go_sem, iv, bv, e1, reduceCtorEq, ↓reduceIte, Nat.reduceEqDiff]
theorem mv_loop {d : D} {l : List Pt} {tx ty : Int} (hr : RwE cP d l) (hl : ∀ p ∈ l, SmP p) (hx : Sm tx) (hy : Sm ty) (hn : l.length ≤ 1000000) : ∀ (j i : Nat), i + j = l.length → X G (.loop Qbj) (Qn1 d tx ty ((l.take i).map (mvP tx ty)) i) = some (.x 0, mv_en (l.map (mvP tx ty)))
 | 0, i, h => by
  have : i = l.length := by omega
  subst this
  rw [Qag, mv_stop hr, List.take_length]; rfl
 | j + 1, i, h => by
  have hi : i < l.length := by omega
  have ih := mv_loop hr hl hx hy hn j (i + 1) (by omega)
  have e : (l.take (i + 1)).map (mvP tx ty) = (l.take i).map (mvP tx ty) ++ [mvP tx ty (l.getD i default)] := by
   rw [List.take_add_one, List.map_append, List.getElem?_eq_getElem hi, List.getD_eq_getElem?_getD, List.getElem?_eq_getElem hi]
   rfl
  rw [e] at ih
  rw [Qag, mv_go hr hl hx hy hn (by simp; omega) hi, Option.bind_some, if_pos rfl]
  exact ih
theorem Move_spec {d : D} {l : List Pt} {tx ty : Int} (hr : RwE cP d l) (hl : ∀ p ∈ l, SmP p) (hx : Sm tx) (hy : Sm ty) (hn : l.length ≤ 1000000) : Qah G Qhc [d, iv tx, iv ty] = some (rE cP 2 (l.map (mvP tx ty))) := by
 rw [Qac (cf := Qeu) rfl]
 have g := mv_loop hr hl hx hy hn l.length 0 (by omega)
 simp only [List.take_zero, List.map_nil] at g
 generalize l.map (mvP tx ty) = L at *
 simp only [Qn1, mv_en, Qcs, Qct, Qaa, go_sem, nc0, iv] at g
 by_cases h0 : L = []
 ·subst h0
  simp only [Qcs, Qct, Qaa, go_sem] at g
  simp -implicitDefEqProofs (maxSteps:=9^8) only [Qeu, rE, g, Qaa, go_sem, iv, bv, reduceCtorEq, ↓reduceIte, Nat.reduceEqDiff]
 ·simp only [QcG h0, QcH h0, arE, go_sem] at g
  simp -implicitDefEqProofs (maxSteps:=9^8) only [Qeu, QtN h0, g, QaP, Qse, Qaa, go_sem, iv, bv, reduceCtorEq, ↓reduceIte, Nat.reduceEqDiff]

/-! ### Shapes -/
end Go.AM

/- ref07: Changes, counted, Middle, halved. -/
namespace Go.AM
open Go Go.RowKit
def RwC (d : D) (ps : List (List Rat)) : Prop := ∃ ds : List D, ds.length = ps.length ∧ (∀ i, i < ps.length → RwR (ds.getD i (.z true)) (ps.getD i [])) ∧ (d = .row ds.length ds ∨ (d = .z true ∧ ds = []))
theorem RwC.len {d : D} {ps : List (List Rat)} (h : RwC d ps) : lenA (.d d) = some ps.length := by
 obtain ⟨ds, h1, _, rfl | ⟨rfl, rfl⟩⟩ := h
 ·rw [← h1]; rfl
 ·rw [← h1]; rfl
theorem RwC.nil : RwC (.z true) [] := ⟨[], rfl, fun i h => by simp at h, .inr ⟨rfl, rfl⟩⟩
theorem RwC.at {d : D} {ps : List (List Rat)} (h : RwC d ps) {i : Nat} (hi : i < ps.length) : ∃ x r, RwR x (ps.getD i []) ∧ (∀ hp, ixaA hp 1 (i : Int) (.d d) = some (.d (.rp r))) ∧ ∀ hp, QcY hp none (.d (.rp r)) = some (.d x) := by
 obtain ⟨ds, h1, h2, rfl | ⟨rfl, rfl⟩⟩ := h
 ·refine ⟨ds.getD i (.z true), ds.drop i, h2 i hi, fun hp => ?_, fun hp => ?_⟩
  ·simp only [ixaA, guardO]
   rw [if_pos ⟨by omega, by omega⟩]
   simp
  ·rw [List.drop_eq_getElem_cons (show i < ds.length by omega)]
   simp only [QcY, Qj2]
   rw [List.getD_eq_getElem?_getD, List.getElem?_eq_getElem (show i < ds.length by omega)]
   rfl
 ·rw [← h1] at hi; simp at hi
def sgn1 (p : List Rat) (x : Rat) : Int := Int.sign (evR p x).num
def sgs (ps : List (List Rat)) (x : Rat) : List Int := (ps.map fun p => sgn1 p x).filter fun s => decide (s ≠ 0)
def chN (S : List Int) : Nat → Nat
 | 0 => 0
 | i + 1 => chN S i + (if 1 ≤ i ∧ S.getD i 0 ≠ S.getD (i - 1) 0 then 1 else 0)
def chg (ps : List (List Rat)) (x : Rat) : Nat := chN (sgs ps x) (sgs ps x).length
def cnt (ps : List (List Rat)) (lo hi : Rat) : Int := if hi ≤ lo then 0 else (chg ps lo : Int) - (chg ps hi : Int)
def mid (lo hi : Rat) : Rat := (lo + hi) * Rat.divInt 1 2
def hal (ps : List (List Rat)) (l : Rat × Rat) : Rat × Rat := if cnt ps l.1 (mid l.1 l.2) = 1 then (l.1, mid l.1 l.2) else (mid l.1 l.2, l.2)
theorem sgs_snoc (ps : List (List Rat)) (x : Rat) {i : Nat} (hi : i < ps.length) : sgs (ps.take (i + 1)) x = if sgn1 (ps.getD i []) x ≠ 0 then sgs (ps.take i) x ++ [sgn1 (ps.getD i []) x] else sgs (ps.take i) x := by
 have e : ps.take (i + 1) = ps.take i ++ [ps.getD i []] := by
  rw [List.take_add_one, List.getD_eq_getElem?_getD, List.getElem?_eq_getElem hi]; rfl
 unfold sgs
 rw [e, List.map_append, List.filter_append, List.map_cons, List.map_nil]
 generalize ps.getD i [] = p
 by_cases h : sgn1 p x = 0
 ·rw [if_neg (by simp [h]), List.filter_cons_of_neg (by simp [h]), List.filter_nil, List.append_nil]
 ·rw [if_pos h, List.filter_cons_of_pos (by simp [h]), List.filter_nil]
theorem Qsc (ps : List (List Rat)) (x : Rat) : (sgs ps x).length ≤ ps.length := by
 unfold sgs
 exact Nat.le_trans (List.length_filter_le _ _) (by simp)
theorem Qss (S : List Int) : ∀ i, chN S i ≤ i
 | 0 => Nat.le_refl _
 | i + 1 => by
  rw [chN]
  have := Qss S i
  split <;> omega
def Qlh (d : D) (x : Rat) (S : List Int) (i : Int) : St := mkS [(0, .d d), (3, .ptr [3] 0), (5, gA 28 S), (6, ai i)] (([3], boxR x) :: gH 28 S)
def Qtq (S : List Int) : St := mkS [(5, gA 28 S)] (gH 28 S)
def QmF (S : List Int) (n i : Int) : St := mkS [(5, gA 28 S), (8, ai n), (9, ai i)] (gH 28 S)
theorem ldI1 {S : List Int} {i : Nat} (h : i < S.length) : Qab none i (QbL S) = some (.d (.v (.int .i64 (S.getD i 0)))) := by
 show (QbL S)[i]? = _
 unfold QbL
 rw [List.getElem?_map, List.getElem?_eq_getElem h, List.getD_eq_getElem?_getD, List.getElem?_eq_getElem h]
 rfl
theorem st4q (a b c d i j k l : A) : Qae 0 [a, b, c, d] [i, j, k, l] = some [a, b, c, d] := rfl
theorem ld4q (a b c d : D) : Qab (some 4) 0 [.d a, .d b, .d c, .d d] = some (.d (.agg [a, b, c, d])) := rfl
variable [Its]
section
variable {d : D} {ps : List (List Rat)} {x : Rat} {K : Nat}
theorem c7_go (hr : RwC d ps) (hn : ps.length ≤ 1000) (hs : ∀ p ∈ ps, SzL K p ∧ p.length ≤ 1000) (hx : sz x ≤ K) (hK1 : 1 ≤ K) (hK : K ≤ 10000) {S : List Int} (hS : S.length ≤ 1000) {i : Nat} (hi : i < ps.length) :
    X G Qay (Qlh d x S i) = some (.n, Qlh d x (if sgn1 (ps.getD i []) x ≠ 0 then S ++ [sgn1 (ps.getD i []) x] else S) ((i + 1 : Nat) : Int)) := by
  have e1 : decide ((i : Int) < (ps.length : Int)) = true := lt_t (by omega)
  have e2 : w64 ((i : Int) + 1) = ((i + 1 : Nat) : Int) := by rw [Qad (by omega) (by omega)]; rfl
  have ll := hr.len
  obtain ⟨y, r, hy, x1, x2⟩ := hr.at hi
  have hp := hs (ps.getD i []) (by rw [List.getD_eq_getElem?_getD, List.getElem?_eq_getElem hi]; exact List.getElem_mem hi)
  generalize ps.getD i [] = p at *
  have g1 := QdT hy hp.1 hK1 hK hp.2 hx
  have z := Qj1 (x := x) (K := K) hx p (fun q hq => hp.1 q hq)
  have zb : p.length * (2 * K + 1) ≤ 1000 * (2 * 10000 + 1) := Nat.mul_le_mul hp.2 (by omega)
  have g2 := Qbf (a := evR p x) (by omega)
  have es : Int.sign (evR p x).num = sgn1 p x := rfl
  rw [es] at g2
  have n4 := QlB (l := S) (by omega)
  clear z zb es hs hp hx
  generalize sgn1 p x = s at *
  generalize evR p x = v at *
  simp only [encR, iv] at g1 g2
  by_cases h0 : s = 0
  · have t : (s != 0) = false := Qth h0
    rw [if_neg (by simp [h0])]
    by_cases hS0 : S = []
    · subst hS0
      simp -implicitDefEqProofs (maxSteps:=9^8) only [Qay, Qlh, boxR, Qer, Qeo, Qaa, ll, x1, x2, g1, g2, t, e1, e2, ld4q, go_sem, iv, bv, reduceCtorEq, ↓reduceIte, Nat.reduceEqDiff]
    · simp -implicitDefEqProofs (maxSteps:=9^8) only [Qay, Qlh, boxR, QhG hS0, QhE hS0, arrI, Qam, Qaa, ll, x1, x2, g1, g2, t, e1, e2, ld4q, go_sem, iv, bv, reduceCtorEq, ↓reduceIte, Nat.reduceEqDiff]
  · have t : (s != 0) = true := bne_t h0
    rw [if_pos h0]
    by_cases hS0 : S = []
    · subst hS0
      have b0 := Qj4
      simp -implicitDefEqProofs (maxSteps:=9^8) only [Qay, Qlh, boxR, Qer, Qeo, List.nil_append, Qny, QnQ, arrI, Qgs, Qaa, ll, x1, x2, g1, g2, t, e1, e2, b0, ld4q, all_one, Qj5, srcS, src, go_sem, iv, bv, reduceCtorEq, ↓reduceIte, Nat.reduceEqDiff]
    · simp -implicitDefEqProofs (maxSteps:=9^8) only [Qay, Qlh, boxR, QhG hS0, QhE hS0, Qjs, QjD, arrI, Qfo, Qai, Qam, Qaa, ll, x1, x2, g1, g2, t, e1, e2, n4, ld4q, all_one, Qj5, srcS, src, go_sem, iv, bv, reduceCtorEq, ↓reduceIte, Nat.reduceEqDiff]
theorem c7_stop (hr : RwC d ps) {S : List Int} : X G Qay (Qlh d x S ps.length) = some (.x 0, Qtq S) := by
 have e1 : decide ((ps.length : Int) < (ps.length : Int)) = false := lt_f (by omega)
 have ll := hr.len
 by_cases hS0 : S = []
 ·subst hS0
  simp -implicitDefEqProofs (maxSteps:=9^8) only [Qay, Qlh, Qtq, boxR, Qer, Qeo, Qaa, ll, e1, go_sem, iv, bv, reduceCtorEq, ↓reduceIte, Nat.reduceEqDiff]
 ·simp -implicitDefEqProofs (maxSteps:=9^8) only [Qay, Qlh, Qtq, boxR, QhG hS0, QhE hS0, arrI, Qam, Qaa, ll, e1, go_sem, iv, bv, reduceCtorEq, ↓reduceIte, Nat.reduceEqDiff]
theorem c7_loop (hr : RwC d ps) (hn : ps.length ≤ 1000) (hs : ∀ p ∈ ps, SzL K p ∧ p.length ≤ 1000) (hx : sz x ≤ K) (hK1 : 1 ≤ K) (hK : K ≤ 10000) : ∀ (j i : Nat), i + j = ps.length →
    X G (.loop Qay) (Qlh d x (sgs (ps.take i) x) i) = some (.x 0, Qtq (sgs ps x))
  | 0, i, h => by
    have : i = ps.length := by omega
    subst this
    rw [Qag, c7_stop hr, List.take_length]; rfl
  | j + 1, i, h => by
    have ih := c7_loop hr hn hs hx hK1 hK j (i + 1) (by omega)
    have hl := Qsc (ps.take i) x
    rw [List.length_take] at hl
    rw [Qag, c7_go hr hn hs hx hK1 hK (by omega) (by omega), Option.bind_some, if_pos rfl, ← ih, sgs_snoc ps x (by omega)]
theorem n7_go {S : List Int} (hS : S.length ≤ 1000) {n : Nat} (hn : n ≤ 1000) {i : Nat} (h1 : 1 ≤ i) (hi : i < S.length) : X G QaD (QmF S n i) = some (.n, QmF S ((n + (if 1 ≤ i ∧ S.getD i 0 ≠ S.getD (i - 1) 0 then 1 else 0) : Nat) : Int) ((i + 1 : Nat) : Int)) := by
 have hS0 : S ≠ [] := fun h => by rw [h] at hi; simp at hi
 have e1 : decide ((i : Int) < (S.length : Int)) = true := lt_t (by omega)
 have e2 : w64 ((i : Int) + 1) = ((i + 1 : Nat) : Int) := by rw [Qad (by omega) (by omega)]; rfl
 have e3 : w64 ((i : Int) - 1) = ((i - 1 : Nat) : Int) := by rw [Qad (by omega) (by omega)]; omega
 have e4 : w64 ((n : Int) + 1) = ((n + 1 : Nat) : Int) := by rw [Qad (by omega) (by omega)]; rfl
 have b1 : (0 ≤ (i : Int)) = True := eq_true (by omega)
 have b2 : ((i : Int) < (S.length : Int)) = True := eq_true (by omega)
 have b3 : (0 ≤ ((i - 1 : Nat) : Int)) = True := eq_true (by omega)
 have b4 : (((i - 1 : Nat) : Int) < (S.length : Int)) = True := eq_true (by omega)
 have x1 := ldI1 (S := S) hi
 have x2 := ldI1 (S := S) (i := i - 1) (by omega)
 generalize S.getD i 0 = u at *
 generalize S.getD (i - 1) 0 = v at *
 by_cases h : u = v
 ·have t : (u != v) = false := Qth h
  rw [if_neg (by simp [h])]
  simp -implicitDefEqProofs (maxSteps:=9^8) only [QaD, QmF, QhG hS0, QhE hS0, arrI, Qam, Qaa, x1, x2, t, e1, e2, e3, b1, b2, b3, b4, Nat.mul_one, Nat.add_zero, Int.toNat_natCast, go_sem, iv, bv, reduceCtorEq, ↓reduceIte, Nat.reduceEqDiff]
 ·have t : (u != v) = true := bne_t h
  rw [if_pos ⟨h1, h⟩]
  simp -implicitDefEqProofs (maxSteps:=9^8) only [QaD, QmF, QhG hS0, QhE hS0, arrI, Qam, Qaa, x1, x2, t, e1, e2, e3, e4, b1, b2, b3, b4, Nat.mul_one, Int.toNat_natCast, go_sem, iv, bv, reduceCtorEq, ↓reduceIte, Nat.reduceEqDiff]
theorem n7_stop {S : List Int} {n i : Int} (h : (S.length : Int) ≤ i) : X G QaD (QmF S n i) = some (.x 2, mkS [(8, ai n)] []) := by
 have e1 : decide (i < (S.length : Int)) = false := lt_f (by omega)
 by_cases hS0 : S = []
 ·subst hS0
  have e1 : decide (i < 0) = false := e1
  simp -implicitDefEqProofs (maxSteps:=9^8) only [QaD, QmF, Qer, Qeo, Qaa, e1, go_sem, iv, bv, reduceCtorEq, ↓reduceIte, Nat.reduceEqDiff]
 ·simp -implicitDefEqProofs (maxSteps:=9^8) only [QaD, QmF, QhG hS0, QhE hS0, arrI, Qam, Qaa, e1, go_sem, iv, bv, reduceCtorEq, ↓reduceIte, Nat.reduceEqDiff]
theorem n7_loop {S : List Int} (hS : S.length ≤ 1000) : ∀ (j i : Nat), 1 ≤ i → i + j = S.length → X G (.loop QaD) (QmF S (chN S i) i) = some (.x 2, mkS [(8, ai (chN S S.length))] [])
 | 0, i, h1, h => by
  have : i = S.length := by omega
  subst this
  rw [Qag, n7_stop (Int.le_refl _)]; rfl
 | j + 1, i, h1, h => by
  have := Qss S i
  rw [Qag, n7_go hS (by omega) h1 (by omega), Option.bind_some, if_pos rfl]
  exact n7_loop hS j (i + 1) (by omega) (by omega)
theorem Qkl (hr : RwC d ps) (hn : ps.length ≤ 1000) (hs : ∀ p ∈ ps, SzL K p ∧ p.length ≤ 1000) (hx : sz x ≤ K) (hK1 : 1 ≤ K) (hK : K ≤ 10000) : Qah G QdX [d, encR x] = some (.d (iv (chg ps x))) := by
 rw [Qac (cf := Qdh) rfl]
 have g0 := c7_loop hr hn hs hx hK1 hK ps.length 0 (by omega)
 have hl := Qsc ps x
 have e0 : sgs (ps.take 0) x = [] := rfl
 rw [e0] at g0
 have g1 : X G (.loop QaD) (QmF (sgs ps x) 0 1) = some (.x 2, mkS [(8, ai (chg ps x))] []) := by
  unfold chg
  by_cases h : sgs ps x = []
  ·rw [h]
   rw [Qag, n7_stop (by simp)]; rfl
  ·have hp : 0 < (sgs ps x).length := List.length_pos_iff.2 h
   exact n7_loop (S := sgs ps x) (by omega) ((sgs ps x).length - 1) 1 (by omega) (by omega)
 generalize chg ps x = c at *
 generalize sgs ps x = S at *
 by_cases hS0 : S = []
 ·subst hS0
  simp only [Qlh, Qtq, boxR, Qer, Qeo, Qaa, nc0, go_sem, iv] at g0
  simp only [QmF, Qer, Qeo, Qaa, nc0, go_sem, iv] at g1
  simp -implicitDefEqProofs (maxSteps:=9^8) only [Qdh, encR, g0, g1, Qaa, go_sem, iv, bv, reduceCtorEq, ↓reduceIte, Nat.reduceEqDiff]
 ·simp only [Qlh, Qtq, boxR, Qer, Qeo, QhG hS0, QhE hS0, arrI, Qaa, nc0, go_sem, iv] at g0
  simp only [QmF, QhG hS0, QhE hS0, arrI, Qaa, nc0, go_sem, iv] at g1
  simp -implicitDefEqProofs (maxSteps:=9^8) only [Qdh, encR, g0, g1, Qaa, Qam, go_sem, iv, bv, reduceCtorEq, ↓reduceIte, Nat.reduceEqDiff]
theorem Qdm (hr : RwC d ps) (hn : ps.length ≤ 1000) (hs : ∀ p ∈ ps, SzL K p ∧ p.length ≤ 1000) {lo hi : Rat} (h1 : sz lo ≤ K) (h2 : sz hi ≤ K) (hK1 : 1 ≤ K) (hK : K ≤ 10000) : Qah G Qcg [d, encR lo, encR hi] = some (.d (iv (cnt ps lo hi))) := by
 rw [Qac (cf := Qdn) rfl]
 have g0 := Qb0 (a := lo) (b := hi) (by omega) (by omega)
 have g1 := Qkl hr hn hs h1 hK1 hK
 have g2 := Qkl hr hn hs h2 hK1 hK
 have c1 : chg ps lo ≤ 1000 := Nat.le_trans (Qss _ _) (Nat.le_trans (Qsc ps lo) hn)
 have c2 : chg ps hi ≤ 1000 := Nat.le_trans (Qss _ _) (Nat.le_trans (Qsc ps hi) hn)
 have t0 : decide (cmpR lo hi ≥ 0) = decide (hi ≤ lo) := by
  have h := cmpR_lt (a := lo) (b := hi)
  rw [Bool.eq_iff_iff, decide_eq_true_iff, decide_eq_true_iff]
  constructor
  ·intro h1
   exact Rat.not_lt.1 fun h2 => by have := h.2 h2; omega
  ·intro h1
   exact Int.not_lt.1 fun h2 => Rat.not_lt.2 h1 (h.1 h2)
 unfold cnt
 generalize chg ps lo = a at *
 generalize chg ps hi = b at *
 obtain ⟨z, hz⟩ : ∃ z, (a : Int) - (b : Int) = z := ⟨_, rfl⟩
 have e : w64 ((a : Int) - (b : Int)) = z := by rw [Qad (by omega) (by omega), hz]
 rw [hz]
 generalize cmpR lo hi = c at *
 simp only [encR, iv] at g0 g1 g2
 by_cases h : hi ≤ lo
 ·rw [if_pos h]
  rw [decide_eq_true h] at t0
  simp -implicitDefEqProofs (maxSteps:=9^8) only [Qdn, encR, g0, t0, ld4q, Qaa, go_sem, iv, bv, reduceCtorEq, ↓reduceIte, Nat.reduceEqDiff]
 ·rw [if_neg h]
  rw [decide_eq_false h] at t0
  simp -implicitDefEqProofs (maxSteps:=9^8) only [Qdn, encR, g0, g1, g2, t0, e, ld4q, Qaa, go_sem, iv, bv, reduceCtorEq, ↓reduceIte, Nat.reduceEqDiff]
end
theorem QpV {lo hi : Rat} (h1 : sz lo ≤ 1000000000) (h2 : sz hi ≤ 1000000000) : Qah G Qee [encR lo, encR hi] = some (.d (encR (mid lo hi))) := by
 rw [Qac (cf := QeP) rfl]
 have g1 := Qdd (a := lo) (b := hi) (by omega) (by omega)
 have g2 := QaL (n := 1) (d := 2) ⟨by omega, by omega⟩ ⟨by omega, by omega⟩
 have z1 := Qkj (a := lo) (b := hi)
 have z3 := Qq0 (n := 1) (d := 2) ⟨by omega, by omega⟩ ⟨by omega, by omega⟩
 have g3 := Qcy (a := lo + hi) (b := Rat.divInt 1 2) (by omega) (by omega)
 unfold mid
 generalize (lo + hi) * Rat.divInt 1 2 = r at *
 generalize lo + hi = s at *
 generalize Rat.divInt 1 2 = t at *
 simp only [encR, iv] at g1 g2 g3
 simp -implicitDefEqProofs (maxSteps:=9^8) only [QeP, encR, g1, g2, g3, st4q, ld4q, Qaa, go_sem, iv, bv, reduceCtorEq, ↓reduceIte, Nat.reduceEqDiff]
end Go.AM

/- ref07: halved, within (of at most one), Chain. -/
namespace Go.AM
open Go Go.RowKit
def c2R (l : Rat × Rat) : List D := [.v (.bool (decide (l.1.num < 0))), dg (digs l.1.num.natAbs), .v (.bool false), dg (dd l.1.den), .v (.bool (decide (l.2.num < 0))), dg (digs l.2.num.natAbs), .v (.bool false), dg (dd l.2.den)]
def enc2 (l : Rat × Rat) : D := .agg (c2R l)
theorem st8q (a b c d e f g h i j k l m n o p : A) : Qae 0 [a, b, c, d, e, f, g, h] [i, j, k, l, m, n, o, p] = some [a, b, c, d, e, f, g, h] := rfl
theorem ld8q (a b c d e f g h : D) : Qab (some 8) 0 [.d a, .d b, .d c, .d d, .d e, .d f, .d g, .d h] = some (.d (.agg [a, b, c, d, e, f, g, h])) := rfl
theorem QqI (a b c d e f g h : D) : Qab (some 4) 0 [.d a, .d b, .d c, .d d, .d e, .d f, .d g, .d h] = some (.d (.agg [a, b, c, d])) := rfl
theorem QqS (a b c d e f g h : D) : Qab (some 4) 4 [.d a, .d b, .d c, .d d, .d e, .d f, .d g, .d h] = some (.d (.agg [e, f, g, h])) := rfl
theorem rep1_8 (a b c d e f g h : D) : rep 1 [a, b, c, d, e, f, g, h] = [a, b, c, d, e, f, g, h] := rfl
theorem RwR.one {d : D} {l : List Rat} (h : RwR d l) : A.one (.d d) = true := by rcases h with ⟨rfl, _⟩ | rfl <;> rfl
theorem RwR.cells {d : D} {l : List Rat} (h : RwR d l) : QaN (.d d) = [.d d] := by rcases h with ⟨rfl, _⟩ | rfl <;> rfl
theorem RwR.dc {d : D} {l : List Rat} (h : RwR d l) : d.one = true := by rcases h with ⟨rfl, _⟩ | rfl <;> rfl
theorem RwR.dcl {d : D} {l : List Rat} (h : RwR d l) : Qdc (.d d) = some [d] := by rcases h with ⟨rfl, _⟩ | rfl <;> rfl
noncomputable def chL : Nat → List Rat → List Rat → List (List Rat)
 | 0, _, _ => []
 | n + 1, a, b => if b = [] then [] else b :: chL n b (scP (remP a b) (-1))
noncomputable def chP (p : List Rat) : List (List Rat) := if p = [] then [] else frP p :: chL p.length (frP p) (deP (frP p))
def ChOk (K : Nat) : Nat → List Rat → List Rat → Prop
 | 0, _, b => b = []
 | n + 1, a, b => b = [] ∨ (Trm b ∧ b.length ≤ 90 ∧ HL K K b ∧ SzL K b ∧ dvG K b (dvN a b) a ∧ SzL K (remP a b) ∧ ChOk K n b (scP (remP a b) (-1)))
def Dls (ds : List D) (ps : List (List Rat)) : Prop := ds.length = ps.length ∧ ∀ i, i < ps.length → RwR (ds.getD i (.z true)) (ps.getD i [])
theorem Dls.nil : Dls [] [] := ⟨rfl, fun i h => by simp at h⟩
theorem Dls.cons {d : D} {p : List Rat} {ds : List D} {ps : List (List Rat)} (h : RwR d p) (H : Dls ds ps) : Dls (d :: ds) (p :: ps) := by
 refine ⟨by simp [H.1], fun i hi => ?_⟩
 cases i with
 | zero => exact h
 | succ i => simpa using H.2 i (by simpa using hi)
theorem Dls.rwc {ds : List D} {ps : List (List Rat)} (h : Dls ds ps) : RwC (.row ds.length ds) ps := ⟨ds, h.1, h.2, .inl rfl⟩
def Qq3 (da db : D) (ds : List D) : St := mkS [(3, .d da), (4, .own [14] ds.length), (5, .d db)] [([14], ⟨1, ds.length, ds.map .d, false⟩)]
def h7_en (ds : List D) : St := mkS [(4, .own [14] ds.length)] [([14], ⟨1, ds.length, ds.map .d, false⟩)]
theorem QoX (ks : List Key) : ∀ ds : List D, Qgg ks (ds.map A.d) = true
 | [] => rfl
 | x :: r => by rw [List.map_cons, Qgg, QoX ks r]; rfl
theorem i64_m1 : I64 (-1) := ⟨by omega, by omega⟩
theorem sz_m1 : sz (-1) ≤ 3 := QdG (n := -1) i64_m1
variable [Its]
section
variable {d : D} {ps : List (List Rat)} {K : Nat}
theorem Qp1          (hr : RwC d ps) (hn : ps.length ≤ 1000) (hs : ∀ p ∈ ps, SzL K p ∧ p.length ≤ 1000) {l : Rat × Rat} (h1 : sz l.1 ≤ K) (h2 : sz l.2 ≤ K) (h3 : sz (mid l.1 l.2) ≤ K) (hK1 : 1 ≤ K) (hK : K ≤ 10000) :
    Qah G Qgm [d, enc2 l] = some (.d (enc2 (hal ps l))) := by
  rw [Qac (cf := QdJ) rfl]
  have g1 := QpV (lo := l.1) (hi := l.2) (by omega) (by omega)
  have g2 := Qdm hr hn hs h1 h3 hK1 hK
  unfold hal
  generalize mid l.1 l.2 = m at *
  generalize cnt ps l.1 m = c at *
  obtain ⟨lo, hi⟩ := l
  simp only [encR, iv] at g1 g2
  by_cases hc : c = 1
  · have t : (c == 1) = true := beq_iff_eq.2 hc
    rw [if_pos hc]
    simp -implicitDefEqProofs (maxSteps:=9^8) only [QdJ, enc2, c2R, g1, g2, t, st4q, ld4q, st8q, ld8q, QqI, QqS, Qdb, QbF, Qaa, go_sem, iv, bv, reduceCtorEq, ↓reduceIte, Nat.reduceEqDiff]
  · have t : (c == 1) = false := Qds hc
    rw [if_neg hc]
    simp -implicitDefEqProofs (maxSteps:=9^8) only [QdJ, enc2, c2R, g1, g2, t, st4q, ld4q, st8q, ld8q, QqI, QqS, Qdb, QbF, Qaa, go_sem, iv, bv, reduceCtorEq, ↓reduceIte, Nat.reduceEqDiff]
theorem Qlf          (hr : RwC d ps) (hn : ps.length ≤ 1000) (hs : ∀ p ∈ ps, SzL K p ∧ p.length ≤ 1000) {lo hi : Rat} (h1 : sz lo ≤ K) (h2 : sz hi ≤ K) (hK1 : 1 ≤ K) (hK : K ≤ 10000) (hc : cnt ps lo hi = 0) :
    Qah G Qbc [d, encR lo, encR hi] = some (.d (.z true)) := by
  rw [Qac (cf := QcQ) rfl]
  have g := Qdm hr hn hs h1 h2 hK1 hK
  rw [hc] at g
  have t : ((0 : Int) == 0) = true := rfl
  simp only [encR, iv] at g
  simp -implicitDefEqProofs (maxSteps:=9^8) only [QcQ, encR, g, t, ld4q, Qaa, go_sem, iv, bv, reduceCtorEq, ↓reduceIte, Nat.reduceEqDiff]
theorem Qrp         (hr : RwC d ps) (hn : ps.length ≤ 1000) (hs : ∀ p ∈ ps, SzL K p ∧ p.length ≤ 1000) {lo hi : Rat} (h1 : sz lo ≤ K) (h2 : sz hi ≤ K) (hK1 : 1 ≤ K) (hK : K ≤ 10000) (hc : cnt ps lo hi = 1) :
    Qah G Qbc [d, encR lo, encR hi] = some (.own 8 1 (c2R (lo, hi))) := by
  rw [Qac (cf := QcQ) rfl]
  have g := Qdm hr hn hs h1 h2 hK1 hK
  rw [hc] at g
  have t : ((1 : Int) == 0) = false := rfl
  have t2 : ((1 : Int) == 1) = true := rfl
  simp only [encR, iv] at g
  simp -implicitDefEqProofs (maxSteps:=9^8) only [QcQ, encR, c2R, g, t, t2, ld4q, Qdb, QbF, rep1_8, srcS, src, allD, Qgg, Qaa, go_sem, iv, bv, reduceCtorEq, ↓reduceIte, Nat.reduceEqDiff]
theorem h7_go {da db : D} {a b : List Rat} {ds : List D} (ha : RwR da a) (hb : RwR db b) (ta : Trm a) (tb : Trm b) (na : a.length ≤ 90) (hne : b ≠ []) (nb : b.length ≤ 90) (Hb : HL K K b) (sb : SzL K b) (hg : dvG K b (dvN a b) a) (sr : SzL K (remP a b)) (hK1 : 3 ≤ K) (hK : K ≤ 200000000) (hd0 : 0 < ds.length) (hds : ds.length ≤ 1000) :
    ∃ d', RwR d' (scP (remP a b) (-1)) ∧ X G QbY (Qq3 da db ds) = some (.n, Qq3 db d' (ds ++ [db])) := by
  obtain ⟨d1, d2, h1, h2, g1⟩ := QkI ha hb ta tb na Hb sb (by omega) hK hK hK hg
  have o1 := QaL i64_m1 (d := 1) ⟨by omega, by omega⟩
  rw [Qck, show (((-1 : Int)) : Rat) = -1 from rfl] at o1
  obtain ⟨d', h3, g2⟩ := Qiy (a := -1) h2 sr (Nat.le_trans sz_m1 hK1) (by omega) (by omega) (by have := Qlv a b; omega)
  refine ⟨d', h3, ?_⟩
  have lb := hb.len
  have e1 : decide ((b.length : Int) > 0) = true := decide_eq_true (by have := List.length_pos_iff.2 hne; omega)
  have k1 := hb.one
  have k2 := hb.dcl
  have k3 := hb.dc
  have n4 : ((ds.length + 1) * 24 ≤ bound) = True := eq_true (by unfold bound; omega)
  have n5 : (ds ++ [db]).length = ds.length + 1 := by simp
  have n6 : (ds.map A.d) ++ [A.d db] = (ds ++ [db]).map A.d := by simp
  have r1 : rep 1 [db] = [db] := rfl
  generalize (-1 : Rat) = m1 at *
  clear h1 h2 h3 hg sr Hb sb ta tb ha hb
  simp only [encR, iv] at o1 g1 g2
  simp -implicitDefEqProofs (maxSteps:=9^8) only [QbY, Qq3, lb, e1, k1, k2, k3, n4, n5, n6, r1, o1, g1, g2, QoX, List.length_map, Nat.mul_one, srcS, src, allD, Qdb, QbF, List.all_cons, List.all_nil, Bool.and_self, Qaa, go_sem, iv, bv, reduceCtorEq, ↓reduceIte, Nat.reduceEqDiff]
theorem h7_stop {da db : D} {ds : List D} (hb : RwR db []) : X G QbY (Qq3 da db ds) = some (.x 0, h7_en ds) := by
 have lb := hb.len
 simp only [List.length_nil] at lb
 have e1 : decide ((0 : Int) > 0) = false := rfl
 simp -implicitDefEqProofs (maxSteps:=9^8) only [QbY, Qq3, h7_en, lb, e1, QoX, Qaa, go_sem, iv, bv, reduceCtorEq, ↓reduceIte, Nat.reduceEqDiff]
theorem h7_loop (hK1 : 3 ≤ K) (hK : K ≤ 200000000) : ∀ (n : Nat) (a b : List Rat) (da db : D) (ds : List D), RwR da a → RwR db b → Trm a → a.length ≤ 90 → ChOk K n a b → 0 < ds.length → ds.length + n ≤ 1000 →
    ∃ es, Dls es (chL n a b) ∧ X G (.loop QbY) (Qq3 da db ds) = some (.x 0, h7_en (ds ++ es))
  | 0, a, b, da, db, ds, ha, hb, ta, na, hc, h0, hl => by
    have hc : b = [] := hc
    subst hc
    exact ⟨[], Dls.nil, by rw [Qag, h7_stop hb, List.append_nil]; rfl⟩
  | n + 1, a, b, da, db, ds, ha, hb, ta, na, hc, h0, hl => by
    by_cases hb0 : b = []
    · subst hb0
      rw [chL, if_pos rfl]
      exact ⟨[], Dls.nil, by rw [Qag, h7_stop hb, List.append_nil]; rfl⟩
    · rcases hc with hc | ⟨c1, c2, c3, c4, c5, c6, c7⟩
      · exact absurd hc hb0
      · obtain ⟨d', h', hx⟩ := h7_go ha hb ta c1 na hb0 c2 c3 c4 c5 c6 hK1 hK h0 (ds := ds) (by omega)
        obtain ⟨es, he, hl2⟩ := h7_loop hK1 hK n b _ db d' (ds ++ [db]) hb h' c1 c2 c7 (by simp) (by rw [List.length_append, List.length_singleton]; omega)
        refine ⟨db :: es, ?_, ?_⟩
        · rw [chL, if_neg hb0]
          exact Dls.cons hb he
        · rw [Qag, hx, Option.bind_some, if_pos rfl, hl2, List.append_assoc]; rfl
theorem Qrh         {dp : D} {p : List Rat} (hp : RwR dp p) (hp0 : p ≠ []) (np : p.length ≤ 90) (hF : ∃ d', RwR d' (frP p) ∧ Qah   G QdH                [dp] = some (.d d')) (tf : Trm (frP p)) (nf : (frP p).length ≤ 90) (sf : SzL K (frP p)) (hc : ChOk K p.length (frP p) (deP (frP p))) (hK1 : 3 ≤ K) (hK : K ≤ 200000000) :
    ∃ ds, Dls ds (chP p) ∧ Qah G QcF [dp] = some (.own 1 ds.length ds) := by
  rw [Qac (cf := Qfg) rfl]
  obtain ⟨da, ha, g1⟩ := hF
  obtain ⟨db, hb, g2⟩ := Qgo ha sf (by omega) (by omega) (by omega)
  obtain ⟨es, he, g3⟩ := h7_loop hK1 hK p.length (frP p) (deP (frP p)) da db [da] ha hb tf nf hc (by simp) (by simp; omega)
  refine ⟨da :: es, ?_, ?_⟩
  · unfold chP
    rw [if_neg hp0]
    exact Dls.cons ha he
  · have lp := hp.len
    have e1 : ((p.length : Int) == 0) = false := Qds (by have := List.length_pos_iff.2 hp0; omega)
    have k1 := ha.one
    have k2 := ha.dcl
    have k3 := ha.dc
    have n5 : ([da] ++ es).length = es.length + 1 := by simp
    have n6 : ([da] ++ es) = da :: es := rfl
    have r1 : rep 1 [da] = [da] := rfl
    have n7 : allD (es.map A.d) = some es := Qg1 _
    have n8 : (24 ≤ bound) = True := eq_true (by unfold bound; omega)
    have n9 : (1 * 24 ≤ bound) = True := eq_true (by unfold bound; omega)
    rw [n6] at g3
    simp only [Qq3, h7_en, List.length_singleton, List.length_cons, List.map_cons, List.map_nil, go_sem] at g3
    clear he hc tf nf sf ha hb hp
    simp -implicitDefEqProofs (maxSteps:=9^8) only [Qfg, lp, e1, g1, g2, g3, k1, k2, k3, r1, n7, n8, n9, QoX, Qgg, List.length_map, List.length_cons, List.map_cons, List.map_nil, Nat.mul_one, srcS, src, allD, Qdb, QbF, List.all_cons, List.all_nil, Bool.and_self, Qaa, go_sem, iv, bv, reduceCtorEq, ↓reduceIte, Nat.reduceEqDiff]
end
end Go.AM

/- Divisors of polynomials: the common divisor is a combination, the part without squares. -/
namespace Go.AM
open Go Go.RowKit

def Dv (q p : List Rat) : Prop := ∃ s : List Rat, ∀ x, evR p x = evR s x * evR q x
theorem evR_c (c x : Rat) : evR [c] x = c := by
 show (0 : Rat) * x + c = c
 rw [Rat.zero_mul, Rat.zero_add]
theorem Dv.refl (p : List Rat) : Dv p p := ⟨[1], fun x => by rw [evR_c, Rat.one_mul]⟩
theorem Dv.nil (p : List Rat) : Dv p [] := ⟨[], fun x => by rw [QcM, Rat.zero_mul]⟩
theorem Dv.one (p : List Rat) : Dv [1] p := ⟨p, fun x => by rw [evR_c, Rat.mul_one]⟩
theorem Dv.trans {a b c : List Rat} (h : Dv a b) (k : Dv b c) : Dv a c := by
 obtain ⟨s, hs⟩ := h
 obtain ⟨t, ht⟩ := k
 exact ⟨muP t s, fun x => by rw [QtZ, ht, hs, Rat.mul_assoc]⟩
/-! ### The common divisor -/
theorem trm_gcP : ∀ (n : Nat) (a b : List Rat), Trm a → Trm b → Trm (gcP n a b)
 | 0, _, _, ha, _ => ha
 | n + 1, a, b, ha, hb => by
  rw [gcP]
  split
  ·exact ha
  ·exact trm_gcP n b _ hb (Qjn _)
section
variable {p q : List Rat}
theorem trm_gcd : Trm (gcdP p q) := trm_gcP _ _ _ (Qjn _) (Qjn _)
end

/-! ### The part without squares -/
section
variable {p : List Rat}
theorem trm_fr (p : List Rat) : Trm (frP p) := Qjn _
theorem half2 : (1 / 2 : Rat) * 2 = 1 := by decide +kernel
end
end Go.AM

/- Chains of polynomials of at most the second degree; plain. -/
namespace Go.AM
open Go Go.RowKit
theorem trm1 {a : Rat} (h : a ≠ 0) : Trm [a] := fun n hn => by
 obtain rfl : n = 0 := by simp at hn; omega
 exact h
theorem trm2 {a b : Rat} (h : b ≠ 0) : Trm [a, b] := fun n hn => by
 obtain rfl : n = 1 := by simp at hn; omega
 exact h
theorem trm3 {a b c : Rat} (h : c ≠ 0) : Trm [a, b, c] := fun n hn => by
 obtain rfl : n = 2 := by simp at hn; omega
 exact h
theorem ev_1 (a x : Rat) : evR [a] x = a := by simp only [evR, List.foldr]; grind
theorem ev_2 (a b x : Rat) : evR [a, b] x = a + b * x := by simp only [evR, List.foldr]; grind
theorem ev_3 (a b c x : Rat) : evR [a, b, c] x = a + b * x + c * (x * x) := by simp only [evR, List.foldr]; grind
theorem Qnp {p q a r : List Rat} (tq : Trm q) (hq : q ≠ []) (ta : Trm a) (tr : Trm r) (hr : r.length ≤ q.length - 1) (h : ∀ x, evR p x = evR a x * evR q x + evR r x) : quoP p q = a ∧ remP p q = r := by
 obtain ⟨h1, h2, h3, h4⟩ := quo_rem (p := p) tq hq
 exact div_uniq tq hq h3 ta h4 tr h2 hr fun x => by rw [← h1, h]
theorem Qq8 {p : List Rat} (tp : Trm p) : quoP p [1] = p ∧ remP p [1] = [] := Qnp (trm1 (by decide)) (by simp) tp Qh5 (by simp) fun x => by rw [ev_1, QcM]; grind
theorem QiD {p : List Rat} (tp : Trm p) {u : Rat} (hu : u ≠ 0) : remP p [u] = [] := by
 have e : ∀ x, evR (scP p u⁻¹) x * evR [u] x = evR p x := fun x => by
  rw [ev_sc, ev_1, Rat.mul_assoc, Rat.inv_mul_cancel _ hu, Rat.mul_one]
 exact (Qnp (a := scP p u⁻¹) (trm1 hu) (by simp) (trm_sc _ _) Qh5 (by simp) fun x => by rw [e, QcM, Rat.add_zero]).2
theorem Qne (a : Rat) : scP [] a = [] := rfl
theorem Qr5 : mnP [] = [] := if_pos rfl
theorem mn_1 {a : Rat} (h : a ≠ 0) : mnP [a] = [1] := by
 refine QiX (Qjn _) (trm1 (by decide)) fun k => ?_
 rw [Qod (by simp)]
 match k with
 | 0 => simp only [List.getD_cons_zero, List.length_singleton, Nat.sub_self]; rw [Rat.div_def, Rat.one_mul, Rat.mul_inv_cancel _ h]
 | k + 1 => simp
theorem mn_2 {a b : Rat} (h : b ≠ 0) : mnP [a, b] = [a / b, 1] := by
 refine QiX (Qjn _) (trm2 (by decide)) fun k => ?_
 rw [Qod (by simp)]
 have e : [a, b].getD ([a, b].length - 1) 0 = b := rfl
 rw [e]
 match k with
 | 0 => simp only [List.getD_cons_zero]; rw [Rat.div_def, Rat.div_def, Rat.one_mul]
 | 1 => simp only [List.getD_cons_zero, List.getD_cons_succ]; rw [Rat.div_def, Rat.one_mul, Rat.mul_inv_cancel _ h]
 | k + 2 => simp
theorem mn_3 {a b c : Rat} (h : c ≠ 0) : mnP [a, b, c] = [a / c, b / c, 1] := by
 refine QiX (Qjn _) (trm3 (by decide)) fun k => ?_
 rw [Qod (by simp)]
 have e : [a, b, c].getD ([a, b, c].length - 1) 0 = c := rfl
 rw [e]
 match k with
 | 0 => simp only [List.getD_cons_zero]; rw [Rat.div_def, Rat.div_def, Rat.one_mul]
 | 1 => simp only [List.getD_cons_zero, List.getD_cons_succ]; rw [Rat.div_def, Rat.div_def, Rat.one_mul]
 | 2 => simp only [List.getD_cons_zero, List.getD_cons_succ]; rw [Rat.div_def, Rat.one_mul, Rat.mul_inv_cancel _ h]
 | k + 3 => simp
theorem de_1 (a : Rat) : deP [a] = [] := rfl
theorem Qo3 : (2 : Rat) ≠ 0 := by decide
theorem half_ne : (1 / 2 : Rat) ≠ 0 := by decide +kernel
theorem de_2 {a b : Rat} (h : b ≠ 0) : deP [a, b] = [b] := by
 refine QiX (QpL _) (trm1 h) fun k => ?_
 rw [Qpf]
 match k with
 | 0 =>
  simp only [List.getD_cons_zero, List.getD_cons_succ]
  rw [show (((0 + 1 : Nat) : Int) : Rat) = 1 from rfl, Rat.mul_one]
 | k + 1 => simp
theorem de_3 {a b c : Rat} (h : c ≠ 0) : deP [a, b, c] = [b, c * 2] := by
 refine QiX (QpL _) (trm2 (fun e => (Rat.mul_eq_zero.1 e).elim h Qo3)) fun k => ?_
 rw [Qpf]
 match k with
 | 0 =>
  simp only [List.getD_cons_zero, List.getD_cons_succ]
  rw [show (((0 + 1 : Nat) : Int) : Rat) = 1 from rfl, Rat.mul_one]
 | 1 => rfl
 | k + 2 => simp
/-! Constants and lines -/
theorem Qq9 (n : Nat) (a : List Rat) : gcP (n + 1) a [] = a := by rw [gcP, if_pos rfl]
theorem Qr0 (n : Nat) (a : List Rat) {b : List Rat} (h : b ≠ []) : gcP (n + 1) a b = gcP n b (mnP (remP a b)) := by rw [gcP, if_neg h]
theorem gcd_1 {u : Rat} (h : u ≠ 0) : gcdP [u] (deP [u]) = [1] := by
 unfold gcdP
 rw [de_1, mn_1 h, Qr5]; rfl
theorem fr_1 {u : Rat} (h : u ≠ 0) : frP [u] = [1] := by
 unfold frP
 rw [gcd_1 h, (Qq8 (trm1 h)).1, mn_1 h]
theorem ch_1 {u : Rat} (h : u ≠ 0) : chP [u] = [[1]] := by
 unfold chP
 rw [if_neg (by simp), fr_1 h, de_1]; rfl
theorem gcd_2 {u v : Rat} (h : v ≠ 0) : gcdP [u, v] (deP [u, v]) = [1] := by
 unfold gcdP
 rw [de_2 h, mn_2 h, mn_1 h]
 show gcP 2 [u / v, 1] [1] = [1]
 rw [Qr0 _ _ (by simp), QiD (trm2 (by decide)) (by decide), Qr5, Qq9]
theorem fr_2 {u v : Rat} (h : v ≠ 0) : frP [u, v] = [u / v, 1] := by
 unfold frP
 rw [gcd_2 h, (Qq8 (trm2 h)).1, mn_2 h]
theorem ch_2 {u v : Rat} (h : v ≠ 0) : chP [u, v] = [[u / v, 1], [1]] := by
 unfold chP
 rw [if_neg (by simp), fr_2 h, de_2 (by decide)]
 show [u / v, 1] :: chL 2 [u / v, 1] [1] = _
 rw [chL, if_neg (by simp), QiD (trm2 (by decide)) (by decide), Qne, chL, if_pos rfl]
/-! Squares -/
theorem sq_nn7 (x : Rat) : 0 ≤ x * x := by
 rcases Rat.le_total (a := 0) (b := x) with h | h
 ·exact Rat.mul_nonneg h h
 ·have := Rat.mul_nonneg (a := -x) (b := -x) (by grind) (by grind)
  grind
def qz (b c : Rat) : Rat := -b / (c * 2)
def qw (a b c : Rat) : Rat := a / c - qz b c * qz b c
theorem c2_ne {c : Rat} (hc : c ≠ 0) : c * 2 ≠ 0 := fun e => (Rat.mul_eq_zero.1 e).elim hc Qo3
theorem qz_b {b c : Rat} (hc : c ≠ 0) : b / c = -(2 * qz b c) := by
 have h1 : qz b c * (c * 2) = -b := by unfold qz; exact Rat.div_mul_cancel (c2_ne hc)
 have h2 : b / c * c = b := Rat.div_mul_cancel hc
 have h3 : (b / c + 2 * qz b c) * c = 0 := by grind
 rcases Rat.mul_eq_zero.1 h3 with h3 | h3
 ·grind
 ·exact absurd h3 hc
theorem qz_d {b c : Rat} : b / (c * 2) = -(qz b c) := by unfold qz; rw [Rat.div_def, Rat.div_def]; grind
theorem Qn9 {a b c : Rat} (hc : c ≠ 0) (x : Rat) : evR [a / c, b / c, 1] x = (x - qz b c) * (x - qz b c) + qw a b c := by
 rw [ev_3, qz_b (b := b) hc]
 unfold qw
 grind
theorem m2_rem {a b c : Rat} (hc : c ≠ 0) (hw : qw a b c ≠ 0) : remP [a / c, b / c, 1] [-(qz b c), 1] = [qw a b c] :=
 (Qnp (a := [-(qz b c), 1]) (trm2 (by decide)) (by simp) (trm2 (by decide)) (trm1 hw) (by simp) fun x => by rw [Qn9 hc, ev_2, ev_1]; grind).2
theorem m2_rem0 {a b c : Rat} (hc : c ≠ 0) (hw : qw a b c = 0) : remP [a / c, b / c, 1] [-(qz b c), 1] = [] :=
 (Qnp (a := [-(qz b c), 1]) (trm2 (by decide)) (by simp) (trm2 (by decide)) Qh5 (by simp) fun x => by rw [Qn9 hc, ev_2, QcM, hw]; grind).2
theorem gcd_3 {a b c : Rat} (hc : c ≠ 0) (hw : qw a b c ≠ 0) : gcdP [a, b, c] (deP [a, b, c]) = [1] := by
 unfold gcdP
 rw [de_3 hc, mn_3 hc, mn_2 (c2_ne hc), qz_d]
 show gcP 3 _ _ = _
 rw [Qr0 _ _ (by simp), m2_rem hc hw, mn_1 hw, Qr0 _ _ (by simp), QiD (trm2 (by decide)) (by decide), Qr5, Qq9]
theorem gcd_30 {a b c : Rat} (hc : c ≠ 0) (hw : qw a b c = 0) : gcdP [a, b, c] (deP [a, b, c]) = [-(qz b c), 1] := by
 unfold gcdP
 rw [de_3 hc, mn_3 hc, mn_2 (c2_ne hc), qz_d]
 show gcP 3 _ _ = _
 rw [Qr0 _ _ (by simp), m2_rem0 hc hw, Qr5, Qq9]
theorem fr_3 {a b c : Rat} (hc : c ≠ 0) (hw : qw a b c ≠ 0) : frP [a, b, c] = [a / c, b / c, 1] := by
 unfold frP
 rw [gcd_3 hc hw, (Qq8 (trm3 hc)).1, mn_3 hc]
theorem fr_30 {a b c : Rat} (hc : c ≠ 0) (hw : qw a b c = 0) : frP [a, b, c] = [-(qz b c), 1] := by
 unfold frP
 rw [gcd_30 hc hw]
 have : quoP [a, b, c] [-(qz b c), 1] = [-(qz b c) * c, c] := by
  refine (Qnp (r := []) (trm2 (by decide)) (by simp) (trm2 hc) Qh5 (by simp) fun x => ?_).1
  have h := Qn9 (a := a) (b := b) hc x
  rw [hw, ev_3] at h
  have h1 : a / c * c = a := Rat.div_mul_cancel hc
  have h2 : b / c * c = b := Rat.div_mul_cancel hc
  rw [ev_3, ev_2, ev_2, QcM]
  have : a + b * x + c * (x * x) = (a / c + b / c * x + 1 * (x * x)) * c := by grind
  rw [this, h]
  grind
 rw [this, mn_2 hc]
 congr 1
 have : -(qz b c) * c / c = -(qz b c) := by rw [Rat.div_def, Rat.mul_assoc, Rat.mul_inv_cancel _ hc, Rat.mul_one]
 exact this
theorem de_m2 {a b c : Rat} (hc : c ≠ 0) : deP [a / c, b / c, 1] = [-(2 * qz b c), 2] := by
 rw [de_3 (by decide), qz_b (b := b) hc, Rat.one_mul]
theorem m2_rem2 {a b c : Rat} (hc : c ≠ 0) (hw : qw a b c ≠ 0) : remP [a / c, b / c, 1] [-(2 * qz b c), 2] = [qw a b c] :=
 (Qnp (a := [-(qz b c) * (1 / 2), 1 / 2]) (trm2 (by decide)) (by simp) (trm2 half_ne) (trm1 hw) (by simp) fun x => by
  rw [Qn9 hc, ev_2, ev_2, ev_1]
  have h : (1 / 2 : Rat) * 2 = 1 := half2
  generalize (1 / 2 : Rat) = t at *
  grind).2
theorem sc_m1 {u : Rat} (h : u ≠ 0) : scP [u] (-1) = [-u] := by
 refine QiX (trm_sc _ _) (trm1 (fun e => h (by grind))) fun k => ?_
 rw [sc_getD]
 match k with
 | 0 => simp only [List.getD_cons_zero]; grind
 | k + 1 => simp
theorem ch_3 {a b c : Rat} (hc : c ≠ 0) (hw : qw a b c ≠ 0) : chP [a, b, c] = [[a / c, b / c, 1], [-(2 * qz b c), 2], [-(qw a b c)]] := by
 unfold chP
 have hm : -(qw a b c) ≠ 0 := fun e => hw (by grind)
 rw [if_neg (by simp), fr_3 hc hw, de_m2 hc]
 show [a / c, b / c, 1] :: chL 3 _ _ = _
 rw [chL, if_neg (by simp), m2_rem2 hc hw, sc_m1 hw, chL, if_neg (by simp), QiD (trm2 (by decide)) hm, Qne, chL, if_pos rfl]
theorem ch_30 {a b c : Rat} (hc : c ≠ 0) (hw : qw a b c = 0) : chP [a, b, c] = [[-(qz b c), 1], [1]] := by
 unfold chP
 rw [if_neg (by simp), fr_30 hc hw, de_2 (by decide)]
 show [-(qz b c), 1] :: chL 3 _ _ = _
 rw [chL, if_neg (by simp), QiD (trm2 (by decide)) (by decide), Qne, chL, if_pos rfl]
/-! Changes -/
def chS (s : List Int) : Nat := chN (s.filter fun s => decide (s ≠ 0)) (s.filter fun s => decide (s ≠ 0)).length
theorem chg_S (ps : List (List Rat)) (x : Rat) : chg ps x = chS (ps.map fun p => sgn1 p x) := rfl
theorem QmL {p : List Rat} {x : Rat} (h : 0 < evR p x) : sgn1 p x = 1 := by
 have h1 := Qkx (x := evR p x)
 rw [decide_eq_true h, decide_eq_true_iff] at h1
 unfold sgn1
 rcases Int.lt_trichotomy (evR p x).num 0 with k | k | k
 ·rw [Int.sign_eq_neg_one_of_neg k] at h1; omega
 ·rw [k] at h1; exact absurd h1 (by decide)
 ·exact Int.sign_eq_one_of_pos k
theorem Qqi {p : List Rat} {x : Rat} (h : evR p x < 0) : sgn1 p x = -1 := by
 have h1 := QfE (x := evR p x)
 rw [decide_eq_true h, decide_eq_true_iff] at h1
 unfold sgn1
 rcases Int.lt_trichotomy (evR p x).num 0 with k | k | k
 ·exact Int.sign_eq_neg_one_of_neg k
 ·rw [k] at h1; exact absurd h1 (by decide)
 ·rw [Int.sign_eq_one_of_pos k] at h1; omega
theorem QqJ {p : List Rat} {x : Rat} (h : evR p x = 0) : sgn1 p x = 0 := by unfold sgn1; rw [h]; rfl
theorem chg_con (x : Rat) : chg [[1]] x = 0 := by
 rw [chg_S]
 simp only [List.map_cons, List.map_nil]
 rw [QmL (by rw [ev_1]; decide)]
 rfl
theorem cnt_con (lo hi : Rat) : cnt [[1]] lo hi = 0 := by
 unfold cnt
 rw [chg_con, chg_con]
 split <;> rfl
theorem chg_lin (z x : Rat) : chg [[-z, 1], [1]] x = if x < z then 1 else 0 := by
 rw [chg_S]
 simp only [List.map_cons, List.map_nil]
 rw [QmL (p := [1]) (by rw [ev_1]; decide)]
 by_cases h : x < z
 ·rw [Qqi (by rw [ev_2]; grind), if_pos h]; rfl
 ·rw [if_neg h]
  by_cases h2 : x = z
  ·rw [QqJ (by rw [ev_2]; grind)]; rfl
  ·rw [QmL (by rw [ev_2]; grind)]; rfl
theorem cnt_lin (z : Rat) {lo hi : Rat} (h : lo < hi) : cnt [[-z, 1], [1]] lo hi = if lo < z ∧ z ≤ hi then 1 else 0 := by
 unfold cnt
 rw [if_neg (Rat.not_le.2 h), chg_lin, chg_lin]
 by_cases h1 : lo < z
 ·by_cases h2 : z ≤ hi
  ·rw [if_pos h1, if_neg (Rat.not_lt.2 h2), if_pos ⟨h1, h2⟩]; rfl
  ·rw [if_pos h1, if_pos (Rat.not_le.1 h2), if_neg (fun h => h2 h.2)]; rfl
 ·have h3 : ¬ hi < z := fun h2 => h1 (by grind)
  rw [if_neg h1, if_neg h3, if_neg (fun h => h1 h.1)]; rfl
theorem cnt_sq {a b c : Rat} (hc : c ≠ 0) {lo hi : Rat} (h1 : lo < qz b c) (h2 : qz b c ≤ hi) :
    (0 < qw a b c → cnt [[a / c, b / c, 1], [-(2 * qz b c), 2], [-(qw a b c)]] lo hi = 0) ∧
    (qw a b c < 0 → (0 < cnt [[a / c, b / c, 1], [-(2 * qz b c), 2], [-(qw a b c)]] lo hi ∧ (0 < evR [a / c, b / c, 1] lo ∨ 0 ≤ evR [a / c, b / c, 1] hi)) ∨
      (cnt [[a / c, b / c, 1], [-(2 * qz b c), 2], [-(qw a b c)]] lo hi = 0 ∧ evR [a / c, b / c, 1] hi < 0)) := by
  have hlt : lo < hi := by grind
  have e1 : ∀ x, evR [-(2 * qz b c), 2] x = 2 * (x - qz b c) := fun x => by rw [ev_2]; grind
  have l2 : sgn1 [-(2 * qz b c), 2] lo = -1 := Qqi (by rw [e1]; grind)
  unfold cnt
  rw [if_neg (Rat.not_le.2 hlt), chg_S, chg_S]
  simp only [List.map_cons, List.map_nil]
  rw [l2]
  constructor
  · intro hw
    have p1 : ∀ x, sgn1 [a / c, b / c, 1] x = 1 := fun x => QmL (by rw [Qn9 hc]; have := sq_nn7 (x - qz b c); grind)
    have p3 : ∀ x, sgn1 [-(qw a b c)] x = -1 := fun x => Qqi (by rw [ev_1]; grind)
    rw [p1, p1, p3, p3]
    by_cases h3 : qz b c = hi
    · rw [QqJ (p := [-(2 * qz b c), 2]) (by rw [e1]; grind)]; rfl
    · rw [QmL (p := [-(2 * qz b c), 2]) (by rw [e1]; grind)]; rfl
  · intro hw
    have p3 : ∀ x, sgn1 [-(qw a b c)] x = 1 := fun x => QmL (by rw [ev_1]; grind)
    rw [p3, p3]
    by_cases h3 : qz b c = hi
    · have hv : evR [a / c, b / c, 1] hi < 0 := by rw [Qn9 hc, ← h3]; grind
      rw [QqJ (p := [-(2 * qz b c), 2]) (by rw [e1]; grind), Qqi hv]
      by_cases k : 0 < evR [a / c, b / c, 1] lo
      · rw [QmL k]; exact .inl ⟨by decide, .inl k⟩
      · by_cases k2 : evR [a / c, b / c, 1] lo = 0
        · rw [QqJ k2]; exact .inr ⟨by decide, hv⟩
        · rw [Qqi (by grind)]; exact .inr ⟨by decide, hv⟩
    · rw [QmL (p := [-(2 * qz b c), 2]) (by rw [e1]; grind)]
      by_cases k3 : evR [a / c, b / c, 1] hi < 0
      · rw [Qqi k3]
        by_cases k : 0 < evR [a / c, b / c, 1] lo
        · rw [QmL k]; exact .inl ⟨by decide, .inl k⟩
        · by_cases k2 : evR [a / c, b / c, 1] lo = 0
          · rw [QqJ k2]; exact .inr ⟨by decide, k3⟩
          · rw [Qqi (by grind)]; exact .inr ⟨by decide, k3⟩
      · left
        have k4 : 0 ≤ evR [a / c, b / c, 1] hi := Rat.not_lt.1 k3
        refine ⟨?_, .inr k4⟩
        have : sgn1 [a / c, b / c, 1] hi = 1 ∨ sgn1 [a / c, b / c, 1] hi = 0 := by
          by_cases k5 : evR [a / c, b / c, 1] hi = 0
          · exact .inr (QqJ k5)
          · exact .inl (QmL (by grind))
        have t : sgn1 [a / c, b / c, 1] lo = 1 ∨ sgn1 [a / c, b / c, 1] lo = 0 ∨ sgn1 [a / c, b / c, 1] lo = -1 := by
          by_cases k : 0 < evR [a / c, b / c, 1] lo
          · exact .inl (QmL k)
          · by_cases k2 : evR [a / c, b / c, 1] lo = 0
            · exact .inr (.inl (QqJ k2))
            · exact .inr (.inr (Qqi (by grind)))
        rcases this with e | e <;> rcases t with f | f | f <;> rw [e, f] <;> decide
end Go.AM

/- ref07.Free, Chain at polynomials of at most the second degree: sizes. Halving. -/
namespace Go.AM
open Go Go.RowKit
theorem Qs8 {K : Nat} : ∀ {l : List Rat}, SzL K l → HL (l.length * K) (l.length * K) l
 | [], _ => HL.nil _ _
 | a :: l, h => by
  obtain ⟨D, h1, h2, h3⟩ := Qs8 (l := l) fun q hq => h q (List.mem_cons_of_mem _ hq)
  obtain ⟨E, k1, k2, k3⟩ := Qpd (h a (List.mem_cons_self ..))
  have e : (a :: l).length * K = K + l.length * K := by rw [List.length_cons, Nat.succ_mul]; omega
  rw [e]
  refine ⟨E * D, Nat.mul_pos k1 h1, QdW k2 h2, fun q hq => ?_⟩
  rcases List.mem_cons.1 hq with rfl | hq
  ·exact (k3.lift D).le (QdW (Nat.le_refl _) h2)
  ·exact ((h3 q hq).lift' E).le (QdW k2 (Nat.le_refl _))
theorem hl3 {K : Nat} {l : List Rat} (h : SzL K l) (hl : l.length ≤ 3) : HL (3 * K) (3 * K) l :=
 (Qs8 h).mono (Nat.mul_le_mul_right _ hl) (Nat.mul_le_mul_right _ hl)
theorem hl21 {l : List Rat} (h : SzL 7000 l) (hl : l.length ≤ 3) : HL 21000 21000 l := by
 obtain ⟨K, hK⟩ : ∃ K, K = 7000 := ⟨_, rfl⟩
 rw [← hK] at h
 have := hl3 h hl
 exact this.mono (by omega) (by omega)
theorem dv_ok {a b : List Rat} (ha : SzL 7000 a) (hb : SzL 7000 b) (na : a.length ≤ 3) (nb : b.length ≤ 3) (tb : Trm b) : dvG 800000 b (dvN a b) a ∧ HL 800000 800000 (quoP a b) ∧ SzL 800000 (remP a b) := by
 have hm : dvN a b ≤ 4 := by unfold dvN; omega
 have h1 : dvN a b * 21000 ≤ 4 * 21000 := Nat.mul_le_mul_right _ hm
 have h2 : dvN a b * (21000 + 1) ≤ 4 * (21000 + 1) := Nat.mul_le_mul_right _ hm
 have Ha := hl21 ha na
 have Hb := hl21 hb nb
 obtain ⟨x, y, z⟩ := div_HL (K := 800000) Ha Hb tb (by omega)
 exact ⟨x, z.mono (by omega) (by omega), y.sz.mono (by omega)⟩
theorem gc_ok {p : List Rat} (hp : SzL 1000 p) (tp : Trm p) (np : p.length ≤ 3) : gcG 140000 ((deP p).length + 1) (mnP p) (mnP (deP p)) ∧ gcH 140000 ((deP p).length + 1) (mnP p) (mnP (deP p)) ∧ HL 140000 140000 (gcdP p (deP p)) := by
 have l1 := mn_lenE tp
 have l2 := mn_lenE (QpL p)
 have l3 := de_lenE tp
 have H := hl3 hp np
 have Hd := H.de (by have : BB = 1000000000 := rfl; omega)
 refine gc_pot (K := 140000) ((deP p).length + 1) 3001 (mnP p) (mnP (deP p)) ((mn_HL H tp).mono (by omega) (by omega)) ((mn_HL Hd (QpL p)).mono (by omega) (by omega)) (Qjn _) (by omega) ?_
 have h1 : dvN (mnP p) (mnP (deP p)) + 1 ≤ 5 := by unfold dvN; omega
 have h2 : 3 ^ (mnP (deP p)).length ≤ 3 ^ 2 := Nat.pow_le_pow_right (by omega) (by omega)
 exact Nat.le_trans (Nat.mul_le_mul (Nat.mul_le_mul_left _ h1) h2) (by decide)
theorem gc_len3 {p : List Rat} (np : p.length ≤ 3) : (gcdP p (deP p)).length ≤ 3 := by
 have go : ∀ (n : Nat) (a b : List Rat), a.length ≤ 3 → b.length ≤ 3 → (gcP n a b).length ≤ 3 := by
  intro n
  induction n with
  | zero => intro a b ha hb; exact ha
  | succ n ih =>
   intro a b ha hb
   rw [gcP]
   split
   ·exact ha
   ·exact ih b _ hb (Nat.le_trans (Qir _) (Nat.le_trans (Qlv a b) ha))
 exact go _ _ _ (Nat.le_trans (Qir p) np) (Nat.le_trans (Qir _) (Nat.le_trans (Qpj p) (by omega)))
theorem Qfm {K : Nat} {a : Rat} (h : sz a ≤ K) : SzL K [a] := fun q hq => by rw [List.mem_singleton.1 hq]; exact h
theorem QkQ {K : Nat} {a b : Rat} (h : sz a ≤ K) (h2 : sz b ≤ K) : SzL K [a, b] := fun q hq => by
 rcases List.mem_cons.1 hq with rfl | hq
 ·exact h
 ·exact Qfm h2 q hq
theorem sz_lst3 {K : Nat} {a b c : Rat} (h : sz a ≤ K) (h2 : sz b ≤ K) (h3 : sz c ≤ K) : SzL K [a, b, c] := fun q hq => by
 rcases List.mem_cons.1 hq with rfl | hq
 ·exact h
 ·exact QkQ h2 h3 q hq
theorem qz_sz {b c : Rat} {k : Nat} (hb : sz b ≤ k) (hc : sz c ≤ k) : sz (qz b c) ≤ 2 * k + 3 := by
 unfold qz
 have h1 := Qin (a := -b) (b := c * 2)
 have h2 := Qec (a := c) (b := 2)
 have h3 := Qno b
 have h4 := Qqc
 omega
theorem qw_sz {a b c : Rat} {k : Nat} (ha : sz a ≤ k) (hb : sz b ≤ k) (hc : sz c ≤ k) : sz (qw a b c) ≤ 6 * k + 7 := by
 unfold qw
 have h1 := Qin (a := a) (b := c)
 have h2 := Qec (a := qz b c) (b := qz b c)
 have h3 := qz_sz hb hc
 have h4 := sz_sub (a := a / c) (b := qz b c * qz b c)
 omega
theorem in2 {a b : Rat} {K : Nat} (h : SzL K [a, b]) : sz a ≤ K ∧ sz b ≤ K := ⟨h a (List.mem_cons_self ..), h b (by simp)⟩
theorem in3 {a b c : Rat} {K : Nat} (h : SzL K [a, b, c]) : sz a ≤ K ∧ sz b ≤ K ∧ sz c ≤ K := ⟨h a (List.mem_cons_self ..), h b (by simp), h c (by simp)⟩
theorem Qot (K n : Nat) (a : List Rat) : ChOk K n a [] := by cases n with
 | zero => exact rfl
 | succ n => exact .inl rfl
theorem Qoh {n : Nat} {a b : List Rat} (ha : SzL 7000 a) (hb : SzL 7000 b) (na : a.length ≤ 3) (nb : b.length ≤ 3) (tb : Trm b) (h : ChOk 800000 n b (scP (remP a b) (-1))) : ChOk 800000 (n + 1) a b := by
 obtain ⟨h1, _, h3⟩ := dv_ok ha hb na nb tb
 exact .inr ⟨tb, by omega, (hl21 hb nb).mono (by omega) (by omega), hb.mono (by omega), h1, h3, h⟩
theorem neg_ne {u : Rat} (h : u ≠ 0) : -u ≠ 0 := fun e => h (by grind)
theorem sz_n {u : Rat} {K : Nat} (h : sz u ≤ K) : sz (-u) ≤ K := by rw [Qno]; exact h
theorem Qtd {p : List Rat} (hp : SzL 1000 p) (tp : Trm p) (np : p.length ≤ 3) (hp0 : p ≠ []) : SzL 7000 (frP p) ∧ (frP p).length ≤ 3 ∧ ChOk 800000 p.length (frP p) (deP (frP p)) ∧ ∀ q ∈ chP p, SzL 7000 q ∧ q.length ≤ 1000 := by
 have z1 : sz 1 ≤ 7000 := by rw [Qgh]; omega
 match p, np, hp0, hp, tp with
 | [u], _, _, hp, tp =>
  have hu : u ≠ 0 := tp 0 rfl
  rw [fr_1 hu, ch_1 hu, de_1]
  refine ⟨Qfm z1, by simp, Qot _ _ _, fun q hq => ?_⟩
  rw [List.mem_singleton.1 hq]; exact ⟨Qfm z1, by simp⟩
 | [u, v], _, _, hp, tp =>
  have hv : v ≠ 0 := tp 1 rfl
  obtain ⟨k1, k2⟩ := in2 hp
  have k3 := Qin (a := u) (b := v)
  rw [fr_2 hv, ch_2 hv, de_2 (by decide)]
  have s1 : SzL 7000 [u / v, 1] := QkQ (by omega) z1
  refine ⟨s1, by simp, Qoh s1 (Qfm z1) (by simp) (by simp) (trm1 (by decide)) (by rw [QiD (trm2 (by decide)) (by decide), Qne]; exact Qot _ _ _), fun q hq => ?_⟩
  rcases List.mem_cons.1 hq with rfl | hq
  ·exact ⟨s1, by simp⟩
  ·rw [List.mem_singleton.1 hq]; exact ⟨Qfm z1, by simp⟩
 | [a, b, c], _, _, hp, tp =>
  have hc : c ≠ 0 := tp 2 rfl
  obtain ⟨k1, k2, k3⟩ := in3 hp
  have k4 := qz_sz k2 k3
  have k5 := qw_sz k1 k2 k3
  by_cases hw : qw a b c = 0
  ·rw [fr_30 hc hw, ch_30 hc hw, de_2 (by decide)]
   have s1 : SzL 7000 [-(qz b c), 1] := QkQ (sz_n (by omega)) z1
   refine ⟨s1, by simp, Qoh s1 (Qfm z1) (by simp) (by simp) (trm1 (by decide)) (by rw [QiD (trm2 (by decide)) (by decide), Qne]; exact Qot _ _ _), fun q hq => ?_⟩
   rcases List.mem_cons.1 hq with rfl | hq
   ·exact ⟨s1, by simp⟩
   ·rw [List.mem_singleton.1 hq]; exact ⟨Qfm z1, by simp⟩
  ·rw [fr_3 hc hw, ch_3 hc hw, de_m2 hc]
   have k6 := Qin (a := a) (b := c)
   have k7 := Qin (a := b) (b := c)
   have k8 := Qec (a := 2) (b := qz b c)
   have k9 := Qqc
   have s1 : SzL 7000 [a / c, b / c, 1] := sz_lst3 (by omega) (by omega) z1
   have s2 : SzL 7000 [-(2 * qz b c), 2] := QkQ (sz_n (by omega)) (by omega)
   have s3 : SzL 7000 [-(qw a b c)] := Qfm (sz_n (by omega))
   refine ⟨s1, by simp, Qoh s1 s2 (by simp) (by simp) (trm2 Qo3) (by
    rw [m2_rem2 hc hw, sc_m1 hw]
    exact Qoh s2 s3 (by simp) (by simp) (trm1 (neg_ne hw)) (by rw [QiD (trm2 Qo3) (neg_ne hw), Qne]; exact Qot _ _ _)), fun q hq => ?_⟩
   rcases List.mem_cons.1 hq with rfl | hq
   ·exact ⟨s1, by simp⟩
   ·rcases List.mem_cons.1 hq with rfl | hq
    ·exact ⟨s2, by simp⟩
    ·rw [List.mem_singleton.1 hq]; exact ⟨s3, by simp⟩
/-! Halving -/
def hf : Rat := Rat.divInt 1 2
theorem hf_two : hf * 2 = 1 := by decide +kernel
theorem hf_pos : (0 : Rat) < hf := by decide +kernel
theorem hf_pow (n : Nat) : hf ^ n * (((2 ^ n : Nat) : Int) : Rat) = 1 := by
 induction n with
 | zero => rw [Rat.pow_zero, Rat.one_mul]; rfl
 | succ n ih =>
  have e : (((2 ^ (n + 1) : Nat) : Int) : Rat) = (((2 ^ n : Nat) : Int) : Rat) * 2 := by
   rw [Nat.pow_succ]; push_cast; rfl
  have h2 := hf_two
  rw [Rat.pow_succ, e]
  generalize hf ^ n = x at *
  generalize (((2 ^ n : Nat) : Int) : Rat) = y at *
  have : x * hf * (y * 2) = (x * y) * (hf * 2) := by grind
  rw [this, ih, h2, Rat.mul_one]
theorem Qpg (n : Nat) : (0 : Rat) < hf ^ n := by
 induction n with
 | zero => rw [Rat.pow_zero]; decide
 | succ n ih => rw [Rat.pow_succ]; exact Rat.mul_pos ih hf_pos
noncomputable def itH (ps : List (List Rat)) : Nat → Rat × Rat
 | 0 => (0, 1)
 | n + 1 => hal ps (itH ps n)
theorem QpD {z : Rat} (h0 : 0 < z) (h1 : z ≤ 1) : ∀ n, ∃ j : Nat, j < 2 ^ n ∧ itH [[-z, 1], [1]] n = (((j : Int) : Rat) * hf ^ n, (((j + 1 : Nat) : Int) : Rat) * hf ^ n) ∧ ((j : Int) : Rat) * hf ^ n < z ∧ z ≤ (((j + 1 : Nat) : Int) : Rat) * hf ^ n
 | 0 => ⟨0, by simp, by rw [itH, Rat.pow_zero, Rat.mul_one, Rat.mul_one]; rfl, by rw [Rat.pow_zero]; simpa using h0, by rw [Rat.pow_zero]; simpa using h1⟩
 | n + 1 => by
  obtain ⟨j, hj, e, k1, k2⟩ := QpD h0 h1 n
  have hm : mid (((j : Int) : Rat) * hf ^ n) ((((j + 1 : Nat) : Int) : Rat) * hf ^ n) = (((2 * j + 1 : Nat) : Int) : Rat) * hf ^ (n + 1) := by
   unfold mid
   rw [show Rat.divInt 1 2 = hf from rfl, Rat.pow_succ]
   push_cast
   grind
  have e1 : ((j : Int) : Rat) * hf ^ n = (((2 * j : Nat) : Int) : Rat) * hf ^ (n + 1) := by
   rw [Rat.pow_succ]
   have h2 := hf_two
   push_cast
   generalize hf ^ n = x
   grind
  have e2 : (((j + 1 : Nat) : Int) : Rat) * hf ^ n = (((2 * j + 1 + 1 : Nat) : Int) : Rat) * hf ^ (n + 1) := by
   rw [Rat.pow_succ]
   have h2 := hf_two
   push_cast
   generalize hf ^ n = x
   grind
  have hp := Qpg (n + 1)
  have hlt : ((j : Int) : Rat) * hf ^ n < (((2 * j + 1 : Nat) : Int) : Rat) * hf ^ (n + 1) := by
   rw [e1]
   push_cast
   grind
  rw [itH, e]
  unfold hal
  dsimp only
  rw [hm, cnt_lin z hlt]
  by_cases hz : z ≤ (((2 * j + 1 : Nat) : Int) : Rat) * hf ^ (n + 1)
  ·rw [if_pos (if_pos ⟨k1, hz⟩)]
   refine ⟨2 * j, by rw [Nat.pow_succ]; omega, by rw [e1], by rw [← e1]; exact k1, hz⟩
  ·rw [if_neg (by rw [if_neg (fun h => hz h.2)]; decide)]
   refine ⟨2 * j + 1, by rw [Nat.pow_succ]; omega, by rw [e2], Rat.not_le.1 hz, by rw [← e2]; exact k2⟩
theorem two_B (n : Nat) : 2 ^ n ≤ BB ^ (n / 29 + 1) := by
 have h1 : n ≤ 29 * (n / 29 + 1) := by omega
 refine Nat.le_trans (Nat.pow_le_pow_right (by omega) h1) ?_
 rw [Nat.pow_mul]
 exact Nat.pow_le_pow_left (by decide) _
theorem dy_sz {n j : Nat} (h : j ≤ 2 ^ n) : sz (((j : Int) : Rat) * hf ^ n) ≤ n / 29 + 2 := by
 have h2 := two_B n
 have H : Hq (2 ^ n) (2 ^ n) (((j : Int) : Rat) * hf ^ n) := ⟨(j : Int), by
  unfold cN
  rw [Rat.mul_assoc, hf_pow, Rat.mul_one], by omega⟩
 have := Hq.sz (Nat.pow_pos (by omega)) h2 h2 H
 omega
theorem it_sz {z : Rat} (h0 : 0 < z) (h1 : z ≤ 1) (n : Nat) : sz (itH [[-z, 1], [1]] n).1 ≤ n / 29 + 2 ∧ sz (itH [[-z, 1], [1]] n).2 ≤ n / 29 + 2 := by
 obtain ⟨j, hj, e, _, _⟩ := QpD h0 h1 n
 rw [e]
 exact ⟨dy_sz (by omega), dy_sz (by omega)⟩
theorem it_mid {z : Rat} (h0 : 0 < z) (h1 : z ≤ 1) (n : Nat) : sz (mid (itH [[-z, 1], [1]] n).1 (itH [[-z, 1], [1]] n).2) ≤ n / 29 + 3 := by
 obtain ⟨j, hj, e, _, _⟩ := QpD h0 h1 n
 have hm : mid (((j : Int) : Rat) * hf ^ n) ((((j + 1 : Nat) : Int) : Rat) * hf ^ n) = (((2 * j + 1 : Nat) : Int) : Rat) * hf ^ (n + 1) := by
  unfold mid
  rw [show Rat.divInt 1 2 = hf from rfl, Rat.pow_succ]
  push_cast
  grind
 rw [e]
 dsimp only
 rw [hm]
 have := dy_sz (n := n + 1) (j := 2 * j + 1) (by rw [Nat.pow_succ]; omega)
 omega
theorem it_small {w : Rat} {S n : Nat} (hw : w < 0) (hs : sz w ≤ S) (hn : 15 * S + 1 ≤ n) : hf ^ n * hf ^ n < -w := by
 obtain ⟨D, h1, h2, m, h3, _⟩ := Qpd hs
 have hD : ((D : Int) : Rat) < (((2 ^ n : Nat) : Int) : Rat) * (((2 ^ n : Nat) : Int) : Rat) := by
  have h4 : BB ^ S < 2 ^ n * 2 ^ n := by
   have a1 : BB ^ S ≤ (4 ^ 15) ^ S := Nat.pow_le_pow_left (by decide) _
   have a2 : (4 ^ 15) ^ S < 4 ^ n := by
    rw [← Nat.pow_mul]
    exact Nat.pow_lt_pow_right (by omega) (by omega)
   have a3 : 2 ^ n * 2 ^ n = 4 ^ n := by rw [← Nat.mul_pow]
   omega
  have : D < 2 ^ n * 2 ^ n := by omega
  exact_mod_cast this
 have hm : m < 0 := by
  have hDp : (0 : Rat) < cN D := by unfold cN; exact_mod_cast h1
  have : w * cN D < 0 := by
   have := Rat.mul_pos (a := -w) (b := cN D) (by grind) hDp
   grind
  rw [h3] at this
  exact_mod_cast this
 have hm1 : (1 : Rat) ≤ -w * cN D := by
  have h5 : -w * cN D = -(m : Rat) := by rw [← h3]; grind
  rw [h5]
  have h6 : (1 : Int) ≤ -m := by omega
  have : ((1 : Int) : Rat) ≤ ((-m : Int) : Rat) := Rat.intCast_le_intCast.2 h6
  rw [Rat.intCast_neg] at this
  exact this
 refine Rat.not_le.1 fun hle => ?_
 have p := hf_pow n
 have hp := Qpg n
 unfold cN at hm1
 generalize ((D : Int) : Rat) = d at *
 generalize (((2 ^ n : Nat) : Int) : Rat) = T at *
 generalize hf ^ n = x at *
 have hd : 0 ≤ d := by
  refine Rat.not_lt.1 fun h => ?_
  have := Rat.mul_nonneg (a := -w) (b := -d) (by grind) (by grind)
  grind
 have k1 : 0 ≤ (x * x + w) * d := Rat.mul_nonneg (by grind) hd
 have k2 : 0 < x * x * (T * T - d) := Rat.mul_pos (Rat.mul_pos hp hp) (by grind)
 have k3 : x * x * (T * T) = (x * T) * (x * T) := by grind
 rw [p] at k3
 grind
end Go.AM

/- ref12.Shape and Sides. -/
namespace Go.AM
open Go Go.RowKit

theorem Qqk (a b : D) : rep 4 [a, b] = [a, b, a, b, a, b, a, b] := rfl
theorem rep3_2 (a b : D) : rep 3 [a, b] = [a, b, a, b, a, b] := rfl
theorem rep5_2 (a b : D) : rep 5 [a, b] = [a, b, a, b, a, b, a, b, a, b] := rfl
theorem spB_sm {c k m : Int} (hk : 1 ≤ k ∧ k < 4) (hm : 1 ≤ m ∧ m < 7) : ∀ p ∈ spB c k m, -9 ≤ p.1 ∧ p.1 ≤ 24 ∧ -9 ≤ p.2 ∧ p.2 ≤ 24 := by
 intro p hp
 unfold spB at hp
 split at hp
 ·simp only [List.mem_cons, List.not_mem_nil, or_false] at hp
  rcases hp with rfl | rfl | rfl | rfl <;> (dsimp only; omega)
 split at hp
 ·simp only [List.mem_cons, List.not_mem_nil, or_false] at hp
  rcases hp with rfl | rfl | rfl <;> (dsimp only; omega)
 split at hp
 ·simp only [List.mem_cons, List.not_mem_nil, or_false] at hp
  rcases hp with rfl | rfl | rfl | rfl <;> (dsimp only; omega)
 split at hp
 ·simp only [List.mem_cons, List.not_mem_nil, or_false] at hp
  rcases hp with rfl | rfl | rfl | rfl | rfl <;> (dsimp only; omega)
 ·simp only [List.mem_cons, List.not_mem_nil, or_false] at hp
  rcases hp with rfl | rfl | rfl <;> (dsimp only; omega)
theorem Qpa (c k m : Int) : 3 ≤ (spB c k m).length ∧ (spB c k m).length ≤ 5 := by
 unfold spB
 repeat' split
 all_goals simp
variable [Its]

set_option maxHeartbeats 2000000 in
theorem Qni {d : D} {l : List Int} (hr : Rw d l) (hl : ∀ n ∈ l, I64 n) : Qah G QeC [d] = some (.d (rowE cP (spP l))) := by
 rw [Qac (cf := Qbo) rfl]
 have g0 := QgA (i := 0) (m := 7) hr hl (by omega)
 have g1 := QgA (i := 1) (m := 3) hr hl (by omega)
 have g2 := QgA (i := 2) (m := 6) hr hl (by omega)
 have g3 := QgA (i := 3) (m := 5) hr hl (by omega)
 have g4 := QgA (i := 4) (m := 5) hr hl (by omega)
 obtain ⟨bc, bk, bm, bx, by_⟩ := sh_b l
 have sb := spB_sm (c := spC l) bk bm
 unfold spP
 unfold spC spK spM spX spY at *
 obtain ⟨k, hk⟩ : ∃ k, 1 + atr l 1 3 = k := ⟨_, rfl⟩
 obtain ⟨m, hm⟩ : ∃ k, 1 + atr l 2 6 = k := ⟨_, rfl⟩
 obtain ⟨x, hx⟩ : ∃ k, atr l 3 5 - 2 = k := ⟨_, rfl⟩
 obtain ⟨y, hy⟩ : ∃ k, atr l 4 5 - 2 = k := ⟨_, rfl⟩
 obtain ⟨c, hc⟩ : ∃ k, atr l 0 7 = k := ⟨_, rfl⟩
 rw [hc] at g0 bc sb
 have e1 : w64 (1 + atr l 1 3) = k := by rw [Qad (by omega) (by omega), hk]
 have e2 : w64 (1 + atr l 2 6) = m := by rw [Qad (by omega) (by omega), hm]
 have e3 : w64 (atr l 3 5 - 2) = x := by rw [Qad (by omega) (by omega), hx]
 have e4 : w64 (atr l 4 5 - 2) = y := by rw [Qad (by omega) (by omega), hy]
 rw [hk] at bk sb
 rw [hm] at bm sb
 rw [hx] at bx
 rw [hy] at by_
 rw [hc, hk, hm, hx, hy]
 clear hk hm hx hy hc
 have hsm : ∀ p ∈ spB c k m, SmP p := fun p hp => by
  have := sb p hp
  exact ⟨⟨by omega, by omega⟩, ⟨by omega, by omega⟩⟩
 have hlen := Qpa c k m
 have hmv := fun d (hd : RwE cP d (spB c k m)) => Move_spec (tx := x) (ty := y) hd hsm ⟨by omega, by omega⟩ ⟨by omega, by omega⟩ (by omega)
 have hne : (spB c k m).map (mvP x y) ≠ [] := fun h => by
  have := congrArg List.length h
  simp only [List.length_map, List.length_nil] at this
  omega
 obtain ⟨L, hL⟩ : ∃ L, (spB c k m).map (mvP x y) = L := ⟨_, rfl⟩
 rw [hL] at hne ⊢
 have f1 : w64 (2 * k) = 2 * k := Qad (by omega) (by omega)
 have f2 : w64 (4 * k) = 4 * k := Qad (by omega) (by omega)
 have f3 : w64 (3 * k) = 3 * k := Qad (by omega) (by omega)
 have f4 : w64 (8 * k) = 8 * k := Qad (by omega) (by omega)
 have f5 : w64 (6 * k) = 6 * k := Qad (by omega) (by omega)
 have f6 : w64 (-3 * k) = -3 * k := Qad (by omega) (by omega)
 have f7 : w64 (m + 3 * k) = m + 3 * k := Qad (by omega) (by omega)
 have cases : (c = 0 ∨ c = 1 ∨ c = 2) ∨ c = 3 ∨ c = 4 ∨ c = 5 ∨ c = 6 := by omega
 rcases cases with h | h | h | h | h
 ·have hs : spB c k m = [(0, 0), (2 * k, 0), (2 * k, m), (0, m)] := by unfold spB; rw [if_pos h]
  have gm := hmv (rowE cP [(0, 0), (2 * k, 0), (2 * k, m), (0, m)]) (.inr (by rw [hs]))
  rw [hL, QtN hne] at gm
  simp only [rowE, cP, iv, List.flatMap_cons, List.flatMap_nil, List.cons_append, List.nil_append, List.append_nil, List.length_cons, List.length_nil, Nat.reduceAdd, Nat.zero_add] at gm g0 g1 g2 g3 g4
  rcases h with rfl | rfl | rfl
  ·simp -implicitDefEqProofs (maxSteps:=9^8) only [Qbo, rowE, g0, g1, g2, g3, g4, gm, e1, e2, e3, e4, f1, f2, f3, f4, f5, f6, f7, beq_self_eq_true, Qqk, go_sem, iv, bv, reduceCtorEq, ↓reduceIte, Nat.reduceEqDiff]
  ·have q0 : ((1 : Int) == 0) = false := rfl
   simp -implicitDefEqProofs (maxSteps:=9^8) only [Qbo, rowE, g0, g1, g2, g3, g4, gm, e1, e2, e3, e4, f1, f2, f3, f4, f5, f6, f7, q0, beq_self_eq_true, Qqk, go_sem, iv, bv, reduceCtorEq, ↓reduceIte, Nat.reduceEqDiff]
  ·have q0 : ((2 : Int) == 0) = false := rfl
   have q1 : ((2 : Int) == 1) = false := rfl
   simp -implicitDefEqProofs (maxSteps:=9^8) only [Qbo, rowE, g0, g1, g2, g3, g4, gm, e1, e2, e3, e4, f1, f2, f3, f4, f5, f6, f7, q0, q1, beq_self_eq_true, Qqk, go_sem, iv, bv, reduceCtorEq, ↓reduceIte, Nat.reduceEqDiff]
 ·subst h
  have hs : spB 3 k m = [(0, 0), (4 * k, 0), (0, 3 * k)] := rfl
  have gm := hmv (rowE cP [(0, 0), (4 * k, 0), (0, 3 * k)]) (.inr (by rw [hs]))
  rw [hL, QtN hne] at gm
  simp only [rowE, cP, iv, List.flatMap_cons, List.flatMap_nil, List.cons_append, List.nil_append, List.append_nil, List.length_cons, List.length_nil, Nat.reduceAdd, Nat.zero_add] at gm g0 g1 g2 g3 g4
  have q0 : ((3 : Int) == 0) = false := rfl
  have q1 : ((3 : Int) == 1) = false := rfl
  have q2 : ((3 : Int) == 2) = false := rfl
  simp -implicitDefEqProofs (maxSteps:=9^8) only [Qbo, rowE, g0, g1, g2, g3, g4, gm, e1, e2, e3, e4, f1, f2, f3, f4, f5, f6, f7, q0, q1, q2, beq_self_eq_true, rep3_2, go_sem, iv, bv, reduceCtorEq, ↓reduceIte, Nat.reduceEqDiff]
 ·subst h
  have hs : spB 4 k m = [(0, 0), (4 * k, -3 * k), (8 * k, 0), (4 * k, 3 * k)] := rfl
  have gm := hmv (rowE cP [(0, 0), (4 * k, -3 * k), (8 * k, 0), (4 * k, 3 * k)]) (.inr (by rw [hs]))
  rw [hL, QtN hne] at gm
  simp only [rowE, cP, iv, List.flatMap_cons, List.flatMap_nil, List.cons_append, List.nil_append, List.append_nil, List.length_cons, List.length_nil, Nat.reduceAdd, Nat.zero_add] at gm g0 g1 g2 g3 g4
  have q0 : ((4 : Int) == 0) = false := rfl
  have q1 : ((4 : Int) == 1) = false := rfl
  have q2 : ((4 : Int) == 2) = false := rfl
  have q3 : ((4 : Int) == 3) = false := rfl
  simp -implicitDefEqProofs (maxSteps:=9^8) only [Qbo, rowE, g0, g1, g2, g3, g4, gm, e1, e2, e3, e4, f1, f2, f3, f4, f5, f6, f7, q0, q1, q2, q3, beq_self_eq_true, Qqk, go_sem, iv, bv, reduceCtorEq, ↓reduceIte, Nat.reduceEqDiff]
 ·subst h
  have hs : spB 5 k m = [(0, 0), (8 * k, 0), (8 * k, m), (4 * k, m + 3 * k), (0, m)] := rfl
  have gm := hmv (rowE cP [(0, 0), (8 * k, 0), (8 * k, m), (4 * k, m + 3 * k), (0, m)]) (.inr (by rw [hs]))
  rw [hL, QtN hne] at gm
  simp only [rowE, cP, iv, List.flatMap_cons, List.flatMap_nil, List.cons_append, List.nil_append, List.append_nil, List.length_cons, List.length_nil, Nat.reduceAdd, Nat.zero_add] at gm g0 g1 g2 g3 g4
  have q0 : ((5 : Int) == 0) = false := rfl
  have q1 : ((5 : Int) == 1) = false := rfl
  have q2 : ((5 : Int) == 2) = false := rfl
  have q3 : ((5 : Int) == 3) = false := rfl
  have q4 : ((5 : Int) == 4) = false := rfl
  simp -implicitDefEqProofs (maxSteps:=9^8) only [Qbo, rowE, g0, g1, g2, g3, g4, gm, e1, e2, e3, e4, f1, f2, f3, f4, f5, f6, f7, q0, q1, q2, q3, q4, beq_self_eq_true, rep5_2, go_sem, iv, bv, reduceCtorEq, ↓reduceIte, Nat.reduceEqDiff]
 ·subst h
  have hs : spB 6 k m = [(0, 0), (6 * k, 0), (3 * k, 4 * k)] := rfl
  have gm := hmv (rowE cP [(0, 0), (6 * k, 0), (3 * k, 4 * k)]) (.inr (by rw [hs]))
  rw [hL, QtN hne] at gm
  simp only [rowE, cP, iv, List.flatMap_cons, List.flatMap_nil, List.cons_append, List.nil_append, List.append_nil, List.length_cons, List.length_nil, Nat.reduceAdd, Nat.zero_add] at gm g0 g1 g2 g3 g4
  have q0 : ((6 : Int) == 0) = false := rfl
  have q1 : ((6 : Int) == 1) = false := rfl
  have q2 : ((6 : Int) == 2) = false := rfl
  have q3 : ((6 : Int) == 3) = false := rfl
  have q4 : ((6 : Int) == 4) = false := rfl
  have q5 : ((6 : Int) == 5) = false := rfl
  simp -implicitDefEqProofs (maxSteps:=9^8) only [Qbo, rowE, g0, g1, g2, g3, g4, gm, e1, e2, e3, e4, f1, f2, f3, f4, f5, f6, f7, q0, q1, q2, q3, q4, q5, beq_self_eq_true, rep3_2, go_sem, iv, bv, reduceCtorEq, ↓reduceIte, Nat.reduceEqDiff]
end Go.AM

/- ref12.Sides. -/
namespace Go.AM
open Go Go.RowKit

def sqF : Nat → Nat → Nat
 | 0, _ => 0
 | f + 1, n => if f * f = n then f else sqF f n
def sqI (n : Int) : Int := (sqF 60 n.toNat : Nat)
def sdx (l : List Pt) (i : Nat) : Int := (nxP l i).1 - (l.getD i default).1
def sdy (l : List Pt) (i : Nat) : Int := (nxP l i).2 - (l.getD i default).2
def sdh (l : List Pt) (i : Nat) : Int := sqI (sdx l i * sdx l i + sdy l i * sdy l i)
def sdN (l : List Pt) (i : Nat) : Dr := nrP (sdx l i) (sdy l i) (sdh l i)
def tnD (d : Dr) : Dr := (-d.1, -d.2.1, d.2.2)
def NmD (d : Dr) : Prop := (-100 ≤ d.1 ∧ d.1 ≤ 100) ∧ (-100 ≤ d.2.1 ∧ d.2.1 ≤ 100) ∧ (1 ≤ d.2.2 ∧ d.2.2 ≤ 100)
theorem NmD.sm {d : Dr} (h : NmD d) : SmD d := ⟨⟨by have := h.1; omega, by have := h.1; omega⟩, ⟨by have := h.2.1; omega, by have := h.2.1; omega⟩, ⟨by have := h.2.2; omega, by have := h.2.2; omega⟩⟩
theorem NmD.tn {d : Dr} (h : NmD d) : NmD (tnD d) := by
 obtain ⟨h1, h2, h3⟩ := h
 unfold NmD tnD
 dsimp only
 omega
structure GdS (l : List Pt) : Prop where
 pos : 0 < l.length
 le : l.length ≤ 10
 sm : ∀ p ∈ l, SmP p
 sq : ∀ i, i < l.length → sdh l i * sdh l i = sdx l i * sdx l i + sdy l i * sdy l i ∧ 0 < sdh l i
 nm : ∀ i, i < l.length → NmD (sdN l i)
def chkS (l : List Pt) : Bool := (List.range l.length).all fun i => decide (sdh l i * sdh l i = sdx l i * sdx l i + sdy l i * sdy l i) && decide (0 < sdh l i) &&
 decide (-100 ≤ (sdN l i).1) && decide ((sdN l i).1 ≤ 100) && decide (-100 ≤ (sdN l i).2.1) && decide ((sdN l i).2.1 ≤ 100) && decide (1 ≤ (sdN l i).2.2) && decide ((sdN l i).2.2 ≤ 100)
theorem chk_all : ((List.range 7).all fun c => (List.range 3).all fun k => (List.range 6).all fun m => chkS (spB (c : Int) (1 + (k : Int)) (1 + (m : Int)))) = true := by kernel_rfl
theorem Qf6 (tx ty : Int) {l : List Pt} {i : Nat} (h : i < l.length) : (l.map (mvP tx ty)).getD i default = mvP tx ty (l.getD i default) := by
 rw [List.getD_eq_getElem?_getD, List.getD_eq_getElem?_getD, List.getElem?_map, List.getElem?_eq_getElem h]; rfl
theorem mv_nx (tx ty : Int) {l : List Pt} {i : Nat} (h : i < l.length) : nxP (l.map (mvP tx ty)) i = mvP tx ty (nxP l i) := by
 unfold nxP
 rw [List.length_map]
 split
 ·rw [Qf6 _ _ (by omega)]
 ·rw [Qf6 _ _ (by omega)]
theorem mv_sdx (tx ty : Int) {l : List Pt} {i : Nat} (h : i < l.length) : sdx (l.map (mvP tx ty)) i = sdx l i := by
 unfold sdx
 rw [mv_nx _ _ h, Qf6 _ _ h]
 unfold mvP
 dsimp only
 omega
theorem mv_sdy (tx ty : Int) {l : List Pt} {i : Nat} (h : i < l.length) : sdy (l.map (mvP tx ty)) i = sdy l i := by
 unfold sdy
 rw [mv_nx _ _ h, Qf6 _ _ h]
 unfold mvP
 dsimp only
 omega
theorem mv_sdh (tx ty : Int) {l : List Pt} {i : Nat} (h : i < l.length) : sdh (l.map (mvP tx ty)) i = sdh l i := by unfold sdh; rw [mv_sdx _ _ h, mv_sdy _ _ h]
theorem Qnl (tx ty : Int) {l : List Pt} {i : Nat} (h : i < l.length) : sdN (l.map (mvP tx ty)) i = sdN l i := by unfold sdN; rw [mv_sdx _ _ h, mv_sdy _ _ h, mv_sdh _ _ h]
theorem spB_chk {c k m : Int} (hc : 0 ≤ c ∧ c < 7) (hk : 1 ≤ k ∧ k < 4) (hm : 1 ≤ m ∧ m < 7) : chkS (spB c k m) = true := by
 have h := chk_all
 rw [List.all_eq_true] at h
 have h1 := h c.toNat (List.mem_range.2 (by omega))
 rw [List.all_eq_true] at h1
 have h2 := h1 (k - 1).toNat (List.mem_range.2 (by omega))
 rw [List.all_eq_true] at h2
 have h3 := h2 (m - 1).toNat (List.mem_range.2 (by omega))
 rwa [show ((c.toNat : Nat) : Int) = c by omega, show 1 + (((k - 1).toNat : Nat) : Int) = k by omega, show 1 + (((m - 1).toNat : Nat) : Int) = m by omega] at h3
theorem gd_mv {c k m x y : Int} (hc : 0 ≤ c ∧ c < 7) (hk : 1 ≤ k ∧ k < 4) (hm : 1 ≤ m ∧ m < 7) (hx : -10000000 ≤ x ∧ x ≤ 10000000) (hy : -10000000 ≤ y ∧ y ≤ 10000000) : GdS ((spB c k m).map (mvP x y)) := by
 have hl := Qpa c k m
 have hch := spB_chk hc hk hm
 unfold chkS at hch
 rw [List.all_eq_true] at hch
 have hb := spB_sm (c := c) hk hm
 refine ⟨by rw [List.length_map]; omega, by rw [List.length_map]; omega, ?_, fun i hi => ?_, fun i hi => ?_⟩
 ·intro p hp
  obtain ⟨q, hq, rfl⟩ := List.mem_map.1 hp
  have := hb q hq
  unfold mvP
  exact ⟨⟨by dsimp only; omega, by dsimp only; omega⟩, ⟨by dsimp only; omega, by dsimp only; omega⟩⟩
 all_goals
  rw [List.length_map] at hi
  have h1 := hch i (List.mem_range.2 hi)
  simp only [Bool.and_eq_true, decide_eq_true_eq] at h1
  obtain ⟨⟨⟨⟨⟨⟨⟨h1, h2⟩, h3⟩, h4⟩, h5⟩, h6⟩, h7⟩, h8⟩ := h1
 ·rw [mv_sdh _ _ hi, mv_sdx _ _ hi, mv_sdy _ _ hi]; exact ⟨h1, h2⟩
 ·rw [Qnl _ _ hi]; exact ⟨⟨h3, h4⟩, ⟨h5, h6⟩, ⟨h7, h8⟩⟩
theorem gd_sh (l : List Int) : GdS (spP l) := by
 obtain ⟨h1, h2, h3, h4, h5⟩ := sh_b l
 exact gd_mv h1 h2 h3 ⟨by omega, by omega⟩ ⟨by omega, by omega⟩

def drA (a : List Pt) (n : Nat) : List Dr := (List.range n).map (sdN a)
def drB (b : List Pt) (n : Nat) : List Dr := (List.range n).map fun i => tnD (sdN b i)
def drs (a b : List Pt) : List Dr := drA a a.length ++ drB b b.length
def eqDr (a b : Dr) : Bool := (a.1 == b.1) && ((a.2.1 == b.2.1) && (a.2.2 == b.2.2))
def frI (ds : List Dr) (i : Nat) : Nat → Bool
 | 0 => true
 | k + 1 => frI ds i k && !(eqDr (ds.getD k default) (ds.getD i default))
def edP (a b : List Pt) (d : Dr) : Eg := (d, moP d a + moP (tnD d) b)
def sdO (a b : List Pt) (ds : List Dr) : Nat → List Eg
 | 0 => []
 | i + 1 => if frI ds i i then sdO a b ds i ++ [edP a b (ds.getD i default)] else sdO a b ds i
def sdP (a b : List Pt) : List Eg := sdO a b (drs a b) (drs a b).length
theorem eqD3 (a b c a' b' c' : Int) : eqD [.v (.int .i64 a), .v (.int .i64 b), .v (.int .i64 c)] [.v (.int .i64 a'), .v (.int .i64 b'), .v (.int .i64 c')] = some ((a == a') && ((b == b') && (c == c'))) := by simp [eqD]
theorem Qou (a : List Pt) (n : Nat) : (drA a n).length = n := by simp [drA]
theorem drB_len (a : List Pt) (n : Nat) : (drB a n).length = n := by simp [drB]
theorem drA_succ (a : List Pt) (n : Nat) : drA a (n + 1) = drA a n ++ [sdN a n] := by unfold drA; rw [List.range_succ, List.map_append]; rfl
theorem drB_succ (a : List Pt) (n : Nat) : drB a (n + 1) = drB a n ++ [tnD (sdN a n)] := by unfold drB; rw [List.range_succ, List.map_append]; rfl
theorem QqL (a b : List Pt) : (drs a b).length = a.length + b.length := by unfold drs; rw [List.length_append, Qou, drB_len]
theorem drs_nm {a b : List Pt} (ha : GdS a) (hb : GdS b) : ∀ d ∈ drs a b, NmD d := by
 intro d hd
 rcases List.mem_append.1 hd with h | h
 ·obtain ⟨i, hi, rfl⟩ := List.mem_map.1 h
  exact ha.nm i (List.mem_range.1 hi)
 ·obtain ⟨i, hi, rfl⟩ := List.mem_map.1 h
  exact (hb.nm i (List.mem_range.1 hi)).tn
theorem Qrm (a b : List Pt) (ds : List Dr) : ∀ i, (sdO a b ds i).length ≤ i
 | 0 => by simp [sdO]
 | i + 1 => by
  have := Qrm a b ds i
  rw [sdO]
  split
  ·rw [List.length_append]; simp; omega
  ·omega
theorem QsD {d : Dr} {l : List Pt} (hd : NmD d) (hl : ∀ p ∈ l, SmP p) : ∀ i, -20000000000000000 ≤ mstN d l i ∧ mstN d l i ≤ 20000000000000000 := by
 have h : ∀ i, -20000000000000000 ≤ dotI d (l.getD i default) ∧ dotI d (l.getD i default) ≤ 20000000000000000 := by
  intro i
  have hp := Qd5 hl smP0 i
  have h1 := QnA hd.sm.1 hp.1
  have h2 := QnA hd.sm.2.1 hp.2
  unfold dotI
  omega
 intro i
 induction i with
 | zero => exact h 0
 | succ i ih =>
  have := h i
  rw [mstN]
  omega
def Qj9 (da db : D) (L : List Dr) (i : Int) : St := mkS [(0, .d da), (1, .d db), (5, gAE 36 L), (6, ai i)] (gHE cD 3 36 L)
def QpK (da db : D) (L : List Dr) : St := mkS [(0, .d da), (1, .d db), (5, gAE 36 L)] (gHE cD 3 36 L)
def Ql3 (da db : D) (L : List Dr) (i : Int) : St := mkS [(0, .d da), (1, .d db), (5, .own [36] L.length), (9, ai i)] [([36], arE cD 3 L.length L)]
def QrK (da db : D) (L : List Dr) : St := mkS [(0, .d da), (1, .d db), (5, .own [36] L.length)] [([36], arE cD 3 L.length L)]
def Qj6 (da db : D) (L : List Dr) (O : List Eg) (i : Int) (f : Bool) (k : Int) : St := mkS [(0, .d da), (1, .d db), (5, .own [36] L.length), (12, gAE 104 O), (13, ai i), (14, ab f), (15, ai k)] (([36], arE cD 3 L.length L) :: gHE cG 4 104 O)
def QpO (da db : D) (L : List Dr) (O : List Eg) (i : Int) (f : Bool) : St := mkS [(0, .d da), (1, .d db), (5, .own [36] L.length), (12, gAE 104 O), (13, ai i), (14, ab f)] (([36], arE cD 3 L.length L) :: gHE cG 4 104 O)
def QiT (da db : D) (L : List Dr) (O : List Eg) (i : Int) : St := mkS [(0, .d da), (1, .d db), (5, .own [36] L.length), (12, gAE 104 O), (13, ai i)] (([36], arE cD 3 L.length L) :: gHE cG 4 104 O)
def QpN (O : List Eg) : St := mkS [(12, gAE 104 O)] (gHE cG 4 104 O)
theorem bnd3 {n : Nat} (h : n ≤ 1000) : ((n + 1) * 24 ≤ bound) = True := eq_true (by unfold bound; omega)
theorem bnd4 {n : Nat} (h : n ≤ 1000) : ((n + 1) * 32 ≤ bound) = True := eq_true (by unfold bound; omega)
theorem b24 : (24 ≤ bound) = True := eq_true (by unfold bound; omega)
theorem b24' : (1 * 24 ≤ bound) = True := eq_true (by unfold bound; omega)
theorem b32 : (32 ≤ bound) = True := eq_true (by unfold bound; omega)
theorem b32' : (1 * 32 ≤ bound) = True := eq_true (by unfold bound; omega)

theorem Qmi (x : Obj) : Qcc (hupd hp0 [104] x) [58] none = hupd hp0 [104] x := by
 funext j
 simp only [Qcc, hupd]
 split
 ·rename_i h
  subst h
  simp [hp0]
 ·rfl

theorem sdP_ne {a b : List Pt} (ha : GdS a) : sdP a b ≠ [] := by
 unfold sdP
 have h1 : 0 < (drs a b).length := by rw [QqL]; have := ha.pos; omega
 have key : ∀ n, 0 < n → sdO a b (drs a b) n ≠ [] := by
  intro n
  induction n with
  | zero => intro h; omega
  | succ n ih =>
   intro _
   rw [sdO]
   by_cases hn : 0 < n
   ·split
    ·simp
    ·exact ih hn
   ·have : n = 0 := by omega
    subst this
    simp [frI]
 exact key _ h1
variable [Its]
theorem sd0_go {da db : D} {a : List Pt} (hr : RwE cP da a) (ha : GdS a) {L : List Dr} (hL : L.length ≤ 1000) {i : Nat} (hi : i < a.length) : X G Qbd (Qj9 da db L i) = some (.n, Qj9 da db (L ++ [sdN a i]) ((i + 1 : Nat) : Int)) := by
 have hle := ha.le
 have ll := hr.len
 have e1 : decide ((i : Int) < (a.length : Int)) = true := lt_t (by omega)
 have e2 : w64 ((i : Int) + 1) = ((i + 1 : Nat) : Int) := by rw [Qad (by omega) (by omega)]; rfl
 have x1 := hr.ixa Qb2 hi
 have x2 := fun hp => ldE Qb2 hp hi
 have g1 := Ql2 hr hi (by omega)
 have hp := Qd5 ha.sm smP0 i
 have hn : SmP (nxP a i) := by unfold nxP; split <;> exact Qd5 ha.sm smP0 _
 have g2 := Qqm (h := sdh a i) hp hn (ha.sq i hi).1 (ha.sq i hi).2
 have e3 : nrP ((nxP a i).1 - (a.getD i default).1) ((nxP a i).2 - (a.getD i default).2) (sdh a i) = sdN a i := rfl
 rw [e3] at g2
 simp only [encP, cP, encD, cD, iv, bv] at x2 g1 g2
 generalize (nxP a i).1 = n1 at *
 generalize (nxP a i).2 = n2 at *
 generalize (a.getD i default).1 = p1 at *
 generalize (a.getD i default).2 = p2 at *
 clear e3 hp hn
 generalize sdN a i = v at *
 obtain ⟨u1, u2, u3⟩ := v
 dsimp only at g2
 by_cases h0 : L = []
 ·subst h0
  have hq : ([(u1, u2, u3)] : List Dr) ≠ [] := by simp
  simp -implicitDefEqProofs (maxSteps:=9^8) only [Qbd, Qj9, Qcs, Qct, QcG hq, QcH hq, arE, flat1D, Qaa, List.nil_append, List.cons_append, List.length_nil, List.length_cons, Nat.zero_add, List.map_cons, List.map_nil, rep1_3, oneI, srcS, src, allD, Qae, Qab, b24, b24', ll, x1, x2, g1, g2, go_sem, iv, bv, e1, e2, reduceCtorEq, ↓reduceIte, Nat.reduceEqDiff]
 ·have n3 := lenE Qpq L
  have n4 := bnd3 hL
  simp -implicitDefEqProofs (maxSteps:=9^8) only [Qbd, Qj9, Qaa, QcG h0, QcH h0, QlC, QlE, arE, cD_snoc, QaP, n3, n4, List.nil_append, List.cons_append, List.length_nil, List.length_cons, Nat.zero_add, List.map_cons, List.map_nil, List.all_cons, List.all_nil, rep1_3, oneI, srcS, src, allD, box3s, Qab, ll, x1, x2, g1, g2, go_sem, iv, bv, e1, e2, reduceCtorEq, ↓reduceIte, Nat.reduceEqDiff]
theorem sd0_stop {da db : D} {a : List Pt} (hr : RwE cP da a) {L : List Dr} : X G Qbd (Qj9 da db L a.length) = some (.x 0, QpK da db L) := by
 have ll := hr.len
 have e1 : decide ((a.length : Int) < (a.length : Int)) = false := lt_f (by omega)
 by_cases h0 : L = []
 ·subst h0
  simp -implicitDefEqProofs (maxSteps:=9^8) only [Qbd, Qj9, QpK, Qcs, Qct, Qaa, ll, go_sem, iv, bv, e1, reduceCtorEq, ↓reduceIte, Nat.reduceEqDiff]
 ·simp -implicitDefEqProofs (maxSteps:=9^8) only [Qbd, Qj9, QpK, QcG h0, QcH h0, Qaa, arE, QaP, ll, go_sem, iv, bv, e1, reduceCtorEq, ↓reduceIte, Nat.reduceEqDiff]
theorem Qsf {da db : D} {a : List Pt} (hr : RwE cP da a) (ha : GdS a) : ∀ (j i : Nat), i + j = a.length → X G (.loop Qbd) (Qj9 da db (drA a i) i) = some (.x 0, QpK da db (drA a a.length))
 | 0, i, h => by
  have : i = a.length := by omega
  subst this
  rw [Qag, sd0_stop hr]; rfl
 | j + 1, i, h => by
  have ih := Qsf (db := db) hr ha j (i + 1) (by omega)
  rw [drA_succ] at ih
  rw [Qag, sd0_go hr ha (by rw [Qou]; have := ha.le; omega) (by omega), Option.bind_some, if_pos rfl]
  exact ih
theorem sd1_go {da db : D} {b : List Pt} (hr : RwE cP db b) (hb : GdS b) {L : List Dr} (h0 : L ≠ []) (hL : L.length ≤ 1000) {i : Nat} (hi : i < b.length) : X G QbX (Ql3 da db L i) = some (.n, Ql3 da db (L ++ [tnD (sdN b i)]) ((i + 1 : Nat) : Int)) := by
 have hle := hb.le
 have ll := hr.len
 have e1 : decide ((i : Int) < (b.length : Int)) = true := lt_t (by omega)
 have e2 : w64 ((i : Int) + 1) = ((i + 1 : Nat) : Int) := by rw [Qad (by omega) (by omega)]; rfl
 have x1 := hr.ixa Qb2 hi
 have x2 := fun hp => ldE Qb2 hp hi
 have g1 := Ql2 hr hi (by omega)
 have hp := Qd5 hb.sm smP0 i
 have hn : SmP (nxP b i) := by unfold nxP; split <;> exact Qd5 hb.sm smP0 _
 have g2 := Qqm (h := sdh b i) hp hn (hb.sq i hi).1 (hb.sq i hi).2
 have e3 : nrP ((nxP b i).1 - (b.getD i default).1) ((nxP b i).2 - (b.getD i default).2) (sdh b i) = sdN b i := rfl
 rw [e3] at g2
 have g3 := QpQ (hb.nm i hi).sm
 simp only [encP, cP, encD, cD, iv, bv] at x2 g1 g2 g3
 generalize (nxP b i).1 = n1 at *
 generalize (nxP b i).2 = n2 at *
 generalize (b.getD i default).1 = p1 at *
 generalize (b.getD i default).2 = p2 at *
 clear e3 hp hn
 generalize sdN b i = v at *
 obtain ⟨u1, u2, u3⟩ := v
 dsimp only at g2 g3
 unfold tnD
 dsimp only
 generalize -u1 = v1 at *
 generalize -u2 = v2 at *
 have n3 := lenE Qpq L
 have n4 := bnd3 hL
 have n5 : (L ++ [(v1, v2, u3)]).length = L.length + 1 := by simp
 simp -implicitDefEqProofs (maxSteps:=9^8) only [QbX, Ql3, Qaa, arE, n5, cD_snoc, QaP, n3, n4, List.nil_append, List.cons_append, List.length_nil, List.length_cons, Nat.zero_add, List.map_cons, List.map_nil, List.all_cons, List.all_nil, rep1_3, oneI, srcS, src, allD, box3s, Qab, ll, x1, x2, g1, g2, g3, go_sem, iv, bv, e1, e2, reduceCtorEq, ↓reduceIte, Nat.reduceEqDiff]
theorem sd1_stop {da db : D} {b : List Pt} (hr : RwE cP db b) {L : List Dr} : X G QbX (Ql3 da db L b.length) = some (.x 2, QrK da db L) := by
 have ll := hr.len
 have e1 : decide ((b.length : Int) < (b.length : Int)) = false := lt_f (by omega)
 simp -implicitDefEqProofs (maxSteps:=9^8) only [QbX, Ql3, QrK, Qaa, arE, QaP, ll, go_sem, iv, bv, e1, reduceCtorEq, ↓reduceIte, Nat.reduceEqDiff]
theorem QsN {da db : D} {b : List Pt} {L0 : List Dr} (hr : RwE cP db b) (hb : GdS b) (h0 : L0 ≠ []) (hL : L0.length ≤ 100) : ∀ (j i : Nat), i + j = b.length → X G (.loop QbX) (Ql3 da db (L0 ++ drB b i) i) = some (.x 2, QrK da db (L0 ++ drB b b.length))
 | 0, i, h => by
  have : i = b.length := by omega
  subst this
  rw [Qag, sd1_stop hr]; rfl
 | j + 1, i, h => by
  have ih := QsN (da := da) hr hb h0 hL j (i + 1) (by omega)
  rw [drB_succ, ← List.append_assoc] at ih
  rw [Qag, sd1_go hr hb (by simp [h0]) (by rw [List.length_append, drB_len]; have := hb.le; omega) (by omega), Option.bind_some, if_pos rfl]
  exact ih
theorem sd2_go {da db : D} {L : List Dr} {O : List Eg} (hL : L.length ≤ 1000) {i k : Nat} {f : Bool} (hi : i < L.length) (hk : k < i) : X G Qbb (Qj6 da db L O i f k) = some (.n, Qj6 da db L O i (f && !(eqDr (L.getD k default) (L.getD i default))) ((k + 1 : Nat) : Int)) := by
  have e1 : decide ((k : Int) < (i : Int)) = true := lt_t (by omega)
  have e2 : w64 ((k : Int) + 1) = ((k + 1 : Nat) : Int) := by rw [Qad (by omega) (by omega)]; rfl
  have b1 : (0 ≤ (k : Int)) = True := eq_true (by omega)
  have b2 : ((k : Int) < (L.length : Int)) = True := eq_true (by omega)
  have b3 : (0 ≤ (i : Int)) = True := eq_true (by omega)
  have b4 : ((i : Int) < (L.length : Int)) = True := eq_true (by omega)
  have x1 := ldO Qpq (l := L) (j := k) (by omega)
  have x2 := ldO Qpq (l := L) (j := i) hi
  unfold eqDr
  generalize L.getD k default = p at *
  generalize L.getD i default = q at *
  obtain ⟨p1, p2, p3⟩ := p
  obtain ⟨q1, q2, q3⟩ := q
  simp only [cD, iv] at x1 x2
  have e3 := eqD3 p1 p2 p3 q1 q2 q3
  dsimp only
  obtain ⟨t, ht⟩ : ∃ t, ((p1 == q1) && ((p2 == q2) && (p3 == q3))) = t := ⟨_, rfl⟩
  rw [ht] at e3 ⊢
  by_cases h0 : O = []
  · subst h0
    cases f <;> cases t <;> simp -implicitDefEqProofs (maxSteps:=9^8) only [Qbb, Qj6, Qcs, Qct, Qaa, Qmi, arE, QaP, Int.toNat_natCast, x1, x2, e3, ht, b1, b2, b3, b4, Bool.not_true, Bool.not_false, Bool.and_false, Bool.and_true, go_sem, iv, bv, e1, e2, reduceCtorEq, ↓reduceIte, Nat.reduceEqDiff]
  · cases f <;> cases t <;> simp -implicitDefEqProofs (maxSteps:=9^8) only [Qbb, Qj6, QcG h0, QcH h0, Qaa, Qmi, arE, QaP, Int.toNat_natCast, x1, x2, e3, ht, b1, b2, b3, b4, Bool.not_true, Bool.not_false, Bool.and_false, Bool.and_true, go_sem, iv, bv, e1, e2, reduceCtorEq, ↓reduceIte, Nat.reduceEqDiff]
theorem sd2_stop {da db : D} {L : List Dr} {O : List Eg} {i : Nat} {f : Bool} : X G Qbb (Qj6 da db L O i f i) = some (.x 6, QpO da db L O i f) := by
 have e1 : decide ((i : Int) < (i : Int)) = false := lt_f (by omega)
 by_cases h0 : O = []
 ·subst h0
  simp -implicitDefEqProofs (maxSteps:=9^8) only [Qbb, Qj6, QpO, Qcs, Qct, Qaa, Qmi, arE, QaP, go_sem, iv, bv, e1, reduceCtorEq, ↓reduceIte, Nat.reduceEqDiff]
 ·simp -implicitDefEqProofs (maxSteps:=9^8) only [Qbb, Qj6, QpO, QcG h0, QcH h0, Qaa, Qmi, arE, QaP, go_sem, iv, bv, e1, reduceCtorEq, ↓reduceIte, Nat.reduceEqDiff]
theorem QrL {da db : D} {L : List Dr} {O : List Eg} (hL : L.length ≤ 1000) {i : Nat} (hi : i < L.length) : ∀ (j k : Nat), k + j = i → X G (.loop Qbb) (Qj6 da db L O i (frI L i k) k) = some (.x 6, QpO da db L O i (frI L i i))
 | 0, k, h => by
  have : k = i := by omega
  subst this
  rw [Qag, sd2_stop]; rfl
 | j + 1, k, h => by
  rw [Qag, sd2_go hL hi (by omega), Option.bind_some, if_pos rfl]
  exact QrL hL hi j (k + 1) (by omega)
theorem sd3_go {da db : D} {a b : List Pt} (hra : RwE cP da a) (hrb : RwE cP db b) (ha : GdS a) (hb : GdS b) {L : List Dr} (hLn : ∀ d ∈ L, NmD d) {O : List Eg} (hL : L.length ≤ 1000) (hO : O.length ≤ 1000) {i : Nat} (hi : i < L.length) :
    X G QaH (QiT da db L O i) = some (.n, QiT da db L (if frI L i i then O ++ [edP a b (L.getD i default)] else O) ((i + 1 : Nat) : Int)) := by
  have e1 : decide ((i : Int) < (L.length : Int)) = true := lt_t (by omega)
  have e2 : w64 ((i : Int) + 1) = ((i + 1 : Nat) : Int) := by rw [Qad (by omega) (by omega)]; rfl
  have b3 : (0 ≤ (i : Int)) = True := eq_true (by omega)
  have b4 : ((i : Int) < (L.length : Int)) = True := eq_true (by omega)
  have gl := QrL (da := da) (db := db) (O := O) hL hi i 0 (by omega)
  have ef : frI L i 0 = true := rfl
  rw [ef] at gl
  generalize frI L i i = f at *
  have x2 := ldO Qpq (l := L) (j := i) hi
  have hd : NmD (L.getD i default) := by rw [List.getD_eq_getElem?_getD, List.getElem?_eq_getElem hi]; exact hLn _ (List.getElem_mem hi)
  have g1 := QpX hra ha.pos ha.sm hd.sm (by have := ha.le; omega)
  have g2 := QpQ hd.sm
  have g3 := QpX hrb hb.pos hb.sm hd.tn.sm (by have := hb.le; omega)
  have m1 : -20000000000000000 ≤ moP (L.getD i default) a ∧ moP (L.getD i default) a ≤ 20000000000000000 := QsD hd ha.sm _
  have m2 : -20000000000000000 ≤ moP (tnD (L.getD i default)) b ∧ moP (tnD (L.getD i default)) b ≤ 20000000000000000 := QsD hd.tn hb.sm _
  unfold edP
  obtain ⟨z, hz⟩ : ∃ z, moP (L.getD i default) a + moP (tnD (L.getD i default)) b = z := ⟨_, rfl⟩
  have e3 : w64 (moP (L.getD i default) a + moP (tnD (L.getD i default)) b) = z := by rw [Qad (by omega) (by omega), hz]
  rw [hz]
  clear hz
  generalize moP (L.getD i default) a = z1 at *
  generalize moP (tnD (L.getD i default)) b = z2 at *
  clear hd hLn
  generalize L.getD i default = p at *
  obtain ⟨p1, p2, p3⟩ := p
  simp only [encD, cD, tnD, iv] at x2 g1 g2 g3
  generalize -p1 = v1 at *
  generalize -p2 = v2 at *
  simp only [Qj6, QpO, nc0] at gl
  cases f with
  | false =>
    rw [if_neg (by simp)]
    by_cases h0 : O = []
    · subst h0
      simp only [Qcs, Qct, arE, go_sem] at gl
      simp -implicitDefEqProofs (maxSteps:=9^8) only [QaH, QiT, gl, Qcs, Qct, Qaa, Qmi, arE, QaP, go_sem, iv, bv, e1, e2, reduceCtorEq, ↓reduceIte, Nat.reduceEqDiff]
    · simp only [QcG h0, QcH h0, arE, go_sem] at gl
      simp -implicitDefEqProofs (maxSteps:=9^8) only [QaH, QiT, gl, QcG h0, QcH h0, Qaa, Qmi, arE, QaP, go_sem, iv, bv, e1, e2, reduceCtorEq, ↓reduceIte, Nat.reduceEqDiff]
  | true =>
    rw [if_pos rfl]
    by_cases h0 : O = []
    · subst h0
      have hq : ([((p1, p2, p3), z)] : List Eg) ≠ [] := by simp
      simp only [Qcs, Qct, arE, go_sem] at gl
      simp -implicitDefEqProofs (maxSteps:=9^8) only [QaH, QiT, gl, Qcs, Qct, QcG hq, QcH hq, flat1G, Qaa, Qmi, arE, QaP, Int.toNat_natCast, b3, b4, x2, g1, g2, g3, e3, b32, b32', rep1_4, oneI, srcS, src, allD, List.nil_append, List.cons_append, List.append_nil, List.length_nil, List.length_cons, Nat.zero_add, List.map_cons, List.map_nil, List.all_cons, List.all_nil, Qdb, QbF, go_sem, iv, bv, e1, e2, reduceCtorEq, ↓reduceIte, Nat.reduceEqDiff]
    · have n3 := lenE QeM O
      have n4 := bnd4 hO
      simp only [QcG h0, QcH h0, arE, go_sem] at gl
      simp -implicitDefEqProofs (maxSteps:=9^8) only [QaH, QiT, gl, QcG h0, QcH h0, QlC, QlE, cG_snoc, Qaa, Qmi, arE, QaP, n3, n4, Int.toNat_natCast, b3, b4, x2, g1, g2, g3, e3, rep1_4, oneI, srcS, src, allD, List.nil_append, List.cons_append, List.append_nil, List.length_nil, List.length_cons, Nat.zero_add, List.map_cons, List.map_nil, List.all_cons, List.all_nil, Qdb, QbF, go_sem, iv, bv, e1, e2, reduceCtorEq, ↓reduceIte, Nat.reduceEqDiff]
theorem sd3_stop {da db : D} {L : List Dr} {O : List Eg} : X G QaH (QiT da db L O L.length) = some (.x 4, QpN O) := by
 have e1 : decide ((L.length : Int) < (L.length : Int)) = false := lt_f (by omega)
 by_cases h0 : O = []
 ·subst h0
  simp -implicitDefEqProofs (maxSteps:=9^8) only [QaH, QiT, QpN, Qcs, Qct, Qaa, Qmi, arE, QaP, go_sem, iv, bv, e1, reduceCtorEq, ↓reduceIte, Nat.reduceEqDiff]
 ·simp -implicitDefEqProofs (maxSteps:=9^8) only [QaH, QiT, QpN, QcG h0, QcH h0, Qaa, Qmi, arE, QaP, go_sem, iv, bv, e1, reduceCtorEq, ↓reduceIte, Nat.reduceEqDiff]
theorem Qs5 {da db : D} {a b : List Pt} (hra : RwE cP da a) (hrb : RwE cP db b) (ha : GdS a) (hb : GdS b) {L : List Dr} (hLn : ∀ d ∈ L, NmD d) (hL : L.length ≤ 1000) : ∀ (j i : Nat), i + j = L.length → X G (.loop QaH) (QiT da db L (sdO a b L i) i) = some (.x 4, QpN (sdO a b L L.length))
 | 0, i, h => by
  have : i = L.length := by omega
  subst this
  rw [Qag, sd3_stop]; rfl
 | j + 1, i, h => by
  rw [Qag, sd3_go hra hrb ha hb hLn hL (by have := Qrm a b L i; omega) (by omega), Option.bind_some, if_pos rfl]
  exact Qs5 hra hrb ha hb hLn hL j (i + 1) (by omega)
theorem QnN {da db : D} {a b : List Pt} (hra : RwE cP da a) (hrb : RwE cP db b) (ha : GdS a) (hb : GdS b) : Qah G Qdq [da, db] = some (.own 4 (sdP a b).length ((sdP a b).flatMap cG)) := by
 rw [Qac (cf := Qfe) rfl]
 have hna : drA a a.length ≠ [] := fun h => by
  have h1 := Qou a a.length
  rw [h] at h1
  have := ha.pos
  simp at h1
  omega
 have g0 := Qsf (db := db) hra ha a.length 0 (by omega)
 have g1 := QsN (da := da) (L0 := drA a a.length) hrb hb hna (by rw [Qou]; have := ha.le; omega) b.length 0 (by omega)
 have g2 := Qs5 hra hrb ha hb (drs_nm ha hb) (by rw [QqL]; have := ha.le; have := hb.le; omega) (drs a b).length 0 (by omega)
 have hne := sdP_ne (b := b) ha
 have e0 : drA a 0 = [] := rfl
 have e1 : drA a a.length ++ drB b 0 = drA a a.length := List.append_nil _
 have e2 : drA a a.length ++ drB b b.length = drs a b := rfl
 have e3 : sdO a b (drs a b) 0 = [] := rfl
 have e4 : sdO a b (drs a b) (drs a b).length = sdP a b := rfl
 rw [e0] at g0
 rw [e1, e2] at g1
 rw [e3, e4] at g2
 generalize drs a b = L at *
 generalize drA a a.length = L0 at *
 generalize sdP a b = O at *
 simp only [Qj9, QpK, Qcs, Qct, QcG hna, QcH hna, arE, Qaa, go_sem, nc0, iv] at g0
 simp only [Ql3, QrK, arE, Qaa, go_sem, nc0, iv] at g1
 simp only [QiT, QpN, Qcs, Qct, QcG hne, QcH hne, arE, Qaa, go_sem, nc0, iv] at g2
 simp -implicitDefEqProofs (maxSteps:=9^8) only [Qfe, g0, g1, g2, QaP, Qse, Qaa, Qmi, go_sem, iv, bv, reduceCtorEq, ↓reduceIte, Nat.reduceEqDiff]
end Go.AM

/- Vectors; ref12.Vec, Dot; ref13 and gap: small functions. -/
namespace Go.AM
open Go Go.RowKit

abbrev Vc := Rat × Rat
def encV (v : Vc) : D := .agg [.v (.bool (decide (v.1.num < 0))), dg (digs v.1.num.natAbs), .v (.bool false), dg (dd v.1.den), .v (.bool (decide (v.2.num < 0))), dg (digs v.2.num.natAbs), .v (.bool false), dg (dd v.2.den)]
def vcA (n : Int) : Int := arnd n 96 % 24 * 2 - 24 + arnd n 96 / 72
def vcB (n : Int) : Int := 2 + arnd n 96 / 48 % 2
def vcR (n : Int) : Rat := Rat.divInt (vcA n) (vcB n)
def dotR (d : Dr) (v : Vc) : Rat := (d.1 : Rat) * v.1 + (d.2.1 : Rat) * v.2
def rtR (d : Dr) (v : Vc) : Rat := dotR d v / (d.2.2 : Rat)
def gpR (e : Eg) (v : Vc) : Rat := (dotR e.1 v - (e.2 : Rat)) / (e.1.2.2 : Rat)
def plV (a b : Vc) : Vc := (a.1 + b.1, a.2 + b.2)
def tmV (k : Rat) (a : Vc) : Vc := (k * a.1, k * a.2)
def SzV (K : Nat) (v : Vc) : Prop := sz v.1 ≤ K ∧ sz v.2 ≤ K
theorem SzV.mono {K L : Nat} {v : Vc} (h : SzV K v) (hk : K ≤ L) : SzV L v := ⟨Nat.le_trans h.1 hk, Nat.le_trans h.2 hk⟩
def AtE (e : Eg) : Prop := NmD e.1 ∧ I64 e.2
theorem NmD.i1 {d : Dr} (h : NmD d) : I64 d.1 := ⟨by have := h.1; omega, by have := h.1; omega⟩
theorem NmD.i2 {d : Dr} (h : NmD d) : I64 d.2.1 := ⟨by have := h.2.1; omega, by have := h.2.1; omega⟩
theorem NmD.i3 {d : Dr} (h : NmD d) : I64 d.2.2 := ⟨by have := h.2.2; omega, by have := h.2.2; omega⟩
theorem Qhy : I64 1 := ⟨by omega, by omega⟩
theorem Qmx {d : Dr} {v : Vc} {K : Nat} (hd : NmD d) (hv : SzV K v) : sz (dotR d v) ≤ 2 * K + 7 := by
 have h1 := QdG hd.i1
 have h2 := QdG hd.i2
 have h3 := Qec (a := (d.1 : Rat)) (b := v.1)
 have h4 := Qec (a := (d.2.1 : Rat)) (b := v.2)
 have h5 := Qkj (a := (d.1 : Rat) * v.1) (b := (d.2.1 : Rat) * v.2)
 have := hv.1
 have := hv.2
 unfold dotR
 omega
theorem Qlb {d : Dr} {v : Vc} {K : Nat} (hd : NmD d) (hv : SzV K v) : sz (rtR d v) ≤ 2 * K + 10 := by
 have h1 := Qmx hd hv
 have h2 := QdG hd.i3
 have h3 := Qin (a := dotR d v) (b := (d.2.2 : Rat))
 unfold rtR
 omega
theorem QlQ {e : Eg} {v : Vc} {K : Nat} (he : AtE e) (hv : SzV K v) : sz (gpR e v) ≤ 2 * K + 14 := by
 have h1 := Qmx he.1 hv
 have h2 := QdG he.1.i3
 have h3 := QdG he.2
 have h4 := sz_sub (a := dotR e.1 v) (b := (e.2 : Rat))
 have h5 := Qin (a := dotR e.1 v - (e.2 : Rat)) (b := (e.1.2.2 : Rat))
 unfold gpR
 omega
theorem Qr1 {a b : Vc} {K L : Nat} (ha : SzV K a) (hb : SzV L b) : SzV (K + L + 1) (plV a b) := by
 have h1 := Qkj (a := a.1) (b := b.1)
 have h2 := Qkj (a := a.2) (b := b.2)
 have := ha.1; have := ha.2; have := hb.1; have := hb.2
 constructor <;> (unfold plV; dsimp only; omega)
theorem QnX {k : Rat} {a : Vc} {K L : Nat} (hk : sz k ≤ L) (ha : SzV K a) : SzV (K + L) (tmV k a) := by
 have h1 := Qec (a := k) (b := a.1)
 have h2 := Qec (a := k) (b := a.2)
 have := ha.1; have := ha.2
 constructor <;> (unfold tmV; dsimp only; omega)
theorem vc_b (n : Int) : (-24 ≤ vcA n ∧ vcA n ≤ 24) ∧ (2 ≤ vcB n ∧ vcB n ≤ 3) := by
 have h := Qsn (n := n) (m := 96) (by omega)
 unfold vcA vcB
 omega
theorem vcR_sz (n : Int) : sz (vcR n) ≤ 3 := by
 have h := vc_b n
 exact Qq0 ⟨by omega, by omega⟩ ⟨by omega, by omega⟩
theorem vcV_sz (x y : Int) : SzV 3 (vcR x, vcR y) := ⟨vcR_sz x, vcR_sz y⟩
theorem st8 (a b c d e f g h i j k l m n o p : A) : Qae 0 [a, b, c, d, e, f, g, h] [i, j, k, l, m, n, o, p] = some [a, b, c, d, e, f, g, h] := rfl
theorem ld8 (a b c d e f g h : D) : Qab (some 8) 0 [.d a, .d b, .d c, .d d, .d e, .d f, .d g, .d h] = some (.d (.agg [a, b, c, d, e, f, g, h])) := rfl
theorem ld80 (a b c d e f g h : D) : Qab (some 4) 0 [.d a, .d b, .d c, .d d, .d e, .d f, .d g, .d h] = some (.d (.agg [a, b, c, d])) := rfl
theorem ld84 (a b c d e f g h : D) : Qab (some 4) 4 [.d a, .d b, .d c, .d d, .d e, .d f, .d g, .d h] = some (.d (.agg [e, f, g, h])) := rfl
theorem st4' (a b c d i j k l : A) : Qae 0 [a, b, c, d] [i, j, k, l] = some [a, b, c, d] := rfl
theorem ld3_0 (a b c : D) : Qab none 0 [.d a, .d b, .d c] = some (.d a) := rfl
theorem ld3_1 (a b c : D) : Qab none 1 [.d a, .d b, .d c] = some (.d b) := rfl
theorem ld3_2 (a b c : D) : Qab none 2 [.d a, .d b, .d c] = some (.d c) := rfl
theorem QrA (a b c d : D) : Qab (some 3) 0 [.d a, .d b, .d c, .d d] = some (.d (.agg [a, b, c])) := rfl
theorem Qfn (a b c d : D) : Qab (some 4) 0 [.d a, .d b, .d c, .d d] = some (.d (.agg [a, b, c, d])) := rfl
theorem ld4_n2 (a b c d : D) : Qab none 2 [.d a, .d b, .d c, .d d] = some (.d c) := rfl
theorem ld4_n3 (a b c d : D) : Qab none 3 [.d a, .d b, .d c, .d d] = some (.d d) := rfl
theorem rep3_4 (a b c d : D) : rep 3 [a, b, c, d] = [a, b, c, d, a, b, c, d, a, b, c, d] := rfl

theorem gp_alt (e : Eg) (v : Vc) : rtR e.1 v - Rat.divInt e.2 e.1.2.2 = gpR e v := by
 unfold rtR gpR
 rw [Rat.divInt_eq_div, Rat.div_def, Rat.div_def, Rat.div_def]
 generalize dotR e.1 v = p
 generalize ((e.1.2.2 : Int) : Rat)⁻¹ = q
 generalize ((e.2 : Int) : Rat) = r
 grind
theorem half_alt (q : Rat) : q * Rat.divInt 1 2 = q / 2 := by
 rw [Rat.divInt_eq_div, Rat.div_def, Rat.div_def]
 congr 1
 rw [show ((1 : Int) : Rat) = 1 from rfl, Rat.one_mul]
 rfl
def alL (e : Eg) (r v a : Vc) : List Rat := [gpR e r, rtR e.1 v, rtR e.1 a / 2]
def alP (e : Eg) (r v a : Vc) : List Rat := QbR (alL e r v a)
theorem i64_2 : I64 2 := ⟨by omega, by omega⟩
theorem QsB {e : Eg} {r v a : Vc} {K : Nat} (he : AtE e) (hr : SzV K r) (hv : SzV K v) (ha : SzV K a) : SzL (2 * K + 14) (alL e r v a) := by
 intro q hq
 have h1 := QlQ he hr
 have h2 := Qlb he.1 hv
 have h3 := Qlb he.1 ha
 have h4 := Qin (a := rtR e.1 a) (b := 2)
 have h5 := Qqc
 unfold alL at hq
 simp only [List.mem_cons, List.not_mem_nil, or_false] at hq
 rcases hq with rfl | rfl | rfl <;> omega
variable [Its]
theorem QoB {x y : Int} (hx : I64 x) (hy : I64 y) : Qah G Qd8 [iv x, iv y] = some (.d (encV (vcR x, vcR y))) := by
 rw [Qac (cf := QgV) rfl]
 have g1 := QjG (m := 96) hx (by omega)
 have g2 := QjG (m := 96) hy (by omega)
 have bx := vc_b x
 have bz := vc_b y
 have g3 := QaL (n := vcA x) (d := vcB x) ⟨by omega, by omega⟩ ⟨by omega, by omega⟩
 have g4 := QaL (n := vcA y) (d := vcB y) ⟨by omega, by omega⟩ ⟨by omega, by omega⟩
 have e3 : Rat.divInt (vcA x) (vcB x) = vcR x := rfl
 have e4 : Rat.divInt (vcA y) (vcB y) = vcR y := rfl
 rw [e3] at g3
 rw [e4] at g4
 clear e3 e4
 generalize vcR x = rx at *
 generalize vcR y = ry at *
 have b1 := Qsn (n := x) (m := 96) (by omega)
 have b2 := Qsn (n := y) (m := 96) (by omega)
 unfold vcA vcB at *
 generalize arnd x 96 = u at *
 generalize arnd y 96 = v at *
 have tm : ∀ a : Int, 0 ≤ a → a.tmod 24 = a % 24 := fun a h => Qdi h
 have t1 := Qdi (a := u) (b := 24) b1.1
 have t2 := Qed (a := u) (b := 72) b1.1
 have t3 := Qed (a := u) (b := 48) b1.1
 have t4 := Qdi (a := u / 48) (b := 2) (by omega)
 have s1 := Qdi (a := v) (b := 24) b2.1
 have s2 := Qed (a := v) (b := 72) b2.1
 have s3 := Qed (a := v) (b := 48) b2.1
 have s4 := Qdi (a := v / 48) (b := 2) (by omega)
 have f1 : w64 (u % 24 * 2) = u % 24 * 2 := Qad (by omega) (by omega)
 have f2 : w64 (u % 24 * 2 - 24) = u % 24 * 2 - 24 := Qad (by omega) (by omega)
 have f3 : w64 (u / 72) = u / 72 := Qad (by omega) (by omega)
 have f4 : w64 (u % 24 * 2 - 24 + u / 72) = u % 24 * 2 - 24 + u / 72 := Qad (by omega) (by omega)
 have f5 : w64 (u / 48) = u / 48 := Qad (by omega) (by omega)
 have f6 : w64 (2 + u / 48 % 2) = 2 + u / 48 % 2 := Qad (by omega) (by omega)
 have h1 : w64 (v % 24 * 2) = v % 24 * 2 := Qad (by omega) (by omega)
 have h2 : w64 (v % 24 * 2 - 24) = v % 24 * 2 - 24 := Qad (by omega) (by omega)
 have h3 : w64 (v / 72) = v / 72 := Qad (by omega) (by omega)
 have h4 : w64 (v % 24 * 2 - 24 + v / 72) = v % 24 * 2 - 24 + v / 72 := Qad (by omega) (by omega)
 have h5 : w64 (v / 48) = v / 48 := Qad (by omega) (by omega)
 have h6 : w64 (2 + v / 48 % 2) = 2 + v / 48 % 2 := Qad (by omega) (by omega)
 have z1 : ((24 : Int) = 0) = False := by simp
 have z2 : ((72 : Int) = 0) = False := by simp
 have z3 : ((48 : Int) = 0) = False := by simp
 have z4 : ((2 : Int) = 0) = False := by simp
 clear bx bz b1 b2
 simp only [encR, iv, bv] at g1 g2 g3 g4
 simp -implicitDefEqProofs (maxSteps:=9^8) only [QgV, encV, Qdb, QbF, st8, ld8, g1, g2, g3, g4, t1, t2, t3, t4, s1, s2, s3, s4, f1, f2, f3, f4, f5, f6, h1, h2, h3, h4, h5, h6, z1, z2, z3, z4, go_sem, iv, bv, reduceCtorEq, ↓reduceIte, Nat.reduceEqDiff]
theorem QmD {a b : Vc} {K : Nat} (hK : K ≤ 100000000000) (ha : SzV K a) (hb : SzV K b) : Qah G QdF [encV a, encV b] = some (.d (encV (plV a b))) := by
 rw [Qac (cf := Qf4) rfl]
 obtain ⟨x, y⟩ := a
 obtain ⟨z, t⟩ := b
 have g1 := Qdd (a := x) (b := z) (by have := ha.1; dsimp only at this; omega) (by have := hb.1; dsimp only at this; omega)
 have g2 := Qdd (a := y) (b := t) (by have := ha.2; dsimp only at this; omega) (by have := hb.2; dsimp only at this; omega)
 unfold plV
 dsimp only
 generalize x + z = u at *
 generalize y + t = v at *
 simp only [encR, iv, bv] at g1 g2
 simp -implicitDefEqProofs (maxSteps:=9^8) only [Qf4, encV, Qdb, QbF, st8, ld8, ld80, ld84, g1, g2, go_sem, iv, bv, reduceCtorEq, ↓reduceIte, Nat.reduceEqDiff]
theorem QkH {k : Rat} {a : Vc} {K : Nat} (hK : K ≤ 100000000000) (hk : sz k ≤ K) (ha : SzV K a) : Qah G Qdl [encR k, encV a] = some (.d (encV (tmV k a))) := by
 rw [Qac (cf := Qfx) rfl]
 obtain ⟨x, y⟩ := a
 have g1 := Qcy (a := k) (b := x) (by omega) (by have := ha.1; dsimp only at this; omega)
 have g2 := Qcy (a := k) (b := y) (by omega) (by have := ha.2; dsimp only at this; omega)
 unfold tmV
 dsimp only
 generalize k * x = u at *
 generalize k * y = v at *
 simp only [encR, iv, bv] at g1 g2
 simp -implicitDefEqProofs (maxSteps:=9^8) only [Qfx, encV, encR, Qdb, QbF, st8, ld8, ld80, ld84, Qfn, g1, g2, go_sem, iv, bv, reduceCtorEq, ↓reduceIte, Nat.reduceEqDiff]
theorem QnV {d : Dr} {v : Vc} {K : Nat} (hK : K ≤ 1000000000) (hd : NmD d) (hv : SzV K v) : Qah G QfB [encD d, encV v] = some (.d (encR (dotR d v))) := by
 rw [Qac (cf := Qg3) rfl]
 have g1 := QaL hd.i1 Qhy
 have g2 := QaL hd.i2 Qhy
 rw [Qck] at g1 g2
 have n1 := QdG hd.i1
 have n2 := QdG hd.i2
 have k1 := hv.1
 have k2 := hv.2
 have g3 := Qcy (a := (d.1 : Rat)) (b := v.1) (by omega) (by omega)
 have g4 := Qcy (a := (d.2.1 : Rat)) (b := v.2) (by omega) (by omega)
 have h3 := Qec (a := (d.1 : Rat)) (b := v.1)
 have h4 := Qec (a := (d.2.1 : Rat)) (b := v.2)
 have g5 := Qdd (a := (d.1 : Rat) * v.1) (b := (d.2.1 : Rat) * v.2) (by omega) (by omega)
 have e : (d.1 : Rat) * v.1 + (d.2.1 : Rat) * v.2 = dotR d v := rfl
 rw [e] at g5
 generalize dotR d v = r at *
 generalize (d.1 : Rat) * v.1 = u1 at *
 generalize (d.2.1 : Rat) * v.2 = u2 at *
 clear n1 n2 h3 h4 k1 k2 e hv
 generalize (d.1 : Rat) = c1 at *
 generalize (d.2.1 : Rat) = c2 at *
 obtain ⟨x, y⟩ := v
 obtain ⟨a, b, c⟩ := d
 simp only [encR, iv, bv] at g1 g2 g3 g4 g5
 simp -implicitDefEqProofs (maxSteps:=9^8) only [Qg3, encD, cD, encV, encR, st4', Qfn, ld80, ld84, ld3_0, ld3_1, g1, g2, g3, g4, g5, go_sem, iv, bv, reduceCtorEq, ↓reduceIte, Nat.reduceEqDiff]
theorem QjY {e : Eg} {v : Vc} {K : Nat} (hK : K ≤ 1000000000) (he : AtE e) (hv : SzV K v) : Qah G Qcr [encG e, encV v] = some (.d (encR (rtR e.1 v))) := by
 rw [Qac (cf := Qgf) rfl]
 have g1 := QnV hK he.1 hv
 have g2 := QaL he.1.i3 Qhy
 rw [Qck] at g2
 have n1 := QdG he.1.i3
 have n2 := Qmx he.1 hv
 have g3 := QfR (a := dotR e.1 v) (b := (e.1.2.2 : Rat)) (by omega) (by omega)
 have ee : dotR e.1 v / (e.1.2.2 : Rat) = rtR e.1 v := rfl
 rw [ee] at g3
 generalize rtR e.1 v = r at *
 generalize dotR e.1 v = s at *
 clear n1 n2 ee he hv
 generalize (e.1.2.2 : Rat) = c1 at *
 obtain ⟨x, y⟩ := v
 obtain ⟨⟨a, b, c⟩, t⟩ := e
 simp only [encD, cD, encV, encR, iv, bv] at g1 g2 g3
 simp -implicitDefEqProofs (maxSteps:=9^8) only [Qgf, encG, cG, encV, encR, st4', Qfn, ld8, QrA, ld4_n2, Nat.zero_add, g1, g2, g3, go_sem, iv, bv, reduceCtorEq, ↓reduceIte, Nat.reduceEqDiff]
theorem QhT {e : Eg} {v : Vc} {K : Nat} (hK : K ≤ 1000000000) (he : AtE e) (hv : SzV K v) : Qah G Qb5 [encG e, encV v] = some (.d (encR (gpR e v))) := by
 rw [Qac (cf := Qg4) rfl]
 have g1 := QnV hK he.1 hv
 have g2 := QaL he.1.i3 Qhy
 have g4 := QaL he.2 Qhy
 rw [Qck] at g2 g4
 have n1 := QdG he.1.i3
 have n2 := Qmx he.1 hv
 have n3 := QdG he.2
 have n4 := sz_sub (a := dotR e.1 v) (b := (e.2 : Rat))
 have g5 := Qp3 (a := dotR e.1 v) (b := (e.2 : Rat)) (by omega) (by omega)
 have g3 := QfR (a := dotR e.1 v - (e.2 : Rat)) (b := (e.1.2.2 : Rat)) (by omega) (by omega)
 have ee : (dotR e.1 v - (e.2 : Rat)) / (e.1.2.2 : Rat) = gpR e v := rfl
 rw [ee] at g3
 generalize gpR e v = r at *
 generalize dotR e.1 v - (e.2 : Rat) = q at *
 generalize dotR e.1 v = s at *
 clear n1 n2 n3 n4 ee he hv
 generalize (e.1.2.2 : Rat) = c1 at *
 generalize (e.2 : Rat) = c2 at *
 obtain ⟨x, y⟩ := v
 obtain ⟨⟨a, b, c⟩, t⟩ := e
 simp only [encD, cD, encV, encR, iv, bv] at g1 g2 g3 g4 g5
 simp -implicitDefEqProofs (maxSteps:=9^8) only [Qg4, encG, cG, encV, encR, st4', Qfn, ld8, QrA, ld4_n2, ld4_n3, Nat.zero_add, g1, g2, g3, g4, g5, go_sem, iv, bv, reduceCtorEq, ↓reduceIte, Nat.reduceEqDiff]
theorem QiO {d : Dr} {v : Vc} {K : Nat} (hK : K ≤ 1000000000) (hd : NmD d) (hv : SzV K v) : Qah G Qgv [encD d, encV v] = some (.d (encR (rtR d v))) := by
 rw [Qac (cf := Qoj) rfl]
 have g1 := Qfb hd.i1 Qhy
 have g2 := Qfb hd.i2 Qhy
 have g6 := Qfb hd.i3 Qhy
 rw [Qck] at g1 g2 g6
 have n1 := QdG hd.i1
 have n2 := QdG hd.i2
 have n3 := QdG hd.i3
 have n4 := Qmx hd hv
 have k1 := hv.1
 have k2 := hv.2
 have g3 := Qfd (a := (d.1 : Rat)) (b := v.1) (by omega) (by omega)
 have g4 := Qfd (a := (d.2.1 : Rat)) (b := v.2) (by omega) (by omega)
 have h3 := Qec (a := (d.1 : Rat)) (b := v.1)
 have h4 := Qec (a := (d.2.1 : Rat)) (b := v.2)
 have g5 := Qjq (a := (d.1 : Rat) * v.1) (b := (d.2.1 : Rat) * v.2) (by omega) (by omega)
 have e : (d.1 : Rat) * v.1 + (d.2.1 : Rat) * v.2 = dotR d v := rfl
 rw [e] at g5
 have g7 := Ql4 (a := dotR d v) (b := (d.2.2 : Rat)) (by omega) (by omega)
 have ee : dotR d v / (d.2.2 : Rat) = rtR d v := rfl
 rw [ee] at g7
 generalize rtR d v = r at *
 generalize dotR d v = s at *
 generalize (d.1 : Rat) * v.1 = u1 at *
 generalize (d.2.1 : Rat) * v.2 = u2 at *
 clear n1 n2 n3 n4 h3 h4 k1 k2 e ee hv
 generalize (d.1 : Rat) = c1 at *
 generalize (d.2.1 : Rat) = c2 at *
 generalize (d.2.2 : Rat) = c3 at *
 obtain ⟨x, y⟩ := v
 obtain ⟨a, b, c⟩ := d
 simp only [encR, iv, bv] at g1 g2 g3 g4 g5 g6 g7
 simp -implicitDefEqProofs (maxSteps:=9^8) only [Qoj, encD, cD, encV, encR, st4', Qfn, ld80, ld84, ld3_0, ld3_1, ld3_2, g1, g2, g3, g4, g5, g6, g7, go_sem, iv, bv, reduceCtorEq, ↓reduceIte, Nat.reduceEqDiff]
theorem Qi3 {e : Eg} {v : Vc} {K : Nat} (hK : K ≤ 1000000000) (he : AtE e) (hv : SzV K v) : Qah G Qe6 [encG e, encV v] = some (.d (encR (gpR e v))) := by
 rw [Qac (cf := QqK) rfl]
 have g1 := QiO hK he.1 hv
 have g2 := Qfb he.2 he.1.i3
 have n1 := Qq0 he.2 he.1.i3
 have n2 := Qlb he.1 hv
 have g3 := Qqv (a := rtR e.1 v) (b := Rat.divInt e.2 e.1.2.2) (by omega) (by omega)
 rw [gp_alt] at g3
 generalize gpR e v = r at *
 generalize rtR e.1 v = s at *
 clear n1 n2 he hv
 generalize Rat.divInt e.2 e.1.2.2 = c1 at *
 obtain ⟨x, y⟩ := v
 obtain ⟨⟨a, b, c⟩, t⟩ := e
 simp only [encD, cD, encV, encR, iv, bv] at g1 g2 g3
 simp -implicitDefEqProofs (maxSteps:=9^8) only [QqK, encG, cG, encV, encR, st4', Qfn, ld8, QrA, ld4_n2, ld4_n3, Nat.zero_add, g1, g2, g3, go_sem, iv, bv, reduceCtorEq, ↓reduceIte, Nat.reduceEqDiff]
theorem QqH {e : Eg} {r v a : Vc} {K : Nat} (hK : K ≤ 1000000000) (he : AtE e) (hr : SzV K r) (hv : SzV K v) (ha : SzV K a) : ∃ d, RwR d (alP e r v a) ∧ Qah G QgY [encG e, encV r, encV v, encV a] = some (.d d) := by
 rw [Qac (cf := Qfs) rfl]
 have g1 := QhT hK he hr
 have g2 := QjY hK he hv
 have g3 := QjY hK he ha
 have g4 := QaL i64_2 Qhy
 rw [Qck, show ((2 : Int) : Rat) = 2 from rfl] at g4
 have n1 := Qlb he.1 ha
 have n2 := Qqc
 have g5 := QfR (a := rtR e.1 a) (b := 2) (by omega) (by omega)
 have hs := QsB he hr hv ha
 obtain ⟨d', hd', g6⟩ := Qgw (d := rowR (alL e r v a)) (l := alL e r v a) (.inr rfl) (by simp [alL]) (hs.mono (by omega))
 refine ⟨d', hd', ?_⟩
 unfold alL at g6
 clear hd' hs n1 n2
 generalize rtR e.1 a / 2 = q3 at *
 generalize rtR e.1 a = q4 at *
 generalize rtR e.1 v = q2 at *
 generalize gpR e r = q1 at *
 generalize (2 : Rat) = tw at *
 clear he hr hv ha
 obtain ⟨⟨a1, b1, c1⟩, t1⟩ := e
 obtain ⟨x1, y1⟩ := r
 obtain ⟨x2, y2⟩ := v
 obtain ⟨x3, y3⟩ := a
 simp only [encG, cG, encV, encR, rowR, cRs, List.cons_append, List.nil_append, List.length_cons, List.length_nil, Nat.zero_add, Nat.reduceAdd, iv, bv] at g1 g2 g3 g4 g5 g6
 simp -implicitDefEqProofs (maxSteps:=9^8) only [Qfs, encG, cG, encV, Qfn, ld8, rep3_4, g1, g2, g3, g4, g5, g6, go_sem, iv, bv, reduceCtorEq, ↓reduceIte, Nat.reduceEqDiff]
theorem Quj {e : Eg} {r v a : Vc} {K : Nat} (hK : K ≤ 1000000000) (he : AtE e) (hr : SzV K r) (hv : SzV K v) (ha : SzV K a) : ∃ d, RwR d (alP e r v a) ∧ Qah G Qmz [encG e, encV r, encV v, encV a] = some (.d d) := by
 rw [Qac (cf := Ql1) rfl]
 have g1 := Qi3 hK he hr
 have g2 := QiO hK he.1 hv
 have g3 := QiO hK he.1 ha
 have g4 := Qfb Qhy i64_2
 have n1 := Qlb he.1 ha
 have n2 := Qq0 Qhy i64_2
 have g5 := Qfd (a := rtR e.1 a) (b := Rat.divInt 1 2) (by omega) (by omega)
 rw [half_alt] at g5
 have hs := QsB he hr hv ha
 obtain ⟨d', hd', g6⟩ := Trim_spec (d := rowR (alL e r v a)) (l := alL e r v a) (.inr rfl) (by simp [alL])
 refine ⟨d', hd', ?_⟩
 unfold alL at g6
 clear hd' hs n1 n2
 generalize rtR e.1 a / 2 = q3 at *
 generalize rtR e.1 a = q4 at *
 generalize rtR e.1 v = q2 at *
 generalize gpR e r = q1 at *
 generalize Rat.divInt 1 2 = tw at *
 clear he hr hv ha
 obtain ⟨⟨a1, b1, c1⟩, t1⟩ := e
 obtain ⟨x1, y1⟩ := r
 obtain ⟨x2, y2⟩ := v
 obtain ⟨x3, y3⟩ := a
 simp only [encG, cG, encD, cD, encV, encR, rowR, cRs, List.cons_append, List.nil_append, List.length_cons, List.length_nil, Nat.zero_add, Nat.reduceAdd, iv, bv] at g1 g2 g3 g4 g5 g6
 simp -implicitDefEqProofs (maxSteps:=9^8) only [Ql1, encG, cG, encV, QrA, Qfn, ld8, rep3_4, g1, g2, g3, g4, g5, g6, go_sem, iv, bv, reduceCtorEq, ↓reduceIte, Nat.reduceEqDiff]
end Go.AM

/- convex: the small functions; Most. -/
namespace Go.AM
open Go Go.RowKit

def crI (a b c : Pt) : Int := (b.1 - a.1) * (c.2 - a.2) - (b.2 - a.2) * (c.1 - a.1)
theorem st2p (a b c d : A) : Qae 0 [a, b] [c, d] = some [a, b] := rfl
theorem ld2p (a b : D) : Qab (some 2) 0 [.d a, .d b] = some (.d (.agg [a, b])) := rfl
theorem QjX (a b : D) : Qab none 0 [.d a, .d b] = some (.d a) := rfl
theorem Qj3 (a b : D) : Qab none 1 [.d a, .d b] = some (.d b) := rfl
variable [Its]
end Go.AM

/- convex: Norm; searching rows of edges. -/
namespace Go.AM
open Go Go.RowKit

section
variable {α : Type} {en : α → List D} {es : Nat}
theorem RwE.cell {d : D} {l : List α} (h : RwE en d l) : QaN (.d d) = [.d d] := by rcases h with ⟨rfl, _⟩ | rfl <;> rfl
theorem RwE.onec {d : D} {l : List α} (h : RwE en d l) : A.one (.d d) = true := by rcases h with ⟨rfl, _⟩ | rfl <;> rfl
end
def fiE (p : Eg → Bool) (O : List Eg) : Nat → Nat → Int
 | 0, _ => -1
 | j + 1, i => if p (O.getD i default) then (i : Int) else fiE p O j (i + 1)
theorem fiE_any (p : Eg → Bool) (O : List Eg) : ∀ j i : Nat, i + j = O.length → (decide (fiE p O j i ≥ 0) = (O.drop i).any p)
 | 0, i, h => by rw [List.drop_eq_nil_of_le (by omega)]; rfl
 | j + 1, i, h => by
  have hi : i < O.length := by omega
  rw [Qen hi, List.any_cons, fiE]
  cases hp : p (O.getD i default) with
  | true => simp
  | false => simp only [Bool.false_eq_true, if_false, Bool.false_or]; exact fiE_any p O j (i + 1) (by omega)
variable [Its]
/-! ### Searching -/
section
variable {d : D} {O : List Eg} {f : Nat} {caps : List D} {p : Eg → Bool}
def QjN (d : D) (f : Nat) (caps : List D) (n i : Int) : St := mkS [(0, .d d), (1, .d (.fn f caps)), (7, ai n), (8, ai i)] []
theorem ixE_no (hr : RwE cG d O) (hn : O.length ≤ 1000000) {i : Nat} (hi : i < O.length) (hf : Qah G f (encG (O.getD i default) :: caps) = some (.d (bv false))) : X G Qap (QjN d f caps O.length i) = some (.n, QjN d f caps O.length ((i + 1 : Nat) : Int)) := by
 have e1 : decide ((i : Int) < (O.length : Int)) = true := lt_t (by omega)
 have e2 : w64 ((i : Int) + 1) = ((i + 1 : Nat) : Int) := by rw [Qad (by omega) (by omega)]; rfl
 have x1 := hr.ixa QeM hi
 have x2 := fun hp => ldE QeM hp hi
 generalize O.getD i default = e at *
 obtain ⟨⟨a, b, c⟩, t⟩ := e
 simp only [encG, cG, iv, bv] at hf x2
 simp -implicitDefEqProofs (maxSteps:=9^8) only [Qap, QjN, x1, x2, e1, e2, hf, List.cons_append, List.nil_append, go_sem, iv, bv, reduceCtorEq, ↓reduceIte, Nat.reduceEqDiff]
theorem ixE_yes (hr : RwE cG d O) (hn : O.length ≤ 1000000) {i : Nat} (hi : i < O.length) (hf : Qah G f (encG (O.getD i default) :: caps) = some (.d (bv true))) : X G Qap (QjN d f caps O.length i) = some (.r, mkS [(4, ai i)] []) := by
 have e1 : decide ((i : Int) < (O.length : Int)) = true := lt_t (by omega)
 have x1 := hr.ixa QeM hi
 have x2 := fun hp => ldE QeM hp hi
 generalize O.getD i default = e at *
 obtain ⟨⟨a, b, c⟩, t⟩ := e
 simp only [encG, cG, iv, bv] at hf x2
 simp -implicitDefEqProofs (maxSteps:=9^8) only [Qap, QjN, x1, x2, e1, hf, List.cons_append, List.nil_append, go_sem, iv, bv, reduceCtorEq, ↓reduceIte, Nat.reduceEqDiff]
theorem ixE_stop : X G Qap (QjN d f caps O.length O.length) = some (.x 0, mkS [] []) := by
 have e1 : decide ((O.length : Int) < (O.length : Int)) = false := lt_f (by omega)
 simp -implicitDefEqProofs (maxSteps:=9^8) only [Qap, QjN, e1, go_sem, iv, bv, reduceCtorEq, ↓reduceIte, Nat.reduceEqDiff]
theorem Qr4      (hr : RwE cG d O) (hn : O.length ≤ 1000000) (hf : ∀ i, i < O.length → Qah   G f (encG (O.getD i default) :: caps) = some (.d (bv (p (O.getD i default))))) : ∀ j i : Nat, i + j = O.length →
    X G (.loop Qap) (QjN d f caps O.length i) = (if fiE p O j i = -1 then some (.x 0, mkS [] []) else some (.r, mkS [(4, ai (fiE p O j i))] []))
  | 0, i, h => by
    have : i = O.length := by omega
    subst this
    rw [Qag, ixE_stop]; rfl
  | j + 1, i, h => by
    have hi : i < O.length := by omega
    have hh := hf i hi
    rw [fiE]
    cases hp : p (O.getD i default) with
    | true =>
      rw [hp] at hh
      rw [Qag, ixE_yes hr hn hi hh, if_pos rfl, if_neg (by omega)]; rfl
    | false =>
      rw [hp] at hh
      simp only [Bool.false_eq_true, if_false]
      rw [Qag, ixE_no hr hn hi hh, Option.bind_some, if_pos rfl]
      exact Qr4 hr hn hf j (i + 1) (by omega)
theorem QmX (hr : RwE cG d O) (hn : O.length ≤ 1000000) (hf : ∀ i, i < O.length → Qah G f (encG (O.getD i default) :: caps) = some (.d (bv (p (O.getD i default))))) : Qah G QbC [d, .fn f caps] = some (.d (iv (fiE p O O.length 0))) := by
 rw [Qac (cf := Qa7) rfl]
 have ll := hr.len
 have h := Qr4 hr hn hf O.length 0 (by omega)
 simp only [QjN, go_sem, nc0] at h
 generalize fiE p O O.length 0 = z at *
 by_cases hz : z = -1
 ·subst hz
  simp only [if_true] at h
  simp -implicitDefEqProofs (maxSteps:=9^8) only [Qa7, h, ll, go_sem, iv, bv, reduceCtorEq, ↓reduceIte, Nat.reduceEqDiff]
 ·rw [if_neg hz] at h
  simp -implicitDefEqProofs (maxSteps:=9^8) only [Qa7, h, ll, go_sem, iv, bv, reduceCtorEq, ↓reduceIte, Nat.reduceEqDiff]
end
theorem Qnk {d : D} {O : List Eg} {f : Nat} {caps : List D} {p : Eg → Bool} (hr : RwE cG d O) (hn : O.length ≤ 1000000) (hf : ∀ i, i < O.length → Qah G f (encG (O.getD i default) :: caps) = some (.d (bv (p (O.getD i default))))) : Qah G QaK [d, .fn f caps] = some (.d (bv (O.any p))) := by
 rw [Qac (cf := Qbr) rfl]
 have g := QmX hr hn hf
 have e1 := fiE_any p O O.length 0 (by omega)
 rw [List.drop_zero] at e1
 generalize fiE p O O.length 0 = z at *
 generalize O.any p = t at *
 simp only [iv] at g
 simp -implicitDefEqProofs (maxSteps:=9^8) only [Qbr, g, e1, go_sem, iv, bv, reduceCtorEq, ↓reduceIte, Nat.reduceEqDiff]
end Go.AM

