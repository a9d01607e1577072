/- Part 10 of the proof: a small machine, its soundness against the model, and what the program's functions compute on it. -/
import Derived.Test.YtfdelaplhpmneaaGreatM9
import Derived.Test.YtfdelaplhpmneaaGreatM7
import Derived.KernelRfl
import Derived.Test.YtfdelaplhpmneaaGreatM8
set_option linter.unusedVariables false
set_option linter.unusedSimpArgs false
/- gap: Stays, Free, Meet, greatest, Best, Contact. -/
namespace Go.AM
open Go Go.RowKit
def veR (p : List Rat) : Rat := -(p.getD 1 0) / (p.getD 2 0 * 2)
def staG (p : List Rat) : Bool :=
 if decide (evR p 0 < 0) || decide (evR p 1 < 0) then false
 else if decide (p.length < 3) || decide (p.getD 2 0 < 0) then true
 else decide (veR p ≤ 0) || decide (1 ≤ veR p) || decide (0 ≤ evR p (veR p))
theorem sign_le {x : Rat} : decide (Int.sign x.num ≤ 0) = decide (x ≤ 0) := by
 have h := Qkx (x := x)
 rw [Bool.eq_iff_iff, decide_eq_true_iff, decide_eq_true_iff] at *
 constructor
 ·intro h1
  exact Rat.not_lt.1 fun h2 => by have := h.2 h2; omega
 ·intro h1
  exact Int.not_lt.1 fun h2 => Rat.not_lt.2 h1 (h.1 h2)
theorem cmpR_ge {a b : Rat} : decide (cmpR a b ≥ 0) = decide (b ≤ a) := by
 have h := cmpR_lt (a := a) (b := b)
 rw [Bool.eq_iff_iff, decide_eq_true_iff, decide_eq_true_iff]
 constructor
 ·intro h1
  exact Rat.not_lt.1 fun h2 => by have := h.2 h2; omega
 ·intro h1
  exact Int.not_lt.1 fun h2 => Rat.not_lt.2 h1 (h.1 h2)
theorem Qox {a b : Rat} : decide (cmpR a b > 0) = decide (b < a) := by
 have h := cmpR_le (a := a) (b := b)
 rw [Bool.eq_iff_iff, decide_eq_true_iff, decide_eq_true_iff]
 constructor
 ·intro h1
  exact Rat.not_le.1 fun h2 => by have := h.2 h2; omega
 ·intro h1
  exact Int.not_le.1 fun h2 => Rat.not_le.2 h1 (h.1 h2)
theorem tupG : A.bool? (.d (.v (.tuple #[]))) = none := rfl
theorem box4g (a b c d : D) : Qae 0 [.d a, .d b, .d c, .d d] [.d (.v (.int .i64 0)), .d (.v (.int .i64 0)), .d (.v (.int .i64 0)), .d (.v (.int .i64 0))] = some [.d a, .d b, .d c, .d d] := rfl
theorem QoY {x : Rat} : (Int.sign x.num == 0) = decide (x = 0) := by
 rw [Bool.eq_iff_iff, beq_iff_eq, decide_eq_true_iff, Int.sign_eq_zero_iff_zero]
 exact Rat.num_eq_zero
def grS (f : Eg → Rat × Bool) (O : List Eg) : Nat → Int × Rat
 | 0 => (-1, 0)
 | i + 1 => if (f (O.getD i default)).2 && (decide ((grS f O i).1 < 0) || decide ((grS f O i).2 < (f (O.getD i default)).1)) then ((i : Int), (f (O.getD i default)).1) else grS f O i
def bxR4 (q : Rat) : Obj := ⟨0, 0, [.d (.v (.bool (decide (q.num < 0)))), .d (dg (digs q.num.natAbs)), .d (.v (.bool false)), .d (dg (dd q.den))], false⟩
def Qjh (d : D) (f : Nat) (caps : List D) (b : Int) (q : Rat) (n i : Int) : St := mkS [(1, .d (.fn f caps)), (5, ai b), (6, .ptr [6] 0), (11, .d d), (12, ai n), (13, ai i)] [([6], bxR4 q)]
theorem grS_sz {f : Eg → Rat × Bool} {O : List Eg} {K : Nat} (hK : 1 ≤ K) (h : ∀ i, i < O.length → sz (f (O.getD i default)).1 ≤ K) : ∀ i, i ≤ O.length → sz (grS f O i).2 ≤ K
 | 0, _ => by rw [grS, QeF]; exact hK
 | i + 1, hi => by
  rw [grS]
  split
  ·exact h i (by omega)
  ·exact grS_sz hK h i (by omega)
theorem ixp2 {d : D} {l : List Rat} (hr : RwR d l) (h : 2 < l.length) (hp : Hp) : ixaA hp 4 2 (.d d) = some (.d (.rp (cRs (l.drop 2)))) := hr.ixa (j := 2) h hp
theorem ixp1 {d : D} {l : List Rat} (hr : RwR d l) (h : 1 < l.length) (hp : Hp) : ixaA hp 4 1 (.d d) = some (.d (.rp (cRs (l.drop 1)))) := hr.ixa (j := 1) h hp
theorem ldV8 (hp : Hp) (a b c d e f g h : D) : QcY hp (some 8) (.d (.rp [a, b, c, d, e, f, g, h])) = some (.d (.agg [a, b, c, d, e, f, g, h])) := rfl
def cV (v : Vc) : List D := [.v (.bool (decide (v.1.num < 0))), dg (digs v.1.num.natAbs), .v (.bool false), dg (dd v.1.den), .v (.bool (decide (v.2.num < 0))), dg (digs v.2.num.natAbs), .v (.bool false), dg (dd v.2.den)]
theorem i64_2' : I64 2 := ⟨by omega, by omega⟩
theorem egm {l : List Eg} {i : Nat} (h : i < l.length) : l.getD i default ∈ l := by rw [List.getD_eq_getElem?_getD, List.getElem?_eq_getElem h]; exact List.getElem_mem h
section
variable [Its]
theorem QqO [ItsB] {d : D} {p : List Rat} {K : Nat} (hr : RwR d p) (sp : SzL K p) (hK1 : 3 ≤ K) (hK : K ≤ 100000000) (hl : p.length ≤ 3) (ht : Trm p) : Qah G Qmo [d] = some (.d (bv (staG p))) := by
 rw [Qac (cf := QdL) rfl]
 have sl : ∀ q ∈ p, sz q ≤ 3 * K := fun q hq => by have := sp q hq; omega
 have s0 : sz 0 ≤ 3 * K := by rw [QeF]; omega
 have s1 : sz 1 ≤ 3 * K := by rw [Qgh]; omega
 have hb : p.length * (2 * (3 * K) + 1) ≤ 3 * (2 * (3 * K) + 1) := Nat.mul_le_mul_right _ hl
 have g0 := Ql8 hr s0 (by omega) sl (by omega)
 have g1 := Ql8 hr s1 (by omega) sl (by omega)
 have o1 := Qfb Qhy Qhy
 rw [Qck, show ((1 : Int) : Rat) = 1 from rfl] at o1
 have h0 := Qbu (evR p 0)
 have h1 := Qbu (evR p 1)
 have t0 := QfE (x := evR p 0)
 have t1 := QfE (x := evR p 1)
 have ll := hr.len
 unfold staG
 rw [Qdv] at g0
 have tc : decide (cmpR (veR p) 1 ≥ 0) = decide (1 ≤ veR p) := cmpR_ge
 by_cases h3 : 2 < p.length
 ·have hlen : p.length = 3 := by omega
  have nz : p.getD 2 0 ≠ 0 := ht 2 hlen
  have x1 := ixp1 hr (by omega)
  have x2 := ixp2 hr h3
  have y1 := fun hp => ldR hp p (j := 1) (by omega)
  have y2 := fun hp => ldR hp p (j := 2) (by omega)
  have z1 := sp.getD (by omega) 1
  have z2 := sp.getD (by omega) 2
  have o2 := Qfb i64_2' Qhy
  rw [Qck, show ((2 : Int) : Rat) = 2 from rfl] at o2
  have n1 := Qms (p.getD 1 0)
  have k2 := Qqc
  have n2 := Qfd (a := p.getD 2 0) (b := 2) (by omega) (by omega)
  have k3 := Qec (a := p.getD 2 0) (b := 2)
  have k4 := Qno (p.getD 1 0)
  have n3 := Ql4 (a := -(p.getD 1 0)) (b := p.getD 2 0 * 2) (by omega) (by omega)
  have k5 := Qin (a := -(p.getD 1 0)) (b := p.getD 2 0 * 2)
  have ev : -(p.getD 1 0) / (p.getD 2 0 * 2) = veR p := rfl
  rw [ev] at n3 k5
  have g3 := Ql8 (x := veR p) (K := 3 * K) hr (by omega) (by omega) sl (by omega)
  have h2 := Qbu (p.getD 2 0)
  have t2 := QfE (x := p.getD 2 0)
  have h4 := Qbu (veR p)
  have t4 := sign_le (x := veR p)
  have h5 := QiB (a := veR p) (b := 1) (by omega) (by omega)
  have h6 := Qbu (evR p (veR p))
  have t6 := QmV (x := evR p (veR p))
  have tl : decide (((p.length : Nat) : Int) < 3) = false := lt_f (by omega)
  have tl2 : decide (p.length < 3) = false := decide_eq_false (by omega)
  rw [tl2]
  clear ev k2 k3 k4 k5 z1 z2 nz hlen h3 hb sl sp hr s0 s1 tl2
  generalize decide (evR p 0 < 0) = b0 at *
  generalize decide (evR p 1 < 0) = b1 at *
  generalize decide (p.getD 2 0 < 0) = b2 at *
  generalize decide (veR p ≤ 0) = b4 at *
  generalize decide (1 ≤ veR p) = b5 at *
  generalize decide (0 ≤ evR p (veR p)) = b6 at *
  generalize cmpR (veR p) 1 = c5 at *
  generalize evR p (veR p) = r6 at *
  generalize veR p = r4 at *
  generalize evR p 0 = r0 at *
  generalize evR p 1 = r1 at *
  generalize p.getD 2 0 * 2 = r7 at *
  generalize p.getD 2 0 = r8 at *
  generalize -(p.getD 1 0) = r9 at *
  generalize p.getD 1 0 = r10 at *
  simp only [encR, iv, bv] at *
  cases b0 with
  | true => simp -implicitDefEqProofs (maxSteps:=9^8) only [QdL, o1, g0, h0, t0, st4', Qfn, decide_true, decide_false, tupG, Qdb, QbF, Bool.true_or, if_true, Qaa, go_sem, iv, bv, reduceCtorEq, ↓reduceIte, Nat.reduceEqDiff]
  | false =>
   cases b1 with
   | true => simp -implicitDefEqProofs (maxSteps:=9^8) only [QdL, o1, g0, g1, h0, h1, t0, t1, st4', Qfn, decide_true, decide_false, tupG, Qdb, QbF, Bool.false_or, if_true, Qaa, go_sem, iv, bv, reduceCtorEq, ↓reduceIte, Nat.reduceEqDiff]
   | false =>
    cases b2 with
    | true => simp -implicitDefEqProofs (maxSteps:=9^8) only [QdL, o1, g0, g1, h0, h1, h2, t0, t1, t2, tl, ll, x2, y2, st4', Qfn, decide_true, decide_false, tupG, Qdb, QbF, Bool.false_or, Bool.or_self, Bool.false_eq_true, if_false, if_true, Qaa, go_sem, iv, bv, reduceCtorEq, ↓reduceIte, Nat.reduceEqDiff]
    | false =>
     cases b4 with
     | true => simp -implicitDefEqProofs (maxSteps:=9^8) only [QdL, o1, o2, g0, g1, h0, h1, h2, h4, t0, t1, t2, t4, tl, ll, x1, x2, y1, y2, n1, n2, n3, st4', Qfn, decide_true, decide_false, tupG, Qdb, QbF, Bool.true_or, Bool.false_or, Bool.or_self, Bool.false_eq_true, if_false, if_true, Qaa, go_sem, iv, bv, reduceCtorEq, ↓reduceIte, Nat.reduceEqDiff]
     | false =>
      cases b5 with
      | true => simp -implicitDefEqProofs (maxSteps:=9^8) only [QdL, o1, o2, g0, g1, h0, h1, h2, h4, h5, t0, t1, t2, t4, tc, tl, ll, x1, x2, y1, y2, n1, n2, n3, st4', Qfn, decide_true, decide_false, tupG, Qdb, QbF, Bool.true_or, Bool.false_or, Bool.or_self, Bool.false_eq_true, if_false, if_true, Qaa, go_sem, iv, bv, reduceCtorEq, ↓reduceIte, Nat.reduceEqDiff]
      | false => simp -implicitDefEqProofs (maxSteps:=9^8) only [QdL, o1, o2, g0, g1, g3, h0, h1, h2, h4, h5, h6, t0, t1, t2, t4, t6, tc, tl, ll, x1, x2, y1, y2, n1, n2, n3, st4', Qfn, decide_true, decide_false, tupG, Qdb, QbF, Bool.true_or, Bool.false_or, Bool.or_self, Bool.false_eq_true, if_false, if_true, Qaa, go_sem, iv, bv, reduceCtorEq, ↓reduceIte, Nat.reduceEqDiff]
 ·have tl : decide (((p.length : Nat) : Int) < 3) = true := lt_t (by omega)
  have tl2 : decide (p.length < 3) = true := decide_eq_true (by omega)
  rw [tl2]
  clear hb sl sp hr s0 s1 tl2 tc
  generalize decide (evR p 0 < 0) = b0 at *
  generalize decide (evR p 1 < 0) = b1 at *
  generalize evR p 0 = r0 at *
  generalize evR p 1 = r1 at *
  simp only [encR, iv, bv] at *
  cases b0 with
  | true => simp -implicitDefEqProofs (maxSteps:=9^8) only [QdL, o1, g0, h0, t0, st4', Qfn, decide_true, decide_false, tupG, Qdb, QbF, Bool.true_or, if_true, Qaa, go_sem, iv, bv, reduceCtorEq, ↓reduceIte, Nat.reduceEqDiff]
  | false =>
   cases b1 with
   | true => simp -implicitDefEqProofs (maxSteps:=9^8) only [QdL, o1, g0, g1, h0, h1, t0, t1, st4', Qfn, decide_true, decide_false, tupG, Qdb, QbF, Bool.false_or, if_true, Qaa, go_sem, iv, bv, reduceCtorEq, ↓reduceIte, Nat.reduceEqDiff]
   | false => simp -implicitDefEqProofs (maxSteps:=9^8) only [QdL, o1, g0, g1, h0, h1, t0, t1, tl, ll, st4', Qfn, decide_true, decide_false, tupG, Qdb, QbF, Bool.true_or, Bool.false_or, Bool.or_self, Bool.false_eq_true, if_false, if_true, Qaa, go_sem, iv, bv, reduceCtorEq, ↓reduceIte, Nat.reduceEqDiff]
theorem Qum [ItsB] {e : Eg} {r v a : Vc} {K : Nat} (hK : K ≤ 10000000) (he : AtE e) (hr : SzV K r) (hv : SzV K v) (ha : SzV K a) : Qah G QiI [encG e, .rp (cV r), .rp (cV v), .rp (cV a)] = some (.d (bv (staG (alP e r v a)))) := by
 rw [Qac (cf := QkU) rfl]
 obtain ⟨d', hd', g1⟩ := Quj (by omega) he hr hv ha
 have hs := (QsB he hr hv ha).trim
 have hln : (alP e r v a).length ≤ 3 := Nat.le_trans (QfK _) (by simp [alL])
 have g2 := QqO hd' (hs.mono (L := 2 * K + 14) (by omega)) (by omega) (by omega) hln (Qco _)
 generalize staG (alP e r v a) = t at *
 clear hs hln hd' he hr hv ha
 obtain ⟨⟨a1, b1, c1⟩, t1⟩ := e
 obtain ⟨x1, y1⟩ := r
 obtain ⟨x2, y2⟩ := v
 obtain ⟨x3, y3⟩ := a
 simp only [encG, cG, encV, iv, bv] at g1 g2
 simp -implicitDefEqProofs (maxSteps:=9^8) only [QkU, encG, cG, cV, ldV8, g1, g2, Qfn, go_sem, iv, bv, reduceCtorEq, ↓reduceIte, Nat.reduceEqDiff]
theorem QlL [ItsB] {d : D} {O : List Eg} {r v a : Vc} {K : Nat} (hO : RwE cG d O) (hn : O.length ≤ 1000) (hK : K ≤ 10000000) (he : ∀ e ∈ O, AtE e) (hr : SzV K r) (hv : SzV K v) (ha : SzV K a) : Qah G Qd7 [d, encV r, encV v, encV a] = some (.d (iv (fiE (fun e => staG (alP e r v a)) O O.length 0))) := by
 rw [Qac (cf := QoR) rfl]
 have g := QmX (f := QiI) (caps := [.rp (cV r), .rp (cV v), .rp (cV a)]) (p := fun e => staG (alP e r v a)) hO (by omega) (fun i hi => Qum hK (he _ (egm hi)) hr hv ha)
 generalize fiE _ O O.length 0 = z at *
 clear hr hv ha
 obtain ⟨x1, y1⟩ := r
 obtain ⟨x2, y2⟩ := v
 obtain ⟨x3, y3⟩ := a
 simp only [cV, iv] at g
 simp -implicitDefEqProofs (maxSteps:=9^8) only [QoR, encV, g, toDs, allD, snap, QdA, go_sem, iv, bv, reduceCtorEq, ↓reduceIte, Nat.reduceEqDiff]
theorem Qub {e : Eg} {r : Vc} {K : Nat} (hK : K ≤ 10000000) (he : AtE e) (hr : SzV K r) : Qah G QiS [encG e, .rp (cV r)] = some (.d (bv (decide (0 ≤ gpR e r)))) := by
 rw [Qac (cf := Qky) rfl]
 have g1 := Qi3 (by omega) he hr
 have g2 := Qbu (gpR e r)
 rw [← QmV]
 generalize gpR e r = q at *
 generalize Int.sign q.num = s at *
 clear he hr
 obtain ⟨⟨a1, b1, c1⟩, t1⟩ := e
 obtain ⟨x1, y1⟩ := r
 simp only [encG, cG, encV, encR, iv, bv] at g1 g2
 simp -implicitDefEqProofs (maxSteps:=9^8) only [Qky, encG, cG, cV, ldV8, g1, g2, Qfn, go_sem, iv, bv, reduceCtorEq, ↓reduceIte, Nat.reduceEqDiff]
def meG (O : List Eg) (r : Vc) : Bool := !(O.any fun e => decide (0 ≤ gpR e r))
theorem Qqg {d : D} {O : List Eg} {r : Vc} {K : Nat} (hO : RwE cG d O) (hn : O.length ≤ 1000) (hK : K ≤ 10000000) (he : ∀ e ∈ O, AtE e) (hr : SzV K r) : Qah G QfH [d, encV r] = some (.d (bv (meG O r))) := by
 rw [Qac (cf := QoC) rfl]
 have g := Qnk (f := QiS) (caps := [.rp (cV r)]) (p := fun e => decide (0 ≤ gpR e r)) hO (by omega) (fun i hi => Qub hK (he _ (egm hi)) hr)
 unfold meG
 generalize O.any _ = z at *
 clear hr
 obtain ⟨x1, y1⟩ := r
 simp only [cV, iv, bv] at g
 simp -implicitDefEqProofs (maxSteps:=9^8) only [QoC, encV, g, toDs, allD, snap, QdA, go_sem, iv, bv, reduceCtorEq, ↓reduceIte, Nat.reduceEqDiff]
section
variable {d : D} {O : List Eg} {f : Nat} {caps : List D} {F : Eg → Rat × Bool} {K : Nat}
theorem grt_go (hr : RwE cG d O) (hn : O.length ≤ 1000) (hK : K ≤ 10000000000) (hf : ∀ i, i < O.length → Qah   G f (encG (O.getD i default) :: caps) = some (.d (.tup [encR (F (O.getD i default)).1, bv (F (O.getD i default)).2])) ∧ sz (F (O.getD i default)).1 ≤ K) {b : Int} {q : Rat} (hq : sz q ≤ K) {i : Nat} (hi : i < O.length) :
    X G QaF (Qjh d f caps b q O.length i) = some (.n, if (F (O.getD i default)).2 && (decide (b < 0) || decide (q < (F (O.getD i default)).1)) then Qjh d f caps i (F (O.getD i default)).1 O.length ((i + 1 : Nat) : Int) else Qjh d f caps b q O.length ((i + 1 : Nat) : Int)) := by
  have e1 : decide ((i : Int) < (O.length : Int)) = true := lt_t (by omega)
  have e2 : w64 ((i : Int) + 1) = ((i + 1 : Nat) : Int) := by rw [Qad (by omega) (by omega)]; rfl
  have x1 := hr.ixa QeM hi
  have x2 := fun hp => ldE QeM hp hi
  obtain ⟨g, hz⟩ := hf i hi
  clear hf
  generalize O.getD i default = e at *
  have c1 := QiB (a := (F e).1) (b := q) (by omega) (by omega)
  have c2 := Qox (a := (F e).1) (b := q)
  generalize (F e).2 = h at *
  generalize (F e).1 = y at *
  generalize decide (q < y) = u at *
  generalize cmpR y q = c at *
  clear hz hq
  obtain ⟨⟨e1', e2', e3'⟩, e4'⟩ := e
  simp only [encG, cG, encR, iv, bv] at x2 g c1
  cases h with
  | false =>
    simp -implicitDefEqProofs (maxSteps:=9^8) only [QaF, Qjh, bxR4, e1, e2, x1, x2, g, st4', Qfn, box4g, List.cons_append, List.nil_append, decide_true, decide_false, tupG, Bool.false_and, Bool.false_eq_true, if_false, Qaa, go_sem, iv, bv, reduceCtorEq, ↓reduceIte, Nat.reduceEqDiff]
  | true =>
    by_cases hb : b < 0
    · have t1 : decide (b < 0) = true := lt_t hb
      simp -implicitDefEqProofs (maxSteps:=9^8) only [QaF, Qjh, bxR4, e1, e2, t1, x1, x2, g, st4', Qfn, box4g, List.cons_append, List.nil_append, decide_true, decide_false, tupG, Bool.true_or, Bool.and_self, Bool.true_and, if_true, Qaa, go_sem, iv, bv, reduceCtorEq, ↓reduceIte, Nat.reduceEqDiff]
    · have t1 : decide (b < 0) = false := lt_f (by omega)
      cases u
      all_goals simp -implicitDefEqProofs (maxSteps:=9^8) only [QaF, Qjh, bxR4, e1, e2, t1, x1, x2, g, c1, c2, st4', Qfn, box4g, List.cons_append, List.nil_append, decide_true, decide_false, tupG, Bool.false_or, Bool.and_self, Bool.true_and, Bool.and_false, Bool.false_eq_true, if_false, if_true, Qaa, go_sem, iv, bv, reduceCtorEq, ↓reduceIte, Nat.reduceEqDiff]
theorem grt_stop {b : Int} {q : Rat} : X G QaF (Qjh d f caps b q O.length O.length) = some (.x 0, mkS [(5, ai b)] []) := by
 have e1 : decide ((O.length : Int) < (O.length : Int)) = false := lt_f (by omega)
 simp -implicitDefEqProofs (maxSteps:=9^8) only [QaF, Qjh, bxR4, e1, Qaa, go_sem, iv, bv, reduceCtorEq, ↓reduceIte, Nat.reduceEqDiff]
theorem Qs9      (hr : RwE cG d O) (hn : O.length ≤ 1000) (hK1 : 1 ≤ K) (hK : K ≤ 10000000000) (hf : ∀ i, i < O.length → Qah   G f (encG (O.getD i default) :: caps) = some (.d (.tup [encR (F (O.getD i default)).1, bv (F (O.getD i default)).2])) ∧ sz (F (O.getD i default)).1 ≤ K) : ∀ (j i : Nat), i + j = O.length →
    X G (.loop QaF) (Qjh d f caps (grS F O i).1 (grS F O i).2 O.length i) = some (.x 0, mkS [(5, ai (grS F O O.length).1)] [])
  | 0, i, h => by
    have : i = O.length := by omega
    subst this
    rw [Qag, grt_stop]; rfl
  | j + 1, i, h => by
    have ih := Qs9 hr hn hK1 hK hf j (i + 1) (by omega)
    rw [Qag, grt_go hr hn hK hf (grS_sz hK1 (fun i hi => (hf i hi).2) i (by omega)) (by omega), Option.bind_some, if_pos rfl, ← ih, grS]
    split <;> rfl
theorem Qnb        (hr : RwE cG d O) (hn : O.length ≤ 1000) (hK1 : 1 ≤ K) (hK : K ≤ 10000000000) (hf : ∀ i, i < O.length → Qah   G f (encG (O.getD i default) :: caps) = some (.d (.tup [encR (F (O.getD i default)).1, bv (F (O.getD i default)).2])) ∧ sz (F (O.getD i default)).1 ≤ K) :
    Qah G Qdp [d, .fn f caps] = some (.d (iv (grS F O O.length).1)) := by
  rw [Qac (cf := QdR) rfl]
  have ll := hr.len
  have g := Qs9 hr hn hK1 hK hf O.length 0 (by omega)
  have e0 : grS F O 0 = (-1, 0) := rfl
  have e1 : bxR4 0 = ⟨0, 0, [.d (.v (.bool false)), .d (.z true), .d (.v (.bool false)), .d (.z true)], false⟩ := by
    have := Qdv
    simp only [encR, D.agg.injEq, List.cons.injEq] at this
    obtain ⟨h1, h2, h3, h4, _⟩ := this
    unfold bxR4
    rw [h1, h2, h4]
  rw [e0] at g
  simp only [Qjh, e1, nc0, go_sem] at g
  generalize (grS F O O.length).1 = z at *
  simp -implicitDefEqProofs (maxSteps:=9^8) only [QdR, g, ll, Qaa, go_sem, iv, bv, reduceCtorEq, ↓reduceIte, Nat.reduceEqDiff]
end
theorem Qtk {e : Eg} {r v : Vc} {K : Nat} (hK : K ≤ 10000000) (he : AtE e) (hr : SzV K r) (hv : SzV K v) : Qah G QiJ [encG e, .rp (cV v), .rp (cV r)] = some (.d (.tup [encR (gpR e v), bv (decide (0 ≤ gpR e r))])) := by
 rw [Qac (cf := QkL) rfl]
 have g1 := Qi3 (by omega) he hr
 have g3 := Qi3 (by omega) he hv
 have g2 := Qbu (gpR e r)
 rw [← QmV]
 generalize gpR e v = q2 at *
 generalize gpR e r = q at *
 generalize Int.sign q.num = s at *
 clear he hr hv
 obtain ⟨⟨a1, b1, c1⟩, t1⟩ := e
 obtain ⟨x1, y1⟩ := r
 obtain ⟨x2, y2⟩ := v
 simp only [encG, cG, encV, encR, iv, bv] at g1 g2 g3
 simp -implicitDefEqProofs (maxSteps:=9^8) only [QkL, encG, cG, cV, encR, ldV8, g1, g2, g3, Qfn, st4', allD, toDs, go_sem, iv, bv, reduceCtorEq, ↓reduceIte, Nat.reduceEqDiff]
def beG (O : List Eg) (r v : Vc) : Int := (grS (fun e => (gpR e v, decide (0 ≤ gpR e r))) O O.length).1
theorem Qqp {d : D} {O : List Eg} {r v : Vc} {K : Nat} (hO : RwE cG d O) (hn : O.length ≤ 1000) (hK : K ≤ 10000000) (he : ∀ e ∈ O, AtE e) (hr : SzV K r) (hv : SzV K v) : Qah G QhH [d, encV r, encV v] = some (.d (iv (beG O r v))) := by
 rw [Qac (cf := Qoe) rfl]
 have g := Qnb (f := QiJ) (caps := [.rp (cV v), .rp (cV r)]) (F := fun e => (gpR e v, decide (0 ≤ gpR e r))) (K := 2 * K + 14) hO hn (by omega) (by omega) (fun i hi => ⟨Qtk hK (he _ (egm hi)) hr hv, QlQ (he _ (egm hi)) hv⟩)
 have e : (grS (fun e => (gpR e v, decide (0 ≤ gpR e r))) O O.length).1 = beG O r v := rfl
 rw [e] at g
 generalize beG O r v = z at *
 clear hr hv e
 obtain ⟨x1, y1⟩ := r
 obtain ⟨x2, y2⟩ := v
 simp only [cV, iv] at g
 simp -implicitDefEqProofs (maxSteps:=9^8) only [Qoe, encV, g, toDs, allD, snap, QdA, go_sem, iv, bv, reduceCtorEq, ↓reduceIte, Nat.reduceEqDiff]
def opB (r v : Vc) (e : Eg) : Bool := decide (0 < gpR e r) || (decide (gpR e r = 0) && decide (0 < rtR e.1 v))
theorem QtO {e : Eg} {r v : Vc} {K : Nat} (hK : K ≤ 10000000) (he : AtE e) (hr : SzV K r) (hv : SzV K v) : Qah G QgC [encG e, .rp (cV r), .rp (cV v)] = some (.d (bv (opB r v e))) := by
  rw [Qac (cf := Qgp) rfl]
  have g1 := Qi3 (by omega) he hr
  have g3 := QiO (by omega) he.1 hv
  have g2 := Qbu (gpR e r)
  have g4 := Qbu (rtR e.1 v)
  have t1 := Qkx (x := gpR e r)
  have t2 := QoY (x := gpR e r)
  have t3 := Qkx (x := rtR e.1 v)
  unfold opB
  generalize decide (0 < gpR e r) = b1 at *
  generalize decide (gpR e r = 0) = b2 at *
  generalize decide (0 < rtR e.1 v) = b3 at *
  generalize rtR e.1 v = q2 at *
  generalize gpR e r = q at *
  generalize Int.sign q.num = s at *
  generalize Int.sign q2.num = s2 at *
  clear he hr hv
  obtain ⟨⟨a1, c1, d1⟩, f1⟩ := e
  obtain ⟨x1, y1⟩ := r
  obtain ⟨x2, y2⟩ := v
  simp only [encG, cG, encD, cD, encV, encR, iv, bv] at g1 g2 g3 g4
  cases b1
  · cases b2
    all_goals simp -implicitDefEqProofs (maxSteps:=9^8) only [Qgp, encG, cG, cV, ldV8, g1, g2, g3, g4, t1, t2, t3, Qfn, QrA, st4', decide_true, decide_false, tupG, Bool.false_or, Bool.true_and, Bool.false_and, go_sem, iv, bv, reduceCtorEq, ↓reduceIte, Nat.reduceEqDiff]
  · simp -implicitDefEqProofs (maxSteps:=9^8) only [Qgp, encG, cG, cV, ldV8, g1, g2, t1, Qfn, QrA, st4', decide_true, decide_false, tupG, Bool.true_or, go_sem, iv, bv, reduceCtorEq, ↓reduceIte, Nat.reduceEqDiff]
theorem Qul {e : Eg} {r v : Vc} {K : Nat} (hK : K ≤ 10000000) (he : AtE e) (hr : SzV K r) (hv : SzV K v) : Qah G QgT [encG e, .rp (cV v), .rp (cV r)] = some (.d (.tup [encR (rtR e.1 v), bv (decide (gpR e r = 0))])) := by
 rw [Qac (cf := QhU) rfl]
 have g1 := Qi3 (by omega) he hr
 have g3 := QiO (by omega) he.1 hv
 have g2 := Qbu (gpR e r)
 rw [← QoY]
 generalize rtR e.1 v = q2 at *
 generalize gpR e r = q at *
 generalize Int.sign q.num = s at *
 clear he hr hv
 obtain ⟨⟨a1, b1, c1⟩, t1⟩ := e
 obtain ⟨x1, y1⟩ := r
 obtain ⟨x2, y2⟩ := v
 simp only [encG, cG, encD, cD, encV, encR, iv, bv] at g1 g2 g3
 simp -implicitDefEqProofs (maxSteps:=9^8) only [QhU, encG, cG, cV, encR, ldV8, g1, g2, g3, Qfn, QrA, st4', allD, toDs, go_sem, iv, bv, reduceCtorEq, ↓reduceIte, Nat.reduceEqDiff]
def coG (O : List Eg) (r v : Vc) : Int := if O.any (opB r v) then -1 else (grS (fun e => (rtR e.1 v, decide (gpR e r = 0))) O O.length).1
theorem Qpu {d : D} {O : List Eg} {r v : Vc} {K : Nat} (hO : RwE cG d O) (hn : O.length ≤ 1000) (hK : K ≤ 10000000) (he : ∀ e ∈ O, AtE e) (hr : SzV K r) (hv : SzV K v) : Qah G QbV [d, encV r, encV v] = some (.d (iv (coG O r v))) := by
 rw [Qac (cf := QhX) rfl]
 have g0 := Qnk (f := QgC) (caps := [.rp (cV r), .rp (cV v)]) (p := opB r v) hO (by omega) (fun i hi => QtO hK (he _ (egm hi)) hr hv)
 have g := Qnb (f := QgT) (caps := [.rp (cV v), .rp (cV r)]) (F := fun e => (rtR e.1 v, decide (gpR e r = 0))) (K := 2 * K + 14) hO hn (by omega) (by omega) (fun i hi => ⟨Qul hK (he _ (egm hi)) hr hv, Nat.le_trans (Qlb (he _ (egm hi)).1 hv) (by omega)⟩)
 unfold coG
 generalize (grS _ O O.length).1 = z at *
 generalize O.any (opB r v) = t at *
 clear hr hv
 obtain ⟨x1, y1⟩ := r
 obtain ⟨x2, y2⟩ := v
 simp only [cV, iv, bv] at g g0
 cases t
 ·simp -implicitDefEqProofs (maxSteps:=9^8) only [QhX, encV, g, g0, toDs, allD, snap, QdA, Bool.false_eq_true, if_false, go_sem, iv, bv, reduceCtorEq, ↓reduceIte, Nat.reduceEqDiff]
 ·simp -implicitDefEqProofs (maxSteps:=9^8) only [QhX, encV, g0, toDs, allD, snap, QdA, if_true, go_sem, iv, bv, reduceCtorEq, ↓reduceIte, Nat.reduceEqDiff]
end
end Go.AM

/- The seat's iterators: Backward alone. -/
namespace Go.AM
open Go Go.RowKit Go.Proofs

instance itsP : Its := { it := fun f ds => if f = Qal then Qpx ds else none }
instance itsBP : ItsB := ⟨fun _ => if_pos rfl⟩
theorem envP : EnvOk Tryz.prog G := env_ok fun f ds xs h => by
  have h' : (if f = Qal then Qpx ds else none) = some xs := h
  split at h'
  · rename_i hf
    rw [hf]
    exact itBack_ok h'
  · cases h'
end Go.AM

/- law13.lives: the parts, by the kernel. -/
namespace Go.AM
open Go Go.RowKit
def zI (n : Int) : List D := [.v (.bool (decide (n < 0))), if n = 0 then .z true else .row 1 [iv n.natAbs], .v (.bool false), .z true]
def vI (x y : Int) : D := .agg (zI x ++ zI y)
def edc : List D := [iv 0, iv (-1), iv 1, iv 2, iv 1, iv 0, iv 1, iv 2, iv 0, iv 1, iv 1, iv 2, iv (-1), iv 0, iv 1, iv 2]
def eds : D := .row 4 edc
def sqD : D := .row 4 [iv 0, iv 0, iv 2, iv 0, iv 2, iv 2, iv 0, iv 2]
def sqL : List Pt := [(0, 0), (2, 0), (2, 2), (0, 2)]
theorem sq_gd : GdS sqL := by
 have h : chkS sqL = true := by kernel_rfl
 unfold chkS at h
 rw [List.all_eq_true] at h
 refine ⟨by decide, by decide, ?_, fun i hi => ?_, fun i hi => ?_⟩
 ·intro p hp
  unfold sqL at hp
  simp only [List.mem_cons, List.not_mem_nil, or_false] at hp
  rcases hp with rfl | rfl | rfl | rfl <;> exact ⟨⟨by decide, by decide⟩, ⟨by decide, by decide⟩⟩
 all_goals
  have h1 := h i (List.mem_range.2 hi)
  simp only [Bool.and_eq_true, decide_eq_true_eq] at h1
  obtain ⟨⟨⟨⟨⟨⟨⟨h1, h2⟩, h3⟩, h4⟩, h5⟩, h6⟩, h7⟩, h8⟩ := h1
 ·exact ⟨h1, h2⟩
 ·exact ⟨⟨h3, h4⟩, ⟨h5, h6⟩, ⟨h7, h8⟩⟩
theorem k0 : Qah G Qdq [sqD, sqD] = some (.own 4 4 edc) := by
 have h := QnN (da := sqD) (db := sqD) (a := sqL) (b := sqL) (.inr rfl) (.inr rfl) sq_gd sq_gd
 rw [h]
 have e : sdP sqL sqL = [((0, -1, 1), 2), ((1, 0, 1), 2), ((0, 1, 1), 2), ((-1, 0, 1), 2)] := by kernel_rfl
 rw [e]
 rfl
theorem k1 : Qah G Qe6 [.agg [iv 0, iv 1, iv 1, iv 2], vI 1 5] = some (.d (.agg (zI 3))) := callX_some.2 ⟨80, by kernel_rfl⟩
theorem k2 : Qah G Qhu [.agg (zI 3), .agg (zI 3)] = some (.d (bv true)) := callX_some.2 ⟨80, by kernel_rfl⟩
theorem k3 : Qah G QfH [eds, vI 1 1] = some (.d (bv true)) := callX_some.2 ⟨60, by kernel_rfl⟩
theorem k4 : Qah G QfH [eds, vI 2 0] = some (.d (bv false)) := callX_some.2 ⟨60, by kernel_rfl⟩
theorem k5 : Qah G QhH [eds, vI 0 3, vI 5 1] = some (.d (iv 2)) := callX_some.2 ⟨60, by kernel_rfl⟩
theorem kv (x y : Int) (h : (x, y) ∈ [(1, 5), (1, 1), (2, 0), (0, 0), (0, 3), (0, -2), (5, -2), (5, 1), (1, 2), (1, 0), (1, -1), (0, 1), (2, 2), (-1, -2), (0, -1)]) : Qah G Qao [iv x, iv y] = some (.d (vI x y)) := by
 simp only [List.mem_cons, List.not_mem_nil, or_false, Prod.mk.injEq] at h
 rcases h with ⟨rfl, rfl⟩ | ⟨rfl, rfl⟩ | ⟨rfl, rfl⟩ | ⟨rfl, rfl⟩ | ⟨rfl, rfl⟩ | ⟨rfl, rfl⟩ | ⟨rfl, rfl⟩ | ⟨rfl, rfl⟩ | ⟨rfl, rfl⟩ | ⟨rfl, rfl⟩ | ⟨rfl, rfl⟩ | ⟨rfl, rfl⟩ | ⟨rfl, rfl⟩ | ⟨rfl, rfl⟩ | ⟨rfl, rfl⟩ <;> exact callX_some.2 ⟨60, by kernel_rfl⟩
theorem kOf : Qah G Qak [iv 3, iv 1] = some (.d (.agg (zI 3))) := callX_some.2 ⟨60, by kernel_rfl⟩
end Go.AM

/- law13.lives: Free and Contact, by the kernel. -/
namespace Go.AM
open Go Go.RowKit
theorem f1 : Qah G Qd7 [eds, vI 0 3, vI 0 (-2), vI 0 0] = some (.d (iv (-1))) := callX_some.2 ⟨80, by kernel_rfl⟩
theorem f2 : Qah G Qd7 [eds, vI 0 3, vI 5 (-2), vI 0 0] = some (.d (iv (-1))) := callX_some.2 ⟨80, by kernel_rfl⟩
theorem f3 : Qah G Qd7 [eds, vI 0 3, vI 0 (-1), vI 0 0] = some (.d (iv 2)) := callX_some.2 ⟨80, by kernel_rfl⟩
theorem c1 : Qah G QbV [eds, vI 1 2, vI 1 0] = some (.d (iv 2)) := callX_some.2 ⟨80, by kernel_rfl⟩
theorem c2 : Qah G QbV [eds, vI 1 2, vI 1 (-1)] = some (.d (iv 2)) := callX_some.2 ⟨80, by kernel_rfl⟩
theorem c3 : Qah G QbV [eds, vI 1 2, vI 0 1] = some (.d (iv (-1))) := callX_some.2 ⟨80, by kernel_rfl⟩
theorem c4 : Qah G QbV [eds, vI 2 2, vI (-1) (-2)] = some (.d (iv 1)) := callX_some.2 ⟨80, by kernel_rfl⟩
end Go.AM

/- law13.lives. -/
namespace Go.AM
open Go Go.RowKit
theorem z0 : zI 0 = [.v (.bool false), .z true, .v (.bool false), .z true] := rfl
set_option maxHeartbeats 4000000 in
theorem lives13 : Qah G QgO [] = some (.d (bv true)) := by
 rw [Qac (cf := Qfc) rfl]
 have v1 := kv 1 5 (by simp)
 have v2 := kv 1 1 (by simp)
 have v3 := kv 2 0 (by simp)
 have v4 := kv 0 0 (by simp)
 have v5 := kv 0 3 (by simp)
 have v6 := kv 0 (-2) (by simp)
 have v7 := kv 5 (-2) (by simp)
 have v8 := kv 5 1 (by simp)
 have v9 := kv 1 2 (by simp)
 have v10 := kv 1 0 (by simp)
 have v11 := kv 1 (-1) (by simp)
 have v12 := kv 0 1 (by simp)
 have v13 := kv 2 2 (by simp)
 have v14 := kv (-1) (-2) (by simp)
 have v15 := kv 0 (-1) (by simp)
 have k0 := k0; have k1 := k1; have k2 := k2; have k3 := k3; have k4 := k4; have k5 := k5; have kOf := kOf
 have f1 := f1; have f2 := f2; have f3 := f3; have c1 := c1; have c2 := c2; have c3 := c3; have c4 := c4
 have e0 : vI 0 0 = .agg [.v (.bool false), .z true, .v (.bool false), .z true, .v (.bool false), .z true, .v (.bool false), .z true] := rfl
 rw [e0] at v4 f1 f2 f3
 have e1 : D.agg (zI 3) = .agg [.v (.bool false), .row 1 [iv 3], .v (.bool false), .z true] := rfl
 have x1 : ∀ h : Hp, ixaA h 4 2 (.d eds) = some (.d (.rp [iv 0, iv 1, iv 1, iv 2, iv (-1), iv 0, iv 1, iv 2])) := fun _ => rfl
 have x2 : ∀ h : Hp, QcY h (some 4) (.d (.rp [iv 0, iv 1, iv 1, iv 2, iv (-1), iv 0, iv 1, iv 2])) = some (.d (.agg [iv 0, iv 1, iv 1, iv 2])) := fun _ => rfl
 simp only [eds, edc, iv, bv, sqD] at x1 x2 v1 v2 v3 v4 v5 v6 v7 v8 v9 v10 v11 v12 v13 v14 v15 k0 k1 k2 k3 k4 k5 kOf f1 f2 f3 c1 c2 c3 c4
 simp -implicitDefEqProofs (maxSteps:=9^8) only [Qfc, v1, v2, v3, v4, v5, v6, v7, v8, v9, v10, v11, v12, v13, v14, v15, k0, k1, k2, k3, k4, k5, kOf, f1, f2, f3, c1, c2, c3, c4, Qqk, st8, ld8, Qdb, QbF, x1, x2, QoO, oneI, Bool.not_true, Bool.not_false, beq_self_eq_true, List.map_cons, List.map_nil, go_sem, iv, bv, reduceCtorEq, ↓reduceIte, Nat.reduceEqDiff]
end Go.AM

namespace Go.AM
open Go Go.RowKit

def bxV (v : Vc) : Obj := ⟨0, 0, [.d (.v (.bool (decide (v.1.num < 0)))), .d (dg (digs v.1.num.natAbs)), .d (.v (.bool false)), .d (dg (dd v.1.den)), .d (.v (.bool (decide (v.2.num < 0)))), .d (dg (digs v.2.num.natAbs)), .d (.v (.bool false)), .d (dg (dd v.2.den))], false⟩
theorem sdO_at {a b : List Pt} (ha : GdS a) (hb : GdS b) {ds : List Dr} (hd : ∀ d ∈ ds, NmD d) : ∀ i, i ≤ ds.length → ∀ e ∈ sdO a b ds i, AtE e
 | 0, _, e, he => by simp [sdO] at he
 | i + 1, hi, e, he => by
  rw [sdO] at he
  split at he
  ·rcases List.mem_append.1 he with h | h
   ·exact sdO_at ha hb hd i (by omega) e h
   ·rw [List.mem_singleton] at h
    subst h
    have hdi : NmD (ds.getD i default) := by rw [List.getD_eq_getElem?_getD, List.getElem?_eq_getElem (by omega)]; exact hd _ (List.getElem_mem (by omega))
    have m1 : -20000000000000000 ≤ moP (ds.getD i default) a ∧ moP (ds.getD i default) a ≤ 20000000000000000 := QsD hdi ha.sm _
    have m2 : -20000000000000000 ≤ moP (tnD (ds.getD i default)) b ∧ moP (tnD (ds.getD i default)) b ≤ 20000000000000000 := QsD hdi.tn hb.sm _
    refine ⟨hdi, ?_, ?_⟩ <;> (unfold edP; dsimp only; omega)
  ·exact sdO_at ha hb hd i (by omega) e he
theorem sdP_at {a b : List Pt} (ha : GdS a) (hb : GdS b) : ∀ e ∈ sdP a b, AtE e := sdO_at ha hb (drs_nm ha hb) _ (Nat.le_refl _)
theorem sdP_len {a b : List Pt} (ha : GdS a) (hb : GdS b) : (sdP a b).length ≤ 20 := by
 have h1 := Qrm a b (drs a b) (drs a b).length
 have h2 := QqL a b
 have := ha.le; have := hb.le
 unfold sdP
 omega
theorem Qte (l : List Int) (i : Int) : I64 (atr l i 96) := by
 have := Qtl l i (m := 96) (by omega)
 exact ⟨by omega, by omega⟩
end Go.AM
namespace Go.Proofs.YtfdelaplhpmneaaGreat.Pure
open Go Go.AM
end Go.Proofs.YtfdelaplhpmneaaGreat.Pure

/- What gap's answers mean: plain. -/
namespace Go.AM
open Go Go.RowKit
theorem grS_at (F : Eg → Rat × Bool) (O : List Eg) : ∀ n : Nat, ((grS F O n).1 = -1 ∧ ∀ k, k < n → (F (O.getD k default)).2 = false) ∨ ∃ k : Nat, k < n ∧ (grS F O n).1 = (k : Int) ∧ (F (O.getD k default)).2 = true
  | 0 => .inl ⟨rfl, fun k h => by omega⟩
  | n + 1 => by
    rw [grS]
    rcases grS_at F O n with ⟨h1, h2⟩ | ⟨k, h1, h2, h3⟩
    · cases h : (F (O.getD n default)).2 with
      | false =>
        rw [Bool.false_and, if_neg (by simp)]
        refine .inl ⟨h1, fun k hk => ?_⟩
        by_cases e : k = n
        · subst e; exact h
        · exact h2 k (by omega)
      | true =>
        rw [h1]
        exact .inr ⟨n, by omega, by simp, h⟩
    · split
      · rename_i h
        rw [Bool.and_eq_true] at h
        exact .inr ⟨n, by omega, rfl, h.1⟩
      · exact .inr ⟨k, by omega, h2, h3⟩
end Go.AM

/- ref07.Stays from 0 to 1 at polynomials of at most the second degree. -/
namespace Go.AM
open Go Go.RowKit
def Qmb (dp db dw ds dl : D) (i : Int) (x : Rat × Rat) : St := mkS [(0, .d dp), (8, .d db), (9, .d dw), (10, .d ds), (11, .d dl), (12, ai i), (13, .ptr [13] 0)] [([13], bxV x)]
def Qjg (dp db dw ds dl : D) (i : Int) : St := mkS [(0, .d dp), (8, .d db), (9, .d dw), (10, .d ds), (11, .d dl), (12, ai i)] []
theorem st_z {p : List Rat} (h : ¬ (0 ≤ evR p 0 ∧ 0 ≤ evR p 1)) : staG p = false := by
 unfold staG
 rw [if_pos]
 rw [Bool.or_eq_true, decide_eq_true_iff, decide_eq_true_iff]
 by_cases h1 : evR p 0 < 0
 ·exact .inl h1
 ·exact .inr (Rat.not_le.1 fun h2 => h ⟨Rat.not_lt.1 h1, h2⟩)
theorem st_nz {p : List Rat} (h0 : 0 ≤ evR p 0) (h1 : 0 ≤ evR p 1) : staG p = if decide (p.length < 3) || decide (p.getD 2 0 < 0) then true else decide (veR p ≤ 0) || decide (1 ≤ veR p) || decide (0 ≤ evR p (veR p)) := by
 unfold staG
 rw [if_neg]
 rw [Bool.or_eq_true, decide_eq_true_iff, decide_eq_true_iff]
 exact fun h => h.elim (Rat.not_lt.2 h0) (Rat.not_lt.2 h1)
theorem ve_qz (a b c : Rat) : veR [a, b, c] = qz b c := rfl
theorem st_3 {a b c : Rat} (hc : c ≠ 0) (h0 : 0 ≤ evR [a, b, c] 0) (h1 : 0 ≤ evR [a, b, c] 1) (hw : qw a b c ≠ 0) (z0 : 0 < qz b c) (z1 : qz b c ≤ 1) {hi : Rat}
    (hh : qw a b c < 0 → evR [a / c, b / c, 1] hi < 0) : decide (evR [a, b, c] hi < 0) = !(staG [a, b, c]) := by
  have em : ∀ x, evR [a, b, c] x = evR [a / c, b / c, 1] x * c := fun x => by
    rw [ev_3, ev_3]
    have k1 : a / c * c = a := Rat.div_mul_cancel hc
    have k2 : b / c * c = b := Rat.div_mul_cancel hc
    grind
  have sq := fun x => Qn9 (a := a) (b := b) hc x
  rw [st_nz h0 h1]
  have e2 : [a, b, c].getD 2 0 = c := rfl
  have e3 : [a, b, c].length = 3 := rfl
  rw [e2, e3, ve_qz]
  have dl : decide (3 < 3) = false := rfl
  rw [dl, Bool.false_or]
  by_cases hcn : c < 0
  · rw [decide_eq_true hcn, if_pos rfl]
    show decide _ = false
    rw [decide_eq_false_iff_not, em]
    by_cases hwn : qw a b c < 0
    · have := Rat.mul_nonneg (a := -(evR [a / c, b / c, 1] hi)) (b := -c) (by have := hh hwn; grind) (by grind)
      grind
    · have h2 : 0 < qw a b c := by grind
      have h3 : 0 < evR [a / c, b / c, 1] 0 := by rw [sq]; have := sq_nn7 (0 - qz b c); grind
      have h4 := Rat.mul_pos h3 (show 0 < -c by grind)
      rw [em] at h0
      grind
  · have hcp : 0 < c := by grind
    rw [decide_eq_false hcn, if_neg (by simp), em hi, em (qz b c)]
    have hz : evR [a / c, b / c, 1] (qz b c) = qw a b c := by rw [sq]; grind
    rw [hz, decide_eq_false (Rat.not_le.2 z0), Bool.false_or]
    by_cases hwn : qw a b c < 0
    · have k1 : evR [a / c, b / c, 1] hi * c < 0 := by
        have := Rat.mul_pos (a := -(evR [a / c, b / c, 1] hi)) (b := c) (by have := hh hwn; grind) hcp
        grind
      have k2 : ¬ (0 ≤ qw a b c * c) := by
        have := Rat.mul_pos (a := -(qw a b c)) (b := c) (by grind) hcp
        grind
      have k3 : ¬ (1 ≤ qz b c) := fun h => by
        have e : qz b c = 1 := by grind
        have h6 : 0 ≤ evR [a, b, c] (qz b c) := by rw [e]; exact h1
        rw [em, hz] at h6
        exact k2 h6
      rw [decide_eq_true k1, decide_eq_false k2, decide_eq_false k3]; rfl
    · have h2 : 0 < qw a b c := by grind
      have k1 : ¬ (evR [a / c, b / c, 1] hi * c < 0) := by
        have h3 : 0 < evR [a / c, b / c, 1] hi := by rw [sq]; have := sq_nn7 (hi - qz b c); grind
        have := Rat.mul_pos h3 hcp
        grind
      have k2 : 0 ≤ qw a b c * c := Rat.le_of_lt (Rat.mul_pos h2 hcp)
      rw [decide_eq_false k1, decide_eq_true k2, Bool.or_true]; rfl
theorem st_30 {a b c : Rat} (hc : c ≠ 0) (h0 : 0 ≤ evR [a, b, c] 0) (h1 : 0 ≤ evR [a, b, c] 1) (h : qw a b c = 0 ∨ ¬ (0 < qz b c ∧ qz b c ≤ 1)) : staG [a, b, c] = true := by
  rw [st_nz h0 h1]
  have e2 : [a, b, c].getD 2 0 = c := rfl
  have e3 : [a, b, c].length = 3 := rfl
  rw [e2, e3, ve_qz]
  by_cases hcn : c < 0
  · rw [decide_eq_true hcn, Bool.or_true, if_pos rfl]
  · rw [if_neg (by rw [decide_eq_false hcn]; simp)]
    rcases h with h | h
    · have em : evR [a, b, c] (qz b c) = 0 := by
        have sq := Qn9 (a := a) (b := b) hc (qz b c)
        rw [h, ev_3] at sq
        rw [ev_3]
        have k1 : a / c * c = a := Rat.div_mul_cancel hc
        have k2 : b / c * c = b := Rat.div_mul_cancel hc
        have : a + b * qz b c + c * (qz b c * qz b c) = (a / c + b / c * qz b c + 1 * (qz b c * qz b c)) * c := by grind
        rw [this, sq]
        grind
      rw [em, decide_eq_true (Rat.le_refl), Bool.or_true]
    · by_cases k : qz b c ≤ 0
      · rw [decide_eq_true k]; rfl
      · have : 1 ≤ qz b c := by
          refine Rat.le_of_lt (Rat.not_le.1 fun h3 => h ⟨Rat.not_le.1 k, h3⟩)
        rw [decide_eq_true this, Bool.or_true, Bool.true_or]
theorem st_2 {p : List Rat} (hl : p.length < 3) (h0 : 0 ≤ evR p 0) (h1 : 0 ≤ evR p 1) : staG p = true := by
 rw [st_nz h0 h1, decide_eq_true hl, Bool.true_or, if_pos rfl]
theorem ixa8 (h : Hp) (a b c d e f g k : D) : ixaA h 8 0 (.d (.row 1 [a, b, c, d, e, f, g, k])) = some (.d (.rp [a, b, c, d, e, f, g, k])) := rfl
theorem lda8 (h : Hp) (a b c d e f g k : D) : QcY h (some 8) (.d (.rp [a, b, c, d, e, f, g, k])) = some (.d (.agg [a, b, c, d, e, f, g, k])) := rfl
variable [Its]
theorem free3 {d : D} {p : List Rat} (hr : RwR d p) (hp : SzL 1000 p) (tp : Trm p) (np : p.length ≤ 3) : ∃ d', RwR d' (frP p) ∧ Qah G QdH [d] = some (.d d') := by
 obtain ⟨g1, g2, g3⟩ := gc_ok hp tp np
 have tg : Trm (gcdP p (deP p)) := trm_gcd
 have gl := gc_len3 np
 have hm : dvN p (gcdP p (deP p)) ≤ 4 := by unfold dvN; omega
 have h1 : dvN p (gcdP p (deP p)) * 140000 ≤ 4 * 140000 := Nat.mul_le_mul_right _ hm
 have h2 : dvN p (gcdP p (deP p)) * (140000 + 1) ≤ 4 * (140000 + 1) := Nat.mul_le_mul_right _ hm
 have H : HL 3000 3000 p := by
  obtain ⟨K, hK⟩ : ∃ K, K = 1000 := ⟨_, rfl⟩
  have h3 : SzL K p := by rw [hK]; exact hp
  exact (hl3 h3 np).mono (by omega) (by omega)
 obtain ⟨x, y, z⟩ := div_HL (K := 800000) H g3 tg (by omega)
 have Hd := H.de (by have : BB = 1000000000 := rfl; omega)
 exact QqQ hr tp tg (by omega) (K := 1000000) (by omega) (by omega) (hp.mono (by omega)) (Hd.sz.mono (by omega)) (Qo2 (by omega) _ _ _ g1) (QoV (by omega) _ _ _ g2) (g3.mono (by omega) (by omega)) (g3.sz.mono (by omega)) (Qn3 (by omega) _ _ x) (z.sz.mono (by omega))
theorem chain3 {d : D} {p : List Rat} (hr : RwR d p) (hp : SzL 1000 p) (tp : Trm p) (np : p.length ≤ 3) (hp0 : p ≠ []) : ∃ ds, Dls ds (chP p) ∧ Qah G QcF [d] = some (.own 1 ds.length ds) := by
 obtain ⟨h1, h2, h3, _⟩ := Qtd hp tp np hp0
 exact Qrh hr hp0 (by omega) (free3 hr hp tp np) (trm_fr p) (by omega) (h1.mono (by omega)) h3 (by omega) (by omega)
section
variable {dp db dw ds dl : D}
theorem y0_go {own slope : List (List Rat)} (ho : RwC dw own) (hs : RwC ds slope) (no : own.length ≤ 1000) (ns : slope.length ≤ 1000) (so : ∀ p ∈ own, SzL 10000 p ∧ p.length ≤ 1000) (ss : ∀ p ∈ slope, SzL 10000 p ∧ p.length ≤ 1000) {i : Int} {x : Rat × Rat} (x1 : sz x.1 ≤ 10000) (x2 : sz x.2 ≤ 10000) (x3 : sz (mid x.1 x.2) ≤ 10000) (hc : 0 < cnt own x.1 x.2) :
    X G Qbp (Qmb dp db dw ds dl i x) = some (.n, Qmb dp db dw ds dl i (hal slope x)) := by
  have g1 := Qdm ho no so x1 x2 (by omega) (by omega)
  have g2 := Qp1 hs ns ss (l := x) x1 x2 x3 (by omega) (by omega)
  have t : decide (cnt own x.1 x.2 > 0) = true := decide_eq_true hc
  generalize cnt own x.1 x.2 = c at *
  generalize hal slope x = y at *
  obtain ⟨lo, hi⟩ := x
  obtain ⟨l2, h2⟩ := y
  simp only [enc2, c2R, encR, iv] at g1 g2
  simp -implicitDefEqProofs (maxSteps:=9^8) only [Qbp, Qmb, bxV, g1, g2, t, st8q, ld8q, QqI, QqS, Qaa, go_sem, iv, bv, reduceCtorEq, ↓reduceIte, Nat.reduceEqDiff]
theorem QoK     {own : List (List Rat)} (ho : RwC dw own) (no : own.length ≤ 1000) (so : ∀ p ∈ own, SzL 10000 p ∧ p.length ≤ 1000) {i : Int} {x : Rat × Rat} (x1 : sz x.1 ≤ 10000) (x2 : sz x.2 ≤ 10000) (hc : cnt own x.1 x.2 ≤ 0) :
    X G Qbp (Qmb dp db dw ds dl i x) = some (.x 2, Qmb dp db dw ds dl i x) := by
  have g1 := Qdm ho no so x1 x2 (by omega) (by omega)
  have t : decide (cnt own x.1 x.2 > 0) = false := decide_eq_false (by omega)
  generalize cnt own x.1 x.2 = c at *
  obtain ⟨lo, hi⟩ := x
  simp only [encR, iv] at g1
  simp -implicitDefEqProofs (maxSteps:=9^8) only [Qbp, Qmb, bxV, g1, t, st8q, ld8q, QqI, QqS, Qaa, go_sem, iv, bv, reduceCtorEq, ↓reduceIte, Nat.reduceEqDiff]
theorem y0_loop {a b c : Rat} (hc : c ≠ 0) (hw : qw a b c ≠ 0) (z0 : 0 < qz b c) (z1 : qz b c ≤ 1) {S : Nat} (hS : sz (qw a b c) ≤ S) (hS2 : S ≤ 7000) (ho : RwC dw [[a / c, b / c, 1], [-(2 * qz b c), 2], [-(qw a b c)]]) (hs : RwC ds [[-(qz b c), 1], [1]])
    (so : ∀ p ∈ [[a / c, b / c, 1], [-(2 * qz b c), 2], [-(qw a b c)]], SzL 10000 p ∧ p.length ≤ 1000) (ss : ∀ p ∈ [[-(qz b c), 1], [1]], SzL 10000 p ∧ p.length ≤ 1000) {i : Int} : ∀ (k n : Nat), n + k = 15 * S + 1 →
    ∃ m, m ≤ 15 * S + 1 ∧ (qw a b c < 0 → evR [a / c, b / c, 1] (itH [[-(qz b c), 1], [1]] m).2 < 0) ∧ X G (.loop Qbp) (Qmb dp db dw ds dl i (itH [[-(qz b c), 1], [1]] n)) = some (.x 2, Qmb dp db dw ds dl i (itH [[-(qz b c), 1], [1]] m)) := by
  intro k
  induction k with
  | zero =>
    intro n hn
    obtain ⟨j, hj, e, k1, k2⟩ := QpD z0 z1 n
    obtain ⟨s1, s2⟩ := it_sz z0 z1 n
    have hq := cnt_sq (a := a) (b := b) hc (lo := (itH [[-(qz b c), 1], [1]] n).1) (hi := (itH [[-(qz b c), 1], [1]] n).2) (by rw [e]; exact k1) (by rw [e]; exact k2)
    by_cases hwn : qw a b c < 0
    · have sm := it_small hwn hS (n := n) (by omega)
      have wid : (itH [[-(qz b c), 1], [1]] n).2 - (itH [[-(qz b c), 1], [1]] n).1 = hf ^ n := by
        rw [e]; push_cast; grind
      have near : ∀ x, (itH [[-(qz b c), 1], [1]] n).1 ≤ x → x ≤ (itH [[-(qz b c), 1], [1]] n).2 → evR [a / c, b / c, 1] x < 0 := by
        intro x hx1 hx2
        rw [Qn9 hc]
        have l1 : (itH [[-(qz b c), 1], [1]] n).1 < qz b c := by rw [e]; exact k1
        have l2 : qz b c ≤ (itH [[-(qz b c), 1], [1]] n).2 := by rw [e]; exact k2
        have hp := Qpg n
        generalize (itH [[-(qz b c), 1], [1]] n).1 = lo at *
        generalize (itH [[-(qz b c), 1], [1]] n).2 = hi at *
        generalize qz b c = z at *
        generalize hf ^ n = w at *
        have u1 : 0 ≤ (w - (x - z)) * (w + (x - z)) := Rat.mul_nonneg (by grind) (by grind)
        grind
      rcases hq.2 hwn with ⟨h1, h2⟩ | ⟨h1, h2⟩
      · exfalso
        have l0 : (itH [[-(qz b c), 1], [1]] n).1 ≤ (itH [[-(qz b c), 1], [1]] n).2 := by have := Qpg n; grind
        have n1 := near _ Rat.le_refl l0
        have n2 := near _ l0 Rat.le_refl
        rcases h2 with h2 | h2 <;> grind
      · exact ⟨n, by omega, fun _ => h2, by rw [Qag, QoK ho (by simp) so (by omega) (by omega) (by omega)]; rfl⟩
    · have hwp : 0 < qw a b c := by grind
      exact ⟨n, by omega, fun h => absurd h hwn, by rw [Qag, QoK ho (by simp) so (by omega) (by omega) (by rw [hq.1 hwp]; omega)]; rfl⟩
  | succ k ih =>
    intro n hn
    obtain ⟨j, hj, e, k1, k2⟩ := QpD z0 z1 n
    obtain ⟨s1, s2⟩ := it_sz z0 z1 n
    have s3 := it_mid z0 z1 n
    have hq := cnt_sq (a := a) (b := b) hc (lo := (itH [[-(qz b c), 1], [1]] n).1) (hi := (itH [[-(qz b c), 1], [1]] n).2) (by rw [e]; exact k1) (by rw [e]; exact k2)
    by_cases hwn : qw a b c < 0
    · rcases hq.2 hwn with ⟨h1, h2⟩ | ⟨h1, h2⟩
      · obtain ⟨m, m1, m2, m3⟩ := ih (n + 1) (by omega)
        refine ⟨m, m1, m2, ?_⟩
        rw [Qag, y0_go ho hs (by simp) (by simp) so ss (by omega) (by omega) (by omega) h1, Option.bind_some, if_pos rfl]
        exact m3
      · exact ⟨n, by omega, fun _ => h2, by rw [Qag, QoK ho (by simp) so (by omega) (by omega) (by omega)]; rfl⟩
    · have hwp : 0 < qw a b c := by grind
      exact ⟨n, by omega, fun h => absurd h hwn, by rw [Qag, QoK ho (by simp) so (by omega) (by omega) (by rw [hq.1 hwp]; omega)]; rfl⟩
theorem y1_none {i : Int} (hl : lenA (.d dl) = some 0) (hi : 0 ≤ i) : X G Qau (Qjg dp db dw ds dl i) = some (.x 0, mkS [] []) := by
 have e1 : decide (i < 0) = false := lt_f (by omega)
 simp -implicitDefEqProofs (maxSteps:=9^8) only [Qau, Qjg, hl, e1, Qaa, go_sem, iv, bv, reduceCtorEq, ↓reduceIte, Nat.reduceEqDiff]
theorem y1_end {x : Rat × Rat} : X G Qau (Qjg dp db dw ds (.row 1 (c2R x)) 1) = some (.x 0, mkS [] []) := by
 have e1 : decide ((1 : Int) < 1) = false := rfl
 have hl : lenA (.d (.row 1 (c2R x))) = some 1 := rfl
 have e2 : ((1 : Nat) : Int) = 1 := rfl
 simp -implicitDefEqProofs (maxSteps:=9^8) only [Qau, Qjg, hl, e1, e2, Qaa, go_sem, iv, bv, reduceCtorEq, ↓reduceIte, Nat.reduceEqDiff]
theorem y1_skip {both : List (List Rat)} (hb : RwC db both) (nb : both.length ≤ 1000) (sb : ∀ p ∈ both, SzL 10000 p ∧ p.length ≤ 1000) {x : Rat × Rat} (x1 : sz x.1 ≤ 10000) (x2 : sz x.2 ≤ 10000) (hc : cnt both x.1 x.2 = 1) :
    X G Qau (Qjg dp db dw ds (.row 1 (c2R x)) 0) = some (.n, Qjg dp db dw ds (.row 1 (c2R x)) 1) := by
  have g1 := Qdm hb nb sb x1 x2 (by omega) (by omega)
  rw [hc] at g1
  have e1 : decide ((0 : Int) < 1) = true := rfl
  have e2 : ((1 : Nat) : Int) = 1 := rfl
  have e3 : w64 ((0 : Int) + 1) = 1 := Qad (by omega) (by omega)
  have hl : lenA (.d (.row 1 (c2R x))) = some 1 := rfl
  have t : ((1 : Int) == 1) = true := rfl
  obtain ⟨lo, hi⟩ := x
  simp only [c2R] at hl
  simp only [encR, iv] at g1
  simp -implicitDefEqProofs (maxSteps:=9^8) only [Qau, Qjg, c2R, hl, e1, e2, e3, g1, t, ixa8, lda8, st8q, ld8q, QqI, QqS, Qaa, go_sem, iv, bv, reduceCtorEq, ↓reduceIte, Nat.reduceEqDiff]
theorem y1_go {p : List Rat} {both : List (List Rat)} (hp : RwR dp p) (sp : SzL 10000 p) (np : p.length ≤ 1000) (hb : RwC db both) (nb : both.length ≤ 1000) (sb : ∀ p ∈ both, SzL 10000 p ∧ p.length ≤ 1000) {x y : Rat × Rat} (x1 : sz x.1 ≤ 10000) (x2 : sz x.2 ≤ 10000) (hc : cnt both x.1 x.2 = 0)
    (g : X G (.loop Qbp) (Qmb dp db dw ds (.row 1 (c2R x)) 0 x) = some (.x 2, Qmb dp db dw ds (.row 1 (c2R x)) 0 y)) (y2 : sz y.2 ≤ 10000) :
    X G Qau (Qjg dp db dw ds (.row 1 (c2R x)) 0) = if decide (evR p y.2 < 0) = true then some (.r, mkS [(6, ab false)] []) else some (.n, Qjg dp db dw ds (.row 1 (c2R x)) 1) := by
  have g1 := Qdm hb nb sb x1 x2 (by omega) (by omega)
  rw [hc] at g1
  have g2 := QdT hp sp (by omega) (by omega) np y2
  have z := Qj1 (x := y.2) (K := 10000) y2 p (fun q hq => sp q hq)
  have zb : p.length * (2 * 10000 + 1) ≤ 1000 * (2 * 10000 + 1) := Nat.mul_le_mul_right _ np
  have g3 := Qbf (a := evR p y.2) (by omega)
  have t3 := QfE (x := evR p y.2)
  generalize decide (evR p y.2 < 0) = u at *
  generalize evR p y.2 = v at *
  generalize Int.sign v.num = s at *
  have e1 : decide ((0 : Int) < 1) = true := rfl
  have e2 : ((1 : Nat) : Int) = 1 := rfl
  have e3 : w64 ((0 : Int) + 1) = 1 := Qad (by omega) (by omega)
  have hl : lenA (.d (.row 1 (c2R x))) = some 1 := rfl
  have t : ((0 : Int) == 1) = false := rfl
  clear z zb sp hp x1 x2 y2
  obtain ⟨lo, hi⟩ := x
  obtain ⟨l2, h2⟩ := y
  simp only [Qmb, bxV, c2R, go_sem] at g
  simp only [c2R] at hl
  simp only [encR, iv] at g1 g2 g3
  cases u
  · simp -implicitDefEqProofs (maxSteps:=9^8) only [Qau, Qjg, c2R, hl, e1, e2, e3, g, g1, g2, g3, t, t3, ixa8, lda8, st8q, ld8q, QqI, QqS, Bool.false_eq_true, if_false, Qaa, go_sem, iv, bv, reduceCtorEq, ↓reduceIte, Nat.reduceEqDiff]
  · simp -implicitDefEqProofs (maxSteps:=9^8) only [Qau, Qjg, c2R, hl, e1, e2, e3, g, g1, g2, g3, t, t3, ixa8, lda8, st8q, ld8q, QqI, QqS, if_true, Qaa, go_sem, iv, bv, reduceCtorEq, ↓reduceIte, Nat.reduceEqDiff]
end
end Go.AM

/- ref07.Stays from 0 to 1 at polynomials of at most the second degree: the answer. ref13.Stays. -/
namespace Go.AM
open Go Go.RowKit
theorem cmp01 : decide (cmpR 0 1 > 0) = false := by rw [Qox]; decide
theorem ld_one : (0 : Rat) < 1 := by decide
def lpE (t : Bool) : Option (Ex × St) := if t then some (.x 0, mkS [] []) else some (.r, mkS [(6, ab false)] [])
theorem up_K {K L : Nat} (h : K ≤ L) {ps : List (List Rat)} (hs : ∀ q ∈ ps, SzL K q ∧ q.length ≤ 1000) : ∀ q ∈ ps, SzL L q ∧ q.length ≤ 1000 := fun q hq => ⟨(hs q hq).1.mono h, (hs q hq).2⟩
variable [Its]
theorem QtF : Qah G Qb9 [.z true, encR 0, encR 1] = some (.d (bv true)) := by
 rw [Qac (cf := Qax) rfl]
 have g := Qb0 (a := 0) (b := 1) (by rw [QeF]; omega) (by rw [Qgh]; omega)
 have t := cmp01
 have hl : lenA (.d (.z true)) = some 0 := rfl
 have t2 : ((0 : Int) == 0) = true := rfl
 generalize cmpR 0 1 = c at *
 simp only [encR, iv] at g
 simp -implicitDefEqProofs (maxSteps:=9^8) only [Qax, encR, g, t, hl, t2, ld4q, decide_true, decide_false, tupG, Qaa, go_sem, iv, bv, reduceCtorEq, ↓reduceIte, Nat.reduceEqDiff]
section
variable {dp : D} {p : List Rat} (hr : RwR dp p) (sp : SzL 300 p) (np : p.length ≤ 3) (hp0 : p ≠ [])
theorem QtV (hr : RwR dp p) (sp : SzL 300 p) (np : p.length ≤ 3) (hp0 : p ≠ []) (h : ¬ (0 ≤ evR p 0 ∧ 0 ≤ evR p 1)) : Qah G Qb9 [dp, encR 0, encR 1] = some (.d (bv false)) := by
 rw [Qac (cf := Qax) rfl]
 have z0 : sz 0 ≤ 300 := by rw [QeF]; omega
 have z1 : sz 1 ≤ 300 := by rw [Qgh]; omega
 have g := Qb0 (a := 0) (b := 1) (by omega) (by omega)
 have t := cmp01
 have hl := hr.len
 have t2 : ((p.length : Int) == 0) = false := Qds (by have := List.length_pos_iff.2 hp0; omega)
 have g0 := QdT hr sp (by omega) (by omega) (by omega) z0
 have g1 := QdT hr sp (by omega) (by omega) (by omega) z1
 have e0 := Qj1 (x := 0) (K := 300) z0 p (fun q hq => sp q hq)
 have e1 := Qj1 (x := 1) (K := 300) z1 p (fun q hq => sp q hq)
 have zb : p.length * (2 * 300 + 1) ≤ 3 * (2 * 300 + 1) := Nat.mul_le_mul_right _ np
 have h0 := Qbf (a := evR p 0) (by omega)
 have h1 := Qbf (a := evR p 1) (by omega)
 have t0 := QfE (x := evR p 0)
 have t1 := QfE (x := evR p 1)
 have hb : evR p 0 < 0 ∨ evR p 1 < 0 := by
  by_cases k : evR p 0 < 0
  ·exact .inl k
  ·exact .inr (Rat.not_le.1 fun h2 => h ⟨Rat.not_lt.1 k, h2⟩)
 clear e0 e1 zb z0 z1 sp hr h
 generalize evR p 0 = r0 at *
 generalize evR p 1 = r1 at *
 generalize cmpR 0 1 = c at *
 simp only [encR, iv] at g g0 g1 h0 h1
 by_cases k : r0 < 0
 ·rw [decide_eq_true k] at t0
  simp -implicitDefEqProofs (maxSteps:=9^8) only [Qax, encR, g, t, hl, t2, g0, h0, t0, ld4q, decide_true, decide_false, tupG, Qaa, go_sem, iv, bv, reduceCtorEq, ↓reduceIte, Nat.reduceEqDiff]
 ·rw [decide_eq_false k] at t0
  rw [decide_eq_true (hb.resolve_left k)] at t1
  simp -implicitDefEqProofs (maxSteps:=9^8) only [Qax, encR, g, t, hl, t2, g0, h0, t0, g1, h1, t1, ld4q, decide_true, decide_false, tupG, Qaa, go_sem, iv, bv, reduceCtorEq, ↓reduceIte, Nat.reduceEqDiff]
theorem Qts (hr : RwR dp p) (sp : SzL 300 p) (np : p.length ≤ 3) (hp0 : p ≠ []) (h0' : 0 ≤ evR p 0) (h1' : 0 ≤ evR p 1) (hd : deP p = []) : Qah G Qb9 [dp, encR 0, encR 1] = some (.d (bv true)) := by
 rw [Qac (cf := Qax) rfl]
 have z0 : sz 0 ≤ 300 := by rw [QeF]; omega
 have z1 : sz 1 ≤ 300 := by rw [Qgh]; omega
 have g := Qb0 (a := 0) (b := 1) (by omega) (by omega)
 have t := cmp01
 have hl := hr.len
 have t2 : ((p.length : Int) == 0) = false := Qds (by have := List.length_pos_iff.2 hp0; omega)
 have g0 := QdT hr sp (by omega) (by omega) (by omega) z0
 have g1 := QdT hr sp (by omega) (by omega) (by omega) z1
 have e0 := Qj1 (x := 0) (K := 300) z0 p (fun q hq => sp q hq)
 have e1 := Qj1 (x := 1) (K := 300) z1 p (fun q hq => sp q hq)
 have zb : p.length * (2 * 300 + 1) ≤ 3 * (2 * 300 + 1) := Nat.mul_le_mul_right _ np
 have h0 := Qbf (a := evR p 0) (by omega)
 have h1 := Qbf (a := evR p 1) (by omega)
 have t0 := QfE (x := evR p 0)
 have t1 := QfE (x := evR p 1)
 rw [decide_eq_false (Rat.not_lt.2 h0')] at t0
 rw [decide_eq_false (Rat.not_lt.2 h1')] at t1
 obtain ⟨dd, hd1, g2⟩ := Qgo hr sp (by omega) (by omega) (by omega)
 have ld := hd1.len
 rw [hd, List.length_nil] at ld
 have t3 : ((0 : Int) == 0) = true := rfl
 clear e0 e1 zb z0 z1 sp hr h0' h1' hd1
 generalize evR p 0 = r0 at *
 generalize evR p 1 = r1 at *
 generalize cmpR 0 1 = c at *
 simp only [encR, iv] at g g0 g1 h0 h1
 simp -implicitDefEqProofs (maxSteps:=9^8) only [Qax, encR, g, t, hl, t2, g0, h0, t0, g1, h1, t1, g2, ld, t3, ld4q, decide_true, decide_false, tupG, Qaa, go_sem, iv, bv, reduceCtorEq, ↓reduceIte, Nat.reduceEqDiff]
theorem QhV         (hr : RwR dp p) (sp : SzL 300 p) (np : p.length ≤ 3) (hp0 : p ≠ []) (tp : Trm p) (h0' : 0 ≤ evR p 0) (h1' : 0 ≤ evR p 1) (hd : deP p ≠ []) (tg : gcdP p (deP p) ≠ []) (sg : SzL 1000 (gcdP p (deP p))) {t : Bool}
    (hw : ∀ db dw ds, RwC db (chP (gcdP p (deP p))) → RwC dw (chP p) → RwC ds (chP (deP p)) →
      (Qah G Qbc [ds, encR 0, encR 1] = some (.d (.z true)) ∧ t = true) ∨
      (Qah G Qbc [ds, encR 0, encR 1] = some (.own 8 1 (c2R (0, 1))) ∧ X G (.loop Qau) (Qjg dp db dw ds (.row 1 (c2R (0, 1))) 0) = lpE t)) :
    Qah G Qb9 [dp, encR 0, encR 1] = some (.d (bv t)) := by
  rw [Qac (cf := Qax) rfl]
  have z0 : sz 0 ≤ 300 := by rw [QeF]; omega
  have z1 : sz 1 ≤ 300 := by rw [Qgh]; omega
  have g := Qb0 (a := 0) (b := 1) (by omega) (by omega)
  have tt := cmp01
  have hl := hr.len
  have t2 : ((p.length : Int) == 0) = false := Qds (by have := List.length_pos_iff.2 hp0; omega)
  have g0 := QdT hr sp (by omega) (by omega) (by omega) z0
  have g1 := QdT hr sp (by omega) (by omega) (by omega) z1
  have e0 := Qj1 (x := 0) (K := 300) z0 p (fun q hq => sp q hq)
  have e1 := Qj1 (x := 1) (K := 300) z1 p (fun q hq => sp q hq)
  have zb : p.length * (2 * 300 + 1) ≤ 3 * (2 * 300 + 1) := Nat.mul_le_mul_right _ np
  have h0 := Qbf (a := evR p 0) (by omega)
  have h1 := Qbf (a := evR p 1) (by omega)
  have t0 := QfE (x := evR p 0)
  have t1 := QfE (x := evR p 1)
  rw [decide_eq_false (Rat.not_lt.2 h0')] at t0
  rw [decide_eq_false (Rat.not_lt.2 h1')] at t1
  obtain ⟨dd, hd1, g2⟩ := Qgo hr sp (by omega) (by omega) (by omega)
  have ld := hd1.len
  have t3 : (((deP p).length : Int) == 0) = false := Qds (by have := List.length_pos_iff.2 hd; omega)
  have sd : SzL 1000 (deP p) := by
    intro q hq
    obtain ⟨i, hi, rfl⟩ := List.getElem_of_mem hq
    have e := Qpf p i
    rw [List.getD_eq_getElem?_getD, List.getElem?_eq_getElem hi, Option.getD_some] at e
    rw [e]
    have l1 := Qpj p
    have k1 := Qec (a := p.getD (i + 1) 0) (b := (((i + 1 : Nat) : Int) : Rat))
    have k2 := sp.getD (by omega) (i + 1)
    have k3 := QdG (n := ((i + 1 : Nat) : Int)) ⟨by omega, by omega⟩
    omega
  have nd := Qpj p
  obtain ⟨gg1, gg2, gg3⟩ := gc_ok (sp.mono (by omega)) tp np
  obtain ⟨dg, hg1, g3⟩ := QnW (K := 1000000) hr hd1 (by omega) (by omega) (by omega) (by omega) (sp.mono (by omega)) (sd.mono (by omega)) (Qo2 (by omega) _ _ _ gg1) (QoV (by omega) _ _ _ gg2)
  obtain ⟨dbs, hb, g4⟩ := chain3 hg1 sg trm_gcd (gc_len3 np) tg
  obtain ⟨dws, hw1, g5⟩ := chain3 hr (sp.mono (by omega)) tp np hp0
  obtain ⟨dss, hs1, g6⟩ := chain3 hd1 sd (QpL p) (by omega) hd
  have W := hw _ _ _ hb.rwc hw1.rwc hs1.rwc
  clear e0 e1 zb z0 z1 sp hr h0' h1' hd1 hw hb hw1 hs1 hg1 sg gg1 gg2 gg3 sd tp tg hd
  generalize evR p 0 = r0 at *
  generalize evR p 1 = r1 at *
  generalize cmpR 0 1 = c at *
  rcases W with ⟨W1, rfl⟩ | ⟨W1, W2⟩
  · have W2 := y1_none (dp := dp) (db := .row dbs.length dbs) (dw := .row dws.length dws) (ds := .row dss.length dss) (dl := .z true) (i := 0) rfl (by omega)
    have W3 : X G (.loop Qau) (Qjg dp (.row dbs.length dbs) (.row dws.length dws) (.row dss.length dss) (.z true) 0) = some (.x 0, mkS [] []) := by rw [Qag, W2]; rfl
    simp only [Qjg, go_sem] at W3
    simp only [encR, iv] at g g0 g1 h0 h1 W1
    simp -implicitDefEqProofs (maxSteps:=9^8) only [Qax, encR, g, tt, hl, t2, g0, h0, t0, g1, h1, t1, g2, g3, g4, g5, g6, ld, t3, W1, W3, ld4q, decide_true, decide_false, tupG, Qaa, go_sem, iv, bv, reduceCtorEq, ↓reduceIte, Nat.reduceEqDiff]
  · cases t
    · simp only [Qjg, lpE, Bool.false_eq_true, if_false, go_sem] at W2
      simp only [encR, c2R, iv] at g g0 g1 h0 h1 W1 W2
      simp -implicitDefEqProofs (maxSteps:=9^8) only [Qax, encR, g, tt, hl, t2, g0, h0, t0, g1, h1, t1, g2, g3, g4, g5, g6, ld, t3, W1, W2, ld4q, decide_true, decide_false, tupG, Qaa, go_sem, iv, bv, reduceCtorEq, ↓reduceIte, Nat.reduceEqDiff]
    · simp only [Qjg, lpE, if_true, go_sem] at W2
      simp only [encR, c2R, iv] at g g0 g1 h0 h1 W1 W2
      simp -implicitDefEqProofs (maxSteps:=9^8) only [Qax, encR, g, tt, hl, t2, g0, h0, t0, g1, h1, t1, g2, g3, g4, g5, g6, ld, t3, W1, W2, ld4q, decide_true, decide_false, tupG, Qaa, go_sem, iv, bv, reduceCtorEq, ↓reduceIte, Nat.reduceEqDiff]
end
theorem Qro {dp : D} {p : List Rat} (hr : RwR dp p) (sp : SzL 300 p) (np : p.length ≤ 3) (tp : Trm p) : Qah G Qb9 [dp, encR 0, encR 1] = some (.d (bv (staG p))) := by
 by_cases hp0 : p = []
 ·subst hp0
  rw [st_2 (by simp) (by rw [QcM]; exact Rat.le_refl) (by rw [QcM]; exact Rat.le_refl)]
  rcases hr with ⟨rfl, _⟩ | rfl
  ·exact QtF
  ·rw [Qac (cf := Qax) rfl]
   have g := Qb0 (a := 0) (b := 1) (by rw [QeF]; omega) (by rw [Qgh]; omega)
   have t := cmp01
   have hl : lenA (.d (rowR [])) = some 0 := rfl
   have t2 : ((0 : Int) == 0) = true := rfl
   generalize cmpR 0 1 = c at *
   simp only [encR, iv] at g
   simp -implicitDefEqProofs (maxSteps:=9^8) only [Qax, encR, g, t, hl, t2, ld4q, decide_true, decide_false, tupG, Qaa, go_sem, iv, bv, reduceCtorEq, ↓reduceIte, Nat.reduceEqDiff]
 by_cases h : ¬ (0 ≤ evR p 0 ∧ 0 ≤ evR p 1)
 ·rw [st_z h]; exact QtV hr sp np hp0 h
 obtain ⟨h0, h1⟩ := Classical.not_not.1 h
 have z0 : sz (0 : Rat) ≤ 10000 := by rw [QeF]; omega
 have z1 : sz (1 : Rat) ≤ 10000 := by rw [Qgh]; omega
 have s1 : sz (1 : Rat) ≤ 1000 := by rw [Qgh]; omega
 match p, np, hp0, sp, tp, hr, h0, h1 with
 | [u], np, hp0, sp, tp, hr, h0, h1 =>
  rw [st_2 (by simp) h0 h1]
  exact Qts hr sp np hp0 h0 h1 (de_1 u)
 | [u, v], np, hp0, sp, tp, hr, h0, h1 =>
  have hv : v ≠ 0 := tp 1 rfl
  rw [st_2 (by simp) h0 h1]
  refine QhV hr sp np hp0 tp h0 h1 (by rw [de_2 hv]; simp) (by rw [gcd_2 hv]; simp) (by rw [gcd_2 hv]; exact Qfm s1) fun db dw ds hb hw hs => .inl ⟨?_, rfl⟩
  rw [de_2 hv, ch_1 hv] at hs
  exact Qlf hs (by simp) (fun q hq => by rw [List.mem_singleton.1 hq]; exact ⟨Qfm z1, by simp⟩) z0 z1 (by omega) (by omega) (cnt_con 0 1)
 | [a, b, c], np, hp0, sp, tp, hr, h0, h1 =>
  have hc : c ≠ 0 := tp 2 rfl
  obtain ⟨k1, k2, k3⟩ := in3 sp
  have k4 := qz_sz k2 k3
  have k5 := qw_sz k1 k2 k3
  have ec : chP (deP [a, b, c]) = [[-(qz b c), 1], [1]] := by rw [de_3 hc, ch_2 (c2_ne hc), qz_d]
  have ss : ∀ q ∈ [[-(qz b c), 1], [1]], SzL 10000 q ∧ q.length ≤ 1000 := fun q hq => by
   rcases List.mem_cons.1 hq with rfl | hq
   ·exact ⟨QkQ (sz_n (by omega)) z1, by simp⟩
   ·rw [List.mem_singleton.1 hq]; exact ⟨Qfm z1, by simp⟩
  have cl := cnt_lin (qz b c) ld_one
  have hd : deP [a, b, c] ≠ [] := by rw [de_3 hc]; simp
  have sg : gcdP [a, b, c] (deP [a, b, c]) ≠ [] ∧ SzL 1000 (gcdP [a, b, c] (deP [a, b, c])) := by
   by_cases hw : qw a b c = 0
   ·rw [gcd_30 hc hw]; exact ⟨by simp, QkQ (sz_n (by omega)) s1⟩
   ·rw [gcd_3 hc hw]; exact ⟨by simp, Qfm s1⟩
  by_cases hz : ¬ (0 < qz b c ∧ qz b c ≤ 1)
  ·rw [st_30 hc h0 h1 (.inr hz)]
   refine QhV hr sp np hp0 tp h0 h1 hd sg.1 sg.2 fun db dw ds hb hw hs => .inl ⟨?_, rfl⟩
   rw [ec] at hs
   exact Qlf hs (by simp) ss z0 z1 (by omega) (by omega) (by rw [cl, if_neg hz])
  have hz := Classical.not_not.1 hz
  have w1 : ∀ ds, RwC ds (chP (deP [a, b, c])) → Qah G Qbc [ds, encR 0, encR 1] = some (.own 8 1 (c2R (0, 1))) := fun ds hs => by
   rw [ec] at hs
   exact Qrp hs (by simp) ss z0 z1 (by omega) (by omega) (by rw [cl, if_pos hz])
  by_cases hw0 : qw a b c = 0
  ·rw [st_30 hc h0 h1 (.inl hw0)]
   refine QhV hr sp np hp0 tp h0 h1 hd sg.1 sg.2 fun db dw ds hb hw hs => .inr ⟨w1 ds hs, ?_⟩
   have eb : chP (gcdP [a, b, c] (deP [a, b, c])) = [[-(qz b c), 1], [1]] := by
    rw [gcd_30 hc hw0, ch_2 (by decide)]
    have i1 : (1 : Rat)⁻¹ = 1 := by decide +kernel
    have e : -(qz b c) / 1 = -(qz b c) := by rw [Rat.div_def, i1, Rat.mul_one]
    rw [e]
   rw [eb] at hb
   have g := y1_skip (dp := dp) (dw := dw) (ds := ds) hb (by simp) ss (x := (0, 1)) z0 z1 (by rw [cl, if_pos hz])
   rw [Qag, g, Option.bind_some, if_pos rfl, Qag, y1_end]; rfl
  ·have eb : chP (gcdP [a, b, c] (deP [a, b, c])) = [[1]] := by rw [gcd_3 hc hw0, ch_1 (by decide)]
   have ew := ch_3 hc hw0
   obtain ⟨_, _, _, so⟩ := Qtd (sp.mono (by omega)) tp np hp0
   rw [ew] at so
   have so := up_K (show 7000 ≤ 10000 by omega) so
   have it0 : itH [[-(qz b c), 1], [1]] 0 = (0, 1) := rfl
   refine QhV hr sp np hp0 tp h0 h1 hd sg.1 sg.2 fun db dw ds hb hw hs => .inr ⟨w1 ds hs, ?_⟩
   rw [eb] at hb
   rw [ew] at hw
   rw [ec] at hs
   obtain ⟨m, m1, m2, m3⟩ := y0_loop (dp := dp) (db := db) (dl := .row 1 (c2R (0, 1))) (i := 0) hc hw0 hz.1 hz.2 (S := 6 * 300 + 7) k5 (by omega) hw hs so ss (15 * (6 * 300 + 7) + 1) 0 (by omega)
   rw [it0] at m3
   obtain ⟨u1, u2⟩ := it_sz hz.1 hz.2 m
   have g := y1_go hr (sp.mono (show 300 ≤ 10000 by omega)) (by simp) hb (by simp) (fun q hq => by rw [List.mem_singleton.1 hq]; exact ⟨Qfm z1, by simp⟩) (x := (0, 1)) z0 z1 (cnt_con 0 1) m3 (by omega)
   rw [st_3 hc h0 h1 hw0 hz.1 hz.2 m2] at g
   rw [Qag, g]
   cases staG [a, b, c]
   ·rfl
   ·rw [Bool.not_true, if_neg (by simp), Option.bind_some, if_pos rfl, Qag, y1_end]; rfl
theorem Qn4 {dp : D} {p : List Rat} (hr : RwR dp p) (sp : SzL 300 p) (np : p.length ≤ 3) (tp : Trm p) : Qah G QgH [dp] = some (.d (bv (staG p))) := by
 rw [Qac (cf := Qff) rfl]
 have g := Qro hr sp np tp
 have o := QaL (n := 1) (d := 1) ⟨by omega, by omega⟩ ⟨by omega, by omega⟩
 rw [Qck, show ((1 : Int) : Rat) = 1 from rfl] at o
 generalize staG p = t at *
 rw [Qdv] at g
 generalize encR 1 = e1 at *
 simp only [iv] at o
 simp -implicitDefEqProofs (maxSteps:=9^8) only [Qff, Qdb, QbF, g, o, go_sem, iv, bv, reduceCtorEq, ↓reduceIte, Nat.reduceEqDiff]
end Go.AM

/- ref13: Free, Meet, Best, Contact. -/
namespace Go.AM
open Go Go.RowKit
theorem Qrc (F : Eg → Rat × Bool) (O : List Eg) : ∀ (n k : Nat), (grS F O n).1 = (k : Int) → k < n ∧ (grS F O n).2 = (F (O.getD k default)).1
 | 0, k, h => by rw [grS] at h; exact absurd h (by dsimp only; omega)
 | n + 1, k, h => by
  rw [grS] at h ⊢
  split at h
  ·rename_i hc
   rw [if_pos hc]
   have : n = k := by dsimp only at h; omega
   subst this
   exact ⟨by omega, rfl⟩
  ·rename_i hc
   rw [if_neg hc]
   obtain ⟨h1, h2⟩ := Qrc F O n k h
   exact ⟨by omega, h2⟩
def Qhs (d : D) (r v a : Vc) (i : Int) : St := mkS [(0, .d d), (5, .ptr [5] 0), (6, .ptr [6] 0), (7, .ptr [7] 0), (9, ai i)] [([5], bxV r), ([6], bxV v), ([7], bxV a)]
def Qha (d : D) (r : Vc) (i : Int) : St := mkS [(0, .d d), (3, .ptr [3] 0), (5, ai i)] [([3], bxV r)]
def Qb1 (d : D) (r v : Vc) (b i : Int) : St := mkS [(0, .d d), (4, .ptr [4] 0), (5, .ptr [5] 0), (7, ai b), (8, ai i)] [([4], bxV r), ([5], bxV v)]
theorem eg_drop {O : List Eg} {i : Nat} (h : i < O.length) : O.drop i = O.getD i default :: O.drop (i + 1) := by
 rw [List.drop_eq_getElem_cons h, List.getD_eq_getElem?_getD, List.getElem?_eq_getElem h, Option.getD_some]
variable [Its]
section
variable {d : D} {O : List Eg} {r v a : Vc} {K : Nat}
theorem q13rf_go (hO : RwE cG d O) (hn : O.length ≤ 1000) (hK : K ≤ 143) (he : ∀ e ∈ O, AtE e) (hr : SzV K r) (hv : SzV K v) (ha : SzV K a) {i : Nat} (hi : i < O.length) :
    X G QbJ (Qhs d r v a i) = if staG (alP (O.getD i default) r v a) = true then some (.r, mkS [(8, ai i)] []) else some (.n, Qhs d r v a ((i + 1 : Nat) : Int)) := by
  have e1 : decide ((i : Int) < (O.length : Int)) = true := lt_t (by omega)
  have e2 : w64 ((i : Int) + 1) = ((i + 1 : Nat) : Int) := by rw [Qad (by omega) (by omega)]; rfl
  have ll := hO.len
  have x1 := hO.ixa QeM hi
  have x2 := fun hp => ldE QeM hp hi
  have hE := he _ (egm hi)
  generalize O.getD i default = e at *
  obtain ⟨d', hd', g1⟩ := QqH (K := K) (by omega) hE hr hv ha
  have hs := (QsB hE hr hv ha).trim
  have g2 := Qn4 hd' (hs.mono (L := 300) (by omega)) (Nat.le_trans (QfK _) (by simp [alL])) (Qco _)
  generalize staG (alP e r v a) = t at *
  clear hs hd' hE he hr hv ha
  obtain ⟨⟨a1, b1, c1⟩, t1⟩ := e
  obtain ⟨r1, r2⟩ := r
  obtain ⟨v1, v2⟩ := v
  obtain ⟨a1', a2'⟩ := a
  simp only [encG, cG, encV, iv, bv] at x2 g1 g2
  cases t
  · simp -implicitDefEqProofs (maxSteps:=9^8) only [QbJ, Qhs, bxV, ll, x1, x2, g1, g2, e1, e2, ld8, Bool.false_eq_true, if_false, Qaa, go_sem, iv, bv, reduceCtorEq, ↓reduceIte, Nat.reduceEqDiff]
  · simp -implicitDefEqProofs (maxSteps:=9^8) only [QbJ, Qhs, bxV, ll, x1, x2, g1, g2, e1, e2, ld8, if_true, Qaa, go_sem, iv, bv, reduceCtorEq, ↓reduceIte, Nat.reduceEqDiff]
theorem Qt0 (hO : RwE cG d O) : X G QbJ (Qhs d r v a O.length) = some (.x 0, mkS [] []) := by
 have e1 : decide ((O.length : Int) < (O.length : Int)) = false := lt_f (by omega)
 have ll := hO.len
 simp -implicitDefEqProofs (maxSteps:=9^8) only [QbJ, Qhs, bxV, ll, e1, Qaa, go_sem, iv, bv, reduceCtorEq, ↓reduceIte, Nat.reduceEqDiff]
theorem QnH        (hO : RwE cG d O) (hn : O.length ≤ 1000) (hK : K ≤ 143) (he : ∀ e ∈ O, AtE e) (hr : SzV K r) (hv : SzV K v) (ha : SzV K a) : ∀ (j i : Nat), i + j = O.length →
    X G (.loop QbJ) (Qhs d r v a i) = (if fiE (fun e => staG (alP e r v a)) O j i = -1 then some (.x 0, mkS [] []) else some (.r, mkS [(8, ai (fiE (fun e => staG (alP e r v a)) O j i))] []))
  | 0, i, h => by
    have : i = O.length := by omega
    subst this
    rw [Qag, Qt0 hO, fiE, if_pos rfl]; rfl
  | j + 1, i, h => by
    rw [Qag, q13rf_go hO hn hK he hr hv ha (by omega), fiE]
    by_cases hp : staG (alP (O.getD i default) r v a) = true
    · rw [if_pos hp, if_pos hp, if_neg (by omega)]; rfl
    · rw [if_neg hp, if_neg hp, Option.bind_some, if_pos rfl]
      exact QnH hO hn hK he hr hv ha j (i + 1) (by omega)
theorem Qti (hO : RwE cG d O) (hn : O.length ≤ 1000) (hK : K ≤ 143) (he : ∀ e ∈ O, AtE e) (hr : SzV K r) (hv : SzV K v) (ha : SzV K a) : Qah G Qhn [d, encV r, encV v, encV a] = some (.d (iv (fiE (fun e => staG (alP e r v a)) O O.length 0))) := by
 rw [Qac (cf := Qew) rfl]
 have g := QnH hO hn hK he hr hv ha O.length 0 (by omega)
 generalize fiE _ O O.length 0 = z at *
 clear hr hv ha
 obtain ⟨r1, r2⟩ := r
 obtain ⟨v1, v2⟩ := v
 obtain ⟨a1, a2⟩ := a
 simp only [Qhs, bxV, nc0, go_sem] at g
 by_cases hz : z = -1
 ·subst hz
  simp only [if_true] at g
  simp -implicitDefEqProofs (maxSteps:=9^8) only [Qew, encV, g, Qaa, go_sem, iv, bv, reduceCtorEq, ↓reduceIte, Nat.reduceEqDiff]
 ·rw [if_neg hz] at g
  simp -implicitDefEqProofs (maxSteps:=9^8) only [Qew, encV, g, Qaa, go_sem, iv, bv, reduceCtorEq, ↓reduceIte, Nat.reduceEqDiff]
theorem q13rm_go (hO : RwE cG d O) (hn : O.length ≤ 1000) (hK : K ≤ 10000) (he : ∀ e ∈ O, AtE e) (hr : SzV K r) {i : Nat} (hi : i < O.length) :
    X G QbG (Qha d r i) = if decide (0 ≤ gpR (O.getD i default) r) = true then some (.r, mkS [(4, ab false)] []) else some (.n, Qha d r ((i + 1 : Nat) : Int)) := by
  have e1 : decide ((i : Int) < (O.length : Int)) = true := lt_t (by omega)
  have e2 : w64 ((i : Int) + 1) = ((i + 1 : Nat) : Int) := by rw [Qad (by omega) (by omega)]; rfl
  have ll := hO.len
  have x1 := hO.ixa QeM hi
  have x2 := fun hp => ldE QeM hp hi
  have hE := he _ (egm hi)
  generalize O.getD i default = e at *
  have g1 := QhT (K := K) (by omega) hE hr
  have z := QlQ hE hr
  have g2 := Qbf (a := gpR e r) (by omega)
  rw [← QmV]
  clear z
  generalize gpR e r = q at *
  generalize Int.sign q.num = s at *
  clear hE he hr
  obtain ⟨⟨a1, b1, c1⟩, t1⟩ := e
  obtain ⟨r1, r2⟩ := r
  simp only [encG, cG, encV, encR, iv, bv] at x2 g1 g2
  by_cases h : s ≥ 0
  · rw [decide_eq_true h, if_pos rfl]
    have t : decide (s ≥ 0) = true := decide_eq_true h
    simp -implicitDefEqProofs (maxSteps:=9^8) only [QbG, Qha, bxV, ll, x1, x2, g1, g2, t, e1, e2, ld8, Qaa, go_sem, iv, bv, reduceCtorEq, ↓reduceIte, Nat.reduceEqDiff]
  · rw [decide_eq_false h, if_neg (by simp)]
    have t : decide (s ≥ 0) = false := decide_eq_false h
    simp -implicitDefEqProofs (maxSteps:=9^8) only [QbG, Qha, bxV, ll, x1, x2, g1, g2, t, e1, e2, ld8, Qaa, go_sem, iv, bv, reduceCtorEq, ↓reduceIte, Nat.reduceEqDiff]
theorem Qto (hO : RwE cG d O) : X G QbG (Qha d r O.length) = some (.x 0, mkS [] []) := by
 have e1 : decide ((O.length : Int) < (O.length : Int)) = false := lt_f (by omega)
 have ll := hO.len
 simp -implicitDefEqProofs (maxSteps:=9^8) only [QbG, Qha, bxV, ll, e1, Qaa, go_sem, iv, bv, reduceCtorEq, ↓reduceIte, Nat.reduceEqDiff]
theorem Qnq        (hO : RwE cG d O) (hn : O.length ≤ 1000) (hK : K ≤ 10000) (he : ∀ e ∈ O, AtE e) (hr : SzV K r) : ∀ (j i : Nat), i + j = O.length →
    X G (.loop QbG) (Qha d r i) = if ((O.drop i).any fun e => decide (0 ≤ gpR e r)) = true then some (.r, mkS [(4, ab false)] []) else some (.x 0, mkS [] [])
  | 0, i, h => by
    have : i = O.length := by omega
    subst this
    rw [Qag, Qto hO, List.drop_length, List.any_nil, if_neg (by simp)]; rfl
  | j + 1, i, h => by
    rw [Qag, q13rm_go hO hn hK he hr (by omega), eg_drop (show i < O.length by omega), List.any_cons]
    by_cases hp : decide (0 ≤ gpR (O.getD i default) r) = true
    · rw [if_pos hp, hp, Bool.true_or, if_pos rfl]; rfl
    · rw [if_neg hp, Option.bind_some, if_pos rfl, Bool.eq_false_iff.2 hp, Bool.false_or]
      exact Qnq hO hn hK he hr j (i + 1) (by omega)
theorem Qtz (hO : RwE cG d O) (hn : O.length ≤ 1000) (hK : K ≤ 10000) (he : ∀ e ∈ O, AtE e) (hr : SzV K r) : Qah G Qho [d, encV r] = some (.d (bv (meG O r))) := by
 rw [Qac (cf := Qey) rfl]
 have g := Qnq hO hn hK he hr O.length 0 (by omega)
 rw [List.drop_zero] at g
 unfold meG
 generalize (O.any fun e => decide (0 ≤ gpR e r)) = t at *
 clear hr
 obtain ⟨r1, r2⟩ := r
 simp only [Qha, bxV, nc0, go_sem] at g
 cases t
 ·simp only [Bool.false_eq_true, if_false] at g
  simp -implicitDefEqProofs (maxSteps:=9^8) only [Qey, encV, g, Bool.not_false, Qaa, go_sem, iv, bv, reduceCtorEq, ↓reduceIte, Nat.reduceEqDiff]
 ·simp only [if_true] at g
  simp -implicitDefEqProofs (maxSteps:=9^8) only [Qey, encV, g, Bool.not_true, Qaa, go_sem, iv, bv, reduceCtorEq, ↓reduceIte, Nat.reduceEqDiff]
def beF (r v : Vc) (e : Eg) : Rat × Bool := (gpR e v, decide (0 ≤ gpR e r))
set_option maxHeartbeats 1000000 in
theorem q13rb_go (hO : RwE cG d O) (hn : O.length ≤ 1000) (hK : K ≤ 10000) (he : ∀ e ∈ O, AtE e) (hr : SzV K r) (hv : SzV K v) {i : Nat} (hi : i < O.length) :
    X G Qa1 (Qb1 d r v (grS (beF r v) O i).1 i) = some (.n, Qb1 d r v (grS (beF r v) O (i + 1)).1 ((i + 1 : Nat) : Int)) := by
  have e1 : decide ((i : Int) < (O.length : Int)) = true := lt_t (by omega)
  have e2 : w64 ((i : Int) + 1) = ((i + 1 : Nat) : Int) := by rw [Qad (by omega) (by omega)]; rfl
  have ll := hO.len
  have x1 := hO.ixa QeM hi
  have x2 := fun hp => ldE QeM hp hi
  have hE := he _ (egm hi)
  have g1 := QhT (K := K) (by omega) hE hr
  have z := QlQ hE hr
  have g2 := Qbf (a := gpR (O.getD i default) r) (by omega)
  have t0 : decide (Int.sign (gpR (O.getD i default) r).num < 0) = !decide (0 ≤ gpR (O.getD i default) r) := by
    rw [QfE]
    by_cases h : 0 ≤ gpR (O.getD i default) r
    · rw [decide_eq_true h, decide_eq_false (Rat.not_lt.2 h)]; rfl
    · rw [decide_eq_false h, decide_eq_true (Rat.not_le.1 h)]; rfl
  have gr : grS (beF r v) O (i + 1) = if decide (0 ≤ gpR (O.getD i default) r) && (decide ((grS (beF r v) O i).1 < 0) || decide ((grS (beF r v) O i).2 < gpR (O.getD i default) v)) then ((i : Int), gpR (O.getD i default) v) else grS (beF r v) O i := rfl
  rw [gr]
  clear gr
  by_cases h0 : 0 ≤ gpR (O.getD i default) r
  · rw [decide_eq_true h0] at t0 ⊢
    rcases grS_at (beF r v) O i with ⟨h1, _⟩ | ⟨k, h1, h2, _⟩
    · rw [h1]
      have t1 : decide ((-1 : Int) < 0) = true := rfl
      rw [t1, Bool.true_or, Bool.and_self, if_pos rfl]
      clear h1 h0 z he hr hv
      generalize gpR (O.getD i default) r = q at *
      generalize Int.sign q.num = s at *
      generalize O.getD i default = e at *
      obtain ⟨⟨a1, b1, c1⟩, f1⟩ := e
      obtain ⟨r1, r2⟩ := r
      obtain ⟨v1, v2⟩ := v
      simp only [encG, cG, encV, encR, iv, bv] at x2 g1 g2
      simp -implicitDefEqProofs (maxSteps:=9^8) only [Qa1, Qb1, bxV, ll, x1, x2, g1, g2, t0, t1, e1, e2, ld8, Bool.not_true, Qaa, go_sem, iv, bv, reduceCtorEq, ↓reduceIte, Nat.reduceEqDiff]
    · have hv2 := (Qrc (beF r v) O i k h2).2
      have hk : k < O.length := by omega
      have h2' := h2
      rw [h2, hv2]
      have y1 := hO.ixa QeM hk
      have y2 := fun hp => ldE QeM hp hk
      have hE2 := he _ (egm hk)
      have g3 := QhT (K := K) (by omega) hE hv
      have g4 := QhT (K := K) (by omega) hE2 hv
      have z3 := QlQ hE hv
      have z4 := QlQ hE2 hv
      have g5 := Qb0 (a := gpR (O.getD i default) v) (b := gpR (O.getD k default) v) (by omega) (by omega)
      have t3 := Qox (a := gpR (O.getD i default) v) (b := gpR (O.getD k default) v)
      have t1 : decide ((k : Int) < 0) = false := lt_f (by omega)
      have eb : (beF r v (O.getD k default)).1 = gpR (O.getD k default) v := rfl
      rw [t1, Bool.false_or, Bool.true_and, eb]
      clear eb h1 h2 hv2 z z3 z4 hE hE2 h0 he hr hv
      generalize decide (gpR (O.getD k default) v < gpR (O.getD i default) v) = t at *
      generalize cmpR (gpR (O.getD i default) v) (gpR (O.getD k default) v) = c at *
      generalize gpR (O.getD k default) v = q3 at *
      generalize gpR (O.getD i default) v = q2 at *
      generalize gpR (O.getD i default) r = q at *
      generalize Int.sign q.num = s at *
      generalize O.getD i default = e at *
      generalize O.getD k default = f at *
      obtain ⟨⟨a1, b1, c1⟩, f1⟩ := e
      obtain ⟨⟨a2, b2, c2⟩, f2⟩ := f
      obtain ⟨r1, r2⟩ := r
      obtain ⟨v1, v2⟩ := v
      simp only [encG, cG, encV, encR, iv, bv] at x2 y2 g1 g2 g3 g4 g5
      cases t
      · rw [if_neg (by simp), h2']
        simp -implicitDefEqProofs (maxSteps:=9^8) only [Qa1, Qb1, bxV, ll, x1, x2, y1, y2, g1, g2, g3, g4, g5, t0, t1, t3, e1, e2, ld8, Bool.not_true, Qaa, go_sem, iv, bv, reduceCtorEq, ↓reduceIte, Nat.reduceEqDiff]
      · rw [if_pos rfl]
        simp -implicitDefEqProofs (maxSteps:=9^8) only [Qa1, Qb1, bxV, ll, x1, x2, y1, y2, g1, g2, g3, g4, g5, t0, t1, t3, e1, e2, ld8, Bool.not_true, Qaa, go_sem, iv, bv, reduceCtorEq, ↓reduceIte, Nat.reduceEqDiff]
  · rw [decide_eq_false h0] at t0 ⊢
    rw [Bool.false_and, if_neg (by simp)]
    clear h0 z he hr hv
    generalize (grS (beF r v) O i).1 = b at *
    generalize gpR (O.getD i default) r = q at *
    generalize Int.sign q.num = s at *
    generalize O.getD i default = e at *
    obtain ⟨⟨a1, b1, c1⟩, f1⟩ := e
    obtain ⟨r1, r2⟩ := r
    obtain ⟨v1, v2⟩ := v
    simp only [encG, cG, encV, encR, iv, bv] at x2 g1 g2
    simp -implicitDefEqProofs (maxSteps:=9^8) only [Qa1, Qb1, bxV, ll, x1, x2, g1, g2, t0, e1, e2, ld8, Bool.not_false, Qaa, go_sem, iv, bv, reduceCtorEq, ↓reduceIte, Nat.reduceEqDiff]
theorem Qt9 (hO : RwE cG d O) {b : Int} : X G Qa1 (Qb1 d r v b O.length) = some (.x 0, mkS [(7, ai b)] []) := by
 have e1 : decide ((O.length : Int) < (O.length : Int)) = false := lt_f (by omega)
 have ll := hO.len
 simp -implicitDefEqProofs (maxSteps:=9^8) only [Qa1, Qb1, bxV, ll, e1, Qaa, go_sem, iv, bv, reduceCtorEq, ↓reduceIte, Nat.reduceEqDiff]
theorem QnF        (hO : RwE cG d O) (hn : O.length ≤ 1000) (hK : K ≤ 10000) (he : ∀ e ∈ O, AtE e) (hr : SzV K r) (hv : SzV K v) : ∀ (j i : Nat), i + j = O.length →
    X G (.loop Qa1) (Qb1 d r v (grS (beF r v) O i).1 i) = some (.x 0, mkS [(7, ai (grS (beF r v) O O.length).1)] [])
  | 0, i, h => by
    have : i = O.length := by omega
    subst this
    rw [Qag, Qt9 hO]; rfl
  | j + 1, i, h => by
    rw [Qag, q13rb_go hO hn hK he hr hv (by omega), Option.bind_some, if_pos rfl]
    exact QnF hO hn hK he hr hv j (i + 1) (by omega)
theorem QtP (hO : RwE cG d O) (hn : O.length ≤ 1000) (hK : K ≤ 10000) (he : ∀ e ∈ O, AtE e) (hr : SzV K r) (hv : SzV K v) : Qah G Qhm [d, encV r, encV v] = some (.d (iv (beG O r v))) := by
 rw [Qac (cf := Qgk) rfl]
 have g := QnF hO hn hK he hr hv O.length 0 (by omega)
 have e0 : (grS (beF r v) O 0).1 = -1 := rfl
 have e1 : (grS (beF r v) O O.length).1 = beG O r v := rfl
 rw [e0, e1] at g
 generalize beG O r v = z at *
 clear hr hv e0 e1
 obtain ⟨r1, r2⟩ := r
 obtain ⟨v1, v2⟩ := v
 simp only [Qb1, bxV, nc0, go_sem] at g
 simp -implicitDefEqProofs (maxSteps:=9^8) only [Qgk, encV, g, Qaa, go_sem, iv, bv, reduceCtorEq, ↓reduceIte, Nat.reduceEqDiff]
def coF (r v : Vc) (e : Eg) : Rat × Bool := (rtR e.1 v, decide (gpR e r = 0))
set_option maxHeartbeats 2000000 in
theorem q13rc_go (hO : RwE cG d O) (hn : O.length ≤ 1000) (hK : K ≤ 10000) (he : ∀ e ∈ O, AtE e) (hr : SzV K r) (hv : SzV K v) {i : Nat} (hi : i < O.length) :
    X G Qas (Qb1 d r v (grS (coF r v) O i).1 i) = if opB r v (O.getD i default) = true then some (.r, mkS [(6, ai (-1))] []) else some (.n, Qb1 d r v (grS (coF r v) O (i + 1)).1 ((i + 1 : Nat) : Int)) := by
  have e1 : decide ((i : Int) < (O.length : Int)) = true := lt_t (by omega)
  have e2 : w64 ((i : Int) + 1) = ((i + 1 : Nat) : Int) := by rw [Qad (by omega) (by omega)]; rfl
  have ll := hO.len
  have x1 := hO.ixa QeM hi
  have x2 := fun hp => ldE QeM hp hi
  have hE := he _ (egm hi)
  have g1 := QhT (K := K) (by omega) hE hr
  have z := QlQ hE hr
  have g2 := Qbf (a := gpR (O.getD i default) r) (by omega)
  have g3 := QjY (K := K) (by omega) hE hv
  have z2 := Qlb hE.1 hv
  have g4 := Qbf (a := rtR (O.getD i default).1 v) (by omega)
  have tp := Qkx (x := gpR (O.getD i default) r)
  have tz := QoY (x := gpR (O.getD i default) r)
  have tn := QfE (x := gpR (O.getD i default) r)
  have tr := Qkx (x := rtR (O.getD i default).1 v)
  have gr : grS (coF r v) O (i + 1) = if decide (gpR (O.getD i default) r = 0) && (decide ((grS (coF r v) O i).1 < 0) || decide ((grS (coF r v) O i).2 < rtR (O.getD i default).1 v)) then ((i : Int), rtR (O.getD i default).1 v) else grS (coF r v) O i := rfl
  rw [gr]
  clear gr
  unfold opB
  by_cases h0 : 0 < gpR (O.getD i default) r
  · rw [decide_eq_true h0] at tp ⊢
    rw [Bool.true_or, if_pos rfl]
    clear h0 z z2 he hr hv tz tn tr g3 g4
    generalize (grS (coF r v) O i).1 = b at *
    generalize gpR (O.getD i default) r = q at *
    generalize Int.sign q.num = s at *
    generalize O.getD i default = e at *
    obtain ⟨⟨a1, b1, c1⟩, f1⟩ := e
    obtain ⟨r1, r2⟩ := r
    obtain ⟨v1, v2⟩ := v
    simp only [encG, cG, encV, encR, iv, bv] at x2 g1 g2
    simp -implicitDefEqProofs (maxSteps:=9^8) only [Qas, Qb1, bxV, ll, x1, x2, g1, g2, tp, e1, e2, ld8, decide_true, decide_false, tupG, Qaa, go_sem, iv, bv, reduceCtorEq, ↓reduceIte, Nat.reduceEqDiff]
  rw [decide_eq_false h0] at tp ⊢
  rw [Bool.false_or]
  by_cases h1 : ¬ gpR (O.getD i default) r = 0
  · have hneg : gpR (O.getD i default) r < 0 := by
      have := Rat.not_lt.1 h0
      grind
    rw [decide_eq_true hneg] at tn
    rw [decide_eq_false h1] at tz ⊢
    rw [Bool.false_and, Bool.false_and, if_neg (by simp), if_neg (by simp)]
    clear h0 h1 hneg z z2 he hr hv tr g3 g4
    generalize (grS (coF r v) O i).1 = b at *
    generalize gpR (O.getD i default) r = q at *
    generalize Int.sign q.num = s at *
    generalize O.getD i default = e at *
    obtain ⟨⟨a1, b1, c1⟩, f1⟩ := e
    obtain ⟨r1, r2⟩ := r
    obtain ⟨v1, v2⟩ := v
    simp only [encG, cG, encV, encR, iv, bv] at x2 g1 g2
    simp -implicitDefEqProofs (maxSteps:=9^8) only [Qas, Qb1, bxV, ll, x1, x2, g1, g2, tp, tz, tn, e1, e2, ld8, decide_true, decide_false, tupG, Qaa, go_sem, iv, bv, reduceCtorEq, ↓reduceIte, Nat.reduceEqDiff]
  have h1 := Classical.not_not.1 h1
  have hnn : ¬ gpR (O.getD i default) r < 0 := by rw [h1]; exact Rat.lt_irrefl
  rw [decide_eq_false hnn] at tn
  rw [decide_eq_true h1] at tz ⊢
  rw [Bool.true_and, Bool.true_and]
  by_cases h2 : 0 < rtR (O.getD i default).1 v
  · rw [decide_eq_true h2] at tr ⊢
    rw [if_pos rfl]
    clear h0 h1 h2 hnn z z2 he hr hv tn
    generalize (grS (coF r v) O i).1 = b at *
    generalize rtR (O.getD i default).1 v = q2 at *
    generalize Int.sign q2.num = s2 at *
    generalize gpR (O.getD i default) r = q at *
    generalize Int.sign q.num = s at *
    generalize O.getD i default = e at *
    obtain ⟨⟨a1, b1, c1⟩, f1⟩ := e
    obtain ⟨r1, r2⟩ := r
    obtain ⟨v1, v2⟩ := v
    simp only [encG, cG, encV, encR, iv, bv] at x2 g1 g2 g3 g4
    simp -implicitDefEqProofs (maxSteps:=9^8) only [Qas, Qb1, bxV, ll, x1, x2, g1, g2, g3, g4, tp, tz, tr, e1, e2, ld8, decide_true, decide_false, tupG, Qaa, go_sem, iv, bv, reduceCtorEq, ↓reduceIte, Nat.reduceEqDiff]
  rw [decide_eq_false h2] at tr ⊢
  rw [if_neg (by simp)]
  rcases grS_at (coF r v) O i with ⟨k1, _⟩ | ⟨k, k1, k2, _⟩
  · rw [k1]
    have t1 : decide ((-1 : Int) < 0) = true := rfl
    rw [t1, Bool.true_or, if_pos rfl]
    clear h0 h1 h2 hnn z z2 he hr hv k1
    generalize rtR (O.getD i default).1 v = q2 at *
    generalize Int.sign q2.num = s2 at *
    generalize gpR (O.getD i default) r = q at *
    generalize Int.sign q.num = s at *
    generalize O.getD i default = e at *
    obtain ⟨⟨a1, b1, c1⟩, f1⟩ := e
    obtain ⟨r1, r2⟩ := r
    obtain ⟨v1, v2⟩ := v
    simp only [encG, cG, encV, encR, iv, bv] at x2 g1 g2 g3 g4
    simp -implicitDefEqProofs (maxSteps:=9^8) only [Qas, Qb1, bxV, ll, x1, x2, g1, g2, g3, g4, tp, tz, tn, tr, t1, e1, e2, ld8, decide_true, decide_false, tupG, Qaa, go_sem, iv, bv, reduceCtorEq, ↓reduceIte, Nat.reduceEqDiff]
  · have hv2 := (Qrc (coF r v) O i k k2).2
    have hk : k < O.length := by omega
    have k2' := k2
    rw [k2, hv2]
    have y1 := hO.ixa QeM hk
    have y2 := fun hp => ldE QeM hp hk
    have hE2 := he _ (egm hk)
    have g5 := QjY (K := K) (by omega) hE2 hv
    have z4 := Qlb hE2.1 hv
    have g6 := Qb0 (a := rtR (O.getD i default).1 v) (b := rtR (O.getD k default).1 v) (by omega) (by omega)
    have t3 := Qox (a := rtR (O.getD i default).1 v) (b := rtR (O.getD k default).1 v)
    have t1 : decide ((k : Int) < 0) = false := lt_f (by omega)
    have eb : (coF r v (O.getD k default)).1 = rtR (O.getD k default).1 v := rfl
    rw [t1, Bool.false_or, eb]
    clear eb h0 h1 h2 hnn hv2 k1 k2 z z2 z4 hE hE2 he hr hv
    generalize decide (rtR (O.getD k default).1 v < rtR (O.getD i default).1 v) = t at *
    generalize cmpR (rtR (O.getD i default).1 v) (rtR (O.getD k default).1 v) = c at *
    generalize rtR (O.getD k default).1 v = q3 at *
    generalize rtR (O.getD i default).1 v = q2 at *
    generalize gpR (O.getD i default) r = q at *
    generalize Int.sign q.num = s at *
    generalize Int.sign q2.num = s2 at *
    generalize O.getD i default = e at *
    generalize O.getD k default = f at *
    obtain ⟨⟨a1, b1, c1⟩, f1⟩ := e
    obtain ⟨⟨a2, b2, c2⟩, f2⟩ := f
    obtain ⟨r1, r2⟩ := r
    obtain ⟨v1, v2⟩ := v
    simp only [encG, cG, encV, encR, iv, bv] at x2 y2 g1 g2 g3 g4 g5 g6
    cases t
    · rw [if_neg (by simp), k2']
      simp -implicitDefEqProofs (maxSteps:=9^8) only [Qas, Qb1, bxV, ll, x1, x2, y1, y2, g1, g2, g3, g4, g5, g6, tp, tz, tn, tr, t1, t3, e1, e2, ld8, decide_true, decide_false, tupG, Qaa, go_sem, iv, bv, reduceCtorEq, ↓reduceIte, Nat.reduceEqDiff]
    · rw [if_pos rfl]
      simp -implicitDefEqProofs (maxSteps:=9^8) only [Qas, Qb1, bxV, ll, x1, x2, y1, y2, g1, g2, g3, g4, g5, g6, tp, tz, tn, tr, t1, t3, e1, e2, ld8, decide_true, decide_false, tupG, Qaa, go_sem, iv, bv, reduceCtorEq, ↓reduceIte, Nat.reduceEqDiff]
theorem Qt3 (hO : RwE cG d O) {b : Int} : X G Qas (Qb1 d r v b O.length) = some (.x 0, mkS [(7, ai b)] []) := by
 have e1 : decide ((O.length : Int) < (O.length : Int)) = false := lt_f (by omega)
 have ll := hO.len
 simp -implicitDefEqProofs (maxSteps:=9^8) only [Qas, Qb1, bxV, ll, e1, Qaa, go_sem, iv, bv, reduceCtorEq, ↓reduceIte, Nat.reduceEqDiff]
theorem Qnx        (hO : RwE cG d O) (hn : O.length ≤ 1000) (hK : K ≤ 10000) (he : ∀ e ∈ O, AtE e) (hr : SzV K r) (hv : SzV K v) : ∀ (j i : Nat), i + j = O.length →
    X G (.loop Qas) (Qb1 d r v (grS (coF r v) O i).1 i) = if (O.drop i).any (opB r v) = true then some (.r, mkS [(6, ai (-1))] []) else some (.x 0, mkS [(7, ai (grS (coF r v) O O.length).1)] [])
  | 0, i, h => by
    have : i = O.length := by omega
    subst this
    rw [Qag, Qt3 hO, List.drop_length, List.any_nil, if_neg (by simp)]; rfl
  | j + 1, i, h => by
    rw [Qag, q13rc_go hO hn hK he hr hv (by omega), eg_drop (show i < O.length by omega), List.any_cons]
    by_cases hp : opB r v (O.getD i default) = true
    · rw [if_pos hp, hp, Bool.true_or, if_pos rfl]; rfl
    · rw [if_neg hp, Option.bind_some, if_pos rfl, Bool.eq_false_iff.2 hp, Bool.false_or]
      exact Qnx hO hn hK he hr hv j (i + 1) (by omega)
theorem QtY (hO : RwE cG d O) (hn : O.length ≤ 1000) (hK : K ≤ 10000) (he : ∀ e ∈ O, AtE e) (hr : SzV K r) (hv : SzV K v) : Qah G QfT [d, encV r, encV v] = some (.d (iv (coG O r v))) := by
 rw [Qac (cf := Qdo) rfl]
 have g := Qnx hO hn hK he hr hv O.length 0 (by omega)
 have e0 : (grS (coF r v) O 0).1 = -1 := rfl
 rw [e0, List.drop_zero] at g
 have e1 : coG O r v = if O.any (opB r v) = true then -1 else (grS (coF r v) O O.length).1 := rfl
 rw [e1]
 generalize (grS (coF r v) O O.length).1 = z at *
 generalize O.any (opB r v) = t at *
 clear hr hv e0 e1
 obtain ⟨r1, r2⟩ := r
 obtain ⟨v1, v2⟩ := v
 simp only [Qb1, bxV, nc0, go_sem] at g
 cases t
 ·simp only [Bool.false_eq_true, if_false] at g
  simp -implicitDefEqProofs (maxSteps:=9^8) only [Qdo, encV, g, Bool.false_eq_true, if_false, Qaa, go_sem, iv, bv, reduceCtorEq, ↓reduceIte, Nat.reduceEqDiff]
 ·simp only [if_true] at g
  simp -implicitDefEqProofs (maxSteps:=9^8) only [Qdo, encV, g, if_true, Qaa, go_sem, iv, bv, reduceCtorEq, ↓reduceIte, Nat.reduceEqDiff]
end
end Go.AM

/- convex.Sides. -/
namespace Go.AM
open Go Go.RowKit

def hO (O : List Eg) : List (Key × Obj) := if O = [] then [] else [([21, 0], arE cG 4 O.length O)]
variable [Its]
structure AdF (da db : D) (a b : List Pt) (O : List Eg) (d : Dr) : Prop where
 co : Qah G QaK [dE cG O, .fn Qj7 [.rp (cD d)]] = some (.d (bv (O.any fun e => eqDr e.1 d)))
 m1 : Qah G Qks [da, encD d] = some (.d (iv (moP d a)))
 tn : Qah G Qmv [encD d] = some (.d (encD (tnD d)))
 m2 : Qah G Qks [db, encD (tnD d)] = some (.d (iv (moP (tnD d) b)))
 wr : w64 (moP d a + moP (tnD d) b) = moP d a + moP (tnD d) b
end Go.AM

/- convex: Area, Valid; searching rows of points. -/
namespace Go.AM
open Go Go.RowKit

def cvB (l : List Pt) : Bool := (List.range l.length).all fun i => (List.range l.length).all fun k => k == i || k == (i + 1) % l.length || decide (0 < crI (l.getD i default) (nxP l i) (l.getD k default))
structure Lim (l : List Pt) : Prop where
 cv : cvB l = true
 lo : 3 ≤ l.length
 hi : l.length ≤ 8
 bd : ∀ p ∈ l, (-1048576 ≤ p.1 ∧ p.1 ≤ 1048576) ∧ (-1048576 ≤ p.2 ∧ p.2 ≤ 1048576)
variable [Its]
/-! ### Searching -/
section
variable {d : D} {O : List Pt} {f : Nat} {caps : List D} {p : Pt → Bool}
end
end Go.AM

/- Rows of edges: their directions, each once; the same after moving and exchanging; limits of the shapes. -/
namespace Go.AM
open Go Go.RowKit

def uqD (ds : List Dr) : Nat → List Dr
 | 0 => []
 | i + 1 => if frI ds i i then uqD ds i ++ [ds.getD i default] else uqD ds i
def uqS (a b : List Pt) : List Dr := uqD (drs a b) (drs a b).length
def thr (l : List Pt) : Bool := decide (3 ≤ l.length) && !(eqDr (sdN l 0) (sdN l 1)) && !(eqDr (sdN l 0) (sdN l 2)) && !(eqDr (sdN l 1) (sdN l 2))
/-! The base shapes -/
def chkL (l : List Pt) : Bool := cvB l && thr l && decide (l.length ≤ 8) && l.all fun p => decide (-1000 ≤ p.1 ∧ p.1 ≤ 1000) && decide (-1000 ≤ p.2 ∧ p.2 ≤ 1000)
theorem chkL_all : ((List.range 7).all fun c => (List.range 3).all fun k => (List.range 6).all fun m => chkL (spB (c : Int) (1 + (k : Int)) (1 + (m : Int)))) = true := by kernel_rfl
theorem spB_chkL {c k m : Int} (hc : 0 ≤ c ∧ c < 7) (hk : 1 ≤ k ∧ k < 4) (hm : 1 ≤ m ∧ m < 7) : chkL (spB c k m) = true := by
 have h := chkL_all
 rw [List.all_eq_true] at h
 have h1 := h c.toNat (List.mem_range.2 (by omega))
 rw [List.all_eq_true] at h1
 have h2 := h1 (k - 1).toNat (List.mem_range.2 (by omega))
 rw [List.all_eq_true] at h2
 have h3 := h2 (m - 1).toNat (List.mem_range.2 (by omega))
 rwa [show ((c.toNat : Nat) : Int) = c by omega, show 1 + (((k - 1).toNat : Nat) : Int) = k by omega, show 1 + (((m - 1).toNat : Nat) : Int) = m by omega] at h3
theorem crI_mv (x y : Int) (a b c : Pt) : crI (mvP x y a) (mvP x y b) (mvP x y c) = crI a b c := by
 unfold crI mvP
 dsimp only
 rw [show b.1 + x - (a.1 + x) = b.1 - a.1 by omega, show c.2 + y - (a.2 + y) = c.2 - a.2 by omega, show b.2 + y - (a.2 + y) = b.2 - a.2 by omega, show c.1 + x - (a.1 + x) = c.1 - a.1 by omega]
theorem cvB_mv (x y : Int) (l : List Pt) : cvB (l.map (mvP x y)) = cvB l := by
 unfold cvB
 rw [List.length_map, Bool.eq_iff_iff, List.all_eq_true, List.all_eq_true]
 constructor <;> intro h i hi
 all_goals
  have h1 := h i hi
  rw [List.all_eq_true] at *
  intro k hk
  have h2 := h1 k hk
  rw [Qf6 _ _ (List.mem_range.1 hi), mv_nx _ _ (List.mem_range.1 hi), Qf6 _ _ (List.mem_range.1 hk), crI_mv] at *
  exact h2
theorem thr_mv (x y : Int) (l : List Pt) : thr l = true → thr (l.map (mvP x y)) = true := by
 intro h
 unfold thr at *
 rw [List.length_map]
 have h0 : 3 ≤ l.length := by
  simp only [Bool.and_eq_true, decide_eq_true_eq] at h
  exact h.1.1.1
 rw [Qnl _ _ (by omega), Qnl _ _ (by omega), Qnl _ _ (by omega)]
 exact h
theorem lim_mv {c k m x y : Int} (hc : 0 ≤ c ∧ c < 7) (hk : 1 ≤ k ∧ k < 4) (hm : 1 ≤ m ∧ m < 7) (hx : -1000000 ≤ x ∧ x ≤ 1000000) (hy : -1000000 ≤ y ∧ y ≤ 1000000) : Lim ((spB c k m).map (mvP x y)) ∧ thr ((spB c k m).map (mvP x y)) = true := by
 have h := spB_chkL hc hk hm
 unfold chkL at h
 simp only [Bool.and_eq_true, decide_eq_true_eq] at h
 obtain ⟨⟨⟨h1, h2⟩, h3⟩, h4⟩ := h
 have h0 : 3 ≤ (spB c k m).length := by
  unfold thr at h2
  simp only [Bool.and_eq_true, decide_eq_true_eq] at h2
  exact h2.1.1.1
 refine ⟨⟨by rw [cvB_mv]; exact h1, by rw [List.length_map]; exact h0, by rw [List.length_map]; exact h3, ?_⟩, thr_mv _ _ _ h2⟩
 intro p hp
 obtain ⟨q, hq, rfl⟩ := List.mem_map.1 hp
 have := List.all_eq_true.1 h4 q hq
 simp only [Bool.and_eq_true, decide_eq_true_eq] at this
 unfold mvP
 dsimp only
 omega
theorem lim_sh (l : List Int) : Lim (spP l) ∧ thr (spP l) = true := by
 obtain ⟨h1, h2, h3, h4, h5⟩ := sh_b l
 exact lim_mv h1 h2 h3 ⟨by omega, by omega⟩ ⟨by omega, by omega⟩
/-! Moved -/
theorem moP_mv (d : Dr) (x y : Int) {l : List Pt} (h0 : 0 < l.length) : moP d (l.map (mvP x y)) = moP d l + (d.1 * x + d.2.1 * y) := by
 have hd : ∀ i, i < l.length → dotI d ((l.map (mvP x y)).getD i default) = dotI d (l.getD i default) + (d.1 * x + d.2.1 * y) := by
  intro i hi
  rw [Qf6 _ _ hi]
  unfold dotI mvP
  dsimp only
  rw [Int.mul_add, Int.mul_add]
  omega
 have hm : ∀ i, i ≤ l.length → mstN d (l.map (mvP x y)) i = mstN d l i + (d.1 * x + d.2.1 * y) := by
  intro i
  induction i with
  | zero => intro _; exact hd 0 h0
  | succ i ih =>
   intro hi
   have h1 := ih (by omega)
   have h2 := hd i (by omega)
   rw [mstN, mstN, h1, h2]
   omega
 unfold moP
 rw [List.length_map]
 exact hm _ (Nat.le_refl _)
theorem drA_mv (x y : Int) (l : List Pt) (n : Nat) (hn : n ≤ l.length) : drA (l.map (mvP x y)) n = drA l n := by
 unfold drA
 refine List.map_congr_left fun i hi => ?_
 rw [List.mem_range] at hi
 exact Qnl _ _ (by omega)
theorem drB_mv (x y : Int) (l : List Pt) (n : Nat) (hn : n ≤ l.length) : drB (l.map (mvP x y)) n = drB l n := by
 unfold drB
 refine List.map_congr_left fun i hi => ?_
 rw [List.mem_range] at hi
 rw [Qnl _ _ (by omega)]
theorem drs_mv (x y u v : Int) (a b : List Pt) : drs (a.map (mvP x y)) (b.map (mvP u v)) = drs a b := by
 unfold drs
 rw [List.length_map, List.length_map, drA_mv _ _ _ _ (Nat.le_refl _), drB_mv _ _ _ _ (Nat.le_refl _)]
end Go.AM

/- Edges of a pair: bounds; their parts read out of a row. -/
namespace Go.AM
open Go Go.RowKit
end Go.AM

/- SameEdges; ref12.Area; both Box. -/
namespace Go.AM
open Go Go.RowKit
def bxP (x y : Int) : Obj := ⟨0, 0, [.d (iv x), .d (iv y)], false⟩
variable [Its]
end Go.AM

/- Has of both, on the seat of ch. 13 (where CvD has the vectors). Printed by mkcxv.py's parts. -/
namespace Go.AM
open Go Go.RowKit
def hsB (l : List Pt) (v : Vc) (i : Nat) : Rat := (((nxP l i).2 - (l.getD i default).2 : Int) : Rat) * (v.1 - (((l.getD i default).1 : Int) : Rat))
variable [Its]
section
variable {d : D} {l : List Pt} {v : Vc} {K : Nat}
end
end Go.AM

/- ref12.Has; SamePoints. -/
namespace Go.AM
open Go Go.RowKit
variable [Its]
section
variable {d : D} {l : List Pt} {v : Vc} {K : Nat}
end
end Go.AM

/- far, Left, cmp.Or, Sum$1, MinFunc. -/
namespace Go.AM
open Go Go.RowKit
def faI (p q : Pt) : Int := (p.1 - q.1) * (p.1 - q.1) + (p.2 - q.2) * (p.2 - q.2)
def ltQ (p q : Pt) : Bool := decide (p.2 < q.2) || (decide (p.2 = q.2) && decide (p.1 < q.1))
def mnF (l : List Pt) : Nat → Pt
 | 0 => l.getD 0 default
 | i + 1 => if ltQ (l.getD (i + 1) default) (mnF l i) = true then l.getD (i + 1) default else mnF l i
variable [Its]
end Go.AM

/- slices.MinFunc by (Y, X); the sums of all corners. -/
namespace Go.AM
open Go Go.RowKit
theorem QqA {P : Pt → Prop} {l : List Pt} (h0 : ∀ i, P (l.getD i default)) : ∀ i, P (mnF l i)
 | 0 => h0 0
 | i + 1 => by
  rw [mnF]
  split
  ·exact h0 _
  ·exact QqA h0 i
def suR (p : Pt) (b : List Pt) : List Pt := b.map fun q => (p.1 - q.1, p.2 - q.2)
def suA (a b : List Pt) : List Pt := a.flatMap fun p => suR p b
variable [Its]
end Go.AM

/- convex.Sum's first loops: all sums. -/
namespace Go.AM
open Go Go.RowKit
def suO (p q : Pt) : Pt := (p.1 - q.1, p.2 - q.2)
variable [Its]
end Go.AM

/- The hulls of both, plain; they move with the shapes. -/
namespace Go.AM
open Go Go.RowKit
def bsS (last best p : Pt) : Pt := if decide (best = last) || decide (crI last best p < 0) || (decide (crI last best p = 0) && decide (faI last best < faI last p)) then p else best
def nxC (all : List Pt) (last : Pt) : Pt := all.foldl (bsS last) last
def hulC (all : List Pt) (first : Pt) : Nat → List Pt → Pt → Option (List Pt)
 | 0, _, _ => none
 | f + 1, out, last => if nxC all last = first then some out else hulC all first f (out ++ [nxC all last]) (nxC all last)
def okQ (last c p : Pt) : Bool := decide (0 < crI last c p) || (decide (crI last c p = 0) && decide (faI p last ≤ faI c last))
def nxR (all : List Pt) (last : Pt) : Pt := (all.find? fun c => decide (c ≠ last) && all.all (okQ last c)).getD last
def hulR (all : List Pt) (first : Pt) : Nat → List Pt → Pt → Option (List Pt)
 | 0, _, _ => none
 | f + 1, out, last => if nxR all last = first then some out else hulR all first f (out ++ [nxR all last]) (nxR all last)
def onE (a b x : List Pt) (d : Dr) (i : Nat) : Bool :=
 let u := sdx x i
 let v := sdy x i
 let t := if d.1 = 0 then (-u).tdiv d.2.1 else v.tdiv d.1
 decide (0 < t) && decide (v = t * d.1) && decide (-u = t * d.2.1) && decide (dotI d (x.getD i default) = moP d a + moP (tnD d) b)
def edgB (a b x : List Pt) : Bool :=
 ((uqS a b).all fun d => (List.range x.length).any fun i => onE a b x d i) && ((List.range x.length).all fun i => (uqS a b).any fun d => onE a b x d i)
def bas (c : Int) : List (List Pt) := (List.range 3).flatMap fun (k : Nat) => (List.range (if c = 2 ∨ c = 5 then 6 else 1)).map fun (m : Nat) => spB c (1 + (k : Int)) (1 + (m : Int))
theorem bas_mem {c k m : Int} (hc : 0 ≤ c ∧ c < 7) (hk : 1 ≤ k ∧ k < 4) (hm : 1 ≤ m ∧ m < 7) : ∃ e ∈ ([2, 3, 4, 5, 6] : List Int), spB c k m ∈ bas e := by
 have key : ∀ e : Int, (e = 2 ∨ e = 5) → spB e k m ∈ bas e := by
  intro e he
  unfold bas
  rw [if_pos he]
  refine List.mem_flatMap.2 ⟨(k - 1).toNat, List.mem_range.2 (by omega), List.mem_map.2 ⟨(m - 1).toNat, List.mem_range.2 (by omega), ?_⟩⟩
  rw [show 1 + (((k - 1).toNat : Nat) : Int) = k by omega, show 1 + (((m - 1).toNat : Nat) : Int) = m by omega]
 have key2 : ∀ e : Int, (e = 3 ∨ e = 4 ∨ e = 6) → spB e k 1 ∈ bas e := by
  intro e he
  unfold bas
  rw [if_neg (by omega)]
  refine List.mem_flatMap.2 ⟨(k - 1).toNat, List.mem_range.2 (by omega), List.mem_map.2 ⟨0, List.mem_range.2 (by omega), ?_⟩⟩
  rw [show 1 + (((k - 1).toNat : Nat) : Int) = k by omega]; rfl
 obtain h | h | h | h | h : (c = 0 ∨ c = 1 ∨ c = 2) ∨ c = 3 ∨ c = 4 ∨ c = 5 ∨ c = 6 := by omega
 ·refine ⟨2, by simp, ?_⟩
  have e1 : spB c k m = spB 2 k m := by unfold spB; rw [if_pos h, if_pos (by omega)]
  rw [e1]; exact key 2 (.inl rfl)
 ·subst h; exact ⟨3, by simp, key2 3 (.inl rfl)⟩
 ·subst h; exact ⟨4, by simp, key2 4 (.inr (.inl rfl))⟩
 ·subst h; exact ⟨5, by simp, key 5 (.inr rfl)⟩
 ·subst h; exact ⟨6, by simp, key2 6 (.inr (.inr rfl))⟩
/-! Moved -/
theorem Qmm (x y : Int) (p q : Pt) : (mvP x y p = mvP x y q) ↔ p = q := by
 obtain ⟨a, b⟩ := p
 obtain ⟨c, d⟩ := q
 unfold mvP
 simp only [Prod.mk.injEq]
 omega
theorem QrH (x y : Int) (p q : Pt) : faI (mvP x y p) (mvP x y q) = faI p q := by
 unfold faI mvP
 dsimp only
 rw [show p.1 + x - (q.1 + x) = p.1 - q.1 by omega, show p.2 + y - (q.2 + y) = p.2 - q.2 by omega]
theorem ltQ_mv (x y : Int) (p q : Pt) : ltQ (mvP x y p) (mvP x y q) = ltQ p q := by
 unfold ltQ mvP
 dsimp only
 rw [show decide (p.2 + y < q.2 + y) = decide (p.2 < q.2) from decide_eq_decide.2 (by omega), show decide (p.2 + y = q.2 + y) = decide (p.2 = q.2) from decide_eq_decide.2 (by omega), show decide (p.1 + x < q.1 + x) = decide (p.1 < q.1) from decide_eq_decide.2 (by omega)]
theorem bsS_mv (x y : Int) (l b p : Pt) : bsS (mvP x y l) (mvP x y b) (mvP x y p) = mvP x y (bsS l b p) := by
 unfold bsS
 rw [crI_mv, QrH, QrH, show decide (mvP x y b = mvP x y l) = decide (b = l) from decide_eq_decide.2 (Qmm x y b l)]
 split <;> rfl
theorem fold_mv (x y : Int) (l : Pt) : ∀ (L : List Pt) (b : Pt), (L.map (mvP x y)).foldl (bsS (mvP x y l)) (mvP x y b) = mvP x y (L.foldl (bsS l) b)
 | [], b => rfl
 | p :: L, b => by
  rw [List.map_cons, List.foldl_cons, List.foldl_cons, bsS_mv, fold_mv x y l L]
theorem nxC_mv (x y : Int) (L : List Pt) (l : Pt) : nxC (L.map (mvP x y)) (mvP x y l) = mvP x y (nxC L l) := fold_mv x y l L l
theorem QqZ (x y : Int) (L : List Pt) (fs : Pt) : ∀ (f : Nat) (O : List Pt) (l : Pt), hulC (L.map (mvP x y)) (mvP x y fs) f (O.map (mvP x y)) (mvP x y l) = (hulC L fs f O l).map (List.map (mvP x y))
 | 0, _, _ => rfl
 | f + 1, O, l => by
  rw [hulC, hulC, nxC_mv]
  by_cases h : nxC L l = fs
  ·rw [if_pos h, if_pos (by rw [h])]; rfl
  ·rw [if_neg h, if_neg (fun e => h ((Qmm x y _ _).1 e)), ← QqZ x y L fs f, List.map_append]; rfl
theorem okQ_mv (x y : Int) (l c p : Pt) : okQ (mvP x y l) (mvP x y c) (mvP x y p) = okQ l c p := by unfold okQ; rw [crI_mv, QrH, QrH]
theorem all_mv (x y : Int) (l c : Pt) (L : List Pt) : (L.map (mvP x y)).all (okQ (mvP x y l) (mvP x y c)) = L.all (okQ l c) := by
 rw [List.all_map]
 congr 1
 funext p
 exact okQ_mv x y l c p
theorem nxR_mv (x y : Int) (L : List Pt) (l : Pt) : nxR (L.map (mvP x y)) (mvP x y l) = mvP x y (nxR L l) := by
 unfold nxR
 rw [List.find?_map]
 have e : (fun c => decide (c ≠ mvP x y l) && (L.map (mvP x y)).all (okQ (mvP x y l) c)) ∘ mvP x y = fun c => decide (c ≠ l) && L.all (okQ l c) := by
  funext c
  show (decide (mvP x y c ≠ mvP x y l) && (L.map (mvP x y)).all (okQ (mvP x y l) (mvP x y c))) = _
  rw [all_mv, show decide (mvP x y c ≠ mvP x y l) = decide (c ≠ l) from decide_eq_decide.2 (not_congr (Qmm x y c l))]
 rw [e]
 cases L.find? fun c => decide (c ≠ l) && L.all (okQ l c) <;> rfl
theorem Qrq (x y : Int) (L : List Pt) (fs : Pt) : ∀ (f : Nat) (O : List Pt) (l : Pt), hulR (L.map (mvP x y)) (mvP x y fs) f (O.map (mvP x y)) (mvP x y l) = (hulR L fs f O l).map (List.map (mvP x y))
 | 0, _, _ => rfl
 | f + 1, O, l => by
  rw [hulR, hulR, nxR_mv]
  by_cases h : nxR L l = fs
  ·rw [if_pos h, if_pos (by rw [h])]; rfl
  ·rw [if_neg h, if_neg (fun e => h ((Qmm x y _ _).1 e)), ← Qrq x y L fs f, List.map_append]; rfl
theorem suA_mv (x y u v : Int) (a b : List Pt) : suA (a.map (mvP x y)) (b.map (mvP u v)) = (suA a b).map (mvP (x - u) (y - v)) := by
 unfold suA
 rw [List.flatMap_map, List.map_flatMap]
 congr 1
 funext p
 unfold suR
 rw [List.map_map, List.map_map]
 congr 1
 funext q
 simp only [Function.comp, mvP]
 refine Prod.ext ?_ ?_ <;> dsimp only <;> omega
theorem mnF_mv (x y : Int) (L : List Pt) : ∀ i, i < L.length → mnF (L.map (mvP x y)) i = mvP x y (mnF L i)
 | 0, h => by rw [mnF, mnF, Qf6 _ _ h]
 | i + 1, h => by
  rw [mnF, mnF, mnF_mv x y L i (by omega), Qf6 _ _ h, ltQ_mv]
  split <;> rfl
/-! What the kernel has found of the base shapes, for the moved ones. -/
structure Hul (a b x : List Pt) : Prop where
 c : hulC (suA a b) (mnF (suA a b) ((suA a b).length - 1)) 17 [mnF (suA a b) ((suA a b).length - 1)] (mnF (suA a b) ((suA a b).length - 1)) = some x
 r : hulR (suA a b) (mnF (suA a b) ((suA a b).length - 1)) 17 [mnF (suA a b) ((suA a b).length - 1)] (mnF (suA a b) ((suA a b).length - 1)) = some x
 three : 3 ≤ x.length
 ten : x.length ≤ 10
 one : ∀ d ∈ uqS a b, ∃ i, i < x.length ∧ onE a b x d i = true
 two : ∀ i, i < x.length → ∃ d ∈ uqS a b, onE a b x d i = true
 le : x.length ≤ (suA a b).length
theorem uqS_mv (x y u v : Int) (a b : List Pt) : uqS (a.map (mvP x y)) (b.map (mvP u v)) = uqS a b := by
 unfold uqS; rw [drs_mv]
theorem sdx_mv (x y : Int) (l : List Pt) {i : Nat} (h : i < l.length) : sdx (l.map (mvP x y)) i = sdx l i := by
 unfold sdx
 rw [mv_nx _ _ h, Qf6 _ _ h]
 unfold mvP
 dsimp only
 omega
theorem sdy_mv (x y : Int) (l : List Pt) {i : Nat} (h : i < l.length) : sdy (l.map (mvP x y)) i = sdy l i := by
 unfold sdy
 rw [mv_nx _ _ h, Qf6 _ _ h]
 unfold mvP
 dsimp only
 omega
theorem onE_mv (x y u v : Int) {a b : List Pt} (ha : 0 < a.length) (hb : 0 < b.length) (X : List Pt) (d : Dr) {i : Nat} (h : i < X.length) : onE (a.map (mvP x y)) (b.map (mvP u v)) (X.map (mvP (x - u) (y - v))) d i = onE a b X d i := by
 unfold onE
 dsimp only
 rw [sdx_mv _ _ _ h, sdy_mv _ _ _ h, moP_mv d x y ha, moP_mv (tnD d) u v hb, Qf6 _ _ h]
 have e : decide (dotI d (mvP (x - u) (y - v) (X.getD i default)) = moP d a + (d.1 * x + d.2.1 * y) + (moP (tnD d) b + ((tnD d).1 * u + (tnD d).2.1 * v))) = decide (dotI d (X.getD i default) = moP d a + moP (tnD d) b) := by
  refine decide_eq_decide.2 ?_
  generalize X.getD i default = p
  unfold dotI mvP tnD
  dsimp only
  rw [Int.mul_add, Int.mul_add, Int.mul_sub, Int.mul_sub, Int.neg_mul, Int.neg_mul]
  omega
 rw [e]
theorem hul_mv (x y u v : Int) {a b X : List Pt} (ha : 0 < a.length) (hb : 0 < b.length) (h : Hul a b X) : Hul (a.map (mvP x y)) (b.map (mvP u v)) (X.map (mvP (x - u) (y - v))) := by
 have hn : 0 < (suA a b).length := by
  unfold suA
  obtain ⟨p, a, rfl⟩ := List.exists_cons_of_length_pos ha
  rw [List.flatMap_cons, List.length_append]
  unfold suR
  rw [List.length_map]
  omega
 have e := suA_mv x y u v a b
 have e1 : mnF (suA (a.map (mvP x y)) (b.map (mvP u v))) ((suA (a.map (mvP x y)) (b.map (mvP u v))).length - 1) = mvP (x - u) (y - v) (mnF (suA a b) ((suA a b).length - 1)) := by
  rw [e, List.length_map, mnF_mv _ _ _ _ (by omega)]
 refine ⟨?_, ?_, by rw [List.length_map]; exact h.three, by rw [List.length_map]; exact h.ten, ?_, ?_, by rw [e, List.length_map, List.length_map]; exact h.le⟩
 ·rw [e1, e]
  have := QqZ (x - u) (y - v) (suA a b) (mnF (suA a b) ((suA a b).length - 1)) 17 [mnF (suA a b) ((suA a b).length - 1)] (mnF (suA a b) ((suA a b).length - 1))
  rw [h.c] at this
  exact this
 ·rw [e1, e]
  have := Qrq (x - u) (y - v) (suA a b) (mnF (suA a b) ((suA a b).length - 1)) 17 [mnF (suA a b) ((suA a b).length - 1)] (mnF (suA a b) ((suA a b).length - 1))
  rw [h.r] at this
  exact this
 ·intro d hd
  rw [uqS_mv] at hd
  obtain ⟨i, hi, e⟩ := h.one d hd
  exact ⟨i, by rw [List.length_map]; exact hi, by rw [onE_mv _ _ _ _ ha hb _ _ hi]; exact e⟩
 ·intro i hi
  rw [List.length_map] at hi
  obtain ⟨d, hd, e⟩ := h.two i hi
  exact ⟨d, by rw [uqS_mv]; exact hd, by rw [onE_mv _ _ _ _ ha hb _ _ hi]; exact e⟩
end Go.AM

/- convex.Sum's inner loop: the next corner. -/
namespace Go.AM
open Go Go.RowKit
theorem eqP_iff (p q : Pt) : ((p.1 == q.1) && (p.2 == q.2)) = decide (p = q) := by
 obtain ⟨a, b⟩ := p
 obtain ⟨c, d⟩ := q
 simp only [Prod.mk.injEq]
 by_cases h1 : a = c <;> by_cases h2 : b = d <;> simp [h1, h2]
theorem Qph : A.bool? (.d (.v (.tuple #[]))) = none := rfl
variable [Its]
end Go.AM

/- convex.Sum. -/
namespace Go.AM
open Go Go.RowKit
theorem suA_sm {a b : List Pt} (ha : ∀ p ∈ a, -40000000 ≤ p.1 ∧ p.1 ≤ 40000000 ∧ -40000000 ≤ p.2 ∧ p.2 ≤ 40000000) (hb : ∀ p ∈ b, -40000000 ≤ p.1 ∧ p.1 ≤ 40000000 ∧ -40000000 ≤ p.2 ∧ p.2 ≤ 40000000) : ∀ p ∈ suA a b, SmP p := by
 intro p hp
 unfold suA at hp
 obtain ⟨q, hq, hp⟩ := List.mem_flatMap.1 hp
 unfold suR at hp
 obtain ⟨r, hr, rfl⟩ := List.mem_map.1 hp
 have := ha q hq
 have := hb r hr
 simp only [SmP, Sm]
 omega
theorem suA_len (a b : List Pt) : (suA a b).length = a.length * b.length := by
 unfold suA
 induction a with
 | nil => simp
 | cons p a ih =>
  rw [List.flatMap_cons, List.length_append, ih]
  unfold suR
  rw [List.length_map, List.length_cons, Nat.succ_mul]
  omega
variable [Its]
end Go.AM

/- ref12.Sum. -/
namespace Go.AM
open Go Go.RowKit
theorem ldO0 {l : List Pt} {j : Nat} (h : j < l.length) : Qab none (j * 2) ((l.flatMap cP).map A.d) = some (.d (iv (l.getD j default).1)) := by
 show ((l.flatMap cP).map A.d)[j * 2]? = _
 have e : ((l.flatMap cP).map A.d).drop (j * 2) = ((l.drop j).flatMap cP).map A.d := by rw [← List.map_drop, QiA Qb2]
 have e2 : (((l.flatMap cP).map A.d).drop (j * 2))[0]? = ((l.flatMap cP).map A.d)[j * 2]? := by rw [List.getElem?_drop]; rfl
 rw [← e2, e, Qen h]
 rfl
theorem ldO1 {l : List Pt} {j : Nat} (h : j < l.length) : Qab none (j * 2 + 1) ((l.flatMap cP).map A.d) = some (.d (iv (l.getD j default).2)) := by
 show ((l.flatMap cP).map A.d)[j * 2 + 1]? = _
 have e : ((l.flatMap cP).map A.d).drop (j * 2) = ((l.drop j).flatMap cP).map A.d := by rw [← List.map_drop, QiA Qb2]
 have e2 : (((l.flatMap cP).map A.d).drop (j * 2))[1]? = ((l.flatMap cP).map A.d)[j * 2 + 1]? := by rw [List.getElem?_drop]
 rw [← e2, e, Qen h]
 rfl
def Qll (da db : D) (L : List Pt) (i k : Int) : St := mkS [(0, .d da), (1, .d db), (5, gAE 57 L), (6, ai i), (7, ai k)] (gHE cP 2 57 L)
def Qig (da db : D) (L : List Pt) (i : Int) : St := mkS [(0, .d da), (1, .d db), (5, gAE 57 L), (6, ai i)] (gHE cP 2 57 L)
def r1_en (L : List Pt) : St := mkS [(5, gAE 57 L)] (gHE cP 2 57 L)
def Qm2 (L : List Pt) (p : Pt) (i : Int) : St := mkS [(5, .own [57] L.length), (8, .ptr [8] 0), (9, ai i)] [([8], bxP p.1 p.2), ([57], arE cP 2 L.length L)]
def r2_en (L : List Pt) (p : Pt) : St := mkS [(5, .own [57] L.length), (8, .ptr [8] 0)] [([8], bxP p.1 p.2), ([57], arE cP 2 L.length L)]
def Ql7 (L O : List Pt) (fs last : Pt) (i : Int) (b : Bool) (k : Int) : St := mkS [(5, .own [57] L.length), (8, .ptr [8] 0), (10, .own [100] O.length), (11, .ptr [11] 0), (12, ai i), (13, ab b), (14, ai k)] [([8], bxP fs.1 fs.2), ([11], bxP last.1 last.2), ([57], arE cP 2 L.length L), ([100], arE cP 2 O.length O)]
def QtJ (L O : List Pt) (fs last : Pt) (i : Int) (b : Bool) : St := mkS [(5, .own [57] L.length), (8, .ptr [8] 0), (10, .own [100] O.length), (11, .ptr [11] 0), (12, ai i), (13, ab b)] [([8], bxP fs.1 fs.2), ([11], bxP last.1 last.2), ([57], arE cP 2 L.length L), ([100], arE cP 2 O.length O)]
def QpH (L O : List Pt) (fs last : Pt) (i : Int) : St := mkS [(5, .own [57] L.length), (8, .ptr [8] 0), (10, .own [100] O.length), (11, .ptr [11] 0), (12, ai i)] [([8], bxP fs.1 fs.2), ([11], bxP last.1 last.2), ([57], arE cP 2 L.length L), ([100], arE cP 2 O.length O)]
def QqY (L O : List Pt) (fs last : Pt) : St := mkS [(5, .own [57] L.length), (8, .ptr [8] 0), (10, .own [100] O.length), (11, .ptr [11] 0)] [([8], bxP fs.1 fs.2), ([11], bxP last.1 last.2), ([57], arE cP 2 L.length L), ([100], arE cP 2 O.length O)]
def QtH (L O : List Pt) (fs : Pt) : St := mkS [(5, .own [57] L.length), (8, .ptr [8] 0), (10, .own [100] O.length)] [([8], bxP fs.1 fs.2), ([57], arE cP 2 L.length L), ([100], arE cP 2 O.length O)]
def r5_en (O : List Pt) : St := mkS [(4, .own [100] O.length)] [([100], arE cP 2 O.length O)]
theorem Qk6 (o : Obj) : Qcc (hupd hp0 [57] o) [100] none = hupd hp0 [57] o := by
 funext j
 simp only [Qcc, hupd, hp0]
 by_cases h : j = [100]
 ·subst h; rfl
 ·rw [if_neg h]
theorem Qh3 (o : Obj) : Qcc (hupd hp0 [100] o) [210] none = hupd hp0 [100] o := by
 funext j
 simp only [Qcc, hupd, hp0]
 by_cases h : j = [210]
 ·subst h; rfl
 ·rw [if_neg h]
def mnR (l : List Pt) : Nat → Pt
 | 0 => l.getD 0 default
 | i + 1 => if ltQ (l.getD i default) (mnR l i) = true then l.getD i default else mnR l i
theorem mnR_F (l : List Pt) : ∀ i, mnR l (i + 1) = mnF l i
 | 0 => by
  show (if ltQ (l.getD 0 default) (l.getD 0 default) = true then l.getD 0 default else l.getD 0 default) = l.getD 0 default
  split <;> rfl
 | i + 1 => by
  rw [mnR, mnR_F l i]; rfl
theorem hulR_le {all : List Pt} {fs : Pt} {x : List Pt} : ∀ (f : Nat) (O : List Pt) (l : Pt), hulR all fs f O l = some x → O.length ≤ x.length
  | 0, _, _, h => by cases h
  | f + 1, O, l, h => by
    rw [hulR] at h
    split at h
    · cases h; exact Nat.le_refl _
    · have := hulR_le f _ _ h
      rw [List.length_append] at this
      omega
variable [Its]
theorem Left_spec {a b c : Pt} (ha : SmP a) (hb : SmP b) (hc : SmP c) : Qah G Qhj [encP a, encP b, encP c] = some (.d (iv (crI a b c))) := by
 rw [Qac (cf := Qgb) rfl]
 obtain ⟨a1, a2⟩ := a
 obtain ⟨b1, b2⟩ := b
 obtain ⟨c1, c2⟩ := c
 obtain ⟨h1, h2⟩ := ha
 obtain ⟨h3, h4⟩ := hb
 obtain ⟨h5, h6⟩ := hc
 simp only [Sm] at h1 h2 h3 h4 h5 h6
 unfold crI
 dsimp only
 obtain ⟨x, hx⟩ : ∃ x, b1 - a1 = x := ⟨_, rfl⟩
 obtain ⟨y, hy⟩ : ∃ x, c2 - a2 = x := ⟨_, rfl⟩
 obtain ⟨z, hz⟩ : ∃ x, b2 - a2 = x := ⟨_, rfl⟩
 obtain ⟨t, ht⟩ : ∃ x, c1 - a1 = x := ⟨_, rfl⟩
 have e1 : w64 (b1 - a1) = x := by rw [Qad (by omega) (by omega), hx]
 have e2 : w64 (c2 - a2) = y := by rw [Qad (by omega) (by omega), hy]
 have e3 : w64 (b2 - a2) = z := by rw [Qad (by omega) (by omega), hz]
 have e4 : w64 (c1 - a1) = t := by rw [Qad (by omega) (by omega), ht]
 have bb : ∀ u v : Int, -200000000 ≤ u ∧ u ≤ 200000000 → -200000000 ≤ v ∧ v ≤ 200000000 → -40000000000000000 ≤ u * v ∧ u * v ≤ 40000000000000000 := by
  intro u v hu hv
  have h1 : (u * v).natAbs ≤ 200000000 * 200000000 := by
   rw [Int.natAbs_mul]
   exact Nat.mul_le_mul (by omega) (by omega)
  omega
 have m1 := bb x y (by omega) (by omega)
 have m2 := bb z t (by omega) (by omega)
 clear bb
 rw [hx, hy, hz, ht]
 have e5 : w64 (x * y) = x * y := Qad (by omega) (by omega)
 have e6 : w64 (z * t) = z * t := Qad (by omega) (by omega)
 have e7 : w64 (x * y - z * t) = x * y - z * t := Qad (by omega) (by omega)
 simp -implicitDefEqProofs (maxSteps:=9^8) only [Qgb, encP, cP, QjX, Qj3, go_sem, iv, bv, e1, e2, e3, e4, e5, e6, e7, reduceCtorEq, ↓reduceIte, Nat.reduceEqDiff]
theorem r0_go {da db : D} {a b : List Pt} (hra : RwE cP da a) (hr : RwE cP db b) (ha : ∀ p ∈ a, SmP p) (hb : ∀ p ∈ b, SmP p) (hn : b.length ≤ 1000) {L : List Pt} (hL : L.length ≤ 1000) {i k : Nat} (hi : i < a.length) (hk : k < b.length) :
    X G Qbx (Qll da db L i k) = some (.n, Qll da db (L ++ [suO (a.getD i default) (b.getD k default)]) i ((k + 1 : Nat) : Int)) := by
  have e1 : decide ((k : Int) < (b.length : Int)) = true := lt_t (by omega)
  have e2 : w64 ((k : Int) + 1) = ((k + 1 : Nat) : Int) := by rw [Qad (by omega) (by omega)]; rfl
  have ll := hr.len
  have x1 := hr.ixa Qb2 hk
  have x2 := fun hp => ldF (en := cP) (i := 0) Qb2 hp hk (by omega)
  have x3 := fun hp => ldF (en := cP) (i := 1) Qb2 hp hk (by omega)
  have x4 := hra.ixa Qb2 hi
  have x5 := fun hp => ldF (en := cP) (i := 0) Qb2 hp hi (by omega)
  have x6 := fun hp => ldF (en := cP) (i := 1) Qb2 hp hi (by omega)
  have hp := Qd5 ha smP0 i
  have hq := Qd5 hb smP0 k
  unfold suO
  generalize b.getD k default = q at *
  generalize a.getD i default = p at *
  obtain ⟨x, y⟩ := q
  obtain ⟨p1, p2⟩ := p
  obtain ⟨h1, h2⟩ := hq
  obtain ⟨h3, h4⟩ := hp
  simp only [Sm] at h1 h2 h3 h4
  dsimp only
  obtain ⟨u, hu⟩ : ∃ u, p1 - x = u := ⟨_, rfl⟩
  obtain ⟨v, hv⟩ : ∃ v, p2 - y = v := ⟨_, rfl⟩
  have e3 : w64 (p1 - x) = u := by rw [Qad (by omega) (by omega), hu]
  have e4 : w64 (p2 - y) = v := by rw [Qad (by omega) (by omega), hv]
  simp only [cP, List.drop_zero, List.getElem?_cons_succ, List.getElem?_cons_zero, Option.map_some, iv] at x2 x3 x5 x6
  rw [hu, hv]
  by_cases h0 : L = []
  · subst h0
    have hb : (16 ≤ bound) = True := eq_true (by unfold bound; omega)
    have hb1 : (1 * 16 ≤ bound) = True := eq_true (by unfold bound; omega)
    have hq : ([(u, v)] : List Pt) ≠ [] := by simp
    simp -implicitDefEqProofs (maxSteps:=9^8) only [Qbx, Qll, ll, Qcs, Qct, QcG hq, QcH hq, arE, flat1P, Qaa, st2p, QjX, Qj3, Qdb, QbF, List.nil_append, List.cons_append, List.length_nil, List.length_cons, Nat.zero_add, List.map_cons, List.map_nil, Qm7, oneI, srcS, src, allD, hb, hb1, x1, x2, x3, x4, x5, x6, List.drop_zero, go_sem, iv, bv, e1, e2, e3, e4, reduceCtorEq, ↓reduceIte, Nat.reduceEqDiff]
  · have n3 := lenE Qb2 L
    have n4 : ((L.length + 1) * 16 ≤ bound) = True := eq_true (by unfold bound; omega)
    simp -implicitDefEqProofs (maxSteps:=9^8) only [Qbx, Qll, ll, QcG h0, QcH h0, QlC, QlE, arE, Qrx, QaP, n3, n4, st2p, QjX, Qj3, Qdb, QbF, List.nil_append, List.cons_append, List.length_nil, List.length_cons, Nat.zero_add, List.map_cons, List.map_nil, List.all_cons, List.all_nil, Qm7, oneI, srcS, src, allD, x1, x2, x3, x4, x5, x6, List.drop_zero, go_sem, iv, bv, e1, e2, e3, e4, reduceCtorEq, ↓reduceIte, Nat.reduceEqDiff]
theorem r0_stop {da db : D} {b L : List Pt} (hr : RwE cP db b) {i : Int} : X G Qbx (Qll da db L i b.length) = some (.x 2, Qig da db L i) := by
 have e1 : decide ((b.length : Int) < (b.length : Int)) = false := lt_f (by omega)
 have ll := hr.len
 by_cases h0 : L = []
 ·subst h0
  simp -implicitDefEqProofs (maxSteps:=9^8) only [Qbx, Qll, Qig, ll, Qcs, Qct, Qaa, go_sem, iv, bv, e1, reduceCtorEq, ↓reduceIte, Nat.reduceEqDiff]
 ·simp -implicitDefEqProofs (maxSteps:=9^8) only [Qbx, Qll, Qig, ll, QcG h0, QcH h0, arE, QaP, go_sem, iv, bv, e1, reduceCtorEq, ↓reduceIte, Nat.reduceEqDiff]
theorem r0_loop {da db : D} {a b : List Pt} (hra : RwE cP da a) (hr : RwE cP db b) (ha : ∀ p ∈ a, SmP p) (hb : ∀ p ∈ b, SmP p) (hn : b.length ≤ 10) {i : Nat} (hi : i < a.length) : ∀ (j k : Nat) (L : List Pt), k + j = b.length → L.length + j ≤ 1000 →
    X G (.loop Qbx) (Qll da db L i k) = some (.x 2, Qig da db (L ++ suR (a.getD i default) (b.drop k)) i)
  | 0, k, L, h, hl => by
    have : k = b.length := by omega
    subst this
    rw [Qag, r0_stop hr, List.drop_length]
    simp [suR]
  | j + 1, k, L, h, hl => by
    have hk : k < b.length := by omega
    rw [Qag, r0_go hra hr ha hb (by omega) (by omega) hi hk, Option.bind_some, if_pos rfl, r0_loop hra hr ha hb hn hi j (k + 1) _ (by omega) (by rw [List.length_append, List.length_singleton]; omega), Qen hk]
    simp [suR, suO]
theorem r1_go {da db : D} {a b : List Pt} (hra : RwE cP da a) (hr : RwE cP db b) (ha : ∀ p ∈ a, SmP p) (hb : ∀ p ∈ b, SmP p) (hn : b.length ≤ 10) {L : List Pt} (hL : L.length ≤ 900) {i : Nat} (hi : i < a.length) (hna : a.length ≤ 1000) :
    X G QaU (Qig da db L i) = some (.n, Qig da db (L ++ suR (a.getD i default) b) ((i + 1 : Nat) : Int)) := by
  have e1 : decide ((i : Int) < (a.length : Int)) = true := lt_t (by omega)
  have e2 : w64 ((i : Int) + 1) = ((i + 1 : Nat) : Int) := by rw [Qad (by omega) (by omega)]; rfl
  have ll := hra.len
  have g := r0_loop hra hr ha hb hn hi b.length 0 L (by omega) (by omega)
  rw [List.drop_zero] at g
  generalize L ++ suR (a.getD i default) b = M at *
  by_cases h0 : L = []
  · subst h0
    by_cases h1 : M = []
    · subst h1
      simp only [Qll, Qig, Qcs, Qct, Qaa, nc0, go_sem, iv] at g
      simp -implicitDefEqProofs (maxSteps:=9^8) only [QaU, Qig, Qcs, Qct, Qaa, g, ll, go_sem, iv, bv, e1, e2, reduceCtorEq, ↓reduceIte, Nat.reduceEqDiff]
    · simp only [Qll, Qig, Qcs, Qct, QcG h1, QcH h1, arE, Qaa, nc0, go_sem, iv] at g
      simp -implicitDefEqProofs (maxSteps:=9^8) only [QaU, Qig, Qcs, Qct, QcG h1, QcH h1, arE, QaP, Qaa, g, ll, go_sem, iv, bv, e1, e2, reduceCtorEq, ↓reduceIte, Nat.reduceEqDiff]
  · by_cases h1 : M = []
    · subst h1
      simp only [Qll, Qig, Qcs, Qct, QcG h0, QcH h0, arE, Qaa, nc0, go_sem, iv] at g
      simp -implicitDefEqProofs (maxSteps:=9^8) only [QaU, Qig, Qcs, Qct, QcG h0, QcH h0, arE, QaP, Qaa, g, ll, go_sem, iv, bv, e1, e2, reduceCtorEq, ↓reduceIte, Nat.reduceEqDiff]
    · simp only [Qll, Qig, QcG h0, QcH h0, QcG h1, QcH h1, arE, nc0, go_sem, iv] at g
      simp -implicitDefEqProofs (maxSteps:=9^8) only [QaU, Qig, QcG h0, QcH h0, QcG h1, QcH h1, arE, QaP, g, ll, go_sem, iv, bv, e1, e2, reduceCtorEq, ↓reduceIte, Nat.reduceEqDiff]
theorem r1_stop {da db : D} {a L : List Pt} (hr : RwE cP da a) : X G QaU (Qig da db L a.length) = some (.x 0, r1_en L) := by
 have e1 : decide ((a.length : Int) < (a.length : Int)) = false := lt_f (by omega)
 have ll := hr.len
 by_cases h0 : L = []
 ·subst h0
  simp -implicitDefEqProofs (maxSteps:=9^8) only [QaU, Qig, r1_en, ll, Qcs, Qct, Qaa, go_sem, iv, bv, e1, reduceCtorEq, ↓reduceIte, Nat.reduceEqDiff]
 ·simp -implicitDefEqProofs (maxSteps:=9^8) only [QaU, Qig, r1_en, ll, QcG h0, QcH h0, arE, QaP, go_sem, iv, bv, e1, reduceCtorEq, ↓reduceIte, Nat.reduceEqDiff]
theorem r1_loop {da db : D} {a b : List Pt} (hra : RwE cP da a) (hr : RwE cP db b) (ha : ∀ p ∈ a, SmP p) (hb : ∀ p ∈ b, SmP p) (hn : b.length ≤ 10) (hna : a.length ≤ 10) : ∀ (j i : Nat) (L : List Pt), i + j = a.length → L.length + j * 10 ≤ 900 →
    X G (.loop QaU) (Qig da db L i) = some (.x 0, r1_en (L ++ suA (a.drop i) b))
  | 0, i, L, h, hl => by
    have : i = a.length := by omega
    subst this
    rw [Qag, r1_stop hra, List.drop_length]
    simp [suA]
  | j + 1, i, L, h, hl => by
    have hi : i < a.length := by omega
    have hs : (suR (a.getD i default) b).length ≤ 10 := by unfold suR; rw [List.length_map]; exact hn
    rw [Qag, r1_go hra hr ha hb hn (by omega) hi (by omega), Option.bind_some, if_pos rfl, r1_loop hra hr ha hb hn hna j (i + 1) _ (by omega) (by rw [List.length_append]; omega), Qen hi]
    simp [suA]
theorem r2_go {L : List Pt} (hn : L.length ≤ 1000) {p : Pt} {i : Nat} (hi : i < L.length) : X G Qbg (Qm2 L p i) = some (.n, Qm2 L (if ltQ (L.getD i default) p = true then L.getD i default else p) ((i + 1 : Nat) : Int)) := by
 have e1 : decide ((i : Int) < (L.length : Int)) = true := lt_t (by omega)
 have e2 : w64 ((i : Int) + 1) = ((i + 1 : Nat) : Int) := by rw [Qad (by omega) (by omega)]; rfl
 have b1 : (0 ≤ (i : Int)) = True := eq_true (by omega)
 have b2 : ((i : Int) < (L.length : Int)) = True := eq_true (by omega)
 have x0 := ldO Qb2 (l := L) (j := i) hi
 have x1 := ldO0 hi
 have x2 := ldO1 hi
 generalize L.getD i default = q at *
 obtain ⟨q1, q2⟩ := q
 obtain ⟨p1, p2⟩ := p
 simp only [cP, iv] at x0 x1 x2
 unfold ltQ
 dsimp only
 by_cases h1 : q2 < p2
 ·have t1 : decide (q2 < p2) = true := lt_t h1
  rw [t1]
  simp -implicitDefEqProofs (maxSteps:=9^8) only [Qbg, Nat.add_zero, Qm2, bxP, arE, b1, b2, x0, x1, x2, t1, e1, e2, Qph, decide_false, QaP, Int.toNat_natCast, st2p, QjX, Qj3, Bool.true_or, if_true, go_sem, iv, bv, reduceCtorEq, ↓reduceIte, Nat.reduceEqDiff]
 ·have t1 : decide (q2 < p2) = false := lt_f (by omega)
  rw [t1]
  by_cases h2 : q2 = p2
  ·have t2 : (q2 == p2) = true := beq_iff_eq.2 h2
   have t3 : decide (q2 = p2) = true := decide_eq_true h2
   by_cases h3 : q1 < p1
   ·have t4 : decide (q1 < p1) = true := lt_t h3
    simp -implicitDefEqProofs (maxSteps:=9^8) only [Qbg, Nat.add_zero, Qm2, bxP, arE, b1, b2, x0, x1, x2, t1, t2, t3, t4, e1, e2, Qph, decide_false, decide_true, QaP, Int.toNat_natCast, st2p, QjX, Qj3, Bool.and_self, Bool.false_or, if_true, go_sem, iv, bv, reduceCtorEq, ↓reduceIte, Nat.reduceEqDiff]
   ·have t4 : decide (q1 < p1) = false := lt_f (by omega)
    simp -implicitDefEqProofs (maxSteps:=9^8) only [Qbg, Nat.add_zero, Qm2, bxP, arE, b1, b2, x0, x1, x2, t1, t2, t3, t4, e1, e2, Qph, decide_false, decide_true, QaP, Int.toNat_natCast, st2p, QjX, Qj3, Bool.and_false, Bool.false_or, Bool.false_eq_true, if_false, go_sem, iv, bv, reduceCtorEq, ↓reduceIte, Nat.reduceEqDiff]
  ·have t2 : (q2 == p2) = false := beq_eq_false_iff_ne.2 h2
   have t3 : decide (q2 = p2) = false := decide_eq_false h2
   simp -implicitDefEqProofs (maxSteps:=9^8) only [Qbg, Nat.add_zero, Qm2, bxP, arE, b1, b2, x0, x1, x2, t1, t2, t3, e1, e2, Qph, decide_false, decide_true, QaP, Int.toNat_natCast, st2p, QjX, Qj3, Bool.false_and, Bool.or_self, Bool.false_or, Bool.false_eq_true, if_false, go_sem, iv, bv, reduceCtorEq, ↓reduceIte, Nat.reduceEqDiff]
theorem r2_stop {L : List Pt} {p : Pt} : X G Qbg (Qm2 L p L.length) = some (.x 4, r2_en L p) := by
 have e1 : decide ((L.length : Int) < (L.length : Int)) = false := lt_f (by omega)
 simp -implicitDefEqProofs (maxSteps:=9^8) only [Qbg, Qm2, r2_en, bxP, arE, e1, QaP, go_sem, iv, bv, reduceCtorEq, ↓reduceIte, Nat.reduceEqDiff]
theorem r2_loop {L : List Pt} (hn : L.length ≤ 1000) : ∀ (j i : Nat), i + j = L.length → X G (.loop Qbg) (Qm2 L (mnR L i) i) = some (.x 4, r2_en L (mnR L L.length))
 | 0, i, h => by
  have : i = L.length := by omega
  subst this
  rw [Qag, r2_stop]; rfl
 | j + 1, i, h => by
  rw [Qag, r2_go hn (by omega), Option.bind_some, if_pos rfl]
  exact r2_loop hn j (i + 1) (by omega)
end Go.AM

