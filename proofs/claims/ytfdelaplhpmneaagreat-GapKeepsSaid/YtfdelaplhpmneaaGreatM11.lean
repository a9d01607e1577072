/- Part 11 of the proof: a small machine, its soundness against the model, and what the program's functions compute on it. -/
import Derived.Test.YtfdelaplhpmneaaGreatM10
import Derived.KernelRfl
import Derived.Test.YtfdelaplhpmneaaGreatM9
set_option linter.unusedVariables false
set_option linter.unusedSimpArgs false
/- gap: Stays, Free, Meet, greatest, Best, Contact. -/
namespace Go.AM
open Go Go.RowKit
def veR (p : List Rat) : Rat := -(p.getD 1 0) / (p.getD 2 0 * 2)
/-- What gap.Stays answers. -/
def staG (p : List Rat) : Bool :=
  if decide (evR p 0 < 0) || decide (evR p 1 < 0) then false
  else if decide (p.length < 3) || decide (p.getD 2 0 < 0) then true
  else decide (veR p ≤ 0) || decide (1 ≤ veR p) || decide (0 ≤ evR p (veR p))
theorem sign_le {x : Rat} : decide (Int.sign x.num ≤ 0) = decide (x ≤ 0) := by
  have h := sign_gt (x := x)
  rw [Bool.eq_iff_iff, decide_eq_true_iff, decide_eq_true_iff] at *
  constructor
  · intro h1
    exact Rat.not_lt.1 fun h2 => by have := h.2 h2; omega
  · intro h1
    exact Int.not_lt.1 fun h2 => Rat.not_lt.2 h1 (h.1 h2)
theorem cmpR_ge {a b : Rat} : decide (cmpR a b ≥ 0) = decide (b ≤ a) := by
  have h := cmpR_lt (a := a) (b := b)
  rw [Bool.eq_iff_iff, decide_eq_true_iff, decide_eq_true_iff]
  constructor
  · intro h1
    exact Rat.not_lt.1 fun h2 => by have := h.2 h2; omega
  · intro h1
    exact Int.not_lt.1 fun h2 => Rat.not_lt.2 h1 (h.1 h2)
theorem cmpR_gt {a b : Rat} : decide (cmpR a b > 0) = decide (b < a) := by
  have h := cmpR_le (a := a) (b := b)
  rw [Bool.eq_iff_iff, decide_eq_true_iff, decide_eq_true_iff]
  constructor
  · intro h1
    exact Rat.not_le.1 fun h2 => by have := h.2 h2; omega
  · intro h1
    exact Int.not_le.1 fun h2 => Rat.not_le.2 h1 (h.1 h2)
theorem tupG : A.bool? (.d (.v (.tuple #[]))) = none := rfl
theorem box4g (a b c d : D) : Qae 0 [.d a, .d b, .d c, .d d] [.d (.v (.int .i64 0)), .d (.v (.int .i64 0)), .d (.v (.int .i64 0)), .d (.v (.int .i64 0))] = some [.d a, .d b, .d c, .d d] := rfl
def grS (f : Eg → Rat × Bool) (O : List Eg) : Nat → Int × Rat
  | 0 => (-1, 0)
  | i + 1 => if (f (O.getD i default)).2 && (decide ((grS f O i).1 < 0) || decide ((grS f O i).2 < (f (O.getD i default)).1)) then ((i : Int), (f (O.getD i default)).1) else grS f O i
def bxR4 (q : Rat) : Obj := ⟨0, 0, [.d (.v (.bool (decide (q.num < 0)))), .d (dg (digs q.num.natAbs)), .d (.v (.bool false)), .d (dg (dd q.den))], false⟩
def Qlv (d : D) (f : Nat) (caps : List D) (b : Int) (q : Rat) (n i : Int) : St := mkS [(1, .d (.fn f caps)), (5, ai b), (6, .ptr [6] 0), (11, .d d), (12, ai n), (13, ai i)] [([6], bxR4 q)]
theorem grS_sz {f : Eg → Rat × Bool} {O : List Eg} {K : Nat} (hK : 1 ≤ K) (h : ∀ i, i < O.length → sz (f (O.getD i default)).1 ≤ K) : ∀ i, i ≤ O.length → sz (grS f O i).2 ≤ K
  | 0, _ => by rw [grS, Qiz]; exact hK
  | i + 1, hi => by
    rw [grS]
    split
    · exact h i (by omega)
    · exact grS_sz hK h i (by omega)
theorem ixp2 {d : D} {l : List Rat} (hr : RwR d l) (h : 2 < l.length) (hp : Hp) : ixaA hp 4 2 (.d d) = some (.d (.rp (cRs (l.drop 2)))) := hr.ixa (j := 2) h hp
theorem ixp1 {d : D} {l : List Rat} (hr : RwR d l) (h : 1 < l.length) (hp : Hp) : ixaA hp 4 1 (.d d) = some (.d (.rp (cRs (l.drop 1)))) := hr.ixa (j := 1) h hp
theorem ldV8 (hp : Hp) (a b c d e f g h : D) : Qcs hp (some 8) (.d (.rp [a, b, c, d, e, f, g, h])) = some (.d (.agg [a, b, c, d, e, f, g, h])) := rfl
def cV (v : Vc) : List D := [.v (.bool (decide (v.1.num < 0))), dg (digs v.1.num.natAbs), .v (.bool false), dg (dd v.1.den), .v (.bool (decide (v.2.num < 0))), dg (digs v.2.num.natAbs), .v (.bool false), dg (dd v.2.den)]
theorem i64_2' : I64 2 := ⟨by omega, by omega⟩
theorem egm {l : List Eg} {i : Nat} (h : i < l.length) : l.getD i default ∈ l := by rw [List.getD_eq_getElem?_getD, List.getElem?_eq_getElem h]; exact List.getElem_mem h
section
variable [Its]
theorem Qpq [ItsB] {d : D} {p : List Rat} {K : Nat} (hr : RwR d p) (sp : SzL K p) (hK1 : 3 ≤ K) (hK : K ≤ 100000000) (hl : p.length ≤ 3) (ht : Trm p) : Qaj G QkV [d] = some (.d (bv (staG p))) := by
  rw [Qaf (cf := gap_Stays) rfl]
  have sl : ∀ q ∈ p, sz q ≤ 3 * K := fun q hq => by have := sp q hq; omega
  have s0 : sz 0 ≤ 3 * K := by rw [Qiz]; omega
  have s1 : sz 1 ≤ 3 * K := by rw [sz_one_]; omega
  have hb : p.length * (2 * (3 * K) + 1) ≤ 3 * (2 * (3 * K) + 1) := Nat.mul_le_mul_right _ hl
  have g0 := QhB hr s0 (by omega) sl (by omega)
  have g1 := QhB hr s1 (by omega) sl (by omega)
  have o1 := QbU QeV QeV
  rw [Qdc, show ((1 : Int) : Rat) = 1 from rfl] at o1
  have h0 := Qbs (evR p 0)
  have h1 := Qbs (evR p 1)
  have t0 := Qm4 (x := evR p 0)
  have t1 := Qm4 (x := evR p 1)
  have ll := hr.len
  unfold staG
  rw [QdO] at g0
  have tc : decide (cmpR (veR p) 1 ≥ 0) = decide (1 ≤ veR p) := cmpR_ge
  by_cases h3 : 2 < p.length
  · have hlen : p.length = 3 := by omega
    have nz : p.getD 2 0 ≠ 0 := ht 2 hlen
    have x1 := ixp1 hr (by omega)
    have x2 := ixp2 hr h3
    have y1 := fun hp => ldR hp p (j := 1) (by omega)
    have y2 := fun hp => ldR hp p (j := 2) (by omega)
    have z1 := sp.getD (by omega) 1
    have z2 := sp.getD (by omega) 2
    have o2 := QbU i64_2' QeV
    rw [Qdc, show ((2 : Int) : Rat) = 2 from rfl] at o2
    have n1 := Qk1 (p.getD 1 0)
    have k2 := sz_two
    have n2 := Qct (a := p.getD 2 0) (b := 2) (by omega) (by omega)
    have k3 := QeM (a := p.getD 2 0) (b := 2)
    have k4 := QqS (p.getD 1 0)
    have n3 := Qky (a := -(p.getD 1 0)) (b := p.getD 2 0 * 2) (by omega) (by omega)
    have k5 := Qq4 (a := -(p.getD 1 0)) (b := p.getD 2 0 * 2)
    have ev : -(p.getD 1 0) / (p.getD 2 0 * 2) = veR p := rfl
    rw [ev] at n3 k5
    have g3 := QhB (x := veR p) (K := 3 * K) hr (by omega) (by omega) sl (by omega)
    have h2 := Qbs (p.getD 2 0)
    have t2 := Qm4 (x := p.getD 2 0)
    have h4 := Qbs (veR p)
    have t4 := sign_le (x := veR p)
    have h5 := QeS (a := veR p) (b := 1) (by omega) (by omega)
    have h6 := Qbs (evR p (veR p))
    have t6 := Qk3 (x := evR p (veR p))
    have tl : decide (((p.length : Nat) : Int) < 3) = false := lt_f (by omega)
    have tl2 : decide (p.length < 3) = false := decide_eq_false (by omega)
    rw [tl2]
    clear ev k2 k3 k4 k5 z1 z2 nz hlen h3 hb sl sp hr s0 s1 tl2
    generalize decide (evR p 0 < 0) = b0 at *
    generalize decide (evR p 1 < 0) = b1 at *
    generalize decide (p.getD 2 0 < 0) = b2 at *
    generalize decide (veR p ≤ 0) = b4 at *
    generalize decide (1 ≤ veR p) = b5 at *
    generalize decide (0 ≤ evR p (veR p)) = b6 at *
    generalize cmpR (veR p) 1 = c5 at *
    generalize evR p (veR p) = r6 at *
    generalize veR p = r4 at *
    generalize evR p 0 = r0 at *
    generalize evR p 1 = r1 at *
    generalize p.getD 2 0 * 2 = r7 at *
    generalize p.getD 2 0 = r8 at *
    generalize -(p.getD 1 0) = r9 at *
    generalize p.getD 1 0 = r10 at *
    simp only [encR, iv, bv] at *
    cases b0 with
    | true => simp -implicitDefEqProofs (maxSteps := 10000000) only [gap_Stays, o1, g0, h0, t0, st4', Qei, Qcu, Qaz, QaL, decide_true, decide_false, tupG, Qc5, QbD, Bool.true_or, if_true, Qad, go_sem, iv, bv, reduceCtorEq, ↓reduceIte, Nat.reduceEqDiff]
    | false =>
      cases b1 with
      | true => simp -implicitDefEqProofs (maxSteps := 10000000) only [gap_Stays, o1, g0, g1, h0, h1, t0, t1, st4', Qei, Qcu, Qaz, QaL, decide_true, decide_false, tupG, Qc5, QbD, Bool.false_or, if_true, Qad, go_sem, iv, bv, reduceCtorEq, ↓reduceIte, Nat.reduceEqDiff]
      | false =>
        cases b2 with
        | true => simp -implicitDefEqProofs (maxSteps := 10000000) only [gap_Stays, o1, g0, g1, h0, h1, h2, t0, t1, t2, tl, ll, x2, y2, st4', Qei, Qcu, Qaz, QaL, decide_true, decide_false, tupG, Qc5, QbD, Bool.false_or, Bool.or_self, Bool.false_eq_true, if_false, if_true, Qad, go_sem, iv, bv, reduceCtorEq, ↓reduceIte, Nat.reduceEqDiff]
        | false =>
          cases b4 with
          | true => simp -implicitDefEqProofs (maxSteps := 10000000) only [gap_Stays, o1, o2, g0, g1, h0, h1, h2, h4, t0, t1, t2, t4, tl, ll, x1, x2, y1, y2, n1, n2, n3, st4', Qei, Qcu, Qaz, QaL, decide_true, decide_false, tupG, Qc5, QbD, Bool.true_or, Bool.false_or, Bool.or_self, Bool.false_eq_true, if_false, if_true, Qad, go_sem, iv, bv, reduceCtorEq, ↓reduceIte, Nat.reduceEqDiff]
          | false =>
            cases b5 with
            | true => simp -implicitDefEqProofs (maxSteps := 10000000) only [gap_Stays, o1, o2, g0, g1, h0, h1, h2, h4, h5, t0, t1, t2, t4, tc, tl, ll, x1, x2, y1, y2, n1, n2, n3, st4', Qei, Qcu, Qaz, QaL, decide_true, decide_false, tupG, Qc5, QbD, Bool.true_or, Bool.false_or, Bool.or_self, Bool.false_eq_true, if_false, if_true, Qad, go_sem, iv, bv, reduceCtorEq, ↓reduceIte, Nat.reduceEqDiff]
            | false => simp -implicitDefEqProofs (maxSteps := 10000000) only [gap_Stays, o1, o2, g0, g1, g3, h0, h1, h2, h4, h5, h6, t0, t1, t2, t4, t6, tc, tl, ll, x1, x2, y1, y2, n1, n2, n3, st4', Qei, Qcu, Qaz, QaL, decide_true, decide_false, tupG, Qc5, QbD, Bool.true_or, Bool.false_or, Bool.or_self, Bool.false_eq_true, if_false, if_true, Qad, go_sem, iv, bv, reduceCtorEq, ↓reduceIte, Nat.reduceEqDiff]
  · have tl : decide (((p.length : Nat) : Int) < 3) = true := lt_t (by omega)
    have tl2 : decide (p.length < 3) = true := decide_eq_true (by omega)
    rw [tl2]
    clear hb sl sp hr s0 s1 tl2 tc
    generalize decide (evR p 0 < 0) = b0 at *
    generalize decide (evR p 1 < 0) = b1 at *
    generalize evR p 0 = r0 at *
    generalize evR p 1 = r1 at *
    simp only [encR, iv, bv] at *
    cases b0 with
    | true => simp -implicitDefEqProofs (maxSteps := 10000000) only [gap_Stays, o1, g0, h0, t0, st4', Qei, Qcu, Qaz, QaL, decide_true, decide_false, tupG, Qc5, QbD, Bool.true_or, if_true, Qad, go_sem, iv, bv, reduceCtorEq, ↓reduceIte, Nat.reduceEqDiff]
    | false =>
      cases b1 with
      | true => simp -implicitDefEqProofs (maxSteps := 10000000) only [gap_Stays, o1, g0, g1, h0, h1, t0, t1, st4', Qei, Qcu, Qaz, QaL, decide_true, decide_false, tupG, Qc5, QbD, Bool.false_or, if_true, Qad, go_sem, iv, bv, reduceCtorEq, ↓reduceIte, Nat.reduceEqDiff]
      | false => simp -implicitDefEqProofs (maxSteps := 10000000) only [gap_Stays, o1, g0, g1, h0, h1, t0, t1, tl, ll, st4', Qei, Qcu, Qaz, QaL, decide_true, decide_false, tupG, Qc5, QbD, Bool.true_or, Bool.false_or, Bool.or_self, Bool.false_eq_true, if_false, if_true, Qad, go_sem, iv, bv, reduceCtorEq, ↓reduceIte, Nat.reduceEqDiff]
theorem Qsl [ItsB] {e : Eg} {r v a : Vc} {K : Nat} (hK : K ≤ 10000000) (he : AtE e) (hr : SzV K r) (hv : SzV K v) (ha : SzV K a) : Qaj G Qgo [encG e, .rp (cV r), .rp (cV v), .rp (cV a)] = some (.d (bv (staG (alP e r v a)))) := by
  rw [Qaf (cf := gap_Free_1) rfl]
  obtain ⟨d', hd', g1⟩ := Qmo (by omega) he hr hv ha
  have hs := (Qq9 he hr hv ha).trim
  have hln : (alP e r v a).length ≤ 3 := Nat.le_trans (QhI _) (by simp [alL])
  have g2 := Qpq hd' (hs.mono (L := 2 * K + 14) (by omega)) (by omega) (by omega) hln (Qqj _)
  generalize staG (alP e r v a) = t at *
  clear hs hln hd' he hr hv ha
  obtain ⟨⟨a1, b1, c1⟩, t1⟩ := e
  obtain ⟨x1, y1⟩ := r
  obtain ⟨x2, y2⟩ := v
  obtain ⟨x3, y3⟩ := a
  simp only [encG, cG, encV, iv, bv] at g1 g2
  simp -implicitDefEqProofs (maxSteps := 10000000) only [gap_Free_1, encG, cG, cV, ldV8, g1, g2, Qei, Qcu, Qaz, QaL, go_sem, iv, bv, reduceCtorEq, ↓reduceIte, Nat.reduceEqDiff]
theorem Qpt [ItsB] {d : D} {O : List Eg} {r v a : Vc} {K : Nat} (hO : RwE cG d O) (hn : O.length ≤ 1000) (hK : K ≤ 10000000) (he : ∀ e ∈ O, AtE e) (hr : SzV K r) (hv : SzV K v) (ha : SzV K a) : Qaj G QdD [d, encV r, encV v, encV a] = some (.d (iv (fiE (fun e => staG (alP e r v a)) O O.length 0))) := by
  rw [Qaf (cf := gap_Free) rfl]
  have g := Qkh (f := Qgo) (caps := [.rp (cV r), .rp (cV v), .rp (cV a)]) (p := fun e => staG (alP e r v a)) hO (by omega) (fun i hi => Qsl hK (he _ (egm hi)) hr hv ha)
  generalize fiE _ O O.length 0 = z at *
  clear hr hv ha
  obtain ⟨x1, y1⟩ := r
  obtain ⟨x2, y2⟩ := v
  obtain ⟨x3, y3⟩ := a
  simp only [cV, iv] at g
  simp -implicitDefEqProofs (maxSteps := 10000000) only [gap_Free, encV, g, Qcu, Qaz, QaL, toDs, allD, snap, Qcv, go_sem, iv, bv, reduceCtorEq, ↓reduceIte, Nat.reduceEqDiff]
theorem Qsf {e : Eg} {r : Vc} {K : Nat} (hK : K ≤ 10000000) (he : AtE e) (hr : SzV K r) : Qaj G Qf9 [encG e, .rp (cV r)] = some (.d (bv (decide (0 ≤ gpR e r)))) := by
  rw [Qaf (cf := gap_Meet_1) rfl]
  have g1 := QeF (by omega) he hr
  have g2 := Qbs (gpR e r)
  rw [← Qk3]
  generalize gpR e r = q at *
  generalize Int.sign q.num = s at *
  clear he hr
  obtain ⟨⟨a1, b1, c1⟩, t1⟩ := e
  obtain ⟨x1, y1⟩ := r
  simp only [encG, cG, encV, encR, iv, bv] at g1 g2
  simp -implicitDefEqProofs (maxSteps := 10000000) only [gap_Meet_1, encG, cG, cV, ldV8, g1, g2, Qei, Qcu, Qaz, QaL, go_sem, iv, bv, reduceCtorEq, ↓reduceIte, Nat.reduceEqDiff]
def meG (O : List Eg) (r : Vc) : Bool := !(O.any fun e => decide (0 ≤ gpR e r))
theorem Qn3 {d : D} {O : List Eg} {r : Vc} {K : Nat} (hO : RwE cG d O) (hn : O.length ≤ 1000) (hK : K ≤ 10000000) (he : ∀ e ∈ O, AtE e) (hr : SzV K r) : Qaj G QdE [d, encV r] = some (.d (bv (meG O r))) := by
  rw [Qaf (cf := gap_Meet) rfl]
  have g := QlI (f := Qf9) (caps := [.rp (cV r)]) (p := fun e => decide (0 ≤ gpR e r)) hO (by omega) (fun i hi => Qsf hK (he _ (egm hi)) hr)
  unfold meG
  generalize O.any _ = z at *
  clear hr
  obtain ⟨x1, y1⟩ := r
  simp only [cV, iv, bv] at g
  simp -implicitDefEqProofs (maxSteps := 10000000) only [gap_Meet, encV, g, Qcu, Qaz, QaL, toDs, allD, snap, Qcv, go_sem, iv, bv, reduceCtorEq, ↓reduceIte, Nat.reduceEqDiff]
section
variable {d : D} {O : List Eg} {f : Nat} {caps : List D} {F : Eg → Rat × Bool} {K : Nat}
theorem gr_go (hr : RwE cG d O) (hn : O.length ≤ 1000) (hK : K ≤ 10000000000) (hf : ∀ i, i < O.length → Qaj   G f (encG (O.getD i default) :: caps) = some (.d (.tup [encR (F (O.getD i default)).1, bv (F (O.getD i default)).2])) ∧ sz (F (O.getD i default)).1 ≤ K) {b : Int} {q : Rat} (hq : sz q ≤ K) {i : Nat} (hi : i < O.length) :
    X G QaI (Qlv d f caps b q O.length i) = some (.n, if (F (O.getD i default)).2 && (decide (b < 0) || decide (q < (F (O.getD i default)).1)) then Qlv d f caps i (F (O.getD i default)).1 O.length ((i + 1 : Nat) : Int) else Qlv d f caps b q O.length ((i + 1 : Nat) : Int)) := by
  have e1 : decide ((i : Int) < (O.length : Int)) = true := lt_t (by omega)
  have e2 : w64 ((i : Int) + 1) = ((i + 1 : Nat) : Int) := by rw [Qac (by omega) (by omega)]; rfl
  have x1 := hr.ixa QeT hi
  have x2 := fun hp => ldE QeT hp hi
  obtain ⟨g, hz⟩ := hf i hi
  clear hf
  generalize O.getD i default = e at *
  have c1 := QeS (a := (F e).1) (b := q) (by omega) (by omega)
  have c2 := cmpR_gt (a := (F e).1) (b := q)
  generalize (F e).2 = h at *
  generalize (F e).1 = y at *
  generalize decide (q < y) = u at *
  generalize cmpR y q = c at *
  clear hz hq
  obtain ⟨⟨e1', e2', e3'⟩, e4'⟩ := e
  simp only [encG, cG, encR, iv, bv] at x2 g c1
  cases h with
  | false =>
    simp -implicitDefEqProofs (maxSteps := 10000000) only [QaI, Qlv, bxR4, e1, e2, x1, x2, g, st4', Qei, box4g, List.cons_append, List.nil_append, Qcu, Qaz, QaL, decide_true, decide_false, tupG, Bool.false_and, Bool.false_eq_true, if_false, Qad, go_sem, iv, bv, reduceCtorEq, ↓reduceIte, Nat.reduceEqDiff]
  | true =>
    by_cases hb : b < 0
    · have t1 : decide (b < 0) = true := lt_t hb
      simp -implicitDefEqProofs (maxSteps := 10000000) only [QaI, Qlv, bxR4, e1, e2, t1, x1, x2, g, st4', Qei, box4g, List.cons_append, List.nil_append, Qcu, Qaz, QaL, decide_true, decide_false, tupG, Bool.true_or, Bool.and_self, Bool.true_and, if_true, Qad, go_sem, iv, bv, reduceCtorEq, ↓reduceIte, Nat.reduceEqDiff]
    · have t1 : decide (b < 0) = false := lt_f (by omega)
      cases u
      all_goals simp -implicitDefEqProofs (maxSteps := 10000000) only [QaI, Qlv, bxR4, e1, e2, t1, x1, x2, g, c1, c2, st4', Qei, box4g, List.cons_append, List.nil_append, Qcu, Qaz, QaL, decide_true, decide_false, tupG, Bool.false_or, Bool.and_self, Bool.true_and, Bool.and_false, Bool.false_eq_true, if_false, if_true, Qad, go_sem, iv, bv, reduceCtorEq, ↓reduceIte, Nat.reduceEqDiff]
theorem gr_stop {b : Int} {q : Rat} : X G QaI (Qlv d f caps b q O.length O.length) = some (.x 0, mkS [(5, ai b)] []) := by
  have e1 : decide ((O.length : Int) < (O.length : Int)) = false := lt_f (by omega)
  simp -implicitDefEqProofs (maxSteps := 10000000) only [QaI, Qlv, bxR4, e1, Qcu, Qaz, QaL, Qad, go_sem, iv, bv, reduceCtorEq, ↓reduceIte, Nat.reduceEqDiff]
theorem gr_loop (hr : RwE cG d O) (hn : O.length ≤ 1000) (hK1 : 1 ≤ K) (hK : K ≤ 10000000000) (hf : ∀ i, i < O.length → Qaj   G f (encG (O.getD i default) :: caps) = some (.d (.tup [encR (F (O.getD i default)).1, bv (F (O.getD i default)).2])) ∧ sz (F (O.getD i default)).1 ≤ K) : ∀ (j i : Nat), i + j = O.length →
    X G (.loop QaI) (Qlv d f caps (grS F O i).1 (grS F O i).2 O.length i) = some (.x 0, mkS [(5, ai (grS F O O.length).1)] [])
  | 0, i, h => by
    have : i = O.length := by omega
    subst this
    rw [Qak, gr_stop]; rfl
  | j + 1, i, h => by
    have ih := gr_loop hr hn hK1 hK hf j (i + 1) (by omega)
    rw [Qak, gr_go hr hn hK hf (grS_sz hK1 (fun i hi => (hf i hi).2) i (by omega)) (by omega), Option.bind_some, if_pos rfl, ← ih, grS]
    split <;> rfl
theorem Qsm        (hr : RwE cG d O) (hn : O.length ≤ 1000) (hK1 : 1 ≤ K) (hK : K ≤ 10000000000) (hf : ∀ i, i < O.length → Qaj   G f (encG (O.getD i default) :: caps) = some (.d (.tup [encR (F (O.getD i default)).1, bv (F (O.getD i default)).2])) ∧ sz (F (O.getD i default)).1 ≤ K) :
    Qaj G QcO [d, .fn f caps] = some (.d (iv (grS F O O.length).1)) := by
  rw [Qaf (cf := gap_greatest_api_Edge) rfl]
  have ll := hr.len
  have g := gr_loop hr hn hK1 hK hf O.length 0 (by omega)
  have e0 : grS F O 0 = (-1, 0) := rfl
  have e1 : bxR4 0 = ⟨0, 0, [.d (.v (.bool false)), .d (.z true), .d (.v (.bool false)), .d (.z true)], false⟩ := by
    have := QdO
    simp only [encR, D.agg.injEq, List.cons.injEq] at this
    obtain ⟨h1, h2, h3, h4, _⟩ := this
    unfold bxR4
    rw [h1, h2, h4]
  rw [e0] at g
  simp only [Qlv, e1, nc0, go_sem] at g
  generalize (grS F O O.length).1 = z at *
  simp -implicitDefEqProofs (maxSteps := 10000000) only [gap_greatest_api_Edge, g, ll, Qad, go_sem, iv, bv, reduceCtorEq, ↓reduceIte, Nat.reduceEqDiff]
end
theorem QsB {e : Eg} {r v : Vc} {K : Nat} (hK : K ≤ 10000000) (he : AtE e) (hr : SzV K r) (hv : SzV K v) : Qaj G Qgm [encG e, .rp (cV v), .rp (cV r)] = some (.d (.tup [encR (gpR e v), bv (decide (0 ≤ gpR e r))])) := by
  rw [Qaf (cf := gap_Best_1) rfl]
  have g1 := QeF (by omega) he hr
  have g3 := QeF (by omega) he hv
  have g2 := Qbs (gpR e r)
  rw [← Qk3]
  generalize gpR e v = q2 at *
  generalize gpR e r = q at *
  generalize Int.sign q.num = s at *
  clear he hr hv
  obtain ⟨⟨a1, b1, c1⟩, t1⟩ := e
  obtain ⟨x1, y1⟩ := r
  obtain ⟨x2, y2⟩ := v
  simp only [encG, cG, encV, encR, iv, bv] at g1 g2 g3
  simp -implicitDefEqProofs (maxSteps := 10000000) only [gap_Best_1, encG, cG, cV, encR, ldV8, g1, g2, g3, Qei, st4', Qcu, Qaz, QaL, allD, toDs, go_sem, iv, bv, reduceCtorEq, ↓reduceIte, Nat.reduceEqDiff]
def beG (O : List Eg) (r v : Vc) : Int := (grS (fun e => (gpR e v, decide (0 ≤ gpR e r))) O O.length).1
theorem Best_spec {d : D} {O : List Eg} {r v : Vc} {K : Nat} (hO : RwE cG d O) (hn : O.length ≤ 1000) (hK : K ≤ 10000000) (he : ∀ e ∈ O, AtE e) (hr : SzV K r) (hv : SzV K v) : Qaj G QfA [d, encV r, encV v] = some (.d (iv (beG O r v))) := by
  rw [Qaf (cf := gap_Best) rfl]
  have g := Qsm (f := Qgm) (caps := [.rp (cV v), .rp (cV r)]) (F := fun e => (gpR e v, decide (0 ≤ gpR e r))) (K := 2 * K + 14) hO hn (by omega) (by omega) (fun i hi => ⟨QsB hK (he _ (egm hi)) hr hv, Qra (he _ (egm hi)) hv⟩)
  have e : (grS (fun e => (gpR e v, decide (0 ≤ gpR e r))) O O.length).1 = beG O r v := rfl
  rw [e] at g
  generalize beG O r v = z at *
  clear hr hv e
  obtain ⟨x1, y1⟩ := r
  obtain ⟨x2, y2⟩ := v
  simp only [cV, iv] at g
  simp -implicitDefEqProofs (maxSteps := 10000000) only [gap_Best, encV, g, Qcu, Qaz, QaL, toDs, allD, snap, Qcv, go_sem, iv, bv, reduceCtorEq, ↓reduceIte, Nat.reduceEqDiff]
end
end Go.AM

/- The seat's iterators: Backward alone. -/
namespace Go.AM
open Go Go.RowKit Go.Proofs

instance itsP : Its := { it := fun f ds => if f = Qal then QoD ds else none }
instance itsBP : ItsB := ⟨fun _ => if_pos rfl⟩
theorem envP : EnvOk Tryz.prog G := env_ok fun f ds xs h => by
  have h' : (if f = Qal then QoD ds else none) = some xs := h
  split at h'
  · rename_i hf
    rw [hf]
    exact itBack_ok h'
  · cases h'
end Go.AM

/- law13.lives: the parts, by the kernel. -/
namespace Go.AM
open Go Go.RowKit
def zI (n : Int) : List D := [.v (.bool (decide (n < 0))), if n = 0 then .z true else .row 1 [iv n.natAbs], .v (.bool false), .z true]
def vI (x y : Int) : D := .agg (zI x ++ zI y)
def edc : List D := [iv 0, iv (-1), iv 1, iv 2, iv 1, iv 0, iv 1, iv 2, iv 0, iv 1, iv 1, iv 2, iv (-1), iv 0, iv 1, iv 2]
def eds : D := .row 4 edc
def sqD : D := .row 4 [iv 0, iv 0, iv 2, iv 0, iv 2, iv 2, iv 0, iv 2]
def sqL : List Pt := [(0, 0), (2, 0), (2, 2), (0, 2)]
theorem sq_gd : GdS sqL := by
  have h : chkS sqL = true := by kernel_rfl
  unfold chkS at h
  rw [List.all_eq_true] at h
  refine ⟨by decide, by decide, ?_, fun i hi => ?_, fun i hi => ?_⟩
  · intro p hp
    unfold sqL at hp
    simp only [List.mem_cons, List.not_mem_nil, or_false] at hp
    rcases hp with rfl | rfl | rfl | rfl <;> exact ⟨⟨by decide, by decide⟩, ⟨by decide, by decide⟩⟩
  all_goals
    have h1 := h i (List.mem_range.2 hi)
    simp only [Bool.and_eq_true, decide_eq_true_eq] at h1
    obtain ⟨⟨⟨⟨⟨⟨⟨h1, h2⟩, h3⟩, h4⟩, h5⟩, h6⟩, h7⟩, h8⟩ := h1
  · exact ⟨h1, h2⟩
  · exact ⟨⟨h3, h4⟩, ⟨h5, h6⟩, ⟨h7, h8⟩⟩
theorem k0 : Qaj G QcS [sqD, sqD] = some (.own 4 4 edc) := by
  have h := Ql6 (da := sqD) (db := sqD) (a := sqL) (b := sqL) (.inr rfl) (.inr rfl) sq_gd sq_gd
  rw [h]
  have e : sdP sqL sqL = [((0, -1, 1), 2), ((1, 0, 1), 2), ((0, 1, 1), 2), ((-1, 0, 1), 2)] := by kernel_rfl
  rw [e]
  rfl
theorem k1 : Qaj G QbY [.agg [iv 0, iv 1, iv 1, iv 2], vI 1 5] = some (.d (.agg (zI 3))) := callX_some.2 ⟨80, by kernel_rfl⟩
theorem k2 : Qaj G Qcn [.agg (zI 3), .agg (zI 3)] = some (.d (bv true)) := callX_some.2 ⟨80, by kernel_rfl⟩
theorem k3 : Qaj G QdE [eds, vI 1 1] = some (.d (bv true)) := callX_some.2 ⟨60, by kernel_rfl⟩
theorem k4 : Qaj G QdE [eds, vI 2 0] = some (.d (bv false)) := callX_some.2 ⟨60, by kernel_rfl⟩
theorem k5 : Qaj G QfA [eds, vI 0 3, vI 5 1] = some (.d (iv 2)) := callX_some.2 ⟨60, by kernel_rfl⟩
theorem kv (x y : Int) (h : (x, y) ∈ [(1, 5), (1, 1), (2, 0), (0, 0), (0, 3), (0, -2), (5, -2), (5, 1), (1, 2), (1, 0), (1, -1), (0, 1), (2, 2), (-1, -2), (0, -1)]) : Qaj G Qan [iv x, iv y] = some (.d (vI x y)) := by
  simp only [List.mem_cons, List.not_mem_nil, or_false, Prod.mk.injEq] at h
  rcases h with ⟨rfl, rfl⟩ | ⟨rfl, rfl⟩ | ⟨rfl, rfl⟩ | ⟨rfl, rfl⟩ | ⟨rfl, rfl⟩ | ⟨rfl, rfl⟩ | ⟨rfl, rfl⟩ | ⟨rfl, rfl⟩ | ⟨rfl, rfl⟩ | ⟨rfl, rfl⟩ | ⟨rfl, rfl⟩ | ⟨rfl, rfl⟩ | ⟨rfl, rfl⟩ | ⟨rfl, rfl⟩ | ⟨rfl, rfl⟩ <;> exact callX_some.2 ⟨60, by kernel_rfl⟩
theorem kOf : Qaj G QaF [iv 3, iv 1] = some (.d (.agg (zI 3))) := callX_some.2 ⟨60, by kernel_rfl⟩
end Go.AM

/- law13.lives: Free and Contact, by the kernel. -/
namespace Go.AM
open Go Go.RowKit
theorem f1 : Qaj G QdD [eds, vI 0 3, vI 0 (-2), vI 0 0] = some (.d (iv (-1))) := callX_some.2 ⟨80, by kernel_rfl⟩
theorem f2 : Qaj G QdD [eds, vI 0 3, vI 5 (-2), vI 0 0] = some (.d (iv (-1))) := callX_some.2 ⟨80, by kernel_rfl⟩
theorem f3 : Qaj G QdD [eds, vI 0 3, vI 0 (-1), vI 0 0] = some (.d (iv 2)) := callX_some.2 ⟨80, by kernel_rfl⟩
theorem c1 : Qaj G Qcl [eds, vI 1 2, vI 1 0] = some (.d (iv 2)) := callX_some.2 ⟨80, by kernel_rfl⟩
theorem c2 : Qaj G Qcl [eds, vI 1 2, vI 1 (-1)] = some (.d (iv 2)) := callX_some.2 ⟨80, by kernel_rfl⟩
theorem c3 : Qaj G Qcl [eds, vI 1 2, vI 0 1] = some (.d (iv (-1))) := callX_some.2 ⟨80, by kernel_rfl⟩
theorem c4 : Qaj G Qcl [eds, vI 2 2, vI (-1) (-2)] = some (.d (iv 1)) := callX_some.2 ⟨80, by kernel_rfl⟩
end Go.AM

/- law13.lives. -/
namespace Go.AM
open Go Go.RowKit
theorem z0 : zI 0 = [.v (.bool false), .z true, .v (.bool false), .z true] := rfl
set_option maxHeartbeats 4000000 in
theorem lives13 : Qaj G QdA [] = some (.d (bv true)) := by
  rw [Qaf (cf := gantrylaw13_lives) rfl]
  have v1 := kv 1 5 (by simp)
  have v2 := kv 1 1 (by simp)
  have v3 := kv 2 0 (by simp)
  have v4 := kv 0 0 (by simp)
  have v5 := kv 0 3 (by simp)
  have v6 := kv 0 (-2) (by simp)
  have v7 := kv 5 (-2) (by simp)
  have v8 := kv 5 1 (by simp)
  have v9 := kv 1 2 (by simp)
  have v10 := kv 1 0 (by simp)
  have v11 := kv 1 (-1) (by simp)
  have v12 := kv 0 1 (by simp)
  have v13 := kv 2 2 (by simp)
  have v14 := kv (-1) (-2) (by simp)
  have v15 := kv 0 (-1) (by simp)
  have k0 := k0; have k1 := k1; have k2 := k2; have k3 := k3; have k4 := k4; have k5 := k5; have kOf := kOf
  have f1 := f1; have f2 := f2; have f3 := f3; have c1 := c1; have c2 := c2; have c3 := c3; have c4 := c4
  have e0 : vI 0 0 = .agg [.v (.bool false), .z true, .v (.bool false), .z true, .v (.bool false), .z true, .v (.bool false), .z true] := rfl
  rw [e0] at v4 f1 f2 f3
  have e1 : D.agg (zI 3) = .agg [.v (.bool false), .row 1 [iv 3], .v (.bool false), .z true] := rfl
  have x1 : ∀ h : Hp, ixaA h 4 2 (.d eds) = some (.d (.rp [iv 0, iv 1, iv 1, iv 2, iv (-1), iv 0, iv 1, iv 2])) := fun _ => rfl
  have x2 : ∀ h : Hp, Qcs h (some 4) (.d (.rp [iv 0, iv 1, iv 1, iv 2, iv (-1), iv 0, iv 1, iv 2])) = some (.d (.agg [iv 0, iv 1, iv 1, iv 2])) := fun _ => rfl
  simp only [eds, edc, iv, bv, sqD] at x1 x2 v1 v2 v3 v4 v5 v6 v7 v8 v9 v10 v11 v12 v13 v14 v15 k0 k1 k2 k3 k4 k5 kOf f1 f2 f3 c1 c2 c3 c4
  simp -implicitDefEqProofs (maxSteps := 10000000) only [gantrylaw13_lives, v1, v2, v3, v4, v5, v6, v7, v8, v9, v10, v11, v12, v13, v14, v15, k0, k1, k2, k3, k4, k5, kOf, f1, f2, f3, c1, c2, c3, c4, QnM, st8, ld8, Qc5, QbD, x1, x2, one_b, oneI, Bool.not_true, Bool.not_false, beq_self_eq_true, List.map_cons, List.map_nil, go_sem, iv, bv, reduceCtorEq, ↓reduceIte, Nat.reduceEqDiff]
end Go.AM

namespace Go.AM
open Go Go.RowKit

def bxV (v : Vc) : Obj := ⟨0, 0, [.d (.v (.bool (decide (v.1.num < 0)))), .d (dg (digs v.1.num.natAbs)), .d (.v (.bool false)), .d (dg (dd v.1.den)), .d (.v (.bool (decide (v.2.num < 0)))), .d (dg (digs v.2.num.natAbs)), .d (.v (.bool false)), .d (dg (dd v.2.den))], false⟩
def QpQ (O : List Eg) (r v a n : Vc) (i : Int) : St := mkS [(7, .d (rowE cG O)), (8, .ptr [8] 0), (9, .ptr [9] 0), (10, .ptr [10] 0), (11, .ptr [11] 0), (12, ai i)] [([8], bxV r), ([9], bxV v), ([10], bxV a), ([11], bxV n)]
def hfV (r v a : Vc) : Vc := plV (plV r v) (tmV (Rat.divInt 1 2) a)
theorem enc0 : encR 0 = .agg [.v (.bool false), .z true, .v (.bool false), .z true] := by
  unfold encR
  have h1 : (0 : Rat).num = 0 := rfl
  have h2 : (0 : Rat).den = 1 := rfl
  rw [h1, h2]
  have h3 : digs (Int.natAbs 0) = [] := QaD
  have h4 : dd 1 = [] := rfl
  rw [h3, h4]
  rfl
theorem al_0 (e : Eg) (r v a : Vc) : evR (alP e r v a) 0 = gpR e r := by
  unfold alP
  rw [QmH]
  unfold alL
  simp only [evR, List.foldr]
  grind
theorem al_1 (e : Eg) (r v a : Vc) : evR (alP e r v a) 1 = gpR e r + rtR e.1 v + rtR e.1 a / 2 := by
  unfold alP
  rw [QmH]
  unfold alL
  simp only [evR, List.foldr]
  grind
theorem Qm8 (e : Eg) (r v : Vc) : gpR e (plV r v) = gpR e r + rtR e.1 v := by
  unfold gpR rtR dotR plV
  dsimp only
  rw [Rat.div_def, Rat.div_def, Rat.div_def]
  generalize ((e.1.2.2 : Int) : Rat)⁻¹ = q
  generalize ((e.2 : Int) : Rat) = t
  generalize ((e.1.1 : Int) : Rat) = a
  generalize ((e.1.2.1 : Int) : Rat) = b
  grind
theorem rt_half (d : Dr) (a : Vc) : rtR d (tmV (Rat.divInt 1 2) a) = rtR d a / 2 := by
  rw [← QmO]
  unfold rtR dotR tmV
  dsimp only
  rw [Rat.div_def, Rat.div_def]
  generalize ((d.2.2 : Int) : Rat)⁻¹ = q
  generalize Rat.divInt 1 2 = h
  generalize ((d.1 : Int) : Rat) = a
  generalize ((d.2.1 : Int) : Rat) = b
  grind
theorem gp_end (e : Eg) (r v a : Vc) : gpR e (hfV r v a) = gpR e r + rtR e.1 v + rtR e.1 a / 2 := by
  unfold hfV
  rw [Qm8, Qm8, rt_half]
theorem sdO_at {a b : List Pt} (ha : GdS a) (hb : GdS b) {ds : List Dr} (hd : ∀ d ∈ ds, NmD d) : ∀ i, i ≤ ds.length → ∀ e ∈ sdO a b ds i, AtE e
  | 0, _, e, he => by simp [sdO] at he
  | i + 1, hi, e, he => by
    rw [sdO] at he
    split at he
    · rcases List.mem_append.1 he with h | h
      · exact sdO_at ha hb hd i (by omega) e h
      · rw [List.mem_singleton] at h
        subst h
        have hdi : NmD (ds.getD i default) := by rw [List.getD_eq_getElem?_getD, List.getElem?_eq_getElem (by omega)]; exact hd _ (List.getElem_mem (by omega))
        have m1 : -20000000000000000 ≤ moP (ds.getD i default) a ∧ moP (ds.getD i default) a ≤ 20000000000000000 := QlU hdi ha.sm _
        have m2 : -20000000000000000 ≤ moP (tnD (ds.getD i default)) b ∧ moP (tnD (ds.getD i default)) b ≤ 20000000000000000 := QlU hdi.tn hb.sm _
        refine ⟨hdi, ?_, ?_⟩ <;> (unfold edP; dsimp only; omega)
    · exact sdO_at ha hb hd i (by omega) e he
theorem sdP_at {a b : List Pt} (ha : GdS a) (hb : GdS b) : ∀ e ∈ sdP a b, AtE e := sdO_at ha hb (drs_nm ha hb) _ (Nat.le_refl _)
theorem sdP_len {a b : List Pt} (ha : GdS a) (hb : GdS b) : (sdP a b).length ≤ 20 := by
  have h1 := Qkk a b (drs a b) (drs a b).length
  have h2 := QiI a b
  have := ha.le; have := hb.le
  unfold sdP
  omega
theorem atE0 {O : List Eg} (hO : ∀ e ∈ O, AtE e) {i : Nat} (hi : i < O.length) : AtE (O.getD i default) := by
  rw [List.getD_eq_getElem?_getD, List.getElem?_eq_getElem hi]; exact hO _ (List.getElem_mem hi)

theorem ga_go {O : List Eg} {r v a : Vc} (hO : ∀ e ∈ O, AtE e) (hn : O.length ≤ 1000) (hr : SzV 30 r) (hv : SzV 30 v) (ha : SzV 30 a) {i : Nat} (hi : i < O.length) :
    X G Qa9 (QpQ O r v a (hfV r v a) i) = some (.n, QpQ O r v a (hfV r v a) ((i + 1 : Nat) : Int)) := by
  have e1 : decide ((i : Int) < (O.length : Int)) = true := lt_t (by omega)
  have e2 : w64 ((i : Int) + 1) = ((i + 1 : Nat) : Int) := by rw [Qac (by omega) (by omega)]; rfl
  have ll : lenA (.d (rowE cG O)) = some O.length := rfl
  have x1 := RwE.ixa (d := rowE cG O) (l := O) QeT (.inr rfl) hi
  have x2 := fun hp => ldE QeT hp hi
  have he := atE0 hO hi
  generalize O.getD i default = e at *
  have pv := QlG hr hv
  have hh : sz (Rat.divInt 1 2) ≤ 3 := QpZ QeV Qob
  have pe := QlG pv (QqZ hh ha)
  obtain ⟨d1, hd1, g1⟩ := Qmo (K := 30) (by omega) he hr hv ha
  obtain ⟨d2, hd2, g2⟩ := QpE (K := 30) (by omega) he hr hv ha
  have sA : SzL 74 (alP e r v a) := (Qq9 he hr hv ha).trim
  have nA : (alP e r v a).length ≤ 3 := QhI _
  have g3 := QeF (K := 30) (by omega) he hr
  have g4 := Qo2 (K := 30) (by omega) he hr
  have k1 := Qra he hr
  have k2 := QlH he.1 hv
  have g5 := s5_refl (a := gpR e r) (by omega)
  have g6 := s6_same hd1 hd2 rfl (sA.mono (by omega)) (by omega)
  have g7 := Qkv (K := 30) (by omega) he hv
  have g8 := QfG (a := gpR e r) (b := rtR e.1 v) (by omega) (by omega)
  have g9 := Qft (K := 30) (by omega) hr hv
  have g10 := QeF (K := 61) (by omega) he pv
  rw [Qm8] at g10
  have k3 := Qkz (a := gpR e r) (b := rtR e.1 v)
  have g11 := QpL (a := gpR e r + rtR e.1 v) (by omega)
  have g12 := (evalP hd1 (sA.mono (by omega)) (by omega) (x := 0) (by rw [Qiz]; omega)).1
  rw [al_0] at g12
  have g13 := QpL (a := gpR e r) (by omega)
  have g14 := Qsh
  have g15 := (evalP hd1 (sA.mono (by omega)) (by omega) (x := 1) (by rw [sz_one_]; omega)).1
  have g16 := QeF (K := 100) (by omega) he (pe.mono (by omega))
  have k4 := Qra he pe
  have g17 := QpL (a := gpR e (hfV r v a)) (by unfold hfV; omega)
  have ee : plV (plV r v) (tmV (Rat.divInt 1 2) a) = hfV r v a := rfl
  rw [ee] at g16
  rw [al_1, ← gp_end] at g15
  rw [enc0] at g12
  generalize hfV r v a = n at *
  generalize plV r v = rv at *
  generalize gpR e r + rtR e.1 v = q1 at *
  generalize gpR e n = q2 at *
  generalize gpR e r = q3 at *
  generalize rtR e.1 v = q4 at *
  generalize (1 : Rat) = one at *
  clear k1 k2 k3 k4 pv pe hh ee sA nA hd1 hd2 he hr hv ha
  obtain ⟨⟨a1, b1, c1⟩, t1⟩ := e
  obtain ⟨rx, ry⟩ := r
  obtain ⟨vx, vy⟩ := v
  obtain ⟨ax, ay⟩ := a
  obtain ⟨nx, ny⟩ := n
  obtain ⟨px, py⟩ := rv
  simp only [encG, cG, encV, encR, iv, bv] at x2 g1 g2 g3 g4 g5 g6 g7 g8 g9 g10 g11 g12 g13 g14 g15 g16 g17
  simp -implicitDefEqProofs (maxSteps := 10000000) only [Qa9, QpQ, bxV, Qad, x1, x2, ll, g1, g2, g3, g4, g5, g6, g7, g8, g9, g10, g11, g12, g13, g14, g15, g16, g17, e1, e2, st4', Qei, ld8, Bool.not_true, Bool.not_false, Qaz, QaL, Qcu, go_sem, iv, bv, reduceCtorEq, ↓reduceIte, Nat.reduceEqDiff]
theorem ga_stop {O : List Eg} {r v a n : Vc} : X G Qa9 (QpQ O r v a n O.length) = some (.x 0, mkS [] []) := by
  have e1 : decide ((O.length : Int) < (O.length : Int)) = false := lt_f (by omega)
  have ll : lenA (.d (rowE cG O)) = some O.length := rfl
  simp -implicitDefEqProofs (maxSteps := 10000000) only [Qa9, QpQ, bxV, Qad, ll, go_sem, iv, bv, e1, reduceCtorEq, ↓reduceIte, Nat.reduceEqDiff]
theorem ga_loop {O : List Eg} {r v a : Vc} (hO : ∀ e ∈ O, AtE e) (hn : O.length ≤ 1000) (hr : SzV 30 r) (hv : SzV 30 v) (ha : SzV 30 a) : ∀ (j i : Nat), i + j = O.length → X G (.loop Qa9) (QpQ O r v a (hfV r v a) i) = some (.x 0, mkS [] [])
  | 0, i, h => by
    have : i = O.length := by omega
    subst this
    rw [Qak, ga_stop]; rfl
  | j + 1, i, h => by
    rw [Qak, ga_go hO hn hr hv ha (by omega), Option.bind_some, if_pos rfl]
    exact ga_loop hO hn hr hv ha j (i + 1) (by omega)
theorem QjG (l : List Int) (i : Int) : I64 (atr l i 96) := by
  have := QrT l i (m := 96) (by omega)
  exact ⟨by omega, by omega⟩
end Go.AM
namespace Go.Proofs.YtfdelaplhpmneaaGreat.Pure
open Go Go.AM
set_option maxHeartbeats 1000000 in
theorem GapAlong (e0 : D) (l0 : List Int) (hd0 : Dg e0 l0) (hwf0 : ∀ n ∈ l0, (Lit.int .i64 n).wf = true) (hlen0 : l0.length * 8 ≤ 140737488351232) (e1 : D) (l1 : List Int) (hd1 : Dg e1 l1) (hwf1 : ∀ n ∈ l1, (Lit.int .i64 n).wf = true) (hlen1 : l1.length * 8 ≤ 140737488351232) (e2 : D) (l2 : List Int) (hd2 : Dg e2 l2) (hwf2 : ∀ n ∈ l2, (Lit.int .i64 n).wf = true) (hlen2 : l2.length * 8 ≤ 140737488351232) : Qaj G Qf5 [e0, e1, e2] = some (.d (bv true)) := by
  have w2 : ∀ n ∈ l2, I64 n := fun n hn => Qmh (hwf2 n hn)
  have g0 := QgD (QgT hd0) (fun n hn => Qmh (hwf0 n hn))
  have g1 := QgD (QgT hd1) (fun n hn => Qmh (hwf1 n hn))
  have ga := gd_sh l0
  have gb := gd_sh l1
  have g2 := Ql6 (da := rowE cP (spP l0)) (db := rowE cP (spP l1)) (.inr rfl) (.inr rfl) ga gb
  have a0 := Qc9 (i := 0) (m := 96) (QgT hd2) w2 (by omega)
  have a1 := Qc9 (i := 1) (m := 96) (QgT hd2) w2 (by omega)
  have a2 := Qc9 (i := 2) (m := 96) (QgT hd2) w2 (by omega)
  have a3 := Qc9 (i := 3) (m := 96) (QgT hd2) w2 (by omega)
  have a4 := Qc9 (i := 4) (m := 96) (QgT hd2) w2 (by omega)
  have a5 := Qc9 (i := 5) (m := 96) (QgT hd2) w2 (by omega)
  have v0 := QgL (QjG l2 0) (QjG l2 1)
  have v1 := QgL (QjG l2 2) (QjG l2 3)
  have v2 := QgL (QjG l2 4) (QjG l2 5)
  have s0 := Ql5 (atr l2 0 96) (atr l2 1 96)
  have s1 := Ql5 (atr l2 2 96) (atr l2 3 96)
  have s2 := Ql5 (atr l2 4 96) (atr l2 5 96)
  have hO := sdP_at ga gb
  have hn := sdP_len ga gb
  have gl := ga_loop (O := sdP (spP l0) (spP l1)) hO (by omega) (s0.mono (by omega)) (s1.mono (by omega)) (s2.mono (by omega)) (sdP (spP l0) (spP l1)).length 0 (by omega)
  generalize (vcR (atr l2 0 96), vcR (atr l2 1 96)) = r at *
  generalize (vcR (atr l2 2 96), vcR (atr l2 3 96)) = v at *
  generalize (vcR (atr l2 4 96), vcR (atr l2 5 96)) = a at *
  generalize sdP (spP l0) (spP l1) = O at *
  have g3 := Qft (K := 30) (by omega) (s0.mono (by omega)) (s1.mono (by omega))
  have pv := QlG s0 s1
  have hh : sz (Rat.divInt 1 2) ≤ 3 := QpZ QeV Qob
  have g4 := QcT QeV Qob
  have g5 := Qjg (K := 30) (k := Rat.divInt 1 2) (by omega) (by omega) (s2.mono (by omega))
  have pt := QqZ hh s2
  have g6 := Qft (K := 30) (by omega) (pv.mono (by omega)) (pt.mono (by omega))
  have ee : plV (plV r v) (tmV (Rat.divInt 1 2) a) = hfV r v a := rfl
  rw [ee] at g6
  have lv := lives13
  rw [Qaf (cf := gantrylaw13_GapAlong) rfl]
  generalize hfV r v a = n at *
  generalize tmV (Rat.divInt 1 2) a = ta at *
  generalize plV r v = rv at *
  generalize Rat.divInt 1 2 = hq at *
  clear s0 s1 s2 pv hh pt ee hO hn
  obtain ⟨rx, ry⟩ := r
  obtain ⟨vx, vy⟩ := v
  obtain ⟨ax, ay⟩ := a
  obtain ⟨nx, ny⟩ := n
  obtain ⟨px, py⟩ := rv
  obtain ⟨tx, ty⟩ := ta
  simp only [QpQ, bxV, rowE, nc0, go_sem] at gl
  simp only [encV, encR, rowE, iv, bv] at g0 g1 g2 g3 g4 g5 g6 a0 a1 a2 a3 a4 a5 v0 v1 v2 lv
  simp -implicitDefEqProofs (maxSteps := 10000000) only [gantrylaw13_GapAlong, gl, g0, g1, g2, g3, g4, g5, g6, a0, a1, a2, a3, a4, a5, v0, v1, v2, lv, Qad, st8, ld8, Qaz, QaL, Qcu, go_sem, iv, bv, reduceCtorEq, ↓reduceIte, Nat.reduceEqDiff]
end Go.Proofs.YtfdelaplhpmneaaGreat.Pure

/- What gap's answers mean: plain. -/
namespace Go.AM
open Go Go.RowKit
theorem fiE_at (p : Eg → Bool) (O : List Eg) : ∀ j i : Nat, i + j = O.length → (fiE p O j i = -1 ∧ ∀ k, i ≤ k → k < O.length → p (O.getD k default) = false) ∨ ∃ k : Nat, i ≤ k ∧ k < O.length ∧ fiE p O j i = (k : Int) ∧ p (O.getD k default) = true
  | 0, i, h => .inl ⟨rfl, fun k h1 h2 => by omega⟩
  | j + 1, i, h => by
    rw [fiE]
    by_cases hp : p (O.getD i default) = true
    · rw [if_pos hp]
      exact .inr ⟨i, by omega, by omega, rfl, hp⟩
    · rw [if_neg hp]
      rcases fiE_at p O j (i + 1) (by omega) with ⟨h1, h2⟩ | ⟨k, h1, h2, h3, h4⟩
      · refine .inl ⟨h1, fun k hk hk2 => ?_⟩
        by_cases e : k = i
        · subst e; exact Bool.eq_false_iff.2 hp
        · exact h2 k (by omega) hk2
      · exact .inr ⟨k, by omega, h2, h3, h4⟩
theorem grS_at (F : Eg → Rat × Bool) (O : List Eg) : ∀ n : Nat, ((grS F O n).1 = -1 ∧ ∀ k, k < n → (F (O.getD k default)).2 = false) ∨ ∃ k : Nat, k < n ∧ (grS F O n).1 = (k : Int) ∧ (F (O.getD k default)).2 = true
  | 0 => .inl ⟨rfl, fun k h => by omega⟩
  | n + 1 => by
    rw [grS]
    rcases grS_at F O n with ⟨h1, h2⟩ | ⟨k, h1, h2, h3⟩
    · cases h : (F (O.getD n default)).2 with
      | false =>
        rw [Bool.false_and, if_neg (by simp)]
        refine .inl ⟨h1, fun k hk => ?_⟩
        by_cases e : k = n
        · subst e; exact h
        · exact h2 k (by omega)
      | true =>
        rw [h1]
        exact .inr ⟨n, by omega, by simp, h⟩
    · split
      · rename_i h
        rw [Bool.and_eq_true] at h
        exact .inr ⟨n, by omega, rfl, h.1⟩
      · exact .inr ⟨k, by omega, h2, h3⟩
theorem ev3 {p : List Rat} (h : p.length ≤ 3) (s : Rat) : evR p s = p.getD 0 0 + p.getD 1 0 * s + p.getD 2 0 * (s * s) := by
  match p, h with
  | [], _ => simp only [evR, List.foldr, List.getD_nil]; grind
  | [a], _ => simp only [evR, List.foldr, List.getD_cons_zero, List.getD_cons_succ, List.getD_nil]; grind
  | [a, b], _ => simp only [evR, List.foldr, List.getD_cons_zero, List.getD_cons_succ, List.getD_nil]; grind
  | [a, b, c], _ => simp only [evR, List.foldr, List.getD_cons_zero, List.getD_cons_succ, List.getD_nil]; grind
theorem qd_line {a b c s : Rat} (h0 : 0 ≤ a) (h1 : 0 ≤ a + b + c) (hc : c ≤ 0) (hs : 0 ≤ s) (hs1 : s ≤ 1) : 0 ≤ a + b * s + c * (s * s) := by
  have k1 : 0 ≤ (1 - s) * a := Rat.mul_nonneg (by grind) h0
  have k2 : 0 ≤ s * (a + b + c) := Rat.mul_nonneg hs h1
  have k3 : 0 ≤ (-c) * (s * (1 - s)) := Rat.mul_nonneg (by grind) (Rat.mul_nonneg hs (by grind))
  grind
theorem qd_left {a b c s : Rat} (h0 : 0 ≤ a) (hc : 0 < c) (hb : 0 ≤ b) (hs : 0 ≤ s) : 0 ≤ a + b * s + c * (s * s) := by
  have k1 : 0 ≤ b * s := Rat.mul_nonneg hb hs
  have k3 : 0 ≤ c * (s * s) := Rat.mul_nonneg (Rat.le_of_lt hc) (Rat.mul_nonneg hs hs)
  grind
theorem qd_right {a b c s : Rat} (h1 : 0 ≤ a + b + c) (hc : 0 < c) (hb : 2 * c ≤ -b) (hs1 : s ≤ 1) : 0 ≤ a + b * s + c * (s * s) := by
  have k1 : 0 ≤ (1 - s) * (-b - 2 * c) := Rat.mul_nonneg (by grind) (by grind)
  have k3 : 0 ≤ c * ((1 - s) * (1 - s)) := Rat.mul_nonneg (Rat.le_of_lt hc) (Rat.mul_nonneg (by grind) (by grind))
  grind
theorem sq_nn (x : Rat) : 0 ≤ x * x := by
  rcases Rat.le_total (a := 0) (b := x) with h | h
  · exact Rat.mul_nonneg h h
  · have := Rat.mul_nonneg (a := -x) (b := -x) (by grind) (by grind)
    grind
theorem qd_top {a b c s t : Rat} (hc : 0 < c) (ht : t * (c * 2) = -b) (hv : 0 ≤ a + b * t + c * (t * t)) : 0 ≤ a + b * s + c * (s * s) := by
  have k3 : 0 ≤ c * ((s - t) * (s - t)) := Rat.mul_nonneg (Rat.le_of_lt hc) (sq_nn _)
  have e : a + b * s + c * (s * s) = (a + b * t + c * (t * t)) + c * ((s - t) * (s - t)) := by
    have hb : b = -(t * (c * 2)) := by grind
    rw [hb]
    grind
  rw [e]
  grind
theorem ve_mul {p : List Rat} (h : p.getD 2 0 ≠ 0) : veR p * (p.getD 2 0 * 2) = -(p.getD 1 0) := by
  unfold veR
  exact Rat.div_mul_cancel (fun h0 => h (by exact (Rat.mul_eq_zero.1 h0).resolve_right (by decide)))
theorem sta_nn {p : List Rat} (hl : p.length ≤ 3) (ht : Trm p) (h : staG p = true) {s : Rat} (hs : 0 ≤ s) (hs1 : s ≤ 1) : 0 ≤ evR p s := by
  have e0 := ev3 hl 0
  have e1 := ev3 hl 1
  rw [ev3 hl s]
  unfold staG at h
  by_cases h1 : evR p 0 < 0
  · simp [h1] at h
  by_cases h2 : evR p 1 < 0
  · simp [h2] at h
  have h1 := Rat.not_lt.1 h1
  have h2 := Rat.not_lt.1 h2
  rw [e0] at h1
  rw [e1] at h2
  rw [if_neg (by rw [Bool.or_eq_true, decide_eq_true_iff, decide_eq_true_iff]; rintro (h | h) <;> grind)] at h
  have f0 : 0 ≤ p.getD 0 0 := by grind
  have f1 : 0 ≤ p.getD 0 0 + p.getD 1 0 + p.getD 2 0 := by grind
  by_cases h3 : p.length < 3
  · have z : p.getD 2 0 = 0 := by rw [List.getD_eq_getElem?_getD, List.getElem?_eq_none (by omega)]; rfl
    exact qd_line f0 f1 (by rw [z]; exact Rat.le_refl) hs hs1
  by_cases h4 : p.getD 2 0 < 0
  · exact qd_line f0 f1 (Rat.le_of_lt h4) hs hs1
  have nz : p.getD 2 0 ≠ 0 := ht 2 (by omega)
  have hc : 0 < p.getD 2 0 := Rat.lt_of_le_of_ne (Rat.not_lt.1 h4) (fun e => nz e.symm)
  have hv := ve_mul nz
  rw [if_neg (by rw [Bool.or_eq_true, decide_eq_true_iff, decide_eq_true_iff]; exact fun h => h.elim h3 h4)] at h
  rw [Bool.or_eq_true, Bool.or_eq_true, decide_eq_true_iff, decide_eq_true_iff, decide_eq_true_iff] at h
  have hp : 0 < p.getD 2 0 * 2 := by grind
  rcases h with (h | h) | h
  · have : 0 ≤ (-(veR p)) * (p.getD 2 0 * 2) := Rat.mul_nonneg (by grind) (Rat.le_of_lt hp)
    exact qd_left f0 hc (by grind) hs
  · have : 0 ≤ (veR p - 1) * (p.getD 2 0 * 2) := Rat.mul_nonneg (by grind) (Rat.le_of_lt hp)
    exact qd_right f1 hc (by grind) hs1
  · rw [ev3 hl] at h
    exact qd_top hc hv h
theorem al_s (e : Eg) (r v a : Vc) (s : Rat) : evR (alP e r v a) s = gpR e r + rtR e.1 v * s + rtR e.1 a / 2 * (s * s) := by
  unfold alP
  rw [QmH]
  unfold alL
  simp only [evR, List.foldr]
  grind
theorem rt_plus (d : Dr) (v w : Vc) : rtR d (plV v w) = rtR d v + rtR d w := by
  unfold rtR dotR plV
  dsimp only
  rw [Rat.div_def, Rat.div_def, Rat.div_def]
  generalize ((d.2.2 : Int) : Rat)⁻¹ = q
  generalize ((d.1 : Int) : Rat) = a
  generalize ((d.2.1 : Int) : Rat) = b
  grind
theorem Qq7 (d : Dr) (s : Rat) (v : Vc) : rtR d (tmV s v) = s * rtR d v := by
  unfold rtR dotR tmV
  dsimp only
  rw [Rat.div_def, Rat.div_def]
  generalize ((d.2.2 : Int) : Rat)⁻¹ = q
  generalize ((d.1 : Int) : Rat) = a
  generalize ((d.2.1 : Int) : Rat) = b
  grind
def poV (r v w : Vc) (s : Rat) : Vc := plV r (plV (tmV s v) (tmV (s * s * Rat.divInt 1 2) w))
theorem gp_po (e : Eg) (r v w : Vc) (s : Rat) : gpR e (poV r v w s) = evR (alP e r v w) s := by
  unfold poV
  rw [al_s, Qm8, rt_plus, Qq7, Qq7, ← QmO]
  generalize Rat.divInt 1 2 = h
  grind
theorem gp_le {e : Eg} (he : NmD e.1) (v : Vc) : (gpR e v ≤ 0 ↔ dotR e.1 v ≤ (e.2 : Rat)) ∧ (gpR e v = 0 ↔ dotR e.1 v = (e.2 : Rat)) := by
  have hp : (0 : Rat) < ((e.1.2.2 : Int) : Rat) := by have := he.2.2; exact_mod_cast (by omega : 0 < e.1.2.2)
  have hm : gpR e v * ((e.1.2.2 : Int) : Rat) = dotR e.1 v - (e.2 : Rat) := by
    unfold gpR
    exact Rat.div_mul_cancel (fun h => by rw [h] at hp; exact Rat.lt_irrefl hp)
  generalize gpR e v = g at *
  generalize ((e.1.2.2 : Int) : Rat) = H at *
  generalize dotR e.1 v = x at *
  generalize (e.2 : Rat) = y at *
  constructor
  · constructor
    · intro h
      have := Rat.mul_nonneg (a := -g) (b := H) (by grind) (Rat.le_of_lt hp)
      grind
    · intro h
      refine Rat.not_lt.1 fun h1 => ?_
      have := Rat.mul_pos h1 hp
      grind
  · constructor
    · intro h
      rw [h] at hm
      grind
    · intro h
      rw [h] at hm
      have h0 : g * H = 0 := by grind
      rcases Rat.mul_eq_zero.1 h0 with h0 | h0
      · exact h0
      · rw [h0] at hp; exact absurd hp Rat.lt_irrefl
theorem Qpy (O : List Eg) (r : Vc) : meG O r = true ↔ ∀ e ∈ O, gpR e r < 0 := by
  unfold meG
  rw [Bool.not_eq_true', List.any_eq_false]
  constructor
  · intro h e he
    have := h e he
    rw [decide_eq_true_iff] at this
    exact Rat.not_le.1 this
  · intro h e he
    rw [decide_eq_true_iff]
    exact Rat.not_le.2 (h e he)
theorem meG_beG (O : List Eg) (r v : Vc) : meG O r = decide (beG O r v = -1) := by
  rw [Bool.eq_iff_iff, Qpy, decide_eq_true_iff]
  unfold beG
  rcases grS_at (fun e => (gpR e v, decide (0 ≤ gpR e r))) O O.length with ⟨h1, h2⟩ | ⟨k, h1, h2, h3⟩
  · rw [h1]
    refine ⟨fun _ => rfl, fun _ e he => ?_⟩
    obtain ⟨i, hi, rfl⟩ := List.getElem_of_mem he
    have := h2 i hi
    rw [List.getD_eq_getElem?_getD, List.getElem?_eq_getElem hi, Option.getD_some, decide_eq_false_iff_not] at this
    exact Rat.not_le.1 this
  · rw [h2]
    constructor
    · intro h
      have := h _ (egm h1)
      rw [decide_eq_true_iff] at h3
      exact absurd h3 (Rat.not_le.2 this)
    · intro h; omega
end Go.AM

/- convex.Sides. -/
namespace Go.AM
open Go Go.RowKit

theorem eqDr_iff {a b : Dr} : eqDr a b = true ↔ a = b := by
  obtain ⟨x, y, z⟩ := a
  obtain ⟨p, q, r⟩ := b
  simp [eqDr]
def cadd (a b : List Pt) (O : List Eg) (d : Dr) : List Eg := if O.any (fun e => eqDr e.1 d) then O else O ++ [edP a b d]
theorem Qph {ds : List Dr} {i : Nat} (hi : i < ds.length) : ∀ k, k ≤ i → frI ds i k = !((ds.take k).any fun x => eqDr x (ds.getD i default))
  | 0, _ => by simp [frI]
  | k + 1, hk => by
    rw [frI, Qph hi k (by omega), List.take_add_one, List.any_append, Bool.not_or]
    congr 1
    rw [List.getElem?_eq_getElem (by omega), List.getD_eq_getElem?_getD (i := k), List.getElem?_eq_getElem (by omega)]
    simp
theorem sdO_any (a b : List Pt) {ds : List Dr} (d : Dr) : ∀ i, i ≤ ds.length → (sdO a b ds i).any (fun e => eqDr e.1 d) = (ds.take i).any fun x => eqDr x d
  | 0, _ => by simp [sdO]
  | i + 1, hi => by
    have ih := sdO_any a b (ds := ds) d i (by omega)
    have e1 : ds.take (i + 1) = ds.take i ++ [ds.getD i default] := by
      rw [List.take_add_one, List.getElem?_eq_getElem (by omega), List.getD_eq_getElem?_getD, List.getElem?_eq_getElem (by omega)]; rfl
    rw [sdO, e1, List.any_append]
    have hf := Qph (ds := ds) (i := i) (by omega) i (Nat.le_refl _)
    split
    · rw [List.any_append, ih]; rfl
    · rename_i hc
      rw [ih]
      have h2 : ((ds.take i).any fun x => eqDr x (ds.getD i default)) = true := by
        rw [hf] at hc; simpa using hc
      cases h3 : eqDr (ds.getD i default) d with
      | false => rw [List.any_cons, List.any_nil, Bool.or_false, h3, Bool.or_false]
      | true =>
        rw [eqDr_iff] at h3
        rw [h3] at h2
        rw [h2]; rfl
theorem QrC (a b : List Pt) (ds : List Dr) {i : Nat} (hi : i < ds.length) : cadd a b (sdO a b ds i) (ds.getD i default) = sdO a b ds (i + 1) := by
  unfold cadd
  rw [sdO_any a b _ i (by omega), sdO, Qph hi i (Nat.le_refl _)]
  cases ((ds.take i).any fun x => eqDr x (ds.getD i default)) <;> simp
theorem drs_at_a {a b : List Pt} {i : Nat} (hi : i < a.length) : (drs a b).getD i default = sdN a i := by
  unfold drs
  rw [List.getD_eq_getElem?_getD, List.getElem?_append_left (by rw [Qhg]; exact hi)]
  simp [drA, hi]
theorem drs_at_b {a b : List Pt} {i : Nat} (hi : i < b.length) : (drs a b).getD (a.length + i) default = tnD (sdN b i) := by
  unfold drs
  rw [List.getD_eq_getElem?_getD, List.getElem?_append_right (by rw [Qhg]; omega), Qhg, Nat.add_sub_cancel_left]
  simp [drB, hi]
def gO (O : List Eg) : A := if O = [] then .d (.z true) else .own [21, 0] O.length
def hO (O : List Eg) : List (Key × Obj) := if O = [] then [] else [([21, 0], arE cG 4 O.length O)]
def bxA (x : A) : Obj := ⟨0, 0, [x], false⟩
theorem Qoc : gO [] = .d (.z true) := rfl
theorem QoL : hO [] = [] := rfl
theorem QjM {O : List Eg} (h : O ≠ []) : gO O = .own [21, 0] O.length := if_neg h
theorem QjK {O : List Eg} (h : O ≠ []) : hO O = [([21, 0], arE cG 4 O.length O)] := if_neg h
theorem gO_snoc (O : List Eg) (e : Eg) : gO (O ++ [e]) = .own [21, 0] (O.length + 1) := by rw [QjM (by simp)]; simp
theorem hO_snoc (O : List Eg) (e : Eg) : hO (O ++ [e]) = [([21, 0], arE cG 4 (O.length + 1) (O ++ [e]))] := by rw [QjK (by simp)]; simp
def clo : A := .fn Qcj [.ptr [5] 0, .ptr [2] 0, .ptr [3] 0]
def QgV (da db : D) (O : List Eg) (n i : Int) : St := mkS [(2, .ptr [2] 0), (3, .ptr [3] 0), (5, .ptr [5] 0), (6, clo), (15, ai n), (16, ai i)] ([([2], bxA (.d da)), ([3], bxA (.d db)), ([5], bxA (gO O))] ++ hO O)
def Qo1 (da db : D) (O : List Eg) : St := mkS [(3, .ptr [3] 0), (5, .ptr [5] 0), (6, clo)] ([([2], bxA (.d da)), ([3], bxA (.d db)), ([5], bxA (gO O))] ++ hO O)
def Qg1 (da db : D) (O : List Eg) (n i : Int) : St := mkS [(3, .ptr [3] 0), (5, .ptr [5] 0), (6, clo), (35, ai n), (36, ai i)] ([([2], bxA (.d da)), ([3], bxA (.d db)), ([5], bxA (gO O))] ++ hO O)
def Qon (O : List Eg) : St := mkS [(5, .ptr [5] 0)] ([([5], bxA (gO O))] ++ hO O)
theorem ld1c (a : A) : Qaa none 0 [a] = some a := rfl
theorem st1c (a b : A) : Qae 0 [a] [b] = some [a] := rfl
theorem hold2 : convex_Sides_i2.holds [[2], [3], [5], [21, 0]] = true := by decide

variable [Its]
/-- What the closure's call needs. -/
structure AdF (da db : D) (a b : List Pt) (O : List Eg) (d : Dr) : Prop where
  co : Qaj G Qaq [dE cG O, .fn Qck [.rp (cD d)]] = some (.d (bv (O.any fun e => eqDr e.1 d)))
  m1 : Qaj G Qb0 [da, encD d] = some (.d (iv (moP d a)))
  tn : Qaj G QcG [encD d] = some (.d (encD (tnD d)))
  m2 : Qaj G Qb0 [db, encD (tnD d)] = some (.d (iv (moP (tnD d) b)))
  wr : w64 (moP d a + moP (tnD d) b) = moP d a + moP (tnD d) b
theorem adF {da db : D} {a b : List Pt} (hra : RwE cP da a) (hrb : RwE cP db b) (ha : GdS a) (hb : GdS b) {O : List Eg} (hO : O.length ≤ 1000) {d : Dr} (hd : NmD d) : AdF da db a b O d := by
  refine ⟨QlI (dE_ok O) (by omega) (fun i hi => Qo5 _ _), Qme hra ha.pos ha.sm hd.sm (by have := ha.le; omega), Qkd hd.sm, Qme hrb hb.pos hb.sm hd.tn.sm (by have := hb.le; omega), ?_⟩
  have m1 : -20000000000000000 ≤ moP d a ∧ moP d a ≤ 20000000000000000 := QlU hd ha.sm _
  have m2 : -20000000000000000 ≤ moP (tnD d) b ∧ moP (tnD d) b ≤ 20000000000000000 := QlU hd.tn hb.sm _
  exact Qac (by omega) (by omega)
theorem cs1_go {da db : D} {a b : List Pt} (hra : RwE cP da a) (hrb : RwE cP db b) (ha : GdS a) (hb : GdS b) {O : List Eg} (hOl : O.length ≤ 1000) {i : Nat} (hi : i < a.length) :
    X G Qbo (QgV da db O a.length i) = some (.n, QgV da db (cadd a b O (sdN a i)) a.length ((i + 1 : Nat) : Int)) := by
  have hle := ha.le
  have e1 : decide ((i : Int) < (a.length : Int)) = true := lt_t (by omega)
  have e2 : w64 ((i : Int) + 1) = ((i + 1 : Nat) : Int) := by rw [Qac (by omega) (by omega)]; rfl
  have x1 := hra.ixa Qbk hi
  have x2 := fun hp => ldE Qbk hp hi
  have g1 := Qjc hra hi (by omega)
  have hp := QbE ha.sm smP0 i
  have hn : SmP (nxP a i) := by unfold nxP; split <;> exact QbE ha.sm smP0 _
  have g2 := Ql9 (h := sdh a i) hp hn (ha.sq i hi).1 (ha.sq i hi).2
  have e3 : nrP ((nxP a i).1 - (a.getD i default).1) ((nxP a i).2 - (a.getD i default).2) (sdh a i) = sdN a i := rfl
  rw [e3] at g2
  obtain ⟨f1, f2, f3, f4, f5⟩ := adF hra hrb ha hb hOl (ha.nm i hi)
  have hO0 : ∀ h : O = [], (O.any fun e => eqDr e.1 (sdN a i)) = false := fun h => by rw [h]; rfl
  unfold cadd edP
  obtain ⟨t, ht⟩ : ∃ t, (O.any fun e => eqDr e.1 (sdN a i)) = t := ⟨_, rfl⟩
  rw [ht] at f1 hO0 ⊢
  obtain ⟨z, hz⟩ : ∃ z, moP (sdN a i) a + moP (tnD (sdN a i)) b = z := ⟨_, rfl⟩
  rw [hz] at f5 ⊢
  generalize moP (sdN a i) a = z1 at *
  generalize moP (tnD (sdN a i)) b = z2 at *
  have f5' : w64 (z1 + z2) = z := by rw [hz]; exact f5
  clear f5 hz ht
  simp only [encP, cP, encD, cD, iv, bv] at x2 g1 g2 f1 f2 f3 f4
  generalize (nxP a i).1 = n1 at *
  generalize (nxP a i).2 = n2 at *
  generalize (a.getD i default).1 = p1 at *
  generalize (a.getD i default).2 = p2 at *
  clear e3 hp hn
  generalize tnD (sdN a i) = v2 at *
  generalize sdN a i = v at *
  obtain ⟨u1, u2, u3⟩ := v
  obtain ⟨y1, y2, y3⟩ := v2
  dsimp only at g2 f1 f2 f3 f4
  have c1 := hra.cell
  have c2 := hrb.cell
  by_cases h0 : O = []
  · have := hO0 h0
    subst this
    subst h0
    have fq : dE cG ([] : List Eg) = .z true := rfl
    rw [fq] at f1
    rw [if_neg (by simp)]
    have hq : ([((u1, u2, u3), z)] : List Eg) ≠ [] := by simp
    simp -implicitDefEqProofs (maxSteps := 10000000) only [Qbo, QcE, QgV, clo, bxA, Qoc, QoL, QjM hq, QjK hq, List.nil_append, List.cons_append, List.append_nil, C.holds, c1, c2, x1, x2, g1, g2, f1, f2, f3, f4, f5', e1, e2, Qad, arE, flat1G, b32, b32', Qjz, oneI, srcS, src, allD, snap, Qcv, Qc5, QbD, ld1c, st1c, ld3p, QlA, Bool.not_true, Bool.not_false, List.map_cons, List.map_nil, List.length_nil, List.length_cons, Nat.zero_add, List.cons.injEq, go_sem, iv, bv, reduceCtorEq, ↓reduceIte, Nat.reduceEqDiff]
  · have n3 := lenE QeT O
    have n4 := bnd4 hOl
    have fq : dE cG O = .row O.length (O.flatMap cG) := if_neg h0
    rw [fq] at f1
    cases t with
    | true =>
      rw [if_pos rfl]
      simp -implicitDefEqProofs (maxSteps := 10000000) only [Qbo, QcE, QgV, clo, bxA, QjM h0, QjK h0, List.nil_append, List.cons_append, List.append_nil, C.holds, c1, c2, x1, x2, g1, g2, f1, f2, f3, f4, f5', e1, e2, Qad, arE, QaO, Qh2, n3, n4, Qjz, oneI, srcS, src, allD, snap, Qcv, Qc5, QbD, ld1c, st1c, ld3p, QlA, Bool.not_true, Bool.not_false, List.map_cons, List.map_nil, List.length_nil, List.length_cons, Nat.zero_add, List.cons.injEq, go_sem, iv, bv, reduceCtorEq, ↓reduceIte, Nat.reduceEqDiff]
    | false =>
      rw [if_neg (by simp)]
      simp -implicitDefEqProofs (maxSteps := 10000000) only [Qbo, QcE, QgV, clo, bxA, QjM h0, QjK h0, gO_snoc, hO_snoc, QpC, List.nil_append, List.cons_append, List.append_nil, C.holds, c1, c2, x1, x2, g1, g2, f1, f2, f3, f4, f5', e1, e2, Qad, arE, QaO, Qh2, n3, n4, Qjz, oneI, srcS, src, allD, snap, Qcv, Qc5, QbD, ld1c, st1c, ld3p, QlA, Bool.not_true, Bool.not_false, List.map_cons, List.map_nil, List.length_nil, List.length_cons, Nat.zero_add, List.all_cons, List.all_nil, List.cons.injEq, go_sem, iv, bv, reduceCtorEq, ↓reduceIte, Nat.reduceEqDiff]
theorem cs3_go {da db : D} {a b : List Pt} (hra : RwE cP da a) (hrb : RwE cP db b) (ha : GdS a) (hb : GdS b) {O : List Eg} (hOl : O.length ≤ 1000) {i : Nat} (hi : i < b.length) :
    X G Qbm (Qg1 da db O b.length i) = some (.n, Qg1 da db (cadd a b O (tnD (sdN b i))) b.length ((i + 1 : Nat) : Int)) := by
  have hle := hb.le
  have e1 : decide ((i : Int) < (b.length : Int)) = true := lt_t (by omega)
  have e2 : w64 ((i : Int) + 1) = ((i + 1 : Nat) : Int) := by rw [Qac (by omega) (by omega)]; rfl
  have x1 := hrb.ixa Qbk hi
  have x2 := fun hp => ldE Qbk hp hi
  have g1 := Qjc hrb hi (by omega)
  have hp := QbE hb.sm smP0 i
  have hn : SmP (nxP b i) := by unfold nxP; split <;> exact QbE hb.sm smP0 _
  have g2 := Ql9 (h := sdh b i) hp hn (hb.sq i hi).1 (hb.sq i hi).2
  have e3 : nrP ((nxP b i).1 - (b.getD i default).1) ((nxP b i).2 - (b.getD i default).2) (sdh b i) = sdN b i := rfl
  rw [e3] at g2
  have g3 := Qkd (hb.nm i hi).sm
  obtain ⟨f1, f2, f3, f4, f5⟩ := adF hra hrb ha hb hOl (hb.nm i hi).tn
  have hO0 : ∀ h : O = [], (O.any fun e => eqDr e.1 (tnD (sdN b i))) = false := fun h => by rw [h]; rfl
  unfold cadd edP
  obtain ⟨t, ht⟩ : ∃ t, (O.any fun e => eqDr e.1 (tnD (sdN b i))) = t := ⟨_, rfl⟩
  rw [ht] at f1 hO0 ⊢
  obtain ⟨z, hz⟩ : ∃ z, moP (tnD (sdN b i)) a + moP (tnD (tnD (sdN b i))) b = z := ⟨_, rfl⟩
  rw [hz] at f5 ⊢
  generalize moP (tnD (sdN b i)) a = z1 at *
  generalize moP (tnD (tnD (sdN b i))) b = z2 at *
  have f5' : w64 (z1 + z2) = z := by rw [hz]; exact f5
  clear f5 hz ht
  simp only [encP, cP, encD, cD, iv, bv] at x2 g1 g2 g3 f1 f2 f3 f4
  generalize (nxP b i).1 = n1 at *
  generalize (nxP b i).2 = n2 at *
  generalize (b.getD i default).1 = p1 at *
  generalize (b.getD i default).2 = p2 at *
  clear e3 hp hn
  generalize tnD (tnD (sdN b i)) = v2 at *
  generalize tnD (sdN b i) = v at *
  generalize sdN b i = v0 at *
  obtain ⟨o1, o2, o3⟩ := v0
  obtain ⟨u1, u2, u3⟩ := v
  obtain ⟨y1, y2, y3⟩ := v2
  dsimp only at g2 g3 f1 f2 f3 f4
  have c1 := hra.cell
  have c2 := hrb.cell
  by_cases h0 : O = []
  · have := hO0 h0
    subst this
    subst h0
    have fq : dE cG ([] : List Eg) = .z true := rfl
    rw [fq] at f1
    rw [if_neg (by simp)]
    have hq : ([((u1, u2, u3), z)] : List Eg) ≠ [] := by simp
    simp -implicitDefEqProofs (maxSteps := 10000000) only [Qbm, convex_Sides_i2, Qg1, clo, bxA, Qoc, QoL, QjM hq, QjK hq, List.nil_append, List.cons_append, List.append_nil, C.holds, c1, c2, x1, x2, g1, g2, g3, f1, f2, f3, f4, f5', e1, e2, Qad, arE, flat1G, b32, b32', Qjz, oneI, srcS, src, allD, snap, Qcv, Qc5, QbD, ld1c, st1c, ld3p, QlA, Bool.not_true, Bool.not_false, List.map_cons, List.map_nil, List.length_nil, List.length_cons, Nat.zero_add, List.cons.injEq, go_sem, iv, bv, reduceCtorEq, ↓reduceIte, Nat.reduceEqDiff]
  · have n3 := lenE QeT O
    have n4 := bnd4 hOl
    have fq : dE cG O = .row O.length (O.flatMap cG) := if_neg h0
    rw [fq] at f1
    cases t with
    | true =>
      rw [if_pos rfl]
      simp -implicitDefEqProofs (maxSteps := 10000000) only [Qbm, convex_Sides_i2, Qg1, clo, bxA, QjM h0, QjK h0, List.nil_append, List.cons_append, List.append_nil, C.holds, c1, c2, x1, x2, g1, g2, g3, f1, f2, f3, f4, f5', e1, e2, Qad, arE, QaO, Qh2, n3, n4, Qjz, oneI, srcS, src, allD, snap, Qcv, Qc5, QbD, ld1c, st1c, ld3p, QlA, Bool.not_true, Bool.not_false, List.map_cons, List.map_nil, List.length_nil, List.length_cons, Nat.zero_add, List.cons.injEq, go_sem, iv, bv, reduceCtorEq, ↓reduceIte, Nat.reduceEqDiff]
    | false =>
      rw [if_neg (by simp)]
      simp -implicitDefEqProofs (maxSteps := 10000000) only [Qbm, convex_Sides_i2, Qg1, clo, bxA, QjM h0, QjK h0, gO_snoc, hO_snoc, QpC, List.nil_append, List.cons_append, List.append_nil, C.holds, c1, c2, x1, x2, g1, g2, g3, f1, f2, f3, f4, f5', e1, e2, Qad, arE, QaO, Qh2, n3, n4, Qjz, oneI, srcS, src, allD, snap, Qcv, Qc5, QbD, ld1c, st1c, ld3p, QlA, Bool.not_true, Bool.not_false, List.map_cons, List.map_nil, List.length_nil, List.length_cons, Nat.zero_add, List.all_cons, List.all_nil, List.cons.injEq, go_sem, iv, bv, reduceCtorEq, ↓reduceIte, Nat.reduceEqDiff]
theorem cs1_stop {da db : D} {a b : List Pt} (hra : RwE cP da a) (hrb : RwE cP db b) {O : List Eg} : X G Qbo (QgV da db O a.length a.length) = some (.x 0, Qo1 da db O) := by
  have e1 : decide ((a.length : Int) < (a.length : Int)) = false := lt_f (by omega)
  by_cases h0 : O = []
  · subst h0
    simp -implicitDefEqProofs (maxSteps := 10000000) only [Qbo, QgV, Qo1, clo, bxA, Qoc, QoL, List.nil_append, List.cons_append, List.append_nil, e1, Qad, arE, QaO, List.cons.injEq, go_sem, iv, bv, reduceCtorEq, ↓reduceIte, Nat.reduceEqDiff]
  · simp -implicitDefEqProofs (maxSteps := 10000000) only [Qbo, QgV, Qo1, clo, bxA, QjM h0, QjK h0, List.nil_append, List.cons_append, List.append_nil, e1, Qad, arE, QaO, List.cons.injEq, go_sem, iv, bv, reduceCtorEq, ↓reduceIte, Nat.reduceEqDiff]
theorem cs3_stop {da db : D} {b : List Pt} {O : List Eg} : X G Qbm (Qg1 da db O b.length b.length) = some (.x 2, Qon O) := by
  have e1 : decide ((b.length : Int) < (b.length : Int)) = false := lt_f (by omega)
  by_cases h0 : O = []
  · subst h0
    simp -implicitDefEqProofs (maxSteps := 10000000) only [Qbm, Qg1, Qon, clo, bxA, Qoc, QoL, List.nil_append, List.cons_append, List.append_nil, e1, Qad, arE, QaO, List.cons.injEq, go_sem, iv, bv, reduceCtorEq, ↓reduceIte, Nat.reduceEqDiff]
  · simp -implicitDefEqProofs (maxSteps := 10000000) only [Qbm, Qg1, Qon, clo, bxA, QjM h0, QjK h0, List.nil_append, List.cons_append, List.append_nil, e1, Qad, arE, QaO, List.cons.injEq, go_sem, iv, bv, reduceCtorEq, ↓reduceIte, Nat.reduceEqDiff]
theorem QqE {da db : D} {a b : List Pt} (hra : RwE cP da a) (hrb : RwE cP db b) (ha : GdS a) (hb : GdS b) : ∀ (j i : Nat), i + j = a.length → X G (.loop Qbo) (QgV da db (sdO a b (drs a b) i) a.length i) = some (.x 0, Qo1 da db (sdO a b (drs a b) a.length))
  | 0, i, h => by
    have : i = a.length := by omega
    subst this
    rw [Qak, cs1_stop hra hrb]; rfl
  | j + 1, i, h => by
    have hi : i < a.length := by omega
    have hl := QiI a b
    have hc := QrC a b (drs a b) (i := i) (by omega)
    rw [drs_at_a hi] at hc
    rw [Qak, cs1_go hra hrb ha hb (by have := Qkk a b (drs a b) i; have := ha.le; omega) hi, Option.bind_some, if_pos rfl, hc]
    exact QqE hra hrb ha hb j (i + 1) (by omega)
theorem QqM {da db : D} {a b : List Pt} (hra : RwE cP da a) (hrb : RwE cP db b) (ha : GdS a) (hb : GdS b) : ∀ (j i : Nat), i + j = b.length → X G (.loop Qbm) (Qg1 da db (sdO a b (drs a b) (a.length + i)) b.length i) = some (.x 2, Qon (sdP a b))
  | 0, i, h => by
    have hl := QiI a b
    have : i = b.length := by omega
    subst this
    have e : sdO a b (drs a b) (a.length + b.length) = sdP a b := by unfold sdP; rw [hl]
    rw [Qak, cs3_stop, e]; rfl
  | j + 1, i, h => by
    have hi : i < b.length := by omega
    have hl := QiI a b
    have hc := QrC a b (drs a b) (i := a.length + i) (by omega)
    rw [drs_at_b hi] at hc
    rw [Qak, cs3_go hra hrb ha hb (by have := Qkk a b (drs a b) (a.length + i); have := ha.le; have := hb.le; omega) hi, Option.bind_some, if_pos rfl, hc]
    exact QqM hra hrb ha hb j (i + 1) (by omega)
theorem QpV {da db : D} {a b : List Pt} (hra : RwE cP da a) (hrb : RwE cP db b) (ha : GdS a) (hb : GdS b) : Qaj G QgW [da, db] = some (.own 4 (sdP a b).length ((sdP a b).flatMap cG)) := by
  rw [Qaf (cf := convex_Sides) rfl]
  have g1 := QqE hra hrb ha hb a.length 0 (by omega)
  have g3 := QqM hra hrb ha hb b.length 0 (by omega)
  have hne := sdP_ne (b := b) ha
  have e0 : sdO a b (drs a b) 0 = [] := rfl
  rw [e0] at g1
  rw [Nat.add_zero] at g3
  have l1 := hra.len
  have l2 := hrb.len
  have c1 := hra.cell
  have c2 := hrb.cell
  have o1 := hra.onec
  have o2 := hrb.onec
  generalize sdP a b = O at *
  generalize hO1 : sdO a b (drs a b) a.length = O1 at *
  have hne1 : O1 ≠ [] := by
    rw [← hO1]
    have key : ∀ n, 0 < n → sdO a b (drs a b) n ≠ [] := by
      intro n
      induction n with
      | zero => intro h; omega
      | succ n ih =>
        intro _
        rw [sdO]
        by_cases hn : 0 < n
        · split
          · simp
          · exact ih hn
        · have : n = 0 := by omega
          subst this
          simp [frI]
    exact key _ ha.pos
  clear hO1
  simp only [QgV, Qo1, clo, bxA, Qoc, QoL, QjM hne1, QjK hne1, arE, List.nil_append, List.cons_append, List.append_nil, Qad, go_sem, nc0, iv] at g1
  simp only [Qg1, Qon, clo, bxA, QjM hne1, QjK hne1, QjM hne, QjK hne, arE, List.nil_append, List.cons_append, List.append_nil, Qad, go_sem, nc0, iv] at g3
  simp -implicitDefEqProofs (maxSteps := 10000000) only [convex_Sides, g1, g3, l1, l2, c1, c2, o1, o2, QaO, Qh2, allD, ld1c, Qad, List.cons_append, List.nil_append, List.map_cons, List.map_nil, List.cons.injEq, go_sem, iv, bv, reduceCtorEq, ↓reduceIte, Nat.reduceEqDiff]
end Go.AM

/- convex: Area, Valid; searching rows of points. -/
namespace Go.AM
open Go Go.RowKit

theorem nxP_sm {l : List Pt} (hl : ∀ p ∈ l, SmP p) (i : Nat) : SmP (nxP l i) := by unfold nxP; split <;> exact QbE hl smP0 _
/-- Each other corner is on the left. -/
def cvB (l : List Pt) : Bool := (List.range l.length).all fun i => (List.range l.length).all fun k => k == i || k == (i + 1) % l.length || decide (0 < crI (l.getD i default) (nxP l i) (l.getD k default))
structure Lim (l : List Pt) : Prop where
  cv : cvB l = true
  lo : 3 ≤ l.length
  hi : l.length ≤ 8
  bd : ∀ p ∈ l, (-1048576 ≤ p.1 ∧ p.1 ≤ 1048576) ∧ (-1048576 ≤ p.2 ∧ p.2 ≤ 1048576)
variable [Its]
/-! ### Searching -/
section
variable {d : D} {O : List Pt} {f : Nat} {caps : List D} {p : Pt → Bool}
end
end Go.AM

/- Rows of edges: their directions, each once; the same after moving and exchanging; limits of the shapes. -/
namespace Go.AM
open Go Go.RowKit

def uqD (ds : List Dr) : Nat → List Dr
  | 0 => []
  | i + 1 => if frI ds i i then uqD ds i ++ [ds.getD i default] else uqD ds i
theorem sdO_uq (a b : List Pt) (ds : List Dr) : ∀ i, sdO a b ds i = (uqD ds i).map (edP a b)
  | 0 => rfl
  | i + 1 => by
    rw [sdO, uqD, sdO_uq a b ds i]
    split
    · rw [List.map_append]; rfl
    · rfl
def uqS (a b : List Pt) : List Dr := uqD (drs a b) (drs a b).length
theorem sdP_uq (a b : List Pt) : sdP a b = (uqS a b).map (edP a b) := sdO_uq a b _ _
/-- Three sides with three directions. -/
def thr (l : List Pt) : Bool := decide (3 ≤ l.length) && !(eqDr (sdN l 0) (sdN l 1)) && !(eqDr (sdN l 0) (sdN l 2)) && !(eqDr (sdN l 1) (sdN l 2))
/-! The base shapes -/
def chkL (l : List Pt) : Bool := cvB l && thr l && decide (l.length ≤ 8) && l.all fun p => decide (-1000 ≤ p.1 ∧ p.1 ≤ 1000) && decide (-1000 ≤ p.2 ∧ p.2 ≤ 1000)
theorem chkL_all : ((List.range 7).all fun c => (List.range 3).all fun k => (List.range 6).all fun m => chkL (spB (c : Int) (1 + (k : Int)) (1 + (m : Int)))) = true := by kernel_rfl
theorem spB_chkL {c k m : Int} (hc : 0 ≤ c ∧ c < 7) (hk : 1 ≤ k ∧ k < 4) (hm : 1 ≤ m ∧ m < 7) : chkL (spB c k m) = true := by
  have h := chkL_all
  rw [List.all_eq_true] at h
  have h1 := h c.toNat (List.mem_range.2 (by omega))
  rw [List.all_eq_true] at h1
  have h2 := h1 (k - 1).toNat (List.mem_range.2 (by omega))
  rw [List.all_eq_true] at h2
  have h3 := h2 (m - 1).toNat (List.mem_range.2 (by omega))
  rwa [show ((c.toNat : Nat) : Int) = c by omega, show 1 + (((k - 1).toNat : Nat) : Int) = k by omega, show 1 + (((m - 1).toNat : Nat) : Int) = m by omega] at h3
theorem crI_mv (x y : Int) (a b c : Pt) : crI (mvP x y a) (mvP x y b) (mvP x y c) = crI a b c := by
  unfold crI mvP
  dsimp only
  rw [show b.1 + x - (a.1 + x) = b.1 - a.1 by omega, show c.2 + y - (a.2 + y) = c.2 - a.2 by omega, show b.2 + y - (a.2 + y) = b.2 - a.2 by omega, show c.1 + x - (a.1 + x) = c.1 - a.1 by omega]
theorem cvB_mv (x y : Int) (l : List Pt) : cvB (l.map (mvP x y)) = cvB l := by
  unfold cvB
  rw [List.length_map, Bool.eq_iff_iff, List.all_eq_true, List.all_eq_true]
  constructor <;> intro h i hi
  all_goals
    have h1 := h i hi
    rw [List.all_eq_true] at *
    intro k hk
    have h2 := h1 k hk
    rw [Qey _ _ (List.mem_range.1 hi), mv_nx _ _ (List.mem_range.1 hi), Qey _ _ (List.mem_range.1 hk), crI_mv] at *
    exact h2
theorem thr_mv (x y : Int) (l : List Pt) : thr l = true → thr (l.map (mvP x y)) = true := by
  intro h
  unfold thr at *
  rw [List.length_map]
  have h0 : 3 ≤ l.length := by
    simp only [Bool.and_eq_true, decide_eq_true_eq] at h
    exact h.1.1.1
  rw [QlX _ _ (by omega), QlX _ _ (by omega), QlX _ _ (by omega)]
  exact h
theorem lim_mv {c k m x y : Int} (hc : 0 ≤ c ∧ c < 7) (hk : 1 ≤ k ∧ k < 4) (hm : 1 ≤ m ∧ m < 7) (hx : -1000000 ≤ x ∧ x ≤ 1000000) (hy : -1000000 ≤ y ∧ y ≤ 1000000) : Lim ((spB c k m).map (mvP x y)) ∧ thr ((spB c k m).map (mvP x y)) = true := by
  have h := spB_chkL hc hk hm
  unfold chkL at h
  simp only [Bool.and_eq_true, decide_eq_true_eq] at h
  obtain ⟨⟨⟨h1, h2⟩, h3⟩, h4⟩ := h
  have h0 : 3 ≤ (spB c k m).length := by
    unfold thr at h2
    simp only [Bool.and_eq_true, decide_eq_true_eq] at h2
    exact h2.1.1.1
  refine ⟨⟨by rw [cvB_mv]; exact h1, by rw [List.length_map]; exact h0, by rw [List.length_map]; exact h3, ?_⟩, thr_mv _ _ _ h2⟩
  intro p hp
  obtain ⟨q, hq, rfl⟩ := List.mem_map.1 hp
  have := List.all_eq_true.1 h4 q hq
  simp only [Bool.and_eq_true, decide_eq_true_eq] at this
  unfold mvP
  dsimp only
  omega
theorem lim_sh (l : List Int) : Lim (spP l) ∧ thr (spP l) = true := by
  obtain ⟨h1, h2, h3, h4, h5⟩ := sh_b l
  exact lim_mv h1 h2 h3 ⟨by omega, by omega⟩ ⟨by omega, by omega⟩
/-! Moved -/
theorem moP_mv (d : Dr) (x y : Int) {l : List Pt} (h0 : 0 < l.length) : moP d (l.map (mvP x y)) = moP d l + (d.1 * x + d.2.1 * y) := by
  have hd : ∀ i, i < l.length → dotI d ((l.map (mvP x y)).getD i default) = dotI d (l.getD i default) + (d.1 * x + d.2.1 * y) := by
    intro i hi
    rw [Qey _ _ hi]
    unfold dotI mvP
    dsimp only
    rw [Int.mul_add, Int.mul_add]
    omega
  have hm : ∀ i, i ≤ l.length → mstN d (l.map (mvP x y)) i = mstN d l i + (d.1 * x + d.2.1 * y) := by
    intro i
    induction i with
    | zero => intro _; exact hd 0 h0
    | succ i ih =>
      intro hi
      have h1 := ih (by omega)
      have h2 := hd i (by omega)
      rw [mstN, mstN, h1, h2]
      omega
  unfold moP
  rw [List.length_map]
  exact hm _ (Nat.le_refl _)
theorem drA_mv (x y : Int) (l : List Pt) (n : Nat) (hn : n ≤ l.length) : drA (l.map (mvP x y)) n = drA l n := by
  unfold drA
  refine List.map_congr_left fun i hi => ?_
  rw [List.mem_range] at hi
  exact QlX _ _ (by omega)
theorem drB_mv (x y : Int) (l : List Pt) (n : Nat) (hn : n ≤ l.length) : drB (l.map (mvP x y)) n = drB l n := by
  unfold drB
  refine List.map_congr_left fun i hi => ?_
  rw [List.mem_range] at hi
  rw [QlX _ _ (by omega)]
theorem drs_mv (x y u v : Int) (a b : List Pt) : drs (a.map (mvP x y)) (b.map (mvP u v)) = drs a b := by
  unfold drs
  rw [List.length_map, List.length_map, drA_mv _ _ _ _ (Nat.le_refl _), drB_mv _ _ _ _ (Nat.le_refl _)]
end Go.AM

/- Edges of a pair: bounds; their parts read out of a row. -/
namespace Go.AM
open Go Go.RowKit
end Go.AM

/- SameEdges; ref12.Area; both Box. -/
namespace Go.AM
open Go Go.RowKit
def bxP (x y : Int) : Obj := ⟨0, 0, [.d (iv x), .d (iv y)], false⟩
variable [Its]
end Go.AM

/- Has of both, on the seat of ch. 13 (where CvD has the vectors). Printed by mkcxv.py's parts. -/
namespace Go.AM
open Go Go.RowKit
def hsA (l : List Pt) (v : Vc) (i : Nat) : Rat := (((nxP l i).1 - (l.getD i default).1 : Int) : Rat) * (v.2 - (((l.getD i default).2 : Int) : Rat))
def hsB (l : List Pt) (v : Vc) (i : Nat) : Rat := (((nxP l i).2 - (l.getD i default).2 : Int) : Rat) * (v.1 - (((l.getD i default).1 : Int) : Rat))
def hsF (l : List Pt) (v : Vc) : Nat → Nat → Bool
  | 0, _ => true
  | j + 1, i => if decide (hsA l v i < hsB l v i) then false else hsF l v j (i + 1)
def hsP (l : List Pt) (v : Vc) : Bool := hsF l v l.length 0
theorem hsF_at {l : List Pt} {v : Vc} : ∀ (j i : Nat), hsF l v j i = true → ∀ k, i ≤ k → k < i + j → hsB l v k ≤ hsA l v k
  | 0, i, h, k, h1, h2 => by omega
  | j + 1, i, h, k, h1, h2 => by
    rw [hsF] at h
    split at h
    · cases h
    · rename_i hh
      by_cases hk : k = i
      · subst hk
        rw [decide_eq_true_eq] at hh
        exact Rat.not_lt.1 hh
      · exact hsF_at j (i + 1) h k (by omega) (by omega)
theorem hsP_at {l : List Pt} {v : Vc} (h : hsP l v = true) {k : Nat} (hk : k < l.length) : hsB l v k ≤ hsA l v k := hsF_at _ _ h k (Nat.zero_le _) (by omega)
def bxW (v : Vc) : Obj := ⟨0, 0, [.d (.v (.bool (decide (v.1.num < 0)))), .d (dg (digs v.1.num.natAbs)), .d (.v (.bool false)), .d (dg (dd v.1.den)), .d (.v (.bool (decide (v.2.num < 0)))), .d (dg (digs v.2.num.natAbs)), .d (.v (.bool false)), .d (dg (dd v.2.den))], false⟩
def Qoo (d : D) (v : Vc) (n i : Int) : St := mkS [(0, .d d), (3, .ptr [3] 0), (11, ai n), (12, ai i)] [([3], bxW v)]
def hsO (t : Bool) : Option (Ex × St) := if t then some (.x 0, mkS [] []) else some (.r, mkS [(4, ab false)] [])
theorem Qqn {n : Int} (h : Sm n) : I64 n := ⟨by have := h; unfold Sm at this; omega, by have := h; unfold Sm at this; omega⟩
theorem sm_sub {a b : Int} (ha : Sm a) (hb : Sm b) : w64 (a - b) = a - b ∧ I64 (a - b) := by
  unfold Sm at *
  exact ⟨Qac (by omega) (by omega), by omega, by omega⟩
variable [Its]
section
variable {d : D} {l : List Pt} {v : Vc} {K : Nat}
theorem hc_step (hr : RwE cP d l) (hl : ∀ p ∈ l, SmP p) (hn : l.length ≤ 10) (hK : K ≤ 1000000) (hv : SzV K v) {i : Nat} (hi : i < l.length) :
    X G QcL (Qoo d v l.length i) = if decide (hsA l v i < hsB l v i) then some (.r, mkS [(4, ab false)] []) else some (.n, Qoo d v l.length ((i + 1 : Nat) : Int)) := by
  have e1 : decide ((i : Int) < (l.length : Int)) = true := lt_t (by omega)
  have e2 : w64 ((i : Int) + 1) = ((i + 1 : Nat) : Int) := by rw [Qac (by omega) (by omega)]; rfl
  have x1 := hr.ixa Qbk hi
  have x2 := fun hp => ldE Qbk hp hi
  have g0 := Qjc hr hi (by omega)
  have pa := QbE hl smP0 i
  have pb := nxP_sm hl i
  have f1 := sm_sub pb.1 pa.1
  have f2 := sm_sub pb.2 pa.2
  unfold hsA hsB
  generalize nxP l i = b at *
  generalize l.getD i default = a at *
  have o1 := QbU (Qqn pa.1) QeV
  have o2 := QbU (Qqn pa.2) QeV
  have o3 := QbU f1.2 QeV
  have o4 := QbU f2.2 QeV
  have n1 := Qd4 (Qqn pa.1)
  have n2 := Qd4 (Qqn pa.2)
  have n3 := Qd4 f1.2
  have n4 := Qd4 f2.2
  rw [Qdc] at o1 o2 o3 o4
  have k1 := hv.1
  have k2 := hv.2
  have s1 := Qg8 (a := v.1) (b := (a.1 : Rat)) (by omega) (by omega)
  have s2 := Qg8 (a := v.2) (b := (a.2 : Rat)) (by omega) (by omega)
  have z1 := QqU (a := v.1) (b := (a.1 : Rat))
  have z2 := QqU (a := v.2) (b := (a.2 : Rat))
  have m1 := Qct (a := ((b.1 - a.1 : Int) : Rat)) (b := v.2 - (a.2 : Rat)) (by omega) (by omega)
  have m2 := Qct (a := ((b.2 - a.2 : Int) : Rat)) (b := v.1 - (a.1 : Rat)) (by omega) (by omega)
  have y1 := QeM (a := ((b.1 - a.1 : Int) : Rat)) (b := v.2 - (a.2 : Rat))
  have y2 := QeM (a := ((b.2 - a.2 : Int) : Rat)) (b := v.1 - (a.1 : Rat))
  have c1 := QeS (a := ((b.1 - a.1 : Int) : Rat) * (v.2 - (a.2 : Rat))) (b := ((b.2 - a.2 : Int) : Rat) * (v.1 - (a.1 : Rat))) (by omega) (by omega)
  rw [← cmR_lt]
  generalize cmpR (((b.1 - a.1 : Int) : Rat) * (v.2 - (a.2 : Rat))) (((b.2 - a.2 : Int) : Rat) * (v.1 - (a.1 : Rat))) = c at *
  generalize ((b.1 - a.1 : Int) : Rat) * (v.2 - (a.2 : Rat)) = u1 at *
  generalize ((b.2 - a.2 : Int) : Rat) * (v.1 - (a.1 : Rat)) = u2 at *
  generalize v.1 - (a.1 : Rat) = u3 at *
  generalize v.2 - (a.2 : Rat) = u4 at *
  have w1 := f1.1
  have w2 := f2.1
  clear f1 f2 n1 n2 n3 n4 k1 k2 z1 z2 y1 y2 hv pa pb
  obtain ⟨ax, ay⟩ := a
  obtain ⟨bx, byy⟩ := b
  obtain ⟨v1, v2⟩ := v
  dsimp only at *
  obtain ⟨dx, hdx⟩ : ∃ z, bx - ax = z := ⟨_, rfl⟩
  obtain ⟨dy, hdy⟩ : ∃ z, byy - ay = z := ⟨_, rfl⟩
  rw [hdx] at o3 m1
  rw [hdy] at o4 m2
  have w1 : w64 (bx - ax) = dx := by rw [w1, hdx]
  have w2 : w64 (byy - ay) = dy := by rw [w2, hdy]
  clear hdx hdy
  generalize (ax : Rat) = rx at *
  generalize (ay : Rat) = ry at *
  generalize (dx : Rat) = rdx at *
  generalize (dy : Rat) = rdy at *
  simp only [encP, cP, encR, iv, bv] at x2 g0 o1 o2 o3 o4 s1 s2 m1 m2 c1
  by_cases hc : c < 0
  · have t1 : decide (c < 0) = true := lt_t hc
    simp -implicitDefEqProofs (maxSteps := 10000000) only [QcL, Qoo, bxW, x1, x2, g0, o1, o2, o3, o4, s1, s2, m1, m2, c1, t1, w1, w2, e1, e2, st2p, QoE, QnE, st4', Qei, ld80, ld84, Qcu, Qaz, QaL, go_sem, iv, bv, reduceCtorEq, ↓reduceIte, Nat.reduceEqDiff]
  · have t1 : decide (c < 0) = false := lt_f (by omega)
    simp -implicitDefEqProofs (maxSteps := 10000000) only [QcL, Qoo, bxW, x1, x2, g0, o1, o2, o3, o4, s1, s2, m1, m2, c1, t1, w1, w2, e1, e2, st2p, QoE, QnE, st4', Qei, ld80, ld84, Qcu, Qaz, QaL, go_sem, iv, bv, reduceCtorEq, ↓reduceIte, Nat.reduceEqDiff]
theorem hc_stop : X G QcL (Qoo d v l.length l.length) = some (.x 0, mkS [] []) := by
  have e1 : decide ((l.length : Int) < (l.length : Int)) = false := lt_f (by omega)
  simp -implicitDefEqProofs (maxSteps := 10000000) only [QcL, Qoo, bxW, e1, go_sem, iv, bv, reduceCtorEq, ↓reduceIte, Nat.reduceEqDiff]
theorem hc_loop (hr : RwE cP d l) (hl : ∀ p ∈ l, SmP p) (hn : l.length ≤ 10) (hK : K ≤ 1000000) (hv : SzV K v) : ∀ (j i : Nat), i + j = l.length → X G (.loop QcL) (Qoo d v l.length i) = hsO (hsF l v j i)
  | 0, i, h => by
    have : i = l.length := by omega
    subst this
    rw [Qak, hc_stop]; rfl
  | j + 1, i, h => by
    rw [Qak, hc_step hr hl hn hK hv (by omega), hsF]
    split
    · rfl
    · rw [Option.bind_some, if_pos rfl]
      exact hc_loop hr hl hn hK hv j (i + 1) (by omega)
theorem cHas_spec (hr : RwE cP d l) (hl : ∀ p ∈ l, SmP p) (hn : l.length ≤ 10) (hK : K ≤ 1000000) (hv : SzV K v) : Qaj G Qjv [d, encV v] = some (.d (bv (hsP l v))) := by
  rw [Qaf (cf := convex_Has) rfl]
  have ll := hr.len
  have g := hc_loop hr hl hn hK hv l.length 0 (by omega)
  have e : hsF l v l.length 0 = hsP l v := rfl
  rw [e] at g
  generalize hsP l v = t at *
  obtain ⟨v1, v2⟩ := v
  simp only [Qoo, bxW, hsO, nc0, go_sem] at g
  cases t
  · simp only [Bool.false_eq_true, if_false] at g
    simp -implicitDefEqProofs (maxSteps := 10000000) only [convex_Has, encV, g, ll, Qcu, Qaz, QaL, go_sem, iv, bv, reduceCtorEq, ↓reduceIte, Nat.reduceEqDiff]
  · simp only [if_true] at g
    simp -implicitDefEqProofs (maxSteps := 10000000) only [convex_Has, encV, g, ll, Qcu, Qaz, QaL, go_sem, iv, bv, reduceCtorEq, ↓reduceIte, Nat.reduceEqDiff]
end
end Go.AM

/- ref12.Has; SamePoints. -/
namespace Go.AM
open Go Go.RowKit
variable [Its]
section
variable {d : D} {l : List Pt} {v : Vc} {K : Nat}
end
end Go.AM

/- far, Left, cmp.Or, Sum$1, MinFunc. -/
namespace Go.AM
open Go Go.RowKit
def faI (p q : Pt) : Int := (p.1 - q.1) * (p.1 - q.1) + (p.2 - q.2) * (p.2 - q.2)
def orI (a b : Int) : Int := if a ≠ 0 then a else b
/-- Lower, or as low and more to the left. -/
def ltQ (p q : Pt) : Bool := decide (p.2 < q.2) || (decide (p.2 = q.2) && decide (p.1 < q.1))
theorem or_lt (p q : Pt) : decide (orI (cmpI p.2 q.2) (cmpI p.1 q.1) < 0) = ltQ p q := by
  unfold orI cmpI ltQ
  by_cases h1 : p.2 < q.2
  · simp [h1]
  · by_cases h2 : p.2 > q.2
    · have h3 : p.2 ≠ q.2 := by omega
      simp [h1, h2, h3]
    · have h3 : p.2 = q.2 := by omega
      by_cases h4 : p.1 < q.1
      · simp [h3, h4]
      · by_cases h5 : p.1 > q.1 <;> simp [h3, h4, h5]
theorem nc2 : ((2 : Nat) : Int) = 2 := rfl
theorem rep2_1 (a : D) : rep 2 [a] = [a, a] := rfl
def mnF (l : List Pt) : Nat → Pt
  | 0 => l.getD 0 default
  | i + 1 => if ltQ (l.getD (i + 1) default) (mnF l i) = true then l.getD (i + 1) default else mnF l i
def QnC (d : D) (p : Pt) (i : Int) : St := mkS [(0, .d d), (1, .d (.fn Qek [])), (4, .ptr [4] 0), (5, .ptr [5] 0), (6, ai i)] [([4], ⟨0, 0, [.d (iv 0), .d (iv 0)], false⟩), ([5], ⟨0, 0, [.d (iv p.1), .d (iv p.2)], false⟩)]
def Qf8 (a b : Int) (i : Int) : St := mkS [(3, ai 0), (6, .d (.row 2 [iv a, iv b])), (7, ai 2), (8, ai i)] []
variable [Its]
theorem Qrj {p q : Pt} (hp : SmP p) (hq : SmP q) : Qaj G Qgx [encP p, encP q] = some (.d (iv (faI p q))) := by
  rw [Qaf (cf := convex_far) rfl]
  obtain ⟨a1, a2⟩ := p
  obtain ⟨b1, b2⟩ := q
  obtain ⟨h1, h2⟩ := hp
  obtain ⟨h3, h4⟩ := hq
  simp only [Sm] at h1 h2 h3 h4
  unfold faI
  dsimp only
  obtain ⟨x, hx⟩ : ∃ x, a1 - b1 = x := ⟨_, rfl⟩
  obtain ⟨y, hy⟩ : ∃ x, a2 - b2 = x := ⟨_, rfl⟩
  have e1 : w64 (a1 - b1) = x := by rw [Qac (by omega) (by omega), hx]
  have e2 : w64 (a2 - b2) = y := by rw [Qac (by omega) (by omega), hy]
  have bb : ∀ u : Int, -200000000 ≤ u ∧ u ≤ 200000000 → -40000000000000000 ≤ u * u ∧ u * u ≤ 40000000000000000 := by
    intro u hu
    have h1 : (u * u).natAbs ≤ 200000000 * 200000000 := by
      rw [Int.natAbs_mul]
      exact Nat.mul_le_mul (by omega) (by omega)
    omega
  have b1' := bb x (by omega)
  have b2' := bb y (by omega)
  rw [hx, hy]
  clear hx hy bb
  obtain ⟨z, hz⟩ : ∃ z, x * x = z := ⟨_, rfl⟩
  obtain ⟨t, ht⟩ : ∃ z, y * y = z := ⟨_, rfl⟩
  rw [hz] at b1'
  rw [ht] at b2'
  have e3 : w64 (x * x) = z := by rw [hz, Qac (by omega) (by omega)]
  have e4 : w64 (y * y) = t := by rw [ht, Qac (by omega) (by omega)]
  obtain ⟨s, hs⟩ : ∃ s, z + t = s := ⟨_, rfl⟩
  have e5 : w64 (z + t) = s := by rw [Qac (by omega) (by omega), hs]
  rw [hz, ht, hs]
  simp -implicitDefEqProofs (maxSteps := 10000000) only [convex_far, encP, cP, QoE, QnE, go_sem, iv, bv, e1, e2, e3, e4, e5, reduceCtorEq, ↓reduceIte, Nat.reduceEqDiff]
theorem Or_spec (a b : Int) : Qaj G Qjq [.row 2 [iv a, iv b]] = some (.d (iv (orI a b))) := by
  rw [Qaf (cf := cmp_Or_int) rfl]
  have x0 : ∀ h : Hp, ixaA h 1 0 (.d (.row 2 [iv a, iv b])) = some (.d (.rp [iv a, iv b])) := fun _ => rfl
  have x1 : ∀ h : Hp, ixaA h 1 1 (.d (.row 2 [iv a, iv b])) = some (.d (.rp [iv b])) := fun _ => rfl
  have y0 : ∀ h : Hp, Qcs h none (.d (.rp [iv a, iv b])) = some (.d (iv a)) := fun _ => rfl
  have y1 : ∀ h : Hp, Qcs h none (.d (.rp [iv b])) = some (.d (iv b)) := fun _ => rfl
  have t0 : decide ((0 : Int) < 2) = true := rfl
  have t1 : decide ((1 : Int) < 2) = true := rfl
  have t2 : decide ((2 : Int) < 2) = false := rfl
  have w0 : w64 ((0 : Int) + 1) = 1 := Qac (by omega) (by omega)
  have w1 : w64 ((1 : Int) + 1) = 2 := Qac (by omega) (by omega)
  have ll : lenA (.d (.row 2 [iv a, iv b])) = some 2 := rfl
  simp only [iv] at x0 x1 y0 y1 ll
  by_cases ha : a = 0
  · subst ha
    have n0 : ((0 : Int) != 0) = false := rfl
    have g0 : X G Qa2 (Qf8 0 b 0) = some (.n, Qf8 0 b 1) := by
      simp -implicitDefEqProofs (maxSteps := 10000000) only [Qa2, Qf8, x0, y0, t0, n0, w0, go_sem, iv, bv, reduceCtorEq, ↓reduceIte, Nat.reduceEqDiff]
    by_cases hb : b = 0
    · subst hb
      have g1 : X G Qa2 (Qf8 0 0 1) = some (.n, Qf8 0 0 2) := by
        simp -implicitDefEqProofs (maxSteps := 10000000) only [Qa2, Qf8, x1, y1, t1, n0, w1, go_sem, iv, bv, reduceCtorEq, ↓reduceIte, Nat.reduceEqDiff]
      have g2 : X G Qa2 (Qf8 0 0 2) = some (.x 0, mkS [(3, ai 0)] []) := by
        simp -implicitDefEqProofs (maxSteps := 10000000) only [Qa2, Qf8, t2, go_sem, iv, bv, reduceCtorEq, ↓reduceIte, Nat.reduceEqDiff]
      have g : X G (.loop Qa2) (Qf8 0 0 0) = some (.x 0, mkS [(3, ai 0)] []) := by
        rw [Qak, g0, Option.bind_some, if_pos rfl, Qak, g1, Option.bind_some, if_pos rfl, Qak, g2]; rfl
      simp only [Qf8, go_sem, iv] at g
      have e : orI 0 0 = 0 := rfl
      rw [e]
      simp -implicitDefEqProofs (maxSteps := 10000000) only [cmp_Or_int, g, ll, nc0, nc2, go_sem, iv, bv, reduceCtorEq, ↓reduceIte, Nat.reduceEqDiff]
    · have n1 : (b != 0) = true := bne_t hb
      have g1 : X G Qa2 (Qf8 0 b 1) = some (.r, mkS [(2, ai b)] []) := by
        simp -implicitDefEqProofs (maxSteps := 10000000) only [Qa2, Qf8, x1, y1, t1, n1, w1, go_sem, iv, bv, reduceCtorEq, ↓reduceIte, Nat.reduceEqDiff]
      have g : X G (.loop Qa2) (Qf8 0 b 0) = some (.r, mkS [(2, ai b)] []) := by
        rw [Qak, g0, Option.bind_some, if_pos rfl, Qak, g1]; rfl
      simp only [Qf8, go_sem, iv] at g
      have e : orI 0 b = b := rfl
      rw [e]
      simp -implicitDefEqProofs (maxSteps := 10000000) only [cmp_Or_int, g, ll, nc0, nc2, go_sem, iv, bv, reduceCtorEq, ↓reduceIte, Nat.reduceEqDiff]
  · have n1 : (a != 0) = true := bne_t ha
    have g1 : X G Qa2 (Qf8 a b 0) = some (.r, mkS [(2, ai a)] []) := by
      simp -implicitDefEqProofs (maxSteps := 10000000) only [Qa2, Qf8, x0, y0, t0, n1, w0, go_sem, iv, bv, reduceCtorEq, ↓reduceIte, Nat.reduceEqDiff]
    have g : X G (.loop Qa2) (Qf8 a b 0) = some (.r, mkS [(2, ai a)] []) := by
      rw [Qak, g1]; rfl
    simp only [Qf8, go_sem, iv] at g
    have e : orI a b = a := if_pos ha
    rw [e]
    simp -implicitDefEqProofs (maxSteps := 10000000) only [cmp_Or_int, g, ll, nc0, nc2, go_sem, iv, bv, reduceCtorEq, ↓reduceIte, Nat.reduceEqDiff]
theorem Sum1_spec (p q : Pt) : Qaj G Qek [encP p, encP q] = some (.d (iv (orI (cmpI p.2 q.2) (cmpI p.1 q.1)))) := by
  rw [Qaf (cf := convex_Sum_1) rfl]
  have g1 := QfN p.1 q.1
  have g2 := QfN p.2 q.2
  have g3 := Or_spec (cmpI p.2 q.2) (cmpI p.1 q.1)
  generalize orI (cmpI p.2 q.2) (cmpI p.1 q.1) = z at *
  generalize cmpI p.2 q.2 = u at *
  generalize cmpI p.1 q.1 = v at *
  obtain ⟨p1, p2⟩ := p
  obtain ⟨q1, q2⟩ := q
  simp only [iv] at g1 g2 g3
  simp -implicitDefEqProofs (maxSteps := 10000000) only [convex_Sum_1, encP, cP, g1, g2, g3, QoE, QnE, Qc5, QbD, oneI, rep2_1, go_sem, iv, bv, reduceCtorEq, ↓reduceIte, Nat.reduceEqDiff]
end Go.AM

/- slices.MinFunc by (Y, X); the sums of all corners. -/
namespace Go.AM
open Go Go.RowKit
theorem Qpm {P : Pt → Prop} {l : List Pt} (h0 : ∀ i, P (l.getD i default)) : ∀ i, P (mnF l i)
  | 0 => h0 0
  | i + 1 => by
    rw [mnF]
    split
    · exact h0 _
    · exact Qpm h0 i
def mn_en (p : Pt) : St := mkS [(4, .ptr [4] 0), (5, .ptr [5] 0)] [([4], ⟨0, 0, [.d (iv 0), .d (iv 0)], false⟩), ([5], ⟨0, 0, [.d (iv p.1), .d (iv p.2)], false⟩)]
/-- All sums of a corner of a and the negative of one of b. -/
def suR (p : Pt) (b : List Pt) : List Pt := b.map fun q => (p.1 - q.1, p.2 - q.2)
def suA (a b : List Pt) : List Pt := a.flatMap fun p => suR p b
variable [Its]
theorem mn_go {d : D} {l : List Pt} (hr : RwE cP d l) (hn : l.length ≤ 1000000) {p : Pt} {i : Nat} (hi : i < l.length) :
    X G Qat (QnC d p i) = some (.n, QnC d (if ltQ (l.getD i default) p = true then l.getD i default else p) ((i + 1 : Nat) : Int)) := by
  have ll := hr.len
  have e1 : decide ((i : Int) < (l.length : Int)) = true := lt_t (by omega)
  have e2 : w64 ((i : Int) + 1) = ((i + 1 : Nat) : Int) := by rw [Qac (by omega) (by omega)]; rfl
  have x1 := hr.ixa Qbk hi
  have x2 := fun hp => ldE Qbk hp hi
  have g := Sum1_spec (l.getD i default) p
  have e3 := or_lt (l.getD i default) p
  generalize orI (cmpI (l.getD i default).2 p.2) (cmpI (l.getD i default).1 p.1) = z at *
  generalize l.getD i default = q at *
  obtain ⟨qx, qy⟩ := q
  obtain ⟨px, py⟩ := p
  simp only [cP, encP, iv] at x2 g
  cases h : ltQ (qx, qy) (px, py)
  · rw [h] at e3
    simp -implicitDefEqProofs (maxSteps := 10000000) only [Qat, QnC, g, st2p, ld2p, Bool.false_eq_true, if_false, List.cons_append, List.nil_append, List.append_nil, go_sem, iv, bv, e1, e2, e3, ll, x1, x2, reduceCtorEq, ↓reduceIte, Nat.reduceEqDiff]
  · rw [h] at e3
    simp -implicitDefEqProofs (maxSteps := 10000000) only [Qat, QnC, g, st2p, ld2p, if_true, List.cons_append, List.nil_append, List.append_nil, go_sem, iv, bv, e1, e2, e3, ll, x1, x2, reduceCtorEq, ↓reduceIte, Nat.reduceEqDiff]
theorem mn_stop {d : D} {l : List Pt} (hr : RwE cP d l) {p : Pt} : X G Qat (QnC d p l.length) = some (.x 0, mn_en p) := by
  have ll := hr.len
  have e1 : decide ((l.length : Int) < (l.length : Int)) = false := lt_f (by omega)
  simp -implicitDefEqProofs (maxSteps := 10000000) only [Qat, QnC, mn_en, go_sem, iv, bv, e1, ll, reduceCtorEq, ↓reduceIte, Nat.reduceEqDiff]
theorem mn_loop {d : D} {l : List Pt} (hr : RwE cP d l) (hn : l.length ≤ 1000000) : ∀ (j i : Nat), i + 1 + j = l.length → X G (.loop Qat) (QnC d (mnF l i) ((i + 1 : Nat) : Int)) = some (.x 0, mn_en (mnF l (l.length - 1)))
  | 0, i, h => by
    have : i + 1 = l.length := by omega
    rw [this, ← this, Nat.add_sub_cancel]
    rw [Qak, this, mn_stop hr]; rfl
  | j + 1, i, h => by
    rw [Qak, mn_go hr hn (by omega), Option.bind_some, if_pos rfl]
    exact mn_loop hr hn j (i + 1) (by omega)
theorem MinF_spec {d : D} {l : List Pt} (hr : RwE cP d l) (h0 : 0 < l.length) (hn : l.length ≤ 1000000) : Qaj G Qb4 [d, .fn Qek []] = some (.d (encP (mnF l (l.length - 1)))) := by
  rw [Qaf (cf := slices_MinFunc_api_Point_api_Point) rfl]
  have ll := hr.len
  have e1 : decide ((l.length : Int) < 1) = false := lt_f (by omega)
  have x1 := hr.ixa (j := 0) Qbk h0
  have x2 := fun hp => ldE (j := 0) (l := l) Qbk hp h0
  have g := mn_loop hr hn (l.length - 1) 0 (by omega)
  have e0 : mnF l 0 = l.getD 0 default := rfl
  have e3 : ((0 + 1 : Nat) : Int) = 1 := rfl
  rw [e0, e3] at g
  simp only [nc0, List.drop_zero] at x1 x2
  generalize mnF l (l.length - 1) = z at *
  generalize l.getD 0 default = q at *
  obtain ⟨qx, qy⟩ := q
  obtain ⟨zx, zy⟩ := z
  simp only [cP, iv] at x2
  simp only [QnC, mn_en, iv, go_sem] at g
  simp -implicitDefEqProofs (maxSteps := 10000000) only [slices_MinFunc_api_Point_api_Point, encP, cP, g, st2p, ld2p, go_sem, iv, bv, e1, ll, x1, x2, reduceCtorEq, ↓reduceIte, Nat.reduceEqDiff]
end Go.AM

/- convex.Sum's first loops: all sums. -/
namespace Go.AM
open Go Go.RowKit
def suO (p q : Pt) : Pt := (p.1 - q.1, p.2 - q.2)
def QfY (da db : D) (L : List Pt) (p : Pt) (n i m k : Int) : St := mkS [(1, .d db), (5, gAE 41 L), (7, .ptr [7] 0), (16, .d da), (17, ai n), (18, ai i), (22, .d db), (23, ai m), (24, ai k)] (([7], bxP p.1 p.2) :: gHE cP 2 41 L)
def QdK (da db : D) (L : List Pt) (n i : Int) : St := mkS [(1, .d db), (5, gAE 41 L), (16, .d da), (17, ai n), (18, ai i)] (gHE cP 2 41 L)
def Qn4 (L : List Pt) : St := mkS [(5, gAE 41 L)] (gHE cP 2 41 L)
variable [Its]
theorem cu0_go {da db : D} {b : List Pt} (hr : RwE cP db b) (hb : ∀ p ∈ b, SmP p) (hn : b.length ≤ 1000) {L : List Pt} (hL : L.length ≤ 1000) {p : Pt} (hp : SmP p) {n i : Int} {k : Nat} (hk : k < b.length) :
    X G Qco (QfY da db L p n i b.length k) = some (.n, QfY da db (L ++ [suO p (b.getD k default)]) p n i b.length ((k + 1 : Nat) : Int)) := by
  have e1 : decide ((k : Int) < (b.length : Int)) = true := lt_t (by omega)
  have e2 : w64 ((k : Int) + 1) = ((k + 1 : Nat) : Int) := by rw [Qac (by omega) (by omega)]; rfl
  have x1 := hr.ixa Qbk hk
  have x2 := fun hp => ldE Qbk hp hk
  have hq := QbE hb smP0 k
  unfold suO
  generalize b.getD k default = q at *
  obtain ⟨x, y⟩ := q
  obtain ⟨p1, p2⟩ := p
  obtain ⟨h1, h2⟩ := hq
  obtain ⟨h3, h4⟩ := hp
  simp only [Sm] at h1 h2 h3 h4
  dsimp only
  obtain ⟨u, hu⟩ : ∃ u, p1 - x = u := ⟨_, rfl⟩
  obtain ⟨v, hv⟩ : ∃ v, p2 - y = v := ⟨_, rfl⟩
  have e3 : w64 (p1 - x) = u := by rw [Qac (by omega) (by omega), hu]
  have e4 : w64 (p2 - y) = v := by rw [Qac (by omega) (by omega), hv]
  simp only [cP, iv] at x2
  rw [hu, hv]
  by_cases h0 : L = []
  · subst h0
    have hb : (16 ≤ bound) = True := eq_true (by unfold bound; omega)
    have hb1 : (1 * 16 ≤ bound) = True := eq_true (by unfold bound; omega)
    have hq : ([(u, v)] : List Pt) ≠ [] := by simp
    simp -implicitDefEqProofs (maxSteps := 10000000) only [Qco, QfY, bxP, QbW, QbX, Qb9 hq, Qcd hq, arE, flat1P, Qad, st2p, QoE, QnE, Qc5, QbD, List.nil_append, List.cons_append, List.length_nil, List.length_cons, Nat.zero_add, List.map_cons, List.map_nil, Qmm, oneI, srcS, src, allD, hb, hb1, x1, x2, go_sem, iv, bv, e1, e2, e3, e4, reduceCtorEq, ↓reduceIte, Nat.reduceEqDiff]
  · have n3 := lenE Qbk L
    have n4 : ((L.length + 1) * 16 ≤ bound) = True := eq_true (by unfold bound; omega)
    simp -implicitDefEqProofs (maxSteps := 10000000) only [Qco, QfY, bxP, Qb9 h0, Qcd h0, QjX, Qj7, arE, Qp4, QaO, n3, n4, st2p, QoE, QnE, Qc5, QbD, List.nil_append, List.cons_append, List.length_nil, List.length_cons, Nat.zero_add, List.map_cons, List.map_nil, List.all_cons, List.all_nil, Qmm, oneI, srcS, src, allD, x1, x2, go_sem, iv, bv, e1, e2, e3, e4, reduceCtorEq, ↓reduceIte, Nat.reduceEqDiff]
theorem cu0_stop {da db : D} {b : List Pt} {L : List Pt} {p : Pt} {n i : Int} : X G Qco (QfY da db L p n i b.length b.length) = some (.x 2, QdK da db L n i) := by
  have e1 : decide ((b.length : Int) < (b.length : Int)) = false := lt_f (by omega)
  by_cases h0 : L = []
  · subst h0
    simp -implicitDefEqProofs (maxSteps := 10000000) only [Qco, QfY, QdK, bxP, QbW, QbX, Qad, go_sem, iv, bv, e1, reduceCtorEq, ↓reduceIte, Nat.reduceEqDiff]
  · simp -implicitDefEqProofs (maxSteps := 10000000) only [Qco, QfY, QdK, bxP, Qb9 h0, Qcd h0, arE, QaO, go_sem, iv, bv, e1, reduceCtorEq, ↓reduceIte, Nat.reduceEqDiff]
theorem Qq8      {da db : D} {b : List Pt} (hr : RwE cP db b) (hb : ∀ p ∈ b, SmP p) (hn : b.length ≤ 10) {p : Pt} (hp : SmP p) {n i : Int} : ∀ (j k : Nat) (L : List Pt), k + j = b.length → L.length + j ≤ 1000 →
    X G (.loop Qco) (QfY da db L p n i b.length k) = some (.x 2, QdK da db (L ++ suR p (b.drop k)) n i)
  | 0, k, L, h, hl => by
    have : k = b.length := by omega
    subst this
    rw [Qak, cu0_stop, List.drop_length]
    simp [suR]
  | j + 1, k, L, h, hl => by
    have hk : k < b.length := by omega
    rw [Qak, cu0_go hr hb (by omega) (by omega) hp hk, Option.bind_some, if_pos rfl, Qq8 hr hb hn hp j (k + 1) _ (by omega) (by rw [List.length_append, List.length_singleton]; omega), QeW hk]
    simp [suR, suO]
theorem cu1_go {da db : D} {a b : List Pt} (hra : RwE cP da a) (hr : RwE cP db b) (ha : ∀ p ∈ a, SmP p) (hb : ∀ p ∈ b, SmP p) (hn : b.length ≤ 10) {L : List Pt} (hL : L.length ≤ 900) {i : Nat} (hi : i < a.length) (hna : a.length ≤ 1000) :
    X G QbP (QdK da db L a.length i) = some (.n, QdK da db (L ++ suR (a.getD i default) b) a.length ((i + 1 : Nat) : Int)) := by
  have e1 : decide ((i : Int) < (a.length : Int)) = true := lt_t (by omega)
  have e2 : w64 ((i : Int) + 1) = ((i + 1 : Nat) : Int) := by rw [Qac (by omega) (by omega)]; rfl
  have x1 := hra.ixa Qbk hi
  have x2 := fun hp => ldE Qbk hp hi
  have hp := QbE ha smP0 i
  have g := Qq8 (da := da) (n := (a.length : Int)) (i := (i : Int)) hr hb hn hp b.length 0 L (by omega) (by omega)
  rw [List.drop_zero] at g
  have ll := hr.len
  generalize a.getD i default = p at *
  generalize L ++ suR p b = M at *
  obtain ⟨p1, p2⟩ := p
  simp only [cP, iv] at x2
  by_cases h0 : L = []
  · subst h0
    by_cases h1 : M = []
    · subst h1
      simp only [QfY, QdK, bxP, QbW, QbX, Qad, nc0, go_sem, iv] at g
      simp -implicitDefEqProofs (maxSteps := 10000000) only [QbP, QdK, QbW, QbX, Qad, g, ll, x1, x2, st2p, go_sem, iv, bv, e1, e2, reduceCtorEq, ↓reduceIte, Nat.reduceEqDiff]
    · simp only [QfY, QdK, bxP, QbW, QbX, Qb9 h1, Qcd h1, arE, Qad, nc0, go_sem, iv] at g
      simp -implicitDefEqProofs (maxSteps := 10000000) only [QbP, QdK, QbW, QbX, Qb9 h1, Qcd h1, arE, QaO, Qad, g, ll, x1, x2, st2p, go_sem, iv, bv, e1, e2, reduceCtorEq, ↓reduceIte, Nat.reduceEqDiff]
  · by_cases h1 : M = []
    · subst h1
      simp only [QfY, QdK, bxP, QbW, QbX, Qb9 h0, Qcd h0, arE, Qad, nc0, go_sem, iv] at g
      simp -implicitDefEqProofs (maxSteps := 10000000) only [QbP, QdK, QbW, QbX, Qb9 h0, Qcd h0, arE, QaO, Qad, g, ll, x1, x2, st2p, go_sem, iv, bv, e1, e2, reduceCtorEq, ↓reduceIte, Nat.reduceEqDiff]
    · simp only [QfY, QdK, bxP, Qb9 h0, Qcd h0, Qb9 h1, Qcd h1, arE, nc0, go_sem, iv] at g
      simp -implicitDefEqProofs (maxSteps := 10000000) only [QbP, QdK, Qb9 h0, Qcd h0, Qb9 h1, Qcd h1, arE, QaO, g, ll, x1, x2, st2p, go_sem, iv, bv, e1, e2, reduceCtorEq, ↓reduceIte, Nat.reduceEqDiff]
theorem cu1_stop {da db : D} {a : List Pt} {L : List Pt} : X G QbP (QdK da db L a.length a.length) = some (.x 0, Qn4 L) := by
  have e1 : decide ((a.length : Int) < (a.length : Int)) = false := lt_f (by omega)
  by_cases h0 : L = []
  · subst h0
    simp -implicitDefEqProofs (maxSteps := 10000000) only [QbP, QdK, Qn4, QbW, QbX, Qad, go_sem, iv, bv, e1, reduceCtorEq, ↓reduceIte, Nat.reduceEqDiff]
  · simp -implicitDefEqProofs (maxSteps := 10000000) only [QbP, QdK, Qn4, Qb9 h0, Qcd h0, arE, QaO, go_sem, iv, bv, e1, reduceCtorEq, ↓reduceIte, Nat.reduceEqDiff]
theorem QrB      {da db : D} {a b : List Pt} (hra : RwE cP da a) (hr : RwE cP db b) (ha : ∀ p ∈ a, SmP p) (hb : ∀ p ∈ b, SmP p) (hn : b.length ≤ 10) (hna : a.length ≤ 10) : ∀ (j i : Nat) (L : List Pt), i + j = a.length → L.length + j * 10 ≤ 900 →
    X G (.loop QbP) (QdK da db L a.length i) = some (.x 0, Qn4 (L ++ suA (a.drop i) b))
  | 0, i, L, h, hl => by
    have : i = a.length := by omega
    subst this
    rw [Qak, cu1_stop, List.drop_length]
    simp [suA]
  | j + 1, i, L, h, hl => by
    have hi : i < a.length := by omega
    have hs : (suR (a.getD i default) b).length ≤ 10 := by unfold suR; rw [List.length_map]; exact hn
    rw [Qak, cu1_go hra hr ha hb hn (by omega) hi (by omega), Option.bind_some, if_pos rfl, QrB hra hr ha hb hn hna j (i + 1) _ (by omega) (by rw [List.length_append]; omega), QeW hi]
    simp [suA]
end Go.AM

/- The hulls of both, plain; they move with the shapes. -/
namespace Go.AM
open Go Go.RowKit
def bsS (last best p : Pt) : Pt := if decide (best = last) || decide (crI last best p < 0) || (decide (crI last best p = 0) && decide (faI last best < faI last p)) then p else best
def nxC (all : List Pt) (last : Pt) : Pt := all.foldl (bsS last) last
def hulC (all : List Pt) (first : Pt) : Nat → List Pt → Pt → Option (List Pt)
  | 0, _, _ => none
  | f + 1, out, last => if nxC all last = first then some out else hulC all first f (out ++ [nxC all last]) (nxC all last)
def okQ (last c p : Pt) : Bool := decide (0 < crI last c p) || (decide (crI last c p = 0) && decide (faI p last ≤ faI c last))
def nxR (all : List Pt) (last : Pt) : Pt := (all.find? fun c => decide (c ≠ last) && all.all (okQ last c)).getD last
def hulR (all : List Pt) (first : Pt) : Nat → List Pt → Pt → Option (List Pt)
  | 0, _, _ => none
  | f + 1, out, last => if nxR all last = first then some out else hulR all first f (out ++ [nxR all last]) (nxR all last)
/-- A side of the hull on the line of an edge. -/
def onE (a b x : List Pt) (d : Dr) (i : Nat) : Bool :=
  let u := sdx x i
  let v := sdy x i
  let t := if d.1 = 0 then (-u).tdiv d.2.1 else v.tdiv d.1
  decide (0 < t) && decide (v = t * d.1) && decide (-u = t * d.2.1) && decide (dotI d (x.getD i default) = moP d a + moP (tnD d) b)
def edgB (a b x : List Pt) : Bool :=
  ((uqS a b).all fun d => (List.range x.length).any fun i => onE a b x d i) && ((List.range x.length).all fun i => (uqS a b).any fun d => onE a b x d i)
def bas (c : Int) : List (List Pt) := (List.range 3).flatMap fun (k : Nat) => (List.range (if c = 2 ∨ c = 5 then 6 else 1)).map fun (m : Nat) => spB c (1 + (k : Int)) (1 + (m : Int))
theorem bas_mem {c k m : Int} (hc : 0 ≤ c ∧ c < 7) (hk : 1 ≤ k ∧ k < 4) (hm : 1 ≤ m ∧ m < 7) : ∃ e ∈ ([2, 3, 4, 5, 6] : List Int), spB c k m ∈ bas e := by
  have key : ∀ e : Int, (e = 2 ∨ e = 5) → spB e k m ∈ bas e := by
    intro e he
    unfold bas
    rw [if_pos he]
    refine List.mem_flatMap.2 ⟨(k - 1).toNat, List.mem_range.2 (by omega), List.mem_map.2 ⟨(m - 1).toNat, List.mem_range.2 (by omega), ?_⟩⟩
    rw [show 1 + (((k - 1).toNat : Nat) : Int) = k by omega, show 1 + (((m - 1).toNat : Nat) : Int) = m by omega]
  have key2 : ∀ e : Int, (e = 3 ∨ e = 4 ∨ e = 6) → spB e k 1 ∈ bas e := by
    intro e he
    unfold bas
    rw [if_neg (by omega)]
    refine List.mem_flatMap.2 ⟨(k - 1).toNat, List.mem_range.2 (by omega), List.mem_map.2 ⟨0, List.mem_range.2 (by omega), ?_⟩⟩
    rw [show 1 + (((k - 1).toNat : Nat) : Int) = k by omega]; rfl
  obtain h | h | h | h | h : (c = 0 ∨ c = 1 ∨ c = 2) ∨ c = 3 ∨ c = 4 ∨ c = 5 ∨ c = 6 := by omega
  · refine ⟨2, by simp, ?_⟩
    have e1 : spB c k m = spB 2 k m := by unfold spB; rw [if_pos h, if_pos (by omega)]
    rw [e1]; exact key 2 (.inl rfl)
  · subst h; exact ⟨3, by simp, key2 3 (.inl rfl)⟩
  · subst h; exact ⟨4, by simp, key2 4 (.inr (.inl rfl))⟩
  · subst h; exact ⟨5, by simp, key 5 (.inr rfl)⟩
  · subst h; exact ⟨6, by simp, key2 6 (.inr (.inr rfl))⟩
/-! Moved -/
theorem Qk4 (x y : Int) (p q : Pt) : (mvP x y p = mvP x y q) ↔ p = q := by
  obtain ⟨a, b⟩ := p
  obtain ⟨c, d⟩ := q
  unfold mvP
  simp only [Prod.mk.injEq]
  omega
theorem QqO (x y : Int) (p q : Pt) : faI (mvP x y p) (mvP x y q) = faI p q := by
  unfold faI mvP
  dsimp only
  rw [show p.1 + x - (q.1 + x) = p.1 - q.1 by omega, show p.2 + y - (q.2 + y) = p.2 - q.2 by omega]
theorem ltQ_mv (x y : Int) (p q : Pt) : ltQ (mvP x y p) (mvP x y q) = ltQ p q := by
  unfold ltQ mvP
  dsimp only
  rw [show decide (p.2 + y < q.2 + y) = decide (p.2 < q.2) from decide_eq_decide.2 (by omega), show decide (p.2 + y = q.2 + y) = decide (p.2 = q.2) from decide_eq_decide.2 (by omega), show decide (p.1 + x < q.1 + x) = decide (p.1 < q.1) from decide_eq_decide.2 (by omega)]
theorem bsS_mv (x y : Int) (l b p : Pt) : bsS (mvP x y l) (mvP x y b) (mvP x y p) = mvP x y (bsS l b p) := by
  unfold bsS
  rw [crI_mv, QqO, QqO, show decide (mvP x y b = mvP x y l) = decide (b = l) from decide_eq_decide.2 (Qk4 x y b l)]
  split <;> rfl
theorem fold_mv (x y : Int) (l : Pt) : ∀ (L : List Pt) (b : Pt), (L.map (mvP x y)).foldl (bsS (mvP x y l)) (mvP x y b) = mvP x y (L.foldl (bsS l) b)
  | [], b => rfl
  | p :: L, b => by
    rw [List.map_cons, List.foldl_cons, List.foldl_cons, bsS_mv, fold_mv x y l L]
theorem nxC_mv (x y : Int) (L : List Pt) (l : Pt) : nxC (L.map (mvP x y)) (mvP x y l) = mvP x y (nxC L l) := fold_mv x y l L l
theorem QpW (x y : Int) (L : List Pt) (fs : Pt) : ∀ (f : Nat) (O : List Pt) (l : Pt), hulC (L.map (mvP x y)) (mvP x y fs) f (O.map (mvP x y)) (mvP x y l) = (hulC L fs f O l).map (List.map (mvP x y))
  | 0, _, _ => rfl
  | f + 1, O, l => by
    rw [hulC, hulC, nxC_mv]
    by_cases h : nxC L l = fs
    · rw [if_pos h, if_pos (by rw [h])]; rfl
    · rw [if_neg h, if_neg (fun e => h ((Qk4 x y _ _).1 e)), ← QpW x y L fs f, List.map_append]; rfl
theorem okQ_mv (x y : Int) (l c p : Pt) : okQ (mvP x y l) (mvP x y c) (mvP x y p) = okQ l c p := by unfold okQ; rw [crI_mv, QqO, QqO]
theorem all_mv (x y : Int) (l c : Pt) (L : List Pt) : (L.map (mvP x y)).all (okQ (mvP x y l) (mvP x y c)) = L.all (okQ l c) := by
  rw [List.all_map]
  congr 1
  funext p
  exact okQ_mv x y l c p
theorem nxR_mv (x y : Int) (L : List Pt) (l : Pt) : nxR (L.map (mvP x y)) (mvP x y l) = mvP x y (nxR L l) := by
  unfold nxR
  rw [List.find?_map]
  have e : (fun c => decide (c ≠ mvP x y l) && (L.map (mvP x y)).all (okQ (mvP x y l) c)) ∘ mvP x y = fun c => decide (c ≠ l) && L.all (okQ l c) := by
    funext c
    show (decide (mvP x y c ≠ mvP x y l) && (L.map (mvP x y)).all (okQ (mvP x y l) (mvP x y c))) = _
    rw [all_mv, show decide (mvP x y c ≠ mvP x y l) = decide (c ≠ l) from decide_eq_decide.2 (not_congr (Qk4 x y c l))]
  rw [e]
  cases L.find? fun c => decide (c ≠ l) && L.all (okQ l c) <;> rfl
theorem Qpe (x y : Int) (L : List Pt) (fs : Pt) : ∀ (f : Nat) (O : List Pt) (l : Pt), hulR (L.map (mvP x y)) (mvP x y fs) f (O.map (mvP x y)) (mvP x y l) = (hulR L fs f O l).map (List.map (mvP x y))
  | 0, _, _ => rfl
  | f + 1, O, l => by
    rw [hulR, hulR, nxR_mv]
    by_cases h : nxR L l = fs
    · rw [if_pos h, if_pos (by rw [h])]; rfl
    · rw [if_neg h, if_neg (fun e => h ((Qk4 x y _ _).1 e)), ← Qpe x y L fs f, List.map_append]; rfl
theorem suA_mv (x y u v : Int) (a b : List Pt) : suA (a.map (mvP x y)) (b.map (mvP u v)) = (suA a b).map (mvP (x - u) (y - v)) := by
  unfold suA
  rw [List.flatMap_map, List.map_flatMap]
  congr 1
  funext p
  unfold suR
  rw [List.map_map, List.map_map]
  congr 1
  funext q
  simp only [Function.comp, mvP]
  refine Prod.ext ?_ ?_ <;> dsimp only <;> omega
theorem mnF_mv (x y : Int) (L : List Pt) : ∀ i, i < L.length → mnF (L.map (mvP x y)) i = mvP x y (mnF L i)
  | 0, h => by rw [mnF, mnF, Qey _ _ h]
  | i + 1, h => by
    rw [mnF, mnF, mnF_mv x y L i (by omega), Qey _ _ h, ltQ_mv]
    split <;> rfl
/-! What the kernel has found of the base shapes, for the moved ones. -/
structure Hul (a b x : List Pt) : Prop where
  c : hulC (suA a b) (mnF (suA a b) ((suA a b).length - 1)) 17 [mnF (suA a b) ((suA a b).length - 1)] (mnF (suA a b) ((suA a b).length - 1)) = some x
  r : hulR (suA a b) (mnF (suA a b) ((suA a b).length - 1)) 17 [mnF (suA a b) ((suA a b).length - 1)] (mnF (suA a b) ((suA a b).length - 1)) = some x
  three : 3 ≤ x.length
  ten : x.length ≤ 10
  one : ∀ d ∈ uqS a b, ∃ i, i < x.length ∧ onE a b x d i = true
  two : ∀ i, i < x.length → ∃ d ∈ uqS a b, onE a b x d i = true
  le : x.length ≤ (suA a b).length
theorem uqS_mv (x y u v : Int) (a b : List Pt) : uqS (a.map (mvP x y)) (b.map (mvP u v)) = uqS a b := by
  unfold uqS; rw [drs_mv]
theorem sdx_mv (x y : Int) (l : List Pt) {i : Nat} (h : i < l.length) : sdx (l.map (mvP x y)) i = sdx l i := by
  unfold sdx
  rw [mv_nx _ _ h, Qey _ _ h]
  unfold mvP
  dsimp only
  omega
theorem sdy_mv (x y : Int) (l : List Pt) {i : Nat} (h : i < l.length) : sdy (l.map (mvP x y)) i = sdy l i := by
  unfold sdy
  rw [mv_nx _ _ h, Qey _ _ h]
  unfold mvP
  dsimp only
  omega
theorem onE_mv (x y u v : Int) {a b : List Pt} (ha : 0 < a.length) (hb : 0 < b.length) (X : List Pt) (d : Dr) {i : Nat} (h : i < X.length) : onE (a.map (mvP x y)) (b.map (mvP u v)) (X.map (mvP (x - u) (y - v))) d i = onE a b X d i := by
  unfold onE
  dsimp only
  rw [sdx_mv _ _ _ h, sdy_mv _ _ _ h, moP_mv d x y ha, moP_mv (tnD d) u v hb, Qey _ _ h]
  have e : decide (dotI d (mvP (x - u) (y - v) (X.getD i default)) = moP d a + (d.1 * x + d.2.1 * y) + (moP (tnD d) b + ((tnD d).1 * u + (tnD d).2.1 * v))) = decide (dotI d (X.getD i default) = moP d a + moP (tnD d) b) := by
    refine decide_eq_decide.2 ?_
    generalize X.getD i default = p
    unfold dotI mvP tnD
    dsimp only
    rw [Int.mul_add, Int.mul_add, Int.mul_sub, Int.mul_sub, Int.neg_mul, Int.neg_mul]
    omega
  rw [e]
theorem hul_mv (x y u v : Int) {a b X : List Pt} (ha : 0 < a.length) (hb : 0 < b.length) (h : Hul a b X) : Hul (a.map (mvP x y)) (b.map (mvP u v)) (X.map (mvP (x - u) (y - v))) := by
  have hn : 0 < (suA a b).length := by
    unfold suA
    obtain ⟨p, a, rfl⟩ := List.exists_cons_of_length_pos ha
    rw [List.flatMap_cons, List.length_append]
    unfold suR
    rw [List.length_map]
    omega
  have e := suA_mv x y u v a b
  have e1 : mnF (suA (a.map (mvP x y)) (b.map (mvP u v))) ((suA (a.map (mvP x y)) (b.map (mvP u v))).length - 1) = mvP (x - u) (y - v) (mnF (suA a b) ((suA a b).length - 1)) := by
    rw [e, List.length_map, mnF_mv _ _ _ _ (by omega)]
  refine ⟨?_, ?_, by rw [List.length_map]; exact h.three, by rw [List.length_map]; exact h.ten, ?_, ?_, by rw [e, List.length_map, List.length_map]; exact h.le⟩
  · rw [e1, e]
    have := QpW (x - u) (y - v) (suA a b) (mnF (suA a b) ((suA a b).length - 1)) 17 [mnF (suA a b) ((suA a b).length - 1)] (mnF (suA a b) ((suA a b).length - 1))
    rw [h.c] at this
    exact this
  · rw [e1, e]
    have := Qpe (x - u) (y - v) (suA a b) (mnF (suA a b) ((suA a b).length - 1)) 17 [mnF (suA a b) ((suA a b).length - 1)] (mnF (suA a b) ((suA a b).length - 1))
    rw [h.r] at this
    exact this
  · intro d hd
    rw [uqS_mv] at hd
    obtain ⟨i, hi, e⟩ := h.one d hd
    exact ⟨i, by rw [List.length_map]; exact hi, by rw [onE_mv _ _ _ _ ha hb _ _ hi]; exact e⟩
  · intro i hi
    rw [List.length_map] at hi
    obtain ⟨d, hd, e⟩ := h.two i hi
    exact ⟨d, by rw [uqS_mv]; exact hd, by rw [onE_mv _ _ _ _ ha hb _ _ hi]; exact e⟩
end Go.AM

/- convex.Sum's inner loop: the next corner. -/
namespace Go.AM
open Go Go.RowKit
/-- The row of all sums, frozen. -/
def frO (AA : List Pt) : Obj := ⟨2, AA.length, (AA.flatMap cP).map .d, true⟩
def Qlo (AA : List Pt) (fs : Pt) (O : List Pt) (k : Nat) (last best : Pt) (n i : Int) : St := mkS [(5, .d (rowE cP AA)), (10, .ptr [10] 0), (11, .own [k] O.length), (12, .ptr [12] 0), (13, .ptr [13] 0), (55, .d (rowE cP AA)), (56, ai n), (57, ai i)] [([10], bxP fs.1 fs.2), ([12], bxP last.1 last.2), ([13], bxP best.1 best.2), ([41], frO AA), ([k], arE cP 2 O.length O)]
def l2_en (AA : List Pt) (fs : Pt) (O : List Pt) (k : Nat) (best : Pt) : St := mkS [(5, .d (rowE cP AA)), (10, .ptr [10] 0), (11, .own [k] O.length), (13, .ptr [13] 0)] [([10], bxP fs.1 fs.2), ([13], bxP best.1 best.2), ([41], frO AA), ([k], arE cP 2 O.length O)]
theorem eqP_iff (p q : Pt) : ((p.1 == q.1) && (p.2 == q.2)) = decide (p = q) := by
  obtain ⟨a, b⟩ := p
  obtain ⟨c, d⟩ := q
  simp only [Prod.mk.injEq]
  by_cases h1 : a = c <;> by_cases h2 : b = d <;> simp [h1, h2]
theorem Qca (o : Obj) : QbH (hupd hp0 [47] o) [41] none = hupd hp0 [47] o := by
  funext j
  simp only [QbH, hupd, hp0]
  by_cases h : j = [41]
  · subst h; rfl
  · rw [if_neg h]
theorem Qee (o : Obj) : QbH (hupd hp0 [96] o) [41] none = hupd hp0 [96] o := by
  funext j
  simp only [QbH, hupd, hp0]
  by_cases h : j = [41]
  · subst h; rfl
  · rw [if_neg h]
theorem Qeh (o : Obj) : QbH (hupd hp0 [96] o) [47] none = hupd hp0 [96] o := by
  funext j
  simp only [QbH, hupd, hp0]
  by_cases h : j = [47]
  · subst h; rfl
  · rw [if_neg h]
theorem tup_b : A.bool? (.d (.v (.tuple #[]))) = none := rfl
variable [Its]
set_option maxHeartbeats 2000000 in
theorem l2_go47 {AA O : List Pt} {fs last best : Pt} (hA : ∀ p ∈ AA, SmP p) (hn : AA.length ≤ 1000) (hl : SmP last) (hb : SmP best) {i : Nat} (hi : i < AA.length) :
    X G QbR (Qlo AA fs O 47 last best AA.length i) = some (.n, Qlo AA fs O 47 last (bsS last best (AA.getD i default)) AA.length ((i + 1 : Nat) : Int)) := by
  have hr : RwE cP (rowE cP AA) AA := .inr rfl
  have e1 : decide ((i : Int) < (AA.length : Int)) = true := lt_t (by omega)
  have e2 : w64 ((i : Int) + 1) = ((i + 1 : Nat) : Int) := by rw [Qac (by omega) (by omega)]; rfl
  have x1 := hr.ixa Qbk hi
  have x2 := fun hp => ldE Qbk hp hi
  have hp := QbE hA smP0 i
  generalize AA.getD i default = p at *
  have g1 := Qr7 hl hb hp
  have g2 := Qrj hl hp
  have g3 := Qrj hl hb
  have q := eqP_iff best last
  unfold bsS
  generalize crI last best p = c at *
  generalize faI last p = u at *
  generalize faI last best = v at *
  cases h0 : decide (best = last) with
  | true =>
    rw [h0] at q
    obtain ⟨l1, l2⟩ := last
    obtain ⟨b1, b2⟩ := best
    obtain ⟨p1, p2⟩ := p
    simp only [encP, cP, iv] at x2 g1 g2 g3
    simp -implicitDefEqProofs (maxSteps := 10000000) only [QbR, Qlo, bxP, frO, arE, QaO, Qad, Qca, Qee, Qeh, tup_b, decide_false, x1, x2, q, e1, e2, st2p, ld2p, Bool.true_or, if_true, go_sem, iv, bv, reduceCtorEq, ↓reduceIte, Nat.reduceEqDiff]
  | false =>
    rw [h0] at q
    obtain ⟨l1, l2⟩ := last
    obtain ⟨b1, b2⟩ := best
    obtain ⟨p1, p2⟩ := p
    simp only [encP, cP, iv] at x2 g1 g2 g3
    by_cases h1 : c < 0
    · have t1 : decide (c < 0) = true := lt_t h1
      simp -implicitDefEqProofs (maxSteps := 10000000) only [QbR, Qlo, bxP, frO, arE, QaO, Qad, Qca, Qee, Qeh, tup_b, decide_false, x1, x2, q, g1, t1, e1, e2, st2p, ld2p, Bool.true_or, Bool.false_or, if_true, go_sem, iv, bv, reduceCtorEq, ↓reduceIte, Nat.reduceEqDiff]
    · have t1 : decide (c < 0) = false := lt_f (by omega)
      by_cases h2 : c = 0
      · subst h2
        have t2 : ((0 : Int) == 0) = true := rfl
        by_cases h3 : v < u
        · have t3 : decide (u > v) = true := gt_t h3
          have t4 : decide (v < u) = true := lt_t h3
          simp -implicitDefEqProofs (maxSteps := 10000000) only [QbR, Qlo, bxP, frO, arE, QaO, Qad, Qca, Qee, Qeh, tup_b, decide_false, x1, x2, q, g1, g2, g3, t1, t2, t3, t4, e1, e2, st2p, ld2p, decide_true, Bool.and_self, Bool.true_or, Bool.false_or, if_true, go_sem, iv, bv, reduceCtorEq, ↓reduceIte, Nat.reduceEqDiff]
        · have t3 : decide (u > v) = false := gt_f (by omega)
          have t4 : decide (v < u) = false := lt_f (by omega)
          simp -implicitDefEqProofs (maxSteps := 10000000) only [QbR, Qlo, bxP, frO, arE, QaO, Qad, Qca, Qee, Qeh, tup_b, decide_false, x1, x2, q, g1, g2, g3, t1, t2, t3, t4, e1, e2, st2p, ld2p, decide_true, Bool.and_false, Bool.true_or, Bool.false_or, Bool.false_eq_true, if_false, go_sem, iv, bv, reduceCtorEq, ↓reduceIte, Nat.reduceEqDiff]
      · have t2 : (c == 0) = false := by simp [h2]
        have t3 : decide (c = 0) = false := decide_eq_false h2
        simp -implicitDefEqProofs (maxSteps := 10000000) only [QbR, Qlo, bxP, frO, arE, QaO, Qad, Qca, Qee, Qeh, tup_b, decide_false, x1, x2, q, g1, t1, t2, t3, e1, e2, st2p, ld2p, Bool.false_and, Bool.true_or, Bool.false_or, Bool.false_eq_true, if_false, go_sem, iv, bv, reduceCtorEq, ↓reduceIte, Nat.reduceEqDiff]
theorem l2_stop47 {AA O : List Pt} {fs last best : Pt} {n : Nat} : X G QbR (Qlo AA fs O 47 last best n n) = some (.x 6, l2_en AA fs O 47 best) := by
  have e1 : decide ((n : Int) < (n : Int)) = false := lt_f (by omega)
  simp -implicitDefEqProofs (maxSteps := 10000000) only [QbR, Qlo, l2_en, bxP, frO, arE, QaO, Qad, Qca, Qee, Qeh, e1, go_sem, iv, bv, reduceCtorEq, ↓reduceIte, Nat.reduceEqDiff]
theorem Qo3       {AA O : List Pt} {fs last : Pt} (hA : ∀ p ∈ AA, SmP p) (hn : AA.length ≤ 1000) (hl : SmP last) : ∀ (j i : Nat) (best : Pt), SmP best → i + j = AA.length →
    X G (.loop QbR) (Qlo AA fs O 47 last best AA.length i) = some (.x 6, l2_en AA fs O 47 ((AA.drop i).foldl (bsS last) best))
  | 0, i, best, hb, h => by
    have : i = AA.length := by omega
    subst this
    rw [Qak, l2_stop47, List.drop_length]
    rfl
  | j + 1, i, best, hb, h => by
    have hi : i < AA.length := by omega
    have hp := QbE hA smP0 i
    rw [Qak, l2_go47 hA hn hl hb hi, Option.bind_some, if_pos rfl, Qo3 hA hn hl j (i + 1) _ (by unfold bsS; split <;> assumption) (by omega), QeW hi, List.foldl_cons]
end Go.AM

/- convex.Sum. -/
namespace Go.AM
open Go Go.RowKit
def Qsz (AA : List Pt) (fs : Pt) (O : List Pt) : St := mkS [(5, .d (rowE cP AA)), (10, .ptr [10] 0), (11, .own [47] O.length)] [([10], bxP fs.1 fs.2), ([41], frO AA), ([47], arE cP 2 O.length O)]
def l3_en (O : List Pt) : St := mkS [(4, .own [47] O.length)] [([47], arE cP 2 O.length O)]
theorem smP_bs {last best p : Pt} (hb : SmP best) (hp : SmP p) : SmP (bsS last best p) := by unfold bsS; split <;> assumption
theorem QqQ {last : Pt} : ∀ (l : List Pt) (b : Pt), SmP b → (∀ p ∈ l, SmP p) → SmP (l.foldl (bsS last) b)
  | [], b, hb, _ => hb
  | p :: l, b, hb, h => by
    rw [List.foldl_cons]
    exact QqQ l _ (smP_bs hb (h p (List.mem_cons_self ..))) fun q hq => h q (List.mem_cons_of_mem _ hq)
theorem suA_sm {a b : List Pt} (ha : ∀ p ∈ a, -40000000 ≤ p.1 ∧ p.1 ≤ 40000000 ∧ -40000000 ≤ p.2 ∧ p.2 ≤ 40000000) (hb : ∀ p ∈ b, -40000000 ≤ p.1 ∧ p.1 ≤ 40000000 ∧ -40000000 ≤ p.2 ∧ p.2 ≤ 40000000) : ∀ p ∈ suA a b, SmP p := by
  intro p hp
  unfold suA at hp
  obtain ⟨q, hq, hp⟩ := List.mem_flatMap.1 hp
  unfold suR at hp
  obtain ⟨r, hr, rfl⟩ := List.mem_map.1 hp
  have := ha q hq
  have := hb r hr
  simp only [SmP, Sm]
  omega
theorem suA_len (a b : List Pt) : (suA a b).length = a.length * b.length := by
  unfold suA
  induction a with
  | nil => simp
  | cons p a ih =>
    rw [List.flatMap_cons, List.length_append, ih]
    unfold suR
    rw [List.length_map, List.length_cons, Nat.succ_mul]
    omega
variable [Its]
set_option maxHeartbeats 1000000 in
theorem l3_go {AA O : List Pt} {fs last : Pt} (hA : ∀ p ∈ AA, SmP p) (hn : AA.length ≤ 1000) (h0 : 0 < O.length) (hO : O.length ≤ 1000) (hl : SmP last) (e : O.getD (O.length - 1) default = last) :
    X G QdH (Qsz AA fs O) = if nxC AA last = fs then some (.r, l3_en O) else some (.n, Qsz AA fs (O ++ [nxC AA last])) := by
  have hr : RwE cP (rowE cP AA) AA := .inr rfl
  have ll := hr.len
  have e1 : w64 ((O.length : Int) - 1) = ((O.length - 1 : Nat) : Int) := by rw [Qac (by omega) (by omega)]; omega
  have b1 : (0 ≤ ((O.length - 1 : Nat) : Int)) = True := eq_true (by omega)
  have b2 : (((O.length - 1 : Nat) : Int) < (O.length : Int)) = True := eq_true (by omega)
  have x1 := ldO Qbk (l := O) (j := O.length - 1) (by omega)
  rw [e] at x1
  have g := Qo3 (O := O) (fs := fs) hA hn hl AA.length 0 last hl (by omega)
  rw [List.drop_zero] at g
  have en : AA.foldl (bsS last) last = nxC AA last := rfl
  rw [en] at g
  generalize nxC AA last = z at *
  have q := eqP_iff z fs
  have n3 := lenE Qbk O
  have n4 : ((O.length + 1) * 16 ≤ bound) = True := eq_true (by unfold bound; omega)
  have n5 : (O ++ [z]).length = O.length + 1 := by simp
  have n6 := Qp4 O z.1 z.2
  obtain ⟨z1, z2⟩ := z
  obtain ⟨f1, f2⟩ := fs
  obtain ⟨t1, t2⟩ := last
  dsimp only at q n6
  simp only [cP, iv] at x1
  simp only [Qlo, l2_en, bxP, frO, arE, nc0, Qad, Qca, go_sem, iv] at g
  by_cases hz : (z1, z2) = (f1, f2)
  · have t : decide ((z1, z2) = (f1, f2)) = true := decide_eq_true hz
    rw [t] at q
    rw [if_pos hz]
    simp -implicitDefEqProofs (maxSteps := 10000000) only [QdH, Qsz, l3_en, bxP, frO, arE, g, ll, e1, b1, b2, x1, q, nc0, QaO, Int.toNat_natCast, Qad, Qca, st2p, ld2p, go_sem, iv, bv, reduceCtorEq, ↓reduceIte, Nat.reduceEqDiff]
  · have t : decide ((z1, z2) = (f1, f2)) = false := decide_eq_false hz
    rw [t] at q
    rw [if_neg hz]
    simp -implicitDefEqProofs (maxSteps := 10000000) only [QdH, Qsz, l3_en, bxP, frO, arE, g, ll, e1, b1, b2, x1, q, nc0, n3, n4, n5, n6, Qmm, oneI, srcS, src, allD, List.all_cons, List.all_nil, List.nil_append, List.cons_append, List.length_nil, List.length_cons, Nat.zero_add, List.map_cons, List.map_nil, QaO, Int.toNat_natCast, Qad, Qca, st2p, ld2p, go_sem, iv, bv, reduceCtorEq, ↓reduceIte, Nat.reduceEqDiff]
theorem l3_loop {AA : List Pt} {fs : Pt} (hA : ∀ p ∈ AA, SmP p) (hn : AA.length ≤ 1000) {x : List Pt} : ∀ (f : Nat) (O : List Pt) (last : Pt), 0 < O.length → O.length + f ≤ 1000 → SmP last → O.getD (O.length - 1) default = last →
    hulC AA fs f O last = some x → X G (.loop QdH) (Qsz AA fs O) = some (.r, l3_en x)
  | 0, O, last, _, _, _, _, h => by cases h
  | f + 1, O, last, h0, hO, hl, e, h => by
    rw [Qak, l3_go hA hn h0 (by omega) hl e]
    rw [hulC] at h
    by_cases hz : nxC AA last = fs
    · rw [if_pos hz] at h ⊢
      cases h
      rfl
    · rw [if_neg hz] at h ⊢
      rw [Option.bind_some, if_pos rfl]
      exact l3_loop hA hn f _ _ (by simp) (by rw [List.length_append, List.length_singleton]; omega) (QqQ _ _ hl hA) (by simp [nxC]) h
theorem cSum_spec {da db : D} {a b x : List Pt} (hra : RwE cP da a) (hrb : RwE cP db b) (ha : ∀ p ∈ a, -40000000 ≤ p.1 ∧ p.1 ≤ 40000000 ∧ -40000000 ≤ p.2 ∧ p.2 ≤ 40000000) (hb : ∀ p ∈ b, -40000000 ≤ p.1 ∧ p.1 ≤ 40000000 ∧ -40000000 ≤ p.2 ∧ p.2 ≤ 40000000) (na : a.length ≤ 8) (nb : b.length ≤ 8) (h0 : 0 < a.length) (h1 : 0 < b.length)
    (h : hulC (suA a b) (mnF (suA a b) ((suA a b).length - 1)) 17 [mnF (suA a b) ((suA a b).length - 1)] (mnF (suA a b) ((suA a b).length - 1)) = some x) :
    Qaj G QjC [da, db] = some (.own 2 x.length (x.flatMap cP)) := by
  rw [Qaf (cf := convex_Sum) rfl]
  have hS := suA_sm ha hb
  have hl : (suA a b).length ≤ 64 ∧ 0 < (suA a b).length := by
    rw [suA_len]
    exact ⟨Nat.le_trans (Nat.mul_le_mul na nb) (by omega), Nat.mul_pos h0 h1⟩
  have sm : ∀ {l : List Pt}, (∀ p ∈ l, -40000000 ≤ p.1 ∧ p.1 ≤ 40000000 ∧ -40000000 ≤ p.2 ∧ p.2 ≤ 40000000) → ∀ p ∈ l, SmP p := fun h p hp => by have := h p hp; simp only [SmP, Sm]; omega
  have g0 := QrB hra hrb (sm ha) (sm hb) (by omega) (by omega) a.length 0 [] (by omega) (by simp; omega)
  rw [List.drop_zero, List.nil_append] at g0
  have hne : suA a b ≠ [] := fun e => by rw [e] at hl; simp at hl
  have g1 := MinF_spec (d := rowE cP (suA a b)) (l := suA a b) (.inr rfl) hl.2 (by omega)
  have hf : SmP (mnF (suA a b) ((suA a b).length - 1)) := Qpm (P := SmP) (fun i => QbE hS smP0 i) _
  generalize suA a b = AA at *
  generalize mnF AA (AA.length - 1) = fs at *
  have g2 := l3_loop hS (by omega) 17 [fs] fs (by simp) (by simp) hf rfl h
  have ll := hra.len
  obtain ⟨f1, f2⟩ := fs
  simp only [QdK, Qn4, QbW, QbX, Qb9 hne, Qcd hne, arE, Qad, nc0, go_sem, iv] at g0
  have n6 := flat1P f1 f2
  simp only [Qsz, l3_en, bxP, frO, arE, n6, rowE, List.length_singleton, List.map_cons, List.map_nil, Qad, Qca, go_sem, iv] at g2
  simp only [encP, cP, rowE, iv] at g1
  simp -implicitDefEqProofs (maxSteps := 10000000) only [convex_Sum, QkM, frO, g0, g1, g2, ll, nc0, rowE, bxP, frO, arE, Qh2, QaO, Qmm, Qc5, QbD, oneI, srcS, src, allD, List.map_cons, List.map_nil, List.length_cons, List.length_nil, Nat.zero_add, Int.toNat_natCast, Qad, Qca, st2p, ld2p, go_sem, iv, bv, reduceCtorEq, ↓reduceIte, Nat.reduceEqDiff]
end Go.AM

/- ref12.Sum. -/
namespace Go.AM
open Go Go.RowKit
def mnR (l : List Pt) : Nat → Pt
  | 0 => l.getD 0 default
  | i + 1 => if ltQ (l.getD i default) (mnR l i) = true then l.getD i default else mnR l i
theorem mnR_F (l : List Pt) : ∀ i, mnR l (i + 1) = mnF l i
  | 0 => by
    show (if ltQ (l.getD 0 default) (l.getD 0 default) = true then l.getD 0 default else l.getD 0 default) = l.getD 0 default
    split <;> rfl
  | i + 1 => by
    rw [mnR, mnR_F l i]; rfl
variable [Its]
end Go.AM

/- ref12.Sum, second part. -/
namespace Go.AM
open Go Go.RowKit
variable [Its]
end Go.AM

/- The hulls of both over natural numbers: quick for the kernel. -/
namespace Go.AM
open Go Go.RowKit
abbrev Nt := Nat × Nat
def ofN (p : Nt) : Pt := ((p.1 : Int), (p.2 : Int))
def toN (p : Pt) : Nt := ((p.1 + 100).toNat, (p.2 + 100).toNat)
def cpN (a b c : Nt) : Nat := Nat.add (Nat.add (Nat.mul b.1 c.2) (Nat.mul b.2 a.1)) (Nat.mul a.2 c.1)
def cmN (a b c : Nt) : Nat := Nat.add (Nat.add (Nat.mul b.1 a.2) (Nat.mul a.1 c.2)) (Nat.mul b.2 c.1)
def dfN (x y : Nat) : Nat := Nat.add (Nat.sub x y) (Nat.sub y x)
def faN (p q : Nt) : Nat := Nat.add (Nat.mul (dfN p.1 q.1) (dfN p.1 q.1)) (Nat.mul (dfN p.2 q.2) (dfN p.2 q.2))
def eqN (p q : Nt) : Bool := and (Nat.beq p.1 q.1) (Nat.beq p.2 q.2)
noncomputable def iteB {α : Type} (b : Bool) (x y : α) : α := Bool.rec y x b
noncomputable def frcN {α : Type} (n : Nat) (f : Nat → α) : α := Nat.rec (f 0) (fun k _ => f (Nat.succ k)) n
noncomputable def frcT {α : Type} (p : Nt) (f : Nt → α) : α := frcN p.1 fun x => frcN p.2 fun y => f (x, y)
noncomputable def frcM {α : Type} (l : List Nt) (f : List Nt → α) : α := List.rec (motive := fun _ => (List Nt → α) → α) (fun f => f []) (fun p _ ih f => frcT p fun p => ih fun l => f (p :: l)) l f
noncomputable def bsN (last best p : Nt) : Nt := iteB (eqN best last) p (iteB (Nat.ble (cmN last best p) (cpN last best p)) (iteB (and (Nat.beq (cmN last best p) (cpN last best p)) (Nat.ble (Nat.succ (faN last best)) (faN last p))) p best) p)
noncomputable def nxN (all : List Nt) (last : Nt) : Nt := all.foldl (bsN last) last
noncomputable def hulCN (all : List Nt) (first : Nt) : Nat → List Nt → Nt → Option (List Nt)
  | 0, _, _ => none
  | f + 1, out, last => frcT (nxN all last) fun z => iteB (eqN z first) (some out) (hulCN all first f (out ++ [z]) z)
def okN (last c p : Nt) : Bool := or (Nat.ble (Nat.succ (cmN last c p)) (cpN last c p)) (and (Nat.beq (cmN last c p) (cpN last c p)) (Nat.ble (faN p last) (faN c last)))
noncomputable def allN (last c : Nt) (l : List Nt) : Bool := List.rec (motive := fun _ => Bool) true (fun p _ ih => iteB (okN last c p) ih false) l
noncomputable def fndN (all : List Nt) (last : Nt) (l : List Nt) : Nt := List.rec (motive := fun _ => Nt) last (fun c _ ih => iteB (eqN c last) ih (iteB (allN last c all) c ih)) l
noncomputable def hulRN (all : List Nt) (first : Nt) : Nat → List Nt → Nt → Option (List Nt)
  | 0, _, _ => none
  | f + 1, out, last => frcT (fndN all last all) fun z => iteB (eqN z first) (some out) (hulRN all first f (out ++ [z]) z)
def ltN (p q : Nt) : Bool := or (Nat.ble (Nat.succ p.2) q.2) (and (Nat.beq p.2 q.2) (Nat.ble (Nat.succ p.1) q.1))
noncomputable def mnN (l : List Nt) (p : Nt) : Nt := l.foldl (fun p q => iteB (ltN q p) q p) p
def bkN (n : Nt) : Pt := ((n.1 : Int) - 100, (n.2 : Int) - 100)
noncomputable def hulB (a b : List Pt) : Bool :=
  frcM ((suA a b).map toN) fun all => frcT (mnN all (all.headD (0, 0))) fun first =>
  match hulCN all first 17 [first] first, hulRN all first 17 [first] first with
  | some x, some y => decide (x = y) && Nat.ble 3 x.length && Nat.ble x.length 10 && Nat.ble x.length all.length && edgB a b (x.map bkN) && ((suA a b).all fun p => decide (-100 ≤ p.1) && decide (-100 ≤ p.2)) && !((suA a b).isEmpty)
  | _, _ => false
noncomputable def hulA (c e : Int) : Bool := (bas c).all fun a => (bas e).all fun b => hulB a b
theorem frcN_eq {α : Type} (n : Nat) (f : Nat → α) : frcN n f = f n := by cases n <;> rfl
theorem Qmy {α : Type} (p : Nt) (f : Nt → α) : frcT p f = f p := by unfold frcT; rw [frcN_eq, frcN_eq]
theorem frcM_eq {α : Type} : ∀ (l : List Nt) (f : List Nt → α), frcM l f = f l
  | [], f => rfl
  | p :: l, f => by
    show (frcT p fun p => frcM l fun l => f (p :: l)) = _
    rw [Qmy, frcM_eq l]
theorem QfL {α : Type} (b : Bool) (x y : α) : iteB b x y = if b = true then x else y := by cases b <;> rfl
theorem ofN_inj (p q : Nt) : ofN p = ofN q ↔ p = q := by
  obtain ⟨a, b⟩ := p
  obtain ⟨c, d⟩ := q
  unfold ofN
  simp only [Prod.mk.injEq]
  omega
theorem nbeq (a b : Nat) : Nat.beq a b = true ↔ a = b := ⟨Nat.eq_of_beq_eq_true, fun h => h ▸ Nat.beq_refl _⟩
theorem QmX (p q : Nt) : eqN p q = decide (ofN p = ofN q) := by
  obtain ⟨a, b⟩ := p
  obtain ⟨c, d⟩ := q
  rw [Bool.eq_iff_iff, decide_eq_true_iff, ofN_inj]
  unfold eqN
  show (Nat.beq a c && Nat.beq b d) = true ↔ _
  rw [Bool.and_eq_true, nbeq, nbeq, Prod.mk.injEq]
theorem cr_N (a b c : Nt) : crI (ofN a) (ofN b) (ofN c) = (cpN a b c : Int) - (cmN a b c : Int) := by
  unfold crI ofN
  have e1 : cpN a b c = b.1 * c.2 + b.2 * a.1 + a.2 * c.1 := rfl
  have e2 : cmN a b c = b.1 * a.2 + a.1 * c.2 + b.2 * c.1 := rfl
  rw [e1, e2]
  push_cast
  generalize (a.1 : Int) = a1
  generalize (a.2 : Int) = a2
  generalize (b.1 : Int) = b1
  generalize (b.2 : Int) = b2
  generalize (c.1 : Int) = c1
  generalize (c.2 : Int) = c2
  grind
theorem df_sq (x y : Nat) : ((x : Int) - (y : Int)) * ((x : Int) - (y : Int)) = ((dfN x y * dfN x y : Nat) : Int) := by
  have e : dfN x y = (x - y) + (y - x) := rfl
  rw [e, Int.natCast_mul]
  rcases Nat.le_total x y with h | h
  · have e1 : (((x - y) + (y - x) : Nat) : Int) = -((x : Int) - (y : Int)) := by omega
    rw [e1, Int.neg_mul_neg]
  · have e1 : (((x - y) + (y - x) : Nat) : Int) = ((x : Int) - (y : Int)) := by omega
    rw [e1]
theorem fa_N (p q : Nt) : faI (ofN p) (ofN q) = (faN p q : Int) := by
  unfold faI ofN
  dsimp only
  rw [df_sq, df_sq]
  have e : faN p q = dfN p.1 q.1 * dfN p.1 q.1 + dfN p.2 q.2 * dfN p.2 q.2 := rfl
  rw [e, Int.natCast_add]
theorem Qrz (a b : Nat) : Nat.ble (Nat.succ a) b = decide (a < b) := by
  rw [Bool.eq_iff_iff, decide_eq_true_iff, Nat.ble_eq]
  exact Iff.rfl
theorem ble_le (a b : Nat) : Nat.ble a b = decide (a ≤ b) := by rw [Bool.eq_iff_iff, decide_eq_true_iff, Nat.ble_eq]
theorem beq_eq (a b : Nat) : Nat.beq a b = decide (a = b) := by rw [Bool.eq_iff_iff, decide_eq_true_iff, nbeq]
theorem bs_N (l b p : Nt) : bsS (ofN l) (ofN b) (ofN p) = ofN (bsN l b p) := by
  unfold bsS bsN
  rw [cr_N, fa_N, fa_N, QmX, ble_le, Qrz, beq_eq, QfL, QfL, QfL]
  generalize cpN l b p = u
  generalize cmN l b p = v
  generalize faN l b = s
  generalize faN l p = t
  by_cases h0 : ofN b = ofN l
  · simp only [h0, decide_true, Bool.true_or, if_true]
  · simp only [h0, decide_false, Bool.false_or, Bool.false_eq_true, if_false]
    by_cases h1 : v ≤ u
    · have h2 : ¬ ((u : Int) - (v : Int) < 0) := by omega
      simp only [h1, h2, decide_true, decide_false, Bool.false_or, if_true]
      by_cases h3 : v = u
      · have h4 : (u : Int) - (v : Int) = 0 := by omega
        by_cases h5 : s < t
        · have h6 : (s : Int) < (t : Int) := by omega
          have e : (decide (v = u)).and (decide (s < t)) = true := by simp [h3, h5]
          rw [e]
          simp only [h4, h6, decide_true, Bool.and_self, if_true]
        · have h6 : ¬ (s : Int) < (t : Int) := by omega
          have e : (decide (v = u)).and (decide (s < t)) = false := by simp [h5]
          rw [e]
          simp only [h6, decide_false, Bool.and_false, Bool.false_eq_true, if_false]
      · have h4 : ¬ (u : Int) - (v : Int) = 0 := by omega
        have e : (decide (v = u)).and (decide (s < t)) = false := by simp [h3]
        rw [e]
        simp only [h4, decide_false, Bool.false_and, Bool.false_eq_true, if_false]
    · have h2 : (u : Int) - (v : Int) < 0 := by omega
      simp only [h1, h2, decide_true, decide_false, Bool.true_or, if_true, Bool.false_eq_true, if_false]
theorem fold_N (l : Nt) : ∀ (L : List Nt) (b : Nt), (L.map ofN).foldl (bsS (ofN l)) (ofN b) = ofN (L.foldl (bsN l) b)
  | [], b => rfl
  | p :: L, b => by rw [List.map_cons, List.foldl_cons, List.foldl_cons, bs_N, fold_N l L]
theorem hulC_N (L : List Nt) (fs : Nt) : ∀ (f : Nat) (O : List Nt) (l : Nt), hulC (L.map ofN) (ofN fs) f (O.map ofN) (ofN l) = (hulCN L fs f O l).map (List.map ofN)
  | 0, _, _ => rfl
  | f + 1, O, l => by
    have e : nxC (L.map ofN) (ofN l) = ofN (nxN L l) := fold_N l L l
    rw [hulC, hulCN, e, Qmy, QfL, QmX]
    by_cases h : ofN (nxN L l) = ofN fs
    · rw [if_pos h, if_pos (decide_eq_true h)]; rfl
    · rw [if_neg h, if_neg (by rw [decide_eq_false h]; simp), ← hulC_N L fs f, List.map_append]; rfl
theorem ok_N (l c p : Nt) : okQ (ofN l) (ofN c) (ofN p) = okN l c p := by
  unfold okQ okN
  rw [cr_N, fa_N, fa_N, Qrz, ble_le, beq_eq]
  generalize cpN l c p = u
  generalize cmN l c p = v
  generalize faN p l = s
  generalize faN c l = t
  show _ = (decide (v < u) || (decide (v = u) && decide (s ≤ t)))
  rw [show decide (0 < (u : Int) - (v : Int)) = decide (v < u) from decide_eq_decide.2 (by omega), show decide ((u : Int) - (v : Int) = 0) = decide (v = u) from decide_eq_decide.2 (by omega), show decide ((s : Int) ≤ (t : Int)) = decide (s ≤ t) from decide_eq_decide.2 (by omega)]
theorem all_N (l c : Nt) : ∀ L : List Nt, (L.map ofN).all (okQ (ofN l) (ofN c)) = allN l c L
  | [] => rfl
  | p :: L => by
    show _ = iteB (okN l c p) (allN l c L) false
    rw [List.map_cons, List.all_cons, ok_N, all_N l c L, QfL]
    cases okN l c p <;> rfl
theorem fnd_N (all : List Nt) (l : Nt) : ∀ L : List Nt, ((L.map ofN).find? fun c => decide (c ≠ ofN l) && (all.map ofN).all (okQ (ofN l) c)).getD (ofN l) = ofN (fndN all l L)
  | [] => rfl
  | c :: L => by
    show _ = ofN (iteB (eqN c l) (fndN all l L) (iteB (allN l c all) c (fndN all l L)))
    rw [List.map_cons, List.find?_cons, all_N, QmX, QfL, QfL]
    by_cases h : ofN c = ofN l
    · have e1 : decide (ofN c ≠ ofN l) = false := by simp [h]
      rw [e1, Bool.false_and, if_pos (decide_eq_true h)]
      exact fnd_N all l L
    · have e1 : decide (ofN c ≠ ofN l) = true := by simp [h]
      rw [e1, Bool.true_and, if_neg (by rw [decide_eq_false h]; simp)]
      cases allN l c all
      · exact fnd_N all l L
      · rfl
theorem hulR_N (L : List Nt) (fs : Nt) : ∀ (f : Nat) (O : List Nt) (l : Nt), hulR (L.map ofN) (ofN fs) f (O.map ofN) (ofN l) = (hulRN L fs f O l).map (List.map ofN)
  | 0, _, _ => rfl
  | f + 1, O, l => by
    have e : nxR (L.map ofN) (ofN l) = ofN (fndN L l L) := fnd_N L l L
    rw [hulR, hulRN, e, Qmy, QfL, QmX]
    by_cases h : ofN (fndN L l L) = ofN fs
    · rw [if_pos h, if_pos (decide_eq_true h)]; rfl
    · rw [if_neg h, if_neg (by rw [decide_eq_false h]; simp), ← hulR_N L fs f, List.map_append]; rfl
theorem lt_N (p q : Nt) : ltQ (ofN p) (ofN q) = ltN p q := by
  unfold ltQ ltN ofN
  rw [Qrz, Qrz, beq_eq]
  show _ = (decide (p.2 < q.2) || (decide (p.2 = q.2) && decide (p.1 < q.1)))
  dsimp only
  rw [show decide ((p.2 : Int) < (q.2 : Int)) = decide (p.2 < q.2) from decide_eq_decide.2 (by omega), show decide ((p.2 : Int) = (q.2 : Int)) = decide (p.2 = q.2) from decide_eq_decide.2 (by omega), show decide ((p.1 : Int) < (q.1 : Int)) = decide (p.1 < q.1) from decide_eq_decide.2 (by omega)]
theorem Qrm (l : List Pt) : ∀ i, i ≤ l.length → mnR l i = (l.take i).foldl (fun p q => if ltQ q p = true then q else p) (l.getD 0 default)
  | 0, h => rfl
  | i + 1, h => by
    have e : l.take (i + 1) = l.take i ++ [l.getD i default] := by
      rw [List.take_add_one, List.getD_eq_getElem?_getD, List.getElem?_eq_getElem (show i < l.length by omega)]; rfl
    rw [mnR, e, List.foldl_append, ← Qrm l i (by omega)]; rfl
theorem mn_N : ∀ (L : List Nt) (p : Nt), (L.map ofN).foldl (fun p q => if ltQ q p = true then q else p) (ofN p) = ofN (mnN L p)
  | [], p => rfl
  | q :: L, p => by
    have e : mnN (q :: L) p = mnN L (iteB (ltN q p) q p) := rfl
    rw [List.map_cons, List.foldl_cons, lt_N, e, ← mn_N L, QfL]
    cases ltN q p <;> rfl
theorem to_of {p : Pt} (h : -100 ≤ p.1 ∧ -100 ≤ p.2) : ofN (toN p) = mvP 100 100 p := by
  unfold ofN toN mvP
  refine Prod.ext ?_ ?_ <;> dsimp only <;> omega
theorem bk_of (n : Nt) : mvP 100 100 (bkN n) = ofN n := by
  unfold mvP bkN ofN
  refine Prod.ext ?_ ?_ <;> dsimp only <;> omega
theorem Qmf {x y : Int} : ∀ {l m : List Pt}, l.map (mvP x y) = m.map (mvP x y) → l = m
  | [], [], _ => rfl
  | [], _ :: _, h => by simp at h
  | _ :: _, [], h => by simp at h
  | p :: l, q :: m, h => by
    rw [List.map_cons, List.map_cons, List.cons.injEq] at h
    rw [(Qk4 x y p q).1 h.1, Qmf h.2]
theorem hul_of {a b : List Pt} (h : hulB a b = true) : ∃ x, Hul a b x := by
  unfold hulB at h
  rw [frcM_eq, Qmy] at h
  split at h
  · rename_i x y h1 h2
    simp only [Bool.and_eq_true, decide_eq_true_eq, Nat.ble_eq, Bool.not_eq_true'] at h
    obtain ⟨⟨⟨⟨⟨⟨rfl, h3⟩, h4⟩, h6⟩, h5⟩, h7⟩, h8⟩ := h
    have hne : 0 < (suA a b).length := by
      cases e : suA a b with
      | nil => rw [e] at h8; simp at h8
      | cons p l => simp
    have eL : ((suA a b).map toN).map ofN = (suA a b).map (mvP 100 100) := by
      rw [List.map_map]
      refine List.map_congr_left fun p hp => ?_
      have := List.all_eq_true.1 h7 p hp
      simp only [Bool.and_eq_true, decide_eq_true_eq] at this
      exact to_of this
    have em : ofN (mnN ((suA a b).map toN) (((suA a b).map toN).headD (0, 0))) = mvP 100 100 (mnF (suA a b) ((suA a b).length - 1)) := by
      have e1 := mnR_F ((suA a b).map (mvP 100 100)) ((suA a b).length - 1)
      rw [Nat.sub_add_cancel hne, mnF_mv _ _ _ _ (by omega)] at e1
      rw [← e1, ← mn_N, eL, Qrm _ _ (by simp), List.take_of_length_le (by simp)]
      congr 1
      rw [← eL]
      cases e : (suA a b).map toN with
      | nil => rw [← List.length_map toN, e] at hne; simp at hne
      | cons p l => rfl
    have hc := hulC_N ((suA a b).map toN) (mnN ((suA a b).map toN) (((suA a b).map toN).headD (0, 0))) 17 [mnN ((suA a b).map toN) (((suA a b).map toN).headD (0, 0))] (mnN ((suA a b).map toN) (((suA a b).map toN).headD (0, 0)))
    have hr := hulR_N ((suA a b).map toN) (mnN ((suA a b).map toN) (((suA a b).map toN).headD (0, 0))) 17 [mnN ((suA a b).map toN) (((suA a b).map toN).headD (0, 0))] (mnN ((suA a b).map toN) (((suA a b).map toN).headD (0, 0)))
    rw [h1] at hc
    rw [h2] at hr
    rw [List.map_singleton, em, eL] at hc hr
    have mc := QpW 100 100 (suA a b) (mnF (suA a b) ((suA a b).length - 1)) 17 [mnF (suA a b) ((suA a b).length - 1)] (mnF (suA a b) ((suA a b).length - 1))
    have mr := Qpe 100 100 (suA a b) (mnF (suA a b) ((suA a b).length - 1)) 17 [mnF (suA a b) ((suA a b).length - 1)] (mnF (suA a b) ((suA a b).length - 1))
    rw [List.map_singleton, hc] at mc
    rw [List.map_singleton, hr] at mr
    have ex : x.map ofN = (x.map bkN).map (mvP 100 100) := by
      rw [List.map_map]
      exact List.map_congr_left fun n _ => (bk_of n).symm
    rw [Option.map_some, ex] at mc mr
    have key : ∀ o : Option (List Pt), some ((x.map bkN).map (mvP 100 100)) = o.map (List.map (mvP 100 100)) → o = some (x.map bkN) := by
      intro o ho
      cases o with
      | none => cases ho
      | some z =>
        rw [Option.map_some, Option.some.injEq] at ho
        rw [Qmf ho]
    unfold edgB at h5
    rw [Bool.and_eq_true, List.all_eq_true, List.all_eq_true] at h5
    rw [List.length_map] at h6
    refine ⟨x.map bkN, key _ mc, key _ mr, by rw [List.length_map]; exact h3, by rw [List.length_map]; exact h4, fun d hd => ?_, fun i hi => ?_, by rw [List.length_map]; exact h6⟩
    · obtain ⟨i, hi, e⟩ := List.any_eq_true.1 (h5.1 d hd)
      exact ⟨i, List.mem_range.1 hi, e⟩
    · obtain ⟨d, hd, e⟩ := List.any_eq_true.1 (h5.2 i (List.mem_range.2 hi))
      exact ⟨d, hd, e⟩
  · cases h
end Go.AM

