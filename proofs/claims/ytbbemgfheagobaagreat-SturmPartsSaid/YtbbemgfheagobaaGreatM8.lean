/- Part 8 of the proof: a small machine, its soundness against the model, and what the program's functions compute on it. -/
import Derived.Test.YtbbemgfheagobaaGreatM7
import Derived.Test.YtbbemgfheagobaaGreatM6
import Derived.Test.YtbbemgfheagobaaGreatM5
set_option linter.unusedVariables false
set_option linter.unusedSimpArgs false
/- poly.Div. -/
namespace Go.AM
open Go Go.RowKit

def dvI (R q : List Rat) (k : Nat) (f : Rat) : Nat → List Rat
 | 0 => R
 | i + 1 => (dvI R q k f i).set (k + i) ((dvI R q k f i).getD (k + i) 0 - f * q.getD i 0)
theorem Qg1 (R q : List Rat) (k : Nat) (f : Rat) : ∀ i, (dvI R q k f i).length = R.length
 | 0 => rfl
 | i + 1 => by rw [dvI, List.length_set, Qg1 R q k f i]
theorem QoB {l : List Rat} {i j : Nat} {x : Rat} (hi : i < l.length) : (l.set i x).getD j 0 = if j = i then x else l.getD j 0 := by
 rw [List.getD_eq_getElem?_getD, List.getElem?_set]
 by_cases h : i = j
 ·subst h; rw [if_pos rfl, if_pos hi, if_pos rfl]; rfl
 ·rw [if_neg h, if_neg (fun h' => h h'.symm), ← List.getD_eq_getElem?_getD]
theorem QiX {R q : List Rat} {k : Nat} {f : Rat} : ∀ i, k + i ≤ R.length → ∀ t, (dvI R q k f i).getD t 0 = if k ≤ t ∧ t < k + i then R.getD t 0 - f * q.getD (t - k) 0 else R.getD t 0
 | 0, _, t => by rw [if_neg (by omega)]; rfl
 | i + 1, h, t => by
  rw [dvI, QoB (by rw [Qg1]; omega), QiX i (by omega), QiX i (by omega)]
  by_cases h1 : t = k + i
  ·subst h1
   rw [if_pos rfl, if_neg (by omega), if_pos (by omega), Nat.add_sub_cancel_left]
  ·rw [if_neg h1]
   by_cases h2 : k ≤ t ∧ t < k + i
   ·rw [if_pos h2, if_pos (by omega)]
   ·rw [if_neg h2, if_neg (by omega)]
def dvF (R q : List Rat) (k : Nat) : Rat := R.getD (k + q.length - 1) 0 / q.getD (q.length - 1) 0
def dvO (q : List Rat) : Nat → List Rat → List Rat → List Rat × List Rat
 | 0, R, O => (R, O)
 | k + 1, R, O => dvO q k (dvI R q k (dvF R q k) q.length) (O.set k (dvF R q k))
def dvG (K : Nat) (q : List Rat) : Nat → List Rat → Prop
 | 0, R => True
 | k + 1, R => SzL K R ∧ dvG K q k (dvI R q k (dvF R q k) q.length)
def dvN (p q : List Rat) : Nat := p.length + 1 - q.length
def quoP (p q : List Rat) : List Rat := if q = [] then [] else QaS (dvO q (dvN p q) p (List.replicate (dvN p q) 0)).2
def remP (p q : List Rat) : List Rat := if q = [] then [] else QaS (dvO q (dvN p q) p (List.replicate (dvN p q) 0)).1
theorem QmF (q : List Rat) : ∀ (m : Nat) (R O : List Rat), (dvO q m R O).1.length = R.length ∧ (dvO q m R O).2.length = O.length
 | 0, R, O => ⟨rfl, rfl⟩
 | k + 1, R, O => by
  have ih := QmF q k (dvI R q k (dvF R q k) q.length) (O.set k (dvF R q k))
  rw [dvO]
  exact ⟨by rw [ih.1, Qg1], by rw [ih.2, List.length_set]⟩
theorem dvI_szl {R q : List Rat} {k : Nat} {f : Rat} {K : Nat} (hR : SzL K R) (hq : SzL K q) (hf : sz f ≤ 2 * K) (h1 : 1 ≤ K) (i : Nat) (hi : k + i ≤ R.length) : SzL (4 * K + 1) (dvI R q k f i) := by
 intro x hx
 obtain ⟨t, ht, rfl⟩ := List.mem_iff_getElem.1 hx
 have e : (dvI R q k f i)[t] = (dvI R q k f i).getD t 0 := by
  rw [List.getD_eq_getElem?_getD, List.getElem?_eq_getElem ht]; rfl
 rw [e, QiX i hi]
 have a1 := hR.getD h1 t
 split
 ·have a2 := hq.getD h1 (t - k)
  have a3 := Qmg (a := f) (b := q.getD (t - k) 0)
  have a4 := sz_sub (a := R.getD t 0) (b := f * q.getD (t - k) 0)
  omega
 ·omega

def Qi9 (dq : D) (R O : List Rat) (k : Int) (n m : Nat) : St := mkS [(1, .d dq), (6, .own [16] n), (7, .own [24] m), (8, ai k)] [([16], arrR n R), ([24], arrR m O)]
def Qp4 (dq : D) (R O : List Rat) (k i : Int) (f : Rat) (n m lq : Nat) : St := mkS [(1, .d dq), (6, .own [16] n), (7, .own [24] m), (8, ai k), (9, .ptr [9] 0), (53, .d dq), (54, ai lq), (55, ai i)] [([9], boxR f), ([16], arrR n R), ([24], arrR m O)]
def Qm8 (R O : List Rat) (n m : Nat) : St := mkS [(6, .own [16] n), (7, .own [24] m)] [([16], arrR n R), ([24], arrR m O)]
theorem st4 (x y z t a b c d : A) : Qab 0 [a, b, c, d] [x, y, z, t] = some [a, b, c, d] := rfl
variable [Its]

section
variable {dq : D} {q : List Rat} {n m : Nat} {K : Nat}
theorem di_go {R O : List Rat} {f : Rat} {k i : Nat} (hq : RwR dq q) (hR : R.length = n) (hO : O.length = m) (hn : n ≤ 1000000000) (hi : i < q.length) (hk : k + q.length ≤ n) (sq : SzL K q) (sR : SzL K R) (sf : sz f ≤ K) (hK1 : 1 ≤ K) (hK : K ≤ 10000000000) :
    X G Qea (Qp4 dq R O k i f n m q.length) = some (.n, Qp4 dq (R.set (k + i) (R.getD (k + i) 0 - f * q.getD i 0)) O k ((i + 1 : Nat) : Int) f n m q.length) := by
  have e1 : decide ((i : Int) < (q.length : Int)) = true := lt_t (by omega)
  obtain ⟨t, ht⟩ : ∃ t : Int, t = ((k + i : Nat) : Int) := ⟨_, rfl⟩
  have e2 : w64 ((k : Int) + (i : Int)) = t := by rw [Qaf (by omega) (by omega)]; omega
  have e3 : w64 ((i : Int) + 1) = ((i + 1 : Nat) : Int) := by rw [Qaf (by omega) (by omega)]; rfl
  have c1 : ((0 : Int) ≤ t) = True := eq_true (by omega)
  have c2 : (t < (n : Int)) = True := eq_true (by omega)
  have c3 : t.toNat = k + i := by omega
  have x1 := hq.ixa hi
  have y1 := fun h => ldR h q hi
  have s1 := sq.getD hK1 i
  have s2 := sR.getD hK1 (k + i)
  have g1 := QdA (a := f) (b := q.getD i 0) (by omega) (by omega)
  have k1 := Qmg (a := f) (b := q.getD i 0)
  have g2 := Qo5 (a := R.getD (k + i) 0) (b := f * q.getD i 0) (by omega) (by omega)
  have l1 := ld_cA (l := R) (j := k + i) (by omega)
  have t1 := st_cA (l := R) (j := k + i) (by omega) (R.getD (k + i) 0 - f * q.getD i 0)
  clear s1 s2 k1 sq sR ht
  generalize R.getD (k + i) 0 - f * q.getD i 0 = r at *
  generalize f * q.getD i 0 = p at *
  generalize R.getD (k + i) 0 = u at *
  generalize q.getD i 0 = v at *
  generalize cRs (q.drop i) = cs at *
  simp only [encR] at g1 g2 y1
  simp -implicitDefEqProofs (maxSteps:=9^8) only [Qea, Qp4, boxR, QbX, allD, ld4, st4, l1, t1, x1, y1, c1, c2, c3, e1, e2, e3, g1, g2, go_sem, iv, bv, and_self, reduceCtorEq, ↓reduceIte, Nat.reduceEqDiff]
theorem di_stop {R O : List Rat} {f : Rat} {k : Int} : X G Qea (Qp4 dq R O k (q.length : Nat) f n m q.length) = some (.x 2, Qi9 dq R O k n m) := by
 have e1 : decide ((q.length : Int) < (q.length : Int)) = false := lt_f (by omega)
 simp -implicitDefEqProofs (maxSteps:=9^8) only [Qea, Qp4, Qi9, boxR, QbX, e1, go_sem, iv, bv, reduceCtorEq, ↓reduceIte, Nat.reduceEqDiff]
theorem di_loop {R O : List Rat} {f : Rat} {k : Nat} (hq : RwR dq q) (hR : R.length = n) (hO : O.length = m) (hn : n ≤ 1000000000) (hk : k + q.length ≤ n) (sq : SzL K q) (sR : SzL K R) (sf : sz f ≤ 2 * K) (hK1 : 1 ≤ K) (hK : K ≤ 1000000000) : ∀ j i : Nat, i + j = q.length →
    X G (.loop Qea) (Qp4 dq (dvI R q k f i) O k i f n m q.length) = some (.x 2, Qi9 dq (dvI R q k f q.length) O k n m)
  | 0, i, h => by
    have : i = q.length := by omega
    subst this
    rw [Qak, di_stop]; rfl
  | j + 1, i, h => by
    have hs := dvI_szl (k := k) sR sq sf hK1 i (by omega)
    rw [Qak, di_go (K := 4 * K + 1) hq (by rw [Qg1, hR]) hO hn (by omega) hk (sq.mono (by omega)) hs (by omega) (by omega) (by omega), Option.bind_some, if_pos rfl]
    exact di_loop hq hR hO hn hk sq sR sf hK1 hK j (i + 1) (by omega)
theorem dv_go {R O : List Rat} {k : Nat} (hq : RwR dq q) (hq0 : 0 < q.length) (hR : R.length = n) (hO : O.length = m) (hn : n ≤ 1000000000) (hk : k + q.length ≤ n) (hm : k < m) (sq : SzL K q) (sR : SzL K R) (hK1 : 1 ≤ K) (hK : K ≤ 1000000000) :
    X G Qch (Qi9 dq R O k n m) = some (.n, Qi9 dq (dvI R q k (dvF R q k) q.length) (O.set k (dvF R q k)) ((k : Int) - 1) n m) := by
  have e1 : decide ((k : Int) ≥ 0) = true := decide_eq_true (by omega)
  obtain ⟨z, hz⟩ : ∃ z, (k : Int) + (q.length : Int) = z := ⟨_, rfl⟩
  obtain ⟨t, ht⟩ : ∃ t, z - 1 = t := ⟨_, rfl⟩
  have e2 : w64 ((k : Int) + (q.length : Int)) = z := by rw [Qaf (by omega) (by omega), hz]
  have e3 : w64 (z - 1) = t := by rw [Qaf (by omega) (by omega), ht]
  have e4 : w64 ((q.length : Int) - 1) = ((q.length - 1 : Nat) : Int) := by rw [Qaf (by omega) (by omega)]; omega
  have e5 : w64 ((k : Int) - 1) = (k : Int) - 1 := Qaf (by omega) (by omega)
  have c1 : ((0 : Int) ≤ t) = True := eq_true (by omega)
  have c2 : (t < (n : Int)) = True := eq_true (by omega)
  have c3 : t.toNat = k + q.length - 1 := by omega
  have c4 : ((0 : Int) ≤ (k : Int)) = True := eq_true (by omega)
  have c5 : ((k : Int) < (m : Int)) = True := eq_true (by omega)
  have hqi : q.length - 1 < q.length := by omega
  have x1 := hq.ixa hqi
  have y1 := fun h => ldR h q hqi
  have lq := hq.len
  have l1 := ld_cA (l := R) (j := k + q.length - 1) (by omega)
  have s1 := sq.getD hK1 (q.length - 1)
  have s2 := sR.getD hK1 (k + q.length - 1)
  have g1 := Qis (a := R.getD (k + q.length - 1) 0) (b := q.getD (q.length - 1) 0) (by omega) (by omega)
  have sf := sz_div (a := R.getD (k + q.length - 1) 0) (b := q.getD (q.length - 1) 0)
  have hf : R.getD (k + q.length - 1) 0 / q.getD (q.length - 1) 0 = dvF R q k := rfl
  rw [hf] at g1 sf
  have t1 := st_cA (l := O) (j := k) (by omega) (dvF R q k)
  have hl := di_loop (O := O.set k (dvF R q k)) (f := dvF R q k) (k := k) hq hR (by rw [List.length_set, hO]) hn hk sq sR (by omega) hK1 hK q.length 0 (by omega)
  have d0 : dvI R q k (dvF R q k) 0 = R := rfl
  rw [d0] at hl
  clear s1 s2 sf sq sR hf d0 hz ht
  generalize dvI R q k (dvF R q k) q.length = R2 at *
  generalize dvF R q k = f at *
  generalize R.getD (k + q.length - 1) 0 = u at *
  generalize q.getD (q.length - 1) 0 = v at *
  generalize cRs (q.drop (q.length - 1)) = cs at *
  simp only [encR] at g1 y1
  simp only [Qp4, Qi9, boxR, go_sem, nc0] at hl
  simp -implicitDefEqProofs (maxSteps:=9^8) only [Qch, Qi9, boxR, QbX, allD, Int.toNat_natCast, ld4, st4, lq, l1, t1, x1, y1, c1, c2, c3, c4, c5, e1, e2, e3, e4, e5, g1, hl, go_sem, iv, bv, and_self, reduceCtorEq, ↓reduceIte, Nat.reduceEqDiff]
theorem Qpd {R O : List Rat} {k : Int} (hk : k < 0) : X G Qch (Qi9 dq R O k n m) = some (.x 0, Qm8 R O n m) := by
 have e1 : decide (k ≥ 0) = false := decide_eq_false (by omega)
 simp -implicitDefEqProofs (maxSteps:=9^8) only [Qch, Qi9, Qm8, QbX, e1, go_sem, iv, bv, reduceCtorEq, ↓reduceIte, Nat.reduceEqDiff]
theorem dv_loop (hq : RwR dq q) (hq0 : 0 < q.length) (hn : n ≤ 1000000000) (sq : SzL K q) (hK1 : 1 ≤ K) (hK : K ≤ 1000000000) : ∀ (j : Nat) (R O : List Rat), R.length = n → O.length = m → j ≤ m → (0 < j → j - 1 + q.length ≤ n) → dvG K q j R →
    X G (.loop Qch) (Qi9 dq R O ((j : Int) - 1) n m) = some (.x 0, Qm8 (dvO q j R O).1 (dvO q j R O).2 n m)
  | 0, R, O, hR, hO, _, _, _ => by
    rw [Qak, Qpd (by omega)]; rfl
  | k + 1, R, O, hR, hO, hm, hj, hg => by
    rw [show ((k + 1 : Nat) : Int) - 1 = (k : Int) by omega]
    have hj' := hj (by omega)
    rw [Qak, dv_go hq hq0 hR hO hn (by omega) (by omega) sq hg.1 hK1 hK, Option.bind_some, if_pos rfl]
    have ih := dv_loop hq hq0 hn sq hK1 hK k (dvI R q k (dvF R q k) q.length) (O.set k (dvF R q k)) (by rw [Qg1, hR]) (by rw [List.length_set, hO]) (by omega) (fun _ => by omega) hg.2
    rw [dvO]
    exact ih
theorem Qe6        {dp : D} {p : List Rat} (hp : RwR dp p) (hq : RwR dq q) (hn : p.length ≤ 1000000000) (hn2 : q.length ≤ 1000000000) (sq : SzL K q) (hK1 : 1 ≤ K) (hK : K ≤ 1000000000) (hg : dvG K q (dvN p q) p) :
    ∃ d1 d2, RwR d1 (quoP p q) ∧ RwR d2 (remP p q) ∧ Qaj G QcF [dp, dq] = some (.d (.tup [d1, d2])) := by
  rw [Qad (cf := QhR) rfl]
  have lp := hp.len
  have lq := hq.len
  by_cases hq0 : q.length = 0
  · have hqn : q = [] := List.eq_nil_of_length_eq_zero hq0
    subst hqn
    refine ⟨.z true, .z true, RwR.nil, RwR.nil, ?_⟩
    have e1 : (((([] : List Rat).length : Nat) : Int) == 0) = true := rfl
    have e1' : ((0 : Int) == 0) = true := rfl
    simp -implicitDefEqProofs (maxSteps:=9^8) only [QhR, toDs, e1, e1', lq, go_sem, iv, bv, reduceCtorEq, ↓reduceIte, Nat.reduceEqDiff]
  · have hqn : q ≠ [] := fun h => hq0 (by rw [h]; rfl)
    unfold quoP remP
    rw [if_neg hqn, if_neg hqn]
    have e1 : ((q.length : Int) == 0) = false := Qcy (by omega)
    obtain ⟨z, hz⟩ : ∃ z, (p.length : Int) - (q.length : Int) = z := ⟨_, rfl⟩
    have e2 : w64 ((p.length : Int) - (q.length : Int)) = z := by rw [Qaf (by omega) (by omega), hz]
    obtain ⟨z1, hz1⟩ : ∃ z1, z + 1 = z1 := ⟨_, rfl⟩
    have e3 : w64 (z + 1) = z1 := by rw [Qaf (by omega) (by omega), hz1]
    have e4 : (if z1 > (0 : Int) then z1 else (0 : Int)) = ((dvN p q : Nat) : Int) := by unfold dvN; split <;> omega
    have c1 : ((0 : Int) ≤ ((dvN p q : Nat) : Int)) = True := eq_true (by omega)
    have hN : dvN p q ≤ 1000000000 := by unfold dvN; omega
    have c2 : (((dvN p q : Nat) : Int) * ((64 : Nat) : Int) ≤ (bound : Int)) = True := eq_true (by have : (bound : Int) = 140737488351232 := rfl; omega)
    have r0 := QpZ (dvN p q)
    have m0 := Qpc (List.replicate (dvN p q) (0 : Rat))
    have hO : (List.replicate (dvN p q) (0 : Rat)).length = dvN p q := List.length_replicate
    rcases hp with ⟨rfl, rfl⟩ | rfl
    · have hN0 : dvN [] q = 0 := by unfold dvN; simp; omega
      rw [hN0]
      obtain ⟨d1, hr1, gT1⟩ := Qht (RwR.row []) (by decide)
      obtain ⟨d2, hr2, gT2⟩ := Qht RwR.nil (by decide)
      refine ⟨d1, d2, hr1, hr2, ?_⟩
      have gC := QnN
      have e5 : decide (z ≥ 0) = false := decide_eq_false (by simp at hz; omega)
      have h0 : (z1 > (0 : Int)) = False := eq_false (by simp at hz; omega)
      have hl : X G (.loop Qch) ⟨frL [(1, .d dq), (6, .d (.z true)), (7, .own [24] 0), (8, ai z)], Qbx (hupd hp0 [24] ⟨4, 0, [], false⟩) [16] none, []⟩ = some (.x 0, ⟨frL [(6, .d (.z true)), (7, .own [24] 0)], Qbx (hupd hp0 [24] ⟨4, 0, [], false⟩) [16] none, []⟩) := by
        rw [Qak]
        simp -implicitDefEqProofs (maxSteps:=9^8) only [Qch, e5, go_sem, iv, bv, reduceCtorEq, ↓reduceIte, Nat.reduceEqDiff]
      have b0 : ((0 : Int) * ((64 : Nat) : Int) ≤ (bound : Int)) = True := eq_true (by decide)
      have rz : ∀ zs, rep 0 zs = [] := fun _ => rfl
      have t0 : (0 : Int).toNat = 0 := rfl
      clear e4 c1 c2 r0 m0 hO
      simp only [rowR, cRs, List.length_nil] at gT1
      simp only [List.length_nil] at e2 lp
      have e2' : w64 (0 - (q.length : Int)) = z := e2
      simp only [go_sem] at hl
      simp -implicitDefEqProofs (maxSteps:=9^8) only [QhR, Qhb, toDs, Qey, mxV, h0, rz, t0, b0, allD, List.map_nil, Int.le_refl, hl, gT1, gT2, gC, lp, lq, e1, e2', e3, true_and, and_self, go_sem, iv, bv, reduceCtorEq, ↓reduceIte, Nat.reduceEqDiff]
    · have hl := dv_loop (m := dvN p q) hq (by omega) hn sq hK1 hK (dvN p q) p (List.replicate (dvN p q) 0) rfl hO (Nat.le_refl _) (fun _ => by unfold dvN; omega) hg
      obtain ⟨dl1, dl2⟩ := QmF q (dvN p q) p (List.replicate (dvN p q) 0)
      rw [hO] at dl2
      have gC := Qn1 (l := p) (by omega)
      unfold clR at gC
      simp only [Bool.false_eq_true, ↓reduceIte] at gC
      have m1 := Qpc p
      obtain ⟨d1, hr1, gT1⟩ := Qht (RwR.row (dvO q (dvN p q) p (List.replicate (dvN p q) 0)).2) (by omega)
      obtain ⟨d2, hr2, gT2⟩ := Qht (RwR.row (dvO q (dvN p q) p (List.replicate (dvN p q) 0)).1) (by omega)
      refine ⟨d1, d2, hr1, hr2, ?_⟩
      rw [rowR, dl2] at gT1
      rw [rowR, dl1] at gT2
      clear hr1 hr2 dl1 dl2 hg hO
      generalize (dvO q (dvN p q) p (List.replicate (dvN p q) 0)).1 = R at *
      generalize (dvO q (dvN p q) p (List.replicate (dvN p q) 0)).2 = O at *
      by_cases hz0 : z ≥ 0
      · have ek : ((dvN p q : Nat) : Int) - 1 = z := by unfold dvN; omega
        rw [ek] at hl
        unfold rowR at *
        simp only [Qi9, Qm8, go_sem] at hl
        simp -implicitDefEqProofs (maxSteps:=9^8) only [QhR, Qhb, toDs, Qey, mxV, r0, m0, m1, Int.toNat_natCast, hl, gT1, gT2, gC, lp, lq, e1, e2, e3, e4, c1, c2, QlD, QbX, Qac, true_and, and_self, go_sem, iv, bv, reduceCtorEq, ↓reduceIte, Nat.reduceEqDiff]
      · have hN0 : dvN p q = 0 := by unfold dvN; omega
        have hst : X G (.loop Qch) (Qi9 dq p (List.replicate (dvN p q) 0) z p.length (dvN p q)) = some (.x 0, Qm8 p (List.replicate (dvN p q) 0) p.length (dvN p q)) := by
          rw [Qak, Qpd (by omega)]; rfl
        have hst2 : X G (.loop Qch) (Qi9 dq p (List.replicate (dvN p q) 0) (((dvN p q : Nat) : Int) - 1) p.length (dvN p q)) = some (.x 0, Qm8 p (List.replicate (dvN p q) 0) p.length (dvN p q)) := by
          rw [Qak, Qpd (by omega)]; rfl
        rw [hst2] at hl
        have hl' : Qm8 p (List.replicate (dvN p q) 0) p.length (dvN p q) = Qm8 R O p.length (dvN p q) := by
          simpa using hl
        rw [hl'] at hst
        clear hl hl' hst2
        unfold rowR at *
        simp only [Qi9, Qm8, go_sem] at hst
        simp -implicitDefEqProofs (maxSteps:=9^8) only [QhR, Qhb, toDs, Qey, mxV, r0, m0, m1, Int.toNat_natCast, hst, gT1, gT2, gC, lp, lq, e1, e2, e3, e4, c1, c2, QlD, QbX, Qac, true_and, and_self, go_sem, iv, bv, reduceCtorEq, ↓reduceIte, Nat.reduceEqDiff]
end
end Go.AM

/- poly.monic, Gcd, Free; closed inputs. -/
namespace Go.AM
open Go Go.RowKit

def mnP (l : List Rat) : List Rat := if l = [] then [] else scP l (1 / l.getD (l.length - 1) 0)
theorem QeU (l : List Rat) : (mnP l).length ≤ l.length := by
 unfold mnP; split
 ·simp
 ·exact len_sc _ _
theorem Qfg (l : List Rat) : Trm (mnP l) := by
 unfold mnP; split
 ·exact Qg3
 ·exact trm_sc _ _
theorem QkK (p q : List Rat) : (remP p q).length ≤ p.length := by
 unfold remP; split
 ·simp
 ·have := Qcs (dvO q (dvN p q) p (List.replicate (dvN p q) 0)).1
  rw [(QmF q _ _ _).1] at this
  exact this
theorem QkB (p q : List Rat) : (quoP p q).length ≤ dvN p q := by
 unfold quoP; split
 ·simp
 ·have := Qcs (dvO q (dvN p q) p (List.replicate (dvN p q) 0)).2
  rw [(QmF q _ _ _).2, List.length_replicate] at this
  exact this
def gcP : Nat → List Rat → List Rat → List Rat
 | 0, a, _ => a
 | n + 1, a, b => if b = [] then a else gcP n b (mnP (remP a b))
def gcdP (p q : List Rat) : List Rat := gcP (q.length + 1) (mnP p) (mnP q)
def frP (p : List Rat) : List Rat := mnP (quoP p (gcdP p (deP p)))
def gcG (K : Nat) : Nat → List Rat → List Rat → Prop
 | 0, _, b => b = []
 | n + 1, a, b => b = [] ∨ (SzL K b ∧ dvG K b (dvN a b) a ∧ SzL K (remP a b) ∧ gcG K n b (mnP (remP a b)))

/-! ### QaJ inputs: all of them of one digit -/
def sm1 (q : Rat) : Bool := decide (q.num.natAbs < 1000000000) && decide (q.den < 1000000000)
def smL (l : List Rat) : Bool := l.all sm1
theorem QbR {l : List Rat} (h : smL l = true) : SzL 1 l := fun q hq => by
 have h1 := List.all_eq_true.1 h q hq
 simp only [sm1, Bool.and_eq_true, decide_eq_true_eq] at h1
 exact sz_le (QlS (k := 1) (by rw [Nat.pow_one]; exact h1.1)) (QlS (k := 1) (by rw [Nat.pow_one, Int.natAbs_natCast]; exact h1.2))
def dvB (q : List Rat) : Nat → List Rat → Bool
 | 0, _ => true
 | k + 1, R => smL R && dvB q k (dvI R q k (dvF R q k) q.length)
theorem Qkf {q : List Rat} : ∀ {m : Nat} {R : List Rat}, dvB q m R = true → dvG 1 q m R
 | 0, _, _ => trivial
 | k + 1, R, h => by
  simp only [dvB, Bool.and_eq_true] at h
  exact ⟨QbR h.1, Qkf h.2⟩
def gcB : Nat → List Rat → List Rat → Bool
 | 0, _, b => decide (b = [])
 | n + 1, a, b => decide (b = []) || (smL b && dvB b (dvN a b) a && smL (remP a b) && gcB n b (mnP (remP a b)))
theorem QoT : ∀ {n : Nat} {a b : List Rat}, gcB n a b = true → gcG 1 n a b
 | 0, _, b, h => by
  have h' : decide (b = []) = true := h
  show b = []
  exact of_decide_eq_true h'
 | n + 1, a, b, h => by
  simp only [gcB, Bool.or_eq_true, Bool.and_eq_true, decide_eq_true_eq] at h
  rcases h with h | h
  ·exact .inl h
  ·exact .inr ⟨QbR h.1.1.1, Qkf h.1.1.2, QbR h.1.2, QoT h.2⟩
variable [Its]

theorem Qr7 : Qaj G QfR [iv 1, iv 1] = some (.d (encR 1)) := by
 have g := Qe7 (n := 1) (d := 1) ⟨by omega, by omega⟩ ⟨by omega, by omega⟩
 have e : Rat.divInt 1 1 = 1 := Qc3 1
 rw [e] at g; exact g
theorem QhI {d : D} {l : List Rat} (hr : RwR d l) (hn : l.length ≤ 1000000000) {K : Nat} (sl : SzL K l) (hK1 : 1 ≤ K) (hK : K ≤ 1000000000) : ∃ d', RwR d' (mnP l) ∧ Qaj G QeG [d] = some (.d d') := by
 rw [Qad (cf := QhZ) rfl]
 have ll := hr.len
 by_cases h0 : l.length = 0
 ·have : l = [] := List.eq_nil_of_length_eq_zero h0
  subst this
  refine ⟨.z true, .inl ⟨rfl, rfl⟩, ?_⟩
  have e1 : ((0 : Int) == 0) = true := rfl
  simp only [List.length_nil] at ll
  simp -implicitDefEqProofs (maxSteps:=9^8) only [QhZ, ll, e1, go_sem, iv, bv, reduceCtorEq, ↓reduceIte, Nat.reduceEqDiff]
 ·have hne : l ≠ [] := fun h => h0 (by rw [h]; rfl)
  unfold mnP
  rw [if_neg hne]
  have e1 : ((l.length : Int) == 0) = false := Qcy (by omega)
  have e2 : w64 ((l.length : Int) - 1) = ((l.length - 1 : Nat) : Int) := by rw [Qaf (by omega) (by omega)]; omega
  have hl : l.length - 1 < l.length := by omega
  have x1 := hr.ixa hl
  have y1 := fun h => ldR h l hl
  have s1 := sl.getD hK1 (l.length - 1)
  have g1 := Qr7
  have g2 := Qis (a := 1) (b := l.getD (l.length - 1) 0) (by rw [Qo9]; omega) (by omega)
  have s2 := sz_div (a := 1) (b := l.getD (l.length - 1) 0)
  rw [Qo9] at s2
  obtain ⟨d', hr', gS⟩ := Qj9 (a := 1 / l.getD (l.length - 1) 0) hr (K := K + 1) (sl.mono (by omega)) (by omega) (by omega) (by omega) hn
  refine ⟨d', hr', ?_⟩
  clear s1 s2 hr'
  generalize 1 / l.getD (l.length - 1) 0 = r at *
  generalize l.getD (l.length - 1) 0 = u at *
  generalize cRs (l.drop (l.length - 1)) = cs at *
  generalize ((l.length - 1 : Nat) : Int) = z at *
  generalize (1 : Rat) = one at *
  simp only [encR, iv] at g1 g2 y1 gS
  simp -implicitDefEqProofs (maxSteps:=9^8) only [QhZ, ll, x1, y1, e1, e2, g1, g2, gS, go_sem, iv, bv, reduceCtorEq, ↓reduceIte, Nat.reduceEqDiff]

def QpB (da db : D) : St := mkS [(0, .d da), (1, .d db)] []
def gc_en (da : D) : St := mkS [(0, .d da)] []
theorem gc_stop {da db : D} (hb : RwR db []) : X G Qeg (QpB da db) = some (.x 0, gc_en da) := by
 have ll := hb.len
 have e1 : decide ((0 : Int) > 0) = false := rfl
 simp only [List.length_nil] at ll
 simp -implicitDefEqProofs (maxSteps:=9^8) only [Qeg, QpB, gc_en, ll, e1, go_sem, iv, bv, reduceCtorEq, ↓reduceIte, Nat.reduceEqDiff]
theorem gc_go {da db : D} {a b : List Rat} (ha : RwR da a) (hb : RwR db b) (hne : b ≠ []) (na : a.length ≤ 1000000000) (nb : b.length ≤ 1000000000) {K : Nat} (hK1 : 1 ≤ K) (hK : K ≤ 1000000000) (sb : SzL K b) (hg : dvG K b (dvN a b) a) (sr : SzL K (remP a b)) :
    ∃ d', RwR d' (mnP (remP a b)) ∧ X G Qeg (QpB da db) = some (.n, QpB db d') := by
  obtain ⟨d1, d2, h1, h2, gD⟩ := Qe6 ha hb na nb sb hK1 hK hg
  obtain ⟨d3, h3, gM⟩ := QhI h2 (Nat.le_trans (QkK a b) na) sr hK1 hK
  refine ⟨d3, h3, ?_⟩
  have hl : 0 < b.length := List.length_pos_iff.2 hne
  have ll := hb.len
  have e1 : decide ((b.length : Int) > 0) = true := gt_t (by omega)
  simp -implicitDefEqProofs (maxSteps:=9^8) only [Qeg, QpB, ll, e1, gD, gM, go_sem, iv, bv, reduceCtorEq, ↓reduceIte, Nat.reduceEqDiff]
theorem gc_loop {K : Nat} (hK1 : 1 ≤ K) (hK : K ≤ 1000000000) : ∀ (n : Nat) (a b : List Rat) (da db : D), RwR da a → RwR db b → a.length ≤ 1000000000 → b.length ≤ 1000000000 → gcG K n a b → ∃ d', RwR d' (gcP n a b) ∧ X G (.loop Qeg) (QpB da db) = some (.x 0, gc_en d')
 | 0, a, b, da, db, ha, hb, na, nb, hg => by
  have hb' : b = [] := hg
  subst hb'
  exact ⟨da, ha, by rw [Qak, gc_stop hb]; rfl⟩
 | n + 1, a, b, da, db, ha, hb, na, nb, hg => by
  by_cases hb0 : b = []
  ·subst hb0
   rw [gcP, if_pos rfl]
   exact ⟨da, ha, by rw [Qak, gc_stop hb]; rfl⟩
  ·rw [gcP, if_neg hb0]
   rcases hg with hg | ⟨g1, g2, g3, g4⟩
   ·exact absurd hg hb0
   ·obtain ⟨d1, h1, hx⟩ := gc_go ha hb hb0 na nb hK1 hK g1 g2 g3
    obtain ⟨d', h', hl⟩ := gc_loop hK1 hK n b (mnP (remP a b)) db d1 hb h1 nb (Nat.le_trans (QeU _) (Nat.le_trans (QkK a b) na)) g4
    exact ⟨d', h', by rw [Qak, hx, Option.bind_some, if_pos rfl]; exact hl⟩
theorem QjH        {dp dq : D} {p q : List Rat} (hp : RwR dp p) (hq : RwR dq q) (np : p.length ≤ 1000000000) (nq : q.length ≤ 1000000000) {K : Nat} (hK1 : 1 ≤ K) (hK : K ≤ 1000000000) (sp : SzL K p) (sq : SzL K q) (hg : gcG K (q.length + 1) (mnP p) (mnP q)) :
    ∃ d', RwR d' (gcdP p q) ∧ Qaj G Qgq [dp, dq] = some (.d d') := by
  rw [Qad (cf := Qnl) rfl]
  obtain ⟨d1, h1, g1⟩ := QhI hp np sp hK1 hK
  obtain ⟨d2, h2, g2⟩ := QhI hq nq sq hK1 hK
  obtain ⟨d', h', hl⟩ := gc_loop hK1 hK (q.length + 1) (mnP p) (mnP q) d1 d2 h1 h2 (Nat.le_trans (QeU _) np) (Nat.le_trans (QeU _) nq) hg
  refine ⟨d', h', ?_⟩
  simp only [QpB, gc_en, go_sem] at hl
  simp -implicitDefEqProofs (maxSteps:=9^8) only [Qnl, g1, g2, hl, go_sem, iv, bv, reduceCtorEq, ↓reduceIte, Nat.reduceEqDiff]
theorem Qfr         {dp : D} {p : List Rat} (hp : RwR dp p) (np' : p.length < 1000000000) {K : Nat} (hK1 : 1 ≤ K) (hK : K ≤ 1000000000) (sp : SzL K p) (sd : SzL K (deP p)) (hg : gcG K ((deP p).length + 1) (mnP p) (mnP (deP p))) (ng : (gcdP p (deP p)).length ≤ 1000000000) (sg : SzL K (gcdP p (deP p))) (hd : dvG K (gcdP p (deP p)) (dvN p (gcdP p (deP p))) p) (so : SzL K (quoP p (gcdP p (deP p)))) :
    ∃ d', RwR d' (frP p) ∧ Qaj G Qb8 [dp] = some (.d d') := by
  have np : p.length ≤ 1000000000 := by omega
  rw [Qad (cf := Qk7) rfl]
  obtain ⟨d1, h1, g1⟩ := QgL hp sp hK1 (by omega) np
  obtain ⟨d2, h2, g2⟩ := QjH hp h1 np (Nat.le_trans (Qoq p) (by omega)) hK1 hK sp sd hg
  obtain ⟨d3, d4, h3, h4, g3⟩ := Qe6 hp h2 np ng sg hK1 hK hd
  obtain ⟨d', h', g4⟩ := QhI h3 (Nat.le_trans (QkB p _) (by unfold dvN; omega)) so hK1 hK
  refine ⟨d', h', ?_⟩
  simp -implicitDefEqProofs (maxSteps:=9^8) only [Qk7, g1, g2, g3, g4, go_sem, iv, bv, reduceCtorEq, ↓reduceIte, Nat.reduceEqDiff]
end Go.AM

/- ref04.Same at equal numbers. -/
namespace Go.AM
open Go Go.RowKit

def bx2 (b : Bool) (l : List Int) : Obj := ⟨0, 0, [.d (.v (.bool b)), .d (dg l)], false⟩
theorem bself (b : Bool) : (b == b) = true := by cases b <;> rfl
variable [Its]

def Qpn (b : Bool) (l : List Int) (i : Int) : St := mkS [(2, .ptr [2] 0), (3, .ptr [3] 0), (5, ai i)] [([2], bx2 b l), ([3], bx2 b l)]
theorem s4_go {b : Bool} {l : List Int} (hl : l.length ≤ 1000000000000) {i : Nat} (hi : i < l.length) : X G QbH (Qpn b l i) = some (.n, Qpn b l ((i + 1 : Nat) : Int)) := by
 have e1 : decide ((i : Int) < (l.length : Int)) = true := lt_t (by omega)
 have e2 : w64 ((i : Int) + 1) = ((i + 1 : Nat) : Int) := by rw [Qaf (by omega) (by omega)]; rfl
 have x1 := (Rw.dg l).ixn hi
 have x2 := fun h => ldv h l hi
 have e3 : (l.getD i 0 != l.getD i 0) = false := bne_self_eq_false _
 simp -implicitDefEqProofs (maxSteps:=9^8) only [QbH, Qpn, bx2, x1, x2, e1, e2, e3, go_sem, Qab, Qaa, iv, bv, reduceCtorEq, ↓reduceIte, Nat.reduceEqDiff]
theorem s4_stop {b : Bool} {l : List Int} : X G QbH (Qpn b l (l.length : Nat)) = some (.x 0, mkS [] []) := by
 have e1 : decide ((l.length : Int) < (l.length : Int)) = false := lt_f (by omega)
 simp -implicitDefEqProofs (maxSteps:=9^8) only [QbH, Qpn, bx2, e1, go_sem, Qab, Qaa, iv, bv, reduceCtorEq, ↓reduceIte, Nat.reduceEqDiff]
theorem s4_loop {b : Bool} {l : List Int} (hl : l.length ≤ 1000000000000) : ∀ j i : Nat, i + j = l.length → X G (.loop QbH) (Qpn b l i) = some (.x 0, mkS [] [])
 | 0, i, h => by
  have : i = l.length := by omega
  subst this
  rw [Qak, s4_stop]; rfl
 | j + 1, i, h => by
  rw [Qak, s4_go hl (by omega), Option.bind_some, if_pos rfl]
  exact s4_loop hl j (i + 1) (by omega)
theorem s4_refl {b : Bool} {l : List Int} (hl : l.length ≤ 1000000000000) : Qaj G QdN [.agg [.v (.bool b), dg l], .agg [.v (.bool b), dg l]] = some (.d (bv true)) := by
 rw [Qad (cf := QeI) rfl]
 have h := s4_loop (b := b) hl l.length 0 (by omega)
 have e1 : ((l.length : Int) != (l.length : Int)) = false := bne_self_eq_false _
 have e2 := bself b
 simp only [Qpn, bx2, go_sem, nc0] at h
 simp -implicitDefEqProofs (maxSteps:=9^8) only [QeI, h, e1, e2, go_sem, Qab, Qaa, iv, bv, reduceCtorEq, ↓reduceIte, Nat.reduceEqDiff]
end Go.AM

/- Equality: ref04, ref05, ref06.Same, rat.Same at equal numbers. -/
namespace Go.AM
open Go Go.RowKit

variable [Its]
theorem s5_refl {a : Rat} (ha : sz a ≤ 100000000000) : Qaj G QdV [encR a, encR a] = some (.d (bv true)) := by
 rw [Qad (cf := QeR) rfl]
 have h1 : (digs a.num.natAbs).length ≤ 1000000000000 := by have := Qcx ha; unfold nd at this; omega
 have h2 : (dd a.den).length ≤ 1000000000000 := by
  have := QcK ha
  unfold nd at this
  rw [Int.natAbs_natCast] at this
  unfold dd
  split
  ·simp
  ·omega
 have g1 := s4_refl (b := decide (a.num < 0)) h1
 have g2 := s4_refl (b := false) h2
 clear h1 h2 ha
 unfold encR
 generalize digs a.num.natAbs = l1 at *
 generalize dd a.den = l2 at *
 generalize decide (a.num < 0) = b at *
 simp only [bv] at g1 g2
 simp -implicitDefEqProofs (maxSteps:=9^8) only [QeR, g1, g2, go_sem, Qab, Qaa, iv, bv, reduceCtorEq, ↓reduceIte, Nat.reduceEqDiff]
def QpQ (d d' : D) (i : Int) : St := mkS [(0, .d d), (1, .d d'), (5, ai i)] []
theorem s6_go {d d' : D} {l : List Rat} (h1 : RwR d l) (h2 : RwR d' l) (sl : SzL 100000000000 l) (hl : l.length ≤ 1000000000000) {i : Nat} (hi : i < l.length) : X G QbG (QpQ d d' i) = some (.n, QpQ d d' ((i + 1 : Nat) : Int)) := by
 have e1 : decide ((i : Int) < (l.length : Int)) = true := lt_t (by omega)
 have e2 : w64 ((i : Int) + 1) = ((i + 1 : Nat) : Int) := by rw [Qaf (by omega) (by omega)]; rfl
 have ll := h1.len
 have x1 := h1.ixa hi
 have x2 := h2.ixa hi
 have y1 := fun h => ldR h l hi
 have g := s5_refl (a := l.getD i 0) (sl.getD (by omega) i)
 generalize l.getD i 0 = q at *
 generalize cRs (l.drop i) = cs at *
 simp only [encR, bv] at y1 g
 simp -implicitDefEqProofs (maxSteps:=9^8) only [QbG, QpQ, ll, x1, x2, y1, e1, e2, g, go_sem, iv, bv, reduceCtorEq, ↓reduceIte, Nat.reduceEqDiff]
theorem s6_stop {d d' : D} {l : List Rat} (h1 : RwR d l) : X G QbG (QpQ d d' (l.length : Nat)) = some (.x 0, mkS [] []) := by
 have e1 : decide ((l.length : Int) < (l.length : Int)) = false := lt_f (by omega)
 have ll := h1.len
 simp -implicitDefEqProofs (maxSteps:=9^8) only [QbG, QpQ, ll, e1, go_sem, iv, bv, reduceCtorEq, ↓reduceIte, Nat.reduceEqDiff]
theorem s6_loop {d d' : D} {l : List Rat} (h1 : RwR d l) (h2 : RwR d' l) (sl : SzL 100000000000 l) (hl : l.length ≤ 1000000000000) : ∀ j i : Nat, i + j = l.length → X G (.loop QbG) (QpQ d d' i) = some (.x 0, mkS [] [])
 | 0, i, h => by
  have : i = l.length := by omega
  subst this
  rw [Qak, s6_stop h1]; rfl
 | j + 1, i, h => by
  rw [Qak, s6_go h1 h2 sl hl (by omega), Option.bind_some, if_pos rfl]
  exact s6_loop h1 h2 sl hl j (i + 1) (by omega)
theorem s6_refl {d d' : D} {l : List Rat} (h1 : RwR d l) (h2 : RwR d' l) (sl : SzL 100000000000 l) (hl : l.length ≤ 1000000000000) : Qaj G QfE [d, d'] = some (.d (bv true)) := by
 rw [Qad (cf := QeJ) rfl]
 have h := s6_loop h1 h2 sl hl l.length 0 (by omega)
 have e1 : ((l.length : Int) != (l.length : Int)) = false := bne_self_eq_false _
 have ll := h1.len
 have ll2 := h2.len
 simp only [QpQ, go_sem, nc0] at h
 simp -implicitDefEqProofs (maxSteps:=9^8) only [QeJ, h, ll, ll2, e1, go_sem, iv, bv, reduceCtorEq, ↓reduceIte, Nat.reduceEqDiff]
/-! ### rat.Same -/
end Go.AM

/- ref06: Trim, Small, Mul. -/
namespace Go.AM
open Go Go.RowKit

def smR (n : Int) : Rat := Rat.divInt (arnd n 105 % 15 - 7) (1 + arnd n 105 / 15 % 4)
theorem Qn4 (n : Int) : H1 1 1 (smR n) := by
 have b := Qom (n := n) (m := 105) (by omega)
 have hd : 0 < 1 + arnd n 105 / 15 % 4 := by omega
 refine ⟨(1 + arnd n 105 / 15 % 4).natAbs, by omega, ?_, (Hq.div hd).le ?_⟩
 ·rw [Nat.pow_one]; show _ ≤ 1000000000; omega
 ·rw [Nat.pow_one]; show _ ≤ 1000000000; omega
theorem smR_sz (n : Int) : sz (smR n) ≤ 2 := (Qn4 n).sz
theorem evR_set (x c : Rat) : ∀ (l : List Rat) (t : Nat), t < l.length → evR (l.set t (l.getD t 0 + c)) x = evR l x + c * x ^ t
 | [], t, h => by simp at h
 | a :: l, 0, h => by
  show evR l x * x + (a + c) = evR l x * x + a + c * x ^ 0
  rw [Rat.pow_zero]
  generalize evR l x = u; grind
 | a :: l, t + 1, h => by
  have ih := evR_set x c l t (by simpa using h)
  show evR (l.set t (l.getD t 0 + c)) x * x + a = evR l x * x + a + c * x ^ (t + 1)
  rw [ih, Rat.pow_succ]
  generalize evR l x = u; generalize x ^ t = p; grind
theorem Qqy (l : List Rat) (x : Rat) {k : Nat} (h : k < l.length) : evR (l.drop k) x = evR (l.drop (k + 1)) x * x + l.getD k 0 := by
 have e : l.drop k = l.getD k 0 :: l.drop (k + 1) := by
  rw [List.drop_eq_getElem_cons h, List.getD_eq_getElem?_getD, List.getElem?_eq_getElem h]; rfl
 rw [e, Qas]
theorem Qsh (n : Nat) (x : Rat) : evR (List.replicate n 0) x = 0 := Qjh (fun q hq => (List.mem_replicate.1 hq).2) x
theorem Hq_set {D X : Nat} {l : List Rat} {t : Nat} {c : Rat} (h : ∀ q ∈ l, Hq D X q) (hc : Hq D X c) : ∀ q ∈ l.set t c, Hq D X q := fun q hq => by
 rcases List.mem_or_eq_of_mem_set hq with h1 | h1
 ·exact h q h1
 ·rw [h1]; exact hc
variable [Its]

theorem Qe5 {n : Int} (hn : I64 n) : Qaj G Qbk [iv n] = some (.d (encR (smR n))) := by
 rw [Qad (cf := Qeb) rfl]
 have g1 := Qij (n := n) (m := 105) hn (by omega)
 have b := Qom (n := n) (m := 105) (by omega)
 unfold smR
 generalize arnd n 105 = k at *
 have e1 := Qdz (a := k) (b := 15) (by omega)
 have e2 := QeV (a := k) (b := 15) (by omega)
 have e3 : w64 (k % 15 - 7) = k % 15 - 7 := Qaf (by omega) (by omega)
 have e4 : w64 (k / 15) = k / 15 := Qaf (by omega) (by omega)
 have e5 := Qdz (a := k / 15) (b := 4) (by omega)
 have e6 : w64 (1 + k / 15 % 4) = 1 + k / 15 % 4 := Qaf (by omega) (by omega)
 have z1 := QjK (b := (15 : Int)) (by omega)
 have z2 := QjK (b := (4 : Int)) (by omega)
 have g2 := Qd7 (n := k % 15 - 7) (d := 1 + k / 15 % 4) ⟨by omega, by omega⟩ ⟨by omega, by omega⟩
 generalize Rat.divInt (k % 15 - 7) (1 + k / 15 % 4) = r at *
 simp only [encR, iv] at g1 g2
 simp -implicitDefEqProofs (maxSteps:=9^8) only [Qeb, encR, e1, e2, e3, e4, e5, e6, z1, z2, g1, g2, go_sem, Qab, Qaa, iv, bv, reduceCtorEq, ↓reduceIte, Nat.reduceEqDiff]

/-! ### Trim -/
def QfF (d : D) (n : Int) : St := mkS [(0, .d d), (3, ai n)] []
theorem rtr_go {d : D} {l : List Rat} (hr : RwR d l) {n : Nat} (hn : n < l.length) (hl : l.length * 64 ≤ 140737488351232) (sl : SzL 100000000000 l) (h0 : l.getD n 0 = 0) : X G QaQ (QfF d ((n + 1 : Nat) : Int)) = some (.n, QfF d (n : Int)) := by
 have e1 : decide (((n + 1 : Nat) : Int) > 0) = true := gt_t (by omega)
 have e2 : w64 (((n + 1 : Nat) : Int) - 1) = (n : Int) := by rw [Qaf (by omega) (by omega)]; omega
 have e6 : (if (0 : Int) > (n : Int) then (0 : Int) else (n : Int)) = (n : Int) := if_neg (by omega)
 have e3 := hr.ixa hn
 have e4 := fun h => ldR h l hn
 have g := Qjg (a := l.getD n 0) (sl.getD (by omega) n)
 have e5 : (Int.sign (l.getD n 0).num == 0) = true := by rw [sgn0]; exact decide_eq_true h0
 clear h0
 generalize ((n + 1 : Nat) : Int) = n1 at *
 generalize l.getD n 0 = q at *
 simp only [encR, iv] at e4 g
 simp -implicitDefEqProofs (maxSteps:=9^8) only [QaQ, QfF, Qey, mxV, e6, go_sem, iv, bv, e1, e2, e3, e4, e5, g, reduceCtorEq, ↓reduceIte, Nat.reduceEqDiff]
theorem rtr_stop {d : D} {l : List Rat} (hr : RwR d l) {n : Nat} (hn : n < l.length) (hl : l.length * 64 ≤ 140737488351232) (sl : SzL 100000000000 l) (h0 : l.getD n 0 ≠ 0) : X G QaQ (QfF d ((n + 1 : Nat) : Int)) = some (.x 0, QfF d ((n + 1 : Nat) : Int)) := by
 have e1 : decide (((n + 1 : Nat) : Int) > 0) = true := gt_t (by omega)
 have e2 : w64 (((n + 1 : Nat) : Int) - 1) = (n : Int) := by rw [Qaf (by omega) (by omega)]; omega
 have e6 : (if (0 : Int) > (n : Int) then (0 : Int) else (n : Int)) = (n : Int) := if_neg (by omega)
 have e3 := hr.ixa hn
 have e4 := fun h => ldR h l hn
 have g := Qjg (a := l.getD n 0) (sl.getD (by omega) n)
 have e5 : (Int.sign (l.getD n 0).num == 0) = false := by rw [sgn0]; exact decide_eq_false h0
 clear h0
 generalize ((n + 1 : Nat) : Int) = n1 at *
 generalize l.getD n 0 = q at *
 simp only [encR, iv] at e4 g
 simp -implicitDefEqProofs (maxSteps:=9^8) only [QaQ, QfF, Qey, mxV, e6, go_sem, iv, bv, e1, e2, e3, e4, e5, g, reduceCtorEq, ↓reduceIte, Nat.reduceEqDiff]
theorem rtr_zero {d : D} : X G QaQ (QfF d 0) = some (.x 0, QfF d 0) := by
 have e1 : decide ((0 : Int) > 0) = false := rfl
 simp -implicitDefEqProofs (maxSteps:=9^8) only [QaQ, QfF, go_sem, iv, bv, e1, reduceCtorEq, ↓reduceIte, Nat.reduceEqDiff]
theorem Qqh {d : D} {l : List Rat} (hr : RwR d l) (hl : l.length * 64 ≤ 140737488351232) (sl : SzL 100000000000 l) : ∀ n : Nat, n ≤ l.length → X G (.loop QaQ) (QfF d (n : Int)) = some (.x 0, QfF d (cutR l n : Nat))
 | 0, _ => by
  rw [Qak]
  show (X G QaQ (QfF d 0)).bind _ = _
  rw [rtr_zero]; rfl
 | n + 1, hn => by
  rw [Qak, cutR]
  by_cases h0 : l.getD n 0 = 0
  ·rw [rtr_go hr (by omega) hl sl h0, Option.bind_some, if_pos rfl, if_pos h0]
   exact Qqh hr hl sl n (by omega)
  ·rw [rtr_stop hr (by omega) hl sl h0, if_neg h0]; rfl
theorem QdC {d : D} {l : List Rat} (hr : RwR d l) (hl : l.length * 64 ≤ 140737488351232) (sl : SzL 100000000000 l) : ∃ d', RwR d' (QaS l) ∧ Qaj G QaM [d] = some (.d d') := by
 rw [Qad (cf := QcA) rfl]
 have hl' := Qqh hr hl sl l.length (Nat.le_refl _)
 have hc := Qjm l l.length
 have ll := hr.len
 rcases hr with ⟨rfl, rfl⟩ | rfl
 ·simp only [QfF, List.length_nil, cutR, go_sem] at hl'
  refine ⟨.z true, .inl ⟨rfl, rfl⟩, ?_⟩
  have b0 : (0 * 64 ≤ bound) = True := eq_true (by decide)
  simp -implicitDefEqProofs (maxSteps:=9^8) only [QcA, slcA, bnds, optI, srcS, src, b0, List.length_nil, Nat.zero_mul, Nat.zero_le, go_sem, iv, bv, hl', ll, Int.le_refl, reduceCtorEq, ↓reduceIte, Nat.reduceEqDiff]
 ·refine ⟨dR (QaS l), dR_ok _, ?_⟩
  have e1 : rowR (QaS l) = .row (cutR l l.length) ((cRs l).take (cutR l l.length * 4)) := by rw [rowR, Qfc, QaS, QiN]
  have e0 : dR (QaS l) = if cutR l l.length = 0 then .z true else .row (cutR l l.length) ((cRs l).take (cutR l l.length * 4)) := by
   rw [dR, e1]
   have := Qfc l
   by_cases h : QaS l = []
   ·rw [if_pos h, if_pos (by rw [← this, h]; rfl)]
   ·rw [if_neg h, if_neg (fun h' => h (List.eq_nil_of_length_eq_zero (by omega)))]
  rw [e0]
  have e2 : (((0 : Int) ≤ 0 ∧ (0 : Int) ≤ (cutR l l.length : Nat) ∧ ((cutR l l.length : Nat) : Int) ≤ (l.length : Nat))) = True := eq_true ⟨by omega, by omega, by omega⟩
  have e3 : ((cutR l l.length : Nat) : Int).toNat = cutR l l.length := Int.toNat_natCast _
  have e5 : ((0 : Int) ≤ (cutR l l.length : Nat)) = True := eq_true (by omega)
  have e6 : (((cutR l l.length : Nat) : Int) ≤ (l.length : Nat)) = True := eq_true (by omega)
  have e7 : (cutR l l.length * 64 ≤ bound) = True := eq_true (by unfold bound; omega)
  have e8 : ((cRs l).take (cutR l l.length * 4)).length = cutR l l.length * 4 := by rw [List.length_take, QcX]; omega
  clear e0 e1
  unfold rowR at *
  generalize cutR l l.length = c at *
  generalize cRs l = cs at *
  simp only [QfF, go_sem] at hl'
  by_cases h0 : c = 0
  ·subst h0
   simp only [Nat.zero_mul, List.take_zero] at e8 ⊢
   have b0 : (0 * 64 ≤ bound) = True := eq_true (by decide)
   have b1 : ((0 : Int) ≤ (l.length : Int)) = True := eq_true (by omega)
   simp -implicitDefEqProofs (maxSteps:=9^8) only [QcA, b1, slcA, bnds, optI, srcS, src, b0, List.length_nil, List.take_zero, Nat.zero_mul, Nat.zero_le, go_sem, iv, bv, hl', ll, e2, e3, e5, e6, Int.le_refl, and_self, reduceCtorEq, ↓reduceIte, Nat.reduceEqDiff]
  ·simp -implicitDefEqProofs (maxSteps:=9^8) only [QcA, slcA, bnds, optI, srcS, src, h0, e7, e8, go_sem, iv, bv, hl', ll, e2, e3, e5, e6, Int.le_refl, and_self, reduceCtorEq, ↓reduceIte, Nat.reduceEqDiff]

/-! ### Mul -/
def Qlj (dp dq : D) (L : List Rat) (n : Nat) (i k : Int) : St := mkS [(0, .d dp), (1, .d dq), (5, .own [22] n), (6, ai i), (7, ai k)] [([22], arrR n L)]
def Qho (dp dq : D) (L : List Rat) (n : Nat) (i : Int) : St := mkS [(0, .d dp), (1, .d dq), (5, .own [22] n), (6, ai i)] [([22], arrR n L)]
def Qq3 (L : List Rat) (n : Nat) : St := mkS [(5, .own [22] n)] [([22], arrR n L)]
section
variable {dp dq : D} {p q : List Rat} {n : Nat}
theorem rmi_go (hp : RwR dp p) (hq : RwR dq q) {L : List Rat} (hL : L.length = n) {i k : Nat} (hi : i < p.length) (hk : k < q.length) (hn : i + k < n) (hn2 : n ≤ 1000000000) {K : Nat} (hK1 : 1 ≤ K) (hK : K ≤ 10000000000) (sp : SzL K p) (sq : SzL K q) (sL : SzL K L) :
    X G QbP (Qlj dp dq L n i k) = some (.n, Qlj dp dq (L.set (i + k) (L.getD (i + k) 0 + p.getD i 0 * q.getD k 0)) n i ((k + 1 : Nat) : Int)) := by
  have e1 : decide ((k : Int) < (q.length : Int)) = true := lt_t (by omega)
  obtain ⟨t, ht⟩ : ∃ t : Int, t = ((i + k : Nat) : Int) := ⟨_, rfl⟩
  have e2 : w64 ((i : Int) + (k : Int)) = t := by rw [Qaf (by omega) (by omega)]; omega
  have e3 : w64 ((k : Int) + 1) = ((k + 1 : Nat) : Int) := by rw [Qaf (by omega) (by omega)]; rfl
  have c1 : ((0 : Int) ≤ t) = True := eq_true (by omega)
  have c2 : (t < (n : Int)) = True := eq_true (by omega)
  have c3 : t.toNat = i + k := by omega
  have lq := hq.len
  have x1 := hp.ixa hi
  have y1 := fun h => ldR h p hi
  have x2 := hq.ixa hk
  have y2 := fun h => ldR h q hk
  have s1 := sp.getD hK1 i
  have s2 := sq.getD hK1 k
  have s3 := sL.getD hK1 (i + k)
  have g1 := Qou (a := p.getD i 0) (b := q.getD k 0) (by omega) (by omega)
  have k1 := Qmg (a := p.getD i 0) (b := q.getD k 0)
  have g2 := Qhn (a := L.getD (i + k) 0) (b := p.getD i 0 * q.getD k 0) (by omega) (by omega)
  have l1 := ld_cA (l := L) (j := i + k) (by omega)
  have t1 := st_cA (l := L) (j := i + k) (by omega) (L.getD (i + k) 0 + p.getD i 0 * q.getD k 0)
  clear s1 s2 s3 k1 sp sq sL ht
  generalize L.getD (i + k) 0 + p.getD i 0 * q.getD k 0 = r at *
  generalize p.getD i 0 * q.getD k 0 = pr at *
  generalize p.getD i 0 = u at *
  generalize q.getD k 0 = v at *
  generalize L.getD (i + k) 0 = w at *
  generalize cRs (p.drop i) = cs1 at *
  generalize cRs (q.drop k) = cs2 at *
  simp only [encR] at g1 g2 y1 y2
  simp -implicitDefEqProofs (maxSteps:=9^8) only [QbP, Qlj, QbX, allD, l1, t1, lq, x1, y1, x2, y2, c1, c2, c3, e1, e2, e3, g1, g2, go_sem, iv, bv, and_self, reduceCtorEq, ↓reduceIte, Nat.reduceEqDiff]
theorem rmi_stop (hq : RwR dq q) {L : List Rat} {i : Int} : X G QbP (Qlj dp dq L n i (q.length : Nat)) = some (.x 2, Qho dp dq L n i) := by
 have e1 : decide ((q.length : Int) < (q.length : Int)) = false := lt_f (by omega)
 have lq := hq.len
 simp -implicitDefEqProofs (maxSteps:=9^8) only [QbP, Qlj, Qho, QbX, lq, e1, go_sem, iv, bv, reduceCtorEq, ↓reduceIte, Nat.reduceEqDiff]
variable {D E XX YY d h K : Nat}
theorem QqX      (hp : RwR dp p) (hq : RwR dq q) (hn2 : n ≤ 1000000000) (hK1 : 1 ≤ K) (hK : K ≤ 10000000000) (sp : SzL K p) (sq : SzL K q) (hsz : ∀ (m : Nat) (x : Rat), m ≤ p.length * q.length → Hq (D * E) (m * (XX * YY)) x → sz x ≤ K) (Hp : ∀ x ∈ p, Hq D XX x) (Hqq : ∀ x ∈ q, Hq E YY x) {i : Nat} (hi : i < p.length) (hn : p.length + q.length = n + 1) :
    ∀ (j k m : Nat) (L : List Rat), k + j = q.length → L.length = n → m + j ≤ p.length * q.length → (∀ x ∈ L, Hq (D * E) (m * (XX * YY)) x) →
    ∃ L', L'.length = n ∧ (∀ x ∈ L', Hq (D * E) ((m + j) * (XX * YY)) x) ∧ (∀ x, evR L' x = evR L x + p.getD i 0 * x ^ (i + k) * evR (q.drop k) x) ∧ X G (.loop QbP) (Qlj dp dq L n i k) = some (.x 2, Qho dp dq L' n i)
  | 0, k, m, L, hk, hL, hm, HL => by
    have : k = q.length := by omega
    subst this
    refine ⟨L, hL, HL, fun x => ?_, by rw [Qak, rmi_stop hq]; rfl⟩
    rw [List.drop_length, QaG, Rat.mul_zero, Rat.add_zero]
  | j + 1, k, m, L, hk, hL, hm, HL => by
    have hstep := ((Hq.getD Hp i).mul (Hq.getD Hqq k))
    have hnew := (Hq.getD HL (i + k)).add hstep
    have e1 : m * (XX * YY) + XX * YY = (m + 1) * (XX * YY) := by rw [Nat.succ_mul]
    rw [e1] at hnew
    have HL2 : ∀ x ∈ L.set (i + k) (L.getD (i + k) 0 + p.getD i 0 * q.getD k 0), Hq (D * E) ((m + 1) * (XX * YY)) x := Hq_set (fun x hx => (HL x hx).le (Nat.mul_le_mul_right _ (by omega))) hnew
    obtain ⟨L', a1, a2, a3, a4⟩ := QqX hp hq hn2 hK1 hK sp sq hsz Hp Hqq hi hn j (k + 1) (m + 1) (L.set (i + k) (L.getD (i + k) 0 + p.getD i 0 * q.getD k 0)) (by omega) (by rw [List.length_set, hL]) (by omega) HL2
    refine ⟨L', a1, by rw [show m + (j + 1) = m + 1 + j by omega]; exact a2, fun x => ?_, ?_⟩
    · rw [a3, evR_set x _ L (i + k) (by omega), Qqy q x (k := k) (by omega), show i + (k + 1) = (i + k) + 1 by omega, Rat.pow_succ]
      generalize evR L x = u; generalize evR (q.drop (k + 1)) x = v; generalize x ^ (i + k) = w; generalize p.getD i 0 = a; generalize q.getD k 0 = b
      grind
    · rw [Qak, rmi_go hp hq hL hi (by omega) (by omega) hn2 hK1 hK sp sq (fun x hx => hsz m x (by omega) (HL x hx)), Option.bind_some, if_pos rfl]
      exact a4
theorem Qqn      (hp : RwR dp p) (hq : RwR dq q) (hn2 : n ≤ 1000000000) (hK1 : 1 ≤ K) (hK : K ≤ 10000000000) (sp : SzL K p) (sq : SzL K q) (hsz : ∀ (m : Nat) (x : Rat), m ≤ p.length * q.length → Hq (D * E) (m * (XX * YY)) x → sz x ≤ K) (Hp : ∀ x ∈ p, Hq D XX x) (Hqq : ∀ x ∈ q, Hq E YY x) (hn : p.length + q.length = n + 1) (hq0 : 0 < q.length) :
    ∀ (j i : Nat) (L : List Rat), i + j = p.length → L.length = n → (∀ x ∈ L, Hq (D * E) (i * q.length * (XX * YY)) x) →
    ∃ L', L'.length = n ∧ (∀ x ∈ L', Hq (D * E) (p.length * q.length * (XX * YY)) x) ∧ (∀ x, evR L' x = evR L x + x ^ i * evR (p.drop i) x * evR q x) ∧ X G (.loop QbS) (Qho dp dq L n i) = some (.x 0, Qq3 L' n)
  | 0, i, L, hi, hL, HL => by
    have : i = p.length := by omega
    subst this
    have lp := hp.len
    have e1 : decide ((p.length : Int) < (p.length : Int)) = false := lt_f (by omega)
    refine ⟨L, hL, HL, fun x => by rw [List.drop_length, QaG, Rat.mul_zero, Rat.zero_mul, Rat.add_zero], ?_⟩
    have : X G QbS (Qho dp dq L n (p.length : Nat)) = some (.x 0, Qq3 L n) := by
      simp -implicitDefEqProofs (maxSteps:=9^8) only [QbS, Qho, Qq3, QbX, lp, e1, go_sem, iv, bv, reduceCtorEq, ↓reduceIte, Nat.reduceEqDiff]
    rw [Qak, this]; rfl
  | j + 1, i, L, hi, hL, HL => by
    have hile : (i + 1) * q.length ≤ p.length * q.length := Nat.mul_le_mul_right _ (by omega)
    have hsm : (i + 1) * q.length = i * q.length + q.length := Nat.succ_mul ..
    obtain ⟨L1, b1, b2, b3, b4⟩ := QqX hp hq hn2 hK1 hK sp sq hsz Hp Hqq (i := i) (by omega) hn q.length 0 (i * q.length) L (by omega) hL (by omega) HL
    rw [← hsm] at b2
    obtain ⟨L', a1, a2, a3, a4⟩ := Qqn hp hq hn2 hK1 hK sp sq hsz Hp Hqq hn hq0 j (i + 1) L1 (by omega) b1 b2
    refine ⟨L', a1, a2, fun x => ?_, ?_⟩
    · rw [a3, b3, Qqy p x (k := i) (by omega), List.drop_zero, Nat.add_zero, Rat.pow_succ]
      generalize evR L x = u; generalize evR (p.drop (i + 1)) x = v; generalize x ^ i = w; generalize p.getD i 0 = a; generalize evR q x = b
      grind
    · have lp := hp.len
      have e1 : decide ((i : Int) < (p.length : Int)) = true := lt_t (by omega)
      have hpl : p.length ≤ n := by omega
      have e3 : w64 ((i : Int) + 1) = ((i + 1 : Nat) : Int) := by rw [Qaf (by omega) (by omega)]; rfl
      have n0 : ((0 : Nat) : Int) = 0 := rfl
      rw [n0] at b4
      have : X G QbS (Qho dp dq L n i) = some (.n, Qho dp dq L1 n ((i + 1 : Nat) : Int)) := by
        simp only [Qlj, Qho, go_sem] at b4
        simp -implicitDefEqProofs (maxSteps:=9^8) only [QbS, Qho, QbX, lp, e1, e3, b4, go_sem, iv, bv, reduceCtorEq, ↓reduceIte, Nat.reduceEqDiff]
      rw [Qak, this, Option.bind_some, if_pos rfl]
      exact a4
theorem QhU        {d1 h1 d2 h2 : Nat} (hp : RwR dp p) (hq : RwR dq q) (Hp : HL d1 h1 p) (Hq' : HL d2 h2 q) (np : p.length ≤ 1000) (nq : q.length ≤ 1000) (hd : d1 + d2 ≤ 1000000000) (hh : h1 + h2 ≤ 1000000000) :
    ∃ d', RwR d' (muP p q) ∧ Qaj G Qc5 [dp, dq] = some (.d d') := by
  rw [Qad (cf := QcT) rfl]
  have lp := hp.len
  have lq := hq.len
  have e00 : ((0 : Int) == 0) = true := rfl
  by_cases p0 : p.length = 0
  · have : p = [] := List.eq_nil_of_length_eq_zero p0
    subst this
    have em : muP [] q = [] := QfK (Qd1 _ _) Qg3 (fun x => by rw [Qaq, QaG, Rat.zero_mul])
    rw [em]
    refine ⟨.z true, .nil, ?_⟩
    simp only [List.length_nil] at lp
    simp -implicitDefEqProofs (maxSteps:=9^8) only [QcT, lp, lq, e00, go_sem, iv, bv, reduceCtorEq, ↓reduceIte, Nat.reduceEqDiff]
  by_cases q0 : q.length = 0
  · have : q = [] := List.eq_nil_of_length_eq_zero q0
    subst this
    have em : muP p [] = [] := QfK (Qd1 _ _) Qg3 (fun x => by rw [Qaq, QaG, Rat.mul_zero])
    rw [em]
    refine ⟨.z true, .nil, ?_⟩
    simp only [List.length_nil] at lq
    have ep : ((p.length : Int) == 0) = false := Qcy (by omega)
    simp -implicitDefEqProofs (maxSteps:=9^8) only [QcT, lp, lq, ep, e00, go_sem, iv, bv, reduceCtorEq, ↓reduceIte, Nat.reduceEqDiff]
  have ep : ((p.length : Int) == 0) = false := Qcy (by omega)
  have eq : ((q.length : Int) == 0) = false := Qcy (by omega)
  obtain ⟨n, hn⟩ : ∃ n, p.length + q.length = n + 1 := ⟨p.length + q.length - 1, by omega⟩
  obtain ⟨D, a1, a2, a3⟩ := Hp
  obtain ⟨E, b1, b2, b3⟩ := Hq'
  have hDE : D * E ≤ BB ^ (d1 + d2) := Qcz a2 b2
  have hsz : ∀ (m : Nat) (x : Rat), m ≤ p.length * q.length → Hq (D * E) (m * (BB ^ h1 * BB ^ h2)) x → sz x ≤ 10000000000 := fun m x hm hx => by
    have hm2 : p.length * q.length ≤ 1000 * 1000 := Nat.mul_le_mul np nq
    have hX : m * (BB ^ h1 * BB ^ h2) ≤ BB ^ (1 + (h1 + h2)) := Qcz (by rw [Nat.pow_one]; show m ≤ 1000000000; omega) (Qcz (Nat.le_refl _) (Nat.le_refl _))
    have := Hq.sz (Nat.mul_pos a1 b1) hDE hX hx
    omega
  have sp : SzL 10000000000 p := ((HL.sz ⟨D, a1, a2, a3⟩).mono (by omega))
  have sq : SzL 10000000000 q := ((HL.sz ⟨E, b1, b2, b3⟩).mono (by omega))
  obtain ⟨L', c1, c2, c3, c4⟩ := Qqn (D := D) (E := E) (XX := BB ^ h1) (YY := BB ^ h2) (K := 10000000000) hp hq (n := n) (by omega) (by omega) (by omega) sp sq hsz a3 b3 hn (by omega) p.length 0 (List.replicate n 0) (by omega) (by simp) (fun x hx => by rw [(List.mem_replicate.1 hx).2]; exact Hq.zero _ _)
  obtain ⟨d', hr', gT⟩ := QdC (RwR.row L') (by omega) (fun x hx => Nat.le_trans (hsz _ x (Nat.le_refl _) (c2 x hx)) (by omega))
  have em : QaS L' = muP p q := QfK (Qbr _) (Qd1 _ _) (fun x => by
    rw [Qa0, c3, Qsh, Rat.pow_zero, List.drop_zero, Qaq, Rat.zero_add, Rat.one_mul])
  rw [em] at hr'
  refine ⟨d', hr', ?_⟩
  have z0 : ((0 : Nat) : Int) = 0 := rfl
  rw [z0] at c4
  obtain ⟨z, hz⟩ : ∃ z, (p.length : Int) + (q.length : Int) = z := ⟨_, rfl⟩
  have e1 : w64 ((p.length : Int) + (q.length : Int)) = z := by rw [Qaf (by omega) (by omega), hz]
  have e2 : w64 (z - 1) = (n : Int) := by rw [Qaf (by omega) (by omega)]; omega
  have f1 : ((0 : Int) ≤ (n : Int)) = True := eq_true (by omega)
  have f2 : ((n : Int) * ((64 : Nat) : Int) ≤ (bound : Int)) = True := eq_true (by have : (bound : Int) = 140737488351232 := rfl; omega)
  have r0 := QpZ n
  have m0 := Qpc (List.replicate n (0 : Rat))
  rw [rowR, c1] at gT
  clear c1 c2 c3 hr' em sp sq hsz hz
  simp only [Qho, Qq3, go_sem] at c4
  simp -implicitDefEqProofs (maxSteps:=9^8) only [QcT, Qhb, lp, lq, ep, eq, e1, e2, f1, f2, r0, m0, Int.toNat_natCast, c4, gT, QlD, QbX, true_and, and_self, go_sem, iv, bv, reduceCtorEq, ↓reduceIte, Nat.reduceEqDiff]
end
end Go.AM

/- ref06.Poly. -/
namespace Go.AM
open Go Go.RowKit

theorem tdivc {n c : Int} (hn : I64 n) (hc : 0 < c) : I64 (n.tdiv c) ∧ w64 (n.tdiv c) = n.tdiv c := by
  obtain ⟨h1, h2⟩ := hn
  have hb : (n.tdiv c).natAbs ≤ n.natAbs := by
    rw [Int.natAbs_tdiv]; exact Nat.div_le_self _ _
  have h3 : -9223372036854775808 ≤ n.tdiv c := by omega
  have h4 : n.tdiv c < 9223372036854775808 := by
    by_cases h0 : 0 ≤ n
    · omega
    · have e : n.tdiv c = -((-n) / c) := by
        rw [← Int.tdiv_eq_ediv_of_nonneg (by omega), Int.neg_tdiv, Int.neg_neg]
      have : 0 ≤ (-n) / c := Int.ediv_nonneg (by omega) (by omega)
      omega
  exact ⟨⟨h3, h4⟩, Qaf h3 h4⟩
theorem H1.neg {d h : Nat} {q : Rat} (H : H1 d h q) : H1 d h (-q) := by
 obtain ⟨D, h1, h2, h3⟩ := H
 exact ⟨D, h1, h2, h3.neg⟩
theorem H1.one : H1 0 0 1 := ⟨1, by omega, by simp [BB], ⟨1, Rat.mul_one _, by simp⟩⟩
theorem HL.cons {d1 h1 d2 h2 : Nat} {a : Rat} {l : List Rat} (H : H1 d1 h1 a) (H' : HL d2 h2 l) : HL (d1 + d2) (max (h1 + d2) (h2 + d1)) (a :: l) := by
 obtain ⟨D, a1, a2, a3⟩ := H
 obtain ⟨E, b1, b2, b3⟩ := H'
 refine ⟨D * E, Nat.mul_pos a1 b1, Qcz a2 b2, fun q hq => ?_⟩
 rcases List.mem_cons.1 hq with rfl | hq
 ·exact (a3.lift E).le (Nat.le_trans (Qcz (Nat.le_refl _) b2) (QdX (by omega)))
 ·exact ((b3 q hq).lift' D).le (Nat.le_trans (Qcz a2 (Nat.le_refl _)) (QdX (by omega)))
theorem HL.smalls : ∀ (l : List Rat), (∀ q ∈ l, ∃ n, q = smR n) → HL l.length l.length l
 | [], _ => HL.nil _ _
 | a :: l, h => by
  obtain ⟨n, rfl⟩ := h a (List.mem_cons_self ..)
  exact (HL.cons (Qn4 n) (HL.smalls l (fun q hq => h q (List.mem_cons_of_mem _ hq)))).mono (by simp; omega) (by simp; omega)
def HB (a b : Nat) (l : List Rat) : Prop := ∃ D : Nat, 0 < D ∧ D ≤ a ∧ ∀ q ∈ l, Hq D b q
theorem HB.hl {a b d h : Nat} {l : List Rat} (H : HB a b l) (ha : a ≤ BB ^ d) (hb : b ≤ BB ^ h) : HL d h l := by
 obtain ⟨D, h1, h2, h3⟩ := H
 exact ⟨D, h1, Nat.le_trans h2 ha, fun q hq => (h3 q hq).le hb⟩
theorem HB.mono {a b c d : Nat} {l : List Rat} (H : HB a b l) (h1 : a ≤ c) (h2 : b ≤ d) : HB c d l := by
 obtain ⟨D, k1, k2, k3⟩ := H
 exact ⟨D, k1, by omega, fun q hq => (k3 q hq).le h2⟩
theorem HB.trim {a b : Nat} {l : List Rat} (H : HB a b l) : HB a b (QaS l) := by
 obtain ⟨D, h1, h2, h3⟩ := H
 exact ⟨D, h1, h2, fun q hq => h3 q (List.mem_of_mem_take hq)⟩
theorem HB.cons {a b c d : Nat} {q : Rat} {l : List Rat} (H : HB a b [q]) (H' : HB c d l) : HB (a * c) (max (b * c) (a * d)) (q :: l) := by
 obtain ⟨D, a1, a2, a3⟩ := H
 obtain ⟨E, b1, b2, b3⟩ := H'
 refine ⟨D * E, Nat.mul_pos a1 b1, Nat.mul_le_mul a2 b2, fun p hp => ?_⟩
 rcases List.mem_cons.1 hp with rfl | hp
 ·exact ((a3 p (by simp)).lift E).le (Nat.le_trans (Nat.mul_le_mul_left _ b2) (Nat.le_max_left _ _))
 ·exact ((b3 p hp).lift' D).le (Nat.le_trans (Nat.mul_le_mul_right _ a2) (Nat.le_max_right _ _))
theorem HB.mu {a b c d : Nat} {l m : List Rat} (H : HB a b l) (H' : HB c d m) : HB (a * c) ((l.length + m.length) * (b * d)) (muP l m) := by
 obtain ⟨D, a1, a2, a3⟩ := H
 obtain ⟨E, b1, b2, b3⟩ := H'
 refine HB.trim ⟨D * E, Nat.mul_pos a1 b1, Nat.mul_le_mul a2 b2, fun q hq => ?_⟩
 obtain ⟨k, hk, rfl⟩ := List.mem_map.1 hq
 have hk := List.mem_range.1 hk
 exact (Hq.sum (k + 1) (fun i _ => (Hq.getD a3 i).mul (Hq.getD b3 (k - i)))).le (Nat.mul_le_mul_right _ (by omega))
theorem HB.neg {a b : Nat} {q : Rat} (H : HB a b [q]) : HB a b [-q] := by
 obtain ⟨D, h1, h2, h3⟩ := H
 exact ⟨D, h1, h2, fun p hp => by rw [List.mem_singleton.1 hp]; exact (h3 q (by simp)).neg⟩
theorem HB.one1 : HB 1 1 [1] := ⟨1, by omega, by omega, fun p hp => by rw [List.mem_singleton.1 hp]; exact ⟨1, Rat.mul_one _, by simp⟩⟩
theorem HB.int {z : Int} (h : z.natAbs ≤ 5) : HB 1 5 [Rat.divInt z 1] := ⟨(1 : Int).natAbs, by decide, by decide, fun p hp => by
 rw [List.mem_singleton.1 hp]
 exact (Hq.div (n := z) (d := 1) (by omega)).le (by omega)⟩
theorem HB.small (n : Int) : HB 4 7 [smR n] := by
 have b := Qom (n := n) (m := 105) (by omega)
 have hd : 0 < 1 + arnd n 105 / 15 % 4 := by omega
 exact ⟨(1 + arnd n 105 / 15 % 4).natAbs, by omega, by omega, fun p hp => by
  rw [List.mem_singleton.1 hp]
  exact (Hq.div hd).le (by omega)⟩
theorem HB.smalls : ∀ (l : List Rat), (∀ q ∈ l, ∃ n, q = smR n) → HB (4 ^ l.length) (7 * 4 ^ l.length) l
 | [], _ => ⟨1, by omega, by simp, fun q hq => by simp at hq⟩
 | a :: l, h => by
  obtain ⟨n, rfl⟩ := h a (List.mem_cons_self ..)
  have := (HB.small n).cons (HB.smalls l (fun q hq => h q (List.mem_cons_of_mem _ hq)))
  refine this.mono ?_ ?_
  ·rw [List.length_cons, Nat.pow_succ]; omega
  ·rw [List.length_cons, Nat.pow_succ]; omega
theorem QlM (a b c d : D) : rep 2 [a, b, c, d] = [a, b, c, d, a, b, c, d] := rfl
theorem QoK (a b c d : D) : rep 3 [a, b, c, d] = [a, b, c, d, a, b, c, d, a, b, c, d] := rfl
variable [Its]

theorem QpJ : Qaj G Qax [iv 1, iv 1] = some (.d (encR 1)) := by
 have g := Qd7 (n := 1) (d := 1) ⟨by omega, by omega⟩ ⟨by omega, by omega⟩
 have e : Rat.divInt 1 1 = 1 := Qc3 1
 rw [e] at g; exact g
section
variable {e0 : D} {l : List Int}
def Qkn (e0 : D) (L : List Rat) (i : Int) : St := mkS [(0, .d e0), (3, gA4 28 L), (4, ai i)] (gH4 28 L)
def QnI (L : List Rat) : St := mkS [(3, gA4 28 L)] (gH4 28 L)
theorem pl_go (hr : Rw e0 l) (hl : ∀ n ∈ l, I64 n) {i : Nat} (hi : i < l.length) (hi6 : i < 6) {L : List Rat} (hL : L.length ≤ 10) : X G QaI (Qkn e0 L i) = some (.n, Qkn e0 (L ++ [smR (l.getD i 0)]) ((i + 1 : Nat) : Int)) := by
 have e1 : decide ((i : Int) < (l.length : Int)) = true := lt_t (by omega)
 have e2 : decide ((i : Int) < 6) = true := lt_t (by omega)
 have e3 : w64 ((i : Int) + 1) = ((i + 1 : Nat) : Int) := by rw [Qaf (by omega) (by omega)]; rfl
 have ll := hr.len
 have x1 := hr.ixn hi
 have x2 := fun h => ldv h l hi
 have g := Qe5 (n := l.getD i 0) (hl _ (by rw [List.getD_eq_getElem?_getD, List.getElem?_eq_getElem hi]; exact List.getElem_mem hi))
 generalize smR (l.getD i 0) = q at *
 generalize l.getD i 0 = x at *
 have d1 := QlV (digs q.num.natAbs)
 have d2 := QlV (dd q.den)
 simp only [encR, iv] at g
 by_cases h0 : L = []
 ·subst h0
  have hb : (64 ≤ bound) = True := eq_true (by unfold bound; omega)
  have hb1 : (1 * 64 ≤ bound) = True := eq_true (by unfold bound; omega)
  simp -implicitDefEqProofs (maxSteps:=9^8) only [QaI, Qkn, QgW, QgD, Qac, Qkx, QkF, List.nil_append, List.cons_append, List.length_nil, List.length_cons, Nat.zero_add, List.map_cons, List.map_nil, Qkk, gA4_one, gH4_one, Qqx, srcS, src, QrW, allD, hb, hb1, d1, d2, ll, x1, x2, go_sem, iv, bv, e1, e2, e3, g, reduceCtorEq, ↓reduceIte, Nat.reduceEqDiff]
 ·have n3 : (cA L).length = L.length * 4 := QiC L
  have n4 : ((L.length + 1) * 64 ≤ bound) = True := eq_true (by unfold bound; omega)
  simp -implicitDefEqProofs (maxSteps:=9^8) only [QaI, Qkn, Qj0 h0, Qkg h0, Qkx, QkF, List.nil_append, List.cons_append, List.length_nil, List.length_cons, Nat.zero_add, List.map_cons, List.map_nil, Qkk, cA_snoc, n3, n4, QbX, srcS, src, QrW, allD, d1, d2, ll, x1, x2, go_sem, iv, bv, e1, e2, e3, g, reduceCtorEq, ↓reduceIte, Nat.reduceEqDiff]
theorem pl_stop (hr : Rw e0 l) {i : Nat} (hi : l.length ≤ i ∨ 6 ≤ i) {L : List Rat} : X G QaI (Qkn e0 L i) = some (.x 0, QnI L) := by
 have ll := hr.len
 by_cases h1 : l.length ≤ i
 ·have e1 : decide ((i : Int) < (l.length : Int)) = false := lt_f (by omega)
  by_cases h0 : L = []
  ·subst h0
   simp -implicitDefEqProofs (maxSteps:=9^8) only [QaI, Qkn, QnI, QgW, QgD, Qac, ll, e1, go_sem, iv, bv, reduceCtorEq, ↓reduceIte, Nat.reduceEqDiff]
  ·simp -implicitDefEqProofs (maxSteps:=9^8) only [QaI, Qkn, QnI, Qj0 h0, Qkg h0, QbX, ll, e1, go_sem, iv, bv, reduceCtorEq, ↓reduceIte, Nat.reduceEqDiff]
 ·have e1 : decide ((i : Int) < (l.length : Int)) = true := lt_t (by omega)
  have e2 : decide ((i : Int) < 6) = false := lt_f (by omega)
  by_cases h0 : L = []
  ·subst h0
   simp -implicitDefEqProofs (maxSteps:=9^8) only [QaI, Qkn, QnI, QgW, QgD, Qac, ll, e1, e2, go_sem, iv, bv, reduceCtorEq, ↓reduceIte, Nat.reduceEqDiff]
  ·simp -implicitDefEqProofs (maxSteps:=9^8) only [QaI, Qkn, QnI, Qj0 h0, Qkg h0, QbX, ll, e1, e2, go_sem, iv, bv, reduceCtorEq, ↓reduceIte, Nat.reduceEqDiff]
theorem pl_loop (hr : Rw e0 l) (hl : ∀ n ∈ l, I64 n) : ∀ (j i : Nat) (L : List Rat), 6 ≤ i + j → L.length + 1 = i → i ≤ 6 → (∀ q ∈ L, ∃ n, q = smR n) → ∃ L', L'.length ≤ 5 ∧ (∀ q ∈ L', ∃ n, q = smR n) ∧ X G (.loop QaI) (Qkn e0 L i) = some (.x 0, QnI L')
  | 0, i, L, hj, hLi, hi, hL => ⟨L, by omega, hL, by rw [Qak, pl_stop hr (.inr (by omega))]; rfl⟩
  | j + 1, i, L, hj, hLi, hi, hL => by
    by_cases h : i < l.length ∧ i < 6
    · obtain ⟨L', a1, a2, a3⟩ := pl_loop hr hl j (i + 1) (L ++ [smR (l.getD i 0)]) (by omega) (by rw [List.length_append]; simp; omega) (by omega) (fun q hq => by
        rcases List.mem_append.1 hq with h' | h'
        · exact hL q h'
        · exact ⟨_, List.mem_singleton.1 h'⟩)
      exact ⟨L', a1, a2, by rw [Qak, pl_go hr hl h.1 h.2 (by omega), Option.bind_some, if_pos rfl]; exact a3⟩
    · exact ⟨L, by omega, hL, by rw [Qak, pl_stop hr (by omega)]; rfl⟩

def Qlp (e0 d : D) (i : Int) : St := mkS [(0, .d e0), (5, .d d), (6, ai i)] []
def pm_en (d : D) : St := mkS [(5, .d d)] []
theorem pm_go (hr : Rw e0 l) (hl : ∀ n ∈ l, I64 n) {i : Nat} (hi : i < l.length) (hi5 : i < 5) {d : D} {out : List Rat} {dd hh : Nat} (ho : RwR d out) (Ho : HL dd hh out) (nd : out.length ≤ 100) (hd : dd ≤ 100) (hh' : hh ≤ 100) :
    ∃ d' out', RwR d' out' ∧ Trm out' ∧ (HL (dd + 2) (hh + 3) out' ∧ ∃ t, out' = muP out t ∧ t.length ≤ 3 ∧ HB 16 28 t) ∧ (out'.length ≤ out.length + 2 ∧ (4 ≤ i → out'.length ≤ out.length + 1)) ∧ X G QaH (Qlp e0 d i) = some (.n, Qlp e0 d' ((i + 1 : Nat) : Int)) := by
  have e1 : decide ((i : Int) < (l.length : Int)) = true := lt_t (by omega)
  have e2 : decide ((i : Int) < 5) = true := lt_t (by omega)
  have e3 : w64 ((i : Int) + 1) = ((i + 1 : Nat) : Int) := by rw [Qaf (by omega) (by omega)]; rfl
  have ll := hr.len
  have lo := ho.len
  have x1 := hr.ixn hi
  have x2 := fun h => ldv h l hi
  have hx : I64 (l.getD i 0) := hl _ (by rw [List.getD_eq_getElem?_getD, List.getElem?_eq_getElem hi]; exact List.getElem_mem hi)
  generalize l.getD i 0 = x at *
  have g1 := Qe5 hx
  have g2 := Qj1 (a := smR x) (by have := smR_sz x; omega)
  have o1 := QpJ
  obtain ⟨q7, w7⟩ := tdivc (c := 7) hx (by omega)
  obtain ⟨q3, w3⟩ := tdivc (c := 3) hx (by omega)
  obtain ⟨y7, hy7⟩ : ∃ y, x.tdiv 7 = y := ⟨_, rfl⟩
  obtain ⟨y3, hy3⟩ : ∃ y, x.tdiv 3 = y := ⟨_, rfl⟩
  have w7' : w64 (x.tdiv 7) = y7 := by rw [w7, hy7]
  have w3' : w64 (x.tdiv 3) = y3 := by rw [w3, hy3]
  rw [hy7] at q7
  rw [hy3] at q3
  have g7 := Qe5 q7
  have g3 := Qe5 q3
  have z7 := QjK (b := (7 : Int)) (by omega)
  have z3 := QjK (b := (3 : Int)) (by omega)
  have F2 : HL 1 1 [-smR x, 1] := (HL.cons (Qn4 x).neg (HL.one H1.one)).mono (by omega) (by omega)
  have F3 : HL 2 2 [smR y7, smR y3, 1] := (HL.cons (Qn4 y7) (HL.cons (Qn4 y3) (HL.one H1.one))).mono (by omega) (by omega)
  obtain ⟨d2, t2, gT2⟩ := QdC (RwR.row [-smR x, 1]) (by simp only [List.length_cons, List.length_nil]; omega) (F2.sz.mono (by omega))
  obtain ⟨d3, t3, gT3⟩ := QdC (RwR.row [smR y7, smR y3, 1]) (by simp only [List.length_cons, List.length_nil]; omega) (F3.sz.mono (by omega))
  have n2 : (QaS [-smR x, 1]).length ≤ 2 := Qcs _
  have n3 : (QaS [smR y7, smR y3, 1]).length ≤ 3 := Qcs _
  obtain ⟨m2, u2, gM2⟩ := QhU ho t2 Ho F2.trim (by omega) (by omega) (by omega) (by omega)
  obtain ⟨m3, u3, gM3⟩ := QhU ho t3 Ho F3.trim (by omega) (by omega) (by omega) (by omega)
  have H2 := HL.mu Ho F2.trim (by have : BB = 1000000000 := rfl; omega)
  have H3 := HL.mu Ho F3.trim (by have : BB = 1000000000 := rfl; omega)
  have l2 := Ql0 out (QaS [-smR x, 1])
  have l3 := Ql0 out (QaS [smR y7, smR y3, 1])
  by_cases hc : x.tmod 7 = 3 ∧ i < 4 ∧ out.length < 4
  · refine ⟨m3, _, u3, Qd1 _ _, ⟨H3.mono (by omega) (by omega), _, rfl, by omega, ((HB.small y7).cons ((HB.small y3).cons HB.one1) |>.trim).mono (by omega) (by omega)⟩, by omega, ?_⟩
    have c1 : (x.tmod 7 == 3) = true := Qie hc.1
    have c2 : decide ((i : Int) < 4) = true := lt_t (by omega)
    have c3 : decide ((out.length : Int) < 4) = true := lt_t (by omega)
    clear F2 F3 n2 n3 H2 H3 l2 l3 u2 u3 t2 t3 gT2 gM2 hc
    simp only [rowR, cRs, List.length_cons, List.length_nil, Nat.reduceAdd] at gT3
    generalize -smR x = sn at *
    generalize smR x = sx at *
    generalize smR y7 = s7 at *
    generalize smR y3 = s3 at *
    generalize (1 : Rat) = one at *
    simp only [encR, iv] at g1 g2 o1 g7 g3
    simp -implicitDefEqProofs (maxSteps:=9^8) only [QaH, Qlp, ll, lo, x1, x2, e1, e2, e3, g1, g2, o1, g7, g3, z7, z3, w7', w3', c1, c2, c3, gT3, gM3, QlM, QoK, go_sem, iv, bv, reduceCtorEq, ↓reduceIte, Nat.reduceEqDiff]
  · refine ⟨m2, _, u2, Qd1 _ _, ⟨H2.mono (by omega) (by omega), _, rfl, by omega, ((HB.small x).neg.cons HB.one1 |>.trim).mono (by omega) (by omega)⟩, by omega, ?_⟩
    clear F2 F3 n2 n3 H2 H3 l2 l3 u2 u3 t2 t3 gT3 gM3
    simp only [rowR, cRs, List.length_cons, List.length_nil, Nat.reduceAdd] at gT2
    generalize -smR x = sn at *
    generalize smR x = sx at *
    generalize smR y7 = s7 at *
    generalize smR y3 = s3 at *
    generalize (1 : Rat) = one at *
    simp only [encR, iv] at g1 g2 o1 g7 g3
    by_cases h1 : x.tmod 7 = 3
    · have c1 : (x.tmod 7 == 3) = true := Qie h1
      by_cases h2 : i < 4
      · have c2 : decide ((i : Int) < 4) = true := lt_t (by omega)
        have c3 : decide ((out.length : Int) < 4) = false := lt_f (by omega)
        simp -implicitDefEqProofs (maxSteps:=9^8) only [QaH, Qlp, ll, lo, x1, x2, e1, e2, e3, g1, g2, o1, g7, g3, z7, z3, w7', w3', c1, c2, c3, gT2, gM2, QlM, QoK, go_sem, iv, bv, reduceCtorEq, ↓reduceIte, Nat.reduceEqDiff]
      · have c2 : decide ((i : Int) < 4) = false := lt_f (by omega)
        simp -implicitDefEqProofs (maxSteps:=9^8) only [QaH, Qlp, ll, lo, x1, x2, e1, e2, e3, g1, g2, o1, g7, g3, z7, z3, w7', w3', c1, c2, gT2, gM2, QlM, QoK, go_sem, iv, bv, reduceCtorEq, ↓reduceIte, Nat.reduceEqDiff]
    · have c1 : (x.tmod 7 == 3) = false := Qcy h1
      simp -implicitDefEqProofs (maxSteps:=9^8) only [QaH, Qlp, ll, lo, x1, x2, e1, e2, e3, g1, g2, o1, g7, g3, z7, z3, w7', w3', c1, gT2, gM2, QlM, QoK, go_sem, iv, bv, reduceCtorEq, ↓reduceIte, Nat.reduceEqDiff]
theorem pm_stop (hr : Rw e0 l) {i : Nat} (hi : l.length ≤ i ∨ 5 ≤ i) {d : D} : X G QaH (Qlp e0 d i) = some (.x 2, pm_en d) := by
 have ll := hr.len
 by_cases h1 : l.length ≤ i
 ·have e1 : decide ((i : Int) < (l.length : Int)) = false := lt_f (by omega)
  simp -implicitDefEqProofs (maxSteps:=9^8) only [QaH, Qlp, pm_en, ll, e1, go_sem, iv, bv, reduceCtorEq, ↓reduceIte, Nat.reduceEqDiff]
 ·have e1 : decide ((i : Int) < (l.length : Int)) = true := lt_t (by omega)
  have e2 : decide ((i : Int) < 5) = false := lt_f (by omega)
  simp -implicitDefEqProofs (maxSteps:=9^8) only [QaH, Qlp, pm_en, ll, e1, e2, go_sem, iv, bv, reduceCtorEq, ↓reduceIte, Nat.reduceEqDiff]
theorem pm_loop (hr : Rw e0 l) (hl : ∀ n ∈ l, I64 n) : ∀ (j i : Nat) (d : D) (out : List Rat), 5 ≤ i + j → i ≤ 5 → RwR d out → Trm out → HL (2 * i) (1 + 3 * i) out → (out.length + 3 ≤ 2 * i ∧ out.length ≤ i + 1) → ∀ A B, HB A B out → ∃ d' out', RwR d' out' ∧ Trm out' ∧ HB (A * 16 ^ j) (B * 252 ^ j) out' ∧ out'.length ≤ 6 ∧ X G (.loop QaH) (Qlp e0 d i) = some (.x 2, pm_en d')
 | 0, i, d, out, hj, hi, h1, h2, h3, h4, A, B, hB => ⟨d, out, h1, h2, hB.mono (by simp) (by simp), by omega, by rw [Qak, pm_stop hr (.inr (by omega))]; rfl⟩
 | j + 1, i, d, out, hj, hi, h1, h2, h3, h4, A, B, hB => by
  by_cases h : i < l.length ∧ i < 5
  ·obtain ⟨d1, o1, a1, a2, ⟨a3, t, b1, b2, b3⟩, a4, a5⟩ := pm_go hr hl h.1 h.2 h1 h3 (by omega) (by omega) (by omega)
   have hB' : HB (A * 16) (B * 252) o1 := by
    rw [b1]
    refine (hB.mu b3).mono (Nat.le_refl _) ?_
    have : (out.length + t.length) * (B * 28) ≤ 9 * (B * 28) := Nat.mul_le_mul_right _ (by omega)
    omega
   obtain ⟨d', out', c1, c2, c3, c4, c5⟩ := pm_loop hr hl j (i + 1) d1 o1 (by omega) (by omega) a1 a2 (a3.mono (by omega) (by omega)) (by omega) _ _ hB'
   refine ⟨d', out', c1, c2, c3.mono (by rw [Nat.pow_succ, Nat.mul_assoc, Nat.mul_comm 16]; exact Nat.le_refl _) (by rw [Nat.pow_succ, Nat.mul_assoc, Nat.mul_comm 252]; exact Nat.le_refl _), c4, by rw [Qak, a5, Option.bind_some, if_pos rfl]; exact c5⟩
  ·have p1 : 1 ≤ 16 ^ (j + 1) := Nat.one_le_pow _ _ (by decide)
   have p2 : 1 ≤ 252 ^ (j + 1) := Nat.one_le_pow _ _ (by decide)
   exact ⟨d, out, h1, h2, hB.mono (Nat.le_mul_of_pos_right _ p1) (Nat.le_mul_of_pos_right _ p2), by omega, by rw [Qak, pm_stop hr (by omega)]; rfl⟩
theorem QrD (hr : Rw e0 l) (hl : ∀ n ∈ l, I64 n) : ∃ d p, RwR d p ∧ Trm p ∧ HL 1 1 p ∧ p.length ≤ 6 ∧ Qaj G QfT [e0] = some (.d d) := by
 rw [Qad (cf := QcB) rfl]
 have a0 := at_spec (i := 0) (m := 3) hr hl (by omega)
 have a1 := at_spec (i := 1) (m := 5) hr hl (by omega)
 have b1 := atr_b l 1 (m := 5) (by omega)
 generalize atr l 0 3 = x0 at *
 generalize atr l 1 5 = x1 at *
 by_cases h0 : x0 = 0
 ·have e1 : (x0 == 0) = true := Qie h0
  obtain ⟨L, c1, c2, c3⟩ := pl_loop hr hl 5 1 [] (by omega) rfl (by omega) (fun q hq => by simp at hq)
  have HLs := HL.smalls L c2
  obtain ⟨d', t1, gT⟩ := QdC (dR_ok L) (by omega) (HLs.sz.mono (by omega))
  have HBs := HB.smalls L c2
  have p5 : 4 ^ L.length ≤ 4 ^ 5 := Nat.pow_le_pow_right (by decide) c1
  refine ⟨d', QaS L, t1, Qbr _, (HBs.trim).hl (by rw [Nat.pow_one]; show _ ≤ 1000000000; omega) (by rw [Nat.pow_one]; show _ ≤ 1000000000; omega), Nat.le_trans (Qcs L) (by omega), ?_⟩
  have n1 : ((1 : Nat) : Int) = 1 := rfl
  rw [n1] at c3
  simp only [iv] at a0
  by_cases hL : L = []
  ·subst hL
   have gT' : Qaj G QaM [.z true] = some (.d d') := gT
   simp only [Qkn, QnI, QgW, QgD, Qac, go_sem] at c3
   simp -implicitDefEqProofs (maxSteps:=9^8) only [QcB, Qhb, a0, e1, c3, gT', Qac, go_sem, iv, bv, reduceCtorEq, ↓reduceIte, Nat.reduceEqDiff]
  ·rw [dR, if_neg hL, rowR] at gT
   simp only [Qkn, QnI, QgW, QgD, Qj0 hL, Qkg hL, Qac, go_sem] at c3
   simp -implicitDefEqProofs (maxSteps:=9^8) only [QcB, Qhb, a0, e1, c3, gT, QlD, QbX, Qac, go_sem, iv, bv, reduceCtorEq, ↓reduceIte, Nat.reduceEqDiff]
 ·have e1 : (x0 == 0) = false := Qcy h0
  obtain ⟨z, hz⟩ : ∃ z, 1 + x1 = z := ⟨_, rfl⟩
  have w1 : w64 (1 + x1) = z := by rw [Qaf (by omega) (by omega), hz]
  have o1 := Qd7 (n := z) (d := 1) ⟨by omega, by omega⟩ ⟨by omega, by omega⟩
  have Hc : H1 1 1 (Rat.divInt z 1) := ⟨(1 : Int).natAbs, by decide, by rw [Nat.pow_one]; decide, (Hq.div (n := z) (d := 1) (by omega)).le (by rw [Nat.pow_one]; show _ ≤ 1000000000; omega)⟩
  have Bc : HB 1 5 [Rat.divInt z 1] := HB.int (by omega)
  generalize Rat.divInt z 1 = c at *
  obtain ⟨d1, t1, gT⟩ := QdC (RwR.row [c]) (by simp only [List.length_cons, List.length_nil]; omega) ((HL.one Hc).sz.mono (by omega))
  have n1 : (QaS [c]).length ≤ 1 := Qcs _
  obtain ⟨d', out', b1, b2, b3, b4, b5⟩ := pm_loop hr hl 3 2 d1 (QaS [c]) (by omega) (by omega) t1 (Qbr _) ((HL.one Hc).trim.mono (by omega) (by omega)) (by omega) 1 5 Bc.trim
  refine ⟨d', out', b1, b2, b3.hl (by decide) (by decide), b4, ?_⟩
  have n2 : ((2 : Nat) : Int) = 2 := rfl
  rw [n2] at b5
  simp only [rowR, cRs, List.length_cons, List.length_nil, Nat.reduceAdd] at gT
  simp only [encR, iv] at a0 a1 o1
  simp only [Qlp, pm_en, go_sem] at b5
  simp -implicitDefEqProofs (maxSteps:=9^8) only [QcB, a0, a1, e1, w1, o1, gT, b5, Qkk, go_sem, iv, bv, reduceCtorEq, ↓reduceIte, Nat.reduceEqDiff]
end
end Go.AM

/- How great the coefficients of a shift are. -/
namespace Go.AM
open Go Go.RowKit

theorem evR_dropL (l : List Rat) (x : Rat) {k : Nat} (h : k < l.length) : evR (l.drop k) x = evR (l.drop (k + 1)) x * x + l.getD k 0 := by
 have e : l.drop k = l.getD k 0 :: l.drop (k + 1) := by
  rw [List.drop_eq_getElem_cons h, List.getD_eq_getElem?_getD, List.getElem?_eq_getElem h]; rfl
 rw [e, Qas]
theorem Qqd (a : Rat) : ∀ (s : List Rat) (i : Nat), s ≠ [] → (evR s a :: syn s a).getD i 0 = evR (s.drop i) a
 | [], _, h => absurd rfl h
 | [x], 0, _ => rfl
 | [x], i + 1, _ => by
  rw [syn]
  show (0 : Rat) = evR ([].drop i) a
  rw [List.drop_nil, QaG]
 | x :: b :: l, 0, _ => rfl
 | x :: b :: l, i + 1, _ => by
  rw [syn]
  show (evR (b :: l) a :: syn (b :: l) a).getD i 0 = evR ((b :: l).drop i) a
  exact Qqd a (b :: l) i (by simp)
theorem hst_getD {l : List Rat} {a : Rat} {j : Nat} (hj : j < l.length) (t : Nat) : (hst l a j).getD t 0 = if t < j then l.getD t 0 else evR (l.drop t) a := by
  have hT : (l.take j).length = j := by rw [List.length_take]; omega
  unfold hst
  by_cases h : t < j
  · rw [if_pos h, List.getD_eq_getElem?_getD, List.getElem?_append_left (by omega), List.getElem?_take_of_lt h, ← List.getD_eq_getElem?_getD]
  · rw [if_neg h, List.getD_eq_getElem?_getD, List.getElem?_append_right (by omega), ← List.getD_eq_getElem?_getD, hT, Qqd      a _ _ (by
      intro h0; have := congrArg List.length h0; rw [List.length_drop] at this; simp at this; omega), List.drop_drop, show j + (t - j) = t by omega]
def WS (D v n H : Nat) (l : List Rat) : Prop := ∀ k, k ≤ n → Hq (D * v ^ (n - k)) H (l.getD k 0)
theorem WS.suffix {D v n H U : Nat} {l : List Rat} {a : Rat} (h : WS D v n H l) (ha : Hq v U a) (hl : l.length ≤ n) : ∀ j t : Nat, t + j = n → Hq (D * v ^ (n - t)) (H * (1 + U) ^ j) (evR (l.drop t) a)
 | 0, t, ht => by
  rw [List.drop_of_length_le (by omega), QaG]; exact Hq.zero _ _
 | j + 1, t, ht => by
  by_cases h1 : t < l.length
  ·have ih := WS.suffix h ha hl j (t + 1) (by omega)
   have h2 := ih.mul ha
   have h3 := h t (by omega)
   have e : D * v ^ (n - (t + 1)) * v = D * v ^ (n - t) := by
    rw [show n - t = (n - (t + 1)) + 1 by omega, Nat.pow_succ, Nat.mul_assoc]
   rw [e] at h2
   rw [evR_dropL l a h1]
   refine (h2.add h3).le ?_
   have e1 : H * (1 + U) ^ (j + 1) = H * (1 + U) ^ j * U + H * (1 + U) ^ j := by
    rw [Nat.pow_succ, ← Nat.mul_assoc, Nat.mul_add, Nat.mul_one, Nat.add_comm]
   rw [e1]
   have : H ≤ H * (1 + U) ^ j := Nat.le_mul_of_pos_right _ (Nat.pow_pos (by omega))
   omega
  ·rw [List.drop_of_length_le (by omega), QaG]; exact Hq.zero _ _
theorem WS.hst {D v n H U : Nat} {l : List Rat} {a : Rat} (h : WS D v n H l) (ha : Hq v U a) (hl : l.length ≤ n) {j : Nat} (hj : j < l.length) : WS D v n (H * (1 + U) ^ n) (hst l a j) := fun k hk => by
 rw [hst_getD hj]
 split
 ·exact (h k hk).le (Nat.le_mul_of_pos_right _ (Nat.pow_pos (by omega)))
 ·exact (h.suffix ha hl (n - k) k (by omega)).le (Nat.mul_le_mul_left _ (Nat.pow_le_pow_right (by omega) (by omega)))
theorem WS.pas {D v n H U : Nat} {l : List Rat} {a : Rat} (h : WS D v n H l) (ha : Hq v U a) (hl : l.length ≤ n) : ∀ i, i ≤ l.length → WS D v n (H * ((1 + U) ^ n) ^ i) (pas l a i)
 | 0, _ => by rw [Nat.pow_zero, Nat.mul_one]; exact h
 | i + 1, hi => by
  have ih := WS.pas h ha hl i (by omega)
  have := ih.hst ha (by rw [Qo6 i (by omega)]; exact hl) (j := i) (by rw [Qo6 i (by omega)]; omega)
  rw [Nat.mul_assoc, ← Nat.pow_succ] at this
  exact this
end Go.AM

/- Small helps for the laws of ref06.Poly's polynomials. -/
namespace Go.AM
open Go Go.RowKit Go.Proofs
theorem H1.add {d1 h1 d2 h2 : Nat} {a b : Rat} (H : H1 d1 h1 a) (H' : H1 d2 h2 b) : H1 (d1 + d2) (max (h1 + d2) (h2 + d1) + 1) (a + b) := by
 obtain ⟨D, a1, a2, a3⟩ := H
 obtain ⟨E, b1, b2, b3⟩ := H'
 refine ⟨D * E, Nat.mul_pos a1 b1, Qcz a2 b2, ((a3.lift E).add (b3.lift' D)).le (Qqo ?_ ?_)⟩
 ·exact Nat.le_trans (Qcz (Nat.le_refl _) b2) (QdX (by omega))
 ·exact Nat.le_trans (Qcz a2 (Nat.le_refl _)) (QdX (by omega))
variable [Its]
end Go.AM

/- ref06: At, Add, Scale, Sub, Derive, Eval, Shift. -/
namespace Go.AM
open Go Go.RowKit

variable [Its]

/-! ### Add -/
section
variable {d d2 : D} {l m : List Rat} {K : Nat}
end

/-! ### Scale -/
section
variable {d : D} {l : List Rat} {a : Rat} {K : Nat}
end
end Go.AM

/- ref06: Sub, Derive, Eval, Shift. -/
namespace Go.AM
open Go Go.RowKit

variable [Its]

section
variable {d d2 : D} {l m : List Rat} {K : Nat}
end

/-! ### Derive -/
section
variable {d : D} {l : List Rat} {K : Nat}
/-! ### Eval -/
/-! ### Shift -/
end
end Go.AM

/- Division: what it means, that it is the only one, how great the coefficients are. -/
namespace Go.AM
open Go Go.RowKit

theorem Qdq {l : List Rat} (h : Trm l) (hne : l ≠ []) : l.getD (l.length - 1) 0 ≠ 0 := by
 have hp : 0 < l.length := List.length_pos_iff.2 hne
 exact h (l.length - 1) (by omega)
theorem QqU (x : Rat) {l : List Rat} {t : Nat} {c : Rat} (h : t < l.length) : evR (l.set t c) x = evR l x + (c - l.getD t 0) * x ^ t := by
 have : ∀ (l : List Rat) (t : Nat) (c : Rat), t < l.length → evR (l.set t c) x = evR l x + (c - l.getD t 0) * x ^ t := by
  intro l
  induction l with
  | nil => intro t c h; simp at h
  | cons a l ih =>
   intro t c h
   cases t with
   | zero =>
    show evR l x * x + c = evR l x * x + a + (c - a) * x ^ 0
    rw [Rat.pow_zero]; generalize evR l x = u; grind
   | succ t =>
    have := ih t c (by simpa using h)
    show evR (l.set t c) x * x + a = evR l x * x + a + (c - l.getD t 0) * x ^ (t + 1)
    rw [this, Rat.pow_succ]
    generalize evR l x = u; generalize x ^ t = p; generalize l.getD t 0 = v; grind
 exact this l t c h
theorem Qqg (x : Rat) (k : Nat) : ∀ i : Nat, x ^ (k + i) = x ^ k * x ^ i
 | 0 => by rw [Nat.add_zero, Rat.pow_zero, Rat.mul_one]
 | i + 1 => by rw [← Nat.add_assoc, Rat.pow_succ, Rat.pow_succ, Qqg x k i, Rat.mul_assoc]
theorem evR_take (q : List Rat) (x : Rat) {i : Nat} (h : i < q.length) : evR (q.take (i + 1)) x = evR (q.take i) x + q.getD i 0 * x ^ i := by
 have e : q.take (i + 1) = q.take i ++ [q.getD i 0] := by
  rw [List.take_add_one]
  simp [List.getD, h]
 rw [e, QkE, List.length_take, Nat.min_eq_left (by omega)]
theorem evR_dvI {R q : List Rat} {k : Nat} {f x : Rat} : ∀ i, i ≤ q.length → k + q.length ≤ R.length → evR (dvI R q k f i) x = evR R x - f * x ^ k * evR (q.take i) x
 | 0, _, _ => by rw [dvI, List.take_zero, QaG]; grind
 | i + 1, hi, hk => by
  rw [dvI, QqU x (by rw [Qg1]; omega), evR_dvI i (by omega) hk, evR_take q x (by omega), Qqg]
  generalize evR R x = a; generalize evR (q.take i) x = b; generalize x ^ k = p; generalize x ^ i = r; generalize q.getD i 0 = c; generalize (dvI R q k f i).getD (k + i) 0 = e
  grind
theorem evR_dv {R q : List Rat} {k : Nat} {f x : Rat} (hk : k + q.length ≤ R.length) : evR (dvI R q k f q.length) x = evR R x - f * x ^ k * evR q x := by
 have := evR_dvI (x := x) (f := f) q.length (Nat.le_refl _) hk
 rwa [List.take_length] at this
theorem dvO_ev (q : List Rat) (x : Rat) : ∀ (m : Nat) (R O : List Rat), (0 < m → m - 1 + q.length ≤ R.length) → m ≤ O.length → (∀ t, t < m → O.getD t 0 = 0) → evR (dvO q m R O).2 x * evR q x + evR (dvO q m R O).1 x = evR O x * evR q x + evR R x
 | 0, R, O, _, _, _ => rfl
 | k + 1, R, O, h, hO, hz => by
  have hk : k + q.length ≤ R.length := by have := h (by omega); omega
  rw [dvO, dvO_ev q x k _ _ (fun _ => by rw [Qg1]; omega) (by rw [List.length_set]; omega) (fun t ht => by rw [QoB (by omega), if_neg (by omega)]; exact hz t (by omega)), evR_dv hk, QqU x (by omega), hz k (by omega)]
  generalize evR O x = a; generalize evR R x = b; generalize evR q x = c; generalize x ^ k = p; generalize dvF R q k = f
  grind
theorem dvO_deg {q : List Rat} (hq : q.getD (q.length - 1) 0 ≠ 0) (hq0 : 0 < q.length) : ∀ (m : Nat) (R O : List Rat), (0 < m → m - 1 + q.length ≤ R.length) → (∀ t, m + q.length - 1 ≤ t → R.getD t 0 = 0) → ∀ t, q.length - 1 ≤ t → (dvO q m R O).1.getD t 0 = 0
 | 0, R, O, _, hz, t, ht => hz t (by omega)
 | k + 1, R, O, h, hz, t, ht => by
  have hk : k + q.length ≤ R.length := by have := h (by omega); omega
  rw [dvO]
  refine dvO_deg hq hq0 k _ _ (fun _ => by rw [Qg1]; omega) (fun t ht => ?_) t ht
  rw [QiX q.length (by omega)]
  by_cases h1 : t = k + q.length - 1
  ·subst h1
   rw [if_pos (by omega), show k + q.length - 1 - k = q.length - 1 by omega, dvF, Rat.div_def, Rat.mul_assoc, Rat.inv_mul_cancel _ hq, Rat.mul_one, Rat.sub_self]
  ·rw [if_neg (by omega)]
   exact hz t (by omega)
theorem Qpx {l : List Rat} {n : Nat} (hl : Trm l) (h : ∀ t, n ≤ t → l.getD t 0 = 0) : l.length ≤ n := by
 by_cases hl0 : l.length ≤ n
 ·exact hl0
 ·exact absurd (h (l.length - 1) (by omega)) (hl (l.length - 1) (by omega))
theorem QjD {p q : List Rat} (hq : Trm q) (hq0 : q ≠ []) : (∀ x, evR p x = evR (quoP p q) x * evR q x + evR (remP p q) x) ∧ (remP p q).length ≤ q.length - 1 ∧ Trm (quoP p q) ∧ Trm (remP p q) := by
  have hl : 0 < q.length := List.length_pos_iff.2 hq0
  unfold quoP remP
  rw [if_neg hq0, if_neg hq0]
  refine ⟨fun x => ?_, ?_, Qbr _, Qbr _⟩
  · rw [Qa0     , Qa0     , dvO_ev q x (dvN p q) p (List.replicate (dvN p q) 0) (fun h => by unfold dvN at h ⊢; omega) (by simp) (fun t ht => by
      rw [List.getD_eq_getElem?_getD, List.getElem?_replicate, if_pos ht]; rfl), Qjh (fun r hr => (List.mem_replicate.1 hr).2), Rat.zero_mul, Rat.zero_add]
  · refine Qpx (Qbr _) (fun t ht => ?_)
    rw [Qfk]
    refine dvO_deg (Qdq hq hq0) hl _ _ _ (fun h => by unfold dvN at h ⊢; omega) (fun t ht => QaZ (by unfold dvN at ht; omega)) t ht
theorem QkL {s q : List Rat} (hs : 0 < s.length) (hq : 0 < q.length) : conv s q (s.length - 1 + (q.length - 1)) = s.getD (s.length - 1) 0 * q.getD (q.length - 1) 0 := by
 obtain ⟨n, hn⟩ : ∃ n, s.length = n + 1 := ⟨s.length - 1, by omega⟩
 unfold conv
 rw [hn, Nat.add_sub_cancel]
 have h1 : sumR (fun i => s.getD i 0 * q.getD (n + (q.length - 1) - i) 0) (n + (q.length - 1) + 1) = sumR (fun i => s.getD i 0 * q.getD (n + (q.length - 1) - i) 0) (n + 1) := by
  rw [show n + (q.length - 1) + 1 = (n + 1) + (q.length - 1) by omega]
  exact QlH _ (fun i h1 _ => by rw [QaZ (l := s) (by omega), Rat.zero_mul])
 rw [h1, sumR, Qfv n (fun i hi => by rw [QaZ (l := q) (by omega), Rat.mul_zero]), Rat.zero_add, show n + (q.length - 1) - n = q.length - 1 by omega]
theorem QmQ (l m : List Rat) (k : Nat) : (muP l m).getD k 0 = conv l m k := by
 rw [muP, Qfk]
 by_cases h : k < l.length + m.length - 1
 ·rw [Qi3 _ h]
 ·rw [QaZ (by simp; omega), QqH (by omega)]
theorem sb_getD (l m : List Rat) (k : Nat) : (sbP l m).getD k 0 = l.getD k 0 - m.getD k 0 := by
 rw [sbP, Qfk]
 by_cases h : k < max l.length m.length
 ·rw [Qi3 _ h]
 ·rw [QaZ (by simp; omega), QaZ (l := l) (by omega), QaZ (l := m) (by omega), Rat.sub_self]
theorem div_uniq {q a1 r1 a2 r2 : List Rat} (hq : Trm q) (hq0 : q ≠ []) (t1 : Trm a1) (t2 : Trm a2) (u1 : Trm r1) (u2 : Trm r2) (n1 : r1.length ≤ q.length - 1) (n2 : r2.length ≤ q.length - 1) (h : ∀ x, evR a1 x * evR q x + evR r1 x = evR a2 x * evR q x + evR r2 x) : a1 = a2 ∧ r1 = r2 := by
 have hl : 0 < q.length := List.length_pos_iff.2 hq0
 have hs : sbP a1 a2 = [] := by
  by_cases h0 : sbP a1 a2 = []
  ·exact h0
  ·have hsl : 0 < (sbP a1 a2).length := List.length_pos_iff.2 h0
   have hev : ∀ x, evR (muP (sbP a1 a2) q) x = evR (sbP r2 r1) x := fun x => by
    rw [Qaq, QmC, QmC]
    have := h x
    generalize evR a1 x = a at *; generalize evR a2 x = b at *; generalize evR q x = c at *; generalize evR r1 x = d at *; generalize evR r2 x = e at *
    grind
   have hc := Qnv (c := 0) (fun x _ => hev x) ((sbP a1 a2).length - 1 + (q.length - 1))
   rw [QmQ, QkL hsl hl, sb_getD r2 r1, QaZ (l := r2) (by omega), QaZ (l := r1) (by omega), Rat.sub_self] at hc
   rcases Rat.mul_eq_zero.1 hc with h1 | h1
   ·exact absurd h1 (Qdq (trm_sb _ _) h0)
   ·exact absurd h1 (Qdq hq hq0)
 have ha : a1 = a2 := QpW t1 t2 (fun k => by
  have := sb_getD a1 a2 k
  rw [hs, QaZ (by simp)] at this
  generalize a1.getD k 0 = u at *; generalize a2.getD k 0 = v at *
  grind)
 refine ⟨ha, QfK u1 u2 (fun x => ?_)⟩
 have := h x
 rw [ha] at this
 generalize evR a2 x * evR q x = u at *
 grind

/-! ### Sizes -/
theorem Hq.ratio {E Y : Nat} {c : Rat} (hE : 0 < E) (hc : c ≠ 0) (h : Hq E Y c) : ∃ s : Nat, 0 < s ∧ s ≤ Y ∧ ∀ (Z : Nat) (v : Rat), Hq E Z v → Hq s Z (v / c) := by
  obtain ⟨m, h1, h2⟩ := h
  have hm : m ≠ 0 := fun h0 => by
    rw [h0] at h1
    have h3 : c * cN E = 0 := h1
    rcases Rat.mul_eq_zero.1 h3 with h4 | h4
    · exact hc h4
    · exact cN_ne hE h4
  have key : ∀ v, v / c * (m : Rat) = v * cN E := fun v => by
    rw [← h1, Rat.div_def, Rat.mul_assoc, ← Rat.mul_assoc c⁻¹, Rat.inv_mul_cancel _ hc, Rat.one_mul]
  refine ⟨m.natAbs, by omega, h2, fun Z v hv => ?_⟩
  obtain ⟨n, n1, n2⟩ := hv
  rcases Int.lt_trichotomy m 0 with h3 | h3 | h3
  · have e : cN m.natAbs = -(m : Rat) := by
      unfold cN
      rw [show ((m.natAbs : Nat) : Int) = -m by omega, Rat.intCast_neg]
    exact ⟨-n, by rw [e, Rat.mul_neg, key, n1, Rat.intCast_neg], by omega⟩
  · exact absurd h3 hm
  · have e : cN m.natAbs = (m : Rat) := by
      unfold cN
      rw [show ((m.natAbs : Nat) : Int) = m by omega]
    exact ⟨n, by rw [e, key, n1], n2⟩
theorem Hq.one (E : Nat) : Hq E E 1 := ⟨(E : Int), by rw [Rat.one_mul]; rfl, by omega⟩
theorem dv_step {D X E Y s : Nat} {R q : List Rat} {k : Nat} (hR : ∀ x ∈ R, Hq D X x) (hq : ∀ x ∈ q, Hq E Y x) (hs : ∀ (Z : Nat) (v : Rat), Hq E Z v → Hq s Z (v / q.getD (q.length - 1) 0)) (hk : k + q.length ≤ R.length) :
    (∀ x ∈ dvI R q k (dvF R q k) q.length, Hq (D * s) (X * (s + Y)) x) ∧ Hq (D * s) (X * E) (dvF R q k) := by
  have hf : Hq (D * s) (X * E) (dvF R q k) := by
    have := (Hq.getD hR (k + q.length - 1)).mul (hs E 1 (Hq.one E))
    unfold dvF
    rwa [Rat.div_def, Rat.one_mul, ← Rat.div_def] at this
  refine ⟨fun x hx => ?_, hf⟩
  obtain ⟨t, ht, rfl⟩ := List.mem_iff_getElem.1 hx
  have e : (dvI R q k (dvF R q k) q.length)[t] = (dvI R q k (dvF R q k) q.length).getD t 0 := by
    rw [List.getD_eq_getElem?_getD, List.getElem?_eq_getElem ht]; rfl
  rw [e, QiX q.length hk]
  have hRt := (Hq.getD hR t).lift s
  split
  · have hfq : Hq (D * s) (X * Y) (dvF R q k * q.getD (t - k) 0) := by
      have h1 := (Hq.getD hR (k + q.length - 1)).mul (hs Y _ (Hq.getD hq (t - k)))
      have e2 : R.getD (k + q.length - 1) 0 * (q.getD (t - k) 0 / q.getD (q.length - 1) 0) = dvF R q k * q.getD (t - k) 0 := by
        unfold dvF
        rw [Rat.div_def, Rat.div_def]
        generalize R.getD (k + q.length - 1) 0 = a; generalize (q.getD (q.length - 1) 0)⁻¹ = b; generalize q.getD (t - k) 0 = c
        grind
      rwa [e2] at h1
    rw [Nat.mul_add]
    exact hRt.sub hfq
  · rw [Nat.mul_add]
    exact hRt.le (by omega)
theorem dv_all {E Y s : Nat} {q : List Rat} {d e g : Nat} (hq : ∀ x ∈ q, Hq E Y x) (hs : ∀ (Z : Nat) (v : Rat), Hq E Z v → Hq s Z (v / q.getD (q.length - 1) 0)) (hs0 : 0 < s) (hsB : s ≤ BB ^ g) (hYB : Y ≤ BB ^ g) (hEB : E ≤ BB ^ e) {K : Nat} :
    ∀ (m D h : Nat) (R O : List Rat), 0 < D → D ≤ BB ^ d → (∀ x ∈ R, Hq D (BB ^ h) x) → (∀ x ∈ O, Hq D (BB ^ (h + e)) x) → (0 < m → m - 1 + q.length ≤ R.length) → max (d + m * g) (h + m * (g + 1) + e) + 1 ≤ K →
    dvG K q m R ∧ ∃ D', 0 < D' ∧ D' ≤ BB ^ (d + m * g) ∧ (∀ x ∈ (dvO q m R O).1, Hq D' (BB ^ (h + m * (g + 1))) x) ∧ (∀ x ∈ (dvO q m R O).2, Hq D' (BB ^ (h + m * (g + 1) + e)) x) := by
  intro m
  induction m generalizing d with
  | zero =>
    intro D h R O hD hd hR hO _ _
    exact ⟨trivial, D, hD, by rw [Nat.zero_mul, Nat.add_zero]; exact hd, by rw [Nat.zero_mul, Nat.add_zero]; exact hR, by rw [Nat.zero_mul, Nat.add_zero]; exact hO⟩
  | succ k ih =>
    intro D h R O hD hd hR hO hk hK
    have hk' := hk (by omega)
    obtain ⟨a1, a2⟩ := dv_step (k := k) hR hq hs (by omega)
    have e1 : (k + 1) * g = g + k * g := by rw [Nat.succ_mul, Nat.add_comm]
    have e2 : (k + 1) * (g + 1) = (g + 1) + k * (g + 1) := by rw [Nat.succ_mul, Nat.add_comm]
    have hb : BB ^ h * (s + Y) ≤ BB ^ (h + (g + 1)) := Qcz (Nat.le_refl _) (Qqo hsB hYB)
    have hR' : ∀ x ∈ dvI R q k (dvF R q k) q.length, Hq (D * s) (BB ^ (h + (g + 1))) x := fun x hx => (a1 x hx).le hb
    have hO' : ∀ x ∈ O.set k (dvF R q k), Hq (D * s) (BB ^ (h + (g + 1) + e)) x := fun x hx => by
      rcases List.mem_or_eq_of_mem_set hx with h1 | h1
      · exact ((hO x h1).lift s).le (Nat.le_trans (Qcz (Nat.le_refl _) hsB) (QdX (by omega)))
      · rw [h1]
        exact a2.le (Nat.le_trans (Qcz (Nat.le_refl _) hEB) (QdX (by omega)))
    have := ih (d := d + g) (D * s) (h + (g + 1)) (dvI R q k (dvF R q k) q.length) (O.set k (dvF R q k)) (Nat.mul_pos hD hs0) (Qcz hd hsB) hR' hO' (fun _ => by rw [Qg1]; omega) (by
      rw [e1, e2] at hK; omega)
    obtain ⟨b1, D', b2, b3, b4, b5⟩ := this
    refine ⟨⟨fun x hx => ?_, b1⟩, D', b2, ?_, ?_, ?_⟩
    · have := Hq.sz hD hd (Nat.le_refl _) (hR x hx)
      rw [e1, e2] at hK; omega
    · rw [e1, ← Nat.add_assoc]; exact b3
    · rw [dvO, e2, ← Nat.add_assoc]; exact b4
    · rw [dvO, e2, ← Nat.add_assoc]; exact b5
theorem Qkb {d h e g : Nat} {p q : List Rat} (Hp : HL d h p) (Hq' : HL e g q) (hq : Trm q) {K : Nat} (hK : max (d + dvN p q * g) (h + dvN p q * (g + 1) + e) + 1 ≤ K) : dvG K q (dvN p q) p ∧ HL (d + dvN p q * g) (h + dvN p q * (g + 1)) (remP p q) ∧ HL (d + dvN p q * g) (h + dvN p q * (g + 1) + e) (quoP p q) := by
 obtain ⟨D, a1, a2, a3⟩ := Hp
 obtain ⟨E, b1, b2, b3⟩ := Hq'
 by_cases hq0 : q = []
 ·have r1 : remP p q = [] := if_pos hq0
  have r2 : quoP p q = [] := if_pos hq0
  rw [r1, r2]
  refine ⟨?_, HL.nil _ _, HL.nil _ _⟩
  subst hq0
  have hg : ∀ (m : Nat) (R : List Rat), SzL K R → dvG K [] m R := by
   intro m
   induction m with
   | zero => intro R _; trivial
   | succ k ih => intro R hR; exact ⟨hR, ih _ hR⟩
  exact hg _ _ (fun x hx => Nat.le_trans ((a3 x hx).sz a1 a2 (Nat.le_refl _)) (by omega))
 ·obtain ⟨s, s1, s2, s3⟩ := Hq.ratio b1 (Qdq hq hq0) (Hq.getD b3 (q.length - 1))
  obtain ⟨c1, D', c2, c3, c4, c5⟩ := dv_all (d := d) (e := e) (g := g) (K := K) b3 s3 s1 s2 (Nat.le_refl _) b2 (dvN p q) D h p (List.replicate (dvN p q) 0) a1 a2 a3 (fun x hx => by rw [(List.mem_replicate.1 hx).2]; exact Hq.zero _ _) (fun hm => by unfold dvN at hm ⊢; omega) hK
  have r1 : remP p q = QaS (dvO q (dvN p q) p (List.replicate (dvN p q) 0)).1 := if_neg hq0
  have r2 : quoP p q = QaS (dvO q (dvN p q) p (List.replicate (dvN p q) 0)).2 := if_neg hq0
  rw [r1, r2]
  exact ⟨c1, HL.trim ⟨D', c2, c3, c4⟩, HL.trim ⟨D', c2, c3, c5⟩⟩
theorem Qh2 {d h : Nat} {l : List Rat} (H : HL d h l) (hl : Trm l) : HL h h (mnP l) := by
 unfold mnP
 split
 ·exact HL.nil _ _
 ·rename_i hne
  obtain ⟨D, a1, a2, a3⟩ := H
  obtain ⟨s, s1, s2, s3⟩ := Hq.ratio a1 (Qdq hl hne) (Hq.getD a3 (l.length - 1))
  refine HL.made s1 s2 (Nat.le_refl _) (fun k _ => ?_)
  have := s3 _ _ (Hq.getD a3 k)
  rw [Rat.div_def, Rat.one_mul]
  rwa [Rat.div_def] at this
end Go.AM

/- ref06: Div, Monic, Gcd, Free. -/
namespace Go.AM
open Go Go.RowKit

theorem H1_of_sz {q : Rat} {K : Nat} (h : sz q ≤ K) : H1 K K q := by
 have h1 : nd q.num ≤ K := Nat.le_trans (Nat.le_max_left _ _) h
 have h2 : nd (q.den : Int) ≤ K := Nat.le_trans (Nat.le_max_right _ _) h
 have hd := Hq.div (n := q.num) (d := (q.den : Int)) (by have := q.den_pos; omega)
 rw [Rat.num_divInt_den, Int.natAbs_natCast] at hd
 refine ⟨q.den, q.den_pos, ?_, hd.le (Nat.le_trans (Nat.le_of_lt (Qdj q.num)) (QdX h1))⟩
 have := Qdj (q.den : Int)
 rw [Int.natAbs_natCast] at this
 exact Nat.le_trans (Nat.le_of_lt this) (QdX h2)
variable [Its]

section
variable {dq : D} {q : List Rat} {K e g : Nat}
end
end Go.AM

/- How great the divisors are; ref06: Monic, Gcd, Free. -/
namespace Go.AM
open Go Go.RowKit

theorem sc_getD (l : List Rat) (a : Rat) (k : Nat) : (scP l a).getD k 0 = l.getD k 0 * a := by
 rw [scP, Qfk]
 by_cases h : k < l.length
 ·rw [Qi3 _ h]
 ·rw [QaZ (by simp; omega), QaZ (by omega), Rat.zero_mul]
theorem Qp0 (l : List Rat) (k : Nat) : (deP l).getD k 0 = l.getD (k + 1) 0 * ((k + 1 : Nat) : Int) := by
 rw [deP, Qfk]
 by_cases h : k < l.length - 1
 ·rw [Qi3 _ h]
 ·rw [QaZ (by simp; omega), QaZ (by omega), Rat.zero_mul]
theorem Qld {l : List Rat} {n : Nat} (h : l.getD n 0 ≠ 0) : n + 1 ≤ l.length := by
 by_cases h1 : n < l.length
 ·exact h1
 ·exact absurd (QaZ (by omega)) h
theorem rinv_ne {x : Rat} (h : x ≠ 0) : 1 / x ≠ 0 := fun h0 => by
 have h1 : 1 / x * x = 1 := by rw [Rat.div_def, Rat.one_mul, Rat.inv_mul_cancel _ h]
 rw [h0, Rat.zero_mul] at h1
 exact absurd h1 (by decide)
theorem mn_getD {l : List Rat} (h : l ≠ []) (k : Nat) : (mnP l).getD k 0 = l.getD k 0 * (1 / l.getD (l.length - 1) 0) := by
 rw [mnP, if_neg h, sc_getD]
theorem QeK {l : List Rat} (hl : Trm l) : (mnP l).length = l.length := by
 by_cases h : l = []
 ·subst h; rfl
 ·have h1 := QeU l
  have hp : 0 < l.length := List.length_pos_iff.2 h
  have h2 := Qdq hl h
  have h3 : (mnP l).getD (l.length - 1) 0 ≠ 0 := by
   rw [mn_getD h]
   intro h0
   rcases Rat.mul_eq_zero.1 h0 with h4 | h4
   ·exact h2 h4
   ·exact rinv_ne h2 h4
  have := Qld h3
  omega
theorem cast_ne {n : Nat} (h : 0 < n) : (((n : Nat) : Int) : Rat) ≠ 0 := cN_ne h
theorem Qgz {l : List Rat} (hl : Trm l) : (deP l).length = l.length - 1 := by
 have h1 := Qoq l
 by_cases h : l.length ≤ 1
 ·omega
 ·have h2 := Qdq hl (fun h0 => by rw [h0] at h; simp at h)
  have h3 : (deP l).getD (l.length - 2) 0 ≠ 0 := by
   rw [Qp0, show l.length - 2 + 1 = l.length - 1 by omega]
   intro h0
   rcases Rat.mul_eq_zero.1 h0 with h4 | h4
   ·exact h2 h4
   ·exact cast_ne (by omega) h4
  have := Qld h3
  omega
theorem QnV : ∀ d : Nat, d + 3 ≤ 3 ^ (d + 1)
 | 0 => by decide
 | d + 1 => by rw [Nat.pow_succ]; have := QnV d; omega
theorem QiM {a b : Nat} (h : a < b) : (b + 2 - a) * 3 ^ a ≤ 3 ^ b := by
 obtain ⟨d, rfl⟩ : ∃ d, b = d + 1 + a := ⟨b - 1 - a, by omega⟩
 rw [Nat.pow_add]
 refine Nat.mul_le_mul_right _ ?_
 have := QnV d
 omega
theorem trm_dv (a b : List Rat) : Trm (remP a b) := by
 unfold remP
 split
 ·exact Qg3
 ·exact Qbr _
def gcH (K : Nat) : Nat → List Rat → List Rat → Prop
 | 0, _, b => b = []
 | n + 1, a, b => b = [] ∨ (HL K K b ∧ Trm b ∧ gcH K n b (mnP (remP a b)))
theorem QkM {K L : Nat} (h : K ≤ L) {q : List Rat} : ∀ (m : Nat) (R : List Rat), dvG K q m R → dvG L q m R
 | 0, _, _ => trivial
 | k + 1, R, hg => ⟨hg.1.mono h, QkM h k _ hg.2⟩
theorem Qng {K L : Nat} (h : K ≤ L) : ∀ (n : Nat) (a b : List Rat), gcG K n a b → gcG L n a b
 | 0, _, _, hg => hg
 | n + 1, a, b, hg => hg.imp id fun ⟨h1, h2, h3, h4⟩ => ⟨h1.mono h, QkM h _ _ h2, h3.mono h, Qng h n _ _ h4⟩
theorem QqI {K : Nat} : ∀ (n s : Nat) (a b : List Rat), HL s s a → HL s s b → Trm b → b.length < n → (s + 1) * (dvN a b + 1) * 3 ^ b.length ≤ K → gcG K n a b ∧ gcH K n a b ∧ HL K K (gcP n a b)
 | 0, _, _, b, _, _, _, h, _ => by omega
 | n + 1, s, a, b, Ha, Hb, tb, hn, hK => by
  have h3 : 1 ≤ 3 ^ b.length := Nat.one_le_pow _ _ (by decide)
  have hs : s + 1 ≤ K := Nat.le_trans (Nat.le_trans (Nat.le_mul_of_pos_right (s + 1) (by omega)) (Nat.le_mul_of_pos_right _ h3)) hK
  by_cases hb : b = []
  ·subst hb
   refine ⟨.inl rfl, .inl rfl, ?_⟩
   rw [gcP, if_pos rfl]
   exact Ha.mono (by omega) (by omega)
  ·have hlb : 0 < b.length := List.length_pos_iff.2 hb
   obtain ⟨_, q2, _, _⟩ := QjD (p := a) tb hb
   have h33 : 3 * ((s + 1) * (dvN a b + 1)) ≤ K := by
    refine Nat.le_trans ?_ hK
    rw [Nat.mul_comm 3]
    refine Nat.mul_le_mul_left _ ?_
    obtain ⟨k, hk⟩ : ∃ k, b.length = k + 1 := ⟨b.length - 1, by omega⟩
    rw [hk, Nat.pow_succ]
    have : 1 ≤ 3 ^ k := Nat.one_le_pow _ _ (by decide)
    omega
   have hr := QeU (remP a b)
   have h3' : ((s + 1) * (dvN a b + 1)) * (dvN b (mnP (remP a b)) + 1) * 3 ^ (mnP (remP a b)).length ≤ K := by
    refine Nat.le_trans ?_ hK
    rw [Nat.mul_assoc]
    refine Nat.mul_le_mul_left _ (Nat.le_trans (Nat.le_of_eq ?_) (QiM (a := (mnP (remP a b)).length) (b := b.length) (by omega)))
    congr 1
    unfold dvN; omega
   have he : (s + 1) * (dvN a b + 1) = s * dvN a b + dvN a b + s + 1 := by rw [Nat.mul_add, Nat.add_mul, Nat.mul_one, Nat.one_mul]; omega
   have he2 : dvN a b * (s + 1) = s * dvN a b + dvN a b := by rw [Nat.mul_add, Nat.mul_one, Nat.mul_comm]
   have he3 : dvN a b * s = s * dvN a b := Nat.mul_comm _ _
   obtain ⟨g1, g2, _⟩ := Qkb (K := K) Ha Hb tb (by rw [he2, he3]; omega)
   have hsz := g2.sz
   have g3 := Qh2 g2 (trm_dv a b)
   have e1 : s + dvN a b * (s + 1) + 1 = (s + 1) * (dvN a b + 1) := by omega
   obtain ⟨i1, i2, i3⟩ := QqI (K := K) n (s + dvN a b * (s + 1)) b (mnP (remP a b)) (Hb.mono (by omega) (by omega)) g3 (Qfg _) (by omega) (by rw [e1]; exact h3')
   refine ⟨.inr ⟨Hb.sz.mono (by omega), g1, hsz.mono (by omega), i1⟩, .inr ⟨Hb.mono (by omega) (by omega), tb, i2⟩, ?_⟩
   rw [gcP, if_neg hb]
   exact i3
variable [Its]

end Go.AM

/- Boxes of whole numbers, folded. -/
namespace Go.AM
open Go Go.RowKit

def cI (x : Int) : List A := [.d (.v (.bool (decide (x < 0)))), .d (dg (digs x.natAbs))]
theorem one_encI (x : Int) : A.one (.d (encI x)) = false := rfl
theorem QrR (x : Int) : QaB (.d (encI x)) = cI x := rfl
theorem dc_encI (x : Int) : Qce (.d (encI x)) = some [.v (.bool (decide (x < 0))), dg (digs x.natAbs)] := rfl
theorem all_cI (x : Int) : (cI x).all A.one = true := by
 simp only [cI, List.all_cons, List.all_nil, Qrx, QpC, Bool.and_self]
theorem len_cI (x : Int) : (cI x).length = 2 := rfl
theorem refs_cI (ks : List Key) (x : Int) : Qc7 ks (cI x) = true := rfl
theorem ld_cI (x : Int) : Qaa (some 2) 0 (cI x) = some (.d (encI x)) := rfl
theorem ld_cI0 (x : Int) : Qaa none 0 (cI x) = some (.d (.v (.bool (decide (x < 0))))) := rfl
theorem ld_cI1 (x : Int) : Qaa none 1 (cI x) = some (.d (dg (digs x.natAbs))) := rfl
theorem st_cI (x y : Int) : Qab 0 (cI x) (cI y) = some (cI x) := rfl
theorem st_cIn (x : Int) (u v : A) : Qab 0 (cI x) [u, v] = some (cI x) := rfl
theorem ad_cI (x : Int) : allD (cI x) = some [.v (.bool (decide (x < 0))), dg (digs x.natAbs)] := rfl
theorem ag_encI (x : Int) : aggA (.d (encI x)) = some [.v (.bool (decide (x < 0))), dg (digs x.natAbs)] := rfl
attribute [go_sem] one_encI QrR dc_encI all_cI len_cI refs_cI ld_cI ld_cI0 ld_cI1 st_cI st_cIn ad_cI ag_encI
end Go.AM

/- integer.Small, ref04.Small. -/
namespace Go.AM
open Go Go.RowKit

def au (u : Int) : A := .d (.v (.int .u64 u))
attribute [go_sem] au
variable [Its]

section
variable {x : Int} {l : List Int} (hl : digs x.natAbs = l)
end

end Go.AM

/- ref04.Small. -/
namespace Go.AM
open Go Go.RowKit

variable [Its]
section
variable {x : Int} {l : List Int}
end
end Go.AM

/- Square roots of whole numbers: Newton's step, and halving. -/
namespace Go.AM

end Go.AM

/- integer.Root, ref04.Root. -/
namespace Go.AM
open Go Go.RowKit

variable [Its]
end Go.AM

/- ref04.Root. -/
namespace Go.AM
open Go Go.RowKit
variable [Its]
end Go.AM

/- Points, directions, edges: rows of them; ref12's small functions. -/
namespace Go.AM
open Go Go.RowKit

abbrev Pt := Int × Int
def cP (p : Pt) : List D := [iv p.1, iv p.2]
/-! ### Rows of things of es cells -/
section
variable {α : Type} {en : α → List D} {es : Nat}
def rowE (en : α → List D) (l : List α) : D := .row l.length (l.flatMap en)
def RwE (en : α → List D) (d : D) (l : List α) : Prop := (d = .z true ∧ l = []) ∨ d = rowE en l
theorem QoE (hE : ∀ a, (en a).length = es) : ∀ (l : List α) (j : Nat), (l.flatMap en).drop (j * es) = (l.drop j).flatMap en
 | l, 0 => by simp
 | [], j + 1 => by simp
 | a :: l, j + 1 => by
  rw [List.flatMap_cons, List.drop_succ_cons, ← QoE hE l j, Nat.succ_mul, Nat.add_comm, ← List.drop_drop]
  rw [List.drop_left' (hE a)]
theorem RwE.len {d : D} {l : List α} (h : RwE en d l) : lenA (.d d) = some l.length := by
 rcases h with ⟨rfl, rfl⟩ | rfl <;> rfl
theorem RwE.ixa (hE : ∀ a, (en a).length = es) {d : D} {l : List α} (hr : RwE en d l) {j : Nat} (h1 : j < l.length) (h : Hp) : ixaA h es (j : Int) (.d d) = some (.d (.rp ((l.drop j).flatMap en))) := by
 rcases hr with ⟨rfl, rfl⟩ | rfl
 ·simp at h1
 ·simp only [rowE, ixaA, guardO]
  rw [if_pos ⟨by omega, by omega⟩]
  simp only [Int.toNat_natCast]
  rw [QoE hE]
end
def Sm (n : Int) : Prop := -100000000 ≤ n ∧ n ≤ 100000000
def g3 (dx dy h : Int) : Int := (Int.gcd (Int.gcd dx dy) h : Int)
variable [Its]
/-! ### Normals -/
/-! ### Moved shapes -/
/-! ### Shapes -/
end Go.AM

/- ref07: Changes, counted, Middle, halved. -/
namespace Go.AM
open Go Go.RowKit
def RwC (d : D) (ps : List (List Rat)) : Prop := ∃ ds : List D, ds.length = ps.length ∧ (∀ i, i < ps.length → RwR (ds.getD i (.z true)) (ps.getD i [])) ∧ (d = .row ds.length ds ∨ (d = .z true ∧ ds = []))
theorem RwC.len {d : D} {ps : List (List Rat)} (h : RwC d ps) : lenA (.d d) = some ps.length := by
 obtain ⟨ds, h1, _, rfl | ⟨rfl, rfl⟩⟩ := h
 ·rw [← h1]; rfl
 ·rw [← h1]; rfl
theorem RwC.nil : RwC (.z true) [] := ⟨[], rfl, fun i h => by simp at h, .inr ⟨rfl, rfl⟩⟩
theorem RwC.at {d : D} {ps : List (List Rat)} (h : RwC d ps) {i : Nat} (hi : i < ps.length) : ∃ x r, RwR x (ps.getD i []) ∧ (∀ hp, ixaA hp 1 (i : Int) (.d d) = some (.d (.rp r))) ∧ ∀ hp, Qci hp none (.d (.rp r)) = some (.d x) := by
 obtain ⟨ds, h1, h2, rfl | ⟨rfl, rfl⟩⟩ := h
 ·refine ⟨ds.getD i (.z true), ds.drop i, h2 i hi, fun hp => ?_, fun hp => ?_⟩
  ·simp only [ixaA, guardO]
   rw [if_pos ⟨by omega, by omega⟩]
   simp
  ·rw [List.drop_eq_getElem_cons (show i < ds.length by omega)]
   simp only [Qci, QjE]
   rw [List.getD_eq_getElem?_getD, List.getElem?_eq_getElem (show i < ds.length by omega)]
   rfl
 ·rw [← h1] at hi; simp at hi
def sgn1 (p : List Rat) (x : Rat) : Int := Int.sign (evR p x).num
def sgs (ps : List (List Rat)) (x : Rat) : List Int := (ps.map fun p => sgn1 p x).filter fun s => decide (s ≠ 0)
def chN (S : List Int) : Nat → Nat
 | 0 => 0
 | i + 1 => chN S i + (if 1 ≤ i ∧ S.getD i 0 ≠ S.getD (i - 1) 0 then 1 else 0)
def chg (ps : List (List Rat)) (x : Rat) : Nat := chN (sgs ps x) (sgs ps x).length
def cnt (ps : List (List Rat)) (lo hi : Rat) : Int := if hi ≤ lo then 0 else (chg ps lo : Int) - (chg ps hi : Int)
def mid (lo hi : Rat) : Rat := (lo + hi) * Rat.divInt 1 2
def hal (ps : List (List Rat)) (l : Rat × Rat) : Rat × Rat := if cnt ps l.1 (mid l.1 l.2) = 1 then (l.1, mid l.1 l.2) else (mid l.1 l.2, l.2)
theorem sgs_snoc (ps : List (List Rat)) (x : Rat) {i : Nat} (hi : i < ps.length) : sgs (ps.take (i + 1)) x = if sgn1 (ps.getD i []) x ≠ 0 then sgs (ps.take i) x ++ [sgn1 (ps.getD i []) x] else sgs (ps.take i) x := by
 have e : ps.take (i + 1) = ps.take i ++ [ps.getD i []] := by
  rw [List.take_add_one, List.getD_eq_getElem?_getD, List.getElem?_eq_getElem hi]; rfl
 unfold sgs
 rw [e, List.map_append, List.filter_append, List.map_cons, List.map_nil]
 generalize ps.getD i [] = p
 by_cases h : sgn1 p x = 0
 ·rw [if_neg (by simp [h]), List.filter_cons_of_neg (by simp [h]), List.filter_nil, List.append_nil]
 ·rw [if_pos h, List.filter_cons_of_pos (by simp [h]), List.filter_nil]
theorem Qqa (ps : List (List Rat)) (x : Rat) : (sgs ps x).length ≤ ps.length := by
 unfold sgs
 exact Nat.le_trans (List.length_filter_le _ _) (by simp)
theorem Qo2 (S : List Int) : ∀ i, chN S i ≤ i
 | 0 => Nat.le_refl _
 | i + 1 => by
  rw [chN]
  have := Qo2 S i
  split <;> omega
theorem Qrh {lo hi : Rat} {K L : Nat} (h1 : sz lo ≤ K) (h2 : sz hi ≤ L) : sz (mid lo hi) ≤ K + L + 5 := by
 unfold mid
 have z1 := Qlb (a := lo) (b := hi)
 have z2 := Qmg (a := lo + hi) (b := Rat.divInt 1 2)
 have z3 := sz_of (n := 1) (d := 2) ⟨by omega, by omega⟩ ⟨by omega, by omega⟩
 omega
theorem st4q (a b c d i j k l : A) : Qab 0 [a, b, c, d] [i, j, k, l] = some [a, b, c, d] := rfl
theorem ld4q (a b c d : D) : Qaa (some 4) 0 [.d a, .d b, .d c, .d d] = some (.d (.agg [a, b, c, d])) := rfl
variable [Its]
section
variable {d : D} {ps : List (List Rat)} {x : Rat} {K : Nat}
end
end Go.AM

/- ref07: halved, within (of at most one), Chain. -/
namespace Go.AM
open Go Go.RowKit
def c2R (l : Rat × Rat) : List D := [.v (.bool (decide (l.1.num < 0))), dg (digs l.1.num.natAbs), .v (.bool false), dg (dd l.1.den), .v (.bool (decide (l.2.num < 0))), dg (digs l.2.num.natAbs), .v (.bool false), dg (dd l.2.den)]
def enc2 (l : Rat × Rat) : D := .agg (c2R l)
theorem st8q (a b c d e f g h i j k l m n o p : A) : Qab 0 [a, b, c, d, e, f, g, h] [i, j, k, l, m, n, o, p] = some [a, b, c, d, e, f, g, h] := rfl
theorem ld8q (a b c d e f g h : D) : Qaa (some 8) 0 [.d a, .d b, .d c, .d d, .d e, .d f, .d g, .d h] = some (.d (.agg [a, b, c, d, e, f, g, h])) := rfl
theorem Qss (a b c d e f g h : D) : Qaa (some 4) 0 [.d a, .d b, .d c, .d d, .d e, .d f, .d g, .d h] = some (.d (.agg [a, b, c, d])) := rfl
theorem Qsu (a b c d e f g h : D) : Qaa (some 4) 4 [.d a, .d b, .d c, .d d, .d e, .d f, .d g, .d h] = some (.d (.agg [e, f, g, h])) := rfl
theorem RwR.one {d : D} {l : List Rat} (h : RwR d l) : A.one (.d d) = true := by rcases h with ⟨rfl, _⟩ | rfl <;> rfl
theorem RwR.cells {d : D} {l : List Rat} (h : RwR d l) : QaB (.d d) = [.d d] := by rcases h with ⟨rfl, _⟩ | rfl <;> rfl
theorem RwR.dc {d : D} {l : List Rat} (h : RwR d l) : d.one = true := by rcases h with ⟨rfl, _⟩ | rfl <;> rfl
theorem RwR.dcl {d : D} {l : List Rat} (h : RwR d l) : Qce (.d d) = some [d] := by rcases h with ⟨rfl, _⟩ | rfl <;> rfl
noncomputable def chL : Nat → List Rat → List Rat → List (List Rat)
 | 0, _, _ => []
 | n + 1, a, b => if b = [] then [] else b :: chL n b (scP (remP a b) (-1))
noncomputable def chP (p : List Rat) : List (List Rat) := if p = [] then [] else frP p :: chL p.length (frP p) (deP (frP p))
def ChOk (K : Nat) : Nat → List Rat → List Rat → Prop
 | 0, _, b => b = []
 | n + 1, a, b => b = [] ∨ (Trm b ∧ b.length ≤ 90 ∧ HL K K b ∧ SzL K b ∧ dvG K b (dvN a b) a ∧ SzL K (remP a b) ∧ ChOk K n b (scP (remP a b) (-1)))
def Dls (ds : List D) (ps : List (List Rat)) : Prop := ds.length = ps.length ∧ ∀ i, i < ps.length → RwR (ds.getD i (.z true)) (ps.getD i [])
theorem Dls.nil : Dls [] [] := ⟨rfl, fun i h => by simp at h⟩
theorem Dls.cons {d : D} {p : List Rat} {ds : List D} {ps : List (List Rat)} (h : RwR d p) (H : Dls ds ps) : Dls (d :: ds) (p :: ps) := by
 refine ⟨by simp [H.1], fun i hi => ?_⟩
 cases i with
 | zero => exact h
 | succ i => simpa using H.2 i (by simpa using hi)
theorem Dls.rwc {ds : List D} {ps : List (List Rat)} (h : Dls ds ps) : RwC (.row ds.length ds) ps := ⟨ds, h.1, h.2, .inl rfl⟩
theorem Qno (ks : List Key) : ∀ ds : List D, Qc7 ks (ds.map A.d) = true
 | [] => rfl
 | x :: r => by rw [List.map_cons, Qc7, Qno ks r]; rfl
theorem i64_m1 : I64 (-1) := ⟨by omega, by omega⟩
theorem sz_m1 : sz (-1) ≤ 3 := sz_int (n := -1) i64_m1
variable [Its]
section
variable {d : D} {ps : List (List Rat)} {K : Nat}
end
end Go.AM

/- Comparisons of rationals, as decisions. -/
namespace Go.AM
open Go Go.RowKit
theorem cmpR_ge {a b : Rat} : decide (cmpR a b ≥ 0) = decide (b ≤ a) := by
 have h := cmpR_lt (a := a) (b := b)
 rw [Bool.eq_iff_iff, decide_eq_true_iff, decide_eq_true_iff]
 constructor
 ·intro h1
  exact Rat.not_lt.1 fun h2 => by have := h.2 h2; omega
 ·intro h1
  exact Int.not_lt.1 fun h2 => Rat.not_lt.2 h1 (h.1 h2)
theorem QpE {a b : Rat} : decide (cmpR a b > 0) = decide (b < a) := by
 have h := cmpR_le (a := a) (b := b)
 rw [Bool.eq_iff_iff, decide_eq_true_iff, decide_eq_true_iff]
 constructor
 ·intro h1
  exact Rat.not_le.1 fun h2 => by have := h.2 h2; omega
 ·intro h1
  exact Int.not_le.1 fun h2 => Rat.not_le.2 h1 (h.1 h2)
end Go.AM

/- sturm: next, Chain, Changes, counted, Count, middle. -/
namespace Go.AM
open Go Go.RowKit
theorem dvG_nil {K : Nat} {R : List Rat} (h : SzL K R) : ∀ n, dvG K [] n R
 | 0 => trivial
 | n + 1 => ⟨h, by
  have e : dvI R [] n (dvF R [] n) ([] : List Rat).length = R := rfl
  rw [e]
  exact dvG_nil h n⟩
theorem rem_nil (a : List Rat) : remP a [] = [] := if_pos rfl
noncomputable def chM : Nat → List Rat → List Rat → List (List Rat)
 | 0, _, _ => []
 | n + 1, a, b => if a = [] then [] else a :: chM n b (scP (remP a b) (-1))
theorem chM_L : ∀ (n : Nat) (a b : List Rat), chM (n + 1) a b = if a = [] then [] else a :: chL n a b
 | 0, a, b => rfl
 | n + 1, a, b => by
  rw [chM, chM_L n b, chL]
def Qop (da db : D) (ds : List D) : St := mkS [(3, if ds = [] then .d (.z true) else .own [20] ds.length), (4, .d da), (5, .d db)] (if ds = [] then [] else [([20], ⟨1, ds.length, ds.map .d, false⟩)])
def QrZ (ds : List D) : St := mkS [(3, if ds = [] then .d (.z true) else .own [20] ds.length)] (if ds = [] then [] else [([20], ⟨1, ds.length, ds.map .d, false⟩)])
theorem Qrm (da db : D) : Qop da db [] = mkS [(3, .d (.z true)), (4, .d da), (5, .d db)] [] := rfl
theorem o7_ne (da db : D) {ds : List D} (h : ds ≠ []) : Qop da db ds = mkS [(3, .own [20] ds.length), (4, .d da), (5, .d db)] [([20], ⟨1, ds.length, ds.map .d, false⟩)] := by
 unfold Qop
 rw [if_neg h, if_neg h]
theorem QnD : QrZ [] = mkS [(3, .d (.z true))] [] := rfl
theorem Qq5 {ds : List D} (h : ds ≠ []) : QrZ ds = mkS [(3, .own [20] ds.length)] [([20], ⟨1, ds.length, ds.map .d, false⟩)] := by
 unfold QrZ
 rw [if_neg h, if_neg h]
theorem ne_snoc (ds : List D) (d : D) : ds ++ [d] ≠ [] := by simp
def lstS (S : List Int) : Int := S.getD (S.length - 1) 0
def QoS (d : D) (x : Rat) (S : List Int) (n i : Int) : St := mkS [(3, .ptr [3] 0), (5, ai (chN S S.length)), (6, ai (lstS S)), (10, .d d), (11, ai n), (12, ai i)] [([3], boxR x)]
theorem chN_pre (S : List Int) (s : Int) : ∀ i, i ≤ S.length → chN (S ++ [s]) i = chN S i
  | 0, _ => rfl
  | i + 1, h => by
    rw [chN, chN, chN_pre S s i (by omega)]
    have e1 : (S ++ [s]).getD i 0 = S.getD i 0 := by
      rw [List.getD_eq_getElem?_getD, List.getD_eq_getElem?_getD, List.getElem?_append_left (by omega)]
    by_cases h0 : 1 ≤ i
    · have e2 : (S ++ [s]).getD (i - 1) 0 = S.getD (i - 1) 0 := by
        rw [List.getD_eq_getElem?_getD, List.getD_eq_getElem?_getD, List.getElem?_append_left (by omega)]
      rw [e1, e2]
    · rw [if_neg (fun h => h0 h.1), if_neg (fun h => h0 h.1)]
theorem chN_snoc (S : List Int) (s : Int) : chN (S ++ [s]) (S ++ [s]).length = chN S S.length + (if S ≠ [] ∧ s ≠ lstS S then 1 else 0) := by
 rw [List.length_append, List.length_singleton, chN, chN_pre S s _ (Nat.le_refl _)]
 have e1 : (S ++ [s]).getD S.length 0 = s := by
  rw [List.getD_eq_getElem?_getD, List.getElem?_append_right (Nat.le_refl _), Nat.sub_self]; rfl
 rw [e1]
 by_cases h : S = []
 ·subst h
  rw [if_neg (by simp), if_neg (fun h => h.1 rfl)]
 ·have hl : 0 < S.length := List.length_pos_iff.2 h
  have e2 : (S ++ [s]).getD (S.length - 1) 0 = lstS S := by
   unfold lstS
   rw [List.getD_eq_getElem?_getD, List.getD_eq_getElem?_getD, List.getElem?_append_left (by omega)]
  rw [e2]
  by_cases h2 : s = lstS S
  ·rw [if_neg (fun h => h.2 h2), if_neg (fun h => h.2 h2)]
  ·rw [if_pos ⟨by omega, h2⟩, if_pos ⟨h, h2⟩]
theorem lst_snoc (S : List Int) (s : Int) : lstS (S ++ [s]) = s := by
 unfold lstS
 rw [List.length_append, List.length_singleton, Nat.add_sub_cancel, List.getD_eq_getElem?_getD, List.getElem?_append_right (Nat.le_refl _), Nat.sub_self]; rfl
theorem sgn_pm (p : List Rat) (x : Rat) (h : sgn1 p x ≠ 0) : sgn1 p x = 1 ∨ sgn1 p x = -1 := by
 unfold sgn1 at *
 rcases Int.lt_trichotomy (evR p x).num 0 with k | k | k
 ·exact .inr (Int.sign_eq_neg_one_of_neg k)
 ·rw [k] at h; exact absurd rfl h
 ·exact .inl (Int.sign_eq_one_of_pos k)
theorem sgs_pm (ps : List (List Rat)) (x : Rat) : ∀ s ∈ sgs ps x, s = 1 ∨ s = -1 := by
 intro s hs
 unfold sgs at hs
 obtain ⟨h1, h2⟩ := List.mem_filter.1 hs
 obtain ⟨p, _, rfl⟩ := List.mem_map.1 h1
 exact sgn_pm p x (of_decide_eq_true h2)
theorem lst_pm {S : List Int} (h : ∀ s ∈ S, s = 1 ∨ s = -1) : (S = [] ∧ lstS S = 0) ∨ (S ≠ [] ∧ (lstS S = 1 ∨ lstS S = -1)) := by
 by_cases h0 : S = []
 ·exact .inl ⟨h0, by rw [h0]; rfl⟩
 ·have hl : 0 < S.length := List.length_pos_iff.2 h0
  refine .inr ⟨h0, h _ ?_⟩
  unfold lstS
  rw [List.getD_eq_getElem?_getD, List.getElem?_eq_getElem (show S.length - 1 < S.length by omega)]
  exact List.getElem_mem _
variable [Its]
theorem QrB        {da db : D} {a b : List Rat} {K : Nat} (ha : RwR da a) (hb : RwR db b) (na : a.length ≤ 1000) (nb : b.length ≤ 1000) (sb : SzL K b) (hg : dvG K b (dvN a b) a) (sr : SzL K (remP a b)) (hK1 : 3 ≤ K) (hK : K ≤ 1000000000) :
    ∃ d', RwR d' (scP (remP a b) (-1)) ∧ Qaj G Qj8 [da, db] = some (.d d') := by
  rw [Qad (cf := Qjq) rfl]
  obtain ⟨d1, d2, h1, h2, g1⟩ := Qe6 ha hb (by omega) (by omega) sb (by omega) hK hg
  have o1 := Qe7 i64_m1 (d := 1) ⟨by omega, by omega⟩
  rw [Qc3, show (((-1 : Int)) : Rat) = -1 from rfl] at o1
  obtain ⟨d', h3, g2⟩ := Qj9 (a := -1) h2 sr (Nat.le_trans sz_m1 hK1) (by omega) (by omega) (by have := QkK a b; omega)
  refine ⟨d', h3, ?_⟩
  generalize (-1 : Rat) = m1 at *
  clear h1 h2 h3 sb hg sr ha hb
  simp only [encR, iv] at o1 g2
  simp -implicitDefEqProofs (maxSteps:=9^8) only [Qjq, o1, g1, g2, go_sem, iv, bv, reduceCtorEq, ↓reduceIte, Nat.reduceEqDiff]
section
variable {K : Nat}
theorem o7_go {da db : D} {a b : List Rat} {ds : List D} (ha : RwR da a) (hb : RwR db b) (na : a.length ≤ 90) (hne : a ≠ []) (nb : b.length ≤ 90) (sb : SzL K b) (hg : dvG K b (dvN a b) a) (sr : SzL K (remP a b)) (hK1 : 3 ≤ K) (hK : K ≤ 1000000000) (hds : ds.length ≤ 1000) :
    ∃ d', RwR d' (scP (remP a b) (-1)) ∧ X G QbL (Qop da db ds) = some (.n, Qop db d' (ds ++ [da])) := by
  obtain ⟨d', h3, g⟩ := QrB ha hb (by omega) (by omega) sb hg sr hK1 (by omega)
  refine ⟨d', h3, ?_⟩
  have la := ha.len
  have e1 : decide ((a.length : Int) > 0) = true := decide_eq_true (by have := List.length_pos_iff.2 hne; omega)
  have k2 := ha.dcl
  have k3 := ha.dc
  have r1 : rep 1 [da] = [da] := rfl
  rw [o7_ne db d' (ne_snoc ds da)]
  clear h3 hg sr sb ha hb
  by_cases h0 : ds = []
  · subst h0
    rw [Qrm]
    have b0 : (24 ≤ bound) = True := eq_true (by unfold bound; omega)
    have b1 : (1 * 24 ≤ bound) = True := eq_true (by unfold bound; omega)
    simp -implicitDefEqProofs (maxSteps:=9^8) only [QbL, la, e1, k2, k3, r1, b0, b1, g, List.length_cons, List.length_nil, Nat.zero_add, List.map_cons, List.map_nil, Nat.mul_one, srcS, src, allD, Qel, Qcd, Qc7, List.all_cons, List.all_nil, Bool.and_self, Qac, go_sem, iv, bv, reduceCtorEq, ↓reduceIte, Nat.reduceEqDiff]
  · rw [o7_ne da db h0]
    have n4 : ((ds.length + 1) * 24 ≤ bound) = True := eq_true (by unfold bound; omega)
    have n5 : (ds ++ [da]).length = ds.length + 1 := by simp
    have n6 : (ds.map A.d) ++ [A.d da] = (ds ++ [da]).map A.d := by simp
    simp -implicitDefEqProofs (maxSteps:=9^8) only [QbL, la, e1, k2, k3, n4, n5, n6, r1, g, Qno, List.length_map, Nat.mul_one, srcS, src, allD, Qel, Qcd, List.all_cons, List.all_nil, Bool.and_self, Qac, go_sem, iv, bv, reduceCtorEq, ↓reduceIte, Nat.reduceEqDiff]
theorem Qpp {da db : D} {ds : List D} (ha : RwR da []) : X G QbL (Qop da db ds) = some (.x 0, QrZ ds) := by
 have la := ha.len
 simp only [List.length_nil] at la
 have e1 : decide ((0 : Int) > 0) = false := rfl
 by_cases h0 : ds = []
 ·subst h0
  rw [Qrm, QnD]
  simp -implicitDefEqProofs (maxSteps:=9^8) only [QbL, la, e1, Qac, go_sem, iv, bv, reduceCtorEq, ↓reduceIte, Nat.reduceEqDiff]
 ·rw [o7_ne da db h0, Qq5 h0]
  simp -implicitDefEqProofs (maxSteps:=9^8) only [QbL, la, e1, Qno, Qac, go_sem, iv, bv, reduceCtorEq, ↓reduceIte, Nat.reduceEqDiff]
theorem o7_loop (hK1 : 3 ≤ K) (hK : K ≤ 1000000000) : ∀ (n : Nat) (a b : List Rat) (da db : D) (ds : List D), RwR da a → RwR db b → SzL K a → a.length ≤ 90 → ChOk K n a b → ds.length + n ≤ 900 →
    ∃ es, Dls es (chM (n + 1) a b) ∧ X G (.loop QbL) (Qop da db ds) = some (.x 0, QrZ (ds ++ es))
  | n, a, b, da, db, ds, ha, hb, sa, na, hc, hl => by
    by_cases ha0 : a = []
    · subst ha0
      rw [chM, if_pos rfl]
      exact ⟨[], Dls.nil, by rw [Qak, Qpp ha, List.append_nil]; rfl⟩
    · by_cases hb0 : b = []
      · subst hb0
        obtain ⟨d', h', hx⟩ := o7_go ha hb na ha0 (by simp) (fun q hq => by simp at hq) (dvG_nil sa _) (by rw [rem_nil]; exact fun q hq => by simp at hq) hK1 hK (ds := ds) (by omega)
        refine ⟨[da], ?_, ?_⟩
        · have e : chM (n + 1) a [] = [a] := by
            rw [chM_L, if_neg ha0]
            cases n with
            | zero => rfl
            | succ n => rw [chL, if_pos rfl]
          rw [e]
          exact Dls.cons ha Dls.nil
        · rw [Qak, hx, Option.bind_some, if_pos rfl, Qak, Qpp hb]; rfl
      · cases n with
        | zero => exact absurd hc hb0
        | succ n =>
          rcases hc with hc | ⟨c1, c2, c3, c4, c5, c6, c7⟩
          · exact absurd hc hb0
          · obtain ⟨d', h', hx⟩ := o7_go ha hb na ha0 c2 c4 c5 c6 hK1 hK (ds := ds) (by omega)
            obtain ⟨es, he, hl2⟩ := o7_loop hK1 hK n b _ db d' (ds ++ [da]) hb h' c4 c2 c7 (by rw [List.length_append, List.length_singleton]; omega)
            refine ⟨da :: es, ?_, ?_⟩
            · rw [chM, if_neg ha0]
              exact Dls.cons ha he
            · rw [Qak, hx, Option.bind_some, if_pos rfl, hl2, List.append_assoc]; rfl
theorem QgY         {dp : D} {p : List Rat} (hp0 : p ≠ []) (np : p.length ≤ 90) (hF : ∃ d', RwR d' (frP p) ∧ Qaj   G Qb8         [dp] = some (.d d')) (hf0 : frP p ≠ []) (nf : (frP p).length ≤ 90) (sf : SzL K (frP p)) (hc : ChOk K p.length (frP p) (deP (frP p))) (hK1 : 3 ≤ K) (hK : K ≤ 1000000000) :
    ∃ ds, Dls ds (chP p) ∧ Qaj G QbY [dp] = some (.own 1 ds.length ds) := by
  rw [Qad (cf := Qfs) rfl]
  obtain ⟨da, ha, g1⟩ := hF
  obtain ⟨db, hb, g2⟩ := QgL ha sf (by omega) (by omega) (by omega)
  obtain ⟨es, he, g3⟩ := o7_loop hK1 hK p.length (frP p) (deP (frP p)) da db [] ha hb sf nf hc (by simp; omega)
  have ec : chM (p.length + 1) (frP p) (deP (frP p)) = chP p := by
    rw [chM_L, if_neg hf0]
    unfold chP
    rw [if_neg hp0]
  rw [ec] at he
  refine ⟨es, he, ?_⟩
  have hes : es ≠ [] := fun h => by
    have h1 := he.1
    rw [h] at h1
    unfold chP at h1
    rw [if_neg hp0] at h1
    simp at h1
  have n7 : allD (es.map A.d) = some es := Qd6 _
  rw [Qrm, List.nil_append, Qq5 hes] at g3
  simp only [go_sem] at g3
  clear he hc sf ha hb
  simp -implicitDefEqProofs (maxSteps:=9^8) only [Qfs, g1, g2, g3, n7, Qno, Qac, go_sem, iv, bv, reduceCtorEq, ↓reduceIte, Nat.reduceEqDiff]
end
section
variable {d : D} {ps : List (List Rat)} {x : Rat} {K : Nat}
theorem d7_go [ItsB] (hr : RwC d ps) (hn : ps.length ≤ 1000) (hs : ∀ p ∈ ps, SzL K p ∧ p.length * (2 * K + 1) ≤ 40000000000) (hx : sz x ≤ K) (hK : K ≤ 1000000000) {i : Nat} (hi : i < ps.length) :
    X G QbB (QoS d x (sgs (ps.take i) x) ps.length i) = some (.n, QoS d x (sgs (ps.take (i + 1)) x) ps.length ((i + 1 : Nat) : Int)) := by
  have e1 : decide ((i : Int) < (ps.length : Int)) = true := lt_t (by omega)
  have e2 : w64 ((i : Int) + 1) = ((i + 1 : Nat) : Int) := by rw [Qaf (by omega) (by omega)]; rfl
  obtain ⟨y, r, hy, x1, x2⟩ := hr.at hi
  have hp := hs (ps.getD i []) (by rw [List.getD_eq_getElem?_getD, List.getElem?_eq_getElem hi]; exact List.getElem_mem hi)
  have hlen := Qqa (ps.take i) x
  rw [List.length_take] at hlen
  have hpm := lst_pm (sgs_pm (ps.take i) x)
  have hcl := Qo2 (sgs (ps.take i) x) (sgs (ps.take i) x).length
  have sn := sgn_pm (ps.getD i []) x
  rw [sgs_snoc ps x hi]
  generalize ps.getD i [] = p at *
  generalize sgs (ps.take i) x = S at *
  have g1 := QoW hy hx (by omega) hp.1 hp.2
  have g2 := QcV (evR p x)
  have es : Int.sign (evR p x).num = sgn1 p x := rfl
  rw [es] at g2
  clear es hs hp hx hr
  generalize sgn1 p x = s at *
  generalize evR p x = v at *
  simp only [encR, iv] at g1 g2
  by_cases h0 : s = 0
  · have t : (s != 0) = false := QrF h0
    rw [if_neg (by simp [h0])]
    generalize chN S S.length = n at *
    generalize lstS S = l at *
    simp -implicitDefEqProofs (maxSteps:=9^8) only [QbB, QoS, boxR, x1, x2, g1, g2, t, e1, e2, ld4q, Qac, go_sem, iv, bv, reduceCtorEq, ↓reduceIte, Nat.reduceEqDiff]
  · have t : (s != 0) = true := Qsc h0
    have sn := sn h0
    rw [if_pos h0]
    unfold QoS
    rw [chN_snoc, lst_snoc]
    generalize chN S S.length = n at *
    have en : w64 (0 - lstS S) = -(lstS S) := by rw [Qaf (by omega) (by omega)]; omega
    by_cases hc : S ≠ [] ∧ s ≠ lstS S
    · have t2 : (s == -(lstS S)) = true := by
        rw [beq_iff_eq]
        rcases hpm with ⟨h1, _⟩ | ⟨_, h1⟩
        · exact absurd h1 hc.1
        · have := hc.2
          omega
      have e4 : w64 ((n : Int) + 1) = ((n + 1 : Nat) : Int) := by rw [Qaf (by omega) (by omega)]; rfl
      rw [if_pos hc]
      generalize lstS S = l at *
      simp -implicitDefEqProofs (maxSteps:=9^8) only [QbB, boxR, x1, x2, g1, g2, t, t2, en, e1, e2, e4, ld4q, Qac, go_sem, iv, bv, reduceCtorEq, ↓reduceIte, Nat.reduceEqDiff]
    · have t2 : (s == -(lstS S)) = false := by
        refine Qcy ?_
        rcases hpm with ⟨_, h1⟩ | ⟨h2, h1⟩
        · omega
        · have : s = lstS S := Classical.byContradiction fun h => hc ⟨h2, h⟩
          omega
      rw [if_neg hc, Nat.add_zero]
      generalize lstS S = l at *
      simp -implicitDefEqProofs (maxSteps:=9^8) only [QbB, boxR, x1, x2, g1, g2, t, t2, en, e1, e2, ld4q, Qac, go_sem, iv, bv, reduceCtorEq, ↓reduceIte, Nat.reduceEqDiff]
theorem d7_stop {S : List Int} {n : Nat} : X G QbB (QoS d x S n n) = some (.x 0, mkS [(5, ai (chN S S.length))] []) := by
 have e1 : decide ((n : Int) < (n : Int)) = false := lt_f (by omega)
 simp -implicitDefEqProofs (maxSteps:=9^8) only [QbB, QoS, boxR, e1, Qac, go_sem, iv, bv, reduceCtorEq, ↓reduceIte, Nat.reduceEqDiff]
theorem d7_loop [ItsB] (hr : RwC d ps) (hn : ps.length ≤ 1000) (hs : ∀ p ∈ ps, SzL K p ∧ p.length * (2 * K + 1) ≤ 40000000000) (hx : sz x ≤ K) (hK : K ≤ 1000000000) : ∀ (j i : Nat), i + j = ps.length →
    X G (.loop QbB) (QoS d x (sgs (ps.take i) x) ps.length i) = some (.x 0, mkS [(5, ai (chg ps x))] [])
  | 0, i, h => by
    have : i = ps.length := by omega
    subst this
    rw [Qak, d7_stop, List.take_length]; rfl
  | j + 1, i, h => by
    rw [Qak, d7_go hr hn hs hx hK (by omega), Option.bind_some, if_pos rfl]
    exact d7_loop hr hn hs hx hK j (i + 1) (by omega)
theorem Qh5 [ItsB] (hr : RwC d ps) (hn : ps.length ≤ 1000) (hs : ∀ p ∈ ps, SzL K p ∧ p.length * (2 * K + 1) ≤ 40000000000) (hx : sz x ≤ K) (hK : K ≤ 1000000000) : Qaj G QfA [d, encR x] = some (.d (iv (chg ps x))) := by
 rw [Qad (cf := QgX) rfl]
 have g := d7_loop hr hn hs hx hK ps.length 0 (by omega)
 have ll := hr.len
 have e0 : sgs (ps.take 0) x = [] := rfl
 have e1 : ((chN [] 0 : Nat) : Int) = 0 := rfl
 have e2 : lstS [] = 0 := rfl
 rw [e0] at g
 generalize chg ps x = c at *
 simp only [QoS, boxR, e1, e2, nc0, go_sem] at g
 simp -implicitDefEqProofs (maxSteps:=9^8) only [QgX, encR, g, ll, Qac, go_sem, iv, bv, reduceCtorEq, ↓reduceIte, Nat.reduceEqDiff]
theorem QfZ [ItsB] (hr : RwC d ps) (hn : ps.length ≤ 1000) (hs : ∀ p ∈ ps, SzL K p ∧ p.length * (2 * K + 1) ≤ 40000000000) {lo hi : Rat} (h1 : sz lo ≤ K) (h2 : sz hi ≤ K) (hK : K ≤ 1000000000) : Qaj G Qfu [d, encR lo, encR hi] = some (.d (iv (cnt ps lo hi))) := by
 rw [Qad (cf := QeZ) rfl]
 have g0 := QdK (a := lo) (b := hi) (by omega) (by omega)
 have g1 := Qh5 hr hn hs h1 hK
 have g2 := Qh5 hr hn hs h2 hK
 have c1 : chg ps lo ≤ 1000 := Nat.le_trans (Qo2 _ _) (Nat.le_trans (Qqa ps lo) hn)
 have c2 : chg ps hi ≤ 1000 := Nat.le_trans (Qo2 _ _) (Nat.le_trans (Qqa ps hi) hn)
 have t0 := cmpR_ge (a := lo) (b := hi)
 unfold cnt
 generalize chg ps lo = a at *
 generalize chg ps hi = b at *
 obtain ⟨z, hz⟩ : ∃ z, (a : Int) - (b : Int) = z := ⟨_, rfl⟩
 have e : w64 ((a : Int) - (b : Int)) = z := by rw [Qaf (by omega) (by omega), hz]
 rw [hz]
 generalize cmpR lo hi = c at *
 simp only [encR, iv] at g0 g1 g2
 by_cases h : hi ≤ lo
 ·rw [if_pos h]
  rw [decide_eq_true h] at t0
  simp -implicitDefEqProofs (maxSteps:=9^8) only [QeZ, encR, g0, t0, ld4q, Qac, go_sem, iv, bv, reduceCtorEq, ↓reduceIte, Nat.reduceEqDiff]
 ·rw [if_neg h]
  rw [decide_eq_false h] at t0
  simp -implicitDefEqProofs (maxSteps:=9^8) only [QeZ, encR, g0, g1, g2, t0, e, ld4q, Qac, go_sem, iv, bv, reduceCtorEq, ↓reduceIte, Nat.reduceEqDiff]
end
theorem QfN          [ItsB] {dp : D} {p : List Rat} {K : Nat} (hC : ∃ ds, Dls ds (chP p) ∧ Qaj   G QbY           [dp] = some (.own 1 ds.length ds)) (hn : (chP p).length ≤ 1000) (hs : ∀ q ∈ chP p, SzL K q ∧ q.length * (2 * K + 1) ≤ 40000000000) {lo hi : Rat} (h1 : sz lo ≤ K) (h2 : sz hi ≤ K) (hK : K ≤ 1000000000) :
    Qaj G Qau [dp, encR lo, encR hi] = some (.d (iv (cnt (chP p) lo hi))) := by
  rw [Qad (cf := Qfy) rfl]
  obtain ⟨ds, hd, g1⟩ := hC
  have g2 := QfZ hd.rwc hn hs h1 h2 hK
  generalize cnt (chP p) lo hi = c at *
  simp only [encR, iv] at g2
  simp -implicitDefEqProofs (maxSteps:=9^8) only [Qfy, encR, g1, g2, ld4q, Qac, go_sem, iv, bv, reduceCtorEq, ↓reduceIte, Nat.reduceEqDiff]
theorem Qlo {l : Rat × Rat} (h1 : sz l.1 ≤ 1000000000) (h2 : sz l.2 ≤ 1000000000) : Qaj G Qf7 [enc2 l] = some (.d (encR (mid l.1 l.2))) := by
 rw [Qad (cf := Qhj) rfl]
 have g1 := Qfn (a := l.1) (b := l.2) (by omega) (by omega)
 have g2 := Qe7 (n := 1) (d := 2) ⟨by omega, by omega⟩ ⟨by omega, by omega⟩
 have z1 := Qlb (a := l.1) (b := l.2)
 have z3 := sz_of (n := 1) (d := 2) ⟨by omega, by omega⟩ ⟨by omega, by omega⟩
 have g3 := QdA (a := l.1 + l.2) (b := Rat.divInt 1 2) (by omega) (by omega)
 unfold mid
 generalize (l.1 + l.2) * Rat.divInt 1 2 = r at *
 generalize l.1 + l.2 = s at *
 generalize Rat.divInt 1 2 = t at *
 obtain ⟨lo, hi⟩ := l
 simp only [encR, iv] at g1 g2 g3
 simp -implicitDefEqProofs (maxSteps:=9^8) only [Qhj, enc2, c2R, encR, g1, g2, g3, st4q, ld4q, st8q, Qss, Qsu, Qac, go_sem, iv, bv, reduceCtorEq, ↓reduceIte, Nat.reduceEqDiff]
theorem QgF [ItsB] {d : D} {p : List Rat} {x : Rat} {K : Nat} (hr : RwR d p) (hx : sz x ≤ K) (hK : K ≤ 1000000) (sp : SzL K p) (np : p.length ≤ 100) : Qaj G Qft [encR x, .rp [d]] = some (.d (bv (decide (evR p x < 0)))) := by
 rw [Qad (cf := QgQ) rfl]
 have zb : p.length * (2 * K + 1) ≤ 100 * (2 * 1000000 + 1) := Nat.mul_le_mul np (by omega)
 have g1 := QoW hr hx (by omega) sp (by omega)
 have g2 := QcV (evR p x)
 rw [← sign_lt]
 generalize evR p x = v at *
 generalize Int.sign v.num = s at *
 simp only [encR, iv] at g1 g2
 simp -implicitDefEqProofs (maxSteps:=9^8) only [QgQ, encR, Qka, g1, g2, ld4q, Qac, go_sem, iv, bv, reduceCtorEq, ↓reduceIte, Nat.reduceEqDiff]
end Go.AM

/- sturm.Stays, sturm.odd, ref07.Same, law07.num: walked in general. -/
namespace Go.AM
open Go Go.RowKit
def Qll (a b : D) : St := mkS [(3, .d a), (4, .d b)] []
def QiW (dp : D) (z x : Rat) (n i : Int) : St := mkS [(4, .ptr [4] 0), (7, .d (.fn Qft [.rp [dp]])), (10, .ptr [10] 0), (50, ai n), (51, ai i)] [([4], boxR z), ([10], boxR x)]
def Qk2 (d e : D) (i : Int) : St := mkS [(0, .d d), (1, .d e), (5, ai i)] []
theorem rep1_4S (a b c d : D) : rep 1 [a, b, c, d] = [a, b, c, d] := rfl
theorem tupS : A.bool? (.d (.v (.tuple #[]))) = none := rfl
section
variable [Its]
theorem QeA {n : Int} (hn : I64 n) : Qaj G QaF [iv n] = some (.d (encR (n : Rat))) := by
 rw [Qad (cf := Qfq) rfl]
 have o := Qd7 (n := n) (d := 1) hn ⟨by omega, by omega⟩
 rw [Qc3] at o
 generalize (n : Rat) = q at *
 simp only [encR, iv] at o
 simp -implicitDefEqProofs (maxSteps:=9^8) only [Qfq, encR, o, st4q, ld4q, Qaa, Qac, go_sem, iv, bv, reduceCtorEq, ↓reduceIte, Nat.reduceEqDiff]
theorem odg_stop {d1 d2 : D} {r : List Rat} (hr : RwR d2 r) (h : r.length ≤ 1) : X G QdB (Qll d1 d2) = some (.x 0, mkS [(3, .d d1)] []) := by
 have l := hr.len
 have e : decide ((r.length : Int) > 1) = false := decide_eq_false (by omega)
 simp -implicitDefEqProofs (maxSteps:=9^8) only [QdB, Qll, l, e, go_sem, iv, bv, reduceCtorEq, ↓reduceIte, Nat.reduceEqDiff]
theorem odg_go {d1 d2 a1 a2 a2' a3 a4 a5 a5' a6 a7 a7' : D} {r : List Rat} (h2 : RwR d2 r) (n1 : 1 < r.length)
    (g1 : Qaj G Qb8 [d2] = some (.d a1)) (g2 : Qaj G QcF [d2, a1] = some (.d (.tup [a2, a2']))) (g3 : Qaj G Qb8 [a2] = some (.d a3)) (g4 : Qaj G Qgq [a1, a3] = some (.d a4))
    (g5 : Qaj G QcF [a1, a4] = some (.d (.tup [a5, a5']))) (g6 : Qaj G QhQ [d1, a5] = some (.d a6)) (g7 : Qaj G QcF [a2, a3] = some (.d (.tup [a7, a7']))) : X G QdB (Qll d1 d2) = some (.n, Qll a6 a7) := by
  have l := h2.len
  have e : decide ((r.length : Int) > 1) = true := decide_eq_true (by omega)
  simp -implicitDefEqProofs (maxSteps:=9^8) only [QdB, Qll, l, e, g1, g2, g3, g4, g5, g6, g7, go_sem, iv, bv, reduceCtorEq, ↓reduceIte, Nat.reduceEqDiff]
theorem odg_end {dp d1 : D} (h : X G (.loop QdB) (Qll (rowR [1]) dp) = some (.x 0, mkS [(3, .d d1)] [])) : Qaj G Qgx [dp] = some (.d d1) := by
 rw [Qad (cf := Qlx) rfl]
 have o := Qe7 (n := 1) (d := 1) ⟨by omega, by omega⟩ ⟨by omega, by omega⟩
 rw [Qc3, show ((1 : Int) : Rat) = 1 from rfl] at o
 have ea : rowR [1] = .row 1 [.v (.bool (decide ((1 : Rat).num < 0))), dg (digs (1 : Rat).num.natAbs), .v (.bool false), dg (dd (1 : Rat).den)] := rfl
 rw [ea] at h
 generalize (1 : Rat) = q at *
 simp only [encR, iv] at o
 simp only [Qll, go_sem] at h
 simp -implicitDefEqProofs (maxSteps:=9^8) only [Qlx, encR, o, h, rep1_4S, Qel, Qcd, Qac, go_sem, iv, bv, reduceCtorEq, ↓reduceIte, Nat.reduceEqDiff]
theorem s7s_stop {dp : D} {z x : Rat} {n : Nat} : X G Qb1 (QiW dp z x n n) = some (.x 0, mkS [] []) := by
 have e1 : decide ((n : Int) < (n : Int)) = false := lt_f (by omega)
 simp -implicitDefEqProofs (maxSteps:=9^8) only [Qb1, QiW, boxR, e1, Qac, go_sem, iv, bv, reduceCtorEq, ↓reduceIte, Nat.reduceEqDiff]
/-! Same -/
theorem sm7_go {d e : D} {ps : List (List Rat)} (hd : RwC d ps) (he : RwC e ps) (hn : ps.length ≤ 1000) (hs : ∀ p ∈ ps, SzL 100000000000 p ∧ p.length ≤ 1000) {i : Nat} (hi : i < ps.length) : X G QbE (Qk2 d e i) = some (.n, Qk2 d e ((i + 1 : Nat) : Int)) := by
 have e1 : decide ((i : Int) < (ps.length : Int)) = true := lt_t (by omega)
 have e2 : w64 ((i : Int) + 1) = ((i + 1 : Nat) : Int) := by rw [Qaf (by omega) (by omega)]; rfl
 have ll := hd.len
 obtain ⟨x, rx, hx, x1, x2⟩ := hd.at hi
 obtain ⟨y, ry, hy, y1, y2⟩ := he.at hi
 have hp := hs (ps.getD i []) (by rw [List.getD_eq_getElem?_getD, List.getElem?_eq_getElem hi]; exact List.getElem_mem hi)
 have g := s6_refl hx hy hp.1 (by omega)
 simp only [bv] at g
 simp -implicitDefEqProofs (maxSteps:=9^8) only [QbE, Qk2, ll, x1, x2, y1, y2, g, e1, e2, go_sem, iv, bv, reduceCtorEq, ↓reduceIte, Nat.reduceEqDiff]
theorem sm7_stop {d e : D} {ps : List (List Rat)} (hd : RwC d ps) : X G QbE (Qk2 d e ps.length) = some (.x 0, mkS [] []) := by
 have e1 : decide ((ps.length : Int) < (ps.length : Int)) = false := lt_f (by omega)
 have ll := hd.len
 simp -implicitDefEqProofs (maxSteps:=9^8) only [QbE, Qk2, ll, e1, go_sem, iv, bv, reduceCtorEq, ↓reduceIte, Nat.reduceEqDiff]
theorem Qrk {d e : D} {ps : List (List Rat)} (hd : RwC d ps) (he : RwC e ps) (hn : ps.length ≤ 1000) (hs : ∀ p ∈ ps, SzL 100000000000 p ∧ p.length ≤ 1000) : ∀ (j i : Nat), i + j = ps.length → X G (.loop QbE) (Qk2 d e i) = some (.x 0, mkS [] [])
 | 0, i, h => by
  have : i = ps.length := by omega
  subst this
  rw [Qak, sm7_stop hd]; rfl
 | j + 1, i, h => by
  rw [Qak, sm7_go hd he hn hs (by omega), Option.bind_some, if_pos rfl]
  exact Qrk hd he hn hs j (i + 1) (by omega)
theorem QrJ {d e : D} {ps : List (List Rat)} (hd : RwC d ps) (he : RwC e ps) (hn : ps.length ≤ 1000) (hs : ∀ p ∈ ps, SzL 100000000000 p ∧ p.length ≤ 1000) : Qaj G QfX [d, e] = some (.d (bv true)) := by
 rw [Qad (cf := QeL) rfl]
 have g := Qrk hd he hn hs ps.length 0 (by omega)
 have l1 := hd.len
 have l2 := he.len
 have t : ((ps.length : Int) != (ps.length : Int)) = false := QrF rfl
 simp only [Qk2, nc0, go_sem] at g
 simp -implicitDefEqProofs (maxSteps:=9^8) only [QeL, l1, l2, t, g, go_sem, iv, bv, reduceCtorEq, ↓reduceIte, Nat.reduceEqDiff]
end
section
variable [Its] [ItsB] {dp : D} {p : List Rat} {K : Nat}
theorem QqK    (hr : RwR dp p) (sp : SzL K p) (np : p.length ≤ 100) (hK : K ≤ 1000000) {z x : Rat} (hz : sz z ≤ 100) (hx : sz x ≤ 100) (h205 : 205 ≤ K) {n i : Nat} (hi : i < n) (hn : n ≤ 100) :
    X G Qb1 (QiW dp z x n i) = if evR p (mid z x) < 0 then some (.r, mkS [(6, ab false)] []) else some (.n, QiW dp z (mid z x) n ((i + 1 : Nat) : Int)) := by
  have e1 : decide ((i : Int) < (n : Int)) = true := lt_t (by omega)
  have e2 : w64 ((i : Int) + 1) = ((i + 1 : Nat) : Int) := by rw [Qaf (by omega) (by omega)]; rfl
  have g1 := Qlo (l := (z, x)) (by dsimp only; omega) (by dsimp only; omega)
  have zm := Qrh hz hx
  have g2 := QgF hr (x := mid z x) (K := K) (by omega) (by omega) sp (by omega)
  clear sp hz hx zm hr
  dsimp only at g1
  generalize mid z x = m at *
  generalize evR p m = v at *
  simp only [encR, enc2, c2R, iv] at g1 g2
  by_cases h : v < 0
  · rw [decide_eq_true h] at g2
    rw [if_pos h]
    simp -implicitDefEqProofs (maxSteps:=9^8) only [Qb1, QiW, boxR, g1, g2, e1, e2, Qel, Qcd, st4q, ld4q, st8q, Qss, Qsu, Qac, go_sem, iv, bv, reduceCtorEq, ↓reduceIte, Nat.reduceEqDiff]
  · rw [decide_eq_false h] at g2
    rw [if_neg h]
    simp -implicitDefEqProofs (maxSteps:=9^8) only [Qb1, QiW, boxR, g1, g2, e1, e2, Qel, Qcd, st4q, ld4q, st8q, Qss, Qsu, Qac, go_sem, iv, bv, reduceCtorEq, ↓reduceIte, Nat.reduceEqDiff]
theorem Qsp (hr : RwR dp p) (sp : SzL K p) (np : p.length ≤ 100) (hK : K ≤ 1000000) (hp0 : p ≠ []) {lo hi : Rat} (hl : lo ≤ hi) (z1 : sz lo ≤ K) (z2 : sz hi ≤ K) (h : evR p lo < 0) : Qaj G Qda [dp, encR lo, encR hi] = some (.d (bv false)) := by
 rw [Qad (cf := Qfl) rfl]
 have g := QdK (a := lo) (b := hi) (by omega) (by omega)
 have t := QpE (a := lo) (b := hi)
 rw [decide_eq_false (Rat.not_lt.2 hl)] at t
 have hl := hr.len
 have c1 := hr.one
 have c2 := hr.cells
 have c3 := hr.dc
 have c4 := hr.dcl
 have g0 := QgF hr (x := lo) z1 hK sp np
 rw [decide_eq_true h] at g0
 have t2 : ((p.length : Int) == 0) = false := Qcy (by have := List.length_pos_iff.2 hp0; omega)
 clear sp hr h
 generalize cmpR lo hi = c at *
 simp only [encR, iv] at g g0
 simp -implicitDefEqProofs (maxSteps:=9^8) only [Qfl, encR, g, g0, t, hl, t2, c1, c2, c3, c4, toDs, allD, snap, Qcw, Qaa, Qab, ld4q, decide_true, decide_false, tupS, Qac, go_sem, iv, bv, reduceCtorEq, ↓reduceIte, Nat.reduceEqDiff]
theorem QpH         (hr : RwR dp p) (sp : SzL K p) (np : p.length ≤ 100) (hK : K ≤ 1000000) (hp0 : p ≠ []) {lo hi : Rat} (hl : lo ≤ hi) (z1 : sz lo ≤ K) (z2 : sz hi ≤ K) (h0 : 0 ≤ evR p lo) (h1 : 0 ≤ evR p hi)
    {dg : D} (g2 : Qaj G Qgx [dp] = some (.d dg)) (g3 : Qaj G Qau [dg, encR lo, encR hi] = some (.d (iv 0))) (lp : X G (.loop Qb1) (QiW dp lo hi p.length 0) = some (.x 0, mkS [] [])) : Qaj G Qda [dp, encR lo, encR hi] = some (.d (bv true)) := by
  rw [Qad (cf := Qfl) rfl]
  have g := QdK (a := lo) (b := hi) (by omega) (by omega)
  have t := QpE (a := lo) (b := hi)
  rw [decide_eq_false (Rat.not_lt.2 hl)] at t
  have hl := hr.len
  have c1 := hr.one
  have c2 := hr.cells
  have c3 := hr.dc
  have c4 := hr.dcl
  have g0 := QgF hr (x := lo) z1 hK sp np
  have g1 := QgF hr (x := hi) z2 hK sp np
  rw [decide_eq_false (Rat.not_lt.2 h0)] at g0
  rw [decide_eq_false (Rat.not_lt.2 h1)] at g1
  have t2 : ((p.length : Int) == 0) = false := Qcy (by have := List.length_pos_iff.2 hp0; omega)
  have d1 : decide ((0 : Int) > 0) = false := rfl
  clear sp hr h0 h1
  generalize cmpR lo hi = c at *
  simp only [encR, iv] at g g0 g1 g3
  simp only [QiW, boxR, go_sem] at lp
  simp -implicitDefEqProofs (maxSteps:=9^8) only [Qfl, encR, g, g0, g1, g2, g3, d1, lp, t, hl, t2, c1, c2, c3, c4, toDs, allD, snap, Qcw, Qaa, Qab, st4q, ld4q, decide_true, decide_false, tupS, Qac, go_sem, iv, bv, reduceCtorEq, ↓reduceIte, Nat.reduceEqDiff]
end
end Go.AM

