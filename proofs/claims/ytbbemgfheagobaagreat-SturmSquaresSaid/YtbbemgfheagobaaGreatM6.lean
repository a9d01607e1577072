/- Part 6 of the proof: a small machine, its soundness against the model, and what the program's functions compute on it. -/
import Derived.Test.YtbbemgfheagobaaGreatM5
set_option linter.unusedVariables false
set_option linter.unusedSimpArgs false
/- cmp.Compare, integer.compare -/
namespace Go.AM
open Go Go.RowKit
variable [Its]

theorem Qqf (x : Int) : (x != x) = false := by
 have _its : Its := inferInstance
 simp
theorem QlL (x : Int) : Qah G Qfz [iv x] = some (.d (bv false)) := by
 rw [Qad (cf := QgZ) rfl]
 simp -implicitDefEqProofs (maxSteps:=9^8) only [QgZ, go_sem, iv, bv, Qqf, reduceCtorEq, ↓reduceIte, Nat.reduceEqDiff]
theorem Qhm (x y : Int) : Qah G Qed [iv x, iv y] = some (.d (iv (Int.sign (x - y)))) := by
 rw [Qad (cf := QcN) rfl]
 have hx := QlL x
 have hy := QlL y
 simp only [iv, bv] at hx hy
 rcases Int.lt_trichotomy x y with h | h | h
 ·have e1 : Int.sign (x - y) = -1 := Int.sign_eq_neg_one_of_neg (by omega)
  have e2 : decide (x < y) = true := lt_t h
  simp -implicitDefEqProofs (maxSteps:=9^8) only [QcN, go_sem, iv, bv, hx, hy, e1, e2, reduceCtorEq, ↓reduceIte, Nat.reduceEqDiff]
 ·subst h
  have e1 : Int.sign (x - x) = 0 := by rw [Int.sub_self]; rfl
  have e2 : decide (x < x) = false := lt_f (by omega)
  have e3 : decide (x > x) = false := gt_f (by omega)
  simp -implicitDefEqProofs (maxSteps:=9^8) only [QcN, go_sem, iv, bv, hx, e1, e2, e3, reduceCtorEq, ↓reduceIte, Nat.reduceEqDiff]
 ·have e1 : Int.sign (x - y) = 1 := Int.sign_eq_one_of_pos (by omega)
  have e2 : decide (x < y) = false := lt_f (by omega)
  have e3 : decide (x > y) = true := gt_t h
  simp -implicitDefEqProofs (maxSteps:=9^8) only [QcN, go_sem, iv, bv, hx, hy, e1, e2, e3, reduceCtorEq, ↓reduceIte, Nat.reduceEqDiff]

section
variable (da db : D) (a b : List Int)
def QiE (i : Int) : St := ⟨upd (upd (upd fr0 5 (.d (.v (.int .i64 i)))) 1 (.d db)) 0 (.d da), hp0, []⟩
def QmU (r : Int) : St := ⟨upd fr0 4 (.d (.v (.int .i64 r))), hp0, []⟩

theorem cmp_zero : X G Qa3 (QiE da db (-1)) = some (.x 0, ⟨fr0, hp0, []⟩) := by
 have e1 : decide ((-1 : Int) ≥ 0) = false := rfl
 simp -implicitDefEqProofs (maxSteps:=9^8) only [Qa3, QiE, go_sem, iv, bv, e1, reduceCtorEq, ↓reduceIte, Nat.reduceEqDiff]
theorem cmp_eq (hra : Rw da a) (hrb : Rw db b) (j : Nat) (hl : a.length < 4611686018427387904) (ha : j < a.length) (hb : j < b.length) (h : a.getD j 0 = b.getD j 0) : X G Qa3 (QiE da db j) = some (.n, QiE da db ((j : Int) - 1)) := by
 have e1 : decide ((j : Int) ≥ 0) = true := ge_t (by omega)
 have e2 := hra.ixn ha
 have e3 := fun hp => ldv hp a ha
 have e4 := hrb.ixn hb
 have e5 := fun hp => ldv hp b hb
 have e6 : w64 ((j : Int) - 1) = (j : Int) - 1 := Qaf (by omega) (by omega)
 rw [h] at e3
 simp -implicitDefEqProofs (maxSteps:=9^8) only [Qa3, QiE, go_sem, iv, bv, e1, e2, e3, e4, e5, e6, Qqf, reduceCtorEq, ↓reduceIte, Nat.reduceEqDiff]
theorem cmp_ne (hra : Rw da a) (hrb : Rw db b) (j : Nat) (hl : a.length < 4611686018427387904) (ha : j < a.length) (hb : j < b.length) (h : a.getD j 0 ≠ b.getD j 0) : X G Qa3 (QiE da db j) = some (.r, QmU (Int.sign (a.getD j 0 - b.getD j 0))) := by
 have e1 : decide ((j : Int) ≥ 0) = true := ge_t (by omega)
 have e2 := hra.ixn ha
 have e3 := fun hp => ldv hp a ha
 have e4 := hrb.ixn hb
 have e5 := fun hp => ldv hp b hb
 have e6 := Qhm (a.getD j 0) (b.getD j 0)
 simp only [iv] at e6
 simp -implicitDefEqProofs (maxSteps:=9^8) only [Qa3, QiE, QmU, go_sem, iv, bv, e1, e2, e3, e4, e5, e6, bne_t h, reduceCtorEq, ↓reduceIte, Nat.reduceEqDiff]

theorem sign_top {x y : Int} {j : Nat} {p q : Int} (hx : 0 ≤ x ∧ x < (1000000000 : Int) ^ j) (hy : 0 ≤ y ∧ y < (1000000000 : Int) ^ j) (h : p ≠ q) : Int.sign (x + (1000000000 : Int) ^ j * p - (y + (1000000000 : Int) ^ j * q)) = Int.sign (p - q) := by
 have _its : Its := inferInstance
 rcases Int.lt_or_gt_of_ne h with h | h
 ·have e : (1000000000 : Int) ^ j * p ≤ (1000000000 : Int) ^ j * (q - 1) := Int.mul_le_mul_of_nonneg_left (by omega) (by omega)
  rw [Int.sign_eq_neg_one_of_neg (by omega : p - q < 0), Int.sign_eq_neg_one_of_neg (by grind)]
 ·have e : (1000000000 : Int) ^ j * q ≤ (1000000000 : Int) ^ j * (p - 1) := Int.mul_le_mul_of_nonneg_left (by omega) (by omega)
  rw [Int.sign_eq_one_of_pos (by omega : 0 < p - q), Int.sign_eq_one_of_pos (by grind)]

theorem Qhn {l : List Int} (h : Dig l) {n : Nat} (hn : n ≤ l.length) : 0 ≤ val (l.take n) ∧ val (l.take n) < (1000000000 : Int) ^ n := by
 have _its : Its := inferInstance
 refine ⟨QaL (h.take n), ?_⟩
 have := QeV (h.take n)
 rwa [List.length_take, Nat.min_eq_left hn] at this

theorem Qqw      (hra : Rw da a) (hrb : Rw db b) (ha : Dig a) (hb : Dig b) (hl : a.length < 4611686018427387904) : ∀ j : Nat, j ≤ a.length → j ≤ b.length →
    X G (.loop Qa3) (QiE da db ((j : Int) - 1)) = if val (a.take j) = val (b.take j) then some (.x 0, ⟨fr0, hp0, []⟩) else some (.r, QmU (Int.sign (val (a.take j) - val (b.take j))))
  | 0, _, _ => by
    rw [Qak, show ((0 : Nat) : Int) - 1 = -1 from rfl, cmp_zero]
    simp [val]
  | j + 1, h1, h2 => by
    rw [Qak, show ((j + 1 : Nat) : Int) - 1 = (j : Int) by omega, Qap a, Qap b]
    obtain ⟨xa, ya⟩ := Qhn ha (n := j) (by omega)
    obtain ⟨xb, yb⟩ := Qhn hb (n := j) (by omega)
    by_cases h : a.getD j 0 = b.getD j 0
    · rw [cmp_eq da db a b hra hrb j hl (by omega) (by omega) h, h]
      simp only [Option.bind_some, ex_n_n, if_true]
      rw [Qqw hra hrb ha hb hl j (by omega) (by omega)]
      by_cases h3 : val (a.take j) = val (b.take j)
      · rw [if_pos h3, if_pos (by rw [h3])]
      · rw [if_neg h3, if_neg (by omega), show val (a.take j) + (1000000000 : Int) ^ j * b.getD j 0 - (val (b.take j) + (1000000000 : Int) ^ j * b.getD j 0) = val (a.take j) - val (b.take j) by omega]
    · rw [cmp_ne da db a b hra hrb j hl (by omega) (by omega) h]
      have hs := sign_top ⟨xa, ya⟩ ⟨xb, yb⟩ h
      have hne : ¬ (val (a.take j) + (1000000000 : Int) ^ j * a.getD j 0 = val (b.take j) + (1000000000 : Int) ^ j * b.getD j 0) := by
        intro he
        rw [he, Int.sub_self] at hs
        have : a.getD j 0 - b.getD j 0 = 0 := Int.sign_eq_zero_iff_zero.1 hs.symm
        omega
      rw [if_neg hne, hs]
      rfl
end

theorem top_ge {l : List Int} (hd : Dig l) (ht : Top l) (h : l ≠ []) : (1000000000 : Int) ^ (l.length - 1) ≤ val l := by
 have _its : Its := inferInstance
 have hlen : 0 < l.length := List.length_pos_iff.2 h
 have h1 := Qap l (l.length - 1)
 rw [show l.length - 1 + 1 = l.length by omega, List.take_length] at h1
 have h2 := ht h
 have h3 : l.getD (l.length - 1) 0 = l.getLast h := by
  rw [List.getLast_eq_getElem, List.getD_eq_getElem?_getD, List.getElem?_eq_getElem (by omega)]; rfl
 have h4 := hd.getD (l.length - 1)
 have h5 := QaL (hd.take (l.length - 1))
 have h6 : (1000000000 : Int) ^ (l.length - 1) * 1 ≤ (1000000000 : Int) ^ (l.length - 1) * l.getD (l.length - 1) 0 := Int.mul_le_mul_of_nonneg_left (by omega) (Int.pow_nonneg (by omega))
 omega
theorem Qg4 {a b : List Int} (ha : Dig a) (hb : Dig b) (hbt : Top b) (h : a.length < b.length) : val a < val b := by
 have h1 := QeV ha
 have h2 := top_ge hb hbt (by rintro rfl; simp at h)
 have h3 : (1000000000 : Int) ^ a.length ≤ (1000000000 : Int) ^ (b.length - 1) := QiH (by omega)
 omega

theorem QfM          {da db : D} {a b : List Int} (hra : Rw da a) (hrb : Rw db b) (ha : Dig a) (hb : Dig b) (hat : Top a) (hbt : Top b) (hla : a.length < 4611686018427387904) (hlb : b.length < 4611686018427387904) :
    Qah G Qcl [da, db] = some (.d (iv (Int.sign (val a - val b)))) := by
  rw [Qad (cf := QcQ) rfl]
  by_cases h : a.length = b.length
  · have e1 : (((a.length : Int)) != (b.length : Int)) = false := bne_f (by omega)
    have e2 : w64 ((a.length : Int) - 1) = (a.length : Int) - 1 := Qaf (by omega) (by omega)
    have hlp := Qqw da db a b hra hrb ha hb hla a.length (Nat.le_refl _) (by omega)
    rw [List.take_length, h, List.take_length] at hlp
    rw [← h] at hlp
    simp only [QiE, QmU] at hlp
    by_cases hv : val a = val b
    · rw [if_pos hv] at hlp
      rw [hv, Int.sub_self]
      simp -implicitDefEqProofs (maxSteps:=9^8) only [QcQ, go_sem, iv, bv, hra.len, hrb.len, e1, e2, hlp, reduceCtorEq, ↓reduceIte, Nat.reduceEqDiff]
      rfl
    · rw [if_neg hv] at hlp
      simp -implicitDefEqProofs (maxSteps:=9^8) only [QcQ, go_sem, iv, bv, hra.len, hrb.len, e1, e2, hlp, reduceCtorEq, ↓reduceIte, Nat.reduceEqDiff]
  · have e1 : (((a.length : Int)) != (b.length : Int)) = true := bne_t (by omega)
    have e2 := Qhm (a.length : Int) (b.length : Int)
    simp only [iv] at e2
    have e3 : Int.sign ((a.length : Int) - (b.length : Int)) = Int.sign (val a - val b) := by
      rcases Nat.lt_or_gt_of_ne h with h | h
      · have := Qg4 ha hb hbt h
        rw [Int.sign_eq_neg_one_of_neg (by omega), Int.sign_eq_neg_one_of_neg (by omega)]
      · have := Qg4 hb ha hat h
        rw [Int.sign_eq_one_of_pos (by omega), Int.sign_eq_one_of_pos (by omega)]
    rw [e3] at e2
    simp -implicitDefEqProofs (maxSteps:=9^8) only [QcQ, go_sem, iv, bv, hra.len, hrb.len, e1, e2, reduceCtorEq, ↓reduceIte, Nat.reduceEqDiff]
end Go.AM

/- integer.Add, Neg, Sub, Compare, Sign -/
namespace Go.AM
open Go Go.RowKit
variable [Its]

theorem Qqt {x y : Int} (hx : nd x ≤ 1000000000000) (hy : nd y ≤ 1000000000000) : Qah G QgQ [encI x, encI y] = some (.d (encI (x + y))) := by
  rw [Qad (cf := Qft) rfl]
  have hx' : (digs x.natAbs).length ≤ 1000000000000 := hx
  have hy' : (digs y.natAbs).length ≤ 1000000000000 := hy
  have dx := Qan x.natAbs
  have dy := Qan y.natAbs
  have vx := QcF x
  have vy := QcF y
  by_cases hs : decide (x < 0) = decide (y < 0)
  · obtain ⟨out, g1, g2, g3, g4⟩ := QoI (Rw.dg _) (Rw.dg _) dx dy (by omega)
    have g5 := Qd8 (decide (x < 0)) (Rw.row out) (by omega) g3
    have e1 : (decide (x < 0) == decide (y < 0)) = true := by rw [hs]; simp
    have e2 : sgn (decide (x < 0)) (val out) = x + y := by
      rw [g4, vx, vy]
      by_cases h : x < 0
      · have h2 : y < 0 := by simpa [h] using hs
        simp [sgn, h]; omega
      · have h2 : ¬ y < 0 := by simpa [h] using hs
        simp [sgn, h]; omega
    rw [e2] at g5
    simp only [rowI, bv] at g5
    simp -implicitDefEqProofs (maxSteps:=9^8) only [Qft, encI, go_sem, Qab, Qaa, iv, bv, e1, g1, g5, reduceCtorEq, ↓reduceIte, Nat.reduceEqDiff]
  · have e1 : (decide (x < 0) == decide (y < 0)) = false := by simpa using hs
    have g0 := QfM (Rw.dg _) (Rw.dg _) dx dy (QbX _) (QbX _) (by omega) (by omega)
    rw [vx, vy] at g0
    simp only [iv] at g0
    have lx := Qdi x
    have ly := Qdi y
    have len : ∀ {u v : Int}, u.natAbs ≤ v.natAbs → (digs u.natAbs).length ≤ (digs v.natAbs).length := fun h => QjE h
    by_cases hlt : x.natAbs < y.natAbs
    · have hsg : Int.sign ((x.natAbs : Int) - (y.natAbs : Int)) = -1 := Int.sign_eq_neg_one_of_neg (by omega)
      rw [hsg] at g0
      obtain ⟨out, g1, g2, g3, g4⟩ := Qjd (Rw.dg _) (Rw.dg _) dy dx (by omega) (len (by omega)) (by omega)
      have g5 := Qd8 (decide (y < 0)) (Rw.row out) (by omega) g3
      have e2 : sgn (decide (y < 0)) (val out) = x + y := by
        rw [g4, vx, vy]
        by_cases h : y < 0
        · have h2 : ¬ x < 0 := by intro h3; exact hs (by simp [h, h3])
          simp [sgn, h]; omega
        · have h2 : x < 0 := by
            rcases Int.lt_or_le x 0 with h3 | h3
            · exact h3
            · exact absurd (by simp [h, Int.not_lt.2 h3]) hs
          simp [sgn, h]; omega
      rw [e2] at g5
      simp only [rowI, bv] at g5
      have e3 : decide ((-1 : Int) < 0) = true := rfl
      simp -implicitDefEqProofs (maxSteps:=9^8) only [Qft, encI, go_sem, Qab, Qaa, iv, bv, e1, e3, g0, g1, g5, reduceCtorEq, ↓reduceIte, Nat.reduceEqDiff]
    · have e3 : decide (Int.sign ((x.natAbs : Int) - (y.natAbs : Int)) < 0) = false := by
        apply lt_f
        rcases Int.lt_or_le 0 ((x.natAbs : Int) - (y.natAbs : Int)) with h | h
        · rw [Int.sign_eq_one_of_pos h]; omega
        · rw [show (x.natAbs : Int) - (y.natAbs : Int) = 0 by omega]; exact Int.lt_irrefl 0
      obtain ⟨out, g1, g2, g3, g4⟩ := Qjd (Rw.dg _) (Rw.dg _) dx dy (by omega) (len (by omega)) (by omega)
      have g5 := Qd8 (decide (x < 0)) (Rw.row out) (by omega) g3
      have e2 : sgn (decide (x < 0)) (val out) = x + y := by
        rw [g4, vx, vy]
        by_cases h : x < 0
        · have h2 : ¬ y < 0 := by intro h3; exact hs (by simp [h, h3])
          simp [sgn, h]; omega
        · have h2 : y < 0 := by
            rcases Int.lt_or_le y 0 with h3 | h3
            · exact h3
            · exact absurd (by simp [h, Int.not_lt.2 h3]) hs
          simp [sgn, h]; omega
      rw [e2] at g5
      simp only [rowI, bv] at g5
      simp -implicitDefEqProofs (maxSteps:=9^8) only [Qft, encI, go_sem, Qab, Qaa, iv, bv, e1, e3, g0, g1, g5, reduceCtorEq, ↓reduceIte, Nat.reduceEqDiff]

theorem Qmu (x : Int) : Qah G Qe4 [encI x] = some (.d (encI (-x))) := by
 rw [Qad (cf := QgO) rfl]
 have el := QaJ (digs x.natAbs)
 have en : (-x).natAbs = x.natAbs := Int.natAbs_neg x
 by_cases h : x < 0
 ·have e1 : decide (x < 0) = true := decide_eq_true h
  have e2 : decide (-x < 0) = false := decide_eq_false (by omega)
  simp -implicitDefEqProofs (maxSteps:=9^8) only [QgO, encI, go_sem, Qab, Qaa, iv, bv, e1, e2, en, el, reduceCtorEq, ↓reduceIte, Nat.reduceEqDiff]
 ·have e1 : decide (x < 0) = false := decide_eq_false h
  have e3 : decide (((digs x.natAbs).length : Int) > 0) = decide (-x < 0) := by
   have := digs_length_pos (n := x.natAbs)
   by_cases h0 : x = 0
   ·subst h0
    have h9 : ¬ 0 < (digs (0 : Int).natAbs).length := by rw [digs_length_pos]; simp
    rw [gt_f (by omega)]; rfl
   ·have : 0 < (digs x.natAbs).length := digs_length_pos.2 (by omega)
    rw [gt_t (by omega)]
    exact (decide_eq_true (by omega)).symm
  simp -implicitDefEqProofs (maxSteps:=9^8) only [QgO, encI, go_sem, Qab, Qaa, iv, bv, e1, e3, en, el, reduceCtorEq, ↓reduceIte, Nat.reduceEqDiff]

theorem Sign_spec (x : Int) : Qah G QhX [encI x] = some (.d (iv (Int.sign x))) := by
 rw [Qad (cf := Qey) rfl]
 have el := QaJ (digs x.natAbs)
 rcases Int.lt_trichotomy x 0 with h | h | h
 ·have e1 : decide (x < 0) = true := decide_eq_true h
  have e2 : Int.sign x = -1 := Int.sign_eq_neg_one_of_neg h
  simp -implicitDefEqProofs (maxSteps:=9^8) only [Qey, encI, go_sem, Qab, Qaa, iv, bv, e1, e2, el, reduceCtorEq, ↓reduceIte, Nat.reduceEqDiff]
 ·subst h
  have e1 : decide ((0 : Int) < 0) = false := rfl
  have e2 : Int.sign 0 = 0 := rfl
  have e3 : (digs (0 : Int).natAbs).length = 0 := Qlu
  have e4 : ((0 : Int) == 0) = true := rfl
  simp -implicitDefEqProofs (maxSteps:=9^8) only [Qey, encI, go_sem, Qab, Qaa, iv, bv, e1, e2, e3, e4, el, reduceCtorEq, ↓reduceIte, Nat.reduceEqDiff]
 ·have e1 : decide (x < 0) = false := decide_eq_false (by omega)
  have e2 : Int.sign x = 1 := Int.sign_eq_one_of_pos h
  have e3 : 0 < (digs x.natAbs).length := digs_length_pos.2 (by omega)
  have e4 : (((digs x.natAbs).length : Int) == 0) = false := Qco (by omega)
  simp -implicitDefEqProofs (maxSteps:=9^8) only [Qey, encI, go_sem, Qab, Qaa, iv, bv, e1, e2, e4, el, reduceCtorEq, ↓reduceIte, Nat.reduceEqDiff]

theorem Qj9 {x y : Int} (hx : nd x ≤ 1000000000000) (hy : nd y ≤ 1000000000000) : Qah G QdZ [encI x, encI y] = some (.d (iv (Int.sign (x - y)))) := by
 rw [Qad (cf := Qci) rfl]
 have hx' : (digs x.natAbs).length ≤ 1000000000000 := hx
 have hy' : (digs y.natAbs).length ≤ 1000000000000 := hy
 have g0 := QfM (Rw.dg _) (Rw.dg _) (Qan x.natAbs) (Qan y.natAbs) (QbX _) (QbX _) (by omega) (by omega)
 have g1 := QfM (Rw.dg _) (Rw.dg _) (Qan y.natAbs) (Qan x.natAbs) (QbX _) (QbX _) (by omega) (by omega)
 rw [QcF, QcF] at g0 g1
 simp only [iv] at g0 g1
 by_cases h : x < 0 <;> by_cases h2 : y < 0
 ·have e1 : decide (x < 0) = true := decide_eq_true h
  have e2 : decide (y < 0) = true := decide_eq_true h2
  have e3 : (y.natAbs : Int) - (x.natAbs : Int) = x - y := by omega
  rw [e3] at g1
  simp -implicitDefEqProofs (maxSteps:=9^8) only [Qci, encI, go_sem, Qab, Qaa, iv, bv, e1, e2, g1, beq_self_eq_true, reduceCtorEq, ↓reduceIte, Nat.reduceEqDiff]
 ·have e1 : decide (x < 0) = true := decide_eq_true h
  have e2 : decide (y < 0) = false := decide_eq_false h2
  have e3 : Int.sign (x - y) = -1 := Int.sign_eq_neg_one_of_neg (by omega)
  have e4 : (true == false) = false := rfl
  simp -implicitDefEqProofs (maxSteps:=9^8) only [Qci, encI, go_sem, Qab, Qaa, iv, bv, e1, e2, e3, e4, reduceCtorEq, ↓reduceIte, Nat.reduceEqDiff]
 ·have e1 : decide (x < 0) = false := decide_eq_false h
  have e2 : decide (y < 0) = true := decide_eq_true h2
  have e3 : Int.sign (x - y) = 1 := Int.sign_eq_one_of_pos (by omega)
  have e4 : (false == true) = false := rfl
  simp -implicitDefEqProofs (maxSteps:=9^8) only [Qci, encI, go_sem, Qab, Qaa, iv, bv, e1, e2, e3, e4, reduceCtorEq, ↓reduceIte, Nat.reduceEqDiff]
 ·have e1 : decide (x < 0) = false := decide_eq_false h
  have e2 : decide (y < 0) = false := decide_eq_false h2
  have e3 : (x.natAbs : Int) - (y.natAbs : Int) = x - y := by omega
  rw [e3] at g0
  simp -implicitDefEqProofs (maxSteps:=9^8) only [Qci, encI, go_sem, Qab, Qaa, iv, bv, e1, e2, g0, beq_self_eq_true, reduceCtorEq, ↓reduceIte, Nat.reduceEqDiff]
end Go.AM

/- integer.divide -/
namespace Go.AM
open Go Go.RowKit

theorem Qhl : encI 0 = .agg [bv false, .z true] := by
 have : digs (0 : Int).natAbs = [] := Qau
 rw [encI, this]; rfl
theorem Qav (x : Int) : encI (sgn false x) = encI x := rfl
theorem Qk8 {x y q r : Int} (h : x = q * y + r) (h0 : 0 ≤ r) (h1 : r < y) : x / y = q ∧ x % y = r := by
 subst h
 have hy : y ≠ 0 := by omega
 constructor
 ·rw [Int.add_comm, Int.add_mul_ediv_right _ _ hy, Int.ediv_eq_zero_of_lt h0 h1, Int.zero_add]
 ·rw [Int.add_comm, Int.add_mul_emod_self_right, Int.emod_eq_of_lt h0 h1]
theorem Qbb {x y : Nat} (h : x ≤ y) : (digs x).length ≤ (digs y).length := by
 have := QjE (x := (x : Int)) (y := (y : Int)) (by simpa using h)
 simpa [nd] using this
theorem Qem {x : Nat} (h : (digs x).length ≤ 2) : x < 1000000000000000000 := by
 have h1 := QeV (Qan x)
 rw [QaA] at h1
 have h2 := QiH h
 have h3 : (1000000000 : Int) ^ 2 = 1000000000000000000 := by decide
 omega
theorem digs_last {x : Nat} {p : Nat} (h : (digs x).length = p + 1) : 0 < (digs x).getD p 0 := by
 have ht := QbX x
 have hd := (Qan x).getD p
 have hne : digs x ≠ [] := by intro h'; rw [h'] at h; simp at h
 have := ht hne
 have e : (digs x).getLast hne = (digs x).getD p 0 := by
  rw [List.getLast_eq_getElem, List.getD_eq_getElem?_getD, List.getElem?_eq_getElem (by omega)]
  simp [h]
 rw [e] at this
 omega
theorem Qof {x : Int} (h : 0 ≤ x ∧ x < 18446744073709551616) : x % 18446744073709551616 = x := by omega
theorem div_range {x y : Int} (hx : 0 ≤ x ∧ x < 1000000000000000000) (hy : 0 < y) : (0 ≤ x / y ∧ x / y < 1000000000000000000) ∧ 0 ≤ x % y ∧ x % y < 1000000000000000000 := by
 have h1 := Int.ediv_nonneg hx.1 (Int.le_of_lt hy)
 have h2 := Int.ediv_le_self y hx.1
 have h3 := Int.emod_nonneg x (by omega : y ≠ 0)
 have h4 : x % y ≤ x := by
  have := Int.mul_ediv_add_emod x y
  have h5 := Int.mul_nonneg (Int.le_of_lt hy) h1
  generalize y * (x / y) = z at *
  omega
 generalize x / y = q at *
 generalize x % y = r at *
 omega
variable [Its]

theorem QkN         {x y : Nat} (hy : 0 < y) (hx : (digs x).length ≤ 1000000000000) (hyl : (digs y).length ≤ 1000000000000) :
    Qah G QeG [dg (digs x), dg (digs y)] = some (.d (.tup [encI ((x : Int) / (y : Int)), encI ((x : Int) % (y : Int))])) := by
  rw [Qad (cf := QbZ) rfl]
  have dx := Qan x
  have dy := Qan y
  have vx := QaA x
  have vy := QaA y
  have t1 := Qkw (Rw.dg (digs x)) dx (by omega)
  have t2 := Qkw (Rw.dg (digs y)) dy (by omega)
  have tc := QfM (Rw.dg _) (Rw.dg _) dx dy (QbX _) (QbX _) (by omega) (by omega)
  have ly := QaJ (digs y)
  rw [vx, vy] at tc
  rw [vx] at t1
  rw [vy] at t2
  simp only [iv, bv] at t1 t2 tc
  by_cases hlt : x < y
  · -- less
    have q0 : (x : Int) / (y : Int) = 0 := Int.ediv_eq_zero_of_lt (by omega) (by omega)
    have r0 : (x : Int) % (y : Int) = x := Int.emod_eq_of_lt (by omega) (by omega)
    by_cases h1 : (digs x).length ≤ 2
    · by_cases h2 : (digs y).length ≤ 2
      · have s1 := Qem h1
        rw [if_pos h1, decide_eq_true h1] at t1
        rw [if_pos h2, decide_eq_true h2] at t2
        have e1 := Qjt (b := (y : Int)) (by omega)
        have e2 := QeL (a := (x : Int)) (b := (y : Int)) (by omega)
        have e3 := Qdn (a := (x : Int)) (b := (y : Int)) (by omega)
        rw [q0] at e2 ⊢
        rw [r0] at e3 ⊢
        have e4 : w64 0 = 0 := Qaf (by omega) (by omega)
        have e5 : (0 : Int) % 18446744073709551616 = 0 := rfl
        have e6 := Qof (x := (x : Int)) (by omega)
        have u1 := QbV false (u := 0) (by omega)
        have u2 := QbV false (u := (x : Int)) (by omega)
        rw [Qav] at u1 u2
        simp only [bv] at u1 u2
        simp -implicitDefEqProofs (maxSteps:=9^8) only [QbZ, encI, go_sem, Qab, Qaa, iv, bv, t1, t2, e1, e2, e3, e4, e5, e6, u1, u2, toDs, reduceCtorEq, ↓reduceIte, Nat.reduceEqDiff]
      · rw [if_pos h1, decide_eq_true h1] at t1
        rw [if_neg h2, decide_eq_false h2] at t2
        have o1 := Qd8 false (Rw.dg (digs x)) (by omega) dx
        rw [Qav, vx] at o1
        rw [Int.sign_eq_neg_one_of_neg (by omega)] at tc
        have e1 : decide ((-1 : Int) < 0) = true := rfl
        rw [q0, r0, Qhl]
        simp only [bv] at o1
        simp -implicitDefEqProofs (maxSteps:=9^8) only [QbZ, encI, go_sem, Qab, Qaa, iv, bv, t1, t2, tc, e1, o1, toDs, reduceCtorEq, ↓reduceIte, Nat.reduceEqDiff]
    · rw [if_neg h1, decide_eq_false h1] at t1
      have o1 := Qd8 false (Rw.dg (digs x)) (by omega) dx
      rw [Qav, vx] at o1
      rw [Int.sign_eq_neg_one_of_neg (by omega)] at tc
      have e1 : decide ((-1 : Int) < 0) = true := rfl
      rw [q0, r0, Qhl]
      simp only [bv] at o1
      simp -implicitDefEqProofs (maxSteps:=9^8) only [QbZ, encI, go_sem, Qab, Qaa, iv, bv, t1, t2, tc, e1, o1, toDs, reduceCtorEq, ↓reduceIte, Nat.reduceEqDiff]
  · have hle := Qbb (Nat.le_of_not_lt hlt)
    by_cases h1 : (digs x).length ≤ 2
    · have h2 : (digs y).length ≤ 2 := by omega
      have s1 := Qem h1
      rw [if_pos h1, decide_eq_true h1] at t1
      rw [if_pos h2, decide_eq_true h2] at t2
      have e1 := Qjt (b := (y : Int)) (by omega)
      have e2 := QeL (a := (x : Int)) (b := (y : Int)) (by omega)
      have e3 := Qdn (a := (x : Int)) (b := (y : Int)) (by omega)
      obtain ⟨d1, d2, d3⟩ := div_range (x := (x : Int)) (y := (y : Int)) (by omega) (by omega)
      obtain ⟨Q, hQ⟩ : ∃ Q, (x : Int) / (y : Int) = Q := ⟨_, rfl⟩
      obtain ⟨M, hM⟩ : ∃ M, (x : Int) % (y : Int) = M := ⟨_, rfl⟩
      rw [hQ] at e2 d1 ⊢
      rw [hM] at e3 d2 d3 ⊢
      have e4 : w64 Q = Q := Qaf (by omega) (by omega)
      have e5 := Qof (x := Q) (by omega)
      have e6 := Qof (x := M) (by omega)
      have u1 := QbV false (u := Q) (by omega)
      have u2 := QbV false (u := M) (by omega)
      rw [Qav] at u1 u2
      simp only [bv] at u1 u2
      simp -implicitDefEqProofs (maxSteps:=9^8) only [QbZ, encI, go_sem, Qab, Qaa, iv, bv, t1, t2, e1, e2, e3, e4, e5, e6, u1, u2, toDs, reduceCtorEq, ↓reduceIte, Nat.reduceEqDiff]
    · rw [if_neg h1, decide_eq_false h1] at t1
      have e1 : decide (Int.sign ((x : Int) - (y : Int)) < 0) = false := by
        apply lt_f
        rcases Int.lt_or_le 0 ((x : Int) - (y : Int)) with h | h
        · rw [Int.sign_eq_one_of_pos h]; omega
        · rw [show (x : Int) - (y : Int) = 0 by omega]; exact Int.lt_irrefl 0
      have hlp : 0 < (digs y).length := digs_length_pos.2 hy
      by_cases h3 : (digs y).length = 1
      · -- one digit
        obtain ⟨b1, b2⟩ := Qln h3
        obtain ⟨q, r, g1, g2, g3, g4, g5⟩ := Qmo (Rw.dg (digs x)) dx (b := (y : Int)) (by omega) (by omega)
        rw [vx] at g5
        obtain ⟨u1, u2⟩ := Qk8 g5 g2.1 g2.2
        rw [u1, u2]
        have o1 := Qd8 false (Rw.row q) (by omega) g4
        rw [Qav] at o1
        have o2 := QbV false (u := r) (by omega)
        rw [Qav] at o2
        have i1 := (Rw.dg (digs y)).ixn (j := 0) (by omega)
        have i2 := fun hp => ldv hp (digs y) (j := 0) (by omega)
        simp only [nc0, List.drop_zero, b1] at i1 i2
        have e2 := Qof (x := r) (by omega)
        have e3 : (((digs y).length : Int) == 1) = true := QiL (by omega)
        simp only [bv, iv] at o1 o2 g1
        simp -implicitDefEqProofs (maxSteps:=9^8) only [QbZ, encI, go_sem, Qab, Qaa, iv, bv, t1, tc, e1, e2, e3, g1, o1, o2, i1, i2, ly, toDs, reduceCtorEq, ↓reduceIte, Nat.reduceEqDiff]
      · obtain ⟨p, hp⟩ : ∃ p, (digs y).length = p + 2 := ⟨(digs y).length - 2, by omega⟩
        obtain ⟨q, r, g1, g2, g3, g4, g5, g6, g7⟩ := long_spec (Rw.dg (digs x)) (Rw.dg (digs y)) dx dy hp (digs_last hp) hle hx
        rw [vx, vy] at g6
        rw [vy] at g7
        obtain ⟨u1, u2⟩ := Qk8 (x := (x : Int)) (y := (y : Int)) (q := val q) (r := val r) (by rw [g6, Int.mul_comm]) (QaL g3) g7
        rw [u1, u2]
        clear g6
        have o1 := Qd8 false (Rw.row q) (by omega) g2
        have o2 := Qd8 false (Rw.row r) (by omega) g3
        rw [Qav] at o1 o2
        have e3 : (((digs y).length : Int) == 1) = false := Qco (by omega)
        simp only [bv, iv] at o1 o2 g1
        simp -implicitDefEqProofs (maxSteps:=9^8) only [QbZ, encI, go_sem, Qab, Qaa, iv, bv, t1, tc, e1, e3, g1, o1, o2, ly, toDs, reduceCtorEq, ↓reduceIte, Nat.reduceEqDiff]
end Go.AM

/- integer.Div, Sub -/
namespace Go.AM
open Go Go.RowKit

theorem Qih (neg : Bool) (n : Nat) : D.agg [.v (.bool (neg && decide (((digs n).length : Int) > 0))), dg (digs n)] = encI (sgn neg (n : Int)) := by
 by_cases h : n = 0
 ·subst h
  have e : digs 0 = [] := Qau
  have e2 : sgn neg ((0 : Nat) : Int) = 0 := by cases neg <;> rfl
  rw [e2, Qhl, e]
  simp [dg, bv]
 ·have h1 : ((digs n).length : Int) > 0 := by have := digs_length_pos.2 (Nat.pos_of_ne_zero h); omega
  rw [decide_eq_true h1, Bool.and_true]
  unfold encI
  have e2 : (sgn neg (n : Int)).natAbs = n := by rw [QhE]; rfl
  have e3 : decide (sgn neg (n : Int) < 0) = neg := by
   cases neg
   ·simp only [sgn, Bool.false_eq_true, if_false, decide_eq_false_iff_not]; omega
   ·simp only [sgn, if_true, decide_eq_true_eq]; omega
  rw [e2, e3]; rfl
theorem QlQ        {x y : Int} (hy : y ≠ 0) :
    (¬ x < 0 → x / y = sgn (decide (y < 0)) ((x.natAbs : Int) / (y.natAbs : Int)) ∧ x % y = (x.natAbs : Int) % (y.natAbs : Int)) ∧
    (x < 0 → (x.natAbs : Int) % (y.natAbs : Int) = 0 → x / y = sgn (!decide (y < 0)) ((x.natAbs : Int) / (y.natAbs : Int)) ∧ x % y = 0) ∧
    (x < 0 → (x.natAbs : Int) % (y.natAbs : Int) ≠ 0 → x / y = sgn (!decide (y < 0)) ((x.natAbs : Int) / (y.natAbs : Int) + 1) ∧ x % y = (y.natAbs : Int) - (x.natAbs : Int) % (y.natAbs : Int)) := by
  have hb : 0 < (y.natAbs : Int) := by omega
  obtain ⟨a, ha⟩ : ∃ a, (x.natAbs : Int) = a := ⟨_, rfl⟩
  obtain ⟨b, hbd⟩ : ∃ b, (y.natAbs : Int) = b := ⟨_, rfl⟩
  rw [ha, hbd]
  rw [hbd] at hb
  have e := Int.mul_ediv_add_emod a b
  have m1 := Int.emod_nonneg a (by omega : b ≠ 0)
  have m2 := Int.emod_lt_of_pos a hb
  have key : ∀ q r : Int, x = q * b + r → 0 ≤ r → r < b → x / y = sgn (decide (y < 0)) q ∧ x % y = r := by
    intro q r h h0 h1
    obtain ⟨g1, g2⟩ := Qk8 h h0 h1
    by_cases hn : y < 0
    · have : y = -b := by omega
      rw [this, Int.ediv_neg, Int.emod_neg, g1, g2, ← this, decide_eq_true hn]
      exact ⟨rfl, rfl⟩
    · have : y = b := by omega
      rw [this, g1, g2, ← this, decide_eq_false hn]
      exact ⟨rfl, rfl⟩
  have sg : ∀ q : Int, sgn (decide (y < 0)) (-q) = sgn (!decide (y < 0)) q := by
    intro q
    by_cases hn : y < 0 <;> simp [sgn, hn]
  refine ⟨fun hx => ?_, fun hx h0 => ?_, fun hx h0 => ?_⟩
  · have : x = a := by omega
    exact key _ _ (by rw [this, Int.mul_comm]; exact e.symm) m1 m2
  · have := key (-(a / b)) 0 (by rw [h0] at e; rw [Int.neg_mul, Int.mul_comm]; omega) (by omega) hb
    rw [sg] at this
    exact this
  · have := key (-(a / b + 1)) (b - a % b) (by rw [Int.neg_mul, Int.add_mul, Int.one_mul, Int.mul_comm]; omega) (by omega) (by omega)
    rw [sg] at this
    exact this
variable [Its]

theorem Qre      {x y : Int} (hy : y ≠ 0) (hx : nd x ≤ 1000000000000) (hyl : nd y ≤ 1000000000000) :
    Qah G QgT [encI x, encI y] = some (.d (.tup [encI (x / y), encI (x % y)])) := by
  obtain ⟨c1, c2, c3⟩ := QlQ (x := x) hy
  have hya : 0 < y.natAbs := by omega
  have td := QkN (x := x.natAbs) (y := y.natAbs) hya hx hyl
  have ly := QaJ (digs y.natAbs)
  have e1 : (((digs y.natAbs).length : Int) == 0) = false := Qco (by have := digs_length_pos.2 hya; omega)
  have hq0 : 0 ≤ (x.natAbs : Int) / (y.natAbs : Int) := Int.ediv_nonneg (by omega) (by omega)
  have hr0 : 0 ≤ (x.natAbs : Int) % (y.natAbs : Int) := Int.emod_nonneg _ (by omega)
  have hr1 : (x.natAbs : Int) % (y.natAbs : Int) < (y.natAbs : Int) := Int.emod_lt_of_pos _ (by omega)
  have hq1 : (x.natAbs : Int) / (y.natAbs : Int) ≤ (x.natAbs : Int) := Int.ediv_le_self _ (by omega)
  obtain ⟨Q, hQ⟩ : ∃ Q : Nat, (x.natAbs : Int) / (y.natAbs : Int) = (Q : Int) := ⟨_, (Int.toNat_of_nonneg hq0).symm⟩
  obtain ⟨M, hM⟩ : ∃ M : Nat, (x.natAbs : Int) % (y.natAbs : Int) = (M : Int) := ⟨_, (Int.toNat_of_nonneg hr0).symm⟩
  rw [hQ] at td c1 c2 c3 hq1
  rw [hM] at td c1 c2 c3 hr1
  have q1 : decide ((Q : Int) < 0) = false := decide_eq_false (by omega)
  have q2 : ((Q : Nat) : Int).natAbs = Q := rfl
  have m1 : decide ((M : Int) < 0) = false := decide_eq_false (by omega)
  have m2 : ((M : Nat) : Int).natAbs = M := rfl
  have lq := QaJ (digs Q)
  have lm := QaJ (digs M)
  simp only [encI, q1, q2, m1, m2, bv] at td
  rw [Qad (cf := QcL) rfl]
  have hQl : (digs Q).length ≤ (digs x.natAbs).length := Qbb (by omega)
  have hMl : (digs M).length ≤ (digs y.natAbs).length := Qbb (by omega)
  have hxn : (digs x.natAbs).length ≤ 1000000000000 := hx
  have hyn : (digs y.natAbs).length ≤ 1000000000000 := hyl
  by_cases hxn0 : x < 0
  · have x1 : decide (x < 0) = true := decide_eq_true hxn0
    by_cases hM0 : M = 0
    · obtain ⟨d1, d2⟩ := c2 hxn0 (by omega)
      have f1 : decide ((0 : Int) > 0) = false := rfl
      have f2 : dg (digs M) = .z true := by rw [hM0, Qau]; rfl
      rw [f2] at td
      rw [d1, d2, ← Qih, Qhl]
      by_cases hyn0 : y < 0
      · have y1 : decide (y < 0) = true := decide_eq_true hyn0
        have y2 : (true == true) = true := rfl
        rw [y1]
        simp -implicitDefEqProofs (maxSteps:=9^8) only [QcL, encI, go_sem, Qab, Qaa, iv, bv, e1, x1, y1, y2, f1, td, ly, lq, lm, toDs, Qbx, ne_eq, not_false_eq_true, reduceCtorEq, ↓reduceIte, Nat.reduceEqDiff]
      · have y1 : decide (y < 0) = false := decide_eq_false hyn0
        have y2 : (true == false) = false := rfl
        rw [y1]
        simp -implicitDefEqProofs (maxSteps:=9^8) only [QcL, encI, go_sem, Qab, Qaa, iv, bv, e1, x1, y1, y2, f1, td, ly, lq, lm, toDs, Qbx, ne_eq, not_false_eq_true, reduceCtorEq, ↓reduceIte, Nat.reduceEqDiff]
    · obtain ⟨d1, d2⟩ := c3 hxn0 (by omega)
      have f1 : decide (((digs M).length : Int) > 0) = true := gt_t (by have := digs_length_pos.2 (Nat.pos_of_ne_zero hM0); omega)
      obtain ⟨o1, p1, p2, p3, p4⟩ := QoI (Rw.dg (digs Q)) (Rw.row [1]) (Qan Q) (fun d hd => by simp at hd; omega) (by simp; omega)
      obtain ⟨o2, s1, s2, s3, s4⟩ := Qjd (Rw.dg (digs y.natAbs)) (Rw.dg (digs M)) (Qan _) (Qan _) (by omega) hMl (by rw [QaA, QaA]; omega)
      rw [QaA] at p4
      rw [QaA, QaA] at s4
      have p5 : val o1 = ((Q + 1 : Nat) : Int) := by rw [p4]; simp [val]
      have s5 : val o2 = ((y.natAbs - M : Nat) : Int) := by rw [s4]; omega
      have g1 := Qd8 false (Rw.row o1) (by rw [p2]; simp; omega) p3
      have g2 := Qd8 false (Rw.row o2) (by omega) s3
      rw [Qav, p5] at g1
      rw [Qav, s5] at g2
      have k1 : decide (((Q + 1 : Nat) : Int) < 0) = false := decide_eq_false (by omega)
      have k2 : ((Q + 1 : Nat) : Int).natAbs = Q + 1 := rfl
      have k3 : decide (((y.natAbs - M : Nat) : Int) < 0) = false := decide_eq_false (by omega)
      have k4 : ((y.natAbs - M : Nat) : Int).natAbs = y.natAbs - M := rfl
      have lq1 := QaJ (digs (Q + 1))
      have e5 : (Q : Int) + 1 = ((Q + 1 : Nat) : Int) := rfl
      have e6 : (y.natAbs : Int) - (M : Int) = ((y.natAbs - M : Nat) : Int) := by omega
      simp only [rowI, List.map_cons, List.map_nil, List.length_cons, List.length_nil, encI, k1, k2, k3, k4, bv, iv, Nat.reduceAdd] at p1 s1 g1 g2
      rw [d1, d2, e5, e6, ← Qih]
      by_cases hyn0 : y < 0
      · have y1 : decide (y < 0) = true := decide_eq_true hyn0
        have y2 : (true == true) = true := rfl
        rw [y1]
        simp -implicitDefEqProofs (maxSteps:=9^8) only [QcL, encI, go_sem, Qab, Qaa, iv, bv, e1, x1, y1, y2, f1, p1, s1, g1, g2, k1, k2, k3, k4, lq1,  td, ly, lq, lm, toDs, Qbx, ne_eq, not_false_eq_true, reduceCtorEq, ↓reduceIte, Nat.reduceEqDiff]
      · have y1 : decide (y < 0) = false := decide_eq_false hyn0
        have y2 : (true == false) = false := rfl
        rw [y1]
        simp -implicitDefEqProofs (maxSteps:=9^8) only [QcL, encI, go_sem, Qab, Qaa, iv, bv, e1, x1, y1, y2, f1, p1, s1, g1, g2, k1, k2, k3, k4, lq1,  td, ly, lq, lm, toDs, Qbx, ne_eq, not_false_eq_true, reduceCtorEq, ↓reduceIte, Nat.reduceEqDiff]
  · have x1 : decide (x < 0) = false := decide_eq_false hxn0
    obtain ⟨d1, d2⟩ := c1 hxn0
    rw [d1, d2, ← Qih]
    by_cases hyn0 : y < 0
    · have y1 : decide (y < 0) = true := decide_eq_true hyn0
      have y2 : (false == true) = false := rfl
      rw [y1]
      simp -implicitDefEqProofs (maxSteps:=9^8) only [QcL, encI, go_sem, Qab, Qaa, iv, bv, e1, x1, y1, y2, m1, m2,  td, ly, lq, lm, toDs, Qbx, ne_eq, not_false_eq_true, reduceCtorEq, ↓reduceIte, Nat.reduceEqDiff]
    · have y1 : decide (y < 0) = false := decide_eq_false hyn0
      have y2 : (false == false) = true := rfl
      rw [y1]
      simp -implicitDefEqProofs (maxSteps:=9^8) only [QcL, encI, go_sem, Qab, Qaa, iv, bv, e1, x1, y1, y2, m1, m2,  td, ly, lq, lm, toDs, Qbx, ne_eq, not_false_eq_true, reduceCtorEq, ↓reduceIte, Nat.reduceEqDiff]
end Go.AM

/- integer.Gcd -/
namespace Go.AM
open Go Go.RowKit

theorem QkC (m n : Nat) : Nat.gcd n (m % n) = Nat.gcd m n := by
 rw [Nat.gcd_comm n, ← Nat.gcd_rec n m, Nat.gcd_comm]
theorem Qa5 (n : Nat) : encI (n : Int) = .agg [.v (.bool false), dg (digs n)] := by
 unfold encI
 have : decide ((n : Int) < 0) = false := decide_eq_false (by omega)
 rw [this]; rfl
variable [Its]

def boxI (n : Nat) : Obj := ⟨0, 0, [.d (.v (.bool false)), .d (dg (digs n))], false⟩
def box0 : Obj := ⟨0, 0, [.d (.v (.bool false)), .d (.z true)], false⟩
def QlX (m n : Nat) : St := mkS [(4, .ptr [4] 0), (7, ai m), (9, ai n)] [([4], box0)]
def Qq1 (m : Nat) : St := mkS [(4, .ptr [4] 0), (7, ai m)] [([4], box0)]
theorem gcd_ints : ∀ (n m : Nat), m < 1000000000000000000 → n < 1000000000000000000 → X G (.loop Qdh) (QlX m n) = some (.x 2, Qq1 (Nat.gcd m n)) := by
 intro n
 induction n using Nat.strongRecOn with
 | _ n ih =>
 intro m hm hn
 rw [Qak]
 by_cases h0 : n = 0
 ·subst h0
  have e1 : decide (((0 : Nat) : Int) > 0) = false := rfl
  rw [Nat.gcd_zero_right]
  simp -implicitDefEqProofs (maxSteps:=9^8) only [Qdh, QlX, Qq1, box0, go_sem, iv, bv, reduceCtorEq, ↓reduceIte, Nat.reduceEqDiff]
  rfl
 ·have e1 : decide ((n : Int) > 0) = true := gt_t (by omega)
  have e2 := Qjt (b := (n : Int)) (by omega)
  have e3 := Qdn (a := (m : Int)) (b := (n : Int)) (by omega)
  have e4 : (m : Int) % (n : Int) = ((m % n : Nat) : Int) := rfl
  have hlt : m % n < n := Nat.mod_lt _ (by omega)
  have hx : X G Qdh (QlX m n) = some (.n, QlX n (m % n)) := by
   simp -implicitDefEqProofs (maxSteps:=9^8) only [Qdh, QlX, Qq1, box0, go_sem, iv, bv, e1, e2, e3, e4, reduceCtorEq, ↓reduceIte, Nat.reduceEqDiff]
  rw [hx, Option.bind_some, if_pos rfl, ih (m % n) hlt n hn (by omega), QkC]

def Qf0 (a b : Nat) : St := mkS [(4, .ptr [4] 0), (5, .ptr [5] 0), (6, .ptr [6] 0)] [([4], box0), ([5], boxI a), ([6], boxI b)]
def QrV (a : Nat) : St := mkS [(4, .ptr [4] 0), (5, .ptr [5] 0)] [([4], box0), ([5], boxI a)]
def Qhx (a : Nat) : St := mkS [(4, .ptr [4] 0)] [([4], boxI a)]

theorem gcd_loop : ∀ (b a : Nat), (digs a).length ≤ 1000000000000 → (digs b).length ≤ 1000000000000 →
    X G (.loop QbH) (Qf0 a b) = some (.x 0, QrV (Nat.gcd a b)) ∨ X G (.loop QbH) (Qf0 a b) = some (.r, Qhx (Nat.gcd a b)) := by
  intro b
  induction b using Nat.strongRecOn with
  | _ b ih =>
  intro a ha hb
  have la := QaJ (digs a)
  have lb := QaJ (digs b)
  by_cases h0 : b = 0
  · subst h0
    have e1 : decide (((digs 0).length : Int) > 0) = false := by rw [Qau]; rfl
    refine .inl ?_
    rw [Nat.gcd_zero_right, Qak]
    simp -implicitDefEqProofs (maxSteps:=9^8) only [QbH, Qf0, QrV, box0, boxI, go_sem, Qab, Qaa, iv, bv, e1, la, lb, reduceCtorEq, ↓reduceIte, Nat.reduceEqDiff]
  · have e1 : decide (((digs b).length : Int) > 0) = true := gt_t (by have := digs_length_pos.2 (Nat.pos_of_ne_zero h0); omega)
    have t1 := Qkw (Rw.dg (digs a)) (Qan a) (by omega)
    have t2 := Qkw (Rw.dg (digs b)) (Qan b) (by omega)
    rw [QaA] at t1 t2
    simp only [iv, bv] at t1 t2
    by_cases h1 : (digs a).length ≤ 2 ∧ (digs b).length ≤ 2
    · rw [if_pos h1.1, decide_eq_true h1.1] at t1
      rw [if_pos h1.2, decide_eq_true h1.2] at t2
      have s1 := Qem h1.1
      have s2 := Qem h1.2
      have g1 := gcd_ints b a s1 s2
      have hg : Nat.gcd a b ≤ b := Nat.gcd_le_right _ (Nat.pos_of_ne_zero h0)
      have u1 := QbV false (u := ((Nat.gcd a b : Nat) : Int)) (by omega)
      have e2 := Qof (x := ((Nat.gcd a b : Nat) : Int)) (by omega)
      rw [Qav, Qa5] at u1
      simp only [QlX, Qq1, box0, go_sem] at g1
      simp only [bv] at u1
      refine .inr ?_
      rw [Qak]
      simp -implicitDefEqProofs (maxSteps:=9^8) only [QbH, Qf0, Qhx, box0, boxI, go_sem, Qab, Qaa, iv, bv, e1, e2, la, lb, t1, t2, g1, u1, reduceCtorEq, ↓reduceIte, Nat.reduceEqDiff]
    · have td := QkN (x := a) (y := b) (Nat.pos_of_ne_zero h0) ha hb
      have e3 : (a : Int) / (b : Int) = ((a / b : Nat) : Int) := rfl
      have e4 : (a : Int) % (b : Int) = ((a % b : Nat) : Int) := rfl
      rw [e3, e4, Qa5, Qa5] at td
      have hlt : a % b < b := Nat.mod_lt _ (Nat.pos_of_ne_zero h0)
      have hx : X G QbH (Qf0 a b) = some (.n, Qf0 b (a % b)) := by
        by_cases h2 : (digs a).length ≤ 2
        · have h3 : ¬ (digs b).length ≤ 2 := fun h => h1 ⟨h2, h⟩
          rw [if_pos h2, decide_eq_true h2] at t1
          rw [if_neg h3, decide_eq_false h3] at t2
          simp -implicitDefEqProofs (maxSteps:=9^8) only [QbH, Qf0, Qhx, box0, boxI, go_sem, Qab, Qaa, iv, bv, e1, la, lb, t1, t2, td, Qbx, ne_eq, not_false_eq_true, reduceCtorEq, ↓reduceIte, Nat.reduceEqDiff]
        · rw [if_neg h2, decide_eq_false h2] at t1
          by_cases h3 : (digs b).length ≤ 2
          · rw [if_pos h3, decide_eq_true h3] at t2
            simp -implicitDefEqProofs (maxSteps:=9^8) only [QbH, Qf0, Qhx, box0, boxI, go_sem, Qab, Qaa, iv, bv, e1, la, lb, t1, t2, td, Qbx, ne_eq, not_false_eq_true, reduceCtorEq, ↓reduceIte, Nat.reduceEqDiff]
          · rw [if_neg h3, decide_eq_false h3] at t2
            simp -implicitDefEqProofs (maxSteps:=9^8) only [QbH, Qf0, Qhx, box0, boxI, go_sem, Qab, Qaa, iv, bv, e1, la, lb, t1, t2, td, Qbx, ne_eq, not_false_eq_true, reduceCtorEq, ↓reduceIte, Nat.reduceEqDiff]
      have hr := ih (a % b) hlt b hb (Nat.le_trans (Qbb (Nat.le_of_lt hlt)) hb)
      rw [QkC] at hr
      rw [Qak, hx]
      exact hr

theorem Gcd_spec {x y : Int} (hx : nd x ≤ 1000000000000) (hy : nd y ≤ 1000000000000) : Qah G QiS [encI x, encI y] = some (.d (encI (Int.gcd x y : Nat))) := by
 rw [Qad (cf := QgV) rfl]
 have hxn : (digs x.natAbs).length ≤ 1000000000000 := hx
 have hyn : (digs y.natAbs).length ≤ 1000000000000 := hy
 have o1 := Qd8 false (Rw.dg (digs x.natAbs)) (by omega) (Qan _)
 have o2 := Qd8 false (Rw.dg (digs y.natAbs)) (by omega) (Qan _)
 rw [Qav, QaA, Qa5] at o1 o2
 simp only [bv] at o1 o2
 rw [Qa5]
 have e : Int.gcd x y = Nat.gcd x.natAbs y.natAbs := rfl
 rw [e]
 rcases gcd_loop y.natAbs x.natAbs hxn hyn with g | g
 ·simp only [Qf0, QrV, box0, boxI, go_sem] at g
  simp -implicitDefEqProofs (maxSteps:=9^8) only [QgV, encI, go_sem, Qab, Qaa, iv, bv, o1, o2, g, reduceCtorEq, ↓reduceIte, Nat.reduceEqDiff]
 ·simp only [Qf0, Qhx, box0, boxI, go_sem] at g
  simp -implicitDefEqProofs (maxSteps:=9^8) only [QgV, encI, go_sem, Qab, Qaa, iv, bv, o1, o2, g, reduceCtorEq, ↓reduceIte, Nat.reduceEqDiff]
end Go.AM

/- gantryref04: normal, digit, tiny, compared, Compare, Sign, Neg -/
namespace Go.AM
open Go Go.RowKit

theorem QeS (st : St) (n : Nat) (cs : List D) : src st (.d (.row n cs)) = some (n, cs) := rfl
theorem Qq5 (x : Int) : encI x = .agg [.v (.bool (decide (x < 0))), dg (digs x.natAbs)] := rfl
variable [Its]

section
variable (neg : Bool) (d : D) (l : List Int)
def Qg5 (n : Int) : St := mkS [(0, ab neg), (1, .d d), (4, .ptr [4] 0), (5, ai n)] [([4], box0)]
theorem nrm_go (hr : Rw d l) (n : Nat) (h : n < l.length) (hl : l.length < 4611686018427387904) (h0 : l.getD n 0 = 0) : X G QaK (Qg5 neg d ((n + 1 : Nat) : Int)) = some (.n, Qg5 neg d n) := by
 have e1 : decide (((n + 1 : Nat) : Int) > 0) = true := gt_t (by omega)
 have e2 : w64 (((n + 1 : Nat) : Int) - 1) = n := by rw [Qaf (by omega) (by omega)]; omega
 have e3 := hr.ixn (j := n) (by omega)
 have e4 := fun hp => ldv hp l (j := n) (by omega)
 have e5 : ((0 : Int) > (n : Int)) = False := eq_false (by omega)
 simp -implicitDefEqProofs (maxSteps:=9^8) only [QaK, Qg5, box0, go_sem, QgB, mxV, iv, bv, e1, e2, e3, e4, e5, h0, beq_self_eq_true, reduceCtorEq, ↓reduceIte, Nat.reduceEqDiff]
theorem nrm_stop (hr : Rw d l) (n : Nat) (h : n < l.length) (hl : l.length < 4611686018427387904) (h0 : l.getD n 0 ≠ 0) : X G QaK (Qg5 neg d ((n + 1 : Nat) : Int)) = some (.x 0, Qg5 neg d ((n + 1 : Nat) : Int)) := by
 have e1 : decide (((n + 1 : Nat) : Int) > 0) = true := gt_t (by omega)
 have e2 : w64 (((n + 1 : Nat) : Int) - 1) = n := by rw [Qaf (by omega) (by omega)]; omega
 have e3 := hr.ixn (j := n) (by omega)
 have e4 := fun hp => ldv hp l (j := n) (by omega)
 have e5 : ((0 : Int) > (n : Int)) = False := eq_false (by omega)
 simp -implicitDefEqProofs (maxSteps:=9^8) only [QaK, Qg5, box0, go_sem, QgB, mxV, iv, bv, e1, e2, e3, e4, e5, Qco h0, reduceCtorEq, ↓reduceIte, Nat.reduceEqDiff]
theorem nrm_zero : X G QaK (Qg5 neg d ((0 : Nat) : Int)) = some (.x 0, Qg5 neg d ((0 : Nat) : Int)) := by
 have e1 : decide ((0 : Int) > 0) = false := rfl
 simp -implicitDefEqProofs (maxSteps:=9^8) only [QaK, Qg5, box0, go_sem, QgB, mxV, iv, bv, e1, reduceCtorEq, ↓reduceIte, Nat.reduceEqDiff]
theorem Qq7 (hr : Rw d l) (hl : l.length < 4611686018427387904) : ∀ n : Nat, n ≤ l.length → X G (.loop QaK) (Qg5 neg d (n : Int)) = some (.x 0, Qg5 neg d (cutn l n : Nat))
 | 0, _ => by
  rw [Qak, nrm_zero]
  rfl
 | n + 1, h => by
  rw [Qak, cutn]
  by_cases h0 : l.getD n 0 = 0
  ·rw [nrm_go neg d l hr n (by omega) hl h0, if_pos h0]
   exact Qq7 hr hl n (by omega)
  ·rw [nrm_stop neg d l hr n (by omega) hl h0, if_neg h0]
   rfl
end

theorem Qbc (neg : Bool) {d : D} {l : List Int} (hr : Rw d l) (hl : l.length < 4611686018427387904) (hd : Dig l) : Qah G Qal [bv neg, d] = some (.d (encI (sgn neg (val l)))) := by
 rw [Qad (cf := QcJ) rfl, Qqg hd]
 have hc := Qlg l l.length
 have el := Qq7 neg d l hr hl l.length (Nat.le_refl _)
 simp only [Qg5, box0, go_sem] at el
 generalize hn : cutn l l.length = n at *
 by_cases h0 : n = 0
 ·subst h0
  have e0 : ((0 : Int) == 0) = true := rfl
  simp only [nc0] at el
  simp -implicitDefEqProofs (maxSteps:=9^8) only [QcJ, go_sem, Qab, Qaa, iv, bv, hr.len, el, e0, reduceCtorEq, ↓reduceIte, Nat.reduceEqDiff]
 ·obtain rfl := hr.ne (by rintro rfl; simp [cutn] at hn; exact h0 hn.symm)
  have e0 : (((n : Nat) : Int) == 0) = false := Qco (by omega)
  have e1 : (0 : Int) ≤ 0 ∧ (0 : Int) ≤ (n : Int) ∧ (n : Int) ≤ (l.length : Int) := by omega
  simp only [rowI] at el
  simp -implicitDefEqProofs (maxSteps:=9^8) only [QcJ, go_sem, Qab, Qaa, iv, bv, rowI, el, e0, e1, h0, reduceCtorEq, ↓reduceIte, Nat.reduceEqDiff]

theorem Qge {d : D} {l : List Int} (h : Rw d l) {i : Nat} : Qah G Qbz [d, iv (i : Int)] = some (.d (iv (l.getD i 0))) := by
 rw [Qad (cf := Qc1) rfl]
 have hh := h.len
 by_cases h0 : i < l.length
 ·have e1 : decide ((i : Int) < (l.length : Int)) = true := lt_t (by omega)
  have e2 := h.ixn (j := i) h0
  have e3 := fun hp => ldv hp l (j := i) h0
  simp -implicitDefEqProofs (maxSteps:=9^8) only [Qc1, go_sem, iv, bv, hh, e1, e2, e3, reduceCtorEq, ↓reduceIte, Nat.reduceEqDiff]
 ·have e1 : decide ((i : Int) < (l.length : Int)) = false := lt_f (by omega)
  have e2 : l.getD i 0 = 0 := by rw [List.getD_eq_getElem?_getD, List.getElem?_eq_none (by omega)]; rfl
  rw [e2]
  simp -implicitDefEqProofs (maxSteps:=9^8) only [Qc1, go_sem, iv, bv, hh, e1, reduceCtorEq, ↓reduceIte, Nat.reduceEqDiff]

theorem Qi2 {d : D} {l : List Int} (h : Rw d l) (hd : Dig l) (hl : l.length ≤ 2) : Qah G Qbr [d] = some (.d (iv (val l))) := by
 rw [Qad (cf := QeO) rfl]
 have d0 := Qge h (i := 0)
 have d1 := Qge h (i := 1)
 have b0 := hd.getD 0
 have b1 := hd.getD 1
 have e0 : ((1 : Nat) : Int) = 1 := rfl
 simp only [nc0, e0, iv] at d0 d1
 have hv : val l = l.getD 1 0 * 1000000000 + l.getD 0 0 := by
  match l, hl with
  | [], _ => simp [val]
  | [x], _ => simp [val]
  | [x, y], _ => simp [val]; omega
 have e6 : w64 (l.getD 1 0 * 1000000000) = l.getD 1 0 * 1000000000 := Qaf (by omega) (by omega)
 have e7 : w64 (l.getD 1 0 * 1000000000 + l.getD 0 0) = l.getD 1 0 * 1000000000 + l.getD 0 0 := Qaf (by omega) (by omega)
 rw [hv]
 simp -implicitDefEqProofs (maxSteps:=9^8) only [QeO, go_sem, iv, bv, d0, d1, e6, e7, reduceCtorEq, ↓reduceIte, Nat.reduceEqDiff]

section
variable (da db : D) (a b : List Int)
def Qgj (i : Int) : St := mkS [(0, .d da), (1, .d db), (5, ai i)] []
def Qgx (x : Int) : St := mkS [(4, ai x)] []
theorem cmd_stop : X G Qat (Qgj da db (-1)) = some (.x 0, mkS [] []) := by
 have e1 : decide ((-1 : Int) ≥ 0) = false := rfl
 simp -implicitDefEqProofs (maxSteps:=9^8) only [Qat, Qgj, go_sem, iv, bv, e1, reduceCtorEq, ↓reduceIte, Nat.reduceEqDiff]
theorem cmd_go (hra : Rw da a) (hrb : Rw db b) {i : Nat} (ha : i < a.length) (hb : i < b.length) (hl : a.length < 4611686018427387904) :
    X G Qat (Qgj da db (i : Int)) = if a.getD i 0 < b.getD i 0 then some (.r, Qgx (-1)) else if a.getD i 0 > b.getD i 0 then some (.r, Qgx 1) else some (.n, Qgj da db ((i : Int) - 1)) := by
  have e1 : decide ((i : Int) ≥ 0) = true := ge_t (by omega)
  have e2 := hra.ixn (j := i) ha
  have e3 := fun hp => ldv hp a (j := i) ha
  have e4 := hrb.ixn (j := i) hb
  have e5 := fun hp => ldv hp b (j := i) hb
  have e6 : w64 ((i : Int) - 1) = (i : Int) - 1 := Qaf (by omega) (by omega)
  by_cases h1 : a.getD i 0 < b.getD i 0
  · have e7 : decide (a.getD i 0 < b.getD i 0) = true := lt_t h1
    rw [if_pos h1]
    simp -implicitDefEqProofs (maxSteps:=9^8) only [Qat, Qgj, Qgx, go_sem, iv, bv, e1, e2, e3, e4, e5, e6, e7, reduceCtorEq, ↓reduceIte, Nat.reduceEqDiff]
  · have e7 : decide (a.getD i 0 < b.getD i 0) = false := lt_f h1
    rw [if_neg h1]
    by_cases h2 : a.getD i 0 > b.getD i 0
    · have e8 : decide (a.getD i 0 > b.getD i 0) = true := gt_t h2
      rw [if_pos h2]
      simp -implicitDefEqProofs (maxSteps:=9^8) only [Qat, Qgj, Qgx, go_sem, iv, bv, e1, e2, e3, e4, e5, e6, e7, e8, reduceCtorEq, ↓reduceIte, Nat.reduceEqDiff]
    · have e8 : decide (a.getD i 0 > b.getD i 0) = false := gt_f h2
      rw [if_neg h2]
      simp -implicitDefEqProofs (maxSteps:=9^8) only [Qat, Qgj, Qgx, go_sem, iv, bv, e1, e2, e3, e4, e5, e6, e7, e8, reduceCtorEq, ↓reduceIte, Nat.reduceEqDiff]

theorem QlT {k : Nat} (ha : Dig a) (hb : Dig b) (hk : a.getD k 0 < b.getD k 0) : val (a.take (k + 1)) < val (b.take (k + 1)) := by
 have _its : Its := inferInstance
 rw [Qap, Qap]
 have h1 := QoB (l := a) (j := 0) (n := k) (fun x _ _ => ha.getD x)
 have e1 : val (a.take k) < (1000000000 : Int) ^ k := by
  rcases Nat.lt_or_ge a.length k with h | h
  ·have := QeV (ha.take k)
   have e : (a.take k).length ≤ k := by rw [List.length_take]; omega
   exact Int.lt_of_lt_of_le this (QiH e)
  ·have := QeV (ha.take k)
   have e : (a.take k).length ≤ k := by rw [List.length_take]; omega
   exact Int.lt_of_lt_of_le this (QiH e)
 have e2 := QaL (hb.take k)
 have e3 : (1000000000 : Int) ^ k * (a.getD k 0 + 1) ≤ (1000000000 : Int) ^ k * b.getD k 0 := Int.mul_le_mul_of_nonneg_left (by omega) (Int.le_of_lt (Qcs k))
 rw [Int.mul_add, Int.mul_one] at e3
 generalize (1000000000 : Int) ^ k * a.getD k 0 = x at *
 generalize (1000000000 : Int) ^ k * b.getD k 0 = y at *
 clear h1
 omega

theorem Qq0      (hra : Rw da a) (hrb : Rw db b) (ha : Dig a) (hb : Dig b) (hl : a.length < 4611686018427387904) : ∀ k : Nat, k ≤ a.length → k ≤ b.length →
    (X G (.loop Qat) (Qgj da db ((k : Int) - 1)) = some (.x 0, mkS [] []) ∧ val (a.take k) = val (b.take k)) ∨
    (X G (.loop Qat) (Qgj da db ((k : Int) - 1)) = some (.r, Qgx (-1)) ∧ val (a.take k) < val (b.take k)) ∨
    (X G (.loop Qat) (Qgj da db ((k : Int) - 1)) = some (.r, Qgx 1) ∧ val (b.take k) < val (a.take k))
  | 0, _, _ => .inl ⟨by
      have : ((0 : Nat) : Int) - 1 = -1 := rfl
      rw [this, Qak, cmd_stop]; rfl, rfl⟩
  | k + 1, h1, h2 => by
    have hx := cmd_go da db a b hra hrb (i := k) (by omega) (by omega) hl
    have e : ((k + 1 : Nat) : Int) - 1 = (k : Int) := by omega
    rw [e, Qak, hx]
    by_cases g1 : a.getD k 0 < b.getD k 0
    · rw [if_pos g1]
      exact .inr (.inl ⟨rfl, QlT a b ha hb g1⟩)
    · rw [if_neg g1]
      by_cases g2 : a.getD k 0 > b.getD k 0
      · rw [if_pos g2]
        exact .inr (.inr ⟨rfl, QlT b a hb ha g2⟩)
      · rw [if_neg g2]
        have g3 : a.getD k 0 = b.getD k 0 := by omega
        have ih := Qq0 hra hrb ha hb hl k (by omega) (by omega)
        rw [Qap a, Qap b, g3]
        rcases ih with ⟨i1, i2⟩ | ⟨i1, i2⟩ | ⟨i1, i2⟩
        · exact .inl ⟨i1, by rw [i2]⟩
        · exact .inr (.inl ⟨i1, Int.add_lt_add_right i2 _⟩)
        · exact .inr (.inr ⟨i1, Int.add_lt_add_right i2 _⟩)
end

theorem QdB           {da db : D} {a b : List Int} (hra : Rw da a) (hrb : Rw db b) (ha : Dig a) (hb : Dig b) (hat : Top a) (hbt : Top b) (hla : a.length < 4611686018427387904) (hlb : b.length < 4611686018427387904) :
    Qah G Qa6 [da, db] = some (.d (iv (Int.sign (val a - val b)))) := by
  have ca := hra.len
  have cb := hrb.len
  have tg := fun {u v : List Int} (hu : Dig u) (hv : Dig v) (hvt : Top v) (h : u.length < v.length) => show val u < val v from by
    have h1 := QeV hu
    have h2 : (1000000000 : Int) ^ u.length ≤ val v := by
      have hne : v ≠ [] := by rintro rfl; simp at h
      obtain ⟨q, hq⟩ : ∃ q, v.length = q + 1 := ⟨v.length - 1, by omega⟩
      have ht := hvt hne
      have e : v.getLast hne = v.getD q 0 := by
        rw [List.getLast_eq_getElem, List.getD_eq_getElem?_getD, List.getElem?_eq_getElem (by omega)]
        simp [hq]
      rw [e] at ht
      have hp := hv.getD q
      have e1 := Qcy v (j := q) (by omega)
      have e2 := QaN v q
      rw [List.drop_eq_nil_of_le (show v.length ≤ q + 1 by omega)] at e2
      simp only [val, Int.mul_zero, Int.add_zero] at e2
      rw [e1, e2]
      have e3 := QaL (hv.take q)
      have e4 : (1000000000 : Int) ^ q * 1 ≤ (1000000000 : Int) ^ q * v.getD q 0 := Int.mul_le_mul_of_nonneg_left (by clear e1; omega) (Int.le_of_lt (Qcs q))
      have e5 := QiH (show u.length ≤ q by omega)
      generalize (1000000000 : Int) ^ q * v.getD q 0 = x at *
      generalize (1000000000 : Int) ^ q = y at *
      generalize (1000000000 : Int) ^ u.length = z at *
      clear e1 e2 h1
      omega
    exact Int.lt_of_lt_of_le h1 h2
  rw [Qad (cf := Qa2) rfl]
  by_cases h1 : a.length < b.length
  · have hv := tg ha hb hbt h1
    rw [Int.sign_eq_neg_one_of_neg (by omega)]
    have e1 : decide ((a.length : Int) < (b.length : Int)) = true := lt_t (by omega)
    simp -implicitDefEqProofs (maxSteps:=9^8) only [Qa2, go_sem, iv, bv, ca, cb, e1, reduceCtorEq, ↓reduceIte, Nat.reduceEqDiff]
  · have e1 : decide ((a.length : Int) < (b.length : Int)) = false := lt_f (by omega)
    by_cases h2 : b.length < a.length
    · have hv := tg hb ha hat h2
      rw [Int.sign_eq_one_of_pos (by omega)]
      have e2 : decide ((a.length : Int) > (b.length : Int)) = true := gt_t (by omega)
      simp -implicitDefEqProofs (maxSteps:=9^8) only [Qa2, go_sem, iv, bv, ca, cb, e1, e2, reduceCtorEq, ↓reduceIte, Nat.reduceEqDiff]
    · have e2 : decide ((a.length : Int) > (b.length : Int)) = false := gt_f (by omega)
      have hlen : b.length = a.length := by omega
      have e3 : w64 ((a.length : Int) - 1) = (a.length : Int) - 1 := Qaf (by omega) (by omega)
      have hl := Qq0 da db a b hra hrb ha hb hla a.length (Nat.le_refl _) (by omega)
      rw [List.take_length, ← hlen, List.take_length, hlen] at hl
      rw [hlen] at cb e1 e2
      rcases hl with ⟨i1, i2⟩ | ⟨i1, i2⟩ | ⟨i1, i2⟩
      · rw [show val a - val b = 0 by omega]
        have e4 : Int.sign 0 = 0 := rfl
        simp only [Qgj, go_sem] at i1
        simp -implicitDefEqProofs (maxSteps:=9^8) only [Qa2, go_sem, iv, bv, ca, cb, e1, e2, e3, e4, i1, reduceCtorEq, ↓reduceIte, Nat.reduceEqDiff]
      · rw [Int.sign_eq_neg_one_of_neg (by omega)]
        simp only [Qgj, Qgx, go_sem] at i1
        simp -implicitDefEqProofs (maxSteps:=9^8) only [Qa2, go_sem, iv, bv, ca, cb, e1, e2, e3, i1, reduceCtorEq, ↓reduceIte, Nat.reduceEqDiff]
      · rw [Int.sign_eq_one_of_pos (by omega)]
        simp only [Qgj, Qgx, go_sem] at i1
        simp -implicitDefEqProofs (maxSteps:=9^8) only [Qa2, go_sem, iv, bv, ca, cb, e1, e2, e3, i1, reduceCtorEq, ↓reduceIte, Nat.reduceEqDiff]
end Go.AM

/- gantryref04: Compare, Sign, Neg, plus, minus, Add -/
namespace Go.AM
open Go Go.RowKit

theorem Qfo (l : List Int) (v : Int) : Qby l ++ [A.d (.v (.int .i64 v))] = Qby (l ++ [v]) := by simp [Qby]
theorem Qgs (v : Int) : Qby [v] = [A.d (.v (.int .i64 v))] := rfl
def gA (k : Nat) (l : List Int) : A := if l = [] then .d (.z true) else .own [k] l.length
def gH (k : Nat) (l : List Int) : List (Key × Obj) := if l = [] then [] else [([k], arrI l.length l)]
theorem QfR (k : Nat) : gA k [] = .d (.z true) := rfl
theorem QfI (k : Nat) : gH k [] = [] := rfl
theorem Qkc {k : Nat} {l : List Int} (h : l ≠ []) : gA k l = .own [k] l.length := if_neg h
theorem Qkb {k : Nat} {l : List Int} (h : l ≠ []) : gH k l = [([k], arrI l.length l)] := if_neg h
theorem QnA (k : Nat) (v : Int) : gA k [v] = .own [k] 1 := rfl
theorem QnY (k : Nat) (v : Int) : gH k [v] = [([k], arrI 1 [v])] := rfl
theorem QjC (k : Nat) (l : List Int) (v : Int) : gA k (l ++ [v]) = .own [k] (l.length + 1) := by rw [Qkc (by simp)]; simp
theorem Qjy (k : Nat) (l : List Int) (v : Int) : gH k (l ++ [v]) = [([k], arrI (l.length + 1) (l ++ [v]))] := by rw [Qkb (by simp)]; simp
theorem Qnm {l : List Int} (h : (l.length + 1) * 8 ≤ 140737488351232) : ((l.length + 1) * 8 ≤ bound) = True := eq_true (by simp only [bound]; omega)
theorem Qly : (8 ≤ bound) = True := eq_true (by decide)
theorem QqK {l : List Int} {v : Int} (h : Dig l) (hv : 0 ≤ v ∧ v < 1000000000) : Dig (l ++ [v]) := Dig.append.2 ⟨h, Dig.cons.2 ⟨hv, Dig.nil⟩⟩
theorem Qq3 (l : List Int) (v : Int) : val (l ++ [v]) = val l + (1000000000 : Int) ^ l.length * v := by rw [Qgd]; simp [val]
theorem Qac (k : Key) : Qbs hp0 k none = hp0 := by
 funext j
 simp [Qbs, hp0]
def gR (l : List Int) : R := if l = [] then .d (.z true) else .own 1 l.length (l.map iv)
variable [Its]

theorem QkW {x : Int} (hx : nd x ≤ 1000000000000) : Qah G QcZ [encI x] = some (.d (encI (-x))) := by
 rw [Qad (cf := Qfq) rfl]
 have hx' : (digs x.natAbs).length < 4611686018427387904 := Nat.lt_of_le_of_lt hx (by decide)
 have g : Hid (Qah G Qal [bv (!decide (x < 0)), dg (digs x.natAbs)] = some (.d (encI (-x)))) := by
  have hl : (digs x.natAbs).length < 4611686018427387904 := hx'
  have := Qbc (!decide (x < 0)) (Rw.dg (digs x.natAbs)) hl (Qan _)
  rw [QcF] at this
  have e : sgn (!decide (x < 0)) (x.natAbs : Int) = -x := by
   by_cases h : x < 0
   ·simp [sgn, h]; omega
   ·simp [sgn, h]; omega
  rw [e] at this
  exact this
 have g' := g.out
 simp only [bv] at g'
 simp -implicitDefEqProofs (maxSteps:=9^8) only [Qfq, Qq5 x, go_sem, Qab, Qaa, iv, bv, g', encI, reduceCtorEq, ↓reduceIte, Nat.reduceEqDiff]
theorem QiG {x y : Int} (hx : nd x ≤ 1000000000000) (hy : nd y ≤ 1000000000000) : Qah G QcS [encI x, encI y] = some (.d (iv (Int.sign (x - y)))) := by
 rw [Qad (cf := QbA) rfl]
 have hx' : (digs x.natAbs).length ≤ 1000000000000 := hx
 have hy' : (digs y.natAbs).length ≤ 1000000000000 := hy
 have g0 := QdB (Rw.dg _) (Rw.dg _) (Qan x.natAbs) (Qan y.natAbs) (QbX _) (QbX _) (by omega) (by omega)
 have g1 := QdB (Rw.dg _) (Rw.dg _) (Qan y.natAbs) (Qan x.natAbs) (QbX _) (QbX _) (by omega) (by omega)
 rw [QcF, QcF] at g0 g1
 simp only [iv] at g0 g1
 by_cases h : x < 0 <;> by_cases h2 : y < 0
 ·have e1 : decide (x < 0) = true := decide_eq_true h
  have e2 : decide (y < 0) = true := decide_eq_true h2
  have e3 : (y.natAbs : Int) - (x.natAbs : Int) = x - y := by omega
  have e4 : (true == true) = true := rfl
  rw [e3] at g1
  simp -implicitDefEqProofs (maxSteps:=9^8) only [QbA, encI, go_sem, Qab, Qaa, iv, bv, e1, e2, e4, g1, reduceCtorEq, ↓reduceIte, Nat.reduceEqDiff]
 ·have e1 : decide (x < 0) = true := decide_eq_true h
  have e2 : decide (y < 0) = false := decide_eq_false h2
  have e3 : Int.sign (x - y) = -1 := Int.sign_eq_neg_one_of_neg (by omega)
  have e4 : (true == false) = false := rfl
  simp -implicitDefEqProofs (maxSteps:=9^8) only [QbA, encI, go_sem, Qab, Qaa, iv, bv, e1, e2, e3, e4, reduceCtorEq, ↓reduceIte, Nat.reduceEqDiff]
 ·have e1 : decide (x < 0) = false := decide_eq_false h
  have e2 : decide (y < 0) = true := decide_eq_true h2
  have e3 : Int.sign (x - y) = 1 := Int.sign_eq_one_of_pos (by omega)
  have e4 : (false == true) = false := rfl
  simp -implicitDefEqProofs (maxSteps:=9^8) only [QbA, encI, go_sem, Qab, Qaa, iv, bv, e1, e2, e3, e4, reduceCtorEq, ↓reduceIte, Nat.reduceEqDiff]
 ·have e1 : decide (x < 0) = false := decide_eq_false h
  have e2 : decide (y < 0) = false := decide_eq_false h2
  have e3 : (x.natAbs : Int) - (y.natAbs : Int) = x - y := by omega
  have e4 : (false == false) = true := rfl
  rw [e3] at g0
  simp -implicitDefEqProofs (maxSteps:=9^8) only [QbA, encI, go_sem, Qab, Qaa, iv, bv, e1, e2, e4, g0, reduceCtorEq, ↓reduceIte, Nat.reduceEqDiff]
theorem Qr1 {x : Int} (hx : nd x ≤ 1000000000000) : Qah G QfD [encI x] = some (.d (iv (Int.sign x))) := by
 rw [Qad (cf := QeK) rfl]
 have g := QiG (x := x) (y := 0) hx (by rw [Qlu]; omega)
 rw [Int.sub_zero, Qhl, Qq5 x] at g
 simp only [iv, bv] at g
 simp -implicitDefEqProofs (maxSteps:=9^8) only [QeK, encI, go_sem, Qab, Qaa, iv, bv, g, reduceCtorEq, ↓reduceIte, Nat.reduceEqDiff]

section
variable (da db : D) (a b : List Int)
def Qki (o : List Int) (c i : Int) : St := mkS [(0, .d da), (1, .d db), (5, gA 38 o), (6, ai c), (7, ai i)] (gH 38 o)
def QjX (o : List Int) : St := mkS [(5, gA 38 o)] (gH 38 o)

theorem rp_ge {i : Nat} {l : List Int} (h : l.length ≤ i) : l.getD i 0 = 0 := by
 have _its : Its := inferInstance
 rw [List.getD_eq_getElem?_getD, List.getElem?_eq_none h]; rfl

theorem rp_stop (hra : Rw da a) (hrb : Rw db b) {o : List Int} {i : Nat} (h1 : a.length ≤ i) (h2 : b.length ≤ i) : X G QaO (Qki da db o 0 (i : Int)) = some (.x 0, QjX o) := by
 have e1 : decide ((i : Int) < (a.length : Int)) = false := lt_f (by omega)
 have e2 : decide ((i : Int) < (b.length : Int)) = false := lt_f (by omega)
 have e3 : decide ((0 : Int) > 0) = false := rfl
 by_cases ho : o = []
 ·subst ho
  simp -implicitDefEqProofs (maxSteps:=9^8) only [QaO, Qki, QjX, QfR, QfI, Qac, go_sem, iv, bv, hra.len, hrb.len, e1, e2, e3, Qam, reduceCtorEq, ↓reduceIte, Nat.reduceEqDiff]
 ·simp -implicitDefEqProofs (maxSteps:=9^8) only [QaO, Qki, QjX, Qkc ho, Qkb ho, go_sem, iv, bv, hra.len, hrb.len, e1, e2, e3, Qam, reduceCtorEq, ↓reduceIte, Nat.reduceEqDiff]

theorem rp_go (hra : Rw da a) (hrb : Rw db b) (ha : Dig a) (hb : Dig b) {o : List Int} {c : Int} {i : Nat} (hc : 0 ≤ c ∧ c ≤ 1) (hi : i < a.length ∨ i < b.length ∨ c > 0) (hil : i < 4611686018427387904) (hol : (o.length + 1) * 8 ≤ 140737488351232) :
    X G QaO (Qki da db o c (i : Int)) = some (.n, Qki da db (o ++ [(a.getD i 0 + b.getD i 0 + c) % 1000000000]) ((a.getD i 0 + b.getD i 0 + c) / 1000000000) ((i + 1 : Nat) : Int)) := by
  obtain ⟨e1, e2, e3, e4, e5, e6, e7⟩ := QqC (ha.getD i) (hb.getD i) hc
  have d1 := Qge hra (i := i)
  have d2 := Qge hrb (i := i)
  simp only [iv] at d1 d2
  have n1 := QeL (b := 1000000000) e3
  have n2 := Qdn (b := 1000000000) e3
  have n3 : w64 ((i : Int) + 1) = ((i + 1 : Nat) : Int) := by rw [Qaf (by omega) (by omega)]; omega
  have f1 := Qnm hol
  have f2 := Qly
  generalize hv : (a.getD i 0 + b.getD i 0 + c) % 1000000000 = v at *
  generalize hq : (a.getD i 0 + b.getD i 0 + c) / 1000000000 = q at *
  have key : ∀ (t1 t2 t3 : Bool), (decide ((i : Int) < (a.length : Int)) = t1) → (decide ((i : Int) < (b.length : Int)) = t2) → (decide (c > 0) = t3) → (t1 || t2 || t3) = true → X G QaO (Qki da db o c (i : Int)) = some (.n, Qki da db (o ++ [v]) q ((i + 1 : Nat) : Int)) := by
    intro t1 t2 t3 h1 h2 h3 h4
    by_cases ho : o = []
    · subst ho
      cases t1 <;> cases t2 <;> cases t3 <;> first
        | exact absurd h4 (by decide)
        | simp -implicitDefEqProofs (maxSteps:=9^8) only [QaO, Qki, QjX, QfR, QfI, Qac, QnA, QnY, QjC, Qjy, go_sem, QeS, iv, bv, hra.len, hrb.len, h1, h2, h3, d1, d2, e1, e2, e4, n1, n2, n3, f2, hv, hq, Qgs, D.one, allD, Qam, reduceCtorEq, ↓reduceIte, Nat.reduceEqDiff]
    · cases t1 <;> cases t2 <;> cases t3 <;> first
        | exact absurd h4 (by decide)
        | simp -implicitDefEqProofs (maxSteps:=9^8) only [QaO, Qki, QjX, Qkc ho, Qkb ho, QjC, Qjy, go_sem, QeS, iv, bv, hra.len, hrb.len, h1, h2, h3, d1, d2, e1, e2, e4, n1, n2, n3, f1, f2, hv, hq, Qfo, Qaj, D.one, allD, Qam, reduceCtorEq, ↓reduceIte, Nat.reduceEqDiff]
  refine key _ _ _ rfl rfl rfl ?_
  simp only [Bool.or_eq_true, decide_eq_true_eq]
  omega

theorem rp_loop (hra : Rw da a) (hrb : Rw db b) (ha : Dig a) (hb : Dig b) (hl : (max a.length b.length + 2) * 8 ≤ 140737488351232) : ∀ (k i : Nat) (o : List Int) (c : Int), i + k = max a.length b.length + 1 → (0 ≤ c ∧ c ≤ 1) → (i = max a.length b.length + 1 → c = 0) → o.length = i → Dig o → val o + (1000000000 : Int) ^ i * c = val (a.take i) + val (b.take i) →
    ∃ o', X G (.loop QaO) (Qki da db o c (i : Int)) = some (.x 0, QjX o') ∧ Dig o' ∧ o'.length ≤ max a.length b.length + 1 ∧ val o' = val a + val b
  | 0, i, o, c, hi, hc, h0, ho, hd, hv => by
    have hc0 := h0 (by omega)
    subst hc0
    refine ⟨o, by rw [Qak, rp_stop da db a b hra hrb (by omega) (by omega)]; rfl, hd, by omega, ?_⟩
    rw [Int.mul_zero, Int.add_zero, List.take_of_length_le (by omega), List.take_of_length_le (by omega)] at hv
    exact hv
  | k + 1, i, o, c, hi, hc, h0, ho, hd, hv => by
    by_cases hmore : i < a.length ∨ i < b.length ∨ c > 0
    · obtain ⟨_, _, _, _, e5, e6, e7⟩ := QqC (ha.getD i) (hb.getD i) hc
      have hx := rp_go da db a b hra hrb ha hb hc hmore (by omega) (o := o) (by omega)
      have hlast : i + 1 = max a.length b.length + 1 → (a.getD i 0 + b.getD i 0 + c) / 1000000000 = 0 := by
        intro h
        rw [rp_ge (i := i) (l := a) (by omega), rp_ge (i := i) (l := b) (by omega)]
        omega
      obtain ⟨o', g1, g2⟩ := rp_loop hra hrb ha hb hl k (i + 1) (o ++ [(a.getD i 0 + b.getD i 0 + c) % 1000000000]) ((a.getD i 0 + b.getD i 0 + c) / 1000000000) (by omega) e5 hlast (by simp; omega) (QqK hd e6) (by
        rw [Qq3, ho, Qap a, Qap b, Int.pow_succ]
        generalize (a.getD i 0 + b.getD i 0 + c) % 1000000000 = R at *
        generalize (a.getD i 0 + b.getD i 0 + c) / 1000000000 = Q at *
        clear hx e5 e6 hlast
        grind)
      exact ⟨o', by rw [Qak, hx]; exact g1, g2⟩
    · have hc0 : c = 0 := by omega
      subst hc0
      refine ⟨o, by rw [Qak, rp_stop da db a b hra hrb (by omega) (by omega)]; rfl, hd, by omega, ?_⟩
      rw [Int.mul_zero, Int.add_zero, List.take_of_length_le (by omega), List.take_of_length_le (by omega)] at hv
      exact hv
end

theorem Qsa        {da db : D} {a b : List Int} (hra : Rw da a) (hrb : Rw db b) (ha : Dig a) (hb : Dig b) (hl : (max a.length b.length + 2) * 8 ≤ 140737488351232) :
    ∃ out, Qah G QfC [da, db] = some (gR out) ∧ out.length ≤ max a.length b.length + 1 ∧ Dig out ∧ val out = val a + val b := by
  obtain ⟨o, h1, h2, h3, h4⟩ := rp_loop da db a b hra hrb ha hb hl (max a.length b.length + 1) 0 [] 0 (by omega) (by omega) (fun h => rfl) rfl .nil (by simp [val])
  refine ⟨o, ?_, h3, h2, h4⟩
  rw [Qad (cf := Qdk) rfl]
  by_cases ho : o = []
  · subst ho
    simp only [Qki, QjX, QfR, QfI, Qac, go_sem, nc0] at h1
    simp -implicitDefEqProofs (maxSteps:=9^8) only [Qdk, gR, Qac, go_sem, iv, bv, h1, Qam, reduceCtorEq, ↓reduceIte, Nat.reduceEqDiff]
  · simp only [Qki, QjX, QfR, QfI, Qac, Qkc ho, Qkb ho, go_sem, nc0] at h1
    simp -implicitDefEqProofs (maxSteps:=9^8) only [Qdk, gR, ho, Qac, go_sem, iv, bv, h1, Qam, QbK, reduceCtorEq, ↓reduceIte, Nat.reduceEqDiff]
end Go.AM

/- gantryref04: minus, Add, Of -/
namespace Go.AM
open Go Go.RowKit

theorem Qjp (k : Key) (h : Hp) (l : List Int) : retA k h false true (gR l) = some (.d (dg l), h) := by
 by_cases hl : l = []
 ·subst hl; rfl
 ·rw [gR, if_neg hl, Qm2 hl]; rfl
theorem sub_arith {x y c : Int} (hx : 0 ≤ x ∧ x < 1000000000) (hy : 0 ≤ y ∧ y < 1000000000) (hc : 0 ≤ c ∧ c ≤ 1) :
    w64 (x - y) = x - y ∧ w64 (x - y - c) = x - y - c ∧ (x - y - c < 0 → w64 (x - y - c + 1000000000) = x - y - c + 1000000000 ∧ 0 ≤ x - y - c + 1000000000 ∧ x - y - c + 1000000000 < 1000000000) ∧ (¬ x - y - c < 0 → 0 ≤ x - y - c ∧ x - y - c < 1000000000) :=
  ⟨Qaf (by omega) (by omega), Qaf (by omega) (by omega), fun _ => ⟨Qaf (by omega) (by omega), by omega, by omega⟩, fun _ => ⟨by omega, by omega⟩⟩
variable [Its]

section
variable (da db : D) (a b : List Int)
def Qka (o : List Int) (c i : Int) : St := mkS [(0, .d da), (1, .d db), (5, gA 32 o), (6, ai c), (7, ai i)] (gH 32 o)
def Qmi (o : List Int) : St := mkS [(5, gA 32 o)] (gH 32 o)

theorem rm_stop (hra : Rw da a) {o : List Int} (c : Int) : X G QaB (Qka da db o c (a.length : Int)) = some (.x 0, Qmi o) := by
 have e1 : decide ((a.length : Int) < (a.length : Int)) = false := lt_f (by omega)
 by_cases ho : o = []
 ·subst ho
  simp -implicitDefEqProofs (maxSteps:=9^8) only [QaB, Qka, Qmi, QfR, QfI, Qac, go_sem, iv, bv, hra.len, e1, Qam, reduceCtorEq, ↓reduceIte, Nat.reduceEqDiff]
 ·simp -implicitDefEqProofs (maxSteps:=9^8) only [QaB, Qka, Qmi, Qkc ho, Qkb ho, go_sem, iv, bv, hra.len, e1, Qam, reduceCtorEq, ↓reduceIte, Nat.reduceEqDiff]

theorem rm_go (hra : Rw da a) (hrb : Rw db b) (ha : Dig a) (hb : Dig b) {o : List Int} {c : Int} {i : Nat} (hc : 0 ≤ c ∧ c ≤ 1) (hi : i < a.length) (hil : i < 4611686018427387904) (hol : (o.length + 1) * 8 ≤ 140737488351232) :
    ∃ v c', (0 ≤ v ∧ v < 1000000000) ∧ (0 ≤ c' ∧ c' ≤ 1) ∧ v = a.getD i 0 - b.getD i 0 - c + 1000000000 * c' ∧ X G QaB (Qka da db o c (i : Int)) = some (.n, Qka da db (o ++ [v]) c' ((i + 1 : Nat) : Int)) := by
  obtain ⟨e1, e2, e3, e4⟩ := sub_arith (ha.getD i) (hb.getD i) hc
  have d2 := Qge hrb (i := i)
  simp only [iv] at d2
  have n1 := hra.ixn (j := i) hi
  have n2 := fun hp => ldv hp a (j := i) hi
  have n3 : w64 ((i : Int) + 1) = ((i + 1 : Nat) : Int) := by rw [Qaf (by omega) (by omega)]; omega
  have n4 : decide ((i : Int) < (a.length : Int)) = true := lt_t (by omega)
  have f1 := Qnm hol
  have f2 := Qly
  obtain ⟨w, hw⟩ : ∃ w, a.getD i 0 - b.getD i 0 - c = w := ⟨_, rfl⟩
  rw [hw] at e2 e3 e4 ⊢
  by_cases h0 : w < 0
  · obtain ⟨e5, e6⟩ := e3 h0
    have e7 : decide (w < 0) = true := lt_t h0
    refine ⟨w + 1000000000, 1, e6, by omega, by omega, ?_⟩
    by_cases ho : o = []
    · subst ho
      simp -implicitDefEqProofs (maxSteps:=9^8) only [QaB, Qka, QfR, QfI, Qac, QnA, QnY, go_sem, QeS, iv, bv, hra.len, n1, n2, n3, n4, d2, e1, hw, e2, e5, e7, f2, Qgs, D.one, allD, Qam, reduceCtorEq, ↓reduceIte, Nat.reduceEqDiff]
    · simp -implicitDefEqProofs (maxSteps:=9^8) only [QaB, Qka, Qkc ho, Qkb ho, QjC, Qjy, go_sem, QeS, iv, bv, hra.len, n1, n2, n3, n4, d2, e1, hw, e2, e5, e7, f1, f2, Qfo, Qaj, D.one, allD, Qam, reduceCtorEq, ↓reduceIte, Nat.reduceEqDiff]
  · have e5 := e4 h0
    have e7 : decide (w < 0) = false := lt_f h0
    refine ⟨w, 0, e5, by omega, by omega, ?_⟩
    by_cases ho : o = []
    · subst ho
      simp -implicitDefEqProofs (maxSteps:=9^8) only [QaB, Qka, QfR, QfI, Qac, QnA, QnY, go_sem, QeS, iv, bv, hra.len, n1, n2, n3, n4, d2, e1, hw, e2, e7, f2, Qgs, D.one, allD, Qam, reduceCtorEq, ↓reduceIte, Nat.reduceEqDiff]
    · simp -implicitDefEqProofs (maxSteps:=9^8) only [QaB, Qka, Qkc ho, Qkb ho, QjC, Qjy, go_sem, QeS, iv, bv, hra.len, n1, n2, n3, n4, d2, e1, hw, e2, e7, f1, f2, Qfo, Qaj, D.one, allD, Qam, reduceCtorEq, ↓reduceIte, Nat.reduceEqDiff]

theorem rm_loop (hra : Rw da a) (hrb : Rw db b) (ha : Dig a) (hb : Dig b) (hl : (a.length + 1) * 8 ≤ 140737488351232) : ∀ (k i : Nat) (o : List Int) (c : Int), i + k = a.length → (0 ≤ c ∧ c ≤ 1) → o.length = i → Dig o → val o - (1000000000 : Int) ^ i * c = val (a.take i) - val (b.take i) →
    ∃ o' c', X G (.loop QaB) (Qka da db o c (i : Int)) = some (.x 0, Qmi o') ∧ Dig o' ∧ o'.length = a.length ∧ (0 ≤ c' ∧ c' ≤ 1) ∧ val o' - (1000000000 : Int) ^ a.length * c' = val a - val (b.take a.length)
  | 0, i, o, c, hi, hc, ho, hd, hv => by
    obtain rfl : i = a.length := by omega
    refine ⟨o, c, by rw [Qak, rm_stop da db a hra c]; rfl, hd, ho, hc, ?_⟩
    rw [hv, List.take_length]
  | k + 1, i, o, c, hi, hc, ho, hd, hv => by
    obtain ⟨v, c', h1, h2, h3, hx⟩ := rm_go da db a b hra hrb ha hb hc (i := i) (o := o) (by omega) (by omega) (by omega)
    obtain ⟨o', c2, g1, g2⟩ := rm_loop hra hrb ha hb hl k (i + 1) (o ++ [v]) c' (by omega) h2 (by simp; omega) (QqK hd h1) (by
      rw [Qq3, ho, Qap a, Qap b, Int.pow_succ, h3]
      clear hx h1 h2 h3
      grind)
    exact ⟨o', c2, by rw [Qak, hx]; exact g1, g2⟩
end

theorem QgP         {da db : D} {a b : List Int} (hra : Rw da a) (hrb : Rw db b) (ha : Dig a) (hb : Dig b) (hl : (a.length + 1) * 8 ≤ 140737488351232) (hbl : b.length ≤ a.length) (hle : val b ≤ val a) :
    ∃ out, Qah G Qb5 [da, db] = some (gR out) ∧ out.length = a.length ∧ Dig out ∧ val out = val a - val b := by
  obtain ⟨o, c, h1, h2, h3, h4, h5⟩ := rm_loop da db a b hra hrb ha hb hl a.length 0 [] 0 (by omega) (by omega) rfl .nil (by simp [val])
  rw [List.take_of_length_le hbl] at h5
  have hc : c = 0 := by
    rcases Int.lt_or_le 0 c with h | h
    · exfalso
      have e1 : c = 1 := by omega
      subst e1
      have e2 := QeV h2
      rw [h3] at e2
      rw [Int.mul_one] at h5
      generalize (1000000000 : Int) ^ a.length = x at *
      omega
    · omega
  subst hc
  rw [Int.mul_zero, Int.sub_zero] at h5
  refine ⟨o, ?_, h3, h2, h5⟩
  rw [Qad (cf := Qc2) rfl]
  by_cases ho : o = []
  · subst ho
    simp only [Qka, Qmi, QfR, QfI, go_sem, nc0] at h1
    simp -implicitDefEqProofs (maxSteps:=9^8) only [Qc2, gR, Qac, go_sem, iv, bv, h1, Qam, reduceCtorEq, ↓reduceIte, Nat.reduceEqDiff]
  · simp only [Qka, Qmi, QfR, QfI, Qkc ho, Qkb ho, go_sem, nc0] at h1
    simp -implicitDefEqProofs (maxSteps:=9^8) only [Qc2, gR, ho, Qac, go_sem, iv, bv, h1, Qam, QbK, reduceCtorEq, ↓reduceIte, Nat.reduceEqDiff]

theorem QoD {x y : Int} (hx : nd x ≤ 1000000000000) (hy : nd y ≤ 1000000000000) : Qah G QdW [encI x, encI y] = some (.d (encI (x + y))) := by
  rw [Qad (cf := QcT) rfl]
  have hx' : (digs x.natAbs).length ≤ 1000000000000 := hx
  have hy' : (digs y.natAbs).length ≤ 1000000000000 := hy
  have dx := Qan x.natAbs
  have dy := Qan y.natAbs
  have vx := QcF x
  have vy := QcF y
  by_cases hs : decide (x < 0) = decide (y < 0)
  · obtain ⟨out, g1, g2, g3, g4⟩ := Qsa (Rw.dg _) (Rw.dg _) dx dy (by omega)
    have g5 := Qbc (decide (x < 0)) (Rw.dg out) (by omega) g3
    have e1 : (decide (x < 0) == decide (y < 0)) = true := by rw [hs]; simp
    have e2 : sgn (decide (x < 0)) (val out) = x + y := by
      rw [g4, vx, vy]
      by_cases h : x < 0
      · have h2 : y < 0 := by simpa [h] using hs
        simp [sgn, h]; omega
      · have h2 : ¬ y < 0 := by simpa [h] using hs
        simp [sgn, h]; omega
    rw [e2] at g5
    simp only [bv] at g5
    simp -implicitDefEqProofs (maxSteps:=9^8) only [QcT, encI, go_sem, Qjp, Qab, Qaa, iv, bv, e1, g1, g5, reduceCtorEq, ↓reduceIte, Nat.reduceEqDiff]
  · have e1 : (decide (x < 0) == decide (y < 0)) = false := by simpa using hs
    have g0 := QdB (Rw.dg _) (Rw.dg _) dx dy (QbX _) (QbX _) (by omega) (by omega)
    rw [vx, vy] at g0
    simp only [iv] at g0
    by_cases hlt : x.natAbs < y.natAbs
    · have hsg : Int.sign ((x.natAbs : Int) - (y.natAbs : Int)) = -1 := Int.sign_eq_neg_one_of_neg (by omega)
      rw [hsg] at g0
      obtain ⟨out, g1, g2, g3, g4⟩ := QgP (Rw.dg _) (Rw.dg _) dy dx (by omega) (Qbb (by omega)) (by rw [vx, vy]; omega)
      have g5 := Qbc (decide (y < 0)) (Rw.dg out) (by omega) g3
      have e2 : sgn (decide (y < 0)) (val out) = x + y := by
        rw [g4, vx, vy]
        by_cases h : y < 0
        · have h2 : ¬ x < 0 := by intro h3; exact hs (by simp [h, h3])
          simp [sgn, h]; omega
        · have h2 : x < 0 := by
            rcases Int.lt_or_le x 0 with h3 | h3
            · exact h3
            · exact absurd (by simp [h, Int.not_lt.2 h3]) hs
          simp [sgn, h]; omega
      rw [e2] at g5
      simp only [bv] at g5
      have e3 : decide ((-1 : Int) < 0) = true := rfl
      simp -implicitDefEqProofs (maxSteps:=9^8) only [QcT, encI, go_sem, Qjp, Qab, Qaa, iv, bv, e1, e3, g0, g1, g5, reduceCtorEq, ↓reduceIte, Nat.reduceEqDiff]
    · have e3 : decide (Int.sign ((x.natAbs : Int) - (y.natAbs : Int)) < 0) = false := by
        apply lt_f
        rcases Int.lt_or_le 0 ((x.natAbs : Int) - (y.natAbs : Int)) with h | h
        · rw [Int.sign_eq_one_of_pos h]; omega
        · rw [show (x.natAbs : Int) - (y.natAbs : Int) = 0 by omega]; exact Int.lt_irrefl 0
      obtain ⟨out, g1, g2, g3, g4⟩ := QgP (Rw.dg _) (Rw.dg _) dx dy (by omega) (Qbb (by omega)) (by rw [vx, vy]; omega)
      have g5 := Qbc (decide (x < 0)) (Rw.dg out) (by omega) g3
      have e2 : sgn (decide (x < 0)) (val out) = x + y := by
        rw [g4, vx, vy]
        by_cases h : x < 0
        · have h2 : ¬ y < 0 := by intro h3; exact hs (by simp [h, h3])
          simp [sgn, h]; omega
        · have h2 : y < 0 := by
            rcases Int.lt_or_le y 0 with h3 | h3
            · exact h3
            · exact absurd (by simp [h, Int.not_lt.2 h3]) hs
          simp [sgn, h]; omega
      rw [e2] at g5
      simp only [bv] at g5
      simp -implicitDefEqProofs (maxSteps:=9^8) only [QcT, encI, go_sem, Qjp, Qab, Qaa, iv, bv, e1, e3, g0, g1, g5, reduceCtorEq, ↓reduceIte, Nat.reduceEqDiff]
end Go.AM

/- gantryref04: Of, Mul -/
namespace Go.AM
open Go Go.RowKit

theorem of_arith (neg : Bool) {m : Nat} (hm : m ≤ 9223372036854775808) (hp : neg = false → m < 9223372036854775808) :
    (sgn neg (m : Int)).tmod 1000000000 = sgn neg ((m % 1000000000 : Nat) : Int) ∧ w64 ((sgn neg (m : Int)).tdiv 1000000000) = sgn neg ((m / 1000000000 : Nat) : Int) := by
  have e1 : (m : Int).tmod 1000000000 = ((m % 1000000000 : Nat) : Int) := by rw [Int.tmod_eq_emod_of_nonneg (by omega)]; rfl
  have e2 : (m : Int).tdiv 1000000000 = ((m / 1000000000 : Nat) : Int) := by rw [Int.tdiv_eq_ediv_of_nonneg (by omega)]; rfl
  cases neg
  · simp only [sgn, Bool.false_eq_true, if_false]
    rw [e1, e2]
    exact ⟨rfl, Qaf (by omega) (by omega)⟩
  · simp only [sgn, if_true]
    rw [Int.neg_tmod, Int.neg_tdiv, e1, e2]
    exact ⟨rfl, Qaf (by omega) (by omega)⟩
variable [Its]

section
variable (neg : Bool)
def Qg3 (d : List Int) (n : Int) : St := mkS [(0, ai n), (2, .ptr [2] 0), (3, gA 19 d), (4, ab neg)] (([2], box0) :: gH 19 d)
def QjI (d : List Int) : St := mkS [(2, .ptr [2] 0), (3, gA 19 d), (4, ab neg)] (([2], box0) :: gH 19 d)
theorem rof_stop {d : List Int} : X G QaQ (Qg3 neg d 0) = some (.x 0, QjI neg d) := by
 have e1 : ((0 : Int) != 0) = false := rfl
 by_cases ho : d = []
 ·subst ho
  simp -implicitDefEqProofs (maxSteps:=9^8) only [QaQ, Qg3, QjI, QfR, QfI, Qac, box0, go_sem, iv, bv, e1, Qam, reduceCtorEq, ↓reduceIte, Nat.reduceEqDiff]
 ·simp -implicitDefEqProofs (maxSteps:=9^8) only [QaQ, Qg3, QjI, Qkc ho, Qkb ho, box0, go_sem, iv, bv, e1, Qam, reduceCtorEq, ↓reduceIte, Nat.reduceEqDiff]

theorem rof_go {d : List Int} {m : Nat} (hm : m ≤ 9223372036854775808) (hp : neg = false → m < 9223372036854775808) (h0 : m ≠ 0) (hd : (d.length + 1) * 8 ≤ 140737488351232) :
    X G QaQ (Qg3 neg d (sgn neg (m : Int))) = some (.n, Qg3 neg (d ++ [((m % 1000000000 : Nat) : Int)]) (sgn neg ((m / 1000000000 : Nat) : Int))) := by
  obtain ⟨e1, e2⟩ := of_arith neg hm hp
  have e3 : (sgn neg (m : Int) != 0) = true := bne_t (by cases neg <;> simp [sgn] <;> omega)
  have f1 := Qnm hd
  have f2 := Qly
  by_cases hk : neg = true ∧ m % 1000000000 ≠ 0
  · obtain ⟨rfl, hk⟩ := hk
    have e4 : decide (sgn true ((m % 1000000000 : Nat) : Int) < 0) = true := lt_t (by simp only [sgn, if_true]; omega)
    have e5 : w64 (0 - sgn true ((m % 1000000000 : Nat) : Int)) = ((m % 1000000000 : Nat) : Int) := by
      rw [Qaf (by simp only [sgn, if_true]; omega) (by simp only [sgn, if_true]; omega)]
      simp only [sgn, if_true]; omega
    generalize hv : ((m % 1000000000 : Nat) : Int) = v at *
    by_cases ho : d = []
    · subst ho
      simp -implicitDefEqProofs (maxSteps:=9^8) only [QaQ, Qg3, QfR, QfI, Qac, QnA, QnY, box0, go_sem, QeS, iv, bv, e1, e2, e3, e4, e5, f2, Qgs, D.one, allD, Qam, reduceCtorEq, ↓reduceIte, Nat.reduceEqDiff]
    · simp -implicitDefEqProofs (maxSteps:=9^8) only [QaQ, Qg3, Qkc ho, Qkb ho, QjC, Qjy, box0, go_sem, QeS, iv, bv, e1, e2, e3, e4, e5, f1, f2, Qfo, Qaj, D.one, allD, Qam, reduceCtorEq, ↓reduceIte, Nat.reduceEqDiff]
  · have e6 : sgn neg ((m % 1000000000 : Nat) : Int) = ((m % 1000000000 : Nat) : Int) := by
      cases neg
      · rfl
      · have : m % 1000000000 = 0 := Classical.byContradiction fun h => hk ⟨rfl, h⟩
        rw [this]; rfl
    rw [e6] at e1
    have e4 : decide (((m % 1000000000 : Nat) : Int) < 0) = false := lt_f (by omega)
    generalize hv : ((m % 1000000000 : Nat) : Int) = v at *
    by_cases ho : d = []
    · subst ho
      simp -implicitDefEqProofs (maxSteps:=9^8) only [QaQ, Qg3, QfR, QfI, Qac, QnA, QnY, box0, go_sem, QeS, iv, bv, e1, e2, e3, e4, f2, Qgs, D.one, allD, Qam, reduceCtorEq, ↓reduceIte, Nat.reduceEqDiff]
    · simp -implicitDefEqProofs (maxSteps:=9^8) only [QaQ, Qg3, Qkc ho, Qkb ho, QjC, Qjy, box0, go_sem, QeS, iv, bv, e1, e2, e3, e4, f1, f2, Qfo, Qaj, D.one, allD, Qam, reduceCtorEq, ↓reduceIte, Nat.reduceEqDiff]

theorem rof_loop : ∀ (m : Nat) (d : List Int), m ≤ 9223372036854775808 → (neg = false → m < 9223372036854775808) → d.length + (digs m).length ≤ 3 →
    X G (.loop QaQ) (Qg3 neg d (sgn neg (m : Int))) = some (.x 0, QjI neg (d ++ digs m)) := by
  intro m
  induction m using Nat.strongRecOn with
  | _ m ih =>
  intro d hm hp hl
  rw [Qak]
  by_cases h0 : m = 0
  · subst h0
    have e : sgn neg ((0 : Nat) : Int) = 0 := by cases neg <;> rfl
    rw [e, rof_stop, Qau, List.append_nil]; rfl
  · have hd := QdD (Nat.pos_of_ne_zero h0)
    rw [hd, List.length_cons] at hl
    rw [rof_go neg hm hp h0 (by omega), Option.bind_some, if_pos rfl]
    have := ih (m / 1000000000) (Nat.div_lt_self (Nat.pos_of_ne_zero h0) (by omega)) (d ++ [((m % 1000000000 : Nat) : Int)]) (by omega) (fun h => by have := hp h; omega) (by simp; omega)
    rw [hd]
    rw [this, List.append_assoc]
    rfl
end

theorem QgS {n : Int} (h : I64 n) : Qah G Qbt [iv n] = some (.d (encI n)) := by
 obtain ⟨h1, h2⟩ := h
 rw [Qad (cf := Qen) rfl]
 have hsg : sgn (decide (n < 0)) (n.natAbs : Int) = n := by
  by_cases h : n < 0
  ·simp [sgn, h]; omega
  ·simp [sgn, h]; omega
 have hnd : (digs n.natAbs).length ≤ 3 := Qgc ⟨h1, h2⟩
 have hl := rof_loop (decide (n < 0)) n.natAbs [] (by omega) (fun h => by have : ¬ n < 0 := of_decide_eq_false h; omega) (by simpa using hnd)
 rw [hsg, List.nil_append] at hl
 have hn := Qbc (decide (n < 0)) (Rw.dg (digs n.natAbs)) (by omega) (Qan _)
 rw [QcF, hsg] at hn
 simp only [bv] at hn
 by_cases h0 : digs n.natAbs = []
 ·rw [h0] at hl hn
  simp only [Qg3, QjI, QfR, QfI, box0, go_sem] at hl
  simp only [QnB] at hn
  simp -implicitDefEqProofs (maxSteps:=9^8) only [Qen, encI, Qg8, Qac, go_sem, Qab, Qaa, iv, bv, hl, hn, reduceCtorEq, ↓reduceIte, Nat.reduceEqDiff]
 ·simp only [Qg3, QjI, QfR, QfI, Qkc h0, Qkb h0, box0, go_sem] at hl
  rw [Qm2 h0] at hn
  simp -implicitDefEqProofs (maxSteps:=9^8) only [Qen, encI, Qg8, Qac, go_sem, Qab, Qaa, iv, bv, hl, hn, QbK, Qam, reduceCtorEq, ↓reduceIte, Nat.reduceEqDiff]
end Go.AM

/- gantryref04: Mul -/
namespace Go.AM
open Go Go.RowKit

theorem rmul_w {o a b c : Int} (ho : 0 ≤ o ∧ o < 1000000000) (ha : 0 ≤ a ∧ a < 1000000000) (hb : 0 ≤ b ∧ b < 1000000000) (hc : 0 ≤ c ∧ c < 1000000000) :
    w64 (a * b) = a * b ∧ w64 (o + a * b) = o + a * b ∧ w64 (o + a * b + c) = o + a * b + c ∧ 0 ≤ o + a * b + c ∧ w64 ((o + a * b + c) / 1000000000) = (o + a * b + c) / 1000000000 ∧
    (0 ≤ (o + a * b + c) / 1000000000 ∧ (o + a * b + c) / 1000000000 < 1000000000) ∧ (0 ≤ (o + a * b + c) % 1000000000 ∧ (o + a * b + c) % 1000000000 < 1000000000) ∧ (o + a * b + c) % 1000000000 + 1000000000 * ((o + a * b + c) / 1000000000) = o + a * b + c := by
  obtain ⟨m1, m2, _⟩ := QqR (u := 0) (c := 0) (by omega) ha hb (by omega)
  generalize a * b = x at *
  refine ⟨Qaf (by omega) (by omega), Qaf (by omega) (by omega), Qaf (by omega) (by omega), by omega, Qaf (by omega) (by omega), by omega, by omega, by omega⟩
theorem rmul_ix {i k n N : Nat} (h : i + k < N) (hN : N < 4611686018427387904) : w64 ((i : Int) + (k : Int)) = ((i + k : Nat) : Int) ∧ ((0 : Int) ≤ ((i + k : Nat) : Int) ∧ ((i + k : Nat) : Int) < ((N : Nat) : Int)) ∧ w64 ((k : Int) + 1) = ((k + 1 : Nat) : Int) ∧ w64 ((i : Int) + 1) = ((i + 1 : Nat) : Int) := by
 refine ⟨?_, by omega, ?_, ?_⟩ <;> rw [Qaf (by omega) (by omega)] <;> omega
def bxI (neg : Bool) (d : D) : Obj := ⟨0, 0, [.d (.v (.bool neg)), .d d], false⟩
variable [Its]

section
variable (na nb : Bool) (da db : D) (a b : List Int) (N : Nat)
def QpO (i : Int) (o : List Int) (c k : Int) : St := mkS [(2, .ptr [2] 0), (3, .ptr [3] 0), (4, .ptr [4] 0), (5, .own [17] N), (6, ai i), (7, ai c), (8, ai k)] [([2], bxI na da), ([3], bxI nb db), ([4], box0), ([17], arrI N o)]
def QqT (i : Int) (o : List Int) (c : Int) : St := mkS [(2, .ptr [2] 0), (3, .ptr [3] 0), (4, .ptr [4] 0), (5, .own [17] N), (6, ai i), (7, ai c)] [([2], bxI na da), ([3], bxI nb db), ([4], box0), ([17], arrI N o)]
def Qpy (i : Int) (o : List Int) : St := mkS [(2, .ptr [2] 0), (3, .ptr [3] 0), (4, .ptr [4] 0), (5, .own [17] N), (6, ai i)] [([2], bxI na da), ([3], bxI nb db), ([4], box0), ([17], arrI N o)]
def Qqs (o : List Int) : St := mkS [(2, .ptr [2] 0), (3, .ptr [3] 0), (4, .ptr [4] 0), (5, .own [17] N)] [([2], bxI na da), ([3], bxI nb db), ([4], box0), ([17], arrI N o)]

theorem rx_stop (hrb : Rw db b) {i : Int} {o : List Int} {c : Int} : X G QbP (QpO na nb da db N i o c (b.length : Int)) = some (.x 2, QqT na nb da db N i o c) := by
 have e1 : decide ((b.length : Int) < (b.length : Int)) = false := lt_f (by omega)
 simp -implicitDefEqProofs (maxSteps:=9^8) only [QbP, QpO, QqT, bxI, box0, go_sem, Qaa, iv, bv, hrb.len, e1, Qam, reduceCtorEq, ↓reduceIte, Nat.reduceEqDiff]
theorem rx_go (hra : Rw da a) (hrb : Rw db b) (ha : Dig a) (hb : Dig b) {o : List Int} (ho : Dig o) (hoN : o.length = N) (hN : N < 4611686018427387904) {c : Int} (hc : 0 ≤ c ∧ c < 1000000000) {i k : Nat} (hi : i < a.length) (hk : k < b.length) (hik : i + k < N) :
    X G QbP (QpO na nb da db N (i : Int) o c (k : Int)) = some (.n, QpO na nb da db N (i : Int) (o.set (i + k) ((o.getD (i + k) 0 + a.getD i 0 * b.getD k 0 + c) % 1000000000)) ((o.getD (i + k) 0 + a.getD i 0 * b.getD k 0 + c) / 1000000000) ((k + 1 : Nat) : Int)) := by
  obtain ⟨e1, e2, e3, e4, e5, _⟩ := rmul_w (ho.getD (i + k)) (ha.getD i) (hb.getD k) hc
  obtain ⟨i1, i2, i3, _⟩ := rmul_ix (n := 0) hik hN
  have n1 := hra.ixn (j := i) hi
  have n2 := fun hp => ldv hp a (j := i) hi
  have n3 := hrb.ixn (j := k) hk
  have n4 := fun hp => ldv hp b (j := k) hk
  have n5 := QbU (l := o) (off := i + k) (hoN ▸ hik)
  have n6 := fun v => Qbg (l := o) (off := i + k) (v := v) (hoN ▸ hik)
  have n7 : decide ((k : Int) < (b.length : Int)) = true := lt_t (by omega)
  have q1 := QeL (b := 1000000000) e4
  have q2 := Qdn (b := 1000000000) e4
  have l2 : ∀ (h : Hp) (cs : List A) (o : Nat), Qaa none o cs = cs[o]? := fun _ _ _ => rfl
  have l3 : ∀ (n : Bool) (d : D), Qaa none 1 [A.d (.v (.bool n)), A.d d] = some (.d d) := fun _ _ => rfl
  simp -implicitDefEqProofs (maxSteps:=9^8) only [QbP, QpO, bxI, box0, go_sem, l3, iv, bv, hrb.len, e1, e2, e3, e5, q1, q2, i1, i2, i3, n1, n2, n3, n4, n5, n6, n7, allD, Qam, QbK, Qaj, reduceCtorEq, ↓reduceIte, Nat.reduceEqDiff]

theorem rx_loop (hra : Rw da a) (hrb : Rw db b) (ha : Dig a) (hb : Dig b) (hN : N < 4611686018427387904) {i : Nat} (hi : i < a.length) (hib : i + b.length < N) (u0 : List Int) : ∀ (j k : Nat) (o : List Int) (c : Int), k + j = b.length → Dig o → o.length = N → (0 ≤ c ∧ c < 1000000000) → (∀ x, i + k ≤ x → o.getD x 0 = u0.getD x 0) →
    val o + (1000000000 : Int) ^ (i + k) * c = val u0 + (1000000000 : Int) ^ i * (a.getD i 0 * val (b.take k)) →
    ∃ o' c', X G (.loop QbP) (QpO na nb da db N (i : Int) o c (k : Int)) = some (.x 2, QqT na nb da db N (i : Int) o' c') ∧ Dig o' ∧ o'.length = N ∧ (0 ≤ c' ∧ c' < 1000000000) ∧ (∀ x, i + b.length ≤ x → o'.getD x 0 = u0.getD x 0) ∧
      val o' + (1000000000 : Int) ^ (i + b.length) * c' = val u0 + (1000000000 : Int) ^ i * (a.getD i 0 * val b)
  | 0, k, o, c, hk, ho, hoN, hc, h1, hv => by
    obtain rfl : k = b.length := by omega
    refine ⟨o, c, by rw [Qak, rx_stop na nb da db b N hrb]; rfl, ho, hoN, hc, h1, ?_⟩
    rw [hv, List.take_length]
  | j + 1, k, o, c, hk, ho, hoN, hc, h1, hv => by
    have hx := rx_go na nb da db a b N hra hrb ha hb ho hoN hN hc hi (k := k) (by omega) (by omega)
    obtain ⟨_, _, _, _, _, e6, e7, e8⟩ := rmul_w (ho.getD (i + k)) (ha.getD i) (hb.getD k) hc
    obtain ⟨o', c2, g1, g2⟩ := rx_loop hra hrb ha hb hN hi hib u0 j (k + 1) (o.set (i + k) ((o.getD (i + k) 0 + a.getD i 0 * b.getD k 0 + c) % 1000000000)) ((o.getD (i + k) 0 + a.getD i 0 * b.getD k 0 + c) / 1000000000) (by omega) (ho.set e7) (by simpa using hoN) e6 (fun x hx' => by rw [QaW _ (by omega)]; exact h1 x (by omega)) (by
      rw [Qd6 _ _ _ (by omega), Qap b k, show i + (k + 1) = (i + k) + 1 by omega, Int.pow_succ, Int.pow_add]
      rw [Int.pow_add] at hv
      generalize (o.getD (i + k) 0 + a.getD i 0 * b.getD k 0 + c) % 1000000000 = R at *
      generalize (o.getD (i + k) 0 + a.getD i 0 * b.getD k 0 + c) / 1000000000 = Q at *
      clear hx e6 e7 h1
      grind)
    exact ⟨o', c2, by rw [Qak, hx]; exact g1, g2⟩

theorem ry_stop (hra : Rw da a) {o : List Int} : X G QbO (Qpy na nb da db N (a.length : Int) o) = some (.x 0, Qqs na nb da db N o) := by
 have e1 : decide ((a.length : Int) < (a.length : Int)) = false := lt_f (by omega)
 simp -implicitDefEqProofs (maxSteps:=9^8) only [QbO, Qpy, Qqs, bxI, box0, go_sem, Qaa, iv, bv, hra.len, e1, Qam, reduceCtorEq, ↓reduceIte, Nat.reduceEqDiff]

theorem ry_go (hra : Rw da a) (hrb : Rw db b) (ha : Dig a) (hb : Dig b) (hNe : a.length + b.length = N) (hN : N < 4611686018427387904) {o : List Int} (ho : Dig o) (hoN : o.length = N) {i : Nat} (hi : i < a.length) (hz : ∀ x, i + b.length ≤ x → o.getD x 0 = 0) (hv : val o = val (a.take i) * val b) :
    ∃ o', Dig o' ∧ o'.length = N ∧ (∀ x, i + 1 + b.length ≤ x → o'.getD x 0 = 0) ∧ val o' = val (a.take (i + 1)) * val b ∧ X G QbO (Qpy na nb da db N (i : Int) o) = some (.n, Qpy na nb da db N ((i + 1 : Nat) : Int) o') := by
  have hib : i + b.length < N := by omega
  obtain ⟨o1, c1, hx, d1, l1, hc, h1, hv1⟩ := rx_loop na nb da db a b N hra hrb ha hb hN hi hib o b.length 0 o 0 (by omega) ho hoN (by omega) (fun _ _ => rfl) (by simp [val])
  refine ⟨o1.set (i + b.length) c1, d1.set hc, by simpa using l1, fun x hx' => by rw [QaW _ (by omega), h1 x (by omega)]; exact hz x (by omega), ?_, ?_⟩
  · rw [Qd6 _ _ _ (by omega), h1 _ (Nat.le_refl _), hz _ (Nat.le_refl _), Int.sub_zero, hv1, hv, Qap a i]
    grind
  · obtain ⟨i1, i2, _, i4⟩ := rmul_ix (n := 0) hib hN
    have n6 := fun v => Qbg (l := o1) (off := i + b.length) (v := v) (by omega)
    have n7 : decide ((i : Int) < (a.length : Int)) = true := lt_t (by omega)
    have l3 : ∀ (n : Bool) (d : D), Qaa none 1 [A.d (.v (.bool n)), A.d d] = some (.d d) := fun _ _ => rfl
    simp only [QpO, QqT, bxI, box0, go_sem, nc0] at hx
    simp -implicitDefEqProofs (maxSteps:=9^8) only [QbO, Qpy, bxI, box0, go_sem, l3, iv, bv, hra.len, hrb.len, i1, i2, i4, n6, n7, hx, allD, Qam, QbK, Qaj, reduceCtorEq, ↓reduceIte, Nat.reduceEqDiff]

theorem ry_loop (hra : Rw da a) (hrb : Rw db b) (ha : Dig a) (hb : Dig b) (hNe : a.length + b.length = N) (hN : N < 4611686018427387904) : ∀ (k i : Nat) (o : List Int), i + k = a.length → Dig o → o.length = N → (∀ x, i + b.length ≤ x → o.getD x 0 = 0) → val o = val (a.take i) * val b →
    ∃ o', X G (.loop QbO) (Qpy na nb da db N (i : Int) o) = some (.x 0, Qqs na nb da db N o') ∧ Dig o' ∧ o'.length = N ∧ val o' = val a * val b
  | 0, i, o, hi, ho, hoN, hz, hv => by
    obtain rfl : i = a.length := by omega
    exact ⟨o, by rw [Qak, ry_stop na nb da db a N hra]; rfl, ho, hoN, by rw [hv, List.take_length]⟩
  | k + 1, i, o, hi, ho, hoN, hz, hv => by
    obtain ⟨o1, d1, l1, z1, v1, hx⟩ := ry_go na nb da db a b N hra hrb ha hb hNe hN ho hoN (i := i) (by omega) hz hv
    obtain ⟨o', g1, g2⟩ := ry_loop hra hrb ha hb hNe hN k (i + 1) o1 (by omega) d1 l1 z1 v1
    exact ⟨o', by rw [Qak, hx]; exact g1, g2⟩
end

theorem QeF {x y : Int} (hx : nd x ≤ 1000000000000) (hy : nd y ≤ 1000000000000) : Qah G Qa0 [encI x, encI y] = some (.d (encI (x * y))) := by
 rw [Qad (cf := Qfi) rfl]
 have hx' : (digs x.natAbs).length ≤ 1000000000000 := hx
 have hy' : (digs y.natAbs).length ≤ 1000000000000 := hy
 obtain ⟨N, hN⟩ : ∃ N, (digs x.natAbs).length + (digs y.natAbs).length = N := ⟨_, rfl⟩
 obtain ⟨o, g1, g2, g3, g4⟩ := ry_loop (decide (x < 0)) (decide (y < 0)) (dg (digs x.natAbs)) (dg (digs y.natAbs)) (digs x.natAbs) (digs y.natAbs) N (Rw.dg _) (Rw.dg _) (Qan _) (Qan _) hN (by omega) (digs x.natAbs).length 0 (List.replicate N 0) (by omega) (Dig.replicate _) (by simp)
  (fun x _ => by simp only [List.getD_eq_getElem?_getD, List.getElem?_replicate]; split <;> rfl) (by rw [QeZ]; simp [val])
 have e0 := QaJ (digs x.natAbs)
 have e1 := QaJ (digs y.natAbs)
 have hw : w64 (((digs x.natAbs).length : Int) + ((digs y.natAbs).length : Int)) = ((N : Nat) : Int) := by rw [Qaf (by omega) (by omega)]; omega
 have hm := bnd N (by omega)
 have g5 := Qbc (!(decide (x < 0) == decide (y < 0))) (Rw.row o) (by omega) g2
 rw [g4, QcF, QcF, QmD] at g5
 simp only [rowI, bv, g3] at g5
 simp only [Qpy, Qqs, bxI, box0, go_sem, nc0] at g1
 simp -implicitDefEqProofs (maxSteps:=9^8) only [Qfi, encI, Qg8, go_sem, Qab, Qaa, iv, bv, e0, e1, hw, hm, QkM, Qam, QbK, g1, g5, reduceCtorEq, ↓reduceIte, Nat.reduceEqDiff]
end Go.AM

/- gantryref04: times, divided -/
namespace Go.AM
open Go Go.RowKit

theorem row_cons (v : Int) (l : List Int) : D.row (1 + l.length) (D.v (.int .i64 v) :: l.map iv) = rowI (v :: l) := by rw [rowI, List.length_cons, Nat.add_comm]; rfl
theorem all_ints (l : List Int) : List.all (l.map iv) D.one = true := by simp [iv, D.one, A.one]
theorem Qh2 (x : Nat) : nd (x : Int) = (digs x).length := rfl
theorem bs_mid {lo hi q R y : Nat} (h1 : lo ≤ q) (h2 : q ≤ hi) (h3 : lo < hi) (hq : q = R / y) (hy : 0 < y) : (y * ((lo + hi + 1) / 2) ≤ R → (lo + hi + 1) / 2 ≤ q) ∧ (¬ y * ((lo + hi + 1) / 2) ≤ R → q ≤ (lo + hi + 1) / 2 - 1) := by
 subst hq
 constructor
 ·intro h
  rw [Nat.le_div_iff_mul_le hy, Nat.mul_comm]; exact h
 ·intro h
  have : R / y < (lo + hi + 1) / 2 := by
   rw [Nat.div_lt_iff_lt_mul hy, Nat.mul_comm]
   exact Nat.not_le.1 h
  omega
variable [Its]

theorem QlP {y k : Nat} (hy : (digs y).length ≤ 999999999999) (hk : k < 1000000000) : Qah G Qdr [dg (digs y), iv (k : Int)] = some (.d (dg (digs (y * k)))) := by
 rw [Qad (cf := Qej) rfl]
 have g1 := Qbc false (Rw.dg (digs y)) (by omega) (Qan y)
 rw [Qav, QaA] at g1
 have g2 := QgS (n := (k : Int)) ⟨by omega, by omega⟩
 have g3 := QeF (x := (y : Int)) (y := (k : Int)) (by rw [Qh2]; omega) (by rw [Qh2]; have := Qgc (x := (k : Int)) ⟨by omega, by omega⟩; rw [Qh2] at this; omega)
 have e : (y : Int) * (k : Int) = ((y * k : Nat) : Int) := rfl
 rw [e, Qa5] at g3
 rw [Qa5] at g1 g2 g3
 rw [Qa5] at g3
 simp only [bv, iv] at g1 g2 g3
 simp -implicitDefEqProofs (maxSteps:=9^8) only [Qej, go_sem, Qab, Qaa, iv, bv, g1, g2, g3, reduceCtorEq, ↓reduceIte, Nat.reduceEqDiff]

section
variable (da : D) (y n : Nat) (o : List Int) (i R : Nat)
def QmG (lo hi : Nat) : St := mkS [(0, .d da), (1, .d (dg (digs y))), (8, .own [42] n), (9, .d (dg (digs R))), (10, ai (i : Int)), (12, ai (lo : Int)), (13, ai (hi : Int))] [([42], arrI n o)]
def QqD (lo : Nat) : St := mkS [(0, .d da), (1, .d (dg (digs y))), (8, .own [42] n), (9, .d (dg (digs R))), (10, ai (i : Int)), (12, ai (lo : Int))] [([42], arrI n o)]

theorem rb_go {lo hi : Nat} (hy : (digs y).length ≤ 999999999999) (hR : (digs R).length ≤ 1000000000001) (hlt : lo < hi) (hh : hi < 1000000000) :
    X G Qa7 (QmG da y n o i R lo hi) = some (.n, if y * ((lo + hi + 1) / 2) ≤ R then QmG da y n o i R ((lo + hi + 1) / 2) hi else QmG da y n o i R lo ((lo + hi + 1) / 2 - 1)) := by
  have e1 : decide ((lo : Int) < (hi : Int)) = true := lt_t (by omega)
  have e2 : w64 ((lo : Int) + (hi : Int)) = (lo : Int) + (hi : Int) := Qaf (by omega) (by omega)
  have e3 : w64 ((lo : Int) + (hi : Int) + 1) = (lo : Int) + (hi : Int) + 1 := Qaf (by omega) (by omega)
  have e4 : ((lo : Int) + (hi : Int) + 1).tdiv 2 = (((lo + hi + 1) / 2 : Nat) : Int) := by rw [Int.tdiv_eq_ediv_of_nonneg (by omega)]; omega
  have e5 : w64 (((lo + hi + 1) / 2 : Nat) : Int) = (((lo + hi + 1) / 2 : Nat) : Int) := Qaf (by omega) (by omega)
  have e9 : ((2 : Int) = 0) = False := by simp
  have hm : (lo + hi + 1) / 2 < 1000000000 := by omega
  have hm1 : 1 ≤ (lo + hi + 1) / 2 := by omega
  have t1 := QlP (y := y) (k := (lo + hi + 1) / 2) hy hm
  generalize (lo + hi + 1) / 2 = mid at *
  have hly : (digs (y * mid)).length ≤ 1000000000002 := by
    have := Qc6 (x := (y : Int)) (y := (mid : Int))
    have e : (y : Int) * (mid : Int) = ((y * mid : Nat) : Int) := rfl
    rw [e] at this
    rw [Qh2, Qh2, Qh2] at this
    have h3 := Qgc (x := (mid : Int)) ⟨by omega, by omega⟩
    rw [Qh2] at h3
    omega
  have t2 := QdB (Rw.dg (digs (y * mid))) (Rw.dg (digs R)) (Qan _) (Qan _) (QbX _) (QbX _) (by omega) (by omega)
  rw [QaA, QaA] at t2
  simp only [iv] at t1 t2
  have e6 : w64 ((mid : Int) - 1) = ((mid - 1 : Nat) : Int) := by rw [Qaf (by omega) (by omega)]; omega
  by_cases hle : y * mid ≤ R
  · have e7 : decide (Int.sign (((y * mid : Nat) : Int) - (R : Int)) ≤ 0) = true := by
      apply le_t
      generalize y * mid = z at *
      rcases Int.lt_or_le ((z : Int) - (R : Int)) 0 with h | h
      · rw [Int.sign_eq_neg_one_of_neg h]; omega
      · rw [show (z : Int) - (R : Int) = 0 by omega]; exact Int.le_refl 0
    rw [if_pos hle]
    simp -implicitDefEqProofs (maxSteps:=9^8) only [Qa7, QmG, go_sem, iv, bv, e1, e2, e3, e4, e5, e6, e7, e9, t1, t2, Qam, reduceCtorEq, ↓reduceIte, Nat.reduceEqDiff]
  · have e7 : decide (Int.sign (((y * mid : Nat) : Int) - (R : Int)) ≤ 0) = false := by
      apply le_f
      generalize y * mid = z at *
      rw [Int.sign_eq_one_of_pos (by omega)]; omega
    rw [if_neg hle]
    simp -implicitDefEqProofs (maxSteps:=9^8) only [Qa7, QmG, go_sem, iv, bv, e1, e2, e3, e4, e5, e6, e7, e9, t1, t2, Qam, reduceCtorEq, ↓reduceIte, Nat.reduceEqDiff]

theorem Qne (hy0 : 0 < y) (hy : (digs y).length ≤ 999999999999) (hR : (digs R).length ≤ 1000000000001) : ∀ (k lo hi : Nat), hi - lo ≤ k → lo ≤ R / y → R / y ≤ hi → hi < 1000000000 → X G (.loop Qa7) (QmG da y n o i R lo hi) = some (.x 2, QqD da y n o i R (R / y))
 | k, lo, hi, hk, h1, h2, hh => by
  rw [Qak]
  by_cases hlt : lo < hi
  ·rw [rb_go da y n o i R hy hR hlt hh, Option.bind_some, if_pos rfl]
   obtain ⟨b1, b2⟩ := bs_mid (R := R) (y := y) h1 h2 hlt rfl hy0
   cases k with
   | zero => omega
   | succ k =>
    by_cases hle : y * ((lo + hi + 1) / 2) ≤ R
    ·rw [if_pos hle]
     exact Qne hy0 hy hR k _ _ (by omega) (b1 hle) h2 hh
    ·rw [if_neg hle]
     exact Qne hy0 hy hR k _ _ (by omega) h1 (b2 hle) (by omega)
  ·have he : lo = R / y := by omega
   have e1 : decide ((lo : Int) < (hi : Int)) = false := lt_f (by omega)
   rw [← he]
   simp -implicitDefEqProofs (maxSteps:=9^8) only [Qa7, QmG, QqD, go_sem, iv, bv, e1, Qam, reduceCtorEq, ↓reduceIte, Nat.reduceEqDiff]
 termination_by k => k
end
end Go.AM

/- gantryref04: divided -/
namespace Go.AM
open Go Go.RowKit

theorem app1_fact {l : List Int} (h : l.length ≤ 1000000000000) : ((1 + l.length) * 8 ≤ bound) = True := eq_true (by simp only [bound]; omega)
theorem nat_digit {v : Int} (h : 0 ≤ v) : ∃ n : Nat, v = (n : Int) := ⟨v.toNat, by omega⟩
theorem digs_step {v r y : Nat} (hv : v < 1000000000) (hr : r < y) : (digs (v + 1000000000 * r)).length ≤ (digs y).length + 1 := by
 apply QfV
 have h1 : y < 1000000000 ^ (digs y).length := by
  have := Qdi (y : Int)
  rw [Qh2] at this
  simpa using this
 rw [Nat.pow_succ]
 generalize 1000000000 ^ (digs y).length = z at *
 omega
theorem Qp8 {v r y : Nat} (hv : v < 1000000000) (hr : r < y) : (v + 1000000000 * r) / y < 1000000000 := by
 rw [Nat.div_lt_iff_lt_mul (by omega)]
 omega
theorem rem_step (R y : Nat) : (R : Int) - ((y * (R / y) : Nat) : Int) = ((R % y : Nat) : Int) := by
 have := Nat.div_add_mod R y
 generalize y * (R / y) = z at *
 omega
theorem cast_dm (A y : Nat) : (y : Int) * ((A / y : Nat) : Int) + ((A % y : Nat) : Int) = (A : Int) := by
 have h := Nat.div_add_mod A y
 generalize A / y = q at *
 generalize A % y = m at *
 subst h
 rw [Int.natCast_add, Int.natCast_mul]
theorem dig_nat {n : Nat} (h : n < 1000000000) : 0 ≤ (n : Int) ∧ (n : Int) < 1000000000 := by omega
theorem st2 (x y u v : A) : Qab 0 [x, y] [u, v] = some [x, y] := rfl
theorem ld1 (u v : A) : Qaa none 1 [u, v] = some v := rfl
variable [Its]

section
variable (da : D) (a : List Int) (y : Nat)
def Qmp (o : List Int) (r : Nat) (i : Int) : St := mkS [(0, .d da), (1, .d (dg (digs y))), (8, .own [42] a.length), (9, .d (dg (digs r))), (10, ai i)] [([42], arrI a.length o)]
def Qoy (o : List Int) (r : Nat) : St := mkS [(8, .own [42] a.length), (9, .d (dg (digs r)))] [([42], arrI a.length o)]

theorem rd_stop (o : List Int) (r : Nat) : X G QaT (Qmp da a y o r (-1)) = some (.x 0, Qoy a o r) := by
 have e1 : decide ((-1 : Int) ≥ 0) = false := rfl
 simp -implicitDefEqProofs (maxSteps:=9^8) only [QaT, Qmp, Qoy, go_sem, iv, bv, e1, Qam, reduceCtorEq, ↓reduceIte, Nat.reduceEqDiff]

theorem rd_go (hra : Rw da a) (ha : Dig a) (hy : (digs y).length ≤ 999999999999) (hl : a.length ≤ 1000000000000) {o : List Int} (ho : o.length = a.length) {r i v : Nat} (hi : i < a.length) (hr : r < y) (hv : a.getD i 0 = (v : Int)) :
    X G QaT (Qmp da a y o r (i : Int)) = some (.n, Qmp da a y (o.set i (((v + 1000000000 * r) / y : Nat) : Int)) ((v + 1000000000 * r) % y) ((i : Int) - 1)) := by
  have hvd := ha.getD i
  rw [hv] at hvd
  have hvn : v < 1000000000 := by omega
  have hRl := digs_step (y := y) hvn hr
  have hq := Qp8 (y := y) hvn hr
  have hrl := Qbb (Nat.le_of_lt hr)
  have e1 : decide ((i : Int) ≥ 0) = true := ge_t (by omega)
  have e2 := hra.ixn (j := i) hi
  have e3 := fun hp => ldv hp a (j := i) hi
  rw [hv] at e3
  have e4 : w64 ((i : Int) - 1) = (i : Int) - 1 := Qaf (by omega) (by omega)
  have e5 : (0 : Int) ≤ (i : Int) ∧ (i : Int) < ((a.length : Nat) : Int) := by omega
  have e6 := fun x => Qbg (l := o) (off := i) (v := x) (by omega)
  have f1 := app1_fact (l := digs r) (by omega)
  have f2 := all_ints (digs r)
  have nr := Qbc false (Rw.row ((v : Int) :: digs r)) (by simp; omega) (Dig.cons.2 ⟨hvd, Qan r⟩)
  rw [Qav, val, QaA, ← row_cons] at nr
  have eR : (v : Int) + 1000000000 * (r : Int) = ((v + 1000000000 * r : Nat) : Int) := by omega
  rw [eR] at nr
  obtain ⟨R, hR⟩ : ∃ R, v + 1000000000 * r = R := ⟨_, rfl⟩
  rw [hR] at nr hRl hq ⊢
  rw [Qa5] at nr
  have cp := QdB (Rw.dg (digs R)) (Rw.dg (digs y)) (Qan _) (Qan _) (QbX _) (QbX _) (by omega) (by omega)
  rw [QaA, QaA] at cp
  have tm := QlP (y := y) (k := R / y) hy hq
  have hle : y * (R / y) ≤ R := Nat.mul_div_le R y
  obtain ⟨out, m1, m2, m3, m4⟩ := QgP (Rw.dg (digs R)) (Rw.dg (digs (y * (R / y)))) (Qan _) (Qan _) (by omega) (Qbb hle) (by rw [QaA, QaA]; exact Int.ofNat_le.2 hle)
  rw [QaA, QaA, rem_step] at m4
  have n2 := Qbc false (Rw.dg out) (by omega) m3
  rw [Qav, m4, Qa5] at n2
  have hyp : 0 < y := by omega
  have c9 : ((999999999 : Nat) : Int) = 999999999 := rfl
  simp only [bv, iv] at nr cp tm n2
  by_cases hlt : R < y
  · have c1 : decide (Int.sign ((R : Int) - (y : Int)) < 0) = true := by rw [Int.sign_eq_neg_one_of_neg (by omega)]; rfl
    have hx := Qne da y a.length o i R hyp hy (by omega) 0 0 0 (by omega) (Nat.zero_le _) (by rw [Nat.div_eq_of_lt hlt]; exact Nat.le_refl _) (by omega)
    simp only [QmG, QqD, go_sem] at hx
    simp -implicitDefEqProofs (maxSteps:=9^8) only [QaT, Qmp, go_sem, st2, ld1, src_dg, QeS, List.length_map, iv, bv, e1, e2, e3, e4, e5, e6, f1, f2, nr, cp, c1, hx, tm, m1, n2, Qjp, QbK, Qam, Qaj, reduceCtorEq, ↓reduceIte, Nat.reduceEqDiff]
  · have c1 : decide (Int.sign ((R : Int) - (y : Int)) < 0) = false := by
      apply lt_f
      rcases Int.lt_or_le 0 ((R : Int) - (y : Int)) with h | h
      · rw [Int.sign_eq_one_of_pos h]; omega
      · rw [show (R : Int) - (y : Int) = 0 by omega]; exact Int.lt_irrefl 0
    have hx := Qne da y a.length o i R hyp hy (by omega) 999999999 0 999999999 (by omega) (Nat.zero_le _) (by omega) (by omega)
    simp only [QmG, QqD, go_sem, c9] at hx
    simp -implicitDefEqProofs (maxSteps:=9^8) only [QaT, Qmp, go_sem, st2, ld1, src_dg, QeS, List.length_map, iv, bv, e1, e2, e3, e4, e5, e6, f1, f2, nr, cp, c1, hx, tm, m1, n2, Qjp, QbK, Qam, Qaj, reduceCtorEq, ↓reduceIte, Nat.reduceEqDiff]

theorem Qpb     (hra : Rw da a) (ha : Dig a) (hy0 : 0 < y) (hy : (digs y).length ≤ 999999999999) (hl : a.length ≤ 1000000000000) : ∀ (k : Nat) (o : List Int) (r : Nat), k ≤ a.length → o.length = a.length → Dig o → r < y → val (a.drop k) = val (o.drop k) * (y : Int) + (r : Int) →
    ∃ o' r', X G (.loop QaT) (Qmp da a y o r ((k : Int) - 1)) = some (.x 0, Qoy a o' r') ∧ o'.length = a.length ∧ Dig o' ∧ r' < y ∧ val a = val o' * (y : Int) + (r' : Int)
  | 0, o, r, hk, ho, hd, hr, hv => ⟨o, r, by
      have : ((0 : Nat) : Int) - 1 = -1 := rfl
      rw [this, Qak, rd_stop]; rfl, ho, hd, hr, by simpa using hv⟩
  | k + 1, o, r, hk, ho, hd, hr, hv => by
    obtain ⟨v, hvv⟩ := nat_digit (ha.getD k).1
    have hvn := (ha.getD k).2
    rw [hvv] at hvn
    have hvn' : v < 1000000000 := by omega
    have hx := rd_go da a y hra ha hy hl ho (i := k) (by omega) hr hvv
    have hq := Qp8 (y := y) hvn' hr
    have hm := Nat.mod_lt (v + 1000000000 * r) hy0
    obtain ⟨o', r', g1, g2⟩ := Qpb hra ha hy0 hy hl k (o.set k (((v + 1000000000 * r) / y : Nat) : Int)) ((v + 1000000000 * r) % y) (by omega) (by simpa using ho) (hd.set (dig_nat hq)) hm (by
      rw [QaN, hv, QjP _ (by omega), hvv]
      have hdm' : (y : Int) * (((v + 1000000000 * r) / y : Nat) : Int) + (((v + 1000000000 * r) % y : Nat) : Int) = (v : Int) + 1000000000 * (r : Int) := by rw [cast_dm]; rw [Int.natCast_add, Int.natCast_mul]; rfl
      generalize (((v + 1000000000 * r) / y : Nat) : Int) = Q at *
      generalize (((v + 1000000000 * r) % y : Nat) : Int) = M at *
      clear hx hq hm hv
      grind)
    refine ⟨o', r', ?_, g2⟩
    have : ((k + 1 : Nat) : Int) - 1 = (k : Int) := by omega
    rw [this, Qak, hx]
    exact g1
end

theorem QnO          {x y : Nat} (hy : 0 < y) (hx : (digs x).length ≤ 1000000000000) (hyl : (digs y).length ≤ 999999999999) :
    ∃ dq q, Qah G Qex [dg (digs x), dg (digs y)] = some (.d (.tup [dq, dg (digs (x % y))])) ∧ Rw dq q ∧ Dig q ∧ q.length ≤ 1000000000000 ∧ val q = ((x / y : Nat) : Int) := by
  have lx := QaJ (digs x)
  have ly := QaJ (digs y)
  by_cases h1 : (digs x).length ≤ 2
  · have e1 : decide (((digs x).length : Int) ≤ 2) = true := le_t (by omega)
    by_cases h2 : (digs y).length ≤ 2
    · have e2 : decide (((digs y).length : Int) ≤ 2) = true := le_t (by omega)
      have t1 := Qi2 (Rw.dg (digs x)) (Qan x) h1
      have t2 := Qi2 (Rw.dg (digs y)) (Qan y) h2
      rw [QaA] at t1 t2
      have s1 := Qem h1
      have e3 := Qjt (b := (y : Int)) (by omega)
      have e4 := QeL (a := (x : Int)) (b := (y : Int)) (by omega)
      have e5 := Qdn (a := (x : Int)) (b := (y : Int)) (by omega)
      have c1 : (x : Int) / (y : Int) = ((x / y : Nat) : Int) := rfl
      have c2 : (x : Int) % (y : Int) = ((x % y : Nat) : Int) := rfl
      rw [c1] at e4
      rw [c2] at e5
      have hq : x / y ≤ x := Nat.div_le_self x y
      have hr : x % y ≤ x := Nat.mod_le x y
      have hql := Qbb hq
      clear c1 c2
      generalize x / y = Q at *
      generalize x % y = M at *
      have o1 := QgS (n := (Q : Int)) ⟨by omega, by omega⟩
      have o2 := QgS (n := (M : Int)) ⟨by omega, by omega⟩
      have e6 : w64 (Q : Int) = (Q : Int) := Qaf (by omega) (by omega)
      rw [Qa5] at o1 o2
      simp only [iv] at t1 t2 o1 o2
      refine ⟨dg (digs Q), digs Q, ?_, Rw.dg _, Qan _, by omega, QaA _⟩
      rw [Qad (cf := Qbd) rfl]
      simp -implicitDefEqProofs (maxSteps:=9^8) only [Qbd, go_sem, st2, ld1, iv, bv, lx, ly, e1, e2, e3, e4, e5, e6, t1, t2, o1, o2, toDs, reduceCtorEq, ↓reduceIte, Nat.reduceEqDiff]
    · have e2 : decide (((digs y).length : Int) ≤ 2) = false := le_f (by omega)
      obtain ⟨o, r, g1, g2, g3, g4, g5⟩ := Qpb (dg (digs x)) (digs x) y (Rw.dg _) (Qan x) hy hyl hx (digs x).length (List.replicate (digs x).length 0) 0 (Nat.le_refl _) (by simp) (Dig.replicate _) hy (by rw [List.drop_length, List.drop_eq_nil_of_le (by simp)]; simp [val])
      rw [QaA] at g5
      obtain ⟨u1, u2⟩ := Qk8 g5 (Int.natCast_nonneg _) (Int.ofNat_lt.2 g4)
      have u2' : x % y = r := Int.ofNat.inj u2
      refine ⟨rowI o, o, ?_, Rw.row _, g3, by omega, u1.symm⟩
      rw [u2', Qad (cf := Qbd) rfl]
      have f1 := bnd (digs x).length (by omega)
      have f2 : w64 (((digs x).length : Int) - 1) = ((digs x).length : Int) - 1 := Qaf (by omega) (by omega)
      simp only [Qmp, Qoy, Qau, QnB, go_sem] at g1
      simp -implicitDefEqProofs (maxSteps:=9^8) only [Qbd, go_sem, iv, bv, lx, ly, e1, e2, f1, f2, g1, g2, rowI, QkM, QbK, Qam, toDs, reduceCtorEq, ↓reduceIte, Nat.reduceEqDiff]
  · have e1 : decide (((digs x).length : Int) ≤ 2) = false := le_f (by omega)
    obtain ⟨o, r, g1, g2, g3, g4, g5⟩ := Qpb (dg (digs x)) (digs x) y (Rw.dg _) (Qan x) hy hyl hx (digs x).length (List.replicate (digs x).length 0) 0 (Nat.le_refl _) (by simp) (Dig.replicate _) hy (by rw [List.drop_length, List.drop_eq_nil_of_le (by simp)]; simp [val])
    rw [QaA] at g5
    obtain ⟨u1, u2⟩ := Qk8 g5 (Int.natCast_nonneg _) (Int.ofNat_lt.2 g4)
    have u2' : x % y = r := Int.ofNat.inj u2
    refine ⟨rowI o, o, ?_, Rw.row _, g3, by omega, u1.symm⟩
    rw [u2', Qad (cf := Qbd) rfl]
    have f1 := bnd (digs x).length (by omega)
    have f2 : w64 (((digs x).length : Int) - 1) = ((digs x).length : Int) - 1 := Qaf (by omega) (by omega)
    simp only [Qmp, Qoy, Qau, QnB, go_sem] at g1
    simp -implicitDefEqProofs (maxSteps:=9^8) only [Qbd, go_sem, iv, bv, lx, ly, e1, f1, f2, g1, g2, rowI, QkM, QbK, Qam, toDs, reduceCtorEq, ↓reduceIte, Nat.reduceEqDiff]
end Go.AM

/- ref04.Div -/
namespace Go.AM
open Go Go.RowKit
variable [Its]

theorem Qll       {x y : Int} (hy : y ≠ 0) (hx : nd x ≤ 1000000000000) (hyl : nd y ≤ 999999999999) :
    Qah G Qc5 [encI x, encI y] = some (.d (.tup [encI (x / y), encI (x % y)])) := by
  obtain ⟨c1, c2, c3⟩ := QlQ (x := x) hy
  have hya : 0 < y.natAbs := by omega
  obtain ⟨dq, q, td, t1, t2, t3, t4⟩ := QnO (x := x.natAbs) (y := y.natAbs) hya hx hyl
  have ly := QaJ (digs y.natAbs)
  have fq : A.one (.d dq) = true := by
    rcases t1 with h | h
    · rw [h]; exact Qph q
    · rw [h]; rfl
  have e1 : (((digs y.natAbs).length : Int) == 0) = false := Qco (by have := digs_length_pos.2 hya; omega)
  have n1 : (x.natAbs : Int) / (y.natAbs : Int) = ((x.natAbs / y.natAbs : Nat) : Int) := rfl
  have n2 : (x.natAbs : Int) % (y.natAbs : Int) = ((x.natAbs % y.natAbs : Nat) : Int) := rfl
  have hq1 : x.natAbs / y.natAbs ≤ x.natAbs := Nat.div_le_self _ _
  have hr1 : x.natAbs % y.natAbs < y.natAbs := Nat.mod_lt _ hya
  rw [n1] at c1 c2 c3
  rw [n2] at c1 c2 c3
  clear n1 n2
  generalize x.natAbs / y.natAbs = Q at *
  generalize x.natAbs % y.natAbs = M at *
  have hQl : (digs Q).length ≤ (digs x.natAbs).length := Qbb hq1
  have hMl : (digs M).length ≤ (digs y.natAbs).length := Qbb (Nat.le_of_lt hr1)
  have hxn : (digs x.natAbs).length ≤ 1000000000000 := hx
  have hyn : (digs y.natAbs).length ≤ 999999999999 := hyl
  have lm := QaJ (digs M)
  obtain ⟨s, hs⟩ : ∃ s, (!(decide (x < 0) == decide (y < 0))) = s := ⟨_, rfl⟩
  have k1 := Qbc s t1 (by omega) t2
  rw [t4] at k1
  have k2 := Qbc false (Rw.dg (digs M)) (by omega) (Qan _)
  rw [Qav, QaA, Qa5] at k2
  rw [Qad (cf := QcU) rfl]
  by_cases hb : x < 0 ∧ M ≠ 0
  · have x1 : decide (x < 0) = true := decide_eq_true hb.1
    have f1 : decide (((digs M).length : Int) > 0) = true := gt_t (by have := digs_length_pos.2 (Nat.pos_of_ne_zero hb.2); omega)
    obtain ⟨d1, d2⟩ := c3 hb.1 (by omega)
    have hs' : s = !decide (y < 0) := by rw [← hs, x1]; cases decide (y < 0) <;> rfl
    have k3 := Qbc s (Rw.row [1]) (by simp) (fun d hd => by simp at hd; omega)
    have v1 : val [1] = 1 := by simp [val]
    rw [v1] at k3
    have a1 : nd (sgn s (Q : Int)) ≤ 1000000000000 := by rw [nd, QhE]; exact Nat.le_trans hQl hxn
    have a2 : nd (sgn s 1) ≤ 1000000000000 := by
      have : nd (sgn s 1) ≤ 3 := Qgc (by cases s <;> simp [sgn])
      omega
    have k4 := QoD a1 a2
    have s1 : sgn s (Q : Int) + sgn s 1 = sgn s ((Q : Int) + 1) := by
      cases s
      · simp only [sgn, Bool.false_eq_true, if_false]
      · simp only [sgn, if_true]; omega
    rw [s1, hs', ← d1, ← hs'] at k4
    obtain ⟨o2, s1, s2, s3, s4⟩ := QgP (Rw.dg (digs y.natAbs)) (Rw.dg (digs M)) (Qan _) (Qan _) (by omega) hMl (by rw [QaA, QaA]; omega)
    rw [QaA, QaA] at s4
    have k5 := Qbc false (Rw.dg o2) (by omega) s3
    rw [Qav, s4, ← d2] at k5
    obtain ⟨z, hz⟩ : ∃ z, sgn s (Q : Int) = z := ⟨_, rfl⟩
    obtain ⟨X, hX⟩ : ∃ X, x / y = X := ⟨_, rfl⟩
    obtain ⟨Y, hY⟩ : ∃ Y, x % y = Y := ⟨_, rfl⟩
    rw [hz] at k1 k4
    rw [hX] at k4 ⊢
    rw [hY] at k5 ⊢
    simp only [rowI, List.map_cons, List.map_nil, List.length_cons, List.length_nil, encI, bv, iv, Nat.reduceAdd] at k1 k2 k3 k4 k5
    rw [x1] at hs
    simp -implicitDefEqProofs (maxSteps:=9^8) only [QcU, encI, go_sem, Qab, Qaa, iv, bv, e1, x1, hs, f1, td, ly, lm, fq, k1, k2, k3, k4, k5, s1, Qjp, toDs, Qbx, ne_eq, not_false_eq_true, reduceCtorEq, ↓reduceIte, Nat.reduceEqDiff]
  · have hr : x / y = sgn s (Q : Int) ∧ x % y = (M : Int) := by
      by_cases hx0 : x < 0
      · have hM : M = 0 := by
          rcases Nat.eq_zero_or_pos M with h | h
          · exact h
          · exact absurd ⟨hx0, by omega⟩ hb
        have x1 : decide (x < 0) = true := decide_eq_true hx0
        obtain ⟨d1, d2⟩ := c2 hx0 (by omega)
        refine ⟨?_, by rw [d2, hM]; rfl⟩
        rw [d1, ← hs, x1]; cases decide (y < 0) <;> rfl
      · have x1 : decide (x < 0) = false := decide_eq_false hx0
        obtain ⟨d1, d2⟩ := c1 hx0
        refine ⟨?_, d2⟩
        rw [d1, ← hs, x1]; cases decide (y < 0) <;> rfl
    rw [hr.1, hr.2, Qa5]
    obtain ⟨z, hz⟩ : ∃ z, sgn s (Q : Int) = z := ⟨_, rfl⟩
    rw [hz] at k1 ⊢
    simp only [encI, bv, iv] at k1 k2
    by_cases hx0 : x < 0
    · have x1 : decide (x < 0) = true := decide_eq_true hx0
      have f1 : decide (((digs M).length : Int) > 0) = false := by
        have : ¬ M ≠ 0 := fun h => hb ⟨hx0, h⟩
        have : M = 0 := by omega
        rw [this, Qau]; rfl
      rw [x1] at hs
      simp -implicitDefEqProofs (maxSteps:=9^8) only [QcU, encI, go_sem, Qab, Qaa, iv, bv, e1, x1, hs, f1, td, ly, lm, fq, k1, k2, toDs, Qbx, ne_eq, not_false_eq_true, reduceCtorEq, ↓reduceIte, Nat.reduceEqDiff]
    · have x1 : decide (x < 0) = false := decide_eq_false hx0
      rw [x1] at hs
      simp -implicitDefEqProofs (maxSteps:=9^8) only [QcU, encI, go_sem, Qab, Qaa, iv, bv, e1, x1, hs, td, ly, lm, fq, k1, k2, toDs, Qbx, ne_eq, not_false_eq_true, reduceCtorEq, ↓reduceIte, Nat.reduceEqDiff]
end Go.AM

/- ref04.Gcd -/
namespace Go.AM
open Go Go.RowKit
variable [Its]

def QrY (m n : Nat) : St := mkS [(4, .ptr [4] 0), (7, ai m), (8, ai n)] [([4], box0)]
def rg_en (m : Nat) : St := mkS [(4, .ptr [4] 0), (7, ai m)] [([4], box0)]
theorem rg_ints : ∀ (n m : Nat), m < 1000000000000000000 → n < 1000000000000000000 → X G (.loop Qcc) (QrY m n) = some (.x 2, rg_en (Nat.gcd m n)) := by
 intro n
 induction n using Nat.strongRecOn with
 | _ n ih =>
 intro m hm hn
 rw [Qak]
 by_cases h0 : n = 0
 ·subst h0
  have e1 : decide (((0 : Nat) : Int) > 0) = false := rfl
  rw [Nat.gcd_zero_right]
  simp -implicitDefEqProofs (maxSteps:=9^8) only [Qcc, QrY, rg_en, box0, go_sem, iv, bv, reduceCtorEq, ↓reduceIte, Nat.reduceEqDiff]
  rfl
 ·have e1 : decide ((n : Int) > 0) = true := gt_t (by omega)
  have e2 := Qjt (b := (n : Int)) (by omega)
  have e3 := Qdn (a := (m : Int)) (b := (n : Int)) (by omega)
  have e4 : (m : Int) % (n : Int) = ((m % n : Nat) : Int) := rfl
  have hlt : m % n < n := Nat.mod_lt _ (by omega)
  have hx : X G Qcc (QrY m n) = some (.n, QrY n (m % n)) := by
   simp -implicitDefEqProofs (maxSteps:=9^8) only [Qcc, QrY, rg_en, box0, go_sem, iv, bv, e1, e2, e3, e4, reduceCtorEq, ↓reduceIte, Nat.reduceEqDiff]
  rw [hx, Option.bind_some, if_pos rfl, ih (m % n) hlt n hn (by omega), QkC]

theorem rg_loop : ∀ (b a : Nat), (digs a).length ≤ 1000000000000 → (digs b).length ≤ 999999999999 →
    X G (.loop Qa4) (Qf0 a b) = some (.x 0, QrV (Nat.gcd a b)) ∨ X G (.loop Qa4) (Qf0 a b) = some (.r, Qhx (Nat.gcd a b)) := by
  intro b
  induction b using Nat.strongRecOn with
  | _ b ih =>
  intro a ha hb
  have la := QaJ (digs a)
  have lb := QaJ (digs b)
  by_cases h0 : b = 0
  · subst h0
    have e1 : decide (((digs 0).length : Int) > 0) = false := by rw [Qau]; rfl
    refine .inl ?_
    rw [Nat.gcd_zero_right, Qak]
    simp -implicitDefEqProofs (maxSteps:=9^8) only [Qa4, Qf0, QrV, box0, boxI, go_sem, Qab, Qaa, iv, bv, e1, la, lb, reduceCtorEq, ↓reduceIte, Nat.reduceEqDiff]
  · have e1 : decide (((digs b).length : Int) > 0) = true := gt_t (by have := digs_length_pos.2 (Nat.pos_of_ne_zero h0); omega)
    by_cases h1 : (digs a).length ≤ 2 ∧ (digs b).length ≤ 2
    · have t1 := Qi2 (Rw.dg (digs a)) (Qan a) h1.1
      have t2 := Qi2 (Rw.dg (digs b)) (Qan b) h1.2
      rw [QaA] at t1 t2
      simp only [iv, bv] at t1 t2
      have d1 : decide (((digs a).length : Int) ≤ 2) = true := le_t (by omega)
      have d2 : decide (((digs b).length : Int) ≤ 2) = true := le_t (by omega)
      have s1 := Qem h1.1
      have s2 := Qem h1.2
      have g1 := rg_ints b a s1 s2
      have hg : Nat.gcd a b ≤ b := Nat.gcd_le_right _ (Nat.pos_of_ne_zero h0)
      have u1 := QgS (n := ((Nat.gcd a b : Nat) : Int)) ⟨by omega, by omega⟩
      rw [Qa5] at u1
      simp only [QrY, rg_en, box0, go_sem] at g1
      simp only [iv] at u1
      refine .inr ?_
      rw [Qak]
      simp -implicitDefEqProofs (maxSteps:=9^8) only [Qa4, Qf0, Qhx, box0, boxI, go_sem, Qab, Qaa, iv, bv, e1, la, lb, d1, d2, t1, t2, g1, u1, reduceCtorEq, ↓reduceIte, Nat.reduceEqDiff]
    · have td := Qll (x := (a : Int)) (y := (b : Int)) (by omega) (by rw [Qh2]; exact ha) (by rw [Qh2]; exact hb)
      have e3 : (a : Int) / (b : Int) = ((a / b : Nat) : Int) := rfl
      have e4 : (a : Int) % (b : Int) = ((a % b : Nat) : Int) := rfl
      rw [e3, e4, Qa5, Qa5, Qa5, Qa5] at td
      have hlt : a % b < b := Nat.mod_lt _ (Nat.pos_of_ne_zero h0)
      have hx : X G Qa4 (Qf0 a b) = some (.n, Qf0 b (a % b)) := by
        by_cases h2 : (digs a).length ≤ 2
        · have h3 : ¬ (digs b).length ≤ 2 := fun h => h1 ⟨h2, h⟩
          have d1 : decide (((digs a).length : Int) ≤ 2) = true := le_t (by omega)
          have d2 : decide (((digs b).length : Int) ≤ 2) = false := le_f (by omega)
          simp -implicitDefEqProofs (maxSteps:=9^8) only [Qa4, Qf0, Qhx, box0, boxI, go_sem, Qab, Qaa, iv, bv, e1, la, lb, d1, d2, td, Qbx, ne_eq, not_false_eq_true, reduceCtorEq, ↓reduceIte, Nat.reduceEqDiff]
        · have d1 : decide (((digs a).length : Int) ≤ 2) = false := le_f (by omega)
          simp -implicitDefEqProofs (maxSteps:=9^8) only [Qa4, Qf0, Qhx, box0, boxI, go_sem, Qab, Qaa, iv, bv, e1, la, lb, d1, td, Qbx, ne_eq, not_false_eq_true, reduceCtorEq, ↓reduceIte, Nat.reduceEqDiff]
      have hr := ih (a % b) hlt b (by omega) (Nat.le_trans (Qbb (Nat.le_of_lt hlt)) hb)
      rw [QkC] at hr
      rw [Qak, hx]
      exact hr

theorem rGcd_spec {x y : Int} (hx : nd x ≤ 1000000000000) (hy : nd y ≤ 999999999999) : Qah G Qgn [encI x, encI y] = some (.d (encI (Int.gcd x y : Nat))) := by
 rw [Qad (cf := QdS) rfl]
 have hxn : (digs x.natAbs).length ≤ 1000000000000 := hx
 have hyn : (digs y.natAbs).length ≤ 999999999999 := hy
 have o1 := Qbc false (Rw.dg (digs x.natAbs)) (by omega) (Qan _)
 have o2 := Qbc false (Rw.dg (digs y.natAbs)) (by omega) (Qan _)
 rw [Qav, QaA, Qa5] at o1 o2
 simp only [bv] at o1 o2
 rw [Qa5]
 have e : Int.gcd x y = Nat.gcd x.natAbs y.natAbs := rfl
 rw [e]
 rcases rg_loop y.natAbs x.natAbs hxn hyn with g | g
 ·simp only [Qf0, QrV, box0, boxI, go_sem] at g
  simp -implicitDefEqProofs (maxSteps:=9^8) only [QdS, encI, go_sem, Qab, Qaa, iv, bv, o1, o2, g, reduceCtorEq, ↓reduceIte, Nat.reduceEqDiff]
 ·simp only [Qf0, Qhx, box0, boxI, go_sem] at g
  simp -implicitDefEqProofs (maxSteps:=9^8) only [QdS, encI, go_sem, Qab, Qaa, iv, bv, o1, o2, g, reduceCtorEq, ↓reduceIte, Nat.reduceEqDiff]
end Go.AM

/- Rationals as the program holds them; rat.unit, one, lowest, Make, Of, Den -/
namespace Go.AM
open Go Go.RowKit

def dd (d : Nat) : List Int := if d = 1 then [] else digs d
def encR (q : Rat) : D := .agg [.v (.bool (decide (q.num < 0))), dg (digs q.num.natAbs), .v (.bool false), dg (dd q.den)]
def sz (q : Rat) : Nat := max (nd q.num) (nd (q.den : Int))
theorem Qcz {q : Rat} {n : Nat} (h : sz q ≤ n) : nd q.num ≤ n := Nat.le_trans (Nat.le_max_left _ _) h
theorem QcH {q : Rat} {n : Nat} (h : sz q ≤ n) : nd (q.den : Int) ≤ n := Nat.le_trans (Nat.le_max_right _ _) h
theorem sz_le {q : Rat} {n : Nat} (h1 : nd q.num ≤ n) (h2 : nd (q.den : Int) ≤ n) : sz q ≤ n := Nat.max_le.2 ⟨h1, h2⟩

theorem dd_one : dd 1 = [] := rfl
theorem Qjw {d : Nat} (h : d ≠ 1) : dd d = digs d := if_neg h
theorem Qnl : digs 1 = [1] := by
 rw [QdD (by omega)]
 have e1 : (1 : Nat) % 1000000000 = 1 := by decide
 have e2 : (1 : Nat) / 1000000000 = 0 := by decide
 rw [e1, e2, Qau]; rfl
theorem Qff : encR 0 = .agg [.v (.bool false), .z true, .v (.bool false), .z true] := by
 have e : digs (0 : Rat).num.natAbs = [] := Qau
 rw [encR, e]; rfl
theorem QhK {n d : Int} (h : d ≠ 0) : 0 < Int.gcd n d := Int.gcd_pos_of_ne_zero_right n h
theorem num_low {n d : Int} (hd : 0 < d) (hc : Int.gcd n d = 1) : (Rat.divInt n d).num = n ∧ ((Rat.divInt n d).den : Int) = d := by
 have e : Int.gcd d n = 1 := by rw [Int.gcd_comm]; exact hc
 constructor
 ·rw [Rat.num_divInt, e, Int.sign_eq_one_of_pos hd]; simp
 ·rw [Rat.den_divInt, e, if_neg (by omega)]; simp; omega
theorem Qkq {n d : Int} (hd : 0 < d) (hc : Int.gcd n d = 1) : encR (Rat.divInt n d) = .agg [.v (.bool (decide (n < 0))), dg (digs n.natAbs), .v (.bool false), dg (dd d.natAbs)] := by
 obtain ⟨e1, e2⟩ := num_low hd hc
 have e3 : (Rat.divInt n d).den = d.natAbs := by omega
 rw [encR, e1, e3]
theorem ixa0 (hp : Hp) {l : List Int} (h : l ≠ []) : ixaA hp 1 0 (.d (dg l)) = some (.d (.rp (l.map iv))) := by
 have h0 : 0 < l.length := List.length_pos_iff.2 h
 exact (Rw.dg l).ixa (j := 0) (by omega) (by omega) hp
theorem ld0 (hp : Hp) {l : List Int} (h : l ≠ []) : Qcj hp none (.d (.rp (l.map iv))) = some (.d (.v (.int .i64 (l.getD 0 0)))) := by
 have h0 : 0 < l.length := List.length_pos_iff.2 h
 exact ldv hp l (j := 0) h0
theorem len_one {n : Nat} (h : (digs n).length = 1) : (digs n).getD 0 0 = (n : Int) := by
 have hv := QaA n
 match hd : digs n, h with
 | [v], _ => rw [hd] at hv; simpa [val] using hv
variable [Its]

theorem Qlj (x : Int) (hx : nd x ≤ 1000000000000) : Qah G Qjq [encI x] = some (.d (bv (decide (x = 1)))) := by
 rw [Qad (cf := Qi0) rfl]
 have lx := QaJ (digs x.natAbs)
 by_cases h : x < 0
 ·have x1 : decide (x < 0) = true := decide_eq_true h
  have x2 : decide (x = 1) = false := decide_eq_false (by omega)
  simp -implicitDefEqProofs (maxSteps:=9^8) only [Qi0, encI, go_sem, Qab, Qaa, iv, bv, lx, x1, x2, reduceCtorEq, ↓reduceIte, Nat.reduceEqDiff]
 ·have x1 : decide (x < 0) = false := decide_eq_false h
  by_cases hl : (digs x.natAbs).length = 1
  ·have x3 : (((digs x.natAbs).length : Int) == 1) = true := QiL (by omega)
   have hne : digs x.natAbs ≠ [] := by intro h; rw [h] at hl; cases hl
   have x4 := fun hp => ixa0 hp hne
   have x5 := fun hp => ld0 hp hne
   rw [len_one hl] at x5
   have x2 : (((x.natAbs : Nat) : Int) == 1) = decide (x = 1) := by
    by_cases h1 : x = 1
    ·rw [decide_eq_true h1]; exact QiL (by omega)
    ·rw [decide_eq_false h1]; exact Qco (by omega)
   simp -implicitDefEqProofs (maxSteps:=9^8) only [Qi0, encI, go_sem, Qab, Qaa, iv, bv, lx, x1, x2, x3, x4, x5, reduceCtorEq, ↓reduceIte, Nat.reduceEqDiff]
  ·have x3 : (((digs x.natAbs).length : Int) == 1) = false := Qco (by omega)
   have x2 : decide (x = 1) = false := decide_eq_false (by
    intro h1; subst h1
    exact hl (by rw [show (1 : Int).natAbs = 1 from rfl, Qnl]; rfl))
   simp -implicitDefEqProofs (maxSteps:=9^8) only [Qi0, encI, go_sem, Qab, Qaa, iv, bv, lx, x1, x2, x3, reduceCtorEq, ↓reduceIte, Nat.reduceEqDiff]

theorem QoK (x : Int) (hx : nd x ≤ 1000000000000) (h0 : 0 < x) : Qah G Qgq [encI x] = some (.d (bv (decide (x = 1)))) := by
 rw [Qad (cf := QdH) rfl]
 have lx := QaJ (digs x.natAbs)
 have x1 : decide (x < 0) = false := decide_eq_false (by omega)
 by_cases hl : (digs x.natAbs).length = 1
 ·have x3 : (((digs x.natAbs).length : Int) != 1) = false := by rw [bne, QiL (by omega)]; rfl
  have hne : digs x.natAbs ≠ [] := by intro h; rw [h] at hl; cases hl
  have x4 := fun hp => ixa0 hp hne
  have x5 := fun hp => ld0 hp hne
  rw [len_one hl] at x5
  have x2 : (((x.natAbs : Nat) : Int) == 1) = decide (x = 1) := by
   by_cases h1 : x = 1
   ·rw [decide_eq_true h1]; exact QiL (by omega)
   ·rw [decide_eq_false h1]; exact Qco (by omega)
  simp -implicitDefEqProofs (maxSteps:=9^8) only [QdH, encI, go_sem, Qab, Qaa, iv, bv, lx, x1, x2, x3, x4, x5, reduceCtorEq, ↓reduceIte, Nat.reduceEqDiff]
 ·have x3 : (((digs x.natAbs).length : Int) != 1) = true := by rw [bne, Qco (by omega)]; rfl
  have x2 : decide (x = 1) = false := decide_eq_false (by
   intro h1; subst h1
   exact hl (by rw [show (1 : Int).natAbs = 1 from rfl, Qnl]; rfl))
  simp -implicitDefEqProofs (maxSteps:=9^8) only [QdH, encI, go_sem, Qab, Qaa, iv, bv, lx, x1, x2, x3, reduceCtorEq, ↓reduceIte, Nat.reduceEqDiff]

theorem one_spec : Qah G QnN [] = some (.d (encI 1)) := by
 rw [Qad (cf := QoU) rfl]
 have g := Qk1 (n := 1) ⟨by omega, by omega⟩
 simp only [iv, encI, bv] at g
 simp -implicitDefEqProofs (maxSteps:=9^8) only [QoU, encI, go_sem, Qab, Qaa, iv, bv, g, reduceCtorEq, ↓reduceIte, Nat.reduceEqDiff]

theorem Qe3 (q : Rat) : Qah G Qdf [encR q] = some (.d (encI (q.den : Int))) := by
 rw [Qad (cf := QmQ) rfl]
 have ld := QaJ (dd q.den)
 by_cases h : q.den = 1
 ·have e1 : (((dd q.den).length : Int) == 0) = true := by rw [h]; rfl
  have g := one_spec
  rw [h]
  rw [h] at ld e1
  have e2 : ((1 : Nat) : Int) = 1 := rfl
  rw [e2]
  simp only [encI, bv] at g
  simp -implicitDefEqProofs (maxSteps:=9^8) only [QmQ, encI, encR, h, go_sem, Qab, Qaa, iv, bv, ld, e1, g, reduceCtorEq, ↓reduceIte, Nat.reduceEqDiff]
 ·rw [Qjw h] at ld
  have e1 : (((digs q.den).length : Int) == 0) = false := Qco (by have := digs_length_pos.2 q.den_pos; omega)
  rw [Qa5]
  simp -implicitDefEqProofs (maxSteps:=9^8) only [QmQ, encI, encR, Qjw h, go_sem, Qab, Qaa, iv, bv, ld, e1, reduceCtorEq, ↓reduceIte, Nat.reduceEqDiff]

theorem Qgp (q : Rat) : Qah G QaY [encR q] = some (.d (encI (q.den : Int))) := by
 rw [Qad (cf := QdO) rfl]
 have ld := QaJ (dd q.den)
 by_cases h : q.den = 1
 ·have e1 : (((dd q.den).length : Int) == 0) = true := by rw [h]; rfl
  have g := QgS (n := 1) ⟨by omega, by omega⟩
  rw [h]
  rw [h] at ld e1
  have e2 : ((1 : Nat) : Int) = 1 := rfl
  rw [e2]
  simp only [encI, bv, iv] at g
  simp -implicitDefEqProofs (maxSteps:=9^8) only [QdO, encI, encR, h, go_sem, Qab, Qaa, iv, bv, ld, e1, g, reduceCtorEq, ↓reduceIte, Nat.reduceEqDiff]
 ·rw [Qjw h] at ld
  have e1 : (((digs q.den).length : Int) == 0) = false := Qco (by have := digs_length_pos.2 q.den_pos; omega)
  rw [Qa5]
  simp -implicitDefEqProofs (maxSteps:=9^8) only [QdO, encI, encR, Qjw h, go_sem, Qab, Qaa, iv, bv, ld, e1, reduceCtorEq, ↓reduceIte, Nat.reduceEqDiff]
end Go.AM

/- rat.lowest, Make, Of; ref05.Make, Of -/
namespace Go.AM
open Go Go.RowKit

theorem lenz {x : Int} (h : x = 0) : (((digs x.natAbs).length : Int) == 0) = true := by subst h; exact QiL (by rw [show (0 : Int).natAbs = 0 from rfl, Qau]; rfl)
theorem Qmz {x : Int} (h : x ≠ 0) : (((digs x.natAbs).length : Int) == 0) = false := Qco (by have := digs_length_pos.2 (show 0 < x.natAbs by omega); omega)
theorem gcd_ediv {n d : Int} (hd : d ≠ 0) : Int.gcd (n / (Int.gcd n d : Nat)) (d / (Int.gcd n d : Nat)) = 1 := by
 have hg : 0 < Int.gcd n d := QhK hd
 rw [Int.gcd_ediv (Int.gcd_dvd_left n d) (Int.gcd_dvd_right n d)]
 simp only [Int.natAbs_natCast]
 exact Nat.div_self hg
theorem Qlo {n d : Int} (hd : d ≠ 0) : Rat.divInt (n / (Int.gcd n d : Nat)) (d / (Int.gcd n d : Nat)) = Rat.divInt n d := by
 have hg : 0 < Int.gcd n d := QhK hd
 have h1 := Int.ediv_mul_cancel (Int.gcd_dvd_left n d)
 have h2 := Int.ediv_mul_cancel (Int.gcd_dvd_right n d)
 have := Rat.divInt_mul_right (a := (Int.gcd n d : Nat)) (n := n / (Int.gcd n d : Nat)) (d := d / (Int.gcd n d : Nat)) (by omega)
 rw [h1, h2] at this
 exact this.symm
theorem ediv_ne {n d : Int} (hd : d ≠ 0) : d / (Int.gcd n d : Nat) ≠ 0 := by
 intro h
 have h2 := Int.ediv_mul_cancel (Int.gcd_dvd_right n d)
 rw [h, Int.zero_mul] at h2
 exact hd h2.symm
theorem Qo2 {n : Int} {g : Nat} : nd (n / (g : Int)) ≤ nd n := QjE (by
 rcases Nat.eq_zero_or_pos g with h | h
 ·subst h; simp
 ·exact Int.natAbs_ediv_le_natAbs _ _)
variable [Its]

theorem QgN {n d : Int} (hd : d ≠ 0) (hc : Int.gcd n d = 1) (hdn : nd d ≤ 1000000000000) : Qah G QfN [encI n, encI d] = some (.d (encR (Rat.divInt n d))) := by
 rw [Qad (cf := Qe5) rfl]
 by_cases h : d < 0
 ·have x1 : decide (d < 0) = true := decide_eq_true h
  have g1 := Qmu n
  have g2 := Qmu d
  have g3 := Qlj (-d) (by rw [nd_neg]; exact hdn)
  have e := Qkq (n := -n) (d := -d) (by omega) (by rw [Int.gcd_neg, Int.neg_gcd]; exact hc)
  rw [Rat.neg_divInt_neg] at e
  rw [e]
  clear e
  generalize -n = N at *
  obtain ⟨D, hD⟩ : ∃ D, -d = D := ⟨_, rfl⟩
  rw [hD] at g2 g3 ⊢
  simp only [encI, bv, iv] at g1 g2 g3
  rw [x1] at g2
  by_cases h1 : D = 1
  ·rw [decide_eq_true h1] at g3
   have f1 : dg (dd D.natAbs) = .z true := by subst h1; rfl
   simp -implicitDefEqProofs (maxSteps:=9^8) only [Qe5, encI, go_sem, Qab, Qaa, iv, bv, x1, g1, g2, g3, f1, reduceCtorEq, ↓reduceIte, Nat.reduceEqDiff]
  ·rw [decide_eq_false h1] at g3
   have f1 : dd D.natAbs = digs D.natAbs := Qjw (by omega)
   have f2 : decide (D < 0) = false := decide_eq_false (by omega)
   rw [f2] at g2 g3
   simp -implicitDefEqProofs (maxSteps:=9^8) only [Qe5, encI, go_sem, Qab, Qaa, iv, bv, x1, g1, g2, g3, f1, f2, reduceCtorEq, ↓reduceIte, Nat.reduceEqDiff]
 ·have x1 : decide (d < 0) = false := decide_eq_false h
  have g3 := Qlj d hdn
  rw [Qkq (n := n) (d := d) (by omega) hc]
  simp only [encI, bv, iv] at g3
  rw [x1] at g3
  by_cases h1 : d = 1
  ·rw [decide_eq_true h1] at g3
   have f1 : dg (dd d.natAbs) = .z true := by subst h1; rfl
   simp -implicitDefEqProofs (maxSteps:=9^8) only [Qe5, encI, go_sem, Qab, Qaa, iv, bv, x1, g3, f1, reduceCtorEq, ↓reduceIte, Nat.reduceEqDiff]
  ·rw [decide_eq_false h1] at g3
   have f1 : dd d.natAbs = digs d.natAbs := Qjw (by omega)
   simp -implicitDefEqProofs (maxSteps:=9^8) only [Qe5, encI, go_sem, Qab, Qaa, iv, bv, x1, g3, f1, reduceCtorEq, ↓reduceIte, Nat.reduceEqDiff]

theorem Qis {n d : Int} (hn : nd n ≤ 1000000000000) (hdn : nd d ≤ 1000000000000) : Qah G Qgh [encI n, encI d] = some (.d (encR (Rat.divInt n d))) := by
 rw [Qad (cf := QhG) rfl]
 have ln := QaJ (digs n.natAbs)
 have ld := QaJ (digs d.natAbs)
 by_cases hd : d = 0
 ·have f1 := lenz hd
  have e : Rat.divInt n d = 0 := by rw [hd, Rat.divInt_zero]
  rw [e, Qff]
  simp -implicitDefEqProofs (maxSteps:=9^8) only [QhG, encI, go_sem, Qab, Qaa, iv, bv, ln, ld, f1, reduceCtorEq, ↓reduceIte, Nat.reduceEqDiff]
 have f1 := Qmz hd
 by_cases hn0 : n = 0
 ·have f2 := lenz hn0
  have e : Rat.divInt n d = 0 := by rw [hn0, Rat.zero_divInt]
  rw [e, Qff]
  simp -implicitDefEqProofs (maxSteps:=9^8) only [QhG, encI, go_sem, Qab, Qaa, iv, bv, ln, ld, f1, f2, reduceCtorEq, ↓reduceIte, Nat.reduceEqDiff]
 have f2 := Qmz hn0
 have g1 := Gcd_spec hn hdn
 have hg : 0 < Int.gcd n d := QhK hd
 have hgn : nd ((Int.gcd n d : Nat) : Int) ≤ 1000000000000 := by
  refine Nat.le_trans (QjE ?_) hdn
  rw [Int.natAbs_natCast]
  exact Nat.le_of_dvd (by omega) (Int.gcd_dvd_natAbs_right n d)
 have g2 := Qlj _ hgn
 by_cases h1 : Int.gcd n d = 1
 ·have g3 := QgN hd h1 hdn
  rw [decide_eq_true (show ((Int.gcd n d : Nat) : Int) = 1 by omega)] at g2
  rw [Qa5] at g1 g2
  simp only [encI, encR, bv, iv] at g1 g2 g3
  simp -implicitDefEqProofs (maxSteps:=9^8) only [QhG, encI, encR, go_sem, Qab, Qaa, iv, bv, ln, ld, f1, f2, g1, g2, g3, reduceCtorEq, ↓reduceIte, Nat.reduceEqDiff]
 ·rw [decide_eq_false (show ¬ ((Int.gcd n d : Nat) : Int) = 1 by omega)] at g2
  have g3 := QgN (n := n / (Int.gcd n d : Nat)) (d := d / (Int.gcd n d : Nat)) (ediv_ne hd) (gcd_ediv hd) (Nat.le_trans Qo2 hdn)
  have g4 := Qre (x := n) (y := (Int.gcd n d : Nat)) (by omega) hn hgn
  have g5 := Qre (x := d) (y := (Int.gcd n d : Nat)) (by omega) hdn hgn
  rw [Qlo hd] at g3
  rw [Qa5] at g1 g2 g4 g5
  generalize n / (Int.gcd n d : Nat) = N at *
  generalize d / (Int.gcd n d : Nat) = D at *
  generalize n % (Int.gcd n d : Nat) = M1 at *
  generalize d % (Int.gcd n d : Nat) = M2 at *
  simp only [encI, encR, bv, iv] at g1 g2 g3 g4 g5
  simp -implicitDefEqProofs (maxSteps:=9^8) only [QhG, encI, encR, go_sem, Qab, Qaa, iv, bv, ln, ld, f1, f2, g1, g2, g3, g4, g5, Qbx, ne_eq, not_false_eq_true, reduceCtorEq, ↓reduceIte, Nat.reduceEqDiff]

theorem Qea {n d : Int} (hn : I64 n) (hd : I64 d) : Qah G QfL [iv n, iv d] = some (.d (encR (Rat.divInt n d))) := by
 rw [Qad (cf := rat_Of) rfl]
 have g1 := Qk1 hn
 have g2 := Qk1 hd
 have g3 := Qis (n := n) (d := d) (Nat.le_trans (Qgc hn) (by omega)) (Nat.le_trans (Qgc hd) (by omega))
 simp only [encI, encR, bv, iv] at g1 g2 g3
 simp -implicitDefEqProofs (maxSteps:=9^8) only [rat_Of, encI, encR, go_sem, Qab, Qaa, iv, bv, g1, g2, g3, reduceCtorEq, ↓reduceIte, Nat.reduceEqDiff]

theorem QjL {n d : Int} (hn : nd n ≤ 1000000000000) (hdn : nd d ≤ 999999999999) : Qah G QcI [encI n, encI d] = some (.d (encR (Rat.divInt n d))) := by
 rw [Qad (cf := Qbw) rfl]
 have ln := QaJ (digs n.natAbs)
 have ld := QaJ (digs d.natAbs)
 by_cases hd : d = 0
 ·have f1 := lenz hd
  have e : Rat.divInt n d = 0 := by rw [hd, Rat.divInt_zero]
  rw [e, Qff]
  simp -implicitDefEqProofs (maxSteps:=9^8) only [Qbw, encI, go_sem, Qab, Qaa, iv, bv, ln, ld, f1, reduceCtorEq, ↓reduceIte, Nat.reduceEqDiff]
 have f1 := Qmz hd
 by_cases hn0 : n = 0
 ·have f2 := lenz hn0
  have e : Rat.divInt n d = 0 := by rw [hn0, Rat.zero_divInt]
  rw [e, Qff]
  simp -implicitDefEqProofs (maxSteps:=9^8) only [Qbw, encI, go_sem, Qab, Qaa, iv, bv, ln, ld, f1, f2, reduceCtorEq, ↓reduceIte, Nat.reduceEqDiff]
 have f2 := Qmz hn0
 have g1 := rGcd_spec hn hdn
 have hg : 0 < Int.gcd n d := QhK hd
 have hgn : nd ((Int.gcd n d : Nat) : Int) ≤ 999999999999 := by
  refine Nat.le_trans (QjE ?_) hdn
  rw [Int.natAbs_natCast]
  exact Nat.le_of_dvd (by omega) (Int.gcd_dvd_natAbs_right n d)
 have g4 := Qll (x := n) (y := (Int.gcd n d : Nat)) (by omega) hn hgn
 have g5 := Qll (x := d) (y := (Int.gcd n d : Nat)) (by omega) (by omega) hgn
 have hD := ediv_ne (n := n) hd
 have hc := gcd_ediv (n := n) hd
 have hDn := Nat.le_trans (Qo2 (n := d) (g := Int.gcd n d)) hdn
 have hNn := Nat.le_trans (Qo2 (n := n) (g := Int.gcd n d)) hn
 rw [← Qlo hd]
 rw [Qa5] at g1 g4 g5
 generalize n / (Int.gcd n d : Nat) = N at *
 generalize d / (Int.gcd n d : Nat) = D at *
 generalize n % (Int.gcd n d : Nat) = M1 at *
 generalize d % (Int.gcd n d : Nat) = M2 at *
 by_cases h : D < 0
 ·have x1 : decide (D < 0) = true := decide_eq_true h
  have g6 := QkW (x := N) hNn
  have g7 := QkW (x := D) (by omega)
  have g3 := QoK (-D) (by rw [nd_neg]; omega) (by omega)
  have e := Qkq (n := -N) (d := -D) (by omega) (by rw [Int.gcd_neg, Int.neg_gcd]; exact hc)
  rw [Rat.neg_divInt_neg] at e
  rw [e]
  clear e
  have hpos : 0 < -D := by omega
  generalize -N = N2 at *
  obtain ⟨D2, hD2⟩ : ∃ D2, -D = D2 := ⟨_, rfl⟩
  rw [hD2] at g7 g3 hpos ⊢
  simp only [encI, bv, iv] at g1 g3 g4 g5 g6 g7
  rw [x1] at g5 g7
  by_cases h1 : D2 = 1
  ·rw [decide_eq_true h1] at g3
   have f3 : dg (dd D2.natAbs) = .z true := by subst h1; rfl
   simp -implicitDefEqProofs (maxSteps:=9^8) only [Qbw, encI, go_sem, Qab, Qaa, iv, bv, ln, ld, f1, f2, x1, g1, g4, g5, g6, g7, g3, f3, Qbx, ne_eq, not_false_eq_true, reduceCtorEq, ↓reduceIte, Nat.reduceEqDiff]
  ·rw [decide_eq_false h1] at g3
   have f3 : dd D2.natAbs = digs D2.natAbs := Qjw (by omega)
   have f4 : decide (D2 < 0) = false := decide_eq_false (by omega)
   rw [f4] at g3 g7
   simp -implicitDefEqProofs (maxSteps:=9^8) only [Qbw, encI, go_sem, Qab, Qaa, iv, bv, ln, ld, f1, f2, x1, g1, g4, g5, g6, g7, g3, f3, f4, Qbx, ne_eq, not_false_eq_true, reduceCtorEq, ↓reduceIte, Nat.reduceEqDiff]
 ·have x1 : decide (D < 0) = false := decide_eq_false h
  have g3 := QoK D (by omega) (by omega)
  rw [Qkq (n := N) (d := D) (by omega) hc]
  simp only [encI, bv, iv] at g1 g3 g4 g5
  rw [x1] at g3 g5
  by_cases h1 : D = 1
  ·rw [decide_eq_true h1] at g3
   have f3 : dg (dd D.natAbs) = .z true := by subst h1; rfl
   simp -implicitDefEqProofs (maxSteps:=9^8) only [Qbw, encI, go_sem, Qab, Qaa, iv, bv, ln, ld, f1, f2, x1, g1, g4, g5, g3, f3, Qbx, ne_eq, not_false_eq_true, reduceCtorEq, ↓reduceIte, Nat.reduceEqDiff]
  ·rw [decide_eq_false h1] at g3
   have f3 : dd D.natAbs = digs D.natAbs := Qjw (by omega)
   simp -implicitDefEqProofs (maxSteps:=9^8) only [Qbw, encI, go_sem, Qab, Qaa, iv, bv, ln, ld, f1, f2, x1, g1, g4, g5, g3, f3, Qbx, ne_eq, not_false_eq_true, reduceCtorEq, ↓reduceIte, Nat.reduceEqDiff]

theorem QgE {n d : Int} (hn : I64 n) (hd : I64 d) : Qah G Qba [iv n, iv d] = some (.d (encR (Rat.divInt n d))) := by
 rw [Qad (cf := Qf1) rfl]
 have g1 := QgS hn
 have g2 := QgS hd
 have g3 := QjL (n := n) (d := d) (Nat.le_trans (Qgc hn) (by omega)) (Nat.le_trans (Qgc hd) (by omega))
 simp only [encI, encR, bv, iv] at g1 g2 g3
 simp -implicitDefEqProofs (maxSteps:=9^8) only [Qf1, encI, encR, go_sem, Qab, Qaa, iv, bv, g1, g2, g3, reduceCtorEq, ↓reduceIte, Nat.reduceEqDiff]
end Go.AM

