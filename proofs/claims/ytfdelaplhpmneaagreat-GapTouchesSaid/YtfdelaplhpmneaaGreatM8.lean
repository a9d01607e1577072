/- Part 8 of the proof: a small machine, its soundness against the model, and what the program's functions compute on it. -/
import Derived.Test.YtfdelaplhpmneaaGreatM7
import Derived.Test.YtfdelaplhpmneaaGreatM5
set_option linter.unusedVariables false
set_option linter.unusedSimpArgs false
/- Laws of rationals for rat and ref05. -/
namespace Go.AM
open Go Go.RowKit

theorem QqG : nd 1 = 1 := by rw [nd, show (1 : Int).natAbs = 1 from rfl, Qni]; rfl
theorem nd_pos {n : Nat} (h : 0 < n) : 1 ≤ nd (n : Int) := digs_length_pos.2 h
theorem sz_one (q : Rat) : 1 ≤ sz q := Nat.le_trans (nd_pos q.den_pos) (Qc8 (Nat.le_refl _))
theorem nd_dvd {a b : Int} (h : a ∣ b) (hb : b ≠ 0) : nd a ≤ nd b := QgJ (Nat.le_of_dvd (by omega) (Int.natAbs_dvd_natAbs.2 h))
theorem Qji {n d : Int} (hd : d ≠ 0) : (Rat.divInt n d).num ∣ n ∧ ((Rat.divInt n d).den : Int) ∣ d := by
 obtain ⟨m, h1, h2, h3⟩ := Rat.divInt_num_den (n := n) (d := d) (n' := (Rat.divInt n d).num) (d' := (Rat.divInt n d).den) (z' := (Rat.divInt n d).den_nz) (c := (Rat.divInt n d).reduced) hd rfl
 exact ⟨⟨m, h2⟩, ⟨m, h3⟩⟩
theorem QeF {n d : Int} {k : Nat} (hk : 1 ≤ k) (hn : nd n ≤ k) (hd : nd d ≤ k) : sz (Rat.divInt n d) ≤ k := by
 by_cases h0 : d = 0
 ·subst h0
  rw [Rat.divInt_zero]
  exact sz_le (by rw [Rat.zero_num, Qlg]; omega) (by rw [Rat.zero_den]; exact Nat.le_trans (Nat.le_of_eq QqG) hk)
 ·obtain ⟨h1, h2⟩ := Qji (n := n) h0
  refine sz_le ?_ (Nat.le_trans (nd_dvd h2 h0) hd)
  by_cases hn0 : n = 0
  ·subst hn0
   rw [Rat.zero_divInt, Rat.zero_num, Qlg]; omega
  ·exact Nat.le_trans (nd_dvd h1 hn0) hn
theorem QjG (a b : Rat) : a + b = Rat.divInt (a.num * b.den + b.num * a.den) ((a.den : Int) * b.den) := by
 rw [Rat.add_def', ← Rat.divInt_ofNat, Int.natCast_mul]
theorem Qg9 (a b : Rat) : a * b = Rat.divInt (a.num * b.num) ((a.den : Int) * b.den) := by
 rw [Rat.mul_def', ← Rat.divInt_ofNat, Int.natCast_mul]
theorem Ql6 (a b : Rat) : a / b = Rat.divInt (a.num * b.den) ((a.den : Int) * b.num) := by
 rw [Rat.div_def, Rat.inv_def]
 conv => lhs; rw [← Rat.num_divInt_den a]
 rw [Rat.divInt_mul_divInt]
theorem Qk7 (b : Rat) : b⁻¹ = Rat.divInt b.den b.num := Rat.inv_def b
theorem Qlu {a b : Rat} : sz (a + b) ≤ sz a + sz b + 1 := by
 rw [QjG]
 have a1 := QcW (Nat.le_refl (sz a)); have a2 := Qc8 (Nat.le_refl (sz a))
 have b1 := QcW (Nat.le_refl (sz b)); have b2 := Qc8 (Nat.le_refl (sz b))
 have m1 := Qc9 (x := a.num) (y := b.den)
 have m2 := Qc9 (x := b.num) (y := a.den)
 have m3 := Qc9 (x := a.den) (y := b.den)
 exact QeF (by omega) (QkG (by omega) (by omega)) (by omega)
theorem Qe6 {a b : Rat} : sz (a * b) ≤ sz a + sz b := by
 rw [Qg9]
 have a1 := QcW (Nat.le_refl (sz a)); have a2 := Qc8 (Nat.le_refl (sz a))
 have b1 := QcW (Nat.le_refl (sz b)); have b2 := Qc8 (Nat.le_refl (sz b))
 have m1 := Qc9 (x := a.num) (y := b.num)
 have m3 := Qc9 (x := a.den) (y := b.den)
 have := sz_one a
 exact QeF (by omega) (by omega) (by omega)
theorem Qry {a b : Rat} : sz (a / b) ≤ sz a + sz b := by
 rw [Ql6]
 have a1 := QcW (Nat.le_refl (sz a)); have a2 := Qc8 (Nat.le_refl (sz a))
 have b1 := QcW (Nat.le_refl (sz b)); have b2 := Qc8 (Nat.le_refl (sz b))
 have m1 := Qc9 (x := a.num) (y := b.den)
 have m3 := Qc9 (x := a.den) (y := b.num)
 have := sz_one a
 exact QeF (by omega) (by omega) (by omega)
theorem Qq3 (a : Rat) : sz (-a) = sz a := by rw [sz, sz, Rat.neg_num, Rat.neg_den, nd_neg]
theorem sz_inv {b : Rat} : sz (b⁻¹) ≤ sz b := by
 rw [Qk7]
 exact QeF (sz_one b) (Qc8 (Nat.le_refl _)) (QcW (Nat.le_refl _))

theorem Qhd {a : Rat} (h : a.den = 1) : a = (a.num : Rat) := Rat.ext rfl h
theorem add_whole {a b : Rat} (ha : a.den = 1) (hb : b.den = 1) : (a + b).num = a.num + b.num ∧ (a + b).den = 1 := by
 have e : a + b = ((a.num + b.num : Int) : Rat) := by
  rw [Rat.intCast_add, ← Qhd ha, ← Qhd hb]
 rw [e]; exact ⟨rfl, rfl⟩
theorem mul_whole {a b : Rat} (ha : a.den = 1) (hb : b.den = 1) : (a * b).num = a.num * b.num ∧ (a * b).den = 1 := by
 have e : a * b = ((a.num * b.num : Int) : Rat) := by
  rw [Rat.intCast_mul, ← Qhd ha, ← Qhd hb]
 rw [e]; exact ⟨rfl, rfl⟩
theorem Qif {a : Rat} (h : a.num = 0) : a = 0 := Rat.num_eq_zero.1 h
theorem cross (a b : Rat) : Int.gcd ((Rat.divInt a.num b.den).num * (Rat.divInt b.num a.den).num) (((Rat.divInt a.num b.den).den : Int) * (Rat.divInt b.num a.den).den) = 1 := by
 have hp := (Rat.divInt a.num b.den).reduced
 have hq := (Rat.divInt b.num a.den).reduced
 obtain ⟨p1, p2⟩ := Qji (n := a.num) (d := b.den) (by have := b.den_pos; omega)
 obtain ⟨q1, q2⟩ := Qji (n := b.num) (d := a.den) (by have := a.den_pos; omega)
 generalize Rat.divInt a.num b.den = p at *
 generalize Rat.divInt b.num a.den = q at *
 have c1 : Nat.Coprime p.num.natAbs q.den := Nat.Coprime.coprime_dvd_left (Int.natAbs_dvd_natAbs.2 p1) (Nat.Coprime.coprime_dvd_right (Int.natCast_dvd_natCast.1 q2) a.reduced)
 have c2 : Nat.Coprime q.num.natAbs p.den := Nat.Coprime.coprime_dvd_left (Int.natAbs_dvd_natAbs.2 q1) (Nat.Coprime.coprime_dvd_right (Int.natCast_dvd_natCast.1 p2) b.reduced)
 have e : Nat.Coprime (p.num.natAbs * q.num.natAbs) (p.den * q.den) :=
  Nat.Coprime.mul_left (Nat.Coprime.mul_right hp c1) (Nat.Coprime.mul_right c2 hq)
 rw [Int.gcd, Int.natAbs_mul, Int.natAbs_mul, Int.natAbs_natCast, Int.natAbs_natCast]
 exact e
theorem cross_val (a b : Rat) : Rat.divInt ((Rat.divInt a.num b.den).num * (Rat.divInt b.num a.den).num) (((Rat.divInt a.num b.den).den : Int) * (Rat.divInt b.num a.den).den) = a * b := by
 rw [← Qg9, Rat.divInt_mul_divInt, Qg9, Int.mul_comm (b.den : Int)]

def cmpR (a b : Rat) : Int := Int.sign (a.num * b.den - b.num * a.den)
theorem QjR {x y : Int} (h : 0 < y) : Int.sign (x * y) = Int.sign x := by rw [Int.sign_mul, Int.sign_eq_one_of_pos h, Int.mul_one]
theorem Qsl {a b : Rat} (h : Int.sign a.num ≠ Int.sign b.num ∨ Int.sign a.num = 0) : Int.sign (Int.sign a.num - Int.sign b.num) = cmpR a b := by
 have hb : (0 : Int) < b.den := by have := b.den_pos; omega
 have ha : (0 : Int) < a.den := by have := a.den_pos; omega
 have e1 := QjR (x := a.num) hb
 have e2 := QjR (x := b.num) ha
 rw [cmpR]
 rw [← e1, ← e2] at h ⊢
 generalize a.num * (b.den : Int) = X at *
 generalize b.num * (a.den : Int) = Y at *
 rcases Int.lt_trichotomy X 0 with hx | hx | hx <;> rcases Int.lt_trichotomy Y 0 with hy | hy | hy
 ·rw [Int.sign_eq_neg_one_of_neg hx, Int.sign_eq_neg_one_of_neg hy] at h; omega
 ·rw [Int.sign_eq_neg_one_of_neg hx, hy, Int.sign_eq_neg_one_of_neg (show X - 0 < 0 by omega)]; rfl
 ·rw [Int.sign_eq_neg_one_of_neg hx, Int.sign_eq_one_of_pos hy, Int.sign_eq_neg_one_of_neg (show X - Y < 0 by omega)]; rfl
 ·rw [hx, Int.sign_eq_neg_one_of_neg hy, Int.sign_eq_one_of_pos (show 0 < 0 - Y by omega)]; rfl
 ·rw [hx, hy]; rfl
 ·rw [hx, Int.sign_eq_one_of_pos hy, Int.sign_eq_neg_one_of_neg (show 0 - Y < 0 by omega)]; rfl
 ·rw [Int.sign_eq_one_of_pos hx, Int.sign_eq_neg_one_of_neg hy, Int.sign_eq_one_of_pos (show 0 < X - Y by omega)]; rfl
 ·rw [Int.sign_eq_one_of_pos hx, hy, Int.sign_eq_one_of_pos (show 0 < X - 0 by omega)]; rfl
 ·rw [Int.sign_eq_one_of_pos hx, Int.sign_eq_one_of_pos hy] at h; omega
theorem cmpR_lt {a b : Rat} : cmpR a b < 0 ↔ a < b := by
 rw [Rat.lt_iff, cmpR, Int.sign_neg_iff]; omega
theorem cmpR_le {a b : Rat} : cmpR a b ≤ 0 ↔ a ≤ b := by
 rw [Rat.le_iff, cmpR]
 rcases Int.lt_trichotomy (a.num * b.den - b.num * a.den) 0 with h | h | h
 ·rw [Int.sign_eq_neg_one_of_neg h]; omega
 ·rw [h]; simp; omega
 ·rw [Int.sign_eq_one_of_pos h]; omega
end Go.AM

/- rat.Neg, Sign, Add, Sub, Mul, Div, Compare -/
namespace Go.AM
open Go Go.RowKit

theorem dden {a : Rat} (h : a.den = 1) : dg (dd a.den) = .z true := by rw [h]; rfl
theorem Qc5 (a : Rat) : encI (a.den : Int) = .agg [.v (.bool false), dg (digs a.den)] := Qbr a.den
theorem QoB {a : Rat} (h : a.den = 1) : (((dd a.den).length : Int) == 0) = true := by rw [h]; rfl
theorem Qou {a : Rat} (h : a.den ≠ 1) : (((dd a.den).length : Int) == 0) = false := by
 rw [QjE h]; exact QdJ (by have := digs_length_pos.2 a.den_pos; omega)
variable [Its]

theorem Qlc (a : Rat) : Qaj G Qli [encR a] = some (.d (encR (-a))) := by
 rw [Qae (cf := rat_Neg) rfl]
 have g := Qna a.num
 have e : encR (-a) = .agg [.v (.bool (decide (-a.num < 0))), dg (digs (-a.num).natAbs), .v (.bool false), dg (dd a.den)] := rfl
 rw [e]
 clear e
 generalize -a.num = N at *
 simp only [encI, bv, iv] at g
 simp -implicitDefEqProofs (maxSteps := 10000000) only [rat_Neg, encR, go_sem, Qaf, Qab, iv, bv, g, reduceCtorEq, ↓reduceIte, Nat.reduceEqDiff]

theorem QaQ (a : Rat) : Qaj G Qbh [encR a] = some (.d (iv (Int.sign a.num))) := by
 rw [Qae (cf := rat_Sign) rfl]
 have g := Sign_spec a.num
 simp only [encI, bv, iv] at g
 simp -implicitDefEqProofs (maxSteps := 10000000) only [rat_Sign, encR, go_sem, Qaf, Qab, iv, bv, g, reduceCtorEq, ↓reduceIte, Nat.reduceEqDiff]

theorem Qf7 {a b : Rat} (ha : sz a ≤ 100000000000) (hb : sz b ≤ 100000000000) : Qaj G QgN [encR a, encR b] = some (.d (encR (a + b))) := by
 rw [Qae (cf := rat_Add) rfl]
 have a1 := QcW ha; have a2 := Qc8 ha; have b1 := QcW hb; have b2 := Qc8 hb
 have la := QaP (digs a.num.natAbs)
 have lb := QaP (digs b.num.natAbs)
 have ea := QaP (dd a.den)
 have eb := QaP (dd b.den)
 by_cases h1 : a.den = 1 ∧ b.den = 1
 ·obtain ⟨w1, w2⟩ := add_whole h1.1 h1.2
  have u1 := QoB h1.1
  have u2 := QoB h1.2
  have g := Qng (x := a.num) (y := b.num) (by omega) (by omega)
  have e : encR (a + b) = .agg [.v (.bool (decide (a.num + b.num < 0))), dg (digs (a.num + b.num).natAbs), .v (.bool false), .z true] := by rw [encR, w1, dden w2]
  rw [e]
  clear e w1 w2
  generalize a.num + b.num = N at *
  simp only [encI, bv, iv] at g
  simp -implicitDefEqProofs (maxSteps := 10000000) only [rat_Add, encR, go_sem, Qaf, Qab, iv, bv, la, lb, ea, eb, u1, u2, g, reduceCtorEq, ↓reduceIte, Nat.reduceEqDiff]
 ·have m1 := Qc9 (x := a.num) (y := b.den)
  have m2 := Qc9 (x := b.num) (y := a.den)
  have m3 := Qc9 (x := a.den) (y := b.den)
  have g1 := QeP a
  have g2 := QeP b
  have g3 := QeQ (x := a.num) (y := b.den) (by omega) (by omega)
  have g4 := QeQ (x := b.num) (y := a.den) (by omega) (by omega)
  have g5 := QeQ (x := a.den) (y := b.den) (by omega) (by omega)
  have g6 := Qng (x := a.num * b.den) (y := b.num * a.den) (by omega) (by omega)
  have g7 := Qii (n := a.num * b.den + b.num * a.den) (d := (a.den : Int) * b.den) (Nat.le_trans (QkG (k := 200000000000) (by omega) (by omega)) (by omega)) (by omega)
  rw [← QjG] at g7
  rw [Qc5] at g1 g2 g3 g4
  rw [Qc5, Qc5] at g5
  generalize a.num * (b.den : Int) + b.num * (a.den : Int) = N at *
  generalize a.num * (b.den : Int) = N1 at *
  generalize b.num * (a.den : Int) = N2 at *
  generalize (a.den : Int) * (b.den : Int) = D at *
  by_cases h2 : a.num = 0
  ·have z1 := lenz h2
   have e : a + b = b := by rw [Qif h2, Rat.zero_add]
   rw [e]
   by_cases h3 : a.den = 1
   ·have u1 := QoB h3
    have u2 := Qou (fun h => h1 ⟨h3, h⟩)
    simp -implicitDefEqProofs (maxSteps := 10000000) only [rat_Add, encR, go_sem, Qaf, Qab, iv, bv, la, lb, ea, eb, u1, u2, z1, reduceCtorEq, ↓reduceIte, Nat.reduceEqDiff]
   ·have u1 := Qou h3
    simp -implicitDefEqProofs (maxSteps := 10000000) only [rat_Add, encR, go_sem, Qaf, Qab, iv, bv, la, lb, ea, eb, u1, z1, reduceCtorEq, ↓reduceIte, Nat.reduceEqDiff]
  ·have z1 := Qnn h2
   by_cases h4 : b.num = 0
   ·have z2 := lenz h4
    have e : a + b = a := by rw [Qif h4, Rat.add_zero]
    rw [e]
    by_cases h3 : a.den = 1
    ·have u1 := QoB h3
     have u2 := Qou (fun h => h1 ⟨h3, h⟩)
     simp -implicitDefEqProofs (maxSteps := 10000000) only [rat_Add, encR, go_sem, Qaf, Qab, iv, bv, la, lb, ea, eb, u1, u2, z1, z2, reduceCtorEq, ↓reduceIte, Nat.reduceEqDiff]
    ·have u1 := Qou h3
     simp -implicitDefEqProofs (maxSteps := 10000000) only [rat_Add, encR, go_sem, Qaf, Qab, iv, bv, la, lb, ea, eb, u1, z1, z2, reduceCtorEq, ↓reduceIte, Nat.reduceEqDiff]
   ·have z2 := Qnn h4
    generalize a + b = S at *
    simp only [encI, encR, bv, iv] at g1 g2 g3 g4 g5 g6 g7
    by_cases h3 : a.den = 1
    ·have u1 := QoB h3
     have u2 := Qou (fun h => h1 ⟨h3, h⟩)
     simp -implicitDefEqProofs (maxSteps := 10000000) only [rat_Add, encR, go_sem, Qaf, Qab, iv, bv, la, lb, ea, eb, u1, u2, z1, z2, g1, g2, g3, g4, g5, g6, g7, QbW, ne_eq, not_false_eq_true, reduceCtorEq, ↓reduceIte, Nat.reduceEqDiff]
    ·have u1 := Qou h3
     simp -implicitDefEqProofs (maxSteps := 10000000) only [rat_Add, encR, go_sem, Qaf, Qab, iv, bv, la, lb, ea, eb, u1, z1, z2, g1, g2, g3, g4, g5, g6, g7, QbW, ne_eq, not_false_eq_true, reduceCtorEq, ↓reduceIte, Nat.reduceEqDiff]

theorem QhD {a b : Rat} (ha : sz a ≤ 100000000000) (hb : sz b ≤ 100000000000) : Qaj G Qiy [encR a, encR b] = some (.d (encR (a - b))) := by
 rw [Qae (cf := rat_Sub) rfl]
 have g1 := Qlc b
 have g2 := Qf7 (a := a) (b := -b) ha (by rw [Qq3]; exact hb)
 rw [← Rat.sub_eq_add_neg] at g2
 generalize -b = B at *
 simp only [encR, bv, iv] at g1 g2
 simp -implicitDefEqProofs (maxSteps := 10000000) only [rat_Sub, encR, go_sem, Qaf, Qab, iv, bv, g1, g2, reduceCtorEq, ↓reduceIte, Nat.reduceEqDiff]

theorem QcE {a b : Rat} (ha : sz a ≤ 100000000000) (hb : sz b ≤ 100000000000) : Qaj G Qdn [encR a, encR b] = some (.d (encR (a * b))) := by
 rw [Qae (cf := rat_Mul) rfl]
 have a1 := QcW ha; have a2 := Qc8 ha; have b1 := QcW hb; have b2 := Qc8 hb
 have la := QaP (digs a.num.natAbs)
 have lb := QaP (digs b.num.natAbs)
 have ea := QaP (dd a.den)
 have eb := QaP (dd b.den)
 by_cases h2 : a.num = 0
 ·have z1 := lenz h2
  have e : a * b = 0 := by rw [Qif h2, Rat.zero_mul]
  rw [e, Qd3]
  simp -implicitDefEqProofs (maxSteps := 10000000) only [rat_Mul, encR, go_sem, Qaf, Qab, iv, bv, la, lb, ea, eb, z1, reduceCtorEq, ↓reduceIte, Nat.reduceEqDiff]
 have z1 := Qnn h2
 by_cases h4 : b.num = 0
 ·have z2 := lenz h4
  have e : a * b = 0 := by rw [Qif h4, Rat.mul_zero]
  rw [e, Qd3]
  simp -implicitDefEqProofs (maxSteps := 10000000) only [rat_Mul, encR, go_sem, Qaf, Qab, iv, bv, la, lb, ea, eb, z1, z2, reduceCtorEq, ↓reduceIte, Nat.reduceEqDiff]
 have z2 := Qnn h4
 by_cases h1 : a.den = 1 ∧ b.den = 1
 ·obtain ⟨w1, w2⟩ := mul_whole h1.1 h1.2
  have u1 := QoB h1.1
  have u2 := QoB h1.2
  have g := QeQ (x := a.num) (y := b.num) (by omega) (by omega)
  have e : encR (a * b) = .agg [.v (.bool (decide (a.num * b.num < 0))), dg (digs (a.num * b.num).natAbs), .v (.bool false), .z true] := by rw [encR, w1, dden w2]
  rw [e]
  clear e w1 w2
  generalize a.num * b.num = N at *
  simp only [encI, bv, iv] at g
  simp -implicitDefEqProofs (maxSteps := 10000000) only [rat_Mul, encR, go_sem, Qaf, Qab, iv, bv, la, lb, ea, eb, u1, u2, z1, z2, g, reduceCtorEq, ↓reduceIte, Nat.reduceEqDiff]
 ·have g1 := QeP a
  have g2 := QeP b
  have g3 := Qii (n := a.num) (d := b.den) (by omega) (by omega)
  have g4 := Qii (n := b.num) (d := a.den) (by omega) (by omega)
  have k1 := QeF (n := a.num) (d := b.den) (k := 100000000000) (by omega) a1 b2
  have k2 := QeF (n := b.num) (d := a.den) (k := 100000000000) (by omega) b1 a2
  have cr := cross a b
  have cv := cross_val a b
  generalize Rat.divInt a.num b.den = p at *
  generalize Rat.divInt b.num a.den = q at *
  have p1 := QcW k1; have p2 := Qc8 k1; have q1 := QcW k2; have q2 := Qc8 k2
  have m1 := Qc9 (x := p.num) (y := q.num)
  have m2 := Qc9 (x := p.den) (y := q.den)
  have g5 := QeP p
  have g6 := QeP q
  have g7 := QeQ (x := p.num) (y := q.num) (by omega) (by omega)
  have g8 := QeQ (x := p.den) (y := q.den) (by omega) (by omega)
  have hne : (p.den : Int) * (q.den : Int) ≠ 0 := Int.mul_ne_zero (by have := p.den_pos; omega) (by have := q.den_pos; omega)
  have g9 := Qf4 (n := p.num * q.num) (d := (p.den : Int) * q.den) hne cr (by omega)
  rw [cv] at g9
  rw [Qc5] at g1 g2 g3 g4 g5 g6
  rw [Qc5, Qc5] at g8
  generalize p.num * q.num = N at *
  generalize (p.den : Int) * (q.den : Int) = D at *
  generalize a * b = S at *
  simp only [encI, encR, bv, iv] at g1 g2 g3 g4 g5 g6 g7 g8 g9
  by_cases h3 : a.den = 1
  ·have u1 := QoB h3
   have u2 := Qou (fun h => h1 ⟨h3, h⟩)
   simp -implicitDefEqProofs (maxSteps := 10000000) only [rat_Mul, encR, go_sem, Qaf, Qab, iv, bv, la, lb, ea, eb, u1, u2, z1, z2, g1, g2, g3, g4, g5, g6, g7, g8, g9, QbW, ne_eq, not_false_eq_true, reduceCtorEq, ↓reduceIte, Nat.reduceEqDiff]
  ·have u1 := Qou h3
   simp -implicitDefEqProofs (maxSteps := 10000000) only [rat_Mul, encR, go_sem, Qaf, Qab, iv, bv, la, lb, ea, eb, u1, z1, z2, g1, g2, g3, g4, g5, g6, g7, g8, g9, QbW, ne_eq, not_false_eq_true, reduceCtorEq, ↓reduceIte, Nat.reduceEqDiff]

theorem QkP {a b : Rat} (ha : sz a ≤ 100000000000) (hb : sz b ≤ 100000000000) : Qaj G QlJ [encR a, encR b] = some (.d (encR (a / b))) := by
 rw [Qae (cf := rat_Div) rfl]
 have b1 := QcW hb; have b2 := Qc8 hb
 have lb := QaP (digs b.num.natAbs)
 by_cases h4 : b.num = 0
 ·have z2 := lenz h4
  have e : a / b = 0 := by rw [Qif h4, Rat.div_def, Rat.inv_zero, Rat.mul_zero]
  rw [e, Qd3]
  simp -implicitDefEqProofs (maxSteps := 10000000) only [rat_Div, encR, go_sem, Qaf, Qab, iv, bv, lb, z2, reduceCtorEq, ↓reduceIte, Nat.reduceEqDiff]
 have z2 := Qnn h4
 have g1 := QeP b
 have hc : Int.gcd (b.den : Int) b.num = 1 := by
  have := b.reduced
  rw [Int.gcd_comm]
  exact this
 have g2 := Qf4 (n := b.den) (d := b.num) h4 hc (by omega)
 rw [← Qk7] at g2
 have g3 := QcE (a := a) (b := b⁻¹) ha (Nat.le_trans sz_inv hb)
 rw [← Rat.div_def] at g3
 rw [Qc5] at g1 g2
 generalize a / b = S at *
 generalize b⁻¹ = B at *
 simp only [encI, encR, bv, iv] at g1 g2 g3
 simp -implicitDefEqProofs (maxSteps := 10000000) only [rat_Div, encR, go_sem, Qaf, Qab, iv, bv, lb, z2, g1, g2, g3, reduceCtorEq, ↓reduceIte, Nat.reduceEqDiff]

theorem Qfa {a b : Rat} (ha : sz a ≤ 100000000000) (hb : sz b ≤ 100000000000) : Qaj G QeR [encR a, encR b] = some (.d (iv (cmpR a b))) := by
 rw [Qae (cf := rat_Compare) rfl]
 have a1 := QcW ha; have a2 := Qc8 ha; have b1 := QcW hb; have b2 := Qc8 hb
 have g1 := QaQ a
 have g2 := QaQ b
 have s1 : -1 ≤ Int.sign a.num ∧ Int.sign a.num ≤ 1 := by
  rcases Int.lt_trichotomy a.num 0 with h | h | h
  ·rw [Int.sign_eq_neg_one_of_neg h]; omega
  ·rw [h]; simp
  ·rw [Int.sign_eq_one_of_pos h]; omega
 have s2 : -1 ≤ Int.sign b.num ∧ Int.sign b.num ≤ 1 := by
  rcases Int.lt_trichotomy b.num 0 with h | h | h
  ·rw [Int.sign_eq_neg_one_of_neg h]; omega
  ·rw [h]; simp
  ·rw [Int.sign_eq_one_of_pos h]; omega
 have i1 : I64 (Int.sign a.num) := ⟨by omega, by omega⟩
 have i2 : I64 (Int.sign b.num) := ⟨by omega, by omega⟩
 by_cases h : Int.sign a.num ≠ Int.sign b.num ∨ Int.sign a.num = 0
 ·have g3 := QhO i1
  have g4 := QhO i2
  have n1 : nd (Int.sign a.num) ≤ 3 := Qdg i1
  have n2 : nd (Int.sign b.num) ≤ 3 := Qdg i2
  have g5 := Qfq (x := Int.sign a.num) (y := Int.sign b.num) (by omega) (by omega)
  rw [Qsl h] at g5
  generalize Int.sign a.num = X at *
  generalize Int.sign b.num = Y at *
  simp only [encI, encR, bv, iv] at g1 g2 g3 g4 g5
  by_cases hxy : X = Y
  ·subst hxy
   have u1 : (X != X) = false := by simp
   have u2 : (X == 0) = true := Qk4 (by rcases h with h | h; exact absurd rfl h; exact h)
   simp -implicitDefEqProofs (maxSteps := 10000000) only [rat_Compare, encR, go_sem, Qaf, Qab, iv, bv, u1, u2, g1, g2, g3, g4, g5, reduceCtorEq, ↓reduceIte, Nat.reduceEqDiff]
  ·have u1 : (X != Y) = true := by rw [bne, QdJ hxy]; rfl
   simp -implicitDefEqProofs (maxSteps := 10000000) only [rat_Compare, encR, go_sem, Qaf, Qab, iv, bv, u1, g1, g2, g3, g4, g5, reduceCtorEq, ↓reduceIte, Nat.reduceEqDiff]
 ·have hxy : Int.sign a.num = Int.sign b.num := by omega
  have hx0 : Int.sign a.num ≠ 0 := by omega
  have u1 : (Int.sign a.num != Int.sign b.num) = false := by rw [bne, Qk4 hxy]; rfl
  have u2 : (Int.sign a.num == 0) = false := QdJ hx0
  have m1 := Qc9 (x := a.num) (y := b.den)
  have m2 := Qc9 (x := b.num) (y := a.den)
  have g3 := QeP a
  have g4 := QeP b
  have g5 := QeQ (x := a.num) (y := b.den) (by omega) (by omega)
  have g6 := QeQ (x := b.num) (y := a.den) (by omega) (by omega)
  have g7 := Qfq (x := a.num * b.den) (y := b.num * a.den) (by omega) (by omega)
  have e : Int.sign (a.num * b.den - b.num * a.den) = cmpR a b := rfl
  rw [e] at g7
  clear e
  rw [Qc5] at g3 g4 g5 g6
  generalize a.num * (b.den : Int) = N1 at *
  generalize b.num * (a.den : Int) = N2 at *
  simp only [encI, encR, bv, iv] at g1 g2 g3 g4 g5 g6 g7
  simp -implicitDefEqProofs (maxSteps := 10000000) only [rat_Compare, encR, go_sem, Qaf, Qab, iv, bv, u1, u2, g1, g2, g3, g4, g5, g6, g7, reduceCtorEq, ↓reduceIte, Nat.reduceEqDiff]
end Go.AM

/- ref05.Neg, Sign, Add, Sub, Mul, Div, Compare -/
namespace Go.AM
open Go Go.RowKit
variable [Its]

theorem Qoz {a : Rat} (ha : sz a ≤ 100000000000) : Qaj G QfX [encR a] = some (.d (encR (-a))) := by
 rw [Qae (cf := gantryref05_Neg) rfl]
 have a1 := QcW ha
 have g := Qlz (x := a.num) (by omega)
 have e : encR (-a) = .agg [.v (.bool (decide (-a.num < 0))), dg (digs (-a.num).natAbs), .v (.bool false), dg (dd a.den)] := rfl
 rw [e]
 clear e
 generalize -a.num = N at *
 simp only [encI, bv, iv] at g
 simp -implicitDefEqProofs (maxSteps := 10000000) only [gantryref05_Neg, encR, go_sem, Qaf, Qab, iv, bv, g, reduceCtorEq, ↓reduceIte, Nat.reduceEqDiff]

theorem Qin {a : Rat} (ha : sz a ≤ 100000000000) : Qaj G Qfj [encR a] = some (.d (iv (Int.sign a.num))) := by
 rw [Qae (cf := gantryref05_Sign) rfl]
 have a1 := QcW ha
 have g := Qst (x := a.num) (by omega)
 simp only [encI, bv, iv] at g
 simp -implicitDefEqProofs (maxSteps := 10000000) only [gantryref05_Sign, encR, go_sem, Qaf, Qab, iv, bv, g, reduceCtorEq, ↓reduceIte, Nat.reduceEqDiff]

theorem Qfh {a b : Rat} (ha : sz a ≤ 100000000000) (hb : sz b ≤ 100000000000) : Qaj G QcK [encR a, encR b] = some (.d (encR (a + b))) := by
 rw [Qae (cf := gantryref05_Add) rfl]
 have a1 := QcW ha; have a2 := Qc8 ha; have b1 := QcW hb; have b2 := Qc8 hb
 have m1 := Qc9 (x := a.num) (y := b.den)
 have m2 := Qc9 (x := b.num) (y := a.den)
 have m3 := Qc9 (x := a.den) (y := b.den)
 have g1 := QfP a
 have g2 := QfP b
 have g3 := QdD (x := a.num) (y := b.den) (by omega) (by omega)
 have g4 := QdD (x := b.num) (y := a.den) (by omega) (by omega)
 have g5 := QdD (x := a.den) (y := b.den) (by omega) (by omega)
 have g6 := Qgw (x := a.num * b.den) (y := b.num * a.den) (by omega) (by omega)
 have g7 := Qg1 (n := a.num * b.den + b.num * a.den) (d := (a.den : Int) * b.den) (Nat.le_trans (QkG (k := 200000000000) (by omega) (by omega)) (by omega)) (by omega)
 rw [← QjG] at g7
 rw [Qc5] at g1 g2 g3 g4
 rw [Qc5, Qc5] at g5
 generalize a.num * (b.den : Int) + b.num * (a.den : Int) = N at *
 generalize a.num * (b.den : Int) = N1 at *
 generalize b.num * (a.den : Int) = N2 at *
 generalize (a.den : Int) * (b.den : Int) = D at *
 generalize a + b = S at *
 simp only [encI, encR, bv, iv] at g1 g2 g3 g4 g5 g6 g7
 simp -implicitDefEqProofs (maxSteps := 10000000) only [gantryref05_Add, encR, go_sem, Qaf, Qab, iv, bv, g1, g2, g3, g4, g5, g6, g7, QbW, ne_eq, not_false_eq_true, reduceCtorEq, ↓reduceIte, Nat.reduceEqDiff]

theorem QoN {a b : Rat} (ha : sz a ≤ 100000000000) (hb : sz b ≤ 100000000000) : Qaj G QfS [encR a, encR b] = some (.d (encR (a - b))) := by
 rw [Qae (cf := gantryref05_Sub) rfl]
 have g1 := Qoz hb
 have g2 := Qfh (a := a) (b := -b) ha (by rw [Qq3]; exact hb)
 rw [← Rat.sub_eq_add_neg] at g2
 generalize -b = B at *
 simp only [encR, bv, iv] at g1 g2
 simp -implicitDefEqProofs (maxSteps := 10000000) only [gantryref05_Sub, encR, go_sem, Qaf, Qab, iv, bv, g1, g2, reduceCtorEq, ↓reduceIte, Nat.reduceEqDiff]

theorem Qfu {a b : Rat} (ha : sz a ≤ 100000000000) (hb : sz b ≤ 100000000000) : Qaj G QcO [encR a, encR b] = some (.d (encR (a * b))) := by
 rw [Qae (cf := gantryref05_Mul) rfl]
 have a1 := QcW ha; have a2 := Qc8 ha; have b1 := QcW hb; have b2 := Qc8 hb
 have m1 := Qc9 (x := a.num) (y := b.num)
 have m3 := Qc9 (x := a.den) (y := b.den)
 have g1 := QfP a
 have g2 := QfP b
 have g3 := QdD (x := a.num) (y := b.num) (by omega) (by omega)
 have g5 := QdD (x := a.den) (y := b.den) (by omega) (by omega)
 have g7 := Qg1 (n := a.num * b.num) (d := (a.den : Int) * b.den) (by omega) (by omega)
 rw [← Qg9] at g7
 rw [Qc5] at g1 g2
 rw [Qc5, Qc5] at g5
 generalize a.num * b.num = N1 at *
 generalize (a.den : Int) * (b.den : Int) = D at *
 generalize a * b = S at *
 simp only [encI, encR, bv, iv] at g1 g2 g3 g5 g7
 simp -implicitDefEqProofs (maxSteps := 10000000) only [gantryref05_Mul, encR, go_sem, Qaf, Qab, iv, bv, g1, g2, g3, g5, g7, QbW, ne_eq, not_false_eq_true, reduceCtorEq, ↓reduceIte, Nat.reduceEqDiff]

theorem QgX {a b : Rat} (ha : sz a ≤ 100000000000) (hb : sz b ≤ 100000000000) : Qaj G Qdv [encR a, encR b] = some (.d (encR (a / b))) := by
 rw [Qae (cf := gantryref05_Div) rfl]
 have a1 := QcW ha; have a2 := Qc8 ha; have b1 := QcW hb; have b2 := Qc8 hb
 have m1 := Qc9 (x := a.num) (y := b.den)
 have m3 := Qc9 (x := a.den) (y := b.num)
 have g1 := QfP a
 have g2 := QfP b
 have g3 := QdD (x := a.num) (y := b.den) (by omega) (by omega)
 have g5 := QdD (x := a.den) (y := b.num) (by omega) (by omega)
 have g7 := Qg1 (n := a.num * b.den) (d := (a.den : Int) * b.num) (by omega) (by omega)
 rw [← Ql6] at g7
 rw [Qc5] at g1 g2 g3 g5
 generalize a.num * (b.den : Int) = N1 at *
 generalize (a.den : Int) * b.num = D at *
 generalize a / b = S at *
 simp only [encI, encR, bv, iv] at g1 g2 g3 g5 g7
 simp -implicitDefEqProofs (maxSteps := 10000000) only [gantryref05_Div, encR, go_sem, Qaf, Qab, iv, bv, g1, g2, g3, g5, g7, QbW, ne_eq, not_false_eq_true, reduceCtorEq, ↓reduceIte, Nat.reduceEqDiff]

end Go.AM

/- ref01: Around, At; digits tell numbers apart. -/
namespace Go.AM
open Go Go.RowKit

theorem Qgu {n : Int} (h : (Lit.int .i64 n).wf = true) : I64 n := by
 simp only [Lit.wf, Bool.and_eq_true, decide_eq_true_eq] at h
 have h1 : IntKind.min .i64 = -9223372036854775808 := by decide
 have h2 : IntKind.max .i64 = 9223372036854775807 := by decide
 rw [h1, h2] at h
 exact ⟨by omega, by omega⟩
theorem QfV {d : D} {l : List Int} (h : Dg d l) : Rw d l := by
 rcases h with ⟨rfl, rfl⟩ | h
 ·exact .inl rfl
 ·exact .inr h
def arnd (n m : Int) : Int := (if n < 0 then -(n + 1) else n) % m
theorem QrK {n m : Int} (hm : 0 < m) : 0 ≤ arnd n m ∧ arnd n m < m := ⟨Int.emod_nonneg _ (by omega), Int.emod_lt_of_pos _ hm⟩
def atr (l : List Int) (i m : Int) : Int := if i < 0 ∨ i ≥ l.length then 0 else arnd (l.getD i.toNat 0) m
theorem Qr8 (l : List Int) (i : Int) {m : Int} (hm : 0 < m) : 0 ≤ atr l i m ∧ atr l i m < m := by
 unfold atr
 split
 ·omega
 ·exact QrK hm

theorem Qq5 {a b : Nat} (h : digs a = digs b) : a = b := by
 have := congrArg val h
 rw [QaE, QaE] at this
 omega
theorem iv_inj {a b : Int} (h : iv a = iv b) : a = b := by cases h; rfl
theorem Qn0 : ∀ {l m : List Int}, l.map iv = m.map iv → l = m
 | [], [], _ => rfl
 | [], _ :: _, h => by cases h
 | _ :: _, [], h => by cases h
 | a :: l, b :: m, h => by
  rw [List.map_cons, List.map_cons, List.cons.injEq] at h
  rw [iv_inj h.1, Qn0 h.2]
theorem dg_inj {l m : List Int} (h : dg l = dg m) : l = m := by
 by_cases h1 : l = [] <;> by_cases h2 : m = []
 ·rw [h1, h2]
 ·rw [h1, Qom, Qm5 h2] at h; cases h
 ·rw [h2, Qom, Qm5 h1] at h; cases h
 ·rw [Qm5 h1, Qm5 h2, D.row.injEq] at h; exact Qn0 h.2
variable [Its]

theorem QhK {n m : Int} (hn : I64 n) (hm : 0 < m) : Qaj G QcJ [iv n, iv m] = some (.d (iv (arnd n m))) := by
 rw [Qae (cf := gantryref01_Around) rfl]
 obtain ⟨h1, h2⟩ := hn
 have e2 := QiB (b := m) (by omega)
 unfold arnd
 by_cases h : n < 0
 ·have e1 : decide (n < 0) = true := decide_eq_true h
  have e3 : w64 (n + 1) = n + 1 := Qac (by omega) (by omega)
  have e4 : w64 (0 - (n + 1)) = -(n + 1) := by rw [Qac (by omega) (by omega)]; omega
  have e5 := QcT (a := -(n + 1)) (b := m) (by omega)
  rw [if_pos h]
  simp -implicitDefEqProofs (maxSteps := 10000000) only [gantryref01_Around, go_sem, iv, bv, e1, e2, e3, e4, e5, reduceCtorEq, ↓reduceIte, Nat.reduceEqDiff]
 ·have e1 : decide (n < 0) = false := decide_eq_false h
  have e5 := QcT (a := n) (b := m) (by omega)
  rw [if_neg h]
  simp -implicitDefEqProofs (maxSteps := 10000000) only [gantryref01_Around, go_sem, iv, bv, e1, e2, e5, reduceCtorEq, ↓reduceIte, Nat.reduceEqDiff]
theorem Qc6 {d : D} {l : List Int} {i m : Int} (hr : Rw d l) (hl : ∀ n ∈ l, I64 n) (hm : 0 < m) : Qaj G Qau [d, iv i, iv m] = some (.d (iv (atr l i m))) := by
 rw [Qae (cf := gantryref01_At) rfl]
 have ll := hr.len
 unfold atr
 by_cases h : i < 0
 ·have e1 : decide (i < 0) = true := decide_eq_true h
  rw [if_pos (.inl h)]
  simp -implicitDefEqProofs (maxSteps := 10000000) only [gantryref01_At, go_sem, iv, bv, e1, reduceCtorEq, ↓reduceIte, Nat.reduceEqDiff]
 ·have e1 : decide (i < 0) = false := decide_eq_false h
  by_cases h2 : i ≥ l.length
  ·have e2 : decide (i ≥ (l.length : Int)) = true := decide_eq_true h2
   rw [if_pos (.inr h2)]
   simp -implicitDefEqProofs (maxSteps := 10000000) only [gantryref01_At, go_sem, iv, bv, e1, e2, ll, reduceCtorEq, ↓reduceIte, Nat.reduceEqDiff]
  ·have e2 : decide (i ≥ (l.length : Int)) = false := decide_eq_false h2
   rw [if_neg (by omega)]
   obtain ⟨j, rfl⟩ : ∃ j : Nat, i = (j : Int) := ⟨i.toNat, by omega⟩
   rw [Int.toNat_natCast]
   have hj : j < l.length := by omega
   have e3 := hr.ixn (j := j) hj
   have e4 := fun hp => ldv hp l (j := j) hj
   have hb : I64 (l.getD j 0) := hl _ (by rw [List.getD_eq_getElem?_getD, List.getElem?_eq_getElem hj]; exact List.getElem_mem hj)
   have g := QhK hb hm
   simp only [iv] at g
   simp -implicitDefEqProofs (maxSteps := 10000000) only [gantryref01_At, go_sem, iv, bv, e1, e2, e3, e4, ll, g, reduceCtorEq, ↓reduceIte, Nat.reduceEqDiff]
end Go.AM

/- Rationals: signs, sizes, names for what comes out; ref01. -/
namespace Go.AM
open Go Go.RowKit

theorem sz_one_ : sz 1 = 1 := by rw [sz, Rat.one_num, Rat.one_den]; exact by rw [show ((1 : Nat) : Int) = 1 from rfl, QqG]; rfl
theorem Qjg : sz 0 = 1 := by rw [sz, Rat.zero_num, Rat.zero_den]; exact by rw [show ((1 : Nat) : Int) = 1 from rfl, QqG, Qlg]; rfl
theorem Qdl {n : Int} (h : I64 n) : sz (n : Rat) ≤ 3 := sz_le (Qdg h) (by rw [Rat.den_intCast]; exact Nat.le_trans (Nat.le_of_eq QqG) (by omega))
theorem QcR (n : Int) : Rat.divInt n 1 = (n : Rat) := by
 have := Rat.num_divInt_den (n : Rat)
 exact this
theorem Qk5 {x : Rat} : decide (Int.sign x.num ≥ 0) = decide (0 ≤ x) := by
 apply decide_eq_decide.2
 rw [← Rat.num_nonneg]
 rcases Int.lt_trichotomy x.num 0 with h | h | h
 ·rw [Int.sign_eq_neg_one_of_neg h]; omega
 ·rw [h]; simp
 ·rw [Int.sign_eq_one_of_pos h]; omega
theorem num_pos' {x : Rat} : 0 < x.num ↔ 0 < x := by
 rw [Rat.lt_iff]; simp
theorem QlN {x : Rat} : decide (Int.sign x.num > 0) = decide (0 < x) := by
 apply decide_eq_decide.2
 rw [← num_pos']
 rcases Int.lt_trichotomy x.num 0 with h | h | h
 ·rw [Int.sign_eq_neg_one_of_neg h]; omega
 ·rw [h]; simp
 ·rw [Int.sign_eq_one_of_pos h]; omega
theorem QnG {x : Rat} : decide (Int.sign x.num < 0) = decide (x < 0) := by
 have e : decide (x < 0) = !decide (0 ≤ x) := by
  by_cases h : 0 ≤ x
  ·rw [decide_eq_true h, decide_eq_false (by rw [Rat.not_lt]; exact h)]; rfl
  ·rw [decide_eq_false h, decide_eq_true (Rat.not_le.1 h)]; rfl
 rw [e, ← Qk5]
 by_cases h : Int.sign x.num < 0
 ·rw [decide_eq_true h, decide_eq_false (by omega)]; rfl
 ·rw [decide_eq_false h, decide_eq_true (by omega)]; rfl
theorem cmR_lt {a b : Rat} : decide (cmpR a b < 0) = decide (a < b) := decide_eq_decide.2 cmpR_lt
def boxR (q : Rat) : Obj := ⟨0, 0, [.d (.v (.bool (decide (q.num < 0)))), .d (dg (digs q.num.natAbs)), .d (.v (.bool false)), .d (dg (dd q.den))], false⟩
def boxR0 : Obj := ⟨0, 0, [.d (.v (.bool false)), .d (.z true), .d (.v (.bool false)), .d (.z true)], false⟩
theorem QrH {a b : Rat} : sz (a - b) ≤ sz a + sz b + 1 := by
 rw [Rat.sub_eq_add_neg]
 have := Qlu (a := a) (b := -b)
 rw [Qq3] at this
 exact this
theorem sz_two : sz 2 ≤ 3 := Qdl (n := 2) ⟨by omega, by omega⟩
theorem QnM {n d : Int} (hn : I64 n) (hd : I64 d) : sz (Rat.divInt n d) ≤ 3 := QeF (by omega) (Qdg hn) (Qdg hd)
theorem dd_inj {a b : Nat} (ha : 0 < a) (hb : 0 < b) (h : dd a = dd b) : a = b := by
 have hn : ∀ {n : Nat}, 0 < n → digs n ≠ [] := fun hn h0 => by have := digs_length_pos.2 hn; rw [h0] at this; simp at this
 by_cases h1 : a = 1 <;> by_cases h2 : b = 1
 ·omega
 ·rw [h1, dd_one, QjE h2] at h; exact absurd h.symm (hn hb)
 ·rw [h2, dd_one, QjE h1] at h; exact absurd h (hn ha)
 ·rw [QjE h1, QjE h2] at h; exact Qq5 h
theorem rat_inj {q p : Rat} (h1 : decide (q.num < 0) = decide (p.num < 0)) (h2 : dg (digs q.num.natAbs) = dg (digs p.num.natAbs)) (h3 : dg (dd q.den) = dg (dd p.den)) : q = p := by
 have e1 := Qq5 (dg_inj h2)
 have e2 := dd_inj q.den_pos p.den_pos (dg_inj h3)
 have e3 : q.num < 0 ↔ p.num < 0 := by simpa using h1
 exact Rat.ext (by omega) e2

variable [Its]

end Go.AM

/- Boxes of whole numbers, folded. -/
namespace Go.AM
open Go Go.RowKit

def cI (x : Int) : List A := [.d (.v (.bool (decide (x < 0)))), .d (dg (digs x.natAbs))]
def bI (x : Int) : Obj := ⟨0, 0, cI x, false⟩
theorem one_encI (x : Int) : A.one (.d (encI x)) = false := rfl
theorem Qsj (x : Int) : QaT (.d (encI x)) = cI x := rfl
theorem dc_encI (x : Int) : Qc7 (.d (encI x)) = some [.v (.bool (decide (x < 0))), dg (digs x.natAbs)] := rfl
theorem all_cI (x : Int) : (cI x).all A.one = true := by
 simp only [cI, List.all_cons, List.all_nil, Qrj, QaA, Bool.and_self]
theorem len_cI (x : Int) : (cI x).length = 2 := rfl
theorem refs_cI (ks : List Key) (x : Int) : QfO ks (cI x) = true := rfl
theorem ld_cI (x : Int) : Qab (some 2) 0 (cI x) = some (.d (encI x)) := rfl
theorem ld_cI0 (x : Int) : Qab none 0 (cI x) = some (.d (.v (.bool (decide (x < 0))))) := rfl
theorem ld_cI1 (x : Int) : Qab none 1 (cI x) = some (.d (dg (digs x.natAbs))) := rfl
theorem st_cI (x y : Int) : Qaf 0 (cI x) (cI y) = some (cI x) := rfl
theorem st_cIn (x : Int) (u v : A) : Qaf 0 (cI x) [u, v] = some (cI x) := rfl
theorem ad_cI (x : Int) : allD (cI x) = some [.v (.bool (decide (x < 0))), dg (digs x.natAbs)] := rfl
theorem ag_encI (x : Int) : aggA (.d (encI x)) = some [.v (.bool (decide (x < 0))), dg (digs x.natAbs)] := rfl
theorem QnH : D.agg [.v (.bool false), .z true] = encI 0 := by
 rw [encI, show (0 : Int).natAbs = 0 from rfl, QaH]; rfl
attribute [go_sem] one_encI Qsj dc_encI all_cI len_cI refs_cI ld_cI ld_cI0 ld_cI1 st_cI st_cIn ad_cI ag_encI
end Go.AM

/- integer.Small, ref04.Small. -/
namespace Go.AM
open Go Go.RowKit

def au (u : Int) : A := .d (.v (.int .u64 u))
attribute [go_sem] au
theorem w64_hi {n : Int} (h0 : 9223372036854775808 ≤ n) (h1 : n < 18446744073709551616) : w64 n = n - 18446744073709551616 := by
 rw [← QnO]
 unfold IntKind.wrap
 simp only [IntKind.signed, IntKind.bits, Bool.true_and, decide_eq_true_eq, ge_iff_le]
 by_cases h : (2 : Int) ^ (64 - 1) ≤ n % 2 ^ 64
 ·rw [if_pos h]; omega
 ·rw [if_neg h]; omega
theorem u64m {n : Int} (h0 : 0 ≤ n) (h1 : n < 18446744073709551616) : n % 18446744073709551616 = n := Int.emod_eq_of_lt h0 h1
theorem Qgg (l : List Int) (i : Nat) (h : i < l.length) : val (l.drop i) = l.getD i 0 + 1000000000 * val (l.drop (i + 1)) := by
 rw [List.drop_eq_getElem_cons h, val]
 simp [List.getD, h]
theorem QhH {l : List Int} (hd : Dig l) : ∀ i, val (l.drop i) ≤ val l
 | 0 => by rw [List.drop_zero]; exact Int.le_refl _
 | i + 1 => by
  have ih := QhH hd i
  by_cases h : i < l.length
  ·rw [Qgg l i h] at ih
   have := hd.getD i
   have h2 := QaK (hd.drop (i + 1))
   omega
  ·have h3 := QaK hd
   rw [List.drop_eq_nil_of_le (by omega)]
   exact h3
theorem Qrt {l : List Int} (h : l.length = 3) : ∃ a b c, l = [a, b, c] := by
 match l, h with
 | [a, b, c], _ => exact ⟨a, b, c, rfl⟩
theorem ubt_ : A.bool? (.d (.v (.tuple #[]))) = none := rfl
def smb (x : Int) : Bool := decide (-9223372036854775808 ≤ x ∧ x < 9223372036854775808)
def smv (x : Int) : Int := if -9223372036854775808 ≤ x ∧ x < 9223372036854775808 then x else 0
theorem QmN {x : Int} (h : I64 x) : smb x = true ∧ smv x = x := ⟨decide_eq_true h, if_pos h⟩
theorem Qpn {x : Int} (h : ¬ I64 x) : smb x = false ∧ smv x = 0 := ⟨decide_eq_false h, if_neg h⟩
variable [Its]

section
variable {x : Int} {l : List Int} (hl : digs x.natAbs = l)
def Qqc (x u i : Int) : St := mkS [(1, .ptr [1] 0), (4, au u), (5, ai i)] [([1], bI x)]
def sm_en (x u : Int) : St := mkS [(1, .ptr [1] 0), (4, au u)] [([1], bI x)]
theorem sm_stop (u : Int) : X G Qct (Qqc x u (-1)) = some (.x 0, sm_en x u) := by
 have e1 : decide ((-1 : Int) ≥ 0) = false := rfl
 simp -implicitDefEqProofs (maxSteps := 10000000) only [Qct, Qqc, sm_en, bI, e1, go_sem, reduceCtorEq, ↓reduceIte, Nat.reduceEqDiff, iv]
include hl
theorem sm_go (hv : val l < 18446744073709551616) {i : Nat} (hi : i < l.length) (h3 : l.length ≤ 3) : X G Qct (Qqc x (val (l.drop (i + 1))) i) = some (.n, Qqc x (val (l.drop i)) ((i : Int) - 1)) := by
 have hd : Dig l := hl ▸ Qat _
 have e1 : decide ((i : Int) ≥ 0) = true := ge_t (by omega)
 have e2 : w64 ((i : Int) - 1) = (i : Int) - 1 := Qac (by omega) (by omega)
 have x1 := (Rw.dg l).ixn hi
 have x2 := fun h => ldv h l hi
 have h0 := QaK (hd.drop (i + 1))
 have h1 := hd.getD i
 have h2 := Qgg l i hi
 have h4 := QhH hd i
 have h5 : val (l.drop (i + 1)) * 1000000000 + l.getD i 0 = val (l.drop i) := by omega
 generalize val (l.drop (i + 1)) = u at *
 generalize l.getD i 0 = d at *
 have e3 : u * 1000000000 % 18446744073709551616 = u * 1000000000 := u64m (by omega) (by omega)
 have e4 : d % 18446744073709551616 = d := u64m (by omega) (by omega)
 have e5 : (u * 1000000000 + d) % 18446744073709551616 = val (l.drop i) := by rw [h5]; exact u64m (by omega) (by omega)
 simp -implicitDefEqProofs (maxSteps := 10000000) only [Qct, Qqc, bI, hl, x1, x2, e1, e2, e3, e4, e5, go_sem, reduceCtorEq, ↓reduceIte, Nat.reduceEqDiff, iv]
theorem sm_loop (hv : val l < 18446744073709551616) (h3 : l.length ≤ 3) : ∀ i : Nat, i ≤ l.length → X G (.loop Qct) (Qqc x (val (l.drop i)) ((i : Int) - 1)) = some (.x 0, sm_en x (val l))
 | 0, _ => by
  rw [Qah, show ((0 : Nat) : Int) - 1 = -1 from rfl, sm_stop, List.drop_zero]; rfl
 | i + 1, h => by
  rw [Qah, show ((i + 1 : Nat) : Int) - 1 = (i : Int) by omega, sm_go hl hv (by omega) h3, Option.bind_some, if_pos rfl]
  exact sm_loop hv h3 i (by omega)
end

theorem QoM {x : Int} (hx : nd x ≤ 1000000000000) : Qaj G QgZ [encI x] = some (.d (.tup [iv (smv x), bv (smb x)])) := by
 rw [Qae (cf := integer_Small) rfl]
 obtain ⟨l, hl⟩ : ∃ l, digs x.natAbs = l := ⟨_, rfl⟩
 have hd : Dig l := hl ▸ Qat _
 have hv : val l = x.natAbs := hl ▸ QaE _
 have hn : l.length ≤ 1000000000000 := by rw [← hl]; exact hx
 have ll := QaP l
 by_cases h3 : l.length > 3
 ·have e1 : decide ((l.length : Int) > 3) = true := gt_t (by omega)
  have hb : ¬ I64 x := fun h => by
   have h1 := Qdg h
   unfold nd at h1
   rw [hl] at h1; omega
  obtain ⟨b1, b2⟩ := Qpn hb
  simp -implicitDefEqProofs (maxSteps := 10000000) only [integer_Small, bI, hl, ll, e1, b1, b2, toDs, ubt_, go_sem, reduceCtorEq, ↓reduceIte, Nat.reduceEqDiff, iv, bv]
 have e1 : decide ((l.length : Int) > 3) = false := gt_f (by omega)
 by_cases hc : l.length = 3 ∧ l.getD 2 0 > 9
 ·obtain ⟨a, b, c, rfl⟩ := Qrt hc.1
  have hc2 : c > 9 := hc.2
  have hdig := hd
  rw [Dig.cons, Dig.cons, Dig.cons] at hdig
  obtain ⟨d1, d2, d3, _⟩ := hdig
  have hb : ¬ I64 x := fun ⟨h1, h2⟩ => by
   simp only [val] at hv; omega
  obtain ⟨b1, b2⟩ := Qpn hb
  have e2 : decide (c > 9) = true := gt_t hc2
  have e3 : ((3 : Int) == 3) = true := rfl
  have e4 : ∀ h, ixaA h 1 2 (.d (dg [a, b, c])) = some (.d (.rp [iv c])) := fun h => rfl
  have e5 : ∀ h, QcF h none (.d (.rp [.v (.int .i64 c)])) = some (.d (.v (.int .i64 c))) := fun h => rfl
  have e6 : (((0 + 1 + 1 + 1 : Nat) : Int) == 3) = true := rfl
  simp only [List.length_cons, List.length_nil] at e1
  simp -implicitDefEqProofs (maxSteps := 10000000) only [integer_Small, bI, hl, ll, e1, e2, e3, e4, e5, e6, b1, b2, toDs, ubt_, go_sem, reduceCtorEq, ↓reduceIte, Nat.reduceEqDiff, iv, bv]
  done
 have hlt : val l < 10000000000000000000 := by
  by_cases h4 : l.length = 3
  ·obtain ⟨a, b, c, rfl⟩ := Qrt h4
   have hc2 : ¬ c > 9 := fun h => hc ⟨h4, h⟩
   have hdig := hd
   rw [Dig.cons, Dig.cons, Dig.cons] at hdig
   obtain ⟨d1, d2, d3, _⟩ := hdig
   simp only [val]; omega
  ·have := QeD hd
   have h5 := Qg7 (n := l.length) (m := 2) (by omega)
   have h6 : (1000000000 : Int) ^ 2 = 1000000000000000000 := by decide
   omega
 have hlp := sm_loop hl (by omega) (by omega) l.length (Nat.le_refl _)
 rw [List.drop_length, hv] at hlp
 have e2 : w64 ((l.length : Int) - 1) = (l.length : Int) - 1 := Qac (by omega) (by omega)
 rw [hv] at hlt
 simp only [Qqc, sm_en, bI, go_sem, val] at hlp
 have hcond : ∀ rest : Option (Ex × St), True := fun _ => trivial
 by_cases h4 : l.length = 3
 ·have e3 : ((l.length : Int) == 3) = true := Qk4 (by omega)
  have e4 : ∀ h, ixaA h 1 2 (.d (dg l)) = some (.d (.rp ((l.drop 2).map iv))) := fun h => (Rw.dg l).ixn (j := 2) (by omega) h
  have e5 := fun h => ldv h l (j := 2) (by omega)
  have e6 : decide (l.getD 2 0 > 9) = false := gt_f (fun h => hc ⟨h4, h⟩)
  by_cases hs : x < 0
  ·have s1 : decide (x < 0) = true := lt_t hs
   by_cases hm : -9223372036854775808 ≤ x
   ·obtain ⟨b1, b2⟩ := QmN (x := x) ⟨hm, by omega⟩
    have e7 : decide ((x.natAbs : Int) ≤ 9223372036854775808) = true := le_t (by omega)
    have e8 : (0 - (x.natAbs : Int)) % 18446744073709551616 = 18446744073709551616 - (x.natAbs : Int) := by omega
    have e9 : w64 (18446744073709551616 - (x.natAbs : Int)) = x := by rw [w64_hi (by omega) (by omega)]; omega
    simp -implicitDefEqProofs (maxSteps := 10000000) only [integer_Small, bI, hl, ll, hlp, e1, e2, e3, e4, e5, e6, e7, e8, e9, s1, b1, b2, toDs, ubt_, go_sem, reduceCtorEq, ↓reduceIte, Nat.reduceEqDiff, iv, bv]
   ·obtain ⟨b1, b2⟩ := Qpn (x := x) (fun h => hm h.1)
    have e7 : decide ((x.natAbs : Int) ≤ 9223372036854775808) = false := le_f (by omega)
    simp -implicitDefEqProofs (maxSteps := 10000000) only [integer_Small, bI, hl, ll, hlp, e1, e2, e3, e4, e5, e6, e7, s1, b1, b2, toDs, ubt_, go_sem, reduceCtorEq, ↓reduceIte, Nat.reduceEqDiff, iv, bv]
  ·have s1 : decide (x < 0) = false := lt_f hs
   by_cases hm : x < 9223372036854775808
   ·obtain ⟨b1, b2⟩ := QmN (x := x) ⟨by omega, hm⟩
    have e7 : decide ((x.natAbs : Int) < 9223372036854775808) = true := lt_t (by omega)
    have e9 : w64 (x.natAbs : Int) = x := by rw [Qac (by omega) (by omega)]; omega
    simp -implicitDefEqProofs (maxSteps := 10000000) only [integer_Small, bI, hl, ll, hlp, e1, e2, e3, e4, e5, e6, e7, e9, s1, b1, b2, toDs, ubt_, go_sem, reduceCtorEq, ↓reduceIte, Nat.reduceEqDiff, iv, bv]
   ·obtain ⟨b1, b2⟩ := Qpn (x := x) (fun h => hm h.2)
    have e7 : decide ((x.natAbs : Int) < 9223372036854775808) = false := lt_f (by omega)
    simp -implicitDefEqProofs (maxSteps := 10000000) only [integer_Small, bI, hl, ll, hlp, e1, e2, e3, e4, e5, e6, e7, s1, b1, b2, toDs, ubt_, go_sem, reduceCtorEq, ↓reduceIte, Nat.reduceEqDiff, iv, bv]
 ·have e3 : ((l.length : Int) == 3) = false := QdJ (by omega)
  by_cases hs : x < 0
  ·have s1 : decide (x < 0) = true := lt_t hs
   by_cases hm : -9223372036854775808 ≤ x
   ·obtain ⟨b1, b2⟩ := QmN (x := x) ⟨hm, by omega⟩
    have e7 : decide ((x.natAbs : Int) ≤ 9223372036854775808) = true := le_t (by omega)
    have e8 : (0 - (x.natAbs : Int)) % 18446744073709551616 = 18446744073709551616 - (x.natAbs : Int) := by omega
    have e9 : w64 (18446744073709551616 - (x.natAbs : Int)) = x := by rw [w64_hi (by omega) (by omega)]; omega
    simp -implicitDefEqProofs (maxSteps := 10000000) only [integer_Small, bI, hl, ll, hlp, e1, e2, e3, e7, e8, e9, s1, b1, b2, toDs, ubt_, go_sem, reduceCtorEq, ↓reduceIte, Nat.reduceEqDiff, iv, bv]
   ·obtain ⟨b1, b2⟩ := Qpn (x := x) (fun h => hm h.1)
    have e7 : decide ((x.natAbs : Int) ≤ 9223372036854775808) = false := le_f (by omega)
    simp -implicitDefEqProofs (maxSteps := 10000000) only [integer_Small, bI, hl, ll, hlp, e1, e2, e3, e7, s1, b1, b2, toDs, ubt_, go_sem, reduceCtorEq, ↓reduceIte, Nat.reduceEqDiff, iv, bv]
  ·have s1 : decide (x < 0) = false := lt_f hs
   by_cases hm : x < 9223372036854775808
   ·obtain ⟨b1, b2⟩ := QmN (x := x) ⟨by omega, hm⟩
    have e7 : decide ((x.natAbs : Int) < 9223372036854775808) = true := lt_t (by omega)
    have e9 : w64 (x.natAbs : Int) = x := by rw [Qac (by omega) (by omega)]; omega
    simp -implicitDefEqProofs (maxSteps := 10000000) only [integer_Small, bI, hl, ll, hlp, e1, e2, e3, e7, e9, s1, b1, b2, toDs, ubt_, go_sem, reduceCtorEq, ↓reduceIte, Nat.reduceEqDiff, iv, bv]
   ·obtain ⟨b1, b2⟩ := Qpn (x := x) (fun h => hm h.2)
    have e7 : decide ((x.natAbs : Int) < 9223372036854775808) = false := lt_f (by omega)
    simp -implicitDefEqProofs (maxSteps := 10000000) only [integer_Small, bI, hl, ll, hlp, e1, e2, e3, e7, s1, b1, b2, toDs, ubt_, go_sem, reduceCtorEq, ↓reduceIte, Nat.reduceEqDiff, iv, bv]
end Go.AM

/- ref04.Small. -/
namespace Go.AM
open Go Go.RowKit

theorem sgn_gt {a : Int} : decide (Int.sign a > 0) = decide (0 < a) := by
 apply decide_eq_decide.2
 rcases Int.lt_trichotomy a 0 with h | h | h
 ·rw [Int.sign_eq_neg_one_of_neg h]; omega
 ·subst h; simp
 ·rw [Int.sign_eq_one_of_pos h]; omega
theorem sgn_lt {a : Int} : decide (Int.sign a < 0) = decide (a < 0) := by
 apply decide_eq_decide.2
 rcases Int.lt_trichotomy a 0 with h | h | h
 ·rw [Int.sign_eq_neg_one_of_neg h]; omega
 ·subst h; simp
 ·rw [Int.sign_eq_one_of_pos h]; omega
theorem sgn_ge {a : Int} : decide (Int.sign a ≥ 0) = decide (0 ≤ a) := by
 apply decide_eq_decide.2
 rcases Int.lt_trichotomy a 0 with h | h | h
 ·rw [Int.sign_eq_neg_one_of_neg h]; omega
 ·subst h; simp
 ·rw [Int.sign_eq_one_of_pos h]; omega
theorem sgn_le {a : Int} : decide (Int.sign a ≤ 0) = decide (a ≤ 0) := by
 apply decide_eq_decide.2
 rcases Int.lt_trichotomy a 0 with h | h | h
 ·rw [Int.sign_eq_neg_one_of_neg h]; omega
 ·subst h; simp
 ·rw [Int.sign_eq_one_of_pos h]; omega
theorem sgn_eq {a : Int} : (Int.sign a == 0) = decide (a = 0) := by
 by_cases h : a = 0
 ·subst h; rfl
 ·rw [decide_eq_false h]
  refine QdJ fun h1 => h (Int.sign_eq_zero_iff_zero.1 h1)
variable [Its]
section
variable {x : Int} {l : List Int}
def QjQ (x u i : Int) : St := mkS [(1, .ptr [1] 0), (4, ai u), (5, ai i)] [([1], bI x)]
def Qqx (u : Int) : St := mkS [(4, ai u)] []
theorem rsm_stop (u : Int) : X G Qbn (QjQ x u (-1)) = some (.x 0, Qqx u) := by
 have e1 : decide ((-1 : Int) ≥ 0) = false := rfl
 simp -implicitDefEqProofs (maxSteps := 10000000) only [Qbn, QjQ, Qqx, bI, e1, go_sem, reduceCtorEq, ↓reduceIte, Nat.reduceEqDiff, iv]
theorem rsm_go (hl : digs x.natAbs = l) (hx : I64 x) {i : Nat} (hi : i < l.length) (h3 : l.length ≤ 1000) : X G Qbn (QjQ x (sgn (decide (x < 0)) (val (l.drop (i + 1)))) i) = some (.n, QjQ x (sgn (decide (x < 0)) (val (l.drop i))) ((i : Int) - 1)) := by
 have hd : Dig l := hl ▸ Qat _
 have hv : val l = x.natAbs := hl ▸ QaE _
 have e1 : decide ((i : Int) ≥ 0) = true := ge_t (by omega)
 have e2 : w64 ((i : Int) - 1) = (i : Int) - 1 := Qac (by omega) (by omega)
 have x1 := (Rw.dg l).ixn hi
 have x2 := fun h => ldv h l hi
 have h0 := QaK (hd.drop (i + 1))
 have h1 := hd.getD i
 have h2 := Qgg l i hi
 have h4 := QhH hd i
 have h5 : val (l.drop i) = val (l.drop (i + 1)) * 1000000000 + l.getD i 0 := by omega
 obtain ⟨h6, h7⟩ := hx
 rw [h5]
 generalize val (l.drop (i + 1)) = u at *
 generalize l.getD i 0 = d at *
 by_cases hs : x < 0
 ·have s1 : decide (x < 0) = true := lt_t hs
  have e3 : w64 (-u * 1000000000) = -(u * 1000000000) := by rw [Qac (by omega) (by omega)]; omega
  have e5 : w64 (-(u * 1000000000) - d) = -(u * 1000000000 + d) := by rw [Qac (by omega) (by omega)]; omega
  simp -implicitDefEqProofs (maxSteps := 10000000) only [Qbn, QjQ, bI, sgn, hl, x1, x2, e1, e2, e3, e5, s1, go_sem, reduceCtorEq, ↓reduceIte, Nat.reduceEqDiff, iv]
 ·have s1 : decide (x < 0) = false := lt_f hs
  have e3 : w64 (u * 1000000000) = u * 1000000000 := Qac (by omega) (by omega)
  have e5 : w64 (u * 1000000000 + d) = u * 1000000000 + d := Qac (by omega) (by omega)
  simp -implicitDefEqProofs (maxSteps := 10000000) only [Qbn, QjQ, bI, sgn, hl, x1, x2, e1, e2, e3, e5, s1, go_sem, reduceCtorEq, ↓reduceIte, Nat.reduceEqDiff, iv]
theorem Qqr (hl : digs x.natAbs = l) (hx : I64 x) (h3 : l.length ≤ 1000) : ∀ i : Nat, i ≤ l.length → X G (.loop Qbn) (QjQ x (sgn (decide (x < 0)) (val (l.drop i))) ((i : Int) - 1)) = some (.x 0, Qqx x)
 | 0, _ => by
  have e : sgn (decide (x < 0)) (val (l.drop 0)) = x := by
   rw [List.drop_zero, show val l = x.natAbs from hl ▸ QaE _]
   by_cases hs : x < 0
   ·rw [lt_t hs]; simp only [sgn, if_true]; omega
   ·rw [lt_f hs]; simp only [sgn, Bool.false_eq_true, if_false]; omega
  rw [Qah, show ((0 : Nat) : Int) - 1 = -1 from rfl, rsm_stop, e]; rfl
 | i + 1, h => by
  rw [Qah, show ((i + 1 : Nat) : Int) - 1 = (i : Int) by omega, rsm_go hl hx (by omega) h3, Option.bind_some, if_pos rfl]
  exact Qqr hl hx h3 i (by omega)
end
theorem QpG {x : Int} (hx : nd x ≤ 1000000000000) : Qaj G Qe2 [encI x] = some (.d (.tup [iv (smv x), bv (smb x)])) := by
 rw [Qae (cf := gantryref04_Small) rfl]
 have g1 := QdI (n := 9223372036854775807) ⟨by omega, by omega⟩
 have g2 := QdI (n := -9223372036854775808) ⟨by omega, by omega⟩
 have g3 := QcZ (x := x) (y := 9223372036854775807) hx (Nat.le_trans (Qdg ⟨by omega, by omega⟩) (by omega))
 have g4 := QcZ (x := x) (y := -9223372036854775808) hx (Nat.le_trans (Qdg ⟨by omega, by omega⟩) (by omega))
 simp only [iv] at g1 g2 g3 g4
 have c1 := sgn_gt (a := x - 9223372036854775807)
 have c2 := sgn_lt (a := x - -9223372036854775808)
 generalize Int.sign (x - 9223372036854775807) = s1 at *
 generalize Int.sign (x - -9223372036854775808) = s2 at *
 by_cases h1 : 0 < x - 9223372036854775807
 ·rw [gt_t h1] at c1
  obtain ⟨b1, b2⟩ := Qpn (x := x) (fun h => by have := h.2; omega)
  simp -implicitDefEqProofs (maxSteps := 10000000) only [gantryref04_Small, bI, g1, g2, g3, g4, c1, b1, b2, toDs, ubt_, go_sem, reduceCtorEq, ↓reduceIte, Nat.reduceEqDiff, iv, bv]
 rw [gt_f h1] at c1
 by_cases h2 : x - -9223372036854775808 < 0
 ·rw [lt_t h2] at c2
  obtain ⟨b1, b2⟩ := Qpn (x := x) (fun h => by have := h.1; omega)
  simp -implicitDefEqProofs (maxSteps := 10000000) only [gantryref04_Small, bI, g1, g2, g3, g4, c1, c2, b1, b2, toDs, ubt_, go_sem, reduceCtorEq, ↓reduceIte, Nat.reduceEqDiff, iv, bv]
 rw [lt_f h2] at c2
 have hI : I64 x := ⟨by omega, by omega⟩
 obtain ⟨b1, b2⟩ := QmN hI
 obtain ⟨l, hl⟩ : ∃ l, digs x.natAbs = l := ⟨_, rfl⟩
 have h3 : l.length ≤ 3 := by rw [← hl]; exact Qdg hI
 have ll := QaP l
 have e2 : w64 ((l.length : Int) - 1) = (l.length : Int) - 1 := Qac (by omega) (by omega)
 have hlp := Qqr hl hI (by omega) l.length (Nat.le_refl _)
 have e0 : sgn (decide (x < 0)) 0 = 0 := by cases decide (x < 0) <;> rfl
 rw [List.drop_length, val, e0] at hlp
 simp only [QjQ, Qqx, bI, go_sem] at hlp
 simp -implicitDefEqProofs (maxSteps := 10000000) only [gantryref04_Small, bI, g1, g2, g3, g4, c1, c2, b1, b2, hl, ll, e2, hlp, toDs, ubt_, go_sem, reduceCtorEq, ↓reduceIte, Nat.reduceEqDiff, iv, bv]
end Go.AM

/- Square roots of whole numbers: Newton's step, and halving. -/
namespace Go.AM

def IsRt (s x : Int) : Prop := 0 ≤ s ∧ s * s ≤ x ∧ x < (s + 1) * (s + 1)
theorem Qlj {a b : Int} (ha : 0 ≤ a) (h : a ≤ b) : a * a ≤ b * b := Int.mul_le_mul h h ha (by omega)
theorem rt_le {s x t : Int} (h : IsRt s x) (ht : 0 ≤ t) (h2 : t * t ≤ x) : t ≤ s := by
 obtain ⟨h0, _, h1⟩ := h
 by_cases hc : t ≤ s
 ·exact hc
 ·have := Qlj (a := s + 1) (b := t) (by omega) (by omega)
  omega
theorem rt_gt {s x t : Int} (h : IsRt s x) (ht : 0 ≤ t) (h2 : x < t * t) : s < t := by
 obtain ⟨h0, h1, _⟩ := h
 by_cases hc : s < t
 ·exact hc
 ·have := Qlj (a := t) (b := s) (by omega) (by omega)
  omega
theorem rt_uniq {s t x : Int} (h : IsRt s x) (k : IsRt t x) : s = t := by
 have h1 := rt_le h k.1 k.2.1
 have h2 := rt_le k h.1 h.2.1
 omega
theorem sq_dif (s r : Int) : 0 ≤ s * s - 2 * (s * r) + r * r := by
 have e : s * s - 2 * (s * r) + r * r = (s - r) * (s - r) := by grind
 rw [e]
 rcases Int.le_total s r with h | h
 ·have := Int.mul_nonneg (a := r - s) (b := r - s) (by omega) (by omega)
  have e2 : (r - s) * (r - s) = (s - r) * (s - r) := by grind
  omega
 ·exact Int.mul_nonneg (by omega) (by omega)
theorem newton_ge {s x r : Int} (h : IsRt s x) (hr : 0 < r) : s ≤ (r + x / r) / 2 := by
 obtain ⟨h0, h1, _⟩ := h
 have e : (2 * s - r) * r ≤ x := by
  have := sq_dif s r
  have e : (2 * s - r) * r = 2 * (s * r) - r * r := by grind
  omega
 have := (Int.le_ediv_iff_mul_le hr).2 e
 generalize x / r = t at *
 omega
theorem newton_lt {s x r : Int} (h : IsRt s x) (hr : s < r) : (r + x / r) / 2 < r := by
 obtain ⟨h0, _, h1⟩ := h
 have h2 := Qlj (a := s + 1) (b := r) (by omega) (by omega)
 have h3 : x / r < r := Int.ediv_lt_of_lt_mul (by omega) (by omega)
 generalize x / r = t at *
 omega
theorem rt_pos {s x : Int} (h : IsRt s x) (hx : 0 < x) : 0 < s := by
 obtain ⟨h0, h1, h2⟩ := h
 rcases Int.lt_or_eq_of_le h0 with h3 | h3
 ·exact h3
 ·subst h3
  exfalso
  have : (0 + 1) * (0 + 1) = (1 : Int) := by decide
  omega
theorem half_lt {lo hi : Int} (h : lo + 1 < hi) : lo < (lo + hi) / 2 ∧ (lo + hi) / 2 < hi := by omega
end Go.AM

/- integer.Root, ref04.Root. -/
namespace Go.AM
open Go Go.RowKit

theorem Qm8 {x r : Int} : nd (x / r) ≤ nd x := QgJ (by
 rcases Int.lt_trichotomy r 0 with h | h | h
 ·exact Int.natAbs_ediv_le_natAbs _ _
 ·subst h; simp
 ·exact Int.natAbs_ediv_le_natAbs _ _)
theorem Qid {x y : Int} (h0 : 0 ≤ x) (h : x ≤ y) : nd x ≤ nd y := QgJ (by omega)
theorem Qq0 (m : Nat) : val (List.replicate m 0 ++ [1]) = (1000000000 : Int) ^ m := by
 rw [QeW, QdT, List.length_replicate]
 simp [val]
theorem dig_one (m : Nat) : Dig (List.replicate m 0 ++ [1]) := by
 rw [Dig.append]
 exact ⟨Dig.replicate m, fun d hd => by simp at hd; omega⟩
theorem two_ne : ((2 : Int) = 0) = False := by simp
variable [Its]
def Qn3 (x r : Int) : St := mkS [(1, .ptr [1] 0), (2, .ptr [2] 0), (4, .ptr [4] 0)] [([1], bI x), ([2], ⟨0, 0, [.d (.v (.bool false)), .d (.z true)], false⟩), ([4], bI r)]
theorem rt_go {x r : Int} (hr : 0 < r) (hx : nd x ≤ 100000000000) (hk : nd r ≤ 100000000000) :
    X G Qdm (Qn3 x r) = if (r + x / r) / 2 ≥ r then some (.x 0, Qn3 x r) else some (.n, Qn3 x ((r + x / r) / 2)) := by
  have g1 := Qkw (x := x) (y := r) (by omega) (by omega) (by omega)
  have n1 := Qm8 (x := x) (r := r)
  have g2 := Qng (x := r) (y := x / r) (by omega) (by omega)
  have n2 := QkG (x := r) (y := x / r) (k := 100000000000) hk (by omega)
  have g3 := QhO (n := 2) ⟨by omega, by omega⟩
  have g4 := Qkw (x := r + x / r) (y := 2) (by omega) (by omega) (Nat.le_trans (Qdg ⟨by omega, by omega⟩) (by omega))
  have n3 := Qm8 (x := r + x / r) (r := 2)
  have g5 := Qfq (x := (r + x / r) / 2) (y := r) (by omega) (by omega)
  have c := sgn_ge (a := (r + x / r) / 2 - r)
  simp only [iv] at g3 g5
  generalize (r + x / r) % 2 = m2 at *
  obtain ⟨nx, hnx⟩ : ∃ nx, (r + x / r) / 2 = nx := ⟨_, rfl⟩
  rw [hnx] at g4 g5 c ⊢
  generalize x / r = q at *
  generalize x % r = m1 at *
  generalize r + q = s at *
  generalize Int.sign (nx - r) = sg at *
  by_cases h : nx ≥ r
  · rw [show decide (0 ≤ nx - r) = true from decide_eq_true (by omega)] at c
    rw [if_pos h]
    simp -implicitDefEqProofs (maxSteps := 10000000) only [Qdm, Qn3, bI, g1, g2, g3, g4, g5, c, extA, go_sem, reduceCtorEq, ↓reduceIte, Nat.reduceEqDiff, iv]
  · rw [show decide (0 ≤ nx - r) = false from decide_eq_false (by omega)] at c
    rw [if_neg h]
    simp -implicitDefEqProofs (maxSteps := 10000000) only [Qdm, Qn3, bI, g1, g2, g3, g4, g5, c, extA, go_sem, reduceCtorEq, ↓reduceIte, Nat.reduceEqDiff, iv]
theorem rt_loop {x s : Int} (hx : nd x ≤ 100000000000) (hs : IsRt s x) (hs0 : 0 < s) : ∀ (n : Nat) (r : Int), r.toNat ≤ n → s ≤ r → nd r ≤ 100000000000 → X G (.loop Qdm) (Qn3 x r) = some (.x 0, Qn3 x s)
 | 0, r, hn, hr, hk => by omega
 | n + 1, r, hn, hr, hk => by
  rw [Qah, rt_go (by omega) hx hk]
  have h1 := newton_ge hs (r := r) (by omega)
  by_cases h : s < r
  ·have h2 := newton_lt hs h
   generalize (r + x / r) / 2 = nx at *
   rw [if_neg (by omega), Option.bind_some, if_pos rfl]
   exact rt_loop hx hs hs0 n nx (by omega) h1 (Nat.le_trans (Qid (by omega) (by omega)) hk)
  ·have : r = s := by omega
   subst this
   generalize (r + x / r) / 2 = nx at *
   rw [if_pos (by omega)]
   rfl
theorem Root_spec {x s : Int} (hx : nd x ≤ 10000000000) (h0 : 0 ≤ x) (hs : IsRt s x) : Qaj G Qhk [encI x] = some (.d (.tup [encI s, bv (decide (s * s = x))])) := by
 rw [Qae (cf := integer_Root) rfl]
 obtain ⟨l, hl⟩ : ∃ l, digs x.natAbs = l := ⟨_, rfl⟩
 have ll := QaP l
 have s1 : decide (x < 0) = false := lt_f (by omega)
 have hn : l.length ≤ 10000000000 := by rw [← hl]; exact hx
 by_cases hx0 : x = 0
 ·subst hx0
  have hs0 : s = 0 := by
   obtain ⟨h1, h2, _⟩ := hs
   have := sq_dif s 0
   rcases Int.lt_or_eq_of_le h1 with h3 | h3
   ·have : 0 < s * s := Int.mul_pos h3 h3
    omega
   ·exact h3.symm
  subst hs0
  have e1 : ((l.length : Int) == 0) = true := by rw [← hl]; exact Qk4 (by rw [show (0 : Int).natAbs = 0 from rfl, QaH]; rfl)
  have e2 : decide ((0 : Int) * 0 = 0) = true := rfl
  have e3 := QnH
  have st0 : ∀ u v : A, Qaf 0 [A.d (.v (.bool false)), A.d (.z true)] [u, v] = some [A.d (.v (.bool false)), A.d (.z true)] := fun _ _ => rfl
  have ld0 : Qab (some 2) 0 [A.d (.v (.bool false)), A.d (.z true)] = some (.d (encI 0)) := by rw [← QnH]; rfl
  simp -implicitDefEqProofs (maxSteps := 10000000) only [integer_Root, bI, hl, ll, s1, e1, e2, st0, ld0, QbW, ne_eq, not_false_eq_true, toDs, go_sem, reduceCtorEq, ↓reduceIte, Nat.reduceEqDiff, iv, bv]
 have hsp := rt_pos hs (show 0 < x by omega)
 have e1 : ((l.length : Int) == 0) = false := QdJ (by
  have : 0 < (digs x.natAbs).length := digs_length_pos.2 (by omega)
  rw [hl] at this; omega)
 obtain ⟨m, hm⟩ : ∃ m, (l.length + 1) / 2 = m := ⟨_, rfl⟩
 have e2 : w64 ((l.length : Int) + 1) = ((l.length + 1 : Nat) : Int) := by rw [Qac (by omega) (by omega)]; rfl
 have e3 : w64 (((l.length + 1 : Nat) : Int).tdiv 2) = (m : Int) := by
  rw [Qdi (by omega), ← hm]
  exact Qac (by omega) (by omega)
 have e4 := bnd m (by omega)
 have o1 := Qed false (Rw.row (List.replicate m 0 ++ [1])) (by simp; omega) (dig_one m)
 rw [Qq0] at o1
 have hdr : (digs x.natAbs).length ≤ m + m := by rw [hl]; omega
 have hlt : s ≤ (1000000000 : Int) ^ m := by
  have h1 := Qdz x
  have h2 : x.natAbs < 1000000000 ^ (m + m) := Nat.lt_of_lt_of_le h1 (QiN hdr)
  have h3 : x < (1000000000 : Int) ^ m * (1000000000 : Int) ^ m := by
   rw [← Int.pow_add]
   have h4 : ((1000000000 ^ (m + m) : Nat) : Int) = (1000000000 : Int) ^ (m + m) := by simp
   rw [← h4]; omega
  have := rt_gt hs (t := (1000000000 : Int) ^ m) (Int.le_of_lt (Qcp m)) h3
  omega
 have hk : nd ((1000000000 : Int) ^ m) ≤ m + 1 := QoY (by
  have h4 : ((1000000000 : Int) ^ m).natAbs = 1000000000 ^ m := by rw [Int.natAbs_pow]; rfl
  rw [h4]
  exact Nat.pow_lt_pow_right (by omega) (by omega))
 have hlp := rt_loop (Nat.le_trans hx (by omega)) hs hsp _ _ (Nat.le_refl _) hlt (by omega)
 have hss : sgn false ((1000000000 : Int) ^ m) = (1000000000 : Int) ^ m := rfl
 rw [hss] at o1
 generalize (1000000000 : Int) ^ m = R at *
 have ns : nd s ≤ 10000000000 := by
  refine Nat.le_trans (Qid (by omega) hlt) (by omega)
 have g1 := QeQ (x := s) (y := s) (by omega) (by omega)
 have n2 := Qc9 (x := s) (y := s)
 have g2 := Qfq (x := s * s) (y := x) (by omega) (by omega)
 have c := sgn_eq (a := s * s - x)
 have c2 : decide (s * s - x = 0) = decide (s * s = x) := decide_eq_decide.2 (by omega)
 rw [c2] at c
 generalize s * s = ss at *
 generalize Int.sign (ss - x) = sg at *
 simp only [iv, bv, rowI, List.length_append, List.length_replicate, List.length_cons, List.length_nil, List.map_append, List.map_cons, List.map_nil, Nat.zero_add] at o1 g2
 simp only [Qn3, bI, go_sem] at hlp
 have f1 := Qjr m
 have f2 := QbU (List.replicate m 0)
 have f3 : (QbL (List.replicate m 0)).length = m := by rw [Qai, List.length_replicate]
 have f4 : (m + 1) * 8 ≤ bound := by simp only [bound]; omega
 have f5 : List.all [D.v (.int .i64 1)] D.one = true := rfl
 simp -implicitDefEqProofs (maxSteps := 10000000) only [integer_Root, bI, hl, ll, s1, e1, e2, e3, e4, two_ne, f1, f2, f3, f4, f5, o1, g1, g2, hlp, c, Qd0, toDs, go_sem, reduceCtorEq, ↓reduceIte, Nat.reduceEqDiff, iv, bv]
end Go.AM

/- ref04.Root. -/
namespace Go.AM
open Go Go.RowKit
theorem nd_1 : nd 1 ≤ 3 := Qdg ⟨by omega, by omega⟩
theorem nd_2 : nd 2 ≤ 3 := Qdg ⟨by omega, by omega⟩
variable [Its]
def Qny (x lo hi : Int) : St := mkS [(1, .ptr [1] 0), (2, .ptr [2] 0), (4, .ptr [4] 0), (5, .ptr [5] 0), (6, .ptr [6] 0), (7, .ptr [7] 0)] [([1], bI x), ([2], box0), ([4], bI lo), ([5], bI hi), ([6], bI 1), ([7], bI 2)]
def Qss (x lo : Int) : St := mkS [(1, .ptr [1] 0), (2, .ptr [2] 0), (4, .ptr [4] 0)] [([1], bI x), ([2], box0), ([4], bI lo)]
theorem rr_stop {x lo hi : Int} (h : ¬ lo + 1 < hi) (hk : nd lo ≤ 100000000000) (hk2 : nd hi ≤ 100000000000) : X G QbE (Qny x lo hi) = some (.x 0, Qss x lo) := by
 have g1 := Qgw (x := lo) (y := 1) (by omega) (Nat.le_trans nd_1 (by omega))
 have n1 := QkG (x := lo) (y := 1) (k := 100000000000) hk (Nat.le_trans nd_1 (by omega))
 have g2 := QcZ (x := lo + 1) (y := hi) (by omega) (by omega)
 have c := sgn_lt (a := lo + 1 - hi)
 rw [show decide (lo + 1 - hi < 0) = false from decide_eq_false (by omega)] at c
 generalize Int.sign (lo + 1 - hi) = s at *
 generalize lo + 1 = t at *
 simp only [iv] at g2
 simp -implicitDefEqProofs (maxSteps := 10000000) only [QbE, Qny, Qss, box0, bI, g1, g2, c, extA, go_sem, reduceCtorEq, ↓reduceIte, Nat.reduceEqDiff, iv]
theorem rr_go {x lo hi : Int} (h : lo + 1 < hi) (h0 : 0 ≤ lo) (hx : nd x ≤ 100000000000) (hk : nd lo ≤ 100000000000) (hk2 : nd hi ≤ 100000000000) :
    X G QbE (Qny x lo hi) = some (.n, if (lo + hi) / 2 * ((lo + hi) / 2) ≤ x then Qny x ((lo + hi) / 2) hi else Qny x lo ((lo + hi) / 2)) := by
  have g1 := Qgw (x := lo) (y := 1) (by omega) (Nat.le_trans nd_1 (by omega))
  have n1 := QkG (x := lo) (y := 1) (k := 100000000000) hk (Nat.le_trans nd_1 (by omega))
  have g2 := QcZ (x := lo + 1) (y := hi) (by omega) (by omega)
  have c := sgn_lt (a := lo + 1 - hi)
  rw [show decide (lo + 1 - hi < 0) = true from decide_eq_true (by omega)] at c
  have g3 := Qgw (x := lo) (y := hi) (by omega) (by omega)
  have n2 := QkG (x := lo) (y := hi) (k := 100000000000) hk hk2
  have g4 := QiV (x := lo + hi) (y := 2) (by omega) (by omega) (Nat.le_trans nd_2 (by omega))
  have n3 := Qm8 (x := lo + hi) (r := 2)
  generalize (lo + hi) % 2 = m2 at *
  obtain ⟨mid, hmid⟩ : ∃ mid, (lo + hi) / 2 = mid := ⟨_, rfl⟩
  rw [hmid] at g4 n3 ⊢
  have g5 := QdD (x := mid) (y := mid) (by omega) (by omega)
  have n4 := Qc9 (x := mid) (y := mid)
  have g6 := QcZ (x := mid * mid) (y := x) (by omega) (by omega)
  have d := sgn_le (a := mid * mid - x)
  simp only [iv] at g2 g6
  clear n1 n2 n3 n4 hmid
  generalize Int.sign (lo + 1 - hi) = s at *
  generalize Int.sign (mid * mid - x) = s2 at *
  generalize lo + 1 = t at *
  generalize lo + hi = u at *
  generalize mid * mid = mm at *
  by_cases hc : mm ≤ x
  · rw [show decide (mm - x ≤ 0) = true from decide_eq_true (by omega)] at d
    rw [if_pos hc]
    simp -implicitDefEqProofs (maxSteps := 10000000) only [QbE, Qny, Qss, box0, bI, g1, g2, g3, g4, g5, g6, c, d, extA, go_sem, reduceCtorEq, ↓reduceIte, Nat.reduceEqDiff, iv]
  · rw [show decide (mm - x ≤ 0) = false from decide_eq_false (by omega)] at d
    rw [if_neg hc]
    simp -implicitDefEqProofs (maxSteps := 10000000) only [QbE, Qny, Qss, box0, bI, g1, g2, g3, g4, g5, g6, c, d, extA, go_sem, reduceCtorEq, ↓reduceIte, Nat.reduceEqDiff, iv]
theorem Qp5 {x s : Int} (hx : nd x ≤ 100000000000) (hs : IsRt s x) : ∀ (n : Nat) (lo hi : Int), (hi - lo).toNat ≤ n → 0 ≤ lo → lo < hi → lo * lo ≤ x → x < hi * hi → nd hi ≤ 100000000000 → X G (.loop QbE) (Qny x lo hi) = some (.x 0, Qss x s)
  | n, lo, hi, hn, h0, h1, h2, h3, hk => by
    rw [Qah]
    have hl : nd lo ≤ 100000000000 := Nat.le_trans (Qid h0 (by omega)) hk
    by_cases h : lo + 1 < hi
    · obtain ⟨a, b⟩ := half_lt h
      rw [rr_go h h0 hx hl hk, Option.bind_some, if_pos rfl]
      generalize (lo + hi) / 2 = mid at *
      cases n with
      | zero => omega
      | succ n =>
        by_cases hc : mid * mid ≤ x
        · rw [if_pos hc]
          exact Qp5 hx hs n mid hi (by omega) (by omega) b hc h3 hk
        · rw [if_neg hc]
          exact Qp5 hx hs n lo mid (by omega) h0 a h2 (by omega) (Nat.le_trans (Qid (by omega) (by omega)) hk)
    · have e : s = lo := rt_uniq hs ⟨h0, h2, by
        have : hi = lo + 1 := by omega
        rw [← this]; exact h3⟩
      subst e
      rw [rr_stop h hl hk]
      rfl
theorem QsD {x s : Int} (hx : nd x ≤ 10000000000) (h0 : 0 ≤ x) (hs : IsRt s x) : Qaj G Qfx [encI x] = some (.d (.tup [encI s, bv (decide (s * s = x))])) := by
 rw [Qae (cf := gantryref04_Root) rfl]
 obtain ⟨l, hl⟩ : ∃ l, digs x.natAbs = l := ⟨_, rfl⟩
 have ll := QaP l
 have s1 : decide (x < 0) = false := lt_f (by omega)
 have hn : l.length ≤ 10000000000 := by rw [← hl]; exact hx
 obtain ⟨m, hm⟩ : ∃ m, l.length / 2 + 1 = m := ⟨_, rfl⟩
 have e2 : w64 ((l.length : Int).tdiv 2) = ((l.length / 2 : Nat) : Int) := by
  rw [Qdi (by omega)]
  exact Qac (by omega) (by omega)
 have e3 : w64 (((l.length / 2 : Nat) : Int) + 1) = (m : Int) := by
  rw [← hm]
  exact Qac (by omega) (by omega)
 have e4 := bnd m (by omega)
 have o1 := Qbm false (Rw.row (List.replicate m 0 ++ [1])) (by simp; omega) (dig_one m)
 rw [Qq0] at o1
 have hdr : (digs x.natAbs).length ≤ m + m := by rw [hl]; omega
 have hlt : x < (1000000000 : Int) ^ m * (1000000000 : Int) ^ m := by
  have h1 := Qdz x
  have h2 : x.natAbs < 1000000000 ^ (m + m) := Nat.lt_of_lt_of_le h1 (QiN hdr)
  rw [← Int.pow_add]
  have h4 : ((1000000000 ^ (m + m) : Nat) : Int) = (1000000000 : Int) ^ (m + m) := by simp
  rw [← h4]; omega
 have hk : nd ((1000000000 : Int) ^ m) ≤ m + 1 := QoY (by
  have h4 : ((1000000000 : Int) ^ m).natAbs = 1000000000 ^ m := by rw [Int.natAbs_pow]; rfl
  rw [h4]
  exact Nat.pow_lt_pow_right (by omega) (by omega))
 have hlp := Qp5 (Nat.le_trans hx (by omega)) hs _ 0 ((1000000000 : Int) ^ m) (Nat.le_refl _) (by omega) (Qcp m) (by simpa using h0) hlt (by omega)
 have hss : sgn false ((1000000000 : Int) ^ m) = (1000000000 : Int) ^ m := rfl
 rw [hss] at o1
 have hsR : s < (1000000000 : Int) ^ m := rt_gt hs (Int.le_of_lt (Qcp m)) hlt
 generalize (1000000000 : Int) ^ m = R at *
 have ns : nd s ≤ 10000000000 := Nat.le_trans (Qid hs.1 (Int.le_of_lt hsR)) (by omega)
 have g1 := QdD (x := s) (y := s) (by omega) (by omega)
 have n2 := Qc9 (x := s) (y := s)
 have g2 := QcZ (x := s * s) (y := x) (by omega) (by omega)
 have g3 := QdI (n := 1) ⟨by omega, by omega⟩
 have g4 := QdI (n := 2) ⟨by omega, by omega⟩
 have c := sgn_eq (a := s * s - x)
 have c2 : decide (s * s - x = 0) = decide (s * s = x) := decide_eq_decide.2 (by omega)
 rw [c2] at c
 clear hlt hsR
 generalize s * s = ss at *
 generalize Int.sign (ss - x) = sg at *
 simp only [iv, bv, rowI, List.length_append, List.length_replicate, List.length_cons, List.length_nil, List.map_append, List.map_cons, List.map_nil, Nat.zero_add] at o1 g2 g3 g4
 simp only [Qny, Qss, box0, bI, go_sem] at hlp
 have f1 := Qjr m
 have f2 := QbU (List.replicate m 0)
 have f3 : (QbL (List.replicate m 0)).length = m := by rw [Qai, List.length_replicate]
 have f4 : (m + 1) * 8 ≤ bound := by simp only [bound]; omega
 have f5 : List.all [D.v (.int .i64 1)] D.one = true := rfl
 have z1 := QnH
 simp -implicitDefEqProofs (maxSteps := 10000000) only [gantryref04_Root, bI, hl, ll, s1, e2, e3, e4, two_ne, f1, f2, f3, f4, f5, o1, g1, g2, g3, g4, z1, hlp, c, Qd0, toDs, go_sem, reduceCtorEq, ↓reduceIte, Nat.reduceEqDiff, iv, bv]
end Go.AM

/- Points, directions, edges: rows of them; ref12's small functions. -/
namespace Go.AM
open Go Go.RowKit

abbrev Pt := Int × Int
abbrev Dr := Int × Int × Int
abbrev Eg := Dr × Int
def cP (p : Pt) : List D := [iv p.1, iv p.2]
def cD (d : Dr) : List D := [iv d.1, iv d.2.1, iv d.2.2]
def cG (e : Eg) : List D := [iv e.1.1, iv e.1.2.1, iv e.1.2.2, iv e.2]
def encP (p : Pt) : D := .agg (cP p)
def encD (d : Dr) : D := .agg (cD d)
def encG (e : Eg) : D := .agg (cG e)
theorem QaJ (p : Pt) : (cP p).length = 2 := rfl
theorem QoV (p : Dr) : (cD p).length = 3 := rfl
theorem Qeb (p : Eg) : (cG p).length = 4 := rfl

/-! ### Rows of things of es cells -/
section
variable {α : Type} {en : α → List D} {es : Nat}
def rowE (en : α → List D) (l : List α) : D := .row l.length (l.flatMap en)
def RwE (en : α → List D) (d : D) (l : List α) : Prop := (d = .z true ∧ l = []) ∨ d = rowE en l
def dE (en : α → List D) (l : List α) : D := if l = [] then .z true else rowE en l
theorem dE_ok (l : List α) : RwE en (dE en l) l := by
 unfold dE
 split
 ·rename_i h; exact .inl ⟨rfl, h⟩
 ·exact .inr rfl
theorem QqO (hE : ∀ a, (en a).length = es) : ∀ l : List α, (l.flatMap en).length = l.length * es
 | [] => by simp
 | a :: l => by rw [List.flatMap_cons, List.length_append, hE, QqO hE l, List.length_cons, Nat.succ_mul, Nat.add_comm]
theorem QgC (hE : ∀ a, (en a).length = es) : ∀ (l : List α) (j : Nat), (l.flatMap en).drop (j * es) = (l.drop j).flatMap en
 | l, 0 => by simp
 | [], j + 1 => by simp
 | a :: l, j + 1 => by
  rw [List.flatMap_cons, List.drop_succ_cons, ← QgC hE l j, Nat.succ_mul, Nat.add_comm, ← List.drop_drop]
  rw [List.drop_left' (hE a)]
theorem RwE.len {d : D} {l : List α} (h : RwE en d l) : lenA (.d d) = some l.length := by
 rcases h with ⟨rfl, rfl⟩ | rfl <;> rfl
theorem RwE.ixa (hE : ∀ a, (en a).length = es) {d : D} {l : List α} (hr : RwE en d l) {j : Nat} (h1 : j < l.length) (h : Hp) : ixaA h es (j : Int) (.d d) = some (.d (.rp ((l.drop j).flatMap en))) := by
 rcases hr with ⟨rfl, rfl⟩ | rfl
 ·simp at h1
 ·simp only [rowE, ixaA, guardO]
  rw [if_pos ⟨by omega, by omega⟩]
  simp only [Int.toNat_natCast]
  rw [QgC hE]
theorem QcQ [Inhabited α]  {l : List α} {j : Nat} (h : j < l.length) : l.drop j = l.getD j default :: l.drop (j + 1) := by
 rw [List.drop_eq_getElem_cons h, List.getD_eq_getElem?_getD, List.getElem?_eq_getElem h, Option.getD_some]
theorem ldE [Inhabited α] (hE : ∀ a, (en a).length = es) (h : Hp) {l : List α} {j : Nat} (h1 : j < l.length) : QcF h (some es) (.d (.rp ((l.drop j).flatMap en))) = some (.d (.agg (en (l.getD j default)))) := by
 rw [QcQ h1, List.flatMap_cons]
 simp only [QcF, Qja, guardO]
 rw [if_pos (by rw [List.length_append, hE]; omega)]
 have : (en (l.getD j default) ++ (l.drop (j + 1)).flatMap en).take es = en (l.getD j default) := by
  rw [List.take_append_of_le_length (by rw [hE]; omega), List.take_of_length_le (by rw [hE]; omega)]
 rw [this]
theorem ldF [Inhabited α] (hE : ∀ a, (en a).length = es) (h : Hp) {l : List α} {j i : Nat} (h1 : j < l.length) (hi : i < es) : QcF h none (.d (.rp (((l.drop j).flatMap en).drop i))) = ((en (l.getD j default))[i]?).map .d := by
 rw [QcQ h1, List.flatMap_cons]
 simp only [QcF, Qja]
 rw [List.head?_drop, List.getElem?_append_left (by rw [hE]; exact hi)]
def gAE (k : Nat) (l : List α) : A := if l = [] then .d (.z true) else .own [k] l.length
def arE (en : α → List D) (es n : Nat) (l : List α) : Obj := ⟨es, n, (l.flatMap en).map .d, false⟩
def gHE (en : α → List D) (es k : Nat) (l : List α) : List (Key × Obj) := if l = [] then [] else [([k], arE en es l.length l)]
theorem Qbd (k : Nat) : gAE k ([] : List α) = .d (.z true) := rfl
theorem Qbc (k : Nat) : gHE en es k [] = [] := rfl
theorem Qbt {k : Nat} {l : List α} (h : l ≠ []) : gAE k l = .own [k] l.length := if_neg h
theorem Qbu {k : Nat} {l : List α} (h : l ≠ []) : gHE en es k l = [([k], arE en es l.length l)] := if_neg h
theorem Qia (k : Nat) (l : List α) (v : α) : gAE k (l ++ [v]) = .own [k] (l.length + 1) := by rw [Qbt (by simp)]; simp
theorem Qh2 (k : Nat) (l : List α) (v : α) : gHE en es k (l ++ [v]) = [([k], arE en es (l.length + 1) (l ++ [v]))] := by rw [Qbu (by simp)]; simp
theorem Qay (ks : List Key) : ∀ cs : List D, QfO ks (cs.map A.d) = true
 | [] => rfl
 | x :: r => by rw [List.map_cons, QfO, Qay ks r]; rfl
theorem Qhi (cs : List D) : allD (cs.map A.d) = some cs := Qk0 cs
theorem lenE (hE : ∀ a, (en a).length = es) (l : List α) : ((l.flatMap en).map A.d).length = l.length * es := by rw [List.length_map, QqO hE]
theorem ldO [Inhabited α] (hE : ∀ a, (en a).length = es) {l : List α} {j : Nat} (h1 : j < l.length) : Qab (some es) (j * es) ((l.flatMap en).map A.d) = some (.d (.agg (en (l.getD j default)))) := by
 have h2 : j * es + es ≤ l.length * es := by rw [← Nat.succ_mul]; exact Nat.mul_le_mul_right _ h1
 simp only [Qab, guardO]
 rw [if_pos (by rw [lenE hE]; exact h2), ← List.map_drop, QgC hE, ← List.map_take, Qhi, QcQ h1, List.flatMap_cons, List.take_append_of_le_length (by rw [hE]; omega), List.take_of_length_le (by rw [hE]; omega)]
 rfl
def rE (en : α → List D) (es : Nat) (l : List α) : R := if l = [] then .d (.z true) else .own es l.length (l.flatMap en)
theorem Qsn {l : List α} (h : l ≠ []) : rE en es l = .own es l.length (l.flatMap en) := if_neg h
end
theorem Qlh (l : List Pt) (x y : Int) : (l.flatMap cP).map A.d ++ [.d (.v (.int .i64 x)), .d (.v (.int .i64 y))] = ((l ++ [(x, y)]).flatMap cP).map A.d := by simp [cP, iv]
theorem cD_snoc (l : List Dr) (x y z : Int) : (l.flatMap cD).map A.d ++ [.d (.v (.int .i64 x)), .d (.v (.int .i64 y)), .d (.v (.int .i64 z))] = ((l ++ [(x, y, z)]).flatMap cD).map A.d := by simp [cD, iv]
theorem QpI (l : List Eg) (x y z t : Int) : (l.flatMap cG).map A.d ++ [.d (.v (.int .i64 x)), .d (.v (.int .i64 y)), .d (.v (.int .i64 z)), .d (.v (.int .i64 t))] = ((l ++ [((x, y, z), t)]).flatMap cG).map A.d := by simp [cG, iv]
theorem Qhp (a b : D) : rep 1 [a, b] = [a, b] := rfl
theorem rep1_3 (a b c : D) : rep 1 [a, b, c] = [a, b, c] := rfl
theorem QjX (a b c d : D) : rep 1 [a, b, c, d] = [a, b, c, d] := rfl
theorem oneI (k : IntKind) (x : Int) : (D.v (.int k x)).one = true := rfl
theorem Qoq (x y : Int) : ([(x, y)] : List Pt).flatMap cP = [.v (.int .i64 x), .v (.int .i64 y)] := rfl
theorem flat1D (x y z : Int) : ([(x, y, z)] : List Dr).flatMap cD = [.v (.int .i64 x), .v (.int .i64 y), .v (.int .i64 z)] := rfl
theorem flat1G (x y z t : Int) : ([((x, y, z), t)] : List Eg).flatMap cG = [.v (.int .i64 x), .v (.int .i64 y), .v (.int .i64 z), .v (.int .i64 t)] := rfl

def Sm (n : Int) : Prop := -100000000 ≤ n ∧ n ≤ 100000000
def SmP (p : Pt) : Prop := Sm p.1 ∧ Sm p.2
def SmD (d : Dr) : Prop := Sm d.1 ∧ Sm d.2.1 ∧ Sm d.2.2

def Qlk (a b : Int) : St := mkS [(0, ai a), (1, ai b)] []
def QqU (a : Int) : St := mkS [(0, ai a)] []
def nxP (l : List Pt) (i : Nat) : Pt := if i + 1 < l.length then l.getD (i + 1) default else l.getD 0 default
def dotI (d : Dr) (p : Pt) : Int := d.1 * p.1 + d.2.1 * p.2
theorem Qj7 {a b : Int} (ha : Sm a) (hb : Sm b) : -10000000000000000 ≤ a * b ∧ a * b ≤ 10000000000000000 := by
 simp only [Sm] at ha hb
 have h1 : (a * b).natAbs ≤ 100000000 * 100000000 := by
  rw [Int.natAbs_mul]
  exact Nat.mul_le_mul (by omega) (by omega)
 omega
theorem mx_max (a b : Int) : (if b > a then b else a) = max a b := by split <;> omega
def mstN (d : Dr) (l : List Pt) : Nat → Int
 | 0 => dotI d (l.getD 0 default)
 | i + 1 => max (mstN d l i) (dotI d (l.getD i default))
def moP (d : Dr) (l : List Pt) : Int := mstN d l l.length
theorem Qbg {α : Type} {p : α → Prop} {l : List α} {x : α} (h : ∀ q ∈ l, p q) (hx : p x) (i : Nat) : p (l.getD i x) := by
 rw [List.getD_eq_getElem?_getD]
 rcases Nat.lt_or_ge i l.length with h1 | h1
 ·rw [List.getElem?_eq_getElem h1]; exact h _ (List.getElem_mem h1)
 ·rw [List.getElem?_eq_none h1]; exact hx
theorem sm0 : Sm 0 := ⟨by omega, by omega⟩
theorem smP0 : SmP default := ⟨sm0, sm0⟩
def QpF (d : D) (e : Dr) (o i : Int) : St := mkS [(0, .d d), (3, .ptr [3] 0), (5, ai o), (6, ai i)] [([3], ⟨0, 0, [.d (iv e.1), .d (iv e.2.1), .d (iv e.2.2)], false⟩)]
def ms_en (o : Int) : St := mkS [(5, ai o)] []
def g3 (dx dy h : Int) : Int := (Int.gcd (Int.gcd dx dy) h : Int)
def nrP (dx dy h : Int) : Dr := (dy.tdiv (g3 dx dy h), (-dx).tdiv (g3 dx dy h), h.tdiv (g3 dx dy h))
theorem QjI (a : Int) {g : Int} (hg : 0 < g) : -(a.natAbs : Int) ≤ a.tdiv g ∧ a.tdiv g ≤ (a.natAbs : Int) := by
 have h1 : (a.tdiv g).natAbs ≤ a.natAbs := by rw [Int.natAbs_tdiv]; exact Nat.div_le_self _ _
 omega
theorem g3_pos (dx dy : Int) {h : Int} (hh : 0 < h) : 0 < g3 dx dy h := by
 unfold g3
 have := Int.gcd_pos_of_ne_zero_right ((Int.gcd dx dy : Nat) : Int) (b := h) (by omega)
 omega
theorem QlZ (a b c : D) : Qaf 0 [.d a, .d b, .d c] [.d (.v (.int .i64 0)), .d (.v (.int .i64 0)), .d (.v (.int .i64 0))] = some [.d a, .d b, .d c] := rfl
def mvP (tx ty : Int) (p : Pt) : Pt := (p.1 + tx, p.2 + ty)
def Qm7 (d : D) (tx ty : Int) (L : List Pt) (i : Int) : St := mkS [(0, .d d), (1, ai tx), (2, ai ty), (7, gAE 32 L), (8, ai i)] (gHE cP 2 32 L)
def mv_en (L : List Pt) : St := mkS [(7, gAE 32 L)] (gHE cP 2 32 L)
def spB (c k m : Int) : List Pt :=
 if c = 0 ∨ c = 1 ∨ c = 2 then [(0, 0), (2 * k, 0), (2 * k, m), (0, m)]
 else if c = 3 then [(0, 0), (4 * k, 0), (0, 3 * k)]
 else if c = 4 then [(0, 0), (4 * k, -3 * k), (8 * k, 0), (4 * k, 3 * k)]
 else if c = 5 then [(0, 0), (8 * k, 0), (8 * k, m), (4 * k, m + 3 * k), (0, m)]
 else [(0, 0), (6 * k, 0), (3 * k, 4 * k)]
def spC (l : List Int) : Int := atr l 0 7
def spK (l : List Int) : Int := 1 + atr l 1 3
def spM (l : List Int) : Int := 1 + atr l 2 6
def spX (l : List Int) : Int := atr l 3 5 - 2
def spY (l : List Int) : Int := atr l 4 5 - 2
def spP (l : List Int) : List Pt := (spB (spC l) (spK l) (spM l)).map (mvP (spX l) (spY l))
theorem sh_b (l : List Int) : (0 ≤ spC l ∧ spC l < 7) ∧ (1 ≤ spK l ∧ spK l < 4) ∧ (1 ≤ spM l ∧ spM l < 7) ∧ (-2 ≤ spX l ∧ spX l < 3) ∧ (-2 ≤ spY l ∧ spY l < 3) := by
 have h1 := Qr8 l 0 (m := 7) (by omega)
 have h2 := Qr8 l 1 (m := 3) (by omega)
 have h3 := Qr8 l 2 (m := 6) (by omega)
 have h4 := Qr8 l 3 (m := 5) (by omega)
 have h5 := Qr8 l 4 (m := 5) (by omega)
 unfold spC spK spM spX spY
 omega
variable [Its]
theorem Qoy {n : Int} (hn : -4000000000000000000 ≤ n ∧ n ≤ 4000000000000000000) : Qaj G Qd5 [iv n] = some (.d (iv (n.natAbs : Int))) := by
 rw [Qae (cf := gantryref12_size) rfl]
 have e1 : w64 (0 - n) = -n := by rw [Qac (by omega) (by omega)]; omega
 have e2 : (if -n > n then -n else n) = ((n.natAbs : Nat) : Int) := by split <;> omega
 generalize ((n.natAbs : Nat) : Int) = z at *
 simp -implicitDefEqProofs (maxSteps := 10000000) only [gantryref12_size, QiZ, mxV, go_sem, iv, bv, e1, e2, reduceCtorEq, ↓reduceIte, Nat.reduceEqDiff]

theorem Qqs : ∀ (n : Nat) (a b : Int), b.natAbs < n → 0 ≤ a → 0 ≤ b → X G (.loop Qbx) (Qlk a b) = some (.x 0, QqU (Int.gcd a b : Int))
 | 0, a, b, h, _, _ => by omega
 | n + 1, a, b, h, ha, hb => by
  by_cases h0 : b = 0
  ·subst h0
   have e1 : ((0 : Int) != 0) = false := rfl
   have e2 : ((Int.gcd a 0 : Nat) : Int) = a := by rw [Int.gcd_zero_right]; omega
   rw [e2]
   have g : X G Qbx (Qlk a 0) = some (.x 0, QqU a) := by
    simp -implicitDefEqProofs (maxSteps := 10000000) only [Qbx, Qlk, QqU, go_sem, iv, bv, e1, reduceCtorEq, ↓reduceIte, Nat.reduceEqDiff]
   rw [Qah, g]; rfl
  ·have e1 : (b != 0) = true := by simpa using h0
   have e2 := QiB (b := b) h0
   have e3 := QcT (a := a) (b := b) ha
   have g : X G Qbx (Qlk a b) = some (.n, Qlk b (a % b)) := by
    simp -implicitDefEqProofs (maxSteps := 10000000) only [Qbx, Qlk, go_sem, iv, bv, e1, e2, e3, reduceCtorEq, ↓reduceIte, Nat.reduceEqDiff]
   have h1 := Int.emod_nonneg a h0
   have h2 := Int.emod_lt_of_pos a (b := b) (by omega)
   have ih := Qqs n b (a % b) (by omega) hb h1
   have e4 : Int.gcd b (a % b) = Int.gcd a b := by
    obtain ⟨u, rfl⟩ := Int.eq_ofNat_of_zero_le ha
    obtain ⟨v, rfl⟩ := Int.eq_ofNat_of_zero_le hb
    show Nat.gcd v _ = Nat.gcd u v
    rw [← Int.natCast_emod, Int.natAbs_natCast, Nat.gcd_comm v, ← Nat.gcd_rec v u |>.symm.trans (Nat.gcd_comm v u)]
   rw [Qah, g, Option.bind_some, if_pos rfl, ih, e4]
theorem Qj4 {a b : Int} (ha : 0 ≤ a) (hb : 0 ≤ b) : Qaj G Qdk [iv a, iv b] = some (.d (iv (Int.gcd a b : Int))) := by
 rw [Qae (cf := gantryref12_divisor) rfl]
 have g := Qqs (b.natAbs + 1) a b (by omega) ha hb
 generalize ((Int.gcd a b : Nat) : Int) = z at *
 simp only [Qlk, QqU, go_sem] at g
 simp -implicitDefEqProofs (maxSteps := 10000000) only [gantryref12_divisor, g, go_sem, iv, bv, reduceCtorEq, ↓reduceIte, Nat.reduceEqDiff]

theorem QoP {d : Dr} (h : SmD d) : Qaj G Qd1 [encD d] = some (.d (encD (-d.1, -d.2.1, d.2.2))) := by
 rw [Qae (cf := gantryref12_Turn) rfl]
 obtain ⟨x, y, z⟩ := d
 obtain ⟨h1, h2, h3⟩ := h
 simp only [Sm] at h1 h2 h3
 have e1 : w64 (0 - x) = -x := by rw [Qac (by omega) (by omega)]; omega
 have e2 : w64 (0 - y) = -y := by rw [Qac (by omega) (by omega)]; omega
 simp -implicitDefEqProofs (maxSteps := 10000000) only [gantryref12_Turn, encD, cD, Qaf, Qab, go_sem, iv, bv, e1, e2, reduceCtorEq, ↓reduceIte, Nat.reduceEqDiff]

theorem QlI {d : D} {l : List Pt} (hr : RwE cP d l) {i : Nat} (hi : i < l.length) (hl : l.length ≤ 1000000) : Qaj G Qdf [d, iv (i : Int)] = some (.d (encP (nxP l i))) := by
 rw [Qae (cf := gantryref12_Next) rfl]
 have ll := hr.len
 have e1 : w64 ((i : Int) + 1) = ((i + 1 : Nat) : Int) := by rw [Qac (by omega) (by omega)]; rfl
 unfold nxP
 by_cases h : i + 1 < l.length
 ·have e2 : decide (((i + 1 : Nat) : Int) < (l.length : Int)) = true := lt_t (by omega)
  have x1 := hr.ixa QaJ h
  have x2 := fun hp => ldE QaJ hp h
  rw [if_pos h]
  generalize l.getD (i + 1) default = q at *
  obtain ⟨x, y⟩ := q
  simp only [cP, iv] at x2
  simp -implicitDefEqProofs (maxSteps := 10000000) only [gantryref12_Next, encP, cP, Qaf, Qab, go_sem, iv, bv, e1, e2, ll, x1, x2, reduceCtorEq, ↓reduceIte, Nat.reduceEqDiff]
 ·have e2 : decide (((i + 1 : Nat) : Int) < (l.length : Int)) = false := lt_f (by omega)
  have x1 := hr.ixa (j := 0) QaJ (by omega)
  have x2 := fun hp => ldE (j := 0) (l := l) QaJ hp (by omega)
  simp only [nc0, List.drop_zero] at x1 x2
  rw [if_neg h]
  generalize l.getD 0 default = q at *
  obtain ⟨x, y⟩ := q
  simp only [cP, iv] at x2
  simp -implicitDefEqProofs (maxSteps := 10000000) only [gantryref12_Next, encP, cP, Qaf, Qab, go_sem, iv, bv, e1, e2, ll, x1, x2, reduceCtorEq, ↓reduceIte, Nat.reduceEqDiff]

theorem ms_go {d : D} {l : List Pt} {e : Dr} (hr : RwE cP d l) (hl : ∀ p ∈ l, SmP p) (he : SmD e) (hn : l.length ≤ 1000000) {o : Int} {i : Nat} (hi : i < l.length) : X G Qb1 (QpF d e o i) = some (.n, QpF d e (max o (dotI e (l.getD i default))) ((i + 1 : Nat) : Int)) := by
 have ll := hr.len
 have e1 : decide ((i : Int) < (l.length : Int)) = true := lt_t (by omega)
 have e2 : w64 ((i : Int) + 1) = ((i + 1 : Nat) : Int) := by rw [Qac (by omega) (by omega)]; rfl
 have x1 := hr.ixa QaJ hi
 have x2 := fun hp => ldF (i := 0) QaJ hp hi (by omega)
 have x3 := fun hp => ldF (i := 1) QaJ hp hi (by omega)
 have hp := Qbg hl smP0 i
 unfold dotI
 generalize l.getD i default = q at *
 obtain ⟨x, y⟩ := q
 obtain ⟨a, b, c⟩ := e
 obtain ⟨h1, h2, h3⟩ := he
 have m1 := Qj7 h1 hp.1
 have m2 := Qj7 h2 hp.2
 dsimp only at m1 m2 ⊢
 have e3 : w64 (a * x) = a * x := Qac (by omega) (by omega)
 have e4 : w64 (b * y) = b * y := Qac (by omega) (by omega)
 obtain ⟨s, hs⟩ : ∃ s, a * x + b * y = s := ⟨_, rfl⟩
 have e5 : w64 (a * x + b * y) = s := by rw [Qac (by omega) (by omega), hs]
 have e6 := mx_max o s
 rw [hs]
 simp only [cP, iv, List.getElem?_cons_zero, List.getElem?_cons_succ, Option.map_some, List.drop_zero] at x2 x3
 simp -implicitDefEqProofs (maxSteps := 10000000) only [Qb1, QpF, QiZ, mxV, Qaf, Qab, go_sem, iv, bv, e1, e2, e3, e4, e5, e6, ll, x1, x2, x3, reduceCtorEq, ↓reduceIte, Nat.reduceEqDiff]
theorem ms_stop {d : D} {l : List Pt} {e : Dr} (hr : RwE cP d l) {o : Int} : X G Qb1 (QpF d e o l.length) = some (.x 0, ms_en o) := by
 have ll := hr.len
 have e1 : decide ((l.length : Int) < (l.length : Int)) = false := lt_f (by omega)
 simp -implicitDefEqProofs (maxSteps := 10000000) only [Qb1, QpF, ms_en, go_sem, iv, bv, e1, ll, reduceCtorEq, ↓reduceIte, Nat.reduceEqDiff]
theorem ms_loop {d : D} {l : List Pt} {e : Dr} (hr : RwE cP d l) (hl : ∀ p ∈ l, SmP p) (he : SmD e) (hn : l.length ≤ 1000000) : ∀ (j i : Nat), i + j = l.length → X G (.loop Qb1) (QpF d e (mstN e l i) i) = some (.x 0, ms_en (moP e l))
 | 0, i, h => by
  have : i = l.length := by omega
  subst this
  rw [Qah, ms_stop hr]; rfl
 | j + 1, i, h => by
  rw [Qah, ms_go hr hl he hn (by omega), Option.bind_some, if_pos rfl]
  exact ms_loop hr hl he hn j (i + 1) (by omega)
theorem QoR {d : D} {l : List Pt} {e : Dr} (hr : RwE cP d l) (h0 : 0 < l.length) (hl : ∀ p ∈ l, SmP p) (he : SmD e) (hn : l.length ≤ 1000000) : Qaj G Qd9 [d, encD e] = some (.d (iv (moP e l))) := by
 rw [Qae (cf := gantryref12_Most) rfl]
 have g := ms_loop hr hl he hn l.length 0 (by omega)
 have x1 := hr.ixa (j := 0) QaJ h0
 have x2 := fun hp => ldF (i := 0) (l := l) QaJ hp h0 (by omega)
 have x3 := fun hp => ldF (i := 1) (l := l) QaJ hp h0 (by omega)
 have hp := Qbg hl smP0 0
 simp only [mstN, dotI] at g
 generalize l.getD 0 default = q at *
 obtain ⟨x, y⟩ := q
 obtain ⟨a, b, c⟩ := e
 obtain ⟨h1, h2, h3⟩ := he
 have m1 := Qj7 h1 hp.1
 have m2 := Qj7 h2 hp.2
 dsimp only at m1 m2 g
 have e3 : w64 (a * x) = a * x := Qac (by omega) (by omega)
 have e4 : w64 (b * y) = b * y := Qac (by omega) (by omega)
 obtain ⟨s, hs⟩ : ∃ s, a * x + b * y = s := ⟨_, rfl⟩
 have e5 : w64 (a * x + b * y) = s := by rw [Qac (by omega) (by omega), hs]
 rw [hs] at g
 simp only [cP, iv, List.getElem?_cons_zero, List.getElem?_cons_succ, Option.map_some, List.drop_zero] at x2 x3
 generalize moP (a, b, c) l = z at *
 simp only [nc0, List.drop_zero] at x1 x2 x3
 simp only [QpF, ms_en, iv, go_sem] at g
 simp -implicitDefEqProofs (maxSteps := 10000000) only [gantryref12_Most, encD, cD, g, Qaf, Qab, go_sem, iv, bv, e3, e4, e5, x1, x2, x3, reduceCtorEq, ↓reduceIte, Nat.reduceEqDiff]

/-! ### Normals -/
theorem QnT {a b : Pt} {h : Int} (ha : SmP a) (hb : SmP b) (hh : h * h = (b.1 - a.1) * (b.1 - a.1) + (b.2 - a.2) * (b.2 - a.2)) (h0 : 0 < h) : Qaj G Qec [encP a, encP b] = some (.d (.tup [encD (nrP (b.1 - a.1) (b.2 - a.2) h), bv true])) := by
 rw [Qae (cf := gantryref12_Norm) rfl]
 obtain ⟨ax, ay⟩ := a
 obtain ⟨bx, byy⟩ := b
 obtain ⟨h1, h2⟩ := ha
 obtain ⟨h3, h4⟩ := hb
 simp only [Sm] at h1 h2 h3 h4
 dsimp only at hh ⊢
 obtain ⟨dx, hdx⟩ : ∃ z, bx - ax = z := ⟨_, rfl⟩
 obtain ⟨dy, hdy⟩ : ∃ z, byy - ay = z := ⟨_, rfl⟩
 have e1 : w64 (bx - ax) = dx := by rw [Qac (by omega) (by omega), hdx]
 have e2 : w64 (byy - ay) = dy := by rw [Qac (by omega) (by omega), hdy]
 rw [hdx, hdy] at hh
 rw [hdx, hdy]
 have b1 : -200000000 ≤ dx ∧ dx ≤ 200000000 := by omega
 have b2 : -200000000 ≤ dy ∧ dy ≤ 200000000 := by omega
 clear hdx hdy h1 h2 h3 h4
 have sq : ∀ z : Int, -200000000 ≤ z ∧ z ≤ 200000000 → 0 ≤ z * z ∧ z * z ≤ 40000000000000000 := by
  intro z hz
  have h1 : (z * z).natAbs ≤ 200000000 * 200000000 := by
   rw [Int.natAbs_mul]
   exact Nat.mul_le_mul (by omega) (by omega)
  have h2 : 0 ≤ z * z := by
   rcases Int.le_total 0 z with h | h
   ·exact Int.mul_nonneg h h
   ·exact Int.mul_nonneg_of_nonpos_of_nonpos h h
  omega
 have q1 := sq dx b1
 have q2 := sq dy b2
 clear sq
 obtain ⟨p1, hp1⟩ : ∃ z, dx * dx = z := ⟨_, rfl⟩
 obtain ⟨p2, hp2⟩ : ∃ z, dy * dy = z := ⟨_, rfl⟩
 obtain ⟨s, hs⟩ : ∃ z, p1 + p2 = z := ⟨_, rfl⟩
 have e3 : w64 (dx * dx) = p1 := by rw [Qac (by omega) (by omega), hp1]
 have e4 : w64 (dy * dy) = p2 := by rw [Qac (by omega) (by omega), hp2]
 have e5 : w64 (p1 + p2) = s := by rw [Qac (by omega) (by omega), hs]
 rw [hp1, hp2, hs] at hh
 have hh2 : h < 1000000000 := by
  apply Classical.byContradiction
  intro hc
  have := Qlj (a := 1000000000) (b := h) (by omega) (by omega)
  omega
 have hI : I64 (s) := ⟨by omega, by omega⟩
 have hrt : IsRt h s := by
  refine ⟨by omega, by omega, ?_⟩
  have e : (h + 1) * (h + 1) = h * h + 2 * h + 1 := by grind
  omega
 have g1 := QdI hI
 have g2 := QsD (x := s) (Nat.le_trans (Qdg hI) (by omega)) (by omega) hrt
 have hhI : I64 h := ⟨by omega, by omega⟩
 have g4 := QpG (x := h) (Nat.le_trans (Qdg hhI) (by omega))
 rw [(QmN hhI).1, (QmN hhI).2] at g4
 rw [decide_eq_true hh] at g2
 have g5 := Qoy (n := dx) (by omega)
 have g6 := Qoy (n := dy) (by omega)
 have g7 := Qj4 (a := (dx.natAbs : Int)) (b := (dy.natAbs : Int)) (by omega) (by omega)
 have g8 := Qj4 (a := (Int.gcd dx dy : Int)) (b := h) (by omega) (by omega)
 have e6 : Int.gcd (dx.natAbs : Int) (dy.natAbs : Int) = Int.gcd dx dy := by simp [Int.gcd]
 rw [e6] at g7
 have gp := g3_pos dx dy h0
 have e7 : (Int.gcd (Int.gcd dx dy) h : Int) = g3 dx dy h := rfl
 rw [e7] at g8
 unfold nrP
 obtain ⟨g, hg⟩ : ∃ g, g3 dx dy h = g := ⟨_, rfl⟩
 rw [hg] at g8 gp ⊢
 have e8 := QiB (b := g) (by omega)
 have e9 : w64 (0 - dx) = -dx := by rw [Qac (by omega) (by omega)]; omega
 have t1 := QjI dy gp
 have t2 := QjI (-dx) gp
 have t3 := QjI h gp
 have f1 : w64 (dy.tdiv g) = dy.tdiv g := Qac (by omega) (by omega)
 have f2 : w64 ((-dx).tdiv g) = (-dx).tdiv g := Qac (by omega) (by omega)
 have f3 : w64 (h.tdiv g) = h.tdiv g := Qac (by omega) (by omega)
 have f4 : (h == 0) = false := QdJ (by omega)
 clear t1 t2 t3 q1 q2
 have u1 := QbT (digs h.natAbs)
 simp only [encI, iv, bv] at g1 g2 g4 g5 g6 g7 g8
 generalize digs h.natAbs = dh at *
 generalize decide (h < 0) = sh at *
 simp -implicitDefEqProofs (maxSteps := 10000000) only [gantryref12_Norm, toDs, encP, cP, encD, cD, QlZ, Qaf, Qab, Qaq, QaA, u1, g1, g2, g4, g5, g6, g7, g8, e1, e2, e3, e4, e5, e8, e9, f1, f2, f3, f4, Bool.not_true, Bool.not_false, go_sem, iv, bv, reduceCtorEq, ↓reduceIte, Nat.reduceEqDiff]

/-! ### Moved shapes -/
theorem mv_go {d : D} {l : List Pt} {tx ty : Int} (hr : RwE cP d l) (hl : ∀ p ∈ l, SmP p) (hx : Sm tx) (hy : Sm ty) (hn : l.length ≤ 1000000) {L : List Pt} (hL : L.length ≤ 1000000) {i : Nat} (hi : i < l.length) :
    X G Qbb (Qm7 d tx ty L i) = some (.n, Qm7 d tx ty (L ++ [mvP tx ty (l.getD i default)]) ((i + 1 : Nat) : Int)) := by
  have ll := hr.len
  have e1 : decide ((i : Int) < (l.length : Int)) = true := lt_t (by omega)
  have e2 : w64 ((i : Int) + 1) = ((i + 1 : Nat) : Int) := by rw [Qac (by omega) (by omega)]; rfl
  have x1 := hr.ixa QaJ hi
  have x2 := fun hp => ldF (i := 0) QaJ hp hi (by omega)
  have x3 := fun hp => ldF (i := 1) QaJ hp hi (by omega)
  have hp := Qbg hl smP0 i
  generalize l.getD i default = q at *
  obtain ⟨x, y⟩ := q
  obtain ⟨h1, h2⟩ := hp
  simp only [Sm] at h1 h2 hx hy
  obtain ⟨u, hu⟩ : ∃ u, x + tx = u := ⟨_, rfl⟩
  obtain ⟨v, hv⟩ : ∃ v, y + ty = v := ⟨_, rfl⟩
  have e3 : w64 (x + tx) = u := by rw [Qac (by omega) (by omega), hu]
  have e4 : w64 (y + ty) = v := by rw [Qac (by omega) (by omega), hv]
  simp only [cP, iv, List.getElem?_cons_zero, List.getElem?_cons_succ, Option.map_some, List.drop_zero] at x2 x3
  unfold mvP
  dsimp only
  rw [hu, hv]
  by_cases h0 : L = []
  · subst h0
    have hb : (16 ≤ bound) = True := eq_true (by unfold bound; omega)
    have hb1 : (1 * 16 ≤ bound) = True := eq_true (by unfold bound; omega)
    have hq : ([(u, v)] : List Pt) ≠ [] := by simp
    simp -implicitDefEqProofs (maxSteps := 10000000) only [Qbb, Qm7, Qbd, Qbc, Qbt hq, Qbu hq, arE, Qoq, Qaa, List.nil_append, List.cons_append, List.length_nil, List.length_cons, Nat.zero_add, List.map_cons, List.map_nil, Qhp, oneI, srcS, src, allD, hb, hb1, ll, x1, x2, x3, go_sem, iv, bv, e1, e2, e3, e4, reduceCtorEq, ↓reduceIte, Nat.reduceEqDiff]
  · have n3 := lenE QaJ L
    have n4 : ((L.length + 1) * 16 ≤ bound) = True := eq_true (by unfold bound; omega)
    simp -implicitDefEqProofs (maxSteps := 10000000) only [Qbb, Qm7, Qbt h0, Qbu h0, Qia, Qh2, arE, Qlh, Qay, n3, n4, List.nil_append, List.cons_append, List.length_nil, List.length_cons, Nat.zero_add, List.map_cons, List.map_nil, List.all_cons, List.all_nil, Qhp, oneI, srcS, src, allD, ll, x1, x2, x3, go_sem, iv, bv, e1, e2, e3, e4, reduceCtorEq, ↓reduceIte, Nat.reduceEqDiff]
theorem mv_stop {d : D} {l : List Pt} {tx ty : Int} (hr : RwE cP d l) {L : List Pt} : X G Qbb (Qm7 d tx ty L l.length) = some (.x 0, mv_en L) := by
 have ll := hr.len
 have e1 : decide ((l.length : Int) < (l.length : Int)) = false := lt_f (by omega)
 by_cases h0 : L = []
 ·subst h0
  simp -implicitDefEqProofs (maxSteps := 10000000) only [Qbb, Qm7, mv_en, Qbd, Qbc, Qaa, ll, go_sem, iv, bv, e1, reduceCtorEq, ↓reduceIte, Nat.reduceEqDiff]
 ·simp -implicitDefEqProofs (maxSteps := 10000000) only [Qbb, Qm7, mv_en, Qbt h0, Qbu h0, arE, Qay, ll, go_sem, iv, bv, e1, reduceCtorEq, ↓reduceIte, Nat.reduceEqDiff]
theorem mv_loop {d : D} {l : List Pt} {tx ty : Int} (hr : RwE cP d l) (hl : ∀ p ∈ l, SmP p) (hx : Sm tx) (hy : Sm ty) (hn : l.length ≤ 1000000) : ∀ (j i : Nat), i + j = l.length → X G (.loop Qbb) (Qm7 d tx ty ((l.take i).map (mvP tx ty)) i) = some (.x 0, mv_en (l.map (mvP tx ty)))
 | 0, i, h => by
  have : i = l.length := by omega
  subst this
  rw [Qah, mv_stop hr, List.take_length]; rfl
 | j + 1, i, h => by
  have hi : i < l.length := by omega
  have ih := mv_loop hr hl hx hy hn j (i + 1) (by omega)
  have e : (l.take (i + 1)).map (mvP tx ty) = (l.take i).map (mvP tx ty) ++ [mvP tx ty (l.getD i default)] := by
   rw [List.take_add_one, List.map_append, List.getElem?_eq_getElem hi, List.getD_eq_getElem?_getD, List.getElem?_eq_getElem hi]
   rfl
  rw [e] at ih
  rw [Qah, mv_go hr hl hx hy hn (by simp; omega) hi, Option.bind_some, if_pos rfl]
  exact ih
theorem Move_spec {d : D} {l : List Pt} {tx ty : Int} (hr : RwE cP d l) (hl : ∀ p ∈ l, SmP p) (hx : Sm tx) (hy : Sm ty) (hn : l.length ≤ 1000000) : Qaj G Qfy [d, iv tx, iv ty] = some (rE cP 2 (l.map (mvP tx ty))) := by
 rw [Qae (cf := gantryref12_Move) rfl]
 have g := mv_loop hr hl hx hy hn l.length 0 (by omega)
 simp only [List.take_zero, List.map_nil] at g
 generalize l.map (mvP tx ty) = L at *
 simp only [Qm7, mv_en, Qbd, Qbc, Qaa, go_sem, nc0, iv] at g
 by_cases h0 : L = []
 ·subst h0
  simp only [Qbd, Qbc, Qaa, go_sem] at g
  simp -implicitDefEqProofs (maxSteps := 10000000) only [gantryref12_Move, rE, g, Qaa, go_sem, iv, bv, reduceCtorEq, ↓reduceIte, Nat.reduceEqDiff]
 ·simp only [Qbt h0, Qbu h0, arE, go_sem] at g
  simp -implicitDefEqProofs (maxSteps := 10000000) only [gantryref12_Move, Qsn h0, g, Qay, Qhi, Qaa, go_sem, iv, bv, reduceCtorEq, ↓reduceIte, Nat.reduceEqDiff]

/-! ### Shapes -/
end Go.AM

/- ref12.Shape and Sides. -/
namespace Go.AM
open Go Go.RowKit

theorem QoO (a b : D) : rep 4 [a, b] = [a, b, a, b, a, b, a, b] := rfl
theorem rep3_2 (a b : D) : rep 3 [a, b] = [a, b, a, b, a, b] := rfl
theorem rep5_2 (a b : D) : rep 5 [a, b] = [a, b, a, b, a, b, a, b, a, b] := rfl
theorem spB_sm {c k m : Int} (hk : 1 ≤ k ∧ k < 4) (hm : 1 ≤ m ∧ m < 7) : ∀ p ∈ spB c k m, -9 ≤ p.1 ∧ p.1 ≤ 24 ∧ -9 ≤ p.2 ∧ p.2 ≤ 24 := by
 intro p hp
 unfold spB at hp
 split at hp
 ·simp only [List.mem_cons, List.not_mem_nil, or_false] at hp
  rcases hp with rfl | rfl | rfl | rfl <;> (dsimp only; omega)
 split at hp
 ·simp only [List.mem_cons, List.not_mem_nil, or_false] at hp
  rcases hp with rfl | rfl | rfl <;> (dsimp only; omega)
 split at hp
 ·simp only [List.mem_cons, List.not_mem_nil, or_false] at hp
  rcases hp with rfl | rfl | rfl | rfl <;> (dsimp only; omega)
 split at hp
 ·simp only [List.mem_cons, List.not_mem_nil, or_false] at hp
  rcases hp with rfl | rfl | rfl | rfl | rfl <;> (dsimp only; omega)
 ·simp only [List.mem_cons, List.not_mem_nil, or_false] at hp
  rcases hp with rfl | rfl | rfl <;> (dsimp only; omega)
theorem Qne (c k m : Int) : 3 ≤ (spB c k m).length ∧ (spB c k m).length ≤ 5 := by
 unfold spB
 repeat' split
 all_goals simp
variable [Its]

set_option maxHeartbeats 2000000 in
theorem QeU {d : D} {l : List Int} (hr : Rw d l) (hl : ∀ n ∈ l, I64 n) : Qaj G QbD [d] = some (.d (rowE cP (spP l))) := by
 rw [Qae (cf := gantryref12_Shape) rfl]
 have g0 := Qc6 (i := 0) (m := 7) hr hl (by omega)
 have g1 := Qc6 (i := 1) (m := 3) hr hl (by omega)
 have g2 := Qc6 (i := 2) (m := 6) hr hl (by omega)
 have g3 := Qc6 (i := 3) (m := 5) hr hl (by omega)
 have g4 := Qc6 (i := 4) (m := 5) hr hl (by omega)
 obtain ⟨bc, bk, bm, bx, by_⟩ := sh_b l
 have sb := spB_sm (c := spC l) bk bm
 unfold spP
 unfold spC spK spM spX spY at *
 obtain ⟨k, hk⟩ : ∃ k, 1 + atr l 1 3 = k := ⟨_, rfl⟩
 obtain ⟨m, hm⟩ : ∃ k, 1 + atr l 2 6 = k := ⟨_, rfl⟩
 obtain ⟨x, hx⟩ : ∃ k, atr l 3 5 - 2 = k := ⟨_, rfl⟩
 obtain ⟨y, hy⟩ : ∃ k, atr l 4 5 - 2 = k := ⟨_, rfl⟩
 obtain ⟨c, hc⟩ : ∃ k, atr l 0 7 = k := ⟨_, rfl⟩
 rw [hc] at g0 bc sb
 have e1 : w64 (1 + atr l 1 3) = k := by rw [Qac (by omega) (by omega), hk]
 have e2 : w64 (1 + atr l 2 6) = m := by rw [Qac (by omega) (by omega), hm]
 have e3 : w64 (atr l 3 5 - 2) = x := by rw [Qac (by omega) (by omega), hx]
 have e4 : w64 (atr l 4 5 - 2) = y := by rw [Qac (by omega) (by omega), hy]
 rw [hk] at bk sb
 rw [hm] at bm sb
 rw [hx] at bx
 rw [hy] at by_
 rw [hc, hk, hm, hx, hy]
 clear hk hm hx hy hc
 have hsm : ∀ p ∈ spB c k m, SmP p := fun p hp => by
  have := sb p hp
  exact ⟨⟨by omega, by omega⟩, ⟨by omega, by omega⟩⟩
 have hlen := Qne c k m
 have hmv := fun d (hd : RwE cP d (spB c k m)) => Move_spec (tx := x) (ty := y) hd hsm ⟨by omega, by omega⟩ ⟨by omega, by omega⟩ (by omega)
 have hne : (spB c k m).map (mvP x y) ≠ [] := fun h => by
  have := congrArg List.length h
  simp only [List.length_map, List.length_nil] at this
  omega
 obtain ⟨L, hL⟩ : ∃ L, (spB c k m).map (mvP x y) = L := ⟨_, rfl⟩
 rw [hL] at hne ⊢
 have f1 : w64 (2 * k) = 2 * k := Qac (by omega) (by omega)
 have f2 : w64 (4 * k) = 4 * k := Qac (by omega) (by omega)
 have f3 : w64 (3 * k) = 3 * k := Qac (by omega) (by omega)
 have f4 : w64 (8 * k) = 8 * k := Qac (by omega) (by omega)
 have f5 : w64 (6 * k) = 6 * k := Qac (by omega) (by omega)
 have f6 : w64 (-3 * k) = -3 * k := Qac (by omega) (by omega)
 have f7 : w64 (m + 3 * k) = m + 3 * k := Qac (by omega) (by omega)
 have cases : (c = 0 ∨ c = 1 ∨ c = 2) ∨ c = 3 ∨ c = 4 ∨ c = 5 ∨ c = 6 := by omega
 rcases cases with h | h | h | h | h
 ·have hs : spB c k m = [(0, 0), (2 * k, 0), (2 * k, m), (0, m)] := by unfold spB; rw [if_pos h]
  have gm := hmv (rowE cP [(0, 0), (2 * k, 0), (2 * k, m), (0, m)]) (.inr (by rw [hs]))
  rw [hL, Qsn hne] at gm
  simp only [rowE, cP, iv, List.flatMap_cons, List.flatMap_nil, List.cons_append, List.nil_append, List.append_nil, List.length_cons, List.length_nil, Nat.reduceAdd, Nat.zero_add] at gm g0 g1 g2 g3 g4
  rcases h with rfl | rfl | rfl
  ·simp -implicitDefEqProofs (maxSteps := 10000000) only [gantryref12_Shape, rowE, g0, g1, g2, g3, g4, gm, e1, e2, e3, e4, f1, f2, f3, f4, f5, f6, f7, beq_self_eq_true, QoO, go_sem, iv, bv, reduceCtorEq, ↓reduceIte, Nat.reduceEqDiff]
  ·have q0 : ((1 : Int) == 0) = false := rfl
   simp -implicitDefEqProofs (maxSteps := 10000000) only [gantryref12_Shape, rowE, g0, g1, g2, g3, g4, gm, e1, e2, e3, e4, f1, f2, f3, f4, f5, f6, f7, q0, beq_self_eq_true, QoO, go_sem, iv, bv, reduceCtorEq, ↓reduceIte, Nat.reduceEqDiff]
  ·have q0 : ((2 : Int) == 0) = false := rfl
   have q1 : ((2 : Int) == 1) = false := rfl
   simp -implicitDefEqProofs (maxSteps := 10000000) only [gantryref12_Shape, rowE, g0, g1, g2, g3, g4, gm, e1, e2, e3, e4, f1, f2, f3, f4, f5, f6, f7, q0, q1, beq_self_eq_true, QoO, go_sem, iv, bv, reduceCtorEq, ↓reduceIte, Nat.reduceEqDiff]
 ·subst h
  have hs : spB 3 k m = [(0, 0), (4 * k, 0), (0, 3 * k)] := rfl
  have gm := hmv (rowE cP [(0, 0), (4 * k, 0), (0, 3 * k)]) (.inr (by rw [hs]))
  rw [hL, Qsn hne] at gm
  simp only [rowE, cP, iv, List.flatMap_cons, List.flatMap_nil, List.cons_append, List.nil_append, List.append_nil, List.length_cons, List.length_nil, Nat.reduceAdd, Nat.zero_add] at gm g0 g1 g2 g3 g4
  have q0 : ((3 : Int) == 0) = false := rfl
  have q1 : ((3 : Int) == 1) = false := rfl
  have q2 : ((3 : Int) == 2) = false := rfl
  simp -implicitDefEqProofs (maxSteps := 10000000) only [gantryref12_Shape, rowE, g0, g1, g2, g3, g4, gm, e1, e2, e3, e4, f1, f2, f3, f4, f5, f6, f7, q0, q1, q2, beq_self_eq_true, rep3_2, go_sem, iv, bv, reduceCtorEq, ↓reduceIte, Nat.reduceEqDiff]
 ·subst h
  have hs : spB 4 k m = [(0, 0), (4 * k, -3 * k), (8 * k, 0), (4 * k, 3 * k)] := rfl
  have gm := hmv (rowE cP [(0, 0), (4 * k, -3 * k), (8 * k, 0), (4 * k, 3 * k)]) (.inr (by rw [hs]))
  rw [hL, Qsn hne] at gm
  simp only [rowE, cP, iv, List.flatMap_cons, List.flatMap_nil, List.cons_append, List.nil_append, List.append_nil, List.length_cons, List.length_nil, Nat.reduceAdd, Nat.zero_add] at gm g0 g1 g2 g3 g4
  have q0 : ((4 : Int) == 0) = false := rfl
  have q1 : ((4 : Int) == 1) = false := rfl
  have q2 : ((4 : Int) == 2) = false := rfl
  have q3 : ((4 : Int) == 3) = false := rfl
  simp -implicitDefEqProofs (maxSteps := 10000000) only [gantryref12_Shape, rowE, g0, g1, g2, g3, g4, gm, e1, e2, e3, e4, f1, f2, f3, f4, f5, f6, f7, q0, q1, q2, q3, beq_self_eq_true, QoO, go_sem, iv, bv, reduceCtorEq, ↓reduceIte, Nat.reduceEqDiff]
 ·subst h
  have hs : spB 5 k m = [(0, 0), (8 * k, 0), (8 * k, m), (4 * k, m + 3 * k), (0, m)] := rfl
  have gm := hmv (rowE cP [(0, 0), (8 * k, 0), (8 * k, m), (4 * k, m + 3 * k), (0, m)]) (.inr (by rw [hs]))
  rw [hL, Qsn hne] at gm
  simp only [rowE, cP, iv, List.flatMap_cons, List.flatMap_nil, List.cons_append, List.nil_append, List.append_nil, List.length_cons, List.length_nil, Nat.reduceAdd, Nat.zero_add] at gm g0 g1 g2 g3 g4
  have q0 : ((5 : Int) == 0) = false := rfl
  have q1 : ((5 : Int) == 1) = false := rfl
  have q2 : ((5 : Int) == 2) = false := rfl
  have q3 : ((5 : Int) == 3) = false := rfl
  have q4 : ((5 : Int) == 4) = false := rfl
  simp -implicitDefEqProofs (maxSteps := 10000000) only [gantryref12_Shape, rowE, g0, g1, g2, g3, g4, gm, e1, e2, e3, e4, f1, f2, f3, f4, f5, f6, f7, q0, q1, q2, q3, q4, beq_self_eq_true, rep5_2, go_sem, iv, bv, reduceCtorEq, ↓reduceIte, Nat.reduceEqDiff]
 ·subst h
  have hs : spB 6 k m = [(0, 0), (6 * k, 0), (3 * k, 4 * k)] := rfl
  have gm := hmv (rowE cP [(0, 0), (6 * k, 0), (3 * k, 4 * k)]) (.inr (by rw [hs]))
  rw [hL, Qsn hne] at gm
  simp only [rowE, cP, iv, List.flatMap_cons, List.flatMap_nil, List.cons_append, List.nil_append, List.append_nil, List.length_cons, List.length_nil, Nat.reduceAdd, Nat.zero_add] at gm g0 g1 g2 g3 g4
  have q0 : ((6 : Int) == 0) = false := rfl
  have q1 : ((6 : Int) == 1) = false := rfl
  have q2 : ((6 : Int) == 2) = false := rfl
  have q3 : ((6 : Int) == 3) = false := rfl
  have q4 : ((6 : Int) == 4) = false := rfl
  have q5 : ((6 : Int) == 5) = false := rfl
  simp -implicitDefEqProofs (maxSteps := 10000000) only [gantryref12_Shape, rowE, g0, g1, g2, g3, g4, gm, e1, e2, e3, e4, f1, f2, f3, f4, f5, f6, f7, q0, q1, q2, q3, q4, q5, beq_self_eq_true, rep3_2, go_sem, iv, bv, reduceCtorEq, ↓reduceIte, Nat.reduceEqDiff]
end Go.AM

/- ref12.Sides. -/
namespace Go.AM
open Go Go.RowKit

def sqF : Nat → Nat → Nat
 | 0, _ => 0
 | f + 1, n => if f * f = n then f else sqF f n
def sqI (n : Int) : Int := (sqF 60 n.toNat : Nat)
def sdx (l : List Pt) (i : Nat) : Int := (nxP l i).1 - (l.getD i default).1
def sdy (l : List Pt) (i : Nat) : Int := (nxP l i).2 - (l.getD i default).2
def sdh (l : List Pt) (i : Nat) : Int := sqI (sdx l i * sdx l i + sdy l i * sdy l i)
def sdN (l : List Pt) (i : Nat) : Dr := nrP (sdx l i) (sdy l i) (sdh l i)
def tnD (d : Dr) : Dr := (-d.1, -d.2.1, d.2.2)
def NmD (d : Dr) : Prop := (-100 ≤ d.1 ∧ d.1 ≤ 100) ∧ (-100 ≤ d.2.1 ∧ d.2.1 ≤ 100) ∧ (1 ≤ d.2.2 ∧ d.2.2 ≤ 100)
theorem NmD.sm {d : Dr} (h : NmD d) : SmD d := ⟨⟨by have := h.1; omega, by have := h.1; omega⟩, ⟨by have := h.2.1; omega, by have := h.2.1; omega⟩, ⟨by have := h.2.2; omega, by have := h.2.2; omega⟩⟩
theorem NmD.tn {d : Dr} (h : NmD d) : NmD (tnD d) := by
 obtain ⟨h1, h2, h3⟩ := h
 unfold NmD tnD
 dsimp only
 omega
structure GdS (l : List Pt) : Prop where
 pos : 0 < l.length
 le : l.length ≤ 10
 sm : ∀ p ∈ l, SmP p
 sq : ∀ i, i < l.length → sdh l i * sdh l i = sdx l i * sdx l i + sdy l i * sdy l i ∧ 0 < sdh l i
 nm : ∀ i, i < l.length → NmD (sdN l i)
def chkS (l : List Pt) : Bool := (List.range l.length).all fun i => decide (sdh l i * sdh l i = sdx l i * sdx l i + sdy l i * sdy l i) && decide (0 < sdh l i) &&
 decide (-100 ≤ (sdN l i).1) && decide ((sdN l i).1 ≤ 100) && decide (-100 ≤ (sdN l i).2.1) && decide ((sdN l i).2.1 ≤ 100) && decide (1 ≤ (sdN l i).2.2) && decide ((sdN l i).2.2 ≤ 100)
theorem chk_all : ((List.range 7).all fun c => (List.range 3).all fun k => (List.range 6).all fun m => chkS (spB (c : Int) (1 + (k : Int)) (1 + (m : Int)))) = true := by kernel_rfl
theorem QeL (tx ty : Int) {l : List Pt} {i : Nat} (h : i < l.length) : (l.map (mvP tx ty)).getD i default = mvP tx ty (l.getD i default) := by
 rw [List.getD_eq_getElem?_getD, List.getD_eq_getElem?_getD, List.getElem?_map, List.getElem?_eq_getElem h]; rfl
theorem mv_nx (tx ty : Int) {l : List Pt} {i : Nat} (h : i < l.length) : nxP (l.map (mvP tx ty)) i = mvP tx ty (nxP l i) := by
 unfold nxP
 rw [List.length_map]
 split
 ·rw [QeL _ _ (by omega)]
 ·rw [QeL _ _ (by omega)]
theorem mv_sdx (tx ty : Int) {l : List Pt} {i : Nat} (h : i < l.length) : sdx (l.map (mvP tx ty)) i = sdx l i := by
 unfold sdx
 rw [mv_nx _ _ h, QeL _ _ h]
 unfold mvP
 dsimp only
 omega
theorem mv_sdy (tx ty : Int) {l : List Pt} {i : Nat} (h : i < l.length) : sdy (l.map (mvP tx ty)) i = sdy l i := by
 unfold sdy
 rw [mv_nx _ _ h, QeL _ _ h]
 unfold mvP
 dsimp only
 omega
theorem mv_sdh (tx ty : Int) {l : List Pt} {i : Nat} (h : i < l.length) : sdh (l.map (mvP tx ty)) i = sdh l i := by unfold sdh; rw [mv_sdx _ _ h, mv_sdy _ _ h]
theorem Ql4 (tx ty : Int) {l : List Pt} {i : Nat} (h : i < l.length) : sdN (l.map (mvP tx ty)) i = sdN l i := by unfold sdN; rw [mv_sdx _ _ h, mv_sdy _ _ h, mv_sdh _ _ h]
theorem spB_chk {c k m : Int} (hc : 0 ≤ c ∧ c < 7) (hk : 1 ≤ k ∧ k < 4) (hm : 1 ≤ m ∧ m < 7) : chkS (spB c k m) = true := by
 have h := chk_all
 rw [List.all_eq_true] at h
 have h1 := h c.toNat (List.mem_range.2 (by omega))
 rw [List.all_eq_true] at h1
 have h2 := h1 (k - 1).toNat (List.mem_range.2 (by omega))
 rw [List.all_eq_true] at h2
 have h3 := h2 (m - 1).toNat (List.mem_range.2 (by omega))
 rwa [show ((c.toNat : Nat) : Int) = c by omega, show 1 + (((k - 1).toNat : Nat) : Int) = k by omega, show 1 + (((m - 1).toNat : Nat) : Int) = m by omega] at h3
theorem gd_mv {c k m x y : Int} (hc : 0 ≤ c ∧ c < 7) (hk : 1 ≤ k ∧ k < 4) (hm : 1 ≤ m ∧ m < 7) (hx : -10000000 ≤ x ∧ x ≤ 10000000) (hy : -10000000 ≤ y ∧ y ≤ 10000000) : GdS ((spB c k m).map (mvP x y)) := by
 have hl := Qne c k m
 have hch := spB_chk hc hk hm
 unfold chkS at hch
 rw [List.all_eq_true] at hch
 have hb := spB_sm (c := c) hk hm
 refine ⟨by rw [List.length_map]; omega, by rw [List.length_map]; omega, ?_, fun i hi => ?_, fun i hi => ?_⟩
 ·intro p hp
  obtain ⟨q, hq, rfl⟩ := List.mem_map.1 hp
  have := hb q hq
  unfold mvP
  exact ⟨⟨by dsimp only; omega, by dsimp only; omega⟩, ⟨by dsimp only; omega, by dsimp only; omega⟩⟩
 all_goals
  rw [List.length_map] at hi
  have h1 := hch i (List.mem_range.2 hi)
  simp only [Bool.and_eq_true, decide_eq_true_eq] at h1
  obtain ⟨⟨⟨⟨⟨⟨⟨h1, h2⟩, h3⟩, h4⟩, h5⟩, h6⟩, h7⟩, h8⟩ := h1
 ·rw [mv_sdh _ _ hi, mv_sdx _ _ hi, mv_sdy _ _ hi]; exact ⟨h1, h2⟩
 ·rw [Ql4 _ _ hi]; exact ⟨⟨h3, h4⟩, ⟨h5, h6⟩, ⟨h7, h8⟩⟩
theorem QrT (l : List Int) : GdS (spP l) := by
 obtain ⟨h1, h2, h3, h4, h5⟩ := sh_b l
 exact gd_mv h1 h2 h3 ⟨by omega, by omega⟩ ⟨by omega, by omega⟩

def drA (a : List Pt) (n : Nat) : List Dr := (List.range n).map (sdN a)
def drB (b : List Pt) (n : Nat) : List Dr := (List.range n).map fun i => tnD (sdN b i)
def drs (a b : List Pt) : List Dr := drA a a.length ++ drB b b.length
def eqDr (a b : Dr) : Bool := (a.1 == b.1) && ((a.2.1 == b.2.1) && (a.2.2 == b.2.2))
def frI (ds : List Dr) (i : Nat) : Nat → Bool
 | 0 => true
 | k + 1 => frI ds i k && !(eqDr (ds.getD k default) (ds.getD i default))
def edP (a b : List Pt) (d : Dr) : Eg := (d, moP d a + moP (tnD d) b)
def sdO (a b : List Pt) (ds : List Dr) : Nat → List Eg
 | 0 => []
 | i + 1 => if frI ds i i then sdO a b ds i ++ [edP a b (ds.getD i default)] else sdO a b ds i
def sdP (a b : List Pt) : List Eg := sdO a b (drs a b) (drs a b).length
theorem eqD3 (a b c a' b' c' : Int) : eqD [.v (.int .i64 a), .v (.int .i64 b), .v (.int .i64 c)] [.v (.int .i64 a'), .v (.int .i64 b'), .v (.int .i64 c')] = some ((a == a') && ((b == b') && (c == c'))) := by simp [eqD]
theorem QhR (a : List Pt) (n : Nat) : (drA a n).length = n := by simp [drA]
theorem drB_len (a : List Pt) (n : Nat) : (drB a n).length = n := by simp [drB]
theorem drA_succ (a : List Pt) (n : Nat) : drA a (n + 1) = drA a n ++ [sdN a n] := by unfold drA; rw [List.range_succ, List.map_append]; rfl
theorem drB_succ (a : List Pt) (n : Nat) : drB a (n + 1) = drB a n ++ [tnD (sdN a n)] := by unfold drB; rw [List.range_succ, List.map_append]; rfl
theorem QjP (a b : List Pt) : (drs a b).length = a.length + b.length := by unfold drs; rw [List.length_append, QhR, drB_len]
theorem drs_nm {a b : List Pt} (ha : GdS a) (hb : GdS b) : ∀ d ∈ drs a b, NmD d := by
 intro d hd
 rcases List.mem_append.1 hd with h | h
 ·obtain ⟨i, hi, rfl⟩ := List.mem_map.1 h
  exact ha.nm i (List.mem_range.1 hi)
 ·obtain ⟨i, hi, rfl⟩ := List.mem_map.1 h
  exact (hb.nm i (List.mem_range.1 hi)).tn
theorem QkR (a b : List Pt) (ds : List Dr) : ∀ i, (sdO a b ds i).length ≤ i
 | 0 => by simp [sdO]
 | i + 1 => by
  have := QkR a b ds i
  rw [sdO]
  split
  ·rw [List.length_append]; simp; omega
  ·omega
theorem Ql9 {d : Dr} {l : List Pt} (hd : NmD d) (hl : ∀ p ∈ l, SmP p) : ∀ i, -20000000000000000 ≤ mstN d l i ∧ mstN d l i ≤ 20000000000000000 := by
 have h : ∀ i, -20000000000000000 ≤ dotI d (l.getD i default) ∧ dotI d (l.getD i default) ≤ 20000000000000000 := by
  intro i
  have hp := Qbg hl smP0 i
  have h1 := Qj7 hd.sm.1 hp.1
  have h2 := Qj7 hd.sm.2.1 hp.2
  unfold dotI
  omega
 intro i
 induction i with
 | zero => exact h 0
 | succ i ih =>
  have := h i
  rw [mstN]
  omega
def Qie (da db : D) (L : List Dr) (i : Int) : St := mkS [(0, .d da), (1, .d db), (5, gAE 36 L), (6, ai i)] (gHE cD 3 36 L)
def Qo9 (da db : D) (L : List Dr) : St := mkS [(0, .d da), (1, .d db), (5, gAE 36 L)] (gHE cD 3 36 L)
def QkN (da db : D) (L : List Dr) (i : Int) : St := mkS [(0, .d da), (1, .d db), (5, .own [36] L.length), (9, ai i)] [([36], arE cD 3 L.length L)]
def QrL (da db : D) (L : List Dr) : St := mkS [(0, .d da), (1, .d db), (5, .own [36] L.length)] [([36], arE cD 3 L.length L)]
def Qib (da db : D) (L : List Dr) (O : List Eg) (i : Int) (f : Bool) (k : Int) : St := mkS [(0, .d da), (1, .d db), (5, .own [36] L.length), (12, gAE 104 O), (13, ai i), (14, ab f), (15, ai k)] (([36], arE cD 3 L.length L) :: gHE cG 4 104 O)
def Qn4 (da db : D) (L : List Dr) (O : List Eg) (i : Int) (f : Bool) : St := mkS [(0, .d da), (1, .d db), (5, .own [36] L.length), (12, gAE 104 O), (13, ai i), (14, ab f)] (([36], arE cD 3 L.length L) :: gHE cG 4 104 O)
def QgV (da db : D) (L : List Dr) (O : List Eg) (i : Int) : St := mkS [(0, .d da), (1, .d db), (5, .own [36] L.length), (12, gAE 104 O), (13, ai i)] (([36], arE cD 3 L.length L) :: gHE cG 4 104 O)
def Qov (O : List Eg) : St := mkS [(12, gAE 104 O)] (gHE cG 4 104 O)
theorem bnd3 {n : Nat} (h : n ≤ 1000) : ((n + 1) * 24 ≤ bound) = True := eq_true (by unfold bound; omega)
theorem bnd4 {n : Nat} (h : n ≤ 1000) : ((n + 1) * 32 ≤ bound) = True := eq_true (by unfold bound; omega)
theorem b24 : (24 ≤ bound) = True := eq_true (by unfold bound; omega)
theorem b24' : (1 * 24 ≤ bound) = True := eq_true (by unfold bound; omega)
theorem b32 : (32 ≤ bound) = True := eq_true (by unfold bound; omega)
theorem b32' : (1 * 32 ≤ bound) = True := eq_true (by unfold bound; omega)

theorem QkU (x : Obj) : QbK (hupd hp0 [104] x) [58] none = hupd hp0 [104] x := by
 funext j
 simp only [QbK, hupd]
 split
 ·rename_i h
  subst h
  simp [hp0]
 ·rfl

theorem sdP_ne {a b : List Pt} (ha : GdS a) : sdP a b ≠ [] := by
 unfold sdP
 have h1 : 0 < (drs a b).length := by rw [QjP]; have := ha.pos; omega
 have key : ∀ n, 0 < n → sdO a b (drs a b) n ≠ [] := by
  intro n
  induction n with
  | zero => intro h; omega
  | succ n ih =>
   intro _
   rw [sdO]
   by_cases hn : 0 < n
   ·split
    ·simp
    ·exact ih hn
   ·have : n = 0 := by omega
    subst this
    simp [frI]
 exact key _ h1
variable [Its]
theorem sd0_go {da db : D} {a : List Pt} (hr : RwE cP da a) (ha : GdS a) {L : List Dr} (hL : L.length ≤ 1000) {i : Nat} (hi : i < a.length) : X G Qa5 (Qie da db L i) = some (.n, Qie da db (L ++ [sdN a i]) ((i + 1 : Nat) : Int)) := by
 have hle := ha.le
 have ll := hr.len
 have e1 : decide ((i : Int) < (a.length : Int)) = true := lt_t (by omega)
 have e2 : w64 ((i : Int) + 1) = ((i + 1 : Nat) : Int) := by rw [Qac (by omega) (by omega)]; rfl
 have x1 := hr.ixa QaJ hi
 have x2 := fun hp => ldE QaJ hp hi
 have g1 := QlI hr hi (by omega)
 have hp := Qbg ha.sm smP0 i
 have hn : SmP (nxP a i) := by unfold nxP; split <;> exact Qbg ha.sm smP0 _
 have g2 := QnT (h := sdh a i) hp hn (ha.sq i hi).1 (ha.sq i hi).2
 have e3 : nrP ((nxP a i).1 - (a.getD i default).1) ((nxP a i).2 - (a.getD i default).2) (sdh a i) = sdN a i := rfl
 rw [e3] at g2
 simp only [encP, cP, encD, cD, iv, bv] at x2 g1 g2
 generalize (nxP a i).1 = n1 at *
 generalize (nxP a i).2 = n2 at *
 generalize (a.getD i default).1 = p1 at *
 generalize (a.getD i default).2 = p2 at *
 clear e3 hp hn
 generalize sdN a i = v at *
 obtain ⟨u1, u2, u3⟩ := v
 dsimp only at g2
 by_cases h0 : L = []
 ·subst h0
  have hq : ([(u1, u2, u3)] : List Dr) ≠ [] := by simp
  simp -implicitDefEqProofs (maxSteps := 10000000) only [Qa5, Qie, Qbd, Qbc, Qbt hq, Qbu hq, arE, flat1D, Qaa, List.nil_append, List.cons_append, List.length_nil, List.length_cons, Nat.zero_add, List.map_cons, List.map_nil, rep1_3, oneI, srcS, src, allD, Qaf, Qab, b24, b24', ll, x1, x2, g1, g2, go_sem, iv, bv, e1, e2, reduceCtorEq, ↓reduceIte, Nat.reduceEqDiff]
 ·have n3 := lenE QoV L
  have n4 := bnd3 hL
  simp -implicitDefEqProofs (maxSteps := 10000000) only [Qa5, Qie, Qaa, Qbt h0, Qbu h0, Qia, Qh2, arE, cD_snoc, Qay, n3, n4, List.nil_append, List.cons_append, List.length_nil, List.length_cons, Nat.zero_add, List.map_cons, List.map_nil, List.all_cons, List.all_nil, rep1_3, oneI, srcS, src, allD, QlZ, Qab, ll, x1, x2, g1, g2, go_sem, iv, bv, e1, e2, reduceCtorEq, ↓reduceIte, Nat.reduceEqDiff]
theorem sd0_stop {da db : D} {a : List Pt} (hr : RwE cP da a) {L : List Dr} : X G Qa5 (Qie da db L a.length) = some (.x 0, Qo9 da db L) := by
 have ll := hr.len
 have e1 : decide ((a.length : Int) < (a.length : Int)) = false := lt_f (by omega)
 by_cases h0 : L = []
 ·subst h0
  simp -implicitDefEqProofs (maxSteps := 10000000) only [Qa5, Qie, Qo9, Qbd, Qbc, Qaa, ll, go_sem, iv, bv, e1, reduceCtorEq, ↓reduceIte, Nat.reduceEqDiff]
 ·simp -implicitDefEqProofs (maxSteps := 10000000) only [Qa5, Qie, Qo9, Qbt h0, Qbu h0, Qaa, arE, Qay, ll, go_sem, iv, bv, e1, reduceCtorEq, ↓reduceIte, Nat.reduceEqDiff]
theorem QrJ {da db : D} {a : List Pt} (hr : RwE cP da a) (ha : GdS a) : ∀ (j i : Nat), i + j = a.length → X G (.loop Qa5) (Qie da db (drA a i) i) = some (.x 0, Qo9 da db (drA a a.length))
 | 0, i, h => by
  have : i = a.length := by omega
  subst this
  rw [Qah, sd0_stop hr]; rfl
 | j + 1, i, h => by
  have ih := QrJ (db := db) hr ha j (i + 1) (by omega)
  rw [drA_succ] at ih
  rw [Qah, sd0_go hr ha (by rw [QhR]; have := ha.le; omega) (by omega), Option.bind_some, if_pos rfl]
  exact ih
theorem sd1_go {da db : D} {b : List Pt} (hr : RwE cP db b) (hb : GdS b) {L : List Dr} (h0 : L ≠ []) (hL : L.length ≤ 1000) {i : Nat} (hi : i < b.length) : X G QbS (QkN da db L i) = some (.n, QkN da db (L ++ [tnD (sdN b i)]) ((i + 1 : Nat) : Int)) := by
 have hle := hb.le
 have ll := hr.len
 have e1 : decide ((i : Int) < (b.length : Int)) = true := lt_t (by omega)
 have e2 : w64 ((i : Int) + 1) = ((i + 1 : Nat) : Int) := by rw [Qac (by omega) (by omega)]; rfl
 have x1 := hr.ixa QaJ hi
 have x2 := fun hp => ldE QaJ hp hi
 have g1 := QlI hr hi (by omega)
 have hp := Qbg hb.sm smP0 i
 have hn : SmP (nxP b i) := by unfold nxP; split <;> exact Qbg hb.sm smP0 _
 have g2 := QnT (h := sdh b i) hp hn (hb.sq i hi).1 (hb.sq i hi).2
 have e3 : nrP ((nxP b i).1 - (b.getD i default).1) ((nxP b i).2 - (b.getD i default).2) (sdh b i) = sdN b i := rfl
 rw [e3] at g2
 have g3 := QoP (hb.nm i hi).sm
 simp only [encP, cP, encD, cD, iv, bv] at x2 g1 g2 g3
 generalize (nxP b i).1 = n1 at *
 generalize (nxP b i).2 = n2 at *
 generalize (b.getD i default).1 = p1 at *
 generalize (b.getD i default).2 = p2 at *
 clear e3 hp hn
 generalize sdN b i = v at *
 obtain ⟨u1, u2, u3⟩ := v
 dsimp only at g2 g3
 unfold tnD
 dsimp only
 generalize -u1 = v1 at *
 generalize -u2 = v2 at *
 have n3 := lenE QoV L
 have n4 := bnd3 hL
 have n5 : (L ++ [(v1, v2, u3)]).length = L.length + 1 := by simp
 simp -implicitDefEqProofs (maxSteps := 10000000) only [QbS, QkN, Qaa, arE, n5, cD_snoc, Qay, n3, n4, List.nil_append, List.cons_append, List.length_nil, List.length_cons, Nat.zero_add, List.map_cons, List.map_nil, List.all_cons, List.all_nil, rep1_3, oneI, srcS, src, allD, QlZ, Qab, ll, x1, x2, g1, g2, g3, go_sem, iv, bv, e1, e2, reduceCtorEq, ↓reduceIte, Nat.reduceEqDiff]
theorem sd1_stop {da db : D} {b : List Pt} (hr : RwE cP db b) {L : List Dr} : X G QbS (QkN da db L b.length) = some (.x 2, QrL da db L) := by
 have ll := hr.len
 have e1 : decide ((b.length : Int) < (b.length : Int)) = false := lt_f (by omega)
 simp -implicitDefEqProofs (maxSteps := 10000000) only [QbS, QkN, QrL, Qaa, arE, Qay, ll, go_sem, iv, bv, e1, reduceCtorEq, ↓reduceIte, Nat.reduceEqDiff]
theorem Qrw {da db : D} {b : List Pt} {L0 : List Dr} (hr : RwE cP db b) (hb : GdS b) (h0 : L0 ≠ []) (hL : L0.length ≤ 100) : ∀ (j i : Nat), i + j = b.length → X G (.loop QbS) (QkN da db (L0 ++ drB b i) i) = some (.x 2, QrL da db (L0 ++ drB b b.length))
 | 0, i, h => by
  have : i = b.length := by omega
  subst this
  rw [Qah, sd1_stop hr]; rfl
 | j + 1, i, h => by
  have ih := Qrw (da := da) hr hb h0 hL j (i + 1) (by omega)
  rw [drB_succ, ← List.append_assoc] at ih
  rw [Qah, sd1_go hr hb (by simp [h0]) (by rw [List.length_append, drB_len]; have := hb.le; omega) (by omega), Option.bind_some, if_pos rfl]
  exact ih
theorem sd2_go {da db : D} {L : List Dr} {O : List Eg} (hL : L.length ≤ 1000) {i k : Nat} {f : Bool} (hi : i < L.length) (hk : k < i) : X G Qa6 (Qib da db L O i f k) = some (.n, Qib da db L O i (f && !(eqDr (L.getD k default) (L.getD i default))) ((k + 1 : Nat) : Int)) := by
  have e1 : decide ((k : Int) < (i : Int)) = true := lt_t (by omega)
  have e2 : w64 ((k : Int) + 1) = ((k + 1 : Nat) : Int) := by rw [Qac (by omega) (by omega)]; rfl
  have b1 : (0 ≤ (k : Int)) = True := eq_true (by omega)
  have b2 : ((k : Int) < (L.length : Int)) = True := eq_true (by omega)
  have b3 : (0 ≤ (i : Int)) = True := eq_true (by omega)
  have b4 : ((i : Int) < (L.length : Int)) = True := eq_true (by omega)
  have x1 := ldO QoV (l := L) (j := k) (by omega)
  have x2 := ldO QoV (l := L) (j := i) hi
  unfold eqDr
  generalize L.getD k default = p at *
  generalize L.getD i default = q at *
  obtain ⟨p1, p2, p3⟩ := p
  obtain ⟨q1, q2, q3⟩ := q
  simp only [cD, iv] at x1 x2
  have e3 := eqD3 p1 p2 p3 q1 q2 q3
  dsimp only
  obtain ⟨t, ht⟩ : ∃ t, ((p1 == q1) && ((p2 == q2) && (p3 == q3))) = t := ⟨_, rfl⟩
  rw [ht] at e3 ⊢
  by_cases h0 : O = []
  · subst h0
    cases f <;> cases t <;> simp -implicitDefEqProofs (maxSteps := 10000000) only [Qa6, Qib, Qbd, Qbc, Qaa, QkU, arE, Qay, Int.toNat_natCast, x1, x2, e3, ht, b1, b2, b3, b4, Bool.not_true, Bool.not_false, Bool.and_false, Bool.and_true, go_sem, iv, bv, e1, e2, reduceCtorEq, ↓reduceIte, Nat.reduceEqDiff]
  · cases f <;> cases t <;> simp -implicitDefEqProofs (maxSteps := 10000000) only [Qa6, Qib, Qbt h0, Qbu h0, Qaa, QkU, arE, Qay, Int.toNat_natCast, x1, x2, e3, ht, b1, b2, b3, b4, Bool.not_true, Bool.not_false, Bool.and_false, Bool.and_true, go_sem, iv, bv, e1, e2, reduceCtorEq, ↓reduceIte, Nat.reduceEqDiff]
theorem sd2_stop {da db : D} {L : List Dr} {O : List Eg} {i : Nat} {f : Bool} : X G Qa6 (Qib da db L O i f i) = some (.x 6, Qn4 da db L O i f) := by
 have e1 : decide ((i : Int) < (i : Int)) = false := lt_f (by omega)
 by_cases h0 : O = []
 ·subst h0
  simp -implicitDefEqProofs (maxSteps := 10000000) only [Qa6, Qib, Qn4, Qbd, Qbc, Qaa, QkU, arE, Qay, go_sem, iv, bv, e1, reduceCtorEq, ↓reduceIte, Nat.reduceEqDiff]
 ·simp -implicitDefEqProofs (maxSteps := 10000000) only [Qa6, Qib, Qn4, Qbt h0, Qbu h0, Qaa, QkU, arE, Qay, go_sem, iv, bv, e1, reduceCtorEq, ↓reduceIte, Nat.reduceEqDiff]
theorem QqI {da db : D} {L : List Dr} {O : List Eg} (hL : L.length ≤ 1000) {i : Nat} (hi : i < L.length) : ∀ (j k : Nat), k + j = i → X G (.loop Qa6) (Qib da db L O i (frI L i k) k) = some (.x 6, Qn4 da db L O i (frI L i i))
 | 0, k, h => by
  have : k = i := by omega
  subst this
  rw [Qah, sd2_stop]; rfl
 | j + 1, k, h => by
  rw [Qah, sd2_go hL hi (by omega), Option.bind_some, if_pos rfl]
  exact QqI hL hi j (k + 1) (by omega)
theorem sd3_go {da db : D} {a b : List Pt} (hra : RwE cP da a) (hrb : RwE cP db b) (ha : GdS a) (hb : GdS b) {L : List Dr} (hLn : ∀ d ∈ L, NmD d) {O : List Eg} (hL : L.length ≤ 1000) (hO : O.length ≤ 1000) {i : Nat} (hi : i < L.length) :
    X G QaN (QgV da db L O i) = some (.n, QgV da db L (if frI L i i then O ++ [edP a b (L.getD i default)] else O) ((i + 1 : Nat) : Int)) := by
  have e1 : decide ((i : Int) < (L.length : Int)) = true := lt_t (by omega)
  have e2 : w64 ((i : Int) + 1) = ((i + 1 : Nat) : Int) := by rw [Qac (by omega) (by omega)]; rfl
  have b3 : (0 ≤ (i : Int)) = True := eq_true (by omega)
  have b4 : ((i : Int) < (L.length : Int)) = True := eq_true (by omega)
  have gl := QqI (da := da) (db := db) (O := O) hL hi i 0 (by omega)
  have ef : frI L i 0 = true := rfl
  rw [ef] at gl
  generalize frI L i i = f at *
  have x2 := ldO QoV (l := L) (j := i) hi
  have hd : NmD (L.getD i default) := by rw [List.getD_eq_getElem?_getD, List.getElem?_eq_getElem hi]; exact hLn _ (List.getElem_mem hi)
  have g1 := QoR hra ha.pos ha.sm hd.sm (by have := ha.le; omega)
  have g2 := QoP hd.sm
  have g3 := QoR hrb hb.pos hb.sm hd.tn.sm (by have := hb.le; omega)
  have m1 : -20000000000000000 ≤ moP (L.getD i default) a ∧ moP (L.getD i default) a ≤ 20000000000000000 := Ql9 hd ha.sm _
  have m2 : -20000000000000000 ≤ moP (tnD (L.getD i default)) b ∧ moP (tnD (L.getD i default)) b ≤ 20000000000000000 := Ql9 hd.tn hb.sm _
  unfold edP
  obtain ⟨z, hz⟩ : ∃ z, moP (L.getD i default) a + moP (tnD (L.getD i default)) b = z := ⟨_, rfl⟩
  have e3 : w64 (moP (L.getD i default) a + moP (tnD (L.getD i default)) b) = z := by rw [Qac (by omega) (by omega), hz]
  rw [hz]
  clear hz
  generalize moP (L.getD i default) a = z1 at *
  generalize moP (tnD (L.getD i default)) b = z2 at *
  clear hd hLn
  generalize L.getD i default = p at *
  obtain ⟨p1, p2, p3⟩ := p
  simp only [encD, cD, tnD, iv] at x2 g1 g2 g3
  generalize -p1 = v1 at *
  generalize -p2 = v2 at *
  simp only [Qib, Qn4, nc0] at gl
  cases f with
  | false =>
    rw [if_neg (by simp)]
    by_cases h0 : O = []
    · subst h0
      simp only [Qbd, Qbc, arE, go_sem] at gl
      simp -implicitDefEqProofs (maxSteps := 10000000) only [QaN, QgV, gl, Qbd, Qbc, Qaa, QkU, arE, Qay, go_sem, iv, bv, e1, e2, reduceCtorEq, ↓reduceIte, Nat.reduceEqDiff]
    · simp only [Qbt h0, Qbu h0, arE, go_sem] at gl
      simp -implicitDefEqProofs (maxSteps := 10000000) only [QaN, QgV, gl, Qbt h0, Qbu h0, Qaa, QkU, arE, Qay, go_sem, iv, bv, e1, e2, reduceCtorEq, ↓reduceIte, Nat.reduceEqDiff]
  | true =>
    rw [if_pos rfl]
    by_cases h0 : O = []
    · subst h0
      have hq : ([((p1, p2, p3), z)] : List Eg) ≠ [] := by simp
      simp only [Qbd, Qbc, arE, go_sem] at gl
      simp -implicitDefEqProofs (maxSteps := 10000000) only [QaN, QgV, gl, Qbd, Qbc, Qbt hq, Qbu hq, flat1G, Qaa, QkU, arE, Qay, Int.toNat_natCast, b3, b4, x2, g1, g2, g3, e3, b32, b32', QjX, oneI, srcS, src, allD, List.nil_append, List.cons_append, List.append_nil, List.length_nil, List.length_cons, Nat.zero_add, List.map_cons, List.map_nil, List.all_cons, List.all_nil, QcG, Qbl, go_sem, iv, bv, e1, e2, reduceCtorEq, ↓reduceIte, Nat.reduceEqDiff]
    · have n3 := lenE Qeb O
      have n4 := bnd4 hO
      simp only [Qbt h0, Qbu h0, arE, go_sem] at gl
      simp -implicitDefEqProofs (maxSteps := 10000000) only [QaN, QgV, gl, Qbt h0, Qbu h0, Qia, Qh2, QpI, Qaa, QkU, arE, Qay, n3, n4, Int.toNat_natCast, b3, b4, x2, g1, g2, g3, e3, QjX, oneI, srcS, src, allD, List.nil_append, List.cons_append, List.append_nil, List.length_nil, List.length_cons, Nat.zero_add, List.map_cons, List.map_nil, List.all_cons, List.all_nil, QcG, Qbl, go_sem, iv, bv, e1, e2, reduceCtorEq, ↓reduceIte, Nat.reduceEqDiff]
theorem sd3_stop {da db : D} {L : List Dr} {O : List Eg} : X G QaN (QgV da db L O L.length) = some (.x 4, Qov O) := by
 have e1 : decide ((L.length : Int) < (L.length : Int)) = false := lt_f (by omega)
 by_cases h0 : O = []
 ·subst h0
  simp -implicitDefEqProofs (maxSteps := 10000000) only [QaN, QgV, Qov, Qbd, Qbc, Qaa, QkU, arE, Qay, go_sem, iv, bv, e1, reduceCtorEq, ↓reduceIte, Nat.reduceEqDiff]
 ·simp -implicitDefEqProofs (maxSteps := 10000000) only [QaN, QgV, Qov, Qbt h0, Qbu h0, Qaa, QkU, arE, Qay, go_sem, iv, bv, e1, reduceCtorEq, ↓reduceIte, Nat.reduceEqDiff]
theorem Qrk {da db : D} {a b : List Pt} (hra : RwE cP da a) (hrb : RwE cP db b) (ha : GdS a) (hb : GdS b) {L : List Dr} (hLn : ∀ d ∈ L, NmD d) (hL : L.length ≤ 1000) : ∀ (j i : Nat), i + j = L.length → X G (.loop QaN) (QgV da db L (sdO a b L i) i) = some (.x 4, Qov (sdO a b L L.length))
 | 0, i, h => by
  have : i = L.length := by omega
  subst this
  rw [Qah, sd3_stop]; rfl
 | j + 1, i, h => by
  rw [Qah, sd3_go hra hrb ha hb hLn hL (by have := QkR a b L i; omega) (by omega), Option.bind_some, if_pos rfl]
  exact Qrk hra hrb ha hb hLn hL j (i + 1) (by omega)
theorem Ql5 {da db : D} {a b : List Pt} (hra : RwE cP da a) (hrb : RwE cP db b) (ha : GdS a) (hb : GdS b) : Qaj G Qc3 [da, db] = some (.own 4 (sdP a b).length ((sdP a b).flatMap cG)) := by
 rw [Qae (cf := gantryref12_Sides) rfl]
 have hna : drA a a.length ≠ [] := fun h => by
  have h1 := QhR a a.length
  rw [h] at h1
  have := ha.pos
  simp at h1
  omega
 have g0 := QrJ (db := db) hra ha a.length 0 (by omega)
 have g1 := Qrw (da := da) (L0 := drA a a.length) hrb hb hna (by rw [QhR]; have := ha.le; omega) b.length 0 (by omega)
 have g2 := Qrk hra hrb ha hb (drs_nm ha hb) (by rw [QjP]; have := ha.le; have := hb.le; omega) (drs a b).length 0 (by omega)
 have hne := sdP_ne (b := b) ha
 have e0 : drA a 0 = [] := rfl
 have e1 : drA a a.length ++ drB b 0 = drA a a.length := List.append_nil _
 have e2 : drA a a.length ++ drB b b.length = drs a b := rfl
 have e3 : sdO a b (drs a b) 0 = [] := rfl
 have e4 : sdO a b (drs a b) (drs a b).length = sdP a b := rfl
 rw [e0] at g0
 rw [e1, e2] at g1
 rw [e3, e4] at g2
 generalize drs a b = L at *
 generalize drA a a.length = L0 at *
 generalize sdP a b = O at *
 simp only [Qie, Qo9, Qbd, Qbc, Qbt hna, Qbu hna, arE, Qaa, go_sem, nc0, iv] at g0
 simp only [QkN, QrL, arE, Qaa, go_sem, nc0, iv] at g1
 simp only [QgV, Qov, Qbd, Qbc, Qbt hne, Qbu hne, arE, Qaa, go_sem, nc0, iv] at g2
 simp -implicitDefEqProofs (maxSteps := 10000000) only [gantryref12_Sides, g0, g1, g2, Qay, Qhi, Qaa, QkU, go_sem, iv, bv, reduceCtorEq, ↓reduceIte, Nat.reduceEqDiff]
end Go.AM

/- Rows and arrays of rationals. -/
namespace Go.AM
open Go Go.RowKit

def cRs : List Rat → List D
 | [] => []
 | q :: l => .v (.bool (decide (q.num < 0))) :: dg (digs q.num.natAbs) :: .v (.bool false) :: dg (dd q.den) :: cRs l
def rowR (l : List Rat) : D := .row l.length (cRs l)
theorem QfT : ∀ l : List Rat, (cRs l).length = l.length * 4
 | [] => rfl
 | q :: l => by simp only [cRs, List.length_cons, QfT l]; omega
theorem Qm2 : ∀ (l : List Rat) (n : Nat), (cRs l).drop (n * 4) = cRs (l.drop n)
 | [], n => by simp [cRs]
 | q :: l, 0 => rfl
 | q :: l, n + 1 => by
  rw [show (n + 1) * 4 = n * 4 + 1 + 1 + 1 + 1 by omega, cRs]
  simp only [List.drop_succ_cons]
  exact Qm2 l n
theorem Qkv : ∀ (l : List Rat) (n : Nat), (cRs l).take (n * 4) = cRs (l.take n)
 | [], n => by simp [cRs]
 | q :: l, 0 => rfl
 | q :: l, n + 1 => by
  rw [show (n + 1) * 4 = n * 4 + 1 + 1 + 1 + 1 by omega, cRs]
  simp only [List.take_succ_cons, Qkv l n, cRs]
theorem cRs_inj : ∀ {l m : List Rat}, cRs l = cRs m → l = m
 | [], [], _ => rfl
 | [], _ :: _, h => by simp [cRs] at h
 | _ :: _, [], h => by simp [cRs] at h
 | a :: l, b :: m, h => by
  simp only [cRs, List.cons.injEq, D.v.injEq, Value.bool.injEq, true_and] at h
  obtain ⟨h1, h2, h3, h4⟩ := h
  rw [rat_inj h1 h2 h3, cRs_inj h4]
def RwR (d : D) (l : List Rat) : Prop := (d = .z true ∧ l = []) ∨ d = rowR l
theorem RwR.row (l : List Rat) : RwR (rowR l) l := .inr rfl
theorem RwR.nil : RwR (.z true) [] := .inl ⟨rfl, rfl⟩
theorem RwR.inj {d : D} {l m : List Rat} (h : RwR d l) (h' : RwR d m) : l = m := by
 rcases h with ⟨h1, h2⟩ | h1 <;> rcases h' with ⟨h3, h4⟩ | h3
 ·rw [h2, h4]
 ·rw [h1] at h3; cases h3
 ·rw [h1] at h3; cases h3
 ·rw [h1] at h3
  simp only [rowR, D.row.injEq] at h3
  exact cRs_inj h3.2
theorem RwR.len {d : D} {l : List Rat} (h : RwR d l) : lenA (.d d) = some l.length := by
 rcases h with ⟨rfl, rfl⟩ | rfl
 ·rfl
 ·rfl
theorem RwR.ixa {d : D} {l : List Rat} (hr : RwR d l) {j : Nat} (h1 : j < l.length) (h : Hp) : ixaA h 4 (j : Int) (.d d) = some (.d (.rp (cRs (l.drop j)))) := by
 rcases hr with ⟨rfl, rfl⟩ | rfl
 ·simp at h1
 ·simp only [ixaA, guardO, rowR]
  rw [if_pos ⟨by omega, by omega⟩, Int.toNat_natCast, Qm2]
theorem ldR (h : Hp) (l : List Rat) {j : Nat} (h1 : j < l.length) : QcF h (some 4) (.d (.rp (cRs (l.drop j)))) = some (.d (encR (l.getD j 0))) := by
 have e : l.drop j = l.getD j 0 :: l.drop (j + 1) := by
  rw [List.drop_eq_getElem_cons h1, List.getD_eq_getElem?_getD, List.getElem?_eq_getElem h1]; rfl
 rw [e]
 show guardO (4 ≤ (cRs (l.getD j 0 :: l.drop (j + 1))).length) (some (A.d (D.agg ((cRs (l.getD j 0 :: l.drop (j + 1))).take 4)))) = _
 exact if_pos (by rw [QfT, List.length_cons]; omega)
theorem RwR.src {d : D} {l : List Rat} (hr : RwR d l) (st : St) : src st (.d d) = some (l.length, cRs l) := by
 rcases hr with ⟨rfl, rfl⟩ | rfl
 ·rfl
 ·rfl
theorem RwR.srcS {d : D} {l : List Rat} (hr : RwR d l) (st : St) : srcS st (.d d) = some (l.length, cRs l) := by
 rcases hr with ⟨rfl, rfl⟩ | rfl
 ·rfl
 ·rfl
theorem Qrz (ks : List Key) : ∀ cs : List D, QfO ks (cs.map A.d) = true
 | [] => rfl
 | c :: cs => by rw [List.map_cons, QfO, Qrz ks cs]; rfl
def cA (l : List Rat) : List A := (cRs l).map A.d
def arrR (n : Nat) (l : List Rat) : Obj := ⟨4, n, cA l, false⟩
attribute [go_sem] arrR
theorem one_b (b : Bool) : (D.v (.bool b)).one = true := rfl
def dR (l : List Rat) : D := if l = [] then .z true else rowR l
theorem dR_ok (l : List Rat) : RwR (dR l) l := by
 unfold dR; split
 ·rename_i h; exact .inl ⟨rfl, h⟩
 ·exact .inr rfl
def SzL (K : Nat) (l : List Rat) : Prop := ∀ q ∈ l, sz q ≤ K
theorem SzL.getD {K : Nat} {l : List Rat} (h : SzL K l) (h1 : 1 ≤ K) (j : Nat) : sz (l.getD j 0) ≤ K := by
 by_cases hj : j < l.length
 ·have : l.getD j 0 = l[j] := by rw [List.getD_eq_getElem?_getD, List.getElem?_eq_getElem hj]; rfl
  rw [this]; exact h _ (List.getElem_mem hj)
 ·rw [List.getD_eq_getElem?_getD, List.getElem?_eq_none (by omega)]
  show sz 0 ≤ K
  rw [Qjg]; exact h1
theorem SzL.mono {K L : Nat} {l : List Rat} (h : SzL K l) (hk : K ≤ L) : SzL L l := fun q hq => Nat.le_trans (h q hq) hk
end Go.AM

