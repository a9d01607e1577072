/- Part 9 of the proof: a small machine, its soundness against the model, and what the program's functions compute on it. -/
import Derived.Test.YtpcoidklfmaomaaM8
import Derived.Test.YtpcoidklfmaomaaM6
set_option linter.unusedVariables false
set_option linter.unusedSimpArgs false
/- Laws of rationals for rat and ref05. -/
namespace Go.AM
open Go Go.RowKit

theorem nd_one : nd 1 = 1 := by rw [nd, show (1 : Int).natAbs = 1 from rfl, digs_one]; rfl
theorem nd_pos {n : Nat} (h : 0 < n) : 1 ≤ nd (n : Int) := digs_length_pos.2 h
theorem sz_one (q : Rat) : 1 ≤ sz q := Nat.le_trans (nd_pos q.den_pos) (sz_den (Nat.le_refl _))
theorem nd_dvd {a b : Int} (h : a ∣ b) (hb : b ≠ 0) : nd a ≤ nd b := nd_mono (Nat.le_of_dvd (by omega) (Int.natAbs_dvd_natAbs.2 h))
theorem divInt_dvd {n d : Int} (hd : d ≠ 0) : (Rat.divInt n d).num ∣ n ∧ ((Rat.divInt n d).den : Int) ∣ d := by
  obtain ⟨m, h1, h2, h3⟩ := Rat.divInt_num_den (n := n) (d := d) (n' := (Rat.divInt n d).num) (d' := (Rat.divInt n d).den) (z' := (Rat.divInt n d).den_nz) (c := (Rat.divInt n d).reduced) hd rfl
  exact ⟨⟨m, h2⟩, ⟨m, h3⟩⟩
theorem sz_divInt {n d : Int} {k : Nat} (hk : 1 ≤ k) (hn : nd n ≤ k) (hd : nd d ≤ k) : sz (Rat.divInt n d) ≤ k := by
  by_cases h0 : d = 0
  · subst h0
    rw [Rat.divInt_zero]
    exact sz_le (by rw [Rat.zero_num, nd_zero]; omega) (by rw [Rat.zero_den]; exact Nat.le_trans (Nat.le_of_eq nd_one) hk)
  · obtain ⟨h1, h2⟩ := divInt_dvd (n := n) h0
    refine sz_le ?_ (Nat.le_trans (nd_dvd h2 h0) hd)
    by_cases hn0 : n = 0
    · subst hn0
      rw [Rat.zero_divInt, Rat.zero_num, nd_zero]; omega
    · exact Nat.le_trans (nd_dvd h1 hn0) hn
theorem add_divInt (a b : Rat) : a + b = Rat.divInt (a.num * b.den + b.num * a.den) ((a.den : Int) * b.den) := by
  rw [Rat.add_def', ← Rat.divInt_ofNat, Int.natCast_mul]
theorem mul_divInt (a b : Rat) : a * b = Rat.divInt (a.num * b.num) ((a.den : Int) * b.den) := by
  rw [Rat.mul_def', ← Rat.divInt_ofNat, Int.natCast_mul]
theorem sz_add {a b : Rat} : sz (a + b) ≤ sz a + sz b + 1 := by
  rw [add_divInt]
  have a1 := sz_num (Nat.le_refl (sz a)); have a2 := sz_den (Nat.le_refl (sz a))
  have b1 := sz_num (Nat.le_refl (sz b)); have b2 := sz_den (Nat.le_refl (sz b))
  have m1 := nd_mul (x := a.num) (y := b.den)
  have m2 := nd_mul (x := b.num) (y := a.den)
  have m3 := nd_mul (x := a.den) (y := b.den)
  exact sz_divInt (by omega) (nd_add (by omega) (by omega)) (by omega)
theorem sz_mul {a b : Rat} : sz (a * b) ≤ sz a + sz b := by
  rw [mul_divInt]
  have a1 := sz_num (Nat.le_refl (sz a)); have a2 := sz_den (Nat.le_refl (sz a))
  have b1 := sz_num (Nat.le_refl (sz b)); have b2 := sz_den (Nat.le_refl (sz b))
  have m1 := nd_mul (x := a.num) (y := b.num)
  have m3 := nd_mul (x := a.den) (y := b.den)
  have := sz_one a
  exact sz_divInt (by omega) (by omega) (by omega)
theorem sz_neg (a : Rat) : sz (-a) = sz a := by rw [sz, sz, Rat.neg_num, Rat.neg_den, nd_neg]
theorem of_den_one {a : Rat} (h : a.den = 1) : a = (a.num : Rat) := Rat.ext rfl h
theorem add_whole {a b : Rat} (ha : a.den = 1) (hb : b.den = 1) : (a + b).num = a.num + b.num ∧ (a + b).den = 1 := by
  have e : a + b = ((a.num + b.num : Int) : Rat) := by
    rw [Rat.intCast_add, ← of_den_one ha, ← of_den_one hb]
  rw [e]; exact ⟨rfl, rfl⟩
theorem mul_whole {a b : Rat} (ha : a.den = 1) (hb : b.den = 1) : (a * b).num = a.num * b.num ∧ (a * b).den = 1 := by
  have e : a * b = ((a.num * b.num : Int) : Rat) := by
    rw [Rat.intCast_mul, ← of_den_one ha, ← of_den_one hb]
  rw [e]; exact ⟨rfl, rfl⟩
theorem num_zero {a : Rat} (h : a.num = 0) : a = 0 := Rat.num_eq_zero.1 h
/-- Cancelling crosswise leaves lowest terms. -/
theorem cross (a b : Rat) : Int.gcd ((Rat.divInt a.num b.den).num * (Rat.divInt b.num a.den).num) (((Rat.divInt a.num b.den).den : Int) * (Rat.divInt b.num a.den).den) = 1 := by
  have hp := (Rat.divInt a.num b.den).reduced
  have hq := (Rat.divInt b.num a.den).reduced
  obtain ⟨p1, p2⟩ := divInt_dvd (n := a.num) (d := b.den) (by have := b.den_pos; omega)
  obtain ⟨q1, q2⟩ := divInt_dvd (n := b.num) (d := a.den) (by have := a.den_pos; omega)
  generalize Rat.divInt a.num b.den = p at *
  generalize Rat.divInt b.num a.den = q at *
  have c1 : Nat.Coprime p.num.natAbs q.den := Nat.Coprime.coprime_dvd_left (Int.natAbs_dvd_natAbs.2 p1) (Nat.Coprime.coprime_dvd_right (Int.natCast_dvd_natCast.1 q2) a.reduced)
  have c2 : Nat.Coprime q.num.natAbs p.den := Nat.Coprime.coprime_dvd_left (Int.natAbs_dvd_natAbs.2 q1) (Nat.Coprime.coprime_dvd_right (Int.natCast_dvd_natCast.1 p2) b.reduced)
  have e : Nat.Coprime (p.num.natAbs * q.num.natAbs) (p.den * q.den) :=
    Nat.Coprime.mul_left (Nat.Coprime.mul_right hp c1) (Nat.Coprime.mul_right c2 hq)
  rw [Int.gcd, Int.natAbs_mul, Int.natAbs_mul, Int.natAbs_natCast, Int.natAbs_natCast]
  exact e
theorem cross_val (a b : Rat) : Rat.divInt ((Rat.divInt a.num b.den).num * (Rat.divInt b.num a.den).num) (((Rat.divInt a.num b.den).den : Int) * (Rat.divInt b.num a.den).den) = a * b := by
  rw [← mul_divInt, Rat.divInt_mul_divInt, mul_divInt, Int.mul_comm (b.den : Int)]

def cmpR (a b : Rat) : Int := Int.sign (a.num * b.den - b.num * a.den)
theorem sign_pos_mul {x y : Int} (h : 0 < y) : Int.sign (x * y) = Int.sign x := by rw [Int.sign_mul, Int.sign_eq_one_of_pos h, Int.mul_one]
theorem cmpR_signs {a b : Rat} (h : Int.sign a.num ≠ Int.sign b.num ∨ Int.sign a.num = 0) : Int.sign (Int.sign a.num - Int.sign b.num) = cmpR a b := by
  have hb : (0 : Int) < b.den := by have := b.den_pos; omega
  have ha : (0 : Int) < a.den := by have := a.den_pos; omega
  have e1 := sign_pos_mul (x := a.num) hb
  have e2 := sign_pos_mul (x := b.num) ha
  rw [cmpR]
  rw [← e1, ← e2] at h ⊢
  generalize a.num * (b.den : Int) = X at *
  generalize b.num * (a.den : Int) = Y at *
  rcases Int.lt_trichotomy X 0 with hx | hx | hx <;> rcases Int.lt_trichotomy Y 0 with hy | hy | hy
  · rw [Int.sign_eq_neg_one_of_neg hx, Int.sign_eq_neg_one_of_neg hy] at h; omega
  · rw [Int.sign_eq_neg_one_of_neg hx, hy, Int.sign_eq_neg_one_of_neg (show X - 0 < 0 by omega)]; rfl
  · rw [Int.sign_eq_neg_one_of_neg hx, Int.sign_eq_one_of_pos hy, Int.sign_eq_neg_one_of_neg (show X - Y < 0 by omega)]; rfl
  · rw [hx, Int.sign_eq_neg_one_of_neg hy, Int.sign_eq_one_of_pos (show 0 < 0 - Y by omega)]; rfl
  · rw [hx, hy]; rfl
  · rw [hx, Int.sign_eq_one_of_pos hy, Int.sign_eq_neg_one_of_neg (show 0 - Y < 0 by omega)]; rfl
  · rw [Int.sign_eq_one_of_pos hx, Int.sign_eq_neg_one_of_neg hy, Int.sign_eq_one_of_pos (show 0 < X - Y by omega)]; rfl
  · rw [Int.sign_eq_one_of_pos hx, hy, Int.sign_eq_one_of_pos (show 0 < X - 0 by omega)]; rfl
  · rw [Int.sign_eq_one_of_pos hx, Int.sign_eq_one_of_pos hy] at h; omega
theorem cmpR_lt {a b : Rat} : cmpR a b < 0 ↔ a < b := by
  rw [Rat.lt_iff, cmpR, Int.sign_neg_iff]; omega
theorem cmpR_le {a b : Rat} : cmpR a b ≤ 0 ↔ a ≤ b := by
  rw [Rat.le_iff, cmpR]
  rcases Int.lt_trichotomy (a.num * b.den - b.num * a.den) 0 with h | h | h
  · rw [Int.sign_eq_neg_one_of_neg h]; omega
  · rw [h]; simp; omega
  · rw [Int.sign_eq_one_of_pos h]; omega
end Go.AM

/- rat.Neg, Sign, Add, Sub, Mul, Div, Compare -/
namespace Go.AM
open Go Go.RowKit

theorem dden {a : Rat} (h : a.den = 1) : dg (dd a.den) = .z true := by rw [h]; rfl
theorem encI_den (a : Rat) : encI (a.den : Int) = .agg [.v (.bool false), dg (digs a.den)] := encI_nat a.den
theorem lend1 {a : Rat} (h : a.den = 1) : (((dd a.den).length : Int) == 0) = true := by rw [h]; rfl
theorem lend0 {a : Rat} (h : a.den ≠ 1) : (((dd a.den).length : Int) == 0) = false := by
  rw [dd_ne h]; exact beq_f (by have := digs_length_pos.2 a.den_pos; omega)
variable [Its]

theorem ratNeg_spec (a : Rat) : callX G n_rat_Neg [encR a] = some (.d (encR (-a))) := by
  rw [callX_eq (cf := rat_Neg) rfl]
  have g := Neg_spec a.num
  have e : encR (-a) = .agg [.v (.bool (decide (-a.num < 0))), dg (digs (-a.num).natAbs), .v (.bool false), dg (dd a.den)] := rfl
  rw [e]
  clear e
  generalize -a.num = N at *
  simp only [encI, bv, iv] at g
  simp -implicitDefEqProofs (maxSteps := 10000000) only [rat_Neg, encR, go_sem, stcells, ldcells, iv, bv, g, reduceCtorEq, ↓reduceIte, Nat.reduceEqDiff]

theorem ratSign_spec (a : Rat) : callX G n_rat_Sign [encR a] = some (.d (iv (Int.sign a.num))) := by
  rw [callX_eq (cf := rat_Sign) rfl]
  have g := Sign_spec a.num
  simp only [encI, bv, iv] at g
  simp -implicitDefEqProofs (maxSteps := 10000000) only [rat_Sign, encR, go_sem, stcells, ldcells, iv, bv, g, reduceCtorEq, ↓reduceIte, Nat.reduceEqDiff]

theorem ratAdd_spec {a b : Rat} (ha : sz a ≤ 100000000000) (hb : sz b ≤ 100000000000) : callX G n_rat_Add [encR a, encR b] = some (.d (encR (a + b))) := by
  rw [callX_eq (cf := rat_Add) rfl]
  have a1 := sz_num ha; have a2 := sz_den ha; have b1 := sz_num hb; have b2 := sz_den hb
  have la := lenA_dg (digs a.num.natAbs)
  have lb := lenA_dg (digs b.num.natAbs)
  have ea := lenA_dg (dd a.den)
  have eb := lenA_dg (dd b.den)
  by_cases h1 : a.den = 1 ∧ b.den = 1
  · obtain ⟨w1, w2⟩ := add_whole h1.1 h1.2
    have u1 := lend1 h1.1
    have u2 := lend1 h1.2
    have g := Add_spec (x := a.num) (y := b.num) (by omega) (by omega)
    have e : encR (a + b) = .agg [.v (.bool (decide (a.num + b.num < 0))), dg (digs (a.num + b.num).natAbs), .v (.bool false), .z true] := by rw [encR, w1, dden w2]
    rw [e]
    clear e w1 w2
    generalize a.num + b.num = N at *
    simp only [encI, bv, iv] at g
    simp -implicitDefEqProofs (maxSteps := 10000000) only [rat_Add, encR, go_sem, stcells, ldcells, iv, bv, la, lb, ea, eb, u1, u2, g, reduceCtorEq, ↓reduceIte, Nat.reduceEqDiff]
  · have m1 := nd_mul (x := a.num) (y := b.den)
    have m2 := nd_mul (x := b.num) (y := a.den)
    have m3 := nd_mul (x := a.den) (y := b.den)
    have g1 := Den_spec a
    have g2 := Den_spec b
    have g3 := Mul_spec (x := a.num) (y := b.den) (by omega) (by omega)
    have g4 := Mul_spec (x := b.num) (y := a.den) (by omega) (by omega)
    have g5 := Mul_spec (x := a.den) (y := b.den) (by omega) (by omega)
    have g6 := Add_spec (x := a.num * b.den) (y := b.num * a.den) (by omega) (by omega)
    have g7 := Make_spec (n := a.num * b.den + b.num * a.den) (d := (a.den : Int) * b.den) (Nat.le_trans (nd_add (k := 200000000000) (by omega) (by omega)) (by omega)) (by omega)
    rw [← add_divInt] at g7
    rw [encI_den] at g1 g2 g3 g4
    rw [encI_den, encI_den] at g5
    generalize a.num * (b.den : Int) + b.num * (a.den : Int) = N at *
    generalize a.num * (b.den : Int) = N1 at *
    generalize b.num * (a.den : Int) = N2 at *
    generalize (a.den : Int) * (b.den : Int) = D at *
    by_cases h2 : a.num = 0
    · have z1 := lenz h2
      have e : a + b = b := by rw [num_zero h2, Rat.zero_add]
      rw [e]
      by_cases h3 : a.den = 1
      · have u1 := lend1 h3
        have u2 := lend0 (fun h => h1 ⟨h3, h⟩)
        simp -implicitDefEqProofs (maxSteps := 10000000) only [rat_Add, encR, go_sem, stcells, ldcells, iv, bv, la, lb, ea, eb, u1, u2, z1, reduceCtorEq, ↓reduceIte, Nat.reduceEqDiff]
      · have u1 := lend0 h3
        simp -implicitDefEqProofs (maxSteps := 10000000) only [rat_Add, encR, go_sem, stcells, ldcells, iv, bv, la, lb, ea, eb, u1, z1, reduceCtorEq, ↓reduceIte, Nat.reduceEqDiff]
    · have z1 := lennz h2
      by_cases h4 : b.num = 0
      · have z2 := lenz h4
        have e : a + b = a := by rw [num_zero h4, Rat.add_zero]
        rw [e]
        by_cases h3 : a.den = 1
        · have u1 := lend1 h3
          have u2 := lend0 (fun h => h1 ⟨h3, h⟩)
          simp -implicitDefEqProofs (maxSteps := 10000000) only [rat_Add, encR, go_sem, stcells, ldcells, iv, bv, la, lb, ea, eb, u1, u2, z1, z2, reduceCtorEq, ↓reduceIte, Nat.reduceEqDiff]
        · have u1 := lend0 h3
          simp -implicitDefEqProofs (maxSteps := 10000000) only [rat_Add, encR, go_sem, stcells, ldcells, iv, bv, la, lb, ea, eb, u1, z1, z2, reduceCtorEq, ↓reduceIte, Nat.reduceEqDiff]
      · have z2 := lennz h4
        generalize a + b = S at *
        simp only [encI, encR, bv, iv] at g1 g2 g3 g4 g5 g6 g7
        by_cases h3 : a.den = 1
        · have u1 := lend1 h3
          have u2 := lend0 (fun h => h1 ⟨h3, h⟩)
          simp -implicitDefEqProofs (maxSteps := 10000000) only [rat_Add, encR, go_sem, stcells, ldcells, iv, bv, la, lb, ea, eb, u1, u2, z1, z2, g1, g2, g3, g4, g5, g6, g7, apartS, ne_eq, not_false_eq_true, reduceCtorEq, ↓reduceIte, Nat.reduceEqDiff]
        · have u1 := lend0 h3
          simp -implicitDefEqProofs (maxSteps := 10000000) only [rat_Add, encR, go_sem, stcells, ldcells, iv, bv, la, lb, ea, eb, u1, z1, z2, g1, g2, g3, g4, g5, g6, g7, apartS, ne_eq, not_false_eq_true, reduceCtorEq, ↓reduceIte, Nat.reduceEqDiff]

theorem ratSub_spec {a b : Rat} (ha : sz a ≤ 100000000000) (hb : sz b ≤ 100000000000) : callX G n_rat_Sub [encR a, encR b] = some (.d (encR (a - b))) := by
  rw [callX_eq (cf := rat_Sub) rfl]
  have g1 := ratNeg_spec b
  have g2 := ratAdd_spec (a := a) (b := -b) ha (by rw [sz_neg]; exact hb)
  rw [← Rat.sub_eq_add_neg] at g2
  generalize -b = B at *
  simp only [encR, bv, iv] at g1 g2
  simp -implicitDefEqProofs (maxSteps := 10000000) only [rat_Sub, encR, go_sem, stcells, ldcells, iv, bv, g1, g2, reduceCtorEq, ↓reduceIte, Nat.reduceEqDiff]

theorem ratMul_spec {a b : Rat} (ha : sz a ≤ 100000000000) (hb : sz b ≤ 100000000000) : callX G n_rat_Mul [encR a, encR b] = some (.d (encR (a * b))) := by
  rw [callX_eq (cf := rat_Mul) rfl]
  have a1 := sz_num ha; have a2 := sz_den ha; have b1 := sz_num hb; have b2 := sz_den hb
  have la := lenA_dg (digs a.num.natAbs)
  have lb := lenA_dg (digs b.num.natAbs)
  have ea := lenA_dg (dd a.den)
  have eb := lenA_dg (dd b.den)
  by_cases h2 : a.num = 0
  · have z1 := lenz h2
    have e : a * b = 0 := by rw [num_zero h2, Rat.zero_mul]
    rw [e, encR_zero]
    simp -implicitDefEqProofs (maxSteps := 10000000) only [rat_Mul, encR, go_sem, stcells, ldcells, iv, bv, la, lb, ea, eb, z1, reduceCtorEq, ↓reduceIte, Nat.reduceEqDiff]
  have z1 := lennz h2
  by_cases h4 : b.num = 0
  · have z2 := lenz h4
    have e : a * b = 0 := by rw [num_zero h4, Rat.mul_zero]
    rw [e, encR_zero]
    simp -implicitDefEqProofs (maxSteps := 10000000) only [rat_Mul, encR, go_sem, stcells, ldcells, iv, bv, la, lb, ea, eb, z1, z2, reduceCtorEq, ↓reduceIte, Nat.reduceEqDiff]
  have z2 := lennz h4
  by_cases h1 : a.den = 1 ∧ b.den = 1
  · obtain ⟨w1, w2⟩ := mul_whole h1.1 h1.2
    have u1 := lend1 h1.1
    have u2 := lend1 h1.2
    have g := Mul_spec (x := a.num) (y := b.num) (by omega) (by omega)
    have e : encR (a * b) = .agg [.v (.bool (decide (a.num * b.num < 0))), dg (digs (a.num * b.num).natAbs), .v (.bool false), .z true] := by rw [encR, w1, dden w2]
    rw [e]
    clear e w1 w2
    generalize a.num * b.num = N at *
    simp only [encI, bv, iv] at g
    simp -implicitDefEqProofs (maxSteps := 10000000) only [rat_Mul, encR, go_sem, stcells, ldcells, iv, bv, la, lb, ea, eb, u1, u2, z1, z2, g, reduceCtorEq, ↓reduceIte, Nat.reduceEqDiff]
  · have g1 := Den_spec a
    have g2 := Den_spec b
    have g3 := Make_spec (n := a.num) (d := b.den) (by omega) (by omega)
    have g4 := Make_spec (n := b.num) (d := a.den) (by omega) (by omega)
    have k1 := sz_divInt (n := a.num) (d := b.den) (k := 100000000000) (by omega) a1 b2
    have k2 := sz_divInt (n := b.num) (d := a.den) (k := 100000000000) (by omega) b1 a2
    have cr := cross a b
    have cv := cross_val a b
    generalize Rat.divInt a.num b.den = p at *
    generalize Rat.divInt b.num a.den = q at *
    have p1 := sz_num k1; have p2 := sz_den k1; have q1 := sz_num k2; have q2 := sz_den k2
    have m1 := nd_mul (x := p.num) (y := q.num)
    have m2 := nd_mul (x := p.den) (y := q.den)
    have g5 := Den_spec p
    have g6 := Den_spec q
    have g7 := Mul_spec (x := p.num) (y := q.num) (by omega) (by omega)
    have g8 := Mul_spec (x := p.den) (y := q.den) (by omega) (by omega)
    have hne : (p.den : Int) * (q.den : Int) ≠ 0 := Int.mul_ne_zero (by have := p.den_pos; omega) (by have := q.den_pos; omega)
    have g9 := lowest_spec (n := p.num * q.num) (d := (p.den : Int) * q.den) hne cr (by omega)
    rw [cv] at g9
    rw [encI_den] at g1 g2 g3 g4 g5 g6
    rw [encI_den, encI_den] at g8
    generalize p.num * q.num = N at *
    generalize (p.den : Int) * (q.den : Int) = D at *
    generalize a * b = S at *
    simp only [encI, encR, bv, iv] at g1 g2 g3 g4 g5 g6 g7 g8 g9
    by_cases h3 : a.den = 1
    · have u1 := lend1 h3
      have u2 := lend0 (fun h => h1 ⟨h3, h⟩)
      simp -implicitDefEqProofs (maxSteps := 10000000) only [rat_Mul, encR, go_sem, stcells, ldcells, iv, bv, la, lb, ea, eb, u1, u2, z1, z2, g1, g2, g3, g4, g5, g6, g7, g8, g9, apartS, ne_eq, not_false_eq_true, reduceCtorEq, ↓reduceIte, Nat.reduceEqDiff]
    · have u1 := lend0 h3
      simp -implicitDefEqProofs (maxSteps := 10000000) only [rat_Mul, encR, go_sem, stcells, ldcells, iv, bv, la, lb, ea, eb, u1, z1, z2, g1, g2, g3, g4, g5, g6, g7, g8, g9, apartS, ne_eq, not_false_eq_true, reduceCtorEq, ↓reduceIte, Nat.reduceEqDiff]

theorem ratCompare_spec {a b : Rat} (ha : sz a ≤ 100000000000) (hb : sz b ≤ 100000000000) : callX G n_rat_Compare [encR a, encR b] = some (.d (iv (cmpR a b))) := by
  rw [callX_eq (cf := rat_Compare) rfl]
  have a1 := sz_num ha; have a2 := sz_den ha; have b1 := sz_num hb; have b2 := sz_den hb
  have g1 := ratSign_spec a
  have g2 := ratSign_spec b
  have s1 : -1 ≤ Int.sign a.num ∧ Int.sign a.num ≤ 1 := by
    rcases Int.lt_trichotomy a.num 0 with h | h | h
    · rw [Int.sign_eq_neg_one_of_neg h]; omega
    · rw [h]; simp
    · rw [Int.sign_eq_one_of_pos h]; omega
  have s2 : -1 ≤ Int.sign b.num ∧ Int.sign b.num ≤ 1 := by
    rcases Int.lt_trichotomy b.num 0 with h | h | h
    · rw [Int.sign_eq_neg_one_of_neg h]; omega
    · rw [h]; simp
    · rw [Int.sign_eq_one_of_pos h]; omega
  have i1 : I64 (Int.sign a.num) := ⟨by omega, by omega⟩
  have i2 : I64 (Int.sign b.num) := ⟨by omega, by omega⟩
  by_cases h : Int.sign a.num ≠ Int.sign b.num ∨ Int.sign a.num = 0
  · have g3 := Of_spec i1
    have g4 := Of_spec i2
    have n1 : nd (Int.sign a.num) ≤ 3 := nd_i64 i1
    have n2 : nd (Int.sign b.num) ≤ 3 := nd_i64 i2
    have g5 := Compare_spec (x := Int.sign a.num) (y := Int.sign b.num) (by omega) (by omega)
    rw [cmpR_signs h] at g5
    generalize Int.sign a.num = X at *
    generalize Int.sign b.num = Y at *
    simp only [encI, encR, bv, iv] at g1 g2 g3 g4 g5
    by_cases hxy : X = Y
    · subst hxy
      have u1 : (X != X) = false := by simp
      have u2 : (X == 0) = true := beq_t (by rcases h with h | h; exact absurd rfl h; exact h)
      simp -implicitDefEqProofs (maxSteps := 10000000) only [rat_Compare, encR, go_sem, stcells, ldcells, iv, bv, u1, u2, g1, g2, g3, g4, g5, reduceCtorEq, ↓reduceIte, Nat.reduceEqDiff]
    · have u1 : (X != Y) = true := by rw [bne, beq_f hxy]; rfl
      simp -implicitDefEqProofs (maxSteps := 10000000) only [rat_Compare, encR, go_sem, stcells, ldcells, iv, bv, u1, g1, g2, g3, g4, g5, reduceCtorEq, ↓reduceIte, Nat.reduceEqDiff]
  · have hxy : Int.sign a.num = Int.sign b.num := by omega
    have hx0 : Int.sign a.num ≠ 0 := by omega
    have u1 : (Int.sign a.num != Int.sign b.num) = false := by rw [bne, beq_t hxy]; rfl
    have u2 : (Int.sign a.num == 0) = false := beq_f hx0
    have m1 := nd_mul (x := a.num) (y := b.den)
    have m2 := nd_mul (x := b.num) (y := a.den)
    have g3 := Den_spec a
    have g4 := Den_spec b
    have g5 := Mul_spec (x := a.num) (y := b.den) (by omega) (by omega)
    have g6 := Mul_spec (x := b.num) (y := a.den) (by omega) (by omega)
    have g7 := Compare_spec (x := a.num * b.den) (y := b.num * a.den) (by omega) (by omega)
    have e : Int.sign (a.num * b.den - b.num * a.den) = cmpR a b := rfl
    rw [e] at g7
    clear e
    rw [encI_den] at g3 g4 g5 g6
    generalize a.num * (b.den : Int) = N1 at *
    generalize b.num * (a.den : Int) = N2 at *
    simp only [encI, encR, bv, iv] at g1 g2 g3 g4 g5 g6 g7
    simp -implicitDefEqProofs (maxSteps := 10000000) only [rat_Compare, encR, go_sem, stcells, ldcells, iv, bv, u1, u2, g1, g2, g3, g4, g5, g6, g7, reduceCtorEq, ↓reduceIte, Nat.reduceEqDiff]
end Go.AM

/- ref05.Neg, Sign, Add, Sub, Mul, Div, Compare -/
namespace Go.AM
open Go Go.RowKit
variable [Its]

theorem rratAdd_spec {a b : Rat} (ha : sz a ≤ 100000000000) (hb : sz b ≤ 100000000000) : callX G n_gantryref05_Add [encR a, encR b] = some (.d (encR (a + b))) := by
  rw [callX_eq (cf := gantryref05_Add) rfl]
  have a1 := sz_num ha; have a2 := sz_den ha; have b1 := sz_num hb; have b2 := sz_den hb
  have m1 := nd_mul (x := a.num) (y := b.den)
  have m2 := nd_mul (x := b.num) (y := a.den)
  have m3 := nd_mul (x := a.den) (y := b.den)
  have g1 := rDen_spec a
  have g2 := rDen_spec b
  have g3 := rMul_spec (x := a.num) (y := b.den) (by omega) (by omega)
  have g4 := rMul_spec (x := b.num) (y := a.den) (by omega) (by omega)
  have g5 := rMul_spec (x := a.den) (y := b.den) (by omega) (by omega)
  have g6 := rAdd_spec (x := a.num * b.den) (y := b.num * a.den) (by omega) (by omega)
  have g7 := rMake_spec (n := a.num * b.den + b.num * a.den) (d := (a.den : Int) * b.den) (Nat.le_trans (nd_add (k := 200000000000) (by omega) (by omega)) (by omega)) (by omega)
  rw [← add_divInt] at g7
  rw [encI_den] at g1 g2 g3 g4
  rw [encI_den, encI_den] at g5
  generalize a.num * (b.den : Int) + b.num * (a.den : Int) = N at *
  generalize a.num * (b.den : Int) = N1 at *
  generalize b.num * (a.den : Int) = N2 at *
  generalize (a.den : Int) * (b.den : Int) = D at *
  generalize a + b = S at *
  simp only [encI, encR, bv, iv] at g1 g2 g3 g4 g5 g6 g7
  simp -implicitDefEqProofs (maxSteps := 10000000) only [gantryref05_Add, encR, go_sem, stcells, ldcells, iv, bv, g1, g2, g3, g4, g5, g6, g7, apartS, ne_eq, not_false_eq_true, reduceCtorEq, ↓reduceIte, Nat.reduceEqDiff]

theorem rratMul_spec {a b : Rat} (ha : sz a ≤ 100000000000) (hb : sz b ≤ 100000000000) : callX G n_gantryref05_Mul [encR a, encR b] = some (.d (encR (a * b))) := by
  rw [callX_eq (cf := gantryref05_Mul) rfl]
  have a1 := sz_num ha; have a2 := sz_den ha; have b1 := sz_num hb; have b2 := sz_den hb
  have m1 := nd_mul (x := a.num) (y := b.num)
  have m3 := nd_mul (x := a.den) (y := b.den)
  have g1 := rDen_spec a
  have g2 := rDen_spec b
  have g3 := rMul_spec (x := a.num) (y := b.num) (by omega) (by omega)
  have g5 := rMul_spec (x := a.den) (y := b.den) (by omega) (by omega)
  have g7 := rMake_spec (n := a.num * b.num) (d := (a.den : Int) * b.den) (by omega) (by omega)
  rw [← mul_divInt] at g7
  rw [encI_den] at g1 g2
  rw [encI_den, encI_den] at g5
  generalize a.num * b.num = N1 at *
  generalize (a.den : Int) * (b.den : Int) = D at *
  generalize a * b = S at *
  simp only [encI, encR, bv, iv] at g1 g2 g3 g5 g7
  simp -implicitDefEqProofs (maxSteps := 10000000) only [gantryref05_Mul, encR, go_sem, stcells, ldcells, iv, bv, g1, g2, g3, g5, g7, apartS, ne_eq, not_false_eq_true, reduceCtorEq, ↓reduceIte, Nat.reduceEqDiff]

end Go.AM

/- ref01: Around, At; digits tell numbers apart. -/
namespace Go.AM
open Go Go.RowKit

theorem i64_wf {n : Int} (h : (Lit.int .i64 n).wf = true) : I64 n := by
  simp only [Lit.wf, Bool.and_eq_true, decide_eq_true_eq] at h
  have h1 : IntKind.min .i64 = -9223372036854775808 := by decide
  have h2 : IntKind.max .i64 = 9223372036854775807 := by decide
  rw [h1, h2] at h
  exact ⟨by omega, by omega⟩
theorem rw_dg {d : D} {l : List Int} (h : Dg d l) : Rw d l := by
  rcases h with ⟨rfl, rfl⟩ | h
  · exact .inl rfl
  · exact .inr h
def arnd (n m : Int) : Int := (if n < 0 then -(n + 1) else n) % m
theorem arnd_b {n m : Int} (hm : 0 < m) : 0 ≤ arnd n m ∧ arnd n m < m := ⟨Int.emod_nonneg _ (by omega), Int.emod_lt_of_pos _ hm⟩
def atr (l : List Int) (i m : Int) : Int := if i < 0 ∨ i ≥ l.length then 0 else arnd (l.getD i.toNat 0) m
theorem atr_b (l : List Int) (i : Int) {m : Int} (hm : 0 < m) : 0 ≤ atr l i m ∧ atr l i m < m := by
  unfold atr
  split
  · omega
  · exact arnd_b hm

variable [Its]

theorem around_spec {n m : Int} (hn : I64 n) (hm : 0 < m) : callX G n_gantryref01_Around [iv n, iv m] = some (.d (iv (arnd n m))) := by
  rw [callX_eq (cf := gantryref01_Around) rfl]
  obtain ⟨h1, h2⟩ := hn
  have e2 := eqz_f (b := m) (by omega)
  unfold arnd
  by_cases h : n < 0
  · have e1 : decide (n < 0) = true := decide_eq_true h
    have e3 : w64 (n + 1) = n + 1 := w64_id (by omega) (by omega)
    have e4 : w64 (0 - (n + 1)) = -(n + 1) := by rw [w64_id (by omega) (by omega)]; omega
    have e5 := rem_pos (a := -(n + 1)) (b := m) (by omega)
    rw [if_pos h]
    simp -implicitDefEqProofs (maxSteps := 10000000) only [gantryref01_Around, go_sem, iv, bv, e1, e2, e3, e4, e5, reduceCtorEq, ↓reduceIte, Nat.reduceEqDiff]
  · have e1 : decide (n < 0) = false := decide_eq_false h
    have e5 := rem_pos (a := n) (b := m) (by omega)
    rw [if_neg h]
    simp -implicitDefEqProofs (maxSteps := 10000000) only [gantryref01_Around, go_sem, iv, bv, e1, e2, e5, reduceCtorEq, ↓reduceIte, Nat.reduceEqDiff]
theorem at_spec {d : D} {l : List Int} {i m : Int} (hr : Rw d l) (hl : ∀ n ∈ l, I64 n) (hm : 0 < m) : callX G n_gantryref01_At [d, iv i, iv m] = some (.d (iv (atr l i m))) := by
  rw [callX_eq (cf := gantryref01_At) rfl]
  have ll := hr.len
  unfold atr
  by_cases h : i < 0
  · have e1 : decide (i < 0) = true := decide_eq_true h
    rw [if_pos (.inl h)]
    simp -implicitDefEqProofs (maxSteps := 10000000) only [gantryref01_At, go_sem, iv, bv, e1, reduceCtorEq, ↓reduceIte, Nat.reduceEqDiff]
  · have e1 : decide (i < 0) = false := decide_eq_false h
    by_cases h2 : i ≥ l.length
    · have e2 : decide (i ≥ (l.length : Int)) = true := decide_eq_true h2
      rw [if_pos (.inr h2)]
      simp -implicitDefEqProofs (maxSteps := 10000000) only [gantryref01_At, go_sem, iv, bv, e1, e2, ll, reduceCtorEq, ↓reduceIte, Nat.reduceEqDiff]
    · have e2 : decide (i ≥ (l.length : Int)) = false := decide_eq_false h2
      rw [if_neg (by omega)]
      obtain ⟨j, rfl⟩ : ∃ j : Nat, i = (j : Int) := ⟨i.toNat, by omega⟩
      rw [Int.toNat_natCast]
      have hj : j < l.length := by omega
      have e3 := hr.ixn (j := j) hj
      have e4 := fun hp => ldv hp l (j := j) hj
      have hb : I64 (l.getD j 0) := hl _ (by rw [List.getD_eq_getElem?_getD, List.getElem?_eq_getElem hj]; exact List.getElem_mem hj)
      have g := around_spec hb hm
      simp only [iv] at g
      simp -implicitDefEqProofs (maxSteps := 10000000) only [gantryref01_At, go_sem, iv, bv, e1, e2, e3, e4, ll, g, reduceCtorEq, ↓reduceIte, Nat.reduceEqDiff]
end Go.AM

/- Rationals: signs, sizes, names for what comes out; ref01. -/
namespace Go.AM
open Go Go.RowKit

theorem sz_int {n : Int} (h : I64 n) : sz (n : Rat) ≤ 3 := sz_le (nd_i64 h) (by rw [Rat.den_intCast]; exact Nat.le_trans (Nat.le_of_eq nd_one) (by omega))
theorem divInt_one (n : Int) : Rat.divInt n 1 = (n : Rat) := by
  have := Rat.num_divInt_den (n : Rat)
  exact this
theorem cmR_lt {a b : Rat} : decide (cmpR a b < 0) = decide (a < b) := decide_eq_decide.2 cmpR_lt
def boxR (q : Rat) : Obj := ⟨0, 0, [.d (.v (.bool (decide (q.num < 0)))), .d (dg (digs q.num.natAbs)), .d (.v (.bool false)), .d (dg (dd q.den))], false⟩
def boxR0 : Obj := ⟨0, 0, [.d (.v (.bool false)), .d (.z true), .d (.v (.bool false)), .d (.z true)], false⟩
theorem sz_sub {a b : Rat} : sz (a - b) ≤ sz a + sz b + 1 := by
  rw [Rat.sub_eq_add_neg]
  have := sz_add (a := a) (b := -b)
  rw [sz_neg] at this
  exact this
theorem sz_of {n d : Int} (hn : I64 n) (hd : I64 d) : sz (Rat.divInt n d) ≤ 3 := sz_divInt (by omega) (nd_i64 hn) (nd_i64 hd)
variable [Its]

end Go.AM

/- Boxes of whole numbers, folded. -/
namespace Go.AM
open Go Go.RowKit

/-- A number's two cells. -/
def cI (x : Int) : List A := [.d (.v (.bool (decide (x < 0)))), .d (dg (digs x.natAbs))]
def bI (x : Int) : Obj := ⟨0, 0, cI x, false⟩
theorem one_encI (x : Int) : A.one (.d (encI x)) = false := rfl
theorem cells_encI (x : Int) : cellsOf (.d (encI x)) = cI x := rfl
theorem dc_encI (x : Int) : dcells (.d (encI x)) = some [.v (.bool (decide (x < 0))), dg (digs x.natAbs)] := rfl
theorem all_cI (x : Int) : (cI x).all A.one = true := by
  simp only [cI, List.all_cons, List.all_nil, one_bool, one_dg', Bool.and_self]
theorem len_cI (x : Int) : (cI x).length = 2 := rfl
theorem refs_cI (ks : List Key) (x : Int) : refsL ks (cI x) = true := rfl
theorem ld_cI (x : Int) : ldcells (some 2) 0 (cI x) = some (.d (encI x)) := rfl
theorem ld_cI0 (x : Int) : ldcells none 0 (cI x) = some (.d (.v (.bool (decide (x < 0))))) := rfl
theorem ld_cI1 (x : Int) : ldcells none 1 (cI x) = some (.d (dg (digs x.natAbs))) := rfl
theorem st_cI (x y : Int) : stcells 0 (cI x) (cI y) = some (cI x) := rfl
theorem st_cIn (x : Int) (u v : A) : stcells 0 (cI x) [u, v] = some (cI x) := rfl
theorem ad_cI (x : Int) : allD (cI x) = some [.v (.bool (decide (x < 0))), dg (digs x.natAbs)] := rfl
theorem ag_encI (x : Int) : aggA (.d (encI x)) = some [.v (.bool (decide (x < 0))), dg (digs x.natAbs)] := rfl
theorem zero_agg : D.agg [.v (.bool false), .z true] = encI 0 := by
  rw [encI, show (0 : Int).natAbs = 0 from rfl, digs_zero]; rfl
attribute [go_sem] one_encI cells_encI dc_encI all_cI len_cI refs_cI ld_cI ld_cI0 ld_cI1 st_cI st_cIn ad_cI ag_encI
end Go.AM

/- integer.Small, ref04.Small. -/
namespace Go.AM
open Go Go.RowKit

def au (u : Int) : A := .d (.v (.int .u64 u))
attribute [go_sem] au
theorem w64_hi {n : Int} (h0 : 9223372036854775808 ≤ n) (h1 : n < 18446744073709551616) : w64 n = n - 18446744073709551616 := by
  rw [← wrap_i64]
  unfold IntKind.wrap
  simp only [IntKind.signed, IntKind.bits, Bool.true_and, decide_eq_true_eq, ge_iff_le]
  by_cases h : (2 : Int) ^ (64 - 1) ≤ n % 2 ^ 64
  · rw [if_pos h]; omega
  · rw [if_neg h]; omega
theorem u64m {n : Int} (h0 : 0 ≤ n) (h1 : n < 18446744073709551616) : n % 18446744073709551616 = n := Int.emod_eq_of_lt h0 h1
theorem val_getD_drop (l : List Int) (i : Nat) (h : i < l.length) : val (l.drop i) = l.getD i 0 + 1000000000 * val (l.drop (i + 1)) := by
  rw [List.drop_eq_getElem_cons h, val]
  simp [List.getD, h]
theorem val_drop_le {l : List Int} (hd : Dig l) : ∀ i, val (l.drop i) ≤ val l
  | 0 => by rw [List.drop_zero]; exact Int.le_refl _
  | i + 1 => by
    have ih := val_drop_le hd i
    by_cases h : i < l.length
    · rw [val_getD_drop l i h] at ih
      have := hd.getD i
      have h2 := val_nonneg (hd.drop (i + 1))
      omega
    · have h3 := val_nonneg hd
      rw [List.drop_eq_nil_of_le (by omega)]
      exact h3
theorem three_ex {l : List Int} (h : l.length = 3) : ∃ a b c, l = [a, b, c] := by
  match l, h with
  | [a, b, c], _ => exact ⟨a, b, c, rfl⟩
theorem ubt_ : A.bool? (.d (.v (.tuple #[]))) = none := rfl
def smb (x : Int) : Bool := decide (-9223372036854775808 ≤ x ∧ x < 9223372036854775808)
def smv (x : Int) : Int := if -9223372036854775808 ≤ x ∧ x < 9223372036854775808 then x else 0
theorem smb_t {x : Int} (h : I64 x) : smb x = true ∧ smv x = x := ⟨decide_eq_true h, if_pos h⟩
theorem smb_f {x : Int} (h : ¬ I64 x) : smb x = false ∧ smv x = 0 := ⟨decide_eq_false h, if_neg h⟩
variable [Its]

section
variable {x : Int} {l : List Int} (hl : digs x.natAbs = l)
def sm_st (x u i : Int) : St := mkS [(1, .ptr [1] 0), (4, au u), (5, ai i)] [([1], bI x)]
def sm_en (x u : Int) : St := mkS [(1, .ptr [1] 0), (4, au u)] [([1], bI x)]
theorem sm_stop (u : Int) : X G integer_Small_l0 (sm_st x u (-1)) = some (.x 0, sm_en x u) := by
  have e1 : decide ((-1 : Int) ≥ 0) = false := rfl
  simp -implicitDefEqProofs (maxSteps := 10000000) only [integer_Small_l0, sm_st, sm_en, bI, e1, go_sem, reduceCtorEq, ↓reduceIte, Nat.reduceEqDiff, iv]
include hl
theorem sm_go (hv : val l < 18446744073709551616) {i : Nat} (hi : i < l.length) (h3 : l.length ≤ 3) : X G integer_Small_l0 (sm_st x (val (l.drop (i + 1))) i) = some (.n, sm_st x (val (l.drop i)) ((i : Int) - 1)) := by
  have hd : Dig l := hl ▸ digs_dig _
  have e1 : decide ((i : Int) ≥ 0) = true := ge_t (by omega)
  have e2 : w64 ((i : Int) - 1) = (i : Int) - 1 := w64_id (by omega) (by omega)
  have x1 := (Rw.dg l).ixn hi
  have x2 := fun h => ldv h l hi
  have h0 := val_nonneg (hd.drop (i + 1))
  have h1 := hd.getD i
  have h2 := val_getD_drop l i hi
  have h4 := val_drop_le hd i
  have h5 : val (l.drop (i + 1)) * 1000000000 + l.getD i 0 = val (l.drop i) := by omega
  generalize val (l.drop (i + 1)) = u at *
  generalize l.getD i 0 = d at *
  have e3 : u * 1000000000 % 18446744073709551616 = u * 1000000000 := u64m (by omega) (by omega)
  have e4 : d % 18446744073709551616 = d := u64m (by omega) (by omega)
  have e5 : (u * 1000000000 + d) % 18446744073709551616 = val (l.drop i) := by rw [h5]; exact u64m (by omega) (by omega)
  simp -implicitDefEqProofs (maxSteps := 10000000) only [integer_Small_l0, sm_st, bI, hl, x1, x2, e1, e2, e3, e4, e5, go_sem, reduceCtorEq, ↓reduceIte, Nat.reduceEqDiff, iv]
theorem sm_loop (hv : val l < 18446744073709551616) (h3 : l.length ≤ 3) : ∀ i : Nat, i ≤ l.length → X G (.loop integer_Small_l0) (sm_st x (val (l.drop i)) ((i : Int) - 1)) = some (.x 0, sm_en x (val l))
  | 0, _ => by
    rw [X_loop, show ((0 : Nat) : Int) - 1 = -1 from rfl, sm_stop, List.drop_zero]; rfl
  | i + 1, h => by
    rw [X_loop, show ((i + 1 : Nat) : Int) - 1 = (i : Int) by omega, sm_go hl hv (by omega) h3, Option.bind_some, if_pos rfl]
    exact sm_loop hv h3 i (by omega)
end

theorem Small_spec_I {x : Int} (hx : nd x ≤ 1000000000000) : callX G n_integer_Small [encI x] = some (.d (.tup [iv (smv x), bv (smb x)])) := by
  rw [callX_eq (cf := integer_Small) rfl]
  obtain ⟨l, hl⟩ : ∃ l, digs x.natAbs = l := ⟨_, rfl⟩
  have hd : Dig l := hl ▸ digs_dig _
  have hv : val l = x.natAbs := hl ▸ val_digs _
  have hn : l.length ≤ 1000000000000 := by rw [← hl]; exact hx
  have ll := lenA_dg l
  by_cases h3 : l.length > 3
  · have e1 : decide ((l.length : Int) > 3) = true := gt_t (by omega)
    have hb : ¬ I64 x := fun h => by
      have h1 := nd_i64 h
      unfold nd at h1
      rw [hl] at h1; omega
    obtain ⟨b1, b2⟩ := smb_f hb
    simp -implicitDefEqProofs (maxSteps := 10000000) only [integer_Small, bI, hl, ll, e1, b1, b2, toDs, ubt_, go_sem, reduceCtorEq, ↓reduceIte, Nat.reduceEqDiff, iv, bv]
  have e1 : decide ((l.length : Int) > 3) = false := gt_f (by omega)
  by_cases hc : l.length = 3 ∧ l.getD 2 0 > 9
  · obtain ⟨a, b, c, rfl⟩ := three_ex hc.1
    have hc2 : c > 9 := hc.2
    have hdig := hd
    rw [Dig.cons, Dig.cons, Dig.cons] at hdig
    obtain ⟨d1, d2, d3, _⟩ := hdig
    have hb : ¬ I64 x := fun ⟨h1, h2⟩ => by
      simp only [val] at hv; omega
    obtain ⟨b1, b2⟩ := smb_f hb
    have e2 : decide (c > 9) = true := gt_t hc2
    have e3 : ((3 : Int) == 3) = true := rfl
    have e4 : ∀ h, ixaA h 1 2 (.d (dg [a, b, c])) = some (.d (.rp [iv c])) := fun h => rfl
    have e5 : ∀ h, loadA h none (.d (.rp [.v (.int .i64 c)])) = some (.d (.v (.int .i64 c))) := fun h => rfl
    have e6 : (((0 + 1 + 1 + 1 : Nat) : Int) == 3) = true := rfl
    simp only [List.length_cons, List.length_nil] at e1
    simp -implicitDefEqProofs (maxSteps := 10000000) only [integer_Small, bI, hl, ll, e1, e2, e3, e4, e5, e6, b1, b2, toDs, ubt_, go_sem, reduceCtorEq, ↓reduceIte, Nat.reduceEqDiff, iv, bv]
    done
  have hlt : val l < 10000000000000000000 := by
    by_cases h4 : l.length = 3
    · obtain ⟨a, b, c, rfl⟩ := three_ex h4
      have hc2 : ¬ c > 9 := fun h => hc ⟨h4, h⟩
      have hdig := hd
      rw [Dig.cons, Dig.cons, Dig.cons] at hdig
      obtain ⟨d1, d2, d3, _⟩ := hdig
      simp only [val]; omega
    · have := val_lt hd
      have h5 := pow_mono (n := l.length) (m := 2) (by omega)
      have h6 : (1000000000 : Int) ^ 2 = 1000000000000000000 := by decide
      omega
  have hlp := sm_loop hl (by omega) (by omega) l.length (Nat.le_refl _)
  rw [List.drop_length, hv] at hlp
  have e2 : w64 ((l.length : Int) - 1) = (l.length : Int) - 1 := w64_id (by omega) (by omega)
  rw [hv] at hlt
  simp only [sm_st, sm_en, bI, go_sem, val] at hlp
  have hcond : ∀ rest : Option (Ex × St), True := fun _ => trivial
  by_cases h4 : l.length = 3
  · have e3 : ((l.length : Int) == 3) = true := beq_t (by omega)
    have e4 : ∀ h, ixaA h 1 2 (.d (dg l)) = some (.d (.rp ((l.drop 2).map iv))) := fun h => (Rw.dg l).ixn (j := 2) (by omega) h
    have e5 := fun h => ldv h l (j := 2) (by omega)
    have e6 : decide (l.getD 2 0 > 9) = false := gt_f (fun h => hc ⟨h4, h⟩)
    by_cases hs : x < 0
    · have s1 : decide (x < 0) = true := lt_t hs
      by_cases hm : -9223372036854775808 ≤ x
      · obtain ⟨b1, b2⟩ := smb_t (x := x) ⟨hm, by omega⟩
        have e7 : decide ((x.natAbs : Int) ≤ 9223372036854775808) = true := le_t (by omega)
        have e8 : (0 - (x.natAbs : Int)) % 18446744073709551616 = 18446744073709551616 - (x.natAbs : Int) := by omega
        have e9 : w64 (18446744073709551616 - (x.natAbs : Int)) = x := by rw [w64_hi (by omega) (by omega)]; omega
        simp -implicitDefEqProofs (maxSteps := 10000000) only [integer_Small, bI, hl, ll, hlp, e1, e2, e3, e4, e5, e6, e7, e8, e9, s1, b1, b2, toDs, ubt_, go_sem, reduceCtorEq, ↓reduceIte, Nat.reduceEqDiff, iv, bv]
      · obtain ⟨b1, b2⟩ := smb_f (x := x) (fun h => hm h.1)
        have e7 : decide ((x.natAbs : Int) ≤ 9223372036854775808) = false := le_f (by omega)
        simp -implicitDefEqProofs (maxSteps := 10000000) only [integer_Small, bI, hl, ll, hlp, e1, e2, e3, e4, e5, e6, e7, s1, b1, b2, toDs, ubt_, go_sem, reduceCtorEq, ↓reduceIte, Nat.reduceEqDiff, iv, bv]
    · have s1 : decide (x < 0) = false := lt_f hs
      by_cases hm : x < 9223372036854775808
      · obtain ⟨b1, b2⟩ := smb_t (x := x) ⟨by omega, hm⟩
        have e7 : decide ((x.natAbs : Int) < 9223372036854775808) = true := lt_t (by omega)
        have e9 : w64 (x.natAbs : Int) = x := by rw [w64_id (by omega) (by omega)]; omega
        simp -implicitDefEqProofs (maxSteps := 10000000) only [integer_Small, bI, hl, ll, hlp, e1, e2, e3, e4, e5, e6, e7, e9, s1, b1, b2, toDs, ubt_, go_sem, reduceCtorEq, ↓reduceIte, Nat.reduceEqDiff, iv, bv]
      · obtain ⟨b1, b2⟩ := smb_f (x := x) (fun h => hm h.2)
        have e7 : decide ((x.natAbs : Int) < 9223372036854775808) = false := lt_f (by omega)
        simp -implicitDefEqProofs (maxSteps := 10000000) only [integer_Small, bI, hl, ll, hlp, e1, e2, e3, e4, e5, e6, e7, s1, b1, b2, toDs, ubt_, go_sem, reduceCtorEq, ↓reduceIte, Nat.reduceEqDiff, iv, bv]
  · have e3 : ((l.length : Int) == 3) = false := beq_f (by omega)
    by_cases hs : x < 0
    · have s1 : decide (x < 0) = true := lt_t hs
      by_cases hm : -9223372036854775808 ≤ x
      · obtain ⟨b1, b2⟩ := smb_t (x := x) ⟨hm, by omega⟩
        have e7 : decide ((x.natAbs : Int) ≤ 9223372036854775808) = true := le_t (by omega)
        have e8 : (0 - (x.natAbs : Int)) % 18446744073709551616 = 18446744073709551616 - (x.natAbs : Int) := by omega
        have e9 : w64 (18446744073709551616 - (x.natAbs : Int)) = x := by rw [w64_hi (by omega) (by omega)]; omega
        simp -implicitDefEqProofs (maxSteps := 10000000) only [integer_Small, bI, hl, ll, hlp, e1, e2, e3, e7, e8, e9, s1, b1, b2, toDs, ubt_, go_sem, reduceCtorEq, ↓reduceIte, Nat.reduceEqDiff, iv, bv]
      · obtain ⟨b1, b2⟩ := smb_f (x := x) (fun h => hm h.1)
        have e7 : decide ((x.natAbs : Int) ≤ 9223372036854775808) = false := le_f (by omega)
        simp -implicitDefEqProofs (maxSteps := 10000000) only [integer_Small, bI, hl, ll, hlp, e1, e2, e3, e7, s1, b1, b2, toDs, ubt_, go_sem, reduceCtorEq, ↓reduceIte, Nat.reduceEqDiff, iv, bv]
    · have s1 : decide (x < 0) = false := lt_f hs
      by_cases hm : x < 9223372036854775808
      · obtain ⟨b1, b2⟩ := smb_t (x := x) ⟨by omega, hm⟩
        have e7 : decide ((x.natAbs : Int) < 9223372036854775808) = true := lt_t (by omega)
        have e9 : w64 (x.natAbs : Int) = x := by rw [w64_id (by omega) (by omega)]; omega
        simp -implicitDefEqProofs (maxSteps := 10000000) only [integer_Small, bI, hl, ll, hlp, e1, e2, e3, e7, e9, s1, b1, b2, toDs, ubt_, go_sem, reduceCtorEq, ↓reduceIte, Nat.reduceEqDiff, iv, bv]
      · obtain ⟨b1, b2⟩ := smb_f (x := x) (fun h => hm h.2)
        have e7 : decide ((x.natAbs : Int) < 9223372036854775808) = false := lt_f (by omega)
        simp -implicitDefEqProofs (maxSteps := 10000000) only [integer_Small, bI, hl, ll, hlp, e1, e2, e3, e7, s1, b1, b2, toDs, ubt_, go_sem, reduceCtorEq, ↓reduceIte, Nat.reduceEqDiff, iv, bv]
end Go.AM

/- ref04.Small. -/
namespace Go.AM
open Go Go.RowKit

theorem sgn_ge {a : Int} : decide (Int.sign a ≥ 0) = decide (0 ≤ a) := by
  apply decide_eq_decide.2
  rcases Int.lt_trichotomy a 0 with h | h | h
  · rw [Int.sign_eq_neg_one_of_neg h]; omega
  · subst h; simp
  · rw [Int.sign_eq_one_of_pos h]; omega
theorem sgn_eq {a : Int} : (Int.sign a == 0) = decide (a = 0) := by
  by_cases h : a = 0
  · subst h; rfl
  · rw [decide_eq_false h]
    refine beq_f fun h1 => h (Int.sign_eq_zero_iff_zero.1 h1)
variable [Its]
section
variable {x : Int} {l : List Int}
def rsm_st (x u i : Int) : St := mkS [(1, .ptr [1] 0), (4, ai u), (5, ai i)] [([1], bI x)]
def rsm_en (u : Int) : St := mkS [(4, ai u)] []
end
end Go.AM

/- Square roots of whole numbers: Newton's step, and halving. -/
namespace Go.AM

def IsRt (s x : Int) : Prop := 0 ≤ s ∧ s * s ≤ x ∧ x < (s + 1) * (s + 1)
theorem sq_mono {a b : Int} (ha : 0 ≤ a) (h : a ≤ b) : a * a ≤ b * b := Int.mul_le_mul h h ha (by omega)
theorem rt_gt {s x t : Int} (h : IsRt s x) (ht : 0 ≤ t) (h2 : x < t * t) : s < t := by
  obtain ⟨h0, h1, _⟩ := h
  by_cases hc : s < t
  · exact hc
  · have := sq_mono (a := t) (b := s) (by omega) (by omega)
    omega
theorem sq_dif (s r : Int) : 0 ≤ s * s - 2 * (s * r) + r * r := by
  have e : s * s - 2 * (s * r) + r * r = (s - r) * (s - r) := by grind
  rw [e]
  rcases Int.le_total s r with h | h
  · have := Int.mul_nonneg (a := r - s) (b := r - s) (by omega) (by omega)
    have e2 : (r - s) * (r - s) = (s - r) * (s - r) := by grind
    omega
  · exact Int.mul_nonneg (by omega) (by omega)
theorem newton_ge {s x r : Int} (h : IsRt s x) (hr : 0 < r) : s ≤ (r + x / r) / 2 := by
  obtain ⟨h0, h1, _⟩ := h
  have e : (2 * s - r) * r ≤ x := by
    have := sq_dif s r
    have e : (2 * s - r) * r = 2 * (s * r) - r * r := by grind
    omega
  have := (Int.le_ediv_iff_mul_le hr).2 e
  generalize x / r = t at *
  omega
theorem newton_lt {s x r : Int} (h : IsRt s x) (hr : s < r) : (r + x / r) / 2 < r := by
  obtain ⟨h0, _, h1⟩ := h
  have h2 := sq_mono (a := s + 1) (b := r) (by omega) (by omega)
  have h3 : x / r < r := Int.ediv_lt_of_lt_mul (by omega) (by omega)
  generalize x / r = t at *
  omega
theorem rt_pos {s x : Int} (h : IsRt s x) (hx : 0 < x) : 0 < s := by
  obtain ⟨h0, h1, h2⟩ := h
  rcases Int.lt_or_eq_of_le h0 with h3 | h3
  · exact h3
  · subst h3
    exfalso
    have : (0 + 1) * (0 + 1) = (1 : Int) := by decide
    omega
end Go.AM

/- integer.Root, ref04.Root. -/
namespace Go.AM
open Go Go.RowKit

theorem nd_ediv2 {x r : Int} : nd (x / r) ≤ nd x := nd_mono (by
  rcases Int.lt_trichotomy r 0 with h | h | h
  · exact Int.natAbs_ediv_le_natAbs _ _
  · subst h; simp
  · exact Int.natAbs_ediv_le_natAbs _ _)
theorem nd_le_of {x y : Int} (h0 : 0 ≤ x) (h : x ≤ y) : nd x ≤ nd y := nd_mono (by omega)
theorem val_lead (m : Nat) : val (List.replicate m 0 ++ [1]) = (1000000000 : Int) ^ m := by
  rw [val_append, val_replicate, List.length_replicate]
  simp [val]
theorem dig_one (m : Nat) : Dig (List.replicate m 0 ++ [1]) := by
  rw [Dig.append]
  exact ⟨Dig.replicate m, fun d hd => by simp at hd; omega⟩
theorem two_ne : ((2 : Int) = 0) = False := by simp
variable [Its]
def rt_st (x r : Int) : St := mkS [(1, .ptr [1] 0), (2, .ptr [2] 0), (4, .ptr [4] 0)] [([1], bI x), ([2], ⟨0, 0, [.d (.v (.bool false)), .d (.z true)], false⟩), ([4], bI r)]
theorem rt_go {x r : Int} (hr : 0 < r) (hx : nd x ≤ 100000000000) (hk : nd r ≤ 100000000000) :
    X G integer_Root_l0 (rt_st x r) = if (r + x / r) / 2 ≥ r then some (.x 0, rt_st x r) else some (.n, rt_st x ((r + x / r) / 2)) := by
  have g1 := Div_spec (x := x) (y := r) (by omega) (by omega) (by omega)
  have n1 := nd_ediv2 (x := x) (r := r)
  have g2 := Add_spec (x := r) (y := x / r) (by omega) (by omega)
  have n2 := nd_add (x := r) (y := x / r) (k := 100000000000) hk (by omega)
  have g3 := Of_spec (n := 2) ⟨by omega, by omega⟩
  have g4 := Div_spec (x := r + x / r) (y := 2) (by omega) (by omega) (Nat.le_trans (nd_i64 ⟨by omega, by omega⟩) (by omega))
  have n3 := nd_ediv2 (x := r + x / r) (r := 2)
  have g5 := Compare_spec (x := (r + x / r) / 2) (y := r) (by omega) (by omega)
  have c := sgn_ge (a := (r + x / r) / 2 - r)
  simp only [iv] at g3 g5
  generalize (r + x / r) % 2 = m2 at *
  obtain ⟨nx, hnx⟩ : ∃ nx, (r + x / r) / 2 = nx := ⟨_, rfl⟩
  rw [hnx] at g4 g5 c ⊢
  generalize x / r = q at *
  generalize x % r = m1 at *
  generalize r + q = s at *
  generalize Int.sign (nx - r) = sg at *
  by_cases h : nx ≥ r
  · rw [show decide (0 ≤ nx - r) = true from decide_eq_true (by omega)] at c
    rw [if_pos h]
    simp -implicitDefEqProofs (maxSteps := 10000000) only [integer_Root_l0, rt_st, bI, g1, g2, g3, g4, g5, c, extA, go_sem, reduceCtorEq, ↓reduceIte, Nat.reduceEqDiff, iv]
  · rw [show decide (0 ≤ nx - r) = false from decide_eq_false (by omega)] at c
    rw [if_neg h]
    simp -implicitDefEqProofs (maxSteps := 10000000) only [integer_Root_l0, rt_st, bI, g1, g2, g3, g4, g5, c, extA, go_sem, reduceCtorEq, ↓reduceIte, Nat.reduceEqDiff, iv]
theorem rt_loop {x s : Int} (hx : nd x ≤ 100000000000) (hs : IsRt s x) (hs0 : 0 < s) : ∀ (n : Nat) (r : Int), r.toNat ≤ n → s ≤ r → nd r ≤ 100000000000 → X G (.loop integer_Root_l0) (rt_st x r) = some (.x 0, rt_st x s)
  | 0, r, hn, hr, hk => by omega
  | n + 1, r, hn, hr, hk => by
    rw [X_loop, rt_go (by omega) hx hk]
    have h1 := newton_ge hs (r := r) (by omega)
    by_cases h : s < r
    · have h2 := newton_lt hs h
      generalize (r + x / r) / 2 = nx at *
      rw [if_neg (by omega), Option.bind_some, if_pos rfl]
      exact rt_loop hx hs hs0 n nx (by omega) h1 (Nat.le_trans (nd_le_of (by omega) (by omega)) hk)
    · have : r = s := by omega
      subst this
      generalize (r + x / r) / 2 = nx at *
      rw [if_pos (by omega)]
      rfl
theorem Root_spec {x s : Int} (hx : nd x ≤ 10000000000) (h0 : 0 ≤ x) (hs : IsRt s x) : callX G n_integer_Root [encI x] = some (.d (.tup [encI s, bv (decide (s * s = x))])) := by
  rw [callX_eq (cf := integer_Root) rfl]
  obtain ⟨l, hl⟩ : ∃ l, digs x.natAbs = l := ⟨_, rfl⟩
  have ll := lenA_dg l
  have s1 : decide (x < 0) = false := lt_f (by omega)
  have hn : l.length ≤ 10000000000 := by rw [← hl]; exact hx
  by_cases hx0 : x = 0
  · subst hx0
    have hs0 : s = 0 := by
      obtain ⟨h1, h2, _⟩ := hs
      have := sq_dif s 0
      rcases Int.lt_or_eq_of_le h1 with h3 | h3
      · have : 0 < s * s := Int.mul_pos h3 h3
        omega
      · exact h3.symm
    subst hs0
    have e1 : ((l.length : Int) == 0) = true := by rw [← hl]; exact beq_t (by rw [show (0 : Int).natAbs = 0 from rfl, digs_zero]; rfl)
    have e2 : decide ((0 : Int) * 0 = 0) = true := rfl
    have e3 := zero_agg
    have st0 : ∀ u v : A, stcells 0 [A.d (.v (.bool false)), A.d (.z true)] [u, v] = some [A.d (.v (.bool false)), A.d (.z true)] := fun _ _ => rfl
    have ld0 : ldcells (some 2) 0 [A.d (.v (.bool false)), A.d (.z true)] = some (.d (encI 0)) := by rw [← zero_agg]; rfl
    simp -implicitDefEqProofs (maxSteps := 10000000) only [integer_Root, bI, hl, ll, s1, e1, e2, st0, ld0, apartS, ne_eq, not_false_eq_true, toDs, go_sem, reduceCtorEq, ↓reduceIte, Nat.reduceEqDiff, iv, bv]
  have hsp := rt_pos hs (show 0 < x by omega)
  have e1 : ((l.length : Int) == 0) = false := beq_f (by
    have : 0 < (digs x.natAbs).length := digs_length_pos.2 (by omega)
    rw [hl] at this; omega)
  obtain ⟨m, hm⟩ : ∃ m, (l.length + 1) / 2 = m := ⟨_, rfl⟩
  have e2 : w64 ((l.length : Int) + 1) = ((l.length + 1 : Nat) : Int) := by rw [w64_id (by omega) (by omega)]; rfl
  have e3 : w64 (((l.length + 1 : Nat) : Int).tdiv 2) = (m : Int) := by
    rw [quo_pos (by omega), ← hm]
    exact w64_id (by omega) (by omega)
  have e4 := bnd m (by omega)
  have o1 := of_spec false (Rw.row (List.replicate m 0 ++ [1])) (by simp; omega) (dig_one m)
  rw [val_lead] at o1
  have hdr : (digs x.natAbs).length ≤ m + m := by rw [hl]; omega
  have hlt : s ≤ (1000000000 : Int) ^ m := by
    have h1 := lt_pow_nd x
    have h2 : x.natAbs < 1000000000 ^ (m + m) := Nat.lt_of_lt_of_le h1 (npow_mono hdr)
    have h3 : x < (1000000000 : Int) ^ m * (1000000000 : Int) ^ m := by
      rw [← Int.pow_add]
      have h4 : ((1000000000 ^ (m + m) : Nat) : Int) = (1000000000 : Int) ^ (m + m) := by simp
      rw [← h4]; omega
    have := rt_gt hs (t := (1000000000 : Int) ^ m) (Int.le_of_lt (pow_pos' m)) h3
    omega
  have hk : nd ((1000000000 : Int) ^ m) ≤ m + 1 := nd_le (by
    have h4 : ((1000000000 : Int) ^ m).natAbs = 1000000000 ^ m := by rw [Int.natAbs_pow]; rfl
    rw [h4]
    exact Nat.pow_lt_pow_right (by omega) (by omega))
  have hlp := rt_loop (Nat.le_trans hx (by omega)) hs hsp _ _ (Nat.le_refl _) hlt (by omega)
  have hss : sgn false ((1000000000 : Int) ^ m) = (1000000000 : Int) ^ m := rfl
  rw [hss] at o1
  generalize (1000000000 : Int) ^ m = R at *
  have ns : nd s ≤ 10000000000 := by
    refine Nat.le_trans (nd_le_of (by omega) hlt) (by omega)
  have g1 := Mul_spec (x := s) (y := s) (by omega) (by omega)
  have n2 := nd_mul (x := s) (y := s)
  have g2 := Compare_spec (x := s * s) (y := x) (by omega) (by omega)
  have c := sgn_eq (a := s * s - x)
  have c2 : decide (s * s - x = 0) = decide (s * s = x) := decide_eq_decide.2 (by omega)
  rw [c2] at c
  generalize s * s = ss at *
  generalize Int.sign (ss - x) = sg at *
  simp only [iv, bv, rowI, List.length_append, List.length_replicate, List.length_cons, List.length_nil, List.map_append, List.map_cons, List.map_nil, Nat.zero_add] at o1 g2
  simp only [rt_st, bI, go_sem] at hlp
  have f1 := rep_I m
  have f2 := allD_I (List.replicate m 0)
  have f3 : (cellsI (List.replicate m 0)).length = m := by rw [cellsI_length, List.length_replicate]
  have f4 : (m + 1) * 8 ≤ bound := by simp only [bound]; omega
  have f5 : List.all [D.v (.int .i64 1)] D.one = true := rfl
  simp -implicitDefEqProofs (maxSteps := 10000000) only [integer_Root, bI, hl, ll, s1, e1, e2, e3, e4, two_ne, f1, f2, f3, f4, f5, o1, g1, g2, hlp, c, src_row, toDs, go_sem, reduceCtorEq, ↓reduceIte, Nat.reduceEqDiff, iv, bv]
end Go.AM

/- ref04.Root. -/
namespace Go.AM
open Go Go.RowKit
variable [Its]
def rr_st (x lo hi : Int) : St := mkS [(1, .ptr [1] 0), (2, .ptr [2] 0), (4, .ptr [4] 0), (5, .ptr [5] 0), (6, .ptr [6] 0), (7, .ptr [7] 0)] [([1], bI x), ([2], box0), ([4], bI lo), ([5], bI hi), ([6], bI 1), ([7], bI 2)]
def rr_en (x lo : Int) : St := mkS [(1, .ptr [1] 0), (2, .ptr [2] 0), (4, .ptr [4] 0)] [([1], bI x), ([2], box0), ([4], bI lo)]
end Go.AM

/- Points, directions, edges: rows of them; ref12's small functions. -/
namespace Go.AM
open Go Go.RowKit

abbrev Pt := Int × Int
abbrev Dr := Int × Int × Int
abbrev Eg := Dr × Int
def cP (p : Pt) : List D := [iv p.1, iv p.2]
def cD (d : Dr) : List D := [iv d.1, iv d.2.1, iv d.2.2]
def cG (e : Eg) : List D := [iv e.1.1, iv e.1.2.1, iv e.1.2.2, iv e.2]
def encP (p : Pt) : D := .agg (cP p)
def encD (d : Dr) : D := .agg (cD d)
def encG (e : Eg) : D := .agg (cG e)
theorem cP_len (p : Pt) : (cP p).length = 2 := rfl
theorem cG_len (p : Eg) : (cG p).length = 4 := rfl

/-! ### Rows of things of es cells -/
section
variable {α : Type} {en : α → List D} {es : Nat}
def rowE (en : α → List D) (l : List α) : D := .row l.length (l.flatMap en)
def RwE (en : α → List D) (d : D) (l : List α) : Prop := (d = .z true ∧ l = []) ∨ d = rowE en l
def dE (en : α → List D) (l : List α) : D := if l = [] then .z true else rowE en l
theorem dE_ok (l : List α) : RwE en (dE en l) l := by
  unfold dE
  split
  · rename_i h; exact .inl ⟨rfl, h⟩
  · exact .inr rfl
theorem flat_len (hE : ∀ a, (en a).length = es) : ∀ l : List α, (l.flatMap en).length = l.length * es
  | [] => by simp
  | a :: l => by rw [List.flatMap_cons, List.length_append, hE, flat_len hE l, List.length_cons, Nat.succ_mul, Nat.add_comm]
theorem flat_drop (hE : ∀ a, (en a).length = es) : ∀ (l : List α) (j : Nat), (l.flatMap en).drop (j * es) = (l.drop j).flatMap en
  | l, 0 => by simp
  | [], j + 1 => by simp
  | a :: l, j + 1 => by
    rw [List.flatMap_cons, List.drop_succ_cons, ← flat_drop hE l j, Nat.succ_mul, Nat.add_comm, ← List.drop_drop]
    rw [List.drop_left' (hE a)]
theorem RwE.len {d : D} {l : List α} (h : RwE en d l) : lenA (.d d) = some l.length := by
  rcases h with ⟨rfl, rfl⟩ | rfl <;> rfl
theorem RwE.ixa (hE : ∀ a, (en a).length = es) {d : D} {l : List α} (hr : RwE en d l) {j : Nat} (h1 : j < l.length) (h : Hp) : ixaA h es (j : Int) (.d d) = some (.d (.rp ((l.drop j).flatMap en))) := by
  rcases hr with ⟨rfl, rfl⟩ | rfl
  · simp at h1
  · simp only [rowE, ixaA, guardO]
    rw [if_pos ⟨by omega, by omega⟩]
    simp only [Int.toNat_natCast]
    rw [flat_drop hE]
theorem drop_getD [Inhabited α]  {l : List α} {j : Nat} (h : j < l.length) : l.drop j = l.getD j default :: l.drop (j + 1) := by
  rw [List.drop_eq_getElem_cons h, List.getD_eq_getElem?_getD, List.getElem?_eq_getElem h, Option.getD_some]
theorem ldE [Inhabited α] (hE : ∀ a, (en a).length = es) (h : Hp) {l : List α} {j : Nat} (h1 : j < l.length) : loadA h (some es) (.d (.rp ((l.drop j).flatMap en))) = some (.d (.agg (en (l.getD j default)))) := by
  rw [drop_getD h1, List.flatMap_cons]
  simp only [loadA, ldrow, guardO]
  rw [if_pos (by rw [List.length_append, hE]; omega)]
  have : (en (l.getD j default) ++ (l.drop (j + 1)).flatMap en).take es = en (l.getD j default) := by
    rw [List.take_append_of_le_length (by rw [hE]; omega), List.take_of_length_le (by rw [hE]; omega)]
  rw [this]
theorem ldF [Inhabited α] (hE : ∀ a, (en a).length = es) (h : Hp) {l : List α} {j i : Nat} (h1 : j < l.length) (hi : i < es) : loadA h none (.d (.rp (((l.drop j).flatMap en).drop i))) = ((en (l.getD j default))[i]?).map .d := by
  rw [drop_getD h1, List.flatMap_cons]
  simp only [loadA, ldrow]
  rw [List.head?_drop, List.getElem?_append_left (by rw [hE]; exact hi)]
def gAE (k : Nat) (l : List α) : A := if l = [] then .d (.z true) else .own [k] l.length
def arE (en : α → List D) (es n : Nat) (l : List α) : Obj := ⟨es, n, (l.flatMap en).map .d, false⟩
def gHE (en : α → List D) (es k : Nat) (l : List α) : List (Key × Obj) := if l = [] then [] else [([k], arE en es l.length l)]
theorem gAE_nil (k : Nat) : gAE k ([] : List α) = .d (.z true) := rfl
theorem gHE_nil (k : Nat) : gHE en es k [] = [] := rfl
theorem gAE_ne {k : Nat} {l : List α} (h : l ≠ []) : gAE k l = .own [k] l.length := if_neg h
theorem gHE_ne {k : Nat} {l : List α} (h : l ≠ []) : gHE en es k l = [([k], arE en es l.length l)] := if_neg h
theorem gAE_snoc (k : Nat) (l : List α) (v : α) : gAE k (l ++ [v]) = .own [k] (l.length + 1) := by rw [gAE_ne (by simp)]; simp
theorem gHE_snoc (k : Nat) (l : List α) (v : α) : gHE en es k (l ++ [v]) = [([k], arE en es (l.length + 1) (l ++ [v]))] := by rw [gHE_ne (by simp)]; simp
theorem refsL_E (ks : List Key) : ∀ cs : List D, refsL ks (cs.map A.d) = true
  | [] => rfl
  | x :: r => by rw [List.map_cons, refsL, refsL_E ks r]; rfl
theorem allD_E (cs : List D) : allD (cs.map A.d) = some cs := allD_of_map cs
theorem lenE (hE : ∀ a, (en a).length = es) (l : List α) : ((l.flatMap en).map A.d).length = l.length * es := by rw [List.length_map, flat_len hE]
theorem ldO [Inhabited α] (hE : ∀ a, (en a).length = es) {l : List α} {j : Nat} (h1 : j < l.length) : ldcells (some es) (j * es) ((l.flatMap en).map A.d) = some (.d (.agg (en (l.getD j default)))) := by
  have h2 : j * es + es ≤ l.length * es := by rw [← Nat.succ_mul]; exact Nat.mul_le_mul_right _ h1
  simp only [ldcells, guardO]
  rw [if_pos (by rw [lenE hE]; exact h2), ← List.map_drop, flat_drop hE, ← List.map_take, allD_E, drop_getD h1, List.flatMap_cons, List.take_append_of_le_length (by rw [hE]; omega), List.take_of_length_le (by rw [hE]; omega)]
  rfl
/-- What a function hands back that made the row itself. -/
def rE (en : α → List D) (es : Nat) (l : List α) : R := if l = [] then .d (.z true) else .own es l.length (l.flatMap en)
theorem rE_ne {l : List α} (h : l ≠ []) : rE en es l = .own es l.length (l.flatMap en) := if_neg h
end
theorem cP_snoc (l : List Pt) (x y : Int) : (l.flatMap cP).map A.d ++ [.d (.v (.int .i64 x)), .d (.v (.int .i64 y))] = ((l ++ [(x, y)]).flatMap cP).map A.d := by simp [cP, iv]
theorem cG_snoc (l : List Eg) (x y z t : Int) : (l.flatMap cG).map A.d ++ [.d (.v (.int .i64 x)), .d (.v (.int .i64 y)), .d (.v (.int .i64 z)), .d (.v (.int .i64 t))] = ((l ++ [((x, y, z), t)]).flatMap cG).map A.d := by simp [cG, iv]
theorem rep1_2 (a b : D) : rep 1 [a, b] = [a, b] := rfl
theorem rep1_4 (a b c d : D) : rep 1 [a, b, c, d] = [a, b, c, d] := rfl
theorem oneI (k : IntKind) (x : Int) : (D.v (.int k x)).one = true := rfl
theorem flat1P (x y : Int) : ([(x, y)] : List Pt).flatMap cP = [.v (.int .i64 x), .v (.int .i64 y)] := rfl
theorem flat1G (x y z t : Int) : ([((x, y, z), t)] : List Eg).flatMap cG = [.v (.int .i64 x), .v (.int .i64 y), .v (.int .i64 z), .v (.int .i64 t)] := rfl

/-- Small numbers. -/
def Sm (n : Int) : Prop := -100000000 ≤ n ∧ n ≤ 100000000
def SmP (p : Pt) : Prop := Sm p.1 ∧ Sm p.2
def SmD (d : Dr) : Prop := Sm d.1 ∧ Sm d.2.1 ∧ Sm d.2.2

def dvr_st (a b : Int) : St := mkS [(0, ai a), (1, ai b)] []
def dvr_en (a : Int) : St := mkS [(0, ai a)] []
def nxP (l : List Pt) (i : Nat) : Pt := if i + 1 < l.length then l.getD (i + 1) default else l.getD 0 default
def dotI (d : Dr) (p : Pt) : Int := d.1 * p.1 + d.2.1 * p.2
theorem sm_mul {a b : Int} (ha : Sm a) (hb : Sm b) : -10000000000000000 ≤ a * b ∧ a * b ≤ 10000000000000000 := by
  simp only [Sm] at ha hb
  have h1 : (a * b).natAbs ≤ 100000000 * 100000000 := by
    rw [Int.natAbs_mul]
    exact Nat.mul_le_mul (by omega) (by omega)
  omega
def mstN (d : Dr) (l : List Pt) : Nat → Int
  | 0 => dotI d (l.getD 0 default)
  | i + 1 => max (mstN d l i) (dotI d (l.getD i default))
def moP (d : Dr) (l : List Pt) : Int := mstN d l l.length
theorem getD_all {α : Type} {p : α → Prop} {l : List α} {x : α} (h : ∀ q ∈ l, p q) (hx : p x) (i : Nat) : p (l.getD i x) := by
  rw [List.getD_eq_getElem?_getD]
  rcases Nat.lt_or_ge i l.length with h1 | h1
  · rw [List.getElem?_eq_getElem h1]; exact h _ (List.getElem_mem h1)
  · rw [List.getElem?_eq_none h1]; exact hx
theorem sm0 : Sm 0 := ⟨by omega, by omega⟩
theorem smP0 : SmP default := ⟨sm0, sm0⟩
def ms_st (d : D) (e : Dr) (o i : Int) : St := mkS [(0, .d d), (3, .ptr [3] 0), (5, ai o), (6, ai i)] [([3], ⟨0, 0, [.d (iv e.1), .d (iv e.2.1), .d (iv e.2.2)], false⟩)]
def ms_en (o : Int) : St := mkS [(5, ai o)] []
def g3 (dx dy h : Int) : Int := (Int.gcd (Int.gcd dx dy) h : Int)
def nrP (dx dy h : Int) : Dr := (dy.tdiv (g3 dx dy h), (-dx).tdiv (g3 dx dy h), h.tdiv (g3 dx dy h))
theorem tdiv_le (a : Int) {g : Int} (hg : 0 < g) : -(a.natAbs : Int) ≤ a.tdiv g ∧ a.tdiv g ≤ (a.natAbs : Int) := by
  have h1 : (a.tdiv g).natAbs ≤ a.natAbs := by rw [Int.natAbs_tdiv]; exact Nat.div_le_self _ _
  omega
theorem g3_pos (dx dy : Int) {h : Int} (hh : 0 < h) : 0 < g3 dx dy h := by
  unfold g3
  have := Int.gcd_pos_of_ne_zero_right ((Int.gcd dx dy : Nat) : Int) (b := h) (by omega)
  omega
theorem box3s (a b c : D) : stcells 0 [.d a, .d b, .d c] [.d (.v (.int .i64 0)), .d (.v (.int .i64 0)), .d (.v (.int .i64 0))] = some [.d a, .d b, .d c] := rfl
def mvP (tx ty : Int) (p : Pt) : Pt := (p.1 + tx, p.2 + ty)
def mv_st (d : D) (tx ty : Int) (L : List Pt) (i : Int) : St := mkS [(0, .d d), (1, ai tx), (2, ai ty), (7, gAE 32 L), (8, ai i)] (gHE cP 2 32 L)
def mv_en (L : List Pt) : St := mkS [(7, gAE 32 L)] (gHE cP 2 32 L)
def spB (c k m : Int) : List Pt :=
  if c = 0 ∨ c = 1 ∨ c = 2 then [(0, 0), (2 * k, 0), (2 * k, m), (0, m)]
  else if c = 3 then [(0, 0), (4 * k, 0), (0, 3 * k)]
  else if c = 4 then [(0, 0), (4 * k, -3 * k), (8 * k, 0), (4 * k, 3 * k)]
  else if c = 5 then [(0, 0), (8 * k, 0), (8 * k, m), (4 * k, m + 3 * k), (0, m)]
  else [(0, 0), (6 * k, 0), (3 * k, 4 * k)]
def spC (l : List Int) : Int := atr l 0 7
def spK (l : List Int) : Int := 1 + atr l 1 3
def spM (l : List Int) : Int := 1 + atr l 2 6
def spX (l : List Int) : Int := atr l 3 5 - 2
def spY (l : List Int) : Int := atr l 4 5 - 2
def spP (l : List Int) : List Pt := (spB (spC l) (spK l) (spM l)).map (mvP (spX l) (spY l))
theorem sh_b (l : List Int) : (0 ≤ spC l ∧ spC l < 7) ∧ (1 ≤ spK l ∧ spK l < 4) ∧ (1 ≤ spM l ∧ spM l < 7) ∧ (-2 ≤ spX l ∧ spX l < 3) ∧ (-2 ≤ spY l ∧ spY l < 3) := by
  have h1 := atr_b l 0 (m := 7) (by omega)
  have h2 := atr_b l 1 (m := 3) (by omega)
  have h3 := atr_b l 2 (m := 6) (by omega)
  have h4 := atr_b l 3 (m := 5) (by omega)
  have h5 := atr_b l 4 (m := 5) (by omega)
  unfold spC spK spM spX spY
  omega
variable [Its]
/-! ### Normals -/
/-! ### Moved shapes -/
theorem mv_go {d : D} {l : List Pt} {tx ty : Int} (hr : RwE cP d l) (hl : ∀ p ∈ l, SmP p) (hx : Sm tx) (hy : Sm ty) (hn : l.length ≤ 1000000) {L : List Pt} (hL : L.length ≤ 1000000) {i : Nat} (hi : i < l.length) :
    X G gantryref12_Move_l0 (mv_st d tx ty L i) = some (.n, mv_st d tx ty (L ++ [mvP tx ty (l.getD i default)]) ((i + 1 : Nat) : Int)) := by
  have ll := hr.len
  have e1 : decide ((i : Int) < (l.length : Int)) = true := lt_t (by omega)
  have e2 : w64 ((i : Int) + 1) = ((i + 1 : Nat) : Int) := by rw [w64_id (by omega) (by omega)]; rfl
  have x1 := hr.ixa cP_len hi
  have x2 := fun hp => ldF (i := 0) cP_len hp hi (by omega)
  have x3 := fun hp => ldF (i := 1) cP_len hp hi (by omega)
  have hp := getD_all hl smP0 i
  generalize l.getD i default = q at *
  obtain ⟨x, y⟩ := q
  obtain ⟨h1, h2⟩ := hp
  simp only [Sm] at h1 h2 hx hy
  obtain ⟨u, hu⟩ : ∃ u, x + tx = u := ⟨_, rfl⟩
  obtain ⟨v, hv⟩ : ∃ v, y + ty = v := ⟨_, rfl⟩
  have e3 : w64 (x + tx) = u := by rw [w64_id (by omega) (by omega), hu]
  have e4 : w64 (y + ty) = v := by rw [w64_id (by omega) (by omega), hv]
  simp only [cP, iv, List.getElem?_cons_zero, List.getElem?_cons_succ, Option.map_some, List.drop_zero] at x2 x3
  unfold mvP
  dsimp only
  rw [hu, hv]
  by_cases h0 : L = []
  · subst h0
    have hb : (16 ≤ bound) = True := eq_true (by unfold bound; omega)
    have hb1 : (1 * 16 ≤ bound) = True := eq_true (by unfold bound; omega)
    have hq : ([(u, v)] : List Pt) ≠ [] := by simp
    simp -implicitDefEqProofs (maxSteps := 10000000) only [gantryref12_Move_l0, mv_st, gAE_nil, gHE_nil, gAE_ne hq, gHE_ne hq, arE, flat1P, hupdO_none, List.nil_append, List.cons_append, List.length_nil, List.length_cons, Nat.zero_add, List.map_cons, List.map_nil, rep1_2, oneI, srcS, src, allD, hb, hb1, ll, x1, x2, x3, go_sem, iv, bv, e1, e2, e3, e4, reduceCtorEq, ↓reduceIte, Nat.reduceEqDiff]
  · have n3 := lenE cP_len L
    have n4 : ((L.length + 1) * 16 ≤ bound) = True := eq_true (by unfold bound; omega)
    simp -implicitDefEqProofs (maxSteps := 10000000) only [gantryref12_Move_l0, mv_st, gAE_ne h0, gHE_ne h0, gAE_snoc, gHE_snoc, arE, cP_snoc, refsL_E, n3, n4, List.nil_append, List.cons_append, List.length_nil, List.length_cons, Nat.zero_add, List.map_cons, List.map_nil, List.all_cons, List.all_nil, rep1_2, oneI, srcS, src, allD, ll, x1, x2, x3, go_sem, iv, bv, e1, e2, e3, e4, reduceCtorEq, ↓reduceIte, Nat.reduceEqDiff]
theorem mv_stop {d : D} {l : List Pt} {tx ty : Int} (hr : RwE cP d l) {L : List Pt} : X G gantryref12_Move_l0 (mv_st d tx ty L l.length) = some (.x 0, mv_en L) := by
  have ll := hr.len
  have e1 : decide ((l.length : Int) < (l.length : Int)) = false := lt_f (by omega)
  by_cases h0 : L = []
  · subst h0
    simp -implicitDefEqProofs (maxSteps := 10000000) only [gantryref12_Move_l0, mv_st, mv_en, gAE_nil, gHE_nil, hupdO_none, ll, go_sem, iv, bv, e1, reduceCtorEq, ↓reduceIte, Nat.reduceEqDiff]
  · simp -implicitDefEqProofs (maxSteps := 10000000) only [gantryref12_Move_l0, mv_st, mv_en, gAE_ne h0, gHE_ne h0, arE, refsL_E, ll, go_sem, iv, bv, e1, reduceCtorEq, ↓reduceIte, Nat.reduceEqDiff]
theorem mv_loop {d : D} {l : List Pt} {tx ty : Int} (hr : RwE cP d l) (hl : ∀ p ∈ l, SmP p) (hx : Sm tx) (hy : Sm ty) (hn : l.length ≤ 1000000) : ∀ (j i : Nat), i + j = l.length → X G (.loop gantryref12_Move_l0) (mv_st d tx ty ((l.take i).map (mvP tx ty)) i) = some (.x 0, mv_en (l.map (mvP tx ty)))
  | 0, i, h => by
    have : i = l.length := by omega
    subst this
    rw [X_loop, mv_stop hr, List.take_length]; rfl
  | j + 1, i, h => by
    have hi : i < l.length := by omega
    have ih := mv_loop hr hl hx hy hn j (i + 1) (by omega)
    have e : (l.take (i + 1)).map (mvP tx ty) = (l.take i).map (mvP tx ty) ++ [mvP tx ty (l.getD i default)] := by
      rw [List.take_add_one, List.map_append, List.getElem?_eq_getElem hi, List.getD_eq_getElem?_getD, List.getElem?_eq_getElem hi]
      rfl
    rw [e] at ih
    rw [X_loop, mv_go hr hl hx hy hn (by simp; omega) hi, Option.bind_some, if_pos rfl]
    exact ih
theorem Move_spec {d : D} {l : List Pt} {tx ty : Int} (hr : RwE cP d l) (hl : ∀ p ∈ l, SmP p) (hx : Sm tx) (hy : Sm ty) (hn : l.length ≤ 1000000) : callX G n_gantryref12_Move [d, iv tx, iv ty] = some (rE cP 2 (l.map (mvP tx ty))) := by
  rw [callX_eq (cf := gantryref12_Move) rfl]
  have g := mv_loop hr hl hx hy hn l.length 0 (by omega)
  simp only [List.take_zero, List.map_nil] at g
  generalize l.map (mvP tx ty) = L at *
  simp only [mv_st, mv_en, gAE_nil, gHE_nil, hupdO_none, go_sem, nc0, iv] at g
  by_cases h0 : L = []
  · subst h0
    simp only [gAE_nil, gHE_nil, hupdO_none, go_sem] at g
    simp -implicitDefEqProofs (maxSteps := 10000000) only [gantryref12_Move, rE, g, hupdO_none, go_sem, iv, bv, reduceCtorEq, ↓reduceIte, Nat.reduceEqDiff]
  · simp only [gAE_ne h0, gHE_ne h0, arE, go_sem] at g
    simp -implicitDefEqProofs (maxSteps := 10000000) only [gantryref12_Move, rE_ne h0, g, refsL_E, allD_E, hupdO_none, go_sem, iv, bv, reduceCtorEq, ↓reduceIte, Nat.reduceEqDiff]

/-! ### Shapes -/
end Go.AM

/- ref12.Shape and Sides. -/
namespace Go.AM
open Go Go.RowKit

theorem rep4_2 (a b : D) : rep 4 [a, b] = [a, b, a, b, a, b, a, b] := rfl
theorem rep3_2 (a b : D) : rep 3 [a, b] = [a, b, a, b, a, b] := rfl
theorem rep5_2 (a b : D) : rep 5 [a, b] = [a, b, a, b, a, b, a, b, a, b] := rfl
theorem spB_sm {c k m : Int} (hk : 1 ≤ k ∧ k < 4) (hm : 1 ≤ m ∧ m < 7) : ∀ p ∈ spB c k m, -9 ≤ p.1 ∧ p.1 ≤ 24 ∧ -9 ≤ p.2 ∧ p.2 ≤ 24 := by
  intro p hp
  unfold spB at hp
  split at hp
  · simp only [List.mem_cons, List.not_mem_nil, or_false] at hp
    rcases hp with rfl | rfl | rfl | rfl <;> (dsimp only; omega)
  split at hp
  · simp only [List.mem_cons, List.not_mem_nil, or_false] at hp
    rcases hp with rfl | rfl | rfl <;> (dsimp only; omega)
  split at hp
  · simp only [List.mem_cons, List.not_mem_nil, or_false] at hp
    rcases hp with rfl | rfl | rfl | rfl <;> (dsimp only; omega)
  split at hp
  · simp only [List.mem_cons, List.not_mem_nil, or_false] at hp
    rcases hp with rfl | rfl | rfl | rfl | rfl <;> (dsimp only; omega)
  · simp only [List.mem_cons, List.not_mem_nil, or_false] at hp
    rcases hp with rfl | rfl | rfl <;> (dsimp only; omega)
theorem spB_len (c k m : Int) : 3 ≤ (spB c k m).length ∧ (spB c k m).length ≤ 5 := by
  unfold spB
  repeat' split
  all_goals simp
variable [Its]

set_option maxHeartbeats 2000000 in
theorem Shape_spec {d : D} {l : List Int} (hr : Rw d l) (hl : ∀ n ∈ l, I64 n) : callX G n_gantryref12_Shape [d] = some (.d (rowE cP (spP l))) := by
  rw [callX_eq (cf := gantryref12_Shape) rfl]
  have g0 := at_spec (i := 0) (m := 7) hr hl (by omega)
  have g1 := at_spec (i := 1) (m := 3) hr hl (by omega)
  have g2 := at_spec (i := 2) (m := 6) hr hl (by omega)
  have g3 := at_spec (i := 3) (m := 5) hr hl (by omega)
  have g4 := at_spec (i := 4) (m := 5) hr hl (by omega)
  obtain ⟨bc, bk, bm, bx, by_⟩ := sh_b l
  have sb := spB_sm (c := spC l) bk bm
  unfold spP
  unfold spC spK spM spX spY at *
  obtain ⟨k, hk⟩ : ∃ k, 1 + atr l 1 3 = k := ⟨_, rfl⟩
  obtain ⟨m, hm⟩ : ∃ k, 1 + atr l 2 6 = k := ⟨_, rfl⟩
  obtain ⟨x, hx⟩ : ∃ k, atr l 3 5 - 2 = k := ⟨_, rfl⟩
  obtain ⟨y, hy⟩ : ∃ k, atr l 4 5 - 2 = k := ⟨_, rfl⟩
  obtain ⟨c, hc⟩ : ∃ k, atr l 0 7 = k := ⟨_, rfl⟩
  rw [hc] at g0 bc sb
  have e1 : w64 (1 + atr l 1 3) = k := by rw [w64_id (by omega) (by omega), hk]
  have e2 : w64 (1 + atr l 2 6) = m := by rw [w64_id (by omega) (by omega), hm]
  have e3 : w64 (atr l 3 5 - 2) = x := by rw [w64_id (by omega) (by omega), hx]
  have e4 : w64 (atr l 4 5 - 2) = y := by rw [w64_id (by omega) (by omega), hy]
  rw [hk] at bk sb
  rw [hm] at bm sb
  rw [hx] at bx
  rw [hy] at by_
  rw [hc, hk, hm, hx, hy]
  clear hk hm hx hy hc
  have hsm : ∀ p ∈ spB c k m, SmP p := fun p hp => by
    have := sb p hp
    exact ⟨⟨by omega, by omega⟩, ⟨by omega, by omega⟩⟩
  have hlen := spB_len c k m
  have hmv := fun d (hd : RwE cP d (spB c k m)) => Move_spec (tx := x) (ty := y) hd hsm ⟨by omega, by omega⟩ ⟨by omega, by omega⟩ (by omega)
  have hne : (spB c k m).map (mvP x y) ≠ [] := fun h => by
    have := congrArg List.length h
    simp only [List.length_map, List.length_nil] at this
    omega
  obtain ⟨L, hL⟩ : ∃ L, (spB c k m).map (mvP x y) = L := ⟨_, rfl⟩
  rw [hL] at hne ⊢
  have f1 : w64 (2 * k) = 2 * k := w64_id (by omega) (by omega)
  have f2 : w64 (4 * k) = 4 * k := w64_id (by omega) (by omega)
  have f3 : w64 (3 * k) = 3 * k := w64_id (by omega) (by omega)
  have f4 : w64 (8 * k) = 8 * k := w64_id (by omega) (by omega)
  have f5 : w64 (6 * k) = 6 * k := w64_id (by omega) (by omega)
  have f6 : w64 (-3 * k) = -3 * k := w64_id (by omega) (by omega)
  have f7 : w64 (m + 3 * k) = m + 3 * k := w64_id (by omega) (by omega)
  have cases : (c = 0 ∨ c = 1 ∨ c = 2) ∨ c = 3 ∨ c = 4 ∨ c = 5 ∨ c = 6 := by omega
  rcases cases with h | h | h | h | h
  · have hs : spB c k m = [(0, 0), (2 * k, 0), (2 * k, m), (0, m)] := by unfold spB; rw [if_pos h]
    have gm := hmv (rowE cP [(0, 0), (2 * k, 0), (2 * k, m), (0, m)]) (.inr (by rw [hs]))
    rw [hL, rE_ne hne] at gm
    simp only [rowE, cP, iv, List.flatMap_cons, List.flatMap_nil, List.cons_append, List.nil_append, List.append_nil, List.length_cons, List.length_nil, Nat.reduceAdd, Nat.zero_add] at gm g0 g1 g2 g3 g4
    rcases h with rfl | rfl | rfl
    · simp -implicitDefEqProofs (maxSteps := 10000000) only [gantryref12_Shape, rowE, g0, g1, g2, g3, g4, gm, e1, e2, e3, e4, f1, f2, f3, f4, f5, f6, f7, beq_self_eq_true, rep4_2, go_sem, iv, bv, reduceCtorEq, ↓reduceIte, Nat.reduceEqDiff]
    · have q0 : ((1 : Int) == 0) = false := rfl
      simp -implicitDefEqProofs (maxSteps := 10000000) only [gantryref12_Shape, rowE, g0, g1, g2, g3, g4, gm, e1, e2, e3, e4, f1, f2, f3, f4, f5, f6, f7, q0, beq_self_eq_true, rep4_2, go_sem, iv, bv, reduceCtorEq, ↓reduceIte, Nat.reduceEqDiff]
    · have q0 : ((2 : Int) == 0) = false := rfl
      have q1 : ((2 : Int) == 1) = false := rfl
      simp -implicitDefEqProofs (maxSteps := 10000000) only [gantryref12_Shape, rowE, g0, g1, g2, g3, g4, gm, e1, e2, e3, e4, f1, f2, f3, f4, f5, f6, f7, q0, q1, beq_self_eq_true, rep4_2, go_sem, iv, bv, reduceCtorEq, ↓reduceIte, Nat.reduceEqDiff]
  · subst h
    have hs : spB 3 k m = [(0, 0), (4 * k, 0), (0, 3 * k)] := rfl
    have gm := hmv (rowE cP [(0, 0), (4 * k, 0), (0, 3 * k)]) (.inr (by rw [hs]))
    rw [hL, rE_ne hne] at gm
    simp only [rowE, cP, iv, List.flatMap_cons, List.flatMap_nil, List.cons_append, List.nil_append, List.append_nil, List.length_cons, List.length_nil, Nat.reduceAdd, Nat.zero_add] at gm g0 g1 g2 g3 g4
    have q0 : ((3 : Int) == 0) = false := rfl
    have q1 : ((3 : Int) == 1) = false := rfl
    have q2 : ((3 : Int) == 2) = false := rfl
    simp -implicitDefEqProofs (maxSteps := 10000000) only [gantryref12_Shape, rowE, g0, g1, g2, g3, g4, gm, e1, e2, e3, e4, f1, f2, f3, f4, f5, f6, f7, q0, q1, q2, beq_self_eq_true, rep3_2, go_sem, iv, bv, reduceCtorEq, ↓reduceIte, Nat.reduceEqDiff]
  · subst h
    have hs : spB 4 k m = [(0, 0), (4 * k, -3 * k), (8 * k, 0), (4 * k, 3 * k)] := rfl
    have gm := hmv (rowE cP [(0, 0), (4 * k, -3 * k), (8 * k, 0), (4 * k, 3 * k)]) (.inr (by rw [hs]))
    rw [hL, rE_ne hne] at gm
    simp only [rowE, cP, iv, List.flatMap_cons, List.flatMap_nil, List.cons_append, List.nil_append, List.append_nil, List.length_cons, List.length_nil, Nat.reduceAdd, Nat.zero_add] at gm g0 g1 g2 g3 g4
    have q0 : ((4 : Int) == 0) = false := rfl
    have q1 : ((4 : Int) == 1) = false := rfl
    have q2 : ((4 : Int) == 2) = false := rfl
    have q3 : ((4 : Int) == 3) = false := rfl
    simp -implicitDefEqProofs (maxSteps := 10000000) only [gantryref12_Shape, rowE, g0, g1, g2, g3, g4, gm, e1, e2, e3, e4, f1, f2, f3, f4, f5, f6, f7, q0, q1, q2, q3, beq_self_eq_true, rep4_2, go_sem, iv, bv, reduceCtorEq, ↓reduceIte, Nat.reduceEqDiff]
  · subst h
    have hs : spB 5 k m = [(0, 0), (8 * k, 0), (8 * k, m), (4 * k, m + 3 * k), (0, m)] := rfl
    have gm := hmv (rowE cP [(0, 0), (8 * k, 0), (8 * k, m), (4 * k, m + 3 * k), (0, m)]) (.inr (by rw [hs]))
    rw [hL, rE_ne hne] at gm
    simp only [rowE, cP, iv, List.flatMap_cons, List.flatMap_nil, List.cons_append, List.nil_append, List.append_nil, List.length_cons, List.length_nil, Nat.reduceAdd, Nat.zero_add] at gm g0 g1 g2 g3 g4
    have q0 : ((5 : Int) == 0) = false := rfl
    have q1 : ((5 : Int) == 1) = false := rfl
    have q2 : ((5 : Int) == 2) = false := rfl
    have q3 : ((5 : Int) == 3) = false := rfl
    have q4 : ((5 : Int) == 4) = false := rfl
    simp -implicitDefEqProofs (maxSteps := 10000000) only [gantryref12_Shape, rowE, g0, g1, g2, g3, g4, gm, e1, e2, e3, e4, f1, f2, f3, f4, f5, f6, f7, q0, q1, q2, q3, q4, beq_self_eq_true, rep5_2, go_sem, iv, bv, reduceCtorEq, ↓reduceIte, Nat.reduceEqDiff]
  · subst h
    have hs : spB 6 k m = [(0, 0), (6 * k, 0), (3 * k, 4 * k)] := rfl
    have gm := hmv (rowE cP [(0, 0), (6 * k, 0), (3 * k, 4 * k)]) (.inr (by rw [hs]))
    rw [hL, rE_ne hne] at gm
    simp only [rowE, cP, iv, List.flatMap_cons, List.flatMap_nil, List.cons_append, List.nil_append, List.append_nil, List.length_cons, List.length_nil, Nat.reduceAdd, Nat.zero_add] at gm g0 g1 g2 g3 g4
    have q0 : ((6 : Int) == 0) = false := rfl
    have q1 : ((6 : Int) == 1) = false := rfl
    have q2 : ((6 : Int) == 2) = false := rfl
    have q3 : ((6 : Int) == 3) = false := rfl
    have q4 : ((6 : Int) == 4) = false := rfl
    have q5 : ((6 : Int) == 5) = false := rfl
    simp -implicitDefEqProofs (maxSteps := 10000000) only [gantryref12_Shape, rowE, g0, g1, g2, g3, g4, gm, e1, e2, e3, e4, f1, f2, f3, f4, f5, f6, f7, q0, q1, q2, q3, q4, q5, beq_self_eq_true, rep3_2, go_sem, iv, bv, reduceCtorEq, ↓reduceIte, Nat.reduceEqDiff]
end Go.AM

/- ref12.Sides. -/
namespace Go.AM
open Go Go.RowKit

def sqF : Nat → Nat → Nat
  | 0, _ => 0
  | f + 1, n => if f * f = n then f else sqF f n
def sqI (n : Int) : Int := (sqF 60 n.toNat : Nat)
def sdx (l : List Pt) (i : Nat) : Int := (nxP l i).1 - (l.getD i default).1
def sdy (l : List Pt) (i : Nat) : Int := (nxP l i).2 - (l.getD i default).2
def sdh (l : List Pt) (i : Nat) : Int := sqI (sdx l i * sdx l i + sdy l i * sdy l i)
def sdN (l : List Pt) (i : Nat) : Dr := nrP (sdx l i) (sdy l i) (sdh l i)
def tnD (d : Dr) : Dr := (-d.1, -d.2.1, d.2.2)
/-- A direction as the shapes' sides have them. -/
def NmD (d : Dr) : Prop := (-100 ≤ d.1 ∧ d.1 ≤ 100) ∧ (-100 ≤ d.2.1 ∧ d.2.1 ≤ 100) ∧ (1 ≤ d.2.2 ∧ d.2.2 ≤ 100)
theorem NmD.sm {d : Dr} (h : NmD d) : SmD d := ⟨⟨by have := h.1; omega, by have := h.1; omega⟩, ⟨by have := h.2.1; omega, by have := h.2.1; omega⟩, ⟨by have := h.2.2; omega, by have := h.2.2; omega⟩⟩
theorem NmD.tn {d : Dr} (h : NmD d) : NmD (tnD d) := by
  obtain ⟨h1, h2, h3⟩ := h
  unfold NmD tnD
  dsimp only
  omega
structure GdS (l : List Pt) : Prop where
  pos : 0 < l.length
  le : l.length ≤ 10
  sm : ∀ p ∈ l, SmP p
  sq : ∀ i, i < l.length → sdh l i * sdh l i = sdx l i * sdx l i + sdy l i * sdy l i ∧ 0 < sdh l i
  nm : ∀ i, i < l.length → NmD (sdN l i)
def chkS (l : List Pt) : Bool := (List.range l.length).all fun i => decide (sdh l i * sdh l i = sdx l i * sdx l i + sdy l i * sdy l i) && decide (0 < sdh l i) &&
  decide (-100 ≤ (sdN l i).1) && decide ((sdN l i).1 ≤ 100) && decide (-100 ≤ (sdN l i).2.1) && decide ((sdN l i).2.1 ≤ 100) && decide (1 ≤ (sdN l i).2.2) && decide ((sdN l i).2.2 ≤ 100)
theorem chk_all : ((List.range 7).all fun c => (List.range 3).all fun k => (List.range 6).all fun m => chkS (spB (c : Int) (1 + (k : Int)) (1 + (m : Int)))) = true := by kernel_rfl
theorem mv_getD (tx ty : Int) {l : List Pt} {i : Nat} (h : i < l.length) : (l.map (mvP tx ty)).getD i default = mvP tx ty (l.getD i default) := by
  rw [List.getD_eq_getElem?_getD, List.getD_eq_getElem?_getD, List.getElem?_map, List.getElem?_eq_getElem h]; rfl
theorem mv_nx (tx ty : Int) {l : List Pt} {i : Nat} (h : i < l.length) : nxP (l.map (mvP tx ty)) i = mvP tx ty (nxP l i) := by
  unfold nxP
  rw [List.length_map]
  split
  · rw [mv_getD _ _ (by omega)]
  · rw [mv_getD _ _ (by omega)]
theorem mv_sdx (tx ty : Int) {l : List Pt} {i : Nat} (h : i < l.length) : sdx (l.map (mvP tx ty)) i = sdx l i := by
  unfold sdx
  rw [mv_nx _ _ h, mv_getD _ _ h]
  unfold mvP
  dsimp only
  omega
theorem mv_sdy (tx ty : Int) {l : List Pt} {i : Nat} (h : i < l.length) : sdy (l.map (mvP tx ty)) i = sdy l i := by
  unfold sdy
  rw [mv_nx _ _ h, mv_getD _ _ h]
  unfold mvP
  dsimp only
  omega
theorem mv_sdh (tx ty : Int) {l : List Pt} {i : Nat} (h : i < l.length) : sdh (l.map (mvP tx ty)) i = sdh l i := by unfold sdh; rw [mv_sdx _ _ h, mv_sdy _ _ h]
theorem mv_sdN (tx ty : Int) {l : List Pt} {i : Nat} (h : i < l.length) : sdN (l.map (mvP tx ty)) i = sdN l i := by unfold sdN; rw [mv_sdx _ _ h, mv_sdy _ _ h, mv_sdh _ _ h]
theorem spB_chk {c k m : Int} (hc : 0 ≤ c ∧ c < 7) (hk : 1 ≤ k ∧ k < 4) (hm : 1 ≤ m ∧ m < 7) : chkS (spB c k m) = true := by
  have h := chk_all
  rw [List.all_eq_true] at h
  have h1 := h c.toNat (List.mem_range.2 (by omega))
  rw [List.all_eq_true] at h1
  have h2 := h1 (k - 1).toNat (List.mem_range.2 (by omega))
  rw [List.all_eq_true] at h2
  have h3 := h2 (m - 1).toNat (List.mem_range.2 (by omega))
  rwa [show ((c.toNat : Nat) : Int) = c by omega, show 1 + (((k - 1).toNat : Nat) : Int) = k by omega, show 1 + (((m - 1).toNat : Nat) : Int) = m by omega] at h3
theorem gd_mv {c k m x y : Int} (hc : 0 ≤ c ∧ c < 7) (hk : 1 ≤ k ∧ k < 4) (hm : 1 ≤ m ∧ m < 7) (hx : -10000000 ≤ x ∧ x ≤ 10000000) (hy : -10000000 ≤ y ∧ y ≤ 10000000) : GdS ((spB c k m).map (mvP x y)) := by
  have hl := spB_len c k m
  have hch := spB_chk hc hk hm
  unfold chkS at hch
  rw [List.all_eq_true] at hch
  have hb := spB_sm (c := c) hk hm
  refine ⟨by rw [List.length_map]; omega, by rw [List.length_map]; omega, ?_, fun i hi => ?_, fun i hi => ?_⟩
  · intro p hp
    obtain ⟨q, hq, rfl⟩ := List.mem_map.1 hp
    have := hb q hq
    unfold mvP
    exact ⟨⟨by dsimp only; omega, by dsimp only; omega⟩, ⟨by dsimp only; omega, by dsimp only; omega⟩⟩
  all_goals
    rw [List.length_map] at hi
    have h1 := hch i (List.mem_range.2 hi)
    simp only [Bool.and_eq_true, decide_eq_true_eq] at h1
    obtain ⟨⟨⟨⟨⟨⟨⟨h1, h2⟩, h3⟩, h4⟩, h5⟩, h6⟩, h7⟩, h8⟩ := h1
  · rw [mv_sdh _ _ hi, mv_sdx _ _ hi, mv_sdy _ _ hi]; exact ⟨h1, h2⟩
  · rw [mv_sdN _ _ hi]; exact ⟨⟨h3, h4⟩, ⟨h5, h6⟩, ⟨h7, h8⟩⟩
theorem gd_sh (l : List Int) : GdS (spP l) := by
  obtain ⟨h1, h2, h3, h4, h5⟩ := sh_b l
  exact gd_mv h1 h2 h3 ⟨by omega, by omega⟩ ⟨by omega, by omega⟩

def drA (a : List Pt) (n : Nat) : List Dr := (List.range n).map (sdN a)
def drB (b : List Pt) (n : Nat) : List Dr := (List.range n).map fun i => tnD (sdN b i)
def drs (a b : List Pt) : List Dr := drA a a.length ++ drB b b.length
def eqDr (a b : Dr) : Bool := (a.1 == b.1) && ((a.2.1 == b.2.1) && (a.2.2 == b.2.2))
def frI (ds : List Dr) (i : Nat) : Nat → Bool
  | 0 => true
  | k + 1 => frI ds i k && !(eqDr (ds.getD k default) (ds.getD i default))
def edP (a b : List Pt) (d : Dr) : Eg := (d, moP d a + moP (tnD d) b)
def sdO (a b : List Pt) (ds : List Dr) : Nat → List Eg
  | 0 => []
  | i + 1 => if frI ds i i then sdO a b ds i ++ [edP a b (ds.getD i default)] else sdO a b ds i
def sdP (a b : List Pt) : List Eg := sdO a b (drs a b) (drs a b).length
theorem eqD3 (a b c a' b' c' : Int) : eqD [.v (.int .i64 a), .v (.int .i64 b), .v (.int .i64 c)] [.v (.int .i64 a'), .v (.int .i64 b'), .v (.int .i64 c')] = some ((a == a') && ((b == b') && (c == c'))) := by simp [eqD]
theorem drA_len (a : List Pt) (n : Nat) : (drA a n).length = n := by simp [drA]
theorem drB_len (a : List Pt) (n : Nat) : (drB a n).length = n := by simp [drB]
theorem drs_len (a b : List Pt) : (drs a b).length = a.length + b.length := by unfold drs; rw [List.length_append, drA_len, drB_len]
theorem drs_nm {a b : List Pt} (ha : GdS a) (hb : GdS b) : ∀ d ∈ drs a b, NmD d := by
  intro d hd
  rcases List.mem_append.1 hd with h | h
  · obtain ⟨i, hi, rfl⟩ := List.mem_map.1 h
    exact ha.nm i (List.mem_range.1 hi)
  · obtain ⟨i, hi, rfl⟩ := List.mem_map.1 h
    exact (hb.nm i (List.mem_range.1 hi)).tn
theorem sdO_len (a b : List Pt) (ds : List Dr) : ∀ i, (sdO a b ds i).length ≤ i
  | 0 => by simp [sdO]
  | i + 1 => by
    have := sdO_len a b ds i
    rw [sdO]
    split
    · rw [List.length_append]; simp; omega
    · omega
theorem mstN_b {d : Dr} {l : List Pt} (hd : NmD d) (hl : ∀ p ∈ l, SmP p) : ∀ i, -20000000000000000 ≤ mstN d l i ∧ mstN d l i ≤ 20000000000000000 := by
  have h : ∀ i, -20000000000000000 ≤ dotI d (l.getD i default) ∧ dotI d (l.getD i default) ≤ 20000000000000000 := by
    intro i
    have hp := getD_all hl smP0 i
    have h1 := sm_mul hd.sm.1 hp.1
    have h2 := sm_mul hd.sm.2.1 hp.2
    unfold dotI
    omega
  intro i
  induction i with
  | zero => exact h 0
  | succ i ih =>
    have := h i
    rw [mstN]
    omega
def sd0_st (da db : D) (L : List Dr) (i : Int) : St := mkS [(0, .d da), (1, .d db), (5, gAE 36 L), (6, ai i)] (gHE cD 3 36 L)
def sd0_en (da db : D) (L : List Dr) : St := mkS [(0, .d da), (1, .d db), (5, gAE 36 L)] (gHE cD 3 36 L)
def sd1_st (da db : D) (L : List Dr) (i : Int) : St := mkS [(0, .d da), (1, .d db), (5, .own [36] L.length), (9, ai i)] [([36], arE cD 3 L.length L)]
def sd1_en (da db : D) (L : List Dr) : St := mkS [(0, .d da), (1, .d db), (5, .own [36] L.length)] [([36], arE cD 3 L.length L)]
def sd2_st (da db : D) (L : List Dr) (O : List Eg) (i : Int) (f : Bool) (k : Int) : St := mkS [(0, .d da), (1, .d db), (5, .own [36] L.length), (12, gAE 104 O), (13, ai i), (14, ab f), (15, ai k)] (([36], arE cD 3 L.length L) :: gHE cG 4 104 O)
def sd2_en (da db : D) (L : List Dr) (O : List Eg) (i : Int) (f : Bool) : St := mkS [(0, .d da), (1, .d db), (5, .own [36] L.length), (12, gAE 104 O), (13, ai i), (14, ab f)] (([36], arE cD 3 L.length L) :: gHE cG 4 104 O)
def sd3_st (da db : D) (L : List Dr) (O : List Eg) (i : Int) : St := mkS [(0, .d da), (1, .d db), (5, .own [36] L.length), (12, gAE 104 O), (13, ai i)] (([36], arE cD 3 L.length L) :: gHE cG 4 104 O)
def sd3_en (O : List Eg) : St := mkS [(12, gAE 104 O)] (gHE cG 4 104 O)
theorem bnd4 {n : Nat} (h : n ≤ 1000) : ((n + 1) * 32 ≤ bound) = True := eq_true (by unfold bound; omega)
theorem b32 : (32 ≤ bound) = True := eq_true (by unfold bound; omega)
theorem b32' : (1 * 32 ≤ bound) = True := eq_true (by unfold bound; omega)

theorem sdP_ne {a b : List Pt} (ha : GdS a) : sdP a b ≠ [] := by
  unfold sdP
  have h1 : 0 < (drs a b).length := by rw [drs_len]; have := ha.pos; omega
  have key : ∀ n, 0 < n → sdO a b (drs a b) n ≠ [] := by
    intro n
    induction n with
    | zero => intro h; omega
    | succ n ih =>
      intro _
      rw [sdO]
      by_cases hn : 0 < n
      · split
        · simp
        · exact ih hn
      · have : n = 0 := by omega
        subst this
        simp [frI]
  exact key _ h1
variable [Its]
end Go.AM

/- convex: the small functions; Most. -/
namespace Go.AM
open Go Go.RowKit

def crI (a b c : Pt) : Int := (b.1 - a.1) * (c.2 - a.2) - (b.2 - a.2) * (c.1 - a.1)
def cmpI (a b : Int) : Int := if a < b then -1 else if a > b then 1 else 0
def mxF (d : Dr) (l : List Pt) : Nat → Pt
  | 0 => l.getD 0 default
  | i + 1 => if dotI d (l.getD (i + 1) default) > dotI d (mxF d l i) then l.getD (i + 1) default else mxF d l i
theorem mxF_dot (d : Dr) (l : List Pt) : ∀ i, dotI d (mxF d l i) = mstN d l (i + 1)
  | 0 => by simp only [mxF, mstN]; omega
  | i + 1 => by
    have ih := mxF_dot d l i
    rw [mstN, ← ih, mxF]
    split <;> omega
theorem cmp_gt (a b : Int) : decide (cmpI a b > 0) = decide (a > b) := by
  unfold cmpI
  split
  · rw [decide_eq_false (by omega), decide_eq_false (by omega)]
  · split
    · rw [decide_eq_true (by omega), decide_eq_true (by omega)]
    · rw [decide_eq_false (by omega), decide_eq_false (by omega)]
theorem st2p (a b c d : A) : stcells 0 [a, b] [c, d] = some [a, b] := rfl
theorem ld2p (a b : D) : ldcells (some 2) 0 [.d a, .d b] = some (.d (.agg [a, b])) := rfl
theorem ld2_0 (a b : D) : ldcells none 0 [.d a, .d b] = some (.d a) := rfl
theorem ld2_1 (a b : D) : ldcells none 1 [.d a, .d b] = some (.d b) := rfl
theorem ld3p (a b c : D) : ldcells (some 3) 0 [.d a, .d b, .d c] = some (.d (.agg [a, b, c])) := rfl
theorem ld3n0 (a b c : D) : ldcells none 0 [.d a, .d b, .d c] = some (.d a) := rfl
theorem ld3n1 (a b c : D) : ldcells none 1 [.d a, .d b, .d c] = some (.d b) := rfl
theorem ldrp3 (h : Hp) (a b c : D) : loadA h (some 3) (.d (.rp [a, b, c])) = some (.d (.agg [a, b, c])) := rfl

theorem mxF_sm {d : Dr} {l : List Pt} (hl : ∀ p ∈ l, SmP p) : ∀ i, SmP (mxF d l i)
  | 0 => getD_all hl smP0 _
  | i + 1 => by
    rw [mxF]
    split
    · exact getD_all hl smP0 _
    · exact mxF_sm hl i
variable [Its]
theorem cnext_spec {d : D} {l : List Pt} (hr : RwE cP d l) {i : Nat} (hi : i < l.length) (hl : l.length ≤ 1000000) : callX G n_convex_next [d, iv (i : Int)] = some (.d (encP (nxP l i))) := by
  rw [callX_eq (cf := convex_next) rfl]
  have ll := hr.len
  have e1 : w64 ((i : Int) + 1) = ((i + 1 : Nat) : Int) := by rw [w64_id (by omega) (by omega)]; rfl
  have e2 := eqz_f (b := (l.length : Int)) (by omega)
  have e3 : (((i + 1 : Nat) : Int)).tmod (l.length : Int) = (((i + 1) % l.length : Nat) : Int) := by rw [rem_pos (by omega)]; omega
  have hj : (i + 1) % l.length < l.length := Nat.mod_lt _ (by omega)
  have x1 := hr.ixa cP_len hj
  have x2 := fun hp => ldE cP_len hp hj
  have ee : l.getD ((i + 1) % l.length) default = nxP l i := by
    unfold nxP
    split
    · rw [Nat.mod_eq_of_lt (by assumption)]
    · have : i + 1 = l.length := by omega
      rw [this, Nat.mod_self]
  rw [ee] at x2
  generalize nxP l i = q at *
  obtain ⟨x, y⟩ := q
  simp only [cP, iv] at x2
  simp -implicitDefEqProofs (maxSteps := 10000000) only [convex_next, encP, cP, st2p, ld2p, go_sem, iv, bv, e1, e2, e3, ll, x1, x2, reduceCtorEq, ↓reduceIte, Nat.reduceEqDiff]
theorem cross_spec {a b c : Pt} (ha : SmP a) (hb : SmP b) (hc : SmP c) : callX G n_convex_cross [encP a, encP b, encP c] = some (.d (iv (crI a b c))) := by
  rw [callX_eq (cf := convex_cross) rfl]
  obtain ⟨a1, a2⟩ := a
  obtain ⟨b1, b2⟩ := b
  obtain ⟨c1, c2⟩ := c
  obtain ⟨h1, h2⟩ := ha
  obtain ⟨h3, h4⟩ := hb
  obtain ⟨h5, h6⟩ := hc
  simp only [Sm] at h1 h2 h3 h4 h5 h6
  unfold crI
  dsimp only
  obtain ⟨x, hx⟩ : ∃ x, b1 - a1 = x := ⟨_, rfl⟩
  obtain ⟨y, hy⟩ : ∃ x, c2 - a2 = x := ⟨_, rfl⟩
  obtain ⟨z, hz⟩ : ∃ x, b2 - a2 = x := ⟨_, rfl⟩
  obtain ⟨t, ht⟩ : ∃ x, c1 - a1 = x := ⟨_, rfl⟩
  have e1 : w64 (b1 - a1) = x := by rw [w64_id (by omega) (by omega), hx]
  have e2 : w64 (c2 - a2) = y := by rw [w64_id (by omega) (by omega), hy]
  have e3 : w64 (b2 - a2) = z := by rw [w64_id (by omega) (by omega), hz]
  have e4 : w64 (c1 - a1) = t := by rw [w64_id (by omega) (by omega), ht]
  have bb : ∀ u v : Int, -200000000 ≤ u ∧ u ≤ 200000000 → -200000000 ≤ v ∧ v ≤ 200000000 → -40000000000000000 ≤ u * v ∧ u * v ≤ 40000000000000000 := by
    intro u v hu hv
    have h1 : (u * v).natAbs ≤ 200000000 * 200000000 := by
      rw [Int.natAbs_mul]
      exact Nat.mul_le_mul (by omega) (by omega)
    omega
  have m1 := bb x y (by omega) (by omega)
  have m2 := bb z t (by omega) (by omega)
  clear bb
  rw [hx, hy, hz, ht]
  have e5 : w64 (x * y) = x * y := w64_id (by omega) (by omega)
  have e6 : w64 (z * t) = z * t := w64_id (by omega) (by omega)
  have e7 : w64 (x * y - z * t) = x * y - z * t := w64_id (by omega) (by omega)
  simp -implicitDefEqProofs (maxSteps := 10000000) only [convex_cross, encP, cP, ld2_0, ld2_1, go_sem, iv, bv, e1, e2, e3, e4, e5, e6, e7, reduceCtorEq, ↓reduceIte, Nat.reduceEqDiff]
theorem turned_spec {d : Dr} (h : SmD d) : callX G n_convex_turned [encD d] = some (.d (encD (tnD d))) := by
  rw [callX_eq (cf := convex_turned) rfl]
  obtain ⟨x, y, z⟩ := d
  obtain ⟨h1, h2, h3⟩ := h
  simp only [Sm] at h1 h2 h3
  have e1 : w64 (0 - x) = -x := by rw [w64_id (by omega) (by omega)]; omega
  have e2 : w64 (0 - y) = -y := by rw [w64_id (by omega) (by omega)]; omega
  simp -implicitDefEqProofs (maxSteps := 10000000) only [convex_turned, tnD, encD, cD, stcells, ldcells, go_sem, iv, bv, e1, e2, reduceCtorEq, ↓reduceIte, Nat.reduceEqDiff]
def cgc_st (a b : Int) : St := mkS [(0, ai a), (1, ai b)] []
def cgc_en (a : Int) : St := mkS [(0, ai a)] []
theorem cgc_loop : ∀ (n : Nat) (a b : Int), b.natAbs < n → (-4000000000000000000 ≤ a ∧ a ≤ 4000000000000000000) → (-4000000000000000000 ≤ b ∧ b ≤ 4000000000000000000) → ∃ z, z.natAbs = Int.gcd a b ∧ (-4000000000000000000 ≤ z ∧ z ≤ 4000000000000000000) ∧ X G (.loop convex_gcd_l0) (cgc_st a b) = some (.x 0, cgc_en z)
  | 0, a, b, h, _, _ => by omega
  | n + 1, a, b, h, ha, hb => by
    by_cases h0 : b = 0
    · subst h0
      have e1 : ((0 : Int) != 0) = false := rfl
      have g : X G convex_gcd_l0 (cgc_st a 0) = some (.x 0, cgc_en a) := by
        simp -implicitDefEqProofs (maxSteps := 10000000) only [convex_gcd_l0, cgc_st, cgc_en, go_sem, iv, bv, e1, reduceCtorEq, ↓reduceIte, Nat.reduceEqDiff]
      exact ⟨a, by rw [Int.gcd_zero_right], ha, by rw [X_loop, g]; rfl⟩
    · have e1 : (b != 0) = true := by simpa using h0
      have e2 := eqz_f (b := b) h0
      have g : X G convex_gcd_l0 (cgc_st a b) = some (.n, cgc_st b (a.tmod b)) := by
        simp -implicitDefEqProofs (maxSteps := 10000000) only [convex_gcd_l0, cgc_st, go_sem, iv, bv, e1, e2, reduceCtorEq, ↓reduceIte, Nat.reduceEqDiff]
      have h1 : (a.tmod b).natAbs < b.natAbs := by rw [Int.natAbs_tmod]; exact Nat.mod_lt _ (by omega)
      obtain ⟨z, z1, z2, z3⟩ := cgc_loop n b (a.tmod b) (by omega) hb (by omega)
      refine ⟨z, ?_, z2, by rw [X_loop, g, Option.bind_some, if_pos rfl]; exact z3⟩
      rw [z1]
      show Nat.gcd _ _ = Nat.gcd _ _
      rw [Int.natAbs_tmod, Nat.gcd_comm a.natAbs, Nat.gcd_comm b.natAbs (a.natAbs % b.natAbs)]
      exact (Nat.gcd_rec b.natAbs a.natAbs).symm
theorem cgcd_spec {a b : Int} (ha : -4000000000000000000 ≤ a ∧ a ≤ 4000000000000000000) (hb : -4000000000000000000 ≤ b ∧ b ≤ 4000000000000000000) : callX G n_convex_gcd [iv a, iv b] = some (.d (iv (Int.gcd a b : Int))) := by
  rw [callX_eq (cf := convex_gcd) rfl]
  obtain ⟨z, z1, z2, g⟩ := cgc_loop (b.natAbs + 1) a b (by omega) ha hb
  have e1 : w64 (0 - z) = -z := by rw [w64_id (by omega) (by omega)]; omega
  have e2 : (if -z > z then -z else z) = ((Int.gcd a b : Nat) : Int) := by rw [← z1]; split <;> omega
  generalize ((Int.gcd a b : Nat) : Int) = q at *
  simp only [cgc_st, cgc_en, go_sem] at g
  simp -implicitDefEqProofs (maxSteps := 10000000) only [convex_gcd, foldV, mxV, g, e1, e2, go_sem, iv, bv, reduceCtorEq, ↓reduceIte, Nat.reduceEqDiff]
theorem dot_spec {d : Dr} {p : Pt} (hd : SmD d) (hp : SmP p) : callX G n_convex_dot [encD d, encP p] = some (.d (iv (dotI d p))) := by
  rw [callX_eq (cf := convex_dot) rfl]
  obtain ⟨a, b, c⟩ := d
  obtain ⟨x, y⟩ := p
  obtain ⟨h1, h2, h3⟩ := hd
  have m1 := sm_mul h1 hp.1
  have m2 := sm_mul h2 hp.2
  unfold dotI
  dsimp only at m1 m2 ⊢
  have e3 : w64 (a * x) = a * x := w64_id (by omega) (by omega)
  have e4 : w64 (b * y) = b * y := w64_id (by omega) (by omega)
  have e5 : w64 (a * x + b * y) = a * x + b * y := w64_id (by omega) (by omega)
  simp -implicitDefEqProofs (maxSteps := 10000000) only [convex_dot, encD, cD, encP, cP, ld2_0, ld2_1, ld3n0, ld3n1, go_sem, iv, bv, e3, e4, e5, reduceCtorEq, ↓reduceIte, Nat.reduceEqDiff]
theorem nan_spec (x : Int) : callX G n_cmp_isNaN_int [iv x] = some (.d (bv false)) := by
  rw [callX_eq (cf := cmp_isNaN_int) rfl]
  have e : (x != x) = false := by simp
  simp -implicitDefEqProofs (maxSteps := 10000000) only [cmp_isNaN_int, go_sem, iv, bv, e, reduceCtorEq, ↓reduceIte, Nat.reduceEqDiff]
theorem cCompare_spec (a b : Int) : callX G n_cmp_Compare_int [iv a, iv b] = some (.d (iv (cmpI a b))) := by
  rw [callX_eq (cf := cmp_Compare_int) rfl]
  have g1 := nan_spec a
  have g2 := nan_spec b
  simp only [iv, bv] at g1 g2
  unfold cmpI
  by_cases h : a < b
  · have e1 : decide (a < b) = true := decide_eq_true h
    rw [if_pos h]
    simp -implicitDefEqProofs (maxSteps := 10000000) only [cmp_Compare_int, g1, g2, go_sem, iv, bv, e1, reduceCtorEq, ↓reduceIte, Nat.reduceEqDiff]
  · have e1 : decide (a < b) = false := decide_eq_false h
    rw [if_neg h]
    by_cases h2 : a > b
    · have e2 : decide (a > b) = true := decide_eq_true h2
      rw [if_pos h2]
      simp -implicitDefEqProofs (maxSteps := 10000000) only [cmp_Compare_int, g1, g2, go_sem, iv, bv, e1, e2, reduceCtorEq, ↓reduceIte, Nat.reduceEqDiff]
    · have e2 : decide (a > b) = false := decide_eq_false h2
      rw [if_neg h2]
      simp -implicitDefEqProofs (maxSteps := 10000000) only [cmp_Compare_int, g1, g2, go_sem, iv, bv, e1, e2, reduceCtorEq, ↓reduceIte, Nat.reduceEqDiff]
theorem Most1_spec {d : Dr} {p q : Pt} (hd : SmD d) (hp : SmP p) (hq : SmP q) : callX G n_convex_Most_1 [encP p, encP q, .rp (cD d)] = some (.d (iv (cmpI (dotI d p) (dotI d q)))) := by
  rw [callX_eq (cf := convex_Most_1) rfl]
  have g1 := dot_spec hd hp
  have g2 := dot_spec hd hq
  have g3 := cCompare_spec (dotI d p) (dotI d q)
  generalize cmpI (dotI d p) (dotI d q) = z at *
  generalize dotI d p = u at *
  generalize dotI d q = v at *
  obtain ⟨a, b, c⟩ := d
  obtain ⟨p1, p2⟩ := p
  obtain ⟨q1, q2⟩ := q
  simp only [encD, cD, encP, cP, iv] at g1 g2 g3
  simp -implicitDefEqProofs (maxSteps := 10000000) only [convex_Most_1, encD, cD, encP, cP, g1, g2, g3, ldrp3, ld2p, go_sem, iv, bv, reduceCtorEq, ↓reduceIte, Nat.reduceEqDiff]
def mf_st (d : D) (e : Dr) (p : Pt) (i : Int) : St := mkS [(0, .d d), (1, .d (.fn n_convex_Most_1 [.rp (cD e)])), (4, .ptr [4] 0), (5, .ptr [5] 0), (6, ai i)] [([4], ⟨0, 0, [.d (iv 0), .d (iv 0)], false⟩), ([5], ⟨0, 0, [.d (iv p.1), .d (iv p.2)], false⟩)]
def mf_en (p : Pt) : St := mkS [(4, .ptr [4] 0), (5, .ptr [5] 0)] [([4], ⟨0, 0, [.d (iv 0), .d (iv 0)], false⟩), ([5], ⟨0, 0, [.d (iv p.1), .d (iv p.2)], false⟩)]
theorem mf_go {d : D} {l : List Pt} {e : Dr} (hr : RwE cP d l) (hl : ∀ p ∈ l, SmP p) (he : SmD e) (hn : l.length ≤ 1000000) {p : Pt} (hp : SmP p) {i : Nat} (hi : i < l.length) :
    X G slices_MaxFunc_api_Point_api_Point_l0 (mf_st d e p i) = some (.n, mf_st d e (if dotI e (l.getD i default) > dotI e p then l.getD i default else p) ((i + 1 : Nat) : Int)) := by
  have ll := hr.len
  have e1 : decide ((i : Int) < (l.length : Int)) = true := lt_t (by omega)
  have e2 : w64 ((i : Int) + 1) = ((i + 1 : Nat) : Int) := by rw [w64_id (by omega) (by omega)]; rfl
  have x1 := hr.ixa cP_len hi
  have x2 := fun hp => ldE cP_len hp hi
  have hq := getD_all hl smP0 i
  have g := Most1_spec he hq hp
  have e3 := cmp_gt (dotI e (l.getD i default)) (dotI e p)
  generalize cmpI (dotI e (l.getD i default)) (dotI e p) = z at *
  generalize l.getD i default = q at *
  obtain ⟨qx, qy⟩ := q
  obtain ⟨px, py⟩ := p
  obtain ⟨a, b, c⟩ := e
  simp only [cP, cD, encP, iv] at x2 g
  by_cases h : dotI (a, b, c) (qx, qy) > dotI (a, b, c) (px, py)
  · rw [decide_eq_true h] at e3
    rw [if_pos h]
    simp -implicitDefEqProofs (maxSteps := 10000000) only [slices_MaxFunc_api_Point_api_Point_l0, mf_st, cD, g, st2p, ld2p, List.cons_append, List.nil_append, go_sem, iv, bv, e1, e2, e3, ll, x1, x2, reduceCtorEq, ↓reduceIte, Nat.reduceEqDiff]
  · rw [decide_eq_false h] at e3
    rw [if_neg h]
    simp -implicitDefEqProofs (maxSteps := 10000000) only [slices_MaxFunc_api_Point_api_Point_l0, mf_st, cD, g, st2p, ld2p, List.cons_append, List.nil_append, go_sem, iv, bv, e1, e2, e3, ll, x1, x2, reduceCtorEq, ↓reduceIte, Nat.reduceEqDiff]
theorem mf_stop {d : D} {l : List Pt} {e : Dr} (hr : RwE cP d l) {p : Pt} : X G slices_MaxFunc_api_Point_api_Point_l0 (mf_st d e p l.length) = some (.x 0, mf_en p) := by
  have ll := hr.len
  have e1 : decide ((l.length : Int) < (l.length : Int)) = false := lt_f (by omega)
  simp -implicitDefEqProofs (maxSteps := 10000000) only [slices_MaxFunc_api_Point_api_Point_l0, mf_st, mf_en, go_sem, iv, bv, e1, ll, reduceCtorEq, ↓reduceIte, Nat.reduceEqDiff]
theorem mf_loop {d : D} {l : List Pt} {e : Dr} (hr : RwE cP d l) (hl : ∀ p ∈ l, SmP p) (he : SmD e) (hn : l.length ≤ 1000000) : ∀ (j i : Nat), i + 1 + j = l.length → X G (.loop slices_MaxFunc_api_Point_api_Point_l0) (mf_st d e (mxF e l i) ((i + 1 : Nat) : Int)) = some (.x 0, mf_en (mxF e l (l.length - 1)))
  | 0, i, h => by
    have : i + 1 = l.length := by omega
    rw [this, ← this, Nat.add_sub_cancel]
    rw [X_loop, this, mf_stop hr]; rfl
  | j + 1, i, h => by
    rw [X_loop, mf_go hr hl he hn (mxF_sm hl i) (by omega), Option.bind_some, if_pos rfl]
    exact mf_loop hr hl he hn j (i + 1) (by omega)
theorem cMost_spec {d : D} {l : List Pt} {e : Dr} (hr : RwE cP d l) (h0 : 0 < l.length) (hl : ∀ p ∈ l, SmP p) (he : SmD e) (hn : l.length ≤ 1000000) : callX G n_convex_Most [d, encD e] = some (.d (iv (moP e l))) := by
  have gm : callX G n_slices_MaxFunc_api_Point_api_Point [d, .fn n_convex_Most_1 [.rp (cD e)]] = some (.d (encP (mxF e l (l.length - 1)))) := by
    rw [callX_eq (cf := slices_MaxFunc_api_Point_api_Point) rfl]
    have ll := hr.len
    have e1 : decide ((l.length : Int) < 1) = false := lt_f (by omega)
    have x1 := hr.ixa (j := 0) cP_len h0
    have x2 := fun hp => ldE (j := 0) (l := l) cP_len hp h0
    have g := mf_loop hr hl he hn (l.length - 1) 0 (by omega)
    have e0 : mxF e l 0 = l.getD 0 default := rfl
    have e3 : ((0 + 1 : Nat) : Int) = 1 := rfl
    rw [e0, e3] at g
    simp only [nc0, List.drop_zero] at x1 x2
    generalize mxF e l (l.length - 1) = z at *
    generalize l.getD 0 default = q at *
    obtain ⟨qx, qy⟩ := q
    obtain ⟨zx, zy⟩ := z
    simp only [cP, iv] at x2
    simp only [mf_st, mf_en, iv, go_sem] at g
    simp -implicitDefEqProofs (maxSteps := 10000000) only [slices_MaxFunc_api_Point_api_Point, encP, cP, g, st2p, ld2p, go_sem, iv, bv, e1, ll, x1, x2, reduceCtorEq, ↓reduceIte, Nat.reduceEqDiff]
  rw [callX_eq (cf := convex_Most) rfl]
  have hz := mxF_sm (d := e) hl (l.length - 1)
  have g2 := dot_spec he hz
  rw [mxF_dot, show l.length - 1 + 1 = l.length by omega] at g2
  have e4 : mstN e l l.length = moP e l := rfl
  rw [e4] at g2
  generalize moP e l = r at *
  generalize mxF e l (l.length - 1) = z at *
  obtain ⟨zx, zy⟩ := z
  obtain ⟨a, b, c⟩ := e
  simp only [encD, cD, encP, cP, iv] at gm g2
  simp -implicitDefEqProofs (maxSteps := 10000000) only [convex_Most, encD, cD, encP, cP, gm, g2, ld3p, snap, snapH, allD, go_sem, iv, bv, reduceCtorEq, ↓reduceIte, Nat.reduceEqDiff]
end Go.AM

/- convex: Norm; searching rows of edges. -/
namespace Go.AM
open Go Go.RowKit

section
variable {α : Type} {en : α → List D} {es : Nat}
theorem RwE.cell {d : D} {l : List α} (h : RwE en d l) : cellsOf (.d d) = [.d d] := by rcases h with ⟨rfl, _⟩ | rfl <;> rfl
theorem RwE.onec {d : D} {l : List α} (h : RwE en d l) : A.one (.d d) = true := by rcases h with ⟨rfl, _⟩ | rfl <;> rfl
end
def fiE (p : Eg → Bool) (O : List Eg) : Nat → Nat → Int
  | 0, _ => -1
  | j + 1, i => if p (O.getD i default) then (i : Int) else fiE p O j (i + 1)
theorem fiE_any (p : Eg → Bool) (O : List Eg) : ∀ j i : Nat, i + j = O.length → (decide (fiE p O j i ≥ 0) = (O.drop i).any p)
  | 0, i, h => by rw [List.drop_eq_nil_of_le (by omega)]; rfl
  | j + 1, i, h => by
    have hi : i < O.length := by omega
    rw [drop_getD hi, List.any_cons, fiE]
    cases hp : p (O.getD i default) with
    | true => simp
    | false => simp only [Bool.false_eq_true, if_false, Bool.false_or]; exact fiE_any p O j (i + 1) (by omega)
variable [Its]
theorem cNorm_spec {a b : Pt} {h : Int} (ha : SmP a) (hb : SmP b) (hh : h * h = (b.1 - a.1) * (b.1 - a.1) + (b.2 - a.2) * (b.2 - a.2)) (h0 : 0 < h) : callX G n_convex_Norm [encP a, encP b] = some (.d (.tup [encD (nrP (b.1 - a.1) (b.2 - a.2) h), bv true])) := by
  rw [callX_eq (cf := convex_Norm) rfl]
  obtain ⟨ax, ay⟩ := a
  obtain ⟨bx, byy⟩ := b
  obtain ⟨h1, h2⟩ := ha
  obtain ⟨h3, h4⟩ := hb
  simp only [Sm] at h1 h2 h3 h4
  dsimp only at hh ⊢
  obtain ⟨dx, hdx⟩ : ∃ z, bx - ax = z := ⟨_, rfl⟩
  obtain ⟨dy, hdy⟩ : ∃ z, byy - ay = z := ⟨_, rfl⟩
  have e1 : w64 (bx - ax) = dx := by rw [w64_id (by omega) (by omega), hdx]
  have e2 : w64 (byy - ay) = dy := by rw [w64_id (by omega) (by omega), hdy]
  rw [hdx, hdy] at hh
  rw [hdx, hdy]
  have b1 : -200000000 ≤ dx ∧ dx ≤ 200000000 := by omega
  have b2 : -200000000 ≤ dy ∧ dy ≤ 200000000 := by omega
  clear hdx hdy h1 h2 h3 h4
  have sq : ∀ z : Int, -200000000 ≤ z ∧ z ≤ 200000000 → 0 ≤ z * z ∧ z * z ≤ 40000000000000000 := by
    intro z hz
    have h1 : (z * z).natAbs ≤ 200000000 * 200000000 := by
      rw [Int.natAbs_mul]
      exact Nat.mul_le_mul (by omega) (by omega)
    have h2 : 0 ≤ z * z := by
      rcases Int.le_total 0 z with h | h
      · exact Int.mul_nonneg h h
      · exact Int.mul_nonneg_of_nonpos_of_nonpos h h
    omega
  have q1 := sq dx b1
  have q2 := sq dy b2
  clear sq
  obtain ⟨p1, hp1⟩ : ∃ z, dx * dx = z := ⟨_, rfl⟩
  obtain ⟨p2, hp2⟩ : ∃ z, dy * dy = z := ⟨_, rfl⟩
  obtain ⟨s, hs⟩ : ∃ z, p1 + p2 = z := ⟨_, rfl⟩
  have e3 : w64 (dx * dx) = p1 := by rw [w64_id (by omega) (by omega), hp1]
  have e4 : w64 (dy * dy) = p2 := by rw [w64_id (by omega) (by omega), hp2]
  have e5 : w64 (p1 + p2) = s := by rw [w64_id (by omega) (by omega), hs]
  rw [hp1, hp2, hs] at hh
  have hh2 : h < 1000000000 := by
    apply Classical.byContradiction
    intro hc
    have := sq_mono (a := 1000000000) (b := h) (by omega) (by omega)
    omega
  have hI : I64 (s) := ⟨by omega, by omega⟩
  have hrt : IsRt h s := by
    refine ⟨by omega, by omega, ?_⟩
    have e : (h + 1) * (h + 1) = h * h + 2 * h + 1 := by grind
    omega
  have g1 := Of_spec hI
  have g2 := Root_spec (x := s) (Nat.le_trans (nd_i64 hI) (by omega)) (by omega) hrt
  have hhI : I64 h := ⟨by omega, by omega⟩
  have g4 := Small_spec_I (x := h) (Nat.le_trans (nd_i64 hhI) (by omega))
  rw [(smb_t hhI).1, (smb_t hhI).2] at g4
  rw [decide_eq_true hh] at g2
  have g7 := cgcd_spec (a := dx) (b := dy) (by omega) (by omega)
  have g8 := cgcd_spec (a := (Int.gcd dx dy : Int)) (b := h) (by
    have h1 : Int.gcd dx dy ≤ 200000000 := by
      by_cases hz : dx = 0
      · subst hz; rw [Int.gcd_zero_left]; omega
      · have := Nat.le_of_dvd (by omega) (Int.gcd_dvd_natAbs_left dx dy); omega
    omega) (by omega)
  have gp := g3_pos dx dy h0
  have e7 : (Int.gcd (Int.gcd dx dy) h : Int) = g3 dx dy h := rfl
  rw [e7] at g8
  unfold nrP
  obtain ⟨g, hg⟩ : ∃ g, g3 dx dy h = g := ⟨_, rfl⟩
  rw [hg] at g8 gp ⊢
  have e8 := eqz_f (b := g) (by omega)
  have e9 : w64 (0 - dx) = -dx := by rw [w64_id (by omega) (by omega)]; omega
  have t1 := tdiv_le dy gp
  have t2 := tdiv_le (-dx) gp
  have t3 := tdiv_le h gp
  have f1 : w64 (dy.tdiv g) = dy.tdiv g := w64_id (by omega) (by omega)
  have f2 : w64 ((-dx).tdiv g) = (-dx).tdiv g := w64_id (by omega) (by omega)
  have f3 : w64 (h.tdiv g) = h.tdiv g := w64_id (by omega) (by omega)
  have f4 : (h == 0) = false := beq_f (by omega)
  clear t1 t2 t3 q1 q2
  have u1 := dc_dg (digs h.natAbs)
  simp only [encI, iv, bv] at g1 g2 g4 g7 g8
  generalize digs h.natAbs = dh at *
  generalize decide (h < 0) = sh at *
  simp -implicitDefEqProofs (maxSteps := 10000000) only [convex_Norm, toDs, encP, cP, encD, cD, box3s, stcells, ldcells, cells_dg, one_dg', u1, g1, g2, g4, g7, g8, e1, e2, e3, e4, e5, e8, e9, f1, f2, f3, f4, Bool.not_true, Bool.not_false, go_sem, iv, bv, reduceCtorEq, ↓reduceIte, Nat.reduceEqDiff]


/-! ### Searching -/
section
variable {d : D} {O : List Eg} {f : Nat} {caps : List D} {p : Eg → Bool}
def ixE_st (d : D) (f : Nat) (caps : List D) (n i : Int) : St := mkS [(0, .d d), (1, .d (.fn f caps)), (7, ai n), (8, ai i)] []
theorem ixE_no (hr : RwE cG d O) (hn : O.length ≤ 1000000) {i : Nat} (hi : i < O.length) (hf : callX G f (encG (O.getD i default) :: caps) = some (.d (bv false))) : X G slices_IndexFunc_api_Edge_api_Edge_l0 (ixE_st d f caps O.length i) = some (.n, ixE_st d f caps O.length ((i + 1 : Nat) : Int)) := by
  have e1 : decide ((i : Int) < (O.length : Int)) = true := lt_t (by omega)
  have e2 : w64 ((i : Int) + 1) = ((i + 1 : Nat) : Int) := by rw [w64_id (by omega) (by omega)]; rfl
  have x1 := hr.ixa cG_len hi
  have x2 := fun hp => ldE cG_len hp hi
  generalize O.getD i default = e at *
  obtain ⟨⟨a, b, c⟩, t⟩ := e
  simp only [encG, cG, iv, bv] at hf x2
  simp -implicitDefEqProofs (maxSteps := 10000000) only [slices_IndexFunc_api_Edge_api_Edge_l0, ixE_st, x1, x2, e1, e2, hf, List.cons_append, List.nil_append, go_sem, iv, bv, reduceCtorEq, ↓reduceIte, Nat.reduceEqDiff]
theorem ixE_yes (hr : RwE cG d O) (hn : O.length ≤ 1000000) {i : Nat} (hi : i < O.length) (hf : callX G f (encG (O.getD i default) :: caps) = some (.d (bv true))) : X G slices_IndexFunc_api_Edge_api_Edge_l0 (ixE_st d f caps O.length i) = some (.r, mkS [(4, ai i)] []) := by
  have e1 : decide ((i : Int) < (O.length : Int)) = true := lt_t (by omega)
  have x1 := hr.ixa cG_len hi
  have x2 := fun hp => ldE cG_len hp hi
  generalize O.getD i default = e at *
  obtain ⟨⟨a, b, c⟩, t⟩ := e
  simp only [encG, cG, iv, bv] at hf x2
  simp -implicitDefEqProofs (maxSteps := 10000000) only [slices_IndexFunc_api_Edge_api_Edge_l0, ixE_st, x1, x2, e1, hf, List.cons_append, List.nil_append, go_sem, iv, bv, reduceCtorEq, ↓reduceIte, Nat.reduceEqDiff]
theorem ixE_stop : X G slices_IndexFunc_api_Edge_api_Edge_l0 (ixE_st d f caps O.length O.length) = some (.x 0, mkS [] []) := by
  have e1 : decide ((O.length : Int) < (O.length : Int)) = false := lt_f (by omega)
  simp -implicitDefEqProofs (maxSteps := 10000000) only [slices_IndexFunc_api_Edge_api_Edge_l0, ixE_st, e1, go_sem, iv, bv, reduceCtorEq, ↓reduceIte, Nat.reduceEqDiff]
/-- The place of the first that has it, from i on; -1 if none has. -/
theorem ixE_loop (hr : RwE cG d O) (hn : O.length ≤ 1000000) (hf : ∀ i, i < O.length → callX G f (encG (O.getD i default) :: caps) = some (.d (bv (p (O.getD i default))))) : ∀ j i : Nat, i + j = O.length →
    X G (.loop slices_IndexFunc_api_Edge_api_Edge_l0) (ixE_st d f caps O.length i) = (if fiE p O j i = -1 then some (.x 0, mkS [] []) else some (.r, mkS [(4, ai (fiE p O j i))] []))
  | 0, i, h => by
    have : i = O.length := by omega
    subst this
    rw [X_loop, ixE_stop]; rfl
  | j + 1, i, h => by
    have hi : i < O.length := by omega
    have hh := hf i hi
    rw [fiE]
    cases hp : p (O.getD i default) with
    | true =>
      rw [hp] at hh
      rw [X_loop, ixE_yes hr hn hi hh, if_pos rfl, if_neg (by omega)]; rfl
    | false =>
      rw [hp] at hh
      simp only [Bool.false_eq_true, if_false]
      rw [X_loop, ixE_no hr hn hi hh, Option.bind_some, if_pos rfl]
      exact ixE_loop hr hn hf j (i + 1) (by omega)
theorem IndexE_spec (hr : RwE cG d O) (hn : O.length ≤ 1000000) (hf : ∀ i, i < O.length → callX G f (encG (O.getD i default) :: caps) = some (.d (bv (p (O.getD i default))))) : callX G n_slices_IndexFunc_api_Edge_api_Edge [d, .fn f caps] = some (.d (iv (fiE p O O.length 0))) := by
  rw [callX_eq (cf := slices_IndexFunc_api_Edge_api_Edge) rfl]
  have ll := hr.len
  have h := ixE_loop hr hn hf O.length 0 (by omega)
  simp only [ixE_st, go_sem, nc0] at h
  generalize fiE p O O.length 0 = z at *
  by_cases hz : z = -1
  · subst hz
    simp only [if_true] at h
    simp -implicitDefEqProofs (maxSteps := 10000000) only [slices_IndexFunc_api_Edge_api_Edge, h, ll, go_sem, iv, bv, reduceCtorEq, ↓reduceIte, Nat.reduceEqDiff]
  · rw [if_neg hz] at h
    simp -implicitDefEqProofs (maxSteps := 10000000) only [slices_IndexFunc_api_Edge_api_Edge, h, ll, go_sem, iv, bv, reduceCtorEq, ↓reduceIte, Nat.reduceEqDiff]
end
theorem ContE_spec {d : D} {O : List Eg} {f : Nat} {caps : List D} {p : Eg → Bool} (hr : RwE cG d O) (hn : O.length ≤ 1000000) (hf : ∀ i, i < O.length → callX G f (encG (O.getD i default) :: caps) = some (.d (bv (p (O.getD i default))))) : callX G n_slices_ContainsFunc_api_Edge_api_Edge [d, .fn f caps] = some (.d (bv (O.any p))) := by
  rw [callX_eq (cf := slices_ContainsFunc_api_Edge_api_Edge) rfl]
  have g := IndexE_spec hr hn hf
  have e1 := fiE_any p O O.length 0 (by omega)
  rw [List.drop_zero] at e1
  generalize fiE p O O.length 0 = z at *
  generalize O.any p = t at *
  simp only [iv] at g
  simp -implicitDefEqProofs (maxSteps := 10000000) only [slices_ContainsFunc_api_Edge_api_Edge, g, e1, go_sem, iv, bv, reduceCtorEq, ↓reduceIte, Nat.reduceEqDiff]
theorem Sides11_spec (e : Eg) (d : Dr) : callX G n_convex_Sides_1_1 [encG e, .rp (cD d)] = some (.d (bv (eqDr e.1 d))) := by
  rw [callX_eq (cf := convex_Sides_1_1) rfl]
  obtain ⟨⟨a, b, c⟩, t⟩ := e
  obtain ⟨x, y, z⟩ := d
  have e3 := eqD3 a b c x y z
  unfold eqDr
  dsimp only
  obtain ⟨q, hq⟩ : ∃ q, ((a == x) && ((b == y) && (c == z))) = q := ⟨_, rfl⟩
  rw [hq] at e3 ⊢
  have l1 : ∀ h : Hp, ldcells (some 3) 0 [.d (iv a), .d (iv b), .d (iv c), .d (iv t)] = some (.d (.agg [iv a, iv b, iv c])) := fun _ => rfl
  have l2 := l1 hp0
  simp only [iv] at l2
  simp -implicitDefEqProofs (maxSteps := 10000000) only [convex_Sides_1_1, encG, cG, cD, e3, hq, l2, ldrp3, go_sem, iv, bv, reduceCtorEq, ↓reduceIte, Nat.reduceEqDiff]
end Go.AM

/- convex.Sides. -/
namespace Go.AM
open Go Go.RowKit

theorem eqDr_iff {a b : Dr} : eqDr a b = true ↔ a = b := by
  obtain ⟨x, y, z⟩ := a
  obtain ⟨p, q, r⟩ := b
  simp [eqDr]
def cadd (a b : List Pt) (O : List Eg) (d : Dr) : List Eg := if O.any (fun e => eqDr e.1 d) then O else O ++ [edP a b d]
theorem frI_any {ds : List Dr} {i : Nat} (hi : i < ds.length) : ∀ k, k ≤ i → frI ds i k = !((ds.take k).any fun x => eqDr x (ds.getD i default))
  | 0, _ => by simp [frI]
  | k + 1, hk => by
    rw [frI, frI_any hi k (by omega), List.take_add_one, List.any_append, Bool.not_or]
    congr 1
    rw [List.getElem?_eq_getElem (by omega), List.getD_eq_getElem?_getD (i := k), List.getElem?_eq_getElem (by omega)]
    simp
theorem sdO_any (a b : List Pt) {ds : List Dr} (d : Dr) : ∀ i, i ≤ ds.length → (sdO a b ds i).any (fun e => eqDr e.1 d) = (ds.take i).any fun x => eqDr x d
  | 0, _ => by simp [sdO]
  | i + 1, hi => by
    have ih := sdO_any a b (ds := ds) d i (by omega)
    have e1 : ds.take (i + 1) = ds.take i ++ [ds.getD i default] := by
      rw [List.take_add_one, List.getElem?_eq_getElem (by omega), List.getD_eq_getElem?_getD, List.getElem?_eq_getElem (by omega)]; rfl
    rw [sdO, e1, List.any_append]
    have hf := frI_any (ds := ds) (i := i) (by omega) i (Nat.le_refl _)
    split
    · rw [List.any_append, ih]; rfl
    · rename_i hc
      rw [ih]
      have h2 : ((ds.take i).any fun x => eqDr x (ds.getD i default)) = true := by
        rw [hf] at hc; simpa using hc
      cases h3 : eqDr (ds.getD i default) d with
      | false => rw [List.any_cons, List.any_nil, Bool.or_false, h3, Bool.or_false]
      | true =>
        rw [eqDr_iff] at h3
        rw [h3] at h2
        rw [h2]; rfl
theorem cadd_sdO (a b : List Pt) (ds : List Dr) {i : Nat} (hi : i < ds.length) : cadd a b (sdO a b ds i) (ds.getD i default) = sdO a b ds (i + 1) := by
  unfold cadd
  rw [sdO_any a b _ i (by omega), sdO, frI_any hi i (Nat.le_refl _)]
  cases ((ds.take i).any fun x => eqDr x (ds.getD i default)) <;> simp
theorem drs_at_a {a b : List Pt} {i : Nat} (hi : i < a.length) : (drs a b).getD i default = sdN a i := by
  unfold drs
  rw [List.getD_eq_getElem?_getD, List.getElem?_append_left (by rw [drA_len]; exact hi)]
  simp [drA, hi]
theorem drs_at_b {a b : List Pt} {i : Nat} (hi : i < b.length) : (drs a b).getD (a.length + i) default = tnD (sdN b i) := by
  unfold drs
  rw [List.getD_eq_getElem?_getD, List.getElem?_append_right (by rw [drA_len]; omega), drA_len, Nat.add_sub_cancel_left]
  simp [drB, hi]
def gO (O : List Eg) : A := if O = [] then .d (.z true) else .own [21, 0] O.length
def hO (O : List Eg) : List (Key × Obj) := if O = [] then [] else [([21, 0], arE cG 4 O.length O)]
def bxA (x : A) : Obj := ⟨0, 0, [x], false⟩
theorem gO_nil : gO [] = .d (.z true) := rfl
theorem hO_nil : hO [] = [] := rfl
theorem gO_ne {O : List Eg} (h : O ≠ []) : gO O = .own [21, 0] O.length := if_neg h
theorem hO_ne {O : List Eg} (h : O ≠ []) : hO O = [([21, 0], arE cG 4 O.length O)] := if_neg h
theorem gO_snoc (O : List Eg) (e : Eg) : gO (O ++ [e]) = .own [21, 0] (O.length + 1) := by rw [gO_ne (by simp)]; simp
theorem hO_snoc (O : List Eg) (e : Eg) : hO (O ++ [e]) = [([21, 0], arE cG 4 (O.length + 1) (O ++ [e]))] := by rw [hO_ne (by simp)]; simp
def clo : A := .fn n_convex_Sides_1 [.ptr [5] 0, .ptr [2] 0, .ptr [3] 0]
def cs1_st (da db : D) (O : List Eg) (n i : Int) : St := mkS [(2, .ptr [2] 0), (3, .ptr [3] 0), (5, .ptr [5] 0), (6, clo), (15, ai n), (16, ai i)] ([([2], bxA (.d da)), ([3], bxA (.d db)), ([5], bxA (gO O))] ++ hO O)
def cs1_en (da db : D) (O : List Eg) : St := mkS [(3, .ptr [3] 0), (5, .ptr [5] 0), (6, clo)] ([([2], bxA (.d da)), ([3], bxA (.d db)), ([5], bxA (gO O))] ++ hO O)
def cs3_st (da db : D) (O : List Eg) (n i : Int) : St := mkS [(3, .ptr [3] 0), (5, .ptr [5] 0), (6, clo), (35, ai n), (36, ai i)] ([([2], bxA (.d da)), ([3], bxA (.d db)), ([5], bxA (gO O))] ++ hO O)
def cs3_en (O : List Eg) : St := mkS [(5, .ptr [5] 0)] ([([5], bxA (gO O))] ++ hO O)
theorem ld1c (a : A) : ldcells none 0 [a] = some a := rfl
theorem st1c (a b : A) : stcells 0 [a] [b] = some [a] := rfl
theorem hold2 : convex_Sides_i2.holds [[2], [3], [5], [21, 0]] = true := by decide

variable [Its]
/-- What the closure's call needs. -/
structure AdF (da db : D) (a b : List Pt) (O : List Eg) (d : Dr) : Prop where
  co : callX G n_slices_ContainsFunc_api_Edge_api_Edge [dE cG O, .fn n_convex_Sides_1_1 [.rp (cD d)]] = some (.d (bv (O.any fun e => eqDr e.1 d)))
  m1 : callX G n_convex_Most [da, encD d] = some (.d (iv (moP d a)))
  tn : callX G n_convex_turned [encD d] = some (.d (encD (tnD d)))
  m2 : callX G n_convex_Most [db, encD (tnD d)] = some (.d (iv (moP (tnD d) b)))
  wr : w64 (moP d a + moP (tnD d) b) = moP d a + moP (tnD d) b
theorem adF {da db : D} {a b : List Pt} (hra : RwE cP da a) (hrb : RwE cP db b) (ha : GdS a) (hb : GdS b) {O : List Eg} (hO : O.length ≤ 1000) {d : Dr} (hd : NmD d) : AdF da db a b O d := by
  refine ⟨ContE_spec (dE_ok O) (by omega) (fun i hi => Sides11_spec _ _), cMost_spec hra ha.pos ha.sm hd.sm (by have := ha.le; omega), turned_spec hd.sm, cMost_spec hrb hb.pos hb.sm hd.tn.sm (by have := hb.le; omega), ?_⟩
  have m1 : -20000000000000000 ≤ moP d a ∧ moP d a ≤ 20000000000000000 := mstN_b hd ha.sm _
  have m2 : -20000000000000000 ≤ moP (tnD d) b ∧ moP (tnD d) b ≤ 20000000000000000 := mstN_b hd.tn hb.sm _
  exact w64_id (by omega) (by omega)
theorem cs1_go {da db : D} {a b : List Pt} (hra : RwE cP da a) (hrb : RwE cP db b) (ha : GdS a) (hb : GdS b) {O : List Eg} (hOl : O.length ≤ 1000) {i : Nat} (hi : i < a.length) :
    X G convex_Sides_l1 (cs1_st da db O a.length i) = some (.n, cs1_st da db (cadd a b O (sdN a i)) a.length ((i + 1 : Nat) : Int)) := by
  have hle := ha.le
  have e1 : decide ((i : Int) < (a.length : Int)) = true := lt_t (by omega)
  have e2 : w64 ((i : Int) + 1) = ((i + 1 : Nat) : Int) := by rw [w64_id (by omega) (by omega)]; rfl
  have x1 := hra.ixa cP_len hi
  have x2 := fun hp => ldE cP_len hp hi
  have g1 := cnext_spec hra hi (by omega)
  have hp := getD_all ha.sm smP0 i
  have hn : SmP (nxP a i) := by unfold nxP; split <;> exact getD_all ha.sm smP0 _
  have g2 := cNorm_spec (h := sdh a i) hp hn (ha.sq i hi).1 (ha.sq i hi).2
  have e3 : nrP ((nxP a i).1 - (a.getD i default).1) ((nxP a i).2 - (a.getD i default).2) (sdh a i) = sdN a i := rfl
  rw [e3] at g2
  obtain ⟨f1, f2, f3, f4, f5⟩ := adF hra hrb ha hb hOl (ha.nm i hi)
  have hO0 : ∀ h : O = [], (O.any fun e => eqDr e.1 (sdN a i)) = false := fun h => by rw [h]; rfl
  unfold cadd edP
  obtain ⟨t, ht⟩ : ∃ t, (O.any fun e => eqDr e.1 (sdN a i)) = t := ⟨_, rfl⟩
  rw [ht] at f1 hO0 ⊢
  obtain ⟨z, hz⟩ : ∃ z, moP (sdN a i) a + moP (tnD (sdN a i)) b = z := ⟨_, rfl⟩
  rw [hz] at f5 ⊢
  generalize moP (sdN a i) a = z1 at *
  generalize moP (tnD (sdN a i)) b = z2 at *
  have f5' : w64 (z1 + z2) = z := by rw [hz]; exact f5
  clear f5 hz ht
  simp only [encP, cP, encD, cD, iv, bv] at x2 g1 g2 f1 f2 f3 f4
  generalize (nxP a i).1 = n1 at *
  generalize (nxP a i).2 = n2 at *
  generalize (a.getD i default).1 = p1 at *
  generalize (a.getD i default).2 = p2 at *
  clear e3 hp hn
  generalize tnD (sdN a i) = v2 at *
  generalize sdN a i = v at *
  obtain ⟨u1, u2, u3⟩ := v
  obtain ⟨y1, y2, y3⟩ := v2
  dsimp only at g2 f1 f2 f3 f4
  have c1 := hra.cell
  have c2 := hrb.cell
  by_cases h0 : O = []
  · have := hO0 h0
    subst this
    subst h0
    have fq : dE cG ([] : List Eg) = .z true := rfl
    rw [fq] at f1
    rw [if_neg (by simp)]
    have hq : ([((u1, u2, u3), z)] : List Eg) ≠ [] := by simp
    simp -implicitDefEqProofs (maxSteps := 10000000) only [convex_Sides_l1, convex_Sides_i0, cs1_st, clo, bxA, gO_nil, hO_nil, gO_ne hq, hO_ne hq, List.nil_append, List.cons_append, List.append_nil, C.holds, c1, c2, x1, x2, g1, g2, f1, f2, f3, f4, f5', e1, e2, hupdO_none, arE, flat1G, b32, b32', rep1_4, oneI, srcS, src, allD, snap, snapH, fillB, partsB, ld1c, st1c, ld3p, box3s, Bool.not_true, Bool.not_false, List.map_cons, List.map_nil, List.length_nil, List.length_cons, Nat.zero_add, List.cons.injEq, go_sem, iv, bv, reduceCtorEq, ↓reduceIte, Nat.reduceEqDiff]
  · have n3 := lenE cG_len O
    have n4 := bnd4 hOl
    have fq : dE cG O = .row O.length (O.flatMap cG) := if_neg h0
    rw [fq] at f1
    cases t with
    | true =>
      rw [if_pos rfl]
      simp -implicitDefEqProofs (maxSteps := 10000000) only [convex_Sides_l1, convex_Sides_i0, cs1_st, clo, bxA, gO_ne h0, hO_ne h0, List.nil_append, List.cons_append, List.append_nil, C.holds, c1, c2, x1, x2, g1, g2, f1, f2, f3, f4, f5', e1, e2, hupdO_none, arE, refsL_E, allD_E, n3, n4, rep1_4, oneI, srcS, src, allD, snap, snapH, fillB, partsB, ld1c, st1c, ld3p, box3s, Bool.not_true, Bool.not_false, List.map_cons, List.map_nil, List.length_nil, List.length_cons, Nat.zero_add, List.cons.injEq, go_sem, iv, bv, reduceCtorEq, ↓reduceIte, Nat.reduceEqDiff]
    | false =>
      rw [if_neg (by simp)]
      simp -implicitDefEqProofs (maxSteps := 10000000) only [convex_Sides_l1, convex_Sides_i0, cs1_st, clo, bxA, gO_ne h0, hO_ne h0, gO_snoc, hO_snoc, cG_snoc, List.nil_append, List.cons_append, List.append_nil, C.holds, c1, c2, x1, x2, g1, g2, f1, f2, f3, f4, f5', e1, e2, hupdO_none, arE, refsL_E, allD_E, n3, n4, rep1_4, oneI, srcS, src, allD, snap, snapH, fillB, partsB, ld1c, st1c, ld3p, box3s, Bool.not_true, Bool.not_false, List.map_cons, List.map_nil, List.length_nil, List.length_cons, Nat.zero_add, List.all_cons, List.all_nil, List.cons.injEq, go_sem, iv, bv, reduceCtorEq, ↓reduceIte, Nat.reduceEqDiff]
theorem cs3_go {da db : D} {a b : List Pt} (hra : RwE cP da a) (hrb : RwE cP db b) (ha : GdS a) (hb : GdS b) {O : List Eg} (hOl : O.length ≤ 1000) {i : Nat} (hi : i < b.length) :
    X G convex_Sides_l3 (cs3_st da db O b.length i) = some (.n, cs3_st da db (cadd a b O (tnD (sdN b i))) b.length ((i + 1 : Nat) : Int)) := by
  have hle := hb.le
  have e1 : decide ((i : Int) < (b.length : Int)) = true := lt_t (by omega)
  have e2 : w64 ((i : Int) + 1) = ((i + 1 : Nat) : Int) := by rw [w64_id (by omega) (by omega)]; rfl
  have x1 := hrb.ixa cP_len hi
  have x2 := fun hp => ldE cP_len hp hi
  have g1 := cnext_spec hrb hi (by omega)
  have hp := getD_all hb.sm smP0 i
  have hn : SmP (nxP b i) := by unfold nxP; split <;> exact getD_all hb.sm smP0 _
  have g2 := cNorm_spec (h := sdh b i) hp hn (hb.sq i hi).1 (hb.sq i hi).2
  have e3 : nrP ((nxP b i).1 - (b.getD i default).1) ((nxP b i).2 - (b.getD i default).2) (sdh b i) = sdN b i := rfl
  rw [e3] at g2
  have g3 := turned_spec (hb.nm i hi).sm
  obtain ⟨f1, f2, f3, f4, f5⟩ := adF hra hrb ha hb hOl (hb.nm i hi).tn
  have hO0 : ∀ h : O = [], (O.any fun e => eqDr e.1 (tnD (sdN b i))) = false := fun h => by rw [h]; rfl
  unfold cadd edP
  obtain ⟨t, ht⟩ : ∃ t, (O.any fun e => eqDr e.1 (tnD (sdN b i))) = t := ⟨_, rfl⟩
  rw [ht] at f1 hO0 ⊢
  obtain ⟨z, hz⟩ : ∃ z, moP (tnD (sdN b i)) a + moP (tnD (tnD (sdN b i))) b = z := ⟨_, rfl⟩
  rw [hz] at f5 ⊢
  generalize moP (tnD (sdN b i)) a = z1 at *
  generalize moP (tnD (tnD (sdN b i))) b = z2 at *
  have f5' : w64 (z1 + z2) = z := by rw [hz]; exact f5
  clear f5 hz ht
  simp only [encP, cP, encD, cD, iv, bv] at x2 g1 g2 g3 f1 f2 f3 f4
  generalize (nxP b i).1 = n1 at *
  generalize (nxP b i).2 = n2 at *
  generalize (b.getD i default).1 = p1 at *
  generalize (b.getD i default).2 = p2 at *
  clear e3 hp hn
  generalize tnD (tnD (sdN b i)) = v2 at *
  generalize tnD (sdN b i) = v at *
  generalize sdN b i = v0 at *
  obtain ⟨o1, o2, o3⟩ := v0
  obtain ⟨u1, u2, u3⟩ := v
  obtain ⟨y1, y2, y3⟩ := v2
  dsimp only at g2 g3 f1 f2 f3 f4
  have c1 := hra.cell
  have c2 := hrb.cell
  by_cases h0 : O = []
  · have := hO0 h0
    subst this
    subst h0
    have fq : dE cG ([] : List Eg) = .z true := rfl
    rw [fq] at f1
    rw [if_neg (by simp)]
    have hq : ([((u1, u2, u3), z)] : List Eg) ≠ [] := by simp
    simp -implicitDefEqProofs (maxSteps := 10000000) only [convex_Sides_l3, convex_Sides_i2, cs3_st, clo, bxA, gO_nil, hO_nil, gO_ne hq, hO_ne hq, List.nil_append, List.cons_append, List.append_nil, C.holds, c1, c2, x1, x2, g1, g2, g3, f1, f2, f3, f4, f5', e1, e2, hupdO_none, arE, flat1G, b32, b32', rep1_4, oneI, srcS, src, allD, snap, snapH, fillB, partsB, ld1c, st1c, ld3p, box3s, Bool.not_true, Bool.not_false, List.map_cons, List.map_nil, List.length_nil, List.length_cons, Nat.zero_add, List.cons.injEq, go_sem, iv, bv, reduceCtorEq, ↓reduceIte, Nat.reduceEqDiff]
  · have n3 := lenE cG_len O
    have n4 := bnd4 hOl
    have fq : dE cG O = .row O.length (O.flatMap cG) := if_neg h0
    rw [fq] at f1
    cases t with
    | true =>
      rw [if_pos rfl]
      simp -implicitDefEqProofs (maxSteps := 10000000) only [convex_Sides_l3, convex_Sides_i2, cs3_st, clo, bxA, gO_ne h0, hO_ne h0, List.nil_append, List.cons_append, List.append_nil, C.holds, c1, c2, x1, x2, g1, g2, g3, f1, f2, f3, f4, f5', e1, e2, hupdO_none, arE, refsL_E, allD_E, n3, n4, rep1_4, oneI, srcS, src, allD, snap, snapH, fillB, partsB, ld1c, st1c, ld3p, box3s, Bool.not_true, Bool.not_false, List.map_cons, List.map_nil, List.length_nil, List.length_cons, Nat.zero_add, List.cons.injEq, go_sem, iv, bv, reduceCtorEq, ↓reduceIte, Nat.reduceEqDiff]
    | false =>
      rw [if_neg (by simp)]
      simp -implicitDefEqProofs (maxSteps := 10000000) only [convex_Sides_l3, convex_Sides_i2, cs3_st, clo, bxA, gO_ne h0, hO_ne h0, gO_snoc, hO_snoc, cG_snoc, List.nil_append, List.cons_append, List.append_nil, C.holds, c1, c2, x1, x2, g1, g2, g3, f1, f2, f3, f4, f5', e1, e2, hupdO_none, arE, refsL_E, allD_E, n3, n4, rep1_4, oneI, srcS, src, allD, snap, snapH, fillB, partsB, ld1c, st1c, ld3p, box3s, Bool.not_true, Bool.not_false, List.map_cons, List.map_nil, List.length_nil, List.length_cons, Nat.zero_add, List.all_cons, List.all_nil, List.cons.injEq, go_sem, iv, bv, reduceCtorEq, ↓reduceIte, Nat.reduceEqDiff]
theorem cs1_stop {da db : D} {a b : List Pt} (hra : RwE cP da a) (hrb : RwE cP db b) {O : List Eg} : X G convex_Sides_l1 (cs1_st da db O a.length a.length) = some (.x 0, cs1_en da db O) := by
  have e1 : decide ((a.length : Int) < (a.length : Int)) = false := lt_f (by omega)
  by_cases h0 : O = []
  · subst h0
    simp -implicitDefEqProofs (maxSteps := 10000000) only [convex_Sides_l1, cs1_st, cs1_en, clo, bxA, gO_nil, hO_nil, List.nil_append, List.cons_append, List.append_nil, e1, hupdO_none, arE, refsL_E, List.cons.injEq, go_sem, iv, bv, reduceCtorEq, ↓reduceIte, Nat.reduceEqDiff]
  · simp -implicitDefEqProofs (maxSteps := 10000000) only [convex_Sides_l1, cs1_st, cs1_en, clo, bxA, gO_ne h0, hO_ne h0, List.nil_append, List.cons_append, List.append_nil, e1, hupdO_none, arE, refsL_E, List.cons.injEq, go_sem, iv, bv, reduceCtorEq, ↓reduceIte, Nat.reduceEqDiff]
theorem cs3_stop {da db : D} {b : List Pt} {O : List Eg} : X G convex_Sides_l3 (cs3_st da db O b.length b.length) = some (.x 2, cs3_en O) := by
  have e1 : decide ((b.length : Int) < (b.length : Int)) = false := lt_f (by omega)
  by_cases h0 : O = []
  · subst h0
    simp -implicitDefEqProofs (maxSteps := 10000000) only [convex_Sides_l3, cs3_st, cs3_en, clo, bxA, gO_nil, hO_nil, List.nil_append, List.cons_append, List.append_nil, e1, hupdO_none, arE, refsL_E, List.cons.injEq, go_sem, iv, bv, reduceCtorEq, ↓reduceIte, Nat.reduceEqDiff]
  · simp -implicitDefEqProofs (maxSteps := 10000000) only [convex_Sides_l3, cs3_st, cs3_en, clo, bxA, gO_ne h0, hO_ne h0, List.nil_append, List.cons_append, List.append_nil, e1, hupdO_none, arE, refsL_E, List.cons.injEq, go_sem, iv, bv, reduceCtorEq, ↓reduceIte, Nat.reduceEqDiff]
theorem cs1_loop {da db : D} {a b : List Pt} (hra : RwE cP da a) (hrb : RwE cP db b) (ha : GdS a) (hb : GdS b) : ∀ (j i : Nat), i + j = a.length → X G (.loop convex_Sides_l1) (cs1_st da db (sdO a b (drs a b) i) a.length i) = some (.x 0, cs1_en da db (sdO a b (drs a b) a.length))
  | 0, i, h => by
    have : i = a.length := by omega
    subst this
    rw [X_loop, cs1_stop hra hrb]; rfl
  | j + 1, i, h => by
    have hi : i < a.length := by omega
    have hl := drs_len a b
    have hc := cadd_sdO a b (drs a b) (i := i) (by omega)
    rw [drs_at_a hi] at hc
    rw [X_loop, cs1_go hra hrb ha hb (by have := sdO_len a b (drs a b) i; have := ha.le; omega) hi, Option.bind_some, if_pos rfl, hc]
    exact cs1_loop hra hrb ha hb j (i + 1) (by omega)
theorem cs3_loop {da db : D} {a b : List Pt} (hra : RwE cP da a) (hrb : RwE cP db b) (ha : GdS a) (hb : GdS b) : ∀ (j i : Nat), i + j = b.length → X G (.loop convex_Sides_l3) (cs3_st da db (sdO a b (drs a b) (a.length + i)) b.length i) = some (.x 2, cs3_en (sdP a b))
  | 0, i, h => by
    have hl := drs_len a b
    have : i = b.length := by omega
    subst this
    have e : sdO a b (drs a b) (a.length + b.length) = sdP a b := by unfold sdP; rw [hl]
    rw [X_loop, cs3_stop, e]; rfl
  | j + 1, i, h => by
    have hi : i < b.length := by omega
    have hl := drs_len a b
    have hc := cadd_sdO a b (drs a b) (i := a.length + i) (by omega)
    rw [drs_at_b hi] at hc
    rw [X_loop, cs3_go hra hrb ha hb (by have := sdO_len a b (drs a b) (a.length + i); have := ha.le; have := hb.le; omega) hi, Option.bind_some, if_pos rfl, hc]
    exact cs3_loop hra hrb ha hb j (i + 1) (by omega)
theorem cSides_spec {da db : D} {a b : List Pt} (hra : RwE cP da a) (hrb : RwE cP db b) (ha : GdS a) (hb : GdS b) : callX G n_convex_Sides [da, db] = some (.own 4 (sdP a b).length ((sdP a b).flatMap cG)) := by
  rw [callX_eq (cf := convex_Sides) rfl]
  have g1 := cs1_loop hra hrb ha hb a.length 0 (by omega)
  have g3 := cs3_loop hra hrb ha hb b.length 0 (by omega)
  have hne := sdP_ne (b := b) ha
  have e0 : sdO a b (drs a b) 0 = [] := rfl
  rw [e0] at g1
  rw [Nat.add_zero] at g3
  have l1 := hra.len
  have l2 := hrb.len
  have c1 := hra.cell
  have c2 := hrb.cell
  have o1 := hra.onec
  have o2 := hrb.onec
  generalize sdP a b = O at *
  generalize hO1 : sdO a b (drs a b) a.length = O1 at *
  have hne1 : O1 ≠ [] := by
    rw [← hO1]
    have key : ∀ n, 0 < n → sdO a b (drs a b) n ≠ [] := by
      intro n
      induction n with
      | zero => intro h; omega
      | succ n ih =>
        intro _
        rw [sdO]
        by_cases hn : 0 < n
        · split
          · simp
          · exact ih hn
        · have : n = 0 := by omega
          subst this
          simp [frI]
    exact key _ ha.pos
  clear hO1
  simp only [cs1_st, cs1_en, clo, bxA, gO_nil, hO_nil, gO_ne hne1, hO_ne hne1, arE, List.nil_append, List.cons_append, List.append_nil, hupdO_none, go_sem, nc0, iv] at g1
  simp only [cs3_st, cs3_en, clo, bxA, gO_ne hne1, hO_ne hne1, gO_ne hne, hO_ne hne, arE, List.nil_append, List.cons_append, List.append_nil, hupdO_none, go_sem, nc0, iv] at g3
  simp -implicitDefEqProofs (maxSteps := 10000000) only [convex_Sides, g1, g3, l1, l2, c1, c2, o1, o2, refsL_E, allD_E, allD, ld1c, hupdO_none, List.cons_append, List.nil_append, List.map_cons, List.map_nil, List.cons.injEq, go_sem, iv, bv, reduceCtorEq, ↓reduceIte, Nat.reduceEqDiff]
end Go.AM

