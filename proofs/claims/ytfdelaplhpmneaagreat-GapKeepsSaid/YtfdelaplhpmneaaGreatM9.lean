/- Part 9 of the proof: a small machine, its soundness against the model, and what the program's functions compute on it. -/
import Derived.Test.YtfdelaplhpmneaaGreatM8
import Derived.Test.YtfdelaplhpmneaaGreatM7
set_option linter.unusedVariables false
set_option linter.unusedSimpArgs false
/- ref04.Gcd -/
namespace Go.AM
open Go Go.RowKit
variable [Its]

def QsK (m n : Nat) : St := mkS [(4, .ptr [4] 0), (7, ai m), (8, ai n)] [([4], box0)]
def rg_en (m : Nat) : St := mkS [(4, .ptr [4] 0), (7, ai m)] [([4], box0)]
theorem rg_ints : ∀ (n m : Nat), m < 1000000000000000000 → n < 1000000000000000000 → X G (.loop Qcq) (QsK m n) = some (.x 2, rg_en (Nat.gcd m n)) := by
  intro n
  induction n using Nat.strongRecOn with
  | _ n ih =>
  intro m hm hn
  rw [Qak]
  by_cases h0 : n = 0
  · subst h0
    have e1 : decide (((0 : Nat) : Int) > 0) = false := rfl
    rw [Nat.gcd_zero_right]
    simp -implicitDefEqProofs (maxSteps := 10000000) only [Qcq, QsK, rg_en, box0, go_sem, iv, bv, reduceCtorEq, ↓reduceIte, Nat.reduceEqDiff]
    rfl
  · have e1 : decide ((n : Int) > 0) = true := gt_t (by omega)
    have e2 := Qix (b := (n : Int)) (by omega)
    have e3 := QcF (a := (m : Int)) (b := (n : Int)) (by omega)
    have e4 : (m : Int) % (n : Int) = ((m % n : Nat) : Int) := rfl
    have hlt : m % n < n := Nat.mod_lt _ (by omega)
    have hx : X G Qcq (QsK m n) = some (.n, QsK n (m % n)) := by
      simp -implicitDefEqProofs (maxSteps := 10000000) only [Qcq, QsK, rg_en, box0, go_sem, iv, bv, e1, e2, e3, e4, reduceCtorEq, ↓reduceIte, Nat.reduceEqDiff]
    rw [hx, Option.bind_some, if_pos rfl, ih (m % n) hlt n hn (by omega), Qka]

theorem rg_loop : ∀ (b a : Nat), (digs a).length ≤ 1000000000000 → (digs b).length ≤ 999999999999 →
    X G (.loop Qbd) (Qfn a b) = some (.x 0, Qsc (Nat.gcd a b)) ∨ X G (.loop Qbd) (Qfn a b) = some (.r, Qgn (Nat.gcd a b)) := by
  intro b
  induction b using Nat.strongRecOn with
  | _ b ih =>
  intro a ha hb
  have la := QaN (digs a)
  have lb := QaN (digs b)
  by_cases h0 : b = 0
  · subst h0
    have e1 : decide (((digs 0).length : Int) > 0) = false := by rw [QaD]; rfl
    refine .inl ?_
    rw [Nat.gcd_zero_right, Qak]
    simp -implicitDefEqProofs (maxSteps := 10000000) only [Qbd, Qfn, Qsc, box0, boxI, go_sem, Qae, Qaa, iv, bv, e1, la, lb, reduceCtorEq, ↓reduceIte, Nat.reduceEqDiff]
  · have e1 : decide (((digs b).length : Int) > 0) = true := gt_t (by have := digs_length_pos.2 (Nat.pos_of_ne_zero h0); omega)
    by_cases h1 : (digs a).length ≤ 2 ∧ (digs b).length ≤ 2
    · have t1 := Qia (Rw.dg (digs a)) (Qas a) h1.1
      have t2 := Qia (Rw.dg (digs b)) (Qas b) h1.2
      rw [QaB] at t1 t2
      simp only [iv, bv] at t1 t2
      have d1 : decide (((digs a).length : Int) ≤ 2) = true := le_t (by omega)
      have d2 : decide (((digs b).length : Int) ≤ 2) = true := le_t (by omega)
      have s1 := Qd7 h1.1
      have s2 := Qd7 h1.2
      have g1 := rg_ints b a s1 s2
      have hg : Nat.gcd a b ≤ b := Nat.gcd_le_right _ (Nat.pos_of_ne_zero h0)
      have u1 := Qdv (n := ((Nat.gcd a b : Nat) : Int)) ⟨by omega, by omega⟩
      rw [Qbe] at u1
      simp only [QsK, rg_en, box0, go_sem] at g1
      simp only [iv] at u1
      refine .inr ?_
      rw [Qak]
      simp -implicitDefEqProofs (maxSteps := 10000000) only [Qbd, Qfn, Qgn, box0, boxI, go_sem, Qae, Qaa, iv, bv, e1, la, lb, d1, d2, t1, t2, g1, u1, reduceCtorEq, ↓reduceIte, Nat.reduceEqDiff]
    · have td := Qik (x := (a : Int)) (y := (b : Int)) (by omega) (by rw [QgX]; exact ha) (by rw [QgX]; exact hb)
      have e3 : (a : Int) / (b : Int) = ((a / b : Nat) : Int) := rfl
      have e4 : (a : Int) % (b : Int) = ((a % b : Nat) : Int) := rfl
      rw [e3, e4, Qbe, Qbe, Qbe, Qbe] at td
      have hlt : a % b < b := Nat.mod_lt _ (Nat.pos_of_ne_zero h0)
      have hx : X G Qbd (Qfn a b) = some (.n, Qfn b (a % b)) := by
        by_cases h2 : (digs a).length ≤ 2
        · have h3 : ¬ (digs b).length ≤ 2 := fun h => h1 ⟨h2, h⟩
          have d1 : decide (((digs a).length : Int) ≤ 2) = true := le_t (by omega)
          have d2 : decide (((digs b).length : Int) ≤ 2) = false := le_f (by omega)
          simp -implicitDefEqProofs (maxSteps := 10000000) only [Qbd, Qfn, Qgn, box0, boxI, go_sem, Qae, Qaa, iv, bv, e1, la, lb, d1, d2, td, QbG, ne_eq, not_false_eq_true, reduceCtorEq, ↓reduceIte, Nat.reduceEqDiff]
        · have d1 : decide (((digs a).length : Int) ≤ 2) = false := le_f (by omega)
          simp -implicitDefEqProofs (maxSteps := 10000000) only [Qbd, Qfn, Qgn, box0, boxI, go_sem, Qae, Qaa, iv, bv, e1, la, lb, d1, td, QbG, ne_eq, not_false_eq_true, reduceCtorEq, ↓reduceIte, Nat.reduceEqDiff]
      have hr := ih (a % b) hlt b (by omega) (Nat.le_trans (Qbp (Nat.le_of_lt hlt)) hb)
      rw [Qka] at hr
      rw [Qak, hx]
      exact hr

theorem rGcd_spec {x y : Int} (hx : nd x ≤ 1000000000000) (hy : nd y ≤ 999999999999) : Qaj G Qfw [encI x, encI y] = some (.d (encI (Int.gcd x y : Nat))) := by
  rw [Qaf (cf := gantryref04_Gcd) rfl]
  have hxn : (digs x.natAbs).length ≤ 1000000000000 := hx
  have hyn : (digs y.natAbs).length ≤ 999999999999 := hy
  have o1 := Qbb false (Rw.dg (digs x.natAbs)) (by omega) (Qas _)
  have o2 := Qbb false (Rw.dg (digs y.natAbs)) (by omega) (Qas _)
  rw [QaE, QaB, Qbe] at o1 o2
  simp only [bv] at o1 o2
  rw [Qbe]
  have e : Int.gcd x y = Nat.gcd x.natAbs y.natAbs := rfl
  rw [e]
  rcases rg_loop y.natAbs x.natAbs hxn hyn with g | g
  · simp only [Qfn, Qsc, box0, boxI, go_sem] at g
    simp -implicitDefEqProofs (maxSteps := 10000000) only [gantryref04_Gcd, encI, go_sem, Qae, Qaa, iv, bv, o1, o2, g, reduceCtorEq, ↓reduceIte, Nat.reduceEqDiff]
  · simp only [Qfn, Qgn, box0, boxI, go_sem] at g
    simp -implicitDefEqProofs (maxSteps := 10000000) only [gantryref04_Gcd, encI, go_sem, Qae, Qaa, iv, bv, o1, o2, g, reduceCtorEq, ↓reduceIte, Nat.reduceEqDiff]
end Go.AM

/- Rationals as the program holds them; rat.unit, one, lowest, Make, Of, Den -/
namespace Go.AM
open Go Go.RowKit

/-- A denominator's digits: none for one. -/
def dd (d : Nat) : List Int := if d = 1 then [] else digs d
def encR (q : Rat) : D := .agg [.v (.bool (decide (q.num < 0))), dg (digs q.num.natAbs), .v (.bool false), dg (dd q.den)]
/-- Digits it takes. -/
def sz (q : Rat) : Nat := max (nd q.num) (nd (q.den : Int))
theorem QcK {q : Rat} {n : Nat} (h : sz q ≤ n) : nd q.num ≤ n := Nat.le_trans (Nat.le_max_left _ _) h
theorem QcV {q : Rat} {n : Nat} (h : sz q ≤ n) : nd (q.den : Int) ≤ n := Nat.le_trans (Nat.le_max_right _ _) h
theorem sz_le {q : Rat} {n : Nat} (h1 : nd q.num ≤ n) (h2 : nd (q.den : Int) ≤ n) : sz q ≤ n := Nat.max_le.2 ⟨h1, h2⟩

theorem dd_one : dd 1 = [] := rfl
theorem Qi6 {d : Nat} (h : d ≠ 1) : dd d = digs d := if_neg h
theorem Qm5 : digs 1 = [1] := by
  rw [QdP (by omega)]
  have e1 : (1 : Nat) % 1000000000 = 1 := by decide
  have e2 : (1 : Nat) / 1000000000 = 0 := by decide
  rw [e1, e2, QaD]; rfl
theorem QdO : encR 0 = .agg [.v (.bool false), .z true, .v (.bool false), .z true] := by
  have e : digs (0 : Rat).num.natAbs = [] := QaD
  rw [encR, e]; rfl
theorem QgI {n d : Int} (h : d ≠ 0) : 0 < Int.gcd n d := Int.gcd_pos_of_ne_zero_right n h
/-- In lowest terms. -/
theorem num_low {n d : Int} (hd : 0 < d) (hc : Int.gcd n d = 1) : (Rat.divInt n d).num = n ∧ ((Rat.divInt n d).den : Int) = d := by
  have e : Int.gcd d n = 1 := by rw [Int.gcd_comm]; exact hc
  constructor
  · rw [Rat.num_divInt, e, Int.sign_eq_one_of_pos hd]; simp
  · rw [Rat.den_divInt, e, if_neg (by omega)]; simp; omega
theorem Qj1 {n d : Int} (hd : 0 < d) (hc : Int.gcd n d = 1) : encR (Rat.divInt n d) = .agg [.v (.bool (decide (n < 0))), dg (digs n.natAbs), .v (.bool false), dg (dd d.natAbs)] := by
  obtain ⟨e1, e2⟩ := num_low hd hc
  have e3 : (Rat.divInt n d).den = d.natAbs := by omega
  rw [encR, e1, e3]
theorem ixa0 (hp : Hp) {l : List Int} (h : l ≠ []) : ixaA hp 1 0 (.d (dg l)) = some (.d (.rp (l.map iv))) := by
  have h0 : 0 < l.length := List.length_pos_iff.2 h
  exact (Rw.dg l).ixa (j := 0) (by omega) (by omega) hp
theorem ld0 (hp : Hp) {l : List Int} (h : l ≠ []) : Qcs hp none (.d (.rp (l.map iv))) = some (.d (.v (.int .i64 (l.getD 0 0)))) := by
  have h0 : 0 < l.length := List.length_pos_iff.2 h
  exact ldv hp l (j := 0) h0
theorem len_one {n : Nat} (h : (digs n).length = 1) : (digs n).getD 0 0 = (n : Int) := by
  have hv := QaB n
  match hd : digs n, h with
  | [v], _ => rw [hd] at hv; simpa [val] using hv
variable [Its]

theorem QkS (x : Int) (hx : nd x ≤ 1000000000000) : Qaj G QiE [encI x] = some (.d (bv (decide (x = 1)))) := by
  rw [Qaf (cf := rat_unit) rfl]
  have lx := QaN (digs x.natAbs)
  by_cases h : x < 0
  · have x1 : decide (x < 0) = true := decide_eq_true h
    have x2 : decide (x = 1) = false := decide_eq_false (by omega)
    simp -implicitDefEqProofs (maxSteps := 10000000) only [rat_unit, encI, go_sem, Qae, Qaa, iv, bv, lx, x1, x2, reduceCtorEq, ↓reduceIte, Nat.reduceEqDiff]
  · have x1 : decide (x < 0) = false := decide_eq_false h
    by_cases hl : (digs x.natAbs).length = 1
    · have x3 : (((digs x.natAbs).length : Int) == 1) = true := QkF (by omega)
      have hne : digs x.natAbs ≠ [] := by intro h; rw [h] at hl; cases hl
      have x4 := fun hp => ixa0 hp hne
      have x5 := fun hp => ld0 hp hne
      rw [len_one hl] at x5
      have x2 : (((x.natAbs : Nat) : Int) == 1) = decide (x = 1) := by
        by_cases h1 : x = 1
        · rw [decide_eq_true h1]; exact QkF (by omega)
        · rw [decide_eq_false h1]; exact Qdz (by omega)
      simp -implicitDefEqProofs (maxSteps := 10000000) only [rat_unit, encI, go_sem, Qae, Qaa, iv, bv, lx, x1, x2, x3, x4, x5, reduceCtorEq, ↓reduceIte, Nat.reduceEqDiff]
    · have x3 : (((digs x.natAbs).length : Int) == 1) = false := Qdz (by omega)
      have x2 : decide (x = 1) = false := decide_eq_false (by
        intro h1; subst h1
        exact hl (by rw [show (1 : Int).natAbs = 1 from rfl, Qm5]; rfl))
      simp -implicitDefEqProofs (maxSteps := 10000000) only [rat_unit, encI, go_sem, Qae, Qaa, iv, bv, lx, x1, x2, x3, reduceCtorEq, ↓reduceIte, Nat.reduceEqDiff]

theorem QnY (x : Int) (hx : nd x ≤ 1000000000000) (h0 : 0 < x) : Qaj G QfD [encI x] = some (.d (bv (decide (x = 1)))) := by
  rw [Qaf (cf := gantryref05_one) rfl]
  have lx := QaN (digs x.natAbs)
  have x1 : decide (x < 0) = false := decide_eq_false (by omega)
  by_cases hl : (digs x.natAbs).length = 1
  · have x3 : (((digs x.natAbs).length : Int) != 1) = false := by rw [bne, QkF (by omega)]; rfl
    have hne : digs x.natAbs ≠ [] := by intro h; rw [h] at hl; cases hl
    have x4 := fun hp => ixa0 hp hne
    have x5 := fun hp => ld0 hp hne
    rw [len_one hl] at x5
    have x2 : (((x.natAbs : Nat) : Int) == 1) = decide (x = 1) := by
      by_cases h1 : x = 1
      · rw [decide_eq_true h1]; exact QkF (by omega)
      · rw [decide_eq_false h1]; exact Qdz (by omega)
    simp -implicitDefEqProofs (maxSteps := 10000000) only [gantryref05_one, encI, go_sem, Qae, Qaa, iv, bv, lx, x1, x2, x3, x4, x5, reduceCtorEq, ↓reduceIte, Nat.reduceEqDiff]
  · have x3 : (((digs x.natAbs).length : Int) != 1) = true := by rw [bne, Qdz (by omega)]; rfl
    have x2 : decide (x = 1) = false := decide_eq_false (by
      intro h1; subst h1
      exact hl (by rw [show (1 : Int).natAbs = 1 from rfl, Qm5]; rfl))
    simp -implicitDefEqProofs (maxSteps := 10000000) only [gantryref05_one, encI, go_sem, Qae, Qaa, iv, bv, lx, x1, x2, x3, reduceCtorEq, ↓reduceIte, Nat.reduceEqDiff]

theorem one_spec : Qaj G Qnx [] = some (.d (encI 1)) := by
  rw [Qaf (cf := rat_one) rfl]
  have g := Qg5 (n := 1) ⟨by omega, by omega⟩
  simp only [iv, encI, bv] at g
  simp -implicitDefEqProofs (maxSteps := 10000000) only [rat_one, encI, go_sem, Qae, Qaa, iv, bv, g, reduceCtorEq, ↓reduceIte, Nat.reduceEqDiff]

theorem QeA (q : Rat) : Qaj G Qds [encR q] = some (.d (encI (q.den : Int))) := by
  rw [Qaf (cf := rat_Den) rfl]
  have ld := QaN (dd q.den)
  by_cases h : q.den = 1
  · have e1 : (((dd q.den).length : Int) == 0) = true := by rw [h]; rfl
    have g := one_spec
    rw [h]
    rw [h] at ld e1
    have e2 : ((1 : Nat) : Int) = 1 := rfl
    rw [e2]
    simp only [encI, bv] at g
    simp -implicitDefEqProofs (maxSteps := 10000000) only [rat_Den, encI, encR, h, go_sem, Qae, Qaa, iv, bv, ld, e1, g, reduceCtorEq, ↓reduceIte, Nat.reduceEqDiff]
  · rw [Qi6 h] at ld
    have e1 : (((digs q.den).length : Int) == 0) = false := Qdz (by have := digs_length_pos.2 q.den_pos; omega)
    rw [Qbe]
    simp -implicitDefEqProofs (maxSteps := 10000000) only [rat_Den, encI, encR, Qi6 h, go_sem, Qae, Qaa, iv, bv, ld, e1, reduceCtorEq, ↓reduceIte, Nat.reduceEqDiff]

theorem Qfr (q : Rat) : Qaj G Qa7 [encR q] = some (.d (encI (q.den : Int))) := by
  rw [Qaf (cf := gantryref05_Den) rfl]
  have ld := QaN (dd q.den)
  by_cases h : q.den = 1
  · have e1 : (((dd q.den).length : Int) == 0) = true := by rw [h]; rfl
    have g := Qdv (n := 1) ⟨by omega, by omega⟩
    rw [h]
    rw [h] at ld e1
    have e2 : ((1 : Nat) : Int) = 1 := rfl
    rw [e2]
    simp only [encI, bv, iv] at g
    simp -implicitDefEqProofs (maxSteps := 10000000) only [gantryref05_Den, encI, encR, h, go_sem, Qae, Qaa, iv, bv, ld, e1, g, reduceCtorEq, ↓reduceIte, Nat.reduceEqDiff]
  · rw [Qi6 h] at ld
    have e1 : (((digs q.den).length : Int) == 0) = false := Qdz (by have := digs_length_pos.2 q.den_pos; omega)
    rw [Qbe]
    simp -implicitDefEqProofs (maxSteps := 10000000) only [gantryref05_Den, encI, encR, Qi6 h, go_sem, Qae, Qaa, iv, bv, ld, e1, reduceCtorEq, ↓reduceIte, Nat.reduceEqDiff]
end Go.AM

/- rat.lowest, Make, Of; ref05.Make, Of -/
namespace Go.AM
open Go Go.RowKit

theorem lenz {x : Int} (h : x = 0) : (((digs x.natAbs).length : Int) == 0) = true := by subst h; exact QkF (by rw [show (0 : Int).natAbs = 0 from rfl, QaD]; rfl)
theorem Qm1 {x : Int} (h : x ≠ 0) : (((digs x.natAbs).length : Int) == 0) = false := Qdz (by have := digs_length_pos.2 (show 0 < x.natAbs by omega); omega)
theorem gcd_ediv {n d : Int} (hd : d ≠ 0) : Int.gcd (n / (Int.gcd n d : Nat)) (d / (Int.gcd n d : Nat)) = 1 := by
  have hg : 0 < Int.gcd n d := QgI hd
  rw [Int.gcd_ediv (Int.gcd_dvd_left n d) (Int.gcd_dvd_right n d)]
  simp only [Int.natAbs_natCast]
  exact Nat.div_self hg
theorem Qld {n d : Int} (hd : d ≠ 0) : Rat.divInt (n / (Int.gcd n d : Nat)) (d / (Int.gcd n d : Nat)) = Rat.divInt n d := by
  have hg : 0 < Int.gcd n d := QgI hd
  have h1 := Int.ediv_mul_cancel (Int.gcd_dvd_left n d)
  have h2 := Int.ediv_mul_cancel (Int.gcd_dvd_right n d)
  have := Rat.divInt_mul_right (a := (Int.gcd n d : Nat)) (n := n / (Int.gcd n d : Nat)) (d := d / (Int.gcd n d : Nat)) (by omega)
  rw [h1, h2] at this
  exact this.symm
theorem ediv_ne {n d : Int} (hd : d ≠ 0) : d / (Int.gcd n d : Nat) ≠ 0 := by
  intro h
  have h2 := Int.ediv_mul_cancel (Int.gcd_dvd_right n d)
  rw [h, Int.zero_mul] at h2
  exact hd h2.symm
theorem Qp0 {n : Int} {g : Nat} : nd (n / (g : Int)) ≤ nd n := QgA (by
  rcases Nat.eq_zero_or_pos g with h | h
  · subst h; simp
  · exact Int.natAbs_ediv_le_natAbs _ _)
variable [Its]

theorem QfT {n d : Int} (hd : d ≠ 0) (hc : Int.gcd n d = 1) (hdn : nd d ≤ 1000000000000) : Qaj G Qe4 [encI n, encI d] = some (.d (encR (Rat.divInt n d))) := by
  rw [Qaf (cf := rat_lowest) rfl]
  by_cases h : d < 0
  · have x1 : decide (d < 0) = true := decide_eq_true h
    have g1 := Qmv n
    have g2 := Qmv d
    have g3 := QkS (-d) (by rw [nd_neg]; exact hdn)
    have e := Qj1 (n := -n) (d := -d) (by omega) (by rw [Int.gcd_neg, Int.neg_gcd]; exact hc)
    rw [Rat.neg_divInt_neg] at e
    rw [e]
    clear e
    generalize -n = N at *
    obtain ⟨D, hD⟩ : ∃ D, -d = D := ⟨_, rfl⟩
    rw [hD] at g2 g3 ⊢
    simp only [encI, bv, iv] at g1 g2 g3
    rw [x1] at g2
    by_cases h1 : D = 1
    · rw [decide_eq_true h1] at g3
      have f1 : dg (dd D.natAbs) = .z true := by subst h1; rfl
      simp -implicitDefEqProofs (maxSteps := 10000000) only [rat_lowest, encI, go_sem, Qae, Qaa, iv, bv, x1, g1, g2, g3, f1, reduceCtorEq, ↓reduceIte, Nat.reduceEqDiff]
    · rw [decide_eq_false h1] at g3
      have f1 : dd D.natAbs = digs D.natAbs := Qi6 (by omega)
      have f2 : decide (D < 0) = false := decide_eq_false (by omega)
      rw [f2] at g2 g3
      simp -implicitDefEqProofs (maxSteps := 10000000) only [rat_lowest, encI, go_sem, Qae, Qaa, iv, bv, x1, g1, g2, g3, f1, f2, reduceCtorEq, ↓reduceIte, Nat.reduceEqDiff]
  · have x1 : decide (d < 0) = false := decide_eq_false h
    have g3 := QkS d hdn
    rw [Qj1 (n := n) (d := d) (by omega) hc]
    simp only [encI, bv, iv] at g3
    rw [x1] at g3
    by_cases h1 : d = 1
    · rw [decide_eq_true h1] at g3
      have f1 : dg (dd d.natAbs) = .z true := by subst h1; rfl
      simp -implicitDefEqProofs (maxSteps := 10000000) only [rat_lowest, encI, go_sem, Qae, Qaa, iv, bv, x1, g3, f1, reduceCtorEq, ↓reduceIte, Nat.reduceEqDiff]
    · rw [decide_eq_false h1] at g3
      have f1 : dd d.natAbs = digs d.natAbs := Qi6 (by omega)
      simp -implicitDefEqProofs (maxSteps := 10000000) only [rat_lowest, encI, go_sem, Qae, Qaa, iv, bv, x1, g3, f1, reduceCtorEq, ↓reduceIte, Nat.reduceEqDiff]

theorem Qh9 {n d : Int} (hn : nd n ≤ 1000000000000) (hdn : nd d ≤ 1000000000000) : Qaj G Qfq [encI n, encI d] = some (.d (encR (Rat.divInt n d))) := by
  rw [Qaf (cf := rat_Make) rfl]
  have ln := QaN (digs n.natAbs)
  have ld := QaN (digs d.natAbs)
  by_cases hd : d = 0
  · have f1 := lenz hd
    have e : Rat.divInt n d = 0 := by rw [hd, Rat.divInt_zero]
    rw [e, QdO]
    simp -implicitDefEqProofs (maxSteps := 10000000) only [rat_Make, encI, go_sem, Qae, Qaa, iv, bv, ln, ld, f1, reduceCtorEq, ↓reduceIte, Nat.reduceEqDiff]
  have f1 := Qm1 hd
  by_cases hn0 : n = 0
  · have f2 := lenz hn0
    have e : Rat.divInt n d = 0 := by rw [hn0, Rat.zero_divInt]
    rw [e, QdO]
    simp -implicitDefEqProofs (maxSteps := 10000000) only [rat_Make, encI, go_sem, Qae, Qaa, iv, bv, ln, ld, f1, f2, reduceCtorEq, ↓reduceIte, Nat.reduceEqDiff]
  have f2 := Qm1 hn0
  have g1 := Gcd_spec hn hdn
  have hg : 0 < Int.gcd n d := QgI hd
  have hgn : nd ((Int.gcd n d : Nat) : Int) ≤ 1000000000000 := by
    refine Nat.le_trans (QgA ?_) hdn
    rw [Int.natAbs_natCast]
    exact Nat.le_of_dvd (by omega) (Int.gcd_dvd_natAbs_right n d)
  have g2 := QkS _ hgn
  by_cases h1 : Int.gcd n d = 1
  · have g3 := QfT hd h1 hdn
    rw [decide_eq_true (show ((Int.gcd n d : Nat) : Int) = 1 by omega)] at g2
    rw [Qbe] at g1 g2
    simp only [encI, encR, bv, iv] at g1 g2 g3
    simp -implicitDefEqProofs (maxSteps := 10000000) only [rat_Make, encI, encR, go_sem, Qae, Qaa, iv, bv, ln, ld, f1, f2, g1, g2, g3, reduceCtorEq, ↓reduceIte, Nat.reduceEqDiff]
  · rw [decide_eq_false (show ¬ ((Int.gcd n d : Nat) : Int) = 1 by omega)] at g2
    have g3 := QfT (n := n / (Int.gcd n d : Nat)) (d := d / (Int.gcd n d : Nat)) (ediv_ne hd) (gcd_ediv hd) (Nat.le_trans Qp0 hdn)
    have g4 := QjW (x := n) (y := (Int.gcd n d : Nat)) (by omega) hn hgn
    have g5 := QjW (x := d) (y := (Int.gcd n d : Nat)) (by omega) hdn hgn
    rw [Qld hd] at g3
    rw [Qbe] at g1 g2 g4 g5
    generalize n / (Int.gcd n d : Nat) = N at *
    generalize d / (Int.gcd n d : Nat) = D at *
    generalize n % (Int.gcd n d : Nat) = M1 at *
    generalize d % (Int.gcd n d : Nat) = M2 at *
    simp only [encI, encR, bv, iv] at g1 g2 g3 g4 g5
    simp -implicitDefEqProofs (maxSteps := 10000000) only [rat_Make, encI, encR, go_sem, Qae, Qaa, iv, bv, ln, ld, f1, f2, g1, g2, g3, g4, g5, QbG, ne_eq, not_false_eq_true, reduceCtorEq, ↓reduceIte, Nat.reduceEqDiff]

theorem QbU {n d : Int} (hn : I64 n) (hd : I64 d) : Qaj G Qcy [iv n, iv d] = some (.d (encR (Rat.divInt n d))) := by
  rw [Qaf (cf := rat_Of) rfl]
  have g1 := Qg5 hn
  have g2 := Qg5 hd
  have g3 := Qh9 (n := n) (d := d) (Nat.le_trans (Qc2 hn) (by omega)) (Nat.le_trans (Qc2 hd) (by omega))
  simp only [encI, encR, bv, iv] at g1 g2 g3
  simp -implicitDefEqProofs (maxSteps := 10000000) only [rat_Of, encI, encR, go_sem, Qae, Qaa, iv, bv, g1, g2, g3, reduceCtorEq, ↓reduceIte, Nat.reduceEqDiff]

theorem QgH {n d : Int} (hn : nd n ≤ 1000000000000) (hdn : nd d ≤ 999999999999) : Qaj G Qcp [encI n, encI d] = some (.d (encR (Rat.divInt n d))) := by
  rw [Qaf (cf := gantryref05_Make) rfl]
  have ln := QaN (digs n.natAbs)
  have ld := QaN (digs d.natAbs)
  by_cases hd : d = 0
  · have f1 := lenz hd
    have e : Rat.divInt n d = 0 := by rw [hd, Rat.divInt_zero]
    rw [e, QdO]
    simp -implicitDefEqProofs (maxSteps := 10000000) only [gantryref05_Make, encI, go_sem, Qae, Qaa, iv, bv, ln, ld, f1, reduceCtorEq, ↓reduceIte, Nat.reduceEqDiff]
  have f1 := Qm1 hd
  by_cases hn0 : n = 0
  · have f2 := lenz hn0
    have e : Rat.divInt n d = 0 := by rw [hn0, Rat.zero_divInt]
    rw [e, QdO]
    simp -implicitDefEqProofs (maxSteps := 10000000) only [gantryref05_Make, encI, go_sem, Qae, Qaa, iv, bv, ln, ld, f1, f2, reduceCtorEq, ↓reduceIte, Nat.reduceEqDiff]
  have f2 := Qm1 hn0
  have g1 := rGcd_spec hn hdn
  have hg : 0 < Int.gcd n d := QgI hd
  have hgn : nd ((Int.gcd n d : Nat) : Int) ≤ 999999999999 := by
    refine Nat.le_trans (QgA ?_) hdn
    rw [Int.natAbs_natCast]
    exact Nat.le_of_dvd (by omega) (Int.gcd_dvd_natAbs_right n d)
  have g4 := Qik (x := n) (y := (Int.gcd n d : Nat)) (by omega) hn hgn
  have g5 := Qik (x := d) (y := (Int.gcd n d : Nat)) (by omega) (by omega) hgn
  have hD := ediv_ne (n := n) hd
  have hc := gcd_ediv (n := n) hd
  have hDn := Nat.le_trans (Qp0 (n := d) (g := Int.gcd n d)) hdn
  have hNn := Nat.le_trans (Qp0 (n := n) (g := Int.gcd n d)) hn
  rw [← Qld hd]
  rw [Qbe] at g1 g4 g5
  generalize n / (Int.gcd n d : Nat) = N at *
  generalize d / (Int.gcd n d : Nat) = D at *
  generalize n % (Int.gcd n d : Nat) = M1 at *
  generalize d % (Int.gcd n d : Nat) = M2 at *
  by_cases h : D < 0
  · have x1 : decide (D < 0) = true := decide_eq_true h
    have g6 := QkH (x := N) hNn
    have g7 := QkH (x := D) (by omega)
    have g3 := QnY (-D) (by rw [nd_neg]; omega) (by omega)
    have e := Qj1 (n := -N) (d := -D) (by omega) (by rw [Int.gcd_neg, Int.neg_gcd]; exact hc)
    rw [Rat.neg_divInt_neg] at e
    rw [e]
    clear e
    have hpos : 0 < -D := by omega
    generalize -N = N2 at *
    obtain ⟨D2, hD2⟩ : ∃ D2, -D = D2 := ⟨_, rfl⟩
    rw [hD2] at g7 g3 hpos ⊢
    simp only [encI, bv, iv] at g1 g3 g4 g5 g6 g7
    rw [x1] at g5 g7
    by_cases h1 : D2 = 1
    · rw [decide_eq_true h1] at g3
      have f3 : dg (dd D2.natAbs) = .z true := by subst h1; rfl
      simp -implicitDefEqProofs (maxSteps := 10000000) only [gantryref05_Make, encI, go_sem, Qae, Qaa, iv, bv, ln, ld, f1, f2, x1, g1, g4, g5, g6, g7, g3, f3, QbG, ne_eq, not_false_eq_true, reduceCtorEq, ↓reduceIte, Nat.reduceEqDiff]
    · rw [decide_eq_false h1] at g3
      have f3 : dd D2.natAbs = digs D2.natAbs := Qi6 (by omega)
      have f4 : decide (D2 < 0) = false := decide_eq_false (by omega)
      rw [f4] at g3 g7
      simp -implicitDefEqProofs (maxSteps := 10000000) only [gantryref05_Make, encI, go_sem, Qae, Qaa, iv, bv, ln, ld, f1, f2, x1, g1, g4, g5, g6, g7, g3, f3, f4, QbG, ne_eq, not_false_eq_true, reduceCtorEq, ↓reduceIte, Nat.reduceEqDiff]
  · have x1 : decide (D < 0) = false := decide_eq_false h
    have g3 := QnY D (by omega) (by omega)
    rw [Qj1 (n := N) (d := D) (by omega) hc]
    simp only [encI, bv, iv] at g1 g3 g4 g5
    rw [x1] at g3 g5
    by_cases h1 : D = 1
    · rw [decide_eq_true h1] at g3
      have f3 : dg (dd D.natAbs) = .z true := by subst h1; rfl
      simp -implicitDefEqProofs (maxSteps := 10000000) only [gantryref05_Make, encI, go_sem, Qae, Qaa, iv, bv, ln, ld, f1, f2, x1, g1, g4, g5, g3, f3, QbG, ne_eq, not_false_eq_true, reduceCtorEq, ↓reduceIte, Nat.reduceEqDiff]
    · rw [decide_eq_false h1] at g3
      have f3 : dd D.natAbs = digs D.natAbs := Qi6 (by omega)
      simp -implicitDefEqProofs (maxSteps := 10000000) only [gantryref05_Make, encI, go_sem, Qae, Qaa, iv, bv, ln, ld, f1, f2, x1, g1, g4, g5, g3, f3, QbG, ne_eq, not_false_eq_true, reduceCtorEq, ↓reduceIte, Nat.reduceEqDiff]

theorem QcT {n d : Int} (hn : I64 n) (hd : I64 d) : Qaj G QaF [iv n, iv d] = some (.d (encR (Rat.divInt n d))) := by
  rw [Qaf (cf := gantryref05_Of) rfl]
  have g1 := Qdv hn
  have g2 := Qdv hd
  have g3 := QgH (n := n) (d := d) (Nat.le_trans (Qc2 hn) (by omega)) (Nat.le_trans (Qc2 hd) (by omega))
  simp only [encI, encR, bv, iv] at g1 g2 g3
  simp -implicitDefEqProofs (maxSteps := 10000000) only [gantryref05_Of, encI, encR, go_sem, Qae, Qaa, iv, bv, g1, g2, g3, reduceCtorEq, ↓reduceIte, Nat.reduceEqDiff]
end Go.AM

/- Laws of rationals for rat and ref05. -/
namespace Go.AM
open Go Go.RowKit

theorem Qre : nd 1 = 1 := by rw [nd, show (1 : Int).natAbs = 1 from rfl, Qm5]; rfl
theorem nd_pos {n : Nat} (h : 0 < n) : 1 ≤ nd (n : Int) := digs_length_pos.2 h
theorem sz_one (q : Rat) : 1 ≤ sz q := Nat.le_trans (nd_pos q.den_pos) (QcV (Nat.le_refl _))
theorem nd_dvd {a b : Int} (h : a ∣ b) (hb : b ≠ 0) : nd a ≤ nd b := QgA (Nat.le_of_dvd (by omega) (Int.natAbs_dvd_natAbs.2 h))
theorem QiM {n d : Int} (hd : d ≠ 0) : (Rat.divInt n d).num ∣ n ∧ ((Rat.divInt n d).den : Int) ∣ d := by
  obtain ⟨m, h1, h2, h3⟩ := Rat.divInt_num_den (n := n) (d := d) (n' := (Rat.divInt n d).num) (d' := (Rat.divInt n d).den) (z' := (Rat.divInt n d).den_nz) (c := (Rat.divInt n d).reduced) hd rfl
  exact ⟨⟨m, h2⟩, ⟨m, h3⟩⟩
theorem Qer {n d : Int} {k : Nat} (hk : 1 ≤ k) (hn : nd n ≤ k) (hd : nd d ≤ k) : sz (Rat.divInt n d) ≤ k := by
  by_cases h0 : d = 0
  · subst h0
    rw [Rat.divInt_zero]
    exact sz_le (by rw [Rat.zero_num, Qk9]; omega) (by rw [Rat.zero_den]; exact Nat.le_trans (Nat.le_of_eq Qre) hk)
  · obtain ⟨h1, h2⟩ := QiM (n := n) h0
    refine sz_le ?_ (Nat.le_trans (nd_dvd h2 h0) hd)
    by_cases hn0 : n = 0
    · subst hn0
      rw [Rat.zero_divInt, Rat.zero_num, Qk9]; omega
    · exact Nat.le_trans (nd_dvd h1 hn0) hn
theorem Qi8 (a b : Rat) : a + b = Rat.divInt (a.num * b.den + b.num * a.den) ((a.den : Int) * b.den) := by
  rw [Rat.add_def', ← Rat.divInt_ofNat, Int.natCast_mul]
theorem QgG (a b : Rat) : a * b = Rat.divInt (a.num * b.num) ((a.den : Int) * b.den) := by
  rw [Rat.mul_def', ← Rat.divInt_ofNat, Int.natCast_mul]
theorem QlV (a b : Rat) : a / b = Rat.divInt (a.num * b.den) ((a.den : Int) * b.num) := by
  rw [Rat.div_def, Rat.inv_def]
  conv => lhs; rw [← Rat.num_divInt_den a]
  rw [Rat.divInt_mul_divInt]
theorem QkD (b : Rat) : b⁻¹ = Rat.divInt b.den b.num := Rat.inv_def b
theorem Qkz {a b : Rat} : sz (a + b) ≤ sz a + sz b + 1 := by
  rw [Qi8]
  have a1 := QcK (Nat.le_refl (sz a)); have a2 := QcV (Nat.le_refl (sz a))
  have b1 := QcK (Nat.le_refl (sz b)); have b2 := QcV (Nat.le_refl (sz b))
  have m1 := QcX (x := a.num) (y := b.den)
  have m2 := QcX (x := b.num) (y := a.den)
  have m3 := QcX (x := a.den) (y := b.den)
  exact Qer (by omega) (QkE (by omega) (by omega)) (by omega)
theorem QeM {a b : Rat} : sz (a * b) ≤ sz a + sz b := by
  rw [QgG]
  have a1 := QcK (Nat.le_refl (sz a)); have a2 := QcV (Nat.le_refl (sz a))
  have b1 := QcK (Nat.le_refl (sz b)); have b2 := QcV (Nat.le_refl (sz b))
  have m1 := QcX (x := a.num) (y := b.num)
  have m3 := QcX (x := a.den) (y := b.den)
  have := sz_one a
  exact Qer (by omega) (by omega) (by omega)
theorem Qq4 {a b : Rat} : sz (a / b) ≤ sz a + sz b := by
  rw [QlV]
  have a1 := QcK (Nat.le_refl (sz a)); have a2 := QcV (Nat.le_refl (sz a))
  have b1 := QcK (Nat.le_refl (sz b)); have b2 := QcV (Nat.le_refl (sz b))
  have m1 := QcX (x := a.num) (y := b.den)
  have m3 := QcX (x := a.den) (y := b.num)
  have := sz_one a
  exact Qer (by omega) (by omega) (by omega)
theorem QqS (a : Rat) : sz (-a) = sz a := by rw [sz, sz, Rat.neg_num, Rat.neg_den, nd_neg]
theorem sz_inv {b : Rat} : sz (b⁻¹) ≤ sz b := by
  rw [QkD]
  exact Qer (sz_one b) (QcV (Nat.le_refl _)) (QcK (Nat.le_refl _))

theorem QgE {a : Rat} (h : a.den = 1) : a = (a.num : Rat) := Rat.ext rfl h
theorem add_whole {a b : Rat} (ha : a.den = 1) (hb : b.den = 1) : (a + b).num = a.num + b.num ∧ (a + b).den = 1 := by
  have e : a + b = ((a.num + b.num : Int) : Rat) := by
    rw [Rat.intCast_add, ← QgE ha, ← QgE hb]
  rw [e]; exact ⟨rfl, rfl⟩
theorem mul_whole {a b : Rat} (ha : a.den = 1) (hb : b.den = 1) : (a * b).num = a.num * b.num ∧ (a * b).den = 1 := by
  have e : a * b = ((a.num * b.num : Int) : Rat) := by
    rw [Rat.intCast_mul, ← QgE ha, ← QgE hb]
  rw [e]; exact ⟨rfl, rfl⟩
theorem Qh3 {a : Rat} (h : a.num = 0) : a = 0 := Rat.num_eq_zero.1 h
/-- Cancelling crosswise leaves lowest terms. -/
theorem cross (a b : Rat) : Int.gcd ((Rat.divInt a.num b.den).num * (Rat.divInt b.num a.den).num) (((Rat.divInt a.num b.den).den : Int) * (Rat.divInt b.num a.den).den) = 1 := by
  have hp := (Rat.divInt a.num b.den).reduced
  have hq := (Rat.divInt b.num a.den).reduced
  obtain ⟨p1, p2⟩ := QiM (n := a.num) (d := b.den) (by have := b.den_pos; omega)
  obtain ⟨q1, q2⟩ := QiM (n := b.num) (d := a.den) (by have := a.den_pos; omega)
  generalize Rat.divInt a.num b.den = p at *
  generalize Rat.divInt b.num a.den = q at *
  have c1 : Nat.Coprime p.num.natAbs q.den := Nat.Coprime.coprime_dvd_left (Int.natAbs_dvd_natAbs.2 p1) (Nat.Coprime.coprime_dvd_right (Int.natCast_dvd_natCast.1 q2) a.reduced)
  have c2 : Nat.Coprime q.num.natAbs p.den := Nat.Coprime.coprime_dvd_left (Int.natAbs_dvd_natAbs.2 q1) (Nat.Coprime.coprime_dvd_right (Int.natCast_dvd_natCast.1 p2) b.reduced)
  have e : Nat.Coprime (p.num.natAbs * q.num.natAbs) (p.den * q.den) :=
    Nat.Coprime.mul_left (Nat.Coprime.mul_right hp c1) (Nat.Coprime.mul_right c2 hq)
  rw [Int.gcd, Int.natAbs_mul, Int.natAbs_mul, Int.natAbs_natCast, Int.natAbs_natCast]
  exact e
theorem cross_val (a b : Rat) : Rat.divInt ((Rat.divInt a.num b.den).num * (Rat.divInt b.num a.den).num) (((Rat.divInt a.num b.den).den : Int) * (Rat.divInt b.num a.den).den) = a * b := by
  rw [← QgG, Rat.divInt_mul_divInt, QgG, Int.mul_comm (b.den : Int)]

def cmpR (a b : Rat) : Int := Int.sign (a.num * b.den - b.num * a.den)
theorem Qjs {x y : Int} (h : 0 < y) : Int.sign (x * y) = Int.sign x := by rw [Int.sign_mul, Int.sign_eq_one_of_pos h, Int.mul_one]
theorem Qr9 {a b : Rat} (h : Int.sign a.num ≠ Int.sign b.num ∨ Int.sign a.num = 0) : Int.sign (Int.sign a.num - Int.sign b.num) = cmpR a b := by
  have hb : (0 : Int) < b.den := by have := b.den_pos; omega
  have ha : (0 : Int) < a.den := by have := a.den_pos; omega
  have e1 := Qjs (x := a.num) hb
  have e2 := Qjs (x := b.num) ha
  rw [cmpR]
  rw [← e1, ← e2] at h ⊢
  generalize a.num * (b.den : Int) = X at *
  generalize b.num * (a.den : Int) = Y at *
  rcases Int.lt_trichotomy X 0 with hx | hx | hx <;> rcases Int.lt_trichotomy Y 0 with hy | hy | hy
  · rw [Int.sign_eq_neg_one_of_neg hx, Int.sign_eq_neg_one_of_neg hy] at h; omega
  · rw [Int.sign_eq_neg_one_of_neg hx, hy, Int.sign_eq_neg_one_of_neg (show X - 0 < 0 by omega)]; rfl
  · rw [Int.sign_eq_neg_one_of_neg hx, Int.sign_eq_one_of_pos hy, Int.sign_eq_neg_one_of_neg (show X - Y < 0 by omega)]; rfl
  · rw [hx, Int.sign_eq_neg_one_of_neg hy, Int.sign_eq_one_of_pos (show 0 < 0 - Y by omega)]; rfl
  · rw [hx, hy]; rfl
  · rw [hx, Int.sign_eq_one_of_pos hy, Int.sign_eq_neg_one_of_neg (show 0 - Y < 0 by omega)]; rfl
  · rw [Int.sign_eq_one_of_pos hx, Int.sign_eq_neg_one_of_neg hy, Int.sign_eq_one_of_pos (show 0 < X - Y by omega)]; rfl
  · rw [Int.sign_eq_one_of_pos hx, hy, Int.sign_eq_one_of_pos (show 0 < X - 0 by omega)]; rfl
  · rw [Int.sign_eq_one_of_pos hx, Int.sign_eq_one_of_pos hy] at h; omega
theorem cmpR_lt {a b : Rat} : cmpR a b < 0 ↔ a < b := by
  rw [Rat.lt_iff, cmpR, Int.sign_neg_iff]; omega
theorem cmpR_le {a b : Rat} : cmpR a b ≤ 0 ↔ a ≤ b := by
  rw [Rat.le_iff, cmpR]
  rcases Int.lt_trichotomy (a.num * b.den - b.num * a.den) 0 with h | h | h
  · rw [Int.sign_eq_neg_one_of_neg h]; omega
  · rw [h]; simp; omega
  · rw [Int.sign_eq_one_of_pos h]; omega
end Go.AM

/- rat.Neg, Sign, Add, Sub, Mul, Div, Compare -/
namespace Go.AM
open Go Go.RowKit

theorem dden {a : Rat} (h : a.den = 1) : dg (dd a.den) = .z true := by rw [h]; rfl
theorem QcQ (a : Rat) : encI (a.den : Int) = .agg [.v (.bool false), dg (digs a.den)] := Qbe a.den
theorem QoJ {a : Rat} (h : a.den = 1) : (((dd a.den).length : Int) == 0) = true := by rw [h]; rfl
theorem Qnw {a : Rat} (h : a.den ≠ 1) : (((dd a.den).length : Int) == 0) = false := by
  rw [Qi6 h]; exact Qdz (by have := digs_length_pos.2 a.den_pos; omega)
variable [Its]

theorem Qk1 (a : Rat) : Qaj G QkG [encR a] = some (.d (encR (-a))) := by
  rw [Qaf (cf := rat_Neg) rfl]
  have g := Qmv a.num
  have e : encR (-a) = .agg [.v (.bool (decide (-a.num < 0))), dg (digs (-a.num).natAbs), .v (.bool false), dg (dd a.den)] := rfl
  rw [e]
  clear e
  generalize -a.num = N at *
  simp only [encI, bv, iv] at g
  simp -implicitDefEqProofs (maxSteps := 10000000) only [rat_Neg, encR, go_sem, Qae, Qaa, iv, bv, g, reduceCtorEq, ↓reduceIte, Nat.reduceEqDiff]

theorem Qbs (a : Rat) : Qaj G QbB [encR a] = some (.d (iv (Int.sign a.num))) := by
  rw [Qaf (cf := rat_Sign) rfl]
  have g := Sign_spec a.num
  simp only [encI, bv, iv] at g
  simp -implicitDefEqProofs (maxSteps := 10000000) only [rat_Sign, encR, go_sem, Qae, Qaa, iv, bv, g, reduceCtorEq, ↓reduceIte, Nat.reduceEqDiff]

theorem QfG {a b : Rat} (ha : sz a ≤ 100000000000) (hb : sz b ≤ 100000000000) : Qaj G Qgq [encR a, encR b] = some (.d (encR (a + b))) := by
  rw [Qaf (cf := rat_Add) rfl]
  have a1 := QcK ha; have a2 := QcV ha; have b1 := QcK hb; have b2 := QcV hb
  have la := QaN (digs a.num.natAbs)
  have lb := QaN (digs b.num.natAbs)
  have ea := QaN (dd a.den)
  have eb := QaN (dd b.den)
  by_cases h1 : a.den = 1 ∧ b.den = 1
  · obtain ⟨w1, w2⟩ := add_whole h1.1 h1.2
    have u1 := QoJ h1.1
    have u2 := QoJ h1.2
    have g := Qnq (x := a.num) (y := b.num) (by omega) (by omega)
    have e : encR (a + b) = .agg [.v (.bool (decide (a.num + b.num < 0))), dg (digs (a.num + b.num).natAbs), .v (.bool false), .z true] := by rw [encR, w1, dden w2]
    rw [e]
    clear e w1 w2
    generalize a.num + b.num = N at *
    simp only [encI, bv, iv] at g
    simp -implicitDefEqProofs (maxSteps := 10000000) only [rat_Add, encR, go_sem, Qae, Qaa, iv, bv, la, lb, ea, eb, u1, u2, g, reduceCtorEq, ↓reduceIte, Nat.reduceEqDiff]
  · have m1 := QcX (x := a.num) (y := b.den)
    have m2 := QcX (x := b.num) (y := a.den)
    have m3 := QcX (x := a.den) (y := b.den)
    have g1 := QeA a
    have g2 := QeA b
    have g3 := QeB (x := a.num) (y := b.den) (by omega) (by omega)
    have g4 := QeB (x := b.num) (y := a.den) (by omega) (by omega)
    have g5 := QeB (x := a.den) (y := b.den) (by omega) (by omega)
    have g6 := Qnq (x := a.num * b.den) (y := b.num * a.den) (by omega) (by omega)
    have g7 := Qh9 (n := a.num * b.den + b.num * a.den) (d := (a.den : Int) * b.den) (Nat.le_trans (QkE (k := 200000000000) (by omega) (by omega)) (by omega)) (by omega)
    rw [← Qi8] at g7
    rw [QcQ] at g1 g2 g3 g4
    rw [QcQ, QcQ] at g5
    generalize a.num * (b.den : Int) + b.num * (a.den : Int) = N at *
    generalize a.num * (b.den : Int) = N1 at *
    generalize b.num * (a.den : Int) = N2 at *
    generalize (a.den : Int) * (b.den : Int) = D at *
    by_cases h2 : a.num = 0
    · have z1 := lenz h2
      have e : a + b = b := by rw [Qh3 h2, Rat.zero_add]
      rw [e]
      by_cases h3 : a.den = 1
      · have u1 := QoJ h3
        have u2 := Qnw (fun h => h1 ⟨h3, h⟩)
        simp -implicitDefEqProofs (maxSteps := 10000000) only [rat_Add, encR, go_sem, Qae, Qaa, iv, bv, la, lb, ea, eb, u1, u2, z1, reduceCtorEq, ↓reduceIte, Nat.reduceEqDiff]
      · have u1 := Qnw h3
        simp -implicitDefEqProofs (maxSteps := 10000000) only [rat_Add, encR, go_sem, Qae, Qaa, iv, bv, la, lb, ea, eb, u1, z1, reduceCtorEq, ↓reduceIte, Nat.reduceEqDiff]
    · have z1 := Qm1 h2
      by_cases h4 : b.num = 0
      · have z2 := lenz h4
        have e : a + b = a := by rw [Qh3 h4, Rat.add_zero]
        rw [e]
        by_cases h3 : a.den = 1
        · have u1 := QoJ h3
          have u2 := Qnw (fun h => h1 ⟨h3, h⟩)
          simp -implicitDefEqProofs (maxSteps := 10000000) only [rat_Add, encR, go_sem, Qae, Qaa, iv, bv, la, lb, ea, eb, u1, u2, z1, z2, reduceCtorEq, ↓reduceIte, Nat.reduceEqDiff]
        · have u1 := Qnw h3
          simp -implicitDefEqProofs (maxSteps := 10000000) only [rat_Add, encR, go_sem, Qae, Qaa, iv, bv, la, lb, ea, eb, u1, z1, z2, reduceCtorEq, ↓reduceIte, Nat.reduceEqDiff]
      · have z2 := Qm1 h4
        generalize a + b = S at *
        simp only [encI, encR, bv, iv] at g1 g2 g3 g4 g5 g6 g7
        by_cases h3 : a.den = 1
        · have u1 := QoJ h3
          have u2 := Qnw (fun h => h1 ⟨h3, h⟩)
          simp -implicitDefEqProofs (maxSteps := 10000000) only [rat_Add, encR, go_sem, Qae, Qaa, iv, bv, la, lb, ea, eb, u1, u2, z1, z2, g1, g2, g3, g4, g5, g6, g7, QbG, ne_eq, not_false_eq_true, reduceCtorEq, ↓reduceIte, Nat.reduceEqDiff]
        · have u1 := Qnw h3
          simp -implicitDefEqProofs (maxSteps := 10000000) only [rat_Add, encR, go_sem, Qae, Qaa, iv, bv, la, lb, ea, eb, u1, z1, z2, g1, g2, g3, g4, g5, g6, g7, QbG, ne_eq, not_false_eq_true, reduceCtorEq, ↓reduceIte, Nat.reduceEqDiff]

theorem Qg8 {a b : Rat} (ha : sz a ≤ 100000000000) (hb : sz b ≤ 100000000000) : Qaj G QhZ [encR a, encR b] = some (.d (encR (a - b))) := by
  rw [Qaf (cf := rat_Sub) rfl]
  have g1 := Qk1 b
  have g2 := QfG (a := a) (b := -b) ha (by rw [QqS]; exact hb)
  rw [← Rat.sub_eq_add_neg] at g2
  generalize -b = B at *
  simp only [encR, bv, iv] at g1 g2
  simp -implicitDefEqProofs (maxSteps := 10000000) only [rat_Sub, encR, go_sem, Qae, Qaa, iv, bv, g1, g2, reduceCtorEq, ↓reduceIte, Nat.reduceEqDiff]

theorem Qct {a b : Rat} (ha : sz a ≤ 100000000000) (hb : sz b ≤ 100000000000) : Qaj G Qc8 [encR a, encR b] = some (.d (encR (a * b))) := by
  rw [Qaf (cf := rat_Mul) rfl]
  have a1 := QcK ha; have a2 := QcV ha; have b1 := QcK hb; have b2 := QcV hb
  have la := QaN (digs a.num.natAbs)
  have lb := QaN (digs b.num.natAbs)
  have ea := QaN (dd a.den)
  have eb := QaN (dd b.den)
  by_cases h2 : a.num = 0
  · have z1 := lenz h2
    have e : a * b = 0 := by rw [Qh3 h2, Rat.zero_mul]
    rw [e, QdO]
    simp -implicitDefEqProofs (maxSteps := 10000000) only [rat_Mul, encR, go_sem, Qae, Qaa, iv, bv, la, lb, ea, eb, z1, reduceCtorEq, ↓reduceIte, Nat.reduceEqDiff]
  have z1 := Qm1 h2
  by_cases h4 : b.num = 0
  · have z2 := lenz h4
    have e : a * b = 0 := by rw [Qh3 h4, Rat.mul_zero]
    rw [e, QdO]
    simp -implicitDefEqProofs (maxSteps := 10000000) only [rat_Mul, encR, go_sem, Qae, Qaa, iv, bv, la, lb, ea, eb, z1, z2, reduceCtorEq, ↓reduceIte, Nat.reduceEqDiff]
  have z2 := Qm1 h4
  by_cases h1 : a.den = 1 ∧ b.den = 1
  · obtain ⟨w1, w2⟩ := mul_whole h1.1 h1.2
    have u1 := QoJ h1.1
    have u2 := QoJ h1.2
    have g := QeB (x := a.num) (y := b.num) (by omega) (by omega)
    have e : encR (a * b) = .agg [.v (.bool (decide (a.num * b.num < 0))), dg (digs (a.num * b.num).natAbs), .v (.bool false), .z true] := by rw [encR, w1, dden w2]
    rw [e]
    clear e w1 w2
    generalize a.num * b.num = N at *
    simp only [encI, bv, iv] at g
    simp -implicitDefEqProofs (maxSteps := 10000000) only [rat_Mul, encR, go_sem, Qae, Qaa, iv, bv, la, lb, ea, eb, u1, u2, z1, z2, g, reduceCtorEq, ↓reduceIte, Nat.reduceEqDiff]
  · have g1 := QeA a
    have g2 := QeA b
    have g3 := Qh9 (n := a.num) (d := b.den) (by omega) (by omega)
    have g4 := Qh9 (n := b.num) (d := a.den) (by omega) (by omega)
    have k1 := Qer (n := a.num) (d := b.den) (k := 100000000000) (by omega) a1 b2
    have k2 := Qer (n := b.num) (d := a.den) (k := 100000000000) (by omega) b1 a2
    have cr := cross a b
    have cv := cross_val a b
    generalize Rat.divInt a.num b.den = p at *
    generalize Rat.divInt b.num a.den = q at *
    have p1 := QcK k1; have p2 := QcV k1; have q1 := QcK k2; have q2 := QcV k2
    have m1 := QcX (x := p.num) (y := q.num)
    have m2 := QcX (x := p.den) (y := q.den)
    have g5 := QeA p
    have g6 := QeA q
    have g7 := QeB (x := p.num) (y := q.num) (by omega) (by omega)
    have g8 := QeB (x := p.den) (y := q.den) (by omega) (by omega)
    have hne : (p.den : Int) * (q.den : Int) ≠ 0 := Int.mul_ne_zero (by have := p.den_pos; omega) (by have := q.den_pos; omega)
    have g9 := QfT (n := p.num * q.num) (d := (p.den : Int) * q.den) hne cr (by omega)
    rw [cv] at g9
    rw [QcQ] at g1 g2 g3 g4 g5 g6
    rw [QcQ, QcQ] at g8
    generalize p.num * q.num = N at *
    generalize (p.den : Int) * (q.den : Int) = D at *
    generalize a * b = S at *
    simp only [encI, encR, bv, iv] at g1 g2 g3 g4 g5 g6 g7 g8 g9
    by_cases h3 : a.den = 1
    · have u1 := QoJ h3
      have u2 := Qnw (fun h => h1 ⟨h3, h⟩)
      simp -implicitDefEqProofs (maxSteps := 10000000) only [rat_Mul, encR, go_sem, Qae, Qaa, iv, bv, la, lb, ea, eb, u1, u2, z1, z2, g1, g2, g3, g4, g5, g6, g7, g8, g9, QbG, ne_eq, not_false_eq_true, reduceCtorEq, ↓reduceIte, Nat.reduceEqDiff]
    · have u1 := Qnw h3
      simp -implicitDefEqProofs (maxSteps := 10000000) only [rat_Mul, encR, go_sem, Qae, Qaa, iv, bv, la, lb, ea, eb, u1, z1, z2, g1, g2, g3, g4, g5, g6, g7, g8, g9, QbG, ne_eq, not_false_eq_true, reduceCtorEq, ↓reduceIte, Nat.reduceEqDiff]

theorem Qky {a b : Rat} (ha : sz a ≤ 100000000000) (hb : sz b ≤ 100000000000) : Qaj G QkO [encR a, encR b] = some (.d (encR (a / b))) := by
  rw [Qaf (cf := rat_Div) rfl]
  have b1 := QcK hb; have b2 := QcV hb
  have lb := QaN (digs b.num.natAbs)
  by_cases h4 : b.num = 0
  · have z2 := lenz h4
    have e : a / b = 0 := by rw [Qh3 h4, Rat.div_def, Rat.inv_zero, Rat.mul_zero]
    rw [e, QdO]
    simp -implicitDefEqProofs (maxSteps := 10000000) only [rat_Div, encR, go_sem, Qae, Qaa, iv, bv, lb, z2, reduceCtorEq, ↓reduceIte, Nat.reduceEqDiff]
  have z2 := Qm1 h4
  have g1 := QeA b
  have hc : Int.gcd (b.den : Int) b.num = 1 := by
    have := b.reduced
    rw [Int.gcd_comm]
    exact this
  have g2 := QfT (n := b.den) (d := b.num) h4 hc (by omega)
  rw [← QkD] at g2
  have g3 := Qct (a := a) (b := b⁻¹) ha (Nat.le_trans sz_inv hb)
  rw [← Rat.div_def] at g3
  rw [QcQ] at g1 g2
  generalize a / b = S at *
  generalize b⁻¹ = B at *
  simp only [encI, encR, bv, iv] at g1 g2 g3
  simp -implicitDefEqProofs (maxSteps := 10000000) only [rat_Div, encR, go_sem, Qae, Qaa, iv, bv, lb, z2, g1, g2, g3, reduceCtorEq, ↓reduceIte, Nat.reduceEqDiff]

theorem QeS {a b : Rat} (ha : sz a ≤ 100000000000) (hb : sz b ≤ 100000000000) : Qaj G QeE [encR a, encR b] = some (.d (iv (cmpR a b))) := by
  rw [Qaf (cf := rat_Compare) rfl]
  have a1 := QcK ha; have a2 := QcV ha; have b1 := QcK hb; have b2 := QcV hb
  have g1 := Qbs a
  have g2 := Qbs b
  have s1 : -1 ≤ Int.sign a.num ∧ Int.sign a.num ≤ 1 := by
    rcases Int.lt_trichotomy a.num 0 with h | h | h
    · rw [Int.sign_eq_neg_one_of_neg h]; omega
    · rw [h]; simp
    · rw [Int.sign_eq_one_of_pos h]; omega
  have s2 : -1 ≤ Int.sign b.num ∧ Int.sign b.num ≤ 1 := by
    rcases Int.lt_trichotomy b.num 0 with h | h | h
    · rw [Int.sign_eq_neg_one_of_neg h]; omega
    · rw [h]; simp
    · rw [Int.sign_eq_one_of_pos h]; omega
  have i1 : I64 (Int.sign a.num) := ⟨by omega, by omega⟩
  have i2 : I64 (Int.sign b.num) := ⟨by omega, by omega⟩
  by_cases h : Int.sign a.num ≠ Int.sign b.num ∨ Int.sign a.num = 0
  · have g3 := Qg5 i1
    have g4 := Qg5 i2
    have n1 : nd (Int.sign a.num) ≤ 3 := Qc2 i1
    have n2 : nd (Int.sign b.num) ≤ 3 := Qc2 i2
    have g5 := Qe7 (x := Int.sign a.num) (y := Int.sign b.num) (by omega) (by omega)
    rw [Qr9 h] at g5
    generalize Int.sign a.num = X at *
    generalize Int.sign b.num = Y at *
    simp only [encI, encR, bv, iv] at g1 g2 g3 g4 g5
    by_cases hxy : X = Y
    · subst hxy
      have u1 : (X != X) = false := by simp
      have u2 : (X == 0) = true := QkF (by rcases h with h | h; exact absurd rfl h; exact h)
      simp -implicitDefEqProofs (maxSteps := 10000000) only [rat_Compare, encR, go_sem, Qae, Qaa, iv, bv, u1, u2, g1, g2, g3, g4, g5, reduceCtorEq, ↓reduceIte, Nat.reduceEqDiff]
    · have u1 : (X != Y) = true := by rw [bne, Qdz hxy]; rfl
      simp -implicitDefEqProofs (maxSteps := 10000000) only [rat_Compare, encR, go_sem, Qae, Qaa, iv, bv, u1, g1, g2, g3, g4, g5, reduceCtorEq, ↓reduceIte, Nat.reduceEqDiff]
  · have hxy : Int.sign a.num = Int.sign b.num := by omega
    have hx0 : Int.sign a.num ≠ 0 := by omega
    have u1 : (Int.sign a.num != Int.sign b.num) = false := by rw [bne, QkF hxy]; rfl
    have u2 : (Int.sign a.num == 0) = false := Qdz hx0
    have m1 := QcX (x := a.num) (y := b.den)
    have m2 := QcX (x := b.num) (y := a.den)
    have g3 := QeA a
    have g4 := QeA b
    have g5 := QeB (x := a.num) (y := b.den) (by omega) (by omega)
    have g6 := QeB (x := b.num) (y := a.den) (by omega) (by omega)
    have g7 := Qe7 (x := a.num * b.den) (y := b.num * a.den) (by omega) (by omega)
    have e : Int.sign (a.num * b.den - b.num * a.den) = cmpR a b := rfl
    rw [e] at g7
    clear e
    rw [QcQ] at g3 g4 g5 g6
    generalize a.num * (b.den : Int) = N1 at *
    generalize b.num * (a.den : Int) = N2 at *
    simp only [encI, encR, bv, iv] at g1 g2 g3 g4 g5 g6 g7
    simp -implicitDefEqProofs (maxSteps := 10000000) only [rat_Compare, encR, go_sem, Qae, Qaa, iv, bv, u1, u2, g1, g2, g3, g4, g5, g6, g7, reduceCtorEq, ↓reduceIte, Nat.reduceEqDiff]
end Go.AM

/- ref05.Neg, Sign, Add, Sub, Mul, Div, Compare -/
namespace Go.AM
open Go Go.RowKit
variable [Its]

theorem QnP {a : Rat} (ha : sz a ≤ 100000000000) : Qaj G Qfx [encR a] = some (.d (encR (-a))) := by
  rw [Qaf (cf := gantryref05_Neg) rfl]
  have a1 := QcK ha
  have g := QkH (x := a.num) (by omega)
  have e : encR (-a) = .agg [.v (.bool (decide (-a.num < 0))), dg (digs (-a.num).natAbs), .v (.bool false), dg (dd a.den)] := rfl
  rw [e]
  clear e
  generalize -a.num = N at *
  simp only [encI, bv, iv] at g
  simp -implicitDefEqProofs (maxSteps := 10000000) only [gantryref05_Neg, encR, go_sem, Qae, Qaa, iv, bv, g, reduceCtorEq, ↓reduceIte, Nat.reduceEqDiff]

theorem Qij {a : Rat} (ha : sz a ≤ 100000000000) : Qaj G Qe8 [encR a] = some (.d (iv (Int.sign a.num))) := by
  rw [Qaf (cf := gantryref05_Sign) rfl]
  have a1 := QcK ha
  have g := Qsp (x := a.num) (by omega)
  simp only [encI, bv, iv] at g
  simp -implicitDefEqProofs (maxSteps := 10000000) only [gantryref05_Sign, encR, go_sem, Qae, Qaa, iv, bv, g, reduceCtorEq, ↓reduceIte, Nat.reduceEqDiff]

theorem Qfc {a b : Rat} (ha : sz a ≤ 100000000000) (hb : sz b ≤ 100000000000) : Qaj G QcB [encR a, encR b] = some (.d (encR (a + b))) := by
  rw [Qaf (cf := gantryref05_Add) rfl]
  have a1 := QcK ha; have a2 := QcV ha; have b1 := QcK hb; have b2 := QcV hb
  have m1 := QcX (x := a.num) (y := b.den)
  have m2 := QcX (x := b.num) (y := a.den)
  have m3 := QcX (x := a.den) (y := b.den)
  have g1 := Qfr a
  have g2 := Qfr b
  have g3 := Qdl (x := a.num) (y := b.den) (by omega) (by omega)
  have g4 := Qdl (x := b.num) (y := a.den) (by omega) (by omega)
  have g5 := Qdl (x := a.den) (y := b.den) (by omega) (by omega)
  have g6 := Qgw (x := a.num * b.den) (y := b.num * a.den) (by omega) (by omega)
  have g7 := QgH (n := a.num * b.den + b.num * a.den) (d := (a.den : Int) * b.den) (Nat.le_trans (QkE (k := 200000000000) (by omega) (by omega)) (by omega)) (by omega)
  rw [← Qi8] at g7
  rw [QcQ] at g1 g2 g3 g4
  rw [QcQ, QcQ] at g5
  generalize a.num * (b.den : Int) + b.num * (a.den : Int) = N at *
  generalize a.num * (b.den : Int) = N1 at *
  generalize b.num * (a.den : Int) = N2 at *
  generalize (a.den : Int) * (b.den : Int) = D at *
  generalize a + b = S at *
  simp only [encI, encR, bv, iv] at g1 g2 g3 g4 g5 g6 g7
  simp -implicitDefEqProofs (maxSteps := 10000000) only [gantryref05_Add, encR, go_sem, Qae, Qaa, iv, bv, g1, g2, g3, g4, g5, g6, g7, QbG, ne_eq, not_false_eq_true, reduceCtorEq, ↓reduceIte, Nat.reduceEqDiff]

theorem QnF {a b : Rat} (ha : sz a ≤ 100000000000) (hb : sz b ≤ 100000000000) : Qaj G Qfy [encR a, encR b] = some (.d (encR (a - b))) := by
  rw [Qaf (cf := gantryref05_Sub) rfl]
  have g1 := QnP hb
  have g2 := Qfc (a := a) (b := -b) ha (by rw [QqS]; exact hb)
  rw [← Rat.sub_eq_add_neg] at g2
  generalize -b = B at *
  simp only [encR, bv, iv] at g1 g2
  simp -implicitDefEqProofs (maxSteps := 10000000) only [gantryref05_Sub, encR, go_sem, Qae, Qaa, iv, bv, g1, g2, reduceCtorEq, ↓reduceIte, Nat.reduceEqDiff]

theorem Qe1 {a b : Rat} (ha : sz a ≤ 100000000000) (hb : sz b ≤ 100000000000) : Qaj G QcA [encR a, encR b] = some (.d (encR (a * b))) := by
  rw [Qaf (cf := gantryref05_Mul) rfl]
  have a1 := QcK ha; have a2 := QcV ha; have b1 := QcK hb; have b2 := QcV hb
  have m1 := QcX (x := a.num) (y := b.num)
  have m3 := QcX (x := a.den) (y := b.den)
  have g1 := Qfr a
  have g2 := Qfr b
  have g3 := Qdl (x := a.num) (y := b.num) (by omega) (by omega)
  have g5 := Qdl (x := a.den) (y := b.den) (by omega) (by omega)
  have g7 := QgH (n := a.num * b.num) (d := (a.den : Int) * b.den) (by omega) (by omega)
  rw [← QgG] at g7
  rw [QcQ] at g1 g2
  rw [QcQ, QcQ] at g5
  generalize a.num * b.num = N1 at *
  generalize (a.den : Int) * (b.den : Int) = D at *
  generalize a * b = S at *
  simp only [encI, encR, bv, iv] at g1 g2 g3 g5 g7
  simp -implicitDefEqProofs (maxSteps := 10000000) only [gantryref05_Mul, encR, go_sem, Qae, Qaa, iv, bv, g1, g2, g3, g5, g7, QbG, ne_eq, not_false_eq_true, reduceCtorEq, ↓reduceIte, Nat.reduceEqDiff]

theorem Qgk {a b : Rat} (ha : sz a ≤ 100000000000) (hb : sz b ≤ 100000000000) : Qaj G Qdf [encR a, encR b] = some (.d (encR (a / b))) := by
  rw [Qaf (cf := gantryref05_Div) rfl]
  have a1 := QcK ha; have a2 := QcV ha; have b1 := QcK hb; have b2 := QcV hb
  have m1 := QcX (x := a.num) (y := b.den)
  have m3 := QcX (x := a.den) (y := b.num)
  have g1 := Qfr a
  have g2 := Qfr b
  have g3 := Qdl (x := a.num) (y := b.den) (by omega) (by omega)
  have g5 := Qdl (x := a.den) (y := b.num) (by omega) (by omega)
  have g7 := QgH (n := a.num * b.den) (d := (a.den : Int) * b.num) (by omega) (by omega)
  rw [← QlV] at g7
  rw [QcQ] at g1 g2 g3 g5
  generalize a.num * (b.den : Int) = N1 at *
  generalize (a.den : Int) * b.num = D at *
  generalize a / b = S at *
  simp only [encI, encR, bv, iv] at g1 g2 g3 g5 g7
  simp -implicitDefEqProofs (maxSteps := 10000000) only [gantryref05_Div, encR, go_sem, Qae, Qaa, iv, bv, g1, g2, g3, g5, g7, QbG, ne_eq, not_false_eq_true, reduceCtorEq, ↓reduceIte, Nat.reduceEqDiff]

end Go.AM

/- ref01: Around, At; digits tell numbers apart. -/
namespace Go.AM
open Go Go.RowKit

theorem Qmh {n : Int} (h : (Lit.int .i64 n).wf = true) : I64 n := by
  simp only [Lit.wf, Bool.and_eq_true, decide_eq_true_eq] at h
  have h1 : IntKind.min .i64 = -9223372036854775808 := by decide
  have h2 : IntKind.max .i64 = 9223372036854775807 := by decide
  rw [h1, h2] at h
  exact ⟨by omega, by omega⟩
theorem QgT {d : D} {l : List Int} (h : Dg d l) : Rw d l := by
  rcases h with ⟨rfl, rfl⟩ | h
  · exact .inl rfl
  · exact .inr h
def arnd (n m : Int) : Int := (if n < 0 then -(n + 1) else n) % m
theorem Qqt {n m : Int} (hm : 0 < m) : 0 ≤ arnd n m ∧ arnd n m < m := ⟨Int.emod_nonneg _ (by omega), Int.emod_lt_of_pos _ hm⟩
def atr (l : List Int) (i m : Int) : Int := if i < 0 ∨ i ≥ l.length then 0 else arnd (l.getD i.toNat 0) m
theorem QrT (l : List Int) (i : Int) {m : Int} (hm : 0 < m) : 0 ≤ atr l i m ∧ atr l i m < m := by
  unfold atr
  split
  · omega
  · exact Qqt hm

theorem Qqs {a b : Nat} (h : digs a = digs b) : a = b := by
  have := congrArg val h
  rw [QaB, QaB] at this
  omega
theorem iv_inj {a b : Int} (h : iv a = iv b) : a = b := by cases h; rfl
theorem Qn6 : ∀ {l m : List Int}, l.map iv = m.map iv → l = m
  | [], [], _ => rfl
  | [], _ :: _, h => by cases h
  | _ :: _, [], h => by cases h
  | a :: l, b :: m, h => by
    rw [List.map_cons, List.map_cons, List.cons.injEq] at h
    rw [iv_inj h.1, Qn6 h.2]
theorem dg_inj {l m : List Int} (h : dg l = dg m) : l = m := by
  by_cases h1 : l = [] <;> by_cases h2 : m = []
  · rw [h1, h2]
  · rw [h1, Qo4, QmR h2] at h; cases h
  · rw [h2, Qo4, QmR h1] at h; cases h
  · rw [QmR h1, QmR h2, D.row.injEq] at h; exact Qn6 h.2
variable [Its]

theorem Qg9 {n m : Int} (hn : I64 n) (hm : 0 < m) : Qaj G Qcx [iv n, iv m] = some (.d (iv (arnd n m))) := by
  rw [Qaf (cf := gantryref01_Around) rfl]
  obtain ⟨h1, h2⟩ := hn
  have e2 := Qix (b := m) (by omega)
  unfold arnd
  by_cases h : n < 0
  · have e1 : decide (n < 0) = true := decide_eq_true h
    have e3 : w64 (n + 1) = n + 1 := Qac (by omega) (by omega)
    have e4 : w64 (0 - (n + 1)) = -(n + 1) := by rw [Qac (by omega) (by omega)]; omega
    have e5 := QcF (a := -(n + 1)) (b := m) (by omega)
    rw [if_pos h]
    simp -implicitDefEqProofs (maxSteps := 10000000) only [gantryref01_Around, go_sem, iv, bv, e1, e2, e3, e4, e5, reduceCtorEq, ↓reduceIte, Nat.reduceEqDiff]
  · have e1 : decide (n < 0) = false := decide_eq_false h
    have e5 := QcF (a := n) (b := m) (by omega)
    rw [if_neg h]
    simp -implicitDefEqProofs (maxSteps := 10000000) only [gantryref01_Around, go_sem, iv, bv, e1, e2, e5, reduceCtorEq, ↓reduceIte, Nat.reduceEqDiff]
theorem Qc9 {d : D} {l : List Int} {i m : Int} (hr : Rw d l) (hl : ∀ n ∈ l, I64 n) (hm : 0 < m) : Qaj G Qaw [d, iv i, iv m] = some (.d (iv (atr l i m))) := by
  rw [Qaf (cf := gantryref01_At) rfl]
  have ll := hr.len
  unfold atr
  by_cases h : i < 0
  · have e1 : decide (i < 0) = true := decide_eq_true h
    rw [if_pos (.inl h)]
    simp -implicitDefEqProofs (maxSteps := 10000000) only [gantryref01_At, go_sem, iv, bv, e1, reduceCtorEq, ↓reduceIte, Nat.reduceEqDiff]
  · have e1 : decide (i < 0) = false := decide_eq_false h
    by_cases h2 : i ≥ l.length
    · have e2 : decide (i ≥ (l.length : Int)) = true := decide_eq_true h2
      rw [if_pos (.inr h2)]
      simp -implicitDefEqProofs (maxSteps := 10000000) only [gantryref01_At, go_sem, iv, bv, e1, e2, ll, reduceCtorEq, ↓reduceIte, Nat.reduceEqDiff]
    · have e2 : decide (i ≥ (l.length : Int)) = false := decide_eq_false h2
      rw [if_neg (by omega)]
      obtain ⟨j, rfl⟩ : ∃ j : Nat, i = (j : Int) := ⟨i.toNat, by omega⟩
      rw [Int.toNat_natCast]
      have hj : j < l.length := by omega
      have e3 := hr.ixn (j := j) hj
      have e4 := fun hp => ldv hp l (j := j) hj
      have hb : I64 (l.getD j 0) := hl _ (by rw [List.getD_eq_getElem?_getD, List.getElem?_eq_getElem hj]; exact List.getElem_mem hj)
      have g := Qg9 hb hm
      simp only [iv] at g
      simp -implicitDefEqProofs (maxSteps := 10000000) only [gantryref01_At, go_sem, iv, bv, e1, e2, e3, e4, ll, g, reduceCtorEq, ↓reduceIte, Nat.reduceEqDiff]
end Go.AM

/- Rationals: signs, sizes, names for what comes out; ref01. -/
namespace Go.AM
open Go Go.RowKit

theorem sz_one_ : sz 1 = 1 := by rw [sz, Rat.one_num, Rat.one_den]; exact by rw [show ((1 : Nat) : Int) = 1 from rfl, Qre]; rfl
theorem Qiz : sz 0 = 1 := by rw [sz, Rat.zero_num, Rat.zero_den]; exact by rw [show ((1 : Nat) : Int) = 1 from rfl, Qre, Qk9]; rfl
theorem Qd4 {n : Int} (h : I64 n) : sz (n : Rat) ≤ 3 := sz_le (Qc2 h) (by rw [Rat.den_intCast]; exact Nat.le_trans (Nat.le_of_eq Qre) (by omega))
theorem Qdc (n : Int) : Rat.divInt n 1 = (n : Rat) := by
  have := Rat.num_divInt_den (n : Rat)
  exact this
theorem Qk3 {x : Rat} : decide (Int.sign x.num ≥ 0) = decide (0 ≤ x) := by
  apply decide_eq_decide.2
  rw [← Rat.num_nonneg]
  rcases Int.lt_trichotomy x.num 0 with h | h | h
  · rw [Int.sign_eq_neg_one_of_neg h]; omega
  · rw [h]; simp
  · rw [Int.sign_eq_one_of_pos h]; omega
theorem num_pos' {x : Rat} : 0 < x.num ↔ 0 < x := by
  rw [Rat.lt_iff]; simp
theorem sign_gt {x : Rat} : decide (Int.sign x.num > 0) = decide (0 < x) := by
  apply decide_eq_decide.2
  rw [← num_pos']
  rcases Int.lt_trichotomy x.num 0 with h | h | h
  · rw [Int.sign_eq_neg_one_of_neg h]; omega
  · rw [h]; simp
  · rw [Int.sign_eq_one_of_pos h]; omega
theorem Qm4 {x : Rat} : decide (Int.sign x.num < 0) = decide (x < 0) := by
  have e : decide (x < 0) = !decide (0 ≤ x) := by
    by_cases h : 0 ≤ x
    · rw [decide_eq_true h, decide_eq_false (by rw [Rat.not_lt]; exact h)]; rfl
    · rw [decide_eq_false h, decide_eq_true (Rat.not_le.1 h)]; rfl
  rw [e, ← Qk3]
  by_cases h : Int.sign x.num < 0
  · rw [decide_eq_true h, decide_eq_false (by omega)]; rfl
  · rw [decide_eq_false h, decide_eq_true (by omega)]; rfl
theorem cmR_lt {a b : Rat} : decide (cmpR a b < 0) = decide (a < b) := decide_eq_decide.2 cmpR_lt
def boxR (q : Rat) : Obj := ⟨0, 0, [.d (.v (.bool (decide (q.num < 0)))), .d (dg (digs q.num.natAbs)), .d (.v (.bool false)), .d (dg (dd q.den))], false⟩
def boxR0 : Obj := ⟨0, 0, [.d (.v (.bool false)), .d (.z true), .d (.v (.bool false)), .d (.z true)], false⟩
theorem QqU {a b : Rat} : sz (a - b) ≤ sz a + sz b + 1 := by
  rw [Rat.sub_eq_add_neg]
  have := Qkz (a := a) (b := -b)
  rw [QqS] at this
  exact this
theorem sz_two : sz 2 ≤ 3 := Qd4 (n := 2) ⟨by omega, by omega⟩
theorem QpZ {n d : Int} (hn : I64 n) (hd : I64 d) : sz (Rat.divInt n d) ≤ 3 := Qer (by omega) (Qc2 hn) (Qc2 hd)
theorem dd_inj {a b : Nat} (ha : 0 < a) (hb : 0 < b) (h : dd a = dd b) : a = b := by
  have hn : ∀ {n : Nat}, 0 < n → digs n ≠ [] := fun hn h0 => by have := digs_length_pos.2 hn; rw [h0] at this; simp at this
  by_cases h1 : a = 1 <;> by_cases h2 : b = 1
  · omega
  · rw [h1, dd_one, Qi6 h2] at h; exact absurd h.symm (hn hb)
  · rw [h2, dd_one, Qi6 h1] at h; exact absurd h (hn ha)
  · rw [Qi6 h1, Qi6 h2] at h; exact Qqs h
theorem rat_inj {q p : Rat} (h1 : decide (q.num < 0) = decide (p.num < 0)) (h2 : dg (digs q.num.natAbs) = dg (digs p.num.natAbs)) (h3 : dg (dd q.den) = dg (dd p.den)) : q = p := by
  have e1 := Qqs (dg_inj h2)
  have e2 := dd_inj q.den_pos p.den_pos (dg_inj h3)
  have e3 : q.num < 0 ↔ p.num < 0 := by simpa using h1
  exact Rat.ext (by omega) e2

variable [Its]

end Go.AM

/- Boxes of whole numbers, folded. -/
namespace Go.AM
open Go Go.RowKit

/-- A number's two cells. -/
def cI (x : Int) : List A := [.d (.v (.bool (decide (x < 0)))), .d (dg (digs x.natAbs))]
def bI (x : Int) : Obj := ⟨0, 0, cI x, false⟩
theorem one_encI (x : Int) : A.one (.d (encI x)) = false := rfl
theorem Qsq (x : Int) : QaQ (.d (encI x)) = cI x := rfl
theorem dc_encI (x : Int) : QcU (.d (encI x)) = some [.v (.bool (decide (x < 0))), dg (digs x.natAbs)] := rfl
theorem all_cI (x : Int) : (cI x).all A.one = true := by
  simp only [cI, List.all_cons, List.all_nil, Qqg, QaL, Bool.and_self]
theorem len_cI (x : Int) : (cI x).length = 2 := rfl
theorem refs_cI (ks : List Key) (x : Int) : Qfu ks (cI x) = true := rfl
theorem ld_cI (x : Int) : Qaa (some 2) 0 (cI x) = some (.d (encI x)) := rfl
theorem ld_cI0 (x : Int) : Qaa none 0 (cI x) = some (.d (.v (.bool (decide (x < 0))))) := rfl
theorem ld_cI1 (x : Int) : Qaa none 1 (cI x) = some (.d (dg (digs x.natAbs))) := rfl
theorem st_cI (x y : Int) : Qae 0 (cI x) (cI y) = some (cI x) := rfl
theorem st_cIn (x : Int) (u v : A) : Qae 0 (cI x) [u, v] = some (cI x) := rfl
theorem ad_cI (x : Int) : allD (cI x) = some [.v (.bool (decide (x < 0))), dg (digs x.natAbs)] := rfl
theorem ag_encI (x : Int) : aggA (.d (encI x)) = some [.v (.bool (decide (x < 0))), dg (digs x.natAbs)] := rfl
theorem QmL : D.agg [.v (.bool false), .z true] = encI 0 := by
  rw [encI, show (0 : Int).natAbs = 0 from rfl, QaD]; rfl
attribute [go_sem] one_encI Qsq dc_encI all_cI len_cI refs_cI ld_cI ld_cI0 ld_cI1 st_cI st_cIn ad_cI ag_encI
end Go.AM

/- integer.Small, ref04.Small. -/
namespace Go.AM
open Go Go.RowKit

def au (u : Int) : A := .d (.v (.int .u64 u))
attribute [go_sem] au
theorem w64_hi {n : Int} (h0 : 9223372036854775808 ≤ n) (h1 : n < 18446744073709551616) : w64 n = n - 18446744073709551616 := by
  rw [← Qnf]
  unfold IntKind.wrap
  simp only [IntKind.signed, IntKind.bits, Bool.true_and, decide_eq_true_eq, ge_iff_le]
  by_cases h : (2 : Int) ^ (64 - 1) ≤ n % 2 ^ 64
  · rw [if_pos h]; omega
  · rw [if_neg h]; omega
theorem u64m {n : Int} (h0 : 0 ≤ n) (h1 : n < 18446744073709551616) : n % 18446744073709551616 = n := Int.emod_eq_of_lt h0 h1
theorem QfQ (l : List Int) (i : Nat) (h : i < l.length) : val (l.drop i) = l.getD i 0 + 1000000000 * val (l.drop (i + 1)) := by
  rw [List.drop_eq_getElem_cons h, val]
  simp [List.getD, h]
theorem Qho {l : List Int} (hd : Dig l) : ∀ i, val (l.drop i) ≤ val l
  | 0 => by rw [List.drop_zero]; exact Int.le_refl _
  | i + 1 => by
    have ih := Qho hd i
    by_cases h : i < l.length
    · rw [QfQ l i h] at ih
      have := hd.getD i
      have h2 := QaH (hd.drop (i + 1))
      omega
    · have h3 := QaH hd
      rw [List.drop_eq_nil_of_le (by omega)]
      exact h3
theorem Qrv {l : List Int} (h : l.length = 3) : ∃ a b c, l = [a, b, c] := by
  match l, h with
  | [a, b, c], _ => exact ⟨a, b, c, rfl⟩
theorem ubt_ : A.bool? (.d (.v (.tuple #[]))) = none := rfl
def smb (x : Int) : Bool := decide (-9223372036854775808 ≤ x ∧ x < 9223372036854775808)
def smv (x : Int) : Int := if -9223372036854775808 ≤ x ∧ x < 9223372036854775808 then x else 0
theorem QmF {x : Int} (h : I64 x) : smb x = true ∧ smv x = x := ⟨decide_eq_true h, if_pos h⟩
theorem QnW {x : Int} (h : ¬ I64 x) : smb x = false ∧ smv x = 0 := ⟨decide_eq_false h, if_neg h⟩
variable [Its]

section
variable {x : Int} {l : List Int} (hl : digs x.natAbs = l)
def QpB (x u i : Int) : St := mkS [(1, .ptr [1] 0), (4, au u), (5, ai i)] [([1], bI x)]
def sm_en (x u : Int) : St := mkS [(1, .ptr [1] 0), (4, au u)] [([1], bI x)]
theorem sm_stop (u : Int) : X G Qch (QpB x u (-1)) = some (.x 0, sm_en x u) := by
  have e1 : decide ((-1 : Int) ≥ 0) = false := rfl
  simp -implicitDefEqProofs (maxSteps := 10000000) only [Qch, QpB, sm_en, bI, e1, go_sem, reduceCtorEq, ↓reduceIte, Nat.reduceEqDiff, iv]
include hl
theorem sm_go (hv : val l < 18446744073709551616) {i : Nat} (hi : i < l.length) (h3 : l.length ≤ 3) : X G Qch (QpB x (val (l.drop (i + 1))) i) = some (.n, QpB x (val (l.drop i)) ((i : Int) - 1)) := by
  have hd : Dig l := hl ▸ Qas _
  have e1 : decide ((i : Int) ≥ 0) = true := ge_t (by omega)
  have e2 : w64 ((i : Int) - 1) = (i : Int) - 1 := Qac (by omega) (by omega)
  have x1 := (Rw.dg l).ixn hi
  have x2 := fun h => ldv h l hi
  have h0 := QaH (hd.drop (i + 1))
  have h1 := hd.getD i
  have h2 := QfQ l i hi
  have h4 := Qho hd i
  have h5 : val (l.drop (i + 1)) * 1000000000 + l.getD i 0 = val (l.drop i) := by omega
  generalize val (l.drop (i + 1)) = u at *
  generalize l.getD i 0 = d at *
  have e3 : u * 1000000000 % 18446744073709551616 = u * 1000000000 := u64m (by omega) (by omega)
  have e4 : d % 18446744073709551616 = d := u64m (by omega) (by omega)
  have e5 : (u * 1000000000 + d) % 18446744073709551616 = val (l.drop i) := by rw [h5]; exact u64m (by omega) (by omega)
  simp -implicitDefEqProofs (maxSteps := 10000000) only [Qch, QpB, bI, hl, x1, x2, e1, e2, e3, e4, e5, go_sem, reduceCtorEq, ↓reduceIte, Nat.reduceEqDiff, iv]
theorem sm_loop (hv : val l < 18446744073709551616) (h3 : l.length ≤ 3) : ∀ i : Nat, i ≤ l.length → X G (.loop Qch) (QpB x (val (l.drop i)) ((i : Int) - 1)) = some (.x 0, sm_en x (val l))
  | 0, _ => by
    rw [Qak, show ((0 : Nat) : Int) - 1 = -1 from rfl, sm_stop, List.drop_zero]; rfl
  | i + 1, h => by
    rw [Qak, show ((i + 1 : Nat) : Int) - 1 = (i : Int) by omega, sm_go hl hv (by omega) h3, Option.bind_some, if_pos rfl]
    exact sm_loop hv h3 i (by omega)
end

theorem Qnz {x : Int} (hx : nd x ≤ 1000000000000) : Qaj G Qgr [encI x] = some (.d (.tup [iv (smv x), bv (smb x)])) := by
  rw [Qaf (cf := integer_Small) rfl]
  obtain ⟨l, hl⟩ : ∃ l, digs x.natAbs = l := ⟨_, rfl⟩
  have hd : Dig l := hl ▸ Qas _
  have hv : val l = x.natAbs := hl ▸ QaB _
  have hn : l.length ≤ 1000000000000 := by rw [← hl]; exact hx
  have ll := QaN l
  by_cases h3 : l.length > 3
  · have e1 : decide ((l.length : Int) > 3) = true := gt_t (by omega)
    have hb : ¬ I64 x := fun h => by
      have h1 := Qc2 h
      unfold nd at h1
      rw [hl] at h1; omega
    obtain ⟨b1, b2⟩ := QnW hb
    simp -implicitDefEqProofs (maxSteps := 10000000) only [integer_Small, bI, hl, ll, e1, b1, b2, toDs, ubt_, go_sem, reduceCtorEq, ↓reduceIte, Nat.reduceEqDiff, iv, bv]
  have e1 : decide ((l.length : Int) > 3) = false := gt_f (by omega)
  by_cases hc : l.length = 3 ∧ l.getD 2 0 > 9
  · obtain ⟨a, b, c, rfl⟩ := Qrv hc.1
    have hc2 : c > 9 := hc.2
    have hdig := hd
    rw [Dig.cons, Dig.cons, Dig.cons] at hdig
    obtain ⟨d1, d2, d3, _⟩ := hdig
    have hb : ¬ I64 x := fun ⟨h1, h2⟩ => by
      simp only [val] at hv; omega
    obtain ⟨b1, b2⟩ := QnW hb
    have e2 : decide (c > 9) = true := gt_t hc2
    have e3 : ((3 : Int) == 3) = true := rfl
    have e4 : ∀ h, ixaA h 1 2 (.d (dg [a, b, c])) = some (.d (.rp [iv c])) := fun h => rfl
    have e5 : ∀ h, Qcs h none (.d (.rp [.v (.int .i64 c)])) = some (.d (.v (.int .i64 c))) := fun h => rfl
    have e6 : (((0 + 1 + 1 + 1 : Nat) : Int) == 3) = true := rfl
    simp only [List.length_cons, List.length_nil] at e1
    simp -implicitDefEqProofs (maxSteps := 10000000) only [integer_Small, bI, hl, ll, e1, e2, e3, e4, e5, e6, b1, b2, toDs, ubt_, go_sem, reduceCtorEq, ↓reduceIte, Nat.reduceEqDiff, iv, bv]
    done
  have hlt : val l < 10000000000000000000 := by
    by_cases h4 : l.length = 3
    · obtain ⟨a, b, c, rfl⟩ := Qrv h4
      have hc2 : ¬ c > 9 := fun h => hc ⟨h4, h⟩
      have hdig := hd
      rw [Dig.cons, Dig.cons, Dig.cons] at hdig
      obtain ⟨d1, d2, d3, _⟩ := hdig
      simp only [val]; omega
    · have := Qeu hd
      have h5 := QgO (n := l.length) (m := 2) (by omega)
      have h6 : (1000000000 : Int) ^ 2 = 1000000000000000000 := by decide
      omega
  have hlp := sm_loop hl (by omega) (by omega) l.length (Nat.le_refl _)
  rw [List.drop_length, hv] at hlp
  have e2 : w64 ((l.length : Int) - 1) = (l.length : Int) - 1 := Qac (by omega) (by omega)
  rw [hv] at hlt
  simp only [QpB, sm_en, bI, go_sem, val] at hlp
  have hcond : ∀ rest : Option (Ex × St), True := fun _ => trivial
  by_cases h4 : l.length = 3
  · have e3 : ((l.length : Int) == 3) = true := QkF (by omega)
    have e4 : ∀ h, ixaA h 1 2 (.d (dg l)) = some (.d (.rp ((l.drop 2).map iv))) := fun h => (Rw.dg l).ixn (j := 2) (by omega) h
    have e5 := fun h => ldv h l (j := 2) (by omega)
    have e6 : decide (l.getD 2 0 > 9) = false := gt_f (fun h => hc ⟨h4, h⟩)
    by_cases hs : x < 0
    · have s1 : decide (x < 0) = true := lt_t hs
      by_cases hm : -9223372036854775808 ≤ x
      · obtain ⟨b1, b2⟩ := QmF (x := x) ⟨hm, by omega⟩
        have e7 : decide ((x.natAbs : Int) ≤ 9223372036854775808) = true := le_t (by omega)
        have e8 : (0 - (x.natAbs : Int)) % 18446744073709551616 = 18446744073709551616 - (x.natAbs : Int) := by omega
        have e9 : w64 (18446744073709551616 - (x.natAbs : Int)) = x := by rw [w64_hi (by omega) (by omega)]; omega
        simp -implicitDefEqProofs (maxSteps := 10000000) only [integer_Small, bI, hl, ll, hlp, e1, e2, e3, e4, e5, e6, e7, e8, e9, s1, b1, b2, toDs, ubt_, go_sem, reduceCtorEq, ↓reduceIte, Nat.reduceEqDiff, iv, bv]
      · obtain ⟨b1, b2⟩ := QnW (x := x) (fun h => hm h.1)
        have e7 : decide ((x.natAbs : Int) ≤ 9223372036854775808) = false := le_f (by omega)
        simp -implicitDefEqProofs (maxSteps := 10000000) only [integer_Small, bI, hl, ll, hlp, e1, e2, e3, e4, e5, e6, e7, s1, b1, b2, toDs, ubt_, go_sem, reduceCtorEq, ↓reduceIte, Nat.reduceEqDiff, iv, bv]
    · have s1 : decide (x < 0) = false := lt_f hs
      by_cases hm : x < 9223372036854775808
      · obtain ⟨b1, b2⟩ := QmF (x := x) ⟨by omega, hm⟩
        have e7 : decide ((x.natAbs : Int) < 9223372036854775808) = true := lt_t (by omega)
        have e9 : w64 (x.natAbs : Int) = x := by rw [Qac (by omega) (by omega)]; omega
        simp -implicitDefEqProofs (maxSteps := 10000000) only [integer_Small, bI, hl, ll, hlp, e1, e2, e3, e4, e5, e6, e7, e9, s1, b1, b2, toDs, ubt_, go_sem, reduceCtorEq, ↓reduceIte, Nat.reduceEqDiff, iv, bv]
      · obtain ⟨b1, b2⟩ := QnW (x := x) (fun h => hm h.2)
        have e7 : decide ((x.natAbs : Int) < 9223372036854775808) = false := lt_f (by omega)
        simp -implicitDefEqProofs (maxSteps := 10000000) only [integer_Small, bI, hl, ll, hlp, e1, e2, e3, e4, e5, e6, e7, s1, b1, b2, toDs, ubt_, go_sem, reduceCtorEq, ↓reduceIte, Nat.reduceEqDiff, iv, bv]
  · have e3 : ((l.length : Int) == 3) = false := Qdz (by omega)
    by_cases hs : x < 0
    · have s1 : decide (x < 0) = true := lt_t hs
      by_cases hm : -9223372036854775808 ≤ x
      · obtain ⟨b1, b2⟩ := QmF (x := x) ⟨hm, by omega⟩
        have e7 : decide ((x.natAbs : Int) ≤ 9223372036854775808) = true := le_t (by omega)
        have e8 : (0 - (x.natAbs : Int)) % 18446744073709551616 = 18446744073709551616 - (x.natAbs : Int) := by omega
        have e9 : w64 (18446744073709551616 - (x.natAbs : Int)) = x := by rw [w64_hi (by omega) (by omega)]; omega
        simp -implicitDefEqProofs (maxSteps := 10000000) only [integer_Small, bI, hl, ll, hlp, e1, e2, e3, e7, e8, e9, s1, b1, b2, toDs, ubt_, go_sem, reduceCtorEq, ↓reduceIte, Nat.reduceEqDiff, iv, bv]
      · obtain ⟨b1, b2⟩ := QnW (x := x) (fun h => hm h.1)
        have e7 : decide ((x.natAbs : Int) ≤ 9223372036854775808) = false := le_f (by omega)
        simp -implicitDefEqProofs (maxSteps := 10000000) only [integer_Small, bI, hl, ll, hlp, e1, e2, e3, e7, s1, b1, b2, toDs, ubt_, go_sem, reduceCtorEq, ↓reduceIte, Nat.reduceEqDiff, iv, bv]
    · have s1 : decide (x < 0) = false := lt_f hs
      by_cases hm : x < 9223372036854775808
      · obtain ⟨b1, b2⟩ := QmF (x := x) ⟨by omega, hm⟩
        have e7 : decide ((x.natAbs : Int) < 9223372036854775808) = true := lt_t (by omega)
        have e9 : w64 (x.natAbs : Int) = x := by rw [Qac (by omega) (by omega)]; omega
        simp -implicitDefEqProofs (maxSteps := 10000000) only [integer_Small, bI, hl, ll, hlp, e1, e2, e3, e7, e9, s1, b1, b2, toDs, ubt_, go_sem, reduceCtorEq, ↓reduceIte, Nat.reduceEqDiff, iv, bv]
      · obtain ⟨b1, b2⟩ := QnW (x := x) (fun h => hm h.2)
        have e7 : decide ((x.natAbs : Int) < 9223372036854775808) = false := lt_f (by omega)
        simp -implicitDefEqProofs (maxSteps := 10000000) only [integer_Small, bI, hl, ll, hlp, e1, e2, e3, e7, s1, b1, b2, toDs, ubt_, go_sem, reduceCtorEq, ↓reduceIte, Nat.reduceEqDiff, iv, bv]
end Go.AM

/- ref04.Small. -/
namespace Go.AM
open Go Go.RowKit

theorem sgn_gt {a : Int} : decide (Int.sign a > 0) = decide (0 < a) := by
  apply decide_eq_decide.2
  rcases Int.lt_trichotomy a 0 with h | h | h
  · rw [Int.sign_eq_neg_one_of_neg h]; omega
  · subst h; simp
  · rw [Int.sign_eq_one_of_pos h]; omega
theorem sgn_lt {a : Int} : decide (Int.sign a < 0) = decide (a < 0) := by
  apply decide_eq_decide.2
  rcases Int.lt_trichotomy a 0 with h | h | h
  · rw [Int.sign_eq_neg_one_of_neg h]; omega
  · subst h; simp
  · rw [Int.sign_eq_one_of_pos h]; omega
theorem sgn_ge {a : Int} : decide (Int.sign a ≥ 0) = decide (0 ≤ a) := by
  apply decide_eq_decide.2
  rcases Int.lt_trichotomy a 0 with h | h | h
  · rw [Int.sign_eq_neg_one_of_neg h]; omega
  · subst h; simp
  · rw [Int.sign_eq_one_of_pos h]; omega
theorem sgn_le {a : Int} : decide (Int.sign a ≤ 0) = decide (a ≤ 0) := by
  apply decide_eq_decide.2
  rcases Int.lt_trichotomy a 0 with h | h | h
  · rw [Int.sign_eq_neg_one_of_neg h]; omega
  · subst h; simp
  · rw [Int.sign_eq_one_of_pos h]; omega
theorem sgn_eq {a : Int} : (Int.sign a == 0) = decide (a = 0) := by
  by_cases h : a = 0
  · subst h; rfl
  · rw [decide_eq_false h]
    refine Qdz fun h1 => h (Int.sign_eq_zero_iff_zero.1 h1)
variable [Its]
section
variable {x : Int} {l : List Int}
def Qjp (x u i : Int) : St := mkS [(1, .ptr [1] 0), (4, ai u), (5, ai i)] [([1], bI x)]
def Qqv (u : Int) : St := mkS [(4, ai u)] []
theorem rsm_stop (u : Int) : X G Qba (Qjp x u (-1)) = some (.x 0, Qqv u) := by
  have e1 : decide ((-1 : Int) ≥ 0) = false := rfl
  simp -implicitDefEqProofs (maxSteps := 10000000) only [Qba, Qjp, Qqv, bI, e1, go_sem, reduceCtorEq, ↓reduceIte, Nat.reduceEqDiff, iv]
theorem rsm_go (hl : digs x.natAbs = l) (hx : I64 x) {i : Nat} (hi : i < l.length) (h3 : l.length ≤ 1000) : X G Qba (Qjp x (sgn (decide (x < 0)) (val (l.drop (i + 1)))) i) = some (.n, Qjp x (sgn (decide (x < 0)) (val (l.drop i))) ((i : Int) - 1)) := by
  have hd : Dig l := hl ▸ Qas _
  have hv : val l = x.natAbs := hl ▸ QaB _
  have e1 : decide ((i : Int) ≥ 0) = true := ge_t (by omega)
  have e2 : w64 ((i : Int) - 1) = (i : Int) - 1 := Qac (by omega) (by omega)
  have x1 := (Rw.dg l).ixn hi
  have x2 := fun h => ldv h l hi
  have h0 := QaH (hd.drop (i + 1))
  have h1 := hd.getD i
  have h2 := QfQ l i hi
  have h4 := Qho hd i
  have h5 : val (l.drop i) = val (l.drop (i + 1)) * 1000000000 + l.getD i 0 := by omega
  obtain ⟨h6, h7⟩ := hx
  rw [h5]
  generalize val (l.drop (i + 1)) = u at *
  generalize l.getD i 0 = d at *
  by_cases hs : x < 0
  · have s1 : decide (x < 0) = true := lt_t hs
    have e3 : w64 (-u * 1000000000) = -(u * 1000000000) := by rw [Qac (by omega) (by omega)]; omega
    have e5 : w64 (-(u * 1000000000) - d) = -(u * 1000000000 + d) := by rw [Qac (by omega) (by omega)]; omega
    simp -implicitDefEqProofs (maxSteps := 10000000) only [Qba, Qjp, bI, sgn, hl, x1, x2, e1, e2, e3, e5, s1, go_sem, reduceCtorEq, ↓reduceIte, Nat.reduceEqDiff, iv]
  · have s1 : decide (x < 0) = false := lt_f hs
    have e3 : w64 (u * 1000000000) = u * 1000000000 := Qac (by omega) (by omega)
    have e5 : w64 (u * 1000000000 + d) = u * 1000000000 + d := Qac (by omega) (by omega)
    simp -implicitDefEqProofs (maxSteps := 10000000) only [Qba, Qjp, bI, sgn, hl, x1, x2, e1, e2, e3, e5, s1, go_sem, reduceCtorEq, ↓reduceIte, Nat.reduceEqDiff, iv]
theorem Qrq (hl : digs x.natAbs = l) (hx : I64 x) (h3 : l.length ≤ 1000) : ∀ i : Nat, i ≤ l.length → X G (.loop Qba) (Qjp x (sgn (decide (x < 0)) (val (l.drop i))) ((i : Int) - 1)) = some (.x 0, Qqv x)
  | 0, _ => by
    have e : sgn (decide (x < 0)) (val (l.drop 0)) = x := by
      rw [List.drop_zero, show val l = x.natAbs from hl ▸ QaB _]
      by_cases hs : x < 0
      · rw [lt_t hs]; simp only [sgn, if_true]; omega
      · rw [lt_f hs]; simp only [sgn, Bool.false_eq_true, if_false]; omega
    rw [Qak, show ((0 : Nat) : Int) - 1 = -1 from rfl, rsm_stop, e]; rfl
  | i + 1, h => by
    rw [Qak, show ((i + 1 : Nat) : Int) - 1 = (i : Int) by omega, rsm_go hl hx (by omega) h3, Option.bind_some, if_pos rfl]
    exact Qrq hl hx h3 i (by omega)
end
theorem Qp3 {x : Int} (hx : nd x ≤ 1000000000000) : Qaj G QeL [encI x] = some (.d (.tup [iv (smv x), bv (smb x)])) := by
  rw [Qaf (cf := gantryref04_Small) rfl]
  have g1 := Qdv (n := 9223372036854775807) ⟨by omega, by omega⟩
  have g2 := Qdv (n := -9223372036854775808) ⟨by omega, by omega⟩
  have g3 := QcN (x := x) (y := 9223372036854775807) hx (Nat.le_trans (Qc2 ⟨by omega, by omega⟩) (by omega))
  have g4 := QcN (x := x) (y := -9223372036854775808) hx (Nat.le_trans (Qc2 ⟨by omega, by omega⟩) (by omega))
  simp only [iv] at g1 g2 g3 g4
  have c1 := sgn_gt (a := x - 9223372036854775807)
  have c2 := sgn_lt (a := x - -9223372036854775808)
  generalize Int.sign (x - 9223372036854775807) = s1 at *
  generalize Int.sign (x - -9223372036854775808) = s2 at *
  by_cases h1 : 0 < x - 9223372036854775807
  · rw [gt_t h1] at c1
    obtain ⟨b1, b2⟩ := QnW (x := x) (fun h => by have := h.2; omega)
    simp -implicitDefEqProofs (maxSteps := 10000000) only [gantryref04_Small, bI, g1, g2, g3, g4, c1, b1, b2, toDs, ubt_, go_sem, reduceCtorEq, ↓reduceIte, Nat.reduceEqDiff, iv, bv]
  rw [gt_f h1] at c1
  by_cases h2 : x - -9223372036854775808 < 0
  · rw [lt_t h2] at c2
    obtain ⟨b1, b2⟩ := QnW (x := x) (fun h => by have := h.1; omega)
    simp -implicitDefEqProofs (maxSteps := 10000000) only [gantryref04_Small, bI, g1, g2, g3, g4, c1, c2, b1, b2, toDs, ubt_, go_sem, reduceCtorEq, ↓reduceIte, Nat.reduceEqDiff, iv, bv]
  rw [lt_f h2] at c2
  have hI : I64 x := ⟨by omega, by omega⟩
  obtain ⟨b1, b2⟩ := QmF hI
  obtain ⟨l, hl⟩ : ∃ l, digs x.natAbs = l := ⟨_, rfl⟩
  have h3 : l.length ≤ 3 := by rw [← hl]; exact Qc2 hI
  have ll := QaN l
  have e2 : w64 ((l.length : Int) - 1) = (l.length : Int) - 1 := Qac (by omega) (by omega)
  have hlp := Qrq hl hI (by omega) l.length (Nat.le_refl _)
  have e0 : sgn (decide (x < 0)) 0 = 0 := by cases decide (x < 0) <;> rfl
  rw [List.drop_length, val, e0] at hlp
  simp only [Qjp, Qqv, bI, go_sem] at hlp
  simp -implicitDefEqProofs (maxSteps := 10000000) only [gantryref04_Small, bI, g1, g2, g3, g4, c1, c2, b1, b2, hl, ll, e2, hlp, toDs, ubt_, go_sem, reduceCtorEq, ↓reduceIte, Nat.reduceEqDiff, iv, bv]
end Go.AM

/- Square roots of whole numbers: Newton's step, and halving. -/
namespace Go.AM

def IsRt (s x : Int) : Prop := 0 ≤ s ∧ s * s ≤ x ∧ x < (s + 1) * (s + 1)
theorem Qk5 {a b : Int} (ha : 0 ≤ a) (h : a ≤ b) : a * a ≤ b * b := Int.mul_le_mul h h ha (by omega)
theorem rt_le {s x t : Int} (h : IsRt s x) (ht : 0 ≤ t) (h2 : t * t ≤ x) : t ≤ s := by
  obtain ⟨h0, _, h1⟩ := h
  by_cases hc : t ≤ s
  · exact hc
  · have := Qk5 (a := s + 1) (b := t) (by omega) (by omega)
    omega
theorem rt_gt {s x t : Int} (h : IsRt s x) (ht : 0 ≤ t) (h2 : x < t * t) : s < t := by
  obtain ⟨h0, h1, _⟩ := h
  by_cases hc : s < t
  · exact hc
  · have := Qk5 (a := t) (b := s) (by omega) (by omega)
    omega
theorem rt_uniq {s t x : Int} (h : IsRt s x) (k : IsRt t x) : s = t := by
  have h1 := rt_le h k.1 k.2.1
  have h2 := rt_le k h.1 h.2.1
  omega
theorem sq_dif (s r : Int) : 0 ≤ s * s - 2 * (s * r) + r * r := by
  have e : s * s - 2 * (s * r) + r * r = (s - r) * (s - r) := by grind
  rw [e]
  rcases Int.le_total s r with h | h
  · have := Int.mul_nonneg (a := r - s) (b := r - s) (by omega) (by omega)
    have e2 : (r - s) * (r - s) = (s - r) * (s - r) := by grind
    omega
  · exact Int.mul_nonneg (by omega) (by omega)
theorem newton_ge {s x r : Int} (h : IsRt s x) (hr : 0 < r) : s ≤ (r + x / r) / 2 := by
  obtain ⟨h0, h1, _⟩ := h
  have e : (2 * s - r) * r ≤ x := by
    have := sq_dif s r
    have e : (2 * s - r) * r = 2 * (s * r) - r * r := by grind
    omega
  have := (Int.le_ediv_iff_mul_le hr).2 e
  generalize x / r = t at *
  omega
theorem newton_lt {s x r : Int} (h : IsRt s x) (hr : s < r) : (r + x / r) / 2 < r := by
  obtain ⟨h0, _, h1⟩ := h
  have h2 := Qk5 (a := s + 1) (b := r) (by omega) (by omega)
  have h3 : x / r < r := Int.ediv_lt_of_lt_mul (by omega) (by omega)
  generalize x / r = t at *
  omega
theorem rt_pos {s x : Int} (h : IsRt s x) (hx : 0 < x) : 0 < s := by
  obtain ⟨h0, h1, h2⟩ := h
  rcases Int.lt_or_eq_of_le h0 with h3 | h3
  · exact h3
  · subst h3
    exfalso
    have : (0 + 1) * (0 + 1) = (1 : Int) := by decide
    omega
/-- Halving an interval around the root. -/
theorem half_lt {lo hi : Int} (h : lo + 1 < hi) : lo < (lo + hi) / 2 ∧ (lo + hi) / 2 < hi := by omega
end Go.AM

/- integer.Root, ref04.Root. -/
namespace Go.AM
open Go Go.RowKit

theorem QmE {x r : Int} : nd (x / r) ≤ nd x := QgA (by
  rcases Int.lt_trichotomy r 0 with h | h | h
  · exact Int.natAbs_ediv_le_natAbs _ _
  · subst h; simp
  · exact Int.natAbs_ediv_le_natAbs _ _)
theorem QhH {x y : Int} (h0 : 0 ≤ x) (h : x ≤ y) : nd x ≤ nd y := QgA (by omega)
theorem QqB (m : Nat) : val (List.replicate m 0 ++ [1]) = (1000000000 : Int) ^ m := by
  rw [QeI, QdL, List.length_replicate]
  simp [val]
theorem dig_one (m : Nat) : Dig (List.replicate m 0 ++ [1]) := by
  rw [Dig.append]
  exact ⟨Dig.replicate m, fun d hd => by simp at hd; omega⟩
theorem two_ne : ((2 : Int) = 0) = False := by simp
variable [Its]
def Qoy (x r : Int) : St := mkS [(1, .ptr [1] 0), (2, .ptr [2] 0), (4, .ptr [4] 0)] [([1], bI x), ([2], ⟨0, 0, [.d (.v (.bool false)), .d (.z true)], false⟩), ([4], bI r)]
theorem rt_go {x r : Int} (hr : 0 < r) (hx : nd x ≤ 100000000000) (hk : nd r ≤ 100000000000) :
    X G Qda (Qoy x r) = if (r + x / r) / 2 ≥ r then some (.x 0, Qoy x r) else some (.n, Qoy x ((r + x / r) / 2)) := by
  have g1 := QjW (x := x) (y := r) (by omega) (by omega) (by omega)
  have n1 := QmE (x := x) (r := r)
  have g2 := Qnq (x := r) (y := x / r) (by omega) (by omega)
  have n2 := QkE (x := r) (y := x / r) (k := 100000000000) hk (by omega)
  have g3 := Qg5 (n := 2) ⟨by omega, by omega⟩
  have g4 := QjW (x := r + x / r) (y := 2) (by omega) (by omega) (Nat.le_trans (Qc2 ⟨by omega, by omega⟩) (by omega))
  have n3 := QmE (x := r + x / r) (r := 2)
  have g5 := Qe7 (x := (r + x / r) / 2) (y := r) (by omega) (by omega)
  have c := sgn_ge (a := (r + x / r) / 2 - r)
  simp only [iv] at g3 g5
  generalize (r + x / r) % 2 = m2 at *
  obtain ⟨nx, hnx⟩ : ∃ nx, (r + x / r) / 2 = nx := ⟨_, rfl⟩
  rw [hnx] at g4 g5 c ⊢
  generalize x / r = q at *
  generalize x % r = m1 at *
  generalize r + q = s at *
  generalize Int.sign (nx - r) = sg at *
  by_cases h : nx ≥ r
  · rw [show decide (0 ≤ nx - r) = true from decide_eq_true (by omega)] at c
    rw [if_pos h]
    simp -implicitDefEqProofs (maxSteps := 10000000) only [Qda, Qoy, bI, g1, g2, g3, g4, g5, c, extA, go_sem, reduceCtorEq, ↓reduceIte, Nat.reduceEqDiff, iv]
  · rw [show decide (0 ≤ nx - r) = false from decide_eq_false (by omega)] at c
    rw [if_neg h]
    simp -implicitDefEqProofs (maxSteps := 10000000) only [Qda, Qoy, bI, g1, g2, g3, g4, g5, c, extA, go_sem, reduceCtorEq, ↓reduceIte, Nat.reduceEqDiff, iv]
theorem rt_loop {x s : Int} (hx : nd x ≤ 100000000000) (hs : IsRt s x) (hs0 : 0 < s) : ∀ (n : Nat) (r : Int), r.toNat ≤ n → s ≤ r → nd r ≤ 100000000000 → X G (.loop Qda) (Qoy x r) = some (.x 0, Qoy x s)
  | 0, r, hn, hr, hk => by omega
  | n + 1, r, hn, hr, hk => by
    rw [Qak, rt_go (by omega) hx hk]
    have h1 := newton_ge hs (r := r) (by omega)
    by_cases h : s < r
    · have h2 := newton_lt hs h
      generalize (r + x / r) / 2 = nx at *
      rw [if_neg (by omega), Option.bind_some, if_pos rfl]
      exact rt_loop hx hs hs0 n nx (by omega) h1 (Nat.le_trans (QhH (by omega) (by omega)) hk)
    · have : r = s := by omega
      subst this
      generalize (r + x / r) / 2 = nx at *
      rw [if_pos (by omega)]
      rfl
theorem Root_spec {x s : Int} (hx : nd x ≤ 10000000000) (h0 : 0 ≤ x) (hs : IsRt s x) : Qaj G Qg3 [encI x] = some (.d (.tup [encI s, bv (decide (s * s = x))])) := by
  rw [Qaf (cf := integer_Root) rfl]
  obtain ⟨l, hl⟩ : ∃ l, digs x.natAbs = l := ⟨_, rfl⟩
  have ll := QaN l
  have s1 : decide (x < 0) = false := lt_f (by omega)
  have hn : l.length ≤ 10000000000 := by rw [← hl]; exact hx
  by_cases hx0 : x = 0
  · subst hx0
    have hs0 : s = 0 := by
      obtain ⟨h1, h2, _⟩ := hs
      have := sq_dif s 0
      rcases Int.lt_or_eq_of_le h1 with h3 | h3
      · have : 0 < s * s := Int.mul_pos h3 h3
        omega
      · exact h3.symm
    subst hs0
    have e1 : ((l.length : Int) == 0) = true := by rw [← hl]; exact QkF (by rw [show (0 : Int).natAbs = 0 from rfl, QaD]; rfl)
    have e2 : decide ((0 : Int) * 0 = 0) = true := rfl
    have e3 := QmL
    have st0 : ∀ u v : A, Qae 0 [A.d (.v (.bool false)), A.d (.z true)] [u, v] = some [A.d (.v (.bool false)), A.d (.z true)] := fun _ _ => rfl
    have ld0 : Qaa (some 2) 0 [A.d (.v (.bool false)), A.d (.z true)] = some (.d (encI 0)) := by rw [← QmL]; rfl
    simp -implicitDefEqProofs (maxSteps := 10000000) only [integer_Root, bI, hl, ll, s1, e1, e2, st0, ld0, QbG, ne_eq, not_false_eq_true, toDs, go_sem, reduceCtorEq, ↓reduceIte, Nat.reduceEqDiff, iv, bv]
  have hsp := rt_pos hs (show 0 < x by omega)
  have e1 : ((l.length : Int) == 0) = false := Qdz (by
    have : 0 < (digs x.natAbs).length := digs_length_pos.2 (by omega)
    rw [hl] at this; omega)
  obtain ⟨m, hm⟩ : ∃ m, (l.length + 1) / 2 = m := ⟨_, rfl⟩
  have e2 : w64 ((l.length : Int) + 1) = ((l.length + 1 : Nat) : Int) := by rw [Qac (by omega) (by omega)]; rfl
  have e3 : w64 (((l.length + 1 : Nat) : Int).tdiv 2) = (m : Int) := by
    rw [Qc7 (by omega), ← hm]
    exact Qac (by omega) (by omega)
  have e4 := bnd m (by omega)
  have o1 := Qd3 false (Rw.row (List.replicate m 0 ++ [1])) (by simp; omega) (dig_one m)
  rw [QqB] at o1
  have hdr : (digs x.natAbs).length ≤ m + m := by rw [hl]; omega
  have hlt : s ≤ (1000000000 : Int) ^ m := by
    have h1 := Qdq x
    have h2 : x.natAbs < 1000000000 ^ (m + m) := Nat.lt_of_lt_of_le h1 (QhQ hdr)
    have h3 : x < (1000000000 : Int) ^ m * (1000000000 : Int) ^ m := by
      rw [← Int.pow_add]
      have h4 : ((1000000000 ^ (m + m) : Nat) : Int) = (1000000000 : Int) ^ (m + m) := by simp
      rw [← h4]; omega
    have := rt_gt hs (t := (1000000000 : Int) ^ m) (Int.le_of_lt (Qcf m)) h3
    omega
  have hk : nd ((1000000000 : Int) ^ m) ≤ m + 1 := Qok (by
    have h4 : ((1000000000 : Int) ^ m).natAbs = 1000000000 ^ m := by rw [Int.natAbs_pow]; rfl
    rw [h4]
    exact Nat.pow_lt_pow_right (by omega) (by omega))
  have hlp := rt_loop (Nat.le_trans hx (by omega)) hs hsp _ _ (Nat.le_refl _) hlt (by omega)
  have hss : sgn false ((1000000000 : Int) ^ m) = (1000000000 : Int) ^ m := rfl
  rw [hss] at o1
  generalize (1000000000 : Int) ^ m = R at *
  have ns : nd s ≤ 10000000000 := by
    refine Nat.le_trans (QhH (by omega) hlt) (by omega)
  have g1 := QeB (x := s) (y := s) (by omega) (by omega)
  have n2 := QcX (x := s) (y := s)
  have g2 := Qe7 (x := s * s) (y := x) (by omega) (by omega)
  have c := sgn_eq (a := s * s - x)
  have c2 : decide (s * s - x = 0) = decide (s * s = x) := decide_eq_decide.2 (by omega)
  rw [c2] at c
  generalize s * s = ss at *
  generalize Int.sign (ss - x) = sg at *
  simp only [iv, bv, rowI, List.length_append, List.length_replicate, List.length_cons, List.length_nil, List.map_append, List.map_cons, List.map_nil, Nat.zero_add] at o1 g2
  simp only [Qoy, bI, go_sem] at hlp
  have f1 := Qi9 m
  have f2 := QbF (List.replicate m 0)
  have f3 : (Qby (List.replicate m 0)).length = m := by rw [Qah, List.length_replicate]
  have f4 : (m + 1) * 8 ≤ bound := by simp only [bound]; omega
  have f5 : List.all [D.v (.int .i64 1)] D.one = true := rfl
  simp -implicitDefEqProofs (maxSteps := 10000000) only [integer_Root, bI, hl, ll, s1, e1, e2, e3, e4, two_ne, f1, f2, f3, f4, f5, o1, g1, g2, hlp, c, QdJ, toDs, go_sem, reduceCtorEq, ↓reduceIte, Nat.reduceEqDiff, iv, bv]
end Go.AM

/- ref04.Root. -/
namespace Go.AM
open Go Go.RowKit
theorem nd_1 : nd 1 ≤ 3 := Qc2 ⟨by omega, by omega⟩
theorem nd_2 : nd 2 ≤ 3 := Qc2 ⟨by omega, by omega⟩
variable [Its]
def Qms (x lo hi : Int) : St := mkS [(1, .ptr [1] 0), (2, .ptr [2] 0), (4, .ptr [4] 0), (5, .ptr [5] 0), (6, .ptr [6] 0), (7, .ptr [7] 0)] [([1], bI x), ([2], box0), ([4], bI lo), ([5], bI hi), ([6], bI 1), ([7], bI 2)]
def QrZ (x lo : Int) : St := mkS [(1, .ptr [1] 0), (2, .ptr [2] 0), (4, .ptr [4] 0)] [([1], bI x), ([2], box0), ([4], bI lo)]
theorem rr_stop {x lo hi : Int} (h : ¬ lo + 1 < hi) (hk : nd lo ≤ 100000000000) (hk2 : nd hi ≤ 100000000000) : X G Qbq (Qms x lo hi) = some (.x 0, QrZ x lo) := by
  have g1 := Qgw (x := lo) (y := 1) (by omega) (Nat.le_trans nd_1 (by omega))
  have n1 := QkE (x := lo) (y := 1) (k := 100000000000) hk (Nat.le_trans nd_1 (by omega))
  have g2 := QcN (x := lo + 1) (y := hi) (by omega) (by omega)
  have c := sgn_lt (a := lo + 1 - hi)
  rw [show decide (lo + 1 - hi < 0) = false from decide_eq_false (by omega)] at c
  generalize Int.sign (lo + 1 - hi) = s at *
  generalize lo + 1 = t at *
  simp only [iv] at g2
  simp -implicitDefEqProofs (maxSteps := 10000000) only [Qbq, Qms, QrZ, box0, bI, g1, g2, c, extA, go_sem, reduceCtorEq, ↓reduceIte, Nat.reduceEqDiff, iv]
theorem rr_go {x lo hi : Int} (h : lo + 1 < hi) (h0 : 0 ≤ lo) (hx : nd x ≤ 100000000000) (hk : nd lo ≤ 100000000000) (hk2 : nd hi ≤ 100000000000) :
    X G Qbq (Qms x lo hi) = some (.n, if (lo + hi) / 2 * ((lo + hi) / 2) ≤ x then Qms x ((lo + hi) / 2) hi else Qms x lo ((lo + hi) / 2)) := by
  have g1 := Qgw (x := lo) (y := 1) (by omega) (Nat.le_trans nd_1 (by omega))
  have n1 := QkE (x := lo) (y := 1) (k := 100000000000) hk (Nat.le_trans nd_1 (by omega))
  have g2 := QcN (x := lo + 1) (y := hi) (by omega) (by omega)
  have c := sgn_lt (a := lo + 1 - hi)
  rw [show decide (lo + 1 - hi < 0) = true from decide_eq_true (by omega)] at c
  have g3 := Qgw (x := lo) (y := hi) (by omega) (by omega)
  have n2 := QkE (x := lo) (y := hi) (k := 100000000000) hk hk2
  have g4 := Qik (x := lo + hi) (y := 2) (by omega) (by omega) (Nat.le_trans nd_2 (by omega))
  have n3 := QmE (x := lo + hi) (r := 2)
  generalize (lo + hi) % 2 = m2 at *
  obtain ⟨mid, hmid⟩ : ∃ mid, (lo + hi) / 2 = mid := ⟨_, rfl⟩
  rw [hmid] at g4 n3 ⊢
  have g5 := Qdl (x := mid) (y := mid) (by omega) (by omega)
  have n4 := QcX (x := mid) (y := mid)
  have g6 := QcN (x := mid * mid) (y := x) (by omega) (by omega)
  have d := sgn_le (a := mid * mid - x)
  simp only [iv] at g2 g6
  clear n1 n2 n3 n4 hmid
  generalize Int.sign (lo + 1 - hi) = s at *
  generalize Int.sign (mid * mid - x) = s2 at *
  generalize lo + 1 = t at *
  generalize lo + hi = u at *
  generalize mid * mid = mm at *
  by_cases hc : mm ≤ x
  · rw [show decide (mm - x ≤ 0) = true from decide_eq_true (by omega)] at d
    rw [if_pos hc]
    simp -implicitDefEqProofs (maxSteps := 10000000) only [Qbq, Qms, QrZ, box0, bI, g1, g2, g3, g4, g5, g6, c, d, extA, go_sem, reduceCtorEq, ↓reduceIte, Nat.reduceEqDiff, iv]
  · rw [show decide (mm - x ≤ 0) = false from decide_eq_false (by omega)] at d
    rw [if_neg hc]
    simp -implicitDefEqProofs (maxSteps := 10000000) only [Qbq, Qms, QrZ, box0, bI, g1, g2, g3, g4, g5, g6, c, d, extA, go_sem, reduceCtorEq, ↓reduceIte, Nat.reduceEqDiff, iv]
theorem Qpp {x s : Int} (hx : nd x ≤ 100000000000) (hs : IsRt s x) : ∀ (n : Nat) (lo hi : Int), (hi - lo).toNat ≤ n → 0 ≤ lo → lo < hi → lo * lo ≤ x → x < hi * hi → nd hi ≤ 100000000000 → X G (.loop Qbq) (Qms x lo hi) = some (.x 0, QrZ x s)
  | n, lo, hi, hn, h0, h1, h2, h3, hk => by
    rw [Qak]
    have hl : nd lo ≤ 100000000000 := Nat.le_trans (QhH h0 (by omega)) hk
    by_cases h : lo + 1 < hi
    · obtain ⟨a, b⟩ := half_lt h
      rw [rr_go h h0 hx hl hk, Option.bind_some, if_pos rfl]
      generalize (lo + hi) / 2 = mid at *
      cases n with
      | zero => omega
      | succ n =>
        by_cases hc : mid * mid ≤ x
        · rw [if_pos hc]
          exact Qpp hx hs n mid hi (by omega) (by omega) b hc h3 hk
        · rw [if_neg hc]
          exact Qpp hx hs n lo mid (by omega) h0 a h2 (by omega) (Nat.le_trans (QhH (by omega) (by omega)) hk)
    · have e : s = lo := rt_uniq hs ⟨h0, h2, by
        have : hi = lo + 1 := by omega
        rw [← this]; exact h3⟩
      subst e
      rw [rr_stop h hl hk]
      rfl
theorem QsG {x s : Int} (hx : nd x ≤ 10000000000) (h0 : 0 ≤ x) (hs : IsRt s x) : Qaj G Qfg [encI x] = some (.d (.tup [encI s, bv (decide (s * s = x))])) := by
  rw [Qaf (cf := gantryref04_Root) rfl]
  obtain ⟨l, hl⟩ : ∃ l, digs x.natAbs = l := ⟨_, rfl⟩
  have ll := QaN l
  have s1 : decide (x < 0) = false := lt_f (by omega)
  have hn : l.length ≤ 10000000000 := by rw [← hl]; exact hx
  obtain ⟨m, hm⟩ : ∃ m, l.length / 2 + 1 = m := ⟨_, rfl⟩
  have e2 : w64 ((l.length : Int).tdiv 2) = ((l.length / 2 : Nat) : Int) := by
    rw [Qc7 (by omega)]
    exact Qac (by omega) (by omega)
  have e3 : w64 (((l.length / 2 : Nat) : Int) + 1) = (m : Int) := by
    rw [← hm]
    exact Qac (by omega) (by omega)
  have e4 := bnd m (by omega)
  have o1 := Qbb false (Rw.row (List.replicate m 0 ++ [1])) (by simp; omega) (dig_one m)
  rw [QqB] at o1
  have hdr : (digs x.natAbs).length ≤ m + m := by rw [hl]; omega
  have hlt : x < (1000000000 : Int) ^ m * (1000000000 : Int) ^ m := by
    have h1 := Qdq x
    have h2 : x.natAbs < 1000000000 ^ (m + m) := Nat.lt_of_lt_of_le h1 (QhQ hdr)
    rw [← Int.pow_add]
    have h4 : ((1000000000 ^ (m + m) : Nat) : Int) = (1000000000 : Int) ^ (m + m) := by simp
    rw [← h4]; omega
  have hk : nd ((1000000000 : Int) ^ m) ≤ m + 1 := Qok (by
    have h4 : ((1000000000 : Int) ^ m).natAbs = 1000000000 ^ m := by rw [Int.natAbs_pow]; rfl
    rw [h4]
    exact Nat.pow_lt_pow_right (by omega) (by omega))
  have hlp := Qpp (Nat.le_trans hx (by omega)) hs _ 0 ((1000000000 : Int) ^ m) (Nat.le_refl _) (by omega) (Qcf m) (by simpa using h0) hlt (by omega)
  have hss : sgn false ((1000000000 : Int) ^ m) = (1000000000 : Int) ^ m := rfl
  rw [hss] at o1
  have hsR : s < (1000000000 : Int) ^ m := rt_gt hs (Int.le_of_lt (Qcf m)) hlt
  generalize (1000000000 : Int) ^ m = R at *
  have ns : nd s ≤ 10000000000 := Nat.le_trans (QhH hs.1 (Int.le_of_lt hsR)) (by omega)
  have g1 := Qdl (x := s) (y := s) (by omega) (by omega)
  have n2 := QcX (x := s) (y := s)
  have g2 := QcN (x := s * s) (y := x) (by omega) (by omega)
  have g3 := Qdv (n := 1) ⟨by omega, by omega⟩
  have g4 := Qdv (n := 2) ⟨by omega, by omega⟩
  have c := sgn_eq (a := s * s - x)
  have c2 : decide (s * s - x = 0) = decide (s * s = x) := decide_eq_decide.2 (by omega)
  rw [c2] at c
  clear hlt hsR
  generalize s * s = ss at *
  generalize Int.sign (ss - x) = sg at *
  simp only [iv, bv, rowI, List.length_append, List.length_replicate, List.length_cons, List.length_nil, List.map_append, List.map_cons, List.map_nil, Nat.zero_add] at o1 g2 g3 g4
  simp only [Qms, QrZ, box0, bI, go_sem] at hlp
  have f1 := Qi9 m
  have f2 := QbF (List.replicate m 0)
  have f3 : (Qby (List.replicate m 0)).length = m := by rw [Qah, List.length_replicate]
  have f4 : (m + 1) * 8 ≤ bound := by simp only [bound]; omega
  have f5 : List.all [D.v (.int .i64 1)] D.one = true := rfl
  have z1 := QmL
  simp -implicitDefEqProofs (maxSteps := 10000000) only [gantryref04_Root, bI, hl, ll, s1, e2, e3, e4, two_ne, f1, f2, f3, f4, f5, o1, g1, g2, g3, g4, z1, hlp, c, QdJ, toDs, go_sem, reduceCtorEq, ↓reduceIte, Nat.reduceEqDiff, iv, bv]
end Go.AM

/- Points, directions, edges: rows of them; ref12's small functions. -/
namespace Go.AM
open Go Go.RowKit

abbrev Pt := Int × Int
abbrev Dr := Int × Int × Int
abbrev Eg := Dr × Int
def cP (p : Pt) : List D := [iv p.1, iv p.2]
def cD (d : Dr) : List D := [iv d.1, iv d.2.1, iv d.2.2]
def cG (e : Eg) : List D := [iv e.1.1, iv e.1.2.1, iv e.1.2.2, iv e.2]
def encP (p : Pt) : D := .agg (cP p)
def encD (d : Dr) : D := .agg (cD d)
def encG (e : Eg) : D := .agg (cG e)
theorem Qbk (p : Pt) : (cP p).length = 2 := rfl
theorem QoV (p : Dr) : (cD p).length = 3 := rfl
theorem QeT (p : Eg) : (cG p).length = 4 := rfl

/-! ### Rows of things of es cells -/
section
variable {α : Type} {en : α → List D} {es : Nat}
def rowE (en : α → List D) (l : List α) : D := .row l.length (l.flatMap en)
def RwE (en : α → List D) (d : D) (l : List α) : Prop := (d = .z true ∧ l = []) ∨ d = rowE en l
def dE (en : α → List D) (l : List α) : D := if l = [] then .z true else rowE en l
theorem dE_ok (l : List α) : RwE en (dE en l) l := by
  unfold dE
  split
  · rename_i h; exact .inl ⟨rfl, h⟩
  · exact .inr rfl
theorem QqC (hE : ∀ a, (en a).length = es) : ∀ l : List α, (l.flatMap en).length = l.length * es
  | [] => by simp
  | a :: l => by rw [List.flatMap_cons, List.length_append, hE, QqC hE l, List.length_cons, Nat.succ_mul, Nat.add_comm]
theorem QkT (hE : ∀ a, (en a).length = es) : ∀ (l : List α) (j : Nat), (l.flatMap en).drop (j * es) = (l.drop j).flatMap en
  | l, 0 => by simp
  | [], j + 1 => by simp
  | a :: l, j + 1 => by
    rw [List.flatMap_cons, List.drop_succ_cons, ← QkT hE l j, Nat.succ_mul, Nat.add_comm, ← List.drop_drop]
    rw [List.drop_left' (hE a)]
theorem RwE.len {d : D} {l : List α} (h : RwE en d l) : lenA (.d d) = some l.length := by
  rcases h with ⟨rfl, rfl⟩ | rfl <;> rfl
theorem RwE.ixa (hE : ∀ a, (en a).length = es) {d : D} {l : List α} (hr : RwE en d l) {j : Nat} (h1 : j < l.length) (h : Hp) : ixaA h es (j : Int) (.d d) = some (.d (.rp ((l.drop j).flatMap en))) := by
  rcases hr with ⟨rfl, rfl⟩ | rfl
  · simp at h1
  · simp only [rowE, ixaA, guardO]
    rw [if_pos ⟨by omega, by omega⟩]
    simp only [Int.toNat_natCast]
    rw [QkT hE]
theorem QeW [Inhabited α]  {l : List α} {j : Nat} (h : j < l.length) : l.drop j = l.getD j default :: l.drop (j + 1) := by
  rw [List.drop_eq_getElem_cons h, List.getD_eq_getElem?_getD, List.getElem?_eq_getElem h, Option.getD_some]
theorem ldE [Inhabited α] (hE : ∀ a, (en a).length = es) (h : Hp) {l : List α} {j : Nat} (h1 : j < l.length) : Qcs h (some es) (.d (.rp ((l.drop j).flatMap en))) = some (.d (.agg (en (l.getD j default)))) := by
  rw [QeW h1, List.flatMap_cons]
  simp only [Qcs, QiN, guardO]
  rw [if_pos (by rw [List.length_append, hE]; omega)]
  have : (en (l.getD j default) ++ (l.drop (j + 1)).flatMap en).take es = en (l.getD j default) := by
    rw [List.take_append_of_le_length (by rw [hE]; omega), List.take_of_length_le (by rw [hE]; omega)]
  rw [this]
theorem ldF [Inhabited α] (hE : ∀ a, (en a).length = es) (h : Hp) {l : List α} {j i : Nat} (h1 : j < l.length) (hi : i < es) : Qcs h none (.d (.rp (((l.drop j).flatMap en).drop i))) = ((en (l.getD j default))[i]?).map .d := by
  rw [QeW h1, List.flatMap_cons]
  simp only [Qcs, QiN]
  rw [List.head?_drop, List.getElem?_append_left (by rw [hE]; exact hi)]
def gAE (k : Nat) (l : List α) : A := if l = [] then .d (.z true) else .own [k] l.length
def arE (en : α → List D) (es n : Nat) (l : List α) : Obj := ⟨es, n, (l.flatMap en).map .d, false⟩
def gHE (en : α → List D) (es k : Nat) (l : List α) : List (Key × Obj) := if l = [] then [] else [([k], arE en es l.length l)]
theorem QbW (k : Nat) : gAE k ([] : List α) = .d (.z true) := rfl
theorem QbX (k : Nat) : gHE en es k [] = [] := rfl
theorem Qb9 {k : Nat} {l : List α} (h : l ≠ []) : gAE k l = .own [k] l.length := if_neg h
theorem Qcd {k : Nat} {l : List α} (h : l ≠ []) : gHE en es k l = [([k], arE en es l.length l)] := if_neg h
theorem QjX (k : Nat) (l : List α) (v : α) : gAE k (l ++ [v]) = .own [k] (l.length + 1) := by rw [Qb9 (by simp)]; simp
theorem Qj7 (k : Nat) (l : List α) (v : α) : gHE en es k (l ++ [v]) = [([k], arE en es (l.length + 1) (l ++ [v]))] := by rw [Qcd (by simp)]; simp
theorem QaO (ks : List Key) : ∀ cs : List D, Qfu ks (cs.map A.d) = true
  | [] => rfl
  | x :: r => by rw [List.map_cons, Qfu, QaO ks r]; rfl
theorem Qh2 (cs : List D) : allD (cs.map A.d) = some cs := Qlg cs
theorem lenE (hE : ∀ a, (en a).length = es) (l : List α) : ((l.flatMap en).map A.d).length = l.length * es := by rw [List.length_map, QqC hE]
theorem ldO [Inhabited α] (hE : ∀ a, (en a).length = es) {l : List α} {j : Nat} (h1 : j < l.length) : Qaa (some es) (j * es) ((l.flatMap en).map A.d) = some (.d (.agg (en (l.getD j default)))) := by
  have h2 : j * es + es ≤ l.length * es := by rw [← Nat.succ_mul]; exact Nat.mul_le_mul_right _ h1
  simp only [Qaa, guardO]
  rw [if_pos (by rw [lenE hE]; exact h2), ← List.map_drop, QkT hE, ← List.map_take, Qh2, QeW h1, List.flatMap_cons, List.take_append_of_le_length (by rw [hE]; omega), List.take_of_length_le (by rw [hE]; omega)]
  rfl
/-- What a function hands back that made the row itself. -/
def rE (en : α → List D) (es : Nat) (l : List α) : R := if l = [] then .d (.z true) else .own es l.length (l.flatMap en)
theorem QsL {l : List α} (h : l ≠ []) : rE en es l = .own es l.length (l.flatMap en) := if_neg h
end
theorem Qp4 (l : List Pt) (x y : Int) : (l.flatMap cP).map A.d ++ [.d (.v (.int .i64 x)), .d (.v (.int .i64 y))] = ((l ++ [(x, y)]).flatMap cP).map A.d := by simp [cP, iv]
theorem cD_snoc (l : List Dr) (x y z : Int) : (l.flatMap cD).map A.d ++ [.d (.v (.int .i64 x)), .d (.v (.int .i64 y)), .d (.v (.int .i64 z))] = ((l ++ [(x, y, z)]).flatMap cD).map A.d := by simp [cD, iv]
theorem QpC (l : List Eg) (x y z t : Int) : (l.flatMap cG).map A.d ++ [.d (.v (.int .i64 x)), .d (.v (.int .i64 y)), .d (.v (.int .i64 z)), .d (.v (.int .i64 t))] = ((l ++ [((x, y, z), t)]).flatMap cG).map A.d := by simp [cG, iv]
theorem Qmm (a b : D) : rep 1 [a, b] = [a, b] := rfl
theorem rep1_3 (a b c : D) : rep 1 [a, b, c] = [a, b, c] := rfl
theorem Qjz (a b c d : D) : rep 1 [a, b, c, d] = [a, b, c, d] := rfl
theorem oneI (k : IntKind) (x : Int) : (D.v (.int k x)).one = true := rfl
theorem flat1P (x y : Int) : ([(x, y)] : List Pt).flatMap cP = [.v (.int .i64 x), .v (.int .i64 y)] := rfl
theorem flat1D (x y z : Int) : ([(x, y, z)] : List Dr).flatMap cD = [.v (.int .i64 x), .v (.int .i64 y), .v (.int .i64 z)] := rfl
theorem flat1G (x y z t : Int) : ([((x, y, z), t)] : List Eg).flatMap cG = [.v (.int .i64 x), .v (.int .i64 y), .v (.int .i64 z), .v (.int .i64 t)] := rfl

/-- Small numbers. -/
def Sm (n : Int) : Prop := -100000000 ≤ n ∧ n ≤ 100000000
def SmP (p : Pt) : Prop := Sm p.1 ∧ Sm p.2
def SmD (d : Dr) : Prop := Sm d.1 ∧ Sm d.2.1 ∧ Sm d.2.2

def Qll (a b : Int) : St := mkS [(0, ai a), (1, ai b)] []
def Qrs (a : Int) : St := mkS [(0, ai a)] []
def nxP (l : List Pt) (i : Nat) : Pt := if i + 1 < l.length then l.getD (i + 1) default else l.getD 0 default
def dotI (d : Dr) (p : Pt) : Int := d.1 * p.1 + d.2.1 * p.2
theorem Qjx {a b : Int} (ha : Sm a) (hb : Sm b) : -10000000000000000 ≤ a * b ∧ a * b ≤ 10000000000000000 := by
  simp only [Sm] at ha hb
  have h1 : (a * b).natAbs ≤ 100000000 * 100000000 := by
    rw [Int.natAbs_mul]
    exact Nat.mul_le_mul (by omega) (by omega)
  omega
theorem mx_max (a b : Int) : (if b > a then b else a) = max a b := by split <;> omega
def mstN (d : Dr) (l : List Pt) : Nat → Int
  | 0 => dotI d (l.getD 0 default)
  | i + 1 => max (mstN d l i) (dotI d (l.getD i default))
def moP (d : Dr) (l : List Pt) : Int := mstN d l l.length
theorem QbE {α : Type} {p : α → Prop} {l : List α} {x : α} (h : ∀ q ∈ l, p q) (hx : p x) (i : Nat) : p (l.getD i x) := by
  rw [List.getD_eq_getElem?_getD]
  rcases Nat.lt_or_ge i l.length with h1 | h1
  · rw [List.getElem?_eq_getElem h1]; exact h _ (List.getElem_mem h1)
  · rw [List.getElem?_eq_none h1]; exact hx
theorem sm0 : Sm 0 := ⟨by omega, by omega⟩
theorem smP0 : SmP default := ⟨sm0, sm0⟩
def Qpd (d : D) (e : Dr) (o i : Int) : St := mkS [(0, .d d), (3, .ptr [3] 0), (5, ai o), (6, ai i)] [([3], ⟨0, 0, [.d (iv e.1), .d (iv e.2.1), .d (iv e.2.2)], false⟩)]
def ms_en (o : Int) : St := mkS [(5, ai o)] []
def g3 (dx dy h : Int) : Int := (Int.gcd (Int.gcd dx dy) h : Int)
def nrP (dx dy h : Int) : Dr := (dy.tdiv (g3 dx dy h), (-dx).tdiv (g3 dx dy h), h.tdiv (g3 dx dy h))
theorem QiY (a : Int) {g : Int} (hg : 0 < g) : -(a.natAbs : Int) ≤ a.tdiv g ∧ a.tdiv g ≤ (a.natAbs : Int) := by
  have h1 : (a.tdiv g).natAbs ≤ a.natAbs := by rw [Int.natAbs_tdiv]; exact Nat.div_le_self _ _
  omega
theorem g3_pos (dx dy : Int) {h : Int} (hh : 0 < h) : 0 < g3 dx dy h := by
  unfold g3
  have := Int.gcd_pos_of_ne_zero_right ((Int.gcd dx dy : Nat) : Int) (b := h) (by omega)
  omega
theorem QlA (a b c : D) : Qae 0 [.d a, .d b, .d c] [.d (.v (.int .i64 0)), .d (.v (.int .i64 0)), .d (.v (.int .i64 0))] = some [.d a, .d b, .d c] := rfl
def mvP (tx ty : Int) (p : Pt) : Pt := (p.1 + tx, p.2 + ty)
def QmC (d : D) (tx ty : Int) (L : List Pt) (i : Int) : St := mkS [(0, .d d), (1, ai tx), (2, ai ty), (7, gAE 32 L), (8, ai i)] (gHE cP 2 32 L)
def mv_en (L : List Pt) : St := mkS [(7, gAE 32 L)] (gHE cP 2 32 L)
def spB (c k m : Int) : List Pt :=
  if c = 0 ∨ c = 1 ∨ c = 2 then [(0, 0), (2 * k, 0), (2 * k, m), (0, m)]
  else if c = 3 then [(0, 0), (4 * k, 0), (0, 3 * k)]
  else if c = 4 then [(0, 0), (4 * k, -3 * k), (8 * k, 0), (4 * k, 3 * k)]
  else if c = 5 then [(0, 0), (8 * k, 0), (8 * k, m), (4 * k, m + 3 * k), (0, m)]
  else [(0, 0), (6 * k, 0), (3 * k, 4 * k)]
def spC (l : List Int) : Int := atr l 0 7
def spK (l : List Int) : Int := 1 + atr l 1 3
def spM (l : List Int) : Int := 1 + atr l 2 6
def spX (l : List Int) : Int := atr l 3 5 - 2
def spY (l : List Int) : Int := atr l 4 5 - 2
def spP (l : List Int) : List Pt := (spB (spC l) (spK l) (spM l)).map (mvP (spX l) (spY l))
theorem sh_b (l : List Int) : (0 ≤ spC l ∧ spC l < 7) ∧ (1 ≤ spK l ∧ spK l < 4) ∧ (1 ≤ spM l ∧ spM l < 7) ∧ (-2 ≤ spX l ∧ spX l < 3) ∧ (-2 ≤ spY l ∧ spY l < 3) := by
  have h1 := QrT l 0 (m := 7) (by omega)
  have h2 := QrT l 1 (m := 3) (by omega)
  have h3 := QrT l 2 (m := 6) (by omega)
  have h4 := QrT l 3 (m := 5) (by omega)
  have h5 := QrT l 4 (m := 5) (by omega)
  unfold spC spK spM spX spY
  omega
variable [Its]
theorem QoR {n : Int} (hn : -4000000000000000000 ≤ n ∧ n ≤ 4000000000000000000) : Qaj G Qd2 [iv n] = some (.d (iv (n.natAbs : Int))) := by
  rw [Qaf (cf := gantryref12_size) rfl]
  have e1 : w64 (0 - n) = -n := by rw [Qac (by omega) (by omega)]; omega
  have e2 : (if -n > n then -n else n) = ((n.natAbs : Nat) : Int) := by split <;> omega
  generalize ((n.natAbs : Nat) : Int) = z at *
  simp -implicitDefEqProofs (maxSteps := 10000000) only [gantryref12_size, QhC, mxV, go_sem, iv, bv, e1, e2, reduceCtorEq, ↓reduceIte, Nat.reduceEqDiff]

theorem QqP : ∀ (n : Nat) (a b : Int), b.natAbs < n → 0 ≤ a → 0 ≤ b → X G (.loop Qbi) (Qll a b) = some (.x 0, Qrs (Int.gcd a b : Int))
  | 0, a, b, h, _, _ => by omega
  | n + 1, a, b, h, ha, hb => by
    by_cases h0 : b = 0
    · subst h0
      have e1 : ((0 : Int) != 0) = false := rfl
      have e2 : ((Int.gcd a 0 : Nat) : Int) = a := by rw [Int.gcd_zero_right]; omega
      rw [e2]
      have g : X G Qbi (Qll a 0) = some (.x 0, Qrs a) := by
        simp -implicitDefEqProofs (maxSteps := 10000000) only [Qbi, Qll, Qrs, go_sem, iv, bv, e1, reduceCtorEq, ↓reduceIte, Nat.reduceEqDiff]
      rw [Qak, g]; rfl
    · have e1 : (b != 0) = true := by simpa using h0
      have e2 := Qix (b := b) h0
      have e3 := QcF (a := a) (b := b) ha
      have g : X G Qbi (Qll a b) = some (.n, Qll b (a % b)) := by
        simp -implicitDefEqProofs (maxSteps := 10000000) only [Qbi, Qll, go_sem, iv, bv, e1, e2, e3, reduceCtorEq, ↓reduceIte, Nat.reduceEqDiff]
      have h1 := Int.emod_nonneg a h0
      have h2 := Int.emod_lt_of_pos a (b := b) (by omega)
      have ih := QqP n b (a % b) (by omega) hb h1
      have e4 : Int.gcd b (a % b) = Int.gcd a b := by
        obtain ⟨u, rfl⟩ := Int.eq_ofNat_of_zero_le ha
        obtain ⟨v, rfl⟩ := Int.eq_ofNat_of_zero_le hb
        show Nat.gcd v _ = Nat.gcd u v
        rw [← Int.natCast_emod, Int.natAbs_natCast, Nat.gcd_comm v, ← Nat.gcd_rec v u |>.symm.trans (Nat.gcd_comm v u)]
      rw [Qak, g, Option.bind_some, if_pos rfl, ih, e4]
theorem QjF {a b : Int} (ha : 0 ≤ a) (hb : 0 ≤ b) : Qaj G Qc6 [iv a, iv b] = some (.d (iv (Int.gcd a b : Int))) := by
  rw [Qaf (cf := gantryref12_divisor) rfl]
  have g := QqP (b.natAbs + 1) a b (by omega) ha hb
  generalize ((Int.gcd a b : Nat) : Int) = z at *
  simp only [Qll, Qrs, go_sem] at g
  simp -implicitDefEqProofs (maxSteps := 10000000) only [gantryref12_divisor, g, go_sem, iv, bv, reduceCtorEq, ↓reduceIte, Nat.reduceEqDiff]

theorem Qol {d : Dr} (h : SmD d) : Qaj G Qd0 [encD d] = some (.d (encD (-d.1, -d.2.1, d.2.2))) := by
  rw [Qaf (cf := gantryref12_Turn) rfl]
  obtain ⟨x, y, z⟩ := d
  obtain ⟨h1, h2, h3⟩ := h
  simp only [Sm] at h1 h2 h3
  have e1 : w64 (0 - x) = -x := by rw [Qac (by omega) (by omega)]; omega
  have e2 : w64 (0 - y) = -y := by rw [Qac (by omega) (by omega)]; omega
  simp -implicitDefEqProofs (maxSteps := 10000000) only [gantryref12_Turn, encD, cD, Qae, Qaa, go_sem, iv, bv, e1, e2, reduceCtorEq, ↓reduceIte, Nat.reduceEqDiff]

theorem Qoe {d : D} {l : List Pt} (hr : RwE cP d l) {i : Nat} (hi : i < l.length) (hl : l.length ≤ 1000000) : Qaj G QdM [d, iv (i : Int)] = some (.d (encP (nxP l i))) := by
  rw [Qaf (cf := gantryref12_Next) rfl]
  have ll := hr.len
  have e1 : w64 ((i : Int) + 1) = ((i + 1 : Nat) : Int) := by rw [Qac (by omega) (by omega)]; rfl
  unfold nxP
  by_cases h : i + 1 < l.length
  · have e2 : decide (((i + 1 : Nat) : Int) < (l.length : Int)) = true := lt_t (by omega)
    have x1 := hr.ixa Qbk h
    have x2 := fun hp => ldE Qbk hp h
    rw [if_pos h]
    generalize l.getD (i + 1) default = q at *
    obtain ⟨x, y⟩ := q
    simp only [cP, iv] at x2
    simp -implicitDefEqProofs (maxSteps := 10000000) only [gantryref12_Next, encP, cP, Qae, Qaa, go_sem, iv, bv, e1, e2, ll, x1, x2, reduceCtorEq, ↓reduceIte, Nat.reduceEqDiff]
  · have e2 : decide (((i + 1 : Nat) : Int) < (l.length : Int)) = false := lt_f (by omega)
    have x1 := hr.ixa (j := 0) Qbk (by omega)
    have x2 := fun hp => ldE (j := 0) (l := l) Qbk hp (by omega)
    simp only [nc0, List.drop_zero] at x1 x2
    rw [if_neg h]
    generalize l.getD 0 default = q at *
    obtain ⟨x, y⟩ := q
    simp only [cP, iv] at x2
    simp -implicitDefEqProofs (maxSteps := 10000000) only [gantryref12_Next, encP, cP, Qae, Qaa, go_sem, iv, bv, e1, e2, ll, x1, x2, reduceCtorEq, ↓reduceIte, Nat.reduceEqDiff]

theorem ms_go {d : D} {l : List Pt} {e : Dr} (hr : RwE cP d l) (hl : ∀ p ∈ l, SmP p) (he : SmD e) (hn : l.length ≤ 1000000) {o : Int} {i : Nat} (hi : i < l.length) : X G QbN (Qpd d e o i) = some (.n, Qpd d e (max o (dotI e (l.getD i default))) ((i + 1 : Nat) : Int)) := by
  have ll := hr.len
  have e1 : decide ((i : Int) < (l.length : Int)) = true := lt_t (by omega)
  have e2 : w64 ((i : Int) + 1) = ((i + 1 : Nat) : Int) := by rw [Qac (by omega) (by omega)]; rfl
  have x1 := hr.ixa Qbk hi
  have x2 := fun hp => ldF (i := 0) Qbk hp hi (by omega)
  have x3 := fun hp => ldF (i := 1) Qbk hp hi (by omega)
  have hp := QbE hl smP0 i
  unfold dotI
  generalize l.getD i default = q at *
  obtain ⟨x, y⟩ := q
  obtain ⟨a, b, c⟩ := e
  obtain ⟨h1, h2, h3⟩ := he
  have m1 := Qjx h1 hp.1
  have m2 := Qjx h2 hp.2
  dsimp only at m1 m2 ⊢
  have e3 : w64 (a * x) = a * x := Qac (by omega) (by omega)
  have e4 : w64 (b * y) = b * y := Qac (by omega) (by omega)
  obtain ⟨s, hs⟩ : ∃ s, a * x + b * y = s := ⟨_, rfl⟩
  have e5 : w64 (a * x + b * y) = s := by rw [Qac (by omega) (by omega), hs]
  have e6 := mx_max o s
  rw [hs]
  simp only [cP, iv, List.getElem?_cons_zero, List.getElem?_cons_succ, Option.map_some, List.drop_zero] at x2 x3
  simp -implicitDefEqProofs (maxSteps := 10000000) only [QbN, Qpd, QhC, mxV, Qae, Qaa, go_sem, iv, bv, e1, e2, e3, e4, e5, e6, ll, x1, x2, x3, reduceCtorEq, ↓reduceIte, Nat.reduceEqDiff]
theorem ms_stop {d : D} {l : List Pt} {e : Dr} (hr : RwE cP d l) {o : Int} : X G QbN (Qpd d e o l.length) = some (.x 0, ms_en o) := by
  have ll := hr.len
  have e1 : decide ((l.length : Int) < (l.length : Int)) = false := lt_f (by omega)
  simp -implicitDefEqProofs (maxSteps := 10000000) only [QbN, Qpd, ms_en, go_sem, iv, bv, e1, ll, reduceCtorEq, ↓reduceIte, Nat.reduceEqDiff]
theorem ms_loop {d : D} {l : List Pt} {e : Dr} (hr : RwE cP d l) (hl : ∀ p ∈ l, SmP p) (he : SmD e) (hn : l.length ≤ 1000000) : ∀ (j i : Nat), i + j = l.length → X G (.loop QbN) (Qpd d e (mstN e l i) i) = some (.x 0, ms_en (moP e l))
  | 0, i, h => by
    have : i = l.length := by omega
    subst this
    rw [Qak, ms_stop hr]; rfl
  | j + 1, i, h => by
    rw [Qak, ms_go hr hl he hn (by omega), Option.bind_some, if_pos rfl]
    exact ms_loop hr hl he hn j (i + 1) (by omega)
theorem Qnv {d : D} {l : List Pt} {e : Dr} (hr : RwE cP d l) (h0 : 0 < l.length) (hl : ∀ p ∈ l, SmP p) (he : SmD e) (hn : l.length ≤ 1000000) : Qaj G QdR [d, encD e] = some (.d (iv (moP e l))) := by
  rw [Qaf (cf := gantryref12_Most) rfl]
  have g := ms_loop hr hl he hn l.length 0 (by omega)
  have x1 := hr.ixa (j := 0) Qbk h0
  have x2 := fun hp => ldF (i := 0) (l := l) Qbk hp h0 (by omega)
  have x3 := fun hp => ldF (i := 1) (l := l) Qbk hp h0 (by omega)
  have hp := QbE hl smP0 0
  simp only [mstN, dotI] at g
  generalize l.getD 0 default = q at *
  obtain ⟨x, y⟩ := q
  obtain ⟨a, b, c⟩ := e
  obtain ⟨h1, h2, h3⟩ := he
  have m1 := Qjx h1 hp.1
  have m2 := Qjx h2 hp.2
  dsimp only at m1 m2 g
  have e3 : w64 (a * x) = a * x := Qac (by omega) (by omega)
  have e4 : w64 (b * y) = b * y := Qac (by omega) (by omega)
  obtain ⟨s, hs⟩ : ∃ s, a * x + b * y = s := ⟨_, rfl⟩
  have e5 : w64 (a * x + b * y) = s := by rw [Qac (by omega) (by omega), hs]
  rw [hs] at g
  simp only [cP, iv, List.getElem?_cons_zero, List.getElem?_cons_succ, Option.map_some, List.drop_zero] at x2 x3
  generalize moP (a, b, c) l = z at *
  simp only [nc0, List.drop_zero] at x1 x2 x3
  simp only [Qpd, ms_en, iv, go_sem] at g
  simp -implicitDefEqProofs (maxSteps := 10000000) only [gantryref12_Most, encD, cD, g, Qae, Qaa, go_sem, iv, bv, e3, e4, e5, x1, x2, x3, reduceCtorEq, ↓reduceIte, Nat.reduceEqDiff]

/-! ### Normals -/
theorem QnK {a b : Pt} {h : Int} (ha : SmP a) (hb : SmP b) (hh : h * h = (b.1 - a.1) * (b.1 - a.1) + (b.2 - a.2) * (b.2 - a.2)) (h0 : 0 < h) : Qaj G QdN [encP a, encP b] = some (.d (.tup [encD (nrP (b.1 - a.1) (b.2 - a.2) h), bv true])) := by
  rw [Qaf (cf := gantryref12_Norm) rfl]
  obtain ⟨ax, ay⟩ := a
  obtain ⟨bx, byy⟩ := b
  obtain ⟨h1, h2⟩ := ha
  obtain ⟨h3, h4⟩ := hb
  simp only [Sm] at h1 h2 h3 h4
  dsimp only at hh ⊢
  obtain ⟨dx, hdx⟩ : ∃ z, bx - ax = z := ⟨_, rfl⟩
  obtain ⟨dy, hdy⟩ : ∃ z, byy - ay = z := ⟨_, rfl⟩
  have e1 : w64 (bx - ax) = dx := by rw [Qac (by omega) (by omega), hdx]
  have e2 : w64 (byy - ay) = dy := by rw [Qac (by omega) (by omega), hdy]
  rw [hdx, hdy] at hh
  rw [hdx, hdy]
  have b1 : -200000000 ≤ dx ∧ dx ≤ 200000000 := by omega
  have b2 : -200000000 ≤ dy ∧ dy ≤ 200000000 := by omega
  clear hdx hdy h1 h2 h3 h4
  have sq : ∀ z : Int, -200000000 ≤ z ∧ z ≤ 200000000 → 0 ≤ z * z ∧ z * z ≤ 40000000000000000 := by
    intro z hz
    have h1 : (z * z).natAbs ≤ 200000000 * 200000000 := by
      rw [Int.natAbs_mul]
      exact Nat.mul_le_mul (by omega) (by omega)
    have h2 : 0 ≤ z * z := by
      rcases Int.le_total 0 z with h | h
      · exact Int.mul_nonneg h h
      · exact Int.mul_nonneg_of_nonpos_of_nonpos h h
    omega
  have q1 := sq dx b1
  have q2 := sq dy b2
  clear sq
  obtain ⟨p1, hp1⟩ : ∃ z, dx * dx = z := ⟨_, rfl⟩
  obtain ⟨p2, hp2⟩ : ∃ z, dy * dy = z := ⟨_, rfl⟩
  obtain ⟨s, hs⟩ : ∃ z, p1 + p2 = z := ⟨_, rfl⟩
  have e3 : w64 (dx * dx) = p1 := by rw [Qac (by omega) (by omega), hp1]
  have e4 : w64 (dy * dy) = p2 := by rw [Qac (by omega) (by omega), hp2]
  have e5 : w64 (p1 + p2) = s := by rw [Qac (by omega) (by omega), hs]
  rw [hp1, hp2, hs] at hh
  have hh2 : h < 1000000000 := by
    apply Classical.byContradiction
    intro hc
    have := Qk5 (a := 1000000000) (b := h) (by omega) (by omega)
    omega
  have hI : I64 (s) := ⟨by omega, by omega⟩
  have hrt : IsRt h s := by
    refine ⟨by omega, by omega, ?_⟩
    have e : (h + 1) * (h + 1) = h * h + 2 * h + 1 := by grind
    omega
  have g1 := Qdv hI
  have g2 := QsG (x := s) (Nat.le_trans (Qc2 hI) (by omega)) (by omega) hrt
  have hhI : I64 h := ⟨by omega, by omega⟩
  have g4 := Qp3 (x := h) (Nat.le_trans (Qc2 hhI) (by omega))
  rw [(QmF hhI).1, (QmF hhI).2] at g4
  rw [decide_eq_true hh] at g2
  have g5 := QoR (n := dx) (by omega)
  have g6 := QoR (n := dy) (by omega)
  have g7 := QjF (a := (dx.natAbs : Int)) (b := (dy.natAbs : Int)) (by omega) (by omega)
  have g8 := QjF (a := (Int.gcd dx dy : Int)) (b := h) (by omega) (by omega)
  have e6 : Int.gcd (dx.natAbs : Int) (dy.natAbs : Int) = Int.gcd dx dy := by simp [Int.gcd]
  rw [e6] at g7
  have gp := g3_pos dx dy h0
  have e7 : (Int.gcd (Int.gcd dx dy) h : Int) = g3 dx dy h := rfl
  rw [e7] at g8
  unfold nrP
  obtain ⟨g, hg⟩ : ∃ g, g3 dx dy h = g := ⟨_, rfl⟩
  rw [hg] at g8 gp ⊢
  have e8 := Qix (b := g) (by omega)
  have e9 : w64 (0 - dx) = -dx := by rw [Qac (by omega) (by omega)]; omega
  have t1 := QiY dy gp
  have t2 := QiY (-dx) gp
  have t3 := QiY h gp
  have f1 : w64 (dy.tdiv g) = dy.tdiv g := Qac (by omega) (by omega)
  have f2 : w64 ((-dx).tdiv g) = (-dx).tdiv g := Qac (by omega) (by omega)
  have f3 : w64 (h.tdiv g) = h.tdiv g := Qac (by omega) (by omega)
  have f4 : (h == 0) = false := Qdz (by omega)
  clear t1 t2 t3 q1 q2
  have u1 := Qcu (digs h.natAbs)
  simp only [encI, iv, bv] at g1 g2 g4 g5 g6 g7 g8
  generalize digs h.natAbs = dh at *
  generalize decide (h < 0) = sh at *
  simp -implicitDefEqProofs (maxSteps := 10000000) only [gantryref12_Norm, toDs, encP, cP, encD, cD, QlA, Qae, Qaa, Qaz, QaL, u1, g1, g2, g4, g5, g6, g7, g8, e1, e2, e3, e4, e5, e8, e9, f1, f2, f3, f4, Bool.not_true, Bool.not_false, go_sem, iv, bv, reduceCtorEq, ↓reduceIte, Nat.reduceEqDiff]

/-! ### Moved shapes -/
theorem mv_go {d : D} {l : List Pt} {tx ty : Int} (hr : RwE cP d l) (hl : ∀ p ∈ l, SmP p) (hx : Sm tx) (hy : Sm ty) (hn : l.length ≤ 1000000) {L : List Pt} (hL : L.length ≤ 1000000) {i : Nat} (hi : i < l.length) :
    X G Qa3 (QmC d tx ty L i) = some (.n, QmC d tx ty (L ++ [mvP tx ty (l.getD i default)]) ((i + 1 : Nat) : Int)) := by
  have ll := hr.len
  have e1 : decide ((i : Int) < (l.length : Int)) = true := lt_t (by omega)
  have e2 : w64 ((i : Int) + 1) = ((i + 1 : Nat) : Int) := by rw [Qac (by omega) (by omega)]; rfl
  have x1 := hr.ixa Qbk hi
  have x2 := fun hp => ldF (i := 0) Qbk hp hi (by omega)
  have x3 := fun hp => ldF (i := 1) Qbk hp hi (by omega)
  have hp := QbE hl smP0 i
  generalize l.getD i default = q at *
  obtain ⟨x, y⟩ := q
  obtain ⟨h1, h2⟩ := hp
  simp only [Sm] at h1 h2 hx hy
  obtain ⟨u, hu⟩ : ∃ u, x + tx = u := ⟨_, rfl⟩
  obtain ⟨v, hv⟩ : ∃ v, y + ty = v := ⟨_, rfl⟩
  have e3 : w64 (x + tx) = u := by rw [Qac (by omega) (by omega), hu]
  have e4 : w64 (y + ty) = v := by rw [Qac (by omega) (by omega), hv]
  simp only [cP, iv, List.getElem?_cons_zero, List.getElem?_cons_succ, Option.map_some, List.drop_zero] at x2 x3
  unfold mvP
  dsimp only
  rw [hu, hv]
  by_cases h0 : L = []
  · subst h0
    have hb : (16 ≤ bound) = True := eq_true (by unfold bound; omega)
    have hb1 : (1 * 16 ≤ bound) = True := eq_true (by unfold bound; omega)
    have hq : ([(u, v)] : List Pt) ≠ [] := by simp
    simp -implicitDefEqProofs (maxSteps := 10000000) only [Qa3, QmC, QbW, QbX, Qb9 hq, Qcd hq, arE, flat1P, Qad, List.nil_append, List.cons_append, List.length_nil, List.length_cons, Nat.zero_add, List.map_cons, List.map_nil, Qmm, oneI, srcS, src, allD, hb, hb1, ll, x1, x2, x3, go_sem, iv, bv, e1, e2, e3, e4, reduceCtorEq, ↓reduceIte, Nat.reduceEqDiff]
  · have n3 := lenE Qbk L
    have n4 : ((L.length + 1) * 16 ≤ bound) = True := eq_true (by unfold bound; omega)
    simp -implicitDefEqProofs (maxSteps := 10000000) only [Qa3, QmC, Qb9 h0, Qcd h0, QjX, Qj7, arE, Qp4, QaO, n3, n4, List.nil_append, List.cons_append, List.length_nil, List.length_cons, Nat.zero_add, List.map_cons, List.map_nil, List.all_cons, List.all_nil, Qmm, oneI, srcS, src, allD, ll, x1, x2, x3, go_sem, iv, bv, e1, e2, e3, e4, reduceCtorEq, ↓reduceIte, Nat.reduceEqDiff]
theorem mv_stop {d : D} {l : List Pt} {tx ty : Int} (hr : RwE cP d l) {L : List Pt} : X G Qa3 (QmC d tx ty L l.length) = some (.x 0, mv_en L) := by
  have ll := hr.len
  have e1 : decide ((l.length : Int) < (l.length : Int)) = false := lt_f (by omega)
  by_cases h0 : L = []
  · subst h0
    simp -implicitDefEqProofs (maxSteps := 10000000) only [Qa3, QmC, mv_en, QbW, QbX, Qad, ll, go_sem, iv, bv, e1, reduceCtorEq, ↓reduceIte, Nat.reduceEqDiff]
  · simp -implicitDefEqProofs (maxSteps := 10000000) only [Qa3, QmC, mv_en, Qb9 h0, Qcd h0, arE, QaO, ll, go_sem, iv, bv, e1, reduceCtorEq, ↓reduceIte, Nat.reduceEqDiff]
theorem mv_loop {d : D} {l : List Pt} {tx ty : Int} (hr : RwE cP d l) (hl : ∀ p ∈ l, SmP p) (hx : Sm tx) (hy : Sm ty) (hn : l.length ≤ 1000000) : ∀ (j i : Nat), i + j = l.length → X G (.loop Qa3) (QmC d tx ty ((l.take i).map (mvP tx ty)) i) = some (.x 0, mv_en (l.map (mvP tx ty)))
  | 0, i, h => by
    have : i = l.length := by omega
    subst this
    rw [Qak, mv_stop hr, List.take_length]; rfl
  | j + 1, i, h => by
    have hi : i < l.length := by omega
    have ih := mv_loop hr hl hx hy hn j (i + 1) (by omega)
    have e : (l.take (i + 1)).map (mvP tx ty) = (l.take i).map (mvP tx ty) ++ [mvP tx ty (l.getD i default)] := by
      rw [List.take_add_one, List.map_append, List.getElem?_eq_getElem hi, List.getD_eq_getElem?_getD, List.getElem?_eq_getElem hi]
      rfl
    rw [e] at ih
    rw [Qak, mv_go hr hl hx hy hn (by simp; omega) hi, Option.bind_some, if_pos rfl]
    exact ih
theorem Move_spec {d : D} {l : List Pt} {tx ty : Int} (hr : RwE cP d l) (hl : ∀ p ∈ l, SmP p) (hx : Sm tx) (hy : Sm ty) (hn : l.length ≤ 1000000) : Qaj G Qe2 [d, iv tx, iv ty] = some (rE cP 2 (l.map (mvP tx ty))) := by
  rw [Qaf (cf := gantryref12_Move) rfl]
  have g := mv_loop hr hl hx hy hn l.length 0 (by omega)
  simp only [List.take_zero, List.map_nil] at g
  generalize l.map (mvP tx ty) = L at *
  simp only [QmC, mv_en, QbW, QbX, Qad, go_sem, nc0, iv] at g
  by_cases h0 : L = []
  · subst h0
    simp only [QbW, QbX, Qad, go_sem] at g
    simp -implicitDefEqProofs (maxSteps := 10000000) only [gantryref12_Move, rE, g, Qad, go_sem, iv, bv, reduceCtorEq, ↓reduceIte, Nat.reduceEqDiff]
  · simp only [Qb9 h0, Qcd h0, arE, go_sem] at g
    simp -implicitDefEqProofs (maxSteps := 10000000) only [gantryref12_Move, QsL h0, g, QaO, Qh2, Qad, go_sem, iv, bv, reduceCtorEq, ↓reduceIte, Nat.reduceEqDiff]

/-! ### Shapes -/
end Go.AM

/- ref12.Shape and Sides. -/
namespace Go.AM
open Go Go.RowKit

theorem QnM (a b : D) : rep 4 [a, b] = [a, b, a, b, a, b, a, b] := rfl
theorem rep3_2 (a b : D) : rep 3 [a, b] = [a, b, a, b, a, b] := rfl
theorem rep5_2 (a b : D) : rep 5 [a, b] = [a, b, a, b, a, b, a, b, a, b] := rfl
theorem spB_sm {c k m : Int} (hk : 1 ≤ k ∧ k < 4) (hm : 1 ≤ m ∧ m < 7) : ∀ p ∈ spB c k m, -9 ≤ p.1 ∧ p.1 ≤ 24 ∧ -9 ≤ p.2 ∧ p.2 ≤ 24 := by
  intro p hp
  unfold spB at hp
  split at hp
  · simp only [List.mem_cons, List.not_mem_nil, or_false] at hp
    rcases hp with rfl | rfl | rfl | rfl <;> (dsimp only; omega)
  split at hp
  · simp only [List.mem_cons, List.not_mem_nil, or_false] at hp
    rcases hp with rfl | rfl | rfl <;> (dsimp only; omega)
  split at hp
  · simp only [List.mem_cons, List.not_mem_nil, or_false] at hp
    rcases hp with rfl | rfl | rfl | rfl <;> (dsimp only; omega)
  split at hp
  · simp only [List.mem_cons, List.not_mem_nil, or_false] at hp
    rcases hp with rfl | rfl | rfl | rfl | rfl <;> (dsimp only; omega)
  · simp only [List.mem_cons, List.not_mem_nil, or_false] at hp
    rcases hp with rfl | rfl | rfl <;> (dsimp only; omega)
theorem QmZ (c k m : Int) : 3 ≤ (spB c k m).length ∧ (spB c k m).length ≤ 5 := by
  unfold spB
  repeat' split
  all_goals simp
variable [Its]

set_option maxHeartbeats 2000000 in
theorem QgD {d : D} {l : List Int} (hr : Rw d l) (hl : ∀ n ∈ l, I64 n) : Qaj G Qcc [d] = some (.d (rowE cP (spP l))) := by
  rw [Qaf (cf := gantryref12_Shape) rfl]
  have g0 := Qc9 (i := 0) (m := 7) hr hl (by omega)
  have g1 := Qc9 (i := 1) (m := 3) hr hl (by omega)
  have g2 := Qc9 (i := 2) (m := 6) hr hl (by omega)
  have g3 := Qc9 (i := 3) (m := 5) hr hl (by omega)
  have g4 := Qc9 (i := 4) (m := 5) hr hl (by omega)
  obtain ⟨bc, bk, bm, bx, by_⟩ := sh_b l
  have sb := spB_sm (c := spC l) bk bm
  unfold spP
  unfold spC spK spM spX spY at *
  obtain ⟨k, hk⟩ : ∃ k, 1 + atr l 1 3 = k := ⟨_, rfl⟩
  obtain ⟨m, hm⟩ : ∃ k, 1 + atr l 2 6 = k := ⟨_, rfl⟩
  obtain ⟨x, hx⟩ : ∃ k, atr l 3 5 - 2 = k := ⟨_, rfl⟩
  obtain ⟨y, hy⟩ : ∃ k, atr l 4 5 - 2 = k := ⟨_, rfl⟩
  obtain ⟨c, hc⟩ : ∃ k, atr l 0 7 = k := ⟨_, rfl⟩
  rw [hc] at g0 bc sb
  have e1 : w64 (1 + atr l 1 3) = k := by rw [Qac (by omega) (by omega), hk]
  have e2 : w64 (1 + atr l 2 6) = m := by rw [Qac (by omega) (by omega), hm]
  have e3 : w64 (atr l 3 5 - 2) = x := by rw [Qac (by omega) (by omega), hx]
  have e4 : w64 (atr l 4 5 - 2) = y := by rw [Qac (by omega) (by omega), hy]
  rw [hk] at bk sb
  rw [hm] at bm sb
  rw [hx] at bx
  rw [hy] at by_
  rw [hc, hk, hm, hx, hy]
  clear hk hm hx hy hc
  have hsm : ∀ p ∈ spB c k m, SmP p := fun p hp => by
    have := sb p hp
    exact ⟨⟨by omega, by omega⟩, ⟨by omega, by omega⟩⟩
  have hlen := QmZ c k m
  have hmv := fun d (hd : RwE cP d (spB c k m)) => Move_spec (tx := x) (ty := y) hd hsm ⟨by omega, by omega⟩ ⟨by omega, by omega⟩ (by omega)
  have hne : (spB c k m).map (mvP x y) ≠ [] := fun h => by
    have := congrArg List.length h
    simp only [List.length_map, List.length_nil] at this
    omega
  obtain ⟨L, hL⟩ : ∃ L, (spB c k m).map (mvP x y) = L := ⟨_, rfl⟩
  rw [hL] at hne ⊢
  have f1 : w64 (2 * k) = 2 * k := Qac (by omega) (by omega)
  have f2 : w64 (4 * k) = 4 * k := Qac (by omega) (by omega)
  have f3 : w64 (3 * k) = 3 * k := Qac (by omega) (by omega)
  have f4 : w64 (8 * k) = 8 * k := Qac (by omega) (by omega)
  have f5 : w64 (6 * k) = 6 * k := Qac (by omega) (by omega)
  have f6 : w64 (-3 * k) = -3 * k := Qac (by omega) (by omega)
  have f7 : w64 (m + 3 * k) = m + 3 * k := Qac (by omega) (by omega)
  have cases : (c = 0 ∨ c = 1 ∨ c = 2) ∨ c = 3 ∨ c = 4 ∨ c = 5 ∨ c = 6 := by omega
  rcases cases with h | h | h | h | h
  · have hs : spB c k m = [(0, 0), (2 * k, 0), (2 * k, m), (0, m)] := by unfold spB; rw [if_pos h]
    have gm := hmv (rowE cP [(0, 0), (2 * k, 0), (2 * k, m), (0, m)]) (.inr (by rw [hs]))
    rw [hL, QsL hne] at gm
    simp only [rowE, cP, iv, List.flatMap_cons, List.flatMap_nil, List.cons_append, List.nil_append, List.append_nil, List.length_cons, List.length_nil, Nat.reduceAdd, Nat.zero_add] at gm g0 g1 g2 g3 g4
    rcases h with rfl | rfl | rfl
    · simp -implicitDefEqProofs (maxSteps := 10000000) only [gantryref12_Shape, rowE, g0, g1, g2, g3, g4, gm, e1, e2, e3, e4, f1, f2, f3, f4, f5, f6, f7, beq_self_eq_true, QnM, go_sem, iv, bv, reduceCtorEq, ↓reduceIte, Nat.reduceEqDiff]
    · have q0 : ((1 : Int) == 0) = false := rfl
      simp -implicitDefEqProofs (maxSteps := 10000000) only [gantryref12_Shape, rowE, g0, g1, g2, g3, g4, gm, e1, e2, e3, e4, f1, f2, f3, f4, f5, f6, f7, q0, beq_self_eq_true, QnM, go_sem, iv, bv, reduceCtorEq, ↓reduceIte, Nat.reduceEqDiff]
    · have q0 : ((2 : Int) == 0) = false := rfl
      have q1 : ((2 : Int) == 1) = false := rfl
      simp -implicitDefEqProofs (maxSteps := 10000000) only [gantryref12_Shape, rowE, g0, g1, g2, g3, g4, gm, e1, e2, e3, e4, f1, f2, f3, f4, f5, f6, f7, q0, q1, beq_self_eq_true, QnM, go_sem, iv, bv, reduceCtorEq, ↓reduceIte, Nat.reduceEqDiff]
  · subst h
    have hs : spB 3 k m = [(0, 0), (4 * k, 0), (0, 3 * k)] := rfl
    have gm := hmv (rowE cP [(0, 0), (4 * k, 0), (0, 3 * k)]) (.inr (by rw [hs]))
    rw [hL, QsL hne] at gm
    simp only [rowE, cP, iv, List.flatMap_cons, List.flatMap_nil, List.cons_append, List.nil_append, List.append_nil, List.length_cons, List.length_nil, Nat.reduceAdd, Nat.zero_add] at gm g0 g1 g2 g3 g4
    have q0 : ((3 : Int) == 0) = false := rfl
    have q1 : ((3 : Int) == 1) = false := rfl
    have q2 : ((3 : Int) == 2) = false := rfl
    simp -implicitDefEqProofs (maxSteps := 10000000) only [gantryref12_Shape, rowE, g0, g1, g2, g3, g4, gm, e1, e2, e3, e4, f1, f2, f3, f4, f5, f6, f7, q0, q1, q2, beq_self_eq_true, rep3_2, go_sem, iv, bv, reduceCtorEq, ↓reduceIte, Nat.reduceEqDiff]
  · subst h
    have hs : spB 4 k m = [(0, 0), (4 * k, -3 * k), (8 * k, 0), (4 * k, 3 * k)] := rfl
    have gm := hmv (rowE cP [(0, 0), (4 * k, -3 * k), (8 * k, 0), (4 * k, 3 * k)]) (.inr (by rw [hs]))
    rw [hL, QsL hne] at gm
    simp only [rowE, cP, iv, List.flatMap_cons, List.flatMap_nil, List.cons_append, List.nil_append, List.append_nil, List.length_cons, List.length_nil, Nat.reduceAdd, Nat.zero_add] at gm g0 g1 g2 g3 g4
    have q0 : ((4 : Int) == 0) = false := rfl
    have q1 : ((4 : Int) == 1) = false := rfl
    have q2 : ((4 : Int) == 2) = false := rfl
    have q3 : ((4 : Int) == 3) = false := rfl
    simp -implicitDefEqProofs (maxSteps := 10000000) only [gantryref12_Shape, rowE, g0, g1, g2, g3, g4, gm, e1, e2, e3, e4, f1, f2, f3, f4, f5, f6, f7, q0, q1, q2, q3, beq_self_eq_true, QnM, go_sem, iv, bv, reduceCtorEq, ↓reduceIte, Nat.reduceEqDiff]
  · subst h
    have hs : spB 5 k m = [(0, 0), (8 * k, 0), (8 * k, m), (4 * k, m + 3 * k), (0, m)] := rfl
    have gm := hmv (rowE cP [(0, 0), (8 * k, 0), (8 * k, m), (4 * k, m + 3 * k), (0, m)]) (.inr (by rw [hs]))
    rw [hL, QsL hne] at gm
    simp only [rowE, cP, iv, List.flatMap_cons, List.flatMap_nil, List.cons_append, List.nil_append, List.append_nil, List.length_cons, List.length_nil, Nat.reduceAdd, Nat.zero_add] at gm g0 g1 g2 g3 g4
    have q0 : ((5 : Int) == 0) = false := rfl
    have q1 : ((5 : Int) == 1) = false := rfl
    have q2 : ((5 : Int) == 2) = false := rfl
    have q3 : ((5 : Int) == 3) = false := rfl
    have q4 : ((5 : Int) == 4) = false := rfl
    simp -implicitDefEqProofs (maxSteps := 10000000) only [gantryref12_Shape, rowE, g0, g1, g2, g3, g4, gm, e1, e2, e3, e4, f1, f2, f3, f4, f5, f6, f7, q0, q1, q2, q3, q4, beq_self_eq_true, rep5_2, go_sem, iv, bv, reduceCtorEq, ↓reduceIte, Nat.reduceEqDiff]
  · subst h
    have hs : spB 6 k m = [(0, 0), (6 * k, 0), (3 * k, 4 * k)] := rfl
    have gm := hmv (rowE cP [(0, 0), (6 * k, 0), (3 * k, 4 * k)]) (.inr (by rw [hs]))
    rw [hL, QsL hne] at gm
    simp only [rowE, cP, iv, List.flatMap_cons, List.flatMap_nil, List.cons_append, List.nil_append, List.append_nil, List.length_cons, List.length_nil, Nat.reduceAdd, Nat.zero_add] at gm g0 g1 g2 g3 g4
    have q0 : ((6 : Int) == 0) = false := rfl
    have q1 : ((6 : Int) == 1) = false := rfl
    have q2 : ((6 : Int) == 2) = false := rfl
    have q3 : ((6 : Int) == 3) = false := rfl
    have q4 : ((6 : Int) == 4) = false := rfl
    have q5 : ((6 : Int) == 5) = false := rfl
    simp -implicitDefEqProofs (maxSteps := 10000000) only [gantryref12_Shape, rowE, g0, g1, g2, g3, g4, gm, e1, e2, e3, e4, f1, f2, f3, f4, f5, f6, f7, q0, q1, q2, q3, q4, q5, beq_self_eq_true, rep3_2, go_sem, iv, bv, reduceCtorEq, ↓reduceIte, Nat.reduceEqDiff]
end Go.AM

