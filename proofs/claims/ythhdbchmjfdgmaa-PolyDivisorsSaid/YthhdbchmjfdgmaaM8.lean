/- Part 8 of the proof: a small machine, its soundness against the model, and what the program's functions compute on it. -/
import Derived.Test.YthhdbchmjfdgmaaM7
import Derived.Test.YthhdbchmjfdgmaaM3
set_option linter.unusedVariables false
set_option linter.unusedSimpArgs false
/- gantryref04: times, divided -/
namespace Go.AM
open Go Go.RowKit

theorem row_cons (v : Int) (l : List Int) : D.row (1 + l.length) (D.v (.int .i64 v) :: l.map iv) = rowI (v :: l) := by rw [rowI, List.length_cons, Nat.add_comm]; rfl
theorem all_ints (l : List Int) : List.all (l.map iv) D.one = true := by simp [iv, D.one, A.one]
theorem nd_nat (x : Nat) : nd (x : Int) = (digs x).length := rfl
theorem bs_mid {lo hi q R y : Nat} (h1 : lo ≤ q) (h2 : q ≤ hi) (h3 : lo < hi) (hq : q = R / y) (hy : 0 < y) : (y * ((lo + hi + 1) / 2) ≤ R → (lo + hi + 1) / 2 ≤ q) ∧ (¬ y * ((lo + hi + 1) / 2) ≤ R → q ≤ (lo + hi + 1) / 2 - 1) := by
  subst hq
  constructor
  · intro h
    rw [Nat.le_div_iff_mul_le hy, Nat.mul_comm]; exact h
  · intro h
    have : R / y < (lo + hi + 1) / 2 := by
      rw [Nat.div_lt_iff_lt_mul hy, Nat.mul_comm]
      exact Nat.not_le.1 h
    omega
variable [Its]

theorem times_spec {y k : Nat} (hy : (digs y).length ≤ 999999999999) (hk : k < 1000000000) : callX G n_gantryref04_times [dg (digs y), iv (k : Int)] = some (.d (dg (digs (y * k)))) := by
  rw [callX_eq (cf := gantryref04_times) rfl]
  have g1 := normal_spec false (Rw.dg (digs y)) (by omega) (digs_dig y)
  rw [encI_sgn_false, val_digs] at g1
  have g2 := rOf_spec (n := (k : Int)) ⟨by omega, by omega⟩
  have g3 := rMul_spec (x := (y : Int)) (y := (k : Int)) (by rw [nd_nat]; omega) (by rw [nd_nat]; have := nd_i64 (x := (k : Int)) ⟨by omega, by omega⟩; rw [nd_nat] at this; omega)
  have e : (y : Int) * (k : Int) = ((y * k : Nat) : Int) := rfl
  rw [e, encI_nat] at g3
  rw [encI_nat] at g1 g2 g3
  rw [encI_nat] at g3
  simp only [bv, iv] at g1 g2 g3
  simp -implicitDefEqProofs (maxSteps := 10000000) only [gantryref04_times, go_sem, stcells, ldcells, iv, bv, g1, g2, g3, reduceCtorEq, ↓reduceIte, Nat.reduceEqDiff]

section
variable (da : D) (y n : Nat) (o : List Int) (i R : Nat)
def rb_st (lo hi : Nat) : St := mkS [(0, .d da), (1, .d (dg (digs y))), (8, .own [42] n), (9, .d (dg (digs R))), (10, ai (i : Int)), (12, ai (lo : Int)), (13, ai (hi : Int))] [([42], arrI n o)]
def rb_end (lo : Nat) : St := mkS [(0, .d da), (1, .d (dg (digs y))), (8, .own [42] n), (9, .d (dg (digs R))), (10, ai (i : Int)), (12, ai (lo : Int))] [([42], arrI n o)]

theorem rb_go {lo hi : Nat} (hy : (digs y).length ≤ 999999999999) (hR : (digs R).length ≤ 1000000000001) (hlt : lo < hi) (hh : hi < 1000000000) :
    X G gantryref04_divided_l0 (rb_st da y n o i R lo hi) = some (.n, if y * ((lo + hi + 1) / 2) ≤ R then rb_st da y n o i R ((lo + hi + 1) / 2) hi else rb_st da y n o i R lo ((lo + hi + 1) / 2 - 1)) := by
  have e1 : decide ((lo : Int) < (hi : Int)) = true := lt_t (by omega)
  have e2 : w64 ((lo : Int) + (hi : Int)) = (lo : Int) + (hi : Int) := w64_id (by omega) (by omega)
  have e3 : w64 ((lo : Int) + (hi : Int) + 1) = (lo : Int) + (hi : Int) + 1 := w64_id (by omega) (by omega)
  have e4 : ((lo : Int) + (hi : Int) + 1).tdiv 2 = (((lo + hi + 1) / 2 : Nat) : Int) := by rw [Int.tdiv_eq_ediv_of_nonneg (by omega)]; omega
  have e5 : w64 (((lo + hi + 1) / 2 : Nat) : Int) = (((lo + hi + 1) / 2 : Nat) : Int) := w64_id (by omega) (by omega)
  have e9 : ((2 : Int) = 0) = False := by simp
  have hm : (lo + hi + 1) / 2 < 1000000000 := by omega
  have hm1 : 1 ≤ (lo + hi + 1) / 2 := by omega
  have t1 := times_spec (y := y) (k := (lo + hi + 1) / 2) hy hm
  generalize (lo + hi + 1) / 2 = mid at *
  have hly : (digs (y * mid)).length ≤ 1000000000002 := by
    have := nd_mul (x := (y : Int)) (y := (mid : Int))
    have e : (y : Int) * (mid : Int) = ((y * mid : Nat) : Int) := rfl
    rw [e] at this
    rw [nd_nat, nd_nat, nd_nat] at this
    have h3 := nd_i64 (x := (mid : Int)) ⟨by omega, by omega⟩
    rw [nd_nat] at h3
    omega
  have t2 := compared_spec (Rw.dg (digs (y * mid))) (Rw.dg (digs R)) (digs_dig _) (digs_dig _) (digs_top _) (digs_top _) (by omega) (by omega)
  rw [val_digs, val_digs] at t2
  simp only [iv] at t1 t2
  have e6 : w64 ((mid : Int) - 1) = ((mid - 1 : Nat) : Int) := by rw [w64_id (by omega) (by omega)]; omega
  by_cases hle : y * mid ≤ R
  · have e7 : decide (Int.sign (((y * mid : Nat) : Int) - (R : Int)) ≤ 0) = true := by
      apply le_t
      generalize y * mid = z at *
      rcases Int.lt_or_le ((z : Int) - (R : Int)) 0 with h | h
      · rw [Int.sign_eq_neg_one_of_neg h]; omega
      · rw [show (z : Int) - (R : Int) = 0 by omega]; exact Int.le_refl 0
    rw [if_pos hle]
    simp -implicitDefEqProofs (maxSteps := 10000000) only [gantryref04_divided_l0, rb_st, go_sem, iv, bv, e1, e2, e3, e4, e5, e6, e7, e9, t1, t2, refsL_I, reduceCtorEq, ↓reduceIte, Nat.reduceEqDiff]
  · have e7 : decide (Int.sign (((y * mid : Nat) : Int) - (R : Int)) ≤ 0) = false := by
      apply le_f
      generalize y * mid = z at *
      rw [Int.sign_eq_one_of_pos (by omega)]; omega
    rw [if_neg hle]
    simp -implicitDefEqProofs (maxSteps := 10000000) only [gantryref04_divided_l0, rb_st, go_sem, iv, bv, e1, e2, e3, e4, e5, e6, e7, e9, t1, t2, refsL_I, reduceCtorEq, ↓reduceIte, Nat.reduceEqDiff]

theorem rb_loop (hy0 : 0 < y) (hy : (digs y).length ≤ 999999999999) (hR : (digs R).length ≤ 1000000000001) : ∀ (k lo hi : Nat), hi - lo ≤ k → lo ≤ R / y → R / y ≤ hi → hi < 1000000000 → X G (.loop gantryref04_divided_l0) (rb_st da y n o i R lo hi) = some (.x 2, rb_end da y n o i R (R / y))
  | k, lo, hi, hk, h1, h2, hh => by
    rw [X_loop]
    by_cases hlt : lo < hi
    · rw [rb_go da y n o i R hy hR hlt hh, Option.bind_some, if_pos rfl]
      obtain ⟨b1, b2⟩ := bs_mid (R := R) (y := y) h1 h2 hlt rfl hy0
      cases k with
      | zero => omega
      | succ k =>
        by_cases hle : y * ((lo + hi + 1) / 2) ≤ R
        · rw [if_pos hle]
          exact rb_loop hy0 hy hR k _ _ (by omega) (b1 hle) h2 hh
        · rw [if_neg hle]
          exact rb_loop hy0 hy hR k _ _ (by omega) h1 (b2 hle) (by omega)
    · have he : lo = R / y := by omega
      have e1 : decide ((lo : Int) < (hi : Int)) = false := lt_f (by omega)
      rw [← he]
      simp -implicitDefEqProofs (maxSteps := 10000000) only [gantryref04_divided_l0, rb_st, rb_end, go_sem, iv, bv, e1, refsL_I, reduceCtorEq, ↓reduceIte, Nat.reduceEqDiff]
  termination_by k => k
end
end Go.AM

/- gantryref04: divided -/
namespace Go.AM
open Go Go.RowKit

theorem app1_fact {l : List Int} (h : l.length ≤ 1000000000000) : ((1 + l.length) * 8 ≤ bound) = True := eq_true (by simp only [bound]; omega)
theorem nat_digit {v : Int} (h : 0 ≤ v) : ∃ n : Nat, v = (n : Int) := ⟨v.toNat, by omega⟩
theorem digs_step {v r y : Nat} (hv : v < 1000000000) (hr : r < y) : (digs (v + 1000000000 * r)).length ≤ (digs y).length + 1 := by
  apply digs_length_le
  have h1 : y < 1000000000 ^ (digs y).length := by
    have := lt_pow_nd (y : Int)
    rw [nd_nat] at this
    simpa using this
  rw [Nat.pow_succ]
  generalize 1000000000 ^ (digs y).length = z at *
  omega
theorem quo_step {v r y : Nat} (hv : v < 1000000000) (hr : r < y) : (v + 1000000000 * r) / y < 1000000000 := by
  rw [Nat.div_lt_iff_lt_mul (by omega)]
  omega
theorem rem_step (R y : Nat) : (R : Int) - ((y * (R / y) : Nat) : Int) = ((R % y : Nat) : Int) := by
  have := Nat.div_add_mod R y
  generalize y * (R / y) = z at *
  omega
theorem cast_dm (A y : Nat) : (y : Int) * ((A / y : Nat) : Int) + ((A % y : Nat) : Int) = (A : Int) := by
  have h := Nat.div_add_mod A y
  generalize A / y = q at *
  generalize A % y = m at *
  subst h
  rw [Int.natCast_add, Int.natCast_mul]
theorem dig_nat {n : Nat} (h : n < 1000000000) : 0 ≤ (n : Int) ∧ (n : Int) < 1000000000 := by omega
theorem st2 (x y u v : A) : stcells 0 [x, y] [u, v] = some [x, y] := rfl
theorem ld1 (u v : A) : ldcells none 1 [u, v] = some v := rfl
variable [Its]

section
variable (da : D) (a : List Int) (y : Nat)
def rd_st (o : List Int) (r : Nat) (i : Int) : St := mkS [(0, .d da), (1, .d (dg (digs y))), (8, .own [42] a.length), (9, .d (dg (digs r))), (10, ai i)] [([42], arrI a.length o)]
def rd_end (o : List Int) (r : Nat) : St := mkS [(8, .own [42] a.length), (9, .d (dg (digs r)))] [([42], arrI a.length o)]

theorem rd_stop (o : List Int) (r : Nat) : X G gantryref04_divided_l1 (rd_st da a y o r (-1)) = some (.x 0, rd_end a o r) := by
  have e1 : decide ((-1 : Int) ≥ 0) = false := rfl
  simp -implicitDefEqProofs (maxSteps := 10000000) only [gantryref04_divided_l1, rd_st, rd_end, go_sem, iv, bv, e1, refsL_I, reduceCtorEq, ↓reduceIte, Nat.reduceEqDiff]

theorem rd_go (hra : Rw da a) (ha : Dig a) (hy : (digs y).length ≤ 999999999999) (hl : a.length ≤ 1000000000000) {o : List Int} (ho : o.length = a.length) {r i v : Nat} (hi : i < a.length) (hr : r < y) (hv : a.getD i 0 = (v : Int)) :
    X G gantryref04_divided_l1 (rd_st da a y o r (i : Int)) = some (.n, rd_st da a y (o.set i (((v + 1000000000 * r) / y : Nat) : Int)) ((v + 1000000000 * r) % y) ((i : Int) - 1)) := by
  have hvd := ha.getD i
  rw [hv] at hvd
  have hvn : v < 1000000000 := by omega
  have hRl := digs_step (y := y) hvn hr
  have hq := quo_step (y := y) hvn hr
  have hrl := digs_len_mono (Nat.le_of_lt hr)
  have e1 : decide ((i : Int) ≥ 0) = true := ge_t (by omega)
  have e2 := hra.ixn (j := i) hi
  have e3 := fun hp => ldv hp a (j := i) hi
  rw [hv] at e3
  have e4 : w64 ((i : Int) - 1) = (i : Int) - 1 := w64_id (by omega) (by omega)
  have e5 : (0 : Int) ≤ (i : Int) ∧ (i : Int) < ((a.length : Nat) : Int) := by omega
  have e6 := fun x => stcells_I (l := o) (off := i) (v := x) (by omega)
  have f1 := app1_fact (l := digs r) (by omega)
  have f2 := all_ints (digs r)
  have nr := normal_spec false (Rw.row ((v : Int) :: digs r)) (by simp; omega) (Dig.cons.2 ⟨hvd, digs_dig r⟩)
  rw [encI_sgn_false, val, val_digs, ← row_cons] at nr
  have eR : (v : Int) + 1000000000 * (r : Int) = ((v + 1000000000 * r : Nat) : Int) := by omega
  rw [eR] at nr
  obtain ⟨R, hR⟩ : ∃ R, v + 1000000000 * r = R := ⟨_, rfl⟩
  rw [hR] at nr hRl hq ⊢
  rw [encI_nat] at nr
  have cp := compared_spec (Rw.dg (digs R)) (Rw.dg (digs y)) (digs_dig _) (digs_dig _) (digs_top _) (digs_top _) (by omega) (by omega)
  rw [val_digs, val_digs] at cp
  have tm := times_spec (y := y) (k := R / y) hy hq
  have hle : y * (R / y) ≤ R := Nat.mul_div_le R y
  obtain ⟨out, m1, m2, m3, m4⟩ := rminus_spec (Rw.dg (digs R)) (Rw.dg (digs (y * (R / y)))) (digs_dig _) (digs_dig _) (by omega) (digs_len_mono hle) (by rw [val_digs, val_digs]; exact Int.ofNat_le.2 hle)
  rw [val_digs, val_digs, rem_step] at m4
  have n2 := normal_spec false (Rw.dg out) (by omega) m3
  rw [encI_sgn_false, m4, encI_nat] at n2
  have hyp : 0 < y := by omega
  have c9 : ((999999999 : Nat) : Int) = 999999999 := rfl
  simp only [bv, iv] at nr cp tm n2
  by_cases hlt : R < y
  · have c1 : decide (Int.sign ((R : Int) - (y : Int)) < 0) = true := by rw [Int.sign_eq_neg_one_of_neg (by omega)]; rfl
    have hx := rb_loop da y a.length o i R hyp hy (by omega) 0 0 0 (by omega) (Nat.zero_le _) (by rw [Nat.div_eq_of_lt hlt]; exact Nat.le_refl _) (by omega)
    simp only [rb_st, rb_end, go_sem] at hx
    simp -implicitDefEqProofs (maxSteps := 10000000) only [gantryref04_divided_l1, rd_st, go_sem, st2, ld1, src_dg, src_row, List.length_map, iv, bv, e1, e2, e3, e4, e5, e6, f1, f2, nr, cp, c1, hx, tm, m1, n2, retA_gR, allD_I, refsL_I, cellsI_length, reduceCtorEq, ↓reduceIte, Nat.reduceEqDiff]
  · have c1 : decide (Int.sign ((R : Int) - (y : Int)) < 0) = false := by
      apply lt_f
      rcases Int.lt_or_le 0 ((R : Int) - (y : Int)) with h | h
      · rw [Int.sign_eq_one_of_pos h]; omega
      · rw [show (R : Int) - (y : Int) = 0 by omega]; exact Int.lt_irrefl 0
    have hx := rb_loop da y a.length o i R hyp hy (by omega) 999999999 0 999999999 (by omega) (Nat.zero_le _) (by omega) (by omega)
    simp only [rb_st, rb_end, go_sem, c9] at hx
    simp -implicitDefEqProofs (maxSteps := 10000000) only [gantryref04_divided_l1, rd_st, go_sem, st2, ld1, src_dg, src_row, List.length_map, iv, bv, e1, e2, e3, e4, e5, e6, f1, f2, nr, cp, c1, hx, tm, m1, n2, retA_gR, allD_I, refsL_I, cellsI_length, reduceCtorEq, ↓reduceIte, Nat.reduceEqDiff]

theorem rd_loop (hra : Rw da a) (ha : Dig a) (hy0 : 0 < y) (hy : (digs y).length ≤ 999999999999) (hl : a.length ≤ 1000000000000) : ∀ (k : Nat) (o : List Int) (r : Nat), k ≤ a.length → o.length = a.length → Dig o → r < y → val (a.drop k) = val (o.drop k) * (y : Int) + (r : Int) →
    ∃ o' r', X G (.loop gantryref04_divided_l1) (rd_st da a y o r ((k : Int) - 1)) = some (.x 0, rd_end a o' r') ∧ o'.length = a.length ∧ Dig o' ∧ r' < y ∧ val a = val o' * (y : Int) + (r' : Int)
  | 0, o, r, hk, ho, hd, hr, hv => ⟨o, r, by
      have : ((0 : Nat) : Int) - 1 = -1 := rfl
      rw [this, X_loop, rd_stop]; rfl, ho, hd, hr, by simpa using hv⟩
  | k + 1, o, r, hk, ho, hd, hr, hv => by
    obtain ⟨v, hvv⟩ := nat_digit (ha.getD k).1
    have hvn := (ha.getD k).2
    rw [hvv] at hvn
    have hvn' : v < 1000000000 := by omega
    have hx := rd_go da a y hra ha hy hl ho (i := k) (by omega) hr hvv
    have hq := quo_step (y := y) hvn' hr
    have hm := Nat.mod_lt (v + 1000000000 * r) hy0
    obtain ⟨o', r', g1, g2⟩ := rd_loop hra ha hy0 hy hl k (o.set k (((v + 1000000000 * r) / y : Nat) : Int)) ((v + 1000000000 * r) % y) (by omega) (by simpa using ho) (hd.set (dig_nat hq)) hm (by
      rw [val_drop_getD, hv, val_drop_set _ (by omega), hvv]
      have hdm' : (y : Int) * (((v + 1000000000 * r) / y : Nat) : Int) + (((v + 1000000000 * r) % y : Nat) : Int) = (v : Int) + 1000000000 * (r : Int) := by rw [cast_dm]; rw [Int.natCast_add, Int.natCast_mul]; rfl
      generalize (((v + 1000000000 * r) / y : Nat) : Int) = Q at *
      generalize (((v + 1000000000 * r) % y : Nat) : Int) = M at *
      clear hx hq hm hv
      grind)
    refine ⟨o', r', ?_, g2⟩
    have : ((k + 1 : Nat) : Int) - 1 = (k : Int) := by omega
    rw [this, X_loop, hx]
    exact g1
end

theorem divided_spec {x y : Nat} (hy : 0 < y) (hx : (digs x).length ≤ 1000000000000) (hyl : (digs y).length ≤ 999999999999) :
    ∃ dq q, callX G n_gantryref04_divided [dg (digs x), dg (digs y)] = some (.d (.tup [dq, dg (digs (x % y))])) ∧ Rw dq q ∧ Dig q ∧ q.length ≤ 1000000000000 ∧ val q = ((x / y : Nat) : Int) := by
  have lx := lenA_dg (digs x)
  have ly := lenA_dg (digs y)
  by_cases h1 : (digs x).length ≤ 2
  · have e1 : decide (((digs x).length : Int) ≤ 2) = true := le_t (by omega)
    by_cases h2 : (digs y).length ≤ 2
    · have e2 : decide (((digs y).length : Int) ≤ 2) = true := le_t (by omega)
      have t1 := tiny_spec (Rw.dg (digs x)) (digs_dig x) h1
      have t2 := tiny_spec (Rw.dg (digs y)) (digs_dig y) h2
      rw [val_digs] at t1 t2
      have s1 := digs_small h1
      have e3 := eqz_f (b := (y : Int)) (by omega)
      have e4 := quo_pos (a := (x : Int)) (b := (y : Int)) (by omega)
      have e5 := rem_pos (a := (x : Int)) (b := (y : Int)) (by omega)
      have c1 : (x : Int) / (y : Int) = ((x / y : Nat) : Int) := rfl
      have c2 : (x : Int) % (y : Int) = ((x % y : Nat) : Int) := rfl
      rw [c1] at e4
      rw [c2] at e5
      have hq : x / y ≤ x := Nat.div_le_self x y
      have hr : x % y ≤ x := Nat.mod_le x y
      have hql := digs_len_mono hq
      clear c1 c2
      generalize x / y = Q at *
      generalize x % y = M at *
      have o1 := rOf_spec (n := (Q : Int)) ⟨by omega, by omega⟩
      have o2 := rOf_spec (n := (M : Int)) ⟨by omega, by omega⟩
      have e6 : w64 (Q : Int) = (Q : Int) := w64_id (by omega) (by omega)
      rw [encI_nat] at o1 o2
      simp only [iv] at t1 t2 o1 o2
      refine ⟨dg (digs Q), digs Q, ?_, Rw.dg _, digs_dig _, by omega, val_digs _⟩
      rw [callX_eq (cf := gantryref04_divided) rfl]
      simp -implicitDefEqProofs (maxSteps := 10000000) only [gantryref04_divided, go_sem, st2, ld1, iv, bv, lx, ly, e1, e2, e3, e4, e5, e6, t1, t2, o1, o2, toDs, reduceCtorEq, ↓reduceIte, Nat.reduceEqDiff]
    · have e2 : decide (((digs y).length : Int) ≤ 2) = false := le_f (by omega)
      obtain ⟨o, r, g1, g2, g3, g4, g5⟩ := rd_loop (dg (digs x)) (digs x) y (Rw.dg _) (digs_dig x) hy hyl hx (digs x).length (List.replicate (digs x).length 0) 0 (Nat.le_refl _) (by simp) (Dig.replicate _) hy (by rw [List.drop_length, List.drop_eq_nil_of_le (by simp)]; simp [val])
      rw [val_digs] at g5
      obtain ⟨u1, u2⟩ := div_uni g5 (Int.natCast_nonneg _) (Int.ofNat_lt.2 g4)
      have u2' : x % y = r := Int.ofNat.inj u2
      refine ⟨rowI o, o, ?_, Rw.row _, g3, by omega, u1.symm⟩
      rw [u2', callX_eq (cf := gantryref04_divided) rfl]
      have f1 := bnd (digs x).length (by omega)
      have f2 : w64 (((digs x).length : Int) - 1) = ((digs x).length : Int) - 1 := w64_id (by omega) (by omega)
      simp only [rd_st, rd_end, digs_zero, dg_nil, go_sem] at g1
      simp -implicitDefEqProofs (maxSteps := 10000000) only [gantryref04_divided, go_sem, iv, bv, lx, ly, e1, e2, f1, f2, g1, g2, rowI, rep_I, allD_I, refsL_I, toDs, reduceCtorEq, ↓reduceIte, Nat.reduceEqDiff]
  · have e1 : decide (((digs x).length : Int) ≤ 2) = false := le_f (by omega)
    obtain ⟨o, r, g1, g2, g3, g4, g5⟩ := rd_loop (dg (digs x)) (digs x) y (Rw.dg _) (digs_dig x) hy hyl hx (digs x).length (List.replicate (digs x).length 0) 0 (Nat.le_refl _) (by simp) (Dig.replicate _) hy (by rw [List.drop_length, List.drop_eq_nil_of_le (by simp)]; simp [val])
    rw [val_digs] at g5
    obtain ⟨u1, u2⟩ := div_uni g5 (Int.natCast_nonneg _) (Int.ofNat_lt.2 g4)
    have u2' : x % y = r := Int.ofNat.inj u2
    refine ⟨rowI o, o, ?_, Rw.row _, g3, by omega, u1.symm⟩
    rw [u2', callX_eq (cf := gantryref04_divided) rfl]
    have f1 := bnd (digs x).length (by omega)
    have f2 : w64 (((digs x).length : Int) - 1) = ((digs x).length : Int) - 1 := w64_id (by omega) (by omega)
    simp only [rd_st, rd_end, digs_zero, dg_nil, go_sem] at g1
    simp -implicitDefEqProofs (maxSteps := 10000000) only [gantryref04_divided, go_sem, iv, bv, lx, ly, e1, f1, f2, g1, g2, rowI, rep_I, allD_I, refsL_I, toDs, reduceCtorEq, ↓reduceIte, Nat.reduceEqDiff]
end Go.AM

/- ref04.Div -/
namespace Go.AM
open Go Go.RowKit
variable [Its]

theorem rDiv_spec {x y : Int} (hy : y ≠ 0) (hx : nd x ≤ 1000000000000) (hyl : nd y ≤ 999999999999) :
    callX G n_gantryref04_Div [encI x, encI y] = some (.d (.tup [encI (x / y), encI (x % y)])) := by
  obtain ⟨c1, c2, c3⟩ := ediv_cases (x := x) hy
  have hya : 0 < y.natAbs := by omega
  obtain ⟨dq, q, td, t1, t2, t3, t4⟩ := divided_spec (x := x.natAbs) (y := y.natAbs) hya hx hyl
  have ly := lenA_dg (digs y.natAbs)
  have fq : A.one (.d dq) = true := by
    rcases t1 with h | h
    · rw [h]; exact one_dg' q
    · rw [h]; rfl
  have e1 : (((digs y.natAbs).length : Int) == 0) = false := beq_f (by have := digs_length_pos.2 hya; omega)
  have n1 : (x.natAbs : Int) / (y.natAbs : Int) = ((x.natAbs / y.natAbs : Nat) : Int) := rfl
  have n2 : (x.natAbs : Int) % (y.natAbs : Int) = ((x.natAbs % y.natAbs : Nat) : Int) := rfl
  have hq1 : x.natAbs / y.natAbs ≤ x.natAbs := Nat.div_le_self _ _
  have hr1 : x.natAbs % y.natAbs < y.natAbs := Nat.mod_lt _ hya
  rw [n1] at c1 c2 c3
  rw [n2] at c1 c2 c3
  clear n1 n2
  generalize x.natAbs / y.natAbs = Q at *
  generalize x.natAbs % y.natAbs = M at *
  have hQl : (digs Q).length ≤ (digs x.natAbs).length := digs_len_mono hq1
  have hMl : (digs M).length ≤ (digs y.natAbs).length := digs_len_mono (Nat.le_of_lt hr1)
  have hxn : (digs x.natAbs).length ≤ 1000000000000 := hx
  have hyn : (digs y.natAbs).length ≤ 999999999999 := hyl
  have lm := lenA_dg (digs M)
  obtain ⟨s, hs⟩ : ∃ s, (!(decide (x < 0) == decide (y < 0))) = s := ⟨_, rfl⟩
  have k1 := normal_spec s t1 (by omega) t2
  rw [t4] at k1
  have k2 := normal_spec false (Rw.dg (digs M)) (by omega) (digs_dig _)
  rw [encI_sgn_false, val_digs, encI_nat] at k2
  rw [callX_eq (cf := gantryref04_Div) rfl]
  by_cases hb : x < 0 ∧ M ≠ 0
  · have x1 : decide (x < 0) = true := decide_eq_true hb.1
    have f1 : decide (((digs M).length : Int) > 0) = true := gt_t (by have := digs_length_pos.2 (Nat.pos_of_ne_zero hb.2); omega)
    obtain ⟨d1, d2⟩ := c3 hb.1 (by omega)
    have hs' : s = !decide (y < 0) := by rw [← hs, x1]; cases decide (y < 0) <;> rfl
    have k3 := normal_spec s (Rw.row [1]) (by simp) (fun d hd => by simp at hd; omega)
    have v1 : val [1] = 1 := by simp [val]
    rw [v1] at k3
    have a1 : nd (sgn s (Q : Int)) ≤ 1000000000000 := by rw [nd, natAbs_sgn]; exact Nat.le_trans hQl hxn
    have a2 : nd (sgn s 1) ≤ 1000000000000 := by
      have : nd (sgn s 1) ≤ 3 := nd_i64 (by cases s <;> simp [sgn])
      omega
    have k4 := rAdd_spec a1 a2
    have s1 : sgn s (Q : Int) + sgn s 1 = sgn s ((Q : Int) + 1) := by
      cases s
      · simp only [sgn, Bool.false_eq_true, if_false]
      · simp only [sgn, if_true]; omega
    rw [s1, hs', ← d1, ← hs'] at k4
    obtain ⟨o2, s1, s2, s3, s4⟩ := rminus_spec (Rw.dg (digs y.natAbs)) (Rw.dg (digs M)) (digs_dig _) (digs_dig _) (by omega) hMl (by rw [val_digs, val_digs]; omega)
    rw [val_digs, val_digs] at s4
    have k5 := normal_spec false (Rw.dg o2) (by omega) s3
    rw [encI_sgn_false, s4, ← d2] at k5
    obtain ⟨z, hz⟩ : ∃ z, sgn s (Q : Int) = z := ⟨_, rfl⟩
    obtain ⟨X, hX⟩ : ∃ X, x / y = X := ⟨_, rfl⟩
    obtain ⟨Y, hY⟩ : ∃ Y, x % y = Y := ⟨_, rfl⟩
    rw [hz] at k1 k4
    rw [hX] at k4 ⊢
    rw [hY] at k5 ⊢
    simp only [rowI, List.map_cons, List.map_nil, List.length_cons, List.length_nil, encI, bv, iv, Nat.reduceAdd] at k1 k2 k3 k4 k5
    rw [x1] at hs
    simp -implicitDefEqProofs (maxSteps := 10000000) only [gantryref04_Div, encI, go_sem, stcells, ldcells, iv, bv, e1, x1, hs, f1, td, ly, lm, fq, k1, k2, k3, k4, k5, s1, retA_gR, toDs, apartS, ne_eq, not_false_eq_true, reduceCtorEq, ↓reduceIte, Nat.reduceEqDiff]
  · have hr : x / y = sgn s (Q : Int) ∧ x % y = (M : Int) := by
      by_cases hx0 : x < 0
      · have hM : M = 0 := by
          rcases Nat.eq_zero_or_pos M with h | h
          · exact h
          · exact absurd ⟨hx0, by omega⟩ hb
        have x1 : decide (x < 0) = true := decide_eq_true hx0
        obtain ⟨d1, d2⟩ := c2 hx0 (by omega)
        refine ⟨?_, by rw [d2, hM]; rfl⟩
        rw [d1, ← hs, x1]; cases decide (y < 0) <;> rfl
      · have x1 : decide (x < 0) = false := decide_eq_false hx0
        obtain ⟨d1, d2⟩ := c1 hx0
        refine ⟨?_, d2⟩
        rw [d1, ← hs, x1]; cases decide (y < 0) <;> rfl
    rw [hr.1, hr.2, encI_nat]
    obtain ⟨z, hz⟩ : ∃ z, sgn s (Q : Int) = z := ⟨_, rfl⟩
    rw [hz] at k1 ⊢
    simp only [encI, bv, iv] at k1 k2
    by_cases hx0 : x < 0
    · have x1 : decide (x < 0) = true := decide_eq_true hx0
      have f1 : decide (((digs M).length : Int) > 0) = false := by
        have : ¬ M ≠ 0 := fun h => hb ⟨hx0, h⟩
        have : M = 0 := by omega
        rw [this, digs_zero]; rfl
      rw [x1] at hs
      simp -implicitDefEqProofs (maxSteps := 10000000) only [gantryref04_Div, encI, go_sem, stcells, ldcells, iv, bv, e1, x1, hs, f1, td, ly, lm, fq, k1, k2, toDs, apartS, ne_eq, not_false_eq_true, reduceCtorEq, ↓reduceIte, Nat.reduceEqDiff]
    · have x1 : decide (x < 0) = false := decide_eq_false hx0
      rw [x1] at hs
      simp -implicitDefEqProofs (maxSteps := 10000000) only [gantryref04_Div, encI, go_sem, stcells, ldcells, iv, bv, e1, x1, hs, td, ly, lm, fq, k1, k2, toDs, apartS, ne_eq, not_false_eq_true, reduceCtorEq, ↓reduceIte, Nat.reduceEqDiff]
end Go.AM

/- ref04.Gcd -/
namespace Go.AM
open Go Go.RowKit
variable [Its]

def rg_st (m n : Nat) : St := mkS [(4, .ptr [4] 0), (7, ai m), (8, ai n)] [([4], box0)]
def rg_en (m : Nat) : St := mkS [(4, .ptr [4] 0), (7, ai m)] [([4], box0)]
theorem rg_ints : ∀ (n m : Nat), m < 1000000000000000000 → n < 1000000000000000000 → X G (.loop gantryref04_Gcd_l0) (rg_st m n) = some (.x 2, rg_en (Nat.gcd m n)) := by
  intro n
  induction n using Nat.strongRecOn with
  | _ n ih =>
  intro m hm hn
  rw [X_loop]
  by_cases h0 : n = 0
  · subst h0
    have e1 : decide (((0 : Nat) : Int) > 0) = false := rfl
    rw [Nat.gcd_zero_right]
    simp -implicitDefEqProofs (maxSteps := 10000000) only [gantryref04_Gcd_l0, rg_st, rg_en, box0, go_sem, iv, bv, reduceCtorEq, ↓reduceIte, Nat.reduceEqDiff]
    rfl
  · have e1 : decide ((n : Int) > 0) = true := gt_t (by omega)
    have e2 := eqz_f (b := (n : Int)) (by omega)
    have e3 := rem_pos (a := (m : Int)) (b := (n : Int)) (by omega)
    have e4 : (m : Int) % (n : Int) = ((m % n : Nat) : Int) := rfl
    have hlt : m % n < n := Nat.mod_lt _ (by omega)
    have hx : X G gantryref04_Gcd_l0 (rg_st m n) = some (.n, rg_st n (m % n)) := by
      simp -implicitDefEqProofs (maxSteps := 10000000) only [gantryref04_Gcd_l0, rg_st, rg_en, box0, go_sem, iv, bv, e1, e2, e3, e4, reduceCtorEq, ↓reduceIte, Nat.reduceEqDiff]
    rw [hx, Option.bind_some, if_pos rfl, ih (m % n) hlt n hn (by omega), gcd_step]

theorem rg_loop : ∀ (b a : Nat), (digs a).length ≤ 1000000000000 → (digs b).length ≤ 999999999999 →
    X G (.loop gantryref04_Gcd_l1) (gl_st a b) = some (.x 0, gl_en (Nat.gcd a b)) ∨ X G (.loop gantryref04_Gcd_l1) (gl_st a b) = some (.r, gl_ret (Nat.gcd a b)) := by
  intro b
  induction b using Nat.strongRecOn with
  | _ b ih =>
  intro a ha hb
  have la := lenA_dg (digs a)
  have lb := lenA_dg (digs b)
  by_cases h0 : b = 0
  · subst h0
    have e1 : decide (((digs 0).length : Int) > 0) = false := by rw [digs_zero]; rfl
    refine .inl ?_
    rw [Nat.gcd_zero_right, X_loop]
    simp -implicitDefEqProofs (maxSteps := 10000000) only [gantryref04_Gcd_l1, gl_st, gl_en, box0, boxI, go_sem, stcells, ldcells, iv, bv, e1, la, lb, reduceCtorEq, ↓reduceIte, Nat.reduceEqDiff]
  · have e1 : decide (((digs b).length : Int) > 0) = true := gt_t (by have := digs_length_pos.2 (Nat.pos_of_ne_zero h0); omega)
    by_cases h1 : (digs a).length ≤ 2 ∧ (digs b).length ≤ 2
    · have t1 := tiny_spec (Rw.dg (digs a)) (digs_dig a) h1.1
      have t2 := tiny_spec (Rw.dg (digs b)) (digs_dig b) h1.2
      rw [val_digs] at t1 t2
      simp only [iv, bv] at t1 t2
      have d1 : decide (((digs a).length : Int) ≤ 2) = true := le_t (by omega)
      have d2 : decide (((digs b).length : Int) ≤ 2) = true := le_t (by omega)
      have s1 := digs_small h1.1
      have s2 := digs_small h1.2
      have g1 := rg_ints b a s1 s2
      have hg : Nat.gcd a b ≤ b := Nat.gcd_le_right _ (Nat.pos_of_ne_zero h0)
      have u1 := rOf_spec (n := ((Nat.gcd a b : Nat) : Int)) ⟨by omega, by omega⟩
      rw [encI_nat] at u1
      simp only [rg_st, rg_en, box0, go_sem] at g1
      simp only [iv] at u1
      refine .inr ?_
      rw [X_loop]
      simp -implicitDefEqProofs (maxSteps := 10000000) only [gantryref04_Gcd_l1, gl_st, gl_ret, box0, boxI, go_sem, stcells, ldcells, iv, bv, e1, la, lb, d1, d2, t1, t2, g1, u1, reduceCtorEq, ↓reduceIte, Nat.reduceEqDiff]
    · have td := rDiv_spec (x := (a : Int)) (y := (b : Int)) (by omega) (by rw [nd_nat]; exact ha) (by rw [nd_nat]; exact hb)
      have e3 : (a : Int) / (b : Int) = ((a / b : Nat) : Int) := rfl
      have e4 : (a : Int) % (b : Int) = ((a % b : Nat) : Int) := rfl
      rw [e3, e4, encI_nat, encI_nat, encI_nat, encI_nat] at td
      have hlt : a % b < b := Nat.mod_lt _ (Nat.pos_of_ne_zero h0)
      have hx : X G gantryref04_Gcd_l1 (gl_st a b) = some (.n, gl_st b (a % b)) := by
        by_cases h2 : (digs a).length ≤ 2
        · have h3 : ¬ (digs b).length ≤ 2 := fun h => h1 ⟨h2, h⟩
          have d1 : decide (((digs a).length : Int) ≤ 2) = true := le_t (by omega)
          have d2 : decide (((digs b).length : Int) ≤ 2) = false := le_f (by omega)
          simp -implicitDefEqProofs (maxSteps := 10000000) only [gantryref04_Gcd_l1, gl_st, gl_ret, box0, boxI, go_sem, stcells, ldcells, iv, bv, e1, la, lb, d1, d2, td, apartS, ne_eq, not_false_eq_true, reduceCtorEq, ↓reduceIte, Nat.reduceEqDiff]
        · have d1 : decide (((digs a).length : Int) ≤ 2) = false := le_f (by omega)
          simp -implicitDefEqProofs (maxSteps := 10000000) only [gantryref04_Gcd_l1, gl_st, gl_ret, box0, boxI, go_sem, stcells, ldcells, iv, bv, e1, la, lb, d1, td, apartS, ne_eq, not_false_eq_true, reduceCtorEq, ↓reduceIte, Nat.reduceEqDiff]
      have hr := ih (a % b) hlt b (by omega) (Nat.le_trans (digs_len_mono (Nat.le_of_lt hlt)) hb)
      rw [gcd_step] at hr
      rw [X_loop, hx]
      exact hr

theorem rGcd_spec {x y : Int} (hx : nd x ≤ 1000000000000) (hy : nd y ≤ 999999999999) : callX G n_gantryref04_Gcd [encI x, encI y] = some (.d (encI (Int.gcd x y : Nat))) := by
  rw [callX_eq (cf := gantryref04_Gcd) rfl]
  have hxn : (digs x.natAbs).length ≤ 1000000000000 := hx
  have hyn : (digs y.natAbs).length ≤ 999999999999 := hy
  have o1 := normal_spec false (Rw.dg (digs x.natAbs)) (by omega) (digs_dig _)
  have o2 := normal_spec false (Rw.dg (digs y.natAbs)) (by omega) (digs_dig _)
  rw [encI_sgn_false, val_digs, encI_nat] at o1 o2
  simp only [bv] at o1 o2
  rw [encI_nat]
  have e : Int.gcd x y = Nat.gcd x.natAbs y.natAbs := rfl
  rw [e]
  rcases rg_loop y.natAbs x.natAbs hxn hyn with g | g
  · simp only [gl_st, gl_en, box0, boxI, go_sem] at g
    simp -implicitDefEqProofs (maxSteps := 10000000) only [gantryref04_Gcd, encI, go_sem, stcells, ldcells, iv, bv, o1, o2, g, reduceCtorEq, ↓reduceIte, Nat.reduceEqDiff]
  · simp only [gl_st, gl_ret, box0, boxI, go_sem] at g
    simp -implicitDefEqProofs (maxSteps := 10000000) only [gantryref04_Gcd, encI, go_sem, stcells, ldcells, iv, bv, o1, o2, g, reduceCtorEq, ↓reduceIte, Nat.reduceEqDiff]
end Go.AM

/- Rationals as the program holds them; rat.unit, one, lowest, Make, Of, Den -/
namespace Go.AM
open Go Go.RowKit

/-- A denominator's digits: none for one. -/
def dd (d : Nat) : List Int := if d = 1 then [] else digs d
def encR (q : Rat) : D := .agg [.v (.bool (decide (q.num < 0))), dg (digs q.num.natAbs), .v (.bool false), dg (dd q.den)]
/-- Digits it takes. -/
def sz (q : Rat) : Nat := max (nd q.num) (nd (q.den : Int))
theorem sz_num {q : Rat} {n : Nat} (h : sz q ≤ n) : nd q.num ≤ n := Nat.le_trans (Nat.le_max_left _ _) h
theorem sz_den {q : Rat} {n : Nat} (h : sz q ≤ n) : nd (q.den : Int) ≤ n := Nat.le_trans (Nat.le_max_right _ _) h
theorem sz_le {q : Rat} {n : Nat} (h1 : nd q.num ≤ n) (h2 : nd (q.den : Int) ≤ n) : sz q ≤ n := Nat.max_le.2 ⟨h1, h2⟩

theorem dd_one : dd 1 = [] := rfl
theorem dd_ne {d : Nat} (h : d ≠ 1) : dd d = digs d := if_neg h
theorem digs_one : digs 1 = [1] := by
  rw [digs_pos (by omega)]
  have e1 : (1 : Nat) % 1000000000 = 1 := by decide
  have e2 : (1 : Nat) / 1000000000 = 0 := by decide
  rw [e1, e2, digs_zero]; rfl
theorem encR_zero : encR 0 = .agg [.v (.bool false), .z true, .v (.bool false), .z true] := by
  have e : digs (0 : Rat).num.natAbs = [] := digs_zero
  rw [encR, e]; rfl
theorem gcd_pos_ne {n d : Int} (h : d ≠ 0) : 0 < Int.gcd n d := Int.gcd_pos_of_ne_zero_right n h
/-- In lowest terms. -/
theorem num_low {n d : Int} (hd : 0 < d) (hc : Int.gcd n d = 1) : (Rat.divInt n d).num = n ∧ ((Rat.divInt n d).den : Int) = d := by
  have e : Int.gcd d n = 1 := by rw [Int.gcd_comm]; exact hc
  constructor
  · rw [Rat.num_divInt, e, Int.sign_eq_one_of_pos hd]; simp
  · rw [Rat.den_divInt, e, if_neg (by omega)]; simp; omega
theorem encR_low {n d : Int} (hd : 0 < d) (hc : Int.gcd n d = 1) : encR (Rat.divInt n d) = .agg [.v (.bool (decide (n < 0))), dg (digs n.natAbs), .v (.bool false), dg (dd d.natAbs)] := by
  obtain ⟨e1, e2⟩ := num_low hd hc
  have e3 : (Rat.divInt n d).den = d.natAbs := by omega
  rw [encR, e1, e3]
theorem ixa0 (hp : Hp) {l : List Int} (h : l ≠ []) : ixaA hp 1 0 (.d (dg l)) = some (.d (.rp (l.map iv))) := by
  have h0 : 0 < l.length := List.length_pos_iff.2 h
  exact (Rw.dg l).ixa (j := 0) (by omega) (by omega) hp
theorem ld0 (hp : Hp) {l : List Int} (h : l ≠ []) : loadA hp none (.d (.rp (l.map iv))) = some (.d (.v (.int .i64 (l.getD 0 0)))) := by
  have h0 : 0 < l.length := List.length_pos_iff.2 h
  exact ldv hp l (j := 0) h0
theorem len_one {n : Nat} (h : (digs n).length = 1) : (digs n).getD 0 0 = (n : Int) := by
  have hv := val_digs n
  match hd : digs n, h with
  | [v], _ => rw [hd] at hv; simpa [val] using hv
variable [Its]

theorem unit_spec (x : Int) (hx : nd x ≤ 1000000000000) : callX G n_rat_unit [encI x] = some (.d (bv (decide (x = 1)))) := by
  rw [callX_eq (cf := rat_unit) rfl]
  have lx := lenA_dg (digs x.natAbs)
  by_cases h : x < 0
  · have x1 : decide (x < 0) = true := decide_eq_true h
    have x2 : decide (x = 1) = false := decide_eq_false (by omega)
    simp -implicitDefEqProofs (maxSteps := 10000000) only [rat_unit, encI, go_sem, stcells, ldcells, iv, bv, lx, x1, x2, reduceCtorEq, ↓reduceIte, Nat.reduceEqDiff]
  · have x1 : decide (x < 0) = false := decide_eq_false h
    by_cases hl : (digs x.natAbs).length = 1
    · have x3 : (((digs x.natAbs).length : Int) == 1) = true := beq_t (by omega)
      have hne : digs x.natAbs ≠ [] := by intro h; rw [h] at hl; cases hl
      have x4 := fun hp => ixa0 hp hne
      have x5 := fun hp => ld0 hp hne
      rw [len_one hl] at x5
      have x2 : (((x.natAbs : Nat) : Int) == 1) = decide (x = 1) := by
        by_cases h1 : x = 1
        · rw [decide_eq_true h1]; exact beq_t (by omega)
        · rw [decide_eq_false h1]; exact beq_f (by omega)
      simp -implicitDefEqProofs (maxSteps := 10000000) only [rat_unit, encI, go_sem, stcells, ldcells, iv, bv, lx, x1, x2, x3, x4, x5, reduceCtorEq, ↓reduceIte, Nat.reduceEqDiff]
    · have x3 : (((digs x.natAbs).length : Int) == 1) = false := beq_f (by omega)
      have x2 : decide (x = 1) = false := decide_eq_false (by
        intro h1; subst h1
        exact hl (by rw [show (1 : Int).natAbs = 1 from rfl, digs_one]; rfl))
      simp -implicitDefEqProofs (maxSteps := 10000000) only [rat_unit, encI, go_sem, stcells, ldcells, iv, bv, lx, x1, x2, x3, reduceCtorEq, ↓reduceIte, Nat.reduceEqDiff]

theorem rone_spec (x : Int) (hx : nd x ≤ 1000000000000) (h0 : 0 < x) : callX G n_gantryref05_one [encI x] = some (.d (bv (decide (x = 1)))) := by
  rw [callX_eq (cf := gantryref05_one) rfl]
  have lx := lenA_dg (digs x.natAbs)
  have x1 : decide (x < 0) = false := decide_eq_false (by omega)
  by_cases hl : (digs x.natAbs).length = 1
  · have x3 : (((digs x.natAbs).length : Int) != 1) = false := by rw [bne, beq_t (by omega)]; rfl
    have hne : digs x.natAbs ≠ [] := by intro h; rw [h] at hl; cases hl
    have x4 := fun hp => ixa0 hp hne
    have x5 := fun hp => ld0 hp hne
    rw [len_one hl] at x5
    have x2 : (((x.natAbs : Nat) : Int) == 1) = decide (x = 1) := by
      by_cases h1 : x = 1
      · rw [decide_eq_true h1]; exact beq_t (by omega)
      · rw [decide_eq_false h1]; exact beq_f (by omega)
    simp -implicitDefEqProofs (maxSteps := 10000000) only [gantryref05_one, encI, go_sem, stcells, ldcells, iv, bv, lx, x1, x2, x3, x4, x5, reduceCtorEq, ↓reduceIte, Nat.reduceEqDiff]
  · have x3 : (((digs x.natAbs).length : Int) != 1) = true := by rw [bne, beq_f (by omega)]; rfl
    have x2 : decide (x = 1) = false := decide_eq_false (by
      intro h1; subst h1
      exact hl (by rw [show (1 : Int).natAbs = 1 from rfl, digs_one]; rfl))
    simp -implicitDefEqProofs (maxSteps := 10000000) only [gantryref05_one, encI, go_sem, stcells, ldcells, iv, bv, lx, x1, x2, x3, reduceCtorEq, ↓reduceIte, Nat.reduceEqDiff]

theorem one_spec : callX G n_rat_one [] = some (.d (encI 1)) := by
  rw [callX_eq (cf := rat_one) rfl]
  have g := Of_spec (n := 1) ⟨by omega, by omega⟩
  simp only [iv, encI, bv] at g
  simp -implicitDefEqProofs (maxSteps := 10000000) only [rat_one, encI, go_sem, stcells, ldcells, iv, bv, g, reduceCtorEq, ↓reduceIte, Nat.reduceEqDiff]

theorem Den_spec (q : Rat) : callX G n_rat_Den [encR q] = some (.d (encI (q.den : Int))) := by
  rw [callX_eq (cf := rat_Den) rfl]
  have ld := lenA_dg (dd q.den)
  by_cases h : q.den = 1
  · have e1 : (((dd q.den).length : Int) == 0) = true := by rw [h]; rfl
    have g := one_spec
    rw [h]
    rw [h] at ld e1
    have e2 : ((1 : Nat) : Int) = 1 := rfl
    rw [e2]
    simp only [encI, bv] at g
    simp -implicitDefEqProofs (maxSteps := 10000000) only [rat_Den, encI, encR, h, go_sem, stcells, ldcells, iv, bv, ld, e1, g, reduceCtorEq, ↓reduceIte, Nat.reduceEqDiff]
  · rw [dd_ne h] at ld
    have e1 : (((digs q.den).length : Int) == 0) = false := beq_f (by have := digs_length_pos.2 q.den_pos; omega)
    rw [encI_nat]
    simp -implicitDefEqProofs (maxSteps := 10000000) only [rat_Den, encI, encR, dd_ne h, go_sem, stcells, ldcells, iv, bv, ld, e1, reduceCtorEq, ↓reduceIte, Nat.reduceEqDiff]

theorem rDen_spec (q : Rat) : callX G n_gantryref05_Den [encR q] = some (.d (encI (q.den : Int))) := by
  rw [callX_eq (cf := gantryref05_Den) rfl]
  have ld := lenA_dg (dd q.den)
  by_cases h : q.den = 1
  · have e1 : (((dd q.den).length : Int) == 0) = true := by rw [h]; rfl
    have g := rOf_spec (n := 1) ⟨by omega, by omega⟩
    rw [h]
    rw [h] at ld e1
    have e2 : ((1 : Nat) : Int) = 1 := rfl
    rw [e2]
    simp only [encI, bv, iv] at g
    simp -implicitDefEqProofs (maxSteps := 10000000) only [gantryref05_Den, encI, encR, h, go_sem, stcells, ldcells, iv, bv, ld, e1, g, reduceCtorEq, ↓reduceIte, Nat.reduceEqDiff]
  · rw [dd_ne h] at ld
    have e1 : (((digs q.den).length : Int) == 0) = false := beq_f (by have := digs_length_pos.2 q.den_pos; omega)
    rw [encI_nat]
    simp -implicitDefEqProofs (maxSteps := 10000000) only [gantryref05_Den, encI, encR, dd_ne h, go_sem, stcells, ldcells, iv, bv, ld, e1, reduceCtorEq, ↓reduceIte, Nat.reduceEqDiff]
end Go.AM

/- rat.lowest, Make, Of; ref05.Make, Of -/
namespace Go.AM
open Go Go.RowKit

theorem lenz {x : Int} (h : x = 0) : (((digs x.natAbs).length : Int) == 0) = true := by subst h; exact beq_t (by rw [show (0 : Int).natAbs = 0 from rfl, digs_zero]; rfl)
theorem lennz {x : Int} (h : x ≠ 0) : (((digs x.natAbs).length : Int) == 0) = false := beq_f (by have := digs_length_pos.2 (show 0 < x.natAbs by omega); omega)
theorem gcd_ediv {n d : Int} (hd : d ≠ 0) : Int.gcd (n / (Int.gcd n d : Nat)) (d / (Int.gcd n d : Nat)) = 1 := by
  have hg : 0 < Int.gcd n d := gcd_pos_ne hd
  rw [Int.gcd_ediv (Int.gcd_dvd_left n d) (Int.gcd_dvd_right n d)]
  simp only [Int.natAbs_natCast]
  exact Nat.div_self hg
theorem divInt_ediv {n d : Int} (hd : d ≠ 0) : Rat.divInt (n / (Int.gcd n d : Nat)) (d / (Int.gcd n d : Nat)) = Rat.divInt n d := by
  have hg : 0 < Int.gcd n d := gcd_pos_ne hd
  have h1 := Int.ediv_mul_cancel (Int.gcd_dvd_left n d)
  have h2 := Int.ediv_mul_cancel (Int.gcd_dvd_right n d)
  have := Rat.divInt_mul_right (a := (Int.gcd n d : Nat)) (n := n / (Int.gcd n d : Nat)) (d := d / (Int.gcd n d : Nat)) (by omega)
  rw [h1, h2] at this
  exact this.symm
theorem ediv_ne {n d : Int} (hd : d ≠ 0) : d / (Int.gcd n d : Nat) ≠ 0 := by
  intro h
  have h2 := Int.ediv_mul_cancel (Int.gcd_dvd_right n d)
  rw [h, Int.zero_mul] at h2
  exact hd h2.symm
theorem nd_ediv {n : Int} {g : Nat} : nd (n / (g : Int)) ≤ nd n := nd_mono (by
  rcases Nat.eq_zero_or_pos g with h | h
  · subst h; simp
  · exact Int.natAbs_ediv_le_natAbs _ _)
variable [Its]

theorem lowest_spec {n d : Int} (hd : d ≠ 0) (hc : Int.gcd n d = 1) (hdn : nd d ≤ 1000000000000) : callX G n_rat_lowest [encI n, encI d] = some (.d (encR (Rat.divInt n d))) := by
  rw [callX_eq (cf := rat_lowest) rfl]
  by_cases h : d < 0
  · have x1 : decide (d < 0) = true := decide_eq_true h
    have g1 := Neg_spec n
    have g2 := Neg_spec d
    have g3 := unit_spec (-d) (by rw [nd_neg]; exact hdn)
    have e := encR_low (n := -n) (d := -d) (by omega) (by rw [Int.gcd_neg, Int.neg_gcd]; exact hc)
    rw [Rat.neg_divInt_neg] at e
    rw [e]
    clear e
    generalize -n = N at *
    obtain ⟨D, hD⟩ : ∃ D, -d = D := ⟨_, rfl⟩
    rw [hD] at g2 g3 ⊢
    simp only [encI, bv, iv] at g1 g2 g3
    rw [x1] at g2
    by_cases h1 : D = 1
    · rw [decide_eq_true h1] at g3
      have f1 : dg (dd D.natAbs) = .z true := by subst h1; rfl
      simp -implicitDefEqProofs (maxSteps := 10000000) only [rat_lowest, encI, go_sem, stcells, ldcells, iv, bv, x1, g1, g2, g3, f1, reduceCtorEq, ↓reduceIte, Nat.reduceEqDiff]
    · rw [decide_eq_false h1] at g3
      have f1 : dd D.natAbs = digs D.natAbs := dd_ne (by omega)
      have f2 : decide (D < 0) = false := decide_eq_false (by omega)
      rw [f2] at g2 g3
      simp -implicitDefEqProofs (maxSteps := 10000000) only [rat_lowest, encI, go_sem, stcells, ldcells, iv, bv, x1, g1, g2, g3, f1, f2, reduceCtorEq, ↓reduceIte, Nat.reduceEqDiff]
  · have x1 : decide (d < 0) = false := decide_eq_false h
    have g3 := unit_spec d hdn
    rw [encR_low (n := n) (d := d) (by omega) hc]
    simp only [encI, bv, iv] at g3
    rw [x1] at g3
    by_cases h1 : d = 1
    · rw [decide_eq_true h1] at g3
      have f1 : dg (dd d.natAbs) = .z true := by subst h1; rfl
      simp -implicitDefEqProofs (maxSteps := 10000000) only [rat_lowest, encI, go_sem, stcells, ldcells, iv, bv, x1, g3, f1, reduceCtorEq, ↓reduceIte, Nat.reduceEqDiff]
    · rw [decide_eq_false h1] at g3
      have f1 : dd d.natAbs = digs d.natAbs := dd_ne (by omega)
      simp -implicitDefEqProofs (maxSteps := 10000000) only [rat_lowest, encI, go_sem, stcells, ldcells, iv, bv, x1, g3, f1, reduceCtorEq, ↓reduceIte, Nat.reduceEqDiff]

theorem Make_spec {n d : Int} (hn : nd n ≤ 1000000000000) (hdn : nd d ≤ 1000000000000) : callX G n_rat_Make [encI n, encI d] = some (.d (encR (Rat.divInt n d))) := by
  rw [callX_eq (cf := rat_Make) rfl]
  have ln := lenA_dg (digs n.natAbs)
  have ld := lenA_dg (digs d.natAbs)
  by_cases hd : d = 0
  · have f1 := lenz hd
    have e : Rat.divInt n d = 0 := by rw [hd, Rat.divInt_zero]
    rw [e, encR_zero]
    simp -implicitDefEqProofs (maxSteps := 10000000) only [rat_Make, encI, go_sem, stcells, ldcells, iv, bv, ln, ld, f1, reduceCtorEq, ↓reduceIte, Nat.reduceEqDiff]
  have f1 := lennz hd
  by_cases hn0 : n = 0
  · have f2 := lenz hn0
    have e : Rat.divInt n d = 0 := by rw [hn0, Rat.zero_divInt]
    rw [e, encR_zero]
    simp -implicitDefEqProofs (maxSteps := 10000000) only [rat_Make, encI, go_sem, stcells, ldcells, iv, bv, ln, ld, f1, f2, reduceCtorEq, ↓reduceIte, Nat.reduceEqDiff]
  have f2 := lennz hn0
  have g1 := Gcd_spec hn hdn
  have hg : 0 < Int.gcd n d := gcd_pos_ne hd
  have hgn : nd ((Int.gcd n d : Nat) : Int) ≤ 1000000000000 := by
    refine Nat.le_trans (nd_mono ?_) hdn
    rw [Int.natAbs_natCast]
    exact Nat.le_of_dvd (by omega) (Int.gcd_dvd_natAbs_right n d)
  have g2 := unit_spec _ hgn
  by_cases h1 : Int.gcd n d = 1
  · have g3 := lowest_spec hd h1 hdn
    rw [decide_eq_true (show ((Int.gcd n d : Nat) : Int) = 1 by omega)] at g2
    rw [encI_nat] at g1 g2
    simp only [encI, encR, bv, iv] at g1 g2 g3
    simp -implicitDefEqProofs (maxSteps := 10000000) only [rat_Make, encI, encR, go_sem, stcells, ldcells, iv, bv, ln, ld, f1, f2, g1, g2, g3, reduceCtorEq, ↓reduceIte, Nat.reduceEqDiff]
  · rw [decide_eq_false (show ¬ ((Int.gcd n d : Nat) : Int) = 1 by omega)] at g2
    have g3 := lowest_spec (n := n / (Int.gcd n d : Nat)) (d := d / (Int.gcd n d : Nat)) (ediv_ne hd) (gcd_ediv hd) (Nat.le_trans nd_ediv hdn)
    have g4 := Div_spec (x := n) (y := (Int.gcd n d : Nat)) (by omega) hn hgn
    have g5 := Div_spec (x := d) (y := (Int.gcd n d : Nat)) (by omega) hdn hgn
    rw [divInt_ediv hd] at g3
    rw [encI_nat] at g1 g2 g4 g5
    generalize n / (Int.gcd n d : Nat) = N at *
    generalize d / (Int.gcd n d : Nat) = D at *
    generalize n % (Int.gcd n d : Nat) = M1 at *
    generalize d % (Int.gcd n d : Nat) = M2 at *
    simp only [encI, encR, bv, iv] at g1 g2 g3 g4 g5
    simp -implicitDefEqProofs (maxSteps := 10000000) only [rat_Make, encI, encR, go_sem, stcells, ldcells, iv, bv, ln, ld, f1, f2, g1, g2, g3, g4, g5, apartS, ne_eq, not_false_eq_true, reduceCtorEq, ↓reduceIte, Nat.reduceEqDiff]

theorem ratOf_spec {n d : Int} (hn : I64 n) (hd : I64 d) : callX G n_rat_Of [iv n, iv d] = some (.d (encR (Rat.divInt n d))) := by
  rw [callX_eq (cf := rat_Of) rfl]
  have g1 := Of_spec hn
  have g2 := Of_spec hd
  have g3 := Make_spec (n := n) (d := d) (Nat.le_trans (nd_i64 hn) (by omega)) (Nat.le_trans (nd_i64 hd) (by omega))
  simp only [encI, encR, bv, iv] at g1 g2 g3
  simp -implicitDefEqProofs (maxSteps := 10000000) only [rat_Of, encI, encR, go_sem, stcells, ldcells, iv, bv, g1, g2, g3, reduceCtorEq, ↓reduceIte, Nat.reduceEqDiff]

theorem rMake_spec {n d : Int} (hn : nd n ≤ 1000000000000) (hdn : nd d ≤ 999999999999) : callX G n_gantryref05_Make [encI n, encI d] = some (.d (encR (Rat.divInt n d))) := by
  rw [callX_eq (cf := gantryref05_Make) rfl]
  have ln := lenA_dg (digs n.natAbs)
  have ld := lenA_dg (digs d.natAbs)
  by_cases hd : d = 0
  · have f1 := lenz hd
    have e : Rat.divInt n d = 0 := by rw [hd, Rat.divInt_zero]
    rw [e, encR_zero]
    simp -implicitDefEqProofs (maxSteps := 10000000) only [gantryref05_Make, encI, go_sem, stcells, ldcells, iv, bv, ln, ld, f1, reduceCtorEq, ↓reduceIte, Nat.reduceEqDiff]
  have f1 := lennz hd
  by_cases hn0 : n = 0
  · have f2 := lenz hn0
    have e : Rat.divInt n d = 0 := by rw [hn0, Rat.zero_divInt]
    rw [e, encR_zero]
    simp -implicitDefEqProofs (maxSteps := 10000000) only [gantryref05_Make, encI, go_sem, stcells, ldcells, iv, bv, ln, ld, f1, f2, reduceCtorEq, ↓reduceIte, Nat.reduceEqDiff]
  have f2 := lennz hn0
  have g1 := rGcd_spec hn hdn
  have hg : 0 < Int.gcd n d := gcd_pos_ne hd
  have hgn : nd ((Int.gcd n d : Nat) : Int) ≤ 999999999999 := by
    refine Nat.le_trans (nd_mono ?_) hdn
    rw [Int.natAbs_natCast]
    exact Nat.le_of_dvd (by omega) (Int.gcd_dvd_natAbs_right n d)
  have g4 := rDiv_spec (x := n) (y := (Int.gcd n d : Nat)) (by omega) hn hgn
  have g5 := rDiv_spec (x := d) (y := (Int.gcd n d : Nat)) (by omega) (by omega) hgn
  have hD := ediv_ne (n := n) hd
  have hc := gcd_ediv (n := n) hd
  have hDn := Nat.le_trans (nd_ediv (n := d) (g := Int.gcd n d)) hdn
  have hNn := Nat.le_trans (nd_ediv (n := n) (g := Int.gcd n d)) hn
  rw [← divInt_ediv hd]
  rw [encI_nat] at g1 g4 g5
  generalize n / (Int.gcd n d : Nat) = N at *
  generalize d / (Int.gcd n d : Nat) = D at *
  generalize n % (Int.gcd n d : Nat) = M1 at *
  generalize d % (Int.gcd n d : Nat) = M2 at *
  by_cases h : D < 0
  · have x1 : decide (D < 0) = true := decide_eq_true h
    have g6 := rNeg_spec (x := N) hNn
    have g7 := rNeg_spec (x := D) (by omega)
    have g3 := rone_spec (-D) (by rw [nd_neg]; omega) (by omega)
    have e := encR_low (n := -N) (d := -D) (by omega) (by rw [Int.gcd_neg, Int.neg_gcd]; exact hc)
    rw [Rat.neg_divInt_neg] at e
    rw [e]
    clear e
    have hpos : 0 < -D := by omega
    generalize -N = N2 at *
    obtain ⟨D2, hD2⟩ : ∃ D2, -D = D2 := ⟨_, rfl⟩
    rw [hD2] at g7 g3 hpos ⊢
    simp only [encI, bv, iv] at g1 g3 g4 g5 g6 g7
    rw [x1] at g5 g7
    by_cases h1 : D2 = 1
    · rw [decide_eq_true h1] at g3
      have f3 : dg (dd D2.natAbs) = .z true := by subst h1; rfl
      simp -implicitDefEqProofs (maxSteps := 10000000) only [gantryref05_Make, encI, go_sem, stcells, ldcells, iv, bv, ln, ld, f1, f2, x1, g1, g4, g5, g6, g7, g3, f3, apartS, ne_eq, not_false_eq_true, reduceCtorEq, ↓reduceIte, Nat.reduceEqDiff]
    · rw [decide_eq_false h1] at g3
      have f3 : dd D2.natAbs = digs D2.natAbs := dd_ne (by omega)
      have f4 : decide (D2 < 0) = false := decide_eq_false (by omega)
      rw [f4] at g3 g7
      simp -implicitDefEqProofs (maxSteps := 10000000) only [gantryref05_Make, encI, go_sem, stcells, ldcells, iv, bv, ln, ld, f1, f2, x1, g1, g4, g5, g6, g7, g3, f3, f4, apartS, ne_eq, not_false_eq_true, reduceCtorEq, ↓reduceIte, Nat.reduceEqDiff]
  · have x1 : decide (D < 0) = false := decide_eq_false h
    have g3 := rone_spec D (by omega) (by omega)
    rw [encR_low (n := N) (d := D) (by omega) hc]
    simp only [encI, bv, iv] at g1 g3 g4 g5
    rw [x1] at g3 g5
    by_cases h1 : D = 1
    · rw [decide_eq_true h1] at g3
      have f3 : dg (dd D.natAbs) = .z true := by subst h1; rfl
      simp -implicitDefEqProofs (maxSteps := 10000000) only [gantryref05_Make, encI, go_sem, stcells, ldcells, iv, bv, ln, ld, f1, f2, x1, g1, g4, g5, g3, f3, apartS, ne_eq, not_false_eq_true, reduceCtorEq, ↓reduceIte, Nat.reduceEqDiff]
    · rw [decide_eq_false h1] at g3
      have f3 : dd D.natAbs = digs D.natAbs := dd_ne (by omega)
      simp -implicitDefEqProofs (maxSteps := 10000000) only [gantryref05_Make, encI, go_sem, stcells, ldcells, iv, bv, ln, ld, f1, f2, x1, g1, g4, g5, g3, f3, apartS, ne_eq, not_false_eq_true, reduceCtorEq, ↓reduceIte, Nat.reduceEqDiff]

theorem rratOf_spec {n d : Int} (hn : I64 n) (hd : I64 d) : callX G n_gantryref05_Of [iv n, iv d] = some (.d (encR (Rat.divInt n d))) := by
  rw [callX_eq (cf := gantryref05_Of) rfl]
  have g1 := rOf_spec hn
  have g2 := rOf_spec hd
  have g3 := rMake_spec (n := n) (d := d) (Nat.le_trans (nd_i64 hn) (by omega)) (Nat.le_trans (nd_i64 hd) (by omega))
  simp only [encI, encR, bv, iv] at g1 g2 g3
  simp -implicitDefEqProofs (maxSteps := 10000000) only [gantryref05_Of, encI, encR, go_sem, stcells, ldcells, iv, bv, g1, g2, g3, reduceCtorEq, ↓reduceIte, Nat.reduceEqDiff]
end Go.AM

/- Laws of rationals for rat and ref05. -/
namespace Go.AM
open Go Go.RowKit

theorem nd_one : nd 1 = 1 := by rw [nd, show (1 : Int).natAbs = 1 from rfl, digs_one]; rfl
theorem nd_pos {n : Nat} (h : 0 < n) : 1 ≤ nd (n : Int) := digs_length_pos.2 h
theorem sz_one (q : Rat) : 1 ≤ sz q := Nat.le_trans (nd_pos q.den_pos) (sz_den (Nat.le_refl _))
theorem nd_dvd {a b : Int} (h : a ∣ b) (hb : b ≠ 0) : nd a ≤ nd b := nd_mono (Nat.le_of_dvd (by omega) (Int.natAbs_dvd_natAbs.2 h))
theorem divInt_dvd {n d : Int} (hd : d ≠ 0) : (Rat.divInt n d).num ∣ n ∧ ((Rat.divInt n d).den : Int) ∣ d := by
  obtain ⟨m, h1, h2, h3⟩ := Rat.divInt_num_den (n := n) (d := d) (n' := (Rat.divInt n d).num) (d' := (Rat.divInt n d).den) (z' := (Rat.divInt n d).den_nz) (c := (Rat.divInt n d).reduced) hd rfl
  exact ⟨⟨m, h2⟩, ⟨m, h3⟩⟩
theorem sz_divInt {n d : Int} {k : Nat} (hk : 1 ≤ k) (hn : nd n ≤ k) (hd : nd d ≤ k) : sz (Rat.divInt n d) ≤ k := by
  by_cases h0 : d = 0
  · subst h0
    rw [Rat.divInt_zero]
    exact sz_le (by rw [Rat.zero_num, nd_zero]; omega) (by rw [Rat.zero_den]; exact Nat.le_trans (Nat.le_of_eq nd_one) hk)
  · obtain ⟨h1, h2⟩ := divInt_dvd (n := n) h0
    refine sz_le ?_ (Nat.le_trans (nd_dvd h2 h0) hd)
    by_cases hn0 : n = 0
    · subst hn0
      rw [Rat.zero_divInt, Rat.zero_num, nd_zero]; omega
    · exact Nat.le_trans (nd_dvd h1 hn0) hn
theorem add_divInt (a b : Rat) : a + b = Rat.divInt (a.num * b.den + b.num * a.den) ((a.den : Int) * b.den) := by
  rw [Rat.add_def', ← Rat.divInt_ofNat, Int.natCast_mul]
theorem mul_divInt (a b : Rat) : a * b = Rat.divInt (a.num * b.num) ((a.den : Int) * b.den) := by
  rw [Rat.mul_def', ← Rat.divInt_ofNat, Int.natCast_mul]
theorem div_divInt (a b : Rat) : a / b = Rat.divInt (a.num * b.den) ((a.den : Int) * b.num) := by
  rw [Rat.div_def, Rat.inv_def]
  conv => lhs; rw [← Rat.num_divInt_den a]
  rw [Rat.divInt_mul_divInt]
theorem inv_divInt' (b : Rat) : b⁻¹ = Rat.divInt b.den b.num := Rat.inv_def b
theorem sz_add {a b : Rat} : sz (a + b) ≤ sz a + sz b + 1 := by
  rw [add_divInt]
  have a1 := sz_num (Nat.le_refl (sz a)); have a2 := sz_den (Nat.le_refl (sz a))
  have b1 := sz_num (Nat.le_refl (sz b)); have b2 := sz_den (Nat.le_refl (sz b))
  have m1 := nd_mul (x := a.num) (y := b.den)
  have m2 := nd_mul (x := b.num) (y := a.den)
  have m3 := nd_mul (x := a.den) (y := b.den)
  exact sz_divInt (by omega) (nd_add (by omega) (by omega)) (by omega)
theorem sz_mul {a b : Rat} : sz (a * b) ≤ sz a + sz b := by
  rw [mul_divInt]
  have a1 := sz_num (Nat.le_refl (sz a)); have a2 := sz_den (Nat.le_refl (sz a))
  have b1 := sz_num (Nat.le_refl (sz b)); have b2 := sz_den (Nat.le_refl (sz b))
  have m1 := nd_mul (x := a.num) (y := b.num)
  have m3 := nd_mul (x := a.den) (y := b.den)
  have := sz_one a
  exact sz_divInt (by omega) (by omega) (by omega)
theorem sz_div {a b : Rat} : sz (a / b) ≤ sz a + sz b := by
  rw [div_divInt]
  have a1 := sz_num (Nat.le_refl (sz a)); have a2 := sz_den (Nat.le_refl (sz a))
  have b1 := sz_num (Nat.le_refl (sz b)); have b2 := sz_den (Nat.le_refl (sz b))
  have m1 := nd_mul (x := a.num) (y := b.den)
  have m3 := nd_mul (x := a.den) (y := b.num)
  have := sz_one a
  exact sz_divInt (by omega) (by omega) (by omega)
theorem sz_neg (a : Rat) : sz (-a) = sz a := by rw [sz, sz, Rat.neg_num, Rat.neg_den, nd_neg]
theorem sz_inv {b : Rat} : sz (b⁻¹) ≤ sz b := by
  rw [inv_divInt']
  exact sz_divInt (sz_one b) (sz_den (Nat.le_refl _)) (sz_num (Nat.le_refl _))

theorem of_den_one {a : Rat} (h : a.den = 1) : a = (a.num : Rat) := Rat.ext rfl h
theorem add_whole {a b : Rat} (ha : a.den = 1) (hb : b.den = 1) : (a + b).num = a.num + b.num ∧ (a + b).den = 1 := by
  have e : a + b = ((a.num + b.num : Int) : Rat) := by
    rw [Rat.intCast_add, ← of_den_one ha, ← of_den_one hb]
  rw [e]; exact ⟨rfl, rfl⟩
theorem mul_whole {a b : Rat} (ha : a.den = 1) (hb : b.den = 1) : (a * b).num = a.num * b.num ∧ (a * b).den = 1 := by
  have e : a * b = ((a.num * b.num : Int) : Rat) := by
    rw [Rat.intCast_mul, ← of_den_one ha, ← of_den_one hb]
  rw [e]; exact ⟨rfl, rfl⟩
theorem num_zero {a : Rat} (h : a.num = 0) : a = 0 := Rat.num_eq_zero.1 h
/-- Cancelling crosswise leaves lowest terms. -/
theorem cross (a b : Rat) : Int.gcd ((Rat.divInt a.num b.den).num * (Rat.divInt b.num a.den).num) (((Rat.divInt a.num b.den).den : Int) * (Rat.divInt b.num a.den).den) = 1 := by
  have hp := (Rat.divInt a.num b.den).reduced
  have hq := (Rat.divInt b.num a.den).reduced
  obtain ⟨p1, p2⟩ := divInt_dvd (n := a.num) (d := b.den) (by have := b.den_pos; omega)
  obtain ⟨q1, q2⟩ := divInt_dvd (n := b.num) (d := a.den) (by have := a.den_pos; omega)
  generalize Rat.divInt a.num b.den = p at *
  generalize Rat.divInt b.num a.den = q at *
  have c1 : Nat.Coprime p.num.natAbs q.den := Nat.Coprime.coprime_dvd_left (Int.natAbs_dvd_natAbs.2 p1) (Nat.Coprime.coprime_dvd_right (Int.natCast_dvd_natCast.1 q2) a.reduced)
  have c2 : Nat.Coprime q.num.natAbs p.den := Nat.Coprime.coprime_dvd_left (Int.natAbs_dvd_natAbs.2 q1) (Nat.Coprime.coprime_dvd_right (Int.natCast_dvd_natCast.1 p2) b.reduced)
  have e : Nat.Coprime (p.num.natAbs * q.num.natAbs) (p.den * q.den) :=
    Nat.Coprime.mul_left (Nat.Coprime.mul_right hp c1) (Nat.Coprime.mul_right c2 hq)
  rw [Int.gcd, Int.natAbs_mul, Int.natAbs_mul, Int.natAbs_natCast, Int.natAbs_natCast]
  exact e
theorem cross_val (a b : Rat) : Rat.divInt ((Rat.divInt a.num b.den).num * (Rat.divInt b.num a.den).num) (((Rat.divInt a.num b.den).den : Int) * (Rat.divInt b.num a.den).den) = a * b := by
  rw [← mul_divInt, Rat.divInt_mul_divInt, mul_divInt, Int.mul_comm (b.den : Int)]

end Go.AM

/- rat.Neg, Sign, Add, Sub, Mul, Div, Compare -/
namespace Go.AM
open Go Go.RowKit

theorem dden {a : Rat} (h : a.den = 1) : dg (dd a.den) = .z true := by rw [h]; rfl
theorem encI_den (a : Rat) : encI (a.den : Int) = .agg [.v (.bool false), dg (digs a.den)] := encI_nat a.den
theorem lend1 {a : Rat} (h : a.den = 1) : (((dd a.den).length : Int) == 0) = true := by rw [h]; rfl
theorem lend0 {a : Rat} (h : a.den ≠ 1) : (((dd a.den).length : Int) == 0) = false := by
  rw [dd_ne h]; exact beq_f (by have := digs_length_pos.2 a.den_pos; omega)
variable [Its]

theorem ratNeg_spec (a : Rat) : callX G n_rat_Neg [encR a] = some (.d (encR (-a))) := by
  rw [callX_eq (cf := rat_Neg) rfl]
  have g := Neg_spec a.num
  have e : encR (-a) = .agg [.v (.bool (decide (-a.num < 0))), dg (digs (-a.num).natAbs), .v (.bool false), dg (dd a.den)] := rfl
  rw [e]
  clear e
  generalize -a.num = N at *
  simp only [encI, bv, iv] at g
  simp -implicitDefEqProofs (maxSteps := 10000000) only [rat_Neg, encR, go_sem, stcells, ldcells, iv, bv, g, reduceCtorEq, ↓reduceIte, Nat.reduceEqDiff]

theorem ratSign_spec (a : Rat) : callX G n_rat_Sign [encR a] = some (.d (iv (Int.sign a.num))) := by
  rw [callX_eq (cf := rat_Sign) rfl]
  have g := Sign_spec a.num
  simp only [encI, bv, iv] at g
  simp -implicitDefEqProofs (maxSteps := 10000000) only [rat_Sign, encR, go_sem, stcells, ldcells, iv, bv, g, reduceCtorEq, ↓reduceIte, Nat.reduceEqDiff]

theorem ratAdd_spec {a b : Rat} (ha : sz a ≤ 100000000000) (hb : sz b ≤ 100000000000) : callX G n_rat_Add [encR a, encR b] = some (.d (encR (a + b))) := by
  rw [callX_eq (cf := rat_Add) rfl]
  have a1 := sz_num ha; have a2 := sz_den ha; have b1 := sz_num hb; have b2 := sz_den hb
  have la := lenA_dg (digs a.num.natAbs)
  have lb := lenA_dg (digs b.num.natAbs)
  have ea := lenA_dg (dd a.den)
  have eb := lenA_dg (dd b.den)
  by_cases h1 : a.den = 1 ∧ b.den = 1
  · obtain ⟨w1, w2⟩ := add_whole h1.1 h1.2
    have u1 := lend1 h1.1
    have u2 := lend1 h1.2
    have g := Add_spec (x := a.num) (y := b.num) (by omega) (by omega)
    have e : encR (a + b) = .agg [.v (.bool (decide (a.num + b.num < 0))), dg (digs (a.num + b.num).natAbs), .v (.bool false), .z true] := by rw [encR, w1, dden w2]
    rw [e]
    clear e w1 w2
    generalize a.num + b.num = N at *
    simp only [encI, bv, iv] at g
    simp -implicitDefEqProofs (maxSteps := 10000000) only [rat_Add, encR, go_sem, stcells, ldcells, iv, bv, la, lb, ea, eb, u1, u2, g, reduceCtorEq, ↓reduceIte, Nat.reduceEqDiff]
  · have m1 := nd_mul (x := a.num) (y := b.den)
    have m2 := nd_mul (x := b.num) (y := a.den)
    have m3 := nd_mul (x := a.den) (y := b.den)
    have g1 := Den_spec a
    have g2 := Den_spec b
    have g3 := Mul_spec (x := a.num) (y := b.den) (by omega) (by omega)
    have g4 := Mul_spec (x := b.num) (y := a.den) (by omega) (by omega)
    have g5 := Mul_spec (x := a.den) (y := b.den) (by omega) (by omega)
    have g6 := Add_spec (x := a.num * b.den) (y := b.num * a.den) (by omega) (by omega)
    have g7 := Make_spec (n := a.num * b.den + b.num * a.den) (d := (a.den : Int) * b.den) (Nat.le_trans (nd_add (k := 200000000000) (by omega) (by omega)) (by omega)) (by omega)
    rw [← add_divInt] at g7
    rw [encI_den] at g1 g2 g3 g4
    rw [encI_den, encI_den] at g5
    generalize a.num * (b.den : Int) + b.num * (a.den : Int) = N at *
    generalize a.num * (b.den : Int) = N1 at *
    generalize b.num * (a.den : Int) = N2 at *
    generalize (a.den : Int) * (b.den : Int) = D at *
    by_cases h2 : a.num = 0
    · have z1 := lenz h2
      have e : a + b = b := by rw [num_zero h2, Rat.zero_add]
      rw [e]
      by_cases h3 : a.den = 1
      · have u1 := lend1 h3
        have u2 := lend0 (fun h => h1 ⟨h3, h⟩)
        simp -implicitDefEqProofs (maxSteps := 10000000) only [rat_Add, encR, go_sem, stcells, ldcells, iv, bv, la, lb, ea, eb, u1, u2, z1, reduceCtorEq, ↓reduceIte, Nat.reduceEqDiff]
      · have u1 := lend0 h3
        simp -implicitDefEqProofs (maxSteps := 10000000) only [rat_Add, encR, go_sem, stcells, ldcells, iv, bv, la, lb, ea, eb, u1, z1, reduceCtorEq, ↓reduceIte, Nat.reduceEqDiff]
    · have z1 := lennz h2
      by_cases h4 : b.num = 0
      · have z2 := lenz h4
        have e : a + b = a := by rw [num_zero h4, Rat.add_zero]
        rw [e]
        by_cases h3 : a.den = 1
        · have u1 := lend1 h3
          have u2 := lend0 (fun h => h1 ⟨h3, h⟩)
          simp -implicitDefEqProofs (maxSteps := 10000000) only [rat_Add, encR, go_sem, stcells, ldcells, iv, bv, la, lb, ea, eb, u1, u2, z1, z2, reduceCtorEq, ↓reduceIte, Nat.reduceEqDiff]
        · have u1 := lend0 h3
          simp -implicitDefEqProofs (maxSteps := 10000000) only [rat_Add, encR, go_sem, stcells, ldcells, iv, bv, la, lb, ea, eb, u1, z1, z2, reduceCtorEq, ↓reduceIte, Nat.reduceEqDiff]
      · have z2 := lennz h4
        generalize a + b = S at *
        simp only [encI, encR, bv, iv] at g1 g2 g3 g4 g5 g6 g7
        by_cases h3 : a.den = 1
        · have u1 := lend1 h3
          have u2 := lend0 (fun h => h1 ⟨h3, h⟩)
          simp -implicitDefEqProofs (maxSteps := 10000000) only [rat_Add, encR, go_sem, stcells, ldcells, iv, bv, la, lb, ea, eb, u1, u2, z1, z2, g1, g2, g3, g4, g5, g6, g7, apartS, ne_eq, not_false_eq_true, reduceCtorEq, ↓reduceIte, Nat.reduceEqDiff]
        · have u1 := lend0 h3
          simp -implicitDefEqProofs (maxSteps := 10000000) only [rat_Add, encR, go_sem, stcells, ldcells, iv, bv, la, lb, ea, eb, u1, z1, z2, g1, g2, g3, g4, g5, g6, g7, apartS, ne_eq, not_false_eq_true, reduceCtorEq, ↓reduceIte, Nat.reduceEqDiff]

theorem ratSub_spec {a b : Rat} (ha : sz a ≤ 100000000000) (hb : sz b ≤ 100000000000) : callX G n_rat_Sub [encR a, encR b] = some (.d (encR (a - b))) := by
  rw [callX_eq (cf := rat_Sub) rfl]
  have g1 := ratNeg_spec b
  have g2 := ratAdd_spec (a := a) (b := -b) ha (by rw [sz_neg]; exact hb)
  rw [← Rat.sub_eq_add_neg] at g2
  generalize -b = B at *
  simp only [encR, bv, iv] at g1 g2
  simp -implicitDefEqProofs (maxSteps := 10000000) only [rat_Sub, encR, go_sem, stcells, ldcells, iv, bv, g1, g2, reduceCtorEq, ↓reduceIte, Nat.reduceEqDiff]

theorem ratMul_spec {a b : Rat} (ha : sz a ≤ 100000000000) (hb : sz b ≤ 100000000000) : callX G n_rat_Mul [encR a, encR b] = some (.d (encR (a * b))) := by
  rw [callX_eq (cf := rat_Mul) rfl]
  have a1 := sz_num ha; have a2 := sz_den ha; have b1 := sz_num hb; have b2 := sz_den hb
  have la := lenA_dg (digs a.num.natAbs)
  have lb := lenA_dg (digs b.num.natAbs)
  have ea := lenA_dg (dd a.den)
  have eb := lenA_dg (dd b.den)
  by_cases h2 : a.num = 0
  · have z1 := lenz h2
    have e : a * b = 0 := by rw [num_zero h2, Rat.zero_mul]
    rw [e, encR_zero]
    simp -implicitDefEqProofs (maxSteps := 10000000) only [rat_Mul, encR, go_sem, stcells, ldcells, iv, bv, la, lb, ea, eb, z1, reduceCtorEq, ↓reduceIte, Nat.reduceEqDiff]
  have z1 := lennz h2
  by_cases h4 : b.num = 0
  · have z2 := lenz h4
    have e : a * b = 0 := by rw [num_zero h4, Rat.mul_zero]
    rw [e, encR_zero]
    simp -implicitDefEqProofs (maxSteps := 10000000) only [rat_Mul, encR, go_sem, stcells, ldcells, iv, bv, la, lb, ea, eb, z1, z2, reduceCtorEq, ↓reduceIte, Nat.reduceEqDiff]
  have z2 := lennz h4
  by_cases h1 : a.den = 1 ∧ b.den = 1
  · obtain ⟨w1, w2⟩ := mul_whole h1.1 h1.2
    have u1 := lend1 h1.1
    have u2 := lend1 h1.2
    have g := Mul_spec (x := a.num) (y := b.num) (by omega) (by omega)
    have e : encR (a * b) = .agg [.v (.bool (decide (a.num * b.num < 0))), dg (digs (a.num * b.num).natAbs), .v (.bool false), .z true] := by rw [encR, w1, dden w2]
    rw [e]
    clear e w1 w2
    generalize a.num * b.num = N at *
    simp only [encI, bv, iv] at g
    simp -implicitDefEqProofs (maxSteps := 10000000) only [rat_Mul, encR, go_sem, stcells, ldcells, iv, bv, la, lb, ea, eb, u1, u2, z1, z2, g, reduceCtorEq, ↓reduceIte, Nat.reduceEqDiff]
  · have g1 := Den_spec a
    have g2 := Den_spec b
    have g3 := Make_spec (n := a.num) (d := b.den) (by omega) (by omega)
    have g4 := Make_spec (n := b.num) (d := a.den) (by omega) (by omega)
    have k1 := sz_divInt (n := a.num) (d := b.den) (k := 100000000000) (by omega) a1 b2
    have k2 := sz_divInt (n := b.num) (d := a.den) (k := 100000000000) (by omega) b1 a2
    have cr := cross a b
    have cv := cross_val a b
    generalize Rat.divInt a.num b.den = p at *
    generalize Rat.divInt b.num a.den = q at *
    have p1 := sz_num k1; have p2 := sz_den k1; have q1 := sz_num k2; have q2 := sz_den k2
    have m1 := nd_mul (x := p.num) (y := q.num)
    have m2 := nd_mul (x := p.den) (y := q.den)
    have g5 := Den_spec p
    have g6 := Den_spec q
    have g7 := Mul_spec (x := p.num) (y := q.num) (by omega) (by omega)
    have g8 := Mul_spec (x := p.den) (y := q.den) (by omega) (by omega)
    have hne : (p.den : Int) * (q.den : Int) ≠ 0 := Int.mul_ne_zero (by have := p.den_pos; omega) (by have := q.den_pos; omega)
    have g9 := lowest_spec (n := p.num * q.num) (d := (p.den : Int) * q.den) hne cr (by omega)
    rw [cv] at g9
    rw [encI_den] at g1 g2 g3 g4 g5 g6
    rw [encI_den, encI_den] at g8
    generalize p.num * q.num = N at *
    generalize (p.den : Int) * (q.den : Int) = D at *
    generalize a * b = S at *
    simp only [encI, encR, bv, iv] at g1 g2 g3 g4 g5 g6 g7 g8 g9
    by_cases h3 : a.den = 1
    · have u1 := lend1 h3
      have u2 := lend0 (fun h => h1 ⟨h3, h⟩)
      simp -implicitDefEqProofs (maxSteps := 10000000) only [rat_Mul, encR, go_sem, stcells, ldcells, iv, bv, la, lb, ea, eb, u1, u2, z1, z2, g1, g2, g3, g4, g5, g6, g7, g8, g9, apartS, ne_eq, not_false_eq_true, reduceCtorEq, ↓reduceIte, Nat.reduceEqDiff]
    · have u1 := lend0 h3
      simp -implicitDefEqProofs (maxSteps := 10000000) only [rat_Mul, encR, go_sem, stcells, ldcells, iv, bv, la, lb, ea, eb, u1, z1, z2, g1, g2, g3, g4, g5, g6, g7, g8, g9, apartS, ne_eq, not_false_eq_true, reduceCtorEq, ↓reduceIte, Nat.reduceEqDiff]

theorem ratDiv_spec {a b : Rat} (ha : sz a ≤ 100000000000) (hb : sz b ≤ 100000000000) : callX G n_rat_Div [encR a, encR b] = some (.d (encR (a / b))) := by
  rw [callX_eq (cf := rat_Div) rfl]
  have b1 := sz_num hb; have b2 := sz_den hb
  have lb := lenA_dg (digs b.num.natAbs)
  by_cases h4 : b.num = 0
  · have z2 := lenz h4
    have e : a / b = 0 := by rw [num_zero h4, Rat.div_def, Rat.inv_zero, Rat.mul_zero]
    rw [e, encR_zero]
    simp -implicitDefEqProofs (maxSteps := 10000000) only [rat_Div, encR, go_sem, stcells, ldcells, iv, bv, lb, z2, reduceCtorEq, ↓reduceIte, Nat.reduceEqDiff]
  have z2 := lennz h4
  have g1 := Den_spec b
  have hc : Int.gcd (b.den : Int) b.num = 1 := by
    have := b.reduced
    rw [Int.gcd_comm]
    exact this
  have g2 := lowest_spec (n := b.den) (d := b.num) h4 hc (by omega)
  rw [← inv_divInt'] at g2
  have g3 := ratMul_spec (a := a) (b := b⁻¹) ha (Nat.le_trans sz_inv hb)
  rw [← Rat.div_def] at g3
  rw [encI_den] at g1 g2
  generalize a / b = S at *
  generalize b⁻¹ = B at *
  simp only [encI, encR, bv, iv] at g1 g2 g3
  simp -implicitDefEqProofs (maxSteps := 10000000) only [rat_Div, encR, go_sem, stcells, ldcells, iv, bv, lb, z2, g1, g2, g3, reduceCtorEq, ↓reduceIte, Nat.reduceEqDiff]

end Go.AM

/- ref05.Neg, Sign, Add, Sub, Mul, Div, Compare -/
namespace Go.AM
open Go Go.RowKit
variable [Its]

theorem rratNeg_spec {a : Rat} (ha : sz a ≤ 100000000000) : callX G n_gantryref05_Neg [encR a] = some (.d (encR (-a))) := by
  rw [callX_eq (cf := gantryref05_Neg) rfl]
  have a1 := sz_num ha
  have g := rNeg_spec (x := a.num) (by omega)
  have e : encR (-a) = .agg [.v (.bool (decide (-a.num < 0))), dg (digs (-a.num).natAbs), .v (.bool false), dg (dd a.den)] := rfl
  rw [e]
  clear e
  generalize -a.num = N at *
  simp only [encI, bv, iv] at g
  simp -implicitDefEqProofs (maxSteps := 10000000) only [gantryref05_Neg, encR, go_sem, stcells, ldcells, iv, bv, g, reduceCtorEq, ↓reduceIte, Nat.reduceEqDiff]

theorem rratSign_spec {a : Rat} (ha : sz a ≤ 100000000000) : callX G n_gantryref05_Sign [encR a] = some (.d (iv (Int.sign a.num))) := by
  rw [callX_eq (cf := gantryref05_Sign) rfl]
  have a1 := sz_num ha
  have g := rSign_spec (x := a.num) (by omega)
  simp only [encI, bv, iv] at g
  simp -implicitDefEqProofs (maxSteps := 10000000) only [gantryref05_Sign, encR, go_sem, stcells, ldcells, iv, bv, g, reduceCtorEq, ↓reduceIte, Nat.reduceEqDiff]

theorem rratAdd_spec {a b : Rat} (ha : sz a ≤ 100000000000) (hb : sz b ≤ 100000000000) : callX G n_gantryref05_Add [encR a, encR b] = some (.d (encR (a + b))) := by
  rw [callX_eq (cf := gantryref05_Add) rfl]
  have a1 := sz_num ha; have a2 := sz_den ha; have b1 := sz_num hb; have b2 := sz_den hb
  have m1 := nd_mul (x := a.num) (y := b.den)
  have m2 := nd_mul (x := b.num) (y := a.den)
  have m3 := nd_mul (x := a.den) (y := b.den)
  have g1 := rDen_spec a
  have g2 := rDen_spec b
  have g3 := rMul_spec (x := a.num) (y := b.den) (by omega) (by omega)
  have g4 := rMul_spec (x := b.num) (y := a.den) (by omega) (by omega)
  have g5 := rMul_spec (x := a.den) (y := b.den) (by omega) (by omega)
  have g6 := rAdd_spec (x := a.num * b.den) (y := b.num * a.den) (by omega) (by omega)
  have g7 := rMake_spec (n := a.num * b.den + b.num * a.den) (d := (a.den : Int) * b.den) (Nat.le_trans (nd_add (k := 200000000000) (by omega) (by omega)) (by omega)) (by omega)
  rw [← add_divInt] at g7
  rw [encI_den] at g1 g2 g3 g4
  rw [encI_den, encI_den] at g5
  generalize a.num * (b.den : Int) + b.num * (a.den : Int) = N at *
  generalize a.num * (b.den : Int) = N1 at *
  generalize b.num * (a.den : Int) = N2 at *
  generalize (a.den : Int) * (b.den : Int) = D at *
  generalize a + b = S at *
  simp only [encI, encR, bv, iv] at g1 g2 g3 g4 g5 g6 g7
  simp -implicitDefEqProofs (maxSteps := 10000000) only [gantryref05_Add, encR, go_sem, stcells, ldcells, iv, bv, g1, g2, g3, g4, g5, g6, g7, apartS, ne_eq, not_false_eq_true, reduceCtorEq, ↓reduceIte, Nat.reduceEqDiff]

theorem rratMul_spec {a b : Rat} (ha : sz a ≤ 100000000000) (hb : sz b ≤ 100000000000) : callX G n_gantryref05_Mul [encR a, encR b] = some (.d (encR (a * b))) := by
  rw [callX_eq (cf := gantryref05_Mul) rfl]
  have a1 := sz_num ha; have a2 := sz_den ha; have b1 := sz_num hb; have b2 := sz_den hb
  have m1 := nd_mul (x := a.num) (y := b.num)
  have m3 := nd_mul (x := a.den) (y := b.den)
  have g1 := rDen_spec a
  have g2 := rDen_spec b
  have g3 := rMul_spec (x := a.num) (y := b.num) (by omega) (by omega)
  have g5 := rMul_spec (x := a.den) (y := b.den) (by omega) (by omega)
  have g7 := rMake_spec (n := a.num * b.num) (d := (a.den : Int) * b.den) (by omega) (by omega)
  rw [← mul_divInt] at g7
  rw [encI_den] at g1 g2
  rw [encI_den, encI_den] at g5
  generalize a.num * b.num = N1 at *
  generalize (a.den : Int) * (b.den : Int) = D at *
  generalize a * b = S at *
  simp only [encI, encR, bv, iv] at g1 g2 g3 g5 g7
  simp -implicitDefEqProofs (maxSteps := 10000000) only [gantryref05_Mul, encR, go_sem, stcells, ldcells, iv, bv, g1, g2, g3, g5, g7, apartS, ne_eq, not_false_eq_true, reduceCtorEq, ↓reduceIte, Nat.reduceEqDiff]

theorem rratDiv_spec {a b : Rat} (ha : sz a ≤ 100000000000) (hb : sz b ≤ 100000000000) : callX G n_gantryref05_Div [encR a, encR b] = some (.d (encR (a / b))) := by
  rw [callX_eq (cf := gantryref05_Div) rfl]
  have a1 := sz_num ha; have a2 := sz_den ha; have b1 := sz_num hb; have b2 := sz_den hb
  have m1 := nd_mul (x := a.num) (y := b.den)
  have m3 := nd_mul (x := a.den) (y := b.num)
  have g1 := rDen_spec a
  have g2 := rDen_spec b
  have g3 := rMul_spec (x := a.num) (y := b.den) (by omega) (by omega)
  have g5 := rMul_spec (x := a.den) (y := b.num) (by omega) (by omega)
  have g7 := rMake_spec (n := a.num * b.den) (d := (a.den : Int) * b.num) (by omega) (by omega)
  rw [← div_divInt] at g7
  rw [encI_den] at g1 g2 g3 g5
  generalize a.num * (b.den : Int) = N1 at *
  generalize (a.den : Int) * b.num = D at *
  generalize a / b = S at *
  simp only [encI, encR, bv, iv] at g1 g2 g3 g5 g7
  simp -implicitDefEqProofs (maxSteps := 10000000) only [gantryref05_Div, encR, go_sem, stcells, ldcells, iv, bv, g1, g2, g3, g5, g7, apartS, ne_eq, not_false_eq_true, reduceCtorEq, ↓reduceIte, Nat.reduceEqDiff]

end Go.AM

/- ref01: Around, At; digits tell numbers apart. -/
namespace Go.AM
open Go Go.RowKit

theorem i64_wf {n : Int} (h : (Lit.int .i64 n).wf = true) : I64 n := by
  simp only [Lit.wf, Bool.and_eq_true, decide_eq_true_eq] at h
  have h1 : IntKind.min .i64 = -9223372036854775808 := by decide
  have h2 : IntKind.max .i64 = 9223372036854775807 := by decide
  rw [h1, h2] at h
  exact ⟨by omega, by omega⟩
theorem rw_dg {d : D} {l : List Int} (h : Dg d l) : Rw d l := by
  rcases h with ⟨rfl, rfl⟩ | h
  · exact .inl rfl
  · exact .inr h
def arnd (n m : Int) : Int := (if n < 0 then -(n + 1) else n) % m
theorem arnd_b {n m : Int} (hm : 0 < m) : 0 ≤ arnd n m ∧ arnd n m < m := ⟨Int.emod_nonneg _ (by omega), Int.emod_lt_of_pos _ hm⟩
def atr (l : List Int) (i m : Int) : Int := if i < 0 ∨ i ≥ l.length then 0 else arnd (l.getD i.toNat 0) m
theorem atr_b (l : List Int) (i : Int) {m : Int} (hm : 0 < m) : 0 ≤ atr l i m ∧ atr l i m < m := by
  unfold atr
  split
  · omega
  · exact arnd_b hm

theorem digs_inj {a b : Nat} (h : digs a = digs b) : a = b := by
  have := congrArg val h
  rw [val_digs, val_digs] at this
  omega
theorem iv_inj {a b : Int} (h : iv a = iv b) : a = b := by cases h; rfl
theorem mapiv_inj : ∀ {l m : List Int}, l.map iv = m.map iv → l = m
  | [], [], _ => rfl
  | [], _ :: _, h => by cases h
  | _ :: _, [], h => by cases h
  | a :: l, b :: m, h => by
    rw [List.map_cons, List.map_cons, List.cons.injEq] at h
    rw [iv_inj h.1, mapiv_inj h.2]
theorem dg_inj {l m : List Int} (h : dg l = dg m) : l = m := by
  by_cases h1 : l = [] <;> by_cases h2 : m = []
  · rw [h1, h2]
  · rw [h1, dg_nil, dg_ne h2] at h; cases h
  · rw [h2, dg_nil, dg_ne h1] at h; cases h
  · rw [dg_ne h1, dg_ne h2, D.row.injEq] at h; exact mapiv_inj h.2
variable [Its]

theorem around_spec {n m : Int} (hn : I64 n) (hm : 0 < m) : callX G n_gantryref01_Around [iv n, iv m] = some (.d (iv (arnd n m))) := by
  rw [callX_eq (cf := gantryref01_Around) rfl]
  obtain ⟨h1, h2⟩ := hn
  have e2 := eqz_f (b := m) (by omega)
  unfold arnd
  by_cases h : n < 0
  · have e1 : decide (n < 0) = true := decide_eq_true h
    have e3 : w64 (n + 1) = n + 1 := w64_id (by omega) (by omega)
    have e4 : w64 (0 - (n + 1)) = -(n + 1) := by rw [w64_id (by omega) (by omega)]; omega
    have e5 := rem_pos (a := -(n + 1)) (b := m) (by omega)
    rw [if_pos h]
    simp -implicitDefEqProofs (maxSteps := 10000000) only [gantryref01_Around, go_sem, iv, bv, e1, e2, e3, e4, e5, reduceCtorEq, ↓reduceIte, Nat.reduceEqDiff]
  · have e1 : decide (n < 0) = false := decide_eq_false h
    have e5 := rem_pos (a := n) (b := m) (by omega)
    rw [if_neg h]
    simp -implicitDefEqProofs (maxSteps := 10000000) only [gantryref01_Around, go_sem, iv, bv, e1, e2, e5, reduceCtorEq, ↓reduceIte, Nat.reduceEqDiff]
theorem at_spec {d : D} {l : List Int} {i m : Int} (hr : Rw d l) (hl : ∀ n ∈ l, I64 n) (hm : 0 < m) : callX G n_gantryref01_At [d, iv i, iv m] = some (.d (iv (atr l i m))) := by
  rw [callX_eq (cf := gantryref01_At) rfl]
  have ll := hr.len
  unfold atr
  by_cases h : i < 0
  · have e1 : decide (i < 0) = true := decide_eq_true h
    rw [if_pos (.inl h)]
    simp -implicitDefEqProofs (maxSteps := 10000000) only [gantryref01_At, go_sem, iv, bv, e1, reduceCtorEq, ↓reduceIte, Nat.reduceEqDiff]
  · have e1 : decide (i < 0) = false := decide_eq_false h
    by_cases h2 : i ≥ l.length
    · have e2 : decide (i ≥ (l.length : Int)) = true := decide_eq_true h2
      rw [if_pos (.inr h2)]
      simp -implicitDefEqProofs (maxSteps := 10000000) only [gantryref01_At, go_sem, iv, bv, e1, e2, ll, reduceCtorEq, ↓reduceIte, Nat.reduceEqDiff]
    · have e2 : decide (i ≥ (l.length : Int)) = false := decide_eq_false h2
      rw [if_neg (by omega)]
      obtain ⟨j, rfl⟩ : ∃ j : Nat, i = (j : Int) := ⟨i.toNat, by omega⟩
      rw [Int.toNat_natCast]
      have hj : j < l.length := by omega
      have e3 := hr.ixn (j := j) hj
      have e4 := fun hp => ldv hp l (j := j) hj
      have hb : I64 (l.getD j 0) := hl _ (by rw [List.getD_eq_getElem?_getD, List.getElem?_eq_getElem hj]; exact List.getElem_mem hj)
      have g := around_spec hb hm
      simp only [iv] at g
      simp -implicitDefEqProofs (maxSteps := 10000000) only [gantryref01_At, go_sem, iv, bv, e1, e2, e3, e4, ll, g, reduceCtorEq, ↓reduceIte, Nat.reduceEqDiff]
end Go.AM

/- Rationals: signs, sizes, names for what comes out; ref01. -/
namespace Go.AM
open Go Go.RowKit

theorem sz_one_ : sz 1 = 1 := by rw [sz, Rat.one_num, Rat.one_den]; exact by rw [show ((1 : Nat) : Int) = 1 from rfl, nd_one]; rfl
theorem sz_zero : sz 0 = 1 := by rw [sz, Rat.zero_num, Rat.zero_den]; exact by rw [show ((1 : Nat) : Int) = 1 from rfl, nd_one, nd_zero]; rfl
theorem sz_int {n : Int} (h : I64 n) : sz (n : Rat) ≤ 3 := sz_le (nd_i64 h) (by rw [Rat.den_intCast]; exact Nat.le_trans (Nat.le_of_eq nd_one) (by omega))
theorem divInt_one (n : Int) : Rat.divInt n 1 = (n : Rat) := by
  have := Rat.num_divInt_den (n : Rat)
  exact this
def boxR (q : Rat) : Obj := ⟨0, 0, [.d (.v (.bool (decide (q.num < 0)))), .d (dg (digs q.num.natAbs)), .d (.v (.bool false)), .d (dg (dd q.den))], false⟩
def boxR0 : Obj := ⟨0, 0, [.d (.v (.bool false)), .d (.z true), .d (.v (.bool false)), .d (.z true)], false⟩
theorem sz_sub {a b : Rat} : sz (a - b) ≤ sz a + sz b + 1 := by
  rw [Rat.sub_eq_add_neg]
  have := sz_add (a := a) (b := -b)
  rw [sz_neg] at this
  exact this
theorem dd_inj {a b : Nat} (ha : 0 < a) (hb : 0 < b) (h : dd a = dd b) : a = b := by
  have hn : ∀ {n : Nat}, 0 < n → digs n ≠ [] := fun hn h0 => by have := digs_length_pos.2 hn; rw [h0] at this; simp at this
  by_cases h1 : a = 1 <;> by_cases h2 : b = 1
  · omega
  · rw [h1, dd_one, dd_ne h2] at h; exact absurd h.symm (hn hb)
  · rw [h2, dd_one, dd_ne h1] at h; exact absurd h (hn ha)
  · rw [dd_ne h1, dd_ne h2] at h; exact digs_inj h
theorem rat_inj {q p : Rat} (h1 : decide (q.num < 0) = decide (p.num < 0)) (h2 : dg (digs q.num.natAbs) = dg (digs p.num.natAbs)) (h3 : dg (dd q.den) = dg (dd p.den)) : q = p := by
  have e1 := digs_inj (dg_inj h2)
  have e2 := dd_inj q.den_pos p.den_pos (dg_inj h3)
  have e3 : q.num < 0 ↔ p.num < 0 := by simpa using h1
  exact Rat.ext (by omega) e2

variable [Its]

end Go.AM

/- Rows and arrays of rationals. -/
namespace Go.AM
open Go Go.RowKit

def cRs : List Rat → List D
  | [] => []
  | q :: l => .v (.bool (decide (q.num < 0))) :: dg (digs q.num.natAbs) :: .v (.bool false) :: dg (dd q.den) :: cRs l
def rowR (l : List Rat) : D := .row l.length (cRs l)
theorem cRs_length : ∀ l : List Rat, (cRs l).length = l.length * 4
  | [] => rfl
  | q :: l => by simp only [cRs, List.length_cons, cRs_length l]; omega
theorem cRs_drop : ∀ (l : List Rat) (n : Nat), (cRs l).drop (n * 4) = cRs (l.drop n)
  | [], n => by simp [cRs]
  | q :: l, 0 => rfl
  | q :: l, n + 1 => by
    rw [show (n + 1) * 4 = n * 4 + 1 + 1 + 1 + 1 by omega, cRs]
    simp only [List.drop_succ_cons]
    exact cRs_drop l n
theorem cRs_take : ∀ (l : List Rat) (n : Nat), (cRs l).take (n * 4) = cRs (l.take n)
  | [], n => by simp [cRs]
  | q :: l, 0 => rfl
  | q :: l, n + 1 => by
    rw [show (n + 1) * 4 = n * 4 + 1 + 1 + 1 + 1 by omega, cRs]
    simp only [List.take_succ_cons, cRs_take l n, cRs]
theorem cRs_append : ∀ (l m : List Rat), cRs (l ++ m) = cRs l ++ cRs m
  | [], m => rfl
  | q :: l, m => by simp only [List.cons_append, cRs, cRs_append l m]
theorem cRs_inj : ∀ {l m : List Rat}, cRs l = cRs m → l = m
  | [], [], _ => rfl
  | [], _ :: _, h => by simp [cRs] at h
  | _ :: _, [], h => by simp [cRs] at h
  | a :: l, b :: m, h => by
    simp only [cRs, List.cons.injEq, D.v.injEq, Value.bool.injEq, true_and] at h
    obtain ⟨h1, h2, h3, h4⟩ := h
    rw [rat_inj h1 h2 h3, cRs_inj h4]
/-- Reads these numbers, nil or not. -/
def RwR (d : D) (l : List Rat) : Prop := (d = .z true ∧ l = []) ∨ d = rowR l
theorem RwR.row (l : List Rat) : RwR (rowR l) l := .inr rfl
theorem RwR.nil : RwR (.z true) [] := .inl ⟨rfl, rfl⟩
theorem RwR.inj {d : D} {l m : List Rat} (h : RwR d l) (h' : RwR d m) : l = m := by
  rcases h with ⟨h1, h2⟩ | h1 <;> rcases h' with ⟨h3, h4⟩ | h3
  · rw [h2, h4]
  · rw [h1] at h3; cases h3
  · rw [h1] at h3; cases h3
  · rw [h1] at h3
    simp only [rowR, D.row.injEq] at h3
    exact cRs_inj h3.2
theorem RwR.len {d : D} {l : List Rat} (h : RwR d l) : lenA (.d d) = some l.length := by
  rcases h with ⟨rfl, rfl⟩ | rfl
  · rfl
  · rfl
theorem RwR.ixa {d : D} {l : List Rat} (hr : RwR d l) {j : Nat} (h1 : j < l.length) (h : Hp) : ixaA h 4 (j : Int) (.d d) = some (.d (.rp (cRs (l.drop j)))) := by
  rcases hr with ⟨rfl, rfl⟩ | rfl
  · simp at h1
  · simp only [ixaA, guardO, rowR]
    rw [if_pos ⟨by omega, by omega⟩, Int.toNat_natCast, cRs_drop]
theorem ldR (h : Hp) (l : List Rat) {j : Nat} (h1 : j < l.length) : loadA h (some 4) (.d (.rp (cRs (l.drop j)))) = some (.d (encR (l.getD j 0))) := by
  have e : l.drop j = l.getD j 0 :: l.drop (j + 1) := by
    rw [List.drop_eq_getElem_cons h1, List.getD_eq_getElem?_getD, List.getElem?_eq_getElem h1]; rfl
  rw [e]
  show guardO (4 ≤ (cRs (l.getD j 0 :: l.drop (j + 1))).length) (some (A.d (D.agg ((cRs (l.getD j 0 :: l.drop (j + 1))).take 4)))) = _
  exact if_pos (by rw [cRs_length, List.length_cons]; omega)
theorem RwR.src {d : D} {l : List Rat} (hr : RwR d l) (st : St) : src st (.d d) = some (l.length, cRs l) := by
  rcases hr with ⟨rfl, rfl⟩ | rfl
  · rfl
  · rfl
theorem RwR.srcS {d : D} {l : List Rat} (hr : RwR d l) (st : St) : srcS st (.d d) = some (l.length, cRs l) := by
  rcases hr with ⟨rfl, rfl⟩ | rfl
  · rfl
  · rfl
theorem refsL_dd (ks : List Key) : ∀ cs : List D, refsL ks (cs.map A.d) = true
  | [] => rfl
  | c :: cs => by rw [List.map_cons, refsL, refsL_dd ks cs]; rfl
/-- The cells of an array. -/
def cA (l : List Rat) : List A := (cRs l).map A.d
def arrR (n : Nat) (l : List Rat) : Obj := ⟨4, n, cA l, false⟩
attribute [go_sem] arrR
theorem cA_length (l : List Rat) : (cA l).length = l.length * 4 := by rw [cA, List.length_map, cRs_length]
theorem allD_cA (l : List Rat) : allD (cA l) = some (cRs l) := allD_of_map _
theorem refsL_cA (ks : List Key) (l : List Rat) : refsL ks (cA l) = true := refsL_dd ks _
theorem cA_one (q : Rat) : cA [q] = [.d (.v (.bool (decide (q.num < 0)))), .d (dg (digs q.num.natAbs)), .d (.v (.bool false)), .d (dg (dd q.den))] := rfl
theorem cA_snoc (l : List Rat) (q : Rat) : cA l ++ [.d (.v (.bool (decide (q.num < 0)))), .d (dg (digs q.num.natAbs)), .d (.v (.bool false)), .d (dg (dd q.den))] = cA (l ++ [q]) := by
  rw [← cA_one, cA, cA, cA, cRs_append, List.map_append]
theorem ld_cA {l : List Rat} {j : Nat} (hj : j < l.length) : ldcells (some 4) (j * 4) (cA l) = some (.d (.agg [.v (.bool (decide ((l.getD j 0).num < 0))), dg (digs (l.getD j 0).num.natAbs), .v (.bool false), dg (dd (l.getD j 0).den)])) := by
  show guardO (j * 4 + 4 ≤ (cA l).length) ((allD (((cA l).drop (j * 4)).take 4)).map fun ds => A.d (D.agg ds)) = _
  rw [guardO, if_pos (by rw [cA_length]; omega)]
  have e : l.drop j = l.getD j 0 :: l.drop (j + 1) := by
    rw [List.drop_eq_getElem_cons hj, List.getD_eq_getElem?_getD, List.getElem?_eq_getElem hj]; rfl
  rw [cA, ← List.map_drop, cRs_drop, ← List.map_take, e]
  rw [allD_of_map]; rfl
theorem cRs_set : ∀ (l : List Rat) (j : Nat) (q : Rat), j < l.length → (cRs l).take (j * 4) ++ cRs [q] ++ (cRs l).drop (j * 4 + 4) = cRs (l.set j q)
  | [], j, q, h => by simp at h
  | a :: l, 0, q, h => rfl
  | a :: l, j + 1, q, h => by
    have ih := cRs_set l j q (by simpa using h)
    rw [show (j + 1) * 4 = j * 4 + 1 + 1 + 1 + 1 by omega, show j * 4 + 1 + 1 + 1 + 1 + 4 = (j * 4 + 4) + 1 + 1 + 1 + 1 by omega]
    simp only [List.set_cons_succ, cRs, List.take_succ_cons, List.drop_succ_cons, List.cons_append, List.nil_append, List.append_assoc] at ih ⊢
    rw [ih]
theorem st_cA {l : List Rat} {j : Nat} (hj : j < l.length) (q : Rat) : stcells (j * 4) [.d (.v (.bool (decide (q.num < 0)))), .d (dg (digs q.num.natAbs)), .d (.v (.bool false)), .d (dg (dd q.den))] (cA l) = some (cA (l.set j q)) := by
  rw [← cA_one]
  show guardO (j * 4 + (cA [q]).length ≤ (cA l).length) (some ((cA l).take (j * 4) ++ cA [q] ++ (cA l).drop (j * 4 + (cA [q]).length))) = _
  have h4 : (cA [q]).length = 4 := rfl
  rw [h4, guardO, if_pos (by rw [cA_length]; omega), cA, cA, cA, ← List.map_take, ← List.map_drop, ← List.map_append, ← List.map_append, cRs_set l j q hj]
theorem dgone (m : List Int) : (dg m).one = true := by cases m <;> rfl
theorem cRs_rep : ∀ n : Nat, rep n [.v (.bool false), .z true, .v (.bool false), .z true] = cRs (List.replicate n 0)
  | 0 => rfl
  | n + 1 => by
    have ih := cRs_rep n
    have ez : decide ((0 : Rat).num < 0) = false := rfl
    have ez2 : dg (digs (0 : Rat).num.natAbs) = .z true := by rw [Rat.zero_num, show (0 : Int).natAbs = 0 from rfl, digs_zero]; rfl
    have ez3 : dg (dd (0 : Rat).den) = .z true := rfl
    rw [List.replicate_succ, cRs, ez, ez2, ez3, ← ih]
    rfl
theorem bw_ld1 (h : Hp) (x : D) : loadA h none (.d (.rp [x])) = some (.d x) := rfl
theorem map_cRs (l : List Rat) : (cRs l).map A.d = cA l := rfl
/-- What lies in a slot that grows from nothing. -/
def gA4 (k : Nat) (l : List Rat) : A := if l = [] then .d (.z true) else .own [k] l.length
def gH4 (k : Nat) (l : List Rat) : List (Key × Obj) := if l = [] then [] else [([k], arrR l.length l)]
theorem gA4_nil (k : Nat) : gA4 k [] = .d (.z true) := rfl
theorem gH4_nil (k : Nat) : gH4 k [] = [] := rfl
theorem gA4_ne {k : Nat} {l : List Rat} (h : l ≠ []) : gA4 k l = .own [k] l.length := if_neg h
theorem gH4_ne {k : Nat} {l : List Rat} (h : l ≠ []) : gH4 k l = [([k], arrR l.length l)] := if_neg h
theorem one_b (b : Bool) : (D.v (.bool b)).one = true := rfl
theorem gA4_one (k : Nat) (q : Rat) : gA4 k [q] = .own [k] 1 := rfl
theorem gH4_one (k : Nat) (q : Rat) : gH4 k [q] = [([k], arrR 1 [q])] := rfl
theorem rep1c (a b c d : D) : rep 1 [a, b, c, d] = [a, b, c, d] := rfl
theorem gA4_snoc (k : Nat) (l : List Rat) (v : Rat) : gA4 k (l ++ [v]) = .own [k] (l.length + 1) := by rw [gA4_ne (by simp)]; simp
theorem gH4_snoc (k : Nat) (l : List Rat) (v : Rat) : gH4 k (l ++ [v]) = [([k], arrR (l.length + 1) (l ++ [v]))] := by rw [gH4_ne (by simp)]; simp
/-- The row that a slot's array becomes. -/
def dR (l : List Rat) : D := if l = [] then .z true else rowR l
theorem dR_ok (l : List Rat) : RwR (dR l) l := by
  unfold dR; split
  · rename_i h; exact .inl ⟨rfl, h⟩
  · exact .inr rfl
def SzL (K : Nat) (l : List Rat) : Prop := ∀ q ∈ l, sz q ≤ K
theorem SzL.getD {K : Nat} {l : List Rat} (h : SzL K l) (h1 : 1 ≤ K) (j : Nat) : sz (l.getD j 0) ≤ K := by
  by_cases hj : j < l.length
  · have : l.getD j 0 = l[j] := by rw [List.getD_eq_getElem?_getD, List.getElem?_eq_getElem hj]; rfl
    rw [this]; exact h _ (List.getElem_mem hj)
  · rw [List.getD_eq_getElem?_getD, List.getElem?_eq_none (by omega)]
    show sz 0 ≤ K
    rw [sz_zero]; exact h1
theorem SzL.mono {K L : Nat} {l : List Rat} (h : SzL K l) (hk : K ≤ L) : SzL L l := fun q hq => Nat.le_trans (h q hq) hk
end Go.AM

/- Rows of rationals; poly.Trim, slices.Clone, slices.Backward. -/
namespace Go.AM
open Go Go.RowKit

theorem cRs_one : ∀ l : List Rat, (cRs l).all D.one = true
  | [] => rfl
  | q :: l => by
    have h1 : ∀ m : List Int, (dg m).one = true := fun m => by cases m <;> rfl
    simp only [cRs, List.all_cons, cRs_one l, h1, Bool.and_true]
    rfl
theorem sgn0 (q : Rat) : (Int.sign q.num == 0) = decide (q = 0) := by
  by_cases h : q = 0
  · subst h; rfl
  · rw [decide_eq_false h]
    refine beq_f fun hc => h (Rat.num_eq_zero.1 (Int.sign_eq_zero_iff_zero.1 hc))

/-- The length without zeros at the end of the first n. -/
def cutR (l : List Rat) : Nat → Nat
  | 0 => 0
  | n + 1 => if l.getD n 0 = 0 then cutR l n else n + 1
def trimR (l : List Rat) : List Rat := l.take (cutR l l.length)
theorem cutR_le (l : List Rat) : ∀ n, cutR l n ≤ n
  | 0 => Nat.le_refl _
  | n + 1 => by
    rw [cutR]
    split
    · exact Nat.le_succ_of_le (cutR_le l n)
    · exact Nat.le_refl _
theorem trimR_len (l : List Rat) : (trimR l).length = cutR l l.length := by
  rw [trimR, List.length_take]
  have := cutR_le l l.length
  omega
theorem trimR_le (l : List Rat) : (trimR l).length ≤ l.length := by rw [trimR_len]; exact cutR_le _ _
theorem rep_0 (zs : List D) : rep 0 zs = [] := rfl
variable [Its]

/-- What Clone hands back of a row. -/
def clR (l : List Rat) : R := if false then .d (rowR l) else .own 4 l.length (cRs l)
theorem Clone_row {l : List Rat} (hl : l.length * 64 ≤ 140737488351232) : callX G n_slices_Clone_api_Poly_api_Rat [rowR l] = some (clR l) := by
  rw [callX_eq (cf := slices_Clone_api_Poly_api_Rat) rfl]
  have e1 := cRs_length l
  have e2 := cRs_one l
  have e3 : l.length * 64 ≤ bound := by unfold bound; omega
  unfold clR rowR
  generalize cRs l = cs at *
  simp -implicitDefEqProofs (maxSteps := 10000000) only [slices_Clone_api_Poly_api_Rat, isnA, appA, srcS, src, refsL_dd, allD_of_map, Nat.zero_add, rep_0, List.map_nil, List.length_nil, List.nil_append, go_sem, iv, bv, e1, e2, e3, reduceCtorEq, ↓reduceIte, Nat.reduceEqDiff]
theorem Clone_nil : callX G n_slices_Clone_api_Poly_api_Rat [.z true] = some (.d (.z true)) := by
  rw [callX_eq (cf := slices_Clone_api_Poly_api_Rat) rfl]
  simp -implicitDefEqProofs (maxSteps := 10000000) only [slices_Clone_api_Poly_api_Rat, isnA, go_sem, iv, bv, reduceCtorEq, ↓reduceIte, Nat.reduceEqDiff]

def tr_st (d : D) (n : Int) : St := mkS [(0, .d d), (3, ai n)] []
theorem tr_go {d : D} {l : List Rat} (hr : RwR d l) {n : Nat} (hn : n < l.length) (hl : l.length * 64 ≤ 140737488351232) (h0 : l.getD n 0 = 0) : X G poly_Trim_l0 (tr_st d ((n + 1 : Nat) : Int)) = some (.n, tr_st d (n : Int)) := by
  have e1 : decide (((n + 1 : Nat) : Int) > 0) = true := gt_t (by omega)
  have e2 : w64 (((n + 1 : Nat) : Int) - 1) = (n : Int) := by rw [w64_id (by omega) (by omega)]; omega
  have e3 := hr.ixa hn
  have e4 := fun h => ldR h l hn
  have g := ratSign_spec (l.getD n 0)
  have e5 : (Int.sign (l.getD n 0).num == 0) = true := by rw [sgn0]; exact decide_eq_true h0
  clear h0
  generalize ((n + 1 : Nat) : Int) = n1 at *
  generalize l.getD n 0 = q at *
  simp only [encR, iv] at e4 g
  simp -implicitDefEqProofs (maxSteps := 10000000) only [poly_Trim_l0, tr_st, go_sem, iv, bv, e1, e2, e3, e4, e5, g, reduceCtorEq, ↓reduceIte, Nat.reduceEqDiff]
theorem tr_stop {d : D} {l : List Rat} (hr : RwR d l) {n : Nat} (hn : n < l.length) (hl : l.length * 64 ≤ 140737488351232) (h0 : l.getD n 0 ≠ 0) : X G poly_Trim_l0 (tr_st d ((n + 1 : Nat) : Int)) = some (.x 0, tr_st d ((n + 1 : Nat) : Int)) := by
  have e1 : decide (((n + 1 : Nat) : Int) > 0) = true := gt_t (by omega)
  have e2 : w64 (((n + 1 : Nat) : Int) - 1) = (n : Int) := by rw [w64_id (by omega) (by omega)]; omega
  have e3 := hr.ixa hn
  have e4 := fun h => ldR h l hn
  have g := ratSign_spec (l.getD n 0)
  have e5 : (Int.sign (l.getD n 0).num == 0) = false := by rw [sgn0]; exact decide_eq_false h0
  clear h0
  generalize ((n + 1 : Nat) : Int) = n1 at *
  generalize l.getD n 0 = q at *
  simp only [encR, iv] at e4 g
  simp -implicitDefEqProofs (maxSteps := 10000000) only [poly_Trim_l0, tr_st, go_sem, iv, bv, e1, e2, e3, e4, e5, g, reduceCtorEq, ↓reduceIte, Nat.reduceEqDiff]
theorem tr_zero {d : D} : X G poly_Trim_l0 (tr_st d 0) = some (.x 0, tr_st d 0) := by
  have e1 : decide ((0 : Int) > 0) = false := rfl
  simp -implicitDefEqProofs (maxSteps := 10000000) only [poly_Trim_l0, tr_st, go_sem, iv, bv, e1, reduceCtorEq, ↓reduceIte, Nat.reduceEqDiff]
theorem tr_loop {d : D} {l : List Rat} (hr : RwR d l) (hl : l.length * 64 ≤ 140737488351232) : ∀ n : Nat, n ≤ l.length → X G (.loop poly_Trim_l0) (tr_st d (n : Int)) = some (.x 0, tr_st d (cutR l n : Nat))
  | 0, _ => by
    rw [X_loop]
    show (X G poly_Trim_l0 (tr_st d 0)).bind _ = _
    rw [tr_zero]; rfl
  | n + 1, hn => by
    rw [X_loop, cutR]
    by_cases h0 : l.getD n 0 = 0
    · rw [tr_go hr (by omega) hl h0, Option.bind_some, if_pos rfl, if_pos h0]
      exact tr_loop hr hl n (by omega)
    · rw [tr_stop hr (by omega) hl h0, if_neg h0]; rfl

theorem Trim_spec {d : D} {l : List Rat} (hr : RwR d l) (hl : l.length * 64 ≤ 140737488351232) : ∃ d', RwR d' (trimR l) ∧ callX G n_poly_Trim [d] = some (.d d') := by
  rw [callX_eq (cf := poly_Trim) rfl]
  have hl' := tr_loop hr hl l.length (Nat.le_refl _)
  have hc := cutR_le l l.length
  have ll := hr.len
  rcases hr with ⟨rfl, rfl⟩ | rfl
  · have g := Clone_nil
    simp only [tr_st, List.length_nil, cutR, go_sem] at hl'
    refine ⟨.z true, .inl ⟨rfl, rfl⟩, ?_⟩
    simp -implicitDefEqProofs (maxSteps := 10000000) only [poly_Trim, slcA, bnds, optI, go_sem, iv, bv, hl', g, ll, Int.le_refl, reduceCtorEq, ↓reduceIte, Nat.reduceEqDiff]
  · refine ⟨rowR (trimR l), .row _, ?_⟩
    have g := Clone_row (l := trimR l) (by have := trimR_le l; omega)
    have e1 : rowR (trimR l) = .row (cutR l l.length) ((cRs l).take (cutR l l.length * 4)) := by rw [rowR, trimR_len, trimR, cRs_take]
    rw [e1] at g ⊢
    unfold clR at g
    have e7 := trimR_len l
    have e8 : cRs (trimR l) = (cRs l).take (cutR l l.length * 4) := by rw [trimR, cRs_take]
    rw [e1, e7, e8] at g
    clear e1 e7 e8
    have e2 : (((0 : Int) ≤ 0 ∧ (0 : Int) ≤ (cutR l l.length : Nat) ∧ ((cutR l l.length : Nat) : Int) ≤ (l.length : Nat))) = True := eq_true ⟨by omega, by omega, by omega⟩
    have e3 : ((cutR l l.length : Nat) : Int).toNat = cutR l l.length := Int.toNat_natCast _
    have e5 : ((0 : Int) ≤ (cutR l l.length : Nat)) = True := eq_true (by omega)
    have e6 : (((cutR l l.length : Nat) : Int) ≤ (l.length : Nat)) = True := eq_true (by omega)
    unfold rowR at *
    generalize cutR l l.length = c at *
    generalize cRs l = cs at *
    simp only [tr_st, go_sem] at hl'
    simp -implicitDefEqProofs (maxSteps := 10000000) only [poly_Trim, slcA, bnds, optI, go_sem, iv, bv, hl', g, ll, e2, e3, e5, e6, Int.le_refl, and_self, reduceCtorEq, ↓reduceIte, Nat.reduceEqDiff]

theorem Backward_spec {d : D} {l : List Rat} (hr : RwR d l) : callX G n_slices_Backward_api_Poly_api_Rat [d] = some (.d (.fn n_slices_Backward_api_Poly_api_Rat_1 [.rp [d]])) := by
  rw [callX_eq (cf := slices_Backward_api_Poly_api_Rat) rfl]
  rcases hr with ⟨rfl, rfl⟩ | rfl
  · simp -implicitDefEqProofs (maxSteps := 10000000) only [slices_Backward_api_Poly_api_Rat, go_sem, snap, snapH, stcells, ldcells, iv, bv, reduceCtorEq, ↓reduceIte, Nat.reduceEqDiff]
  · unfold rowR
    generalize cRs l = cs
    simp -implicitDefEqProofs (maxSteps := 10000000) only [slices_Backward_api_Poly_api_Rat, go_sem, snap, snapH, stcells, ldcells, iv, bv, reduceCtorEq, ↓reduceIte, Nat.reduceEqDiff]
end Go.AM

/- slices.Backward: what its iterator yields; poly.Eval. -/
namespace Go.AM
open Go Go.RowKit Go.Proofs

def C.one1 : C → C
  | .seq a _ => a
  | .blk _ a => a
  | .loop a => a
  | c => c
def C.two2 : C → C
  | .seq _ b => b
  | c => c
/-- What comes: from the last one to the first. -/
def bkp (l : List Rat) : List (Int × Rat) := (List.range l.length).map fun i => (((l.length - 1 - i : Nat) : Int), l.getD (l.length - 1 - i) 0)
def bk1 (p : Int × Rat) : List D := [iv p.1, encR p.2]
def bkw (l : List Rat) : List (List D) := (bkp l).map bk1
theorem bkp_snd (l : List Rat) : (bkp l).map Prod.snd = l.reverse := by
  apply List.ext_getElem
  · simp [bkp]
  · intro i h1 h2
    simp only [bkp, List.map_map, List.getElem_map, List.getElem_range, Function.comp_apply, List.getElem_reverse]
    have h3 : i < l.length := by simpa [bkp] using h1
    rw [List.getD_eq_getElem?_getD, List.getElem?_eq_getElem (by omega)]; rfl
def bw_T : C := slices_Backward_api_Poly_api_Rat_1_l0.one1.one1
def bw_I : C := .seq (.keep [0, 1, 3] []) slices_Backward_api_Poly_api_Rat_1_l0.one1.two2.two2
def bw_pre : List O := [⟨some 11, .mov (.t 0), none⟩, ⟨some 12, .mov (.t 3), none⟩, ⟨some 13, .load none (.t 1), none⟩, ⟨some 14, .mov (.t 3), none⟩, ⟨some 15, .ixa 4 (.t 13) (.t 14), none⟩, ⟨some 16, .load (some 4) (.t 15), none⟩]
def bw_post : List O := [⟨some 18, .un .not (.t 17), none⟩]
theorem bw_shape : slices_Backward_api_Poly_api_Rat_1.body.er = .seq slices_Backward_api_Poly_api_Rat_1.body.one1.er (.blk 0 (.loop (.seq bw_T.er (.seq (.blk 1 (.seq (.reg ((bw_pre ++ ⟨some 17, .calv (.t 11) [.t 12, .t 16], none⟩ :: bw_post).map O.er) []) (.cond (.t 18) .ret .skip))) bw_I.er)))) := rfl
theorem bw_ld (h : Hp) (sz : Option Nat) (cs : List D) : loadA h sz (.d (.rp cs)) = ldrow sz cs := rfl

def bw_st (y : Nat) (d : D) (k : Int) : St := mkS [(0, .d (yv y)), (1, .d (.rp [d])), (3, ai k)] []
def bw_s0 (y : Nat) (d : D) (k : Int) : St := mkS [(0, .d (yv y)), (1, .d (.rp [d])), (3, ai k), (8, ab true)] []
def bw_s1 (y : Nat) (d : D) (k : Int) (rp q : List D) : St := ⟨upd (upd (upd (upd (upd (upd (bw_s0 y d k).fr 11 (.d (yv y))) 12 (ai k)) 13 (.d d)) 14 (ai k)) 15 (.d (.rp rp))) 16 (.d (.agg q)), (bw_s0 y d k).hp, []⟩
def bw_s2 (y : Nat) (d : D) (k : Int) (rp q : List D) (t : Bool) : St := ⟨upd (upd (bw_s1 y d k rp q).fr 17 (.d (.v (.bool t)))) 18 (.d (.v (.bool !t))), (bw_s1 y d k rp q).hp, []⟩
/-- A row of n elements of 4 cells each. -/
def Rw4 (d : D) (n : Nat) (cs : List D) : Prop := (d = .z true ∧ n = 0) ∨ (d = .row n cs ∧ cs.length = n * 4)
theorem Rw4.len {d : D} {n : Nat} {cs : List D} (h : Rw4 d n cs) : lenA (.d d) = some n := by
  rcases h with ⟨rfl, rfl⟩ | ⟨rfl, _⟩ <;> rfl
theorem Rw4.ixa {d : D} {n : Nat} {cs : List D} (hr : Rw4 d n cs) {j : Nat} (h1 : j < n) (h : Hp) : ixaA h 4 (j : Int) (.d d) = some (.d (.rp (cs.drop (j * 4)))) := by
  rcases hr with ⟨rfl, rfl⟩ | ⟨rfl, _⟩
  · omega
  · simp only [ixaA, guardO]
    rw [if_pos ⟨by omega, by omega⟩, Int.toNat_natCast]
theorem Rw4.ld {d : D} {n : Nat} {cs : List D} (hr : Rw4 d n cs) {j : Nat} (h1 : j < n) (h : Hp) : loadA h (some 4) (.d (.rp (cs.drop (j * 4)))) = some (.d (.agg ((cs.drop (j * 4)).take 4))) := by
  rcases hr with ⟨rfl, rfl⟩ | ⟨rfl, hl⟩
  · omega
  · show guardO (4 ≤ (cs.drop (j * 4)).length) (some (A.d (D.agg ((cs.drop (j * 4)).take 4)))) = _
    exact if_pos (by rw [List.length_drop]; omega)
/-- What comes of it. -/
def bk4 (n : Nat) (cs : List D) : List (List D) := (List.range n).map fun i => [iv ((n - 1 - i : Nat) : Int), .agg ((cs.drop ((n - 1 - i) * 4)).take 4)]
theorem bk4_len (n : Nat) (cs : List D) : (bk4 n cs).length = n := by simp [bk4]
theorem bk4_R (l : List Rat) : bk4 l.length (cRs l) = bkw l := by
  unfold bk4 bkw bkp
  rw [List.map_map]
  apply List.map_congr_left
  intro i hi
  have hi' := List.mem_range.1 hi
  have h1 : l.length - 1 - i < l.length := by omega
  rw [cRs_drop]
  have e : l.drop (l.length - 1 - i) = l.getD (l.length - 1 - i) 0 :: l.drop (l.length - 1 - i + 1) := by
    rw [List.drop_eq_getElem_cons h1, List.getD_eq_getElem?_getD, List.getElem?_eq_getElem h1]; rfl
  rw [e]
  rfl


section
variable [Its]
theorem bw_start {y : Nat} {d : D} {n : Nat} {cs : List D} (hr : Rw4 d n cs) (hl : n ≤ 140737488351232) : X G slices_Backward_api_Poly_api_Rat_1.body.one1 ⟨argF 0 [yv y, .rp [d]], hp0, []⟩ = some (.n, bw_st y d ((n : Int) - 1)) := by
  have e1 : w64 ((n : Int) - 1) = (n : Int) - 1 := w64_id (by omega) (by omega)
  have ll := hr.len
  simp -implicitDefEqProofs (maxSteps := 10000000) only [slices_Backward_api_Poly_api_Rat_1, C.one1, bw_st, argF, yv, bw_ld, List.head?_cons, ll, go_sem, stcells, ldcells, iv, bv, e1, reduceCtorEq, ↓reduceIte, Nat.reduceEqDiff]
theorem bw_more {y : Nat} {d : D} {j : Nat} : X G bw_T (bw_st y d (j : Int)) = some (.n, bw_s0 y d (j : Int)) := by
  have e1 : decide ((j : Int) ≥ 0) = true := decide_eq_true (by omega)
  simp -implicitDefEqProofs (maxSteps := 10000000) only [bw_T, slices_Backward_api_Poly_api_Rat_1_l0, C.one1, C.two2, bw_st, bw_s0, yv, e1, go_sem, stcells, ldcells, iv, bv, reduceCtorEq, ↓reduceIte, Nat.reduceEqDiff]
theorem bw_stop {y : Nat} {d : D} : X G bw_T (bw_st y d (-1)) = some (.x 0, mkS [] []) := by
  have e1 : decide ((-1 : Int) ≥ 0) = false := rfl
  simp -implicitDefEqProofs (maxSteps := 10000000) only [bw_T, slices_Backward_api_Poly_api_Rat_1_l0, C.one1, C.two2, bw_st, bw_s0, yv, e1, go_sem, stcells, ldcells, iv, bv, reduceCtorEq, ↓reduceIte, Nat.reduceEqDiff]
theorem bw_p1 {y : Nat} {d : D} {n : Nat} {cs : List D} (hr : Rw4 d n cs) {j : Nat} (hj : j < n) : exs (callX G) bw_pre (bw_s0 y d (j : Int)) = some (bw_s1 y d (j : Int) (cs.drop (j * 4)) ((cs.drop (j * 4)).take 4)) := by
  have e3 := hr.ixa hj
  have e4 := hr.ld hj
  generalize (cs.drop (j * 4)).take 4 = q at *
  generalize cs.drop (j * 4) = rp at *
  simp -implicitDefEqProofs (maxSteps := 10000000) only [bw_pre, bw_s0, bw_s1, encR, yv, go_sem, e3, e4, bw_ld, ldrow, List.head?_cons, stcells, ldcells, iv, bv, reduceCtorEq, ↓reduceIte, Nat.reduceEqDiff]
theorem bw_p2 {y : Nat} {d : D} {k : Int} {rp q : List D} {t : Bool} : exs (callX G) bw_post { bw_s1 y d k rp q with fr := upd (bw_s1 y d k rp q).fr 17 (.d (.v (.bool t))) } = some (bw_s2 y d k rp q t) := by
  simp -implicitDefEqProofs (maxSteps := 10000000) only [bw_post, bw_s0, bw_s1, bw_s2, encR, yv, go_sem, stcells, ldcells, iv, bv, reduceCtorEq, ↓reduceIte, Nat.reduceEqDiff]
theorem bw_inc {y : Nat} {d : D} {j : Nat} {rp q : List D} (hj : j ≤ 140737488351232) : X G bw_I (bw_s2 y d (j : Int) rp q true) = some (.n, bw_st y d ((j : Int) - 1)) := by
  have e1 : w64 ((j : Int) - 1) = (j : Int) - 1 := w64_id (by omega) (by omega)
  simp -implicitDefEqProofs (maxSteps := 10000000) only [bw_I, slices_Backward_api_Poly_api_Rat_1_l0, C.one1, C.two2, bw_st, bw_s0, bw_s1, bw_s2, encR, yv, go_sem, e1, stcells, ldcells, iv, bv, reduceCtorEq, ↓reduceIte, Nat.reduceEqDiff]

end

theorem bw_walk {d : D} {n : Nat} {cs : List D} (hr : Rw4 d n cs) (hl : n ≤ 140737488351232) {N n' y : Nat} {S : Nat → Prop} {w0 : World} {J Jx : Held} {ac : Act} {W : World} (hab : Abide w0 J) (habx : Abide w0 Jx) (hans : Answers Try.prog n' S w0 y J Jx (bk4 n cs))
    (hI : Inv S w0 N J ⟨argF 0 [yv y, .rp [d]], hp0, []⟩ 0 ac W) :
    WY Try.prog N (n' + 1) slices_Backward_api_Poly_api_Rat_1.body.er (fun e' a' W' => (∀ id, e' ≠ .x id) ∧ ((∃ st, Inv S w0 N J st (bk4 n cs).length a' W') ∨ ∃ st i, Inv S w0 N Jx st i a' W')) ac W := by
  letI := noIts
  have hE : EnvOk Try.prog G := env_ok0
  rw [bw_shape]
  refine WY.seq ?_
  refine Inv.code hE hab hI rfl rfl (bw_start hr hl) ?_
  intro a1 W1 I1
  simp only [↓reduceIte]
  refine WY.blk ?_
  refine WY.loop (j := n) (fun j a' w' => ∃ i, i ≤ n ∧ j = n - i ∧ Inv S w0 N J (bw_st y d (((n - i : Nat) : Int) - 1)) i a' w') ⟨0, by omega, by omega, ?_⟩ ?_
  · rw [Nat.sub_zero]
    exact I1
  · rintro j a2 W2 ⟨i, hi, rfl, I2⟩
    refine WY.seq ?_
    by_cases hin : i < n
    · obtain ⟨k, hk⟩ : ∃ k, k = n - 1 - i := ⟨_, rfl⟩
      have ek : ((n - i : Nat) : Int) - 1 = (k : Int) := by omega
      rw [ek] at I2
      have hkl : k < n := by omega
      refine Inv.code hE hab I2 rfl rfl bw_more ?_
      intro a3 W3 I3
      simp only [↓reduceIte]
      refine WY.seq (WY.blk (WY.seq ?_))
      refine Inv.yield hE hab habx hans I3 (pre := bw_pre) (post := bw_post) (d := 17) (ty := 11) (es := [.t 12, .t 16]) (s1 := bw_s1 y d (k : Int) (cs.drop (k * 4)) ((cs.drop (k * 4)).take 4)) (x := [iv (k : Int), .agg ((cs.drop (k * 4)).take 4)]) (rt := bw_s2 y d (k : Int) (cs.drop (k * 4)) ((cs.drop (k * 4)).take 4) true) (rf := bw_s2 y d (k : Int) (cs.drop (k * 4)) ((cs.drop (k * 4)).take 4) false) (bw_p1 hr hkl) rfl rfl ?_ bw_p2 bw_p2 ?_ ?_
      · rw [bk4, List.getElem?_map, List.getElem?_range hin, hk]; rfl
      · intro a4 W4 I4
        simp only [↓reduceIte]
        refine WY.cond (t := false) (I4.bool rfl) (fun h => by cases h) (fun _ => WY.skip ?_)
        simp only [↓reduceIte]
        refine Inv.code hE hab I4 rfl rfl (bw_inc (by omega)) ?_
        intro a6 W6 I6
        simp only [↓reduceIte]
        refine ⟨n - (i + 1), by omega, i + 1, by omega, rfl, ?_⟩
        rw [show ((n - (i + 1) : Nat) : Int) - 1 = (k : Int) - 1 by omega]
        exact I6
      · intro a4 W4 I4
        simp only [↓reduceIte]
        refine WY.cond (t := true) (I4.bool rfl) (fun _ => WY.ret ?_) (fun h => by cases h)
        simp only [reduceCtorEq, ↓reduceIte]
        exact ⟨fun _ h => (by cases h), .inr ⟨_, _, I4⟩⟩
    · have : i = n := by omega
      subst this
      rw [Nat.sub_self] at I2
      refine Inv.code hE hab I2 rfl rfl bw_stop ?_
      intro a3 W3 I3
      simp only [reduceCtorEq, ↓reduceIte]
      exact ⟨fun _ h => (by cases h), .inl ⟨_, by rw [bk4_len]; exact I3⟩⟩

theorem backward_ok {d : D} {n : Nat} {cs : List D} (hr : Rw4 d n cs) (hl : n ≤ 140737488351232) : ItOk Try.prog n_slices_Backward_api_Poly_api_Rat_1 [.rp [d]] (bk4 n cs) := by
  refine it_ok (Γ := @G noIts) env_ok0 (cf := slices_Backward_api_Poly_api_Rat_1) Try.func88 slices_Backward_api_Poly_api_Rat_1_c ?_ rfl rfl ?_
  · intro b hb
    have : (Try.f88.body.map okY) = some true := by kernel_rfl
    rw [hb] at this
    simpa using this
  · intro n' y S w0 J Jx ac W hab habx hans hI
    exact bw_walk hr hl hab habx hans hI

/-- What the iterator of Backward yields. -/
def itBack : List D → Option (List (List D))
  | [.rp [.z true]] => some []
  | [.rp [.row n cs]] => if cs.length = n * 4 ∧ n ≤ 140737488351232 then some (bk4 n cs) else none
  | _ => none
theorem itBack_ok {ds : List D} {xs : List (List D)} (h : itBack ds = some xs) : ItOk Try.prog n_slices_Backward_api_Poly_api_Rat_1 ds xs := by
  unfold itBack at h
  split at h
  · cases h
    exact backward_ok (n := 0) (cs := []) (.inl ⟨rfl, rfl⟩) (by omega)
  · split at h
    · rename_i hc
      cases h
      exact backward_ok (.inr ⟨rfl, hc.1⟩) hc.2
    · cases h
  · cases h
/-- What the seat's iterators yield, of Backward. -/
class ItsB [Its] : Prop where
  back : ∀ ds, Its.it n_slices_Backward_api_Poly_api_Rat_1 ds = itBack ds
theorem its_back [Its] [ItsB] {d : D} {l : List Rat} (h : RwR d l) (hl : l.length ≤ 140737488351232) : Its.it n_slices_Backward_api_Poly_api_Rat_1 [.rp [d]] = some (bkw l) := by
  rw [ItsB.back, ← bk4_R]
  rcases h with ⟨rfl, rfl⟩ | rfl
  · rfl
  · exact if_pos ⟨cRs_length l, hl⟩

/-- The value, by Horner's rule. -/
def evR (l : List Rat) (x : Rat) : Rat := l.foldr (fun a s => s * x + a) 0
theorem evR_cons (a : Rat) (l : List Rat) (x : Rat) : evR (a :: l) x = evR l x * x + a := rfl
theorem evR_bk (l : List Rat) (x : Rat) : (bkp l).foldl (fun s p => s * x + p.2) 0 = evR l x := by
  have h : ∀ (ps : List (Int × Rat)) (s : Rat), ps.foldl (fun s p => s * x + p.2) s = (ps.map Prod.snd).foldl (fun s a => s * x + a) s := by
    intro ps
    induction ps with
    | nil => intro s; rfl
    | cons p ps ih => intro s; exact ih _
  rw [h, bkp_snd, List.foldl_reverse]
  rfl
def ev_fr : Fr := frL [(3, .ptr [3] 0), (4, .ptr [4] 0), (5, .ptr [5] 0)]
def ev_hp (x s : Rat) : Hp := hpL [([3], boxR x), ([4], boxR0), ([5], boxR s)]
variable [Its]

theorem ev_rounds {x : Rat} {K : Nat} (hK : sz x ≤ K) (hK2 : K ≤ 1000000000) : ∀ (ps : List (Int × Rat)) (s : Rat), (∀ p ∈ ps, sz p.2 ≤ K) → sz s + ps.length * (2 * K + 1) ≤ 50000000000 →
    rounds (X G) [10, 11] poly_Eval_a0 poly_Eval_b0 ev_fr [] (ps.map bk1) (ev_hp x s) = some (.n, ⟨ev_fr, ev_hp x (ps.foldl (fun s p => s * x + p.2) s), []⟩)
  | [], s, _, _ => rfl
  | p :: ps, s, hp, hs => by
    have h1 : (p :: ps).length * (2 * K + 1) = ps.length * (2 * K + 1) + (2 * K + 1) := by rw [List.length_cons, Nat.succ_mul]
    have h2 := hp p (List.mem_cons_self ..)
    have g1 := ratMul_spec (a := s) (b := x) (by omega) (by omega)
    have k1 := sz_mul (a := s) (b := x)
    have g2 := ratAdd_spec (a := s * x) (b := p.2) (by omega) (by omega)
    have k2 := sz_add (a := s * x) (b := p.2)
    have ih := ev_rounds hK hK2 ps (s * x + p.2) (fun q hq => hp q (List.mem_cons_of_mem _ hq)) (by omega)
    rw [List.map_cons, List.foldl_cons, ← ih]
    clear ih hp
    generalize s * x + p.2 = r at *
    generalize s * x = sx at *
    obtain ⟨k, q⟩ := p
    unfold bk1
    simp only at g2 ⊢
    generalize List.map _ ps = XS
    simp only [encR] at g1 g2
    simp -implicitDefEqProofs (maxSteps := 10000000) only [rounds, poly_Eval_a0, poly_Eval_b0, ev_fr, ev_hp, boxR, encR, boxR0, putL, go_sem, stcells, ldcells, iv, bv, g1, g2, reduceCtorEq, ↓reduceIte, Nat.reduceEqDiff]
theorem Eval_spec [ItsB] {d : D} {l : List Rat} {x : Rat} {K : Nat} (hr : RwR d l) (hK : sz x ≤ K) (hK2 : K ≤ 1000000000) (hl : ∀ q ∈ l, sz q ≤ K) (hn : l.length * (2 * K + 1) ≤ 40000000000) : callX G n_poly_Eval [d, encR x] = some (.d (encR (evR l x))) := by
  rw [callX_eq (cf := poly_Eval) rfl]
  have g1 := Backward_spec hr
  have hn' : l.length ≤ l.length * (2 * K + 1) := Nat.le_mul_of_pos_right _ (by omega)
  have hit : (G).it n_slices_Backward_api_Poly_api_Rat_1 [.rp [d]] = some (bkw l) := its_back hr (by omega)
  have hp : (bkp l).length = l.length := by simp [bkp]
  have hrd := ev_rounds hK hK2 (bkp l) 0 (fun p hp' => by
    have : p.2 ∈ (bkp l).map Prod.snd := List.mem_map_of_mem hp'
    rw [bkp_snd] at this
    exact hl _ (List.mem_reverse.1 this)) (by rw [hp, sz_zero]; omega)
  rw [evR_bk] at hrd
  have e1 : (bkp l).map bk1 = bkw l := rfl
  rw [e1] at hrd
  have hA : poly_Eval_a0.holds [[3], [4], [5]] = true := rfl
  have hB : poly_Eval_b0.holds [[3], [4], [5]] = true := rfl
  have e0 : boxR 0 = boxR0 := by
    have ez : decide ((0 : Rat).num < 0) = false := rfl
    have ez2 : dg (digs (0 : Rat).num.natAbs) = .z true := by rw [Rat.zero_num, show (0 : Int).natAbs = 0 from rfl, digs_zero]; rfl
    have ez3 : dg (dd (0 : Rat).den) = .z true := rfl
    rw [boxR, ez, ez2, ez3]; rfl
  rw [ev_hp, e0] at hrd
  clear hp e1 hn e0
  generalize bkw l = XS at *
  generalize evR l x = v at *
  simp only [ev_fr, ev_hp, boxR, boxR0, go_sem] at hrd
  simp -implicitDefEqProofs (maxSteps := 10000000) only [poly_Eval, X_rfn, plainF, hA, hB, hit, hrd, encR, go_sem, stcells, ldcells, iv, bv, g1, reduceCtorEq, ↓reduceIte, Nat.reduceEqDiff]
end Go.AM

/- Polynomials as lists: values, and that values tell them apart. -/
namespace Go.AM
open Go Go.RowKit

def sumR (f : Nat → Rat) : Nat → Rat
  | 0 => 0
  | n + 1 => sumR f n + f n
theorem sumR_congr {f g : Nat → Rat} : ∀ n, (∀ k, k < n → f k = g k) → sumR f n = sumR g n
  | 0, _ => rfl
  | n + 1, h => by rw [sumR, sumR, sumR_congr n (fun k hk => h k (by omega)), h n (by omega)]
theorem sumR_zero {f : Nat → Rat} : ∀ n, (∀ k, k < n → f k = 0) → sumR f n = 0
  | 0, _ => rfl
  | n + 1, h => by rw [sumR, sumR_zero n (fun k hk => h k (by omega)), h n (by omega), Rat.add_zero]
theorem sumR_shift (f : Nat → Rat) : ∀ n, sumR f (n + 1) = f 0 + sumR (fun i => f (i + 1)) n
  | 0 => by rw [sumR, sumR, sumR, Rat.zero_add, Rat.add_zero]
  | n + 1 => by rw [sumR, sumR_shift f n, sumR, Rat.add_assoc]
theorem sumR_add (f g : Nat → Rat) : ∀ n, sumR (fun k => f k + g k) n = sumR f n + sumR g n
  | 0 => by rw [sumR, sumR, sumR, Rat.add_zero]
  | n + 1 => by
    rw [sumR, sumR, sumR, sumR_add f g n]
    generalize sumR f n = a; generalize sumR g n = b; grind
theorem sumR_mul (f : Nat → Rat) (c : Rat) : ∀ n, sumR (fun k => f k * c) n = sumR f n * c
  | 0 => by rw [sumR, sumR, Rat.zero_mul]
  | n + 1 => by rw [sumR, sumR, sumR_mul f c n, Rat.add_mul]
theorem sumR_more {f : Nat → Rat} {n : Nat} : ∀ d, (∀ k, n ≤ k → k < n + d → f k = 0) → sumR f (n + d) = sumR f n
  | 0, _ => rfl
  | d + 1, h => by
    show sumR f (n + d) + f (n + d) = _
    rw [sumR_more d (fun k h1 h2 => h k h1 (by omega)), h (n + d) (by omega) (by omega), Rat.add_zero]
theorem sumR_ge {f : Nat → Rat} {n m : Nat} (hm : n ≤ m) (h : ∀ k, n ≤ k → f k = 0) : sumR f m = sumR f n := by
  obtain ⟨d, rfl⟩ : ∃ d, m = n + d := ⟨m - n, by omega⟩
  exact sumR_more d (fun k h1 _ => h k h1)

theorem getD_out {l : List Rat} {k : Nat} (h : l.length ≤ k) : l.getD k 0 = 0 := by
  rw [List.getD_eq_getElem?_getD, List.getElem?_eq_none h]; rfl
theorem getD_map (e : Nat → Rat) {n k : Nat} (h : k < n) : ((List.range n).map e).getD k 0 = e k := by
  rw [List.getD_eq_getElem?_getD, List.getElem?_map, List.getElem?_range h]; rfl
theorem getD_trim (l : List Rat) (k : Nat) : (trimR l).getD k 0 = l.getD k 0 := by
  have hc : ∀ n, n ≤ l.length → ∀ k, cutR l n ≤ k → k < n → l.getD k 0 = 0 := by
    intro n
    induction n with
    | zero => intro _ k _ h; omega
    | succ n ih =>
      intro hn k h1 h2
      rw [cutR] at h1
      split at h1
      · rename_i h0
        by_cases hk : k = n
        · rw [hk]; exact h0
        · exact ih (by omega) k h1 (by omega)
      · omega
  have hl := cutR_le l l.length
  by_cases h1 : k < cutR l l.length
  · rw [trimR, List.getD_eq_getElem?_getD, List.getElem?_take_of_lt h1, ← List.getD_eq_getElem?_getD]
  · rw [getD_out (by rw [trimR_len]; omega)]
    by_cases h2 : k < l.length
    · exact (hc l.length (Nat.le_refl _) k (by omega) h2).symm
    · exact (getD_out (by omega)).symm
/-- Without a zero at the end. -/
def Trm (l : List Rat) : Prop := ∀ n, l.length = n + 1 → l.getD n 0 ≠ 0
theorem trm_nil : Trm [] := fun n h => by simp at h
theorem trm_trim (l : List Rat) : Trm (trimR l) := by
  have hc : ∀ n, ∀ m, cutR l n = m + 1 → l.getD m 0 ≠ 0 := by
    intro n
    induction n with
    | zero => intro m h; simp [cutR] at h
    | succ n ih =>
      intro m h
      rw [cutR] at h
      split at h
      · exact ih m h
      · rename_i h0
        have : m = n := by omega
        rw [this]; exact h0
  intro n h
  rw [getD_trim]
  exact hc _ n (by rw [← trimR_len]; exact h)
theorem trm_ext {l m : List Rat} (hl : Trm l) (hm : Trm m) (h : ∀ k, l.getD k 0 = m.getD k 0) : l = m := by
  have hlen : l.length = m.length := by
    rcases Nat.lt_trichotomy l.length m.length with h1 | h1 | h1
    · obtain ⟨n, hn⟩ : ∃ n, m.length = n + 1 := ⟨m.length - 1, by omega⟩
      exact absurd (by rw [← h n]; exact getD_out (by omega)) (hm n hn)
    · exact h1
    · obtain ⟨n, hn⟩ : ∃ n, l.length = n + 1 := ⟨l.length - 1, by omega⟩
      exact absurd (by rw [h n]; exact getD_out (by omega)) (hl n hn)
  apply List.ext_getElem hlen
  intro i h1 h2
  have := h i
  rw [List.getD_eq_getElem?_getD, List.getD_eq_getElem?_getD, List.getElem?_eq_getElem h1, List.getElem?_eq_getElem h2] at this
  exact this

theorem evR_snoc (a x : Rat) : ∀ l : List Rat, evR (l ++ [a]) x = evR l x + a * x ^ l.length
  | [] => by
    show evR [] x * x + a = evR [] x + a * x ^ 0
    rw [Rat.pow_zero]
    have : evR [] x = 0 := rfl
    rw [this]; grind
  | b :: l => by
    show evR (l ++ [a]) x * x + b = evR l x * x + b + a * x ^ (l.length + 1)
    rw [evR_snoc a x l, Rat.pow_succ]
    generalize evR l x = v; generalize x ^ l.length = p; grind
theorem evR_sum0 (x : Rat) (l : List Rat) : evR l x = sumR (fun k => l.getD k 0 * x ^ k) l.length := by
  have h : ∀ n, n ≤ l.length → evR (l.take n) x = sumR (fun k => l.getD k 0 * x ^ k) n := by
    intro n
    induction n with
    | zero => intro _; rfl
    | succ n ih =>
      intro hn
      have e : l.take (n + 1) = l.take n ++ [l.getD n 0] := by
        rw [List.take_add_one]
        simp [List.getD, (by omega : n < l.length)]
      rw [e, evR_snoc, ih (by omega), sumR, List.length_take, Nat.min_eq_left (by omega)]
  have := h l.length (Nat.le_refl _)
  rwa [List.take_length] at this
theorem evR_sum (x : Rat) {l : List Rat} {n : Nat} (h : l.length ≤ n) : evR l x = sumR (fun k => l.getD k 0 * x ^ k) n := by
  rw [evR_sum0]
  exact (sumR_ge h (fun k hk => by rw [getD_out hk, Rat.zero_mul])).symm
theorem evR_trim (l : List Rat) (x : Rat) : evR (trimR l) x = evR l x := by
  rw [evR_sum x (trimR_le l), evR_sum0 x l]
  exact sumR_congr _ fun k _ => by rw [getD_trim]
theorem evR_map (e : Nat → Rat) (n : Nat) (x : Rat) : evR (trimR ((List.range n).map e)) x = sumR (fun k => e k * x ^ k) n := by
  rw [evR_trim, evR_sum x (l := (List.range n).map e) (n := n) (by simp)]
  exact sumR_congr _ fun k hk => by rw [getD_map e hk]
theorem evR_nil (x : Rat) : evR [] x = 0 := rfl

/-! ### Dividing by x - r -/
def syn : List Rat → Rat → List Rat
  | [], _ => []
  | [_], _ => []
  | _ :: b :: l, r => evR (b :: l) r :: syn (b :: l) r
theorem syn_len : ∀ (l : List Rat) (r : Rat), (syn l r).length = l.length - 1
  | [], _ => rfl
  | [_], _ => rfl
  | a :: b :: l, r => by rw [syn, List.length_cons, syn_len (b :: l) r]; simp
theorem evR_syn : ∀ (l : List Rat) (r x : Rat), evR l x = evR l r + (x - r) * evR (syn l r) x
  | [], r, x => by rw [syn, evR_nil, evR_nil]; grind
  | [a], r, x => by
    rw [syn, evR_nil, evR_cons, evR_cons, evR_nil, evR_nil]; grind
  | a :: b :: l, r, x => by
    have ih := evR_syn (b :: l) r x
    rw [syn, evR_cons a, evR_cons a, evR_cons (evR (b :: l) r)]
    generalize evR (b :: l) x = u at *
    generalize evR (b :: l) r = v at *
    generalize evR (syn (b :: l) r) x = w at *
    rw [ih]; grind
theorem evR_zeros {l : List Rat} (h : ∀ q ∈ l, q = 0) (x : Rat) : evR l x = 0 := by
  induction l with
  | nil => rfl
  | cons a l ih =>
    rw [evR_cons, ih (fun q hq => h q (List.mem_cons_of_mem _ hq)), h a (List.mem_cons_self ..)]
    grind
theorem syn_zero : ∀ (l : List Rat) (r : Rat), (∀ q ∈ syn l r, q = 0) → ∀ q ∈ l.tail, q = 0
  | [], _, _ => by simp
  | [_], _, _ => by simp
  | a :: b :: l, r, h => by
    have h1 : evR (b :: l) r = 0 := h _ (by rw [syn]; exact List.mem_cons_self ..)
    have h2 := syn_zero (b :: l) r (fun q hq => h q (by rw [syn]; exact List.mem_cons_of_mem _ hq))
    intro q hq
    rcases List.mem_cons.1 hq with rfl | hq
    · have h3 : evR l r = 0 := evR_zeros h2 r
      rw [evR_cons, h3] at h1
      grind
    · exact h2 q hq
/-- What is 0 everywhere beyond some number has no other coefficients. -/
theorem zeros_of : ∀ (n : Nat) (l : List Rat) (c : Rat), l.length ≤ n → (∀ x, c < x → evR l x = 0) → ∀ q ∈ l, q = 0
  | 0, l, c, hl, _ => by
    have : l = [] := List.eq_nil_of_length_eq_zero (by omega)
    subst this; simp
  | n + 1, l, c, hl, h => by
    have hr : c < c + 1 := by grind
    have h0 := h (c + 1) hr
    have hs : ∀ x, c + 1 < x → evR (syn l (c + 1)) x = 0 := fun x hx => by
      have h1 := evR_syn l (c + 1) x
      rw [h x (by grind), h0, Rat.zero_add] at h1
      rcases Rat.mul_eq_zero.1 h1.symm with h2 | h2
      · exfalso; grind
      · exact h2
    have hz := syn_zero l (c + 1) (zeros_of n _ (c + 1) (by rw [syn_len]; omega) hs)
    cases l with
    | nil => simp
    | cons a l =>
      intro q hq
      have hz' : ∀ q ∈ l, q = 0 := hz
      rcases List.mem_cons.1 hq with rfl | hq
      · rw [evR_cons, evR_zeros hz'] at h0
        grind
      · exact hz' q hq
def difR (l m : List Rat) : List Rat := (List.range (max l.length m.length)).map fun k => l.getD k 0 - m.getD k 0
theorem evR_dif (l m : List Rat) (x : Rat) : evR (difR l m) x = evR l x - evR m x := by
  have e := evR_map (fun k => l.getD k 0 - m.getD k 0) (max l.length m.length) x
  rw [evR_trim] at e
  show evR (difR l m) x = _
  rw [show difR l m = (List.range (max l.length m.length)).map (fun k => l.getD k 0 - m.getD k 0) from rfl, e, evR_sum x (l := l) (n := max l.length m.length) (by omega), evR_sum x (l := m) (n := max l.length m.length) (by omega)]
  have h : ∀ n, sumR (fun k => (l.getD k 0 - m.getD k 0) * x ^ k) n = sumR (fun k => l.getD k 0 * x ^ k) n - sumR (fun k => m.getD k 0 * x ^ k) n := by
    intro n
    induction n with
    | zero => rw [sumR, sumR, sumR, Rat.sub_self]
    | succ n ih =>
      rw [sumR, sumR, sumR, ih]
      generalize sumR (fun k => l.getD k 0 * x ^ k) n = u
      generalize sumR (fun k => m.getD k 0 * x ^ k) n = v
      generalize x ^ n = p
      grind
  exact h _
theorem coef_eq {l m : List Rat} {c : Rat} (h : ∀ x, c < x → evR l x = evR m x) (k : Nat) : l.getD k 0 = m.getD k 0 := by
  have hz := zeros_of _ (difR l m) c (Nat.le_refl _) (fun x hx => by rw [evR_dif, h x hx, Rat.sub_self])
  by_cases hk : k < max l.length m.length
  · have h1 : l.getD k 0 - m.getD k 0 = 0 := hz _ (List.mem_map.2 ⟨k, List.mem_range.2 hk, rfl⟩)
    grind
  · rw [getD_out (by omega), getD_out (by omega)]
theorem eq_beyond {l m : List Rat} {c : Rat} (h : ∀ x, c < x → evR l x = evR m x) (x : Rat) : evR l x = evR m x := by
  rw [evR_sum x (l := l) (n := max l.length m.length) (by omega), evR_sum x (l := m) (n := max l.length m.length) (by omega)]
  exact sumR_congr _ fun k _ => by rw [coef_eq h k]
/-- Polynomials with the same values are the same. -/
theorem poly_ext {l m : List Rat} (hl : Trm l) (hm : Trm m) (h : ∀ x, evR l x = evR m x) : l = m :=
  trm_ext hl hm (coef_eq (c := 0) fun x _ => h x)

/-! ### Products -/
def conv (l m : List Rat) (k : Nat) : Rat := sumR (fun i => l.getD i 0 * m.getD (k - i) 0) (k + 1)
def muP (l m : List Rat) : List Rat := trimR ((List.range (l.length + m.length - 1)).map (conv l m))
theorem conv_nil (m : List Rat) (k : Nat) : conv [] m k = 0 := sumR_zero _ fun i _ => by rw [getD_out (by simp), Rat.zero_mul]
theorem conv_zero (a : Rat) (l m : List Rat) : conv (a :: l) m 0 = a * m.getD 0 0 := by
  rw [conv, sumR, sumR, Rat.zero_add]; rfl
theorem conv_succ (a : Rat) (l m : List Rat) (k : Nat) : conv (a :: l) m (k + 1) = a * m.getD (k + 1) 0 + conv l m k := by
  rw [conv, sumR_shift, conv]
  have e : sumR (fun i => (a :: l).getD (i + 1) 0 * m.getD (k + 1 - (i + 1)) 0) (k + 1) = sumR (fun i => l.getD i 0 * m.getD (k - i) 0) (k + 1) :=
    sumR_congr _ fun i _ => by rw [List.getD_cons_succ, show k + 1 - (i + 1) = k - i by omega]
  rw [e]; rfl
theorem conv_out {l m : List Rat} {k : Nat} (h : l.length + m.length - 1 ≤ k) : conv l m k = 0 := by
  by_cases h0 : l.length = 0
  · exact sumR_zero _ fun i _ => by rw [getD_out (by omega), Rat.zero_mul]
  · exact sumR_zero _ fun i hi => by
      by_cases h1 : l.length ≤ i
      · rw [getD_out h1, Rat.zero_mul]
      · rw [getD_out (l := m) (by omega), Rat.mul_zero]
theorem conv_sum (m : List Rat) (x : Rat) : ∀ (l : List Rat) (n : Nat), l.length + m.length ≤ n → sumR (fun k => conv l m k * x ^ k) n = evR l x * evR m x
  | [], n, _ => by rw [evR_nil, Rat.zero_mul]; exact sumR_zero _ fun k _ => by rw [conv_nil, Rat.zero_mul]
  | a :: l, 0, h => by simp at h
  | a :: l, n + 1, h => by
    have ih := conv_sum m x l n (by simp at h; omega)
    rw [sumR_shift, conv_zero]
    have e1 : sumR (fun i => conv (a :: l) m (i + 1) * x ^ (i + 1)) n = sumR (fun i => m.getD (i + 1) 0 * x ^ (i + 1) * a + conv l m i * x ^ i * x) n :=
      sumR_congr _ fun i _ => by
        rw [conv_succ, Rat.pow_succ]
        generalize m.getD (i + 1) 0 = u; generalize conv l m i = v; generalize x ^ i = p; grind
    rw [e1, sumR_add, sumR_mul (fun i => m.getD (i + 1) 0 * x ^ (i + 1)), sumR_mul (fun i => conv l m i * x ^ i), ih, evR_cons]
    have e2 : evR m x = m.getD 0 0 * x ^ 0 + sumR (fun i => m.getD (i + 1) 0 * x ^ (i + 1)) n := by
      rw [evR_sum x (l := m) (n := n + 1) (by simp at h; omega), sumR_shift]
    rw [e2, Rat.pow_zero]
    generalize sumR (fun i => m.getD (i + 1) 0 * x ^ (i + 1)) n = s
    generalize m.getD 0 0 = t
    generalize evR l x = u
    grind
theorem ev_mu (l m : List Rat) (x : Rat) : evR (muP l m) x = evR l x * evR m x := by
  rw [muP, evR_map, ← conv_sum m x l (l.length + m.length) (Nat.le_refl _)]
  exact (sumR_ge (by omega) (fun k hk => by rw [conv_out hk, Rat.zero_mul])).symm
end Go.AM

/- Arrays of rationals; poly.at, made, Add, Scale, Derive. -/
namespace Go.AM
open Go Go.RowKit

theorem SzL.trim {K : Nat} {l : List Rat} (h : SzL K l) : SzL K (trimR l) := fun q hq => h q (List.mem_of_mem_take hq)
theorem SzL.map {K : Nat} {n : Nat} {e : Nat → Rat} (h : ∀ k, k < n → sz (e k) ≤ K) : SzL K ((List.range n).map e) := by
  intro q hq
  obtain ⟨k, hk, rfl⟩ := List.mem_map.1 hq
  exact h k (List.mem_range.1 hk)
def adP (l m : List Rat) : List Rat := trimR ((List.range (max l.length m.length)).map fun k => l.getD k 0 + m.getD k 0)
def sbP (l m : List Rat) : List Rat := trimR ((List.range (max l.length m.length)).map fun k => l.getD k 0 - m.getD k 0)
def scP (l : List Rat) (a : Rat) : List Rat := trimR ((List.range l.length).map fun k => l.getD k 0 * a)
def deP (l : List Rat) : List Rat := trimR ((List.range (l.length - 1)).map fun k => l.getD (k + 1) 0 * ((k + 1 : Nat) : Int))
theorem made_len (n : Nat) (e : Nat → Rat) : (trimR ((List.range n).map e)).length ≤ n := by
  have := trimR_le ((List.range n).map e)
  rwa [List.length_map, List.length_range] at this
variable [Its]

def md_st (f : Nat) (caps : List D) (l : List Rat) (n i : Int) : St := mkS [(1, .d (.fn f caps)), (5, gA4 17 l), (8, ai n), (9, ai i)] (gH4 17 l)
def md_en (l : List Rat) : St := mkS [(5, gA4 17 l)] (gH4 17 l)
theorem md_go {f : Nat} {caps : List D} {l : List Rat} {n i : Nat} {q : Rat} (hi : i < n) (hn : n * 64 ≤ 140737488351232) (hl : l.length = i) (g : callX G f (iv (i : Int) :: caps) = some (.d (encR q))) : X G poly_made_l0 (md_st f caps l n i) = some (.n, md_st f caps (l ++ [q]) n ((i + 1 : Nat) : Int)) := by
  have e1 : decide ((i : Int) < (n : Int)) = true := lt_t (by omega)
  have e2 : w64 ((i : Int) + 1) = ((i + 1 : Nat) : Int) := by rw [w64_id (by omega) (by omega)]; rfl
  have d1 := dgone (digs q.num.natAbs)
  have d2 := dgone (dd q.den)
  have hb : (64 ≤ bound) = True := eq_true (by unfold bound; omega)
  have hb1 : (1 * 64 ≤ bound) = True := eq_true (by unfold bound; omega)
  simp only [encR, iv] at g
  by_cases h0 : l = []
  · subst h0
    simp -implicitDefEqProofs (maxSteps := 10000000) only [poly_made_l0, md_st, gA4_nil, gH4_nil, hupdO_none, gA4_snoc, gH4_snoc, List.nil_append, List.cons_append, List.length_nil, List.length_cons, Nat.zero_add, List.map_cons, List.map_nil, rep1c, gA4_one, gH4_one, cA_one, srcS, src, one_b, allD, hb, hb1, d1, d2, go_sem, iv, bv, e1, e2, g, reduceCtorEq, ↓reduceIte, Nat.reduceEqDiff]
  · have n3 : (cA l).length = l.length * 4 := cA_length l
    have n4 : ((l.length + 1) * 64 ≤ bound) = True := eq_true (by unfold bound; omega)
    simp -implicitDefEqProofs (maxSteps := 10000000) only [poly_made_l0, md_st, gA4_ne h0, gH4_ne h0, gA4_snoc, gH4_snoc, List.nil_append, List.cons_append, List.length_nil, List.length_cons, Nat.zero_add, List.map_cons, List.map_nil, rep1c, cA_snoc, n3, n4, refsL_cA, srcS, src, one_b, allD, d1, d2, go_sem, iv, bv, e1, e2, g, reduceCtorEq, ↓reduceIte, Nat.reduceEqDiff]
theorem md_stop {f : Nat} {caps : List D} {l : List Rat} {n : Nat} : X G poly_made_l0 (md_st f caps l n n) = some (.x 0, md_en l) := by
  have e1 : decide ((n : Int) < (n : Int)) = false := lt_f (by omega)
  by_cases h0 : l = []
  · subst h0
    simp -implicitDefEqProofs (maxSteps := 10000000) only [poly_made_l0, md_st, md_en, gA4_nil, gH4_nil, hupdO_none, go_sem, iv, bv, e1, reduceCtorEq, ↓reduceIte, Nat.reduceEqDiff]
  · simp -implicitDefEqProofs (maxSteps := 10000000) only [poly_made_l0, md_st, md_en, gA4_ne h0, gH4_ne h0, refsL_cA, go_sem, iv, bv, e1, reduceCtorEq, ↓reduceIte, Nat.reduceEqDiff]
theorem md_loop {f : Nat} {caps : List D} {n : Nat} {e : Nat → Rat} (hn : n * 64 ≤ 140737488351232) (hF : ∀ k : Nat, k < n → callX G f (iv (k : Int) :: caps) = some (.d (encR (e k)))) : ∀ (j i : Nat), i + j = n → X G (.loop poly_made_l0) (md_st f caps ((List.range i).map e) n i) = some (.x 0, md_en ((List.range n).map e))
  | 0, i, h => by
    have : i = n := by omega
    subst this
    rw [X_loop, md_stop]; rfl
  | j + 1, i, h => by
    have g := md_go (l := (List.range i).map e) (n := n) (i := i) (q := e i) (by omega) hn (by simp) (hF i (by omega))
    rw [X_loop, g, Option.bind_some, if_pos rfl]
    have ih := md_loop hn hF j (i + 1) (by omega)
    rw [List.range_succ, List.map_append] at ih
    exact ih
theorem made_spec {f : Nat} {caps : List D} {m : Int} {n : Nat} {e : Nat → Rat} (hm : m.toNat = n) (hn : n * 64 ≤ 140737488351232) (hF : ∀ k : Nat, k < n → callX G f (iv (k : Int) :: caps) = some (.d (encR (e k)))) :
    ∃ d', RwR d' (trimR ((List.range n).map e)) ∧ callX G n_poly_made [iv m, .fn f caps] = some (.d d') := by
  rw [callX_eq (cf := poly_made) rfl]
  have hl := md_loop hn hF n 0 (by omega)
  have ex : (if (0 : Int) > m then (0 : Int) else m) = (n : Int) := by split <;> omega
  have e0 : List.map e (List.range 0) = [] := rfl
  rw [e0] at hl
  have gl : ((List.range n).map e).length * 64 ≤ 140737488351232 := by rw [List.length_map, List.length_range]; exact hn
  obtain ⟨d', hr, gT⟩ := Trim_spec (dR_ok ((List.range n).map e)) gl
  refine ⟨d', hr, ?_⟩
  generalize (List.range n).map e = L at *
  simp only [md_st, md_en, gA4_nil, gH4_nil, hupdO_none, go_sem, nc0] at hl
  by_cases h0 : L = []
  · subst h0
    have gT' : callX G n_poly_Trim [.z true] = some (.d d') := gT
    simp only [gA4_nil, gH4_nil, hupdO_none, go_sem] at hl
    simp -implicitDefEqProofs (maxSteps := 10000000) only [poly_made, frzSt, foldV, mxV, hl, gT', ex, hupdO_none, go_sem, iv, bv, reduceCtorEq, ↓reduceIte, Nat.reduceEqDiff]
  · rw [dR, if_neg h0, rowR] at gT
    simp only [gA4_ne h0, gH4_ne h0, go_sem] at hl
    simp -implicitDefEqProofs (maxSteps := 10000000) only [poly_made, frzSt, foldV, mxV, hl, gT, ex, allD_cA, refsL_cA, hupdO_none, go_sem, iv, bv, reduceCtorEq, ↓reduceIte, Nat.reduceEqDiff]

theorem Scale1_spec {d : D} {l : List Rat} {a : Rat} (h1 : RwR d l) {K : Nat} (s1 : SzL K l) (sa : sz a ≤ K) (hK1 : 1 ≤ K) (hK : K ≤ 10000000000) {k : Nat} (hk : k < l.length) : callX G n_poly_Scale_1 [iv (k : Int), .rp [d], .rp [.v (.bool (decide (a.num < 0))), dg (digs a.num.natAbs), .v (.bool false), dg (dd a.den)]] = some (.d (encR (l.getD k 0 * a))) := by
  rw [callX_eq (cf := poly_Scale_1) rfl]
  have b1 := s1.getD hK1 k
  have e3 := h1.ixa hk
  have e4 := fun h => ldR h l hk
  have g := ratMul_spec (a := l.getD k 0) (b := a) (by omega) (by omega)
  generalize l.getD k 0 * a = r at *
  generalize l.getD k 0 = p at *
  generalize cRs (l.drop k) = cs at *
  simp only [encR, iv] at e4 g
  have e5 : ∀ (h : Hp) (x y z t : D), loadA h (some 4) (.d (.rp [x, y, z, t])) = some (.d (.agg [x, y, z, t])) := fun h x y z t => rfl
  simp -implicitDefEqProofs (maxSteps := 10000000) only [poly_Scale_1, encR, bw_ld1, e3, e4, e5, go_sem, stcells, ldcells, iv, bv, g, reduceCtorEq, ↓reduceIte, Nat.reduceEqDiff]
theorem Scale_spec_P {d : D} {l : List Rat} {a : Rat} (h1 : RwR d l) {K : Nat} (s1 : SzL K l) (sa : sz a ≤ K) (hK1 : 1 ≤ K) (hK : K ≤ 10000000000) (n1 : l.length ≤ 1000000000) : ∃ d', RwR d' (scP l a) ∧ callX G n_poly_Scale [d, encR a] = some (.d d') := by
  rw [callX_eq (cf := poly_Scale) rfl]
  obtain ⟨d', hr, g⟩ := made_spec (f := n_poly_Scale_1) (caps := [.rp [d], .rp [.v (.bool (decide (a.num < 0))), dg (digs a.num.natAbs), .v (.bool false), dg (dd a.den)]]) (m := (l.length : Int)) (n := l.length) (by omega) (by omega) (fun k hk => Scale1_spec h1 s1 sa hK1 hK hk)
  refine ⟨d', hr, ?_⟩
  have ll := h1.len
  clear hr
  have c1 : cellsOf (.d d) = [.d d] := by rcases h1 with ⟨rfl, _⟩ | rfl <;> rfl
  have c3 : A.one (.d d) = true := by rcases h1 with ⟨rfl, _⟩ | rfl <;> rfl
  simp only [iv] at g
  simp -implicitDefEqProofs (maxSteps := 10000000) only [poly_Scale, encR, snap, snapH, allD, c1, c3, List.getElem?_cons_zero, go_sem, stcells, ldcells, iv, bv, ll, g, reduceCtorEq, ↓reduceIte, Nat.reduceEqDiff]

theorem Derive1_spec {d : D} {l : List Rat} (h1 : RwR d l) {K : Nat} (s1 : SzL K l) (hK1 : 1 ≤ K) (hK : K ≤ 10000000000) (n1 : l.length ≤ 1000000000) {k : Nat} (hk : k < l.length - 1) : callX G n_poly_Derive_1 [iv (k : Int), .rp [d]] = some (.d (encR (l.getD (k + 1) 0 * ((k + 1 : Nat) : Int)))) := by
  rw [callX_eq (cf := poly_Derive_1) rfl]
  have b1 := s1.getD hK1 (k + 1)
  have hk' : k + 1 < l.length := by omega
  have e3 := h1.ixa hk'
  have e4 := fun h => ldR h l hk'
  have e1 : w64 ((k : Int) + 1) = ((k + 1 : Nat) : Int) := by rw [w64_id (by omega) (by omega)]; rfl
  have g0 := ratOf_spec (n := ((k + 1 : Nat) : Int)) (d := 1) ⟨by omega, by omega⟩ ⟨by omega, by omega⟩
  rw [divInt_one] at g0
  have s2 := sz_int (n := ((k + 1 : Nat) : Int)) ⟨by omega, by omega⟩
  have g := ratMul_spec (a := l.getD (k + 1) 0) (b := (((k + 1 : Nat) : Int) : Rat)) (by omega) (by omega)
  generalize l.getD (k + 1) 0 * (((k + 1 : Nat) : Int) : Rat) = r at *
  generalize l.getD (k + 1) 0 = p at *
  generalize (((k + 1 : Nat) : Int) : Rat) = q at *
  generalize cRs (l.drop (k + 1)) = cs at *
  generalize ((k + 1 : Nat) : Int) = k1 at *
  simp only [encR, iv] at e4 g0 g
  simp -implicitDefEqProofs (maxSteps := 10000000) only [poly_Derive_1, encR, bw_ld1, e1, e3, e4, go_sem, stcells, ldcells, iv, bv, g0, g, reduceCtorEq, ↓reduceIte, Nat.reduceEqDiff]
theorem Derive_spec_P {d : D} {l : List Rat} (h1 : RwR d l) {K : Nat} (s1 : SzL K l) (hK1 : 1 ≤ K) (hK : K ≤ 10000000000) (n1 : l.length ≤ 1000000000) : ∃ d', RwR d' (deP l) ∧ callX G n_poly_Derive [d] = some (.d d') := by
  rw [callX_eq (cf := poly_Derive) rfl]
  obtain ⟨z, hz⟩ : ∃ z, (l.length : Int) - 1 = z := ⟨_, rfl⟩
  have e1 : w64 ((l.length : Int) - 1) = z := by rw [w64_id (by omega) (by omega), hz]
  obtain ⟨d', hr, g⟩ := made_spec (f := n_poly_Derive_1) (caps := [.rp [d]]) (m := z) (n := l.length - 1) (by omega) (by omega) (fun k hk => Derive1_spec h1 s1 hK1 hK n1 hk)
  refine ⟨d', hr, ?_⟩
  have ll := h1.len
  clear hr
  have c1 : cellsOf (.d d) = [.d d] := by rcases h1 with ⟨rfl, _⟩ | rfl <;> rfl
  have c3 : A.one (.d d) = true := by rcases h1 with ⟨rfl, _⟩ | rfl <;> rfl
  simp only [iv] at g
  simp -implicitDefEqProofs (maxSteps := 10000000) only [poly_Derive, encR, snap, snapH, allD, c1, c3, List.getElem?_cons_zero, go_sem, stcells, ldcells, iv, bv, ll, e1, g, reduceCtorEq, ↓reduceIte, Nat.reduceEqDiff]
end Go.AM

