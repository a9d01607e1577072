/- Part 7 of the proof: a small machine, its soundness against the model, and what the program's functions compute on it. -/
import Derived.Test.YthhdbchmjfdgmaaM6
set_option linter.unusedVariables false
set_option linter.unusedSimpArgs false
/- integer.long -/
namespace Go.AM
open Go Go.RowKit

theorem take_row {l : List Int} {n : Nat} (h : n ≤ l.length) : D.row n (List.take n (l.map iv)) = rowI (l.take n) := by
  rw [rowI, List.length_take, Nat.min_eq_left h, List.map_take]
theorem scale_ok {t : Int} (h : 0 < t ∧ t < 1000000000) : (0 < 1000000000 / (t + 1) ∧ 1000000000 / (t + 1) < 1000000000) ∧ (t + 1) * (1000000000 / (t + 1)) ≤ 1000000000 ∧ w64 (t + 1) = t + 1 ∧ w64 (1000000000 / (t + 1)) = 1000000000 / (t + 1) := by
  have e := Int.mul_ediv_add_emod 1000000000 (t + 1)
  have m1 : 0 ≤ 1000000000 % (t + 1) := Int.emod_nonneg _ (by omega)
  have m2 : 1000000000 % (t + 1) < t + 1 := Int.emod_lt_of_pos _ (by omega)
  have q1 : 1 ≤ 1000000000 / (t + 1) := (Int.le_ediv_iff_mul_le (by omega)).2 (by omega)
  have q2 : 1000000000 / (t + 1) < 1000000000 := Int.ediv_lt_of_lt_mul (by omega) (by omega)
  generalize 1000000000 / (t + 1) = q at *
  generalize 1000000000 % (t + 1) = r at *
  refine ⟨⟨by omega, q2⟩, ?_, w64_id (by omega) (by omega), w64_id (by omega) (by omega)⟩
  generalize (t + 1) * q = y at *
  omega
theorem long_sum {C U Z g V Q : Int} (h : U + V * Q = C) : U - Z * (g * V) + V * (Q + Z * g) = C := by grind
theorem scaled_lt {s t B1 b lo : Int} (hs : 0 < s) (h : (t + 1) * s ≤ 1000000000) (hb : b = lo + B1 * t) (hlo : lo < B1) (hB : 0 < B1) : b * s < 1000000000 * B1 := by
  have h1 : b * s < (B1 * (t + 1)) * s := Int.mul_lt_mul_of_pos_right (by rw [hb, Int.mul_add, Int.mul_one]; generalize B1 * t = x at *; omega) hs
  have h2 : B1 * ((t + 1) * s) ≤ B1 * 1000000000 := Int.mul_le_mul_of_nonneg_left h (Int.le_of_lt hB)
  rw [Int.mul_assoc] at h1
  generalize B1 * ((t + 1) * s) = x at *
  omega
theorem long_div {A s b q U r r' : Int} (hs : 0 < s) (h1 : U + b * s * q = A * s) (h2 : U = r * s + r') (h3 : 0 ≤ r' ∧ r' < s) (h4 : U < b * s) (h5 : 0 ≤ r) : A = b * q + r ∧ r < b := by
  have e : (A - b * q - r) * s = r' := by rw [Int.sub_mul, Int.sub_mul]; rw [← h1, h2]; grind
  have hr : r' = 0 := by
    rcases Int.lt_trichotomy (A - b * q - r) 0 with h | h | h
    · exfalso
      have : (A - b * q - r) * s ≤ (-1) * s := Int.mul_le_mul_of_nonneg_right (by omega) (by omega)
      rw [e] at this
      omega
    · rw [← e, h, Int.zero_mul]
    · exfalso
      have : 1 * s ≤ (A - b * q - r) * s := Int.mul_le_mul_of_nonneg_right (by omega) (by omega)
      rw [e] at this
      omega
  constructor
  · rw [hr] at e
    have := (Int.mul_eq_zero.1 e).resolve_right (by omega)
    omega
  · rw [hr, Int.add_zero] at h2
    rw [h2] at h4
    exact Int.lt_of_mul_lt_mul_right h4 (by omega)
variable [Its]

section
variable (s : Int) (dv : D) (p L M : Nat) (v : List Int)
variable (hrv : Rw dv v) (hv : Dig v) (hvl : v.length = p + 2) (hL : L < 4611686018427387904)
include hrv hv hvl hL

theorem lo_loop (h1 : 0 < v.getD (p + 1) 0) (hM : M + p + 2 = L) (C : Int) : ∀ (k : Nat) (u q : List Int), k ≤ M → Dig u → u.length = L → Dig q → q.length = M → val (u.drop k) < val v → (∀ i, i < k → q.getD i 0 = 0) → Hid (val u + val v * val q = C) →
    ∃ u' q', X G (.loop integer_long_l3) (lo_st s dv p L M u q ((k : Int) - 1)) = some (.x 0, lo_end s p L M u' q') ∧ Dig u' ∧ u'.length = L ∧ Dig q' ∧ q'.length = M ∧ val u' < val v ∧ val u' + val v * val q' = C
  | 0, u, q, hk, hu, hul, hq, hql, hlt, h0, hs => ⟨u, q, by
      have : ((0 : Nat) : Int) - 1 = -1 := rfl
      rw [this, X_loop, lo_stop]; rfl, hu, hul, hq, hql, by simpa using hlt, hs.out⟩
  | k + 1, u, q, hk, hu, hul, hq, hql, hlt, h0, hs => by
    obtain ⟨g, u1, hg, d1, l1, lt1, e1, hx⟩ := lo_go s dv p L M v hrv hv hvl hL h1 hu hul hql (j := k) (by omega) (by omega) hlt
    have hsum : Hid (val u1 + val v * val (q.set k g) = C) := Hid.mk (by
      rw [e1, val_set _ _ _ (by omega), h0 k (Nat.lt_succ_self k), Int.sub_zero]
      exact long_sum hs.out)
    clear e1
    obtain ⟨u', q', g1, g2⟩ := lo_loop h1 hM C k u1 (q.set k g) (by omega) d1 l1 (hq.set hg) (by simpa using hql) lt1 (fun i hi => by rw [getD_set_ne _ (by omega)]; exact h0 i (by omega)) hsum
    refine ⟨u', q', ?_, g2⟩
    have : ((k + 1 : Nat) : Int) - 1 = (k : Int) := by omega
    rw [this, X_loop, hx]
    exact g1
end

theorem long_spec {da db : D} {a b : List Int} {p : Nat} (hra : Rw da a) (hrb : Rw db b) (ha : Dig a) (hb : Dig b) (hbl : b.length = p + 2) (hbt : 0 < b.getD (p + 1) 0) (hle : b.length ≤ a.length) (hsz : a.length ≤ 1000000000000) :
    ∃ q r, callX G n_integer_long [da, db] = some (.d (.tup [rowI q, rowI r])) ∧ Dig q ∧ Dig r ∧ q.length = a.length - b.length + 1 ∧ r.length = b.length ∧ val a = val b * val q + val r ∧ val r < val b := by
  obtain ⟨hs, hs2, w1, w2⟩ := scale_ok ⟨hbt, (hb.getD (p + 1)).2⟩
  have z1 := quo_pos (a := 1000000000) (b := b.getD (p + 1) 0 + 1) (by omega)
  have z2 := eqz_f (b := b.getD (p + 1) 0 + 1) (by omega)
  obtain ⟨s, hsd⟩ : ∃ s, 1000000000 / (b.getD (p + 1) 0 + 1) = s := ⟨_, rfl⟩
  rw [hsd] at hs hs2 w2 z1
  obtain ⟨u, hu1, hu2, hu3, hu4⟩ := scaled_spec hra ha hs (by omega)
  obtain ⟨vv, hv1, hv2, hv3, hv4⟩ := scaled_spec hrb hb hs (by omega)
  simp only [iv] at hu1 hv1
  -- the divisor
  have hvle : p + 2 ≤ vv.length := by omega
  have hbs : Hid (val b * s < (1000000000 : Int) ^ (p + 2)) := Hid.mk (by
    have e1 := val_split b (j := p + 1) (by omega)
    have e2 := val_drop_getD b (p + 1)
    rw [List.drop_eq_nil_of_le (show b.length ≤ p + 1 + 1 by omega)] at e2
    simp only [val, Int.mul_zero, Int.add_zero] at e2
    rw [e2] at e1
    have e3 := val_lt (hb.take (p + 1))
    have e4 : (b.take (p + 1)).length = p + 1 := by rw [List.length_take]; omega
    rw [e4] at e3
    have := scaled_lt hs.1 hs2 e1 e3 (pow_pos' _)
    rw [Int.pow_succ, Int.mul_comm ((1000000000 : Int) ^ (p + 1))]
    exact this)
  have hvt : val (vv.take (p + 2)) = val b * s := by
    have e1 := val_split vv (j := p + 2) hvle
    have e2 := val_nonneg (hv3.drop (p + 2))
    have e3 := val_nonneg (hv3.take (p + 2))
    rcases Int.lt_or_le 0 (val (vv.drop (p + 2))) with h | h
    · exfalso
      have : (1000000000 : Int) ^ (p + 2) * 1 ≤ (1000000000 : Int) ^ (p + 2) * val (vv.drop (p + 2)) := Int.mul_le_mul_of_nonneg_left (by omega) (Int.le_of_lt (pow_pos' _))
      have h3 := hbs.out
      rw [← hv4, e1] at h3
      generalize (1000000000 : Int) ^ (p + 2) * val (vv.drop (p + 2)) = x at *
      omega
    · have : val (vv.drop (p + 2)) = 0 := by omega
      rw [this, Int.mul_zero, Int.add_zero] at e1
      rw [← e1, hv4]
  have hvd := hv3.take (p + 2)
  have hvl : (vv.take (p + 2)).length = p + 2 := by rw [List.length_take]; omega
  have hbpos : 0 < val b := by
    have e1 := kn_leadv hb hbl
    have h1 : 0 < b.getD (p + 1) 0 * 1000000000 * (1000000000 : Int) ^ p := Int.mul_pos (by omega) (pow_pos' p)
    have h2 : 0 ≤ b.getD p 0 * (1000000000 : Int) ^ p := Int.mul_nonneg (hb.getD p).1 (Int.le_of_lt (pow_pos' p))
    rw [e1.1]
    have h3 := e1.2.1
    generalize b.getD (p + 1) 0 * 1000000000 * (1000000000 : Int) ^ p = x at *
    generalize b.getD p 0 * (1000000000 : Int) ^ p = y at *
    clear e1 hbs
    omega
  have hvtop : 0 < (vv.take (p + 2)).getD (p + 1) 0 := by
    rcases Int.lt_or_le 0 ((vv.take (p + 2)).getD (p + 1) 0) with h | h
    · exact h
    · exfalso
      have h0 := (hvd.getD (p + 1)).1
      have h1 : (vv.take (p + 2)).getD (p + 1) 0 = 0 := by clear hbs; omega
      have e1 := val_split (vv.take (p + 2)) (j := p + 1) (by rw [hvl]; exact Nat.le_succ _)
      have e2 := val_drop_getD (vv.take (p + 2)) (p + 1)
      rw [List.drop_eq_nil_of_le (show (vv.take (p + 2)).length ≤ p + 1 + 1 by rw [hvl]; exact Nat.le_refl _), h1] at e2
      simp only [val, Int.mul_zero, Int.add_zero] at e2
      rw [e2, Int.mul_zero, Int.add_zero, hvt] at e1
      have e3 := val_lt (hvd.take (p + 1))
      have e4 : ((vv.take (p + 2)).take (p + 1)).length = p + 1 := by rw [List.length_take, hvl]; exact Nat.min_eq_left (Nat.le_succ _)
      rw [e4, ← e1] at e3
      have f1 := val_split b (j := p + 1) (by omega)
      have f2 := val_drop_getD b (p + 1)
      rw [List.drop_eq_nil_of_le (show b.length ≤ p + 1 + 1 by omega)] at f2
      simp only [val, Int.mul_zero, Int.add_zero] at f2
      rw [f2] at f1
      have f3 := val_nonneg (hb.take (p + 1))
      have f4 : (1000000000 : Int) ^ (p + 1) * 1 ≤ (1000000000 : Int) ^ (p + 1) * b.getD (p + 1) 0 := Int.mul_le_mul_of_nonneg_left (by clear hbs e1 e3 f1; omega) (Int.le_of_lt (pow_pos' _))
      have f5 : val b * 1 ≤ val b * s := Int.mul_le_mul_of_nonneg_left (by clear hbs e1 e3 f1 f4; omega) (Int.le_of_lt hbpos)
      generalize (1000000000 : Int) ^ (p + 1) * b.getD (p + 1) 0 = x at *
      generalize (1000000000 : Int) ^ (p + 1) = y at *
      generalize val b * s = z at *
      clear hbs e1
      omega
  obtain ⟨dv, hdv⟩ : ∃ dv, D.row (p + 2) (List.take (p + 2) (vv.map iv)) = dv := ⟨_, rfl⟩
  have hrv : Rw dv (vv.take (p + 2)) := by rw [← hdv, take_row hvle]; exact .inr rfl
  obtain ⟨M, hM⟩ : ∃ M, a.length - (p + 2) + 1 = M := ⟨_, rfl⟩
  have hlast : val (u.drop M) < val (vv.take (p + 2)) := by
    rw [hvt]
    have e1 := val_split u (j := M) (by omega)
    have e2 := val_nonneg (hu3.take M)
    have e3 := val_lt ha
    have e4 : a.length = M + (p + 1) := by omega
    rw [e4, Int.pow_add] at e3
    have f1 := val_split b (j := p + 1) (by omega)
    have f2 := val_drop_getD b (p + 1)
    rw [List.drop_eq_nil_of_le (show b.length ≤ p + 1 + 1 by omega)] at f2
    simp only [val, Int.mul_zero, Int.add_zero] at f2
    rw [f2] at f1
    have f3 := val_nonneg (hb.take (p + 1))
    have f4 : (1000000000 : Int) ^ (p + 1) * 1 ≤ (1000000000 : Int) ^ (p + 1) * b.getD (p + 1) 0 := Int.mul_le_mul_of_nonneg_left (by clear hbs e1 e3 f1; omega) (Int.le_of_lt (pow_pos' _))
    have f5 : (1000000000 : Int) ^ (p + 1) ≤ val b := by
      rw [Int.mul_one] at f4
      generalize (1000000000 : Int) ^ (p + 1) * b.getD (p + 1) 0 = x at *
      clear hbs e1 e3
      omega
    have g1 : val a * s < ((1000000000 : Int) ^ M * val b) * s := Int.mul_lt_mul_of_pos_right (Int.lt_of_lt_of_le e3 (Int.mul_le_mul_of_nonneg_left f5 (Int.le_of_lt (pow_pos' _)))) hs.1
    rw [← hu4, e1, Int.mul_assoc] at g1
    have g2 : (1000000000 : Int) ^ M * val (u.drop M) < (1000000000 : Int) ^ M * (val b * s) := Int.lt_of_le_of_lt (Int.le_add_of_nonneg_left e2) g1
    exact Int.lt_of_mul_lt_mul_left g2 (Int.le_of_lt (pow_pos' _))
  obtain ⟨u', q, hx, du, lu, dq, lq, hlt, hsum⟩ := lo_loop s dv p (a.length + 1) M (vv.take (p + 2)) hrv hvd hvl (by omega) hvtop (by omega) (val a * s) M u (List.replicate M 0) (Nat.le_refl _) hu3 hu2 (Dig.replicate _) (by simp) hlast (fun i hi => by simp [List.getD, hi]) (Hid.mk (by rw [val_replicate, Int.mul_zero, Int.add_zero, hu4]))
  rw [hvt] at hlt hsum
  have hute : val (u'.take (p + 2)) = val u' := by
    have e1 := val_split u' (j := p + 2) (by omega)
    have e2 := val_nonneg (du.drop (p + 2))
    have e3 := val_nonneg (du.take (p + 2))
    rcases Int.lt_or_le 0 (val (u'.drop (p + 2))) with h | h
    · exfalso
      have : (1000000000 : Int) ^ (p + 2) * 1 ≤ (1000000000 : Int) ^ (p + 2) * val (u'.drop (p + 2)) := Int.mul_le_mul_of_nonneg_left (by omega) (Int.le_of_lt (pow_pos' _))
      have h3 := Int.lt_trans hlt hbs.out
      rw [e1] at h3
      generalize (1000000000 : Int) ^ (p + 2) * val (u'.drop (p + 2)) = x at *
      clear hsum hlt
      omega
    · have : val (u'.drop (p + 2)) = 0 := by clear hsum hlt hbs; omega
      rw [this, Int.mul_zero, Int.add_zero] at e1
      exact e1.symm
  have hul' : (u'.take (p + 2)).length = p + 2 := by rw [List.length_take]; omega
  obtain ⟨r, r', hx2, hr', lr, dr, hrv2⟩ := short_spec (da := D.row (p + 2) (List.take (p + 2) (u'.map iv))) (a := u'.take (p + 2)) (b := s) (by rw [take_row (by omega)]; exact .inr rfl) (du.take _) hs (by rw [hul']; omega)
  rw [hute] at hrv2
  obtain ⟨k1, k2⟩ := long_div hs.1 hsum hrv2 hr' hlt (val_nonneg dr)
  refine ⟨q, r, ?_, dq, dr, by omega, by rw [lr, hul', hbl], k1, k2⟩
  clear hsum hlt hbs hrv2 k1 k2 hlast hvt hu4 hv4 hute hs2
  rw [callX_eq (cf := integer_long) rfl]
  have i1 := hrb.ixn (j := p + 1) (by omega)
  have i2 := fun hp => ldv hp b (j := p + 1) (by omega)
  have i3 : w64 (((p + 2 : Nat) : Int) - 1) = ((p + 1 : Nat) : Int) := by rw [w64_id (by omega) (by omega)]; omega
  have i4 : w64 ((a.length : Int) - ((p + 2 : Nat) : Int)) = ((M : Nat) : Int) - 1 := by rw [w64_id (by omega) (by omega)]; omega
  have i5 : w64 (((M : Nat) : Int) - 1 + 1) = ((M : Nat) : Int) := by rw [w64_id (by omega) (by omega)]; omega
  have i6 := bnd M (by omega)
  have i7 : (0 : Int) ≤ 0 ∧ (0 : Int) ≤ ((p + 2 : Nat) : Int) ∧ ((p + 2 : Nat) : Int) ≤ ((b.length + 1 : Nat) : Int) := by omega
  have i8 : (0 : Int) ≤ 0 ∧ (0 : Int) ≤ ((p + 2 : Nat) : Int) ∧ ((p + 2 : Nat) : Int) ≤ ((a.length + 1 : Nat) : Int) := by omega
  have hb' := hrb.len
  rw [hbl] at hb'
  simp only [lo_st, lo_end, go_sem] at hx
  simp only [iv] at hx2 hdv
  simp -implicitDefEqProofs (maxSteps := 10000000) only [integer_long, go_sem, iv, bv, w1, w2, z1, z2, hsd, hu1, hv1, hdv, hx, hx2, i1, i2, i3, i4, i5, i6, i7, i8, hra.len, hb', mapd_I, rep_I, refsL_I, allD_I, cellsI_length, toDs, frzSt, rowI, lq, reduceCtorEq, ↓reduceIte, Nat.reduceEqDiff]

end Go.AM

/- integer.plus -/
namespace Go.AM
open Go Go.RowKit
variable [Its]

section
variable (da db : D) (a b : List Int)
def plus_st (out : List Int) (c i : Int) : St :=
  ⟨upd (upd (upd (upd (upd (upd (upd fr0 23 (.d (.v (.int .i64 i)))) 22 (.d (.v (.int .i64 a.length)))) 21 (.d da)) 6 (.d (.v (.int .i64 c)))) 5 (.own [20] (a.length + 1))) 1 (.d db)) 0 (.d da),
   hupd hp0 [20] ⟨1, a.length + 1, cellsI out, false⟩, []⟩
def plus_end (out : List Int) (c : Int) : St :=
  ⟨upd (upd (upd fr0 6 (.d (.v (.int .i64 c)))) 5 (.own [20] (a.length + 1))) 0 (.d da), hupd hp0 [20] ⟨1, a.length + 1, cellsI out, false⟩, []⟩

theorem plus_stop (out : List Int) (c : Int) : X G integer_plus_l0 (plus_st da db a out c a.length) = some (.x 0, plus_end da a out c) := by
  have e1 : decide ((a.length : Int) < (a.length : Int)) = false := lt_f (by omega)
  simp -implicitDefEqProofs (maxSteps := 10000000) only [integer_plus_l0, plus_st, plus_end, go_sem, iv, bv, e1, refsL_I, reduceCtorEq, ↓reduceIte, Nat.reduceEqDiff]

theorem plus_go (hra : Rw da a) (hrb : Rw db b) (ha : Dig a) (hb : Dig b) (hl : a.length < 4611686018427387904) (hlb : b.length ≤ a.length) (out : List Int) (c : Int) (i : Nat) (hc : 0 ≤ c ∧ c ≤ 1) (hi : i < a.length) (ho : out.length = a.length + 1) :
    ∃ d c', (0 ≤ d ∧ d < 1000000000) ∧ (0 ≤ c' ∧ c' ≤ 1) ∧ d + 1000000000 * c' = a.getD i 0 + b.getD i 0 + c ∧ X G integer_plus_l0 (plus_st da db a out c i) = some (.n, plus_st da db a (out.set i d) c' ((i + 1 : Nat) : Int)) := by
  obtain ⟨a1, a2⟩ := ha.getD i
  obtain ⟨b1, b2⟩ := hb.getD i
  have e1 : decide ((i : Int) < (a.length : Int)) = true := lt_t (by omega)
  have e2 := hra.ixn (j := i) (by omega)
  have e3 := fun hp => ldv hp a (j := i) (by omega)
  have e4 : w64 (a.getD i 0 + c) = a.getD i 0 + c := w64_id (by omega) (by omega)
  have e9 : w64 ((i : Int) + 1) = ((i + 1 : Nat) : Int) := by rw [w64_id (by omega) (by omega)]; omega
  have g1 : (0 : Int) ≤ (i : Int) ∧ (i : Int) < ((a.length + 1 : Nat) : Int) := by omega
  have g2 := fun v => stcells_I (l := out) (off := i) (v := v) (by omega)
  by_cases h1 : i < b.length
  · have f1 : decide ((i : Int) < (b.length : Int)) = true := lt_t (by omega)
    have f2 := hrb.ixn (j := i) (by omega)
    have f3 := fun hp => ldv hp b (j := i) (by omega)
    have f4 : w64 (a.getD i 0 + c + b.getD i 0) = a.getD i 0 + c + b.getD i 0 := w64_id (by omega) (by omega)
    by_cases h2 : a.getD i 0 + c + b.getD i 0 ≥ 1000000000
    · have k1 : decide (a.getD i 0 + c + b.getD i 0 ≥ 1000000000) = true := ge_t h2
      have k2 : w64 (a.getD i 0 + c + b.getD i 0 - 1000000000) = a.getD i 0 + c + b.getD i 0 - 1000000000 := w64_id (by omega) (by omega)
      refine ⟨a.getD i 0 + c + b.getD i 0 - 1000000000, 1, by omega, by omega, by omega, ?_⟩
      simp -implicitDefEqProofs (maxSteps := 10000000) only [integer_plus_l0, plus_st, go_sem, iv, bv, e1, e2, e3, e4, e9, f1, f2, f3, f4, k1, k2, g1, g2, hra.len, hrb.len, allD, refsL_I, cellsI_length, allD_I, reduceCtorEq, ↓reduceIte, Nat.reduceEqDiff]
    · have k1 : decide (a.getD i 0 + c + b.getD i 0 ≥ 1000000000) = false := ge_f h2
      refine ⟨a.getD i 0 + c + b.getD i 0, 0, by omega, by omega, by omega, ?_⟩
      simp -implicitDefEqProofs (maxSteps := 10000000) only [integer_plus_l0, plus_st, go_sem, iv, bv, e1, e2, e3, e4, e9, f1, f2, f3, f4, k1, g1, g2, hra.len, hrb.len, allD, refsL_I, cellsI_length, allD_I, reduceCtorEq, ↓reduceIte, Nat.reduceEqDiff]
  · have f1 : decide ((i : Int) < (b.length : Int)) = false := lt_f (by omega)
    have f3 : b.getD i 0 = 0 := by rw [List.getD_eq_getElem?_getD, List.getElem?_eq_none (by omega)]; rfl
    by_cases h2 : a.getD i 0 + c ≥ 1000000000
    · have k1 : decide (a.getD i 0 + c ≥ 1000000000) = true := ge_t h2
      have k2 : w64 (a.getD i 0 + c - 1000000000) = a.getD i 0 + c - 1000000000 := w64_id (by omega) (by omega)
      refine ⟨a.getD i 0 + c - 1000000000, 1, by omega, by omega, by omega, ?_⟩
      simp -implicitDefEqProofs (maxSteps := 10000000) only [integer_plus_l0, plus_st, go_sem, iv, bv, e1, e2, e3, e4, e9, f1, k1, k2, g1, g2, hra.len, hrb.len, allD, refsL_I, cellsI_length, allD_I, reduceCtorEq, ↓reduceIte, Nat.reduceEqDiff]
    · have k1 : decide (a.getD i 0 + c ≥ 1000000000) = false := ge_f h2
      refine ⟨a.getD i 0 + c, 0, by omega, by omega, by omega, ?_⟩
      simp -implicitDefEqProofs (maxSteps := 10000000) only [integer_plus_l0, plus_st, go_sem, iv, bv, e1, e2, e3, e4, e9, f1, k1, g1, g2, hra.len, hrb.len, allD, refsL_I, cellsI_length, allD_I, reduceCtorEq, ↓reduceIte, Nat.reduceEqDiff]

theorem plus_loop (hra : Rw da a) (hrb : Rw db b) (ha : Dig a) (hb : Dig b) (hl : a.length < 4611686018427387904) (hlb : b.length ≤ a.length) : ∀ (k i : Nat) (out : List Int) (c : Int), i + k = a.length → (0 ≤ c ∧ c ≤ 1) → out.length = a.length + 1 → Dig out → out.getD a.length 0 = 0 →
    val (out.take i) + (1000000000 : Int) ^ i * c = val (a.take i) + val (b.take i) →
    ∃ out' c', X G (.loop integer_plus_l0) (plus_st da db a out c i) = some (.x 0, plus_end da a out' c') ∧ (0 ≤ c' ∧ c' ≤ 1) ∧ out'.length = a.length + 1 ∧ Dig out' ∧ out'.getD a.length 0 = 0 ∧ val (out'.take a.length) + (1000000000 : Int) ^ a.length * c' = val a + val b
  | 0, i, out, c, hi, hc, ho, hd, hz, hv => by
    obtain rfl : i = a.length := by omega
    refine ⟨out, c, ?_, hc, ho, hd, hz, ?_⟩
    · rw [X_loop, plus_stop]; rfl
    · rw [hv, List.take_length, List.take_of_length_le hlb]
  | k + 1, i, out, c, hi, hc, ho, hd, hz, hv => by
    obtain ⟨d, c', hd', hc', hs, hx⟩ := plus_go da db a b hra hrb ha hb hl hlb out c i hc (by omega) ho
    obtain ⟨out', c2, h1, h2⟩ := plus_loop hra hrb ha hb hl hlb k (i + 1) (out.set i d) c' (by omega) hc' (by simpa using ho) (hd.set hd') (by rw [getD_set_ne d (by omega)]; exact hz) (by
      rw [val_take_set d (by omega), val_take_getD a, val_take_getD b, Int.pow_succ]
      grind)
    refine ⟨out', c2, ?_, h2⟩
    rw [X_loop, hx]
    exact h1
end

theorem plus_ord {da db : D} {a b : List Int} (hra : Rw da a) (hrb : Rw db b) (ha : Dig a) (hb : Dig b) (hl : (a.length + 1) * 8 ≤ 140737488351232) (hlb : b.length ≤ a.length) :
    ∃ out, callX G n_integer_plus [da, db] = some (.own 1 (a.length + 1) (out.map iv)) ∧ out.length = a.length + 1 ∧ Dig out ∧ val out = val a + val b := by
  obtain ⟨out, c, h1, h2, h3, h4, h5, h6⟩ := plus_loop da db a b hra hrb ha hb (by omega) hlb a.length 0 (List.replicate (a.length + 1) 0) 0 (by omega) (by omega) (by simp) (Dig.replicate _) (by simp [List.getD]) (by simp [val])
  refine ⟨out.set a.length c, ?_, by simpa using h3, h4.set (by omega), ?_⟩
  · rw [callX_eq (cf := integer_plus) rfl]
    simp only [plus_st, plus_end, nc0] at h1
    have e1 : decide ((a.length : Int) < (b.length : Int)) = false := lt_f (by omega)
    have e2 : w64 ((a.length : Int) + 1) = ((a.length + 1 : Nat) : Int) := by rw [w64_id (by omega) (by omega)]; omega
    have e3 : (0 : Int) ≤ ((a.length + 1 : Nat) : Int) ∧ ((a.length + 1 : Nat) : Int) * ((8 : Nat) : Int) ≤ ((bound : Nat) : Int) := by simp only [bound]; omega
    have e4 : (0 : Int) ≤ ((a.length : Nat) : Int) ∧ (a.length : Int) < ((a.length + 1 : Nat) : Int) := by omega
    have g2 := fun v => stcells_I (l := out) (off := a.length) (v := v) (by omega)
    simp -implicitDefEqProofs (maxSteps := 10000000) only [integer_plus, go_sem, iv, bv, h1, e1, e2, e3, e4, g2, rep_I, hra.len, hrb.len, refsL_I, cellsI_length, allD_I, reduceCtorEq, ↓reduceIte, Nat.reduceEqDiff]
  · have := val_take_set c (l := out) (i := a.length) (by omega)
    rw [List.take_of_length_le (by simp; omega)] at this
    rw [this]; exact h6
theorem plus_swap {da db : D} {a b : List Int} (hra : Rw da a) (hrb : Rw db b) (ha : Dig a) (hb : Dig b) (hl : (a.length + 1) * 8 ≤ 140737488351232) (hlb : b.length < a.length) :
    ∃ out, callX G n_integer_plus [db, da] = some (.own 1 (a.length + 1) (out.map iv)) ∧ out.length = a.length + 1 ∧ Dig out ∧ val out = val a + val b := by
  obtain ⟨out, c, h1, h2, h3, h4, h5, h6⟩ := plus_loop da db a b hra hrb ha hb (by omega) (by omega) a.length 0 (List.replicate (a.length + 1) 0) 0 (by omega) (by omega) (by simp) (Dig.replicate _) (by simp [List.getD]) (by simp [val])
  refine ⟨out.set a.length c, ?_, by simpa using h3, h4.set (by omega), ?_⟩
  · rw [callX_eq (cf := integer_plus) rfl]
    simp only [plus_st, plus_end, nc0] at h1
    have e1 : decide ((b.length : Int) < (a.length : Int)) = true := lt_t (by omega)
    have e2 : w64 ((a.length : Int) + 1) = ((a.length + 1 : Nat) : Int) := by rw [w64_id (by omega) (by omega)]; omega
    have e3 : (0 : Int) ≤ ((a.length + 1 : Nat) : Int) ∧ ((a.length + 1 : Nat) : Int) * ((8 : Nat) : Int) ≤ ((bound : Nat) : Int) := by simp only [bound]; omega
    have e4 : (0 : Int) ≤ ((a.length : Nat) : Int) ∧ (a.length : Int) < ((a.length + 1 : Nat) : Int) := by omega
    have g2 := fun v => stcells_I (l := out) (off := a.length) (v := v) (by omega)
    simp -implicitDefEqProofs (maxSteps := 10000000) only [integer_plus, go_sem, iv, bv, h1, e1, e2, e3, e4, g2, rep_I, hra.len, hrb.len, refsL_I, cellsI_length, allD_I, reduceCtorEq, ↓reduceIte, Nat.reduceEqDiff]
  · have := val_take_set c (l := out) (i := a.length) (by omega)
    rw [List.take_of_length_le (by simp; omega)] at this
    rw [this]; exact h6
theorem plus_spec {da db : D} {a b : List Int} (hra : Rw da a) (hrb : Rw db b) (ha : Dig a) (hb : Dig b) (hl : (max a.length b.length + 1) * 8 ≤ 140737488351232) :
    ∃ out, callX G n_integer_plus [da, db] = some (.own 1 out.length (out.map iv)) ∧ out.length = max a.length b.length + 1 ∧ Dig out ∧ val out = val a + val b := by
  by_cases h : b.length ≤ a.length
  · obtain ⟨out, h1, h2, h3, h4⟩ := plus_ord hra hrb ha hb (by omega) h
    exact ⟨out, by rw [h2]; exact h1, by omega, h3, h4⟩
  · obtain ⟨out, h1, h2, h3, h4⟩ := plus_swap hrb hra hb ha (by omega) (by omega)
    exact ⟨out, by rw [h2]; exact h1, by omega, h3, by omega⟩
end Go.AM

/- integer.minus -/
namespace Go.AM
open Go Go.RowKit
variable [Its]

section
variable (db : D) (b : List Int)
def minus_st (out : List Int) (i : Int) : St :=
  ⟨upd (upd (upd (upd fr0 15 (.d (.v (.int .i64 i)))) 14 (.d (.v (.int .i64 out.length)))) 5 (.own [9] out.length)) 1 (.d db),
   hupd hp0 [9] ⟨1, out.length, cellsI out, false⟩, []⟩
def minus_end (out : List Int) : St := ⟨upd fr0 5 (.own [9] out.length), hupd hp0 [9] ⟨1, out.length, cellsI out, false⟩, []⟩

theorem minus_stop (out : List Int) : X G integer_minus_l0 (minus_st db out out.length) = some (.x 0, minus_end out) := by
  have e1 : decide ((out.length : Int) < (out.length : Int)) = false := lt_f (by omega)
  simp -implicitDefEqProofs (maxSteps := 10000000) only [integer_minus_l0, minus_st, minus_end, go_sem, iv, bv, e1, refsL_I, reduceCtorEq, ↓reduceIte, Nat.reduceEqDiff]

/-- The i-th place without a loan. -/
theorem minus_plain (hr : Rw db b) (hb : Dig b) (out : List Int) (i : Nat) (hl : out.length < 4611686018427387904) (hi : i < out.length) (ho : -1 ≤ out.getD i 0 ∧ out.getD i 0 < 1000000000) (hge : 0 ≤ out.getD i 0 - b.getD i 0) :
    X G integer_minus_l0 (minus_st db out i) = some (.n, minus_st db (out.set i (out.getD i 0 - b.getD i 0)) ((i + 1 : Nat) : Int)) := by
  obtain ⟨b1, b2⟩ := hb.getD i
  have e1 : decide ((i : Int) < (out.length : Int)) = true := lt_t (by omega)
  have e9 : w64 ((i : Int) + 1) = ((i + 1 : Nat) : Int) := by rw [w64_id (by omega) (by omega)]; omega
  have g1 : (0 : Int) ≤ (i : Int) ∧ (i : Int) < (out.length : Int) := by omega
  have g2 := fun v => stcells_I (l := out) (off := i) (v := v) hi
  have g3 := ldcells_I (l := out) (off := i) hi
  have g4 : ldcells none i (cellsI (out.set i (out.getD i 0 - b.getD i 0))) = some (.d (.v (.int .i64 (out.getD i 0 - b.getD i 0)))) := by
    rw [ldcells_I (by simpa using hi)]
    simp [List.getD, hi]
  have e4 : w64 (out.getD i 0 - b.getD i 0) = out.getD i 0 - b.getD i 0 := w64_id (by omega) (by omega)
  have e5 : decide (out.getD i 0 - b.getD i 0 < 0) = false := lt_f (by omega)
  by_cases h1 : i < b.length
  · have f1 : decide ((i : Int) < (b.length : Int)) = true := lt_t (by omega)
    have f2 := hr.ixn (j := i) (by omega)
    have f3 := fun hp => ldv hp b (j := i) (by omega)
    simp -implicitDefEqProofs (maxSteps := 10000000) only [integer_minus_l0, minus_st, go_sem, iv, bv, e1, e4, e5, e9, f1, f2, f3, g1, g2, g3, g4, hr.len, refsL_I, cellsI_length, allD_I, allD, List.length_set, reduceCtorEq, ↓reduceIte, Nat.reduceEqDiff]
  · have f1 : decide ((i : Int) < (b.length : Int)) = false := lt_f (by omega)
    have f3 : b.getD i 0 = 0 := by rw [List.getD_eq_getElem?_getD, List.getElem?_eq_none (by omega)]; rfl
    have e6 : out.set i (out.getD i 0 - b.getD i 0) = out := by
      rw [f3, Int.sub_zero]
      apply List.ext_getElem?
      intro j
      rw [List.getElem?_set]
      split
      · rename_i h; subst h; simp [List.getD, hi]
      · rfl
    have e5 : decide (out.getD i 0 < 0) = false := lt_f (by omega)
    rw [e6]
    simp -implicitDefEqProofs (maxSteps := 10000000) only [integer_minus_l0, minus_st, go_sem, iv, bv, e1, e5, e9, f1, g1, g2, g3, hr.len, refsL_I, cellsI_length, allD_I, allD, reduceCtorEq, ↓reduceIte, Nat.reduceEqDiff]

/-- The i-th place with a loan. -/
theorem minus_loan (hr : Rw db b) (hb : Dig b) (out : List Int) (i : Nat) (hl : out.length < 4611686018427387904) (hi : i + 1 < out.length) (ho : -1 ≤ out.getD i 0 ∧ out.getD i 0 < 1000000000) (hn : 0 ≤ out.getD (i + 1) 0 ∧ out.getD (i + 1) 0 < 1000000000) (hlt : out.getD i 0 - b.getD i 0 < 0) :
    X G integer_minus_l0 (minus_st db out i) = some (.n, minus_st db ((out.set i (out.getD i 0 - b.getD i 0 + 1000000000)).set (i + 1) (out.getD (i + 1) 0 - 1)) ((i + 1 : Nat) : Int)) := by
  obtain ⟨b1, b2⟩ := hb.getD i
  have e1 : decide ((i : Int) < (out.length : Int)) = true := lt_t (by omega)
  have e9 : w64 ((i : Int) + 1) = ((i + 1 : Nat) : Int) := by rw [w64_id (by omega) (by omega)]; omega
  have g1 : (0 : Int) ≤ (i : Int) ∧ (i : Int) < (out.length : Int) := by omega
  have g1' : (0 : Int) ≤ ((i + 1 : Nat) : Int) ∧ ((i + 1 : Nat) : Int) < (out.length : Int) := by omega
  have g3 := ldcells_I (l := out) (off := i) (by omega)
  have e4 : w64 (out.getD i 0 - b.getD i 0) = out.getD i 0 - b.getD i 0 := w64_id (by omega) (by omega)
  have e6 : w64 (out.getD i 0 - b.getD i 0 + 1000000000) = out.getD i 0 - b.getD i 0 + 1000000000 := w64_id (by omega) (by omega)
  have e7 : w64 (out.getD (i + 1) 0 - 1) = out.getD (i + 1) 0 - 1 := w64_id (by omega) (by omega)
  have g5 : ∀ v : Int, stcells i [A.d (.v (.int .i64 v))] (cellsI out) = some (cellsI (out.set i v)) := fun v => stcells_I (by omega)
  have g6 : ∀ v u : Int, stcells i [A.d (.v (.int .i64 v))] (cellsI (out.set i u)) = some (cellsI (out.set i v)) := fun v u => by
    rw [stcells_I (by simp; omega), List.set_set]
  have g7 : ∀ u : Int, ldcells none i (cellsI (out.set i u)) = some (.d (.v (.int .i64 u))) := fun u => by
    rw [ldcells_I (by simp; omega)]
    simp [List.getD, (by omega : i < out.length)]
  have g8 : ∀ u : Int, ldcells none (i + 1) (cellsI (out.set i u)) = some (.d (.v (.int .i64 (out.getD (i + 1) 0)))) := fun u => by
    rw [ldcells_I (by simp; omega), getD_set_ne u (by omega)]
  have g9 : ∀ v u : Int, stcells (i + 1) [A.d (.v (.int .i64 v))] (cellsI (out.set i u)) = some (cellsI ((out.set i u).set (i + 1) v)) := fun v u => stcells_I (by simp; omega)
  by_cases h1 : i < b.length
  · have f1 : decide ((i : Int) < (b.length : Int)) = true := lt_t (by omega)
    have f2 := hr.ixn (j := i) (by omega)
    have f3 := fun hp => ldv hp b (j := i) (by omega)
    have e5 : decide (out.getD i 0 - b.getD i 0 < 0) = true := lt_t (by omega)
    simp -implicitDefEqProofs (maxSteps := 10000000) only [integer_minus_l0, minus_st, go_sem, iv, bv, e1, e4, e5, e6, e7, e9, f1, f2, f3, g1, g1', g3, g5, g6, g7, g8, g9, hr.len, refsL_I, cellsI_length, allD_I, allD, List.length_set, reduceCtorEq, ↓reduceIte, Nat.reduceEqDiff]
  · have f1 : decide ((i : Int) < (b.length : Int)) = false := lt_f (by omega)
    have f3 : b.getD i 0 = 0 := by rw [List.getD_eq_getElem?_getD, List.getElem?_eq_none (by omega)]; rfl
    rw [f3, Int.sub_zero] at e6 hlt ⊢
    have e5 : decide (out.getD i 0 < 0) = true := lt_t (by omega)
    simp -implicitDefEqProofs (maxSteps := 10000000) only [integer_minus_l0, minus_st, go_sem, iv, bv, e1, e5, e6, e7, e9, f1, g1, g1', g3, g5, g6, g7, g8, g9, hr.len, refsL_I, cellsI_length, allD_I, allD, List.length_set, reduceCtorEq, ↓reduceIte, Nat.reduceEqDiff]

theorem minus_loop (hr : Rw db b) (hb : Dig b) (a : Int) (hba : val b ≤ a) : ∀ (k i : Nat) (out : List Int), out.length < 4611686018427387904 → b.length ≤ out.length → i + k = out.length → Dig (out.take i) → (i < out.length → -1 ≤ out.getD i 0 ∧ out.getD i 0 < 1000000000) → Dig (out.drop (i + 1)) →
    val out = a - val (b.take i) → ∃ out', X G (.loop integer_minus_l0) (minus_st db out i) = some (.x 0, minus_end out') ∧ out'.length = out.length ∧ Dig out' ∧ val out' = a - val b
  | 0, i, out, hl, hbl, hi, h1, h2, h3, hv => by
    obtain rfl : i = out.length := by omega
    refine ⟨out, ?_, rfl, ?_, ?_⟩
    · rw [X_loop, minus_stop]; rfl
    · rw [List.take_length] at h1; exact h1
    · rw [hv, List.take_of_length_le hbl]
  | k + 1, i, out, hl, hbl, hi, h1, h2, h3, hv => by
    have hi' : i < out.length := by omega
    have ho := h2 hi'
    obtain ⟨b1, b2⟩ := hb.getD i
    have hvb : val (b.take (i + 1)) = val (b.take i) + (1000000000 : Int) ^ i * b.getD i 0 := val_take_getD b i
    by_cases hge : 0 ≤ out.getD i 0 - b.getD i 0
    · have hx := minus_plain db b hr hb out i hl hi' ho hge
      obtain ⟨out', g1, g2, g3, g4⟩ := minus_loop hr hb a hba k (i + 1) (out.set i (out.getD i 0 - b.getD i 0)) (by simpa using hl) (by simpa using hbl) (by simp; omega)
        (by rw [take_succ_set _ hi', Dig.append]; exact ⟨h1, Dig.cons.2 ⟨by omega, .nil⟩⟩)
        (fun hlt => by
          rw [getD_set_ne _ (by omega)]
          have := dig_getD_drop h3 (Nat.le_refl _)
          omega)
        (by rw [drop_set_lt _ _ (by omega), show i + 1 + 1 = 1 + (i + 1) by omega, ← List.drop_drop]
            rw [List.drop_drop, show 1 + (i + 1) = (i + 1) + 1 by omega]
            have := h3.drop 1
            rw [List.drop_drop] at this
            simpa [Nat.add_comm, Nat.add_left_comm] using this)
        (by rw [val_set _ _ _ hi', hv, hvb]; grind)
      refine ⟨out', ?_, by simpa using g2, g3, g4⟩
      rw [X_loop, hx]
      exact g1
    · -- a loan: there is a further place
      have hnext : i + 1 < out.length := by
        rcases Nat.lt_or_ge (i + 1) out.length with h | h
        · exact h
        · exfalso
          have hlen : out.length = i + 1 := by omega
          have e1 : val out = val (out.take i) + (1000000000 : Int) ^ i * out.getD i 0 := by
            have := val_take_getD out i
            rw [List.take_of_length_le (by omega)] at this
            exact this
          have e2 := val_lt h1
          rw [List.length_take, Nat.min_eq_left (by omega)] at e2
          have e3 := val_take_le hb (i + 1)
          have e4 : (1000000000 : Int) ^ i * (out.getD i 0 - b.getD i 0) ≤ (1000000000 : Int) ^ i * (-1) := Int.mul_le_mul_of_nonneg_left (by omega) (Int.pow_nonneg (by omega))
          grind
      have hnx := dig_getD_drop h3 (Nat.le_refl _)
      have hx := minus_loan db b hr hb out i hl hnext ho hnx (by omega)
      obtain ⟨out', g1, g2, g3, g4⟩ := minus_loop hr hb a hba k (i + 1) ((out.set i (out.getD i 0 - b.getD i 0 + 1000000000)).set (i + 1) (out.getD (i + 1) 0 - 1)) (by simpa using hl) (by simpa using hbl) (by simp; omega)
        (by rw [take_set_ge _ _ (Nat.le_refl _), take_succ_set _ hi', Dig.append]; exact ⟨h1, Dig.cons.2 ⟨by omega, .nil⟩⟩)
        (fun hlt => by
          have : ((out.set i (out.getD i 0 - b.getD i 0 + 1000000000)).set (i + 1) (out.getD (i + 1) 0 - 1)).getD (i + 1) 0 = out.getD (i + 1) 0 - 1 := by
            simp [List.getD, hnext]
          rw [this]; omega)
        (by rw [drop_set_lt _ _ (by omega), drop_set_lt _ _ (by omega)]
            have := h3.drop 1
            rw [List.drop_drop] at this
            simpa [Nat.add_comm, Nat.add_left_comm] using this)
        (by
          rw [val_set _ _ _ (by simpa using hnext), getD_set_ne _ (by omega), val_set _ _ _ hi', hv, hvb, Int.pow_succ]
          grind)
      refine ⟨out', ?_, by simpa using g2, g3, g4⟩
      rw [X_loop, hx]
      exact g1
end

theorem minus_spec {da db : D} {a b : List Int} (hra : Rw da a) (hrb : Rw db b) (ha : Dig a) (hb : Dig b) (hl : a.length * 8 ≤ 140737488351232) (hbl : b.length ≤ a.length) (hle : val b ≤ val a) :
    ∃ out, callX G n_integer_minus [da, db] = some (.own 1 out.length (out.map iv)) ∧ out.length = a.length ∧ Dig out ∧ val out = val a - val b := by
  obtain ⟨out, h1, h2, h3, h4⟩ := minus_loop db b hrb hb (val a) hle a.length 0 a (by omega) hbl (by omega) .nil (fun h => by have := ha.getD 0; omega) (ha.drop 1) (by simp [val])
  refine ⟨out, ?_, h2, h3, h4⟩
  rw [callX_eq (cf := integer_minus) rfl]
  simp only [minus_st, minus_end, nc0, h2] at h1
  have e3 : (0 : Int) ≤ (a.length : Int) ∧ (a.length : Int) * ((8 : Nat) : Int) ≤ ((bound : Nat) : Int) := by simp only [bound]; omega
  have e4 := fun h hk => cpy_I (h := h) (k := [9]) (a := a) (out := List.replicate a.length 0) (n := a.length) hk rfl (by simp)
  have e5 := e4 (hupd hp0 [9] ⟨1, a.length, cellsI (List.replicate a.length 0), false⟩) rfl
  simp -implicitDefEqProofs (maxSteps := 10000000) only [integer_minus, go_sem, iv, bv, h1, h2, e3, e5, rep_I, hra.len, hra.src, refsL_I, cellsI_length, allD_I, reduceCtorEq, ↓reduceIte, Nat.reduceEqDiff]
end Go.AM

/- cmp.Compare, integer.compare -/
namespace Go.AM
open Go Go.RowKit
variable [Its]

theorem bne_self (x : Int) : (x != x) = false := by
  have _its : Its := inferInstance
  simp
theorem isNaN_spec (x : Int) : callX G n_cmp_isNaN_int [iv x] = some (.d (bv false)) := by
  rw [callX_eq (cf := cmp_isNaN_int) rfl]
  simp -implicitDefEqProofs (maxSteps := 10000000) only [cmp_isNaN_int, go_sem, iv, bv, bne_self, reduceCtorEq, ↓reduceIte, Nat.reduceEqDiff]
theorem cmpCompare_spec (x y : Int) : callX G n_cmp_Compare_int [iv x, iv y] = some (.d (iv (Int.sign (x - y)))) := by
  rw [callX_eq (cf := cmp_Compare_int) rfl]
  have hx := isNaN_spec x
  have hy := isNaN_spec y
  simp only [iv, bv] at hx hy
  rcases Int.lt_trichotomy x y with h | h | h
  · have e1 : Int.sign (x - y) = -1 := Int.sign_eq_neg_one_of_neg (by omega)
    have e2 : decide (x < y) = true := lt_t h
    simp -implicitDefEqProofs (maxSteps := 10000000) only [cmp_Compare_int, go_sem, iv, bv, hx, hy, e1, e2, reduceCtorEq, ↓reduceIte, Nat.reduceEqDiff]
  · subst h
    have e1 : Int.sign (x - x) = 0 := by rw [Int.sub_self]; rfl
    have e2 : decide (x < x) = false := lt_f (by omega)
    have e3 : decide (x > x) = false := gt_f (by omega)
    simp -implicitDefEqProofs (maxSteps := 10000000) only [cmp_Compare_int, go_sem, iv, bv, hx, e1, e2, e3, reduceCtorEq, ↓reduceIte, Nat.reduceEqDiff]
  · have e1 : Int.sign (x - y) = 1 := Int.sign_eq_one_of_pos (by omega)
    have e2 : decide (x < y) = false := lt_f (by omega)
    have e3 : decide (x > y) = true := gt_t h
    simp -implicitDefEqProofs (maxSteps := 10000000) only [cmp_Compare_int, go_sem, iv, bv, hx, hy, e1, e2, e3, reduceCtorEq, ↓reduceIte, Nat.reduceEqDiff]

section
variable (da db : D) (a b : List Int)
def cmp_st (i : Int) : St := ⟨upd (upd (upd fr0 5 (.d (.v (.int .i64 i)))) 1 (.d db)) 0 (.d da), hp0, []⟩
def cmp_ret (r : Int) : St := ⟨upd fr0 4 (.d (.v (.int .i64 r))), hp0, []⟩

theorem cmp_zero : X G integer_compare_l0 (cmp_st da db (-1)) = some (.x 0, ⟨fr0, hp0, []⟩) := by
  have e1 : decide ((-1 : Int) ≥ 0) = false := rfl
  simp -implicitDefEqProofs (maxSteps := 10000000) only [integer_compare_l0, cmp_st, go_sem, iv, bv, e1, reduceCtorEq, ↓reduceIte, Nat.reduceEqDiff]
theorem cmp_eq (hra : Rw da a) (hrb : Rw db b) (j : Nat) (hl : a.length < 4611686018427387904) (ha : j < a.length) (hb : j < b.length) (h : a.getD j 0 = b.getD j 0) : X G integer_compare_l0 (cmp_st da db j) = some (.n, cmp_st da db ((j : Int) - 1)) := by
  have e1 : decide ((j : Int) ≥ 0) = true := ge_t (by omega)
  have e2 := hra.ixn ha
  have e3 := fun hp => ldv hp a ha
  have e4 := hrb.ixn hb
  have e5 := fun hp => ldv hp b hb
  have e6 : w64 ((j : Int) - 1) = (j : Int) - 1 := w64_id (by omega) (by omega)
  rw [h] at e3
  simp -implicitDefEqProofs (maxSteps := 10000000) only [integer_compare_l0, cmp_st, go_sem, iv, bv, e1, e2, e3, e4, e5, e6, bne_self, reduceCtorEq, ↓reduceIte, Nat.reduceEqDiff]
theorem cmp_ne (hra : Rw da a) (hrb : Rw db b) (j : Nat) (hl : a.length < 4611686018427387904) (ha : j < a.length) (hb : j < b.length) (h : a.getD j 0 ≠ b.getD j 0) : X G integer_compare_l0 (cmp_st da db j) = some (.r, cmp_ret (Int.sign (a.getD j 0 - b.getD j 0))) := by
  have e1 : decide ((j : Int) ≥ 0) = true := ge_t (by omega)
  have e2 := hra.ixn ha
  have e3 := fun hp => ldv hp a ha
  have e4 := hrb.ixn hb
  have e5 := fun hp => ldv hp b hb
  have e6 := cmpCompare_spec (a.getD j 0) (b.getD j 0)
  simp only [iv] at e6
  simp -implicitDefEqProofs (maxSteps := 10000000) only [integer_compare_l0, cmp_st, cmp_ret, go_sem, iv, bv, e1, e2, e3, e4, e5, e6, bne_t h, reduceCtorEq, ↓reduceIte, Nat.reduceEqDiff]

theorem sign_top {x y : Int} {j : Nat} {p q : Int} (hx : 0 ≤ x ∧ x < (1000000000 : Int) ^ j) (hy : 0 ≤ y ∧ y < (1000000000 : Int) ^ j) (h : p ≠ q) : Int.sign (x + (1000000000 : Int) ^ j * p - (y + (1000000000 : Int) ^ j * q)) = Int.sign (p - q) := by
  have _its : Its := inferInstance
  rcases Int.lt_or_gt_of_ne h with h | h
  · have e : (1000000000 : Int) ^ j * p ≤ (1000000000 : Int) ^ j * (q - 1) := Int.mul_le_mul_of_nonneg_left (by omega) (by omega)
    rw [Int.sign_eq_neg_one_of_neg (by omega : p - q < 0), Int.sign_eq_neg_one_of_neg (by grind)]
  · have e : (1000000000 : Int) ^ j * q ≤ (1000000000 : Int) ^ j * (p - 1) := Int.mul_le_mul_of_nonneg_left (by omega) (by omega)
    rw [Int.sign_eq_one_of_pos (by omega : 0 < p - q), Int.sign_eq_one_of_pos (by grind)]

theorem val_take_bounds {l : List Int} (h : Dig l) {n : Nat} (hn : n ≤ l.length) : 0 ≤ val (l.take n) ∧ val (l.take n) < (1000000000 : Int) ^ n := by
  have _its : Its := inferInstance
  refine ⟨val_nonneg (h.take n), ?_⟩
  have := val_lt (h.take n)
  rwa [List.length_take, Nat.min_eq_left hn] at this

theorem cmp_loop (hra : Rw da a) (hrb : Rw db b) (ha : Dig a) (hb : Dig b) (hl : a.length < 4611686018427387904) : ∀ j : Nat, j ≤ a.length → j ≤ b.length →
    X G (.loop integer_compare_l0) (cmp_st da db ((j : Int) - 1)) = if val (a.take j) = val (b.take j) then some (.x 0, ⟨fr0, hp0, []⟩) else some (.r, cmp_ret (Int.sign (val (a.take j) - val (b.take j))))
  | 0, _, _ => by
    rw [X_loop, show ((0 : Nat) : Int) - 1 = -1 from rfl, cmp_zero]
    simp [val]
  | j + 1, h1, h2 => by
    rw [X_loop, show ((j + 1 : Nat) : Int) - 1 = (j : Int) by omega, val_take_getD a, val_take_getD b]
    obtain ⟨xa, ya⟩ := val_take_bounds ha (n := j) (by omega)
    obtain ⟨xb, yb⟩ := val_take_bounds hb (n := j) (by omega)
    by_cases h : a.getD j 0 = b.getD j 0
    · rw [cmp_eq da db a b hra hrb j hl (by omega) (by omega) h, h]
      simp only [Option.bind_some, ex_n_n, if_true]
      rw [cmp_loop hra hrb ha hb hl j (by omega) (by omega)]
      by_cases h3 : val (a.take j) = val (b.take j)
      · rw [if_pos h3, if_pos (by rw [h3])]
      · rw [if_neg h3, if_neg (by omega), show val (a.take j) + (1000000000 : Int) ^ j * b.getD j 0 - (val (b.take j) + (1000000000 : Int) ^ j * b.getD j 0) = val (a.take j) - val (b.take j) by omega]
    · rw [cmp_ne da db a b hra hrb j hl (by omega) (by omega) h]
      have hs := sign_top ⟨xa, ya⟩ ⟨xb, yb⟩ h
      have hne : ¬ (val (a.take j) + (1000000000 : Int) ^ j * a.getD j 0 = val (b.take j) + (1000000000 : Int) ^ j * b.getD j 0) := by
        intro he
        rw [he, Int.sub_self] at hs
        have : a.getD j 0 - b.getD j 0 = 0 := Int.sign_eq_zero_iff_zero.1 hs.symm
        omega
      rw [if_neg hne, hs]
      rfl
end

theorem top_ge {l : List Int} (hd : Dig l) (ht : Top l) (h : l ≠ []) : (1000000000 : Int) ^ (l.length - 1) ≤ val l := by
  have _its : Its := inferInstance
  have hlen : 0 < l.length := List.length_pos_iff.2 h
  have h1 := val_take_getD l (l.length - 1)
  rw [show l.length - 1 + 1 = l.length by omega, List.take_length] at h1
  have h2 := ht h
  have h3 : l.getD (l.length - 1) 0 = l.getLast h := by
    rw [List.getLast_eq_getElem, List.getD_eq_getElem?_getD, List.getElem?_eq_getElem (by omega)]; rfl
  have h4 := hd.getD (l.length - 1)
  have h5 := val_nonneg (hd.take (l.length - 1))
  have h6 : (1000000000 : Int) ^ (l.length - 1) * 1 ≤ (1000000000 : Int) ^ (l.length - 1) * l.getD (l.length - 1) 0 := Int.mul_le_mul_of_nonneg_left (by omega) (Int.pow_nonneg (by omega))
  omega
theorem val_lt_of_length {a b : List Int} (ha : Dig a) (hb : Dig b) (hbt : Top b) (h : a.length < b.length) : val a < val b := by
  have h1 := val_lt ha
  have h2 := top_ge hb hbt (by rintro rfl; simp at h)
  have h3 : (1000000000 : Int) ^ a.length ≤ (1000000000 : Int) ^ (b.length - 1) := pow_mono (by omega)
  omega

theorem compare_spec {da db : D} {a b : List Int} (hra : Rw da a) (hrb : Rw db b) (ha : Dig a) (hb : Dig b) (hat : Top a) (hbt : Top b) (hla : a.length < 4611686018427387904) (hlb : b.length < 4611686018427387904) :
    callX G n_integer_compare [da, db] = some (.d (iv (Int.sign (val a - val b)))) := by
  rw [callX_eq (cf := integer_compare) rfl]
  by_cases h : a.length = b.length
  · have e1 : (((a.length : Int)) != (b.length : Int)) = false := bne_f (by omega)
    have e2 : w64 ((a.length : Int) - 1) = (a.length : Int) - 1 := w64_id (by omega) (by omega)
    have hlp := cmp_loop da db a b hra hrb ha hb hla a.length (Nat.le_refl _) (by omega)
    rw [List.take_length, h, List.take_length] at hlp
    rw [← h] at hlp
    simp only [cmp_st, cmp_ret] at hlp
    by_cases hv : val a = val b
    · rw [if_pos hv] at hlp
      rw [hv, Int.sub_self]
      simp -implicitDefEqProofs (maxSteps := 10000000) only [integer_compare, go_sem, iv, bv, hra.len, hrb.len, e1, e2, hlp, reduceCtorEq, ↓reduceIte, Nat.reduceEqDiff]
      rfl
    · rw [if_neg hv] at hlp
      simp -implicitDefEqProofs (maxSteps := 10000000) only [integer_compare, go_sem, iv, bv, hra.len, hrb.len, e1, e2, hlp, reduceCtorEq, ↓reduceIte, Nat.reduceEqDiff]
  · have e1 : (((a.length : Int)) != (b.length : Int)) = true := bne_t (by omega)
    have e2 := cmpCompare_spec (a.length : Int) (b.length : Int)
    simp only [iv] at e2
    have e3 : Int.sign ((a.length : Int) - (b.length : Int)) = Int.sign (val a - val b) := by
      rcases Nat.lt_or_gt_of_ne h with h | h
      · have := val_lt_of_length ha hb hbt h
        rw [Int.sign_eq_neg_one_of_neg (by omega), Int.sign_eq_neg_one_of_neg (by omega)]
      · have := val_lt_of_length hb ha hat h
        rw [Int.sign_eq_one_of_pos (by omega), Int.sign_eq_one_of_pos (by omega)]
    rw [e3] at e2
    simp -implicitDefEqProofs (maxSteps := 10000000) only [integer_compare, go_sem, iv, bv, hra.len, hrb.len, e1, e2, reduceCtorEq, ↓reduceIte, Nat.reduceEqDiff]
end Go.AM

/- integer.Add, Neg, Sub, Compare, Sign -/
namespace Go.AM
open Go Go.RowKit
variable [Its]

theorem Add_spec {x y : Int} (hx : nd x ≤ 1000000000000) (hy : nd y ≤ 1000000000000) : callX G n_integer_Add [encI x, encI y] = some (.d (encI (x + y))) := by
  rw [callX_eq (cf := integer_Add) rfl]
  have hx' : (digs x.natAbs).length ≤ 1000000000000 := hx
  have hy' : (digs y.natAbs).length ≤ 1000000000000 := hy
  have dx := digs_dig x.natAbs
  have dy := digs_dig y.natAbs
  have vx := val_dabs x
  have vy := val_dabs y
  by_cases hs : decide (x < 0) = decide (y < 0)
  · obtain ⟨out, g1, g2, g3, g4⟩ := plus_spec (Rw.dg _) (Rw.dg _) dx dy (by omega)
    have g5 := of_spec (decide (x < 0)) (Rw.row out) (by omega) g3
    have e1 : (decide (x < 0) == decide (y < 0)) = true := by rw [hs]; simp
    have e2 : sgn (decide (x < 0)) (val out) = x + y := by
      rw [g4, vx, vy]
      by_cases h : x < 0
      · have h2 : y < 0 := by simpa [h] using hs
        simp [sgn, h]; omega
      · have h2 : ¬ y < 0 := by simpa [h] using hs
        simp [sgn, h]; omega
    rw [e2] at g5
    simp only [rowI, bv] at g5
    simp -implicitDefEqProofs (maxSteps := 10000000) only [integer_Add, encI, go_sem, stcells, ldcells, iv, bv, e1, g1, g5, reduceCtorEq, ↓reduceIte, Nat.reduceEqDiff]
  · have e1 : (decide (x < 0) == decide (y < 0)) = false := by simpa using hs
    have g0 := compare_spec (Rw.dg _) (Rw.dg _) dx dy (digs_top _) (digs_top _) (by omega) (by omega)
    rw [vx, vy] at g0
    simp only [iv] at g0
    have lx := lt_pow_nd x
    have ly := lt_pow_nd y
    have len : ∀ {u v : Int}, u.natAbs ≤ v.natAbs → (digs u.natAbs).length ≤ (digs v.natAbs).length := fun h => nd_mono h
    by_cases hlt : x.natAbs < y.natAbs
    · have hsg : Int.sign ((x.natAbs : Int) - (y.natAbs : Int)) = -1 := Int.sign_eq_neg_one_of_neg (by omega)
      rw [hsg] at g0
      obtain ⟨out, g1, g2, g3, g4⟩ := minus_spec (Rw.dg _) (Rw.dg _) dy dx (by omega) (len (by omega)) (by omega)
      have g5 := of_spec (decide (y < 0)) (Rw.row out) (by omega) g3
      have e2 : sgn (decide (y < 0)) (val out) = x + y := by
        rw [g4, vx, vy]
        by_cases h : y < 0
        · have h2 : ¬ x < 0 := by intro h3; exact hs (by simp [h, h3])
          simp [sgn, h]; omega
        · have h2 : x < 0 := by
            rcases Int.lt_or_le x 0 with h3 | h3
            · exact h3
            · exact absurd (by simp [h, Int.not_lt.2 h3]) hs
          simp [sgn, h]; omega
      rw [e2] at g5
      simp only [rowI, bv] at g5
      have e3 : decide ((-1 : Int) < 0) = true := rfl
      simp -implicitDefEqProofs (maxSteps := 10000000) only [integer_Add, encI, go_sem, stcells, ldcells, iv, bv, e1, e3, g0, g1, g5, reduceCtorEq, ↓reduceIte, Nat.reduceEqDiff]
    · have e3 : decide (Int.sign ((x.natAbs : Int) - (y.natAbs : Int)) < 0) = false := by
        apply lt_f
        rcases Int.lt_or_le 0 ((x.natAbs : Int) - (y.natAbs : Int)) with h | h
        · rw [Int.sign_eq_one_of_pos h]; omega
        · rw [show (x.natAbs : Int) - (y.natAbs : Int) = 0 by omega]; exact Int.lt_irrefl 0
      obtain ⟨out, g1, g2, g3, g4⟩ := minus_spec (Rw.dg _) (Rw.dg _) dx dy (by omega) (len (by omega)) (by omega)
      have g5 := of_spec (decide (x < 0)) (Rw.row out) (by omega) g3
      have e2 : sgn (decide (x < 0)) (val out) = x + y := by
        rw [g4, vx, vy]
        by_cases h : x < 0
        · have h2 : ¬ y < 0 := by intro h3; exact hs (by simp [h, h3])
          simp [sgn, h]; omega
        · have h2 : y < 0 := by
            rcases Int.lt_or_le y 0 with h3 | h3
            · exact h3
            · exact absurd (by simp [h, Int.not_lt.2 h3]) hs
          simp [sgn, h]; omega
      rw [e2] at g5
      simp only [rowI, bv] at g5
      simp -implicitDefEqProofs (maxSteps := 10000000) only [integer_Add, encI, go_sem, stcells, ldcells, iv, bv, e1, e3, g0, g1, g5, reduceCtorEq, ↓reduceIte, Nat.reduceEqDiff]

theorem Neg_spec (x : Int) : callX G n_integer_Neg [encI x] = some (.d (encI (-x))) := by
  rw [callX_eq (cf := integer_Neg) rfl]
  have el := lenA_dg (digs x.natAbs)
  have en : (-x).natAbs = x.natAbs := Int.natAbs_neg x
  by_cases h : x < 0
  · have e1 : decide (x < 0) = true := decide_eq_true h
    have e2 : decide (-x < 0) = false := decide_eq_false (by omega)
    simp -implicitDefEqProofs (maxSteps := 10000000) only [integer_Neg, encI, go_sem, stcells, ldcells, iv, bv, e1, e2, en, el, reduceCtorEq, ↓reduceIte, Nat.reduceEqDiff]
  · have e1 : decide (x < 0) = false := decide_eq_false h
    have e3 : decide (((digs x.natAbs).length : Int) > 0) = decide (-x < 0) := by
      have := digs_length_pos (n := x.natAbs)
      by_cases h0 : x = 0
      · subst h0
        have h9 : ¬ 0 < (digs (0 : Int).natAbs).length := by rw [digs_length_pos]; simp
        rw [gt_f (by omega)]; rfl
      · have : 0 < (digs x.natAbs).length := digs_length_pos.2 (by omega)
        rw [gt_t (by omega)]
        exact (decide_eq_true (by omega)).symm
    simp -implicitDefEqProofs (maxSteps := 10000000) only [integer_Neg, encI, go_sem, stcells, ldcells, iv, bv, e1, e3, en, el, reduceCtorEq, ↓reduceIte, Nat.reduceEqDiff]

theorem Sign_spec (x : Int) : callX G n_integer_Sign [encI x] = some (.d (iv (Int.sign x))) := by
  rw [callX_eq (cf := integer_Sign) rfl]
  have el := lenA_dg (digs x.natAbs)
  rcases Int.lt_trichotomy x 0 with h | h | h
  · have e1 : decide (x < 0) = true := decide_eq_true h
    have e2 : Int.sign x = -1 := Int.sign_eq_neg_one_of_neg h
    simp -implicitDefEqProofs (maxSteps := 10000000) only [integer_Sign, encI, go_sem, stcells, ldcells, iv, bv, e1, e2, el, reduceCtorEq, ↓reduceIte, Nat.reduceEqDiff]
  · subst h
    have e1 : decide ((0 : Int) < 0) = false := rfl
    have e2 : Int.sign 0 = 0 := rfl
    have e3 : (digs (0 : Int).natAbs).length = 0 := nd_zero
    have e4 : ((0 : Int) == 0) = true := rfl
    simp -implicitDefEqProofs (maxSteps := 10000000) only [integer_Sign, encI, go_sem, stcells, ldcells, iv, bv, e1, e2, e3, e4, el, reduceCtorEq, ↓reduceIte, Nat.reduceEqDiff]
  · have e1 : decide (x < 0) = false := decide_eq_false (by omega)
    have e2 : Int.sign x = 1 := Int.sign_eq_one_of_pos h
    have e3 : 0 < (digs x.natAbs).length := digs_length_pos.2 (by omega)
    have e4 : (((digs x.natAbs).length : Int) == 0) = false := beq_f (by omega)
    simp -implicitDefEqProofs (maxSteps := 10000000) only [integer_Sign, encI, go_sem, stcells, ldcells, iv, bv, e1, e2, e4, el, reduceCtorEq, ↓reduceIte, Nat.reduceEqDiff]

end Go.AM

/- integer.divide -/
namespace Go.AM
open Go Go.RowKit

theorem encI_zero : encI 0 = .agg [bv false, .z true] := by
  have : digs (0 : Int).natAbs = [] := digs_zero
  rw [encI, this]; rfl
theorem encI_sgn_false (x : Int) : encI (sgn false x) = encI x := rfl
theorem div_uni {x y q r : Int} (h : x = q * y + r) (h0 : 0 ≤ r) (h1 : r < y) : x / y = q ∧ x % y = r := by
  subst h
  have hy : y ≠ 0 := by omega
  constructor
  · rw [Int.add_comm, Int.add_mul_ediv_right _ _ hy, Int.ediv_eq_zero_of_lt h0 h1, Int.zero_add]
  · rw [Int.add_comm, Int.add_mul_emod_self_right, Int.emod_eq_of_lt h0 h1]
theorem digs_len_mono {x y : Nat} (h : x ≤ y) : (digs x).length ≤ (digs y).length := by
  have := nd_mono (x := (x : Int)) (y := (y : Int)) (by simpa using h)
  simpa [nd] using this
theorem digs_small {x : Nat} (h : (digs x).length ≤ 2) : x < 1000000000000000000 := by
  have h1 := val_lt (digs_dig x)
  rw [val_digs] at h1
  have h2 := pow_mono h
  have h3 : (1000000000 : Int) ^ 2 = 1000000000000000000 := by decide
  omega
theorem digs_last {x : Nat} {p : Nat} (h : (digs x).length = p + 1) : 0 < (digs x).getD p 0 := by
  have ht := digs_top x
  have hd := (digs_dig x).getD p
  have hne : digs x ≠ [] := by intro h'; rw [h'] at h; simp at h
  have := ht hne
  have e : (digs x).getLast hne = (digs x).getD p 0 := by
    rw [List.getLast_eq_getElem, List.getD_eq_getElem?_getD, List.getElem?_eq_getElem (by omega)]
    simp [h]
  rw [e] at this
  omega
theorem u64_id {x : Int} (h : 0 ≤ x ∧ x < 18446744073709551616) : x % 18446744073709551616 = x := by omega
theorem div_range {x y : Int} (hx : 0 ≤ x ∧ x < 1000000000000000000) (hy : 0 < y) : (0 ≤ x / y ∧ x / y < 1000000000000000000) ∧ 0 ≤ x % y ∧ x % y < 1000000000000000000 := by
  have h1 := Int.ediv_nonneg hx.1 (Int.le_of_lt hy)
  have h2 := Int.ediv_le_self y hx.1
  have h3 := Int.emod_nonneg x (by omega : y ≠ 0)
  have h4 : x % y ≤ x := by
    have := Int.mul_ediv_add_emod x y
    have h5 := Int.mul_nonneg (Int.le_of_lt hy) h1
    generalize y * (x / y) = z at *
    omega
  generalize x / y = q at *
  generalize x % y = r at *
  omega
variable [Its]

theorem divide_spec {x y : Nat} (hy : 0 < y) (hx : (digs x).length ≤ 1000000000000) (hyl : (digs y).length ≤ 1000000000000) :
    callX G n_integer_divide [dg (digs x), dg (digs y)] = some (.d (.tup [encI ((x : Int) / (y : Int)), encI ((x : Int) % (y : Int))])) := by
  rw [callX_eq (cf := integer_divide) rfl]
  have dx := digs_dig x
  have dy := digs_dig y
  have vx := val_digs x
  have vy := val_digs y
  have t1 := two_spec (Rw.dg (digs x)) dx (by omega)
  have t2 := two_spec (Rw.dg (digs y)) dy (by omega)
  have tc := compare_spec (Rw.dg _) (Rw.dg _) dx dy (digs_top _) (digs_top _) (by omega) (by omega)
  have ly := lenA_dg (digs y)
  rw [vx, vy] at tc
  rw [vx] at t1
  rw [vy] at t2
  simp only [iv, bv] at t1 t2 tc
  by_cases hlt : x < y
  · -- less
    have q0 : (x : Int) / (y : Int) = 0 := Int.ediv_eq_zero_of_lt (by omega) (by omega)
    have r0 : (x : Int) % (y : Int) = x := Int.emod_eq_of_lt (by omega) (by omega)
    by_cases h1 : (digs x).length ≤ 2
    · by_cases h2 : (digs y).length ≤ 2
      · have s1 := digs_small h1
        rw [if_pos h1, decide_eq_true h1] at t1
        rw [if_pos h2, decide_eq_true h2] at t2
        have e1 := eqz_f (b := (y : Int)) (by omega)
        have e2 := quo_pos (a := (x : Int)) (b := (y : Int)) (by omega)
        have e3 := rem_pos (a := (x : Int)) (b := (y : Int)) (by omega)
        rw [q0] at e2 ⊢
        rw [r0] at e3 ⊢
        have e4 : w64 0 = 0 := w64_id (by omega) (by omega)
        have e5 : (0 : Int) % 18446744073709551616 = 0 := rfl
        have e6 := u64_id (x := (x : Int)) (by omega)
        have u1 := unsigned_spec false (u := 0) (by omega)
        have u2 := unsigned_spec false (u := (x : Int)) (by omega)
        rw [encI_sgn_false] at u1 u2
        simp only [bv] at u1 u2
        simp -implicitDefEqProofs (maxSteps := 10000000) only [integer_divide, encI, go_sem, stcells, ldcells, iv, bv, t1, t2, e1, e2, e3, e4, e5, e6, u1, u2, toDs, reduceCtorEq, ↓reduceIte, Nat.reduceEqDiff]
      · rw [if_pos h1, decide_eq_true h1] at t1
        rw [if_neg h2, decide_eq_false h2] at t2
        have o1 := of_spec false (Rw.dg (digs x)) (by omega) dx
        rw [encI_sgn_false, vx] at o1
        rw [Int.sign_eq_neg_one_of_neg (by omega)] at tc
        have e1 : decide ((-1 : Int) < 0) = true := rfl
        rw [q0, r0, encI_zero]
        simp only [bv] at o1
        simp -implicitDefEqProofs (maxSteps := 10000000) only [integer_divide, encI, go_sem, stcells, ldcells, iv, bv, t1, t2, tc, e1, o1, toDs, reduceCtorEq, ↓reduceIte, Nat.reduceEqDiff]
    · rw [if_neg h1, decide_eq_false h1] at t1
      have o1 := of_spec false (Rw.dg (digs x)) (by omega) dx
      rw [encI_sgn_false, vx] at o1
      rw [Int.sign_eq_neg_one_of_neg (by omega)] at tc
      have e1 : decide ((-1 : Int) < 0) = true := rfl
      rw [q0, r0, encI_zero]
      simp only [bv] at o1
      simp -implicitDefEqProofs (maxSteps := 10000000) only [integer_divide, encI, go_sem, stcells, ldcells, iv, bv, t1, t2, tc, e1, o1, toDs, reduceCtorEq, ↓reduceIte, Nat.reduceEqDiff]
  · have hle := digs_len_mono (Nat.le_of_not_lt hlt)
    by_cases h1 : (digs x).length ≤ 2
    · have h2 : (digs y).length ≤ 2 := by omega
      have s1 := digs_small h1
      rw [if_pos h1, decide_eq_true h1] at t1
      rw [if_pos h2, decide_eq_true h2] at t2
      have e1 := eqz_f (b := (y : Int)) (by omega)
      have e2 := quo_pos (a := (x : Int)) (b := (y : Int)) (by omega)
      have e3 := rem_pos (a := (x : Int)) (b := (y : Int)) (by omega)
      obtain ⟨d1, d2, d3⟩ := div_range (x := (x : Int)) (y := (y : Int)) (by omega) (by omega)
      obtain ⟨Q, hQ⟩ : ∃ Q, (x : Int) / (y : Int) = Q := ⟨_, rfl⟩
      obtain ⟨M, hM⟩ : ∃ M, (x : Int) % (y : Int) = M := ⟨_, rfl⟩
      rw [hQ] at e2 d1 ⊢
      rw [hM] at e3 d2 d3 ⊢
      have e4 : w64 Q = Q := w64_id (by omega) (by omega)
      have e5 := u64_id (x := Q) (by omega)
      have e6 := u64_id (x := M) (by omega)
      have u1 := unsigned_spec false (u := Q) (by omega)
      have u2 := unsigned_spec false (u := M) (by omega)
      rw [encI_sgn_false] at u1 u2
      simp only [bv] at u1 u2
      simp -implicitDefEqProofs (maxSteps := 10000000) only [integer_divide, encI, go_sem, stcells, ldcells, iv, bv, t1, t2, e1, e2, e3, e4, e5, e6, u1, u2, toDs, reduceCtorEq, ↓reduceIte, Nat.reduceEqDiff]
    · rw [if_neg h1, decide_eq_false h1] at t1
      have e1 : decide (Int.sign ((x : Int) - (y : Int)) < 0) = false := by
        apply lt_f
        rcases Int.lt_or_le 0 ((x : Int) - (y : Int)) with h | h
        · rw [Int.sign_eq_one_of_pos h]; omega
        · rw [show (x : Int) - (y : Int) = 0 by omega]; exact Int.lt_irrefl 0
      have hlp : 0 < (digs y).length := digs_length_pos.2 hy
      by_cases h3 : (digs y).length = 1
      · -- one digit
        obtain ⟨b1, b2⟩ := one_digit h3
        obtain ⟨q, r, g1, g2, g3, g4, g5⟩ := short_spec (Rw.dg (digs x)) dx (b := (y : Int)) (by omega) (by omega)
        rw [vx] at g5
        obtain ⟨u1, u2⟩ := div_uni g5 g2.1 g2.2
        rw [u1, u2]
        have o1 := of_spec false (Rw.row q) (by omega) g4
        rw [encI_sgn_false] at o1
        have o2 := unsigned_spec false (u := r) (by omega)
        rw [encI_sgn_false] at o2
        have i1 := (Rw.dg (digs y)).ixn (j := 0) (by omega)
        have i2 := fun hp => ldv hp (digs y) (j := 0) (by omega)
        simp only [nc0, List.drop_zero, b1] at i1 i2
        have e2 := u64_id (x := r) (by omega)
        have e3 : (((digs y).length : Int) == 1) = true := beq_t (by omega)
        simp only [bv, iv] at o1 o2 g1
        simp -implicitDefEqProofs (maxSteps := 10000000) only [integer_divide, encI, go_sem, stcells, ldcells, iv, bv, t1, tc, e1, e2, e3, g1, o1, o2, i1, i2, ly, toDs, reduceCtorEq, ↓reduceIte, Nat.reduceEqDiff]
      · obtain ⟨p, hp⟩ : ∃ p, (digs y).length = p + 2 := ⟨(digs y).length - 2, by omega⟩
        obtain ⟨q, r, g1, g2, g3, g4, g5, g6, g7⟩ := long_spec (Rw.dg (digs x)) (Rw.dg (digs y)) dx dy hp (digs_last hp) hle hx
        rw [vx, vy] at g6
        rw [vy] at g7
        obtain ⟨u1, u2⟩ := div_uni (x := (x : Int)) (y := (y : Int)) (q := val q) (r := val r) (by rw [g6, Int.mul_comm]) (val_nonneg g3) g7
        rw [u1, u2]
        clear g6
        have o1 := of_spec false (Rw.row q) (by omega) g2
        have o2 := of_spec false (Rw.row r) (by omega) g3
        rw [encI_sgn_false] at o1 o2
        have e3 : (((digs y).length : Int) == 1) = false := beq_f (by omega)
        simp only [bv, iv] at o1 o2 g1
        simp -implicitDefEqProofs (maxSteps := 10000000) only [integer_divide, encI, go_sem, stcells, ldcells, iv, bv, t1, tc, e1, e3, g1, o1, o2, ly, toDs, reduceCtorEq, ↓reduceIte, Nat.reduceEqDiff]
end Go.AM

/- integer.Div, Sub -/
namespace Go.AM
open Go Go.RowKit

theorem encI_signed (neg : Bool) (n : Nat) : D.agg [.v (.bool (neg && decide (((digs n).length : Int) > 0))), dg (digs n)] = encI (sgn neg (n : Int)) := by
  by_cases h : n = 0
  · subst h
    have e : digs 0 = [] := digs_zero
    have e2 : sgn neg ((0 : Nat) : Int) = 0 := by cases neg <;> rfl
    rw [e2, encI_zero, e]
    simp [dg, bv]
  · have h1 : ((digs n).length : Int) > 0 := by have := digs_length_pos.2 (Nat.pos_of_ne_zero h); omega
    rw [decide_eq_true h1, Bool.and_true]
    unfold encI
    have e2 : (sgn neg (n : Int)).natAbs = n := by rw [natAbs_sgn]; rfl
    have e3 : decide (sgn neg (n : Int) < 0) = neg := by
      cases neg
      · simp only [sgn, Bool.false_eq_true, if_false, decide_eq_false_iff_not]; omega
      · simp only [sgn, if_true, decide_eq_true_eq]; omega
    rw [e2, e3]; rfl
theorem ediv_cases {x y : Int} (hy : y ≠ 0) :
    (¬ x < 0 → x / y = sgn (decide (y < 0)) ((x.natAbs : Int) / (y.natAbs : Int)) ∧ x % y = (x.natAbs : Int) % (y.natAbs : Int)) ∧
    (x < 0 → (x.natAbs : Int) % (y.natAbs : Int) = 0 → x / y = sgn (!decide (y < 0)) ((x.natAbs : Int) / (y.natAbs : Int)) ∧ x % y = 0) ∧
    (x < 0 → (x.natAbs : Int) % (y.natAbs : Int) ≠ 0 → x / y = sgn (!decide (y < 0)) ((x.natAbs : Int) / (y.natAbs : Int) + 1) ∧ x % y = (y.natAbs : Int) - (x.natAbs : Int) % (y.natAbs : Int)) := by
  have hb : 0 < (y.natAbs : Int) := by omega
  obtain ⟨a, ha⟩ : ∃ a, (x.natAbs : Int) = a := ⟨_, rfl⟩
  obtain ⟨b, hbd⟩ : ∃ b, (y.natAbs : Int) = b := ⟨_, rfl⟩
  rw [ha, hbd]
  rw [hbd] at hb
  have e := Int.mul_ediv_add_emod a b
  have m1 := Int.emod_nonneg a (by omega : b ≠ 0)
  have m2 := Int.emod_lt_of_pos a hb
  have key : ∀ q r : Int, x = q * b + r → 0 ≤ r → r < b → x / y = sgn (decide (y < 0)) q ∧ x % y = r := by
    intro q r h h0 h1
    obtain ⟨g1, g2⟩ := div_uni h h0 h1
    by_cases hn : y < 0
    · have : y = -b := by omega
      rw [this, Int.ediv_neg, Int.emod_neg, g1, g2, ← this, decide_eq_true hn]
      exact ⟨rfl, rfl⟩
    · have : y = b := by omega
      rw [this, g1, g2, ← this, decide_eq_false hn]
      exact ⟨rfl, rfl⟩
  have sg : ∀ q : Int, sgn (decide (y < 0)) (-q) = sgn (!decide (y < 0)) q := by
    intro q
    by_cases hn : y < 0 <;> simp [sgn, hn]
  refine ⟨fun hx => ?_, fun hx h0 => ?_, fun hx h0 => ?_⟩
  · have : x = a := by omega
    exact key _ _ (by rw [this, Int.mul_comm]; exact e.symm) m1 m2
  · have := key (-(a / b)) 0 (by rw [h0] at e; rw [Int.neg_mul, Int.mul_comm]; omega) (by omega) hb
    rw [sg] at this
    exact this
  · have := key (-(a / b + 1)) (b - a % b) (by rw [Int.neg_mul, Int.add_mul, Int.one_mul, Int.mul_comm]; omega) (by omega) (by omega)
    rw [sg] at this
    exact this
variable [Its]

theorem Div_spec {x y : Int} (hy : y ≠ 0) (hx : nd x ≤ 1000000000000) (hyl : nd y ≤ 1000000000000) :
    callX G n_integer_Div [encI x, encI y] = some (.d (.tup [encI (x / y), encI (x % y)])) := by
  obtain ⟨c1, c2, c3⟩ := ediv_cases (x := x) hy
  have hya : 0 < y.natAbs := by omega
  have td := divide_spec (x := x.natAbs) (y := y.natAbs) hya hx hyl
  have ly := lenA_dg (digs y.natAbs)
  have e1 : (((digs y.natAbs).length : Int) == 0) = false := beq_f (by have := digs_length_pos.2 hya; omega)
  have hq0 : 0 ≤ (x.natAbs : Int) / (y.natAbs : Int) := Int.ediv_nonneg (by omega) (by omega)
  have hr0 : 0 ≤ (x.natAbs : Int) % (y.natAbs : Int) := Int.emod_nonneg _ (by omega)
  have hr1 : (x.natAbs : Int) % (y.natAbs : Int) < (y.natAbs : Int) := Int.emod_lt_of_pos _ (by omega)
  have hq1 : (x.natAbs : Int) / (y.natAbs : Int) ≤ (x.natAbs : Int) := Int.ediv_le_self _ (by omega)
  obtain ⟨Q, hQ⟩ : ∃ Q : Nat, (x.natAbs : Int) / (y.natAbs : Int) = (Q : Int) := ⟨_, (Int.toNat_of_nonneg hq0).symm⟩
  obtain ⟨M, hM⟩ : ∃ M : Nat, (x.natAbs : Int) % (y.natAbs : Int) = (M : Int) := ⟨_, (Int.toNat_of_nonneg hr0).symm⟩
  rw [hQ] at td c1 c2 c3 hq1
  rw [hM] at td c1 c2 c3 hr1
  have q1 : decide ((Q : Int) < 0) = false := decide_eq_false (by omega)
  have q2 : ((Q : Nat) : Int).natAbs = Q := rfl
  have m1 : decide ((M : Int) < 0) = false := decide_eq_false (by omega)
  have m2 : ((M : Nat) : Int).natAbs = M := rfl
  have lq := lenA_dg (digs Q)
  have lm := lenA_dg (digs M)
  simp only [encI, q1, q2, m1, m2, bv] at td
  rw [callX_eq (cf := integer_Div) rfl]
  have hQl : (digs Q).length ≤ (digs x.natAbs).length := digs_len_mono (by omega)
  have hMl : (digs M).length ≤ (digs y.natAbs).length := digs_len_mono (by omega)
  have hxn : (digs x.natAbs).length ≤ 1000000000000 := hx
  have hyn : (digs y.natAbs).length ≤ 1000000000000 := hyl
  by_cases hxn0 : x < 0
  · have x1 : decide (x < 0) = true := decide_eq_true hxn0
    by_cases hM0 : M = 0
    · obtain ⟨d1, d2⟩ := c2 hxn0 (by omega)
      have f1 : decide ((0 : Int) > 0) = false := rfl
      have f2 : dg (digs M) = .z true := by rw [hM0, digs_zero]; rfl
      rw [f2] at td
      rw [d1, d2, ← encI_signed, encI_zero]
      by_cases hyn0 : y < 0
      · have y1 : decide (y < 0) = true := decide_eq_true hyn0
        have y2 : (true == true) = true := rfl
        rw [y1]
        simp -implicitDefEqProofs (maxSteps := 10000000) only [integer_Div, encI, go_sem, stcells, ldcells, iv, bv, e1, x1, y1, y2, f1, td, ly, lq, lm, toDs, apartS, ne_eq, not_false_eq_true, reduceCtorEq, ↓reduceIte, Nat.reduceEqDiff]
      · have y1 : decide (y < 0) = false := decide_eq_false hyn0
        have y2 : (true == false) = false := rfl
        rw [y1]
        simp -implicitDefEqProofs (maxSteps := 10000000) only [integer_Div, encI, go_sem, stcells, ldcells, iv, bv, e1, x1, y1, y2, f1, td, ly, lq, lm, toDs, apartS, ne_eq, not_false_eq_true, reduceCtorEq, ↓reduceIte, Nat.reduceEqDiff]
    · obtain ⟨d1, d2⟩ := c3 hxn0 (by omega)
      have f1 : decide (((digs M).length : Int) > 0) = true := gt_t (by have := digs_length_pos.2 (Nat.pos_of_ne_zero hM0); omega)
      obtain ⟨o1, p1, p2, p3, p4⟩ := plus_spec (Rw.dg (digs Q)) (Rw.row [1]) (digs_dig Q) (fun d hd => by simp at hd; omega) (by simp; omega)
      obtain ⟨o2, s1, s2, s3, s4⟩ := minus_spec (Rw.dg (digs y.natAbs)) (Rw.dg (digs M)) (digs_dig _) (digs_dig _) (by omega) hMl (by rw [val_digs, val_digs]; omega)
      rw [val_digs] at p4
      rw [val_digs, val_digs] at s4
      have p5 : val o1 = ((Q + 1 : Nat) : Int) := by rw [p4]; simp [val]
      have s5 : val o2 = ((y.natAbs - M : Nat) : Int) := by rw [s4]; omega
      have g1 := of_spec false (Rw.row o1) (by rw [p2]; simp; omega) p3
      have g2 := of_spec false (Rw.row o2) (by omega) s3
      rw [encI_sgn_false, p5] at g1
      rw [encI_sgn_false, s5] at g2
      have k1 : decide (((Q + 1 : Nat) : Int) < 0) = false := decide_eq_false (by omega)
      have k2 : ((Q + 1 : Nat) : Int).natAbs = Q + 1 := rfl
      have k3 : decide (((y.natAbs - M : Nat) : Int) < 0) = false := decide_eq_false (by omega)
      have k4 : ((y.natAbs - M : Nat) : Int).natAbs = y.natAbs - M := rfl
      have lq1 := lenA_dg (digs (Q + 1))
      have e5 : (Q : Int) + 1 = ((Q + 1 : Nat) : Int) := rfl
      have e6 : (y.natAbs : Int) - (M : Int) = ((y.natAbs - M : Nat) : Int) := by omega
      simp only [rowI, List.map_cons, List.map_nil, List.length_cons, List.length_nil, encI, k1, k2, k3, k4, bv, iv, Nat.reduceAdd] at p1 s1 g1 g2
      rw [d1, d2, e5, e6, ← encI_signed]
      by_cases hyn0 : y < 0
      · have y1 : decide (y < 0) = true := decide_eq_true hyn0
        have y2 : (true == true) = true := rfl
        rw [y1]
        simp -implicitDefEqProofs (maxSteps := 10000000) only [integer_Div, encI, go_sem, stcells, ldcells, iv, bv, e1, x1, y1, y2, f1, p1, s1, g1, g2, k1, k2, k3, k4, lq1,  td, ly, lq, lm, toDs, apartS, ne_eq, not_false_eq_true, reduceCtorEq, ↓reduceIte, Nat.reduceEqDiff]
      · have y1 : decide (y < 0) = false := decide_eq_false hyn0
        have y2 : (true == false) = false := rfl
        rw [y1]
        simp -implicitDefEqProofs (maxSteps := 10000000) only [integer_Div, encI, go_sem, stcells, ldcells, iv, bv, e1, x1, y1, y2, f1, p1, s1, g1, g2, k1, k2, k3, k4, lq1,  td, ly, lq, lm, toDs, apartS, ne_eq, not_false_eq_true, reduceCtorEq, ↓reduceIte, Nat.reduceEqDiff]
  · have x1 : decide (x < 0) = false := decide_eq_false hxn0
    obtain ⟨d1, d2⟩ := c1 hxn0
    rw [d1, d2, ← encI_signed]
    by_cases hyn0 : y < 0
    · have y1 : decide (y < 0) = true := decide_eq_true hyn0
      have y2 : (false == true) = false := rfl
      rw [y1]
      simp -implicitDefEqProofs (maxSteps := 10000000) only [integer_Div, encI, go_sem, stcells, ldcells, iv, bv, e1, x1, y1, y2, m1, m2,  td, ly, lq, lm, toDs, apartS, ne_eq, not_false_eq_true, reduceCtorEq, ↓reduceIte, Nat.reduceEqDiff]
    · have y1 : decide (y < 0) = false := decide_eq_false hyn0
      have y2 : (false == false) = true := rfl
      rw [y1]
      simp -implicitDefEqProofs (maxSteps := 10000000) only [integer_Div, encI, go_sem, stcells, ldcells, iv, bv, e1, x1, y1, y2, m1, m2,  td, ly, lq, lm, toDs, apartS, ne_eq, not_false_eq_true, reduceCtorEq, ↓reduceIte, Nat.reduceEqDiff]
end Go.AM

/- integer.Gcd -/
namespace Go.AM
open Go Go.RowKit

theorem gcd_step (m n : Nat) : Nat.gcd n (m % n) = Nat.gcd m n := by
  rw [Nat.gcd_comm n, ← Nat.gcd_rec n m, Nat.gcd_comm]
theorem encI_nat (n : Nat) : encI (n : Int) = .agg [.v (.bool false), dg (digs n)] := by
  unfold encI
  have : decide ((n : Int) < 0) = false := decide_eq_false (by omega)
  rw [this]; rfl
variable [Its]

def boxI (n : Nat) : Obj := ⟨0, 0, [.d (.v (.bool false)), .d (dg (digs n))], false⟩
def box0 : Obj := ⟨0, 0, [.d (.v (.bool false)), .d (.z true)], false⟩
def gcd_st (m n : Nat) : St := mkS [(4, .ptr [4] 0), (7, ai m), (9, ai n)] [([4], box0)]
def gcd_en (m : Nat) : St := mkS [(4, .ptr [4] 0), (7, ai m)] [([4], box0)]
theorem gcd_ints : ∀ (n m : Nat), m < 1000000000000000000 → n < 1000000000000000000 → X G (.loop integer_Gcd_l0) (gcd_st m n) = some (.x 2, gcd_en (Nat.gcd m n)) := by
  intro n
  induction n using Nat.strongRecOn with
  | _ n ih =>
  intro m hm hn
  rw [X_loop]
  by_cases h0 : n = 0
  · subst h0
    have e1 : decide (((0 : Nat) : Int) > 0) = false := rfl
    rw [Nat.gcd_zero_right]
    simp -implicitDefEqProofs (maxSteps := 10000000) only [integer_Gcd_l0, gcd_st, gcd_en, box0, go_sem, iv, bv, reduceCtorEq, ↓reduceIte, Nat.reduceEqDiff]
    rfl
  · have e1 : decide ((n : Int) > 0) = true := gt_t (by omega)
    have e2 := eqz_f (b := (n : Int)) (by omega)
    have e3 := rem_pos (a := (m : Int)) (b := (n : Int)) (by omega)
    have e4 : (m : Int) % (n : Int) = ((m % n : Nat) : Int) := rfl
    have hlt : m % n < n := Nat.mod_lt _ (by omega)
    have hx : X G integer_Gcd_l0 (gcd_st m n) = some (.n, gcd_st n (m % n)) := by
      simp -implicitDefEqProofs (maxSteps := 10000000) only [integer_Gcd_l0, gcd_st, gcd_en, box0, go_sem, iv, bv, e1, e2, e3, e4, reduceCtorEq, ↓reduceIte, Nat.reduceEqDiff]
    rw [hx, Option.bind_some, if_pos rfl, ih (m % n) hlt n hn (by omega), gcd_step]

def gl_st (a b : Nat) : St := mkS [(4, .ptr [4] 0), (5, .ptr [5] 0), (6, .ptr [6] 0)] [([4], box0), ([5], boxI a), ([6], boxI b)]
def gl_en (a : Nat) : St := mkS [(4, .ptr [4] 0), (5, .ptr [5] 0)] [([4], box0), ([5], boxI a)]
def gl_ret (a : Nat) : St := mkS [(4, .ptr [4] 0)] [([4], boxI a)]

theorem gcd_loop : ∀ (b a : Nat), (digs a).length ≤ 1000000000000 → (digs b).length ≤ 1000000000000 →
    X G (.loop integer_Gcd_l1) (gl_st a b) = some (.x 0, gl_en (Nat.gcd a b)) ∨ X G (.loop integer_Gcd_l1) (gl_st a b) = some (.r, gl_ret (Nat.gcd a b)) := by
  intro b
  induction b using Nat.strongRecOn with
  | _ b ih =>
  intro a ha hb
  have la := lenA_dg (digs a)
  have lb := lenA_dg (digs b)
  by_cases h0 : b = 0
  · subst h0
    have e1 : decide (((digs 0).length : Int) > 0) = false := by rw [digs_zero]; rfl
    refine .inl ?_
    rw [Nat.gcd_zero_right, X_loop]
    simp -implicitDefEqProofs (maxSteps := 10000000) only [integer_Gcd_l1, gl_st, gl_en, box0, boxI, go_sem, stcells, ldcells, iv, bv, e1, la, lb, reduceCtorEq, ↓reduceIte, Nat.reduceEqDiff]
  · have e1 : decide (((digs b).length : Int) > 0) = true := gt_t (by have := digs_length_pos.2 (Nat.pos_of_ne_zero h0); omega)
    have t1 := two_spec (Rw.dg (digs a)) (digs_dig a) (by omega)
    have t2 := two_spec (Rw.dg (digs b)) (digs_dig b) (by omega)
    rw [val_digs] at t1 t2
    simp only [iv, bv] at t1 t2
    by_cases h1 : (digs a).length ≤ 2 ∧ (digs b).length ≤ 2
    · rw [if_pos h1.1, decide_eq_true h1.1] at t1
      rw [if_pos h1.2, decide_eq_true h1.2] at t2
      have s1 := digs_small h1.1
      have s2 := digs_small h1.2
      have g1 := gcd_ints b a s1 s2
      have hg : Nat.gcd a b ≤ b := Nat.gcd_le_right _ (Nat.pos_of_ne_zero h0)
      have u1 := unsigned_spec false (u := ((Nat.gcd a b : Nat) : Int)) (by omega)
      have e2 := u64_id (x := ((Nat.gcd a b : Nat) : Int)) (by omega)
      rw [encI_sgn_false, encI_nat] at u1
      simp only [gcd_st, gcd_en, box0, go_sem] at g1
      simp only [bv] at u1
      refine .inr ?_
      rw [X_loop]
      simp -implicitDefEqProofs (maxSteps := 10000000) only [integer_Gcd_l1, gl_st, gl_ret, box0, boxI, go_sem, stcells, ldcells, iv, bv, e1, e2, la, lb, t1, t2, g1, u1, reduceCtorEq, ↓reduceIte, Nat.reduceEqDiff]
    · have td := divide_spec (x := a) (y := b) (Nat.pos_of_ne_zero h0) ha hb
      have e3 : (a : Int) / (b : Int) = ((a / b : Nat) : Int) := rfl
      have e4 : (a : Int) % (b : Int) = ((a % b : Nat) : Int) := rfl
      rw [e3, e4, encI_nat, encI_nat] at td
      have hlt : a % b < b := Nat.mod_lt _ (Nat.pos_of_ne_zero h0)
      have hx : X G integer_Gcd_l1 (gl_st a b) = some (.n, gl_st b (a % b)) := by
        by_cases h2 : (digs a).length ≤ 2
        · have h3 : ¬ (digs b).length ≤ 2 := fun h => h1 ⟨h2, h⟩
          rw [if_pos h2, decide_eq_true h2] at t1
          rw [if_neg h3, decide_eq_false h3] at t2
          simp -implicitDefEqProofs (maxSteps := 10000000) only [integer_Gcd_l1, gl_st, gl_ret, box0, boxI, go_sem, stcells, ldcells, iv, bv, e1, la, lb, t1, t2, td, apartS, ne_eq, not_false_eq_true, reduceCtorEq, ↓reduceIte, Nat.reduceEqDiff]
        · rw [if_neg h2, decide_eq_false h2] at t1
          by_cases h3 : (digs b).length ≤ 2
          · rw [if_pos h3, decide_eq_true h3] at t2
            simp -implicitDefEqProofs (maxSteps := 10000000) only [integer_Gcd_l1, gl_st, gl_ret, box0, boxI, go_sem, stcells, ldcells, iv, bv, e1, la, lb, t1, t2, td, apartS, ne_eq, not_false_eq_true, reduceCtorEq, ↓reduceIte, Nat.reduceEqDiff]
          · rw [if_neg h3, decide_eq_false h3] at t2
            simp -implicitDefEqProofs (maxSteps := 10000000) only [integer_Gcd_l1, gl_st, gl_ret, box0, boxI, go_sem, stcells, ldcells, iv, bv, e1, la, lb, t1, t2, td, apartS, ne_eq, not_false_eq_true, reduceCtorEq, ↓reduceIte, Nat.reduceEqDiff]
      have hr := ih (a % b) hlt b hb (Nat.le_trans (digs_len_mono (Nat.le_of_lt hlt)) hb)
      rw [gcd_step] at hr
      rw [X_loop, hx]
      exact hr

theorem Gcd_spec {x y : Int} (hx : nd x ≤ 1000000000000) (hy : nd y ≤ 1000000000000) : callX G n_integer_Gcd [encI x, encI y] = some (.d (encI (Int.gcd x y : Nat))) := by
  rw [callX_eq (cf := integer_Gcd) rfl]
  have hxn : (digs x.natAbs).length ≤ 1000000000000 := hx
  have hyn : (digs y.natAbs).length ≤ 1000000000000 := hy
  have o1 := of_spec false (Rw.dg (digs x.natAbs)) (by omega) (digs_dig _)
  have o2 := of_spec false (Rw.dg (digs y.natAbs)) (by omega) (digs_dig _)
  rw [encI_sgn_false, val_digs, encI_nat] at o1 o2
  simp only [bv] at o1 o2
  rw [encI_nat]
  have e : Int.gcd x y = Nat.gcd x.natAbs y.natAbs := rfl
  rw [e]
  rcases gcd_loop y.natAbs x.natAbs hxn hyn with g | g
  · simp only [gl_st, gl_en, box0, boxI, go_sem] at g
    simp -implicitDefEqProofs (maxSteps := 10000000) only [integer_Gcd, encI, go_sem, stcells, ldcells, iv, bv, o1, o2, g, reduceCtorEq, ↓reduceIte, Nat.reduceEqDiff]
  · simp only [gl_st, gl_ret, box0, boxI, go_sem] at g
    simp -implicitDefEqProofs (maxSteps := 10000000) only [integer_Gcd, encI, go_sem, stcells, ldcells, iv, bv, o1, o2, g, reduceCtorEq, ↓reduceIte, Nat.reduceEqDiff]
end Go.AM

/- gantryref04: normal, digit, tiny, compared, Compare, Sign, Neg -/
namespace Go.AM
open Go Go.RowKit

theorem src_row (st : St) (n : Nat) (cs : List D) : src st (.d (.row n cs)) = some (n, cs) := rfl
theorem encI_agg (x : Int) : encI x = .agg [.v (.bool (decide (x < 0))), dg (digs x.natAbs)] := rfl
variable [Its]

section
variable (neg : Bool) (d : D) (l : List Int)
def nrm_st (n : Int) : St := mkS [(0, ab neg), (1, .d d), (4, .ptr [4] 0), (5, ai n)] [([4], box0)]
theorem nrm_go (hr : Rw d l) (n : Nat) (h : n < l.length) (hl : l.length < 4611686018427387904) (h0 : l.getD n 0 = 0) : X G gantryref04_normal_l0 (nrm_st neg d ((n + 1 : Nat) : Int)) = some (.n, nrm_st neg d n) := by
  have e1 : decide (((n + 1 : Nat) : Int) > 0) = true := gt_t (by omega)
  have e2 : w64 (((n + 1 : Nat) : Int) - 1) = n := by rw [w64_id (by omega) (by omega)]; omega
  have e3 := hr.ixn (j := n) (by omega)
  have e4 := fun hp => ldv hp l (j := n) (by omega)
  have e5 : ((0 : Int) > (n : Int)) = False := eq_false (by omega)
  simp -implicitDefEqProofs (maxSteps := 10000000) only [gantryref04_normal_l0, nrm_st, box0, go_sem, foldV, mxV, iv, bv, e1, e2, e3, e4, e5, h0, beq_self_eq_true, reduceCtorEq, ↓reduceIte, Nat.reduceEqDiff]
theorem nrm_stop (hr : Rw d l) (n : Nat) (h : n < l.length) (hl : l.length < 4611686018427387904) (h0 : l.getD n 0 ≠ 0) : X G gantryref04_normal_l0 (nrm_st neg d ((n + 1 : Nat) : Int)) = some (.x 0, nrm_st neg d ((n + 1 : Nat) : Int)) := by
  have e1 : decide (((n + 1 : Nat) : Int) > 0) = true := gt_t (by omega)
  have e2 : w64 (((n + 1 : Nat) : Int) - 1) = n := by rw [w64_id (by omega) (by omega)]; omega
  have e3 := hr.ixn (j := n) (by omega)
  have e4 := fun hp => ldv hp l (j := n) (by omega)
  have e5 : ((0 : Int) > (n : Int)) = False := eq_false (by omega)
  simp -implicitDefEqProofs (maxSteps := 10000000) only [gantryref04_normal_l0, nrm_st, box0, go_sem, foldV, mxV, iv, bv, e1, e2, e3, e4, e5, beq_f h0, reduceCtorEq, ↓reduceIte, Nat.reduceEqDiff]
theorem nrm_zero : X G gantryref04_normal_l0 (nrm_st neg d ((0 : Nat) : Int)) = some (.x 0, nrm_st neg d ((0 : Nat) : Int)) := by
  have e1 : decide ((0 : Int) > 0) = false := rfl
  simp -implicitDefEqProofs (maxSteps := 10000000) only [gantryref04_normal_l0, nrm_st, box0, go_sem, foldV, mxV, iv, bv, e1, reduceCtorEq, ↓reduceIte, Nat.reduceEqDiff]
theorem nrm_loop (hr : Rw d l) (hl : l.length < 4611686018427387904) : ∀ n : Nat, n ≤ l.length → X G (.loop gantryref04_normal_l0) (nrm_st neg d (n : Int)) = some (.x 0, nrm_st neg d (cutn l n : Nat))
  | 0, _ => by
    rw [X_loop, nrm_zero]
    rfl
  | n + 1, h => by
    rw [X_loop, cutn]
    by_cases h0 : l.getD n 0 = 0
    · rw [nrm_go neg d l hr n (by omega) hl h0, if_pos h0]
      exact nrm_loop hr hl n (by omega)
    · rw [nrm_stop neg d l hr n (by omega) hl h0, if_neg h0]
      rfl
end

theorem normal_spec (neg : Bool) {d : D} {l : List Int} (hr : Rw d l) (hl : l.length < 4611686018427387904) (hd : Dig l) : callX G n_gantryref04_normal [bv neg, d] = some (.d (encI (sgn neg (val l)))) := by
  rw [callX_eq (cf := gantryref04_normal) rfl, encI_sgn hd]
  have hc := cutn_le l l.length
  have el := nrm_loop neg d l hr hl l.length (Nat.le_refl _)
  simp only [nrm_st, box0, go_sem] at el
  generalize hn : cutn l l.length = n at *
  by_cases h0 : n = 0
  · subst h0
    have e0 : ((0 : Int) == 0) = true := rfl
    simp only [nc0] at el
    simp -implicitDefEqProofs (maxSteps := 10000000) only [gantryref04_normal, go_sem, stcells, ldcells, iv, bv, hr.len, el, e0, reduceCtorEq, ↓reduceIte, Nat.reduceEqDiff]
  · obtain rfl := hr.ne (by rintro rfl; simp [cutn] at hn; exact h0 hn.symm)
    have e0 : (((n : Nat) : Int) == 0) = false := beq_f (by omega)
    have e1 : (0 : Int) ≤ 0 ∧ (0 : Int) ≤ (n : Int) ∧ (n : Int) ≤ (l.length : Int) := by omega
    simp only [rowI] at el
    simp -implicitDefEqProofs (maxSteps := 10000000) only [gantryref04_normal, go_sem, stcells, ldcells, iv, bv, rowI, el, e0, e1, h0, reduceCtorEq, ↓reduceIte, Nat.reduceEqDiff]

theorem digit_spec {d : D} {l : List Int} (h : Rw d l) {i : Nat} : callX G n_gantryref04_digit [d, iv (i : Int)] = some (.d (iv (l.getD i 0))) := by
  rw [callX_eq (cf := gantryref04_digit) rfl]
  have hh := h.len
  by_cases h0 : i < l.length
  · have e1 : decide ((i : Int) < (l.length : Int)) = true := lt_t (by omega)
    have e2 := h.ixn (j := i) h0
    have e3 := fun hp => ldv hp l (j := i) h0
    simp -implicitDefEqProofs (maxSteps := 10000000) only [gantryref04_digit, go_sem, iv, bv, hh, e1, e2, e3, reduceCtorEq, ↓reduceIte, Nat.reduceEqDiff]
  · have e1 : decide ((i : Int) < (l.length : Int)) = false := lt_f (by omega)
    have e2 : l.getD i 0 = 0 := by rw [List.getD_eq_getElem?_getD, List.getElem?_eq_none (by omega)]; rfl
    rw [e2]
    simp -implicitDefEqProofs (maxSteps := 10000000) only [gantryref04_digit, go_sem, iv, bv, hh, e1, reduceCtorEq, ↓reduceIte, Nat.reduceEqDiff]

theorem tiny_spec {d : D} {l : List Int} (h : Rw d l) (hd : Dig l) (hl : l.length ≤ 2) : callX G n_gantryref04_tiny [d] = some (.d (iv (val l))) := by
  rw [callX_eq (cf := gantryref04_tiny) rfl]
  have d0 := digit_spec h (i := 0)
  have d1 := digit_spec h (i := 1)
  have b0 := hd.getD 0
  have b1 := hd.getD 1
  have e0 : ((1 : Nat) : Int) = 1 := rfl
  simp only [nc0, e0, iv] at d0 d1
  have hv : val l = l.getD 1 0 * 1000000000 + l.getD 0 0 := by
    match l, hl with
    | [], _ => simp [val]
    | [x], _ => simp [val]
    | [x, y], _ => simp [val]; omega
  have e6 : w64 (l.getD 1 0 * 1000000000) = l.getD 1 0 * 1000000000 := w64_id (by omega) (by omega)
  have e7 : w64 (l.getD 1 0 * 1000000000 + l.getD 0 0) = l.getD 1 0 * 1000000000 + l.getD 0 0 := w64_id (by omega) (by omega)
  rw [hv]
  simp -implicitDefEqProofs (maxSteps := 10000000) only [gantryref04_tiny, go_sem, iv, bv, d0, d1, e6, e7, reduceCtorEq, ↓reduceIte, Nat.reduceEqDiff]

section
variable (da db : D) (a b : List Int)
def cmd_st (i : Int) : St := mkS [(0, .d da), (1, .d db), (5, ai i)] []
def cmd_ret (x : Int) : St := mkS [(4, ai x)] []
theorem cmd_stop : X G gantryref04_compared_l0 (cmd_st da db (-1)) = some (.x 0, mkS [] []) := by
  have e1 : decide ((-1 : Int) ≥ 0) = false := rfl
  simp -implicitDefEqProofs (maxSteps := 10000000) only [gantryref04_compared_l0, cmd_st, go_sem, iv, bv, e1, reduceCtorEq, ↓reduceIte, Nat.reduceEqDiff]
theorem cmd_go (hra : Rw da a) (hrb : Rw db b) {i : Nat} (ha : i < a.length) (hb : i < b.length) (hl : a.length < 4611686018427387904) :
    X G gantryref04_compared_l0 (cmd_st da db (i : Int)) = if a.getD i 0 < b.getD i 0 then some (.r, cmd_ret (-1)) else if a.getD i 0 > b.getD i 0 then some (.r, cmd_ret 1) else some (.n, cmd_st da db ((i : Int) - 1)) := by
  have e1 : decide ((i : Int) ≥ 0) = true := ge_t (by omega)
  have e2 := hra.ixn (j := i) ha
  have e3 := fun hp => ldv hp a (j := i) ha
  have e4 := hrb.ixn (j := i) hb
  have e5 := fun hp => ldv hp b (j := i) hb
  have e6 : w64 ((i : Int) - 1) = (i : Int) - 1 := w64_id (by omega) (by omega)
  by_cases h1 : a.getD i 0 < b.getD i 0
  · have e7 : decide (a.getD i 0 < b.getD i 0) = true := lt_t h1
    rw [if_pos h1]
    simp -implicitDefEqProofs (maxSteps := 10000000) only [gantryref04_compared_l0, cmd_st, cmd_ret, go_sem, iv, bv, e1, e2, e3, e4, e5, e6, e7, reduceCtorEq, ↓reduceIte, Nat.reduceEqDiff]
  · have e7 : decide (a.getD i 0 < b.getD i 0) = false := lt_f h1
    rw [if_neg h1]
    by_cases h2 : a.getD i 0 > b.getD i 0
    · have e8 : decide (a.getD i 0 > b.getD i 0) = true := gt_t h2
      rw [if_pos h2]
      simp -implicitDefEqProofs (maxSteps := 10000000) only [gantryref04_compared_l0, cmd_st, cmd_ret, go_sem, iv, bv, e1, e2, e3, e4, e5, e6, e7, e8, reduceCtorEq, ↓reduceIte, Nat.reduceEqDiff]
    · have e8 : decide (a.getD i 0 > b.getD i 0) = false := gt_f h2
      rw [if_neg h2]
      simp -implicitDefEqProofs (maxSteps := 10000000) only [gantryref04_compared_l0, cmd_st, cmd_ret, go_sem, iv, bv, e1, e2, e3, e4, e5, e6, e7, e8, reduceCtorEq, ↓reduceIte, Nat.reduceEqDiff]

theorem take_lt_of {k : Nat} (ha : Dig a) (hb : Dig b) (hk : a.getD k 0 < b.getD k 0) : val (a.take (k + 1)) < val (b.take (k + 1)) := by
  have _its : Its := inferInstance
  rw [val_take_getD, val_take_getD]
  have h1 := cut_lt (l := a) (j := 0) (n := k) (fun x _ _ => ha.getD x)
  have e1 : val (a.take k) < (1000000000 : Int) ^ k := by
    rcases Nat.lt_or_ge a.length k with h | h
    · have := val_lt (ha.take k)
      have e : (a.take k).length ≤ k := by rw [List.length_take]; omega
      exact Int.lt_of_lt_of_le this (pow_mono e)
    · have := val_lt (ha.take k)
      have e : (a.take k).length ≤ k := by rw [List.length_take]; omega
      exact Int.lt_of_lt_of_le this (pow_mono e)
  have e2 := val_nonneg (hb.take k)
  have e3 : (1000000000 : Int) ^ k * (a.getD k 0 + 1) ≤ (1000000000 : Int) ^ k * b.getD k 0 := Int.mul_le_mul_of_nonneg_left (by omega) (Int.le_of_lt (pow_pos' k))
  rw [Int.mul_add, Int.mul_one] at e3
  generalize (1000000000 : Int) ^ k * a.getD k 0 = x at *
  generalize (1000000000 : Int) ^ k * b.getD k 0 = y at *
  clear h1
  omega

theorem cmd_loop (hra : Rw da a) (hrb : Rw db b) (ha : Dig a) (hb : Dig b) (hl : a.length < 4611686018427387904) : ∀ k : Nat, k ≤ a.length → k ≤ b.length →
    (X G (.loop gantryref04_compared_l0) (cmd_st da db ((k : Int) - 1)) = some (.x 0, mkS [] []) ∧ val (a.take k) = val (b.take k)) ∨
    (X G (.loop gantryref04_compared_l0) (cmd_st da db ((k : Int) - 1)) = some (.r, cmd_ret (-1)) ∧ val (a.take k) < val (b.take k)) ∨
    (X G (.loop gantryref04_compared_l0) (cmd_st da db ((k : Int) - 1)) = some (.r, cmd_ret 1) ∧ val (b.take k) < val (a.take k))
  | 0, _, _ => .inl ⟨by
      have : ((0 : Nat) : Int) - 1 = -1 := rfl
      rw [this, X_loop, cmd_stop]; rfl, rfl⟩
  | k + 1, h1, h2 => by
    have hx := cmd_go da db a b hra hrb (i := k) (by omega) (by omega) hl
    have e : ((k + 1 : Nat) : Int) - 1 = (k : Int) := by omega
    rw [e, X_loop, hx]
    by_cases g1 : a.getD k 0 < b.getD k 0
    · rw [if_pos g1]
      exact .inr (.inl ⟨rfl, take_lt_of a b ha hb g1⟩)
    · rw [if_neg g1]
      by_cases g2 : a.getD k 0 > b.getD k 0
      · rw [if_pos g2]
        exact .inr (.inr ⟨rfl, take_lt_of b a hb ha g2⟩)
      · rw [if_neg g2]
        have g3 : a.getD k 0 = b.getD k 0 := by omega
        have ih := cmd_loop hra hrb ha hb hl k (by omega) (by omega)
        rw [val_take_getD a, val_take_getD b, g3]
        rcases ih with ⟨i1, i2⟩ | ⟨i1, i2⟩ | ⟨i1, i2⟩
        · exact .inl ⟨i1, by rw [i2]⟩
        · exact .inr (.inl ⟨i1, Int.add_lt_add_right i2 _⟩)
        · exact .inr (.inr ⟨i1, Int.add_lt_add_right i2 _⟩)
end

theorem compared_spec {da db : D} {a b : List Int} (hra : Rw da a) (hrb : Rw db b) (ha : Dig a) (hb : Dig b) (hat : Top a) (hbt : Top b) (hla : a.length < 4611686018427387904) (hlb : b.length < 4611686018427387904) :
    callX G n_gantryref04_compared [da, db] = some (.d (iv (Int.sign (val a - val b)))) := by
  have ca := hra.len
  have cb := hrb.len
  have tg := fun {u v : List Int} (hu : Dig u) (hv : Dig v) (hvt : Top v) (h : u.length < v.length) => show val u < val v from by
    have h1 := val_lt hu
    have h2 : (1000000000 : Int) ^ u.length ≤ val v := by
      have hne : v ≠ [] := by rintro rfl; simp at h
      obtain ⟨q, hq⟩ : ∃ q, v.length = q + 1 := ⟨v.length - 1, by omega⟩
      have ht := hvt hne
      have e : v.getLast hne = v.getD q 0 := by
        rw [List.getLast_eq_getElem, List.getD_eq_getElem?_getD, List.getElem?_eq_getElem (by omega)]
        simp [hq]
      rw [e] at ht
      have hp := hv.getD q
      have e1 := val_split v (j := q) (by omega)
      have e2 := val_drop_getD v q
      rw [List.drop_eq_nil_of_le (show v.length ≤ q + 1 by omega)] at e2
      simp only [val, Int.mul_zero, Int.add_zero] at e2
      rw [e1, e2]
      have e3 := val_nonneg (hv.take q)
      have e4 : (1000000000 : Int) ^ q * 1 ≤ (1000000000 : Int) ^ q * v.getD q 0 := Int.mul_le_mul_of_nonneg_left (by clear e1; omega) (Int.le_of_lt (pow_pos' q))
      have e5 := pow_mono (show u.length ≤ q by omega)
      generalize (1000000000 : Int) ^ q * v.getD q 0 = x at *
      generalize (1000000000 : Int) ^ q = y at *
      generalize (1000000000 : Int) ^ u.length = z at *
      clear e1 e2 h1
      omega
    exact Int.lt_of_lt_of_le h1 h2
  rw [callX_eq (cf := gantryref04_compared) rfl]
  by_cases h1 : a.length < b.length
  · have hv := tg ha hb hbt h1
    rw [Int.sign_eq_neg_one_of_neg (by omega)]
    have e1 : decide ((a.length : Int) < (b.length : Int)) = true := lt_t (by omega)
    simp -implicitDefEqProofs (maxSteps := 10000000) only [gantryref04_compared, go_sem, iv, bv, ca, cb, e1, reduceCtorEq, ↓reduceIte, Nat.reduceEqDiff]
  · have e1 : decide ((a.length : Int) < (b.length : Int)) = false := lt_f (by omega)
    by_cases h2 : b.length < a.length
    · have hv := tg hb ha hat h2
      rw [Int.sign_eq_one_of_pos (by omega)]
      have e2 : decide ((a.length : Int) > (b.length : Int)) = true := gt_t (by omega)
      simp -implicitDefEqProofs (maxSteps := 10000000) only [gantryref04_compared, go_sem, iv, bv, ca, cb, e1, e2, reduceCtorEq, ↓reduceIte, Nat.reduceEqDiff]
    · have e2 : decide ((a.length : Int) > (b.length : Int)) = false := gt_f (by omega)
      have hlen : b.length = a.length := by omega
      have e3 : w64 ((a.length : Int) - 1) = (a.length : Int) - 1 := w64_id (by omega) (by omega)
      have hl := cmd_loop da db a b hra hrb ha hb hla a.length (Nat.le_refl _) (by omega)
      rw [List.take_length, ← hlen, List.take_length, hlen] at hl
      rw [hlen] at cb e1 e2
      rcases hl with ⟨i1, i2⟩ | ⟨i1, i2⟩ | ⟨i1, i2⟩
      · rw [show val a - val b = 0 by omega]
        have e4 : Int.sign 0 = 0 := rfl
        simp only [cmd_st, go_sem] at i1
        simp -implicitDefEqProofs (maxSteps := 10000000) only [gantryref04_compared, go_sem, iv, bv, ca, cb, e1, e2, e3, e4, i1, reduceCtorEq, ↓reduceIte, Nat.reduceEqDiff]
      · rw [Int.sign_eq_neg_one_of_neg (by omega)]
        simp only [cmd_st, cmd_ret, go_sem] at i1
        simp -implicitDefEqProofs (maxSteps := 10000000) only [gantryref04_compared, go_sem, iv, bv, ca, cb, e1, e2, e3, i1, reduceCtorEq, ↓reduceIte, Nat.reduceEqDiff]
      · rw [Int.sign_eq_one_of_pos (by omega)]
        simp only [cmd_st, cmd_ret, go_sem] at i1
        simp -implicitDefEqProofs (maxSteps := 10000000) only [gantryref04_compared, go_sem, iv, bv, ca, cb, e1, e2, e3, i1, reduceCtorEq, ↓reduceIte, Nat.reduceEqDiff]
end Go.AM

/- gantryref04: Compare, Sign, Neg, plus, minus, Add -/
namespace Go.AM
open Go Go.RowKit

theorem cellsI_snoc (l : List Int) (v : Int) : cellsI l ++ [A.d (.v (.int .i64 v))] = cellsI (l ++ [v]) := by simp [cellsI]
theorem cellsI_one (v : Int) : cellsI [v] = [A.d (.v (.int .i64 v))] := rfl
/-- An array that grows, from nothing on. -/
def gA (k : Nat) (l : List Int) : A := if l = [] then .d (.z true) else .own [k] l.length
def gH (k : Nat) (l : List Int) : List (Key × Obj) := if l = [] then [] else [([k], arrI l.length l)]
theorem gA_nil (k : Nat) : gA k [] = .d (.z true) := rfl
theorem gH_nil (k : Nat) : gH k [] = [] := rfl
theorem gA_ne {k : Nat} {l : List Int} (h : l ≠ []) : gA k l = .own [k] l.length := if_neg h
theorem gH_ne {k : Nat} {l : List Int} (h : l ≠ []) : gH k l = [([k], arrI l.length l)] := if_neg h
theorem gA_one (k : Nat) (v : Int) : gA k [v] = .own [k] 1 := rfl
theorem gH_one (k : Nat) (v : Int) : gH k [v] = [([k], arrI 1 [v])] := rfl
theorem gA_snoc (k : Nat) (l : List Int) (v : Int) : gA k (l ++ [v]) = .own [k] (l.length + 1) := by rw [gA_ne (by simp)]; simp
theorem gH_snoc (k : Nat) (l : List Int) (v : Int) : gH k (l ++ [v]) = [([k], arrI (l.length + 1) (l ++ [v]))] := by rw [gH_ne (by simp)]; simp
theorem app_fact {l : List Int} (h : (l.length + 1) * 8 ≤ 140737488351232) : ((l.length + 1) * 8 ≤ bound) = True := eq_true (by simp only [bound]; omega)
theorem app_fact0 : (8 ≤ bound) = True := eq_true (by decide)
theorem snoc_dig {l : List Int} {v : Int} (h : Dig l) (hv : 0 ≤ v ∧ v < 1000000000) : Dig (l ++ [v]) := Dig.append.2 ⟨h, Dig.cons.2 ⟨hv, Dig.nil⟩⟩
theorem snoc_val (l : List Int) (v : Int) : val (l ++ [v]) = val l + (1000000000 : Int) ^ l.length * v := by rw [val_append]; simp [val]
theorem hupdO_none (k : Key) : hupdO hp0 k none = hp0 := by
  funext j
  simp [hupdO, hp0]
/-- The row that is handed back. -/
def gR (l : List Int) : R := if l = [] then .d (.z true) else .own 1 l.length (l.map iv)
variable [Its]

theorem rNeg_spec {x : Int} (hx : nd x ≤ 1000000000000) : callX G n_gantryref04_Neg [encI x] = some (.d (encI (-x))) := by
  rw [callX_eq (cf := gantryref04_Neg) rfl]
  have hx' : (digs x.natAbs).length < 4611686018427387904 := Nat.lt_of_le_of_lt hx (by decide)
  have g : Hid (callX G n_gantryref04_normal [bv (!decide (x < 0)), dg (digs x.natAbs)] = some (.d (encI (-x)))) := by
    have hl : (digs x.natAbs).length < 4611686018427387904 := hx'
    have := normal_spec (!decide (x < 0)) (Rw.dg (digs x.natAbs)) hl (digs_dig _)
    rw [val_dabs] at this
    have e : sgn (!decide (x < 0)) (x.natAbs : Int) = -x := by
      by_cases h : x < 0
      · simp [sgn, h]; omega
      · simp [sgn, h]; omega
    rw [e] at this
    exact this
  have g' := g.out
  simp only [bv] at g'
  simp -implicitDefEqProofs (maxSteps := 10000000) only [gantryref04_Neg, encI_agg x, go_sem, stcells, ldcells, iv, bv, g', encI, reduceCtorEq, ↓reduceIte, Nat.reduceEqDiff]
theorem rCompare_spec {x y : Int} (hx : nd x ≤ 1000000000000) (hy : nd y ≤ 1000000000000) : callX G n_gantryref04_Compare [encI x, encI y] = some (.d (iv (Int.sign (x - y)))) := by
  rw [callX_eq (cf := gantryref04_Compare) rfl]
  have hx' : (digs x.natAbs).length ≤ 1000000000000 := hx
  have hy' : (digs y.natAbs).length ≤ 1000000000000 := hy
  have g0 := compared_spec (Rw.dg _) (Rw.dg _) (digs_dig x.natAbs) (digs_dig y.natAbs) (digs_top _) (digs_top _) (by omega) (by omega)
  have g1 := compared_spec (Rw.dg _) (Rw.dg _) (digs_dig y.natAbs) (digs_dig x.natAbs) (digs_top _) (digs_top _) (by omega) (by omega)
  rw [val_dabs, val_dabs] at g0 g1
  simp only [iv] at g0 g1
  by_cases h : x < 0 <;> by_cases h2 : y < 0
  · have e1 : decide (x < 0) = true := decide_eq_true h
    have e2 : decide (y < 0) = true := decide_eq_true h2
    have e3 : (y.natAbs : Int) - (x.natAbs : Int) = x - y := by omega
    have e4 : (true == true) = true := rfl
    rw [e3] at g1
    simp -implicitDefEqProofs (maxSteps := 10000000) only [gantryref04_Compare, encI, go_sem, stcells, ldcells, iv, bv, e1, e2, e4, g1, reduceCtorEq, ↓reduceIte, Nat.reduceEqDiff]
  · have e1 : decide (x < 0) = true := decide_eq_true h
    have e2 : decide (y < 0) = false := decide_eq_false h2
    have e3 : Int.sign (x - y) = -1 := Int.sign_eq_neg_one_of_neg (by omega)
    have e4 : (true == false) = false := rfl
    simp -implicitDefEqProofs (maxSteps := 10000000) only [gantryref04_Compare, encI, go_sem, stcells, ldcells, iv, bv, e1, e2, e3, e4, reduceCtorEq, ↓reduceIte, Nat.reduceEqDiff]
  · have e1 : decide (x < 0) = false := decide_eq_false h
    have e2 : decide (y < 0) = true := decide_eq_true h2
    have e3 : Int.sign (x - y) = 1 := Int.sign_eq_one_of_pos (by omega)
    have e4 : (false == true) = false := rfl
    simp -implicitDefEqProofs (maxSteps := 10000000) only [gantryref04_Compare, encI, go_sem, stcells, ldcells, iv, bv, e1, e2, e3, e4, reduceCtorEq, ↓reduceIte, Nat.reduceEqDiff]
  · have e1 : decide (x < 0) = false := decide_eq_false h
    have e2 : decide (y < 0) = false := decide_eq_false h2
    have e3 : (x.natAbs : Int) - (y.natAbs : Int) = x - y := by omega
    have e4 : (false == false) = true := rfl
    rw [e3] at g0
    simp -implicitDefEqProofs (maxSteps := 10000000) only [gantryref04_Compare, encI, go_sem, stcells, ldcells, iv, bv, e1, e2, e4, g0, reduceCtorEq, ↓reduceIte, Nat.reduceEqDiff]
theorem rSign_spec {x : Int} (hx : nd x ≤ 1000000000000) : callX G n_gantryref04_Sign [encI x] = some (.d (iv (Int.sign x))) := by
  rw [callX_eq (cf := gantryref04_Sign) rfl]
  have g := rCompare_spec (x := x) (y := 0) hx (by rw [nd_zero]; omega)
  rw [Int.sub_zero, encI_zero, encI_agg x] at g
  simp only [iv, bv] at g
  simp -implicitDefEqProofs (maxSteps := 10000000) only [gantryref04_Sign, encI, go_sem, stcells, ldcells, iv, bv, g, reduceCtorEq, ↓reduceIte, Nat.reduceEqDiff]

section
variable (da db : D) (a b : List Int)
def rp_st (o : List Int) (c i : Int) : St := mkS [(0, .d da), (1, .d db), (5, gA 38 o), (6, ai c), (7, ai i)] (gH 38 o)
def rp_end (o : List Int) : St := mkS [(5, gA 38 o)] (gH 38 o)

theorem rp_ge {i : Nat} {l : List Int} (h : l.length ≤ i) : l.getD i 0 = 0 := by
  have _its : Its := inferInstance
  rw [List.getD_eq_getElem?_getD, List.getElem?_eq_none h]; rfl

theorem rp_stop (hra : Rw da a) (hrb : Rw db b) {o : List Int} {i : Nat} (h1 : a.length ≤ i) (h2 : b.length ≤ i) : X G gantryref04_plus_l0 (rp_st da db o 0 (i : Int)) = some (.x 0, rp_end o) := by
  have e1 : decide ((i : Int) < (a.length : Int)) = false := lt_f (by omega)
  have e2 : decide ((i : Int) < (b.length : Int)) = false := lt_f (by omega)
  have e3 : decide ((0 : Int) > 0) = false := rfl
  by_cases ho : o = []
  · subst ho
    simp -implicitDefEqProofs (maxSteps := 10000000) only [gantryref04_plus_l0, rp_st, rp_end, gA_nil, gH_nil, hupdO_none, go_sem, iv, bv, hra.len, hrb.len, e1, e2, e3, refsL_I, reduceCtorEq, ↓reduceIte, Nat.reduceEqDiff]
  · simp -implicitDefEqProofs (maxSteps := 10000000) only [gantryref04_plus_l0, rp_st, rp_end, gA_ne ho, gH_ne ho, go_sem, iv, bv, hra.len, hrb.len, e1, e2, e3, refsL_I, reduceCtorEq, ↓reduceIte, Nat.reduceEqDiff]

theorem rp_go (hra : Rw da a) (hrb : Rw db b) (ha : Dig a) (hb : Dig b) {o : List Int} {c : Int} {i : Nat} (hc : 0 ≤ c ∧ c ≤ 1) (hi : i < a.length ∨ i < b.length ∨ c > 0) (hil : i < 4611686018427387904) (hol : (o.length + 1) * 8 ≤ 140737488351232) :
    X G gantryref04_plus_l0 (rp_st da db o c (i : Int)) = some (.n, rp_st da db (o ++ [(a.getD i 0 + b.getD i 0 + c) % 1000000000]) ((a.getD i 0 + b.getD i 0 + c) / 1000000000) ((i + 1 : Nat) : Int)) := by
  obtain ⟨e1, e2, e3, e4, e5, e6, e7⟩ := add_ix (ha.getD i) (hb.getD i) hc
  have d1 := digit_spec hra (i := i)
  have d2 := digit_spec hrb (i := i)
  simp only [iv] at d1 d2
  have n1 := quo_pos (b := 1000000000) e3
  have n2 := rem_pos (b := 1000000000) e3
  have n3 : w64 ((i : Int) + 1) = ((i + 1 : Nat) : Int) := by rw [w64_id (by omega) (by omega)]; omega
  have f1 := app_fact hol
  have f2 := app_fact0
  generalize hv : (a.getD i 0 + b.getD i 0 + c) % 1000000000 = v at *
  generalize hq : (a.getD i 0 + b.getD i 0 + c) / 1000000000 = q at *
  have key : ∀ (t1 t2 t3 : Bool), (decide ((i : Int) < (a.length : Int)) = t1) → (decide ((i : Int) < (b.length : Int)) = t2) → (decide (c > 0) = t3) → (t1 || t2 || t3) = true → X G gantryref04_plus_l0 (rp_st da db o c (i : Int)) = some (.n, rp_st da db (o ++ [v]) q ((i + 1 : Nat) : Int)) := by
    intro t1 t2 t3 h1 h2 h3 h4
    by_cases ho : o = []
    · subst ho
      cases t1 <;> cases t2 <;> cases t3 <;> first
        | exact absurd h4 (by decide)
        | simp -implicitDefEqProofs (maxSteps := 10000000) only [gantryref04_plus_l0, rp_st, rp_end, gA_nil, gH_nil, hupdO_none, gA_one, gH_one, gA_snoc, gH_snoc, go_sem, src_row, iv, bv, hra.len, hrb.len, h1, h2, h3, d1, d2, e1, e2, e4, n1, n2, n3, f2, hv, hq, cellsI_one, D.one, allD, refsL_I, reduceCtorEq, ↓reduceIte, Nat.reduceEqDiff]
    · cases t1 <;> cases t2 <;> cases t3 <;> first
        | exact absurd h4 (by decide)
        | simp -implicitDefEqProofs (maxSteps := 10000000) only [gantryref04_plus_l0, rp_st, rp_end, gA_ne ho, gH_ne ho, gA_snoc, gH_snoc, go_sem, src_row, iv, bv, hra.len, hrb.len, h1, h2, h3, d1, d2, e1, e2, e4, n1, n2, n3, f1, f2, hv, hq, cellsI_snoc, cellsI_length, D.one, allD, refsL_I, reduceCtorEq, ↓reduceIte, Nat.reduceEqDiff]
  refine key _ _ _ rfl rfl rfl ?_
  simp only [Bool.or_eq_true, decide_eq_true_eq]
  omega

theorem rp_loop (hra : Rw da a) (hrb : Rw db b) (ha : Dig a) (hb : Dig b) (hl : (max a.length b.length + 2) * 8 ≤ 140737488351232) : ∀ (k i : Nat) (o : List Int) (c : Int), i + k = max a.length b.length + 1 → (0 ≤ c ∧ c ≤ 1) → (i = max a.length b.length + 1 → c = 0) → o.length = i → Dig o → val o + (1000000000 : Int) ^ i * c = val (a.take i) + val (b.take i) →
    ∃ o', X G (.loop gantryref04_plus_l0) (rp_st da db o c (i : Int)) = some (.x 0, rp_end o') ∧ Dig o' ∧ o'.length ≤ max a.length b.length + 1 ∧ val o' = val a + val b
  | 0, i, o, c, hi, hc, h0, ho, hd, hv => by
    have hc0 := h0 (by omega)
    subst hc0
    refine ⟨o, by rw [X_loop, rp_stop da db a b hra hrb (by omega) (by omega)]; rfl, hd, by omega, ?_⟩
    rw [Int.mul_zero, Int.add_zero, List.take_of_length_le (by omega), List.take_of_length_le (by omega)] at hv
    exact hv
  | k + 1, i, o, c, hi, hc, h0, ho, hd, hv => by
    by_cases hmore : i < a.length ∨ i < b.length ∨ c > 0
    · obtain ⟨_, _, _, _, e5, e6, e7⟩ := add_ix (ha.getD i) (hb.getD i) hc
      have hx := rp_go da db a b hra hrb ha hb hc hmore (by omega) (o := o) (by omega)
      have hlast : i + 1 = max a.length b.length + 1 → (a.getD i 0 + b.getD i 0 + c) / 1000000000 = 0 := by
        intro h
        rw [rp_ge (i := i) (l := a) (by omega), rp_ge (i := i) (l := b) (by omega)]
        omega
      obtain ⟨o', g1, g2⟩ := rp_loop hra hrb ha hb hl k (i + 1) (o ++ [(a.getD i 0 + b.getD i 0 + c) % 1000000000]) ((a.getD i 0 + b.getD i 0 + c) / 1000000000) (by omega) e5 hlast (by simp; omega) (snoc_dig hd e6) (by
        rw [snoc_val, ho, val_take_getD a, val_take_getD b, Int.pow_succ]
        generalize (a.getD i 0 + b.getD i 0 + c) % 1000000000 = R at *
        generalize (a.getD i 0 + b.getD i 0 + c) / 1000000000 = Q at *
        clear hx e5 e6 hlast
        grind)
      exact ⟨o', by rw [X_loop, hx]; exact g1, g2⟩
    · have hc0 : c = 0 := by omega
      subst hc0
      refine ⟨o, by rw [X_loop, rp_stop da db a b hra hrb (by omega) (by omega)]; rfl, hd, by omega, ?_⟩
      rw [Int.mul_zero, Int.add_zero, List.take_of_length_le (by omega), List.take_of_length_le (by omega)] at hv
      exact hv
end

theorem rplus_spec {da db : D} {a b : List Int} (hra : Rw da a) (hrb : Rw db b) (ha : Dig a) (hb : Dig b) (hl : (max a.length b.length + 2) * 8 ≤ 140737488351232) :
    ∃ out, callX G n_gantryref04_plus [da, db] = some (gR out) ∧ out.length ≤ max a.length b.length + 1 ∧ Dig out ∧ val out = val a + val b := by
  obtain ⟨o, h1, h2, h3, h4⟩ := rp_loop da db a b hra hrb ha hb hl (max a.length b.length + 1) 0 [] 0 (by omega) (by omega) (fun h => rfl) rfl .nil (by simp [val])
  refine ⟨o, ?_, h3, h2, h4⟩
  rw [callX_eq (cf := gantryref04_plus) rfl]
  by_cases ho : o = []
  · subst ho
    simp only [rp_st, rp_end, gA_nil, gH_nil, hupdO_none, go_sem, nc0] at h1
    simp -implicitDefEqProofs (maxSteps := 10000000) only [gantryref04_plus, gR, hupdO_none, go_sem, iv, bv, h1, refsL_I, reduceCtorEq, ↓reduceIte, Nat.reduceEqDiff]
  · simp only [rp_st, rp_end, gA_nil, gH_nil, hupdO_none, gA_ne ho, gH_ne ho, go_sem, nc0] at h1
    simp -implicitDefEqProofs (maxSteps := 10000000) only [gantryref04_plus, gR, ho, hupdO_none, go_sem, iv, bv, h1, refsL_I, allD_I, reduceCtorEq, ↓reduceIte, Nat.reduceEqDiff]
end Go.AM

/- gantryref04: minus, Add, Of -/
namespace Go.AM
open Go Go.RowKit

theorem retA_gR (k : Key) (h : Hp) (l : List Int) : retA k h false true (gR l) = some (.d (dg l), h) := by
  by_cases hl : l = []
  · subst hl; rfl
  · rw [gR, if_neg hl, dg_ne hl]; rfl
theorem sub_arith {x y c : Int} (hx : 0 ≤ x ∧ x < 1000000000) (hy : 0 ≤ y ∧ y < 1000000000) (hc : 0 ≤ c ∧ c ≤ 1) :
    w64 (x - y) = x - y ∧ w64 (x - y - c) = x - y - c ∧ (x - y - c < 0 → w64 (x - y - c + 1000000000) = x - y - c + 1000000000 ∧ 0 ≤ x - y - c + 1000000000 ∧ x - y - c + 1000000000 < 1000000000) ∧ (¬ x - y - c < 0 → 0 ≤ x - y - c ∧ x - y - c < 1000000000) :=
  ⟨w64_id (by omega) (by omega), w64_id (by omega) (by omega), fun _ => ⟨w64_id (by omega) (by omega), by omega, by omega⟩, fun _ => ⟨by omega, by omega⟩⟩
variable [Its]

section
variable (da db : D) (a b : List Int)
def rm_st (o : List Int) (c i : Int) : St := mkS [(0, .d da), (1, .d db), (5, gA 32 o), (6, ai c), (7, ai i)] (gH 32 o)
def rm_end (o : List Int) : St := mkS [(5, gA 32 o)] (gH 32 o)

theorem rm_stop (hra : Rw da a) {o : List Int} (c : Int) : X G gantryref04_minus_l0 (rm_st da db o c (a.length : Int)) = some (.x 0, rm_end o) := by
  have e1 : decide ((a.length : Int) < (a.length : Int)) = false := lt_f (by omega)
  by_cases ho : o = []
  · subst ho
    simp -implicitDefEqProofs (maxSteps := 10000000) only [gantryref04_minus_l0, rm_st, rm_end, gA_nil, gH_nil, hupdO_none, go_sem, iv, bv, hra.len, e1, refsL_I, reduceCtorEq, ↓reduceIte, Nat.reduceEqDiff]
  · simp -implicitDefEqProofs (maxSteps := 10000000) only [gantryref04_minus_l0, rm_st, rm_end, gA_ne ho, gH_ne ho, go_sem, iv, bv, hra.len, e1, refsL_I, reduceCtorEq, ↓reduceIte, Nat.reduceEqDiff]

theorem rm_go (hra : Rw da a) (hrb : Rw db b) (ha : Dig a) (hb : Dig b) {o : List Int} {c : Int} {i : Nat} (hc : 0 ≤ c ∧ c ≤ 1) (hi : i < a.length) (hil : i < 4611686018427387904) (hol : (o.length + 1) * 8 ≤ 140737488351232) :
    ∃ v c', (0 ≤ v ∧ v < 1000000000) ∧ (0 ≤ c' ∧ c' ≤ 1) ∧ v = a.getD i 0 - b.getD i 0 - c + 1000000000 * c' ∧ X G gantryref04_minus_l0 (rm_st da db o c (i : Int)) = some (.n, rm_st da db (o ++ [v]) c' ((i + 1 : Nat) : Int)) := by
  obtain ⟨e1, e2, e3, e4⟩ := sub_arith (ha.getD i) (hb.getD i) hc
  have d2 := digit_spec hrb (i := i)
  simp only [iv] at d2
  have n1 := hra.ixn (j := i) hi
  have n2 := fun hp => ldv hp a (j := i) hi
  have n3 : w64 ((i : Int) + 1) = ((i + 1 : Nat) : Int) := by rw [w64_id (by omega) (by omega)]; omega
  have n4 : decide ((i : Int) < (a.length : Int)) = true := lt_t (by omega)
  have f1 := app_fact hol
  have f2 := app_fact0
  obtain ⟨w, hw⟩ : ∃ w, a.getD i 0 - b.getD i 0 - c = w := ⟨_, rfl⟩
  rw [hw] at e2 e3 e4 ⊢
  by_cases h0 : w < 0
  · obtain ⟨e5, e6⟩ := e3 h0
    have e7 : decide (w < 0) = true := lt_t h0
    refine ⟨w + 1000000000, 1, e6, by omega, by omega, ?_⟩
    by_cases ho : o = []
    · subst ho
      simp -implicitDefEqProofs (maxSteps := 10000000) only [gantryref04_minus_l0, rm_st, gA_nil, gH_nil, hupdO_none, gA_one, gH_one, go_sem, src_row, iv, bv, hra.len, n1, n2, n3, n4, d2, e1, hw, e2, e5, e7, f2, cellsI_one, D.one, allD, refsL_I, reduceCtorEq, ↓reduceIte, Nat.reduceEqDiff]
    · simp -implicitDefEqProofs (maxSteps := 10000000) only [gantryref04_minus_l0, rm_st, gA_ne ho, gH_ne ho, gA_snoc, gH_snoc, go_sem, src_row, iv, bv, hra.len, n1, n2, n3, n4, d2, e1, hw, e2, e5, e7, f1, f2, cellsI_snoc, cellsI_length, D.one, allD, refsL_I, reduceCtorEq, ↓reduceIte, Nat.reduceEqDiff]
  · have e5 := e4 h0
    have e7 : decide (w < 0) = false := lt_f h0
    refine ⟨w, 0, e5, by omega, by omega, ?_⟩
    by_cases ho : o = []
    · subst ho
      simp -implicitDefEqProofs (maxSteps := 10000000) only [gantryref04_minus_l0, rm_st, gA_nil, gH_nil, hupdO_none, gA_one, gH_one, go_sem, src_row, iv, bv, hra.len, n1, n2, n3, n4, d2, e1, hw, e2, e7, f2, cellsI_one, D.one, allD, refsL_I, reduceCtorEq, ↓reduceIte, Nat.reduceEqDiff]
    · simp -implicitDefEqProofs (maxSteps := 10000000) only [gantryref04_minus_l0, rm_st, gA_ne ho, gH_ne ho, gA_snoc, gH_snoc, go_sem, src_row, iv, bv, hra.len, n1, n2, n3, n4, d2, e1, hw, e2, e7, f1, f2, cellsI_snoc, cellsI_length, D.one, allD, refsL_I, reduceCtorEq, ↓reduceIte, Nat.reduceEqDiff]

theorem rm_loop (hra : Rw da a) (hrb : Rw db b) (ha : Dig a) (hb : Dig b) (hl : (a.length + 1) * 8 ≤ 140737488351232) : ∀ (k i : Nat) (o : List Int) (c : Int), i + k = a.length → (0 ≤ c ∧ c ≤ 1) → o.length = i → Dig o → val o - (1000000000 : Int) ^ i * c = val (a.take i) - val (b.take i) →
    ∃ o' c', X G (.loop gantryref04_minus_l0) (rm_st da db o c (i : Int)) = some (.x 0, rm_end o') ∧ Dig o' ∧ o'.length = a.length ∧ (0 ≤ c' ∧ c' ≤ 1) ∧ val o' - (1000000000 : Int) ^ a.length * c' = val a - val (b.take a.length)
  | 0, i, o, c, hi, hc, ho, hd, hv => by
    obtain rfl : i = a.length := by omega
    refine ⟨o, c, by rw [X_loop, rm_stop da db a hra c]; rfl, hd, ho, hc, ?_⟩
    rw [hv, List.take_length]
  | k + 1, i, o, c, hi, hc, ho, hd, hv => by
    obtain ⟨v, c', h1, h2, h3, hx⟩ := rm_go da db a b hra hrb ha hb hc (i := i) (o := o) (by omega) (by omega) (by omega)
    obtain ⟨o', c2, g1, g2⟩ := rm_loop hra hrb ha hb hl k (i + 1) (o ++ [v]) c' (by omega) h2 (by simp; omega) (snoc_dig hd h1) (by
      rw [snoc_val, ho, val_take_getD a, val_take_getD b, Int.pow_succ, h3]
      clear hx h1 h2 h3
      grind)
    exact ⟨o', c2, by rw [X_loop, hx]; exact g1, g2⟩
end

theorem rminus_spec {da db : D} {a b : List Int} (hra : Rw da a) (hrb : Rw db b) (ha : Dig a) (hb : Dig b) (hl : (a.length + 1) * 8 ≤ 140737488351232) (hbl : b.length ≤ a.length) (hle : val b ≤ val a) :
    ∃ out, callX G n_gantryref04_minus [da, db] = some (gR out) ∧ out.length = a.length ∧ Dig out ∧ val out = val a - val b := by
  obtain ⟨o, c, h1, h2, h3, h4, h5⟩ := rm_loop da db a b hra hrb ha hb hl a.length 0 [] 0 (by omega) (by omega) rfl .nil (by simp [val])
  rw [List.take_of_length_le hbl] at h5
  have hc : c = 0 := by
    rcases Int.lt_or_le 0 c with h | h
    · exfalso
      have e1 : c = 1 := by omega
      subst e1
      have e2 := val_lt h2
      rw [h3] at e2
      rw [Int.mul_one] at h5
      generalize (1000000000 : Int) ^ a.length = x at *
      omega
    · omega
  subst hc
  rw [Int.mul_zero, Int.sub_zero] at h5
  refine ⟨o, ?_, h3, h2, h5⟩
  rw [callX_eq (cf := gantryref04_minus) rfl]
  by_cases ho : o = []
  · subst ho
    simp only [rm_st, rm_end, gA_nil, gH_nil, go_sem, nc0] at h1
    simp -implicitDefEqProofs (maxSteps := 10000000) only [gantryref04_minus, gR, hupdO_none, go_sem, iv, bv, h1, refsL_I, reduceCtorEq, ↓reduceIte, Nat.reduceEqDiff]
  · simp only [rm_st, rm_end, gA_nil, gH_nil, gA_ne ho, gH_ne ho, go_sem, nc0] at h1
    simp -implicitDefEqProofs (maxSteps := 10000000) only [gantryref04_minus, gR, ho, hupdO_none, go_sem, iv, bv, h1, refsL_I, allD_I, reduceCtorEq, ↓reduceIte, Nat.reduceEqDiff]

theorem rAdd_spec {x y : Int} (hx : nd x ≤ 1000000000000) (hy : nd y ≤ 1000000000000) : callX G n_gantryref04_Add [encI x, encI y] = some (.d (encI (x + y))) := by
  rw [callX_eq (cf := gantryref04_Add) rfl]
  have hx' : (digs x.natAbs).length ≤ 1000000000000 := hx
  have hy' : (digs y.natAbs).length ≤ 1000000000000 := hy
  have dx := digs_dig x.natAbs
  have dy := digs_dig y.natAbs
  have vx := val_dabs x
  have vy := val_dabs y
  by_cases hs : decide (x < 0) = decide (y < 0)
  · obtain ⟨out, g1, g2, g3, g4⟩ := rplus_spec (Rw.dg _) (Rw.dg _) dx dy (by omega)
    have g5 := normal_spec (decide (x < 0)) (Rw.dg out) (by omega) g3
    have e1 : (decide (x < 0) == decide (y < 0)) = true := by rw [hs]; simp
    have e2 : sgn (decide (x < 0)) (val out) = x + y := by
      rw [g4, vx, vy]
      by_cases h : x < 0
      · have h2 : y < 0 := by simpa [h] using hs
        simp [sgn, h]; omega
      · have h2 : ¬ y < 0 := by simpa [h] using hs
        simp [sgn, h]; omega
    rw [e2] at g5
    simp only [bv] at g5
    simp -implicitDefEqProofs (maxSteps := 10000000) only [gantryref04_Add, encI, go_sem, retA_gR, stcells, ldcells, iv, bv, e1, g1, g5, reduceCtorEq, ↓reduceIte, Nat.reduceEqDiff]
  · have e1 : (decide (x < 0) == decide (y < 0)) = false := by simpa using hs
    have g0 := compared_spec (Rw.dg _) (Rw.dg _) dx dy (digs_top _) (digs_top _) (by omega) (by omega)
    rw [vx, vy] at g0
    simp only [iv] at g0
    by_cases hlt : x.natAbs < y.natAbs
    · have hsg : Int.sign ((x.natAbs : Int) - (y.natAbs : Int)) = -1 := Int.sign_eq_neg_one_of_neg (by omega)
      rw [hsg] at g0
      obtain ⟨out, g1, g2, g3, g4⟩ := rminus_spec (Rw.dg _) (Rw.dg _) dy dx (by omega) (digs_len_mono (by omega)) (by rw [vx, vy]; omega)
      have g5 := normal_spec (decide (y < 0)) (Rw.dg out) (by omega) g3
      have e2 : sgn (decide (y < 0)) (val out) = x + y := by
        rw [g4, vx, vy]
        by_cases h : y < 0
        · have h2 : ¬ x < 0 := by intro h3; exact hs (by simp [h, h3])
          simp [sgn, h]; omega
        · have h2 : x < 0 := by
            rcases Int.lt_or_le x 0 with h3 | h3
            · exact h3
            · exact absurd (by simp [h, Int.not_lt.2 h3]) hs
          simp [sgn, h]; omega
      rw [e2] at g5
      simp only [bv] at g5
      have e3 : decide ((-1 : Int) < 0) = true := rfl
      simp -implicitDefEqProofs (maxSteps := 10000000) only [gantryref04_Add, encI, go_sem, retA_gR, stcells, ldcells, iv, bv, e1, e3, g0, g1, g5, reduceCtorEq, ↓reduceIte, Nat.reduceEqDiff]
    · have e3 : decide (Int.sign ((x.natAbs : Int) - (y.natAbs : Int)) < 0) = false := by
        apply lt_f
        rcases Int.lt_or_le 0 ((x.natAbs : Int) - (y.natAbs : Int)) with h | h
        · rw [Int.sign_eq_one_of_pos h]; omega
        · rw [show (x.natAbs : Int) - (y.natAbs : Int) = 0 by omega]; exact Int.lt_irrefl 0
      obtain ⟨out, g1, g2, g3, g4⟩ := rminus_spec (Rw.dg _) (Rw.dg _) dx dy (by omega) (digs_len_mono (by omega)) (by rw [vx, vy]; omega)
      have g5 := normal_spec (decide (x < 0)) (Rw.dg out) (by omega) g3
      have e2 : sgn (decide (x < 0)) (val out) = x + y := by
        rw [g4, vx, vy]
        by_cases h : x < 0
        · have h2 : ¬ y < 0 := by intro h3; exact hs (by simp [h, h3])
          simp [sgn, h]; omega
        · have h2 : y < 0 := by
            rcases Int.lt_or_le y 0 with h3 | h3
            · exact h3
            · exact absurd (by simp [h, Int.not_lt.2 h3]) hs
          simp [sgn, h]; omega
      rw [e2] at g5
      simp only [bv] at g5
      simp -implicitDefEqProofs (maxSteps := 10000000) only [gantryref04_Add, encI, go_sem, retA_gR, stcells, ldcells, iv, bv, e1, e3, g0, g1, g5, reduceCtorEq, ↓reduceIte, Nat.reduceEqDiff]
end Go.AM

/- gantryref04: Of, Mul -/
namespace Go.AM
open Go Go.RowKit

theorem of_arith (neg : Bool) {m : Nat} (hm : m ≤ 9223372036854775808) (hp : neg = false → m < 9223372036854775808) :
    (sgn neg (m : Int)).tmod 1000000000 = sgn neg ((m % 1000000000 : Nat) : Int) ∧ w64 ((sgn neg (m : Int)).tdiv 1000000000) = sgn neg ((m / 1000000000 : Nat) : Int) := by
  have e1 : (m : Int).tmod 1000000000 = ((m % 1000000000 : Nat) : Int) := by rw [Int.tmod_eq_emod_of_nonneg (by omega)]; rfl
  have e2 : (m : Int).tdiv 1000000000 = ((m / 1000000000 : Nat) : Int) := by rw [Int.tdiv_eq_ediv_of_nonneg (by omega)]; rfl
  cases neg
  · simp only [sgn, Bool.false_eq_true, if_false]
    rw [e1, e2]
    exact ⟨rfl, w64_id (by omega) (by omega)⟩
  · simp only [sgn, if_true]
    rw [Int.neg_tmod, Int.neg_tdiv, e1, e2]
    exact ⟨rfl, w64_id (by omega) (by omega)⟩
variable [Its]

section
variable (neg : Bool)
def rof_st (d : List Int) (n : Int) : St := mkS [(0, ai n), (2, .ptr [2] 0), (3, gA 19 d), (4, ab neg)] (([2], box0) :: gH 19 d)
def rof_end (d : List Int) : St := mkS [(2, .ptr [2] 0), (3, gA 19 d), (4, ab neg)] (([2], box0) :: gH 19 d)
theorem rof_stop {d : List Int} : X G gantryref04_Of_l0 (rof_st neg d 0) = some (.x 0, rof_end neg d) := by
  have e1 : ((0 : Int) != 0) = false := rfl
  by_cases ho : d = []
  · subst ho
    simp -implicitDefEqProofs (maxSteps := 10000000) only [gantryref04_Of_l0, rof_st, rof_end, gA_nil, gH_nil, hupdO_none, box0, go_sem, iv, bv, e1, refsL_I, reduceCtorEq, ↓reduceIte, Nat.reduceEqDiff]
  · simp -implicitDefEqProofs (maxSteps := 10000000) only [gantryref04_Of_l0, rof_st, rof_end, gA_ne ho, gH_ne ho, box0, go_sem, iv, bv, e1, refsL_I, reduceCtorEq, ↓reduceIte, Nat.reduceEqDiff]

theorem rof_go {d : List Int} {m : Nat} (hm : m ≤ 9223372036854775808) (hp : neg = false → m < 9223372036854775808) (h0 : m ≠ 0) (hd : (d.length + 1) * 8 ≤ 140737488351232) :
    X G gantryref04_Of_l0 (rof_st neg d (sgn neg (m : Int))) = some (.n, rof_st neg (d ++ [((m % 1000000000 : Nat) : Int)]) (sgn neg ((m / 1000000000 : Nat) : Int))) := by
  obtain ⟨e1, e2⟩ := of_arith neg hm hp
  have e3 : (sgn neg (m : Int) != 0) = true := bne_t (by cases neg <;> simp [sgn] <;> omega)
  have f1 := app_fact hd
  have f2 := app_fact0
  by_cases hk : neg = true ∧ m % 1000000000 ≠ 0
  · obtain ⟨rfl, hk⟩ := hk
    have e4 : decide (sgn true ((m % 1000000000 : Nat) : Int) < 0) = true := lt_t (by simp only [sgn, if_true]; omega)
    have e5 : w64 (0 - sgn true ((m % 1000000000 : Nat) : Int)) = ((m % 1000000000 : Nat) : Int) := by
      rw [w64_id (by simp only [sgn, if_true]; omega) (by simp only [sgn, if_true]; omega)]
      simp only [sgn, if_true]; omega
    generalize hv : ((m % 1000000000 : Nat) : Int) = v at *
    by_cases ho : d = []
    · subst ho
      simp -implicitDefEqProofs (maxSteps := 10000000) only [gantryref04_Of_l0, rof_st, gA_nil, gH_nil, hupdO_none, gA_one, gH_one, box0, go_sem, src_row, iv, bv, e1, e2, e3, e4, e5, f2, cellsI_one, D.one, allD, refsL_I, reduceCtorEq, ↓reduceIte, Nat.reduceEqDiff]
    · simp -implicitDefEqProofs (maxSteps := 10000000) only [gantryref04_Of_l0, rof_st, gA_ne ho, gH_ne ho, gA_snoc, gH_snoc, box0, go_sem, src_row, iv, bv, e1, e2, e3, e4, e5, f1, f2, cellsI_snoc, cellsI_length, D.one, allD, refsL_I, reduceCtorEq, ↓reduceIte, Nat.reduceEqDiff]
  · have e6 : sgn neg ((m % 1000000000 : Nat) : Int) = ((m % 1000000000 : Nat) : Int) := by
      cases neg
      · rfl
      · have : m % 1000000000 = 0 := Classical.byContradiction fun h => hk ⟨rfl, h⟩
        rw [this]; rfl
    rw [e6] at e1
    have e4 : decide (((m % 1000000000 : Nat) : Int) < 0) = false := lt_f (by omega)
    generalize hv : ((m % 1000000000 : Nat) : Int) = v at *
    by_cases ho : d = []
    · subst ho
      simp -implicitDefEqProofs (maxSteps := 10000000) only [gantryref04_Of_l0, rof_st, gA_nil, gH_nil, hupdO_none, gA_one, gH_one, box0, go_sem, src_row, iv, bv, e1, e2, e3, e4, f2, cellsI_one, D.one, allD, refsL_I, reduceCtorEq, ↓reduceIte, Nat.reduceEqDiff]
    · simp -implicitDefEqProofs (maxSteps := 10000000) only [gantryref04_Of_l0, rof_st, gA_ne ho, gH_ne ho, gA_snoc, gH_snoc, box0, go_sem, src_row, iv, bv, e1, e2, e3, e4, f1, f2, cellsI_snoc, cellsI_length, D.one, allD, refsL_I, reduceCtorEq, ↓reduceIte, Nat.reduceEqDiff]

theorem rof_loop : ∀ (m : Nat) (d : List Int), m ≤ 9223372036854775808 → (neg = false → m < 9223372036854775808) → d.length + (digs m).length ≤ 3 →
    X G (.loop gantryref04_Of_l0) (rof_st neg d (sgn neg (m : Int))) = some (.x 0, rof_end neg (d ++ digs m)) := by
  intro m
  induction m using Nat.strongRecOn with
  | _ m ih =>
  intro d hm hp hl
  rw [X_loop]
  by_cases h0 : m = 0
  · subst h0
    have e : sgn neg ((0 : Nat) : Int) = 0 := by cases neg <;> rfl
    rw [e, rof_stop, digs_zero, List.append_nil]; rfl
  · have hd := digs_pos (Nat.pos_of_ne_zero h0)
    rw [hd, List.length_cons] at hl
    rw [rof_go neg hm hp h0 (by omega), Option.bind_some, if_pos rfl]
    have := ih (m / 1000000000) (Nat.div_lt_self (Nat.pos_of_ne_zero h0) (by omega)) (d ++ [((m % 1000000000 : Nat) : Int)]) (by omega) (fun h => by have := hp h; omega) (by simp; omega)
    rw [hd]
    rw [this, List.append_assoc]
    rfl
end

theorem rOf_spec {n : Int} (h : I64 n) : callX G n_gantryref04_Of [iv n] = some (.d (encI n)) := by
  obtain ⟨h1, h2⟩ := h
  rw [callX_eq (cf := gantryref04_Of) rfl]
  have hsg : sgn (decide (n < 0)) (n.natAbs : Int) = n := by
    by_cases h : n < 0
    · simp [sgn, h]; omega
    · simp [sgn, h]; omega
  have hnd : (digs n.natAbs).length ≤ 3 := nd_i64 ⟨h1, h2⟩
  have hl := rof_loop (decide (n < 0)) n.natAbs [] (by omega) (fun h => by have : ¬ n < 0 := of_decide_eq_false h; omega) (by simpa using hnd)
  rw [hsg, List.nil_append] at hl
  have hn := normal_spec (decide (n < 0)) (Rw.dg (digs n.natAbs)) (by omega) (digs_dig _)
  rw [val_dabs, hsg] at hn
  simp only [bv] at hn
  by_cases h0 : digs n.natAbs = []
  · rw [h0] at hl hn
    simp only [rof_st, rof_end, gA_nil, gH_nil, box0, go_sem] at hl
    simp only [dg_nil] at hn
    simp -implicitDefEqProofs (maxSteps := 10000000) only [gantryref04_Of, encI, frzSt, hupdO_none, go_sem, stcells, ldcells, iv, bv, hl, hn, reduceCtorEq, ↓reduceIte, Nat.reduceEqDiff]
  · simp only [rof_st, rof_end, gA_nil, gH_nil, gA_ne h0, gH_ne h0, box0, go_sem] at hl
    rw [dg_ne h0] at hn
    simp -implicitDefEqProofs (maxSteps := 10000000) only [gantryref04_Of, encI, frzSt, hupdO_none, go_sem, stcells, ldcells, iv, bv, hl, hn, allD_I, refsL_I, reduceCtorEq, ↓reduceIte, Nat.reduceEqDiff]
end Go.AM

/- gantryref04: Mul -/
namespace Go.AM
open Go Go.RowKit

theorem rmul_w {o a b c : Int} (ho : 0 ≤ o ∧ o < 1000000000) (ha : 0 ≤ a ∧ a < 1000000000) (hb : 0 ≤ b ∧ b < 1000000000) (hc : 0 ≤ c ∧ c < 1000000000) :
    w64 (a * b) = a * b ∧ w64 (o + a * b) = o + a * b ∧ w64 (o + a * b + c) = o + a * b + c ∧ 0 ≤ o + a * b + c ∧ w64 ((o + a * b + c) / 1000000000) = (o + a * b + c) / 1000000000 ∧
    (0 ≤ (o + a * b + c) / 1000000000 ∧ (o + a * b + c) / 1000000000 < 1000000000) ∧ (0 ≤ (o + a * b + c) % 1000000000 ∧ (o + a * b + c) % 1000000000 < 1000000000) ∧ (o + a * b + c) % 1000000000 + 1000000000 * ((o + a * b + c) / 1000000000) = o + a * b + c := by
  obtain ⟨m1, m2, _⟩ := kn_sub (u := 0) (c := 0) (by omega) ha hb (by omega)
  generalize a * b = x at *
  refine ⟨w64_id (by omega) (by omega), w64_id (by omega) (by omega), w64_id (by omega) (by omega), by omega, w64_id (by omega) (by omega), by omega, by omega, by omega⟩
theorem rmul_ix {i k n N : Nat} (h : i + k < N) (hN : N < 4611686018427387904) : w64 ((i : Int) + (k : Int)) = ((i + k : Nat) : Int) ∧ ((0 : Int) ≤ ((i + k : Nat) : Int) ∧ ((i + k : Nat) : Int) < ((N : Nat) : Int)) ∧ w64 ((k : Int) + 1) = ((k + 1 : Nat) : Int) ∧ w64 ((i : Int) + 1) = ((i + 1 : Nat) : Int) := by
  refine ⟨?_, by omega, ?_, ?_⟩ <;> rw [w64_id (by omega) (by omega)] <;> omega
def bxI (neg : Bool) (d : D) : Obj := ⟨0, 0, [.d (.v (.bool neg)), .d d], false⟩
variable [Its]

section
variable (na nb : Bool) (da db : D) (a b : List Int) (N : Nat)
def rx_st (i : Int) (o : List Int) (c k : Int) : St := mkS [(2, .ptr [2] 0), (3, .ptr [3] 0), (4, .ptr [4] 0), (5, .own [17] N), (6, ai i), (7, ai c), (8, ai k)] [([2], bxI na da), ([3], bxI nb db), ([4], box0), ([17], arrI N o)]
def rx_end (i : Int) (o : List Int) (c : Int) : St := mkS [(2, .ptr [2] 0), (3, .ptr [3] 0), (4, .ptr [4] 0), (5, .own [17] N), (6, ai i), (7, ai c)] [([2], bxI na da), ([3], bxI nb db), ([4], box0), ([17], arrI N o)]
def ry_st (i : Int) (o : List Int) : St := mkS [(2, .ptr [2] 0), (3, .ptr [3] 0), (4, .ptr [4] 0), (5, .own [17] N), (6, ai i)] [([2], bxI na da), ([3], bxI nb db), ([4], box0), ([17], arrI N o)]
def ry_end (o : List Int) : St := mkS [(2, .ptr [2] 0), (3, .ptr [3] 0), (4, .ptr [4] 0), (5, .own [17] N)] [([2], bxI na da), ([3], bxI nb db), ([4], box0), ([17], arrI N o)]

theorem rx_stop (hrb : Rw db b) {i : Int} {o : List Int} {c : Int} : X G gantryref04_Mul_l0 (rx_st na nb da db N i o c (b.length : Int)) = some (.x 2, rx_end na nb da db N i o c) := by
  have e1 : decide ((b.length : Int) < (b.length : Int)) = false := lt_f (by omega)
  simp -implicitDefEqProofs (maxSteps := 10000000) only [gantryref04_Mul_l0, rx_st, rx_end, bxI, box0, go_sem, ldcells, iv, bv, hrb.len, e1, refsL_I, reduceCtorEq, ↓reduceIte, Nat.reduceEqDiff]
theorem rx_go (hra : Rw da a) (hrb : Rw db b) (ha : Dig a) (hb : Dig b) {o : List Int} (ho : Dig o) (hoN : o.length = N) (hN : N < 4611686018427387904) {c : Int} (hc : 0 ≤ c ∧ c < 1000000000) {i k : Nat} (hi : i < a.length) (hk : k < b.length) (hik : i + k < N) :
    X G gantryref04_Mul_l0 (rx_st na nb da db N (i : Int) o c (k : Int)) = some (.n, rx_st na nb da db N (i : Int) (o.set (i + k) ((o.getD (i + k) 0 + a.getD i 0 * b.getD k 0 + c) % 1000000000)) ((o.getD (i + k) 0 + a.getD i 0 * b.getD k 0 + c) / 1000000000) ((k + 1 : Nat) : Int)) := by
  obtain ⟨e1, e2, e3, e4, e5, _⟩ := rmul_w (ho.getD (i + k)) (ha.getD i) (hb.getD k) hc
  obtain ⟨i1, i2, i3, _⟩ := rmul_ix (n := 0) hik hN
  have n1 := hra.ixn (j := i) hi
  have n2 := fun hp => ldv hp a (j := i) hi
  have n3 := hrb.ixn (j := k) hk
  have n4 := fun hp => ldv hp b (j := k) hk
  have n5 := ldcells_I (l := o) (off := i + k) (hoN ▸ hik)
  have n6 := fun v => stcells_I (l := o) (off := i + k) (v := v) (hoN ▸ hik)
  have n7 : decide ((k : Int) < (b.length : Int)) = true := lt_t (by omega)
  have q1 := quo_pos (b := 1000000000) e4
  have q2 := rem_pos (b := 1000000000) e4
  have l2 : ∀ (h : Hp) (cs : List A) (o : Nat), ldcells none o cs = cs[o]? := fun _ _ _ => rfl
  have l3 : ∀ (n : Bool) (d : D), ldcells none 1 [A.d (.v (.bool n)), A.d d] = some (.d d) := fun _ _ => rfl
  simp -implicitDefEqProofs (maxSteps := 10000000) only [gantryref04_Mul_l0, rx_st, bxI, box0, go_sem, l3, iv, bv, hrb.len, e1, e2, e3, e5, q1, q2, i1, i2, i3, n1, n2, n3, n4, n5, n6, n7, allD, refsL_I, allD_I, cellsI_length, reduceCtorEq, ↓reduceIte, Nat.reduceEqDiff]

theorem rx_loop (hra : Rw da a) (hrb : Rw db b) (ha : Dig a) (hb : Dig b) (hN : N < 4611686018427387904) {i : Nat} (hi : i < a.length) (hib : i + b.length < N) (u0 : List Int) : ∀ (j k : Nat) (o : List Int) (c : Int), k + j = b.length → Dig o → o.length = N → (0 ≤ c ∧ c < 1000000000) → (∀ x, i + k ≤ x → o.getD x 0 = u0.getD x 0) →
    val o + (1000000000 : Int) ^ (i + k) * c = val u0 + (1000000000 : Int) ^ i * (a.getD i 0 * val (b.take k)) →
    ∃ o' c', X G (.loop gantryref04_Mul_l0) (rx_st na nb da db N (i : Int) o c (k : Int)) = some (.x 2, rx_end na nb da db N (i : Int) o' c') ∧ Dig o' ∧ o'.length = N ∧ (0 ≤ c' ∧ c' < 1000000000) ∧ (∀ x, i + b.length ≤ x → o'.getD x 0 = u0.getD x 0) ∧
      val o' + (1000000000 : Int) ^ (i + b.length) * c' = val u0 + (1000000000 : Int) ^ i * (a.getD i 0 * val b)
  | 0, k, o, c, hk, ho, hoN, hc, h1, hv => by
    obtain rfl : k = b.length := by omega
    refine ⟨o, c, by rw [X_loop, rx_stop na nb da db b N hrb]; rfl, ho, hoN, hc, h1, ?_⟩
    rw [hv, List.take_length]
  | j + 1, k, o, c, hk, ho, hoN, hc, h1, hv => by
    have hx := rx_go na nb da db a b N hra hrb ha hb ho hoN hN hc hi (k := k) (by omega) (by omega)
    obtain ⟨_, _, _, _, _, e6, e7, e8⟩ := rmul_w (ho.getD (i + k)) (ha.getD i) (hb.getD k) hc
    obtain ⟨o', c2, g1, g2⟩ := rx_loop hra hrb ha hb hN hi hib u0 j (k + 1) (o.set (i + k) ((o.getD (i + k) 0 + a.getD i 0 * b.getD k 0 + c) % 1000000000)) ((o.getD (i + k) 0 + a.getD i 0 * b.getD k 0 + c) / 1000000000) (by omega) (ho.set e7) (by simpa using hoN) e6 (fun x hx' => by rw [getD_set_ne _ (by omega)]; exact h1 x (by omega)) (by
      rw [val_set _ _ _ (by omega), val_take_getD b k, show i + (k + 1) = (i + k) + 1 by omega, Int.pow_succ, Int.pow_add]
      rw [Int.pow_add] at hv
      generalize (o.getD (i + k) 0 + a.getD i 0 * b.getD k 0 + c) % 1000000000 = R at *
      generalize (o.getD (i + k) 0 + a.getD i 0 * b.getD k 0 + c) / 1000000000 = Q at *
      clear hx e6 e7 h1
      grind)
    exact ⟨o', c2, by rw [X_loop, hx]; exact g1, g2⟩

theorem ry_stop (hra : Rw da a) {o : List Int} : X G gantryref04_Mul_l1 (ry_st na nb da db N (a.length : Int) o) = some (.x 0, ry_end na nb da db N o) := by
  have e1 : decide ((a.length : Int) < (a.length : Int)) = false := lt_f (by omega)
  simp -implicitDefEqProofs (maxSteps := 10000000) only [gantryref04_Mul_l1, ry_st, ry_end, bxI, box0, go_sem, ldcells, iv, bv, hra.len, e1, refsL_I, reduceCtorEq, ↓reduceIte, Nat.reduceEqDiff]

theorem ry_go (hra : Rw da a) (hrb : Rw db b) (ha : Dig a) (hb : Dig b) (hNe : a.length + b.length = N) (hN : N < 4611686018427387904) {o : List Int} (ho : Dig o) (hoN : o.length = N) {i : Nat} (hi : i < a.length) (hz : ∀ x, i + b.length ≤ x → o.getD x 0 = 0) (hv : val o = val (a.take i) * val b) :
    ∃ o', Dig o' ∧ o'.length = N ∧ (∀ x, i + 1 + b.length ≤ x → o'.getD x 0 = 0) ∧ val o' = val (a.take (i + 1)) * val b ∧ X G gantryref04_Mul_l1 (ry_st na nb da db N (i : Int) o) = some (.n, ry_st na nb da db N ((i + 1 : Nat) : Int) o') := by
  have hib : i + b.length < N := by omega
  obtain ⟨o1, c1, hx, d1, l1, hc, h1, hv1⟩ := rx_loop na nb da db a b N hra hrb ha hb hN hi hib o b.length 0 o 0 (by omega) ho hoN (by omega) (fun _ _ => rfl) (by simp [val])
  refine ⟨o1.set (i + b.length) c1, d1.set hc, by simpa using l1, fun x hx' => by rw [getD_set_ne _ (by omega), h1 x (by omega)]; exact hz x (by omega), ?_, ?_⟩
  · rw [val_set _ _ _ (by omega), h1 _ (Nat.le_refl _), hz _ (Nat.le_refl _), Int.sub_zero, hv1, hv, val_take_getD a i]
    grind
  · obtain ⟨i1, i2, _, i4⟩ := rmul_ix (n := 0) hib hN
    have n6 := fun v => stcells_I (l := o1) (off := i + b.length) (v := v) (by omega)
    have n7 : decide ((i : Int) < (a.length : Int)) = true := lt_t (by omega)
    have l3 : ∀ (n : Bool) (d : D), ldcells none 1 [A.d (.v (.bool n)), A.d d] = some (.d d) := fun _ _ => rfl
    simp only [rx_st, rx_end, bxI, box0, go_sem, nc0] at hx
    simp -implicitDefEqProofs (maxSteps := 10000000) only [gantryref04_Mul_l1, ry_st, bxI, box0, go_sem, l3, iv, bv, hra.len, hrb.len, i1, i2, i4, n6, n7, hx, allD, refsL_I, allD_I, cellsI_length, reduceCtorEq, ↓reduceIte, Nat.reduceEqDiff]

theorem ry_loop (hra : Rw da a) (hrb : Rw db b) (ha : Dig a) (hb : Dig b) (hNe : a.length + b.length = N) (hN : N < 4611686018427387904) : ∀ (k i : Nat) (o : List Int), i + k = a.length → Dig o → o.length = N → (∀ x, i + b.length ≤ x → o.getD x 0 = 0) → val o = val (a.take i) * val b →
    ∃ o', X G (.loop gantryref04_Mul_l1) (ry_st na nb da db N (i : Int) o) = some (.x 0, ry_end na nb da db N o') ∧ Dig o' ∧ o'.length = N ∧ val o' = val a * val b
  | 0, i, o, hi, ho, hoN, hz, hv => by
    obtain rfl : i = a.length := by omega
    exact ⟨o, by rw [X_loop, ry_stop na nb da db a N hra]; rfl, ho, hoN, by rw [hv, List.take_length]⟩
  | k + 1, i, o, hi, ho, hoN, hz, hv => by
    obtain ⟨o1, d1, l1, z1, v1, hx⟩ := ry_go na nb da db a b N hra hrb ha hb hNe hN ho hoN (i := i) (by omega) hz hv
    obtain ⟨o', g1, g2⟩ := ry_loop hra hrb ha hb hNe hN k (i + 1) o1 (by omega) d1 l1 z1 v1
    exact ⟨o', by rw [X_loop, hx]; exact g1, g2⟩
end

theorem rMul_spec {x y : Int} (hx : nd x ≤ 1000000000000) (hy : nd y ≤ 1000000000000) : callX G n_gantryref04_Mul [encI x, encI y] = some (.d (encI (x * y))) := by
  rw [callX_eq (cf := gantryref04_Mul) rfl]
  have hx' : (digs x.natAbs).length ≤ 1000000000000 := hx
  have hy' : (digs y.natAbs).length ≤ 1000000000000 := hy
  obtain ⟨N, hN⟩ : ∃ N, (digs x.natAbs).length + (digs y.natAbs).length = N := ⟨_, rfl⟩
  obtain ⟨o, g1, g2, g3, g4⟩ := ry_loop (decide (x < 0)) (decide (y < 0)) (dg (digs x.natAbs)) (dg (digs y.natAbs)) (digs x.natAbs) (digs y.natAbs) N (Rw.dg _) (Rw.dg _) (digs_dig _) (digs_dig _) hN (by omega) (digs x.natAbs).length 0 (List.replicate N 0) (by omega) (Dig.replicate _) (by simp)
    (fun x _ => by simp only [List.getD_eq_getElem?_getD, List.getElem?_replicate]; split <;> rfl) (by rw [val_replicate]; simp [val])
  have e0 := lenA_dg (digs x.natAbs)
  have e1 := lenA_dg (digs y.natAbs)
  have hw : w64 (((digs x.natAbs).length : Int) + ((digs y.natAbs).length : Int)) = ((N : Nat) : Int) := by rw [w64_id (by omega) (by omega)]; omega
  have hm := bnd N (by omega)
  have g5 := normal_spec (!(decide (x < 0) == decide (y < 0))) (Rw.row o) (by omega) g2
  rw [g4, val_dabs, val_dabs, sgn_mul'] at g5
  simp only [rowI, bv, g3] at g5
  simp only [ry_st, ry_end, bxI, box0, go_sem, nc0] at g1
  simp -implicitDefEqProofs (maxSteps := 10000000) only [gantryref04_Mul, encI, frzSt, go_sem, stcells, ldcells, iv, bv, e0, e1, hw, hm, rep_I, refsL_I, allD_I, g1, g5, reduceCtorEq, ↓reduceIte, Nat.reduceEqDiff]
end Go.AM

