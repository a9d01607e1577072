/- Part 7 of the proof: a small machine, its soundness against the model, and what the program's functions compute on it. -/
import Derived.Test.YtfdelaplhpmneaaGreatM6
import Derived.Test.YtfdelaplhpmneaaGreatM3
set_option linter.unusedVariables false
set_option linter.unusedSimpArgs false
/- gantryref04: Mul -/
namespace Go.AM
open Go Go.RowKit

theorem rmul_w {o a b c : Int} (ho : 0 ≤ o ∧ o < 1000000000) (ha : 0 ≤ a ∧ a < 1000000000) (hb : 0 ≤ b ∧ b < 1000000000) (hc : 0 ≤ c ∧ c < 1000000000) :
    w64 (a * b) = a * b ∧ w64 (o + a * b) = o + a * b ∧ w64 (o + a * b + c) = o + a * b + c ∧ 0 ≤ o + a * b + c ∧ w64 ((o + a * b + c) / 1000000000) = (o + a * b + c) / 1000000000 ∧
    (0 ≤ (o + a * b + c) / 1000000000 ∧ (o + a * b + c) / 1000000000 < 1000000000) ∧ (0 ≤ (o + a * b + c) % 1000000000 ∧ (o + a * b + c) % 1000000000 < 1000000000) ∧ (o + a * b + c) % 1000000000 + 1000000000 * ((o + a * b + c) / 1000000000) = o + a * b + c := by
  obtain ⟨m1, m2, _⟩ := QsV (u := 0) (c := 0) (by omega) ha hb (by omega)
  generalize a * b = x at *
  refine ⟨Qad (by omega) (by omega), Qad (by omega) (by omega), Qad (by omega) (by omega), by omega, Qad (by omega) (by omega), by omega, by omega, by omega⟩
theorem rmul_ix {i k n N : Nat} (h : i + k < N) (hN : N < 4611686018427387904) : w64 ((i : Int) + (k : Int)) = ((i + k : Nat) : Int) ∧ ((0 : Int) ≤ ((i + k : Nat) : Int) ∧ ((i + k : Nat) : Int) < ((N : Nat) : Int)) ∧ w64 ((k : Int) + 1) = ((k + 1 : Nat) : Int) ∧ w64 ((i : Int) + 1) = ((i + 1 : Nat) : Int) := by
 refine ⟨?_, by omega, ?_, ?_⟩ <;> rw [Qad (by omega) (by omega)] <;> omega
def bxI (neg : Bool) (d : D) : Obj := ⟨0, 0, [.d (.v (.bool neg)), .d d], false⟩
variable [Its]

section
variable (na nb : Bool) (da db : D) (a b : List Int) (N : Nat)
def Qq4 (i : Int) (o : List Int) (c k : Int) : St := mkS [(2, .ptr [2] 0), (3, .ptr [3] 0), (4, .ptr [4] 0), (5, .own [17] N), (6, ai i), (7, ai c), (8, ai k)] [([2], bxI na da), ([3], bxI nb db), ([4], box0), ([17], arrI N o)]
def QsO (i : Int) (o : List Int) (c : Int) : St := mkS [(2, .ptr [2] 0), (3, .ptr [3] 0), (4, .ptr [4] 0), (5, .own [17] N), (6, ai i), (7, ai c)] [([2], bxI na da), ([3], bxI nb db), ([4], box0), ([17], arrI N o)]
def Qrv (i : Int) (o : List Int) : St := mkS [(2, .ptr [2] 0), (3, .ptr [3] 0), (4, .ptr [4] 0), (5, .own [17] N), (6, ai i)] [([2], bxI na da), ([3], bxI nb db), ([4], box0), ([17], arrI N o)]
def QrI (o : List Int) : St := mkS [(2, .ptr [2] 0), (3, .ptr [3] 0), (4, .ptr [4] 0), (5, .own [17] N)] [([2], bxI na da), ([3], bxI nb db), ([4], box0), ([17], arrI N o)]

theorem rx_stop (hrb : Rw db b) {i : Int} {o : List Int} {c : Int} : X G Qcj (Qq4 na nb da db N i o c (b.length : Int)) = some (.x 2, QsO na nb da db N i o c) := by
 have e1 : decide ((b.length : Int) < (b.length : Int)) = false := lt_f (by omega)
 simp -implicitDefEqProofs (maxSteps:=9^8) only [Qcj, Qq4, QsO, bxI, box0, go_sem, Qab, iv, bv, hrb.len, e1, Qam, reduceCtorEq, ↓reduceIte, Nat.reduceEqDiff]
theorem rx_go (hra : Rw da a) (hrb : Rw db b) (ha : Dig a) (hb : Dig b) {o : List Int} (ho : Dig o) (hoN : o.length = N) (hN : N < 4611686018427387904) {c : Int} (hc : 0 ≤ c ∧ c < 1000000000) {i k : Nat} (hi : i < a.length) (hk : k < b.length) (hik : i + k < N) :
    X G Qcj (Qq4 na nb da db N (i : Int) o c (k : Int)) = some (.n, Qq4 na nb da db N (i : Int) (o.set (i + k) ((o.getD (i + k) 0 + a.getD i 0 * b.getD k 0 + c) % 1000000000)) ((o.getD (i + k) 0 + a.getD i 0 * b.getD k 0 + c) / 1000000000) ((k + 1 : Nat) : Int)) := by
  obtain ⟨e1, e2, e3, e4, e5, _⟩ := rmul_w (ho.getD (i + k)) (ha.getD i) (hb.getD k) hc
  obtain ⟨i1, i2, i3, _⟩ := rmul_ix (n := 0) hik hN
  have n1 := hra.ixn (j := i) hi
  have n2 := fun hp => ldv hp a (j := i) hi
  have n3 := hrb.ixn (j := k) hk
  have n4 := fun hp => ldv hp b (j := k) hk
  have n5 := Qcu (l := o) (off := i + k) (hoN ▸ hik)
  have n6 := fun v => QbK (l := o) (off := i + k) (v := v) (hoN ▸ hik)
  have n7 : decide ((k : Int) < (b.length : Int)) = true := lt_t (by omega)
  have q1 := Qed (b := 1000000000) e4
  have q2 := Qdi (b := 1000000000) e4
  have l2 : ∀ (h : Hp) (cs : List A) (o : Nat), Qab none o cs = cs[o]? := fun _ _ _ => rfl
  have l3 : ∀ (n : Bool) (d : D), Qab none 1 [A.d (.v (.bool n)), A.d d] = some (.d d) := fun _ _ => rfl
  simp -implicitDefEqProofs (maxSteps:=9^8) only [Qcj, Qq4, bxI, box0, go_sem, l3, iv, bv, hrb.len, e1, e2, e3, e5, q1, q2, i1, i2, i3, n1, n2, n3, n4, n5, n6, n7, allD, Qam, Qca, Qai, reduceCtorEq, ↓reduceIte, Nat.reduceEqDiff]

theorem rx_loop (hra : Rw da a) (hrb : Rw db b) (ha : Dig a) (hb : Dig b) (hN : N < 4611686018427387904) {i : Nat} (hi : i < a.length) (hib : i + b.length < N) (u0 : List Int) : ∀ (j k : Nat) (o : List Int) (c : Int), k + j = b.length → Dig o → o.length = N → (0 ≤ c ∧ c < 1000000000) → (∀ x, i + k ≤ x → o.getD x 0 = u0.getD x 0) →
    val o + (1000000000 : Int) ^ (i + k) * c = val u0 + (1000000000 : Int) ^ i * (a.getD i 0 * val (b.take k)) →
    ∃ o' c', X G (.loop Qcj) (Qq4 na nb da db N (i : Int) o c (k : Int)) = some (.x 2, QsO na nb da db N (i : Int) o' c') ∧ Dig o' ∧ o'.length = N ∧ (0 ≤ c' ∧ c' < 1000000000) ∧ (∀ x, i + b.length ≤ x → o'.getD x 0 = u0.getD x 0) ∧
      val o' + (1000000000 : Int) ^ (i + b.length) * c' = val u0 + (1000000000 : Int) ^ i * (a.getD i 0 * val b)
  | 0, k, o, c, hk, ho, hoN, hc, h1, hv => by
    obtain rfl : k = b.length := by omega
    refine ⟨o, c, by rw [Qag, rx_stop na nb da db b N hrb]; rfl, ho, hoN, hc, h1, ?_⟩
    rw [hv, List.take_length]
  | j + 1, k, o, c, hk, ho, hoN, hc, h1, hv => by
    have hx := rx_go na nb da db a b N hra hrb ha hb ho hoN hN hc hi (k := k) (by omega) (by omega)
    obtain ⟨_, _, _, _, _, e6, e7, e8⟩ := rmul_w (ho.getD (i + k)) (ha.getD i) (hb.getD k) hc
    obtain ⟨o', c2, g1, g2⟩ := rx_loop hra hrb ha hb hN hi hib u0 j (k + 1) (o.set (i + k) ((o.getD (i + k) 0 + a.getD i 0 * b.getD k 0 + c) % 1000000000)) ((o.getD (i + k) 0 + a.getD i 0 * b.getD k 0 + c) / 1000000000) (by omega) (ho.set e7) (by simpa using hoN) e6 (fun x hx' => by rw [Qbi _ (by omega)]; exact h1 x (by omega)) (by
      rw [Qfw _ _ _ (by omega), Qar b k, show i + (k + 1) = (i + k) + 1 by omega, Int.pow_succ, Int.pow_add]
      rw [Int.pow_add] at hv
      generalize (o.getD (i + k) 0 + a.getD i 0 * b.getD k 0 + c) % 1000000000 = R at *
      generalize (o.getD (i + k) 0 + a.getD i 0 * b.getD k 0 + c) / 1000000000 = Q at *
      clear hx e6 e7 h1
      grind)
    exact ⟨o', c2, by rw [Qag, hx]; exact g1, g2⟩

theorem ry_stop (hra : Rw da a) {o : List Int} : X G Qcl (Qrv na nb da db N (a.length : Int) o) = some (.x 0, QrI na nb da db N o) := by
 have e1 : decide ((a.length : Int) < (a.length : Int)) = false := lt_f (by omega)
 simp -implicitDefEqProofs (maxSteps:=9^8) only [Qcl, Qrv, QrI, bxI, box0, go_sem, Qab, iv, bv, hra.len, e1, Qam, reduceCtorEq, ↓reduceIte, Nat.reduceEqDiff]

theorem ry_go (hra : Rw da a) (hrb : Rw db b) (ha : Dig a) (hb : Dig b) (hNe : a.length + b.length = N) (hN : N < 4611686018427387904) {o : List Int} (ho : Dig o) (hoN : o.length = N) {i : Nat} (hi : i < a.length) (hz : ∀ x, i + b.length ≤ x → o.getD x 0 = 0) (hv : val o = val (a.take i) * val b) :
    ∃ o', Dig o' ∧ o'.length = N ∧ (∀ x, i + 1 + b.length ≤ x → o'.getD x 0 = 0) ∧ val o' = val (a.take (i + 1)) * val b ∧ X G Qcl (Qrv na nb da db N (i : Int) o) = some (.n, Qrv na nb da db N ((i + 1 : Nat) : Int) o') := by
  have hib : i + b.length < N := by omega
  obtain ⟨o1, c1, hx, d1, l1, hc, h1, hv1⟩ := rx_loop na nb da db a b N hra hrb ha hb hN hi hib o b.length 0 o 0 (by omega) ho hoN (by omega) (fun _ _ => rfl) (by simp [val])
  refine ⟨o1.set (i + b.length) c1, d1.set hc, by simpa using l1, fun x hx' => by rw [Qbi _ (by omega), h1 x (by omega)]; exact hz x (by omega), ?_, ?_⟩
  · rw [Qfw _ _ _ (by omega), h1 _ (Nat.le_refl _), hz _ (Nat.le_refl _), Int.sub_zero, hv1, hv, Qar a i]
    grind
  · obtain ⟨i1, i2, _, i4⟩ := rmul_ix (n := 0) hib hN
    have n6 := fun v => QbK (l := o1) (off := i + b.length) (v := v) (by omega)
    have n7 : decide ((i : Int) < (a.length : Int)) = true := lt_t (by omega)
    have l3 : ∀ (n : Bool) (d : D), Qab none 1 [A.d (.v (.bool n)), A.d d] = some (.d d) := fun _ _ => rfl
    simp only [Qq4, QsO, bxI, box0, go_sem, nc0] at hx
    simp -implicitDefEqProofs (maxSteps:=9^8) only [Qcl, Qrv, bxI, box0, go_sem, l3, iv, bv, hra.len, hrb.len, i1, i2, i4, n6, n7, hx, allD, Qam, Qca, Qai, reduceCtorEq, ↓reduceIte, Nat.reduceEqDiff]

theorem ry_loop (hra : Rw da a) (hrb : Rw db b) (ha : Dig a) (hb : Dig b) (hNe : a.length + b.length = N) (hN : N < 4611686018427387904) : ∀ (k i : Nat) (o : List Int), i + k = a.length → Dig o → o.length = N → (∀ x, i + b.length ≤ x → o.getD x 0 = 0) → val o = val (a.take i) * val b →
    ∃ o', X G (.loop Qcl) (Qrv na nb da db N (i : Int) o) = some (.x 0, QrI na nb da db N o') ∧ Dig o' ∧ o'.length = N ∧ val o' = val a * val b
  | 0, i, o, hi, ho, hoN, hz, hv => by
    obtain rfl : i = a.length := by omega
    exact ⟨o, by rw [Qag, ry_stop na nb da db a N hra]; rfl, ho, hoN, by rw [hv, List.take_length]⟩
  | k + 1, i, o, hi, ho, hoN, hz, hv => by
    obtain ⟨o1, d1, l1, z1, v1, hx⟩ := ry_go na nb da db a b N hra hrb ha hb hNe hN ho hoN (i := i) (by omega) hz hv
    obtain ⟨o', g1, g2⟩ := ry_loop hra hrb ha hb hNe hN k (i + 1) o1 (by omega) d1 l1 z1 v1
    exact ⟨o', by rw [Qag, hx]; exact g1, g2⟩
end

theorem Qdw {x y : Int} (hx : nd x ≤ 1000000000000) (hy : nd y ≤ 1000000000000) : Qah G QaC [encI x, encI y] = some (.d (encI (x * y))) := by
 rw [Qac (cf := Qgz) rfl]
 have hx' : (digs x.natAbs).length ≤ 1000000000000 := hx
 have hy' : (digs y.natAbs).length ≤ 1000000000000 := hy
 obtain ⟨N, hN⟩ : ∃ N, (digs x.natAbs).length + (digs y.natAbs).length = N := ⟨_, rfl⟩
 obtain ⟨o, g1, g2, g3, g4⟩ := ry_loop (decide (x < 0)) (decide (y < 0)) (dg (digs x.natAbs)) (dg (digs y.natAbs)) (digs x.natAbs) (digs y.natAbs) N (Rw.dg _) (Rw.dg _) (Qaq _) (Qaq _) hN (by omega) (digs x.natAbs).length 0 (List.replicate N 0) (by omega) (Dig.replicate _) (by simp)
  (fun x _ => by simp only [List.getD_eq_getElem?_getD, List.getElem?_replicate]; split <;> rfl) (by rw [Qe4]; simp [val])
 have e0 := QaM (digs x.natAbs)
 have e1 := QaM (digs y.natAbs)
 have hw : w64 (((digs x.natAbs).length : Int) + ((digs y.natAbs).length : Int)) = ((N : Nat) : Int) := by rw [Qad (by omega) (by omega)]; omega
 have hm := bnd N (by omega)
 have g5 := Qbq (!(decide (x < 0) == decide (y < 0))) (Rw.row o) (by omega) g2
 rw [g4, QdC, QdC, QoT] at g5
 simp only [rowI, bv, g3] at g5
 simp only [Qrv, QrI, bxI, box0, go_sem, nc0] at g1
 simp -implicitDefEqProofs (maxSteps:=9^8) only [Qgz, encI, Qip, go_sem, Qae, Qab, iv, bv, e0, e1, hw, hm, Qj5, Qam, Qca, g1, g5, reduceCtorEq, ↓reduceIte, Nat.reduceEqDiff]
end Go.AM

/- gantryref04: times, divided -/
namespace Go.AM
open Go Go.RowKit

theorem row_cons (v : Int) (l : List Int) : D.row (1 + l.length) (D.v (.int .i64 v) :: l.map iv) = rowI (v :: l) := by rw [rowI, List.length_cons, Nat.add_comm]; rfl
theorem all_ints (l : List Int) : List.all (l.map iv) D.one = true := by simp [iv, D.one, A.one]
theorem Qjo (x : Nat) : nd (x : Int) = (digs x).length := rfl
theorem bs_mid {lo hi q R y : Nat} (h1 : lo ≤ q) (h2 : q ≤ hi) (h3 : lo < hi) (hq : q = R / y) (hy : 0 < y) : (y * ((lo + hi + 1) / 2) ≤ R → (lo + hi + 1) / 2 ≤ q) ∧ (¬ y * ((lo + hi + 1) / 2) ≤ R → q ≤ (lo + hi + 1) / 2 - 1) := by
 subst hq
 constructor
 ·intro h
  rw [Nat.le_div_iff_mul_le hy, Nat.mul_comm]; exact h
 ·intro h
  have : R / y < (lo + hi + 1) / 2 := by
   rw [Nat.div_lt_iff_lt_mul hy, Nat.mul_comm]
   exact Nat.not_le.1 h
  omega
variable [Its]

theorem Qnn {y k : Nat} (hy : (digs y).length ≤ 999999999999) (hk : k < 1000000000) : Qah G QeB [dg (digs y), iv (k : Int)] = some (.d (dg (digs (y * k)))) := by
 rw [Qac (cf := Qfr) rfl]
 have g1 := Qbq false (Rw.dg (digs y)) (by omega) (Qaq y)
 rw [QaA, Qaz] at g1
 have g2 := Qex (n := (k : Int)) ⟨by omega, by omega⟩
 have g3 := Qdw (x := (y : Int)) (y := (k : Int)) (by rw [Qjo]; omega) (by rw [Qjo]; have := QeJ (x := (k : Int)) ⟨by omega, by omega⟩; rw [Qjo] at this; omega)
 have e : (y : Int) * (k : Int) = ((y * k : Nat) : Int) := rfl
 rw [e, Qby] at g3
 rw [Qby] at g1 g2 g3
 rw [Qby] at g3
 simp only [bv, iv] at g1 g2 g3
 simp -implicitDefEqProofs (maxSteps:=9^8) only [Qfr, go_sem, Qae, Qab, iv, bv, g1, g2, g3, reduceCtorEq, ↓reduceIte, Nat.reduceEqDiff]

section
variable (da : D) (y n : Nat) (o : List Int) (i R : Nat)
def QoJ (lo hi : Nat) : St := mkS [(0, .d da), (1, .d (dg (digs y))), (8, .own [42] n), (9, .d (dg (digs R))), (10, ai (i : Int)), (12, ai (lo : Int)), (13, ai (hi : Int))] [([42], arrI n o)]
def QrB (lo : Nat) : St := mkS [(0, .d da), (1, .d (dg (digs y))), (8, .own [42] n), (9, .d (dg (digs R))), (10, ai (i : Int)), (12, ai (lo : Int))] [([42], arrI n o)]

theorem rb_go {lo hi : Nat} (hy : (digs y).length ≤ 999999999999) (hR : (digs R).length ≤ 1000000000001) (hlt : lo < hi) (hh : hi < 1000000000) :
    X G Qbz (QoJ da y n o i R lo hi) = some (.n, if y * ((lo + hi + 1) / 2) ≤ R then QoJ da y n o i R ((lo + hi + 1) / 2) hi else QoJ da y n o i R lo ((lo + hi + 1) / 2 - 1)) := by
  have e1 : decide ((lo : Int) < (hi : Int)) = true := lt_t (by omega)
  have e2 : w64 ((lo : Int) + (hi : Int)) = (lo : Int) + (hi : Int) := Qad (by omega) (by omega)
  have e3 : w64 ((lo : Int) + (hi : Int) + 1) = (lo : Int) + (hi : Int) + 1 := Qad (by omega) (by omega)
  have e4 : ((lo : Int) + (hi : Int) + 1).tdiv 2 = (((lo + hi + 1) / 2 : Nat) : Int) := by rw [Int.tdiv_eq_ediv_of_nonneg (by omega)]; omega
  have e5 : w64 (((lo + hi + 1) / 2 : Nat) : Int) = (((lo + hi + 1) / 2 : Nat) : Int) := Qad (by omega) (by omega)
  have e9 : ((2 : Int) = 0) = False := by simp
  have hm : (lo + hi + 1) / 2 < 1000000000 := by omega
  have hm1 : 1 ≤ (lo + hi + 1) / 2 := by omega
  have t1 := Qnn (y := y) (k := (lo + hi + 1) / 2) hy hm
  generalize (lo + hi + 1) / 2 = mid at *
  have hly : (digs (y * mid)).length ≤ 1000000000002 := by
    have := Qde (x := (y : Int)) (y := (mid : Int))
    have e : (y : Int) * (mid : Int) = ((y * mid : Nat) : Int) := rfl
    rw [e] at this
    rw [Qjo, Qjo, Qjo] at this
    have h3 := QeJ (x := (mid : Int)) ⟨by omega, by omega⟩
    rw [Qjo] at h3
    omega
  have t2 := QeU (Rw.dg (digs (y * mid))) (Rw.dg (digs R)) (Qaq _) (Qaq _) (Qcw _) (Qcw _) (by omega) (by omega)
  rw [Qaz, Qaz] at t2
  simp only [iv] at t1 t2
  have e6 : w64 ((mid : Int) - 1) = ((mid - 1 : Nat) : Int) := by rw [Qad (by omega) (by omega)]; omega
  by_cases hle : y * mid ≤ R
  · have e7 : decide (Int.sign (((y * mid : Nat) : Int) - (R : Int)) ≤ 0) = true := by
      apply le_t
      generalize y * mid = z at *
      rcases Int.lt_or_le ((z : Int) - (R : Int)) 0 with h | h
      · rw [Int.sign_eq_neg_one_of_neg h]; omega
      · rw [show (z : Int) - (R : Int) = 0 by omega]; exact Int.le_refl 0
    rw [if_pos hle]
    simp -implicitDefEqProofs (maxSteps:=9^8) only [Qbz, QoJ, go_sem, iv, bv, e1, e2, e3, e4, e5, e6, e7, e9, t1, t2, Qam, reduceCtorEq, ↓reduceIte, Nat.reduceEqDiff]
  · have e7 : decide (Int.sign (((y * mid : Nat) : Int) - (R : Int)) ≤ 0) = false := by
      apply le_f
      generalize y * mid = z at *
      rw [Int.sign_eq_one_of_pos (by omega)]; omega
    rw [if_neg hle]
    simp -implicitDefEqProofs (maxSteps:=9^8) only [Qbz, QoJ, go_sem, iv, bv, e1, e2, e3, e4, e5, e6, e7, e9, t1, t2, Qam, reduceCtorEq, ↓reduceIte, Nat.reduceEqDiff]

theorem Qo1 (hy0 : 0 < y) (hy : (digs y).length ≤ 999999999999) (hR : (digs R).length ≤ 1000000000001) : ∀ (k lo hi : Nat), hi - lo ≤ k → lo ≤ R / y → R / y ≤ hi → hi < 1000000000 → X G (.loop Qbz) (QoJ da y n o i R lo hi) = some (.x 2, QrB da y n o i R (R / y))
 | k, lo, hi, hk, h1, h2, hh => by
  rw [Qag]
  by_cases hlt : lo < hi
  ·rw [rb_go da y n o i R hy hR hlt hh, Option.bind_some, if_pos rfl]
   obtain ⟨b1, b2⟩ := bs_mid (R := R) (y := y) h1 h2 hlt rfl hy0
   cases k with
   | zero => omega
   | succ k =>
    by_cases hle : y * ((lo + hi + 1) / 2) ≤ R
    ·rw [if_pos hle]
     exact Qo1 hy0 hy hR k _ _ (by omega) (b1 hle) h2 hh
    ·rw [if_neg hle]
     exact Qo1 hy0 hy hR k _ _ (by omega) h1 (b2 hle) (by omega)
  ·have he : lo = R / y := by omega
   have e1 : decide ((lo : Int) < (hi : Int)) = false := lt_f (by omega)
   rw [← he]
   simp -implicitDefEqProofs (maxSteps:=9^8) only [Qbz, QoJ, QrB, go_sem, iv, bv, e1, Qam, reduceCtorEq, ↓reduceIte, Nat.reduceEqDiff]
 termination_by k => k
end
end Go.AM

/- gantryref04: divided -/
namespace Go.AM
open Go Go.RowKit

theorem app1_fact {l : List Int} (h : l.length ≤ 1000000000000) : ((1 + l.length) * 8 ≤ bound) = True := eq_true (by simp only [bound]; omega)
theorem nat_digit {v : Int} (h : 0 ≤ v) : ∃ n : Nat, v = (n : Int) := ⟨v.toNat, by omega⟩
theorem digs_step {v r y : Nat} (hv : v < 1000000000) (hr : r < y) : (digs (v + 1000000000 * r)).length ≤ (digs y).length + 1 := by
 apply Qhz
 have h1 : y < 1000000000 ^ (digs y).length := by
  have := QdP (y : Int)
  rw [Qjo] at this
  simpa using this
 rw [Nat.pow_succ]
 generalize 1000000000 ^ (digs y).length = z at *
 omega
theorem Qst {v r y : Nat} (hv : v < 1000000000) (hr : r < y) : (v + 1000000000 * r) / y < 1000000000 := by
 rw [Nat.div_lt_iff_lt_mul (by omega)]
 omega
theorem rem_step (R y : Nat) : (R : Int) - ((y * (R / y) : Nat) : Int) = ((R % y : Nat) : Int) := by
 have := Nat.div_add_mod R y
 generalize y * (R / y) = z at *
 omega
theorem cast_dm (A y : Nat) : (y : Int) * ((A / y : Nat) : Int) + ((A % y : Nat) : Int) = (A : Int) := by
 have h := Nat.div_add_mod A y
 generalize A / y = q at *
 generalize A % y = m at *
 subst h
 rw [Int.natCast_add, Int.natCast_mul]
theorem dig_nat {n : Nat} (h : n < 1000000000) : 0 ≤ (n : Int) ∧ (n : Int) < 1000000000 := by omega
theorem st2 (x y u v : A) : Qae 0 [x, y] [u, v] = some [x, y] := rfl
theorem ld1 (u v : A) : Qab none 1 [u, v] = some v := rfl
variable [Its]

section
variable (da : D) (a : List Int) (y : Nat)
def Qop (o : List Int) (r : Nat) (i : Int) : St := mkS [(0, .d da), (1, .d (dg (digs y))), (8, .own [42] a.length), (9, .d (dg (digs r))), (10, ai i)] [([42], arrI a.length o)]
def Qpw (o : List Int) (r : Nat) : St := mkS [(8, .own [42] a.length), (9, .d (dg (digs r)))] [([42], arrI a.length o)]

theorem rd_stop (o : List Int) (r : Nat) : X G Qbe (Qop da a y o r (-1)) = some (.x 0, Qpw a o r) := by
 have e1 : decide ((-1 : Int) ≥ 0) = false := rfl
 simp -implicitDefEqProofs (maxSteps:=9^8) only [Qbe, Qop, Qpw, go_sem, iv, bv, e1, Qam, reduceCtorEq, ↓reduceIte, Nat.reduceEqDiff]

theorem rd_go (hra : Rw da a) (ha : Dig a) (hy : (digs y).length ≤ 999999999999) (hl : a.length ≤ 1000000000000) {o : List Int} (ho : o.length = a.length) {r i v : Nat} (hi : i < a.length) (hr : r < y) (hv : a.getD i 0 = (v : Int)) :
    X G Qbe (Qop da a y o r (i : Int)) = some (.n, Qop da a y (o.set i (((v + 1000000000 * r) / y : Nat) : Int)) ((v + 1000000000 * r) % y) ((i : Int) - 1)) := by
  have hvd := ha.getD i
  rw [hv] at hvd
  have hvn : v < 1000000000 := by omega
  have hRl := digs_step (y := y) hvn hr
  have hq := Qst (y := y) hvn hr
  have hrl := QbE (Nat.le_of_lt hr)
  have e1 : decide ((i : Int) ≥ 0) = true := ge_t (by omega)
  have e2 := hra.ixn (j := i) hi
  have e3 := fun hp => ldv hp a (j := i) hi
  rw [hv] at e3
  have e4 : w64 ((i : Int) - 1) = (i : Int) - 1 := Qad (by omega) (by omega)
  have e5 : (0 : Int) ≤ (i : Int) ∧ (i : Int) < ((a.length : Nat) : Int) := by omega
  have e6 := fun x => QbK (l := o) (off := i) (v := x) (by omega)
  have f1 := app1_fact (l := digs r) (by omega)
  have f2 := all_ints (digs r)
  have nr := Qbq false (Rw.row ((v : Int) :: digs r)) (by simp; omega) (Dig.cons.2 ⟨hvd, Qaq r⟩)
  rw [QaA, val, Qaz, ← row_cons] at nr
  have eR : (v : Int) + 1000000000 * (r : Int) = ((v + 1000000000 * r : Nat) : Int) := by omega
  rw [eR] at nr
  obtain ⟨R, hR⟩ : ∃ R, v + 1000000000 * r = R := ⟨_, rfl⟩
  rw [hR] at nr hRl hq ⊢
  rw [Qby] at nr
  have cp := QeU (Rw.dg (digs R)) (Rw.dg (digs y)) (Qaq _) (Qaq _) (Qcw _) (Qcw _) (by omega) (by omega)
  rw [Qaz, Qaz] at cp
  have tm := Qnn (y := y) (k := R / y) hy hq
  have hle : y * (R / y) ≤ R := Nat.mul_div_le R y
  obtain ⟨out, m1, m2, m3, m4⟩ := Qie (Rw.dg (digs R)) (Rw.dg (digs (y * (R / y)))) (Qaq _) (Qaq _) (by omega) (QbE hle) (by rw [Qaz, Qaz]; exact Int.ofNat_le.2 hle)
  rw [Qaz, Qaz, rem_step] at m4
  have n2 := Qbq false (Rw.dg out) (by omega) m3
  rw [QaA, m4, Qby] at n2
  have hyp : 0 < y := by omega
  have c9 : ((999999999 : Nat) : Int) = 999999999 := rfl
  simp only [bv, iv] at nr cp tm n2
  by_cases hlt : R < y
  · have c1 : decide (Int.sign ((R : Int) - (y : Int)) < 0) = true := by rw [Int.sign_eq_neg_one_of_neg (by omega)]; rfl
    have hx := Qo1 da y a.length o i R hyp hy (by omega) 0 0 0 (by omega) (Nat.zero_le _) (by rw [Nat.div_eq_of_lt hlt]; exact Nat.le_refl _) (by omega)
    simp only [QoJ, QrB, go_sem] at hx
    simp -implicitDefEqProofs (maxSteps:=9^8) only [Qbe, Qop, go_sem, st2, ld1, src_dg, QfF, List.length_map, iv, bv, e1, e2, e3, e4, e5, e6, f1, f2, nr, cp, c1, hx, tm, m1, n2, QkW, Qca, Qam, Qai, reduceCtorEq, ↓reduceIte, Nat.reduceEqDiff]
  · have c1 : decide (Int.sign ((R : Int) - (y : Int)) < 0) = false := by
      apply lt_f
      rcases Int.lt_or_le 0 ((R : Int) - (y : Int)) with h | h
      · rw [Int.sign_eq_one_of_pos h]; omega
      · rw [show (R : Int) - (y : Int) = 0 by omega]; exact Int.lt_irrefl 0
    have hx := Qo1 da y a.length o i R hyp hy (by omega) 999999999 0 999999999 (by omega) (Nat.zero_le _) (by omega) (by omega)
    simp only [QoJ, QrB, go_sem, c9] at hx
    simp -implicitDefEqProofs (maxSteps:=9^8) only [Qbe, Qop, go_sem, st2, ld1, src_dg, QfF, List.length_map, iv, bv, e1, e2, e3, e4, e5, e6, f1, f2, nr, cp, c1, hx, tm, m1, n2, QkW, Qca, Qam, Qai, reduceCtorEq, ↓reduceIte, Nat.reduceEqDiff]

theorem Qrr     (hra : Rw da a) (ha : Dig a) (hy0 : 0 < y) (hy : (digs y).length ≤ 999999999999) (hl : a.length ≤ 1000000000000) : ∀ (k : Nat) (o : List Int) (r : Nat), k ≤ a.length → o.length = a.length → Dig o → r < y → val (a.drop k) = val (o.drop k) * (y : Int) + (r : Int) →
    ∃ o' r', X G (.loop Qbe) (Qop da a y o r ((k : Int) - 1)) = some (.x 0, Qpw a o' r') ∧ o'.length = a.length ∧ Dig o' ∧ r' < y ∧ val a = val o' * (y : Int) + (r' : Int)
  | 0, o, r, hk, ho, hd, hr, hv => ⟨o, r, by
      have : ((0 : Nat) : Int) - 1 = -1 := rfl
      rw [this, Qag, rd_stop]; rfl, ho, hd, hr, by simpa using hv⟩
  | k + 1, o, r, hk, ho, hd, hr, hv => by
    obtain ⟨v, hvv⟩ := nat_digit (ha.getD k).1
    have hvn := (ha.getD k).2
    rw [hvv] at hvn
    have hvn' : v < 1000000000 := by omega
    have hx := rd_go da a y hra ha hy hl ho (i := k) (by omega) hr hvv
    have hq := Qst (y := y) hvn' hr
    have hm := Nat.mod_lt (v + 1000000000 * r) hy0
    obtain ⟨o', r', g1, g2⟩ := Qrr hra ha hy0 hy hl k (o.set k (((v + 1000000000 * r) / y : Nat) : Int)) ((v + 1000000000 * r) % y) (by omega) (by simpa using ho) (hd.set (dig_nat hq)) hm (by
      rw [Qa3, hv, Qlg _ (by omega), hvv]
      have hdm' : (y : Int) * (((v + 1000000000 * r) / y : Nat) : Int) + (((v + 1000000000 * r) % y : Nat) : Int) = (v : Int) + 1000000000 * (r : Int) := by rw [cast_dm]; rw [Int.natCast_add, Int.natCast_mul]; rfl
      generalize (((v + 1000000000 * r) / y : Nat) : Int) = Q at *
      generalize (((v + 1000000000 * r) % y : Nat) : Int) = M at *
      clear hx hq hm hv
      grind)
    refine ⟨o', r', ?_, g2⟩
    have : ((k + 1 : Nat) : Int) - 1 = (k : Int) := by omega
    rw [this, Qag, hx]
    exact g1
end

theorem QpZ          {x y : Nat} (hy : 0 < y) (hx : (digs x).length ≤ 1000000000000) (hyl : (digs y).length ≤ 999999999999) :
    ∃ dq q, Qah G QfX [dg (digs x), dg (digs y)] = some (.d (.tup [dq, dg (digs (x % y))])) ∧ Rw dq q ∧ Dig q ∧ q.length ≤ 1000000000000 ∧ val q = ((x / y : Nat) : Int) := by
  have lx := QaM (digs x)
  have ly := QaM (digs y)
  by_cases h1 : (digs x).length ≤ 2
  · have e1 : decide (((digs x).length : Int) ≤ 2) = true := le_t (by omega)
    by_cases h2 : (digs y).length ≤ 2
    · have e2 : decide (((digs y).length : Int) ≤ 2) = true := le_t (by omega)
      have t1 := QjK (Rw.dg (digs x)) (Qaq x) h1
      have t2 := QjK (Rw.dg (digs y)) (Qaq y) h2
      rw [Qaz] at t1 t2
      have s1 := Qfz h1
      have e3 := QmM (b := (y : Int)) (by omega)
      have e4 := Qed (a := (x : Int)) (b := (y : Int)) (by omega)
      have e5 := Qdi (a := (x : Int)) (b := (y : Int)) (by omega)
      have c1 : (x : Int) / (y : Int) = ((x / y : Nat) : Int) := rfl
      have c2 : (x : Int) % (y : Int) = ((x % y : Nat) : Int) := rfl
      rw [c1] at e4
      rw [c2] at e5
      have hq : x / y ≤ x := Nat.div_le_self x y
      have hr : x % y ≤ x := Nat.mod_le x y
      have hql := QbE hq
      clear c1 c2
      generalize x / y = Q at *
      generalize x % y = M at *
      have o1 := Qex (n := (Q : Int)) ⟨by omega, by omega⟩
      have o2 := Qex (n := (M : Int)) ⟨by omega, by omega⟩
      have e6 : w64 (Q : Int) = (Q : Int) := Qad (by omega) (by omega)
      rw [Qby] at o1 o2
      simp only [iv] at t1 t2 o1 o2
      refine ⟨dg (digs Q), digs Q, ?_, Rw.dg _, Qaq _, by omega, Qaz _⟩
      rw [Qac (cf := QbI) rfl]
      simp -implicitDefEqProofs (maxSteps:=9^8) only [QbI, go_sem, st2, ld1, iv, bv, lx, ly, e1, e2, e3, e4, e5, e6, t1, t2, o1, o2, toDs, reduceCtorEq, ↓reduceIte, Nat.reduceEqDiff]
    · have e2 : decide (((digs y).length : Int) ≤ 2) = false := le_f (by omega)
      obtain ⟨o, r, g1, g2, g3, g4, g5⟩ := Qrr (dg (digs x)) (digs x) y (Rw.dg _) (Qaq x) hy hyl hx (digs x).length (List.replicate (digs x).length 0) 0 (Nat.le_refl _) (by simp) (Dig.replicate _) hy (by rw [List.drop_length, List.drop_eq_nil_of_le (by simp)]; simp [val])
      rw [Qaz] at g5
      obtain ⟨u1, u2⟩ := Qmh g5 (Int.natCast_nonneg _) (Int.ofNat_lt.2 g4)
      have u2' : x % y = r := Int.ofNat.inj u2
      refine ⟨rowI o, o, ?_, Rw.row _, g3, by omega, u1.symm⟩
      rw [u2', Qac (cf := QbI) rfl]
      have f1 := bnd (digs x).length (by omega)
      have f2 : w64 (((digs x).length : Int) - 1) = ((digs x).length : Int) - 1 := Qad (by omega) (by omega)
      simp only [Qop, Qpw, QaB, QpM, go_sem] at g1
      simp -implicitDefEqProofs (maxSteps:=9^8) only [QbI, go_sem, iv, bv, lx, ly, e1, e2, f1, f2, g1, g2, rowI, Qj5, Qca, Qam, toDs, reduceCtorEq, ↓reduceIte, Nat.reduceEqDiff]
  · have e1 : decide (((digs x).length : Int) ≤ 2) = false := le_f (by omega)
    obtain ⟨o, r, g1, g2, g3, g4, g5⟩ := Qrr (dg (digs x)) (digs x) y (Rw.dg _) (Qaq x) hy hyl hx (digs x).length (List.replicate (digs x).length 0) 0 (Nat.le_refl _) (by simp) (Dig.replicate _) hy (by rw [List.drop_length, List.drop_eq_nil_of_le (by simp)]; simp [val])
    rw [Qaz] at g5
    obtain ⟨u1, u2⟩ := Qmh g5 (Int.natCast_nonneg _) (Int.ofNat_lt.2 g4)
    have u2' : x % y = r := Int.ofNat.inj u2
    refine ⟨rowI o, o, ?_, Rw.row _, g3, by omega, u1.symm⟩
    rw [u2', Qac (cf := QbI) rfl]
    have f1 := bnd (digs x).length (by omega)
    have f2 : w64 (((digs x).length : Int) - 1) = ((digs x).length : Int) - 1 := Qad (by omega) (by omega)
    simp only [Qop, Qpw, QaB, QpM, go_sem] at g1
    simp -implicitDefEqProofs (maxSteps:=9^8) only [QbI, go_sem, iv, bv, lx, ly, e1, f1, f2, g1, g2, rowI, Qj5, Qca, Qam, toDs, reduceCtorEq, ↓reduceIte, Nat.reduceEqDiff]
end Go.AM

/- ref04.Div -/
namespace Go.AM
open Go Go.RowKit
variable [Its]

theorem QjP       {x y : Int} (hy : y ≠ 0) (hx : nd x ≤ 1000000000000) (hyl : nd y ≤ 999999999999) :
    Qah G Qc9 [encI x, encI y] = some (.d (.tup [encI (x / y), encI (x % y)])) := by
  obtain ⟨c1, c2, c3⟩ := QnS (x := x) hy
  have hya : 0 < y.natAbs := by omega
  obtain ⟨dq, q, td, t1, t2, t3, t4⟩ := QpZ (x := x.natAbs) (y := y.natAbs) hya hx hyl
  have ly := QaM (digs y.natAbs)
  have fq : A.one (.d dq) = true := by
    rcases t1 with h | h
    · rw [h]; exact QqP q
    · rw [h]; rfl
  have e1 : (((digs y.natAbs).length : Int) == 0) = false := Qds (by have := digs_length_pos.2 hya; omega)
  have n1 : (x.natAbs : Int) / (y.natAbs : Int) = ((x.natAbs / y.natAbs : Nat) : Int) := rfl
  have n2 : (x.natAbs : Int) % (y.natAbs : Int) = ((x.natAbs % y.natAbs : Nat) : Int) := rfl
  have hq1 : x.natAbs / y.natAbs ≤ x.natAbs := Nat.div_le_self _ _
  have hr1 : x.natAbs % y.natAbs < y.natAbs := Nat.mod_lt _ hya
  rw [n1] at c1 c2 c3
  rw [n2] at c1 c2 c3
  clear n1 n2
  generalize x.natAbs / y.natAbs = Q at *
  generalize x.natAbs % y.natAbs = M at *
  have hQl : (digs Q).length ≤ (digs x.natAbs).length := QbE hq1
  have hMl : (digs M).length ≤ (digs y.natAbs).length := QbE (Nat.le_of_lt hr1)
  have hxn : (digs x.natAbs).length ≤ 1000000000000 := hx
  have hyn : (digs y.natAbs).length ≤ 999999999999 := hyl
  have lm := QaM (digs M)
  obtain ⟨s, hs⟩ : ∃ s, (!(decide (x < 0) == decide (y < 0))) = s := ⟨_, rfl⟩
  have k1 := Qbq s t1 (by omega) t2
  rw [t4] at k1
  have k2 := Qbq false (Rw.dg (digs M)) (by omega) (Qaq _)
  rw [QaA, Qaz, Qby] at k2
  rw [Qac (cf := QdO) rfl]
  by_cases hb : x < 0 ∧ M ≠ 0
  · have x1 : decide (x < 0) = true := decide_eq_true hb.1
    have f1 : decide (((digs M).length : Int) > 0) = true := gt_t (by have := digs_length_pos.2 (Nat.pos_of_ne_zero hb.2); omega)
    obtain ⟨d1, d2⟩ := c3 hb.1 (by omega)
    have hs' : s = !decide (y < 0) := by rw [← hs, x1]; cases decide (y < 0) <;> rfl
    have k3 := Qbq s (Rw.row [1]) (by simp) (fun d hd => by simp at hd; omega)
    have v1 : val [1] = 1 := by simp [val]
    rw [v1] at k3
    have a1 : nd (sgn s (Q : Int)) ≤ 1000000000000 := by rw [nd, Qjf]; exact Nat.le_trans hQl hxn
    have a2 : nd (sgn s 1) ≤ 1000000000000 := by
      have : nd (sgn s 1) ≤ 3 := QeJ (by cases s <;> simp [sgn])
      omega
    have k4 := QiK a1 a2
    have s1 : sgn s (Q : Int) + sgn s 1 = sgn s ((Q : Int) + 1) := by
      cases s
      · simp only [sgn, Bool.false_eq_true, if_false]
      · simp only [sgn, if_true]; omega
    rw [s1, hs', ← d1, ← hs'] at k4
    obtain ⟨o2, s1, s2, s3, s4⟩ := Qie (Rw.dg (digs y.natAbs)) (Rw.dg (digs M)) (Qaq _) (Qaq _) (by omega) hMl (by rw [Qaz, Qaz]; omega)
    rw [Qaz, Qaz] at s4
    have k5 := Qbq false (Rw.dg o2) (by omega) s3
    rw [QaA, s4, ← d2] at k5
    obtain ⟨z, hz⟩ : ∃ z, sgn s (Q : Int) = z := ⟨_, rfl⟩
    obtain ⟨X, hX⟩ : ∃ X, x / y = X := ⟨_, rfl⟩
    obtain ⟨Y, hY⟩ : ∃ Y, x % y = Y := ⟨_, rfl⟩
    rw [hz] at k1 k4
    rw [hX] at k4 ⊢
    rw [hY] at k5 ⊢
    simp only [rowI, List.map_cons, List.map_nil, List.length_cons, List.length_nil, encI, bv, iv, Nat.reduceAdd] at k1 k2 k3 k4 k5
    rw [x1] at hs
    simp -implicitDefEqProofs (maxSteps:=9^8) only [QdO, encI, go_sem, Qae, Qab, iv, bv, e1, x1, hs, f1, td, ly, lm, fq, k1, k2, k3, k4, k5, s1, QkW, toDs, Qcb, ne_eq, not_false_eq_true, reduceCtorEq, ↓reduceIte, Nat.reduceEqDiff]
  · have hr : x / y = sgn s (Q : Int) ∧ x % y = (M : Int) := by
      by_cases hx0 : x < 0
      · have hM : M = 0 := by
          rcases Nat.eq_zero_or_pos M with h | h
          · exact h
          · exact absurd ⟨hx0, by omega⟩ hb
        have x1 : decide (x < 0) = true := decide_eq_true hx0
        obtain ⟨d1, d2⟩ := c2 hx0 (by omega)
        refine ⟨?_, by rw [d2, hM]; rfl⟩
        rw [d1, ← hs, x1]; cases decide (y < 0) <;> rfl
      · have x1 : decide (x < 0) = false := decide_eq_false hx0
        obtain ⟨d1, d2⟩ := c1 hx0
        refine ⟨?_, d2⟩
        rw [d1, ← hs, x1]; cases decide (y < 0) <;> rfl
    rw [hr.1, hr.2, Qby]
    obtain ⟨z, hz⟩ : ∃ z, sgn s (Q : Int) = z := ⟨_, rfl⟩
    rw [hz] at k1 ⊢
    simp only [encI, bv, iv] at k1 k2
    by_cases hx0 : x < 0
    · have x1 : decide (x < 0) = true := decide_eq_true hx0
      have f1 : decide (((digs M).length : Int) > 0) = false := by
        have : ¬ M ≠ 0 := fun h => hb ⟨hx0, h⟩
        have : M = 0 := by omega
        rw [this, QaB]; rfl
      rw [x1] at hs
      simp -implicitDefEqProofs (maxSteps:=9^8) only [QdO, encI, go_sem, Qae, Qab, iv, bv, e1, x1, hs, f1, td, ly, lm, fq, k1, k2, toDs, Qcb, ne_eq, not_false_eq_true, reduceCtorEq, ↓reduceIte, Nat.reduceEqDiff]
    · have x1 : decide (x < 0) = false := decide_eq_false hx0
      rw [x1] at hs
      simp -implicitDefEqProofs (maxSteps:=9^8) only [QdO, encI, go_sem, Qae, Qab, iv, bv, e1, x1, hs, td, ly, lm, fq, k1, k2, toDs, Qcb, ne_eq, not_false_eq_true, reduceCtorEq, ↓reduceIte, Nat.reduceEqDiff]
end Go.AM

/- ref04.Gcd -/
namespace Go.AM
open Go Go.RowKit
variable [Its]

def Qty (m n : Nat) : St := mkS [(4, .ptr [4] 0), (7, ai m), (8, ai n)] [([4], box0)]
def rg_en (m : Nat) : St := mkS [(4, .ptr [4] 0), (7, ai m)] [([4], box0)]
theorem rg_ints : ∀ (n m : Nat), m < 1000000000000000000 → n < 1000000000000000000 → X G (.loop QcS) (Qty m n) = some (.x 2, rg_en (Nat.gcd m n)) := by
 intro n
 induction n using Nat.strongRecOn with
 | _ n ih =>
 intro m hm hn
 rw [Qag]
 by_cases h0 : n = 0
 ·subst h0
  have e1 : decide (((0 : Nat) : Int) > 0) = false := rfl
  rw [Nat.gcd_zero_right]
  simp -implicitDefEqProofs (maxSteps:=9^8) only [QcS, Qty, rg_en, box0, go_sem, iv, bv, reduceCtorEq, ↓reduceIte, Nat.reduceEqDiff]
  rfl
 ·have e1 : decide ((n : Int) > 0) = true := gt_t (by omega)
  have e2 := QmM (b := (n : Int)) (by omega)
  have e3 := Qdi (a := (m : Int)) (b := (n : Int)) (by omega)
  have e4 : (m : Int) % (n : Int) = ((m % n : Nat) : Int) := rfl
  have hlt : m % n < n := Nat.mod_lt _ (by omega)
  have hx : X G QcS (Qty m n) = some (.n, Qty n (m % n)) := by
   simp -implicitDefEqProofs (maxSteps:=9^8) only [QcS, Qty, rg_en, box0, go_sem, iv, bv, e1, e2, e3, e4, reduceCtorEq, ↓reduceIte, Nat.reduceEqDiff]
  rw [hx, Option.bind_some, if_pos rfl, ih (m % n) hlt n hn (by omega), Qlt]

theorem rg_loop : ∀ (b a : Nat), (digs a).length ≤ 1000000000000 → (digs b).length ≤ 999999999999 →
    X G (.loop Qbw) (Qhx a b) = some (.x 0, QtK (Nat.gcd a b)) ∨ X G (.loop Qbw) (Qhx a b) = some (.r, QiC (Nat.gcd a b)) := by
  intro b
  induction b using Nat.strongRecOn with
  | _ b ih =>
  intro a ha hb
  have la := QaM (digs a)
  have lb := QaM (digs b)
  by_cases h0 : b = 0
  · subst h0
    have e1 : decide (((digs 0).length : Int) > 0) = false := by rw [QaB]; rfl
    refine .inl ?_
    rw [Nat.gcd_zero_right, Qag]
    simp -implicitDefEqProofs (maxSteps:=9^8) only [Qbw, Qhx, QtK, box0, boxI, go_sem, Qae, Qab, iv, bv, e1, la, lb, reduceCtorEq, ↓reduceIte, Nat.reduceEqDiff]
  · have e1 : decide (((digs b).length : Int) > 0) = true := gt_t (by have := digs_length_pos.2 (Nat.pos_of_ne_zero h0); omega)
    by_cases h1 : (digs a).length ≤ 2 ∧ (digs b).length ≤ 2
    · have t1 := QjK (Rw.dg (digs a)) (Qaq a) h1.1
      have t2 := QjK (Rw.dg (digs b)) (Qaq b) h1.2
      rw [Qaz] at t1 t2
      simp only [iv, bv] at t1 t2
      have d1 : decide (((digs a).length : Int) ≤ 2) = true := le_t (by omega)
      have d2 : decide (((digs b).length : Int) ≤ 2) = true := le_t (by omega)
      have s1 := Qfz h1.1
      have s2 := Qfz h1.2
      have g1 := rg_ints b a s1 s2
      have hg : Nat.gcd a b ≤ b := Nat.gcd_le_right _ (Nat.pos_of_ne_zero h0)
      have u1 := Qex (n := ((Nat.gcd a b : Nat) : Int)) ⟨by omega, by omega⟩
      rw [Qby] at u1
      simp only [Qty, rg_en, box0, go_sem] at g1
      simp only [iv] at u1
      refine .inr ?_
      rw [Qag]
      simp -implicitDefEqProofs (maxSteps:=9^8) only [Qbw, Qhx, QiC, box0, boxI, go_sem, Qae, Qab, iv, bv, e1, la, lb, d1, d2, t1, t2, g1, u1, reduceCtorEq, ↓reduceIte, Nat.reduceEqDiff]
    · have td := QjP (x := (a : Int)) (y := (b : Int)) (by omega) (by rw [Qjo]; exact ha) (by rw [Qjo]; exact hb)
      have e3 : (a : Int) / (b : Int) = ((a / b : Nat) : Int) := rfl
      have e4 : (a : Int) % (b : Int) = ((a % b : Nat) : Int) := rfl
      rw [e3, e4, Qby, Qby, Qby, Qby] at td
      have hlt : a % b < b := Nat.mod_lt _ (Nat.pos_of_ne_zero h0)
      have hx : X G Qbw (Qhx a b) = some (.n, Qhx b (a % b)) := by
        by_cases h2 : (digs a).length ≤ 2
        · have h3 : ¬ (digs b).length ≤ 2 := fun h => h1 ⟨h2, h⟩
          have d1 : decide (((digs a).length : Int) ≤ 2) = true := le_t (by omega)
          have d2 : decide (((digs b).length : Int) ≤ 2) = false := le_f (by omega)
          simp -implicitDefEqProofs (maxSteps:=9^8) only [Qbw, Qhx, QiC, box0, boxI, go_sem, Qae, Qab, iv, bv, e1, la, lb, d1, d2, td, Qcb, ne_eq, not_false_eq_true, reduceCtorEq, ↓reduceIte, Nat.reduceEqDiff]
        · have d1 : decide (((digs a).length : Int) ≤ 2) = false := le_f (by omega)
          simp -implicitDefEqProofs (maxSteps:=9^8) only [Qbw, Qhx, QiC, box0, boxI, go_sem, Qae, Qab, iv, bv, e1, la, lb, d1, td, Qcb, ne_eq, not_false_eq_true, reduceCtorEq, ↓reduceIte, Nat.reduceEqDiff]
      have hr := ih (a % b) hlt b (by omega) (Nat.le_trans (QbE (Nat.le_of_lt hlt)) hb)
      rw [Qlt] at hr
      rw [Qag, hx]
      exact hr

theorem rGcd_spec {x y : Int} (hx : nd x ≤ 1000000000000) (hy : nd y ≤ 999999999999) : Qah G QhI [encI x, encI y] = some (.d (encI (Int.gcd x y : Nat))) := by
 rw [Qac (cf := QeT) rfl]
 have hxn : (digs x.natAbs).length ≤ 1000000000000 := hx
 have hyn : (digs y.natAbs).length ≤ 999999999999 := hy
 have o1 := Qbq false (Rw.dg (digs x.natAbs)) (by omega) (Qaq _)
 have o2 := Qbq false (Rw.dg (digs y.natAbs)) (by omega) (Qaq _)
 rw [QaA, Qaz, Qby] at o1 o2
 simp only [bv] at o1 o2
 rw [Qby]
 have e : Int.gcd x y = Nat.gcd x.natAbs y.natAbs := rfl
 rw [e]
 rcases rg_loop y.natAbs x.natAbs hxn hyn with g | g
 ·simp only [Qhx, QtK, box0, boxI, go_sem] at g
  simp -implicitDefEqProofs (maxSteps:=9^8) only [QeT, encI, go_sem, Qae, Qab, iv, bv, o1, o2, g, reduceCtorEq, ↓reduceIte, Nat.reduceEqDiff]
 ·simp only [Qhx, QiC, box0, boxI, go_sem] at g
  simp -implicitDefEqProofs (maxSteps:=9^8) only [QeT, encI, go_sem, Qae, Qab, iv, bv, o1, o2, g, reduceCtorEq, ↓reduceIte, Nat.reduceEqDiff]
end Go.AM

/- Rationals as the program holds them; rat.unit, one, lowest, Make, Of, Den -/
namespace Go.AM
open Go Go.RowKit

def dd (d : Nat) : List Int := if d = 1 then [] else digs d
def encR (q : Rat) : D := .agg [.v (.bool (decide (q.num < 0))), dg (digs q.num.natAbs), .v (.bool false), dg (dd q.den)]
def sz (q : Rat) : Nat := max (nd q.num) (nd (q.den : Int))
theorem Qdf {q : Rat} {n : Nat} (h : sz q ≤ n) : nd q.num ≤ n := Nat.le_trans (Nat.le_max_left _ _) h
theorem Qdr {q : Rat} {n : Nat} (h : sz q ≤ n) : nd (q.den : Int) ≤ n := Nat.le_trans (Nat.le_max_right _ _) h
theorem sz_le {q : Rat} {n : Nat} (h1 : nd q.num ≤ n) (h2 : nd (q.den : Int) ≤ n) : sz q ≤ n := Nat.max_le.2 ⟨h1, h2⟩

theorem dd_one : dd 1 = [] := rfl
theorem QkK {d : Nat} (h : d ≠ 1) : dd d = digs d := if_neg h
theorem QoF : digs 1 = [1] := by
 rw [Qe1 (by omega)]
 have e1 : (1 : Nat) % 1000000000 = 1 := by decide
 have e2 : (1 : Nat) / 1000000000 = 0 := by decide
 rw [e1, e2, QaB]; rfl
theorem Qdv : encR 0 = .agg [.v (.bool false), .z true, .v (.bool false), .z true] := by
 have e : digs (0 : Rat).num.natAbs = [] := QaB
 rw [encR, e]; rfl
theorem Qi6 {n d : Int} (h : d ≠ 0) : 0 < Int.gcd n d := Int.gcd_pos_of_ne_zero_right n h
theorem num_low {n d : Int} (hd : 0 < d) (hc : Int.gcd n d = 1) : (Rat.divInt n d).num = n ∧ ((Rat.divInt n d).den : Int) = d := by
 have e : Int.gcd d n = 1 := by rw [Int.gcd_comm]; exact hc
 constructor
 ·rw [Rat.num_divInt, e, Int.sign_eq_one_of_pos hd]; simp
 ·rw [Rat.den_divInt, e, if_neg (by omega)]; simp; omega
theorem QlF {n d : Int} (hd : 0 < d) (hc : Int.gcd n d = 1) : encR (Rat.divInt n d) = .agg [.v (.bool (decide (n < 0))), dg (digs n.natAbs), .v (.bool false), dg (dd d.natAbs)] := by
 obtain ⟨e1, e2⟩ := num_low hd hc
 have e3 : (Rat.divInt n d).den = d.natAbs := by omega
 rw [encR, e1, e3]
theorem ixa0 (hp : Hp) {l : List Int} (h : l ≠ []) : ixaA hp 1 0 (.d (dg l)) = some (.d (.rp (l.map iv))) := by
 have h0 : 0 < l.length := List.length_pos_iff.2 h
 exact (Rw.dg l).ixa (j := 0) (by omega) (by omega) hp
theorem ld0 (hp : Hp) {l : List Int} (h : l ≠ []) : QcY hp none (.d (.rp (l.map iv))) = some (.d (.v (.int .i64 (l.getD 0 0)))) := by
 have h0 : 0 < l.length := List.length_pos_iff.2 h
 exact ldv hp l (j := 0) h0
theorem len_one {n : Nat} (h : (digs n).length = 1) : (digs n).getD 0 0 = (n : Int) := by
 have hv := Qaz n
 match hd : digs n, h with
 | [v], _ => rw [hd] at hv; simpa [val] using hv
variable [Its]

theorem QlV (x : Int) (hx : nd x ≤ 1000000000000) : Qah G QkA [encI x] = some (.d (bv (decide (x = 1)))) := by
 rw [Qac (cf := QjI) rfl]
 have lx := QaM (digs x.natAbs)
 by_cases h : x < 0
 ·have x1 : decide (x < 0) = true := decide_eq_true h
  have x2 : decide (x = 1) = false := decide_eq_false (by omega)
  simp -implicitDefEqProofs (maxSteps:=9^8) only [QjI, encI, go_sem, Qae, Qab, iv, bv, lx, x1, x2, reduceCtorEq, ↓reduceIte, Nat.reduceEqDiff]
 ·have x1 : decide (x < 0) = false := decide_eq_false h
  by_cases hl : (digs x.natAbs).length = 1
  ·have x3 : (((digs x.natAbs).length : Int) == 1) = true := Qoq (by omega)
   have hne : digs x.natAbs ≠ [] := by intro h; rw [h] at hl; cases hl
   have x4 := fun hp => ixa0 hp hne
   have x5 := fun hp => ld0 hp hne
   rw [len_one hl] at x5
   have x2 : (((x.natAbs : Nat) : Int) == 1) = decide (x = 1) := by
    by_cases h1 : x = 1
    ·rw [decide_eq_true h1]; exact Qoq (by omega)
    ·rw [decide_eq_false h1]; exact Qds (by omega)
   simp -implicitDefEqProofs (maxSteps:=9^8) only [QjI, encI, go_sem, Qae, Qab, iv, bv, lx, x1, x2, x3, x4, x5, reduceCtorEq, ↓reduceIte, Nat.reduceEqDiff]
  ·have x3 : (((digs x.natAbs).length : Int) == 1) = false := Qds (by omega)
   have x2 : decide (x = 1) = false := decide_eq_false (by
    intro h1; subst h1
    exact hl (by rw [show (1 : Int).natAbs = 1 from rfl, QoF]; rfl))
   simp -implicitDefEqProofs (maxSteps:=9^8) only [QjI, encI, go_sem, Qae, Qab, iv, bv, lx, x1, x2, x3, reduceCtorEq, ↓reduceIte, Nat.reduceEqDiff]

theorem QpG (x : Int) (hx : nd x ≤ 1000000000000) (h0 : 0 < x) : Qah G QhQ [encI x] = some (.d (bv (decide (x = 1)))) := by
 rw [Qac (cf := Qe8) rfl]
 have lx := QaM (digs x.natAbs)
 have x1 : decide (x < 0) = false := decide_eq_false (by omega)
 by_cases hl : (digs x.natAbs).length = 1
 ·have x3 : (((digs x.natAbs).length : Int) != 1) = false := by rw [bne, Qoq (by omega)]; rfl
  have hne : digs x.natAbs ≠ [] := by intro h; rw [h] at hl; cases hl
  have x4 := fun hp => ixa0 hp hne
  have x5 := fun hp => ld0 hp hne
  rw [len_one hl] at x5
  have x2 : (((x.natAbs : Nat) : Int) == 1) = decide (x = 1) := by
   by_cases h1 : x = 1
   ·rw [decide_eq_true h1]; exact Qoq (by omega)
   ·rw [decide_eq_false h1]; exact Qds (by omega)
  simp -implicitDefEqProofs (maxSteps:=9^8) only [Qe8, encI, go_sem, Qae, Qab, iv, bv, lx, x1, x2, x3, x4, x5, reduceCtorEq, ↓reduceIte, Nat.reduceEqDiff]
 ·have x3 : (((digs x.natAbs).length : Int) != 1) = true := by rw [bne, Qds (by omega)]; rfl
  have x2 : decide (x = 1) = false := decide_eq_false (by
   intro h1; subst h1
   exact hl (by rw [show (1 : Int).natAbs = 1 from rfl, QoF]; rfl))
  simp -implicitDefEqProofs (maxSteps:=9^8) only [Qe8, encI, go_sem, Qae, Qab, iv, bv, lx, x1, x2, x3, reduceCtorEq, ↓reduceIte, Nat.reduceEqDiff]

theorem one_spec : Qah G QpC [] = some (.d (encI 1)) := by
 rw [Qac (cf := Qqz) rfl]
 have g := Ql0 (n := 1) ⟨by omega, by omega⟩
 simp only [iv, encI, bv] at g
 simp -implicitDefEqProofs (maxSteps:=9^8) only [Qqz, encI, go_sem, Qae, Qab, iv, bv, g, reduceCtorEq, ↓reduceIte, Nat.reduceEqDiff]

theorem Qgr (q : Rat) : Qah G Qej [encR q] = some (.d (encI (q.den : Int))) := by
 rw [Qac (cf := QoI) rfl]
 have ld := QaM (dd q.den)
 by_cases h : q.den = 1
 ·have e1 : (((dd q.den).length : Int) == 0) = true := by rw [h]; rfl
  have g := one_spec
  rw [h]
  rw [h] at ld e1
  have e2 : ((1 : Nat) : Int) = 1 := rfl
  rw [e2]
  simp only [encI, bv] at g
  simp -implicitDefEqProofs (maxSteps:=9^8) only [QoI, encI, encR, h, go_sem, Qae, Qab, iv, bv, ld, e1, g, reduceCtorEq, ↓reduceIte, Nat.reduceEqDiff]
 ·rw [QkK h] at ld
  have e1 : (((digs q.den).length : Int) == 0) = false := Qds (by have := digs_length_pos.2 q.den_pos; omega)
  rw [Qby]
  simp -implicitDefEqProofs (maxSteps:=9^8) only [QoI, encI, encR, QkK h, go_sem, Qae, Qab, iv, bv, ld, e1, reduceCtorEq, ↓reduceIte, Nat.reduceEqDiff]

theorem QfZ (q : Rat) : Qah G QaR [encR q] = some (.d (encI (q.den : Int))) := by
 rw [Qac (cf := QeN) rfl]
 have ld := QaM (dd q.den)
 by_cases h : q.den = 1
 ·have e1 : (((dd q.den).length : Int) == 0) = true := by rw [h]; rfl
  have g := Qex (n := 1) ⟨by omega, by omega⟩
  rw [h]
  rw [h] at ld e1
  have e2 : ((1 : Nat) : Int) = 1 := rfl
  rw [e2]
  simp only [encI, bv, iv] at g
  simp -implicitDefEqProofs (maxSteps:=9^8) only [QeN, encI, encR, h, go_sem, Qae, Qab, iv, bv, ld, e1, g, reduceCtorEq, ↓reduceIte, Nat.reduceEqDiff]
 ·rw [QkK h] at ld
  have e1 : (((digs q.den).length : Int) == 0) = false := Qds (by have := digs_length_pos.2 q.den_pos; omega)
  rw [Qby]
  simp -implicitDefEqProofs (maxSteps:=9^8) only [QeN, encI, encR, QkK h, go_sem, Qae, Qab, iv, bv, ld, e1, reduceCtorEq, ↓reduceIte, Nat.reduceEqDiff]
end Go.AM

/- rat.lowest, Make, Of; ref05.Make, Of -/
namespace Go.AM
open Go Go.RowKit

theorem lenz {x : Int} (h : x = 0) : (((digs x.natAbs).length : Int) == 0) = true := by subst h; exact Qoq (by rw [show (0 : Int).natAbs = 0 from rfl, QaB]; rfl)
theorem Qo8 {x : Int} (h : x ≠ 0) : (((digs x.natAbs).length : Int) == 0) = false := Qds (by have := digs_length_pos.2 (show 0 < x.natAbs by omega); omega)
theorem gcd_ediv {n d : Int} (hd : d ≠ 0) : Int.gcd (n / (Int.gcd n d : Nat)) (d / (Int.gcd n d : Nat)) = 1 := by
 have hg : 0 < Int.gcd n d := Qi6 hd
 rw [Int.gcd_ediv (Int.gcd_dvd_left n d) (Int.gcd_dvd_right n d)]
 simp only [Int.natAbs_natCast]
 exact Nat.div_self hg
theorem QlT {n d : Int} (hd : d ≠ 0) : Rat.divInt (n / (Int.gcd n d : Nat)) (d / (Int.gcd n d : Nat)) = Rat.divInt n d := by
 have hg : 0 < Int.gcd n d := Qi6 hd
 have h1 := Int.ediv_mul_cancel (Int.gcd_dvd_left n d)
 have h2 := Int.ediv_mul_cancel (Int.gcd_dvd_right n d)
 have := Rat.divInt_mul_right (a := (Int.gcd n d : Nat)) (n := n / (Int.gcd n d : Nat)) (d := d / (Int.gcd n d : Nat)) (by omega)
 rw [h1, h2] at this
 exact this.symm
theorem ediv_ne {n d : Int} (hd : d ≠ 0) : d / (Int.gcd n d : Nat) ≠ 0 := by
 intro h
 have h2 := Int.ediv_mul_cancel (Int.gcd_dvd_right n d)
 rw [h, Int.zero_mul] at h2
 exact hd h2.symm
theorem Qri {n : Int} {g : Nat} : nd (n / (g : Int)) ≤ nd n := QiN (by
 rcases Nat.eq_zero_or_pos g with h | h
 ·subst h; simp
 ·exact Int.natAbs_ediv_le_natAbs _ _)
variable [Its]

theorem Qij {n d : Int} (hd : d ≠ 0) (hc : Int.gcd n d = 1) (hdn : nd d ≤ 1000000000000) : Qah G Qg6 [encI n, encI d] = some (.d (encR (Rat.divInt n d))) := by
 rw [Qac (cf := Qgt) rfl]
 by_cases h : d < 0
 ·have x1 : decide (d < 0) = true := decide_eq_true h
  have g1 := Qoz n
  have g2 := Qoz d
  have g3 := QlV (-d) (by rw [nd_neg]; exact hdn)
  have e := QlF (n := -n) (d := -d) (by omega) (by rw [Int.gcd_neg, Int.neg_gcd]; exact hc)
  rw [Rat.neg_divInt_neg] at e
  rw [e]
  clear e
  generalize -n = N at *
  obtain ⟨D, hD⟩ : ∃ D, -d = D := ⟨_, rfl⟩
  rw [hD] at g2 g3 ⊢
  simp only [encI, bv, iv] at g1 g2 g3
  rw [x1] at g2
  by_cases h1 : D = 1
  ·rw [decide_eq_true h1] at g3
   have f1 : dg (dd D.natAbs) = .z true := by subst h1; rfl
   simp -implicitDefEqProofs (maxSteps:=9^8) only [Qgt, encI, go_sem, Qae, Qab, iv, bv, x1, g1, g2, g3, f1, reduceCtorEq, ↓reduceIte, Nat.reduceEqDiff]
  ·rw [decide_eq_false h1] at g3
   have f1 : dd D.natAbs = digs D.natAbs := QkK (by omega)
   have f2 : decide (D < 0) = false := decide_eq_false (by omega)
   rw [f2] at g2 g3
   simp -implicitDefEqProofs (maxSteps:=9^8) only [Qgt, encI, go_sem, Qae, Qab, iv, bv, x1, g1, g2, g3, f1, f2, reduceCtorEq, ↓reduceIte, Nat.reduceEqDiff]
 ·have x1 : decide (d < 0) = false := decide_eq_false h
  have g3 := QlV d hdn
  rw [QlF (n := n) (d := d) (by omega) hc]
  simp only [encI, bv, iv] at g3
  rw [x1] at g3
  by_cases h1 : d = 1
  ·rw [decide_eq_true h1] at g3
   have f1 : dg (dd d.natAbs) = .z true := by subst h1; rfl
   simp -implicitDefEqProofs (maxSteps:=9^8) only [Qgt, encI, go_sem, Qae, Qab, iv, bv, x1, g3, f1, reduceCtorEq, ↓reduceIte, Nat.reduceEqDiff]
  ·rw [decide_eq_false h1] at g3
   have f1 : dd d.natAbs = digs d.natAbs := QkK (by omega)
   simp -implicitDefEqProofs (maxSteps:=9^8) only [Qgt, encI, go_sem, Qae, Qab, iv, bv, x1, g3, f1, reduceCtorEq, ↓reduceIte, Nat.reduceEqDiff]

theorem Qkc {n d : Int} (hn : nd n ≤ 1000000000000) (hdn : nd d ≤ 1000000000000) : Qah G QhO [encI n, encI d] = some (.d (encR (Rat.divInt n d))) := by
 rw [Qac (cf := QiZ) rfl]
 have ln := QaM (digs n.natAbs)
 have ld := QaM (digs d.natAbs)
 by_cases hd : d = 0
 ·have f1 := lenz hd
  have e : Rat.divInt n d = 0 := by rw [hd, Rat.divInt_zero]
  rw [e, Qdv]
  simp -implicitDefEqProofs (maxSteps:=9^8) only [QiZ, encI, go_sem, Qae, Qab, iv, bv, ln, ld, f1, reduceCtorEq, ↓reduceIte, Nat.reduceEqDiff]
 have f1 := Qo8 hd
 by_cases hn0 : n = 0
 ·have f2 := lenz hn0
  have e : Rat.divInt n d = 0 := by rw [hn0, Rat.zero_divInt]
  rw [e, Qdv]
  simp -implicitDefEqProofs (maxSteps:=9^8) only [QiZ, encI, go_sem, Qae, Qab, iv, bv, ln, ld, f1, f2, reduceCtorEq, ↓reduceIte, Nat.reduceEqDiff]
 have f2 := Qo8 hn0
 have g1 := Gcd_spec hn hdn
 have hg : 0 < Int.gcd n d := Qi6 hd
 have hgn : nd ((Int.gcd n d : Nat) : Int) ≤ 1000000000000 := by
  refine Nat.le_trans (QiN ?_) hdn
  rw [Int.natAbs_natCast]
  exact Nat.le_of_dvd (by omega) (Int.gcd_dvd_natAbs_right n d)
 have g2 := QlV _ hgn
 by_cases h1 : Int.gcd n d = 1
 ·have g3 := Qij hd h1 hdn
  rw [decide_eq_true (show ((Int.gcd n d : Nat) : Int) = 1 by omega)] at g2
  rw [Qby] at g1 g2
  simp only [encI, encR, bv, iv] at g1 g2 g3
  simp -implicitDefEqProofs (maxSteps:=9^8) only [QiZ, encI, encR, go_sem, Qae, Qab, iv, bv, ln, ld, f1, f2, g1, g2, g3, reduceCtorEq, ↓reduceIte, Nat.reduceEqDiff]
 ·rw [decide_eq_false (show ¬ ((Int.gcd n d : Nat) : Int) = 1 by omega)] at g2
  have g3 := Qij (n := n / (Int.gcd n d : Nat)) (d := d / (Int.gcd n d : Nat)) (ediv_ne hd) (gcd_ediv hd) (Nat.le_trans Qri hdn)
  have g4 := QrN (x := n) (y := (Int.gcd n d : Nat)) (by omega) hn hgn
  have g5 := QrN (x := d) (y := (Int.gcd n d : Nat)) (by omega) hdn hgn
  rw [QlT hd] at g3
  rw [Qby] at g1 g2 g4 g5
  generalize n / (Int.gcd n d : Nat) = N at *
  generalize d / (Int.gcd n d : Nat) = D at *
  generalize n % (Int.gcd n d : Nat) = M1 at *
  generalize d % (Int.gcd n d : Nat) = M2 at *
  simp only [encI, encR, bv, iv] at g1 g2 g3 g4 g5
  simp -implicitDefEqProofs (maxSteps:=9^8) only [QiZ, encI, encR, go_sem, Qae, Qab, iv, bv, ln, ld, f1, f2, g1, g2, g3, g4, g5, Qcb, ne_eq, not_false_eq_true, reduceCtorEq, ↓reduceIte, Nat.reduceEqDiff]

theorem Qfb {n d : Int} (hn : I64 n) (hd : I64 d) : Qah G Qhr [iv n, iv d] = some (.d (encR (Rat.divInt n d))) := by
 rw [Qac (cf := rat_Of) rfl]
 have g1 := Ql0 hn
 have g2 := Ql0 hd
 have g3 := Qkc (n := n) (d := d) (Nat.le_trans (QeJ hn) (by omega)) (Nat.le_trans (QeJ hd) (by omega))
 simp only [encI, encR, bv, iv] at g1 g2 g3
 simp -implicitDefEqProofs (maxSteps:=9^8) only [rat_Of, encI, encR, go_sem, Qae, Qab, iv, bv, g1, g2, g3, reduceCtorEq, ↓reduceIte, Nat.reduceEqDiff]

theorem Qi8 {n d : Int} (hn : nd n ≤ 1000000000000) (hdn : nd d ≤ 999999999999) : Qah G QcR [encI n, encI d] = some (.d (encR (Rat.divInt n d))) := by
 rw [Qac (cf := QbZ) rfl]
 have ln := QaM (digs n.natAbs)
 have ld := QaM (digs d.natAbs)
 by_cases hd : d = 0
 ·have f1 := lenz hd
  have e : Rat.divInt n d = 0 := by rw [hd, Rat.divInt_zero]
  rw [e, Qdv]
  simp -implicitDefEqProofs (maxSteps:=9^8) only [QbZ, encI, go_sem, Qae, Qab, iv, bv, ln, ld, f1, reduceCtorEq, ↓reduceIte, Nat.reduceEqDiff]
 have f1 := Qo8 hd
 by_cases hn0 : n = 0
 ·have f2 := lenz hn0
  have e : Rat.divInt n d = 0 := by rw [hn0, Rat.zero_divInt]
  rw [e, Qdv]
  simp -implicitDefEqProofs (maxSteps:=9^8) only [QbZ, encI, go_sem, Qae, Qab, iv, bv, ln, ld, f1, f2, reduceCtorEq, ↓reduceIte, Nat.reduceEqDiff]
 have f2 := Qo8 hn0
 have g1 := rGcd_spec hn hdn
 have hg : 0 < Int.gcd n d := Qi6 hd
 have hgn : nd ((Int.gcd n d : Nat) : Int) ≤ 999999999999 := by
  refine Nat.le_trans (QiN ?_) hdn
  rw [Int.natAbs_natCast]
  exact Nat.le_of_dvd (by omega) (Int.gcd_dvd_natAbs_right n d)
 have g4 := QjP (x := n) (y := (Int.gcd n d : Nat)) (by omega) hn hgn
 have g5 := QjP (x := d) (y := (Int.gcd n d : Nat)) (by omega) (by omega) hgn
 have hD := ediv_ne (n := n) hd
 have hc := gcd_ediv (n := n) hd
 have hDn := Nat.le_trans (Qri (n := d) (g := Int.gcd n d)) hdn
 have hNn := Nat.le_trans (Qri (n := n) (g := Int.gcd n d)) hn
 rw [← QlT hd]
 rw [Qby] at g1 g4 g5
 generalize n / (Int.gcd n d : Nat) = N at *
 generalize d / (Int.gcd n d : Nat) = D at *
 generalize n % (Int.gcd n d : Nat) = M1 at *
 generalize d % (Int.gcd n d : Nat) = M2 at *
 by_cases h : D < 0
 ·have x1 : decide (D < 0) = true := decide_eq_true h
  have g6 := QmP (x := N) hNn
  have g7 := QmP (x := D) (by omega)
  have g3 := QpG (-D) (by rw [nd_neg]; omega) (by omega)
  have e := QlF (n := -N) (d := -D) (by omega) (by rw [Int.gcd_neg, Int.neg_gcd]; exact hc)
  rw [Rat.neg_divInt_neg] at e
  rw [e]
  clear e
  have hpos : 0 < -D := by omega
  generalize -N = N2 at *
  obtain ⟨D2, hD2⟩ : ∃ D2, -D = D2 := ⟨_, rfl⟩
  rw [hD2] at g7 g3 hpos ⊢
  simp only [encI, bv, iv] at g1 g3 g4 g5 g6 g7
  rw [x1] at g5 g7
  by_cases h1 : D2 = 1
  ·rw [decide_eq_true h1] at g3
   have f3 : dg (dd D2.natAbs) = .z true := by subst h1; rfl
   simp -implicitDefEqProofs (maxSteps:=9^8) only [QbZ, encI, go_sem, Qae, Qab, iv, bv, ln, ld, f1, f2, x1, g1, g4, g5, g6, g7, g3, f3, Qcb, ne_eq, not_false_eq_true, reduceCtorEq, ↓reduceIte, Nat.reduceEqDiff]
  ·rw [decide_eq_false h1] at g3
   have f3 : dd D2.natAbs = digs D2.natAbs := QkK (by omega)
   have f4 : decide (D2 < 0) = false := decide_eq_false (by omega)
   rw [f4] at g3 g7
   simp -implicitDefEqProofs (maxSteps:=9^8) only [QbZ, encI, go_sem, Qae, Qab, iv, bv, ln, ld, f1, f2, x1, g1, g4, g5, g6, g7, g3, f3, f4, Qcb, ne_eq, not_false_eq_true, reduceCtorEq, ↓reduceIte, Nat.reduceEqDiff]
 ·have x1 : decide (D < 0) = false := decide_eq_false h
  have g3 := QpG D (by omega) (by omega)
  rw [QlF (n := N) (d := D) (by omega) hc]
  simp only [encI, bv, iv] at g1 g3 g4 g5
  rw [x1] at g3 g5
  by_cases h1 : D = 1
  ·rw [decide_eq_true h1] at g3
   have f3 : dg (dd D.natAbs) = .z true := by subst h1; rfl
   simp -implicitDefEqProofs (maxSteps:=9^8) only [QbZ, encI, go_sem, Qae, Qab, iv, bv, ln, ld, f1, f2, x1, g1, g4, g5, g3, f3, Qcb, ne_eq, not_false_eq_true, reduceCtorEq, ↓reduceIte, Nat.reduceEqDiff]
  ·rw [decide_eq_false h1] at g3
   have f3 : dd D.natAbs = digs D.natAbs := QkK (by omega)
   simp -implicitDefEqProofs (maxSteps:=9^8) only [QbZ, encI, go_sem, Qae, Qab, iv, bv, ln, ld, f1, f2, x1, g1, g4, g5, g3, f3, Qcb, ne_eq, not_false_eq_true, reduceCtorEq, ↓reduceIte, Nat.reduceEqDiff]

theorem QaL {n d : Int} (hn : I64 n) (hd : I64 d) : Qah G Qak [iv n, iv d] = some (.d (encR (Rat.divInt n d))) := by
 rw [Qac (cf := Qhv) rfl]
 have g1 := Qex hn
 have g2 := Qex hd
 have g3 := Qi8 (n := n) (d := d) (Nat.le_trans (QeJ hn) (by omega)) (Nat.le_trans (QeJ hd) (by omega))
 simp only [encI, encR, bv, iv] at g1 g2 g3
 simp -implicitDefEqProofs (maxSteps:=9^8) only [Qhv, encI, encR, go_sem, Qae, Qab, iv, bv, g1, g2, g3, reduceCtorEq, ↓reduceIte, Nat.reduceEqDiff]
end Go.AM

/- Laws of rationals for rat and ref05. -/
namespace Go.AM
open Go Go.RowKit

theorem QrV : nd 1 = 1 := by rw [nd, show (1 : Int).natAbs = 1 from rfl, QoF]; rfl
theorem nd_pos {n : Nat} (h : 0 < n) : 1 ≤ nd (n : Int) := digs_length_pos.2 h
theorem sz_one (q : Rat) : 1 ≤ sz q := Nat.le_trans (nd_pos q.den_pos) (Qdr (Nat.le_refl _))
theorem nd_dvd {a b : Int} (h : a ∣ b) (hb : b ≠ 0) : nd a ≤ nd b := QiN (Nat.le_of_dvd (by omega) (Int.natAbs_dvd_natAbs.2 h))
theorem QkG {n d : Int} (hd : d ≠ 0) : (Rat.divInt n d).num ∣ n ∧ ((Rat.divInt n d).den : Int) ∣ d := by
 obtain ⟨m, h1, h2, h3⟩ := Rat.divInt_num_den (n := n) (d := d) (n' := (Rat.divInt n d).num) (d' := (Rat.divInt n d).den) (z' := (Rat.divInt n d).den_nz) (c := (Rat.divInt n d).reduced) hd rfl
 exact ⟨⟨m, h2⟩, ⟨m, h3⟩⟩
theorem QfS {n d : Int} {k : Nat} (hk : 1 ≤ k) (hn : nd n ≤ k) (hd : nd d ≤ k) : sz (Rat.divInt n d) ≤ k := by
 by_cases h0 : d = 0
 ·subst h0
  rw [Rat.divInt_zero]
  exact sz_le (by rw [Rat.zero_num, QlP]; omega) (by rw [Rat.zero_den]; exact Nat.le_trans (Nat.le_of_eq QrV) hk)
 ·obtain ⟨h1, h2⟩ := QkG (n := n) h0
  refine sz_le ?_ (Nat.le_trans (nd_dvd h2 h0) hd)
  by_cases hn0 : n = 0
  ·subst hn0
   rw [Rat.zero_divInt, Rat.zero_num, QlP]; omega
  ·exact Nat.le_trans (nd_dvd h1 hn0) hn
theorem QkE (a b : Rat) : a + b = Rat.divInt (a.num * b.den + b.num * a.den) ((a.den : Int) * b.den) := by
 rw [Rat.add_def', ← Rat.divInt_ofNat, Int.natCast_mul]
theorem Qi0 (a b : Rat) : a * b = Rat.divInt (a.num * b.num) ((a.den : Int) * b.den) := by
 rw [Rat.mul_def', ← Rat.divInt_ofNat, Int.natCast_mul]
theorem Qnz (a b : Rat) : a / b = Rat.divInt (a.num * b.den) ((a.den : Int) * b.num) := by
 rw [Rat.div_def, Rat.inv_def]
 conv => lhs; rw [← Rat.num_divInt_den a]
 rw [Rat.divInt_mul_divInt]
theorem Qml (b : Rat) : b⁻¹ = Rat.divInt b.den b.num := Rat.inv_def b
theorem Qkj {a b : Rat} : sz (a + b) ≤ sz a + sz b + 1 := by
 rw [QkE]
 have a1 := Qdf (Nat.le_refl (sz a)); have a2 := Qdr (Nat.le_refl (sz a))
 have b1 := Qdf (Nat.le_refl (sz b)); have b2 := Qdr (Nat.le_refl (sz b))
 have m1 := Qde (x := a.num) (y := b.den)
 have m2 := Qde (x := b.num) (y := a.den)
 have m3 := Qde (x := a.den) (y := b.den)
 exact QfS (by omega) (Qnf (by omega) (by omega)) (by omega)
theorem Qec {a b : Rat} : sz (a * b) ≤ sz a + sz b := by
 rw [Qi0]
 have a1 := Qdf (Nat.le_refl (sz a)); have a2 := Qdr (Nat.le_refl (sz a))
 have b1 := Qdf (Nat.le_refl (sz b)); have b2 := Qdr (Nat.le_refl (sz b))
 have m1 := Qde (x := a.num) (y := b.num)
 have m3 := Qde (x := a.den) (y := b.den)
 have := sz_one a
 exact QfS (by omega) (by omega) (by omega)
theorem Qin {a b : Rat} : sz (a / b) ≤ sz a + sz b := by
 rw [Qnz]
 have a1 := Qdf (Nat.le_refl (sz a)); have a2 := Qdr (Nat.le_refl (sz a))
 have b1 := Qdf (Nat.le_refl (sz b)); have b2 := Qdr (Nat.le_refl (sz b))
 have m1 := Qde (x := a.num) (y := b.den)
 have m3 := Qde (x := a.den) (y := b.num)
 have := sz_one a
 exact QfS (by omega) (by omega) (by omega)
theorem Qno (a : Rat) : sz (-a) = sz a := by rw [sz, sz, Rat.neg_num, Rat.neg_den, nd_neg]
theorem sz_inv {b : Rat} : sz (b⁻¹) ≤ sz b := by
 rw [Qml]
 exact QfS (sz_one b) (Qdr (Nat.le_refl _)) (Qdf (Nat.le_refl _))

theorem Qi5 {a : Rat} (h : a.den = 1) : a = (a.num : Rat) := Rat.ext rfl h
theorem add_whole {a b : Rat} (ha : a.den = 1) (hb : b.den = 1) : (a + b).num = a.num + b.num ∧ (a + b).den = 1 := by
 have e : a + b = ((a.num + b.num : Int) : Rat) := by
  rw [Rat.intCast_add, ← Qi5 ha, ← Qi5 hb]
 rw [e]; exact ⟨rfl, rfl⟩
theorem mul_whole {a b : Rat} (ha : a.den = 1) (hb : b.den = 1) : (a * b).num = a.num * b.num ∧ (a * b).den = 1 := by
 have e : a * b = ((a.num * b.num : Int) : Rat) := by
  rw [Rat.intCast_mul, ← Qi5 ha, ← Qi5 hb]
 rw [e]; exact ⟨rfl, rfl⟩
theorem QjL {a : Rat} (h : a.num = 0) : a = 0 := Rat.num_eq_zero.1 h
theorem cross (a b : Rat) : Int.gcd ((Rat.divInt a.num b.den).num * (Rat.divInt b.num a.den).num) (((Rat.divInt a.num b.den).den : Int) * (Rat.divInt b.num a.den).den) = 1 := by
 have hp := (Rat.divInt a.num b.den).reduced
 have hq := (Rat.divInt b.num a.den).reduced
 obtain ⟨p1, p2⟩ := QkG (n := a.num) (d := b.den) (by have := b.den_pos; omega)
 obtain ⟨q1, q2⟩ := QkG (n := b.num) (d := a.den) (by have := a.den_pos; omega)
 generalize Rat.divInt a.num b.den = p at *
 generalize Rat.divInt b.num a.den = q at *
 have c1 : Nat.Coprime p.num.natAbs q.den := Nat.Coprime.coprime_dvd_left (Int.natAbs_dvd_natAbs.2 p1) (Nat.Coprime.coprime_dvd_right (Int.natCast_dvd_natCast.1 q2) a.reduced)
 have c2 : Nat.Coprime q.num.natAbs p.den := Nat.Coprime.coprime_dvd_left (Int.natAbs_dvd_natAbs.2 q1) (Nat.Coprime.coprime_dvd_right (Int.natCast_dvd_natCast.1 p2) b.reduced)
 have e : Nat.Coprime (p.num.natAbs * q.num.natAbs) (p.den * q.den) :=
  Nat.Coprime.mul_left (Nat.Coprime.mul_right hp c1) (Nat.Coprime.mul_right c2 hq)
 rw [Int.gcd, Int.natAbs_mul, Int.natAbs_mul, Int.natAbs_natCast, Int.natAbs_natCast]
 exact e
theorem cross_val (a b : Rat) : Rat.divInt ((Rat.divInt a.num b.den).num * (Rat.divInt b.num a.den).num) (((Rat.divInt a.num b.den).den : Int) * (Rat.divInt b.num a.den).den) = a * b := by
 rw [← Qi0, Rat.divInt_mul_divInt, Qi0, Int.mul_comm (b.den : Int)]

def cmpR (a b : Rat) : Int := Int.sign (a.num * b.den - b.num * a.den)
theorem Qk5 {x y : Int} (h : 0 < y) : Int.sign (x * y) = Int.sign x := by rw [Int.sign_mul, Int.sign_eq_one_of_pos h, Int.mul_one]
theorem Qt6 {a b : Rat} (h : Int.sign a.num ≠ Int.sign b.num ∨ Int.sign a.num = 0) : Int.sign (Int.sign a.num - Int.sign b.num) = cmpR a b := by
 have hb : (0 : Int) < b.den := by have := b.den_pos; omega
 have ha : (0 : Int) < a.den := by have := a.den_pos; omega
 have e1 := Qk5 (x := a.num) hb
 have e2 := Qk5 (x := b.num) ha
 rw [cmpR]
 rw [← e1, ← e2] at h ⊢
 generalize a.num * (b.den : Int) = X at *
 generalize b.num * (a.den : Int) = Y at *
 rcases Int.lt_trichotomy X 0 with hx | hx | hx <;> rcases Int.lt_trichotomy Y 0 with hy | hy | hy
 ·rw [Int.sign_eq_neg_one_of_neg hx, Int.sign_eq_neg_one_of_neg hy] at h; omega
 ·rw [Int.sign_eq_neg_one_of_neg hx, hy, Int.sign_eq_neg_one_of_neg (show X - 0 < 0 by omega)]; rfl
 ·rw [Int.sign_eq_neg_one_of_neg hx, Int.sign_eq_one_of_pos hy, Int.sign_eq_neg_one_of_neg (show X - Y < 0 by omega)]; rfl
 ·rw [hx, Int.sign_eq_neg_one_of_neg hy, Int.sign_eq_one_of_pos (show 0 < 0 - Y by omega)]; rfl
 ·rw [hx, hy]; rfl
 ·rw [hx, Int.sign_eq_one_of_pos hy, Int.sign_eq_neg_one_of_neg (show 0 - Y < 0 by omega)]; rfl
 ·rw [Int.sign_eq_one_of_pos hx, Int.sign_eq_neg_one_of_neg hy, Int.sign_eq_one_of_pos (show 0 < X - Y by omega)]; rfl
 ·rw [Int.sign_eq_one_of_pos hx, hy, Int.sign_eq_one_of_pos (show 0 < X - 0 by omega)]; rfl
 ·rw [Int.sign_eq_one_of_pos hx, Int.sign_eq_one_of_pos hy] at h; omega
theorem cmpR_lt {a b : Rat} : cmpR a b < 0 ↔ a < b := by
 rw [Rat.lt_iff, cmpR, Int.sign_neg_iff]; omega
theorem cmpR_le {a b : Rat} : cmpR a b ≤ 0 ↔ a ≤ b := by
 rw [Rat.le_iff, cmpR]
 rcases Int.lt_trichotomy (a.num * b.den - b.num * a.den) 0 with h | h | h
 ·rw [Int.sign_eq_neg_one_of_neg h]; omega
 ·rw [h]; simp; omega
 ·rw [Int.sign_eq_one_of_pos h]; omega
end Go.AM

/- rat.Neg, Sign, Add, Sub, Mul, Div, Compare -/
namespace Go.AM
open Go Go.RowKit

theorem dden {a : Rat} (h : a.den = 1) : dg (dd a.den) = .z true := by rw [h]; rfl
theorem Qc1 (a : Rat) : encI (a.den : Int) = .agg [.v (.bool false), dg (digs a.den)] := Qby a.den
theorem QpI {a : Rat} (h : a.den = 1) : (((dd a.den).length : Int) == 0) = true := by rw [h]; rfl
theorem QpY {a : Rat} (h : a.den ≠ 1) : (((dd a.den).length : Int) == 0) = false := by
 rw [QkK h]; exact Qds (by have := digs_length_pos.2 a.den_pos; omega)
variable [Its]

theorem Qms (a : Rat) : Qah G QmO [encR a] = some (.d (encR (-a))) := by
 rw [Qac (cf := Qre) rfl]
 have g := Qoz a.num
 have e : encR (-a) = .agg [.v (.bool (decide (-a.num < 0))), dg (digs (-a.num).natAbs), .v (.bool false), dg (dd a.den)] := rfl
 rw [e]
 clear e
 generalize -a.num = N at *
 simp only [encI, bv, iv] at g
 simp -implicitDefEqProofs (maxSteps:=9^8) only [Qre, encR, go_sem, Qae, Qab, iv, bv, g, reduceCtorEq, ↓reduceIte, Nat.reduceEqDiff]

theorem Qbu (a : Rat) : Qah G Qcm [encR a] = some (.d (iv (Int.sign a.num))) := by
 rw [Qac (cf := Qoa) rfl]
 have g := Sign_spec a.num
 simp only [encI, bv, iv] at g
 simp -implicitDefEqProofs (maxSteps:=9^8) only [Qoa, encR, go_sem, Qae, Qab, iv, bv, g, reduceCtorEq, ↓reduceIte, Nat.reduceEqDiff]

theorem Qjq {a b : Rat} (ha : sz a ≤ 100000000000) (hb : sz b ≤ 100000000000) : Qah G QjS [encR a, encR b] = some (.d (encR (a + b))) := by
 rw [Qac (cf := Qh6) rfl]
 have a1 := Qdf ha; have a2 := Qdr ha; have b1 := Qdf hb; have b2 := Qdr hb
 have la := QaM (digs a.num.natAbs)
 have lb := QaM (digs b.num.natAbs)
 have ea := QaM (dd a.den)
 have eb := QaM (dd b.den)
 by_cases h1 : a.den = 1 ∧ b.den = 1
 ·obtain ⟨w1, w2⟩ := add_whole h1.1 h1.2
  have u1 := QpI h1.1
  have u2 := QpI h1.2
  have g := QsG (x := a.num) (y := b.num) (by omega) (by omega)
  have e : encR (a + b) = .agg [.v (.bool (decide (a.num + b.num < 0))), dg (digs (a.num + b.num).natAbs), .v (.bool false), .z true] := by rw [encR, w1, dden w2]
  rw [e]
  clear e w1 w2
  generalize a.num + b.num = N at *
  simp only [encI, bv, iv] at g
  simp -implicitDefEqProofs (maxSteps:=9^8) only [Qh6, encR, go_sem, Qae, Qab, iv, bv, la, lb, ea, eb, u1, u2, g, reduceCtorEq, ↓reduceIte, Nat.reduceEqDiff]
 ·have m1 := Qde (x := a.num) (y := b.den)
  have m2 := Qde (x := b.num) (y := a.den)
  have m3 := Qde (x := a.den) (y := b.den)
  have g1 := Qgr a
  have g2 := Qgr b
  have g3 := Qhh (x := a.num) (y := b.den) (by omega) (by omega)
  have g4 := Qhh (x := b.num) (y := a.den) (by omega) (by omega)
  have g5 := Qhh (x := a.den) (y := b.den) (by omega) (by omega)
  have g6 := QsG (x := a.num * b.den) (y := b.num * a.den) (by omega) (by omega)
  have g7 := Qkc (n := a.num * b.den + b.num * a.den) (d := (a.den : Int) * b.den) (Nat.le_trans (Qnf (k := 200000000000) (by omega) (by omega)) (by omega)) (by omega)
  rw [← QkE] at g7
  rw [Qc1] at g1 g2 g3 g4
  rw [Qc1, Qc1] at g5
  generalize a.num * (b.den : Int) + b.num * (a.den : Int) = N at *
  generalize a.num * (b.den : Int) = N1 at *
  generalize b.num * (a.den : Int) = N2 at *
  generalize (a.den : Int) * (b.den : Int) = D at *
  by_cases h2 : a.num = 0
  ·have z1 := lenz h2
   have e : a + b = b := by rw [QjL h2, Rat.zero_add]
   rw [e]
   by_cases h3 : a.den = 1
   ·have u1 := QpI h3
    have u2 := QpY (fun h => h1 ⟨h3, h⟩)
    simp -implicitDefEqProofs (maxSteps:=9^8) only [Qh6, encR, go_sem, Qae, Qab, iv, bv, la, lb, ea, eb, u1, u2, z1, reduceCtorEq, ↓reduceIte, Nat.reduceEqDiff]
   ·have u1 := QpY h3
    simp -implicitDefEqProofs (maxSteps:=9^8) only [Qh6, encR, go_sem, Qae, Qab, iv, bv, la, lb, ea, eb, u1, z1, reduceCtorEq, ↓reduceIte, Nat.reduceEqDiff]
  ·have z1 := Qo8 h2
   by_cases h4 : b.num = 0
   ·have z2 := lenz h4
    have e : a + b = a := by rw [QjL h4, Rat.add_zero]
    rw [e]
    by_cases h3 : a.den = 1
    ·have u1 := QpI h3
     have u2 := QpY (fun h => h1 ⟨h3, h⟩)
     simp -implicitDefEqProofs (maxSteps:=9^8) only [Qh6, encR, go_sem, Qae, Qab, iv, bv, la, lb, ea, eb, u1, u2, z1, z2, reduceCtorEq, ↓reduceIte, Nat.reduceEqDiff]
    ·have u1 := QpY h3
     simp -implicitDefEqProofs (maxSteps:=9^8) only [Qh6, encR, go_sem, Qae, Qab, iv, bv, la, lb, ea, eb, u1, z1, z2, reduceCtorEq, ↓reduceIte, Nat.reduceEqDiff]
   ·have z2 := Qo8 h4
    generalize a + b = S at *
    simp only [encI, encR, bv, iv] at g1 g2 g3 g4 g5 g6 g7
    by_cases h3 : a.den = 1
    ·have u1 := QpI h3
     have u2 := QpY (fun h => h1 ⟨h3, h⟩)
     simp -implicitDefEqProofs (maxSteps:=9^8) only [Qh6, encR, go_sem, Qae, Qab, iv, bv, la, lb, ea, eb, u1, u2, z1, z2, g1, g2, g3, g4, g5, g6, g7, Qcb, ne_eq, not_false_eq_true, reduceCtorEq, ↓reduceIte, Nat.reduceEqDiff]
    ·have u1 := QpY h3
     simp -implicitDefEqProofs (maxSteps:=9^8) only [Qh6, encR, go_sem, Qae, Qab, iv, bv, la, lb, ea, eb, u1, z1, z2, g1, g2, g3, g4, g5, g6, g7, Qcb, ne_eq, not_false_eq_true, reduceCtorEq, ↓reduceIte, Nat.reduceEqDiff]

theorem Qqv {a b : Rat} (ha : sz a ≤ 100000000000) (hb : sz b ≤ 100000000000) : Qah G Qpz [encR a, encR b] = some (.d (encR (a - b))) := by
 rw [Qac (cf := QqW) rfl]
 have g1 := Qms b
 have g2 := Qjq (a := a) (b := -b) ha (by rw [Qno]; exact hb)
 rw [← Rat.sub_eq_add_neg] at g2
 generalize -b = B at *
 simp only [encR, bv, iv] at g1 g2
 simp -implicitDefEqProofs (maxSteps:=9^8) only [QqW, encR, go_sem, Qae, Qab, iv, bv, g1, g2, reduceCtorEq, ↓reduceIte, Nat.reduceEqDiff]

theorem Qfd {a b : Rat} (ha : sz a ≤ 100000000000) (hb : sz b ≤ 100000000000) : Qah G QgN [encR a, encR b] = some (.d (encR (a * b))) := by
 rw [Qac (cf := Qjt) rfl]
 have a1 := Qdf ha; have a2 := Qdr ha; have b1 := Qdf hb; have b2 := Qdr hb
 have la := QaM (digs a.num.natAbs)
 have lb := QaM (digs b.num.natAbs)
 have ea := QaM (dd a.den)
 have eb := QaM (dd b.den)
 by_cases h2 : a.num = 0
 ·have z1 := lenz h2
  have e : a * b = 0 := by rw [QjL h2, Rat.zero_mul]
  rw [e, Qdv]
  simp -implicitDefEqProofs (maxSteps:=9^8) only [Qjt, encR, go_sem, Qae, Qab, iv, bv, la, lb, ea, eb, z1, reduceCtorEq, ↓reduceIte, Nat.reduceEqDiff]
 have z1 := Qo8 h2
 by_cases h4 : b.num = 0
 ·have z2 := lenz h4
  have e : a * b = 0 := by rw [QjL h4, Rat.mul_zero]
  rw [e, Qdv]
  simp -implicitDefEqProofs (maxSteps:=9^8) only [Qjt, encR, go_sem, Qae, Qab, iv, bv, la, lb, ea, eb, z1, z2, reduceCtorEq, ↓reduceIte, Nat.reduceEqDiff]
 have z2 := Qo8 h4
 by_cases h1 : a.den = 1 ∧ b.den = 1
 ·obtain ⟨w1, w2⟩ := mul_whole h1.1 h1.2
  have u1 := QpI h1.1
  have u2 := QpI h1.2
  have g := Qhh (x := a.num) (y := b.num) (by omega) (by omega)
  have e : encR (a * b) = .agg [.v (.bool (decide (a.num * b.num < 0))), dg (digs (a.num * b.num).natAbs), .v (.bool false), .z true] := by rw [encR, w1, dden w2]
  rw [e]
  clear e w1 w2
  generalize a.num * b.num = N at *
  simp only [encI, bv, iv] at g
  simp -implicitDefEqProofs (maxSteps:=9^8) only [Qjt, encR, go_sem, Qae, Qab, iv, bv, la, lb, ea, eb, u1, u2, z1, z2, g, reduceCtorEq, ↓reduceIte, Nat.reduceEqDiff]
 ·have g1 := Qgr a
  have g2 := Qgr b
  have g3 := Qkc (n := a.num) (d := b.den) (by omega) (by omega)
  have g4 := Qkc (n := b.num) (d := a.den) (by omega) (by omega)
  have k1 := QfS (n := a.num) (d := b.den) (k := 100000000000) (by omega) a1 b2
  have k2 := QfS (n := b.num) (d := a.den) (k := 100000000000) (by omega) b1 a2
  have cr := cross a b
  have cv := cross_val a b
  generalize Rat.divInt a.num b.den = p at *
  generalize Rat.divInt b.num a.den = q at *
  have p1 := Qdf k1; have p2 := Qdr k1; have q1 := Qdf k2; have q2 := Qdr k2
  have m1 := Qde (x := p.num) (y := q.num)
  have m2 := Qde (x := p.den) (y := q.den)
  have g5 := Qgr p
  have g6 := Qgr q
  have g7 := Qhh (x := p.num) (y := q.num) (by omega) (by omega)
  have g8 := Qhh (x := p.den) (y := q.den) (by omega) (by omega)
  have hne : (p.den : Int) * (q.den : Int) ≠ 0 := Int.mul_ne_zero (by have := p.den_pos; omega) (by have := q.den_pos; omega)
  have g9 := Qij (n := p.num * q.num) (d := (p.den : Int) * q.den) hne cr (by omega)
  rw [cv] at g9
  rw [Qc1] at g1 g2 g3 g4 g5 g6
  rw [Qc1, Qc1] at g8
  generalize p.num * q.num = N at *
  generalize (p.den : Int) * (q.den : Int) = D at *
  generalize a * b = S at *
  simp only [encI, encR, bv, iv] at g1 g2 g3 g4 g5 g6 g7 g8 g9
  by_cases h3 : a.den = 1
  ·have u1 := QpI h3
   have u2 := QpY (fun h => h1 ⟨h3, h⟩)
   simp -implicitDefEqProofs (maxSteps:=9^8) only [Qjt, encR, go_sem, Qae, Qab, iv, bv, la, lb, ea, eb, u1, u2, z1, z2, g1, g2, g3, g4, g5, g6, g7, g8, g9, Qcb, ne_eq, not_false_eq_true, reduceCtorEq, ↓reduceIte, Nat.reduceEqDiff]
  ·have u1 := QpY h3
   simp -implicitDefEqProofs (maxSteps:=9^8) only [Qjt, encR, go_sem, Qae, Qab, iv, bv, la, lb, ea, eb, u1, z1, z2, g1, g2, g3, g4, g5, g6, g7, g8, g9, Qcb, ne_eq, not_false_eq_true, reduceCtorEq, ↓reduceIte, Nat.reduceEqDiff]

theorem Ql4 {a b : Rat} (ha : sz a ≤ 100000000000) (hb : sz b ≤ 100000000000) : Qah G Qmu [encR a, encR b] = some (.d (encR (a / b))) := by
 rw [Qac (cf := QoU) rfl]
 have b1 := Qdf hb; have b2 := Qdr hb
 have lb := QaM (digs b.num.natAbs)
 by_cases h4 : b.num = 0
 ·have z2 := lenz h4
  have e : a / b = 0 := by rw [QjL h4, Rat.div_def, Rat.inv_zero, Rat.mul_zero]
  rw [e, Qdv]
  simp -implicitDefEqProofs (maxSteps:=9^8) only [QoU, encR, go_sem, Qae, Qab, iv, bv, lb, z2, reduceCtorEq, ↓reduceIte, Nat.reduceEqDiff]
 have z2 := Qo8 h4
 have g1 := Qgr b
 have hc : Int.gcd (b.den : Int) b.num = 1 := by
  have := b.reduced
  rw [Int.gcd_comm]
  exact this
 have g2 := Qij (n := b.den) (d := b.num) h4 hc (by omega)
 rw [← Qml] at g2
 have g3 := Qfd (a := a) (b := b⁻¹) ha (Nat.le_trans sz_inv hb)
 rw [← Rat.div_def] at g3
 rw [Qc1] at g1 g2
 generalize a / b = S at *
 generalize b⁻¹ = B at *
 simp only [encI, encR, bv, iv] at g1 g2 g3
 simp -implicitDefEqProofs (maxSteps:=9^8) only [QoU, encR, go_sem, Qae, Qab, iv, bv, lb, z2, g1, g2, g3, reduceCtorEq, ↓reduceIte, Nat.reduceEqDiff]

theorem QiB {a b : Rat} (ha : sz a ≤ 100000000000) (hb : sz b ≤ 100000000000) : Qah G Qh2 [encR a, encR b] = some (.d (iv (cmpR a b))) := by
 rw [Qac (cf := Qg2) rfl]
 have a1 := Qdf ha; have a2 := Qdr ha; have b1 := Qdf hb; have b2 := Qdr hb
 have g1 := Qbu a
 have g2 := Qbu b
 have s1 : -1 ≤ Int.sign a.num ∧ Int.sign a.num ≤ 1 := by
  rcases Int.lt_trichotomy a.num 0 with h | h | h
  ·rw [Int.sign_eq_neg_one_of_neg h]; omega
  ·rw [h]; simp
  ·rw [Int.sign_eq_one_of_pos h]; omega
 have s2 : -1 ≤ Int.sign b.num ∧ Int.sign b.num ≤ 1 := by
  rcases Int.lt_trichotomy b.num 0 with h | h | h
  ·rw [Int.sign_eq_neg_one_of_neg h]; omega
  ·rw [h]; simp
  ·rw [Int.sign_eq_one_of_pos h]; omega
 have i1 : I64 (Int.sign a.num) := ⟨by omega, by omega⟩
 have i2 : I64 (Int.sign b.num) := ⟨by omega, by omega⟩
 by_cases h : Int.sign a.num ≠ Int.sign b.num ∨ Int.sign a.num = 0
 ·have g3 := Ql0 i1
  have g4 := Ql0 i2
  have n1 : nd (Int.sign a.num) ≤ 3 := QeJ i1
  have n2 : nd (Int.sign b.num) ≤ 3 := QeJ i2
  have g5 := Qk3 (x := Int.sign a.num) (y := Int.sign b.num) (by omega) (by omega)
  rw [Qt6 h] at g5
  generalize Int.sign a.num = X at *
  generalize Int.sign b.num = Y at *
  simp only [encI, encR, bv, iv] at g1 g2 g3 g4 g5
  by_cases hxy : X = Y
  ·subst hxy
   have u1 : (X != X) = false := by simp
   have u2 : (X == 0) = true := Qoq (by rcases h with h | h; exact absurd rfl h; exact h)
   simp -implicitDefEqProofs (maxSteps:=9^8) only [Qg2, encR, go_sem, Qae, Qab, iv, bv, u1, u2, g1, g2, g3, g4, g5, reduceCtorEq, ↓reduceIte, Nat.reduceEqDiff]
  ·have u1 : (X != Y) = true := by rw [bne, Qds hxy]; rfl
   simp -implicitDefEqProofs (maxSteps:=9^8) only [Qg2, encR, go_sem, Qae, Qab, iv, bv, u1, g1, g2, g3, g4, g5, reduceCtorEq, ↓reduceIte, Nat.reduceEqDiff]
 ·have hxy : Int.sign a.num = Int.sign b.num := by omega
  have hx0 : Int.sign a.num ≠ 0 := by omega
  have u1 : (Int.sign a.num != Int.sign b.num) = false := by rw [bne, Qoq hxy]; rfl
  have u2 : (Int.sign a.num == 0) = false := Qds hx0
  have m1 := Qde (x := a.num) (y := b.den)
  have m2 := Qde (x := b.num) (y := a.den)
  have g3 := Qgr a
  have g4 := Qgr b
  have g5 := Qhh (x := a.num) (y := b.den) (by omega) (by omega)
  have g6 := Qhh (x := b.num) (y := a.den) (by omega) (by omega)
  have g7 := Qk3 (x := a.num * b.den) (y := b.num * a.den) (by omega) (by omega)
  have e : Int.sign (a.num * b.den - b.num * a.den) = cmpR a b := rfl
  rw [e] at g7
  clear e
  rw [Qc1] at g3 g4 g5 g6
  generalize a.num * (b.den : Int) = N1 at *
  generalize b.num * (a.den : Int) = N2 at *
  simp only [encI, encR, bv, iv] at g1 g2 g3 g4 g5 g6 g7
  simp -implicitDefEqProofs (maxSteps:=9^8) only [Qg2, encR, go_sem, Qae, Qab, iv, bv, u1, u2, g1, g2, g3, g4, g5, g6, g7, reduceCtorEq, ↓reduceIte, Nat.reduceEqDiff]
end Go.AM

/- ref05.Neg, Sign, Add, Sub, Mul, Div, Compare -/
namespace Go.AM
open Go Go.RowKit
variable [Its]

theorem Qp6 {a : Rat} (ha : sz a ≤ 100000000000) : Qah G QhF [encR a] = some (.d (encR (-a))) := by
 rw [Qac (cf := QgG) rfl]
 have a1 := Qdf ha
 have g := QmP (x := a.num) (by omega)
 have e : encR (-a) = .agg [.v (.bool (decide (-a.num < 0))), dg (digs (-a.num).natAbs), .v (.bool false), dg (dd a.den)] := rfl
 rw [e]
 clear e
 generalize -a.num = N at *
 simp only [encI, bv, iv] at g
 simp -implicitDefEqProofs (maxSteps:=9^8) only [QgG, encR, go_sem, Qae, Qab, iv, bv, g, reduceCtorEq, ↓reduceIte, Nat.reduceEqDiff]

theorem Qbf {a : Rat} (ha : sz a ≤ 100000000000) : Qah G QaS [encR a] = some (.d (iv (Int.sign a.num))) := by
 rw [Qac (cf := Qga) rfl]
 have a1 := Qdf ha
 have g := Qtp (x := a.num) (by omega)
 simp only [encI, bv, iv] at g
 simp -implicitDefEqProofs (maxSteps:=9^8) only [Qga, encR, go_sem, Qae, Qab, iv, bv, g, reduceCtorEq, ↓reduceIte, Nat.reduceEqDiff]

theorem Qdd {a b : Rat} (ha : sz a ≤ 100000000000) (hb : sz b ≤ 100000000000) : Qah G Qbm [encR a, encR b] = some (.d (encR (a + b))) := by
 rw [Qac (cf := QgM) rfl]
 have a1 := Qdf ha; have a2 := Qdr ha; have b1 := Qdf hb; have b2 := Qdr hb
 have m1 := Qde (x := a.num) (y := b.den)
 have m2 := Qde (x := b.num) (y := a.den)
 have m3 := Qde (x := a.den) (y := b.den)
 have g1 := QfZ a
 have g2 := QfZ b
 have g3 := Qdw (x := a.num) (y := b.den) (by omega) (by omega)
 have g4 := Qdw (x := b.num) (y := a.den) (by omega) (by omega)
 have g5 := Qdw (x := a.den) (y := b.den) (by omega) (by omega)
 have g6 := QiK (x := a.num * b.den) (y := b.num * a.den) (by omega) (by omega)
 have g7 := Qi8 (n := a.num * b.den + b.num * a.den) (d := (a.den : Int) * b.den) (Nat.le_trans (Qnf (k := 200000000000) (by omega) (by omega)) (by omega)) (by omega)
 rw [← QkE] at g7
 rw [Qc1] at g1 g2 g3 g4
 rw [Qc1, Qc1] at g5
 generalize a.num * (b.den : Int) + b.num * (a.den : Int) = N at *
 generalize a.num * (b.den : Int) = N1 at *
 generalize b.num * (a.den : Int) = N2 at *
 generalize (a.den : Int) * (b.den : Int) = D at *
 generalize a + b = S at *
 simp only [encI, encR, bv, iv] at g1 g2 g3 g4 g5 g6 g7
 simp -implicitDefEqProofs (maxSteps:=9^8) only [QgM, encR, go_sem, Qae, Qab, iv, bv, g1, g2, g3, g4, g5, g6, g7, Qcb, ne_eq, not_false_eq_true, reduceCtorEq, ↓reduceIte, Nat.reduceEqDiff]

theorem Qp3 {a b : Rat} (ha : sz a ≤ 100000000000) (hb : sz b ≤ 100000000000) : Qah G QhP [encR a, encR b] = some (.d (encR (a - b))) := by
 rw [Qac (cf := QgJ) rfl]
 have g1 := Qp6 hb
 have g2 := Qdd (a := a) (b := -b) ha (by rw [Qno]; exact hb)
 rw [← Rat.sub_eq_add_neg] at g2
 generalize -b = B at *
 simp only [encR, bv, iv] at g1 g2
 simp -implicitDefEqProofs (maxSteps:=9^8) only [QgJ, encR, go_sem, Qae, Qab, iv, bv, g1, g2, reduceCtorEq, ↓reduceIte, Nat.reduceEqDiff]

theorem Qcy {a b : Rat} (ha : sz a ≤ 100000000000) (hb : sz b ≤ 100000000000) : Qah G QaQ [encR a, encR b] = some (.d (encR (a * b))) := by
 rw [Qac (cf := QgX) rfl]
 have a1 := Qdf ha; have a2 := Qdr ha; have b1 := Qdf hb; have b2 := Qdr hb
 have m1 := Qde (x := a.num) (y := b.num)
 have m3 := Qde (x := a.den) (y := b.den)
 have g1 := QfZ a
 have g2 := QfZ b
 have g3 := Qdw (x := a.num) (y := b.num) (by omega) (by omega)
 have g5 := Qdw (x := a.den) (y := b.den) (by omega) (by omega)
 have g7 := Qi8 (n := a.num * b.num) (d := (a.den : Int) * b.den) (by omega) (by omega)
 rw [← Qi0] at g7
 rw [Qc1] at g1 g2
 rw [Qc1, Qc1] at g5
 generalize a.num * b.num = N1 at *
 generalize (a.den : Int) * (b.den : Int) = D at *
 generalize a * b = S at *
 simp only [encI, encR, bv, iv] at g1 g2 g3 g5 g7
 simp -implicitDefEqProofs (maxSteps:=9^8) only [QgX, encR, go_sem, Qae, Qab, iv, bv, g1, g2, g3, g5, g7, Qcb, ne_eq, not_false_eq_true, reduceCtorEq, ↓reduceIte, Nat.reduceEqDiff]

theorem QfR {a b : Rat} (ha : sz a ≤ 100000000000) (hb : sz b ≤ 100000000000) : Qah G QcA [encR a, encR b] = some (.d (encR (a / b))) := by
 rw [Qac (cf := QgL) rfl]
 have a1 := Qdf ha; have a2 := Qdr ha; have b1 := Qdf hb; have b2 := Qdr hb
 have m1 := Qde (x := a.num) (y := b.den)
 have m3 := Qde (x := a.den) (y := b.num)
 have g1 := QfZ a
 have g2 := QfZ b
 have g3 := Qdw (x := a.num) (y := b.den) (by omega) (by omega)
 have g5 := Qdw (x := a.den) (y := b.num) (by omega) (by omega)
 have g7 := Qi8 (n := a.num * b.den) (d := (a.den : Int) * b.num) (by omega) (by omega)
 rw [← Qnz] at g7
 rw [Qc1] at g1 g2 g3 g5
 generalize a.num * (b.den : Int) = N1 at *
 generalize (a.den : Int) * b.num = D at *
 generalize a / b = S at *
 simp only [encI, encR, bv, iv] at g1 g2 g3 g5 g7
 simp -implicitDefEqProofs (maxSteps:=9^8) only [QgL, encR, go_sem, Qae, Qab, iv, bv, g1, g2, g3, g5, g7, Qcb, ne_eq, not_false_eq_true, reduceCtorEq, ↓reduceIte, Nat.reduceEqDiff]

theorem Qb0 {a b : Rat} (ha : sz a ≤ 100000000000) (hb : sz b ≤ 100000000000) : Qah G Qch [encR a, encR b] = some (.d (iv (cmpR a b))) := by
 rw [Qac (cf := QeA) rfl]
 have a1 := Qdf ha; have a2 := Qdr ha; have b1 := Qdf hb; have b2 := Qdr hb
 have m1 := Qde (x := a.num) (y := b.den)
 have m2 := Qde (x := b.num) (y := a.den)
 have g3 := QfZ a
 have g4 := QfZ b
 have g5 := Qdw (x := a.num) (y := b.den) (by omega) (by omega)
 have g6 := Qdw (x := b.num) (y := a.den) (by omega) (by omega)
 have g7 := QcT (x := a.num * b.den) (y := b.num * a.den) (by omega) (by omega)
 have e : Int.sign (a.num * b.den - b.num * a.den) = cmpR a b := rfl
 rw [e] at g7
 clear e
 rw [Qc1] at g3 g4 g5 g6
 generalize a.num * (b.den : Int) = N1 at *
 generalize b.num * (a.den : Int) = N2 at *
 simp only [encI, encR, bv, iv] at g3 g4 g5 g6 g7
 simp -implicitDefEqProofs (maxSteps:=9^8) only [QeA, encR, go_sem, Qae, Qab, iv, bv, g3, g4, g5, g6, g7, reduceCtorEq, ↓reduceIte, Nat.reduceEqDiff]
end Go.AM

/- ref01: Around, At; digits tell numbers apart. -/
namespace Go.AM
open Go Go.RowKit

theorem QlW {n : Int} (h : (Lit.int .i64 n).wf = true) : I64 n := by
 simp only [Lit.wf, Bool.and_eq_true, decide_eq_true_eq] at h
 have h1 : IntKind.min .i64 = -9223372036854775808 := by decide
 have h2 : IntKind.max .i64 = 9223372036854775807 := by decide
 rw [h1, h2] at h
 exact ⟨by omega, by omega⟩
theorem Qpr {d : D} {l : List Int} (h : Dg d l) : Rw d l := by
 rcases h with ⟨rfl, rfl⟩ | h
 ·exact .inl rfl
 ·exact .inr h
def arnd (n m : Int) : Int := (if n < 0 then -(n + 1) else n) % m
theorem Qsn {n m : Int} (hm : 0 < m) : 0 ≤ arnd n m ∧ arnd n m < m := ⟨Int.emod_nonneg _ (by omega), Int.emod_lt_of_pos _ hm⟩
def atr (l : List Int) (i m : Int) : Int := if i < 0 ∨ i ≥ l.length then 0 else arnd (l.getD i.toNat 0) m
theorem Qtl (l : List Int) (i : Int) {m : Int} (hm : 0 < m) : 0 ≤ atr l i m ∧ atr l i m < m := by
 unfold atr
 split
 ·omega
 ·exact Qsn hm

theorem QsH {a b : Nat} (h : digs a = digs b) : a = b := by
 have := congrArg val h
 rw [Qaz, Qaz] at this
 omega
theorem iv_inj {a b : Int} (h : iv a = iv b) : a = b := by cases h; rfl
theorem Qqb : ∀ {l m : List Int}, l.map iv = m.map iv → l = m
 | [], [], _ => rfl
 | [], _ :: _, h => by cases h
 | _ :: _, [], h => by cases h
 | a :: l, b :: m, h => by
  rw [List.map_cons, List.map_cons, List.cons.injEq] at h
  rw [iv_inj h.1, Qqb h.2]
theorem dg_inj {l m : List Int} (h : dg l = dg m) : l = m := by
 by_cases h1 : l = [] <;> by_cases h2 : m = []
 ·rw [h1, h2]
 ·rw [h1, QpM, Qpc h2] at h; cases h
 ·rw [h2, QpM, Qpc h1] at h; cases h
 ·rw [Qpc h1, Qpc h2, D.row.injEq] at h; exact Qqb h.2
variable [Its]

theorem QjG {n m : Int} (hn : I64 n) (hm : 0 < m) : Qah G Qc2 [iv n, iv m] = some (.d (iv (arnd n m))) := by
 rw [Qac (cf := QdD) rfl]
 obtain ⟨h1, h2⟩ := hn
 have e2 := QmM (b := m) (by omega)
 unfold arnd
 by_cases h : n < 0
 ·have e1 : decide (n < 0) = true := decide_eq_true h
  have e3 : w64 (n + 1) = n + 1 := Qad (by omega) (by omega)
  have e4 : w64 (0 - (n + 1)) = -(n + 1) := by rw [Qad (by omega) (by omega)]; omega
  have e5 := Qdi (a := -(n + 1)) (b := m) (by omega)
  rw [if_pos h]
  simp -implicitDefEqProofs (maxSteps:=9^8) only [QdD, go_sem, iv, bv, e1, e2, e3, e4, e5, reduceCtorEq, ↓reduceIte, Nat.reduceEqDiff]
 ·have e1 : decide (n < 0) = false := decide_eq_false h
  have e5 := Qdi (a := n) (b := m) (by omega)
  rw [if_neg h]
  simp -implicitDefEqProofs (maxSteps:=9^8) only [QdD, go_sem, iv, bv, e1, e2, e5, reduceCtorEq, ↓reduceIte, Nat.reduceEqDiff]
theorem QgA {d : D} {l : List Int} {i m : Int} (hr : Rw d l) (hl : ∀ n ∈ l, I64 n) (hm : 0 < m) : Qah G QaO [d, iv i, iv m] = some (.d (iv (atr l i m))) := by
 rw [Qac (cf := Qel) rfl]
 have ll := hr.len
 unfold atr
 by_cases h : i < 0
 ·have e1 : decide (i < 0) = true := decide_eq_true h
  rw [if_pos (.inl h)]
  simp -implicitDefEqProofs (maxSteps:=9^8) only [Qel, go_sem, iv, bv, e1, reduceCtorEq, ↓reduceIte, Nat.reduceEqDiff]
 ·have e1 : decide (i < 0) = false := decide_eq_false h
  by_cases h2 : i ≥ l.length
  ·have e2 : decide (i ≥ (l.length : Int)) = true := decide_eq_true h2
   rw [if_pos (.inr h2)]
   simp -implicitDefEqProofs (maxSteps:=9^8) only [Qel, go_sem, iv, bv, e1, e2, ll, reduceCtorEq, ↓reduceIte, Nat.reduceEqDiff]
  ·have e2 : decide (i ≥ (l.length : Int)) = false := decide_eq_false h2
   rw [if_neg (by omega)]
   obtain ⟨j, rfl⟩ : ∃ j : Nat, i = (j : Int) := ⟨i.toNat, by omega⟩
   rw [Int.toNat_natCast]
   have hj : j < l.length := by omega
   have e3 := hr.ixn (j := j) hj
   have e4 := fun hp => ldv hp l (j := j) hj
   have hb : I64 (l.getD j 0) := hl _ (by rw [List.getD_eq_getElem?_getD, List.getElem?_eq_getElem hj]; exact List.getElem_mem hj)
   have g := QjG hb hm
   simp only [iv] at g
   simp -implicitDefEqProofs (maxSteps:=9^8) only [Qel, go_sem, iv, bv, e1, e2, e3, e4, ll, g, reduceCtorEq, ↓reduceIte, Nat.reduceEqDiff]
end Go.AM

/- Rationals: signs, sizes, names for what comes out; ref01. -/
namespace Go.AM
open Go Go.RowKit

theorem Qgh : sz 1 = 1 := by rw [sz, Rat.one_num, Rat.one_den]; exact by rw [show ((1 : Nat) : Int) = 1 from rfl, QrV]; rfl
theorem QeF : sz 0 = 1 := by rw [sz, Rat.zero_num, Rat.zero_den]; exact by rw [show ((1 : Nat) : Int) = 1 from rfl, QrV, QlP]; rfl
theorem sz_pow (q : Rat) : ∀ n : Nat, sz (q ^ n) ≤ n * sz q + 1
 | 0 => by rw [Rat.pow_zero, Qgh]; omega
 | n + 1 => by
  rw [Rat.pow_succ]
  have h1 := Qec (a := q ^ n) (b := q)
  have h2 := sz_pow q n
  have h3 : (n + 1) * sz q = n * sz q + sz q := Nat.succ_mul n (sz q)
  omega
theorem QdG {n : Int} (h : I64 n) : sz (n : Rat) ≤ 3 := sz_le (QeJ h) (by rw [Rat.den_intCast]; exact Nat.le_trans (Nat.le_of_eq QrV) (by omega))
theorem Qck (n : Int) : Rat.divInt n 1 = (n : Rat) := by
 have := Rat.num_divInt_den (n : Rat)
 exact this
theorem QmV {x : Rat} : decide (Int.sign x.num ≥ 0) = decide (0 ≤ x) := by
 apply decide_eq_decide.2
 rw [← Rat.num_nonneg]
 rcases Int.lt_trichotomy x.num 0 with h | h | h
 ·rw [Int.sign_eq_neg_one_of_neg h]; omega
 ·rw [h]; simp
 ·rw [Int.sign_eq_one_of_pos h]; omega
theorem num_pos' {x : Rat} : 0 < x.num ↔ 0 < x := by
 rw [Rat.lt_iff]; simp
theorem Qkx {x : Rat} : decide (Int.sign x.num > 0) = decide (0 < x) := by
 apply decide_eq_decide.2
 rw [← num_pos']
 rcases Int.lt_trichotomy x.num 0 with h | h | h
 ·rw [Int.sign_eq_neg_one_of_neg h]; omega
 ·rw [h]; simp
 ·rw [Int.sign_eq_one_of_pos h]; omega
theorem QfE {x : Rat} : decide (Int.sign x.num < 0) = decide (x < 0) := by
 have e : decide (x < 0) = !decide (0 ≤ x) := by
  by_cases h : 0 ≤ x
  ·rw [decide_eq_true h, decide_eq_false (by rw [Rat.not_lt]; exact h)]; rfl
  ·rw [decide_eq_false h, decide_eq_true (Rat.not_le.1 h)]; rfl
 rw [e, ← QmV]
 by_cases h : Int.sign x.num < 0
 ·rw [decide_eq_true h, decide_eq_false (by omega)]; rfl
 ·rw [decide_eq_false h, decide_eq_true (by omega)]; rfl
def boxR (q : Rat) : Obj := ⟨0, 0, [.d (.v (.bool (decide (q.num < 0)))), .d (dg (digs q.num.natAbs)), .d (.v (.bool false)), .d (dg (dd q.den))], false⟩
def Qm5 : Obj := ⟨0, 0, [.d (.v (.bool false)), .d (.z true), .d (.v (.bool false)), .d (.z true)], false⟩
theorem sz_sub {a b : Rat} : sz (a - b) ≤ sz a + sz b + 1 := by
 rw [Rat.sub_eq_add_neg]
 have := Qkj (a := a) (b := -b)
 rw [Qno] at this
 exact this
theorem Qqc : sz 2 ≤ 3 := QdG (n := 2) ⟨by omega, by omega⟩
theorem Qq0 {n d : Int} (hn : I64 n) (hd : I64 d) : sz (Rat.divInt n d) ≤ 3 := QfS (by omega) (QeJ hn) (QeJ hd)
theorem dd_inj {a b : Nat} (ha : 0 < a) (hb : 0 < b) (h : dd a = dd b) : a = b := by
 have hn : ∀ {n : Nat}, 0 < n → digs n ≠ [] := fun hn h0 => by have := digs_length_pos.2 hn; rw [h0] at this; simp at this
 by_cases h1 : a = 1 <;> by_cases h2 : b = 1
 ·omega
 ·rw [h1, dd_one, QkK h2] at h; exact absurd h.symm (hn hb)
 ·rw [h2, dd_one, QkK h1] at h; exact absurd h (hn ha)
 ·rw [QkK h1, QkK h2] at h; exact QsH h
theorem rat_inj {q p : Rat} (h1 : decide (q.num < 0) = decide (p.num < 0)) (h2 : dg (digs q.num.natAbs) = dg (digs p.num.natAbs)) (h3 : dg (dd q.den) = dg (dd p.den)) : q = p := by
 have e1 := QsH (dg_inj h2)
 have e2 := dd_inj q.den_pos p.den_pos (dg_inj h3)
 have e3 : q.num < 0 ↔ p.num < 0 := by simpa using h1
 exact Rat.ext (by omega) e2

variable [Its]

end Go.AM

/- Rows and arrays of rationals. -/
namespace Go.AM
open Go Go.RowKit

def cRs : List Rat → List D
 | [] => []
 | q :: l => .v (.bool (decide (q.num < 0))) :: dg (digs q.num.natAbs) :: .v (.bool false) :: dg (dd q.den) :: cRs l
def rowR (l : List Rat) : D := .row l.length (cRs l)
theorem Qgu : ∀ l : List Rat, (cRs l).length = l.length * 4
 | [] => rfl
 | q :: l => by simp only [cRs, List.length_cons, Qgu l]; omega
theorem Qlx : ∀ (l : List Rat) (n : Nat), (cRs l).drop (n * 4) = cRs (l.drop n)
 | [], n => by simp [cRs]
 | q :: l, 0 => rfl
 | q :: l, n + 1 => by
  rw [show (n + 1) * 4 = n * 4 + 1 + 1 + 1 + 1 by omega, cRs]
  simp only [List.drop_succ_cons]
  exact Qlx l n
theorem Qlz : ∀ (l : List Rat) (n : Nat), (cRs l).take (n * 4) = cRs (l.take n)
 | [], n => by simp [cRs]
 | q :: l, 0 => rfl
 | q :: l, n + 1 => by
  rw [show (n + 1) * 4 = n * 4 + 1 + 1 + 1 + 1 by omega, cRs]
  simp only [List.take_succ_cons, Qlz l n, cRs]
theorem QnI : ∀ (l m : List Rat), cRs (l ++ m) = cRs l ++ cRs m
 | [], m => rfl
 | q :: l, m => by simp only [List.cons_append, cRs, QnI l m]
theorem cRs_inj : ∀ {l m : List Rat}, cRs l = cRs m → l = m
 | [], [], _ => rfl
 | [], _ :: _, h => by simp [cRs] at h
 | _ :: _, [], h => by simp [cRs] at h
 | a :: l, b :: m, h => by
  simp only [cRs, List.cons.injEq, D.v.injEq, Value.bool.injEq, true_and] at h
  obtain ⟨h1, h2, h3, h4⟩ := h
  rw [rat_inj h1 h2 h3, cRs_inj h4]
def RwR (d : D) (l : List Rat) : Prop := (d = .z true ∧ l = []) ∨ d = rowR l
theorem RwR.row (l : List Rat) : RwR (rowR l) l := .inr rfl
theorem RwR.nil : RwR (.z true) [] := .inl ⟨rfl, rfl⟩
theorem RwR.inj {d : D} {l m : List Rat} (h : RwR d l) (h' : RwR d m) : l = m := by
 rcases h with ⟨h1, h2⟩ | h1 <;> rcases h' with ⟨h3, h4⟩ | h3
 ·rw [h2, h4]
 ·rw [h1] at h3; cases h3
 ·rw [h1] at h3; cases h3
 ·rw [h1] at h3
  simp only [rowR, D.row.injEq] at h3
  exact cRs_inj h3.2
theorem RwR.len {d : D} {l : List Rat} (h : RwR d l) : lenA (.d d) = some l.length := by
 rcases h with ⟨rfl, rfl⟩ | rfl
 ·rfl
 ·rfl
theorem RwR.ixa {d : D} {l : List Rat} (hr : RwR d l) {j : Nat} (h1 : j < l.length) (h : Hp) : ixaA h 4 (j : Int) (.d d) = some (.d (.rp (cRs (l.drop j)))) := by
 rcases hr with ⟨rfl, rfl⟩ | rfl
 ·simp at h1
 ·simp only [ixaA, guardO, rowR]
  rw [if_pos ⟨by omega, by omega⟩, Int.toNat_natCast, Qlx]
theorem ldR (h : Hp) (l : List Rat) {j : Nat} (h1 : j < l.length) : QcY h (some 4) (.d (.rp (cRs (l.drop j)))) = some (.d (encR (l.getD j 0))) := by
 have e : l.drop j = l.getD j 0 :: l.drop (j + 1) := by
  rw [List.drop_eq_getElem_cons h1, List.getD_eq_getElem?_getD, List.getElem?_eq_getElem h1]; rfl
 rw [e]
 show guardO (4 ≤ (cRs (l.getD j 0 :: l.drop (j + 1))).length) (some (A.d (D.agg ((cRs (l.getD j 0 :: l.drop (j + 1))).take 4)))) = _
 exact if_pos (by rw [Qgu, List.length_cons]; omega)
theorem RwR.src {d : D} {l : List Rat} (hr : RwR d l) (st : St) : src st (.d d) = some (l.length, cRs l) := by
 rcases hr with ⟨rfl, rfl⟩ | rfl
 ·rfl
 ·rfl
theorem RwR.srcS {d : D} {l : List Rat} (hr : RwR d l) (st : St) : srcS st (.d d) = some (l.length, cRs l) := by
 rcases hr with ⟨rfl, rfl⟩ | rfl
 ·rfl
 ·rfl
theorem Qos (ks : List Key) : ∀ cs : List D, Qgg ks (cs.map A.d) = true
 | [] => rfl
 | c :: cs => by rw [List.map_cons, Qgg, Qos ks cs]; rfl
def cA (l : List Rat) : List A := (cRs l).map A.d
def arrR (n : Nat) (l : List Rat) : Obj := ⟨4, n, cA l, false⟩
attribute [go_sem] arrR
theorem Qis (l : List Rat) : (cA l).length = l.length * 4 := by rw [cA, List.length_map, Qgu]
theorem Qmw (l : List Rat) : allD (cA l) = some (cRs l) := Qg1 _
theorem Qc3 (ks : List Key) (l : List Rat) : Qgg ks (cA l) = true := Qos ks _
theorem QnM (q : Rat) : cA [q] = [.d (.v (.bool (decide (q.num < 0)))), .d (dg (digs q.num.natAbs)), .d (.v (.bool false)), .d (dg (dd q.den))] := rfl
theorem Qo0 (l : List Rat) (q : Rat) : cA l ++ [.d (.v (.bool (decide (q.num < 0)))), .d (dg (digs q.num.natAbs)), .d (.v (.bool false)), .d (dg (dd q.den))] = cA (l ++ [q]) := by
 rw [← QnM, cA, cA, cA, QnI, List.map_append]
theorem ld_cA {l : List Rat} {j : Nat} (hj : j < l.length) : Qab (some 4) (j * 4) (cA l) = some (.d (.agg [.v (.bool (decide ((l.getD j 0).num < 0))), dg (digs (l.getD j 0).num.natAbs), .v (.bool false), dg (dd (l.getD j 0).den)])) := by
 show guardO (j * 4 + 4 ≤ (cA l).length) ((allD (((cA l).drop (j * 4)).take 4)).map fun ds => A.d (D.agg ds)) = _
 rw [guardO, if_pos (by rw [Qis]; omega)]
 have e : l.drop j = l.getD j 0 :: l.drop (j + 1) := by
  rw [List.drop_eq_getElem_cons hj, List.getD_eq_getElem?_getD, List.getElem?_eq_getElem hj]; rfl
 rw [cA, ← List.map_drop, Qlx, ← List.map_take, e]
 rw [Qg1]; rfl
theorem cRs_set : ∀ (l : List Rat) (j : Nat) (q : Rat), j < l.length → (cRs l).take (j * 4) ++ cRs [q] ++ (cRs l).drop (j * 4 + 4) = cRs (l.set j q)
 | [], j, q, h => by simp at h
 | a :: l, 0, q, h => rfl
 | a :: l, j + 1, q, h => by
  have ih := cRs_set l j q (by simpa using h)
  rw [show (j + 1) * 4 = j * 4 + 1 + 1 + 1 + 1 by omega, show j * 4 + 1 + 1 + 1 + 1 + 4 = (j * 4 + 4) + 1 + 1 + 1 + 1 by omega]
  simp only [List.set_cons_succ, cRs, List.take_succ_cons, List.drop_succ_cons, List.cons_append, List.nil_append, List.append_assoc] at ih ⊢
  rw [ih]
theorem st_cA {l : List Rat} {j : Nat} (hj : j < l.length) (q : Rat) : Qae (j * 4) [.d (.v (.bool (decide (q.num < 0)))), .d (dg (digs q.num.natAbs)), .d (.v (.bool false)), .d (dg (dd q.den))] (cA l) = some (cA (l.set j q)) := by
 rw [← QnM]
 show guardO (j * 4 + (cA [q]).length ≤ (cA l).length) (some ((cA l).take (j * 4) ++ cA [q] ++ (cA l).drop (j * 4 + (cA [q]).length))) = _
 have h4 : (cA [q]).length = 4 := rfl
 rw [h4, guardO, if_pos (by rw [Qis]; omega), cA, cA, cA, ← List.map_take, ← List.map_drop, ← List.map_append, ← List.map_append, cRs_set l j q hj]
theorem QtA (m : List Int) : (dg m).one = true := by cases m <;> rfl
theorem Qqw : ∀ n : Nat, rep n [.v (.bool false), .z true, .v (.bool false), .z true] = cRs (List.replicate n 0)
 | 0 => rfl
 | n + 1 => by
  have ih := Qqw n
  have ez : decide ((0 : Rat).num < 0) = false := rfl
  have ez2 : dg (digs (0 : Rat).num.natAbs) = .z true := by rw [Rat.zero_num, show (0 : Int).natAbs = 0 from rfl, QaB]; rfl
  have ez3 : dg (dd (0 : Rat).den) = .z true := rfl
  rw [List.replicate_succ, cRs, ez, ez2, ez3, ← ih]
  rfl
theorem map_cRs (l : List Rat) : (cRs l).map A.d = cA l := rfl
def gA4 (k : Nat) (l : List Rat) : A := if l = [] then .d (.z true) else .own [k] l.length
def gH4 (k : Nat) (l : List Rat) : List (Key × Obj) := if l = [] then [] else [([k], arrR l.length l)]
theorem Qfa (k : Nat) : gA4 k [] = .d (.z true) := rfl
theorem QfD (k : Nat) : gH4 k [] = [] := rfl
theorem QiL {k : Nat} {l : List Rat} (h : l ≠ []) : gA4 k l = .own [k] l.length := if_neg h
theorem Qit {k : Nat} {l : List Rat} (h : l ≠ []) : gH4 k l = [([k], arrR l.length l)] := if_neg h
theorem QoO (b : Bool) : (D.v (.bool b)).one = true := rfl
theorem QoE (k : Nat) (q : Rat) : gA4 k [q] = .own [k] 1 := rfl
theorem Qo9 (k : Nat) (q : Rat) : gH4 k [q] = [([k], arrR 1 [q])] := rfl
theorem Qqt (a b c d : D) : rep 1 [a, b, c, d] = [a, b, c, d] := rfl
theorem Qhb (k : Nat) (l : List Rat) (v : Rat) : gA4 k (l ++ [v]) = .own [k] (l.length + 1) := by rw [QiL (by simp)]; simp
theorem Qhq (k : Nat) (l : List Rat) (v : Rat) : gH4 k (l ++ [v]) = [([k], arrR (l.length + 1) (l ++ [v]))] := by rw [Qit (by simp)]; simp
def dR (l : List Rat) : D := if l = [] then .z true else rowR l
theorem dR_ok (l : List Rat) : RwR (dR l) l := by
 unfold dR; split
 ·rename_i h; exact .inl ⟨rfl, h⟩
 ·exact .inr rfl
def SzL (K : Nat) (l : List Rat) : Prop := ∀ q ∈ l, sz q ≤ K
theorem SzL.getD {K : Nat} {l : List Rat} (h : SzL K l) (h1 : 1 ≤ K) (j : Nat) : sz (l.getD j 0) ≤ K := by
 by_cases hj : j < l.length
 ·have : l.getD j 0 = l[j] := by rw [List.getD_eq_getElem?_getD, List.getElem?_eq_getElem hj]; rfl
  rw [this]; exact h _ (List.getElem_mem hj)
 ·rw [List.getD_eq_getElem?_getD, List.getElem?_eq_none (by omega)]
  show sz 0 ≤ K
  rw [QeF]; exact h1
theorem SzL.mono {K L : Nat} {l : List Rat} (h : SzL K l) (hk : K ≤ L) : SzL L l := fun q hq => Nat.le_trans (h q hq) hk
end Go.AM

/- Rows of rationals; poly.Trim, slices.Clone, slices.Backward. -/
namespace Go.AM
open Go Go.RowKit

theorem cRs_one : ∀ l : List Rat, (cRs l).all D.one = true
 | [] => rfl
 | q :: l => by
  have h1 : ∀ m : List Int, (dg m).one = true := fun m => by cases m <;> rfl
  simp only [cRs, List.all_cons, cRs_one l, h1, Bool.and_true]
  rfl
theorem sgn0 (q : Rat) : (Int.sign q.num == 0) = decide (q = 0) := by
 by_cases h : q = 0
 ·subst h; rfl
 ·rw [decide_eq_false h]
  refine Qds fun hc => h (Rat.num_eq_zero.1 (Int.sign_eq_zero_iff_zero.1 hc))

def cutR (l : List Rat) : Nat → Nat
 | 0 => 0
 | n + 1 => if l.getD n 0 = 0 then cutR l n else n + 1
def QbR (l : List Rat) : List Rat := l.take (cutR l l.length)
theorem QkX (l : List Rat) : ∀ n, cutR l n ≤ n
 | 0 => Nat.le_refl _
 | n + 1 => by
  rw [cutR]
  split
  ·exact Nat.le_succ_of_le (QkX l n)
  ·exact Nat.le_refl _
theorem QgQ (l : List Rat) : (QbR l).length = cutR l l.length := by
 rw [QbR, List.length_take]
 have := QkX l l.length
 omega
theorem QfK (l : List Rat) : (QbR l).length ≤ l.length := by rw [QgQ]; exact QkX _ _
theorem rep_0 (zs : List D) : rep 0 zs = [] := rfl
variable [Its]

def clR (l : List Rat) : R := if false then .d (rowR l) else .own 4 l.length (cRs l)
theorem Clone_row {l : List Rat} (hl : l.length * 64 ≤ 140737488351232) : Qah G Qb7 [rowR l] = some (clR l) := by
 rw [Qac (cf := Qa5) rfl]
 have e1 := Qgu l
 have e2 := cRs_one l
 have e3 : l.length * 64 ≤ bound := by unfold bound; omega
 unfold clR rowR
 generalize cRs l = cs at *
 simp -implicitDefEqProofs (maxSteps:=9^8) only [Qa5, isnA, appA, srcS, src, Qos, Qg1, Nat.zero_add, rep_0, List.map_nil, List.length_nil, List.nil_append, go_sem, iv, bv, e1, e2, e3, reduceCtorEq, ↓reduceIte, Nat.reduceEqDiff]
theorem Clone_nil : Qah G Qb7 [.z true] = some (.d (.z true)) := by
 rw [Qac (cf := Qa5) rfl]
 simp -implicitDefEqProofs (maxSteps:=9^8) only [Qa5, isnA, go_sem, iv, bv, reduceCtorEq, ↓reduceIte, Nat.reduceEqDiff]

def Qj8 (d : D) (n : Int) : St := mkS [(0, .d d), (3, ai n)] []
theorem tr_go {d : D} {l : List Rat} (hr : RwR d l) {n : Nat} (hn : n < l.length) (hl : l.length * 64 ≤ 140737488351232) (h0 : l.getD n 0 = 0) : X G QcX (Qj8 d ((n + 1 : Nat) : Int)) = some (.n, Qj8 d (n : Int)) := by
 have e1 : decide (((n + 1 : Nat) : Int) > 0) = true := gt_t (by omega)
 have e2 : w64 (((n + 1 : Nat) : Int) - 1) = (n : Int) := by rw [Qad (by omega) (by omega)]; omega
 have e3 := hr.ixa hn
 have e4 := fun h => ldR h l hn
 have g := Qbu (l.getD n 0)
 have e5 : (Int.sign (l.getD n 0).num == 0) = true := by rw [sgn0]; exact decide_eq_true h0
 clear h0
 generalize ((n + 1 : Nat) : Int) = n1 at *
 generalize l.getD n 0 = q at *
 simp only [encR, iv] at e4 g
 simp -implicitDefEqProofs (maxSteps:=9^8) only [QcX, Qj8, go_sem, iv, bv, e1, e2, e3, e4, e5, g, reduceCtorEq, ↓reduceIte, Nat.reduceEqDiff]
theorem tr_stop {d : D} {l : List Rat} (hr : RwR d l) {n : Nat} (hn : n < l.length) (hl : l.length * 64 ≤ 140737488351232) (h0 : l.getD n 0 ≠ 0) : X G QcX (Qj8 d ((n + 1 : Nat) : Int)) = some (.x 0, Qj8 d ((n + 1 : Nat) : Int)) := by
 have e1 : decide (((n + 1 : Nat) : Int) > 0) = true := gt_t (by omega)
 have e2 : w64 (((n + 1 : Nat) : Int) - 1) = (n : Int) := by rw [Qad (by omega) (by omega)]; omega
 have e3 := hr.ixa hn
 have e4 := fun h => ldR h l hn
 have g := Qbu (l.getD n 0)
 have e5 : (Int.sign (l.getD n 0).num == 0) = false := by rw [sgn0]; exact decide_eq_false h0
 clear h0
 generalize ((n + 1 : Nat) : Int) = n1 at *
 generalize l.getD n 0 = q at *
 simp only [encR, iv] at e4 g
 simp -implicitDefEqProofs (maxSteps:=9^8) only [QcX, Qj8, go_sem, iv, bv, e1, e2, e3, e4, e5, g, reduceCtorEq, ↓reduceIte, Nat.reduceEqDiff]
theorem tr_zero {d : D} : X G QcX (Qj8 d 0) = some (.x 0, Qj8 d 0) := by
 have e1 : decide ((0 : Int) > 0) = false := rfl
 simp -implicitDefEqProofs (maxSteps:=9^8) only [QcX, Qj8, go_sem, iv, bv, e1, reduceCtorEq, ↓reduceIte, Nat.reduceEqDiff]
theorem tr_loop {d : D} {l : List Rat} (hr : RwR d l) (hl : l.length * 64 ≤ 140737488351232) : ∀ n : Nat, n ≤ l.length → X G (.loop QcX) (Qj8 d (n : Int)) = some (.x 0, Qj8 d (cutR l n : Nat))
 | 0, _ => by
  rw [Qag]
  show (X G QcX (Qj8 d 0)).bind _ = _
  rw [tr_zero]; rfl
 | n + 1, hn => by
  rw [Qag, cutR]
  by_cases h0 : l.getD n 0 = 0
  ·rw [tr_go hr (by omega) hl h0, Option.bind_some, if_pos rfl, if_pos h0]
   exact tr_loop hr hl n (by omega)
  ·rw [tr_stop hr (by omega) hl h0, if_neg h0]; rfl

theorem Trim_spec {d : D} {l : List Rat} (hr : RwR d l) (hl : l.length * 64 ≤ 140737488351232) : ∃ d', RwR d' (QbR l) ∧ Qah G Qmq [d] = some (.d d') := by
 rw [Qac (cf := QjV) rfl]
 have hl' := tr_loop hr hl l.length (Nat.le_refl _)
 have hc := QkX l l.length
 have ll := hr.len
 rcases hr with ⟨rfl, rfl⟩ | rfl
 ·have g := Clone_nil
  simp only [Qj8, List.length_nil, cutR, go_sem] at hl'
  refine ⟨.z true, .inl ⟨rfl, rfl⟩, ?_⟩
  simp -implicitDefEqProofs (maxSteps:=9^8) only [QjV, slcA, bnds, optI, go_sem, iv, bv, hl', g, ll, Int.le_refl, reduceCtorEq, ↓reduceIte, Nat.reduceEqDiff]
 ·refine ⟨rowR (QbR l), .row _, ?_⟩
  have g := Clone_row (l := QbR l) (by have := QfK l; omega)
  have e1 : rowR (QbR l) = .row (cutR l l.length) ((cRs l).take (cutR l l.length * 4)) := by rw [rowR, QgQ, QbR, Qlz]
  rw [e1] at g ⊢
  unfold clR at g
  have e7 := QgQ l
  have e8 : cRs (QbR l) = (cRs l).take (cutR l l.length * 4) := by rw [QbR, Qlz]
  rw [e1, e7, e8] at g
  clear e1 e7 e8
  have e2 : (((0 : Int) ≤ 0 ∧ (0 : Int) ≤ (cutR l l.length : Nat) ∧ ((cutR l l.length : Nat) : Int) ≤ (l.length : Nat))) = True := eq_true ⟨by omega, by omega, by omega⟩
  have e3 : ((cutR l l.length : Nat) : Int).toNat = cutR l l.length := Int.toNat_natCast _
  have e5 : ((0 : Int) ≤ (cutR l l.length : Nat)) = True := eq_true (by omega)
  have e6 : (((cutR l l.length : Nat) : Int) ≤ (l.length : Nat)) = True := eq_true (by omega)
  unfold rowR at *
  generalize cutR l l.length = c at *
  generalize cRs l = cs at *
  simp only [Qj8, go_sem] at hl'
  simp -implicitDefEqProofs (maxSteps:=9^8) only [QjV, slcA, bnds, optI, go_sem, iv, bv, hl', g, ll, e2, e3, e5, e6, Int.le_refl, and_self, reduceCtorEq, ↓reduceIte, Nat.reduceEqDiff]

theorem Qob {d : D} {l : List Rat} (hr : RwR d l) : Qah G QcL [d] = some (.d (.fn Qal [.rp [d]])) := by
 rw [Qac (cf := Qbh) rfl]
 rcases hr with ⟨rfl, rfl⟩ | rfl
 ·simp -implicitDefEqProofs (maxSteps:=9^8) only [Qbh, go_sem, snap, QdA, Qae, Qab, iv, bv, reduceCtorEq, ↓reduceIte, Nat.reduceEqDiff]
 ·unfold rowR
  generalize cRs l = cs
  simp -implicitDefEqProofs (maxSteps:=9^8) only [Qbh, go_sem, snap, QdA, Qae, Qab, iv, bv, reduceCtorEq, ↓reduceIte, Nat.reduceEqDiff]
end Go.AM

/- slices.Backward: what its iterator yields; poly.Eval. -/
namespace Go.AM
open Go Go.RowKit Go.Proofs

def C.one1 : C → C
 | .seq a _ => a
 | .blk _ a => a
 | .loop a => a
 | c => c
def C.two2 : C → C
 | .seq _ b => b
 | c => c
def bkp (l : List Rat) : List (Int × Rat) := (List.range l.length).map fun i => (((l.length - 1 - i : Nat) : Int), l.getD (l.length - 1 - i) 0)
def bk1 (p : Int × Rat) : List D := [iv p.1, encR p.2]
def bkw (l : List Rat) : List (List D) := (bkp l).map bk1
theorem bkp_snd (l : List Rat) : (bkp l).map Prod.snd = l.reverse := by
 apply List.ext_getElem
 ·simp [bkp]
 ·intro i h1 h2
  simp only [bkp, List.map_map, List.getElem_map, List.getElem_range, Function.comp_apply, List.getElem_reverse]
  have h3 : i < l.length := by simpa [bkp] using h1
  rw [List.getD_eq_getElem?_getD, List.getElem?_eq_getElem (by omega)]; rfl
def bw_T : C := slices_Backward_api_Poly_api_Rat_1_l0.one1.one1
def bw_I : C := .seq (.keep [0, 1, 3] []) slices_Backward_api_Poly_api_Rat_1_l0.one1.two2.two2
def Qsx : List O := [⟨some 11, .mov (.t 0), none⟩, ⟨some 12, .mov (.t 3), none⟩, ⟨some 13, .load none (.t 1), none⟩, ⟨some 14, .mov (.t 3), none⟩, ⟨some 15, .ixa 4 (.t 13) (.t 14), none⟩, ⟨some 16, .load (some 4) (.t 15), none⟩]
def Qpe : List O := [⟨some 18, .un .not (.t 17), none⟩]
theorem bw_shape : slices_Backward_api_Poly_api_Rat_1.body.er = .seq slices_Backward_api_Poly_api_Rat_1.body.one1.er (.blk 0 (.loop (.seq bw_T.er (.seq (.blk 1 (.seq (.reg ((Qsx ++ ⟨some 17, .calv (.t 11) [.t 12, .t 16], none⟩ :: Qpe).map O.er) []) (.cond (.t 18) .ret .skip))) bw_I.er)))) := rfl
theorem bw_ld (h : Hp) (sz : Option Nat) (cs : List D) : QcY h sz (.d (.rp cs)) = Qj2 sz cs := rfl

def Qoy (y : Nat) (d : D) (k : Int) : St := mkS [(0, .d (yv y)), (1, .d (.rp [d])), (3, ai k)] []
def Qof (y : Nat) (d : D) (k : Int) : St := mkS [(0, .d (yv y)), (1, .d (.rp [d])), (3, ai k), (8, ab true)] []
def QoQ (y : Nat) (d : D) (k : Int) (rp q : List D) : St := ⟨upd (upd (upd (upd (upd (upd (Qof y d k).fr 11 (.d (yv y))) 12 (ai k)) 13 (.d d)) 14 (ai k)) 15 (.d (.rp rp))) 16 (.d (.agg q)), (Qof y d k).hp, []⟩
def QtX (y : Nat) (d : D) (k : Int) (rp q : List D) (t : Bool) : St := ⟨upd (upd (QoQ y d k rp q).fr 17 (.d (.v (.bool t)))) 18 (.d (.v (.bool !t))), (QoQ y d k rp q).hp, []⟩
def Rw4 (d : D) (n : Nat) (cs : List D) : Prop := (d = .z true ∧ n = 0) ∨ (d = .row n cs ∧ cs.length = n * 4)
theorem Rw4.len {d : D} {n : Nat} {cs : List D} (h : Rw4 d n cs) : lenA (.d d) = some n := by
 rcases h with ⟨rfl, rfl⟩ | ⟨rfl, _⟩ <;> rfl
theorem Rw4.ixa {d : D} {n : Nat} {cs : List D} (hr : Rw4 d n cs) {j : Nat} (h1 : j < n) (h : Hp) : ixaA h 4 (j : Int) (.d d) = some (.d (.rp (cs.drop (j * 4)))) := by
 rcases hr with ⟨rfl, rfl⟩ | ⟨rfl, _⟩
 ·omega
 ·simp only [ixaA, guardO]
  rw [if_pos ⟨by omega, by omega⟩, Int.toNat_natCast]
theorem Rw4.ld {d : D} {n : Nat} {cs : List D} (hr : Rw4 d n cs) {j : Nat} (h1 : j < n) (h : Hp) : QcY h (some 4) (.d (.rp (cs.drop (j * 4)))) = some (.d (.agg ((cs.drop (j * 4)).take 4))) := by
 rcases hr with ⟨rfl, rfl⟩ | ⟨rfl, hl⟩
 ·omega
 ·show guardO (4 ≤ (cs.drop (j * 4)).length) (some (A.d (D.agg ((cs.drop (j * 4)).take 4)))) = _
  exact if_pos (by rw [List.length_drop]; omega)
def bk4 (n : Nat) (cs : List D) : List (List D) := (List.range n).map fun i => [iv ((n - 1 - i : Nat) : Int), .agg ((cs.drop ((n - 1 - i) * 4)).take 4)]
theorem bk4_len (n : Nat) (cs : List D) : (bk4 n cs).length = n := by simp [bk4]
theorem bk4_R (l : List Rat) : bk4 l.length (cRs l) = bkw l := by
 unfold bk4 bkw bkp
 rw [List.map_map]
 apply List.map_congr_left
 intro i hi
 have hi' := List.mem_range.1 hi
 have h1 : l.length - 1 - i < l.length := by omega
 rw [Qlx]
 have e : l.drop (l.length - 1 - i) = l.getD (l.length - 1 - i) 0 :: l.drop (l.length - 1 - i + 1) := by
  rw [List.drop_eq_getElem_cons h1, List.getD_eq_getElem?_getD, List.getElem?_eq_getElem h1]; rfl
 rw [e]
 rfl


section
variable [Its]
theorem bw_start {y : Nat} {d : D} {n : Nat} {cs : List D} (hr : Rw4 d n cs) (hl : n ≤ 140737488351232) : X G slices_Backward_api_Poly_api_Rat_1.body.one1 ⟨argF 0 [yv y, .rp [d]], hp0, []⟩ = some (.n, Qoy y d ((n : Int) - 1)) := by
 have e1 : w64 ((n : Int) - 1) = (n : Int) - 1 := Qad (by omega) (by omega)
 have ll := hr.len
 simp -implicitDefEqProofs (maxSteps:=9^8) only [slices_Backward_api_Poly_api_Rat_1, C.one1, Qoy, argF, yv, bw_ld, List.head?_cons, ll, go_sem, Qae, Qab, iv, bv, e1, reduceCtorEq, ↓reduceIte, Nat.reduceEqDiff]
theorem bw_more {y : Nat} {d : D} {j : Nat} : X G bw_T (Qoy y d (j : Int)) = some (.n, Qof y d (j : Int)) := by
 have e1 : decide ((j : Int) ≥ 0) = true := decide_eq_true (by omega)
 simp -implicitDefEqProofs (maxSteps:=9^8) only [bw_T, slices_Backward_api_Poly_api_Rat_1_l0, C.one1, C.two2, Qoy, Qof, yv, e1, go_sem, Qae, Qab, iv, bv, reduceCtorEq, ↓reduceIte, Nat.reduceEqDiff]
theorem bw_stop {y : Nat} {d : D} : X G bw_T (Qoy y d (-1)) = some (.x 0, mkS [] []) := by
 have e1 : decide ((-1 : Int) ≥ 0) = false := rfl
 simp -implicitDefEqProofs (maxSteps:=9^8) only [bw_T, slices_Backward_api_Poly_api_Rat_1_l0, C.one1, C.two2, Qoy, Qof, yv, e1, go_sem, Qae, Qab, iv, bv, reduceCtorEq, ↓reduceIte, Nat.reduceEqDiff]
theorem bw_p1 {y : Nat} {d : D} {n : Nat} {cs : List D} (hr : Rw4 d n cs) {j : Nat} (hj : j < n) : exs (Qah G) Qsx (Qof y d (j : Int)) = some (QoQ y d (j : Int) (cs.drop (j * 4)) ((cs.drop (j * 4)).take 4)) := by
 have e3 := hr.ixa hj
 have e4 := hr.ld hj
 generalize (cs.drop (j * 4)).take 4 = q at *
 generalize cs.drop (j * 4) = rp at *
 simp -implicitDefEqProofs (maxSteps:=9^8) only [Qsx, Qof, QoQ, encR, yv, go_sem, e3, e4, bw_ld, Qj2, List.head?_cons, Qae, Qab, iv, bv, reduceCtorEq, ↓reduceIte, Nat.reduceEqDiff]
theorem bw_p2 {y : Nat} {d : D} {k : Int} {rp q : List D} {t : Bool} : exs (Qah G) Qpe { QoQ y d k rp q with fr := upd (QoQ y d k rp q).fr 17 (.d (.v (.bool t))) } = some (QtX y d k rp q t) := by
 simp -implicitDefEqProofs (maxSteps:=9^8) only [Qpe, Qof, QoQ, QtX, encR, yv, go_sem, Qae, Qab, iv, bv, reduceCtorEq, ↓reduceIte, Nat.reduceEqDiff]
theorem bw_inc {y : Nat} {d : D} {j : Nat} {rp q : List D} (hj : j ≤ 140737488351232) : X G bw_I (QtX y d (j : Int) rp q true) = some (.n, Qoy y d ((j : Int) - 1)) := by
 have e1 : w64 ((j : Int) - 1) = (j : Int) - 1 := Qad (by omega) (by omega)
 simp -implicitDefEqProofs (maxSteps:=9^8) only [bw_I, slices_Backward_api_Poly_api_Rat_1_l0, C.one1, C.two2, Qoy, Qof, QoQ, QtX, encR, yv, go_sem, e1, Qae, Qab, iv, bv, reduceCtorEq, ↓reduceIte, Nat.reduceEqDiff]

end

theorem bw_walk {d : D} {n : Nat} {cs : List D} (hr : Rw4 d n cs) (hl : n ≤ 140737488351232) {N n' y : Nat} {S : Nat → Prop} {w0 : World} {J Jx : Held} {ac : Act} {W : World} (hab : QoD   w0 J) (habx : QoD   w0 Jx) (hans : Qqx     Tryz.prog n' S w0 y J Jx (bk4 n cs))
    (hI : Inv S w0 N J ⟨argF 0 [yv y, .rp [d]], hp0, []⟩ 0 ac W) :
    WY Tryz.prog N (n' + 1) slices_Backward_api_Poly_api_Rat_1.body.er (fun e' a' W' => (∀ id, e' ≠ .x id) ∧ ((∃ st, Inv S w0 N J st (bk4 n cs).length a' W') ∨ ∃ st i, Inv S w0 N Jx st i a' W')) ac W := by
  letI := noIts
  have hE : EnvOk Tryz.prog G := env_ok0
  rw [bw_shape]
  refine WY.seq ?_
  refine Inv.code hE hab hI rfl rfl (bw_start hr hl) ?_
  intro a1 W1 I1
  simp only [↓reduceIte]
  refine WY.blk ?_
  refine WY.loop (j := n) (fun j a' w' => ∃ i, i ≤ n ∧ j = n - i ∧ Inv S w0 N J (Qoy y d (((n - i : Nat) : Int) - 1)) i a' w') ⟨0, by omega, by omega, ?_⟩ ?_
  · rw [Nat.sub_zero]
    exact I1
  · rintro j a2 W2 ⟨i, hi, rfl, I2⟩
    refine WY.seq ?_
    by_cases hin : i < n
    · obtain ⟨k, hk⟩ : ∃ k, k = n - 1 - i := ⟨_, rfl⟩
      have ek : ((n - i : Nat) : Int) - 1 = (k : Int) := by omega
      rw [ek] at I2
      have hkl : k < n := by omega
      refine Inv.code hE hab I2 rfl rfl bw_more ?_
      intro a3 W3 I3
      simp only [↓reduceIte]
      refine WY.seq (WY.blk (WY.seq ?_))
      refine Inv.yield hE hab habx hans I3 (pre := Qsx) (post := Qpe) (d := 17) (ty := 11) (es := [.t 12, .t 16]) (s1 := QoQ y d (k : Int) (cs.drop (k * 4)) ((cs.drop (k * 4)).take 4)) (x := [iv (k : Int), .agg ((cs.drop (k * 4)).take 4)]) (rt := QtX y d (k : Int) (cs.drop (k * 4)) ((cs.drop (k * 4)).take 4) true) (rf := QtX y d (k : Int) (cs.drop (k * 4)) ((cs.drop (k * 4)).take 4) false) (bw_p1 hr hkl) rfl rfl ?_ bw_p2 bw_p2 ?_ ?_
      · rw [bk4, List.getElem?_map, List.getElem?_range hin, hk]; rfl
      · intro a4 W4 I4
        simp only [↓reduceIte]
        refine WY.cond (t := false) (I4.bool rfl) (fun h => by cases h) (fun _ => WY.skip ?_)
        simp only [↓reduceIte]
        refine Inv.code hE hab I4 rfl rfl (bw_inc (by omega)) ?_
        intro a6 W6 I6
        simp only [↓reduceIte]
        refine ⟨n - (i + 1), by omega, i + 1, by omega, rfl, ?_⟩
        rw [show ((n - (i + 1) : Nat) : Int) - 1 = (k : Int) - 1 by omega]
        exact I6
      · intro a4 W4 I4
        simp only [↓reduceIte]
        refine WY.cond (t := true) (I4.bool rfl) (fun _ => WY.ret ?_) (fun h => by cases h)
        simp only [reduceCtorEq, ↓reduceIte]
        exact ⟨fun _ h => (by cases h), .inr ⟨_, _, I4⟩⟩
    · have : i = n := by omega
      subst this
      rw [Nat.sub_self] at I2
      refine Inv.code hE hab I2 rfl rfl bw_stop ?_
      intro a3 W3 I3
      simp only [reduceCtorEq, ↓reduceIte]
      exact ⟨fun _ h => (by cases h), .inl ⟨_, by rw [bk4_len]; exact I3⟩⟩

theorem Qmj {d : D} {n : Nat} {cs : List D} (hr : Rw4 d n cs) (hl : n ≤ 140737488351232) : ItOk Tryz.prog Qal [.rp [d]] (bk4 n cs) := by
 refine it_ok (Γ := @G noIts) env_ok0 (cf := slices_Backward_api_Poly_api_Rat_1) Tryz.func136 Qcx ?_ rfl rfl ?_
 ·intro b hb
  have : (Tryz.f136.body.map okY) = some true := by kernel_rfl
  rw [hb] at this
  simpa using this
 ·intro n' y S w0 J Jx ac W hab habx hans hI
  exact bw_walk hr hl hab habx hans hI

def Qpx : List D → Option (List (List D))
 | [.rp [.z true]] => some []
 | [.rp [.row n cs]] => if cs.length = n * 4 ∧ n ≤ 140737488351232 then some (bk4 n cs) else none
 | _ => none
theorem itBack_ok {ds : List D} {xs : List (List D)} (h : Qpx ds = some xs) : ItOk Tryz.prog Qal ds xs := by
  unfold Qpx at h
  split at h
  · cases h
    exact Qmj (n := 0) (cs := []) (.inl ⟨rfl, rfl⟩) (by omega)
  · split at h
    · rename_i hc
      cases h
      exact Qmj (.inr ⟨rfl, hc.1⟩) hc.2
    · cases h
  · cases h
class ItsB [Its] : Prop where
 back : ∀ ds, Its.it Qal ds = Qpx ds
theorem its_back [Its] [ItsB] {d : D} {l : List Rat} (h : RwR d l) (hl : l.length ≤ 140737488351232) : Its.it Qal [.rp [d]] = some (bkw l) := by
 rw [ItsB.back, ← bk4_R]
 rcases h with ⟨rfl, rfl⟩ | rfl
 ·rfl
 ·exact if_pos ⟨Qgu l, hl⟩

def evR (l : List Rat) (x : Rat) : Rat := l.foldr (fun a s => s * x + a) 0
theorem Qd0 (a : Rat) (l : List Rat) (x : Rat) : evR (a :: l) x = evR l x * x + a := rfl
theorem evR_bk (l : List Rat) (x : Rat) : (bkp l).foldl (fun s p => s * x + p.2) 0 = evR l x := by
 have h : ∀ (ps : List (Int × Rat)) (s : Rat), ps.foldl (fun s p => s * x + p.2) s = (ps.map Prod.snd).foldl (fun s a => s * x + a) s := by
  intro ps
  induction ps with
  | nil => intro s; rfl
  | cons p ps ih => intro s; exact ih _
 rw [h, bkp_snd, List.foldl_reverse]
 rfl
def ev_fr : Fr := frL [(3, .ptr [3] 0), (4, .ptr [4] 0), (5, .ptr [5] 0)]
def ev_hp (x s : Rat) : Hp := hpL [([3], boxR x), ([4], Qm5), ([5], boxR s)]
theorem Qj1 {x : Rat} {K : Nat} (hK : sz x ≤ K) : ∀ l : List Rat, (∀ q ∈ l, sz q ≤ K) → sz (evR l x) ≤ l.length * (2 * K + 1) + 1
 | [], _ => by rw [evR, List.foldr_nil, QeF]; omega
 | a :: l, h => by
  have ih := Qj1 hK l (fun q hq => h q (List.mem_cons_of_mem _ hq))
  have h2 := h a (List.mem_cons_self ..)
  have k1 := Qec (a := evR l x) (b := x)
  have k2 := Qkj (a := evR l x * x) (b := a)
  have h1 : (a :: l).length * (2 * K + 1) = l.length * (2 * K + 1) + (2 * K + 1) := by rw [List.length_cons, Nat.succ_mul]
  rw [Qd0]; omega
variable [Its]

theorem QpB       {x : Rat} {K : Nat} (hK : sz x ≤ K) (hK2 : K ≤ 1000000000) : ∀ (ps : List (Int × Rat)) (s : Rat), (∀ p ∈ ps, sz p.2 ≤ K) → sz s + ps.length * (2 * K + 1) ≤ 50000000000 →
    Qe9 (X G) [10, 11] poly_Eval_a0 poly_Eval_b0 ev_fr [] (ps.map bk1) (ev_hp x s) = some (.n, ⟨ev_fr, ev_hp x (ps.foldl (fun s p => s * x + p.2) s), []⟩)
  | [], s, _, _ => rfl
  | p :: ps, s, hp, hs => by
    have h1 : (p :: ps).length * (2 * K + 1) = ps.length * (2 * K + 1) + (2 * K + 1) := by rw [List.length_cons, Nat.succ_mul]
    have h2 := hp p (List.mem_cons_self ..)
    have g1 := Qfd (a := s) (b := x) (by omega) (by omega)
    have k1 := Qec (a := s) (b := x)
    have g2 := Qjq (a := s * x) (b := p.2) (by omega) (by omega)
    have k2 := Qkj (a := s * x) (b := p.2)
    have ih := QpB hK hK2 ps (s * x + p.2) (fun q hq => hp q (List.mem_cons_of_mem _ hq)) (by omega)
    rw [List.map_cons, List.foldl_cons, ← ih]
    clear ih hp
    generalize s * x + p.2 = r at *
    generalize s * x = sx at *
    obtain ⟨k, q⟩ := p
    unfold bk1
    simp only at g2 ⊢
    generalize List.map _ ps = XS
    simp only [encR] at g1 g2
    simp -implicitDefEqProofs (maxSteps:=9^8) only [Qe9, poly_Eval_a0, poly_Eval_b0, ev_fr, ev_hp, boxR, encR, Qm5, putL, go_sem, Qae, Qab, iv, bv, g1, g2, reduceCtorEq, ↓reduceIte, Nat.reduceEqDiff]
theorem Ql8 [ItsB] {d : D} {l : List Rat} {x : Rat} {K : Nat} (hr : RwR d l) (hK : sz x ≤ K) (hK2 : K ≤ 1000000000) (hl : ∀ q ∈ l, sz q ≤ K) (hn : l.length * (2 * K + 1) ≤ 40000000000) : Qah G Qih [d, encR x] = some (.d (encR (evR l x))) := by
 rw [Qac (cf := QmN) rfl]
 have g1 := Qob hr
 have hn' : l.length ≤ l.length * (2 * K + 1) := Nat.le_mul_of_pos_right _ (by omega)
 have hit : (G).it Qal [.rp [d]] = some (bkw l) := its_back hr (by omega)
 have hp : (bkp l).length = l.length := by simp [bkp]
 have hrd := QpB hK hK2 (bkp l) 0 (fun p hp' => by
  have : p.2 ∈ (bkp l).map Prod.snd := List.mem_map_of_mem hp'
  rw [bkp_snd] at this
  exact hl _ (List.mem_reverse.1 this)) (by rw [hp, QeF]; omega)
 rw [evR_bk] at hrd
 have e1 : (bkp l).map bk1 = bkw l := rfl
 rw [e1] at hrd
 have hA : poly_Eval_a0.holds [[3], [4], [5]] = true := rfl
 have hB : poly_Eval_b0.holds [[3], [4], [5]] = true := rfl
 have e0 : boxR 0 = Qm5 := by
  have ez : decide ((0 : Rat).num < 0) = false := rfl
  have ez2 : dg (digs (0 : Rat).num.natAbs) = .z true := by rw [Rat.zero_num, show (0 : Int).natAbs = 0 from rfl, QaB]; rfl
  have ez3 : dg (dd (0 : Rat).den) = .z true := rfl
  rw [boxR, ez, ez2, ez3]; rfl
 rw [ev_hp, e0] at hrd
 clear hp e1 hn e0
 generalize bkw l = XS at *
 generalize evR l x = v at *
 simp only [ev_fr, ev_hp, boxR, Qm5, go_sem] at hrd
 simp -implicitDefEqProofs (maxSteps:=9^8) only [QmN, X_rfn, Qnt, hA, hB, hit, hrd, encR, go_sem, Qae, Qab, iv, bv, g1, reduceCtorEq, ↓reduceIte, Nat.reduceEqDiff]
end Go.AM

/- Polynomials as lists: values, and that values tell them apart. -/
namespace Go.AM
open Go Go.RowKit

def sumR (f : Nat → Rat) : Nat → Rat
 | 0 => 0
 | n + 1 => sumR f n + f n
theorem QfA {f g : Nat → Rat} : ∀ n, (∀ k, k < n → f k = g k) → sumR f n = sumR g n
 | 0, _ => rfl
 | n + 1, h => by rw [sumR, sumR, QfA n (fun k hk => h k (by omega)), h n (by omega)]
theorem QhD {f : Nat → Rat} : ∀ n, (∀ k, k < n → f k = 0) → sumR f n = 0
 | 0, _ => rfl
 | n + 1, h => by rw [sumR, QhD n (fun k hk => h k (by omega)), h n (by omega), Rat.add_zero]
theorem Qi7 (f : Nat → Rat) : ∀ n, sumR f (n + 1) = f 0 + sumR (fun i => f (i + 1)) n
 | 0 => by rw [sumR, sumR, sumR, Rat.zero_add, Rat.add_zero]
 | n + 1 => by rw [sumR, Qi7 f n, sumR, Rat.add_assoc]
theorem QoN (f g : Nat → Rat) : ∀ n, sumR (fun k => f k + g k) n = sumR f n + sumR g n
 | 0 => by rw [sumR, sumR, sumR, Rat.add_zero]
 | n + 1 => by
  rw [sumR, sumR, sumR, QoN f g n]
  generalize sumR f n = a; generalize sumR g n = b; grind
theorem Qlr (f : Nat → Rat) (c : Rat) : ∀ n, sumR (fun k => f k * c) n = sumR f n * c
 | 0 => by rw [sumR, sumR, Rat.zero_mul]
 | n + 1 => by rw [sumR, sumR, Qlr f c n, Rat.add_mul]
theorem QlS {f : Nat → Rat} {n : Nat} : ∀ d, (∀ k, n ≤ k → k < n + d → f k = 0) → sumR f (n + d) = sumR f n
 | 0, _ => rfl
 | d + 1, h => by
  show sumR f (n + d) + f (n + d) = _
  rw [QlS d (fun k h1 h2 => h k h1 (by omega)), h (n + d) (by omega) (by omega), Rat.add_zero]
theorem sumR_ge {f : Nat → Rat} {n m : Nat} (hm : n ≤ m) (h : ∀ k, n ≤ k → f k = 0) : sumR f m = sumR f n := by
 obtain ⟨d, rfl⟩ : ∃ d, m = n + d := ⟨m - n, by omega⟩
 exact QlS d (fun k h1 _ => h k h1)

theorem Qa6 {l : List Rat} {k : Nat} (h : l.length ≤ k) : l.getD k 0 = 0 := by
 rw [List.getD_eq_getElem?_getD, List.getElem?_eq_none h]; rfl
theorem Qkm (e : Nat → Rat) {n k : Nat} (h : k < n) : ((List.range n).map e).getD k 0 = e k := by
 rw [List.getD_eq_getElem?_getD, List.getElem?_map, List.getElem?_range h]; rfl
theorem Qeq (l : List Rat) (k : Nat) : (QbR l).getD k 0 = l.getD k 0 := by
 have hc : ∀ n, n ≤ l.length → ∀ k, cutR l n ≤ k → k < n → l.getD k 0 = 0 := by
  intro n
  induction n with
  | zero => intro _ k _ h; omega
  | succ n ih =>
   intro hn k h1 h2
   rw [cutR] at h1
   split at h1
   ·rename_i h0
    by_cases hk : k = n
    ·rw [hk]; exact h0
    ·exact ih (by omega) k h1 (by omega)
   ·omega
 have hl := QkX l l.length
 by_cases h1 : k < cutR l l.length
 ·rw [QbR, List.getD_eq_getElem?_getD, List.getElem?_take_of_lt h1, ← List.getD_eq_getElem?_getD]
 ·rw [Qa6 (by rw [QgQ]; omega)]
  by_cases h2 : k < l.length
  ·exact (hc l.length (Nat.le_refl _) k (by omega) h2).symm
  ·exact (Qa6 (by omega)).symm
def Trm (l : List Rat) : Prop := ∀ n, l.length = n + 1 → l.getD n 0 ≠ 0
theorem Qh5 : Trm [] := fun n h => by simp at h
theorem Qco (l : List Rat) : Trm (QbR l) := by
 have hc : ∀ n, ∀ m, cutR l n = m + 1 → l.getD m 0 ≠ 0 := by
  intro n
  induction n with
  | zero => intro m h; simp [cutR] at h
  | succ n ih =>
   intro m h
   rw [cutR] at h
   split at h
   ·exact ih m h
   ·rename_i h0
    have : m = n := by omega
    rw [this]; exact h0
 intro n h
 rw [Qeq]
 exact hc _ n (by rw [← QgQ]; exact h)
theorem trim_of {l : List Rat} (h : Trm l) : QbR l = l := by
 have : cutR l l.length = l.length := by
  cases hl : l.length with
  | zero => rfl
  | succ n => rw [cutR, if_neg (h n hl)]
 rw [QbR, this, List.take_length]
theorem QiX {l m : List Rat} (hl : Trm l) (hm : Trm m) (h : ∀ k, l.getD k 0 = m.getD k 0) : l = m := by
 have hlen : l.length = m.length := by
  rcases Nat.lt_trichotomy l.length m.length with h1 | h1 | h1
  ·obtain ⟨n, hn⟩ : ∃ n, m.length = n + 1 := ⟨m.length - 1, by omega⟩
   exact absurd (by rw [← h n]; exact Qa6 (by omega)) (hm n hn)
  ·exact h1
  ·obtain ⟨n, hn⟩ : ∃ n, l.length = n + 1 := ⟨l.length - 1, by omega⟩
   exact absurd (by rw [h n]; exact Qa6 (by omega)) (hl n hn)
 apply List.ext_getElem hlen
 intro i h1 h2
 have := h i
 rw [List.getD_eq_getElem?_getD, List.getD_eq_getElem?_getD, List.getElem?_eq_getElem h1, List.getElem?_eq_getElem h2] at this
 exact this

theorem Qo7 (a x : Rat) : ∀ l : List Rat, evR (l ++ [a]) x = evR l x + a * x ^ l.length
 | [] => by
  show evR [] x * x + a = evR [] x + a * x ^ 0
  rw [Rat.pow_zero]
  have : evR [] x = 0 := rfl
  rw [this]; grind
 | b :: l => by
  show evR (l ++ [a]) x * x + b = evR l x * x + b + a * x ^ (l.length + 1)
  rw [Qo7 a x l, Rat.pow_succ]
  generalize evR l x = v; generalize x ^ l.length = p; grind
theorem Qls (x : Rat) (l : List Rat) : evR l x = sumR (fun k => l.getD k 0 * x ^ k) l.length := by
 have h : ∀ n, n ≤ l.length → evR (l.take n) x = sumR (fun k => l.getD k 0 * x ^ k) n := by
  intro n
  induction n with
  | zero => intro _; rfl
  | succ n ih =>
   intro hn
   have e : l.take (n + 1) = l.take n ++ [l.getD n 0] := by
    rw [List.take_add_one]
    simp [List.getD, (by omega : n < l.length)]
   rw [e, Qo7, ih (by omega), sumR, List.length_take, Nat.min_eq_left (by omega)]
 have := h l.length (Nat.le_refl _)
 rwa [List.take_length] at this
theorem QjC (x : Rat) {l : List Rat} {n : Nat} (h : l.length ≤ n) : evR l x = sumR (fun k => l.getD k 0 * x ^ k) n := by
 rw [Qls]
 exact (sumR_ge h (fun k hk => by rw [Qa6 hk, Rat.zero_mul])).symm
theorem QcZ (l : List Rat) (x : Rat) : evR (QbR l) x = evR l x := by
 rw [QjC x (QfK l), Qls x l]
 exact QfA _ fun k _ => by rw [Qeq]
theorem Qon (e : Nat → Rat) (n : Nat) (x : Rat) : evR (QbR ((List.range n).map e)) x = sumR (fun k => e k * x ^ k) n := by
 rw [QcZ, QjC x (l := (List.range n).map e) (n := n) (by simp)]
 exact QfA _ fun k hk => by rw [Qkm e hk]
theorem QcM (x : Rat) : evR [] x = 0 := rfl

/-! ### Dividing by x - r -/
def syn : List Rat → Rat → List Rat
 | [], _ => []
 | [_], _ => []
 | _ :: b :: l, r => evR (b :: l) r :: syn (b :: l) r
theorem Qq1 : ∀ (l : List Rat) (r : Rat), (syn l r).length = l.length - 1
 | [], _ => rfl
 | [_], _ => rfl
 | a :: b :: l, r => by rw [syn, List.length_cons, Qq1 (b :: l) r]; simp
theorem evR_syn : ∀ (l : List Rat) (r x : Rat), evR l x = evR l r + (x - r) * evR (syn l r) x
 | [], r, x => by rw [syn, QcM, QcM]; grind
 | [a], r, x => by
  rw [syn, QcM, Qd0, Qd0, QcM, QcM]; grind
 | a :: b :: l, r, x => by
  have ih := evR_syn (b :: l) r x
  rw [syn, Qd0 a, Qd0 a, Qd0 (evR (b :: l) r)]
  generalize evR (b :: l) x = u at *
  generalize evR (b :: l) r = v at *
  generalize evR (syn (b :: l) r) x = w at *
  rw [ih]; grind
theorem QjR {l : List Rat} (h : ∀ q ∈ l, q = 0) (x : Rat) : evR l x = 0 := by
 induction l with
 | nil => rfl
 | cons a l ih =>
  rw [Qd0, ih (fun q hq => h q (List.mem_cons_of_mem _ hq)), h a (List.mem_cons_self ..)]
  grind
theorem QrO : ∀ (l : List Rat) (r : Rat), (∀ q ∈ syn l r, q = 0) → ∀ q ∈ l.tail, q = 0
 | [], _, _ => by simp
 | [_], _, _ => by simp
 | a :: b :: l, r, h => by
  have h1 : evR (b :: l) r = 0 := h _ (by rw [syn]; exact List.mem_cons_self ..)
  have h2 := QrO (b :: l) r (fun q hq => h q (by rw [syn]; exact List.mem_cons_of_mem _ hq))
  intro q hq
  rcases List.mem_cons.1 hq with rfl | hq
  ·have h3 : evR l r = 0 := QjR h2 r
   rw [Qd0, h3] at h1
   grind
  ·exact h2 q hq
theorem Qr2 : ∀ (n : Nat) (l : List Rat) (c : Rat), l.length ≤ n → (∀ x, c < x → evR l x = 0) → ∀ q ∈ l, q = 0
 | 0, l, c, hl, _ => by
  have : l = [] := List.eq_nil_of_length_eq_zero (by omega)
  subst this; simp
 | n + 1, l, c, hl, h => by
  have hr : c < c + 1 := by grind
  have h0 := h (c + 1) hr
  have hs : ∀ x, c + 1 < x → evR (syn l (c + 1)) x = 0 := fun x hx => by
   have h1 := evR_syn l (c + 1) x
   rw [h x (by grind), h0, Rat.zero_add] at h1
   rcases Rat.mul_eq_zero.1 h1.symm with h2 | h2
   ·exfalso; grind
   ·exact h2
  have hz := QrO l (c + 1) (Qr2 n _ (c + 1) (by rw [Qq1]; omega) hs)
  cases l with
  | nil => simp
  | cons a l =>
   intro q hq
   have hz' : ∀ q ∈ l, q = 0 := hz
   rcases List.mem_cons.1 hq with rfl | hq
   ·rw [Qd0, QjR hz'] at h0
    grind
   ·exact hz' q hq
def difR (l m : List Rat) : List Rat := (List.range (max l.length m.length)).map fun k => l.getD k 0 - m.getD k 0
theorem evR_dif (l m : List Rat) (x : Rat) : evR (difR l m) x = evR l x - evR m x := by
 have e := Qon (fun k => l.getD k 0 - m.getD k 0) (max l.length m.length) x
 rw [QcZ] at e
 show evR (difR l m) x = _
 rw [show difR l m = (List.range (max l.length m.length)).map (fun k => l.getD k 0 - m.getD k 0) from rfl, e, QjC x (l := l) (n := max l.length m.length) (by omega), QjC x (l := m) (n := max l.length m.length) (by omega)]
 have h : ∀ n, sumR (fun k => (l.getD k 0 - m.getD k 0) * x ^ k) n = sumR (fun k => l.getD k 0 * x ^ k) n - sumR (fun k => m.getD k 0 * x ^ k) n := by
  intro n
  induction n with
  | zero => rw [sumR, sumR, sumR, Rat.sub_self]
  | succ n ih =>
   rw [sumR, sumR, sumR, ih]
   generalize sumR (fun k => l.getD k 0 * x ^ k) n = u
   generalize sumR (fun k => m.getD k 0 * x ^ k) n = v
   generalize x ^ n = p
   grind
 exact h _
theorem coef_eq {l m : List Rat} {c : Rat} (h : ∀ x, c < x → evR l x = evR m x) (k : Nat) : l.getD k 0 = m.getD k 0 := by
 have hz := Qr2 _ (difR l m) c (Nat.le_refl _) (fun x hx => by rw [evR_dif, h x hx, Rat.sub_self])
 by_cases hk : k < max l.length m.length
 ·have h1 : l.getD k 0 - m.getD k 0 = 0 := hz _ (List.mem_map.2 ⟨k, List.mem_range.2 hk, rfl⟩)
  grind
 ·rw [Qa6 (by omega), Qa6 (by omega)]
theorem QfO {l m : List Rat} (hl : Trm l) (hm : Trm m) (h : ∀ x, evR l x = evR m x) : l = m :=
 QiX hl hm (coef_eq (c := 0) fun x _ => h x)

/-! ### Products -/
def conv (l m : List Rat) (k : Nat) : Rat := sumR (fun i => l.getD i 0 * m.getD (k - i) 0) (k + 1)
def muP (l m : List Rat) : List Rat := QbR ((List.range (l.length + m.length - 1)).map (conv l m))
theorem conv_nil (m : List Rat) (k : Nat) : conv [] m k = 0 := QhD _ fun i _ => by rw [Qa6 (by simp), Rat.zero_mul]
theorem conv_zero (a : Rat) (l m : List Rat) : conv (a :: l) m 0 = a * m.getD 0 0 := by
 rw [conv, sumR, sumR, Rat.zero_add]; rfl
theorem conv_succ (a : Rat) (l m : List Rat) (k : Nat) : conv (a :: l) m (k + 1) = a * m.getD (k + 1) 0 + conv l m k := by
 rw [conv, Qi7, conv]
 have e : sumR (fun i => (a :: l).getD (i + 1) 0 * m.getD (k + 1 - (i + 1)) 0) (k + 1) = sumR (fun i => l.getD i 0 * m.getD (k - i) 0) (k + 1) :=
  QfA _ fun i _ => by rw [List.getD_cons_succ, show k + 1 - (i + 1) = k - i by omega]
 rw [e]; rfl
theorem Qsi {l m : List Rat} {k : Nat} (h : l.length + m.length - 1 ≤ k) : conv l m k = 0 := by
  by_cases h0 : l.length = 0
  · exact QhD _ fun i _ => by rw [Qa6 (by omega), Rat.zero_mul]
  · exact QhD       _ fun i hi => by
      by_cases h1 : l.length ≤ i
      · rw [Qa6 h1, Rat.zero_mul]
      · rw [Qa6 (l := m) (by omega), Rat.mul_zero]
theorem Qs6 (m : List Rat) (x : Rat) : ∀ (l : List Rat) (n : Nat), l.length + m.length ≤ n → sumR (fun k => conv l m k * x ^ k) n = evR l x * evR m x
 | [], n, _ => by rw [QcM, Rat.zero_mul]; exact QhD _ fun k _ => by rw [conv_nil, Rat.zero_mul]
 | a :: l, 0, h => by simp at h
 | a :: l, n + 1, h => by
  have ih := Qs6 m x l n (by simp at h; omega)
  rw [Qi7, conv_zero]
  have e1 : sumR (fun i => conv (a :: l) m (i + 1) * x ^ (i + 1)) n = sumR (fun i => m.getD (i + 1) 0 * x ^ (i + 1) * a + conv l m i * x ^ i * x) n :=
   QfA _ fun i _ => by
    rw [conv_succ, Rat.pow_succ]
    generalize m.getD (i + 1) 0 = u; generalize conv l m i = v; generalize x ^ i = p; grind
  rw [e1, QoN, Qlr (fun i => m.getD (i + 1) 0 * x ^ (i + 1)), Qlr (fun i => conv l m i * x ^ i), ih, Qd0]
  have e2 : evR m x = m.getD 0 0 * x ^ 0 + sumR (fun i => m.getD (i + 1) 0 * x ^ (i + 1)) n := by
   rw [QjC x (l := m) (n := n + 1) (by simp at h; omega), Qi7]
  rw [e2, Rat.pow_zero]
  generalize sumR (fun i => m.getD (i + 1) 0 * x ^ (i + 1)) n = s
  generalize m.getD 0 0 = t
  generalize evR l x = u
  grind
theorem QtZ (l m : List Rat) (x : Rat) : evR (muP l m) x = evR l x * evR m x := by
 rw [muP, Qon, ← Qs6 m x l (l.length + m.length) (Nat.le_refl _)]
 exact (sumR_ge (by omega) (fun k hk => by rw [Qsi hk, Rat.zero_mul])).symm
end Go.AM

/- Arrays of rationals; poly.at, made, Add, Scale, Derive. -/
namespace Go.AM
open Go Go.RowKit

theorem SzL.trim {K : Nat} {l : List Rat} (h : SzL K l) : SzL K (QbR l) := fun q hq => h q (List.mem_of_mem_take hq)
theorem SzL.map {K : Nat} {n : Nat} {e : Nat → Rat} (h : ∀ k, k < n → sz (e k) ≤ K) : SzL K ((List.range n).map e) := by
 intro q hq
 obtain ⟨k, hk, rfl⟩ := List.mem_map.1 hq
 exact h k (List.mem_range.1 hk)
def adP (l m : List Rat) : List Rat := QbR ((List.range (max l.length m.length)).map fun k => l.getD k 0 + m.getD k 0)
def sbP (l m : List Rat) : List Rat := QbR ((List.range (max l.length m.length)).map fun k => l.getD k 0 - m.getD k 0)
def scP (l : List Rat) (a : Rat) : List Rat := QbR ((List.range l.length).map fun k => l.getD k 0 * a)
def deP (l : List Rat) : List Rat := QbR ((List.range (l.length - 1)).map fun k => l.getD (k + 1) 0 * ((k + 1 : Nat) : Int))
theorem made_sz {K n : Nat} {e : Nat → Rat} (h : ∀ k, k < n → sz (e k) ≤ K) : SzL K (QbR ((List.range n).map e)) := (SzL.map h).trim
theorem Qom (n : Nat) (e : Nat → Rat) : (QbR ((List.range n).map e)).length ≤ n := by
 have := QfK ((List.range n).map e)
 rwa [List.length_map, List.length_range] at this
variable [Its]

end Go.AM

/- Polynomials: the values of sums, products with numbers, derivatives, shifts. -/
namespace Go.AM
open Go Go.RowKit

theorem ev_ad (l m : List Rat) (x : Rat) : evR (adP l m) x = evR l x + evR m x := by
 rw [adP, Qon, QjC x (l := l) (n := max l.length m.length) (by omega), QjC x (l := m) (n := max l.length m.length) (by omega), ← QoN]
 exact QfA _ fun k _ => Rat.add_mul ..
theorem ev_sb (l m : List Rat) (x : Rat) : evR (sbP l m) x = evR l x - evR m x := by
 rw [← evR_dif, difR, sbP, QcZ]
theorem ev_sc (l : List Rat) (a x : Rat) : evR (scP l a) x = evR l x * a := by
 rw [scP, Qon, Qls x l, ← Qlr]
 exact QfA _ fun k _ => by generalize l.getD k 0 = u; generalize x ^ k = p; grind
theorem trm_ad (l m : List Rat) : Trm (adP l m) := Qco _
theorem trm_sb (l m : List Rat) : Trm (sbP l m) := Qco _
theorem trm_sc (l : List Rat) (a : Rat) : Trm (scP l a) := Qco _
theorem trm_mu (l m : List Rat) : Trm (muP l m) := Qco _
theorem QpL (l : List Rat) : Trm (deP l) := Qco _
theorem len_sc (l : List Rat) (a : Rat) : (scP l a).length ≤ l.length := Qom _ _
theorem len_mu (l m : List Rat) : (muP l m).length ≤ l.length + m.length - 1 := Qom _ _
theorem Qpj (l : List Rat) : (deP l).length ≤ l.length - 1 := Qom _ _
theorem szl_sc {l : List Rat} {a : Rat} {K L : Nat} (h1 : SzL K l) (h2 : sz a ≤ L) (hK : 1 ≤ K) : SzL (K + L) (scP l a) := made_sz fun k _ => by
 have := h1.getD hK k
 have := Qec (a := l.getD k 0) (b := a); omega
theorem sz_sumR {f : Nat → Rat} {K : Nat} : ∀ n, (∀ k, k < n → sz (f k) ≤ K) → sz (sumR f n) ≤ n * (K + 1) + 1
 | 0, _ => by rw [sumR, QeF]; omega
 | n + 1, h => by
  have h1 := sz_sumR n (fun k hk => h k (by omega))
  have h2 := h n (by omega)
  have h3 := Qkj (a := sumR f n) (b := f n)
  have h4 : (n + 1) * (K + 1) = n * (K + 1) + (K + 1) := Nat.succ_mul n (K + 1)
  rw [sumR]; omega
/-! ### The derivative -/
/-! ### Shifts -/
end Go.AM

/- poly.Mul. -/
namespace Go.AM
open Go Go.RowKit

theorem RwR.cell {d : D} {l : List Rat} (h : RwR d l) : QaN (.d d) = [.d d] := by rcases h with ⟨rfl, _⟩ | rfl <;> rfl
theorem RwR.onec {d : D} {l : List Rat} (h : RwR d l) : A.one (.d d) = true := by rcases h with ⟨rfl, _⟩ | rfl <;> rfl
section
variable (p q : List Rat) (k : Nat)
end
variable [Its]

section
variable {dp dq : D} {p q : List Rat} {k : Nat} {K : Nat}
end
end Go.AM

