/- Part 10 of the proof: a small machine, its soundness against the model, and what the program's functions compute on it. -/
import Derived.Test.YtbbemgfheagobaaGreatM9
import Derived.Test.YtbbemgfheagobaaGreatM8
import Derived.Test.YtbbemgfheagobaaGreatRows
import Derived.Test.YtbbemgfheagobaaGreatM4
import Derived.WalkKit
import Derived.ProofKit
import Derived.OpenShut
import Derived.ShutString
import Derived.ChangeOld
import Derived.Below
import Derived.SizedLaws
set_option linter.unusedVariables false
set_option linter.unusedSimpArgs false
/- sturm.odd at k q^2: the answer is 1. -/
namespace Go.AM
open Go Go.RowKit
theorem QiV {q : List Rat} {s : Nat} (tq : Trm q) (H : HL s s q) (h2 : 2 ≤ q.length) (n9 : q.length ≤ 40) : HL ((s + 2) * 3 ^ q.length / 3 ^ (gcdP q (deP q)).length + 1) ((s + 2) * 3 ^ q.length / 3 ^ (gcdP q (deP q)).length + 1) (gcdP q (deP q)) := by
 have l1 := Qdp tq
 have l2 := Qdp (Qbf q)
 have ld := Qek tq
 have hne : mnP (deP q) ≠ [] := fun h0 => by rw [h0] at l2; simp only [List.length_nil] at l2; omega
 have hd : HL (s + 1) (s + 1) (deP q) := (H.de (by have : BB = 1000000000 := rfl; omega)).mono (by omega) (by omega)
 refine QqW ((deP q).length + 1) (s + 1) (mnP q) (mnP (deP q)) ((Qil H tq).mono (by omega) (by omega)) (Qil hd (Qbf q)) (QeW _) hne (by omega) ?_
 have h3 : (dvN (mnP q) (mnP (deP q)) + 1) * 3 ^ (mnP (deP q)).length = 3 ^ q.length := by
  have e : dvN (mnP q) (mnP (deP q)) + 1 = 3 := by unfold dvN; omega
  rw [e, l2, ld, show q.length = (q.length - 1) + 1 by omega, Nat.pow_succ, Nat.add_sub_cancel, Nat.mul_comm]
 rw [Nat.mul_assoc, h3]
 show (s + 2) * 3 ^ q.length ≤ ((s + 2) * 3 ^ q.length / 3 ^ (gcdP q (deP q)).length + 1) * 3 ^ (gcdP q (deP q)).length
 generalize (s + 2) * 3 ^ q.length = A
 have hp : 0 < 3 ^ (gcdP q (deP q)).length := Nat.pow_pos (by decide)
 generalize 3 ^ (gcdP q (deP q)).length = B at *
 have := Nat.div_add_mod A B
 have := Nat.mod_lt A hp
 rw [Nat.add_mul, Nat.one_mul, Nat.mul_comm]
 omega
theorem QeT {s n X : Nat} (h : (s + 4) * 3 ^ n ≤ 15000) (hX : 15000 < (X + 5) * 3 ^ n) : s ≤ X := by
 apply Classical.byContradiction
 intro k
 have : (X + 5) * 3 ^ n ≤ (s + 4) * 3 ^ n := Nat.mul_le_mul_right _ (by omega)
 exact absurd (Nat.lt_of_lt_of_le hX (Nat.le_trans this h)) (Nat.lt_irrefl _)
theorem pot_a {s n : Nat} (h2 : 2 ≤ n) (h6 : n ≤ 6) (h : (s + 4) * 3 ^ n ≤ 15000) : (2 * s + 43) * 3 ^ (2 * n - 1) ≤ 14000000 := by
 have hn : n = 2 ∨ n = 3 ∨ n = 4 ∨ n = 5 ∨ n = 6 := by omega
 rcases hn with rfl | rfl | rfl | rfl | rfl
 ·have k := QeT (X := 1662) h (Nat.le_of_ble_eq_true rfl)
  exact Nat.le_trans (Nat.mul_le_mul_right _ (show 2 * s + 43 ≤ 3367 by omega)) (Nat.le_of_ble_eq_true rfl)
 ·have k := QeT (X := 551) h (Nat.le_of_ble_eq_true rfl)
  exact Nat.le_trans (Nat.mul_le_mul_right _ (show 2 * s + 43 ≤ 1145 by omega)) (Nat.le_of_ble_eq_true rfl)
 ·have k := QeT (X := 181) h (Nat.le_of_ble_eq_true rfl)
  exact Nat.le_trans (Nat.mul_le_mul_right _ (show 2 * s + 43 ≤ 405 by omega)) (Nat.le_of_ble_eq_true rfl)
 ·have k := QeT (X := 57) h (Nat.le_of_ble_eq_true rfl)
  exact Nat.le_trans (Nat.mul_le_mul_right _ (show 2 * s + 43 ≤ 157 by omega)) (Nat.le_of_ble_eq_true rfl)
 ·have k := QeT (X := 16) h (Nat.le_of_ble_eq_true rfl)
  exact Nat.le_trans (Nat.mul_le_mul_right _ (show 2 * s + 43 ≤ 75 by omega)) (Nat.le_of_ble_eq_true rfl)
theorem Qia {s t n m X Y : Nat} (a : s ≤ X) (b : t ≤ Y) (h : (X + Y + 44) * 3 ^ (n + m - 1) ≤ 14000000) : (s + t + 44) * 3 ^ (n + m - 1) ≤ 14000000 := Nat.le_trans (Nat.mul_le_mul_right _ (by omega)) h
theorem pot_b2 {s t m : Nat} (h1 : 1 ≤ m) (h2 : m < 2) (h : (s + 4) * 3 ^ 2 ≤ 15000) (k : (t + 4) * 3 ^ m ≤ 15000) : (s + t + 44) * 3 ^ (2 + m - 1) ≤ 14000000 := by
 have a := QeT (X := 1662) h (Nat.le_of_ble_eq_true rfl)
 match m, h1, h2 with
 | 1, _, _ => exact Qia a (QeT (X := 4996) k (Nat.le_of_ble_eq_true rfl)) (Nat.le_of_ble_eq_true rfl)
theorem pot_b3 {s t m : Nat} (h1 : 1 ≤ m) (h2 : m < 3) (h : (s + 4) * 3 ^ 3 ≤ 15000) (k : (t + 4) * 3 ^ m ≤ 15000) : (s + t + 44) * 3 ^ (3 + m - 1) ≤ 14000000 := by
 have a := QeT (X := 551) h (Nat.le_of_ble_eq_true rfl)
 match m, h1, h2 with
 | 1, _, _ => exact Qia a (QeT (X := 4996) k (Nat.le_of_ble_eq_true rfl)) (Nat.le_of_ble_eq_true rfl)
 | 2, _, _ => exact Qia a (QeT (X := 1662) k (Nat.le_of_ble_eq_true rfl)) (Nat.le_of_ble_eq_true rfl)
theorem pot_b4 {s t m : Nat} (h1 : 1 ≤ m) (h2 : m < 4) (h : (s + 4) * 3 ^ 4 ≤ 15000) (k : (t + 4) * 3 ^ m ≤ 15000) : (s + t + 44) * 3 ^ (4 + m - 1) ≤ 14000000 := by
 have a := QeT (X := 181) h (Nat.le_of_ble_eq_true rfl)
 match m, h1, h2 with
 | 1, _, _ => exact Qia a (QeT (X := 4996) k (Nat.le_of_ble_eq_true rfl)) (Nat.le_of_ble_eq_true rfl)
 | 2, _, _ => exact Qia a (QeT (X := 1662) k (Nat.le_of_ble_eq_true rfl)) (Nat.le_of_ble_eq_true rfl)
 | 3, _, _ => exact Qia a (QeT (X := 551) k (Nat.le_of_ble_eq_true rfl)) (Nat.le_of_ble_eq_true rfl)
theorem pot_b5 {s t m : Nat} (h1 : 1 ≤ m) (h2 : m < 5) (h : (s + 4) * 3 ^ 5 ≤ 15000) (k : (t + 4) * 3 ^ m ≤ 15000) : (s + t + 44) * 3 ^ (5 + m - 1) ≤ 14000000 := by
 have a := QeT (X := 57) h (Nat.le_of_ble_eq_true rfl)
 match m, h1, h2 with
 | 1, _, _ => exact Qia a (QeT (X := 4996) k (Nat.le_of_ble_eq_true rfl)) (Nat.le_of_ble_eq_true rfl)
 | 2, _, _ => exact Qia a (QeT (X := 1662) k (Nat.le_of_ble_eq_true rfl)) (Nat.le_of_ble_eq_true rfl)
 | 3, _, _ => exact Qia a (QeT (X := 551) k (Nat.le_of_ble_eq_true rfl)) (Nat.le_of_ble_eq_true rfl)
 | 4, _, _ => exact Qia a (QeT (X := 181) k (Nat.le_of_ble_eq_true rfl)) (Nat.le_of_ble_eq_true rfl)
theorem pot_b6 {s t m : Nat} (h1 : 1 ≤ m) (h2 : m < 6) (h : (s + 4) * 3 ^ 6 ≤ 15000) (k : (t + 4) * 3 ^ m ≤ 15000) : (s + t + 44) * 3 ^ (6 + m - 1) ≤ 14000000 := by
 have a := QeT (X := 16) h (Nat.le_of_ble_eq_true rfl)
 match m, h1, h2 with
 | 1, _, _ => exact Qia a (QeT (X := 4996) k (Nat.le_of_ble_eq_true rfl)) (Nat.le_of_ble_eq_true rfl)
 | 2, _, _ => exact Qia a (QeT (X := 1662) k (Nat.le_of_ble_eq_true rfl)) (Nat.le_of_ble_eq_true rfl)
 | 3, _, _ => exact Qia a (QeT (X := 551) k (Nat.le_of_ble_eq_true rfl)) (Nat.le_of_ble_eq_true rfl)
 | 4, _, _ => exact Qia a (QeT (X := 181) k (Nat.le_of_ble_eq_true rfl)) (Nat.le_of_ble_eq_true rfl)
 | 5, _, _ => exact Qia a (QeT (X := 57) k (Nat.le_of_ble_eq_true rfl)) (Nat.le_of_ble_eq_true rfl)
theorem pot_b {s t n m : Nat} (h1 : 1 ≤ m) (h2 : m < n) (h6 : n ≤ 6) (h : (s + 4) * 3 ^ n ≤ 15000) (k : (t + 4) * 3 ^ m ≤ 15000) : (s + t + 44) * 3 ^ (n + m - 1) ≤ 14000000 := by
 have hn : n = 2 ∨ n = 3 ∨ n = 4 ∨ n = 5 ∨ n = 6 := by omega
 rcases hn with rfl | rfl | rfl | rfl | rfl
 ·exact pot_b2 h1 h2 h k
 ·exact pot_b3 h1 h2 h k
 ·exact pot_b4 h1 h2 h k
 ·exact pot_b5 h1 h2 h k
 ·exact pot_b6 h1 h2 h k
theorem pot_c {s n m : Nat} (h1 : 1 ≤ m) (h2 : m < n) (h : (s + 4) * 3 ^ n ≤ 15000) : ((s + 2) * 3 ^ n / 3 ^ m + 1 + 4) * 3 ^ m ≤ 15000 := by
 have hp : 0 < 3 ^ m := Nat.pow_pos (by decide)
 have h3 : 3 * 3 ^ m ≤ 3 ^ n := by
  rw [Nat.mul_comm, ← Nat.pow_succ]
  exact Nat.pow_le_pow_right (by decide) (by omega)
 have h4 := Nat.div_mul_le_self ((s + 2) * 3 ^ n) (3 ^ m)
 have h5 : (s + 4) * 3 ^ n = (s + 2) * 3 ^ n + 2 * 3 ^ n := by rw [← Nat.add_mul]
 have h6 : ((s + 2) * 3 ^ n / 3 ^ m + 1 + 4) * 3 ^ m = (s + 2) * 3 ^ n / 3 ^ m * 3 ^ m + 5 * 3 ^ m := by rw [Nat.add_assoc, Nat.add_mul]
 rw [h6]
 generalize (s + 2) * 3 ^ n / 3 ^ m * 3 ^ m = A at *
 generalize (s + 2) * 3 ^ n = B at *
 generalize 3 ^ m = C at *
 generalize 3 ^ n = E at *
 omega
theorem pot_s {s n : Nat} (h1 : 1 ≤ n) (h : (s + 4) * 3 ^ n ≤ 15000) : s ≤ 4996 := by
 have h2 : 3 ^ 1 ≤ 3 ^ n := Nat.pow_le_pow_right (by decide) h1
 have h3 : (s + 4) * 3 ≤ (s + 4) * 3 ^ n := Nat.mul_le_mul_left _ h2
 omega
variable [Its]
section
variable {d : D} {r : List Rat}
theorem Qqk {s N Kg : Nat} (hr : RwR d r) (tr : Trm r) (r0 : r ≠ []) (H : HL s s r) (hN : r.length ≤ N) (N9 : N ≤ 40) (hK : (s + 2) * 3 ^ N ≤ Kg) (hB : s + N * (Kg + 1) + Kg + 1 ≤ 900000000) : ∃ d', RwR d' (frP r) ∧ Qah G QbB [d] = some (.d d') := by
 have l1 := Qdp tr
 have l2 := Qdp (Qbf r)
 have ld := Qek tr
 have hp := List.length_pos_iff.2 r0
 have h31 : 1 ≤ 3 ^ N := Nat.one_le_pow _ _ (by decide)
 have hs : s + 2 ≤ Kg := Nat.le_trans (Nat.le_mul_of_pos_right _ h31) hK
 have hd : HL (s + 1) (s + 1) (deP r) := (H.de (by have : BB = 1000000000 := rfl; omega)).mono (by omega) (by omega)
 have h2 : (s + 1 + 1) * (dvN (mnP r) (mnP (deP r)) + 1) * 3 ^ (mnP (deP r)).length ≤ Kg := by
  refine Nat.le_trans ?_ hK
  rw [Nat.mul_assoc]
  refine Nat.mul_le_mul_left _ ?_
  have h3 : (dvN (mnP r) (mnP (deP r)) + 1) * 3 ^ (mnP (deP r)).length = 3 ^ r.length := by
   have e : dvN (mnP r) (mnP (deP r)) + 1 = 3 := by unfold dvN; omega
   rw [e, l2, ld, show r.length = (r.length - 1) + 1 by omega, Nat.pow_succ, Nat.add_sub_cancel, Nat.mul_comm]
  rw [h3]
  exact Nat.pow_le_pow_right (by decide) hN
 obtain ⟨g1, _, Hg⟩ := Qra (K := Kg) ((deP r).length + 1) (s + 1) (mnP r) (mnP (deP r)) ((Qil H tr).mono (by omega) (by omega)) (Qil hd (Qbf r)) (QeW _) (by omega) h2
 have Hg : HL Kg Kg (gcdP r (deP r)) := Hg
 have ng := QnT tr (Qbf r) (.inl r0)
 have hl := List.length_pos_iff.2 ng
 have gl := Qq4 (M := N) (b := deP r) hN (by have := Qon r; omega)
 have hm : dvN r (gcdP r (deP r)) ≤ N := by unfold dvN; omega
 have k1 : dvN r (gcdP r (deP r)) * Kg ≤ N * Kg := Nat.mul_le_mul_right _ hm
 have k2 : dvN r (gcdP r (deP r)) * (Kg + 1) ≤ N * (Kg + 1) := Nat.mul_le_mul_right _ hm
 have k3 : N * (Kg + 1) = N * Kg + N := Nat.mul_succ _ _
 obtain ⟨x, _, z⟩ := Qht (K := 900000000) H Hg QcO (by omega)
 exact Qeg hr (by omega) (K := 900000001) (by omega) (by omega) (H.sz.mono (by omega)) (hd.sz.mono (by omega)) (Qkt (by omega) _ _ _ g1) (by omega) (Hg.sz.mono (by omega)) (QhB (by omega) _ _ x) (z.sz.mono (by omega))
theorem QrX {s t : Nat} {e : D} {b : List Rat} (hr : RwR d r) (hb : RwR e b) (H : HL s s r) (Hb : HL t t b) (tb : Trm b) (nr : r.length ≤ 40) (nb : b.length ≤ 40) (hB : s + (r.length + 1) * (t + 1) + t + 1 ≤ 900000000) : ∃ d1 d2, RwR d1 (quoP r b) ∧ RwR d2 (remP r b) ∧ Qah G QbM [d, e] = some (.d (.tup [d1, d2])) := by
 have hm : dvN r b ≤ r.length + 1 := by unfold dvN; omega
 have k1 : dvN r b * t ≤ (r.length + 1) * t := Nat.mul_le_mul_right _ hm
 have k2 : dvN r b * (t + 1) ≤ (r.length + 1) * (t + 1) := Nat.mul_le_mul_right _ hm
 have k3 : (r.length + 1) * (t + 1) = (r.length + 1) * t + (r.length + 1) := Nat.mul_succ _ _
 obtain ⟨x, _, z⟩ := Qht (K := 900000000) H Hb tb (by omega)
 exact QdX hr hb (by omega) (by omega) (K := 900000001) (Hb.sz.mono (by omega)) (by omega) (by omega) (QhB (by omega) _ _ x)
theorem od_goB {d1 d2 a1 a2 a3 a4 a5 a6 a7 x1 x2 x3 : D} (hr : RwR d2 r) (h1 : 1 < r.length) (nr : r.length ≤ 1000)
    (g1 : Qah G QbB [d2] = some (.d a1)) (g2 : Qah G QbM [d2, a1] = some (.d (.tup [a2, x1]))) (g3 : Qah G QbB [a2] = some (.d a3)) (g4 : Qah G Qgi [a1, a3] = some (.d a4)) (g5 : Qah G QbM [a1, a4] = some (.d (.tup [a5, x2]))) (g6 : Qah G Qga [d1, a5] = some (.d a6)) (g7 : Qah G QbM [a2, a3] = some (.d (.tup [a7, x3]))) :
    X G Qbh (QmB d1 d2) = some (.n, QmB a6 a7) := by
  have l := hr.len
  have e : decide ((r.length : Int) > 1) = true := decide_eq_true (by omega)
  simp -implicitDefEqProofs (maxSteps:=9^8) only [Qbh, QmB, l, e, g1, g2, g3, g4, g5, g6, g7, go_sem, iv, bv, reduceCtorEq, ↓reduceIte, Nat.reduceEqDiff]
theorem sq_loop {e : Nat} (he : e ≤ 40) : ∀ (n : Nat) (q : List Rat) (s : Nat) (k : Rat) (d1 d2 : D), q.length ≤ n → q.length ≤ 6 → Trm q → q ≠ [] → Mo q → HL s s q → (s + 4) * 3 ^ q.length ≤ 15000 → k ≠ 0 → H1 e e k → RwR d1 [1] → RwR d2 (scP (muP q q) k) →
    ∃ d', RwR d' [1] ∧ X G (.loop Qbh) (QmB d1 d2) = some (.x 0, mkS [(3, .d d')] [])
  | 0, q, s, k, d1, d2, hn, h6, tq, q0, mq, H, hs, k0, Hk, r1, r2 => absurd (List.eq_nil_of_length_eq_zero (by omega)) q0
  | n + 1, q, s, k, d1, d2, hn, h6, tq, q0, mq, H, hs, k0, Hk, r1, r2 => by
    have hBB : BB = 1000000000 := rfl
    have hl := List.length_pos_iff.2 q0
    have lr : (scP (muP q q) k).length = 2 * q.length - 1 := by
      rw [Qk9 (Qdx _ _) k0, Qio tq tq q0 q0]; omega
    by_cases h1 : q.length = 1
    · exact ⟨d1, r1, by rw [Qak, od_stop r2 (by omega)]; rfl⟩
    · obtain ⟨ef, mf, mg, ng⟩ := Qml tq q0 mq
      have tf := QdL q
      have f0 := QfQ tq q0
      have tg : Trm (gcdP q (deP q)) := QcO
      have Hg := QiV tq H (by omega) (by omega)
      have lg := List.length_pos_iff.2 ng
      have lf := List.length_pos_iff.2 f0
      have lfg : q.length = (frP q).length + (gcdP q (deP q)).length - 1 := by
        have := Qio tf tg f0 ng
        rw [← ef] at this; exact this
      have gd := (QcE tq (Qbf q)).2.2
      have ld := Qek tq
      have dn : deP q ≠ [] := fun h0 => by rw [h0] at ld; simp only [List.length_nil] at ld; omega
      have lg2 := Qdg tg (Qbf q) dn gd
      have hc := pot_c (s := s) lg (show (gcdP q (deP q)).length < q.length by omega) hs
      have hs2 := pot_s (by omega) hs
      have ht2 := pot_s lg hc
      have ha := pot_a (by omega) h6 hs
      have hb := pot_b lg (show (gcdP q (deP q)).length < q.length by omega) h6 hs hc
      have Hr : HL (2 * s + 41) (2 * s + 41) (scP (muP q q) k) := ((H.mu H (by omega)).sc Hk).mono (by omega) (by omega)
      have s1 := sq_fr tq q0 mq k0 tq q0 (Dv.refl q)
      have s2 := sq_quo (k := k) tq q0 mq (b := q)
      have s3 := sq_fr tq q0 mq k0 tg ng (QcE tq (Qbf q)).2.1
      have s4 := sq_quo (k := k) tq q0 mq (b := gcdP q (deP q))
      have Hf : HL 60000 60000 (frP q) := by
        have e1 : quoP q (gcdP q (deP q)) = frP q := (QpX (r := []) tg ng tf Qeh (by simp) fun x => by
          have : evR q x = evR (muP (frP q) (gcdP q (deP q))) x := by rw [← ef]
          rw [this, QaF, QaD]; grind).1
        have hm : dvN q (gcdP q (deP q)) ≤ 6 := by unfold dvN; omega
        generalize (s + 2) * 3 ^ q.length / 3 ^ (gcdP q (deP q)).length + 1 = t at *
        have m1 : dvN q (gcdP q (deP q)) * t ≤ 6 * t := Nat.mul_le_mul_right _ hm
        have m2 : dvN q (gcdP q (deP q)) * (t + 1) ≤ 6 * (t + 1) := Nat.mul_le_mul_right _ hm
        obtain ⟨_, _, z⟩ := Qht (K := 100000) H Hg tg (by omega)
        rw [e1] at z
        exact z.mono (by omega) (by omega)
      generalize (s + 2) * 3 ^ q.length / 3 ^ (gcdP q (deP q)).length + 1 = t at *
      have ht3 : t ≤ 4996 := by omega
      have Hr1 : HL (s + t + 42) (s + t + 42) (scP (muP q (gcdP q (deP q))) k) := ((H.mu Hg (by omega)).sc Hk).mono (by omega) (by omega)
      have lr1 : (scP (muP q (gcdP q (deP q))) k).length = q.length + (gcdP q (deP q)).length - 1 := by
        rw [Qk9 (Qdx _ _) k0, Qio tq tg q0 ng]
      have n1 : scP (muP q q) k ≠ [] := Qrw (Qdx _ _) (mu_ne tq tq q0 q0) k0
      have n2 : scP (muP q (gcdP q (deP q))) k ≠ [] := Qrw (Qdx _ _) (mu_ne tq tg q0 ng) k0
      obtain ⟨a1, b1, c1⟩ := Qqk (Kg := 14000000) (N := 2 * q.length - 1) r2 (Qg6 _ _) n1 Hr (by omega) (by omega) ha (by
        have : (2 * q.length - 1) * (14000000 + 1) ≤ 11 * (14000000 + 1) := Nat.mul_le_mul_right _ (by omega)
        omega)
      rw [s1] at b1
      obtain ⟨a2, x1, b2, _, c2⟩ := QrX r2 b1 Hr Hf tf (by omega) (by omega) (by
        have : ((scP (muP q q) k).length + 1) * (60000 + 1) ≤ 12 * (60000 + 1) := Nat.mul_le_mul_right _ (by omega)
        omega)
      rw [s2] at b2
      obtain ⟨a3, b3, c3⟩ := Qqk (Kg := 14000000) (N := q.length + (gcdP q (deP q)).length - 1) b2 (Qg6 _ _) n2 Hr1 (by omega) (by omega) hb (by
        have : (q.length + (gcdP q (deP q)).length - 1) * (14000000 + 1) ≤ 11 * (14000000 + 1) := Nat.mul_le_mul_right _ (by omega)
        omega)
      rw [s3] at b3
      obtain ⟨z1, _, _⟩ := gz7 (N := 6) (K := 150000000) (Hf.mono (Nat.le_refl _) (show 60000 ≤ 60001 by omega)) (Hf.mono (Nat.le_refl _) (show 60000 ≤ 60001 by omega)) tf tf (by omega) (by omega) (by decide)
      obtain ⟨a4, b4, c4⟩ := QhF b1 b3 (by omega) (by omega) (K := 150000000) (by omega) (by omega) (Hf.sz.mono (by omega)) (Hf.sz.mono (by omega)) z1
      rw [gcd_same tf f0 mf] at b4
      obtain ⟨a5, x2, b5, _, c5⟩ := QrX b1 b4 Hf Hf tf (by omega) (by omega) (by
        have : ((frP q).length + 1) * (60000 + 1) ≤ 12 * (60000 + 1) := Nat.mul_le_mul_right _ (by omega)
        omega)
      rw [quo_same tf f0] at b5
      have z11 : SzL 7000 [(1 : Rat)] := fun x hx => by
        rw [List.mem_singleton.1 hx, QjJ]; omega
      obtain ⟨a6, b6, c6⟩ := Qhz r1 b5 z11 z11 (by omega) (by simp)
      rw [mu_11] at b6
      obtain ⟨a7, x3, b7, _, c7⟩ := QrX b2 b3 Hr1 Hf tf (by omega) (by omega) (by
        have : ((scP (muP q (gcdP q (deP q))) k).length + 1) * (60000 + 1) ≤ 12 * (60000 + 1) := Nat.mul_le_mul_right _ (by omega)
        omega)
      rw [s4] at b7
      have g := od_goB (d1 := d1) r2 (by omega) (by omega) c1 c2 c3 c4 c5 c6 c7
      obtain ⟨d', r', g'⟩ := sq_loop he n (gcdP q (deP q)) t k a6 a7 (by omega) (by omega) tg ng mg Hg hc k0 Hk b6 b7
      exact ⟨d', r', by rw [Qak, g, Option.bind_some, if_pos rfl]; exact g'⟩
end
end Go.AM

/- sturm.odd at a general polynomial: what it answers divides the free part; sizes. -/
namespace Go.AM
open Go Go.RowKit
theorem mu_1 {g : List Rat} (tg : Trm g) : muP g [1] = g := Qc3 (Qdx _ _) tg fun x => by rw [QaF, Qei]; grind
theorem mu_1' {g : List Rat} (tg : Trm g) : muP [1] g = g := Qc3 (Qdx _ _) tg fun x => by rw [QaF, Qei]; grind
theorem fr_mono {a b : List Rat} (ta : Trm a) (a0 : a ≠ []) (tb : Trm b) (b0 : b ≠ []) (h : Dv a b) : Dv (frP a) (frP b) :=
 sqf_dv (QdL a) (QfQ ta a0) (QdL b) (Qkk ta a0) fun π hI hd => QpT tb b0 hI (hd.trans ((Qir ta a0).trans h))
theorem sqf_gcd {a f : List Rat} (ta : Trm a) (a0 : a ≠ []) (tf : Trm f) (hf : gcdP f (deP f) = [1]) (h : Dv a f) : gcdP a (deP a) = [1] := by
 obtain ⟨_, d1, d2⟩ := QcE ta (Qbf a)
 have td : Trm (gcdP a (deP a)) := QcO
 have md := Qmk ta (Qbf a)
 have nd := QnT ta (Qbf a) (.inl a0)
 by_cases h2 : 2 ≤ (gcdP a (deP a)).length
 ·exfalso
  obtain ⟨π, hI, hπ⟩ := Qrg _ _ (Nat.le_refl _) td h2
  obtain ⟨w, tw, nw, _, ew, _⟩ := QkX hI.1 ta a0 (hπ.trans d1)
  obtain ⟨t, ht⟩ := hπ.trans d2
  have hev : ∀ x, evR a x = evR w x * evR π x := fun x => by rw [ew, QaF]
  have hd : Dv π (muP w (deP π)) := ⟨sbP t (deP w), fun x => by
   have e1 := ht x
   have e2 : evR (deP a) x = der w x * evR π x + evR w x * der π x := by
    rw [Qh9, QiC (m := muP w π) (fun x => by rw [QaF, hev]), Qlf]
   rw [e2] at e1
   rw [QaF, QoW, Qh9, Qh9]
   grind⟩
  rcases Qgg hI tw hd with k | k
  ·obtain ⟨c, hc⟩ := k
   obtain ⟨s, hs⟩ := h
   exact sqf_no tf hf hI (w := muP s c) fun x => by rw [hs, hev, hc, QaF]; grind
  ·exact irr_der hI k
 ·have hl := List.length_pos_iff.2 nd
  exact Qii md (by omega)
theorem fr_11 : frP [1] = [1] := by
 have h1 : gcdP [1] (deP [1]) = [1] := by
  have : deP [1] = [] := List.eq_nil_of_length_eq_zero (by rw [Qek Qd1]; rfl)
  rw [this]
  refine gcd_is Qd1 Qeh Qd1 mo_one (Dv.refl _) (Dv.nil _) (u := [1]) (v := []) fun x => by rw [Qei, QaD]; grind
 exact fr_is Qd1 (by simp) mo_one h1 Qd1 (by simp) (Dv.refl _) fun π hI hd => hd
section
variable {g : List Rat} {k : Rat}
theorem gn_fr (tg : Trm g) (g0 : g ≠ []) (mg : Mo g) (hk : k ≠ 0) : frP (scP g k) = frP g := by
 have := sq_fr tg g0 mg hk Qd1 (by simp) (Dv.one g)
 rw [mu_1 tg] at this
 exact this
theorem gn_quo (tg : Trm g) (g0 : g ≠ []) (mg : Mo g) : quoP (scP g k) (frP g) = scP (gcdP g (deP g)) k := by
 have := sq_quo (k := k) tg g0 mg (b := [1])
 rw [mu_1 tg, mu_1' QcO] at this
 exact this
theorem gn_gcd {f f1 : List Rat} (tf : Trm f) (t1 : Trm f1) (m1 : Mo f1) (h : Dv f1 f) : gcdP f f1 = f1 :=
 gcd_is tf t1 t1 m1 h (Dv.refl _) (u := []) (v := [1]) fun x => by rw [Qei, QaD]; grind
theorem gn_sz {s : Nat} (tg : Trm g) (g0 : g ≠ []) (mg : Mo g) (H : HL s s g) (n6 : g.length ≤ 6) (hs : (s + 4) * 3 ^ g.length ≤ 15000) : HL 10600 10600 (frP g) := by
 obtain ⟨ef, mf, mgc, ng⟩ := Qml tg g0 mg
 have tf := QdL g
 have tgc : Trm (gcdP g (deP g)) := QcO
 have lg := List.length_pos_iff.2 ng
 have hl := List.length_pos_iff.2 g0
 have hs2 := pot_s hl hs
 by_cases l1 : (gcdP g (deP g)).length = 1
 ·have e : gcdP g (deP g) = [1] := Qii mgc l1
  rw [e, mu_1 tf] at ef
  rw [← ef]
  exact H.mono (by omega) (by omega)
 ·have ld := Qek tg
  have gd := (QcE tg (Qbf g)).2.2
  have h2 : 2 ≤ g.length := by
   have := Qdg tgc tg g0 (QcE tg (Qbf g)).2.1
   omega
  have dn : deP g ≠ [] := fun h0 => by rw [h0] at ld; simp only [List.length_nil] at ld; omega
  have lg2 := Qdg tgc (Qbf g) dn gd
  have hc := pot_c (s := s) lg (show (gcdP g (deP g)).length < g.length by omega) hs
  have Hg := QiV tg H (by omega) (by omega)
  have e1 : quoP g (gcdP g (deP g)) = frP g := (QpX (r := []) tgc ng tf Qeh (by simp) fun x => by
   have : evR g x = evR (muP (frP g) (gcdP g (deP g))) x := by rw [← ef]
   rw [this, QaF, QaD]; grind).1
  have h3 : 3 ^ 2 ≤ 3 ^ (gcdP g (deP g)).length := Nat.pow_le_pow_right (by decide) (by omega)
  have h4 : 3 ^ 3 ≤ 3 ^ g.length := Nat.pow_le_pow_right (by decide) (by omega)
  generalize (s + 2) * 3 ^ g.length / 3 ^ (gcdP g (deP g)).length + 1 = t at *
  have t1 : t ≤ 1662 := by
   have := Nat.mul_le_mul_left (t + 4) h3
   omega
  have s1 : s ≤ 551 := by
   have := Nat.mul_le_mul_left (s + 4) h4
   omega
  have hm : dvN g (gcdP g (deP g)) ≤ 5 := by unfold dvN; omega
  have m1 : dvN g (gcdP g (deP g)) * t ≤ 5 * t := Nat.mul_le_mul_right _ hm
  have m2 : dvN g (gcdP g (deP g)) * (t + 1) ≤ 5 * (t + 1) := Nat.mul_le_mul_right _ hm
  obtain ⟨_, _, z⟩ := Qht (K := 20000) H Hg tgc (by omega)
  rw [e1] at z
  exact z.mono (by omega) (by omega)
end
end Go.AM

/- sturm.odd at k g. -/
namespace Go.AM
open Go Go.RowKit
variable [Its]
def OdR (f0 : List Rat) (out : List Rat) : Prop := Trm out ∧ out ≠ [] ∧ Dv out f0 ∧ HL 260000 260000 out
theorem gn_loop {e : Nat} (he : e ≤ 40) {f0 : List Rat} (tf0 : Trm f0) (f00 : f0 ≠ []) (nf0 : f0.length ≤ 6) : ∀ (n : Nat) (g out : List Rat) (s o : Nat) (k : Rat) (d1 d2 : D), g.length ≤ n → g.length ≤ 6 → Trm g → g ≠ [] → Mo g → HL s s g → (s + 4) * 3 ^ g.length ≤ 15000 → k ≠ 0 → H1 e e k → RwR d1 out → RwR d2 (scP g k) →
    Trm out → out ≠ [] → HL o o out → o + 84820 * (g.length / 2) ≤ 260000 → Dv (muP out (frP g)) f0 →
    ∃ d' out', RwR d' out' ∧ OdR f0 out' ∧ X G (.loop Qbh) (QmB d1 d2) = some (.x 0, mkS [(3, .d d')] [])
  | 0, g, out, s, o, k, d1, d2, hn, h6, tg, g0, mg, H, hs, k0, Hk, r1, r2, to, o0, Ho, ho, hd => absurd (List.eq_nil_of_length_eq_zero (by omega)) g0
  | n + 1, g, out, s, o, k, d1, d2, hn, h6, tg, g0, mg, H, hs, k0, Hk, r1, r2, to, o0, Ho, ho, hd => by
    have hBB : BB = 1000000000 := rfl
    have hl := List.length_pos_iff.2 g0
    have lr : (scP g k).length = g.length := Qk9 tg k0
    have dvo : Dv out f0 := by
      obtain ⟨c, hc⟩ := hd
      exact ⟨muP c (frP g), fun x => by rw [hc, QaF, QaF]; grind⟩
    by_cases h1 : g.length = 1
    · exact ⟨d1, out, r1, ⟨to, o0, dvo, Ho.mono (by omega) (by omega)⟩, by rw [Qak, od_stop r2 (by omega)]; rfl⟩
    · obtain ⟨ef, mf, mg1, ng1⟩ := Qml tg g0 mg
      have tf := QdL g
      have f0' := QfQ tg g0
      have tg1 : Trm (gcdP g (deP g)) := QcO
      have Hg1 := QiV tg H (by omega) (by omega)
      have lg1 := List.length_pos_iff.2 ng1
      have gd := (QcE tg (Qbf g)).2.2
      have gd1 := (QcE tg (Qbf g)).2.1
      have ld := Qek tg
      have dn : deP g ≠ [] := fun h0 => by rw [h0] at ld; simp only [List.length_nil] at ld; omega
      have lg2 := Qdg tg1 (Qbf g) dn gd
      have hc := pot_c (s := s) lg1 (show (gcdP g (deP g)).length < g.length by omega) hs
      have hs2 := pot_s (by omega) hs
      have ht2 := pot_s lg1 hc
      have ha : (s + 43) * 3 ^ g.length ≤ 14000000 := by
        have h3 : 3 ^ g.length ≤ 3 ^ 6 := Nat.pow_le_pow_right (by decide) h6
        have e1 : (s + 43) * 3 ^ g.length = (s + 4) * 3 ^ g.length + 39 * 3 ^ g.length := by rw [← Nat.add_mul]
        omega
      have Hf := gn_sz tg g0 mg H h6 hs
      have Hf1 := gn_sz tg1 ng1 mg1 Hg1 (by omega) hc
      have hb : ((s + 2) * 3 ^ g.length / 3 ^ (gcdP g (deP g)).length + 1 + 43) * 3 ^ (gcdP g (deP g)).length ≤ 14000000 := by
        have h3 : 3 ^ (gcdP g (deP g)).length ≤ 3 ^ 6 := Nat.pow_le_pow_right (by decide) (by omega)
        have e1 : ((s + 2) * 3 ^ g.length / 3 ^ (gcdP g (deP g)).length + 1 + 43) * 3 ^ (gcdP g (deP g)).length = ((s + 2) * 3 ^ g.length / 3 ^ (gcdP g (deP g)).length + 1 + 4) * 3 ^ (gcdP g (deP g)).length + 39 * 3 ^ (gcdP g (deP g)).length := by rw [← Nat.add_mul]
        omega
      generalize ht : (s + 2) * 3 ^ g.length / 3 ^ (gcdP g (deP g)).length + 1 = t at *
      generalize hG1 : gcdP g (deP g) = g1 at *
      obtain ⟨ef1, mf1, mg2, ng2⟩ := Qml tg1 ng1 mg1
      have tf1 := QdL g1
      have f10 := QfQ tg1 ng1
      have tg2 : Trm (gcdP g1 (deP g1)) := QcO
      have lg20 := List.length_pos_iff.2 ng2
      have dff : Dv (frP g1) (frP g) := fr_mono tg1 ng1 tg g0 gd1
      have Hr : HL (s + 41) (s + 41) (scP g k) := (H.sc Hk).mono (by omega) (by omega)
      have Hr1 : HL (t + 41) (t + 41) (scP g1 k) := (Hg1.sc Hk).mono (by omega) (by omega)
      have lr1 : (scP g1 k).length = g1.length := Qk9 tg1 k0
      have n1 : scP g k ≠ [] := Qrw tg g0 k0
      have n2 : scP g1 k ≠ [] := Qrw tg1 ng1 k0
      have lf : (frP g).length ≤ 6 := Nat.le_trans (Qdg tf tg g0 (Qir tg g0)) h6
      have lf1 : (frP g1).length ≤ 6 := Nat.le_trans (Qdg tf1 tg1 ng1 (Qir tg1 ng1)) (by omega)
      obtain ⟨a1, b1, c1⟩ := Qqk (Kg := 14000000) (N := g.length) r2 (Qg6 _ _) n1 Hr (by omega) (by omega) (by exact ha) (by
        have : g.length * (14000000 + 1) ≤ 6 * (14000000 + 1) := Nat.mul_le_mul_right _ (by omega)
        omega)
      rw [gn_fr tg g0 mg k0] at b1
      obtain ⟨a2, x1, b2, _, c2⟩ := QrX r2 b1 Hr Hf tf (by omega) (by omega) (by
        have : ((scP g k).length + 1) * (10600 + 1) ≤ 12 * (10600 + 1) := Nat.mul_le_mul_right _ (by omega)
        omega)
      rw [gn_quo tg g0 mg, hG1] at b2
      obtain ⟨a3, b3, c3⟩ := Qqk (Kg := 14000000) (N := g1.length) b2 (Qg6 _ _) n2 Hr1 (by omega) (by omega) (by exact hb) (by
        have : g1.length * (14000000 + 1) ≤ 6 * (14000000 + 1) := Nat.mul_le_mul_right _ (by omega)
        omega)
      rw [gn_fr tg1 ng1 mg1 k0] at b3
      obtain ⟨z1, _, _⟩ := gz7 (N := 6) (K := 150000000) (Hf.mono (Nat.le_refl _) (show 10600 ≤ 60001 by omega)) (Hf1.mono (Nat.le_refl _) (show 10600 ≤ 60001 by omega)) tf tf1 lf lf1 (by decide)
      obtain ⟨a4, b4, c4⟩ := QhF b1 b3 (by omega) (by omega) (K := 150000000) (by omega) (by omega) (Hf.sz.mono (by omega)) (Hf1.sz.mono (by omega)) z1
      rw [gn_gcd tf tf1 mf1 dff] at b4
      obtain ⟨a5, x2, b5, _, c5⟩ := QrX b1 b4 Hf Hf1 tf1 (by omega) (by omega) (by
        have : ((frP g).length + 1) * (10600 + 1) ≤ 12 * (10600 + 1) := Nat.mul_le_mul_right _ (by omega)
        omega)
      obtain ⟨qr, qe⟩ := Qla tf1 f10 dff
      have Honce : HL 84810 84810 (quoP (frP g) (frP g1)) := by
        have hm : dvN (frP g) (frP g1) ≤ 6 := by unfold dvN; have := List.length_pos_iff.2 f10; omega
        have m1 : dvN (frP g) (frP g1) * 10600 ≤ 6 * 10600 := Nat.mul_le_mul_right _ hm
        have m2 : dvN (frP g) (frP g1) * (10600 + 1) ≤ 6 * (10600 + 1) := Nat.mul_le_mul_right _ hm
        obtain ⟨_, _, z⟩ := Qht (K := 200000) Hf Hf1 tf1 (by omega)
        exact z.mono (by omega) (by omega)
      have t5 := Qf7 (frP g) (frP g1)
      have n5 : quoP (frP g) (frP g1) ≠ [] := fun h0 => by
        obtain ⟨y, hy⟩ := ev_ne tf f0'
        have := qe y
        rw [h0, QaD] at this
        grind
      have l5 := Qdg t5 tf f0' ⟨frP g1, fun x => by rw [qe]; grind⟩
      have lo := Qdg to tf0 f00 dvo
      obtain ⟨a6, b6, c6⟩ := Qhz (K := 300000) r1 b5 (Ho.sz.mono (by omega)) (Honce.sz.mono (by omega)) (by omega) (by
        have : (out.length + (quoP (frP g) (frP g1)).length) * (2 * 300000 + 1) ≤ 12 * (2 * 300000 + 1) := Nat.mul_le_mul_right _ (by omega)
        omega)
      obtain ⟨a7, x3, b7, _, c7⟩ := QrX b2 b3 Hr1 Hf1 tf1 (by omega) (by omega) (by
        have : ((scP g1 k).length + 1) * (10600 + 1) ≤ 12 * (10600 + 1) := Nat.mul_le_mul_right _ (by omega)
        omega)
      rw [gn_quo tg1 ng1 mg1] at b7
      have gX := od_goB (d1 := d1) r2 (by omega) (by omega) c1 c2 c3 c4 c5 c6 c7
      -- the next polynomial
      have dg2 : Dv (gcdP g1 (deP g1)) g1 := (QcE tg1 (Qbf g1)).2.1
      have nx2 : ∃ u, HL u u (gcdP g1 (deP g1)) ∧ (u + 4) * 3 ^ (gcdP g1 (deP g1)).length ≤ 15000 ∧ (gcdP g1 (deP g1)).length / 2 + 1 ≤ g.length / 2 ∧ (gcdP g1 (deP g1)).length ≤ n := by
        by_cases hq : g1.length = 1
        · have e1 : g1 = [1] := Qii mg1 hq
          have l2 := Qdg tg2 tg1 ng1 dg2
          have e2 : gcdP g1 (deP g1) = [1] := Qii mg2 (by omega)
          rw [e2]
          refine ⟨0, (HL.one H1.one).mono (by omega) (by omega), by decide, ?_, ?_⟩
          · simp only [List.length_cons, List.length_nil]; omega
          · simp only [List.length_cons, List.length_nil]; omega
        · have ld1 := Qek tg1
          have dn1 : deP g1 ≠ [] := fun h0 => by rw [h0] at ld1; simp only [List.length_nil] at ld1; omega
          have l2 := Qdg tg2 (Qbf g1) dn1 (QcE tg1 (Qbf g1)).2.2
          exact ⟨_, QiV tg1 Hg1 (by omega) (by omega), pot_c lg20 (by omega) hc, by omega, by omega⟩
      obtain ⟨u, Hu, hu, hlen, hln⟩ := nx2
      have dnext : Dv (muP (muP out (quoP (frP g) (frP g1))) (frP (gcdP g1 (deP g1)))) f0 := by
        obtain ⟨c, hc2⟩ := hd
        obtain ⟨w, hw⟩ := fr_mono tg2 ng2 tg1 ng1 dg2
        refine ⟨muP c w, fun x => ?_⟩
        have h1 := hc2 x
        have h2 := qe x
        have h3 := hw x
        simp only [QaF] at h1 ⊢
        rw [h1, h2, h3]
        grind
      obtain ⟨d', out', r', R', g'⟩ := gn_loop he tf0 f00 nf0 n (gcdP g1 (deP g1)) (muP out (quoP (frP g) (frP g1))) u (o + 84811) k a6 a7 hln (by omega) tg2 ng2 mg2 Hu hu k0 Hk b6 b7 (Qdx _ _) (mu_ne to t5 o0 n5) ((Ho.mu Honce (by omega)).mono (by omega) (by omega)) (by omega) dnext
      exact ⟨d', out', r', R', by rw [Qak, gX, Option.bind_some, if_pos rfl]; exact g'⟩
end Go.AM

/- sturm.odd: of a polynomial, of a square. Counting with its answer. -/
namespace Go.AM
open Go Go.RowKit
theorem Qo0 {p : List Rat} (tp : Trm p) (p0 : p ≠ []) : p.getD (p.length - 1) 0 ≠ 0 := tp (p.length - 1) (by have := List.length_pos_iff.2 p0; omega)
theorem mn_back {p : List Rat} (tp : Trm p) (p0 : p ≠ []) : p = scP (mnP p) (p.getD (p.length - 1) 0) := by
 refine Qc3 tp (Qg6 _ _) fun x => ?_
 have := Rat.inv_mul_cancel _ (Qo0 tp p0)
 rw [Qgm, ev_mn p0, Rat.div_def, Rat.one_mul]
 generalize p.getD (p.length - 1) 0 = c at *
 grind
theorem mn_sq {p : List Rat} (tp : Trm p) (p0 : p ≠ []) : muP p p = scP (muP (mnP p) (mnP p)) (p.getD (p.length - 1) 0 * p.getD (p.length - 1) 0) := by
 refine Qc3 (Qdx _ _) (Qg6 _ _) fun x => ?_
 have h : evR p x = evR (mnP p) x * p.getD (p.length - 1) 0 := by
  have : evR p x = evR (scP (mnP p) (p.getD (p.length - 1) 0)) x := by rw [← mn_back tp p0]
  rw [this, Qgm]
 rw [QaF, Qgm, QaF, h]; grind
theorem h1_mono {d h d' h' : Nat} {q : Rat} (H : H1 d h q) (hd : d ≤ d') (hh : h ≤ h') : H1 d' h' q := ((HL.one H).mono hd hh).getD 0
theorem h1_sq {d h : Nat} {c : Rat} (H : H1 d h c) : H1 (d + d) (h + h + 1) (c * c) := by
 have := ((HL.one H).mu (HL.one H) (by have : BB = 1000000000 := rfl; simp only [List.length_cons, List.length_nil]; omega)).getD 0
 have e : conv [c] [c] 0 = c * c := Qja (s := [c]) (q := [c]) (by simp) (by simp)
 rw [Qlq, e] at this
 exact this
theorem pot_6 {n : Nat} (h : n ≤ 6) : (16 + 4) * 3 ^ n ≤ 15000 := by
 have h3 : 3 ^ n ≤ 3 ^ 6 := Nat.pow_le_pow_right (by decide) h
 omega
variable [Its]
section
variable {dp d : D} {p : List Rat}
theorem odd_sq (hr : RwR d (muP p p)) (H : HL 10 16 p) (tp : Trm p) (np : p.length ≤ 6) (p0 : p ≠ []) : ∃ d', RwR d' [1] ∧ Qah G Qcr [d] = some (.d d') := by
 have c0 := Qo0 tp p0
 have Hc : H1 10 16 (p.getD (p.length - 1) 0) := H.getD _
 rw [mn_sq tp p0] at hr
 have lm := Qdp tp
 have m0 := mn_ne tp p0
 obtain ⟨d', r', g⟩ := sq_loop (e := 40) (by omega) 6 (mnP p) 16 (p.getD (p.length - 1) 0 * p.getD (p.length - 1) 0) (rowR [1]) d (by omega) (by omega) (QeW _) m0 (QoX tp) ((Qil H tp).mono (by omega) (by omega)) (pot_6 (by omega)) (fun h => by
  rcases Rat.mul_eq_zero.1 h with k | k <;> exact c0 k) (h1_mono (h1_sq Hc) (by omega) (by omega)) (.inr rfl) hr
 exact ⟨d', r', odd_end (g := [1]) g⟩
theorem odd_gn (hr : RwR d p) (H : HL 16 16 p) (tp : Trm p) (np : p.length ≤ 6) (p0 : p ≠ []) : ∃ d' out, RwR d' out ∧ OdR (frP (mnP p)) out ∧ Qah G Qcr [d] = some (.d d') := by
 have c0 := Qo0 tp p0
 have Hc : H1 16 16 (p.getD (p.length - 1) 0) := H.getD _
 have hr2 := hr
 rw [mn_back tp p0] at hr2
 have lm := Qdp tp
 have m0 := mn_ne tp p0
 have tm := QeW p
 have t1 : Trm [(1 : Rat)] := Qd1
 obtain ⟨d', out, r', R, g⟩ := gn_loop (e := 40) (by omega) (QdL (mnP p)) (QfQ tm m0) (Nat.le_trans (Qdg (QdL _) tm m0 (Qir tm m0)) (by omega)) 6 (mnP p) [1] 16 0 (p.getD (p.length - 1) 0) (rowR [1]) d (by omega) (by omega) tm m0 (QoX tp) ((Qil H tp).mono (by omega) (by omega)) (pot_6 (by omega)) c0 (h1_mono Hc (by omega) (by omega)) (.inr rfl) hr2 t1 (by simp) (HL.one H1.one) (by omega) (by rw [mu_1' (QdL _)]; exact Dv.refl _)
 exact ⟨d', out, r', R, odd_end (g := [1]) g⟩
theorem od_count [ItsB] {f0 out : List Rat} (hr : RwR d out) (R : OdR f0 out) (tf : Trm f0) (f00 : f0 ≠ []) (n6 : f0.length ≤ 6) (hf : gcdP f0 (deP f0) = [1]) {lo hi : Rat} (h1 : sz lo ≤ 1000) (h2 : sz hi ≤ 1000) : ∃ c : Int, -1000 ≤ c ∧ c ≤ 1000 ∧ (hi ≤ lo → c = 0) ∧ Qah G Qbq [d, encR lo, encR hi] = some (.d (iv c)) := by
 obtain ⟨to, o0, dv, H⟩ := R
 have hBB : BB = 1000000000 := rfl
 have lo6 : out.length ≤ 6 := Nat.le_trans (Qdg to tf f00 dv) n6
 have hg := sqf_gcd to o0 tf hf dv
 have hp := List.length_pos_iff.2 o0
 have l1 := Qdp to
 have l2 := Qdp (Qbf out)
 have ld := Qek to
 have h3 : 3 ^ out.length ≤ 3 ^ 6 := Nat.pow_le_pow_right (by decide) lo6
 have hd : HL 260001 260001 (deP out) := (H.de (by omega)).mono (by omega) (by omega)
 have h4 : (260001 + 1) * (dvN (mnP out) (mnP (deP out)) + 1) * 3 ^ (mnP (deP out)).length ≤ 190000000 := by
  rw [Nat.mul_assoc]
  have h5 : (dvN (mnP out) (mnP (deP out)) + 1) * 3 ^ (mnP (deP out)).length = 3 ^ out.length := by
   have e : dvN (mnP out) (mnP (deP out)) + 1 = 3 := by unfold dvN; omega
   rw [e, l2, ld, show out.length = (out.length - 1) + 1 by omega, Nat.pow_succ, Nat.add_sub_cancel, Nat.mul_comm]
  rw [h5]
  exact Nat.le_trans (Nat.mul_le_mul_left _ h3) (by decide)
 obtain ⟨g1, _, _⟩ := Qra (K := 190000000) ((deP out).length + 1) 260001 (mnP out) (mnP (deP out)) ((Qil H to).mono (by omega) (by omega)) (Qil hd (Qbf out)) (QeW _) (by omega) h4
 have H1' : HL 0 0 (gcdP out (deP out)) := by rw [hg]; exact HL.one H1.one
 have hm : dvN out (gcdP out (deP out)) ≤ 7 := by unfold dvN; omega
 have m2 : dvN out (gcdP out (deP out)) * (0 + 1) ≤ 7 * (0 + 1) := Nat.mul_le_mul_right _ hm
 obtain ⟨x, _, z⟩ := Qht (K := 300000) H H1' QcO (by omega)
 have fr := Qeg hr (by omega) (K := 190000001) (by omega) (by omega) (H.sz.mono (by omega)) (hd.sz.mono (by omega)) (Qkt (by omega) _ _ _ g1) (by rw [hg]; simp) (H1'.sz.mono (by omega)) (QhB (by omega) _ _ x) (z.sz.mono (by omega))
 have ef : frP out = mnP out := by unfold frP; rw [hg, quo_17 out to]
 have Hm : HL 260000 260000 (frP out) := by rw [ef]; exact Qil H to
 have lf : (frP out).length = out.length := by rw [ef, l1]
 have ldf := Qek (QdL out)
 have ck : ChOk 200000000 out.length (frP out) (deP (frP out)) ∧ ∀ q ∈ chL out.length (frP out) (deP (frP out)), SzL 200000000 q ∧ q.length ≤ (deP (frP out)).length := by
  refine ch_pot out.length 260001 (frP out) (deP (frP out)) (Hm.mono (by omega) (by omega)) ((Hm.de (by omega)).mono (by omega) (by omega)) (Qbf _) (by omega) (by omega) ?_
  rw [Nat.mul_assoc]
  have h5 : (dvN (frP out) (deP (frP out)) + 1) * 3 ^ (deP (frP out)).length = 3 ^ out.length := by
   have e : dvN (frP out) (deP (frP out)) + 1 = 3 := by unfold dvN; omega
   rw [e, ldf, lf, show out.length = (out.length - 1) + 1 by omega, Nat.pow_succ, Nat.add_sub_cancel, Nat.mul_comm]
  rw [h5]
  exact Nat.le_trans (Nat.mul_le_mul_left _ h3) (by decide)
 have hs : ∀ q ∈ chP out, SzL 200000000 q ∧ q.length ≤ 6 := fun q hq => by
  rw [chP, if_neg o0] at hq
  rcases List.mem_cons.1 hq with rfl | hq
  ·exact ⟨Hm.sz.mono (by omega), by omega⟩
  ·exact ⟨(ck.2 q hq).1, by have := (ck.2 q hq).2; omega⟩
 have cl : (chP out).length ≤ 7 := by
  rw [chP, if_neg o0, List.length_cons]; have := Qpg out.length (frP out) (deP (frP out)); omega
 have hC := Qgy (K := 200000000) o0 (by omega) fr (QfQ to o0) (by omega) (Hm.sz.mono (by omega)) ck.1 (by omega) (by omega)
 have g := QfJ hC (by omega) (fun q hq => ⟨(hs q hq).1, Nat.le_trans (Nat.mul_le_mul_right _ (hs q hq).2) (by decide)⟩) (lo := lo) (hi := hi) (by omega) (by omega) (by omega)
 unfold cnt at g
 refine ⟨_, ?_, ?_, fun h => if_pos h, g⟩
 ·have c1 : chg (chP out) hi ≤ 1000 := Nat.le_trans (Qmj _ _) (Nat.le_trans (Qoh _ hi) (by omega))
  split <;> omega
 ·have c1 : chg (chP out) lo ≤ 1000 := Nat.le_trans (Qmj _ _) (Nat.le_trans (Qoh _ lo) (by omega))
  split <;> omega
end
end Go.AM

/- sturm.Stays, with an answer that is not computed. -/
namespace Go.AM
open Go Go.RowKit
def mdl (lo hi : Rat) : Nat → Rat
 | 0 => hi
 | i + 1 => mid lo (mdl lo hi i)
theorem mdl_sz {lo hi : Rat} (h1 : sz lo ≤ 2) (h2 : sz hi ≤ 2) : ∀ i, sz (mdl lo hi i) ≤ 2 + 7 * i
 | 0 => by rw [mdl]; omega
 | i + 1 => by
  rw [mdl]
  have := Qn0 h1 (mdl_sz h1 h2 i)
  omega
theorem cmp_flag (c : Int) : (c == 0) = decide (c = 0) := by
 by_cases h : c = 0
 ·rw [decide_eq_true h]; exact QiL h
 ·rw [decide_eq_false h]; exact Qco h
variable [Its] [ItsB]
section
variable {dp : D} {p : List Rat}
theorem Qpu     (hr : RwR dp p) (sp : SzL 1000 p) (np : p.length ≤ 12) {lo hi : Rat} (h1 : sz lo ≤ 2) (h2 : sz hi ≤ 2) : ∀ (j i : Nat), i + j = p.length →
    (X G (.loop Qa9) (QeX dp lo (mdl lo hi i) p.length i) = some (.r, mkS [(6, ab false)] []) ∧ ∃ m, i < m ∧ m ≤ p.length ∧ evR p (mdl lo hi m) < 0) ∨
    (X G (.loop Qa9) (QeX dp lo (mdl lo hi i) p.length i) = some (.x 0, mkS [] []) ∧ ∀ m, i < m → m ≤ p.length → 0 ≤ evR p (mdl lo hi m))
  | 0, i, h => by
    right
    have : i = p.length := by omega
    subst this
    exact ⟨by rw [Qak, Qqc]; rfl, fun m a b => by omega⟩
  | j + 1, i, h => by
    have zx := mdl_sz h1 h2 i
    have g := QoA hr sp (by omega) (by omega) (z := lo) (x := mdl lo hi i) (by omega) (by omega) (by omega) (n := p.length) (i := i) (by omega) (by omega)
    have em : mid lo (mdl lo hi i) = mdl lo hi (i + 1) := rfl
    rw [em] at g
    by_cases k : evR p (mdl lo hi (i + 1)) < 0
    · left
      rw [if_pos k] at g
      exact ⟨by rw [Qak, g]; rfl, i + 1, by omega, by omega, k⟩
    · rw [if_neg k] at g
      rcases Qpu hr sp np h1 h2 j (i + 1) (by omega) with ⟨a, m, m1, m2, m3⟩ | ⟨a, b⟩
      · left
        exact ⟨by rw [Qak, g, Option.bind_some, if_pos rfl]; exact a, m, by omega, m2, m3⟩
      · right
        refine ⟨by rw [Qak, g, Option.bind_some, if_pos rfl]; exact a, fun m m1 m2 => ?_⟩
        by_cases e : m = i + 1
        · rw [e]; exact Rat.not_lt.1 k
        · exact b m (by omega) m2
def StT (p : List Rat) (lo hi : Rat) : Prop := hi < lo ∨ p = [] ∨ (0 ≤ evR p lo ∧ 0 ≤ evR p hi ∧ ∀ m, 0 < m → m ≤ p.length → 0 ≤ evR p (mdl lo hi m))
set_option maxHeartbeats 2000000 in
theorem QlY        (hr : RwR dp p) (sp : SzL 1000 p) (np : p.length ≤ 12) {lo hi : Rat} (h1 : sz lo ≤ 2) (h2 : sz hi ≤ 2)
    (hod : p ≠ [] → ∃ (dg : D) (out : List Rat) (c : Int), RwR dg out ∧ SzL 260001 out ∧ out.length ≤ 6 ∧ Qah G Qcr [dp] = some (.d dg) ∧ Qah G Qbq [dg, encR lo, encR hi] = some (.d (iv c)) ∧ -1000 ≤ c ∧ c ≤ 1000 ∧ (hi ≤ lo → c = 0)) :
    ∃ B : Bool, Qah G QaZ [dp, encR lo, encR hi] = some (.d (bv B)) ∧ (B = true → StT p lo hi) ∧ (hi ≤ lo ∨ p = [] → StT p lo hi → B = true) := by
  have g := QcP (a := lo) (b := hi) (by omega) (by omega)
  have t := Qk7 (a := lo) (b := hi)
  have hl := hr.len
  have c1 := hr.one
  have c2 := hr.cells
  have c3 := hr.dc
  have c4 := hr.dcl
  by_cases hlt : hi < lo
  · refine ⟨true, ?_, fun _ => .inl hlt, fun _ _ => rfl⟩
    rw [Qad (cf := QaS) rfl]
    rw [decide_eq_true hlt] at t
    clear sp hod
    generalize cmpR lo hi = c at *
    simp only [encR, iv] at g
    simp -implicitDefEqProofs (maxSteps:=9^8) only [QaS, encR, g, t, hl, c1, c2, c3, c4, toDs, allD, snap, Qb3, Qaa, Qab, ld4q, decide_true, decide_false, tupS, Qac, go_sem, iv, bv, reduceCtorEq, ↓reduceIte, Nat.reduceEqDiff]
  · rw [decide_eq_false hlt] at t
    by_cases hp0 : p = []
    · refine ⟨true, ?_, fun _ => .inr (.inl hp0), fun _ _ => rfl⟩
      rw [Qad (cf := QaS) rfl]
      have t2 : ((p.length : Int) == 0) = true := by rw [hp0]; rfl
      clear sp hod
      generalize cmpR lo hi = c at *
      simp only [encR, iv] at g
      simp -implicitDefEqProofs (maxSteps:=9^8) only [QaS, encR, g, t, t2, hl, c1, c2, c3, c4, toDs, allD, snap, Qb3, Qaa, Qab, ld4q, decide_true, decide_false, tupS, Qac, go_sem, iv, bv, reduceCtorEq, ↓reduceIte, Nat.reduceEqDiff]
    · have t2 : ((p.length : Int) == 0) = false := Qco (by have := List.length_pos_iff.2 hp0; omega)
      have g0 := Qec hr (x := lo) (K := 1000) (by omega) (by omega) sp (by omega)
      have g1 := Qec hr (x := hi) (K := 1000) (by omega) (by omega) sp (by omega)
      by_cases k0 : evR p lo < 0
      · exact ⟨false, QlN        hr sp (by omega) (by omega) hp0 (Rat.not_lt.1 hlt) (by omega) (by omega) k0, (fun h => by cases h), fun _ h => by
          rcases h with h | h | h
          · exact absurd h hlt
          · exact absurd h hp0
          · exact absurd k0 (Rat.not_lt.2 h.1)⟩
      · by_cases k1 : evR p hi < 0
        · refine ⟨false, ?_, (fun h => by cases h), fun _ h => by
            rcases h with h | h | h
            · exact absurd h hlt
            · exact absurd h hp0
            · exact absurd k1 (Rat.not_lt.2 h.2.1)⟩
          rw [Qad (cf := QaS) rfl]
          rw [decide_eq_false k0] at g0
          rw [decide_eq_true k1] at g1
          clear sp hod
          generalize cmpR lo hi = c at *
          simp only [encR, iv] at g g0 g1
          simp -implicitDefEqProofs (maxSteps:=9^8) only [QaS, encR, g, g0, g1, t, t2, hl, c1, c2, c3, c4, toDs, allD, snap, Qb3, Qaa, Qab, ld4q, decide_true, decide_false, tupS, Qac, go_sem, iv, bv, reduceCtorEq, ↓reduceIte, Nat.reduceEqDiff]
        · obtain ⟨dg, out, n, rg, so, lo6, g2, g3, n1, n2, n3⟩ := hod hp0
          have gE := QkO (x := hi) (K := 260001) rg (by omega) (by omega) so (by
            have : out.length * (2 * 260001 + 1) ≤ 6 * (2 * 260001 + 1) := Nat.mul_le_mul_right _ lo6
            omega)
          have gS := Qcp (evR out hi)
          generalize Int.sign (evR out hi).num = sg at *
          generalize evR out hi = v at *
          have lp := Qpu hr sp np h1 h2 p.length 0 (by omega)
          have e0 : mdl lo hi 0 = hi := rfl
          have z0 : ((0 : Nat) : Int) = 0 := rfl
          rw [e0, z0] at lp
          rw [decide_eq_false k0] at g0
          rw [decide_eq_false k1] at g1
          have hm : w64 (n - 1) = n - 1 := Qaf (by omega) (by omega)
          have key : ∀ B : Bool, (X G (.loop Qa9) (QeX dp lo hi p.length 0) = some (if B then .x 0 else .r, if B then mkS [] [] else mkS [(6, ab false)] [])) → ∃ C : Bool, Qah G QaZ [dp, encR lo, encR hi] = some (.d (bv C)) ∧ (C = true → B = true) ∧ (n ≤ 0 → B = true → C = true) := by
            intro B hB
            rw [Qad (cf := QaS) rfl]
            have q := cmp_flag sg
            clear sp hod so lp
            generalize cmpR lo hi = c at *
            obtain ⟨n', hn'⟩ : ∃ n' : Int, n - 1 = n' := ⟨_, rfl⟩
            have hm : w64 (n - 1) = n' := hm.trans hn'
            clear hn'
            simp only [encR, iv] at g g0 g1 g3 gE gS
            by_cases kn : n > 0
            · have d1 : decide (n > 0) = true := decide_eq_true kn
              by_cases ks : sg = 0
              · rw [decide_eq_true ks] at q
                by_cases kn' : n' > 0
                · have d2 : decide (n' > 0) = true := decide_eq_true kn'
                  exact ⟨false, by simp -implicitDefEqProofs (maxSteps:=9^8) only [QaS, encR, g, g0, g1, g2, g3, gE, gS, q, hm, d1, d2, t, t2, hl, c1, c2, c3, c4, toDs, allD, snap, Qb3, Qaa, Qab, st4q, ld4q, decide_true, decide_false, tupS, Qac, go_sem, iv, bv, reduceCtorEq, ↓reduceIte, Nat.reduceEqDiff], (fun h => by cases h), fun h => absurd kn (by omega)⟩
                · have d2 : decide (n' > 0) = false := decide_eq_false kn'
                  cases B with
                  | true =>
                    simp only [QeX, boxR, if_true, go_sem] at hB
                    exact ⟨true, by simp -implicitDefEqProofs (maxSteps:=9^8) only [QaS, encR, g, g0, g1, g2, g3, gE, gS, q, hm, hB, d1, d2, t, t2, hl, c1, c2, c3, c4, toDs, allD, snap, Qb3, Qaa, Qab, st4q, ld4q, decide_true, decide_false, tupS, Qac, go_sem, iv, bv, reduceCtorEq, ↓reduceIte, Nat.reduceEqDiff], fun _ => rfl, fun _ _ => rfl⟩
                  | false =>
                    simp only [QeX, boxR, Bool.false_eq_true, if_false, go_sem] at hB
                    exact ⟨false, by simp -implicitDefEqProofs (maxSteps:=9^8) only [QaS, encR, g, g0, g1, g2, g3, gE, gS, q, hm, hB, d1, d2, t, t2, hl, c1, c2, c3, c4, toDs, allD, snap, Qb3, Qaa, Qab, st4q, ld4q, decide_true, decide_false, tupS, Qac, go_sem, iv, bv, reduceCtorEq, ↓reduceIte, Nat.reduceEqDiff], fun h => h, fun _ h => h⟩
              · rw [decide_eq_false ks] at q
                exact ⟨false, by simp -implicitDefEqProofs (maxSteps:=9^8) only [QaS, encR, g, g0, g1, g2, g3, gE, gS, q, hm, d1, t, t2, hl, c1, c2, c3, c4, toDs, allD, snap, Qb3, Qaa, Qab, st4q, ld4q, decide_true, decide_false, tupS, Qac, go_sem, iv, bv, reduceCtorEq, ↓reduceIte, Nat.reduceEqDiff], (fun h => by cases h), fun h => absurd kn (by omega)⟩
            · have d1 : decide (n > 0) = false := decide_eq_false kn
              cases B with
              | true =>
                simp only [QeX, boxR, if_true, go_sem] at hB
                exact ⟨true, by simp -implicitDefEqProofs (maxSteps:=9^8) only [QaS, encR, g, g0, g1, g2, g3, gE, gS, q, hm, hB, d1, t, t2, hl, c1, c2, c3, c4, toDs, allD, snap, Qb3, Qaa, Qab, st4q, ld4q, decide_true, decide_false, tupS, Qac, go_sem, iv, bv, reduceCtorEq, ↓reduceIte, Nat.reduceEqDiff], fun _ => rfl, fun _ _ => rfl⟩
              | false =>
                simp only [QeX, boxR, Bool.false_eq_true, if_false, go_sem] at hB
                exact ⟨false, by simp -implicitDefEqProofs (maxSteps:=9^8) only [QaS, encR, g, g0, g1, g2, g3, gE, gS, q, hm, hB, d1, t, t2, hl, c1, c2, c3, c4, toDs, allD, snap, Qb3, Qaa, Qab, st4q, ld4q, decide_true, decide_false, tupS, Qac, go_sem, iv, bv, reduceCtorEq, ↓reduceIte, Nat.reduceEqDiff], fun h => h, fun _ h => h⟩
          rcases lp with ⟨a, m, m1, m2, m3⟩ | ⟨a, b⟩
          · obtain ⟨C, hC, hB, _⟩ := key false a
            refine ⟨C, hC, (fun h => by have := hB h; cases this), fun _ h => ?_⟩
            rcases h with h | h | h
            · exact absurd h hlt
            · exact absurd h hp0
            · exact absurd m3 (Rat.not_lt.2 (h.2.2 m m1 m2))
          · obtain ⟨C, hC, hB, hD⟩ := key true a
            exact ⟨C, hC, fun h => .inr (.inr ⟨Rat.not_lt.1 k0, Rat.not_lt.1 k1, b⟩), fun h _ => hD (by
              rcases h with h | h
              · have := n3 h; omega
              · exact absurd h hp0) rfl⟩
end
end Go.AM

namespace Go.Proofs.YtbbemgfheagobaaGreat.Pure
open Go Go.AM
theorem Qmf : ∀ (zs : List Rat) (p : List Rat), Trm p → zs.Pairwise (· > ·) → (∀ z ∈ zs, evR p z = 0) → p.length ≤ zs.length → p = []
 | [], p, tp, hs, hz, hl => List.eq_nil_of_length_eq_zero (by simpa using hl)
 | z :: zs, p, tp, hs, hz, hl => by
  have h0 := hz z List.mem_cons_self
  have ef : ∀ x, evR p x = (x - z) * evR (syn p z) x := fun x => by rw [QjK p z x, h0]; grind
  have et : ∀ x, evR p x = (x - z) * evR (QbL (syn p z)) x := fun x => by rw [QcG, ef]
  have hr := Qmf zs (QbL (syn p z)) (Qb7 _) (List.Pairwise.of_cons hs) (fun w hw => by
   have h1 := hz w (List.mem_cons_of_mem _ hw)
   have h2 := List.rel_of_pairwise_cons hs hw
   rw [et] at h1
   rcases Rat.mul_eq_zero.1 h1 with k | k
   ·grind
   ·exact k) (by
   have := Qeq (syn p z)
   rw [Qm7] at this
   rw [List.length_cons] at hl
   omega)
  exact Qif tp fun x => by rw [et, hr, QaD]; grind
theorem mdl_gt {lo hi : Rat} (h : lo < hi) : ∀ i, lo < mdl lo hi i
 | 0 => h
 | i + 1 => by
  have := mdl_gt h i
  rw [mdl]; unfold mid
  have e : Rat.divInt 1 2 = 1 / 2 := by decide +kernel
  rw [e]; grind
theorem mdl_lt {lo hi : Rat} (h : lo < hi) (i : Nat) : mdl lo hi (i + 1) < mdl lo hi i := by
 have := mdl_gt h i
 rw [mdl]; unfold mid
 have e : Rat.divInt 1 2 = 1 / 2 := by decide +kernel
 rw [e]; grind
theorem mdl_eq (lo : Rat) : ∀ i, mdl lo lo i = lo
 | 0 => rfl
 | i + 1 => by
  rw [mdl, mdl_eq lo i]; unfold mid
  have e : Rat.divInt 1 2 = 1 / 2 := by decide +kernel
  rw [e]; grind
theorem mdl_list {lo hi : Rat} (h : lo < hi) : ∀ n i, ((List.range n).map fun k => mdl lo hi (i + k)).Pairwise (· > ·) := by
 have anti : ∀ j i, mdl lo hi (i + j + 1) < mdl lo hi i := by
  intro j
  induction j with
  | zero => intro i; exact mdl_lt h i
  | succ j ih =>
   intro i
   have h1 := mdl_lt h (i + j + 1)
   have h2 := ih i
   have e : i + (j + 1) + 1 = i + j + 1 + 1 := by omega
   rw [e]; grind
 intro n i
 rw [List.pairwise_map]
 refine List.Pairwise.imp (R := (· < ·)) (fun {a b} hab => ?_) List.pairwise_lt_range
 have := anti (b - a - 1) (i + a)
 rw [show i + a + (b - a - 1) + 1 = i + b by omega] at this
 exact this
theorem both_st {p : List Rat} (tp : Trm p) {lo hi : Rat} (h1 : StT p lo hi) (h2 : StT (scP p (-1)) lo hi) : p = [] ∨ hi < lo ∨ (lo = hi ∧ evR p lo = 0) := by
 by_cases p0 : p = []
 ·exact .inl p0
 by_cases hl : hi < lo
 ·exact .inr (.inl hl)
 have n0 : scP p (-1) ≠ [] := Qrw tp p0 (by decide)
 have ln := Qk9 (f := -1) tp (by decide)
 obtain ⟨a1, a2, a3⟩ := (h1.resolve_left hl).resolve_left p0
 obtain ⟨b1, b2, b3⟩ := (h2.resolve_left hl).resolve_left n0
 rw [Qgm] at b1 b2
 have z1 : evR p lo = 0 := by grind
 by_cases he : lo = hi
 ·exact .inr (.inr ⟨he, z1⟩)
 have hlt : lo < hi := by grind
 exfalso
 have hz := Qmf _ p tp (mdl_list hlt p.length 0) (fun z hz => by
  obtain ⟨k, hk, rfl⟩ := List.mem_map.1 hz
  have hk := List.mem_range.1 hk
  by_cases k0 : k = 0
  ·subst k0
   show evR p hi = 0
   grind
  ·have c1 := a3 (0 + k) (by omega) (by omega)
   have c2 := b3 (0 + k) (by omega) (by omega)
   rw [Qgm] at c2
   grind) (by simp)
 exact p0 hz
theorem cnt_one (lo hi : Rat) : cnt (chP [1]) lo hi = 0 := by
 have e : chP [1] = [[1]] := by
  rw [chP, if_neg (by simp), fr_11]
  have : deP [1] = [] := List.eq_nil_of_length_eq_zero (by rw [Qek Qd1]; rfl)
  show [1] :: chL 1 [1] (deP [1]) = _
  rw [this]; rfl
 have c : ∀ x, chg [[1]] x = 0 := fun x => by rw [Qit _ _ _ (by rw [Qei]; decide)]; rfl
 rw [e]
 unfold cnt
 rw [c, c]
 split <;> rfl
section
variable {dp : D} {p : List Rat} {lo hi : Rat}
theorem gen_st (hr : RwR dp p) (H : HL 16 16 p) (tp : Trm p) (np : p.length ≤ 6) (h1 : sz lo ≤ 2) (h2 : sz hi ≤ 2) : ∃ B : Bool, Qah G QaZ [dp, encR lo, encR hi] = some (.d (bv B)) ∧ (B = true → StT p lo hi) ∧ (hi ≤ lo ∨ p = [] → StT p lo hi → B = true) := by
 refine QlY hr (H.sz.mono (by omega)) (by omega) h1 h2 fun p0 => ?_
 have m0 := mn_ne tp p0
 have tm := QeW p
 obtain ⟨dg, out, rg, R, g⟩ := odd_gn hr H tp np p0
 have tf := QdL (mnP p)
 have f0 := QfQ tm m0
 have n6 : (frP (mnP p)).length ≤ 6 := by
  have := Qdg tf tm m0 (Qir tm m0)
  have := Qdp tp
  omega
 obtain ⟨c, c1, c2, c3, gc⟩ := od_count rg R tf f0 n6 (Qkk tm m0) (lo := lo) (hi := hi) (by omega) (by omega)
 exact ⟨dg, out, c, rg, R.2.2.2.sz.mono (by omega), Nat.le_trans (Qdg R.1 tf f0 R.2.2.1) n6, g, gc, c1, c2, c3⟩
theorem sq_st (hr : RwR dp (muP p p)) (H : HL 10 16 p) (tp : Trm p) (np : p.length ≤ 6) (h1 : sz lo ≤ 2) (h2 : sz hi ≤ 2) : Qah G QaZ [dp, encR lo, encR hi] = some (.d (bv true)) := by
  have hBB : BB = 1000000000 := rfl
  have Hs := H.mu H (by omega)
  have ls := QqO p p
  have nn : ∀ x, 0 ≤ evR (muP p p) x := fun x => by
    rw [QaF]
    by_cases hc : 0 ≤ evR p x
    · exact Rat.mul_nonneg hc hc
    · have := Rat.mul_nonneg (a := -evR p x) (b := -evR p x) (by grind) (by grind); grind
  have od : muP p p ≠ [] → ∃ (dg : D), RwR dg [1] ∧ Qah G Qcr [dp] = some (.d dg) ∧ Qah G Qbq [dg, encR lo, encR hi] = some (.d (iv 0)) := fun s0 => by
    have p0 : p ≠ [] := fun h => s0 (by rw [h]; exact Qif (Qdx _ _) fun x => by rw [QaF, QaD]; grind)
    obtain ⟨dg, rg, g⟩ := odd_sq hr H tp np p0
    have gc := sCount6 rg ((HL.one H1.one).mono (by omega) (by omega)) Qd1 (by simp) (lo := lo) (hi := hi) (by omega) (by omega)
    rw [cnt_one] at gc
    exact ⟨dg, rg, g, gc⟩
  by_cases hc : hi ≤ lo ∨ muP p p = []
  · obtain ⟨B, hB, _, h3⟩ := QlY        hr (Hs.sz.mono (by omega)) (by omega) h1 h2 fun s0 => by
      obtain ⟨dg, rg, g, gc⟩ := od s0
      exact ⟨dg, [1], 0, rg, fun x hx => by rw [List.mem_singleton.1 hx, QjJ]; omega, by simp, g, gc, by omega, by omega, fun _ => rfl⟩
    rw [h3 hc (.inr (.inr ⟨nn _, nn _, fun m _ _ => nn _⟩))] at hB
    exact hB
  · have s0 : muP p p ≠ [] := fun h => hc (.inr h)
    obtain ⟨dg, rg, g, gc⟩ := od s0
    rcases Qpu hr (Hs.sz.mono (by omega)) (by omega) h1 h2 (muP p p).length 0 (by omega) with ⟨_, m, _, _, h⟩ | ⟨lp, _⟩
    · exact absurd h (Rat.not_lt.2 (nn _))
    · exact Qlw (K := 1000) hr (Hs.sz.mono (by omega)) (by omega) (by omega) s0 (Rat.not_lt.1 fun h => hc (.inl (Rat.le_of_lt h))) (by omega) (by omega) (nn _) (nn _) g gc lp
end
set_option maxHeartbeats 2000000 in
theorem SturmSquares (e0 : D) (l0 : List Int) (hd0 : Dg e0 l0) (hwf0 : ∀ n ∈ l0, (Lit.int .i64 n).wf = true) (hlen0 : l0.length * 8 ≤ 140737488351232) (a1 : Int) (w1 : (Lit.int .i64 a1).wf = true) (a2 : Int) (w2 : (Lit.int .i64 a2).wf = true) : Qah G 6 [e0, iv a1, iv a2] = some (.d (bv true)) := by
 obtain ⟨dp, p, hp, tp, Hp, np, gp⟩ := Poly_spec (rw_dg hd0) (fun n hn => i64_wf (hwf0 n hn))
 have g1 := Qe6 (i64_wf w1)
 have g2 := Qe6 (i64_wf w2)
 have z1 := smR_sz a1
 have z2 := smR_sz a2
 generalize smR a1 = lo at *
 generalize smR a2 = hi at *
 obtain ⟨ds, hs, gM⟩ := Qhz (K := 17) hp hp (Hp.sz.mono (by omega)) (Hp.sz.mono (by omega)) (by omega) (by
  have : (p.length + p.length) * (2 * 17 + 1) ≤ 12 * (2 * 17 + 1) := Nat.mul_le_mul_right _ (by omega)
  omega)
 have gS := sq_st hs Hp tp np z1 z2
 obtain ⟨B1, gB, t1, u1⟩ := gen_st hp (Hp.mono (by omega) (by omega)) tp np z1 z2
 obtain ⟨dn, hn, gN⟩ := Qhw (a := -1) (K := 100) hp (Hp.sz.mono (by omega)) (Nat.le_trans sz_m1 (by omega)) (by omega) (by omega) (by omega)
 have lnn := QnD p (-1)
 obtain ⟨B2, gB2, t2, u2⟩ := gen_st hn ((sc_HL Hp).mono (by omega) (by omega)) (Qg6 _ _) (by omega) z1 z2
 have gn := QdP (n := -1) i64_m1
 rw [show (((-1 : Int)) : Rat) = -1 from rfl] at gn
 have gC := Qkd (a := lo) (b := hi) (by omega) (by omega)
 have tc := cmpR_eq (a := lo) (b := hi)
 have tg := Qk7 (a := lo) (b := hi)
 have gE := Qpe hp (Hp.sz.mono (show max 10 16 + 1 ≤ 100 by omega)) (by omega) (by omega) (by omega) (x := lo) (by omega)
 have ze := evR_sz (x := lo) (K := 100) (by omega) p (fun q hq => Nat.le_trans (Hp.sz q hq) (by omega))
 have zb : p.length * (2 * 100 + 1) ≤ 6 * (2 * 100 + 1) := Nat.mul_le_mul_right _ np
 have gG := QgD (a := evR p lo) (by omega)
 have ts := sign_eq0 (x := evR p lo)
 have ll := hp.len
 have lv := lives7
 have hcond : (p = [] ∨ hi < lo ∨ (lo = hi ∧ evR p lo = 0)) ↔ (B1 = true ∧ B2 = true) := by
  constructor
  ·intro h
   have k : hi ≤ lo ∨ p = [] := by
    rcases h with h | h | h
    ·exact .inr h
    ·exact .inl (Rat.le_of_lt h)
    ·exact .inl (by rw [h.1]; exact Rat.le_refl)
   have en : p = [] → scP p (-1) = [] := fun h => by rw [h]; rfl
   refine ⟨u1 k ?_, u2 (k.imp id en) ?_⟩
   ·rcases h with h | h | ⟨h, h3⟩
    ·exact .inr (.inl h)
    ·exact .inl h
    ·subst h
     exact .inr (.inr ⟨by rw [h3]; exact Rat.le_refl, by rw [h3]; exact Rat.le_refl, fun m _ _ => by rw [mdl_eq, h3]; exact Rat.le_refl⟩)
   ·rcases h with h | h | ⟨h, h3⟩
    ·exact .inr (.inl (en h))
    ·exact .inl h
    ·subst h
     have h4 : evR (scP p (-1)) lo = 0 := by rw [Qgm, h3]; grind
     exact .inr (.inr ⟨by rw [h4]; exact Rat.le_refl, by rw [h4]; exact Rat.le_refl, fun m _ _ => by rw [mdl_eq, h4]; exact Rat.le_refl⟩)
  ·intro h
   exact both_st tp (t1 h.1) (t2 h.2)
 have f1 : ((p.length : Int) == 0) = decide (p = []) := by
  by_cases h : p = []
  ·rw [decide_eq_true h, h]; rfl
  ·rw [decide_eq_false h]; exact Qco (by have := List.length_pos_iff.2 h; omega)
 have f2 : (cmpR lo hi == 0) = decide (lo = hi) := by
  by_cases h : lo = hi
  ·rw [decide_eq_true h]; exact QiL (tc.2 h)
  ·rw [decide_eq_false h]; exact Qco (fun h2 => h (tc.1 h2))
 have bt2 : (true == true) = true := rfl
 have bf2 : (false == false) = true := rfl
 rw [Qad (cf := Qaq) rfl]
 clear Hp hp hs hn t1 t2 u1 u2 ze zb tc tp
 generalize cmpR lo hi = c at *
 generalize evR p lo = v at *
 generalize Int.sign v.num = sg at *
 generalize (-1 : Rat) = m1 at *
 simp only [encR, iv, bv] at g1 g2 gS gB gB2 gn gN gC gE gG lv
 by_cases hb : B1 = true ∧ B2 = true
 ·have hc := hcond.2 hb
  obtain ⟨rfl, rfl⟩ := hb
  by_cases k1 : p = []
  ·rw [decide_eq_true k1] at f1
   by_cases k3 : lo = hi
   ·rw [decide_eq_true k3] at f2
    simp -implicitDefEqProofs (maxSteps:=9^8) only [Qaq, gp, g1, g2, gM, gS, gB, gn, gN, gB2, gC, gE, gG, f1, f2, ts, lv, ll, st4q, ld4q, tupS, bt2, bf2, decide_true, decide_false, Bool.false_eq_true, if_false, Qac, go_sem, iv, bv, reduceCtorEq, ↓reduceIte, Nat.reduceEqDiff]
   ·rw [decide_eq_false k3] at f2
    simp -implicitDefEqProofs (maxSteps:=9^8) only [Qaq, gp, g1, g2, gM, gS, gB, gn, gN, gB2, gC, gE, gG, f1, f2, ts, lv, ll, st4q, ld4q, tupS, bt2, bf2, decide_true, decide_false, Bool.false_eq_true, if_false, Qac, go_sem, iv, bv, reduceCtorEq, ↓reduceIte, Nat.reduceEqDiff]
  ·rw [decide_eq_false k1] at f1
   by_cases k2 : hi < lo
   ·rw [decide_eq_true k2] at tg
    rw [decide_eq_false (fun h => by rw [h] at k2; exact Rat.lt_irrefl k2)] at f2
    simp -implicitDefEqProofs (maxSteps:=9^8) only [Qaq, gp, g1, g2, gM, gS, gB, gn, gN, gB2, gC, gE, gG, f1, f2, tg, ts, lv, ll, st4q, ld4q, tupS, bt2, bf2, decide_true, decide_false, Bool.false_eq_true, if_false, Qac, go_sem, iv, bv, reduceCtorEq, ↓reduceIte, Nat.reduceEqDiff]
   ·obtain ⟨k3, k4⟩ := (hc.resolve_left k1).resolve_left k2
    rw [decide_eq_false k2] at tg
    rw [decide_eq_true k3] at f2
    rw [decide_eq_true k4] at ts
    simp -implicitDefEqProofs (maxSteps:=9^8) only [Qaq, gp, g1, g2, gM, gS, gB, gn, gN, gB2, gC, gE, gG, f1, f2, tg, ts, lv, ll, st4q, ld4q, tupS, bt2, bf2, decide_true, decide_false, Bool.false_eq_true, if_false, Qac, go_sem, iv, bv, reduceCtorEq, ↓reduceIte, Nat.reduceEqDiff]
 ·have hc := fun h => hb (hcond.1 h)
  have k1 : p ≠ [] := fun h => hc (.inl h)
  have k2 : ¬ hi < lo := fun h => hc (.inr (.inl h))
  rw [decide_eq_false k1] at f1
  rw [decide_eq_false k2] at tg
  have hts : lo = hi → (sg == 0) = false := fun h => by
   rw [ts]; exact decide_eq_false fun h2 => hc (.inr (.inr ⟨h, h2⟩))
  clear ts hc hcond
  by_cases k3 : lo = hi
  ·rw [decide_eq_true k3] at f2
   have ts := hts k3
   cases B1 with
   | false => simp -implicitDefEqProofs (maxSteps:=9^8) only [Qaq, gp, g1, g2, gM, gS, gB, gn, gN, gB2, gC, gE, gG, f1, f2, tg, ts, lv, ll, st4q, ld4q, tupS, bt2, bf2, decide_true, decide_false, Bool.false_eq_true, if_false, Qac, go_sem, iv, bv, reduceCtorEq, ↓reduceIte, Nat.reduceEqDiff]
   | true =>
    have : B2 = false := by cases B2 with
     | false => rfl
     | true => exact absurd ⟨rfl, rfl⟩ hb
    subst this
    simp -implicitDefEqProofs (maxSteps:=9^8) only [Qaq, gp, g1, g2, gM, gS, gB, gn, gN, gB2, gC, gE, gG, f1, f2, tg, ts, lv, ll, st4q, ld4q, tupS, bt2, bf2, decide_true, decide_false, Bool.false_eq_true, if_false, Qac, go_sem, iv, bv, reduceCtorEq, ↓reduceIte, Nat.reduceEqDiff]
  ·rw [decide_eq_false k3] at f2
   cases B1 with
   | false => simp -implicitDefEqProofs (maxSteps:=9^8) only [Qaq, gp, g1, g2, gM, gS, gB, gn, gN, gB2, gC, gE, gG, f1, f2, tg, lv, ll, st4q, ld4q, tupS, bt2, bf2, decide_true, decide_false, Bool.false_eq_true, if_false, Qac, go_sem, iv, bv, reduceCtorEq, ↓reduceIte, Nat.reduceEqDiff]
   | true =>
    have : B2 = false := by cases B2 with
     | false => rfl
     | true => exact absurd ⟨rfl, rfl⟩ hb
    subst this
    simp -implicitDefEqProofs (maxSteps:=9^8) only [Qaq, gp, g1, g2, gM, gS, gB, gn, gN, gB2, gC, gE, gG, f1, f2, tg, lv, ll, st4q, ld4q, tupS, bt2, bf2, decide_true, decide_false, Bool.false_eq_true, if_false, Qac, go_sem, iv, bv, reduceCtorEq, ↓reduceIte, Nat.reduceEqDiff]
end Go.Proofs.YtbbemgfheagobaaGreat.Pure

/- The row of SturmSquares, out of its Pure. Printed by row.py. -/
namespace Go.Proofs.YtbbemgfheagobaaGreat.sturmSquares
open Go.ChangeShapes Go.WideShapes Go.ChangeAt Go.RowKit Go.AM
theorem own : ownKnob Tryz.prog.godebug = none := by kernel_rfl
theorem laidOut : laidOutB Tryz.prog = true := by kernel_rfl
set_option maxRecDepth 100000 in
theorem lifted (os : Os) (started : os.Started) (H : Type) (enc : TypeId × Value → H) :
    ReturnsInHanded {} Tryz.checked os 6 .any (Rows.sturmSquaresSpec.pre6 enc Tryz.prog Tryz.f6 Rows.sturmSquaresRow.domain false) (Rows.sturmSquaresSpec.post enc Tryz.prog Tryz.f6 false true false false) := by
  refine returnsInHanded_of_change_sized (C := Tryz.checked) own started (by kernel_rfl) Tryz.func6
    (ChangeSpec.witness6 (enc := enc) (C := Tryz.checked) false ⟨#[], #[.slice none 0 0, .int .i64 0, .int .i64 0], []⟩ 8 (by kernel_rfl) (by kernel_rfl) (by kernel_rfl) (by kernel_rfl)) ?_
  intro W base args ds gs before hval0 hW hcnd hsz0 _
  have hsz : (DataW.weightsEach Tryz.prog (Tryz.f6.params.toList ++ Rows.sturmSquaresSpec.plain.varTypes Tryz.prog) (ds ++ gs)).all (· ≤ reachBytes) = true := hsz0
  have hval : ∀ (j : Nat) t v, Tryz.f6.params[j]? = some t → args[j]? = some v → Value.okWide Tryz.prog W .any base t v := hval0
  have hW' := hW
  obtain ⟨p, q, hA0, hV, rfl, hfz, hnd⟩ := hW
  have hA : DataW.TrodAll enc Tryz.prog W 0 (fun _ => true) true Tryz.f6.params.toList args.toList ds p := hA0
  rw [Tryz.params6] at hA hval hsz
  obtain ⟨v0, vs0, d0, ds0, p0, q0, hargs, rfl, rfl, h0, r0⟩ := trodAll_cons hA
  obtain ⟨v1, vs1, d1, ds1, p1, q1, rfl, rfl, rfl, h1, r1⟩ := trodAll_cons r0
  obtain ⟨v2, vs2, d2, ds2, p2, q2, rfl, rfl, rfl, h2, r2⟩ := trodAll_cons r1
  obtain ⟨rfl, rfl, rfl⟩ := trodAll_nil r2
  obtain rfl : args = #[v0, v1, v2] := by cases args; simp_all
  obtain ⟨rfl, rfl⟩ := trodVars_none hV
  obtain ⟨a0, len0, cap0, rfl⟩ := okWide_slice Tryz.underlying22 (hval 0 22 v0 rfl rfl)
  have k0 := h0
  have lt0 : ∀ x ∈ p0, x.block < W.heap.size := by obtain ⟨m, hm⟩ := k0; exact DataW.trod_lt m _ _ _ hm
  obtain ⟨z0, w0, y0⟩ : ∃ zs, ((a0 = none ∧ len0 = 0 ∧ cap0 = 0 ∧ zs = []) ∨ ∃ x, a0 = some x ∧ len0 ≤ cap0 ∧ cap0 ≤ maxLen ∧ zs.length = cap0 ∧ (∀ i, i < zs.length → W.cell? (x.add i) = some (.int .i64 (zs.getD i 0))) ∧ ∀ n ∈ zs, (Lit.int .i64 n).wf = true) ∧ len0 * 8 ≤ 140737488351232 := by
    obtain ⟨fuel, hf⟩ := h0
    rcases open_ints Tryz.underlying22 Tryz.underlying3 (by kernel_rfl) hf with ⟨hcs, _⟩ | ⟨x, l, c, zs, hcs, _, hl, hm, hz, hx, hcell, hwz⟩
    · simp [Value.cells] at hcs
      obtain ⟨rfl, rfl, rfl⟩ := hcs
      exact ⟨[], .inl ⟨rfl, rfl, rfl, rfl⟩, by simp⟩
    · simp [Value.cells] at hcs
      obtain ⟨rfl, rfl, rfl⟩ := hcs
      refine ⟨zs, .inr ⟨_, rfl, hl, hm, by simpa using hz, hcell, hwz⟩, ?_⟩
      simp only [Prod.mk.injEq] at hx
      have hd := hx.1
      have z := sized_slice hsz (j := 0) (t := 22) rfl (by rw [hd]; rfl) Tryz.underlying22
      have hb : Tryz.prog.bytesOf 3 = 8 := by kernel_rfl
      rw [hb] at z
      have hr : reachBytes ≤ 140737488351232 := by decide
      have hz' : zs.length = cap0 := by simpa using hz
      simp only [lits, List.length_map, List.length_take, List.length_drop] at z
      omega
  obtain ⟨e0, l0, hd0, hrep0, hlen0, hwf0⟩ := arg_row w0
  obtain ⟨a1, rfl, rfl, rfl, w1⟩ := open_int Tryz.underlying3 (hval 1 3 v1 rfl rfl) h1
  obtain ⟨a2, rfl, rfl, rfl, w2⟩ := open_int Tryz.underlying3 (hval 2 3 v2 rfl rfl) h2
  clear hA0 hval0 hsz0 hsz
  refine (law_walk envQ (f := 6) (ds := [e0, (iv a1), (iv a2)]) (vs := [.slice a0 len0 cap0, .int .i64 a1, .int .i64 a2]) (w := W) (QnU rfl W) (RepL.cons _ _ _ _ hrep0 (RepL.cons _ _ _ _ (RepD.v _) (RepL.cons _ _ _ _ (RepD.v _) RepL.nil))) (Pure.SturmSquares e0 l0 hd0 hwf0 (by rw [hlen0]; exact y0) a1 w1 a2 w2)).mono fun e W' ⟨he, bel⟩ => ?_
  subst he
  exact ⟨_, rfl, _, _, _, [], _, [], hW', trodAll_mk1 (shut_bool Tryz.underlying4 _), (trodAll_cons_mk (Below.trod laidOut (by kernel_rfl) (of_decide_eq_true (by kernel_rfl)) k0 bel lt0) (trodAll_cons_mk (shut_int Tryz.underlying3 w1) (trodAll_cons_mk (shut_int Tryz.underlying3 w2) trodAll_mk0))), rfl, bel.frame _, fun h => by cases h⟩
theorem over : Rows.sturmSquaresRow.holds Tryz.pinned (OpenSpec.ofChange Rows.sturmSquaresSpec) :=
 OpenClaim.holds_of_wide 6 Tryz.f6 rfl rfl rfl rfl rfl rfl rfl ⟨rfl, rfl, rfl, rfl, rfl⟩ rfl rfl rfl rfl rfl (by kernel_rfl) Tryz.func6 (by kernel_rfl)
  (of_decide_eq_true (by kernel_rfl)) (by unfold Func.isWrapper; first | (rw [if_pos (by decide +kernel)]; kernel_rfl) | (rw [if_neg (by decide +kernel)]; exact ⟨rfl, rfl⟩))
  (fun os started H enc _ => lifted os started H enc)
theorem proved : Rows.SturmSquaresSaid := over
end Go.Proofs.YtbbemgfheagobaaGreat.sturmSquares
namespace Go.Proofs.YtbbemgfheagobaaGreat
theorem sturmSquares_holds : Rows.SturmSquaresSaid := sturmSquares.proved
end Go.Proofs.YtbbemgfheagobaaGreat


