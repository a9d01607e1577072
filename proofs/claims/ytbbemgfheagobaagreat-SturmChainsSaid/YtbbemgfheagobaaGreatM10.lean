/- Part 10 of the proof: a small machine, its soundness against the model, and what the program's functions compute on it. -/
import Derived.Test.YtbbemgfheagobaaGreatM9
import Derived.Test.YtbbemgfheagobaaGreatM8
import Derived.Test.YtbbemgfheagobaaGreatRows
import Derived.Test.YtbbemgfheagobaaGreatM4
import Derived.WalkKit
import Derived.ProofKit
import Derived.OpenShut
import Derived.ShutString
import Derived.ChangeOld
import Derived.Below
import Derived.SizedLaws
set_option linter.unusedVariables false
set_option linter.unusedSimpArgs false
/- law07.lives, the end. -/
namespace Go.AM
open Go Go.RowKit Go.Proofs
theorem l8_e1 : evR lp7 (-3) = -16 := by kernel_rfl
theorem l8_e2 : evR lp7 (-2) = 0 := by kernel_rfl
theorem l8_e3 : evR lp7 9 = 704 := by kernel_rfl
theorem l8_m1 : mid (-2) 9 = 7 / 2 := by kernel_rfl
theorem l8_m2 : mid (-2) (7 / 2) = 3 / 4 := by kernel_rfl
theorem l8_m3 : mid (-2) (3 / 4) = -5 / 8 := by kernel_rfl
theorem l8_m4 : mid (-2) (-5 / 8) = -21 / 16 := by kernel_rfl
theorem l8_v1 : ¬ evR lp7 (7 / 2) < 0 := by decide +kernel
theorem l8_v2 : ¬ evR lp7 (3 / 4) < 0 := by decide +kernel
theorem l8_v3 : ¬ evR lp7 (-5 / 8) < 0 := by decide +kernel
theorem l8_v4 : ¬ evR lp7 (-21 / 16) < 0 := by decide +kernel
theorem l8_q1 : quoP lp7 [-2, 1, 1] = [-1, 1] := by kernel_rfl
theorem l8_d1 : dvB [-2, 1, 1] (dvN lp7 [-2, 1, 1]) lp7 = true := by kernel_rfl
theorem l8_de : deP [-1, 1] = [1] := by kernel_rfl
theorem l8_g : gcdP [-1, 1] [1] = [1] := by kernel_rfl
theorem l8_gb : gcB 2 (mnP [-1, 1]) (mnP [1]) = true := by kernel_rfl
theorem l8_q2 : quoP [-1, 1] [1] = [-1, 1] := by kernel_rfl
theorem l8_d2 : dvB [1] (dvN [-1, 1] [1]) [-1, 1] = true := by kernel_rfl
theorem l8_f2 : frP [-1, 1] = [-1, 1] := by kernel_rfl
theorem l8_g2 : gcdP [-2, 1, 1] [-1, 1] = [-1, 1] := by kernel_rfl
theorem l8_gb2 : gcB 3 (mnP [-2, 1, 1]) (mnP [-1, 1]) = true := by kernel_rfl
theorem l8_q3 : quoP [-2, 1, 1] [-1, 1] = [2, 1] := by kernel_rfl
theorem l8_d3 : dvB [-1, 1] (dvN [-2, 1, 1] [-1, 1]) [-2, 1, 1] = true := by kernel_rfl
theorem l8_mu : muP [1] [2, 1] = [2, 1] := by kernel_rfl
theorem l8_q4 : quoP [-1, 1] [-1, 1] = [1] := by kernel_rfl
theorem l8_d4 : dvB [-1, 1] (dvN [-1, 1] [-1, 1]) [-1, 1] = true := by kernel_rfl
theorem QpF : smL [1] = true := by kernel_rfl
theorem Qsy : smL [2, 1] = true := by kernel_rfl
theorem l8_de3 : deP [2, 1] = [1] := by kernel_rfl
theorem l8_g3 : gcdP [2, 1] [1] = [1] := by kernel_rfl
theorem l8_gb3 : gcB 2 (mnP [2, 1]) (mnP [1]) = true := by kernel_rfl
theorem l8_q5 : quoP [2, 1] [1] = [2, 1] := by kernel_rfl
theorem l8_d5 : dvB [1] (dvN [2, 1] [1]) [2, 1] = true := by kernel_rfl
theorem l8_f3 : frP [2, 1] = [2, 1] := by kernel_rfl
theorem l8_c3 : chP [2, 1] = [[2, 1], [1]] := by kernel_rfl
theorem l8_r3 : remP [2, 1] [1] = [] := by kernel_rfl
theorem l8_n : cnt [[2, 1], [1]] (-2) 9 = 0 := by kernel_rfl
theorem l8_ch : ChOk 800000 ([2, 1] : List Rat).length (frP [2, 1]) (deP (frP [2, 1])) := by
 rw [l8_f3, l8_de3]
 refine Qqk (sm7 Qsy) (sm7 QpF) (by simp) (by simp) (trm1 (by decide)) ?_
 rw [l8_r3]
 exact ch_done _ _ _
theorem l8_hs : ∀ q ∈ ([[2, 1], [1]] : List (List Rat)), SzL 3 q ∧ q.length * (2 * 3 + 1) ≤ 40000000000 := by
 intro q hq
 rcases List.mem_cons.1 hq with rfl | hq
 ·exact ⟨(QbR Qsy).mono (by omega), by simp⟩
 ·rw [List.mem_singleton.1 hq]; exact ⟨(QbR QpF).mono (by omega), by simp⟩
theorem z_m2 : sz (-2 : Rat) ≤ 3 := sz_i (n := -2) ⟨by omega, by omega⟩
theorem z_m3 : sz (-3 : Rat) ≤ 3 := sz_i (n := -3) ⟨by omega, by omega⟩
theorem z_3 : sz (3 : Rat) ≤ 3 := sz_i (n := 3) ⟨by omega, by omega⟩
theorem z_1 : sz (1 : Rat) ≤ 3 := sz_i (n := 1) ⟨by omega, by omega⟩
theorem z_5 : sz (5 : Rat) ≤ 3 := sz_i (n := 5) ⟨by omega, by omega⟩
theorem z_9 : sz (9 : Rat) ≤ 3 := sz_i (n := 9) ⟨by omega, by omega⟩
theorem rep4L (a : D) : rep 4 [a] = [a, a, a, a] := rfl
theorem rep3L (a : D) : rep 3 [a] = [a, a, a] := rfl
theorem rep2L (a : D) : rep 2 [a] = [a, a] := rfl
theorem rep1L (a : D) : rep 1 [a] = [a] := rfl
theorem l8_sm : ∀ q ∈ lc7, SzL 100000000000 q ∧ q.length ≤ 1000 := by
 intro q hq
 refine ⟨(l7_hs (K := 1) (by omega) (by omega) q hq).1.mono (by omega), ?_⟩
 rcases List.mem_cons.1 hq with rfl | hq
 ·simp
 ·rcases List.mem_cons.1 hq with rfl | hq
  ·simp
  ·rw [List.mem_singleton.1 hq]; simp
section
variable [Its]
theorem l8_odd : ∃ d', RwR d' [2, 1] ∧ Qai G Qg6 [rowR lp7] = some (.d d') := by
 have P := RwR.row lp7
 obtain ⟨a1, h1, g1⟩ := l7_free
 rw [l7_f] at h1
 obtain ⟨a2, a2', h2, _, g2⟩ := QfL (K := 1) P h1 (by decide) (by simp) (QbR QrS) (by omega) (by omega) (QkC l8_d1)
 rw [l8_q1] at h2
 have hf := Qge (K := 1) h2 (by simp) (by omega) (by omega) (QbR Qr8)
 rw [l8_de, l8_g, l8_q2, l8_f2] at hf
 obtain ⟨a3, h3, g3⟩ := hf (QbR QpF) (Qoz l8_gb) (by simp) (QbR QpF) (QkC l8_d2) (QbR Qr8)
 obtain ⟨a4, h4, g4⟩ := Qmu (K := 1) h1 h3 (by simp) (by simp) (by omega) (by omega) (QbR QrS) (QbR Qr8) (Qoz l8_gb2)
 rw [l8_g2] at h4
 obtain ⟨a5, a5', h5, _, g5⟩ := QfL (K := 1) h1 h4 (by simp) (by simp) (QbR Qr8) (by omega) (by omega) (QkC l8_d3)
 rw [l8_q3] at h5
 obtain ⟨a6, h6, g6⟩ := QrR (K := 1) (RwR.row [1]) h5 (QbR QpF) (QbR Qsy) (by omega) (by simp)
 rw [l8_mu] at h6
 obtain ⟨a7, a7', h7, _, g7⟩ := QfL (K := 1) h2 h3 (by simp) (by simp) (QbR Qr8) (by omega) (by omega) (QkC l8_d4)
 rw [l8_q4] at h7
 have hx := odg_go (d1 := rowR [1]) P (by decide) g1 g2 g3 g4 g5 g6 g7
 exact ⟨a6, h6, odg_end (by rw [Qah, hx, Option.bind_some, if_pos rfl, Qah, odg_stop h7 (by simp)]; rfl)⟩
theorem l8_free {d : D} (h : RwR d [2, 1]) : ∃ d', RwR d' (frP [2, 1]) ∧ Qai G Qct [d] = some (.d d') := by
 have hf := Qge (K := 1) h (by simp) (by omega) (by omega) (QbR Qsy)
 rw [l8_de3, l8_g3, l8_q5] at hf
 exact hf (QbR QpF) (Qoz l8_gb3) (by simp) (QbR QpF) (QkC l8_d5) (QbR Qsy)
theorem l8_low [ItsB] : Qai G Qds [rowR lp7, encR (-3), encR 0] = some (.d (bv false)) :=
 QrP (K := 300) (RwR.row lp7) ((QbR l7_sp).mono (by omega)) (by decide) (by omega) (by decide) (by decide) (Nat.le_trans z_m3 (by omega)) (Nat.le_trans z_0 (by omega)) (by rw [l8_e1]; decide)
theorem l8_stay [ItsB] : Qai G Qds [rowR lp7, encR (-2), encR 9] = some (.d (bv true)) := by
 obtain ⟨dg, h, g⟩ := l8_odd
 have P := RwR.row lp7
 have c := Qkx (K := 3) (QiF (K := 800000) (by simp) (by simp) (l8_free h) (by rw [l8_f3]; simp) (by rw [l8_f3]; simp) (by rw [l8_f3]; exact (QbR Qsy).mono (by omega)) l8_ch (by omega) (by omega)) (lo := -2) (hi := 9) (by rw [l8_c3]; simp) (by rw [l8_c3]; exact l8_hs) z_m2 z_9 (by omega)
 rw [l8_c3, l8_n] at c
 have sp : SzL 300 lp7 := (QbR l7_sp).mono (by omega)
 have z2 : sz (-2 : Rat) ≤ 100 := Nat.le_trans z_m2 (by omega)
 have z9 : sz (9 : Rat) ≤ 3 := z_9
 have k1 := Qql z_m2 z_9
 rw [l8_m1] at k1
 have k2 := Qql z_m2 k1
 rw [l8_m2] at k2
 have k3 := Qql z_m2 k2
 rw [l8_m3] at k3
 have r0 := Qq5 P sp (by decide) (by omega) z2 (x := 9) (by omega) (by omega) (n := 4) (i := 0) (by omega) (by omega)
 have r1 := Qq5 P sp (by decide) (by omega) z2 (x := 7 / 2) (by omega) (by omega) (n := 4) (i := 1) (by omega) (by omega)
 have r2 := Qq5 P sp (by decide) (by omega) z2 (x := 3 / 4) (by omega) (by omega) (n := 4) (i := 2) (by omega) (by omega)
 have r3 := Qq5 P sp (by decide) (by omega) z2 (x := -5 / 8) (by omega) (by omega) (n := 4) (i := 3) (by omega) (by omega)
 rw [l8_m1, if_neg l8_v1] at r0
 rw [l8_m2, if_neg l8_v2] at r1
 rw [l8_m3, if_neg l8_v3] at r2
 rw [l8_m4, if_neg l8_v4] at r3
 refine QpU (K := 300) P sp (by decide) (by omega) (by decide) (by decide) (Nat.le_trans z_m2 (by omega)) (Nat.le_trans z_9 (by omega)) (by rw [l8_e2]; exact Rat.le_refl) (by rw [l8_e3]; decide) g c ?_
 show X G (.loop Qb3) (Qjo (rowR lp7) (-2) 9 ((4 : Nat) : Int) ((0 : Nat) : Int)) = _
 rw [Qah, r0, Option.bind_some, if_pos rfl, Qah, r1, Option.bind_some, if_pos rfl, Qah, r2, Option.bind_some, if_pos rfl, Qah, r3, Option.bind_some, if_pos rfl, Qah, s7s_stop]
 rfl
theorem lives7 [ItsB] [ItsZ] : Qai G QfX [] = some (.d (bv true)) := by
 rw [Qad (cf := QeI) rfl]
 have f0 := of7_p
 have f1 := of7_1
 have f2 := of7_2
 have f3 := of7_3
 have nm3 := Qfe (n := -3) ⟨by omega, by omega⟩
 have n3 := Qfe (n := 3) ⟨by omega, by omega⟩
 have nm2 := Qfe (n := -2) ⟨by omega, by omega⟩
 have n1 := Qfe (n := 1) ⟨by omega, by omega⟩
 have n5 := Qfe (n := 5) ⟨by omega, by omega⟩
 have n4 := Qfe (n := 4) ⟨by omega, by omega⟩
 have n9 := Qfe (n := 9) ⟨by omega, by omega⟩
 have n0 := Qfe (n := 0) ⟨by omega, by omega⟩
 rw [show (((-3 : Int)) : Rat) = -3 from rfl] at nm3
 rw [show (((3 : Int)) : Rat) = 3 from rfl] at n3
 rw [show (((-2 : Int)) : Rat) = -2 from rfl] at nm2
 rw [show (((1 : Int)) : Rat) = 1 from rfl] at n1
 rw [show (((5 : Int)) : Rat) = 5 from rfl] at n5
 rw [show (((4 : Int)) : Rat) = 4 from rfl] at n4
 rw [show (((9 : Int)) : Rat) = 9 from rfl] at n9
 rw [show (((0 : Int)) : Rat) = 0 from rfl] at n0
 have c1 := Qnw z_m3 z_3
 have c2 := Qnw z_m2 z_1
 have c3 := Qnw z_1 z_5
 rw [l7_n1] at c1
 rw [l7_n2] at c2
 rw [l7_n3] at c3
 have is := l7_isol
 obtain ⟨ds, hd, gc⟩ := Qm4
 have gb := Qi1 (K := 1) (RwR.row lp7) (by decide) (QbR l7_sp) (by omega) (by omega)
 rw [l7_b] at gb
 have hL : RwC (.row 3 [rowR [-2, 1, 1], rowR [1, 2], rowR [9 / 4]]) (chP lp7) := by
  rw [l7_c]
  refine ⟨[rowR [-2, 1, 1], rowR [1, 2], rowR [9 / 4]], rfl, fun i hi => ?_, .inl rfl⟩
  match i, hi with
  | 0, _ => exact RwR.row _
  | 1, _ => exact RwR.row _
  | 2, _ => exact RwR.row _
 have gs := QjR hd.rwc hL (by rw [l7_c]; decide) (by rw [l7_c]; exact l8_sm)
 have g5 := QpX (a := 4) (Nat.le_trans z_4 (by omega))
 have st := l8_stay
 have sl := l8_low
 have t2 : ((2 : Int) == 2) = true := rfl
 have t2n : (((2 : Nat) : Int) == 2) = true := rfl
 have t1 : ((1 : Int) == 1) = true := rfl
 have t0 : ((0 : Int) == 0) = true := rfl
 have hl : lenA (.d (rowA [(-4, 0), (0, 4)])) = some 2 := rfl
 have k1 : Qcm (.d (rowR [-2, 1, 1])) = some [rowR [-2, 1, 1]] := rfl
 have k2 : Qcm (.d (rowR [1, 2])) = some [rowR [1, 2]] := rfl
 have k3 : Qcm (.d (rowR [9 / 4])) = some [rowR [9 / 4]] := rfl
 clear hL hd
 generalize rowA [(-4, 0), (0, 4)] = ra at *
 generalize rowR lp7 = p at *
 generalize rowR [-2, 1, 1] = p1 at *
 generalize rowR [1, 2] = p2 at *
 generalize rowR [9 / 4] = p3 at *
 generalize (-3 : Rat) = rm3 at *
 generalize (3 : Rat) = r3 at *
 generalize (-2 : Rat) = rm2 at *
 generalize (1 : Rat) = r1 at *
 generalize (5 : Rat) = r5 at *
 generalize (4 : Rat) = r4 at *
 generalize (9 : Rat) = r9 at *
 generalize (0 : Rat) = r0 at *
 simp only [encR, iv, bv] at f0 f1 f2 f3 nm3 n3 nm2 n1 n5 n4 n9 n0 c1 c2 c3 is gb gs g5 st sl
 simp -implicitDefEqProofs (maxSteps:=9^8) only [QeI, f0, f1, f2, f3, nm3, n3, nm2, n1, n5, n4, n9, n0, c1, c2, c3, is, gc, gb, gs, g5, st, sl, t2, t2n, t1, t0, hl, k1, k2, k3, rep4L, rep3L, rep2L, rep1L, toDs, allD, go_sem, iv, bv, reduceCtorEq, ↓reduceIte, Nat.reduceEqDiff]
end
end Go.AM

/- Chains of polynomials of at most the fifth degree: sizes. sturm.Count. -/
namespace Go.AM
open Go Go.RowKit
theorem H1.m1 : H1 0 0 (-1) := H1.one.neg
theorem sc_HL {d h : Nat} {l : List Rat} (H : HL d h l) : HL d h (scP l (-1)) := (H.sc H1.m1).mono (by omega) (by omega)
theorem ch_pot {K : Nat} : ∀ (n s : Nat) (a b : List Rat), HL s s a → HL s s b → Trm b → b.length < n → b.length ≤ 90 → (s + 1) * (dvN a b + 1) * 3 ^ b.length ≤ K → ChOk K n a b ∧ ∀ q ∈ chL n a b, SzL K q ∧ q.length ≤ b.length
 | 0, _, _, b, _, _, _, h, _, _ => by omega
 | n + 1, s, a, b, Ha, Hb, tb, hn, h90, hK => by
  have h3 : 1 ≤ 3 ^ b.length := Nat.one_le_pow _ _ (by decide)
  have hs : s + 1 ≤ K := Nat.le_trans (Nat.le_trans (Nat.le_mul_of_pos_right (s + 1) (by omega)) (Nat.le_mul_of_pos_right _ h3)) hK
  by_cases hb : b = []
  ·subst hb
   refine ⟨.inl rfl, ?_⟩
   rw [chL, if_pos rfl]
   exact fun q hq => by simp at hq
  ·have hlb : 0 < b.length := List.length_pos_iff.2 hb
   obtain ⟨_, q2, _, _⟩ := QnL (p := a) tb hb
   have h33 : 3 * ((s + 1) * (dvN a b + 1)) ≤ K := by
    refine Nat.le_trans ?_ hK
    rw [Nat.mul_comm 3]
    refine Nat.mul_le_mul_left _ ?_
    obtain ⟨k, hk⟩ : ∃ k, b.length = k + 1 := ⟨b.length - 1, by omega⟩
    rw [hk, Nat.pow_succ]
    have : 1 ≤ 3 ^ k := Nat.one_le_pow _ _ (by decide)
    omega
   have hr := len_sc (remP a b) (-1)
   have h3' : ((s + 1) * (dvN a b + 1)) * (dvN b (scP (remP a b) (-1)) + 1) * 3 ^ (scP (remP a b) (-1)).length ≤ K := by
    refine Nat.le_trans ?_ hK
    rw [Nat.mul_assoc]
    refine Nat.mul_le_mul_left _ (Nat.le_trans (Nat.le_of_eq ?_) (Qnu (a := (scP (remP a b) (-1)).length) (b := b.length) (by omega)))
    congr 1
    unfold dvN; omega
   have he : (s + 1) * (dvN a b + 1) = s * dvN a b + dvN a b + s + 1 := by rw [Nat.mul_add, Nat.add_mul, Nat.mul_one, Nat.one_mul]; omega
   have he2 : dvN a b * (s + 1) = s * dvN a b + dvN a b := by rw [Nat.mul_add, Nat.mul_one, Nat.mul_comm]
   have he3 : dvN a b * s = s * dvN a b := Nat.mul_comm _ _
   obtain ⟨g1, g2, _⟩ := Qoi (K := K) Ha Hb tb (by rw [he2, he3]; omega)
   have hsz := g2.sz
   have g3 := sc_HL g2
   have e1 : s + dvN a b * (s + 1) + 1 = (s + 1) * (dvN a b + 1) := by omega
   obtain ⟨i1, i2⟩ := ch_pot (K := K) n (s + dvN a b * (s + 1)) b (scP (remP a b) (-1)) (Hb.mono (by omega) (by omega)) (g3.mono (by omega) (by omega)) (trm_sc _ _) (by omega) (by omega) (by rw [e1]; exact h3')
   refine ⟨.inr ⟨tb, h90, Hb.mono (by omega) (by omega), Hb.sz.mono (by omega), g1, hsz.mono (by omega), i1⟩, ?_⟩
   rw [chL, if_neg hb]
   intro q hq
   rcases List.mem_cons.1 hq with rfl | hq
   ·exact ⟨Hb.sz.mono (by omega), Nat.le_refl _⟩
   ·exact ⟨(i2 q hq).1, by have := (i2 q hq).2; omega⟩
theorem gz7 {N d s e K : Nat} {a b : List Rat} (Ha : HL d s a) (Hb : HL e s b) (ta : Trm a) (tb : Trm b) (na : a.length ≤ N) (nb : b.length ≤ N) (hK : (s + 1) * 3 ^ (N + 1) ≤ K) : gcG K (b.length + 1) (mnP a) (mnP b) ∧ gcH K (b.length + 1) (mnP a) (mnP b) ∧ HL K K (gcdP a b) := by
 have l1 := Qh6 ta
 have l2 := Qh6 tb
 have h0 := Qnu (a := (mnP b).length) (b := N + 1) (by omega)
 have h1 : dvN (mnP a) (mnP b) + 1 ≤ N + 1 + 2 - (mnP b).length := by unfold dvN; omega
 have h2 : (s + 1) * (dvN (mnP a) (mnP b) + 1) * 3 ^ (mnP b).length ≤ K := by
  rw [Nat.mul_assoc]
  exact Nat.le_trans (Nat.mul_le_mul_left _ (Nat.le_trans (Nat.mul_le_mul_right _ h1) h0)) hK
 exact gc_pot (K := K) (b.length + 1) s (mnP a) (mnP b) (Qow Ha ta) (Qow Hb tb) (QhQ _) (by omega) h2
theorem QrL {a b : List Rat} {M : Nat} (ha : a.length ≤ M) (hb : b.length ≤ M) : (gcdP a b).length ≤ M := by
 have go : ∀ (n : Nat) (a b : List Rat), a.length ≤ M → b.length ≤ M → (gcP n a b).length ≤ M := by
  intro n
  induction n with
  | zero => intro a b ha hb; exact ha
  | succ n ih =>
   intro a b ha hb
   rw [gcP]
   split
   ·exact ha
   ·exact ih b _ hb (Nat.le_trans (Qez _) (Nat.le_trans (Qhl a b) ha))
 exact go _ _ _ (Nat.le_trans (Qez a) ha) (Nat.le_trans (Qez b) hb)
theorem fr_nil7 : frP [] = [] := by
 unfold frP
 have : quoP [] (gcdP [] (deP [])) = [] := if_pos (show gcdP [] (deP []) = [] from gcd_nil)
 rw [this]
 exact if_pos rfl
theorem quo_17 (p : List Rat) (tp : Trm p) : quoP p [1] = p := by
 obtain ⟨_, h⟩ := QoA (q := [1]) trm_one (by simp) (Dv.one p)
 exact Qdn (QmX _ _) tp fun x => by rw [h, Qpz, Rat.mul_one]
theorem fr_two {p : List Rat} (H : HL 120 120 p) (tp : Trm p) (np : p.length ≤ 6) : HL 2200000 2200000 (quoP p (gcdP p (deP p))) ∧ dvG 2200000 (gcdP p (deP p)) (dvN p (gcdP p (deP p))) p ∧ (HL 120 120 (frP p) ∨ (frP p).length ≤ 5) := by
 have hBB : BB = 1000000000 := rfl
 have Hd := H.de (by omega)
 have nd := Qmj p
 obtain ⟨_, _, Hg⟩ := gz7 (N := 6) (K := 268000) (H.mono (Nat.le_refl _) (show 120 ≤ 121 by omega)) Hd tp (Qh1 p) np (by omega) (by decide)
 have tg : Trm (gcdP p (deP p)) := Qm2
 have hm : dvN p (gcdP p (deP p)) ≤ 7 := by unfold dvN; omega
 have h1 : dvN p (gcdP p (deP p)) * 268000 ≤ 7 * 268000 := Nat.mul_le_mul_right _ hm
 have h2 : dvN p (gcdP p (deP p)) * (268000 + 1) ≤ 7 * (268000 + 1) := Nat.mul_le_mul_right _ hm
 obtain ⟨x, _, z⟩ := Qoi (K := 2200000) H Hg tg (by omega)
 refine ⟨z.mono (by omega) (by omega), x, ?_⟩
 by_cases p0 : p = []
 ·right; rw [p0, fr_nil7]; simp
 have ng := gcd_ne tp (Qh1 p) (.inl p0)
 have hl := List.length_pos_iff.2 ng
 by_cases l1 : (gcdP p (deP p)).length = 1
 ·left
  have e : gcdP p (deP p) = [1] := mo_len1 (mo_gcd tp (Qh1 p)) l1
  unfold frP
  rw [e, quo_17 p tp]
  exact Qow H tp
 ·right
  unfold frP
  have k1 := Qez (quoP p (gcdP p (deP p)))
  have k2 := QkZ p (gcdP p (deP p))
  unfold dvN at k2
  omega
theorem chL_len : ∀ (n : Nat) (a b : List Rat), (chL n a b).length ≤ n
 | 0, _, _ => Nat.le_refl _
 | n + 1, a, b => by
  rw [chL]
  split
  ·simp
  ·rw [List.length_cons]; have := chL_len n b (scP (remP a b) (-1)); omega
section
variable [Its] {dp : D} {p : List Rat}
theorem free6 (hp : RwR dp p) (H : HL 120 120 p) (tp : Trm p) (np : p.length ≤ 6) : ∃ d', RwR d' (frP p) ∧ Qai G Qct [dp] = some (.d d') := by
 have hBB : BB = 1000000000 := rfl
 have Hd := H.de (by omega)
 have nd := Qmj p
 obtain ⟨g1, _, Hg⟩ := gz7 (N := 6) (K := 268000) (H.mono (Nat.le_refl _) (show 120 ≤ 121 by omega)) Hd tp (Qh1 p) np (by omega) (by decide)
 obtain ⟨z, x, _⟩ := fr_two H tp np
 have gl := QrL (M := 6) np (show (deP p).length ≤ 6 by omega)
 exact Qge hp (by omega) (K := 2200001) (by omega) (by omega) (H.sz.mono (by omega)) (Hd.sz.mono (by omega)) (QkY (by omega) _ _ _ g1) (by omega) (Hg.sz.mono (by omega)) (Qjl (by omega) _ _ x) (z.sz.mono (by omega))
theorem Qsm (hp : RwR dp []) : Qai G QbK [dp] = some (.d (.z true)) := by
 rw [Qad (cf := QfW) rfl]
 obtain ⟨da, ha, g1⟩ := free6 hp (HL.nil _ _) Qhi (by simp)
 rw [fr_nil7] at ha
 obtain ⟨db, hb, g2⟩ := Qhz (K := 1) ha (fun q hq => by simp at hq) (by omega) (by omega) (by simp)
 have g3 : X G (.loop QbM) (Qop da db []) = some (.x 0, Qsw []) := by rw [Qah, Qph ha]; rfl
 rw [QrA, Qoq] at g3
 simp only [go_sem] at g3
 clear ha hb
 simp -implicitDefEqProofs (maxSteps:=9^8) only [QfW, g1, g2, g3, Qaa, go_sem, iv, bv, reduceCtorEq, ↓reduceIte, Nat.reduceEqDiff]
end
end Go.AM

/- Chains, shifted and scaled. -/
namespace Go.AM
open Go Go.RowKit
section
variable {p : List Rat} {f : Rat}
end
section
variable {d : Rat}
end
end Go.AM

/- The seat's iterators, as instances. -/
namespace Go.AM
open Go Go.RowKit Go.Proofs
noncomputable instance (priority := 2000) iZ : Its := itsZ
instance iZB : ItsB := itsBZ
instance iZZ : ItsZ := ⟨fun a b c d => itsZ_at a b c d⟩
theorem envQ : EnvOk Tryz.prog G := envZ
end Go.AM

/- ref06.Eval and ref07.Changes, counted at great coefficients; ref07.Bound. -/
namespace Go.AM
open Go Go.RowKit
variable [Its]
section
variable {d : D} {l : List Rat} {K : Nat}
theorem re_goB {x : Rat} (h1 : RwR d l) (s1 : SzL K l) (hK1 : 1 ≤ K) (hK : K ≤ 1000000000) (n1 : l.length ≤ 40) (hx : sz x ≤ 1000000) {i : Nat} (hi : i < l.length) : X G QbE (Qqc d x (sumR (fun k => l.getD k 0 * x ^ k) i) (x ^ i) i) = some (.n, Qqc d x (sumR (fun k => l.getD k 0 * x ^ k) (i + 1)) (x ^ (i + 1)) ((i + 1 : Nat) : Int)) := by
 have e3 : w64 ((i : Int) + 1) = ((i + 1 : Nat) : Int) := by rw [Qae (by omega) (by omega)]; rfl
 have e1 : decide ((i : Int) < (l.length : Int)) = true := lt_t (by omega)
 have ll := h1.len
 have x1 := h1.ixa hi
 have x2 := fun h => ldR h l hi
 have b1 := s1.getD hK1 i
 have hb : ∀ k, k < 41 → sz (x ^ k) ≤ 40000001 := fun k hk => Nat.le_trans (pow_sz' x k hx) (Nat.le_trans (Nat.add_le_add_right (Nat.mul_le_mul_right _ (show k ≤ 40 by omega)) 1) (by decide))
 have b2 := hb i (by omega)
 have b3 := Qqj (f := fun k => l.getD k 0 * x ^ k) (K := 1040000002) i (fun k hk => by
  have := hb k (by omega); have := s1.getD hK1 k
  have := QgQ (a := l.getD k 0) (b := x ^ k)
  show sz (l.getD k 0 * x ^ k) ≤ _
  omega)
 have b4 : i * (1040000002 + 1) ≤ 40 * (1040000002 + 1) := Nat.mul_le_mul_right _ (by omega)
 have b5 : sz (sumR (fun k => l.getD k 0 * x ^ k) i) ≤ 45000000000 := Nat.le_trans b3 (Nat.le_trans (Nat.add_le_add_right b4 1) (by decide))
 have g1 := Qe4 (a := l.getD i 0) (b := x ^ i) (by omega) (by omega)
 have m1 := QgQ (a := l.getD i 0) (b := x ^ i)
 have g2 := Qgk (a := sumR (fun k => l.getD k 0 * x ^ k) i) (b := l.getD i 0 * x ^ i) (by omega) (by omega)
 have g3 := Qe4 (a := x ^ i) (b := x) (by omega) (by omega)
 rw [← Rat.pow_succ] at g3
 have ee : sumR (fun k => l.getD k 0 * x ^ k) i + l.getD i 0 * x ^ i = sumR (fun k => l.getD k 0 * x ^ k) (i + 1) := rfl
 rw [ee] at g2
 clear ee b1 b2 b3 b4 b5 m1 hb
 generalize sumR (fun k => l.getD k 0 * x ^ k) (i + 1) = r2 at *
 generalize sumR (fun k => l.getD k 0 * x ^ k) i = r1 at *
 generalize x ^ (i + 1) = p2 at *
 generalize x ^ i = p1 at *
 generalize l.getD i 0 * p1 = t at *
 generalize l.getD i 0 = u at *
 generalize cRs (l.drop i) = cs at *
 simp only [encR] at g1 g2 g3 x2
 simp -implicitDefEqProofs (maxSteps:=9^8) only [QbE, Qqc, boxR, Qiw, ll, x1, x2, e1, e3, g1, g2, g3, go_sem, Qac, Qab, iv, bv, reduceCtorEq, ↓reduceIte, Nat.reduceEqDiff]
theorem Qrx {x : Rat} (h1 : RwR d l) (s1 : SzL K l) (hK1 : 1 ≤ K) (hK : K ≤ 1000000000) (n1 : l.length ≤ 40) (hx : sz x ≤ 1000000) : ∀ j i : Nat, i + j = l.length → X G (.loop QbE) (Qqc d x (sumR (fun k => l.getD k 0 * x ^ k) i) (x ^ i) i) = some (.x 0, re_en (evR l x))
 | 0, i, h => by
  have : i = l.length := by omega
  subst this
  rw [Qah, re_stop h1, Qlb]; rfl
 | j + 1, i, h => by
  rw [Qah, re_goB h1 s1 hK1 hK n1 hx (by omega), Option.bind_some, if_pos rfl]
  exact Qrx h1 s1 hK1 hK n1 hx j (i + 1) (by omega)
theorem QoH {x : Rat} (h1 : RwR d l) (s1 : SzL K l) (hK1 : 1 ≤ K) (hK : K ≤ 1000000000) (n1 : l.length ≤ 40) (hx : sz x ≤ 1000000) : Qai G Qgu [d, encR x] = some (.d (encR (evR l x))) := by
 rw [Qad (cf := Qfz) rfl]
 have hl := Qrx h1 s1 hK1 hK n1 hx l.length 0 (by omega)
 have o := Qj8
 have z0 : ((0 : Nat) : Int) = 0 := rfl
 have e5 : boxR (sumR (fun k => l.getD k 0 * x ^ k) 0) = Qiw := by
  have ez : decide ((0 : Rat).num < 0) = false := rfl
  have ez2 : dg (digs (0 : Rat).num.natAbs) = .z true := by rw [Rat.zero_num, show (0 : Int).natAbs = 0 from rfl, Qav]; rfl
  have ez3 : dg (dd (0 : Rat).den) = .z true := rfl
  rw [sumR, boxR, ez, ez2, ez3]; rfl
 rw [Qqc, e5, Rat.pow_zero, z0] at hl
 clear e5
 generalize evR l x = v at *
 generalize (1 : Rat) = one at *
 simp only [encR, iv] at o
 simp only [re_en, boxR, Qiw, go_sem] at hl
 simp -implicitDefEqProofs (maxSteps:=9^8) only [Qfz, encR, o, hl, go_sem, Qac, Qab, iv, bv, reduceCtorEq, ↓reduceIte, Nat.reduceEqDiff]
end
section
variable {d : D} {ps : List (List Rat)} {x : Rat} {K : Nat}
theorem c7_goB (hr : RwC d ps) (hn : ps.length ≤ 1000) (hs : ∀ p ∈ ps, SzL K p ∧ p.length ≤ 40) (hx : sz x ≤ 1000000) (hK1 : 1000000 ≤ K) (hK : K ≤ 500000000) {S : List Int} (hS : S.length ≤ 1000) {i : Nat} (hi : i < ps.length) :
    X G Qaw (QkP d x S i) = some (.n, QkP d x (if sgn1 (ps.getD i []) x ≠ 0 then S ++ [sgn1 (ps.getD i []) x] else S) ((i + 1 : Nat) : Int)) := by
  have e1 : decide ((i : Int) < (ps.length : Int)) = true := lt_t (by omega)
  have e2 : w64 ((i : Int) + 1) = ((i + 1 : Nat) : Int) := by rw [Qae (by omega) (by omega)]; rfl
  have ll := hr.len
  obtain ⟨y, r, hy, x1, x2⟩ := hr.at hi
  have hp := hs (ps.getD i []) (by rw [List.getD_eq_getElem?_getD, List.getElem?_eq_getElem hi]; exact List.getElem_mem hi)
  generalize ps.getD i [] = p at *
  have g1 := QoH hy hp.1 (by omega) (by omega) hp.2 hx
  have z := evR_sz (x := x) (K := K) (by omega) p (fun q hq => hp.1 q hq)
  have zb : p.length * (2 * K + 1) ≤ 40 * (2 * 500000000 + 1) := Nat.mul_le_mul hp.2 (by omega)
  have g2 := QfH (a := evR p x) (by omega)
  have es : Int.sign (evR p x).num = sgn1 p x := rfl
  rw [es] at g2
  have n4 := Qk1 (l := S) (by omega)
  clear z zb es hs hp hx
  generalize sgn1 p x = s at *
  generalize evR p x = v at *
  simp only [encR, iv] at g1 g2
  by_cases h0 : s = 0
  · have t : (s != 0) = false := QoM h0
    rw [if_neg (by simp [h0])]
    by_cases hS0 : S = []
    · subst hS0
      simp -implicitDefEqProofs (maxSteps:=9^8) only [Qaw, QkP, boxR, QdP, QdL, Qaa, ll, x1, x2, g1, g2, t, e1, e2, ld4q, go_sem, iv, bv, reduceCtorEq, ↓reduceIte, Nat.reduceEqDiff]
    · simp -implicitDefEqProofs (maxSteps:=9^8) only [Qaw, QkP, boxR, Qg2 hS0, QgU hS0, arrI, Qal, Qaa, ll, x1, x2, g1, g2, t, e1, e2, ld4q, go_sem, iv, bv, reduceCtorEq, ↓reduceIte, Nat.reduceEqDiff]
  · have t : (s != 0) = true := QpI h0
    rw [if_pos h0]
    by_cases hS0 : S = []
    · subst hS0
      have b0 := Qjk
      simp -implicitDefEqProofs (maxSteps:=9^8) only [Qaw, QkP, boxR, QdP, QdL, List.nil_append, QmD, QmJ, arrI, QfK, Qaa, ll, x1, x2, g1, g2, t, e1, e2, b0, ld4q, all_one, Qkf, srcS, src, go_sem, iv, bv, reduceCtorEq, ↓reduceIte, Nat.reduceEqDiff]
    · simp -implicitDefEqProofs (maxSteps:=9^8) only [Qaw, QkP, boxR, Qg2 hS0, QgU hS0, QiV, QiH, arrI, QeR, Qak, Qal, Qaa, ll, x1, x2, g1, g2, t, e1, e2, n4, ld4q, all_one, Qkf, srcS, src, go_sem, iv, bv, reduceCtorEq, ↓reduceIte, Nat.reduceEqDiff]
theorem QqP      (hr : RwC d ps) (hn : ps.length ≤ 1000) (hs : ∀ p ∈ ps, SzL K p ∧ p.length ≤ 40) (hx : sz x ≤ 1000000) (hK1 : 1000000 ≤ K) (hK : K ≤ 500000000) : ∀ (j i : Nat), i + j = ps.length →
    X G (.loop Qaw) (QkP d x (sgs (ps.take i) x) i) = some (.x 0, Qr7 (sgs ps x))
  | 0, i, h => by
    have : i = ps.length := by omega
    subst this
    rw [Qah, c7_stop hr, List.take_length]; rfl
  | j + 1, i, h => by
    have ih := QqP hr hn hs hx hK1 hK j (i + 1) (by omega)
    have hl := QoE (ps.take i) x
    rw [List.length_take] at hl
    rw [Qah, c7_goB hr hn hs hx hK1 hK (by omega) (by omega), Option.bind_some, if_pos rfl, ← ih, QqR ps x (by omega)]
theorem QgC (hr : RwC d ps) (hn : ps.length ≤ 1000) (hs : ∀ p ∈ ps, SzL K p ∧ p.length ≤ 40) (hx : sz x ≤ 1000000) (hK1 : 1000000 ≤ K) (hK : K ≤ 500000000) : Qai G Qdf [d, encR x] = some (.d (iv (chg ps x))) := by
 rw [Qad (cf := QcK) rfl]
 have g0 := QqP hr hn hs hx hK1 hK ps.length 0 (by omega)
 have hl := QoE ps x
 have e0 : sgs (ps.take 0) x = [] := rfl
 rw [e0] at g0
 have g1 : X G (.loop QaD) (Qlr (sgs ps x) 0 1) = some (.x 2, mkS [(8, ai (chg ps x))] []) := by
  unfold chg
  by_cases h : sgs ps x = []
  ·rw [h]
   rw [Qah, n7_stop (by simp)]; rfl
  ·have hp : 0 < (sgs ps x).length := List.length_pos_iff.2 h
   exact n7_loop (S := sgs ps x) (by omega) ((sgs ps x).length - 1) 1 (by omega) (by omega)
 generalize chg ps x = c at *
 generalize sgs ps x = S at *
 by_cases hS0 : S = []
 ·subst hS0
  simp only [QkP, Qr7, boxR, QdP, QdL, Qaa, nc0, go_sem, iv] at g0
  simp only [Qlr, QdP, QdL, Qaa, nc0, go_sem, iv] at g1
  simp -implicitDefEqProofs (maxSteps:=9^8) only [QcK, encR, g0, g1, Qaa, go_sem, iv, bv, reduceCtorEq, ↓reduceIte, Nat.reduceEqDiff]
 ·simp only [QkP, Qr7, boxR, QdP, QdL, Qg2 hS0, QgU hS0, arrI, Qaa, nc0, go_sem, iv] at g0
  simp only [Qlr, Qg2 hS0, QgU hS0, arrI, Qaa, nc0, go_sem, iv] at g1
  simp -implicitDefEqProofs (maxSteps:=9^8) only [QcK, encR, g0, g1, Qaa, Qal, go_sem, iv, bv, reduceCtorEq, ↓reduceIte, Nat.reduceEqDiff]
end
section
variable {d : D} {p : List Rat} {K : Nat}
theorem br_go (hr : RwR d p) (np : p.length ≤ 1000) (sp : SzL K p) (hK1 : 1 ≤ K) (hK : K ≤ 10000000000) {i : Nat} (hi : i + 1 < p.length) {mo : Rat} (hm : sz mo ≤ 2 * K) :
    X G QaJ (Ql7 d mo i) = some (.n, Ql7 d (if mo < abR (bdQ p i) then abR (bdQ p i) else mo) ((i + 1 : Nat) : Int)) := by
  have e1 : decide (((i + 1 : Nat) : Int) < (p.length : Int)) = true := lt_t (by omega)
  have e2 : w64 ((p.length : Int) - 1) = ((p.length - 1 : Nat) : Int) := by rw [Qae (by omega) (by omega)]; omega
  have e3 : w64 ((i : Int) + 1) = ((i + 1 : Nat) : Int) := by rw [Qae (by omega) (by omega)]; rfl
  have ll := hr.len
  have hl : p.length - 1 < p.length := by omega
  have x1 := hr.ixa hl
  have y1 := fun h => ldR h p hl
  have x2 := hr.ixa (show i < p.length by omega)
  have y2 := fun h => ldR h p (show i < p.length by omega)
  have s1 := sp.getD hK1 (p.length - 1)
  have s2 := sp.getD hK1 i
  have g1 := QhF (a := p.getD i 0) (b := p.getD (p.length - 1) 0) (by omega) (by omega)
  have sq := bdQ_sz sp hK1 i
  unfold bdQ at sq
  unfold bdQ
  generalize p.getD i 0 / p.getD (p.length - 1) 0 = q at *
  generalize p.getD (p.length - 1) 0 = u at *
  generalize p.getD i 0 = v at *
  generalize cRs (p.drop (p.length - 1)) = cs at *
  generalize cRs (p.drop i) = ct at *
  generalize ((p.length - 1 : Nat) : Int) = n at *
  have g2 := QfH (a := q) (by omega)
  have t2 := QpZ (x := q)
  generalize Int.sign q.num = sg at *
  have g3 := QhV (a := q) (by omega)
  have sa := abR_sz q
  have g4 := QfA (a := abR q) (b := mo) (by omega) (by omega)
  have t4 := QnC (a := abR q) (b := mo)
  generalize cmpR (abR q) mo = c at *
  clear s1 s2 sq hm sp hr sa
  unfold abR at *
  by_cases k : q < 0
  · rw [decide_eq_true k] at t2
    rw [if_pos k] at *
    generalize -q = nq at *
    simp only [encR, iv] at g1 g2 g3 g4 y1 y2
    by_cases k2 : mo < nq
    · rw [decide_eq_true k2] at t4
      rw [if_pos k2]
      simp -implicitDefEqProofs (maxSteps:=9^8) only [QaJ, Ql7, boxZ, boxR, ll, x1, x2, y1, y2, e1, e2, e3, g1, g2, g3, g4, t2, t4, st4q, ld4q, Qaa, go_sem, iv, bv, reduceCtorEq, ↓reduceIte, Nat.reduceEqDiff]
    · rw [decide_eq_false k2] at t4
      rw [if_neg k2]
      simp -implicitDefEqProofs (maxSteps:=9^8) only [QaJ, Ql7, boxZ, boxR, ll, x1, x2, y1, y2, e1, e2, e3, g1, g2, g3, g4, t2, t4, st4q, ld4q, Qaa, go_sem, iv, bv, reduceCtorEq, ↓reduceIte, Nat.reduceEqDiff]
  · rw [decide_eq_false k] at t2
    rw [if_neg k] at *
    simp only [encR, iv] at g1 g2 g3 g4 y1 y2
    by_cases k2 : mo < q
    · rw [decide_eq_true k2] at t4
      rw [if_pos k2]
      simp -implicitDefEqProofs (maxSteps:=9^8) only [QaJ, Ql7, boxZ, boxR, ll, x1, x2, y1, y2, e1, e2, e3, g1, g2, g4, t2, t4, st4q, ld4q, Qaa, go_sem, iv, bv, reduceCtorEq, ↓reduceIte, Nat.reduceEqDiff]
    · rw [decide_eq_false k2] at t4
      rw [if_neg k2]
      simp -implicitDefEqProofs (maxSteps:=9^8) only [QaJ, Ql7, boxZ, boxR, ll, x1, x2, y1, y2, e1, e2, e3, g1, g2, g4, t2, t4, st4q, ld4q, Qaa, go_sem, iv, bv, reduceCtorEq, ↓reduceIte, Nat.reduceEqDiff]
theorem br_stop (hr : RwR d p) (np : p.length ≤ 1000) {mo : Rat} {i : Nat} (h : p.length ≤ i + 1) (hi : i ≤ 1000) : X G QaJ (Ql7 d mo i) = some (.x 0, Qm5 mo) := by
 have e1 : decide (((i + 1 : Nat) : Int) < (p.length : Int)) = false := lt_f (by omega)
 have e3 : w64 ((i : Int) + 1) = ((i + 1 : Nat) : Int) := by rw [Qae (by omega) (by omega)]; rfl
 have ll := hr.len
 simp -implicitDefEqProofs (maxSteps:=9^8) only [QaJ, Ql7, Qm5, boxZ, boxR, ll, e1, e3, Qaa, go_sem, iv, bv, reduceCtorEq, ↓reduceIte, Nat.reduceEqDiff]
theorem br_loop (hr : RwR d p) (np : p.length ≤ 1000) (sp : SzL K p) (hK1 : 1 ≤ K) (hK : K ≤ 10000000000) : ∀ (j i : Nat), i + j = p.length - 1 → X G (.loop QaJ) (Ql7 d (bdF p i) i) = some (.x 0, Qm5 (bdF p (p.length - 1)))
 | 0, i, h => by
  have : i = p.length - 1 := by omega
  subst this
  rw [Qah, br_stop hr np (by omega) (by omega)]; rfl
 | j + 1, i, h => by
  rw [Qah, br_go hr np sp hK1 hK (by omega) (QmU sp hK1 i), Option.bind_some, if_pos rfl]
  exact br_loop hr np sp hK1 hK j (i + 1) (by omega)
theorem Qqb (hr : RwR d p) (np : p.length ≤ 1000) (sp : SzL K p) (hK1 : 1 ≤ K) (hK : K ≤ 10000000000) : Qai G QcN [d] = some (.d (encR (bdR p))) := by
 rw [Qad (cf := QeL) rfl]
 have sf := QmU sp hK1 (p.length - 1)
 have o := Qj8
 have g := Qgk (a := bdF p (p.length - 1)) (b := 1) (by omega) (by rw [QhG]; omega)
 have hl := br_loop hr np sp hK1 hK (p.length - 1) 0 (by omega)
 unfold bdR
 generalize bdF p (p.length - 1) = r at *
 have z0 : ((0 : Nat) : Int) = 0 := rfl
 rw [show bdF p 0 = 0 from rfl, Ql7, boxR_0, z0] at hl
 generalize r + 1 = s at *
 generalize (1 : Rat) = one at *
 simp only [encR, iv] at o g
 simp only [Qm5, boxZ, boxR, go_sem] at hl
 simp -implicitDefEqProofs (maxSteps:=9^8) only [QeL, encR, hl, o, g, st4q, ld4q, Qab, Qaa, go_sem, iv, bv, reduceCtorEq, ↓reduceIte, Nat.reduceEqDiff]
end
end Go.AM

/- Chains by both packages: sizes. -/
namespace Go.AM
open Go Go.RowKit
structure Fit (s N Kg Kq K : Nat) (p : List Rat) : Prop where
 H : HL s s p
 t : Trm p
 n : p.length ≤ N
 N9 : 1 ≤ N ∧ N ≤ 40
 g : (s + 2) * 3 ^ N ≤ Kg
 q : s + N * (Kg + 1) + Kg + 1 ≤ Kq
 f : (Kq + 2) * 3 ^ (N - 1) ≤ K
 l : (s + 2) * 3 ^ N ≤ K ∧ s + 2 ≤ Kg ∧ Kg ≤ Kq ∧ Kq + 2 ≤ K ∧ K ≤ 200000000
section
variable {s N Kg Kq K : Nat} {p : List Rat}
theorem Fit.d (F : Fit s N Kg Kq K p) : HL (s + 1) (s + 1) (deP p) := (F.H.de (by have := F.n; have := F.N9; have : BB = 1000000000 := rfl; omega)).mono (by omega) (by omega)
theorem Fit.gcd (F : Fit s N Kg Kq K p) (p0 : p ≠ []) : gcG Kg ((deP p).length + 1) (mnP p) (mnP (deP p)) ∧ gcH Kg ((deP p).length + 1) (mnP p) (mnP (deP p)) ∧ HL Kg Kg (gcdP p (deP p)) := by
 have l1 := Qh6 F.t
 have l2 := Qh6 (Qh1 p)
 have ld := de_lenE F.t
 have hp := List.length_pos_iff.2 p0
 have hn := F.n
 have h2 : (s + 1 + 1) * (dvN (mnP p) (mnP (deP p)) + 1) * 3 ^ (mnP (deP p)).length ≤ Kg := by
  refine Nat.le_trans ?_ F.g
  rw [Nat.mul_assoc]
  refine Nat.mul_le_mul_left _ ?_
  have h3 : (dvN (mnP p) (mnP (deP p)) + 1) * 3 ^ (mnP (deP p)).length = 3 ^ p.length := by
   have e : dvN (mnP p) (mnP (deP p)) + 1 = 3 := by unfold dvN; omega
   rw [e, l2, ld, show p.length = (p.length - 1) + 1 by omega, Nat.pow_succ, Nat.add_sub_cancel, Nat.mul_comm]
  rw [h3]
  exact Nat.pow_le_pow_right (by decide) hn
 exact gc_pot (K := Kg) ((deP p).length + 1) (s + 1) (mnP p) (mnP (deP p)) ((Qow F.H F.t).mono (by omega) (by omega)) (Qow F.d (Qh1 p)) (QhQ _) (by omega) h2
theorem Fit.quo (F : Fit s N Kg Kq K p) (p0 : p ≠ []) : HL Kq Kq (quoP p (gcdP p (deP p))) ∧ dvG Kq (gcdP p (deP p)) (dvN p (gcdP p (deP p))) p ∧ (HL s s (frP p) ∨ (frP p).length ≤ N - 1) := by
 obtain ⟨_, _, Hg⟩ := F.gcd p0
 have ng := gcd_ne F.t (Qh1 p) (.inl p0)
 have hl := List.length_pos_iff.2 ng
 have hn := F.n
 have hq := F.q
 have hm : dvN p (gcdP p (deP p)) ≤ N := by unfold dvN; omega
 have h1 : dvN p (gcdP p (deP p)) * Kg ≤ N * Kg := Nat.mul_le_mul_right _ hm
 have h2 : dvN p (gcdP p (deP p)) * (Kg + 1) ≤ N * (Kg + 1) := Nat.mul_le_mul_right _ hm
 have h3 : N * (Kg + 1) = N * Kg + N := Nat.mul_succ _ _
 obtain ⟨x, _, z⟩ := Qoi (K := Kq) F.H Hg Qm2 (by omega)
 refine ⟨z.mono (by omega) (by omega), x, ?_⟩
 by_cases l1 : (gcdP p (deP p)).length = 1
 ·left
  have e : gcdP p (deP p) = [1] := mo_len1 (mo_gcd F.t (Qh1 p)) l1
  unfold frP
  rw [e, quo_17 p F.t]
  exact Qow F.H F.t
 ·right
  unfold frP
  have k1 := Qez (quoP p (gcdP p (deP p)))
  have k2 := QkZ p (gcdP p (deP p))
  unfold dvN at k2
  omega
theorem Fit.free (F : Fit s N Kg Kq K p) (p0 : p ≠ []) : HL Kq Kq (frP p) ∧ (frP p).length ≤ N := by
 obtain ⟨a, _, _⟩ := F.quo p0
 exact ⟨Qow a (QmX _ _), Nat.le_trans (dv_len (QqG p) F.t p0 (frP_dv F.t p0)) F.n⟩
theorem Fit.chain (F : Fit s N Kg Kq K p) (p0 : p ≠ []) : ChOk K p.length (frP p) (deP (frP p)) ∧ ∀ q ∈ chP p, SzL K q ∧ q.length ≤ N := by
 have hBB : BB = 1000000000 := rfl
 obtain ⟨Q, nf⟩ := F.free p0
 obtain ⟨_, _, F2⟩ := F.quo p0
 have nd := de_lenE (QqG p)
 have pl := List.length_pos_iff.2 p0
 have fl := dv_len (QqG p) F.t p0 (frP_dv F.t p0)
 have fpos := List.length_pos_iff.2 (frP_ne F.t p0)
 have l := F.l
 have N9 := F.N9
 have key : ∀ r M, HL r r (frP p) → HL r r (deP (frP p)) → (frP p).length ≤ M → (r + 1) * 3 ^ M ≤ K → ChOk K p.length (frP p) (deP (frP p)) ∧ ∀ q ∈ chL p.length (frP p) (deP (frP p)), SzL K q ∧ q.length ≤ (deP (frP p)).length := by
  intro r M h1 h2 hM hK
  refine ch_pot p.length r (frP p) (deP (frP p)) h1 h2 (Qh1 _) (by omega) (by omega) ?_
  rw [Nat.mul_assoc]
  refine Nat.le_trans (Nat.mul_le_mul_left _ ?_) hK
  have h3 : (dvN (frP p) (deP (frP p)) + 1) * 3 ^ (deP (frP p)).length = 3 ^ (frP p).length := by
   have e : dvN (frP p) (deP (frP p)) + 1 = 3 := by unfold dvN; omega
   rw [e, nd, show (frP p).length = ((frP p).length - 1) + 1 by omega, Nat.pow_succ, Nat.add_sub_cancel, Nat.mul_comm]
  rw [h3]
  exact Nat.pow_le_pow_right (by decide) hM
 have k : ChOk K p.length (frP p) (deP (frP p)) ∧ ∀ q ∈ chL p.length (frP p) (deP (frP p)), SzL K q ∧ q.length ≤ (deP (frP p)).length := by
  rcases F2 with F2 | F2
  ·exact key (s + 1) N (F2.mono (by omega) (by omega)) ((F2.de (by omega)).mono (by omega) (by omega)) nf l.1
  ·exact key (Kq + 1) (N - 1) (Q.mono (by omega) (by omega)) ((Q.de (by omega)).mono (by omega) (by omega)) F2 F.f
 refine ⟨k.1, fun q hq => ?_⟩
 rw [chP, if_neg p0] at hq
 rcases List.mem_cons.1 hq with rfl | hq
 ·exact ⟨Q.sz.mono (by omega), nf⟩
 ·exact ⟨(k.2 q hq).1, by have := (k.2 q hq).2; omega⟩
theorem Fit.clen (F : Fit s N Kg Kq K p) : (chP p).length ≤ N + 1 := by
 have := F.n
 unfold chP
 split
 ·simp
 ·rw [List.length_cons]; have := chL_len p.length (frP p) (deP (frP p)); omega
end
section
variable [Its] {s N Kg Kq K : Nat} {dp : D} {p : List Rat}
theorem Fit.sChain (F : Fit s N Kg Kq K p) (hp : RwR dp p) (p0 : p ≠ []) : ∃ ds, Dls ds (chP p) ∧ Qai G QbK [dp] = some (.own 1 ds.length ds) := by
 have hn := F.n
 have N9 := F.N9
 have l := F.l
 have gl := QrL (M := N) (b := deP p) hn (by have := Qmj p; omega)
 obtain ⟨g1, _, Hg⟩ := F.gcd p0
 obtain ⟨z, x, _⟩ := F.quo p0
 obtain ⟨Q, nf⟩ := F.free p0
 have fr := Qge hp (by omega) (K := Kq + 1) (by omega) (by omega) (F.H.sz.mono (by omega)) (F.d.sz.mono (by omega)) (QkY (by omega) _ _ _ g1) (by omega) (Hg.sz.mono (by omega)) (Qjl (by omega) _ _ x) (z.sz.mono (by omega))
 exact QiF (K := K) p0 (by omega) fr (frP_ne F.t p0) (by omega) (Q.sz.mono (by omega)) (F.chain p0).1 (by omega) (by omega)
theorem Fit.rChain (F : Fit s N Kg Kq K p) (hp : RwR dp p) (p0 : p ≠ []) : ∃ ds, Dls ds (chP p) ∧ Qai G QcL [dp] = some (.own 1 ds.length ds) := by
 have hn := F.n
 have N9 := F.N9
 have l := F.l
 obtain ⟨g1, g2, Hg⟩ := F.gcd p0
 obtain ⟨z, x, _⟩ := F.quo p0
 obtain ⟨Q, nf⟩ := F.free p0
 have fr := Qqh hp F.t Qm2 (by omega) (K := Kq + 1) (by omega) (by omega) (F.H.sz.mono (by omega)) (F.d.sz.mono (by omega)) (QkY (by omega) _ _ _ g1) (QrK (by omega) _ _ _ g2) (Hg.mono (by omega) (by omega)) (Hg.sz.mono (by omega)) (Qjl (by omega) _ _ x) (z.sz.mono (by omega))
 exact QpC (K := K) hp p0 (by omega) fr (QqG p) (by omega) (Q.sz.mono (by omega)) (F.chain p0).1 (by omega) (by omega)
theorem Qsn (hp : RwR dp []) : Qai G QcL [dp] = some (.d (.z true)) := by
 rw [Qad (cf := QcC) rfl]
 have lp := hp.len
 simp only [List.length_nil] at lp
 have e1 : ((0 : Int) == 0) = true := rfl
 simp -implicitDefEqProofs (maxSteps:=9^8) only [QcC, lp, e1, Qaa, go_sem, iv, bv, reduceCtorEq, ↓reduceIte, Nat.reduceEqDiff]
end
end Go.AM

/- law07.SturmChains: one round. -/
namespace Go.AM
open Go Go.RowKit
def Fits (K : Nat) (p : List Rat) : Prop := p = [] ∨ (p ≠ [] ∧ ∃ s N Kg Kq, Fit s N Kg Kq K p)
theorem fit_s {s N Kg Kq K : Nat} {p : List Rat} (F : Fit s N Kg Kq K p) : s ≤ 200000000 ∧ p.length ≤ 40 := by
 have := F.l; have := F.n; have := F.N9; omega
def Qoc (dl : D) (a : Rat) (i : Int) : St := mkS [(10, .ptr [10] 0), (11, .d dl), (12, ai i)] [([10], boxR a)]
def lc_en (dl : D) (a : Rat) : St := mkS [(10, .ptr [10] 0), (11, .d dl)] [([10], boxR a)]
variable [Its]
section
variable {dl : D} {ps : List (List Rat)} {a : Rat} {K : Nat}
theorem lc_item (hK : 1000000 ≤ K) (hK2 : K ≤ 200000000) (ha : sz a ≤ 2) {dp : D} {p : List Rat} (hp : RwR dp p) (F : Fits K p) :
    Qai G QcP [dp] = some (.d (encR (bdR p))) ∧ Qai G QcN [dp] = some (.d (encR (bdR p))) ∧ sz (bdR p) ≤ 100000000000 := by
  have key : ∀ L : Nat, 1 ≤ L → L ≤ 200000001 → SzL L p → p.length ≤ 1000 → Qai G QcP [dp] = some (.d (encR (bdR p))) ∧ Qai G QcN [dp] = some (.d (encR (bdR p))) ∧ sz (bdR p) ≤ 100000000000 := by
    intro L h1 h2 h3 h4
    refine ⟨Qi1 hp h4 h3 h1 (by omega), Qqb hp h4 h3 h1 (by omega), ?_⟩
    have s1 := QmU h3 h1 (p.length - 1)
    have s2 := Qky (a := bdF p (p.length - 1)) (b := 1)
    have s3 := QhG
    unfold bdR
    omega
  rcases F with rfl | ⟨p0, s, N, Kg, Kq, F⟩
  · exact key 1 (by omega) (by omega) (fun q hq => by simp at hq) (by simp)
  · obtain ⟨f1, f2⟩ := fit_s F
    exact key 200000001 (by omega) (by omega) (F.H.sz.mono (by omega)) (by omega)
theorem lc_stop : X G QaF (Qoc dl a 4) = some (.x 0, lc_en dl a) := by
 have e1 : decide ((4 : Int) < 4) = false := rfl
 simp -implicitDefEqProofs (maxSteps:=9^8) only [QaF, Qoc, lc_en, boxR, e1, Qaa, go_sem, iv, bv, reduceCtorEq, ↓reduceIte, Nat.reduceEqDiff]
variable [ItsB]
theorem lc_go (hl : RwC dl ps) (n4 : ps.length = 4) {i : Nat} (hi : i < ps.length) (F : Fits K (ps.getD i [])) (hK : 1000000 ≤ K) (hK2 : K ≤ 200000000) (ha : sz a ≤ 2) :
    X G QaF (Qoc dl a i) = some (.n, Qoc dl a ((i + 1 : Nat) : Int)) := by
  have e1 : decide ((i : Int) < 4) = true := lt_t (by omega)
  have e2 : w64 ((i : Int) + 1) = ((i + 1 : Nat) : Int) := by rw [Qae (by omega) (by omega)]; rfl
  obtain ⟨dp, r, hp, x1, x2⟩ := hl.at hi
  generalize ps.getD i [] = p at *
  obtain ⟨b1, b2, b3⟩ := lc_item hK hK2 ha hp F
  have b4 := QpX b3
  rcases F with rfl | ⟨p0, s, N, Kg, Kq, F⟩
  · have g1 := Qsm hp
    have g2 := Qsn hp
    have g3 := QjR RwC.nil RwC.nil (by simp) (fun p hp => by simp at hp)
    have g4 := QdK (K := 100) (x := a) RwC.nil (by simp) (fun p hp => by simp at hp) (by omega) (by omega)
    have g5 := QgC (K := 1000000) (x := a) RwC.nil (by simp) (fun p hp => by simp at hp) (by omega) (by omega) (by omega)
    generalize chg [] a = c at *
    have t : ((c : Int) != (c : Int)) = false := QoM rfl
    generalize bdR [] = bb at *
    clear hp
    simp only [encR, iv, bv] at g3 g4 g5 b1 b2 b4
    simp -implicitDefEqProofs (maxSteps:=9^8) only [QaF, Qoc, boxR, x1, x2, e1, e2, g1, g2, g3, g4, g5, t, b1, b2, b4, ld4q, Qaa, go_sem, iv, bv, reduceCtorEq, ↓reduceIte, Nat.reduceEqDiff]
  · obtain ⟨ds, hd, g1⟩ := F.sChain hp p0
    obtain ⟨es, he, g2⟩ := F.rChain hp p0
    have hc := (F.chain p0).2
    have cl := F.clen
    have N9 := F.N9
    have g3 := QjR hd.rwc he.rwc (by omega) (fun q hq => ⟨(hc q hq).1.mono (by omega), by have := (hc q hq).2; omega⟩)
    have g4 := QdK (K := K) (x := a) he.rwc (by omega) (fun q hq => ⟨(hc q hq).1, Nat.le_trans (Nat.mul_le_mul (show q.length ≤ 40 from Nat.le_trans (hc q hq).2 N9.2) (show 2 * K + 1 ≤ 400000001 by omega)) (by decide)⟩) (by omega) (by omega)
    have g5 := QgC (K := K) (x := a) he.rwc (by omega) (fun q hq => ⟨(hc q hq).1, Nat.le_trans (hc q hq).2 N9.2⟩) (by omega) (by omega) (by omega)
    generalize chg (chP p) a = c at *
    have t : ((c : Int) != (c : Int)) = false := QoM rfl
    generalize bdR p = bb at *
    have k2 := hd.rwc.len
    clear hp hc hd he
    simp only [encR, iv, bv] at g3 g4 g5 b1 b2 b4
    simp -implicitDefEqProofs (maxSteps:=9^8) only [QaF, Qoc, boxR, x1, x2, e1, e2, g1, g2, g3, g4, g5, t, b1, b2, b4, ld4q, Qaa, go_sem, iv, bv, reduceCtorEq, ↓reduceIte, Nat.reduceEqDiff]
theorem lc_loop (hl : RwC dl ps) (n4 : ps.length = 4) (F : ∀ p ∈ ps, Fits K p) (hK : 1000000 ≤ K) (hK2 : K ≤ 200000000) (ha : sz a ≤ 2) : ∀ (j i : Nat), i + j = 4 → X G (.loop QaF) (Qoc dl a i) = some (.x 0, lc_en dl a)
 | 0, i, h => by
  have : i = 4 := by omega
  subst this
  rw [Qah, show ((4 : Nat) : Int) = 4 from rfl, lc_stop]; rfl
 | j + 1, i, h => by
  have hi : i < ps.length := by omega
  rw [Qah, lc_go hl n4 hi (F _ (by rw [List.getD_eq_getElem?_getD, List.getElem?_eq_getElem hi]; exact List.getElem_mem hi)) hK hK2 ha, Option.bind_some, if_pos rfl]
  exact lc_loop hl n4 F hK hK2 ha j (i + 1) (by omega)
end
end Go.AM

/- ref07.Made: a polynomial with known zeros. -/
namespace Go.AM
open Go Go.RowKit
theorem Qlo : A.bool? (.d (.v (.tuple #[]))) = none := rfl
def kZ : List Rat → Rat → Nat
 | [], _ => 0
 | a :: l, z => if a < z then kZ l z + 1 else 0
def insZ (zs : List Rat) (z : Rat) : List Rat := if kZ zs z < zs.length ∧ zs.getD (kZ zs z) 0 = z then zs else zs.take (kZ zs z) ++ z :: zs.drop (kZ zs z)
theorem kZ_le : ∀ (l : List Rat) (z : Rat), kZ l z ≤ l.length
 | [], z => Nat.le_refl _
 | a :: l, z => by
  rw [kZ]
  have := kZ_le l z
  split
  ·rw [List.length_cons]; omega
  ·omega
theorem insZ_len (zs : List Rat) (z : Rat) : (insZ zs z).length ≤ zs.length + 1 := by
 unfold insZ
 split
 ·omega
 ·have := kZ_le zs z
  simp only [List.length_append, List.length_take, List.length_cons, List.length_drop]; omega
theorem insZ_mem {zs : List Rat} {z q : Rat} (h : q ∈ insZ zs z) : q ∈ zs ∨ q = z := by
 unfold insZ at h
 split at h
 ·exact .inl h
 ·rcases List.mem_append.1 h with h | h
  ·exact .inl (List.mem_of_mem_take h)
  ·rcases List.mem_cons.1 h with h | h
   ·exact .inr h
   ·exact .inl (List.mem_of_mem_drop h)
def kst (d : D) (w : Int) (dp dz : D) (i : Int) (z : Rat) (k : Int) : St := mkS [(0, .d d), (1, ai w), (6, .d dp), (7, .d dz), (8, ai i), (9, .ptr [9] 0), (10, ai k)] [([9], boxR z)]
def mdo (d : D) (w : Int) (dp dz : D) (i : Int) : St := mkS [(0, .d d), (1, ai w), (6, .d dp), (7, .d dz), (8, ai i)] []
def mde (w : Int) (dp dz : D) : St := mkS [(1, ai w), (6, .d dp), (7, .d dz)] []
variable [Its]
section
variable {d dp dz : D} {w : Int} {zs : List Rat} {z : Rat}
theorem mk_go (hz : RwR dz zs) (nz : zs.length ≤ 1000) (sz1 : SzL 1000 zs) (hs : sz z ≤ 1000) {i : Int} {k : Nat} (hk : k < zs.length) :
    X G Qbk (kst d w dp dz i z k) = if zs.getD k 0 < z then some (.n, kst d w dp dz i z ((k + 1 : Nat) : Int)) else some (.x 2, kst d w dp dz i z k) := by
  have e1 : decide ((k : Int) < (zs.length : Int)) = true := lt_t (by omega)
  have e2 : w64 ((k : Int) + 1) = ((k + 1 : Nat) : Int) := by rw [Qae (by omega) (by omega)]; rfl
  obtain ⟨m, hm⟩ : ∃ m : Int, (zs.length : Int) - 1 = m := ⟨_, rfl⟩
  have e3 : w64 ((zs.length : Int) - 1) = m := by rw [Qae (by omega) (by omega), hm]
  have e4 : (if m < (k : Int) then m else (k : Int)) = (k : Int) := if_neg (by omega)
  have ll := hz.len
  have x1 := hz.ixa hk
  have x2 := fun h => ldR h zs hk
  have s1 := sz1.getD (by omega) k
  have g1 := QfA (a := zs.getD k 0) (b := z) (by omega) (by omega)
  have t := cmpR_lt (a := zs.getD k 0) (b := z)
  generalize zs.getD k 0 = u at *
  generalize cRs (zs.drop k) = cs at *
  generalize cmpR u z = c at *
  simp only [encR, iv] at g1 x2
  by_cases h : u < z
  · have t1 : decide (c < 0) = true := lt_t (t.2 h)
    rw [if_pos h]
    simp -implicitDefEqProofs (maxSteps:=9^8) only [Qbk, kst, boxR, mnV, Qe8, ll, x1, x2, g1, e1, e2, e3, e4, t1, ld4q, Qaa, go_sem, iv, bv, reduceCtorEq, ↓reduceIte, Nat.reduceEqDiff]
  · have t1 : decide (c < 0) = false := lt_f (fun h2 => h (t.1 h2))
    rw [if_neg h]
    simp -implicitDefEqProofs (maxSteps:=9^8) only [Qbk, kst, boxR, mnV, Qe8, ll, x1, x2, g1, e1, e2, e3, e4, t1, ld4q, Qaa, go_sem, iv, bv, reduceCtorEq, ↓reduceIte, Nat.reduceEqDiff]
theorem mk_stop (hz : RwR dz zs) {i : Int} : X G Qbk (kst d w dp dz i z zs.length) = some (.x 2, kst d w dp dz i z zs.length) := by
 have e1 : decide ((zs.length : Int) < (zs.length : Int)) = false := lt_f (by omega)
 have ll := hz.len
 simp -implicitDefEqProofs (maxSteps:=9^8) only [Qbk, kst, boxR, ll, e1, Qlo, decide_false, Bool.false_eq_true, if_false, Qaa, go_sem, iv, bv, reduceCtorEq, ↓reduceIte, Nat.reduceEqDiff]
theorem mk_loop (hz : RwR dz zs) (nz : zs.length ≤ 1000) (sz1 : SzL 1000 zs) (hs : sz z ≤ 1000) {i : Int} : ∀ (j k : Nat), j + k = zs.length →
    X G (.loop Qbk) (kst d w dp dz i z k) = some (.x 2, kst d w dp dz i z ((k + kZ (zs.drop k) z : Nat) : Int))
  | 0, k, h => by
    have : k = zs.length := by omega
    subst this
    rw [Qah, mk_stop hz, List.drop_length]; rfl
  | j + 1, k, h => by
    have hk : k < zs.length := by omega
    have e : zs.drop k = zs.getD k 0 :: zs.drop (k + 1) := by
      rw [List.drop_eq_getElem_cons hk, List.getD_eq_getElem?_getD, List.getElem?_eq_getElem hk]; rfl
    rw [Qah, mk_go hz nz sz1 hs hk, e, kZ]
    by_cases h2 : zs.getD k 0 < z
    · rw [if_pos h2, if_pos h2, Option.bind_some, if_pos rfl, mk_loop hz nz sz1 hs j (k + 1) (by omega)]
      rw [show k + 1 + kZ (zs.drop (k + 1)) z = k + (kZ (zs.drop (k + 1)) z + 1) by omega]
    · rw [if_neg h2, if_neg h2, Option.bind_some]; rfl
end
end Go.AM

/- ref07.Made: one round, the loop, the function. -/
namespace Go.AM
open Go Go.RowKit
noncomputable def mdR (s : List Rat × List Rat) (z : Rat) : List Rat × List Rat := (muP s.1 (QaK [-z, 1]), insZ s.2 z)
theorem QjA (l : List D) (a b c e : D) : allD (l.map A.d ++ [.d a, .d b, .d c, .d e]) = some (l ++ [a, b, c, e]) := by
 have h : l.map A.d ++ [.d a, .d b, .d c, .d e] = (l ++ [a, b, c, e]).map A.d := by simp
 rw [h, Qd1]
theorem Qpe (ks : List Key) (l : List D) (a b c e : D) : Qdi ks (l.map A.d ++ [.d a, .d b, .d c, .d e]) = true := by
 have h : l.map A.d ++ [.d a, .d b, .d c, .d e] = (l ++ [a, b, c, e]).map A.d := by simp
 rw [h, Qgj]
theorem len_app4 (l : List D) (a b c e : A) (k : Nat) (h : l.length = k * 4) : ((l.map A.d ++ [a, b, c, e]).length = (k + 1) * 4) = True := eq_true (by rw [List.length_append, List.length_map, h]; simp only [List.length_cons, List.length_nil]; omega)
theorem ins_row (A B : List Rat) (z : Rat) (n : Nat) (h : n = A.length + 1 + B.length) : RwR (.row n (cRs A ++ [.v (.bool (decide (z.num < 0))), dg (digs z.num.natAbs), .v (.bool false), dg (dd z.den)] ++ cRs B)) (A ++ z :: B) := by
 right
 have e : A ++ z :: B = A ++ [z] ++ B := by simp
 rw [e, rowR, Qie, Qie, h]
 congr 1
 simp only [List.length_append, List.length_cons, List.length_nil]
variable [Its]
section
variable {d dp dz : D} {w : Int} {zs l : List Rat} {p : List Rat} {z : Rat}
theorem md_round {lI : List Int} (hr : Rw d lI) (hz : RwR dz zs) (nz : zs.length ≤ 1000) (sz1 : SzL 1000 zs) {i : Nat} (hi : i < lI.length) (hi4 : i < 4) (hx : I64 (lI.getD i 0)) (e : smR (lI.getD i 0) = z) (hp : RwR dp p) (Hp : HL 100 100 p) (np : p.length ≤ 100) :
    ∃ d' dz', RwR d' (muP p (QaK [-z, 1])) ∧ RwR dz' (insZ zs z) ∧ X G Qax (mdo d w dp dz i) = some (.n, mdo d w d' dz' ((i + 1 : Nat) : Int)) := by
  have Hz : H1 1 1 z := by rw [← e]; exact Qn8 _
  have hs : sz z ≤ 2 := Hz.sz
  have F2 : HL 1 1 [-z, 1] := (HL.cons Hz.neg (HL.one H1.one)).mono (by omega) (by omega)
  obtain ⟨d1, r1, g1⟩ := Qb6 (RwR.row [-z, 1]) (by simp only [List.length_cons, List.length_nil]; omega) (F2.sz.mono (by omega))
  have n1 : (QaK [-z, 1]).length ≤ 2 := QbZ _
  obtain ⟨d', r2, g2⟩ := QgN hp r1 Hp F2.trim (by omega) (by omega) (by omega) (by omega)
  have g3 := QhV (a := z) (by omega)
  have o := Qj8
  have gS := QfJ hx
  rw [e] at gS
  have e1 : decide ((i : Int) < (lI.length : Int)) = true := lt_t (by omega)
  have e2 : decide ((i : Int) < 4) = true := lt_t (by omega)
  have e3 : w64 ((i : Int) + 1) = ((i + 1 : Nat) : Int) := by rw [Qae (by omega) (by omega)]; rfl
  have lI' := hr.len
  have y1 := hr.ixn hi
  have y2 := fun h => ldv h lI hi
  have g0 := mk_loop (d := d) (w := w) (dp := d') hz nz sz1 (z := z) (by omega) (i := i) zs.length 0 (by omega)
  rw [List.drop_zero, Nat.zero_add] at g0
  have ll := hz.len
  obtain ⟨m, hm⟩ : ∃ m : Int, (zs.length : Int) - 1 = m := ⟨_, rfl⟩
  have e5 : w64 ((zs.length : Int) - 1) = m := by rw [Qae (by omega) (by omega), hm]
  have z0 : ((0 : Nat) : Int) = 0 := rfl
  rw [z0] at g0
  have kle := kZ_le zs z
  have s1 := sz1.getD (by omega) (kZ zs z)
  have gC := QfA (a := zs.getD (kZ zs z) 0) (b := z) (by omega) (by omega)
  have tt := cmpR_eq (a := zs.getD (kZ zs z) 0) (b := z)
  have hx1 : kZ zs z < zs.length → ∀ h, ixaA h 4 ((kZ zs z : Nat) : Int) (.d dz) = some (.d (.rp (cRs (zs.drop (kZ zs z))))) := fun hk => hz.ixa hk
  have hx2 : kZ zs z < zs.length → ∀ h, Qcu h (some 4) (.d (.rp (cRs (zs.drop (kZ zs z))))) = some (.d (encR (zs.getD (kZ zs z) 0))) := fun hk h => ldR h zs hk
  have hA : (zs.take (kZ zs z)).length = kZ zs z := by rw [List.length_take]; omega
  have hB : (zs.drop (kZ zs z)).length = zs.length - kZ zs z := List.length_drop
  have T1 : (cRs zs).take (kZ zs z * 4) = cRs (zs.take (kZ zs z)) := Qjv _ _
  have T2 : ((cRs zs).drop (kZ zs z * 4)).take ((zs.length - kZ zs z) * 4) = cRs (zs.drop (kZ zs z)) := by
    rw [Qjr, ← hB, ← QdD]; exact List.take_length
  unfold insZ
  refine ⟨d', ?_⟩
  have q1 := Qix (digs z.num.natAbs)
  have q2 := Qix (dd z.den)
  have b4 : (4 = 1 * 4) = True := eq_true rfl
  have b64 : (1 * 64 ≤ bound) = True := eq_true (by unfold bound; omega)
  have b0 : (0 ≤ bound) = True := eq_true (by omega)
  generalize kZ zs z = k at *
  generalize zs.getD k 0 = u at *
  generalize cmpR u z = c at *
  generalize lI.getD i 0 = x at *
  clear Hz F2 Hp e hp sz1 s1
  simp only [rowR, cRs, List.length_cons, List.length_nil, Nat.reduceAdd] at g1
  have e6 : decide ((k : Int) < (zs.length : Int)) = decide (k < zs.length) := by simp
  by_cases hk : k < zs.length ∧ u = z
  · rw [if_pos hk]
    refine ⟨dz, r2, hz, ?_⟩
    have x1 := hx1 hk.1
    have x2 := hx2 hk.1
    have t1 : (c == 0) = true := QjW (tt.2 hk.2)
    rw [decide_eq_true hk.1] at e6
    have e4 : (if m < (k : Int) then m else (k : Int)) = (k : Int) := if_neg (by omega)
    clear tt T1 T2 hA hB r1 r2 n1
    generalize -z = nz' at *
    generalize (1 : Rat) = one at *
    generalize cRs (zs.drop k) = cs at *
    simp only [encR, iv] at gC x2 g3 o gS
    simp only [kst, boxR, go_sem] at g0
    simp -implicitDefEqProofs (maxSteps:=9^8) only [Qax, mdo, mnV, Qe8, lI', y1, y2, ll, x1, x2, g0, g1, g2, g3, gS, gC, o, e1, e2, e3, e4, e5, e6, t1, Ql8, st4q, ld4q, Qaa, go_sem, iv, bv, reduceCtorEq, ↓reduceIte, Nat.reduceEqDiff]
  · rw [if_neg hk]
    have ir := ins_row (zs.take k) (zs.drop k) z
    have qqB := Qp3 (zs.drop k)
    have lA := QdD (zs.take k)
    have lB := QdD (zs.drop k)
    rw [hA] at lA
    rw [hB] at lB
    have he4 : k < zs.length → (if m < (k : Int) then m else (k : Int)) = (k : Int) := fun h => if_neg (by omega)
    have ht1 : k < zs.length → (c == 0) = false := fun h => QcG (fun h2 => hk ⟨h, tt.1 h2⟩)
    clear tt hk
    have hz2 : (dz = .z true ∧ zs = []) ∨ dz = .row zs.length (cRs zs) := hz
    clear hz
    rcases hz2 with ⟨hz2, hz3⟩ | hz2
    · subst hz2
      subst hz3
      have hk0 : k = 0 := by simpa using kle
      subst hk0
      simp only [List.length_nil] at e5 e6 ll
      refine ⟨_, r2, ir (1 + 0) rfl, ?_⟩
      clear r1 r2 n1 ir hx1 hx2 he4 ht1 T1 T2 hA hB lA lB qqB
      have e6 : decide ((0 : Int) < 0) = false := rfl
      generalize -z = nz' at *
      generalize (1 : Rat) = one at *
      simp only [encR, iv] at gC g3 o gS
      simp only [kst, boxR, z0, go_sem] at g0
      simp -implicitDefEqProofs (maxSteps:=9^8) only [Qax, mdo, lI', y1, y2, ll, g0, g1, g2, g3, gS, o, e1, e2, e3, e6, b4, b64, b0, z0, q1, q2, Qlo, decide_false, Bool.false_eq_true, if_false, List.take_nil, List.drop_nil, cRs, Qdi, List.all_nil, List.all_cons, Bool.and_self, List.append_nil, List.nil_append, Nat.zero_le, Int.le_refl, and_self, if_true, src, srcS, allD, Qbg, ne_eq, not_true, not_false_eq_true, Nat.le_refl, Nat.add_zero, QeP, Qcn, QgI, Ql8, st4q, ld4q, Qaa, go_sem, iv, bv, reduceCtorEq, ↓reduceIte, Nat.reduceEqDiff]
    · subst hz2
      have c1 : ((0 : Int) ≤ (k : Int)) = True := eq_true (by omega)
      have c2 : ((k : Int) ≤ (zs.length : Int)) = True := eq_true (by omega)
      have c3 : (k * 64 ≤ bound) = True := eq_true (by unfold bound; omega)
      have c4 : ((cRs (zs.take k)).length = k * 4) = True := eq_true lA
      have c5 : ((cRs (zs.drop k)).length = (zs.length - k) * 4) = True := eq_true lB
      have c6 : ((k + 1 + (zs.length - k)) * 64 ≤ bound) = True := eq_true (by unfold bound; omega)
      have c7 : ((1 + (zs.length - k)) * 64 ≤ bound) = True := eq_true (by unfold bound; omega)
      have c8 : ((k + 1) * 64 ≤ bound) = True := eq_true (by unfold bound; omega)
      have c9 : ((cRs (zs.take k)).length + (0 + 1 + 1 + 1 + 1) = (k + 1) * 4) = True := eq_true (by rw [lA]; omega)
      have c10 : ((List.map A.d (cRs (zs.take k))).length = k * 4) = True := eq_true (by rw [List.length_map]; exact lA)
      have c11 := fun a b c e => len_app4 (cRs (zs.take k)) a b c e k lA
      have qqA := Qa0 [[77]] (zs.take k)
      by_cases hk0 : k = 0
      · subst hk0
        have hA0 : zs.take 0 = [] := rfl
        rw [hA0] at *
        refine ⟨_, r2, ir (1 + (zs.length - 0)) (by rw [hB]; rfl), ?_⟩
        by_cases hn : 0 < zs.length
        · have x1 := hx1 hn
          have x2 := hx2 hn
          have e4 := he4 hn
          have t1 := ht1 hn
          rw [decide_eq_true hn] at e6
          clear hx1 hx2 he4 ht1
          clear r1 r2 n1 ir hA hB lA lB
          generalize cRs (zs.drop 0) = cb at *
          generalize cRs zs = cz at *
          generalize zs.length = n at *
          generalize -z = nz' at *
          generalize (1 : Rat) = one at *
          simp only [z0, Nat.zero_mul, List.drop_zero, List.take_zero, Nat.sub_zero] at T1 T2 c1 c2 c3 c4 c5 c6 c7 c8 c9 e6 x1 x2 e4 t1 g0
          simp only [encR, iv] at gC x2 g3 o gS
          simp only [kst, boxR, go_sem] at g0
          simp -implicitDefEqProofs (maxSteps:=9^8) only [Qax, mdo, mnV, Qe8, lI', y1, y2, ll, x1, x2, gC, e4, t1, g0, g1, g2, g3, gS, o, e1, e2, e3, e5, e6, b4, b64, b0, z0, q1, q2, T2, c1, c2, c3, c4, c5, c6, c7, c8, c9, qqA, qqB, Qlo, decide_false, Bool.false_eq_true, if_false, cRs, Qdi, List.all_nil, List.all_cons, Bool.and_self, List.append_nil, List.nil_append, Nat.zero_le, Int.le_refl, and_self, if_true, src, srcS, allD, QjA, Qbg, ne_eq, not_true, not_false_eq_true, Nat.le_refl, Nat.add_zero, QeP, Qcn, Qgj, QgI, Ql8, st4q, ld4q, Qaa, go_sem, iv, bv, reduceCtorEq, ↓reduceIte, Nat.reduceEqDiff]
        · rw [decide_eq_false hn] at e6
          clear hx1 hx2 he4 ht1
          clear r1 r2 n1 ir hA hB lA lB
          generalize cRs (zs.drop 0) = cb at *
          generalize cRs zs = cz at *
          generalize zs.length = n at *
          generalize -z = nz' at *
          generalize (1 : Rat) = one at *
          simp only [z0, Nat.zero_mul, List.drop_zero, List.take_zero, Nat.sub_zero] at T1 T2 c1 c2 c3 c4 c5 c6 c7 c8 c9 e6 g0
          simp only [encR, iv] at gC g3 o gS
          simp only [kst, boxR, go_sem] at g0
          simp -implicitDefEqProofs (maxSteps:=9^8) only [Qax, mdo, mnV, Qe8, lI', y1, y2, ll, g0, g1, g2, g3, gS, o, e1, e2, e3, e5, e6, b4, b64, b0, z0, q1, q2, T2, c1, c2, c3, c4, c5, c6, c7, c8, c9, qqA, qqB, Qlo, decide_false, Bool.false_eq_true, if_false, cRs, Qdi, List.all_nil, List.all_cons, Bool.and_self, List.append_nil, List.nil_append, Nat.zero_le, Int.le_refl, and_self, if_true, src, srcS, allD, QjA, Qbg, ne_eq, not_true, not_false_eq_true, Nat.le_refl, Nat.add_zero, QeP, Qcn, Qgj, QgI, Ql8, st4q, ld4q, Qaa, go_sem, iv, bv, reduceCtorEq, ↓reduceIte, Nat.reduceEqDiff]
      · have hk1 : (k = 0) = False := eq_false hk0
        refine ⟨_, r2, ir (k + 1 + (zs.length - k)) (by rw [hA, hB]), ?_⟩
        by_cases hn : k < zs.length
        · have x1 := hx1 hn
          have x2 := hx2 hn
          have e4 := he4 hn
          have t1 := ht1 hn
          rw [decide_eq_true hn] at e6
          clear hx1 hx2 he4 ht1
          clear r1 r2 n1 ir hA hB lA lB
          generalize cRs (zs.drop k) = cb at *
          generalize cRs (zs.take k) = ca at *
          generalize cRs zs = cz at *
          generalize zs.length = n at *
          generalize -z = nz' at *
          generalize (1 : Rat) = one at *
          simp only [encR, iv] at gC x2 g3 o gS
          simp only [kst, boxR, go_sem] at g0
          simp -implicitDefEqProofs (maxSteps:=9^8) only [Qax, mdo, mnV, Qe8, lI', y1, y2, ll, x1, x2, gC, e4, t1, g0, g1, g2, g3, gS, o, e1, e2, e3, e5, e6, b4, b64, b0, z0, q1, q2, T1, T2, c1, c2, c3, c4, c5, c6, c7, c8, c9, c10, c11, qqA, hk1, Qjf, Qpe, qqB, Qlo, decide_false, Bool.false_eq_true, if_false, cRs, Qdi, List.all_nil, List.all_cons, Bool.and_self, List.append_nil, List.nil_append, Nat.zero_le, Int.le_refl, and_self, if_true, src, srcS, allD, QjA, Qbg, ne_eq, not_true, not_false_eq_true, Nat.le_refl, Nat.add_zero, QeP, Qcn, Qgj, QgI, Ql8, st4q, ld4q, Qaa, go_sem, iv, bv, reduceCtorEq, ↓reduceIte, Nat.reduceEqDiff]
        · rw [decide_eq_false hn] at e6
          clear hx1 hx2 he4 ht1
          clear r1 r2 n1 ir hA hB lA lB
          generalize cRs (zs.drop k) = cb at *
          generalize cRs (zs.take k) = ca at *
          generalize cRs zs = cz at *
          generalize zs.length = n at *
          generalize -z = nz' at *
          generalize (1 : Rat) = one at *
          simp only [encR, iv] at gC g3 o gS
          simp only [kst, boxR, go_sem] at g0
          simp -implicitDefEqProofs (maxSteps:=9^8) only [Qax, mdo, mnV, Qe8, lI', y1, y2, ll, g0, g1, g2, g3, gS, o, e1, e2, e3, e5, e6, b4, b64, b0, z0, q1, q2, T1, T2, c1, c2, c3, c4, c5, c6, c7, c8, c9, c10, c11, qqA, hk1, Qjf, Qpe, qqB, Qlo, decide_false, Bool.false_eq_true, if_false, cRs, Qdi, List.all_nil, List.all_cons, Bool.and_self, List.append_nil, List.nil_append, Nat.zero_le, Int.le_refl, and_self, if_true, src, srcS, allD, QjA, Qbg, ne_eq, not_true, not_false_eq_true, Nat.le_refl, Nat.add_zero, QeP, Qcn, Qgj, QgI, Ql8, st4q, ld4q, Qaa, go_sem, iv, bv, reduceCtorEq, ↓reduceIte, Nat.reduceEqDiff]
end
end Go.AM

/- ref07.Made. -/
namespace Go.AM
open Go Go.RowKit
noncomputable def mdF (L : List Int) (s : List Rat × List Rat) : List Rat × List Rat := (L.map smR).foldl mdR s
noncomputable def md0 : List Rat := QaK [Rat.divInt 2 3]
noncomputable def mdP (L : List Int) (w : Int) : List Rat := if w.tmod 2 ≠ 0 then muP (mdF (L.take 4) (md0, [])).1 (QaK [1, 0, 1]) else (mdF (L.take 4) (md0, [])).1
noncomputable def mdZ (L : List Int) : List Rat := (mdF (L.take 4) (md0, [])).2
structure MdI (i : Nat) (s : List Rat × List Rat) : Prop where
 H : HL (1 + i) (1 + 2 * i) s.1
 t : Trm s.1
 n : s.1.length ≤ i + 1
 m : s.2.length ≤ i
 z : ∀ q ∈ s.2, ∃ k, q = smR k
theorem MdI.step {i : Nat} {s : List Rat × List Rat} (M : MdI i s) (hi : i ≤ 10) (x : Int) : MdI (i + 1) (mdR s (smR x)) := by
 have hBB : BB = 1000000000 := rfl
 have F2 : HL 1 1 [-smR x, 1] := (HL.cons (Qn8 x).neg (HL.one H1.one)).mono (by omega) (by omega)
 have n1 : (QaK [-smR x, 1]).length ≤ 2 := QbZ _
 have nm := M.n
 refine ⟨(M.H.mu F2.trim (by omega)).mono (by omega) (by omega), QkI _ _, ?_, ?_, ?_⟩
 ·have := QmC s.1 (QaK [-smR x, 1])
  show (muP s.1 (QaK [-smR x, 1])).length ≤ _
  omega
 ·have := insZ_len s.2 (smR x)
  have := M.m
  show (insZ s.2 (smR x)).length ≤ _
  omega
 ·intro q hq
  rcases insZ_mem hq with h | h
  ·exact M.z q h
  ·exact ⟨x, h⟩
theorem md0_H : HL 1 1 [Rat.divInt 2 3] := HL.one ⟨(3 : Int).natAbs, by decide, by rw [Nat.pow_one]; decide, (Hq.div (n := 2) (d := 3) (by omega)).le (by rw [Nat.pow_one]; decide)⟩
theorem MdI.zero : MdI 0 (md0, []) := ⟨md0_H.trim.mono (by omega) (by omega), Qbc _, QbZ _, Nat.le_refl _, fun q h => by simp at h⟩
theorem MdI.fold : ∀ (L : List Int) {i : Nat} {s : List Rat × List Rat}, MdI i s → i + L.length ≤ 10 → MdI (i + L.length) (mdF L s)
 | [], i, s, M, h => M
 | x :: L, i, s, M, h => by
  rw [List.length_cons] at h
  have := MdI.fold L (M.step (by omega) x) (by omega)
  rw [List.length_cons, show i + (L.length + 1) = i + 1 + L.length by omega]
  exact this
theorem wild_H : HL 0 1 [1, 0, 1] := by
 refine ⟨1, by omega, by simp, fun q hq => ?_⟩
 have hBB : BB = 1000000000 := rfl
 have h1 : Hq 1 (BB ^ 1) 1 := by
  have := (Hq.div (n := 1) (d := 1) (by omega)).le (show (1 : Int).natAbs ≤ BB ^ 1 by rw [Nat.pow_one]; decide)
  rwa [Qci] at this
 have h0 : Hq 1 (BB ^ 1) 0 := by
  have := (Hq.div (n := 0) (d := 1) (by omega)).le (show (0 : Int).natAbs ≤ BB ^ 1 by simp)
  rwa [Qci] at this
 simp only [List.mem_cons, List.not_mem_nil, or_false] at hq
 rcases hq with rfl | rfl | rfl
 ·exact h1
 ·exact h0
 ·exact h1
theorem mdP_ok (L : List Int) (w : Int) : HL 5 11 (mdP L w) ∧ Trm (mdP L w) ∧ (mdP L w).length ≤ 7 := by
 have hBB : BB = 1000000000 := rfl
 have l4 : (L.take 4).length ≤ 4 := List.length_take_le _ _
 have M := MdI.fold (L.take 4) MdI.zero (by omega)
 have n1 : (QaK [(1 : Rat), 0, 1]).length ≤ 3 := QbZ _
 have n := M.n
 unfold mdP
 split
 ·refine ⟨(M.H.mu wild_H.trim (by omega)).mono (by omega) (by omega), QkI _ _, ?_⟩
  have := QmC (mdF (L.take 4) (md0, [])).1 (QaK [1, 0, 1])
  omega
 ·exact ⟨M.H.mono (by omega) (by omega), M.t, by omega⟩
variable [Its]
section
variable {d dp dz : D} {w : Int} {zs : List Rat} {p : List Rat} {lI : List Int}
theorem mde_stop (hr : Rw d lI) {i : Nat} (h : i = min lI.length 4) : X G Qax (mdo d w dp dz i) = some (.x 0, mde w dp dz) := by
 have ll := hr.len
 by_cases hl : lI.length ≤ i
 ·have e1 : decide ((i : Int) < (lI.length : Int)) = false := lt_f (by omega)
  simp -implicitDefEqProofs (maxSteps:=9^8) only [Qax, mdo, mde, ll, e1, Qlo, decide_false, Bool.false_eq_true, if_false, Qaa, go_sem, iv, bv, reduceCtorEq, ↓reduceIte, Nat.reduceEqDiff]
 ·have e1 : decide ((i : Int) < (lI.length : Int)) = true := lt_t (by omega)
  have e2 : decide ((i : Int) < 4) = false := lt_f (by omega)
  simp -implicitDefEqProofs (maxSteps:=9^8) only [Qax, mdo, mde, ll, e1, e2, Qaa, go_sem, iv, bv, reduceCtorEq, ↓reduceIte, Nat.reduceEqDiff]
theorem Qrv      (hr : Rw d lI) (hl : ∀ n ∈ lI, I64 n) : ∀ (j i : Nat) (p zs : List Rat) (dp dz : D), i + j = min lI.length 4 → MdI i (p, zs) → RwR dp p → RwR dz zs →
    ∃ dp' dz', RwR dp' (mdF ((lI.drop i).take j) (p, zs)).1 ∧ RwR dz' (mdF ((lI.drop i).take j) (p, zs)).2 ∧ X G (.loop Qax) (mdo d w dp dz i) = some (.x 0, mde w dp' dz')
  | 0, i, p, zs, dp, dz, h, M, hp, hz => ⟨dp, dz, hp, hz, by rw [Qah, mde_stop hr (by omega)]; rfl⟩
  | j + 1, i, p, zs, dp, dz, h, M, hp, hz => by
    have hi : i < lI.length := by omega
    have hn : p.length ≤ i + 1 := M.n
    have hm : zs.length ≤ i := M.m
    have sz1 : SzL 1000 zs := fun q hq => by
      obtain ⟨k, rfl⟩ := M.z q hq
      exact Nat.le_trans (smR_sz k) (by omega)
    obtain ⟨d1, d2, r1, r2, g⟩ := md_round (w := w) hr hz (by omega) sz1 hi (by omega) (hl _ (by rw [List.getD_eq_getElem?_getD, List.getElem?_eq_getElem hi]; exact List.getElem_mem hi)) rfl hp (M.H.mono (by omega) (by omega)) (by omega)
    have e : lI.drop i = lI.getD i 0 :: lI.drop (i + 1) := by
      rw [List.drop_eq_getElem_cons hi, List.getD_eq_getElem?_getD, List.getElem?_eq_getElem hi]; rfl
    obtain ⟨d3, d4, r3, r4, g2⟩ := Qrv hr hl j (i + 1) _ _ d1 d2 (by omega) (M.step (by omega) (lI.getD i 0)) r1 r2
    refine ⟨d3, d4, ?_, ?_, ?_⟩
    · rw [e, List.take_succ_cons]; exact r3
    · rw [e, List.take_succ_cons]; exact r4
    · rw [Qah, g, Option.bind_some, if_pos rfl]; exact g2
theorem Made_spec (hr : Rw d lI) (hl : ∀ n ∈ lI, I64 n) (hw : I64 w) : ∃ dp dz, RwR dp (mdP lI w) ∧ RwR dz (mdZ lI) ∧ Qai G Qgt [d, iv w] = some (.d (.tup [dp, dz])) := by
 rw [Qad (cf := QdV) rfl]
 have o := Qdc (n := 2) (d := 3) ⟨by omega, by omega⟩ ⟨by omega, by omega⟩
 obtain ⟨d0, r0, g0⟩ := Qb6 (RwR.row [Rat.divInt 2 3]) (by simp only [List.length_cons, List.length_nil]; omega) (md0_H.sz.mono (by omega))
 obtain ⟨dp, dz, r1, r2, g⟩ := Qrv (w := w) hr hl (min lI.length 4) 0 md0 [] d0 (.z true) (by omega) MdI.zero r0 .nil
 have et : (lI.drop 0).take (min lI.length 4) = lI.take 4 := by
  rw [List.drop_zero]
  by_cases h : lI.length ≤ 4
  ·rw [Nat.min_eq_left h, List.take_length, List.take_of_length_le h]
  ·rw [Nat.min_eq_right (by omega)]
 rw [et] at r1 r2
 have l4 : (lI.take 4).length ≤ 4 := List.length_take_le _ _
 have M := MdI.fold (lI.take 4) MdI.zero (by omega)
 have n1 : (mdF (lI.take 4) (md0, [])).1.length ≤ 5 := Nat.le_trans M.n (by omega)
 have ow := Qj8
 obtain ⟨d1, r3, g3⟩ := Qb6 (RwR.row [(1 : Rat), 0, 1]) (by simp only [List.length_cons, List.length_nil]; omega) (wild_H.sz.mono (by omega))
 have n2 : (QaK [(1 : Rat), 0, 1]).length ≤ 3 := QbZ _
 obtain ⟨d2, r4, g4⟩ := QgN r1 r3 M.H wild_H.trim (by omega) (by omega) (by omega) (by omega)
 unfold mdP mdZ
 have z0 : ((0 : Nat) : Int) = 0 := rfl
 rw [z0] at g
 have w1 : w64 (w.tmod 2) = w.tmod 2 := by
  have := Int.tmod_lt_of_pos w (b := 2) (by omega)
  have := Int.lt_tmod_of_pos w (b := 2) (by omega)
  exact Qae (by omega) (by omega)
 have ez : encR 0 = .agg [.v (.bool false), .z true, .v (.bool false), .z true] := by
  have ez : decide ((0 : Rat).num < 0) = false := rfl
  have ez2 : dg (digs (0 : Rat).num.natAbs) = .z true := by rw [Rat.zero_num, show (0 : Int).natAbs = 0 from rfl, Qav]; rfl
  have ez3 : dg (dd (0 : Rat).den) = .z true := rfl
  rw [encR, ez, ez2, ez3]
 have ez' := ez
 simp only [encR, D.agg.injEq, List.cons.injEq, and_true] at ez'
 clear M r0 n1 n2
 have t20 : ((2 : Int) = 0) = False := eq_false (by decide)
 by_cases h : w.tmod 2 = 0
 ·rw [if_neg (by simp [h])]
  refine ⟨dp, dz, r1, r2, ?_⟩
  have t : (w.tmod 2 != 0) = false := QoM h
  clear r1 r2 r3 r4 g3 g4
  simp only [rowR, cRs, List.length_cons, List.length_nil, Nat.reduceAdd] at g0
  generalize Rat.divInt 2 3 = q at *
  simp only [encR, iv] at o
  simp only [mdo, mde, go_sem] at g
  simp -implicitDefEqProofs (maxSteps:=9^8) only [QdV, o, g0, g, w1, t, t20, toDs, QgI, Qaa, go_sem, iv, bv, reduceCtorEq, ↓reduceIte, Nat.reduceEqDiff]
 ·rw [if_pos h]
  refine ⟨d2, dz, r4, r2, ?_⟩
  have t : (w.tmod 2 != 0) = true := QpI h
  clear r1 r2 r3 r4
  simp only [rowR, cRs, List.length_cons, List.length_nil, Nat.reduceAdd, ez'] at g0 g3
  generalize Rat.divInt 2 3 = q at *
  generalize (1 : Rat) = one at *
  simp only [encR, iv] at o ow
  simp only [mdo, mde, go_sem] at g
  simp -implicitDefEqProofs (maxSteps:=9^8) only [QdV, o, ow, g0, g, g3, g4, w1, t, t20, toDs, QgI, Qn6, Qaa, go_sem, iv, bv, reduceCtorEq, ↓reduceIte, Nat.reduceEqDiff]
end
end Go.AM

namespace Go.Proofs.YtbbemgfheagobaaGreat.Pure
open Go Go.AM
theorem fits_p {p : List Rat} (H : HL 16 16 p) (t : Trm p) (n : p.length ≤ 6) : Fits 200000000 p := by
 by_cases h : p = []
 ·exact .inl h
 ·exact .inr ⟨h, 16, 6, 13122, 100000, ⟨H, t, n, ⟨by omega, by omega⟩, by decide, by omega, by decide, ⟨by decide, by omega, by omega, by omega, by omega⟩⟩⟩
theorem fits_q {p : List Rat} (H : HL 11 11 p) (t : Trm p) (n : p.length ≤ 7) : Fits 200000000 p := by
 by_cases h : p = []
 ·exact .inl h
 ·exact .inr ⟨h, 11, 7, 28431, 230000, ⟨H, t, n, ⟨by omega, by omega⟩, by decide, by omega, by decide, ⟨by decide, by omega, by omega, by omega, by omega⟩⟩⟩
theorem SturmChains (e0 : D) (l0 : List Int) (hd0 : Dg e0 l0) (hwf0 : ∀ n ∈ l0, (Lit.int .i64 n).wf = true) (hlen0 : l0.length * 8 ≤ 140737488351232) (e1 : D) (l1 : List Int) (hd1 : Dg e1 l1) (hwf1 : ∀ n ∈ l1, (Lit.int .i64 n).wf = true) (hlen1 : l1.length * 8 ≤ 140737488351232) (a2 : Int) (w2 : (Lit.int .i64 a2).wf = true) : Qai G 3 [e0, e1, iv a2] = some (.d (bv true)) := by
 obtain ⟨dp, p, hp, tp, Hp, np, gp⟩ := Poly_spec (rw_dg hd0) (fun n hn => QrI (hwf0 n hn))
 obtain ⟨dq, dz, hq, hz, gq⟩ := Made_spec (w := a2) (rw_dg hd1) (fun n hn => QrI (hwf1 n hn)) (QrI w2)
 obtain ⟨Hq', tq, nq⟩ := mdP_ok l1 a2
 have g2 := QfJ (QrI w2)
 have z2 := smR_sz a2
 have Ha := Qn8 a2
 generalize smR a2 = a at *
 generalize mdP l1 a2 = q at *
 obtain ⟨da, ra, ga⟩ := Qb6 (RwR.row [a]) (by simp only [List.length_cons, List.length_nil]; omega) ((HL.one Ha).sz.mono (by omega))
 have Fa := fits_p ((HL.one Ha).trim.mono (by omega) (by omega)) (Qbc _) (Nat.le_trans (QbZ [a]) (by simp))
 have Fp := fits_p (Hp.mono (by omega) (by omega)) tp np
 have Fq := fits_q (Hq'.mono (by omega) (by omega)) tq nq
 have hl : RwC (.row 4 [dp, dq, .z true, da]) [p, q, [], QaK [a]] := by
  refine ⟨[dp, dq, .z true, da], rfl, ?_, .inl rfl⟩
  intro i hi
  match i, hi with
  | 0, _ => exact hp
  | 1, _ => exact hq
  | 2, _ => exact .nil
  | 3, _ => exact ra
 have hF : ∀ r ∈ [p, q, [], QaK [a]], Fits 200000000 r := by
  intro r hr
  simp only [List.mem_cons, List.not_mem_nil, or_false] at hr
  rcases hr with rfl | rfl | rfl | rfl
  ·exact Fp
  ·exact Fq
  ·exact .inl rfl
  ·exact Fa
 have g0 := lc_loop hl rfl hF (by omega) (by omega) z2 4 0 (by omega)
 have hsz : ∀ r ∈ [p, q, [], QaK [a]], SzL 200000000 r ∧ r.length ≤ 40 := by
  intro r hr
  simp only [List.mem_cons, List.not_mem_nil, or_false] at hr
  rcases hr with rfl | rfl | rfl | rfl
  ·exact ⟨Hp.sz.mono (by omega), by omega⟩
  ·exact ⟨Hq'.sz.mono (by omega), by omega⟩
  ·exact ⟨fun q hq => by simp at hq, by simp⟩
  ·exact ⟨(HL.one Ha).trim.sz.mono (by omega), Nat.le_trans (QbZ [a]) (by simp)⟩
 have g4 := QdK (K := 200000000) (x := a) hl (by simp) (fun q hq => ⟨(hsz q hq).1, Nat.le_trans (Nat.mul_le_mul_right _ (hsz q hq).2) (by decide)⟩) (by omega) (by omega)
 have g5 := QgC (K := 200000000) (x := a) hl (by simp) hsz (by omega) (by omega) (by omega)
 have lv := lives7
 generalize chg _ a = c at *
 have t : ((c : Int) == (c : Int)) = true := beq_self_eq_true _
 rw [Qad (cf := QcQ) rfl]
 have d1 := hp.dc
 have d2 := hq.dc
 have d3 := ra.dc
 have k1 := hp.dcl
 have k2 := hq.dcl
 have k3 := ra.dcl
 have r4 : rep 4 [D.z true] = [.z true, .z true, .z true, .z true] := rfl
 clear hsz hF hl Fa Fp Fq ra hp hq hz Hp Hq' tp tq Ha
 simp only [rowR, cRs, List.length_cons, List.length_nil, Nat.reduceAdd] at ga
 have z0 : ((0 : Nat) : Int) = 0 := rfl
 simp only [encR, iv, bv] at g2 gq g4 g5 lv
 simp only [Qoc, lc_en, boxR, z0, go_sem] at g0
 simp -implicitDefEqProofs (maxSteps:=9^8) only [QcQ, gp, gq, g2, ga, g0, g4, g5, t, lv, d1, d2, d3, k1, k2, k3, r4, QeP, Qcn, QrV, QgI, st4q, ld4q, Qaa, go_sem, iv, bv, reduceCtorEq, ↓reduceIte, Nat.reduceEqDiff]
end Go.Proofs.YtbbemgfheagobaaGreat.Pure

/- The row of SturmChains, out of its Pure. Printed by row.py. -/
namespace Go.Proofs.YtbbemgfheagobaaGreat.sturmChains
open Go.ChangeShapes Go.WideShapes Go.ChangeAt Go.RowKit Go.AM
theorem own : ownKnob Tryz.prog.godebug = none := by kernel_rfl
theorem laidOut : laidOutB Tryz.prog = true := by kernel_rfl
set_option maxRecDepth 100000 in
theorem lifted (os : Os) (started : os.Started) (H : Type) (enc : TypeId × Value → H) :
    ReturnsInHanded {} Tryz.checked os 3 .any (Rows.sturmChainsSpec.pre6 enc Tryz.prog Tryz.f3 Rows.sturmChainsRow.domain false) (Rows.sturmChainsSpec.post enc Tryz.prog Tryz.f3 false true false false) := by
  refine returnsInHanded_of_change_sized (C := Tryz.checked) own started (by kernel_rfl) Tryz.func3
    (ChangeSpec.witness6 (enc := enc) (C := Tryz.checked) false ⟨#[], #[.slice none 0 0, .slice none 0 0, .int .i64 0], []⟩ 8 (by kernel_rfl) (by kernel_rfl) (by kernel_rfl) (by kernel_rfl)) ?_
  intro W base args ds gs before hval0 hW hcnd hsz0 _
  have hsz : (DataW.weightsEach Tryz.prog (Tryz.f3.params.toList ++ Rows.sturmChainsSpec.plain.varTypes Tryz.prog) (ds ++ gs)).all (· ≤ reachBytes) = true := hsz0
  have hval : ∀ (j : Nat) t v, Tryz.f3.params[j]? = some t → args[j]? = some v → Value.okWide Tryz.prog W .any base t v := hval0
  have hW' := hW
  obtain ⟨p, q, hA0, hV, rfl, hfz, hnd⟩ := hW
  have hA : DataW.TrodAll enc Tryz.prog W 0 (fun _ => true) true Tryz.f3.params.toList args.toList ds p := hA0
  rw [Tryz.params3] at hA hval hsz
  obtain ⟨v0, vs0, d0, ds0, p0, q0, hargs, rfl, rfl, h0, r0⟩ := trodAll_cons hA
  obtain ⟨v1, vs1, d1, ds1, p1, q1, rfl, rfl, rfl, h1, r1⟩ := trodAll_cons r0
  obtain ⟨v2, vs2, d2, ds2, p2, q2, rfl, rfl, rfl, h2, r2⟩ := trodAll_cons r1
  obtain ⟨rfl, rfl, rfl⟩ := trodAll_nil r2
  obtain rfl : args = #[v0, v1, v2] := by cases args; simp_all
  obtain ⟨rfl, rfl⟩ := trodVars_none hV
  obtain ⟨a0, len0, cap0, rfl⟩ := okWide_slice Tryz.underlying22 (hval 0 22 v0 rfl rfl)
  have k0 := h0
  have lt0 : ∀ x ∈ p0, x.block < W.heap.size := by obtain ⟨m, hm⟩ := k0; exact DataW.trod_lt m _ _ _ hm
  obtain ⟨z0, w0, y0⟩ : ∃ zs, ((a0 = none ∧ len0 = 0 ∧ cap0 = 0 ∧ zs = []) ∨ ∃ x, a0 = some x ∧ len0 ≤ cap0 ∧ cap0 ≤ maxLen ∧ zs.length = cap0 ∧ (∀ i, i < zs.length → W.cell? (x.add i) = some (.int .i64 (zs.getD i 0))) ∧ ∀ n ∈ zs, (Lit.int .i64 n).wf = true) ∧ len0 * 8 ≤ 140737488351232 := by
    obtain ⟨fuel, hf⟩ := h0
    rcases open_ints Tryz.underlying22 Tryz.underlying3 (by kernel_rfl) hf with ⟨hcs, _⟩ | ⟨x, l, c, zs, hcs, _, hl, hm, hz, hx, hcell, hwz⟩
    · simp [Value.cells] at hcs
      obtain ⟨rfl, rfl, rfl⟩ := hcs
      exact ⟨[], .inl ⟨rfl, rfl, rfl, rfl⟩, by simp⟩
    · simp [Value.cells] at hcs
      obtain ⟨rfl, rfl, rfl⟩ := hcs
      refine ⟨zs, .inr ⟨_, rfl, hl, hm, by simpa using hz, hcell, hwz⟩, ?_⟩
      simp only [Prod.mk.injEq] at hx
      have hd := hx.1
      have z := sized_slice hsz (j := 0) (t := 22) rfl (by rw [hd]; rfl) Tryz.underlying22
      have hb : Tryz.prog.bytesOf 3 = 8 := by kernel_rfl
      rw [hb] at z
      have hr : reachBytes ≤ 140737488351232 := by decide
      have hz' : zs.length = cap0 := by simpa using hz
      simp only [lits, List.length_map, List.length_take, List.length_drop] at z
      omega
  obtain ⟨e0, l0, hd0, hrep0, hlen0, hwf0⟩ := arg_row w0
  obtain ⟨a1, len1, cap1, rfl⟩ := okWide_slice Tryz.underlying22 (hval 1 22 v1 rfl rfl)
  have k1 := h1
  have lt1 : ∀ x ∈ p1, x.block < W.heap.size := by obtain ⟨m, hm⟩ := k1; exact DataW.trod_lt m _ _ _ hm
  obtain ⟨z1, w1, y1⟩ : ∃ zs, ((a1 = none ∧ len1 = 0 ∧ cap1 = 0 ∧ zs = []) ∨ ∃ x, a1 = some x ∧ len1 ≤ cap1 ∧ cap1 ≤ maxLen ∧ zs.length = cap1 ∧ (∀ i, i < zs.length → W.cell? (x.add i) = some (.int .i64 (zs.getD i 0))) ∧ ∀ n ∈ zs, (Lit.int .i64 n).wf = true) ∧ len1 * 8 ≤ 140737488351232 := by
    obtain ⟨fuel, hf⟩ := h1
    rcases open_ints Tryz.underlying22 Tryz.underlying3 (by kernel_rfl) hf with ⟨hcs, _⟩ | ⟨x, l, c, zs, hcs, _, hl, hm, hz, hx, hcell, hwz⟩
    · simp [Value.cells] at hcs
      obtain ⟨rfl, rfl, rfl⟩ := hcs
      exact ⟨[], .inl ⟨rfl, rfl, rfl, rfl⟩, by simp⟩
    · simp [Value.cells] at hcs
      obtain ⟨rfl, rfl, rfl⟩ := hcs
      refine ⟨zs, .inr ⟨_, rfl, hl, hm, by simpa using hz, hcell, hwz⟩, ?_⟩
      simp only [Prod.mk.injEq] at hx
      have hd := hx.1
      have z := sized_slice hsz (j := 1) (t := 22) rfl (by rw [hd]; rfl) Tryz.underlying22
      have hb : Tryz.prog.bytesOf 3 = 8 := by kernel_rfl
      rw [hb] at z
      have hr : reachBytes ≤ 140737488351232 := by decide
      have hz' : zs.length = cap1 := by simpa using hz
      simp only [lits, List.length_map, List.length_take, List.length_drop] at z
      omega
  obtain ⟨e1, l1, hd1, hrep1, hlen1, hwf1⟩ := arg_row w1
  obtain ⟨a2, rfl, rfl, rfl, w2⟩ := open_int Tryz.underlying3 (hval 2 3 v2 rfl rfl) h2
  clear hA0 hval0 hsz0 hsz
  refine (law_walk envQ (f := 3) (ds := [e0, e1, (iv a2)]) (vs := [.slice a0 len0 cap0, .slice a1 len1 cap1, .int .i64 a2]) (w := W) (Qok rfl W) (RepL.cons _ _ _ _ hrep0 (RepL.cons _ _ _ _ hrep1 (RepL.cons _ _ _ _ (RepD.v _) RepL.nil))) (Pure.SturmChains e0 l0 hd0 hwf0 (by rw [hlen0]; exact y0) e1 l1 hd1 hwf1 (by rw [hlen1]; exact y1) a2 w2)).mono fun e W' ⟨he, bel⟩ => ?_
  subst he
  exact ⟨_, rfl, _, _, _, [], _, [], hW', trodAll_mk1 (shut_bool Tryz.underlying4 _), (trodAll_cons_mk (Below.trod laidOut (by kernel_rfl) (of_decide_eq_true (by kernel_rfl)) k0 bel lt0) (trodAll_cons_mk (Below.trod laidOut (by kernel_rfl) (of_decide_eq_true (by kernel_rfl)) k1 bel lt1) (trodAll_cons_mk (shut_int Tryz.underlying3 w2) trodAll_mk0))), rfl, bel.frame _, fun h => by cases h⟩
theorem over : Rows.sturmChainsRow.holds Tryz.pinned (OpenSpec.ofChange Rows.sturmChainsSpec) :=
 OpenClaim.holds_of_wide 3 Tryz.f3 rfl rfl rfl rfl rfl rfl rfl ⟨rfl, rfl, rfl, rfl, rfl⟩ rfl rfl rfl rfl rfl (by kernel_rfl) Tryz.func3 (by kernel_rfl)
  (of_decide_eq_true (by kernel_rfl)) (by unfold Func.isWrapper; first | (rw [if_pos (by decide +kernel)]; kernel_rfl) | (rw [if_neg (by decide +kernel)]; exact ⟨rfl, rfl⟩))
  (fun os started H enc _ => lifted os started H enc)
theorem proved : Rows.SturmChainsSaid := over
end Go.Proofs.YtbbemgfheagobaaGreat.sturmChains
namespace Go.Proofs.YtbbemgfheagobaaGreat
theorem sturmChains_holds : Rows.SturmChainsSaid := sturmChains.proved
end Go.Proofs.YtbbemgfheagobaaGreat


