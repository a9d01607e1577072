/- Part 10 of the proof: a small machine, its soundness against the model, and what the program's functions compute on it. -/
import Derived.Test.YtfdelaplhpmneaaGreatM9
import Derived.Test.YtfdelaplhpmneaaGreatM8
import Derived.Test.YtfdelaplhpmneaaGreatRows
import Derived.Test.YtfdelaplhpmneaaGreatM5
import Derived.WalkKit
import Derived.ProofKit
import Derived.OpenShut
import Derived.ShutString
import Derived.ChangeOld
import Derived.Below
import Derived.SizedLaws
set_option linter.unusedVariables false
set_option linter.unusedSimpArgs false
/- ref07.Stays from 0 to 1 at polynomials of at most the second degree. -/
namespace Go.AM
open Go Go.RowKit
def Ql3 (dp db dw ds dl : D) (i : Int) (x : Rat × Rat) : St := mkS [(0, .d dp), (8, .d db), (9, .d dw), (10, .d ds), (11, .d dl), (12, ai i), (13, .ptr [13] 0)] [([13], bxV x)]
def QiN (dp db dw ds dl : D) (i : Int) : St := mkS [(0, .d dp), (8, .d db), (9, .d dw), (10, .d ds), (11, .d dl), (12, ai i)] []
theorem st_z {p : List Rat} (h : ¬ (0 ≤ evR p 0 ∧ 0 ≤ evR p 1)) : staG p = false := by
 unfold staG
 rw [if_pos]
 rw [Bool.or_eq_true, decide_eq_true_iff, decide_eq_true_iff]
 by_cases h1 : evR p 0 < 0
 ·exact .inl h1
 ·exact .inr (Rat.not_le.1 fun h2 => h ⟨Rat.not_lt.1 h1, h2⟩)
theorem st_nz {p : List Rat} (h0 : 0 ≤ evR p 0) (h1 : 0 ≤ evR p 1) : staG p = if decide (p.length < 3) || decide (p.getD 2 0 < 0) then true else decide (veR p ≤ 0) || decide (1 ≤ veR p) || decide (0 ≤ evR p (veR p)) := by
 unfold staG
 rw [if_neg]
 rw [Bool.or_eq_true, decide_eq_true_iff, decide_eq_true_iff]
 exact fun h => h.elim (Rat.not_lt.2 h0) (Rat.not_lt.2 h1)
theorem ve_qz (a b c : Rat) : veR [a, b, c] = qz b c := rfl
theorem st_3 {a b c : Rat} (hc : c ≠ 0) (h0 : 0 ≤ evR [a, b, c] 0) (h1 : 0 ≤ evR [a, b, c] 1) (hw : qw a b c ≠ 0) (z0 : 0 < qz b c) (z1 : qz b c ≤ 1) {hi : Rat}
    (hh : qw a b c < 0 → evR [a / c, b / c, 1] hi < 0) : decide (evR [a, b, c] hi < 0) = !(staG [a, b, c]) := by
  have em : ∀ x, evR [a, b, c] x = evR [a / c, b / c, 1] x * c := fun x => by
    rw [ev_3, ev_3]
    have k1 : a / c * c = a := Rat.div_mul_cancel hc
    have k2 : b / c * c = b := Rat.div_mul_cancel hc
    grind
  have sq := fun x => QiO (a := a) (b := b) hc x
  rw [st_nz h0 h1]
  have e2 : [a, b, c].getD 2 0 = c := rfl
  have e3 : [a, b, c].length = 3 := rfl
  rw [e2, e3, ve_qz]
  have dl : decide (3 < 3) = false := rfl
  rw [dl, Bool.false_or]
  by_cases hcn : c < 0
  · rw [decide_eq_true hcn, if_pos rfl]
    show decide _ = false
    rw [decide_eq_false_iff_not, em]
    by_cases hwn : qw a b c < 0
    · have := Rat.mul_nonneg (a := -(evR [a / c, b / c, 1] hi)) (b := -c) (by have := hh hwn; grind) (by grind)
      grind
    · have h2 : 0 < qw a b c := by grind
      have h3 : 0 < evR [a / c, b / c, 1] 0 := by rw [sq]; have := Qno (0 - qz b c); grind
      have h4 := Rat.mul_pos h3 (show 0 < -c by grind)
      rw [em] at h0
      grind
  · have hcp : 0 < c := by grind
    rw [decide_eq_false hcn, if_neg (by simp), em hi, em (qz b c)]
    have hz : evR [a / c, b / c, 1] (qz b c) = qw a b c := by rw [sq]; grind
    rw [hz, decide_eq_false (Rat.not_le.2 z0), Bool.false_or]
    by_cases hwn : qw a b c < 0
    · have k1 : evR [a / c, b / c, 1] hi * c < 0 := by
        have := Rat.mul_pos (a := -(evR [a / c, b / c, 1] hi)) (b := c) (by have := hh hwn; grind) hcp
        grind
      have k2 : ¬ (0 ≤ qw a b c * c) := by
        have := Rat.mul_pos (a := -(qw a b c)) (b := c) (by grind) hcp
        grind
      have k3 : ¬ (1 ≤ qz b c) := fun h => by
        have e : qz b c = 1 := by grind
        have h6 : 0 ≤ evR [a, b, c] (qz b c) := by rw [e]; exact h1
        rw [em, hz] at h6
        exact k2 h6
      rw [decide_eq_true k1, decide_eq_false k2, decide_eq_false k3]; rfl
    · have h2 : 0 < qw a b c := by grind
      have k1 : ¬ (evR [a / c, b / c, 1] hi * c < 0) := by
        have h3 : 0 < evR [a / c, b / c, 1] hi := by rw [sq]; have := Qno (hi - qz b c); grind
        have := Rat.mul_pos h3 hcp
        grind
      have k2 : 0 ≤ qw a b c * c := Rat.le_of_lt (Rat.mul_pos h2 hcp)
      rw [decide_eq_false k1, decide_eq_true k2, Bool.or_true]; rfl
theorem st_30 {a b c : Rat} (hc : c ≠ 0) (h0 : 0 ≤ evR [a, b, c] 0) (h1 : 0 ≤ evR [a, b, c] 1) (h : qw a b c = 0 ∨ ¬ (0 < qz b c ∧ qz b c ≤ 1)) : staG [a, b, c] = true := by
  rw [st_nz h0 h1]
  have e2 : [a, b, c].getD 2 0 = c := rfl
  have e3 : [a, b, c].length = 3 := rfl
  rw [e2, e3, ve_qz]
  by_cases hcn : c < 0
  · rw [decide_eq_true hcn, Bool.or_true, if_pos rfl]
  · rw [if_neg (by rw [decide_eq_false hcn]; simp)]
    rcases h with h | h
    · have em : evR [a, b, c] (qz b c) = 0 := by
        have sq := QiO (a := a) (b := b) hc (qz b c)
        rw [h, ev_3] at sq
        rw [ev_3]
        have k1 : a / c * c = a := Rat.div_mul_cancel hc
        have k2 : b / c * c = b := Rat.div_mul_cancel hc
        have : a + b * qz b c + c * (qz b c * qz b c) = (a / c + b / c * qz b c + 1 * (qz b c * qz b c)) * c := by grind
        rw [this, sq]
        grind
      rw [em, decide_eq_true (Rat.le_refl), Bool.or_true]
    · by_cases k : qz b c ≤ 0
      · rw [decide_eq_true k]; rfl
      · have : 1 ≤ qz b c := by
          refine Rat.le_of_lt (Rat.not_le.1 fun h3 => h ⟨Rat.not_le.1 k, h3⟩)
        rw [decide_eq_true this, Bool.or_true, Bool.true_or]
theorem st_2 {p : List Rat} (hl : p.length < 3) (h0 : 0 ≤ evR p 0) (h1 : 0 ≤ evR p 1) : staG p = true := by
 rw [st_nz h0 h1, decide_eq_true hl, Bool.true_or, if_pos rfl]
theorem ixa8 (h : Hp) (a b c d e f g k : D) : ixaA h 8 0 (.d (.row 1 [a, b, c, d, e, f, g, k])) = some (.d (.rp [a, b, c, d, e, f, g, k])) := rfl
theorem lda8 (h : Hp) (a b c d e f g k : D) : Qcy h (some 8) (.d (.rp [a, b, c, d, e, f, g, k])) = some (.d (.agg [a, b, c, d, e, f, g, k])) := rfl
variable [Its]
theorem free3 {d : D} {p : List Rat} (hr : RwR d p) (hp : SzL 1000 p) (tp : Trm p) (np : p.length ≤ 3) : ∃ d', RwR d' (frP p) ∧ Qaj G Qdj [d] = some (.d d') := by
 obtain ⟨g1, g2, g3⟩ := gc_ok hp tp np
 have tg : Trm (gcdP p (deP p)) := Qof
 have gl := QpX np
 have hm : dvN p (gcdP p (deP p)) ≤ 4 := by unfold dvN; omega
 have h1 : dvN p (gcdP p (deP p)) * 140000 ≤ 4 * 140000 := Nat.mul_le_mul_right _ hm
 have h2 : dvN p (gcdP p (deP p)) * (140000 + 1) ≤ 4 * (140000 + 1) := Nat.mul_le_mul_right _ hm
 have H : HL 3000 3000 p := by
  obtain ⟨K, hK⟩ : ∃ K, K = 1000 := ⟨_, rfl⟩
  have h3 : SzL K p := by rw [hK]; exact hp
  exact (hl3 h3 np).mono (by omega) (by omega)
 obtain ⟨x, y, z⟩ := QrC (K := 800000) H g3 tg (by omega)
 have Hd := H.de (by have : BB = 1000000000 := rfl; omega)
 exact Qqq hr tp tg (by omega) (K := 1000000) (by omega) (by omega) (hp.mono (by omega)) (Hd.sz.mono (by omega)) (Qln (by omega) _ _ _ g1) (QoA (by omega) _ _ _ g2) (g3.mono (by omega) (by omega)) (g3.sz.mono (by omega)) (Qlg (by omega) _ _ x) (z.sz.mono (by omega))
theorem chain3 {d : D} {p : List Rat} (hr : RwR d p) (hp : SzL 1000 p) (tp : Trm p) (np : p.length ≤ 3) (hp0 : p ≠ []) : ∃ ds, Dls ds (chP p) ∧ Qaj G Qci [d] = some (.own 1 ds.length ds) := by
 obtain ⟨h1, h2, h3, _⟩ := Qob hp tp np hp0
 exact Qqn hr hp0 (by omega) (free3 hr hp tp np) (trm_fr p) (by omega) (h1.mono (by omega)) h3 (by omega) (by omega)
section
variable {dp db dw ds dl : D}
theorem y0_go {own slope : List (List Rat)} (ho : RwC dw own) (hs : RwC ds slope) (no : own.length ≤ 1000) (ns : slope.length ≤ 1000) (so : ∀ p ∈ own, SzL 10000 p ∧ p.length ≤ 1000) (ss : ∀ p ∈ slope, SzL 10000 p ∧ p.length ≤ 1000) {i : Int} {x : Rat × Rat} (x1 : sz x.1 ≤ 10000) (x2 : sz x.2 ≤ 10000) (x3 : sz (mid x.1 x.2) ≤ 10000) (hc : 0 < cnt own x.1 x.2) :
    X G Qbf (Ql3 dp db dw ds dl i x) = some (.n, Ql3 dp db dw ds dl i (hal slope x)) := by
  have g1 := QcW ho no so x1 x2 (by omega) (by omega)
  have g2 := Qo3 hs ns ss (l := x) x1 x2 x3 (by omega) (by omega)
  have t : decide (cnt own x.1 x.2 > 0) = true := decide_eq_true hc
  generalize cnt own x.1 x.2 = c at *
  generalize hal slope x = y at *
  obtain ⟨lo, hi⟩ := x
  obtain ⟨l2, h2⟩ := y
  simp only [enc2, c2R, encR, iv] at g1 g2
  simp -implicitDefEqProofs (maxSteps:=9^8) only [Qbf, Ql3, bxV, g1, g2, t, st8q, ld8q, QmA, QmD, Qaa, go_sem, iv, bv, reduceCtorEq, ↓reduceIte, Nat.reduceEqDiff]
theorem QnM     {own : List (List Rat)} (ho : RwC dw own) (no : own.length ≤ 1000) (so : ∀ p ∈ own, SzL 10000 p ∧ p.length ≤ 1000) {i : Int} {x : Rat × Rat} (x1 : sz x.1 ≤ 10000) (x2 : sz x.2 ≤ 10000) (hc : cnt own x.1 x.2 ≤ 0) :
    X G Qbf (Ql3 dp db dw ds dl i x) = some (.x 2, Ql3 dp db dw ds dl i x) := by
  have g1 := QcW ho no so x1 x2 (by omega) (by omega)
  have t : decide (cnt own x.1 x.2 > 0) = false := decide_eq_false (by omega)
  generalize cnt own x.1 x.2 = c at *
  obtain ⟨lo, hi⟩ := x
  simp only [encR, iv] at g1
  simp -implicitDefEqProofs (maxSteps:=9^8) only [Qbf, Ql3, bxV, g1, t, st8q, ld8q, QmA, QmD, Qaa, go_sem, iv, bv, reduceCtorEq, ↓reduceIte, Nat.reduceEqDiff]
theorem y0_loop {a b c : Rat} (hc : c ≠ 0) (hw : qw a b c ≠ 0) (z0 : 0 < qz b c) (z1 : qz b c ≤ 1) {S : Nat} (hS : sz (qw a b c) ≤ S) (hS2 : S ≤ 7000) (ho : RwC dw [[a / c, b / c, 1], [-(2 * qz b c), 2], [-(qw a b c)]]) (hs : RwC ds [[-(qz b c), 1], [1]])
    (so : ∀ p ∈ [[a / c, b / c, 1], [-(2 * qz b c), 2], [-(qw a b c)]], SzL 10000 p ∧ p.length ≤ 1000) (ss : ∀ p ∈ [[-(qz b c), 1], [1]], SzL 10000 p ∧ p.length ≤ 1000) {i : Int} : ∀ (k n : Nat), n + k = 15 * S + 1 →
    ∃ m, m ≤ 15 * S + 1 ∧ (qw a b c < 0 → evR [a / c, b / c, 1] (itH [[-(qz b c), 1], [1]] m).2 < 0) ∧ X G (.loop Qbf) (Ql3 dp db dw ds dl i (itH [[-(qz b c), 1], [1]] n)) = some (.x 2, Ql3 dp db dw ds dl i (itH [[-(qz b c), 1], [1]] m)) := by
  intro k
  induction k with
  | zero =>
    intro n hn
    obtain ⟨j, hj, e, k1, k2⟩ := Qpy z0 z1 n
    obtain ⟨s1, s2⟩ := it_sz z0 z1 n
    have hq := cnt_sq (a := a) (b := b) hc (lo := (itH [[-(qz b c), 1], [1]] n).1) (hi := (itH [[-(qz b c), 1], [1]] n).2) (by rw [e]; exact k1) (by rw [e]; exact k2)
    by_cases hwn : qw a b c < 0
    · have sm := it_small hwn hS (n := n) (by omega)
      have wid : (itH [[-(qz b c), 1], [1]] n).2 - (itH [[-(qz b c), 1], [1]] n).1 = hf ^ n := by
        rw [e]; push_cast; grind
      have near : ∀ x, (itH [[-(qz b c), 1], [1]] n).1 ≤ x → x ≤ (itH [[-(qz b c), 1], [1]] n).2 → evR [a / c, b / c, 1] x < 0 := by
        intro x hx1 hx2
        rw [QiO hc]
        have l1 : (itH [[-(qz b c), 1], [1]] n).1 < qz b c := by rw [e]; exact k1
        have l2 : qz b c ≤ (itH [[-(qz b c), 1], [1]] n).2 := by rw [e]; exact k2
        have hp := QnZ n
        generalize (itH [[-(qz b c), 1], [1]] n).1 = lo at *
        generalize (itH [[-(qz b c), 1], [1]] n).2 = hi at *
        generalize qz b c = z at *
        generalize hf ^ n = w at *
        have u1 : 0 ≤ (w - (x - z)) * (w + (x - z)) := Rat.mul_nonneg (by grind) (by grind)
        grind
      rcases hq.2 hwn with ⟨h1, h2⟩ | ⟨h1, h2⟩
      · exfalso
        have l0 : (itH [[-(qz b c), 1], [1]] n).1 ≤ (itH [[-(qz b c), 1], [1]] n).2 := by have := QnZ n; grind
        have n1 := near _ Rat.le_refl l0
        have n2 := near _ l0 Rat.le_refl
        rcases h2 with h2 | h2 <;> grind
      · exact ⟨n, by omega, fun _ => h2, by rw [Qag, QnM ho (by simp) so (by omega) (by omega) (by omega)]; rfl⟩
    · have hwp : 0 < qw a b c := by grind
      exact ⟨n, by omega, fun h => absurd h hwn, by rw [Qag, QnM ho (by simp) so (by omega) (by omega) (by rw [hq.1 hwp]; omega)]; rfl⟩
  | succ k ih =>
    intro n hn
    obtain ⟨j, hj, e, k1, k2⟩ := Qpy z0 z1 n
    obtain ⟨s1, s2⟩ := it_sz z0 z1 n
    have s3 := it_mid z0 z1 n
    have hq := cnt_sq (a := a) (b := b) hc (lo := (itH [[-(qz b c), 1], [1]] n).1) (hi := (itH [[-(qz b c), 1], [1]] n).2) (by rw [e]; exact k1) (by rw [e]; exact k2)
    by_cases hwn : qw a b c < 0
    · rcases hq.2 hwn with ⟨h1, h2⟩ | ⟨h1, h2⟩
      · obtain ⟨m, m1, m2, m3⟩ := ih (n + 1) (by omega)
        refine ⟨m, m1, m2, ?_⟩
        rw [Qag, y0_go ho hs (by simp) (by simp) so ss (by omega) (by omega) (by omega) h1, Option.bind_some, if_pos rfl]
        exact m3
      · exact ⟨n, by omega, fun _ => h2, by rw [Qag, QnM ho (by simp) so (by omega) (by omega) (by omega)]; rfl⟩
    · have hwp : 0 < qw a b c := by grind
      exact ⟨n, by omega, fun h => absurd h hwn, by rw [Qag, QnM ho (by simp) so (by omega) (by omega) (by rw [hq.1 hwp]; omega)]; rfl⟩
theorem y1_none {i : Int} (hl : lenA (.d dl) = some 0) (hi : 0 ≤ i) : X G Qar (QiN dp db dw ds dl i) = some (.x 0, mkS [] []) := by
 have e1 : decide (i < 0) = false := lt_f (by omega)
 simp -implicitDefEqProofs (maxSteps:=9^8) only [Qar, QiN, hl, e1, Qaa, go_sem, iv, bv, reduceCtorEq, ↓reduceIte, Nat.reduceEqDiff]
theorem y1_end {x : Rat × Rat} : X G Qar (QiN dp db dw ds (.row 1 (c2R x)) 1) = some (.x 0, mkS [] []) := by
 have e1 : decide ((1 : Int) < 1) = false := rfl
 have hl : lenA (.d (.row 1 (c2R x))) = some 1 := rfl
 have e2 : ((1 : Nat) : Int) = 1 := rfl
 simp -implicitDefEqProofs (maxSteps:=9^8) only [Qar, QiN, hl, e1, e2, Qaa, go_sem, iv, bv, reduceCtorEq, ↓reduceIte, Nat.reduceEqDiff]
theorem y1_skip {both : List (List Rat)} (hb : RwC db both) (nb : both.length ≤ 1000) (sb : ∀ p ∈ both, SzL 10000 p ∧ p.length ≤ 1000) {x : Rat × Rat} (x1 : sz x.1 ≤ 10000) (x2 : sz x.2 ≤ 10000) (hc : cnt both x.1 x.2 = 1) :
    X G Qar (QiN dp db dw ds (.row 1 (c2R x)) 0) = some (.n, QiN dp db dw ds (.row 1 (c2R x)) 1) := by
  have g1 := QcW hb nb sb x1 x2 (by omega) (by omega)
  rw [hc] at g1
  have e1 : decide ((0 : Int) < 1) = true := rfl
  have e2 : ((1 : Nat) : Int) = 1 := rfl
  have e3 : w64 ((0 : Int) + 1) = 1 := Qae (by omega) (by omega)
  have hl : lenA (.d (.row 1 (c2R x))) = some 1 := rfl
  have t : ((1 : Int) == 1) = true := rfl
  obtain ⟨lo, hi⟩ := x
  simp only [c2R] at hl
  simp only [encR, iv] at g1
  simp -implicitDefEqProofs (maxSteps:=9^8) only [Qar, QiN, c2R, hl, e1, e2, e3, g1, t, ixa8, lda8, st8q, ld8q, QmA, QmD, Qaa, go_sem, iv, bv, reduceCtorEq, ↓reduceIte, Nat.reduceEqDiff]
theorem y1_go {p : List Rat} {both : List (List Rat)} (hp : RwR dp p) (sp : SzL 10000 p) (np : p.length ≤ 1000) (hb : RwC db both) (nb : both.length ≤ 1000) (sb : ∀ p ∈ both, SzL 10000 p ∧ p.length ≤ 1000) {x y : Rat × Rat} (x1 : sz x.1 ≤ 10000) (x2 : sz x.2 ≤ 10000) (hc : cnt both x.1 x.2 = 0)
    (g : X G (.loop Qbf) (Ql3 dp db dw ds (.row 1 (c2R x)) 0 x) = some (.x 2, Ql3 dp db dw ds (.row 1 (c2R x)) 0 y)) (y2 : sz y.2 ≤ 10000) :
    X G Qar (QiN dp db dw ds (.row 1 (c2R x)) 0) = if decide (evR p y.2 < 0) = true then some (.r, mkS [(6, ab false)] []) else some (.n, QiN dp db dw ds (.row 1 (c2R x)) 1) := by
  have g1 := QcW hb nb sb x1 x2 (by omega) (by omega)
  rw [hc] at g1
  have g2 := Qds hp sp (by omega) (by omega) np y2
  have z := QjU (x := y.2) (K := 10000) y2 p (fun q hq => sp q hq)
  have zb : p.length * (2 * 10000 + 1) ≤ 1000 * (2 * 10000 + 1) := Nat.mul_le_mul_right _ np
  have g3 := QbP (a := evR p y.2) (by omega)
  have t3 := QfV (x := evR p y.2)
  generalize decide (evR p y.2 < 0) = u at *
  generalize evR p y.2 = v at *
  generalize Int.sign v.num = s at *
  have e1 : decide ((0 : Int) < 1) = true := rfl
  have e2 : ((1 : Nat) : Int) = 1 := rfl
  have e3 : w64 ((0 : Int) + 1) = 1 := Qae (by omega) (by omega)
  have hl : lenA (.d (.row 1 (c2R x))) = some 1 := rfl
  have t : ((0 : Int) == 1) = false := rfl
  clear z zb sp hp x1 x2 y2
  obtain ⟨lo, hi⟩ := x
  obtain ⟨l2, h2⟩ := y
  simp only [Ql3, bxV, c2R, go_sem] at g
  simp only [c2R] at hl
  simp only [encR, iv] at g1 g2 g3
  cases u
  · simp -implicitDefEqProofs (maxSteps:=9^8) only [Qar, QiN, c2R, hl, e1, e2, e3, g, g1, g2, g3, t, t3, ixa8, lda8, st8q, ld8q, QmA, QmD, Bool.false_eq_true, if_false, Qaa, go_sem, iv, bv, reduceCtorEq, ↓reduceIte, Nat.reduceEqDiff]
  · simp -implicitDefEqProofs (maxSteps:=9^8) only [Qar, QiN, c2R, hl, e1, e2, e3, g, g1, g2, g3, t, t3, ixa8, lda8, st8q, ld8q, QmA, QmD, if_true, Qaa, go_sem, iv, bv, reduceCtorEq, ↓reduceIte, Nat.reduceEqDiff]
end
end Go.AM

/- ref07.Stays from 0 to 1 at polynomials of at most the second degree: the answer. ref13.Stays. -/
namespace Go.AM
open Go Go.RowKit
theorem Qqc : decide (cmpR 0 1 > 0) = false := by rw [cmpR_gt]; decide
theorem ld_one : (0 : Rat) < 1 := by decide
def lpE (t : Bool) : Option (Ex × St) := if t then some (.x 0, mkS [] []) else some (.r, mkS [(6, ab false)] [])
theorem up_K {K L : Nat} (h : K ≤ L) {ps : List (List Rat)} (hs : ∀ q ∈ ps, SzL K q ∧ q.length ≤ 1000) : ∀ q ∈ ps, SzL L q ∧ q.length ≤ 1000 := fun q hq => ⟨(hs q hq).1.mono h, (hs q hq).2⟩
variable [Its]
theorem QsP : Qaj G QbH [.z true, encR 0, encR 1] = some (.d (bv true)) := by
 rw [Qad (cf := Qaw) rfl]
 have g := Qco (a := 0) (b := 1) (by rw [Qc1]; omega) (by rw [QcO]; omega)
 have t := Qqc
 have hl : lenA (.d (.z true)) = some 0 := rfl
 have t2 : ((0 : Int) == 0) = true := rfl
 generalize cmpR 0 1 = c at *
 simp only [encR, iv] at g
 simp -implicitDefEqProofs (maxSteps:=9^8) only [Qaw, encR, g, t, hl, t2, ld4q, decide_true, decide_false, tupG, Qaa, go_sem, iv, bv, reduceCtorEq, ↓reduceIte, Nat.reduceEqDiff]
section
variable {dp : D} {p : List Rat} (hr : RwR dp p) (sp : SzL 300 p) (np : p.length ≤ 3) (hp0 : p ≠ [])
theorem Qsv (hr : RwR dp p) (sp : SzL 300 p) (np : p.length ≤ 3) (hp0 : p ≠ []) (h : ¬ (0 ≤ evR p 0 ∧ 0 ≤ evR p 1)) : Qaj G QbH [dp, encR 0, encR 1] = some (.d (bv false)) := by
 rw [Qad (cf := Qaw) rfl]
 have z0 : sz 0 ≤ 300 := by rw [Qc1]; omega
 have z1 : sz 1 ≤ 300 := by rw [QcO]; omega
 have g := Qco (a := 0) (b := 1) (by omega) (by omega)
 have t := Qqc
 have hl := hr.len
 have t2 : ((p.length : Int) == 0) = false := QcD (by have := List.length_pos_iff.2 hp0; omega)
 have g0 := Qds hr sp (by omega) (by omega) (by omega) z0
 have g1 := Qds hr sp (by omega) (by omega) (by omega) z1
 have e0 := QjU (x := 0) (K := 300) z0 p (fun q hq => sp q hq)
 have e1 := QjU (x := 1) (K := 300) z1 p (fun q hq => sp q hq)
 have zb : p.length * (2 * 300 + 1) ≤ 3 * (2 * 300 + 1) := Nat.mul_le_mul_right _ np
 have h0 := QbP (a := evR p 0) (by omega)
 have h1 := QbP (a := evR p 1) (by omega)
 have t0 := QfV (x := evR p 0)
 have t1 := QfV (x := evR p 1)
 have hb : evR p 0 < 0 ∨ evR p 1 < 0 := by
  by_cases k : evR p 0 < 0
  ·exact .inl k
  ·exact .inr (Rat.not_le.1 fun h2 => h ⟨Rat.not_lt.1 k, h2⟩)
 clear e0 e1 zb z0 z1 sp hr h
 generalize evR p 0 = r0 at *
 generalize evR p 1 = r1 at *
 generalize cmpR 0 1 = c at *
 simp only [encR, iv] at g g0 g1 h0 h1
 by_cases k : r0 < 0
 ·rw [decide_eq_true k] at t0
  simp -implicitDefEqProofs (maxSteps:=9^8) only [Qaw, encR, g, t, hl, t2, g0, h0, t0, ld4q, decide_true, decide_false, tupG, Qaa, go_sem, iv, bv, reduceCtorEq, ↓reduceIte, Nat.reduceEqDiff]
 ·rw [decide_eq_false k] at t0
  rw [decide_eq_true (hb.resolve_left k)] at t1
  simp -implicitDefEqProofs (maxSteps:=9^8) only [Qaw, encR, g, t, hl, t2, g0, h0, t0, g1, h1, t1, ld4q, decide_true, decide_false, tupG, Qaa, go_sem, iv, bv, reduceCtorEq, ↓reduceIte, Nat.reduceEqDiff]
theorem Qtm (hr : RwR dp p) (sp : SzL 300 p) (np : p.length ≤ 3) (hp0 : p ≠ []) (h0' : 0 ≤ evR p 0) (h1' : 0 ≤ evR p 1) (hd : deP p = []) : Qaj G QbH [dp, encR 0, encR 1] = some (.d (bv true)) := by
 rw [Qad (cf := Qaw) rfl]
 have z0 : sz 0 ≤ 300 := by rw [Qc1]; omega
 have z1 : sz 1 ≤ 300 := by rw [QcO]; omega
 have g := Qco (a := 0) (b := 1) (by omega) (by omega)
 have t := Qqc
 have hl := hr.len
 have t2 : ((p.length : Int) == 0) = false := QcD (by have := List.length_pos_iff.2 hp0; omega)
 have g0 := Qds hr sp (by omega) (by omega) (by omega) z0
 have g1 := Qds hr sp (by omega) (by omega) (by omega) z1
 have e0 := QjU (x := 0) (K := 300) z0 p (fun q hq => sp q hq)
 have e1 := QjU (x := 1) (K := 300) z1 p (fun q hq => sp q hq)
 have zb : p.length * (2 * 300 + 1) ≤ 3 * (2 * 300 + 1) := Nat.mul_le_mul_right _ np
 have h0 := QbP (a := evR p 0) (by omega)
 have h1 := QbP (a := evR p 1) (by omega)
 have t0 := QfV (x := evR p 0)
 have t1 := QfV (x := evR p 1)
 rw [decide_eq_false (Rat.not_lt.2 h0')] at t0
 rw [decide_eq_false (Rat.not_lt.2 h1')] at t1
 obtain ⟨dd, hd1, g2⟩ := Qf4 hr sp (by omega) (by omega) (by omega)
 have ld := hd1.len
 rw [hd, List.length_nil] at ld
 have t3 : ((0 : Int) == 0) = true := rfl
 clear e0 e1 zb z0 z1 sp hr h0' h1' hd1
 generalize evR p 0 = r0 at *
 generalize evR p 1 = r1 at *
 generalize cmpR 0 1 = c at *
 simp only [encR, iv] at g g0 g1 h0 h1
 simp -implicitDefEqProofs (maxSteps:=9^8) only [Qaw, encR, g, t, hl, t2, g0, h0, t0, g1, h1, t1, g2, ld, t3, ld4q, decide_true, decide_false, tupG, Qaa, go_sem, iv, bv, reduceCtorEq, ↓reduceIte, Nat.reduceEqDiff]
theorem Qhw         (hr : RwR dp p) (sp : SzL 300 p) (np : p.length ≤ 3) (hp0 : p ≠ []) (tp : Trm p) (h0' : 0 ≤ evR p 0) (h1' : 0 ≤ evR p 1) (hd : deP p ≠ []) (tg : gcdP p (deP p) ≠ []) (sg : SzL 1000 (gcdP p (deP p))) {t : Bool}
    (hw : ∀ db dw ds, RwC db (chP (gcdP p (deP p))) → RwC dw (chP p) → RwC ds (chP (deP p)) →
      (Qaj G Qa0 [ds, encR 0, encR 1] = some (.d (.z true)) ∧ t = true) ∨
      (Qaj G Qa0 [ds, encR 0, encR 1] = some (.own 8 1 (c2R (0, 1))) ∧ X G (.loop Qar) (QiN dp db dw ds (.row 1 (c2R (0, 1))) 0) = lpE t)) :
    Qaj G QbH [dp, encR 0, encR 1] = some (.d (bv t)) := by
  rw [Qad (cf := Qaw) rfl]
  have z0 : sz 0 ≤ 300 := by rw [Qc1]; omega
  have z1 : sz 1 ≤ 300 := by rw [QcO]; omega
  have g := Qco (a := 0) (b := 1) (by omega) (by omega)
  have tt := Qqc
  have hl := hr.len
  have t2 : ((p.length : Int) == 0) = false := QcD (by have := List.length_pos_iff.2 hp0; omega)
  have g0 := Qds hr sp (by omega) (by omega) (by omega) z0
  have g1 := Qds hr sp (by omega) (by omega) (by omega) z1
  have e0 := QjU (x := 0) (K := 300) z0 p (fun q hq => sp q hq)
  have e1 := QjU (x := 1) (K := 300) z1 p (fun q hq => sp q hq)
  have zb : p.length * (2 * 300 + 1) ≤ 3 * (2 * 300 + 1) := Nat.mul_le_mul_right _ np
  have h0 := QbP (a := evR p 0) (by omega)
  have h1 := QbP (a := evR p 1) (by omega)
  have t0 := QfV (x := evR p 0)
  have t1 := QfV (x := evR p 1)
  rw [decide_eq_false (Rat.not_lt.2 h0')] at t0
  rw [decide_eq_false (Rat.not_lt.2 h1')] at t1
  obtain ⟨dd, hd1, g2⟩ := Qf4 hr sp (by omega) (by omega) (by omega)
  have ld := hd1.len
  have t3 : (((deP p).length : Int) == 0) = false := QcD (by have := List.length_pos_iff.2 hd; omega)
  have sd : SzL 1000 (deP p) := by
    intro q hq
    obtain ⟨i, hi, rfl⟩ := List.getElem_of_mem hq
    have e := QnP p i
    rw [List.getD_eq_getElem?_getD, List.getElem?_eq_getElem hi, Option.getD_some] at e
    rw [e]
    have l1 := QmS p
    have k1 := Qez (a := p.getD (i + 1) 0) (b := (((i + 1 : Nat) : Int) : Rat))
    have k2 := sp.getD (by omega) (i + 1)
    have k3 := QlU (n := ((i + 1 : Nat) : Int)) ⟨by omega, by omega⟩
    omega
  have nd := QmS p
  obtain ⟨gg1, gg2, gg3⟩ := gc_ok (sp.mono (by omega)) tp np
  obtain ⟨dg, hg1, g3⟩ := QmM (K := 1000000) hr hd1 (by omega) (by omega) (by omega) (by omega) (sp.mono (by omega)) (sd.mono (by omega)) (Qln (by omega) _ _ _ gg1) (QoA (by omega) _ _ _ gg2)
  obtain ⟨dbs, hb, g4⟩ := chain3 hg1 sg Qof (QpX np) tg
  obtain ⟨dws, hw1, g5⟩ := chain3 hr (sp.mono (by omega)) tp np hp0
  obtain ⟨dss, hs1, g6⟩ := chain3 hd1 sd (Qlw p) (by omega) hd
  have W := hw _ _ _ hb.rwc hw1.rwc hs1.rwc
  clear e0 e1 zb z0 z1 sp hr h0' h1' hd1 hw hb hw1 hs1 hg1 sg gg1 gg2 gg3 sd tp tg hd
  generalize evR p 0 = r0 at *
  generalize evR p 1 = r1 at *
  generalize cmpR 0 1 = c at *
  rcases W with ⟨W1, rfl⟩ | ⟨W1, W2⟩
  · have W2 := y1_none (dp := dp) (db := .row dbs.length dbs) (dw := .row dws.length dws) (ds := .row dss.length dss) (dl := .z true) (i := 0) rfl (by omega)
    have W3 : X G (.loop Qar) (QiN dp (.row dbs.length dbs) (.row dws.length dws) (.row dss.length dss) (.z true) 0) = some (.x 0, mkS [] []) := by rw [Qag, W2]; rfl
    simp only [QiN, go_sem] at W3
    simp only [encR, iv] at g g0 g1 h0 h1 W1
    simp -implicitDefEqProofs (maxSteps:=9^8) only [Qaw, encR, g, tt, hl, t2, g0, h0, t0, g1, h1, t1, g2, g3, g4, g5, g6, ld, t3, W1, W3, ld4q, decide_true, decide_false, tupG, Qaa, go_sem, iv, bv, reduceCtorEq, ↓reduceIte, Nat.reduceEqDiff]
  · cases t
    · simp only [QiN, lpE, Bool.false_eq_true, if_false, go_sem] at W2
      simp only [encR, c2R, iv] at g g0 g1 h0 h1 W1 W2
      simp -implicitDefEqProofs (maxSteps:=9^8) only [Qaw, encR, g, tt, hl, t2, g0, h0, t0, g1, h1, t1, g2, g3, g4, g5, g6, ld, t3, W1, W2, ld4q, decide_true, decide_false, tupG, Qaa, go_sem, iv, bv, reduceCtorEq, ↓reduceIte, Nat.reduceEqDiff]
    · simp only [QiN, lpE, if_true, go_sem] at W2
      simp only [encR, c2R, iv] at g g0 g1 h0 h1 W1 W2
      simp -implicitDefEqProofs (maxSteps:=9^8) only [Qaw, encR, g, tt, hl, t2, g0, h0, t0, g1, h1, t1, g2, g3, g4, g5, g6, ld, t3, W1, W2, ld4q, decide_true, decide_false, tupG, Qaa, go_sem, iv, bv, reduceCtorEq, ↓reduceIte, Nat.reduceEqDiff]
end
theorem Qqh {dp : D} {p : List Rat} (hr : RwR dp p) (sp : SzL 300 p) (np : p.length ≤ 3) (tp : Trm p) : Qaj G QbH [dp, encR 0, encR 1] = some (.d (bv (staG p))) := by
 by_cases hp0 : p = []
 ·subst hp0
  rw [st_2 (by simp) (by rw [Qa7]; exact Rat.le_refl) (by rw [Qa7]; exact Rat.le_refl)]
  rcases hr with ⟨rfl, _⟩ | rfl
  ·exact QsP
  ·rw [Qad (cf := Qaw) rfl]
   have g := Qco (a := 0) (b := 1) (by rw [Qc1]; omega) (by rw [QcO]; omega)
   have t := Qqc
   have hl : lenA (.d (rowR [])) = some 0 := rfl
   have t2 : ((0 : Int) == 0) = true := rfl
   generalize cmpR 0 1 = c at *
   simp only [encR, iv] at g
   simp -implicitDefEqProofs (maxSteps:=9^8) only [Qaw, encR, g, t, hl, t2, ld4q, decide_true, decide_false, tupG, Qaa, go_sem, iv, bv, reduceCtorEq, ↓reduceIte, Nat.reduceEqDiff]
 by_cases h : ¬ (0 ≤ evR p 0 ∧ 0 ≤ evR p 1)
 ·rw [st_z h]; exact Qsv hr sp np hp0 h
 obtain ⟨h0, h1⟩ := Classical.not_not.1 h
 have z0 : sz (0 : Rat) ≤ 10000 := by rw [Qc1]; omega
 have z1 : sz (1 : Rat) ≤ 10000 := by rw [QcO]; omega
 have s1 : sz (1 : Rat) ≤ 1000 := by rw [QcO]; omega
 match p, np, hp0, sp, tp, hr, h0, h1 with
 | [u], np, hp0, sp, tp, hr, h0, h1 =>
  rw [st_2 (by simp) h0 h1]
  exact Qtm hr sp np hp0 h0 h1 (de_1 u)
 | [u, v], np, hp0, sp, tp, hr, h0, h1 =>
  have hv : v ≠ 0 := tp 1 rfl
  rw [st_2 (by simp) h0 h1]
  refine Qhw hr sp np hp0 tp h0 h1 (by rw [de_2 hv]; simp) (by rw [gcd_2 hv]; simp) (by rw [gcd_2 hv]; exact Qdp s1) fun db dw ds hb hw hs => .inl ⟨?_, rfl⟩
  rw [de_2 hv, ch_1 hv] at hs
  exact QkI hs (by simp) (fun q hq => by rw [List.mem_singleton.1 hq]; exact ⟨Qdp z1, by simp⟩) z0 z1 (by omega) (by omega) (QpT 0 1)
 | [a, b, c], np, hp0, sp, tp, hr, h0, h1 =>
  have hc : c ≠ 0 := tp 2 rfl
  obtain ⟨k1, k2, k3⟩ := in3 sp
  have k4 := qz_sz k2 k3
  have k5 := qw_sz k1 k2 k3
  have ec : chP (deP [a, b, c]) = [[-(qz b c), 1], [1]] := by rw [de_3 hc, ch_2 (c2_ne hc), qz_d]
  have ss : ∀ q ∈ [[-(qz b c), 1], [1]], SzL 10000 q ∧ q.length ≤ 1000 := fun q hq => by
   rcases List.mem_cons.1 hq with rfl | hq
   ·exact ⟨Qg2 (sz_n (by omega)) z1, by simp⟩
   ·rw [List.mem_singleton.1 hq]; exact ⟨Qdp z1, by simp⟩
  have cl := Qqy (qz b c) ld_one
  have hd : deP [a, b, c] ≠ [] := by rw [de_3 hc]; simp
  have sg : gcdP [a, b, c] (deP [a, b, c]) ≠ [] ∧ SzL 1000 (gcdP [a, b, c] (deP [a, b, c])) := by
   by_cases hw : qw a b c = 0
   ·rw [gcd_30 hc hw]; exact ⟨by simp, Qg2 (sz_n (by omega)) s1⟩
   ·rw [gcd_3 hc hw]; exact ⟨by simp, Qdp s1⟩
  by_cases hz : ¬ (0 < qz b c ∧ qz b c ≤ 1)
  ·rw [st_30 hc h0 h1 (.inr hz)]
   refine Qhw hr sp np hp0 tp h0 h1 hd sg.1 sg.2 fun db dw ds hb hw hs => .inl ⟨?_, rfl⟩
   rw [ec] at hs
   exact QkI hs (by simp) ss z0 z1 (by omega) (by omega) (by rw [cl, if_neg hz])
  have hz := Classical.not_not.1 hz
  have w1 : ∀ ds, RwC ds (chP (deP [a, b, c])) → Qaj G Qa0 [ds, encR 0, encR 1] = some (.own 8 1 (c2R (0, 1))) := fun ds hs => by
   rw [ec] at hs
   exact QqI hs (by simp) ss z0 z1 (by omega) (by omega) (by rw [cl, if_pos hz])
  by_cases hw0 : qw a b c = 0
  ·rw [st_30 hc h0 h1 (.inl hw0)]
   refine Qhw hr sp np hp0 tp h0 h1 hd sg.1 sg.2 fun db dw ds hb hw hs => .inr ⟨w1 ds hs, ?_⟩
   have eb : chP (gcdP [a, b, c] (deP [a, b, c])) = [[-(qz b c), 1], [1]] := by
    rw [gcd_30 hc hw0, ch_2 (by decide)]
    have i1 : (1 : Rat)⁻¹ = 1 := by decide +kernel
    have e : -(qz b c) / 1 = -(qz b c) := by rw [Rat.div_def, i1, Rat.mul_one]
    rw [e]
   rw [eb] at hb
   have g := y1_skip (dp := dp) (dw := dw) (ds := ds) hb (by simp) ss (x := (0, 1)) z0 z1 (by rw [cl, if_pos hz])
   rw [Qag, g, Option.bind_some, if_pos rfl, Qag, y1_end]; rfl
  ·have eb : chP (gcdP [a, b, c] (deP [a, b, c])) = [[1]] := by rw [gcd_3 hc hw0, ch_1 (by decide)]
   have ew := ch_3 hc hw0
   obtain ⟨_, _, _, so⟩ := Qob (sp.mono (by omega)) tp np hp0
   rw [ew] at so
   have so := up_K (show 7000 ≤ 10000 by omega) so
   have it0 : itH [[-(qz b c), 1], [1]] 0 = (0, 1) := rfl
   refine Qhw hr sp np hp0 tp h0 h1 hd sg.1 sg.2 fun db dw ds hb hw hs => .inr ⟨w1 ds hs, ?_⟩
   rw [eb] at hb
   rw [ew] at hw
   rw [ec] at hs
   obtain ⟨m, m1, m2, m3⟩ := y0_loop (dp := dp) (db := db) (dl := .row 1 (c2R (0, 1))) (i := 0) hc hw0 hz.1 hz.2 (S := 6 * 300 + 7) k5 (by omega) hw hs so ss (15 * (6 * 300 + 7) + 1) 0 (by omega)
   rw [it0] at m3
   obtain ⟨u1, u2⟩ := it_sz hz.1 hz.2 m
   have g := y1_go hr (sp.mono (show 300 ≤ 10000 by omega)) (by simp) hb (by simp) (fun q hq => by rw [List.mem_singleton.1 hq]; exact ⟨Qdp z1, by simp⟩) (x := (0, 1)) z0 z1 (QpT 0 1) m3 (by omega)
   rw [st_3 hc h0 h1 hw0 hz.1 hz.2 m2] at g
   rw [Qag, g]
   cases staG [a, b, c]
   ·rfl
   ·rw [Bool.not_true, if_neg (by simp), Option.bind_some, if_pos rfl, Qag, y1_end]; rfl
theorem Qoj {dp : D} {p : List Rat} (hr : RwR dp p) (sp : SzL 300 p) (np : p.length ≤ 3) (tp : Trm p) : Qaj G Qgj [dp] = some (.d (bv (staG p))) := by
 rw [Qad (cf := Qe2) rfl]
 have g := Qqh hr sp np tp
 have o := QcY (n := 1) (d := 1) ⟨by omega, by omega⟩ ⟨by omega, by omega⟩
 rw [Qcd, show ((1 : Int) : Rat) = 1 from rfl] at o
 generalize staG p = t at *
 rw [Qdx] at g
 generalize encR 1 = e1 at *
 simp only [iv] at o
 simp -implicitDefEqProofs (maxSteps:=9^8) only [Qe2, Qdk, QbC, g, o, go_sem, iv, bv, reduceCtorEq, ↓reduceIte, Nat.reduceEqDiff]
end Go.AM

/- sturm: next, Chain, Changes, counted, Count, middle. -/
namespace Go.AM
open Go Go.RowKit
theorem dvG_nil {K : Nat} {R : List Rat} (h : SzL K R) : ∀ n, dvG K [] n R
 | 0 => trivial
 | n + 1 => ⟨h, by
  have e : dvI R [] n (dvF R [] n) ([] : List Rat).length = R := rfl
  rw [e]
  exact dvG_nil h n⟩
theorem rem_nil (a : List Rat) : remP a [] = [] := if_pos rfl
noncomputable def chM : Nat → List Rat → List Rat → List (List Rat)
 | 0, _, _ => []
 | n + 1, a, b => if a = [] then [] else a :: chM n b (scP (remP a b) (-1))
theorem chM_L : ∀ (n : Nat) (a b : List Rat), chM (n + 1) a b = if a = [] then [] else a :: chL n a b
 | 0, a, b => rfl
 | n + 1, a, b => by
  rw [chM, chM_L n b, chL]
def Qp7 (da db : D) (ds : List D) : St := mkS [(3, if ds = [] then .d (.z true) else .own [20] ds.length), (4, .d da), (5, .d db)] (if ds = [] then [] else [([20], ⟨1, ds.length, ds.map .d, false⟩)])
def o7_en (ds : List D) : St := mkS [(3, if ds = [] then .d (.z true) else .own [20] ds.length)] (if ds = [] then [] else [([20], ⟨1, ds.length, ds.map .d, false⟩)])
theorem o7_nil (da db : D) : Qp7 da db [] = mkS [(3, .d (.z true)), (4, .d da), (5, .d db)] [] := rfl
theorem o7_ne (da db : D) {ds : List D} (h : ds ≠ []) : Qp7 da db ds = mkS [(3, .own [20] ds.length), (4, .d da), (5, .d db)] [([20], ⟨1, ds.length, ds.map .d, false⟩)] := by
 unfold Qp7
 rw [if_neg h, if_neg h]
theorem o7_en_nil : o7_en [] = mkS [(3, .d (.z true))] [] := rfl
theorem Qrt {ds : List D} (h : ds ≠ []) : o7_en ds = mkS [(3, .own [20] ds.length)] [([20], ⟨1, ds.length, ds.map .d, false⟩)] := by
 unfold o7_en
 rw [if_neg h, if_neg h]
theorem ne_snoc (ds : List D) (d : D) : ds ++ [d] ≠ [] := by simp
def lstS (S : List Int) : Int := S.getD (S.length - 1) 0
def QpM (d : D) (x : Rat) (S : List Int) (n i : Int) : St := mkS [(3, .ptr [3] 0), (5, ai (chN S S.length)), (6, ai (lstS S)), (10, .d d), (11, ai n), (12, ai i)] [([3], boxR x)]
theorem chN_pre (S : List Int) (s : Int) : ∀ i, i ≤ S.length → chN (S ++ [s]) i = chN S i
  | 0, _ => rfl
  | i + 1, h => by
    rw [chN, chN, chN_pre S s i (by omega)]
    have e1 : (S ++ [s]).getD i 0 = S.getD i 0 := by
      rw [List.getD_eq_getElem?_getD, List.getD_eq_getElem?_getD, List.getElem?_append_left (by omega)]
    by_cases h0 : 1 ≤ i
    · have e2 : (S ++ [s]).getD (i - 1) 0 = S.getD (i - 1) 0 := by
        rw [List.getD_eq_getElem?_getD, List.getD_eq_getElem?_getD, List.getElem?_append_left (by omega)]
      rw [e1, e2]
    · rw [if_neg (fun h => h0 h.1), if_neg (fun h => h0 h.1)]
theorem chN_snoc (S : List Int) (s : Int) : chN (S ++ [s]) (S ++ [s]).length = chN S S.length + (if S ≠ [] ∧ s ≠ lstS S then 1 else 0) := by
 rw [List.length_append, List.length_singleton, chN, chN_pre S s _ (Nat.le_refl _)]
 have e1 : (S ++ [s]).getD S.length 0 = s := by
  rw [List.getD_eq_getElem?_getD, List.getElem?_append_right (Nat.le_refl _), Nat.sub_self]; rfl
 rw [e1]
 by_cases h : S = []
 ·subst h
  rw [if_neg (by simp), if_neg (fun h => h.1 rfl)]
 ·have hl : 0 < S.length := List.length_pos_iff.2 h
  have e2 : (S ++ [s]).getD (S.length - 1) 0 = lstS S := by
   unfold lstS
   rw [List.getD_eq_getElem?_getD, List.getD_eq_getElem?_getD, List.getElem?_append_left (by omega)]
  rw [e2]
  by_cases h2 : s = lstS S
  ·rw [if_neg (fun h => h.2 h2), if_neg (fun h => h.2 h2)]
  ·rw [if_pos ⟨by omega, h2⟩, if_pos ⟨h, h2⟩]
theorem lst_snoc (S : List Int) (s : Int) : lstS (S ++ [s]) = s := by
 unfold lstS
 rw [List.length_append, List.length_singleton, Nat.add_sub_cancel, List.getD_eq_getElem?_getD, List.getElem?_append_right (Nat.le_refl _), Nat.sub_self]; rfl
theorem sgn_pm (p : List Rat) (x : Rat) (h : sgn1 p x ≠ 0) : sgn1 p x = 1 ∨ sgn1 p x = -1 := by
 unfold sgn1 at *
 rcases Int.lt_trichotomy (evR p x).num 0 with k | k | k
 ·exact .inr (Int.sign_eq_neg_one_of_neg k)
 ·rw [k] at h; exact absurd rfl h
 ·exact .inl (Int.sign_eq_one_of_pos k)
theorem sgs_pm (ps : List (List Rat)) (x : Rat) : ∀ s ∈ sgs ps x, s = 1 ∨ s = -1 := by
 intro s hs
 unfold sgs at hs
 obtain ⟨h1, h2⟩ := List.mem_filter.1 hs
 obtain ⟨p, _, rfl⟩ := List.mem_map.1 h1
 exact sgn_pm p x (of_decide_eq_true h2)
theorem lst_pm {S : List Int} (h : ∀ s ∈ S, s = 1 ∨ s = -1) : (S = [] ∧ lstS S = 0) ∨ (S ≠ [] ∧ (lstS S = 1 ∨ lstS S = -1)) := by
 by_cases h0 : S = []
 ·exact .inl ⟨h0, by rw [h0]; rfl⟩
 ·have hl : 0 < S.length := List.length_pos_iff.2 h0
  refine .inr ⟨h0, h _ ?_⟩
  unfold lstS
  rw [List.getD_eq_getElem?_getD, List.getElem?_eq_getElem (show S.length - 1 < S.length by omega)]
  exact List.getElem_mem _
variable [Its]
theorem Qs9        {da db : D} {a b : List Rat} {K : Nat} (ha : RwR da a) (hb : RwR db b) (na : a.length ≤ 1000) (nb : b.length ≤ 1000) (sb : SzL K b) (hg : dvG K b (dvN a b) a) (sr : SzL K (remP a b)) (hK1 : 3 ≤ K) (hK : K ≤ 1000000000) :
    ∃ d', RwR d' (scP (remP a b) (-1)) ∧ Qaj G QkX [da, db] = some (.d d') := by
  rw [Qad (cf := Qkj) rfl]
  obtain ⟨d1, d2, h1, h2, g1⟩ := QiB ha hb (by omega) (by omega) sb (by omega) hK hg
  have o1 := Qei Qq8 (d := 1) ⟨by omega, by omega⟩
  rw [Qcd, show (((-1 : Int)) : Rat) = -1 from rfl] at o1
  obtain ⟨d', h3, g2⟩ := QkL (a := -1) h2 sr (Nat.le_trans sz_m1 hK1) (by omega) (by omega) (by have := QhH a b; omega)
  refine ⟨d', h3, ?_⟩
  generalize (-1 : Rat) = m1 at *
  clear h1 h2 h3 sb hg sr ha hb
  simp only [encR, iv] at o1 g2
  simp -implicitDefEqProofs (maxSteps:=9^8) only [Qkj, o1, g1, g2, go_sem, iv, bv, reduceCtorEq, ↓reduceIte, Nat.reduceEqDiff]
section
variable {K : Nat}
theorem o7_go {da db : D} {a b : List Rat} {ds : List D} (ha : RwR da a) (hb : RwR db b) (na : a.length ≤ 90) (hne : a ≠ []) (nb : b.length ≤ 90) (sb : SzL K b) (hg : dvG K b (dvN a b) a) (sr : SzL K (remP a b)) (hK1 : 3 ≤ K) (hK : K ≤ 200000000) (hds : ds.length ≤ 1000) :
    ∃ d', RwR d' (scP (remP a b) (-1)) ∧ X G Qb9 (Qp7 da db ds) = some (.n, Qp7 db d' (ds ++ [da])) := by
  obtain ⟨d', h3, g⟩ := Qs9 ha hb (by omega) (by omega) sb hg sr hK1 (by omega)
  refine ⟨d', h3, ?_⟩
  have la := ha.len
  have e1 : decide ((a.length : Int) > 0) = true := decide_eq_true (by have := List.length_pos_iff.2 hne; omega)
  have k2 := ha.dcl
  have k3 := ha.dc
  have r1 : rep 1 [da] = [da] := rfl
  rw [o7_ne db d' (ne_snoc ds da)]
  clear h3 hg sr sb ha hb
  by_cases h0 : ds = []
  · subst h0
    rw [o7_nil]
    have b0 : (24 ≤ bound) = True := eq_true (by unfold bound; omega)
    have b1 : (1 * 24 ≤ bound) = True := eq_true (by unfold bound; omega)
    simp -implicitDefEqProofs (maxSteps:=9^8) only [Qb9, la, e1, k2, k3, r1, b0, b1, g, List.length_cons, List.length_nil, Nat.zero_add, List.map_cons, List.map_nil, Nat.mul_one, srcS, src, allD, Qdk, QbC, Qfu, List.all_cons, List.all_nil, Bool.and_self, Qaa, go_sem, iv, bv, reduceCtorEq, ↓reduceIte, Nat.reduceEqDiff]
  · rw [o7_ne da db h0]
    have n4 : ((ds.length + 1) * 24 ≤ bound) = True := eq_true (by unfold bound; omega)
    have n5 : (ds ++ [da]).length = ds.length + 1 := by simp
    have n6 : (ds.map A.d) ++ [A.d da] = (ds ++ [da]).map A.d := by simp
    simp -implicitDefEqProofs (maxSteps:=9^8) only [Qb9, la, e1, k2, k3, n4, n5, n6, r1, g, QiX, List.length_map, Nat.mul_one, srcS, src, allD, Qdk, QbC, List.all_cons, List.all_nil, Bool.and_self, Qaa, go_sem, iv, bv, reduceCtorEq, ↓reduceIte, Nat.reduceEqDiff]
theorem o7_stop {da db : D} {ds : List D} (ha : RwR da []) : X G Qb9 (Qp7 da db ds) = some (.x 0, o7_en ds) := by
 have la := ha.len
 simp only [List.length_nil] at la
 have e1 : decide ((0 : Int) > 0) = false := rfl
 by_cases h0 : ds = []
 ·subst h0
  rw [o7_nil, o7_en_nil]
  simp -implicitDefEqProofs (maxSteps:=9^8) only [Qb9, la, e1, Qaa, go_sem, iv, bv, reduceCtorEq, ↓reduceIte, Nat.reduceEqDiff]
 ·rw [o7_ne da db h0, Qrt h0]
  simp -implicitDefEqProofs (maxSteps:=9^8) only [Qb9, la, e1, QiX, Qaa, go_sem, iv, bv, reduceCtorEq, ↓reduceIte, Nat.reduceEqDiff]
theorem o7_loop (hK1 : 3 ≤ K) (hK : K ≤ 200000000) : ∀ (n : Nat) (a b : List Rat) (da db : D) (ds : List D), RwR da a → RwR db b → SzL K a → a.length ≤ 90 → ChOk K n a b → ds.length + n ≤ 900 →
    ∃ es, Dls es (chM (n + 1) a b) ∧ X G (.loop Qb9) (Qp7 da db ds) = some (.x 0, o7_en (ds ++ es))
  | n, a, b, da, db, ds, ha, hb, sa, na, hc, hl => by
    by_cases ha0 : a = []
    · subst ha0
      rw [chM, if_pos rfl]
      exact ⟨[], Dls.nil, by rw [Qag, o7_stop ha, List.append_nil]; rfl⟩
    · by_cases hb0 : b = []
      · subst hb0
        obtain ⟨d', h', hx⟩ := o7_go ha hb na ha0 (by simp) (fun q hq => by simp at hq) (dvG_nil sa _) (by rw [rem_nil]; exact fun q hq => by simp at hq) hK1 hK (ds := ds) (by omega)
        refine ⟨[da], ?_, ?_⟩
        · have e : chM (n + 1) a [] = [a] := by
            rw [chM_L, if_neg ha0]
            cases n with
            | zero => rfl
            | succ n => rw [chL, if_pos rfl]
          rw [e]
          exact Dls.cons ha Dls.nil
        · rw [Qag, hx, Option.bind_some, if_pos rfl, Qag, o7_stop hb]; rfl
      · cases n with
        | zero => exact absurd hc hb0
        | succ n =>
          rcases hc with hc | ⟨c1, c2, c3, c4, c5, c6, c7⟩
          · exact absurd hc hb0
          · obtain ⟨d', h', hx⟩ := o7_go ha hb na ha0 c2 c4 c5 c6 hK1 hK (ds := ds) (by omega)
            obtain ⟨es, he, hl2⟩ := o7_loop hK1 hK n b _ db d' (ds ++ [da]) hb h' c4 c2 c7 (by rw [List.length_append, List.length_singleton]; omega)
            refine ⟨da :: es, ?_, ?_⟩
            · rw [chM, if_neg ha0]
              exact Dls.cons ha he
            · rw [Qag, hx, Option.bind_some, if_pos rfl, hl2, List.append_assoc]; rfl
theorem QqL         {dp : D} {p : List Rat} (hp0 : p ≠ []) (np : p.length ≤ 90) (hF : ∃ d', RwR d' (frP p) ∧ Qaj   G Qff         [dp] = some (.d d')) (hf0 : frP p ≠ []) (nf : (frP p).length ≤ 90) (sf : SzL K (frP p)) (hc : ChOk K p.length (frP p) (deP (frP p))) (hK1 : 3 ≤ K) (hK : K ≤ 200000000) :
    ∃ ds, Dls ds (chP p) ∧ Qaj G QhK [dp] = some (.own 1 ds.length ds) := by
  rw [Qad (cf := Qjd) rfl]
  obtain ⟨da, ha, g1⟩ := hF
  obtain ⟨db, hb, g2⟩ := QjF ha sf (by omega) (by omega) (by omega)
  obtain ⟨es, he, g3⟩ := o7_loop hK1 hK p.length (frP p) (deP (frP p)) da db [] ha hb sf nf hc (by simp; omega)
  have ec : chM (p.length + 1) (frP p) (deP (frP p)) = chP p := by
    rw [chM_L, if_neg hf0]
    unfold chP
    rw [if_neg hp0]
  rw [ec] at he
  refine ⟨es, he, ?_⟩
  have hes : es ≠ [] := fun h => by
    have h1 := he.1
    rw [h] at h1
    unfold chP at h1
    rw [if_neg hp0] at h1
    simp at h1
  have n7 : allD (es.map A.d) = some es := QeQ _
  rw [o7_nil, List.nil_append, Qrt hes] at g3
  simp only [go_sem] at g3
  clear he hc sf ha hb
  simp -implicitDefEqProofs (maxSteps:=9^8) only [Qjd, g1, g2, g3, n7, QiX, Qaa, go_sem, iv, bv, reduceCtorEq, ↓reduceIte, Nat.reduceEqDiff]
end
section
variable {d : D} {ps : List (List Rat)} {x : Rat} {K : Nat}
theorem d7_go [ItsB] (hr : RwC d ps) (hn : ps.length ≤ 1000) (hs : ∀ p ∈ ps, SzL K p ∧ p.length ≤ 1000) (hx : sz x ≤ K) (hK : K ≤ 10000) {i : Nat} (hi : i < ps.length) :
    X G QbE (QpM d x (sgs (ps.take i) x) ps.length i) = some (.n, QpM d x (sgs (ps.take (i + 1)) x) ps.length ((i + 1 : Nat) : Int)) := by
  have e1 : decide ((i : Int) < (ps.length : Int)) = true := lt_t (by omega)
  have e2 : w64 ((i : Int) + 1) = ((i + 1 : Nat) : Int) := by rw [Qae (by omega) (by omega)]; rfl
  obtain ⟨y, r, hy, x1, x2⟩ := hr.at hi
  have hp := hs (ps.getD i []) (by rw [List.getD_eq_getElem?_getD, List.getElem?_eq_getElem hi]; exact List.getElem_mem hi)
  have hlen := Qj9 (ps.take i) x
  rw [List.length_take] at hlen
  have hpm := lst_pm (sgs_pm (ps.take i) x)
  have hcl := Qjw (sgs (ps.take i) x) (sgs (ps.take i) x).length
  have sn := sgn_pm (ps.getD i []) x
  rw [QrL ps x hi]
  generalize ps.getD i [] = p at *
  generalize sgs (ps.take i) x = S at *
  have zb : p.length * (2 * K + 1) ≤ 1000 * (2 * 10000 + 1) := Nat.mul_le_mul hp.2 (by omega)
  have g1 := Qha hy hx (by omega) hp.1 (by omega)
  have g2 := QbD (evR p x)
  have es : Int.sign (evR p x).num = sgn1 p x := rfl
  rw [es] at g2
  clear zb es hs hp hx hr
  generalize sgn1 p x = s at *
  generalize evR p x = v at *
  simp only [encR, iv] at g1 g2
  by_cases h0 : s = 0
  · have t : (s != 0) = false := bne_f h0
    rw [if_neg (by simp [h0])]
    generalize chN S S.length = n at *
    generalize lstS S = l at *
    simp -implicitDefEqProofs (maxSteps:=9^8) only [QbE, QpM, boxR, x1, x2, g1, g2, t, e1, e2, ld4q, Qaa, go_sem, iv, bv, reduceCtorEq, ↓reduceIte, Nat.reduceEqDiff]
  · have t : (s != 0) = true := Qta h0
    have sn := sn h0
    rw [if_pos h0]
    unfold QpM
    rw [chN_snoc, lst_snoc]
    generalize chN S S.length = n at *
    have en : w64 (0 - lstS S) = -(lstS S) := by rw [Qae (by omega) (by omega)]; omega
    by_cases hc : S ≠ [] ∧ s ≠ lstS S
    · have t2 : (s == -(lstS S)) = true := by
        rw [beq_iff_eq]
        rcases hpm with ⟨h1, _⟩ | ⟨_, h1⟩
        · exact absurd h1 hc.1
        · have := hc.2
          omega
      have e4 : w64 ((n : Int) + 1) = ((n + 1 : Nat) : Int) := by rw [Qae (by omega) (by omega)]; rfl
      rw [if_pos hc]
      generalize lstS S = l at *
      simp -implicitDefEqProofs (maxSteps:=9^8) only [QbE, boxR, x1, x2, g1, g2, t, t2, en, e1, e2, e4, ld4q, Qaa, go_sem, iv, bv, reduceCtorEq, ↓reduceIte, Nat.reduceEqDiff]
    · have t2 : (s == -(lstS S)) = false := by
        refine QcD ?_
        rcases hpm with ⟨_, h1⟩ | ⟨h2, h1⟩
        · omega
        · have : s = lstS S := Classical.byContradiction fun h => hc ⟨h2, h⟩
          omega
      rw [if_neg hc, Nat.add_zero]
      generalize lstS S = l at *
      simp -implicitDefEqProofs (maxSteps:=9^8) only [QbE, boxR, x1, x2, g1, g2, t, t2, en, e1, e2, ld4q, Qaa, go_sem, iv, bv, reduceCtorEq, ↓reduceIte, Nat.reduceEqDiff]
theorem d7_stop {S : List Int} {n : Nat} : X G QbE (QpM d x S n n) = some (.x 0, mkS [(5, ai (chN S S.length))] []) := by
 have e1 : decide ((n : Int) < (n : Int)) = false := lt_f (by omega)
 simp -implicitDefEqProofs (maxSteps:=9^8) only [QbE, QpM, boxR, e1, Qaa, go_sem, iv, bv, reduceCtorEq, ↓reduceIte, Nat.reduceEqDiff]
theorem d7_loop [ItsB] (hr : RwC d ps) (hn : ps.length ≤ 1000) (hs : ∀ p ∈ ps, SzL K p ∧ p.length ≤ 1000) (hx : sz x ≤ K) (hK : K ≤ 10000) : ∀ (j i : Nat), i + j = ps.length →
    X G (.loop QbE) (QpM d x (sgs (ps.take i) x) ps.length i) = some (.x 0, mkS [(5, ai (chg ps x))] [])
  | 0, i, h => by
    have : i = ps.length := by omega
    subst this
    rw [Qag, d7_stop, List.take_length]; rfl
  | j + 1, i, h => by
    rw [Qag, d7_go hr hn hs hx hK (by omega), Option.bind_some, if_pos rfl]
    exact d7_loop hr hn hs hx hK j (i + 1) (by omega)
theorem Qjr [ItsB] (hr : RwC d ps) (hn : ps.length ≤ 1000) (hs : ∀ p ∈ ps, SzL K p ∧ p.length ≤ 1000) (hx : sz x ≤ K) (hK : K ≤ 10000) : Qaj G Qgk [d, encR x] = some (.d (iv (chg ps x))) := by
 rw [Qad (cf := Qhs) rfl]
 have g := d7_loop hr hn hs hx hK ps.length 0 (by omega)
 have ll := hr.len
 have e0 : sgs (ps.take 0) x = [] := rfl
 have e1 : ((chN [] 0 : Nat) : Int) = 0 := rfl
 have e2 : lstS [] = 0 := rfl
 rw [e0] at g
 generalize chg ps x = c at *
 simp only [QpM, boxR, e1, e2, nc0, go_sem] at g
 simp -implicitDefEqProofs (maxSteps:=9^8) only [Qhs, encR, g, ll, Qaa, go_sem, iv, bv, reduceCtorEq, ↓reduceIte, Nat.reduceEqDiff]
theorem QnY [ItsB] (hr : RwC d ps) (hn : ps.length ≤ 1000) (hs : ∀ p ∈ ps, SzL K p ∧ p.length ≤ 1000) {lo hi : Rat} (h1 : sz lo ≤ K) (h2 : sz hi ≤ K) (hK : K ≤ 10000) : Qaj G Qh8 [d, encR lo, encR hi] = some (.d (iv (cnt ps lo hi))) := by
 rw [Qad (cf := QfY) rfl]
 have g0 := Qen (a := lo) (b := hi) (by omega) (by omega)
 have g1 := Qjr hr hn hs h1 hK
 have g2 := Qjr hr hn hs h2 hK
 have c1 : chg ps lo ≤ 1000 := Nat.le_trans (Qjw _ _) (Nat.le_trans (Qj9 ps lo) hn)
 have c2 : chg ps hi ≤ 1000 := Nat.le_trans (Qjw _ _) (Nat.le_trans (Qj9 ps hi) hn)
 have t0 := cmpR_ge (a := lo) (b := hi)
 unfold cnt
 generalize chg ps lo = a at *
 generalize chg ps hi = b at *
 obtain ⟨z, hz⟩ : ∃ z, (a : Int) - (b : Int) = z := ⟨_, rfl⟩
 have e : w64 ((a : Int) - (b : Int)) = z := by rw [Qae (by omega) (by omega), hz]
 rw [hz]
 generalize cmpR lo hi = c at *
 simp only [encR, iv] at g0 g1 g2
 by_cases h : hi ≤ lo
 ·rw [if_pos h]
  rw [decide_eq_true h] at t0
  simp -implicitDefEqProofs (maxSteps:=9^8) only [QfY, encR, g0, t0, ld4q, Qaa, go_sem, iv, bv, reduceCtorEq, ↓reduceIte, Nat.reduceEqDiff]
 ·rw [if_neg h]
  rw [decide_eq_false h] at t0
  simp -implicitDefEqProofs (maxSteps:=9^8) only [QfY, encR, g0, g1, g2, t0, e, ld4q, Qaa, go_sem, iv, bv, reduceCtorEq, ↓reduceIte, Nat.reduceEqDiff]
end
theorem Qqj         [ItsB] {dp : D} {p : List Rat} {K : Nat} (hC : ∃ ds, Dls ds (chP p) ∧ Qaj   G QhK           [dp] = some (.own 1 ds.length ds)) (hn : (chP p).length ≤ 1000) (hs : ∀ q ∈ chP p, SzL K q ∧ q.length ≤ 1000) {lo hi : Rat} (h1 : sz lo ≤ K) (h2 : sz hi ≤ K) (hK : K ≤ 10000) :
    Qaj G Qhz [dp, encR lo, encR hi] = some (.d (iv (cnt (chP p) lo hi))) := by
  rw [Qad (cf := Qi0) rfl]
  obtain ⟨ds, hd, g1⟩ := hC
  have g2 := QnY hd.rwc hn hs h1 h2 hK
  generalize cnt (chP p) lo hi = c at *
  simp only [encR, iv] at g2
  simp -implicitDefEqProofs (maxSteps:=9^8) only [Qi0, encR, g1, g2, ld4q, Qaa, go_sem, iv, bv, reduceCtorEq, ↓reduceIte, Nat.reduceEqDiff]
theorem QpV {l : Rat × Rat} (h1 : sz l.1 ≤ 1000000000) (h2 : sz l.2 ≤ 1000000000) : Qaj G QiW [enc2 l] = some (.d (encR (mid l.1 l.2))) := by
 rw [Qad (cf := Qid) rfl]
 have g1 := QhL (a := l.1) (b := l.2) (by omega) (by omega)
 have g2 := Qei (n := 1) (d := 2) ⟨by omega, by omega⟩ ⟨by omega, by omega⟩
 have z1 := QkK (a := l.1) (b := l.2)
 have z3 := sz_of (n := 1) (d := 2) ⟨by omega, by omega⟩ ⟨by omega, by omega⟩
 have g3 := Qdr (a := l.1 + l.2) (b := Rat.divInt 1 2) (by omega) (by omega)
 unfold mid
 generalize (l.1 + l.2) * Rat.divInt 1 2 = r at *
 generalize l.1 + l.2 = s at *
 generalize Rat.divInt 1 2 = t at *
 obtain ⟨lo, hi⟩ := l
 simp only [encR, iv] at g1 g2 g3
 simp -implicitDefEqProofs (maxSteps:=9^8) only [Qid, enc2, c2R, encR, g1, g2, g3, st4q, ld4q, st8q, QmA, QmD, Qaa, go_sem, iv, bv, reduceCtorEq, ↓reduceIte, Nat.reduceEqDiff]
theorem QgB [ItsB] {d : D} {p : List Rat} {x : Rat} {K : Nat} (hr : RwR d p) (hx : sz x ≤ K) (hK : K ≤ 1000000) (sp : SzL K p) (np : p.length ≤ 100) : Qaj G Qgr [encR x, .rp [d]] = some (.d (bv (decide (evR p x < 0)))) := by
 rw [Qad (cf := QhP) rfl]
 have zb : p.length * (2 * K + 1) ≤ 100 * (2 * 1000000 + 1) := Nat.mul_le_mul np (by omega)
 have g1 := Qha hr hx (by omega) sp (by omega)
 have g2 := QbD (evR p x)
 rw [← QfV]
 generalize evR p x = v at *
 generalize Int.sign v.num = s at *
 simp only [encR, iv] at g1 g2
 simp -implicitDefEqProofs (maxSteps:=9^8) only [QhP, encR, QmV, g1, g2, ld4q, Qaa, go_sem, iv, bv, reduceCtorEq, ↓reduceIte, Nat.reduceEqDiff]
end Go.AM

/- sturm.odd, sturm.Stays at polynomials of at most the second degree: the plain part. -/
namespace Go.AM
open Go Go.RowKit
theorem div1 (q : Rat) : q / 1 = q := by
 have i1 : (1 : Rat)⁻¹ = 1 := by decide +kernel
 rw [Rat.div_def, i1, Rat.mul_one]
theorem qz_1 {b c : Rat} (hc : c ≠ 0) : qz (b / c) 1 = qz b c := by
 have h1 := qz_b (b := b) hc
 have h2 := qz_b (b := b / c) (c := 1) (by decide)
 rw [div1] at h2
 grind
theorem qw_1 {a b c : Rat} (hc : c ≠ 0) : qw (a / c) (b / c) 1 = qw a b c := by
 unfold qw
 rw [qz_1 hc, div1]
theorem ch_m2 {a b c : Rat} (hc : c ≠ 0) (hw : qw a b c ≠ 0) : chP [a / c, b / c, 1] = [[a / c, b / c, 1], [-(2 * qz b c), 2], [-(qw a b c)]] := by
 rw [ch_3 (by decide) (by rw [qw_1 hc]; exact hw), qz_1 hc, qw_1 hc, div1, div1]
theorem ch_l1 (u : Rat) : chP [u, 1] = [[u, 1], [1]] := by rw [ch_2 (by decide), div1]
/-! The Qet of odd -/
theorem one_mu {g : List Rat} (tg : Trm g) : muP [1] g = g := Qd3 (QoJ _ _) tg fun x => by rw [QjH, ev_1, Rat.one_mul]
theorem gcd_c1 {g : List Rat} (tg : Trm g) (hm : mnP g = g) : gcdP g [1] = [1] := by
 unfold gcdP
 rw [hm, mn_1 (by decide)]
 have i1 : (1 : Rat) / 1 = 1 := div1 1
 show gcP 2 g [1] = [1]
 rw [QmN _ _ (by simp), Qhu tg (by decide), QmL, QlZ]
theorem quo_21 {u v : Rat} (hv : v ≠ 0) : quoP [u, v] [u / v, 1] = [v] :=
 (Qic (r := []) (trm2 (by decide)) (by simp) (trm1 hv) Qdc (by simp) fun x => by
  rw [ev_2, ev_2, ev_1, Qa7]
  have := Rat.div_mul_cancel (a := u) hv
  grind).1
theorem quo_32 {a b c : Rat} (hc : c ≠ 0) : quoP [a, b, c] [a / c, b / c, 1] = [c] :=
 (Qic (r := []) (trm3 (by decide)) (by simp) (trm1 hc) Qdc (by simp) fun x => by
  rw [ev_3, ev_3, ev_1, Qa7]
  have h1 := Rat.div_mul_cancel (a := a) hc
  have h2 := Rat.div_mul_cancel (a := b) hc
  grind).1
theorem quo_30 {a b c : Rat} (hc : c ≠ 0) (hw : qw a b c = 0) : quoP [a, b, c] [-(qz b c), 1] = [-(qz b c) * c, c] := by
 refine (Qic (r := []) (trm2 (by decide)) (by simp) (trm2 hc) Qdc (by simp) fun x => ?_).1
 have h := QiO (a := a) (b := b) hc x
 rw [hw, ev_3] at h
 have h1 : a / c * c = a := Rat.div_mul_cancel hc
 have h2 : b / c * c = b := Rat.div_mul_cancel hc
 rw [ev_3, ev_2, ev_2, Qa7]
 have : a + b * x + c * (x * x) = (a / c + b / c * x + 1 * (x * x)) * c := by grind
 rw [this, h]
 grind
theorem Qrs {z c : Rat} (hc : c ≠ 0) : z * c / c = z := by rw [Rat.div_def, Rat.mul_assoc, Rat.mul_inv_cancel _ hc, Rat.mul_one]
theorem gcd_self1 (z : Rat) : gcdP [z, 1] [z, 1] = [z, 1] := by
 unfold gcdP
 rw [mn_2 (by decide), div1]
 show gcP 3 _ _ = _
 have : remP [z, 1] [z, 1] = [] := (Qic (a := [1]) (trm2 (by decide)) (by simp) (trm1 (by decide)) Qdc (by simp) fun x => by rw [ev_2, ev_1, Qa7]; grind).2
 rw [QmN _ _ (by simp), this, QmL, QlZ]
theorem quo_self1 (z : Rat) : quoP [z, 1] [z, 1] = [1] :=
 (Qic (r := []) (trm2 (by decide)) (by simp) (trm1 (by decide)) Qdc (by simp) fun x => by rw [ev_2, ev_1, Qa7]; grind).1
theorem quo_c1 {v : Rat} (hv : v ≠ 0) : quoP [v] [1] = [v] := (Qka (trm1 hv)).1
def odP : List Rat → List Rat
 | [u, v] => [u / v, 1]
 | [a, b, c] => if qw a b c = 0 then [1] else [a / c, b / c, 1]
 | _ => [1]
/-! The changes of a square's chain -/
theorem chg_qp {a b c : Rat} (hc : c ≠ 0) (hw : 0 < qw a b c) (x : Rat) : chg [[a / c, b / c, 1], [-(2 * qz b c), 2], [-(qw a b c)]] x = 1 := by
 have p1 : sgn1 [a / c, b / c, 1] x = 1 := QhV (by rw [QiO hc]; have := Qno (x - qz b c); grind)
 have p3 : sgn1 [-(qw a b c)] x = -1 := Qkx (by rw [ev_1]; grind)
 have e1 : ∀ x, evR [-(2 * qz b c), 2] x = 2 * (x - qz b c) := fun x => by rw [ev_2]; grind
 rw [Qs8]
 simp only [List.map_cons, List.map_nil]
 rw [p1, p3]
 by_cases h : x < qz b c
 ·rw [Qkx (by rw [e1]; grind)]; rfl
 ·by_cases h2 : x = qz b c
  ·rw [Qmt (by rw [e1]; grind)]; rfl
  ·rw [QhV (by rw [e1]; grind)]; rfl
theorem chg_qn {a b c : Rat} (hc : c ≠ 0) (hw : qw a b c < 0) (x : Rat) : chg [[a / c, b / c, 1], [-(2 * qz b c), 2], [-(qw a b c)]] x =
    if evR [a / c, b / c, 1] x < 0 then 1 else if x < qz b c then (if evR [a / c, b / c, 1] x = 0 then 1 else 2) else 0 := by
  have p3 : sgn1 [-(qw a b c)] x = 1 := QhV (by rw [ev_1]; grind)
  have e1 : ∀ x, evR [-(2 * qz b c), 2] x = 2 * (x - qz b c) := fun x => by rw [ev_2]; grind
  have ef := QiO (a := a) (b := b) hc x
  rw [Qs8]
  simp only [List.map_cons, List.map_nil]
  rw [p3]
  by_cases k : evR [a / c, b / c, 1] x < 0
  · rw [if_pos k, Qkx k]
    by_cases h : x < qz b c
    · rw [Qkx (by rw [e1]; grind)]; rfl
    · by_cases h2 : x = qz b c
      · rw [Qmt (by rw [e1]; grind)]; rfl
      · rw [QhV (by rw [e1]; grind)]; rfl
  · rw [if_neg k]
    have hx : x ≠ qz b c := by
      intro h
      refine k ?_
      rw [ef, h]
      grind
    by_cases h : x < qz b c
    · rw [if_pos h, Qkx (p := [-(2 * qz b c), 2]) (by rw [e1]; grind)]
      by_cases k2 : evR [a / c, b / c, 1] x = 0
      · rw [if_pos k2, Qmt k2]; rfl
      · rw [if_neg k2, QhV (by grind)]; rfl
    · rw [if_neg h, QhV (p := [-(2 * qz b c), 2]) (by rw [e1]; grind)]
      by_cases k2 : evR [a / c, b / c, 1] x = 0
      · rw [Qmt k2]; rfl
      · rw [QhV (by grind)]; rfl
noncomputable def odN (g : List Rat) : Int := if 0 < cnt (chP g) 0 1 ∧ evR g 1 = 0 then cnt (chP g) 0 1 - 1 else cnt (chP g) 0 1
theorem QqK : odN [1] = 0 := by
 unfold odN
 rw [ch_1 (by decide), QpT]; rfl
theorem odN_lin (u : Rat) : odN [u, 1] = if 0 < -u ∧ -u < 1 then 1 else 0 := by
 unfold odN
 have e : chP [u, 1] = [[-(-u), 1], [1]] := by rw [ch_l1, Rat.neg_neg]
 rw [e, Qqy (-u) (show (0 : Rat) < 1 by decide), ev_2]
 by_cases h : 0 < -u ∧ -u ≤ 1
 ·rw [if_pos h]
  by_cases h2 : u + 1 * 1 = 0
  ·rw [if_pos ⟨by decide, h2⟩, if_neg (by grind)]; rfl
  ·rw [if_neg (fun h => h2 h.2), if_pos (by grind)]
 ·rw [if_neg h, if_neg (fun h => absurd h.1 (by decide)), if_neg (by grind)]
theorem cnt01 (ps : List (List Rat)) : cnt ps 0 1 = (chg ps 0 : Int) - (chg ps 1 : Int) := if_neg (by decide)
theorem od_law {p : List Rat} (np : p.length ≤ 3) (tp : Trm p) (h0 : 0 ≤ evR p 0) (h1 : 0 ≤ evR p 1) : (staG p = true → odN (odP p) ≤ 0) ∧ (staG p = false → 0 < odN (odP p) ∨ evR p hf < 0) := by
 match p, np, tp, h0, h1 with
 | [], _, _, h0, h1 =>
  rw [st_2 (by simp) h0 h1]
  exact ⟨fun _ => by rw [show odP [] = [1] from rfl, QqK]; exact Int.le_refl _, fun h => by simp at h⟩
 | [u], _, _, h0, h1 =>
  rw [st_2 (by simp) h0 h1]
  exact ⟨fun _ => by rw [show odP [u] = [1] from rfl, QqK]; exact Int.le_refl _, fun h => by simp at h⟩
 | [u, v], _, tp, h0, h1 =>
  have hv : v ≠ 0 := tp 1 rfl
  rw [st_2 (by simp) h0 h1]
  refine ⟨fun _ => ?_, fun h => by simp at h⟩
  rw [show odP [u, v] = [u / v, 1] from rfl, odN_lin]
  rw [ev_2] at h0 h1
  have e := Rat.div_mul_cancel (a := u) hv
  generalize u / v = r at *
  rw [if_neg]
  ·exact Int.le_refl _
  ·rintro ⟨k1, k2⟩
   rcases Rat.le_total (a := 0) (b := v) with k | k
   ·have hv2 : 0 < v := by grind
    have := Rat.mul_pos k1 hv2
    grind
   ·have hv2 : 0 < -v := by grind
    have := Rat.mul_pos (a := 1 - -r) (b := -v) (by grind) hv2
    grind
 | [a, b, c], _, tp, h0, h1 =>
  have hc : c ≠ 0 := tp 2 rfl
  by_cases hw : qw a b c = 0
  ·rw [st_30 hc h0 h1 (.inl hw)]
   refine ⟨fun _ => ?_, fun h => by simp at h⟩
   rw [show odP [a, b, c] = if qw a b c = 0 then [1] else [a / c, b / c, 1] from rfl, if_pos hw, QqK]
   exact Int.le_refl _
  ·rw [show odP [a, b, c] = if qw a b c = 0 then [1] else [a / c, b / c, 1] from rfl, if_neg hw]
   have em : ∀ x, evR [a, b, c] x = evR [a / c, b / c, 1] x * c := fun x => by
    rw [ev_3, ev_3]
    have k1 : a / c * c = a := Rat.div_mul_cancel hc
    have k2 : b / c * c = b := Rat.div_mul_cancel hc
    grind
   have F0 := QiO (a := a) (b := b) hc 0
   have F1 := QiO (a := a) (b := b) hc 1
   have Fz := QiO (a := a) (b := b) hc (qz b c)
   have Fh := QiO (a := a) (b := b) hc hf
   have p0 := fun h => chg_qp (a := a) (b := b) hc h 0
   have p1 := fun h => chg_qp (a := a) (b := b) hc h 1
   have q0 := fun h => chg_qn (a := a) (b := b) hc h 0
   have q1 := fun h => chg_qn (a := a) (b := b) hc h 1
   have hh := Qpp
   rw [st_nz h0 h1]
   have e2 : [a, b, c].getD 2 0 = c := rfl
   have e3 : [a, b, c].length = 3 := rfl
   have dl : decide (3 < 3) = false := rfl
   rw [e2, e3, ve_qz, dl, Bool.false_or, em (qz b c), em hf]
   rw [em] at h0 h1
   unfold odN
   rw [ch_m2 hc hw, cnt01]
   generalize chg [[a / c, b / c, 1], [-(2 * qz b c), 2], [-(qw a b c)]] 0 = n0 at *
   generalize chg [[a / c, b / c, 1], [-(2 * qz b c), 2], [-(qw a b c)]] 1 = n1 at *
   generalize qz b c = z at *
   generalize qw a b c = w at *
   generalize evR [a / c, b / c, 1] 0 = f0 at *
   generalize evR [a / c, b / c, 1] 1 = f1 at *
   generalize evR [a / c, b / c, 1] z = fz at *
   generalize evR [a / c, b / c, 1] hf = fh at *
   generalize hf = t at *
   have s0 := Qno (0 - z)
   have s1 := Qno (1 - z)
   by_cases hcn : c < 0
   ·rw [decide_eq_true hcn, if_pos rfl]
    refine ⟨fun _ => ?_, fun h => by simp at h⟩
    have k0 : f0 ≤ 0 := by
     apply Rat.not_lt.1
     intro h
     have := Rat.mul_pos (a := f0) (b := -c) h (by grind)
     grind
    have k1 : f1 ≤ 0 := by
     apply Rat.not_lt.1
     intro h
     have := Rat.mul_pos (a := f1) (b := -c) h (by grind)
     grind
    have hwn : w < 0 := by grind
    rw [q0 hwn, q1 hwn]
    by_cases a0 : f0 < 0
    ·rw [if_pos a0]
     by_cases a1 : f1 < 0
     ·rw [if_pos a1, if_neg (fun h => absurd h.1 (by decide))]; decide
     ·have b1 : f1 = 0 := by grind
      have b2 : ¬ 1 < z := by grind
      rw [if_neg a1, if_neg b2, if_pos ⟨by decide, b1⟩]; decide
    ·have b0 : f0 = 0 := by grind
     have c0 : 0 < z := by grind
     rw [if_neg a0, if_pos c0, if_pos b0]
     by_cases a1 : f1 < 0
     ·rw [if_pos a1, if_neg (fun h => absurd h.1 (by decide))]; decide
     ·have b1 : f1 = 0 := by grind
      have b2 : ¬ 1 < z := by grind
      rw [if_neg a1, if_neg b2, if_pos ⟨by decide, b1⟩]; decide
   ·have hcp : 0 < c := by grind
    rw [decide_eq_false hcn, if_neg (by simp)]
    have k0 : 0 ≤ f0 := by
     apply Rat.not_lt.1
     intro h
     have := Rat.mul_pos (a := -f0) (b := c) (by grind) hcp
     grind
    have k1 : 0 ≤ f1 := by
     apply Rat.not_lt.1
     intro h
     have := Rat.mul_pos (a := -f1) (b := c) (by grind) hcp
     grind
    have a0 : ¬ f0 < 0 := Rat.not_lt.2 k0
    have a1 : ¬ f1 < 0 := Rat.not_lt.2 k1
    by_cases hwp : 0 < w
    ·rw [p0 hwp, p1 hwp, if_neg (fun h => absurd h.1 (by decide))]
     refine ⟨fun _ => by decide, fun h => ?_⟩
     have : 0 ≤ fz * c := Rat.mul_nonneg (by grind) (by grind)
     rw [decide_eq_true this, Bool.or_true] at h
     simp at h
    have hwn : w < 0 := by grind
    rw [q0 hwn, q1 hwn, if_neg a0, if_neg a1]
    have g0 : ¬ 0 ≤ fz * c := by
     intro h
     have := Rat.mul_pos (a := -fz) (b := c) (by grind) hcp
     grind
    rw [decide_eq_false g0, Bool.or_false, Bool.or_eq_true, Bool.or_eq_false_iff, decide_eq_true_iff, decide_eq_true_iff, decide_eq_false_iff_not, decide_eq_false_iff_not]
    refine ⟨fun h => ?_, fun h => ?_⟩
    ·rcases h with h | h
     ·have b1 : ¬ 0 < z := Rat.not_lt.2 h
      have b2 : ¬ 1 < z := by grind
      rw [if_neg b1, if_neg b2, if_neg (fun h => absurd h.1 (by decide))]; decide
     ·have b1 : 0 < z := by grind
      have b2 : 1 < z := by grind
      have b3 : f0 ≠ 0 := by grind
      rw [if_pos b1, if_pos b2, if_neg b3]
      by_cases b4 : f1 = 0
      ·rw [if_pos b4, if_pos ⟨by decide, b4⟩]; decide
      ·rw [if_neg b4, if_neg (fun h => absurd h.1 (by decide))]; decide
    ·obtain ⟨h2, h3⟩ := h
     have b1 : 0 < z := by grind
     have b2 : ¬ 1 < z := by grind
     rw [if_pos b1, if_neg b2]
     by_cases b3 : f0 = 0
     ·rw [if_pos b3]
      by_cases b4 : f1 = 0
      ·right
       have b5 : z = t := by grind
       have : fh < 0 := by grind
       have := Rat.mul_pos (a := -fh) (b := c) (by grind) hcp
       grind
      ·left
       rw [if_neg (fun h => b4 h.2)]; decide
     ·left
      rw [if_neg b3]
      split <;> decide
end Go.AM

/- sturm.odd, sturm.Stays from 0 to 1 at polynomials of at most the second degree. -/
namespace Go.AM
open Go Go.RowKit
def Qqm (a b : D) : St := mkS [(3, .d a), (4, .d b)] []
theorem quo_30c {b c : Rat} (hc : c ≠ 0) : quoP [-(qz b c) * c, c] [-(qz b c), 1] = [c] := by
 have := quo_21 (u := -(qz b c) * c) hc
 rw [Qrs hc] at this
 exact this
theorem ch_len {g : List Rat} (g0 : g ≠ []) (tg : Trm g) (ng : g.length ≤ 3) : (chP g).length ≤ 3 := by
 match g, ng, g0, tg with
 | [u], _, _, tg =>
  have h : u ≠ 0 := tg 0 rfl
  rw [ch_1 h]; simp
 | [u, v], _, _, tg =>
  have h : v ≠ 0 := tg 1 rfl
  rw [ch_2 h]; simp
 | [a, b, c], _, _, tg =>
  have h : c ≠ 0 := tg 2 rfl
  by_cases hw : qw a b c = 0
  ·rw [ch_30 h hw]; simp
  ·rw [ch_3 h hw]; simp
theorem gc3_ok {a b : List Rat} (sa : SzL 7000 a) (sb : SzL 7000 b) (na : a.length ≤ 3) (nb : b.length ≤ 3) (ta : Trm a) (tb : Trm b) : gcG 3000000 (b.length + 1) (mnP a) (mnP b) := by
 have l1 := Qji ta
 have l2 := Qji tb
 have h1 : dvN (mnP a) (mnP b) + 1 ≤ 5 := by unfold dvN; omega
 have h2 : 3 ^ (mnP b).length ≤ 3 ^ 3 := Nat.pow_le_pow_right (by omega) (by omega)
 have h3 : (21000 + 1) * (dvN (mnP a) (mnP b) + 1) * 3 ^ (mnP b).length ≤ 3000000 := Nat.le_trans (Nat.mul_le_mul (Nat.mul_le_mul_left _ h1) h2) (by decide)
 exact (gc_pot (K := 3000000) (b.length + 1) 21000 (mnP a) (mnP b) (mn_HL (hl21 sa na) ta) (mn_HL (hl21 sb nb) tb) (QgK _) (by omega) h3).1
theorem odP_sz {p : List Rat} (sp : SzL 300 p) (np : p.length ≤ 3) : odP p ≠ [] ∧ Trm (odP p) ∧ (odP p).length ≤ 3 ∧ SzL 1000 (odP p) := by
 have z1 : sz (1 : Rat) ≤ 1000 := by rw [QcO]; omega
 have t1 : Trm [(1 : Rat)] := trm1 (by decide)
 have b1 : ([1] : List Rat) ≠ [] ∧ Trm [(1 : Rat)] ∧ ([1] : List Rat).length ≤ 3 ∧ SzL 1000 [(1 : Rat)] := ⟨by simp, t1, by simp, Qdp z1⟩
 match p, np, sp with
 | [], _, _ => exact b1
 | [u], _, _ => exact b1
 | [u, v], _, sp =>
  obtain ⟨k1, k2⟩ := in2 sp
  have k3 := QfA (a := u) (b := v)
  exact ⟨by simp [odP], trm2 (by decide), by simp [odP], Qg2 (by omega) z1⟩
 | [a, b, c], _, sp =>
  obtain ⟨k1, k2, k3⟩ := in3 sp
  have k4 := QfA (a := a) (b := c)
  have k5 := QfA (a := b) (b := c)
  rw [show odP [a, b, c] = if qw a b c = 0 then [1] else [a / c, b / c, 1] from rfl]
  by_cases hw : qw a b c = 0
  ·rw [if_pos hw]; exact b1
  ·rw [if_neg hw]; exact ⟨by simp, trm3 (by decide), by simp, QqE (by omega) (by omega) z1⟩
variable [Its]
theorem pFree3 {d : D} {p : List Rat} (hr : RwR d p) (hp : SzL 1000 p) (tp : Trm p) (np : p.length ≤ 3) : ∃ d', RwR d' (frP p) ∧ Qaj G Qff [d] = some (.d d') := by
 obtain ⟨g1, g2, g3⟩ := gc_ok hp tp np
 have tg : Trm (gcdP p (deP p)) := Qof
 have gl := QpX np
 have hm : dvN p (gcdP p (deP p)) ≤ 4 := by unfold dvN; omega
 have h1 : dvN p (gcdP p (deP p)) * 140000 ≤ 4 * 140000 := Nat.mul_le_mul_right _ hm
 have h2 : dvN p (gcdP p (deP p)) * (140000 + 1) ≤ 4 * (140000 + 1) := Nat.mul_le_mul_right _ hm
 have H : HL 3000 3000 p := by
  obtain ⟨K, hK⟩ : ∃ K, K = 1000 := ⟨_, rfl⟩
  have h3 : SzL K p := by rw [hK]; exact hp
  exact (hl3 h3 np).mono (by omega) (by omega)
 obtain ⟨x, y, z⟩ := QrC (K := 800000) H g3 tg (by omega)
 have Hd := H.de (by have : BB = 1000000000 := rfl; omega)
 exact Qqs hr (by omega) (K := 1000000) (by omega) (by omega) (hp.mono (by omega)) (Hd.sz.mono (by omega)) (Qln (by omega) _ _ _ g1) (by omega) (g3.sz.mono (by omega)) (Qlg (by omega) _ _ x) (z.sz.mono (by omega))
theorem pDiv3 {da db : D} {a b : List Rat} (ha : RwR da a) (hb : RwR db b) (sa : SzL 7000 a) (sb : SzL 7000 b) (na : a.length ≤ 3) (nb : b.length ≤ 3) (tb : Trm b) : ∃ d1 d2, RwR d1 (quoP a b) ∧ RwR d2 (remP a b) ∧ Qaj G Qed [da, db] = some (.d (.tup [d1, d2])) := by
 obtain ⟨x, _, _⟩ := dv_ok sa sb na nb tb
 exact QiB ha hb (by omega) (by omega) (K := 800000) (sb.mono (by omega)) (by omega) (by omega) x
theorem pGcd3 {da db : D} {a b : List Rat} (ha : RwR da a) (hb : RwR db b) (sa : SzL 7000 a) (sb : SzL 7000 b) (na : a.length ≤ 3) (nb : b.length ≤ 3) (ta : Trm a) (tb : Trm b) : ∃ d', RwR d' (gcdP a b) ∧ Qaj G Qix [da, db] = some (.d d') :=
 Qna ha hb (by omega) (by omega) (K := 3000000) (by omega) (by omega) (sa.mono (by omega)) (sb.mono (by omega)) (gc3_ok sa sb na nb ta tb)
theorem Ql7 {d1 d2 : D} {r : List Rat} (hr : RwR d2 r) (h : r.length ≤ 1) : X G Qeg (Qqm d1 d2) = some (.x 0, mkS [(3, .d d1)] []) := by
 have l := hr.len
 have e : decide ((r.length : Int) > 1) = false := decide_eq_false (by omega)
 simp -implicitDefEqProofs (maxSteps:=9^8) only [Qeg, Qqm, l, e, go_sem, iv, bv, reduceCtorEq, ↓reduceIte, Nat.reduceEqDiff]
theorem od_go {d1 d2 : D} {out r one r1 two g2 onc out' r2 : List Rat} (h1 : RwR d1 out) (h2 : RwR d2 r) (n2 : r.length ≤ 3) (n1 : 1 < r.length) (s2 : SzL 1000 r) (t2 : Trm r)
    (e1 : frP r = one) (e2 : quoP r one = r1) (e3 : frP r1 = two) (e4 : gcdP one two = g2) (e5 : quoP one g2 = onc) (e6 : muP out onc = out') (e7 : quoP r1 two = r2)
    (so : SzL 7000 out) (no : out.length ≤ 3) (s1 : SzL 7000 one) (k1 : one.length ≤ 3) (t1 : Trm one) (sr : SzL 1000 r1) (kr : r1.length ≤ 3) (tr : Trm r1) (st : SzL 7000 two) (kt : two.length ≤ 3) (tt : Trm two) (sg : SzL 7000 g2) (kg : g2.length ≤ 3) (tg : Trm g2) (sn : SzL 7000 onc) (kn : onc.length ≤ 3) :
    ∃ d3 d4, RwR d3 out' ∧ RwR d4 r2 ∧ X G Qeg (Qqm d1 d2) = some (.n, Qqm d3 d4) := by
  have l := h2.len
  have e : decide ((r.length : Int) > 1) = true := decide_eq_true (by omega)
  obtain ⟨a1, b1, g1⟩ := pFree3 h2 s2 t2 n2
  rw [e1] at b1
  obtain ⟨a2, a2', b2, _, g2'⟩ := pDiv3 h2 b1 (s2.mono (by omega)) s1 n2 k1 t1
  rw [e2] at b2
  obtain ⟨a3, b3, g3⟩ := pFree3 b2 sr tr kr
  rw [e3] at b3
  obtain ⟨a4, b4, g4⟩ := pGcd3 b1 b3 s1 st k1 kt t1 tt
  rw [e4] at b4
  obtain ⟨a5, a5', b5, _, g5⟩ := pDiv3 b1 b4 s1 sg k1 kg tg
  rw [e5] at b5
  have hb : (out.length + onc.length) * (2 * 7000 + 1) ≤ 6 * (2 * 7000 + 1) := Nat.mul_le_mul_right _ (by omega)
  obtain ⟨a6, b6, g6⟩ := Qtj h1 b5 so sn (by omega) (by omega)
  rw [e6] at b6
  obtain ⟨a7, a7', b7, _, g7⟩ := pDiv3 b2 b3 (sr.mono (by omega)) st kr kt tt
  rw [e7] at b7
  refine ⟨a6, a7, b6, b7, ?_⟩
  clear so s1 sr st sg sn s2 hb b1 b2 b3 b4 b5 b6 b7 h1 h2
  simp -implicitDefEqProofs (maxSteps:=9^8) only [Qeg, Qqm, l, e, g1, g2', g3, g4, g5, g6, g7, go_sem, iv, bv, reduceCtorEq, ↓reduceIte, Nat.reduceEqDiff]
theorem QlN {dp d1 : D} {g : List Rat} (h : X G (.loop Qeg) (Qqm (rowR [1]) dp) = some (.x 0, mkS [(3, .d d1)] [])) : Qaj G QiY [dp] = some (.d d1) := by
 rw [Qad (cf := Qlr) rfl]
 have o := Qei (n := 1) (d := 1) ⟨by omega, by omega⟩ ⟨by omega, by omega⟩
 rw [Qcd, show ((1 : Int) : Rat) = 1 from rfl] at o
 have ea : rowR [1] = .row 1 [.v (.bool (decide ((1 : Rat).num < 0))), dg (digs (1 : Rat).num.natAbs), .v (.bool false), dg (dd (1 : Rat).den)] := rfl
 rw [ea] at h
 generalize (1 : Rat) = q at *
 simp only [encR, iv] at o
 simp only [Qqm, go_sem] at h
 simp -implicitDefEqProofs (maxSteps:=9^8) only [Qlr, encR, o, h, rep1_4, Qdk, QbC, Qaa, go_sem, iv, bv, reduceCtorEq, ↓reduceIte, Nat.reduceEqDiff]
theorem odd_spec {dp : D} {p : List Rat} (hr : RwR dp p) (sp : SzL 300 p) (np : p.length ≤ 3) (tp : Trm p) : ∃ d', RwR d' (odP p) ∧ Qaj G QiY [dp] = some (.d d') := by
 have z1 : sz (1 : Rat) ≤ 1000 := by rw [QcO]; omega
 have z7 : sz (1 : Rat) ≤ 7000 := by omega
 have t1 : Trm [(1 : Rat)] := trm1 (by decide)
 have s1 : SzL 7000 [(1 : Rat)] := Qdp z7
 have h1 : RwR (rowR [1]) [1] := .inr rfl
 match p, np, tp, sp, hr with
 | [], _, _, _, hr =>
  exact ⟨_, h1, QlN (g := [1]) (by rw [Qag, Ql7 hr (by simp)]; rfl)⟩
 | [u], _, _, _, hr =>
  exact ⟨_, h1, QlN (g := [1]) (by rw [Qag, Ql7 hr (by simp)]; rfl)⟩
 | [u, v], _, tp, sp, hr =>
  have hv : v ≠ 0 := tp 1 rfl
  obtain ⟨k1, k2⟩ := in2 sp
  have k3 := QfA (a := u) (b := v)
  have to : Trm [u / v, 1] := trm2 (by decide)
  have so : SzL 7000 [u / v, 1] := Qg2 (by omega) z7
  obtain ⟨d3, d4, r3, r4, hx⟩ := od_go h1 hr (by simp) (by simp) (sp.mono (by omega)) tp (fr_2 hv) (quo_21 hv) (fr_1 hv)
   (gcd_c1 to (by rw [mn_2 (by decide), div1])) (Qka to).1 (one_mu to) (quo_c1 hv)
   s1 (by simp) so (by simp) to (Qdp (by omega)) (by simp) (trm1 hv) s1 (by simp) t1 s1 (by simp) t1 so (by simp)
  exact ⟨d3, r3, QlN (g := [u / v, 1]) (by rw [Qag, hx, Option.bind_some, if_pos rfl, Qag, Ql7 r4 (by simp)]; rfl)⟩
 | [a, b, c], _, tp, sp, hr =>
  have hc : c ≠ 0 := tp 2 rfl
  obtain ⟨k1, k2, k3⟩ := in3 sp
  have k4 := QfA (a := a) (b := c)
  have k5 := QfA (a := b) (b := c)
  by_cases hw : qw a b c = 0
  ·rw [show odP [a, b, c] = if qw a b c = 0 then [1] else [a / c, b / c, 1] from rfl, if_pos hw]
   have k6 := qz_sz k2 k3
   have to : Trm [-(qz b c), 1] := trm2 (by decide)
   have so : SzL 7000 [-(qz b c), 1] := Qg2 (sz_n (by omega)) z7
   have k7 := sz_n (u := qz b c) (K := 603) (by omega)
   have k8 := Qez (a := -(qz b c)) (b := c)
   obtain ⟨d3, d4, r3, r4, hx⟩ := od_go h1 hr (by simp) (by simp) (sp.mono (by omega)) tp (fr_30 hc hw) (quo_30 hc hw) (by rw [fr_2 hc, Qrs hc])
    (gcd_self1 _) (quo_self1 _) (one_mu t1) (quo_30c hc)
    s1 (by simp) so (by simp) to (Qg2 (by omega) (by omega)) (by simp) (trm2 hc) so (by simp) to so (by simp) to s1 (by simp)
   exact ⟨d3, r3, QlN (g := [1]) (by rw [Qag, hx, Option.bind_some, if_pos rfl, Qag, Ql7 r4 (by simp)]; rfl)⟩
  ·rw [show odP [a, b, c] = if qw a b c = 0 then [1] else [a / c, b / c, 1] from rfl, if_neg hw]
   have to : Trm [a / c, b / c, 1] := trm3 (by decide)
   have so : SzL 7000 [a / c, b / c, 1] := QqE (by omega) (by omega) z7
   obtain ⟨d3, d4, r3, r4, hx⟩ := od_go h1 hr (by simp) (by simp) (sp.mono (by omega)) tp (fr_3 hc hw) (quo_32 hc) (fr_1 hc)
    (gcd_c1 to (by rw [mn_3 (by decide), div1, div1])) (Qka to).1 (one_mu to) (quo_c1 hc)
    s1 (by simp) so (by simp) to (Qdp (by omega)) (by simp) (trm1 hc) s1 (by simp) t1 s1 (by simp) t1 so (by simp)
   exact ⟨d3, r3, QlN (g := [a / c, b / c, 1]) (by rw [Qag, hx, Option.bind_some, if_pos rfl, Qag, Ql7 r4 (by simp)]; rfl)⟩
theorem od_cnt [ItsB] {dg : D} {g : List Rat} (hr : RwR dg g) (g0 : g ≠ []) (tg : Trm g) (ng : g.length ≤ 3) (sg : SzL 1000 g) : Qaj G Qhz [dg, encR 0, encR 1] = some (.d (iv (cnt (chP g) 0 1))) := by
 have z0 : sz (0 : Rat) ≤ 7000 := by rw [Qc1]; omega
 have z1 : sz (1 : Rat) ≤ 7000 := by rw [QcO]; omega
 obtain ⟨sf, nf, hc, hs⟩ := Qob sg tg ng g0
 have hn := ch_len g0 tg ng
 have sf2 : SzL 800000 (frP g) := sf.mono (by omega)
 have hC := QqL (K := 800000) g0 (by omega) (pFree3 hr sg tg ng) (frP_ne tg g0) (by omega) sf2 hc (by omega) (by omega)
 exact Qqj hC (by omega) hs z0 z1 (by omega)
end Go.AM

/- sturm.Stays from 0 to 1 at polynomials of at most the second degree: the walk. -/
namespace Go.AM
open Go Go.RowKit
def QhQ (dp : D) (z x : Rat) (n i : Int) : St := mkS [(4, .ptr [4] 0), (7, .d (.fn Qgr [.rp [dp]])), (10, .ptr [10] 0), (50, ai n), (51, ai i)] [([4], boxR z), ([10], boxR x)]
theorem mid_hf (x : Rat) : mid 0 x = x * hf := by unfold mid hf; rw [Rat.zero_add]
theorem mid_in {x : Rat} (h0 : 0 ≤ x) (h1 : x ≤ 1) : 0 ≤ mid 0 x ∧ mid 0 x ≤ 1 := by
 rw [mid_hf]
 have a := hf_pos
 have b := Qpp
 have c := Rat.mul_nonneg h0 (Rat.le_of_lt a)
 have d := Rat.mul_nonneg (a := 1 - x) (by grind) (Rat.le_of_lt a)
 generalize hf = t at *
 exact ⟨c, by grind⟩
variable [Its]
theorem s7_stop {dp : D} {z x : Rat} {n : Nat} : X G Qcb (QhQ dp z x n n) = some (.x 0, mkS [] []) := by
 have e1 : decide ((n : Int) < (n : Int)) = false := lt_f (by omega)
 simp -implicitDefEqProofs (maxSteps:=9^8) only [Qcb, QhQ, boxR, e1, Qaa, go_sem, iv, bv, reduceCtorEq, ↓reduceIte, Nat.reduceEqDiff]
section
variable [ItsB] {dp : D} {p : List Rat}
theorem s7_go (hr : RwR dp p) (sp : SzL 300 p) (np : p.length ≤ 3) {z x : Rat} (hz : sz z ≤ 300) (hx : sz x ≤ 300) {n i : Nat} (hi : i < n) (hn : n ≤ 3) :
    X G Qcb (QhQ dp z x n i) = if evR p (mid z x) < 0 then some (.r, mkS [(6, ab false)] []) else some (.n, QhQ dp z (mid z x) n ((i + 1 : Nat) : Int)) := by
  have e1 : decide ((i : Int) < (n : Int)) = true := lt_t (by omega)
  have e2 : w64 ((i : Int) + 1) = ((i + 1 : Nat) : Int) := by rw [Qae (by omega) (by omega)]; rfl
  have g1 := QpV (l := (z, x)) (by dsimp only; omega) (by dsimp only; omega)
  have zm := mid_sz hz hx
  have g2 := QgB hr (x := mid z x) (K := 1000) (by omega) (by omega) (sp.mono (by omega)) (by omega)
  clear sp hz hx zm hr
  dsimp only at g1
  generalize mid z x = m at *
  generalize evR p m = v at *
  simp only [encR, enc2, c2R, iv] at g1 g2
  by_cases h : v < 0
  · rw [decide_eq_true h] at g2
    rw [if_pos h]
    simp -implicitDefEqProofs (maxSteps:=9^8) only [Qcb, QhQ, boxR, g1, g2, e1, e2, Qdk, QbC, st4q, ld4q, st8q, QmA, QmD, Qaa, go_sem, iv, bv, reduceCtorEq, ↓reduceIte, Nat.reduceEqDiff]
  · rw [decide_eq_false h] at g2
    rw [if_neg h]
    simp -implicitDefEqProofs (maxSteps:=9^8) only [Qcb, QhQ, boxR, g1, g2, e1, e2, Qdk, QbC, st4q, ld4q, st8q, QmA, QmD, Qaa, go_sem, iv, bv, reduceCtorEq, ↓reduceIte, Nat.reduceEqDiff]
theorem s7_loop (hr : RwR dp p) (sp : SzL 300 p) (np : p.length ≤ 3) (hnn : ∀ y, 0 ≤ y → y ≤ 1 → 0 ≤ evR p y) {n : Nat} (hn : n ≤ 3) : ∀ (j i : Nat) (x : Rat), i + j = n → 0 ≤ x → x ≤ 1 → sz x ≤ 1 + 6 * i →
    X G (.loop Qcb) (QhQ dp 0 x n i) = some (.x 0, mkS [] [])
  | 0, i, x, h, _, _, _ => by
    have : i = n := by omega
    subst this
    rw [Qag, s7_stop]; rfl
  | j + 1, i, x, h, h0, h1, hx => by
    have z0 : sz (0 : Rat) ≤ 300 := by rw [Qc1]; omega
    have z1 : sz (0 : Rat) ≤ 1 := by rw [Qc1]; omega
    obtain ⟨m0, m1⟩ := mid_in h0 h1
    have zm := mid_sz z1 hx
    rw [Qag, s7_go hr sp np z0 (by omega) (by omega) hn, if_neg (Rat.not_lt.2 (hnn _ m0 m1)), Option.bind_some, if_pos rfl]
    exact s7_loop hr sp np hnn hn j (i + 1) _ (by omega) m0 m1 (by omega)
theorem s7_lp (hr : RwR dp p) (sp : SzL 300 p) (np : p.length ≤ 3) (tp : Trm p) (hp0 : p ≠ []) (h0 : 0 ≤ evR p 0) (h1 : 0 ≤ evR p 1) (h : odN (odP p) ≤ 0) : X G (.loop Qcb) (QhQ dp 0 1 p.length 0) = lpE (staG p) := by
 have z1 : sz (1 : Rat) ≤ 1 := by rw [QcO]; omega
 have z0 : sz (0 : Rat) ≤ 300 := by rw [Qc1]; omega
 have hl := List.length_pos_iff.2 hp0
 obtain ⟨l1, l2⟩ := od_law np tp h0 h1
 cases hs : staG p
 ·have hb := (l2 hs).resolve_left (by omega)
  have em : mid 0 1 = hf := by rw [mid_hf, Rat.one_mul]
  have g := s7_go hr sp np z0 (x := 1) (by omega) hl np
  rw [em, if_pos hb] at g
  rw [Qag]
  have c0 : ((0 : Nat) : Int) = 0 := rfl
  rw [c0] at g
  rw [g]; rfl
 ·have := s7_loop hr sp np (fun y a b => sta_nn np tp hs a b) np p.length 0 1 (by omega) (by decide) Rat.le_refl (by omega)
  exact this
theorem Qo2 (hr : RwR dp p) (sp : SzL 300 p) (np : p.length ≤ 3) (hp0 : p = [] ∨ ¬ (0 ≤ evR p 0 ∧ 0 ≤ evR p 1)) : Qaj G QfZ [dp, encR 0, encR 1] = some (.d (bv (staG p))) := by
 rw [Qad (cf := Qb3) rfl]
 have z0 : sz (0 : Rat) ≤ 1000 := by rw [Qc1]; omega
 have z1 : sz (1 : Rat) ≤ 1000 := by rw [QcO]; omega
 have g := Qen (a := 0) (b := 1) (by omega) (by omega)
 have t := Qqc
 have hl := hr.len
 have c1 := hr.one
 have c2 := hr.cells
 have c3 := hr.dc
 have c4 := hr.dcl
 have g0 := QgB hr (x := 0) (K := 1000) (by omega) (by omega) (sp.mono (by omega)) (by omega)
 have g1 := QgB hr (x := 1) (K := 1000) (by omega) (by omega) (sp.mono (by omega)) (by omega)
 by_cases hn : p = []
 ·rw [st_2 (by rw [hn]; simp) (by rw [hn, Qa7]; exact Rat.le_refl) (by rw [hn, Qa7]; exact Rat.le_refl)]
  have t2 : ((p.length : Int) == 0) = true := by rw [hn]; rfl
  clear g0 g1 sp hr hp0
  generalize cmpR 0 1 = c at *
  generalize (0 : Rat) = r0 at *
  generalize (1 : Rat) = r1 at *
  simp only [encR, iv] at g
  simp -implicitDefEqProofs (maxSteps:=9^8) only [Qb3, encR, g, t, hl, t2, c1, c2, c3, c4, Qab, Qac, ld4q, decide_true, decide_false, tupG, Qaa, go_sem, iv, bv, reduceCtorEq, ↓reduceIte, Nat.reduceEqDiff]
 ·have h := hp0.resolve_left hn
  rw [st_z h]
  have hb : evR p 0 < 0 ∨ evR p 1 < 0 := by
   by_cases k : evR p 0 < 0
   ·exact .inl k
   ·exact .inr (Rat.not_le.1 fun h2 => h ⟨Rat.not_lt.1 k, h2⟩)
  have t2 : ((p.length : Int) == 0) = false := QcD (by have := List.length_pos_iff.2 hn; omega)
  clear sp hr hp0 h
  generalize cmpR 0 1 = c at *
  generalize evR p 0 = v0 at *
  generalize evR p 1 = v1 at *
  generalize (0 : Rat) = r0 at *
  generalize (1 : Rat) = r1 at *
  simp only [encR, iv] at g g0 g1
  by_cases k : v0 < r0
  ·rw [decide_eq_true k] at g0
   simp -implicitDefEqProofs (maxSteps:=9^8) only [Qb3, encR, g, g0, t, hl, t2, c1, c2, c3, c4, toDs, allD, snap, QcC, Qab, Qac, ld4q, decide_true, decide_false, tupG, Qaa, go_sem, iv, bv, reduceCtorEq, ↓reduceIte, Nat.reduceEqDiff]
  ·rw [decide_eq_false k] at g0
   rw [decide_eq_true (hb.resolve_left k)] at g1
   simp -implicitDefEqProofs (maxSteps:=9^8) only [Qb3, encR, g, g0, g1, t, hl, t2, c1, c2, c3, c4, toDs, allD, snap, QcC, Qab, Qac, ld4q, decide_true, decide_false, tupG, Qaa, go_sem, iv, bv, reduceCtorEq, ↓reduceIte, Nat.reduceEqDiff]
theorem QpU (hr : RwR dp p) (sp : SzL 300 p) (np : p.length ≤ 3) (tp : Trm p) (hp0 : p ≠ []) (h0' : 0 ≤ evR p 0) (h1' : 0 ≤ evR p 1) : Qaj G QfZ [dp, encR 0, encR 1] = some (.d (bv (staG p))) := by
 rw [Qad (cf := Qb3) rfl]
 have z0 : sz (0 : Rat) ≤ 1000 := by rw [Qc1]; omega
 have z1 : sz (1 : Rat) ≤ 1000 := by rw [QcO]; omega
 have g := Qen (a := 0) (b := 1) (by omega) (by omega)
 have t := Qqc
 have hl := hr.len
 have c1 := hr.one
 have c2 := hr.cells
 have c3 := hr.dc
 have c4 := hr.dcl
 have g0 := QgB hr (x := 0) (K := 1000) (by omega) (by omega) (sp.mono (by omega)) (by omega)
 have g1 := QgB hr (x := 1) (K := 1000) (by omega) (by omega) (sp.mono (by omega)) (by omega)
 rw [decide_eq_false (Rat.not_lt.2 h0')] at g0
 rw [decide_eq_false (Rat.not_lt.2 h1')] at g1
 have t2 : ((p.length : Int) == 0) = false := QcD (by have := List.length_pos_iff.2 hp0; omega)
 obtain ⟨dg, hg, g2⟩ := odd_spec hr sp np tp
 obtain ⟨o1, o2, o3, o4⟩ := odP_sz sp np
 have g3 := od_cnt hg o1 o2 o3 o4
 have cb1 : chg (chP (odP p)) 0 ≤ 3 := Nat.le_trans (Qjw _ _) (Nat.le_trans (Qj9 _ _) (ch_len o1 o2 o3))
 have cb2 : chg (chP (odP p)) 1 ≤ 3 := Nat.le_trans (Qjw _ _) (Nat.le_trans (Qj9 _ _) (ch_len o1 o2 o3))
 have cb := cnt01 (chP (odP p))
 have zb : (odP p).length * (2 * 1000 + 1) ≤ 3 * (2 * 1000 + 1) := Nat.mul_le_mul_right _ o3
 have g4 := Qha hg (x := 1) (K := 1000) z1 (by omega) (fun q hq => o4 q hq) (by omega)
 have g5 := QbD (evR (odP p) 1)
 have t5 := sign_eq0 (x := evR (odP p) 1)
 have lp := s7_lp hr sp np tp hp0 h0' h1'
 have l1 := (od_law np tp h0' h1').1
 have cn : 0 < odN (odP p) → staG p = false := fun h => by
  cases hs : staG p
  ·rfl
  ·have := l1 hs; omega
 unfold odN at lp cn
 clear sp z0 z1 hr hg o1 o2 o3 o4 zb l1 h0' h1' tp
 generalize staG p = sg at *
 generalize evR (odP p) 1 = v at *
 generalize chP (odP p) = ps at *
 obtain ⟨n, hn⟩ : ∃ n, cnt ps 0 1 = n := ⟨_, rfl⟩
 rw [hn] at g3 cb lp cn
 have en : w64 (n - 1) = n - 1 := Qae (by omega) (by omega)
 generalize cmpR 0 1 = c at *
 generalize Int.sign v.num = sv at *
 clear hn cb1 cb2 cb
 by_cases a : 0 < n
 ·have d1 : decide (n > 0) = true := decide_eq_true a
  by_cases b : v = 0
  ·rw [if_pos ⟨a, b⟩] at lp cn
   rw [decide_eq_true b] at t5
   by_cases e : 0 < n - 1
   ·have d2 : decide (n - 1 > 0) = true := decide_eq_true e
    rw [cn e]
    clear lp
    generalize (0 : Rat) = r0 at *
    generalize (1 : Rat) = r1 at *
    simp only [encR, iv] at g g0 g1 g3 g4 g5
    simp -implicitDefEqProofs (maxSteps:=9^8) only [Qb3, encR, g, g0, g1, g2, g3, g4, g5, t5, en, d1, d2, t, hl, t2, c1, c2, c3, c4, toDs, allD, snap, QcC, Qab, Qac, ld4q, decide_true, decide_false, tupG, Qaa, go_sem, iv, bv, reduceCtorEq, ↓reduceIte, Nat.reduceEqDiff]
   ·have d2 : decide (n - 1 > 0) = false := decide_eq_false e
    have lp := lp (by omega)
    generalize (0 : Rat) = r0 at *
    generalize (1 : Rat) = r1 at *
    simp only [encR, iv] at g g0 g1 g3 g4 g5
    cases sg
    ·simp only [QhQ, boxR, lpE, Bool.false_eq_true, if_false, go_sem] at lp
     simp -implicitDefEqProofs (maxSteps:=9^8) only [Qb3, encR, g, g0, g1, g2, g3, g4, g5, t5, en, d1, d2, lp, t, hl, t2, c1, c2, c3, c4, toDs, allD, snap, QcC, Qab, Qac, st4q, ld4q, decide_true, decide_false, tupG, Qaa, go_sem, iv, bv, reduceCtorEq, ↓reduceIte, Nat.reduceEqDiff]
    ·simp only [QhQ, boxR, lpE, if_true, go_sem] at lp
     simp -implicitDefEqProofs (maxSteps:=9^8) only [Qb3, encR, g, g0, g1, g2, g3, g4, g5, t5, en, d1, d2, lp, t, hl, t2, c1, c2, c3, c4, toDs, allD, snap, QcC, Qab, Qac, st4q, ld4q, decide_true, decide_false, tupG, Qaa, go_sem, iv, bv, reduceCtorEq, ↓reduceIte, Nat.reduceEqDiff]
  ·rw [if_neg (fun h => b h.2)] at lp cn
   rw [decide_eq_false b] at t5
   rw [cn a]
   clear lp
   generalize (0 : Rat) = r0 at *
   generalize (1 : Rat) = r1 at *
   simp only [encR, iv] at g g0 g1 g3 g4 g5
   simp -implicitDefEqProofs (maxSteps:=9^8) only [Qb3, encR, g, g0, g1, g2, g3, g4, g5, t5, d1, t, hl, t2, c1, c2, c3, c4, toDs, allD, snap, QcC, Qab, Qac, ld4q, decide_true, decide_false, tupG, Qaa, go_sem, iv, bv, reduceCtorEq, ↓reduceIte, Nat.reduceEqDiff]
 ·have d1 : decide (n > 0) = false := decide_eq_false a
  rw [if_neg (fun h => a h.1)] at lp
  have lp := lp (by omega)
  generalize (0 : Rat) = r0 at *
  generalize (1 : Rat) = r1 at *
  simp only [encR, iv] at g g0 g1 g3 g4 g5
  cases sg
  ·simp only [QhQ, boxR, lpE, Bool.false_eq_true, if_false, go_sem] at lp
   simp -implicitDefEqProofs (maxSteps:=9^8) only [Qb3, encR, g, g0, g1, g2, g3, g4, g5, d1, lp, t, hl, t2, c1, c2, c3, c4, toDs, allD, snap, QcC, Qab, Qac, st4q, ld4q, decide_true, decide_false, tupG, Qaa, go_sem, iv, bv, reduceCtorEq, ↓reduceIte, Nat.reduceEqDiff]
  ·simp only [QhQ, boxR, lpE, if_true, go_sem] at lp
   simp -implicitDefEqProofs (maxSteps:=9^8) only [Qb3, encR, g, g0, g1, g2, g3, g4, g5, d1, lp, t, hl, t2, c1, c2, c3, c4, toDs, allD, snap, QcC, Qab, Qac, st4q, ld4q, decide_true, decide_false, tupG, Qaa, go_sem, iv, bv, reduceCtorEq, ↓reduceIte, Nat.reduceEqDiff]
theorem QqC (hr : RwR dp p) (sp : SzL 300 p) (np : p.length ≤ 3) (tp : Trm p) : Qaj G QfZ [dp, encR 0, encR 1] = some (.d (bv (staG p))) := by
 by_cases h : p = [] ∨ ¬ (0 ≤ evR p 0 ∧ 0 ≤ evR p 1)
 ·exact Qo2 hr sp np h
 ·have h1 : p ≠ [] := fun e => h (.inl e)
  have h2 := Classical.not_not.1 (fun e => h (.inr e))
  exact QpU hr sp np tp h1 h2.1 h2.2
end
end Go.AM

/- ref13: Free, Meet, Best, Contact. -/
namespace Go.AM
open Go Go.RowKit
variable [Its]
section
variable {d : D} {O : List Eg} {r v a : Vc} {K : Nat}
end
end Go.AM

namespace Go.AM
open Go Go.RowKit
def Qk5 (e0 : D) (k : Int) (L : List Rat) (i : Int) : St := mkS [(0, .d e0), (1, ai k), (5, gA4 30 L), (6, ai i)] (gH4 30 L)
def Qpe (k : Int) (L : List Rat) : St := mkS [(1, ai k), (5, gA4 30 L)] (gH4 30 L)
def QpS (L : D) (i : Int) : St := mkS [(10, .d L), (11, ai i)] []
theorem Qse (a b c d : D) : rep 1 [a, b, c, d] = [a, b, c, d] := rfl
theorem rep5z (a : D) : rep 5 [a] = [a, a, a, a, a] := rfl
section
variable [Its] {e0 : D} {l : List Int} {k : Int}
theorem gq_go (hr : Rw e0 l) (hl : ∀ n ∈ l, I64 n) {L : List Rat} {i : Nat} (hi : i < l.length) (hi3 : i < 3) (hL : L.length ≤ 100) :
    X G Qav (Qk5 e0 k L i) = some (.n, Qk5 e0 k (L ++ [smR (l.getD i 0)]) ((i + 1 : Nat) : Int)) := by
  have e1 : decide ((i : Int) < (l.length : Int)) = true := lt_t (by omega)
  have e2 : decide ((i : Int) < 3) = true := lt_t (by omega)
  have e3 : w64 ((i : Int) + 1) = ((i + 1 : Nat) : Int) := by rw [Qae (by omega) (by omega)]; rfl
  have ll := hr.len
  have x1 := hr.ixn hi
  have x2 := fun h => ldv h l hi
  have hx : I64 (l.getD i 0) := hl _ (by rw [List.getD_eq_getElem?_getD, List.getElem?_eq_getElem hi]; exact List.getElem_mem hi)
  generalize l.getD i 0 = x at *
  have g := Qtb hx
  generalize smR x = q at *
  have d1 := Qmy (digs q.num.natAbs)
  have d2 := Qmy (dd q.den)
  simp only [encR, iv] at g
  by_cases h0 : L = []
  · subst h0
    have hb : (64 ≤ bound) = True := eq_true (by unfold bound; omega)
    have hb1 : (1 * 64 ≤ bound) = True := eq_true (by unfold bound; omega)
    simp -implicitDefEqProofs (maxSteps:=9^8) only [Qav, Qk5, Qcn, Qcm, Qaa, Qd4, Qd2, List.nil_append, List.cons_append, List.length_nil, List.length_cons, Nat.zero_add, List.map_cons, List.map_nil, Qse, Qkt, Qkv, QkZ, srcS, src, QkE, allD, hb, hb1, d1, d2, ll, x1, x2, go_sem, iv, bv, e1, e2, e3, g, reduceCtorEq, ↓reduceIte, Nat.reduceEqDiff]
  · have n3 : (cA L).length = L.length * 4 := Qgm L
    have n4 : ((L.length + 1) * 64 ≤ bound) = True := eq_true (by unfold bound; omega)
    simp -implicitDefEqProofs (maxSteps:=9^8) only [Qav, Qk5, QeP h0, QeO h0, Qd4, Qd2, List.nil_append, List.cons_append, List.length_nil, List.length_cons, Nat.zero_add, List.map_cons, List.map_nil, Qse, QkC, n3, n4, Qa5, srcS, src, QkE, allD, d1, d2, ll, x1, x2, go_sem, iv, bv, e1, e2, e3, g, reduceCtorEq, ↓reduceIte, Nat.reduceEqDiff]
theorem gq_stop (hr : Rw e0 l) {i : Nat} (hi : l.length ≤ i ∨ 3 ≤ i) {L : List Rat} : X G Qav (Qk5 e0 k L i) = some (.x 0, Qpe k L) := by
 have ll := hr.len
 by_cases h1 : l.length ≤ i
 ·have e1 : decide ((i : Int) < (l.length : Int)) = false := lt_f (by omega)
  by_cases h0 : L = []
  ·subst h0
   simp -implicitDefEqProofs (maxSteps:=9^8) only [Qav, Qk5, Qpe, Qcn, Qcm, Qaa, ll, e1, go_sem, iv, bv, reduceCtorEq, ↓reduceIte, Nat.reduceEqDiff]
  ·simp -implicitDefEqProofs (maxSteps:=9^8) only [Qav, Qk5, Qpe, QeP h0, QeO h0, Qa5, ll, e1, go_sem, iv, bv, reduceCtorEq, ↓reduceIte, Nat.reduceEqDiff]
 ·have e1 : decide ((i : Int) < (l.length : Int)) = true := lt_t (by omega)
  have e2 : decide ((i : Int) < 3) = false := lt_f (by omega)
  by_cases h0 : L = []
  ·subst h0
   simp -implicitDefEqProofs (maxSteps:=9^8) only [Qav, Qk5, Qpe, Qcn, Qcm, Qaa, ll, e1, e2, go_sem, iv, bv, reduceCtorEq, ↓reduceIte, Nat.reduceEqDiff]
  ·simp -implicitDefEqProofs (maxSteps:=9^8) only [Qav, Qk5, Qpe, QeP h0, QeO h0, Qa5, ll, e1, e2, go_sem, iv, bv, reduceCtorEq, ↓reduceIte, Nat.reduceEqDiff]
theorem gq_loop (hr : Rw e0 l) (hl : ∀ n ∈ l, I64 n) : ∀ (j i : Nat) (L : List Rat), 3 ≤ i + j → L.length = i → i ≤ 3 → (∀ q ∈ L, ∃ n, q = smR n) → ∃ L', L'.length ≤ 3 ∧ (∀ q ∈ L', ∃ n, q = smR n) ∧ X G (.loop Qav) (Qk5 e0 k L i) = some (.x 0, Qpe k L')
  | 0, i, L, hj, hLi, hi, hL => ⟨L, by omega, hL, by rw [Qag, gq_stop hr (.inr (by omega))]; rfl⟩
  | j + 1, i, L, hj, hLi, hi, hL => by
    by_cases h : i < l.length ∧ i < 3
    · obtain ⟨L', a1, a2, a3⟩ := gq_loop hr hl j (i + 1) (L ++ [smR (l.getD i 0)]) (by omega) (by rw [List.length_append]; simp; omega) (by omega) (fun q hq => by
        rcases List.mem_append.1 hq with h' | h'
        · exact hL q h'
        · exact ⟨_, List.mem_singleton.1 h'⟩)
      exact ⟨L', a1, a2, by rw [Qag, gq_go hr hl h.1 h.2 (by omega), Option.bind_some, if_pos rfl]; exact a3⟩
    · exact ⟨L, by omega, hL, by rw [Qag, gq_stop hr (by omega)]; rfl⟩
theorem gt_stop {L : D} (hL : lenA (.d L) = some 5) : X G QaV (QpS L ((5 : Nat) : Int)) = some (.x 2, mkS [] []) := by
 have n5 : ((5 : Nat) : Int) = 5 := rfl
 have e1 : decide ((5 : Int) < 5) = false := rfl
 simp -implicitDefEqProofs (maxSteps:=9^8) only [QaV, QpS, hL, n5, e1, go_sem, Qac, Qab, iv, bv, reduceCtorEq, ↓reduceIte, Nat.reduceEqDiff]
variable [ItsB]
theorem gt_go {L dp : D} {p : List Rat} {rest : List D} {i : Nat} (hi : i < 5) (hx : ∀ hp, ixaA hp 1 (i : Int) (.d L) = some (.d (.rp rest))) (hy : ∀ hp, Qcy   hp none (.d (.rp rest)) = some (.d dp)) (hL : lenA (.d L) = some 5)
    (hr : RwR dp p) (sp : SzL 300 p) (np : p.length ≤ 3) (tp : Trm p) : X G QaV (QpS L i) = some (.n, QpS L ((i + 1 : Nat) : Int)) := by
  have n5 : ((5 : Nat) : Int) = 5 := rfl
  have e1 : decide ((i : Int) < 5) = true := lt_t (by omega)
  have e3 : w64 ((i : Int) + 1) = ((i + 1 : Nat) : Int) := by rw [Qae (by omega) (by omega)]; rfl
  have g1 := Qqp hr sp (by omega) (by omega) np tp
  have g2 := Qoj hr sp np tp
  have g3 := QqC hr sp np tp
  have o := Qei (n := 1) (d := 1) ⟨by omega, by omega⟩ ⟨by omega, by omega⟩
  rw [Qcd, show ((1 : Int) : Rat) = 1 from rfl] at o
  rw [Qdx] at g3
  generalize staG p = t at *
  generalize encR 1 = e at *
  clear sp hr tp
  simp only [iv, bv] at g1 g2 g3 o
  cases t
  · simp -implicitDefEqProofs (maxSteps:=9^8) only [QaV, QpS, hx, hy, hL, n5, e1, e3, g1, g2, g3, o, beq_self_eq_true, Bool.not_true, decide_true, decide_false, tupG, Qdk, QbC, go_sem, iv, bv, reduceCtorEq, ↓reduceIte, Nat.reduceEqDiff]
  · simp -implicitDefEqProofs (maxSteps:=9^8) only [QaV, QpS, hx, hy, hL, n5, e1, e3, g1, g2, g3, o, beq_self_eq_true, Bool.not_true, decide_true, decide_false, tupG, Qdk, QbC, go_sem, iv, bv, reduceCtorEq, ↓reduceIte, Nat.reduceEqDiff]
end
theorem HL.take {d h : Nat} {l : List Rat} (H : HL d h l) (n : Nat) : HL d h (l.take n) := by
 obtain ⟨D, a, b, c⟩ := H
 exact ⟨D, a, b, fun q hq => c q (List.mem_of_mem_take hq)⟩
end Go.AM
namespace Go.Proofs.YtfdelaplhpmneaaGreat.Pure
open Go Go.AM
theorem GapStays (e0 : D) (l0 : List Int) (hd0 : Dg e0 l0) (hwf0 : ∀ n ∈ l0, (Lit.int .i64 n).wf = true) (hlen0 : l0.length * 8 ≤ 140737488351232) (a1 : Int) (w1 : (Lit.int .i64 a1).wf = true) : Qaj G QhW [e0, iv a1] = some (.d (bv true)) := by
  obtain ⟨L, nL, hL, gl⟩ := gq_loop (k := a1) (rw_dg hd0) (fun n hn => i64_wf (hwf0 n hn)) 3 0 [] (by omega) rfl (by omega) (fun q hq => by simp at hq)
  have HL0 := HL.smalls L hL
  have Hp : HL 3 3 L := HL0.mono (by omega) (by omega)
  have hBB : BB = 1000000000 := rfl
  obtain ⟨dp, tp, gT⟩ := Qef (QqM L) (by omega) (Hp.sz.mono (by omega))
  have np := Qeu L
  have H2 := Hp.take 2
  have n2 : (L.take 2).length ≤ 2 := by rw [List.length_take]; omega
  have nf := Qeu (L.take 2)
  have Hf := H2.trim
  have np2 : (Qa9 (L.take 2)).length ≤ 2 := by omega
  have Hq := HL.mu Hf Hf (by omega)
  have nq := len_mu (Qa9 (L.take 2)) (Qa9 (L.take 2))
  have g0 := Qmb (i64_wf w1) (show (0 : Int) < 200 by omega)
  have ab := arnd_b (n := a1) (m := 200) (by omega)
  generalize arnd a1 200 = z at *
  obtain ⟨y, hy⟩ : ∃ y, 1 + z = y := ⟨_, rfl⟩
  have wy : w64 (1 + z) = y := by rw [Qae (by omega) (by omega), hy]
  have o1 := QcY (n := 1) (d := y) ⟨by omega, by omega⟩ ⟨by omega, by omega⟩
  have oz := sz_of (n := 1) (d := y) ⟨by omega, by omega⟩ ⟨by omega, by omega⟩
  generalize Rat.divInt 1 y = c at *
  have sc : SzL 5 [c] := fun q hq => by rw [List.mem_singleton.1 hq]; omega
  obtain ⟨dt, t3, gT3⟩ := Qef (RwR.row [c]) (by simp only [List.length_cons, List.length_nil]; omega) (sc.mono (by omega))
  have sc2 : SzL 20 (Qa9 [c]) := (Qoq sc).trim.sz.mono (by simp)
  have nc : (Qa9 [c]).length ≤ 1 := Qeu _
  have o2 := QcY Qq8 (d := 1) ⟨by omega, by omega⟩
  rw [Qcd, show (((-1 : Int)) : Rat) = -1 from rfl] at o2
  have lv := lives13
  have c0 : ((0 : Nat) : Int) = 0 := rfl
  rw [c0] at gl
  obtain ⟨d2, t2, gT2⟩ := Qef (QqM (L.take 2)) (by omega) (H2.sz.mono (by omega))
  obtain ⟨dm, tm, gM⟩ := Qnf t2 t2 Hf Hf (by omega) (by omega) (by omega) (by omega)
  have Sm : SzL 20 (muP (Qa9 (L.take 2)) (Qa9 (L.take 2))) := Hq.sz.mono (by omega)
  obtain ⟨ds, ts, gS⟩ := QmZ tm t3 Sm sc2 (by omega) (by omega) (by omega) (by omega)
  obtain ⟨dn, tn, gN⟩ := QgL (a := -1) tm Sm (Nat.le_trans sz_m1 (by omega)) (by omega) (by omega) (by omega)
  have Ss := szl_sb Sm sc2 (by omega)
  have Sn := szl_sc (a := -1) Sm sz_m1 (by omega)
  have ls := len_sb (muP (Qa9 (L.take 2)) (Qa9 (L.take 2))) (Qa9 [c])
  have ln := len_sc (muP (Qa9 (L.take 2)) (Qa9 (L.take 2))) (-1)
  obtain ⟨LL, hLL⟩ : ∃ LL, D.row 5 [dp, dm, ds, .z true, dn] = LL := ⟨_, rfl⟩
  have hL5 : lenA (.d LL) = some 5 := by rw [← hLL]; rfl
  have s0 := gt_go (L := LL) (i := 0) (by omega) (fun hp => by rw [← hLL]; rfl) (fun hp => rfl) hL5 tp (Hp.trim.sz.mono (by omega)) (by omega) (QbO _)
  have s1 := gt_go (L := LL) (i := 1) (by omega) (fun hp => by rw [← hLL]; rfl) (fun hp => rfl) hL5 tm (Sm.mono (by omega)) (by omega) (QoJ _ _)
  have s2 := gt_go (L := LL) (i := 2) (by omega) (fun hp => by rw [← hLL]; rfl) (fun hp => rfl) hL5 ts (Ss.mono (by omega)) (by omega) (Qq1 _ _)
  have s3 := gt_go (L := LL) (i := 3) (by omega) (fun hp => by rw [← hLL]; rfl) (fun hp => rfl) hL5 RwR.nil (fun q hq => by simp at hq) (by simp) Qdc
  have s4 := gt_go (L := LL) (i := 4) (by omega) (fun hp => by rw [← hLL]; rfl) (fun hp => rfl) hL5 tn (Sn.mono (by omega)) (by omega) (Qsj _ _)
  have hl : X G (.loop QaV) (QpS LL ((0 : Nat) : Int)) = some (.x 2, mkS [] []) := by
    rw [Qag, s0, Option.bind_some, if_pos rfl, Qag, s1, Option.bind_some, if_pos rfl, Qag, s2, Option.bind_some, if_pos rfl, Qag, s3, Option.bind_some, if_pos rfl, Qag, s4, Option.bind_some, if_pos rfl, Qag, gt_stop hL5]
    rfl
  rw [c0, ← hLL] at hl
  have c1 := tp.dcl
  have c2 := tm.dcl
  have c3 := ts.dcl
  have c4 := tn.dcl
  clear s0 s1 s2 s3 s4 hLL hL5 Hp HL0 H2 Hf Hq Sm Ss Sn sc sc2 ls ln tp t2 tm t3 ts tn nc oz hL
  rw [Qad (cf := QcI) rfl]
  generalize (-1 : Rat) = m1 at *
  simp only [encR, iv, bv] at o1 o2 lv g0 gN
  simp only [rowR, cRs, List.length_cons, List.length_nil, Nat.reduceAdd] at gT3
  simp only [QpS, go_sem] at hl
  by_cases h0 : L = []
  · subst h0
    have gT' : Qaj G QaC [.z true] = some (.d dp) := gT
    have gT2' : Qaj G QaC [.z true] = some (.d d2) := gT2
    have em : Qga mnV (.int .i64 0) [.d (.v (.int .i64 2))] = some (.int .i64 0) := rfl
    rw [gT'] at gT2'
    have ed : dp = d2 := by injection gT2' with h; injection h
    subst ed
    simp only [Qk5, Qpe, Qcn, Qcm, Qaa, go_sem] at gl
    simp -implicitDefEqProofs (maxSteps:=9^8) only [QcI, QfN, gl, hl, gT', gM, gT3, gS, gN, o1, o2, g0, wy, lv, em, c1, c2, c3, c4, Qse, rep5z, slcA, bnds, optI, Int.le_refl, and_self, Qaa, go_sem, iv, bv, reduceCtorEq, ↓reduceIte, Nat.reduceEqDiff]
  · have hn0 : L.take 2 ≠ [] := fun h => h0 (by
      have := congrArg List.length h
      rw [List.length_take, List.length_nil] at this
      exact List.eq_nil_of_length_eq_zero (by omega))
    have em : Qga mnV (.int .i64 (L.length : Int)) [.d (.v (.int .i64 2))] = some (.int .i64 (((L.take 2).length : Nat) : Int)) := by
      show some (Value.int .i64 (if (2 : Int) < (L.length : Int) then 2 else (L.length : Int))) = _
      rw [List.length_take]
      split
      · rw [show min 2 L.length = 2 by omega]; rfl
      · rw [show min 2 L.length = L.length by omega]
    have et : cRs (L.take 2) = (cRs L).take ((L.take 2).length * 4) := by
      rw [Qj8]
      congr 1
      rw [List.length_take]
      by_cases h : 2 ≤ L.length
      · rw [show min 2 L.length = 2 by omega]
      · rw [show min 2 L.length = L.length by omega, List.take_length, List.take_of_length_le (by omega)]
    have lt : (L.take 2).length ≤ L.length := by rw [List.length_take]; omega
    rw [dR, if_neg h0, rowR] at gT
    rw [dR, if_neg hn0, rowR, et] at gT2
    generalize (L.take 2).length = w at *
    have e2 : (((0 : Int) ≤ 0 ∧ (0 : Int) ≤ (w : Nat) ∧ ((w : Nat) : Int) ≤ (L.length : Nat))) = True := eq_true ⟨by omega, by omega, by omega⟩
    have e3 : ((w : Nat) : Int).toNat = w := Int.toNat_natCast _
    have e5 : ((0 : Int) ≤ (w : Nat)) = True := eq_true (by omega)
    have e6 : (((w : Nat) : Int) ≤ (L.length : Nat)) = True := eq_true (by omega)
    simp only [Qk5, Qpe, Qcn, Qcm, QeP h0, QeO h0, Qaa, go_sem] at gl
    simp -implicitDefEqProofs (maxSteps:=9^8) only [QcI, QfN, gl, hl, gT, gT2, gM, gT3, gS, gN, o1, o2, g0, wy, lv, em, c1, c2, c3, c4, Qse, rep5z, QhD, Qa5, slcA, bnds, optI, e2, e3, e5, e6, Int.le_refl, and_self, Qaa, go_sem, iv, bv, reduceCtorEq, ↓reduceIte, Nat.reduceEqDiff]
end Go.Proofs.YtfdelaplhpmneaaGreat.Pure

/- The row of GapStays, out of its Pure. Printed by row.py. -/
namespace Go.Proofs.YtfdelaplhpmneaaGreat.gapStays
open Go.ChangeShapes Go.WideShapes Go.ChangeAt Go.RowKit Go.AM
theorem own : ownKnob Tryz.prog.godebug = none := by kernel_rfl
theorem laidOut : laidOutB Tryz.prog = true := by kernel_rfl
set_option maxRecDepth 100000 in
theorem lifted (os : Os) (started : os.Started) (H : Type) (enc : TypeId × Value → H) :
    ReturnsInHanded {} Tryz.checked os 5 .any (Rows.gapStaysSpec.pre6 enc Tryz.prog Tryz.f5 Rows.gapStaysRow.domain false) (Rows.gapStaysSpec.post enc Tryz.prog Tryz.f5 false true false false) := by
  refine returnsInHanded_of_change_sized (C := Tryz.checked) own started (by kernel_rfl) Tryz.func5
    (ChangeSpec.witness6 (enc := enc) (C := Tryz.checked) false ⟨#[], #[.slice none 0 0, .int .i64 0], []⟩ 8 (by kernel_rfl) (by kernel_rfl) (by kernel_rfl) (by kernel_rfl)) ?_
  intro W base args ds gs before hval0 hW hcnd hsz0 _
  have hsz : (DataW.weightsEach Tryz.prog (Tryz.f5.params.toList ++ Rows.gapStaysSpec.plain.varTypes Tryz.prog) (ds ++ gs)).all (· ≤ reachBytes) = true := hsz0
  have hval : ∀ (j : Nat) t v, Tryz.f5.params[j]? = some t → args[j]? = some v → Value.okWide Tryz.prog W .any base t v := hval0
  have hW' := hW
  obtain ⟨p, q, hA0, hV, rfl, hfz, hnd⟩ := hW
  have hA : DataW.TrodAll enc Tryz.prog W 0 (fun _ => true) true Tryz.f5.params.toList args.toList ds p := hA0
  rw [Tryz.params5] at hA hval hsz
  obtain ⟨v0, vs0, d0, ds0, p0, q0, hargs, rfl, rfl, h0, r0⟩ := trodAll_cons hA
  obtain ⟨v1, vs1, d1, ds1, p1, q1, rfl, rfl, rfl, h1, r1⟩ := trodAll_cons r0
  obtain ⟨rfl, rfl, rfl⟩ := trodAll_nil r1
  obtain rfl : args = #[v0, v1] := by cases args; simp_all
  obtain ⟨rfl, rfl⟩ := trodVars_none hV
  obtain ⟨a0, len0, cap0, rfl⟩ := okWide_slice Tryz.underlying22 (hval 0 22 v0 rfl rfl)
  have k0 := h0
  have lt0 : ∀ x ∈ p0, x.block < W.heap.size := by obtain ⟨m, hm⟩ := k0; exact DataW.trod_lt m _ _ _ hm
  obtain ⟨z0, w0, y0⟩ : ∃ zs, ((a0 = none ∧ len0 = 0 ∧ cap0 = 0 ∧ zs = []) ∨ ∃ x, a0 = some x ∧ len0 ≤ cap0 ∧ cap0 ≤ maxLen ∧ zs.length = cap0 ∧ (∀ i, i < zs.length → W.cell? (x.add i) = some (.int .i64 (zs.getD i 0))) ∧ ∀ n ∈ zs, (Lit.int .i64 n).wf = true) ∧ len0 * 8 ≤ 140737488351232 := by
    obtain ⟨fuel, hf⟩ := h0
    rcases open_ints Tryz.underlying22 Tryz.underlying3 (by kernel_rfl) hf with ⟨hcs, _⟩ | ⟨x, l, c, zs, hcs, _, hl, hm, hz, hx, hcell, hwz⟩
    · simp [Value.cells] at hcs
      obtain ⟨rfl, rfl, rfl⟩ := hcs
      exact ⟨[], .inl ⟨rfl, rfl, rfl, rfl⟩, by simp⟩
    · simp [Value.cells] at hcs
      obtain ⟨rfl, rfl, rfl⟩ := hcs
      refine ⟨zs, .inr ⟨_, rfl, hl, hm, by simpa using hz, hcell, hwz⟩, ?_⟩
      simp only [Prod.mk.injEq] at hx
      have hd := hx.1
      have z := sized_slice hsz (j := 0) (t := 22) rfl (by rw [hd]; rfl) Tryz.underlying22
      have hb : Tryz.prog.bytesOf 3 = 8 := by kernel_rfl
      rw [hb] at z
      have hr : reachBytes ≤ 140737488351232 := by decide
      have hz' : zs.length = cap0 := by simpa using hz
      simp only [lits, List.length_map, List.length_take, List.length_drop] at z
      omega
  obtain ⟨e0, l0, hd0, hrep0, hlen0, hwf0⟩ := arg_row w0
  obtain ⟨a1, rfl, rfl, rfl, w1⟩ := open_int Tryz.underlying3 (hval 1 3 v1 rfl rfl) h1
  clear hA0 hval0 hsz0 hsz
  refine (law_walk envP (f := 5) (ds := [e0, (iv a1)]) (vs := [.slice a0 len0 cap0, .int .i64 a1]) (w := W) (Qpg rfl W) (RepL.cons _ _ _ _ hrep0 (RepL.cons _ _ _ _ (RepD.v _) RepL.nil)) (Pure.GapStays e0 l0 hd0 hwf0 (by rw [hlen0]; exact y0) a1 w1)).mono fun e W' ⟨he, bel⟩ => ?_
  subst he
  exact ⟨_, rfl, _, _, _, [], _, [], hW', trodAll_mk1 (shut_bool Tryz.underlying4 _), (trodAll_cons_mk (Below.trod laidOut (by kernel_rfl) (of_decide_eq_true (by kernel_rfl)) k0 bel lt0) (trodAll_cons_mk (shut_int Tryz.underlying3 w1) trodAll_mk0)), rfl, bel.frame _, fun h => by cases h⟩
theorem over : Rows.gapStaysRow.holds Tryz.pinned (OpenSpec.ofChange Rows.gapStaysSpec) :=
 OpenClaim.holds_of_wide 5 Tryz.f5 rfl rfl rfl rfl rfl rfl rfl ⟨rfl, rfl, rfl, rfl, rfl⟩ rfl rfl rfl rfl rfl (by kernel_rfl) Tryz.func5 (by kernel_rfl)
  (of_decide_eq_true (by kernel_rfl)) (by unfold Func.isWrapper; first | (rw [if_pos (by decide +kernel)]; kernel_rfl) | (rw [if_neg (by decide +kernel)]; exact ⟨rfl, rfl⟩))
  (fun os started H enc _ => lifted os started H enc)
theorem proved : Rows.GapStaysSaid := over
end Go.Proofs.YtfdelaplhpmneaaGreat.gapStays
namespace Go.Proofs.YtfdelaplhpmneaaGreat
theorem gapStays_holds : Rows.GapStaysSaid := gapStays.proved
end Go.Proofs.YtfdelaplhpmneaaGreat


