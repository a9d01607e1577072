/- Part 10 of the proof: a small machine, its soundness against the model, and what the program's functions compute on it. -/
import Derived.Test.YtfdelaplhpmneaaGreatM9
import Derived.Test.YtfdelaplhpmneaaGreatM8
set_option linter.unusedVariables false
set_option linter.unusedSimpArgs false
namespace Go.AM
open Go Go.RowKit

def bxV (v : Vc) : Obj := ⟨0, 0, [.d (.v (.bool (decide (v.1.num < 0)))), .d (dg (digs v.1.num.natAbs)), .d (.v (.bool false)), .d (dg (dd v.1.den)), .d (.v (.bool (decide (v.2.num < 0)))), .d (dg (digs v.2.num.natAbs)), .d (.v (.bool false)), .d (dg (dd v.2.den))], false⟩
def Qpw (O : List Eg) (r v a n : Vc) (i : Int) : St := mkS [(7, .d (rowE cG O)), (8, .ptr [8] 0), (9, .ptr [9] 0), (10, .ptr [10] 0), (11, .ptr [11] 0), (12, ai i)] [([8], bxV r), ([9], bxV v), ([10], bxV a), ([11], bxV n)]
def hfV (r v a : Vc) : Vc := plV (plV r v) (tmV (Rat.divInt 1 2) a)
theorem enc0 : encR 0 = .agg [.v (.bool false), .z true, .v (.bool false), .z true] := by
 unfold encR
 have h1 : (0 : Rat).num = 0 := rfl
 have h2 : (0 : Rat).den = 1 := rfl
 rw [h1, h2]
 have h3 : digs (Int.natAbs 0) = [] := QaH
 have h4 : dd 1 = [] := rfl
 rw [h3, h4]
 rfl
theorem al_0 (e : Eg) (r v a : Vc) : evR (alP e r v a) 0 = gpR e r := by
 unfold alP
 rw [QnF]
 unfold alL
 simp only [evR, List.foldr]
 grind
theorem al_1 (e : Eg) (r v a : Vc) : evR (alP e r v a) 1 = gpR e r + rtR e.1 v + rtR e.1 a / 2 := by
 unfold alP
 rw [QnF]
 unfold alL
 simp only [evR, List.foldr]
 grind
theorem Qno (e : Eg) (r v : Vc) : gpR e (plV r v) = gpR e r + rtR e.1 v := by
 unfold gpR rtR dotR plV
 dsimp only
 rw [Rat.div_def, Rat.div_def, Rat.div_def]
 generalize ((e.1.2.2 : Int) : Rat)⁻¹ = q
 generalize ((e.2 : Int) : Rat) = t
 generalize ((e.1.1 : Int) : Rat) = a
 generalize ((e.1.2.1 : Int) : Rat) = b
 grind
theorem rt_half (d : Dr) (a : Vc) : rtR d (tmV (Rat.divInt 1 2) a) = rtR d a / 2 := by
 rw [← QmY]
 unfold rtR dotR tmV
 dsimp only
 rw [Rat.div_def, Rat.div_def]
 generalize ((d.2.2 : Int) : Rat)⁻¹ = q
 generalize Rat.divInt 1 2 = h
 generalize ((d.1 : Int) : Rat) = a
 generalize ((d.2.1 : Int) : Rat) = b
 grind
theorem gp_end (e : Eg) (r v a : Vc) : gpR e (hfV r v a) = gpR e r + rtR e.1 v + rtR e.1 a / 2 := by
 unfold hfV
 rw [Qno, Qno, rt_half]
theorem sdO_at {a b : List Pt} (ha : GdS a) (hb : GdS b) {ds : List Dr} (hd : ∀ d ∈ ds, NmD d) : ∀ i, i ≤ ds.length → ∀ e ∈ sdO a b ds i, AtE e
 | 0, _, e, he => by simp [sdO] at he
 | i + 1, hi, e, he => by
  rw [sdO] at he
  split at he
  ·rcases List.mem_append.1 he with h | h
   ·exact sdO_at ha hb hd i (by omega) e h
   ·rw [List.mem_singleton] at h
    subst h
    have hdi : NmD (ds.getD i default) := by rw [List.getD_eq_getElem?_getD, List.getElem?_eq_getElem (by omega)]; exact hd _ (List.getElem_mem (by omega))
    have m1 : -20000000000000000 ≤ moP (ds.getD i default) a ∧ moP (ds.getD i default) a ≤ 20000000000000000 := Ql9 hdi ha.sm _
    have m2 : -20000000000000000 ≤ moP (tnD (ds.getD i default)) b ∧ moP (tnD (ds.getD i default)) b ≤ 20000000000000000 := Ql9 hdi.tn hb.sm _
    refine ⟨hdi, ?_, ?_⟩ <;> (unfold edP; dsimp only; omega)
  ·exact sdO_at ha hb hd i (by omega) e he
theorem sdP_at {a b : List Pt} (ha : GdS a) (hb : GdS b) : ∀ e ∈ sdP a b, AtE e := sdO_at ha hb (drs_nm ha hb) _ (Nat.le_refl _)
theorem Qp4 {a b : List Pt} (ha : GdS a) (hb : GdS b) : (sdP a b).length ≤ 20 := by
 have h1 := QkR a b (drs a b) (drs a b).length
 have h2 := QjP a b
 have := ha.le; have := hb.le
 unfold sdP
 omega
theorem atE0 {O : List Eg} (hO : ∀ e ∈ O, AtE e) {i : Nat} (hi : i < O.length) : AtE (O.getD i default) := by
 rw [List.getD_eq_getElem?_getD, List.getElem?_eq_getElem hi]; exact hO _ (List.getElem_mem hi)

theorem ga_go {O : List Eg} {r v a : Vc} (hO : ∀ e ∈ O, AtE e) (hn : O.length ≤ 1000) (hr : SzV 30 r) (hv : SzV 30 v) (ha : SzV 30 a) {i : Nat} (hi : i < O.length) :
    X G Qbj (Qpw O r v a (hfV r v a) i) = some (.n, Qpw O r v a (hfV r v a) ((i + 1 : Nat) : Int)) := by
  have e1 : decide ((i : Int) < (O.length : Int)) = true := lt_t (by omega)
  have e2 : w64 ((i : Int) + 1) = ((i + 1 : Nat) : Int) := by rw [Qac (by omega) (by omega)]; rfl
  have ll : lenA (.d (rowE cG O)) = some O.length := rfl
  have x1 := RwE.ixa (d := rowE cG O) (l := O) Qeb (.inr rfl) hi
  have x2 := fun hp => ldE Qeb hp hi
  have he := atE0 hO hi
  generalize O.getD i default = e at *
  have pv := QiQ hr hv
  have hh : sz (Rat.divInt 1 2) ≤ 3 := QnM Qeg Qob
  have pe := QiQ pv (Qh5 hh ha)
  obtain ⟨d1, hd1, g1⟩ := QmH (K := 30) (by omega) he hr hv ha
  obtain ⟨d2, hd2, g2⟩ := QpX (K := 30) (by omega) he hr hv ha
  have sA : SzL 74 (alP e r v a) := (Qqh he hr hv ha).trim
  have nA : (alP e r v a).length ≤ 3 := Qih _
  have g3 := Qdq (K := 30) (by omega) he hr
  have g4 := QoW (K := 30) (by omega) he hr
  have k1 := QqS he hr
  have k2 := QkX he.1 hv
  have g5 := s5_refl (a := gpR e r) (by omega)
  have g6 := s6_same hd1 hd2 rfl (sA.mono (by omega)) (by omega)
  have g7 := Qix (K := 30) (by omega) he hv
  have g8 := Qf7 (a := gpR e r) (b := rtR e.1 v) (by omega) (by omega)
  have g9 := QeE (K := 30) (by omega) hr hv
  have g10 := Qdq (K := 61) (by omega) he pv
  rw [Qno] at g10
  have k3 := Qlu (a := gpR e r) (b := rtR e.1 v)
  have g11 := Qp8 (a := gpR e r + rtR e.1 v) (by omega)
  have g12 := (evalP hd1 (sA.mono (by omega)) (by omega) (x := 0) (by rw [Qjg]; omega)).1
  rw [al_0] at g12
  have g13 := Qp8 (a := gpR e r) (by omega)
  have g14 := QsG
  have g15 := (evalP hd1 (sA.mono (by omega)) (by omega) (x := 1) (by rw [sz_one_]; omega)).1
  have g16 := Qdq (K := 100) (by omega) he (pe.mono (by omega))
  have k4 := QqS he pe
  have g17 := Qp8 (a := gpR e (hfV r v a)) (by unfold hfV; omega)
  have ee : plV (plV r v) (tmV (Rat.divInt 1 2) a) = hfV r v a := rfl
  rw [ee] at g16
  rw [al_1, ← gp_end] at g15
  rw [enc0] at g12
  generalize hfV r v a = n at *
  generalize plV r v = rv at *
  generalize gpR e r + rtR e.1 v = q1 at *
  generalize gpR e n = q2 at *
  generalize gpR e r = q3 at *
  generalize rtR e.1 v = q4 at *
  generalize (1 : Rat) = one at *
  clear k1 k2 k3 k4 pv pe hh ee sA nA hd1 hd2 he hr hv ha
  obtain ⟨⟨a1, b1, c1⟩, t1⟩ := e
  obtain ⟨rx, ry⟩ := r
  obtain ⟨vx, vy⟩ := v
  obtain ⟨ax, ay⟩ := a
  obtain ⟨nx, ny⟩ := n
  obtain ⟨px, py⟩ := rv
  simp only [encG, cG, encV, encR, iv, bv] at x2 g1 g2 g3 g4 g5 g6 g7 g8 g9 g10 g11 g12 g13 g14 g15 g16 g17
  simp -implicitDefEqProofs (maxSteps := 10000000) only [Qbj, Qpw, bxV, Qaa, x1, x2, ll, g1, g2, g3, g4, g5, g6, g7, g8, g9, g10, g11, g12, g13, g14, g15, g16, g17, e1, e2, st4', QdR, ld8, Bool.not_true, Bool.not_false, Qaq, QaA, QbT, go_sem, iv, bv, reduceCtorEq, ↓reduceIte, Nat.reduceEqDiff]
theorem ga_stop {O : List Eg} {r v a n : Vc} : X G Qbj (Qpw O r v a n O.length) = some (.x 0, mkS [] []) := by
 have e1 : decide ((O.length : Int) < (O.length : Int)) = false := lt_f (by omega)
 have ll : lenA (.d (rowE cG O)) = some O.length := rfl
 simp -implicitDefEqProofs (maxSteps := 10000000) only [Qbj, Qpw, bxV, Qaa, ll, go_sem, iv, bv, e1, reduceCtorEq, ↓reduceIte, Nat.reduceEqDiff]
theorem ga_loop {O : List Eg} {r v a : Vc} (hO : ∀ e ∈ O, AtE e) (hn : O.length ≤ 1000) (hr : SzV 30 r) (hv : SzV 30 v) (ha : SzV 30 a) : ∀ (j i : Nat), i + j = O.length → X G (.loop Qbj) (Qpw O r v a (hfV r v a) i) = some (.x 0, mkS [] [])
 | 0, i, h => by
  have : i = O.length := by omega
  subst this
  rw [Qah, ga_stop]; rfl
 | j + 1, i, h => by
  rw [Qah, ga_go hO hn hr hv ha (by omega), Option.bind_some, if_pos rfl]
  exact ga_loop hO hn hr hv ha j (i + 1) (by omega)
theorem QiK (l : List Int) (i : Int) : I64 (atr l i 96) := by
 have := Qr8 l i (m := 96) (by omega)
 exact ⟨by omega, by omega⟩
end Go.AM
namespace Go.Proofs.YtfdelaplhpmneaaGreat.Pure
open Go Go.AM
set_option maxHeartbeats 1000000 in
theorem GapAlong (e0 : D) (l0 : List Int) (hd0 : Dg e0 l0) (hwf0 : ∀ n ∈ l0, (Lit.int .i64 n).wf = true) (hlen0 : l0.length * 8 ≤ 140737488351232) (e1 : D) (l1 : List Int) (hd1 : Dg e1 l1) (hwf1 : ∀ n ∈ l1, (Lit.int .i64 n).wf = true) (hlen1 : l1.length * 8 ≤ 140737488351232) (e2 : D) (l2 : List Int) (hd2 : Dg e2 l2) (hwf2 : ∀ n ∈ l2, (Lit.int .i64 n).wf = true) (hlen2 : l2.length * 8 ≤ 140737488351232) : Qaj G Qgo [e0, e1, e2] = some (.d (bv true)) := by
 have w2 : ∀ n ∈ l2, I64 n := fun n hn => Qgu (hwf2 n hn)
 have g0 := QeU (QfV hd0) (fun n hn => Qgu (hwf0 n hn))
 have g1 := QeU (QfV hd1) (fun n hn => Qgu (hwf1 n hn))
 have ga := QrT l0
 have gb := QrT l1
 have g2 := Ql5 (da := rowE cP (spP l0)) (db := rowE cP (spP l1)) (.inr rfl) (.inr rfl) ga gb
 have a0 := Qc6 (i := 0) (m := 96) (QfV hd2) w2 (by omega)
 have a1 := Qc6 (i := 1) (m := 96) (QfV hd2) w2 (by omega)
 have a2 := Qc6 (i := 2) (m := 96) (QfV hd2) w2 (by omega)
 have a3 := Qc6 (i := 3) (m := 96) (QfV hd2) w2 (by omega)
 have a4 := Qc6 (i := 4) (m := 96) (QfV hd2) w2 (by omega)
 have a5 := Qc6 (i := 5) (m := 96) (QfV hd2) w2 (by omega)
 have v0 := Qgc (QiK l2 0) (QiK l2 1)
 have v1 := Qgc (QiK l2 2) (QiK l2 3)
 have v2 := Qgc (QiK l2 4) (QiK l2 5)
 have s0 := Qlb (atr l2 0 96) (atr l2 1 96)
 have s1 := Qlb (atr l2 2 96) (atr l2 3 96)
 have s2 := Qlb (atr l2 4 96) (atr l2 5 96)
 have hO := sdP_at ga gb
 have hn := Qp4 ga gb
 have gl := ga_loop (O := sdP (spP l0) (spP l1)) hO (by omega) (s0.mono (by omega)) (s1.mono (by omega)) (s2.mono (by omega)) (sdP (spP l0) (spP l1)).length 0 (by omega)
 generalize (vcR (atr l2 0 96), vcR (atr l2 1 96)) = r at *
 generalize (vcR (atr l2 2 96), vcR (atr l2 3 96)) = v at *
 generalize (vcR (atr l2 4 96), vcR (atr l2 5 96)) = a at *
 generalize sdP (spP l0) (spP l1) = O at *
 have g3 := QeE (K := 30) (by omega) (s0.mono (by omega)) (s1.mono (by omega))
 have pv := QiQ s0 s1
 have hh : sz (Rat.divInt 1 2) ≤ 3 := QnM Qeg Qob
 have g4 := QbF Qeg Qob
 have g5 := QfI (K := 30) (k := Rat.divInt 1 2) (by omega) (by omega) (s2.mono (by omega))
 have pt := Qh5 hh s2
 have g6 := QeE (K := 30) (by omega) (pv.mono (by omega)) (pt.mono (by omega))
 have ee : plV (plV r v) (tmV (Rat.divInt 1 2) a) = hfV r v a := rfl
 rw [ee] at g6
 have lv := QpT
 rw [Qae (cf := gantrylaw13_GapAlong) rfl]
 generalize hfV r v a = n at *
 generalize tmV (Rat.divInt 1 2) a = ta at *
 generalize plV r v = rv at *
 generalize Rat.divInt 1 2 = hq at *
 clear s0 s1 s2 pv hh pt ee hO hn
 obtain ⟨rx, ry⟩ := r
 obtain ⟨vx, vy⟩ := v
 obtain ⟨ax, ay⟩ := a
 obtain ⟨nx, ny⟩ := n
 obtain ⟨px, py⟩ := rv
 obtain ⟨tx, ty⟩ := ta
 simp only [Qpw, bxV, rowE, nc0, go_sem] at gl
 simp only [encV, encR, rowE, iv, bv] at g0 g1 g2 g3 g4 g5 g6 a0 a1 a2 a3 a4 a5 v0 v1 v2 lv
 simp -implicitDefEqProofs (maxSteps := 10000000) only [gantrylaw13_GapAlong, gl, g0, g1, g2, g3, g4, g5, g6, a0, a1, a2, a3, a4, a5, v0, v1, v2, lv, Qaa, st8, ld8, Qaq, QaA, QbT, go_sem, iv, bv, reduceCtorEq, ↓reduceIte, Nat.reduceEqDiff]
end Go.Proofs.YtfdelaplhpmneaaGreat.Pure

/- What gap's answers mean: plain. -/
namespace Go.AM
open Go Go.RowKit
theorem fiE_at (p : Eg → Bool) (O : List Eg) : ∀ j i : Nat, i + j = O.length → (fiE p O j i = -1 ∧ ∀ k, i ≤ k → k < O.length → p (O.getD k default) = false) ∨ ∃ k : Nat, i ≤ k ∧ k < O.length ∧ fiE p O j i = (k : Int) ∧ p (O.getD k default) = true
 | 0, i, h => .inl ⟨rfl, fun k h1 h2 => by omega⟩
 | j + 1, i, h => by
  rw [fiE]
  by_cases hp : p (O.getD i default) = true
  ·rw [if_pos hp]
   exact .inr ⟨i, by omega, by omega, rfl, hp⟩
  ·rw [if_neg hp]
   rcases fiE_at p O j (i + 1) (by omega) with ⟨h1, h2⟩ | ⟨k, h1, h2, h3, h4⟩
   ·refine .inl ⟨h1, fun k hk hk2 => ?_⟩
    by_cases e : k = i
    ·subst e; exact Bool.eq_false_iff.2 hp
    ·exact h2 k (by omega) hk2
   ·exact .inr ⟨k, by omega, h2, h3, h4⟩
theorem QrI (F : Eg → Rat × Bool) (O : List Eg) : ∀ n : Nat, ((grS F O n).1 = -1 ∧ ∀ k, k < n → (F (O.getD k default)).2 = false) ∨ ∃ k : Nat, k < n ∧ (grS F O n).1 = (k : Int) ∧ (F (O.getD k default)).2 = true
  | 0 => .inl ⟨rfl, fun k h => by omega⟩
  | n + 1 => by
    rw [grS]
    rcases QrI F O n with ⟨h1, h2⟩ | ⟨k, h1, h2, h3⟩
    · cases h : (F (O.getD n default)).2 with
      | false =>
        rw [Bool.false_and, if_neg (by simp)]
        refine .inl ⟨h1, fun k hk => ?_⟩
        by_cases e : k = n
        · subst e; exact h
        · exact h2 k (by omega)
      | true =>
        rw [h1]
        exact .inr ⟨n, by omega, by simp, h⟩
    · split
      · rename_i h
        rw [Bool.and_eq_true] at h
        exact .inr ⟨n, by omega, rfl, h.1⟩
      · exact .inr ⟨k, by omega, h2, h3⟩
theorem ev3 {p : List Rat} (h : p.length ≤ 3) (s : Rat) : evR p s = p.getD 0 0 + p.getD 1 0 * s + p.getD 2 0 * (s * s) := by
 match p, h with
 | [], _ => simp only [evR, List.foldr, List.getD_nil]; grind
 | [a], _ => simp only [evR, List.foldr, List.getD_cons_zero, List.getD_cons_succ, List.getD_nil]; grind
 | [a, b], _ => simp only [evR, List.foldr, List.getD_cons_zero, List.getD_cons_succ, List.getD_nil]; grind
 | [a, b, c], _ => simp only [evR, List.foldr, List.getD_cons_zero, List.getD_cons_succ, List.getD_nil]; grind
theorem qd_line {a b c s : Rat} (h0 : 0 ≤ a) (h1 : 0 ≤ a + b + c) (hc : c ≤ 0) (hs : 0 ≤ s) (hs1 : s ≤ 1) : 0 ≤ a + b * s + c * (s * s) := by
 have k1 : 0 ≤ (1 - s) * a := Rat.mul_nonneg (by grind) h0
 have k2 : 0 ≤ s * (a + b + c) := Rat.mul_nonneg hs h1
 have k3 : 0 ≤ (-c) * (s * (1 - s)) := Rat.mul_nonneg (by grind) (Rat.mul_nonneg hs (by grind))
 grind
theorem qd_left {a b c s : Rat} (h0 : 0 ≤ a) (hc : 0 < c) (hb : 0 ≤ b) (hs : 0 ≤ s) : 0 ≤ a + b * s + c * (s * s) := by
 have k1 : 0 ≤ b * s := Rat.mul_nonneg hb hs
 have k3 : 0 ≤ c * (s * s) := Rat.mul_nonneg (Rat.le_of_lt hc) (Rat.mul_nonneg hs hs)
 grind
theorem qd_right {a b c s : Rat} (h1 : 0 ≤ a + b + c) (hc : 0 < c) (hb : 2 * c ≤ -b) (hs1 : s ≤ 1) : 0 ≤ a + b * s + c * (s * s) := by
 have k1 : 0 ≤ (1 - s) * (-b - 2 * c) := Rat.mul_nonneg (by grind) (by grind)
 have k3 : 0 ≤ c * ((1 - s) * (1 - s)) := Rat.mul_nonneg (Rat.le_of_lt hc) (Rat.mul_nonneg (by grind) (by grind))
 grind
theorem sq_nn (x : Rat) : 0 ≤ x * x := by
 rcases Rat.le_total (a := 0) (b := x) with h | h
 ·exact Rat.mul_nonneg h h
 ·have := Rat.mul_nonneg (a := -x) (b := -x) (by grind) (by grind)
  grind
theorem qd_top {a b c s t : Rat} (hc : 0 < c) (ht : t * (c * 2) = -b) (hv : 0 ≤ a + b * t + c * (t * t)) : 0 ≤ a + b * s + c * (s * s) := by
 have k3 : 0 ≤ c * ((s - t) * (s - t)) := Rat.mul_nonneg (Rat.le_of_lt hc) (sq_nn _)
 have e : a + b * s + c * (s * s) = (a + b * t + c * (t * t)) + c * ((s - t) * (s - t)) := by
  have hb : b = -(t * (c * 2)) := by grind
  rw [hb]
  grind
 rw [e]
 grind
theorem ve_mul {p : List Rat} (h : p.getD 2 0 ≠ 0) : veR p * (p.getD 2 0 * 2) = -(p.getD 1 0) := by
 unfold veR
 exact Rat.div_mul_cancel (fun h0 => h (by exact (Rat.mul_eq_zero.1 h0).resolve_right (by decide)))
theorem sta_nn {p : List Rat} (hl : p.length ≤ 3) (ht : Trm p) (h : staG p = true) {s : Rat} (hs : 0 ≤ s) (hs1 : s ≤ 1) : 0 ≤ evR p s := by
 have e0 := ev3 hl 0
 have e1 := ev3 hl 1
 rw [ev3 hl s]
 unfold staG at h
 by_cases h1 : evR p 0 < 0
 ·simp [h1] at h
 by_cases h2 : evR p 1 < 0
 ·simp [h2] at h
 have h1 := Rat.not_lt.1 h1
 have h2 := Rat.not_lt.1 h2
 rw [e0] at h1
 rw [e1] at h2
 rw [if_neg (by rw [Bool.or_eq_true, decide_eq_true_iff, decide_eq_true_iff]; rintro (h | h) <;> grind)] at h
 have f0 : 0 ≤ p.getD 0 0 := by grind
 have f1 : 0 ≤ p.getD 0 0 + p.getD 1 0 + p.getD 2 0 := by grind
 by_cases h3 : p.length < 3
 ·have z : p.getD 2 0 = 0 := by rw [List.getD_eq_getElem?_getD, List.getElem?_eq_none (by omega)]; rfl
  exact qd_line f0 f1 (by rw [z]; exact Rat.le_refl) hs hs1
 by_cases h4 : p.getD 2 0 < 0
 ·exact qd_line f0 f1 (Rat.le_of_lt h4) hs hs1
 have nz : p.getD 2 0 ≠ 0 := ht 2 (by omega)
 have hc : 0 < p.getD 2 0 := Rat.lt_of_le_of_ne (Rat.not_lt.1 h4) (fun e => nz e.symm)
 have hv := ve_mul nz
 rw [if_neg (by rw [Bool.or_eq_true, decide_eq_true_iff, decide_eq_true_iff]; exact fun h => h.elim h3 h4)] at h
 rw [Bool.or_eq_true, Bool.or_eq_true, decide_eq_true_iff, decide_eq_true_iff, decide_eq_true_iff] at h
 have hp : 0 < p.getD 2 0 * 2 := by grind
 rcases h with (h | h) | h
 ·have : 0 ≤ (-(veR p)) * (p.getD 2 0 * 2) := Rat.mul_nonneg (by grind) (Rat.le_of_lt hp)
  exact qd_left f0 hc (by grind) hs
 ·have : 0 ≤ (veR p - 1) * (p.getD 2 0 * 2) := Rat.mul_nonneg (by grind) (Rat.le_of_lt hp)
  exact qd_right f1 hc (by grind) hs1
 ·rw [ev3 hl] at h
  exact qd_top hc hv h
theorem al_s (e : Eg) (r v a : Vc) (s : Rat) : evR (alP e r v a) s = gpR e r + rtR e.1 v * s + rtR e.1 a / 2 * (s * s) := by
 unfold alP
 rw [QnF]
 unfold alL
 simp only [evR, List.foldr]
 grind
theorem rt_plus (d : Dr) (v w : Vc) : rtR d (plV v w) = rtR d v + rtR d w := by
 unfold rtR dotR plV
 dsimp only
 rw [Rat.div_def, Rat.div_def, Rat.div_def]
 generalize ((d.2.2 : Int) : Rat)⁻¹ = q
 generalize ((d.1 : Int) : Rat) = a
 generalize ((d.2.1 : Int) : Rat) = b
 grind
theorem Qq1 (d : Dr) (s : Rat) (v : Vc) : rtR d (tmV s v) = s * rtR d v := by
 unfold rtR dotR tmV
 dsimp only
 rw [Rat.div_def, Rat.div_def]
 generalize ((d.2.2 : Int) : Rat)⁻¹ = q
 generalize ((d.1 : Int) : Rat) = a
 generalize ((d.2.1 : Int) : Rat) = b
 grind
def poV (r v w : Vc) (s : Rat) : Vc := plV r (plV (tmV s v) (tmV (s * s * Rat.divInt 1 2) w))
theorem gp_po (e : Eg) (r v w : Vc) (s : Rat) : gpR e (poV r v w s) = evR (alP e r v w) s := by
 unfold poV
 rw [al_s, Qno, rt_plus, Qq1, Qq1, ← QmY]
 generalize Rat.divInt 1 2 = h
 grind
theorem gp_le {e : Eg} (he : NmD e.1) (v : Vc) : (gpR e v ≤ 0 ↔ dotR e.1 v ≤ (e.2 : Rat)) ∧ (gpR e v = 0 ↔ dotR e.1 v = (e.2 : Rat)) := by
 have hp : (0 : Rat) < ((e.1.2.2 : Int) : Rat) := by have := he.2.2; exact_mod_cast (by omega : 0 < e.1.2.2)
 have hm : gpR e v * ((e.1.2.2 : Int) : Rat) = dotR e.1 v - (e.2 : Rat) := by
  unfold gpR
  exact Rat.div_mul_cancel (fun h => by rw [h] at hp; exact Rat.lt_irrefl hp)
 generalize gpR e v = g at *
 generalize ((e.1.2.2 : Int) : Rat) = H at *
 generalize dotR e.1 v = x at *
 generalize (e.2 : Rat) = y at *
 constructor
 ·constructor
  ·intro h
   have := Rat.mul_nonneg (a := -g) (b := H) (by grind) (Rat.le_of_lt hp)
   grind
  ·intro h
   refine Rat.not_lt.1 fun h1 => ?_
   have := Rat.mul_pos h1 hp
   grind
 ·constructor
  ·intro h
   rw [h] at hm
   grind
  ·intro h
   rw [h] at hm
   have h0 : g * H = 0 := by grind
   rcases Rat.mul_eq_zero.1 h0 with h0 | h0
   ·exact h0
   ·rw [h0] at hp; exact absurd hp Rat.lt_irrefl
theorem QmX (O : List Eg) (r : Vc) : meG O r = true ↔ ∀ e ∈ O, gpR e r < 0 := by
 unfold meG
 rw [Bool.not_eq_true', List.any_eq_false]
 constructor
 ·intro h e he
  have := h e he
  rw [decide_eq_true_iff] at this
  exact Rat.not_le.1 this
 ·intro h e he
  rw [decide_eq_true_iff]
  exact Rat.not_le.2 (h e he)
theorem meG_beG (O : List Eg) (r v : Vc) : meG O r = decide (beG O r v = -1) := by
 rw [Bool.eq_iff_iff, QmX, decide_eq_true_iff]
 unfold beG
 rcases QrI (fun e => (gpR e v, decide (0 ≤ gpR e r))) O O.length with ⟨h1, h2⟩ | ⟨k, h1, h2, h3⟩
 ·rw [h1]
  refine ⟨fun _ => rfl, fun _ e he => ?_⟩
  obtain ⟨i, hi, rfl⟩ := List.getElem_of_mem he
  have := h2 i hi
  rw [List.getD_eq_getElem?_getD, List.getElem?_eq_getElem hi, Option.getD_some, decide_eq_false_iff_not] at this
  exact Rat.not_le.1 this
 ·rw [h2]
  constructor
  ·intro h
   have := h _ (egm h1)
   rw [decide_eq_true_iff] at h3
   exact absurd h3 (Rat.not_le.2 this)
  ·intro h; omega
end Go.AM

/- convex.Sides. -/
namespace Go.AM
open Go Go.RowKit

theorem eqDr_iff {a b : Dr} : eqDr a b = true ↔ a = b := by
 obtain ⟨x, y, z⟩ := a
 obtain ⟨p, q, r⟩ := b
 simp [eqDr]
def cadd (a b : List Pt) (O : List Eg) (d : Dr) : List Eg := if O.any (fun e => eqDr e.1 d) then O else O ++ [edP a b d]
theorem QpP {ds : List Dr} {i : Nat} (hi : i < ds.length) : ∀ k, k ≤ i → frI ds i k = !((ds.take k).any fun x => eqDr x (ds.getD i default))
 | 0, _ => by simp [frI]
 | k + 1, hk => by
  rw [frI, QpP hi k (by omega), List.take_add_one, List.any_append, Bool.not_or]
  congr 1
  rw [List.getElem?_eq_getElem (by omega), List.getD_eq_getElem?_getD (i := k), List.getElem?_eq_getElem (by omega)]
  simp
theorem sdO_any (a b : List Pt) {ds : List Dr} (d : Dr) : ∀ i, i ≤ ds.length → (sdO a b ds i).any (fun e => eqDr e.1 d) = (ds.take i).any fun x => eqDr x d
 | 0, _ => by simp [sdO]
 | i + 1, hi => by
  have ih := sdO_any a b (ds := ds) d i (by omega)
  have e1 : ds.take (i + 1) = ds.take i ++ [ds.getD i default] := by
   rw [List.take_add_one, List.getElem?_eq_getElem (by omega), List.getD_eq_getElem?_getD, List.getElem?_eq_getElem (by omega)]; rfl
  rw [sdO, e1, List.any_append]
  have hf := QpP (ds := ds) (i := i) (by omega) i (Nat.le_refl _)
  split
  ·rw [List.any_append, ih]; rfl
  ·rename_i hc
   rw [ih]
   have h2 : ((ds.take i).any fun x => eqDr x (ds.getD i default)) = true := by
    rw [hf] at hc; simpa using hc
   cases h3 : eqDr (ds.getD i default) d with
   | false => rw [List.any_cons, List.any_nil, Bool.or_false, h3, Bool.or_false]
   | true =>
    rw [eqDr_iff] at h3
    rw [h3] at h2
    rw [h2]; rfl
theorem Qrh (a b : List Pt) (ds : List Dr) {i : Nat} (hi : i < ds.length) : cadd a b (sdO a b ds i) (ds.getD i default) = sdO a b ds (i + 1) := by
 unfold cadd
 rw [sdO_any a b _ i (by omega), sdO, QpP hi i (Nat.le_refl _)]
 cases ((ds.take i).any fun x => eqDr x (ds.getD i default)) <;> simp
theorem drs_at_a {a b : List Pt} {i : Nat} (hi : i < a.length) : (drs a b).getD i default = sdN a i := by
 unfold drs
 rw [List.getD_eq_getElem?_getD, List.getElem?_append_left (by rw [QhR]; exact hi)]
 simp [drA, hi]
theorem drs_at_b {a b : List Pt} {i : Nat} (hi : i < b.length) : (drs a b).getD (a.length + i) default = tnD (sdN b i) := by
 unfold drs
 rw [List.getD_eq_getElem?_getD, List.getElem?_append_right (by rw [QhR]; omega), QhR, Nat.add_sub_cancel_left]
 simp [drB, hi]
def gO (O : List Eg) : A := if O = [] then .d (.z true) else .own [21, 0] O.length
def hO (O : List Eg) : List (Key × Obj) := if O = [] then [] else [([21, 0], arE cG 4 O.length O)]
def bxA (x : A) : Obj := ⟨0, 0, [x], false⟩
theorem QoX : gO [] = .d (.z true) := rfl
theorem QoZ : hO [] = [] := rfl
theorem Qkn {O : List Eg} (h : O ≠ []) : gO O = .own [21, 0] O.length := if_neg h
theorem Qj8 {O : List Eg} (h : O ≠ []) : hO O = [([21, 0], arE cG 4 O.length O)] := if_neg h
theorem gO_snoc (O : List Eg) (e : Eg) : gO (O ++ [e]) = .own [21, 0] (O.length + 1) := by rw [Qkn (by simp)]; simp
theorem hO_snoc (O : List Eg) (e : Eg) : hO (O ++ [e]) = [([21, 0], arE cG 4 (O.length + 1) (O ++ [e]))] := by rw [Qj8 (by simp)]; simp
def clo : A := .fn Qcr [.ptr [5] 0, .ptr [2] 0, .ptr [3] 0]
def Qhl (da db : D) (O : List Eg) (n i : Int) : St := mkS [(2, .ptr [2] 0), (3, .ptr [3] 0), (5, .ptr [5] 0), (6, clo), (15, ai n), (16, ai i)] ([([2], bxA (.d da)), ([3], bxA (.d db)), ([5], bxA (gO O))] ++ hO O)
def Qoe (da db : D) (O : List Eg) : St := mkS [(3, .ptr [3] 0), (5, .ptr [5] 0), (6, clo)] ([([2], bxA (.d da)), ([3], bxA (.d db)), ([5], bxA (gO O))] ++ hO O)
def Qhs (da db : D) (O : List Eg) (n i : Int) : St := mkS [(3, .ptr [3] 0), (5, .ptr [5] 0), (6, clo), (35, ai n), (36, ai i)] ([([2], bxA (.d da)), ([3], bxA (.d db)), ([5], bxA (gO O))] ++ hO O)
def Qo1 (O : List Eg) : St := mkS [(5, .ptr [5] 0)] ([([5], bxA (gO O))] ++ hO O)
theorem ld1c (a : A) : Qab none 0 [a] = some a := rfl
theorem st1c (a b : A) : Qaf 0 [a] [b] = some [a] := rfl
theorem hold2 : convex_Sides_i2.holds [[2], [3], [5], [21, 0]] = true := by decide

variable [Its]
structure AdF (da db : D) (a b : List Pt) (O : List Eg) (d : Dr) : Prop where
 co : Qaj G Qas [dE cG O, .fn QcB [.rp (cD d)]] = some (.d (bv (O.any fun e => eqDr e.1 d)))
 m1 : Qaj G Qcd [da, encD d] = some (.d (iv (moP d a)))
 tn : Qaj G QcP [encD d] = some (.d (encD (tnD d)))
 m2 : Qaj G Qcd [db, encD (tnD d)] = some (.d (iv (moP (tnD d) b)))
 wr : w64 (moP d a + moP (tnD d) b) = moP d a + moP (tnD d) b
theorem adF {da db : D} {a b : List Pt} (hra : RwE cP da a) (hrb : RwE cP db b) (ha : GdS a) (hb : GdS b) {O : List Eg} (hO : O.length ≤ 1000) {d : Dr} (hd : NmD d) : AdF da db a b O d := by
 refine ⟨Qjl (dE_ok O) (by omega) (fun i hi => Qn9 _ _), Qmp hra ha.pos ha.sm hd.sm (by have := ha.le; omega), QkE hd.sm, Qmp hrb hb.pos hb.sm hd.tn.sm (by have := hb.le; omega), ?_⟩
 have m1 : -20000000000000000 ≤ moP d a ∧ moP d a ≤ 20000000000000000 := Ql9 hd ha.sm _
 have m2 : -20000000000000000 ≤ moP (tnD d) b ∧ moP (tnD d) b ≤ 20000000000000000 := Ql9 hd.tn hb.sm _
 exact Qac (by omega) (by omega)
theorem cs1_go {da db : D} {a b : List Pt} (hra : RwE cP da a) (hrb : RwE cP db b) (ha : GdS a) (hb : GdS b) {O : List Eg} (hOl : O.length ≤ 1000) {i : Nat} (hi : i < a.length) :
    X G Qby (Qhl da db O a.length i) = some (.n, Qhl da db (cadd a b O (sdN a i)) a.length ((i + 1 : Nat) : Int)) := by
  have hle := ha.le
  have e1 : decide ((i : Int) < (a.length : Int)) = true := lt_t (by omega)
  have e2 : w64 ((i : Int) + 1) = ((i + 1 : Nat) : Int) := by rw [Qac (by omega) (by omega)]; rfl
  have x1 := hra.ixa QaJ hi
  have x2 := fun hp => ldE QaJ hp hi
  have g1 := QjC hra hi (by omega)
  have hp := Qbg ha.sm smP0 i
  have hn : SmP (nxP a i) := by unfold nxP; split <;> exact Qbg ha.sm smP0 _
  have g2 := Qmz (h := sdh a i) hp hn (ha.sq i hi).1 (ha.sq i hi).2
  have e3 : nrP ((nxP a i).1 - (a.getD i default).1) ((nxP a i).2 - (a.getD i default).2) (sdh a i) = sdN a i := rfl
  rw [e3] at g2
  obtain ⟨f1, f2, f3, f4, f5⟩ := adF hra hrb ha hb hOl (ha.nm i hi)
  have hO0 : ∀ h : O = [], (O.any fun e => eqDr e.1 (sdN a i)) = false := fun h => by rw [h]; rfl
  unfold cadd edP
  obtain ⟨t, ht⟩ : ∃ t, (O.any fun e => eqDr e.1 (sdN a i)) = t := ⟨_, rfl⟩
  rw [ht] at f1 hO0 ⊢
  obtain ⟨z, hz⟩ : ∃ z, moP (sdN a i) a + moP (tnD (sdN a i)) b = z := ⟨_, rfl⟩
  rw [hz] at f5 ⊢
  generalize moP (sdN a i) a = z1 at *
  generalize moP (tnD (sdN a i)) b = z2 at *
  have f5' : w64 (z1 + z2) = z := by rw [hz]; exact f5
  clear f5 hz ht
  simp only [encP, cP, encD, cD, iv, bv] at x2 g1 g2 f1 f2 f3 f4
  generalize (nxP a i).1 = n1 at *
  generalize (nxP a i).2 = n2 at *
  generalize (a.getD i default).1 = p1 at *
  generalize (a.getD i default).2 = p2 at *
  clear e3 hp hn
  generalize tnD (sdN a i) = v2 at *
  generalize sdN a i = v at *
  obtain ⟨u1, u2, u3⟩ := v
  obtain ⟨y1, y2, y3⟩ := v2
  dsimp only at g2 f1 f2 f3 f4
  have c1 := hra.cell
  have c2 := hrb.cell
  by_cases h0 : O = []
  · have := hO0 h0
    subst this
    subst h0
    have fq : dE cG ([] : List Eg) = .z true := rfl
    rw [fq] at f1
    rw [if_neg (by simp)]
    have hq : ([((u1, u2, u3), z)] : List Eg) ≠ [] := by simp
    simp -implicitDefEqProofs (maxSteps := 10000000) only [Qby, QcU, Qhl, clo, bxA, QoX, QoZ, Qkn hq, Qj8 hq, List.nil_append, List.cons_append, List.append_nil, C.holds, c1, c2, x1, x2, g1, g2, f1, f2, f3, f4, f5', e1, e2, Qaa, arE, flat1G, b32, b32', QjX, oneI, srcS, src, allD, snap, Qcy, QcG, Qbl, ld1c, st1c, ld3p, QlZ, Bool.not_true, Bool.not_false, List.map_cons, List.map_nil, List.length_nil, List.length_cons, Nat.zero_add, List.cons.injEq, go_sem, iv, bv, reduceCtorEq, ↓reduceIte, Nat.reduceEqDiff]
  · have n3 := lenE Qeb O
    have n4 := bnd4 hOl
    have fq : dE cG O = .row O.length (O.flatMap cG) := if_neg h0
    rw [fq] at f1
    cases t with
    | true =>
      rw [if_pos rfl]
      simp -implicitDefEqProofs (maxSteps := 10000000) only [Qby, QcU, Qhl, clo, bxA, Qkn h0, Qj8 h0, List.nil_append, List.cons_append, List.append_nil, C.holds, c1, c2, x1, x2, g1, g2, f1, f2, f3, f4, f5', e1, e2, Qaa, arE, Qay, Qhi, n3, n4, QjX, oneI, srcS, src, allD, snap, Qcy, QcG, Qbl, ld1c, st1c, ld3p, QlZ, Bool.not_true, Bool.not_false, List.map_cons, List.map_nil, List.length_nil, List.length_cons, Nat.zero_add, List.cons.injEq, go_sem, iv, bv, reduceCtorEq, ↓reduceIte, Nat.reduceEqDiff]
    | false =>
      rw [if_neg (by simp)]
      simp -implicitDefEqProofs (maxSteps := 10000000) only [Qby, QcU, Qhl, clo, bxA, Qkn h0, Qj8 h0, gO_snoc, hO_snoc, QpI, List.nil_append, List.cons_append, List.append_nil, C.holds, c1, c2, x1, x2, g1, g2, f1, f2, f3, f4, f5', e1, e2, Qaa, arE, Qay, Qhi, n3, n4, QjX, oneI, srcS, src, allD, snap, Qcy, QcG, Qbl, ld1c, st1c, ld3p, QlZ, Bool.not_true, Bool.not_false, List.map_cons, List.map_nil, List.length_nil, List.length_cons, Nat.zero_add, List.all_cons, List.all_nil, List.cons.injEq, go_sem, iv, bv, reduceCtorEq, ↓reduceIte, Nat.reduceEqDiff]
theorem cs3_go {da db : D} {a b : List Pt} (hra : RwE cP da a) (hrb : RwE cP db b) (ha : GdS a) (hb : GdS b) {O : List Eg} (hOl : O.length ≤ 1000) {i : Nat} (hi : i < b.length) :
    X G Qbz (Qhs da db O b.length i) = some (.n, Qhs da db (cadd a b O (tnD (sdN b i))) b.length ((i + 1 : Nat) : Int)) := by
  have hle := hb.le
  have e1 : decide ((i : Int) < (b.length : Int)) = true := lt_t (by omega)
  have e2 : w64 ((i : Int) + 1) = ((i + 1 : Nat) : Int) := by rw [Qac (by omega) (by omega)]; rfl
  have x1 := hrb.ixa QaJ hi
  have x2 := fun hp => ldE QaJ hp hi
  have g1 := QjC hrb hi (by omega)
  have hp := Qbg hb.sm smP0 i
  have hn : SmP (nxP b i) := by unfold nxP; split <;> exact Qbg hb.sm smP0 _
  have g2 := Qmz (h := sdh b i) hp hn (hb.sq i hi).1 (hb.sq i hi).2
  have e3 : nrP ((nxP b i).1 - (b.getD i default).1) ((nxP b i).2 - (b.getD i default).2) (sdh b i) = sdN b i := rfl
  rw [e3] at g2
  have g3 := QkE (hb.nm i hi).sm
  obtain ⟨f1, f2, f3, f4, f5⟩ := adF hra hrb ha hb hOl (hb.nm i hi).tn
  have hO0 : ∀ h : O = [], (O.any fun e => eqDr e.1 (tnD (sdN b i))) = false := fun h => by rw [h]; rfl
  unfold cadd edP
  obtain ⟨t, ht⟩ : ∃ t, (O.any fun e => eqDr e.1 (tnD (sdN b i))) = t := ⟨_, rfl⟩
  rw [ht] at f1 hO0 ⊢
  obtain ⟨z, hz⟩ : ∃ z, moP (tnD (sdN b i)) a + moP (tnD (tnD (sdN b i))) b = z := ⟨_, rfl⟩
  rw [hz] at f5 ⊢
  generalize moP (tnD (sdN b i)) a = z1 at *
  generalize moP (tnD (tnD (sdN b i))) b = z2 at *
  have f5' : w64 (z1 + z2) = z := by rw [hz]; exact f5
  clear f5 hz ht
  simp only [encP, cP, encD, cD, iv, bv] at x2 g1 g2 g3 f1 f2 f3 f4
  generalize (nxP b i).1 = n1 at *
  generalize (nxP b i).2 = n2 at *
  generalize (b.getD i default).1 = p1 at *
  generalize (b.getD i default).2 = p2 at *
  clear e3 hp hn
  generalize tnD (tnD (sdN b i)) = v2 at *
  generalize tnD (sdN b i) = v at *
  generalize sdN b i = v0 at *
  obtain ⟨o1, o2, o3⟩ := v0
  obtain ⟨u1, u2, u3⟩ := v
  obtain ⟨y1, y2, y3⟩ := v2
  dsimp only at g2 g3 f1 f2 f3 f4
  have c1 := hra.cell
  have c2 := hrb.cell
  by_cases h0 : O = []
  · have := hO0 h0
    subst this
    subst h0
    have fq : dE cG ([] : List Eg) = .z true := rfl
    rw [fq] at f1
    rw [if_neg (by simp)]
    have hq : ([((u1, u2, u3), z)] : List Eg) ≠ [] := by simp
    simp -implicitDefEqProofs (maxSteps := 10000000) only [Qbz, convex_Sides_i2, Qhs, clo, bxA, QoX, QoZ, Qkn hq, Qj8 hq, List.nil_append, List.cons_append, List.append_nil, C.holds, c1, c2, x1, x2, g1, g2, g3, f1, f2, f3, f4, f5', e1, e2, Qaa, arE, flat1G, b32, b32', QjX, oneI, srcS, src, allD, snap, Qcy, QcG, Qbl, ld1c, st1c, ld3p, QlZ, Bool.not_true, Bool.not_false, List.map_cons, List.map_nil, List.length_nil, List.length_cons, Nat.zero_add, List.cons.injEq, go_sem, iv, bv, reduceCtorEq, ↓reduceIte, Nat.reduceEqDiff]
  · have n3 := lenE Qeb O
    have n4 := bnd4 hOl
    have fq : dE cG O = .row O.length (O.flatMap cG) := if_neg h0
    rw [fq] at f1
    cases t with
    | true =>
      rw [if_pos rfl]
      simp -implicitDefEqProofs (maxSteps := 10000000) only [Qbz, convex_Sides_i2, Qhs, clo, bxA, Qkn h0, Qj8 h0, List.nil_append, List.cons_append, List.append_nil, C.holds, c1, c2, x1, x2, g1, g2, g3, f1, f2, f3, f4, f5', e1, e2, Qaa, arE, Qay, Qhi, n3, n4, QjX, oneI, srcS, src, allD, snap, Qcy, QcG, Qbl, ld1c, st1c, ld3p, QlZ, Bool.not_true, Bool.not_false, List.map_cons, List.map_nil, List.length_nil, List.length_cons, Nat.zero_add, List.cons.injEq, go_sem, iv, bv, reduceCtorEq, ↓reduceIte, Nat.reduceEqDiff]
    | false =>
      rw [if_neg (by simp)]
      simp -implicitDefEqProofs (maxSteps := 10000000) only [Qbz, convex_Sides_i2, Qhs, clo, bxA, Qkn h0, Qj8 h0, gO_snoc, hO_snoc, QpI, List.nil_append, List.cons_append, List.append_nil, C.holds, c1, c2, x1, x2, g1, g2, g3, f1, f2, f3, f4, f5', e1, e2, Qaa, arE, Qay, Qhi, n3, n4, QjX, oneI, srcS, src, allD, snap, Qcy, QcG, Qbl, ld1c, st1c, ld3p, QlZ, Bool.not_true, Bool.not_false, List.map_cons, List.map_nil, List.length_nil, List.length_cons, Nat.zero_add, List.all_cons, List.all_nil, List.cons.injEq, go_sem, iv, bv, reduceCtorEq, ↓reduceIte, Nat.reduceEqDiff]
theorem cs1_stop {da db : D} {a b : List Pt} (hra : RwE cP da a) (hrb : RwE cP db b) {O : List Eg} : X G Qby (Qhl da db O a.length a.length) = some (.x 0, Qoe da db O) := by
 have e1 : decide ((a.length : Int) < (a.length : Int)) = false := lt_f (by omega)
 by_cases h0 : O = []
 ·subst h0
  simp -implicitDefEqProofs (maxSteps := 10000000) only [Qby, Qhl, Qoe, clo, bxA, QoX, QoZ, List.nil_append, List.cons_append, List.append_nil, e1, Qaa, arE, Qay, List.cons.injEq, go_sem, iv, bv, reduceCtorEq, ↓reduceIte, Nat.reduceEqDiff]
 ·simp -implicitDefEqProofs (maxSteps := 10000000) only [Qby, Qhl, Qoe, clo, bxA, Qkn h0, Qj8 h0, List.nil_append, List.cons_append, List.append_nil, e1, Qaa, arE, Qay, List.cons.injEq, go_sem, iv, bv, reduceCtorEq, ↓reduceIte, Nat.reduceEqDiff]
theorem cs3_stop {da db : D} {b : List Pt} {O : List Eg} : X G Qbz (Qhs da db O b.length b.length) = some (.x 2, Qo1 O) := by
 have e1 : decide ((b.length : Int) < (b.length : Int)) = false := lt_f (by omega)
 by_cases h0 : O = []
 ·subst h0
  simp -implicitDefEqProofs (maxSteps := 10000000) only [Qbz, Qhs, Qo1, clo, bxA, QoX, QoZ, List.nil_append, List.cons_append, List.append_nil, e1, Qaa, arE, Qay, List.cons.injEq, go_sem, iv, bv, reduceCtorEq, ↓reduceIte, Nat.reduceEqDiff]
 ·simp -implicitDefEqProofs (maxSteps := 10000000) only [Qbz, Qhs, Qo1, clo, bxA, Qkn h0, Qj8 h0, List.nil_append, List.cons_append, List.append_nil, e1, Qaa, arE, Qay, List.cons.injEq, go_sem, iv, bv, reduceCtorEq, ↓reduceIte, Nat.reduceEqDiff]
theorem Qq6 {da db : D} {a b : List Pt} (hra : RwE cP da a) (hrb : RwE cP db b) (ha : GdS a) (hb : GdS b) : ∀ (j i : Nat), i + j = a.length → X G (.loop Qby) (Qhl da db (sdO a b (drs a b) i) a.length i) = some (.x 0, Qoe da db (sdO a b (drs a b) a.length))
 | 0, i, h => by
  have : i = a.length := by omega
  subst this
  rw [Qah, cs1_stop hra hrb]; rfl
 | j + 1, i, h => by
  have hi : i < a.length := by omega
  have hl := QjP a b
  have hc := Qrh a b (drs a b) (i := i) (by omega)
  rw [drs_at_a hi] at hc
  rw [Qah, cs1_go hra hrb ha hb (by have := QkR a b (drs a b) i; have := ha.le; omega) hi, Option.bind_some, if_pos rfl, hc]
  exact Qq6 hra hrb ha hb j (i + 1) (by omega)
theorem QrE {da db : D} {a b : List Pt} (hra : RwE cP da a) (hrb : RwE cP db b) (ha : GdS a) (hb : GdS b) : ∀ (j i : Nat), i + j = b.length → X G (.loop Qbz) (Qhs da db (sdO a b (drs a b) (a.length + i)) b.length i) = some (.x 2, Qo1 (sdP a b))
 | 0, i, h => by
  have hl := QjP a b
  have : i = b.length := by omega
  subst this
  have e : sdO a b (drs a b) (a.length + b.length) = sdP a b := by unfold sdP; rw [hl]
  rw [Qah, cs3_stop, e]; rfl
 | j + 1, i, h => by
  have hi : i < b.length := by omega
  have hl := QjP a b
  have hc := Qrh a b (drs a b) (i := a.length + i) (by omega)
  rw [drs_at_b hi] at hc
  rw [Qah, cs3_go hra hrb ha hb (by have := QkR a b (drs a b) (a.length + i); have := ha.le; have := hb.le; omega) hi, Option.bind_some, if_pos rfl, hc]
  exact QrE hra hrb ha hb j (i + 1) (by omega)
theorem QkQ {da db : D} {a b : List Pt} (hra : RwE cP da a) (hrb : RwE cP db b) (ha : GdS a) (hb : GdS b) : Qaj G QfG [da, db] = some (.own 4 (sdP a b).length ((sdP a b).flatMap cG)) := by
 rw [Qae (cf := convex_Sides) rfl]
 have g1 := Qq6 hra hrb ha hb a.length 0 (by omega)
 have g3 := QrE hra hrb ha hb b.length 0 (by omega)
 have hne := sdP_ne (b := b) ha
 have e0 : sdO a b (drs a b) 0 = [] := rfl
 rw [e0] at g1
 rw [Nat.add_zero] at g3
 have l1 := hra.len
 have l2 := hrb.len
 have c1 := hra.cell
 have c2 := hrb.cell
 have o1 := hra.onec
 have o2 := hrb.onec
 generalize sdP a b = O at *
 generalize hO1 : sdO a b (drs a b) a.length = O1 at *
 have hne1 : O1 ≠ [] := by
  rw [← hO1]
  have key : ∀ n, 0 < n → sdO a b (drs a b) n ≠ [] := by
   intro n
   induction n with
   | zero => intro h; omega
   | succ n ih =>
    intro _
    rw [sdO]
    by_cases hn : 0 < n
    ·split
     ·simp
     ·exact ih hn
    ·have : n = 0 := by omega
     subst this
     simp [frI]
  exact key _ ha.pos
 clear hO1
 simp only [Qhl, Qoe, clo, bxA, QoX, QoZ, Qkn hne1, Qj8 hne1, arE, List.nil_append, List.cons_append, List.append_nil, Qaa, go_sem, nc0, iv] at g1
 simp only [Qhs, Qo1, clo, bxA, Qkn hne1, Qj8 hne1, Qkn hne, Qj8 hne, arE, List.nil_append, List.cons_append, List.append_nil, Qaa, go_sem, nc0, iv] at g3
 simp -implicitDefEqProofs (maxSteps := 10000000) only [convex_Sides, g1, g3, l1, l2, c1, c2, o1, o2, Qay, Qhi, allD, ld1c, Qaa, List.cons_append, List.nil_append, List.map_cons, List.map_nil, List.cons.injEq, go_sem, iv, bv, reduceCtorEq, ↓reduceIte, Nat.reduceEqDiff]
end Go.AM

/- convex: Area, Valid; searching rows of points. -/
namespace Go.AM
open Go Go.RowKit

theorem nxP_sm {l : List Pt} (hl : ∀ p ∈ l, SmP p) (i : Nat) : SmP (nxP l i) := by unfold nxP; split <;> exact Qbg hl smP0 _
def cvB (l : List Pt) : Bool := (List.range l.length).all fun i => (List.range l.length).all fun k => k == i || k == (i + 1) % l.length || decide (0 < crI (l.getD i default) (nxP l i) (l.getD k default))
structure Lim (l : List Pt) : Prop where
 cv : cvB l = true
 lo : 3 ≤ l.length
 hi : l.length ≤ 8
 bd : ∀ p ∈ l, (-1048576 ≤ p.1 ∧ p.1 ≤ 1048576) ∧ (-1048576 ≤ p.2 ∧ p.2 ≤ 1048576)
variable [Its]
/-! ### Searching -/
section
variable {d : D} {O : List Pt} {f : Nat} {caps : List D} {p : Pt → Bool}
end
end Go.AM

/- Rows of edges: their directions, each once; the same after moving and exchanging; limits of the shapes. -/
namespace Go.AM
open Go Go.RowKit

def uqD (ds : List Dr) : Nat → List Dr
 | 0 => []
 | i + 1 => if frI ds i i then uqD ds i ++ [ds.getD i default] else uqD ds i
theorem sdO_uq (a b : List Pt) (ds : List Dr) : ∀ i, sdO a b ds i = (uqD ds i).map (edP a b)
 | 0 => rfl
 | i + 1 => by
  rw [sdO, uqD, sdO_uq a b ds i]
  split
  ·rw [List.map_append]; rfl
  ·rfl
def uqS (a b : List Pt) : List Dr := uqD (drs a b) (drs a b).length
theorem sdP_uq (a b : List Pt) : sdP a b = (uqS a b).map (edP a b) := sdO_uq a b _ _
def thr (l : List Pt) : Bool := decide (3 ≤ l.length) && !(eqDr (sdN l 0) (sdN l 1)) && !(eqDr (sdN l 0) (sdN l 2)) && !(eqDr (sdN l 1) (sdN l 2))
/-! The base shapes -/
def chkL (l : List Pt) : Bool := cvB l && thr l && decide (l.length ≤ 8) && l.all fun p => decide (-1000 ≤ p.1 ∧ p.1 ≤ 1000) && decide (-1000 ≤ p.2 ∧ p.2 ≤ 1000)
theorem chkL_all : ((List.range 7).all fun c => (List.range 3).all fun k => (List.range 6).all fun m => chkL (spB (c : Int) (1 + (k : Int)) (1 + (m : Int)))) = true := by kernel_rfl
theorem spB_chkL {c k m : Int} (hc : 0 ≤ c ∧ c < 7) (hk : 1 ≤ k ∧ k < 4) (hm : 1 ≤ m ∧ m < 7) : chkL (spB c k m) = true := by
 have h := chkL_all
 rw [List.all_eq_true] at h
 have h1 := h c.toNat (List.mem_range.2 (by omega))
 rw [List.all_eq_true] at h1
 have h2 := h1 (k - 1).toNat (List.mem_range.2 (by omega))
 rw [List.all_eq_true] at h2
 have h3 := h2 (m - 1).toNat (List.mem_range.2 (by omega))
 rwa [show ((c.toNat : Nat) : Int) = c by omega, show 1 + (((k - 1).toNat : Nat) : Int) = k by omega, show 1 + (((m - 1).toNat : Nat) : Int) = m by omega] at h3
theorem crI_mv (x y : Int) (a b c : Pt) : crI (mvP x y a) (mvP x y b) (mvP x y c) = crI a b c := by
 unfold crI mvP
 dsimp only
 rw [show b.1 + x - (a.1 + x) = b.1 - a.1 by omega, show c.2 + y - (a.2 + y) = c.2 - a.2 by omega, show b.2 + y - (a.2 + y) = b.2 - a.2 by omega, show c.1 + x - (a.1 + x) = c.1 - a.1 by omega]
theorem cvB_mv (x y : Int) (l : List Pt) : cvB (l.map (mvP x y)) = cvB l := by
 unfold cvB
 rw [List.length_map, Bool.eq_iff_iff, List.all_eq_true, List.all_eq_true]
 constructor <;> intro h i hi
 all_goals
  have h1 := h i hi
  rw [List.all_eq_true] at *
  intro k hk
  have h2 := h1 k hk
  rw [QeL _ _ (List.mem_range.1 hi), mv_nx _ _ (List.mem_range.1 hi), QeL _ _ (List.mem_range.1 hk), crI_mv] at *
  exact h2
theorem thr_mv (x y : Int) (l : List Pt) : thr l = true → thr (l.map (mvP x y)) = true := by
 intro h
 unfold thr at *
 rw [List.length_map]
 have h0 : 3 ≤ l.length := by
  simp only [Bool.and_eq_true, decide_eq_true_eq] at h
  exact h.1.1.1
 rw [Ql4 _ _ (by omega), Ql4 _ _ (by omega), Ql4 _ _ (by omega)]
 exact h
theorem lim_mv {c k m x y : Int} (hc : 0 ≤ c ∧ c < 7) (hk : 1 ≤ k ∧ k < 4) (hm : 1 ≤ m ∧ m < 7) (hx : -1000000 ≤ x ∧ x ≤ 1000000) (hy : -1000000 ≤ y ∧ y ≤ 1000000) : Lim ((spB c k m).map (mvP x y)) ∧ thr ((spB c k m).map (mvP x y)) = true := by
 have h := spB_chkL hc hk hm
 unfold chkL at h
 simp only [Bool.and_eq_true, decide_eq_true_eq] at h
 obtain ⟨⟨⟨h1, h2⟩, h3⟩, h4⟩ := h
 have h0 : 3 ≤ (spB c k m).length := by
  unfold thr at h2
  simp only [Bool.and_eq_true, decide_eq_true_eq] at h2
  exact h2.1.1.1
 refine ⟨⟨by rw [cvB_mv]; exact h1, by rw [List.length_map]; exact h0, by rw [List.length_map]; exact h3, ?_⟩, thr_mv _ _ _ h2⟩
 intro p hp
 obtain ⟨q, hq, rfl⟩ := List.mem_map.1 hp
 have := List.all_eq_true.1 h4 q hq
 simp only [Bool.and_eq_true, decide_eq_true_eq] at this
 unfold mvP
 dsimp only
 omega
theorem Qrr (l : List Int) : Lim (spP l) ∧ thr (spP l) = true := by
 obtain ⟨h1, h2, h3, h4, h5⟩ := sh_b l
 exact lim_mv h1 h2 h3 ⟨by omega, by omega⟩ ⟨by omega, by omega⟩
/-! Moved -/
theorem moP_mv (d : Dr) (x y : Int) {l : List Pt} (h0 : 0 < l.length) : moP d (l.map (mvP x y)) = moP d l + (d.1 * x + d.2.1 * y) := by
 have hd : ∀ i, i < l.length → dotI d ((l.map (mvP x y)).getD i default) = dotI d (l.getD i default) + (d.1 * x + d.2.1 * y) := by
  intro i hi
  rw [QeL _ _ hi]
  unfold dotI mvP
  dsimp only
  rw [Int.mul_add, Int.mul_add]
  omega
 have hm : ∀ i, i ≤ l.length → mstN d (l.map (mvP x y)) i = mstN d l i + (d.1 * x + d.2.1 * y) := by
  intro i
  induction i with
  | zero => intro _; exact hd 0 h0
  | succ i ih =>
   intro hi
   have h1 := ih (by omega)
   have h2 := hd i (by omega)
   rw [mstN, mstN, h1, h2]
   omega
 unfold moP
 rw [List.length_map]
 exact hm _ (Nat.le_refl _)
theorem drA_mv (x y : Int) (l : List Pt) (n : Nat) (hn : n ≤ l.length) : drA (l.map (mvP x y)) n = drA l n := by
 unfold drA
 refine List.map_congr_left fun i hi => ?_
 rw [List.mem_range] at hi
 exact Ql4 _ _ (by omega)
theorem drB_mv (x y : Int) (l : List Pt) (n : Nat) (hn : n ≤ l.length) : drB (l.map (mvP x y)) n = drB l n := by
 unfold drB
 refine List.map_congr_left fun i hi => ?_
 rw [List.mem_range] at hi
 rw [Ql4 _ _ (by omega)]
theorem drs_mv (x y u v : Int) (a b : List Pt) : drs (a.map (mvP x y)) (b.map (mvP u v)) = drs a b := by
 unfold drs
 rw [List.length_map, List.length_map, drA_mv _ _ _ _ (Nat.le_refl _), drB_mv _ _ _ _ (Nat.le_refl _)]
end Go.AM

/- Edges of a pair: bounds; their parts read out of a row. -/
namespace Go.AM
open Go Go.RowKit
end Go.AM

/- SameEdges; ref12.Area; both Box. -/
namespace Go.AM
open Go Go.RowKit
def bxP (x y : Int) : Obj := ⟨0, 0, [.d (iv x), .d (iv y)], false⟩
variable [Its]
end Go.AM

/- Has of both, on the seat of ch. 13 (where CvD has the vectors). Printed by mkcxv.py's parts. -/
namespace Go.AM
open Go Go.RowKit
def hsA (l : List Pt) (v : Vc) (i : Nat) : Rat := (((nxP l i).1 - (l.getD i default).1 : Int) : Rat) * (v.2 - (((l.getD i default).2 : Int) : Rat))
def hsB (l : List Pt) (v : Vc) (i : Nat) : Rat := (((nxP l i).2 - (l.getD i default).2 : Int) : Rat) * (v.1 - (((l.getD i default).1 : Int) : Rat))
def hsF (l : List Pt) (v : Vc) : Nat → Nat → Bool
 | 0, _ => true
 | j + 1, i => if decide (hsA l v i < hsB l v i) then false else hsF l v j (i + 1)
def hsP (l : List Pt) (v : Vc) : Bool := hsF l v l.length 0
theorem hsF_at {l : List Pt} {v : Vc} : ∀ (j i : Nat), hsF l v j i = true → ∀ k, i ≤ k → k < i + j → hsB l v k ≤ hsA l v k
  | 0, i, h, k, h1, h2 => by omega
  | j + 1, i, h, k, h1, h2 => by
    rw [hsF] at h
    split at h
    · cases h
    · rename_i hh
      by_cases hk : k = i
      · subst hk
        rw [decide_eq_true_eq] at hh
        exact Rat.not_lt.1 hh
      · exact hsF_at j (i + 1) h k (by omega) (by omega)
theorem hsP_at {l : List Pt} {v : Vc} (h : hsP l v = true) {k : Nat} (hk : k < l.length) : hsB l v k ≤ hsA l v k := hsF_at _ _ h k (Nat.zero_le _) (by omega)
def bxW (v : Vc) : Obj := ⟨0, 0, [.d (.v (.bool (decide (v.1.num < 0)))), .d (dg (digs v.1.num.natAbs)), .d (.v (.bool false)), .d (dg (dd v.1.den)), .d (.v (.bool (decide (v.2.num < 0)))), .d (dg (digs v.2.num.natAbs)), .d (.v (.bool false)), .d (dg (dd v.2.den))], false⟩
def Qpb (d : D) (v : Vc) (n i : Int) : St := mkS [(0, .d d), (3, .ptr [3] 0), (11, ai n), (12, ai i)] [([3], bxW v)]
def hsO (t : Bool) : Option (Ex × St) := if t then some (.x 0, mkS [] []) else some (.r, mkS [(4, ab false)] [])
theorem Qqu {n : Int} (h : Sm n) : I64 n := ⟨by have := h; unfold Sm at this; omega, by have := h; unfold Sm at this; omega⟩
theorem sm_sub {a b : Int} (ha : Sm a) (hb : Sm b) : w64 (a - b) = a - b ∧ I64 (a - b) := by
 unfold Sm at *
 exact ⟨Qac (by omega) (by omega), by omega, by omega⟩
variable [Its]
section
variable {d : D} {l : List Pt} {v : Vc} {K : Nat}
theorem hc_step (hr : RwE cP d l) (hl : ∀ p ∈ l, SmP p) (hn : l.length ≤ 10) (hK : K ≤ 1000000) (hv : SzV K v) {i : Nat} (hi : i < l.length) :
    X G Qc1 (Qpb d v l.length i) = if decide (hsA l v i < hsB l v i) then some (.r, mkS [(4, ab false)] []) else some (.n, Qpb d v l.length ((i + 1 : Nat) : Int)) := by
  have e1 : decide ((i : Int) < (l.length : Int)) = true := lt_t (by omega)
  have e2 : w64 ((i : Int) + 1) = ((i + 1 : Nat) : Int) := by rw [Qac (by omega) (by omega)]; rfl
  have x1 := hr.ixa QaJ hi
  have x2 := fun hp => ldE QaJ hp hi
  have g0 := QjC hr hi (by omega)
  have pa := Qbg hl smP0 i
  have pb := nxP_sm hl i
  have f1 := sm_sub pb.1 pa.1
  have f2 := sm_sub pb.2 pa.2
  unfold hsA hsB
  generalize nxP l i = b at *
  generalize l.getD i default = a at *
  have o1 := Qb9 (Qqu pa.1) Qeg
  have o2 := Qb9 (Qqu pa.2) Qeg
  have o3 := Qb9 f1.2 Qeg
  have o4 := Qb9 f2.2 Qeg
  have n1 := Qdl (Qqu pa.1)
  have n2 := Qdl (Qqu pa.2)
  have n3 := Qdl f1.2
  have n4 := Qdl f2.2
  rw [QcR] at o1 o2 o3 o4
  have k1 := hv.1
  have k2 := hv.2
  have s1 := QhD (a := v.1) (b := (a.1 : Rat)) (by omega) (by omega)
  have s2 := QhD (a := v.2) (b := (a.2 : Rat)) (by omega) (by omega)
  have z1 := QrH (a := v.1) (b := (a.1 : Rat))
  have z2 := QrH (a := v.2) (b := (a.2 : Rat))
  have m1 := QcE (a := ((b.1 - a.1 : Int) : Rat)) (b := v.2 - (a.2 : Rat)) (by omega) (by omega)
  have m2 := QcE (a := ((b.2 - a.2 : Int) : Rat)) (b := v.1 - (a.1 : Rat)) (by omega) (by omega)
  have y1 := Qe6 (a := ((b.1 - a.1 : Int) : Rat)) (b := v.2 - (a.2 : Rat))
  have y2 := Qe6 (a := ((b.2 - a.2 : Int) : Rat)) (b := v.1 - (a.1 : Rat))
  have c1 := Qfa (a := ((b.1 - a.1 : Int) : Rat) * (v.2 - (a.2 : Rat))) (b := ((b.2 - a.2 : Int) : Rat) * (v.1 - (a.1 : Rat))) (by omega) (by omega)
  rw [← cmR_lt]
  generalize cmpR (((b.1 - a.1 : Int) : Rat) * (v.2 - (a.2 : Rat))) (((b.2 - a.2 : Int) : Rat) * (v.1 - (a.1 : Rat))) = c at *
  generalize ((b.1 - a.1 : Int) : Rat) * (v.2 - (a.2 : Rat)) = u1 at *
  generalize ((b.2 - a.2 : Int) : Rat) * (v.1 - (a.1 : Rat)) = u2 at *
  generalize v.1 - (a.1 : Rat) = u3 at *
  generalize v.2 - (a.2 : Rat) = u4 at *
  have w1 := f1.1
  have w2 := f2.1
  clear f1 f2 n1 n2 n3 n4 k1 k2 z1 z2 y1 y2 hv pa pb
  obtain ⟨ax, ay⟩ := a
  obtain ⟨bx, byy⟩ := b
  obtain ⟨v1, v2⟩ := v
  dsimp only at *
  obtain ⟨dx, hdx⟩ : ∃ z, bx - ax = z := ⟨_, rfl⟩
  obtain ⟨dy, hdy⟩ : ∃ z, byy - ay = z := ⟨_, rfl⟩
  rw [hdx] at o3 m1
  rw [hdy] at o4 m2
  have w1 : w64 (bx - ax) = dx := by rw [w1, hdx]
  have w2 : w64 (byy - ay) = dy := by rw [w2, hdy]
  clear hdx hdy
  generalize (ax : Rat) = rx at *
  generalize (ay : Rat) = ry at *
  generalize (dx : Rat) = rdx at *
  generalize (dy : Rat) = rdy at *
  simp only [encP, cP, encR, iv, bv] at x2 g0 o1 o2 o3 o4 s1 s2 m1 m2 c1
  by_cases hc : c < 0
  · have t1 : decide (c < 0) = true := lt_t hc
    simp -implicitDefEqProofs (maxSteps := 10000000) only [Qc1, Qpb, bxW, x1, x2, g0, o1, o2, o3, o4, s1, s2, m1, m2, c1, t1, w1, w2, e1, e2, st2p, Qfc, Qfe, st4', QdR, ld80, ld84, QbT, Qaq, QaA, go_sem, iv, bv, reduceCtorEq, ↓reduceIte, Nat.reduceEqDiff]
  · have t1 : decide (c < 0) = false := lt_f (by omega)
    simp -implicitDefEqProofs (maxSteps := 10000000) only [Qc1, Qpb, bxW, x1, x2, g0, o1, o2, o3, o4, s1, s2, m1, m2, c1, t1, w1, w2, e1, e2, st2p, Qfc, Qfe, st4', QdR, ld80, ld84, QbT, Qaq, QaA, go_sem, iv, bv, reduceCtorEq, ↓reduceIte, Nat.reduceEqDiff]
theorem hc_stop : X G Qc1 (Qpb d v l.length l.length) = some (.x 0, mkS [] []) := by
 have e1 : decide ((l.length : Int) < (l.length : Int)) = false := lt_f (by omega)
 simp -implicitDefEqProofs (maxSteps := 10000000) only [Qc1, Qpb, bxW, e1, go_sem, iv, bv, reduceCtorEq, ↓reduceIte, Nat.reduceEqDiff]
theorem hc_loop (hr : RwE cP d l) (hl : ∀ p ∈ l, SmP p) (hn : l.length ≤ 10) (hK : K ≤ 1000000) (hv : SzV K v) : ∀ (j i : Nat), i + j = l.length → X G (.loop Qc1) (Qpb d v l.length i) = hsO (hsF l v j i)
 | 0, i, h => by
  have : i = l.length := by omega
  subst this
  rw [Qah, hc_stop]; rfl
 | j + 1, i, h => by
  rw [Qah, hc_step hr hl hn hK hv (by omega), hsF]
  split
  ·rfl
  ·rw [Option.bind_some, if_pos rfl]
   exact hc_loop hr hl hn hK hv j (i + 1) (by omega)
theorem QnU (hr : RwE cP d l) (hl : ∀ p ∈ l, SmP p) (hn : l.length ≤ 10) (hK : K ≤ 1000000) (hv : SzV K v) : Qaj G Qgv [d, encV v] = some (.d (bv (hsP l v))) := by
 rw [Qae (cf := convex_Has) rfl]
 have ll := hr.len
 have g := hc_loop hr hl hn hK hv l.length 0 (by omega)
 have e : hsF l v l.length 0 = hsP l v := rfl
 rw [e] at g
 generalize hsP l v = t at *
 obtain ⟨v1, v2⟩ := v
 simp only [Qpb, bxW, hsO, nc0, go_sem] at g
 cases t
 ·simp only [Bool.false_eq_true, if_false] at g
  simp -implicitDefEqProofs (maxSteps := 10000000) only [convex_Has, encV, g, ll, QbT, Qaq, QaA, go_sem, iv, bv, reduceCtorEq, ↓reduceIte, Nat.reduceEqDiff]
 ·simp only [if_true] at g
  simp -implicitDefEqProofs (maxSteps := 10000000) only [convex_Has, encV, g, ll, QbT, Qaq, QaA, go_sem, iv, bv, reduceCtorEq, ↓reduceIte, Nat.reduceEqDiff]
end
end Go.AM

/- ref12.Has; SamePoints. -/
namespace Go.AM
open Go Go.RowKit
variable [Its]
section
variable {d : D} {l : List Pt} {v : Vc} {K : Nat}
end
end Go.AM

/- far, Left, cmp.Or, Sum$1, MinFunc. -/
namespace Go.AM
open Go Go.RowKit
def faI (p q : Pt) : Int := (p.1 - q.1) * (p.1 - q.1) + (p.2 - q.2) * (p.2 - q.2)
def orI (a b : Int) : Int := if a ≠ 0 then a else b
def ltQ (p q : Pt) : Bool := decide (p.2 < q.2) || (decide (p.2 = q.2) && decide (p.1 < q.1))
theorem or_lt (p q : Pt) : decide (orI (cmpI p.2 q.2) (cmpI p.1 q.1) < 0) = ltQ p q := by
 unfold orI cmpI ltQ
 by_cases h1 : p.2 < q.2
 ·simp [h1]
 ·by_cases h2 : p.2 > q.2
  ·have h3 : p.2 ≠ q.2 := by omega
   simp [h1, h2, h3]
  ·have h3 : p.2 = q.2 := by omega
   by_cases h4 : p.1 < q.1
   ·simp [h3, h4]
   ·by_cases h5 : p.1 > q.1 <;> simp [h3, h4, h5]
theorem nc2 : ((2 : Nat) : Int) = 2 := rfl
theorem rep2_1 (a : D) : rep 2 [a] = [a, a] := rfl
def mnF (l : List Pt) : Nat → Pt
 | 0 => l.getD 0 default
 | i + 1 => if ltQ (l.getD (i + 1) default) (mnF l i) = true then l.getD (i + 1) default else mnF l i
def Qpr (d : D) (p : Pt) (i : Int) : St := mkS [(0, .d d), (1, .d (.fn Qey [])), (4, .ptr [4] 0), (5, .ptr [5] 0), (6, ai i)] [([4], ⟨0, 0, [.d (iv 0), .d (iv 0)], false⟩), ([5], ⟨0, 0, [.d (iv p.1), .d (iv p.2)], false⟩)]
def Qgr (a b : Int) (i : Int) : St := mkS [(3, ai 0), (6, .d (.row 2 [iv a, iv b])), (7, ai 2), (8, ai i)] []
variable [Its]
theorem QqT {p q : Pt} (hp : SmP p) (hq : SmP q) : Qaj G QgI [encP p, encP q] = some (.d (iv (faI p q))) := by
 rw [Qae (cf := convex_far) rfl]
 obtain ⟨a1, a2⟩ := p
 obtain ⟨b1, b2⟩ := q
 obtain ⟨h1, h2⟩ := hp
 obtain ⟨h3, h4⟩ := hq
 simp only [Sm] at h1 h2 h3 h4
 unfold faI
 dsimp only
 obtain ⟨x, hx⟩ : ∃ x, a1 - b1 = x := ⟨_, rfl⟩
 obtain ⟨y, hy⟩ : ∃ x, a2 - b2 = x := ⟨_, rfl⟩
 have e1 : w64 (a1 - b1) = x := by rw [Qac (by omega) (by omega), hx]
 have e2 : w64 (a2 - b2) = y := by rw [Qac (by omega) (by omega), hy]
 have bb : ∀ u : Int, -200000000 ≤ u ∧ u ≤ 200000000 → -40000000000000000 ≤ u * u ∧ u * u ≤ 40000000000000000 := by
  intro u hu
  have h1 : (u * u).natAbs ≤ 200000000 * 200000000 := by
   rw [Int.natAbs_mul]
   exact Nat.mul_le_mul (by omega) (by omega)
  omega
 have b1' := bb x (by omega)
 have b2' := bb y (by omega)
 rw [hx, hy]
 clear hx hy bb
 obtain ⟨z, hz⟩ : ∃ z, x * x = z := ⟨_, rfl⟩
 obtain ⟨t, ht⟩ : ∃ z, y * y = z := ⟨_, rfl⟩
 rw [hz] at b1'
 rw [ht] at b2'
 have e3 : w64 (x * x) = z := by rw [hz, Qac (by omega) (by omega)]
 have e4 : w64 (y * y) = t := by rw [ht, Qac (by omega) (by omega)]
 obtain ⟨s, hs⟩ : ∃ s, z + t = s := ⟨_, rfl⟩
 have e5 : w64 (z + t) = s := by rw [Qac (by omega) (by omega), hs]
 rw [hz, ht, hs]
 simp -implicitDefEqProofs (maxSteps := 10000000) only [convex_far, encP, cP, Qfc, Qfe, go_sem, iv, bv, e1, e2, e3, e4, e5, reduceCtorEq, ↓reduceIte, Nat.reduceEqDiff]
theorem Or_spec (a b : Int) : Qaj G QjY [.row 2 [iv a, iv b]] = some (.d (iv (orI a b))) := by
 rw [Qae (cf := cmp_Or_int) rfl]
 have x0 : ∀ h : Hp, ixaA h 1 0 (.d (.row 2 [iv a, iv b])) = some (.d (.rp [iv a, iv b])) := fun _ => rfl
 have x1 : ∀ h : Hp, ixaA h 1 1 (.d (.row 2 [iv a, iv b])) = some (.d (.rp [iv b])) := fun _ => rfl
 have y0 : ∀ h : Hp, QcF h none (.d (.rp [iv a, iv b])) = some (.d (iv a)) := fun _ => rfl
 have y1 : ∀ h : Hp, QcF h none (.d (.rp [iv b])) = some (.d (iv b)) := fun _ => rfl
 have t0 : decide ((0 : Int) < 2) = true := rfl
 have t1 : decide ((1 : Int) < 2) = true := rfl
 have t2 : decide ((2 : Int) < 2) = false := rfl
 have w0 : w64 ((0 : Int) + 1) = 1 := Qac (by omega) (by omega)
 have w1 : w64 ((1 : Int) + 1) = 2 := Qac (by omega) (by omega)
 have ll : lenA (.d (.row 2 [iv a, iv b])) = some 2 := rfl
 simp only [iv] at x0 x1 y0 y1 ll
 by_cases ha : a = 0
 ·subst ha
  have n0 : ((0 : Int) != 0) = false := rfl
  have g0 : X G Qa9 (Qgr 0 b 0) = some (.n, Qgr 0 b 1) := by
   simp -implicitDefEqProofs (maxSteps := 10000000) only [Qa9, Qgr, x0, y0, t0, n0, w0, go_sem, iv, bv, reduceCtorEq, ↓reduceIte, Nat.reduceEqDiff]
  by_cases hb : b = 0
  ·subst hb
   have g1 : X G Qa9 (Qgr 0 0 1) = some (.n, Qgr 0 0 2) := by
    simp -implicitDefEqProofs (maxSteps := 10000000) only [Qa9, Qgr, x1, y1, t1, n0, w1, go_sem, iv, bv, reduceCtorEq, ↓reduceIte, Nat.reduceEqDiff]
   have g2 : X G Qa9 (Qgr 0 0 2) = some (.x 0, mkS [(3, ai 0)] []) := by
    simp -implicitDefEqProofs (maxSteps := 10000000) only [Qa9, Qgr, t2, go_sem, iv, bv, reduceCtorEq, ↓reduceIte, Nat.reduceEqDiff]
   have g : X G (.loop Qa9) (Qgr 0 0 0) = some (.x 0, mkS [(3, ai 0)] []) := by
    rw [Qah, g0, Option.bind_some, if_pos rfl, Qah, g1, Option.bind_some, if_pos rfl, Qah, g2]; rfl
   simp only [Qgr, go_sem, iv] at g
   have e : orI 0 0 = 0 := rfl
   rw [e]
   simp -implicitDefEqProofs (maxSteps := 10000000) only [cmp_Or_int, g, ll, nc0, nc2, go_sem, iv, bv, reduceCtorEq, ↓reduceIte, Nat.reduceEqDiff]
  ·have n1 : (b != 0) = true := bne_t hb
   have g1 : X G Qa9 (Qgr 0 b 1) = some (.r, mkS [(2, ai b)] []) := by
    simp -implicitDefEqProofs (maxSteps := 10000000) only [Qa9, Qgr, x1, y1, t1, n1, w1, go_sem, iv, bv, reduceCtorEq, ↓reduceIte, Nat.reduceEqDiff]
   have g : X G (.loop Qa9) (Qgr 0 b 0) = some (.r, mkS [(2, ai b)] []) := by
    rw [Qah, g0, Option.bind_some, if_pos rfl, Qah, g1]; rfl
   simp only [Qgr, go_sem, iv] at g
   have e : orI 0 b = b := rfl
   rw [e]
   simp -implicitDefEqProofs (maxSteps := 10000000) only [cmp_Or_int, g, ll, nc0, nc2, go_sem, iv, bv, reduceCtorEq, ↓reduceIte, Nat.reduceEqDiff]
 ·have n1 : (a != 0) = true := bne_t ha
  have g1 : X G Qa9 (Qgr a b 0) = some (.r, mkS [(2, ai a)] []) := by
   simp -implicitDefEqProofs (maxSteps := 10000000) only [Qa9, Qgr, x0, y0, t0, n1, w0, go_sem, iv, bv, reduceCtorEq, ↓reduceIte, Nat.reduceEqDiff]
  have g : X G (.loop Qa9) (Qgr a b 0) = some (.r, mkS [(2, ai a)] []) := by
   rw [Qah, g1]; rfl
  simp only [Qgr, go_sem, iv] at g
  have e : orI a b = a := if_pos ha
  rw [e]
  simp -implicitDefEqProofs (maxSteps := 10000000) only [cmp_Or_int, g, ll, nc0, nc2, go_sem, iv, bv, reduceCtorEq, ↓reduceIte, Nat.reduceEqDiff]
theorem Sum1_spec (p q : Pt) : Qaj G Qey [encP p, encP q] = some (.d (iv (orI (cmpI p.2 q.2) (cmpI p.1 q.1)))) := by
 rw [Qae (cf := convex_Sum_1) rfl]
 have g1 := Qf0 p.1 q.1
 have g2 := Qf0 p.2 q.2
 have g3 := Or_spec (cmpI p.2 q.2) (cmpI p.1 q.1)
 generalize orI (cmpI p.2 q.2) (cmpI p.1 q.1) = z at *
 generalize cmpI p.2 q.2 = u at *
 generalize cmpI p.1 q.1 = v at *
 obtain ⟨p1, p2⟩ := p
 obtain ⟨q1, q2⟩ := q
 simp only [iv] at g1 g2 g3
 simp -implicitDefEqProofs (maxSteps := 10000000) only [convex_Sum_1, encP, cP, g1, g2, g3, Qfc, Qfe, QcG, Qbl, oneI, rep2_1, go_sem, iv, bv, reduceCtorEq, ↓reduceIte, Nat.reduceEqDiff]
end Go.AM

/- slices.MinFunc by (Y, X); the sums of all corners. -/
namespace Go.AM
open Go Go.RowKit
theorem QnJ {P : Pt → Prop} {l : List Pt} (h0 : ∀ i, P (l.getD i default)) : ∀ i, P (mnF l i)
 | 0 => h0 0
 | i + 1 => by
  rw [mnF]
  split
  ·exact h0 _
  ·exact QnJ h0 i
def mn_en (p : Pt) : St := mkS [(4, .ptr [4] 0), (5, .ptr [5] 0)] [([4], ⟨0, 0, [.d (iv 0), .d (iv 0)], false⟩), ([5], ⟨0, 0, [.d (iv p.1), .d (iv p.2)], false⟩)]
def suR (p : Pt) (b : List Pt) : List Pt := b.map fun q => (p.1 - q.1, p.2 - q.2)
def suA (a b : List Pt) : List Pt := a.flatMap fun p => suR p b
variable [Its]
theorem mn_go {d : D} {l : List Pt} (hr : RwE cP d l) (hn : l.length ≤ 1000000) {p : Pt} {i : Nat} (hi : i < l.length) :
    X G Qaw (Qpr d p i) = some (.n, Qpr d (if ltQ (l.getD i default) p = true then l.getD i default else p) ((i + 1 : Nat) : Int)) := by
  have ll := hr.len
  have e1 : decide ((i : Int) < (l.length : Int)) = true := lt_t (by omega)
  have e2 : w64 ((i : Int) + 1) = ((i + 1 : Nat) : Int) := by rw [Qac (by omega) (by omega)]; rfl
  have x1 := hr.ixa QaJ hi
  have x2 := fun hp => ldE QaJ hp hi
  have g := Sum1_spec (l.getD i default) p
  have e3 := or_lt (l.getD i default) p
  generalize orI (cmpI (l.getD i default).2 p.2) (cmpI (l.getD i default).1 p.1) = z at *
  generalize l.getD i default = q at *
  obtain ⟨qx, qy⟩ := q
  obtain ⟨px, py⟩ := p
  simp only [cP, encP, iv] at x2 g
  cases h : ltQ (qx, qy) (px, py)
  · rw [h] at e3
    simp -implicitDefEqProofs (maxSteps := 10000000) only [Qaw, Qpr, g, st2p, ld2p, Bool.false_eq_true, if_false, List.cons_append, List.nil_append, List.append_nil, go_sem, iv, bv, e1, e2, e3, ll, x1, x2, reduceCtorEq, ↓reduceIte, Nat.reduceEqDiff]
  · rw [h] at e3
    simp -implicitDefEqProofs (maxSteps := 10000000) only [Qaw, Qpr, g, st2p, ld2p, if_true, List.cons_append, List.nil_append, List.append_nil, go_sem, iv, bv, e1, e2, e3, ll, x1, x2, reduceCtorEq, ↓reduceIte, Nat.reduceEqDiff]
theorem mn_stop {d : D} {l : List Pt} (hr : RwE cP d l) {p : Pt} : X G Qaw (Qpr d p l.length) = some (.x 0, mn_en p) := by
 have ll := hr.len
 have e1 : decide ((l.length : Int) < (l.length : Int)) = false := lt_f (by omega)
 simp -implicitDefEqProofs (maxSteps := 10000000) only [Qaw, Qpr, mn_en, go_sem, iv, bv, e1, ll, reduceCtorEq, ↓reduceIte, Nat.reduceEqDiff]
theorem mn_loop {d : D} {l : List Pt} (hr : RwE cP d l) (hn : l.length ≤ 1000000) : ∀ (j i : Nat), i + 1 + j = l.length → X G (.loop Qaw) (Qpr d (mnF l i) ((i + 1 : Nat) : Int)) = some (.x 0, mn_en (mnF l (l.length - 1)))
 | 0, i, h => by
  have : i + 1 = l.length := by omega
  rw [this, ← this, Nat.add_sub_cancel]
  rw [Qah, this, mn_stop hr]; rfl
 | j + 1, i, h => by
  rw [Qah, mn_go hr hn (by omega), Option.bind_some, if_pos rfl]
  exact mn_loop hr hn j (i + 1) (by omega)
theorem MinF_spec {d : D} {l : List Pt} (hr : RwE cP d l) (h0 : 0 < l.length) (hn : l.length ≤ 1000000) : Qaj G Qch [d, .fn Qey []] = some (.d (encP (mnF l (l.length - 1)))) := by
 rw [Qae (cf := slices_MinFunc_api_Point_api_Point) rfl]
 have ll := hr.len
 have e1 : decide ((l.length : Int) < 1) = false := lt_f (by omega)
 have x1 := hr.ixa (j := 0) QaJ h0
 have x2 := fun hp => ldE (j := 0) (l := l) QaJ hp h0
 have g := mn_loop hr hn (l.length - 1) 0 (by omega)
 have e0 : mnF l 0 = l.getD 0 default := rfl
 have e3 : ((0 + 1 : Nat) : Int) = 1 := rfl
 rw [e0, e3] at g
 simp only [nc0, List.drop_zero] at x1 x2
 generalize mnF l (l.length - 1) = z at *
 generalize l.getD 0 default = q at *
 obtain ⟨qx, qy⟩ := q
 obtain ⟨zx, zy⟩ := z
 simp only [cP, iv] at x2
 simp only [Qpr, mn_en, iv, go_sem] at g
 simp -implicitDefEqProofs (maxSteps := 10000000) only [slices_MinFunc_api_Point_api_Point, encP, cP, g, st2p, ld2p, go_sem, iv, bv, e1, ll, x1, x2, reduceCtorEq, ↓reduceIte, Nat.reduceEqDiff]
end Go.AM

/- convex.Sum's first loops: all sums. -/
namespace Go.AM
open Go Go.RowKit
def suO (p q : Pt) : Pt := (p.1 - q.1, p.2 - q.2)
def Qgl (da db : D) (L : List Pt) (p : Pt) (n i m k : Int) : St := mkS [(1, .d db), (5, gAE 41 L), (7, .ptr [7] 0), (16, .d da), (17, ai n), (18, ai i), (22, .d db), (23, ai m), (24, ai k)] (([7], bxP p.1 p.2) :: gHE cP 2 41 L)
def Qd8 (da db : D) (L : List Pt) (n i : Int) : St := mkS [(1, .d db), (5, gAE 41 L), (16, .d da), (17, ai n), (18, ai i)] (gHE cP 2 41 L)
def Qpo (L : List Pt) : St := mkS [(5, gAE 41 L)] (gHE cP 2 41 L)
variable [Its]
theorem cu0_go {da db : D} {b : List Pt} (hr : RwE cP db b) (hb : ∀ p ∈ b, SmP p) (hn : b.length ≤ 1000) {L : List Pt} (hL : L.length ≤ 1000) {p : Pt} (hp : SmP p) {n i : Int} {k : Nat} (hk : k < b.length) :
    X G QcA (Qgl da db L p n i b.length k) = some (.n, Qgl da db (L ++ [suO p (b.getD k default)]) p n i b.length ((k + 1 : Nat) : Int)) := by
  have e1 : decide ((k : Int) < (b.length : Int)) = true := lt_t (by omega)
  have e2 : w64 ((k : Int) + 1) = ((k + 1 : Nat) : Int) := by rw [Qac (by omega) (by omega)]; rfl
  have x1 := hr.ixa QaJ hk
  have x2 := fun hp => ldE QaJ hp hk
  have hq := Qbg hb smP0 k
  unfold suO
  generalize b.getD k default = q at *
  obtain ⟨x, y⟩ := q
  obtain ⟨p1, p2⟩ := p
  obtain ⟨h1, h2⟩ := hq
  obtain ⟨h3, h4⟩ := hp
  simp only [Sm] at h1 h2 h3 h4
  dsimp only
  obtain ⟨u, hu⟩ : ∃ u, p1 - x = u := ⟨_, rfl⟩
  obtain ⟨v, hv⟩ : ∃ v, p2 - y = v := ⟨_, rfl⟩
  have e3 : w64 (p1 - x) = u := by rw [Qac (by omega) (by omega), hu]
  have e4 : w64 (p2 - y) = v := by rw [Qac (by omega) (by omega), hv]
  simp only [cP, iv] at x2
  rw [hu, hv]
  by_cases h0 : L = []
  · subst h0
    have hb : (16 ≤ bound) = True := eq_true (by unfold bound; omega)
    have hb1 : (1 * 16 ≤ bound) = True := eq_true (by unfold bound; omega)
    have hq : ([(u, v)] : List Pt) ≠ [] := by simp
    simp -implicitDefEqProofs (maxSteps := 10000000) only [QcA, Qgl, bxP, Qbd, Qbc, Qbt hq, Qbu hq, arE, Qoq, Qaa, st2p, Qfc, Qfe, QcG, Qbl, List.nil_append, List.cons_append, List.length_nil, List.length_cons, Nat.zero_add, List.map_cons, List.map_nil, Qhp, oneI, srcS, src, allD, hb, hb1, x1, x2, go_sem, iv, bv, e1, e2, e3, e4, reduceCtorEq, ↓reduceIte, Nat.reduceEqDiff]
  · have n3 := lenE QaJ L
    have n4 : ((L.length + 1) * 16 ≤ bound) = True := eq_true (by unfold bound; omega)
    simp -implicitDefEqProofs (maxSteps := 10000000) only [QcA, Qgl, bxP, Qbt h0, Qbu h0, Qia, Qh2, arE, Qlh, Qay, n3, n4, st2p, Qfc, Qfe, QcG, Qbl, List.nil_append, List.cons_append, List.length_nil, List.length_cons, Nat.zero_add, List.map_cons, List.map_nil, List.all_cons, List.all_nil, Qhp, oneI, srcS, src, allD, x1, x2, go_sem, iv, bv, e1, e2, e3, e4, reduceCtorEq, ↓reduceIte, Nat.reduceEqDiff]
theorem cu0_stop {da db : D} {b : List Pt} {L : List Pt} {p : Pt} {n i : Int} : X G QcA (Qgl da db L p n i b.length b.length) = some (.x 2, Qd8 da db L n i) := by
 have e1 : decide ((b.length : Int) < (b.length : Int)) = false := lt_f (by omega)
 by_cases h0 : L = []
 ·subst h0
  simp -implicitDefEqProofs (maxSteps := 10000000) only [QcA, Qgl, Qd8, bxP, Qbd, Qbc, Qaa, go_sem, iv, bv, e1, reduceCtorEq, ↓reduceIte, Nat.reduceEqDiff]
 ·simp -implicitDefEqProofs (maxSteps := 10000000) only [QcA, Qgl, Qd8, bxP, Qbt h0, Qbu h0, arE, Qay, go_sem, iv, bv, e1, reduceCtorEq, ↓reduceIte, Nat.reduceEqDiff]
theorem Qq8      {da db : D} {b : List Pt} (hr : RwE cP db b) (hb : ∀ p ∈ b, SmP p) (hn : b.length ≤ 10) {p : Pt} (hp : SmP p) {n i : Int} : ∀ (j k : Nat) (L : List Pt), k + j = b.length → L.length + j ≤ 1000 →
    X G (.loop QcA) (Qgl da db L p n i b.length k) = some (.x 2, Qd8 da db (L ++ suR p (b.drop k)) n i)
  | 0, k, L, h, hl => by
    have : k = b.length := by omega
    subst this
    rw [Qah, cu0_stop, List.drop_length]
    simp [suR]
  | j + 1, k, L, h, hl => by
    have hk : k < b.length := by omega
    rw [Qah, cu0_go hr hb (by omega) (by omega) hp hk, Option.bind_some, if_pos rfl, Qq8 hr hb hn hp j (k + 1) _ (by omega) (by rw [List.length_append, List.length_singleton]; omega), QcQ hk]
    simp [suR, suO]
theorem cu1_go {da db : D} {a b : List Pt} (hra : RwE cP da a) (hr : RwE cP db b) (ha : ∀ p ∈ a, SmP p) (hb : ∀ p ∈ b, SmP p) (hn : b.length ≤ 10) {L : List Pt} (hL : L.length ≤ 900) {i : Nat} (hi : i < a.length) (hna : a.length ≤ 1000) :
    X G Qb5 (Qd8 da db L a.length i) = some (.n, Qd8 da db (L ++ suR (a.getD i default) b) a.length ((i + 1 : Nat) : Int)) := by
  have e1 : decide ((i : Int) < (a.length : Int)) = true := lt_t (by omega)
  have e2 : w64 ((i : Int) + 1) = ((i + 1 : Nat) : Int) := by rw [Qac (by omega) (by omega)]; rfl
  have x1 := hra.ixa QaJ hi
  have x2 := fun hp => ldE QaJ hp hi
  have hp := Qbg ha smP0 i
  have g := Qq8 (da := da) (n := (a.length : Int)) (i := (i : Int)) hr hb hn hp b.length 0 L (by omega) (by omega)
  rw [List.drop_zero] at g
  have ll := hr.len
  generalize a.getD i default = p at *
  generalize L ++ suR p b = M at *
  obtain ⟨p1, p2⟩ := p
  simp only [cP, iv] at x2
  by_cases h0 : L = []
  · subst h0
    by_cases h1 : M = []
    · subst h1
      simp only [Qgl, Qd8, bxP, Qbd, Qbc, Qaa, nc0, go_sem, iv] at g
      simp -implicitDefEqProofs (maxSteps := 10000000) only [Qb5, Qd8, Qbd, Qbc, Qaa, g, ll, x1, x2, st2p, go_sem, iv, bv, e1, e2, reduceCtorEq, ↓reduceIte, Nat.reduceEqDiff]
    · simp only [Qgl, Qd8, bxP, Qbd, Qbc, Qbt h1, Qbu h1, arE, Qaa, nc0, go_sem, iv] at g
      simp -implicitDefEqProofs (maxSteps := 10000000) only [Qb5, Qd8, Qbd, Qbc, Qbt h1, Qbu h1, arE, Qay, Qaa, g, ll, x1, x2, st2p, go_sem, iv, bv, e1, e2, reduceCtorEq, ↓reduceIte, Nat.reduceEqDiff]
  · by_cases h1 : M = []
    · subst h1
      simp only [Qgl, Qd8, bxP, Qbd, Qbc, Qbt h0, Qbu h0, arE, Qaa, nc0, go_sem, iv] at g
      simp -implicitDefEqProofs (maxSteps := 10000000) only [Qb5, Qd8, Qbd, Qbc, Qbt h0, Qbu h0, arE, Qay, Qaa, g, ll, x1, x2, st2p, go_sem, iv, bv, e1, e2, reduceCtorEq, ↓reduceIte, Nat.reduceEqDiff]
    · simp only [Qgl, Qd8, bxP, Qbt h0, Qbu h0, Qbt h1, Qbu h1, arE, nc0, go_sem, iv] at g
      simp -implicitDefEqProofs (maxSteps := 10000000) only [Qb5, Qd8, Qbt h0, Qbu h0, Qbt h1, Qbu h1, arE, Qay, g, ll, x1, x2, st2p, go_sem, iv, bv, e1, e2, reduceCtorEq, ↓reduceIte, Nat.reduceEqDiff]
theorem cu1_stop {da db : D} {a : List Pt} {L : List Pt} : X G Qb5 (Qd8 da db L a.length a.length) = some (.x 0, Qpo L) := by
 have e1 : decide ((a.length : Int) < (a.length : Int)) = false := lt_f (by omega)
 by_cases h0 : L = []
 ·subst h0
  simp -implicitDefEqProofs (maxSteps := 10000000) only [Qb5, Qd8, Qpo, Qbd, Qbc, Qaa, go_sem, iv, bv, e1, reduceCtorEq, ↓reduceIte, Nat.reduceEqDiff]
 ·simp -implicitDefEqProofs (maxSteps := 10000000) only [Qb5, Qd8, Qpo, Qbt h0, Qbu h0, arE, Qay, go_sem, iv, bv, e1, reduceCtorEq, ↓reduceIte, Nat.reduceEqDiff]
theorem QqA      {da db : D} {a b : List Pt} (hra : RwE cP da a) (hr : RwE cP db b) (ha : ∀ p ∈ a, SmP p) (hb : ∀ p ∈ b, SmP p) (hn : b.length ≤ 10) (hna : a.length ≤ 10) : ∀ (j i : Nat) (L : List Pt), i + j = a.length → L.length + j * 10 ≤ 900 →
    X G (.loop Qb5) (Qd8 da db L a.length i) = some (.x 0, Qpo (L ++ suA (a.drop i) b))
  | 0, i, L, h, hl => by
    have : i = a.length := by omega
    subst this
    rw [Qah, cu1_stop, List.drop_length]
    simp [suA]
  | j + 1, i, L, h, hl => by
    have hi : i < a.length := by omega
    have hs : (suR (a.getD i default) b).length ≤ 10 := by unfold suR; rw [List.length_map]; exact hn
    rw [Qah, cu1_go hra hr ha hb hn (by omega) hi (by omega), Option.bind_some, if_pos rfl, QqA hra hr ha hb hn hna j (i + 1) _ (by omega) (by rw [List.length_append]; omega), QcQ hi]
    simp [suA]
end Go.AM

/- The hulls of both, plain; they move with the shapes. -/
namespace Go.AM
open Go Go.RowKit
def bsS (last best p : Pt) : Pt := if decide (best = last) || decide (crI last best p < 0) || (decide (crI last best p = 0) && decide (faI last best < faI last p)) then p else best
def nxC (all : List Pt) (last : Pt) : Pt := all.foldl (bsS last) last
def hulC (all : List Pt) (first : Pt) : Nat → List Pt → Pt → Option (List Pt)
 | 0, _, _ => none
 | f + 1, out, last => if nxC all last = first then some out else hulC all first f (out ++ [nxC all last]) (nxC all last)
def okQ (last c p : Pt) : Bool := decide (0 < crI last c p) || (decide (crI last c p = 0) && decide (faI p last ≤ faI c last))
def nxR (all : List Pt) (last : Pt) : Pt := (all.find? fun c => decide (c ≠ last) && all.all (okQ last c)).getD last
def hulR (all : List Pt) (first : Pt) : Nat → List Pt → Pt → Option (List Pt)
 | 0, _, _ => none
 | f + 1, out, last => if nxR all last = first then some out else hulR all first f (out ++ [nxR all last]) (nxR all last)
def onE (a b x : List Pt) (d : Dr) (i : Nat) : Bool :=
 let u := sdx x i
 let v := sdy x i
 let t := if d.1 = 0 then (-u).tdiv d.2.1 else v.tdiv d.1
 decide (0 < t) && decide (v = t * d.1) && decide (-u = t * d.2.1) && decide (dotI d (x.getD i default) = moP d a + moP (tnD d) b)
def edgB (a b x : List Pt) : Bool :=
 ((uqS a b).all fun d => (List.range x.length).any fun i => onE a b x d i) && ((List.range x.length).all fun i => (uqS a b).any fun d => onE a b x d i)
def bas (c : Int) : List (List Pt) := (List.range 3).flatMap fun (k : Nat) => (List.range (if c = 2 ∨ c = 5 then 6 else 1)).map fun (m : Nat) => spB c (1 + (k : Int)) (1 + (m : Int))
theorem bas_mem {c k m : Int} (hc : 0 ≤ c ∧ c < 7) (hk : 1 ≤ k ∧ k < 4) (hm : 1 ≤ m ∧ m < 7) : ∃ e ∈ ([2, 3, 4, 5, 6] : List Int), spB c k m ∈ bas e := by
 have key : ∀ e : Int, (e = 2 ∨ e = 5) → spB e k m ∈ bas e := by
  intro e he
  unfold bas
  rw [if_pos he]
  refine List.mem_flatMap.2 ⟨(k - 1).toNat, List.mem_range.2 (by omega), List.mem_map.2 ⟨(m - 1).toNat, List.mem_range.2 (by omega), ?_⟩⟩
  rw [show 1 + (((k - 1).toNat : Nat) : Int) = k by omega, show 1 + (((m - 1).toNat : Nat) : Int) = m by omega]
 have key2 : ∀ e : Int, (e = 3 ∨ e = 4 ∨ e = 6) → spB e k 1 ∈ bas e := by
  intro e he
  unfold bas
  rw [if_neg (by omega)]
  refine List.mem_flatMap.2 ⟨(k - 1).toNat, List.mem_range.2 (by omega), List.mem_map.2 ⟨0, List.mem_range.2 (by omega), ?_⟩⟩
  rw [show 1 + (((k - 1).toNat : Nat) : Int) = k by omega]; rfl
 obtain h | h | h | h | h : (c = 0 ∨ c = 1 ∨ c = 2) ∨ c = 3 ∨ c = 4 ∨ c = 5 ∨ c = 6 := by omega
 ·refine ⟨2, by simp, ?_⟩
  have e1 : spB c k m = spB 2 k m := by unfold spB; rw [if_pos h, if_pos (by omega)]
  rw [e1]; exact key 2 (.inl rfl)
 ·subst h; exact ⟨3, by simp, key2 3 (.inl rfl)⟩
 ·subst h; exact ⟨4, by simp, key2 4 (.inr (.inl rfl))⟩
 ·subst h; exact ⟨5, by simp, key 5 (.inr rfl)⟩
 ·subst h; exact ⟨6, by simp, key2 6 (.inr (.inr rfl))⟩
/-! Moved -/
theorem QlQ (x y : Int) (p q : Pt) : (mvP x y p = mvP x y q) ↔ p = q := by
 obtain ⟨a, b⟩ := p
 obtain ⟨c, d⟩ := q
 unfold mvP
 simp only [Prod.mk.injEq]
 omega
theorem Qrn (x y : Int) (p q : Pt) : faI (mvP x y p) (mvP x y q) = faI p q := by
 unfold faI mvP
 dsimp only
 rw [show p.1 + x - (q.1 + x) = p.1 - q.1 by omega, show p.2 + y - (q.2 + y) = p.2 - q.2 by omega]
theorem ltQ_mv (x y : Int) (p q : Pt) : ltQ (mvP x y p) (mvP x y q) = ltQ p q := by
 unfold ltQ mvP
 dsimp only
 rw [show decide (p.2 + y < q.2 + y) = decide (p.2 < q.2) from decide_eq_decide.2 (by omega), show decide (p.2 + y = q.2 + y) = decide (p.2 = q.2) from decide_eq_decide.2 (by omega), show decide (p.1 + x < q.1 + x) = decide (p.1 < q.1) from decide_eq_decide.2 (by omega)]
theorem bsS_mv (x y : Int) (l b p : Pt) : bsS (mvP x y l) (mvP x y b) (mvP x y p) = mvP x y (bsS l b p) := by
 unfold bsS
 rw [crI_mv, Qrn, Qrn, show decide (mvP x y b = mvP x y l) = decide (b = l) from decide_eq_decide.2 (QlQ x y b l)]
 split <;> rfl
theorem fold_mv (x y : Int) (l : Pt) : ∀ (L : List Pt) (b : Pt), (L.map (mvP x y)).foldl (bsS (mvP x y l)) (mvP x y b) = mvP x y (L.foldl (bsS l) b)
 | [], b => rfl
 | p :: L, b => by
  rw [List.map_cons, List.foldl_cons, List.foldl_cons, bsS_mv, fold_mv x y l L]
theorem nxC_mv (x y : Int) (L : List Pt) (l : Pt) : nxC (L.map (mvP x y)) (mvP x y l) = mvP x y (nxC L l) := fold_mv x y l L l
theorem Qpy (x y : Int) (L : List Pt) (fs : Pt) : ∀ (f : Nat) (O : List Pt) (l : Pt), hulC (L.map (mvP x y)) (mvP x y fs) f (O.map (mvP x y)) (mvP x y l) = (hulC L fs f O l).map (List.map (mvP x y))
 | 0, _, _ => rfl
 | f + 1, O, l => by
  rw [hulC, hulC, nxC_mv]
  by_cases h : nxC L l = fs
  ·rw [if_pos h, if_pos (by rw [h])]; rfl
  ·rw [if_neg h, if_neg (fun e => h ((QlQ x y _ _).1 e)), ← Qpy x y L fs f, List.map_append]; rfl
theorem okQ_mv (x y : Int) (l c p : Pt) : okQ (mvP x y l) (mvP x y c) (mvP x y p) = okQ l c p := by unfold okQ; rw [crI_mv, Qrn, Qrn]
theorem all_mv (x y : Int) (l c : Pt) (L : List Pt) : (L.map (mvP x y)).all (okQ (mvP x y l) (mvP x y c)) = L.all (okQ l c) := by
 rw [List.all_map]
 congr 1
 funext p
 exact okQ_mv x y l c p
theorem nxR_mv (x y : Int) (L : List Pt) (l : Pt) : nxR (L.map (mvP x y)) (mvP x y l) = mvP x y (nxR L l) := by
 unfold nxR
 rw [List.find?_map]
 have e : (fun c => decide (c ≠ mvP x y l) && (L.map (mvP x y)).all (okQ (mvP x y l) c)) ∘ mvP x y = fun c => decide (c ≠ l) && L.all (okQ l c) := by
  funext c
  show (decide (mvP x y c ≠ mvP x y l) && (L.map (mvP x y)).all (okQ (mvP x y l) (mvP x y c))) = _
  rw [all_mv, show decide (mvP x y c ≠ mvP x y l) = decide (c ≠ l) from decide_eq_decide.2 (not_congr (QlQ x y c l))]
 rw [e]
 cases L.find? fun c => decide (c ≠ l) && L.all (okQ l c) <;> rfl
theorem Qp0 (x y : Int) (L : List Pt) (fs : Pt) : ∀ (f : Nat) (O : List Pt) (l : Pt), hulR (L.map (mvP x y)) (mvP x y fs) f (O.map (mvP x y)) (mvP x y l) = (hulR L fs f O l).map (List.map (mvP x y))
 | 0, _, _ => rfl
 | f + 1, O, l => by
  rw [hulR, hulR, nxR_mv]
  by_cases h : nxR L l = fs
  ·rw [if_pos h, if_pos (by rw [h])]; rfl
  ·rw [if_neg h, if_neg (fun e => h ((QlQ x y _ _).1 e)), ← Qp0 x y L fs f, List.map_append]; rfl
theorem suA_mv (x y u v : Int) (a b : List Pt) : suA (a.map (mvP x y)) (b.map (mvP u v)) = (suA a b).map (mvP (x - u) (y - v)) := by
 unfold suA
 rw [List.flatMap_map, List.map_flatMap]
 congr 1
 funext p
 unfold suR
 rw [List.map_map, List.map_map]
 congr 1
 funext q
 simp only [Function.comp, mvP]
 refine Prod.ext ?_ ?_ <;> dsimp only <;> omega
theorem mnF_mv (x y : Int) (L : List Pt) : ∀ i, i < L.length → mnF (L.map (mvP x y)) i = mvP x y (mnF L i)
 | 0, h => by rw [mnF, mnF, QeL _ _ h]
 | i + 1, h => by
  rw [mnF, mnF, mnF_mv x y L i (by omega), QeL _ _ h, ltQ_mv]
  split <;> rfl
/-! What the kernel has found of the base shapes, for the moved ones. -/
structure Hul (a b x : List Pt) : Prop where
 c : hulC (suA a b) (mnF (suA a b) ((suA a b).length - 1)) 17 [mnF (suA a b) ((suA a b).length - 1)] (mnF (suA a b) ((suA a b).length - 1)) = some x
 r : hulR (suA a b) (mnF (suA a b) ((suA a b).length - 1)) 17 [mnF (suA a b) ((suA a b).length - 1)] (mnF (suA a b) ((suA a b).length - 1)) = some x
 three : 3 ≤ x.length
 ten : x.length ≤ 10
 one : ∀ d ∈ uqS a b, ∃ i, i < x.length ∧ onE a b x d i = true
 two : ∀ i, i < x.length → ∃ d ∈ uqS a b, onE a b x d i = true
 le : x.length ≤ (suA a b).length
theorem uqS_mv (x y u v : Int) (a b : List Pt) : uqS (a.map (mvP x y)) (b.map (mvP u v)) = uqS a b := by
 unfold uqS; rw [drs_mv]
theorem sdx_mv (x y : Int) (l : List Pt) {i : Nat} (h : i < l.length) : sdx (l.map (mvP x y)) i = sdx l i := by
 unfold sdx
 rw [mv_nx _ _ h, QeL _ _ h]
 unfold mvP
 dsimp only
 omega
theorem sdy_mv (x y : Int) (l : List Pt) {i : Nat} (h : i < l.length) : sdy (l.map (mvP x y)) i = sdy l i := by
 unfold sdy
 rw [mv_nx _ _ h, QeL _ _ h]
 unfold mvP
 dsimp only
 omega
theorem onE_mv (x y u v : Int) {a b : List Pt} (ha : 0 < a.length) (hb : 0 < b.length) (X : List Pt) (d : Dr) {i : Nat} (h : i < X.length) : onE (a.map (mvP x y)) (b.map (mvP u v)) (X.map (mvP (x - u) (y - v))) d i = onE a b X d i := by
 unfold onE
 dsimp only
 rw [sdx_mv _ _ _ h, sdy_mv _ _ _ h, moP_mv d x y ha, moP_mv (tnD d) u v hb, QeL _ _ h]
 have e : decide (dotI d (mvP (x - u) (y - v) (X.getD i default)) = moP d a + (d.1 * x + d.2.1 * y) + (moP (tnD d) b + ((tnD d).1 * u + (tnD d).2.1 * v))) = decide (dotI d (X.getD i default) = moP d a + moP (tnD d) b) := by
  refine decide_eq_decide.2 ?_
  generalize X.getD i default = p
  unfold dotI mvP tnD
  dsimp only
  rw [Int.mul_add, Int.mul_add, Int.mul_sub, Int.mul_sub, Int.neg_mul, Int.neg_mul]
  omega
 rw [e]
theorem hul_mv (x y u v : Int) {a b X : List Pt} (ha : 0 < a.length) (hb : 0 < b.length) (h : Hul a b X) : Hul (a.map (mvP x y)) (b.map (mvP u v)) (X.map (mvP (x - u) (y - v))) := by
 have hn : 0 < (suA a b).length := by
  unfold suA
  obtain ⟨p, a, rfl⟩ := List.exists_cons_of_length_pos ha
  rw [List.flatMap_cons, List.length_append]
  unfold suR
  rw [List.length_map]
  omega
 have e := suA_mv x y u v a b
 have e1 : mnF (suA (a.map (mvP x y)) (b.map (mvP u v))) ((suA (a.map (mvP x y)) (b.map (mvP u v))).length - 1) = mvP (x - u) (y - v) (mnF (suA a b) ((suA a b).length - 1)) := by
  rw [e, List.length_map, mnF_mv _ _ _ _ (by omega)]
 refine ⟨?_, ?_, by rw [List.length_map]; exact h.three, by rw [List.length_map]; exact h.ten, ?_, ?_, by rw [e, List.length_map, List.length_map]; exact h.le⟩
 ·rw [e1, e]
  have := Qpy (x - u) (y - v) (suA a b) (mnF (suA a b) ((suA a b).length - 1)) 17 [mnF (suA a b) ((suA a b).length - 1)] (mnF (suA a b) ((suA a b).length - 1))
  rw [h.c] at this
  exact this
 ·rw [e1, e]
  have := Qp0 (x - u) (y - v) (suA a b) (mnF (suA a b) ((suA a b).length - 1)) 17 [mnF (suA a b) ((suA a b).length - 1)] (mnF (suA a b) ((suA a b).length - 1))
  rw [h.r] at this
  exact this
 ·intro d hd
  rw [uqS_mv] at hd
  obtain ⟨i, hi, e⟩ := h.one d hd
  exact ⟨i, by rw [List.length_map]; exact hi, by rw [onE_mv _ _ _ _ ha hb _ _ hi]; exact e⟩
 ·intro i hi
  rw [List.length_map] at hi
  obtain ⟨d, hd, e⟩ := h.two i hi
  exact ⟨d, by rw [uqS_mv]; exact hd, by rw [onE_mv _ _ _ _ ha hb _ _ hi]; exact e⟩
end Go.AM

/- convex.Sum's inner loop: the next corner. -/
namespace Go.AM
open Go Go.RowKit
def frO (AA : List Pt) : Obj := ⟨2, AA.length, (AA.flatMap cP).map .d, true⟩
def Qlq (AA : List Pt) (fs : Pt) (O : List Pt) (k : Nat) (last best : Pt) (n i : Int) : St := mkS [(5, .d (rowE cP AA)), (10, .ptr [10] 0), (11, .own [k] O.length), (12, .ptr [12] 0), (13, .ptr [13] 0), (55, .d (rowE cP AA)), (56, ai n), (57, ai i)] [([10], bxP fs.1 fs.2), ([12], bxP last.1 last.2), ([13], bxP best.1 best.2), ([41], frO AA), ([k], arE cP 2 O.length O)]
def l2_en (AA : List Pt) (fs : Pt) (O : List Pt) (k : Nat) (best : Pt) : St := mkS [(5, .d (rowE cP AA)), (10, .ptr [10] 0), (11, .own [k] O.length), (13, .ptr [13] 0)] [([10], bxP fs.1 fs.2), ([13], bxP best.1 best.2), ([41], frO AA), ([k], arE cP 2 O.length O)]
theorem QnR (p q : Pt) : ((p.1 == q.1) && (p.2 == q.2)) = decide (p = q) := by
 obtain ⟨a, b⟩ := p
 obtain ⟨c, d⟩ := q
 simp only [Prod.mk.injEq]
 by_cases h1 : a = c <;> by_cases h2 : b = d <;> simp [h1, h2]
theorem Qcm (o : Obj) : QbK (hupd hp0 [47] o) [41] none = hupd hp0 [47] o := by
 funext j
 simp only [QbK, hupd, hp0]
 by_cases h : j = [41]
 ·subst h; rfl
 ·rw [if_neg h]
theorem Qep (o : Obj) : QbK (hupd hp0 [96] o) [41] none = hupd hp0 [96] o := by
 funext j
 simp only [QbK, hupd, hp0]
 by_cases h : j = [41]
 ·subst h; rfl
 ·rw [if_neg h]
theorem Qet (o : Obj) : QbK (hupd hp0 [96] o) [47] none = hupd hp0 [96] o := by
 funext j
 simp only [QbK, hupd, hp0]
 by_cases h : j = [47]
 ·subst h; rfl
 ·rw [if_neg h]
theorem Qjy : A.bool? (.d (.v (.tuple #[]))) = none := rfl
variable [Its]
set_option maxHeartbeats 2000000 in
theorem l2_go47 {AA O : List Pt} {fs last best : Pt} (hA : ∀ p ∈ AA, SmP p) (hn : AA.length ≤ 1000) (hl : SmP last) (hb : SmP best) {i : Nat} (hi : i < AA.length) :
    X G Qb4 (Qlq AA fs O 47 last best AA.length i) = some (.n, Qlq AA fs O 47 last (bsS last best (AA.getD i default)) AA.length ((i + 1 : Nat) : Int)) := by
  have hr : RwE cP (rowE cP AA) AA := .inr rfl
  have e1 : decide ((i : Int) < (AA.length : Int)) = true := lt_t (by omega)
  have e2 : w64 ((i : Int) + 1) = ((i + 1 : Nat) : Int) := by rw [Qac (by omega) (by omega)]; rfl
  have x1 := hr.ixa QaJ hi
  have x2 := fun hp => ldE QaJ hp hi
  have hp := Qbg hA smP0 i
  generalize AA.getD i default = p at *
  have g1 := Qsa hl hb hp
  have g2 := QqT hl hp
  have g3 := QqT hl hb
  have q := QnR best last
  unfold bsS
  generalize crI last best p = c at *
  generalize faI last p = u at *
  generalize faI last best = v at *
  cases h0 : decide (best = last) with
  | true =>
    rw [h0] at q
    obtain ⟨l1, l2⟩ := last
    obtain ⟨b1, b2⟩ := best
    obtain ⟨p1, p2⟩ := p
    simp only [encP, cP, iv] at x2 g1 g2 g3
    simp -implicitDefEqProofs (maxSteps := 10000000) only [Qb4, Qlq, bxP, frO, arE, Qay, Qaa, Qcm, Qep, Qet, Qjy, decide_false, x1, x2, q, e1, e2, st2p, ld2p, Bool.true_or, if_true, go_sem, iv, bv, reduceCtorEq, ↓reduceIte, Nat.reduceEqDiff]
  | false =>
    rw [h0] at q
    obtain ⟨l1, l2⟩ := last
    obtain ⟨b1, b2⟩ := best
    obtain ⟨p1, p2⟩ := p
    simp only [encP, cP, iv] at x2 g1 g2 g3
    by_cases h1 : c < 0
    · have t1 : decide (c < 0) = true := lt_t h1
      simp -implicitDefEqProofs (maxSteps := 10000000) only [Qb4, Qlq, bxP, frO, arE, Qay, Qaa, Qcm, Qep, Qet, Qjy, decide_false, x1, x2, q, g1, t1, e1, e2, st2p, ld2p, Bool.true_or, Bool.false_or, if_true, go_sem, iv, bv, reduceCtorEq, ↓reduceIte, Nat.reduceEqDiff]
    · have t1 : decide (c < 0) = false := lt_f (by omega)
      by_cases h2 : c = 0
      · subst h2
        have t2 : ((0 : Int) == 0) = true := rfl
        by_cases h3 : v < u
        · have t3 : decide (u > v) = true := gt_t h3
          have t4 : decide (v < u) = true := lt_t h3
          simp -implicitDefEqProofs (maxSteps := 10000000) only [Qb4, Qlq, bxP, frO, arE, Qay, Qaa, Qcm, Qep, Qet, Qjy, decide_false, x1, x2, q, g1, g2, g3, t1, t2, t3, t4, e1, e2, st2p, ld2p, decide_true, Bool.and_self, Bool.true_or, Bool.false_or, if_true, go_sem, iv, bv, reduceCtorEq, ↓reduceIte, Nat.reduceEqDiff]
        · have t3 : decide (u > v) = false := gt_f (by omega)
          have t4 : decide (v < u) = false := lt_f (by omega)
          simp -implicitDefEqProofs (maxSteps := 10000000) only [Qb4, Qlq, bxP, frO, arE, Qay, Qaa, Qcm, Qep, Qet, Qjy, decide_false, x1, x2, q, g1, g2, g3, t1, t2, t3, t4, e1, e2, st2p, ld2p, decide_true, Bool.and_false, Bool.true_or, Bool.false_or, Bool.false_eq_true, if_false, go_sem, iv, bv, reduceCtorEq, ↓reduceIte, Nat.reduceEqDiff]
      · have t2 : (c == 0) = false := by simp [h2]
        have t3 : decide (c = 0) = false := decide_eq_false h2
        simp -implicitDefEqProofs (maxSteps := 10000000) only [Qb4, Qlq, bxP, frO, arE, Qay, Qaa, Qcm, Qep, Qet, Qjy, decide_false, x1, x2, q, g1, t1, t2, t3, e1, e2, st2p, ld2p, Bool.false_and, Bool.true_or, Bool.false_or, Bool.false_eq_true, if_false, go_sem, iv, bv, reduceCtorEq, ↓reduceIte, Nat.reduceEqDiff]
theorem l2_stop47 {AA O : List Pt} {fs last best : Pt} {n : Nat} : X G Qb4 (Qlq AA fs O 47 last best n n) = some (.x 6, l2_en AA fs O 47 best) := by
 have e1 : decide ((n : Int) < (n : Int)) = false := lt_f (by omega)
 simp -implicitDefEqProofs (maxSteps := 10000000) only [Qb4, Qlq, l2_en, bxP, frO, arE, Qay, Qaa, Qcm, Qep, Qet, e1, go_sem, iv, bv, reduceCtorEq, ↓reduceIte, Nat.reduceEqDiff]
theorem QnX       {AA O : List Pt} {fs last : Pt} (hA : ∀ p ∈ AA, SmP p) (hn : AA.length ≤ 1000) (hl : SmP last) : ∀ (j i : Nat) (best : Pt), SmP best → i + j = AA.length →
    X G (.loop Qb4) (Qlq AA fs O 47 last best AA.length i) = some (.x 6, l2_en AA fs O 47 ((AA.drop i).foldl (bsS last) best))
  | 0, i, best, hb, h => by
    have : i = AA.length := by omega
    subst this
    rw [Qah, l2_stop47, List.drop_length]
    rfl
  | j + 1, i, best, hb, h => by
    have hi : i < AA.length := by omega
    have hp := Qbg hA smP0 i
    rw [Qah, l2_go47 hA hn hl hb hi, Option.bind_some, if_pos rfl, QnX hA hn hl j (i + 1) _ (by unfold bsS; split <;> assumption) (by omega), QcQ hi, List.foldl_cons]
end Go.AM

/- convex.Sum. -/
namespace Go.AM
open Go Go.RowKit
def Qsg (AA : List Pt) (fs : Pt) (O : List Pt) : St := mkS [(5, .d (rowE cP AA)), (10, .ptr [10] 0), (11, .own [47] O.length)] [([10], bxP fs.1 fs.2), ([41], frO AA), ([47], arE cP 2 O.length O)]
def l3_en (O : List Pt) : St := mkS [(4, .own [47] O.length)] [([47], arE cP 2 O.length O)]
theorem smP_bs {last best p : Pt} (hb : SmP best) (hp : SmP p) : SmP (bsS last best p) := by unfold bsS; split <;> assumption
theorem QrD {last : Pt} : ∀ (l : List Pt) (b : Pt), SmP b → (∀ p ∈ l, SmP p) → SmP (l.foldl (bsS last) b)
 | [], b, hb, _ => hb
 | p :: l, b, hb, h => by
  rw [List.foldl_cons]
  exact QrD l _ (smP_bs hb (h p (List.mem_cons_self ..))) fun q hq => h q (List.mem_cons_of_mem _ hq)
theorem suA_sm {a b : List Pt} (ha : ∀ p ∈ a, -40000000 ≤ p.1 ∧ p.1 ≤ 40000000 ∧ -40000000 ≤ p.2 ∧ p.2 ≤ 40000000) (hb : ∀ p ∈ b, -40000000 ≤ p.1 ∧ p.1 ≤ 40000000 ∧ -40000000 ≤ p.2 ∧ p.2 ≤ 40000000) : ∀ p ∈ suA a b, SmP p := by
 intro p hp
 unfold suA at hp
 obtain ⟨q, hq, hp⟩ := List.mem_flatMap.1 hp
 unfold suR at hp
 obtain ⟨r, hr, rfl⟩ := List.mem_map.1 hp
 have := ha q hq
 have := hb r hr
 simp only [SmP, Sm]
 omega
theorem QmZ (a b : List Pt) : (suA a b).length = a.length * b.length := by
 unfold suA
 induction a with
 | nil => simp
 | cons p a ih =>
  rw [List.flatMap_cons, List.length_append, ih]
  unfold suR
  rw [List.length_map, List.length_cons, Nat.succ_mul]
  omega
variable [Its]
set_option maxHeartbeats 1000000 in
theorem l3_go {AA O : List Pt} {fs last : Pt} (hA : ∀ p ∈ AA, SmP p) (hn : AA.length ≤ 1000) (h0 : 0 < O.length) (hO : O.length ≤ 1000) (hl : SmP last) (e : O.getD (O.length - 1) default = last) :
    X G Qd4 (Qsg AA fs O) = if nxC AA last = fs then some (.r, l3_en O) else some (.n, Qsg AA fs (O ++ [nxC AA last])) := by
  have hr : RwE cP (rowE cP AA) AA := .inr rfl
  have ll := hr.len
  have e1 : w64 ((O.length : Int) - 1) = ((O.length - 1 : Nat) : Int) := by rw [Qac (by omega) (by omega)]; omega
  have b1 : (0 ≤ ((O.length - 1 : Nat) : Int)) = True := eq_true (by omega)
  have b2 : (((O.length - 1 : Nat) : Int) < (O.length : Int)) = True := eq_true (by omega)
  have x1 := ldO QaJ (l := O) (j := O.length - 1) (by omega)
  rw [e] at x1
  have g := QnX (O := O) (fs := fs) hA hn hl AA.length 0 last hl (by omega)
  rw [List.drop_zero] at g
  have en : AA.foldl (bsS last) last = nxC AA last := rfl
  rw [en] at g
  generalize nxC AA last = z at *
  have q := QnR z fs
  have n3 := lenE QaJ O
  have n4 : ((O.length + 1) * 16 ≤ bound) = True := eq_true (by unfold bound; omega)
  have n5 : (O ++ [z]).length = O.length + 1 := by simp
  have n6 := Qlh O z.1 z.2
  obtain ⟨z1, z2⟩ := z
  obtain ⟨f1, f2⟩ := fs
  obtain ⟨t1, t2⟩ := last
  dsimp only at q n6
  simp only [cP, iv] at x1
  simp only [Qlq, l2_en, bxP, frO, arE, nc0, Qaa, Qcm, go_sem, iv] at g
  by_cases hz : (z1, z2) = (f1, f2)
  · have t : decide ((z1, z2) = (f1, f2)) = true := decide_eq_true hz
    rw [t] at q
    rw [if_pos hz]
    simp -implicitDefEqProofs (maxSteps := 10000000) only [Qd4, Qsg, l3_en, bxP, frO, arE, g, ll, e1, b1, b2, x1, q, nc0, Qay, Int.toNat_natCast, Qaa, Qcm, st2p, ld2p, go_sem, iv, bv, reduceCtorEq, ↓reduceIte, Nat.reduceEqDiff]
  · have t : decide ((z1, z2) = (f1, f2)) = false := decide_eq_false hz
    rw [t] at q
    rw [if_neg hz]
    simp -implicitDefEqProofs (maxSteps := 10000000) only [Qd4, Qsg, l3_en, bxP, frO, arE, g, ll, e1, b1, b2, x1, q, nc0, n3, n4, n5, n6, Qhp, oneI, srcS, src, allD, List.all_cons, List.all_nil, List.nil_append, List.cons_append, List.length_nil, List.length_cons, Nat.zero_add, List.map_cons, List.map_nil, Qay, Int.toNat_natCast, Qaa, Qcm, st2p, ld2p, go_sem, iv, bv, reduceCtorEq, ↓reduceIte, Nat.reduceEqDiff]
theorem l3_loop {AA : List Pt} {fs : Pt} (hA : ∀ p ∈ AA, SmP p) (hn : AA.length ≤ 1000) {x : List Pt} : ∀ (f : Nat) (O : List Pt) (last : Pt), 0 < O.length → O.length + f ≤ 1000 → SmP last → O.getD (O.length - 1) default = last →
    hulC AA fs f O last = some x → X G (.loop Qd4) (Qsg AA fs O) = some (.r, l3_en x)
  | 0, O, last, _, _, _, _, h => by cases h
  | f + 1, O, last, h0, hO, hl, e, h => by
    rw [Qah, l3_go hA hn h0 (by omega) hl e]
    rw [hulC] at h
    by_cases hz : nxC AA last = fs
    · rw [if_pos hz] at h ⊢
      cases h
      rfl
    · rw [if_neg hz] at h ⊢
      rw [Option.bind_some, if_pos rfl]
      exact l3_loop hA hn f _ _ (by simp) (by rw [List.length_append, List.length_singleton]; omega) (QrD _ _ hl hA) (by simp [nxC]) h
theorem QnW       {da db : D} {a b x : List Pt} (hra : RwE cP da a) (hrb : RwE cP db b) (ha : ∀ p ∈ a, -40000000 ≤ p.1 ∧ p.1 ≤ 40000000 ∧ -40000000 ≤ p.2 ∧ p.2 ≤ 40000000) (hb : ∀ p ∈ b, -40000000 ≤ p.1 ∧ p.1 ≤ 40000000 ∧ -40000000 ≤ p.2 ∧ p.2 ≤ 40000000) (na : a.length ≤ 8) (nb : b.length ≤ 8) (h0 : 0 < a.length) (h1 : 0 < b.length)
    (h : hulC (suA a b) (mnF (suA a b) ((suA a b).length - 1)) 17 [mnF (suA a b) ((suA a b).length - 1)] (mnF (suA a b) ((suA a b).length - 1)) = some x) :
    Qaj G QgW [da, db] = some (.own 2 x.length (x.flatMap cP)) := by
  rw [Qae (cf := convex_Sum) rfl]
  have hS := suA_sm ha hb
  have hl : (suA a b).length ≤ 64 ∧ 0 < (suA a b).length := by
    rw [QmZ]
    exact ⟨Nat.le_trans (Nat.mul_le_mul na nb) (by omega), Nat.mul_pos h0 h1⟩
  have sm : ∀ {l : List Pt}, (∀ p ∈ l, -40000000 ≤ p.1 ∧ p.1 ≤ 40000000 ∧ -40000000 ≤ p.2 ∧ p.2 ≤ 40000000) → ∀ p ∈ l, SmP p := fun h p hp => by have := h p hp; simp only [SmP, Sm]; omega
  have g0 := QqA hra hrb (sm ha) (sm hb) (by omega) (by omega) a.length 0 [] (by omega) (by simp; omega)
  rw [List.drop_zero, List.nil_append] at g0
  have hne : suA a b ≠ [] := fun e => by rw [e] at hl; simp at hl
  have g1 := MinF_spec (d := rowE cP (suA a b)) (l := suA a b) (.inr rfl) hl.2 (by omega)
  have hf : SmP (mnF (suA a b) ((suA a b).length - 1)) := QnJ (P := SmP) (fun i => Qbg hS smP0 i) _
  generalize suA a b = AA at *
  generalize mnF AA (AA.length - 1) = fs at *
  have g2 := l3_loop hS (by omega) 17 [fs] fs (by simp) (by simp) hf rfl h
  have ll := hra.len
  obtain ⟨f1, f2⟩ := fs
  simp only [Qd8, Qpo, Qbd, Qbc, Qbt hne, Qbu hne, arE, Qaa, nc0, go_sem, iv] at g0
  have n6 := Qoq f1 f2
  simp only [Qsg, l3_en, bxP, frO, arE, n6, rowE, List.length_singleton, List.map_cons, List.map_nil, Qaa, Qcm, go_sem, iv] at g2
  simp only [encP, cP, rowE, iv] at g1
  simp -implicitDefEqProofs (maxSteps := 10000000) only [convex_Sum, Qlf, frO, g0, g1, g2, ll, nc0, rowE, bxP, frO, arE, Qhi, Qay, Qhp, QcG, Qbl, oneI, srcS, src, allD, List.map_cons, List.map_nil, List.length_cons, List.length_nil, Nat.zero_add, Int.toNat_natCast, Qaa, Qcm, st2p, ld2p, go_sem, iv, bv, reduceCtorEq, ↓reduceIte, Nat.reduceEqDiff]
end Go.AM

/- ref12.Sum. -/
namespace Go.AM
open Go Go.RowKit
theorem ldO0 {l : List Pt} {j : Nat} (h : j < l.length) : Qab none (j * 2) ((l.flatMap cP).map A.d) = some (.d (iv (l.getD j default).1)) := by
 show ((l.flatMap cP).map A.d)[j * 2]? = _
 have e : ((l.flatMap cP).map A.d).drop (j * 2) = ((l.drop j).flatMap cP).map A.d := by rw [← List.map_drop, QgC QaJ]
 have e2 : (((l.flatMap cP).map A.d).drop (j * 2))[0]? = ((l.flatMap cP).map A.d)[j * 2]? := by rw [List.getElem?_drop]; rfl
 rw [← e2, e, QcQ h]
 rfl
theorem ldO1 {l : List Pt} {j : Nat} (h : j < l.length) : Qab none (j * 2 + 1) ((l.flatMap cP).map A.d) = some (.d (iv (l.getD j default).2)) := by
 show ((l.flatMap cP).map A.d)[j * 2 + 1]? = _
 have e : ((l.flatMap cP).map A.d).drop (j * 2) = ((l.drop j).flatMap cP).map A.d := by rw [← List.map_drop, QgC QaJ]
 have e2 : (((l.flatMap cP).map A.d).drop (j * 2))[1]? = ((l.flatMap cP).map A.d)[j * 2 + 1]? := by rw [List.getElem?_drop]
 rw [← e2, e, QcQ h]
 rfl
def Qkm (da db : D) (L : List Pt) (i k : Int) : St := mkS [(0, .d da), (1, .d db), (5, gAE 57 L), (6, ai i), (7, ai k)] (gHE cP 2 57 L)
def Qgh (da db : D) (L : List Pt) (i : Int) : St := mkS [(0, .d da), (1, .d db), (5, gAE 57 L), (6, ai i)] (gHE cP 2 57 L)
def r1_en (L : List Pt) : St := mkS [(5, gAE 57 L)] (gHE cP 2 57 L)
def QlY (L : List Pt) (p : Pt) (i : Int) : St := mkS [(5, .own [57] L.length), (8, .ptr [8] 0), (9, ai i)] [([8], bxP p.1 p.2), ([57], arE cP 2 L.length L)]
def r2_en (L : List Pt) (p : Pt) : St := mkS [(5, .own [57] L.length), (8, .ptr [8] 0)] [([8], bxP p.1 p.2), ([57], arE cP 2 L.length L)]
def Qlt (L O : List Pt) (fs last : Pt) (i : Int) (b : Bool) (k : Int) : St := mkS [(5, .own [57] L.length), (8, .ptr [8] 0), (10, .own [100] O.length), (11, .ptr [11] 0), (12, ai i), (13, ab b), (14, ai k)] [([8], bxP fs.1 fs.2), ([11], bxP last.1 last.2), ([57], arE cP 2 L.length L), ([100], arE cP 2 O.length O)]
def Qsu (L O : List Pt) (fs last : Pt) (i : Int) (b : Bool) : St := mkS [(5, .own [57] L.length), (8, .ptr [8] 0), (10, .own [100] O.length), (11, .ptr [11] 0), (12, ai i), (13, ab b)] [([8], bxP fs.1 fs.2), ([11], bxP last.1 last.2), ([57], arE cP 2 L.length L), ([100], arE cP 2 O.length O)]
def QoI (L O : List Pt) (fs last : Pt) (i : Int) : St := mkS [(5, .own [57] L.length), (8, .ptr [8] 0), (10, .own [100] O.length), (11, .ptr [11] 0), (12, ai i)] [([8], bxP fs.1 fs.2), ([11], bxP last.1 last.2), ([57], arE cP 2 L.length L), ([100], arE cP 2 O.length O)]
def Qp7 (L O : List Pt) (fs last : Pt) : St := mkS [(5, .own [57] L.length), (8, .ptr [8] 0), (10, .own [100] O.length), (11, .ptr [11] 0)] [([8], bxP fs.1 fs.2), ([11], bxP last.1 last.2), ([57], arE cP 2 L.length L), ([100], arE cP 2 O.length O)]
def QrU (L O : List Pt) (fs : Pt) : St := mkS [(5, .own [57] L.length), (8, .ptr [8] 0), (10, .own [100] O.length)] [([8], bxP fs.1 fs.2), ([57], arE cP 2 L.length L), ([100], arE cP 2 O.length O)]
def r5_en (O : List Pt) : St := mkS [(4, .own [100] O.length)] [([100], arE cP 2 O.length O)]
theorem Qj1 (o : Obj) : QbK (hupd hp0 [57] o) [100] none = hupd hp0 [57] o := by
 funext j
 simp only [QbK, hupd, hp0]
 by_cases h : j = [100]
 ·subst h; rfl
 ·rw [if_neg h]
theorem Qf5 (o : Obj) : QbK (hupd hp0 [100] o) [210] none = hupd hp0 [100] o := by
 funext j
 simp only [QbK, hupd, hp0]
 by_cases h : j = [210]
 ·subst h; rfl
 ·rw [if_neg h]
def mnR (l : List Pt) : Nat → Pt
 | 0 => l.getD 0 default
 | i + 1 => if ltQ (l.getD i default) (mnR l i) = true then l.getD i default else mnR l i
theorem mnR_F (l : List Pt) : ∀ i, mnR l (i + 1) = mnF l i
 | 0 => by
  show (if ltQ (l.getD 0 default) (l.getD 0 default) = true then l.getD 0 default else l.getD 0 default) = l.getD 0 default
  split <;> rfl
 | i + 1 => by
  rw [mnR, mnR_F l i]; rfl
theorem hulR_le {all : List Pt} {fs : Pt} {x : List Pt} : ∀ (f : Nat) (O : List Pt) (l : Pt), hulR all fs f O l = some x → O.length ≤ x.length
  | 0, _, _, h => by cases h
  | f + 1, O, l, h => by
    rw [hulR] at h
    split at h
    · cases h; exact Nat.le_refl _
    · have := hulR_le f _ _ h
      rw [List.length_append] at this
      omega
variable [Its]
theorem Left_spec {a b c : Pt} (ha : SmP a) (hb : SmP b) (hc : SmP c) : Qaj G Qft [encP a, encP b, encP c] = some (.d (iv (crI a b c))) := by
 rw [Qae (cf := gantryref12_Left) rfl]
 obtain ⟨a1, a2⟩ := a
 obtain ⟨b1, b2⟩ := b
 obtain ⟨c1, c2⟩ := c
 obtain ⟨h1, h2⟩ := ha
 obtain ⟨h3, h4⟩ := hb
 obtain ⟨h5, h6⟩ := hc
 simp only [Sm] at h1 h2 h3 h4 h5 h6
 unfold crI
 dsimp only
 obtain ⟨x, hx⟩ : ∃ x, b1 - a1 = x := ⟨_, rfl⟩
 obtain ⟨y, hy⟩ : ∃ x, c2 - a2 = x := ⟨_, rfl⟩
 obtain ⟨z, hz⟩ : ∃ x, b2 - a2 = x := ⟨_, rfl⟩
 obtain ⟨t, ht⟩ : ∃ x, c1 - a1 = x := ⟨_, rfl⟩
 have e1 : w64 (b1 - a1) = x := by rw [Qac (by omega) (by omega), hx]
 have e2 : w64 (c2 - a2) = y := by rw [Qac (by omega) (by omega), hy]
 have e3 : w64 (b2 - a2) = z := by rw [Qac (by omega) (by omega), hz]
 have e4 : w64 (c1 - a1) = t := by rw [Qac (by omega) (by omega), ht]
 have bb : ∀ u v : Int, -200000000 ≤ u ∧ u ≤ 200000000 → -200000000 ≤ v ∧ v ≤ 200000000 → -40000000000000000 ≤ u * v ∧ u * v ≤ 40000000000000000 := by
  intro u v hu hv
  have h1 : (u * v).natAbs ≤ 200000000 * 200000000 := by
   rw [Int.natAbs_mul]
   exact Nat.mul_le_mul (by omega) (by omega)
  omega
 have m1 := bb x y (by omega) (by omega)
 have m2 := bb z t (by omega) (by omega)
 clear bb
 rw [hx, hy, hz, ht]
 have e5 : w64 (x * y) = x * y := Qac (by omega) (by omega)
 have e6 : w64 (z * t) = z * t := Qac (by omega) (by omega)
 have e7 : w64 (x * y - z * t) = x * y - z * t := Qac (by omega) (by omega)
 simp -implicitDefEqProofs (maxSteps := 10000000) only [gantryref12_Left, encP, cP, Qfc, Qfe, go_sem, iv, bv, e1, e2, e3, e4, e5, e6, e7, reduceCtorEq, ↓reduceIte, Nat.reduceEqDiff]
theorem r0_go {da db : D} {a b : List Pt} (hra : RwE cP da a) (hr : RwE cP db b) (ha : ∀ p ∈ a, SmP p) (hb : ∀ p ∈ b, SmP p) (hn : b.length ≤ 1000) {L : List Pt} (hL : L.length ≤ 1000) {i k : Nat} (hi : i < a.length) (hk : k < b.length) :
    X G Qbp (Qkm da db L i k) = some (.n, Qkm da db (L ++ [suO (a.getD i default) (b.getD k default)]) i ((k + 1 : Nat) : Int)) := by
  have e1 : decide ((k : Int) < (b.length : Int)) = true := lt_t (by omega)
  have e2 : w64 ((k : Int) + 1) = ((k + 1 : Nat) : Int) := by rw [Qac (by omega) (by omega)]; rfl
  have ll := hr.len
  have x1 := hr.ixa QaJ hk
  have x2 := fun hp => ldF (en := cP) (i := 0) QaJ hp hk (by omega)
  have x3 := fun hp => ldF (en := cP) (i := 1) QaJ hp hk (by omega)
  have x4 := hra.ixa QaJ hi
  have x5 := fun hp => ldF (en := cP) (i := 0) QaJ hp hi (by omega)
  have x6 := fun hp => ldF (en := cP) (i := 1) QaJ hp hi (by omega)
  have hp := Qbg ha smP0 i
  have hq := Qbg hb smP0 k
  unfold suO
  generalize b.getD k default = q at *
  generalize a.getD i default = p at *
  obtain ⟨x, y⟩ := q
  obtain ⟨p1, p2⟩ := p
  obtain ⟨h1, h2⟩ := hq
  obtain ⟨h3, h4⟩ := hp
  simp only [Sm] at h1 h2 h3 h4
  dsimp only
  obtain ⟨u, hu⟩ : ∃ u, p1 - x = u := ⟨_, rfl⟩
  obtain ⟨v, hv⟩ : ∃ v, p2 - y = v := ⟨_, rfl⟩
  have e3 : w64 (p1 - x) = u := by rw [Qac (by omega) (by omega), hu]
  have e4 : w64 (p2 - y) = v := by rw [Qac (by omega) (by omega), hv]
  simp only [cP, List.drop_zero, List.getElem?_cons_succ, List.getElem?_cons_zero, Option.map_some, iv] at x2 x3 x5 x6
  rw [hu, hv]
  by_cases h0 : L = []
  · subst h0
    have hb : (16 ≤ bound) = True := eq_true (by unfold bound; omega)
    have hb1 : (1 * 16 ≤ bound) = True := eq_true (by unfold bound; omega)
    have hq : ([(u, v)] : List Pt) ≠ [] := by simp
    simp -implicitDefEqProofs (maxSteps := 10000000) only [Qbp, Qkm, ll, Qbd, Qbc, Qbt hq, Qbu hq, arE, Qoq, Qaa, st2p, Qfc, Qfe, QcG, Qbl, List.nil_append, List.cons_append, List.length_nil, List.length_cons, Nat.zero_add, List.map_cons, List.map_nil, Qhp, oneI, srcS, src, allD, hb, hb1, x1, x2, x3, x4, x5, x6, List.drop_zero, go_sem, iv, bv, e1, e2, e3, e4, reduceCtorEq, ↓reduceIte, Nat.reduceEqDiff]
  · have n3 := lenE QaJ L
    have n4 : ((L.length + 1) * 16 ≤ bound) = True := eq_true (by unfold bound; omega)
    simp -implicitDefEqProofs (maxSteps := 10000000) only [Qbp, Qkm, ll, Qbt h0, Qbu h0, Qia, Qh2, arE, Qlh, Qay, n3, n4, st2p, Qfc, Qfe, QcG, Qbl, List.nil_append, List.cons_append, List.length_nil, List.length_cons, Nat.zero_add, List.map_cons, List.map_nil, List.all_cons, List.all_nil, Qhp, oneI, srcS, src, allD, x1, x2, x3, x4, x5, x6, List.drop_zero, go_sem, iv, bv, e1, e2, e3, e4, reduceCtorEq, ↓reduceIte, Nat.reduceEqDiff]
theorem r0_stop {da db : D} {b L : List Pt} (hr : RwE cP db b) {i : Int} : X G Qbp (Qkm da db L i b.length) = some (.x 2, Qgh da db L i) := by
 have e1 : decide ((b.length : Int) < (b.length : Int)) = false := lt_f (by omega)
 have ll := hr.len
 by_cases h0 : L = []
 ·subst h0
  simp -implicitDefEqProofs (maxSteps := 10000000) only [Qbp, Qkm, Qgh, ll, Qbd, Qbc, Qaa, go_sem, iv, bv, e1, reduceCtorEq, ↓reduceIte, Nat.reduceEqDiff]
 ·simp -implicitDefEqProofs (maxSteps := 10000000) only [Qbp, Qkm, Qgh, ll, Qbt h0, Qbu h0, arE, Qay, go_sem, iv, bv, e1, reduceCtorEq, ↓reduceIte, Nat.reduceEqDiff]
theorem r0_loop {da db : D} {a b : List Pt} (hra : RwE cP da a) (hr : RwE cP db b) (ha : ∀ p ∈ a, SmP p) (hb : ∀ p ∈ b, SmP p) (hn : b.length ≤ 10) {i : Nat} (hi : i < a.length) : ∀ (j k : Nat) (L : List Pt), k + j = b.length → L.length + j ≤ 1000 →
    X G (.loop Qbp) (Qkm da db L i k) = some (.x 2, Qgh da db (L ++ suR (a.getD i default) (b.drop k)) i)
  | 0, k, L, h, hl => by
    have : k = b.length := by omega
    subst this
    rw [Qah, r0_stop hr, List.drop_length]
    simp [suR]
  | j + 1, k, L, h, hl => by
    have hk : k < b.length := by omega
    rw [Qah, r0_go hra hr ha hb (by omega) (by omega) hi hk, Option.bind_some, if_pos rfl, r0_loop hra hr ha hb hn hi j (k + 1) _ (by omega) (by rw [List.length_append, List.length_singleton]; omega), QcQ hk]
    simp [suR, suO]
theorem r1_go {da db : D} {a b : List Pt} (hra : RwE cP da a) (hr : RwE cP db b) (ha : ∀ p ∈ a, SmP p) (hb : ∀ p ∈ b, SmP p) (hn : b.length ≤ 10) {L : List Pt} (hL : L.length ≤ 900) {i : Nat} (hi : i < a.length) (hna : a.length ≤ 1000) :
    X G QaU (Qgh da db L i) = some (.n, Qgh da db (L ++ suR (a.getD i default) b) ((i + 1 : Nat) : Int)) := by
  have e1 : decide ((i : Int) < (a.length : Int)) = true := lt_t (by omega)
  have e2 : w64 ((i : Int) + 1) = ((i + 1 : Nat) : Int) := by rw [Qac (by omega) (by omega)]; rfl
  have ll := hra.len
  have g := r0_loop hra hr ha hb hn hi b.length 0 L (by omega) (by omega)
  rw [List.drop_zero] at g
  generalize L ++ suR (a.getD i default) b = M at *
  by_cases h0 : L = []
  · subst h0
    by_cases h1 : M = []
    · subst h1
      simp only [Qkm, Qgh, Qbd, Qbc, Qaa, nc0, go_sem, iv] at g
      simp -implicitDefEqProofs (maxSteps := 10000000) only [QaU, Qgh, Qbd, Qbc, Qaa, g, ll, go_sem, iv, bv, e1, e2, reduceCtorEq, ↓reduceIte, Nat.reduceEqDiff]
    · simp only [Qkm, Qgh, Qbd, Qbc, Qbt h1, Qbu h1, arE, Qaa, nc0, go_sem, iv] at g
      simp -implicitDefEqProofs (maxSteps := 10000000) only [QaU, Qgh, Qbd, Qbc, Qbt h1, Qbu h1, arE, Qay, Qaa, g, ll, go_sem, iv, bv, e1, e2, reduceCtorEq, ↓reduceIte, Nat.reduceEqDiff]
  · by_cases h1 : M = []
    · subst h1
      simp only [Qkm, Qgh, Qbd, Qbc, Qbt h0, Qbu h0, arE, Qaa, nc0, go_sem, iv] at g
      simp -implicitDefEqProofs (maxSteps := 10000000) only [QaU, Qgh, Qbd, Qbc, Qbt h0, Qbu h0, arE, Qay, Qaa, g, ll, go_sem, iv, bv, e1, e2, reduceCtorEq, ↓reduceIte, Nat.reduceEqDiff]
    · simp only [Qkm, Qgh, Qbt h0, Qbu h0, Qbt h1, Qbu h1, arE, nc0, go_sem, iv] at g
      simp -implicitDefEqProofs (maxSteps := 10000000) only [QaU, Qgh, Qbt h0, Qbu h0, Qbt h1, Qbu h1, arE, Qay, g, ll, go_sem, iv, bv, e1, e2, reduceCtorEq, ↓reduceIte, Nat.reduceEqDiff]
theorem r1_stop {da db : D} {a L : List Pt} (hr : RwE cP da a) : X G QaU (Qgh da db L a.length) = some (.x 0, r1_en L) := by
 have e1 : decide ((a.length : Int) < (a.length : Int)) = false := lt_f (by omega)
 have ll := hr.len
 by_cases h0 : L = []
 ·subst h0
  simp -implicitDefEqProofs (maxSteps := 10000000) only [QaU, Qgh, r1_en, ll, Qbd, Qbc, Qaa, go_sem, iv, bv, e1, reduceCtorEq, ↓reduceIte, Nat.reduceEqDiff]
 ·simp -implicitDefEqProofs (maxSteps := 10000000) only [QaU, Qgh, r1_en, ll, Qbt h0, Qbu h0, arE, Qay, go_sem, iv, bv, e1, reduceCtorEq, ↓reduceIte, Nat.reduceEqDiff]
theorem r1_loop {da db : D} {a b : List Pt} (hra : RwE cP da a) (hr : RwE cP db b) (ha : ∀ p ∈ a, SmP p) (hb : ∀ p ∈ b, SmP p) (hn : b.length ≤ 10) (hna : a.length ≤ 10) : ∀ (j i : Nat) (L : List Pt), i + j = a.length → L.length + j * 10 ≤ 900 →
    X G (.loop QaU) (Qgh da db L i) = some (.x 0, r1_en (L ++ suA (a.drop i) b))
  | 0, i, L, h, hl => by
    have : i = a.length := by omega
    subst this
    rw [Qah, r1_stop hra, List.drop_length]
    simp [suA]
  | j + 1, i, L, h, hl => by
    have hi : i < a.length := by omega
    have hs : (suR (a.getD i default) b).length ≤ 10 := by unfold suR; rw [List.length_map]; exact hn
    rw [Qah, r1_go hra hr ha hb hn (by omega) hi (by omega), Option.bind_some, if_pos rfl, r1_loop hra hr ha hb hn hna j (i + 1) _ (by omega) (by rw [List.length_append]; omega), QcQ hi]
    simp [suA]
theorem r2_go {L : List Pt} (hn : L.length ≤ 1000) {p : Pt} {i : Nat} (hi : i < L.length) : X G Qa8 (QlY L p i) = some (.n, QlY L (if ltQ (L.getD i default) p = true then L.getD i default else p) ((i + 1 : Nat) : Int)) := by
 have e1 : decide ((i : Int) < (L.length : Int)) = true := lt_t (by omega)
 have e2 : w64 ((i : Int) + 1) = ((i + 1 : Nat) : Int) := by rw [Qac (by omega) (by omega)]; rfl
 have b1 : (0 ≤ (i : Int)) = True := eq_true (by omega)
 have b2 : ((i : Int) < (L.length : Int)) = True := eq_true (by omega)
 have x0 := ldO QaJ (l := L) (j := i) hi
 have x1 := ldO0 hi
 have x2 := ldO1 hi
 generalize L.getD i default = q at *
 obtain ⟨q1, q2⟩ := q
 obtain ⟨p1, p2⟩ := p
 simp only [cP, iv] at x0 x1 x2
 unfold ltQ
 dsimp only
 by_cases h1 : q2 < p2
 ·have t1 : decide (q2 < p2) = true := lt_t h1
  rw [t1]
  simp -implicitDefEqProofs (maxSteps := 10000000) only [Qa8, Nat.add_zero, QlY, bxP, arE, b1, b2, x0, x1, x2, t1, e1, e2, Qjy, decide_false, Qay, Int.toNat_natCast, st2p, Qfc, Qfe, Bool.true_or, if_true, go_sem, iv, bv, reduceCtorEq, ↓reduceIte, Nat.reduceEqDiff]
 ·have t1 : decide (q2 < p2) = false := lt_f (by omega)
  rw [t1]
  by_cases h2 : q2 = p2
  ·have t2 : (q2 == p2) = true := beq_iff_eq.2 h2
   have t3 : decide (q2 = p2) = true := decide_eq_true h2
   by_cases h3 : q1 < p1
   ·have t4 : decide (q1 < p1) = true := lt_t h3
    simp -implicitDefEqProofs (maxSteps := 10000000) only [Qa8, Nat.add_zero, QlY, bxP, arE, b1, b2, x0, x1, x2, t1, t2, t3, t4, e1, e2, Qjy, decide_false, decide_true, Qay, Int.toNat_natCast, st2p, Qfc, Qfe, Bool.and_self, Bool.false_or, if_true, go_sem, iv, bv, reduceCtorEq, ↓reduceIte, Nat.reduceEqDiff]
   ·have t4 : decide (q1 < p1) = false := lt_f (by omega)
    simp -implicitDefEqProofs (maxSteps := 10000000) only [Qa8, Nat.add_zero, QlY, bxP, arE, b1, b2, x0, x1, x2, t1, t2, t3, t4, e1, e2, Qjy, decide_false, decide_true, Qay, Int.toNat_natCast, st2p, Qfc, Qfe, Bool.and_false, Bool.false_or, Bool.false_eq_true, if_false, go_sem, iv, bv, reduceCtorEq, ↓reduceIte, Nat.reduceEqDiff]
  ·have t2 : (q2 == p2) = false := beq_eq_false_iff_ne.2 h2
   have t3 : decide (q2 = p2) = false := decide_eq_false h2
   simp -implicitDefEqProofs (maxSteps := 10000000) only [Qa8, Nat.add_zero, QlY, bxP, arE, b1, b2, x0, x1, x2, t1, t2, t3, e1, e2, Qjy, decide_false, decide_true, Qay, Int.toNat_natCast, st2p, Qfc, Qfe, Bool.false_and, Bool.or_self, Bool.false_or, Bool.false_eq_true, if_false, go_sem, iv, bv, reduceCtorEq, ↓reduceIte, Nat.reduceEqDiff]
theorem r2_stop {L : List Pt} {p : Pt} : X G Qa8 (QlY L p L.length) = some (.x 4, r2_en L p) := by
 have e1 : decide ((L.length : Int) < (L.length : Int)) = false := lt_f (by omega)
 simp -implicitDefEqProofs (maxSteps := 10000000) only [Qa8, QlY, r2_en, bxP, arE, e1, Qay, go_sem, iv, bv, reduceCtorEq, ↓reduceIte, Nat.reduceEqDiff]
theorem r2_loop {L : List Pt} (hn : L.length ≤ 1000) : ∀ (j i : Nat), i + j = L.length → X G (.loop Qa8) (QlY L (mnR L i) i) = some (.x 4, r2_en L (mnR L L.length))
 | 0, i, h => by
  have : i = L.length := by omega
  subst this
  rw [Qah, r2_stop]; rfl
 | j + 1, i, h => by
  rw [Qah, r2_go hn (by omega), Option.bind_some, if_pos rfl]
  exact r2_loop hn j (i + 1) (by omega)
end Go.AM

/- ref12.Sum, second part. -/
namespace Go.AM
open Go Go.RowKit
theorem sq_b {u : Int} (h : -200000000 ≤ u ∧ u ≤ 200000000) : 0 ≤ u * u ∧ u * u ≤ 40000000000000000 := by
 have h0 : 0 ≤ u * u := by
  rcases Int.le_total 0 u with h | h
  ·exact Int.mul_nonneg h h
  ·exact Int.mul_nonneg_of_nonpos_of_nonpos h h
 have h1 : (u * u).natAbs ≤ 200000000 * 200000000 := by
  rw [Int.natAbs_mul]
  exact Nat.mul_le_mul (by omega) (by omega)
 omega
theorem find_drop {q : Pt → Bool} {L : List Pt} {i : Nat} (h : i < L.length) : (L.drop i).find? q = if q (L.getD i default) = true then some (L.getD i default) else (L.drop (i + 1)).find? q := by
 rw [QcQ h, List.find?_cons]
 cases q (L.getD i default) <;> rfl
theorem find_sm {q : Pt → Bool} {L : List Pt} (hL : ∀ p ∈ L, SmP p) {l : Pt} (hl : SmP l) : SmP ((L.find? q).getD l) := by
 cases h : L.find? q with
 | none => exact hl
 | some x => exact hL x (List.mem_of_find?_eq_some h)
variable [Its]
set_option maxHeartbeats 2000000 in
theorem r3_go {L O : List Pt} {fs last : Pt} (hL : ∀ p ∈ L, SmP p) (hl : SmP last) (hn : L.length ≤ 1000) {i k : Nat} (hi : i < L.length) (hk : k < L.length) :
    X G QaX (Qlt L O fs last i true k) = some (.n, Qlt L O fs last i (okQ last (L.getD i default) (L.getD k default)) ((k + 1 : Nat) : Int)) := by
  have e1 : decide ((k : Int) < (L.length : Int)) = true := lt_t (by omega)
  have e2 : w64 ((k : Int) + 1) = ((k + 1 : Nat) : Int) := by rw [Qac (by omega) (by omega)]; rfl
  have b1 : (0 ≤ (i : Int)) = True := eq_true (by omega)
  have b2 : ((i : Int) < (L.length : Int)) = True := eq_true (by omega)
  have b3 : (0 ≤ (k : Int)) = True := eq_true (by omega)
  have b4 : ((k : Int) < (L.length : Int)) = True := eq_true (by omega)
  have x0 := ldO QaJ (l := L) (j := i) hi
  have x1 := ldO0 hi
  have x2 := ldO1 hi
  have y0 := ldO QaJ (l := L) (j := k) hk
  have y1 := ldO0 hk
  have y2 := ldO1 hk
  have hp := Qbg hL smP0 i
  have hq := Qbg hL smP0 k
  generalize L.getD i default = p at *
  generalize L.getD k default = q at *
  have g := Left_spec hl hp hq
  unfold okQ
  generalize crI last p q = c at *
  unfold faI
  obtain ⟨p1, p2⟩ := p
  obtain ⟨q1, q2⟩ := q
  obtain ⟨l1, l2⟩ := last
  obtain ⟨h1, h2⟩ := hp
  obtain ⟨h3, h4⟩ := hq
  obtain ⟨h5, h6⟩ := hl
  simp only [Sm] at h1 h2 h3 h4 h5 h6
  simp only [encP, cP, iv] at g x0 x1 x2 y0 y1 y2
  dsimp only
  obtain ⟨dx, f1⟩ : ∃ z, q1 - l1 = z := ⟨_, rfl⟩
  obtain ⟨dy, f2⟩ : ∃ z, q2 - l2 = z := ⟨_, rfl⟩
  obtain ⟨ex, f3⟩ : ∃ z, p1 - l1 = z := ⟨_, rfl⟩
  obtain ⟨ey, f4⟩ : ∃ z, p2 - l2 = z := ⟨_, rfl⟩
  have w1 : w64 (q1 - l1) = dx := by rw [Qac (by omega) (by omega), f1]
  have w2 : w64 (q2 - l2) = dy := by rw [Qac (by omega) (by omega), f2]
  have w3 : w64 (p1 - l1) = ex := by rw [Qac (by omega) (by omega), f3]
  have w4 : w64 (p2 - l2) = ey := by rw [Qac (by omega) (by omega), f4]
  have s1 := sq_b (u := dx) (by omega)
  have s2 := sq_b (u := dy) (by omega)
  have s3 := sq_b (u := ex) (by omega)
  have s4 := sq_b (u := ey) (by omega)
  rw [f1, f2, f3, f4]
  clear f1 f2 f3 f4 h1 h2 h3 h4 h5 h6
  obtain ⟨m1, v1⟩ : ∃ z, dx * dx = z := ⟨_, rfl⟩
  obtain ⟨m2, v2⟩ : ∃ z, dy * dy = z := ⟨_, rfl⟩
  obtain ⟨m3, v3⟩ : ∃ z, ex * ex = z := ⟨_, rfl⟩
  obtain ⟨m4, v4⟩ : ∃ z, ey * ey = z := ⟨_, rfl⟩
  rw [v1] at s1 ⊢
  rw [v2] at s2 ⊢
  rw [v3] at s3 ⊢
  rw [v4] at s4 ⊢
  have w5 : w64 (dx * dx) = m1 := by rw [v1, Qac (by omega) (by omega)]
  have w6 : w64 (dy * dy) = m2 := by rw [v2, Qac (by omega) (by omega)]
  have w7 : w64 (ex * ex) = m3 := by rw [v3, Qac (by omega) (by omega)]
  have w8 : w64 (ey * ey) = m4 := by rw [v4, Qac (by omega) (by omega)]
  clear v1 v2 v3 v4
  obtain ⟨n1, v1⟩ : ∃ z, m1 + m2 = z := ⟨_, rfl⟩
  obtain ⟨n2, v2⟩ : ∃ z, m3 + m4 = z := ⟨_, rfl⟩
  have w9 : w64 (m1 + m2) = n1 := by rw [Qac (by omega) (by omega), v1]
  have w10 : w64 (m3 + m4) = n2 := by rw [Qac (by omega) (by omega), v2]
  rw [v1, v2]
  by_cases hc : 0 < c
  · have t1 : decide (c > 0) = true := gt_t hc
    have t2 : decide (0 < c) = true := lt_t hc
    simp -implicitDefEqProofs (maxSteps := 10000000) only [QaX, Qaa, Nat.add_zero, Qlt, bxP, arE, b1, b2, b3, b4, x0, x1, x2, y0, y1, y2, g, t1, t2, w1, w2, w3, w4, e1, e2, Qjy, decide_false, decide_true, Qay, Int.toNat_natCast, st2p, ld2p, Qfc, Qfe, Bool.true_or, go_sem, iv, bv, reduceCtorEq, ↓reduceIte, Nat.reduceEqDiff]
  · have t1 : decide (c > 0) = false := gt_f (by omega)
    have t2 : decide (0 < c) = false := lt_f (by omega)
    by_cases hz : c = 0
    · have t3 : (c == 0) = true := beq_iff_eq.2 hz
      have t4 : decide (c = 0) = true := decide_eq_true hz
      simp -implicitDefEqProofs (maxSteps := 10000000) only [QaX, Qaa, Nat.add_zero, Qlt, bxP, arE, b1, b2, b3, b4, x0, x1, x2, y0, y1, y2, g, t1, t2, t3, t4, w1, w2, w3, w4, w5, w6, w7, w8, w9, w10, e1, e2, Qjy, decide_false, decide_true, Qay, Int.toNat_natCast, st2p, ld2p, Qfc, Qfe, Bool.true_and, Bool.false_or, go_sem, iv, bv, reduceCtorEq, ↓reduceIte, Nat.reduceEqDiff]
    · have t3 : (c == 0) = false := beq_eq_false_iff_ne.2 hz
      have t4 : decide (c = 0) = false := decide_eq_false hz
      simp -implicitDefEqProofs (maxSteps := 10000000) only [QaX, Qaa, Nat.add_zero, Qlt, bxP, arE, b1, b2, b3, b4, x0, x1, x2, y0, y1, y2, g, t1, t2, t3, t4, w1, w2, w3, w4, e1, e2, Qjy, decide_false, decide_true, Qay, Int.toNat_natCast, st2p, ld2p, Qfc, Qfe, Bool.false_and, Bool.false_or, Bool.or_self, go_sem, iv, bv, reduceCtorEq, ↓reduceIte, Nat.reduceEqDiff]
theorem r3_no {L O : List Pt} {fs last : Pt} {i : Int} {k : Nat} (hk : k < L.length) : X G QaX (Qlt L O fs last i false k) = some (.x 10, Qsu L O fs last i false) := by
 have e1 : decide ((k : Int) < (L.length : Int)) = true := lt_t (by omega)
 simp -implicitDefEqProofs (maxSteps := 10000000) only [QaX, Qaa, Qlt, Qsu, bxP, arE, e1, Qay, go_sem, iv, bv, decide_true, reduceCtorEq, ↓reduceIte, Nat.reduceEqDiff]
theorem r3_stop {L O : List Pt} {fs last : Pt} {i : Int} {b : Bool} : X G QaX (Qlt L O fs last i b L.length) = some (.x 10, Qsu L O fs last i b) := by
 have e1 : decide ((L.length : Int) < (L.length : Int)) = false := lt_f (by omega)
 cases b <;> simp -implicitDefEqProofs (maxSteps := 10000000) only [QaX, Qaa, Qlt, Qsu, bxP, arE, e1, Qjy, decide_false, Qay, go_sem, iv, bv, reduceCtorEq, ↓reduceIte, Nat.reduceEqDiff]
theorem r3_loop {L O : List Pt} {fs last : Pt} (hL : ∀ p ∈ L, SmP p) (hl : SmP last) (hn : L.length ≤ 1000) {i : Nat} (hi : i < L.length) : ∀ (j k : Nat) (b : Bool), k + j = L.length →
    X G (.loop QaX) (Qlt L O fs last i b k) = some (.x 10, Qsu L O fs last i (b && (L.drop k).all (okQ last (L.getD i default))))
  | 0, k, b, h => by
    have : k = L.length := by omega
    subst this
    rw [Qah, r3_stop, List.drop_length, List.all_nil, Bool.and_true]; rfl
  | j + 1, k, false, h => by
    rw [Qah, r3_no (by omega), Bool.false_and]; rfl
  | j + 1, k, true, h => by
    rw [Qah, r3_go hL hl hn hi (by omega), Option.bind_some, if_pos rfl, r3_loop hL hl hn hi j (k + 1) _ (by omega), QcQ (show k < L.length by omega), List.all_cons, Bool.true_and]
set_option maxHeartbeats 2000000 in
theorem r4_go {L O : List Pt} {fs last : Pt} (hL : ∀ p ∈ L, SmP p) (hl : SmP last) (hn : L.length ≤ 1000) {i : Nat} (hi : i < L.length) :
    X G QbR (QoI L O fs last i) = if (decide (L.getD i default ≠ last) && L.all (okQ last (L.getD i default))) = true then some (.x 8, Qp7 L O fs (L.getD i default)) else some (.n, QoI L O fs last ((i + 1 : Nat) : Int)) := by
  have e1 : decide ((i : Int) < (L.length : Int)) = true := lt_t (by omega)
  have e2 : w64 ((i : Int) + 1) = ((i + 1 : Nat) : Int) := by rw [Qac (by omega) (by omega)]; rfl
  have b1 : (0 ≤ (i : Int)) = True := eq_true (by omega)
  have b2 : ((i : Int) < (L.length : Int)) = True := eq_true (by omega)
  have x0 := ldO QaJ (l := L) (j := i) hi
  have g := r3_loop (O := O) (fs := fs) hL hl hn hi L.length 0 (!decide (L.getD i default = last)) (by omega)
  rw [List.drop_zero] at g
  have en : (!decide (L.getD i default = last)) = decide (L.getD i default ≠ last) := by simp
  rw [en] at g
  have q := QnR (L.getD i default) last
  generalize (decide (L.getD i default ≠ last) && L.all (okQ last (L.getD i default))) = t at *
  have q2 : (!((L.getD i default).1 == last.1 && (L.getD i default).2 == last.2)) = decide (L.getD i default ≠ last) := by rw [q, ← en]
  clear q en
  generalize decide (L.getD i default ≠ last) = u at *
  generalize L.getD i default = p at *
  obtain ⟨p1, p2⟩ := p
  obtain ⟨l1, l2⟩ := last
  simp only [cP, iv] at x0
  simp only [Qlt, Qsu, bxP, arE, nc0, go_sem, iv] at g
  dsimp only at q2
  cases t
  · simp -implicitDefEqProofs (maxSteps := 10000000) only [QbR, Qaa, QoI, Qp7, bxP, arE, g, b1, b2, x0, q2, e1, e2, Qay, Int.toNat_natCast, st2p, ld2p, Bool.false_eq_true, if_false, go_sem, iv, bv, reduceCtorEq, ↓reduceIte, Nat.reduceEqDiff]
  · simp -implicitDefEqProofs (maxSteps := 10000000) only [QbR, Qaa, QoI, Qp7, bxP, arE, g, b1, b2, x0, q2, e1, e2, Qay, Int.toNat_natCast, st2p, ld2p, if_true, go_sem, iv, bv, reduceCtorEq, ↓reduceIte, Nat.reduceEqDiff]
theorem r4_stop {L O : List Pt} {fs last : Pt} : X G QbR (QoI L O fs last L.length) = some (.x 8, Qp7 L O fs last) := by
 have e1 : decide ((L.length : Int) < (L.length : Int)) = false := lt_f (by omega)
 simp -implicitDefEqProofs (maxSteps := 10000000) only [QbR, Qaa, QoI, Qp7, bxP, arE, e1, Qay, go_sem, iv, bv, reduceCtorEq, ↓reduceIte, Nat.reduceEqDiff]
theorem r4_loop {L O : List Pt} {fs last : Pt} (hL : ∀ p ∈ L, SmP p) (hl : SmP last) (hn : L.length ≤ 1000) : ∀ (j i : Nat), i + j = L.length →
    X G (.loop QbR) (QoI L O fs last i) = some (.x 8, Qp7 L O fs (((L.drop i).find? fun c => decide (c ≠ last) && L.all (okQ last c)).getD last))
  | 0, i, h => by
    have : i = L.length := by omega
    subst this
    rw [Qah, r4_stop, List.drop_length]; rfl
  | j + 1, i, h => by
    have hi : i < L.length := by omega
    rw [Qah, r4_go hL hl hn hi, find_drop hi]
    by_cases t : (decide (L.getD i default ≠ last) && L.all (okQ last (L.getD i default))) = true
    · rw [if_pos t, if_pos t]; rfl
    · rw [if_neg t, if_neg t, Option.bind_some, if_pos rfl]
      exact r4_loop hL hl hn j (i + 1) (by omega)
set_option maxHeartbeats 1000000 in
theorem r5_go {L O : List Pt} {fs last : Pt} (hL : ∀ p ∈ L, SmP p) (hl : SmP last) (hn : L.length ≤ 900) (h0 : 0 < O.length) (hO : O.length ≤ L.length) (e : O.getD (O.length - 1) default = last) :
    X G Qcx (QrU L O fs) = if nxR L last = fs then some (.r, r5_en O) else some (.n, QrU L (O ++ [nxR L last]) fs) := by
  have e0 : decide ((O.length : Int) ≤ (L.length : Int)) = true := decide_eq_true (by omega)
  have e1 : w64 ((O.length : Int) - 1) = ((O.length - 1 : Nat) : Int) := by rw [Qac (by omega) (by omega)]; omega
  have b1 : (0 ≤ ((O.length - 1 : Nat) : Int)) = True := eq_true (by omega)
  have b2 : (((O.length - 1 : Nat) : Int) < (O.length : Int)) = True := eq_true (by omega)
  have x1 := ldO QaJ (l := O) (j := O.length - 1) (by omega)
  rw [e] at x1
  have g := r4_loop (O := O) (fs := fs) hL hl (by omega) L.length 0 (by omega)
  rw [List.drop_zero] at g
  have en : ((L.find? fun c => decide (c ≠ last) && L.all (okQ last c)).getD last) = nxR L last := rfl
  rw [en] at g
  generalize nxR L last = z at *
  have q := QnR z fs
  have n3 := lenE QaJ O
  have n4 : ((O.length + 1) * 16 ≤ bound) = True := eq_true (by unfold bound; omega)
  have n5 : (O ++ [z]).length = O.length + 1 := by simp
  have n6 := Qlh O z.1 z.2
  obtain ⟨z1, z2⟩ := z
  obtain ⟨f1, f2⟩ := fs
  obtain ⟨t1, t2⟩ := last
  dsimp only at q n6
  simp only [cP, iv] at x1
  simp only [QoI, Qp7, bxP, arE, nc0, Qaa, go_sem, iv] at g
  by_cases hz : (z1, z2) = (f1, f2)
  · have t : decide ((z1, z2) = (f1, f2)) = true := decide_eq_true hz
    rw [t] at q
    rw [if_pos hz]
    simp -implicitDefEqProofs (maxSteps := 10000000) only [Qcx, QrU, r5_en, bxP, arE, g, e0, e1, b1, b2, x1, q, nc0, Qay, Int.toNat_natCast, Qaa, Qf5, st2p, ld2p, go_sem, iv, bv, reduceCtorEq, ↓reduceIte, Nat.reduceEqDiff]
  · have t : decide ((z1, z2) = (f1, f2)) = false := decide_eq_false hz
    rw [t] at q
    rw [if_neg hz]
    simp -implicitDefEqProofs (maxSteps := 10000000) only [Qcx, QrU, r5_en, bxP, arE, g, e0, e1, b1, b2, x1, q, nc0, n3, n4, n5, n6, Qhp, oneI, srcS, src, allD, List.all_cons, List.all_nil, List.nil_append, List.cons_append, List.length_nil, List.length_cons, Nat.zero_add, List.map_cons, List.map_nil, Qay, Int.toNat_natCast, Qaa, Qf5, st2p, ld2p, go_sem, iv, bv, reduceCtorEq, ↓reduceIte, Nat.reduceEqDiff]
theorem r5_loop {L : List Pt} {fs : Pt} (hL : ∀ p ∈ L, SmP p) (hn : L.length ≤ 900) {x : List Pt} (hx : x.length ≤ L.length) : ∀ (f : Nat) (O : List Pt) (last : Pt), 0 < O.length → SmP last → O.getD (O.length - 1) default = last →
    hulR L fs f O last = some x → X G (.loop Qcx) (QrU L O fs) = some (.r, r5_en x)
  | 0, O, last, _, _, _, h => by cases h
  | f + 1, O, last, h0, hl, e, h => by
    have hO := hulR_le _ _ _ h
    rw [Qah, r5_go hL hl hn h0 (by omega) e]
    rw [hulR] at h
    by_cases hz : nxR L last = fs
    · rw [if_pos hz] at h ⊢
      cases h
      rfl
    · rw [if_neg hz] at h ⊢
      rw [Option.bind_some, if_pos rfl]
      exact r5_loop hL hn hx f (O ++ [nxR L last]) (nxR L last) (by simp) (find_sm hL hl) (by simp) h
theorem rSum_spec {da db : D} {a b x : List Pt} (hra : RwE cP da a) (hrb : RwE cP db b) (ha : ∀ p ∈ a, -40000000 ≤ p.1 ∧ p.1 ≤ 40000000 ∧ -40000000 ≤ p.2 ∧ p.2 ≤ 40000000) (hb : ∀ p ∈ b, -40000000 ≤ p.1 ∧ p.1 ≤ 40000000 ∧ -40000000 ≤ p.2 ∧ p.2 ≤ 40000000) (na : a.length ≤ 8) (nb : b.length ≤ 8) (h0 : 0 < a.length) (h1 : 0 < b.length)
    (h : hulR (suA a b) (mnF (suA a b) ((suA a b).length - 1)) 17 [mnF (suA a b) ((suA a b).length - 1)] (mnF (suA a b) ((suA a b).length - 1)) = some x) (hx : x.length ≤ (suA a b).length) :
    Qaj G Qeq [da, db] = some (.own 2 x.length (x.flatMap cP)) := by
  rw [Qae (cf := gantryref12_Sum) rfl]
  have hS := suA_sm ha hb
  have hl : (suA a b).length ≤ 64 ∧ 0 < (suA a b).length := by
    rw [QmZ]
    exact ⟨Nat.le_trans (Nat.mul_le_mul na nb) (by omega), Nat.mul_pos h0 h1⟩
  have sm : ∀ {l : List Pt}, (∀ p ∈ l, -40000000 ≤ p.1 ∧ p.1 ≤ 40000000 ∧ -40000000 ≤ p.2 ∧ p.2 ≤ 40000000) → ∀ p ∈ l, SmP p := fun h p hp => by have := h p hp; simp only [SmP, Sm]; omega
  have g0 := r1_loop hra hrb (sm ha) (sm hb) (by omega) (by omega) a.length 0 [] (by omega) (by simp; omega)
  rw [List.drop_zero, List.nil_append] at g0
  have hne : suA a b ≠ [] := fun e => by rw [e] at hl; simp at hl
  have hf : SmP (mnF (suA a b) ((suA a b).length - 1)) := QnJ (P := SmP) (fun i => Qbg hS smP0 i) _
  have em : mnR (suA a b) (suA a b).length = mnF (suA a b) ((suA a b).length - 1) := by
    have := mnR_F (suA a b) ((suA a b).length - 1)
    rwa [Nat.sub_add_cancel hl.2] at this
  generalize suA a b = L at *
  have g1 := r2_loop (L := L) (by omega) L.length 0 (by omega)
  rw [em] at g1
  have ez : mnR L 0 = L.getD 0 default := rfl
  rw [ez] at g1
  have x1 := ldO QaJ (l := L) (j := 0) hl.2
  have b1 : ((0 : Int) ≤ 0) = True := eq_true (by omega)
  have b2 : ((0 : Int) < (L.length : Int)) = True := eq_true (by omega)
  clear em ez
  generalize mnF L (L.length - 1) = fs at *
  generalize L.getD 0 default = p0 at *
  have g2 := r5_loop hS (by omega) hx 17 [fs] fs (by simp) hf rfl h
  obtain ⟨f1, f2⟩ := fs
  obtain ⟨q1, q2⟩ := p0
  simp only [Qgh, r1_en, Qbd, Qbc, Qbt hne, Qbu hne, arE, Qaa, nc0, go_sem, iv] at g0
  simp only [QlY, r2_en, bxP, arE, nc0, go_sem, iv] at g1
  have n6 := Qoq f1 f2
  simp only [QrU, r5_en, bxP, arE, n6, List.length_singleton, List.map_cons, List.map_nil, Qaa, Qj1, go_sem, iv] at g2
  simp only [cP, iv, Nat.zero_mul] at x1
  simp -implicitDefEqProofs (maxSteps := 10000000) only [gantryref12_Sum, g0, g1, g2, x1, b1, b2, nc0, Int.toNat_zero, Nat.zero_mul, bxP, arE, Qhi, Qay, Qhp, QcG, Qbl, oneI, srcS, src, allD, List.map_cons, List.map_nil, List.length_cons, List.length_nil, Nat.zero_add, Int.toNat_natCast, Qaa, Qj1, Qf5, st2p, ld2p, go_sem, iv, bv, reduceCtorEq, ↓reduceIte, Nat.reduceEqDiff]
end Go.AM

