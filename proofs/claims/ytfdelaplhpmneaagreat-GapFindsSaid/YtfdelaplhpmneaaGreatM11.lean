/- Part 11 of the proof: a small machine, its soundness against the model, and what the program's functions compute on it. -/
import Derived.Test.YtfdelaplhpmneaaGreatM10
import Derived.KernelRfl
import Derived.Test.YtfdelaplhpmneaaGreatRows
import Derived.Test.YtfdelaplhpmneaaGreatM5
import Derived.WalkKit
import Derived.ProofKit
import Derived.OpenShut
import Derived.ShutString
import Derived.ChangeOld
import Derived.Below
import Derived.SizedLaws
set_option linter.unusedVariables false
set_option linter.unusedSimpArgs false
/- ref12.Sum, second part. -/
namespace Go.AM
open Go Go.RowKit
theorem sq_b {u : Int} (h : -200000000 ≤ u ∧ u ≤ 200000000) : 0 ≤ u * u ∧ u * u ≤ 40000000000000000 := by
 have h0 : 0 ≤ u * u := by
  rcases Int.le_total 0 u with h | h
  ·exact Int.mul_nonneg h h
  ·exact Int.mul_nonneg_of_nonpos_of_nonpos h h
 have h1 : (u * u).natAbs ≤ 200000000 * 200000000 := by
  rw [Int.natAbs_mul]
  exact Nat.mul_le_mul (by omega) (by omega)
 omega
theorem find_drop {q : Pt → Bool} {L : List Pt} {i : Nat} (h : i < L.length) : (L.drop i).find? q = if q (L.getD i default) = true then some (L.getD i default) else (L.drop (i + 1)).find? q := by
 rw [Qen h, List.find?_cons]
 cases q (L.getD i default) <;> rfl
theorem find_sm {q : Pt → Bool} {L : List Pt} (hL : ∀ p ∈ L, SmP p) {l : Pt} (hl : SmP l) : SmP ((L.find? q).getD l) := by
 cases h : L.find? q with
 | none => exact hl
 | some x => exact hL x (List.mem_of_find?_eq_some h)
variable [Its]
set_option maxHeartbeats 2000000 in
theorem r3_go {L O : List Pt} {fs last : Pt} (hL : ∀ p ∈ L, SmP p) (hl : SmP last) (hn : L.length ≤ 1000) {i k : Nat} (hi : i < L.length) (hk : k < L.length) :
    X G QaW (Ql7 L O fs last i true k) = some (.n, Ql7 L O fs last i (okQ last (L.getD i default) (L.getD k default)) ((k + 1 : Nat) : Int)) := by
  have e1 : decide ((k : Int) < (L.length : Int)) = true := lt_t (by omega)
  have e2 : w64 ((k : Int) + 1) = ((k + 1 : Nat) : Int) := by rw [Qad (by omega) (by omega)]; rfl
  have b1 : (0 ≤ (i : Int)) = True := eq_true (by omega)
  have b2 : ((i : Int) < (L.length : Int)) = True := eq_true (by omega)
  have b3 : (0 ≤ (k : Int)) = True := eq_true (by omega)
  have b4 : ((k : Int) < (L.length : Int)) = True := eq_true (by omega)
  have x0 := ldO Qb2 (l := L) (j := i) hi
  have x1 := ldO0 hi
  have x2 := ldO1 hi
  have y0 := ldO Qb2 (l := L) (j := k) hk
  have y1 := ldO0 hk
  have y2 := ldO1 hk
  have hp := Qd5 hL smP0 i
  have hq := Qd5 hL smP0 k
  generalize L.getD i default = p at *
  generalize L.getD k default = q at *
  have g := Left_spec hl hp hq
  unfold okQ
  generalize crI last p q = c at *
  unfold faI
  obtain ⟨p1, p2⟩ := p
  obtain ⟨q1, q2⟩ := q
  obtain ⟨l1, l2⟩ := last
  obtain ⟨h1, h2⟩ := hp
  obtain ⟨h3, h4⟩ := hq
  obtain ⟨h5, h6⟩ := hl
  simp only [Sm] at h1 h2 h3 h4 h5 h6
  simp only [encP, cP, iv] at g x0 x1 x2 y0 y1 y2
  dsimp only
  obtain ⟨dx, f1⟩ : ∃ z, q1 - l1 = z := ⟨_, rfl⟩
  obtain ⟨dy, f2⟩ : ∃ z, q2 - l2 = z := ⟨_, rfl⟩
  obtain ⟨ex, f3⟩ : ∃ z, p1 - l1 = z := ⟨_, rfl⟩
  obtain ⟨ey, f4⟩ : ∃ z, p2 - l2 = z := ⟨_, rfl⟩
  have w1 : w64 (q1 - l1) = dx := by rw [Qad (by omega) (by omega), f1]
  have w2 : w64 (q2 - l2) = dy := by rw [Qad (by omega) (by omega), f2]
  have w3 : w64 (p1 - l1) = ex := by rw [Qad (by omega) (by omega), f3]
  have w4 : w64 (p2 - l2) = ey := by rw [Qad (by omega) (by omega), f4]
  have s1 := sq_b (u := dx) (by omega)
  have s2 := sq_b (u := dy) (by omega)
  have s3 := sq_b (u := ex) (by omega)
  have s4 := sq_b (u := ey) (by omega)
  rw [f1, f2, f3, f4]
  clear f1 f2 f3 f4 h1 h2 h3 h4 h5 h6
  obtain ⟨m1, v1⟩ : ∃ z, dx * dx = z := ⟨_, rfl⟩
  obtain ⟨m2, v2⟩ : ∃ z, dy * dy = z := ⟨_, rfl⟩
  obtain ⟨m3, v3⟩ : ∃ z, ex * ex = z := ⟨_, rfl⟩
  obtain ⟨m4, v4⟩ : ∃ z, ey * ey = z := ⟨_, rfl⟩
  rw [v1] at s1 ⊢
  rw [v2] at s2 ⊢
  rw [v3] at s3 ⊢
  rw [v4] at s4 ⊢
  have w5 : w64 (dx * dx) = m1 := by rw [v1, Qad (by omega) (by omega)]
  have w6 : w64 (dy * dy) = m2 := by rw [v2, Qad (by omega) (by omega)]
  have w7 : w64 (ex * ex) = m3 := by rw [v3, Qad (by omega) (by omega)]
  have w8 : w64 (ey * ey) = m4 := by rw [v4, Qad (by omega) (by omega)]
  clear v1 v2 v3 v4
  obtain ⟨n1, v1⟩ : ∃ z, m1 + m2 = z := ⟨_, rfl⟩
  obtain ⟨n2, v2⟩ : ∃ z, m3 + m4 = z := ⟨_, rfl⟩
  have w9 : w64 (m1 + m2) = n1 := by rw [Qad (by omega) (by omega), v1]
  have w10 : w64 (m3 + m4) = n2 := by rw [Qad (by omega) (by omega), v2]
  rw [v1, v2]
  by_cases hc : 0 < c
  · have t1 : decide (c > 0) = true := gt_t hc
    have t2 : decide (0 < c) = true := lt_t hc
    simp -implicitDefEqProofs (maxSteps:=9^8) only [QaW, Qaa, Nat.add_zero, Ql7, bxP, arE, b1, b2, b3, b4, x0, x1, x2, y0, y1, y2, g, t1, t2, w1, w2, w3, w4, e1, e2, Qph, decide_false, decide_true, QaP, Int.toNat_natCast, st2p, ld2p, QjX, Qj3, Bool.true_or, go_sem, iv, bv, reduceCtorEq, ↓reduceIte, Nat.reduceEqDiff]
  · have t1 : decide (c > 0) = false := gt_f (by omega)
    have t2 : decide (0 < c) = false := lt_f (by omega)
    by_cases hz : c = 0
    · have t3 : (c == 0) = true := beq_iff_eq.2 hz
      have t4 : decide (c = 0) = true := decide_eq_true hz
      simp -implicitDefEqProofs (maxSteps:=9^8) only [QaW, Qaa, Nat.add_zero, Ql7, bxP, arE, b1, b2, b3, b4, x0, x1, x2, y0, y1, y2, g, t1, t2, t3, t4, w1, w2, w3, w4, w5, w6, w7, w8, w9, w10, e1, e2, Qph, decide_false, decide_true, QaP, Int.toNat_natCast, st2p, ld2p, QjX, Qj3, Bool.true_and, Bool.false_or, go_sem, iv, bv, reduceCtorEq, ↓reduceIte, Nat.reduceEqDiff]
    · have t3 : (c == 0) = false := beq_eq_false_iff_ne.2 hz
      have t4 : decide (c = 0) = false := decide_eq_false hz
      simp -implicitDefEqProofs (maxSteps:=9^8) only [QaW, Qaa, Nat.add_zero, Ql7, bxP, arE, b1, b2, b3, b4, x0, x1, x2, y0, y1, y2, g, t1, t2, t3, t4, w1, w2, w3, w4, e1, e2, Qph, decide_false, decide_true, QaP, Int.toNat_natCast, st2p, ld2p, QjX, Qj3, Bool.false_and, Bool.false_or, Bool.or_self, go_sem, iv, bv, reduceCtorEq, ↓reduceIte, Nat.reduceEqDiff]
theorem r3_no {L O : List Pt} {fs last : Pt} {i : Int} {k : Nat} (hk : k < L.length) : X G QaW (Ql7 L O fs last i false k) = some (.x 10, QtJ L O fs last i false) := by
 have e1 : decide ((k : Int) < (L.length : Int)) = true := lt_t (by omega)
 simp -implicitDefEqProofs (maxSteps:=9^8) only [QaW, Qaa, Ql7, QtJ, bxP, arE, e1, QaP, go_sem, iv, bv, decide_true, reduceCtorEq, ↓reduceIte, Nat.reduceEqDiff]
theorem r3_stop {L O : List Pt} {fs last : Pt} {i : Int} {b : Bool} : X G QaW (Ql7 L O fs last i b L.length) = some (.x 10, QtJ L O fs last i b) := by
 have e1 : decide ((L.length : Int) < (L.length : Int)) = false := lt_f (by omega)
 cases b <;> simp -implicitDefEqProofs (maxSteps:=9^8) only [QaW, Qaa, Ql7, QtJ, bxP, arE, e1, Qph, decide_false, QaP, go_sem, iv, bv, reduceCtorEq, ↓reduceIte, Nat.reduceEqDiff]
theorem r3_loop {L O : List Pt} {fs last : Pt} (hL : ∀ p ∈ L, SmP p) (hl : SmP last) (hn : L.length ≤ 1000) {i : Nat} (hi : i < L.length) : ∀ (j k : Nat) (b : Bool), k + j = L.length →
    X G (.loop QaW) (Ql7 L O fs last i b k) = some (.x 10, QtJ L O fs last i (b && (L.drop k).all (okQ last (L.getD i default))))
  | 0, k, b, h => by
    have : k = L.length := by omega
    subst this
    rw [Qag, r3_stop, List.drop_length, List.all_nil, Bool.and_true]; rfl
  | j + 1, k, false, h => by
    rw [Qag, r3_no (by omega), Bool.false_and]; rfl
  | j + 1, k, true, h => by
    rw [Qag, r3_go hL hl hn hi (by omega), Option.bind_some, if_pos rfl, r3_loop hL hl hn hi j (k + 1) _ (by omega), Qen (show k < L.length by omega), List.all_cons, Bool.true_and]
set_option maxHeartbeats 2000000 in
theorem r4_go {L O : List Pt} {fs last : Pt} (hL : ∀ p ∈ L, SmP p) (hl : SmP last) (hn : L.length ≤ 1000) {i : Nat} (hi : i < L.length) :
    X G QbW (QpH L O fs last i) = if (decide (L.getD i default ≠ last) && L.all (okQ last (L.getD i default))) = true then some (.x 8, QqY L O fs (L.getD i default)) else some (.n, QpH L O fs last ((i + 1 : Nat) : Int)) := by
  have e1 : decide ((i : Int) < (L.length : Int)) = true := lt_t (by omega)
  have e2 : w64 ((i : Int) + 1) = ((i + 1 : Nat) : Int) := by rw [Qad (by omega) (by omega)]; rfl
  have b1 : (0 ≤ (i : Int)) = True := eq_true (by omega)
  have b2 : ((i : Int) < (L.length : Int)) = True := eq_true (by omega)
  have x0 := ldO Qb2 (l := L) (j := i) hi
  have g := r3_loop (O := O) (fs := fs) hL hl hn hi L.length 0 (!decide (L.getD i default = last)) (by omega)
  rw [List.drop_zero] at g
  have en : (!decide (L.getD i default = last)) = decide (L.getD i default ≠ last) := by simp
  rw [en] at g
  have q := eqP_iff (L.getD i default) last
  generalize (decide (L.getD i default ≠ last) && L.all (okQ last (L.getD i default))) = t at *
  have q2 : (!((L.getD i default).1 == last.1 && (L.getD i default).2 == last.2)) = decide (L.getD i default ≠ last) := by rw [q, ← en]
  clear q en
  generalize decide (L.getD i default ≠ last) = u at *
  generalize L.getD i default = p at *
  obtain ⟨p1, p2⟩ := p
  obtain ⟨l1, l2⟩ := last
  simp only [cP, iv] at x0
  simp only [Ql7, QtJ, bxP, arE, nc0, go_sem, iv] at g
  dsimp only at q2
  cases t
  · simp -implicitDefEqProofs (maxSteps:=9^8) only [QbW, Qaa, QpH, QqY, bxP, arE, g, b1, b2, x0, q2, e1, e2, QaP, Int.toNat_natCast, st2p, ld2p, Bool.false_eq_true, if_false, go_sem, iv, bv, reduceCtorEq, ↓reduceIte, Nat.reduceEqDiff]
  · simp -implicitDefEqProofs (maxSteps:=9^8) only [QbW, Qaa, QpH, QqY, bxP, arE, g, b1, b2, x0, q2, e1, e2, QaP, Int.toNat_natCast, st2p, ld2p, if_true, go_sem, iv, bv, reduceCtorEq, ↓reduceIte, Nat.reduceEqDiff]
theorem r4_stop {L O : List Pt} {fs last : Pt} : X G QbW (QpH L O fs last L.length) = some (.x 8, QqY L O fs last) := by
 have e1 : decide ((L.length : Int) < (L.length : Int)) = false := lt_f (by omega)
 simp -implicitDefEqProofs (maxSteps:=9^8) only [QbW, Qaa, QpH, QqY, bxP, arE, e1, QaP, go_sem, iv, bv, reduceCtorEq, ↓reduceIte, Nat.reduceEqDiff]
theorem r4_loop {L O : List Pt} {fs last : Pt} (hL : ∀ p ∈ L, SmP p) (hl : SmP last) (hn : L.length ≤ 1000) : ∀ (j i : Nat), i + j = L.length →
    X G (.loop QbW) (QpH L O fs last i) = some (.x 8, QqY L O fs (((L.drop i).find? fun c => decide (c ≠ last) && L.all (okQ last c)).getD last))
  | 0, i, h => by
    have : i = L.length := by omega
    subst this
    rw [Qag, r4_stop, List.drop_length]; rfl
  | j + 1, i, h => by
    have hi : i < L.length := by omega
    rw [Qag, r4_go hL hl hn hi, find_drop hi]
    by_cases t : (decide (L.getD i default ≠ last) && L.all (okQ last (L.getD i default))) = true
    · rw [if_pos t, if_pos t]; rfl
    · rw [if_neg t, if_neg t, Option.bind_some, if_pos rfl]
      exact r4_loop hL hl hn j (i + 1) (by omega)
set_option maxHeartbeats 1000000 in
theorem r5_go {L O : List Pt} {fs last : Pt} (hL : ∀ p ∈ L, SmP p) (hl : SmP last) (hn : L.length ≤ 900) (h0 : 0 < O.length) (hO : O.length ≤ L.length) (e : O.getD (O.length - 1) default = last) :
    X G QcU (QtH L O fs) = if nxR L last = fs then some (.r, r5_en O) else some (.n, QtH L (O ++ [nxR L last]) fs) := by
  have e0 : decide ((O.length : Int) ≤ (L.length : Int)) = true := decide_eq_true (by omega)
  have e1 : w64 ((O.length : Int) - 1) = ((O.length - 1 : Nat) : Int) := by rw [Qad (by omega) (by omega)]; omega
  have b1 : (0 ≤ ((O.length - 1 : Nat) : Int)) = True := eq_true (by omega)
  have b2 : (((O.length - 1 : Nat) : Int) < (O.length : Int)) = True := eq_true (by omega)
  have x1 := ldO Qb2 (l := O) (j := O.length - 1) (by omega)
  rw [e] at x1
  have g := r4_loop (O := O) (fs := fs) hL hl (by omega) L.length 0 (by omega)
  rw [List.drop_zero] at g
  have en : ((L.find? fun c => decide (c ≠ last) && L.all (okQ last c)).getD last) = nxR L last := rfl
  rw [en] at g
  generalize nxR L last = z at *
  have q := eqP_iff z fs
  have n3 := lenE Qb2 O
  have n4 : ((O.length + 1) * 16 ≤ bound) = True := eq_true (by unfold bound; omega)
  have n5 : (O ++ [z]).length = O.length + 1 := by simp
  have n6 := Qrx O z.1 z.2
  obtain ⟨z1, z2⟩ := z
  obtain ⟨f1, f2⟩ := fs
  obtain ⟨t1, t2⟩ := last
  dsimp only at q n6
  simp only [cP, iv] at x1
  simp only [QpH, QqY, bxP, arE, nc0, Qaa, go_sem, iv] at g
  by_cases hz : (z1, z2) = (f1, f2)
  · have t : decide ((z1, z2) = (f1, f2)) = true := decide_eq_true hz
    rw [t] at q
    rw [if_pos hz]
    simp -implicitDefEqProofs (maxSteps:=9^8) only [QcU, QtH, r5_en, bxP, arE, g, e0, e1, b1, b2, x1, q, nc0, QaP, Int.toNat_natCast, Qaa, Qh3, st2p, ld2p, go_sem, iv, bv, reduceCtorEq, ↓reduceIte, Nat.reduceEqDiff]
  · have t : decide ((z1, z2) = (f1, f2)) = false := decide_eq_false hz
    rw [t] at q
    rw [if_neg hz]
    simp -implicitDefEqProofs (maxSteps:=9^8) only [QcU, QtH, r5_en, bxP, arE, g, e0, e1, b1, b2, x1, q, nc0, n3, n4, n5, n6, Qm7, oneI, srcS, src, allD, List.all_cons, List.all_nil, List.nil_append, List.cons_append, List.length_nil, List.length_cons, Nat.zero_add, List.map_cons, List.map_nil, QaP, Int.toNat_natCast, Qaa, Qh3, st2p, ld2p, go_sem, iv, bv, reduceCtorEq, ↓reduceIte, Nat.reduceEqDiff]
theorem r5_loop {L : List Pt} {fs : Pt} (hL : ∀ p ∈ L, SmP p) (hn : L.length ≤ 900) {x : List Pt} (hx : x.length ≤ L.length) : ∀ (f : Nat) (O : List Pt) (last : Pt), 0 < O.length → SmP last → O.getD (O.length - 1) default = last →
    hulR L fs f O last = some x → X G (.loop QcU) (QtH L O fs) = some (.r, r5_en x)
  | 0, O, last, _, _, _, h => by cases h
  | f + 1, O, last, h0, hl, e, h => by
    have hO := hulR_le _ _ _ h
    rw [Qag, r5_go hL hl hn h0 (by omega) e]
    rw [hulR] at h
    by_cases hz : nxR L last = fs
    · rw [if_pos hz] at h ⊢
      cases h
      rfl
    · rw [if_neg hz] at h ⊢
      rw [Option.bind_some, if_pos rfl]
      exact r5_loop hL hn hx f (O ++ [nxR L last]) (nxR L last) (by simp) (find_sm hL hl) (by simp) h
theorem rSum_spec {da db : D} {a b x : List Pt} (hra : RwE cP da a) (hrb : RwE cP db b) (ha : ∀ p ∈ a, -40000000 ≤ p.1 ∧ p.1 ≤ 40000000 ∧ -40000000 ≤ p.2 ∧ p.2 ≤ 40000000) (hb : ∀ p ∈ b, -40000000 ≤ p.1 ∧ p.1 ≤ 40000000 ∧ -40000000 ≤ p.2 ∧ p.2 ≤ 40000000) (na : a.length ≤ 8) (nb : b.length ≤ 8) (h0 : 0 < a.length) (h1 : 0 < b.length)
    (h : hulR (suA a b) (mnF (suA a b) ((suA a b).length - 1)) 17 [mnF (suA a b) ((suA a b).length - 1)] (mnF (suA a b) ((suA a b).length - 1)) = some x) (hx : x.length ≤ (suA a b).length) :
    Qah G QfC [da, db] = some (.own 2 x.length (x.flatMap cP)) := by
  rw [Qac (cf := QgF) rfl]
  have hS := suA_sm ha hb
  have hl : (suA a b).length ≤ 64 ∧ 0 < (suA a b).length := by
    rw [suA_len]
    exact ⟨Nat.le_trans (Nat.mul_le_mul na nb) (by omega), Nat.mul_pos h0 h1⟩
  have sm : ∀ {l : List Pt}, (∀ p ∈ l, -40000000 ≤ p.1 ∧ p.1 ≤ 40000000 ∧ -40000000 ≤ p.2 ∧ p.2 ≤ 40000000) → ∀ p ∈ l, SmP p := fun h p hp => by have := h p hp; simp only [SmP, Sm]; omega
  have g0 := r1_loop hra hrb (sm ha) (sm hb) (by omega) (by omega) a.length 0 [] (by omega) (by simp; omega)
  rw [List.drop_zero, List.nil_append] at g0
  have hne : suA a b ≠ [] := fun e => by rw [e] at hl; simp at hl
  have hf : SmP (mnF (suA a b) ((suA a b).length - 1)) := QqA (P := SmP) (fun i => Qd5 hS smP0 i) _
  have em : mnR (suA a b) (suA a b).length = mnF (suA a b) ((suA a b).length - 1) := by
    have := mnR_F (suA a b) ((suA a b).length - 1)
    rwa [Nat.sub_add_cancel hl.2] at this
  generalize suA a b = L at *
  have g1 := r2_loop (L := L) (by omega) L.length 0 (by omega)
  rw [em] at g1
  have ez : mnR L 0 = L.getD 0 default := rfl
  rw [ez] at g1
  have x1 := ldO Qb2 (l := L) (j := 0) hl.2
  have b1 : ((0 : Int) ≤ 0) = True := eq_true (by omega)
  have b2 : ((0 : Int) < (L.length : Int)) = True := eq_true (by omega)
  clear em ez
  generalize mnF L (L.length - 1) = fs at *
  generalize L.getD 0 default = p0 at *
  have g2 := r5_loop hS (by omega) hx 17 [fs] fs (by simp) hf rfl h
  obtain ⟨f1, f2⟩ := fs
  obtain ⟨q1, q2⟩ := p0
  simp only [Qig, r1_en, Qcs, Qct, QcG hne, QcH hne, arE, Qaa, nc0, go_sem, iv] at g0
  simp only [Qm2, r2_en, bxP, arE, nc0, go_sem, iv] at g1
  have n6 := flat1P f1 f2
  simp only [QtH, r5_en, bxP, arE, n6, List.length_singleton, List.map_cons, List.map_nil, Qaa, Qk6, go_sem, iv] at g2
  simp only [cP, iv, Nat.zero_mul] at x1
  simp -implicitDefEqProofs (maxSteps:=9^8) only [QgF, g0, g1, g2, x1, b1, b2, nc0, Int.toNat_zero, Nat.zero_mul, bxP, arE, Qse, QaP, Qm7, Qdb, QbF, oneI, srcS, src, allD, List.map_cons, List.map_nil, List.length_cons, List.length_nil, Nat.zero_add, Int.toNat_natCast, Qaa, Qk6, Qh3, st2p, ld2p, go_sem, iv, bv, reduceCtorEq, ↓reduceIte, Nat.reduceEqDiff]
end Go.AM

/- The hulls of both over natural numbers: quick for the kernel. -/
namespace Go.AM
open Go Go.RowKit
abbrev Nt := Nat × Nat
def ofN (p : Nt) : Pt := ((p.1 : Int), (p.2 : Int))
def toN (p : Pt) : Nt := ((p.1 + 100).toNat, (p.2 + 100).toNat)
def cpN (a b c : Nt) : Nat := Nat.add (Nat.add (Nat.mul b.1 c.2) (Nat.mul b.2 a.1)) (Nat.mul a.2 c.1)
def cmN (a b c : Nt) : Nat := Nat.add (Nat.add (Nat.mul b.1 a.2) (Nat.mul a.1 c.2)) (Nat.mul b.2 c.1)
def dfN (x y : Nat) : Nat := Nat.add (Nat.sub x y) (Nat.sub y x)
def faN (p q : Nt) : Nat := Nat.add (Nat.mul (dfN p.1 q.1) (dfN p.1 q.1)) (Nat.mul (dfN p.2 q.2) (dfN p.2 q.2))
def eqN (p q : Nt) : Bool := and (Nat.beq p.1 q.1) (Nat.beq p.2 q.2)
noncomputable def iteB {α : Type} (b : Bool) (x y : α) : α := Bool.rec y x b
noncomputable def frcN {α : Type} (n : Nat) (f : Nat → α) : α := Nat.rec (f 0) (fun k _ => f (Nat.succ k)) n
noncomputable def frcT {α : Type} (p : Nt) (f : Nt → α) : α := frcN p.1 fun x => frcN p.2 fun y => f (x, y)
noncomputable def frcM {α : Type} (l : List Nt) (f : List Nt → α) : α := List.rec (motive := fun _ => (List Nt → α) → α) (fun f => f []) (fun p _ ih f => frcT p fun p => ih fun l => f (p :: l)) l f
noncomputable def bsN (last best p : Nt) : Nt := iteB (eqN best last) p (iteB (Nat.ble (cmN last best p) (cpN last best p)) (iteB (and (Nat.beq (cmN last best p) (cpN last best p)) (Nat.ble (Nat.succ (faN last best)) (faN last p))) p best) p)
noncomputable def nxN (all : List Nt) (last : Nt) : Nt := all.foldl (bsN last) last
noncomputable def hulCN (all : List Nt) (first : Nt) : Nat → List Nt → Nt → Option (List Nt)
 | 0, _, _ => none
 | f + 1, out, last => frcT (nxN all last) fun z => iteB (eqN z first) (some out) (hulCN all first f (out ++ [z]) z)
def okN (last c p : Nt) : Bool := or (Nat.ble (Nat.succ (cmN last c p)) (cpN last c p)) (and (Nat.beq (cmN last c p) (cpN last c p)) (Nat.ble (faN p last) (faN c last)))
noncomputable def allN (last c : Nt) (l : List Nt) : Bool := List.rec (motive := fun _ => Bool) true (fun p _ ih => iteB (okN last c p) ih false) l
noncomputable def fndN (all : List Nt) (last : Nt) (l : List Nt) : Nt := List.rec (motive := fun _ => Nt) last (fun c _ ih => iteB (eqN c last) ih (iteB (allN last c all) c ih)) l
noncomputable def hulRN (all : List Nt) (first : Nt) : Nat → List Nt → Nt → Option (List Nt)
 | 0, _, _ => none
 | f + 1, out, last => frcT (fndN all last all) fun z => iteB (eqN z first) (some out) (hulRN all first f (out ++ [z]) z)
def ltN (p q : Nt) : Bool := or (Nat.ble (Nat.succ p.2) q.2) (and (Nat.beq p.2 q.2) (Nat.ble (Nat.succ p.1) q.1))
noncomputable def mnN (l : List Nt) (p : Nt) : Nt := l.foldl (fun p q => iteB (ltN q p) q p) p
def bkN (n : Nt) : Pt := ((n.1 : Int) - 100, (n.2 : Int) - 100)
noncomputable def hulB (a b : List Pt) : Bool :=
 frcM ((suA a b).map toN) fun all => frcT (mnN all (all.headD (0, 0))) fun first =>
 match hulCN all first 17 [first] first, hulRN all first 17 [first] first with
 | some x, some y => decide (x = y) && Nat.ble 3 x.length && Nat.ble x.length 10 && Nat.ble x.length all.length && edgB a b (x.map bkN) && ((suA a b).all fun p => decide (-100 ≤ p.1) && decide (-100 ≤ p.2)) && !((suA a b).isEmpty)
 | _, _ => false
noncomputable def hulA (c e : Int) : Bool := (bas c).all fun a => (bas e).all fun b => hulB a b
theorem frcN_eq {α : Type} (n : Nat) (f : Nat → α) : frcN n f = f n := by cases n <;> rfl
theorem Qow {α : Type} (p : Nt) (f : Nt → α) : frcT p f = f p := by unfold frcT; rw [frcN_eq, frcN_eq]
theorem frcM_eq {α : Type} : ∀ (l : List Nt) (f : List Nt → α), frcM l f = f l
 | [], f => rfl
 | p :: l, f => by
  show (frcT p fun p => frcM l fun l => f (p :: l)) = _
  rw [Qow, frcM_eq l]
theorem Qib {α : Type} (b : Bool) (x y : α) : iteB b x y = if b = true then x else y := by cases b <;> rfl
theorem ofN_inj (p q : Nt) : ofN p = ofN q ↔ p = q := by
 obtain ⟨a, b⟩ := p
 obtain ⟨c, d⟩ := q
 unfold ofN
 simp only [Prod.mk.injEq]
 omega
theorem nbeq (a b : Nat) : Nat.beq a b = true ↔ a = b := ⟨Nat.eq_of_beq_eq_true, fun h => h ▸ Nat.beq_refl _⟩
theorem Qn6 (p q : Nt) : eqN p q = decide (ofN p = ofN q) := by
 obtain ⟨a, b⟩ := p
 obtain ⟨c, d⟩ := q
 rw [Bool.eq_iff_iff, decide_eq_true_iff, ofN_inj]
 unfold eqN
 show (Nat.beq a c && Nat.beq b d) = true ↔ _
 rw [Bool.and_eq_true, nbeq, nbeq, Prod.mk.injEq]
theorem cr_N (a b c : Nt) : crI (ofN a) (ofN b) (ofN c) = (cpN a b c : Int) - (cmN a b c : Int) := by
 unfold crI ofN
 have e1 : cpN a b c = b.1 * c.2 + b.2 * a.1 + a.2 * c.1 := rfl
 have e2 : cmN a b c = b.1 * a.2 + a.1 * c.2 + b.2 * c.1 := rfl
 rw [e1, e2]
 push_cast
 generalize (a.1 : Int) = a1
 generalize (a.2 : Int) = a2
 generalize (b.1 : Int) = b1
 generalize (b.2 : Int) = b2
 generalize (c.1 : Int) = c1
 generalize (c.2 : Int) = c2
 grind
theorem df_sq (x y : Nat) : ((x : Int) - (y : Int)) * ((x : Int) - (y : Int)) = ((dfN x y * dfN x y : Nat) : Int) := by
 have e : dfN x y = (x - y) + (y - x) := rfl
 rw [e, Int.natCast_mul]
 rcases Nat.le_total x y with h | h
 ·have e1 : (((x - y) + (y - x) : Nat) : Int) = -((x : Int) - (y : Int)) := by omega
  rw [e1, Int.neg_mul_neg]
 ·have e1 : (((x - y) + (y - x) : Nat) : Int) = ((x : Int) - (y : Int)) := by omega
  rw [e1]
theorem fa_N (p q : Nt) : faI (ofN p) (ofN q) = (faN p q : Int) := by
 unfold faI ofN
 dsimp only
 rw [df_sq, df_sq]
 have e : faN p q = dfN p.1 q.1 * dfN p.1 q.1 + dfN p.2 q.2 * dfN p.2 q.2 := rfl
 rw [e, Int.natCast_add]
theorem Qs0 (a b : Nat) : Nat.ble (Nat.succ a) b = decide (a < b) := by
 rw [Bool.eq_iff_iff, decide_eq_true_iff, Nat.ble_eq]
 exact Iff.rfl
theorem ble_le (a b : Nat) : Nat.ble a b = decide (a ≤ b) := by rw [Bool.eq_iff_iff, decide_eq_true_iff, Nat.ble_eq]
theorem beq_eq (a b : Nat) : Nat.beq a b = decide (a = b) := by rw [Bool.eq_iff_iff, decide_eq_true_iff, nbeq]
theorem bs_N (l b p : Nt) : bsS (ofN l) (ofN b) (ofN p) = ofN (bsN l b p) := by
 unfold bsS bsN
 rw [cr_N, fa_N, fa_N, Qn6, ble_le, Qs0, beq_eq, Qib, Qib, Qib]
 generalize cpN l b p = u
 generalize cmN l b p = v
 generalize faN l b = s
 generalize faN l p = t
 by_cases h0 : ofN b = ofN l
 ·simp only [h0, decide_true, Bool.true_or, if_true]
 ·simp only [h0, decide_false, Bool.false_or, Bool.false_eq_true, if_false]
  by_cases h1 : v ≤ u
  ·have h2 : ¬ ((u : Int) - (v : Int) < 0) := by omega
   simp only [h1, h2, decide_true, decide_false, Bool.false_or, if_true]
   by_cases h3 : v = u
   ·have h4 : (u : Int) - (v : Int) = 0 := by omega
    by_cases h5 : s < t
    ·have h6 : (s : Int) < (t : Int) := by omega
     have e : (decide (v = u)).and (decide (s < t)) = true := by simp [h3, h5]
     rw [e]
     simp only [h4, h6, decide_true, Bool.and_self, if_true]
    ·have h6 : ¬ (s : Int) < (t : Int) := by omega
     have e : (decide (v = u)).and (decide (s < t)) = false := by simp [h5]
     rw [e]
     simp only [h6, decide_false, Bool.and_false, Bool.false_eq_true, if_false]
   ·have h4 : ¬ (u : Int) - (v : Int) = 0 := by omega
    have e : (decide (v = u)).and (decide (s < t)) = false := by simp [h3]
    rw [e]
    simp only [h4, decide_false, Bool.false_and, Bool.false_eq_true, if_false]
  ·have h2 : (u : Int) - (v : Int) < 0 := by omega
   simp only [h1, h2, decide_true, decide_false, Bool.true_or, if_true, Bool.false_eq_true, if_false]
theorem fold_N (l : Nt) : ∀ (L : List Nt) (b : Nt), (L.map ofN).foldl (bsS (ofN l)) (ofN b) = ofN (L.foldl (bsN l) b)
 | [], b => rfl
 | p :: L, b => by rw [List.map_cons, List.foldl_cons, List.foldl_cons, bs_N, fold_N l L]
theorem hulC_N (L : List Nt) (fs : Nt) : ∀ (f : Nat) (O : List Nt) (l : Nt), hulC (L.map ofN) (ofN fs) f (O.map ofN) (ofN l) = (hulCN L fs f O l).map (List.map ofN)
 | 0, _, _ => rfl
 | f + 1, O, l => by
  have e : nxC (L.map ofN) (ofN l) = ofN (nxN L l) := fold_N l L l
  rw [hulC, hulCN, e, Qow, Qib, Qn6]
  by_cases h : ofN (nxN L l) = ofN fs
  ·rw [if_pos h, if_pos (decide_eq_true h)]; rfl
  ·rw [if_neg h, if_neg (by rw [decide_eq_false h]; simp), ← hulC_N L fs f, List.map_append]; rfl
theorem ok_N (l c p : Nt) : okQ (ofN l) (ofN c) (ofN p) = okN l c p := by
 unfold okQ okN
 rw [cr_N, fa_N, fa_N, Qs0, ble_le, beq_eq]
 generalize cpN l c p = u
 generalize cmN l c p = v
 generalize faN p l = s
 generalize faN c l = t
 show _ = (decide (v < u) || (decide (v = u) && decide (s ≤ t)))
 rw [show decide (0 < (u : Int) - (v : Int)) = decide (v < u) from decide_eq_decide.2 (by omega), show decide ((u : Int) - (v : Int) = 0) = decide (v = u) from decide_eq_decide.2 (by omega), show decide ((s : Int) ≤ (t : Int)) = decide (s ≤ t) from decide_eq_decide.2 (by omega)]
theorem all_N (l c : Nt) : ∀ L : List Nt, (L.map ofN).all (okQ (ofN l) (ofN c)) = allN l c L
 | [] => rfl
 | p :: L => by
  show _ = iteB (okN l c p) (allN l c L) false
  rw [List.map_cons, List.all_cons, ok_N, all_N l c L, Qib]
  cases okN l c p <;> rfl
theorem fnd_N (all : List Nt) (l : Nt) : ∀ L : List Nt, ((L.map ofN).find? fun c => decide (c ≠ ofN l) && (all.map ofN).all (okQ (ofN l) c)).getD (ofN l) = ofN (fndN all l L)
 | [] => rfl
 | c :: L => by
  show _ = ofN (iteB (eqN c l) (fndN all l L) (iteB (allN l c all) c (fndN all l L)))
  rw [List.map_cons, List.find?_cons, all_N, Qn6, Qib, Qib]
  by_cases h : ofN c = ofN l
  ·have e1 : decide (ofN c ≠ ofN l) = false := by simp [h]
   rw [e1, Bool.false_and, if_pos (decide_eq_true h)]
   exact fnd_N all l L
  ·have e1 : decide (ofN c ≠ ofN l) = true := by simp [h]
   rw [e1, Bool.true_and, if_neg (by rw [decide_eq_false h]; simp)]
   cases allN l c all
   ·exact fnd_N all l L
   ·rfl
theorem hulR_N (L : List Nt) (fs : Nt) : ∀ (f : Nat) (O : List Nt) (l : Nt), hulR (L.map ofN) (ofN fs) f (O.map ofN) (ofN l) = (hulRN L fs f O l).map (List.map ofN)
 | 0, _, _ => rfl
 | f + 1, O, l => by
  have e : nxR (L.map ofN) (ofN l) = ofN (fndN L l L) := fnd_N L l L
  rw [hulR, hulRN, e, Qow, Qib, Qn6]
  by_cases h : ofN (fndN L l L) = ofN fs
  ·rw [if_pos h, if_pos (decide_eq_true h)]; rfl
  ·rw [if_neg h, if_neg (by rw [decide_eq_false h]; simp), ← hulR_N L fs f, List.map_append]; rfl
theorem lt_N (p q : Nt) : ltQ (ofN p) (ofN q) = ltN p q := by
 unfold ltQ ltN ofN
 rw [Qs0, Qs0, beq_eq]
 show _ = (decide (p.2 < q.2) || (decide (p.2 = q.2) && decide (p.1 < q.1)))
 dsimp only
 rw [show decide ((p.2 : Int) < (q.2 : Int)) = decide (p.2 < q.2) from decide_eq_decide.2 (by omega), show decide ((p.2 : Int) = (q.2 : Int)) = decide (p.2 = q.2) from decide_eq_decide.2 (by omega), show decide ((p.1 : Int) < (q.1 : Int)) = decide (p.1 < q.1) from decide_eq_decide.2 (by omega)]
theorem QsQ (l : List Pt) : ∀ i, i ≤ l.length → mnR l i = (l.take i).foldl (fun p q => if ltQ q p = true then q else p) (l.getD 0 default)
 | 0, h => rfl
 | i + 1, h => by
  have e : l.take (i + 1) = l.take i ++ [l.getD i default] := by
   rw [List.take_add_one, List.getD_eq_getElem?_getD, List.getElem?_eq_getElem (show i < l.length by omega)]; rfl
  rw [mnR, e, List.foldl_append, ← QsQ l i (by omega)]; rfl
theorem mn_N : ∀ (L : List Nt) (p : Nt), (L.map ofN).foldl (fun p q => if ltQ q p = true then q else p) (ofN p) = ofN (mnN L p)
 | [], p => rfl
 | q :: L, p => by
  have e : mnN (q :: L) p = mnN L (iteB (ltN q p) q p) := rfl
  rw [List.map_cons, List.foldl_cons, lt_N, e, ← mn_N L, Qib]
  cases ltN q p <;> rfl
theorem to_of {p : Pt} (h : -100 ≤ p.1 ∧ -100 ≤ p.2) : ofN (toN p) = mvP 100 100 p := by
 unfold ofN toN mvP
 refine Prod.ext ?_ ?_ <;> dsimp only <;> omega
theorem bk_of (n : Nt) : mvP 100 100 (bkN n) = ofN n := by
 unfold mvP bkN ofN
 refine Prod.ext ?_ ?_ <;> dsimp only <;> omega
theorem QnD {x y : Int} : ∀ {l m : List Pt}, l.map (mvP x y) = m.map (mvP x y) → l = m
 | [], [], _ => rfl
 | [], _ :: _, h => by simp at h
 | _ :: _, [], h => by simp at h
 | p :: l, q :: m, h => by
  rw [List.map_cons, List.map_cons, List.cons.injEq] at h
  rw [(Qmm x y p q).1 h.1, QnD h.2]
theorem hul_of {a b : List Pt} (h : hulB a b = true) : ∃ x, Hul a b x := by
  unfold hulB at h
  rw [frcM_eq, Qow] at h
  split at h
  · rename_i x y h1 h2
    simp only [Bool.and_eq_true, decide_eq_true_eq, Nat.ble_eq, Bool.not_eq_true'] at h
    obtain ⟨⟨⟨⟨⟨⟨rfl, h3⟩, h4⟩, h6⟩, h5⟩, h7⟩, h8⟩ := h
    have hne : 0 < (suA a b).length := by
      cases e : suA a b with
      | nil => rw [e] at h8; simp at h8
      | cons p l => simp
    have eL : ((suA a b).map toN).map ofN = (suA a b).map (mvP 100 100) := by
      rw [List.map_map]
      refine List.map_congr_left fun p hp => ?_
      have := List.all_eq_true.1 h7 p hp
      simp only [Bool.and_eq_true, decide_eq_true_eq] at this
      exact to_of this
    have em : ofN (mnN ((suA a b).map toN) (((suA a b).map toN).headD (0, 0))) = mvP 100 100 (mnF (suA a b) ((suA a b).length - 1)) := by
      have e1 := mnR_F ((suA a b).map (mvP 100 100)) ((suA a b).length - 1)
      rw [Nat.sub_add_cancel hne, mnF_mv _ _ _ _ (by omega)] at e1
      rw [← e1, ← mn_N, eL, QsQ _ _ (by simp), List.take_of_length_le (by simp)]
      congr 1
      rw [← eL]
      cases e : (suA a b).map toN with
      | nil => rw [← List.length_map toN, e] at hne; simp at hne
      | cons p l => rfl
    have hc := hulC_N ((suA a b).map toN) (mnN ((suA a b).map toN) (((suA a b).map toN).headD (0, 0))) 17 [mnN ((suA a b).map toN) (((suA a b).map toN).headD (0, 0))] (mnN ((suA a b).map toN) (((suA a b).map toN).headD (0, 0)))
    have hr := hulR_N ((suA a b).map toN) (mnN ((suA a b).map toN) (((suA a b).map toN).headD (0, 0))) 17 [mnN ((suA a b).map toN) (((suA a b).map toN).headD (0, 0))] (mnN ((suA a b).map toN) (((suA a b).map toN).headD (0, 0)))
    rw [h1] at hc
    rw [h2] at hr
    rw [List.map_singleton, em, eL] at hc hr
    have mc := QqZ 100 100 (suA a b) (mnF (suA a b) ((suA a b).length - 1)) 17 [mnF (suA a b) ((suA a b).length - 1)] (mnF (suA a b) ((suA a b).length - 1))
    have mr := Qrq 100 100 (suA a b) (mnF (suA a b) ((suA a b).length - 1)) 17 [mnF (suA a b) ((suA a b).length - 1)] (mnF (suA a b) ((suA a b).length - 1))
    rw [List.map_singleton, hc] at mc
    rw [List.map_singleton, hr] at mr
    have ex : x.map ofN = (x.map bkN).map (mvP 100 100) := by
      rw [List.map_map]
      exact List.map_congr_left fun n _ => (bk_of n).symm
    rw [Option.map_some, ex] at mc mr
    have key : ∀ o : Option (List Pt), some ((x.map bkN).map (mvP 100 100)) = o.map (List.map (mvP 100 100)) → o = some (x.map bkN) := by
      intro o ho
      cases o with
      | none => cases ho
      | some z =>
        rw [Option.map_some, Option.some.injEq] at ho
        rw [QnD ho]
    unfold edgB at h5
    rw [Bool.and_eq_true, List.all_eq_true, List.all_eq_true] at h5
    rw [List.length_map] at h6
    refine ⟨x.map bkN, key _ mc, key _ mr, by rw [List.length_map]; exact h3, by rw [List.length_map]; exact h4, fun d hd => ?_, fun i hi => ?_, by rw [List.length_map]; exact h6⟩
    · obtain ⟨i, hi, e⟩ := List.any_eq_true.1 (h5.1 d hd)
      exact ⟨i, List.mem_range.1 hi, e⟩
    · obtain ⟨d, hd, e⟩ := List.any_eq_true.1 (h5.2 i (List.mem_range.2 hi))
      exact ⟨d, hd, e⟩
  · cases h
end Go.AM

/- The hulls of all Qlq of base shapes, by the kernel (part 1). -/
namespace Go.AM
open Go Go.RowKit
theorem hul_22 : hulA 2 2 = true := by kernel_rfl
theorem hul_23 : hulA 2 3 = true := by kernel_rfl
theorem hul_24 : hulA 2 4 = true := by kernel_rfl
theorem hul_26 : hulA 2 6 = true := by kernel_rfl
end Go.AM

/- The hulls of all Qlq of base shapes, by the kernel (part 2). -/
namespace Go.AM
open Go Go.RowKit
theorem hul_25 : hulA 2 5 = true := by kernel_rfl
theorem hul_32 : hulA 3 2 = true := by kernel_rfl
theorem hul_33 : hulA 3 3 = true := by kernel_rfl
theorem hul_34 : hulA 3 4 = true := by kernel_rfl
theorem hul_36 : hulA 3 6 = true := by kernel_rfl
theorem hul_42 : hulA 4 2 = true := by kernel_rfl
theorem hul_43 : hulA 4 3 = true := by kernel_rfl
theorem hul_44 : hulA 4 4 = true := by kernel_rfl
theorem hul_46 : hulA 4 6 = true := by kernel_rfl
end Go.AM

/- The hulls of all Qlq of base shapes, by the kernel (part 3). -/
namespace Go.AM
open Go Go.RowKit
theorem hul_52 : hulA 5 2 = true := by kernel_rfl
theorem hul_62 : hulA 6 2 = true := by kernel_rfl
theorem hul_63 : hulA 6 3 = true := by kernel_rfl
theorem hul_64 : hulA 6 4 = true := by kernel_rfl
theorem hul_66 : hulA 6 6 = true := by kernel_rfl
theorem hul_35 : hulA 3 5 = true := by kernel_rfl
theorem hul_53 : hulA 5 3 = true := by kernel_rfl
end Go.AM

/- The hulls of all Qlq of base shapes, by the kernel (part 4). -/
namespace Go.AM
open Go Go.RowKit
theorem hul_55 : hulA 5 5 = true := by kernel_rfl
theorem hul_45 : hulA 4 5 = true := by kernel_rfl
theorem hul_54 : hulA 5 4 = true := by kernel_rfl
theorem hul_56 : hulA 5 6 = true := by kernel_rfl
theorem hul_65 : hulA 6 5 = true := by kernel_rfl
end Go.AM

/- Supports, plain: the directions of the shapes; a point of a shape is no further along them than Most. -/
namespace Go.AM
open Go Go.RowKit
end Go.AM

/- The hulls of all Qlq of shapes. -/
namespace Go.AM
open Go Go.RowKit
theorem hul_bas {e f : Int} (he : e ∈ ([2, 3, 4, 5, 6] : List Int)) (hf : f ∈ ([2, 3, 4, 5, 6] : List Int)) : hulA e f = true := by
 simp only [List.mem_cons, List.not_mem_nil, or_false] at he hf
 rcases he with rfl | rfl | rfl | rfl | rfl <;> rcases hf with rfl | rfl | rfl | rfl | rfl
 ·exact hul_22
 ·exact hul_23
 ·exact hul_24
 ·exact hul_25
 ·exact hul_26
 ·exact hul_32
 ·exact hul_33
 ·exact hul_34
 ·exact hul_35
 ·exact hul_36
 ·exact hul_42
 ·exact hul_43
 ·exact hul_44
 ·exact hul_45
 ·exact hul_46
 ·exact hul_52
 ·exact hul_53
 ·exact hul_54
 ·exact hul_55
 ·exact hul_56
 ·exact hul_62
 ·exact hul_63
 ·exact hul_64
 ·exact hul_65
 ·exact hul_66
theorem Qr8 {P : Pt → Prop} {all : List Pt} {fs : Pt} (hA : ∀ p ∈ all, P p) {x : List Pt} : ∀ (f : Nat) (O : List Pt) (l : Pt), (∀ p ∈ O, P p) → P l → hulC all fs f O l = some x → ∀ p ∈ x, P p
  | 0, _, _, _, _, h => by cases h
  | f + 1, O, l, hO, hl, h => by
    have hz : P (nxC all l) := by
      have : ∀ (L : List Pt) (b : Pt), (∀ p ∈ L, P p) → P b → P (L.foldl (bsS l) b) := by
        intro L
        induction L with
        | nil => intro b _ hb; exact hb
        | cons p L ih =>
          intro b hL hb
          rw [List.foldl_cons]
          refine ih _ (fun q hq => hL q (List.mem_cons_of_mem _ hq)) ?_
          unfold bsS
          split
          · exact hL p (List.mem_cons_self ..)
          · exact hb
      exact this all l hA hl
    rw [hulC] at h
    split at h
    · cases h; exact hO
    · refine Qr8 hA f _ _ ?_ hz h
      intro p hp
      rcases List.mem_append.1 hp with hp | hp
      · exact hO p hp
      · rw [List.mem_singleton.1 hp]; exact hz
theorem QlD (l : List Int) : ∀ p ∈ spP l, -40 ≤ p.1 ∧ p.1 ≤ 40 ∧ -40 ≤ p.2 ∧ p.2 ≤ 40 := by
 intro p hp
 obtain ⟨h1, h2, h3, h4, h5⟩ := sh_b l
 obtain ⟨q, hq, rfl⟩ := List.mem_map.1 hp
 have := spB_sm (c := spC l) h2 h3 q hq
 unfold mvP
 dsimp only
 omega
theorem hul_sh (l m : List Int) : ∃ x, Hul (spP l) (spP m) x ∧ ∀ p ∈ x, -80 ≤ p.1 ∧ p.1 ≤ 80 ∧ -80 ≤ p.2 ∧ p.2 ≤ 80 := by
 obtain ⟨h1, h2, h3, h4, h5⟩ := sh_b l
 obtain ⟨k1, k2, k3, k4, k5⟩ := sh_b m
 obtain ⟨e, he, ma⟩ := bas_mem h1 h2 h3
 obtain ⟨f, hf, mb⟩ := bas_mem k1 k2 k3
 have h := hul_bas he hf
 unfold hulA at h
 rw [List.all_eq_true] at h
 have h := h _ ma
 rw [List.all_eq_true] at h
 obtain ⟨x, hx⟩ := hul_of (h _ mb)
 have la := Qpa (spC l) (spK l) (spM l)
 have lb := Qpa (spC m) (spK m) (spM m)
 have := hul_mv (spX l) (spY l) (spX m) (spY m) (by omega) (by omega) hx
 refine ⟨_, this, ?_⟩
 have hA : ∀ p ∈ suA (spP l) (spP m), -80 ≤ p.1 ∧ p.1 ≤ 80 ∧ -80 ≤ p.2 ∧ p.2 ≤ 80 := by
  intro p hp
  unfold suA at hp
  obtain ⟨q, hq, hp⟩ := List.mem_flatMap.1 hp
  unfold suR at hp
  obtain ⟨r, hr, rfl⟩ := List.mem_map.1 hp
  have := QlD l q hq
  have := QlD m r hr
  dsimp only
  omega
 have hne : 0 < (suA (spP l) (spP m)).length := by
  have e : 0 < (spP l).length := by unfold spP; rw [List.length_map]; omega
  have e2 : 0 < (spP m).length := by unfold spP; rw [List.length_map]; omega
  rw [suA_len]
  exact Nat.mul_pos e e2
 have hd : ∀ i, (fun p : Pt => -80 ≤ p.1 ∧ p.1 ≤ 80 ∧ -80 ≤ p.2 ∧ p.2 ≤ 80) ((suA (spP l) (spP m)).getD i default) := fun i => by
  by_cases hi : i < (suA (spP l) (spP m)).length
  ·exact hA _ (by rw [List.getD_eq_getElem?_getD, List.getElem?_eq_getElem hi]; exact List.getElem_mem hi)
  ·rw [List.getD_eq_getElem?_getD, List.getElem?_eq_none (by omega)]
   exact ⟨by decide, by decide, by decide, by decide⟩
 have hf0 := QqA (P := fun p : Pt => -80 ≤ p.1 ∧ p.1 ≤ 80 ∧ -80 ≤ p.2 ∧ p.2 ≤ 80) hd ((suA (spP l) (spP m)).length - 1)
 exact Qr8 (P := fun p : Pt => -80 ≤ p.1 ∧ p.1 ≤ 80 ∧ -80 ≤ p.2 ∧ p.2 ≤ 80) hA 17 _ _ (fun p hp => by rw [List.mem_singleton.1 hp]; exact hf0) hf0 this.c
end Go.AM

namespace Go.AM
open Go Go.RowKit
theorem st8k (a b c d e f g h i j k l m n o p : A) : Qae 0 [a, b, c, d, e, f, g, h] [i, j, k, l, m, n, o, p] = some [a, b, c, d, e, f, g, h] := rfl
theorem i64_4 : I64 4 := ⟨by omega, by omega⟩
end Go.AM
namespace Go.Proofs.YtfdelaplhpmneaaGreat.Pure
open Go Go.AM
end Go.Proofs.YtfdelaplhpmneaaGreat.Pure

/- ref13.Touch: a point of the hull's boundary. -/
namespace Go.AM
open Go Go.RowKit
def ptV (p : Pt) : Vc := ((p.1 : Rat), (p.2 : Rat))
def miV (a b : Vc) : Vc := plV a (tmV (-1) b)
def tcI (n : Int) (L : Nat) : Nat := (n.tmod (L : Int)).natAbs
def tcV (x : List Pt) (n k : Int) : Vc := plV (ptV (x.getD (tcI n x.length) default)) (tmV (Rat.divInt (k.tmod 4).natAbs 4) (miV (ptV (nxP x (tcI n x.length))) (ptV (x.getD (tcI n x.length) default))))
theorem Qs4 (n : Int) {L : Nat} (h : 0 < L) : tcI n L < L := by
 unfold tcI
 rw [Int.natAbs_tmod]
 exact Nat.mod_lt _ (by omega)
theorem nxP_mem {x : List Pt} {i : Nat} (h : i < x.length) : nxP x i ∈ x := by
 unfold nxP
 split
 ·rename_i h1
  rw [List.getD_eq_getElem?_getD, List.getElem?_eq_getElem h1]; exact List.getElem_mem h1
 ·rw [List.getD_eq_getElem?_getD, List.getElem?_eq_getElem (show 0 < x.length by omega)]; exact List.getElem_mem _
theorem ptm {l : List Pt} {i : Nat} (h : i < l.length) : l.getD i default ∈ l := by rw [List.getD_eq_getElem?_getD, List.getElem?_eq_getElem h]; exact List.getElem_mem h
theorem pt_sz {p : Pt} (h : -80 ≤ p.1 ∧ p.1 ≤ 80 ∧ -80 ≤ p.2 ∧ p.2 ≤ 80) : SzV 3 (ptV p) := ⟨QdG ⟨by omega, by omega⟩, QdG ⟨by omega, by omega⟩⟩
theorem tc_sz {x : List Pt} (hx : ∀ p ∈ x, -80 ≤ p.1 ∧ p.1 ≤ 80 ∧ -80 ≤ p.2 ∧ p.2 ≤ 80) (h0 : 0 < x.length) (n k : Int) : SzV 30 (tcV x n k) := by
 have hi := Qs4 n h0
 have z1 := pt_sz (hx _ (ptm hi))
 have z2 := pt_sz (hx _ (nxP_mem hi))
 have i1 : I64 ((k.tmod 4).natAbs : Int) := ⟨by omega, by have := Qs4 k (L := 4) (by omega); unfold tcI at this; have e : ((4 : Nat) : Int) = 4 := rfl; rw [e] at this; omega⟩
 have z3 := Qq0 i1 i64_4
 have z4 : sz (-1) ≤ 3 := QdG (n := -1) ⟨by omega, by omega⟩
 exact (Qr1 z1 (QnX z3 (Qr1 z2 (QnX z4 z1)))).mono (by omega)
variable [Its]
theorem Qtt {a b : Vc} {K : Nat} (hK : K ≤ 1000000) (hK1 : 3 ≤ K) (ha : SzV K a) (hb : SzV K b) : Qah G QgR [encV a, encV b] = some (.d (encV (miV a b))) := by
 rw [Qac (cf := Qfp) rfl]
 have i1 : I64 (-1) := ⟨by omega, by omega⟩
 have o1 := QaL i1 Qhy
 rw [Qck] at o1
 have z4 : sz (((-1 : Int)) : Rat) ≤ 3 := QdG i1
 have g1 := QkH (k := (((-1 : Int)) : Rat)) (K := K) (by omega) (by omega) hb
 have g2 := QmD (K := K + K) (by omega) (ha.mono (by omega)) ((QnX (L := K) (by omega) hb).mono (Nat.le_refl _) : SzV (K + K) (tmV (((-1 : Int)) : Rat) b))
 have e : plV a (tmV (((-1 : Int)) : Rat) b) = miV a b := rfl
 rw [e] at g2
 generalize miV a b = r at *
 generalize tmV (((-1 : Int)) : Rat) b = t at *
 generalize (((-1 : Int)) : Rat) = q at *
 clear ha hb
 obtain ⟨a1, a2⟩ := a
 obtain ⟨b1, b2⟩ := b
 obtain ⟨r1, r2⟩ := r
 obtain ⟨t1, t2⟩ := t
 simp only [encV, encR, iv, bv] at o1 g1 g2
 simp -implicitDefEqProofs (maxSteps:=9^8) only [Qfp, encV, st8k, ld8, o1, g1, g2, Qaa, go_sem, iv, bv, reduceCtorEq, ↓reduceIte, Nat.reduceEqDiff]
set_option maxHeartbeats 1000000 in
theorem Qnc        {da db : D} {x : List Pt} {n k : Int} (hn : I64 n) (hk : I64 k) (g : Qah   G QfC               [da, db] = some (.own 2 x.length (x.flatMap cP))) (hx : ∀ p ∈ x, -80 ≤ p.1 ∧ p.1 ≤ 80 ∧ -80 ≤ p.2 ∧ p.2 ≤ 80) (h0 : 0 < x.length) (h1 : x.length ≤ 1000) :
    Qah G QeE [da, db, iv n, iv k] = some (.d (encV (tcV x n k))) := by
  rw [Qac (cf := QcB) rfl]
  have hi := Qs4 n h0
  have hj := Qs4 k (L := 4) (by omega)
  have b1 := hx _ (ptm hi)
  have b2 := hx _ (nxP_mem hi)
  have z1 := pt_sz b1
  have z2 := pt_sz b2
  have i1 : I64 ((tcI k 4 : Nat) : Int) := ⟨by omega, by omega⟩
  have z3 := Qq0 i1 i64_4
  have o1 := QaL (n := (x.getD (tcI n x.length) default).1) (d := 1) ⟨by omega, by omega⟩ Qhy
  have o2 := QaL (n := (x.getD (tcI n x.length) default).2) (d := 1) ⟨by omega, by omega⟩ Qhy
  have o3 := QaL (n := (nxP x (tcI n x.length)).1) (d := 1) ⟨by omega, by omega⟩ Qhy
  have o4 := QaL (n := (nxP x (tcI n x.length)).2) (d := 1) ⟨by omega, by omega⟩ Qhy
  have o5 := QaL i1 i64_4
  rw [Qck] at o1 o2 o3 o4
  have g1 := Qtt (K := 3) (by omega) (by omega) z2 z1
  have z4 : sz (-1) ≤ 3 := QdG (n := -1) ⟨by omega, by omega⟩
  have z5 : SzV 10 (miV (ptV (nxP x (tcI n x.length))) (ptV (x.getD (tcI n x.length) default))) := (Qr1 z2 (QnX z4 z1)).mono (by omega)
  have g2 := QkH (k := Rat.divInt ((tcI k 4 : Nat) : Int) 4) (K := 10) (by omega) (by omega) z5
  have g3 := QmD (K := 20) (by omega) (z1.mono (by omega)) ((QnX z3 z5).mono (by omega))
  have e : plV (ptV (x.getD (tcI n x.length) default)) (tmV (Rat.divInt ((tcI k 4 : Nat) : Int) 4) (miV (ptV (nxP x (tcI n x.length))) (ptV (x.getD (tcI n x.length) default)))) = tcV x n k := rfl
  rw [e] at g3
  have g4 := Ql2 (d := rowE cP x) (l := x) (.inr rfl) hi (by omega)
  have x1 := RwE.ixa (d := rowE cP x) (l := x) Qb2 (.inr rfl) hi
  have x2 := fun hp => ldF (en := cP) (i := 0) Qb2 hp hi (by omega)
  have x3 := fun hp => ldF (en := cP) (i := 1) Qb2 hp hi (by omega)
  have ll : lenA (.d (rowE cP x)) = some x.length := rfl
  have t1 : decide ((x.length : Int) > 0) = true := decide_eq_true (by omega)
  have t2 : ((x.length : Int) = 0) = False := eq_false (by omega)
  have t3 : ((4 : Int) = 0) = False := by simp
  obtain ⟨m, em⟩ : ∃ m, n.tmod (x.length : Int) = m := ⟨_, rfl⟩
  obtain ⟨m2, em2⟩ : ∃ m, k.tmod 4 = m := ⟨_, rfl⟩
  have ei : ((tcI n x.length : Nat) : Int) = (m.natAbs : Int) := by unfold tcI; rw [em]
  have ei2 : ((tcI k 4 : Nat) : Int) = (m2.natAbs : Int) := by unfold tcI; rw [show k.tmod ((4 : Nat) : Int) = m2 from em2]
  have hm : -1000 ≤ m ∧ m ≤ 1000 := by omega
  have hm2 : -1000 ≤ m2 ∧ m2 ≤ 1000 := by omega
  generalize tcV x n k = r at *
  clear e z1 z2 z3 z4 z5 b1 b2 hx i1 hi hj
  generalize tmV (Rat.divInt ((tcI k 4 : Nat) : Int) 4) (miV (ptV (nxP x (tcI n x.length))) (ptV (x.getD (tcI n x.length) default))) = w at *
  generalize miV (ptV (nxP x (tcI n x.length))) (ptV (x.getD (tcI n x.length) default)) = w2 at *
  unfold ptV at *
  generalize Rat.divInt ((tcI k 4 : Nat) : Int) 4 = s at *
  generalize nxP x (tcI n x.length) = q at *
  generalize x.getD (tcI n x.length) default = p at *
  generalize ((tcI n x.length : Nat) : Int) = ti at *
  generalize ((tcI k 4 : Nat) : Int) = tj at *
  obtain ⟨p1, p2⟩ := p
  obtain ⟨q1, q2⟩ := q
  dsimp only at *
  generalize (p1 : Rat) = rp1 at *
  generalize (p2 : Rat) = rp2 at *
  generalize (q1 : Rat) = rq1 at *
  generalize (q2 : Rat) = rq2 at *
  obtain ⟨r1, r2⟩ := r
  obtain ⟨w1, w2'⟩ := w
  obtain ⟨u1, u2⟩ := w2
  simp only [encP, cP, rowE, List.drop_zero, List.getElem?_cons_succ, List.getElem?_cons_zero, Option.map_some, encV, encR, iv, bv] at g x1 x2 x3 g1 g2 g3 g4 o1 o2 o3 o4 o5 ll
  by_cases c1 : m < 0
  · have d1 : decide (m < 0) = true := lt_t c1
    have n1 : w64 (0 - m) = ti := by rw [Qad (by omega) (by omega)]; omega
    by_cases c2 : m2 < 0
    · have d2 : decide (m2 < 0) = true := lt_t c2
      have n2 : w64 (0 - m2) = tj := by rw [Qad (by omega) (by omega)]; omega
      simp -implicitDefEqProofs (maxSteps:=9^8) only [QcB, g, x1, x2, x3, g1, g2, g3, g4, o1, o2, o3, o4, o5, ll, t1, t2, t3, em, em2, d1, d2, n1, n2, encV, List.drop_zero, Qdb, QbF, st2p, QjX, Qj3, st8k, ld8, Qaa, go_sem, iv, bv, reduceCtorEq, ↓reduceIte, Nat.reduceEqDiff]
    · have d2 : decide (m2 < 0) = false := lt_f (by omega)
      obtain rfl : m2 = tj := by omega
      simp -implicitDefEqProofs (maxSteps:=9^8) only [QcB, g, x1, x2, x3, g1, g2, g3, g4, o1, o2, o3, o4, o5, ll, t1, t2, t3, em, em2, d1, d2, n1, encV, List.drop_zero, Qdb, QbF, st2p, QjX, Qj3, st8k, ld8, Qaa, go_sem, iv, bv, reduceCtorEq, ↓reduceIte, Nat.reduceEqDiff]
  · have d1 : decide (m < 0) = false := lt_f (by omega)
    obtain rfl : m = ti := by omega
    by_cases c2 : m2 < 0
    · have d2 : decide (m2 < 0) = true := lt_t c2
      have n2 : w64 (0 - m2) = tj := by rw [Qad (by omega) (by omega)]; omega
      simp -implicitDefEqProofs (maxSteps:=9^8) only [QcB, g, x1, x2, x3, g1, g2, g3, g4, o1, o2, o3, o4, o5, ll, t1, t2, t3, em, em2, d1, d2, n2, encV, List.drop_zero, Qdb, QbF, st2p, QjX, Qj3, st8k, ld8, Qaa, go_sem, iv, bv, reduceCtorEq, ↓reduceIte, Nat.reduceEqDiff]
    · have d2 : decide (m2 < 0) = false := lt_f (by omega)
      obtain rfl : m2 = tj := by omega
      simp -implicitDefEqProofs (maxSteps:=9^8) only [QcB, g, x1, x2, x3, g1, g2, g3, g4, o1, o2, o3, o4, o5, ll, t1, t2, t3, em, em2, d1, d2, encV, List.drop_zero, Qdb, QbF, st2p, QjX, Qj3, st8k, ld8, Qaa, go_sem, iv, bv, reduceCtorEq, ↓reduceIte, Nat.reduceEqDiff]
end Go.AM

namespace Go.AM
open Go Go.RowKit
theorem Qs1 (v : Vc) : (cV v).length = 8 := rfl
instance : Inhabited Vc := ⟨(0, 0)⟩
def QmS (O : List Eg) (v w : Vc) (LI SP : List Vc) (i : Int) (r : Vc) (j : Int) : St := mkS [(13, .d (rowE cG O)), (14, .ptr [14] 0), (15, .ptr [15] 0), (16, .d (rowE cV LI)), (17, .d (rowE cV SP)), (18, ai i), (19, .ptr [19] 0), (20, ai j)] [([14], bxV v), ([15], bxV w), ([19], bxV r)]
def QiV (O : List Eg) (v w : Vc) (LI SP : List Vc) (i : Int) : St := mkS [(13, .d (rowE cG O)), (14, .ptr [14] 0), (15, .ptr [15] 0), (16, .d (rowE cV LI)), (17, .d (rowE cV SP)), (18, ai i)] [([14], bxV v), ([15], bxV w)]
def Qs2 (v : Vc) : St := mkS [(14, .ptr [14] 0)] [([14], bxV v)]
theorem vcm {P : Vc → Prop} {l : List Vc} (h : ∀ x ∈ l, P x) {i : Nat} (hi : i < l.length) : P (l.getD i default) := by
 rw [List.getD_eq_getElem?_getD, List.getElem?_eq_getElem hi]; exact h _ (List.getElem_mem hi)
set_option maxHeartbeats 1000000 in
theorem gf0_go {O : List Eg} {v w : Vc} {LI SP : List Vc} {i : Int} {r : Vc} (hO : ∀ e ∈ O, AtE e) (hn : O.length ≤ 1000) (hw : SzV 30 w) (hr : SzV 30 r) (hS : ∀ x ∈ SP, SzV 30 x) (nS : SP.length ≤ 10) {j : Nat} (hj : j < SP.length) :
    X G Qbl (QmS O v w LI SP i r j) = some (.n, QmS O v w LI SP i r ((j + 1 : Nat) : Int)) := by
  have e1 : decide ((j : Int) < (SP.length : Int)) = true := lt_t (by omega)
  have e2 : w64 ((j : Int) + 1) = ((j + 1 : Nat) : Int) := by rw [Qad (by omega) (by omega)]; rfl
  have ll : lenA (.d (rowE cV SP)) = some SP.length := rfl
  have x1 := RwE.ixa (d := rowE cV SP) (l := SP) Qs1 (.inr rfl) hj
  have x2 := fun hp => ldE (en := cV) Qs1 hp hj
  have hs := vcm hS hj
  generalize SP.getD j default = s at *
  have dO : RwE cG (rowE cG O) O := .inr rfl
  have f1 := QlL dO hn (K := 30) (by omega) hO hr hs hw
  have f2 := Qti dO hn (K := 30) (by omega) hO hr hs hw
  have c1 := Qpu dO hn (K := 30) (by omega) hO hr hs
  have c2 := QtY dO hn (K := 30) (by omega) hO hr hs
  have p1 := QmD (K := 30) (by omega) hr hs
  have pz := Qr1 hr hs
  have b1 := Qqp dO hn (K := 61) (by omega) hO (hr.mono (by omega)) pz
  have b2 := QtP dO hn (K := 61) (by omega) hO (hr.mono (by omega)) pz
  have m1 := Qqg dO hn (K := 61) (by omega) hO pz
  have m2 := Qtz dO hn (K := 61) (by omega) hO pz
  clear pz hs hS hr hw hO dO
  generalize fiE _ O O.length 0 = z1 at *
  generalize coG O r s = z2 at *
  generalize beG O r (plV r s) = z3 at *
  generalize meG O (plV r s) = z4 at *
  generalize plV r s = q at *
  have t1 : (z1 != z1) = false := Qth rfl
  have t2 : (z2 != z2) = false := Qth rfl
  have t3 : (z3 != z3) = false := Qth rfl
  obtain ⟨v1, v2⟩ := v
  obtain ⟨w1, w2⟩ := w
  obtain ⟨r1, r2⟩ := r
  obtain ⟨s1, s2⟩ := s
  obtain ⟨q1, q2⟩ := q
  simp only [encV, cV, iv, bv] at x2 f1 f2 c1 c2 p1 b1 b2 m1 m2
  simp -implicitDefEqProofs (maxSteps:=9^8) only [Qbl, QmS, bxV, ll, x1, x2, f1, f2, c1, c2, p1, b1, b2, m1, m2, t1, t2, t3, e1, e2, ld8, st8k, beq_self_eq_true, Bool.not_true, decide_true, decide_false, tupG, Qaa, go_sem, iv, bv, reduceCtorEq, ↓reduceIte, Nat.reduceEqDiff]
theorem gf0_stop {O : List Eg} {v w : Vc} {LI SP : List Vc} {i : Int} {r : Vc} : X G Qbl (QmS O v w LI SP i r SP.length) = some (.x 2, QiV O v w LI SP i) := by
 have e1 : decide ((SP.length : Int) < (SP.length : Int)) = false := lt_f (by omega)
 have ll : lenA (.d (rowE cV SP)) = some SP.length := rfl
 simp -implicitDefEqProofs (maxSteps:=9^8) only [Qbl, QmS, QiV, bxV, ll, e1, Qaa, go_sem, iv, bv, reduceCtorEq, ↓reduceIte, Nat.reduceEqDiff]
theorem Qsz      {O : List Eg} {v w : Vc} {LI SP : List Vc} {i : Int} {r : Vc} (hO : ∀ e ∈ O, AtE e) (hn : O.length ≤ 1000) (hw : SzV 30 w) (hr : SzV 30 r) (hS : ∀ x ∈ SP, SzV 30 x) (nS : SP.length ≤ 10) : ∀ (k j : Nat), j + k = SP.length →
    X G (.loop Qbl) (QmS O v w LI SP i r j) = some (.x 2, QiV O v w LI SP i)
  | 0, j, h => by
    have : j = SP.length := by omega
    subst this
    rw [Qag, gf0_stop]; rfl
  | k + 1, j, h => by
    rw [Qag, gf0_go hO hn hw hr hS nS (by omega), Option.bind_some, if_pos rfl]
    exact Qsz hO hn hw hr hS nS k (j + 1) (by omega)
theorem gf1_go {O : List Eg} {v w : Vc} {LI SP : List Vc} (hO : ∀ e ∈ O, AtE e) (hn : O.length ≤ 1000) (hw : SzV 30 w) (hL : ∀ x ∈ LI, SzV 30 x) (nL : LI.length = 3) (hS : ∀ x ∈ SP, SzV 30 x) (nS : SP.length ≤ 10) {i : Nat} (hi : i < 3) :
    X G Qbn (QiV O v w LI SP i) = some (.n, QiV O v w LI SP ((i + 1 : Nat) : Int)) := by
  have e1 : decide ((i : Int) < 3) = true := lt_t (by omega)
  have e2 : w64 ((i : Int) + 1) = ((i + 1 : Nat) : Int) := by rw [Qad (by omega) (by omega)]; rfl
  have x1 := RwE.ixa (d := rowE cV LI) (l := LI) (j := i) Qs1 (.inr rfl) (by omega)
  have x2 := fun hp => ldE (en := cV) (l := LI) (j := i) Qs1 hp (by omega)
  have hr := vcm hL (i := i) (by omega)
  generalize LI.getD i default = r at *
  have g := Qsz (v := v) (LI := LI) (i := (i : Int)) hO hn hw hr hS nS SP.length 0 (by omega)
  clear hr hS hL hw hO
  obtain ⟨v1, v2⟩ := v
  obtain ⟨w1, w2⟩ := w
  obtain ⟨r1, r2⟩ := r
  simp only [cV, iv, bv] at x2
  simp only [QmS, QiV, bxV, nc0, go_sem] at g
  simp -implicitDefEqProofs (maxSteps:=9^8) only [Qbn, QiV, bxV, x1, x2, g, e1, e2, ld8, st8k, Qaa, go_sem, iv, bv, reduceCtorEq, ↓reduceIte, Nat.reduceEqDiff]
theorem gf1_stop {O : List Eg} {v w : Vc} {LI SP : List Vc} : X G Qbn (QiV O v w LI SP ((3 : Nat) : Int)) = some (.x 0, Qs2 v) := by
 have e1 : decide (((3 : Nat) : Int) < 3) = false := rfl
 simp -implicitDefEqProofs (maxSteps:=9^8) only [Qbn, QiV, Qs2, bxV, e1, Qaa, go_sem, iv, bv, reduceCtorEq, ↓reduceIte, Nat.reduceEqDiff]
theorem Qs3      {O : List Eg} {v w : Vc} {LI SP : List Vc} (hO : ∀ e ∈ O, AtE e) (hn : O.length ≤ 1000) (hw : SzV 30 w) (hL : ∀ x ∈ LI, SzV 30 x) (nL : LI.length = 3) (hS : ∀ x ∈ SP, SzV 30 x) (nS : SP.length ≤ 10) : ∀ (k i : Nat), i + k = 3 →
    X G (.loop Qbn) (QiV O v w LI SP i) = some (.x 0, Qs2 v)
  | 0, i, h => by
    have : i = 3 := by omega
    subst this
    rw [Qag, gf1_stop]; rfl
  | k + 1, i, h => by
    rw [Qag, gf1_go hO hn hw hL nL hS nS (by omega), Option.bind_some, if_pos rfl]
    exact Qs3 hO hn hw hL nL hS nS k (i + 1) (by omega)
theorem rep3_8 (a b c d e f g h : D) : rep 3 [a, b, c, d, e, f, g, h] = [a, b, c, d, e, f, g, h, a, b, c, d, e, f, g, h, a, b, c, d, e, f, g, h] := rfl
theorem rep5_8 (a b c d e f g h : D) : rep 5 [a, b, c, d, e, f, g, h] = [a, b, c, d, e, f, g, h, a, b, c, d, e, f, g, h, a, b, c, d, e, f, g, h, a, b, c, d, e, f, g, h, a, b, c, d, e, f, g, h] := rfl
theorem encz : dg (digs (0 : Rat).num.natAbs) = .z true ∧ dg (dd (0 : Rat).den) = .z true ∧ decide ((0 : Rat).num < 0) = false := by
 have h := Qdv
 simp only [encR, D.agg.injEq, List.cons.injEq] at h
 obtain ⟨h1, h2, _, h4, _⟩ := h
 refine ⟨h2, h4, ?_⟩
 simp
theorem i64_8 : I64 8 := ⟨by omega, by omega⟩
end Go.AM
namespace Go.Proofs.YtfdelaplhpmneaaGreat.Pure
open Go Go.AM
set_option maxHeartbeats 2000000 in
theorem GapFinds (e0 : D) (l0 : List Int) (hd0 : Dg e0 l0) (hwf0 : ∀ n ∈ l0, (Lit.int .i64 n).wf = true) (hlen0 : l0.length * 8 ≤ 140737488351232) (e1 : D) (l1 : List Int) (hd1 : Dg e1 l1) (hwf1 : ∀ n ∈ l1, (Lit.int .i64 n).wf = true) (hlen1 : l1.length * 8 ≤ 140737488351232) (e2 : D) (l2 : List Int) (hd2 : Dg e2 l2) (hwf2 : ∀ n ∈ l2, (Lit.int .i64 n).wf = true) (hlen2 : l2.length * 8 ≤ 140737488351232) (a3 : Int) (w3 : (Lit.int .i64 a3).wf = true) (a4 : Int) (w4 : (Lit.int .i64 a4).wf = true) : Qah G Qiq [e0, e1, e2, iv a3, iv a4] = some (.d (bv true)) := by
 have w2 : ∀ n ∈ l2, I64 n := fun n hn => QlW (hwf2 n hn)
 have g0 := Qni (Qpr hd0) (fun n hn => QlW (hwf0 n hn))
 have g1 := Qni (Qpr hd1) (fun n hn => QlW (hwf1 n hn))
 have ga := gd_sh l0
 have gb := gd_sh l1
 obtain ⟨x, hx, hs⟩ := hul_sh l0 l1
 have ba : ∀ p ∈ spP l0, -40000000 ≤ p.1 ∧ p.1 ≤ 40000000 ∧ -40000000 ≤ p.2 ∧ p.2 ≤ 40000000 := fun p hp => by have := QlD l0 p hp; omega
 have bb : ∀ p ∈ spP l1, -40000000 ≤ p.1 ∧ p.1 ≤ 40000000 ∧ -40000000 ≤ p.2 ∧ p.2 ≤ 40000000 := fun p hp => by have := QlD l1 p hp; omega
 have la := (lim_sh l0).1.hi
 have lb := (lim_sh l1).1.hi
 have g2 := QnN (da := rowE cP (spP l0)) (db := rowE cP (spP l1)) (.inr rfl) (.inr rfl) ga gb
 have g4 := rSum_spec (da := rowE cP (spP l0)) (db := rowE cP (spP l1)) (.inr rfl) (.inr rfl) ba bb la lb ga.pos gb.pos hx.r hx.le
 have x3 := hx.three
 have x10 := hx.ten
 have g5 := Qnc (QlW w3) (QlW w4) g4 hs (by omega) (by omega)
 have g6 := Qnc (QlW w4) (QlW w3) g4 hs (by omega) (by omega)
 have z5 := tc_sz hs (by omega) a3 a4
 have z6 := tc_sz hs (by omega) a4 a3
 have a0 := QgA (i := 0) (m := 96) (Qpr hd2) w2 (by omega)
 have a1 := QgA (i := 1) (m := 96) (Qpr hd2) w2 (by omega)
 have a2 := QgA (i := 2) (m := 96) (Qpr hd2) w2 (by omega)
 have a3' := QgA (i := 3) (m := 96) (Qpr hd2) w2 (by omega)
 have a4' := QgA (i := 4) (m := 96) (Qpr hd2) w2 (by omega)
 have a5 := QgA (i := 5) (m := 96) (Qpr hd2) w2 (by omega)
 have v0 := QoB (Qte l2 0) (Qte l2 1)
 have v1 := QoB (Qte l2 2) (Qte l2 3)
 have v2 := QoB (Qte l2 4) (Qte l2 5)
 have s0 := vcV_sz (atr l2 0 96) (atr l2 1 96)
 have s1 := vcV_sz (atr l2 2 96) (atr l2 3 96)
 have s2 := vcV_sz (atr l2 4 96) (atr l2 5 96)
 have hO := sdP_at ga gb
 have hn := sdP_len ga gb
 generalize (vcR (atr l2 0 96), vcR (atr l2 1 96)) = r at *
 generalize (vcR (atr l2 2 96), vcR (atr l2 3 96)) = v at *
 generalize (vcR (atr l2 4 96), vcR (atr l2 5 96)) = w at *
 generalize tcV x a3 a4 = r5 at *
 generalize tcV x a4 a3 = r6 at *
 generalize sdP (spP l0) (spP l1) = O at *
 have o8 := QaL Qhy i64_8
 have z8 := Qq0 Qhy i64_8
 have t8 := QkH (K := 30) (k := Rat.divInt 1 8) (by omega) (by omega) (s1.mono (by omega))
 have zt := QnX z8 s1
 have zz : sz 0 ≤ 30 := by rw [QeF]; omega
 have gl := Qs3 (v := v) (w := w) (LI := [r, r5, r6]) (SP := [v, (0, 0), tmV (Rat.divInt 1 8) v, (v.1, 0), (0, v.2)]) hO (by omega) (s2.mono (by omega))
  (fun y hy => by
   simp only [List.mem_cons, List.not_mem_nil, or_false] at hy
   rcases hy with rfl | rfl | rfl
   ·exact s0.mono (by omega)
   ·exact z5
   ·exact z6) rfl
  (fun y hy => by
   simp only [List.mem_cons, List.not_mem_nil, or_false] at hy
   rcases hy with rfl | rfl | rfl | rfl | rfl
   ·exact s1.mono (by omega)
   ·exact ⟨zz, zz⟩
   ·exact zt.mono (by omega)
   ·exact ⟨Nat.le_trans s1.1 (by omega), zz⟩
   ·exact ⟨zz, Nat.le_trans s1.2 (by omega)⟩) (by simp) 3 0 (by omega)
 have nO : RwE cG (.z true) [] := .inl ⟨rfl, rfl⟩
 have n1 := Qqg (K := 30) nO (by simp) (by omega) (by simp) (s1.mono (by omega))
 have n2 := QlL (K := 30) nO (by simp) (by omega) (by simp) (s1.mono (by omega)) (s1.mono (by omega)) (s1.mono (by omega))
 have n3 := Qqp (K := 30) nO (by simp) (by omega) (by simp) (s1.mono (by omega)) (s1.mono (by omega))
 have n4 := Qpu (K := 30) nO (by simp) (by omega) (by simp) (s1.mono (by omega)) (s1.mono (by omega))
 have en1 : meG [] v = true := rfl
 have en2 : fiE (fun e => staG (alP e v v v)) [] ([] : List Eg).length 0 = -1 := rfl
 have en3 : beG [] v v = -1 := rfl
 have en4 : coG [] v v = -1 := rfl
 rw [en1] at n1
 rw [en2] at n2
 rw [en3] at n3
 rw [en4] at n4
 have tm1 : ((-1 : Int) == -1) = true := rfl
 have lv := lives13
 obtain ⟨ez1, ez2, ez3⟩ := encz
 rw [Qac (cf := Qeg) rfl]
 clear en1 en2 en3 en4 nO zz zt z8 s0 s1 s2 z5 z6 hO hn hx hs ba bb la lb x3 x10 ga gb g4
 generalize tmV (Rat.divInt 1 8) v = tv at *
 generalize Rat.divInt 1 8 = q8 at *
 obtain ⟨r1, r2⟩ := r
 obtain ⟨v1', v2'⟩ := v
 obtain ⟨w1', w2'⟩ := w
 obtain ⟨t1', t2'⟩ := tv
 obtain ⟨r51, r52⟩ := r5
 obtain ⟨r61, r62⟩ := r6
 simp only [QiV, Qs2, bxV, rowE, List.length_cons, List.length_nil, List.flatMap_cons, List.flatMap_nil, cV, ez1, ez2, ez3, List.cons_append, List.nil_append, List.append_nil, Nat.zero_add, Nat.reduceAdd, nc0, go_sem] at gl
 simp only [encV, encR, rowE, iv, bv] at g0 g1 g2 g5 g6 a0 a1 a2 a3' a4' a5 v0 v1 v2 o8 t8 n1 n2 n3 n4 lv
 simp -implicitDefEqProofs (maxSteps:=9^8) only [Qeg, gl, g0, g1, g2, g5, g6, a0, a1, a2, a3', a4', a5, v0, v1, v2, o8, t8, n1, n2, n3, n4, lv, tm1, rep3_8, rep5_8, Qdb, QbF, st4', Qfn, ld80, ld84, ld8, st8k, List.map_cons, List.map_nil, decide_true, decide_false, tupG, Qaa, go_sem, iv, bv, reduceCtorEq, ↓reduceIte, Nat.reduceEqDiff]
end Go.Proofs.YtfdelaplhpmneaaGreat.Pure

/- The row of GapFinds, out of its Pure. Printed by row.py. -/
namespace Go.Proofs.YtfdelaplhpmneaaGreat.gapFinds
open Go.ChangeShapes Go.WideShapes Go.ChangeAt Go.RowKit Go.AM
theorem own : ownKnob Tryz.prog.godebug = none := by kernel_rfl
theorem laidOut : laidOutB Tryz.prog = true := by kernel_rfl
set_option maxRecDepth 100000 in
theorem lifted (os : Os) (started : os.Started) (H : Type) (enc : TypeId × Value → H) :
    ReturnsInHanded {} Tryz.checked os 3 .any (Rows.gapFindsSpec.pre6 enc Tryz.prog Tryz.f3 Rows.gapFindsRow.domain false) (Rows.gapFindsSpec.post enc Tryz.prog Tryz.f3 false true false false) := by
  refine returnsInHanded_of_change_sized (C := Tryz.checked) own started (by kernel_rfl) Tryz.func3
    (ChangeSpec.witness6 (enc := enc) (C := Tryz.checked) false ⟨#[], #[.slice none 0 0, .slice none 0 0, .slice none 0 0, .int .i64 0, .int .i64 0], []⟩ 8 (by kernel_rfl) (by kernel_rfl) (by kernel_rfl) (by kernel_rfl)) ?_
  intro W base args ds gs before hval0 hW hcnd hsz0 _
  have hsz : (DataW.weightsEach Tryz.prog (Tryz.f3.params.toList ++ Rows.gapFindsSpec.plain.varTypes Tryz.prog) (ds ++ gs)).all (· ≤ reachBytes) = true := hsz0
  have hval : ∀ (j : Nat) t v, Tryz.f3.params[j]? = some t → args[j]? = some v → Value.okWide Tryz.prog W .any base t v := hval0
  have hW' := hW
  obtain ⟨p, q, hA0, hV, rfl, hfz, hnd⟩ := hW
  have hA : DataW.TrodAll enc Tryz.prog W 0 (fun _ => true) true Tryz.f3.params.toList args.toList ds p := hA0
  rw [Tryz.params3] at hA hval hsz
  obtain ⟨v0, vs0, d0, ds0, p0, q0, hargs, rfl, rfl, h0, r0⟩ := trodAll_cons hA
  obtain ⟨v1, vs1, d1, ds1, p1, q1, rfl, rfl, rfl, h1, r1⟩ := trodAll_cons r0
  obtain ⟨v2, vs2, d2, ds2, p2, q2, rfl, rfl, rfl, h2, r2⟩ := trodAll_cons r1
  obtain ⟨v3, vs3, d3, ds3, p3, q3, rfl, rfl, rfl, h3, r3⟩ := trodAll_cons r2
  obtain ⟨v4, vs4, d4, ds4, p4, q4, rfl, rfl, rfl, h4, r4⟩ := trodAll_cons r3
  obtain ⟨rfl, rfl, rfl⟩ := trodAll_nil r4
  obtain rfl : args = #[v0, v1, v2, v3, v4] := by cases args; simp_all
  obtain ⟨rfl, rfl⟩ := trodVars_none hV
  obtain ⟨a0, len0, cap0, rfl⟩ := okWide_slice Tryz.underlying22 (hval 0 22 v0 rfl rfl)
  have k0 := h0
  have lt0 : ∀ x ∈ p0, x.block < W.heap.size := by obtain ⟨m, hm⟩ := k0; exact DataW.trod_lt m _ _ _ hm
  obtain ⟨z0, w0, y0⟩ : ∃ zs, ((a0 = none ∧ len0 = 0 ∧ cap0 = 0 ∧ zs = []) ∨ ∃ x, a0 = some x ∧ len0 ≤ cap0 ∧ cap0 ≤ maxLen ∧ zs.length = cap0 ∧ (∀ i, i < zs.length → W.cell? (x.add i) = some (.int .i64 (zs.getD i 0))) ∧ ∀ n ∈ zs, (Lit.int .i64 n).wf = true) ∧ len0 * 8 ≤ 140737488351232 := by
    obtain ⟨fuel, hf⟩ := h0
    rcases open_ints Tryz.underlying22 Tryz.underlying3 (by kernel_rfl) hf with ⟨hcs, _⟩ | ⟨x, l, c, zs, hcs, _, hl, hm, hz, hx, hcell, hwz⟩
    · simp [Value.cells] at hcs
      obtain ⟨rfl, rfl, rfl⟩ := hcs
      exact ⟨[], .inl ⟨rfl, rfl, rfl, rfl⟩, by simp⟩
    · simp [Value.cells] at hcs
      obtain ⟨rfl, rfl, rfl⟩ := hcs
      refine ⟨zs, .inr ⟨_, rfl, hl, hm, by simpa using hz, hcell, hwz⟩, ?_⟩
      simp only [Prod.mk.injEq] at hx
      have hd := hx.1
      have z := sized_slice hsz (j := 0) (t := 22) rfl (by rw [hd]; rfl) Tryz.underlying22
      have hb : Tryz.prog.bytesOf 3 = 8 := by kernel_rfl
      rw [hb] at z
      have hr : reachBytes ≤ 140737488351232 := by decide
      have hz' : zs.length = cap0 := by simpa using hz
      simp only [lits, List.length_map, List.length_take, List.length_drop] at z
      omega
  obtain ⟨e0, l0, hd0, hrep0, hlen0, hwf0⟩ := QqX w0
  obtain ⟨a1, len1, cap1, rfl⟩ := okWide_slice Tryz.underlying22 (hval 1 22 v1 rfl rfl)
  have k1 := h1
  have lt1 : ∀ x ∈ p1, x.block < W.heap.size := by obtain ⟨m, hm⟩ := k1; exact DataW.trod_lt m _ _ _ hm
  obtain ⟨z1, w1, y1⟩ : ∃ zs, ((a1 = none ∧ len1 = 0 ∧ cap1 = 0 ∧ zs = []) ∨ ∃ x, a1 = some x ∧ len1 ≤ cap1 ∧ cap1 ≤ maxLen ∧ zs.length = cap1 ∧ (∀ i, i < zs.length → W.cell? (x.add i) = some (.int .i64 (zs.getD i 0))) ∧ ∀ n ∈ zs, (Lit.int .i64 n).wf = true) ∧ len1 * 8 ≤ 140737488351232 := by
    obtain ⟨fuel, hf⟩ := h1
    rcases open_ints Tryz.underlying22 Tryz.underlying3 (by kernel_rfl) hf with ⟨hcs, _⟩ | ⟨x, l, c, zs, hcs, _, hl, hm, hz, hx, hcell, hwz⟩
    · simp [Value.cells] at hcs
      obtain ⟨rfl, rfl, rfl⟩ := hcs
      exact ⟨[], .inl ⟨rfl, rfl, rfl, rfl⟩, by simp⟩
    · simp [Value.cells] at hcs
      obtain ⟨rfl, rfl, rfl⟩ := hcs
      refine ⟨zs, .inr ⟨_, rfl, hl, hm, by simpa using hz, hcell, hwz⟩, ?_⟩
      simp only [Prod.mk.injEq] at hx
      have hd := hx.1
      have z := sized_slice hsz (j := 1) (t := 22) rfl (by rw [hd]; rfl) Tryz.underlying22
      have hb : Tryz.prog.bytesOf 3 = 8 := by kernel_rfl
      rw [hb] at z
      have hr : reachBytes ≤ 140737488351232 := by decide
      have hz' : zs.length = cap1 := by simpa using hz
      simp only [lits, List.length_map, List.length_take, List.length_drop] at z
      omega
  obtain ⟨e1, l1, hd1, hrep1, hlen1, hwf1⟩ := QqX w1
  obtain ⟨a2, len2, cap2, rfl⟩ := okWide_slice Tryz.underlying22 (hval 2 22 v2 rfl rfl)
  have k2 := h2
  have lt2 : ∀ x ∈ p2, x.block < W.heap.size := by obtain ⟨m, hm⟩ := k2; exact DataW.trod_lt m _ _ _ hm
  obtain ⟨z2, w2, y2⟩ : ∃ zs, ((a2 = none ∧ len2 = 0 ∧ cap2 = 0 ∧ zs = []) ∨ ∃ x, a2 = some x ∧ len2 ≤ cap2 ∧ cap2 ≤ maxLen ∧ zs.length = cap2 ∧ (∀ i, i < zs.length → W.cell? (x.add i) = some (.int .i64 (zs.getD i 0))) ∧ ∀ n ∈ zs, (Lit.int .i64 n).wf = true) ∧ len2 * 8 ≤ 140737488351232 := by
    obtain ⟨fuel, hf⟩ := h2
    rcases open_ints Tryz.underlying22 Tryz.underlying3 (by kernel_rfl) hf with ⟨hcs, _⟩ | ⟨x, l, c, zs, hcs, _, hl, hm, hz, hx, hcell, hwz⟩
    · simp [Value.cells] at hcs
      obtain ⟨rfl, rfl, rfl⟩ := hcs
      exact ⟨[], .inl ⟨rfl, rfl, rfl, rfl⟩, by simp⟩
    · simp [Value.cells] at hcs
      obtain ⟨rfl, rfl, rfl⟩ := hcs
      refine ⟨zs, .inr ⟨_, rfl, hl, hm, by simpa using hz, hcell, hwz⟩, ?_⟩
      simp only [Prod.mk.injEq] at hx
      have hd := hx.1
      have z := sized_slice hsz (j := 2) (t := 22) rfl (by rw [hd]; rfl) Tryz.underlying22
      have hb : Tryz.prog.bytesOf 3 = 8 := by kernel_rfl
      rw [hb] at z
      have hr : reachBytes ≤ 140737488351232 := by decide
      have hz' : zs.length = cap2 := by simpa using hz
      simp only [lits, List.length_map, List.length_take, List.length_drop] at z
      omega
  obtain ⟨e2, l2, hd2, hrep2, hlen2, hwf2⟩ := QqX w2
  obtain ⟨a3, rfl, rfl, rfl, w3⟩ := open_int Tryz.underlying3 (hval 3 3 v3 rfl rfl) h3
  obtain ⟨a4, rfl, rfl, rfl, w4⟩ := open_int Tryz.underlying3 (hval 4 3 v4 rfl rfl) h4
  clear hA0 hval0 hsz0 hsz
  refine (law_walk envP (f := 3) (ds := [e0, e1, e2, (iv a3), (iv a4)]) (vs := [.slice a0 len0 cap0, .slice a1 len1 cap1, .slice a2 len2 cap2, .int .i64 a3, .int .i64 a4]) (w := W) (Qqo rfl W) (RepL.cons _ _ _ _ hrep0 (RepL.cons _ _ _ _ hrep1 (RepL.cons _ _ _ _ hrep2 (RepL.cons _ _ _ _ (RepD.v _) (RepL.cons _ _ _ _ (RepD.v _) RepL.nil))))) (Pure.GapFinds e0 l0 hd0 hwf0 (by rw [hlen0]; exact y0) e1 l1 hd1 hwf1 (by rw [hlen1]; exact y1) e2 l2 hd2 hwf2 (by rw [hlen2]; exact y2) a3 w3 a4 w4)).mono fun e W' ⟨he, bel⟩ => ?_
  subst he
  exact ⟨_, rfl, _, _, _, [], _, [], hW', trodAll_mk1 (shut_bool Tryz.underlying4 _), (trodAll_cons_mk (Below.trod laidOut (by kernel_rfl) (of_decide_eq_true (by kernel_rfl)) k0 bel lt0) (trodAll_cons_mk (Below.trod laidOut (by kernel_rfl) (of_decide_eq_true (by kernel_rfl)) k1 bel lt1) (trodAll_cons_mk (Below.trod laidOut (by kernel_rfl) (of_decide_eq_true (by kernel_rfl)) k2 bel lt2) (trodAll_cons_mk (shut_int Tryz.underlying3 w3) (trodAll_cons_mk (shut_int Tryz.underlying3 w4) trodAll_mk0))))), rfl, bel.frame _, fun h => by cases h⟩
theorem over : Rows.gapFindsRow.holds Tryz.pinned (OpenSpec.ofChange Rows.gapFindsSpec) :=
 OpenClaim.holds_of_wide 3 Tryz.f3 rfl rfl rfl rfl rfl rfl rfl ⟨rfl, rfl, rfl, rfl, rfl⟩ rfl rfl rfl rfl rfl (by kernel_rfl) Tryz.func3 (by kernel_rfl)
  (of_decide_eq_true (by kernel_rfl)) (by unfold Func.isWrapper; first | (rw [if_pos (by decide +kernel)]; kernel_rfl) | (rw [if_neg (by decide +kernel)]; exact ⟨rfl, rfl⟩))
  (fun os started H enc _ => lifted os started H enc)
theorem proved : Rows.GapFindsSaid := over
end Go.Proofs.YtfdelaplhpmneaaGreat.gapFinds
namespace Go.Proofs.YtfdelaplhpmneaaGreat
theorem gapFinds_holds : Rows.GapFindsSaid := gapFinds.proved
end Go.Proofs.YtfdelaplhpmneaaGreat


