/- Part 8 of the proof: a small machine, its soundness against the model, and what the program's functions compute on it. -/
import Derived.Test.YtbbemgfheagobaaGreatM7
import Derived.Test.YtbbemgfheagobaaGreatM6
import Derived.Test.YtbbemgfheagobaaGreatM5
import Derived.Test.YtbbemgfheagobaaGreatM3
set_option linter.unusedVariables false
set_option linter.unusedSimpArgs false
/- ref06: Trim, Small, Mul. -/
namespace Go.AM
open Go Go.RowKit

def smR (n : Int) : Rat := Rat.divInt (arnd n 105 % 15 - 7) (1 + arnd n 105 / 15 % 4)
theorem smR_H (n : Int) : H1 1 1 (smR n) := by
 have b := arnd_b (n := n) (m := 105) (by omega)
 have hd : 0 < 1 + arnd n 105 / 15 % 4 := by omega
 refine ⟨(1 + arnd n 105 / 15 % 4).natAbs, by omega, ?_, (Hq.div hd).le ?_⟩
 ·rw [Nat.pow_one]; show _ ≤ 1000000000; omega
 ·rw [Nat.pow_one]; show _ ≤ 1000000000; omega
theorem Qog (n : Int) : sz (smR n) ≤ 2 := (smR_H n).sz
theorem evR_set (x c : Rat) : ∀ (l : List Rat) (t : Nat), t < l.length → evR (l.set t (l.getD t 0 + c)) x = evR l x + c * x ^ t
 | [], t, h => by simp at h
 | a :: l, 0, h => by
  show evR l x * x + (a + c) = evR l x * x + a + c * x ^ 0
  rw [Rat.pow_zero]
  generalize evR l x = u; grind
 | a :: l, t + 1, h => by
  have ih := evR_set x c l t (by simpa using h)
  show evR (l.set t (l.getD t 0 + c)) x * x + a = evR l x * x + a + c * x ^ (t + 1)
  rw [ih, Rat.pow_succ]
  generalize evR l x = u; generalize x ^ t = p; grind
theorem QpJ (l : List Rat) (x : Rat) {k : Nat} (h : k < l.length) : evR (l.drop k) x = evR (l.drop (k + 1)) x * x + l.getD k 0 := by
 have e : l.drop k = l.getD k 0 :: l.drop (k + 1) := by
  rw [List.drop_eq_getElem_cons h, List.getD_eq_getElem?_getD, List.getElem?_eq_getElem h]; rfl
 rw [e, QaG]
theorem Qq4 (n : Nat) (x : Rat) : evR (List.replicate n 0) x = 0 := Qib (fun q hq => (List.mem_replicate.1 hq).2) x
theorem Hq_set {D X : Nat} {l : List Rat} {t : Nat} {c : Rat} (h : ∀ q ∈ l, Hq D X q) (hc : Hq D X c) : ∀ q ∈ l.set t c, Hq D X q := fun q hq => by
 rcases List.mem_or_eq_of_mem_set hq with h1 | h1
 ·exact h q h1
 ·rw [h1]; exact hc
variable [Its]

theorem Qjf {n : Int} (hn : I64 n) : Qaj G Qcp [iv n] = some (.d (encR (smR n))) := by
 rw [Qad (cf := Qd4) rfl]
 have g1 := QkA (n := n) (m := 105) hn (by omega)
 have b := arnd_b (n := n) (m := 105) (by omega)
 unfold smR
 generalize arnd n 105 = k at *
 have e1 := Qdn (a := k) (b := 15) (by omega)
 have e2 := QeF (a := k) (b := 15) (by omega)
 have e3 : w64 (k % 15 - 7) = k % 15 - 7 := Qaf (by omega) (by omega)
 have e4 : w64 (k / 15) = k / 15 := Qaf (by omega) (by omega)
 have e5 := Qdn (a := k / 15) (b := 4) (by omega)
 have e6 : w64 (1 + k / 15 % 4) = 1 + k / 15 % 4 := Qaf (by omega) (by omega)
 have z1 := Qkw (b := (15 : Int)) (by omega)
 have z2 := Qkw (b := (4 : Int)) (by omega)
 have g2 := Qgn (n := k % 15 - 7) (d := 1 + k / 15 % 4) ⟨by omega, by omega⟩ ⟨by omega, by omega⟩
 generalize Rat.divInt (k % 15 - 7) (1 + k / 15 % 4) = r at *
 simp only [encR, iv] at g1 g2
 simp -implicitDefEqProofs (maxSteps:=9^8) only [Qd4, encR, e1, e2, e3, e4, e5, e6, z1, z2, g1, g2, go_sem, Qab, Qaa, iv, bv, reduceCtorEq, ↓reduceIte, Nat.reduceEqDiff]

/-! ### Trim -/
def QfC (d : D) (n : Int) : St := mkS [(0, .d d), (3, ai n)] []
theorem rtr_go {d : D} {l : List Rat} (hr : RwR d l) {n : Nat} (hn : n < l.length) (hl : l.length * 64 ≤ 140737488351232) (sl : SzL 100000000000 l) (h0 : l.getD n 0 = 0) : X G QaP (QfC d ((n + 1 : Nat) : Int)) = some (.n, QfC d (n : Int)) := by
 have e1 : decide (((n + 1 : Nat) : Int) > 0) = true := gt_t (by omega)
 have e2 : w64 (((n + 1 : Nat) : Int) - 1) = (n : Int) := by rw [Qaf (by omega) (by omega)]; omega
 have e6 : (if (0 : Int) > (n : Int) then (0 : Int) else (n : Int)) = (n : Int) := if_neg (by omega)
 have e3 := hr.ixa hn
 have e4 := fun h => ldR h l hn
 have g := QiC (a := l.getD n 0) (sl.getD (by omega) n)
 have e5 : (Int.sign (l.getD n 0).num == 0) = true := by rw [sgn0]; exact decide_eq_true h0
 clear h0
 generalize ((n + 1 : Nat) : Int) = n1 at *
 generalize l.getD n 0 = q at *
 simp only [encR, iv] at e4 g
 simp -implicitDefEqProofs (maxSteps:=9^8) only [QaP, QfC, Qej, mxV, e6, go_sem, iv, bv, e1, e2, e3, e4, e5, g, reduceCtorEq, ↓reduceIte, Nat.reduceEqDiff]
theorem rtr_stop {d : D} {l : List Rat} (hr : RwR d l) {n : Nat} (hn : n < l.length) (hl : l.length * 64 ≤ 140737488351232) (sl : SzL 100000000000 l) (h0 : l.getD n 0 ≠ 0) : X G QaP (QfC d ((n + 1 : Nat) : Int)) = some (.x 0, QfC d ((n + 1 : Nat) : Int)) := by
 have e1 : decide (((n + 1 : Nat) : Int) > 0) = true := gt_t (by omega)
 have e2 : w64 (((n + 1 : Nat) : Int) - 1) = (n : Int) := by rw [Qaf (by omega) (by omega)]; omega
 have e6 : (if (0 : Int) > (n : Int) then (0 : Int) else (n : Int)) = (n : Int) := if_neg (by omega)
 have e3 := hr.ixa hn
 have e4 := fun h => ldR h l hn
 have g := QiC (a := l.getD n 0) (sl.getD (by omega) n)
 have e5 : (Int.sign (l.getD n 0).num == 0) = false := by rw [sgn0]; exact decide_eq_false h0
 clear h0
 generalize ((n + 1 : Nat) : Int) = n1 at *
 generalize l.getD n 0 = q at *
 simp only [encR, iv] at e4 g
 simp -implicitDefEqProofs (maxSteps:=9^8) only [QaP, QfC, Qej, mxV, e6, go_sem, iv, bv, e1, e2, e3, e4, e5, g, reduceCtorEq, ↓reduceIte, Nat.reduceEqDiff]
theorem rtr_zero {d : D} : X G QaP (QfC d 0) = some (.x 0, QfC d 0) := by
 have e1 : decide ((0 : Int) > 0) = false := rfl
 simp -implicitDefEqProofs (maxSteps:=9^8) only [QaP, QfC, go_sem, iv, bv, e1, reduceCtorEq, ↓reduceIte, Nat.reduceEqDiff]
theorem Qqg {d : D} {l : List Rat} (hr : RwR d l) (hl : l.length * 64 ≤ 140737488351232) (sl : SzL 100000000000 l) : ∀ n : Nat, n ≤ l.length → X G (.loop QaP) (QfC d (n : Int)) = some (.x 0, QfC d (cutR l n : Nat))
 | 0, _ => by
  rw [Qak]
  show (X G QaP (QfC d 0)).bind _ = _
  rw [rtr_zero]; rfl
 | n + 1, hn => by
  rw [Qak, cutR]
  by_cases h0 : l.getD n 0 = 0
  ·rw [rtr_go hr (by omega) hl sl h0, Option.bind_some, if_pos rfl, if_pos h0]
   exact Qqg hr hl sl n (by omega)
  ·rw [rtr_stop hr (by omega) hl sl h0, if_neg h0]; rfl
theorem Qhk {d : D} {l : List Rat} (hr : RwR d l) (hl : l.length * 64 ≤ 140737488351232) (sl : SzL 100000000000 l) : ∃ d', RwR d' (Qa2 l) ∧ Qaj G QbL [d] = some (.d d') := by
 rw [Qad (cf := Qcz) rfl]
 have hl' := Qqg hr hl sl l.length (Nat.le_refl _)
 have hc := Qi5 l l.length
 have ll := hr.len
 rcases hr with ⟨rfl, rfl⟩ | rfl
 ·simp only [QfC, List.length_nil, cutR, go_sem] at hl'
  refine ⟨.z true, .inl ⟨rfl, rfl⟩, ?_⟩
  have b0 : (0 * 64 ≤ bound) = True := eq_true (by decide)
  simp -implicitDefEqProofs (maxSteps:=9^8) only [Qcz, slcA, bnds, optI, srcS, src, b0, List.length_nil, Nat.zero_mul, Nat.zero_le, go_sem, iv, bv, hl', ll, Int.le_refl, reduceCtorEq, ↓reduceIte, Nat.reduceEqDiff]
 ·refine ⟨dR (Qa2 l), dR_ok _, ?_⟩
  have e1 : rowR (Qa2 l) = .row (cutR l l.length) ((cRs l).take (cutR l l.length * 4)) := by rw [rowR, Qff, Qa2, Qh3]
  have e0 : dR (Qa2 l) = if cutR l l.length = 0 then .z true else .row (cutR l l.length) ((cRs l).take (cutR l l.length * 4)) := by
   rw [dR, e1]
   have := Qff l
   by_cases h : Qa2 l = []
   ·rw [if_pos h, if_pos (by rw [← this, h]; rfl)]
   ·rw [if_neg h, if_neg (fun h' => h (List.eq_nil_of_length_eq_zero (by omega)))]
  rw [e0]
  have e2 : (((0 : Int) ≤ 0 ∧ (0 : Int) ≤ (cutR l l.length : Nat) ∧ ((cutR l l.length : Nat) : Int) ≤ (l.length : Nat))) = True := eq_true ⟨by omega, by omega, by omega⟩
  have e3 : ((cutR l l.length : Nat) : Int).toNat = cutR l l.length := Int.toNat_natCast _
  have e5 : ((0 : Int) ≤ (cutR l l.length : Nat)) = True := eq_true (by omega)
  have e6 : (((cutR l l.length : Nat) : Int) ≤ (l.length : Nat)) = True := eq_true (by omega)
  have e7 : (cutR l l.length * 64 ≤ bound) = True := eq_true (by unfold bound; omega)
  have e8 : ((cRs l).take (cutR l l.length * 4)).length = cutR l l.length * 4 := by rw [List.length_take, Qc5]; omega
  clear e0 e1
  unfold rowR at *
  generalize cutR l l.length = c at *
  generalize cRs l = cs at *
  simp only [QfC, go_sem] at hl'
  by_cases h0 : c = 0
  ·subst h0
   simp only [Nat.zero_mul, List.take_zero] at e8 ⊢
   have b0 : (0 * 64 ≤ bound) = True := eq_true (by decide)
   have b1 : ((0 : Int) ≤ (l.length : Int)) = True := eq_true (by omega)
   simp -implicitDefEqProofs (maxSteps:=9^8) only [Qcz, b1, slcA, bnds, optI, srcS, src, b0, List.length_nil, List.take_zero, Nat.zero_mul, Nat.zero_le, go_sem, iv, bv, hl', ll, e2, e3, e5, e6, Int.le_refl, and_self, reduceCtorEq, ↓reduceIte, Nat.reduceEqDiff]
  ·simp -implicitDefEqProofs (maxSteps:=9^8) only [Qcz, slcA, bnds, optI, srcS, src, h0, e7, e8, go_sem, iv, bv, hl', ll, e2, e3, e5, e6, Int.le_refl, and_self, reduceCtorEq, ↓reduceIte, Nat.reduceEqDiff]

/-! ### Mul -/
def Qka (dp dq : D) (L : List Rat) (n : Nat) (i k : Int) : St := mkS [(0, .d dp), (1, .d dq), (5, .own [22] n), (6, ai i), (7, ai k)] [([22], arrR n L)]
def Qg2 (dp dq : D) (L : List Rat) (n : Nat) (i : Int) : St := mkS [(0, .d dp), (1, .d dq), (5, .own [22] n), (6, ai i)] [([22], arrR n L)]
def Qql (L : List Rat) (n : Nat) : St := mkS [(5, .own [22] n)] [([22], arrR n L)]
section
variable {dp dq : D} {p q : List Rat} {n : Nat}
theorem rmi_go (hp : RwR dp p) (hq : RwR dq q) {L : List Rat} (hL : L.length = n) {i k : Nat} (hi : i < p.length) (hk : k < q.length) (hn : i + k < n) (hn2 : n ≤ 1000000000) {K : Nat} (hK1 : 1 ≤ K) (hK : K ≤ 10000000000) (sp : SzL K p) (sq : SzL K q) (sL : SzL K L) :
    X G QbO (Qka dp dq L n i k) = some (.n, Qka dp dq (L.set (i + k) (L.getD (i + k) 0 + p.getD i 0 * q.getD k 0)) n i ((k + 1 : Nat) : Int)) := by
  have e1 : decide ((k : Int) < (q.length : Int)) = true := lt_t (by omega)
  obtain ⟨t, ht⟩ : ∃ t : Int, t = ((i + k : Nat) : Int) := ⟨_, rfl⟩
  have e2 : w64 ((i : Int) + (k : Int)) = t := by rw [Qaf (by omega) (by omega)]; omega
  have e3 : w64 ((k : Int) + 1) = ((k + 1 : Nat) : Int) := by rw [Qaf (by omega) (by omega)]; rfl
  have c1 : ((0 : Int) ≤ t) = True := eq_true (by omega)
  have c2 : (t < (n : Int)) = True := eq_true (by omega)
  have c3 : t.toNat = i + k := by omega
  have lq := hq.len
  have x1 := hp.ixa hi
  have y1 := fun h => ldR h p hi
  have x2 := hq.ixa hk
  have y2 := fun h => ldR h q hk
  have s1 := sp.getD hK1 i
  have s2 := sq.getD hK1 k
  have s3 := sL.getD hK1 (i + k)
  have g1 := Qm7 (a := p.getD i 0) (b := q.getD k 0) (by omega) (by omega)
  have k1 := Qli (a := p.getD i 0) (b := q.getD k 0)
  have g2 := Qou (a := L.getD (i + k) 0) (b := p.getD i 0 * q.getD k 0) (by omega) (by omega)
  have l1 := ld_cA (l := L) (j := i + k) (by omega)
  have t1 := st_cA (l := L) (j := i + k) (by omega) (L.getD (i + k) 0 + p.getD i 0 * q.getD k 0)
  clear s1 s2 s3 k1 sp sq sL ht
  generalize L.getD (i + k) 0 + p.getD i 0 * q.getD k 0 = r at *
  generalize p.getD i 0 * q.getD k 0 = pr at *
  generalize p.getD i 0 = u at *
  generalize q.getD k 0 = v at *
  generalize L.getD (i + k) 0 = w at *
  generalize cRs (p.drop i) = cs1 at *
  generalize cRs (q.drop k) = cs2 at *
  simp only [encR] at g1 g2 y1 y2
  simp -implicitDefEqProofs (maxSteps:=9^8) only [QbO, Qka, Qcs, allD, l1, t1, lq, x1, y1, x2, y2, c1, c2, c3, e1, e2, e3, g1, g2, go_sem, iv, bv, and_self, reduceCtorEq, ↓reduceIte, Nat.reduceEqDiff]
theorem rmi_stop (hq : RwR dq q) {L : List Rat} {i : Int} : X G QbO (Qka dp dq L n i (q.length : Nat)) = some (.x 2, Qg2 dp dq L n i) := by
 have e1 : decide ((q.length : Int) < (q.length : Int)) = false := lt_f (by omega)
 have lq := hq.len
 simp -implicitDefEqProofs (maxSteps:=9^8) only [QbO, Qka, Qg2, Qcs, lq, e1, go_sem, iv, bv, reduceCtorEq, ↓reduceIte, Nat.reduceEqDiff]
variable {D E XX YY d h K : Nat}
theorem Qp0      (hp : RwR dp p) (hq : RwR dq q) (hn2 : n ≤ 1000000000) (hK1 : 1 ≤ K) (hK : K ≤ 10000000000) (sp : SzL K p) (sq : SzL K q) (hsz : ∀ (m : Nat) (x : Rat), m ≤ p.length * q.length → Hq (D * E) (m * (XX * YY)) x → sz x ≤ K) (Hp : ∀ x ∈ p, Hq D XX x) (Hqq : ∀ x ∈ q, Hq E YY x) {i : Nat} (hi : i < p.length) (hn : p.length + q.length = n + 1) :
    ∀ (j k m : Nat) (L : List Rat), k + j = q.length → L.length = n → m + j ≤ p.length * q.length → (∀ x ∈ L, Hq (D * E) (m * (XX * YY)) x) →
    ∃ L', L'.length = n ∧ (∀ x ∈ L', Hq (D * E) ((m + j) * (XX * YY)) x) ∧ (∀ x, evR L' x = evR L x + p.getD i 0 * x ^ (i + k) * evR (q.drop k) x) ∧ X G (.loop QbO) (Qka dp dq L n i k) = some (.x 2, Qg2 dp dq L' n i)
  | 0, k, m, L, hk, hL, hm, HL => by
    have : k = q.length := by omega
    subst this
    refine ⟨L, hL, HL, fun x => ?_, by rw [Qak, rmi_stop hq]; rfl⟩
    rw [List.drop_length, QaF, Rat.mul_zero, Rat.add_zero]
  | j + 1, k, m, L, hk, hL, hm, HL => by
    have hstep := ((Hq.getD Hp i).mul (Hq.getD Hqq k))
    have hnew := (Hq.getD HL (i + k)).add hstep
    have e1 : m * (XX * YY) + XX * YY = (m + 1) * (XX * YY) := by rw [Nat.succ_mul]
    rw [e1] at hnew
    have HL2 : ∀ x ∈ L.set (i + k) (L.getD (i + k) 0 + p.getD i 0 * q.getD k 0), Hq (D * E) ((m + 1) * (XX * YY)) x := Hq_set (fun x hx => (HL x hx).le (Nat.mul_le_mul_right _ (by omega))) hnew
    obtain ⟨L', a1, a2, a3, a4⟩ := Qp0 hp hq hn2 hK1 hK sp sq hsz Hp Hqq hi hn j (k + 1) (m + 1) (L.set (i + k) (L.getD (i + k) 0 + p.getD i 0 * q.getD k 0)) (by omega) (by rw [List.length_set, hL]) (by omega) HL2
    refine ⟨L', a1, by rw [show m + (j + 1) = m + 1 + j by omega]; exact a2, fun x => ?_, ?_⟩
    · rw [a3, evR_set x _ L (i + k) (by omega), QpJ q x (k := k) (by omega), show i + (k + 1) = (i + k) + 1 by omega, Rat.pow_succ]
      generalize evR L x = u; generalize evR (q.drop (k + 1)) x = v; generalize x ^ (i + k) = w; generalize p.getD i 0 = a; generalize q.getD k 0 = b
      grind
    · rw [Qak, rmi_go hp hq hL hi (by omega) (by omega) hn2 hK1 hK sp sq (fun x hx => hsz m x (by omega) (HL x hx)), Option.bind_some, if_pos rfl]
      exact a4
theorem QqH      (hp : RwR dp p) (hq : RwR dq q) (hn2 : n ≤ 1000000000) (hK1 : 1 ≤ K) (hK : K ≤ 10000000000) (sp : SzL K p) (sq : SzL K q) (hsz : ∀ (m : Nat) (x : Rat), m ≤ p.length * q.length → Hq (D * E) (m * (XX * YY)) x → sz x ≤ K) (Hp : ∀ x ∈ p, Hq D XX x) (Hqq : ∀ x ∈ q, Hq E YY x) (hn : p.length + q.length = n + 1) (hq0 : 0 < q.length) :
    ∀ (j i : Nat) (L : List Rat), i + j = p.length → L.length = n → (∀ x ∈ L, Hq (D * E) (i * q.length * (XX * YY)) x) →
    ∃ L', L'.length = n ∧ (∀ x ∈ L', Hq (D * E) (p.length * q.length * (XX * YY)) x) ∧ (∀ x, evR L' x = evR L x + x ^ i * evR (p.drop i) x * evR q x) ∧ X G (.loop QbQ) (Qg2 dp dq L n i) = some (.x 0, Qql L' n)
  | 0, i, L, hi, hL, HL => by
    have : i = p.length := by omega
    subst this
    have lp := hp.len
    have e1 : decide ((p.length : Int) < (p.length : Int)) = false := lt_f (by omega)
    refine ⟨L, hL, HL, fun x => by rw [List.drop_length, QaF, Rat.mul_zero, Rat.zero_mul, Rat.add_zero], ?_⟩
    have : X G QbQ (Qg2 dp dq L n (p.length : Nat)) = some (.x 0, Qql L n) := by
      simp -implicitDefEqProofs (maxSteps:=9^8) only [QbQ, Qg2, Qql, Qcs, lp, e1, go_sem, iv, bv, reduceCtorEq, ↓reduceIte, Nat.reduceEqDiff]
    rw [Qak, this]; rfl
  | j + 1, i, L, hi, hL, HL => by
    have hile : (i + 1) * q.length ≤ p.length * q.length := Nat.mul_le_mul_right _ (by omega)
    have hsm : (i + 1) * q.length = i * q.length + q.length := Nat.succ_mul ..
    obtain ⟨L1, b1, b2, b3, b4⟩ := Qp0 hp hq hn2 hK1 hK sp sq hsz Hp Hqq (i := i) (by omega) hn q.length 0 (i * q.length) L (by omega) hL (by omega) HL
    rw [← hsm] at b2
    obtain ⟨L', a1, a2, a3, a4⟩ := QqH hp hq hn2 hK1 hK sp sq hsz Hp Hqq hn hq0 j (i + 1) L1 (by omega) b1 b2
    refine ⟨L', a1, a2, fun x => ?_, ?_⟩
    · rw [a3, b3, QpJ p x (k := i) (by omega), List.drop_zero, Nat.add_zero, Rat.pow_succ]
      generalize evR L x = u; generalize evR (p.drop (i + 1)) x = v; generalize x ^ i = w; generalize p.getD i 0 = a; generalize evR q x = b
      grind
    · have lp := hp.len
      have e1 : decide ((i : Int) < (p.length : Int)) = true := lt_t (by omega)
      have hpl : p.length ≤ n := by omega
      have e3 : w64 ((i : Int) + 1) = ((i + 1 : Nat) : Int) := by rw [Qaf (by omega) (by omega)]; rfl
      have n0 : ((0 : Nat) : Int) = 0 := rfl
      rw [n0] at b4
      have : X G QbQ (Qg2 dp dq L n i) = some (.n, Qg2 dp dq L1 n ((i + 1 : Nat) : Int)) := by
        simp only [Qka, Qg2, go_sem] at b4
        simp -implicitDefEqProofs (maxSteps:=9^8) only [QbQ, Qg2, Qcs, lp, e1, e3, b4, go_sem, iv, bv, reduceCtorEq, ↓reduceIte, Nat.reduceEqDiff]
      rw [Qak, this, Option.bind_some, if_pos rfl]
      exact a4
theorem QlL        {d1 h1 d2 h2 : Nat} (hp : RwR dp p) (hq : RwR dq q) (Hp : HL d1 h1 p) (Hq' : HL d2 h2 q) (np : p.length ≤ 1000) (nq : q.length ≤ 1000) (hd : d1 + d2 ≤ 1000000000) (hh : h1 + h2 ≤ 1000000000) :
    ∃ d', RwR d' (muP p q) ∧ Qaj G Qd0 [dp, dq] = some (.d d') := by
  rw [Qad (cf := QcK) rfl]
  have lp := hp.len
  have lq := hq.len
  have e00 : ((0 : Int) == 0) = true := rfl
  by_cases p0 : p.length = 0
  · have : p = [] := List.eq_nil_of_length_eq_zero p0
    subst this
    have em : muP [] q = [] := Qgx (Qky _ _) Qf9 (fun x => by rw [Qbb, QaF, Rat.zero_mul])
    rw [em]
    refine ⟨.z true, .nil, ?_⟩
    simp only [List.length_nil] at lp
    simp -implicitDefEqProofs (maxSteps:=9^8) only [QcK, lp, lq, e00, go_sem, iv, bv, reduceCtorEq, ↓reduceIte, Nat.reduceEqDiff]
  by_cases q0 : q.length = 0
  · have : q = [] := List.eq_nil_of_length_eq_zero q0
    subst this
    have em : muP p [] = [] := Qgx (Qky _ _) Qf9 (fun x => by rw [Qbb, QaF, Rat.mul_zero])
    rw [em]
    refine ⟨.z true, .nil, ?_⟩
    simp only [List.length_nil] at lq
    have ep : ((p.length : Int) == 0) = false := Qcu (by omega)
    simp -implicitDefEqProofs (maxSteps:=9^8) only [QcK, lp, lq, ep, e00, go_sem, iv, bv, reduceCtorEq, ↓reduceIte, Nat.reduceEqDiff]
  have ep : ((p.length : Int) == 0) = false := Qcu (by omega)
  have eq : ((q.length : Int) == 0) = false := Qcu (by omega)
  obtain ⟨n, hn⟩ : ∃ n, p.length + q.length = n + 1 := ⟨p.length + q.length - 1, by omega⟩
  obtain ⟨D, a1, a2, a3⟩ := Hp
  obtain ⟨E, b1, b2, b3⟩ := Hq'
  have hDE : D * E ≤ BB ^ (d1 + d2) := Qcv a2 b2
  have hsz : ∀ (m : Nat) (x : Rat), m ≤ p.length * q.length → Hq (D * E) (m * (BB ^ h1 * BB ^ h2)) x → sz x ≤ 10000000000 := fun m x hm hx => by
    have hm2 : p.length * q.length ≤ 1000 * 1000 := Nat.mul_le_mul np nq
    have hX : m * (BB ^ h1 * BB ^ h2) ≤ BB ^ (1 + (h1 + h2)) := Qcv (by rw [Nat.pow_one]; show m ≤ 1000000000; omega) (Qcv (Nat.le_refl _) (Nat.le_refl _))
    have := Hq.sz (Nat.mul_pos a1 b1) hDE hX hx
    omega
  have sp : SzL 10000000000 p := ((HL.sz ⟨D, a1, a2, a3⟩).mono (by omega))
  have sq : SzL 10000000000 q := ((HL.sz ⟨E, b1, b2, b3⟩).mono (by omega))
  obtain ⟨L', c1, c2, c3, c4⟩ := QqH (D := D) (E := E) (XX := BB ^ h1) (YY := BB ^ h2) (K := 10000000000) hp hq (n := n) (by omega) (by omega) (by omega) sp sq hsz a3 b3 hn (by omega) p.length 0 (List.replicate n 0) (by omega) (by simp) (fun x hx => by rw [(List.mem_replicate.1 hx).2]; exact Hq.zero _ _)
  obtain ⟨d', hr', gT⟩ := Qhk (RwR.row L') (by omega) (fun x hx => Nat.le_trans (hsz _ x (Nat.le_refl _) (c2 x hx)) (by omega))
  have em : Qa2 L' = muP p q := Qgx (QbE _) (Qky _ _) (fun x => by
    rw [Qbl, c3, Qq4, Rat.pow_zero, List.drop_zero, Qbb, Rat.zero_add, Rat.one_mul])
  rw [em] at hr'
  refine ⟨d', hr', ?_⟩
  have z0 : ((0 : Nat) : Int) = 0 := rfl
  rw [z0] at c4
  obtain ⟨z, hz⟩ : ∃ z, (p.length : Int) + (q.length : Int) = z := ⟨_, rfl⟩
  have e1 : w64 ((p.length : Int) + (q.length : Int)) = z := by rw [Qaf (by omega) (by omega), hz]
  have e2 : w64 (z - 1) = (n : Int) := by rw [Qaf (by omega) (by omega)]; omega
  have f1 : ((0 : Int) ≤ (n : Int)) = True := eq_true (by omega)
  have f2 : ((n : Int) * ((64 : Nat) : Int) ≤ (bound : Int)) = True := eq_true (by have : (bound : Int) = 140737488351232 := rfl; omega)
  have r0 := Qo2 n
  have m0 := QoI (List.replicate n (0 : Rat))
  rw [rowR, c1] at gT
  clear c1 c2 c3 hr' em sp sq hsz hz
  simp only [Qg2, Qql, go_sem] at c4
  simp -implicitDefEqProofs (maxSteps:=9^8) only [QcK, Qhy, lp, lq, ep, eq, e1, e2, f1, f2, r0, m0, Int.toNat_natCast, c4, gT, Qma, Qcs, true_and, and_self, go_sem, iv, bv, reduceCtorEq, ↓reduceIte, Nat.reduceEqDiff]
end
end Go.AM

/- ref06.Poly. -/
namespace Go.AM
open Go Go.RowKit

theorem H1.neg {d h : Nat} {q : Rat} (H : H1 d h q) : H1 d h (-q) := by
 obtain ⟨D, h1, h2, h3⟩ := H
 exact ⟨D, h1, h2, h3.neg⟩
theorem H1.one : H1 0 0 1 := ⟨1, by omega, by simp [BB], ⟨1, Rat.mul_one _, by simp⟩⟩
theorem HL.cons {d1 h1 d2 h2 : Nat} {a : Rat} {l : List Rat} (H : H1 d1 h1 a) (H' : HL d2 h2 l) : HL (d1 + d2) (max (h1 + d2) (h2 + d1)) (a :: l) := by
 obtain ⟨D, a1, a2, a3⟩ := H
 obtain ⟨E, b1, b2, b3⟩ := H'
 refine ⟨D * E, Nat.mul_pos a1 b1, Qcv a2 b2, fun q hq => ?_⟩
 rcases List.mem_cons.1 hq with rfl | hq
 ·exact (a3.lift E).le (Nat.le_trans (Qcv (Nat.le_refl _) b2) (Qdz (by omega)))
 ·exact ((b3 q hq).lift' D).le (Nat.le_trans (Qcv a2 (Nat.le_refl _)) (Qdz (by omega)))
theorem QrH (a b c d : D) : rep 2 [a, b, c, d] = [a, b, c, d, a, b, c, d] := rfl
theorem rep3c_ (a b c d : D) : rep 3 [a, b, c, d] = [a, b, c, d, a, b, c, d, a, b, c, d] := rfl
variable [Its]

theorem rone_of : Qaj G Qba [iv 1, iv 1] = some (.d (encR 1)) := by
 have g := Qgn (n := 1) (d := 1) ⟨by omega, by omega⟩ ⟨by omega, by omega⟩
 have e : Rat.divInt 1 1 = 1 := Qc4 1
 rw [e] at g; exact g
section
variable {e0 : D} {l : List Int}
end
end Go.AM

/- How great the coefficients of a shift are. -/
namespace Go.AM
open Go Go.RowKit

theorem evR_dropL (l : List Rat) (x : Rat) {k : Nat} (h : k < l.length) : evR (l.drop k) x = evR (l.drop (k + 1)) x * x + l.getD k 0 := by
 have e : l.drop k = l.getD k 0 :: l.drop (k + 1) := by
  rw [List.drop_eq_getElem_cons h, List.getD_eq_getElem?_getD, List.getElem?_eq_getElem h]; rfl
 rw [e, QaG]
theorem QpC (a : Rat) : ∀ (s : List Rat) (i : Nat), s ≠ [] → (evR s a :: syn s a).getD i 0 = evR (s.drop i) a
 | [], _, h => absurd rfl h
 | [x], 0, _ => rfl
 | [x], i + 1, _ => by
  rw [syn]
  show (0 : Rat) = evR ([].drop i) a
  rw [List.drop_nil, QaF]
 | x :: b :: l, 0, _ => rfl
 | x :: b :: l, i + 1, _ => by
  rw [syn]
  show (evR (b :: l) a :: syn (b :: l) a).getD i 0 = evR ((b :: l).drop i) a
  exact QpC a (b :: l) i (by simp)
theorem hst_getD {l : List Rat} {a : Rat} {j : Nat} (hj : j < l.length) (t : Nat) : (hst l a j).getD t 0 = if t < j then l.getD t 0 else evR (l.drop t) a := by
  have hT : (l.take j).length = j := by rw [List.length_take]; omega
  unfold hst
  by_cases h : t < j
  · rw [if_pos h, List.getD_eq_getElem?_getD, List.getElem?_append_left (by omega), List.getElem?_take_of_lt h, ← List.getD_eq_getElem?_getD]
  · rw [if_neg h, List.getD_eq_getElem?_getD, List.getElem?_append_right (by omega), ← List.getD_eq_getElem?_getD, hT, QpC      a _ _ (by
      intro h0; have := congrArg List.length h0; rw [List.length_drop] at this; simp at this; omega), List.drop_drop, show j + (t - j) = t by omega]
def WS (D v n H : Nat) (l : List Rat) : Prop := ∀ k, k ≤ n → Hq (D * v ^ (n - k)) H (l.getD k 0)
theorem WS.suffix {D v n H U : Nat} {l : List Rat} {a : Rat} (h : WS D v n H l) (ha : Hq v U a) (hl : l.length ≤ n) : ∀ j t : Nat, t + j = n → Hq (D * v ^ (n - t)) (H * (1 + U) ^ j) (evR (l.drop t) a)
 | 0, t, ht => by
  rw [List.drop_of_length_le (by omega), QaF]; exact Hq.zero _ _
 | j + 1, t, ht => by
  by_cases h1 : t < l.length
  ·have ih := WS.suffix h ha hl j (t + 1) (by omega)
   have h2 := ih.mul ha
   have h3 := h t (by omega)
   have e : D * v ^ (n - (t + 1)) * v = D * v ^ (n - t) := by
    rw [show n - t = (n - (t + 1)) + 1 by omega, Nat.pow_succ, Nat.mul_assoc]
   rw [e] at h2
   rw [evR_dropL l a h1]
   refine (h2.add h3).le ?_
   have e1 : H * (1 + U) ^ (j + 1) = H * (1 + U) ^ j * U + H * (1 + U) ^ j := by
    rw [Nat.pow_succ, ← Nat.mul_assoc, Nat.mul_add, Nat.mul_one, Nat.add_comm]
   rw [e1]
   have : H ≤ H * (1 + U) ^ j := Nat.le_mul_of_pos_right _ (Nat.pow_pos (by omega))
   omega
  ·rw [List.drop_of_length_le (by omega), QaF]; exact Hq.zero _ _
theorem WS.hst {D v n H U : Nat} {l : List Rat} {a : Rat} (h : WS D v n H l) (ha : Hq v U a) (hl : l.length ≤ n) {j : Nat} (hj : j < l.length) : WS D v n (H * (1 + U) ^ n) (hst l a j) := fun k hk => by
 rw [hst_getD hj]
 split
 ·exact (h k hk).le (Nat.le_mul_of_pos_right _ (Nat.pow_pos (by omega)))
 ·exact (h.suffix ha hl (n - k) k (by omega)).le (Nat.mul_le_mul_left _ (Nat.pow_le_pow_right (by omega) (by omega)))
theorem WS.pas {D v n H U : Nat} {l : List Rat} {a : Rat} (h : WS D v n H l) (ha : Hq v U a) (hl : l.length ≤ n) : ∀ i, i ≤ l.length → WS D v n (H * ((1 + U) ^ n) ^ i) (pas l a i)
 | 0, _ => by rw [Nat.pow_zero, Nat.mul_one]; exact h
 | i + 1, hi => by
  have ih := WS.pas h ha hl i (by omega)
  have := ih.hst ha (by rw [Qo0 i (by omega)]; exact hl) (j := i) (by rw [Qo0 i (by omega)]; omega)
  rw [Nat.mul_assoc, ← Nat.pow_succ] at this
  exact this
end Go.AM

/- Small helps for the laws of ref06.Poly's polynomials. -/
namespace Go.AM
open Go Go.RowKit Go.Proofs
theorem H1.add {d1 h1 d2 h2 : Nat} {a b : Rat} (H : H1 d1 h1 a) (H' : H1 d2 h2 b) : H1 (d1 + d2) (max (h1 + d2) (h2 + d1) + 1) (a + b) := by
 obtain ⟨D, a1, a2, a3⟩ := H
 obtain ⟨E, b1, b2, b3⟩ := H'
 refine ⟨D * E, Nat.mul_pos a1 b1, Qcv a2 b2, ((a3.lift E).add (b3.lift' D)).le (Qqt ?_ ?_)⟩
 ·exact Nat.le_trans (Qcv (Nat.le_refl _) b2) (Qdz (by omega))
 ·exact Nat.le_trans (Qcv a2 (Nat.le_refl _)) (Qdz (by omega))
variable [Its]
end Go.AM

/- ref06: At, Add, Scale, Sub, Derive, Eval, Shift. -/
namespace Go.AM
open Go Go.RowKit

variable [Its]

/-! ### Add -/
section
variable {d d2 : D} {l m : List Rat} {K : Nat}
end

/-! ### Scale -/
section
variable {d : D} {l : List Rat} {a : Rat} {K : Nat}
end
end Go.AM

/- ref06: Sub, Derive, Eval, Shift. -/
namespace Go.AM
open Go Go.RowKit

variable [Its]

section
variable {d d2 : D} {l m : List Rat} {K : Nat}
end

/-! ### Derive -/
section
variable {d : D} {l : List Rat} {K : Nat}
/-! ### Eval -/
/-! ### Shift -/
end
end Go.AM

/- Division: what it means, that it is the only one, how great the coefficients are. -/
namespace Go.AM
open Go Go.RowKit

theorem Qdi {l : List Rat} (h : Trm l) (hne : l ≠ []) : l.getD (l.length - 1) 0 ≠ 0 := by
 have hp : 0 < l.length := List.length_pos_iff.2 hne
 exact h (l.length - 1) (by omega)
theorem QqJ (x : Rat) {l : List Rat} {t : Nat} {c : Rat} (h : t < l.length) : evR (l.set t c) x = evR l x + (c - l.getD t 0) * x ^ t := by
 have : ∀ (l : List Rat) (t : Nat) (c : Rat), t < l.length → evR (l.set t c) x = evR l x + (c - l.getD t 0) * x ^ t := by
  intro l
  induction l with
  | nil => intro t c h; simp at h
  | cons a l ih =>
   intro t c h
   cases t with
   | zero =>
    show evR l x * x + c = evR l x * x + a + (c - a) * x ^ 0
    rw [Rat.pow_zero]; generalize evR l x = u; grind
   | succ t =>
    have := ih t c (by simpa using h)
    show evR (l.set t c) x * x + a = evR l x * x + a + (c - l.getD t 0) * x ^ (t + 1)
    rw [this, Rat.pow_succ]
    generalize evR l x = u; generalize x ^ t = p; generalize l.getD t 0 = v; grind
 exact this l t c h
theorem QpF (x : Rat) (k : Nat) : ∀ i : Nat, x ^ (k + i) = x ^ k * x ^ i
 | 0 => by rw [Nat.add_zero, Rat.pow_zero, Rat.mul_one]
 | i + 1 => by rw [← Nat.add_assoc, Rat.pow_succ, Rat.pow_succ, QpF x k i, Rat.mul_assoc]
theorem evR_take (q : List Rat) (x : Rat) {i : Nat} (h : i < q.length) : evR (q.take (i + 1)) x = evR (q.take i) x + q.getD i 0 * x ^ i := by
 have e : q.take (i + 1) = q.take i ++ [q.getD i 0] := by
  rw [List.take_add_one]
  simp [List.getD, h]
 rw [e, Qj1, List.length_take, Nat.min_eq_left (by omega)]
theorem evR_dvI {R q : List Rat} {k : Nat} {f x : Rat} : ∀ i, i ≤ q.length → k + q.length ≤ R.length → evR (dvI R q k f i) x = evR R x - f * x ^ k * evR (q.take i) x
 | 0, _, _ => by rw [dvI, List.take_zero, QaF]; grind
 | i + 1, hi, hk => by
  rw [dvI, QqJ x (by rw [Qf8]; omega), evR_dvI i (by omega) hk, evR_take q x (by omega), QpF]
  generalize evR R x = a; generalize evR (q.take i) x = b; generalize x ^ k = p; generalize x ^ i = r; generalize q.getD i 0 = c; generalize (dvI R q k f i).getD (k + i) 0 = e
  grind
theorem evR_dv {R q : List Rat} {k : Nat} {f x : Rat} (hk : k + q.length ≤ R.length) : evR (dvI R q k f q.length) x = evR R x - f * x ^ k * evR q x := by
 have := evR_dvI (x := x) (f := f) q.length (Nat.le_refl _) hk
 rwa [List.take_length] at this
theorem dvO_ev (q : List Rat) (x : Rat) : ∀ (m : Nat) (R O : List Rat), (0 < m → m - 1 + q.length ≤ R.length) → m ≤ O.length → (∀ t, t < m → O.getD t 0 = 0) → evR (dvO q m R O).2 x * evR q x + evR (dvO q m R O).1 x = evR O x * evR q x + evR R x
 | 0, R, O, _, _, _ => rfl
 | k + 1, R, O, h, hO, hz => by
  have hk : k + q.length ≤ R.length := by have := h (by omega); omega
  rw [dvO, dvO_ev q x k _ _ (fun _ => by rw [Qf8]; omega) (by rw [List.length_set]; omega) (fun t ht => by rw [Qos (by omega), if_neg (by omega)]; exact hz t (by omega)), evR_dv hk, QqJ x (by omega), hz k (by omega)]
  generalize evR O x = a; generalize evR R x = b; generalize evR q x = c; generalize x ^ k = p; generalize dvF R q k = f
  grind
theorem dvO_deg {q : List Rat} (hq : q.getD (q.length - 1) 0 ≠ 0) (hq0 : 0 < q.length) : ∀ (m : Nat) (R O : List Rat), (0 < m → m - 1 + q.length ≤ R.length) → (∀ t, m + q.length - 1 ≤ t → R.getD t 0 = 0) → ∀ t, q.length - 1 ≤ t → (dvO q m R O).1.getD t 0 = 0
 | 0, R, O, _, hz, t, ht => hz t (by omega)
 | k + 1, R, O, h, hz, t, ht => by
  have hk : k + q.length ≤ R.length := by have := h (by omega); omega
  rw [dvO]
  refine dvO_deg hq hq0 k _ _ (fun _ => by rw [Qf8]; omega) (fun t ht => ?_) t ht
  rw [QiG q.length (by omega)]
  by_cases h1 : t = k + q.length - 1
  ·subst h1
   rw [if_pos (by omega), show k + q.length - 1 - k = q.length - 1 by omega, dvF, Rat.div_def, Rat.mul_assoc, Rat.inv_mul_cancel _ hq, Rat.mul_one, Rat.sub_self]
  ·rw [if_neg (by omega)]
   exact hz t (by omega)
theorem QoH {l : List Rat} {n : Nat} (hl : Trm l) (h : ∀ t, n ≤ t → l.getD t 0 = 0) : l.length ≤ n := by
 by_cases hl0 : l.length ≤ n
 ·exact hl0
 ·exact absurd (h (l.length - 1) (by omega)) (hl (l.length - 1) (by omega))
theorem QkM {p q : List Rat} (hq : Trm q) (hq0 : q ≠ []) : (∀ x, evR p x = evR (quoP p q) x * evR q x + evR (remP p q) x) ∧ (remP p q).length ≤ q.length - 1 ∧ Trm (quoP p q) ∧ Trm (remP p q) := by
  have hl : 0 < q.length := List.length_pos_iff.2 hq0
  unfold quoP remP
  rw [if_neg hq0, if_neg hq0]
  refine ⟨fun x => ?_, ?_, QbE _, QbE _⟩
  · rw [Qbl     , Qbl     , dvO_ev q x (dvN p q) p (List.replicate (dvN p q) 0) (fun h => by unfold dvN at h ⊢; omega) (by simp) (fun t ht => by
      rw [List.getD_eq_getElem?_getD, List.getElem?_replicate, if_pos ht]; rfl), Qib (fun r hr => (List.mem_replicate.1 hr).2), Rat.zero_mul, Rat.zero_add]
  · refine QoH (QbE _) (fun t ht => ?_)
    rw [QeT]
    refine dvO_deg (Qdi hq hq0) hl _ _ _ (fun h => by unfold dvN at h ⊢; omega) (fun t ht => QaU (by unfold dvN at ht; omega)) t ht
theorem QqV {s q : List Rat} (hs : 0 < s.length) (hq : 0 < q.length) : conv s q (s.length - 1 + (q.length - 1)) = s.getD (s.length - 1) 0 * q.getD (q.length - 1) 0 := by
 obtain ⟨n, hn⟩ : ∃ n, s.length = n + 1 := ⟨s.length - 1, by omega⟩
 unfold conv
 rw [hn, Nat.add_sub_cancel]
 have h1 : sumR (fun i => s.getD i 0 * q.getD (n + (q.length - 1) - i) 0) (n + (q.length - 1) + 1) = sumR (fun i => s.getD i 0 * q.getD (n + (q.length - 1) - i) 0) (n + 1) := by
  rw [show n + (q.length - 1) + 1 = (n + 1) + (q.length - 1) by omega]
  exact Qj6 _ (fun i h1 _ => by rw [QaU (l := s) (by omega), Rat.zero_mul])
 rw [h1, sumR, QeV n (fun i hi => by rw [QaU (l := q) (by omega), Rat.mul_zero]), Rat.zero_add, show n + (q.length - 1) - n = q.length - 1 by omega]
theorem mu_getD (l m : List Rat) (k : Nat) : (muP l m).getD k 0 = conv l m k := by
 rw [muP, QeT]
 by_cases h : k < l.length + m.length - 1
 ·rw [Qig _ h]
 ·rw [QaU (by simp; omega), QqS (by omega)]
theorem sb_getD (l m : List Rat) (k : Nat) : (sbP l m).getD k 0 = l.getD k 0 - m.getD k 0 := by
 rw [sbP, QeT]
 by_cases h : k < max l.length m.length
 ·rw [Qig _ h]
 ·rw [QaU (by simp; omega), QaU (l := l) (by omega), QaU (l := m) (by omega), Rat.sub_self]
theorem div_uniq {q a1 r1 a2 r2 : List Rat} (hq : Trm q) (hq0 : q ≠ []) (t1 : Trm a1) (t2 : Trm a2) (u1 : Trm r1) (u2 : Trm r2) (n1 : r1.length ≤ q.length - 1) (n2 : r2.length ≤ q.length - 1) (h : ∀ x, evR a1 x * evR q x + evR r1 x = evR a2 x * evR q x + evR r2 x) : a1 = a2 ∧ r1 = r2 := by
 have hl : 0 < q.length := List.length_pos_iff.2 hq0
 have hs : sbP a1 a2 = [] := by
  by_cases h0 : sbP a1 a2 = []
  ·exact h0
  ·have hsl : 0 < (sbP a1 a2).length := List.length_pos_iff.2 h0
   have hev : ∀ x, evR (muP (sbP a1 a2) q) x = evR (sbP r2 r1) x := fun x => by
    rw [Qbb, Qru, Qru]
    have := h x
    generalize evR a1 x = a at *; generalize evR a2 x = b at *; generalize evR q x = c at *; generalize evR r1 x = d at *; generalize evR r2 x = e at *
    grind
   have hc := QmS (c := 0) (fun x _ => hev x) ((sbP a1 a2).length - 1 + (q.length - 1))
   rw [mu_getD, QqV hsl hl, sb_getD r2 r1, QaU (l := r2) (by omega), QaU (l := r1) (by omega), Rat.sub_self] at hc
   rcases Rat.mul_eq_zero.1 hc with h1 | h1
   ·exact absurd h1 (Qdi (trm_sb _ _) h0)
   ·exact absurd h1 (Qdi hq hq0)
 have ha : a1 = a2 := Qph t1 t2 (fun k => by
  have := sb_getD a1 a2 k
  rw [hs, QaU (by simp)] at this
  generalize a1.getD k 0 = u at *; generalize a2.getD k 0 = v at *
  grind)
 refine ⟨ha, Qgx u1 u2 (fun x => ?_)⟩
 have := h x
 rw [ha] at this
 generalize evR a2 x * evR q x = u at *
 grind

/-! ### Sizes -/
theorem Hq.ratio {E Y : Nat} {c : Rat} (hE : 0 < E) (hc : c ≠ 0) (h : Hq E Y c) : ∃ s : Nat, 0 < s ∧ s ≤ Y ∧ ∀ (Z : Nat) (v : Rat), Hq E Z v → Hq s Z (v / c) := by
  obtain ⟨m, h1, h2⟩ := h
  have hm : m ≠ 0 := fun h0 => by
    rw [h0] at h1
    have h3 : c * cN E = 0 := h1
    rcases Rat.mul_eq_zero.1 h3 with h4 | h4
    · exact hc h4
    · exact cN_ne hE h4
  have key : ∀ v, v / c * (m : Rat) = v * cN E := fun v => by
    rw [← h1, Rat.div_def, Rat.mul_assoc, ← Rat.mul_assoc c⁻¹, Rat.inv_mul_cancel _ hc, Rat.one_mul]
  refine ⟨m.natAbs, by omega, h2, fun Z v hv => ?_⟩
  obtain ⟨n, n1, n2⟩ := hv
  rcases Int.lt_trichotomy m 0 with h3 | h3 | h3
  · have e : cN m.natAbs = -(m : Rat) := by
      unfold cN
      rw [show ((m.natAbs : Nat) : Int) = -m by omega, Rat.intCast_neg]
    exact ⟨-n, by rw [e, Rat.mul_neg, key, n1, Rat.intCast_neg], by omega⟩
  · exact absurd h3 hm
  · have e : cN m.natAbs = (m : Rat) := by
      unfold cN
      rw [show ((m.natAbs : Nat) : Int) = m by omega]
    exact ⟨n, by rw [e, key, n1], n2⟩
theorem Hq.one (E : Nat) : Hq E E 1 := ⟨(E : Int), by rw [Rat.one_mul]; rfl, by omega⟩
theorem dv_step {D X E Y s : Nat} {R q : List Rat} {k : Nat} (hR : ∀ x ∈ R, Hq D X x) (hq : ∀ x ∈ q, Hq E Y x) (hs : ∀ (Z : Nat) (v : Rat), Hq E Z v → Hq s Z (v / q.getD (q.length - 1) 0)) (hk : k + q.length ≤ R.length) :
    (∀ x ∈ dvI R q k (dvF R q k) q.length, Hq (D * s) (X * (s + Y)) x) ∧ Hq (D * s) (X * E) (dvF R q k) := by
  have hf : Hq (D * s) (X * E) (dvF R q k) := by
    have := (Hq.getD hR (k + q.length - 1)).mul (hs E 1 (Hq.one E))
    unfold dvF
    rwa [Rat.div_def, Rat.one_mul, ← Rat.div_def] at this
  refine ⟨fun x hx => ?_, hf⟩
  obtain ⟨t, ht, rfl⟩ := List.mem_iff_getElem.1 hx
  have e : (dvI R q k (dvF R q k) q.length)[t] = (dvI R q k (dvF R q k) q.length).getD t 0 := by
    rw [List.getD_eq_getElem?_getD, List.getElem?_eq_getElem ht]; rfl
  rw [e, QiG q.length hk]
  have hRt := (Hq.getD hR t).lift s
  split
  · have hfq : Hq (D * s) (X * Y) (dvF R q k * q.getD (t - k) 0) := by
      have h1 := (Hq.getD hR (k + q.length - 1)).mul (hs Y _ (Hq.getD hq (t - k)))
      have e2 : R.getD (k + q.length - 1) 0 * (q.getD (t - k) 0 / q.getD (q.length - 1) 0) = dvF R q k * q.getD (t - k) 0 := by
        unfold dvF
        rw [Rat.div_def, Rat.div_def]
        generalize R.getD (k + q.length - 1) 0 = a; generalize (q.getD (q.length - 1) 0)⁻¹ = b; generalize q.getD (t - k) 0 = c
        grind
      rwa [e2] at h1
    rw [Nat.mul_add]
    exact hRt.sub hfq
  · rw [Nat.mul_add]
    exact hRt.le (by omega)
theorem dv_all {E Y s : Nat} {q : List Rat} {d e g : Nat} (hq : ∀ x ∈ q, Hq E Y x) (hs : ∀ (Z : Nat) (v : Rat), Hq E Z v → Hq s Z (v / q.getD (q.length - 1) 0)) (hs0 : 0 < s) (hsB : s ≤ BB ^ g) (hYB : Y ≤ BB ^ g) (hEB : E ≤ BB ^ e) {K : Nat} :
    ∀ (m D h : Nat) (R O : List Rat), 0 < D → D ≤ BB ^ d → (∀ x ∈ R, Hq D (BB ^ h) x) → (∀ x ∈ O, Hq D (BB ^ (h + e)) x) → (0 < m → m - 1 + q.length ≤ R.length) → max (d + m * g) (h + m * (g + 1) + e) + 1 ≤ K →
    dvG K q m R ∧ ∃ D', 0 < D' ∧ D' ≤ BB ^ (d + m * g) ∧ (∀ x ∈ (dvO q m R O).1, Hq D' (BB ^ (h + m * (g + 1))) x) ∧ (∀ x ∈ (dvO q m R O).2, Hq D' (BB ^ (h + m * (g + 1) + e)) x) := by
  intro m
  induction m generalizing d with
  | zero =>
    intro D h R O hD hd hR hO _ _
    exact ⟨trivial, D, hD, by rw [Nat.zero_mul, Nat.add_zero]; exact hd, by rw [Nat.zero_mul, Nat.add_zero]; exact hR, by rw [Nat.zero_mul, Nat.add_zero]; exact hO⟩
  | succ k ih =>
    intro D h R O hD hd hR hO hk hK
    have hk' := hk (by omega)
    obtain ⟨a1, a2⟩ := dv_step (k := k) hR hq hs (by omega)
    have e1 : (k + 1) * g = g + k * g := by rw [Nat.succ_mul, Nat.add_comm]
    have e2 : (k + 1) * (g + 1) = (g + 1) + k * (g + 1) := by rw [Nat.succ_mul, Nat.add_comm]
    have hb : BB ^ h * (s + Y) ≤ BB ^ (h + (g + 1)) := Qcv (Nat.le_refl _) (Qqt hsB hYB)
    have hR' : ∀ x ∈ dvI R q k (dvF R q k) q.length, Hq (D * s) (BB ^ (h + (g + 1))) x := fun x hx => (a1 x hx).le hb
    have hO' : ∀ x ∈ O.set k (dvF R q k), Hq (D * s) (BB ^ (h + (g + 1) + e)) x := fun x hx => by
      rcases List.mem_or_eq_of_mem_set hx with h1 | h1
      · exact ((hO x h1).lift s).le (Nat.le_trans (Qcv (Nat.le_refl _) hsB) (Qdz (by omega)))
      · rw [h1]
        exact a2.le (Nat.le_trans (Qcv (Nat.le_refl _) hEB) (Qdz (by omega)))
    have := ih (d := d + g) (D * s) (h + (g + 1)) (dvI R q k (dvF R q k) q.length) (O.set k (dvF R q k)) (Nat.mul_pos hD hs0) (Qcv hd hsB) hR' hO' (fun _ => by rw [Qf8]; omega) (by
      rw [e1, e2] at hK; omega)
    obtain ⟨b1, D', b2, b3, b4, b5⟩ := this
    refine ⟨⟨fun x hx => ?_, b1⟩, D', b2, ?_, ?_, ?_⟩
    · have := Hq.sz hD hd (Nat.le_refl _) (hR x hx)
      rw [e1, e2] at hK; omega
    · rw [e1, ← Nat.add_assoc]; exact b3
    · rw [dvO, e2, ← Nat.add_assoc]; exact b4
    · rw [dvO, e2, ← Nat.add_assoc]; exact b5
theorem QnW {d h e g : Nat} {p q : List Rat} (Hp : HL d h p) (Hq' : HL e g q) (hq : Trm q) {K : Nat} (hK : max (d + dvN p q * g) (h + dvN p q * (g + 1) + e) + 1 ≤ K) : dvG K q (dvN p q) p ∧ HL (d + dvN p q * g) (h + dvN p q * (g + 1)) (remP p q) ∧ HL (d + dvN p q * g) (h + dvN p q * (g + 1) + e) (quoP p q) := by
 obtain ⟨D, a1, a2, a3⟩ := Hp
 obtain ⟨E, b1, b2, b3⟩ := Hq'
 by_cases hq0 : q = []
 ·have r1 : remP p q = [] := if_pos hq0
  have r2 : quoP p q = [] := if_pos hq0
  rw [r1, r2]
  refine ⟨?_, HL.nil _ _, HL.nil _ _⟩
  subst hq0
  have hg : ∀ (m : Nat) (R : List Rat), SzL K R → dvG K [] m R := by
   intro m
   induction m with
   | zero => intro R _; trivial
   | succ k ih => intro R hR; exact ⟨hR, ih _ hR⟩
  exact hg _ _ (fun x hx => Nat.le_trans ((a3 x hx).sz a1 a2 (Nat.le_refl _)) (by omega))
 ·obtain ⟨s, s1, s2, s3⟩ := Hq.ratio b1 (Qdi hq hq0) (Hq.getD b3 (q.length - 1))
  obtain ⟨c1, D', c2, c3, c4, c5⟩ := dv_all (d := d) (e := e) (g := g) (K := K) b3 s3 s1 s2 (Nat.le_refl _) b2 (dvN p q) D h p (List.replicate (dvN p q) 0) a1 a2 a3 (fun x hx => by rw [(List.mem_replicate.1 hx).2]; exact Hq.zero _ _) (fun hm => by unfold dvN at hm ⊢; omega) hK
  have r1 : remP p q = Qa2 (dvO q (dvN p q) p (List.replicate (dvN p q) 0)).1 := if_neg hq0
  have r2 : quoP p q = Qa2 (dvO q (dvN p q) p (List.replicate (dvN p q) 0)).2 := if_neg hq0
  rw [r1, r2]
  exact ⟨c1, HL.trim ⟨D', c2, c3, c4⟩, HL.trim ⟨D', c2, c3, c5⟩⟩
theorem Qm0 {d h : Nat} {l : List Rat} (H : HL d h l) (hl : Trm l) : HL h h (mnP l) := by
 unfold mnP
 split
 ·exact HL.nil _ _
 ·rename_i hne
  obtain ⟨D, a1, a2, a3⟩ := H
  obtain ⟨s, s1, s2, s3⟩ := Hq.ratio a1 (Qdi hl hne) (Hq.getD a3 (l.length - 1))
  refine HL.made s1 s2 (Nat.le_refl _) (fun k _ => ?_)
  have := s3 _ _ (Hq.getD a3 k)
  rw [Rat.div_def, Rat.one_mul]
  rwa [Rat.div_def] at this
end Go.AM

/- ref06: Div, Monic, Gcd, Free. -/
namespace Go.AM
open Go Go.RowKit

theorem H1_of_sz {q : Rat} {K : Nat} (h : sz q ≤ K) : H1 K K q := by
 have h1 : nd q.num ≤ K := Nat.le_trans (Nat.le_max_left _ _) h
 have h2 : nd (q.den : Int) ≤ K := Nat.le_trans (Nat.le_max_right _ _) h
 have hd := Hq.div (n := q.num) (d := (q.den : Int)) (by have := q.den_pos; omega)
 rw [Rat.num_divInt_den, Int.natAbs_natCast] at hd
 refine ⟨q.den, q.den_pos, ?_, hd.le (Nat.le_trans (Nat.le_of_lt (Qdd q.num)) (Qdz h1))⟩
 have := Qdd (q.den : Int)
 rw [Int.natAbs_natCast] at this
 exact Nat.le_trans (Nat.le_of_lt this) (Qdz h2)
variable [Its]

section
variable {dq : D} {q : List Rat} {K e g : Nat}
end
end Go.AM

/- How great the divisors are; ref06: Monic, Gcd, Free. -/
namespace Go.AM
open Go Go.RowKit

theorem sc_getD (l : List Rat) (a : Rat) (k : Nat) : (scP l a).getD k 0 = l.getD k 0 * a := by
 rw [scP, QeT]
 by_cases h : k < l.length
 ·rw [Qig _ h]
 ·rw [QaU (by simp; omega), QaU (by omega), Rat.zero_mul]
theorem Qpp (l : List Rat) (k : Nat) : (deP l).getD k 0 = l.getD (k + 1) 0 * ((k + 1 : Nat) : Int) := by
 rw [deP, QeT]
 by_cases h : k < l.length - 1
 ·rw [Qig _ h]
 ·rw [QaU (by simp; omega), QaU (by omega), Rat.zero_mul]
theorem Qkb {l : List Rat} {n : Nat} (h : l.getD n 0 ≠ 0) : n + 1 ≤ l.length := by
 by_cases h1 : n < l.length
 ·exact h1
 ·exact absurd (QaU (by omega)) h
theorem rinv_ne {x : Rat} (h : x ≠ 0) : 1 / x ≠ 0 := fun h0 => by
 have h1 : 1 / x * x = 1 := by rw [Rat.div_def, Rat.one_mul, Rat.inv_mul_cancel _ h]
 rw [h0, Rat.zero_mul] at h1
 exact absurd h1 (by decide)
theorem mn_getD {l : List Rat} (h : l ≠ []) (k : Nat) : (mnP l).getD k 0 = l.getD k 0 * (1 / l.getD (l.length - 1) 0) := by
 rw [mnP, if_neg h, sc_getD]
theorem QgX {l : List Rat} (hl : Trm l) : (mnP l).length = l.length := by
 by_cases h : l = []
 ·subst h; rfl
 ·have h1 := QfQ l
  have hp : 0 < l.length := List.length_pos_iff.2 h
  have h2 := Qdi hl h
  have h3 : (mnP l).getD (l.length - 1) 0 ≠ 0 := by
   rw [mn_getD h]
   intro h0
   rcases Rat.mul_eq_zero.1 h0 with h4 | h4
   ·exact h2 h4
   ·exact rinv_ne h2 h4
  have := Qkb h3
  omega
theorem cast_ne {n : Nat} (h : 0 < n) : (((n : Nat) : Int) : Rat) ≠ 0 := cN_ne h
theorem QkC {l : List Rat} (hl : Trm l) : (deP l).length = l.length - 1 := by
 have h1 := Qnm l
 by_cases h : l.length ≤ 1
 ·omega
 ·have h2 := Qdi hl (fun h0 => by rw [h0] at h; simp at h)
  have h3 : (deP l).getD (l.length - 2) 0 ≠ 0 := by
   rw [Qpp, show l.length - 2 + 1 = l.length - 1 by omega]
   intro h0
   rcases Rat.mul_eq_zero.1 h0 with h4 | h4
   ·exact h2 h4
   ·exact cast_ne (by omega) h4
  have := Qkb h3
  omega
theorem Qnb : ∀ d : Nat, d + 3 ≤ 3 ^ (d + 1)
 | 0 => by decide
 | d + 1 => by rw [Nat.pow_succ]; have := Qnb d; omega
theorem Qj2 {a b : Nat} (h : a < b) : (b + 2 - a) * 3 ^ a ≤ 3 ^ b := by
 obtain ⟨d, rfl⟩ : ∃ d, b = d + 1 + a := ⟨b - 1 - a, by omega⟩
 rw [Nat.pow_add]
 refine Nat.mul_le_mul_right _ ?_
 have := Qnb d
 omega
theorem trm_dv (a b : List Rat) : Trm (remP a b) := by
 unfold remP
 split
 ·exact Qf9
 ·exact QbE _
def gcH (K : Nat) : Nat → List Rat → List Rat → Prop
 | 0, _, b => b = []
 | n + 1, a, b => b = [] ∨ (HL K K b ∧ Trm b ∧ gcH K n b (mnP (remP a b)))
theorem QjX {K L : Nat} (h : K ≤ L) {q : List Rat} : ∀ (m : Nat) (R : List Rat), dvG K q m R → dvG L q m R
 | 0, _, _ => trivial
 | k + 1, R, hg => ⟨hg.1.mono h, QjX h k _ hg.2⟩
theorem Ql1 {K L : Nat} (h : K ≤ L) : ∀ (n : Nat) (a b : List Rat), gcG K n a b → gcG L n a b
 | 0, _, _, hg => hg
 | n + 1, a, b, hg => hg.imp id fun ⟨h1, h2, h3, h4⟩ => ⟨h1.mono h, QjX h _ _ h2, h3.mono h, Ql1 h n _ _ h4⟩
theorem gc_pot {K : Nat} : ∀ (n s : Nat) (a b : List Rat), HL s s a → HL s s b → Trm b → b.length < n → (s + 1) * (dvN a b + 1) * 3 ^ b.length ≤ K → gcG K n a b ∧ gcH K n a b ∧ HL K K (gcP n a b)
 | 0, _, _, b, _, _, _, h, _ => by omega
 | n + 1, s, a, b, Ha, Hb, tb, hn, hK => by
  have h3 : 1 ≤ 3 ^ b.length := Nat.one_le_pow _ _ (by decide)
  have hs : s + 1 ≤ K := Nat.le_trans (Nat.le_trans (Nat.le_mul_of_pos_right (s + 1) (by omega)) (Nat.le_mul_of_pos_right _ h3)) hK
  by_cases hb : b = []
  ·subst hb
   refine ⟨.inl rfl, .inl rfl, ?_⟩
   rw [gcP, if_pos rfl]
   exact Ha.mono (by omega) (by omega)
  ·have hlb : 0 < b.length := List.length_pos_iff.2 hb
   obtain ⟨_, q2, _, _⟩ := QkM (p := a) tb hb
   have h33 : 3 * ((s + 1) * (dvN a b + 1)) ≤ K := by
    refine Nat.le_trans ?_ hK
    rw [Nat.mul_comm 3]
    refine Nat.mul_le_mul_left _ ?_
    obtain ⟨k, hk⟩ : ∃ k, b.length = k + 1 := ⟨b.length - 1, by omega⟩
    rw [hk, Nat.pow_succ]
    have : 1 ≤ 3 ^ k := Nat.one_le_pow _ _ (by decide)
    omega
   have hr := QfQ (remP a b)
   have h3' : ((s + 1) * (dvN a b + 1)) * (dvN b (mnP (remP a b)) + 1) * 3 ^ (mnP (remP a b)).length ≤ K := by
    refine Nat.le_trans ?_ hK
    rw [Nat.mul_assoc]
    refine Nat.mul_le_mul_left _ (Nat.le_trans (Nat.le_of_eq ?_) (Qj2 (a := (mnP (remP a b)).length) (b := b.length) (by omega)))
    congr 1
    unfold dvN; omega
   have he : (s + 1) * (dvN a b + 1) = s * dvN a b + dvN a b + s + 1 := by rw [Nat.mul_add, Nat.add_mul, Nat.mul_one, Nat.one_mul]; omega
   have he2 : dvN a b * (s + 1) = s * dvN a b + dvN a b := by rw [Nat.mul_add, Nat.mul_one, Nat.mul_comm]
   have he3 : dvN a b * s = s * dvN a b := Nat.mul_comm _ _
   obtain ⟨g1, g2, _⟩ := QnW (K := K) Ha Hb tb (by rw [he2, he3]; omega)
   have hsz := g2.sz
   have g3 := Qm0 g2 (trm_dv a b)
   have e1 : s + dvN a b * (s + 1) + 1 = (s + 1) * (dvN a b + 1) := by omega
   obtain ⟨i1, i2, i3⟩ := gc_pot (K := K) n (s + dvN a b * (s + 1)) b (mnP (remP a b)) (Hb.mono (by omega) (by omega)) g3 (QhC _) (by omega) (by rw [e1]; exact h3')
   refine ⟨.inr ⟨Hb.sz.mono (by omega), g1, hsz.mono (by omega), i1⟩, .inr ⟨Hb.mono (by omega) (by omega), tb, i2⟩, ?_⟩
   rw [gcP, if_neg hb]
   exact i3
variable [Its]

end Go.AM

/- Boxes of whole numbers, folded. -/
namespace Go.AM
open Go Go.RowKit

def cI (x : Int) : List A := [.d (.v (.bool (decide (x < 0)))), .d (dg (digs x.natAbs))]
theorem one_encI (x : Int) : A.one (.d (encI x)) = false := rfl
theorem QrS (x : Int) : Qay (.d (encI x)) = cI x := rfl
theorem dc_encI (x : Int) : Qb8 (.d (encI x)) = some [.v (.bool (decide (x < 0))), dg (digs x.natAbs)] := rfl
theorem all_cI (x : Int) : (cI x).all A.one = true := by
 simp only [cI, List.all_cons, List.all_nil, Qpz, Qow, Bool.and_self]
theorem len_cI (x : Int) : (cI x).length = 2 := rfl
theorem refs_cI (ks : List Key) (x : Int) : QcZ ks (cI x) = true := rfl
theorem ld_cI (x : Int) : Qaa (some 2) 0 (cI x) = some (.d (encI x)) := rfl
theorem ld_cI0 (x : Int) : Qaa none 0 (cI x) = some (.d (.v (.bool (decide (x < 0))))) := rfl
theorem ld_cI1 (x : Int) : Qaa none 1 (cI x) = some (.d (dg (digs x.natAbs))) := rfl
theorem st_cI (x y : Int) : Qab 0 (cI x) (cI y) = some (cI x) := rfl
theorem st_cIn (x : Int) (u v : A) : Qab 0 (cI x) [u, v] = some (cI x) := rfl
theorem ad_cI (x : Int) : allD (cI x) = some [.v (.bool (decide (x < 0))), dg (digs x.natAbs)] := rfl
theorem ag_encI (x : Int) : aggA (.d (encI x)) = some [.v (.bool (decide (x < 0))), dg (digs x.natAbs)] := rfl
attribute [go_sem] one_encI QrS dc_encI all_cI len_cI refs_cI ld_cI ld_cI0 ld_cI1 st_cI st_cIn ad_cI ag_encI
end Go.AM

/- integer.Small, ref04.Small. -/
namespace Go.AM
open Go Go.RowKit

def au (u : Int) : A := .d (.v (.int .u64 u))
attribute [go_sem] au
variable [Its]

section
variable {x : Int} {l : List Int} (hl : digs x.natAbs = l)
end

end Go.AM

/- ref04.Small. -/
namespace Go.AM
open Go Go.RowKit

variable [Its]
section
variable {x : Int} {l : List Int}
end
end Go.AM

/- Square roots of whole numbers: Newton's step, and halving. -/
namespace Go.AM

end Go.AM

/- integer.Root, ref04.Root. -/
namespace Go.AM
open Go Go.RowKit

variable [Its]
end Go.AM

/- ref04.Root. -/
namespace Go.AM
open Go Go.RowKit
variable [Its]
end Go.AM

/- Points, directions, edges: rows of them; ref12's small functions. -/
namespace Go.AM
open Go Go.RowKit

/-! ### Rows of things of es cells -/
section
variable {α : Type} {en : α → List D} {es : Nat}
def rowE (en : α → List D) (l : List α) : D := .row l.length (l.flatMap en)
def RwE (en : α → List D) (d : D) (l : List α) : Prop := (d = .z true ∧ l = []) ∨ d = rowE en l
theorem Qnd (hE : ∀ a, (en a).length = es) : ∀ (l : List α) (j : Nat), (l.flatMap en).drop (j * es) = (l.drop j).flatMap en
 | l, 0 => by simp
 | [], j + 1 => by simp
 | a :: l, j + 1 => by
  rw [List.flatMap_cons, List.drop_succ_cons, ← Qnd hE l j, Nat.succ_mul, Nat.add_comm, ← List.drop_drop]
  rw [List.drop_left' (hE a)]
theorem RwE.len {d : D} {l : List α} (h : RwE en d l) : lenA (.d d) = some l.length := by
 rcases h with ⟨rfl, rfl⟩ | rfl <;> rfl
theorem RwE.ixa (hE : ∀ a, (en a).length = es) {d : D} {l : List α} (hr : RwE en d l) {j : Nat} (h1 : j < l.length) (h : Hp) : ixaA h es (j : Int) (.d d) = some (.d (.rp ((l.drop j).flatMap en))) := by
 rcases hr with ⟨rfl, rfl⟩ | rfl
 ·simp at h1
 ·simp only [rowE, ixaA, guardO]
  rw [if_pos ⟨by omega, by omega⟩]
  simp only [Int.toNat_natCast]
  rw [Qnd hE]
end
def g3 (dx dy h : Int) : Int := (Int.gcd (Int.gcd dx dy) h : Int)
variable [Its]
/-! ### Normals -/
/-! ### Moved shapes -/
/-! ### Shapes -/
end Go.AM

/- ref07: Changes, counted, Middle, halved. -/
namespace Go.AM
open Go Go.RowKit
def RwC (d : D) (ps : List (List Rat)) : Prop := ∃ ds : List D, ds.length = ps.length ∧ (∀ i, i < ps.length → RwR (ds.getD i (.z true)) (ps.getD i [])) ∧ (d = .row ds.length ds ∨ (d = .z true ∧ ds = []))
theorem RwC.len {d : D} {ps : List (List Rat)} (h : RwC d ps) : lenA (.d d) = some ps.length := by
 obtain ⟨ds, h1, _, rfl | ⟨rfl, rfl⟩⟩ := h
 ·rw [← h1]; rfl
 ·rw [← h1]; rfl
theorem RwC.nil : RwC (.z true) [] := ⟨[], rfl, fun i h => by simp at h, .inr ⟨rfl, rfl⟩⟩
theorem RwC.at {d : D} {ps : List (List Rat)} (h : RwC d ps) {i : Nat} (hi : i < ps.length) : ∃ x r, RwR x (ps.getD i []) ∧ (∀ hp, ixaA hp 1 (i : Int) (.d d) = some (.d (.rp r))) ∧ ∀ hp, Qcd hp none (.d (.rp r)) = some (.d x) := by
 obtain ⟨ds, h1, h2, rfl | ⟨rfl, rfl⟩⟩ := h
 ·refine ⟨ds.getD i (.z true), ds.drop i, h2 i hi, fun hp => ?_, fun hp => ?_⟩
  ·simp only [ixaA, guardO]
   rw [if_pos ⟨by omega, by omega⟩]
   simp
  ·rw [List.drop_eq_getElem_cons (show i < ds.length by omega)]
   simp only [Qcd, Qi2]
   rw [List.getD_eq_getElem?_getD, List.getElem?_eq_getElem (show i < ds.length by omega)]
   rfl
 ·rw [← h1] at hi; simp at hi
def sgn1 (p : List Rat) (x : Rat) : Int := Int.sign (evR p x).num
def sgs (ps : List (List Rat)) (x : Rat) : List Int := (ps.map fun p => sgn1 p x).filter fun s => decide (s ≠ 0)
def chN (S : List Int) : Nat → Nat
 | 0 => 0
 | i + 1 => chN S i + (if 1 ≤ i ∧ S.getD i 0 ≠ S.getD (i - 1) 0 then 1 else 0)
def chg (ps : List (List Rat)) (x : Rat) : Nat := chN (sgs ps x) (sgs ps x).length
def cnt (ps : List (List Rat)) (lo hi : Rat) : Int := if hi ≤ lo then 0 else (chg ps lo : Int) - (chg ps hi : Int)
def mid (lo hi : Rat) : Rat := (lo + hi) * Rat.divInt 1 2
def hal (ps : List (List Rat)) (l : Rat × Rat) : Rat × Rat := if cnt ps l.1 (mid l.1 l.2) = 1 then (l.1, mid l.1 l.2) else (mid l.1 l.2, l.2)
theorem sgs_snoc (ps : List (List Rat)) (x : Rat) {i : Nat} (hi : i < ps.length) : sgs (ps.take (i + 1)) x = if sgn1 (ps.getD i []) x ≠ 0 then sgs (ps.take i) x ++ [sgn1 (ps.getD i []) x] else sgs (ps.take i) x := by
 have e : ps.take (i + 1) = ps.take i ++ [ps.getD i []] := by
  rw [List.take_add_one, List.getD_eq_getElem?_getD, List.getElem?_eq_getElem hi]; rfl
 unfold sgs
 rw [e, List.map_append, List.filter_append, List.map_cons, List.map_nil]
 generalize ps.getD i [] = p
 by_cases h : sgn1 p x = 0
 ·rw [if_neg (by simp [h]), List.filter_cons_of_neg (by simp [h]), List.filter_nil, List.append_nil]
 ·rw [if_pos h, List.filter_cons_of_pos (by simp [h]), List.filter_nil]
theorem QnJ (ps : List (List Rat)) (x : Rat) : (sgs ps x).length ≤ ps.length := by
 unfold sgs
 exact Nat.le_trans (List.length_filter_le _ _) (by simp)
theorem QlB (S : List Int) : ∀ i, chN S i ≤ i
 | 0 => Nat.le_refl _
 | i + 1 => by
  rw [chN]
  have := QlB S i
  split <;> omega
theorem QqZ {lo hi : Rat} {K L : Nat} (h1 : sz lo ≤ K) (h2 : sz hi ≤ L) : sz (mid lo hi) ≤ K + L + 5 := by
 unfold mid
 have z1 := QkI (a := lo) (b := hi)
 have z2 := Qli (a := lo + hi) (b := Rat.divInt 1 2)
 have z3 := sz_of (n := 1) (d := 2) ⟨by omega, by omega⟩ ⟨by omega, by omega⟩
 omega
theorem st4q (a b c d i j k l : A) : Qab 0 [a, b, c, d] [i, j, k, l] = some [a, b, c, d] := rfl
theorem ld4q (a b c d : D) : Qaa (some 4) 0 [.d a, .d b, .d c, .d d] = some (.d (.agg [a, b, c, d])) := rfl
variable [Its]
section
variable {d : D} {ps : List (List Rat)} {x : Rat} {K : Nat}
end
end Go.AM

/- ref07: halved, within (of at most one), Chain. -/
namespace Go.AM
open Go Go.RowKit
def c2R (l : Rat × Rat) : List D := [.v (.bool (decide (l.1.num < 0))), dg (digs l.1.num.natAbs), .v (.bool false), dg (dd l.1.den), .v (.bool (decide (l.2.num < 0))), dg (digs l.2.num.natAbs), .v (.bool false), dg (dd l.2.den)]
def enc2 (l : Rat × Rat) : D := .agg (c2R l)
theorem st8q (a b c d e f g h i j k l m n o p : A) : Qab 0 [a, b, c, d, e, f, g, h] [i, j, k, l, m, n, o, p] = some [a, b, c, d, e, f, g, h] := rfl
theorem ld8q (a b c d e f g h : D) : Qaa (some 8) 0 [.d a, .d b, .d c, .d d, .d e, .d f, .d g, .d h] = some (.d (.agg [a, b, c, d, e, f, g, h])) := rfl
theorem QrJ (a b c d e f g h : D) : Qaa (some 4) 0 [.d a, .d b, .d c, .d d, .d e, .d f, .d g, .d h] = some (.d (.agg [a, b, c, d])) := rfl
theorem QrD (a b c d e f g h : D) : Qaa (some 4) 4 [.d a, .d b, .d c, .d d, .d e, .d f, .d g, .d h] = some (.d (.agg [e, f, g, h])) := rfl
theorem RwR.one {d : D} {l : List Rat} (h : RwR d l) : A.one (.d d) = true := by rcases h with ⟨rfl, _⟩ | rfl <;> rfl
theorem RwR.cells {d : D} {l : List Rat} (h : RwR d l) : Qay (.d d) = [.d d] := by rcases h with ⟨rfl, _⟩ | rfl <;> rfl
theorem RwR.dc {d : D} {l : List Rat} (h : RwR d l) : d.one = true := by rcases h with ⟨rfl, _⟩ | rfl <;> rfl
theorem RwR.dcl {d : D} {l : List Rat} (h : RwR d l) : Qb8 (.d d) = some [d] := by rcases h with ⟨rfl, _⟩ | rfl <;> rfl
noncomputable def chL : Nat → List Rat → List Rat → List (List Rat)
 | 0, _, _ => []
 | n + 1, a, b => if b = [] then [] else b :: chL n b (scP (remP a b) (-1))
noncomputable def chP (p : List Rat) : List (List Rat) := if p = [] then [] else frP p :: chL p.length (frP p) (deP (frP p))
def ChOk (K : Nat) : Nat → List Rat → List Rat → Prop
 | 0, _, b => b = []
 | n + 1, a, b => b = [] ∨ (Trm b ∧ b.length ≤ 90 ∧ HL K K b ∧ SzL K b ∧ dvG K b (dvN a b) a ∧ SzL K (remP a b) ∧ ChOk K n b (scP (remP a b) (-1)))
def Dls (ds : List D) (ps : List (List Rat)) : Prop := ds.length = ps.length ∧ ∀ i, i < ps.length → RwR (ds.getD i (.z true)) (ps.getD i [])
theorem Dls.nil : Dls [] [] := ⟨rfl, fun i h => by simp at h⟩
theorem Dls.cons {d : D} {p : List Rat} {ds : List D} {ps : List (List Rat)} (h : RwR d p) (H : Dls ds ps) : Dls (d :: ds) (p :: ps) := by
 refine ⟨by simp [H.1], fun i hi => ?_⟩
 cases i with
 | zero => exact h
 | succ i => simpa using H.2 i (by simpa using hi)
theorem Dls.rwc {ds : List D} {ps : List (List Rat)} (h : Dls ds ps) : RwC (.row ds.length ds) ps := ⟨ds, h.1, h.2, .inl rfl⟩
theorem Ql8 (ks : List Key) : ∀ ds : List D, QcZ ks (ds.map A.d) = true
 | [] => rfl
 | x :: r => by rw [List.map_cons, QcZ, Ql8 ks r]; rfl
theorem i64_m1 : I64 (-1) := ⟨by omega, by omega⟩
theorem sz_m1 : sz (-1) ≤ 3 := sz_int (n := -1) i64_m1
variable [Its]
section
variable {d : D} {ps : List (List Rat)} {K : Nat}
end
end Go.AM

/- Comparisons of rationals, as decisions. -/
namespace Go.AM
open Go Go.RowKit
theorem cmpR_ge {a b : Rat} : decide (cmpR a b ≥ 0) = decide (b ≤ a) := by
 have h := cmpR_lt (a := a) (b := b)
 rw [Bool.eq_iff_iff, decide_eq_true_iff, decide_eq_true_iff]
 constructor
 ·intro h1
  exact Rat.not_lt.1 fun h2 => by have := h.2 h2; omega
 ·intro h1
  exact Int.not_lt.1 fun h2 => Rat.not_lt.2 h1 (h.1 h2)
theorem QiR {a b : Rat} : decide (cmpR a b > 0) = decide (b < a) := by
 have h := cmpR_le (a := a) (b := b)
 rw [Bool.eq_iff_iff, decide_eq_true_iff, decide_eq_true_iff]
 constructor
 ·intro h1
  exact Rat.not_le.1 fun h2 => by have := h.2 h2; omega
 ·intro h1
  exact Int.not_le.1 fun h2 => Rat.not_le.2 h1 (h.1 h2)
end Go.AM

/- sturm: next, Chain, Changes, counted, Count, middle. -/
namespace Go.AM
open Go Go.RowKit
theorem dvG_nil {K : Nat} {R : List Rat} (h : SzL K R) : ∀ n, dvG K [] n R
 | 0 => trivial
 | n + 1 => ⟨h, by
  have e : dvI R [] n (dvF R [] n) ([] : List Rat).length = R := rfl
  rw [e]
  exact dvG_nil h n⟩
theorem rem_nil (a : List Rat) : remP a [] = [] := if_pos rfl
noncomputable def chM : Nat → List Rat → List Rat → List (List Rat)
 | 0, _, _ => []
 | n + 1, a, b => if a = [] then [] else a :: chM n b (scP (remP a b) (-1))
theorem chM_L : ∀ (n : Nat) (a b : List Rat), chM (n + 1) a b = if a = [] then [] else a :: chL n a b
 | 0, a, b => rfl
 | n + 1, a, b => by
  rw [chM, chM_L n b, chL]
def Qna (da db : D) (ds : List D) : St := mkS [(3, if ds = [] then .d (.z true) else .own [20] ds.length), (4, .d da), (5, .d db)] (if ds = [] then [] else [([20], ⟨1, ds.length, ds.map .d, false⟩)])
def Qrb (ds : List D) : St := mkS [(3, if ds = [] then .d (.z true) else .own [20] ds.length)] (if ds = [] then [] else [([20], ⟨1, ds.length, ds.map .d, false⟩)])
theorem Qp5 (da db : D) : Qna da db [] = mkS [(3, .d (.z true)), (4, .d da), (5, .d db)] [] := rfl
theorem o7_ne (da db : D) {ds : List D} (h : ds ≠ []) : Qna da db ds = mkS [(3, .own [20] ds.length), (4, .d da), (5, .d db)] [([20], ⟨1, ds.length, ds.map .d, false⟩)] := by
 unfold Qna
 rw [if_neg h, if_neg h]
theorem Qob : Qrb [] = mkS [(3, .d (.z true))] [] := rfl
theorem Qqp {ds : List D} (h : ds ≠ []) : Qrb ds = mkS [(3, .own [20] ds.length)] [([20], ⟨1, ds.length, ds.map .d, false⟩)] := by
 unfold Qrb
 rw [if_neg h, if_neg h]
theorem ne_snoc (ds : List D) (d : D) : ds ++ [d] ≠ [] := by simp
def lstS (S : List Int) : Int := S.getD (S.length - 1) 0
def Qnh (d : D) (x : Rat) (S : List Int) (n i : Int) : St := mkS [(3, .ptr [3] 0), (5, ai (chN S S.length)), (6, ai (lstS S)), (10, .d d), (11, ai n), (12, ai i)] [([3], boxR x)]
theorem chN_pre (S : List Int) (s : Int) : ∀ i, i ≤ S.length → chN (S ++ [s]) i = chN S i
  | 0, _ => rfl
  | i + 1, h => by
    rw [chN, chN, chN_pre S s i (by omega)]
    have e1 : (S ++ [s]).getD i 0 = S.getD i 0 := by
      rw [List.getD_eq_getElem?_getD, List.getD_eq_getElem?_getD, List.getElem?_append_left (by omega)]
    by_cases h0 : 1 ≤ i
    · have e2 : (S ++ [s]).getD (i - 1) 0 = S.getD (i - 1) 0 := by
        rw [List.getD_eq_getElem?_getD, List.getD_eq_getElem?_getD, List.getElem?_append_left (by omega)]
      rw [e1, e2]
    · rw [if_neg (fun h => h0 h.1), if_neg (fun h => h0 h.1)]
theorem chN_snoc (S : List Int) (s : Int) : chN (S ++ [s]) (S ++ [s]).length = chN S S.length + (if S ≠ [] ∧ s ≠ lstS S then 1 else 0) := by
 rw [List.length_append, List.length_singleton, chN, chN_pre S s _ (Nat.le_refl _)]
 have e1 : (S ++ [s]).getD S.length 0 = s := by
  rw [List.getD_eq_getElem?_getD, List.getElem?_append_right (Nat.le_refl _), Nat.sub_self]; rfl
 rw [e1]
 by_cases h : S = []
 ·subst h
  rw [if_neg (by simp), if_neg (fun h => h.1 rfl)]
 ·have hl : 0 < S.length := List.length_pos_iff.2 h
  have e2 : (S ++ [s]).getD (S.length - 1) 0 = lstS S := by
   unfold lstS
   rw [List.getD_eq_getElem?_getD, List.getD_eq_getElem?_getD, List.getElem?_append_left (by omega)]
  rw [e2]
  by_cases h2 : s = lstS S
  ·rw [if_neg (fun h => h.2 h2), if_neg (fun h => h.2 h2)]
  ·rw [if_pos ⟨by omega, h2⟩, if_pos ⟨h, h2⟩]
theorem lst_snoc (S : List Int) (s : Int) : lstS (S ++ [s]) = s := by
 unfold lstS
 rw [List.length_append, List.length_singleton, Nat.add_sub_cancel, List.getD_eq_getElem?_getD, List.getElem?_append_right (Nat.le_refl _), Nat.sub_self]; rfl
theorem sgn_pm (p : List Rat) (x : Rat) (h : sgn1 p x ≠ 0) : sgn1 p x = 1 ∨ sgn1 p x = -1 := by
 unfold sgn1 at *
 rcases Int.lt_trichotomy (evR p x).num 0 with k | k | k
 ·exact .inr (Int.sign_eq_neg_one_of_neg k)
 ·rw [k] at h; exact absurd rfl h
 ·exact .inl (Int.sign_eq_one_of_pos k)
theorem sgs_pm (ps : List (List Rat)) (x : Rat) : ∀ s ∈ sgs ps x, s = 1 ∨ s = -1 := by
 intro s hs
 unfold sgs at hs
 obtain ⟨h1, h2⟩ := List.mem_filter.1 hs
 obtain ⟨p, _, rfl⟩ := List.mem_map.1 h1
 exact sgn_pm p x (of_decide_eq_true h2)
theorem lst_pm {S : List Int} (h : ∀ s ∈ S, s = 1 ∨ s = -1) : (S = [] ∧ lstS S = 0) ∨ (S ≠ [] ∧ (lstS S = 1 ∨ lstS S = -1)) := by
 by_cases h0 : S = []
 ·exact .inl ⟨h0, by rw [h0]; rfl⟩
 ·have hl : 0 < S.length := List.length_pos_iff.2 h0
  refine .inr ⟨h0, h _ ?_⟩
  unfold lstS
  rw [List.getD_eq_getElem?_getD, List.getElem?_eq_getElem (show S.length - 1 < S.length by omega)]
  exact List.getElem_mem _
variable [Its]
theorem QrW        {da db : D} {a b : List Rat} {K : Nat} (ha : RwR da a) (hb : RwR db b) (na : a.length ≤ 1000) (nb : b.length ≤ 1000) (sb : SzL K b) (hg : dvG K b (dvN a b) a) (sr : SzL K (remP a b)) (hK1 : 3 ≤ K) (hK : K ≤ 1000000000) :
    ∃ d', RwR d' (scP (remP a b) (-1)) ∧ Qaj G QjI [da, db] = some (.d d') := by
  rw [Qad (cf := QiU) rfl]
  obtain ⟨d1, d2, h1, h2, g1⟩ := QeR ha hb (by omega) (by omega) sb (by omega) hK hg
  have o1 := QeP i64_m1 (d := 1) ⟨by omega, by omega⟩
  rw [Qc4, show (((-1 : Int)) : Rat) = -1 from rfl] at o1
  obtain ⟨d', h3, g2⟩ := Qjq (a := -1) h2 sr (Nat.le_trans sz_m1 hK1) (by omega) (by omega) (by have := QjU a b; omega)
  refine ⟨d', h3, ?_⟩
  generalize (-1 : Rat) = m1 at *
  clear h1 h2 h3 sb hg sr ha hb
  simp only [encR, iv] at o1 g2
  simp -implicitDefEqProofs (maxSteps:=9^8) only [QiU, o1, g1, g2, go_sem, iv, bv, reduceCtorEq, ↓reduceIte, Nat.reduceEqDiff]
section
variable {K : Nat}
theorem o7_go {da db : D} {a b : List Rat} {ds : List D} (ha : RwR da a) (hb : RwR db b) (na : a.length ≤ 90) (hne : a ≠ []) (nb : b.length ≤ 90) (sb : SzL K b) (hg : dvG K b (dvN a b) a) (sr : SzL K (remP a b)) (hK1 : 3 ≤ K) (hK : K ≤ 1000000000) (hds : ds.length ≤ 1000) :
    ∃ d', RwR d' (scP (remP a b) (-1)) ∧ X G QbH (Qna da db ds) = some (.n, Qna db d' (ds ++ [da])) := by
  obtain ⟨d', h3, g⟩ := QrW ha hb (by omega) (by omega) sb hg sr hK1 (by omega)
  refine ⟨d', h3, ?_⟩
  have la := ha.len
  have e1 : decide ((a.length : Int) > 0) = true := decide_eq_true (by have := List.length_pos_iff.2 hne; omega)
  have k2 := ha.dcl
  have k3 := ha.dc
  have r1 : rep 1 [da] = [da] := rfl
  rw [o7_ne db d' (ne_snoc ds da)]
  clear h3 hg sr sb ha hb
  by_cases h0 : ds = []
  · subst h0
    rw [Qp5]
    have b0 : (24 ≤ bound) = True := eq_true (by unfold bound; omega)
    have b1 : (1 * 24 ≤ bound) = True := eq_true (by unfold bound; omega)
    simp -implicitDefEqProofs (maxSteps:=9^8) only [QbH, la, e1, k2, k3, r1, b0, b1, g, List.length_cons, List.length_nil, Nat.zero_add, List.map_cons, List.map_nil, Nat.mul_one, srcS, src, allD, QeJ, Qcl, QcZ, List.all_cons, List.all_nil, Bool.and_self, Qac, go_sem, iv, bv, reduceCtorEq, ↓reduceIte, Nat.reduceEqDiff]
  · rw [o7_ne da db h0]
    have n4 : ((ds.length + 1) * 24 ≤ bound) = True := eq_true (by unfold bound; omega)
    have n5 : (ds ++ [da]).length = ds.length + 1 := by simp
    have n6 : (ds.map A.d) ++ [A.d da] = (ds ++ [da]).map A.d := by simp
    simp -implicitDefEqProofs (maxSteps:=9^8) only [QbH, la, e1, k2, k3, n4, n5, n6, r1, g, Ql8, List.length_map, Nat.mul_one, srcS, src, allD, QeJ, Qcl, List.all_cons, List.all_nil, Bool.and_self, Qac, go_sem, iv, bv, reduceCtorEq, ↓reduceIte, Nat.reduceEqDiff]
theorem Qpg {da db : D} {ds : List D} (ha : RwR da []) : X G QbH (Qna da db ds) = some (.x 0, Qrb ds) := by
 have la := ha.len
 simp only [List.length_nil] at la
 have e1 : decide ((0 : Int) > 0) = false := rfl
 by_cases h0 : ds = []
 ·subst h0
  rw [Qp5, Qob]
  simp -implicitDefEqProofs (maxSteps:=9^8) only [QbH, la, e1, Qac, go_sem, iv, bv, reduceCtorEq, ↓reduceIte, Nat.reduceEqDiff]
 ·rw [o7_ne da db h0, Qqp h0]
  simp -implicitDefEqProofs (maxSteps:=9^8) only [QbH, la, e1, Ql8, Qac, go_sem, iv, bv, reduceCtorEq, ↓reduceIte, Nat.reduceEqDiff]
theorem o7_loop (hK1 : 3 ≤ K) (hK : K ≤ 1000000000) : ∀ (n : Nat) (a b : List Rat) (da db : D) (ds : List D), RwR da a → RwR db b → SzL K a → a.length ≤ 90 → ChOk K n a b → ds.length + n ≤ 900 →
    ∃ es, Dls es (chM (n + 1) a b) ∧ X G (.loop QbH) (Qna da db ds) = some (.x 0, Qrb (ds ++ es))
  | n, a, b, da, db, ds, ha, hb, sa, na, hc, hl => by
    by_cases ha0 : a = []
    · subst ha0
      rw [chM, if_pos rfl]
      exact ⟨[], Dls.nil, by rw [Qak, Qpg ha, List.append_nil]; rfl⟩
    · by_cases hb0 : b = []
      · subst hb0
        obtain ⟨d', h', hx⟩ := o7_go ha hb na ha0 (by simp) (fun q hq => by simp at hq) (dvG_nil sa _) (by rw [rem_nil]; exact fun q hq => by simp at hq) hK1 hK (ds := ds) (by omega)
        refine ⟨[da], ?_, ?_⟩
        · have e : chM (n + 1) a [] = [a] := by
            rw [chM_L, if_neg ha0]
            cases n with
            | zero => rfl
            | succ n => rw [chL, if_pos rfl]
          rw [e]
          exact Dls.cons ha Dls.nil
        · rw [Qak, hx, Option.bind_some, if_pos rfl, Qak, Qpg hb]; rfl
      · cases n with
        | zero => exact absurd hc hb0
        | succ n =>
          rcases hc with hc | ⟨c1, c2, c3, c4, c5, c6, c7⟩
          · exact absurd hc hb0
          · obtain ⟨d', h', hx⟩ := o7_go ha hb na ha0 c2 c4 c5 c6 hK1 hK (ds := ds) (by omega)
            obtain ⟨es, he, hl2⟩ := o7_loop hK1 hK n b _ db d' (ds ++ [da]) hb h' c4 c2 c7 (by rw [List.length_append, List.length_singleton]; omega)
            refine ⟨da :: es, ?_, ?_⟩
            · rw [chM, if_neg ha0]
              exact Dls.cons ha he
            · rw [Qak, hx, Option.bind_some, if_pos rfl, hl2, List.append_assoc]; rfl
theorem Qgk         {dp : D} {p : List Rat} (hp0 : p ≠ []) (np : p.length ≤ 90) (hF : ∃ d', RwR d' (frP p) ∧ Qaj   G Qcc         [dp] = some (.d d')) (hf0 : frP p ≠ []) (nf : (frP p).length ≤ 90) (sf : SzL K (frP p)) (hc : ChOk K p.length (frP p) (deP (frP p))) (hK1 : 3 ≤ K) (hK : K ≤ 1000000000) :
    ∃ ds, Dls ds (chP p) ∧ Qaj G Qbd [dp] = some (.own 1 ds.length ds) := by
  rw [Qad (cf := QeZ) rfl]
  obtain ⟨da, ha, g1⟩ := hF
  obtain ⟨db, hb, g2⟩ := Qgq ha sf (by omega) (by omega) (by omega)
  obtain ⟨es, he, g3⟩ := o7_loop hK1 hK p.length (frP p) (deP (frP p)) da db [] ha hb sf nf hc (by simp; omega)
  have ec : chM (p.length + 1) (frP p) (deP (frP p)) = chP p := by
    rw [chM_L, if_neg hf0]
    unfold chP
    rw [if_neg hp0]
  rw [ec] at he
  refine ⟨es, he, ?_⟩
  have hes : es ≠ [] := fun h => by
    have h1 := he.1
    rw [h] at h1
    unfold chP at h1
    rw [if_neg hp0] at h1
    simp at h1
  have n7 : allD (es.map A.d) = some es := QdQ _
  rw [Qp5, List.nil_append, Qqp hes] at g3
  simp only [go_sem] at g3
  clear he hc sf ha hb
  simp -implicitDefEqProofs (maxSteps:=9^8) only [QeZ, g1, g2, g3, n7, Ql8, Qac, go_sem, iv, bv, reduceCtorEq, ↓reduceIte, Nat.reduceEqDiff]
end
section
variable {d : D} {ps : List (List Rat)} {x : Rat} {K : Nat}
theorem d7_go [ItsB] (hr : RwC d ps) (hn : ps.length ≤ 1000) (hs : ∀ p ∈ ps, SzL K p ∧ p.length * (2 * K + 1) ≤ 40000000000) (hx : sz x ≤ K) (hK : K ≤ 1000000000) {i : Nat} (hi : i < ps.length) :
    X G Qbw (Qnh d x (sgs (ps.take i) x) ps.length i) = some (.n, Qnh d x (sgs (ps.take (i + 1)) x) ps.length ((i + 1 : Nat) : Int)) := by
  have e1 : decide ((i : Int) < (ps.length : Int)) = true := lt_t (by omega)
  have e2 : w64 ((i : Int) + 1) = ((i + 1 : Nat) : Int) := by rw [Qaf (by omega) (by omega)]; rfl
  obtain ⟨y, r, hy, x1, x2⟩ := hr.at hi
  have hp := hs (ps.getD i []) (by rw [List.getD_eq_getElem?_getD, List.getElem?_eq_getElem hi]; exact List.getElem_mem hi)
  have hlen := QnJ (ps.take i) x
  rw [List.length_take] at hlen
  have hpm := lst_pm (sgs_pm (ps.take i) x)
  have hcl := QlB (sgs (ps.take i) x) (sgs (ps.take i) x).length
  have sn := sgn_pm (ps.getD i []) x
  rw [sgs_snoc ps x hi]
  generalize ps.getD i [] = p at *
  generalize sgs (ps.take i) x = S at *
  have g1 := Qon hy hx (by omega) hp.1 hp.2
  have g2 := QcP (evR p x)
  have es : Int.sign (evR p x).num = sgn1 p x := rfl
  rw [es] at g2
  clear es hs hp hx hr
  generalize sgn1 p x = s at *
  generalize evR p x = v at *
  simp only [encR, iv] at g1 g2
  by_cases h0 : s = 0
  · have t : (s != 0) = false := Qh7 h0
    rw [if_neg (by simp [h0])]
    generalize chN S S.length = n at *
    generalize lstS S = l at *
    simp -implicitDefEqProofs (maxSteps:=9^8) only [Qbw, Qnh, boxR, x1, x2, g1, g2, t, e1, e2, ld4q, Qac, go_sem, iv, bv, reduceCtorEq, ↓reduceIte, Nat.reduceEqDiff]
  · have t : (s != 0) = true := bne_t h0
    have sn := sn h0
    rw [if_pos h0]
    unfold Qnh
    rw [chN_snoc, lst_snoc]
    generalize chN S S.length = n at *
    have en : w64 (0 - lstS S) = -(lstS S) := by rw [Qaf (by omega) (by omega)]; omega
    by_cases hc : S ≠ [] ∧ s ≠ lstS S
    · have t2 : (s == -(lstS S)) = true := by
        rw [beq_iff_eq]
        rcases hpm with ⟨h1, _⟩ | ⟨_, h1⟩
        · exact absurd h1 hc.1
        · have := hc.2
          omega
      have e4 : w64 ((n : Int) + 1) = ((n + 1 : Nat) : Int) := by rw [Qaf (by omega) (by omega)]; rfl
      rw [if_pos hc]
      generalize lstS S = l at *
      simp -implicitDefEqProofs (maxSteps:=9^8) only [Qbw, boxR, x1, x2, g1, g2, t, t2, en, e1, e2, e4, ld4q, Qac, go_sem, iv, bv, reduceCtorEq, ↓reduceIte, Nat.reduceEqDiff]
    · have t2 : (s == -(lstS S)) = false := by
        refine Qcu ?_
        rcases hpm with ⟨_, h1⟩ | ⟨h2, h1⟩
        · omega
        · have : s = lstS S := Classical.byContradiction fun h => hc ⟨h2, h⟩
          omega
      rw [if_neg hc, Nat.add_zero]
      generalize lstS S = l at *
      simp -implicitDefEqProofs (maxSteps:=9^8) only [Qbw, boxR, x1, x2, g1, g2, t, t2, en, e1, e2, ld4q, Qac, go_sem, iv, bv, reduceCtorEq, ↓reduceIte, Nat.reduceEqDiff]
theorem d7_stop {S : List Int} {n : Nat} : X G Qbw (Qnh d x S n n) = some (.x 0, mkS [(5, ai (chN S S.length))] []) := by
 have e1 : decide ((n : Int) < (n : Int)) = false := lt_f (by omega)
 simp -implicitDefEqProofs (maxSteps:=9^8) only [Qbw, Qnh, boxR, e1, Qac, go_sem, iv, bv, reduceCtorEq, ↓reduceIte, Nat.reduceEqDiff]
theorem d7_loop [ItsB] (hr : RwC d ps) (hn : ps.length ≤ 1000) (hs : ∀ p ∈ ps, SzL K p ∧ p.length * (2 * K + 1) ≤ 40000000000) (hx : sz x ≤ K) (hK : K ≤ 1000000000) : ∀ (j i : Nat), i + j = ps.length →
    X G (.loop Qbw) (Qnh d x (sgs (ps.take i) x) ps.length i) = some (.x 0, mkS [(5, ai (chg ps x))] [])
  | 0, i, h => by
    have : i = ps.length := by omega
    subst this
    rw [Qak, d7_stop, List.take_length]; rfl
  | j + 1, i, h => by
    rw [Qak, d7_go hr hn hs hx hK (by omega), Option.bind_some, if_pos rfl]
    exact d7_loop hr hn hs hx hK j (i + 1) (by omega)
theorem Qec [ItsB] (hr : RwC d ps) (hn : ps.length ≤ 1000) (hs : ∀ p ∈ ps, SzL K p ∧ p.length * (2 * K + 1) ≤ 40000000000) (hx : sz x ≤ K) (hK : K ≤ 1000000000) : Qaj G Qb1 [d, encR x] = some (.d (iv (chg ps x))) := by
 rw [Qad (cf := Qgm) rfl]
 have g := d7_loop hr hn hs hx hK ps.length 0 (by omega)
 have ll := hr.len
 have e0 : sgs (ps.take 0) x = [] := rfl
 have e1 : ((chN [] 0 : Nat) : Int) = 0 := rfl
 have e2 : lstS [] = 0 := rfl
 rw [e0] at g
 generalize chg ps x = c at *
 simp only [Qnh, boxR, e1, e2, nc0, go_sem] at g
 simp -implicitDefEqProofs (maxSteps:=9^8) only [Qgm, encR, g, ll, Qac, go_sem, iv, bv, reduceCtorEq, ↓reduceIte, Nat.reduceEqDiff]
theorem QfG [ItsB] (hr : RwC d ps) (hn : ps.length ≤ 1000) (hs : ∀ p ∈ ps, SzL K p ∧ p.length * (2 * K + 1) ≤ 40000000000) {lo hi : Rat} (h1 : sz lo ≤ K) (h2 : sz hi ≤ K) (hK : K ≤ 1000000000) : Qaj G QeY [d, encR lo, encR hi] = some (.d (iv (cnt ps lo hi))) := by
 rw [Qad (cf := QeL) rfl]
 have g0 := QdA (a := lo) (b := hi) (by omega) (by omega)
 have g1 := Qec hr hn hs h1 hK
 have g2 := Qec hr hn hs h2 hK
 have c1 : chg ps lo ≤ 1000 := Nat.le_trans (QlB _ _) (Nat.le_trans (QnJ ps lo) hn)
 have c2 : chg ps hi ≤ 1000 := Nat.le_trans (QlB _ _) (Nat.le_trans (QnJ ps hi) hn)
 have t0 := cmpR_ge (a := lo) (b := hi)
 unfold cnt
 generalize chg ps lo = a at *
 generalize chg ps hi = b at *
 obtain ⟨z, hz⟩ : ∃ z, (a : Int) - (b : Int) = z := ⟨_, rfl⟩
 have e : w64 ((a : Int) - (b : Int)) = z := by rw [Qaf (by omega) (by omega), hz]
 rw [hz]
 generalize cmpR lo hi = c at *
 simp only [encR, iv] at g0 g1 g2
 by_cases h : hi ≤ lo
 ·rw [if_pos h]
  rw [decide_eq_true h] at t0
  simp -implicitDefEqProofs (maxSteps:=9^8) only [QeL, encR, g0, t0, ld4q, Qac, go_sem, iv, bv, reduceCtorEq, ↓reduceIte, Nat.reduceEqDiff]
 ·rw [if_neg h]
  rw [decide_eq_false h] at t0
  simp -implicitDefEqProofs (maxSteps:=9^8) only [QeL, encR, g0, g1, g2, t0, e, ld4q, Qac, go_sem, iv, bv, reduceCtorEq, ↓reduceIte, Nat.reduceEqDiff]
end
theorem Qfn          [ItsB] {dp : D} {p : List Rat} {K : Nat} (hC : ∃ ds, Dls ds (chP p) ∧ Qaj   G Qbd           [dp] = some (.own 1 ds.length ds)) (hn : (chP p).length ≤ 1000) (hs : ∀ q ∈ chP p, SzL K q ∧ q.length * (2 * K + 1) ≤ 40000000000) {lo hi : Rat} (h1 : sz lo ≤ K) (h2 : sz hi ≤ K) (hK : K ≤ 1000000000) :
    Qaj G QaY [dp, encR lo, encR hi] = some (.d (iv (cnt (chP p) lo hi))) := by
  rw [Qad (cf := Qe0) rfl]
  obtain ⟨ds, hd, g1⟩ := hC
  have g2 := QfG hd.rwc hn hs h1 h2 hK
  generalize cnt (chP p) lo hi = c at *
  simp only [encR, iv] at g2
  simp -implicitDefEqProofs (maxSteps:=9^8) only [Qe0, encR, g1, g2, ld4q, Qac, go_sem, iv, bv, reduceCtorEq, ↓reduceIte, Nat.reduceEqDiff]
theorem Qk0 {l : Rat × Rat} (h1 : sz l.1 ≤ 1000000000) (h2 : sz l.2 ≤ 1000000000) : Qaj G QfI [enc2 l] = some (.d (encR (mid l.1 l.2))) := by
 rw [Qad (cf := QgQ) rfl]
 have g1 := Qe7 (a := l.1) (b := l.2) (by omega) (by omega)
 have g2 := QeP (n := 1) (d := 2) ⟨by omega, by omega⟩ ⟨by omega, by omega⟩
 have z1 := QkI (a := l.1) (b := l.2)
 have z3 := sz_of (n := 1) (d := 2) ⟨by omega, by omega⟩ ⟨by omega, by omega⟩
 have g3 := Qdp (a := l.1 + l.2) (b := Rat.divInt 1 2) (by omega) (by omega)
 unfold mid
 generalize (l.1 + l.2) * Rat.divInt 1 2 = r at *
 generalize l.1 + l.2 = s at *
 generalize Rat.divInt 1 2 = t at *
 obtain ⟨lo, hi⟩ := l
 simp only [encR, iv] at g1 g2 g3
 simp -implicitDefEqProofs (maxSteps:=9^8) only [QgQ, enc2, c2R, encR, g1, g2, g3, st4q, ld4q, st8q, QrJ, QrD, Qac, go_sem, iv, bv, reduceCtorEq, ↓reduceIte, Nat.reduceEqDiff]
theorem Qga [ItsB] {d : D} {p : List Rat} {x : Rat} {K : Nat} (hr : RwR d p) (hx : sz x ≤ K) (hK : K ≤ 1000000) (sp : SzL K p) (np : p.length ≤ 100) : Qaj G Qfh [encR x, .rp [d]] = some (.d (bv (decide (evR p x < 0)))) := by
 rw [Qad (cf := Qgb) rfl]
 have zb : p.length * (2 * K + 1) ≤ 100 * (2 * 1000000 + 1) := Nat.mul_le_mul np (by omega)
 have g1 := Qon hr hx (by omega) sp (by omega)
 have g2 := QcP (evR p x)
 rw [← sign_lt]
 generalize evR p x = v at *
 generalize Int.sign v.num = s at *
 simp only [encR, iv] at g1 g2
 simp -implicitDefEqProofs (maxSteps:=9^8) only [Qgb, encR, Qjp, g1, g2, ld4q, Qac, go_sem, iv, bv, reduceCtorEq, ↓reduceIte, Nat.reduceEqDiff]
end Go.AM

/- sturm.Stays, sturm.odd, ref07.Same, law07.num: walked in general. -/
namespace Go.AM
open Go Go.RowKit
def Qkr (a b : D) : St := mkS [(3, .d a), (4, .d b)] []
def Qir (dp : D) (z x : Rat) (n i : Int) : St := mkS [(4, .ptr [4] 0), (7, .d (.fn Qfh [.rp [dp]])), (10, .ptr [10] 0), (50, ai n), (51, ai i)] [([4], boxR z), ([10], boxR x)]
def Qkf (d e : D) (i : Int) : St := mkS [(0, .d d), (1, .d e), (5, ai i)] []
theorem rep1_4S (a b c d : D) : rep 1 [a, b, c, d] = [a, b, c, d] := rfl
theorem tupS : A.bool? (.d (.v (.tuple #[]))) = none := rfl
section
variable [Its]
theorem Qeo {n : Int} (hn : I64 n) : Qaj G QaD [iv n] = some (.d (encR (n : Rat))) := by
 rw [Qad (cf := Qe3) rfl]
 have o := Qgn (n := n) (d := 1) hn ⟨by omega, by omega⟩
 rw [Qc4] at o
 generalize (n : Rat) = q at *
 simp only [encR, iv] at o
 simp -implicitDefEqProofs (maxSteps:=9^8) only [Qe3, encR, o, st4q, ld4q, Qaa, Qac, go_sem, iv, bv, reduceCtorEq, ↓reduceIte, Nat.reduceEqDiff]
theorem odg_stop {d1 d2 : D} {r : List Rat} (hr : RwR d2 r) (h : r.length ≤ 1) : X G Qds (Qkr d1 d2) = some (.x 0, mkS [(3, .d d1)] []) := by
 have l := hr.len
 have e : decide ((r.length : Int) > 1) = false := decide_eq_false (by omega)
 simp -implicitDefEqProofs (maxSteps:=9^8) only [Qds, Qkr, l, e, go_sem, iv, bv, reduceCtorEq, ↓reduceIte, Nat.reduceEqDiff]
theorem odg_go {d1 d2 a1 a2 a2' a3 a4 a5 a5' a6 a7 a7' : D} {r : List Rat} (h2 : RwR d2 r) (n1 : 1 < r.length)
    (g1 : Qaj G Qcc [d2] = some (.d a1)) (g2 : Qaj G QcD [d2, a1] = some (.d (.tup [a2, a2']))) (g3 : Qaj G Qcc [a2] = some (.d a3)) (g4 : Qaj G Qht [a1, a3] = some (.d a4))
    (g5 : Qaj G QcD [a1, a4] = some (.d (.tup [a5, a5']))) (g6 : Qaj G Qje [d1, a5] = some (.d a6)) (g7 : Qaj G QcD [a2, a3] = some (.d (.tup [a7, a7']))) : X G Qds (Qkr d1 d2) = some (.n, Qkr a6 a7) := by
  have l := h2.len
  have e : decide ((r.length : Int) > 1) = true := decide_eq_true (by omega)
  simp -implicitDefEqProofs (maxSteps:=9^8) only [Qds, Qkr, l, e, g1, g2, g3, g4, g5, g6, g7, go_sem, iv, bv, reduceCtorEq, ↓reduceIte, Nat.reduceEqDiff]
theorem odg_end {dp d1 : D} (h : X G (.loop Qds) (Qkr (rowR [1]) dp) = some (.x 0, mkS [(3, .d d1)] [])) : Qaj G QgC [dp] = some (.d d1) := by
 rw [Qad (cf := QkP) rfl]
 have o := QeP (n := 1) (d := 1) ⟨by omega, by omega⟩ ⟨by omega, by omega⟩
 rw [Qc4, show ((1 : Int) : Rat) = 1 from rfl] at o
 have ea : rowR [1] = .row 1 [.v (.bool (decide ((1 : Rat).num < 0))), dg (digs (1 : Rat).num.natAbs), .v (.bool false), dg (dd (1 : Rat).den)] := rfl
 rw [ea] at h
 generalize (1 : Rat) = q at *
 simp only [encR, iv] at o
 simp only [Qkr, go_sem] at h
 simp -implicitDefEqProofs (maxSteps:=9^8) only [QkP, encR, o, h, rep1_4S, QeJ, Qcl, Qac, go_sem, iv, bv, reduceCtorEq, ↓reduceIte, Nat.reduceEqDiff]
theorem s7s_stop {dp : D} {z x : Rat} {n : Nat} : X G QbX (Qir dp z x n n) = some (.x 0, mkS [] []) := by
 have e1 : decide ((n : Int) < (n : Int)) = false := lt_f (by omega)
 simp -implicitDefEqProofs (maxSteps:=9^8) only [QbX, Qir, boxR, e1, Qac, go_sem, iv, bv, reduceCtorEq, ↓reduceIte, Nat.reduceEqDiff]
/-! Same -/
theorem sm7_go {d e : D} {ps : List (List Rat)} (hd : RwC d ps) (he : RwC e ps) (hn : ps.length ≤ 1000) (hs : ∀ p ∈ ps, SzL 100000000000 p ∧ p.length ≤ 1000) {i : Nat} (hi : i < ps.length) : X G Qby (Qkf d e i) = some (.n, Qkf d e ((i + 1 : Nat) : Int)) := by
 have e1 : decide ((i : Int) < (ps.length : Int)) = true := lt_t (by omega)
 have e2 : w64 ((i : Int) + 1) = ((i + 1 : Nat) : Int) := by rw [Qaf (by omega) (by omega)]; rfl
 have ll := hd.len
 obtain ⟨x, rx, hx, x1, x2⟩ := hd.at hi
 obtain ⟨y, ry, hy, y1, y2⟩ := he.at hi
 have hp := hs (ps.getD i []) (by rw [List.getD_eq_getElem?_getD, List.getElem?_eq_getElem hi]; exact List.getElem_mem hi)
 have g := s6_refl hx hy hp.1 (by omega)
 simp only [bv] at g
 simp -implicitDefEqProofs (maxSteps:=9^8) only [Qby, Qkf, ll, x1, x2, y1, y2, g, e1, e2, go_sem, iv, bv, reduceCtorEq, ↓reduceIte, Nat.reduceEqDiff]
theorem sm7_stop {d e : D} {ps : List (List Rat)} (hd : RwC d ps) : X G Qby (Qkf d e ps.length) = some (.x 0, mkS [] []) := by
 have e1 : decide ((ps.length : Int) < (ps.length : Int)) = false := lt_f (by omega)
 have ll := hd.len
 simp -implicitDefEqProofs (maxSteps:=9^8) only [Qby, Qkf, ll, e1, go_sem, iv, bv, reduceCtorEq, ↓reduceIte, Nat.reduceEqDiff]
theorem QpM {d e : D} {ps : List (List Rat)} (hd : RwC d ps) (he : RwC e ps) (hn : ps.length ≤ 1000) (hs : ∀ p ∈ ps, SzL 100000000000 p ∧ p.length ≤ 1000) : ∀ (j i : Nat), i + j = ps.length → X G (.loop Qby) (Qkf d e i) = some (.x 0, mkS [] [])
 | 0, i, h => by
  have : i = ps.length := by omega
  subst this
  rw [Qak, sm7_stop hd]; rfl
 | j + 1, i, h => by
  rw [Qak, sm7_go hd he hn hs (by omega), Option.bind_some, if_pos rfl]
  exact QpM hd he hn hs j (i + 1) (by omega)
theorem QrG {d e : D} {ps : List (List Rat)} (hd : RwC d ps) (he : RwC e ps) (hn : ps.length ≤ 1000) (hs : ∀ p ∈ ps, SzL 100000000000 p ∧ p.length ≤ 1000) : Qaj G Qft [d, e] = some (.d (bv true)) := by
 rw [Qad (cf := QeD) rfl]
 have g := QpM hd he hn hs ps.length 0 (by omega)
 have l1 := hd.len
 have l2 := he.len
 have t : ((ps.length : Int) != (ps.length : Int)) = false := Qh7 rfl
 simp only [Qkf, nc0, go_sem] at g
 simp -implicitDefEqProofs (maxSteps:=9^8) only [QeD, l1, l2, t, g, go_sem, iv, bv, reduceCtorEq, ↓reduceIte, Nat.reduceEqDiff]
end
section
variable [Its] [ItsB] {dp : D} {p : List Rat} {K : Nat}
theorem QqT    (hr : RwR dp p) (sp : SzL K p) (np : p.length ≤ 100) (hK : K ≤ 1000000) {z x : Rat} (hz : sz z ≤ 100) (hx : sz x ≤ 100) (h205 : 205 ≤ K) {n i : Nat} (hi : i < n) (hn : n ≤ 100) :
    X G QbX (Qir dp z x n i) = if evR p (mid z x) < 0 then some (.r, mkS [(6, ab false)] []) else some (.n, Qir dp z (mid z x) n ((i + 1 : Nat) : Int)) := by
  have e1 : decide ((i : Int) < (n : Int)) = true := lt_t (by omega)
  have e2 : w64 ((i : Int) + 1) = ((i + 1 : Nat) : Int) := by rw [Qaf (by omega) (by omega)]; rfl
  have g1 := Qk0 (l := (z, x)) (by dsimp only; omega) (by dsimp only; omega)
  have zm := QqZ hz hx
  have g2 := Qga hr (x := mid z x) (K := K) (by omega) (by omega) sp (by omega)
  clear sp hz hx zm hr
  dsimp only at g1
  generalize mid z x = m at *
  generalize evR p m = v at *
  simp only [encR, enc2, c2R, iv] at g1 g2
  by_cases h : v < 0
  · rw [decide_eq_true h] at g2
    rw [if_pos h]
    simp -implicitDefEqProofs (maxSteps:=9^8) only [QbX, Qir, boxR, g1, g2, e1, e2, QeJ, Qcl, st4q, ld4q, st8q, QrJ, QrD, Qac, go_sem, iv, bv, reduceCtorEq, ↓reduceIte, Nat.reduceEqDiff]
  · rw [decide_eq_false h] at g2
    rw [if_neg h]
    simp -implicitDefEqProofs (maxSteps:=9^8) only [QbX, Qir, boxR, g1, g2, e1, e2, QeJ, Qcl, st4q, ld4q, st8q, QrJ, QrD, Qac, go_sem, iv, bv, reduceCtorEq, ↓reduceIte, Nat.reduceEqDiff]
theorem Qrs (hr : RwR dp p) (sp : SzL K p) (np : p.length ≤ 100) (hK : K ≤ 1000000) (hp0 : p ≠ []) {lo hi : Rat} (hl : lo ≤ hi) (z1 : sz lo ≤ K) (z2 : sz hi ≤ K) (h : evR p lo < 0) : Qaj G QcS [dp, encR lo, encR hi] = some (.d (bv false)) := by
 rw [Qad (cf := Qfd) rfl]
 have g := QdA (a := lo) (b := hi) (by omega) (by omega)
 have t := QiR (a := lo) (b := hi)
 rw [decide_eq_false (Rat.not_lt.2 hl)] at t
 have hl := hr.len
 have c1 := hr.one
 have c2 := hr.cells
 have c3 := hr.dc
 have c4 := hr.dcl
 have g0 := Qga hr (x := lo) z1 hK sp np
 rw [decide_eq_true h] at g0
 have t2 : ((p.length : Int) == 0) = false := Qcu (by have := List.length_pos_iff.2 hp0; omega)
 clear sp hr h
 generalize cmpR lo hi = c at *
 simp only [encR, iv] at g g0
 simp -implicitDefEqProofs (maxSteps:=9^8) only [Qfd, encR, g, g0, t, hl, t2, c1, c2, c3, c4, toDs, allD, snap, Qcx, Qaa, Qab, ld4q, decide_true, decide_false, tupS, Qac, go_sem, iv, bv, reduceCtorEq, ↓reduceIte, Nat.reduceEqDiff]
theorem Qo4         (hr : RwR dp p) (sp : SzL K p) (np : p.length ≤ 100) (hK : K ≤ 1000000) (hp0 : p ≠ []) {lo hi : Rat} (hl : lo ≤ hi) (z1 : sz lo ≤ K) (z2 : sz hi ≤ K) (h0 : 0 ≤ evR p lo) (h1 : 0 ≤ evR p hi)
    {dg : D} (g2 : Qaj G QgC [dp] = some (.d dg)) (g3 : Qaj G QaY [dg, encR lo, encR hi] = some (.d (iv 0))) (lp : X G (.loop QbX) (Qir dp lo hi p.length 0) = some (.x 0, mkS [] [])) : Qaj G QcS [dp, encR lo, encR hi] = some (.d (bv true)) := by
  rw [Qad (cf := Qfd) rfl]
  have g := QdA (a := lo) (b := hi) (by omega) (by omega)
  have t := QiR (a := lo) (b := hi)
  rw [decide_eq_false (Rat.not_lt.2 hl)] at t
  have hl := hr.len
  have c1 := hr.one
  have c2 := hr.cells
  have c3 := hr.dc
  have c4 := hr.dcl
  have g0 := Qga hr (x := lo) z1 hK sp np
  have g1 := Qga hr (x := hi) z2 hK sp np
  rw [decide_eq_false (Rat.not_lt.2 h0)] at g0
  rw [decide_eq_false (Rat.not_lt.2 h1)] at g1
  have t2 : ((p.length : Int) == 0) = false := Qcu (by have := List.length_pos_iff.2 hp0; omega)
  have d1 : decide ((0 : Int) > 0) = false := rfl
  clear sp hr h0 h1
  generalize cmpR lo hi = c at *
  simp only [encR, iv] at g g0 g1 g3
  simp only [Qir, boxR, go_sem] at lp
  simp -implicitDefEqProofs (maxSteps:=9^8) only [Qfd, encR, g, g0, g1, g2, g3, d1, lp, t, hl, t2, c1, c2, c3, c4, toDs, allD, snap, Qcx, Qaa, Qab, st4q, ld4q, decide_true, decide_false, tupS, Qac, go_sem, iv, bv, reduceCtorEq, ↓reduceIte, Nat.reduceEqDiff]
end
end Go.AM

/- Divisors of polynomials: the common divisor is a combination, the part without squares. -/
namespace Go.AM
open Go Go.RowKit

def Dv (q p : List Rat) : Prop := ∃ s : List Rat, ∀ x, evR p x = evR s x * evR q x
theorem Qct (c x : Rat) : evR [c] x = c := by
 show (0 : Rat) * x + c = c
 rw [Rat.zero_mul, Rat.zero_add]
theorem Dv.refl (p : List Rat) : Dv p p := ⟨[1], fun x => by rw [Qct, Rat.one_mul]⟩
theorem Dv.nil (p : List Rat) : Dv p [] := ⟨[], fun x => by rw [QaF, Rat.zero_mul]⟩
theorem Dv.one (p : List Rat) : Dv [1] p := ⟨p, fun x => by rw [Qct, Rat.mul_one]⟩
theorem Dv.trans {a b c : List Rat} (h : Dv a b) (k : Dv b c) : Dv a c := by
 obtain ⟨s, hs⟩ := h
 obtain ⟨t, ht⟩ := k
 exact ⟨muP t s, fun x => by rw [Qbb, ht, hs, Rat.mul_assoc]⟩
theorem Dv.comb {q a b c u v : List Rat} (h : Dv q a) (k : Dv q b) (hc : ∀ x, evR c x = evR u x * evR a x + evR v x * evR b x) : Dv q c := by
 obtain ⟨s, hs⟩ := h
 obtain ⟨t, ht⟩ := k
 refine ⟨adP (muP u s) (muP v t), fun x => ?_⟩
 rw [Qmu, Qbb, Qbb, hc, hs, ht]
 generalize evR u x = a1; generalize evR v x = a2; generalize evR s x = a3; generalize evR t x = a4; generalize evR q x = a5
 grind
theorem QkS {l : List Rat} (hl : Trm l) (h : ∀ x, evR l x = 0) : l = [] := Qgx hl Qf9 (fun x => by rw [h, QaF])
theorem ev_ne {l : List Rat} (hl : Trm l) (h : l ≠ []) : ∃ x, evR l x ≠ 0 := Classical.byContradiction fun hn => h (QkS hl fun x => Classical.byContradiction fun hx => hn ⟨x, hx⟩)
theorem mul_len {a b : List Rat} (ha : Trm a) (hb : Trm b) (na : a ≠ []) (nb : b ≠ []) : (muP a b).length = a.length + b.length - 1 := by
 have h1 := List.length_pos_iff.2 na
 have h2 := List.length_pos_iff.2 nb
 have h3 : (muP a b).getD (a.length - 1 + (b.length - 1)) 0 ≠ 0 := by
  rw [mu_getD, QqV h1 h2]
  intro h0
  rcases Rat.mul_eq_zero.1 h0 with h4 | h4
  ·exact Qdi ha na h4
  ·exact Qdi hb nb h4
 have := Qkb h3
 have := len_mu a b
 omega
theorem QoP {a b : List Rat} (h : ∀ x, evR a x * evR b x = 0) : (∀ x, evR a x = 0) ∨ (∀ x, evR b x = 0) := by
 by_cases ha : Qa2 a = []
 ·exact .inl fun x => by rw [← Qbl, ha, QaF]
 ·by_cases hb : Qa2 b = []
  ·exact .inr fun x => by rw [← Qbl, hb, QaF]
  ·have h1 := mul_len (QbE a) (QbE b) ha hb
   have h2 : muP (Qa2 a) (Qa2 b) = [] := QkS (Qky _ _) fun x => by rw [Qbb, Qbl, Qbl, h]
   have h3 := List.length_pos_iff.2 ha
   have h4 := List.length_pos_iff.2 hb
   rw [h2] at h1
   simp only [List.length_nil] at h1
   omega
theorem QiA {a b c : List Rat} (hc : ∃ x, evR c x ≠ 0) (h : ∀ x, evR a x * evR c x = evR b x * evR c x) (x : Rat) : evR a x = evR b x := by
 rcases QoP (a := sbP a b) (b := c) (fun x => by rw [Qru]; have := h x; generalize evR a x = u at *; generalize evR b x = v at *; generalize evR c x = w at *; grind) with h1 | h1
 ·have := h1 x
  rw [Qru] at this
  generalize evR a x = u at *; generalize evR b x = v at *
  grind
 ·obtain ⟨y, hy⟩ := hc
  exact absurd (h1 y) hy
theorem QkE {p : List Rat} (tp : Trm p) (h : Dv [] p) : p = [] := by
 obtain ⟨s, hs⟩ := h
 exact QkS tp fun x => by rw [hs, QaF, Rat.mul_zero]
theorem Qnp {q p : List Rat} (tq : Trm q) (tp : Trm p) (np : p ≠ []) (h : Dv q p) : ∃ s, Trm s ∧ s ≠ [] ∧ q ≠ [] ∧ p = muP s q ∧ p.length = s.length + q.length - 1 := by
 have nq : q ≠ [] := fun h0 => np (QkE tp (h0 ▸ h))
 obtain ⟨s, hs⟩ := h
 have e : p = muP (Qa2 s) q := Qgx tp (Qky _ _) fun x => by rw [hs, Qbb, Qbl]
 have ns : Qa2 s ≠ [] := fun h0 => np (QkS tp fun x => by rw [hs, ← Qbl s, h0, QaF, Rat.zero_mul])
 exact ⟨Qa2 s, QbE _, ns, nq, e, by rw [e]; exact mul_len (QbE _) tq ns nq⟩
theorem QgG {q p : List Rat} (tq : Trm q) (tp : Trm p) (np : p ≠ []) (h : Dv q p) : q.length ≤ p.length := by
 obtain ⟨s, _, ns, _, _, hl⟩ := Qnp tq tp np h
 have := List.length_pos_iff.2 ns
 omega
theorem QnK {q p : List Rat} (tq : Trm q) (nq : q ≠ []) (h : Dv q p) : remP p q = [] ∧ ∀ x, evR p x = evR (quoP p q) x * evR q x := by
 obtain ⟨h1, h2, h3, h4⟩ := QkM (p := p) tq nq
 obtain ⟨s, hs⟩ := h
 have hr : remP p q = [] := (div_uniq tq nq h3 (QbE s) h4 Qf9 h2 (by simp) (fun x => by rw [← h1, Qbl, hs, QaF, Rat.add_zero])).2
 exact ⟨hr, fun x => by rw [h1, hr, QaF, Rat.add_zero]⟩

def Mo (l : List Rat) : Prop := l = [] ∨ l.getD (l.length - 1) 0 = 1
theorem QoJ : Trm [1] := fun n h => by
 have : n = 0 := by simpa using h.symm
 subst this
 show (1 : Rat) ≠ 0
 decide
theorem mo_mn {l : List Rat} (tl : Trm l) : Mo (mnP l) := by
 by_cases h : l = []
 ·subst h; exact .inl rfl
 ·refine .inr ?_
  rw [QgX tl, mn_getD h, Rat.div_def, Rat.one_mul, Rat.mul_inv_cancel _ (Qdi tl h)]
theorem ev_mn {l : List Rat} (h : l ≠ []) (x : Rat) : evR (mnP l) x = evR l x * (1 / l.getD (l.length - 1) 0) := by rw [mnP, if_neg h, QmW]
theorem dv_mn {l : List Rat} : Dv l (mnP l) := by
 by_cases h : l = []
 ·subst h; exact Dv.nil _
 ·exact ⟨[1 / l.getD (l.length - 1) 0], fun x => by rw [ev_mn h, Qct, Rat.mul_comm]⟩
theorem Qq7 {l : List Rat} (tl : Trm l) : Dv (mnP l) l := by
 by_cases h : l = []
 ·subst h; exact Dv.nil _
 ·refine ⟨[l.getD (l.length - 1) 0], fun x => ?_⟩
  have h1 := Qdi tl h
  rw [ev_mn h, Qct]
  generalize l.getD (l.length - 1) 0 = c at *
  rw [Rat.div_def, Rat.one_mul, Rat.mul_comm (evR l x), ← Rat.mul_assoc, Rat.mul_inv_cancel _ h1, Rat.one_mul]
theorem mn_ne {l : List Rat} (tl : Trm l) (h : l ≠ []) : mnP l ≠ [] := fun h0 => h (by
 have := QgX tl
 rw [h0] at this
 exact List.length_eq_zero_iff.1 this.symm)
theorem Qmr {a : List Rat} (ma : Mo a) (h : a.length = 1) : a = [1] := by
  obtain ⟨c, rfl⟩ : ∃ c, a = [c] := List.length_eq_one_iff.1 h
  rcases ma with h1 | h1
  · cases h1
  · have : c = 1 := h1
    rw [this]

/-! ### The common divisor -/
theorem gc_bez : ∀ (n : Nat) (a b : List Rat), Trm a → Trm b → b.length < n → (∃ u v, ∀ x, evR (gcP n a b) x = evR u x * evR a x + evR v x * evR b x) ∧ Dv (gcP n a b) a ∧ Dv (gcP n a b) b
 | 0, _, _, _, _, h => by omega
 | n + 1, a, b, ta, tb, h => by
  rw [gcP]
  by_cases hb : b = []
  ·rw [if_pos hb]
   subst hb
   exact ⟨⟨[1], [], fun x => by rw [Qct, QaF, Rat.one_mul, Rat.zero_mul, Rat.add_zero]⟩, Dv.refl _, Dv.nil _⟩
  ·rw [if_neg hb]
   obtain ⟨q1, q2, q3, q4⟩ := QkM (p := a) tb hb
   have hp := List.length_pos_iff.2 hb
   obtain ⟨⟨u, v, i1⟩, i2, i3⟩ := gc_bez n b (mnP (remP a b)) tb (QhC _) (by have := QgX q4; omega)
   generalize gcP n b (mnP (remP a b)) = g at *
   have i4 : Dv g (remP a b) := i3.trans (Qq7 q4)
   obtain ⟨s, hs⟩ := dv_mn (l := remP a b)
   refine ⟨⟨muP v s, sbP u (muP (muP v s) (quoP a b)), fun x => ?_⟩, i2.comb i4 (u := quoP a b) (v := [1]) (fun x => by rw [Qct, Rat.one_mul]; exact q1 x), i2⟩
   rw [i1, hs, Qru, Qbb, Qbb, Qbb, q1]
   generalize evR u x = a1; generalize evR v x = a2; generalize evR s x = a3; generalize evR b x = a4; generalize evR (quoP a b) x = a5; generalize evR (remP a b) x = a6
   grind
theorem trm_gcP : ∀ (n : Nat) (a b : List Rat), Trm a → Trm b → Trm (gcP n a b)
 | 0, _, _, ha, _ => ha
 | n + 1, a, b, ha, hb => by
  rw [gcP]
  split
  ·exact ha
  ·exact trm_gcP n b _ hb (QhC _)
theorem mo_gcP : ∀ (n : Nat) (a b : List Rat), Mo a → Mo b → Mo (gcP n a b)
 | 0, _, _, ha, _ => ha
 | n + 1, a, b, ha, hb => by
  rw [gcP]
  split
  ·exact ha
  ·exact mo_gcP n b _ hb (mo_mn (trm_dv _ _))
section
variable {p q : List Rat}
theorem QhR (tp : Trm p) (tq : Trm q) : (∃ u v, ∀ x, evR (gcdP p q) x = evR u x * evR p x + evR v x * evR q x) ∧ Dv (gcdP p q) p ∧ Dv (gcdP p q) q := by
 obtain ⟨⟨u, v, h1⟩, h2, h3⟩ := gc_bez (q.length + 1) (mnP p) (mnP q) (QhC _) (QhC _) (by have := QgX tq; omega)
 obtain ⟨s, hs⟩ := dv_mn (l := p)
 obtain ⟨t, ht⟩ := dv_mn (l := q)
 refine ⟨⟨muP u s, muP v t, fun x => ?_⟩, h2.trans (Qq7 tp), h3.trans (Qq7 tq)⟩
 show evR (gcP _ _ _) x = _
 rw [h1, hs, ht, Qbb, Qbb, Rat.mul_assoc, Rat.mul_assoc]
theorem QhP : Trm (gcdP p q) := trm_gcP _ _ _ (QhC _) (QhC _)
theorem QqC (tp : Trm p) (tq : Trm q) : Mo (gcdP p q) := mo_gcP _ _ _ (mo_mn tp) (mo_mn tq)
theorem Qqf (tp : Trm p) (tq : Trm q) (h : p ≠ [] ∨ q ≠ []) : gcdP p q ≠ [] := fun h0 => by
 obtain ⟨_, k2, k3⟩ := QhR tp tq
 rw [h0] at k2 k3
 rcases h with h | h
 ·exact h (QkE tp k2)
 ·exact h (QkE tq k3)
theorem gcd_nil : gcdP [] [] = [] := rfl
theorem QhG (a b : List Rat) : Trm (quoP a b) := by
 unfold quoP
 split
 ·exact Qf9
 ·exact QbE _
end

/-! ### The part without squares -/
def Irr (π : List Rat) : Prop := Trm π ∧ 2 ≤ π.length ∧ ∀ d, Trm d → Dv d π → d.length = 1 ∨ d.length = π.length
theorem irr_ex : ∀ (n : Nat) (h : List Rat), h.length ≤ n → Trm h → 2 ≤ h.length → ∃ π, Irr π ∧ Dv π h
 | 0, h, hn, _, h2 => by omega
 | n + 1, h, hn, th, h2 => by
  have nh : h ≠ [] := fun h0 => by rw [h0] at h2; simp at h2
  by_cases hex : ∃ d, Trm d ∧ Dv d h ∧ 2 ≤ d.length ∧ d.length < h.length
  ·obtain ⟨d, td, hd, d2, dl⟩ := hex
   obtain ⟨π, h1, h3⟩ := irr_ex n d (by omega) td d2
   exact ⟨π, h1, h3.trans hd⟩
  ·refine ⟨h, ⟨th, h2, fun d td hd => ?_⟩, Dv.refl _⟩
   have l1 := QgG td th nh hd
   have nd : d ≠ [] := fun h0 => nh (QkE th (h0 ▸ hd))
   have l2 := List.length_pos_iff.2 nd
   by_cases l3 : d.length = h.length
   ·exact .inr l3
   ·refine .inl ?_
    by_cases l4 : 2 ≤ d.length
    ·exact absurd ⟨d, td, hd, l4, by omega⟩ hex
    ·omega
theorem dv_eqlen {g π : List Rat} (tg : Trm g) (tπ : Trm π) (nπ : π ≠ []) (h : Dv g π) (hl : g.length = π.length) : Dv π g := by
 obtain ⟨s, ts, ns, ng, e, hh⟩ := Qnp tg tπ nπ h
 have p1 := List.length_pos_iff.2 ng
 obtain ⟨c, rfl⟩ : ∃ c, s = [c] := List.length_eq_one_iff.1 (by omega)
 have hc : c ≠ 0 := by
  have := Qdi ts ns
  exact this
 refine ⟨[c⁻¹], fun x => ?_⟩
 rw [e, Qbb, Qct, Qct, ← Rat.mul_assoc, Rat.inv_mul_cancel _ hc, Rat.one_mul]
theorem irr_ne {π : List Rat} (h : Irr π) : π ≠ [] := fun h0 => by have := h.2.1; rw [h0] at this; simp at this
theorem irr_prime {π a b : List Rat} (h : Irr π) (ta : Trm a) (hd : Dv π (muP a b)) : Dv π a ∨ Dv π b := by
 obtain ⟨tπ, h2, h3⟩ := h
 have nπ : π ≠ [] := irr_ne ⟨tπ, h2, h3⟩
 obtain ⟨⟨u, v, k1⟩, k2, k3⟩ := QhR tπ ta
 have tg : Trm (gcdP π a) := QhP
 have mg := QqC tπ ta
 generalize gcdP π a = g at *
 rcases h3 g tg k2 with hl | hl
 ·have hg := Qmr mg hl
  subst hg
  refine .inr ?_
  obtain ⟨t, ht⟩ := hd
  refine ⟨adP (muP u b) (muP v t), fun x => ?_⟩
  have e1 := k1 x
  have e2 := ht x
  rw [Qct] at e1
  rw [Qbb] at e2
  rw [Qmu, Qbb, Qbb]
  generalize evR u x = a1 at *; generalize evR v x = a2 at *; generalize evR a x = a3 at *; generalize evR b x = a4 at *; generalize evR t x = a5 at *; generalize evR π x = a6 at *
  have e3 : a4 = (a1 * a6 + a2 * a3) * a4 := by rw [← e1, Rat.one_mul]
  grind
 ·exact .inl ((dv_eqlen tg tπ nπ k2 hl).trans k3)
def pwP (π : List Rat) : Nat → List Rat
 | 0 => [1]
 | k + 1 => muP (pwP π k) π
theorem ev_pw (π : List Rat) (x : Rat) : ∀ k, evR (pwP π k) x = (evR π x) ^ k
 | 0 => by rw [pwP, Qct, Rat.pow_zero]
 | k + 1 => by rw [pwP, Qbb, ev_pw π x k, Rat.pow_succ]
theorem QoK {π : List Rat} (h : Irr π) : ∀ (n : Nat) (p : List Rat), p.length ≤ n → Trm p → p ≠ [] → ∃ k v, Trm v ∧ ¬ Dv π v ∧ ∀ x, evR p x = evR (pwP π k) x * evR v x
 | 0, p, hn, _, np => absurd (List.length_eq_zero_iff.1 (by omega)) np
 | n + 1, p, hn, tp, np => by
  by_cases hd : Dv π p
  ·obtain ⟨s, ts, ns, _, e, hl⟩ := Qnp h.1 tp np hd
   have h2 := h.2.1
   have p1 := List.length_pos_iff.2 ns
   obtain ⟨k, v, tv, nv, hv⟩ := QoK h n s (by omega) ts ns
   refine ⟨k + 1, v, tv, nv, fun x => ?_⟩
   rw [e, Qbb, hv, pwP, Qbb]
   generalize evR (pwP π k) x = a; generalize evR v x = b; generalize evR π x = c
   grind
  ·exact ⟨0, p, tp, hd, fun x => by rw [pwP, Qct, Rat.one_mul]⟩
theorem Qm3 {l m : List Rat} (h : ∀ x, evR l x = evR m x) (x : Rat) : der l x = der m x := by
 have e : deP l = deP m := Qph (Qc8 l) (Qc8 m) fun k => by rw [Qpp, Qpp, QmS (c := 0) (fun x _ => h x)]
 rw [← QkU, ← QkU, e]
theorem der_pow {π v : List Rat} : ∀ (j : Nat) (p : List Rat), (∀ x, evR p x = evR (pwP π (j + 1)) x * evR v x) → Dv (pwP π j) (deP p)
 | 0, p, _ => Dv.one _
 | j + 1, p, h => by
  have h' : ∀ x, evR p x = evR (muP (muP (pwP π (j + 1)) v) π) x := fun x => by
   rw [h, pwP, Qbb, Qbb, Qbb]
   generalize evR (pwP π (j + 1)) x = a; generalize evR v x = b; generalize evR π x = c
   grind
  obtain ⟨s, hs⟩ := der_pow (π := π) (v := v) j (muP (pwP π (j + 1)) v) (fun x => Qbb _ _ _)
  refine ⟨adP s (muP v (deP π)), fun x => ?_⟩
  have e1 := hs x
  rw [QkU] at e1
  rw [QkU, Qm3 h', QnG, e1, Qbb, Qmu, Qbb, pwP, Qbb, QkU]
  generalize evR (pwP π j) x = a; generalize evR v x = b; generalize evR π x = c; generalize evR s x = d; generalize der π x = e
  grind
theorem rpow_ne {x : Rat} (h : x ≠ 0) : ∀ k : Nat, x ^ k ≠ 0
 | 0 => by rw [Rat.pow_zero]; decide
 | k + 1 => by
  rw [Rat.pow_succ]
  intro h0
  rcases Rat.mul_eq_zero.1 h0 with h1 | h1
  ·exact rpow_ne h k h1
  ·exact h h1
theorem pw_ne {π : List Rat} (tπ : Trm π) (nπ : π ≠ []) (k : Nat) : ∃ x, evR (pwP π k) x ≠ 0 := by
 obtain ⟨x, hx⟩ := ev_ne tπ nπ
 exact ⟨x, by rw [ev_pw]; exact rpow_ne hx k⟩
section
variable {p : List Rat}
theorem QiH (tp : Trm p) (np : p ≠ []) : gcdP p (deP p) ≠ [] ∧ (∀ x, evR p x = evR (quoP p (gcdP p (deP p))) x * evR (gcdP p (deP p)) x) ∧ quoP p (gcdP p (deP p)) ≠ [] := by
 have ng := Qqf tp (Qc8 p) (.inl np)
 obtain ⟨_, k2, _⟩ := QhR tp (Qc8 p)
 have e := (QnK QhP ng k2).2
 exact ⟨ng, e, fun h0 => np (QkS tp fun x => by rw [e, h0, QaF, Rat.zero_mul])⟩
theorem Qlz (tp : Trm p) (np : p ≠ []) : frP p ≠ [] := mn_ne (QhG _ _) (QiH tp np).2.2
theorem Qic (p : List Rat) : Trm (frP p) := QhC _
theorem Qjt (tp : Trm p) (np : p ≠ []) : Dv (frP p) p :=
 (Qq7 (QhG _ _)).trans ⟨gcdP p (deP p), fun x => by rw [(QiH tp np).2.1, Rat.mul_comm]⟩
theorem frP_free (tp : Trm p) (np : p ≠ []) : gcdP (frP p) (deP (frP p)) = [1] := by
 obtain ⟨ng, e, nF⟩ := QiH tp np
 obtain ⟨⟨a, b, k1⟩, _, _⟩ := QhR tp (Qc8 p)
 have hFf : Dv (frP p) (quoP p (gcdP p (deP p))) := Qq7 (QhG _ _)
 have nf := Qlz tp np
 have tf := Qic p
 have tg : Trm (gcdP p (deP p)) := QhP
 generalize gcdP p (deP p) = g at *
 generalize frP p = f at *
 have nh := Qqf tf (Qc8 f) (.inl nf)
 have th : Trm (gcdP f (deP f)) := QhP
 obtain ⟨_, d1, d2⟩ := QhR tf (Qc8 f)
 have hp := List.length_pos_iff.2 nh
 by_cases h2 : 2 ≤ (gcdP f (deP f)).length
 ·exfalso
  obtain ⟨π, hI, hπ⟩ := irr_ex _ _ (Nat.le_refl _) th h2
  have tπ := hI.1
  have nπ := irr_ne hI
  have c1 := hπ.trans d1
  obtain ⟨t, ht⟩ := hπ.trans d2
  obtain ⟨u, tu, nu, _, eu, _⟩ := Qnp tπ tf nf c1
  have hu : Dv π u := by
   have : Dv π (muP u (deP π)) := ⟨sbP t (deP u), fun x => by
    have e1 := ht x
    rw [QkU, eu, QnG] at e1
    rw [Qbb, Qru, QkU, QkU]
    generalize der u x = a1 at *; generalize evR π x = a2 at *; generalize evR u x = a3 at *; generalize der π x = a4 at *; generalize evR t x = a5 at *
    grind⟩
   rcases irr_prime hI tu this with h | h
   ·exact h
   ·exfalso
    have l1 := QkC tπ
    have h3 := hI.2.1
    have nd : deP π ≠ [] := fun h0 => by rw [h0] at l1; simp only [List.length_nil] at l1; omega
    have := QgG tπ (Qc8 π) nd h
    omega
  obtain ⟨w, hw⟩ := hu
  obtain ⟨s, hs⟩ := hFf
  obtain ⟨k, v, tv, nv, hv⟩ := QoK hI p.length p (Nat.le_refl _) tp np
  have hsq : ∀ x, evR p x = evR s x * (evR w x * evR π x * evR π x) * evR g x := fun x => by rw [e, hs, eu, Qbb, hw]
  cases k with
  | zero =>
   refine nv ⟨muP (muP s (muP w π)) g, fun x => ?_⟩
   have e1 := hv x
   rw [pwP, Qct, Rat.one_mul] at e1
   rw [← e1, hsq, Qbb, Qbb, Qbb]
   generalize evR s x = a1; generalize evR π x = a2; generalize evR w x = a3; generalize evR g x = a4
   grind
  | succ j =>
   obtain ⟨q, hq⟩ := der_pow j p hv
   -- the power before divides g
   have hg : ∀ x, evR g x = evR (adP (muP a (muP v π)) (muP b q)) x * evR (pwP π j) x := fun x => by
    rw [k1, hv, hq, pwP, Qbb, Qmu, Qbb, Qbb, Qbb]
    generalize evR a x = a1; generalize evR π x = a2; generalize evR v x = a3; generalize evR b x = a4; generalize evR q x = a5; generalize evR (pwP π j) x = a6
    grind
   generalize adP (muP a (muP v π)) (muP b q) = G at *
   refine nv ⟨muP (muP s w) G, fun x => ?_⟩
   have := QiA (a := v) (b := muP (muP (muP s w) G) π) (c := muP (pwP π j) π) (by
    obtain ⟨y, hy⟩ := pw_ne tπ nπ (j + 1)
    exact ⟨y, hy⟩) (fun x => by
    have e1 := hv x
    rw [pwP, Qbb, hsq, hg] at e1
    rw [Qbb, Qbb, Qbb, Qbb]
    generalize evR s x = a1 at *; generalize evR π x = a2 at *; generalize evR w x = a3 at *; generalize evR G x = a4 at *; generalize evR v x = a5 at *; generalize evR (pwP π j) x = a6 at *
    grind) x
   rw [this, Qbb]
 ·exact Qmr (QqC tf (Qc8 f)) (by omega)
end
end Go.AM

/- Chains of polynomials of at most the second degree; plain. -/
namespace Go.AM
open Go Go.RowKit
theorem trm1 {a : Rat} (h : a ≠ 0) : Trm [a] := fun n hn => by
 obtain rfl : n = 0 := by simp at hn; omega
 exact h
theorem trm2 {a b : Rat} (h : b ≠ 0) : Trm [a, b] := fun n hn => by
 obtain rfl : n = 1 := by simp at hn; omega
 exact h
/-! Constants and lines -/
/-! Squares -/
/-! Changes -/
end Go.AM

/- ref07.Free, Chain at polynomials of at most the second degree: sizes. Halving. -/
namespace Go.AM
open Go Go.RowKit
theorem Qqz {K : Nat} : ∀ {l : List Rat}, SzL K l → HL (l.length * K) (l.length * K) l
 | [], _ => HL.nil _ _
 | a :: l, h => by
  obtain ⟨D, h1, h2, h3⟩ := Qqz (l := l) fun q hq => h q (List.mem_cons_of_mem _ hq)
  obtain ⟨E, k1, k2, k3⟩ := H1_of_sz (h a (List.mem_cons_self ..))
  have e : (a :: l).length * K = K + l.length * K := by rw [List.length_cons, Nat.succ_mul]; omega
  rw [e]
  refine ⟨E * D, Nat.mul_pos k1 h1, Qcv k2 h2, fun q hq => ?_⟩
  rcases List.mem_cons.1 hq with rfl | hq
  ·exact (k3.lift D).le (Qcv (Nat.le_refl _) h2)
  ·exact ((h3 q hq).lift' E).le (Qcv k2 (Nat.le_refl _))
theorem hl3 {K : Nat} {l : List Rat} (h : SzL K l) (hl : l.length ≤ 3) : HL (3 * K) (3 * K) l :=
 (Qqz h).mono (Nat.mul_le_mul_right _ hl) (Nat.mul_le_mul_right _ hl)
theorem hl21 {l : List Rat} (h : SzL 7000 l) (hl : l.length ≤ 3) : HL 21000 21000 l := by
 obtain ⟨K, hK⟩ : ∃ K, K = 7000 := ⟨_, rfl⟩
 rw [← hK] at h
 have := hl3 h hl
 exact this.mono (by omega) (by omega)
theorem dv_ok {a b : List Rat} (ha : SzL 7000 a) (hb : SzL 7000 b) (na : a.length ≤ 3) (nb : b.length ≤ 3) (tb : Trm b) : dvG 800000 b (dvN a b) a ∧ HL 800000 800000 (quoP a b) ∧ SzL 800000 (remP a b) := by
 have hm : dvN a b ≤ 4 := by unfold dvN; omega
 have h1 : dvN a b * 21000 ≤ 4 * 21000 := Nat.mul_le_mul_right _ hm
 have h2 : dvN a b * (21000 + 1) ≤ 4 * (21000 + 1) := Nat.mul_le_mul_right _ hm
 have Ha := hl21 ha na
 have Hb := hl21 hb nb
 obtain ⟨x, y, z⟩ := QnW (K := 800000) Ha Hb tb (by omega)
 exact ⟨x, z.mono (by omega) (by omega), y.sz.mono (by omega)⟩
theorem ch_done (K n : Nat) (a : List Rat) : ChOk K n a [] := by cases n with
 | zero => exact rfl
 | succ n => exact .inl rfl
theorem QoG {n : Nat} {a b : List Rat} (ha : SzL 7000 a) (hb : SzL 7000 b) (na : a.length ≤ 3) (nb : b.length ≤ 3) (tb : Trm b) (h : ChOk 800000 n b (scP (remP a b) (-1))) : ChOk 800000 (n + 1) a b := by
 obtain ⟨h1, _, h3⟩ := dv_ok ha hb na nb tb
 exact .inr ⟨tb, by omega, (hl21 hb nb).mono (by omega) (by omega), hb.mono (by omega), h1, h3, h⟩
/-! Halving -/
def hf : Rat := Rat.divInt 1 2
end Go.AM

/- The seat's iterators: Backward alone. -/
namespace Go.AM
open Go Go.RowKit Go.Proofs

instance itsP : Its := { it := fun f ds => if f = Qag then Qjw ds else none }
instance itsBP : ItsB := ⟨fun _ => if_pos rfl⟩
theorem envP : EnvOk Tryz.prog G := env_ok fun f ds xs h => by
  have h' : (if f = Qag then Qjw ds else none) = some xs := h
  split at h'
  · rename_i hf
    rw [hf]
    exact Qoq h'
  · cases h'
end Go.AM

/- Iterators whose closures call themselves: a region's operations one by one; calls that yield. -/
namespace Go.AM
open Go Go.RowKit

section
variable {P : Program}
theorem QoW {n m l : Nat} {args : Array Value} {W : World} {R : Ending → World → Prop} (h : YieldAt Fence.wide n P l args W R) : YieldAt Fence.wide m P l args W R := by
 obtain ⟨fn, t, a, b, h1, h2⟩ := h
 exact ⟨fn, t, a, b, h1, h2.1, fun c cs _ => h2.2 c cs (room_wide _)⟩
theorem Qnn {n l : Nat} {args : Array Value} {W : World} {R R' : Ending → World → Prop} (h : YieldAt Fence.wide n P l args W R) (hr : ∀ e w, R e w → R' e w) : YieldAt Fence.wide n P l args W R' := by
 obtain ⟨fn, t, a, b, h1, h2⟩ := h
 exact ⟨fn, t, a, b, h1, h2.mono hr⟩
theorem QkX {n m : Nat} {f : FuncId} {args : Array Value} {W : World} {R : Ending → World → Prop} (h : CallsIn Fence.wide n P f args W R) : CallsIn Fence.wide m P f args W R :=
 callsIn_wide.2 (callsIn_wide.1 h)
theorem Answers.any {n m : Nat} {S : Nat → Prop} {w0 : World} {l : Nat} {J Jx : Held} {xs : List (List D)} (h : Answers P n S w0 l J Jx xs) : Answers P m S w0 l J Jx xs :=
 fun i x L V W args hx hj hr => QoW (h i x L V W args hx hj hr)
end

section
variable {S : Nat → Prop} {w0 : World} {N n : Nat} {J Jx : Held} {st s : St} {i : Nat} {a a' : Act} {W W' : World} {P : Program} {Γ : Env}
variable {ops : Array Oper} {os : List O} {R : Ex → Act → World → Prop} {k len : Nat}

def WO (P : Program) (n : Nat) (ops : Array Oper) (R : Ex → Act → World → Prop) (k len : Nat) (a : Act) (W : World) : Prop := wpOpsIn Fence.wide (n + 1) P ops (toQ R) (List.range' k len) a W
theorem QnX (h : R .n a W) : WO P n ops R k 0 a W := h
theorem QiQ     (hE : EnvOk P Γ) (hab : QfE   w0 J) (hO : Ops P N ops os) (h : Inv S w0 N J st i a W) {B : List O} (hB : ∀ j o, B[j]? = some o → os[k + j]? = some o) (hx : exs (Qaj   Γ) B st = some s)
    (hK : ∀ a' W', Inv S w0 N J s i a' W' → WO P n ops R (k + B.length) len a' W') : WO P n ops R k (B.length + len) a W := by
  obtain ⟨m, L, h⟩ := h
  unfold WO
  have hap := @List.range'_append_1 k B.length len
  rw [← hap]
  refine Qjg (wd := ⟨W, Live m st.hp, fun _ => none, fun _ => False⟩) (fun f ds r h => (QhT hE h).at (Qhd QjZ _ _)) wide_ok hO _ h.rel (by rw [← Qlj B k st hB]; exact hx) ?_
  intro m1 a1 W1 R1
  exact hK a1 W1 ⟨m1, L, h.next hab R1⟩
theorem Qqx      {o : Oper} {c : Call} {ty f : Nat} {us : List Value} (hoo : ops[k]? = some o) (hop : o.op = .call c) (hce : c.callee = .value (.tmp ty)) (hwant : Region.wanted o (yielded ops a.tmps) = true) (hv : a.eval (.tmp ty) = .func (.func f) #[] us.toArray)
    (hf : ∃ fn, P.funcs[f]? = some fn ∧ fn.body.isSome = true ∧ fn.name ≠ "runtime.NumGoroutine")
    (hcall : CallsIn Fence.wide 0 P f (c.args.toList.map a.eval ++ us).toArray W fun e W' => ∃ v, e = .returned v ∧ WO P n ops R (k + 1) len (a.put o.dst v) W') : WO P n ops R k (len + 1) a W := by
  obtain ⟨fn, hfn, hb, hn⟩ := hf
  unfold WO
  rw [List.range'_succ, wpOpsIn_cons]
  unfold wpOpIn
  simp only [hoo, hwant, if_true]
  have hargs' : c.args.map a.eval = (c.args.toList.map a.eval).toArray := by apply Array.ext'; simp
  have hexec : (execOp a.eval o).run P W = .ok (.enter f (c.args.toList.map a.eval ++ us).toArray) W := by
    simp only [execOp, hop, resolve, hce, hv, Deferred.ofValue, Sem.run_bind, Sem.run_pure, Result.andThen_ok, invoke, hargs']
    rw [Qek hfn hb hn]
    congr 2
    simp
  refine ⟨fun f _ => trivial, ?_⟩
  rw [Oper.semAt_eq _ _ _ (fun c' h => by rw [hop] at h; cases h), hexec, Oper.uponIn_enter]
  refine ⟨fun h => (by cases h), ?_⟩
  refine (QkX hcall).mono ?_
  rintro e W2 ⟨v, rfl, h⟩
  exact h

def OwesY (P : Program) (S : Nat → Prop) (w0 : World) (J Jx : Held) (f i mm : Nat) (ds : List D) : Prop :=
 ∀ (L V : Nat → Prop) (W : World) (args : List Value), J i L V W → (∀ b, V b → w0.heap.size ≤ b ∧ b < W.heap.size) → (∀ b, L b → b < W.heap.size) → w0.heap.size ≤ W.heap.size →
  RepL (fun b => (S b ∨ w0.heap.size ≤ b) ∧ b < W.heap.size ∧ ¬ V b ∧ ¬ L b) W ds args →
  CallsIn Fence.wide 0 P f args.toArray W fun e W' => ∃ L', Foot L W W' ∧ (∀ b, L' b → b < W.heap.size → L b) ∧ (∀ b, L' b → b < W'.heap.size) ∧
   ((e = .returned (.bool true) ∧ J (i + mm) L' V W') ∨ (e = .returned (.bool false) ∧ ∃ i', Jx i' L' V W'))

theorem Inv1.after {m : Key → Nat} {L L' : Nat → Prop} {J' : Held} {j : Nat} (h : Inv1 S w0 N J st i a W m L) (f1 : Foot L W W') (f2 : ∀ b, L' b → b < W.heap.size → L b) (f3 : ∀ b, L' b → b < W'.heap.size) (hj : J' j L' (Live m st.hp) W') : Inv1 S w0 N J' st j a W' m L' := by
 have hsz : W.heap.size ≤ W'.heap.size := f1.size
 have R2 : Rel (fun b => (S b ∨ w0.heap.size ≤ b) ∧ ¬ L' b) N ⟨W', Live m st.hp, fun _ => none, fun _ => False⟩ m st a W' :=
  h.rel.move rfl hsz (fun b hb hs => ⟨hs.1, fun hl => hs.2 (f2 b hl hb)⟩) (fun b cs T fz hs hh => by rw [f1.block b (Qci hh) hs.2]; exact hh)
   (fun b hb => ⟨.inr (by have := h.sz; omega), fun hl => by have := f3 b hl; omega⟩) (Foot.refl _ _) (fun k o ho hz => .inl ⟨k, o, ho, hz, rfl⟩) ⟨[], (show Inv S w0 N J st i a W from ⟨m, L, h⟩).nodefer, List.nodup_nil, by simp⟩ (fun k b hb => by cases hb)
 exact ⟨R2, hj, f3, h.ge, Nat.le_trans h.sz hsz⟩

theorem QoZ     (hO : Ops P N ops os) {d : Option Nat} {ty : Nat} {es : List E} {g : Option (Nat × Bool)} (ho : os[k]? = some ⟨d, .calv (.t ty) es, g⟩) :
    ∃ o c, ops[k]? = some o ∧ o.op = .call c ∧ c.callee = .value (.tmp ty) ∧ mapO Qaz c.args.toList = some es ∧ o.dst = d ∧ Qo9 ops o.guard = some g := by
  have hk : k < os.length := (List.getElem?_eq_some_iff.1 ho).1
  have hk2 : k < ops.size := by rw [← hO.len]; exact hk
  obtain ⟨o2, g2, gc, gd, gg⟩ := hO.at_ k ops[k] (by simp [hk2])
  rw [ho] at g2
  cases g2
  obtain ⟨c, u, k1, k2, k3, k4⟩ := Qhe gc
  cases u with
  | tmp u => simp only [Qaz, Option.some.injEq, E.t.injEq] at k3; subst k3; exact ⟨ops[k], c, by simp [hk2], k1, k2, k4, gd.symm, gg⟩
  | _ => simp [Qaz] at k3

theorem Qjl {m : Key → Nat} {hp : Hp} {T : Nat → Prop} {w : World} : ∀ (xs : List D) (vs : List Value), RepAL m hp T w (xs.map A.d) vs → RepL T w xs vs
 | [], vs, hv => by cases hv; exact .nil
 | y :: ys, vs, hv => by
  cases hv with
  | cons _ _ v vs hy ht => exact .cons _ _ _ _ (QfM hy) (Qjl ys vs ht)

theorem wo_call (hE : EnvOk P Γ) (hab : QfE   w0 J) (habx : QfE   w0 Jx) (hO : Ops P N ops os) (h : Inv S w0 N J st i a W) {d ty f mm : Nat} {es : List E} {g : Option (Nat × Bool)} {x caps : List D}
    (ho : os[k]? = some ⟨some d, .calv (.t ty) es, g⟩) (hg : Qcn st g = some true) (h2 : st.fr ty = some (.d (.fn f caps))) (h3 : allE st es = some (x.map .d))
    (hf : ∃ fn, P.funcs[f]? = some fn ∧ fn.body.isSome = true ∧ fn.name ≠ "runtime.NumGoroutine") (hcon : OwesY P S w0 J Jx f i mm (x ++ caps))
    (hKt : ∀ a' W', Inv S w0 N J { st with fr := upd st.fr d (.d (.v (.bool true))) } (i + mm) a' W' → WO P n ops R (k + 1) len a' W')
    (hKf : ∀ i' a' W', Inv S w0 N Jx { st with fr := upd st.fr d (.d (.v (.bool false))) } i' a' W' → WO P n ops R (k + 1) len a' W') : WO P n ops R k (len + 1) a W := by
  obtain ⟨o, c, hoo, hop, hce, hargs, hd, hgg⟩ := QoZ hO ho
  have hdN : d < N := hO.lt _ (List.mem_of_getElem? ho) d rfl
  obtain ⟨m, L, h⟩ := h
  have hv := h.rel.fr ty _ h2
  obtain ⟨us, hus, hrc⟩ : ∃ us : List Value, a.eval (.tmp ty) = .func (.func f) #[] us.toArray ∧ RepL (Im (fun b => (S b ∨ w0.heap.size ≤ b) ∧ ¬ L b) m st.hp W) W caps us := by
    have := QfM hv
    generalize hz : a.tmps.getD ty undef = z at this
    cases this with
    | fn _ _ vs hl => exact ⟨vs, hz, hl⟩
  obtain ⟨hrep, _⟩ := Qed h.rel hargs h3
  have hra := Qjl _ _ hrep
  refine Qqx hoo hop hce (Qd5 h.rel hgg rfl hg) hus hf ?_
  refine (hcon L (Live m st.hp) W _ h.j (fun b hb => ⟨h.ge b hb, ?_⟩) h.lt h.sz ((hra.append hrc).mono (fun b hb => ⟨hb.1.1, hb.2.1, hb.2.2, hb.1.2⟩) (fun _ _ => rfl))).mono ?_
  · obtain ⟨k, o, ho, hf, rfl⟩ := hb
    exact h.rel.lt ho
  rintro e W2 ⟨L', f1, f2, f3, f4⟩
  have go : ∀ (t : Bool) (J' : Held) (j : Nat), J' j L' (Live m st.hp) W2 → (∀ a' W', Inv S w0 N J' { st with fr := upd st.fr d (.d (.v (.bool t))) } j a' W' → WO P n ops R (k + 1) len a' W') → WO P n ops R (k + 1) len (a.put o.dst (.bool t)) W2 := by
    intro t J' j hj hK
    have I2 := h.after f1 f2 f3 hj
    have R3 := I2.rel.put (dst := some d) (y := .d (.v (.bool t))) (v := .bool t) (fun d' hd' => by cases hd'; exact hdN) (.d _ _ (.v _)) trivial
    rw [hd]
    exact hK _ _ ⟨m, L', R3, hj, f3, I2.ge, I2.sz⟩
  rcases f4 with ⟨rfl, hj⟩ | ⟨rfl, i', hj⟩
  · exact ⟨_, rfl, go true J _ hj hKt⟩
  · exact ⟨_, rfl, go false Jx i' hj (hKf i')⟩

theorem QnM {d : Option Nat} {ty k0 : Nat} {es : List E} {g : Option (Nat × Bool)} (hk : os[k0]? = some ⟨d, .calv (.t ty) es, g⟩) (h : ∀ ops, Ops P N ops os → WO P n ops R 0 os.length a W) : WY P N (n + 1) (.reg (os.map O.er) []) R a W := by
  refine Qml (by simp only [QeM, ne_eq, reduceCtorEq, not_false_eq_true]) fun hw code ho hns hc => ?_
  cases code <;> first | exact absurd rfl (hns _) | (obtain ⟨_, _, _, _, h'⟩ := QdM hc; cases h') | skip
  case region id ops draw =>
    simp only [QaH, Option.bind_eq_some_iff] at hc
    obtain ⟨os', hos, hc⟩ := hc
    have hos' : os' = os.map O.er := by
      split at hc
      · split at hc
        · simp only [Option.map_eq_some_iff, C.reg.injEq] at hc
          obtain ⟨_, _, rfl, _⟩ := hc; rfl
        · cases hc
      · simp only [Option.some.injEq, C.reg.injEq] at hc; exact hc.1
    subst hos'
    have hO := Qlp (N := N) hos (by simpa only [C.within] using hw)
    obtain ⟨o, c, hoo, hop, hcal, _, _, _⟩ := QoZ hO hk
    have hdraw : draw = false := by
      cases draw with
      | false => rfl
      | true =>
        simp only [okY, Bool.not_true, Bool.false_or, List.all_eq_true] at ho
        have := ho o (Array.mem_toList_iff.2 (Array.mem_of_getElem? hoo))
        rw [hop] at this
        simp only [hcal] at this
        cases this
    subst hdraw
    refine wpIn_region ?_
    have h1 := h ops hO
    rw [hO.len] at h1
    rw [List.range_eq_range']
    exact h1
  all_goals simp [QaH, Option.bind_eq_some_iff] at hc
end

/-! ### Seen from the callee -/
def Under (W : World) (L0 V0 : Nat → Prop) (J : Held) : Held := fun i L V W' => J i L (fun b => V b ∨ V0 b) W' ∧ Foot L0 W W' ∧ (∀ b, L b → b < W.heap.size → L0 b) ∧ (∀ b, L b → b < W'.heap.size) ∧ (∀ b, V b → W.heap.size ≤ b)
def SIn (S : Nat → Prop) (w0 W : World) (L0 V0 : Nat → Prop) (b : Nat) : Prop := (S b ∨ w0.heap.size ≤ b) ∧ b < W.heap.size ∧ ¬ V0 b ∧ ¬ L0 b
section
variable {S : Nat → Prop} {w0 W : World} {L0 V0 : Nat → Prop} {J Jx : Held} {P : Program} {n l : Nat} {xs : List (List D)}
theorem Under.abide (hab : QfE w0 J) (hV0 : ∀ b, V0 b → w0.heap.size ≤ b ∧ b < W.heap.size) (hsz : w0.heap.size ≤ W.heap.size) : QfE W (Under W L0 V0 J) := by
 rintro i L V V' W1 W2 ⟨h1, h2, h3, h4, h5⟩ hf hv1 hv2
 have z1 : W.heap.size ≤ W1.heap.size := h2.size
 have z2 : W1.heap.size ≤ W2.heap.size := hf.size
 refine ⟨hab i L _ _ W1 W2 h1 (hf.mono fun b _ hb => .inl hb) ?_ ?_, ?_, h3, fun b hb => Nat.lt_of_lt_of_le (h4 b hb) z2, fun b hb => (hv2 b hb).1⟩
 ·rintro b (hb | hb) hlt
  ·exact .inl (hv1 b hb hlt)
  ·exact .inr hb
 ·rintro b (hb | hb)
  ·exact ⟨by have := (hv2 b hb).1; omega, (hv2 b hb).2⟩
  ·have := hV0 b hb
   exact ⟨this.1, by omega⟩
 ·exact h2.trans hf (fun b hb => .inr (h5 b hb))
theorem Under.answers (hans : Answers P n S w0 l J Jx xs) (hV0 : ∀ b, V0 b → w0.heap.size ≤ b ∧ b < W.heap.size) (hsz : w0.heap.size ≤ W.heap.size) : Answers P n (SIn S w0 W L0 V0) W l (Under W L0 V0 J) (Under W L0 V0 Jx) xs := by
 rintro i x L V W1 args hx ⟨h1, h2, h3, h4, h5⟩ hr
 have z1 : W.heap.size ≤ W1.heap.size := h2.size
 refine Qnn (hans i x L _ W1 args hx h1 (hr.mono (fun b hb => ?_) (fun _ _ => rfl))) ?_
 ·obtain ⟨hb1, hb2, hb3, hb4⟩ := hb
  rcases hb1 with hb1 | hb1
  ·exact ⟨hb1.1, hb2, fun h => h.elim hb3 hb1.2.2.1, hb4⟩
  ·exact ⟨.inr (by omega), hb2, fun h => h.elim hb3 (fun h => by have := (hV0 b h).2; omega), hb4⟩
 ·rintro e W2 ⟨L', f1, f2, f3, f4⟩
  have g : ∀ (J' : Held), J' (i + 1) L' (fun b => V b ∨ V0 b) W2 → Under W L0 V0 J' (i + 1) L' V W2 := fun J' hj =>
   ⟨hj, h2.trans f1 (fun b hb => if hlt : b < W.heap.size then .inl (h3 b hb hlt) else .inr (by omega)), fun b hb hlt => h3 b (f2 b hb (by omega)) hlt, f3, h5⟩
  refine ⟨L', f1, f2, f3, ?_⟩
  rcases f4 with ⟨rfl, hj⟩ | ⟨rfl, hj⟩
  ·exact .inl ⟨rfl, g J hj⟩
  ·exact .inr ⟨rfl, g Jx hj⟩
end
section
variable {P : Program} {Γ : Env}
theorem owes_ok (hE : EnvOk P Γ) {f : Nat} {cf : CF} {fn : Func} {ds : List D} {xs : List (List D)} {n l i mm : Nat} {S : Nat → Prop} {w0 : World} {J Jx : Held} (hf : P.funcs[f]? = some fn) (hc : QiK   P fn = some cf.er) (hok : ∀ b, fn.body = some b → okY b = true) (hnp : cf.np = ds.length)
    (hab : QfE w0 J) (habx : QfE w0 Jx) (hans : Answers P n S w0 l J Jx xs)
    (hwalk : ∀ (S : Nat → Prop) (w0 : World) (J Jx : Held) (a : Act) (W : World), QfE w0 J → QfE w0 Jx → Answers P n S w0 l J Jx xs → Inv S w0 fn.ntmps J ⟨argF 0 ds, hp0, []⟩ i a W →
      WY P fn.ntmps (n + 1) cf.body.er (fun e a' W' => (∀ id, e ≠ .x id) ∧ ((∃ st, resL st cf.res = some [.d (.v (.bool true))] ∧ Inv S w0 fn.ntmps J st (i + mm) a' W') ∨ ∃ st i', resL st cf.res = some [.d (.v (.bool false))] ∧ Inv S w0 fn.ntmps Jx st i' a' W')) a W) : OwesY P S w0 J Jx f i mm ds := by
  simp only [QiK, Option.bind_eq_some_iff] at hc
  obtain ⟨body, hb, c, hcc, hc⟩ := hc
  split at hc
  · rename_i hchk
    simp only [Bool.and_eq_true, decide_eq_true_eq, bne_iff_ne, ne_eq] at hchk
    obtain ⟨⟨hw, hsz⟩, hname⟩ := hchk
    simp only [Option.map_eq_some_iff] at hc
    obtain ⟨rs, hrs, hcf'⟩ := hc
    have e1 : cf.np = fn.params.size + fn.nfree := (congrArg CF.np hcf').symm
    have e2 : c = cf.body.er := congrArg CF.body hcf'
    have e3 : rs = cf.res := congrArg CF.res hcf'
    subst e2
    rw [e3] at hrs
    intro L V W vs hj hV0 hL0 hsz0 hrep
    have hvl : vs.length = ds.length := hrep.length.symm
    have hN : ((vs.toArray : Array Value) ++ Array.replicate (fn.ntmps - (vs.toArray : Array Value).size) undef).size = fn.ntmps := by simp; omega
    refine QkX (callsIn_of_wp (n := n + 1) (F := Fence.wide) hf hb trivial ?_)
    have hR : Inv (SIn S w0 W L V) W fn.ntmps (Under W L V J) ⟨argF 0 ds, hp0, []⟩ i { tmps := (vs.toArray : Array Value) ++ Array.replicate (fn.ntmps - (vs.toArray : Array Value).size) undef, defers := [] } W := by
      have hSm : ∀ b, ((S b ∨ w0.heap.size ≤ b) ∧ b < W.heap.size ∧ ¬ V b ∧ ¬ L b) → Im (fun b => (SIn S w0 W L V b ∨ W.heap.size ≤ b) ∧ ¬ L b) (fun _ => 0) hp0 W b := fun b hb => ⟨⟨.inl hb, hb.2.2.2⟩, hb.2.1, fun ⟨_, _, h, _⟩ => by simp [hp0] at h⟩
      have hV : (fun b => Live (fun _ => 0) hp0 b ∨ V b) = V := by
        funext b; exact propext ⟨fun h => h.elim (fun ⟨_, _, h, _⟩ => by simp [hp0] at h) id, .inr⟩
      refine ⟨fun _ => 0, L, ⟨⟨fun i x hx => ?_, fun _ _ h => by simp [hp0] at h, fun _ _ _ _ h => by simp [hp0] at h, fun i x hx => ?_, fun _ _ _ h => by simp [hp0] at h, fun _ _ h => by simp [hp0] at h, fun _ _ h => by simp [hp0] at h, Foot.refl _ _, Marks.nil _ _ _, hN, fun b hb => ⟨.inr hb, fun hl => by have := hL0 b hl; omega⟩, fun _ _ h => by cases h⟩, ?_, hL0, fun b ⟨_, _, h, _⟩ => by simp [hp0] at h, Nat.le_refl _⟩⟩
      · obtain ⟨_, d, hd, rfl⟩ := Qf7 ds 0 i x hx
        obtain ⟨v, hv, hdv⟩ := hrep.get i d (by simpa using hd)
        have : ((vs.toArray : Array Value) ++ Array.replicate (fn.ntmps - (vs.toArray : Array Value).size) undef).getD i undef = v := by
          have hil : i < vs.length := (List.getElem?_eq_some_iff.1 hv).1
          rw [Array.getD_eq_getD_getElem?, Array.getElem?_append_left (by simpa using hil)]
          simp [hv]
        rw [this]
        exact .d _ _ (hdv.mono hSm (fun _ _ => rfl))
      · obtain ⟨_, d, _, rfl⟩ := Qf7 ds 0 i x hx
        trivial
      · refine ⟨?_, Foot.refl _ _, fun b hb _ => hb, hL0, fun b ⟨_, _, h, _⟩ => by simp [hp0] at h⟩
        show J i L (fun b => Live (fun _ => 0) hp0 b ∨ V b) W
        rw [hV]; exact hj
    refine wpIn_mono (hwalk _ W _ _ _ W (Under.abide hab hV0 hsz0) (Under.abide habx hV0 hsz0) (Under.answers hans hV0 hsz0) hR hw body (hok body hb) hcc) ?_
    intro e a' W' hq
    have key : ∀ (t : Bool) (J' : Held) (j : Nat) (st : St), QfE w0 J' → resL st cf.res = some [.d (.v (.bool t))] → Inv (SIn S w0 W L V) W fn.ntmps (Under W L V J') st j a' W' → a'.defers = [] ∧ (results fn a'.tmps).run P W' = .ok (.bool t) W' ∧ ∃ L', Foot L W W' ∧ (∀ b, L' b → b < W.heap.size → L b) ∧ (∀ b, L' b → b < W'.heap.size) ∧ J' j L' V W' := by
      intro t J' j st hab' hr hI
      refine ⟨hI.nodefer, ?_, ?_⟩
      · obtain ⟨m, L', hI⟩ := hI
        obtain ⟨us, k1, k2, _⟩ := Qha hI.rel hrs hr
        cases k2 with
        | cons _ _ v vs' hv ht =>
          cases ht
          have := Qer hv
          subst this
          exact Qge k1
      · obtain ⟨m, L', hI⟩ := hI
        obtain ⟨h1, h2, h3, h4, h5⟩ := hI.j
        exact ⟨L', h2, h3, h4, hab' j L' _ _ W' W' h1 (Foot.refl _ _) (fun b hb _ => .inr hb) (fun b hb => ⟨(hV0 b hb).1, Nat.lt_of_lt_of_le (hV0 b hb).2 h2.size⟩)⟩
    have fin : ((∃ st, resL st cf.res = some [.d (.v (.bool true))] ∧ Inv (SIn S w0 W L V) W fn.ntmps (Under W L V J) st (i + mm) a' W') ∨ ∃ st i', resL st cf.res = some [.d (.v (.bool false))] ∧ Inv (SIn S w0 W L V) W fn.ntmps (Under W L V Jx) st i' a' W') →
        a'.defers = [] ∧ ∃ v, (results fn a'.tmps).run P W' = .ok v W' ∧ ∃ L', Foot L W W' ∧ (∀ b, L' b → b < W.heap.size → L b) ∧ (∀ b, L' b → b < W'.heap.size) ∧ ((Ending.returned v = .returned (.bool true) ∧ J (i + mm) L' V W') ∨ (Ending.returned v = .returned (.bool false) ∧ ∃ i', Jx i' L' V W')) := by
      rintro (⟨st, hr, hI⟩ | ⟨st, i', hr, hI⟩)
      · obtain ⟨h1, h2, L', h3, h4, h5, h6⟩ := key true J _ st hab hr hI
        exact ⟨h1, _, h2, L', h3, h4, h5, .inl ⟨rfl, h6⟩⟩
      · obtain ⟨h1, h2, L', h3, h4, h5, h6⟩ := key false Jx _ st habx hr hI
        exact ⟨h1, _, h2, L', h3, h4, h5, .inr ⟨rfl, i', h6⟩⟩
    cases e with
    | normal => exact fin hq.2
    | ret => exact fin hq.2
    | exit id => exact absurd rfl (hq.1 id)
    | _ => exact hq.elim
  · cases hc
end
end Go.AM

/- sturm.zeros' closure that calls itself. -/
namespace Go.AM
open Go Go.RowKit Go.Proofs
def C.fst7 : C → C
 | .seq a _ => a
 | .blk _ a => a
 | .loop a => a
 | c => c
def C.snd7 : C → C
 | .seq _ b => b
 | c => c
def wtZ (K : Nat) (ps : List (List Rat)) : Nat → Rat × Rat → Option (List (Rat × Rat))
  | 0, _ => none
  | n + 1, l => if sz l.1 ≤ K ∧ sz l.2 ≤ K then
      if cnt ps l.1 l.2 = 0 then some [] else if cnt ps l.1 l.2 = 1 then some [l]
      else (wtZ K ps n (l.1, mid l.1 l.2)).bind fun a => (wtZ K ps n (mid l.1 l.2, l.2)).map (a ++ ·)
    else none
def zr_A : C := sturm_zeros_1_1.body.fst7
def zr_B : C := sturm_zeros_1_1.body.snd7.fst7.fst7
def zr_blk : C := sturm_zeros_1_1.body.snd7.fst7.snd7.fst7.fst7
def zr_C : C := zr_blk.fst7
def QjQ : C := zr_blk.snd7
def zr_D : C := match QjQ with | .cond _ a _ => a.fst7 | c => c
def zr_E : C := match QjQ with | .cond _ _ b => b.fst7 | c => c
def zr_M : C := sturm_zeros_1_1.body.snd7.snd7.fst7
def zr_Y1 : List O := [⟨some 17, .load none (.t 2), none⟩, ⟨some 18, .load (some 8) (.t 4), none⟩]
def zr_Y2 : List O := [⟨some 5, .mov (.t 19), none⟩]
def zr_V1 : List O := [⟨some 22, .load none (.t 3), none⟩, ⟨some 23, .fad 0 (.t 4), none⟩, ⟨some 24, .load (some 4) (.t 23), none⟩, ⟨some 25, .load (some 4) (.t 6), none⟩,
 ⟨some 26, .build [.v (.bool false), .z true, .v (.bool false), .z true, .v (.bool false), .z true, .v (.bool false), .z true] [(0, 4, (.t 24)), (4, 4, (.t 25))], none⟩]
def Qpk : List O := [⟨some 28, .mov (.t 27), none⟩, ⟨some 29, .load none (.t 3), some (28, true)⟩, ⟨some 30, .load (some 4) (.t 6), some (28, true)⟩, ⟨some 31, .fad 4 (.t 4), some (28, true)⟩, ⟨some 32, .load (some 4) (.t 31), some (28, true)⟩,
 ⟨some 33, .build [.v (.bool false), .z true, .v (.bool false), .z true, .v (.bool false), .z true, .v (.bool false), .z true] [(0, 4, (.t 30)), (4, 4, (.t 32))], some (28, true)⟩]
def Qop : List O := [⟨some 35, .pick (.t 28) (.t 34) (.c (.v (.bool false))), none⟩, ⟨some 5, .mov (.t 35), none⟩]
def zr_V : List O := zr_V1 ++ ⟨some 27, .calv (.t 22) [.t 26], none⟩ :: (Qpk ++ ⟨some 34, .calv (.t 29) [.t 33], some (28, true)⟩ :: Qop)
theorem zr_shape : sturm_zeros_1_1.body.er = .seq zr_A.er (.seq (.seq zr_B.er (.blk 0 (.seq zr_C.er (.cond (.t 13) (.seq zr_D.er .ret) (.seq zr_E.er (.cond (.t 15) (.seq (.reg ((zr_Y1 ++ ⟨some 19, .calv (.t 17) [.t 18], none⟩ :: zr_Y2).map O.er) []) .ret) .skip)))))) (.seq zr_M.er (.seq (.reg (zr_V.map O.er) []) .ret))) := rfl
def vpre (dc : D) (y : Nat) : List D := [.rp [dc], .rp [yv y]]
def bxZ (l : Rat × Rat) : Obj := ⟨0, 0, (c2R l).map .d, false⟩
def Qo6 (dc : D) (y : Nat) (l : Rat × Rat) : List D := [enc2 l, .rp [dc], .rp [yv y], .rc Qap (vpre dc y)]
section
variable [Its] {dc : D} {y : Nat} {l : Rat × Rat} {ps : List (List Rat)}
def zr_s1 (dc : D) (y : Nat) (l : Rat × Rat) : St := mkS [(1, .d (.rp [dc])), (2, .d (.rp [yv y])), (3, .d (.rc Qap (vpre dc y))), (4, .ptr [4] 0)] [([4], bxZ l)]
def zr_s2 (dc : D) (y : Nat) (l : Rat × Rat) (n : Int) : St := mkS [(2, .d (.rp [yv y])), (3, .d (.rc Qap (vpre dc y))), (4, .ptr [4] 0), (12, ai n)] [([4], bxZ l)]
def Qrr (dc : D) (y : Nat) (l : Rat × Rat) (n : Int) (b : Bool) : St := mkS [(2, .d (.rp [yv y])), (3, .d (.rc Qap (vpre dc y))), (4, .ptr [4] 0), (12, ai n), (13, ab b)] [([4], bxZ l)]
def Qme (dc : D) (y : Nat) (l : Rat × Rat) (b : Bool) : St := mkS [(2, .d (.rp [yv y])), (3, .d (.rc Qap (vpre dc y))), (4, .ptr [4] 0), (15, ab b)] [([4], bxZ l)]
def Qld (dc : D) (y : Nat) (l : Rat × Rat) (m : Rat) : St := mkS [(3, .d (.rc Qap (vpre dc y))), (4, .ptr [4] 0), (6, .ptr [6] 0)] [([4], bxZ l), ([6], boxR m)]
theorem zr_a : X G zr_A ⟨argF 0 (Qo6 dc y l), hp0, []⟩ = some (.n, zr_s1 dc y l) := by
 obtain ⟨lo, hi⟩ := l
 simp -implicitDefEqProofs (maxSteps:=9^8) only [zr_A, sturm_zeros_1_1, C.fst7, Qo6, zr_s1, bxZ, enc2, c2R, argF, yv, go_sem, iv, bv, reduceCtorEq, ↓reduceIte, Nat.reduceEqDiff]
theorem zr_b [ItsB] (hr : RwC dc ps) (hn : ps.length ≤ 1000) {K : Nat} (hs : ∀ p ∈ ps, SzL K p ∧ p.length * (2 * K + 1) ≤ 40000000000) (h1 : sz l.1 ≤ K) (h2 : sz l.2 ≤ K) (hK : K ≤ 1000000000) : X G zr_B (zr_s1 dc y l) = some (.n, zr_s2 dc y l (cnt ps l.1 l.2)) := by
 have g := QfG hr hn hs h1 h2 hK
 generalize cnt ps l.1 l.2 = c at *
 obtain ⟨lo, hi⟩ := l
 simp only [encR, iv] at g
 simp -implicitDefEqProofs (maxSteps:=9^8) only [zr_B, sturm_zeros_1_1, C.fst7, C.snd7, zr_s1, zr_s2, bxZ, c2R, yv, g, Qjp, QrJ, QrD, List.map_cons, List.map_nil, go_sem, iv, bv, reduceCtorEq, ↓reduceIte, Nat.reduceEqDiff]
theorem zr_c {n : Int} : X G zr_C (zr_s2 dc y l n) = some (.n, Qrr dc y l n (n == 0)) := by
 obtain ⟨lo, hi⟩ := l
 simp -implicitDefEqProofs (maxSteps:=9^8) only [zr_C, zr_blk, sturm_zeros_1_1, C.fst7, C.snd7, zr_s2, Qrr, bxZ, c2R, yv, List.map_cons, List.map_nil, go_sem, iv, bv, reduceCtorEq, ↓reduceIte, Nat.reduceEqDiff]
theorem zr_d {n : Int} : X G zr_D (Qrr dc y l n true) = some (.n, mkS [(5, ab true)] []) := by
 obtain ⟨lo, hi⟩ := l
 simp -implicitDefEqProofs (maxSteps:=9^8) only [zr_D, QjQ, zr_blk, sturm_zeros_1_1, C.fst7, C.snd7, Qrr, bxZ, c2R, yv, Qac, List.map_cons, List.map_nil, go_sem, iv, bv, reduceCtorEq, ↓reduceIte, Nat.reduceEqDiff]
theorem zr_e {n : Int} : X G zr_E (Qrr dc y l n false) = some (.n, Qme dc y l (n == 1)) := by
 obtain ⟨lo, hi⟩ := l
 simp -implicitDefEqProofs (maxSteps:=9^8) only [zr_E, QjQ, zr_blk, sturm_zeros_1_1, C.fst7, C.snd7, Qrr, Qme, bxZ, c2R, yv, Qac, List.map_cons, List.map_nil, go_sem, iv, bv, reduceCtorEq, ↓reduceIte, Nat.reduceEqDiff]
theorem zr_m (h1 : sz l.1 ≤ 1000000000) (h2 : sz l.2 ≤ 1000000000) : X G (.seq (.keep [3, 4] [[4]]) zr_M) (Qme dc y l false) = some (.n, Qld dc y l (mid l.1 l.2)) := by
 have g := Qk0 h1 h2
 generalize mid l.1 l.2 = m at *
 obtain ⟨lo, hi⟩ := l
 simp only [encR, enc2, c2R, iv] at g
 simp -implicitDefEqProofs (maxSteps:=9^8) only [zr_M, sturm_zeros_1_1, C.fst7, C.snd7, Qme, Qld, bxZ, boxR, c2R, yv, g, st4q, ld8q, Qac, List.map_cons, List.map_nil, go_sem, iv, bv, reduceCtorEq, ↓reduceIte, Nat.reduceEqDiff]
def zr_fn (dc : D) (y : Nat) : D := .fn Qap (vpre dc y ++ [.rc Qap (vpre dc y)])
def Qpr (dc : D) (y : Nat) (l : Rat × Rat) (m : Rat) : St := ⟨upd (upd (upd (upd (upd (Qld dc y l m).fr 22 (.d (zr_fn dc y))) 23 (.ptr [4] 0)) 24 (.d (encR l.1))) 25 (.d (encR m))) 26 (.d (enc2 (l.1, m))), (Qld dc y l m).hp, []⟩
def QrM (dc : D) (y : Nat) (l : Rat × Rat) (m : Rat) (t : Bool) : St := { Qpr dc y l m with fr := upd (Qpr dc y l m).fr 27 (.d (.v (.bool t))) }
def zr_s7 (dc : D) (y : Nat) (l : Rat × Rat) (m : Rat) : St := ⟨upd (upd (upd (upd (upd (upd (QrM dc y l m true).fr 28 (.d (.v (.bool true)))) 29 (.d (zr_fn dc y))) 30 (.d (encR m))) 31 (.ptr [4] 4)) 32 (.d (encR l.2))) 33 (.d (enc2 (m, l.2))), (Qld dc y l m).hp, []⟩
def zr_t7 (dc : D) (y : Nat) (l : Rat × Rat) (m : Rat) (t : Bool) : St := { zr_s7 dc y l m with fr := upd (zr_s7 dc y l m).fr 34 (.d (.v (.bool t))) }
def Qnc (dc : D) (y : Nat) (l : Rat × Rat) : St := ⟨upd (upd (Qme dc y l true).fr 17 (.d (yv y))) 18 (.d (enc2 l)), (Qme dc y l true).hp, []⟩
theorem zr_py : exs (Qaj G) zr_Y1 (Qme dc y l true) = some (Qnc dc y l) := by
 obtain ⟨lo, hi⟩ := l
 simp -implicitDefEqProofs (maxSteps:=9^8) only [zr_Y1, Qnc, Qme, bxZ, enc2, c2R, yv, Qjp, ld8q, List.map_cons, List.map_nil, go_sem, iv, bv, reduceCtorEq, ↓reduceIte, Nat.reduceEqDiff]
theorem zr_qy (t : Bool) : exs (Qaj G) zr_Y2 { Qnc dc y l with fr := upd (Qnc dc y l).fr 19 (.d (.v (.bool t))) } = some ⟨upd (upd (Qnc dc y l).fr 19 (.d (.v (.bool t)))) 5 (.d (.v (.bool t))), (Qnc dc y l).hp, []⟩ := by
 obtain ⟨lo, hi⟩ := l
 simp -implicitDefEqProofs (maxSteps:=9^8) only [zr_Y2, Qnc, Qme, bxZ, enc2, c2R, yv, List.map_cons, List.map_nil, go_sem, iv, bv, reduceCtorEq, ↓reduceIte, Nat.reduceEqDiff]
theorem zr_v1 {m : Rat} : exs (Qaj G) zr_V1 (Qld dc y l m) = some (Qpr dc y l m) := by
 obtain ⟨lo, hi⟩ := l
 simp -implicitDefEqProofs (maxSteps:=9^8) only [zr_V1, Qld, Qpr, zr_fn, bxZ, boxR, enc2, encR, c2R, yv, QmK, ld4q, QrJ, QrD, QeJ, Qcl, List.map_cons, List.map_nil, go_sem, iv, bv, reduceCtorEq, ↓reduceIte, Nat.reduceEqDiff]
theorem zr_v2 {m : Rat} : exs (Qaj G) Qpk (QrM dc y l m true) = some (zr_s7 dc y l m) := by
 obtain ⟨lo, hi⟩ := l
 simp -implicitDefEqProofs (maxSteps:=9^8) only [Qpk, QrM, Qld, Qpr, zr_s7, zr_fn, bxZ, boxR, enc2, encR, c2R, yv, QmK, ld4q, QrJ, QrD, QeJ, Qcl, List.map_cons, List.map_nil, go_sem, iv, bv, reduceCtorEq, ↓reduceIte, Nat.reduceEqDiff]
theorem zr_v3 {m : Rat} (t : Bool) : ∃ s, exs (Qaj G) Qop (zr_t7 dc y l m t) = some s ∧ resL s sturm_zeros_1_1.res = some [.d (.v (.bool t))] := by
 obtain ⟨lo, hi⟩ := l
 refine ⟨_, by
  simp -implicitDefEqProofs (maxSteps:=9^8) only [Qop, zr_t7, QrM, Qld, Qpr, zr_s7, bxZ, boxR, c2R, List.map_cons, List.map_nil, go_sem, iv, bv, reduceCtorEq, ↓reduceIte, Nat.reduceEqDiff]
  rfl, rfl⟩
theorem zr_vf {m : Rat} : ∃ s, exs (Qaj G) (Qpk ++ ⟨some 34, .calv (.t 29) [.t 33], some (28, true)⟩ :: Qop) (QrM dc y l m false) = some s ∧ resL s sturm_zeros_1_1.res = some [.d (.v (.bool false))] := by
 obtain ⟨lo, hi⟩ := l
 refine ⟨_, by
  simp -implicitDefEqProofs (maxSteps:=9^8) only [Qpk, Qop, QrM, Qld, Qpr, bxZ, boxR, c2R, List.cons_append, List.nil_append, List.map_cons, List.map_nil, go_sem, iv, bv, reduceCtorEq, ↓reduceIte, Nat.reduceEqDiff]
  rfl, rfl⟩
end
end Go.AM

