/- Part 8 of the proof: a small machine, its soundness against the model, and what the program's functions compute on it. -/
import Derived.Test.YtbbemgfheagobaaGreatM7
import Derived.Test.YtbbemgfheagobaaGreatM6
import Derived.Test.YtbbemgfheagobaaGreatM5
set_option linter.unusedVariables false
set_option linter.unusedSimpArgs false
/- Equality: ref04, ref05, ref06.Same, rat.Same at equal numbers. -/
namespace Go.AM
open Go Go.RowKit

variable [Its]
theorem s5_refl {a : Rat} (ha : sz a ≤ 100000000000) : Qah G QdK [encR a, encR a] = some (.d (bv true)) := by
 rw [Qad (cf := QeM) rfl]
 have h1 : (digs a.num.natAbs).length ≤ 1000000000000 := by have := Qcz ha; unfold nd at this; omega
 have h2 : (dd a.den).length ≤ 1000000000000 := by
  have := QcH ha
  unfold nd at this
  rw [Int.natAbs_natCast] at this
  unfold dd
  split
  ·simp
  ·omega
 have g1 := s4_refl (b := decide (a.num < 0)) h1
 have g2 := s4_refl (b := false) h2
 clear h1 h2 ha
 unfold encR
 generalize digs a.num.natAbs = l1 at *
 generalize dd a.den = l2 at *
 generalize decide (a.num < 0) = b at *
 simp only [bv] at g1 g2
 simp -implicitDefEqProofs (maxSteps:=9^8) only [QeM, g1, g2, go_sem, Qab, Qaa, iv, bv, reduceCtorEq, ↓reduceIte, Nat.reduceEqDiff]
def QoZ (d d' : D) (i : Int) : St := mkS [(0, .d d), (1, .d d'), (5, ai i)] []
theorem s6_go {d d' : D} {l : List Rat} (h1 : RwR d l) (h2 : RwR d' l) (sl : SzL 100000000000 l) (hl : l.length ≤ 1000000000000) {i : Nat} (hi : i < l.length) : X G QbF (QoZ d d' i) = some (.n, QoZ d d' ((i + 1 : Nat) : Int)) := by
 have e1 : decide ((i : Int) < (l.length : Int)) = true := lt_t (by omega)
 have e2 : w64 ((i : Int) + 1) = ((i + 1 : Nat) : Int) := by rw [Qaf (by omega) (by omega)]; rfl
 have ll := h1.len
 have x1 := h1.ixa hi
 have x2 := h2.ixa hi
 have y1 := fun h => ldR h l hi
 have g := s5_refl (a := l.getD i 0) (sl.getD (by omega) i)
 generalize l.getD i 0 = q at *
 generalize cRs (l.drop i) = cs at *
 simp only [encR, bv] at y1 g
 simp -implicitDefEqProofs (maxSteps:=9^8) only [QbF, QoZ, ll, x1, x2, y1, e1, e2, g, go_sem, iv, bv, reduceCtorEq, ↓reduceIte, Nat.reduceEqDiff]
theorem s6_stop {d d' : D} {l : List Rat} (h1 : RwR d l) : X G QbF (QoZ d d' (l.length : Nat)) = some (.x 0, mkS [] []) := by
 have e1 : decide ((l.length : Int) < (l.length : Int)) = false := lt_f (by omega)
 have ll := h1.len
 simp -implicitDefEqProofs (maxSteps:=9^8) only [QbF, QoZ, ll, e1, go_sem, iv, bv, reduceCtorEq, ↓reduceIte, Nat.reduceEqDiff]
theorem s6_loop {d d' : D} {l : List Rat} (h1 : RwR d l) (h2 : RwR d' l) (sl : SzL 100000000000 l) (hl : l.length ≤ 1000000000000) : ∀ j i : Nat, i + j = l.length → X G (.loop QbF) (QoZ d d' i) = some (.x 0, mkS [] [])
 | 0, i, h => by
  have : i = l.length := by omega
  subst this
  rw [Qak, s6_stop h1]; rfl
 | j + 1, i, h => by
  rw [Qak, s6_go h1 h2 sl hl (by omega), Option.bind_some, if_pos rfl]
  exact s6_loop h1 h2 sl hl j (i + 1) (by omega)
theorem s6_refl {d d' : D} {l : List Rat} (h1 : RwR d l) (h2 : RwR d' l) (sl : SzL 100000000000 l) (hl : l.length ≤ 1000000000000) : Qah G QfT [d, d'] = some (.d (bv true)) := by
 rw [Qad (cf := QeH) rfl]
 have h := s6_loop h1 h2 sl hl l.length 0 (by omega)
 have e1 : ((l.length : Int) != (l.length : Int)) = false := bne_self_eq_false _
 have ll := h1.len
 have ll2 := h2.len
 simp only [QoZ, go_sem, nc0] at h
 simp -implicitDefEqProofs (maxSteps:=9^8) only [QeH, h, ll, ll2, e1, go_sem, iv, bv, reduceCtorEq, ↓reduceIte, Nat.reduceEqDiff]
/-! ### rat.Same -/
end Go.AM

/- ref06: Trim, Small, Mul. -/
namespace Go.AM
open Go Go.RowKit

def smR (n : Int) : Rat := Rat.divInt (arnd n 105 % 15 - 7) (1 + arnd n 105 / 15 % 4)
theorem smR_H (n : Int) : H1 1 1 (smR n) := by
 have b := QpS (n := n) (m := 105) (by omega)
 have hd : 0 < 1 + arnd n 105 / 15 % 4 := by omega
 refine ⟨(1 + arnd n 105 / 15 % 4).natAbs, by omega, ?_, (Hq.div hd).le ?_⟩
 ·rw [Nat.pow_one]; show _ ≤ 1000000000; omega
 ·rw [Nat.pow_one]; show _ ≤ 1000000000; omega
theorem smR_sz (n : Int) : sz (smR n) ≤ 2 := (smR_H n).sz
theorem evR_set (x c : Rat) : ∀ (l : List Rat) (t : Nat), t < l.length → evR (l.set t (l.getD t 0 + c)) x = evR l x + c * x ^ t
 | [], t, h => by simp at h
 | a :: l, 0, h => by
  show evR l x * x + (a + c) = evR l x * x + a + c * x ^ 0
  rw [Rat.pow_zero]
  generalize evR l x = u; grind
 | a :: l, t + 1, h => by
  have ih := evR_set x c l t (by simpa using h)
  show evR (l.set t (l.getD t 0 + c)) x * x + a = evR l x * x + a + c * x ^ (t + 1)
  rw [ih, Rat.pow_succ]
  generalize evR l x = u; generalize x ^ t = p; grind
theorem Qrh (l : List Rat) (x : Rat) {k : Nat} (h : k < l.length) : evR (l.drop k) x = evR (l.drop (k + 1)) x * x + l.getD k 0 := by
 have e : l.drop k = l.getD k 0 :: l.drop (k + 1) := by
  rw [List.drop_eq_getElem_cons h, List.getD_eq_getElem?_getD, List.getElem?_eq_getElem h]; rfl
 rw [e, Qb8]
theorem QrT (n : Nat) (x : Rat) : evR (List.replicate n 0) x = 0 := Qjb (fun q hq => (List.mem_replicate.1 hq).2) x
theorem Hq_set {D X : Nat} {l : List Rat} {t : Nat} {c : Rat} (h : ∀ q ∈ l, Hq D X q) (hc : Hq D X c) : ∀ q ∈ l.set t c, Hq D X q := fun q hq => by
 rcases List.mem_or_eq_of_mem_set hq with h1 | h1
 ·exact h q h1
 ·rw [h1]; exact hc
variable [Its]

theorem Qe6 {n : Int} (hn : I64 n) : Qah G Qbe [iv n] = some (.d (encR (smR n))) := by
 rw [Qad (cf := QdV) rfl]
 have g1 := QkU (n := n) (m := 105) hn (by omega)
 have b := QpS (n := n) (m := 105) (by omega)
 unfold smR
 generalize arnd n 105 = k at *
 have e1 := Qdn (a := k) (b := 15) (by omega)
 have e2 := QeL (a := k) (b := 15) (by omega)
 have e3 : w64 (k % 15 - 7) = k % 15 - 7 := Qaf (by omega) (by omega)
 have e4 : w64 (k / 15) = k / 15 := Qaf (by omega) (by omega)
 have e5 := Qdn (a := k / 15) (b := 4) (by omega)
 have e6 : w64 (1 + k / 15 % 4) = 1 + k / 15 % 4 := Qaf (by omega) (by omega)
 have z1 := Qjt (b := (15 : Int)) (by omega)
 have z2 := Qjt (b := (4 : Int)) (by omega)
 have g2 := QgE (n := k % 15 - 7) (d := 1 + k / 15 % 4) ⟨by omega, by omega⟩ ⟨by omega, by omega⟩
 generalize Rat.divInt (k % 15 - 7) (1 + k / 15 % 4) = r at *
 simp only [encR, iv] at g1 g2
 simp -implicitDefEqProofs (maxSteps:=9^8) only [QdV, encR, e1, e2, e3, e4, e5, e6, z1, z2, g1, g2, go_sem, Qab, Qaa, iv, bv, reduceCtorEq, ↓reduceIte, Nat.reduceEqDiff]

/-! ### Trim -/
def QfF (d : D) (n : Int) : St := mkS [(0, .d d), (3, ai n)] []
theorem rtr_go {d : D} {l : List Rat} (hr : RwR d l) {n : Nat} (hn : n < l.length) (hl : l.length * 64 ≤ 140737488351232) (sl : SzL 100000000000 l) (h0 : l.getD n 0 = 0) : X G QaM (QfF d ((n + 1 : Nat) : Int)) = some (.n, QfF d (n : Int)) := by
 have e1 : decide (((n + 1 : Nat) : Int) > 0) = true := gt_t (by omega)
 have e2 : w64 (((n + 1 : Nat) : Int) - 1) = (n : Int) := by rw [Qaf (by omega) (by omega)]; omega
 have e6 : (if (0 : Int) > (n : Int) then (0 : Int) else (n : Int)) = (n : Int) := if_neg (by omega)
 have e3 := hr.ixa hn
 have e4 := fun h => ldR h l hn
 have g := QgD (a := l.getD n 0) (sl.getD (by omega) n)
 have e5 : (Int.sign (l.getD n 0).num == 0) = true := by rw [sgn0]; exact decide_eq_true h0
 clear h0
 generalize ((n + 1 : Nat) : Int) = n1 at *
 generalize l.getD n 0 = q at *
 simp only [encR, iv] at e4 g
 simp -implicitDefEqProofs (maxSteps:=9^8) only [QaM, QfF, QgB, mxV, e6, go_sem, iv, bv, e1, e2, e3, e4, e5, g, reduceCtorEq, ↓reduceIte, Nat.reduceEqDiff]
theorem rtr_stop {d : D} {l : List Rat} (hr : RwR d l) {n : Nat} (hn : n < l.length) (hl : l.length * 64 ≤ 140737488351232) (sl : SzL 100000000000 l) (h0 : l.getD n 0 ≠ 0) : X G QaM (QfF d ((n + 1 : Nat) : Int)) = some (.x 0, QfF d ((n + 1 : Nat) : Int)) := by
 have e1 : decide (((n + 1 : Nat) : Int) > 0) = true := gt_t (by omega)
 have e2 : w64 (((n + 1 : Nat) : Int) - 1) = (n : Int) := by rw [Qaf (by omega) (by omega)]; omega
 have e6 : (if (0 : Int) > (n : Int) then (0 : Int) else (n : Int)) = (n : Int) := if_neg (by omega)
 have e3 := hr.ixa hn
 have e4 := fun h => ldR h l hn
 have g := QgD (a := l.getD n 0) (sl.getD (by omega) n)
 have e5 : (Int.sign (l.getD n 0).num == 0) = false := by rw [sgn0]; exact decide_eq_false h0
 clear h0
 generalize ((n + 1 : Nat) : Int) = n1 at *
 generalize l.getD n 0 = q at *
 simp only [encR, iv] at e4 g
 simp -implicitDefEqProofs (maxSteps:=9^8) only [QaM, QfF, QgB, mxV, e6, go_sem, iv, bv, e1, e2, e3, e4, e5, g, reduceCtorEq, ↓reduceIte, Nat.reduceEqDiff]
theorem rtr_zero {d : D} : X G QaM (QfF d 0) = some (.x 0, QfF d 0) := by
 have e1 : decide ((0 : Int) > 0) = false := rfl
 simp -implicitDefEqProofs (maxSteps:=9^8) only [QaM, QfF, go_sem, iv, bv, e1, reduceCtorEq, ↓reduceIte, Nat.reduceEqDiff]
theorem Qrd {d : D} {l : List Rat} (hr : RwR d l) (hl : l.length * 64 ≤ 140737488351232) (sl : SzL 100000000000 l) : ∀ n : Nat, n ≤ l.length → X G (.loop QaM) (QfF d (n : Int)) = some (.x 0, QfF d (cutR l n : Nat))
 | 0, _ => by
  rw [Qak]
  show (X G QaM (QfF d 0)).bind _ = _
  rw [rtr_zero]; rfl
 | n + 1, hn => by
  rw [Qak, cutR]
  by_cases h0 : l.getD n 0 = 0
  ·rw [rtr_go hr (by omega) hl sl h0, Option.bind_some, if_pos rfl, if_pos h0]
   exact Qrd hr hl sl n (by omega)
  ·rw [rtr_stop hr (by omega) hl sl h0, if_neg h0]; rfl
theorem Qgr {d : D} {l : List Rat} (hr : RwR d l) (hl : l.length * 64 ≤ 140737488351232) (sl : SzL 100000000000 l) : ∃ d', RwR d' (QbL l) ∧ Qah G Qbn [d] = some (.d d') := by
 rw [Qad (cf := QcA) rfl]
 have hl' := Qrd hr hl sl l.length (Nat.le_refl _)
 have hc := QjF l l.length
 have ll := hr.len
 rcases hr with ⟨rfl, rfl⟩ | rfl
 ·simp only [QfF, List.length_nil, cutR, go_sem] at hl'
  refine ⟨.z true, .inl ⟨rfl, rfl⟩, ?_⟩
  have b0 : (0 * 64 ≤ bound) = True := eq_true (by decide)
  simp -implicitDefEqProofs (maxSteps:=9^8) only [QcA, slcA, bnds, optI, srcS, src, b0, List.length_nil, Nat.zero_mul, Nat.zero_le, go_sem, iv, bv, hl', ll, Int.le_refl, reduceCtorEq, ↓reduceIte, Nat.reduceEqDiff]
 ·refine ⟨dR (QbL l), dR_ok _, ?_⟩
  have e1 : rowR (QbL l) = .row (cutR l l.length) ((cRs l).take (cutR l l.length * 4)) := by rw [rowR, Qfc, QbL, Qkv]
  have e0 : dR (QbL l) = if cutR l l.length = 0 then .z true else .row (cutR l l.length) ((cRs l).take (cutR l l.length * 4)) := by
   rw [dR, e1]
   have := Qfc l
   by_cases h : QbL l = []
   ·rw [if_pos h, if_pos (by rw [← this, h]; rfl)]
   ·rw [if_neg h, if_neg (fun h' => h (List.eq_nil_of_length_eq_zero (by omega)))]
  rw [e0]
  have e2 : (((0 : Int) ≤ 0 ∧ (0 : Int) ≤ (cutR l l.length : Nat) ∧ ((cutR l l.length : Nat) : Int) ≤ (l.length : Nat))) = True := eq_true ⟨by omega, by omega, by omega⟩
  have e3 : ((cutR l l.length : Nat) : Int).toNat = cutR l l.length := Int.toNat_natCast _
  have e5 : ((0 : Int) ≤ (cutR l l.length : Nat)) = True := eq_true (by omega)
  have e6 : (((cutR l l.length : Nat) : Int) ≤ (l.length : Nat)) = True := eq_true (by omega)
  have e7 : (cutR l l.length * 64 ≤ bound) = True := eq_true (by unfold bound; omega)
  have e8 : ((cRs l).take (cutR l l.length * 4)).length = cutR l l.length * 4 := by rw [List.length_take, Qe7]; omega
  clear e0 e1
  unfold rowR at *
  generalize cutR l l.length = c at *
  generalize cRs l = cs at *
  simp only [QfF, go_sem] at hl'
  by_cases h0 : c = 0
  ·subst h0
   simp only [Nat.zero_mul, List.take_zero] at e8 ⊢
   have b0 : (0 * 64 ≤ bound) = True := eq_true (by decide)
   have b1 : ((0 : Int) ≤ (l.length : Int)) = True := eq_true (by omega)
   simp -implicitDefEqProofs (maxSteps:=9^8) only [QcA, b1, slcA, bnds, optI, srcS, src, b0, List.length_nil, List.take_zero, Nat.zero_mul, Nat.zero_le, go_sem, iv, bv, hl', ll, e2, e3, e5, e6, Int.le_refl, and_self, reduceCtorEq, ↓reduceIte, Nat.reduceEqDiff]
  ·simp -implicitDefEqProofs (maxSteps:=9^8) only [QcA, slcA, bnds, optI, srcS, src, h0, e7, e8, go_sem, iv, bv, hl', ll, e2, e3, e5, e6, Int.le_refl, and_self, reduceCtorEq, ↓reduceIte, Nat.reduceEqDiff]

/-! ### Mul -/
def Qlx (dp dq : D) (L : List Rat) (n : Nat) (i k : Int) : St := mkS [(0, .d dp), (1, .d dq), (5, .own [22] n), (6, ai i), (7, ai k)] [([22], arrR n L)]
def Qhr (dp dq : D) (L : List Rat) (n : Nat) (i : Int) : St := mkS [(0, .d dp), (1, .d dq), (5, .own [22] n), (6, ai i)] [([22], arrR n L)]
def Qqb (L : List Rat) (n : Nat) : St := mkS [(5, .own [22] n)] [([22], arrR n L)]
section
variable {dp dq : D} {p q : List Rat} {n : Nat}
theorem rmi_go (hp : RwR dp p) (hq : RwR dq q) {L : List Rat} (hL : L.length = n) {i k : Nat} (hi : i < p.length) (hk : k < q.length) (hn : i + k < n) (hn2 : n ≤ 1000000000) {K : Nat} (hK1 : 1 ≤ K) (hK : K ≤ 10000000000) (sp : SzL K p) (sq : SzL K q) (sL : SzL K L) :
    X G QbR (Qlx dp dq L n i k) = some (.n, Qlx dp dq (L.set (i + k) (L.getD (i + k) 0 + p.getD i 0 * q.getD k 0)) n i ((k + 1 : Nat) : Int)) := by
  have e1 : decide ((k : Int) < (q.length : Int)) = true := lt_t (by omega)
  obtain ⟨t, ht⟩ : ∃ t : Int, t = ((i + k : Nat) : Int) := ⟨_, rfl⟩
  have e2 : w64 ((i : Int) + (k : Int)) = t := by rw [Qaf (by omega) (by omega)]; omega
  have e3 : w64 ((k : Int) + 1) = ((k + 1 : Nat) : Int) := by rw [Qaf (by omega) (by omega)]; rfl
  have c1 : ((0 : Int) ≤ t) = True := eq_true (by omega)
  have c2 : (t < (n : Int)) = True := eq_true (by omega)
  have c3 : t.toNat = i + k := by omega
  have lq := hq.len
  have x1 := hp.ixa hi
  have y1 := fun h => ldR h p hi
  have x2 := hq.ixa hk
  have y2 := fun h => ldR h q hk
  have s1 := sp.getD hK1 i
  have s2 := sq.getD hK1 k
  have s3 := sL.getD hK1 (i + k)
  have g1 := Qhg (a := p.getD i 0) (b := q.getD k 0) (by omega) (by omega)
  have k1 := QhW (a := p.getD i 0) (b := q.getD k 0)
  have g2 := Qj4 (a := L.getD (i + k) 0) (b := p.getD i 0 * q.getD k 0) (by omega) (by omega)
  have l1 := ld_cA (l := L) (j := i + k) (by omega)
  have t1 := st_cA (l := L) (j := i + k) (by omega) (L.getD (i + k) 0 + p.getD i 0 * q.getD k 0)
  clear s1 s2 s3 k1 sp sq sL ht
  generalize L.getD (i + k) 0 + p.getD i 0 * q.getD k 0 = r at *
  generalize p.getD i 0 * q.getD k 0 = pr at *
  generalize p.getD i 0 = u at *
  generalize q.getD k 0 = v at *
  generalize L.getD (i + k) 0 = w at *
  generalize cRs (p.drop i) = cs1 at *
  generalize cRs (q.drop k) = cs2 at *
  simp only [encR] at g1 g2 y1 y2
  simp -implicitDefEqProofs (maxSteps:=9^8) only [QbR, Qlx, Qb6, allD, l1, t1, lq, x1, y1, x2, y2, c1, c2, c3, e1, e2, e3, g1, g2, go_sem, iv, bv, and_self, reduceCtorEq, ↓reduceIte, Nat.reduceEqDiff]
theorem rmi_stop (hq : RwR dq q) {L : List Rat} {i : Int} : X G QbR (Qlx dp dq L n i (q.length : Nat)) = some (.x 2, Qhr dp dq L n i) := by
 have e1 : decide ((q.length : Int) < (q.length : Int)) = false := lt_f (by omega)
 have lq := hq.len
 simp -implicitDefEqProofs (maxSteps:=9^8) only [QbR, Qlx, Qhr, Qb6, lq, e1, go_sem, iv, bv, reduceCtorEq, ↓reduceIte, Nat.reduceEqDiff]
variable {D E XX YY d h K : Nat}
theorem Qp4      (hp : RwR dp p) (hq : RwR dq q) (hn2 : n ≤ 1000000000) (hK1 : 1 ≤ K) (hK : K ≤ 10000000000) (sp : SzL K p) (sq : SzL K q) (hsz : ∀ (m : Nat) (x : Rat), m ≤ p.length * q.length → Hq (D * E) (m * (XX * YY)) x → sz x ≤ K) (Hp : ∀ x ∈ p, Hq D XX x) (Hqq : ∀ x ∈ q, Hq E YY x) {i : Nat} (hi : i < p.length) (hn : p.length + q.length = n + 1) :
    ∀ (j k m : Nat) (L : List Rat), k + j = q.length → L.length = n → m + j ≤ p.length * q.length → (∀ x ∈ L, Hq (D * E) (m * (XX * YY)) x) →
    ∃ L', L'.length = n ∧ (∀ x ∈ L', Hq (D * E) ((m + j) * (XX * YY)) x) ∧ (∀ x, evR L' x = evR L x + p.getD i 0 * x ^ (i + k) * evR (q.drop k) x) ∧ X G (.loop QbR) (Qlx dp dq L n i k) = some (.x 2, Qhr dp dq L' n i)
  | 0, k, m, L, hk, hL, hm, HL => by
    have : k = q.length := by omega
    subst this
    refine ⟨L, hL, HL, fun x => ?_, by rw [Qak, rmi_stop hq]; rfl⟩
    rw [List.drop_length, QaD, Rat.mul_zero, Rat.add_zero]
  | j + 1, k, m, L, hk, hL, hm, HL => by
    have hstep := ((Hq.getD Hp i).mul (Hq.getD Hqq k))
    have hnew := (Hq.getD HL (i + k)).add hstep
    have e1 : m * (XX * YY) + XX * YY = (m + 1) * (XX * YY) := by rw [Nat.succ_mul]
    rw [e1] at hnew
    have HL2 : ∀ x ∈ L.set (i + k) (L.getD (i + k) 0 + p.getD i 0 * q.getD k 0), Hq (D * E) ((m + 1) * (XX * YY)) x := Hq_set (fun x hx => (HL x hx).le (Nat.mul_le_mul_right _ (by omega))) hnew
    obtain ⟨L', a1, a2, a3, a4⟩ := Qp4 hp hq hn2 hK1 hK sp sq hsz Hp Hqq hi hn j (k + 1) (m + 1) (L.set (i + k) (L.getD (i + k) 0 + p.getD i 0 * q.getD k 0)) (by omega) (by rw [List.length_set, hL]) (by omega) HL2
    refine ⟨L', a1, by rw [show m + (j + 1) = m + 1 + j by omega]; exact a2, fun x => ?_, ?_⟩
    · rw [a3, evR_set x _ L (i + k) (by omega), Qrh q x (k := k) (by omega), show i + (k + 1) = (i + k) + 1 by omega, Rat.pow_succ]
      generalize evR L x = u; generalize evR (q.drop (k + 1)) x = v; generalize x ^ (i + k) = w; generalize p.getD i 0 = a; generalize q.getD k 0 = b
      grind
    · rw [Qak, rmi_go hp hq hL hi (by omega) (by omega) hn2 hK1 hK sp sq (fun x hx => hsz m x (by omega) (HL x hx)), Option.bind_some, if_pos rfl]
      exact a4
theorem Qp9      (hp : RwR dp p) (hq : RwR dq q) (hn2 : n ≤ 1000000000) (hK1 : 1 ≤ K) (hK : K ≤ 10000000000) (sp : SzL K p) (sq : SzL K q) (hsz : ∀ (m : Nat) (x : Rat), m ≤ p.length * q.length → Hq (D * E) (m * (XX * YY)) x → sz x ≤ K) (Hp : ∀ x ∈ p, Hq D XX x) (Hqq : ∀ x ∈ q, Hq E YY x) (hn : p.length + q.length = n + 1) (hq0 : 0 < q.length) :
    ∀ (j i : Nat) (L : List Rat), i + j = p.length → L.length = n → (∀ x ∈ L, Hq (D * E) (i * q.length * (XX * YY)) x) →
    ∃ L', L'.length = n ∧ (∀ x ∈ L', Hq (D * E) (p.length * q.length * (XX * YY)) x) ∧ (∀ x, evR L' x = evR L x + x ^ i * evR (p.drop i) x * evR q x) ∧ X G (.loop QbS) (Qhr dp dq L n i) = some (.x 0, Qqb L' n)
  | 0, i, L, hi, hL, HL => by
    have : i = p.length := by omega
    subst this
    have lp := hp.len
    have e1 : decide ((p.length : Int) < (p.length : Int)) = false := lt_f (by omega)
    refine ⟨L, hL, HL, fun x => by rw [List.drop_length, QaD, Rat.mul_zero, Rat.zero_mul, Rat.add_zero], ?_⟩
    have : X G QbS (Qhr dp dq L n (p.length : Nat)) = some (.x 0, Qqb L n) := by
      simp -implicitDefEqProofs (maxSteps:=9^8) only [QbS, Qhr, Qqb, Qb6, lp, e1, go_sem, iv, bv, reduceCtorEq, ↓reduceIte, Nat.reduceEqDiff]
    rw [Qak, this]; rfl
  | j + 1, i, L, hi, hL, HL => by
    have hile : (i + 1) * q.length ≤ p.length * q.length := Nat.mul_le_mul_right _ (by omega)
    have hsm : (i + 1) * q.length = i * q.length + q.length := Nat.succ_mul ..
    obtain ⟨L1, b1, b2, b3, b4⟩ := Qp4 hp hq hn2 hK1 hK sp sq hsz Hp Hqq (i := i) (by omega) hn q.length 0 (i * q.length) L (by omega) hL (by omega) HL
    rw [← hsm] at b2
    obtain ⟨L', a1, a2, a3, a4⟩ := Qp9 hp hq hn2 hK1 hK sp sq hsz Hp Hqq hn hq0 j (i + 1) L1 (by omega) b1 b2
    refine ⟨L', a1, a2, fun x => ?_, ?_⟩
    · rw [a3, b3, Qrh p x (k := i) (by omega), List.drop_zero, Nat.add_zero, Rat.pow_succ]
      generalize evR L x = u; generalize evR (p.drop (i + 1)) x = v; generalize x ^ i = w; generalize p.getD i 0 = a; generalize evR q x = b
      grind
    · have lp := hp.len
      have e1 : decide ((i : Int) < (p.length : Int)) = true := lt_t (by omega)
      have hpl : p.length ≤ n := by omega
      have e3 : w64 ((i : Int) + 1) = ((i + 1 : Nat) : Int) := by rw [Qaf (by omega) (by omega)]; rfl
      have n0 : ((0 : Nat) : Int) = 0 := rfl
      rw [n0] at b4
      have : X G QbS (Qhr dp dq L n i) = some (.n, Qhr dp dq L1 n ((i + 1 : Nat) : Int)) := by
        simp only [Qlx, Qhr, go_sem] at b4
        simp -implicitDefEqProofs (maxSteps:=9^8) only [QbS, Qhr, Qb6, lp, e1, e3, b4, go_sem, iv, bv, reduceCtorEq, ↓reduceIte, Nat.reduceEqDiff]
      rw [Qak, this, Option.bind_some, if_pos rfl]
      exact a4
theorem Ql6        {d1 h1 d2 h2 : Nat} (hp : RwR dp p) (hq : RwR dq q) (Hp : HL d1 h1 p) (Hq' : HL d2 h2 q) (np : p.length ≤ 1000) (nq : q.length ≤ 1000) (hd : d1 + d2 ≤ 1000000000) (hh : h1 + h2 ≤ 1000000000) :
    ∃ d', RwR d' (muP p q) ∧ Qah G Qgl [dp, dq] = some (.d d') := by
  rw [Qad (cf := QcR) rfl]
  have lp := hp.len
  have lq := hq.len
  have e00 : ((0 : Int) == 0) = true := rfl
  by_cases p0 : p.length = 0
  · have : p = [] := List.eq_nil_of_length_eq_zero p0
    subst this
    have em : muP [] q = [] := Qc3 (Qdx _ _) Qeh (fun x => by rw [QaF, QaD, Rat.zero_mul])
    rw [em]
    refine ⟨.z true, .nil, ?_⟩
    simp only [List.length_nil] at lp
    simp -implicitDefEqProofs (maxSteps:=9^8) only [QcR, lp, lq, e00, go_sem, iv, bv, reduceCtorEq, ↓reduceIte, Nat.reduceEqDiff]
  by_cases q0 : q.length = 0
  · have : q = [] := List.eq_nil_of_length_eq_zero q0
    subst this
    have em : muP p [] = [] := Qc3 (Qdx _ _) Qeh (fun x => by rw [QaF, QaD, Rat.mul_zero])
    rw [em]
    refine ⟨.z true, .nil, ?_⟩
    simp only [List.length_nil] at lq
    have ep : ((p.length : Int) == 0) = false := Qco (by omega)
    simp -implicitDefEqProofs (maxSteps:=9^8) only [QcR, lp, lq, ep, e00, go_sem, iv, bv, reduceCtorEq, ↓reduceIte, Nat.reduceEqDiff]
  have ep : ((p.length : Int) == 0) = false := Qco (by omega)
  have eq : ((q.length : Int) == 0) = false := Qco (by omega)
  obtain ⟨n, hn⟩ : ∃ n, p.length + q.length = n + 1 := ⟨p.length + q.length - 1, by omega⟩
  obtain ⟨D, a1, a2, a3⟩ := Hp
  obtain ⟨E, b1, b2, b3⟩ := Hq'
  have hDE : D * E ≤ BB ^ (d1 + d2) := Qcx a2 b2
  have hsz : ∀ (m : Nat) (x : Rat), m ≤ p.length * q.length → Hq (D * E) (m * (BB ^ h1 * BB ^ h2)) x → sz x ≤ 10000000000 := fun m x hm hx => by
    have hm2 : p.length * q.length ≤ 1000 * 1000 := Nat.mul_le_mul np nq
    have hX : m * (BB ^ h1 * BB ^ h2) ≤ BB ^ (1 + (h1 + h2)) := Qcx (by rw [Nat.pow_one]; show m ≤ 1000000000; omega) (Qcx (Nat.le_refl _) (Nat.le_refl _))
    have := Hq.sz (Nat.mul_pos a1 b1) hDE hX hx
    omega
  have sp : SzL 10000000000 p := ((HL.sz ⟨D, a1, a2, a3⟩).mono (by omega))
  have sq : SzL 10000000000 q := ((HL.sz ⟨E, b1, b2, b3⟩).mono (by omega))
  obtain ⟨L', c1, c2, c3, c4⟩ := Qp9 (D := D) (E := E) (XX := BB ^ h1) (YY := BB ^ h2) (K := 10000000000) hp hq (n := n) (by omega) (by omega) (by omega) sp sq hsz a3 b3 hn (by omega) p.length 0 (List.replicate n 0) (by omega) (by simp) (fun x hx => by rw [(List.mem_replicate.1 hx).2]; exact Hq.zero _ _)
  obtain ⟨d', hr', gT⟩ := Qgr (RwR.row L') (by omega) (fun x hx => Nat.le_trans (hsz _ x (Nat.le_refl _) (c2 x hx)) (by omega))
  have em : QbL L' = muP p q := Qc3 (Qb7 _) (Qdx _ _) (fun x => by
    rw [QcG, c3, QrT, Rat.pow_zero, List.drop_zero, QaF, Rat.zero_add, Rat.one_mul])
  rw [em] at hr'
  refine ⟨d', hr', ?_⟩
  have z0 : ((0 : Nat) : Int) = 0 := rfl
  rw [z0] at c4
  obtain ⟨z, hz⟩ : ∃ z, (p.length : Int) + (q.length : Int) = z := ⟨_, rfl⟩
  have e1 : w64 ((p.length : Int) + (q.length : Int)) = z := by rw [Qaf (by omega) (by omega), hz]
  have e2 : w64 (z - 1) = (n : Int) := by rw [Qaf (by omega) (by omega)]; omega
  have f1 : ((0 : Int) ≤ (n : Int)) = True := eq_true (by omega)
  have f2 : ((n : Int) * ((64 : Nat) : Int) ≤ (bound : Int)) = True := eq_true (by have : (bound : Int) = 140737488351232 := rfl; omega)
  have r0 := Qpv n
  have m0 := Qo8 (List.replicate n (0 : Rat))
  rw [rowR, c1] at gT
  clear c1 c2 c3 hr' em sp sq hsz hz
  simp only [Qhr, Qqb, go_sem] at c4
  simp -implicitDefEqProofs (maxSteps:=9^8) only [QcR, Qg8, lp, lq, ep, eq, e1, e2, f1, f2, r0, m0, Int.toNat_natCast, c4, gT, Qlt, Qb6, true_and, and_self, go_sem, iv, bv, reduceCtorEq, ↓reduceIte, Nat.reduceEqDiff]
end
end Go.AM

/- ref06.Poly. -/
namespace Go.AM
open Go Go.RowKit

theorem tdivc {n c : Int} (hn : I64 n) (hc : 0 < c) : I64 (n.tdiv c) ∧ w64 (n.tdiv c) = n.tdiv c := by
  obtain ⟨h1, h2⟩ := hn
  have hb : (n.tdiv c).natAbs ≤ n.natAbs := by
    rw [Int.natAbs_tdiv]; exact Nat.div_le_self _ _
  have h3 : -9223372036854775808 ≤ n.tdiv c := by omega
  have h4 : n.tdiv c < 9223372036854775808 := by
    by_cases h0 : 0 ≤ n
    · omega
    · have e : n.tdiv c = -((-n) / c) := by
        rw [← Int.tdiv_eq_ediv_of_nonneg (by omega), Int.neg_tdiv, Int.neg_neg]
      have : 0 ≤ (-n) / c := Int.ediv_nonneg (by omega) (by omega)
      omega
  exact ⟨⟨h3, h4⟩, Qaf h3 h4⟩
theorem H1.neg {d h : Nat} {q : Rat} (H : H1 d h q) : H1 d h (-q) := by
 obtain ⟨D, h1, h2, h3⟩ := H
 exact ⟨D, h1, h2, h3.neg⟩
theorem H1.one : H1 0 0 1 := ⟨1, by omega, by simp [BB], ⟨1, Rat.mul_one _, by simp⟩⟩
theorem HL.cons {d1 h1 d2 h2 : Nat} {a : Rat} {l : List Rat} (H : H1 d1 h1 a) (H' : HL d2 h2 l) : HL (d1 + d2) (max (h1 + d2) (h2 + d1)) (a :: l) := by
 obtain ⟨D, a1, a2, a3⟩ := H
 obtain ⟨E, b1, b2, b3⟩ := H'
 refine ⟨D * E, Nat.mul_pos a1 b1, Qcx a2 b2, fun q hq => ?_⟩
 rcases List.mem_cons.1 hq with rfl | hq
 ·exact (a3.lift E).le (Nat.le_trans (Qcx (Nat.le_refl _) b2) (QdE (by omega)))
 ·exact ((b3 q hq).lift' D).le (Nat.le_trans (Qcx a2 (Nat.le_refl _)) (QdE (by omega)))
theorem HL.smalls : ∀ (l : List Rat), (∀ q ∈ l, ∃ n, q = smR n) → HL l.length l.length l
 | [], _ => HL.nil _ _
 | a :: l, h => by
  obtain ⟨n, rfl⟩ := h a (List.mem_cons_self ..)
  exact (HL.cons (smR_H n) (HL.smalls l (fun q hq => h q (List.mem_cons_of_mem _ hq)))).mono (by simp; omega) (by simp; omega)
def HB (a b : Nat) (l : List Rat) : Prop := ∃ D : Nat, 0 < D ∧ D ≤ a ∧ ∀ q ∈ l, Hq D b q
theorem HB.hl {a b d h : Nat} {l : List Rat} (H : HB a b l) (ha : a ≤ BB ^ d) (hb : b ≤ BB ^ h) : HL d h l := by
 obtain ⟨D, h1, h2, h3⟩ := H
 exact ⟨D, h1, Nat.le_trans h2 ha, fun q hq => (h3 q hq).le hb⟩
theorem HB.mono {a b c d : Nat} {l : List Rat} (H : HB a b l) (h1 : a ≤ c) (h2 : b ≤ d) : HB c d l := by
 obtain ⟨D, k1, k2, k3⟩ := H
 exact ⟨D, k1, by omega, fun q hq => (k3 q hq).le h2⟩
theorem HB.trim {a b : Nat} {l : List Rat} (H : HB a b l) : HB a b (QbL l) := by
 obtain ⟨D, h1, h2, h3⟩ := H
 exact ⟨D, h1, h2, fun q hq => h3 q (List.mem_of_mem_take hq)⟩
theorem HB.cons {a b c d : Nat} {q : Rat} {l : List Rat} (H : HB a b [q]) (H' : HB c d l) : HB (a * c) (max (b * c) (a * d)) (q :: l) := by
 obtain ⟨D, a1, a2, a3⟩ := H
 obtain ⟨E, b1, b2, b3⟩ := H'
 refine ⟨D * E, Nat.mul_pos a1 b1, Nat.mul_le_mul a2 b2, fun p hp => ?_⟩
 rcases List.mem_cons.1 hp with rfl | hp
 ·exact ((a3 p (by simp)).lift E).le (Nat.le_trans (Nat.mul_le_mul_left _ b2) (Nat.le_max_left _ _))
 ·exact ((b3 p hp).lift' D).le (Nat.le_trans (Nat.mul_le_mul_right _ a2) (Nat.le_max_right _ _))
theorem HB.mu {a b c d : Nat} {l m : List Rat} (H : HB a b l) (H' : HB c d m) : HB (a * c) ((l.length + m.length) * (b * d)) (muP l m) := by
 obtain ⟨D, a1, a2, a3⟩ := H
 obtain ⟨E, b1, b2, b3⟩ := H'
 refine HB.trim ⟨D * E, Nat.mul_pos a1 b1, Nat.mul_le_mul a2 b2, fun q hq => ?_⟩
 obtain ⟨k, hk, rfl⟩ := List.mem_map.1 hq
 have hk := List.mem_range.1 hk
 exact (Hq.sum (k + 1) (fun i _ => (Hq.getD a3 i).mul (Hq.getD b3 (k - i)))).le (Nat.mul_le_mul_right _ (by omega))
theorem HB.neg {a b : Nat} {q : Rat} (H : HB a b [q]) : HB a b [-q] := by
 obtain ⟨D, h1, h2, h3⟩ := H
 exact ⟨D, h1, h2, fun p hp => by rw [List.mem_singleton.1 hp]; exact (h3 q (by simp)).neg⟩
theorem HB.one1 : HB 1 1 [1] := ⟨1, by omega, by omega, fun p hp => by rw [List.mem_singleton.1 hp]; exact ⟨1, Rat.mul_one _, by simp⟩⟩
theorem HB.int {z : Int} (h : z.natAbs ≤ 5) : HB 1 5 [Rat.divInt z 1] := ⟨(1 : Int).natAbs, by decide, by decide, fun p hp => by
 rw [List.mem_singleton.1 hp]
 exact (Hq.div (n := z) (d := 1) (by omega)).le (by omega)⟩
theorem HB.small (n : Int) : HB 4 7 [smR n] := by
 have b := QpS (n := n) (m := 105) (by omega)
 have hd : 0 < 1 + arnd n 105 / 15 % 4 := by omega
 exact ⟨(1 + arnd n 105 / 15 % 4).natAbs, by omega, by omega, fun p hp => by
  rw [List.mem_singleton.1 hp]
  exact (Hq.div hd).le (by omega)⟩
theorem HB.smalls : ∀ (l : List Rat), (∀ q ∈ l, ∃ n, q = smR n) → HB (4 ^ l.length) (7 * 4 ^ l.length) l
 | [], _ => ⟨1, by omega, by simp, fun q hq => by simp at hq⟩
 | a :: l, h => by
  obtain ⟨n, rfl⟩ := h a (List.mem_cons_self ..)
  have := (HB.small n).cons (HB.smalls l (fun q hq => h q (List.mem_cons_of_mem _ hq)))
  refine this.mono ?_ ?_
  ·rw [List.length_cons, Nat.pow_succ]; omega
  ·rw [List.length_cons, Nat.pow_succ]; omega
theorem rep2c (a b c d : D) : rep 2 [a, b, c, d] = [a, b, c, d, a, b, c, d] := rfl
theorem Qqm (a b c d : D) : rep 3 [a, b, c, d] = [a, b, c, d, a, b, c, d, a, b, c, d] := rfl
variable [Its]

theorem rone_of : Qah G Qba [iv 1, iv 1] = some (.d (encR 1)) := by
 have g := QgE (n := 1) (d := 1) ⟨by omega, by omega⟩ ⟨by omega, by omega⟩
 have e : Rat.divInt 1 1 = 1 := Qdy 1
 rw [e] at g; exact g
section
variable {e0 : D} {l : List Int}
def Qkh (e0 : D) (L : List Rat) (i : Int) : St := mkS [(0, .d e0), (3, gA4 28 L), (4, ai i)] (gH4 28 L)
def Qnz (L : List Rat) : St := mkS [(3, gA4 28 L)] (gH4 28 L)
theorem pl_go (hr : Rw e0 l) (hl : ∀ n ∈ l, I64 n) {i : Nat} (hi : i < l.length) (hi6 : i < 6) {L : List Rat} (hL : L.length ≤ 10) : X G QaC (Qkh e0 L i) = some (.n, Qkh e0 (L ++ [smR (l.getD i 0)]) ((i + 1 : Nat) : Int)) := by
 have e1 : decide ((i : Int) < (l.length : Int)) = true := lt_t (by omega)
 have e2 : decide ((i : Int) < 6) = true := lt_t (by omega)
 have e3 : w64 ((i : Int) + 1) = ((i + 1 : Nat) : Int) := by rw [Qaf (by omega) (by omega)]; rfl
 have ll := hr.len
 have x1 := hr.ixn hi
 have x2 := fun h => ldv h l hi
 have g := Qe6 (n := l.getD i 0) (hl _ (by rw [List.getD_eq_getElem?_getD, List.getElem?_eq_getElem hi]; exact List.getElem_mem hi))
 generalize smR (l.getD i 0) = q at *
 generalize l.getD i 0 = x at *
 have d1 := QnH (digs q.num.natAbs)
 have d2 := QnH (dd q.den)
 simp only [encR, iv] at g
 by_cases h0 : L = []
 ·subst h0
  have hb : (64 ≤ bound) = True := eq_true (by unfold bound; omega)
  have hb1 : (1 * 64 ≤ bound) = True := eq_true (by unfold bound; omega)
  simp -implicitDefEqProofs (maxSteps:=9^8) only [QaC, Qkh, QgG, Qg1, Qac, Qkm, Qkp, List.nil_append, List.cons_append, List.length_nil, List.length_cons, Nat.zero_add, List.map_cons, List.map_nil, rep1c, gA4_one, gH4_one, Qq9, srcS, src, one_b, allD, hb, hb1, d1, d2, ll, x1, x2, go_sem, iv, bv, e1, e2, e3, g, reduceCtorEq, ↓reduceIte, Nat.reduceEqDiff]
 ·have n3 : (cA L).length = L.length * 4 := Qix L
  have n4 : ((L.length + 1) * 64 ≤ bound) = True := eq_true (by unfold bound; omega)
  simp -implicitDefEqProofs (maxSteps:=9^8) only [QaC, Qkh, QjV h0, QjZ h0, Qkm, Qkp, List.nil_append, List.cons_append, List.length_nil, List.length_cons, Nat.zero_add, List.map_cons, List.map_nil, rep1c, cA_snoc, n3, n4, Qb6, srcS, src, one_b, allD, d1, d2, ll, x1, x2, go_sem, iv, bv, e1, e2, e3, g, reduceCtorEq, ↓reduceIte, Nat.reduceEqDiff]
theorem pl_stop (hr : Rw e0 l) {i : Nat} (hi : l.length ≤ i ∨ 6 ≤ i) {L : List Rat} : X G QaC (Qkh e0 L i) = some (.x 0, Qnz L) := by
 have ll := hr.len
 by_cases h1 : l.length ≤ i
 ·have e1 : decide ((i : Int) < (l.length : Int)) = false := lt_f (by omega)
  by_cases h0 : L = []
  ·subst h0
   simp -implicitDefEqProofs (maxSteps:=9^8) only [QaC, Qkh, Qnz, QgG, Qg1, Qac, ll, e1, go_sem, iv, bv, reduceCtorEq, ↓reduceIte, Nat.reduceEqDiff]
  ·simp -implicitDefEqProofs (maxSteps:=9^8) only [QaC, Qkh, Qnz, QjV h0, QjZ h0, Qb6, ll, e1, go_sem, iv, bv, reduceCtorEq, ↓reduceIte, Nat.reduceEqDiff]
 ·have e1 : decide ((i : Int) < (l.length : Int)) = true := lt_t (by omega)
  have e2 : decide ((i : Int) < 6) = false := lt_f (by omega)
  by_cases h0 : L = []
  ·subst h0
   simp -implicitDefEqProofs (maxSteps:=9^8) only [QaC, Qkh, Qnz, QgG, Qg1, Qac, ll, e1, e2, go_sem, iv, bv, reduceCtorEq, ↓reduceIte, Nat.reduceEqDiff]
  ·simp -implicitDefEqProofs (maxSteps:=9^8) only [QaC, Qkh, Qnz, QjV h0, QjZ h0, Qb6, ll, e1, e2, go_sem, iv, bv, reduceCtorEq, ↓reduceIte, Nat.reduceEqDiff]
theorem pl_loop (hr : Rw e0 l) (hl : ∀ n ∈ l, I64 n) : ∀ (j i : Nat) (L : List Rat), 6 ≤ i + j → L.length + 1 = i → i ≤ 6 → (∀ q ∈ L, ∃ n, q = smR n) → ∃ L', L'.length ≤ 5 ∧ (∀ q ∈ L', ∃ n, q = smR n) ∧ X G (.loop QaC) (Qkh e0 L i) = some (.x 0, Qnz L')
  | 0, i, L, hj, hLi, hi, hL => ⟨L, by omega, hL, by rw [Qak, pl_stop hr (.inr (by omega))]; rfl⟩
  | j + 1, i, L, hj, hLi, hi, hL => by
    by_cases h : i < l.length ∧ i < 6
    · obtain ⟨L', a1, a2, a3⟩ := pl_loop hr hl j (i + 1) (L ++ [smR (l.getD i 0)]) (by omega) (by rw [List.length_append]; simp; omega) (by omega) (fun q hq => by
        rcases List.mem_append.1 hq with h' | h'
        · exact hL q h'
        · exact ⟨_, List.mem_singleton.1 h'⟩)
      exact ⟨L', a1, a2, by rw [Qak, pl_go hr hl h.1 h.2 (by omega), Option.bind_some, if_pos rfl]; exact a3⟩
    · exact ⟨L, by omega, hL, by rw [Qak, pl_stop hr (by omega)]; rfl⟩

def Qlr (e0 d : D) (i : Int) : St := mkS [(0, .d e0), (5, .d d), (6, ai i)] []
def pm_en (d : D) : St := mkS [(5, .d d)] []
theorem pm_go (hr : Rw e0 l) (hl : ∀ n ∈ l, I64 n) {i : Nat} (hi : i < l.length) (hi5 : i < 5) {d : D} {out : List Rat} {dd hh : Nat} (ho : RwR d out) (Ho : HL dd hh out) (nd : out.length ≤ 100) (hd : dd ≤ 100) (hh' : hh ≤ 100) :
    ∃ d' out', RwR d' out' ∧ Trm out' ∧ (HL (dd + 2) (hh + 3) out' ∧ ∃ t, out' = muP out t ∧ t.length ≤ 3 ∧ HB 16 28 t) ∧ (out'.length ≤ out.length + 2 ∧ (4 ≤ i → out'.length ≤ out.length + 1)) ∧ X G QaE (Qlr e0 d i) = some (.n, Qlr e0 d' ((i + 1 : Nat) : Int)) := by
  have e1 : decide ((i : Int) < (l.length : Int)) = true := lt_t (by omega)
  have e2 : decide ((i : Int) < 5) = true := lt_t (by omega)
  have e3 : w64 ((i : Int) + 1) = ((i + 1 : Nat) : Int) := by rw [Qaf (by omega) (by omega)]; rfl
  have ll := hr.len
  have lo := ho.len
  have x1 := hr.ixn hi
  have x2 := fun h => ldv h l hi
  have hx : I64 (l.getD i 0) := hl _ (by rw [List.getD_eq_getElem?_getD, List.getElem?_eq_getElem hi]; exact List.getElem_mem hi)
  generalize l.getD i 0 = x at *
  have g1 := Qe6 hx
  have g2 := Qnq (a := smR x) (by have := smR_sz x; omega)
  have o1 := rone_of
  obtain ⟨q7, w7⟩ := tdivc (c := 7) hx (by omega)
  obtain ⟨q3, w3⟩ := tdivc (c := 3) hx (by omega)
  obtain ⟨y7, hy7⟩ : ∃ y, x.tdiv 7 = y := ⟨_, rfl⟩
  obtain ⟨y3, hy3⟩ : ∃ y, x.tdiv 3 = y := ⟨_, rfl⟩
  have w7' : w64 (x.tdiv 7) = y7 := by rw [w7, hy7]
  have w3' : w64 (x.tdiv 3) = y3 := by rw [w3, hy3]
  rw [hy7] at q7
  rw [hy3] at q3
  have g7 := Qe6 q7
  have g3 := Qe6 q3
  have z7 := Qjt (b := (7 : Int)) (by omega)
  have z3 := Qjt (b := (3 : Int)) (by omega)
  have F2 : HL 1 1 [-smR x, 1] := (HL.cons (smR_H x).neg (HL.one H1.one)).mono (by omega) (by omega)
  have F3 : HL 2 2 [smR y7, smR y3, 1] := (HL.cons (smR_H y7) (HL.cons (smR_H y3) (HL.one H1.one))).mono (by omega) (by omega)
  obtain ⟨d2, t2, gT2⟩ := Qgr (RwR.row [-smR x, 1]) (by simp only [List.length_cons, List.length_nil]; omega) (F2.sz.mono (by omega))
  obtain ⟨d3, t3, gT3⟩ := Qgr (RwR.row [smR y7, smR y3, 1]) (by simp only [List.length_cons, List.length_nil]; omega) (F3.sz.mono (by omega))
  have n2 : (QbL [-smR x, 1]).length ≤ 2 := Qeq _
  have n3 : (QbL [smR y7, smR y3, 1]).length ≤ 3 := Qeq _
  obtain ⟨m2, u2, gM2⟩ := Ql6 ho t2 Ho F2.trim (by omega) (by omega) (by omega) (by omega)
  obtain ⟨m3, u3, gM3⟩ := Ql6 ho t3 Ho F3.trim (by omega) (by omega) (by omega) (by omega)
  have H2 := HL.mu Ho F2.trim (by have : BB = 1000000000 := rfl; omega)
  have H3 := HL.mu Ho F3.trim (by have : BB = 1000000000 := rfl; omega)
  have l2 := QqO out (QbL [-smR x, 1])
  have l3 := QqO out (QbL [smR y7, smR y3, 1])
  by_cases hc : x.tmod 7 = 3 ∧ i < 4 ∧ out.length < 4
  · refine ⟨m3, _, u3, Qdx _ _, ⟨H3.mono (by omega) (by omega), _, rfl, by omega, ((HB.small y7).cons ((HB.small y3).cons HB.one1) |>.trim).mono (by omega) (by omega)⟩, by omega, ?_⟩
    have c1 : (x.tmod 7 == 3) = true := QiL hc.1
    have c2 : decide ((i : Int) < 4) = true := lt_t (by omega)
    have c3 : decide ((out.length : Int) < 4) = true := lt_t (by omega)
    clear F2 F3 n2 n3 H2 H3 l2 l3 u2 u3 t2 t3 gT2 gM2 hc
    simp only [rowR, cRs, List.length_cons, List.length_nil, Nat.reduceAdd] at gT3
    generalize -smR x = sn at *
    generalize smR x = sx at *
    generalize smR y7 = s7 at *
    generalize smR y3 = s3 at *
    generalize (1 : Rat) = one at *
    simp only [encR, iv] at g1 g2 o1 g7 g3
    simp -implicitDefEqProofs (maxSteps:=9^8) only [QaE, Qlr, ll, lo, x1, x2, e1, e2, e3, g1, g2, o1, g7, g3, z7, z3, w7', w3', c1, c2, c3, gT3, gM3, rep2c, Qqm, go_sem, iv, bv, reduceCtorEq, ↓reduceIte, Nat.reduceEqDiff]
  · refine ⟨m2, _, u2, Qdx _ _, ⟨H2.mono (by omega) (by omega), _, rfl, by omega, ((HB.small x).neg.cons HB.one1 |>.trim).mono (by omega) (by omega)⟩, by omega, ?_⟩
    clear F2 F3 n2 n3 H2 H3 l2 l3 u2 u3 t2 t3 gT3 gM3
    simp only [rowR, cRs, List.length_cons, List.length_nil, Nat.reduceAdd] at gT2
    generalize -smR x = sn at *
    generalize smR x = sx at *
    generalize smR y7 = s7 at *
    generalize smR y3 = s3 at *
    generalize (1 : Rat) = one at *
    simp only [encR, iv] at g1 g2 o1 g7 g3
    by_cases h1 : x.tmod 7 = 3
    · have c1 : (x.tmod 7 == 3) = true := QiL h1
      by_cases h2 : i < 4
      · have c2 : decide ((i : Int) < 4) = true := lt_t (by omega)
        have c3 : decide ((out.length : Int) < 4) = false := lt_f (by omega)
        simp -implicitDefEqProofs (maxSteps:=9^8) only [QaE, Qlr, ll, lo, x1, x2, e1, e2, e3, g1, g2, o1, g7, g3, z7, z3, w7', w3', c1, c2, c3, gT2, gM2, rep2c, Qqm, go_sem, iv, bv, reduceCtorEq, ↓reduceIte, Nat.reduceEqDiff]
      · have c2 : decide ((i : Int) < 4) = false := lt_f (by omega)
        simp -implicitDefEqProofs (maxSteps:=9^8) only [QaE, Qlr, ll, lo, x1, x2, e1, e2, e3, g1, g2, o1, g7, g3, z7, z3, w7', w3', c1, c2, gT2, gM2, rep2c, Qqm, go_sem, iv, bv, reduceCtorEq, ↓reduceIte, Nat.reduceEqDiff]
    · have c1 : (x.tmod 7 == 3) = false := Qco h1
      simp -implicitDefEqProofs (maxSteps:=9^8) only [QaE, Qlr, ll, lo, x1, x2, e1, e2, e3, g1, g2, o1, g7, g3, z7, z3, w7', w3', c1, gT2, gM2, rep2c, Qqm, go_sem, iv, bv, reduceCtorEq, ↓reduceIte, Nat.reduceEqDiff]
theorem pm_stop (hr : Rw e0 l) {i : Nat} (hi : l.length ≤ i ∨ 5 ≤ i) {d : D} : X G QaE (Qlr e0 d i) = some (.x 2, pm_en d) := by
 have ll := hr.len
 by_cases h1 : l.length ≤ i
 ·have e1 : decide ((i : Int) < (l.length : Int)) = false := lt_f (by omega)
  simp -implicitDefEqProofs (maxSteps:=9^8) only [QaE, Qlr, pm_en, ll, e1, go_sem, iv, bv, reduceCtorEq, ↓reduceIte, Nat.reduceEqDiff]
 ·have e1 : decide ((i : Int) < (l.length : Int)) = true := lt_t (by omega)
  have e2 : decide ((i : Int) < 5) = false := lt_f (by omega)
  simp -implicitDefEqProofs (maxSteps:=9^8) only [QaE, Qlr, pm_en, ll, e1, e2, go_sem, iv, bv, reduceCtorEq, ↓reduceIte, Nat.reduceEqDiff]
theorem pm_loop (hr : Rw e0 l) (hl : ∀ n ∈ l, I64 n) : ∀ (j i : Nat) (d : D) (out : List Rat), 5 ≤ i + j → i ≤ 5 → RwR d out → Trm out → HL (2 * i) (1 + 3 * i) out → (out.length + 3 ≤ 2 * i ∧ out.length ≤ i + 1) → ∀ A B, HB A B out → ∃ d' out', RwR d' out' ∧ Trm out' ∧ HB (A * 16 ^ j) (B * 252 ^ j) out' ∧ out'.length ≤ 6 ∧ X G (.loop QaE) (Qlr e0 d i) = some (.x 2, pm_en d')
 | 0, i, d, out, hj, hi, h1, h2, h3, h4, A, B, hB => ⟨d, out, h1, h2, hB.mono (by simp) (by simp), by omega, by rw [Qak, pm_stop hr (.inr (by omega))]; rfl⟩
 | j + 1, i, d, out, hj, hi, h1, h2, h3, h4, A, B, hB => by
  by_cases h : i < l.length ∧ i < 5
  ·obtain ⟨d1, o1, a1, a2, ⟨a3, t, b1, b2, b3⟩, a4, a5⟩ := pm_go hr hl h.1 h.2 h1 h3 (by omega) (by omega) (by omega)
   have hB' : HB (A * 16) (B * 252) o1 := by
    rw [b1]
    refine (hB.mu b3).mono (Nat.le_refl _) ?_
    have : (out.length + t.length) * (B * 28) ≤ 9 * (B * 28) := Nat.mul_le_mul_right _ (by omega)
    omega
   obtain ⟨d', out', c1, c2, c3, c4, c5⟩ := pm_loop hr hl j (i + 1) d1 o1 (by omega) (by omega) a1 a2 (a3.mono (by omega) (by omega)) (by omega) _ _ hB'
   refine ⟨d', out', c1, c2, c3.mono (by rw [Nat.pow_succ, Nat.mul_assoc, Nat.mul_comm 16]; exact Nat.le_refl _) (by rw [Nat.pow_succ, Nat.mul_assoc, Nat.mul_comm 252]; exact Nat.le_refl _), c4, by rw [Qak, a5, Option.bind_some, if_pos rfl]; exact c5⟩
  ·have p1 : 1 ≤ 16 ^ (j + 1) := Nat.one_le_pow _ _ (by decide)
   have p2 : 1 ≤ 252 ^ (j + 1) := Nat.one_le_pow _ _ (by decide)
   exact ⟨d, out, h1, h2, hB.mono (Nat.le_mul_of_pos_right _ p1) (Nat.le_mul_of_pos_right _ p2), by omega, by rw [Qak, pm_stop hr (by omega)]; rfl⟩
theorem QrA (hr : Rw e0 l) (hl : ∀ n ∈ l, I64 n) : ∃ d p, RwR d p ∧ Trm p ∧ HL 1 1 p ∧ p.length ≤ 6 ∧ Qah G QdR [e0] = some (.d d) := by
 rw [Qad (cf := Qcw) rfl]
 have a0 := at_spec (i := 0) (m := 3) hr hl (by omega)
 have a1 := at_spec (i := 1) (m := 5) hr hl (by omega)
 have b1 := atr_b l 1 (m := 5) (by omega)
 generalize atr l 0 3 = x0 at *
 generalize atr l 1 5 = x1 at *
 by_cases h0 : x0 = 0
 ·have e1 : (x0 == 0) = true := QiL h0
  obtain ⟨L, c1, c2, c3⟩ := pl_loop hr hl 5 1 [] (by omega) rfl (by omega) (fun q hq => by simp at hq)
  have HLs := HL.smalls L c2
  obtain ⟨d', t1, gT⟩ := Qgr (dR_ok L) (by omega) (HLs.sz.mono (by omega))
  have HBs := HB.smalls L c2
  have p5 : 4 ^ L.length ≤ 4 ^ 5 := Nat.pow_le_pow_right (by decide) c1
  refine ⟨d', QbL L, t1, Qb7 _, (HBs.trim).hl (by rw [Nat.pow_one]; show _ ≤ 1000000000; omega) (by rw [Nat.pow_one]; show _ ≤ 1000000000; omega), Nat.le_trans (Qeq L) (by omega), ?_⟩
  have n1 : ((1 : Nat) : Int) = 1 := rfl
  rw [n1] at c3
  simp only [iv] at a0
  by_cases hL : L = []
  ·subst hL
   have gT' : Qah G Qbn [.z true] = some (.d d') := gT
   simp only [Qkh, Qnz, QgG, Qg1, Qac, go_sem] at c3
   simp -implicitDefEqProofs (maxSteps:=9^8) only [Qcw, Qg8, a0, e1, c3, gT', Qac, go_sem, iv, bv, reduceCtorEq, ↓reduceIte, Nat.reduceEqDiff]
  ·rw [dR, if_neg hL, rowR] at gT
   simp only [Qkh, Qnz, QgG, Qg1, QjV hL, QjZ hL, Qac, go_sem] at c3
   simp -implicitDefEqProofs (maxSteps:=9^8) only [Qcw, Qg8, a0, e1, c3, gT, Qlt, Qb6, Qac, go_sem, iv, bv, reduceCtorEq, ↓reduceIte, Nat.reduceEqDiff]
 ·have e1 : (x0 == 0) = false := Qco h0
  obtain ⟨z, hz⟩ : ∃ z, 1 + x1 = z := ⟨_, rfl⟩
  have w1 : w64 (1 + x1) = z := by rw [Qaf (by omega) (by omega), hz]
  have o1 := QgE (n := z) (d := 1) ⟨by omega, by omega⟩ ⟨by omega, by omega⟩
  have Hc : H1 1 1 (Rat.divInt z 1) := ⟨(1 : Int).natAbs, by decide, by rw [Nat.pow_one]; decide, (Hq.div (n := z) (d := 1) (by omega)).le (by rw [Nat.pow_one]; show _ ≤ 1000000000; omega)⟩
  have Bc : HB 1 5 [Rat.divInt z 1] := HB.int (by omega)
  generalize Rat.divInt z 1 = c at *
  obtain ⟨d1, t1, gT⟩ := Qgr (RwR.row [c]) (by simp only [List.length_cons, List.length_nil]; omega) ((HL.one Hc).sz.mono (by omega))
  have n1 : (QbL [c]).length ≤ 1 := Qeq _
  obtain ⟨d', out', b1, b2, b3, b4, b5⟩ := pm_loop hr hl 3 2 d1 (QbL [c]) (by omega) (by omega) t1 (Qb7 _) ((HL.one Hc).trim.mono (by omega) (by omega)) (by omega) 1 5 Bc.trim
  refine ⟨d', out', b1, b2, b3.hl (by decide) (by decide), b4, ?_⟩
  have n2 : ((2 : Nat) : Int) = 2 := rfl
  rw [n2] at b5
  simp only [rowR, cRs, List.length_cons, List.length_nil, Nat.reduceAdd] at gT
  simp only [encR, iv] at a0 a1 o1
  simp only [Qlr, pm_en, go_sem] at b5
  simp -implicitDefEqProofs (maxSteps:=9^8) only [Qcw, a0, a1, e1, w1, o1, gT, b5, rep1c, go_sem, iv, bv, reduceCtorEq, ↓reduceIte, Nat.reduceEqDiff]
theorem Poly_spec (hr : Rw e0 l) (hl : ∀ n ∈ l, I64 n) : ∃ d p, RwR d p ∧ Trm p ∧ HL 10 16 p ∧ p.length ≤ 6 ∧ Qah G QdR [e0] = some (.d d) := by
 obtain ⟨d, p, a, b, c, e, f⟩ := QrA hr hl
 exact ⟨d, p, a, b, c.mono (by omega) (by omega), e, f⟩
end
end Go.AM

/- How great the coefficients of a shift are. -/
namespace Go.AM
open Go Go.RowKit

theorem evR_dropL (l : List Rat) (x : Rat) {k : Nat} (h : k < l.length) : evR (l.drop k) x = evR (l.drop (k + 1)) x * x + l.getD k 0 := by
 have e : l.drop k = l.getD k 0 :: l.drop (k + 1) := by
  rw [List.drop_eq_getElem_cons h, List.getD_eq_getElem?_getD, List.getElem?_eq_getElem h]; rfl
 rw [e, Qb8]
theorem QqB (a : Rat) : ∀ (s : List Rat) (i : Nat), s ≠ [] → (evR s a :: syn s a).getD i 0 = evR (s.drop i) a
 | [], _, h => absurd rfl h
 | [x], 0, _ => rfl
 | [x], i + 1, _ => by
  rw [syn]
  show (0 : Rat) = evR ([].drop i) a
  rw [List.drop_nil, QaD]
 | x :: b :: l, 0, _ => rfl
 | x :: b :: l, i + 1, _ => by
  rw [syn]
  show (evR (b :: l) a :: syn (b :: l) a).getD i 0 = evR ((b :: l).drop i) a
  exact QqB a (b :: l) i (by simp)
theorem hst_getD {l : List Rat} {a : Rat} {j : Nat} (hj : j < l.length) (t : Nat) : (hst l a j).getD t 0 = if t < j then l.getD t 0 else evR (l.drop t) a := by
  have hT : (l.take j).length = j := by rw [List.length_take]; omega
  unfold hst
  by_cases h : t < j
  · rw [if_pos h, List.getD_eq_getElem?_getD, List.getElem?_append_left (by omega), List.getElem?_take_of_lt h, ← List.getD_eq_getElem?_getD]
  · rw [if_neg h, List.getD_eq_getElem?_getD, List.getElem?_append_right (by omega), ← List.getD_eq_getElem?_getD, hT, QqB      a _ _ (by
      intro h0; have := congrArg List.length h0; rw [List.length_drop] at this; simp at this; omega), List.drop_drop, show j + (t - j) = t by omega]
def WS (D v n H : Nat) (l : List Rat) : Prop := ∀ k, k ≤ n → Hq (D * v ^ (n - k)) H (l.getD k 0)
theorem WS.suffix {D v n H U : Nat} {l : List Rat} {a : Rat} (h : WS D v n H l) (ha : Hq v U a) (hl : l.length ≤ n) : ∀ j t : Nat, t + j = n → Hq (D * v ^ (n - t)) (H * (1 + U) ^ j) (evR (l.drop t) a)
 | 0, t, ht => by
  rw [List.drop_of_length_le (by omega), QaD]; exact Hq.zero _ _
 | j + 1, t, ht => by
  by_cases h1 : t < l.length
  ·have ih := WS.suffix h ha hl j (t + 1) (by omega)
   have h2 := ih.mul ha
   have h3 := h t (by omega)
   have e : D * v ^ (n - (t + 1)) * v = D * v ^ (n - t) := by
    rw [show n - t = (n - (t + 1)) + 1 by omega, Nat.pow_succ, Nat.mul_assoc]
   rw [e] at h2
   rw [evR_dropL l a h1]
   refine (h2.add h3).le ?_
   have e1 : H * (1 + U) ^ (j + 1) = H * (1 + U) ^ j * U + H * (1 + U) ^ j := by
    rw [Nat.pow_succ, ← Nat.mul_assoc, Nat.mul_add, Nat.mul_one, Nat.add_comm]
   rw [e1]
   have : H ≤ H * (1 + U) ^ j := Nat.le_mul_of_pos_right _ (Nat.pow_pos (by omega))
   omega
  ·rw [List.drop_of_length_le (by omega), QaD]; exact Hq.zero _ _
theorem WS.hst {D v n H U : Nat} {l : List Rat} {a : Rat} (h : WS D v n H l) (ha : Hq v U a) (hl : l.length ≤ n) {j : Nat} (hj : j < l.length) : WS D v n (H * (1 + U) ^ n) (hst l a j) := fun k hk => by
 rw [hst_getD hj]
 split
 ·exact (h k hk).le (Nat.le_mul_of_pos_right _ (Nat.pow_pos (by omega)))
 ·exact (h.suffix ha hl (n - k) k (by omega)).le (Nat.mul_le_mul_left _ (Nat.pow_le_pow_right (by omega) (by omega)))
theorem WS.pas {D v n H U : Nat} {l : List Rat} {a : Rat} (h : WS D v n H l) (ha : Hq v U a) (hl : l.length ≤ n) : ∀ i, i ≤ l.length → WS D v n (H * ((1 + U) ^ n) ^ i) (pas l a i)
 | 0, _ => by rw [Nat.pow_zero, Nat.mul_one]; exact h
 | i + 1, hi => by
  have ih := WS.pas h ha hl i (by omega)
  have := ih.hst ha (by rw [QpJ i (by omega)]; exact hl) (j := i) (by rw [QpJ i (by omega)]; omega)
  rw [Nat.mul_assoc, ← Nat.pow_succ] at this
  exact this
end Go.AM

/- Small helps for the laws of ref06.Poly's polynomials. -/
namespace Go.AM
open Go Go.RowKit Go.Proofs
theorem H1.add {d1 h1 d2 h2 : Nat} {a b : Rat} (H : H1 d1 h1 a) (H' : H1 d2 h2 b) : H1 (d1 + d2) (max (h1 + d2) (h2 + d1) + 1) (a + b) := by
 obtain ⟨D, a1, a2, a3⟩ := H
 obtain ⟨E, b1, b2, b3⟩ := H'
 refine ⟨D * E, Nat.mul_pos a1 b1, Qcx a2 b2, ((a3.lift E).add (b3.lift' D)).le (Qqn ?_ ?_)⟩
 ·exact Nat.le_trans (Qcx (Nat.le_refl _) b2) (QdE (by omega))
 ·exact Nat.le_trans (Qcx a2 (Nat.le_refl _)) (QdE (by omega))
variable [Its]
end Go.AM

/- ref06: At, Add, Scale, Sub, Derive, Eval, Shift. -/
namespace Go.AM
open Go Go.RowKit

variable [Its]

/-! ### Add -/
section
variable {d d2 : D} {l m : List Rat} {K : Nat}
end

/-! ### Scale -/
section
variable {d : D} {l : List Rat} {a : Rat} {K : Nat}
end
end Go.AM

/- ref06: Sub, Derive, Eval, Shift. -/
namespace Go.AM
open Go Go.RowKit

theorem pow_sz' (x : Rat) (i : Nat) {K : Nat} (hx : sz x ≤ K) : sz (x ^ i) ≤ i * K + 1 := Nat.le_trans (sz_pow x i) (Nat.add_le_add_right (Nat.mul_le_mul_left _ hx) 1)
variable [Its]

section
variable {d d2 : D} {l m : List Rat} {K : Nat}
end

/-! ### Derive -/
section
variable {d : D} {l : List Rat} {K : Nat}
/-! ### Eval -/
def QpA (d : D) (x s p : Rat) (i : Int) : St := mkS [(0, .d d), (3, .ptr [3] 0), (4, .ptr [4] 0), (5, .ptr [5] 0), (6, .ptr [6] 0), (7, ai i)] [([3], boxR x), ([4], QhV), ([5], boxR s), ([6], boxR p)]
def re_en (s : Rat) : St := mkS [(4, .ptr [4] 0), (5, .ptr [5] 0)] [([4], QhV), ([5], boxR s)]
theorem re_go {x : Rat} (h1 : RwR d l) (s1 : SzL K l) (hK1 : 1 ≤ K) (hK : K ≤ 10000) (n1 : l.length ≤ 1000) (hx : sz x ≤ K) {i : Nat} (hi : i < l.length) : X G QbE (QpA d x (sumR (fun k => l.getD k 0 * x ^ k) i) (x ^ i) i) = some (.n, QpA d x (sumR (fun k => l.getD k 0 * x ^ k) (i + 1)) (x ^ (i + 1)) ((i + 1 : Nat) : Int)) := by
 have e3 : w64 ((i : Int) + 1) = ((i + 1 : Nat) : Int) := by rw [Qaf (by omega) (by omega)]; rfl
 have e1 : decide ((i : Int) < (l.length : Int)) = true := lt_t (by omega)
 have ll := h1.len
 have x1 := h1.ixa hi
 have x2 := fun h => ldR h l hi
 have b1 := s1.getD hK1 i
 have hb : ∀ k, k < 1001 → sz (x ^ k) ≤ 10010001 := fun k hk => Nat.le_trans (pow_sz' x k hx) (Nat.le_trans (Nat.add_le_add_right (Nat.mul_le_mul (show k ≤ 1001 by omega) hK) 1) (by decide))
 have b2 := hb i (by omega)
 have b3 := Qpk (f := fun k => l.getD k 0 * x ^ k) (K := 10020001) i (fun k hk => by
  have := hb k (by omega); have := s1.getD hK1 k
  have := QhW (a := l.getD k 0) (b := x ^ k)
  show sz (l.getD k 0 * x ^ k) ≤ _
  omega)
 have b4 : i * (10020001 + 1) ≤ 1000 * (10020001 + 1) := Nat.mul_le_mul_right _ (by omega)
 have b5 : sz (sumR (fun k => l.getD k 0 * x ^ k) i) ≤ 20000000000 := Nat.le_trans b3 (Nat.le_trans (Nat.add_le_add_right b4 1) (by decide))
 have g1 := Qhg (a := l.getD i 0) (b := x ^ i) (by omega) (by omega)
 have m1 := QhW (a := l.getD i 0) (b := x ^ i)
 have g2 := Qj4 (a := sumR (fun k => l.getD k 0 * x ^ k) i) (b := l.getD i 0 * x ^ i) (by omega) (by omega)
 have g3 := Qhg (a := x ^ i) (b := x) (by omega) (by omega)
 rw [← Rat.pow_succ] at g3
 have ee : sumR (fun k => l.getD k 0 * x ^ k) i + l.getD i 0 * x ^ i = sumR (fun k => l.getD k 0 * x ^ k) (i + 1) := rfl
 rw [ee] at g2
 clear ee b1 b2 b3 b4 b5 m1 hb
 generalize sumR (fun k => l.getD k 0 * x ^ k) (i + 1) = r2 at *
 generalize sumR (fun k => l.getD k 0 * x ^ k) i = r1 at *
 generalize x ^ (i + 1) = p2 at *
 generalize x ^ i = p1 at *
 generalize l.getD i 0 * p1 = t at *
 generalize l.getD i 0 = u at *
 generalize cRs (l.drop i) = cs at *
 simp only [encR] at g1 g2 g3 x2
 simp -implicitDefEqProofs (maxSteps:=9^8) only [QbE, QpA, boxR, QhV, ll, x1, x2, e1, e3, g1, g2, g3, go_sem, Qab, Qaa, iv, bv, reduceCtorEq, ↓reduceIte, Nat.reduceEqDiff]
theorem re_stop {x s p : Rat} (h1 : RwR d l) : X G QbE (QpA d x s p (l.length : Nat)) = some (.x 0, re_en s) := by
 have e1 : decide ((l.length : Int) < (l.length : Int)) = false := lt_f (by omega)
 have ll := h1.len
 simp -implicitDefEqProofs (maxSteps:=9^8) only [QbE, QpA, re_en, boxR, QhV, ll, e1, go_sem, Qab, Qaa, iv, bv, reduceCtorEq, ↓reduceIte, Nat.reduceEqDiff]
theorem re_loop {x : Rat} (h1 : RwR d l) (s1 : SzL K l) (hK1 : 1 ≤ K) (hK : K ≤ 10000) (n1 : l.length ≤ 1000) (hx : sz x ≤ K) : ∀ j i : Nat, i + j = l.length → X G (.loop QbE) (QpA d x (sumR (fun k => l.getD k 0 * x ^ k) i) (x ^ i) i) = some (.x 0, re_en (evR l x))
 | 0, i, h => by
  have : i = l.length := by omega
  subst this
  rw [Qak, re_stop h1, Qkr]; rfl
 | j + 1, i, h => by
  rw [Qak, re_go h1 s1 hK1 hK n1 hx (by omega), Option.bind_some, if_pos rfl]
  exact re_loop h1 s1 hK1 hK n1 hx j (i + 1) (by omega)
theorem Qpe {x : Rat} (h1 : RwR d l) (s1 : SzL K l) (hK1 : 1 ≤ K) (hK : K ≤ 10000) (n1 : l.length ≤ 1000) (hx : sz x ≤ K) : Qah G QfP [d, encR x] = some (.d (encR (evR l x))) := by
 rw [Qad (cf := QeN) rfl]
 have hl := re_loop h1 s1 hK1 hK n1 hx l.length 0 (by omega)
 have o := rone_of
 have z0 : ((0 : Nat) : Int) = 0 := rfl
 have e5 : boxR (sumR (fun k => l.getD k 0 * x ^ k) 0) = QhV := by
  have ez : decide ((0 : Rat).num < 0) = false := rfl
  have ez2 : dg (digs (0 : Rat).num.natAbs) = .z true := by rw [Rat.zero_num, show (0 : Int).natAbs = 0 from rfl, Qau]; rfl
  have ez3 : dg (dd (0 : Rat).den) = .z true := rfl
  rw [sumR, boxR, ez, ez2, ez3]; rfl
 rw [QpA, e5, Rat.pow_zero, z0] at hl
 clear e5
 generalize evR l x = v at *
 generalize (1 : Rat) = one at *
 simp only [encR, iv] at o
 simp only [re_en, boxR, QhV, go_sem] at hl
 simp -implicitDefEqProofs (maxSteps:=9^8) only [QeN, encR, o, hl, go_sem, Qab, Qaa, iv, bv, reduceCtorEq, ↓reduceIte, Nat.reduceEqDiff]

/-! ### Shift -/
end
end Go.AM

/- Division: what it means, that it is the only one, how great the coefficients are. -/
namespace Go.AM
open Go Go.RowKit

theorem Qdm {l : List Rat} (h : Trm l) (hne : l ≠ []) : l.getD (l.length - 1) 0 ≠ 0 := by
 have hp : 0 < l.length := List.length_pos_iff.2 hne
 exact h (l.length - 1) (by omega)
theorem Qqy (x : Rat) {l : List Rat} {t : Nat} {c : Rat} (h : t < l.length) : evR (l.set t c) x = evR l x + (c - l.getD t 0) * x ^ t := by
 have : ∀ (l : List Rat) (t : Nat) (c : Rat), t < l.length → evR (l.set t c) x = evR l x + (c - l.getD t 0) * x ^ t := by
  intro l
  induction l with
  | nil => intro t c h; simp at h
  | cons a l ih =>
   intro t c h
   cases t with
   | zero =>
    show evR l x * x + c = evR l x * x + a + (c - a) * x ^ 0
    rw [Rat.pow_zero]; generalize evR l x = u; grind
   | succ t =>
    have := ih t c (by simpa using h)
    show evR (l.set t c) x * x + a = evR l x * x + a + (c - l.getD t 0) * x ^ (t + 1)
    rw [this, Rat.pow_succ]
    generalize evR l x = u; generalize x ^ t = p; generalize l.getD t 0 = v; grind
 exact this l t c h
theorem Qq8 (x : Rat) (k : Nat) : ∀ i : Nat, x ^ (k + i) = x ^ k * x ^ i
 | 0 => by rw [Nat.add_zero, Rat.pow_zero, Rat.mul_one]
 | i + 1 => by rw [← Nat.add_assoc, Rat.pow_succ, Rat.pow_succ, Qq8 x k i, Rat.mul_assoc]
theorem evR_take (q : List Rat) (x : Rat) {i : Nat} (h : i < q.length) : evR (q.take (i + 1)) x = evR (q.take i) x + q.getD i 0 * x ^ i := by
 have e : q.take (i + 1) = q.take i ++ [q.getD i 0] := by
  rw [List.take_add_one]
  simp [List.getD, h]
 rw [e, Qko, List.length_take, Nat.min_eq_left (by omega)]
theorem evR_dvI {R q : List Rat} {k : Nat} {f x : Rat} : ∀ i, i ≤ q.length → k + q.length ≤ R.length → evR (dvI R q k f i) x = evR R x - f * x ^ k * evR (q.take i) x
 | 0, _, _ => by rw [dvI, List.take_zero, QaD]; grind
 | i + 1, hi, hk => by
  rw [dvI, Qqy x (by rw [Qg2]; omega), evR_dvI i (by omega) hk, evR_take q x (by omega), Qq8]
  generalize evR R x = a; generalize evR (q.take i) x = b; generalize x ^ k = p; generalize x ^ i = r; generalize q.getD i 0 = c; generalize (dvI R q k f i).getD (k + i) 0 = e
  grind
theorem evR_dv {R q : List Rat} {k : Nat} {f x : Rat} (hk : k + q.length ≤ R.length) : evR (dvI R q k f q.length) x = evR R x - f * x ^ k * evR q x := by
 have := evR_dvI (x := x) (f := f) q.length (Nat.le_refl _) hk
 rwa [List.take_length] at this
theorem dvO_ev (q : List Rat) (x : Rat) : ∀ (m : Nat) (R O : List Rat), (0 < m → m - 1 + q.length ≤ R.length) → m ≤ O.length → (∀ t, t < m → O.getD t 0 = 0) → evR (dvO q m R O).2 x * evR q x + evR (dvO q m R O).1 x = evR O x * evR q x + evR R x
 | 0, R, O, _, _, _ => rfl
 | k + 1, R, O, h, hO, hz => by
  have hk : k + q.length ≤ R.length := by have := h (by omega); omega
  rw [dvO, dvO_ev q x k _ _ (fun _ => by rw [Qg2]; omega) (by rw [List.length_set]; omega) (fun t ht => by rw [QnI (by omega), if_neg (by omega)]; exact hz t (by omega)), evR_dv hk, Qqy x (by omega), hz k (by omega)]
  generalize evR O x = a; generalize evR R x = b; generalize evR q x = c; generalize x ^ k = p; generalize dvF R q k = f
  grind
theorem dvO_deg {q : List Rat} (hq : q.getD (q.length - 1) 0 ≠ 0) (hq0 : 0 < q.length) : ∀ (m : Nat) (R O : List Rat), (0 < m → m - 1 + q.length ≤ R.length) → (∀ t, m + q.length - 1 ≤ t → R.getD t 0 = 0) → ∀ t, q.length - 1 ≤ t → (dvO q m R O).1.getD t 0 = 0
 | 0, R, O, _, hz, t, ht => hz t (by omega)
 | k + 1, R, O, h, hz, t, ht => by
  have hk : k + q.length ≤ R.length := by have := h (by omega); omega
  rw [dvO]
  refine dvO_deg hq hq0 k _ _ (fun _ => by rw [Qg2]; omega) (fun t ht => ?_) t ht
  rw [QiR q.length (by omega)]
  by_cases h1 : t = k + q.length - 1
  ·subst h1
   rw [if_pos (by omega), show k + q.length - 1 - k = q.length - 1 by omega, dvF, Rat.div_def, Rat.mul_assoc, Rat.inv_mul_cancel _ hq, Rat.mul_one, Rat.sub_self]
  ·rw [if_neg (by omega)]
   exact hz t (by omega)
theorem Qo9 {l : List Rat} {n : Nat} (hl : Trm l) (h : ∀ t, n ≤ t → l.getD t 0 = 0) : l.length ≤ n := by
 by_cases hl0 : l.length ≤ n
 ·exact hl0
 ·exact absurd (h (l.length - 1) (by omega)) (hl (l.length - 1) (by omega))
theorem Qjv {p q : List Rat} (hq : Trm q) (hq0 : q ≠ []) : (∀ x, evR p x = evR (quoP p q) x * evR q x + evR (remP p q) x) ∧ (remP p q).length ≤ q.length - 1 ∧ Trm (quoP p q) ∧ Trm (remP p q) := by
  have hl : 0 < q.length := List.length_pos_iff.2 hq0
  unfold quoP remP
  rw [if_neg hq0, if_neg hq0]
  refine ⟨fun x => ?_, ?_, Qb7 _, Qb7 _⟩
  · rw [QcG     , QcG     , dvO_ev q x (dvN p q) p (List.replicate (dvN p q) 0) (fun h => by unfold dvN at h ⊢; omega) (by simp) (fun t ht => by
      rw [List.getD_eq_getElem?_getD, List.getElem?_replicate, if_pos ht]; rfl), Qjb (fun r hr => (List.mem_replicate.1 hr).2), Rat.zero_mul, Rat.zero_add]
  · refine Qo9 (Qb7 _) (fun t ht => ?_)
    rw [Qfk]
    refine dvO_deg (Qdm hq hq0) hl _ _ _ (fun h => by unfold dvN at h ⊢; omega) (fun t ht => QaU (by unfold dvN at ht; omega)) t ht
theorem Qja {s q : List Rat} (hs : 0 < s.length) (hq : 0 < q.length) : conv s q (s.length - 1 + (q.length - 1)) = s.getD (s.length - 1) 0 * q.getD (q.length - 1) 0 := by
 obtain ⟨n, hn⟩ : ∃ n, s.length = n + 1 := ⟨s.length - 1, by omega⟩
 unfold conv
 rw [hn, Nat.add_sub_cancel]
 have h1 : sumR (fun i => s.getD i 0 * q.getD (n + (q.length - 1) - i) 0) (n + (q.length - 1) + 1) = sumR (fun i => s.getD i 0 * q.getD (n + (q.length - 1) - i) 0) (n + 1) := by
  rw [show n + (q.length - 1) + 1 = (n + 1) + (q.length - 1) by omega]
  exact QkI _ (fun i h1 _ => by rw [QaU (l := s) (by omega), Rat.zero_mul])
 rw [h1, sumR, Qfu n (fun i hi => by rw [QaU (l := q) (by omega), Rat.mul_zero]), Rat.zero_add, show n + (q.length - 1) - n = q.length - 1 by omega]
theorem Qlq (l m : List Rat) (k : Nat) : (muP l m).getD k 0 = conv l m k := by
 rw [muP, Qfk]
 by_cases h : k < l.length + m.length - 1
 ·rw [QiP _ h]
 ·rw [QaU (by simp; omega), Qrj (by omega)]
theorem sb_getD (l m : List Rat) (k : Nat) : (sbP l m).getD k 0 = l.getD k 0 - m.getD k 0 := by
 rw [sbP, Qfk]
 by_cases h : k < max l.length m.length
 ·rw [QiP _ h]
 ·rw [QaU (by simp; omega), QaU (l := l) (by omega), QaU (l := m) (by omega), Rat.sub_self]
theorem Qqa {q a1 r1 a2 r2 : List Rat} (hq : Trm q) (hq0 : q ≠ []) (t1 : Trm a1) (t2 : Trm a2) (u1 : Trm r1) (u2 : Trm r2) (n1 : r1.length ≤ q.length - 1) (n2 : r2.length ≤ q.length - 1) (h : ∀ x, evR a1 x * evR q x + evR r1 x = evR a2 x * evR q x + evR r2 x) : a1 = a2 ∧ r1 = r2 := by
 have hl : 0 < q.length := List.length_pos_iff.2 hq0
 have hs : sbP a1 a2 = [] := by
  by_cases h0 : sbP a1 a2 = []
  ·exact h0
  ·have hsl : 0 < (sbP a1 a2).length := List.length_pos_iff.2 h0
   have hev : ∀ x, evR (muP (sbP a1 a2) q) x = evR (sbP r2 r1) x := fun x => by
    rw [QaF, QoW, QoW]
    have := h x
    generalize evR a1 x = a at *; generalize evR a2 x = b at *; generalize evR q x = c at *; generalize evR r1 x = d at *; generalize evR r2 x = e at *
    grind
   have hc := Qmq (c := 0) (fun x _ => hev x) ((sbP a1 a2).length - 1 + (q.length - 1))
   rw [Qlq, Qja hsl hl, sb_getD r2 r1, QaU (l := r2) (by omega), QaU (l := r1) (by omega), Rat.sub_self] at hc
   rcases Rat.mul_eq_zero.1 hc with h1 | h1
   ·exact absurd h1 (Qdm (trm_sb _ _) h0)
   ·exact absurd h1 (Qdm hq hq0)
 have ha : a1 = a2 := Qm4 t1 t2 (fun k => by
  have := sb_getD a1 a2 k
  rw [hs, QaU (by simp)] at this
  generalize a1.getD k 0 = u at *; generalize a2.getD k 0 = v at *
  grind)
 refine ⟨ha, Qc3 u1 u2 (fun x => ?_)⟩
 have := h x
 rw [ha] at this
 generalize evR a2 x * evR q x = u at *
 grind

/-! ### Sizes -/
theorem Hq.ratio {E Y : Nat} {c : Rat} (hE : 0 < E) (hc : c ≠ 0) (h : Hq E Y c) : ∃ s : Nat, 0 < s ∧ s ≤ Y ∧ ∀ (Z : Nat) (v : Rat), Hq E Z v → Hq s Z (v / c) := by
  obtain ⟨m, h1, h2⟩ := h
  have hm : m ≠ 0 := fun h0 => by
    rw [h0] at h1
    have h3 : c * cN E = 0 := h1
    rcases Rat.mul_eq_zero.1 h3 with h4 | h4
    · exact hc h4
    · exact cN_ne hE h4
  have key : ∀ v, v / c * (m : Rat) = v * cN E := fun v => by
    rw [← h1, Rat.div_def, Rat.mul_assoc, ← Rat.mul_assoc c⁻¹, Rat.inv_mul_cancel _ hc, Rat.one_mul]
  refine ⟨m.natAbs, by omega, h2, fun Z v hv => ?_⟩
  obtain ⟨n, n1, n2⟩ := hv
  rcases Int.lt_trichotomy m 0 with h3 | h3 | h3
  · have e : cN m.natAbs = -(m : Rat) := by
      unfold cN
      rw [show ((m.natAbs : Nat) : Int) = -m by omega, Rat.intCast_neg]
    exact ⟨-n, by rw [e, Rat.mul_neg, key, n1, Rat.intCast_neg], by omega⟩
  · exact absurd h3 hm
  · have e : cN m.natAbs = (m : Rat) := by
      unfold cN
      rw [show ((m.natAbs : Nat) : Int) = m by omega]
    exact ⟨n, by rw [e, key, n1], n2⟩
theorem Hq.one (E : Nat) : Hq E E 1 := ⟨(E : Int), by rw [Rat.one_mul]; rfl, by omega⟩
theorem dv_step {D X E Y s : Nat} {R q : List Rat} {k : Nat} (hR : ∀ x ∈ R, Hq D X x) (hq : ∀ x ∈ q, Hq E Y x) (hs : ∀ (Z : Nat) (v : Rat), Hq E Z v → Hq s Z (v / q.getD (q.length - 1) 0)) (hk : k + q.length ≤ R.length) :
    (∀ x ∈ dvI R q k (dvF R q k) q.length, Hq (D * s) (X * (s + Y)) x) ∧ Hq (D * s) (X * E) (dvF R q k) := by
  have hf : Hq (D * s) (X * E) (dvF R q k) := by
    have := (Hq.getD hR (k + q.length - 1)).mul (hs E 1 (Hq.one E))
    unfold dvF
    rwa [Rat.div_def, Rat.one_mul, ← Rat.div_def] at this
  refine ⟨fun x hx => ?_, hf⟩
  obtain ⟨t, ht, rfl⟩ := List.mem_iff_getElem.1 hx
  have e : (dvI R q k (dvF R q k) q.length)[t] = (dvI R q k (dvF R q k) q.length).getD t 0 := by
    rw [List.getD_eq_getElem?_getD, List.getElem?_eq_getElem ht]; rfl
  rw [e, QiR q.length hk]
  have hRt := (Hq.getD hR t).lift s
  split
  · have hfq : Hq (D * s) (X * Y) (dvF R q k * q.getD (t - k) 0) := by
      have h1 := (Hq.getD hR (k + q.length - 1)).mul (hs Y _ (Hq.getD hq (t - k)))
      have e2 : R.getD (k + q.length - 1) 0 * (q.getD (t - k) 0 / q.getD (q.length - 1) 0) = dvF R q k * q.getD (t - k) 0 := by
        unfold dvF
        rw [Rat.div_def, Rat.div_def]
        generalize R.getD (k + q.length - 1) 0 = a; generalize (q.getD (q.length - 1) 0)⁻¹ = b; generalize q.getD (t - k) 0 = c
        grind
      rwa [e2] at h1
    rw [Nat.mul_add]
    exact hRt.sub hfq
  · rw [Nat.mul_add]
    exact hRt.le (by omega)
theorem dv_all {E Y s : Nat} {q : List Rat} {d e g : Nat} (hq : ∀ x ∈ q, Hq E Y x) (hs : ∀ (Z : Nat) (v : Rat), Hq E Z v → Hq s Z (v / q.getD (q.length - 1) 0)) (hs0 : 0 < s) (hsB : s ≤ BB ^ g) (hYB : Y ≤ BB ^ g) (hEB : E ≤ BB ^ e) {K : Nat} :
    ∀ (m D h : Nat) (R O : List Rat), 0 < D → D ≤ BB ^ d → (∀ x ∈ R, Hq D (BB ^ h) x) → (∀ x ∈ O, Hq D (BB ^ (h + e)) x) → (0 < m → m - 1 + q.length ≤ R.length) → max (d + m * g) (h + m * (g + 1) + e) + 1 ≤ K →
    dvG K q m R ∧ ∃ D', 0 < D' ∧ D' ≤ BB ^ (d + m * g) ∧ (∀ x ∈ (dvO q m R O).1, Hq D' (BB ^ (h + m * (g + 1))) x) ∧ (∀ x ∈ (dvO q m R O).2, Hq D' (BB ^ (h + m * (g + 1) + e)) x) := by
  intro m
  induction m generalizing d with
  | zero =>
    intro D h R O hD hd hR hO _ _
    exact ⟨trivial, D, hD, by rw [Nat.zero_mul, Nat.add_zero]; exact hd, by rw [Nat.zero_mul, Nat.add_zero]; exact hR, by rw [Nat.zero_mul, Nat.add_zero]; exact hO⟩
  | succ k ih =>
    intro D h R O hD hd hR hO hk hK
    have hk' := hk (by omega)
    obtain ⟨a1, a2⟩ := dv_step (k := k) hR hq hs (by omega)
    have e1 : (k + 1) * g = g + k * g := by rw [Nat.succ_mul, Nat.add_comm]
    have e2 : (k + 1) * (g + 1) = (g + 1) + k * (g + 1) := by rw [Nat.succ_mul, Nat.add_comm]
    have hb : BB ^ h * (s + Y) ≤ BB ^ (h + (g + 1)) := Qcx (Nat.le_refl _) (Qqn hsB hYB)
    have hR' : ∀ x ∈ dvI R q k (dvF R q k) q.length, Hq (D * s) (BB ^ (h + (g + 1))) x := fun x hx => (a1 x hx).le hb
    have hO' : ∀ x ∈ O.set k (dvF R q k), Hq (D * s) (BB ^ (h + (g + 1) + e)) x := fun x hx => by
      rcases List.mem_or_eq_of_mem_set hx with h1 | h1
      · exact ((hO x h1).lift s).le (Nat.le_trans (Qcx (Nat.le_refl _) hsB) (QdE (by omega)))
      · rw [h1]
        exact a2.le (Nat.le_trans (Qcx (Nat.le_refl _) hEB) (QdE (by omega)))
    have := ih (d := d + g) (D * s) (h + (g + 1)) (dvI R q k (dvF R q k) q.length) (O.set k (dvF R q k)) (Nat.mul_pos hD hs0) (Qcx hd hsB) hR' hO' (fun _ => by rw [Qg2]; omega) (by
      rw [e1, e2] at hK; omega)
    obtain ⟨b1, D', b2, b3, b4, b5⟩ := this
    refine ⟨⟨fun x hx => ?_, b1⟩, D', b2, ?_, ?_, ?_⟩
    · have := Hq.sz hD hd (Nat.le_refl _) (hR x hx)
      rw [e1, e2] at hK; omega
    · rw [e1, ← Nat.add_assoc]; exact b3
    · rw [dvO, e2, ← Nat.add_assoc]; exact b4
    · rw [dvO, e2, ← Nat.add_assoc]; exact b5
theorem Qht {d h e g : Nat} {p q : List Rat} (Hp : HL d h p) (Hq' : HL e g q) (hq : Trm q) {K : Nat} (hK : max (d + dvN p q * g) (h + dvN p q * (g + 1) + e) + 1 ≤ K) : dvG K q (dvN p q) p ∧ HL (d + dvN p q * g) (h + dvN p q * (g + 1)) (remP p q) ∧ HL (d + dvN p q * g) (h + dvN p q * (g + 1) + e) (quoP p q) := by
 obtain ⟨D, a1, a2, a3⟩ := Hp
 obtain ⟨E, b1, b2, b3⟩ := Hq'
 by_cases hq0 : q = []
 ·have r1 : remP p q = [] := if_pos hq0
  have r2 : quoP p q = [] := if_pos hq0
  rw [r1, r2]
  refine ⟨?_, HL.nil _ _, HL.nil _ _⟩
  subst hq0
  have hg : ∀ (m : Nat) (R : List Rat), SzL K R → dvG K [] m R := by
   intro m
   induction m with
   | zero => intro R _; trivial
   | succ k ih => intro R hR; exact ⟨hR, ih _ hR⟩
  exact hg _ _ (fun x hx => Nat.le_trans ((a3 x hx).sz a1 a2 (Nat.le_refl _)) (by omega))
 ·obtain ⟨s, s1, s2, s3⟩ := Hq.ratio b1 (Qdm hq hq0) (Hq.getD b3 (q.length - 1))
  obtain ⟨c1, D', c2, c3, c4, c5⟩ := dv_all (d := d) (e := e) (g := g) (K := K) b3 s3 s1 s2 (Nat.le_refl _) b2 (dvN p q) D h p (List.replicate (dvN p q) 0) a1 a2 a3 (fun x hx => by rw [(List.mem_replicate.1 hx).2]; exact Hq.zero _ _) (fun hm => by unfold dvN at hm ⊢; omega) hK
  have r1 : remP p q = QbL (dvO q (dvN p q) p (List.replicate (dvN p q) 0)).1 := if_neg hq0
  have r2 : quoP p q = QbL (dvO q (dvN p q) p (List.replicate (dvN p q) 0)).2 := if_neg hq0
  rw [r1, r2]
  exact ⟨c1, HL.trim ⟨D', c2, c3, c4⟩, HL.trim ⟨D', c2, c3, c5⟩⟩
theorem Qil {d h : Nat} {l : List Rat} (H : HL d h l) (hl : Trm l) : HL h h (mnP l) := by
 unfold mnP
 split
 ·exact HL.nil _ _
 ·rename_i hne
  obtain ⟨D, a1, a2, a3⟩ := H
  obtain ⟨s, s1, s2, s3⟩ := Hq.ratio a1 (Qdm hl hne) (Hq.getD a3 (l.length - 1))
  refine HL.made s1 s2 (Nat.le_refl _) (fun k _ => ?_)
  have := s3 _ _ (Hq.getD a3 k)
  rw [Rat.div_def, Rat.one_mul]
  rwa [Rat.div_def] at this
end Go.AM

/- ref06: Div, Monic, Gcd, Free. -/
namespace Go.AM
open Go Go.RowKit

theorem H1_of_sz {q : Rat} {K : Nat} (h : sz q ≤ K) : H1 K K q := by
 have h1 : nd q.num ≤ K := Nat.le_trans (Nat.le_max_left _ _) h
 have h2 : nd (q.den : Int) ≤ K := Nat.le_trans (Nat.le_max_right _ _) h
 have hd := Hq.div (n := q.num) (d := (q.den : Int)) (by have := q.den_pos; omega)
 rw [Rat.num_divInt_den, Int.natAbs_natCast] at hd
 refine ⟨q.den, q.den_pos, ?_, hd.le (Nat.le_trans (Nat.le_of_lt (Qdi q.num)) (QdE h1))⟩
 have := Qdi (q.den : Int)
 rw [Int.natAbs_natCast] at this
 exact Nat.le_trans (Nat.le_of_lt this) (QdE h2)
variable [Its]

section
variable {dq : D} {q : List Rat} {K e g : Nat}
end
end Go.AM

/- How great the divisors are; ref06: Monic, Gcd, Free. -/
namespace Go.AM
open Go Go.RowKit

theorem QpN (l : List Rat) (a : Rat) (k : Nat) : (scP l a).getD k 0 = l.getD k 0 * a := by
 rw [scP, Qfk]
 by_cases h : k < l.length
 ·rw [QiP _ h]
 ·rw [QaU (by simp; omega), QaU (by omega), Rat.zero_mul]
theorem Qpc (l : List Rat) (k : Nat) : (deP l).getD k 0 = l.getD (k + 1) 0 * ((k + 1 : Nat) : Int) := by
 rw [deP, Qfk]
 by_cases h : k < l.length - 1
 ·rw [QiP _ h]
 ·rw [QaU (by simp; omega), QaU (by omega), Rat.zero_mul]
theorem Qlc {l : List Rat} {n : Nat} (h : l.getD n 0 ≠ 0) : n + 1 ≤ l.length := by
 by_cases h1 : n < l.length
 ·exact h1
 ·exact absurd (QaU (by omega)) h
theorem rinv_ne {x : Rat} (h : x ≠ 0) : 1 / x ≠ 0 := fun h0 => by
 have h1 : 1 / x * x = 1 := by rw [Rat.div_def, Rat.one_mul, Rat.inv_mul_cancel _ h]
 rw [h0, Rat.zero_mul] at h1
 exact absurd h1 (by decide)
theorem mn_getD {l : List Rat} (h : l ≠ []) (k : Nat) : (mnP l).getD k 0 = l.getD k 0 * (1 / l.getD (l.length - 1) 0) := by
 rw [mnP, if_neg h, QpN]
theorem Qdp {l : List Rat} (hl : Trm l) : (mnP l).length = l.length := by
 by_cases h : l = []
 ·subst h; rfl
 ·have h1 := Qf8 l
  have hp : 0 < l.length := List.length_pos_iff.2 h
  have h2 := Qdm hl h
  have h3 : (mnP l).getD (l.length - 1) 0 ≠ 0 := by
   rw [mn_getD h]
   intro h0
   rcases Rat.mul_eq_zero.1 h0 with h4 | h4
   ·exact h2 h4
   ·exact rinv_ne h2 h4
  have := Qlc h3
  omega
theorem cast_ne {n : Nat} (h : 0 < n) : (((n : Nat) : Int) : Rat) ≠ 0 := cN_ne h
theorem Qek {l : List Rat} (hl : Trm l) : (deP l).length = l.length - 1 := by
 have h1 := Qon l
 by_cases h : l.length ≤ 1
 ·omega
 ·have h2 := Qdm hl (fun h0 => by rw [h0] at h; simp at h)
  have h3 : (deP l).getD (l.length - 2) 0 ≠ 0 := by
   rw [Qpc, show l.length - 2 + 1 = l.length - 1 by omega]
   intro h0
   rcases Rat.mul_eq_zero.1 h0 with h4 | h4
   ·exact h2 h4
   ·exact cast_ne (by omega) h4
  have := Qlc h3
  omega
theorem QnK : ∀ d : Nat, d + 3 ≤ 3 ^ (d + 1)
 | 0 => by decide
 | d + 1 => by rw [Nat.pow_succ]; have := QnK d; omega
theorem QiW {a b : Nat} (h : a < b) : (b + 2 - a) * 3 ^ a ≤ 3 ^ b := by
 obtain ⟨d, rfl⟩ : ∃ d, b = d + 1 + a := ⟨b - 1 - a, by omega⟩
 rw [Nat.pow_add]
 refine Nat.mul_le_mul_right _ ?_
 have := QnK d
 omega
theorem trm_dv (a b : List Rat) : Trm (remP a b) := by
 unfold remP
 split
 ·exact Qeh
 ·exact Qb7 _
def gcH (K : Nat) : Nat → List Rat → List Rat → Prop
 | 0, _, b => b = []
 | n + 1, a, b => b = [] ∨ (HL K K b ∧ Trm b ∧ gcH K n b (mnP (remP a b)))
theorem QhB {K L : Nat} (h : K ≤ L) {q : List Rat} : ∀ (m : Nat) (R : List Rat), dvG K q m R → dvG L q m R
 | 0, _, _ => trivial
 | k + 1, R, hg => ⟨hg.1.mono h, QhB h k _ hg.2⟩
theorem Qkt {K L : Nat} (h : K ≤ L) : ∀ (n : Nat) (a b : List Rat), gcG K n a b → gcG L n a b
 | 0, _, _, hg => hg
 | n + 1, a, b, hg => hg.imp id fun ⟨h1, h2, h3, h4⟩ => ⟨h1.mono h, QhB h _ _ h2, h3.mono h, Qkt h n _ _ h4⟩
theorem Qra {K : Nat} : ∀ (n s : Nat) (a b : List Rat), HL s s a → HL s s b → Trm b → b.length < n → (s + 1) * (dvN a b + 1) * 3 ^ b.length ≤ K → gcG K n a b ∧ gcH K n a b ∧ HL K K (gcP n a b)
 | 0, _, _, b, _, _, _, h, _ => by omega
 | n + 1, s, a, b, Ha, Hb, tb, hn, hK => by
  have h3 : 1 ≤ 3 ^ b.length := Nat.one_le_pow _ _ (by decide)
  have hs : s + 1 ≤ K := Nat.le_trans (Nat.le_trans (Nat.le_mul_of_pos_right (s + 1) (by omega)) (Nat.le_mul_of_pos_right _ h3)) hK
  by_cases hb : b = []
  ·subst hb
   refine ⟨.inl rfl, .inl rfl, ?_⟩
   rw [gcP, if_pos rfl]
   exact Ha.mono (by omega) (by omega)
  ·have hlb : 0 < b.length := List.length_pos_iff.2 hb
   obtain ⟨_, q2, _, _⟩ := Qjv (p := a) tb hb
   have h33 : 3 * ((s + 1) * (dvN a b + 1)) ≤ K := by
    refine Nat.le_trans ?_ hK
    rw [Nat.mul_comm 3]
    refine Nat.mul_le_mul_left _ ?_
    obtain ⟨k, hk⟩ : ∃ k, b.length = k + 1 := ⟨b.length - 1, by omega⟩
    rw [hk, Nat.pow_succ]
    have : 1 ≤ 3 ^ k := Nat.one_le_pow _ _ (by decide)
    omega
   have hr := Qf8 (remP a b)
   have h3' : ((s + 1) * (dvN a b + 1)) * (dvN b (mnP (remP a b)) + 1) * 3 ^ (mnP (remP a b)).length ≤ K := by
    refine Nat.le_trans ?_ hK
    rw [Nat.mul_assoc]
    refine Nat.mul_le_mul_left _ (Nat.le_trans (Nat.le_of_eq ?_) (QiW (a := (mnP (remP a b)).length) (b := b.length) (by omega)))
    congr 1
    unfold dvN; omega
   have he : (s + 1) * (dvN a b + 1) = s * dvN a b + dvN a b + s + 1 := by rw [Nat.mul_add, Nat.add_mul, Nat.mul_one, Nat.one_mul]; omega
   have he2 : dvN a b * (s + 1) = s * dvN a b + dvN a b := by rw [Nat.mul_add, Nat.mul_one, Nat.mul_comm]
   have he3 : dvN a b * s = s * dvN a b := Nat.mul_comm _ _
   obtain ⟨g1, g2, _⟩ := Qht (K := K) Ha Hb tb (by rw [he2, he3]; omega)
   have hsz := g2.sz
   have g3 := Qil g2 (trm_dv a b)
   have e1 : s + dvN a b * (s + 1) + 1 = (s + 1) * (dvN a b + 1) := by omega
   obtain ⟨i1, i2, i3⟩ := Qra (K := K) n (s + dvN a b * (s + 1)) b (mnP (remP a b)) (Hb.mono (by omega) (by omega)) g3 (QeW _) (by omega) (by rw [e1]; exact h3')
   refine ⟨.inr ⟨Hb.sz.mono (by omega), g1, hsz.mono (by omega), i1⟩, .inr ⟨Hb.mono (by omega) (by omega), tb, i2⟩, ?_⟩
   rw [gcP, if_neg hb]
   exact i3
variable [Its]

end Go.AM

/- Boxes of whole numbers, folded. -/
namespace Go.AM
open Go Go.RowKit

def cI (x : Int) : List A := [.d (.v (.bool (decide (x < 0)))), .d (dg (digs x.natAbs))]
theorem one_encI (x : Int) : A.one (.d (encI x)) = false := rfl
theorem Qrq (x : Int) : Qax (.d (encI x)) = cI x := rfl
theorem dc_encI (x : Int) : Qce (.d (encI x)) = some [.v (.bool (decide (x < 0))), dg (digs x.natAbs)] := rfl
theorem all_cI (x : Int) : (cI x).all A.one = true := by
 simp only [cI, List.all_cons, List.all_nil, Qri, Qph, Bool.and_self]
theorem len_cI (x : Int) : (cI x).length = 2 := rfl
theorem refs_cI (ks : List Key) (x : Int) : QdU ks (cI x) = true := rfl
theorem ld_cI (x : Int) : Qaa (some 2) 0 (cI x) = some (.d (encI x)) := rfl
theorem ld_cI0 (x : Int) : Qaa none 0 (cI x) = some (.d (.v (.bool (decide (x < 0))))) := rfl
theorem ld_cI1 (x : Int) : Qaa none 1 (cI x) = some (.d (dg (digs x.natAbs))) := rfl
theorem st_cI (x y : Int) : Qab 0 (cI x) (cI y) = some (cI x) := rfl
theorem st_cIn (x : Int) (u v : A) : Qab 0 (cI x) [u, v] = some (cI x) := rfl
theorem ad_cI (x : Int) : allD (cI x) = some [.v (.bool (decide (x < 0))), dg (digs x.natAbs)] := rfl
theorem ag_encI (x : Int) : aggA (.d (encI x)) = some [.v (.bool (decide (x < 0))), dg (digs x.natAbs)] := rfl
attribute [go_sem] one_encI Qrq dc_encI all_cI len_cI refs_cI ld_cI ld_cI0 ld_cI1 st_cI st_cIn ad_cI ag_encI
end Go.AM

/- integer.Small, ref04.Small. -/
namespace Go.AM
open Go Go.RowKit

def au (u : Int) : A := .d (.v (.int .u64 u))
attribute [go_sem] au
variable [Its]

section
variable {x : Int} {l : List Int} (hl : digs x.natAbs = l)
end

end Go.AM

/- ref04.Small. -/
namespace Go.AM
open Go Go.RowKit

variable [Its]
section
variable {x : Int} {l : List Int}
end
end Go.AM

/- Square roots of whole numbers: Newton's step, and halving. -/
namespace Go.AM

end Go.AM

/- integer.Root, ref04.Root. -/
namespace Go.AM
open Go Go.RowKit

variable [Its]
end Go.AM

/- ref04.Root. -/
namespace Go.AM
open Go Go.RowKit
variable [Its]
end Go.AM

/- Points, directions, edges: rows of them; ref12's small functions. -/
namespace Go.AM
open Go Go.RowKit

/-! ### Rows of things of es cells -/
section
variable {α : Type} {en : α → List D} {es : Nat}
def rowE (en : α → List D) (l : List α) : D := .row l.length (l.flatMap en)
def RwE (en : α → List D) (d : D) (l : List α) : Prop := (d = .z true ∧ l = []) ∨ d = rowE en l
theorem QnV (hE : ∀ a, (en a).length = es) : ∀ (l : List α) (j : Nat), (l.flatMap en).drop (j * es) = (l.drop j).flatMap en
 | l, 0 => by simp
 | [], j + 1 => by simp
 | a :: l, j + 1 => by
  rw [List.flatMap_cons, List.drop_succ_cons, ← QnV hE l j, Nat.succ_mul, Nat.add_comm, ← List.drop_drop]
  rw [List.drop_left' (hE a)]
theorem RwE.len {d : D} {l : List α} (h : RwE en d l) : lenA (.d d) = some l.length := by
 rcases h with ⟨rfl, rfl⟩ | rfl <;> rfl
theorem RwE.ixa (hE : ∀ a, (en a).length = es) {d : D} {l : List α} (hr : RwE en d l) {j : Nat} (h1 : j < l.length) (h : Hp) : ixaA h es (j : Int) (.d d) = some (.d (.rp ((l.drop j).flatMap en))) := by
 rcases hr with ⟨rfl, rfl⟩ | rfl
 ·simp at h1
 ·simp only [rowE, ixaA, guardO]
  rw [if_pos ⟨by omega, by omega⟩]
  simp only [Int.toNat_natCast]
  rw [QnV hE]
end
theorem rep1_4 (a b c d : D) : rep 1 [a, b, c, d] = [a, b, c, d] := rfl
def g3 (dx dy h : Int) : Int := (Int.gcd (Int.gcd dx dy) h : Int)
variable [Its]
/-! ### Normals -/
/-! ### Moved shapes -/
/-! ### Shapes -/
end Go.AM

/- ref07: Changes, counted, Middle, halved. -/
namespace Go.AM
open Go Go.RowKit
def RwC (d : D) (ps : List (List Rat)) : Prop := ∃ ds : List D, ds.length = ps.length ∧ (∀ i, i < ps.length → RwR (ds.getD i (.z true)) (ps.getD i [])) ∧ (d = .row ds.length ds ∨ (d = .z true ∧ ds = []))
theorem RwC.len {d : D} {ps : List (List Rat)} (h : RwC d ps) : lenA (.d d) = some ps.length := by
 obtain ⟨ds, h1, _, rfl | ⟨rfl, rfl⟩⟩ := h
 ·rw [← h1]; rfl
 ·rw [← h1]; rfl
theorem RwC.nil : RwC (.z true) [] := ⟨[], rfl, fun i h => by simp at h, .inr ⟨rfl, rfl⟩⟩
theorem RwC.at {d : D} {ps : List (List Rat)} (h : RwC d ps) {i : Nat} (hi : i < ps.length) : ∃ x r, RwR x (ps.getD i []) ∧ (∀ hp, ixaA hp 1 (i : Int) (.d d) = some (.d (.rp r))) ∧ ∀ hp, Qcj hp none (.d (.rp r)) = some (.d x) := by
 obtain ⟨ds, h1, h2, rfl | ⟨rfl, rfl⟩⟩ := h
 ·refine ⟨ds.getD i (.z true), ds.drop i, h2 i hi, fun hp => ?_, fun hp => ?_⟩
  ·simp only [ixaA, guardO]
   rw [if_pos ⟨by omega, by omega⟩]
   simp
  ·rw [List.drop_eq_getElem_cons (show i < ds.length by omega)]
   simp only [Qcj, Qjg]
   rw [List.getD_eq_getElem?_getD, List.getElem?_eq_getElem (show i < ds.length by omega)]
   rfl
 ·rw [← h1] at hi; simp at hi
def sgn1 (p : List Rat) (x : Rat) : Int := Int.sign (evR p x).num
def sgs (ps : List (List Rat)) (x : Rat) : List Int := (ps.map fun p => sgn1 p x).filter fun s => decide (s ≠ 0)
def chN (S : List Int) : Nat → Nat
 | 0 => 0
 | i + 1 => chN S i + (if 1 ≤ i ∧ S.getD i 0 ≠ S.getD (i - 1) 0 then 1 else 0)
def chg (ps : List (List Rat)) (x : Rat) : Nat := chN (sgs ps x) (sgs ps x).length
def cnt (ps : List (List Rat)) (lo hi : Rat) : Int := if hi ≤ lo then 0 else (chg ps lo : Int) - (chg ps hi : Int)
def mid (lo hi : Rat) : Rat := (lo + hi) * Rat.divInt 1 2
def hal (ps : List (List Rat)) (l : Rat × Rat) : Rat × Rat := if cnt ps l.1 (mid l.1 l.2) = 1 then (l.1, mid l.1 l.2) else (mid l.1 l.2, l.2)
theorem sgs_snoc (ps : List (List Rat)) (x : Rat) {i : Nat} (hi : i < ps.length) : sgs (ps.take (i + 1)) x = if sgn1 (ps.getD i []) x ≠ 0 then sgs (ps.take i) x ++ [sgn1 (ps.getD i []) x] else sgs (ps.take i) x := by
 have e : ps.take (i + 1) = ps.take i ++ [ps.getD i []] := by
  rw [List.take_add_one, List.getD_eq_getElem?_getD, List.getElem?_eq_getElem hi]; rfl
 unfold sgs
 rw [e, List.map_append, List.filter_append, List.map_cons, List.map_nil]
 generalize ps.getD i [] = p
 by_cases h : sgn1 p x = 0
 ·rw [if_neg (by simp [h]), List.filter_cons_of_neg (by simp [h]), List.filter_nil, List.append_nil]
 ·rw [if_pos h, List.filter_cons_of_pos (by simp [h]), List.filter_nil]
theorem Qoh (ps : List (List Rat)) (x : Rat) : (sgs ps x).length ≤ ps.length := by
 unfold sgs
 exact Nat.le_trans (List.length_filter_le _ _) (by simp)
theorem Qmj (S : List Int) : ∀ i, chN S i ≤ i
 | 0 => Nat.le_refl _
 | i + 1 => by
  rw [chN]
  have := Qmj S i
  split <;> omega
theorem Qn0 {lo hi : Rat} {K L : Nat} (h1 : sz lo ≤ K) (h2 : sz hi ≤ L) : sz (mid lo hi) ≤ K + L + 5 := by
 unfold mid
 have z1 := Qmb (a := lo) (b := hi)
 have z2 := QhW (a := lo + hi) (b := Rat.divInt 1 2)
 have z3 := sz_of (n := 1) (d := 2) ⟨by omega, by omega⟩ ⟨by omega, by omega⟩
 omega
theorem st4q (a b c d i j k l : A) : Qab 0 [a, b, c, d] [i, j, k, l] = some [a, b, c, d] := rfl
theorem ld4q (a b c d : D) : Qaa (some 4) 0 [.d a, .d b, .d c, .d d] = some (.d (.agg [a, b, c, d])) := rfl
variable [Its]
section
variable {d : D} {ps : List (List Rat)} {x : Rat} {K : Nat}
end
end Go.AM

/- ref07: halved, within (of at most one), Chain. -/
namespace Go.AM
open Go Go.RowKit
def c2R (l : Rat × Rat) : List D := [.v (.bool (decide (l.1.num < 0))), dg (digs l.1.num.natAbs), .v (.bool false), dg (dd l.1.den), .v (.bool (decide (l.2.num < 0))), dg (digs l.2.num.natAbs), .v (.bool false), dg (dd l.2.den)]
def enc2 (l : Rat × Rat) : D := .agg (c2R l)
theorem st8q (a b c d e f g h i j k l m n o p : A) : Qab 0 [a, b, c, d, e, f, g, h] [i, j, k, l, m, n, o, p] = some [a, b, c, d, e, f, g, h] := rfl
theorem ld8q (a b c d e f g h : D) : Qaa (some 8) 0 [.d a, .d b, .d c, .d d, .d e, .d f, .d g, .d h] = some (.d (.agg [a, b, c, d, e, f, g, h])) := rfl
theorem QrC (a b c d e f g h : D) : Qaa (some 4) 0 [.d a, .d b, .d c, .d d, .d e, .d f, .d g, .d h] = some (.d (.agg [a, b, c, d])) := rfl
theorem QrF (a b c d e f g h : D) : Qaa (some 4) 4 [.d a, .d b, .d c, .d d, .d e, .d f, .d g, .d h] = some (.d (.agg [e, f, g, h])) := rfl
theorem RwR.one {d : D} {l : List Rat} (h : RwR d l) : A.one (.d d) = true := by rcases h with ⟨rfl, _⟩ | rfl <;> rfl
theorem RwR.cells {d : D} {l : List Rat} (h : RwR d l) : Qax (.d d) = [.d d] := by rcases h with ⟨rfl, _⟩ | rfl <;> rfl
theorem RwR.dc {d : D} {l : List Rat} (h : RwR d l) : d.one = true := by rcases h with ⟨rfl, _⟩ | rfl <;> rfl
theorem RwR.dcl {d : D} {l : List Rat} (h : RwR d l) : Qce (.d d) = some [d] := by rcases h with ⟨rfl, _⟩ | rfl <;> rfl
noncomputable def chL : Nat → List Rat → List Rat → List (List Rat)
 | 0, _, _ => []
 | n + 1, a, b => if b = [] then [] else b :: chL n b (scP (remP a b) (-1))
noncomputable def chP (p : List Rat) : List (List Rat) := if p = [] then [] else frP p :: chL p.length (frP p) (deP (frP p))
def ChOk (K : Nat) : Nat → List Rat → List Rat → Prop
 | 0, _, b => b = []
 | n + 1, a, b => b = [] ∨ (Trm b ∧ b.length ≤ 90 ∧ HL K K b ∧ SzL K b ∧ dvG K b (dvN a b) a ∧ SzL K (remP a b) ∧ ChOk K n b (scP (remP a b) (-1)))
def Dls (ds : List D) (ps : List (List Rat)) : Prop := ds.length = ps.length ∧ ∀ i, i < ps.length → RwR (ds.getD i (.z true)) (ps.getD i [])
theorem Dls.nil : Dls [] [] := ⟨rfl, fun i h => by simp at h⟩
theorem Dls.cons {d : D} {p : List Rat} {ds : List D} {ps : List (List Rat)} (h : RwR d p) (H : Dls ds ps) : Dls (d :: ds) (p :: ps) := by
 refine ⟨by simp [H.1], fun i hi => ?_⟩
 cases i with
 | zero => exact h
 | succ i => simpa using H.2 i (by simpa using hi)
theorem Dls.rwc {ds : List D} {ps : List (List Rat)} (h : Dls ds ps) : RwC (.row ds.length ds) ps := ⟨ds, h.1, h.2, .inl rfl⟩
theorem Qmx (ks : List Key) : ∀ ds : List D, QdU ks (ds.map A.d) = true
 | [] => rfl
 | x :: r => by rw [List.map_cons, QdU, Qmx ks r]; rfl
theorem i64_m1 : I64 (-1) := ⟨by omega, by omega⟩
theorem sz_m1 : sz (-1) ≤ 3 := sz_int (n := -1) i64_m1
variable [Its]
section
variable {d : D} {ps : List (List Rat)} {K : Nat}
end
end Go.AM

/- Comparisons of rationals, as decisions. -/
namespace Go.AM
open Go Go.RowKit
theorem cmpR_ge {a b : Rat} : decide (cmpR a b ≥ 0) = decide (b ≤ a) := by
 have h := cmpR_lt (a := a) (b := b)
 rw [Bool.eq_iff_iff, decide_eq_true_iff, decide_eq_true_iff]
 constructor
 ·intro h1
  exact Rat.not_lt.1 fun h2 => by have := h.2 h2; omega
 ·intro h1
  exact Int.not_lt.1 fun h2 => Rat.not_lt.2 h1 (h.1 h2)
theorem Qk7 {a b : Rat} : decide (cmpR a b > 0) = decide (b < a) := by
 have h := cmpR_le (a := a) (b := b)
 rw [Bool.eq_iff_iff, decide_eq_true_iff, decide_eq_true_iff]
 constructor
 ·intro h1
  exact Rat.not_le.1 fun h2 => by have := h.2 h2; omega
 ·intro h1
  exact Int.not_le.1 fun h2 => Rat.not_le.2 h1 (h.1 h2)
theorem sign_eq0 {x : Rat} : (Int.sign x.num == 0) = decide (x = 0) := by
 rw [Bool.eq_iff_iff, beq_iff_eq, decide_eq_true_iff, Int.sign_eq_zero_iff_zero]
 exact Rat.num_eq_zero
end Go.AM

/- sturm: next, Chain, Changes, counted, Count, middle. -/
namespace Go.AM
open Go Go.RowKit
theorem dvG_nil {K : Nat} {R : List Rat} (h : SzL K R) : ∀ n, dvG K [] n R
 | 0 => trivial
 | n + 1 => ⟨h, by
  have e : dvI R [] n (dvF R [] n) ([] : List Rat).length = R := rfl
  rw [e]
  exact dvG_nil h n⟩
theorem rem_nil (a : List Rat) : remP a [] = [] := if_pos rfl
noncomputable def chM : Nat → List Rat → List Rat → List (List Rat)
 | 0, _, _ => []
 | n + 1, a, b => if a = [] then [] else a :: chM n b (scP (remP a b) (-1))
theorem chM_L : ∀ (n : Nat) (a b : List Rat), chM (n + 1) a b = if a = [] then [] else a :: chL n a b
 | 0, a, b => rfl
 | n + 1, a, b => by
  rw [chM, chM_L n b, chL]
def Qoj (da db : D) (ds : List D) : St := mkS [(3, if ds = [] then .d (.z true) else .own [20] ds.length), (4, .d da), (5, .d db)] (if ds = [] then [] else [([20], ⟨1, ds.length, ds.map .d, false⟩)])
def QrQ (ds : List D) : St := mkS [(3, if ds = [] then .d (.z true) else .own [20] ds.length)] (if ds = [] then [] else [([20], ⟨1, ds.length, ds.map .d, false⟩)])
theorem QqN (da db : D) : Qoj da db [] = mkS [(3, .d (.z true)), (4, .d da), (5, .d db)] [] := rfl
theorem o7_ne (da db : D) {ds : List D} (h : ds ≠ []) : Qoj da db ds = mkS [(3, .own [20] ds.length), (4, .d da), (5, .d db)] [([20], ⟨1, ds.length, ds.map .d, false⟩)] := by
 unfold Qoj
 rw [if_neg h, if_neg h]
theorem QnM : QrQ [] = mkS [(3, .d (.z true))] [] := rfl
theorem Qqq {ds : List D} (h : ds ≠ []) : QrQ ds = mkS [(3, .own [20] ds.length)] [([20], ⟨1, ds.length, ds.map .d, false⟩)] := by
 unfold QrQ
 rw [if_neg h, if_neg h]
theorem ne_snoc (ds : List D) (d : D) : ds ++ [d] ≠ [] := by simp
def lstS (S : List Int) : Int := S.getD (S.length - 1) 0
def QnX (d : D) (x : Rat) (S : List Int) (n i : Int) : St := mkS [(3, .ptr [3] 0), (5, ai (chN S S.length)), (6, ai (lstS S)), (10, .d d), (11, ai n), (12, ai i)] [([3], boxR x)]
theorem chN_pre (S : List Int) (s : Int) : ∀ i, i ≤ S.length → chN (S ++ [s]) i = chN S i
  | 0, _ => rfl
  | i + 1, h => by
    rw [chN, chN, chN_pre S s i (by omega)]
    have e1 : (S ++ [s]).getD i 0 = S.getD i 0 := by
      rw [List.getD_eq_getElem?_getD, List.getD_eq_getElem?_getD, List.getElem?_append_left (by omega)]
    by_cases h0 : 1 ≤ i
    · have e2 : (S ++ [s]).getD (i - 1) 0 = S.getD (i - 1) 0 := by
        rw [List.getD_eq_getElem?_getD, List.getD_eq_getElem?_getD, List.getElem?_append_left (by omega)]
      rw [e1, e2]
    · rw [if_neg (fun h => h0 h.1), if_neg (fun h => h0 h.1)]
theorem chN_snoc (S : List Int) (s : Int) : chN (S ++ [s]) (S ++ [s]).length = chN S S.length + (if S ≠ [] ∧ s ≠ lstS S then 1 else 0) := by
 rw [List.length_append, List.length_singleton, chN, chN_pre S s _ (Nat.le_refl _)]
 have e1 : (S ++ [s]).getD S.length 0 = s := by
  rw [List.getD_eq_getElem?_getD, List.getElem?_append_right (Nat.le_refl _), Nat.sub_self]; rfl
 rw [e1]
 by_cases h : S = []
 ·subst h
  rw [if_neg (by simp), if_neg (fun h => h.1 rfl)]
 ·have hl : 0 < S.length := List.length_pos_iff.2 h
  have e2 : (S ++ [s]).getD (S.length - 1) 0 = lstS S := by
   unfold lstS
   rw [List.getD_eq_getElem?_getD, List.getD_eq_getElem?_getD, List.getElem?_append_left (by omega)]
  rw [e2]
  by_cases h2 : s = lstS S
  ·rw [if_neg (fun h => h.2 h2), if_neg (fun h => h.2 h2)]
  ·rw [if_pos ⟨by omega, h2⟩, if_pos ⟨h, h2⟩]
theorem lst_snoc (S : List Int) (s : Int) : lstS (S ++ [s]) = s := by
 unfold lstS
 rw [List.length_append, List.length_singleton, Nat.add_sub_cancel, List.getD_eq_getElem?_getD, List.getElem?_append_right (Nat.le_refl _), Nat.sub_self]; rfl
theorem sgn_pm (p : List Rat) (x : Rat) (h : sgn1 p x ≠ 0) : sgn1 p x = 1 ∨ sgn1 p x = -1 := by
 unfold sgn1 at *
 rcases Int.lt_trichotomy (evR p x).num 0 with k | k | k
 ·exact .inr (Int.sign_eq_neg_one_of_neg k)
 ·rw [k] at h; exact absurd rfl h
 ·exact .inl (Int.sign_eq_one_of_pos k)
theorem sgs_pm (ps : List (List Rat)) (x : Rat) : ∀ s ∈ sgs ps x, s = 1 ∨ s = -1 := by
 intro s hs
 unfold sgs at hs
 obtain ⟨h1, h2⟩ := List.mem_filter.1 hs
 obtain ⟨p, _, rfl⟩ := List.mem_map.1 h1
 exact sgn_pm p x (of_decide_eq_true h2)
theorem lst_pm {S : List Int} (h : ∀ s ∈ S, s = 1 ∨ s = -1) : (S = [] ∧ lstS S = 0) ∨ (S ≠ [] ∧ (lstS S = 1 ∨ lstS S = -1)) := by
 by_cases h0 : S = []
 ·exact .inl ⟨h0, by rw [h0]; rfl⟩
 ·have hl : 0 < S.length := List.length_pos_iff.2 h0
  refine .inr ⟨h0, h _ ?_⟩
  unfold lstS
  rw [List.getD_eq_getElem?_getD, List.getElem?_eq_getElem (show S.length - 1 < S.length by omega)]
  exact List.getElem_mem _
variable [Its]
theorem Qry        {da db : D} {a b : List Rat} {K : Nat} (ha : RwR da a) (hb : RwR db b) (na : a.length ≤ 1000) (nb : b.length ≤ 1000) (sb : SzL K b) (hg : dvG K b (dvN a b) a) (sr : SzL K (remP a b)) (hK1 : 3 ≤ K) (hK : K ≤ 1000000000) :
    ∃ d', RwR d' (scP (remP a b) (-1)) ∧ Qah G QjQ [da, db] = some (.d d') := by
  rw [Qad (cf := QjG) rfl]
  obtain ⟨d1, d2, h1, h2, g1⟩ := QdX ha hb (by omega) (by omega) sb (by omega) hK hg
  have o1 := Qea i64_m1 (d := 1) ⟨by omega, by omega⟩
  rw [Qdy, show (((-1 : Int)) : Rat) = -1 from rfl] at o1
  obtain ⟨d', h3, g2⟩ := Qhw (a := -1) h2 sr (Nat.le_trans sz_m1 hK1) (by omega) (by omega) (by have := Qky a b; omega)
  refine ⟨d', h3, ?_⟩
  generalize (-1 : Rat) = m1 at *
  clear h1 h2 h3 sb hg sr ha hb
  simp only [encR, iv] at o1 g2
  simp -implicitDefEqProofs (maxSteps:=9^8) only [QjG, o1, g1, g2, go_sem, iv, bv, reduceCtorEq, ↓reduceIte, Nat.reduceEqDiff]
section
variable {K : Nat}
theorem o7_go {da db : D} {a b : List Rat} {ds : List D} (ha : RwR da a) (hb : RwR db b) (na : a.length ≤ 90) (hne : a ≠ []) (nb : b.length ≤ 90) (sb : SzL K b) (hg : dvG K b (dvN a b) a) (sr : SzL K (remP a b)) (hK1 : 3 ≤ K) (hK : K ≤ 1000000000) (hds : ds.length ≤ 1000) :
    ∃ d', RwR d' (scP (remP a b) (-1)) ∧ X G QbG (Qoj da db ds) = some (.n, Qoj db d' (ds ++ [da])) := by
  obtain ⟨d', h3, g⟩ := Qry ha hb (by omega) (by omega) sb hg sr hK1 (by omega)
  refine ⟨d', h3, ?_⟩
  have la := ha.len
  have e1 : decide ((a.length : Int) > 0) = true := decide_eq_true (by have := List.length_pos_iff.2 hne; omega)
  have k2 := ha.dcl
  have k3 := ha.dc
  have r1 : rep 1 [da] = [da] := rfl
  rw [o7_ne db d' (ne_snoc ds da)]
  clear h3 hg sr sb ha hb
  by_cases h0 : ds = []
  · subst h0
    rw [QqN]
    have b0 : (24 ≤ bound) = True := eq_true (by unfold bound; omega)
    have b1 : (1 * 24 ≤ bound) = True := eq_true (by unfold bound; omega)
    simp -implicitDefEqProofs (maxSteps:=9^8) only [QbG, la, e1, k2, k3, r1, b0, b1, g, List.length_cons, List.length_nil, Nat.zero_add, List.map_cons, List.map_nil, Nat.mul_one, srcS, src, allD, Qf9, Qc7, QdU, List.all_cons, List.all_nil, Bool.and_self, Qac, go_sem, iv, bv, reduceCtorEq, ↓reduceIte, Nat.reduceEqDiff]
  · rw [o7_ne da db h0]
    have n4 : ((ds.length + 1) * 24 ≤ bound) = True := eq_true (by unfold bound; omega)
    have n5 : (ds ++ [da]).length = ds.length + 1 := by simp
    have n6 : (ds.map A.d) ++ [A.d da] = (ds ++ [da]).map A.d := by simp
    simp -implicitDefEqProofs (maxSteps:=9^8) only [QbG, la, e1, k2, k3, n4, n5, n6, r1, g, Qmx, List.length_map, Nat.mul_one, srcS, src, allD, Qf9, Qc7, List.all_cons, List.all_nil, Bool.and_self, Qac, go_sem, iv, bv, reduceCtorEq, ↓reduceIte, Nat.reduceEqDiff]
theorem QoQ {da db : D} {ds : List D} (ha : RwR da []) : X G QbG (Qoj da db ds) = some (.x 0, QrQ ds) := by
 have la := ha.len
 simp only [List.length_nil] at la
 have e1 : decide ((0 : Int) > 0) = false := rfl
 by_cases h0 : ds = []
 ·subst h0
  rw [QqN, QnM]
  simp -implicitDefEqProofs (maxSteps:=9^8) only [QbG, la, e1, Qac, go_sem, iv, bv, reduceCtorEq, ↓reduceIte, Nat.reduceEqDiff]
 ·rw [o7_ne da db h0, Qqq h0]
  simp -implicitDefEqProofs (maxSteps:=9^8) only [QbG, la, e1, Qmx, Qac, go_sem, iv, bv, reduceCtorEq, ↓reduceIte, Nat.reduceEqDiff]
theorem o7_loop (hK1 : 3 ≤ K) (hK : K ≤ 1000000000) : ∀ (n : Nat) (a b : List Rat) (da db : D) (ds : List D), RwR da a → RwR db b → SzL K a → a.length ≤ 90 → ChOk K n a b → ds.length + n ≤ 900 →
    ∃ es, Dls es (chM (n + 1) a b) ∧ X G (.loop QbG) (Qoj da db ds) = some (.x 0, QrQ (ds ++ es))
  | n, a, b, da, db, ds, ha, hb, sa, na, hc, hl => by
    by_cases ha0 : a = []
    · subst ha0
      rw [chM, if_pos rfl]
      exact ⟨[], Dls.nil, by rw [Qak, QoQ ha, List.append_nil]; rfl⟩
    · by_cases hb0 : b = []
      · subst hb0
        obtain ⟨d', h', hx⟩ := o7_go ha hb na ha0 (by simp) (fun q hq => by simp at hq) (dvG_nil sa _) (by rw [rem_nil]; exact fun q hq => by simp at hq) hK1 hK (ds := ds) (by omega)
        refine ⟨[da], ?_, ?_⟩
        · have e : chM (n + 1) a [] = [a] := by
            rw [chM_L, if_neg ha0]
            cases n with
            | zero => rfl
            | succ n => rw [chL, if_pos rfl]
          rw [e]
          exact Dls.cons ha Dls.nil
        · rw [Qak, hx, Option.bind_some, if_pos rfl, Qak, QoQ hb]; rfl
      · cases n with
        | zero => exact absurd hc hb0
        | succ n =>
          rcases hc with hc | ⟨c1, c2, c3, c4, c5, c6, c7⟩
          · exact absurd hc hb0
          · obtain ⟨d', h', hx⟩ := o7_go ha hb na ha0 c2 c4 c5 c6 hK1 hK (ds := ds) (by omega)
            obtain ⟨es, he, hl2⟩ := o7_loop hK1 hK n b _ db d' (ds ++ [da]) hb h' c4 c2 c7 (by rw [List.length_append, List.length_singleton]; omega)
            refine ⟨da :: es, ?_, ?_⟩
            · rw [chM, if_neg ha0]
              exact Dls.cons ha he
            · rw [Qak, hx, Option.bind_some, if_pos rfl, hl2, List.append_assoc]; rfl
theorem Qgy         {dp : D} {p : List Rat} (hp0 : p ≠ []) (np : p.length ≤ 90) (hF : ∃ d', RwR d' (frP p) ∧ Qah   G QbB         [dp] = some (.d d')) (hf0 : frP p ≠ []) (nf : (frP p).length ≤ 90) (sf : SzL K (frP p)) (hc : ChOk K p.length (frP p) (deP (frP p))) (hK1 : 3 ≤ K) (hK : K ≤ 1000000000) :
    ∃ ds, Dls ds (chP p) ∧ Qah G QbW [dp] = some (.own 1 ds.length ds) := by
  rw [Qad (cf := Qe9) rfl]
  obtain ⟨da, ha, g1⟩ := hF
  obtain ⟨db, hb, g2⟩ := Qgw ha sf (by omega) (by omega) (by omega)
  obtain ⟨es, he, g3⟩ := o7_loop hK1 hK p.length (frP p) (deP (frP p)) da db [] ha hb sf nf hc (by simp; omega)
  have ec : chM (p.length + 1) (frP p) (deP (frP p)) = chP p := by
    rw [chM_L, if_neg hf0]
    unfold chP
    rw [if_neg hp0]
  rw [ec] at he
  refine ⟨es, he, ?_⟩
  have hes : es ≠ [] := fun h => by
    have h1 := he.1
    rw [h] at h1
    unfold chP at h1
    rw [if_neg hp0] at h1
    simp at h1
  have n7 : allD (es.map A.d) = some es := Qfj _
  rw [QqN, List.nil_append, Qqq hes] at g3
  simp only [go_sem] at g3
  clear he hc sf ha hb
  simp -implicitDefEqProofs (maxSteps:=9^8) only [Qe9, g1, g2, g3, n7, Qmx, Qac, go_sem, iv, bv, reduceCtorEq, ↓reduceIte, Nat.reduceEqDiff]
end
section
variable {d : D} {ps : List (List Rat)} {x : Rat} {K : Nat}
theorem d7_go [ItsB] (hr : RwC d ps) (hn : ps.length ≤ 1000) (hs : ∀ p ∈ ps, SzL K p ∧ p.length * (2 * K + 1) ≤ 40000000000) (hx : sz x ≤ K) (hK : K ≤ 1000000000) {i : Nat} (hi : i < ps.length) :
    X G Qbu (QnX d x (sgs (ps.take i) x) ps.length i) = some (.n, QnX d x (sgs (ps.take (i + 1)) x) ps.length ((i + 1 : Nat) : Int)) := by
  have e1 : decide ((i : Int) < (ps.length : Int)) = true := lt_t (by omega)
  have e2 : w64 ((i : Int) + 1) = ((i + 1 : Nat) : Int) := by rw [Qaf (by omega) (by omega)]; rfl
  obtain ⟨y, r, hy, x1, x2⟩ := hr.at hi
  have hp := hs (ps.getD i []) (by rw [List.getD_eq_getElem?_getD, List.getElem?_eq_getElem hi]; exact List.getElem_mem hi)
  have hlen := Qoh (ps.take i) x
  rw [List.length_take] at hlen
  have hpm := lst_pm (sgs_pm (ps.take i) x)
  have hcl := Qmj (sgs (ps.take i) x) (sgs (ps.take i) x).length
  have sn := sgn_pm (ps.getD i []) x
  rw [sgs_snoc ps x hi]
  generalize ps.getD i [] = p at *
  generalize sgs (ps.take i) x = S at *
  have g1 := QkO hy hx (by omega) hp.1 hp.2
  have g2 := Qcp (evR p x)
  have es : Int.sign (evR p x).num = sgn1 p x := rfl
  rw [es] at g2
  clear es hs hp hx hr
  generalize sgn1 p x = s at *
  generalize evR p x = v at *
  simp only [encR, iv] at g1 g2
  by_cases h0 : s = 0
  · have t : (s != 0) = false := bne_f h0
    rw [if_neg (by simp [h0])]
    generalize chN S S.length = n at *
    generalize lstS S = l at *
    simp -implicitDefEqProofs (maxSteps:=9^8) only [Qbu, QnX, boxR, x1, x2, g1, g2, t, e1, e2, ld4q, Qac, go_sem, iv, bv, reduceCtorEq, ↓reduceIte, Nat.reduceEqDiff]
  · have t : (s != 0) = true := bne_t h0
    have sn := sn h0
    rw [if_pos h0]
    unfold QnX
    rw [chN_snoc, lst_snoc]
    generalize chN S S.length = n at *
    have en : w64 (0 - lstS S) = -(lstS S) := by rw [Qaf (by omega) (by omega)]; omega
    by_cases hc : S ≠ [] ∧ s ≠ lstS S
    · have t2 : (s == -(lstS S)) = true := by
        rw [beq_iff_eq]
        rcases hpm with ⟨h1, _⟩ | ⟨_, h1⟩
        · exact absurd h1 hc.1
        · have := hc.2
          omega
      have e4 : w64 ((n : Int) + 1) = ((n + 1 : Nat) : Int) := by rw [Qaf (by omega) (by omega)]; rfl
      rw [if_pos hc]
      generalize lstS S = l at *
      simp -implicitDefEqProofs (maxSteps:=9^8) only [Qbu, boxR, x1, x2, g1, g2, t, t2, en, e1, e2, e4, ld4q, Qac, go_sem, iv, bv, reduceCtorEq, ↓reduceIte, Nat.reduceEqDiff]
    · have t2 : (s == -(lstS S)) = false := by
        refine Qco ?_
        rcases hpm with ⟨_, h1⟩ | ⟨h2, h1⟩
        · omega
        · have : s = lstS S := Classical.byContradiction fun h => hc ⟨h2, h⟩
          omega
      rw [if_neg hc, Nat.add_zero]
      generalize lstS S = l at *
      simp -implicitDefEqProofs (maxSteps:=9^8) only [Qbu, boxR, x1, x2, g1, g2, t, t2, en, e1, e2, ld4q, Qac, go_sem, iv, bv, reduceCtorEq, ↓reduceIte, Nat.reduceEqDiff]
theorem d7_stop {S : List Int} {n : Nat} : X G Qbu (QnX d x S n n) = some (.x 0, mkS [(5, ai (chN S S.length))] []) := by
 have e1 : decide ((n : Int) < (n : Int)) = false := lt_f (by omega)
 simp -implicitDefEqProofs (maxSteps:=9^8) only [Qbu, QnX, boxR, e1, Qac, go_sem, iv, bv, reduceCtorEq, ↓reduceIte, Nat.reduceEqDiff]
theorem d7_loop [ItsB] (hr : RwC d ps) (hn : ps.length ≤ 1000) (hs : ∀ p ∈ ps, SzL K p ∧ p.length * (2 * K + 1) ≤ 40000000000) (hx : sz x ≤ K) (hK : K ≤ 1000000000) : ∀ (j i : Nat), i + j = ps.length →
    X G (.loop Qbu) (QnX d x (sgs (ps.take i) x) ps.length i) = some (.x 0, mkS [(5, ai (chg ps x))] [])
  | 0, i, h => by
    have : i = ps.length := by omega
    subst this
    rw [Qak, d7_stop, List.take_length]; rfl
  | j + 1, i, h => by
    rw [Qak, d7_go hr hn hs hx hK (by omega), Option.bind_some, if_pos rfl]
    exact d7_loop hr hn hs hx hK j (i + 1) (by omega)
theorem QhZ [ItsB] (hr : RwC d ps) (hn : ps.length ≤ 1000) (hs : ∀ p ∈ ps, SzL K p ∧ p.length * (2 * K + 1) ≤ 40000000000) (hx : sz x ≤ K) (hK : K ≤ 1000000000) : Qah G Qfe [d, encR x] = some (.d (iv (chg ps x))) := by
 rw [Qad (cf := QgX) rfl]
 have g := d7_loop hr hn hs hx hK ps.length 0 (by omega)
 have ll := hr.len
 have e0 : sgs (ps.take 0) x = [] := rfl
 have e1 : ((chN [] 0 : Nat) : Int) = 0 := rfl
 have e2 : lstS [] = 0 := rfl
 rw [e0] at g
 generalize chg ps x = c at *
 simp only [QnX, boxR, e1, e2, nc0, go_sem] at g
 simp -implicitDefEqProofs (maxSteps:=9^8) only [QgX, encR, g, ll, Qac, go_sem, iv, bv, reduceCtorEq, ↓reduceIte, Nat.reduceEqDiff]
theorem QfY [ItsB] (hr : RwC d ps) (hn : ps.length ≤ 1000) (hs : ∀ p ∈ ps, SzL K p ∧ p.length * (2 * K + 1) ≤ 40000000000) {lo hi : Rat} (h1 : sz lo ≤ K) (h2 : sz hi ≤ K) (hK : K ≤ 1000000000) : Qah G Qe8 [d, encR lo, encR hi] = some (.d (iv (cnt ps lo hi))) := by
 rw [Qad (cf := Qe2) rfl]
 have g0 := QcP (a := lo) (b := hi) (by omega) (by omega)
 have g1 := QhZ hr hn hs h1 hK
 have g2 := QhZ hr hn hs h2 hK
 have c1 : chg ps lo ≤ 1000 := Nat.le_trans (Qmj _ _) (Nat.le_trans (Qoh ps lo) hn)
 have c2 : chg ps hi ≤ 1000 := Nat.le_trans (Qmj _ _) (Nat.le_trans (Qoh ps hi) hn)
 have t0 := cmpR_ge (a := lo) (b := hi)
 unfold cnt
 generalize chg ps lo = a at *
 generalize chg ps hi = b at *
 obtain ⟨z, hz⟩ : ∃ z, (a : Int) - (b : Int) = z := ⟨_, rfl⟩
 have e : w64 ((a : Int) - (b : Int)) = z := by rw [Qaf (by omega) (by omega), hz]
 rw [hz]
 generalize cmpR lo hi = c at *
 simp only [encR, iv] at g0 g1 g2
 by_cases h : hi ≤ lo
 ·rw [if_pos h]
  rw [decide_eq_true h] at t0
  simp -implicitDefEqProofs (maxSteps:=9^8) only [Qe2, encR, g0, t0, ld4q, Qac, go_sem, iv, bv, reduceCtorEq, ↓reduceIte, Nat.reduceEqDiff]
 ·rw [if_neg h]
  rw [decide_eq_false h] at t0
  simp -implicitDefEqProofs (maxSteps:=9^8) only [Qe2, encR, g0, g1, g2, t0, e, ld4q, Qac, go_sem, iv, bv, reduceCtorEq, ↓reduceIte, Nat.reduceEqDiff]
end
theorem QfJ          [ItsB] {dp : D} {p : List Rat} {K : Nat} (hC : ∃ ds, Dls ds (chP p) ∧ Qah   G QbW           [dp] = some (.own 1 ds.length ds)) (hn : (chP p).length ≤ 1000) (hs : ∀ q ∈ chP p, SzL K q ∧ q.length * (2 * K + 1) ≤ 40000000000) {lo hi : Rat} (h1 : sz lo ≤ K) (h2 : sz hi ≤ K) (hK : K ≤ 1000000000) :
    Qah G Qbq [dp, encR lo, encR hi] = some (.d (iv (cnt (chP p) lo hi))) := by
  rw [Qad (cf := Qfm) rfl]
  obtain ⟨ds, hd, g1⟩ := hC
  have g2 := QfY hd.rwc hn hs h1 h2 hK
  generalize cnt (chP p) lo hi = c at *
  simp only [encR, iv] at g2
  simp -implicitDefEqProofs (maxSteps:=9^8) only [Qfm, encR, g1, g2, ld4q, Qac, go_sem, iv, bv, reduceCtorEq, ↓reduceIte, Nat.reduceEqDiff]
theorem QkG {l : Rat × Rat} (h1 : sz l.1 ≤ 1000000000) (h2 : sz l.2 ≤ 1000000000) : Qah G Qf6 [enc2 l] = some (.d (encR (mid l.1 l.2))) := by
 rw [Qad (cf := Qg9) rfl]
 have g1 := Qfr (a := l.1) (b := l.2) (by omega) (by omega)
 have g2 := Qea (n := 1) (d := 2) ⟨by omega, by omega⟩ ⟨by omega, by omega⟩
 have z1 := Qmb (a := l.1) (b := l.2)
 have z3 := sz_of (n := 1) (d := 2) ⟨by omega, by omega⟩ ⟨by omega, by omega⟩
 have g3 := Qds (a := l.1 + l.2) (b := Rat.divInt 1 2) (by omega) (by omega)
 unfold mid
 generalize (l.1 + l.2) * Rat.divInt 1 2 = r at *
 generalize l.1 + l.2 = s at *
 generalize Rat.divInt 1 2 = t at *
 obtain ⟨lo, hi⟩ := l
 simp only [encR, iv] at g1 g2 g3
 simp -implicitDefEqProofs (maxSteps:=9^8) only [Qg9, enc2, c2R, encR, g1, g2, g3, st4q, ld4q, st8q, QrC, QrF, Qac, go_sem, iv, bv, reduceCtorEq, ↓reduceIte, Nat.reduceEqDiff]
theorem Qec [ItsB] {d : D} {p : List Rat} {x : Rat} {K : Nat} (hr : RwR d p) (hx : sz x ≤ K) (hK : K ≤ 1000000) (sp : SzL K p) (np : p.length ≤ 100) : Qah G Qfn [encR x, .rp [d]] = some (.d (bv (decide (evR p x < 0)))) := by
 rw [Qad (cf := QgY) rfl]
 have zb : p.length * (2 * K + 1) ≤ 100 * (2 * 1000000 + 1) := Nat.mul_le_mul np (by omega)
 have g1 := QkO hr hx (by omega) sp (by omega)
 have g2 := Qcp (evR p x)
 rw [← sign_lt]
 generalize evR p x = v at *
 generalize Int.sign v.num = s at *
 simp only [encR, iv] at g1 g2
 simp -implicitDefEqProofs (maxSteps:=9^8) only [QgY, encR, Qj8, g1, g2, ld4q, Qac, go_sem, iv, bv, reduceCtorEq, ↓reduceIte, Nat.reduceEqDiff]
end Go.AM

/- sturm.Stays, sturm.odd, ref07.Same, law07.num: walked in general. -/
namespace Go.AM
open Go Go.RowKit
def Qls (a b : D) : St := mkS [(3, .d a), (4, .d b)] []
def QeX (dp : D) (z x : Rat) (n i : Int) : St := mkS [(4, .ptr [4] 0), (7, .d (.fn Qfn [.rp [dp]])), (10, .ptr [10] 0), (50, ai n), (51, ai i)] [([4], boxR z), ([10], boxR x)]
def Qk2 (d e : D) (i : Int) : St := mkS [(0, .d d), (1, .d e), (5, ai i)] []
theorem rep1_4S (a b c d : D) : rep 1 [a, b, c, d] = [a, b, c, d] := rfl
theorem tupS : A.bool? (.d (.v (.tuple #[]))) = none := rfl
section
variable [Its]
theorem QdP {n : Int} (hn : I64 n) : Qah G Qay [iv n] = some (.d (encR (n : Rat))) := by
 rw [Qad (cf := Qfs) rfl]
 have o := QgE (n := n) (d := 1) hn ⟨by omega, by omega⟩
 rw [Qdy] at o
 generalize (n : Rat) = q at *
 simp only [encR, iv] at o
 simp -implicitDefEqProofs (maxSteps:=9^8) only [Qfs, encR, o, st4q, ld4q, Qaa, Qac, go_sem, iv, bv, reduceCtorEq, ↓reduceIte, Nat.reduceEqDiff]
theorem odg_stop {d1 d2 : D} {r : List Rat} (hr : RwR d2 r) (h : r.length ≤ 1) : X G Qbh (Qls d1 d2) = some (.x 0, mkS [(3, .d d1)] []) := by
 have l := hr.len
 have e : decide ((r.length : Int) > 1) = false := decide_eq_false (by omega)
 simp -implicitDefEqProofs (maxSteps:=9^8) only [Qbh, Qls, l, e, go_sem, iv, bv, reduceCtorEq, ↓reduceIte, Nat.reduceEqDiff]
theorem odg_go {d1 d2 a1 a2 a2' a3 a4 a5 a5' a6 a7 a7' : D} {r : List Rat} (h2 : RwR d2 r) (n1 : 1 < r.length)
    (g1 : Qah G QbB [d2] = some (.d a1)) (g2 : Qah G QbM [d2, a1] = some (.d (.tup [a2, a2']))) (g3 : Qah G QbB [a2] = some (.d a3)) (g4 : Qah G Qgi [a1, a3] = some (.d a4))
    (g5 : Qah G QbM [a1, a4] = some (.d (.tup [a5, a5']))) (g6 : Qah G Qga [d1, a5] = some (.d a6)) (g7 : Qah G QbM [a2, a3] = some (.d (.tup [a7, a7']))) : X G Qbh (Qls d1 d2) = some (.n, Qls a6 a7) := by
  have l := h2.len
  have e : decide ((r.length : Int) > 1) = true := decide_eq_true (by omega)
  simp -implicitDefEqProofs (maxSteps:=9^8) only [Qbh, Qls, l, e, g1, g2, g3, g4, g5, g6, g7, go_sem, iv, bv, reduceCtorEq, ↓reduceIte, Nat.reduceEqDiff]
theorem odg_end {dp d1 : D} (h : X G (.loop Qbh) (Qls (rowR [1]) dp) = some (.x 0, mkS [(3, .d d1)] [])) : Qah G Qcr [dp] = some (.d d1) := by
 rw [Qad (cf := Qha) rfl]
 have o := Qea (n := 1) (d := 1) ⟨by omega, by omega⟩ ⟨by omega, by omega⟩
 rw [Qdy, show ((1 : Int) : Rat) = 1 from rfl] at o
 have ea : rowR [1] = .row 1 [.v (.bool (decide ((1 : Rat).num < 0))), dg (digs (1 : Rat).num.natAbs), .v (.bool false), dg (dd (1 : Rat).den)] := rfl
 rw [ea] at h
 generalize (1 : Rat) = q at *
 simp only [encR, iv] at o
 simp only [Qls, go_sem] at h
 simp -implicitDefEqProofs (maxSteps:=9^8) only [Qha, encR, o, h, rep1_4S, Qf9, Qc7, Qac, go_sem, iv, bv, reduceCtorEq, ↓reduceIte, Nat.reduceEqDiff]
theorem Qqc {dp : D} {z x : Rat} {n : Nat} : X G Qa9 (QeX dp z x n n) = some (.x 0, mkS [] []) := by
 have e1 : decide ((n : Int) < (n : Int)) = false := lt_f (by omega)
 simp -implicitDefEqProofs (maxSteps:=9^8) only [Qa9, QeX, boxR, e1, Qac, go_sem, iv, bv, reduceCtorEq, ↓reduceIte, Nat.reduceEqDiff]
/-! Same -/
theorem sm7_go {d e : D} {ps : List (List Rat)} (hd : RwC d ps) (he : RwC e ps) (hn : ps.length ≤ 1000) (hs : ∀ p ∈ ps, SzL 100000000000 p ∧ p.length ≤ 1000) {i : Nat} (hi : i < ps.length) : X G QbC (Qk2 d e i) = some (.n, Qk2 d e ((i + 1 : Nat) : Int)) := by
 have e1 : decide ((i : Int) < (ps.length : Int)) = true := lt_t (by omega)
 have e2 : w64 ((i : Int) + 1) = ((i + 1 : Nat) : Int) := by rw [Qaf (by omega) (by omega)]; rfl
 have ll := hd.len
 obtain ⟨x, rx, hx, x1, x2⟩ := hd.at hi
 obtain ⟨y, ry, hy, y1, y2⟩ := he.at hi
 have hp := hs (ps.getD i []) (by rw [List.getD_eq_getElem?_getD, List.getElem?_eq_getElem hi]; exact List.getElem_mem hi)
 have g := s6_refl hx hy hp.1 (by omega)
 simp only [bv] at g
 simp -implicitDefEqProofs (maxSteps:=9^8) only [QbC, Qk2, ll, x1, x2, y1, y2, g, e1, e2, go_sem, iv, bv, reduceCtorEq, ↓reduceIte, Nat.reduceEqDiff]
theorem sm7_stop {d e : D} {ps : List (List Rat)} (hd : RwC d ps) : X G QbC (Qk2 d e ps.length) = some (.x 0, mkS [] []) := by
 have e1 : decide ((ps.length : Int) < (ps.length : Int)) = false := lt_f (by omega)
 have ll := hd.len
 simp -implicitDefEqProofs (maxSteps:=9^8) only [QbC, Qk2, ll, e1, go_sem, iv, bv, reduceCtorEq, ↓reduceIte, Nat.reduceEqDiff]
theorem Qqv {d e : D} {ps : List (List Rat)} (hd : RwC d ps) (he : RwC e ps) (hn : ps.length ≤ 1000) (hs : ∀ p ∈ ps, SzL 100000000000 p ∧ p.length ≤ 1000) : ∀ (j i : Nat), i + j = ps.length → X G (.loop QbC) (Qk2 d e i) = some (.x 0, mkS [] [])
 | 0, i, h => by
  have : i = ps.length := by omega
  subst this
  rw [Qak, sm7_stop hd]; rfl
 | j + 1, i, h => by
  rw [Qak, sm7_go hd he hn hs (by omega), Option.bind_some, if_pos rfl]
  exact Qqv hd he hn hs j (i + 1) (by omega)
theorem Qr8 {d e : D} {ps : List (List Rat)} (hd : RwC d ps) (he : RwC e ps) (hn : ps.length ≤ 1000) (hs : ∀ p ∈ ps, SzL 100000000000 p ∧ p.length ≤ 1000) : Qah G QfS [d, e] = some (.d (bv true)) := by
 rw [Qad (cf := QeR) rfl]
 have g := Qqv hd he hn hs ps.length 0 (by omega)
 have l1 := hd.len
 have l2 := he.len
 have t : ((ps.length : Int) != (ps.length : Int)) = false := bne_f rfl
 simp only [Qk2, nc0, go_sem] at g
 simp -implicitDefEqProofs (maxSteps:=9^8) only [QeR, l1, l2, t, g, go_sem, iv, bv, reduceCtorEq, ↓reduceIte, Nat.reduceEqDiff]
end
section
variable [Its] [ItsB] {dp : D} {p : List Rat} {K : Nat}
theorem QoA    (hr : RwR dp p) (sp : SzL K p) (np : p.length ≤ 100) (hK : K ≤ 1000000) {z x : Rat} (hz : sz z ≤ 100) (hx : sz x ≤ 100) (h205 : 205 ≤ K) {n i : Nat} (hi : i < n) (hn : n ≤ 100) :
    X G Qa9 (QeX dp z x n i) = if evR p (mid z x) < 0 then some (.r, mkS [(6, ab false)] []) else some (.n, QeX dp z (mid z x) n ((i + 1 : Nat) : Int)) := by
  have e1 : decide ((i : Int) < (n : Int)) = true := lt_t (by omega)
  have e2 : w64 ((i : Int) + 1) = ((i + 1 : Nat) : Int) := by rw [Qaf (by omega) (by omega)]; rfl
  have g1 := QkG (l := (z, x)) (by dsimp only; omega) (by dsimp only; omega)
  have zm := Qn0 hz hx
  have g2 := Qec hr (x := mid z x) (K := K) (by omega) (by omega) sp (by omega)
  clear sp hz hx zm hr
  dsimp only at g1
  generalize mid z x = m at *
  generalize evR p m = v at *
  simp only [encR, enc2, c2R, iv] at g1 g2
  by_cases h : v < 0
  · rw [decide_eq_true h] at g2
    rw [if_pos h]
    simp -implicitDefEqProofs (maxSteps:=9^8) only [Qa9, QeX, boxR, g1, g2, e1, e2, Qf9, Qc7, st4q, ld4q, st8q, QrC, QrF, Qac, go_sem, iv, bv, reduceCtorEq, ↓reduceIte, Nat.reduceEqDiff]
  · rw [decide_eq_false h] at g2
    rw [if_neg h]
    simp -implicitDefEqProofs (maxSteps:=9^8) only [Qa9, QeX, boxR, g1, g2, e1, e2, Qf9, Qc7, st4q, ld4q, st8q, QrC, QrF, Qac, go_sem, iv, bv, reduceCtorEq, ↓reduceIte, Nat.reduceEqDiff]
theorem QlN (hr : RwR dp p) (sp : SzL K p) (np : p.length ≤ 100) (hK : K ≤ 1000000) (hp0 : p ≠ []) {lo hi : Rat} (hl : lo ≤ hi) (z1 : sz lo ≤ K) (z2 : sz hi ≤ K) (h : evR p lo < 0) : Qah G QaZ [dp, encR lo, encR hi] = some (.d (bv false)) := by
 rw [Qad (cf := QaS) rfl]
 have g := QcP (a := lo) (b := hi) (by omega) (by omega)
 have t := Qk7 (a := lo) (b := hi)
 rw [decide_eq_false (Rat.not_lt.2 hl)] at t
 have hl := hr.len
 have c1 := hr.one
 have c2 := hr.cells
 have c3 := hr.dc
 have c4 := hr.dcl
 have g0 := Qec hr (x := lo) z1 hK sp np
 rw [decide_eq_true h] at g0
 have t2 : ((p.length : Int) == 0) = false := Qco (by have := List.length_pos_iff.2 hp0; omega)
 clear sp hr h
 generalize cmpR lo hi = c at *
 simp only [encR, iv] at g g0
 simp -implicitDefEqProofs (maxSteps:=9^8) only [QaS, encR, g, g0, t, hl, t2, c1, c2, c3, c4, toDs, allD, snap, Qb3, Qaa, Qab, ld4q, decide_true, decide_false, tupS, Qac, go_sem, iv, bv, reduceCtorEq, ↓reduceIte, Nat.reduceEqDiff]
theorem Qlw         (hr : RwR dp p) (sp : SzL K p) (np : p.length ≤ 100) (hK : K ≤ 1000000) (hp0 : p ≠ []) {lo hi : Rat} (hl : lo ≤ hi) (z1 : sz lo ≤ K) (z2 : sz hi ≤ K) (h0 : 0 ≤ evR p lo) (h1 : 0 ≤ evR p hi)
    {dg : D} (g2 : Qah G Qcr [dp] = some (.d dg)) (g3 : Qah G Qbq [dg, encR lo, encR hi] = some (.d (iv 0))) (lp : X G (.loop Qa9) (QeX dp lo hi p.length 0) = some (.x 0, mkS [] [])) : Qah G QaZ [dp, encR lo, encR hi] = some (.d (bv true)) := by
  rw [Qad (cf := QaS) rfl]
  have g := QcP (a := lo) (b := hi) (by omega) (by omega)
  have t := Qk7 (a := lo) (b := hi)
  rw [decide_eq_false (Rat.not_lt.2 hl)] at t
  have hl := hr.len
  have c1 := hr.one
  have c2 := hr.cells
  have c3 := hr.dc
  have c4 := hr.dcl
  have g0 := Qec hr (x := lo) z1 hK sp np
  have g1 := Qec hr (x := hi) z2 hK sp np
  rw [decide_eq_false (Rat.not_lt.2 h0)] at g0
  rw [decide_eq_false (Rat.not_lt.2 h1)] at g1
  have t2 : ((p.length : Int) == 0) = false := Qco (by have := List.length_pos_iff.2 hp0; omega)
  have d1 : decide ((0 : Int) > 0) = false := rfl
  clear sp hr h0 h1
  generalize cmpR lo hi = c at *
  simp only [encR, iv] at g g0 g1 g3
  simp only [QeX, boxR, go_sem] at lp
  simp -implicitDefEqProofs (maxSteps:=9^8) only [QaS, encR, g, g0, g1, g2, g3, d1, lp, t, hl, t2, c1, c2, c3, c4, toDs, allD, snap, Qb3, Qaa, Qab, st4q, ld4q, decide_true, decide_false, tupS, Qac, go_sem, iv, bv, reduceCtorEq, ↓reduceIte, Nat.reduceEqDiff]
end
end Go.AM

/- Divisors of polynomials: the common divisor is a combination, the part without squares. -/
namespace Go.AM
open Go Go.RowKit

def Dv (q p : List Rat) : Prop := ∃ s : List Rat, ∀ x, evR p x = evR s x * evR q x
theorem Qei (c x : Rat) : evR [c] x = c := by
 show (0 : Rat) * x + c = c
 rw [Rat.zero_mul, Rat.zero_add]
theorem Dv.refl (p : List Rat) : Dv p p := ⟨[1], fun x => by rw [Qei, Rat.one_mul]⟩
theorem Dv.nil (p : List Rat) : Dv p [] := ⟨[], fun x => by rw [QaD, Rat.zero_mul]⟩
theorem Dv.one (p : List Rat) : Dv [1] p := ⟨p, fun x => by rw [Qei, Rat.mul_one]⟩
theorem Dv.trans {a b c : List Rat} (h : Dv a b) (k : Dv b c) : Dv a c := by
 obtain ⟨s, hs⟩ := h
 obtain ⟨t, ht⟩ := k
 exact ⟨muP t s, fun x => by rw [QaF, ht, hs, Rat.mul_assoc]⟩
theorem Dv.comb {q a b c u v : List Rat} (h : Dv q a) (k : Dv q b) (hc : ∀ x, evR c x = evR u x * evR a x + evR v x * evR b x) : Dv q c := by
 obtain ⟨s, hs⟩ := h
 obtain ⟨t, ht⟩ := k
 refine ⟨adP (muP u s) (muP v t), fun x => ?_⟩
 rw [Qnh, QaF, QaF, hc, hs, ht]
 generalize evR u x = a1; generalize evR v x = a2; generalize evR s x = a3; generalize evR t x = a4; generalize evR q x = a5
 grind
theorem Qif {l : List Rat} (hl : Trm l) (h : ∀ x, evR l x = 0) : l = [] := Qc3 hl Qeh (fun x => by rw [h, QaD])
theorem ev_ne {l : List Rat} (hl : Trm l) (h : l ≠ []) : ∃ x, evR l x ≠ 0 := Classical.byContradiction fun hn => h (Qif hl fun x => Classical.byContradiction fun hx => hn ⟨x, hx⟩)
theorem Qio {a b : List Rat} (ha : Trm a) (hb : Trm b) (na : a ≠ []) (nb : b ≠ []) : (muP a b).length = a.length + b.length - 1 := by
 have h1 := List.length_pos_iff.2 na
 have h2 := List.length_pos_iff.2 nb
 have h3 : (muP a b).getD (a.length - 1 + (b.length - 1)) 0 ≠ 0 := by
  rw [Qlq, Qja h1 h2]
  intro h0
  rcases Rat.mul_eq_zero.1 h0 with h4 | h4
  ·exact Qdm ha na h4
  ·exact Qdm hb nb h4
 have := Qlc h3
 have := QqO a b
 omega
theorem Qo7 {a b : List Rat} (h : ∀ x, evR a x * evR b x = 0) : (∀ x, evR a x = 0) ∨ (∀ x, evR b x = 0) := by
 by_cases ha : QbL a = []
 ·exact .inl fun x => by rw [← QcG, ha, QaD]
 ·by_cases hb : QbL b = []
  ·exact .inr fun x => by rw [← QcG, hb, QaD]
  ·have h1 := Qio (Qb7 a) (Qb7 b) ha hb
   have h2 : muP (QbL a) (QbL b) = [] := Qif (Qdx _ _) fun x => by rw [QaF, QcG, QcG, h]
   have h3 := List.length_pos_iff.2 ha
   have h4 := List.length_pos_iff.2 hb
   rw [h2] at h1
   simp only [List.length_nil] at h1
   omega
theorem Qov {a b c : List Rat} (hc : ∃ x, evR c x ≠ 0) (h : ∀ x, evR a x * evR c x = evR b x * evR c x) (x : Rat) : evR a x = evR b x := by
 rcases Qo7 (a := sbP a b) (b := c) (fun x => by rw [QoW]; have := h x; generalize evR a x = u at *; generalize evR b x = v at *; generalize evR c x = w at *; grind) with h1 | h1
 ·have := h1 x
  rw [QoW] at this
  generalize evR a x = u at *; generalize evR b x = v at *
  grind
 ·obtain ⟨y, hy⟩ := hc
  exact absurd (h1 y) hy
theorem Qjr {p : List Rat} (tp : Trm p) (h : Dv [] p) : p = [] := by
 obtain ⟨s, hs⟩ := h
 exact Qif tp fun x => by rw [hs, QaD, Rat.mul_zero]
theorem QkX {q p : List Rat} (tq : Trm q) (tp : Trm p) (np : p ≠ []) (h : Dv q p) : ∃ s, Trm s ∧ s ≠ [] ∧ q ≠ [] ∧ p = muP s q ∧ p.length = s.length + q.length - 1 := by
 have nq : q ≠ [] := fun h0 => np (Qjr tp (h0 ▸ h))
 obtain ⟨s, hs⟩ := h
 have e : p = muP (QbL s) q := Qc3 tp (Qdx _ _) fun x => by rw [hs, QaF, QcG]
 have ns : QbL s ≠ [] := fun h0 => np (Qif tp fun x => by rw [hs, ← QcG s, h0, QaD, Rat.zero_mul])
 exact ⟨QbL s, Qb7 _, ns, nq, e, by rw [e]; exact Qio (Qb7 _) tq ns nq⟩
theorem Qdg {q p : List Rat} (tq : Trm q) (tp : Trm p) (np : p ≠ []) (h : Dv q p) : q.length ≤ p.length := by
 obtain ⟨s, _, ns, _, _, hl⟩ := QkX tq tp np h
 have := List.length_pos_iff.2 ns
 omega
theorem Qla {q p : List Rat} (tq : Trm q) (nq : q ≠ []) (h : Dv q p) : remP p q = [] ∧ ∀ x, evR p x = evR (quoP p q) x * evR q x := by
 obtain ⟨h1, h2, h3, h4⟩ := Qjv (p := p) tq nq
 obtain ⟨s, hs⟩ := h
 have hr : remP p q = [] := (Qqa tq nq h3 (Qb7 s) h4 Qeh h2 (by simp) (fun x => by rw [← h1, QcG, hs, QaD, Rat.add_zero])).2
 exact ⟨hr, fun x => by rw [h1, hr, QaD, Rat.add_zero]⟩

def Mo (l : List Rat) : Prop := l = [] ∨ l.getD (l.length - 1) 0 = 1
theorem mo_one : Mo [1] := .inr rfl
theorem Qd1 : Trm [1] := fun n h => by
 have : n = 0 := by simpa using h.symm
 subst this
 show (1 : Rat) ≠ 0
 decide
theorem QoX {l : List Rat} (tl : Trm l) : Mo (mnP l) := by
 by_cases h : l = []
 ·subst h; exact .inl rfl
 ·refine .inr ?_
  rw [Qdp tl, mn_getD h, Rat.div_def, Rat.one_mul, Rat.mul_inv_cancel _ (Qdm tl h)]
theorem ev_mn {l : List Rat} (h : l ≠ []) (x : Rat) : evR (mnP l) x = evR l x * (1 / l.getD (l.length - 1) 0) := by rw [mnP, if_neg h, Qgm]
theorem dv_mn {l : List Rat} : Dv l (mnP l) := by
 by_cases h : l = []
 ·subst h; exact Dv.nil _
 ·exact ⟨[1 / l.getD (l.length - 1) 0], fun x => by rw [ev_mn h, Qei, Rat.mul_comm]⟩
theorem QrS {l : List Rat} (tl : Trm l) : Dv (mnP l) l := by
 by_cases h : l = []
 ·subst h; exact Dv.nil _
 ·refine ⟨[l.getD (l.length - 1) 0], fun x => ?_⟩
  have h1 := Qdm tl h
  rw [ev_mn h, Qei]
  generalize l.getD (l.length - 1) 0 = c at *
  rw [Rat.div_def, Rat.one_mul, Rat.mul_comm (evR l x), ← Rat.mul_assoc, Rat.mul_inv_cancel _ h1, Rat.one_mul]
theorem mn_ne {l : List Rat} (tl : Trm l) (h : l ≠ []) : mnP l ≠ [] := fun h0 => h (by
 have := Qdp tl
 rw [h0] at this
 exact List.length_eq_zero_iff.1 this.symm)
theorem QoV {a b : List Rat} (ta : Trm a) (tb : Trm b) (ma : Mo a) (mb : Mo b) (h1 : Dv a b) (h2 : Dv b a) : a = b := by
 by_cases na : a = []
 ·subst na; exact (Qjr tb h1).symm
 ·have nb : b ≠ [] := fun h0 => na (Qjr ta (h0 ▸ h2))
  have l2 := Qdg tb ta na h2
  obtain ⟨s, ts, ns, _, e, hl⟩ := QkX ta tb nb h1
  have p1 := List.length_pos_iff.2 ns
  have p2 := List.length_pos_iff.2 na
  have hs : s.length = 1 := by omega
  have hab : b.length - 1 = s.length - 1 + (a.length - 1) := by omega
  have hc : s.getD (s.length - 1) 0 = 1 := by
   have c1 := mb.resolve_left nb
   rw [hab] at c1
   rw [e, Qlq, Qja p1 p2, ma.resolve_left na, Rat.mul_one] at c1
   exact c1
  obtain ⟨c, rfl⟩ : ∃ c, s = [c] := List.length_eq_one_iff.1 hs
  have hc1 : c = 1 := hc
  subst hc1
  refine Qc3 ta tb fun x => ?_
  rw [e, QaF, Qei, Rat.one_mul]
theorem Qii {a : List Rat} (ma : Mo a) (h : a.length = 1) : a = [1] := by
  obtain ⟨c, rfl⟩ : ∃ c, a = [c] := List.length_eq_one_iff.1 h
  rcases ma with h1 | h1
  · cases h1
  · have : c = 1 := h1
    rw [this]

/-! ### The common divisor -/
theorem gc_bez : ∀ (n : Nat) (a b : List Rat), Trm a → Trm b → b.length < n → (∃ u v, ∀ x, evR (gcP n a b) x = evR u x * evR a x + evR v x * evR b x) ∧ Dv (gcP n a b) a ∧ Dv (gcP n a b) b
 | 0, _, _, _, _, h => by omega
 | n + 1, a, b, ta, tb, h => by
  rw [gcP]
  by_cases hb : b = []
  ·rw [if_pos hb]
   subst hb
   exact ⟨⟨[1], [], fun x => by rw [Qei, QaD, Rat.one_mul, Rat.zero_mul, Rat.add_zero]⟩, Dv.refl _, Dv.nil _⟩
  ·rw [if_neg hb]
   obtain ⟨q1, q2, q3, q4⟩ := Qjv (p := a) tb hb
   have hp := List.length_pos_iff.2 hb
   obtain ⟨⟨u, v, i1⟩, i2, i3⟩ := gc_bez n b (mnP (remP a b)) tb (QeW _) (by have := Qdp q4; omega)
   generalize gcP n b (mnP (remP a b)) = g at *
   have i4 : Dv g (remP a b) := i3.trans (QrS q4)
   obtain ⟨s, hs⟩ := dv_mn (l := remP a b)
   refine ⟨⟨muP v s, sbP u (muP (muP v s) (quoP a b)), fun x => ?_⟩, i2.comb i4 (u := quoP a b) (v := [1]) (fun x => by rw [Qei, Rat.one_mul]; exact q1 x), i2⟩
   rw [i1, hs, QoW, QaF, QaF, QaF, q1]
   generalize evR u x = a1; generalize evR v x = a2; generalize evR s x = a3; generalize evR b x = a4; generalize evR (quoP a b) x = a5; generalize evR (remP a b) x = a6
   grind
theorem trm_gcP : ∀ (n : Nat) (a b : List Rat), Trm a → Trm b → Trm (gcP n a b)
 | 0, _, _, ha, _ => ha
 | n + 1, a, b, ha, hb => by
  rw [gcP]
  split
  ·exact ha
  ·exact trm_gcP n b _ hb (QeW _)
theorem mo_gcP : ∀ (n : Nat) (a b : List Rat), Mo a → Mo b → Mo (gcP n a b)
 | 0, _, _, ha, _ => ha
 | n + 1, a, b, ha, hb => by
  rw [gcP]
  split
  ·exact ha
  ·exact mo_gcP n b _ hb (QoX (trm_dv _ _))
section
variable {p q : List Rat}
theorem QcE (tp : Trm p) (tq : Trm q) : (∃ u v, ∀ x, evR (gcdP p q) x = evR u x * evR p x + evR v x * evR q x) ∧ Dv (gcdP p q) p ∧ Dv (gcdP p q) q := by
 obtain ⟨⟨u, v, h1⟩, h2, h3⟩ := gc_bez (q.length + 1) (mnP p) (mnP q) (QeW _) (QeW _) (by have := Qdp tq; omega)
 obtain ⟨s, hs⟩ := dv_mn (l := p)
 obtain ⟨t, ht⟩ := dv_mn (l := q)
 refine ⟨⟨muP u s, muP v t, fun x => ?_⟩, h2.trans (QrS tp), h3.trans (QrS tq)⟩
 show evR (gcP _ _ _) x = _
 rw [h1, hs, ht, QaF, QaF, Rat.mul_assoc, Rat.mul_assoc]
theorem QcO : Trm (gcdP p q) := trm_gcP _ _ _ (QeW _) (QeW _)
theorem Qmk (tp : Trm p) (tq : Trm q) : Mo (gcdP p q) := mo_gcP _ _ _ (QoX tp) (QoX tq)
theorem gcd_is (tp : Trm p) (tq : Trm q) {g : List Rat} (tg : Trm g) (mg : Mo g) (h1 : Dv g p) (h2 : Dv g q) {u v : List Rat} (hb : ∀ x, evR g x = evR u x * evR p x + evR v x * evR q x) : gcdP p q = g := by
 obtain ⟨⟨a, b, k1⟩, k2, k3⟩ := QcE tp tq
 exact QoV QcO tg (Qmk tp tq) mg (k2.comb k3 hb) (h1.comb h2 k1)
theorem QnT (tp : Trm p) (tq : Trm q) (h : p ≠ [] ∨ q ≠ []) : gcdP p q ≠ [] := fun h0 => by
 obtain ⟨_, k2, k3⟩ := QcE tp tq
 rw [h0] at k2 k3
 rcases h with h | h
 ·exact h (Qjr tp k2)
 ·exact h (Qjr tq k3)
theorem gcd_nil : gcdP [] [] = [] := rfl
theorem Qf7 (a b : List Rat) : Trm (quoP a b) := by
 unfold quoP
 split
 ·exact Qeh
 ·exact Qb7 _
end

/-! ### The part without squares -/
def Irr (π : List Rat) : Prop := Trm π ∧ 2 ≤ π.length ∧ ∀ d, Trm d → Dv d π → d.length = 1 ∨ d.length = π.length
theorem Qrg : ∀ (n : Nat) (h : List Rat), h.length ≤ n → Trm h → 2 ≤ h.length → ∃ π, Irr π ∧ Dv π h
 | 0, h, hn, _, h2 => by omega
 | n + 1, h, hn, th, h2 => by
  have nh : h ≠ [] := fun h0 => by rw [h0] at h2; simp at h2
  by_cases hex : ∃ d, Trm d ∧ Dv d h ∧ 2 ≤ d.length ∧ d.length < h.length
  ·obtain ⟨d, td, hd, d2, dl⟩ := hex
   obtain ⟨π, h1, h3⟩ := Qrg n d (by omega) td d2
   exact ⟨π, h1, h3.trans hd⟩
  ·refine ⟨h, ⟨th, h2, fun d td hd => ?_⟩, Dv.refl _⟩
   have l1 := Qdg td th nh hd
   have nd : d ≠ [] := fun h0 => nh (Qjr th (h0 ▸ hd))
   have l2 := List.length_pos_iff.2 nd
   by_cases l3 : d.length = h.length
   ·exact .inr l3
   ·refine .inl ?_
    by_cases l4 : 2 ≤ d.length
    ·exact absurd ⟨d, td, hd, l4, by omega⟩ hex
    ·omega
theorem dv_eqlen {g π : List Rat} (tg : Trm g) (tπ : Trm π) (nπ : π ≠ []) (h : Dv g π) (hl : g.length = π.length) : Dv π g := by
 obtain ⟨s, ts, ns, ng, e, hh⟩ := QkX tg tπ nπ h
 have p1 := List.length_pos_iff.2 ng
 obtain ⟨c, rfl⟩ : ∃ c, s = [c] := List.length_eq_one_iff.1 (by omega)
 have hc : c ≠ 0 := by
  have := Qdm ts ns
  exact this
 refine ⟨[c⁻¹], fun x => ?_⟩
 rw [e, QaF, Qei, Qei, ← Rat.mul_assoc, Rat.inv_mul_cancel _ hc, Rat.one_mul]
theorem irr_ne {π : List Rat} (h : Irr π) : π ≠ [] := fun h0 => by have := h.2.1; rw [h0] at this; simp at this
theorem Qgg {π a b : List Rat} (h : Irr π) (ta : Trm a) (hd : Dv π (muP a b)) : Dv π a ∨ Dv π b := by
 obtain ⟨tπ, h2, h3⟩ := h
 have nπ : π ≠ [] := irr_ne ⟨tπ, h2, h3⟩
 obtain ⟨⟨u, v, k1⟩, k2, k3⟩ := QcE tπ ta
 have tg : Trm (gcdP π a) := QcO
 have mg := Qmk tπ ta
 generalize gcdP π a = g at *
 rcases h3 g tg k2 with hl | hl
 ·have hg := Qii mg hl
  subst hg
  refine .inr ?_
  obtain ⟨t, ht⟩ := hd
  refine ⟨adP (muP u b) (muP v t), fun x => ?_⟩
  have e1 := k1 x
  have e2 := ht x
  rw [Qei] at e1
  rw [QaF] at e2
  rw [Qnh, QaF, QaF]
  generalize evR u x = a1 at *; generalize evR v x = a2 at *; generalize evR a x = a3 at *; generalize evR b x = a4 at *; generalize evR t x = a5 at *; generalize evR π x = a6 at *
  have e3 : a4 = (a1 * a6 + a2 * a3) * a4 := by rw [← e1, Rat.one_mul]
  grind
 ·exact .inl ((dv_eqlen tg tπ nπ k2 hl).trans k3)
def pwP (π : List Rat) : Nat → List Rat
 | 0 => [1]
 | k + 1 => muP (pwP π k) π
theorem ev_pw (π : List Rat) (x : Rat) : ∀ k, evR (pwP π k) x = (evR π x) ^ k
 | 0 => by rw [pwP, Qei, Rat.pow_zero]
 | k + 1 => by rw [pwP, QaF, ev_pw π x k, Rat.pow_succ]
theorem Qpj {π : List Rat} (h : Irr π) : ∀ (n : Nat) (p : List Rat), p.length ≤ n → Trm p → p ≠ [] → ∃ k v, Trm v ∧ ¬ Dv π v ∧ ∀ x, evR p x = evR (pwP π k) x * evR v x
 | 0, p, hn, _, np => absurd (List.length_eq_zero_iff.1 (by omega)) np
 | n + 1, p, hn, tp, np => by
  by_cases hd : Dv π p
  ·obtain ⟨s, ts, ns, _, e, hl⟩ := QkX h.1 tp np hd
   have h2 := h.2.1
   have p1 := List.length_pos_iff.2 ns
   obtain ⟨k, v, tv, nv, hv⟩ := Qpj h n s (by omega) ts ns
   refine ⟨k + 1, v, tv, nv, fun x => ?_⟩
   rw [e, QaF, hv, pwP, QaF]
   generalize evR (pwP π k) x = a; generalize evR v x = b; generalize evR π x = c
   grind
  ·exact ⟨0, p, tp, hd, fun x => by rw [pwP, Qei, Rat.one_mul]⟩
theorem QiC {l m : List Rat} (h : ∀ x, evR l x = evR m x) (x : Rat) : der l x = der m x := by
 have e : deP l = deP m := Qm4 (Qbf l) (Qbf m) fun k => by rw [Qpc, Qpc, Qmq (c := 0) (fun x _ => h x)]
 rw [← Qh9, ← Qh9, e]
theorem der_pow {π v : List Rat} : ∀ (j : Nat) (p : List Rat), (∀ x, evR p x = evR (pwP π (j + 1)) x * evR v x) → Dv (pwP π j) (deP p)
 | 0, p, _ => Dv.one _
 | j + 1, p, h => by
  have h' : ∀ x, evR p x = evR (muP (muP (pwP π (j + 1)) v) π) x := fun x => by
   rw [h, pwP, QaF, QaF, QaF]
   generalize evR (pwP π (j + 1)) x = a; generalize evR v x = b; generalize evR π x = c
   grind
  obtain ⟨s, hs⟩ := der_pow (π := π) (v := v) j (muP (pwP π (j + 1)) v) (fun x => QaF _ _ _)
  refine ⟨adP s (muP v (deP π)), fun x => ?_⟩
  have e1 := hs x
  rw [Qh9] at e1
  rw [Qh9, QiC h', Qlf, e1, QaF, Qnh, QaF, pwP, QaF, Qh9]
  generalize evR (pwP π j) x = a; generalize evR v x = b; generalize evR π x = c; generalize evR s x = d; generalize der π x = e
  grind
theorem rpow_ne {x : Rat} (h : x ≠ 0) : ∀ k : Nat, x ^ k ≠ 0
 | 0 => by rw [Rat.pow_zero]; decide
 | k + 1 => by
  rw [Rat.pow_succ]
  intro h0
  rcases Rat.mul_eq_zero.1 h0 with h1 | h1
  ·exact rpow_ne h k h1
  ·exact h h1
theorem pw_ne {π : List Rat} (tπ : Trm π) (nπ : π ≠ []) (k : Nat) : ∃ x, evR (pwP π k) x ≠ 0 := by
 obtain ⟨x, hx⟩ := ev_ne tπ nπ
 exact ⟨x, by rw [ev_pw]; exact rpow_ne hx k⟩
section
variable {p : List Rat}
theorem Qhh (tp : Trm p) (np : p ≠ []) : gcdP p (deP p) ≠ [] ∧ (∀ x, evR p x = evR (quoP p (gcdP p (deP p))) x * evR (gcdP p (deP p)) x) ∧ quoP p (gcdP p (deP p)) ≠ [] := by
 have ng := QnT tp (Qbf p) (.inl np)
 obtain ⟨_, k2, _⟩ := QcE tp (Qbf p)
 have e := (Qla QcO ng k2).2
 exact ⟨ng, e, fun h0 => np (Qif tp fun x => by rw [e, h0, QaD, Rat.zero_mul])⟩
theorem QfQ (tp : Trm p) (np : p ≠ []) : frP p ≠ [] := mn_ne (Qf7 _ _) (Qhh tp np).2.2
theorem QdL (p : List Rat) : Trm (frP p) := QeW _
theorem Qir (tp : Trm p) (np : p ≠ []) : Dv (frP p) p :=
 (QrS (Qf7 _ _)).trans ⟨gcdP p (deP p), fun x => by rw [(Qhh tp np).2.1, Rat.mul_comm]⟩
theorem Qkk (tp : Trm p) (np : p ≠ []) : gcdP (frP p) (deP (frP p)) = [1] := by
 obtain ⟨ng, e, nF⟩ := Qhh tp np
 obtain ⟨⟨a, b, k1⟩, _, _⟩ := QcE tp (Qbf p)
 have hFf : Dv (frP p) (quoP p (gcdP p (deP p))) := QrS (Qf7 _ _)
 have nf := QfQ tp np
 have tf := QdL p
 have tg : Trm (gcdP p (deP p)) := QcO
 generalize gcdP p (deP p) = g at *
 generalize frP p = f at *
 have nh := QnT tf (Qbf f) (.inl nf)
 have th : Trm (gcdP f (deP f)) := QcO
 obtain ⟨_, d1, d2⟩ := QcE tf (Qbf f)
 have hp := List.length_pos_iff.2 nh
 by_cases h2 : 2 ≤ (gcdP f (deP f)).length
 ·exfalso
  obtain ⟨π, hI, hπ⟩ := Qrg _ _ (Nat.le_refl _) th h2
  have tπ := hI.1
  have nπ := irr_ne hI
  have c1 := hπ.trans d1
  obtain ⟨t, ht⟩ := hπ.trans d2
  obtain ⟨u, tu, nu, _, eu, _⟩ := QkX tπ tf nf c1
  have hu : Dv π u := by
   have : Dv π (muP u (deP π)) := ⟨sbP t (deP u), fun x => by
    have e1 := ht x
    rw [Qh9, eu, Qlf] at e1
    rw [QaF, QoW, Qh9, Qh9]
    generalize der u x = a1 at *; generalize evR π x = a2 at *; generalize evR u x = a3 at *; generalize der π x = a4 at *; generalize evR t x = a5 at *
    grind⟩
   rcases Qgg hI tu this with h | h
   ·exact h
   ·exfalso
    have l1 := Qek tπ
    have h3 := hI.2.1
    have nd : deP π ≠ [] := fun h0 => by rw [h0] at l1; simp only [List.length_nil] at l1; omega
    have := Qdg tπ (Qbf π) nd h
    omega
  obtain ⟨w, hw⟩ := hu
  obtain ⟨s, hs⟩ := hFf
  obtain ⟨k, v, tv, nv, hv⟩ := Qpj hI p.length p (Nat.le_refl _) tp np
  have hsq : ∀ x, evR p x = evR s x * (evR w x * evR π x * evR π x) * evR g x := fun x => by rw [e, hs, eu, QaF, hw]
  cases k with
  | zero =>
   refine nv ⟨muP (muP s (muP w π)) g, fun x => ?_⟩
   have e1 := hv x
   rw [pwP, Qei, Rat.one_mul] at e1
   rw [← e1, hsq, QaF, QaF, QaF]
   generalize evR s x = a1; generalize evR π x = a2; generalize evR w x = a3; generalize evR g x = a4
   grind
  | succ j =>
   obtain ⟨q, hq⟩ := der_pow j p hv
   -- the power before divides g
   have hg : ∀ x, evR g x = evR (adP (muP a (muP v π)) (muP b q)) x * evR (pwP π j) x := fun x => by
    rw [k1, hv, hq, pwP, QaF, Qnh, QaF, QaF, QaF]
    generalize evR a x = a1; generalize evR π x = a2; generalize evR v x = a3; generalize evR b x = a4; generalize evR q x = a5; generalize evR (pwP π j) x = a6
    grind
   generalize adP (muP a (muP v π)) (muP b q) = G at *
   refine nv ⟨muP (muP s w) G, fun x => ?_⟩
   have := Qov (a := v) (b := muP (muP (muP s w) G) π) (c := muP (pwP π j) π) (by
    obtain ⟨y, hy⟩ := pw_ne tπ nπ (j + 1)
    exact ⟨y, hy⟩) (fun x => by
    have e1 := hv x
    rw [pwP, QaF, hsq, hg] at e1
    rw [QaF, QaF, QaF, QaF]
    generalize evR s x = a1 at *; generalize evR π x = a2 at *; generalize evR w x = a3 at *; generalize evR G x = a4 at *; generalize evR v x = a5 at *; generalize evR (pwP π j) x = a6 at *
    grind) x
   rw [this, QaF]
 ·exact Qii (Qmk tf (Qbf f)) (by omega)
end
end Go.AM

/- Chains of polynomials of at most the second degree; plain. -/
namespace Go.AM
open Go Go.RowKit
theorem trm1 {a : Rat} (h : a ≠ 0) : Trm [a] := fun n hn => by
 obtain rfl : n = 0 := by simp at hn; omega
 exact h
theorem trm2 {a b : Rat} (h : b ≠ 0) : Trm [a, b] := fun n hn => by
 obtain rfl : n = 1 := by simp at hn; omega
 exact h
theorem QpX {p q a r : List Rat} (tq : Trm q) (hq : q ≠ []) (ta : Trm a) (tr : Trm r) (hr : r.length ≤ q.length - 1) (h : ∀ x, evR p x = evR a x * evR q x + evR r x) : quoP p q = a ∧ remP p q = r := by
 obtain ⟨h1, h2, h3, h4⟩ := Qjv (p := p) tq hq
 exact Qqa tq hq h3 ta h4 tr h2 hr fun x => by rw [← h1, h]
/-! Constants and lines -/
/-! Squares -/
/-! Changes -/
end Go.AM

/- ref07.Free, Chain at polynomials of at most the second degree: sizes. Halving. -/
namespace Go.AM
open Go Go.RowKit
theorem Qqj {K : Nat} : ∀ {l : List Rat}, SzL K l → HL (l.length * K) (l.length * K) l
 | [], _ => HL.nil _ _
 | a :: l, h => by
  obtain ⟨D, h1, h2, h3⟩ := Qqj (l := l) fun q hq => h q (List.mem_cons_of_mem _ hq)
  obtain ⟨E, k1, k2, k3⟩ := H1_of_sz (h a (List.mem_cons_self ..))
  have e : (a :: l).length * K = K + l.length * K := by rw [List.length_cons, Nat.succ_mul]; omega
  rw [e]
  refine ⟨E * D, Nat.mul_pos k1 h1, Qcx k2 h2, fun q hq => ?_⟩
  rcases List.mem_cons.1 hq with rfl | hq
  ·exact (k3.lift D).le (Qcx (Nat.le_refl _) h2)
  ·exact ((h3 q hq).lift' E).le (Qcx k2 (Nat.le_refl _))
theorem hl3 {K : Nat} {l : List Rat} (h : SzL K l) (hl : l.length ≤ 3) : HL (3 * K) (3 * K) l :=
 (Qqj h).mono (Nat.mul_le_mul_right _ hl) (Nat.mul_le_mul_right _ hl)
theorem hl21 {l : List Rat} (h : SzL 7000 l) (hl : l.length ≤ 3) : HL 21000 21000 l := by
 obtain ⟨K, hK⟩ : ∃ K, K = 7000 := ⟨_, rfl⟩
 rw [← hK] at h
 have := hl3 h hl
 exact this.mono (by omega) (by omega)
theorem dv_ok {a b : List Rat} (ha : SzL 7000 a) (hb : SzL 7000 b) (na : a.length ≤ 3) (nb : b.length ≤ 3) (tb : Trm b) : dvG 800000 b (dvN a b) a ∧ HL 800000 800000 (quoP a b) ∧ SzL 800000 (remP a b) := by
 have hm : dvN a b ≤ 4 := by unfold dvN; omega
 have h1 : dvN a b * 21000 ≤ 4 * 21000 := Nat.mul_le_mul_right _ hm
 have h2 : dvN a b * (21000 + 1) ≤ 4 * (21000 + 1) := Nat.mul_le_mul_right _ hm
 have Ha := hl21 ha na
 have Hb := hl21 hb nb
 obtain ⟨x, y, z⟩ := Qht (K := 800000) Ha Hb tb (by omega)
 exact ⟨x, z.mono (by omega) (by omega), y.sz.mono (by omega)⟩
theorem ch_done (K n : Nat) (a : List Rat) : ChOk K n a [] := by cases n with
 | zero => exact rfl
 | succ n => exact .inl rfl
theorem Qps {n : Nat} {a b : List Rat} (ha : SzL 7000 a) (hb : SzL 7000 b) (na : a.length ≤ 3) (nb : b.length ≤ 3) (tb : Trm b) (h : ChOk 800000 n b (scP (remP a b) (-1))) : ChOk 800000 (n + 1) a b := by
 obtain ⟨h1, _, h3⟩ := dv_ok ha hb na nb tb
 exact .inr ⟨tb, by omega, (hl21 hb nb).mono (by omega) (by omega), hb.mono (by omega), h1, h3, h⟩
/-! Halving -/
def hf : Rat := Rat.divInt 1 2
end Go.AM

/- The seat's iterators: Backward alone. -/
namespace Go.AM
open Go Go.RowKit Go.Proofs

instance itsP : Its := { it := fun f ds => if f = Qag then Qj7 ds else none }
instance itsBP : ItsB := ⟨fun _ => if_pos rfl⟩
theorem envP : EnvOk Tryz.prog G := env_ok fun f ds xs h => by
  have h' : (if f = Qag then Qj7 ds else none) = some xs := h
  split at h'
  · rename_i hf
    rw [hf]
    exact Qow h'
  · cases h'
end Go.AM

