/- Part 9 of the proof: a small machine, its soundness against the model, and what the program's functions compute on it. -/
import Derived.Test.YthhdbchmjfdgmaaM8
import Derived.Test.YthhdbchmjfdgmaaM7
set_option linter.unusedVariables false
set_option linter.unusedSimpArgs false
/- Polynomials: the values of sums, products with numbers, derivatives, shifts. -/
namespace Go.AM
open Go Go.RowKit

theorem ev_ad (l m : List Rat) (x : Rat) : evR (adP l m) x = evR l x + evR m x := by
  rw [adP, evR_map, evR_sum x (l := l) (n := max l.length m.length) (by omega), evR_sum x (l := m) (n := max l.length m.length) (by omega), ← sumR_add]
  exact sumR_congr _ fun k _ => Rat.add_mul ..
theorem ev_sb (l m : List Rat) (x : Rat) : evR (sbP l m) x = evR l x - evR m x := by
  rw [← evR_dif, difR, sbP, evR_trim]
theorem ev_sc (l : List Rat) (a x : Rat) : evR (scP l a) x = evR l x * a := by
  rw [scP, evR_map, evR_sum0 x l, ← sumR_mul]
  exact sumR_congr _ fun k _ => by generalize l.getD k 0 = u; generalize x ^ k = p; grind
theorem trm_sb (l m : List Rat) : Trm (sbP l m) := trm_trim _
theorem trm_sc (l : List Rat) (a : Rat) : Trm (scP l a) := trm_trim _
theorem trm_mu (l m : List Rat) : Trm (muP l m) := trm_trim _
theorem trm_de (l : List Rat) : Trm (deP l) := trm_trim _
theorem len_sc (l : List Rat) (a : Rat) : (scP l a).length ≤ l.length := made_len _ _
theorem len_mu (l m : List Rat) : (muP l m).length ≤ l.length + m.length - 1 := made_len _ _
theorem len_de (l : List Rat) : (deP l).length ≤ l.length - 1 := made_len _ _
theorem sz_sumR {f : Nat → Rat} {K : Nat} : ∀ n, (∀ k, k < n → sz (f k) ≤ K) → sz (sumR f n) ≤ n * (K + 1) + 1
  | 0, _ => by rw [sumR, sz_zero]; omega
  | n + 1, h => by
    have h1 := sz_sumR n (fun k hk => h k (by omega))
    have h2 := h n (by omega)
    have h3 := sz_add (a := sumR f n) (b := f n)
    have h4 : (n + 1) * (K + 1) = n * (K + 1) + (K + 1) := Nat.succ_mul n (K + 1)
    rw [sumR]; omega
theorem sz_convT {l m : List Rat} {K : Nat} (h1 : SzL K l) (h2 : SzL K m) (hK : 1 ≤ K) (i k : Nat) : sz (l.getD i 0 * m.getD (k - i) 0) ≤ 2 * K := by
  have := h1.getD hK i; have := h2.getD hK (k - i)
  have := sz_mul (a := l.getD i 0) (b := m.getD (k - i) 0); omega
/-! ### The derivative -/
def der : List Rat → Rat → Rat
  | [], _ => 0
  | _ :: l, x => evR l x + x * der l x
theorem der_snoc (a x : Rat) : ∀ l : List Rat, der (l ++ [a]) x = der l x + a * ((l.length : Int) : Rat) * x ^ (l.length - 1)
  | [] => by
    show evR [] x + x * der [] x = 0 + a * ((0 : Int) : Rat) * x ^ 0
    rw [evR_nil, der]
    have : ((0 : Int) : Rat) = 0 := rfl
    rw [this]; grind
  | b :: l => by
    show evR (l ++ [a]) x + x * der (l ++ [a]) x = evR l x + x * der l x + a * (((l.length + 1 : Nat) : Int) : Rat) * x ^ l.length
    rw [evR_snoc, der_snoc a x l]
    have e : (((l.length + 1 : Nat) : Int) : Rat) = ((l.length : Int) : Rat) + 1 := by
      rw [show ((l.length + 1 : Nat) : Int) = (l.length : Int) + 1 from rfl, Rat.intCast_add]; rfl
    rw [e]
    cases hn : l.length with
    | zero =>
      have : (((0 : Nat) : Int) : Rat) = 0 := rfl
      rw [this, Rat.pow_zero]
      generalize evR l x = u; generalize der l x = d
      grind
    | succ n =>
      rw [Nat.add_sub_cancel, Rat.pow_succ]
      generalize evR l x = u; generalize der l x = d; generalize x ^ n = p; generalize (((n + 1 : Nat) : Int) : Rat) = c
      grind
theorem der_sum (x : Rat) (l : List Rat) : der l x = sumR (fun k => l.getD (k + 1) 0 * ((k + 1 : Nat) : Int) * x ^ k) (l.length - 1) := by
  have h : ∀ n, n ≤ l.length → der (l.take n) x = sumR (fun k => l.getD (k + 1) 0 * ((k + 1 : Nat) : Int) * x ^ k) (n - 1) := by
    intro n
    induction n with
    | zero => intro _; rfl
    | succ n ih =>
      intro hn
      have e : l.take (n + 1) = l.take n ++ [l.getD n 0] := by
        rw [List.take_add_one]
        simp [List.getD, (by omega : n < l.length)]
      rw [e, der_snoc, ih (by omega), List.length_take, Nat.min_eq_left (by omega), Nat.add_sub_cancel]
      cases n with
      | zero =>
        show sumR _ 0 + l.getD 0 0 * ((0 : Int) : Rat) * x ^ 0 = sumR _ 0
        have : ((0 : Int) : Rat) = 0 := rfl
        rw [this, Rat.mul_zero, Rat.zero_mul, Rat.add_zero]
      | succ n => rfl
  have := h l.length (Nat.le_refl _)
  rwa [List.take_length] at this
theorem ev_de (l : List Rat) (x : Rat) : evR (deP l) x = der l x := by
  rw [deP, evR_map, der_sum]
theorem der_syn : ∀ (l : List Rat) (r : Rat), der l r = evR (syn l r) r
  | [], _ => rfl
  | [a], r => by
    rw [der, der, syn, evR_nil]; grind
  | a :: b :: l, r => by
    have ih := der_syn (b :: l) r
    rw [der, ih, syn, evR_cons (evR (b :: l) r) (syn (b :: l) r) r]
    generalize evR (syn (b :: l) r) r = v
    generalize evR (b :: l) r = u
    grind
/-- A derivative is known by the values. -/
theorem der_of {l : List Rat} {r v : Rat} {q : List Rat} (h : ∀ x, r < x → evR l x = evR l r + (x - r) * evR q x) : der l r = evR q r := by
  rw [der_syn]
  refine eq_beyond (c := r) (fun x hx => ?_) r
  have h1 := h x hx
  have h2 := evR_syn l r x
  have h3 : (x - r) * (evR (syn l r) x - evR q x) = 0 := by
    generalize evR (syn l r) x = u at *; generalize evR q x = w at *
    grind
  rcases Rat.mul_eq_zero.1 h3 with h4 | h4
  · exfalso; grind
  · generalize evR (syn l r) x = u at *; generalize evR q x = w at *
    grind
theorem der_mu (l m : List Rat) (r : Rat) : der (muP l m) r = der l r * evR m r + evR l r * der m r := by
  have h := der_of (l := muP l m) (r := r) (v := 0) (q := adP (muP (syn l r) m) (scP (syn m r) (evR l r))) (fun x _ => by
    rw [ev_mu, ev_mu, ev_ad, ev_mu, ev_sc, evR_syn l r x, evR_syn m r x]
    generalize evR l r = a; generalize evR m r = b; generalize evR (syn l r) x = u; generalize evR (syn m r) x = w
    grind)
  rw [h, ev_ad, ev_mu, ev_sc, der_syn, der_syn]
  generalize evR l r = a; generalize evR m r = b; generalize evR (syn l r) r = u; generalize evR (syn m r) r = w
  grind

/-! ### Shifts -/
def tay : Nat → List Rat → Rat → List Rat
  | 0, _, _ => []
  | n + 1, l, a => evR l a :: tay n (syn l a) a
def shP (l : List Rat) (a : Rat) : List Rat := trimR (tay l.length l a)
theorem tay_len (a : Rat) : ∀ (n : Nat) (l : List Rat), (tay n l a).length = n
  | 0, _ => rfl
  | n + 1, l => by rw [tay, List.length_cons, tay_len a n]
end Go.AM

/- poly.Mul. -/
namespace Go.AM
open Go Go.RowKit

theorem RwR.cell {d : D} {l : List Rat} (h : RwR d l) : cellsOf (.d d) = [.d d] := by rcases h with ⟨rfl, _⟩ | rfl <;> rfl
theorem RwR.onec {d : D} {l : List Rat} (h : RwR d l) : A.one (.d d) = true := by rcases h with ⟨rfl, _⟩ | rfl <;> rfl
section
variable (p q : List Rat) (k : Nat)
def mu_f (i : Nat) : Rat := p.getD i 0 * q.getD (k - i) 0
def mu_lo : Nat := k + 1 - q.length
def mu_hi : Nat := max (mu_lo q k) (min (k + 1) p.length)
theorem mu_low : sumR (mu_f p q k) (mu_lo q k) = 0 := sumR_zero _ fun i hi => by
  unfold mu_f; unfold mu_lo at hi
  rw [getD_out (l := q) (by omega), Rat.mul_zero]
theorem mu_high : sumR (mu_f p q k) (mu_hi p q k) = conv p q k := by
  by_cases h : min (k + 1) p.length = k + 1
  · have : mu_hi p q k = k + 1 := by unfold mu_hi mu_lo; omega
    rw [this]; rfl
  · have h1 : p.length ≤ k := by omega
    have h2 : p.length ≤ mu_hi p q k := by unfold mu_hi; omega
    have hz : ∀ i, p.length ≤ i → mu_f p q k i = 0 := fun i hi => by unfold mu_f; rw [getD_out hi, Rat.zero_mul]
    rw [sumR_ge h2 hz]
    exact (sumR_ge (f := mu_f p q k) (n := p.length) (m := k + 1) (by omega) hz).symm
end
def m1_st (dp dq : D) (k i : Int) (s : Rat) : St := mkS [(0, ai k), (1, .d (.rp [dq])), (2, .d (.rp [dp])), (4, .ptr [4] 0), (5, .ptr [5] 0), (6, ai i)] [([4], boxR0), ([5], boxR s)]
def m1_en (s : Rat) : St := mkS [(4, .ptr [4] 0), (5, .ptr [5] 0)] [([4], boxR0), ([5], boxR s)]
variable [Its]

section
variable {dp dq : D} {p q : List Rat} {k : Nat} {K : Nat}
theorem m1_go (hp : RwR dp p) (hq : RwR dq q) (sp : SzL K p) (sq : SzL K q) (hK1 : 1 ≤ K) (hb : (p.length + q.length) * (2 * K + 1) ≤ 10000000000) {i : Nat} (h1 : mu_lo q k ≤ i) (h2 : i < mu_hi p q k) :
    X G poly_Mul_1_l0 (m1_st dp dq k i (sumR (mu_f p q k) i)) = some (.n, m1_st dp dq k ((i + 1 : Nat) : Int) (sumR (mu_f p q k) (i + 1))) := by
  have hi1 : i ≤ k := by unfold mu_hi at h2; omega
  have hi2 : i < p.length := by unfold mu_hi at h2; omega
  have hi3 : k - i < q.length := by unfold mu_lo at h1; omega
  have hL : p.length + q.length ≤ 10000000000 := Nat.le_trans (Nat.le_mul_of_pos_right _ (by omega)) hb
  obtain ⟨z, hz⟩ : ∃ z, (p.length : Int) - 1 = z := ⟨_, rfl⟩
  have e0 : w64 ((p.length : Int) - 1) = z := by rw [w64_id (by omega) (by omega), hz]
  obtain ⟨mn, hmn⟩ : ∃ mn, (if z < (k : Int) then z else (k : Int)) = mn := ⟨_, rfl⟩
  have e1 : decide ((i : Int) ≤ mn) = true := le_t (by rw [← hmn]; split <;> omega)
  have e2 : w64 ((k : Int) - (i : Int)) = ((k - i : Nat) : Int) := by rw [w64_id (by omega) (by omega)]; omega
  have e3 : w64 ((i : Int) + 1) = ((i + 1 : Nat) : Int) := by rw [w64_id (by omega) (by omega)]; rfl
  have lp := hp.len
  have x1 := hp.ixa hi2
  have y1 := fun h => ldR h p hi2
  have x2 := hq.ixa hi3
  have y2 := fun h => ldR h q hi3
  have s1 := sp.getD hK1 i
  have s2 := sq.getD hK1 (k - i)
  have hKb : 2 * K + 1 ≤ (p.length + q.length) * (2 * K + 1) := Nat.le_mul_of_pos_left _ (by omega)
  have g1 := ratMul_spec (a := p.getD i 0) (b := q.getD (k - i) 0) (by omega) (by omega)
  have s3 := sz_sumR (f := mu_f p q k) (K := 2 * K) i (fun j _ => sz_convT sp sq hK1 j k)
  have s4 : i * (2 * K + 1) ≤ (p.length + q.length) * (2 * K + 1) := Nat.mul_le_mul_right _ (by omega)
  have s5 := sz_convT sp sq hK1 i k
  have g2 := ratAdd_spec (a := sumR (mu_f p q k) i) (b := p.getD i 0 * q.getD (k - i) 0) (by omega) (by omega)
  have e4 : sumR (mu_f p q k) i + p.getD i 0 * q.getD (k - i) 0 = sumR (mu_f p q k) (i + 1) := rfl
  rw [e4] at g2
  clear e4 s1 s2 s3 s4 s5 hKb hi1 hi2 hi3 h1 h2 hb sp sq
  generalize sumR (mu_f p q k) (i + 1) = r2 at *
  generalize sumR (mu_f p q k) i = r1 at *
  generalize p.getD i 0 * q.getD (k - i) 0 = t at *
  generalize p.getD i 0 = u at *
  generalize q.getD (k - i) 0 = v at *
  generalize cRs (p.drop i) = c1 at *
  generalize cRs (q.drop (k - i)) = c2 at *
  simp only [encR] at y1 y2 g1 g2
  simp -implicitDefEqProofs (maxSteps := 10000000) only [poly_Mul_1_l0, m1_st, boxR, boxR0, foldV, mnV, bw_ld1, lp, x1, x2, y1, y2, hmn, go_sem, stcells, ldcells, iv, bv, e0, e1, e2, e3, g1, g2, reduceCtorEq, ↓reduceIte, Nat.reduceEqDiff]
theorem m1_stop (hp : RwR dp p) (hL : p.length ≤ 10000000000) {i : Nat} {s : Rat} (h2 : min (k + 1) p.length ≤ i) : X G poly_Mul_1_l0 (m1_st dp dq k i s) = some (.x 0, m1_en s) := by
  obtain ⟨z, hz⟩ : ∃ z, (p.length : Int) - 1 = z := ⟨_, rfl⟩
  have e0 : w64 ((p.length : Int) - 1) = z := by rw [w64_id (by omega) (by omega), hz]
  obtain ⟨mn, hmn⟩ : ∃ mn, (if z < (k : Int) then z else (k : Int)) = mn := ⟨_, rfl⟩
  have e1 : decide ((i : Int) ≤ mn) = false := le_f (by rw [← hmn]; split <;> omega)
  have lp := hp.len
  simp -implicitDefEqProofs (maxSteps := 10000000) only [poly_Mul_1_l0, m1_st, m1_en, boxR, boxR0, foldV, mnV, bw_ld1, lp, hmn, go_sem, stcells, ldcells, iv, bv, e0, e1, reduceCtorEq, ↓reduceIte, Nat.reduceEqDiff]
theorem m1_loop (hp : RwR dp p) (hq : RwR dq q) (sp : SzL K p) (sq : SzL K q) (hK1 : 1 ≤ K) (hb : (p.length + q.length) * (2 * K + 1) ≤ 10000000000) : ∀ (j i : Nat), i + j = mu_hi p q k → mu_lo q k ≤ i →
    X G (.loop poly_Mul_1_l0) (m1_st dp dq k i (sumR (mu_f p q k) i)) = some (.x 0, m1_en (conv p q k))
  | 0, i, h, h1 => by
    have hL : p.length + q.length ≤ 10000000000 := Nat.le_trans (Nat.le_mul_of_pos_right _ (by omega)) hb
    have : i = mu_hi p q k := by omega
    subst this
    rw [X_loop, m1_stop hp (by omega) (by unfold mu_hi; omega), mu_high]; rfl
  | j + 1, i, h, h1 => by
    rw [X_loop, m1_go hp hq sp sq hK1 hb h1 (by omega), Option.bind_some, if_pos rfl]
    exact m1_loop hp hq sp sq hK1 hb j (i + 1) (by omega) (by omega)
theorem Mul1_spec (hp : RwR dp p) (hq : RwR dq q) (sp : SzL K p) (sq : SzL K q) (hK1 : 1 ≤ K) (hb : (p.length + q.length) * (2 * K + 1) ≤ 10000000000) (hk : k ≤ 10000000000) : callX G n_poly_Mul_1 [iv (k : Int), .rp [dq], .rp [dp]] = some (.d (encR (conv p q k))) := by
  rw [callX_eq (cf := poly_Mul_1) rfl]
  have hL : p.length + q.length ≤ 10000000000 := Nat.le_trans (Nat.le_mul_of_pos_right _ (by omega)) hb
  have hl := m1_loop (dp := dp) (dq := dq) (k := k) hp hq sp sq hK1 hb (mu_hi p q k - mu_lo q k) (mu_lo q k) (by unfold mu_hi; omega) (Nat.le_refl _)
  rw [mu_low] at hl
  obtain ⟨z, hz⟩ : ∃ z, (k : Int) - (q.length : Int) = z := ⟨_, rfl⟩
  obtain ⟨z1, hz1⟩ : ∃ z1, z + 1 = z1 := ⟨_, rfl⟩
  have e0 : w64 ((k : Int) - (q.length : Int)) = z := by rw [w64_id (by omega) (by omega), hz]
  have e1 : w64 (z + 1) = z1 := by rw [w64_id (by omega) (by omega), hz1]
  have e2 : (if z1 > (0 : Int) then z1 else (0 : Int)) = ((mu_lo q k : Nat) : Int) := by unfold mu_lo; split <;> omega
  have lq := hq.len
  have e5 : boxR 0 = boxR0 := by
    have ez : decide ((0 : Rat).num < 0) = false := rfl
    have ez2 : dg (digs (0 : Rat).num.natAbs) = .z true := by rw [Rat.zero_num, show (0 : Int).natAbs = 0 from rfl, digs_zero]; rfl
    have ez3 : dg (dd (0 : Rat).den) = .z true := rfl
    rw [boxR, ez, ez2, ez3]; rfl
  rw [m1_st, e5] at hl
  clear e5
  generalize conv p q k = r at *
  generalize ((mu_lo q k : Nat) : Int) = lo at *
  simp only [m1_st, m1_en, boxR, boxR0, go_sem] at hl
  simp -implicitDefEqProofs (maxSteps := 10000000) only [poly_Mul_1, foldV, mxV, bw_ld1, hl, lq, e0, e1, e2, encR, go_sem, stcells, ldcells, iv, bv, reduceCtorEq, ↓reduceIte, Nat.reduceEqDiff]
theorem Mul_spec_P (hp : RwR dp p) (hq : RwR dq q) (sp : SzL K p) (sq : SzL K q) (hK1 : 1 ≤ K) (hb : (p.length + q.length) * (2 * K + 1) ≤ 10000000000) : ∃ d', RwR d' (muP p q) ∧ callX G n_poly_Mul [dp, dq] = some (.d d') := by
  rw [callX_eq (cf := poly_Mul) rfl]
  have hL : p.length + q.length ≤ 10000000000 := Nat.le_trans (Nat.le_mul_of_pos_right _ (by omega)) hb
  obtain ⟨z, hz⟩ : ∃ z, (p.length : Int) + (q.length : Int) = z := ⟨_, rfl⟩
  obtain ⟨z1, hz1⟩ : ∃ z1, z - 1 = z1 := ⟨_, rfl⟩
  have e0 : w64 ((p.length : Int) + (q.length : Int)) = z := by rw [w64_id (by omega) (by omega), hz]
  have e1 : w64 (z - 1) = z1 := by rw [w64_id (by omega) (by omega), hz1]
  obtain ⟨d', hr, g⟩ := made_spec (f := n_poly_Mul_1) (caps := [.rp [dq], .rp [dp]]) (m := z1) (n := p.length + q.length - 1) (by omega) (by omega) (fun k hk => Mul1_spec (k := k) hp hq sp sq hK1 hb (by omega))
  refine ⟨d', hr, ?_⟩
  have ll := hp.len
  have ll2 := hq.len
  have c1 := hp.cell
  have c2 := hq.cell
  have c3 := hp.onec
  have c4 := hq.onec
  clear hr
  simp only [iv] at g
  simp -implicitDefEqProofs (maxSteps := 10000000) only [poly_Mul, snap, snapH, allD, c1, c2, c3, c4, List.getElem?_cons_zero, go_sem, stcells, ldcells, iv, bv, ll, ll2, e0, e1, g, reduceCtorEq, ↓reduceIte, Nat.reduceEqDiff]
end
end Go.AM

/- How great the coefficients are: a common denominator and a bound of the numerators. -/
namespace Go.AM
open Go Go.RowKit

def BB : Nat := 1000000000
theorem BB_pos (n : Nat) : 0 < BB ^ n := Nat.pow_pos (by decide)
theorem BB_mono {n m : Nat} (h : n ≤ m) : BB ^ n ≤ BB ^ m := Nat.pow_le_pow_right (by decide) h
def cN (n : Nat) : Rat := ((n : Int) : Rat)
theorem cN_mul (n m : Nat) : cN (n * m) = cN n * cN m := by unfold cN; rw [Int.natCast_mul, Rat.intCast_mul]
theorem cN_ne {n : Nat} (h : 0 < n) : cN n ≠ 0 := by
  unfold cN
  intro h0
  have h1 : ((n : Int) : Rat) = ((0 : Int) : Rat) := h0
  rw [Rat.intCast_inj] at h1
  omega
/-- D times it is an integer of at most X. -/
def Hq (D X : Nat) (q : Rat) : Prop := ∃ m : Int, q * cN D = (m : Rat) ∧ m.natAbs ≤ X
theorem Hq.zero (D X : Nat) : Hq D X 0 := ⟨0, by rw [Rat.zero_mul]; rfl, by simp⟩
theorem Hq.le {D X Y : Nat} {q : Rat} (h : Hq D X q) (hX : X ≤ Y) : Hq D Y q := by
  obtain ⟨m, h1, h2⟩ := h
  exact ⟨m, h1, by omega⟩
theorem Hq.add {D X Y : Nat} {q p : Rat} (h : Hq D X q) (h' : Hq D Y p) : Hq D (X + Y) (q + p) := by
  obtain ⟨m, h1, h2⟩ := h
  obtain ⟨n, h3, h4⟩ := h'
  exact ⟨m + n, by rw [Rat.add_mul, h1, h3, Rat.intCast_add], by omega⟩
theorem Hq.neg {D X : Nat} {q : Rat} (h : Hq D X q) : Hq D X (-q) := by
  obtain ⟨m, h1, h2⟩ := h
  exact ⟨-m, by rw [Rat.neg_mul, h1, Rat.intCast_neg], by omega⟩
theorem Hq.sub {D X Y : Nat} {q p : Rat} (h : Hq D X q) (h' : Hq D Y p) : Hq D (X + Y) (q - p) := by
  rw [Rat.sub_eq_add_neg]; exact h.add h'.neg
theorem Hq.mul {D E X Y : Nat} {q p : Rat} (h : Hq D X q) (h' : Hq E Y p) : Hq (D * E) (X * Y) (q * p) := by
  obtain ⟨m, h1, h2⟩ := h
  obtain ⟨n, h3, h4⟩ := h'
  refine ⟨m * n, ?_, by rw [Int.natAbs_mul]; exact Nat.mul_le_mul h2 h4⟩
  rw [cN_mul, Rat.intCast_mul, ← h1, ← h3]
  generalize cN D = u; generalize cN E = v; grind
theorem Hq.lift {D X : Nat} {q : Rat} (h : Hq D X q) (E : Nat) : Hq (D * E) (X * E) q := by
  obtain ⟨m, h1, h2⟩ := h
  refine ⟨m * E, ?_, by rw [Int.natAbs_mul]; exact Nat.mul_le_mul h2 (by omega)⟩
  rw [cN_mul, Rat.intCast_mul, ← h1, Rat.mul_assoc]; rfl
theorem Hq.lift' {D X : Nat} {q : Rat} (h : Hq D X q) (E : Nat) : Hq (E * D) (E * X) q := by
  rw [Nat.mul_comm E, Nat.mul_comm E]; exact h.lift E
theorem Hq.sum {D X : Nat} {f : Nat → Rat} : ∀ n, (∀ i, i < n → Hq D X (f i)) → Hq D (n * X) (sumR f n)
  | 0, _ => by rw [sumR, Nat.zero_mul]; exact Hq.zero D 0
  | n + 1, h => by
    rw [sumR, Nat.succ_mul]
    exact (Hq.sum n (fun i hi => h i (by omega))).add (h n (by omega))
theorem Hq.int (n : Int) : Hq 1 n.natAbs (n : Rat) := ⟨n, Rat.mul_one _, Nat.le_refl _⟩
theorem Hq.div {n d : Int} (hd : 0 < d) : Hq d.natAbs n.natAbs (Rat.divInt n d) := by
  refine ⟨n, ?_, Nat.le_refl _⟩
  have e : cN d.natAbs = (d : Rat) := by unfold cN; rw [Int.natAbs_of_nonneg (by omega)]
  have h0 : (d : Rat) ≠ 0 := by
    intro h0
    have h1 : (d : Rat) = ((0 : Int) : Rat) := h0
    rw [Rat.intCast_inj] at h1; omega
  rw [e, Rat.divInt_eq_div, Rat.div_def, Rat.mul_assoc, Rat.inv_mul_cancel _ h0, Rat.mul_one]
theorem Hq.sz {D X d h : Nat} {q : Rat} (hD : 0 < D) (hDd : D ≤ BB ^ d) (hX : X ≤ BB ^ h) (H : Hq D X q) : sz q ≤ max d h + 1 := by
  obtain ⟨m, h1, h2⟩ := H
  have e : q = Rat.divInt m (D : Int) := by
    rw [Rat.divInt_eq_div, Rat.div_def, ← h1, Rat.mul_assoc]
    show q = q * (cN D * (cN D)⁻¹)
    rw [Rat.mul_inv_cancel _ (cN_ne hD), Rat.mul_one]
  rw [e]
  have hb : ∀ n, BB ^ n < 1000000000 ^ (n + 1) := fun n => by
    rw [Nat.pow_succ]
    have := BB_pos n
    show BB ^ n < BB ^ n * 1000000000
    omega
  refine sz_divInt (by omega) (Nat.le_trans (nd_le (k := h + 1) ?_) (by omega)) (Nat.le_trans (nd_le (k := d + 1) ?_) (by omega))
  · exact Nat.lt_of_le_of_lt (Nat.le_trans h2 hX) (hb h)
  · exact Nat.lt_of_le_of_lt (by rw [Int.natAbs_natCast]; exact hDd) (hb d)

/-- A common denominator of at most d digits, numerators of at most h. -/
def HL (d h : Nat) (l : List Rat) : Prop := ∃ D : Nat, 0 < D ∧ D ≤ BB ^ d ∧ ∀ q ∈ l, Hq D (BB ^ h) q
def H1 (d h : Nat) (q : Rat) : Prop := ∃ D : Nat, 0 < D ∧ D ≤ BB ^ d ∧ Hq D (BB ^ h) q
theorem HL.sz {d h : Nat} {l : List Rat} (H : HL d h l) : SzL (max d h + 1) l := by
  obtain ⟨D, h1, h2, h3⟩ := H
  exact fun q hq => (h3 q hq).sz h1 h2 (Nat.le_refl _)
theorem H1.sz {d h : Nat} {q : Rat} (H : H1 d h q) : sz q ≤ max d h + 1 := by
  obtain ⟨D, h1, h2, h3⟩ := H
  exact h3.sz h1 h2 (Nat.le_refl _)
theorem HL.mono {d h d' h' : Nat} {l : List Rat} (H : HL d h l) (hd : d ≤ d') (hh : h ≤ h') : HL d' h' l := by
  obtain ⟨D, h1, h2, h3⟩ := H
  exact ⟨D, h1, Nat.le_trans h2 (BB_mono hd), fun q hq => (h3 q hq).le (BB_mono hh)⟩
theorem HL.nil (d h : Nat) : HL d h [] := ⟨1, by omega, BB_pos d, fun q hq => by simp at hq⟩
theorem HL.trim {d h : Nat} {l : List Rat} (H : HL d h l) : HL d h (trimR l) := by
  obtain ⟨D, h1, h2, h3⟩ := H
  exact ⟨D, h1, h2, fun q hq => h3 q (List.mem_of_mem_take hq)⟩
theorem HL.one {d h : Nat} {q : Rat} (H : H1 d h q) : HL d h [q] := by
  obtain ⟨D, h1, h2, h3⟩ := H
  exact ⟨D, h1, h2, fun p hp => by rw [List.mem_singleton.1 hp]; exact h3⟩
theorem Hq.getD {D X : Nat} {l : List Rat} (H : ∀ q ∈ l, Hq D X q) (k : Nat) : Hq D X (l.getD k 0) := by
  by_cases hk : k < l.length
  · have : l.getD k 0 = l[k] := by rw [List.getD_eq_getElem?_getD, List.getElem?_eq_getElem hk]; rfl
    rw [this]; exact H _ (List.getElem_mem hk)
  · rw [getD_out (by omega)]; exact Hq.zero D X
theorem HL.getD {d h : Nat} {l : List Rat} (H : HL d h l) (k : Nat) : H1 d h (l.getD k 0) := by
  obtain ⟨D, h1, h2, h3⟩ := H
  exact ⟨D, h1, h2, Hq.getD h3 k⟩
theorem HL.made {D X n : Nat} {e : Nat → Rat} {d h : Nat} (hD : 0 < D) (hd : D ≤ BB ^ d) (hX : X ≤ BB ^ h) (H : ∀ k, k < n → Hq D X (e k)) : HL d h (trimR ((List.range n).map e)) :=
  HL.trim ⟨D, hD, hd, fun q hq => by
    obtain ⟨k, hk, rfl⟩ := List.mem_map.1 hq
    exact (H k (List.mem_range.1 hk)).le hX⟩
theorem two_BB {a b n : Nat} (h1 : a ≤ BB ^ n) (h2 : b ≤ BB ^ n) : a + b ≤ BB ^ (n + 1) := by
  rw [Nat.pow_succ]
  have : BB ^ n * 2 ≤ BB ^ n * BB := Nat.mul_le_mul_left _ (by decide)
  omega
theorem mul_BB {a b n m : Nat} (h1 : a ≤ BB ^ n) (h2 : b ≤ BB ^ m) : a * b ≤ BB ^ (n + m) := by
  rw [Nat.pow_add]; exact Nat.mul_le_mul h1 h2
theorem HL.ad {d1 h1 d2 h2 : Nat} {l m : List Rat} (H : HL d1 h1 l) (H' : HL d2 h2 m) : HL (d1 + d2) (max (h1 + d2) (h2 + d1) + 1) (adP l m) := by
  obtain ⟨D, a1, a2, a3⟩ := H
  obtain ⟨E, b1, b2, b3⟩ := H'
  refine HL.made (D := D * E) (X := BB ^ h1 * E + D * BB ^ h2) (Nat.mul_pos a1 b1) (mul_BB a2 b2) (two_BB ?_ ?_) (fun k _ => ((Hq.getD a3 k).lift E).add ((Hq.getD b3 k).lift' D))
  · exact Nat.le_trans (mul_BB (Nat.le_refl _) b2) (BB_mono (by omega))
  · exact Nat.le_trans (mul_BB a2 (Nat.le_refl _)) (BB_mono (by omega))
theorem HL.sb {d1 h1 d2 h2 : Nat} {l m : List Rat} (H : HL d1 h1 l) (H' : HL d2 h2 m) : HL (d1 + d2) (max (h1 + d2) (h2 + d1) + 1) (sbP l m) := by
  obtain ⟨D, a1, a2, a3⟩ := H
  obtain ⟨E, b1, b2, b3⟩ := H'
  refine HL.made (D := D * E) (X := BB ^ h1 * E + D * BB ^ h2) (Nat.mul_pos a1 b1) (mul_BB a2 b2) (two_BB ?_ ?_) (fun k _ => ((Hq.getD a3 k).lift E).sub ((Hq.getD b3 k).lift' D))
  · exact Nat.le_trans (mul_BB (Nat.le_refl _) b2) (BB_mono (by omega))
  · exact Nat.le_trans (mul_BB a2 (Nat.le_refl _)) (BB_mono (by omega))
theorem HL.mu {d1 h1 d2 h2 : Nat} {l m : List Rat} (H : HL d1 h1 l) (H' : HL d2 h2 m) (hn : l.length + m.length ≤ BB) : HL (d1 + d2) (h1 + h2 + 1) (muP l m) := by
  obtain ⟨D, a1, a2, a3⟩ := H
  obtain ⟨E, b1, b2, b3⟩ := H'
  refine HL.made (D := D * E) (X := (l.length + m.length) * (BB ^ h1 * BB ^ h2)) (Nat.mul_pos a1 b1) (mul_BB a2 b2) ?_ (fun k hk => ?_)
  · rw [Nat.pow_succ, Nat.pow_add, Nat.mul_comm]
    exact Nat.mul_le_mul_left _ hn
  · exact (Hq.sum (k + 1) (fun i _ => (Hq.getD a3 i).mul (Hq.getD b3 (k - i)))).le (Nat.mul_le_mul_right _ (by omega))
theorem HL.de {d h : Nat} {l : List Rat} (H : HL d h l) (hn : l.length ≤ BB) : HL d (h + 1) (deP l) := by
  obtain ⟨D, a1, a2, a3⟩ := H
  refine HL.made (D := D * 1) (X := BB ^ h * BB) (by omega) (by omega) (Nat.le_refl _) (fun k hk => ?_)
  refine (((Hq.getD a3 (k + 1)).mul (Hq.int ((k + 1 : Nat) : Int)))).le (Nat.mul_le_mul_left _ ?_)
  rw [Int.natAbs_natCast]; omega
/-- The values in the middle of Horner's rule. -/
theorem Hq.ev {D X E Y : Nat} {x : Rat} (hx : Hq E Y x) (hE : 0 < E) : ∀ {l : List Rat}, (∀ q ∈ l, Hq D X q) → Hq (D * E ^ l.length) (X * (E + Y) ^ l.length) (evR l x)
  | [], _ => by rw [evR_nil]; exact Hq.zero _ _
  | a :: l, h => by
    have ih := Hq.ev hx hE (l := l) (fun q hq => h q (List.mem_cons_of_mem _ hq))
    have h1 := (h a (List.mem_cons_self ..)).lift (E ^ (l.length + 1))
    have h2 := ih.mul hx
    rw [evR_cons, List.length_cons]
    have e : D * E ^ l.length * E = D * E ^ (l.length + 1) := by rw [Nat.pow_succ, Nat.mul_assoc]
    rw [e] at h2
    refine (h2.add h1).le ?_
    have e1 : X * (E + Y) ^ (l.length + 1) = X * (E + Y) ^ l.length * Y + X * (E + Y) ^ l.length * E := by
      rw [Nat.pow_succ, ← Nat.mul_assoc, Nat.mul_add, Nat.add_comm]
    rw [e1]
    have e2 : X * E ^ (l.length + 1) ≤ X * (E + Y) ^ l.length * E := by
      rw [Nat.pow_succ, ← Nat.mul_assoc]
      exact Nat.mul_le_mul_right _ (Nat.mul_le_mul_left _ (Nat.pow_le_pow_left (by omega) _))
    omega
end Go.AM

/- poly.Shift. -/
namespace Go.AM
open Go Go.RowKit

/-- Horner's rule, from the end down to j. -/
def hst (l : List Rat) (a : Rat) (j : Nat) : List Rat := l.take j ++ (evR (l.drop j) a :: syn (l.drop j) a)
theorem hst_len {l : List Rat} {a : Rat} {j : Nat} (h : j < l.length) : (hst l a j).length = l.length := by
  rw [hst, List.length_append, List.length_cons, syn_len, List.length_take, List.length_drop]; omega
theorem hst_split {l : List Rat} {k : Nat} (h : k < l.length) : l = l.take k ++ l.getD k 0 :: l.drop (k + 1) := by
  have e : l.drop k = l.getD k 0 :: l.drop (k + 1) := by
    rw [List.drop_eq_getElem_cons h, List.getD_eq_getElem?_getD, List.getElem?_eq_getElem h]; rfl
  rw [← e, List.take_append_drop]
theorem getD_mid (T R : List Rat) (x : Rat) : (T ++ x :: R).getD T.length 0 = x := by
  rw [List.getD_eq_getElem?_getD, List.getElem?_append_right (Nat.le_refl _), Nat.sub_self]; rfl
theorem getD_mid1 (T R : List Rat) (x y : Rat) : (T ++ x :: y :: R).getD (T.length + 1) 0 = y := by
  rw [List.getD_eq_getElem?_getD, List.getElem?_append_right (by omega), Nat.add_sub_cancel_left]; rfl
theorem set_mid (T R : List Rat) (x y : Rat) : (T ++ x :: R).set T.length y = T ++ y :: R := by
  rw [List.set_append_right _ _ (Nat.le_refl _), Nat.sub_self]; rfl
theorem hst_step {l : List Rat} {a : Rat} {k : Nat} (h : k + 1 < l.length) : (hst l a (k + 1)).set k ((hst l a (k + 1)).getD k 0 + a * (hst l a (k + 1)).getD (k + 1) 0) = hst l a k := by
  obtain ⟨T, hT⟩ : ∃ T, l.take k = T := ⟨_, rfl⟩
  obtain ⟨R, hR⟩ : ∃ R, l.drop (k + 1) = R := ⟨_, rfl⟩
  obtain ⟨x, hx⟩ : ∃ x, l.getD k 0 = x := ⟨_, rfl⟩
  have hl := hst_split (l := l) (k := k) (by omega)
  rw [hT, hR, hx] at hl
  have hTl : T.length = k := by rw [← hT, List.length_take]; omega
  have h1 : l.take (k + 1) = T ++ [x] := by
    rw [hl, List.take_append, hTl, List.take_of_length_le (by omega), Nat.add_sub_cancel_left]; rfl
  have h2 : l.drop k = x :: R := by
    rw [hl, ← hTl, List.drop_left]
  have hRne : ∃ b R', R = b :: R' := by
    cases R with
    | nil => have := congrArg List.length hR; rw [List.length_drop] at this; simp at this; omega
    | cons b R' => exact ⟨b, R', rfl⟩
  obtain ⟨b, R', rfl⟩ := hRne
  unfold hst
  rw [h1, hR, hT, h2, List.append_assoc, List.singleton_append]
  subst hTl
  rw [getD_mid, getD_mid1, set_mid, syn, evR_cons x (b :: R')]
  rw [show x + a * evR (b :: R') a = evR (b :: R') a * a + x by generalize evR (b :: R') a = u; grind]
theorem hst_last {l : List Rat} {a : Rat} {n : Nat} (h : l.length = n + 1) : hst l a n = l := by
  have hl := hst_split (l := l) (k := n) (by omega)
  have h1 : l.drop (n + 1) = [] := List.drop_of_length_le (by omega)
  rw [h1] at hl
  have h2 : l.drop n = [l.getD n 0] := by
    have hT : (l.take n).length = n := by rw [List.length_take]; omega
    have : l.drop n = (l.take n ++ [l.getD n 0]).drop n := by rw [← hl]
    rw [this]
    have e : (l.take n ++ [l.getD n 0]).drop (l.take n).length = [l.getD n 0] := List.drop_left
    rwa [hT] at e
  unfold hst
  rw [h2, syn, evR_cons, evR_nil, Rat.zero_mul, Rat.zero_add]
  exact hl.symm
/-- After i rounds. -/
def pas (l : List Rat) (a : Rat) : Nat → List Rat
  | 0 => l
  | i + 1 => hst (pas l a i) a i
theorem pas_len {l : List Rat} {a : Rat} : ∀ i, i ≤ l.length → (pas l a i).length = l.length
  | 0, _ => rfl
  | i + 1, h => by
    have ih := pas_len (l := l) (a := a) i (by omega)
    rw [pas, hst_len (by omega), ih]
def synI (l : List Rat) (a : Rat) : Nat → List Rat
  | 0 => l
  | i + 1 => syn (synI l a i) a
theorem synI_syn (l : List Rat) (a : Rat) : ∀ i, synI (syn l a) a i = synI l a (i + 1)
  | 0 => rfl
  | i + 1 => by rw [synI, synI_syn l a i]; rfl
theorem synI_len (l : List Rat) (a : Rat) : ∀ i, (synI l a i).length = l.length - i
  | 0 => rfl
  | i + 1 => by rw [synI, syn_len, synI_len l a i]; omega
theorem tay_snoc (a : Rat) : ∀ (i : Nat) (l : List Rat), tay (i + 1) l a = tay i l a ++ [evR (synI l a i) a]
  | 0, l => rfl
  | i + 1, l => by
    rw [tay, tay_snoc a i (syn l a), synI_syn]; rfl
theorem pas_tay {l : List Rat} {a : Rat} : ∀ i, i ≤ l.length → pas l a i = tay i l a ++ synI l a i
  | 0, _ => rfl
  | i + 1, h => by
    rw [pas, pas_tay i (by omega), hst]
    have e : (tay i l a).length = i := tay_len a i l
    have e1 : (tay i l a ++ synI l a i).take i = tay i l a := by
      have : (tay i l a ++ synI l a i).take (tay i l a).length = tay i l a := List.take_left
      rwa [e] at this
    have e2 : (tay i l a ++ synI l a i).drop i = synI l a i := by
      have : (tay i l a ++ synI l a i).drop (tay i l a).length = synI l a i := List.drop_left
      rwa [e] at this
    rw [e1, e2, tay_snoc, List.append_assoc]
    rfl
theorem pas_all (l : List Rat) (a : Rat) : pas l a l.length = tay l.length l a := by
  rw [pas_tay _ (Nat.le_refl _)]
  have : synI l a l.length = [] := List.eq_nil_of_length_eq_zero (by rw [synI_len]; omega)
  rw [this, List.append_nil]

def sh_st (a : Rat) (L : List Rat) (n i : Int) (N : Nat) : St := mkS [(3, .ptr [3] 0), (5, .own [9] N), (11, ai n), (12, ai i)] [([3], boxR a), ([9], arrR N L)]
def si_st (a : Rat) (L : List Rat) (n i k : Int) (N : Nat) : St := mkS [(3, .ptr [3] 0), (5, .own [9] N), (6, ai i), (7, ai k), (11, ai n), (12, ai i)] [([3], boxR a), ([9], arrR N L)]
def sh_en (L : List Rat) (N : Nat) : St := mkS [(5, .own [9] N)] [([9], arrR N L)]
theorem ld4 (x y z t : D) : ldcells (some 4) 0 [.d x, .d y, .d z, .d t] = some (.d (.agg [x, y, z, t])) := rfl
variable [Its]

theorem si_go {a : Rat} {L : List Rat} {n i k : Nat} (hL : L.length = n) (hn : n ≤ 1000000000) (hi : i ≤ k) (hk : k + 1 < n) {K : Nat} (hK : K ≤ 10000000000) (sa : sz a ≤ K) (sL : SzL K L) :
    X G poly_Shift_l0 (si_st a L n i k n) = some (.n, si_st a (L.set k (L.getD k 0 + a * L.getD (k + 1) 0)) n i ((k : Int) - 1) n) := by
  have e1 : decide ((k : Int) ≥ (i : Int)) = true := decide_eq_true (by omega)
  obtain ⟨k1, hk1⟩ : ∃ k1 : Int, k1 = ((k + 1 : Nat) : Int) := ⟨_, rfl⟩
  have e2 : w64 ((k : Int) + 1) = k1 := by rw [w64_id (by omega) (by omega)]; omega
  have e3 : w64 ((k : Int) - 1) = (k : Int) - 1 := w64_id (by omega) (by omega)
  have c1 : ((0 : Int) ≤ (k : Int)) = True := eq_true (by omega)
  have c2 : ((k : Int) < (n : Int)) = True := eq_true (by omega)
  have c3 : ((0 : Int) ≤ k1) = True := eq_true (by omega)
  have c4 : (k1 < (n : Int)) = True := eq_true (by omega)
  have c5 : k1.toNat = k + 1 := by omega
  have h1K : 1 ≤ K := Nat.le_trans (sz_one a) sa
  have s1 := sL.getD h1K k
  have s2 := sL.getD h1K (k + 1)
  have g1 := ratMul_spec (a := a) (b := L.getD (k + 1) 0) (by omega) (by omega)
  have k1' := sz_mul (a := a) (b := L.getD (k + 1) 0)
  have g2 := ratAdd_spec (a := L.getD k 0) (b := a * L.getD (k + 1) 0) (by omega) (by omega)
  have l1 := ld_cA (l := L) (j := k) (by omega)
  have l2 := ld_cA (l := L) (j := k + 1) (by omega)
  have t1 := st_cA (l := L) (j := k) (by omega) (L.getD k 0 + a * L.getD (k + 1) 0)
  clear s1 s2 k1' sL hk1
  generalize L.getD k 0 + a * L.getD (k + 1) 0 = r at *
  generalize a * L.getD (k + 1) 0 = p at *
  generalize L.getD k 0 = u at *
  generalize L.getD (k + 1) 0 = v at *
  simp only [encR] at g1 g2
  simp -implicitDefEqProofs (maxSteps := 10000000) only [poly_Shift_l0, si_st, boxR, refsL_cA, allD, Int.toNat_natCast, l1, l2, t1, c1, c2, c3, c4, c5, ld4, e1, e2, e3, g1, g2, go_sem, iv, bv, and_self, reduceCtorEq, ↓reduceIte, Nat.reduceEqDiff]
theorem si_stop {a : Rat} {L : List Rat} {n i : Nat} {k : Int} (hk : k < (i : Int)) : X G poly_Shift_l0 (si_st a L n i k n) = some (.x 2, sh_st a L n i n) := by
  have e1 : decide (k ≥ (i : Int)) = false := decide_eq_false (by omega)
  simp -implicitDefEqProofs (maxSteps := 10000000) only [poly_Shift_l0, si_st, sh_st, boxR, refsL_cA, e1, go_sem, iv, bv, reduceCtorEq, ↓reduceIte, Nat.reduceEqDiff]
theorem si_loop {a : Rat} {l : List Rat} {n i : Nat} (hl : l.length = n) (hn : n ≤ 1000000000) {K : Nat} (hK : K ≤ 10000000000) (sa : sz a ≤ K) (hS : ∀ j, j < n → SzL K (hst l a j)) : ∀ j : Nat, i + j < n →
    X G (.loop poly_Shift_l0) (si_st a (hst l a (i + j)) n i ((i : Int) + (j : Int) - 1) n) = some (.x 2, sh_st a (hst l a i) n i n)
  | 0, h => by
    rw [X_loop, si_stop (by omega)]; rfl
  | j + 1, h => by
    have g := si_go (a := a) (L := hst l a (i + (j + 1))) (n := n) (i := i) (k := i + j) (by rw [hst_len (by omega), hl]) hn (by omega) (by omega) hK sa (hS _ h)
    have hs := hst_step (l := l) (a := a) (k := i + j) (by omega)
    rw [show i + (j + 1) = i + j + 1 by omega] at g ⊢
    rw [hs] at g
    have e : (i : Int) + ((j + 1 : Nat) : Int) - 1 = ((i + j : Nat) : Int) := by omega
    rw [X_loop, e, g, Option.bind_some, if_pos rfl]
    have ih := si_loop (i := i) hl hn hK sa hS j (by omega)
    rw [show (i : Int) + (j : Int) - 1 = ((i + j : Nat) : Int) - 1 by omega] at ih
    exact ih
theorem sh_go {a : Rat} {l : List Rat} {n i : Nat} (hl : l.length = n) (hn : n ≤ 1000000000) (hi : i < n) {K : Nat} (hK : K ≤ 10000000000) (sa : sz a ≤ K) (hS : ∀ j, j < n → SzL K (hst l a j)) :
    X G poly_Shift_l1 (sh_st a l n i n) = some (.n, sh_st a (hst l a i) n ((i + 1 : Nat) : Int) n) := by
  have e1 : decide ((i : Int) < (n : Int)) = true := lt_t (by omega)
  obtain ⟨z, hz⟩ : ∃ z, (n : Int) - 2 = z := ⟨_, rfl⟩
  have e2 : w64 ((n : Int) - 2) = z := by rw [w64_id (by omega) (by omega), hz]
  have e3 : w64 ((i : Int) + 1) = ((i + 1 : Nat) : Int) := by rw [w64_id (by omega) (by omega)]; rfl
  have hl2 := si_loop (a := a) (l := l) (n := n) (i := i) hl hn hK sa hS (n - 1 - i) (by omega)
  rw [show i + (n - 1 - i) = n - 1 by omega, hst_last (n := n - 1) (by omega), show (i : Int) + ((n - 1 - i : Nat) : Int) - 1 = z by omega] at hl2
  generalize hst l a i = L at *
  simp only [si_st, sh_st, boxR, go_sem] at hl2
  simp -implicitDefEqProofs (maxSteps := 10000000) only [poly_Shift_l1, sh_st, boxR, refsL_cA, hl2, e1, e2, e3, go_sem, iv, bv, reduceCtorEq, ↓reduceIte, Nat.reduceEqDiff]
theorem sh_stop {a : Rat} {L : List Rat} {n : Nat} : X G poly_Shift_l1 (sh_st a L n n n) = some (.x 0, sh_en L n) := by
  have e1 : decide ((n : Int) < (n : Int)) = false := lt_f (by omega)
  simp -implicitDefEqProofs (maxSteps := 10000000) only [poly_Shift_l1, sh_st, sh_en, boxR, refsL_cA, e1, go_sem, iv, bv, reduceCtorEq, ↓reduceIte, Nat.reduceEqDiff]
theorem sh_loop {a : Rat} {l : List Rat} {n : Nat} (hl : l.length = n) (hn : n ≤ 1000000000) {K : Nat} (hK : K ≤ 10000000000) (sa : sz a ≤ K) (hS : ∀ i j, i < n → j < n → SzL K (hst (pas l a i) a j)) : ∀ j i : Nat, i + j = n →
    X G (.loop poly_Shift_l1) (sh_st a (pas l a i) n i n) = some (.x 0, sh_en (pas l a n) n)
  | 0, i, h => by
    have : i = n := by omega
    subst this
    rw [X_loop, sh_stop]; rfl
  | j + 1, i, h => by
    rw [X_loop, sh_go (by rw [pas_len i (by omega), hl]) hn (by omega) hK sa (fun j hj => hS i j (by omega) hj), Option.bind_some, if_pos rfl]
    exact sh_loop hl hn hK sa hS j (i + 1) (by omega)
theorem Shift_spec_P {d : D} {l : List Rat} {a : Rat} (hr : RwR d l) (hn : l.length ≤ 1000000000) {K : Nat} (hK : K ≤ 10000000000) (sa : sz a ≤ K) (hS : ∀ i j, i < l.length → j < l.length → SzL K (hst (pas l a i) a j)) :
    ∃ d', RwR d' (shP l a) ∧ callX G n_poly_Shift [d, encR a] = some (.d d') := by
  rw [callX_eq (cf := poly_Shift) rfl]
  rcases hr with ⟨rfl, rfl⟩ | rfl
  · obtain ⟨d', hr', gT⟩ := Trim_spec RwR.nil (by decide)
    refine ⟨d', hr', ?_⟩
    have gC := Clone_nil
    have e1 : decide ((0 : Int) < 0) = false := rfl
    have hl : X G (.loop poly_Shift_l1) (mkS [(3, .ptr [3] 0), (5, .d (.z true)), (11, ai 0), (12, ai 0)] [([3], boxR a)]) = some (.x 0, mkS [(5, .d (.z true))] []) := by
      rw [X_loop]
      simp -implicitDefEqProofs (maxSteps := 10000000) only [poly_Shift_l1, boxR, hupdO_none, e1, go_sem, iv, bv, reduceCtorEq, ↓reduceIte, Nat.reduceEqDiff]
    simp only [boxR, go_sem] at hl
    simp -implicitDefEqProofs (maxSteps := 10000000) only [poly_Shift, encR, frzSt, hl, gT, gC, hupdO_none, go_sem, iv, bv, reduceCtorEq, ↓reduceIte, Nat.reduceEqDiff]
  · obtain ⟨d', hr', gT⟩ := Trim_spec (RwR.row (tay l.length l a)) (by rw [tay_len]; omega)
    refine ⟨d', hr', ?_⟩
    have gC := Clone_row (l := l) (by omega)
    have hl := sh_loop (a := a) (l := l) rfl hn hK sa hS l.length 0 (by omega)
    rw [pas_all] at hl
    have e0 : pas l a 0 = l := rfl
    rw [e0] at hl
    rw [rowR, tay_len] at gT
    unfold clR at gC
    simp only [Bool.false_eq_true, ↓reduceIte] at gC
    unfold rowR at *
    have m1 := map_cRs l
    generalize tay l.length l a = T at *
    simp only [sh_st, sh_en, boxR, go_sem, nc0] at hl
    simp -implicitDefEqProofs (maxSteps := 10000000) only [poly_Shift, encR, frzSt, m1, hl, gT, gC, allD_cA, refsL_cA, hupdO_none, go_sem, iv, bv, reduceCtorEq, ↓reduceIte, Nat.reduceEqDiff]
end Go.AM

/- poly.Div. -/
namespace Go.AM
open Go Go.RowKit

/-- Less f times q, from k on, the first i of them. -/
def dvI (R q : List Rat) (k : Nat) (f : Rat) : Nat → List Rat
  | 0 => R
  | i + 1 => (dvI R q k f i).set (k + i) ((dvI R q k f i).getD (k + i) 0 - f * q.getD i 0)
theorem dvI_len (R q : List Rat) (k : Nat) (f : Rat) : ∀ i, (dvI R q k f i).length = R.length
  | 0 => rfl
  | i + 1 => by rw [dvI, List.length_set, dvI_len R q k f i]
theorem lgetD_set {l : List Rat} {i j : Nat} {x : Rat} (hi : i < l.length) : (l.set i x).getD j 0 = if j = i then x else l.getD j 0 := by
  rw [List.getD_eq_getElem?_getD, List.getElem?_set]
  by_cases h : i = j
  · subst h; rw [if_pos rfl, if_pos hi, if_pos rfl]; rfl
  · rw [if_neg h, if_neg (fun h' => h h'.symm), ← List.getD_eq_getElem?_getD]
theorem dvI_getD {R q : List Rat} {k : Nat} {f : Rat} : ∀ i, k + i ≤ R.length → ∀ t, (dvI R q k f i).getD t 0 = if k ≤ t ∧ t < k + i then R.getD t 0 - f * q.getD (t - k) 0 else R.getD t 0
  | 0, _, t => by rw [if_neg (by omega)]; rfl
  | i + 1, h, t => by
    rw [dvI, lgetD_set (by rw [dvI_len]; omega), dvI_getD i (by omega), dvI_getD i (by omega)]
    by_cases h1 : t = k + i
    · subst h1
      rw [if_pos rfl, if_neg (by omega), if_pos (by omega), Nat.add_sub_cancel_left]
    · rw [if_neg h1]
      by_cases h2 : k ≤ t ∧ t < k + i
      · rw [if_pos h2, if_pos (by omega)]
      · rw [if_neg h2, if_neg (by omega)]
def dvF (R q : List Rat) (k : Nat) : Rat := R.getD (k + q.length - 1) 0 / q.getD (q.length - 1) 0
/-- Rest and quotient: m steps are left. -/
def dvO (q : List Rat) : Nat → List Rat → List Rat → List Rat × List Rat
  | 0, R, O => (R, O)
  | k + 1, R, O => dvO q k (dvI R q k (dvF R q k) q.length) (O.set k (dvF R q k))
/-- Small enough all the way. -/
def dvG (K : Nat) (q : List Rat) : Nat → List Rat → Prop
  | 0, R => True
  | k + 1, R => SzL K R ∧ dvG K q k (dvI R q k (dvF R q k) q.length)
def dvN (p q : List Rat) : Nat := p.length + 1 - q.length
def quoP (p q : List Rat) : List Rat := if q = [] then [] else trimR (dvO q (dvN p q) p (List.replicate (dvN p q) 0)).2
def remP (p q : List Rat) : List Rat := if q = [] then [] else trimR (dvO q (dvN p q) p (List.replicate (dvN p q) 0)).1
theorem dvO_len (q : List Rat) : ∀ (m : Nat) (R O : List Rat), (dvO q m R O).1.length = R.length ∧ (dvO q m R O).2.length = O.length
  | 0, R, O => ⟨rfl, rfl⟩
  | k + 1, R, O => by
    have ih := dvO_len q k (dvI R q k (dvF R q k) q.length) (O.set k (dvF R q k))
    rw [dvO]
    exact ⟨by rw [ih.1, dvI_len], by rw [ih.2, List.length_set]⟩
theorem dvI_szl {R q : List Rat} {k : Nat} {f : Rat} {K : Nat} (hR : SzL K R) (hq : SzL K q) (hf : sz f ≤ 2 * K) (h1 : 1 ≤ K) (i : Nat) (hi : k + i ≤ R.length) : SzL (4 * K + 1) (dvI R q k f i) := by
  intro x hx
  obtain ⟨t, ht, rfl⟩ := List.mem_iff_getElem.1 hx
  have e : (dvI R q k f i)[t] = (dvI R q k f i).getD t 0 := by
    rw [List.getD_eq_getElem?_getD, List.getElem?_eq_getElem ht]; rfl
  rw [e, dvI_getD i hi]
  have a1 := hR.getD h1 t
  split
  · have a2 := hq.getD h1 (t - k)
    have a3 := sz_mul (a := f) (b := q.getD (t - k) 0)
    have a4 := sz_sub (a := R.getD t 0) (b := f * q.getD (t - k) 0)
    omega
  · omega

def dv_st (dq : D) (R O : List Rat) (k : Int) (n m : Nat) : St := mkS [(1, .d dq), (6, .own [16] n), (7, .own [24] m), (8, ai k)] [([16], arrR n R), ([24], arrR m O)]
def di_st (dq : D) (R O : List Rat) (k i : Int) (f : Rat) (n m lq : Nat) : St := mkS [(1, .d dq), (6, .own [16] n), (7, .own [24] m), (8, ai k), (9, .ptr [9] 0), (53, .d dq), (54, ai lq), (55, ai i)] [([9], boxR f), ([16], arrR n R), ([24], arrR m O)]
def dv_en (R O : List Rat) (n m : Nat) : St := mkS [(6, .own [16] n), (7, .own [24] m)] [([16], arrR n R), ([24], arrR m O)]
theorem st4 (x y z t a b c d : A) : stcells 0 [a, b, c, d] [x, y, z, t] = some [a, b, c, d] := rfl
variable [Its]

section
variable {dq : D} {q : List Rat} {n m : Nat} {K : Nat}
theorem di_go {R O : List Rat} {f : Rat} {k i : Nat} (hq : RwR dq q) (hR : R.length = n) (hO : O.length = m) (hn : n ≤ 1000000000) (hi : i < q.length) (hk : k + q.length ≤ n) (sq : SzL K q) (sR : SzL K R) (sf : sz f ≤ K) (hK1 : 1 ≤ K) (hK : K ≤ 10000000000) :
    X G poly_Div_l0 (di_st dq R O k i f n m q.length) = some (.n, di_st dq (R.set (k + i) (R.getD (k + i) 0 - f * q.getD i 0)) O k ((i + 1 : Nat) : Int) f n m q.length) := by
  have e1 : decide ((i : Int) < (q.length : Int)) = true := lt_t (by omega)
  obtain ⟨t, ht⟩ : ∃ t : Int, t = ((k + i : Nat) : Int) := ⟨_, rfl⟩
  have e2 : w64 ((k : Int) + (i : Int)) = t := by rw [w64_id (by omega) (by omega)]; omega
  have e3 : w64 ((i : Int) + 1) = ((i + 1 : Nat) : Int) := by rw [w64_id (by omega) (by omega)]; rfl
  have c1 : ((0 : Int) ≤ t) = True := eq_true (by omega)
  have c2 : (t < (n : Int)) = True := eq_true (by omega)
  have c3 : t.toNat = k + i := by omega
  have x1 := hq.ixa hi
  have y1 := fun h => ldR h q hi
  have s1 := sq.getD hK1 i
  have s2 := sR.getD hK1 (k + i)
  have g1 := ratMul_spec (a := f) (b := q.getD i 0) (by omega) (by omega)
  have k1 := sz_mul (a := f) (b := q.getD i 0)
  have g2 := ratSub_spec (a := R.getD (k + i) 0) (b := f * q.getD i 0) (by omega) (by omega)
  have l1 := ld_cA (l := R) (j := k + i) (by omega)
  have t1 := st_cA (l := R) (j := k + i) (by omega) (R.getD (k + i) 0 - f * q.getD i 0)
  clear s1 s2 k1 sq sR ht
  generalize R.getD (k + i) 0 - f * q.getD i 0 = r at *
  generalize f * q.getD i 0 = p at *
  generalize R.getD (k + i) 0 = u at *
  generalize q.getD i 0 = v at *
  generalize cRs (q.drop i) = cs at *
  simp only [encR] at g1 g2 y1
  simp -implicitDefEqProofs (maxSteps := 10000000) only [poly_Div_l0, di_st, boxR, refsL_cA, allD, ld4, st4, l1, t1, x1, y1, c1, c2, c3, e1, e2, e3, g1, g2, go_sem, iv, bv, and_self, reduceCtorEq, ↓reduceIte, Nat.reduceEqDiff]
theorem di_stop {R O : List Rat} {f : Rat} {k : Int} : X G poly_Div_l0 (di_st dq R O k (q.length : Nat) f n m q.length) = some (.x 2, dv_st dq R O k n m) := by
  have e1 : decide ((q.length : Int) < (q.length : Int)) = false := lt_f (by omega)
  simp -implicitDefEqProofs (maxSteps := 10000000) only [poly_Div_l0, di_st, dv_st, boxR, refsL_cA, e1, go_sem, iv, bv, reduceCtorEq, ↓reduceIte, Nat.reduceEqDiff]
theorem di_loop {R O : List Rat} {f : Rat} {k : Nat} (hq : RwR dq q) (hR : R.length = n) (hO : O.length = m) (hn : n ≤ 1000000000) (hk : k + q.length ≤ n) (sq : SzL K q) (sR : SzL K R) (sf : sz f ≤ 2 * K) (hK1 : 1 ≤ K) (hK : K ≤ 1000000000) : ∀ j i : Nat, i + j = q.length →
    X G (.loop poly_Div_l0) (di_st dq (dvI R q k f i) O k i f n m q.length) = some (.x 2, dv_st dq (dvI R q k f q.length) O k n m)
  | 0, i, h => by
    have : i = q.length := by omega
    subst this
    rw [X_loop, di_stop]; rfl
  | j + 1, i, h => by
    have hs := dvI_szl (k := k) sR sq sf hK1 i (by omega)
    rw [X_loop, di_go (K := 4 * K + 1) hq (by rw [dvI_len, hR]) hO hn (by omega) hk (sq.mono (by omega)) hs (by omega) (by omega) (by omega), Option.bind_some, if_pos rfl]
    exact di_loop hq hR hO hn hk sq sR sf hK1 hK j (i + 1) (by omega)
theorem dv_go {R O : List Rat} {k : Nat} (hq : RwR dq q) (hq0 : 0 < q.length) (hR : R.length = n) (hO : O.length = m) (hn : n ≤ 1000000000) (hk : k + q.length ≤ n) (hm : k < m) (sq : SzL K q) (sR : SzL K R) (hK1 : 1 ≤ K) (hK : K ≤ 1000000000) :
    X G poly_Div_l1 (dv_st dq R O k n m) = some (.n, dv_st dq (dvI R q k (dvF R q k) q.length) (O.set k (dvF R q k)) ((k : Int) - 1) n m) := by
  have e1 : decide ((k : Int) ≥ 0) = true := decide_eq_true (by omega)
  obtain ⟨z, hz⟩ : ∃ z, (k : Int) + (q.length : Int) = z := ⟨_, rfl⟩
  obtain ⟨t, ht⟩ : ∃ t, z - 1 = t := ⟨_, rfl⟩
  have e2 : w64 ((k : Int) + (q.length : Int)) = z := by rw [w64_id (by omega) (by omega), hz]
  have e3 : w64 (z - 1) = t := by rw [w64_id (by omega) (by omega), ht]
  have e4 : w64 ((q.length : Int) - 1) = ((q.length - 1 : Nat) : Int) := by rw [w64_id (by omega) (by omega)]; omega
  have e5 : w64 ((k : Int) - 1) = (k : Int) - 1 := w64_id (by omega) (by omega)
  have c1 : ((0 : Int) ≤ t) = True := eq_true (by omega)
  have c2 : (t < (n : Int)) = True := eq_true (by omega)
  have c3 : t.toNat = k + q.length - 1 := by omega
  have c4 : ((0 : Int) ≤ (k : Int)) = True := eq_true (by omega)
  have c5 : ((k : Int) < (m : Int)) = True := eq_true (by omega)
  have hqi : q.length - 1 < q.length := by omega
  have x1 := hq.ixa hqi
  have y1 := fun h => ldR h q hqi
  have lq := hq.len
  have l1 := ld_cA (l := R) (j := k + q.length - 1) (by omega)
  have s1 := sq.getD hK1 (q.length - 1)
  have s2 := sR.getD hK1 (k + q.length - 1)
  have g1 := ratDiv_spec (a := R.getD (k + q.length - 1) 0) (b := q.getD (q.length - 1) 0) (by omega) (by omega)
  have sf := sz_div (a := R.getD (k + q.length - 1) 0) (b := q.getD (q.length - 1) 0)
  have hf : R.getD (k + q.length - 1) 0 / q.getD (q.length - 1) 0 = dvF R q k := rfl
  rw [hf] at g1 sf
  have t1 := st_cA (l := O) (j := k) (by omega) (dvF R q k)
  have hl := di_loop (O := O.set k (dvF R q k)) (f := dvF R q k) (k := k) hq hR (by rw [List.length_set, hO]) hn hk sq sR (by omega) hK1 hK q.length 0 (by omega)
  have d0 : dvI R q k (dvF R q k) 0 = R := rfl
  rw [d0] at hl
  clear s1 s2 sf sq sR hf d0 hz ht
  generalize dvI R q k (dvF R q k) q.length = R2 at *
  generalize dvF R q k = f at *
  generalize R.getD (k + q.length - 1) 0 = u at *
  generalize q.getD (q.length - 1) 0 = v at *
  generalize cRs (q.drop (q.length - 1)) = cs at *
  simp only [encR] at g1 y1
  simp only [di_st, dv_st, boxR, go_sem, nc0] at hl
  simp -implicitDefEqProofs (maxSteps := 10000000) only [poly_Div_l1, dv_st, boxR, refsL_cA, allD, Int.toNat_natCast, ld4, st4, lq, l1, t1, x1, y1, c1, c2, c3, c4, c5, e1, e2, e3, e4, e5, g1, hl, go_sem, iv, bv, and_self, reduceCtorEq, ↓reduceIte, Nat.reduceEqDiff]
theorem dv_stop {R O : List Rat} {k : Int} (hk : k < 0) : X G poly_Div_l1 (dv_st dq R O k n m) = some (.x 0, dv_en R O n m) := by
  have e1 : decide (k ≥ 0) = false := decide_eq_false (by omega)
  simp -implicitDefEqProofs (maxSteps := 10000000) only [poly_Div_l1, dv_st, dv_en, refsL_cA, e1, go_sem, iv, bv, reduceCtorEq, ↓reduceIte, Nat.reduceEqDiff]
theorem dv_loop (hq : RwR dq q) (hq0 : 0 < q.length) (hn : n ≤ 1000000000) (sq : SzL K q) (hK1 : 1 ≤ K) (hK : K ≤ 1000000000) : ∀ (j : Nat) (R O : List Rat), R.length = n → O.length = m → j ≤ m → (0 < j → j - 1 + q.length ≤ n) → dvG K q j R →
    X G (.loop poly_Div_l1) (dv_st dq R O ((j : Int) - 1) n m) = some (.x 0, dv_en (dvO q j R O).1 (dvO q j R O).2 n m)
  | 0, R, O, hR, hO, _, _, _ => by
    rw [X_loop, dv_stop (by omega)]; rfl
  | k + 1, R, O, hR, hO, hm, hj, hg => by
    rw [show ((k + 1 : Nat) : Int) - 1 = (k : Int) by omega]
    have hj' := hj (by omega)
    rw [X_loop, dv_go hq hq0 hR hO hn (by omega) (by omega) sq hg.1 hK1 hK, Option.bind_some, if_pos rfl]
    have ih := dv_loop hq hq0 hn sq hK1 hK k (dvI R q k (dvF R q k) q.length) (O.set k (dvF R q k)) (by rw [dvI_len, hR]) (by rw [List.length_set, hO]) (by omega) (fun _ => by omega) hg.2
    rw [dvO]
    exact ih
theorem Div_spec_P {dp : D} {p : List Rat} (hp : RwR dp p) (hq : RwR dq q) (hn : p.length ≤ 1000000000) (hn2 : q.length ≤ 1000000000) (sq : SzL K q) (hK1 : 1 ≤ K) (hK : K ≤ 1000000000) (hg : dvG K q (dvN p q) p) :
    ∃ d1 d2, RwR d1 (quoP p q) ∧ RwR d2 (remP p q) ∧ callX G n_poly_Div [dp, dq] = some (.d (.tup [d1, d2])) := by
  rw [callX_eq (cf := poly_Div) rfl]
  have lp := hp.len
  have lq := hq.len
  by_cases hq0 : q.length = 0
  · have hqn : q = [] := List.eq_nil_of_length_eq_zero hq0
    subst hqn
    refine ⟨.z true, .z true, RwR.nil, RwR.nil, ?_⟩
    have e1 : (((([] : List Rat).length : Nat) : Int) == 0) = true := rfl
    have e1' : ((0 : Int) == 0) = true := rfl
    simp -implicitDefEqProofs (maxSteps := 10000000) only [poly_Div, toDs, e1, e1', lq, go_sem, iv, bv, reduceCtorEq, ↓reduceIte, Nat.reduceEqDiff]
  · have hqn : q ≠ [] := fun h => hq0 (by rw [h]; rfl)
    unfold quoP remP
    rw [if_neg hqn, if_neg hqn]
    have e1 : ((q.length : Int) == 0) = false := beq_f (by omega)
    obtain ⟨z, hz⟩ : ∃ z, (p.length : Int) - (q.length : Int) = z := ⟨_, rfl⟩
    have e2 : w64 ((p.length : Int) - (q.length : Int)) = z := by rw [w64_id (by omega) (by omega), hz]
    obtain ⟨z1, hz1⟩ : ∃ z1, z + 1 = z1 := ⟨_, rfl⟩
    have e3 : w64 (z + 1) = z1 := by rw [w64_id (by omega) (by omega), hz1]
    have e4 : (if z1 > (0 : Int) then z1 else (0 : Int)) = ((dvN p q : Nat) : Int) := by unfold dvN; split <;> omega
    have c1 : ((0 : Int) ≤ ((dvN p q : Nat) : Int)) = True := eq_true (by omega)
    have hN : dvN p q ≤ 1000000000 := by unfold dvN; omega
    have c2 : (((dvN p q : Nat) : Int) * ((64 : Nat) : Int) ≤ (bound : Int)) = True := eq_true (by have : (bound : Int) = 140737488351232 := rfl; omega)
    have r0 := cRs_rep (dvN p q)
    have m0 := map_cRs (List.replicate (dvN p q) (0 : Rat))
    have hO : (List.replicate (dvN p q) (0 : Rat)).length = dvN p q := List.length_replicate
    rcases hp with ⟨rfl, rfl⟩ | rfl
    · have hN0 : dvN [] q = 0 := by unfold dvN; simp; omega
      rw [hN0]
      obtain ⟨d1, hr1, gT1⟩ := Trim_spec (RwR.row []) (by decide)
      obtain ⟨d2, hr2, gT2⟩ := Trim_spec RwR.nil (by decide)
      refine ⟨d1, d2, hr1, hr2, ?_⟩
      have gC := Clone_nil
      have e5 : decide (z ≥ 0) = false := decide_eq_false (by simp at hz; omega)
      have h0 : (z1 > (0 : Int)) = False := eq_false (by simp at hz; omega)
      have hl : X G (.loop poly_Div_l1) ⟨frL [(1, .d dq), (6, .d (.z true)), (7, .own [24] 0), (8, ai z)], hupdO (hupd hp0 [24] ⟨4, 0, [], false⟩) [16] none, []⟩ = some (.x 0, ⟨frL [(6, .d (.z true)), (7, .own [24] 0)], hupdO (hupd hp0 [24] ⟨4, 0, [], false⟩) [16] none, []⟩) := by
        rw [X_loop]
        simp -implicitDefEqProofs (maxSteps := 10000000) only [poly_Div_l1, e5, go_sem, iv, bv, reduceCtorEq, ↓reduceIte, Nat.reduceEqDiff]
      have b0 : ((0 : Int) * ((64 : Nat) : Int) ≤ (bound : Int)) = True := eq_true (by decide)
      have rz : ∀ zs, rep 0 zs = [] := fun _ => rfl
      have t0 : (0 : Int).toNat = 0 := rfl
      clear e4 c1 c2 r0 m0 hO
      simp only [rowR, cRs, List.length_nil] at gT1
      simp only [List.length_nil] at e2 lp
      have e2' : w64 (0 - (q.length : Int)) = z := e2
      simp only [go_sem] at hl
      simp -implicitDefEqProofs (maxSteps := 10000000) only [poly_Div, frzSt, toDs, foldV, mxV, h0, rz, t0, b0, allD, List.map_nil, Int.le_refl, hl, gT1, gT2, gC, lp, lq, e1, e2', e3, true_and, and_self, go_sem, iv, bv, reduceCtorEq, ↓reduceIte, Nat.reduceEqDiff]
    · have hl := dv_loop (m := dvN p q) hq (by omega) hn sq hK1 hK (dvN p q) p (List.replicate (dvN p q) 0) rfl hO (Nat.le_refl _) (fun _ => by unfold dvN; omega) hg
      obtain ⟨dl1, dl2⟩ := dvO_len q (dvN p q) p (List.replicate (dvN p q) 0)
      rw [hO] at dl2
      have gC := Clone_row (l := p) (by omega)
      unfold clR at gC
      simp only [Bool.false_eq_true, ↓reduceIte] at gC
      have m1 := map_cRs p
      obtain ⟨d1, hr1, gT1⟩ := Trim_spec (RwR.row (dvO q (dvN p q) p (List.replicate (dvN p q) 0)).2) (by omega)
      obtain ⟨d2, hr2, gT2⟩ := Trim_spec (RwR.row (dvO q (dvN p q) p (List.replicate (dvN p q) 0)).1) (by omega)
      refine ⟨d1, d2, hr1, hr2, ?_⟩
      rw [rowR, dl2] at gT1
      rw [rowR, dl1] at gT2
      clear hr1 hr2 dl1 dl2 hg hO
      generalize (dvO q (dvN p q) p (List.replicate (dvN p q) 0)).1 = R at *
      generalize (dvO q (dvN p q) p (List.replicate (dvN p q) 0)).2 = O at *
      by_cases hz0 : z ≥ 0
      · have ek : ((dvN p q : Nat) : Int) - 1 = z := by unfold dvN; omega
        rw [ek] at hl
        unfold rowR at *
        simp only [dv_st, dv_en, go_sem] at hl
        simp -implicitDefEqProofs (maxSteps := 10000000) only [poly_Div, frzSt, toDs, foldV, mxV, r0, m0, m1, Int.toNat_natCast, hl, gT1, gT2, gC, lp, lq, e1, e2, e3, e4, c1, c2, allD_cA, refsL_cA, hupdO_none, true_and, and_self, go_sem, iv, bv, reduceCtorEq, ↓reduceIte, Nat.reduceEqDiff]
      · have hN0 : dvN p q = 0 := by unfold dvN; omega
        have hst : X G (.loop poly_Div_l1) (dv_st dq p (List.replicate (dvN p q) 0) z p.length (dvN p q)) = some (.x 0, dv_en p (List.replicate (dvN p q) 0) p.length (dvN p q)) := by
          rw [X_loop, dv_stop (by omega)]; rfl
        have hst2 : X G (.loop poly_Div_l1) (dv_st dq p (List.replicate (dvN p q) 0) (((dvN p q : Nat) : Int) - 1) p.length (dvN p q)) = some (.x 0, dv_en p (List.replicate (dvN p q) 0) p.length (dvN p q)) := by
          rw [X_loop, dv_stop (by omega)]; rfl
        rw [hst2] at hl
        have hl' : dv_en p (List.replicate (dvN p q) 0) p.length (dvN p q) = dv_en R O p.length (dvN p q) := by
          simpa using hl
        rw [hl'] at hst
        clear hl hl' hst2
        unfold rowR at *
        simp only [dv_st, dv_en, go_sem] at hst
        simp -implicitDefEqProofs (maxSteps := 10000000) only [poly_Div, frzSt, toDs, foldV, mxV, r0, m0, m1, Int.toNat_natCast, hst, gT1, gT2, gC, lp, lq, e1, e2, e3, e4, c1, c2, allD_cA, refsL_cA, hupdO_none, true_and, and_self, go_sem, iv, bv, reduceCtorEq, ↓reduceIte, Nat.reduceEqDiff]
end
end Go.AM

/- poly.monic, Gcd, Free; closed inputs. -/
namespace Go.AM
open Go Go.RowKit

def mnP (l : List Rat) : List Rat := if l = [] then [] else scP l (1 / l.getD (l.length - 1) 0)
theorem mnP_len (l : List Rat) : (mnP l).length ≤ l.length := by
  unfold mnP; split
  · simp
  · exact len_sc _ _
theorem trm_mn (l : List Rat) : Trm (mnP l) := by
  unfold mnP; split
  · exact trm_nil
  · exact trm_sc _ _
theorem remP_len (p q : List Rat) : (remP p q).length ≤ p.length := by
  unfold remP; split
  · simp
  · have := trimR_le (dvO q (dvN p q) p (List.replicate (dvN p q) 0)).1
    rw [(dvO_len q _ _ _).1] at this
    exact this
theorem quoP_len (p q : List Rat) : (quoP p q).length ≤ dvN p q := by
  unfold quoP; split
  · simp
  · have := trimR_le (dvO q (dvN p q) p (List.replicate (dvN p q) 0)).2
    rw [(dvO_len q _ _ _).2, List.length_replicate] at this
    exact this
def gcP : Nat → List Rat → List Rat → List Rat
  | 0, a, _ => a
  | n + 1, a, b => if b = [] then a else gcP n b (mnP (remP a b))
def gcdP (p q : List Rat) : List Rat := gcP (q.length + 1) (mnP p) (mnP q)
def frP (p : List Rat) : List Rat := mnP (quoP p (gcdP p (deP p)))
/-- Small enough all the way. -/
def gcG (K : Nat) : Nat → List Rat → List Rat → Prop
  | 0, _, b => b = []
  | n + 1, a, b => b = [] ∨ (SzL K b ∧ dvG K b (dvN a b) a ∧ SzL K (remP a b) ∧ gcG K n b (mnP (remP a b)))

/-! ### Closed inputs: all of them of one digit -/
def sm1 (q : Rat) : Bool := decide (q.num.natAbs < 1000000000) && decide (q.den < 1000000000)
def smL (l : List Rat) : Bool := l.all sm1
theorem smL_ok {l : List Rat} (h : smL l = true) : SzL 1 l := fun q hq => by
  have h1 := List.all_eq_true.1 h q hq
  simp only [sm1, Bool.and_eq_true, decide_eq_true_eq] at h1
  exact sz_le (nd_le (k := 1) (by rw [Nat.pow_one]; exact h1.1)) (nd_le (k := 1) (by rw [Nat.pow_one, Int.natAbs_natCast]; exact h1.2))
def dvB (q : List Rat) : Nat → List Rat → Bool
  | 0, _ => true
  | k + 1, R => smL R && dvB q k (dvI R q k (dvF R q k) q.length)
theorem dvB_ok {q : List Rat} : ∀ {m : Nat} {R : List Rat}, dvB q m R = true → dvG 1 q m R
  | 0, _, _ => trivial
  | k + 1, R, h => by
    simp only [dvB, Bool.and_eq_true] at h
    exact ⟨smL_ok h.1, dvB_ok h.2⟩
def gcB : Nat → List Rat → List Rat → Bool
  | 0, _, b => decide (b = [])
  | n + 1, a, b => decide (b = []) || (smL b && dvB b (dvN a b) a && smL (remP a b) && gcB n b (mnP (remP a b)))
theorem gcB_ok : ∀ {n : Nat} {a b : List Rat}, gcB n a b = true → gcG 1 n a b
  | 0, _, b, h => by
    have h' : decide (b = []) = true := h
    show b = []
    exact of_decide_eq_true h'
  | n + 1, a, b, h => by
    simp only [gcB, Bool.or_eq_true, Bool.and_eq_true, decide_eq_true_eq] at h
    rcases h with h | h
    · exact .inl h
    · exact .inr ⟨smL_ok h.1.1.1, dvB_ok h.1.1.2, smL_ok h.1.2, gcB_ok h.2⟩
def shB (l : List Rat) (a : Rat) : Bool := (List.range l.length).all fun i => (List.range l.length).all fun j => smL (hst (pas l a i) a j)
theorem shB_ok {l : List Rat} {a : Rat} (h : shB l a = true) : ∀ i j, i < l.length → j < l.length → SzL 1 (hst (pas l a i) a j) := fun i j hi hj =>
  smL_ok (List.all_eq_true.1 (List.all_eq_true.1 h i (List.mem_range.2 hi)) j (List.mem_range.2 hj))
variable [Its]

theorem rone1_spec : callX G n_rat_Of [iv 1, iv 1] = some (.d (encR 1)) := by
  have g := ratOf_spec (n := 1) (d := 1) ⟨by omega, by omega⟩ ⟨by omega, by omega⟩
  have e : Rat.divInt 1 1 = 1 := divInt_one 1
  rw [e] at g; exact g
theorem monic_spec {d : D} {l : List Rat} (hr : RwR d l) (hn : l.length ≤ 1000000000) {K : Nat} (sl : SzL K l) (hK1 : 1 ≤ K) (hK : K ≤ 1000000000) : ∃ d', RwR d' (mnP l) ∧ callX G n_poly_monic [d] = some (.d d') := by
  rw [callX_eq (cf := poly_monic) rfl]
  have ll := hr.len
  by_cases h0 : l.length = 0
  · have : l = [] := List.eq_nil_of_length_eq_zero h0
    subst this
    refine ⟨.z true, .inl ⟨rfl, rfl⟩, ?_⟩
    have e1 : ((0 : Int) == 0) = true := rfl
    simp only [List.length_nil] at ll
    simp -implicitDefEqProofs (maxSteps := 10000000) only [poly_monic, ll, e1, go_sem, iv, bv, reduceCtorEq, ↓reduceIte, Nat.reduceEqDiff]
  · have hne : l ≠ [] := fun h => h0 (by rw [h]; rfl)
    unfold mnP
    rw [if_neg hne]
    have e1 : ((l.length : Int) == 0) = false := beq_f (by omega)
    have e2 : w64 ((l.length : Int) - 1) = ((l.length - 1 : Nat) : Int) := by rw [w64_id (by omega) (by omega)]; omega
    have hl : l.length - 1 < l.length := by omega
    have x1 := hr.ixa hl
    have y1 := fun h => ldR h l hl
    have s1 := sl.getD hK1 (l.length - 1)
    have g1 := rone1_spec
    have g2 := ratDiv_spec (a := 1) (b := l.getD (l.length - 1) 0) (by rw [sz_one_]; omega) (by omega)
    have s2 := sz_div (a := 1) (b := l.getD (l.length - 1) 0)
    rw [sz_one_] at s2
    obtain ⟨d', hr', gS⟩ := Scale_spec_P (a := 1 / l.getD (l.length - 1) 0) hr (K := K + 1) (sl.mono (by omega)) (by omega) (by omega) (by omega) hn
    refine ⟨d', hr', ?_⟩
    clear s1 s2 hr'
    generalize 1 / l.getD (l.length - 1) 0 = r at *
    generalize l.getD (l.length - 1) 0 = u at *
    generalize cRs (l.drop (l.length - 1)) = cs at *
    generalize ((l.length - 1 : Nat) : Int) = z at *
    generalize (1 : Rat) = one at *
    simp only [encR, iv] at g1 g2 y1 gS
    simp -implicitDefEqProofs (maxSteps := 10000000) only [poly_monic, ll, x1, y1, e1, e2, g1, g2, gS, go_sem, iv, bv, reduceCtorEq, ↓reduceIte, Nat.reduceEqDiff]

def gc_st (da db : D) : St := mkS [(0, .d da), (1, .d db)] []
def gc_en (da : D) : St := mkS [(0, .d da)] []
theorem gc_stop {da db : D} (hb : RwR db []) : X G poly_Gcd_l0 (gc_st da db) = some (.x 0, gc_en da) := by
  have ll := hb.len
  have e1 : decide ((0 : Int) > 0) = false := rfl
  simp only [List.length_nil] at ll
  simp -implicitDefEqProofs (maxSteps := 10000000) only [poly_Gcd_l0, gc_st, gc_en, ll, e1, go_sem, iv, bv, reduceCtorEq, ↓reduceIte, Nat.reduceEqDiff]
theorem gc_go {da db : D} {a b : List Rat} (ha : RwR da a) (hb : RwR db b) (hne : b ≠ []) (na : a.length ≤ 1000000000) (nb : b.length ≤ 1000000000) {K : Nat} (hK1 : 1 ≤ K) (hK : K ≤ 1000000000) (sb : SzL K b) (hg : dvG K b (dvN a b) a) (sr : SzL K (remP a b)) :
    ∃ d', RwR d' (mnP (remP a b)) ∧ X G poly_Gcd_l0 (gc_st da db) = some (.n, gc_st db d') := by
  obtain ⟨d1, d2, h1, h2, gD⟩ := Div_spec_P ha hb na nb sb hK1 hK hg
  obtain ⟨d3, h3, gM⟩ := monic_spec h2 (Nat.le_trans (remP_len a b) na) sr hK1 hK
  refine ⟨d3, h3, ?_⟩
  have hl : 0 < b.length := List.length_pos_iff.2 hne
  have ll := hb.len
  have e1 : decide ((b.length : Int) > 0) = true := gt_t (by omega)
  simp -implicitDefEqProofs (maxSteps := 10000000) only [poly_Gcd_l0, gc_st, ll, e1, gD, gM, go_sem, iv, bv, reduceCtorEq, ↓reduceIte, Nat.reduceEqDiff]
theorem gc_loop {K : Nat} (hK1 : 1 ≤ K) (hK : K ≤ 1000000000) : ∀ (n : Nat) (a b : List Rat) (da db : D), RwR da a → RwR db b → a.length ≤ 1000000000 → b.length ≤ 1000000000 → gcG K n a b → ∃ d', RwR d' (gcP n a b) ∧ X G (.loop poly_Gcd_l0) (gc_st da db) = some (.x 0, gc_en d')
  | 0, a, b, da, db, ha, hb, na, nb, hg => by
    have hb' : b = [] := hg
    subst hb'
    exact ⟨da, ha, by rw [X_loop, gc_stop hb]; rfl⟩
  | n + 1, a, b, da, db, ha, hb, na, nb, hg => by
    by_cases hb0 : b = []
    · subst hb0
      rw [gcP, if_pos rfl]
      exact ⟨da, ha, by rw [X_loop, gc_stop hb]; rfl⟩
    · rw [gcP, if_neg hb0]
      rcases hg with hg | ⟨g1, g2, g3, g4⟩
      · exact absurd hg hb0
      · obtain ⟨d1, h1, hx⟩ := gc_go ha hb hb0 na nb hK1 hK g1 g2 g3
        obtain ⟨d', h', hl⟩ := gc_loop hK1 hK n b (mnP (remP a b)) db d1 hb h1 nb (Nat.le_trans (mnP_len _) (Nat.le_trans (remP_len a b) na)) g4
        exact ⟨d', h', by rw [X_loop, hx, Option.bind_some, if_pos rfl]; exact hl⟩
theorem Gcd_spec_P {dp dq : D} {p q : List Rat} (hp : RwR dp p) (hq : RwR dq q) (np : p.length ≤ 1000000000) (nq : q.length ≤ 1000000000) {K : Nat} (hK1 : 1 ≤ K) (hK : K ≤ 1000000000) (sp : SzL K p) (sq : SzL K q) (hg : gcG K (q.length + 1) (mnP p) (mnP q)) :
    ∃ d', RwR d' (gcdP p q) ∧ callX G n_poly_Gcd [dp, dq] = some (.d d') := by
  rw [callX_eq (cf := poly_Gcd) rfl]
  obtain ⟨d1, h1, g1⟩ := monic_spec hp np sp hK1 hK
  obtain ⟨d2, h2, g2⟩ := monic_spec hq nq sq hK1 hK
  obtain ⟨d', h', hl⟩ := gc_loop hK1 hK (q.length + 1) (mnP p) (mnP q) d1 d2 h1 h2 (Nat.le_trans (mnP_len _) np) (Nat.le_trans (mnP_len _) nq) hg
  refine ⟨d', h', ?_⟩
  simp only [gc_st, gc_en, go_sem] at hl
  simp -implicitDefEqProofs (maxSteps := 10000000) only [poly_Gcd, g1, g2, hl, go_sem, iv, bv, reduceCtorEq, ↓reduceIte, Nat.reduceEqDiff]
theorem Free_spec_P {dp : D} {p : List Rat} (hp : RwR dp p) (np' : p.length < 1000000000) {K : Nat} (hK1 : 1 ≤ K) (hK : K ≤ 1000000000) (sp : SzL K p) (sd : SzL K (deP p)) (hg : gcG K ((deP p).length + 1) (mnP p) (mnP (deP p))) (ng : (gcdP p (deP p)).length ≤ 1000000000) (sg : SzL K (gcdP p (deP p))) (hd : dvG K (gcdP p (deP p)) (dvN p (gcdP p (deP p))) p) (so : SzL K (quoP p (gcdP p (deP p)))) :
    ∃ d', RwR d' (frP p) ∧ callX G n_poly_Free [dp] = some (.d d') := by
  have np : p.length ≤ 1000000000 := by omega
  rw [callX_eq (cf := poly_Free) rfl]
  obtain ⟨d1, h1, g1⟩ := Derive_spec_P hp sp hK1 (by omega) np
  obtain ⟨d2, h2, g2⟩ := Gcd_spec_P hp h1 np (Nat.le_trans (len_de p) (by omega)) hK1 hK sp sd hg
  obtain ⟨d3, d4, h3, h4, g3⟩ := Div_spec_P hp h2 np ng sg hK1 hK hd
  obtain ⟨d', h', g4⟩ := monic_spec h3 (Nat.le_trans (quoP_len p _) (by unfold dvN; omega)) so hK1 hK
  refine ⟨d', h', ?_⟩
  simp -implicitDefEqProofs (maxSteps := 10000000) only [poly_Free, g1, g2, g3, g4, go_sem, iv, bv, reduceCtorEq, ↓reduceIte, Nat.reduceEqDiff]
end Go.AM

/- ref04.Same at equal numbers. -/
namespace Go.AM
open Go Go.RowKit

def bx2 (b : Bool) (l : List Int) : Obj := ⟨0, 0, [.d (.v (.bool b)), .d (dg l)], false⟩
theorem bself (b : Bool) : (b == b) = true := by cases b <;> rfl
variable [Its]

def s4_st (b : Bool) (l : List Int) (i : Int) : St := mkS [(2, .ptr [2] 0), (3, .ptr [3] 0), (5, ai i)] [([2], bx2 b l), ([3], bx2 b l)]
theorem s4_go {b : Bool} {l : List Int} (hl : l.length ≤ 1000000000000) {i : Nat} (hi : i < l.length) : X G gantryref04_Same_l0 (s4_st b l i) = some (.n, s4_st b l ((i + 1 : Nat) : Int)) := by
  have e1 : decide ((i : Int) < (l.length : Int)) = true := lt_t (by omega)
  have e2 : w64 ((i : Int) + 1) = ((i + 1 : Nat) : Int) := by rw [w64_id (by omega) (by omega)]; rfl
  have x1 := (Rw.dg l).ixn hi
  have x2 := fun h => ldv h l hi
  have e3 : (l.getD i 0 != l.getD i 0) = false := bne_self_eq_false _
  simp -implicitDefEqProofs (maxSteps := 10000000) only [gantryref04_Same_l0, s4_st, bx2, x1, x2, e1, e2, e3, go_sem, stcells, ldcells, iv, bv, reduceCtorEq, ↓reduceIte, Nat.reduceEqDiff]
theorem s4_stop {b : Bool} {l : List Int} : X G gantryref04_Same_l0 (s4_st b l (l.length : Nat)) = some (.x 0, mkS [] []) := by
  have e1 : decide ((l.length : Int) < (l.length : Int)) = false := lt_f (by omega)
  simp -implicitDefEqProofs (maxSteps := 10000000) only [gantryref04_Same_l0, s4_st, bx2, e1, go_sem, stcells, ldcells, iv, bv, reduceCtorEq, ↓reduceIte, Nat.reduceEqDiff]
theorem s4_loop {b : Bool} {l : List Int} (hl : l.length ≤ 1000000000000) : ∀ j i : Nat, i + j = l.length → X G (.loop gantryref04_Same_l0) (s4_st b l i) = some (.x 0, mkS [] [])
  | 0, i, h => by
    have : i = l.length := by omega
    subst this
    rw [X_loop, s4_stop]; rfl
  | j + 1, i, h => by
    rw [X_loop, s4_go hl (by omega), Option.bind_some, if_pos rfl]
    exact s4_loop hl j (i + 1) (by omega)
theorem s4_refl {b : Bool} {l : List Int} (hl : l.length ≤ 1000000000000) : callX G n_gantryref04_Same [.agg [.v (.bool b), dg l], .agg [.v (.bool b), dg l]] = some (.d (bv true)) := by
  rw [callX_eq (cf := gantryref04_Same) rfl]
  have h := s4_loop (b := b) hl l.length 0 (by omega)
  have e1 : ((l.length : Int) != (l.length : Int)) = false := bne_self_eq_false _
  have e2 := bself b
  simp only [s4_st, bx2, go_sem, nc0] at h
  simp -implicitDefEqProofs (maxSteps := 10000000) only [gantryref04_Same, h, e1, e2, go_sem, stcells, ldcells, iv, bv, reduceCtorEq, ↓reduceIte, Nat.reduceEqDiff]
end Go.AM

/- Equality: ref04, ref05, ref06.Same, rat.Same at equal numbers. -/
namespace Go.AM
open Go Go.RowKit

variable [Its]
theorem s5_refl {a : Rat} (ha : sz a ≤ 100000000000) : callX G n_gantryref05_Same [encR a, encR a] = some (.d (bv true)) := by
  rw [callX_eq (cf := gantryref05_Same) rfl]
  have h1 : (digs a.num.natAbs).length ≤ 1000000000000 := by have := sz_num ha; unfold nd at this; omega
  have h2 : (dd a.den).length ≤ 1000000000000 := by
    have := sz_den ha
    unfold nd at this
    rw [Int.natAbs_natCast] at this
    unfold dd
    split
    · simp
    · omega
  have g1 := s4_refl (b := decide (a.num < 0)) h1
  have g2 := s4_refl (b := false) h2
  clear h1 h2 ha
  unfold encR
  generalize digs a.num.natAbs = l1 at *
  generalize dd a.den = l2 at *
  generalize decide (a.num < 0) = b at *
  simp only [bv] at g1 g2
  simp -implicitDefEqProofs (maxSteps := 10000000) only [gantryref05_Same, g1, g2, go_sem, stcells, ldcells, iv, bv, reduceCtorEq, ↓reduceIte, Nat.reduceEqDiff]
def s6_st (d d' : D) (i : Int) : St := mkS [(0, .d d), (1, .d d'), (5, ai i)] []
theorem s6_go {d d' : D} {l : List Rat} (h1 : RwR d l) (h2 : RwR d' l) (sl : SzL 100000000000 l) (hl : l.length ≤ 1000000000000) {i : Nat} (hi : i < l.length) : X G gantryref06_Same_l0 (s6_st d d' i) = some (.n, s6_st d d' ((i + 1 : Nat) : Int)) := by
  have e1 : decide ((i : Int) < (l.length : Int)) = true := lt_t (by omega)
  have e2 : w64 ((i : Int) + 1) = ((i + 1 : Nat) : Int) := by rw [w64_id (by omega) (by omega)]; rfl
  have ll := h1.len
  have x1 := h1.ixa hi
  have x2 := h2.ixa hi
  have y1 := fun h => ldR h l hi
  have g := s5_refl (a := l.getD i 0) (sl.getD (by omega) i)
  generalize l.getD i 0 = q at *
  generalize cRs (l.drop i) = cs at *
  simp only [encR, bv] at y1 g
  simp -implicitDefEqProofs (maxSteps := 10000000) only [gantryref06_Same_l0, s6_st, ll, x1, x2, y1, e1, e2, g, go_sem, iv, bv, reduceCtorEq, ↓reduceIte, Nat.reduceEqDiff]
theorem s6_stop {d d' : D} {l : List Rat} (h1 : RwR d l) : X G gantryref06_Same_l0 (s6_st d d' (l.length : Nat)) = some (.x 0, mkS [] []) := by
  have e1 : decide ((l.length : Int) < (l.length : Int)) = false := lt_f (by omega)
  have ll := h1.len
  simp -implicitDefEqProofs (maxSteps := 10000000) only [gantryref06_Same_l0, s6_st, ll, e1, go_sem, iv, bv, reduceCtorEq, ↓reduceIte, Nat.reduceEqDiff]
theorem s6_loop {d d' : D} {l : List Rat} (h1 : RwR d l) (h2 : RwR d' l) (sl : SzL 100000000000 l) (hl : l.length ≤ 1000000000000) : ∀ j i : Nat, i + j = l.length → X G (.loop gantryref06_Same_l0) (s6_st d d' i) = some (.x 0, mkS [] [])
  | 0, i, h => by
    have : i = l.length := by omega
    subst this
    rw [X_loop, s6_stop h1]; rfl
  | j + 1, i, h => by
    rw [X_loop, s6_go h1 h2 sl hl (by omega), Option.bind_some, if_pos rfl]
    exact s6_loop h1 h2 sl hl j (i + 1) (by omega)
theorem s6_refl {d d' : D} {l : List Rat} (h1 : RwR d l) (h2 : RwR d' l) (sl : SzL 100000000000 l) (hl : l.length ≤ 1000000000000) : callX G n_gantryref06_Same [d, d'] = some (.d (bv true)) := by
  rw [callX_eq (cf := gantryref06_Same) rfl]
  have h := s6_loop h1 h2 sl hl l.length 0 (by omega)
  have e1 : ((l.length : Int) != (l.length : Int)) = false := bne_self_eq_false _
  have ll := h1.len
  have ll2 := h2.len
  simp only [s6_st, go_sem, nc0] at h
  simp -implicitDefEqProofs (maxSteps := 10000000) only [gantryref06_Same, h, ll, ll2, e1, go_sem, iv, bv, reduceCtorEq, ↓reduceIte, Nat.reduceEqDiff]
/-! ### rat.Same -/
end Go.AM

/- ref06: Trim, Small, Mul. -/
namespace Go.AM
open Go Go.RowKit

def smR (n : Int) : Rat := Rat.divInt (arnd n 105 % 15 - 7) (1 + arnd n 105 / 15 % 4)
theorem smR_H (n : Int) : H1 1 1 (smR n) := by
  have b := arnd_b (n := n) (m := 105) (by omega)
  have hd : 0 < 1 + arnd n 105 / 15 % 4 := by omega
  refine ⟨(1 + arnd n 105 / 15 % 4).natAbs, by omega, ?_, (Hq.div hd).le ?_⟩
  · rw [Nat.pow_one]; show _ ≤ 1000000000; omega
  · rw [Nat.pow_one]; show _ ≤ 1000000000; omega
theorem smR_sz (n : Int) : sz (smR n) ≤ 2 := (smR_H n).sz
theorem evR_set (x c : Rat) : ∀ (l : List Rat) (t : Nat), t < l.length → evR (l.set t (l.getD t 0 + c)) x = evR l x + c * x ^ t
  | [], t, h => by simp at h
  | a :: l, 0, h => by
    show evR l x * x + (a + c) = evR l x * x + a + c * x ^ 0
    rw [Rat.pow_zero]
    generalize evR l x = u; grind
  | a :: l, t + 1, h => by
    have ih := evR_set x c l t (by simpa using h)
    show evR (l.set t (l.getD t 0 + c)) x * x + a = evR l x * x + a + c * x ^ (t + 1)
    rw [ih, Rat.pow_succ]
    generalize evR l x = u; generalize x ^ t = p; grind
theorem evR_drop (l : List Rat) (x : Rat) {k : Nat} (h : k < l.length) : evR (l.drop k) x = evR (l.drop (k + 1)) x * x + l.getD k 0 := by
  have e : l.drop k = l.getD k 0 :: l.drop (k + 1) := by
    rw [List.drop_eq_getElem_cons h, List.getD_eq_getElem?_getD, List.getElem?_eq_getElem h]; rfl
  rw [e, evR_cons]
theorem evR_zerosN (n : Nat) (x : Rat) : evR (List.replicate n 0) x = 0 := evR_zeros (fun q hq => (List.mem_replicate.1 hq).2) x
theorem Hq_set {D X : Nat} {l : List Rat} {t : Nat} {c : Rat} (h : ∀ q ∈ l, Hq D X q) (hc : Hq D X c) : ∀ q ∈ l.set t c, Hq D X q := fun q hq => by
  rcases List.mem_or_eq_of_mem_set hq with h1 | h1
  · exact h q h1
  · rw [h1]; exact hc
variable [Its]

theorem Small_spec {n : Int} (hn : I64 n) : callX G n_gantryref06_Small [iv n] = some (.d (encR (smR n))) := by
  rw [callX_eq (cf := gantryref06_Small) rfl]
  have g1 := around_spec (n := n) (m := 105) hn (by omega)
  have b := arnd_b (n := n) (m := 105) (by omega)
  unfold smR
  generalize arnd n 105 = k at *
  have e1 := rem_pos (a := k) (b := 15) (by omega)
  have e2 := quo_pos (a := k) (b := 15) (by omega)
  have e3 : w64 (k % 15 - 7) = k % 15 - 7 := w64_id (by omega) (by omega)
  have e4 : w64 (k / 15) = k / 15 := w64_id (by omega) (by omega)
  have e5 := rem_pos (a := k / 15) (b := 4) (by omega)
  have e6 : w64 (1 + k / 15 % 4) = 1 + k / 15 % 4 := w64_id (by omega) (by omega)
  have z1 := eqz_f (b := (15 : Int)) (by omega)
  have z2 := eqz_f (b := (4 : Int)) (by omega)
  have g2 := rratOf_spec (n := k % 15 - 7) (d := 1 + k / 15 % 4) ⟨by omega, by omega⟩ ⟨by omega, by omega⟩
  generalize Rat.divInt (k % 15 - 7) (1 + k / 15 % 4) = r at *
  simp only [encR, iv] at g1 g2
  simp -implicitDefEqProofs (maxSteps := 10000000) only [gantryref06_Small, encR, e1, e2, e3, e4, e5, e6, z1, z2, g1, g2, go_sem, stcells, ldcells, iv, bv, reduceCtorEq, ↓reduceIte, Nat.reduceEqDiff]

/-! ### Trim -/
def rtr_st (d : D) (n : Int) : St := mkS [(0, .d d), (3, ai n)] []
theorem rtr_go {d : D} {l : List Rat} (hr : RwR d l) {n : Nat} (hn : n < l.length) (hl : l.length * 64 ≤ 140737488351232) (sl : SzL 100000000000 l) (h0 : l.getD n 0 = 0) : X G gantryref06_Trim_l0 (rtr_st d ((n + 1 : Nat) : Int)) = some (.n, rtr_st d (n : Int)) := by
  have e1 : decide (((n + 1 : Nat) : Int) > 0) = true := gt_t (by omega)
  have e2 : w64 (((n + 1 : Nat) : Int) - 1) = (n : Int) := by rw [w64_id (by omega) (by omega)]; omega
  have e6 : (if (0 : Int) > (n : Int) then (0 : Int) else (n : Int)) = (n : Int) := if_neg (by omega)
  have e3 := hr.ixa hn
  have e4 := fun h => ldR h l hn
  have g := rratSign_spec (a := l.getD n 0) (sl.getD (by omega) n)
  have e5 : (Int.sign (l.getD n 0).num == 0) = true := by rw [sgn0]; exact decide_eq_true h0
  clear h0
  generalize ((n + 1 : Nat) : Int) = n1 at *
  generalize l.getD n 0 = q at *
  simp only [encR, iv] at e4 g
  simp -implicitDefEqProofs (maxSteps := 10000000) only [gantryref06_Trim_l0, rtr_st, foldV, mxV, e6, go_sem, iv, bv, e1, e2, e3, e4, e5, g, reduceCtorEq, ↓reduceIte, Nat.reduceEqDiff]
theorem rtr_stop {d : D} {l : List Rat} (hr : RwR d l) {n : Nat} (hn : n < l.length) (hl : l.length * 64 ≤ 140737488351232) (sl : SzL 100000000000 l) (h0 : l.getD n 0 ≠ 0) : X G gantryref06_Trim_l0 (rtr_st d ((n + 1 : Nat) : Int)) = some (.x 0, rtr_st d ((n + 1 : Nat) : Int)) := by
  have e1 : decide (((n + 1 : Nat) : Int) > 0) = true := gt_t (by omega)
  have e2 : w64 (((n + 1 : Nat) : Int) - 1) = (n : Int) := by rw [w64_id (by omega) (by omega)]; omega
  have e6 : (if (0 : Int) > (n : Int) then (0 : Int) else (n : Int)) = (n : Int) := if_neg (by omega)
  have e3 := hr.ixa hn
  have e4 := fun h => ldR h l hn
  have g := rratSign_spec (a := l.getD n 0) (sl.getD (by omega) n)
  have e5 : (Int.sign (l.getD n 0).num == 0) = false := by rw [sgn0]; exact decide_eq_false h0
  clear h0
  generalize ((n + 1 : Nat) : Int) = n1 at *
  generalize l.getD n 0 = q at *
  simp only [encR, iv] at e4 g
  simp -implicitDefEqProofs (maxSteps := 10000000) only [gantryref06_Trim_l0, rtr_st, foldV, mxV, e6, go_sem, iv, bv, e1, e2, e3, e4, e5, g, reduceCtorEq, ↓reduceIte, Nat.reduceEqDiff]
theorem rtr_zero {d : D} : X G gantryref06_Trim_l0 (rtr_st d 0) = some (.x 0, rtr_st d 0) := by
  have e1 : decide ((0 : Int) > 0) = false := rfl
  simp -implicitDefEqProofs (maxSteps := 10000000) only [gantryref06_Trim_l0, rtr_st, go_sem, iv, bv, e1, reduceCtorEq, ↓reduceIte, Nat.reduceEqDiff]
theorem rtr_loop {d : D} {l : List Rat} (hr : RwR d l) (hl : l.length * 64 ≤ 140737488351232) (sl : SzL 100000000000 l) : ∀ n : Nat, n ≤ l.length → X G (.loop gantryref06_Trim_l0) (rtr_st d (n : Int)) = some (.x 0, rtr_st d (cutR l n : Nat))
  | 0, _ => by
    rw [X_loop]
    show (X G gantryref06_Trim_l0 (rtr_st d 0)).bind _ = _
    rw [rtr_zero]; rfl
  | n + 1, hn => by
    rw [X_loop, cutR]
    by_cases h0 : l.getD n 0 = 0
    · rw [rtr_go hr (by omega) hl sl h0, Option.bind_some, if_pos rfl, if_pos h0]
      exact rtr_loop hr hl sl n (by omega)
    · rw [rtr_stop hr (by omega) hl sl h0, if_neg h0]; rfl
theorem rTrim_spec {d : D} {l : List Rat} (hr : RwR d l) (hl : l.length * 64 ≤ 140737488351232) (sl : SzL 100000000000 l) : ∃ d', RwR d' (trimR l) ∧ callX G n_gantryref06_Trim [d] = some (.d d') := by
  rw [callX_eq (cf := gantryref06_Trim) rfl]
  have hl' := rtr_loop hr hl sl l.length (Nat.le_refl _)
  have hc := cutR_le l l.length
  have ll := hr.len
  rcases hr with ⟨rfl, rfl⟩ | rfl
  · simp only [rtr_st, List.length_nil, cutR, go_sem] at hl'
    refine ⟨.z true, .inl ⟨rfl, rfl⟩, ?_⟩
    have b0 : (0 * 64 ≤ bound) = True := eq_true (by decide)
    simp -implicitDefEqProofs (maxSteps := 10000000) only [gantryref06_Trim, slcA, bnds, optI, srcS, src, b0, List.length_nil, Nat.zero_mul, Nat.zero_le, go_sem, iv, bv, hl', ll, Int.le_refl, reduceCtorEq, ↓reduceIte, Nat.reduceEqDiff]
  · refine ⟨dR (trimR l), dR_ok _, ?_⟩
    have e1 : rowR (trimR l) = .row (cutR l l.length) ((cRs l).take (cutR l l.length * 4)) := by rw [rowR, trimR_len, trimR, cRs_take]
    have e0 : dR (trimR l) = if cutR l l.length = 0 then .z true else .row (cutR l l.length) ((cRs l).take (cutR l l.length * 4)) := by
      rw [dR, e1]
      have := trimR_len l
      by_cases h : trimR l = []
      · rw [if_pos h, if_pos (by rw [← this, h]; rfl)]
      · rw [if_neg h, if_neg (fun h' => h (List.eq_nil_of_length_eq_zero (by omega)))]
    rw [e0]
    have e2 : (((0 : Int) ≤ 0 ∧ (0 : Int) ≤ (cutR l l.length : Nat) ∧ ((cutR l l.length : Nat) : Int) ≤ (l.length : Nat))) = True := eq_true ⟨by omega, by omega, by omega⟩
    have e3 : ((cutR l l.length : Nat) : Int).toNat = cutR l l.length := Int.toNat_natCast _
    have e5 : ((0 : Int) ≤ (cutR l l.length : Nat)) = True := eq_true (by omega)
    have e6 : (((cutR l l.length : Nat) : Int) ≤ (l.length : Nat)) = True := eq_true (by omega)
    have e7 : (cutR l l.length * 64 ≤ bound) = True := eq_true (by unfold bound; omega)
    have e8 : ((cRs l).take (cutR l l.length * 4)).length = cutR l l.length * 4 := by rw [List.length_take, cRs_length]; omega
    clear e0 e1
    unfold rowR at *
    generalize cutR l l.length = c at *
    generalize cRs l = cs at *
    simp only [rtr_st, go_sem] at hl'
    by_cases h0 : c = 0
    · subst h0
      simp only [Nat.zero_mul, List.take_zero] at e8 ⊢
      have b0 : (0 * 64 ≤ bound) = True := eq_true (by decide)
      have b1 : ((0 : Int) ≤ (l.length : Int)) = True := eq_true (by omega)
      simp -implicitDefEqProofs (maxSteps := 10000000) only [gantryref06_Trim, b1, slcA, bnds, optI, srcS, src, b0, List.length_nil, List.take_zero, Nat.zero_mul, Nat.zero_le, go_sem, iv, bv, hl', ll, e2, e3, e5, e6, Int.le_refl, and_self, reduceCtorEq, ↓reduceIte, Nat.reduceEqDiff]
    · simp -implicitDefEqProofs (maxSteps := 10000000) only [gantryref06_Trim, slcA, bnds, optI, srcS, src, h0, e7, e8, go_sem, iv, bv, hl', ll, e2, e3, e5, e6, Int.le_refl, and_self, reduceCtorEq, ↓reduceIte, Nat.reduceEqDiff]

/-! ### Mul -/
def rmi_st (dp dq : D) (L : List Rat) (n : Nat) (i k : Int) : St := mkS [(0, .d dp), (1, .d dq), (5, .own [22] n), (6, ai i), (7, ai k)] [([22], arrR n L)]
def rmo_st (dp dq : D) (L : List Rat) (n : Nat) (i : Int) : St := mkS [(0, .d dp), (1, .d dq), (5, .own [22] n), (6, ai i)] [([22], arrR n L)]
def rmo_en (L : List Rat) (n : Nat) : St := mkS [(5, .own [22] n)] [([22], arrR n L)]
section
variable {dp dq : D} {p q : List Rat} {n : Nat}
theorem rmi_go (hp : RwR dp p) (hq : RwR dq q) {L : List Rat} (hL : L.length = n) {i k : Nat} (hi : i < p.length) (hk : k < q.length) (hn : i + k < n) (hn2 : n ≤ 1000000000) {K : Nat} (hK1 : 1 ≤ K) (hK : K ≤ 10000000000) (sp : SzL K p) (sq : SzL K q) (sL : SzL K L) :
    X G gantryref06_Mul_l0 (rmi_st dp dq L n i k) = some (.n, rmi_st dp dq (L.set (i + k) (L.getD (i + k) 0 + p.getD i 0 * q.getD k 0)) n i ((k + 1 : Nat) : Int)) := by
  have e1 : decide ((k : Int) < (q.length : Int)) = true := lt_t (by omega)
  obtain ⟨t, ht⟩ : ∃ t : Int, t = ((i + k : Nat) : Int) := ⟨_, rfl⟩
  have e2 : w64 ((i : Int) + (k : Int)) = t := by rw [w64_id (by omega) (by omega)]; omega
  have e3 : w64 ((k : Int) + 1) = ((k + 1 : Nat) : Int) := by rw [w64_id (by omega) (by omega)]; rfl
  have c1 : ((0 : Int) ≤ t) = True := eq_true (by omega)
  have c2 : (t < (n : Int)) = True := eq_true (by omega)
  have c3 : t.toNat = i + k := by omega
  have lq := hq.len
  have x1 := hp.ixa hi
  have y1 := fun h => ldR h p hi
  have x2 := hq.ixa hk
  have y2 := fun h => ldR h q hk
  have s1 := sp.getD hK1 i
  have s2 := sq.getD hK1 k
  have s3 := sL.getD hK1 (i + k)
  have g1 := rratMul_spec (a := p.getD i 0) (b := q.getD k 0) (by omega) (by omega)
  have k1 := sz_mul (a := p.getD i 0) (b := q.getD k 0)
  have g2 := rratAdd_spec (a := L.getD (i + k) 0) (b := p.getD i 0 * q.getD k 0) (by omega) (by omega)
  have l1 := ld_cA (l := L) (j := i + k) (by omega)
  have t1 := st_cA (l := L) (j := i + k) (by omega) (L.getD (i + k) 0 + p.getD i 0 * q.getD k 0)
  clear s1 s2 s3 k1 sp sq sL ht
  generalize L.getD (i + k) 0 + p.getD i 0 * q.getD k 0 = r at *
  generalize p.getD i 0 * q.getD k 0 = pr at *
  generalize p.getD i 0 = u at *
  generalize q.getD k 0 = v at *
  generalize L.getD (i + k) 0 = w at *
  generalize cRs (p.drop i) = cs1 at *
  generalize cRs (q.drop k) = cs2 at *
  simp only [encR] at g1 g2 y1 y2
  simp -implicitDefEqProofs (maxSteps := 10000000) only [gantryref06_Mul_l0, rmi_st, refsL_cA, allD, l1, t1, lq, x1, y1, x2, y2, c1, c2, c3, e1, e2, e3, g1, g2, go_sem, iv, bv, and_self, reduceCtorEq, ↓reduceIte, Nat.reduceEqDiff]
theorem rmi_stop (hq : RwR dq q) {L : List Rat} {i : Int} : X G gantryref06_Mul_l0 (rmi_st dp dq L n i (q.length : Nat)) = some (.x 2, rmo_st dp dq L n i) := by
  have e1 : decide ((q.length : Int) < (q.length : Int)) = false := lt_f (by omega)
  have lq := hq.len
  simp -implicitDefEqProofs (maxSteps := 10000000) only [gantryref06_Mul_l0, rmi_st, rmo_st, refsL_cA, lq, e1, go_sem, iv, bv, reduceCtorEq, ↓reduceIte, Nat.reduceEqDiff]
variable {D E XX YY d h K : Nat}
theorem rmi_loop (hp : RwR dp p) (hq : RwR dq q) (hn2 : n ≤ 1000000000) (hK1 : 1 ≤ K) (hK : K ≤ 10000000000) (sp : SzL K p) (sq : SzL K q) (hsz : ∀ (m : Nat) (x : Rat), m ≤ p.length * q.length → Hq (D * E) (m * (XX * YY)) x → sz x ≤ K) (Hp : ∀ x ∈ p, Hq D XX x) (Hqq : ∀ x ∈ q, Hq E YY x) {i : Nat} (hi : i < p.length) (hn : p.length + q.length = n + 1) :
    ∀ (j k m : Nat) (L : List Rat), k + j = q.length → L.length = n → m + j ≤ p.length * q.length → (∀ x ∈ L, Hq (D * E) (m * (XX * YY)) x) →
    ∃ L', L'.length = n ∧ (∀ x ∈ L', Hq (D * E) ((m + j) * (XX * YY)) x) ∧ (∀ x, evR L' x = evR L x + p.getD i 0 * x ^ (i + k) * evR (q.drop k) x) ∧ X G (.loop gantryref06_Mul_l0) (rmi_st dp dq L n i k) = some (.x 2, rmo_st dp dq L' n i)
  | 0, k, m, L, hk, hL, hm, HL => by
    have : k = q.length := by omega
    subst this
    refine ⟨L, hL, HL, fun x => ?_, by rw [X_loop, rmi_stop hq]; rfl⟩
    rw [List.drop_length, evR_nil, Rat.mul_zero, Rat.add_zero]
  | j + 1, k, m, L, hk, hL, hm, HL => by
    have hstep := ((Hq.getD Hp i).mul (Hq.getD Hqq k))
    have hnew := (Hq.getD HL (i + k)).add hstep
    have e1 : m * (XX * YY) + XX * YY = (m + 1) * (XX * YY) := by rw [Nat.succ_mul]
    rw [e1] at hnew
    have HL2 : ∀ x ∈ L.set (i + k) (L.getD (i + k) 0 + p.getD i 0 * q.getD k 0), Hq (D * E) ((m + 1) * (XX * YY)) x := Hq_set (fun x hx => (HL x hx).le (Nat.mul_le_mul_right _ (by omega))) hnew
    obtain ⟨L', a1, a2, a3, a4⟩ := rmi_loop hp hq hn2 hK1 hK sp sq hsz Hp Hqq hi hn j (k + 1) (m + 1) (L.set (i + k) (L.getD (i + k) 0 + p.getD i 0 * q.getD k 0)) (by omega) (by rw [List.length_set, hL]) (by omega) HL2
    refine ⟨L', a1, by rw [show m + (j + 1) = m + 1 + j by omega]; exact a2, fun x => ?_, ?_⟩
    · rw [a3, evR_set x _ L (i + k) (by omega), evR_drop q x (k := k) (by omega), show i + (k + 1) = (i + k) + 1 by omega, Rat.pow_succ]
      generalize evR L x = u; generalize evR (q.drop (k + 1)) x = v; generalize x ^ (i + k) = w; generalize p.getD i 0 = a; generalize q.getD k 0 = b
      grind
    · rw [X_loop, rmi_go hp hq hL hi (by omega) (by omega) hn2 hK1 hK sp sq (fun x hx => hsz m x (by omega) (HL x hx)), Option.bind_some, if_pos rfl]
      exact a4
theorem rmo_loop (hp : RwR dp p) (hq : RwR dq q) (hn2 : n ≤ 1000000000) (hK1 : 1 ≤ K) (hK : K ≤ 10000000000) (sp : SzL K p) (sq : SzL K q) (hsz : ∀ (m : Nat) (x : Rat), m ≤ p.length * q.length → Hq (D * E) (m * (XX * YY)) x → sz x ≤ K) (Hp : ∀ x ∈ p, Hq D XX x) (Hqq : ∀ x ∈ q, Hq E YY x) (hn : p.length + q.length = n + 1) (hq0 : 0 < q.length) :
    ∀ (j i : Nat) (L : List Rat), i + j = p.length → L.length = n → (∀ x ∈ L, Hq (D * E) (i * q.length * (XX * YY)) x) →
    ∃ L', L'.length = n ∧ (∀ x ∈ L', Hq (D * E) (p.length * q.length * (XX * YY)) x) ∧ (∀ x, evR L' x = evR L x + x ^ i * evR (p.drop i) x * evR q x) ∧ X G (.loop gantryref06_Mul_l1) (rmo_st dp dq L n i) = some (.x 0, rmo_en L' n)
  | 0, i, L, hi, hL, HL => by
    have : i = p.length := by omega
    subst this
    have lp := hp.len
    have e1 : decide ((p.length : Int) < (p.length : Int)) = false := lt_f (by omega)
    refine ⟨L, hL, HL, fun x => by rw [List.drop_length, evR_nil, Rat.mul_zero, Rat.zero_mul, Rat.add_zero], ?_⟩
    have : X G gantryref06_Mul_l1 (rmo_st dp dq L n (p.length : Nat)) = some (.x 0, rmo_en L n) := by
      simp -implicitDefEqProofs (maxSteps := 10000000) only [gantryref06_Mul_l1, rmo_st, rmo_en, refsL_cA, lp, e1, go_sem, iv, bv, reduceCtorEq, ↓reduceIte, Nat.reduceEqDiff]
    rw [X_loop, this]; rfl
  | j + 1, i, L, hi, hL, HL => by
    have hile : (i + 1) * q.length ≤ p.length * q.length := Nat.mul_le_mul_right _ (by omega)
    have hsm : (i + 1) * q.length = i * q.length + q.length := Nat.succ_mul ..
    obtain ⟨L1, b1, b2, b3, b4⟩ := rmi_loop hp hq hn2 hK1 hK sp sq hsz Hp Hqq (i := i) (by omega) hn q.length 0 (i * q.length) L (by omega) hL (by omega) HL
    rw [← hsm] at b2
    obtain ⟨L', a1, a2, a3, a4⟩ := rmo_loop hp hq hn2 hK1 hK sp sq hsz Hp Hqq hn hq0 j (i + 1) L1 (by omega) b1 b2
    refine ⟨L', a1, a2, fun x => ?_, ?_⟩
    · rw [a3, b3, evR_drop p x (k := i) (by omega), List.drop_zero, Nat.add_zero, Rat.pow_succ]
      generalize evR L x = u; generalize evR (p.drop (i + 1)) x = v; generalize x ^ i = w; generalize p.getD i 0 = a; generalize evR q x = b
      grind
    · have lp := hp.len
      have e1 : decide ((i : Int) < (p.length : Int)) = true := lt_t (by omega)
      have hpl : p.length ≤ n := by omega
      have e3 : w64 ((i : Int) + 1) = ((i + 1 : Nat) : Int) := by rw [w64_id (by omega) (by omega)]; rfl
      have n0 : ((0 : Nat) : Int) = 0 := rfl
      rw [n0] at b4
      have : X G gantryref06_Mul_l1 (rmo_st dp dq L n i) = some (.n, rmo_st dp dq L1 n ((i + 1 : Nat) : Int)) := by
        simp only [rmi_st, rmo_st, go_sem] at b4
        simp -implicitDefEqProofs (maxSteps := 10000000) only [gantryref06_Mul_l1, rmo_st, refsL_cA, lp, e1, e3, b4, go_sem, iv, bv, reduceCtorEq, ↓reduceIte, Nat.reduceEqDiff]
      rw [X_loop, this, Option.bind_some, if_pos rfl]
      exact a4
theorem r6Mul_spec {d1 h1 d2 h2 : Nat} (hp : RwR dp p) (hq : RwR dq q) (Hp : HL d1 h1 p) (Hq' : HL d2 h2 q) (np : p.length ≤ 1000) (nq : q.length ≤ 1000) (hd : d1 + d2 ≤ 1000000000) (hh : h1 + h2 ≤ 1000000000) :
    ∃ d', RwR d' (muP p q) ∧ callX G n_gantryref06_Mul [dp, dq] = some (.d d') := by
  rw [callX_eq (cf := gantryref06_Mul) rfl]
  have lp := hp.len
  have lq := hq.len
  have e00 : ((0 : Int) == 0) = true := rfl
  by_cases p0 : p.length = 0
  · have : p = [] := List.eq_nil_of_length_eq_zero p0
    subst this
    have em : muP [] q = [] := poly_ext (trm_mu _ _) trm_nil (fun x => by rw [ev_mu, evR_nil, Rat.zero_mul])
    rw [em]
    refine ⟨.z true, .nil, ?_⟩
    simp only [List.length_nil] at lp
    simp -implicitDefEqProofs (maxSteps := 10000000) only [gantryref06_Mul, lp, lq, e00, go_sem, iv, bv, reduceCtorEq, ↓reduceIte, Nat.reduceEqDiff]
  by_cases q0 : q.length = 0
  · have : q = [] := List.eq_nil_of_length_eq_zero q0
    subst this
    have em : muP p [] = [] := poly_ext (trm_mu _ _) trm_nil (fun x => by rw [ev_mu, evR_nil, Rat.mul_zero])
    rw [em]
    refine ⟨.z true, .nil, ?_⟩
    simp only [List.length_nil] at lq
    have ep : ((p.length : Int) == 0) = false := beq_f (by omega)
    simp -implicitDefEqProofs (maxSteps := 10000000) only [gantryref06_Mul, lp, lq, ep, e00, go_sem, iv, bv, reduceCtorEq, ↓reduceIte, Nat.reduceEqDiff]
  have ep : ((p.length : Int) == 0) = false := beq_f (by omega)
  have eq : ((q.length : Int) == 0) = false := beq_f (by omega)
  obtain ⟨n, hn⟩ : ∃ n, p.length + q.length = n + 1 := ⟨p.length + q.length - 1, by omega⟩
  obtain ⟨D, a1, a2, a3⟩ := Hp
  obtain ⟨E, b1, b2, b3⟩ := Hq'
  have hDE : D * E ≤ BB ^ (d1 + d2) := mul_BB a2 b2
  have hsz : ∀ (m : Nat) (x : Rat), m ≤ p.length * q.length → Hq (D * E) (m * (BB ^ h1 * BB ^ h2)) x → sz x ≤ 10000000000 := fun m x hm hx => by
    have hm2 : p.length * q.length ≤ 1000 * 1000 := Nat.mul_le_mul np nq
    have hX : m * (BB ^ h1 * BB ^ h2) ≤ BB ^ (1 + (h1 + h2)) := mul_BB (by rw [Nat.pow_one]; show m ≤ 1000000000; omega) (mul_BB (Nat.le_refl _) (Nat.le_refl _))
    have := Hq.sz (Nat.mul_pos a1 b1) hDE hX hx
    omega
  have sp : SzL 10000000000 p := ((HL.sz ⟨D, a1, a2, a3⟩).mono (by omega))
  have sq : SzL 10000000000 q := ((HL.sz ⟨E, b1, b2, b3⟩).mono (by omega))
  obtain ⟨L', c1, c2, c3, c4⟩ := rmo_loop (D := D) (E := E) (XX := BB ^ h1) (YY := BB ^ h2) (K := 10000000000) hp hq (n := n) (by omega) (by omega) (by omega) sp sq hsz a3 b3 hn (by omega) p.length 0 (List.replicate n 0) (by omega) (by simp) (fun x hx => by rw [(List.mem_replicate.1 hx).2]; exact Hq.zero _ _)
  obtain ⟨d', hr', gT⟩ := rTrim_spec (RwR.row L') (by omega) (fun x hx => Nat.le_trans (hsz _ x (Nat.le_refl _) (c2 x hx)) (by omega))
  have em : trimR L' = muP p q := poly_ext (trm_trim _) (trm_mu _ _) (fun x => by
    rw [evR_trim, c3, evR_zerosN, Rat.pow_zero, List.drop_zero, ev_mu, Rat.zero_add, Rat.one_mul])
  rw [em] at hr'
  refine ⟨d', hr', ?_⟩
  have z0 : ((0 : Nat) : Int) = 0 := rfl
  rw [z0] at c4
  obtain ⟨z, hz⟩ : ∃ z, (p.length : Int) + (q.length : Int) = z := ⟨_, rfl⟩
  have e1 : w64 ((p.length : Int) + (q.length : Int)) = z := by rw [w64_id (by omega) (by omega), hz]
  have e2 : w64 (z - 1) = (n : Int) := by rw [w64_id (by omega) (by omega)]; omega
  have f1 : ((0 : Int) ≤ (n : Int)) = True := eq_true (by omega)
  have f2 : ((n : Int) * ((64 : Nat) : Int) ≤ (bound : Int)) = True := eq_true (by have : (bound : Int) = 140737488351232 := rfl; omega)
  have r0 := cRs_rep n
  have m0 := map_cRs (List.replicate n (0 : Rat))
  rw [rowR, c1] at gT
  clear c1 c2 c3 hr' em sp sq hsz hz
  simp only [rmo_st, rmo_en, go_sem] at c4
  simp -implicitDefEqProofs (maxSteps := 10000000) only [gantryref06_Mul, frzSt, lp, lq, ep, eq, e1, e2, f1, f2, r0, m0, Int.toNat_natCast, c4, gT, allD_cA, refsL_cA, true_and, and_self, go_sem, iv, bv, reduceCtorEq, ↓reduceIte, Nat.reduceEqDiff]
end
end Go.AM

/- ref06.Poly. -/
namespace Go.AM
open Go Go.RowKit

theorem tdivc {n c : Int} (hn : I64 n) (hc : 0 < c) : I64 (n.tdiv c) ∧ w64 (n.tdiv c) = n.tdiv c := by
  obtain ⟨h1, h2⟩ := hn
  have hb : (n.tdiv c).natAbs ≤ n.natAbs := by
    rw [Int.natAbs_tdiv]; exact Nat.div_le_self _ _
  have h3 : -9223372036854775808 ≤ n.tdiv c := by omega
  have h4 : n.tdiv c < 9223372036854775808 := by
    by_cases h0 : 0 ≤ n
    · omega
    · have e : n.tdiv c = -((-n) / c) := by
        rw [← Int.tdiv_eq_ediv_of_nonneg (by omega), Int.neg_tdiv, Int.neg_neg]
      have : 0 ≤ (-n) / c := Int.ediv_nonneg (by omega) (by omega)
      omega
  exact ⟨⟨h3, h4⟩, w64_id h3 h4⟩
theorem H1.neg {d h : Nat} {q : Rat} (H : H1 d h q) : H1 d h (-q) := by
  obtain ⟨D, h1, h2, h3⟩ := H
  exact ⟨D, h1, h2, h3.neg⟩
theorem H1.one : H1 0 0 1 := ⟨1, by omega, by simp [BB], ⟨1, Rat.mul_one _, by simp⟩⟩
theorem HL.cons {d1 h1 d2 h2 : Nat} {a : Rat} {l : List Rat} (H : H1 d1 h1 a) (H' : HL d2 h2 l) : HL (d1 + d2) (max (h1 + d2) (h2 + d1)) (a :: l) := by
  obtain ⟨D, a1, a2, a3⟩ := H
  obtain ⟨E, b1, b2, b3⟩ := H'
  refine ⟨D * E, Nat.mul_pos a1 b1, mul_BB a2 b2, fun q hq => ?_⟩
  rcases List.mem_cons.1 hq with rfl | hq
  · exact (a3.lift E).le (Nat.le_trans (mul_BB (Nat.le_refl _) b2) (BB_mono (by omega)))
  · exact ((b3 q hq).lift' D).le (Nat.le_trans (mul_BB a2 (Nat.le_refl _)) (BB_mono (by omega)))
theorem HL.smalls : ∀ (l : List Rat), (∀ q ∈ l, ∃ n, q = smR n) → HL l.length l.length l
  | [], _ => HL.nil _ _
  | a :: l, h => by
    obtain ⟨n, rfl⟩ := h a (List.mem_cons_self ..)
    exact (HL.cons (smR_H n) (HL.smalls l (fun q hq => h q (List.mem_cons_of_mem _ hq)))).mono (by simp; omega) (by simp; omega)
theorem rep2c (a b c d : D) : rep 2 [a, b, c, d] = [a, b, c, d, a, b, c, d] := rfl
theorem rep3c_ (a b c d : D) : rep 3 [a, b, c, d] = [a, b, c, d, a, b, c, d, a, b, c, d] := rfl
variable [Its]

theorem rone_of : callX G n_gantryref05_Of [iv 1, iv 1] = some (.d (encR 1)) := by
  have g := rratOf_spec (n := 1) (d := 1) ⟨by omega, by omega⟩ ⟨by omega, by omega⟩
  have e : Rat.divInt 1 1 = 1 := divInt_one 1
  rw [e] at g; exact g
section
variable {e0 : D} {l : List Int}
def pl_st (e0 : D) (L : List Rat) (i : Int) : St := mkS [(0, .d e0), (3, gA4 28 L), (4, ai i)] (gH4 28 L)
def pl_en (L : List Rat) : St := mkS [(3, gA4 28 L)] (gH4 28 L)
theorem pl_go (hr : Rw e0 l) (hl : ∀ n ∈ l, I64 n) {i : Nat} (hi : i < l.length) (hi6 : i < 6) {L : List Rat} (hL : L.length ≤ 10) : X G gantryref06_Poly_l0 (pl_st e0 L i) = some (.n, pl_st e0 (L ++ [smR (l.getD i 0)]) ((i + 1 : Nat) : Int)) := by
  have e1 : decide ((i : Int) < (l.length : Int)) = true := lt_t (by omega)
  have e2 : decide ((i : Int) < 6) = true := lt_t (by omega)
  have e3 : w64 ((i : Int) + 1) = ((i + 1 : Nat) : Int) := by rw [w64_id (by omega) (by omega)]; rfl
  have ll := hr.len
  have x1 := hr.ixn hi
  have x2 := fun h => ldv h l hi
  have g := Small_spec (n := l.getD i 0) (hl _ (by rw [List.getD_eq_getElem?_getD, List.getElem?_eq_getElem hi]; exact List.getElem_mem hi))
  generalize smR (l.getD i 0) = q at *
  generalize l.getD i 0 = x at *
  have d1 := dgone (digs q.num.natAbs)
  have d2 := dgone (dd q.den)
  simp only [encR, iv] at g
  by_cases h0 : L = []
  · subst h0
    have hb : (64 ≤ bound) = True := eq_true (by unfold bound; omega)
    have hb1 : (1 * 64 ≤ bound) = True := eq_true (by unfold bound; omega)
    simp -implicitDefEqProofs (maxSteps := 10000000) only [gantryref06_Poly_l0, pl_st, gA4_nil, gH4_nil, hupdO_none, gA4_snoc, gH4_snoc, List.nil_append, List.cons_append, List.length_nil, List.length_cons, Nat.zero_add, List.map_cons, List.map_nil, rep1c, gA4_one, gH4_one, cA_one, srcS, src, one_b, allD, hb, hb1, d1, d2, ll, x1, x2, go_sem, iv, bv, e1, e2, e3, g, reduceCtorEq, ↓reduceIte, Nat.reduceEqDiff]
  · have n3 : (cA L).length = L.length * 4 := cA_length L
    have n4 : ((L.length + 1) * 64 ≤ bound) = True := eq_true (by unfold bound; omega)
    simp -implicitDefEqProofs (maxSteps := 10000000) only [gantryref06_Poly_l0, pl_st, gA4_ne h0, gH4_ne h0, gA4_snoc, gH4_snoc, List.nil_append, List.cons_append, List.length_nil, List.length_cons, Nat.zero_add, List.map_cons, List.map_nil, rep1c, cA_snoc, n3, n4, refsL_cA, srcS, src, one_b, allD, d1, d2, ll, x1, x2, go_sem, iv, bv, e1, e2, e3, g, reduceCtorEq, ↓reduceIte, Nat.reduceEqDiff]
theorem pl_stop (hr : Rw e0 l) {i : Nat} (hi : l.length ≤ i ∨ 6 ≤ i) {L : List Rat} : X G gantryref06_Poly_l0 (pl_st e0 L i) = some (.x 0, pl_en L) := by
  have ll := hr.len
  by_cases h1 : l.length ≤ i
  · have e1 : decide ((i : Int) < (l.length : Int)) = false := lt_f (by omega)
    by_cases h0 : L = []
    · subst h0
      simp -implicitDefEqProofs (maxSteps := 10000000) only [gantryref06_Poly_l0, pl_st, pl_en, gA4_nil, gH4_nil, hupdO_none, ll, e1, go_sem, iv, bv, reduceCtorEq, ↓reduceIte, Nat.reduceEqDiff]
    · simp -implicitDefEqProofs (maxSteps := 10000000) only [gantryref06_Poly_l0, pl_st, pl_en, gA4_ne h0, gH4_ne h0, refsL_cA, ll, e1, go_sem, iv, bv, reduceCtorEq, ↓reduceIte, Nat.reduceEqDiff]
  · have e1 : decide ((i : Int) < (l.length : Int)) = true := lt_t (by omega)
    have e2 : decide ((i : Int) < 6) = false := lt_f (by omega)
    by_cases h0 : L = []
    · subst h0
      simp -implicitDefEqProofs (maxSteps := 10000000) only [gantryref06_Poly_l0, pl_st, pl_en, gA4_nil, gH4_nil, hupdO_none, ll, e1, e2, go_sem, iv, bv, reduceCtorEq, ↓reduceIte, Nat.reduceEqDiff]
    · simp -implicitDefEqProofs (maxSteps := 10000000) only [gantryref06_Poly_l0, pl_st, pl_en, gA4_ne h0, gH4_ne h0, refsL_cA, ll, e1, e2, go_sem, iv, bv, reduceCtorEq, ↓reduceIte, Nat.reduceEqDiff]
theorem pl_loop (hr : Rw e0 l) (hl : ∀ n ∈ l, I64 n) : ∀ (j i : Nat) (L : List Rat), 6 ≤ i + j → L.length + 1 = i → i ≤ 6 → (∀ q ∈ L, ∃ n, q = smR n) → ∃ L', L'.length ≤ 5 ∧ (∀ q ∈ L', ∃ n, q = smR n) ∧ X G (.loop gantryref06_Poly_l0) (pl_st e0 L i) = some (.x 0, pl_en L')
  | 0, i, L, hj, hLi, hi, hL => ⟨L, by omega, hL, by rw [X_loop, pl_stop hr (.inr (by omega))]; rfl⟩
  | j + 1, i, L, hj, hLi, hi, hL => by
    by_cases h : i < l.length ∧ i < 6
    · obtain ⟨L', a1, a2, a3⟩ := pl_loop hr hl j (i + 1) (L ++ [smR (l.getD i 0)]) (by omega) (by rw [List.length_append]; simp; omega) (by omega) (fun q hq => by
        rcases List.mem_append.1 hq with h' | h'
        · exact hL q h'
        · exact ⟨_, List.mem_singleton.1 h'⟩)
      exact ⟨L', a1, a2, by rw [X_loop, pl_go hr hl h.1 h.2 (by omega), Option.bind_some, if_pos rfl]; exact a3⟩
    · exact ⟨L, by omega, hL, by rw [X_loop, pl_stop hr (by omega)]; rfl⟩

def pm_st (e0 d : D) (i : Int) : St := mkS [(0, .d e0), (5, .d d), (6, ai i)] []
def pm_en (d : D) : St := mkS [(5, .d d)] []
theorem pm_go (hr : Rw e0 l) (hl : ∀ n ∈ l, I64 n) {i : Nat} (hi : i < l.length) (hi5 : i < 5) {d : D} {out : List Rat} {dd hh : Nat} (ho : RwR d out) (Ho : HL dd hh out) (nd : out.length ≤ 100) (hd : dd ≤ 100) (hh' : hh ≤ 100) :
    ∃ d' out', RwR d' out' ∧ Trm out' ∧ HL (dd + 2) (hh + 3) out' ∧ (out'.length ≤ out.length + 2 ∧ (4 ≤ i → out'.length ≤ out.length + 1)) ∧ X G gantryref06_Poly_l1 (pm_st e0 d i) = some (.n, pm_st e0 d' ((i + 1 : Nat) : Int)) := by
  have e1 : decide ((i : Int) < (l.length : Int)) = true := lt_t (by omega)
  have e2 : decide ((i : Int) < 5) = true := lt_t (by omega)
  have e3 : w64 ((i : Int) + 1) = ((i + 1 : Nat) : Int) := by rw [w64_id (by omega) (by omega)]; rfl
  have ll := hr.len
  have lo := ho.len
  have x1 := hr.ixn hi
  have x2 := fun h => ldv h l hi
  have hx : I64 (l.getD i 0) := hl _ (by rw [List.getD_eq_getElem?_getD, List.getElem?_eq_getElem hi]; exact List.getElem_mem hi)
  generalize l.getD i 0 = x at *
  have g1 := Small_spec hx
  have g2 := rratNeg_spec (a := smR x) (by have := smR_sz x; omega)
  have o1 := rone_of
  obtain ⟨q7, w7⟩ := tdivc (c := 7) hx (by omega)
  obtain ⟨q3, w3⟩ := tdivc (c := 3) hx (by omega)
  obtain ⟨y7, hy7⟩ : ∃ y, x.tdiv 7 = y := ⟨_, rfl⟩
  obtain ⟨y3, hy3⟩ : ∃ y, x.tdiv 3 = y := ⟨_, rfl⟩
  have w7' : w64 (x.tdiv 7) = y7 := by rw [w7, hy7]
  have w3' : w64 (x.tdiv 3) = y3 := by rw [w3, hy3]
  rw [hy7] at q7
  rw [hy3] at q3
  have g7 := Small_spec q7
  have g3 := Small_spec q3
  have z7 := eqz_f (b := (7 : Int)) (by omega)
  have z3 := eqz_f (b := (3 : Int)) (by omega)
  have F2 : HL 1 1 [-smR x, 1] := (HL.cons (smR_H x).neg (HL.one H1.one)).mono (by omega) (by omega)
  have F3 : HL 2 2 [smR y7, smR y3, 1] := (HL.cons (smR_H y7) (HL.cons (smR_H y3) (HL.one H1.one))).mono (by omega) (by omega)
  obtain ⟨d2, t2, gT2⟩ := rTrim_spec (RwR.row [-smR x, 1]) (by simp only [List.length_cons, List.length_nil]; omega) (F2.sz.mono (by omega))
  obtain ⟨d3, t3, gT3⟩ := rTrim_spec (RwR.row [smR y7, smR y3, 1]) (by simp only [List.length_cons, List.length_nil]; omega) (F3.sz.mono (by omega))
  have n2 : (trimR [-smR x, 1]).length ≤ 2 := trimR_le _
  have n3 : (trimR [smR y7, smR y3, 1]).length ≤ 3 := trimR_le _
  obtain ⟨m2, u2, gM2⟩ := r6Mul_spec ho t2 Ho F2.trim (by omega) (by omega) (by omega) (by omega)
  obtain ⟨m3, u3, gM3⟩ := r6Mul_spec ho t3 Ho F3.trim (by omega) (by omega) (by omega) (by omega)
  have H2 := HL.mu Ho F2.trim (by have : BB = 1000000000 := rfl; omega)
  have H3 := HL.mu Ho F3.trim (by have : BB = 1000000000 := rfl; omega)
  have l2 := len_mu out (trimR [-smR x, 1])
  have l3 := len_mu out (trimR [smR y7, smR y3, 1])
  by_cases hc : x.tmod 7 = 3 ∧ i < 4 ∧ out.length < 4
  · refine ⟨m3, _, u3, trm_mu _ _, H3.mono (by omega) (by omega), by omega, ?_⟩
    have c1 : (x.tmod 7 == 3) = true := beq_t hc.1
    have c2 : decide ((i : Int) < 4) = true := lt_t (by omega)
    have c3 : decide ((out.length : Int) < 4) = true := lt_t (by omega)
    clear F2 F3 n2 n3 H2 H3 l2 l3 u2 u3 t2 t3 gT2 gM2 hc
    simp only [rowR, cRs, List.length_cons, List.length_nil, Nat.reduceAdd] at gT3
    generalize -smR x = sn at *
    generalize smR x = sx at *
    generalize smR y7 = s7 at *
    generalize smR y3 = s3 at *
    generalize (1 : Rat) = one at *
    simp only [encR, iv] at g1 g2 o1 g7 g3
    simp -implicitDefEqProofs (maxSteps := 10000000) only [gantryref06_Poly_l1, pm_st, ll, lo, x1, x2, e1, e2, e3, g1, g2, o1, g7, g3, z7, z3, w7', w3', c1, c2, c3, gT3, gM3, rep2c, rep3c_, go_sem, iv, bv, reduceCtorEq, ↓reduceIte, Nat.reduceEqDiff]
  · refine ⟨m2, _, u2, trm_mu _ _, H2.mono (by omega) (by omega), by omega, ?_⟩
    clear F2 F3 n2 n3 H2 H3 l2 l3 u2 u3 t2 t3 gT3 gM3
    simp only [rowR, cRs, List.length_cons, List.length_nil, Nat.reduceAdd] at gT2
    generalize -smR x = sn at *
    generalize smR x = sx at *
    generalize smR y7 = s7 at *
    generalize smR y3 = s3 at *
    generalize (1 : Rat) = one at *
    simp only [encR, iv] at g1 g2 o1 g7 g3
    by_cases h1 : x.tmod 7 = 3
    · have c1 : (x.tmod 7 == 3) = true := beq_t h1
      by_cases h2 : i < 4
      · have c2 : decide ((i : Int) < 4) = true := lt_t (by omega)
        have c3 : decide ((out.length : Int) < 4) = false := lt_f (by omega)
        simp -implicitDefEqProofs (maxSteps := 10000000) only [gantryref06_Poly_l1, pm_st, ll, lo, x1, x2, e1, e2, e3, g1, g2, o1, g7, g3, z7, z3, w7', w3', c1, c2, c3, gT2, gM2, rep2c, rep3c_, go_sem, iv, bv, reduceCtorEq, ↓reduceIte, Nat.reduceEqDiff]
      · have c2 : decide ((i : Int) < 4) = false := lt_f (by omega)
        simp -implicitDefEqProofs (maxSteps := 10000000) only [gantryref06_Poly_l1, pm_st, ll, lo, x1, x2, e1, e2, e3, g1, g2, o1, g7, g3, z7, z3, w7', w3', c1, c2, gT2, gM2, rep2c, rep3c_, go_sem, iv, bv, reduceCtorEq, ↓reduceIte, Nat.reduceEqDiff]
    · have c1 : (x.tmod 7 == 3) = false := beq_f h1
      simp -implicitDefEqProofs (maxSteps := 10000000) only [gantryref06_Poly_l1, pm_st, ll, lo, x1, x2, e1, e2, e3, g1, g2, o1, g7, g3, z7, z3, w7', w3', c1, gT2, gM2, rep2c, rep3c_, go_sem, iv, bv, reduceCtorEq, ↓reduceIte, Nat.reduceEqDiff]
theorem pm_stop (hr : Rw e0 l) {i : Nat} (hi : l.length ≤ i ∨ 5 ≤ i) {d : D} : X G gantryref06_Poly_l1 (pm_st e0 d i) = some (.x 2, pm_en d) := by
  have ll := hr.len
  by_cases h1 : l.length ≤ i
  · have e1 : decide ((i : Int) < (l.length : Int)) = false := lt_f (by omega)
    simp -implicitDefEqProofs (maxSteps := 10000000) only [gantryref06_Poly_l1, pm_st, pm_en, ll, e1, go_sem, iv, bv, reduceCtorEq, ↓reduceIte, Nat.reduceEqDiff]
  · have e1 : decide ((i : Int) < (l.length : Int)) = true := lt_t (by omega)
    have e2 : decide ((i : Int) < 5) = false := lt_f (by omega)
    simp -implicitDefEqProofs (maxSteps := 10000000) only [gantryref06_Poly_l1, pm_st, pm_en, ll, e1, e2, go_sem, iv, bv, reduceCtorEq, ↓reduceIte, Nat.reduceEqDiff]
theorem pm_loop (hr : Rw e0 l) (hl : ∀ n ∈ l, I64 n) : ∀ (j i : Nat) (d : D) (out : List Rat), 5 ≤ i + j → i ≤ 5 → RwR d out → Trm out → HL (2 * i) (1 + 3 * i) out → (out.length + 3 ≤ 2 * i ∧ out.length ≤ i + 1) → ∃ d' out', RwR d' out' ∧ Trm out' ∧ HL 10 16 out' ∧ out'.length ≤ 6 ∧ X G (.loop gantryref06_Poly_l1) (pm_st e0 d i) = some (.x 2, pm_en d')
  | 0, i, d, out, hj, hi, h1, h2, h3, h4 => ⟨d, out, h1, h2, h3.mono (by omega) (by omega), by omega, by rw [X_loop, pm_stop hr (.inr (by omega))]; rfl⟩
  | j + 1, i, d, out, hj, hi, h1, h2, h3, h4 => by
    by_cases h : i < l.length ∧ i < 5
    · obtain ⟨d1, o1, a1, a2, a3, a4, a5⟩ := pm_go hr hl h.1 h.2 h1 h3 (by omega) (by omega) (by omega)
      obtain ⟨d', out', b1, b2, b3, b4, b5⟩ := pm_loop hr hl j (i + 1) d1 o1 (by omega) (by omega) a1 a2 (a3.mono (by omega) (by omega)) (by omega)
      exact ⟨d', out', b1, b2, b3, b4, by rw [X_loop, a5, Option.bind_some, if_pos rfl]; exact b5⟩
    · exact ⟨d, out, h1, h2, h3.mono (by omega) (by omega), by omega, by rw [X_loop, pm_stop hr (by omega)]; rfl⟩
theorem Poly_spec (hr : Rw e0 l) (hl : ∀ n ∈ l, I64 n) : ∃ d p, RwR d p ∧ Trm p ∧ HL 10 16 p ∧ p.length ≤ 6 ∧ callX G n_gantryref06_Poly [e0] = some (.d d) := by
  rw [callX_eq (cf := gantryref06_Poly) rfl]
  have a0 := at_spec (i := 0) (m := 3) hr hl (by omega)
  have a1 := at_spec (i := 1) (m := 5) hr hl (by omega)
  have b1 := atr_b l 1 (m := 5) (by omega)
  generalize atr l 0 3 = x0 at *
  generalize atr l 1 5 = x1 at *
  by_cases h0 : x0 = 0
  · have e1 : (x0 == 0) = true := beq_t h0
    obtain ⟨L, c1, c2, c3⟩ := pl_loop hr hl 5 1 [] (by omega) rfl (by omega) (fun q hq => by simp at hq)
    have HLs := HL.smalls L c2
    obtain ⟨d', t1, gT⟩ := rTrim_spec (dR_ok L) (by omega) (HLs.sz.mono (by omega))
    refine ⟨d', trimR L, t1, trm_trim _, (HLs.trim).mono (by omega) (by omega), Nat.le_trans (trimR_le L) (by omega), ?_⟩
    have n1 : ((1 : Nat) : Int) = 1 := rfl
    rw [n1] at c3
    simp only [iv] at a0
    by_cases hL : L = []
    · subst hL
      have gT' : callX G n_gantryref06_Trim [.z true] = some (.d d') := gT
      simp only [pl_st, pl_en, gA4_nil, gH4_nil, hupdO_none, go_sem] at c3
      simp -implicitDefEqProofs (maxSteps := 10000000) only [gantryref06_Poly, frzSt, a0, e1, c3, gT', hupdO_none, go_sem, iv, bv, reduceCtorEq, ↓reduceIte, Nat.reduceEqDiff]
    · rw [dR, if_neg hL, rowR] at gT
      simp only [pl_st, pl_en, gA4_nil, gH4_nil, gA4_ne hL, gH4_ne hL, hupdO_none, go_sem] at c3
      simp -implicitDefEqProofs (maxSteps := 10000000) only [gantryref06_Poly, frzSt, a0, e1, c3, gT, allD_cA, refsL_cA, hupdO_none, go_sem, iv, bv, reduceCtorEq, ↓reduceIte, Nat.reduceEqDiff]
  · have e1 : (x0 == 0) = false := beq_f h0
    obtain ⟨z, hz⟩ : ∃ z, 1 + x1 = z := ⟨_, rfl⟩
    have w1 : w64 (1 + x1) = z := by rw [w64_id (by omega) (by omega), hz]
    have o1 := rratOf_spec (n := z) (d := 1) ⟨by omega, by omega⟩ ⟨by omega, by omega⟩
    have Hc : H1 1 1 (Rat.divInt z 1) := ⟨(1 : Int).natAbs, by decide, by rw [Nat.pow_one]; decide, (Hq.div (n := z) (d := 1) (by omega)).le (by rw [Nat.pow_one]; show _ ≤ 1000000000; omega)⟩
    generalize Rat.divInt z 1 = c at *
    obtain ⟨d1, t1, gT⟩ := rTrim_spec (RwR.row [c]) (by simp only [List.length_cons, List.length_nil]; omega) ((HL.one Hc).sz.mono (by omega))
    have n1 : (trimR [c]).length ≤ 1 := trimR_le _
    obtain ⟨d', out', b1, b2, b3, b4, b5⟩ := pm_loop hr hl 3 2 d1 (trimR [c]) (by omega) (by omega) t1 (trm_trim _) ((HL.one Hc).trim.mono (by omega) (by omega)) (by omega)
    refine ⟨d', out', b1, b2, b3, b4, ?_⟩
    have n2 : ((2 : Nat) : Int) = 2 := rfl
    rw [n2] at b5
    simp only [rowR, cRs, List.length_cons, List.length_nil, Nat.reduceAdd] at gT
    simp only [encR, iv] at a0 a1 o1
    simp only [pm_st, pm_en, go_sem] at b5
    simp -implicitDefEqProofs (maxSteps := 10000000) only [gantryref06_Poly, a0, a1, e1, w1, o1, gT, b5, rep1c, go_sem, iv, bv, reduceCtorEq, ↓reduceIte, Nat.reduceEqDiff]
end
end Go.AM

/- How great the coefficients of a shift are. -/
namespace Go.AM
open Go Go.RowKit

theorem evR_dropL (l : List Rat) (x : Rat) {k : Nat} (h : k < l.length) : evR (l.drop k) x = evR (l.drop (k + 1)) x * x + l.getD k 0 := by
  have e : l.drop k = l.getD k 0 :: l.drop (k + 1) := by
    rw [List.drop_eq_getElem_cons h, List.getD_eq_getElem?_getD, List.getElem?_eq_getElem h]; rfl
  rw [e, evR_cons]
theorem syn_getD (a : Rat) : ∀ (s : List Rat) (i : Nat), s ≠ [] → (evR s a :: syn s a).getD i 0 = evR (s.drop i) a
  | [], _, h => absurd rfl h
  | [x], 0, _ => rfl
  | [x], i + 1, _ => by
    rw [syn]
    show (0 : Rat) = evR ([].drop i) a
    rw [List.drop_nil, evR_nil]
  | x :: b :: l, 0, _ => rfl
  | x :: b :: l, i + 1, _ => by
    rw [syn]
    show (evR (b :: l) a :: syn (b :: l) a).getD i 0 = evR ((b :: l).drop i) a
    exact syn_getD a (b :: l) i (by simp)
theorem hst_getD {l : List Rat} {a : Rat} {j : Nat} (hj : j < l.length) (t : Nat) : (hst l a j).getD t 0 = if t < j then l.getD t 0 else evR (l.drop t) a := by
  have hT : (l.take j).length = j := by rw [List.length_take]; omega
  unfold hst
  by_cases h : t < j
  · rw [if_pos h, List.getD_eq_getElem?_getD, List.getElem?_append_left (by omega), List.getElem?_take_of_lt h, ← List.getD_eq_getElem?_getD]
  · rw [if_neg h, List.getD_eq_getElem?_getD, List.getElem?_append_right (by omega), ← List.getD_eq_getElem?_getD, hT, syn_getD a _ _ (by
      intro h0; have := congrArg List.length h0; rw [List.length_drop] at this; simp at this; omega), List.drop_drop, show j + (t - j) = t by omega]
/-- Each place has its own power of v below. -/
def WS (D v n H : Nat) (l : List Rat) : Prop := ∀ k, k ≤ n → Hq (D * v ^ (n - k)) H (l.getD k 0)
theorem WS.suffix {D v n H U : Nat} {l : List Rat} {a : Rat} (h : WS D v n H l) (ha : Hq v U a) (hl : l.length ≤ n) : ∀ j t : Nat, t + j = n → Hq (D * v ^ (n - t)) (H * (1 + U) ^ j) (evR (l.drop t) a)
  | 0, t, ht => by
    rw [List.drop_of_length_le (by omega), evR_nil]; exact Hq.zero _ _
  | j + 1, t, ht => by
    by_cases h1 : t < l.length
    · have ih := WS.suffix h ha hl j (t + 1) (by omega)
      have h2 := ih.mul ha
      have h3 := h t (by omega)
      have e : D * v ^ (n - (t + 1)) * v = D * v ^ (n - t) := by
        rw [show n - t = (n - (t + 1)) + 1 by omega, Nat.pow_succ, Nat.mul_assoc]
      rw [e] at h2
      rw [evR_dropL l a h1]
      refine (h2.add h3).le ?_
      have e1 : H * (1 + U) ^ (j + 1) = H * (1 + U) ^ j * U + H * (1 + U) ^ j := by
        rw [Nat.pow_succ, ← Nat.mul_assoc, Nat.mul_add, Nat.mul_one, Nat.add_comm]
      rw [e1]
      have : H ≤ H * (1 + U) ^ j := Nat.le_mul_of_pos_right _ (Nat.pow_pos (by omega))
      omega
    · rw [List.drop_of_length_le (by omega), evR_nil]; exact Hq.zero _ _
theorem WS.hst {D v n H U : Nat} {l : List Rat} {a : Rat} (h : WS D v n H l) (ha : Hq v U a) (hl : l.length ≤ n) {j : Nat} (hj : j < l.length) : WS D v n (H * (1 + U) ^ n) (hst l a j) := fun k hk => by
  rw [hst_getD hj]
  split
  · exact (h k hk).le (Nat.le_mul_of_pos_right _ (Nat.pow_pos (by omega)))
  · exact (h.suffix ha hl (n - k) k (by omega)).le (Nat.mul_le_mul_left _ (Nat.pow_le_pow_right (by omega) (by omega)))
theorem WS.pas {D v n H U : Nat} {l : List Rat} {a : Rat} (h : WS D v n H l) (ha : Hq v U a) (hl : l.length ≤ n) : ∀ i, i ≤ l.length → WS D v n (H * ((1 + U) ^ n) ^ i) (pas l a i)
  | 0, _ => by rw [Nat.pow_zero, Nat.mul_one]; exact h
  | i + 1, hi => by
    have ih := WS.pas h ha hl i (by omega)
    have := ih.hst ha (by rw [pas_len i (by omega)]; exact hl) (j := i) (by rw [pas_len i (by omega)]; omega)
    rw [Nat.mul_assoc, ← Nat.pow_succ] at this
    exact this
end Go.AM

/- Small helps for the laws of ref06.Poly's polynomials. -/
namespace Go.AM
open Go Go.RowKit Go.Proofs
theorem H1.add {d1 h1 d2 h2 : Nat} {a b : Rat} (H : H1 d1 h1 a) (H' : H1 d2 h2 b) : H1 (d1 + d2) (max (h1 + d2) (h2 + d1) + 1) (a + b) := by
  obtain ⟨D, a1, a2, a3⟩ := H
  obtain ⟨E, b1, b2, b3⟩ := H'
  refine ⟨D * E, Nat.mul_pos a1 b1, mul_BB a2 b2, ((a3.lift E).add (b3.lift' D)).le (two_BB ?_ ?_)⟩
  · exact Nat.le_trans (mul_BB (Nat.le_refl _) b2) (BB_mono (by omega))
  · exact Nat.le_trans (mul_BB a2 (Nat.le_refl _)) (BB_mono (by omega))
variable [Its]
end Go.AM

/- ref06: At, Add, Scale, Sub, Derive, Eval, Shift. -/
namespace Go.AM
open Go Go.RowKit

theorem rng_snoc (e : Nat → Rat) (n : Nat) : (List.range n).map e ++ [e n] = (List.range (n + 1)).map e := by
  rw [List.range_succ, List.map_append]; rfl
theorem dR_nil : dR [] = .z true := rfl
theorem dR_ne {l : List Rat} (h : l ≠ []) : dR l = .row l.length (cRs l) := if_neg h
variable [Its]

/-! ### Add -/
section
variable {d d2 : D} {l m : List Rat} {K : Nat}
end

/-! ### Scale -/
section
variable {d : D} {l : List Rat} {a : Rat} {K : Nat}
def rs_st (d : D) (a : Rat) (L : List Rat) (i : Int) : St := mkS [(0, .d d), (3, .ptr [3] 0), (5, gA4 21 L), (6, ai i)] (([3], boxR a) :: gH4 21 L)
def rs_en (L : List Rat) : St := mkS [(5, gA4 21 L)] (gH4 21 L)
theorem rs_go (h1 : RwR d l) (s1 : SzL K l) (sa : sz a ≤ K) (hK1 : 1 ≤ K) (hK : K ≤ 10000000000) {L : List Rat} {i : Nat} (hL : L.length ≤ 1000000000) (hi : i < l.length) (hi2 : i ≤ 1000000000) : X G gantryref06_Scale_l0 (rs_st d a L i) = some (.n, rs_st d a (L ++ [l.getD i 0 * a]) ((i + 1 : Nat) : Int)) := by
  have e3 : w64 ((i : Int) + 1) = ((i + 1 : Nat) : Int) := by rw [w64_id (by omega) (by omega)]; rfl
  have e1 : decide ((i : Int) < (l.length : Int)) = true := lt_t (by omega)
  have ll := h1.len
  have x1 := h1.ixa hi
  have x2 := fun h => ldR h l hi
  have b1 := s1.getD hK1 i
  have g := rratMul_spec (a := l.getD i 0) (b := a) (by omega) (by omega)
  generalize l.getD i 0 * a = q at *
  generalize l.getD i 0 = u at *
  generalize cRs (l.drop i) = cs at *
  have d1 := dgone (digs q.num.natAbs)
  have d2' := dgone (dd q.den)
  have hb : (64 ≤ bound) = True := eq_true (by unfold bound; omega)
  have hb1 : (1 * 64 ≤ bound) = True := eq_true (by unfold bound; omega)
  have n3 : (cA L).length = L.length * 4 := cA_length L
  have n4 : ((L.length + 1) * 64 ≤ bound) = True := eq_true (by unfold bound; omega)
  simp only [encR] at g x2
  by_cases h0 : L = []
  · subst h0
    simp -implicitDefEqProofs (maxSteps := 10000000) only [gantryref06_Scale_l0, rs_st, boxR, ld4, gA4_nil, gH4_nil, hupdO_none, gA4_snoc, gH4_snoc, List.nil_append, List.cons_append, List.length_nil, List.length_cons, Nat.zero_add, List.map_cons, List.map_nil, rep1c, gA4_one, gH4_one, cA_one, srcS, src, one_b, allD, hb, hb1, d1, d2', ll, x1, x2, go_sem, iv, bv, e1, e3, g, reduceCtorEq, ↓reduceIte, Nat.reduceEqDiff]
  · simp -implicitDefEqProofs (maxSteps := 10000000) only [gantryref06_Scale_l0, rs_st, boxR, ld4, gA4_ne h0, gH4_ne h0, gA4_snoc, gH4_snoc, List.nil_append, List.cons_append, List.length_nil, List.length_cons, Nat.zero_add, List.map_cons, List.map_nil, rep1c, cA_snoc, n3, n4, refsL_cA, srcS, src, one_b, allD, d1, d2', ll, x1, x2, go_sem, iv, bv, e1, e3, g, reduceCtorEq, ↓reduceIte, Nat.reduceEqDiff]
theorem rs_stop (h1 : RwR d l) {L : List Rat} : X G gantryref06_Scale_l0 (rs_st d a L (l.length : Nat)) = some (.x 0, rs_en L) := by
  have e1 : decide ((l.length : Int) < (l.length : Int)) = false := lt_f (by omega)
  have ll := h1.len
  by_cases h0 : L = []
  · subst h0
    simp -implicitDefEqProofs (maxSteps := 10000000) only [gantryref06_Scale_l0, rs_st, rs_en, boxR, gA4_nil, gH4_nil, hupdO_none, ll, e1, go_sem, iv, bv, reduceCtorEq, ↓reduceIte, Nat.reduceEqDiff]
  · simp -implicitDefEqProofs (maxSteps := 10000000) only [gantryref06_Scale_l0, rs_st, rs_en, boxR, gA4_ne h0, gH4_ne h0, refsL_cA, ll, e1, go_sem, iv, bv, reduceCtorEq, ↓reduceIte, Nat.reduceEqDiff]
theorem rs_loop (h1 : RwR d l) (s1 : SzL K l) (sa : sz a ≤ K) (hK1 : 1 ≤ K) (hK : K ≤ 10000000000) (n1 : l.length ≤ 1000) : ∀ j i : Nat, i + j = l.length → X G (.loop gantryref06_Scale_l0) (rs_st d a ((List.range i).map fun k => l.getD k 0 * a) i) = some (.x 0, rs_en ((List.range l.length).map fun k => l.getD k 0 * a))
  | 0, i, h => by
    have : i = l.length := by omega
    subst this
    rw [X_loop, rs_stop h1]; rfl
  | j + 1, i, h => by
    rw [X_loop, rs_go h1 s1 sa hK1 hK (by simp; omega) (by omega) (by omega), Option.bind_some, if_pos rfl, rng_snoc (fun k => l.getD k 0 * a)]
    exact rs_loop h1 s1 sa hK1 hK n1 j (i + 1) (by omega)
theorem r6Scale_spec (h1 : RwR d l) (s1 : SzL K l) (sa : sz a ≤ K) (hK1 : 1 ≤ K) (hK : K ≤ 10000000000) (n1 : l.length ≤ 1000) : ∃ d', RwR d' (scP l a) ∧ callX G n_gantryref06_Scale [d, encR a] = some (.d d') := by
  rw [callX_eq (cf := gantryref06_Scale) rfl]
  have hl := rs_loop h1 s1 sa hK1 hK n1 l.length 0 (by omega)
  obtain ⟨d', hr, gT⟩ := rTrim_spec (dR_ok ((List.range l.length).map fun k => l.getD k 0 * a)) (by simp; omega) ((SzL.map (K := 2 * K) fun k _ => by
    have := s1.getD hK1 k
    have := sz_mul (a := l.getD k 0) (b := a); omega).mono (by omega))
  refine ⟨d', hr, ?_⟩
  have e0 : (List.range 0).map (fun k => l.getD k 0 * a) = [] := rfl
  have z0 : ((0 : Nat) : Int) = 0 := rfl
  rw [e0, z0] at hl
  generalize (List.range l.length).map (fun k => l.getD k 0 * a) = L at *
  by_cases h0 : L = []
  · subst h0
    rw [dR_nil] at gT
    simp only [rs_st, rs_en, boxR, gA4_nil, gH4_nil, hupdO_none, go_sem] at hl
    simp -implicitDefEqProofs (maxSteps := 10000000) only [gantryref06_Scale, encR, frzSt, hl, gT, hupdO_none, go_sem, iv, bv, reduceCtorEq, ↓reduceIte, Nat.reduceEqDiff]
  · rw [dR_ne h0] at gT
    simp only [rs_st, rs_en, boxR, gA4_nil, gH4_nil, gA4_ne h0, gH4_ne h0, hupdO_none, go_sem] at hl
    simp -implicitDefEqProofs (maxSteps := 10000000) only [gantryref06_Scale, encR, frzSt, hl, gT, allD_cA, refsL_cA, hupdO_none, go_sem, iv, bv, reduceCtorEq, ↓reduceIte, Nat.reduceEqDiff]
end
end Go.AM

/- ref06: Sub, Derive, Eval, Shift. -/
namespace Go.AM
open Go Go.RowKit

variable [Its]

section
variable {d d2 : D} {l m : List Rat} {K : Nat}
end

/-! ### Derive -/
section
variable {d : D} {l : List Rat} {K : Nat}
/-! ### Eval -/
/-! ### Shift -/
end
end Go.AM

/- Division: what it means, that it is the only one, how great the coefficients are. -/
namespace Go.AM
open Go Go.RowKit

theorem trm_last {l : List Rat} (h : Trm l) (hne : l ≠ []) : l.getD (l.length - 1) 0 ≠ 0 := by
  have hp : 0 < l.length := List.length_pos_iff.2 hne
  exact h (l.length - 1) (by omega)
theorem evR_setc (x : Rat) {l : List Rat} {t : Nat} {c : Rat} (h : t < l.length) : evR (l.set t c) x = evR l x + (c - l.getD t 0) * x ^ t := by
  have : ∀ (l : List Rat) (t : Nat) (c : Rat), t < l.length → evR (l.set t c) x = evR l x + (c - l.getD t 0) * x ^ t := by
    intro l
    induction l with
    | nil => intro t c h; simp at h
    | cons a l ih =>
      intro t c h
      cases t with
      | zero =>
        show evR l x * x + c = evR l x * x + a + (c - a) * x ^ 0
        rw [Rat.pow_zero]; generalize evR l x = u; grind
      | succ t =>
        have := ih t c (by simpa using h)
        show evR (l.set t c) x * x + a = evR l x * x + a + (c - l.getD t 0) * x ^ (t + 1)
        rw [this, Rat.pow_succ]
        generalize evR l x = u; generalize x ^ t = p; generalize l.getD t 0 = v; grind
  exact this l t c h
theorem rpow_add (x : Rat) (k : Nat) : ∀ i : Nat, x ^ (k + i) = x ^ k * x ^ i
  | 0 => by rw [Nat.add_zero, Rat.pow_zero, Rat.mul_one]
  | i + 1 => by rw [← Nat.add_assoc, Rat.pow_succ, Rat.pow_succ, rpow_add x k i, Rat.mul_assoc]
theorem evR_take (q : List Rat) (x : Rat) {i : Nat} (h : i < q.length) : evR (q.take (i + 1)) x = evR (q.take i) x + q.getD i 0 * x ^ i := by
  have e : q.take (i + 1) = q.take i ++ [q.getD i 0] := by
    rw [List.take_add_one]
    simp [List.getD, h]
  rw [e, evR_snoc, List.length_take, Nat.min_eq_left (by omega)]
theorem evR_dvI {R q : List Rat} {k : Nat} {f x : Rat} : ∀ i, i ≤ q.length → k + q.length ≤ R.length → evR (dvI R q k f i) x = evR R x - f * x ^ k * evR (q.take i) x
  | 0, _, _ => by rw [dvI, List.take_zero, evR_nil]; grind
  | i + 1, hi, hk => by
    rw [dvI, evR_setc x (by rw [dvI_len]; omega), evR_dvI i (by omega) hk, evR_take q x (by omega), rpow_add]
    generalize evR R x = a; generalize evR (q.take i) x = b; generalize x ^ k = p; generalize x ^ i = r; generalize q.getD i 0 = c; generalize (dvI R q k f i).getD (k + i) 0 = e
    grind
theorem evR_dv {R q : List Rat} {k : Nat} {f x : Rat} (hk : k + q.length ≤ R.length) : evR (dvI R q k f q.length) x = evR R x - f * x ^ k * evR q x := by
  have := evR_dvI (x := x) (f := f) q.length (Nat.le_refl _) hk
  rwa [List.take_length] at this
/-- What the loop of Div leaves. -/
theorem dvO_ev (q : List Rat) (x : Rat) : ∀ (m : Nat) (R O : List Rat), (0 < m → m - 1 + q.length ≤ R.length) → m ≤ O.length → (∀ t, t < m → O.getD t 0 = 0) → evR (dvO q m R O).2 x * evR q x + evR (dvO q m R O).1 x = evR O x * evR q x + evR R x
  | 0, R, O, _, _, _ => rfl
  | k + 1, R, O, h, hO, hz => by
    have hk : k + q.length ≤ R.length := by have := h (by omega); omega
    rw [dvO, dvO_ev q x k _ _ (fun _ => by rw [dvI_len]; omega) (by rw [List.length_set]; omega) (fun t ht => by rw [lgetD_set (by omega), if_neg (by omega)]; exact hz t (by omega)), evR_dv hk, evR_setc x (by omega), hz k (by omega)]
    generalize evR O x = a; generalize evR R x = b; generalize evR q x = c; generalize x ^ k = p; generalize dvF R q k = f
    grind
theorem dvO_deg {q : List Rat} (hq : q.getD (q.length - 1) 0 ≠ 0) (hq0 : 0 < q.length) : ∀ (m : Nat) (R O : List Rat), (0 < m → m - 1 + q.length ≤ R.length) → (∀ t, m + q.length - 1 ≤ t → R.getD t 0 = 0) → ∀ t, q.length - 1 ≤ t → (dvO q m R O).1.getD t 0 = 0
  | 0, R, O, _, hz, t, ht => hz t (by omega)
  | k + 1, R, O, h, hz, t, ht => by
    have hk : k + q.length ≤ R.length := by have := h (by omega); omega
    rw [dvO]
    refine dvO_deg hq hq0 k _ _ (fun _ => by rw [dvI_len]; omega) (fun t ht => ?_) t ht
    rw [dvI_getD q.length (by omega)]
    by_cases h1 : t = k + q.length - 1
    · subst h1
      rw [if_pos (by omega), show k + q.length - 1 - k = q.length - 1 by omega, dvF, Rat.div_def, Rat.mul_assoc, Rat.inv_mul_cancel _ hq, Rat.mul_one, Rat.sub_self]
    · rw [if_neg (by omega)]
      exact hz t (by omega)
theorem len_of_zero {l : List Rat} {n : Nat} (hl : Trm l) (h : ∀ t, n ≤ t → l.getD t 0 = 0) : l.length ≤ n := by
  by_cases hl0 : l.length ≤ n
  · exact hl0
  · exact absurd (h (l.length - 1) (by omega)) (hl (l.length - 1) (by omega))
theorem quo_rem {p q : List Rat} (hq : Trm q) (hq0 : q ≠ []) : (∀ x, evR p x = evR (quoP p q) x * evR q x + evR (remP p q) x) ∧ (remP p q).length ≤ q.length - 1 ∧ Trm (quoP p q) ∧ Trm (remP p q) := by
  have hl : 0 < q.length := List.length_pos_iff.2 hq0
  unfold quoP remP
  rw [if_neg hq0, if_neg hq0]
  refine ⟨fun x => ?_, ?_, trm_trim _, trm_trim _⟩
  · rw [evR_trim, evR_trim, dvO_ev q x (dvN p q) p (List.replicate (dvN p q) 0) (fun h => by unfold dvN at h ⊢; omega) (by simp) (fun t ht => by
      rw [List.getD_eq_getElem?_getD, List.getElem?_replicate, if_pos ht]; rfl), evR_zeros (fun r hr => (List.mem_replicate.1 hr).2), Rat.zero_mul, Rat.zero_add]
  · refine len_of_zero (trm_trim _) (fun t ht => ?_)
    rw [getD_trim]
    refine dvO_deg (trm_last hq hq0) hl _ _ _ (fun h => by unfold dvN at h ⊢; omega) (fun t ht => getD_out (by unfold dvN at ht; omega)) t ht
theorem conv_top {s q : List Rat} (hs : 0 < s.length) (hq : 0 < q.length) : conv s q (s.length - 1 + (q.length - 1)) = s.getD (s.length - 1) 0 * q.getD (q.length - 1) 0 := by
  obtain ⟨n, hn⟩ : ∃ n, s.length = n + 1 := ⟨s.length - 1, by omega⟩
  unfold conv
  rw [hn, Nat.add_sub_cancel]
  have h1 : sumR (fun i => s.getD i 0 * q.getD (n + (q.length - 1) - i) 0) (n + (q.length - 1) + 1) = sumR (fun i => s.getD i 0 * q.getD (n + (q.length - 1) - i) 0) (n + 1) := by
    rw [show n + (q.length - 1) + 1 = (n + 1) + (q.length - 1) by omega]
    exact sumR_more _ (fun i h1 _ => by rw [getD_out (l := s) (by omega), Rat.zero_mul])
  rw [h1, sumR, sumR_zero n (fun i hi => by rw [getD_out (l := q) (by omega), Rat.mul_zero]), Rat.zero_add, show n + (q.length - 1) - n = q.length - 1 by omega]
theorem mu_getD (l m : List Rat) (k : Nat) : (muP l m).getD k 0 = conv l m k := by
  rw [muP, getD_trim]
  by_cases h : k < l.length + m.length - 1
  · rw [getD_map _ h]
  · rw [getD_out (by simp; omega), conv_out (by omega)]
theorem sb_getD (l m : List Rat) (k : Nat) : (sbP l m).getD k 0 = l.getD k 0 - m.getD k 0 := by
  rw [sbP, getD_trim]
  by_cases h : k < max l.length m.length
  · rw [getD_map _ h]
  · rw [getD_out (by simp; omega), getD_out (l := l) (by omega), getD_out (l := m) (by omega), Rat.sub_self]
/-- Division is what it is. -/
theorem div_uniq {q a1 r1 a2 r2 : List Rat} (hq : Trm q) (hq0 : q ≠ []) (t1 : Trm a1) (t2 : Trm a2) (u1 : Trm r1) (u2 : Trm r2) (n1 : r1.length ≤ q.length - 1) (n2 : r2.length ≤ q.length - 1) (h : ∀ x, evR a1 x * evR q x + evR r1 x = evR a2 x * evR q x + evR r2 x) : a1 = a2 ∧ r1 = r2 := by
  have hl : 0 < q.length := List.length_pos_iff.2 hq0
  have hs : sbP a1 a2 = [] := by
    by_cases h0 : sbP a1 a2 = []
    · exact h0
    · have hsl : 0 < (sbP a1 a2).length := List.length_pos_iff.2 h0
      have hev : ∀ x, evR (muP (sbP a1 a2) q) x = evR (sbP r2 r1) x := fun x => by
        rw [ev_mu, ev_sb, ev_sb]
        have := h x
        generalize evR a1 x = a at *; generalize evR a2 x = b at *; generalize evR q x = c at *; generalize evR r1 x = d at *; generalize evR r2 x = e at *
        grind
      have hc := coef_eq (c := 0) (fun x _ => hev x) ((sbP a1 a2).length - 1 + (q.length - 1))
      rw [mu_getD, conv_top hsl hl, sb_getD r2 r1, getD_out (l := r2) (by omega), getD_out (l := r1) (by omega), Rat.sub_self] at hc
      rcases Rat.mul_eq_zero.1 hc with h1 | h1
      · exact absurd h1 (trm_last (trm_sb _ _) h0)
      · exact absurd h1 (trm_last hq hq0)
  have ha : a1 = a2 := trm_ext t1 t2 (fun k => by
    have := sb_getD a1 a2 k
    rw [hs, getD_out (by simp)] at this
    generalize a1.getD k 0 = u at *; generalize a2.getD k 0 = v at *
    grind)
  refine ⟨ha, poly_ext u1 u2 (fun x => ?_)⟩
  have := h x
  rw [ha] at this
  generalize evR a2 x * evR q x = u at *
  grind

/-! ### Sizes -/
theorem Hq.ratio {E Y : Nat} {c : Rat} (hE : 0 < E) (hc : c ≠ 0) (h : Hq E Y c) : ∃ s : Nat, 0 < s ∧ s ≤ Y ∧ ∀ (Z : Nat) (v : Rat), Hq E Z v → Hq s Z (v / c) := by
  obtain ⟨m, h1, h2⟩ := h
  have hm : m ≠ 0 := fun h0 => by
    rw [h0] at h1
    have h3 : c * cN E = 0 := h1
    rcases Rat.mul_eq_zero.1 h3 with h4 | h4
    · exact hc h4
    · exact cN_ne hE h4
  have key : ∀ v, v / c * (m : Rat) = v * cN E := fun v => by
    rw [← h1, Rat.div_def, Rat.mul_assoc, ← Rat.mul_assoc c⁻¹, Rat.inv_mul_cancel _ hc, Rat.one_mul]
  refine ⟨m.natAbs, by omega, h2, fun Z v hv => ?_⟩
  obtain ⟨n, n1, n2⟩ := hv
  rcases Int.lt_trichotomy m 0 with h3 | h3 | h3
  · have e : cN m.natAbs = -(m : Rat) := by
      unfold cN
      rw [show ((m.natAbs : Nat) : Int) = -m by omega, Rat.intCast_neg]
    exact ⟨-n, by rw [e, Rat.mul_neg, key, n1, Rat.intCast_neg], by omega⟩
  · exact absurd h3 hm
  · have e : cN m.natAbs = (m : Rat) := by
      unfold cN
      rw [show ((m.natAbs : Nat) : Int) = m by omega]
    exact ⟨n, by rw [e, key, n1], n2⟩
theorem Hq.one (E : Nat) : Hq E E 1 := ⟨(E : Int), by rw [Rat.one_mul]; rfl, by omega⟩
/-- One step of division: the denominator grows by the divisor's last numerator. -/
theorem dv_step {D X E Y s : Nat} {R q : List Rat} {k : Nat} (hR : ∀ x ∈ R, Hq D X x) (hq : ∀ x ∈ q, Hq E Y x) (hs : ∀ (Z : Nat) (v : Rat), Hq E Z v → Hq s Z (v / q.getD (q.length - 1) 0)) (hk : k + q.length ≤ R.length) :
    (∀ x ∈ dvI R q k (dvF R q k) q.length, Hq (D * s) (X * (s + Y)) x) ∧ Hq (D * s) (X * E) (dvF R q k) := by
  have hf : Hq (D * s) (X * E) (dvF R q k) := by
    have := (Hq.getD hR (k + q.length - 1)).mul (hs E 1 (Hq.one E))
    unfold dvF
    rwa [Rat.div_def, Rat.one_mul, ← Rat.div_def] at this
  refine ⟨fun x hx => ?_, hf⟩
  obtain ⟨t, ht, rfl⟩ := List.mem_iff_getElem.1 hx
  have e : (dvI R q k (dvF R q k) q.length)[t] = (dvI R q k (dvF R q k) q.length).getD t 0 := by
    rw [List.getD_eq_getElem?_getD, List.getElem?_eq_getElem ht]; rfl
  rw [e, dvI_getD q.length hk]
  have hRt := (Hq.getD hR t).lift s
  split
  · have hfq : Hq (D * s) (X * Y) (dvF R q k * q.getD (t - k) 0) := by
      have h1 := (Hq.getD hR (k + q.length - 1)).mul (hs Y _ (Hq.getD hq (t - k)))
      have e2 : R.getD (k + q.length - 1) 0 * (q.getD (t - k) 0 / q.getD (q.length - 1) 0) = dvF R q k * q.getD (t - k) 0 := by
        unfold dvF
        rw [Rat.div_def, Rat.div_def]
        generalize R.getD (k + q.length - 1) 0 = a; generalize (q.getD (q.length - 1) 0)⁻¹ = b; generalize q.getD (t - k) 0 = c
        grind
      rwa [e2] at h1
    rw [Nat.mul_add]
    exact hRt.sub hfq
  · rw [Nat.mul_add]
    exact hRt.le (by omega)
/-- All the way. -/
theorem dv_all {E Y s : Nat} {q : List Rat} {d e g : Nat} (hq : ∀ x ∈ q, Hq E Y x) (hs : ∀ (Z : Nat) (v : Rat), Hq E Z v → Hq s Z (v / q.getD (q.length - 1) 0)) (hs0 : 0 < s) (hsB : s ≤ BB ^ g) (hYB : Y ≤ BB ^ g) (hEB : E ≤ BB ^ e) {K : Nat} :
    ∀ (m D h : Nat) (R O : List Rat), 0 < D → D ≤ BB ^ d → (∀ x ∈ R, Hq D (BB ^ h) x) → (∀ x ∈ O, Hq D (BB ^ (h + e)) x) → (0 < m → m - 1 + q.length ≤ R.length) → max (d + m * g) (h + m * (g + 1) + e) + 1 ≤ K →
    dvG K q m R ∧ ∃ D', 0 < D' ∧ D' ≤ BB ^ (d + m * g) ∧ (∀ x ∈ (dvO q m R O).1, Hq D' (BB ^ (h + m * (g + 1))) x) ∧ (∀ x ∈ (dvO q m R O).2, Hq D' (BB ^ (h + m * (g + 1) + e)) x) := by
  intro m
  induction m generalizing d with
  | zero =>
    intro D h R O hD hd hR hO _ _
    exact ⟨trivial, D, hD, by rw [Nat.zero_mul, Nat.add_zero]; exact hd, by rw [Nat.zero_mul, Nat.add_zero]; exact hR, by rw [Nat.zero_mul, Nat.add_zero]; exact hO⟩
  | succ k ih =>
    intro D h R O hD hd hR hO hk hK
    have hk' := hk (by omega)
    obtain ⟨a1, a2⟩ := dv_step (k := k) hR hq hs (by omega)
    have e1 : (k + 1) * g = g + k * g := by rw [Nat.succ_mul, Nat.add_comm]
    have e2 : (k + 1) * (g + 1) = (g + 1) + k * (g + 1) := by rw [Nat.succ_mul, Nat.add_comm]
    have hb : BB ^ h * (s + Y) ≤ BB ^ (h + (g + 1)) := mul_BB (Nat.le_refl _) (two_BB hsB hYB)
    have hR' : ∀ x ∈ dvI R q k (dvF R q k) q.length, Hq (D * s) (BB ^ (h + (g + 1))) x := fun x hx => (a1 x hx).le hb
    have hO' : ∀ x ∈ O.set k (dvF R q k), Hq (D * s) (BB ^ (h + (g + 1) + e)) x := fun x hx => by
      rcases List.mem_or_eq_of_mem_set hx with h1 | h1
      · exact ((hO x h1).lift s).le (Nat.le_trans (mul_BB (Nat.le_refl _) hsB) (BB_mono (by omega)))
      · rw [h1]
        exact a2.le (Nat.le_trans (mul_BB (Nat.le_refl _) hEB) (BB_mono (by omega)))
    have := ih (d := d + g) (D * s) (h + (g + 1)) (dvI R q k (dvF R q k) q.length) (O.set k (dvF R q k)) (Nat.mul_pos hD hs0) (mul_BB hd hsB) hR' hO' (fun _ => by rw [dvI_len]; omega) (by
      rw [e1, e2] at hK; omega)
    obtain ⟨b1, D', b2, b3, b4, b5⟩ := this
    refine ⟨⟨fun x hx => ?_, b1⟩, D', b2, ?_, ?_, ?_⟩
    · have := Hq.sz hD hd (Nat.le_refl _) (hR x hx)
      rw [e1, e2] at hK; omega
    · rw [e1, ← Nat.add_assoc]; exact b3
    · rw [dvO, e2, ← Nat.add_assoc]; exact b4
    · rw [dvO, e2, ← Nat.add_assoc]; exact b5
theorem div_HL {d h e g : Nat} {p q : List Rat} (Hp : HL d h p) (Hq' : HL e g q) (hq : Trm q) {K : Nat} (hK : max (d + dvN p q * g) (h + dvN p q * (g + 1) + e) + 1 ≤ K) : dvG K q (dvN p q) p ∧ HL (d + dvN p q * g) (h + dvN p q * (g + 1)) (remP p q) ∧ HL (d + dvN p q * g) (h + dvN p q * (g + 1) + e) (quoP p q) := by
  obtain ⟨D, a1, a2, a3⟩ := Hp
  obtain ⟨E, b1, b2, b3⟩ := Hq'
  by_cases hq0 : q = []
  · have r1 : remP p q = [] := if_pos hq0
    have r2 : quoP p q = [] := if_pos hq0
    rw [r1, r2]
    refine ⟨?_, HL.nil _ _, HL.nil _ _⟩
    subst hq0
    have hg : ∀ (m : Nat) (R : List Rat), SzL K R → dvG K [] m R := by
      intro m
      induction m with
      | zero => intro R _; trivial
      | succ k ih => intro R hR; exact ⟨hR, ih _ hR⟩
    exact hg _ _ (fun x hx => Nat.le_trans ((a3 x hx).sz a1 a2 (Nat.le_refl _)) (by omega))
  · obtain ⟨s, s1, s2, s3⟩ := Hq.ratio b1 (trm_last hq hq0) (Hq.getD b3 (q.length - 1))
    obtain ⟨c1, D', c2, c3, c4, c5⟩ := dv_all (d := d) (e := e) (g := g) (K := K) b3 s3 s1 s2 (Nat.le_refl _) b2 (dvN p q) D h p (List.replicate (dvN p q) 0) a1 a2 a3 (fun x hx => by rw [(List.mem_replicate.1 hx).2]; exact Hq.zero _ _) (fun hm => by unfold dvN at hm ⊢; omega) hK
    have r1 : remP p q = trimR (dvO q (dvN p q) p (List.replicate (dvN p q) 0)).1 := if_neg hq0
    have r2 : quoP p q = trimR (dvO q (dvN p q) p (List.replicate (dvN p q) 0)).2 := if_neg hq0
    rw [r1, r2]
    exact ⟨c1, HL.trim ⟨D', c2, c3, c4⟩, HL.trim ⟨D', c2, c3, c5⟩⟩
theorem mn_HL {d h : Nat} {l : List Rat} (H : HL d h l) (hl : Trm l) : HL h h (mnP l) := by
  unfold mnP
  split
  · exact HL.nil _ _
  · rename_i hne
    obtain ⟨D, a1, a2, a3⟩ := H
    obtain ⟨s, s1, s2, s3⟩ := Hq.ratio a1 (trm_last hl hne) (Hq.getD a3 (l.length - 1))
    refine HL.made s1 s2 (Nat.le_refl _) (fun k _ => ?_)
    have := s3 _ _ (Hq.getD a3 k)
    rw [Rat.div_def, Rat.one_mul]
    rwa [Rat.div_def] at this
end Go.AM

/- ref06: Div, Monic, Gcd, Free. -/
namespace Go.AM
open Go Go.RowKit

variable [Its]

section
variable {dq : D} {q : List Rat} {K e g : Nat}
end
end Go.AM

