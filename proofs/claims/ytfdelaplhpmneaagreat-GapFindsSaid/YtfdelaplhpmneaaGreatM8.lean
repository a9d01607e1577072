/- Part 8 of the proof: a small machine, its soundness against the model, and what the program's functions compute on it. -/
import Derived.Test.YtfdelaplhpmneaaGreatM7
import Derived.Test.YtfdelaplhpmneaaGreatM6
import Derived.Test.YtfdelaplhpmneaaGreatM5
set_option linter.unusedVariables false
set_option linter.unusedSimpArgs false
/- How great the coefficients are: a common denominator and a bound of the numerators. -/
namespace Go.AM
open Go Go.RowKit

def BB : Nat := 1000000000
theorem BB_pos (n : Nat) : 0 < BB ^ n := Nat.pow_pos (by decide)
theorem QeR {n m : Nat} (h : n ≤ m) : BB ^ n ≤ BB ^ m := Nat.pow_le_pow_right (by decide) h
def cN (n : Nat) : Rat := ((n : Int) : Rat)
theorem cN_mul (n m : Nat) : cN (n * m) = cN n * cN m := by unfold cN; rw [Int.natCast_mul, Rat.intCast_mul]
theorem cN_ne {n : Nat} (h : 0 < n) : cN n ≠ 0 := by
 unfold cN
 intro h0
 have h1 : ((n : Int) : Rat) = ((0 : Int) : Rat) := h0
 rw [Rat.intCast_inj] at h1
 omega
def Hq (D X : Nat) (q : Rat) : Prop := ∃ m : Int, q * cN D = (m : Rat) ∧ m.natAbs ≤ X
theorem Hq.zero (D X : Nat) : Hq D X 0 := ⟨0, by rw [Rat.zero_mul]; rfl, by simp⟩
theorem Hq.le {D X Y : Nat} {q : Rat} (h : Hq D X q) (hX : X ≤ Y) : Hq D Y q := by
 obtain ⟨m, h1, h2⟩ := h
 exact ⟨m, h1, by omega⟩
theorem Hq.add {D X Y : Nat} {q p : Rat} (h : Hq D X q) (h' : Hq D Y p) : Hq D (X + Y) (q + p) := by
 obtain ⟨m, h1, h2⟩ := h
 obtain ⟨n, h3, h4⟩ := h'
 exact ⟨m + n, by rw [Rat.add_mul, h1, h3, Rat.intCast_add], by omega⟩
theorem Hq.neg {D X : Nat} {q : Rat} (h : Hq D X q) : Hq D X (-q) := by
 obtain ⟨m, h1, h2⟩ := h
 exact ⟨-m, by rw [Rat.neg_mul, h1, Rat.intCast_neg], by omega⟩
theorem Hq.sub {D X Y : Nat} {q p : Rat} (h : Hq D X q) (h' : Hq D Y p) : Hq D (X + Y) (q - p) := by
 rw [Rat.sub_eq_add_neg]; exact h.add h'.neg
theorem Hq.mul {D E X Y : Nat} {q p : Rat} (h : Hq D X q) (h' : Hq E Y p) : Hq (D * E) (X * Y) (q * p) := by
 obtain ⟨m, h1, h2⟩ := h
 obtain ⟨n, h3, h4⟩ := h'
 refine ⟨m * n, ?_, by rw [Int.natAbs_mul]; exact Nat.mul_le_mul h2 h4⟩
 rw [cN_mul, Rat.intCast_mul, ← h1, ← h3]
 generalize cN D = u; generalize cN E = v; grind
theorem Hq.lift {D X : Nat} {q : Rat} (h : Hq D X q) (E : Nat) : Hq (D * E) (X * E) q := by
 obtain ⟨m, h1, h2⟩ := h
 refine ⟨m * E, ?_, by rw [Int.natAbs_mul]; exact Nat.mul_le_mul h2 (by omega)⟩
 rw [cN_mul, Rat.intCast_mul, ← h1, Rat.mul_assoc]; rfl
theorem Hq.lift' {D X : Nat} {q : Rat} (h : Hq D X q) (E : Nat) : Hq (E * D) (E * X) q := by
 rw [Nat.mul_comm E, Nat.mul_comm E]; exact h.lift E
theorem Hq.sum {D X : Nat} {f : Nat → Rat} : ∀ n, (∀ i, i < n → Hq D X (f i)) → Hq D (n * X) (sumR f n)
 | 0, _ => by rw [sumR, Nat.zero_mul]; exact Hq.zero D 0
 | n + 1, h => by
  rw [sumR, Nat.succ_mul]
  exact (Hq.sum n (fun i hi => h i (by omega))).add (h n (by omega))
theorem Hq.int (n : Int) : Hq 1 n.natAbs (n : Rat) := ⟨n, Rat.mul_one _, Nat.le_refl _⟩
theorem Hq.div {n d : Int} (hd : 0 < d) : Hq d.natAbs n.natAbs (Rat.divInt n d) := by
 refine ⟨n, ?_, Nat.le_refl _⟩
 have e : cN d.natAbs = (d : Rat) := by unfold cN; rw [Int.natAbs_of_nonneg (by omega)]
 have h0 : (d : Rat) ≠ 0 := by
  intro h0
  have h1 : (d : Rat) = ((0 : Int) : Rat) := h0
  rw [Rat.intCast_inj] at h1; omega
 rw [e, Rat.divInt_eq_div, Rat.div_def, Rat.mul_assoc, Rat.inv_mul_cancel _ h0, Rat.mul_one]
theorem Hq.sz {D X d h : Nat} {q : Rat} (hD : 0 < D) (hDd : D ≤ BB ^ d) (hX : X ≤ BB ^ h) (H : Hq D X q) : sz q ≤ max d h + 1 := by
 obtain ⟨m, h1, h2⟩ := H
 have e : q = Rat.divInt m (D : Int) := by
  rw [Rat.divInt_eq_div, Rat.div_def, ← h1, Rat.mul_assoc]
  show q = q * (cN D * (cN D)⁻¹)
  rw [Rat.mul_inv_cancel _ (cN_ne hD), Rat.mul_one]
 rw [e]
 have hb : ∀ n, BB ^ n < 1000000000 ^ (n + 1) := fun n => by
  rw [Nat.pow_succ]
  have := BB_pos n
  show BB ^ n < BB ^ n * 1000000000
  omega
 refine QfS (by omega) (Nat.le_trans (Qrn (k := h + 1) ?_) (by omega)) (Nat.le_trans (Qrn (k := d + 1) ?_) (by omega))
 ·exact Nat.lt_of_le_of_lt (Nat.le_trans h2 hX) (hb h)
 ·exact Nat.lt_of_le_of_lt (by rw [Int.natAbs_natCast]; exact hDd) (hb d)

def HL (d h : Nat) (l : List Rat) : Prop := ∃ D : Nat, 0 < D ∧ D ≤ BB ^ d ∧ ∀ q ∈ l, Hq D (BB ^ h) q
def H1 (d h : Nat) (q : Rat) : Prop := ∃ D : Nat, 0 < D ∧ D ≤ BB ^ d ∧ Hq D (BB ^ h) q
theorem HL.sz {d h : Nat} {l : List Rat} (H : HL d h l) : SzL (max d h + 1) l := by
 obtain ⟨D, h1, h2, h3⟩ := H
 exact fun q hq => (h3 q hq).sz h1 h2 (Nat.le_refl _)
theorem H1.sz {d h : Nat} {q : Rat} (H : H1 d h q) : sz q ≤ max d h + 1 := by
 obtain ⟨D, h1, h2, h3⟩ := H
 exact h3.sz h1 h2 (Nat.le_refl _)
theorem HL.mono {d h d' h' : Nat} {l : List Rat} (H : HL d h l) (hd : d ≤ d') (hh : h ≤ h') : HL d' h' l := by
 obtain ⟨D, h1, h2, h3⟩ := H
 exact ⟨D, h1, Nat.le_trans h2 (QeR hd), fun q hq => (h3 q hq).le (QeR hh)⟩
theorem HL.nil (d h : Nat) : HL d h [] := ⟨1, by omega, BB_pos d, fun q hq => by simp at hq⟩
theorem HL.trim {d h : Nat} {l : List Rat} (H : HL d h l) : HL d h (QbR l) := by
 obtain ⟨D, h1, h2, h3⟩ := H
 exact ⟨D, h1, h2, fun q hq => h3 q (List.mem_of_mem_take hq)⟩
theorem HL.one {d h : Nat} {q : Rat} (H : H1 d h q) : HL d h [q] := by
 obtain ⟨D, h1, h2, h3⟩ := H
 exact ⟨D, h1, h2, fun p hp => by rw [List.mem_singleton.1 hp]; exact h3⟩
theorem Hq.getD {D X : Nat} {l : List Rat} (H : ∀ q ∈ l, Hq D X q) (k : Nat) : Hq D X (l.getD k 0) := by
 by_cases hk : k < l.length
 ·have : l.getD k 0 = l[k] := by rw [List.getD_eq_getElem?_getD, List.getElem?_eq_getElem hk]; rfl
  rw [this]; exact H _ (List.getElem_mem hk)
 ·rw [Qa6 (by omega)]; exact Hq.zero D X
theorem HL.getD {d h : Nat} {l : List Rat} (H : HL d h l) (k : Nat) : H1 d h (l.getD k 0) := by
 obtain ⟨D, h1, h2, h3⟩ := H
 exact ⟨D, h1, h2, Hq.getD h3 k⟩
theorem HL.made {D X n : Nat} {e : Nat → Rat} {d h : Nat} (hD : 0 < D) (hd : D ≤ BB ^ d) (hX : X ≤ BB ^ h) (H : ∀ k, k < n → Hq D X (e k)) : HL d h (QbR ((List.range n).map e)) :=
 HL.trim ⟨D, hD, hd, fun q hq => by
  obtain ⟨k, hk, rfl⟩ := List.mem_map.1 hq
  exact (H k (List.mem_range.1 hk)).le hX⟩
theorem QsL {a b n : Nat} (h1 : a ≤ BB ^ n) (h2 : b ≤ BB ^ n) : a + b ≤ BB ^ (n + 1) := by
 rw [Nat.pow_succ]
 have : BB ^ n * 2 ≤ BB ^ n * BB := Nat.mul_le_mul_left _ (by decide)
 omega
theorem QdW {a b n m : Nat} (h1 : a ≤ BB ^ n) (h2 : b ≤ BB ^ m) : a * b ≤ BB ^ (n + m) := by
 rw [Nat.pow_add]; exact Nat.mul_le_mul h1 h2
theorem HL.ad {d1 h1 d2 h2 : Nat} {l m : List Rat} (H : HL d1 h1 l) (H' : HL d2 h2 m) : HL (d1 + d2) (max (h1 + d2) (h2 + d1) + 1) (adP l m) := by
 obtain ⟨D, a1, a2, a3⟩ := H
 obtain ⟨E, b1, b2, b3⟩ := H'
 refine HL.made (D := D * E) (X := BB ^ h1 * E + D * BB ^ h2) (Nat.mul_pos a1 b1) (QdW a2 b2) (QsL ?_ ?_) (fun k _ => ((Hq.getD a3 k).lift E).add ((Hq.getD b3 k).lift' D))
 ·exact Nat.le_trans (QdW (Nat.le_refl _) b2) (QeR (by omega))
 ·exact Nat.le_trans (QdW a2 (Nat.le_refl _)) (QeR (by omega))
theorem HL.sb {d1 h1 d2 h2 : Nat} {l m : List Rat} (H : HL d1 h1 l) (H' : HL d2 h2 m) : HL (d1 + d2) (max (h1 + d2) (h2 + d1) + 1) (sbP l m) := by
 obtain ⟨D, a1, a2, a3⟩ := H
 obtain ⟨E, b1, b2, b3⟩ := H'
 refine HL.made (D := D * E) (X := BB ^ h1 * E + D * BB ^ h2) (Nat.mul_pos a1 b1) (QdW a2 b2) (QsL ?_ ?_) (fun k _ => ((Hq.getD a3 k).lift E).sub ((Hq.getD b3 k).lift' D))
 ·exact Nat.le_trans (QdW (Nat.le_refl _) b2) (QeR (by omega))
 ·exact Nat.le_trans (QdW a2 (Nat.le_refl _)) (QeR (by omega))
theorem HL.mu {d1 h1 d2 h2 : Nat} {l m : List Rat} (H : HL d1 h1 l) (H' : HL d2 h2 m) (hn : l.length + m.length ≤ BB) : HL (d1 + d2) (h1 + h2 + 1) (muP l m) := by
 obtain ⟨D, a1, a2, a3⟩ := H
 obtain ⟨E, b1, b2, b3⟩ := H'
 refine HL.made (D := D * E) (X := (l.length + m.length) * (BB ^ h1 * BB ^ h2)) (Nat.mul_pos a1 b1) (QdW a2 b2) ?_ (fun k hk => ?_)
 ·rw [Nat.pow_succ, Nat.pow_add, Nat.mul_comm]
  exact Nat.mul_le_mul_left _ hn
 ·exact (Hq.sum (k + 1) (fun i _ => (Hq.getD a3 i).mul (Hq.getD b3 (k - i)))).le (Nat.mul_le_mul_right _ (by omega))
theorem HL.de {d h : Nat} {l : List Rat} (H : HL d h l) (hn : l.length ≤ BB) : HL d (h + 1) (deP l) := by
 obtain ⟨D, a1, a2, a3⟩ := H
 refine HL.made (D := D * 1) (X := BB ^ h * BB) (by omega) (by omega) (Nat.le_refl _) (fun k hk => ?_)
 refine (((Hq.getD a3 (k + 1)).mul (Hq.int ((k + 1 : Nat) : Int)))).le (Nat.mul_le_mul_left _ ?_)
 rw [Int.natAbs_natCast]; omega
theorem Hq.ev {D X E Y : Nat} {x : Rat} (hx : Hq E Y x) (hE : 0 < E) : ∀ {l : List Rat}, (∀ q ∈ l, Hq D X q) → Hq (D * E ^ l.length) (X * (E + Y) ^ l.length) (evR l x)
 | [], _ => by rw [QcM]; exact Hq.zero _ _
 | a :: l, h => by
  have ih := Hq.ev hx hE (l := l) (fun q hq => h q (List.mem_cons_of_mem _ hq))
  have h1 := (h a (List.mem_cons_self ..)).lift (E ^ (l.length + 1))
  have h2 := ih.mul hx
  rw [Qd0, List.length_cons]
  have e : D * E ^ l.length * E = D * E ^ (l.length + 1) := by rw [Nat.pow_succ, Nat.mul_assoc]
  rw [e] at h2
  refine (h2.add h1).le ?_
  have e1 : X * (E + Y) ^ (l.length + 1) = X * (E + Y) ^ l.length * Y + X * (E + Y) ^ l.length * E := by
   rw [Nat.pow_succ, ← Nat.mul_assoc, Nat.mul_add, Nat.add_comm]
  rw [e1]
  have e2 : X * E ^ (l.length + 1) ≤ X * (E + Y) ^ l.length * E := by
   rw [Nat.pow_succ, ← Nat.mul_assoc]
   exact Nat.mul_le_mul_right _ (Nat.mul_le_mul_left _ (Nat.pow_le_pow_left (by omega) _))
  omega
end Go.AM

/- poly.Shift. -/
namespace Go.AM
open Go Go.RowKit

def hst (l : List Rat) (a : Rat) (j : Nat) : List Rat := l.take j ++ (evR (l.drop j) a :: syn (l.drop j) a)
theorem hst_len {l : List Rat} {a : Rat} {j : Nat} (h : j < l.length) : (hst l a j).length = l.length := by
 rw [hst, List.length_append, List.length_cons, Qq1, List.length_take, List.length_drop]; omega
def pas (l : List Rat) (a : Rat) : Nat → List Rat
 | 0 => l
 | i + 1 => hst (pas l a i) a i
theorem QqN {l : List Rat} {a : Rat} : ∀ i, i ≤ l.length → (pas l a i).length = l.length
 | 0, _ => rfl
 | i + 1, h => by
  have ih := QqN (l := l) (a := a) i (by omega)
  rw [pas, hst_len (by omega), ih]
theorem ld4 (x y z t : D) : Qab (some 4) 0 [.d x, .d y, .d z, .d t] = some (.d (.agg [x, y, z, t])) := rfl
variable [Its]

end Go.AM

/- poly.Div. -/
namespace Go.AM
open Go Go.RowKit

def dvI (R q : List Rat) (k : Nat) (f : Rat) : Nat → List Rat
 | 0 => R
 | i + 1 => (dvI R q k f i).set (k + i) ((dvI R q k f i).getD (k + i) 0 - f * q.getD i 0)
theorem QgU (R q : List Rat) (k : Nat) (f : Rat) : ∀ i, (dvI R q k f i).length = R.length
 | 0 => rfl
 | i + 1 => by rw [dvI, List.length_set, QgU R q k f i]
theorem QlZ {l : List Rat} {i j : Nat} {x : Rat} (hi : i < l.length) : (l.set i x).getD j 0 = if j = i then x else l.getD j 0 := by
 rw [List.getD_eq_getElem?_getD, List.getElem?_set]
 by_cases h : i = j
 ·subst h; rw [if_pos rfl, if_pos hi, if_pos rfl]; rfl
 ·rw [if_neg h, if_neg (fun h' => h h'.symm), ← List.getD_eq_getElem?_getD]
theorem Qkf {R q : List Rat} {k : Nat} {f : Rat} : ∀ i, k + i ≤ R.length → ∀ t, (dvI R q k f i).getD t 0 = if k ≤ t ∧ t < k + i then R.getD t 0 - f * q.getD (t - k) 0 else R.getD t 0
 | 0, _, t => by rw [if_neg (by omega)]; rfl
 | i + 1, h, t => by
  rw [dvI, QlZ (by rw [QgU]; omega), Qkf i (by omega), Qkf i (by omega)]
  by_cases h1 : t = k + i
  ·subst h1
   rw [if_pos rfl, if_neg (by omega), if_pos (by omega), Nat.add_sub_cancel_left]
  ·rw [if_neg h1]
   by_cases h2 : k ≤ t ∧ t < k + i
   ·rw [if_pos h2, if_pos (by omega)]
   ·rw [if_neg h2, if_neg (by omega)]
def dvF (R q : List Rat) (k : Nat) : Rat := R.getD (k + q.length - 1) 0 / q.getD (q.length - 1) 0
def dvO (q : List Rat) : Nat → List Rat → List Rat → List Rat × List Rat
 | 0, R, O => (R, O)
 | k + 1, R, O => dvO q k (dvI R q k (dvF R q k) q.length) (O.set k (dvF R q k))
def dvG (K : Nat) (q : List Rat) : Nat → List Rat → Prop
 | 0, R => True
 | k + 1, R => SzL K R ∧ dvG K q k (dvI R q k (dvF R q k) q.length)
def dvN (p q : List Rat) : Nat := p.length + 1 - q.length
def quoP (p q : List Rat) : List Rat := if q = [] then [] else QbR (dvO q (dvN p q) p (List.replicate (dvN p q) 0)).2
def remP (p q : List Rat) : List Rat := if q = [] then [] else QbR (dvO q (dvN p q) p (List.replicate (dvN p q) 0)).1
theorem QqM (q : List Rat) : ∀ (m : Nat) (R O : List Rat), (dvO q m R O).1.length = R.length ∧ (dvO q m R O).2.length = O.length
 | 0, R, O => ⟨rfl, rfl⟩
 | k + 1, R, O => by
  have ih := QqM q k (dvI R q k (dvF R q k) q.length) (O.set k (dvF R q k))
  rw [dvO]
  exact ⟨by rw [ih.1, QgU], by rw [ih.2, List.length_set]⟩
theorem szl_set {K : Nat} {l : List Rat} {i : Nat} {x : Rat} (h : SzL K l) (hx : sz x ≤ K) : SzL K (l.set i x) := fun q hq => by
 rcases List.mem_or_eq_of_mem_set hq with h1 | h1
 ·exact h q h1
 ·rw [h1]; exact hx
variable [Its]

section
variable {dq : D} {q : List Rat} {n m : Nat} {K : Nat}
end
end Go.AM

/- poly.monic, Gcd, Free; closed inputs. -/
namespace Go.AM
open Go Go.RowKit

def mnP (l : List Rat) : List Rat := if l = [] then [] else scP l (1 / l.getD (l.length - 1) 0)
theorem Qir (l : List Rat) : (mnP l).length ≤ l.length := by
 unfold mnP; split
 ·simp
 ·exact len_sc _ _
theorem Qjn (l : List Rat) : Trm (mnP l) := by
 unfold mnP; split
 ·exact Qh5
 ·exact trm_sc _ _
theorem Qlv (p q : List Rat) : (remP p q).length ≤ p.length := by
 unfold remP; split
 ·simp
 ·have := QfK (dvO q (dvN p q) p (List.replicate (dvN p q) 0)).1
  rw [(QqM q _ _ _).1] at this
  exact this
theorem quoP_len (p q : List Rat) : (quoP p q).length ≤ dvN p q := by
 unfold quoP; split
 ·simp
 ·have := QfK (dvO q (dvN p q) p (List.replicate (dvN p q) 0)).2
  rw [(QqM q _ _ _).2, List.length_replicate] at this
  exact this
def gcP : Nat → List Rat → List Rat → List Rat
 | 0, a, _ => a
 | n + 1, a, b => if b = [] then a else gcP n b (mnP (remP a b))
def gcdP (p q : List Rat) : List Rat := gcP (q.length + 1) (mnP p) (mnP q)
def frP (p : List Rat) : List Rat := mnP (quoP p (gcdP p (deP p)))
def gcG (K : Nat) : Nat → List Rat → List Rat → Prop
 | 0, _, b => b = []
 | n + 1, a, b => b = [] ∨ (SzL K b ∧ dvG K b (dvN a b) a ∧ SzL K (remP a b) ∧ gcG K n b (mnP (remP a b)))

/-! ### QaT inputs: all of them of one digit -/
variable [Its]

end Go.AM

/- ref04.Same at equal numbers. -/
namespace Go.AM
open Go Go.RowKit

variable [Its]

end Go.AM

/- Equality: ref04, ref05, ref06.Same, rat.Same at equal numbers. -/
namespace Go.AM
open Go Go.RowKit

variable [Its]
/-! ### rat.Same -/
end Go.AM

/- ref06: Trim, Small, Mul. -/
namespace Go.AM
open Go Go.RowKit

theorem evR_set (x c : Rat) : ∀ (l : List Rat) (t : Nat), t < l.length → evR (l.set t (l.getD t 0 + c)) x = evR l x + c * x ^ t
 | [], t, h => by simp at h
 | a :: l, 0, h => by
  show evR l x * x + (a + c) = evR l x * x + a + c * x ^ 0
  rw [Rat.pow_zero]
  generalize evR l x = u; grind
 | a :: l, t + 1, h => by
  have ih := evR_set x c l t (by simpa using h)
  show evR (l.set t (l.getD t 0 + c)) x * x + a = evR l x * x + a + c * x ^ (t + 1)
  rw [ih, Rat.pow_succ]
  generalize evR l x = u; generalize x ^ t = p; grind
theorem QrY (l : List Rat) (x : Rat) {k : Nat} (h : k < l.length) : evR (l.drop k) x = evR (l.drop (k + 1)) x * x + l.getD k 0 := by
 have e : l.drop k = l.getD k 0 :: l.drop (k + 1) := by
  rw [List.drop_eq_getElem_cons h, List.getD_eq_getElem?_getD, List.getElem?_eq_getElem h]; rfl
 rw [e, Qd0]
theorem QkR (n : Nat) (x : Rat) : evR (List.replicate n 0) x = 0 := QjR (fun q hq => (List.mem_replicate.1 hq).2) x
theorem Hq_set {D X : Nat} {l : List Rat} {t : Nat} {c : Rat} (h : ∀ q ∈ l, Hq D X q) (hc : Hq D X c) : ∀ q ∈ l.set t c, Hq D X q := fun q hq => by
 rcases List.mem_or_eq_of_mem_set hq with h1 | h1
 ·exact h q h1
 ·rw [h1]; exact hc
variable [Its]

/-! ### Trim -/
def Qhl (d : D) (n : Int) : St := mkS [(0, .d d), (3, ai n)] []
theorem rtr_go {d : D} {l : List Rat} (hr : RwR d l) {n : Nat} (hn : n < l.length) (hl : l.length * 64 ≤ 140737488351232) (sl : SzL 100000000000 l) (h0 : l.getD n 0 = 0) : X G Qa2 (Qhl d ((n + 1 : Nat) : Int)) = some (.n, Qhl d (n : Int)) := by
 have e1 : decide (((n + 1 : Nat) : Int) > 0) = true := gt_t (by omega)
 have e2 : w64 (((n + 1 : Nat) : Int) - 1) = (n : Int) := by rw [Qad (by omega) (by omega)]; omega
 have e6 : (if (0 : Int) > (n : Int) then (0 : Int) else (n : Int)) = (n : Int) := if_neg (by omega)
 have e3 := hr.ixa hn
 have e4 := fun h => ldR h l hn
 have g := Qbf (a := l.getD n 0) (sl.getD (by omega) n)
 have e5 : (Int.sign (l.getD n 0).num == 0) = true := by rw [sgn0]; exact decide_eq_true h0
 clear h0
 generalize ((n + 1 : Nat) : Int) = n1 at *
 generalize l.getD n 0 = q at *
 simp only [encR, iv] at e4 g
 simp -implicitDefEqProofs (maxSteps:=9^8) only [Qa2, Qhl, QkB, mxV, e6, go_sem, iv, bv, e1, e2, e3, e4, e5, g, reduceCtorEq, ↓reduceIte, Nat.reduceEqDiff]
theorem rtr_stop {d : D} {l : List Rat} (hr : RwR d l) {n : Nat} (hn : n < l.length) (hl : l.length * 64 ≤ 140737488351232) (sl : SzL 100000000000 l) (h0 : l.getD n 0 ≠ 0) : X G Qa2 (Qhl d ((n + 1 : Nat) : Int)) = some (.x 0, Qhl d ((n + 1 : Nat) : Int)) := by
 have e1 : decide (((n + 1 : Nat) : Int) > 0) = true := gt_t (by omega)
 have e2 : w64 (((n + 1 : Nat) : Int) - 1) = (n : Int) := by rw [Qad (by omega) (by omega)]; omega
 have e6 : (if (0 : Int) > (n : Int) then (0 : Int) else (n : Int)) = (n : Int) := if_neg (by omega)
 have e3 := hr.ixa hn
 have e4 := fun h => ldR h l hn
 have g := Qbf (a := l.getD n 0) (sl.getD (by omega) n)
 have e5 : (Int.sign (l.getD n 0).num == 0) = false := by rw [sgn0]; exact decide_eq_false h0
 clear h0
 generalize ((n + 1 : Nat) : Int) = n1 at *
 generalize l.getD n 0 = q at *
 simp only [encR, iv] at e4 g
 simp -implicitDefEqProofs (maxSteps:=9^8) only [Qa2, Qhl, QkB, mxV, e6, go_sem, iv, bv, e1, e2, e3, e4, e5, g, reduceCtorEq, ↓reduceIte, Nat.reduceEqDiff]
theorem rtr_zero {d : D} : X G Qa2 (Qhl d 0) = some (.x 0, Qhl d 0) := by
 have e1 : decide ((0 : Int) > 0) = false := rfl
 simp -implicitDefEqProofs (maxSteps:=9^8) only [Qa2, Qhl, go_sem, iv, bv, e1, reduceCtorEq, ↓reduceIte, Nat.reduceEqDiff]
theorem QsU {d : D} {l : List Rat} (hr : RwR d l) (hl : l.length * 64 ≤ 140737488351232) (sl : SzL 100000000000 l) : ∀ n : Nat, n ≤ l.length → X G (.loop Qa2) (Qhl d (n : Int)) = some (.x 0, Qhl d (cutR l n : Nat))
 | 0, _ => by
  rw [Qag]
  show (X G Qa2 (Qhl d 0)).bind _ = _
  rw [rtr_zero]; rfl
 | n + 1, hn => by
  rw [Qag, cutR]
  by_cases h0 : l.getD n 0 = 0
  ·rw [rtr_go hr (by omega) hl sl h0, Option.bind_some, if_pos rfl, if_pos h0]
   exact QsU hr hl sl n (by omega)
  ·rw [rtr_stop hr (by omega) hl sl h0, if_neg h0]; rfl
theorem Qgw {d : D} {l : List Rat} (hr : RwR d l) (hl : l.length * 64 ≤ 140737488351232) (sl : SzL 100000000000 l) : ∃ d', RwR d' (QbR l) ∧ Qah G QbU [d] = some (.d d') := by
 rw [Qac (cf := Qdt) rfl]
 have hl' := QsU hr hl sl l.length (Nat.le_refl _)
 have hc := QkX l l.length
 have ll := hr.len
 rcases hr with ⟨rfl, rfl⟩ | rfl
 ·simp only [Qhl, List.length_nil, cutR, go_sem] at hl'
  refine ⟨.z true, .inl ⟨rfl, rfl⟩, ?_⟩
  have b0 : (0 * 64 ≤ bound) = True := eq_true (by decide)
  simp -implicitDefEqProofs (maxSteps:=9^8) only [Qdt, slcA, bnds, optI, srcS, src, b0, List.length_nil, Nat.zero_mul, Nat.zero_le, go_sem, iv, bv, hl', ll, Int.le_refl, reduceCtorEq, ↓reduceIte, Nat.reduceEqDiff]
 ·refine ⟨dR (QbR l), dR_ok _, ?_⟩
  have e1 : rowR (QbR l) = .row (cutR l l.length) ((cRs l).take (cutR l l.length * 4)) := by rw [rowR, QgQ, QbR, Qlz]
  have e0 : dR (QbR l) = if cutR l l.length = 0 then .z true else .row (cutR l l.length) ((cRs l).take (cutR l l.length * 4)) := by
   rw [dR, e1]
   have := QgQ l
   by_cases h : QbR l = []
   ·rw [if_pos h, if_pos (by rw [← this, h]; rfl)]
   ·rw [if_neg h, if_neg (fun h' => h (List.eq_nil_of_length_eq_zero (by omega)))]
  rw [e0]
  have e2 : (((0 : Int) ≤ 0 ∧ (0 : Int) ≤ (cutR l l.length : Nat) ∧ ((cutR l l.length : Nat) : Int) ≤ (l.length : Nat))) = True := eq_true ⟨by omega, by omega, by omega⟩
  have e3 : ((cutR l l.length : Nat) : Int).toNat = cutR l l.length := Int.toNat_natCast _
  have e5 : ((0 : Int) ≤ (cutR l l.length : Nat)) = True := eq_true (by omega)
  have e6 : (((cutR l l.length : Nat) : Int) ≤ (l.length : Nat)) = True := eq_true (by omega)
  have e7 : (cutR l l.length * 64 ≤ bound) = True := eq_true (by unfold bound; omega)
  have e8 : ((cRs l).take (cutR l l.length * 4)).length = cutR l l.length * 4 := by rw [List.length_take, Qgu]; omega
  clear e0 e1
  unfold rowR at *
  generalize cutR l l.length = c at *
  generalize cRs l = cs at *
  simp only [Qhl, go_sem] at hl'
  by_cases h0 : c = 0
  ·subst h0
   simp only [Nat.zero_mul, List.take_zero] at e8 ⊢
   have b0 : (0 * 64 ≤ bound) = True := eq_true (by decide)
   have b1 : ((0 : Int) ≤ (l.length : Int)) = True := eq_true (by omega)
   simp -implicitDefEqProofs (maxSteps:=9^8) only [Qdt, b1, slcA, bnds, optI, srcS, src, b0, List.length_nil, List.take_zero, Nat.zero_mul, Nat.zero_le, go_sem, iv, bv, hl', ll, e2, e3, e5, e6, Int.le_refl, and_self, reduceCtorEq, ↓reduceIte, Nat.reduceEqDiff]
  ·simp -implicitDefEqProofs (maxSteps:=9^8) only [Qdt, slcA, bnds, optI, srcS, src, h0, e7, e8, go_sem, iv, bv, hl', ll, e2, e3, e5, e6, Int.le_refl, and_self, reduceCtorEq, ↓reduceIte, Nat.reduceEqDiff]

/-! ### Mul -/
def QmQ (dp dq : D) (L : List Rat) (n : Nat) (i k : Int) : St := mkS [(0, .d dp), (1, .d dq), (5, .own [22] n), (6, ai i), (7, ai k)] [([22], arrR n L)]
def QiE (dp dq : D) (L : List Rat) (n : Nat) (i : Int) : St := mkS [(0, .d dp), (1, .d dq), (5, .own [22] n), (6, ai i)] [([22], arrR n L)]
def QrS (L : List Rat) (n : Nat) : St := mkS [(5, .own [22] n)] [([22], arrR n L)]
section
variable {dp dq : D} {p q : List Rat} {n : Nat}
theorem rmi_go (hp : RwR dp p) (hq : RwR dq q) {L : List Rat} (hL : L.length = n) {i k : Nat} (hi : i < p.length) (hk : k < q.length) (hn : i + k < n) (hn2 : n ≤ 1000000000) {K : Nat} (hK1 : 1 ≤ K) (hK : K ≤ 10000000000) (sp : SzL K p) (sq : SzL K q) (sL : SzL K L) :
    X G Qcn (QmQ dp dq L n i k) = some (.n, QmQ dp dq (L.set (i + k) (L.getD (i + k) 0 + p.getD i 0 * q.getD k 0)) n i ((k + 1 : Nat) : Int)) := by
  have e1 : decide ((k : Int) < (q.length : Int)) = true := lt_t (by omega)
  obtain ⟨t, ht⟩ : ∃ t : Int, t = ((i + k : Nat) : Int) := ⟨_, rfl⟩
  have e2 : w64 ((i : Int) + (k : Int)) = t := by rw [Qad (by omega) (by omega)]; omega
  have e3 : w64 ((k : Int) + 1) = ((k + 1 : Nat) : Int) := by rw [Qad (by omega) (by omega)]; rfl
  have c1 : ((0 : Int) ≤ t) = True := eq_true (by omega)
  have c2 : (t < (n : Int)) = True := eq_true (by omega)
  have c3 : t.toNat = i + k := by omega
  have lq := hq.len
  have x1 := hp.ixa hi
  have y1 := fun h => ldR h p hi
  have x2 := hq.ixa hk
  have y2 := fun h => ldR h q hk
  have s1 := sp.getD hK1 i
  have s2 := sq.getD hK1 k
  have s3 := sL.getD hK1 (i + k)
  have g1 := Qcy (a := p.getD i 0) (b := q.getD k 0) (by omega) (by omega)
  have k1 := Qec (a := p.getD i 0) (b := q.getD k 0)
  have g2 := Qdd (a := L.getD (i + k) 0) (b := p.getD i 0 * q.getD k 0) (by omega) (by omega)
  have l1 := ld_cA (l := L) (j := i + k) (by omega)
  have t1 := st_cA (l := L) (j := i + k) (by omega) (L.getD (i + k) 0 + p.getD i 0 * q.getD k 0)
  clear s1 s2 s3 k1 sp sq sL ht
  generalize L.getD (i + k) 0 + p.getD i 0 * q.getD k 0 = r at *
  generalize p.getD i 0 * q.getD k 0 = pr at *
  generalize p.getD i 0 = u at *
  generalize q.getD k 0 = v at *
  generalize L.getD (i + k) 0 = w at *
  generalize cRs (p.drop i) = cs1 at *
  generalize cRs (q.drop k) = cs2 at *
  simp only [encR] at g1 g2 y1 y2
  simp -implicitDefEqProofs (maxSteps:=9^8) only [Qcn, QmQ, Qc3, allD, l1, t1, lq, x1, y1, x2, y2, c1, c2, c3, e1, e2, e3, g1, g2, go_sem, iv, bv, and_self, reduceCtorEq, ↓reduceIte, Nat.reduceEqDiff]
theorem rmi_stop (hq : RwR dq q) {L : List Rat} {i : Int} : X G Qcn (QmQ dp dq L n i (q.length : Nat)) = some (.x 2, QiE dp dq L n i) := by
 have e1 : decide ((q.length : Int) < (q.length : Int)) = false := lt_f (by omega)
 have lq := hq.len
 simp -implicitDefEqProofs (maxSteps:=9^8) only [Qcn, QmQ, QiE, Qc3, lq, e1, go_sem, iv, bv, reduceCtorEq, ↓reduceIte, Nat.reduceEqDiff]
variable {D E XX YY d h K : Nat}
theorem QsJ      (hp : RwR dp p) (hq : RwR dq q) (hn2 : n ≤ 1000000000) (hK1 : 1 ≤ K) (hK : K ≤ 10000000000) (sp : SzL K p) (sq : SzL K q) (hsz : ∀ (m : Nat) (x : Rat), m ≤ p.length * q.length → Hq (D * E) (m * (XX * YY)) x → sz x ≤ K) (Hp : ∀ x ∈ p, Hq D XX x) (Hqq : ∀ x ∈ q, Hq E YY x) {i : Nat} (hi : i < p.length) (hn : p.length + q.length = n + 1) :
    ∀ (j k m : Nat) (L : List Rat), k + j = q.length → L.length = n → m + j ≤ p.length * q.length → (∀ x ∈ L, Hq (D * E) (m * (XX * YY)) x) →
    ∃ L', L'.length = n ∧ (∀ x ∈ L', Hq (D * E) ((m + j) * (XX * YY)) x) ∧ (∀ x, evR L' x = evR L x + p.getD i 0 * x ^ (i + k) * evR (q.drop k) x) ∧ X G (.loop Qcn) (QmQ dp dq L n i k) = some (.x 2, QiE dp dq L' n i)
  | 0, k, m, L, hk, hL, hm, HL => by
    have : k = q.length := by omega
    subst this
    refine ⟨L, hL, HL, fun x => ?_, by rw [Qag, rmi_stop hq]; rfl⟩
    rw [List.drop_length, QcM, Rat.mul_zero, Rat.add_zero]
  | j + 1, k, m, L, hk, hL, hm, HL => by
    have hstep := ((Hq.getD Hp i).mul (Hq.getD Hqq k))
    have hnew := (Hq.getD HL (i + k)).add hstep
    have e1 : m * (XX * YY) + XX * YY = (m + 1) * (XX * YY) := by rw [Nat.succ_mul]
    rw [e1] at hnew
    have HL2 : ∀ x ∈ L.set (i + k) (L.getD (i + k) 0 + p.getD i 0 * q.getD k 0), Hq (D * E) ((m + 1) * (XX * YY)) x := Hq_set (fun x hx => (HL x hx).le (Nat.mul_le_mul_right _ (by omega))) hnew
    obtain ⟨L', a1, a2, a3, a4⟩ := QsJ hp hq hn2 hK1 hK sp sq hsz Hp Hqq hi hn j (k + 1) (m + 1) (L.set (i + k) (L.getD (i + k) 0 + p.getD i 0 * q.getD k 0)) (by omega) (by rw [List.length_set, hL]) (by omega) HL2
    refine ⟨L', a1, by rw [show m + (j + 1) = m + 1 + j by omega]; exact a2, fun x => ?_, ?_⟩
    · rw [a3, evR_set x _ L (i + k) (by omega), QrY q x (k := k) (by omega), show i + (k + 1) = (i + k) + 1 by omega, Rat.pow_succ]
      generalize evR L x = u; generalize evR (q.drop (k + 1)) x = v; generalize x ^ (i + k) = w; generalize p.getD i 0 = a; generalize q.getD k 0 = b
      grind
    · rw [Qag, rmi_go hp hq hL hi (by omega) (by omega) hn2 hK1 hK sp sq (fun x hx => hsz m x (by omega) (HL x hx)), Option.bind_some, if_pos rfl]
      exact a4
theorem QrF      (hp : RwR dp p) (hq : RwR dq q) (hn2 : n ≤ 1000000000) (hK1 : 1 ≤ K) (hK : K ≤ 10000000000) (sp : SzL K p) (sq : SzL K q) (hsz : ∀ (m : Nat) (x : Rat), m ≤ p.length * q.length → Hq (D * E) (m * (XX * YY)) x → sz x ≤ K) (Hp : ∀ x ∈ p, Hq D XX x) (Hqq : ∀ x ∈ q, Hq E YY x) (hn : p.length + q.length = n + 1) (hq0 : 0 < q.length) :
    ∀ (j i : Nat) (L : List Rat), i + j = p.length → L.length = n → (∀ x ∈ L, Hq (D * E) (i * q.length * (XX * YY)) x) →
    ∃ L', L'.length = n ∧ (∀ x ∈ L', Hq (D * E) (p.length * q.length * (XX * YY)) x) ∧ (∀ x, evR L' x = evR L x + x ^ i * evR (p.drop i) x * evR q x) ∧ X G (.loop Qci) (QiE dp dq L n i) = some (.x 0, QrS L' n)
  | 0, i, L, hi, hL, HL => by
    have : i = p.length := by omega
    subst this
    have lp := hp.len
    have e1 : decide ((p.length : Int) < (p.length : Int)) = false := lt_f (by omega)
    refine ⟨L, hL, HL, fun x => by rw [List.drop_length, QcM, Rat.mul_zero, Rat.zero_mul, Rat.add_zero], ?_⟩
    have : X G Qci (QiE dp dq L n (p.length : Nat)) = some (.x 0, QrS L n) := by
      simp -implicitDefEqProofs (maxSteps:=9^8) only [Qci, QiE, QrS, Qc3, lp, e1, go_sem, iv, bv, reduceCtorEq, ↓reduceIte, Nat.reduceEqDiff]
    rw [Qag, this]; rfl
  | j + 1, i, L, hi, hL, HL => by
    have hile : (i + 1) * q.length ≤ p.length * q.length := Nat.mul_le_mul_right _ (by omega)
    have hsm : (i + 1) * q.length = i * q.length + q.length := Nat.succ_mul ..
    obtain ⟨L1, b1, b2, b3, b4⟩ := QsJ hp hq hn2 hK1 hK sp sq hsz Hp Hqq (i := i) (by omega) hn q.length 0 (i * q.length) L (by omega) hL (by omega) HL
    rw [← hsm] at b2
    obtain ⟨L', a1, a2, a3, a4⟩ := QrF hp hq hn2 hK1 hK sp sq hsz Hp Hqq hn hq0 j (i + 1) L1 (by omega) b1 b2
    refine ⟨L', a1, a2, fun x => ?_, ?_⟩
    · rw [a3, b3, QrY p x (k := i) (by omega), List.drop_zero, Nat.add_zero, Rat.pow_succ]
      generalize evR L x = u; generalize evR (p.drop (i + 1)) x = v; generalize x ^ i = w; generalize p.getD i 0 = a; generalize evR q x = b
      grind
    · have lp := hp.len
      have e1 : decide ((i : Int) < (p.length : Int)) = true := lt_t (by omega)
      have hpl : p.length ≤ n := by omega
      have e3 : w64 ((i : Int) + 1) = ((i + 1 : Nat) : Int) := by rw [Qad (by omega) (by omega)]; rfl
      have n0 : ((0 : Nat) : Int) = 0 := rfl
      rw [n0] at b4
      have : X G Qci (QiE dp dq L n i) = some (.n, QiE dp dq L1 n ((i + 1 : Nat) : Int)) := by
        simp only [QmQ, QiE, go_sem] at b4
        simp -implicitDefEqProofs (maxSteps:=9^8) only [Qci, QiE, Qc3, lp, e1, e3, b4, go_sem, iv, bv, reduceCtorEq, ↓reduceIte, Nat.reduceEqDiff]
      rw [Qag, this, Option.bind_some, if_pos rfl]
      exact a4
theorem Qtn        {d1 h1 d2 h2 : Nat} (hp : RwR dp p) (hq : RwR dq q) (Hp : HL d1 h1 p) (Hq' : HL d2 h2 q) (np : p.length ≤ 1000) (nq : q.length ≤ 1000) (hd : d1 + d2 ≤ 1000000000) (hh : h1 + h2 ≤ 1000000000) :
    ∃ d', RwR d' (muP p q) ∧ Qah G QhS [dp, dq] = some (.d d') := by
  rw [Qac (cf := QdS) rfl]
  have lp := hp.len
  have lq := hq.len
  have e00 : ((0 : Int) == 0) = true := rfl
  by_cases p0 : p.length = 0
  · have : p = [] := List.eq_nil_of_length_eq_zero p0
    subst this
    have em : muP [] q = [] := QfO (trm_mu _ _) Qh5 (fun x => by rw [QtZ, QcM, Rat.zero_mul])
    rw [em]
    refine ⟨.z true, .nil, ?_⟩
    simp only [List.length_nil] at lp
    simp -implicitDefEqProofs (maxSteps:=9^8) only [QdS, lp, lq, e00, go_sem, iv, bv, reduceCtorEq, ↓reduceIte, Nat.reduceEqDiff]
  by_cases q0 : q.length = 0
  · have : q = [] := List.eq_nil_of_length_eq_zero q0
    subst this
    have em : muP p [] = [] := QfO (trm_mu _ _) Qh5 (fun x => by rw [QtZ, QcM, Rat.mul_zero])
    rw [em]
    refine ⟨.z true, .nil, ?_⟩
    simp only [List.length_nil] at lq
    have ep : ((p.length : Int) == 0) = false := Qds (by omega)
    simp -implicitDefEqProofs (maxSteps:=9^8) only [QdS, lp, lq, ep, e00, go_sem, iv, bv, reduceCtorEq, ↓reduceIte, Nat.reduceEqDiff]
  have ep : ((p.length : Int) == 0) = false := Qds (by omega)
  have eq : ((q.length : Int) == 0) = false := Qds (by omega)
  obtain ⟨n, hn⟩ : ∃ n, p.length + q.length = n + 1 := ⟨p.length + q.length - 1, by omega⟩
  obtain ⟨D, a1, a2, a3⟩ := Hp
  obtain ⟨E, b1, b2, b3⟩ := Hq'
  have hDE : D * E ≤ BB ^ (d1 + d2) := QdW a2 b2
  have hsz : ∀ (m : Nat) (x : Rat), m ≤ p.length * q.length → Hq (D * E) (m * (BB ^ h1 * BB ^ h2)) x → sz x ≤ 10000000000 := fun m x hm hx => by
    have hm2 : p.length * q.length ≤ 1000 * 1000 := Nat.mul_le_mul np nq
    have hX : m * (BB ^ h1 * BB ^ h2) ≤ BB ^ (1 + (h1 + h2)) := QdW (by rw [Nat.pow_one]; show m ≤ 1000000000; omega) (QdW (Nat.le_refl _) (Nat.le_refl _))
    have := Hq.sz (Nat.mul_pos a1 b1) hDE hX hx
    omega
  have sp : SzL 10000000000 p := ((HL.sz ⟨D, a1, a2, a3⟩).mono (by omega))
  have sq : SzL 10000000000 q := ((HL.sz ⟨E, b1, b2, b3⟩).mono (by omega))
  obtain ⟨L', c1, c2, c3, c4⟩ := QrF (D := D) (E := E) (XX := BB ^ h1) (YY := BB ^ h2) (K := 10000000000) hp hq (n := n) (by omega) (by omega) (by omega) sp sq hsz a3 b3 hn (by omega) p.length 0 (List.replicate n 0) (by omega) (by simp) (fun x hx => by rw [(List.mem_replicate.1 hx).2]; exact Hq.zero _ _)
  obtain ⟨d', hr', gT⟩ := Qgw (RwR.row L') (by omega) (fun x hx => Nat.le_trans (hsz _ x (Nat.le_refl _) (c2 x hx)) (by omega))
  have em : QbR L' = muP p q := QfO (Qco _) (trm_mu _ _) (fun x => by
    rw [QcZ, c3, QkR, Rat.pow_zero, List.drop_zero, QtZ, Rat.zero_add, Rat.one_mul])
  rw [em] at hr'
  refine ⟨d', hr', ?_⟩
  have z0 : ((0 : Nat) : Int) = 0 := rfl
  rw [z0] at c4
  obtain ⟨z, hz⟩ : ∃ z, (p.length : Int) + (q.length : Int) = z := ⟨_, rfl⟩
  have e1 : w64 ((p.length : Int) + (q.length : Int)) = z := by rw [Qad (by omega) (by omega), hz]
  have e2 : w64 (z - 1) = (n : Int) := by rw [Qad (by omega) (by omega)]; omega
  have f1 : ((0 : Int) ≤ (n : Int)) = True := eq_true (by omega)
  have f2 : ((n : Int) * ((64 : Nat) : Int) ≤ (bound : Int)) = True := eq_true (by have : (bound : Int) = 140737488351232 := rfl; omega)
  have r0 := Qqw n
  have m0 := map_cRs (List.replicate n (0 : Rat))
  rw [rowR, c1] at gT
  clear c1 c2 c3 hr' em sp sq hsz hz
  simp only [QiE, QrS, go_sem] at c4
  simp -implicitDefEqProofs (maxSteps:=9^8) only [QdS, Qip, lp, lq, ep, eq, e1, e2, f1, f2, r0, m0, Int.toNat_natCast, c4, gT, Qmw, Qc3, true_and, and_self, go_sem, iv, bv, reduceCtorEq, ↓reduceIte, Nat.reduceEqDiff]
end
end Go.AM

/- ref06.Poly. -/
namespace Go.AM
open Go Go.RowKit

theorem H1.neg {d h : Nat} {q : Rat} (H : H1 d h q) : H1 d h (-q) := by
 obtain ⟨D, h1, h2, h3⟩ := H
 exact ⟨D, h1, h2, h3.neg⟩
theorem H1.one : H1 0 0 1 := ⟨1, by omega, by simp [BB], ⟨1, Rat.mul_one _, by simp⟩⟩
theorem HL.cons {d1 h1 d2 h2 : Nat} {a : Rat} {l : List Rat} (H : H1 d1 h1 a) (H' : HL d2 h2 l) : HL (d1 + d2) (max (h1 + d2) (h2 + d1)) (a :: l) := by
 obtain ⟨D, a1, a2, a3⟩ := H
 obtain ⟨E, b1, b2, b3⟩ := H'
 refine ⟨D * E, Nat.mul_pos a1 b1, QdW a2 b2, fun q hq => ?_⟩
 rcases List.mem_cons.1 hq with rfl | hq
 ·exact (a3.lift E).le (Nat.le_trans (QdW (Nat.le_refl _) b2) (QeR (by omega)))
 ·exact ((b3 q hq).lift' D).le (Nat.le_trans (QdW a2 (Nat.le_refl _)) (QeR (by omega)))
variable [Its]

theorem rone_of : Qah G Qak [iv 1, iv 1] = some (.d (encR 1)) := by
 have g := QaL (n := 1) (d := 1) ⟨by omega, by omega⟩ ⟨by omega, by omega⟩
 have e : Rat.divInt 1 1 = 1 := Qck 1
 rw [e] at g; exact g
section
variable {e0 : D} {l : List Int}
end
end Go.AM

/- How great the coefficients of a shift are. -/
namespace Go.AM
open Go Go.RowKit

theorem evR_dropL (l : List Rat) (x : Rat) {k : Nat} (h : k < l.length) : evR (l.drop k) x = evR (l.drop (k + 1)) x * x + l.getD k 0 := by
 have e : l.drop k = l.getD k 0 :: l.drop (k + 1) := by
  rw [List.drop_eq_getElem_cons h, List.getD_eq_getElem?_getD, List.getElem?_eq_getElem h]; rfl
 rw [e, Qd0]
theorem QsW (a : Rat) : ∀ (s : List Rat) (i : Nat), s ≠ [] → (evR s a :: syn s a).getD i 0 = evR (s.drop i) a
 | [], _, h => absurd rfl h
 | [x], 0, _ => rfl
 | [x], i + 1, _ => by
  rw [syn]
  show (0 : Rat) = evR ([].drop i) a
  rw [List.drop_nil, QcM]
 | x :: b :: l, 0, _ => rfl
 | x :: b :: l, i + 1, _ => by
  rw [syn]
  show (evR (b :: l) a :: syn (b :: l) a).getD i 0 = evR ((b :: l).drop i) a
  exact QsW a (b :: l) i (by simp)
theorem hst_getD {l : List Rat} {a : Rat} {j : Nat} (hj : j < l.length) (t : Nat) : (hst l a j).getD t 0 = if t < j then l.getD t 0 else evR (l.drop t) a := by
  have hT : (l.take j).length = j := by rw [List.length_take]; omega
  unfold hst
  by_cases h : t < j
  · rw [if_pos h, List.getD_eq_getElem?_getD, List.getElem?_append_left (by omega), List.getElem?_take_of_lt h, ← List.getD_eq_getElem?_getD]
  · rw [if_neg h, List.getD_eq_getElem?_getD, List.getElem?_append_right (by omega), ← List.getD_eq_getElem?_getD, hT, QsW      a _ _ (by
      intro h0; have := congrArg List.length h0; rw [List.length_drop] at this; simp at this; omega), List.drop_drop, show j + (t - j) = t by omega]
def WS (D v n H : Nat) (l : List Rat) : Prop := ∀ k, k ≤ n → Hq (D * v ^ (n - k)) H (l.getD k 0)
theorem WS.suffix {D v n H U : Nat} {l : List Rat} {a : Rat} (h : WS D v n H l) (ha : Hq v U a) (hl : l.length ≤ n) : ∀ j t : Nat, t + j = n → Hq (D * v ^ (n - t)) (H * (1 + U) ^ j) (evR (l.drop t) a)
 | 0, t, ht => by
  rw [List.drop_of_length_le (by omega), QcM]; exact Hq.zero _ _
 | j + 1, t, ht => by
  by_cases h1 : t < l.length
  ·have ih := WS.suffix h ha hl j (t + 1) (by omega)
   have h2 := ih.mul ha
   have h3 := h t (by omega)
   have e : D * v ^ (n - (t + 1)) * v = D * v ^ (n - t) := by
    rw [show n - t = (n - (t + 1)) + 1 by omega, Nat.pow_succ, Nat.mul_assoc]
   rw [e] at h2
   rw [evR_dropL l a h1]
   refine (h2.add h3).le ?_
   have e1 : H * (1 + U) ^ (j + 1) = H * (1 + U) ^ j * U + H * (1 + U) ^ j := by
    rw [Nat.pow_succ, ← Nat.mul_assoc, Nat.mul_add, Nat.mul_one, Nat.add_comm]
   rw [e1]
   have : H ≤ H * (1 + U) ^ j := Nat.le_mul_of_pos_right _ (Nat.pow_pos (by omega))
   omega
  ·rw [List.drop_of_length_le (by omega), QcM]; exact Hq.zero _ _
theorem WS.hst {D v n H U : Nat} {l : List Rat} {a : Rat} (h : WS D v n H l) (ha : Hq v U a) (hl : l.length ≤ n) {j : Nat} (hj : j < l.length) : WS D v n (H * (1 + U) ^ n) (hst l a j) := fun k hk => by
 rw [hst_getD hj]
 split
 ·exact (h k hk).le (Nat.le_mul_of_pos_right _ (Nat.pow_pos (by omega)))
 ·exact (h.suffix ha hl (n - k) k (by omega)).le (Nat.mul_le_mul_left _ (Nat.pow_le_pow_right (by omega) (by omega)))
theorem WS.pas {D v n H U : Nat} {l : List Rat} {a : Rat} (h : WS D v n H l) (ha : Hq v U a) (hl : l.length ≤ n) : ∀ i, i ≤ l.length → WS D v n (H * ((1 + U) ^ n) ^ i) (pas l a i)
 | 0, _ => by rw [Nat.pow_zero, Nat.mul_one]; exact h
 | i + 1, hi => by
  have ih := WS.pas h ha hl i (by omega)
  have := ih.hst ha (by rw [QqN i (by omega)]; exact hl) (j := i) (by rw [QqN i (by omega)]; omega)
  rw [Nat.mul_assoc, ← Nat.pow_succ] at this
  exact this
end Go.AM

/- Small helps for the laws of ref06.Poly's polynomials. -/
namespace Go.AM
open Go Go.RowKit Go.Proofs
theorem H1.add {d1 h1 d2 h2 : Nat} {a b : Rat} (H : H1 d1 h1 a) (H' : H1 d2 h2 b) : H1 (d1 + d2) (max (h1 + d2) (h2 + d1) + 1) (a + b) := by
 obtain ⟨D, a1, a2, a3⟩ := H
 obtain ⟨E, b1, b2, b3⟩ := H'
 refine ⟨D * E, Nat.mul_pos a1 b1, QdW a2 b2, ((a3.lift E).add (b3.lift' D)).le (QsL ?_ ?_)⟩
 ·exact Nat.le_trans (QdW (Nat.le_refl _) b2) (QeR (by omega))
 ·exact Nat.le_trans (QdW a2 (Nat.le_refl _)) (QeR (by omega))
variable [Its]
end Go.AM

/- ref06: At, Add, Scale, Sub, Derive, Eval, Shift. -/
namespace Go.AM
open Go Go.RowKit

theorem Qn7 (e : Nat → Rat) (n : Nat) : (List.range n).map e ++ [e n] = (List.range (n + 1)).map e := by
 rw [List.range_succ, List.map_append]; rfl
theorem dR_nil : dR [] = .z true := rfl
theorem dR_ne {l : List Rat} (h : l ≠ []) : dR l = .row l.length (cRs l) := if_neg h
variable [Its]

theorem Qsq {d : D} {l : List Rat} (hr : RwR d l) (k : Nat) : Qah G Qf1 [d, iv (k : Int)] = some (.d (encR (l.getD k 0))) := by
 rw [Qac (cf := QfJ) rfl]
 have e1 : decide ((k : Int) < 0) = false := lt_f (by omega)
 have ll := hr.len
 by_cases hk : k < l.length
 ·have e2 : decide ((k : Int) ≥ (l.length : Int)) = false := decide_eq_false (by omega)
  have e3 := hr.ixa hk
  have e4 := fun h => ldR h l hk
  generalize l.getD k 0 = q at *
  simp only [encR] at e4
  simp -implicitDefEqProofs (maxSteps:=9^8) only [QfJ, encR, go_sem, Qae, Qab, iv, bv, e1, e2, e3, e4, ll, reduceCtorEq, ↓reduceIte, Nat.reduceEqDiff]
 ·have e2 : decide ((k : Int) ≥ (l.length : Int)) = true := decide_eq_true (by omega)
  have e5 : l.getD k 0 = 0 := Qa6 (by omega)
  rw [e5, Qdv]
  simp -implicitDefEqProofs (maxSteps:=9^8) only [QfJ, encR, go_sem, Qae, Qab, iv, bv, e1, e2, ll, reduceCtorEq, ↓reduceIte, Nat.reduceEqDiff]

/-! ### Add -/
section
variable {d d2 : D} {l m : List Rat} {K : Nat}
def Qio (d d2 : D) (L : List Rat) (i : Int) : St := mkS [(0, .d d), (1, .d d2), (5, gA4 28 L), (6, ai i)] (gH4 28 L)
def QnL (L : List Rat) : St := mkS [(5, gA4 28 L)] (gH4 28 L)
theorem raP_go (h1 : RwR d l) (h2 : RwR d2 m) (s1 : SzL K l) (s2 : SzL K m) (hK1 : 1 ≤ K) (hK : K ≤ 10000000000) {L : List Rat} {i : Nat} (hL : L.length ≤ 1000000000) (hi : i < max l.length m.length) (hi2 : i ≤ 1000000000) : X G QaV (Qio d d2 L i) = some (.n, Qio d d2 (L ++ [l.getD i 0 + m.getD i 0]) ((i + 1 : Nat) : Int)) := by
 have e3 : w64 ((i : Int) + 1) = ((i + 1 : Nat) : Int) := by rw [Qad (by omega) (by omega)]; rfl
 have ll := h1.len
 have ll2 := h2.len
 have a1 := Qsq h1 i
 have a2 := Qsq h2 i
 have b1 := s1.getD hK1 i
 have b2 := s2.getD hK1 i
 have g := Qdd (a := l.getD i 0) (b := m.getD i 0) (by omega) (by omega)
 generalize l.getD i 0 + m.getD i 0 = q at *
 generalize l.getD i 0 = u at *
 generalize m.getD i 0 = v at *
 have d1 := QtA (digs q.num.natAbs)
 have d2' := QtA (dd q.den)
 have hb : (64 ≤ bound) = True := eq_true (by unfold bound; omega)
 have hb1 : (1 * 64 ≤ bound) = True := eq_true (by unfold bound; omega)
 have n3 : (cA L).length = L.length * 4 := Qis L
 have n4 : ((L.length + 1) * 64 ≤ bound) = True := eq_true (by unfold bound; omega)
 simp only [encR, iv] at g a1 a2
 by_cases hc : i < l.length
 ·have e1 : decide ((i : Int) < (l.length : Int)) = true := lt_t (by omega)
  by_cases h0 : L = []
  ·subst h0
   simp -implicitDefEqProofs (maxSteps:=9^8) only [QaV, Qio, Qfa, QfD, Qaa, Qhb, Qhq, List.nil_append, List.cons_append, List.length_nil, List.length_cons, Nat.zero_add, List.map_cons, List.map_nil, Qqt, QoE, Qo9, QnM, srcS, src, QoO, allD, hb, hb1, d1, d2', ll, ll2, a1, a2, go_sem, iv, bv, e1, e3, g, reduceCtorEq, ↓reduceIte, Nat.reduceEqDiff]
  ·simp -implicitDefEqProofs (maxSteps:=9^8) only [QaV, Qio, QiL h0, Qit h0, Qhb, Qhq, List.nil_append, List.cons_append, List.length_nil, List.length_cons, Nat.zero_add, List.map_cons, List.map_nil, Qqt, Qo0, n3, n4, Qc3, srcS, src, QoO, allD, d1, d2', ll, ll2, a1, a2, go_sem, iv, bv, e1, e3, g, reduceCtorEq, ↓reduceIte, Nat.reduceEqDiff]
 ·have e1 : decide ((i : Int) < (l.length : Int)) = false := lt_f (by omega)
  have e2 : decide ((i : Int) < (m.length : Int)) = true := lt_t (by omega)
  by_cases h0 : L = []
  ·subst h0
   simp -implicitDefEqProofs (maxSteps:=9^8) only [QaV, Qio, Qfa, QfD, Qaa, Qhb, Qhq, List.nil_append, List.cons_append, List.length_nil, List.length_cons, Nat.zero_add, List.map_cons, List.map_nil, Qqt, QoE, Qo9, QnM, srcS, src, QoO, allD, hb, hb1, d1, d2', ll, ll2, a1, a2, go_sem, iv, bv, e1, e2, e3, g, reduceCtorEq, ↓reduceIte, Nat.reduceEqDiff]
  ·simp -implicitDefEqProofs (maxSteps:=9^8) only [QaV, Qio, QiL h0, Qit h0, Qhb, Qhq, List.nil_append, List.cons_append, List.length_nil, List.length_cons, Nat.zero_add, List.map_cons, List.map_nil, Qqt, Qo0, n3, n4, Qc3, srcS, src, QoO, allD, d1, d2', ll, ll2, a1, a2, go_sem, iv, bv, e1, e2, e3, g, reduceCtorEq, ↓reduceIte, Nat.reduceEqDiff]
theorem raP_stop (h1 : RwR d l) (h2 : RwR d2 m) {L : List Rat} {i : Nat} (hi : max l.length m.length ≤ i) : X G QaV (Qio d d2 L i) = some (.x 0, QnL L) := by
 have e1 : decide ((i : Int) < (l.length : Int)) = false := lt_f (by omega)
 have e2 : decide ((i : Int) < (m.length : Int)) = false := lt_f (by omega)
 have ll := h1.len
 have ll2 := h2.len
 by_cases h0 : L = []
 ·subst h0
  simp -implicitDefEqProofs (maxSteps:=9^8) only [QaV, Qio, QnL, Qfa, QfD, Qaa, ll, ll2, e1, e2, go_sem, iv, bv, reduceCtorEq, ↓reduceIte, Nat.reduceEqDiff]
 ·simp -implicitDefEqProofs (maxSteps:=9^8) only [QaV, Qio, QnL, QiL h0, Qit h0, Qc3, ll, ll2, e1, e2, go_sem, iv, bv, reduceCtorEq, ↓reduceIte, Nat.reduceEqDiff]
theorem QrW (h1 : RwR d l) (h2 : RwR d2 m) (s1 : SzL K l) (s2 : SzL K m) (hK1 : 1 ≤ K) (hK : K ≤ 10000000000) (n1 : l.length ≤ 1000) (n2 : m.length ≤ 1000) : ∀ j i : Nat, i + j = max l.length m.length → X G (.loop QaV) (Qio d d2 ((List.range i).map fun k => l.getD k 0 + m.getD k 0) i) = some (.x 0, QnL ((List.range (max l.length m.length)).map fun k => l.getD k 0 + m.getD k 0))
 | 0, i, h => by
  have : i = max l.length m.length := by omega
  subst this
  rw [Qag, raP_stop h1 h2 (Nat.le_refl _)]; rfl
 | j + 1, i, h => by
  rw [Qag, raP_go h1 h2 s1 s2 hK1 hK (by simp; omega) (by omega) (by omega), Option.bind_some, if_pos rfl, Qn7 (fun k => l.getD k 0 + m.getD k 0)]
  exact QrW h1 h2 s1 s2 hK1 hK n1 n2 j (i + 1) (by omega)
theorem QnT (h1 : RwR d l) (h2 : RwR d2 m) (s1 : SzL K l) (s2 : SzL K m) (hK1 : 1 ≤ K) (hK : K ≤ 10000000000) (n1 : l.length ≤ 1000) (n2 : m.length ≤ 1000) : ∃ d', RwR d' (adP l m) ∧ Qah G Qfk [d, d2] = some (.d d') := by
 rw [Qac (cf := QeY) rfl]
 have hl := QrW h1 h2 s1 s2 hK1 hK n1 n2 (max l.length m.length) 0 (by omega)
 obtain ⟨d', hr, gT⟩ := Qgw (dR_ok ((List.range (max l.length m.length)).map fun k => l.getD k 0 + m.getD k 0)) (by simp; omega) ((SzL.map (K := 2 * K + 1) fun k _ => by
  have := s1.getD hK1 k; have := s2.getD hK1 k
  have := Qkj (a := l.getD k 0) (b := m.getD k 0); omega).mono (by omega))
 refine ⟨d', hr, ?_⟩
 have e0 : (List.range 0).map (fun k => l.getD k 0 + m.getD k 0) = [] := rfl
 have z0 : ((0 : Nat) : Int) = 0 := rfl
 rw [e0, z0] at hl
 generalize (List.range (max l.length m.length)).map (fun k => l.getD k 0 + m.getD k 0) = L at *
 by_cases h0 : L = []
 ·subst h0
  rw [dR_nil] at gT
  simp only [Qio, QnL, Qfa, QfD, Qaa, go_sem] at hl
  simp -implicitDefEqProofs (maxSteps:=9^8) only [QeY, Qip, hl, gT, Qaa, go_sem, iv, bv, reduceCtorEq, ↓reduceIte, Nat.reduceEqDiff]
 ·rw [dR_ne h0] at gT
  simp only [Qio, QnL, Qfa, QfD, QiL h0, Qit h0, Qaa, go_sem] at hl
  simp -implicitDefEqProofs (maxSteps:=9^8) only [QeY, Qip, hl, gT, Qmw, Qc3, Qaa, go_sem, iv, bv, reduceCtorEq, ↓reduceIte, Nat.reduceEqDiff]
end

/-! ### Scale -/
section
variable {d : D} {l : List Rat} {a : Rat} {K : Nat}
def Qm4 (d : D) (a : Rat) (L : List Rat) (i : Int) : St := mkS [(0, .d d), (3, .ptr [3] 0), (5, gA4 21 L), (6, ai i)] (([3], boxR a) :: gH4 21 L)
def Qui (L : List Rat) : St := mkS [(5, gA4 21 L)] (gH4 21 L)
theorem rs_go (h1 : RwR d l) (s1 : SzL K l) (sa : sz a ≤ K) (hK1 : 1 ≤ K) (hK : K ≤ 10000000000) {L : List Rat} {i : Nat} (hL : L.length ≤ 1000000000) (hi : i < l.length) (hi2 : i ≤ 1000000000) : X G Qba (Qm4 d a L i) = some (.n, Qm4 d a (L ++ [l.getD i 0 * a]) ((i + 1 : Nat) : Int)) := by
 have e3 : w64 ((i : Int) + 1) = ((i + 1 : Nat) : Int) := by rw [Qad (by omega) (by omega)]; rfl
 have e1 : decide ((i : Int) < (l.length : Int)) = true := lt_t (by omega)
 have ll := h1.len
 have x1 := h1.ixa hi
 have x2 := fun h => ldR h l hi
 have b1 := s1.getD hK1 i
 have g := Qcy (a := l.getD i 0) (b := a) (by omega) (by omega)
 generalize l.getD i 0 * a = q at *
 generalize l.getD i 0 = u at *
 generalize cRs (l.drop i) = cs at *
 have d1 := QtA (digs q.num.natAbs)
 have d2' := QtA (dd q.den)
 have hb : (64 ≤ bound) = True := eq_true (by unfold bound; omega)
 have hb1 : (1 * 64 ≤ bound) = True := eq_true (by unfold bound; omega)
 have n3 : (cA L).length = L.length * 4 := Qis L
 have n4 : ((L.length + 1) * 64 ≤ bound) = True := eq_true (by unfold bound; omega)
 simp only [encR] at g x2
 by_cases h0 : L = []
 ·subst h0
  simp -implicitDefEqProofs (maxSteps:=9^8) only [Qba, Qm4, boxR, ld4, Qfa, QfD, Qaa, Qhb, Qhq, List.nil_append, List.cons_append, List.length_nil, List.length_cons, Nat.zero_add, List.map_cons, List.map_nil, Qqt, QoE, Qo9, QnM, srcS, src, QoO, allD, hb, hb1, d1, d2', ll, x1, x2, go_sem, iv, bv, e1, e3, g, reduceCtorEq, ↓reduceIte, Nat.reduceEqDiff]
 ·simp -implicitDefEqProofs (maxSteps:=9^8) only [Qba, Qm4, boxR, ld4, QiL h0, Qit h0, Qhb, Qhq, List.nil_append, List.cons_append, List.length_nil, List.length_cons, Nat.zero_add, List.map_cons, List.map_nil, Qqt, Qo0, n3, n4, Qc3, srcS, src, QoO, allD, d1, d2', ll, x1, x2, go_sem, iv, bv, e1, e3, g, reduceCtorEq, ↓reduceIte, Nat.reduceEqDiff]
theorem rs_stop (h1 : RwR d l) {L : List Rat} : X G Qba (Qm4 d a L (l.length : Nat)) = some (.x 0, Qui L) := by
 have e1 : decide ((l.length : Int) < (l.length : Int)) = false := lt_f (by omega)
 have ll := h1.len
 by_cases h0 : L = []
 ·subst h0
  simp -implicitDefEqProofs (maxSteps:=9^8) only [Qba, Qm4, Qui, boxR, Qfa, QfD, Qaa, ll, e1, go_sem, iv, bv, reduceCtorEq, ↓reduceIte, Nat.reduceEqDiff]
 ·simp -implicitDefEqProofs (maxSteps:=9^8) only [Qba, Qm4, Qui, boxR, QiL h0, Qit h0, Qc3, ll, e1, go_sem, iv, bv, reduceCtorEq, ↓reduceIte, Nat.reduceEqDiff]
theorem rs_loop (h1 : RwR d l) (s1 : SzL K l) (sa : sz a ≤ K) (hK1 : 1 ≤ K) (hK : K ≤ 10000000000) (n1 : l.length ≤ 1000) : ∀ j i : Nat, i + j = l.length → X G (.loop Qba) (Qm4 d a ((List.range i).map fun k => l.getD k 0 * a) i) = some (.x 0, Qui ((List.range l.length).map fun k => l.getD k 0 * a))
 | 0, i, h => by
  have : i = l.length := by omega
  subst this
  rw [Qag, rs_stop h1]; rfl
 | j + 1, i, h => by
  rw [Qag, rs_go h1 s1 sa hK1 hK (by simp; omega) (by omega) (by omega), Option.bind_some, if_pos rfl, Qn7 (fun k => l.getD k 0 * a)]
  exact rs_loop h1 s1 sa hK1 hK n1 j (i + 1) (by omega)
theorem Qiy (h1 : RwR d l) (s1 : SzL K l) (sa : sz a ≤ K) (hK1 : 1 ≤ K) (hK : K ≤ 10000000000) (n1 : l.length ≤ 1000) : ∃ d', RwR d' (scP l a) ∧ Qah G Qdk [d, encR a] = some (.d d') := by
 rw [Qac (cf := Qd1) rfl]
 have hl := rs_loop h1 s1 sa hK1 hK n1 l.length 0 (by omega)
 obtain ⟨d', hr, gT⟩ := Qgw (dR_ok ((List.range l.length).map fun k => l.getD k 0 * a)) (by simp; omega) ((SzL.map (K := 2 * K) fun k _ => by
  have := s1.getD hK1 k
  have := Qec (a := l.getD k 0) (b := a); omega).mono (by omega))
 refine ⟨d', hr, ?_⟩
 have e0 : (List.range 0).map (fun k => l.getD k 0 * a) = [] := rfl
 have z0 : ((0 : Nat) : Int) = 0 := rfl
 rw [e0, z0] at hl
 generalize (List.range l.length).map (fun k => l.getD k 0 * a) = L at *
 by_cases h0 : L = []
 ·subst h0
  rw [dR_nil] at gT
  simp only [Qm4, Qui, boxR, Qfa, QfD, Qaa, go_sem] at hl
  simp -implicitDefEqProofs (maxSteps:=9^8) only [Qd1, encR, Qip, hl, gT, Qaa, go_sem, iv, bv, reduceCtorEq, ↓reduceIte, Nat.reduceEqDiff]
 ·rw [dR_ne h0] at gT
  simp only [Qm4, Qui, boxR, Qfa, QfD, QiL h0, Qit h0, Qaa, go_sem] at hl
  simp -implicitDefEqProofs (maxSteps:=9^8) only [Qd1, encR, Qip, hl, gT, Qmw, Qc3, Qaa, go_sem, iv, bv, reduceCtorEq, ↓reduceIte, Nat.reduceEqDiff]
end
end Go.AM

/- ref06: Sub, Derive, Eval, Shift. -/
namespace Go.AM
open Go Go.RowKit

theorem sb_alt (l m : List Rat) : adP l (scP m (((-1 : Int) : Int) : Rat)) = sbP l m := QfO (trm_ad _ _) (trm_sb _ _) fun x => by
 rw [ev_ad, ev_sc, ev_sb]
 have : (((-1 : Int) : Int) : Rat) = -1 := rfl
 rw [this]
 generalize evR l x = u; generalize evR m x = v; grind
theorem pow_sz' (x : Rat) (i : Nat) {K : Nat} (hx : sz x ≤ K) : sz (x ^ i) ≤ i * K + 1 := Nat.le_trans (sz_pow x i) (Nat.add_le_add_right (Nat.mul_le_mul_left _ hx) 1)
variable [Its]

section
variable {d d2 : D} {l m : List Rat} {K : Nat}
theorem QtT (h1 : RwR d l) (h2 : RwR d2 m) (s1 : SzL K l) (s2 : SzL K m) (hK1 : 3 ≤ K) (hK : K ≤ 1000000000) (n1 : l.length ≤ 1000) (n2 : m.length ≤ 1000) : ∃ d', RwR d' (sbP l m) ∧ Qah G QhJ [d, d2] = some (.d d') := by
 rw [Qac (cf := QgK) rfl]
 have o := QaL (n := -1) (d := 1) ⟨by omega, by omega⟩ ⟨by omega, by omega⟩
 rw [Qck] at o
 have so := QdG (n := -1) ⟨by omega, by omega⟩
 obtain ⟨d3, h3, g3⟩ := Qiy (a := (((-1 : Int) : Int) : Rat)) h2 s2 (by omega) (by omega) (by omega) n2
 have s3 := szl_sc (a := (((-1 : Int) : Int) : Rat)) (L := K) s2 (by omega) (by omega)
 have l3 := len_sc m (((-1 : Int) : Int) : Rat)
 obtain ⟨d4, h4, g4⟩ := QnT h1 h3 (K := K + K) (s1.mono (by omega)) s3 (by omega) (by omega) n1 (by omega)
 rw [sb_alt] at h4
 refine ⟨d4, h4, ?_⟩
 clear h3 h4 s3 l3 so
 generalize (((-1 : Int) : Int) : Rat) = r at *
 simp only [encR, iv] at o g3
 simp -implicitDefEqProofs (maxSteps:=9^8) only [QgK, o, g3, g4, go_sem, iv, bv, reduceCtorEq, ↓reduceIte, Nat.reduceEqDiff]
end

/-! ### Derive -/
section
variable {d : D} {l : List Rat} {K : Nat}
def deE (l : List Rat) (t : Nat) : Rat := l.getD (t + 1) 0 * ((t + 1 : Nat) : Int)
def Qjl (d : D) (L : List Rat) (i : Int) : St := mkS [(0, .d d), (3, gA4 20 L), (4, ai i)] (gH4 20 L)
def QnP (L : List Rat) : St := mkS [(3, gA4 20 L)] (gH4 20 L)
theorem rdv_go (h1 : RwR d l) (s1 : SzL K l) (hK1 : 1 ≤ K) (hK : K ≤ 10000000000) {L : List Rat} {t : Nat} (hL : L.length ≤ 1000000000) (hi : t + 1 < l.length) (hi2 : t ≤ 1000000000) : X G QaY (Qjl d L ((t + 1 : Nat) : Int)) = some (.n, Qjl d (L ++ [deE l t]) ((t + 1 + 1 : Nat) : Int)) := by
 have e3 : w64 (((t + 1 : Nat) : Int) + 1) = ((t + 1 + 1 : Nat) : Int) := by rw [Qad (by omega) (by omega)]; rfl
 have e1 : decide (((t + 1 : Nat) : Int) < (l.length : Int)) = true := lt_t (by omega)
 have ll := h1.len
 have x1 := h1.ixa hi
 have x2 := fun h => ldR h l hi
 have b1 := s1.getD hK1 (t + 1)
 have o := QaL (n := ((t + 1 : Nat) : Int)) (d := 1) ⟨by omega, by omega⟩ ⟨by omega, by omega⟩
 rw [Qck] at o
 have so := QdG (n := ((t + 1 : Nat) : Int)) ⟨by omega, by omega⟩
 have g := Qcy (a := l.getD (t + 1) 0) (b := (((t + 1 : Nat) : Int) : Rat)) (by omega) (by omega)
 have ee : l.getD (t + 1) 0 * (((t + 1 : Nat) : Int) : Rat) = deE l t := rfl
 rw [ee] at g
 clear ee so b1
 generalize deE l t = q at *
 generalize l.getD (t + 1) 0 = u at *
 generalize (((t + 1 : Nat) : Int) : Rat) = r at *
 generalize cRs (l.drop (t + 1)) = cs at *
 generalize ((t + 1 : Nat) : Int) = t1 at *
 have d1 := QtA (digs q.num.natAbs)
 have d2' := QtA (dd q.den)
 have hb : (64 ≤ bound) = True := eq_true (by unfold bound; omega)
 have hb1 : (1 * 64 ≤ bound) = True := eq_true (by unfold bound; omega)
 have n3 : (cA L).length = L.length * 4 := Qis L
 have n4 : ((L.length + 1) * 64 ≤ bound) = True := eq_true (by unfold bound; omega)
 simp only [encR, iv] at g x2 o
 by_cases h0 : L = []
 ·subst h0
  simp -implicitDefEqProofs (maxSteps:=9^8) only [QaY, Qjl, Qfa, QfD, Qaa, Qhb, Qhq, List.nil_append, List.cons_append, List.length_nil, List.length_cons, Nat.zero_add, List.map_cons, List.map_nil, Qqt, QoE, Qo9, QnM, srcS, src, QoO, allD, hb, hb1, d1, d2', ll, x1, x2, o, go_sem, iv, bv, e1, e3, g, reduceCtorEq, ↓reduceIte, Nat.reduceEqDiff]
 ·simp -implicitDefEqProofs (maxSteps:=9^8) only [QaY, Qjl, QiL h0, Qit h0, Qhb, Qhq, List.nil_append, List.cons_append, List.length_nil, List.length_cons, Nat.zero_add, List.map_cons, List.map_nil, Qqt, Qo0, n3, n4, Qc3, srcS, src, QoO, allD, d1, d2', ll, x1, x2, o, go_sem, iv, bv, e1, e3, g, reduceCtorEq, ↓reduceIte, Nat.reduceEqDiff]
theorem rdv_stop (h1 : RwR d l) {L : List Rat} {i : Nat} (hi : l.length ≤ i) : X G QaY (Qjl d L i) = some (.x 0, QnP L) := by
 have e1 : decide ((i : Int) < (l.length : Int)) = false := lt_f (by omega)
 have ll := h1.len
 by_cases h0 : L = []
 ·subst h0
  simp -implicitDefEqProofs (maxSteps:=9^8) only [QaY, Qjl, QnP, Qfa, QfD, Qaa, ll, e1, go_sem, iv, bv, reduceCtorEq, ↓reduceIte, Nat.reduceEqDiff]
 ·simp -implicitDefEqProofs (maxSteps:=9^8) only [QaY, Qjl, QnP, QiL h0, Qit h0, Qc3, ll, e1, go_sem, iv, bv, reduceCtorEq, ↓reduceIte, Nat.reduceEqDiff]
theorem QrP (h1 : RwR d l) (s1 : SzL K l) (hK1 : 1 ≤ K) (hK : K ≤ 10000000000) (n1 : l.length ≤ 1000) : ∀ j t : Nat, t + j = l.length - 1 → X G (.loop QaY) (Qjl d ((List.range t).map (deE l)) ((t + 1 : Nat) : Int)) = some (.x 0, QnP ((List.range (l.length - 1)).map (deE l)))
 | 0, t, h => by
  have : t = l.length - 1 := by omega
  subst this
  rw [Qag, rdv_stop h1 (by omega)]; rfl
 | j + 1, t, h => by
  rw [Qag, rdv_go h1 s1 hK1 hK (by simp; omega) (by omega) (by omega), Option.bind_some, if_pos rfl, Qn7 (deE l)]
  exact QrP h1 s1 hK1 hK n1 j (t + 1) (by omega)
theorem Qgo (h1 : RwR d l) (s1 : SzL K l) (hK1 : 1 ≤ K) (hK : K ≤ 10000000000) (n1 : l.length ≤ 1000) : ∃ d', RwR d' (deP l) ∧ Qah G Qc4 [d] = some (.d d') := by
 rw [Qac (cf := QdK) rfl]
 have hl := QrP h1 s1 hK1 hK n1 (l.length - 1) 0 (by omega)
 obtain ⟨d', hr, gT⟩ := Qgw (dR_ok ((List.range (l.length - 1)).map (deE l))) (by simp; omega) ((SzL.map (K := K + 3) fun k hk => by
  have := s1.getD hK1 (k + 1)
  have := QdG (n := ((k + 1 : Nat) : Int)) ⟨by omega, by omega⟩
  have := Qec (a := l.getD (k + 1) 0) (b := (((k + 1 : Nat) : Int) : Rat))
  unfold deE; omega).mono (by omega))
 refine ⟨d', hr, ?_⟩
 have e0 : (List.range 0).map (deE l) = [] := rfl
 have z0 : ((0 + 1 : Nat) : Int) = 1 := rfl
 rw [e0, z0] at hl
 generalize (List.range (l.length - 1)).map (deE l) = L at *
 by_cases h0 : L = []
 ·subst h0
  rw [dR_nil] at gT
  simp only [Qjl, QnP, Qfa, QfD, Qaa, go_sem] at hl
  simp -implicitDefEqProofs (maxSteps:=9^8) only [QdK, Qip, hl, gT, Qaa, go_sem, iv, bv, reduceCtorEq, ↓reduceIte, Nat.reduceEqDiff]
 ·rw [dR_ne h0] at gT
  simp only [Qjl, QnP, Qfa, QfD, QiL h0, Qit h0, Qaa, go_sem] at hl
  simp -implicitDefEqProofs (maxSteps:=9^8) only [QdK, Qip, hl, gT, Qmw, Qc3, Qaa, go_sem, iv, bv, reduceCtorEq, ↓reduceIte, Nat.reduceEqDiff]

/-! ### Eval -/
def QqF (d : D) (x s p : Rat) (i : Int) : St := mkS [(0, .d d), (3, .ptr [3] 0), (4, .ptr [4] 0), (5, .ptr [5] 0), (6, .ptr [6] 0), (7, ai i)] [([3], boxR x), ([4], Qm5), ([5], boxR s), ([6], boxR p)]
def re_en (s : Rat) : St := mkS [(4, .ptr [4] 0), (5, .ptr [5] 0)] [([4], Qm5), ([5], boxR s)]
theorem re_go {x : Rat} (h1 : RwR d l) (s1 : SzL K l) (hK1 : 1 ≤ K) (hK : K ≤ 10000) (n1 : l.length ≤ 1000) (hx : sz x ≤ K) {i : Nat} (hi : i < l.length) : X G Qb3 (QqF d x (sumR (fun k => l.getD k 0 * x ^ k) i) (x ^ i) i) = some (.n, QqF d x (sumR (fun k => l.getD k 0 * x ^ k) (i + 1)) (x ^ (i + 1)) ((i + 1 : Nat) : Int)) := by
 have e3 : w64 ((i : Int) + 1) = ((i + 1 : Nat) : Int) := by rw [Qad (by omega) (by omega)]; rfl
 have e1 : decide ((i : Int) < (l.length : Int)) = true := lt_t (by omega)
 have ll := h1.len
 have x1 := h1.ixa hi
 have x2 := fun h => ldR h l hi
 have b1 := s1.getD hK1 i
 have hb : ∀ k, k < 1001 → sz (x ^ k) ≤ 10010001 := fun k hk => Nat.le_trans (pow_sz' x k hx) (Nat.le_trans (Nat.add_le_add_right (Nat.mul_le_mul (show k ≤ 1001 by omega) hK) 1) (by decide))
 have b2 := hb i (by omega)
 have b3 := sz_sumR (f := fun k => l.getD k 0 * x ^ k) (K := 10020001) i (fun k hk => by
  have := hb k (by omega); have := s1.getD hK1 k
  have := Qec (a := l.getD k 0) (b := x ^ k)
  show sz (l.getD k 0 * x ^ k) ≤ _
  omega)
 have b4 : i * (10020001 + 1) ≤ 1000 * (10020001 + 1) := Nat.mul_le_mul_right _ (by omega)
 have b5 : sz (sumR (fun k => l.getD k 0 * x ^ k) i) ≤ 20000000000 := Nat.le_trans b3 (Nat.le_trans (Nat.add_le_add_right b4 1) (by decide))
 have g1 := Qcy (a := l.getD i 0) (b := x ^ i) (by omega) (by omega)
 have m1 := Qec (a := l.getD i 0) (b := x ^ i)
 have g2 := Qdd (a := sumR (fun k => l.getD k 0 * x ^ k) i) (b := l.getD i 0 * x ^ i) (by omega) (by omega)
 have g3 := Qcy (a := x ^ i) (b := x) (by omega) (by omega)
 rw [← Rat.pow_succ] at g3
 have ee : sumR (fun k => l.getD k 0 * x ^ k) i + l.getD i 0 * x ^ i = sumR (fun k => l.getD k 0 * x ^ k) (i + 1) := rfl
 rw [ee] at g2
 clear ee b1 b2 b3 b4 b5 m1 hb
 generalize sumR (fun k => l.getD k 0 * x ^ k) (i + 1) = r2 at *
 generalize sumR (fun k => l.getD k 0 * x ^ k) i = r1 at *
 generalize x ^ (i + 1) = p2 at *
 generalize x ^ i = p1 at *
 generalize l.getD i 0 * p1 = t at *
 generalize l.getD i 0 = u at *
 generalize cRs (l.drop i) = cs at *
 simp only [encR] at g1 g2 g3 x2
 simp -implicitDefEqProofs (maxSteps:=9^8) only [Qb3, QqF, boxR, Qm5, ll, x1, x2, e1, e3, g1, g2, g3, go_sem, Qae, Qab, iv, bv, reduceCtorEq, ↓reduceIte, Nat.reduceEqDiff]
theorem re_stop {x s p : Rat} (h1 : RwR d l) : X G Qb3 (QqF d x s p (l.length : Nat)) = some (.x 0, re_en s) := by
 have e1 : decide ((l.length : Int) < (l.length : Int)) = false := lt_f (by omega)
 have ll := h1.len
 simp -implicitDefEqProofs (maxSteps:=9^8) only [Qb3, QqF, re_en, boxR, Qm5, ll, e1, go_sem, Qae, Qab, iv, bv, reduceCtorEq, ↓reduceIte, Nat.reduceEqDiff]
theorem re_loop {x : Rat} (h1 : RwR d l) (s1 : SzL K l) (hK1 : 1 ≤ K) (hK : K ≤ 10000) (n1 : l.length ≤ 1000) (hx : sz x ≤ K) : ∀ j i : Nat, i + j = l.length → X G (.loop Qb3) (QqF d x (sumR (fun k => l.getD k 0 * x ^ k) i) (x ^ i) i) = some (.x 0, re_en (evR l x))
 | 0, i, h => by
  have : i = l.length := by omega
  subst this
  rw [Qag, re_stop h1, Qls]; rfl
 | j + 1, i, h => by
  rw [Qag, re_go h1 s1 hK1 hK n1 hx (by omega), Option.bind_some, if_pos rfl]
  exact re_loop h1 s1 hK1 hK n1 hx j (i + 1) (by omega)
theorem QdT {x : Rat} (h1 : RwR d l) (s1 : SzL K l) (hK1 : 1 ≤ K) (hK : K ≤ 10000) (n1 : l.length ≤ 1000) (hx : sz x ≤ K) : Qah G QcW [d, encR x] = some (.d (encR (evR l x))) := by
 rw [Qac (cf := Qf9) rfl]
 have hl := re_loop h1 s1 hK1 hK n1 hx l.length 0 (by omega)
 have o := rone_of
 have z0 : ((0 : Nat) : Int) = 0 := rfl
 have e5 : boxR (sumR (fun k => l.getD k 0 * x ^ k) 0) = Qm5 := by
  have ez : decide ((0 : Rat).num < 0) = false := rfl
  have ez2 : dg (digs (0 : Rat).num.natAbs) = .z true := by rw [Rat.zero_num, show (0 : Int).natAbs = 0 from rfl, QaB]; rfl
  have ez3 : dg (dd (0 : Rat).den) = .z true := rfl
  rw [sumR, boxR, ez, ez2, ez3]; rfl
 rw [QqF, e5, Rat.pow_zero, z0] at hl
 clear e5
 generalize evR l x = v at *
 generalize (1 : Rat) = one at *
 simp only [encR, iv] at o
 simp only [re_en, boxR, Qm5, go_sem] at hl
 simp -implicitDefEqProofs (maxSteps:=9^8) only [Qf9, encR, o, hl, go_sem, Qae, Qab, iv, bv, reduceCtorEq, ↓reduceIte, Nat.reduceEqDiff]

/-! ### Shift -/
end
end Go.AM

/- Division: what it means, that it is the only one, how great the coefficients are. -/
namespace Go.AM
open Go Go.RowKit

theorem Qhe {l : List Rat} (h : Trm l) (hne : l ≠ []) : l.getD (l.length - 1) 0 ≠ 0 := by
 have hp : 0 < l.length := List.length_pos_iff.2 hne
 exact h (l.length - 1) (by omega)
theorem Qkt (x : Rat) {l : List Rat} {t : Nat} {c : Rat} (h : t < l.length) : evR (l.set t c) x = evR l x + (c - l.getD t 0) * x ^ t := by
 have : ∀ (l : List Rat) (t : Nat) (c : Rat), t < l.length → evR (l.set t c) x = evR l x + (c - l.getD t 0) * x ^ t := by
  intro l
  induction l with
  | nil => intro t c h; simp at h
  | cons a l ih =>
   intro t c h
   cases t with
   | zero =>
    show evR l x * x + c = evR l x * x + a + (c - a) * x ^ 0
    rw [Rat.pow_zero]; generalize evR l x = u; grind
   | succ t =>
    have := ih t c (by simpa using h)
    show evR (l.set t c) x * x + a = evR l x * x + a + (c - l.getD t 0) * x ^ (t + 1)
    rw [this, Rat.pow_succ]
    generalize evR l x = u; generalize x ^ t = p; generalize l.getD t 0 = v; grind
 exact this l t c h
theorem Qr3 (x : Rat) (k : Nat) : ∀ i : Nat, x ^ (k + i) = x ^ k * x ^ i
 | 0 => by rw [Nat.add_zero, Rat.pow_zero, Rat.mul_one]
 | i + 1 => by rw [← Nat.add_assoc, Rat.pow_succ, Rat.pow_succ, Qr3 x k i, Rat.mul_assoc]
theorem evR_take (q : List Rat) (x : Rat) {i : Nat} (h : i < q.length) : evR (q.take (i + 1)) x = evR (q.take i) x + q.getD i 0 * x ^ i := by
 have e : q.take (i + 1) = q.take i ++ [q.getD i 0] := by
  rw [List.take_add_one]
  simp [List.getD, h]
 rw [e, Qo7, List.length_take, Nat.min_eq_left (by omega)]
theorem evR_dvI {R q : List Rat} {k : Nat} {f x : Rat} : ∀ i, i ≤ q.length → k + q.length ≤ R.length → evR (dvI R q k f i) x = evR R x - f * x ^ k * evR (q.take i) x
 | 0, _, _ => by rw [dvI, List.take_zero, QcM]; grind
 | i + 1, hi, hk => by
  rw [dvI, Qkt x (by rw [QgU]; omega), evR_dvI i (by omega) hk, evR_take q x (by omega), Qr3]
  generalize evR R x = a; generalize evR (q.take i) x = b; generalize x ^ k = p; generalize x ^ i = r; generalize q.getD i 0 = c; generalize (dvI R q k f i).getD (k + i) 0 = e
  grind
theorem evR_dv {R q : List Rat} {k : Nat} {f x : Rat} (hk : k + q.length ≤ R.length) : evR (dvI R q k f q.length) x = evR R x - f * x ^ k * evR q x := by
 have := evR_dvI (x := x) (f := f) q.length (Nat.le_refl _) hk
 rwa [List.take_length] at this
theorem dvO_ev (q : List Rat) (x : Rat) : ∀ (m : Nat) (R O : List Rat), (0 < m → m - 1 + q.length ≤ R.length) → m ≤ O.length → (∀ t, t < m → O.getD t 0 = 0) → evR (dvO q m R O).2 x * evR q x + evR (dvO q m R O).1 x = evR O x * evR q x + evR R x
 | 0, R, O, _, _, _ => rfl
 | k + 1, R, O, h, hO, hz => by
  have hk : k + q.length ≤ R.length := by have := h (by omega); omega
  rw [dvO, dvO_ev q x k _ _ (fun _ => by rw [QgU]; omega) (by rw [List.length_set]; omega) (fun t ht => by rw [QlZ (by omega), if_neg (by omega)]; exact hz t (by omega)), evR_dv hk, Qkt x (by omega), hz k (by omega)]
  generalize evR O x = a; generalize evR R x = b; generalize evR q x = c; generalize x ^ k = p; generalize dvF R q k = f
  grind
theorem dvO_deg {q : List Rat} (hq : q.getD (q.length - 1) 0 ≠ 0) (hq0 : 0 < q.length) : ∀ (m : Nat) (R O : List Rat), (0 < m → m - 1 + q.length ≤ R.length) → (∀ t, m + q.length - 1 ≤ t → R.getD t 0 = 0) → ∀ t, q.length - 1 ≤ t → (dvO q m R O).1.getD t 0 = 0
 | 0, R, O, _, hz, t, ht => hz t (by omega)
 | k + 1, R, O, h, hz, t, ht => by
  have hk : k + q.length ≤ R.length := by have := h (by omega); omega
  rw [dvO]
  refine dvO_deg hq hq0 k _ _ (fun _ => by rw [QgU]; omega) (fun t ht => ?_) t ht
  rw [Qkf q.length (by omega)]
  by_cases h1 : t = k + q.length - 1
  ·subst h1
   rw [if_pos (by omega), show k + q.length - 1 - k = q.length - 1 by omega, dvF, Rat.div_def, Rat.mul_assoc, Rat.inv_mul_cancel _ hq, Rat.mul_one, Rat.sub_self]
  ·rw [if_neg (by omega)]
   exact hz t (by omega)
theorem QlN {l : List Rat} {n : Nat} (hl : Trm l) (h : ∀ t, n ≤ t → l.getD t 0 = 0) : l.length ≤ n := by
 by_cases hl0 : l.length ≤ n
 ·exact hl0
 ·exact absurd (h (l.length - 1) (by omega)) (hl (l.length - 1) (by omega))
theorem quo_rem {p q : List Rat} (hq : Trm q) (hq0 : q ≠ []) : (∀ x, evR p x = evR (quoP p q) x * evR q x + evR (remP p q) x) ∧ (remP p q).length ≤ q.length - 1 ∧ Trm (quoP p q) ∧ Trm (remP p q) := by
  have hl : 0 < q.length := List.length_pos_iff.2 hq0
  unfold quoP remP
  rw [if_neg hq0, if_neg hq0]
  refine ⟨fun x => ?_, ?_, Qco _, Qco _⟩
  · rw [QcZ     , QcZ     , dvO_ev q x (dvN p q) p (List.replicate (dvN p q) 0) (fun h => by unfold dvN at h ⊢; omega) (by simp) (fun t ht => by
      rw [List.getD_eq_getElem?_getD, List.getElem?_replicate, if_pos ht]; rfl), QjR (fun r hr => (List.mem_replicate.1 hr).2), Rat.zero_mul, Rat.zero_add]
  · refine QlN (Qco _) (fun t ht => ?_)
    rw [Qeq]
    refine dvO_deg (Qhe hq hq0) hl _ _ _ (fun h => by unfold dvN at h ⊢; omega) (fun t ht => Qa6 (by unfold dvN at ht; omega)) t ht
theorem conv_top {s q : List Rat} (hs : 0 < s.length) (hq : 0 < q.length) : conv s q (s.length - 1 + (q.length - 1)) = s.getD (s.length - 1) 0 * q.getD (q.length - 1) 0 := by
 obtain ⟨n, hn⟩ : ∃ n, s.length = n + 1 := ⟨s.length - 1, by omega⟩
 unfold conv
 rw [hn, Nat.add_sub_cancel]
 have h1 : sumR (fun i => s.getD i 0 * q.getD (n + (q.length - 1) - i) 0) (n + (q.length - 1) + 1) = sumR (fun i => s.getD i 0 * q.getD (n + (q.length - 1) - i) 0) (n + 1) := by
  rw [show n + (q.length - 1) + 1 = (n + 1) + (q.length - 1) by omega]
  exact QlS _ (fun i h1 _ => by rw [Qa6 (l := s) (by omega), Rat.zero_mul])
 rw [h1, sumR, QhD n (fun i hi => by rw [Qa6 (l := q) (by omega), Rat.mul_zero]), Rat.zero_add, show n + (q.length - 1) - n = q.length - 1 by omega]
theorem mu_getD (l m : List Rat) (k : Nat) : (muP l m).getD k 0 = conv l m k := by
 rw [muP, Qeq]
 by_cases h : k < l.length + m.length - 1
 ·rw [Qkm _ h]
 ·rw [Qa6 (by simp; omega), Qsi (by omega)]
theorem sb_getD (l m : List Rat) (k : Nat) : (sbP l m).getD k 0 = l.getD k 0 - m.getD k 0 := by
 rw [sbP, Qeq]
 by_cases h : k < max l.length m.length
 ·rw [Qkm _ h]
 ·rw [Qa6 (by simp; omega), Qa6 (l := l) (by omega), Qa6 (l := m) (by omega), Rat.sub_self]
theorem div_uniq {q a1 r1 a2 r2 : List Rat} (hq : Trm q) (hq0 : q ≠ []) (t1 : Trm a1) (t2 : Trm a2) (u1 : Trm r1) (u2 : Trm r2) (n1 : r1.length ≤ q.length - 1) (n2 : r2.length ≤ q.length - 1) (h : ∀ x, evR a1 x * evR q x + evR r1 x = evR a2 x * evR q x + evR r2 x) : a1 = a2 ∧ r1 = r2 := by
 have hl : 0 < q.length := List.length_pos_iff.2 hq0
 have hs : sbP a1 a2 = [] := by
  by_cases h0 : sbP a1 a2 = []
  ·exact h0
  ·have hsl : 0 < (sbP a1 a2).length := List.length_pos_iff.2 h0
   have hev : ∀ x, evR (muP (sbP a1 a2) q) x = evR (sbP r2 r1) x := fun x => by
    rw [QtZ, ev_sb, ev_sb]
    have := h x
    generalize evR a1 x = a at *; generalize evR a2 x = b at *; generalize evR q x = c at *; generalize evR r1 x = d at *; generalize evR r2 x = e at *
    grind
   have hc := coef_eq (c := 0) (fun x _ => hev x) ((sbP a1 a2).length - 1 + (q.length - 1))
   rw [mu_getD, conv_top hsl hl, sb_getD r2 r1, Qa6 (l := r2) (by omega), Qa6 (l := r1) (by omega), Rat.sub_self] at hc
   rcases Rat.mul_eq_zero.1 hc with h1 | h1
   ·exact absurd h1 (Qhe (trm_sb _ _) h0)
   ·exact absurd h1 (Qhe hq hq0)
 have ha : a1 = a2 := QiX t1 t2 (fun k => by
  have := sb_getD a1 a2 k
  rw [hs, Qa6 (by simp)] at this
  generalize a1.getD k 0 = u at *; generalize a2.getD k 0 = v at *
  grind)
 refine ⟨ha, QfO u1 u2 (fun x => ?_)⟩
 have := h x
 rw [ha] at this
 generalize evR a2 x * evR q x = u at *
 grind

/-! ### Sizes -/
theorem Hq.ratio {E Y : Nat} {c : Rat} (hE : 0 < E) (hc : c ≠ 0) (h : Hq E Y c) : ∃ s : Nat, 0 < s ∧ s ≤ Y ∧ ∀ (Z : Nat) (v : Rat), Hq E Z v → Hq s Z (v / c) := by
  obtain ⟨m, h1, h2⟩ := h
  have hm : m ≠ 0 := fun h0 => by
    rw [h0] at h1
    have h3 : c * cN E = 0 := h1
    rcases Rat.mul_eq_zero.1 h3 with h4 | h4
    · exact hc h4
    · exact cN_ne hE h4
  have key : ∀ v, v / c * (m : Rat) = v * cN E := fun v => by
    rw [← h1, Rat.div_def, Rat.mul_assoc, ← Rat.mul_assoc c⁻¹, Rat.inv_mul_cancel _ hc, Rat.one_mul]
  refine ⟨m.natAbs, by omega, h2, fun Z v hv => ?_⟩
  obtain ⟨n, n1, n2⟩ := hv
  rcases Int.lt_trichotomy m 0 with h3 | h3 | h3
  · have e : cN m.natAbs = -(m : Rat) := by
      unfold cN
      rw [show ((m.natAbs : Nat) : Int) = -m by omega, Rat.intCast_neg]
    exact ⟨-n, by rw [e, Rat.mul_neg, key, n1, Rat.intCast_neg], by omega⟩
  · exact absurd h3 hm
  · have e : cN m.natAbs = (m : Rat) := by
      unfold cN
      rw [show ((m.natAbs : Nat) : Int) = m by omega]
    exact ⟨n, by rw [e, key, n1], n2⟩
theorem Hq.one (E : Nat) : Hq E E 1 := ⟨(E : Int), by rw [Rat.one_mul]; rfl, by omega⟩
theorem dv_step {D X E Y s : Nat} {R q : List Rat} {k : Nat} (hR : ∀ x ∈ R, Hq D X x) (hq : ∀ x ∈ q, Hq E Y x) (hs : ∀ (Z : Nat) (v : Rat), Hq E Z v → Hq s Z (v / q.getD (q.length - 1) 0)) (hk : k + q.length ≤ R.length) :
    (∀ x ∈ dvI R q k (dvF R q k) q.length, Hq (D * s) (X * (s + Y)) x) ∧ Hq (D * s) (X * E) (dvF R q k) := by
  have hf : Hq (D * s) (X * E) (dvF R q k) := by
    have := (Hq.getD hR (k + q.length - 1)).mul (hs E 1 (Hq.one E))
    unfold dvF
    rwa [Rat.div_def, Rat.one_mul, ← Rat.div_def] at this
  refine ⟨fun x hx => ?_, hf⟩
  obtain ⟨t, ht, rfl⟩ := List.mem_iff_getElem.1 hx
  have e : (dvI R q k (dvF R q k) q.length)[t] = (dvI R q k (dvF R q k) q.length).getD t 0 := by
    rw [List.getD_eq_getElem?_getD, List.getElem?_eq_getElem ht]; rfl
  rw [e, Qkf q.length hk]
  have hRt := (Hq.getD hR t).lift s
  split
  · have hfq : Hq (D * s) (X * Y) (dvF R q k * q.getD (t - k) 0) := by
      have h1 := (Hq.getD hR (k + q.length - 1)).mul (hs Y _ (Hq.getD hq (t - k)))
      have e2 : R.getD (k + q.length - 1) 0 * (q.getD (t - k) 0 / q.getD (q.length - 1) 0) = dvF R q k * q.getD (t - k) 0 := by
        unfold dvF
        rw [Rat.div_def, Rat.div_def]
        generalize R.getD (k + q.length - 1) 0 = a; generalize (q.getD (q.length - 1) 0)⁻¹ = b; generalize q.getD (t - k) 0 = c
        grind
      rwa [e2] at h1
    rw [Nat.mul_add]
    exact hRt.sub hfq
  · rw [Nat.mul_add]
    exact hRt.le (by omega)
theorem dv_all {E Y s : Nat} {q : List Rat} {d e g : Nat} (hq : ∀ x ∈ q, Hq E Y x) (hs : ∀ (Z : Nat) (v : Rat), Hq E Z v → Hq s Z (v / q.getD (q.length - 1) 0)) (hs0 : 0 < s) (hsB : s ≤ BB ^ g) (hYB : Y ≤ BB ^ g) (hEB : E ≤ BB ^ e) {K : Nat} :
    ∀ (m D h : Nat) (R O : List Rat), 0 < D → D ≤ BB ^ d → (∀ x ∈ R, Hq D (BB ^ h) x) → (∀ x ∈ O, Hq D (BB ^ (h + e)) x) → (0 < m → m - 1 + q.length ≤ R.length) → max (d + m * g) (h + m * (g + 1) + e) + 1 ≤ K →
    dvG K q m R ∧ ∃ D', 0 < D' ∧ D' ≤ BB ^ (d + m * g) ∧ (∀ x ∈ (dvO q m R O).1, Hq D' (BB ^ (h + m * (g + 1))) x) ∧ (∀ x ∈ (dvO q m R O).2, Hq D' (BB ^ (h + m * (g + 1) + e)) x) := by
  intro m
  induction m generalizing d with
  | zero =>
    intro D h R O hD hd hR hO _ _
    exact ⟨trivial, D, hD, by rw [Nat.zero_mul, Nat.add_zero]; exact hd, by rw [Nat.zero_mul, Nat.add_zero]; exact hR, by rw [Nat.zero_mul, Nat.add_zero]; exact hO⟩
  | succ k ih =>
    intro D h R O hD hd hR hO hk hK
    have hk' := hk (by omega)
    obtain ⟨a1, a2⟩ := dv_step (k := k) hR hq hs (by omega)
    have e1 : (k + 1) * g = g + k * g := by rw [Nat.succ_mul, Nat.add_comm]
    have e2 : (k + 1) * (g + 1) = (g + 1) + k * (g + 1) := by rw [Nat.succ_mul, Nat.add_comm]
    have hb : BB ^ h * (s + Y) ≤ BB ^ (h + (g + 1)) := QdW (Nat.le_refl _) (QsL hsB hYB)
    have hR' : ∀ x ∈ dvI R q k (dvF R q k) q.length, Hq (D * s) (BB ^ (h + (g + 1))) x := fun x hx => (a1 x hx).le hb
    have hO' : ∀ x ∈ O.set k (dvF R q k), Hq (D * s) (BB ^ (h + (g + 1) + e)) x := fun x hx => by
      rcases List.mem_or_eq_of_mem_set hx with h1 | h1
      · exact ((hO x h1).lift s).le (Nat.le_trans (QdW (Nat.le_refl _) hsB) (QeR (by omega)))
      · rw [h1]
        exact a2.le (Nat.le_trans (QdW (Nat.le_refl _) hEB) (QeR (by omega)))
    have := ih (d := d + g) (D * s) (h + (g + 1)) (dvI R q k (dvF R q k) q.length) (O.set k (dvF R q k)) (Nat.mul_pos hD hs0) (QdW hd hsB) hR' hO' (fun _ => by rw [QgU]; omega) (by
      rw [e1, e2] at hK; omega)
    obtain ⟨b1, D', b2, b3, b4, b5⟩ := this
    refine ⟨⟨fun x hx => ?_, b1⟩, D', b2, ?_, ?_, ?_⟩
    · have := Hq.sz hD hd (Nat.le_refl _) (hR x hx)
      rw [e1, e2] at hK; omega
    · rw [e1, ← Nat.add_assoc]; exact b3
    · rw [dvO, e2, ← Nat.add_assoc]; exact b4
    · rw [dvO, e2, ← Nat.add_assoc]; exact b5
theorem div_HL {d h e g : Nat} {p q : List Rat} (Hp : HL d h p) (Hq' : HL e g q) (hq : Trm q) {K : Nat} (hK : max (d + dvN p q * g) (h + dvN p q * (g + 1) + e) + 1 ≤ K) : dvG K q (dvN p q) p ∧ HL (d + dvN p q * g) (h + dvN p q * (g + 1)) (remP p q) ∧ HL (d + dvN p q * g) (h + dvN p q * (g + 1) + e) (quoP p q) := by
 obtain ⟨D, a1, a2, a3⟩ := Hp
 obtain ⟨E, b1, b2, b3⟩ := Hq'
 by_cases hq0 : q = []
 ·have r1 : remP p q = [] := if_pos hq0
  have r2 : quoP p q = [] := if_pos hq0
  rw [r1, r2]
  refine ⟨?_, HL.nil _ _, HL.nil _ _⟩
  subst hq0
  have hg : ∀ (m : Nat) (R : List Rat), SzL K R → dvG K [] m R := by
   intro m
   induction m with
   | zero => intro R _; trivial
   | succ k ih => intro R hR; exact ⟨hR, ih _ hR⟩
  exact hg _ _ (fun x hx => Nat.le_trans ((a3 x hx).sz a1 a2 (Nat.le_refl _)) (by omega))
 ·obtain ⟨s, s1, s2, s3⟩ := Hq.ratio b1 (Qhe hq hq0) (Hq.getD b3 (q.length - 1))
  obtain ⟨c1, D', c2, c3, c4, c5⟩ := dv_all (d := d) (e := e) (g := g) (K := K) b3 s3 s1 s2 (Nat.le_refl _) b2 (dvN p q) D h p (List.replicate (dvN p q) 0) a1 a2 a3 (fun x hx => by rw [(List.mem_replicate.1 hx).2]; exact Hq.zero _ _) (fun hm => by unfold dvN at hm ⊢; omega) hK
  have r1 : remP p q = QbR (dvO q (dvN p q) p (List.replicate (dvN p q) 0)).1 := if_neg hq0
  have r2 : quoP p q = QbR (dvO q (dvN p q) p (List.replicate (dvN p q) 0)).2 := if_neg hq0
  rw [r1, r2]
  exact ⟨c1, HL.trim ⟨D', c2, c3, c4⟩, HL.trim ⟨D', c2, c3, c5⟩⟩
theorem mn_HL {d h : Nat} {l : List Rat} (H : HL d h l) (hl : Trm l) : HL h h (mnP l) := by
 unfold mnP
 split
 ·exact HL.nil _ _
 ·rename_i hne
  obtain ⟨D, a1, a2, a3⟩ := H
  obtain ⟨s, s1, s2, s3⟩ := Hq.ratio a1 (Qhe hl hne) (Hq.getD a3 (l.length - 1))
  refine HL.made s1 s2 (Nat.le_refl _) (fun k _ => ?_)
  have := s3 _ _ (Hq.getD a3 k)
  rw [Rat.div_def, Rat.one_mul]
  rwa [Rat.div_def] at this
end Go.AM

/- ref06: Div, Monic, Gcd, Free. -/
namespace Go.AM
open Go Go.RowKit

theorem Qpd {q : Rat} {K : Nat} (h : sz q ≤ K) : H1 K K q := by
 have h1 : nd q.num ≤ K := Nat.le_trans (Nat.le_max_left _ _) h
 have h2 : nd (q.den : Int) ≤ K := Nat.le_trans (Nat.le_max_right _ _) h
 have hd := Hq.div (n := q.num) (d := (q.den : Int)) (by have := q.den_pos; omega)
 rw [Rat.num_divInt_den, Int.natAbs_natCast] at hd
 refine ⟨q.den, q.den_pos, ?_, hd.le (Nat.le_trans (Nat.le_of_lt (QdP q.num)) (QeR h1))⟩
 have := QdP (q.den : Int)
 rw [Int.natAbs_natCast] at this
 exact Nat.le_trans (Nat.le_of_lt this) (QeR h2)
def prt (k : Nat) (f : Rat) : List Rat := QbR ((List.replicate (k + 1) 0).set k f)
theorem ev_prt (k : Nat) (f x : Rat) : evR (prt k f) x = f * x ^ k := by
 rw [prt, QcZ, Qkt x (by simp), QkR]
 have : (List.replicate (k + 1) (0 : Rat)).getD k 0 = 0 := by
  rw [List.getD_eq_getElem?_getD, List.getElem?_replicate, if_pos (by omega)]; rfl
 rw [this]
 generalize x ^ k = p; grind
theorem prt_len (k : Nat) (f : Rat) : (prt k f).length ≤ k + 1 := Nat.le_trans (QfK _) (by simp)
theorem prt_H {k : Nat} {f : Rat} {K : Nat} (h : H1 K K f) : HL K K (prt k f) := by
 obtain ⟨D, a1, a2, a3⟩ := h
 refine HL.trim ⟨D, a1, a2, fun q hq => ?_⟩
 rcases List.mem_or_eq_of_mem_set hq with h1 | h1
 ·rw [(List.mem_replicate.1 h1).2]; exact Hq.zero _ _
 ·rw [h1]; exact a3
theorem ad_prt {O : List Rat} {k : Nat} {f : Rat} (hk : k < O.length) (h0 : O.getD k 0 = 0) : adP (QbR O) (prt k f) = QbR (O.set k f) := QfO (trm_ad _ _) (Qco _) fun x => by
 rw [ev_ad, QcZ, QcZ, ev_prt, Qkt x hk, h0]
 generalize evR O x = u; generalize x ^ k = p; grind
theorem sb_prt {R q : List Rat} {k : Nat} {f : Rat} (hk : k + q.length ≤ R.length) : sbP (QbR R) (muP (prt k f) q) = QbR (dvI R q k f q.length) := QfO (trm_sb _ _) (Qco _) fun x => by
 rw [ev_sb, QcZ, QcZ, QtZ, ev_prt, evR_dv hk]
theorem dv_skip {R q : List Rat} {k : Nat} (hk : k + q.length ≤ R.length) : QbR (dvI R q k 0 q.length) = QbR R := QfO (Qco _) (Qco _) fun x => by
 rw [QcZ, QcZ, evR_dv hk, Rat.zero_mul, Rat.zero_mul]
 generalize evR R x = u; grind
theorem set_skip {O : List Rat} {k : Nat} (hk : k < O.length) (h0 : O.getD k 0 = 0) : QbR (O.set k 0) = QbR O := QfO (Qco _) (Qco _) fun x => by
 rw [QcZ, QcZ, Qkt x hk, h0]
 generalize evR O x = u; generalize x ^ k = p; grind
theorem QlY {R : List Rat} {n : Nat} (h : ∀ t, n ≤ t → R.getD t 0 = 0) : (QbR R).length ≤ n := QlN (Qco _) (fun t ht => by rw [Qeq]; exact h t ht)
theorem Qrk {R : List Rat} {n : Nat} (h : ∀ t, n + 1 ≤ t → R.getD t 0 = 0) (h0 : R.getD n 0 ≠ 0) : (QbR R).length = n + 1 := by
 have h1 := QlY h
 by_cases h2 : (QbR R).length ≤ n
 ·exact absurd (by rw [← Qeq]; exact Qa6 h2) h0
 ·omega
variable [Its]

section
variable {dq : D} {q : List Rat} {K e g : Nat}
def QmW (dq dout drest : D) : St := mkS [(1, .d dq), (6, .d dout), (7, .d drest)] []
def Qta (dout drest : D) : St := mkS [(6, .d dout), (7, .d drest)] []
theorem rd2_stop {dout drest : D} {R : List Rat} (hq : RwR dq q) (h2 : RwR drest R) (h : R.length < q.length) : X G Qcq (QmW dq dout drest) = some (.x 0, Qta dout drest) := by
 have l1 := hq.len
 have l2 := h2.len
 have e1 : decide ((R.length : Int) ≥ (q.length : Int)) = false := decide_eq_false (by omega)
 simp -implicitDefEqProofs (maxSteps:=9^8) only [Qcq, QmW, Qta, l1, l2, e1, go_sem, iv, bv, reduceCtorEq, ↓reduceIte, Nat.reduceEqDiff]
theorem rd2_go {dout drest : D} {R O : List Rat} {k : Nat} (hq : RwR dq q) (h1 : RwR dout O) (h2 : RwR drest R) (hk : R.length = k + q.length) (hq0 : 0 < q.length) (n1 : R.length ≤ 100) (n2 : O.length ≤ 100)
    (sR : SzL K R) (sO : SzL (2 * K) O) (Hq' : HL e g q) (sq : SzL K q) (hK1 : 1 ≤ K) (hK : K ≤ 200000000) (he : e ≤ 200000000) (hg : g ≤ 200000000) :
    ∃ d1 d2, RwR d1 (adP O (prt k (dvF R q k))) ∧ RwR d2 (sbP R (muP (prt k (dvF R q k)) q)) ∧ X G Qcq (QmW dq dout drest) = some (.n, QmW dq d1 d2) := by
  have l1 := hq.len
  have l2 := h2.len
  have e1 : decide ((R.length : Int) ≥ (q.length : Int)) = true := decide_eq_true (by omega)
  have e2 : w64 ((R.length : Int) - (q.length : Int)) = (k : Int) := by rw [Qad (by omega) (by omega)]; omega
  have e3 : w64 ((k : Int) + 1) = ((k + 1 : Nat) : Int) := by rw [Qad (by omega) (by omega)]; rfl
  have e4 : w64 ((q.length : Int) - 1) = ((q.length - 1 : Nat) : Int) := by rw [Qad (by omega) (by omega)]; omega
  have e5 : w64 ((R.length : Int) - 1) = ((k + q.length - 1 : Nat) : Int) := by rw [Qad (by omega) (by omega)]; omega
  have f1 : ((0 : Int) ≤ ((k + 1 : Nat) : Int)) = True := eq_true (by omega)
  have f2 : (((k + 1 : Nat) : Int) * ((64 : Nat) : Int) ≤ (bound : Int)) = True := eq_true (by have : (bound : Int) = 140737488351232 := rfl; omega)
  have f3 : ((0 : Int) ≤ (k : Int)) = True := eq_true (by omega)
  have f4 : ((k : Int) < ((k + 1 : Nat) : Int)) = True := eq_true (by omega)
  have r0 := Qqw (k + 1)
  have m0 := map_cRs (List.replicate (k + 1) (0 : Rat))
  have hqi : q.length - 1 < q.length := by omega
  have hRi : k + q.length - 1 < R.length := by omega
  have x1 := hq.ixa hqi
  have y1 := fun h => ldR h q hqi
  have x2 := h2.ixa hRi
  have y2 := fun h => ldR h R hRi
  have s1 := sq.getD hK1 (q.length - 1)
  have s2 := sR.getD hK1 (k + q.length - 1)
  have g1 := QfR (a := R.getD (k + q.length - 1) 0) (b := q.getD (q.length - 1) 0) (by omega) (by omega)
  have sf := Qin (a := R.getD (k + q.length - 1) 0) (b := q.getD (q.length - 1) 0)
  have hf : R.getD (k + q.length - 1) 0 / q.getD (q.length - 1) 0 = dvF R q k := rfl
  rw [hf] at g1 sf
  have sf' : sz (dvF R q k) ≤ 2 * K := by omega
  have hlen : (List.replicate (k + 1) (0 : Rat)).length = k + 1 := List.length_replicate
  have t1 := st_cA (l := List.replicate (k + 1) (0 : Rat)) (j := k) (by simp) (dvF R q k)
  have Hp := prt_H (k := k) (Qpd sf')
  obtain ⟨dp, hp, gT⟩ := Qgw (RwR.row ((List.replicate (k + 1) (0 : Rat)).set k (dvF R q k))) (by simp; omega) (szl_set (fun x hx => by rw [(List.mem_replicate.1 hx).2, QeF]; omega) (by omega))
  have np := prt_len k (dvF R q k)
  have gT' : RwR dp (prt k (dvF R q k)) := hp
  have bbv : BB = 1000000000 := rfl
  obtain ⟨d1, a1, g2⟩ := QnT h1 gT' (K := 2 * K + 1) (sO.mono (by omega)) (Hp.sz.mono (by omega)) (by omega) (by omega) (by omega) (by omega)
  obtain ⟨dm, a2, g3⟩ := Qtn gT' hq Hp Hq' (by omega) (by omega) (by omega) (by omega)
  have Hm := HL.mu Hp Hq' (by omega)
  have lm := len_mu (prt k (dvF R q k)) q
  obtain ⟨d2, a3, g4⟩ := QtT h2 a2 (K := 2 * K + max e g + 3) (sR.mono (by omega)) (Hm.sz.mono (by omega)) (by omega) (by omega) (by omega) (by omega)
  refine ⟨d1, d2, a1, a3, ?_⟩
  rw [rowR, List.length_set, hlen] at gT
  clear s1 s2 sf sf' sq sR sO hf Hp Hm a1 a2 a3 hp gT' np lm Hq' hlen hqi hRi
  generalize (List.replicate (k + 1) (0 : Rat)).set k (dvF R q k) = L at *
  generalize dvF R q k = f at *
  generalize R.getD (k + q.length - 1) 0 = u at *
  generalize q.getD (q.length - 1) 0 = v at *
  generalize cRs (q.drop (q.length - 1)) = cs at *
  generalize cRs (R.drop (k + q.length - 1)) = cs2 at *
  generalize ((k + q.length - 1 : Nat) : Int) = z1 at *
  generalize ((q.length - 1 : Nat) : Int) = z2 at *
  simp only [encR] at g1 y1 y2
  simp -implicitDefEqProofs (maxSteps:=9^8) only [Qcq, QmW, Qip, l1, l2, e1, e2, e3, e4, e5, f1, f2, f3, f4, r0, m0, x1, y1, x2, y2, g1, t1, gT, g2, g3, g4, Qmw, Qc3, Int.toNat_natCast, go_sem, iv, bv, and_self, true_and, reduceCtorEq, ↓reduceIte, Nat.reduceEqDiff]
theorem QrU      (hq : RwR dq q) (hq0 : 0 < q.length) (hqz : q.getD (q.length - 1) 0 ≠ 0) (Hq' : HL e g q) (sq : SzL K q) (hK1 : 1 ≤ K) (hK : K ≤ 200000000) (he : e ≤ 200000000) (hg : g ≤ 200000000) : ∀ (j : Nat) (R O : List Rat) (dout drest : D), RwR dout (QbR   O) → RwR drest (QbR   R) → R.length ≤ 100 → O.length ≤ 100 → (0 < j → j - 1 + q.length ≤ R.length) → j ≤ O.length → (∀ t, t < j → O.getD t 0 = 0) → (∀ t, j + q.length - 1 ≤ t → R.getD t 0 = 0) → SzL (2 * K) O → dvG K q j R →
    ∃ d1 d2, RwR d1 (QbR (dvO q j R O).2) ∧ RwR d2 (QbR (dvO q j R O).1) ∧ X G (.loop Qcq) (QmW dq dout drest) = some (.x 0, Qta d1 d2)
  | 0, R, O, dout, drest, h1, h2, _, _, _, _, _, hz, _, _ => by
    have hl : (QbR R).length ≤ q.length - 1 := QlY (fun t ht => hz t (by omega))
    exact ⟨dout, drest, h1, h2, by rw [Qag, rd2_stop hq h2 (by omega)]; rfl⟩
  | k + 1, R, O, dout, drest, h1, h2, n1, n2, hj, hm, ho, hz, sO, hgG => by
    have hk : k + q.length ≤ R.length := by have := hj (by omega); omega
    have hlast : q.length - 1 < q.length := by omega
    have h0 := ho k (by omega)
    have sO' : SzL (2 * K) (O.set k (dvF R q k)) := szl_set sO (by
      have s1 := sq.getD hK1 (q.length - 1)
      have s2 := hgG.1.getD hK1 (k + q.length - 1)
      have := Qin (a := R.getD (k + q.length - 1) 0) (b := q.getD (q.length - 1) 0)
      unfold dvF; omega)
    have hz' : q.getD (q.length - 1) 0 ≠ 0 ∨ R.getD (k + q.length - 1) 0 = 0 → ∀ t, k + q.length - 1 ≤ t → (dvI R q k (dvF R q k) q.length).getD t 0 = 0 := fun hc t ht => by
      rw [Qkf q.length (by omega)]
      by_cases h1 : t = k + q.length - 1
      · subst h1
        rw [if_pos (by omega), show k + q.length - 1 - k = q.length - 1 by omega, dvF]
        rcases hc with hc | hc
        · rw [Rat.div_def, Rat.mul_assoc, Rat.inv_mul_cancel _ hc, Rat.mul_one, Rat.sub_self]
        · rw [hc, Rat.div_def, Rat.zero_mul, Rat.zero_mul, Rat.sub_self]
      · rw [if_neg (by omega)]
        exact hz t (by omega)
    have ho' : ∀ t, t < k → (O.set k (dvF R q k)).getD t 0 = 0 := fun t ht => by
      rw [QlZ (by omega), if_neg (by omega)]; exact ho t (by omega)
    have ih := QrU hq hq0 hqz Hq' sq hK1 hK he hg k (dvI R q k (dvF R q k) q.length) (O.set k (dvF R q k))
    rw [dvO]
    by_cases hR0 : R.getD (k + q.length - 1) 0 = 0
    · have hf : dvF R q k = 0 := by rw [dvF, hR0, Rat.div_def, Rat.zero_mul]
      refine ih dout drest ?_ ?_ (by rw [QgU]; exact n1) (by rw [List.length_set]; exact n2) (fun _ => by rw [QgU]; omega) (by rw [List.length_set]; omega) ho' (hz' (.inr hR0)) sO' hgG.2
      · rw [hf, set_skip (by omega) h0]; exact h1
      · rw [hf, dv_skip hk]; exact h2
    · have hlen : (QbR   R).length = k + q.length := by
        have := Qrk (R := R) (n := k + q.length - 1) (fun t ht => hz t (by omega)) hR0
        omega
      have hfe : dvF (QbR R) q k = dvF R q k := by rw [dvF, Qeq]; rfl
      obtain ⟨d1, d2, a1, a2, a3⟩ := rd2_go (k := k) hq h1 h2 hlen hq0 (Nat.le_trans (QfK R) n1) (Nat.le_trans (QfK O) n2) hgG.1.trim sO.trim Hq' sq hK1 hK he hg
      rw [hfe] at a1 a2
      rw [ad_prt (by omega) h0] at a1
      rw [sb_prt hk] at a2
      obtain ⟨e1, e2, b1, b2, b3⟩ := ih d1 d2 a1 a2 (by rw [QgU]; exact n1) (by rw [List.length_set]; exact n2) (fun _ => by rw [QgU]; omega) (by rw [List.length_set]; omega) ho' (hz' (.inl hqz)) sO' hgG.2
      exact ⟨e1, e2, b1, b2, by rw [Qag, a3, Option.bind_some, if_pos rfl]; exact b3⟩
theorem QkI        {dp : D} {p : List Rat} (hp : RwR dp p) (hq : RwR dq q) (tp : Trm p) (tq : Trm q) (n1 : p.length ≤ 90) (Hq' : HL e g q) (sq : SzL K q) (hK1 : 1 ≤ K) (hK : K ≤ 200000000) (he : e ≤ 200000000) (hg : g ≤ 200000000) (hG : dvG K q (dvN p q) p) :
    ∃ d1 d2, RwR d1 (quoP p q) ∧ RwR d2 (remP p q) ∧ Qah G Qd9 [dp, dq] = some (.d (.tup [d1, d2])) := by
  rw [Qac (cf := QeQ) rfl]
  have lq := hq.len
  unfold quoP remP
  by_cases hq0 : q = []
  · subst hq0
    rw [if_pos rfl, if_pos rfl]
    refine ⟨.z true, .z true, .nil, .nil, ?_⟩
    have e1 : ((0 : Int) == 0) = true := rfl
    simp only [List.length_nil] at lq
    simp -implicitDefEqProofs (maxSteps:=9^8) only [QeQ, toDs, lq, e1, go_sem, iv, bv, reduceCtorEq, ↓reduceIte, Nat.reduceEqDiff]
  · rw [if_neg hq0, if_neg hq0]
    have hl : 0 < q.length := List.length_pos_iff.2 hq0
    have e1 : ((q.length : Int) == 0) = false := Qds (by omega)
    have hO : QbR (List.replicate (dvN p q) (0 : Rat)) = [] := QfO (Qco _) Qh5 fun x => by rw [QcZ, QkR]; rfl
    obtain ⟨d1, d2, a1, a2, a3⟩ := QrU hq hl (Qhe tq hq0) Hq' sq hK1 hK he hg (dvN p q) p (List.replicate (dvN p q) 0) (.z true) dp (by rw [hO]; exact .nil) (by rw [trim_of tp]; exact hp) (by omega) (by simp; unfold dvN; omega) (fun h => by unfold dvN at h ⊢; omega) (by simp) (fun t ht => by
      rw [List.getD_eq_getElem?_getD, List.getElem?_replicate, if_pos ht]; rfl) (fun t ht => Qa6 (by unfold dvN at ht; omega)) (fun x hx => by rw [(List.mem_replicate.1 hx).2, QeF]; omega) hG
    refine ⟨d1, d2, a1, a2, ?_⟩
    simp only [QmW, Qta, go_sem] at a3
    simp -implicitDefEqProofs (maxSteps:=9^8) only [QeQ, toDs, lq, e1, a3, go_sem, iv, bv, reduceCtorEq, ↓reduceIte, Nat.reduceEqDiff]
end
end Go.AM

/- How great the divisors are; ref06: Monic, Gcd, Free. -/
namespace Go.AM
open Go Go.RowKit

theorem sc_getD (l : List Rat) (a : Rat) (k : Nat) : (scP l a).getD k 0 = l.getD k 0 * a := by
 rw [scP, Qeq]
 by_cases h : k < l.length
 ·rw [Qkm _ h]
 ·rw [Qa6 (by simp; omega), Qa6 (by omega), Rat.zero_mul]
theorem Qpf (l : List Rat) (k : Nat) : (deP l).getD k 0 = l.getD (k + 1) 0 * ((k + 1 : Nat) : Int) := by
 rw [deP, Qeq]
 by_cases h : k < l.length - 1
 ·rw [Qkm _ h]
 ·rw [Qa6 (by simp; omega), Qa6 (by omega), Rat.zero_mul]
theorem QpW {l : List Rat} {n : Nat} (h : l.getD n 0 ≠ 0) : n + 1 ≤ l.length := by
 by_cases h1 : n < l.length
 ·exact h1
 ·exact absurd (Qa6 (by omega)) h
theorem rinv_ne {x : Rat} (h : x ≠ 0) : 1 / x ≠ 0 := fun h0 => by
 have h1 : 1 / x * x = 1 := by rw [Rat.div_def, Rat.one_mul, Rat.inv_mul_cancel _ h]
 rw [h0, Rat.zero_mul] at h1
 exact absurd h1 (by decide)
theorem Qod {l : List Rat} (h : l ≠ []) (k : Nat) : (mnP l).getD k 0 = l.getD k 0 * (1 / l.getD (l.length - 1) 0) := by
 rw [mnP, if_neg h, sc_getD]
theorem mn_lenE {l : List Rat} (hl : Trm l) : (mnP l).length = l.length := by
 by_cases h : l = []
 ·subst h; rfl
 ·have h1 := Qir l
  have hp : 0 < l.length := List.length_pos_iff.2 h
  have h2 := Qhe hl h
  have h3 : (mnP l).getD (l.length - 1) 0 ≠ 0 := by
   rw [Qod h]
   intro h0
   rcases Rat.mul_eq_zero.1 h0 with h4 | h4
   ·exact h2 h4
   ·exact rinv_ne h2 h4
  have := QpW h3
  omega
theorem cast_ne {n : Nat} (h : 0 < n) : (((n : Nat) : Int) : Rat) ≠ 0 := cN_ne h
theorem de_lenE {l : List Rat} (hl : Trm l) : (deP l).length = l.length - 1 := by
 have h1 := Qpj l
 by_cases h : l.length ≤ 1
 ·omega
 ·have h2 := Qhe hl (fun h0 => by rw [h0] at h; simp at h)
  have h3 : (deP l).getD (l.length - 2) 0 ≠ 0 := by
   rw [Qpf, show l.length - 2 + 1 = l.length - 1 by omega]
   intro h0
   rcases Rat.mul_eq_zero.1 h0 with h4 | h4
   ·exact h2 h4
   ·exact cast_ne (by omega) h4
  have := QpW h3
  omega
theorem Qpv : ∀ d : Nat, d + 3 ≤ 3 ^ (d + 1)
 | 0 => by decide
 | d + 1 => by rw [Nat.pow_succ]; have := Qpv d; omega
theorem three_le {a b : Nat} (h : a < b) : (b + 2 - a) * 3 ^ a ≤ 3 ^ b := by
 obtain ⟨d, rfl⟩ : ∃ d, b = d + 1 + a := ⟨b - 1 - a, by omega⟩
 rw [Nat.pow_add]
 refine Nat.mul_le_mul_right _ ?_
 have := Qpv d
 omega
theorem trm_dv (a b : List Rat) : Trm (remP a b) := by
 unfold remP
 split
 ·exact Qh5
 ·exact Qco _
def gcH (K : Nat) : Nat → List Rat → List Rat → Prop
 | 0, _, b => b = []
 | n + 1, a, b => b = [] ∨ (HL K K b ∧ Trm b ∧ gcH K n b (mnP (remP a b)))
theorem Qn3 {K L : Nat} (h : K ≤ L) {q : List Rat} : ∀ (m : Nat) (R : List Rat), dvG K q m R → dvG L q m R
 | 0, _, _ => trivial
 | k + 1, R, hg => ⟨hg.1.mono h, Qn3 h k _ hg.2⟩
theorem Qo2 {K L : Nat} (h : K ≤ L) : ∀ (n : Nat) (a b : List Rat), gcG K n a b → gcG L n a b
 | 0, _, _, hg => hg
 | n + 1, a, b, hg => hg.imp id fun ⟨h1, h2, h3, h4⟩ => ⟨h1.mono h, Qn3 h _ _ h2, h3.mono h, Qo2 h n _ _ h4⟩
theorem QoV {K L : Nat} (h : K ≤ L) : ∀ (n : Nat) (a b : List Rat), gcH K n a b → gcH L n a b
 | 0, _, _, hg => hg
 | n + 1, a, b, hg => hg.imp id fun ⟨h1, h2, h3⟩ => ⟨h1.mono h h, h2, QoV h n _ _ h3⟩
theorem gc_pot {K : Nat} : ∀ (n s : Nat) (a b : List Rat), HL s s a → HL s s b → Trm b → b.length < n → (s + 1) * (dvN a b + 1) * 3 ^ b.length ≤ K → gcG K n a b ∧ gcH K n a b ∧ HL K K (gcP n a b)
 | 0, _, _, b, _, _, _, h, _ => by omega
 | n + 1, s, a, b, Ha, Hb, tb, hn, hK => by
  have h3 : 1 ≤ 3 ^ b.length := Nat.one_le_pow _ _ (by decide)
  have hs : s + 1 ≤ K := Nat.le_trans (Nat.le_trans (Nat.le_mul_of_pos_right (s + 1) (by omega)) (Nat.le_mul_of_pos_right _ h3)) hK
  by_cases hb : b = []
  ·subst hb
   refine ⟨.inl rfl, .inl rfl, ?_⟩
   rw [gcP, if_pos rfl]
   exact Ha.mono (by omega) (by omega)
  ·have hlb : 0 < b.length := List.length_pos_iff.2 hb
   obtain ⟨_, q2, _, _⟩ := quo_rem (p := a) tb hb
   have h33 : 3 * ((s + 1) * (dvN a b + 1)) ≤ K := by
    refine Nat.le_trans ?_ hK
    rw [Nat.mul_comm 3]
    refine Nat.mul_le_mul_left _ ?_
    obtain ⟨k, hk⟩ : ∃ k, b.length = k + 1 := ⟨b.length - 1, by omega⟩
    rw [hk, Nat.pow_succ]
    have : 1 ≤ 3 ^ k := Nat.one_le_pow _ _ (by decide)
    omega
   have hr := Qir (remP a b)
   have h3' : ((s + 1) * (dvN a b + 1)) * (dvN b (mnP (remP a b)) + 1) * 3 ^ (mnP (remP a b)).length ≤ K := by
    refine Nat.le_trans ?_ hK
    rw [Nat.mul_assoc]
    refine Nat.mul_le_mul_left _ (Nat.le_trans (Nat.le_of_eq ?_) (three_le (a := (mnP (remP a b)).length) (b := b.length) (by omega)))
    congr 1
    unfold dvN; omega
   have he : (s + 1) * (dvN a b + 1) = s * dvN a b + dvN a b + s + 1 := by rw [Nat.mul_add, Nat.add_mul, Nat.mul_one, Nat.one_mul]; omega
   have he2 : dvN a b * (s + 1) = s * dvN a b + dvN a b := by rw [Nat.mul_add, Nat.mul_one, Nat.mul_comm]
   have he3 : dvN a b * s = s * dvN a b := Nat.mul_comm _ _
   obtain ⟨g1, g2, _⟩ := div_HL (K := K) Ha Hb tb (by rw [he2, he3]; omega)
   have hsz := g2.sz
   have g3 := mn_HL g2 (trm_dv a b)
   have e1 : s + dvN a b * (s + 1) + 1 = (s + 1) * (dvN a b + 1) := by omega
   obtain ⟨i1, i2, i3⟩ := gc_pot (K := K) n (s + dvN a b * (s + 1)) b (mnP (remP a b)) (Hb.mono (by omega) (by omega)) g3 (Qjn _) (by omega) (by rw [e1]; exact h3')
   refine ⟨.inr ⟨Hb.sz.mono (by omega), g1, hsz.mono (by omega), i1⟩, .inr ⟨Hb.mono (by omega) (by omega), tb, i2⟩, ?_⟩
   rw [gcP, if_neg hb]
   exact i3
variable [Its]

theorem Qhd {d : D} {l : List Rat} (hr : RwR d l) (hn : l.length ≤ 1000) {K : Nat} (sl : SzL K l) (hK1 : 1 ≤ K) (hK : K ≤ 1000000000) : ∃ d', RwR d' (mnP l) ∧ Qah G QcI [d] = some (.d d') := by
 rw [Qac (cf := Qea) rfl]
 have ll := hr.len
 by_cases h0 : l.length = 0
 ·have : l = [] := List.eq_nil_of_length_eq_zero h0
  subst this
  refine ⟨.z true, .inl ⟨rfl, rfl⟩, ?_⟩
  have e1 : ((0 : Int) == 0) = true := rfl
  simp only [List.length_nil] at ll
  simp -implicitDefEqProofs (maxSteps:=9^8) only [Qea, ll, e1, go_sem, iv, bv, reduceCtorEq, ↓reduceIte, Nat.reduceEqDiff]
 ·have hne : l ≠ [] := fun h => h0 (by rw [h]; rfl)
  unfold mnP
  rw [if_neg hne]
  have e1 : ((l.length : Int) == 0) = false := Qds (by omega)
  have e2 : w64 ((l.length : Int) - 1) = ((l.length - 1 : Nat) : Int) := by rw [Qad (by omega) (by omega)]; omega
  have hl : l.length - 1 < l.length := by omega
  have x1 := hr.ixa hl
  have y1 := fun h => ldR h l hl
  have s1 := sl.getD hK1 (l.length - 1)
  have g1 := rone_of
  have g2 := QfR (a := 1) (b := l.getD (l.length - 1) 0) (by rw [Qgh]; omega) (by omega)
  have s2 := Qin (a := 1) (b := l.getD (l.length - 1) 0)
  rw [Qgh] at s2
  obtain ⟨d', hr', gS⟩ := Qiy (a := 1 / l.getD (l.length - 1) 0) hr (K := K + 1) (sl.mono (by omega)) (by omega) (by omega) (by omega) hn
  refine ⟨d', hr', ?_⟩
  clear s1 s2 hr'
  generalize 1 / l.getD (l.length - 1) 0 = r at *
  generalize l.getD (l.length - 1) 0 = u at *
  generalize cRs (l.drop (l.length - 1)) = cs at *
  generalize ((l.length - 1 : Nat) : Int) = z at *
  generalize (1 : Rat) = one at *
  simp only [encR, iv] at g1 g2 y1 gS
  simp -implicitDefEqProofs (maxSteps:=9^8) only [Qea, ll, x1, y1, e1, e2, g1, g2, gS, go_sem, iv, bv, reduceCtorEq, ↓reduceIte, Nat.reduceEqDiff]

def QqU (da db : D) : St := mkS [(5, .d da), (6, .d db)] []
def gr_en (da : D) : St := mkS [(5, .d da)] []
theorem gr_stop {da db : D} (hb : RwR db []) : X G Qcp (QqU da db) = some (.x 0, gr_en da) := by
 have ll := hb.len
 have e1 : decide ((0 : Int) > 0) = false := rfl
 simp only [List.length_nil] at ll
 simp -implicitDefEqProofs (maxSteps:=9^8) only [Qcp, QqU, gr_en, ll, e1, go_sem, iv, bv, reduceCtorEq, ↓reduceIte, Nat.reduceEqDiff]
theorem gr_go {da db : D} {a b : List Rat} (ha : RwR da a) (hb : RwR db b) (ta : Trm a) (tb : Trm b) (hne : b ≠ []) (na : a.length ≤ 90) {K : Nat} (hK1 : 1 ≤ K) (hK : K ≤ 200000000) (Hb : HL K K b) (sb : SzL K b) (hg : dvG K b (dvN a b) a) (sr : SzL K (remP a b)) :
    ∃ d', RwR d' (mnP (remP a b)) ∧ X G Qcp (QqU da db) = some (.n, QqU db d') := by
  obtain ⟨d1, d2, h1, h2, gD⟩ := QkI ha hb ta tb na Hb sb hK1 hK hK hK hg
  obtain ⟨d3, h3, gM⟩ := Qhd h2 (Nat.le_trans (Qlv a b) (by omega)) sr hK1 (by omega)
  refine ⟨d3, h3, ?_⟩
  have hl : 0 < b.length := List.length_pos_iff.2 hne
  have ll := hb.len
  have e1 : decide ((b.length : Int) > 0) = true := gt_t (by omega)
  simp -implicitDefEqProofs (maxSteps:=9^8) only [Qcp, QqU, ll, e1, gD, gM, go_sem, iv, bv, reduceCtorEq, ↓reduceIte, Nat.reduceEqDiff]
theorem gr_loop {K : Nat} (hK1 : 1 ≤ K) (hK : K ≤ 200000000) : ∀ (n : Nat) (a b : List Rat) (da db : D), RwR da a → RwR db b → Trm a → a.length ≤ 90 → b.length ≤ 90 → gcG K n a b → gcH K n a b → ∃ d', RwR d' (gcP n a b) ∧ X G (.loop Qcp) (QqU da db) = some (.x 0, gr_en d')
 | 0, a, b, da, db, ha, hb, ta, na, nb, hg, _ => by
  have hb' : b = [] := hg
  subst hb'
  exact ⟨da, ha, by rw [Qag, gr_stop hb]; rfl⟩
 | n + 1, a, b, da, db, ha, hb, ta, na, nb, hg, hh => by
  by_cases hb0 : b = []
  ·subst hb0
   rw [gcP, if_pos rfl]
   exact ⟨da, ha, by rw [Qag, gr_stop hb]; rfl⟩
  ·rw [gcP, if_neg hb0]
   rcases hg with hg | ⟨g1, g2, g3, g4⟩
   ·exact absurd hg hb0
   ·rcases hh with hh | ⟨k1, k2, k3⟩
    ·exact absurd hh hb0
    ·obtain ⟨d1, h1, hx⟩ := gr_go ha hb ta k2 hb0 na hK1 hK k1 g1 g2 g3
     obtain ⟨d', h', hl⟩ := gr_loop hK1 hK n b (mnP (remP a b)) db d1 hb h1 k2 nb (Nat.le_trans (Qir _) (Nat.le_trans (Qlv a b) na)) g4 k3
     exact ⟨d', h', by rw [Qag, hx, Option.bind_some, if_pos rfl]; exact hl⟩
theorem QnW        {dp dq : D} {p q : List Rat} (hp : RwR dp p) (hq : RwR dq q) (np : p.length ≤ 90) (nq : q.length ≤ 90) {K : Nat} (hK1 : 1 ≤ K) (hK : K ≤ 200000000) (sp : SzL K p) (sq : SzL K q) (hg : gcG K (q.length + 1) (mnP p) (mnP q)) (hh : gcH K (q.length + 1) (mnP p) (mnP q)) :
    ∃ d', RwR d' (gcdP p q) ∧ Qah G Qfl [dp, dq] = some (.d d') := by
  rw [Qac (cf := QgZ) rfl]
  obtain ⟨d1, h1, g1⟩ := Qhd hp (by omega) sp hK1 (by omega)
  obtain ⟨d2, h2, g2⟩ := Qhd hq (by omega) sq hK1 (by omega)
  obtain ⟨d', h', hl⟩ := gr_loop hK1 hK (q.length + 1) (mnP p) (mnP q) d1 d2 h1 h2 (Qjn p) (Nat.le_trans (Qir _) np) (Nat.le_trans (Qir _) nq) hg hh
  refine ⟨d', h', ?_⟩
  simp only [QqU, gr_en, go_sem] at hl
  simp -implicitDefEqProofs (maxSteps:=9^8) only [QgZ, g1, g2, hl, go_sem, iv, bv, reduceCtorEq, ↓reduceIte, Nat.reduceEqDiff]
theorem QqQ         {dp : D} {p : List Rat} (hp : RwR dp p) (tp : Trm p) (tg : Trm (gcdP p (deP p))) (np : p.length ≤ 90) {K : Nat} (hK1 : 1 ≤ K) (hK : K ≤ 200000000) (sp : SzL K p) (sd : SzL K (deP p)) (hg : gcG K ((deP p).length + 1) (mnP p) (mnP (deP p))) (hh : gcH K ((deP p).length + 1) (mnP p) (mnP (deP p))) (Hg : HL K K (gcdP p (deP p))) (sg : SzL K (gcdP p (deP p))) (hd : dvG K (gcdP p (deP p)) (dvN p (gcdP p (deP p))) p) (so : SzL K (quoP p (gcdP p (deP p)))) :
    ∃ d', RwR d' (frP p) ∧ Qah G QdH [dp] = some (.d d') := by
  rw [Qac (cf := Qf3) rfl]
  obtain ⟨d1, h1, g1⟩ := Qgo hp sp hK1 (by omega) (by omega)
  obtain ⟨d2, h2, g2⟩ := QnW hp h1 np (Nat.le_trans (Qpj p) (by omega)) hK1 hK sp sd hg hh
  obtain ⟨d3, d4, h3, h4, g3⟩ := QkI hp h2 tp tg np Hg sg hK1 hK hK hK hd
  obtain ⟨d', h', g4⟩ := Qhd h3 (Nat.le_trans (quoP_len p _) (by unfold dvN; omega)) so hK1 (by omega)
  refine ⟨d', h', ?_⟩
  simp -implicitDefEqProofs (maxSteps:=9^8) only [Qf3, g1, g2, g3, g4, go_sem, iv, bv, reduceCtorEq, ↓reduceIte, Nat.reduceEqDiff]
end Go.AM

/- Boxes of whole numbers, folded. -/
namespace Go.AM
open Go Go.RowKit

def cI (x : Int) : List A := [.d (.v (.bool (decide (x < 0)))), .d (dg (digs x.natAbs))]
def bI (x : Int) : Obj := ⟨0, 0, cI x, false⟩
theorem one_encI (x : Int) : A.one (.d (encI x)) = false := rfl
theorem Qua (x : Int) : QaN (.d (encI x)) = cI x := rfl
theorem dc_encI (x : Int) : Qdc (.d (encI x)) = some [.v (.bool (decide (x < 0))), dg (digs x.natAbs)] := rfl
theorem all_cI (x : Int) : (cI x).all A.one = true := by
 simp only [cI, List.all_cons, List.all_nil, QrQ, QqP, Bool.and_self]
theorem len_cI (x : Int) : (cI x).length = 2 := rfl
theorem refs_cI (ks : List Key) (x : Int) : Qgg ks (cI x) = true := rfl
theorem ld_cI (x : Int) : Qab (some 2) 0 (cI x) = some (.d (encI x)) := rfl
theorem ld_cI0 (x : Int) : Qab none 0 (cI x) = some (.d (.v (.bool (decide (x < 0))))) := rfl
theorem ld_cI1 (x : Int) : Qab none 1 (cI x) = some (.d (dg (digs x.natAbs))) := rfl
theorem st_cI (x y : Int) : Qae 0 (cI x) (cI y) = some (cI x) := rfl
theorem st_cIn (x : Int) (u v : A) : Qae 0 (cI x) [u, v] = some (cI x) := rfl
theorem ad_cI (x : Int) : allD (cI x) = some [.v (.bool (decide (x < 0))), dg (digs x.natAbs)] := rfl
theorem ag_encI (x : Int) : aggA (.d (encI x)) = some [.v (.bool (decide (x < 0))), dg (digs x.natAbs)] := rfl
theorem zero_agg : D.agg [.v (.bool false), .z true] = encI 0 := by
 rw [encI, show (0 : Int).natAbs = 0 from rfl, QaB]; rfl
attribute [go_sem] one_encI Qua dc_encI all_cI len_cI refs_cI ld_cI ld_cI0 ld_cI1 st_cI st_cIn ad_cI ag_encI
end Go.AM

/- integer.Small, ref04.Small. -/
namespace Go.AM
open Go Go.RowKit

def au (u : Int) : A := .d (.v (.int .u64 u))
attribute [go_sem] au
theorem Qkb (l : List Int) (i : Nat) (h : i < l.length) : val (l.drop i) = l.getD i 0 + 1000000000 * val (l.drop (i + 1)) := by
 rw [List.drop_eq_getElem_cons h, val]
 simp [List.getD, h]
theorem QmI {l : List Int} (hd : Dig l) : ∀ i, val (l.drop i) ≤ val l
 | 0 => by rw [List.drop_zero]; exact Int.le_refl _
 | i + 1 => by
  have ih := QmI hd i
  by_cases h : i < l.length
  ·rw [Qkb l i h] at ih
   have := hd.getD i
   have h2 := QaJ (hd.drop (i + 1))
   omega
  ·have h3 := QaJ hd
   rw [List.drop_eq_nil_of_le (by omega)]
   exact h3
theorem ubt_ : A.bool? (.d (.v (.tuple #[]))) = none := rfl
def smb (x : Int) : Bool := decide (-9223372036854775808 ≤ x ∧ x < 9223372036854775808)
def smv (x : Int) : Int := if -9223372036854775808 ≤ x ∧ x < 9223372036854775808 then x else 0
theorem smb_t {x : Int} (h : I64 x) : smb x = true ∧ smv x = x := ⟨decide_eq_true h, if_pos h⟩
theorem smb_f {x : Int} (h : ¬ I64 x) : smb x = false ∧ smv x = 0 := ⟨decide_eq_false h, if_neg h⟩
variable [Its]

section
variable {x : Int} {l : List Int} (hl : digs x.natAbs = l)
end

end Go.AM

/- ref04.Small. -/
namespace Go.AM
open Go Go.RowKit

theorem sgn_gt {a : Int} : decide (Int.sign a > 0) = decide (0 < a) := by
 apply decide_eq_decide.2
 rcases Int.lt_trichotomy a 0 with h | h | h
 ·rw [Int.sign_eq_neg_one_of_neg h]; omega
 ·subst h; simp
 ·rw [Int.sign_eq_one_of_pos h]; omega
theorem sgn_lt {a : Int} : decide (Int.sign a < 0) = decide (a < 0) := by
 apply decide_eq_decide.2
 rcases Int.lt_trichotomy a 0 with h | h | h
 ·rw [Int.sign_eq_neg_one_of_neg h]; omega
 ·subst h; simp
 ·rw [Int.sign_eq_one_of_pos h]; omega
theorem sgn_le {a : Int} : decide (Int.sign a ≤ 0) = decide (a ≤ 0) := by
 apply decide_eq_decide.2
 rcases Int.lt_trichotomy a 0 with h | h | h
 ·rw [Int.sign_eq_neg_one_of_neg h]; omega
 ·subst h; simp
 ·rw [Int.sign_eq_one_of_pos h]; omega
theorem sgn_eq {a : Int} : (Int.sign a == 0) = decide (a = 0) := by
 by_cases h : a = 0
 ·subst h; rfl
 ·rw [decide_eq_false h]
  refine Qds fun h1 => h (Int.sign_eq_zero_iff_zero.1 h1)
variable [Its]
section
variable {x : Int} {l : List Int}
def Qk8 (x u i : Int) : St := mkS [(1, .ptr [1] 0), (4, ai u), (5, ai i)] [([1], bI x)]
def QrG (u : Int) : St := mkS [(4, ai u)] []
theorem rsm_stop (u : Int) : X G Qbt (Qk8 x u (-1)) = some (.x 0, QrG u) := by
 have e1 : decide ((-1 : Int) ≥ 0) = false := rfl
 simp -implicitDefEqProofs (maxSteps:=9^8) only [Qbt, Qk8, QrG, bI, e1, go_sem, reduceCtorEq, ↓reduceIte, Nat.reduceEqDiff, iv]
theorem rsm_go (hl : digs x.natAbs = l) (hx : I64 x) {i : Nat} (hi : i < l.length) (h3 : l.length ≤ 1000) : X G Qbt (Qk8 x (sgn (decide (x < 0)) (val (l.drop (i + 1)))) i) = some (.n, Qk8 x (sgn (decide (x < 0)) (val (l.drop i))) ((i : Int) - 1)) := by
 have hd : Dig l := hl ▸ Qaq _
 have hv : val l = x.natAbs := hl ▸ Qaz _
 have e1 : decide ((i : Int) ≥ 0) = true := ge_t (by omega)
 have e2 : w64 ((i : Int) - 1) = (i : Int) - 1 := Qad (by omega) (by omega)
 have x1 := (Rw.dg l).ixn hi
 have x2 := fun h => ldv h l hi
 have h0 := QaJ (hd.drop (i + 1))
 have h1 := hd.getD i
 have h2 := Qkb l i hi
 have h4 := QmI hd i
 have h5 : val (l.drop i) = val (l.drop (i + 1)) * 1000000000 + l.getD i 0 := by omega
 obtain ⟨h6, h7⟩ := hx
 rw [h5]
 generalize val (l.drop (i + 1)) = u at *
 generalize l.getD i 0 = d at *
 by_cases hs : x < 0
 ·have s1 : decide (x < 0) = true := lt_t hs
  have e3 : w64 (-u * 1000000000) = -(u * 1000000000) := by rw [Qad (by omega) (by omega)]; omega
  have e5 : w64 (-(u * 1000000000) - d) = -(u * 1000000000 + d) := by rw [Qad (by omega) (by omega)]; omega
  simp -implicitDefEqProofs (maxSteps:=9^8) only [Qbt, Qk8, bI, sgn, hl, x1, x2, e1, e2, e3, e5, s1, go_sem, reduceCtorEq, ↓reduceIte, Nat.reduceEqDiff, iv]
 ·have s1 : decide (x < 0) = false := lt_f hs
  have e3 : w64 (u * 1000000000) = u * 1000000000 := Qad (by omega) (by omega)
  have e5 : w64 (u * 1000000000 + d) = u * 1000000000 + d := Qad (by omega) (by omega)
  simp -implicitDefEqProofs (maxSteps:=9^8) only [Qbt, Qk8, bI, sgn, hl, x1, x2, e1, e2, e3, e5, s1, go_sem, reduceCtorEq, ↓reduceIte, Nat.reduceEqDiff, iv]
theorem Qsk (hl : digs x.natAbs = l) (hx : I64 x) (h3 : l.length ≤ 1000) : ∀ i : Nat, i ≤ l.length → X G (.loop Qbt) (Qk8 x (sgn (decide (x < 0)) (val (l.drop i))) ((i : Int) - 1)) = some (.x 0, QrG x)
 | 0, _ => by
  have e : sgn (decide (x < 0)) (val (l.drop 0)) = x := by
   rw [List.drop_zero, show val l = x.natAbs from hl ▸ Qaz _]
   by_cases hs : x < 0
   ·rw [lt_t hs]; simp only [sgn, if_true]; omega
   ·rw [lt_f hs]; simp only [sgn, Bool.false_eq_true, if_false]; omega
  rw [Qag, show ((0 : Nat) : Int) - 1 = -1 from rfl, rsm_stop, e]; rfl
 | i + 1, h => by
  rw [Qag, show ((i + 1 : Nat) : Int) - 1 = (i : Int) by omega, rsm_go hl hx (by omega) h3, Option.bind_some, if_pos rfl]
  exact Qsk hl hx h3 i (by omega)
end
theorem Qrb {x : Int} (hx : nd x ≤ 1000000000000) : Qah G QgS [encI x] = some (.d (.tup [iv (smv x), bv (smb x)])) := by
 rw [Qac (cf := Qc6) rfl]
 have g1 := Qex (n := 9223372036854775807) ⟨by omega, by omega⟩
 have g2 := Qex (n := -9223372036854775808) ⟨by omega, by omega⟩
 have g3 := QcT (x := x) (y := 9223372036854775807) hx (Nat.le_trans (QeJ ⟨by omega, by omega⟩) (by omega))
 have g4 := QcT (x := x) (y := -9223372036854775808) hx (Nat.le_trans (QeJ ⟨by omega, by omega⟩) (by omega))
 simp only [iv] at g1 g2 g3 g4
 have c1 := sgn_gt (a := x - 9223372036854775807)
 have c2 := sgn_lt (a := x - -9223372036854775808)
 generalize Int.sign (x - 9223372036854775807) = s1 at *
 generalize Int.sign (x - -9223372036854775808) = s2 at *
 by_cases h1 : 0 < x - 9223372036854775807
 ·rw [gt_t h1] at c1
  obtain ⟨b1, b2⟩ := smb_f (x := x) (fun h => by have := h.2; omega)
  simp -implicitDefEqProofs (maxSteps:=9^8) only [Qc6, bI, g1, g2, g3, g4, c1, b1, b2, toDs, ubt_, go_sem, reduceCtorEq, ↓reduceIte, Nat.reduceEqDiff, iv, bv]
 rw [gt_f h1] at c1
 by_cases h2 : x - -9223372036854775808 < 0
 ·rw [lt_t h2] at c2
  obtain ⟨b1, b2⟩ := smb_f (x := x) (fun h => by have := h.1; omega)
  simp -implicitDefEqProofs (maxSteps:=9^8) only [Qc6, bI, g1, g2, g3, g4, c1, c2, b1, b2, toDs, ubt_, go_sem, reduceCtorEq, ↓reduceIte, Nat.reduceEqDiff, iv, bv]
 rw [lt_f h2] at c2
 have hI : I64 x := ⟨by omega, by omega⟩
 obtain ⟨b1, b2⟩ := smb_t hI
 obtain ⟨l, hl⟩ : ∃ l, digs x.natAbs = l := ⟨_, rfl⟩
 have h3 : l.length ≤ 3 := by rw [← hl]; exact QeJ hI
 have ll := QaM l
 have e2 : w64 ((l.length : Int) - 1) = (l.length : Int) - 1 := Qad (by omega) (by omega)
 have hlp := Qsk hl hI (by omega) l.length (Nat.le_refl _)
 have e0 : sgn (decide (x < 0)) 0 = 0 := by cases decide (x < 0) <;> rfl
 rw [List.drop_length, val, e0] at hlp
 simp only [Qk8, QrG, bI, go_sem] at hlp
 simp -implicitDefEqProofs (maxSteps:=9^8) only [Qc6, bI, g1, g2, g3, g4, c1, c2, b1, b2, hl, ll, e2, hlp, toDs, ubt_, go_sem, reduceCtorEq, ↓reduceIte, Nat.reduceEqDiff, iv, bv]
end Go.AM

/- Square roots of whole numbers: Newton's step, and halving. -/
namespace Go.AM

def IsRt (s x : Int) : Prop := 0 ≤ s ∧ s * s ≤ x ∧ x < (s + 1) * (s + 1)
theorem Qq5 {a b : Int} (ha : 0 ≤ a) (h : a ≤ b) : a * a ≤ b * b := Int.mul_le_mul h h ha (by omega)
theorem rt_le {s x t : Int} (h : IsRt s x) (ht : 0 ≤ t) (h2 : t * t ≤ x) : t ≤ s := by
 obtain ⟨h0, _, h1⟩ := h
 by_cases hc : t ≤ s
 ·exact hc
 ·have := Qq5 (a := s + 1) (b := t) (by omega) (by omega)
  omega
theorem rt_gt {s x t : Int} (h : IsRt s x) (ht : 0 ≤ t) (h2 : x < t * t) : s < t := by
 obtain ⟨h0, h1, _⟩ := h
 by_cases hc : s < t
 ·exact hc
 ·have := Qq5 (a := t) (b := s) (by omega) (by omega)
  omega
theorem rt_uniq {s t x : Int} (h : IsRt s x) (k : IsRt t x) : s = t := by
 have h1 := rt_le h k.1 k.2.1
 have h2 := rt_le k h.1 h.2.1
 omega
theorem half_lt {lo hi : Int} (h : lo + 1 < hi) : lo < (lo + hi) / 2 ∧ (lo + hi) / 2 < hi := by omega
end Go.AM

/- integer.Root, ref04.Root. -/
namespace Go.AM
open Go Go.RowKit

theorem nd_ediv2 {x r : Int} : nd (x / r) ≤ nd x := QiN (by
 rcases Int.lt_trichotomy r 0 with h | h | h
 ·exact Int.natAbs_ediv_le_natAbs _ _
 ·subst h; simp
 ·exact Int.natAbs_ediv_le_natAbs _ _)
theorem Qor {x y : Int} (h0 : 0 ≤ x) (h : x ≤ y) : nd x ≤ nd y := QiN (by omega)
theorem val_lead (m : Nat) : val (List.replicate m 0 ++ [1]) = (1000000000 : Int) ^ m := by
 rw [Qgx, Qe4, List.length_replicate]
 simp [val]
theorem dig_one (m : Nat) : Dig (List.replicate m 0 ++ [1]) := by
 rw [Dig.append]
 exact ⟨Dig.replicate m, fun d hd => by simp at hd; omega⟩
theorem two_ne : ((2 : Int) = 0) = False := by simp
variable [Its]
end Go.AM

/- ref04.Root. -/
namespace Go.AM
open Go Go.RowKit
theorem nd_1 : nd 1 ≤ 3 := QeJ ⟨by omega, by omega⟩
theorem nd_2 : nd 2 ≤ 3 := QeJ ⟨by omega, by omega⟩
variable [Its]
def Qpb (x lo hi : Int) : St := mkS [(1, .ptr [1] 0), (2, .ptr [2] 0), (4, .ptr [4] 0), (5, .ptr [5] 0), (6, .ptr [6] 0), (7, .ptr [7] 0)] [([1], bI x), ([2], box0), ([4], bI lo), ([5], bI hi), ([6], bI 1), ([7], bI 2)]
def QtI (x lo : Int) : St := mkS [(1, .ptr [1] 0), (2, .ptr [2] 0), (4, .ptr [4] 0)] [([1], bI x), ([2], box0), ([4], bI lo)]
theorem rr_stop {x lo hi : Int} (h : ¬ lo + 1 < hi) (hk : nd lo ≤ 100000000000) (hk2 : nd hi ≤ 100000000000) : X G QbH (Qpb x lo hi) = some (.x 0, QtI x lo) := by
 have g1 := QiK (x := lo) (y := 1) (by omega) (Nat.le_trans nd_1 (by omega))
 have n1 := Qnf (x := lo) (y := 1) (k := 100000000000) hk (Nat.le_trans nd_1 (by omega))
 have g2 := QcT (x := lo + 1) (y := hi) (by omega) (by omega)
 have c := sgn_lt (a := lo + 1 - hi)
 rw [show decide (lo + 1 - hi < 0) = false from decide_eq_false (by omega)] at c
 generalize Int.sign (lo + 1 - hi) = s at *
 generalize lo + 1 = t at *
 simp only [iv] at g2
 simp -implicitDefEqProofs (maxSteps:=9^8) only [QbH, Qpb, QtI, box0, bI, g1, g2, c, extA, go_sem, reduceCtorEq, ↓reduceIte, Nat.reduceEqDiff, iv]
theorem rr_go {x lo hi : Int} (h : lo + 1 < hi) (h0 : 0 ≤ lo) (hx : nd x ≤ 100000000000) (hk : nd lo ≤ 100000000000) (hk2 : nd hi ≤ 100000000000) :
    X G QbH (Qpb x lo hi) = some (.n, if (lo + hi) / 2 * ((lo + hi) / 2) ≤ x then Qpb x ((lo + hi) / 2) hi else Qpb x lo ((lo + hi) / 2)) := by
  have g1 := QiK (x := lo) (y := 1) (by omega) (Nat.le_trans nd_1 (by omega))
  have n1 := Qnf (x := lo) (y := 1) (k := 100000000000) hk (Nat.le_trans nd_1 (by omega))
  have g2 := QcT (x := lo + 1) (y := hi) (by omega) (by omega)
  have c := sgn_lt (a := lo + 1 - hi)
  rw [show decide (lo + 1 - hi < 0) = true from decide_eq_true (by omega)] at c
  have g3 := QiK (x := lo) (y := hi) (by omega) (by omega)
  have n2 := Qnf (x := lo) (y := hi) (k := 100000000000) hk hk2
  have g4 := QjP (x := lo + hi) (y := 2) (by omega) (by omega) (Nat.le_trans nd_2 (by omega))
  have n3 := nd_ediv2 (x := lo + hi) (r := 2)
  generalize (lo + hi) % 2 = m2 at *
  obtain ⟨mid, hmid⟩ : ∃ mid, (lo + hi) / 2 = mid := ⟨_, rfl⟩
  rw [hmid] at g4 n3 ⊢
  have g5 := Qdw (x := mid) (y := mid) (by omega) (by omega)
  have n4 := Qde (x := mid) (y := mid)
  have g6 := QcT (x := mid * mid) (y := x) (by omega) (by omega)
  have d := sgn_le (a := mid * mid - x)
  simp only [iv] at g2 g6
  clear n1 n2 n3 n4 hmid
  generalize Int.sign (lo + 1 - hi) = s at *
  generalize Int.sign (mid * mid - x) = s2 at *
  generalize lo + 1 = t at *
  generalize lo + hi = u at *
  generalize mid * mid = mm at *
  by_cases hc : mm ≤ x
  · rw [show decide (mm - x ≤ 0) = true from decide_eq_true (by omega)] at d
    rw [if_pos hc]
    simp -implicitDefEqProofs (maxSteps:=9^8) only [QbH, Qpb, QtI, box0, bI, g1, g2, g3, g4, g5, g6, c, d, extA, go_sem, reduceCtorEq, ↓reduceIte, Nat.reduceEqDiff, iv]
  · rw [show decide (mm - x ≤ 0) = false from decide_eq_false (by omega)] at d
    rw [if_neg hc]
    simp -implicitDefEqProofs (maxSteps:=9^8) only [QbH, Qpb, QtI, box0, bI, g1, g2, g3, g4, g5, g6, c, d, extA, go_sem, reduceCtorEq, ↓reduceIte, Nat.reduceEqDiff, iv]
theorem QqC {x s : Int} (hx : nd x ≤ 100000000000) (hs : IsRt s x) : ∀ (n : Nat) (lo hi : Int), (hi - lo).toNat ≤ n → 0 ≤ lo → lo < hi → lo * lo ≤ x → x < hi * hi → nd hi ≤ 100000000000 → X G (.loop QbH) (Qpb x lo hi) = some (.x 0, QtI x s)
  | n, lo, hi, hn, h0, h1, h2, h3, hk => by
    rw [Qag]
    have hl : nd lo ≤ 100000000000 := Nat.le_trans (Qor h0 (by omega)) hk
    by_cases h : lo + 1 < hi
    · obtain ⟨a, b⟩ := half_lt h
      rw [rr_go h h0 hx hl hk, Option.bind_some, if_pos rfl]
      generalize (lo + hi) / 2 = mid at *
      cases n with
      | zero => omega
      | succ n =>
        by_cases hc : mid * mid ≤ x
        · rw [if_pos hc]
          exact QqC hx hs n mid hi (by omega) (by omega) b hc h3 hk
        · rw [if_neg hc]
          exact QqC hx hs n lo mid (by omega) h0 a h2 (by omega) (Nat.le_trans (Qor (by omega) (by omega)) hk)
    · have e : s = lo := rt_uniq hs ⟨h0, h2, by
        have : hi = lo + 1 := by omega
        rw [← this]; exact h3⟩
      subst e
      rw [rr_stop h hl hk]
      rfl
theorem QtC {x s : Int} (hx : nd x ≤ 10000000000) (h0 : 0 ≤ x) (hs : IsRt s x) : Qah G Qhg [encI x] = some (.d (.tup [encI s, bv (decide (s * s = x))])) := by
 rw [Qac (cf := Qgc) rfl]
 obtain ⟨l, hl⟩ : ∃ l, digs x.natAbs = l := ⟨_, rfl⟩
 have ll := QaM l
 have s1 : decide (x < 0) = false := lt_f (by omega)
 have hn : l.length ≤ 10000000000 := by rw [← hl]; exact hx
 obtain ⟨m, hm⟩ : ∃ m, l.length / 2 + 1 = m := ⟨_, rfl⟩
 have e2 : w64 ((l.length : Int).tdiv 2) = ((l.length / 2 : Nat) : Int) := by
  rw [Qed (by omega)]
  exact Qad (by omega) (by omega)
 have e3 : w64 (((l.length / 2 : Nat) : Int) + 1) = (m : Int) := by
  rw [← hm]
  exact Qad (by omega) (by omega)
 have e4 := bnd m (by omega)
 have o1 := Qbq false (Rw.row (List.replicate m 0 ++ [1])) (by simp; omega) (dig_one m)
 rw [val_lead] at o1
 have hdr : (digs x.natAbs).length ≤ m + m := by rw [hl]; omega
 have hlt : x < (1000000000 : Int) ^ m * (1000000000 : Int) ^ m := by
  have h1 := QdP x
  have h2 : x.natAbs < 1000000000 ^ (m + m) := Nat.lt_of_lt_of_le h1 (QmE hdr)
  rw [← Int.pow_add]
  have h4 : ((1000000000 ^ (m + m) : Nat) : Int) = (1000000000 : Int) ^ (m + m) := by simp
  rw [← h4]; omega
 have hk : nd ((1000000000 : Int) ^ m) ≤ m + 1 := Qrn (by
  have h4 : ((1000000000 : Int) ^ m).natAbs = 1000000000 ^ m := by rw [Int.natAbs_pow]; rfl
  rw [h4]
  exact Nat.pow_lt_pow_right (by omega) (by omega))
 have hlp := QqC (Nat.le_trans hx (by omega)) hs _ 0 ((1000000000 : Int) ^ m) (Nat.le_refl _) (by omega) (QcP m) (by simpa using h0) hlt (by omega)
 have hss : sgn false ((1000000000 : Int) ^ m) = (1000000000 : Int) ^ m := rfl
 rw [hss] at o1
 have hsR : s < (1000000000 : Int) ^ m := rt_gt hs (Int.le_of_lt (QcP m)) hlt
 generalize (1000000000 : Int) ^ m = R at *
 have ns : nd s ≤ 10000000000 := Nat.le_trans (Qor hs.1 (Int.le_of_lt hsR)) (by omega)
 have g1 := Qdw (x := s) (y := s) (by omega) (by omega)
 have n2 := Qde (x := s) (y := s)
 have g2 := QcT (x := s * s) (y := x) (by omega) (by omega)
 have g3 := Qex (n := 1) ⟨by omega, by omega⟩
 have g4 := Qex (n := 2) ⟨by omega, by omega⟩
 have c := sgn_eq (a := s * s - x)
 have c2 : decide (s * s - x = 0) = decide (s * s = x) := decide_eq_decide.2 (by omega)
 rw [c2] at c
 clear hlt hsR
 generalize s * s = ss at *
 generalize Int.sign (ss - x) = sg at *
 simp only [iv, bv, rowI, List.length_append, List.length_replicate, List.length_cons, List.length_nil, List.map_append, List.map_cons, List.map_nil, Nat.zero_add] at o1 g2 g3 g4
 simp only [Qpb, QtI, box0, bI, go_sem] at hlp
 have f1 := Qj5 m
 have f2 := Qca (List.replicate m 0)
 have f3 : (QbL (List.replicate m 0)).length = m := by rw [Qai, List.length_replicate]
 have f4 : (m + 1) * 8 ≤ bound := by simp only [bound]; omega
 have f5 : List.all [D.v (.int .i64 1)] D.one = true := rfl
 have z1 := zero_agg
 simp -implicitDefEqProofs (maxSteps:=9^8) only [Qgc, bI, hl, ll, s1, e2, e3, e4, two_ne, f1, f2, f3, f4, f5, o1, g1, g2, g3, g4, z1, hlp, c, QfF, toDs, go_sem, reduceCtorEq, ↓reduceIte, Nat.reduceEqDiff, iv, bv]
end Go.AM

