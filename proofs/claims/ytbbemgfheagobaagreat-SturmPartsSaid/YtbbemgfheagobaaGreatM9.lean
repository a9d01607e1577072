/- Part 9 of the proof: a small machine, its soundness against the model, and what the program's functions compute on it. -/
import Derived.Test.YtbbemgfheagobaaGreatM8
import Derived.Test.YtbbemgfheagobaaGreatM7
import Derived.Test.YtbbemgfheagobaaGreatM3
set_option linter.unusedVariables false
set_option linter.unusedSimpArgs false
/- Divisors of polynomials: the common divisor is a combination, the part without squares. -/
namespace Go.AM
open Go Go.RowKit

def Dv (q p : List Rat) : Prop := ∃ s : List Rat, ∀ x, evR p x = evR s x * evR q x
theorem QbC (c x : Rat) : evR [c] x = c := by
 show (0 : Rat) * x + c = c
 rw [Rat.zero_mul, Rat.zero_add]
theorem Dv.refl (p : List Rat) : Dv p p := ⟨[1], fun x => by rw [QbC, Rat.one_mul]⟩
theorem Dv.nil (p : List Rat) : Dv p [] := ⟨[], fun x => by rw [QaG, Rat.zero_mul]⟩
theorem Dv.one (p : List Rat) : Dv [1] p := ⟨p, fun x => by rw [QbC, Rat.mul_one]⟩
theorem Dv.trans {a b c : List Rat} (h : Dv a b) (k : Dv b c) : Dv a c := by
 obtain ⟨s, hs⟩ := h
 obtain ⟨t, ht⟩ := k
 exact ⟨muP t s, fun x => by rw [Qaq, ht, hs, Rat.mul_assoc]⟩
theorem Dv.comb {q a b c u v : List Rat} (h : Dv q a) (k : Dv q b) (hc : ∀ x, evR c x = evR u x * evR a x + evR v x * evR b x) : Dv q c := by
 obtain ⟨s, hs⟩ := h
 obtain ⟨t, ht⟩ := k
 refine ⟨adP (muP u s) (muP v t), fun x => ?_⟩
 rw [Qkl, Qaq, Qaq, hc, hs, ht]
 generalize evR u x = a1; generalize evR v x = a2; generalize evR s x = a3; generalize evR t x = a4; generalize evR q x = a5
 grind
theorem Dv.mul_l {q a : List Rat} (h : Dv q a) (b : List Rat) : Dv q (muP b a) := by
 obtain ⟨s, hs⟩ := h
 exact ⟨muP b s, fun x => by rw [Qaq, Qaq, hs, Rat.mul_assoc]⟩
theorem QjB {l : List Rat} (hl : Trm l) (h : ∀ x, evR l x = 0) : l = [] := QfK hl Qg3 (fun x => by rw [h, QaG])
theorem ev_ne {l : List Rat} (hl : Trm l) (h : l ≠ []) : ∃ x, evR l x ≠ 0 := Classical.byContradiction fun hn => h (QjB hl fun x => Classical.byContradiction fun hx => hn ⟨x, hx⟩)
theorem QjC {a b : List Rat} (ha : Trm a) (hb : Trm b) (na : a ≠ []) (nb : b ≠ []) : (muP a b).length = a.length + b.length - 1 := by
 have h1 := List.length_pos_iff.2 na
 have h2 := List.length_pos_iff.2 nb
 have h3 : (muP a b).getD (a.length - 1 + (b.length - 1)) 0 ≠ 0 := by
  rw [QmQ, QkL h1 h2]
  intro h0
  rcases Rat.mul_eq_zero.1 h0 with h4 | h4
  ·exact Qdq ha na h4
  ·exact Qdq hb nb h4
 have := Qld h3
 have := Ql0 a b
 omega
theorem Qpm {a b : List Rat} (h : ∀ x, evR a x * evR b x = 0) : (∀ x, evR a x = 0) ∨ (∀ x, evR b x = 0) := by
 by_cases ha : QaS a = []
 ·exact .inl fun x => by rw [← Qa0, ha, QaG]
 ·by_cases hb : QaS b = []
  ·exact .inr fun x => by rw [← Qa0, hb, QaG]
  ·have h1 := QjC (Qbr a) (Qbr b) ha hb
   have h2 : muP (QaS a) (QaS b) = [] := QjB (Qd1 _ _) fun x => by rw [Qaq, Qa0, Qa0, h]
   have h3 := List.length_pos_iff.2 ha
   have h4 := List.length_pos_iff.2 hb
   rw [h2] at h1
   simp only [List.length_nil] at h1
   omega
theorem Qfp {a b c : List Rat} (hc : ∃ x, evR c x ≠ 0) (h : ∀ x, evR a x * evR c x = evR b x * evR c x) (x : Rat) : evR a x = evR b x := by
 rcases Qpm (a := sbP a b) (b := c) (fun x => by rw [QmC]; have := h x; generalize evR a x = u at *; generalize evR b x = v at *; generalize evR c x = w at *; grind) with h1 | h1
 ·have := h1 x
  rw [QmC] at this
  generalize evR a x = u at *; generalize evR b x = v at *
  grind
 ·obtain ⟨y, hy⟩ := hc
  exact absurd (h1 y) hy
theorem Qii {p : List Rat} (tp : Trm p) (h : Dv [] p) : p = [] := by
 obtain ⟨s, hs⟩ := h
 exact QjB tp fun x => by rw [hs, QaG, Rat.mul_zero]
theorem Qh7 {q p : List Rat} (tq : Trm q) (tp : Trm p) (np : p ≠ []) (h : Dv q p) : ∃ s, Trm s ∧ s ≠ [] ∧ q ≠ [] ∧ p = muP s q ∧ p.length = s.length + q.length - 1 := by
 have nq : q ≠ [] := fun h0 => np (Qii tp (h0 ▸ h))
 obtain ⟨s, hs⟩ := h
 have e : p = muP (QaS s) q := QfK tp (Qd1 _ _) fun x => by rw [hs, Qaq, Qa0]
 have ns : QaS s ≠ [] := fun h0 => np (QjB tp fun x => by rw [hs, ← Qa0 s, h0, QaG, Rat.zero_mul])
 exact ⟨QaS s, Qbr _, ns, nq, e, by rw [e]; exact QjC (Qbr _) tq ns nq⟩
theorem Qdl {q p : List Rat} (tq : Trm q) (tp : Trm p) (np : p ≠ []) (h : Dv q p) : q.length ≤ p.length := by
 obtain ⟨s, _, ns, _, _, hl⟩ := Qh7 tq tp np h
 have := List.length_pos_iff.2 ns
 omega
theorem Qo0 {q p : List Rat} (tq : Trm q) (nq : q ≠ []) (h : Dv q p) : remP p q = [] ∧ ∀ x, evR p x = evR (quoP p q) x * evR q x := by
 obtain ⟨h1, h2, h3, h4⟩ := QjD (p := p) tq nq
 obtain ⟨s, hs⟩ := h
 have hr : remP p q = [] := (div_uniq tq nq h3 (Qbr s) h4 Qg3 h2 (by simp) (fun x => by rw [← h1, Qa0, hs, QaG, Rat.add_zero])).2
 exact ⟨hr, fun x => by rw [h1, hr, QaG, Rat.add_zero]⟩

def Mo (l : List Rat) : Prop := l = [] ∨ l.getD (l.length - 1) 0 = 1
theorem mo_one : Mo [1] := .inr rfl
theorem Qjx : Trm [1] := fun n h => by
 have : n = 0 := by simpa using h.symm
 subst this
 show (1 : Rat) ≠ 0
 decide
theorem QnA {l : List Rat} (tl : Trm l) : Mo (mnP l) := by
 by_cases h : l = []
 ·subst h; exact .inl rfl
 ·refine .inr ?_
  rw [QeK tl, mn_getD h, Rat.div_def, Rat.one_mul, Rat.mul_inv_cancel _ (Qdq tl h)]
theorem ev_mn {l : List Rat} (h : l ≠ []) (x : Rat) : evR (mnP l) x = evR l x * (1 / l.getD (l.length - 1) 0) := by rw [mnP, if_neg h, Qh1]
theorem Qp3 {l : List Rat} : Dv l (mnP l) := by
 by_cases h : l = []
 ·subst h; exact Dv.nil _
 ·exact ⟨[1 / l.getD (l.length - 1) 0], fun x => by rw [ev_mn h, QbC, Rat.mul_comm]⟩
theorem QmW {l : List Rat} (tl : Trm l) : Dv (mnP l) l := by
 by_cases h : l = []
 ·subst h; exact Dv.nil _
 ·refine ⟨[l.getD (l.length - 1) 0], fun x => ?_⟩
  have h1 := Qdq tl h
  rw [ev_mn h, QbC]
  generalize l.getD (l.length - 1) 0 = c at *
  rw [Rat.div_def, Rat.one_mul, Rat.mul_comm (evR l x), ← Rat.mul_assoc, Rat.mul_inv_cancel _ h1, Rat.one_mul]
theorem mn_ne {l : List Rat} (tl : Trm l) (h : l ≠ []) : mnP l ≠ [] := fun h0 => h (by
 have := QeK tl
 rw [h0] at this
 exact List.length_eq_zero_iff.1 this.symm)
theorem Qk0 {a b : List Rat} (ta : Trm a) (tb : Trm b) (ma : Mo a) (mb : Mo b) (h1 : Dv a b) (h2 : Dv b a) : a = b := by
 by_cases na : a = []
 ·subst na; exact (Qii tb h1).symm
 ·have nb : b ≠ [] := fun h0 => na (Qii ta (h0 ▸ h2))
  have l2 := Qdl tb ta na h2
  obtain ⟨s, ts, ns, _, e, hl⟩ := Qh7 ta tb nb h1
  have p1 := List.length_pos_iff.2 ns
  have p2 := List.length_pos_iff.2 na
  have hs : s.length = 1 := by omega
  have hab : b.length - 1 = s.length - 1 + (a.length - 1) := by omega
  have hc : s.getD (s.length - 1) 0 = 1 := by
   have c1 := mb.resolve_left nb
   rw [hab] at c1
   rw [e, QmQ, QkL p1 p2, ma.resolve_left na, Rat.mul_one] at c1
   exact c1
  obtain ⟨c, rfl⟩ : ∃ c, s = [c] := List.length_eq_one_iff.1 hs
  have hc1 : c = 1 := hc
  subst hc1
  refine QfK ta tb fun x => ?_
  rw [e, Qaq, QbC, Rat.one_mul]
theorem Qgc {a : List Rat} (ma : Mo a) (h : a.length = 1) : a = [1] := by
  obtain ⟨c, rfl⟩ : ∃ c, a = [c] := List.length_eq_one_iff.1 h
  rcases ma with h1 | h1
  · cases h1
  · have : c = 1 := h1
    rw [this]

/-! ### The common divisor -/
theorem gc_bez : ∀ (n : Nat) (a b : List Rat), Trm a → Trm b → b.length < n → (∃ u v, ∀ x, evR (gcP n a b) x = evR u x * evR a x + evR v x * evR b x) ∧ Dv (gcP n a b) a ∧ Dv (gcP n a b) b
 | 0, _, _, _, _, h => by omega
 | n + 1, a, b, ta, tb, h => by
  rw [gcP]
  by_cases hb : b = []
  ·rw [if_pos hb]
   subst hb
   exact ⟨⟨[1], [], fun x => by rw [QbC, QaG, Rat.one_mul, Rat.zero_mul, Rat.add_zero]⟩, Dv.refl _, Dv.nil _⟩
  ·rw [if_neg hb]
   obtain ⟨q1, q2, q3, q4⟩ := QjD (p := a) tb hb
   have hp := List.length_pos_iff.2 hb
   obtain ⟨⟨u, v, i1⟩, i2, i3⟩ := gc_bez n b (mnP (remP a b)) tb (Qfg _) (by have := QeK q4; omega)
   generalize gcP n b (mnP (remP a b)) = g at *
   have i4 : Dv g (remP a b) := i3.trans (QmW q4)
   obtain ⟨s, hs⟩ := Qp3 (l := remP a b)
   refine ⟨⟨muP v s, sbP u (muP (muP v s) (quoP a b)), fun x => ?_⟩, i2.comb i4 (u := quoP a b) (v := [1]) (fun x => by rw [QbC, Rat.one_mul]; exact q1 x), i2⟩
   rw [i1, hs, QmC, Qaq, Qaq, Qaq, q1]
   generalize evR u x = a1; generalize evR v x = a2; generalize evR s x = a3; generalize evR b x = a4; generalize evR (quoP a b) x = a5; generalize evR (remP a b) x = a6
   grind
theorem trm_gcP : ∀ (n : Nat) (a b : List Rat), Trm a → Trm b → Trm (gcP n a b)
 | 0, _, _, ha, _ => ha
 | n + 1, a, b, ha, hb => by
  rw [gcP]
  split
  ·exact ha
  ·exact trm_gcP n b _ hb (Qfg _)
theorem mo_gcP : ∀ (n : Nat) (a b : List Rat), Mo a → Mo b → Mo (gcP n a b)
 | 0, _, _, ha, _ => ha
 | n + 1, a, b, ha, hb => by
  rw [gcP]
  split
  ·exact ha
  ·exact mo_gcP n b _ hb (QnA (trm_dv _ _))
section
variable {p q : List Rat}
theorem Qcu (tp : Trm p) (tq : Trm q) : (∃ u v, ∀ x, evR (gcdP p q) x = evR u x * evR p x + evR v x * evR q x) ∧ Dv (gcdP p q) p ∧ Dv (gcdP p q) q := by
 obtain ⟨⟨u, v, h1⟩, h2, h3⟩ := gc_bez (q.length + 1) (mnP p) (mnP q) (Qfg _) (Qfg _) (by have := QeK tq; omega)
 obtain ⟨s, hs⟩ := Qp3 (l := p)
 obtain ⟨t, ht⟩ := Qp3 (l := q)
 refine ⟨⟨muP u s, muP v t, fun x => ?_⟩, h2.trans (QmW tp), h3.trans (QmW tq)⟩
 show evR (gcP _ _ _) x = _
 rw [h1, hs, ht, Qaq, Qaq, Rat.mul_assoc, Rat.mul_assoc]
theorem Qde : Trm (gcdP p q) := trm_gcP _ _ _ (Qfg _) (Qfg _)
theorem Qjf (tp : Trm p) (tq : Trm q) : Mo (gcdP p q) := mo_gcP _ _ _ (QnA tp) (QnA tq)
theorem gcd_is (tp : Trm p) (tq : Trm q) {g : List Rat} (tg : Trm g) (mg : Mo g) (h1 : Dv g p) (h2 : Dv g q) {u v : List Rat} (hb : ∀ x, evR g x = evR u x * evR p x + evR v x * evR q x) : gcdP p q = g := by
 obtain ⟨⟨a, b, k1⟩, k2, k3⟩ := Qcu tp tq
 exact Qk0 Qde tg (Qjf tp tq) mg (k2.comb k3 hb) (h1.comb h2 k1)
theorem Qjb (tp : Trm p) (tq : Trm q) (h : p ≠ [] ∨ q ≠ []) : gcdP p q ≠ [] := fun h0 => by
 obtain ⟨_, k2, k3⟩ := Qcu tp tq
 rw [h0] at k2 k3
 rcases h with h | h
 ·exact h (Qii tp k2)
 ·exact h (Qii tq k3)
theorem gcd_nil : gcdP [] [] = [] := rfl
theorem Qd3 (a b : List Rat) : Trm (quoP a b) := by
 unfold quoP
 split
 ·exact Qg3
 ·exact Qbr _
end

/-! ### The part without squares -/
def Irr (π : List Rat) : Prop := Trm π ∧ 2 ≤ π.length ∧ ∀ d, Trm d → Dv d π → d.length = 1 ∨ d.length = π.length
theorem QoU : ∀ (n : Nat) (h : List Rat), h.length ≤ n → Trm h → 2 ≤ h.length → ∃ π, Irr π ∧ Dv π h
 | 0, h, hn, _, h2 => by omega
 | n + 1, h, hn, th, h2 => by
  have nh : h ≠ [] := fun h0 => by rw [h0] at h2; simp at h2
  by_cases hex : ∃ d, Trm d ∧ Dv d h ∧ 2 ≤ d.length ∧ d.length < h.length
  ·obtain ⟨d, td, hd, d2, dl⟩ := hex
   obtain ⟨π, h1, h3⟩ := QoU n d (by omega) td d2
   exact ⟨π, h1, h3.trans hd⟩
  ·refine ⟨h, ⟨th, h2, fun d td hd => ?_⟩, Dv.refl _⟩
   have l1 := Qdl td th nh hd
   have nd : d ≠ [] := fun h0 => nh (Qii th (h0 ▸ hd))
   have l2 := List.length_pos_iff.2 nd
   by_cases l3 : d.length = h.length
   ·exact .inr l3
   ·refine .inl ?_
    by_cases l4 : 2 ≤ d.length
    ·exact absurd ⟨d, td, hd, l4, by omega⟩ hex
    ·omega
theorem Qqu {g π : List Rat} (tg : Trm g) (tπ : Trm π) (nπ : π ≠ []) (h : Dv g π) (hl : g.length = π.length) : Dv π g := by
 obtain ⟨s, ts, ns, ng, e, hh⟩ := Qh7 tg tπ nπ h
 have p1 := List.length_pos_iff.2 ng
 obtain ⟨c, rfl⟩ : ∃ c, s = [c] := List.length_eq_one_iff.1 (by omega)
 have hc : c ≠ 0 := by
  have := Qdq ts ns
  exact this
 refine ⟨[c⁻¹], fun x => ?_⟩
 rw [e, Qaq, QbC, QbC, ← Rat.mul_assoc, Rat.inv_mul_cancel _ hc, Rat.one_mul]
theorem irr_ne {π : List Rat} (h : Irr π) : π ≠ [] := fun h0 => by have := h.2.1; rw [h0] at this; simp at this
theorem Qdp {π a b : List Rat} (h : Irr π) (ta : Trm a) (hd : Dv π (muP a b)) : Dv π a ∨ Dv π b := by
 obtain ⟨tπ, h2, h3⟩ := h
 have nπ : π ≠ [] := irr_ne ⟨tπ, h2, h3⟩
 obtain ⟨⟨u, v, k1⟩, k2, k3⟩ := Qcu tπ ta
 have tg : Trm (gcdP π a) := Qde
 have mg := Qjf tπ ta
 generalize gcdP π a = g at *
 rcases h3 g tg k2 with hl | hl
 ·have hg := Qgc mg hl
  subst hg
  refine .inr ?_
  obtain ⟨t, ht⟩ := hd
  refine ⟨adP (muP u b) (muP v t), fun x => ?_⟩
  have e1 := k1 x
  have e2 := ht x
  rw [QbC] at e1
  rw [Qaq] at e2
  rw [Qkl, Qaq, Qaq]
  generalize evR u x = a1 at *; generalize evR v x = a2 at *; generalize evR a x = a3 at *; generalize evR b x = a4 at *; generalize evR t x = a5 at *; generalize evR π x = a6 at *
  have e3 : a4 = (a1 * a6 + a2 * a3) * a4 := by rw [← e1, Rat.one_mul]
  grind
 ·exact .inl ((Qqu tg tπ nπ k2 hl).trans k3)
def pwP (π : List Rat) : Nat → List Rat
 | 0 => [1]
 | k + 1 => muP (pwP π k) π
theorem ev_pw (π : List Rat) (x : Rat) : ∀ k, evR (pwP π k) x = (evR π x) ^ k
 | 0 => by rw [pwP, QbC, Rat.pow_zero]
 | k + 1 => by rw [pwP, Qaq, ev_pw π x k, Rat.pow_succ]
theorem QmH {π : List Rat} (h : Irr π) : ∀ (n : Nat) (p : List Rat), p.length ≤ n → Trm p → p ≠ [] → ∃ k v, Trm v ∧ ¬ Dv π v ∧ ∀ x, evR p x = evR (pwP π k) x * evR v x
 | 0, p, hn, _, np => absurd (List.length_eq_zero_iff.1 (by omega)) np
 | n + 1, p, hn, tp, np => by
  by_cases hd : Dv π p
  ·obtain ⟨s, ts, ns, _, e, hl⟩ := Qh7 h.1 tp np hd
   have h2 := h.2.1
   have p1 := List.length_pos_iff.2 ns
   obtain ⟨k, v, tv, nv, hv⟩ := QmH h n s (by omega) ts ns
   refine ⟨k + 1, v, tv, nv, fun x => ?_⟩
   rw [e, Qaq, hv, pwP, Qaq]
   generalize evR (pwP π k) x = a; generalize evR v x = b; generalize evR π x = c
   grind
  ·exact ⟨0, p, tp, hd, fun x => by rw [pwP, QbC, Rat.one_mul]⟩
theorem Qhq {l m : List Rat} (h : ∀ x, evR l x = evR m x) (x : Rat) : der l x = der m x := by
 have e : deP l = deP m := QpW (Qbe l) (Qbe m) fun k => by rw [Qp0, Qp0, Qnv (c := 0) (fun x _ => h x)]
 rw [← Qf1, ← Qf1, e]
theorem der_pow {π v : List Rat} : ∀ (j : Nat) (p : List Rat), (∀ x, evR p x = evR (pwP π (j + 1)) x * evR v x) → Dv (pwP π j) (deP p)
 | 0, p, _ => Dv.one _
 | j + 1, p, h => by
  have h' : ∀ x, evR p x = evR (muP (muP (pwP π (j + 1)) v) π) x := fun x => by
   rw [h, pwP, Qaq, Qaq, Qaq]
   generalize evR (pwP π (j + 1)) x = a; generalize evR v x = b; generalize evR π x = c
   grind
  obtain ⟨s, hs⟩ := der_pow (π := π) (v := v) j (muP (pwP π (j + 1)) v) (fun x => Qaq _ _ _)
  refine ⟨adP s (muP v (deP π)), fun x => ?_⟩
  have e1 := hs x
  rw [Qf1] at e1
  rw [Qf1, Qhq h', Qi0, e1, Qaq, Qkl, Qaq, pwP, Qaq, Qf1]
  generalize evR (pwP π j) x = a; generalize evR v x = b; generalize evR π x = c; generalize evR s x = d; generalize der π x = e
  grind
theorem rpow_ne {x : Rat} (h : x ≠ 0) : ∀ k : Nat, x ^ k ≠ 0
 | 0 => by rw [Rat.pow_zero]; decide
 | k + 1 => by
  rw [Rat.pow_succ]
  intro h0
  rcases Rat.mul_eq_zero.1 h0 with h1 | h1
  ·exact rpow_ne h k h1
  ·exact h h1
theorem pw_ne {π : List Rat} (tπ : Trm π) (nπ : π ≠ []) (k : Nat) : ∃ x, evR (pwP π k) x ≠ 0 := by
 obtain ⟨x, hx⟩ := ev_ne tπ nπ
 exact ⟨x, by rw [ev_pw]; exact rpow_ne hx k⟩
section
variable {p : List Rat}
theorem QhA (tp : Trm p) (np : p ≠ []) : gcdP p (deP p) ≠ [] ∧ (∀ x, evR p x = evR (quoP p (gcdP p (deP p))) x * evR (gcdP p (deP p)) x) ∧ quoP p (gcdP p (deP p)) ≠ [] := by
 have ng := Qjb tp (Qbe p) (.inl np)
 obtain ⟨_, k2, _⟩ := Qcu tp (Qbe p)
 have e := (Qo0 Qde ng k2).2
 exact ⟨ng, e, fun h0 => np (QjB tp fun x => by rw [e, h0, QaG, Rat.zero_mul])⟩
theorem Qg8 (tp : Trm p) (np : p ≠ []) : frP p ≠ [] := mn_ne (Qd3 _ _) (QhA tp np).2.2
theorem Qdd (p : List Rat) : Trm (frP p) := Qfg _
theorem Qd2 (tp : Trm p) (np : p ≠ []) : Dv (frP p) p :=
 (QmW (Qd3 _ _)).trans ⟨gcdP p (deP p), fun x => by rw [(QhA tp np).2.1, Rat.mul_comm]⟩
theorem QkG (tp : Trm p) (np : p ≠ []) : gcdP (frP p) (deP (frP p)) = [1] := by
 obtain ⟨ng, e, nF⟩ := QhA tp np
 obtain ⟨⟨a, b, k1⟩, _, _⟩ := Qcu tp (Qbe p)
 have hFf : Dv (frP p) (quoP p (gcdP p (deP p))) := QmW (Qd3 _ _)
 have nf := Qg8 tp np
 have tf := Qdd p
 have tg : Trm (gcdP p (deP p)) := Qde
 generalize gcdP p (deP p) = g at *
 generalize frP p = f at *
 have nh := Qjb tf (Qbe f) (.inl nf)
 have th : Trm (gcdP f (deP f)) := Qde
 obtain ⟨_, d1, d2⟩ := Qcu tf (Qbe f)
 have hp := List.length_pos_iff.2 nh
 by_cases h2 : 2 ≤ (gcdP f (deP f)).length
 ·exfalso
  obtain ⟨π, hI, hπ⟩ := QoU _ _ (Nat.le_refl _) th h2
  have tπ := hI.1
  have nπ := irr_ne hI
  have c1 := hπ.trans d1
  obtain ⟨t, ht⟩ := hπ.trans d2
  obtain ⟨u, tu, nu, _, eu, _⟩ := Qh7 tπ tf nf c1
  have hu : Dv π u := by
   have : Dv π (muP u (deP π)) := ⟨sbP t (deP u), fun x => by
    have e1 := ht x
    rw [Qf1, eu, Qi0] at e1
    rw [Qaq, QmC, Qf1, Qf1]
    generalize der u x = a1 at *; generalize evR π x = a2 at *; generalize evR u x = a3 at *; generalize der π x = a4 at *; generalize evR t x = a5 at *
    grind⟩
   rcases Qdp hI tu this with h | h
   ·exact h
   ·exfalso
    have l1 := Qgz tπ
    have h3 := hI.2.1
    have nd : deP π ≠ [] := fun h0 => by rw [h0] at l1; simp only [List.length_nil] at l1; omega
    have := Qdl tπ (Qbe π) nd h
    omega
  obtain ⟨w, hw⟩ := hu
  obtain ⟨s, hs⟩ := hFf
  obtain ⟨k, v, tv, nv, hv⟩ := QmH hI p.length p (Nat.le_refl _) tp np
  have hsq : ∀ x, evR p x = evR s x * (evR w x * evR π x * evR π x) * evR g x := fun x => by rw [e, hs, eu, Qaq, hw]
  cases k with
  | zero =>
   refine nv ⟨muP (muP s (muP w π)) g, fun x => ?_⟩
   have e1 := hv x
   rw [pwP, QbC, Rat.one_mul] at e1
   rw [← e1, hsq, Qaq, Qaq, Qaq]
   generalize evR s x = a1; generalize evR π x = a2; generalize evR w x = a3; generalize evR g x = a4
   grind
  | succ j =>
   obtain ⟨q, hq⟩ := der_pow j p hv
   -- the power before divides g
   have hg : ∀ x, evR g x = evR (adP (muP a (muP v π)) (muP b q)) x * evR (pwP π j) x := fun x => by
    rw [k1, hv, hq, pwP, Qaq, Qkl, Qaq, Qaq, Qaq]
    generalize evR a x = a1; generalize evR π x = a2; generalize evR v x = a3; generalize evR b x = a4; generalize evR q x = a5; generalize evR (pwP π j) x = a6
    grind
   generalize adP (muP a (muP v π)) (muP b q) = G at *
   refine nv ⟨muP (muP s w) G, fun x => ?_⟩
   have := Qfp (a := v) (b := muP (muP (muP s w) G) π) (c := muP (pwP π j) π) (by
    obtain ⟨y, hy⟩ := pw_ne tπ nπ (j + 1)
    exact ⟨y, hy⟩) (fun x => by
    have e1 := hv x
    rw [pwP, Qaq, hsq, hg] at e1
    rw [Qaq, Qaq, Qaq, Qaq]
    generalize evR s x = a1 at *; generalize evR π x = a2 at *; generalize evR w x = a3 at *; generalize evR G x = a4 at *; generalize evR v x = a5 at *; generalize evR (pwP π j) x = a6 at *
    grind) x
   rw [this, Qaq]
 ·exact Qgc (Qjf tf (Qbe f)) (by omega)
end
end Go.AM

/- Chains of polynomials of at most the second degree; plain. -/
namespace Go.AM
open Go Go.RowKit
theorem trm1 {a : Rat} (h : a ≠ 0) : Trm [a] := fun n hn => by
 obtain rfl : n = 0 := by simp at hn; omega
 exact h
theorem trm2 {a b : Rat} (h : b ≠ 0) : Trm [a, b] := fun n hn => by
 obtain rfl : n = 1 := by simp at hn; omega
 exact h
/-! Constants and lines -/
/-! Squares -/
/-! Changes -/
end Go.AM

/- ref07.Free, Chain at polynomials of at most the second degree: sizes. Halving. -/
namespace Go.AM
open Go Go.RowKit
theorem Qp8 {K : Nat} : ∀ {l : List Rat}, SzL K l → HL (l.length * K) (l.length * K) l
 | [], _ => HL.nil _ _
 | a :: l, h => by
  obtain ⟨D, h1, h2, h3⟩ := Qp8 (l := l) fun q hq => h q (List.mem_cons_of_mem _ hq)
  obtain ⟨E, k1, k2, k3⟩ := H1_of_sz (h a (List.mem_cons_self ..))
  have e : (a :: l).length * K = K + l.length * K := by rw [List.length_cons, Nat.succ_mul]; omega
  rw [e]
  refine ⟨E * D, Nat.mul_pos k1 h1, Qcz k2 h2, fun q hq => ?_⟩
  rcases List.mem_cons.1 hq with rfl | hq
  ·exact (k3.lift D).le (Qcz (Nat.le_refl _) h2)
  ·exact ((h3 q hq).lift' E).le (Qcz k2 (Nat.le_refl _))
theorem hl3 {K : Nat} {l : List Rat} (h : SzL K l) (hl : l.length ≤ 3) : HL (3 * K) (3 * K) l :=
 (Qp8 h).mono (Nat.mul_le_mul_right _ hl) (Nat.mul_le_mul_right _ hl)
theorem hl21 {l : List Rat} (h : SzL 7000 l) (hl : l.length ≤ 3) : HL 21000 21000 l := by
 obtain ⟨K, hK⟩ : ∃ K, K = 7000 := ⟨_, rfl⟩
 rw [← hK] at h
 have := hl3 h hl
 exact this.mono (by omega) (by omega)
theorem dv_ok {a b : List Rat} (ha : SzL 7000 a) (hb : SzL 7000 b) (na : a.length ≤ 3) (nb : b.length ≤ 3) (tb : Trm b) : dvG 800000 b (dvN a b) a ∧ HL 800000 800000 (quoP a b) ∧ SzL 800000 (remP a b) := by
 have hm : dvN a b ≤ 4 := by unfold dvN; omega
 have h1 : dvN a b * 21000 ≤ 4 * 21000 := Nat.mul_le_mul_right _ hm
 have h2 : dvN a b * (21000 + 1) ≤ 4 * (21000 + 1) := Nat.mul_le_mul_right _ hm
 have Ha := hl21 ha na
 have Hb := hl21 hb nb
 obtain ⟨x, y, z⟩ := Qkb (K := 800000) Ha Hb tb (by omega)
 exact ⟨x, z.mono (by omega) (by omega), y.sz.mono (by omega)⟩
theorem ch_done (K n : Nat) (a : List Rat) : ChOk K n a [] := by cases n with
 | zero => exact rfl
 | succ n => exact .inl rfl
theorem Qo3 {n : Nat} {a b : List Rat} (ha : SzL 7000 a) (hb : SzL 7000 b) (na : a.length ≤ 3) (nb : b.length ≤ 3) (tb : Trm b) (h : ChOk 800000 n b (scP (remP a b) (-1))) : ChOk 800000 (n + 1) a b := by
 obtain ⟨h1, _, h3⟩ := dv_ok ha hb na nb tb
 exact .inr ⟨tb, by omega, (hl21 hb nb).mono (by omega) (by omega), hb.mono (by omega), h1, h3, h⟩
/-! Halving -/
def hf : Rat := Rat.divInt 1 2
end Go.AM

/- The seat's iterators: Backward alone. -/
namespace Go.AM
open Go Go.RowKit Go.Proofs

instance itsP : Its := { it := fun f ds => if f = Qag then QjW ds else none }
instance itsBP : ItsB := ⟨fun _ => if_pos rfl⟩
theorem envP : EnvOk Tryz.prog G := env_ok fun f ds xs h => by
  have h' : (if f = Qag then QjW ds else none) = some xs := h
  split at h'
  · rename_i hf
    rw [hf]
    exact QnX h'
  · cases h'
end Go.AM

/- Iterators whose closures call themselves: a region's operations one by one; calls that yield. -/
namespace Go.AM
open Go Go.RowKit

section
variable {P : Program}
theorem QpU {n m l : Nat} {args : Array Value} {W : World} {R : Ending → World → Prop} (h : YieldAt Fence.wide n P l args W R) : YieldAt Fence.wide m P l args W R := by
 obtain ⟨fn, t, a, b, h1, h2⟩ := h
 exact ⟨fn, t, a, b, h1, h2.1, fun c cs _ => h2.2 c cs (room_wide _)⟩
theorem Qoo {n l : Nat} {args : Array Value} {W : World} {R R' : Ending → World → Prop} (h : YieldAt Fence.wide n P l args W R) (hr : ∀ e w, R e w → R' e w) : YieldAt Fence.wide n P l args W R' := by
 obtain ⟨fn, t, a, b, h1, h2⟩ := h
 exact ⟨fn, t, a, b, h1, h2.mono hr⟩
theorem Qlv {n m : Nat} {f : FuncId} {args : Array Value} {W : World} {R : Ending → World → Prop} (h : CallsIn Fence.wide n P f args W R) : CallsIn Fence.wide m P f args W R :=
 callsIn_wide.2 (callsIn_wide.1 h)
theorem Answers.any {n m : Nat} {S : Nat → Prop} {w0 : World} {l : Nat} {J Jx : Held} {xs : List (List D)} (h : Answers P n S w0 l J Jx xs) : Answers P m S w0 l J Jx xs :=
 fun i x L V W args hx hj hr => QpU (h i x L V W args hx hj hr)
end

section
variable {S : Nat → Prop} {w0 : World} {N n : Nat} {J Jx : Held} {st s : St} {i : Nat} {a a' : Act} {W W' : World} {P : Program} {Γ : Env}
variable {ops : Array Oper} {os : List O} {R : Ex → Act → World → Prop} {k len : Nat}

def WO (P : Program) (n : Nat) (ops : Array Oper) (R : Ex → Act → World → Prop) (k len : Nat) (a : Act) (W : World) : Prop := wpOpsIn Fence.wide (n + 1) P ops (toQ R) (List.range' k len) a W
theorem QnG (h : R .n a W) : WO P n ops R k 0 a W := h
theorem QjF     (hE : EnvOk P Γ) (hab : Qga   w0 J) (hO : Ops P N ops os) (h : Inv S w0 N J st i a W) {B : List O} (hB : ∀ j o, B[j]? = some o → os[k + j]? = some o) (hx : exs (Qaj   Γ) B st = some s)
    (hK : ∀ a' W', Inv S w0 N J s i a' W' → WO P n ops R (k + B.length) len a' W') : WO P n ops R k (B.length + len) a W := by
  obtain ⟨m, L, h⟩ := h
  unfold WO
  have hap := @List.range'_append_1 k B.length len
  rw [← hap]
  refine QjR (wd := ⟨W, Live m st.hp, fun _ => none, fun _ => False⟩) (fun f ds r h => (Qiq hE h).at (QhN QkH _ _)) wide_ok hO _ h.rel (by rw [← Qmt B k st hB]; exact hx) ?_
  intro m1 a1 W1 R1
  exact hK a1 W1 ⟨m1, L, h.next hab R1⟩
theorem Qq0      {o : Oper} {c : Call} {ty f : Nat} {us : List Value} (hoo : ops[k]? = some o) (hop : o.op = .call c) (hce : c.callee = .value (.tmp ty)) (hwant : Region.wanted o (yielded ops a.tmps) = true) (hv : a.eval (.tmp ty) = .func (.func f) #[] us.toArray)
    (hf : ∃ fn, P.funcs[f]? = some fn ∧ fn.body.isSome = true ∧ fn.name ≠ "runtime.NumGoroutine")
    (hcall : CallsIn Fence.wide 0 P f (c.args.toList.map a.eval ++ us).toArray W fun e W' => ∃ v, e = .returned v ∧ WO P n ops R (k + 1) len (a.put o.dst v) W') : WO P n ops R k (len + 1) a W := by
  obtain ⟨fn, hfn, hb, hn⟩ := hf
  unfold WO
  rw [List.range'_succ, wpOpsIn_cons]
  unfold wpOpIn
  simp only [hoo, hwant, if_true]
  have hargs' : c.args.map a.eval = (c.args.toList.map a.eval).toArray := by apply Array.ext'; simp
  have hexec : (execOp a.eval o).run P W = .ok (.enter f (c.args.toList.map a.eval ++ us).toArray) W := by
    simp only [execOp, hop, resolve, hce, hv, Deferred.ofValue, Sem.run_bind, Sem.run_pure, Result.andThen_ok, invoke, hargs']
    rw [Qev hfn hb hn]
    congr 2
    simp
  refine ⟨fun f _ => trivial, ?_⟩
  rw [Oper.semAt_eq _ _ _ (fun c' h => by rw [hop] at h; cases h), hexec, Oper.uponIn_enter]
  refine ⟨fun h => (by cases h), ?_⟩
  refine (Qlv hcall).mono ?_
  rintro e W2 ⟨v, rfl, h⟩
  exact h

def OwesY (P : Program) (S : Nat → Prop) (w0 : World) (J Jx : Held) (f i mm : Nat) (ds : List D) : Prop :=
 ∀ (L V : Nat → Prop) (W : World) (args : List Value), J i L V W → (∀ b, V b → w0.heap.size ≤ b ∧ b < W.heap.size) → (∀ b, L b → b < W.heap.size) → w0.heap.size ≤ W.heap.size →
  RepL (fun b => (S b ∨ w0.heap.size ≤ b) ∧ b < W.heap.size ∧ ¬ V b ∧ ¬ L b) W ds args →
  CallsIn Fence.wide 0 P f args.toArray W fun e W' => ∃ L', Foot L W W' ∧ (∀ b, L' b → b < W.heap.size → L b) ∧ (∀ b, L' b → b < W'.heap.size) ∧
   ((e = .returned (.bool true) ∧ J (i + mm) L' V W') ∨ (e = .returned (.bool false) ∧ ∃ i', Jx i' L' V W'))

theorem Inv1.after {m : Key → Nat} {L L' : Nat → Prop} {J' : Held} {j : Nat} (h : Inv1 S w0 N J st i a W m L) (f1 : Foot L W W') (f2 : ∀ b, L' b → b < W.heap.size → L b) (f3 : ∀ b, L' b → b < W'.heap.size) (hj : J' j L' (Live m st.hp) W') : Inv1 S w0 N J' st j a W' m L' := by
 have hsz : W.heap.size ≤ W'.heap.size := f1.size
 have R2 : Rel (fun b => (S b ∨ w0.heap.size ≤ b) ∧ ¬ L' b) N ⟨W', Live m st.hp, fun _ => none, fun _ => False⟩ m st a W' :=
  h.rel.move rfl hsz (fun b hb hs => ⟨hs.1, fun hl => hs.2 (f2 b hl hb)⟩) (fun b cs T fz hs hh => by rw [f1.block b (Qcm hh) hs.2]; exact hh)
   (fun b hb => ⟨.inr (by have := h.sz; omega), fun hl => by have := f3 b hl; omega⟩) (Foot.refl _ _) (fun k o ho hz => .inl ⟨k, o, ho, hz, rfl⟩) ⟨[], (show Inv S w0 N J st i a W from ⟨m, L, h⟩).nodefer, List.nodup_nil, by simp⟩ (fun k b hb => by cases hb)
 exact ⟨R2, hj, f3, h.ge, Nat.le_trans h.sz hsz⟩

theorem QpT     (hO : Ops P N ops os) {d : Option Nat} {ty : Nat} {es : List E} {g : Option (Nat × Bool)} (ho : os[k]? = some ⟨d, .calv (.t ty) es, g⟩) :
    ∃ o c, ops[k]? = some o ∧ o.op = .call c ∧ c.callee = .value (.tmp ty) ∧ mapO QaA c.args.toList = some es ∧ o.dst = d ∧ QpF ops o.guard = some g := by
  have hk : k < os.length := (List.getElem?_eq_some_iff.1 ho).1
  have hk2 : k < ops.size := by rw [← hO.len]; exact hk
  obtain ⟨o2, g2, gc, gd, gg⟩ := hO.at_ k ops[k] (by simp [hk2])
  rw [ho] at g2
  cases g2
  obtain ⟨c, u, k1, k2, k3, k4⟩ := QhK gc
  cases u with
  | tmp u => simp only [QaA, Option.some.injEq, E.t.injEq] at k3; subst k3; exact ⟨ops[k], c, by simp [hk2], k1, k2, k4, gd.symm, gg⟩
  | _ => simp [QaA] at k3

theorem QjT {m : Key → Nat} {hp : Hp} {T : Nat → Prop} {w : World} : ∀ (xs : List D) (vs : List Value), RepAL m hp T w (xs.map A.d) vs → RepL T w xs vs
 | [], vs, hv => by cases hv; exact .nil
 | y :: ys, vs, hv => by
  cases hv with
  | cons _ _ v vs hy ht => exact .cons _ _ _ _ (Qf9 hy) (QjT ys vs ht)

theorem wo_call (hE : EnvOk P Γ) (hab : Qga   w0 J) (habx : Qga   w0 Jx) (hO : Ops P N ops os) (h : Inv S w0 N J st i a W) {d ty f mm : Nat} {es : List E} {g : Option (Nat × Bool)} {x caps : List D}
    (ho : os[k]? = some ⟨some d, .calv (.t ty) es, g⟩) (hg : Qcr st g = some true) (h2 : st.fr ty = some (.d (.fn f caps))) (h3 : allE st es = some (x.map .d))
    (hf : ∃ fn, P.funcs[f]? = some fn ∧ fn.body.isSome = true ∧ fn.name ≠ "runtime.NumGoroutine") (hcon : OwesY P S w0 J Jx f i mm (x ++ caps))
    (hKt : ∀ a' W', Inv S w0 N J { st with fr := upd st.fr d (.d (.v (.bool true))) } (i + mm) a' W' → WO P n ops R (k + 1) len a' W')
    (hKf : ∀ i' a' W', Inv S w0 N Jx { st with fr := upd st.fr d (.d (.v (.bool false))) } i' a' W' → WO P n ops R (k + 1) len a' W') : WO P n ops R k (len + 1) a W := by
  obtain ⟨o, c, hoo, hop, hce, hargs, hd, hgg⟩ := QpT hO ho
  have hdN : d < N := hO.lt _ (List.mem_of_getElem? ho) d rfl
  obtain ⟨m, L, h⟩ := h
  have hv := h.rel.fr ty _ h2
  obtain ⟨us, hus, hrc⟩ : ∃ us : List Value, a.eval (.tmp ty) = .func (.func f) #[] us.toArray ∧ RepL (Im (fun b => (S b ∨ w0.heap.size ≤ b) ∧ ¬ L b) m st.hp W) W caps us := by
    have := Qf9 hv
    generalize hz : a.tmps.getD ty undef = z at this
    cases this with
    | fn _ _ vs hl => exact ⟨vs, hz, hl⟩
  obtain ⟨hrep, _⟩ := Qeu h.rel hargs h3
  have hra := QjT _ _ hrep
  refine Qq0 hoo hop hce (Qd4 h.rel hgg rfl hg) hus hf ?_
  refine (hcon L (Live m st.hp) W _ h.j (fun b hb => ⟨h.ge b hb, ?_⟩) h.lt h.sz ((hra.append hrc).mono (fun b hb => ⟨hb.1.1, hb.2.1, hb.2.2, hb.1.2⟩) (fun _ _ => rfl))).mono ?_
  · obtain ⟨k, o, ho, hf, rfl⟩ := hb
    exact h.rel.lt ho
  rintro e W2 ⟨L', f1, f2, f3, f4⟩
  have go : ∀ (t : Bool) (J' : Held) (j : Nat), J' j L' (Live m st.hp) W2 → (∀ a' W', Inv S w0 N J' { st with fr := upd st.fr d (.d (.v (.bool t))) } j a' W' → WO P n ops R (k + 1) len a' W') → WO P n ops R (k + 1) len (a.put o.dst (.bool t)) W2 := by
    intro t J' j hj hK
    have I2 := h.after f1 f2 f3 hj
    have R3 := I2.rel.put (dst := some d) (y := .d (.v (.bool t))) (v := .bool t) (fun d' hd' => by cases hd'; exact hdN) (.d _ _ (.v _)) trivial
    rw [hd]
    exact hK _ _ ⟨m, L', R3, hj, f3, I2.ge, I2.sz⟩
  rcases f4 with ⟨rfl, hj⟩ | ⟨rfl, i', hj⟩
  · exact ⟨_, rfl, go true J _ hj hKt⟩
  · exact ⟨_, rfl, go false Jx i' hj (hKf i')⟩

theorem Qn9 {d : Option Nat} {ty k0 : Nat} {es : List E} {g : Option (Nat × Bool)} (hk : os[k0]? = some ⟨d, .calv (.t ty) es, g⟩) (h : ∀ ops, Ops P N ops os → WO P n ops R 0 os.length a W) : WY P N (n + 1) (.reg (os.map O.er) []) R a W := by
  refine Qmy (by simp only [QeY, ne_eq, reduceCtorEq, not_false_eq_true]) fun hw code ho hns hc => ?_
  cases code <;> first | exact absurd rfl (hns _) | (obtain ⟨_, _, _, _, h'⟩ := QdQ hc; cases h') | skip
  case region id ops draw =>
    simp only [QaK, Option.bind_eq_some_iff] at hc
    obtain ⟨os', hos, hc⟩ := hc
    have hos' : os' = os.map O.er := by
      split at hc
      · split at hc
        · simp only [Option.map_eq_some_iff, C.reg.injEq] at hc
          obtain ⟨_, _, rfl, _⟩ := hc; rfl
        · cases hc
      · simp only [Option.some.injEq, C.reg.injEq] at hc; exact hc.1
    subst hos'
    have hO := Qmv (N := N) hos (by simpa only [C.within] using hw)
    obtain ⟨o, c, hoo, hop, hcal, _, _, _⟩ := QpT hO hk
    have hdraw : draw = false := by
      cases draw with
      | false => rfl
      | true =>
        simp only [okY, Bool.not_true, Bool.false_or, List.all_eq_true] at ho
        have := ho o (Array.mem_toList_iff.2 (Array.mem_of_getElem? hoo))
        rw [hop] at this
        simp only [hcal] at this
        cases this
    subst hdraw
    refine wpIn_region ?_
    have h1 := h ops hO
    rw [hO.len] at h1
    rw [List.range_eq_range']
    exact h1
  all_goals simp [QaK, Option.bind_eq_some_iff] at hc
end

/-! ### Seen from the callee -/
def Under (W : World) (L0 V0 : Nat → Prop) (J : Held) : Held := fun i L V W' => J i L (fun b => V b ∨ V0 b) W' ∧ Foot L0 W W' ∧ (∀ b, L b → b < W.heap.size → L0 b) ∧ (∀ b, L b → b < W'.heap.size) ∧ (∀ b, V b → W.heap.size ≤ b)
def SIn (S : Nat → Prop) (w0 W : World) (L0 V0 : Nat → Prop) (b : Nat) : Prop := (S b ∨ w0.heap.size ≤ b) ∧ b < W.heap.size ∧ ¬ V0 b ∧ ¬ L0 b
section
variable {S : Nat → Prop} {w0 W : World} {L0 V0 : Nat → Prop} {J Jx : Held} {P : Program} {n l : Nat} {xs : List (List D)}
theorem Under.abide (hab : Qga w0 J) (hV0 : ∀ b, V0 b → w0.heap.size ≤ b ∧ b < W.heap.size) (hsz : w0.heap.size ≤ W.heap.size) : Qga W (Under W L0 V0 J) := by
 rintro i L V V' W1 W2 ⟨h1, h2, h3, h4, h5⟩ hf hv1 hv2
 have z1 : W.heap.size ≤ W1.heap.size := h2.size
 have z2 : W1.heap.size ≤ W2.heap.size := hf.size
 refine ⟨hab i L _ _ W1 W2 h1 (hf.mono fun b _ hb => .inl hb) ?_ ?_, ?_, h3, fun b hb => Nat.lt_of_lt_of_le (h4 b hb) z2, fun b hb => (hv2 b hb).1⟩
 ·rintro b (hb | hb) hlt
  ·exact .inl (hv1 b hb hlt)
  ·exact .inr hb
 ·rintro b (hb | hb)
  ·exact ⟨by have := (hv2 b hb).1; omega, (hv2 b hb).2⟩
  ·have := hV0 b hb
   exact ⟨this.1, by omega⟩
 ·exact h2.trans hf (fun b hb => .inr (h5 b hb))
theorem Under.answers (hans : Answers P n S w0 l J Jx xs) (hV0 : ∀ b, V0 b → w0.heap.size ≤ b ∧ b < W.heap.size) (hsz : w0.heap.size ≤ W.heap.size) : Answers P n (SIn S w0 W L0 V0) W l (Under W L0 V0 J) (Under W L0 V0 Jx) xs := by
 rintro i x L V W1 args hx ⟨h1, h2, h3, h4, h5⟩ hr
 have z1 : W.heap.size ≤ W1.heap.size := h2.size
 refine Qoo (hans i x L _ W1 args hx h1 (hr.mono (fun b hb => ?_) (fun _ _ => rfl))) ?_
 ·obtain ⟨hb1, hb2, hb3, hb4⟩ := hb
  rcases hb1 with hb1 | hb1
  ·exact ⟨hb1.1, hb2, fun h => h.elim hb3 hb1.2.2.1, hb4⟩
  ·exact ⟨.inr (by omega), hb2, fun h => h.elim hb3 (fun h => by have := (hV0 b h).2; omega), hb4⟩
 ·rintro e W2 ⟨L', f1, f2, f3, f4⟩
  have g : ∀ (J' : Held), J' (i + 1) L' (fun b => V b ∨ V0 b) W2 → Under W L0 V0 J' (i + 1) L' V W2 := fun J' hj =>
   ⟨hj, h2.trans f1 (fun b hb => if hlt : b < W.heap.size then .inl (h3 b hb hlt) else .inr (by omega)), fun b hb hlt => h3 b (f2 b hb (by omega)) hlt, f3, h5⟩
  refine ⟨L', f1, f2, f3, ?_⟩
  rcases f4 with ⟨rfl, hj⟩ | ⟨rfl, hj⟩
  ·exact .inl ⟨rfl, g J hj⟩
  ·exact .inr ⟨rfl, g Jx hj⟩
end
section
variable {P : Program} {Γ : Env}
theorem owes_ok (hE : EnvOk P Γ) {f : Nat} {cf : CF} {fn : Func} {ds : List D} {xs : List (List D)} {n l i mm : Nat} {S : Nat → Prop} {w0 : World} {J Jx : Held} (hf : P.funcs[f]? = some fn) (hc : QiY   P fn = some cf.er) (hok : ∀ b, fn.body = some b → okY b = true) (hnp : cf.np = ds.length)
    (hab : Qga w0 J) (habx : Qga w0 Jx) (hans : Answers P n S w0 l J Jx xs)
    (hwalk : ∀ (S : Nat → Prop) (w0 : World) (J Jx : Held) (a : Act) (W : World), Qga w0 J → Qga w0 Jx → Answers P n S w0 l J Jx xs → Inv S w0 fn.ntmps J ⟨argF 0 ds, hp0, []⟩ i a W →
      WY P fn.ntmps (n + 1) cf.body.er (fun e a' W' => (∀ id, e ≠ .x id) ∧ ((∃ st, resL st cf.res = some [.d (.v (.bool true))] ∧ Inv S w0 fn.ntmps J st (i + mm) a' W') ∨ ∃ st i', resL st cf.res = some [.d (.v (.bool false))] ∧ Inv S w0 fn.ntmps Jx st i' a' W')) a W) : OwesY P S w0 J Jx f i mm ds := by
  simp only [QiY, Option.bind_eq_some_iff] at hc
  obtain ⟨body, hb, c, hcc, hc⟩ := hc
  split at hc
  · rename_i hchk
    simp only [Bool.and_eq_true, decide_eq_true_eq, bne_iff_ne, ne_eq] at hchk
    obtain ⟨⟨hw, hsz⟩, hname⟩ := hchk
    simp only [Option.map_eq_some_iff] at hc
    obtain ⟨rs, hrs, hcf'⟩ := hc
    have e1 : cf.np = fn.params.size + fn.nfree := (congrArg CF.np hcf').symm
    have e2 : c = cf.body.er := congrArg CF.body hcf'
    have e3 : rs = cf.res := congrArg CF.res hcf'
    subst e2
    rw [e3] at hrs
    intro L V W vs hj hV0 hL0 hsz0 hrep
    have hvl : vs.length = ds.length := hrep.length.symm
    have hN : ((vs.toArray : Array Value) ++ Array.replicate (fn.ntmps - (vs.toArray : Array Value).size) undef).size = fn.ntmps := by simp; omega
    refine Qlv (callsIn_of_wp (n := n + 1) (F := Fence.wide) hf hb trivial ?_)
    have hR : Inv (SIn S w0 W L V) W fn.ntmps (Under W L V J) ⟨argF 0 ds, hp0, []⟩ i { tmps := (vs.toArray : Array Value) ++ Array.replicate (fn.ntmps - (vs.toArray : Array Value).size) undef, defers := [] } W := by
      have hSm : ∀ b, ((S b ∨ w0.heap.size ≤ b) ∧ b < W.heap.size ∧ ¬ V b ∧ ¬ L b) → Im (fun b => (SIn S w0 W L V b ∨ W.heap.size ≤ b) ∧ ¬ L b) (fun _ => 0) hp0 W b := fun b hb => ⟨⟨.inl hb, hb.2.2.2⟩, hb.2.1, fun ⟨_, _, h, _⟩ => by simp [hp0] at h⟩
      have hV : (fun b => Live (fun _ => 0) hp0 b ∨ V b) = V := by
        funext b; exact propext ⟨fun h => h.elim (fun ⟨_, _, h, _⟩ => by simp [hp0] at h) id, .inr⟩
      refine ⟨fun _ => 0, L, ⟨⟨fun i x hx => ?_, fun _ _ h => by simp [hp0] at h, fun _ _ _ _ h => by simp [hp0] at h, fun i x hx => ?_, fun _ _ _ h => by simp [hp0] at h, fun _ _ h => by simp [hp0] at h, fun _ _ h => by simp [hp0] at h, Foot.refl _ _, Marks.nil _ _ _, hN, fun b hb => ⟨.inr hb, fun hl => by have := hL0 b hl; omega⟩, fun _ _ h => by cases h⟩, ?_, hL0, fun b ⟨_, _, h, _⟩ => by simp [hp0] at h, Nat.le_refl _⟩⟩
      · obtain ⟨_, d, hd, rfl⟩ := QgK ds 0 i x hx
        obtain ⟨v, hv, hdv⟩ := hrep.get i d (by simpa using hd)
        have : ((vs.toArray : Array Value) ++ Array.replicate (fn.ntmps - (vs.toArray : Array Value).size) undef).getD i undef = v := by
          have hil : i < vs.length := (List.getElem?_eq_some_iff.1 hv).1
          rw [Array.getD_eq_getD_getElem?, Array.getElem?_append_left (by simpa using hil)]
          simp [hv]
        rw [this]
        exact .d _ _ (hdv.mono hSm (fun _ _ => rfl))
      · obtain ⟨_, d, _, rfl⟩ := QgK ds 0 i x hx
        trivial
      · refine ⟨?_, Foot.refl _ _, fun b hb _ => hb, hL0, fun b ⟨_, _, h, _⟩ => by simp [hp0] at h⟩
        show J i L (fun b => Live (fun _ => 0) hp0 b ∨ V b) W
        rw [hV]; exact hj
    refine wpIn_mono (hwalk _ W _ _ _ W (Under.abide hab hV0 hsz0) (Under.abide habx hV0 hsz0) (Under.answers hans hV0 hsz0) hR hw body (hok body hb) hcc) ?_
    intro e a' W' hq
    have key : ∀ (t : Bool) (J' : Held) (j : Nat) (st : St), Qga w0 J' → resL st cf.res = some [.d (.v (.bool t))] → Inv (SIn S w0 W L V) W fn.ntmps (Under W L V J') st j a' W' → a'.defers = [] ∧ (results fn a'.tmps).run P W' = .ok (.bool t) W' ∧ ∃ L', Foot L W W' ∧ (∀ b, L' b → b < W.heap.size → L b) ∧ (∀ b, L' b → b < W'.heap.size) ∧ J' j L' V W' := by
      intro t J' j st hab' hr hI
      refine ⟨hI.nodefer, ?_, ?_⟩
      · obtain ⟨m, L', hI⟩ := hI
        obtain ⟨us, k1, k2, _⟩ := QhD hI.rel hrs hr
        cases k2 with
        | cons _ _ v vs' hv ht =>
          cases ht
          have := QeB hv
          subst this
          exact QgM k1
      · obtain ⟨m, L', hI⟩ := hI
        obtain ⟨h1, h2, h3, h4, h5⟩ := hI.j
        exact ⟨L', h2, h3, h4, hab' j L' _ _ W' W' h1 (Foot.refl _ _) (fun b hb _ => .inr hb) (fun b hb => ⟨(hV0 b hb).1, Nat.lt_of_lt_of_le (hV0 b hb).2 h2.size⟩)⟩
    have fin : ((∃ st, resL st cf.res = some [.d (.v (.bool true))] ∧ Inv (SIn S w0 W L V) W fn.ntmps (Under W L V J) st (i + mm) a' W') ∨ ∃ st i', resL st cf.res = some [.d (.v (.bool false))] ∧ Inv (SIn S w0 W L V) W fn.ntmps (Under W L V Jx) st i' a' W') →
        a'.defers = [] ∧ ∃ v, (results fn a'.tmps).run P W' = .ok v W' ∧ ∃ L', Foot L W W' ∧ (∀ b, L' b → b < W.heap.size → L b) ∧ (∀ b, L' b → b < W'.heap.size) ∧ ((Ending.returned v = .returned (.bool true) ∧ J (i + mm) L' V W') ∨ (Ending.returned v = .returned (.bool false) ∧ ∃ i', Jx i' L' V W')) := by
      rintro (⟨st, hr, hI⟩ | ⟨st, i', hr, hI⟩)
      · obtain ⟨h1, h2, L', h3, h4, h5, h6⟩ := key true J _ st hab hr hI
        exact ⟨h1, _, h2, L', h3, h4, h5, .inl ⟨rfl, h6⟩⟩
      · obtain ⟨h1, h2, L', h3, h4, h5, h6⟩ := key false Jx _ st habx hr hI
        exact ⟨h1, _, h2, L', h3, h4, h5, .inr ⟨rfl, i', h6⟩⟩
    cases e with
    | normal => exact fin hq.2
    | ret => exact fin hq.2
    | exit id => exact absurd rfl (hq.1 id)
    | _ => exact hq.elim
  · cases hc
end
end Go.AM

/- sturm.zeros' closure that calls itself. -/
namespace Go.AM
open Go Go.RowKit Go.Proofs
def C.fst7 : C → C
 | .seq a _ => a
 | .blk _ a => a
 | .loop a => a
 | c => c
def C.snd7 : C → C
 | .seq _ b => b
 | c => c
def wtZ (K : Nat) (ps : List (List Rat)) : Nat → Rat × Rat → Option (List (Rat × Rat))
  | 0, _ => none
  | n + 1, l => if sz l.1 ≤ K ∧ sz l.2 ≤ K then
      if cnt ps l.1 l.2 = 0 then some [] else if cnt ps l.1 l.2 = 1 then some [l]
      else (wtZ K ps n (l.1, mid l.1 l.2)).bind fun a => (wtZ K ps n (mid l.1 l.2, l.2)).map (a ++ ·)
    else none
def zr_A : C := sturm_zeros_1_1.body.fst7
def zr_B : C := sturm_zeros_1_1.body.snd7.fst7.fst7
def zr_blk : C := sturm_zeros_1_1.body.snd7.fst7.snd7.fst7.fst7
def zr_C : C := zr_blk.fst7
def Qkt : C := zr_blk.snd7
def zr_D : C := match Qkt with | .cond _ a _ => a.fst7 | c => c
def zr_E : C := match Qkt with | .cond _ _ b => b.fst7 | c => c
def zr_M : C := sturm_zeros_1_1.body.snd7.snd7.fst7
def zr_Y1 : List O := [⟨some 17, .load none (.t 2), none⟩, ⟨some 18, .load (some 8) (.t 4), none⟩]
def zr_Y2 : List O := [⟨some 5, .mov (.t 19), none⟩]
def zr_V1 : List O := [⟨some 22, .load none (.t 3), none⟩, ⟨some 23, .fad 0 (.t 4), none⟩, ⟨some 24, .load (some 4) (.t 23), none⟩, ⟨some 25, .load (some 4) (.t 6), none⟩,
 ⟨some 26, .build [.v (.bool false), .z true, .v (.bool false), .z true, .v (.bool false), .z true, .v (.bool false), .z true] [(0, 4, (.t 24)), (4, 4, (.t 25))], none⟩]
def Qp1 : List O := [⟨some 28, .mov (.t 27), none⟩, ⟨some 29, .load none (.t 3), some (28, true)⟩, ⟨some 30, .load (some 4) (.t 6), some (28, true)⟩, ⟨some 31, .fad 4 (.t 4), some (28, true)⟩, ⟨some 32, .load (some 4) (.t 31), some (28, true)⟩,
 ⟨some 33, .build [.v (.bool false), .z true, .v (.bool false), .z true, .v (.bool false), .z true, .v (.bool false), .z true] [(0, 4, (.t 30)), (4, 4, (.t 32))], some (28, true)⟩]
def QnT : List O := [⟨some 35, .pick (.t 28) (.t 34) (.c (.v (.bool false))), none⟩, ⟨some 5, .mov (.t 35), none⟩]
def zr_V : List O := zr_V1 ++ ⟨some 27, .calv (.t 22) [.t 26], none⟩ :: (Qp1 ++ ⟨some 34, .calv (.t 29) [.t 33], some (28, true)⟩ :: QnT)
theorem zr_shape : sturm_zeros_1_1.body.er = .seq zr_A.er (.seq (.seq zr_B.er (.blk 0 (.seq zr_C.er (.cond (.t 13) (.seq zr_D.er .ret) (.seq zr_E.er (.cond (.t 15) (.seq (.reg ((zr_Y1 ++ ⟨some 19, .calv (.t 17) [.t 18], none⟩ :: zr_Y2).map O.er) []) .ret) .skip)))))) (.seq zr_M.er (.seq (.reg (zr_V.map O.er) []) .ret))) := rfl
def vpre (dc : D) (y : Nat) : List D := [.rp [dc], .rp [yv y]]
def bxZ (l : Rat × Rat) : Obj := ⟨0, 0, (c2R l).map .d, false⟩
def Qpr (dc : D) (y : Nat) (l : Rat × Rat) : List D := [enc2 l, .rp [dc], .rp [yv y], .rc Qao (vpre dc y)]
section
variable [Its] {dc : D} {y : Nat} {l : Rat × Rat} {ps : List (List Rat)}
def zr_s1 (dc : D) (y : Nat) (l : Rat × Rat) : St := mkS [(1, .d (.rp [dc])), (2, .d (.rp [yv y])), (3, .d (.rc Qao (vpre dc y))), (4, .ptr [4] 0)] [([4], bxZ l)]
def zr_s2 (dc : D) (y : Nat) (l : Rat × Rat) (n : Int) : St := mkS [(2, .d (.rp [yv y])), (3, .d (.rc Qao (vpre dc y))), (4, .ptr [4] 0), (12, ai n)] [([4], bxZ l)]
def Qso (dc : D) (y : Nat) (l : Rat × Rat) (n : Int) (b : Bool) : St := mkS [(2, .d (.rp [yv y])), (3, .d (.rc Qao (vpre dc y))), (4, .ptr [4] 0), (12, ai n), (13, ab b)] [([4], bxZ l)]
def Qnb (dc : D) (y : Nat) (l : Rat × Rat) (b : Bool) : St := mkS [(2, .d (.rp [yv y])), (3, .d (.rc Qao (vpre dc y))), (4, .ptr [4] 0), (15, ab b)] [([4], bxZ l)]
def QlU (dc : D) (y : Nat) (l : Rat × Rat) (m : Rat) : St := mkS [(3, .d (.rc Qao (vpre dc y))), (4, .ptr [4] 0), (6, .ptr [6] 0)] [([4], bxZ l), ([6], boxR m)]
theorem zr_a : X G zr_A ⟨argF 0 (Qpr dc y l), hp0, []⟩ = some (.n, zr_s1 dc y l) := by
 obtain ⟨lo, hi⟩ := l
 simp -implicitDefEqProofs (maxSteps:=9^8) only [zr_A, sturm_zeros_1_1, C.fst7, Qpr, zr_s1, bxZ, enc2, c2R, argF, yv, go_sem, iv, bv, reduceCtorEq, ↓reduceIte, Nat.reduceEqDiff]
theorem zr_b [ItsB] (hr : RwC dc ps) (hn : ps.length ≤ 1000) {K : Nat} (hs : ∀ p ∈ ps, SzL K p ∧ p.length * (2 * K + 1) ≤ 40000000000) (h1 : sz l.1 ≤ K) (h2 : sz l.2 ≤ K) (hK : K ≤ 1000000000) : X G zr_B (zr_s1 dc y l) = some (.n, zr_s2 dc y l (cnt ps l.1 l.2)) := by
 have g := QfZ hr hn hs h1 h2 hK
 generalize cnt ps l.1 l.2 = c at *
 obtain ⟨lo, hi⟩ := l
 simp only [encR, iv] at g
 simp -implicitDefEqProofs (maxSteps:=9^8) only [zr_B, sturm_zeros_1_1, C.fst7, C.snd7, zr_s1, zr_s2, bxZ, c2R, yv, g, Qka, Qss, Qsu, List.map_cons, List.map_nil, go_sem, iv, bv, reduceCtorEq, ↓reduceIte, Nat.reduceEqDiff]
theorem zr_c {n : Int} : X G zr_C (zr_s2 dc y l n) = some (.n, Qso dc y l n (n == 0)) := by
 obtain ⟨lo, hi⟩ := l
 simp -implicitDefEqProofs (maxSteps:=9^8) only [zr_C, zr_blk, sturm_zeros_1_1, C.fst7, C.snd7, zr_s2, Qso, bxZ, c2R, yv, List.map_cons, List.map_nil, go_sem, iv, bv, reduceCtorEq, ↓reduceIte, Nat.reduceEqDiff]
theorem zr_d {n : Int} : X G zr_D (Qso dc y l n true) = some (.n, mkS [(5, ab true)] []) := by
 obtain ⟨lo, hi⟩ := l
 simp -implicitDefEqProofs (maxSteps:=9^8) only [zr_D, Qkt, zr_blk, sturm_zeros_1_1, C.fst7, C.snd7, Qso, bxZ, c2R, yv, Qac, List.map_cons, List.map_nil, go_sem, iv, bv, reduceCtorEq, ↓reduceIte, Nat.reduceEqDiff]
theorem zr_e {n : Int} : X G zr_E (Qso dc y l n false) = some (.n, Qnb dc y l (n == 1)) := by
 obtain ⟨lo, hi⟩ := l
 simp -implicitDefEqProofs (maxSteps:=9^8) only [zr_E, Qkt, zr_blk, sturm_zeros_1_1, C.fst7, C.snd7, Qso, Qnb, bxZ, c2R, yv, Qac, List.map_cons, List.map_nil, go_sem, iv, bv, reduceCtorEq, ↓reduceIte, Nat.reduceEqDiff]
theorem zr_m (h1 : sz l.1 ≤ 1000000000) (h2 : sz l.2 ≤ 1000000000) : X G (.seq (.keep [3, 4] [[4]]) zr_M) (Qnb dc y l false) = some (.n, QlU dc y l (mid l.1 l.2)) := by
 have g := Qlo h1 h2
 generalize mid l.1 l.2 = m at *
 obtain ⟨lo, hi⟩ := l
 simp only [encR, enc2, c2R, iv] at g
 simp -implicitDefEqProofs (maxSteps:=9^8) only [zr_M, sturm_zeros_1_1, C.fst7, C.snd7, Qnb, QlU, bxZ, boxR, c2R, yv, g, st4q, ld8q, Qac, List.map_cons, List.map_nil, go_sem, iv, bv, reduceCtorEq, ↓reduceIte, Nat.reduceEqDiff]
def zr_fn (dc : D) (y : Nat) : D := .fn Qao (vpre dc y ++ [.rc Qao (vpre dc y)])
def Qp2 (dc : D) (y : Nat) (l : Rat × Rat) (m : Rat) : St := ⟨upd (upd (upd (upd (upd (QlU dc y l m).fr 22 (.d (zr_fn dc y))) 23 (.ptr [4] 0)) 24 (.d (encR l.1))) 25 (.d (encR m))) 26 (.d (enc2 (l.1, m))), (QlU dc y l m).hp, []⟩
def QrG (dc : D) (y : Nat) (l : Rat × Rat) (m : Rat) (t : Bool) : St := { Qp2 dc y l m with fr := upd (Qp2 dc y l m).fr 27 (.d (.v (.bool t))) }
def zr_s7 (dc : D) (y : Nat) (l : Rat × Rat) (m : Rat) : St := ⟨upd (upd (upd (upd (upd (upd (QrG dc y l m true).fr 28 (.d (.v (.bool true)))) 29 (.d (zr_fn dc y))) 30 (.d (encR m))) 31 (.ptr [4] 4)) 32 (.d (encR l.2))) 33 (.d (enc2 (m, l.2))), (QlU dc y l m).hp, []⟩
def zr_t7 (dc : D) (y : Nat) (l : Rat × Rat) (m : Rat) (t : Bool) : St := { zr_s7 dc y l m with fr := upd (zr_s7 dc y l m).fr 34 (.d (.v (.bool t))) }
def Qor (dc : D) (y : Nat) (l : Rat × Rat) : St := ⟨upd (upd (Qnb dc y l true).fr 17 (.d (yv y))) 18 (.d (enc2 l)), (Qnb dc y l true).hp, []⟩
theorem zr_py : exs (Qaj G) zr_Y1 (Qnb dc y l true) = some (Qor dc y l) := by
 obtain ⟨lo, hi⟩ := l
 simp -implicitDefEqProofs (maxSteps:=9^8) only [zr_Y1, Qor, Qnb, bxZ, enc2, c2R, yv, Qka, ld8q, List.map_cons, List.map_nil, go_sem, iv, bv, reduceCtorEq, ↓reduceIte, Nat.reduceEqDiff]
theorem zr_qy (t : Bool) : exs (Qaj G) zr_Y2 { Qor dc y l with fr := upd (Qor dc y l).fr 19 (.d (.v (.bool t))) } = some ⟨upd (upd (Qor dc y l).fr 19 (.d (.v (.bool t)))) 5 (.d (.v (.bool t))), (Qor dc y l).hp, []⟩ := by
 obtain ⟨lo, hi⟩ := l
 simp -implicitDefEqProofs (maxSteps:=9^8) only [zr_Y2, Qor, Qnb, bxZ, enc2, c2R, yv, List.map_cons, List.map_nil, go_sem, iv, bv, reduceCtorEq, ↓reduceIte, Nat.reduceEqDiff]
theorem zr_v1 {m : Rat} : exs (Qaj G) zr_V1 (QlU dc y l m) = some (Qp2 dc y l m) := by
 obtain ⟨lo, hi⟩ := l
 simp -implicitDefEqProofs (maxSteps:=9^8) only [zr_V1, QlU, Qp2, zr_fn, bxZ, boxR, enc2, encR, c2R, yv, Qnm, ld4q, Qss, Qsu, Qel, Qcd, List.map_cons, List.map_nil, go_sem, iv, bv, reduceCtorEq, ↓reduceIte, Nat.reduceEqDiff]
theorem zr_v2 {m : Rat} : exs (Qaj G) Qp1 (QrG dc y l m true) = some (zr_s7 dc y l m) := by
 obtain ⟨lo, hi⟩ := l
 simp -implicitDefEqProofs (maxSteps:=9^8) only [Qp1, QrG, QlU, Qp2, zr_s7, zr_fn, bxZ, boxR, enc2, encR, c2R, yv, Qnm, ld4q, Qss, Qsu, Qel, Qcd, List.map_cons, List.map_nil, go_sem, iv, bv, reduceCtorEq, ↓reduceIte, Nat.reduceEqDiff]
theorem zr_v3 {m : Rat} (t : Bool) : ∃ s, exs (Qaj G) QnT (zr_t7 dc y l m t) = some s ∧ resL s sturm_zeros_1_1.res = some [.d (.v (.bool t))] := by
 obtain ⟨lo, hi⟩ := l
 refine ⟨_, by
  simp -implicitDefEqProofs (maxSteps:=9^8) only [QnT, zr_t7, QrG, QlU, Qp2, zr_s7, bxZ, boxR, c2R, List.map_cons, List.map_nil, go_sem, iv, bv, reduceCtorEq, ↓reduceIte, Nat.reduceEqDiff]
  rfl, rfl⟩
theorem zr_vf {m : Rat} : ∃ s, exs (Qaj G) (Qp1 ++ ⟨some 34, .calv (.t 29) [.t 33], some (28, true)⟩ :: QnT) (QrG dc y l m false) = some s ∧ resL s sturm_zeros_1_1.res = some [.d (.v (.bool false))] := by
 obtain ⟨lo, hi⟩ := l
 refine ⟨_, by
  simp -implicitDefEqProofs (maxSteps:=9^8) only [Qp1, QnT, QrG, QlU, Qp2, bxZ, boxR, c2R, List.cons_append, List.nil_append, List.map_cons, List.map_nil, go_sem, iv, bv, reduceCtorEq, ↓reduceIte, Nat.reduceEqDiff]
  rfl, rfl⟩
end
end Go.AM

/- sturm.zeros' closure that calls itself: what a call owes. -/
namespace Go.AM
open Go Go.RowKit Go.Proofs
theorem vis_okY : ∀ b, Tryz.f111.body = some b → okY b = true := by
 intro b hb
 have : (Tryz.f111.body.map okY) = some true := by kernel_rfl
 rw [hb] at this
 simpa using this
theorem vis_fn : ∃ fn, Tryz.prog.funcs[Qao]? = some fn ∧ fn.body.isSome = true ∧ fn.name ≠ "runtime.NumGoroutine" := ⟨_, Tryz.func111, by kernel_rfl, by
 have : (Tryz.f111.name == "runtime.NumGoroutine") = false := by kernel_rfl
 exact fun h => by rw [h] at this; simp at this⟩
theorem zr_len : zr_V.length = zr_V1.length + 10 := rfl
theorem vis_ok {dc : D} {ps : List (List Rat)} {xs : List (List D)} {y n : Nat} {K : Nat} (hr : RwC dc ps) (hn : ps.length ≤ 1000) (hs : ∀ p ∈ ps, SzL K p ∧ p.length * (2 * K + 1) ≤ 40000000000) (hK : K ≤ 1000000000) : ∀ (k : Nat) (l : Rat × Rat) (r : List (Rat × Rat)) (i : Nat) (S : Nat → Prop) (w0 : World) (J Jx : Held),
    wtZ K ps k l = some r → (∀ j q, r[j]? = some q → xs[i + j]? = some [enc2 q]) → Qga w0 J → Qga w0 Jx → Answers Tryz.prog n S w0 y J Jx xs → OwesY Tryz.prog S w0 J Jx Qao i r.length (Qpr dc y l)
  | 0, l, r, i, S, w0, J, Jx, hw, _, _, _, _ => by cases hw
  | k + 1, l, r, i, S, w0, J, Jx, hw, hx, hab, habx, hans => by
    rw [wtZ] at hw
    split at hw
    · rename_i hz
      refine owes_ok envP Tryz.func111 Qgr vis_okY rfl hab habx hans ?_
      intro S w0 J Jx a W hab habx hans hI
      have hE : EnvOk Tryz.prog G := envP
      rw [zr_shape]
      refine WY.seq ?_
      refine Inv.code hE hab hI rfl rfl zr_a ?_
      intro a1 W1 I1
      simp only [↓reduceIte]
      refine WY.seq (WY.seq ?_)
      refine Inv.code hE hab I1 rfl rfl (zr_b hr hn hs hz.1 hz.2 hK) ?_
      intro a2 W2 I2
      simp only [↓reduceIte]
      refine WY.blk (WY.seq ?_)
      refine Inv.code hE hab I2 rfl rfl zr_c ?_
      intro a3 W3 I3
      simp only [↓reduceIte]
      refine WY.cond (t := cnt ps l.1 l.2 == 0) (I3.bool rfl) (fun ht => ?_) (fun ht => ?_)
      · rw [ht] at I3
        have h0 : cnt ps l.1 l.2 = 0 := by simpa using ht
        rw [if_pos h0] at hw
        cases hw
        refine WY.seq (Inv.code hE hab I3 rfl rfl zr_d ?_)
        intro a4 W4 I4
        simp only [↓reduceIte]
        refine WY.ret ?_
        simp only [reduceCtorEq, ↓reduceIte]
        exact ⟨fun _ h => (by cases h), .inl ⟨_, rfl, I4⟩⟩
      · rw [ht] at I3
        have h0 : cnt ps l.1 l.2 ≠ 0 := by simpa using ht
        rw [if_neg h0] at hw
        refine WY.seq (Inv.code hE hab I3 rfl rfl zr_e ?_)
        intro a4 W4 I4
        simp only [↓reduceIte]
        refine WY.cond (t := cnt ps l.1 l.2 == 1) (I4.bool rfl) (fun ht1 => ?_) (fun ht1 => ?_)
        · rw [ht1] at I4
          have h1 : cnt ps l.1 l.2 = 1 := by simpa using ht1
          rw [if_pos h1] at hw
          cases hw
          refine WY.seq ?_
          refine Inv.yield hE hab habx hans I4 (pre := zr_Y1) (post := zr_Y2) (d := 19) (ty := 17) (es := [.t 18]) (s1 := Qor dc y l) (x := [enc2 l]) zr_py rfl rfl (by have := hx 0 l rfl; simpa using this) (zr_qy true) (zr_qy false) ?_ ?_
          · intro a5 W5 I5
            simp only [↓reduceIte]
            refine WY.ret ?_
            simp only [reduceCtorEq, ↓reduceIte]
            exact ⟨fun _ h => (by cases h), .inl ⟨_, rfl, I5⟩⟩
          · intro a5 W5 I5
            simp only [↓reduceIte]
            refine WY.ret ?_
            simp only [reduceCtorEq, ↓reduceIte]
            exact ⟨fun _ h => (by cases h), .inr ⟨_, _, rfl, I5⟩⟩
        · rw [ht1] at I4
          have h1 : cnt ps l.1 l.2 ≠ 1 := by simpa using ht1
          rw [if_neg h1] at hw
          simp only [Option.bind_eq_some_iff, Option.map_eq_some_iff] at hw
          obtain ⟨r1, hw1, r2, hw2, rfl⟩ := hw
          refine WY.skip ?_
          simp only [reduceCtorEq, ↓reduceIte]
          refine WY.seq (Inv.code hE hab I4 (c := .seq (.keep [3, 4] [[4]]) zr_M) rfl rfl (zr_m (by omega) (by omega)) ?_)
          intro a5 W5 I5
          simp only [↓reduceIte]
          have hfin : ∀ {t : Bool} {J' : Held} {s : St} {j : Nat} {a' : Act} {W' : World}, resL s sturm_zeros_1_1.res = some [.d (.v (.bool t))] → Inv S w0 Tryz.f111.ntmps J' s j a' W' →
              ((t = true ∧ J' = J ∧ j = i + (r1 ++ r2).length) ∨ (t = false ∧ J' = Jx)) → WY Tryz.prog Tryz.f111.ntmps (n + 1) .ret (fun e a' W' => (∀ id, e ≠ .x id) ∧ ((∃ st, resL st sturm_zeros_1_1.res = some [.d (.v (.bool true))] ∧ Inv S w0 Tryz.f111.ntmps J st (i + (r1 ++ r2).length) a' W') ∨ ∃ st i', resL st sturm_zeros_1_1.res = some [.d (.v (.bool false))] ∧ Inv S w0 Tryz.f111.ntmps Jx st i' a' W')) a' W' := by
            intro t J' s j a' W' hres hI' hc
            refine WY.ret ⟨fun _ h => (by cases h), ?_⟩
            rcases hc with ⟨rfl, rfl, rfl⟩ | ⟨rfl, rfl⟩
            · exact .inl ⟨_, hres, hI'⟩
            · exact .inr ⟨_, _, hres, hI'⟩
          refine WY.seq (Qn9 (os := zr_V) (k0 := 5) rfl fun ops hO => ?_)
          rw [zr_len]
          have hx1 : ∀ j q, r1[j]? = some q → xs[i + j]? = some [enc2 q] := fun j q hq => hx j q (by rw [List.getElem?_append_left (List.getElem?_eq_some_iff.1 hq).1]; exact hq)
          have hx2 : ∀ j q, r2[j]? = some q → xs[i + r1.length + j]? = some [enc2 q] := fun j q hq => by
            have := hx (r1.length + j) q (by rw [List.getElem?_append_right (by omega)]; simpa using hq)
            rwa [← Nat.add_assoc] at this
          refine QjF hE hab hO I5 (B := zr_V1) (fun j o hj => by
            rw [Nat.zero_add, zr_V, List.getElem?_append_left (List.getElem?_eq_some_iff.1 hj).1]; exact hj) zr_v1 ?_
          intro a6 W6 I6
          refine wo_call hE hab habx hO I6 (k := 5) (len := 9) (d := 27) (ty := 22) (es := [.t 26]) (g := none) (x := [enc2 (l.1, mid l.1 l.2)]) (caps := vpre dc y ++ [.rc Qao (vpre dc y)]) rfl rfl rfl rfl vis_fn
            (vis_ok hr hn hs hK k _ r1 i S w0 J Jx hw1 hx1 hab habx hans) ?_ ?_
          · intro a7 W7 I7
            refine QjF hE hab hO I7 (k := 6) (len := 3) (B := Qp1) (fun j o hj => ?_) zr_v2 ?_
            · have hj6 : j < 6 := (List.getElem?_eq_some_iff.1 hj).1
              rw [← hj]
              match j, hj6 with
              | 0, _ => rfl
              | 1, _ => rfl
              | 2, _ => rfl
              | 3, _ => rfl
              | 4, _ => rfl
              | 5, _ => rfl
            intro a8 W8 I8
            refine wo_call hE hab habx hO I8 (k := 12) (len := 2) (d := 34) (ty := 29) (es := [.t 33]) (g := some (28, true)) (x := [enc2 (mid l.1 l.2, l.2)]) (caps := vpre dc y ++ [.rc Qao (vpre dc y)]) rfl rfl rfl rfl vis_fn
              (vis_ok hr hn hs hK k _ r2 (i + r1.length) S w0 J Jx hw2 hx2 hab habx hans) ?_ ?_
            · intro a9 W9 I9
              obtain ⟨s, h1, h2⟩ := zr_v3 (dc := dc) (y := y) (l := l) (m := mid l.1 l.2) true
              refine QjF hE hab hO I9 (k := 13) (len := 0) (B := QnT) (fun j o hj => ?_) h1 ?_
              · have hj6 : j < 2 := (List.getElem?_eq_some_iff.1 hj).1
                rw [← hj]
                match j, hj6 with
                | 0, _ => rfl
                | 1, _ => rfl
              intro a10 W10 I10
              refine QnG ?_
              simp only [↓reduceIte]
              exact hfin h2 I10 (.inl ⟨rfl, rfl, by rw [List.length_append, Nat.add_assoc]⟩)
            · intro i' a9 W9 I9
              obtain ⟨s, h1, h2⟩ := zr_v3 (dc := dc) (y := y) (l := l) (m := mid l.1 l.2) false
              refine QjF hE habx hO I9 (k := 13) (len := 0) (B := QnT) (fun j o hj => ?_) h1 ?_
              · have hj6 : j < 2 := (List.getElem?_eq_some_iff.1 hj).1
                rw [← hj]
                match j, hj6 with
                | 0, _ => rfl
                | 1, _ => rfl
              intro a10 W10 I10
              refine QnG ?_
              simp only [↓reduceIte]
              exact hfin h2 I10 (.inr ⟨rfl, rfl⟩)
          · intro i' a7 W7 I7
            obtain ⟨s, h1, h2⟩ := zr_vf (dc := dc) (y := y) (l := l) (m := mid l.1 l.2)
            refine QjF hE habx hO I7 (k := 6) (len := 0) (B := Qp1 ++ ⟨some 34, .calv (.t 29) [.t 33], some (28, true)⟩ :: QnT) (fun j o hj => ?_) h1 ?_
            · have hj6 : j < 9 := (List.getElem?_eq_some_iff.1 hj).1
              rw [← hj]
              match j, hj6 with
              | 0, _ => rfl
              | 1, _ => rfl
              | 2, _ => rfl
              | 3, _ => rfl
              | 4, _ => rfl
              | 5, _ => rfl
              | 6, _ => rfl
              | 7, _ => rfl
              | 8, _ => rfl
            intro a8 W8 I8
            refine QnG ?_
            simp only [↓reduceIte]
            exact hfin h2 I8 (.inr ⟨rfl, rfl⟩)
    · cases hw
end Go.AM

/- sturm.zeros' iterator: what it yields. -/
namespace Go.AM
open Go Go.RowKit Go.Proofs
def zo_A : C := sturm_zeros_1.body.fst7
def zo_B : C := sturm_zeros_1.body.snd7.fst7
def zo_C : C := .reg [⟨some 5, .mkfn Qao [.t 1, .t 3, .t 4] false, none⟩, ⟨none, .store 1 (.t 4) (.t 5), none⟩] []
def zo_D1 : List O := [⟨some 6, .load none (.t 4), none⟩, ⟨some 7, .load (some 8) (.t 2), none⟩]
def zo_D : List O := zo_D1 ++ [⟨some 8, .calv (.t 6) [.t 7], none⟩]
theorem zo_shape : sturm_zeros_1.body.er = .seq zo_A.er (.seq zo_B.er (.seq zo_C.er (.reg (zo_D.map O.er) []))) := rfl
def QoC (dc : D) : A := .fn Qao [.d (.rp [dc]), .ptr [3] 0, .ptr [4] 0]
def Qck (dc : D) (l : Rat × Rat) : List D := [.rp [dc], .rp (c2R l)]
theorem yc_c (y : Nat) : QaB (.d (.v (.func (.yield y) #[] #[]))) = [.d (.v (.func (.yield y) #[] #[]))] := rfl
theorem yc_o (y : Nat) : A.one (.d (.v (.func (.yield y) #[] #[]))) = true := rfl
theorem nf_c : QaB (.d (.v .nilFunc)) = [.d (.v .nilFunc)] := rfl
theorem nf_o : A.one (.d (.v .nilFunc)) = true := rfl
theorem fc_c (f : Nat) (xs : List A) : QaB (.fn f xs) = [.fn f xs] := rfl
theorem fc_o (f : Nat) (xs : List A) : A.one (.fn f xs) = true := rfl
theorem loadA_rp7 (h : Hp) (sz : Option Nat) (cs : List D) : Qci h sz (.d (.rp cs)) = QjE sz cs := rfl
section
variable [Its] {dc : D} {y : Nat} {l : Rat × Rat}
def zo_s1 (dc : D) (y : Nat) (l : Rat × Rat) : St := mkS [(1, .d (.rp [dc])), (2, .d (.rp (c2R l))), (3, .ptr [3] 0)] [([3], ⟨0, 0, [.d (yv y)], false⟩)]
def QpS (dc : D) (y : Nat) (l : Rat × Rat) : St := mkS [(1, .d (.rp [dc])), (2, .d (.rp (c2R l))), (3, .ptr [3] 0), (4, .ptr [4] 0)] [([3], ⟨0, 0, [.d (yv y)], false⟩), ([4], ⟨0, 0, [.d (.v .nilFunc)], false⟩)]
def Qst (dc : D) (y : Nat) (l : Rat × Rat) : St := ⟨upd (QpS dc y l).fr 5 (QoC dc), hupd (QpS dc y l).hp [4] ⟨0, 0, [QoC dc], false⟩, []⟩
def Qr5 (dc : D) (y : Nat) (l : Rat × Rat) : St := ⟨upd (upd (Qst dc y l).fr 6 (QoC dc)) 7 (.d (enc2 l)), (Qst dc y l).hp, []⟩
theorem zo_a : X G zo_A ⟨argF 0 (yv y :: Qck dc l), hp0, []⟩ = some (.n, zo_s1 dc y l) := by
 obtain ⟨lo, hi⟩ := l
 simp -implicitDefEqProofs (maxSteps:=9^8) only [zo_A, sturm_zeros_1, C.fst7, C.snd7, Qck, zo_s1, c2R, argF, yv, yc_c, yc_o, Qc7, refs, List.all_cons, List.all_nil, Bool.and_true, go_sem, iv, bv, reduceCtorEq, ↓reduceIte, Nat.reduceEqDiff]
theorem zo_b : X G zo_B (zo_s1 dc y l) = some (.n, QpS dc y l) := by
 obtain ⟨lo, hi⟩ := l
 simp -implicitDefEqProofs (maxSteps:=9^8) only [zo_B, sturm_zeros_1, C.fst7, C.snd7, zo_s1, QpS, c2R, yv, yc_c, yc_o, nf_c, nf_o, fc_c, fc_o, Qc7, refs, List.all_cons, List.all_nil, Bool.and_true, List.map_cons, List.map_nil, go_sem, iv, bv, reduceCtorEq, ↓reduceIte, Nat.reduceEqDiff]
theorem zo_c : X G zo_C (QpS dc y l) = some (.n, Qst dc y l) := by
 obtain ⟨lo, hi⟩ := l
 simp -implicitDefEqProofs (maxSteps:=9^8) only [zo_C, QpS, Qst, QoC, c2R, yv, allD, QaB, Qab, yc_c, yc_o, nf_c, nf_o, fc_c, fc_o, Qc7, refs, List.all_cons, List.all_nil, Bool.and_true, List.map_cons, List.map_nil, go_sem, iv, bv, reduceCtorEq, ↓reduceIte, Nat.reduceEqDiff]
theorem zo_d : exs (Qaj G) zo_D1 (Qst dc y l) = some (Qr5 dc y l) := by
 obtain ⟨lo, hi⟩ := l
 simp -implicitDefEqProofs (maxSteps:=9^8) only [zo_D1, QpS, Qst, Qr5, QoC, enc2, c2R, yv, Qaa, loadA_rp7, yc_c, yc_o, nf_c, nf_o, fc_c, fc_o, Qc7, refs, List.all_cons, List.all_nil, Bool.and_true, List.map_cons, List.map_nil, go_sem, iv, bv, reduceCtorEq, ↓reduceIte, Nat.reduceEqDiff]
end
end Go.AM

/- sturm.zeros' iterator: what it owes. -/
namespace Go.AM
open Go Go.RowKit Go.Proofs
theorem zo_okY : ∀ b, Tryz.f110.body = some b → okY b = true := by
 intro b hb
 have : (Tryz.f110.body.map okY) = some true := by kernel_rfl
 rw [hb] at this
 simpa using this
theorem rep_fn3 {m : Key → Nat} {hp : Hp} {T : Nat → Prop} {w : World} {f : Nat} {x1 x2 x3 : A} {z : Value} (h : RepA m hp T w (.fn f [x1, x2, x3]) z) : ∃ q1 q2 q3, z = .func (.func f) #[] [q1, q2, q3].toArray ∧ RepA m hp T w x1 q1 ∧ RepA m hp T w x2 q2 ∧ RepA m hp T w x3 q3 := by
 cases h with
 | fn _ _ vs hl =>
  cases hl with
  | cons _ _ q1 _ h1 t =>
   cases t with
   | cons _ _ q2 _ h2 t =>
    cases t with
    | cons _ _ q3 _ h3 t =>
     cases t
     exact ⟨q1, q2, q3, rfl, h1, h2, h3⟩
theorem QmR {m : Key → Nat} {hp : Hp} {T : Nat → Prop} {w : World} {k : Key} {off : Nat} {o : Obj} {v : Value} (h : RepA m hp T w (.ptr k off) v) (ho : hp k = some o) : v = .pointer (some ⟨m k, off, none⟩) := by
 cases h with
 | ptr _ _ _ _ hv => exact hv o ho
theorem Ql4 {w : World} {b : Nat} {cs : Array Value} {T : TypeId} {fz : Nat × Nat} {v : Value} (h : w.heap[b]? = some (Go.Obj.cells cs T fz)) (hv : cs[0]? = some v) : w.cell? ⟨b, 0, none⟩ = some v := by
 rw [Lib.cell_of_heap h]; exact hv
theorem Inv.empty {S : Nat → Prop} {w0 W W' : World} {N : Nat} {J J' : Held} {st : St} {i j : Nat} {a : Act} {m : Key → Nat} {L L' : Nat → Prop} (h : Inv1 S w0 N J st i a W m L) (f1 : Foot L W W') (f3 : ∀ b, L' b → b < W'.heap.size) (hj : J' j L' (fun _ => False) W') (dst : Option Nat) (v : Value) : Inv S w0 N J' ⟨fr0, hp0, []⟩ j (a.put dst v) W' := by
 have hV : (fun b => Live m hp0 b) = fun _ => False := by
  funext b; exact propext ⟨fun ⟨_, _, h, _⟩ => by simp [hp0] at h, False.elim⟩
 have hnd : (a.put dst v).defers = [] := by
  have := (show Inv S w0 N J st i a W from ⟨m, L, h⟩).nodefer
  cases dst <;> exact this
 have hts : (a.put dst v).tmps.size = N := by
  have := h.rel.ts
  cases dst with
  | none => exact this
  | some d => simpa [Act.put] using this
 refine ⟨m, L', ⟨⟨fun _ _ hx => (by cases hx), fun _ _ h => (by cases h), fun _ _ _ _ h => (by cases h), fun _ _ h => (by cases h), fun _ _ _ h => (by cases h), fun _ _ h => (by cases h), fun _ _ h => (by cases h), Foot.refl _ _, (by rw [hnd]; exact Marks.nil _ _ _), hts, fun b hb => ⟨.inr (by have := h.sz; have := f1.size; omega), fun hl => by have := f3 b hl; omega⟩, fun _ _ h => (by cases h)⟩, ?_, f3, fun b ⟨_, _, h, _⟩ => (by cases h), Nat.le_trans h.sz f1.size⟩⟩
 show J' j L' (fun b => Live m hp0 b) W'
 rw [hV]; exact hj
theorem zeros_it {dc : D} {ps : List (List Rat)} {l : Rat × Rat} {r : List (Rat × Rat)} {K k : Nat} (hr : RwC dc ps) (hn : ps.length ≤ 1000) (hs : ∀ p ∈ ps, SzL K p ∧ p.length * (2 * K + 1) ≤ 40000000000) (hK : K ≤ 1000000000) (hw : wtZ K ps k l = some r) : ItOk Tryz.prog QaC (Qck dc l) (r.map fun q => [enc2 q]) := by
 refine it_ok envP Tryz.func110 Qhe zo_okY rfl rfl ?_
 intro n y S w0 J Jx a W hab habx hans hI
 have hE : EnvOk Tryz.prog G := envP
 rw [zo_shape]
 refine WY.seq (Inv.code hE hab hI rfl rfl zo_a ?_)
 intro a1 W1 I1
 simp only [↓reduceIte]
 refine WY.seq (Inv.code hE hab I1 rfl rfl zo_b ?_)
 intro a2 W2 I2
 simp only [↓reduceIte]
 refine WY.seq (Inv.code hE hab I2 rfl rfl zo_c ?_)
 intro a3 W3 I3
 simp only [↓reduceIte]
 refine Qn9 (os := zo_D) (k0 := 2) rfl fun ops hO => ?_
 refine QjF hE hab hO I3 (B := zo_D1) (len := 1) (fun j o hj => by
  rw [Nat.zero_add, zo_D, List.getElem?_append_left (List.getElem?_eq_some_iff.1 hj).1]; exact hj) zo_d ?_
 rintro a4 W4 ⟨m, L, h⟩
 obtain ⟨o, c, hoo, hop, hce, hargs, hd, hgg⟩ := QpT hO (k := 2) (show zo_D[2]? = some ⟨some 8, .calv (.t 6) [.t 7], none⟩ from rfl)
 obtain ⟨q1, q3, q4, hz, h1, h3, h4⟩ := rep_fn3 (h.rel.fr 6 (QoC dc) rfl)
 have ho3 : (Qr5 dc y l).hp [3] = some ⟨0, 0, [.d (yv y)], false⟩ := rfl
 have ho4 : (Qr5 dc y l).hp [4] = some ⟨0, 0, [QoC dc], false⟩ := rfl
 obtain ⟨cs3, T3, z3, O3⟩ := h.rel.obj [3] _ ho3
 obtain ⟨cs4, T4, z4, O4⟩ := h.rel.obj [4] _ ho4
 obtain ⟨v3, c3, r3⟩ := O3.rep 0 (.d (yv y)) rfl
 obtain ⟨v4, c4, r4⟩ := O4.rep 0 (QoC dc) rfl
 obtain ⟨p1, p3, p4, hp, g1, g3, g4⟩ := rep_fn3 r4
 have e3 := QmR h3 ho3
 have e4 := QmR h4 ho4
 have e3' := QmR g3 ho3
 have e4' := QmR g4 ho4
 have ev : v3 = .func (.yield y) #[] #[] := QeB r3
 subst e3 e4 e3' e4' ev hp
 obtain ⟨hrep, _⟩ := Qeu h.rel hargs (show allE (Qr5 dc y l) [.t 7] = some ([enc2 l].map .d) from rfl)
 have hra := QjT _ _ hrep
 have hm : ∀ b, Im (fun b => (S b ∨ w0.heap.size ≤ b) ∧ ¬ L b) m (Qr5 dc y l).hp W4 b → ((S b ∨ w0.heap.size ≤ b) ∧ b < W4.heap.size ∧ ¬ (fun _ => False) b ∧ ¬ L b) := fun b hb => ⟨hb.1.1, hb.2.1, id, hb.1.2⟩
 have s3 := h.rel.ge [3] _ ho3
 have s4 := h.rel.ge [4] _ ho4
 have t3 := h.rel.lt ho3
 have t4 := h.rel.lt ho4
 have cy : RepD (fun b => (S b ∨ w0.heap.size ≤ b) ∧ b < W4.heap.size ∧ ¬ (fun _ => False) b ∧ ¬ L b) W4 (.rp [yv y]) (.pointer (some ⟨m [3], 0, none⟩)) := by
  refine .rp [yv y] ⟨m [3], 0, none⟩ [.func (.yield y) #[] #[]] ⟨s3.1, t3, id, s3.2⟩ (.cons _ _ _ _ (.v _) .nil) ?_
  intro j v hj
  match j with
  | 0 => cases hj; exact Ql4 O3.at_ c3
  | j + 1 => cases hj
 have cv : RepD (fun b => (S b ∨ w0.heap.size ≤ b) ∧ b < W4.heap.size ∧ ¬ (fun _ => False) b ∧ ¬ L b) W4 (.rc Qao (vpre dc y)) (.pointer (some ⟨m [4], 0, none⟩)) :=
  .rc Qao (vpre dc y) ⟨m [4], 0, none⟩ [p1, .pointer (some ⟨m [3], 0, none⟩)] ⟨s4.1, t4, id, s4.2⟩ (.cons _ _ _ _ ((Qf9 g1).mono (w' := W4) hm (fun _ _ => rfl)) (.cons _ _ _ _ cy .nil)) (Ql4 O4.at_ c4)
 have hra' := hra.mono (w' := W4) hm (fun _ _ => rfl)
 have hd1 := (Qf9 h1).mono (w' := W4) hm (fun _ _ => rfl)
 have hrl := hra'.append (RepL.cons _ _ _ _ hd1 (RepL.cons _ _ _ _ cy (RepL.cons _ _ _ _ cv RepL.nil)))
 have hJ : J 0 L (fun _ => False) W4 := hab 0 L _ _ W4 W4 h.j (Foot.refl _ _) (fun _ hb => hb.elim) (fun _ hb => hb.elim)
 have O := vis_ok hr hn hs hK k l r 0 S w0 J Jx hw (fun j q hq => by rw [Nat.zero_add, List.getElem?_map, hq]; rfl) hab habx hans L (fun _ => False) W4 _ hJ (fun _ hb => hb.elim) h.lt h.sz hrl
 refine Qq0 (len := 0) hoo hop hce (Qd4 h.rel hgg rfl rfl) hz vis_fn (O.mono ?_)
 rintro e W5 ⟨L', f1, f2, f3, f4⟩
 have hlen : (r.map fun q => [enc2 q]).length = r.length := List.length_map ..
 rcases f4 with ⟨rfl, hj⟩ | ⟨rfl, i', hj⟩
 ·refine ⟨_, rfl, QnG ⟨fun _ h => (by cases h), .inl ⟨⟨fr0, hp0, []⟩, ?_⟩⟩⟩
  rw [hlen]
  rw [Nat.zero_add] at hj
  exact Inv.empty h f1 f3 hj _ _
 ·exact ⟨_, rfl, QnG ⟨fun _ h => (by cases h), .inr ⟨⟨fr0, hp0, []⟩, i', Inv.empty h f1 f3 hj _ _⟩⟩⟩
end Go.AM

/- The seat's iterators: Backward and sturm.zeros. -/
namespace Go.AM
open Go Go.RowKit Go.Proofs
theorem RwC.inj {d : D} {ps qs : List (List Rat)} (h : RwC d ps) (h' : RwC d qs) : ps = qs := by
  obtain ⟨ds, h1, h2, h3⟩ := h
  obtain ⟨es, k1, k2, k3⟩ := h'
  have e : ds = es := by
    rcases h3 with rfl | ⟨rfl, rfl⟩
    · rcases k3 with k3 | ⟨k3, _⟩
      · simp only [D.row.injEq] at k3; exact k3.2
      · cases k3
    · rcases k3 with k3 | ⟨_, rfl⟩
      · cases k3
      · rfl
  subst e
  refine List.ext_getElem (by omega) fun i hi hj => ?_
  have := (h2 i hi).inj (k2 i hj)
  simpa [List.getD_eq_getElem?_getD, List.getElem?_eq_getElem hi, List.getElem?_eq_getElem hj] using this
theorem c2R_inj {l m : Rat × Rat} (h : c2R l = c2R m) : l = m := by
 obtain ⟨a, b⟩ := l
 obtain ⟨c, d⟩ := m
 simp only [c2R, List.cons.injEq, D.v.injEq, Value.bool.injEq, true_and, and_true] at h
 obtain ⟨h1, h2, h3, h4, h5, h6⟩ := h
 rw [QpD h1 h2 h3, QpD h4 h5 h6]
theorem Qny {K : Nat} {ps : List (List Rat)} : ∀ (k k' : Nat) (l : Rat × Rat) (r r' : List (Rat × Rat)), wtZ K ps k l = some r → wtZ K ps k' l = some r' → r = r'
 | 0, _, _, _, _, h, _ => by cases h
 | k + 1, 0, _, _, _, _, h => by cases h
 | k + 1, k' + 1, l, r, r', h, h' => by
  rw [wtZ] at h h'
  by_cases hz : sz l.1 ≤ K ∧ sz l.2 ≤ K
  ·rw [if_pos hz] at h h'
   by_cases h0 : cnt ps l.1 l.2 = 0
   ·rw [if_pos h0] at h h'; cases h; cases h'; rfl
   ·rw [if_neg h0] at h h'
    by_cases h1 : cnt ps l.1 l.2 = 1
    ·rw [if_pos h1] at h h'; cases h; cases h'; rfl
    ·rw [if_neg h1] at h h'
     simp only [Option.bind_eq_some_iff, Option.map_eq_some_iff] at h h'
     obtain ⟨a, a1, b, b1, rfl⟩ := h
     obtain ⟨a', a1', b', b1', rfl⟩ := h'
     rw [Qny k k' _ a a' a1 a1', Qny k k' _ b b' b1 b1']
  ·rw [if_neg hz] at h; cases h
def KZ : Nat := 1000000000
def ZOk (ds : List D) (xs : List (List D)) : Prop := ∃ dc ps l r k, ds = Qck dc l ∧ RwC dc ps ∧ ps.length ≤ 1000 ∧ (∀ p ∈ ps, SzL KZ p ∧ p.length * (2 * KZ + 1) ≤ 40000000000) ∧ wtZ KZ ps k l = some r ∧ xs = r.map fun q => [enc2 q]
theorem ZOk.uniq {ds : List D} {xs ys : List (List D)} (h : ZOk ds xs) (h' : ZOk ds ys) : xs = ys := by
 obtain ⟨dc, ps, l, r, k, e, h1, _, _, h2, rfl⟩ := h
 obtain ⟨dc', ps', l', r', k', e', h1', _, _, h2', rfl⟩ := h'
 rw [e] at e'
 simp only [Qck, List.cons.injEq, D.rp.injEq, and_true] at e'
 obtain ⟨rfl, e2⟩ := e'
 have := c2R_inj e2
 subst this
 have := h1.inj h1'
 subst this
 rw [Qny k k' l r r' h2 h2']
open Classical in
noncomputable abbrev itsZ : Its := { it := fun f ds => if f = Qag then QjW ds else if f = QaC then (if h : ∃ xs, ZOk ds xs then some (Classical.choose h) else none) else none }
theorem itsBZ : @ItsB itsZ := @ItsB.mk itsZ fun _ => if_pos rfl
open Classical in
theorem itsZ_at {dc : D} {ps : List (List Rat)} {l : Rat × Rat} {r : List (Rat × Rat)} {k : Nat} (h1 : RwC dc ps) (h2 : ps.length ≤ 1000) (h3 : ∀ p ∈ ps, SzL KZ p ∧ p.length * (2 * KZ + 1) ≤ 40000000000) (h4 : wtZ KZ ps k l = some r) : (@G itsZ).it QaC (Qck dc l) = some (r.map fun q => [enc2 q]) := by
 have ho : ZOk (Qck dc l) (r.map fun q => [enc2 q]) := ⟨dc, ps, l, r, k, rfl, h1, h2, h3, h4, rfl⟩
 have hex : ∃ xs, ZOk (Qck dc l) xs := ⟨_, ho⟩
 show (if QaC = Qag then QjW (Qck dc l) else if QaC = QaC then (if h : ∃ xs, ZOk (Qck dc l) xs then some (Classical.choose h) else none) else none) = _
 rw [if_neg (by decide), if_pos rfl, dif_pos hex]
 exact congrArg some ((Classical.choose_spec hex).uniq ho)
open Classical in
theorem envZ : EnvOk Tryz.prog (@G itsZ) := @env_ok itsZ (fun f ds xs h => by
  have h' : (if f = Qag then QjW ds else if f = QaC then (if h : ∃ xs, ZOk ds xs then some (Classical.choose h) else none) else none) = some xs := h
  split at h'
  · rename_i hf
    rw [hf]
    exact QnX h'
  · split at h'
    · rename_i hf
      split at h'
      · rename_i hex
        cases h'
        obtain ⟨dc, ps, l, r, k, e, h1, h2, h3, h4, h5⟩ := Classical.choose_spec hex
        rw [hf, h5, e]
        exact zeros_it h1 h2 h3 (by unfold KZ; omega) h4
      · cases h'
    · cases h') (fun _ _ => rfl)
end Go.AM

/- slices.Collect over sturm.zeros; sturm.zeros; sturm.Isolate. -/
namespace Go.AM
open Go Go.RowKit Go.Proofs
def cAs : List (Rat × Rat) → List D
 | [] => []
 | l :: r => c2R l ++ cAs r
def rowA (r : List (Rat × Rat)) : D := .row r.length (cAs r)
theorem cAs_len : ∀ r, (cAs r).length = r.length * 8
 | [] => rfl
 | l :: r => by rw [cAs, List.length_append, cAs_len r, List.length_cons]; simp [c2R]; omega
theorem cAs_app : ∀ r s, cAs (r ++ s) = cAs r ++ cAs s
 | [], s => rfl
 | l :: r, s => by rw [List.cons_append, cAs, cAs, cAs_app r s, List.append_assoc]
theorem c2R_one (l : Rat × Rat) : (c2R l).all D.one = true := by
 simp only [c2R, List.all_cons, List.all_nil, Bool.and_true, Bool.and_eq_true]
 exact ⟨rfl, QlV _, rfl, QlV _, rfl, QlV _, rfl, QlV _⟩
def gHs (r : List (Rat × Rat)) : List (Key × Obj) := if r = [] then [([2], ⟨0, 0, [.d (.z true)], false⟩)] else [([2], ⟨0, 0, [.own [11] r.length], false⟩), ([11], ⟨8, r.length, (cAs r).map .d, false⟩)]
def QnM : Fr := frL [(2, .ptr [2] 0)]
theorem rep1_8A (a b c d e f g h : D) : rep 1 [a, b, c, d, e, f, g, h] = [a, b, c, d, e, f, g, h] := rfl
theorem ldn1 (a : A) : Qaa none 0 [a] = some a := rfl
theorem stn1 (a b : A) : Qab 0 [b] [a] = some [b] := rfl
theorem own_c (k : Key) (n : Nat) : QaB (.own k n) = [.own k n] := rfl
theorem own_o (k : Key) (n : Nat) : A.one (.own k n) = true := rfl
theorem QmY (ks : List Key) : ∀ r : List D, Qc7 ks (r.map A.d) = true
 | [] => rfl
 | x :: r => by simp only [List.map_cons, Qc7, refs, QmY ks r, Bool.and_self]
variable [Its]
theorem as_round (q : Rat × Rat) (r : List (Rat × Rat)) (hr : r.length ≤ 100000) (xs : List (List D)) :
    QcU (X G) [7] slices_AppendSeq_2_api_Rat_2_api_Rat_a0 slices_AppendSeq_2_api_Rat_2_api_Rat_b0 QnM [] ([enc2 q] :: xs) (hpL (gHs r)) = QcU (X G) [7] slices_AppendSeq_2_api_Rat_2_api_Rat_a0 slices_AppendSeq_2_api_Rat_2_api_Rat_b0 QnM [] xs (hpL (gHs (r ++ [q]))) := by
  have e0 : gHs (r ++ [q]) = [([2], ⟨0, 0, [.own [11] (r.length + 1)], false⟩), ([11], ⟨8, r.length + 1, ((cAs r ++ c2R q).map .d), false⟩)] := by
    unfold gHs
    rw [if_neg (by simp), List.length_append, List.length_singleton, cAs_app]
    simp only [cAs, List.append_nil]
  rw [e0]
  have o1 := c2R_one q
  have n8 : (c2R q).length = 8 := rfl
  have nr := cAs_len r
  by_cases h0 : r = []
  · subst h0
    have hb : (128 ≤ bound) = True := eq_true (by unfold bound; omega)
    have hb1 : (1 * 128 ≤ bound) = True := eq_true (by unfold bound; omega)
    obtain ⟨lo, hi⟩ := q
    simp only [c2R] at o1 n8
    simp -implicitDefEqProofs (maxSteps:=9^8) only [QcU, slices_AppendSeq_2_api_Rat_2_api_Rat_a0, slices_AppendSeq_2_api_Rat_2_api_Rat_b0, QnM, gHs, enc2, c2R, cAs, hb, hb1, o1, n8, putL, rep1_8A, st8q, ld8q, ldn1, stn1, own_c, own_o, QmY, Qac, srcS, src, allD, List.map_cons, List.map_nil, List.length_nil, Nat.zero_add, List.nil_append, go_sem, iv, bv, reduceCtorEq, ↓reduceIte, Nat.reduceEqDiff]
  · have e1 : gHs r = [([2], ⟨0, 0, [.own [11] r.length], false⟩), ([11], ⟨8, r.length, (cAs r).map .d, false⟩)] := if_neg h0
    rw [e1]
    have n3 : ((cAs r).map A.d).length = r.length * 8 := by rw [List.length_map, nr]
    have n4 : ((r.length + 1) * 128 ≤ bound) = True := eq_true (by unfold bound; omega)
    have n5 : (cAs r).map A.d ++ (c2R q).map A.d = (cAs r ++ c2R q).map A.d := (List.map_append ..).symm
    obtain ⟨lo, hi⟩ := q
    simp only [c2R, List.map_cons, List.map_nil] at o1 n8 n5
    simp -implicitDefEqProofs (maxSteps:=9^8) only [QcU, slices_AppendSeq_2_api_Rat_2_api_Rat_a0, slices_AppendSeq_2_api_Rat_2_api_Rat_b0, QnM, enc2, c2R, n3, n4, n5, o1, n8, putL, rep1_8A, st8q, ld8q, ldn1, stn1, own_c, own_o, QmY, Qac, srcS, src, allD, List.map_cons, List.map_nil, go_sem, iv, bv, reduceCtorEq, ↓reduceIte, Nat.reduceEqDiff]
end Go.AM

/- sturm.Bound, ref07.Bound. -/
namespace Go.AM
open Go Go.RowKit
def abR (q : Rat) : Rat := if q < 0 then -q else q
def bdQ (p : List Rat) (i : Nat) : Rat := p.getD i 0 / p.getD (p.length - 1) 0
def bdF (p : List Rat) : Nat → Rat
 | 0 => 0
 | i + 1 => if bdF p i < abR (bdQ p i) then abR (bdQ p i) else bdF p i
def bdR (p : List Rat) : Rat := bdF p (p.length - 1) + 1
theorem abR_sz (q : Rat) : sz (abR q) = sz q := by
 unfold abR
 split
 ·exact sz_neg q
 ·rfl
theorem bdQ_sz {p : List Rat} {K : Nat} (sp : SzL K p) (hK : 1 ≤ K) (i : Nat) : sz (bdQ p i) ≤ 2 * K := by
 unfold bdQ
 have h1 := sp.getD hK i
 have h2 := sp.getD hK (p.length - 1)
 have h3 := sz_div (a := p.getD i 0) (b := p.getD (p.length - 1) 0)
 omega
theorem bdF_sz {p : List Rat} {K : Nat} (sp : SzL K p) (hK : 1 ≤ K) : ∀ i, sz (bdF p i) ≤ 2 * K
 | 0 => by rw [bdF, Qli]; omega
 | i + 1 => by
  rw [bdF]
  split
  ·rw [abR_sz]; exact bdQ_sz sp hK i
  ·exact bdF_sz sp hK i
def boxZ : Obj := ⟨0, 0, [.d (.v (.bool false)), .d (.z true), .d (.v (.bool false)), .d (.z true)], false⟩
def QlC (d : D) (mo : Rat) (n i : Int) : St := mkS [(0, .d d), (2, .ptr [2] 0), (3, .ptr [3] 0), (8, ai n), (9, ai i)] [([2], boxZ), ([3], boxR mo)]
def bs_en (mo : Rat) : St := mkS [(2, .ptr [2] 0), (3, .ptr [3] 0)] [([2], boxZ), ([3], boxR mo)]
theorem boxR_0 : boxR 0 = boxZ := by
 have ez : decide ((0 : Rat).num < 0) = false := rfl
 have ez2 : dg (digs (0 : Rat).num.natAbs) = .z true := by rw [Rat.zero_num, show (0 : Int).natAbs = 0 from rfl, Qay]; rfl
 have ez3 : dg (dd (0 : Rat).den) = .z true := rfl
 rw [boxR, ez, ez2, ez3]; rfl
section
variable [Its] {d : D} {p : List Rat} {K : Nat}
theorem bs_go (hr : RwR d p) (np : p.length ≤ 1000) (sp : SzL K p) (hK1 : 1 ≤ K) (hK : K ≤ 10000000000) {i : Nat} (hi : i + 1 < p.length) {mo : Rat} (hm : sz mo ≤ 2 * K) :
    X G Qbq (QlC d mo ((p.length - 1 : Nat) : Int) i) = some (.n, QlC d (if mo < abR (bdQ p i) then abR (bdQ p i) else mo) ((p.length - 1 : Nat) : Int) ((i + 1 : Nat) : Int)) := by
  have e1 : decide ((i : Int) < ((p.length - 1 : Nat) : Int)) = true := lt_t (by omega)
  have e2 : w64 ((p.length : Int) - 1) = ((p.length - 1 : Nat) : Int) := by rw [Qaf (by omega) (by omega)]; omega
  have e3 : w64 ((i : Int) + 1) = ((i + 1 : Nat) : Int) := by rw [Qaf (by omega) (by omega)]; rfl
  have ll := hr.len
  have hl : p.length - 1 < p.length := by omega
  have x1 := hr.ixa hl
  have y1 := fun h => ldR h p hl
  have x2 := hr.ixa (show i < p.length by omega)
  have y2 := fun h => ldR h p (show i < p.length by omega)
  have s1 := sp.getD hK1 (p.length - 1)
  have s2 := sp.getD hK1 i
  have g1 := Qis (a := p.getD i 0) (b := p.getD (p.length - 1) 0) (by omega) (by omega)
  have sq := bdQ_sz sp hK1 i
  unfold bdQ at sq
  unfold bdQ
  generalize p.getD i 0 / p.getD (p.length - 1) 0 = q at *
  generalize p.getD (p.length - 1) 0 = u at *
  generalize p.getD i 0 = v at *
  generalize cRs (p.drop (p.length - 1)) = cs at *
  generalize cRs (p.drop i) = ct at *
  generalize ((p.length - 1 : Nat) : Int) = n at *
  have g2 := QcV q
  have t2 := sign_lt (x := q)
  generalize Int.sign q.num = sg at *
  have g3 := Qid q
  have sa := abR_sz q
  have g4 := QdK (a := abR q) (b := mo) (by omega) (by omega)
  have t4 := QpE (a := abR q) (b := mo)
  generalize cmpR (abR q) mo = c at *
  clear s1 s2 sq hm sp hr sa
  unfold abR at *
  by_cases k : q < 0
  · rw [decide_eq_true k] at t2
    rw [if_pos k] at *
    generalize -q = nq at *
    simp only [encR, iv] at g1 g2 g3 g4 y1 y2
    by_cases k2 : mo < nq
    · rw [decide_eq_true k2] at t4
      rw [if_pos k2]
      simp -implicitDefEqProofs (maxSteps:=9^8) only [Qbq, QlC, boxZ, boxR, ll, x1, x2, y1, y2, e1, e2, e3, g1, g2, g3, g4, t2, t4, st4q, ld4q, Qac, go_sem, iv, bv, reduceCtorEq, ↓reduceIte, Nat.reduceEqDiff]
    · rw [decide_eq_false k2] at t4
      rw [if_neg k2]
      simp -implicitDefEqProofs (maxSteps:=9^8) only [Qbq, QlC, boxZ, boxR, ll, x1, x2, y1, y2, e1, e2, e3, g1, g2, g3, g4, t2, t4, st4q, ld4q, Qac, go_sem, iv, bv, reduceCtorEq, ↓reduceIte, Nat.reduceEqDiff]
  · rw [decide_eq_false k] at t2
    rw [if_neg k] at *
    simp only [encR, iv] at g1 g2 g3 g4 y1 y2
    by_cases k2 : mo < q
    · rw [decide_eq_true k2] at t4
      rw [if_pos k2]
      simp -implicitDefEqProofs (maxSteps:=9^8) only [Qbq, QlC, boxZ, boxR, ll, x1, x2, y1, y2, e1, e2, e3, g1, g2, g4, t2, t4, st4q, ld4q, Qac, go_sem, iv, bv, reduceCtorEq, ↓reduceIte, Nat.reduceEqDiff]
    · rw [decide_eq_false k2] at t4
      rw [if_neg k2]
      simp -implicitDefEqProofs (maxSteps:=9^8) only [Qbq, QlC, boxZ, boxR, ll, x1, x2, y1, y2, e1, e2, e3, g1, g2, g4, t2, t4, st4q, ld4q, Qac, go_sem, iv, bv, reduceCtorEq, ↓reduceIte, Nat.reduceEqDiff]
theorem bs_stop {mo : Rat} {n i : Int} (h : n ≤ i) : X G Qbq (QlC d mo n i) = some (.x 0, bs_en mo) := by
 have e1 : decide (i < n) = false := lt_f (by omega)
 simp -implicitDefEqProofs (maxSteps:=9^8) only [Qbq, QlC, bs_en, boxZ, boxR, e1, Qac, go_sem, iv, bv, reduceCtorEq, ↓reduceIte, Nat.reduceEqDiff]
theorem bs_loop (hr : RwR d p) (np : p.length ≤ 1000) (sp : SzL K p) (hK1 : 1 ≤ K) (hK : K ≤ 10000000000) : ∀ (j i : Nat), i + j = p.length - 1 → X G (.loop Qbq) (QlC d (bdF p i) ((p.length - 1 : Nat) : Int) i) = some (.x 0, bs_en (bdF p (p.length - 1)))
 | 0, i, h => by
  have : i = p.length - 1 := by omega
  subst this
  rw [Qak, bs_stop (Int.le_refl _)]; rfl
 | j + 1, i, h => by
  rw [Qak, bs_go hr np sp hK1 hK (by omega) (bdF_sz sp hK1 i), Option.bind_some, if_pos rfl]
  exact bs_loop hr np sp hK1 hK j (i + 1) (by omega)
theorem QlL (hr : RwR d p) (np : p.length ≤ 1000) (sp : SzL K p) (hK1 : 1 ≤ K) (hK : K ≤ 10000000000) : Qaj G Qe1 [d] = some (.d (encR (bdR p))) := by
 rw [Qad (cf := Qih) rfl]
 have ll := hr.len
 have sf := bdF_sz sp hK1 (p.length - 1)
 have o := Qe7 (n := 1) (d := 1) ⟨by omega, by omega⟩ ⟨by omega, by omega⟩
 rw [Qc3, show ((1 : Int) : Rat) = 1 from rfl] at o
 have g := Qfn (a := bdF p (p.length - 1)) (b := 1) (by omega) (by rw [Qo9]; omega)
 have hl : X G (.loop Qbq) (QlC d 0 (w64 ((p.length : Int) - 1)) 0) = some (.x 0, bs_en (bdF p (p.length - 1))) := by
  by_cases h : p.length = 0
  ·have e : w64 ((p.length : Int) - 1) = -1 := by rw [Qaf (by omega) (by omega)]; omega
   rw [e, h, Qak, bs_stop (by omega)]; rfl
  ·have e : w64 ((p.length : Int) - 1) = ((p.length - 1 : Nat) : Int) := by rw [Qaf (by omega) (by omega)]; omega
   rw [e]
   exact bs_loop hr np sp hK1 hK (p.length - 1) 0 (by omega)
 unfold bdR
 generalize bdF p (p.length - 1) = r at *
 rw [QlC, boxR_0] at hl
 generalize r + 1 = s at *
 obtain ⟨n, hn⟩ : ∃ n, w64 ((p.length : Int) - 1) = n := ⟨_, rfl⟩
 rw [hn] at hl
 generalize (1 : Rat) = one at *
 simp only [encR, iv] at o g
 simp only [bs_en, boxZ, boxR, go_sem] at hl
 simp -implicitDefEqProofs (maxSteps:=9^8) only [Qih, encR, ll, hn, hl, o, g, st4q, ld4q, Qaa, Qac, go_sem, iv, bv, reduceCtorEq, ↓reduceIte, Nat.reduceEqDiff]
end
end Go.AM

/- slices.AppendSeq, Collect over sturm.zeros; sturm.zeros; sturm.Isolate. -/
namespace Go.AM
open Go Go.RowKit Go.Proofs
def resA7 (r : List (Rat × Rat)) : D := if r = [] then .z true else rowA r
theorem gHs_nil : gHs [] = [([2], ⟨0, 0, [.d (.z true)], false⟩)] := rfl
theorem gHs_ne {r : List (Rat × Rat)} (h : r ≠ []) : gHs r = [([2], ⟨0, 0, [.own [11] r.length], false⟩), ([11], ⟨8, r.length, (cAs r).map .d, false⟩)] := if_neg h
variable [Its]
theorem QnJ       : ∀ (xs r : List (Rat × Rat)), r.length + xs.length ≤ 100000 →
    QcU (X G) [7] slices_AppendSeq_2_api_Rat_2_api_Rat_a0 slices_AppendSeq_2_api_Rat_2_api_Rat_b0 QnM [] (xs.map fun q => [enc2 q]) (hpL (gHs r)) = some (.n, ⟨QnM, hpL (gHs (r ++ xs)), []⟩)
  | [], r, _ => by rw [List.append_nil]; rfl
  | q :: xs, r, h => by
    rw [List.map_cons, as_round q r (by simp at h; omega), QnJ xs (r ++ [q]) (by simp at h ⊢; omega), List.append_assoc]; rfl
section
variable {dc : D} {l : Rat × Rat} {r : List (Rat × Rat)}
theorem QlO            (hit : (G).it QaC             (Qck     dc l) = some (r.map fun q => [enc2 q])) (hr : r.length ≤ 100000) :
    Qaj G QbU [.z true, .fn QaC (Qck dc l)] = some (if r = [] then .d (.z true) else .own 8 r.length (cAs r)) := by
  rw [Qad (cf := QaL) rfl]
  have hrd := QnJ r [] (by simpa using hr)
  rw [List.nil_append, gHs_nil] at hrd
  have hA : slices_AppendSeq_2_api_Rat_2_api_Rat_a0.holds [[2]] = true := rfl
  have hB : slices_AppendSeq_2_api_Rat_2_api_Rat_b0.holds [[2]] = true := rfl
  have n7 : allD ((cAs r).map A.d) = some (cAs r) := Qd6 _
  generalize (r.map fun q => [enc2 q]) = XS at *
  generalize Qck dc l = za at *
  by_cases h : r = []
  · subst h
    rw [gHs_nil] at hrd
    rw [if_pos rfl]
    simp only [QnM, go_sem] at hrd
    simp -implicitDefEqProofs (maxSteps:=9^8) only [QaL, X_rfn, QjY, hA, hB, hit, hrd, ldn1, stn1, Qac, go_sem, iv, bv, reduceCtorEq, ↓reduceIte, Nat.reduceEqDiff]
  · rw [gHs_ne h] at hrd
    rw [if_neg h]
    simp only [QnM, go_sem] at hrd
    simp -implicitDefEqProofs (maxSteps:=9^8) only [QaL, X_rfn, QjY, hA, hB, hit, hrd, n7, ldn1, stn1, QmY, own_c, own_o, Qac, go_sem, iv, bv, reduceCtorEq, ↓reduceIte, Nat.reduceEqDiff]
theorem QnH          (hit : (G).it QaC             (Qck     dc l) = some (r.map fun q => [enc2 q])) (hr : r.length ≤ 100000) :
    Qaj G Qdb [.fn QaC (Qck dc l)] = some (.d (resA7 r)) := by
  rw [Qad (cf := QbT) rfl]
  have g := QlO hit hr
  unfold resA7 rowA
  by_cases h : r = []
  · rw [if_pos h] at *
    simp -implicitDefEqProofs (maxSteps:=9^8) only [QbT, g, Qac, go_sem, iv, bv, reduceCtorEq, ↓reduceIte, Nat.reduceEqDiff]
  · rw [if_neg h] at *
    simp -implicitDefEqProofs (maxSteps:=9^8) only [QbT, g, Qac, go_sem, iv, bv, reduceCtorEq, ↓reduceIte, Nat.reduceEqDiff]
theorem Qr3 {ds : List D} : Qaj G Qiy [.row ds.length ds, enc2 l] = some (.d (.fn QaC (Qck (.row ds.length ds) l))) := by
 rw [Qad (cf := Qit) rfl]
 obtain ⟨lo, hi⟩ := l
 simp -implicitDefEqProofs (maxSteps:=9^8) only [Qit, Qck, enc2, c2R, toDs, allD, snap, Qcw, nf_c, nf_o, Qab, Qaa, Qac, go_sem, iv, bv, reduceCtorEq, ↓reduceIte, Nat.reduceEqDiff]
end
theorem Qn7          {dp : D} {p : List Rat} {b : Rat} {r : List (Rat × Rat)} (hp : RwR dp p) (hp0 : p ≠ []) (np : p.length ≤ 17) (hB : Qaj   G Qe1           [dp] = some (.d (encR b))) (hC : ∃ ds, Dls ds (chP p) ∧ Qaj   G QbY           [dp] = some (.own 1 ds.length ds))
    (hit : ∀ ds, Dls ds (chP p) → (G).it QaC (Qck (.row ds.length ds) (-b, b)) = some (r.map fun q => [enc2 q])) (hr : r.length ≤ 100000) : Qaj G QfB [dp] = some (.d (.tup [resA7 r, iv 0])) := by
  rw [Qad (cf := Qg2) rfl]
  obtain ⟨ds, hd, g1⟩ := hC
  have g2 := Qr3 (l := (-b, b)) (ds := ds)
  have g3 := QnH (hit ds hd) hr
  have g4 := Qid b
  have ll := hp.len
  have e1 : ((p.length : Int) == 0) = false := Qcy (by have := List.length_pos_iff.2 hp0; omega)
  have e2 : decide ((p.length : Int) > 17) = false := decide_eq_false (by omega)
  generalize Qck (.row ds.length ds) (-b, b) = za at *
  generalize resA7 r = ra at *
  clear hit hd hp hp0 np
  generalize -b = nb at *
  simp only [encR, enc2, c2R, iv] at hB g2 g4
  simp -implicitDefEqProofs (maxSteps:=9^8) only [Qg2, toDs, allD, g1, g2, g3, g4, hB, ll, e1, e2, st4q, ld4q, Qel, Qcd, Qac, go_sem, iv, bv, reduceCtorEq, ↓reduceIte, Nat.reduceEqDiff]
end Go.AM

/- law07.lives. -/
namespace Go.AM
open Go Go.RowKit Go.Proofs
class ItsZ [Its] : Prop where
 zer : ∀ {dc : D} {ps : List (List Rat)} {l : Rat × Rat} {r : List (Rat × Rat)} {k : Nat}, RwC dc ps → ps.length ≤ 1000 → (∀ p ∈ ps, SzL KZ p ∧ p.length * (2 * KZ + 1) ≤ 40000000000) → wtZ KZ ps k l = some r → (G).it QaC (Qck dc l) = some (r.map fun q => [enc2 q])
def lp7 : List Rat := [2, -3, 0, 1]
def lc7 : List (List Rat) := [[-2, 1, 1], [1, 2], [9 / 4]]
theorem l7_de : deP lp7 = [-3, 0, 3] := by kernel_rfl
theorem l7_g : gcdP lp7 [-3, 0, 3] = [-1, 1] := by kernel_rfl
theorem l7_q : quoP lp7 [-1, 1] = [-2, 1, 1] := by kernel_rfl
theorem l7_f : frP lp7 = [-2, 1, 1] := by kernel_rfl
theorem l7_c : chP lp7 = lc7 := by kernel_rfl
theorem l7_b : bdR lp7 = 4 := by kernel_rfl
theorem l7_n1 : cnt lc7 (-3) 3 = 2 := by kernel_rfl
theorem l7_n2 : cnt lc7 (-2) 1 = 1 := by kernel_rfl
theorem l7_n3 : cnt lc7 1 5 = 0 := by kernel_rfl
theorem l7_i0 : cnt lc7 (-4) 4 = 2 := by kernel_rfl
theorem l7_i1 : cnt lc7 (-4) 0 = 1 := by kernel_rfl
theorem l7_i2 : cnt lc7 0 4 = 1 := by kernel_rfl
theorem l7_m : mid (-4) 4 = 0 := by kernel_rfl
theorem l7_dv : dvB [-1, 1] (dvN lp7 [-1, 1]) lp7 = true := by kernel_rfl
theorem l7_gb : gcB 4 (mnP lp7) (mnP [-3, 0, 3]) = true := by kernel_rfl
theorem l7_sp : smL lp7 = true := by kernel_rfl
theorem l7_s1 : smL [-3, 0, 3] = true := by kernel_rfl
theorem Qr9 : smL [-1, 1] = true := by kernel_rfl
theorem QrX : smL [-2, 1, 1] = true := by kernel_rfl
theorem l7_s4 : smL [1, 2] = true := by kernel_rfl
theorem l7_s5 : smL [9 / 4] = true := by kernel_rfl
theorem l7_r1 : remP [-2, 1, 1] [1, 2] = [-9 / 4] := by kernel_rfl
theorem l7_r2 : remP [1, 2] [9 / 4] = [] := by kernel_rfl
theorem l7_sc : scP [-9 / 4] (-1) = [9 / 4] := by kernel_rfl
theorem l7_d2 : deP [-2, 1, 1] = [1, 2] := by kernel_rfl
theorem sm7 {l : List Rat} (h : smL l = true) : SzL 7000 l := (QbR h).mono (by omega)
theorem sz_i {n : Int} (h : I64 n) : sz ((n : Int) : Rat) ≤ 3 := sz_int h
theorem l7_ch : ChOk 800000 lp7.length (frP lp7) (deP (frP lp7)) := by
 rw [l7_f, l7_d2]
 refine Qo3 (sm7 QrX) (sm7 l7_s4) (by simp) (by simp) (trm2 (by decide)) ?_
 rw [l7_r1, l7_sc]
 refine Qo3 (sm7 l7_s4) (sm7 l7_s5) (by simp) (by simp) (trm1 (by decide +kernel)) ?_
 rw [l7_r2]
 exact ch_done _ _ _
theorem l7_hs {K : Nat} (hK : 1 ≤ K) (hK2 : K ≤ 1000000000) : ∀ q ∈ lc7, SzL K q ∧ q.length * (2 * K + 1) ≤ 40000000000 := by
 intro q hq
 have h3 : q.length ≤ 3 := by
  rcases List.mem_cons.1 hq with rfl | hq
  ·simp
  ·rcases List.mem_cons.1 hq with rfl | hq
   ·simp
   ·rw [List.mem_singleton.1 hq]; simp
 have h4 : q.length * (2 * K + 1) ≤ 3 * (2 * K + 1) := Nat.mul_le_mul_right _ h3
 refine ⟨?_, by omega⟩
 rcases List.mem_cons.1 hq with rfl | hq
 ·exact (QbR QrX).mono hK
 ·rcases List.mem_cons.1 hq with rfl | hq
  ·exact (QbR l7_s4).mono hK
  ·rw [List.mem_singleton.1 hq]; exact (QbR l7_s5).mono hK
theorem z_m4 : sz (-4 : Rat) ≤ 3 := sz_i (n := -4) ⟨by omega, by omega⟩
theorem z_4 : sz (4 : Rat) ≤ 3 := sz_i (n := 4) ⟨by omega, by omega⟩
theorem z_0 : sz (0 : Rat) ≤ 3 := by rw [Qli]; omega
theorem l7_w1 : wtZ KZ lc7 1 (-4, 0) = some [(-4, 0)] := by
 have k : 3 ≤ KZ := by unfold KZ; omega
 have a := z_m4
 have c := z_0
 rw [wtZ]
 dsimp only
 rw [if_pos ⟨by omega, by omega⟩, l7_i1]
 rfl
theorem l7_w2 : wtZ KZ lc7 1 (0, 4) = some [(0, 4)] := by
 have k : 3 ≤ KZ := by unfold KZ; omega
 have b := z_4
 have c := z_0
 rw [wtZ]
 dsimp only
 rw [if_pos ⟨by omega, by omega⟩, l7_i2]
 rfl
theorem l7_wt : wtZ KZ lc7 2 (-4, 4) = some [(-4, 0), (0, 4)] := by
 have k : 3 ≤ KZ := by unfold KZ; omega
 have a := z_m4
 have b := z_4
 rw [wtZ]
 dsimp only
 rw [if_pos ⟨by omega, by omega⟩, l7_i0, if_neg (by decide), if_neg (by decide), l7_m, l7_w1, l7_w2]
 rfl
section
variable [Its]
theorem of7_p : Qaj G Qby [iv 1, .row 4 [iv 2, iv (-3), iv 0, iv 1]] = some (.d (rowR lp7)) := callX_some.2 ⟨60, by kernel_rfl⟩
theorem of7_1 : Qaj G Qby [iv 1, .row 3 [iv (-2), iv 1, iv 1]] = some (.d (rowR [-2, 1, 1])) := callX_some.2 ⟨60, by kernel_rfl⟩
theorem of7_2 : Qaj G Qby [iv 1, .row 2 [iv 1, iv 2]] = some (.d (rowR [1, 2])) := callX_some.2 ⟨60, by kernel_rfl⟩
theorem of7_3 : Qaj G Qby [iv 4, .row 1 [iv 9]] = some (.d (rowR [9 / 4])) := callX_some.2 ⟨60, by kernel_rfl⟩
theorem l7_free : ∃ d', RwR d' (frP lp7) ∧ Qaj G Qb8 [rowR lp7] = some (.d d') := by
 have h := Qfr (K := 1) (RwR.row lp7) (by decide) (by omega) (by omega) (QbR l7_sp)
 rw [l7_de, l7_g, l7_q] at h
 exact h (QbR l7_s1) (QoT l7_gb) (by simp) (QbR Qr9) (Qkf l7_dv) (QbR QrX)
theorem QmL : ∃ ds, Dls ds (chP lp7) ∧ Qaj G QbY [rowR lp7] = some (.own 1 ds.length ds) :=
 QgY (K := 800000) (by decide) (by decide) l7_free (by rw [l7_f]; simp) (by rw [l7_f]; simp) (by rw [l7_f]; exact (QbR QrX).mono (by omega)) l7_ch (by omega) (by omega)
theorem Qm5 [ItsB] {lo hi : Rat} (h1 : sz lo ≤ 3) (h2 : sz hi ≤ 3) : Qaj G Qau [rowR lp7, encR lo, encR hi] = some (.d (iv (cnt lc7 lo hi))) := by
 have h := QfN (K := 3) QmL (lo := lo) (hi := hi) (by rw [l7_c]; decide) (by rw [l7_c]; exact l7_hs (by omega) (by omega)) h1 h2 (by omega)
 rw [l7_c] at h
 exact h
theorem l7_isol [ItsZ] : Qaj G QfB [rowR lp7] = some (.d (.tup [rowA [(-4, 0), (0, 4)], iv 0])) := by
 have hB := QlL (K := 1) (RwR.row lp7) (by decide) (QbR l7_sp) (by omega) (by omega)
 rw [l7_b] at hB
 exact Qn7 (b := 4) (r := [(-4, 0), (0, 4)]) (RwR.row lp7) (by decide) (by decide) hB QmL (fun ds hd => ItsZ.zer (k := 2) hd.rwc (by rw [l7_c]; decide) (by rw [l7_c]; exact l7_hs (by unfold KZ; omega) (by unfold KZ; omega)) (by rw [l7_c]; exact l7_wt)) (by simp)
end
end Go.AM

/- law07.lives, the end. -/
namespace Go.AM
open Go Go.RowKit Go.Proofs
theorem l8_e1 : evR lp7 (-3) = -16 := by kernel_rfl
theorem l8_e2 : evR lp7 (-2) = 0 := by kernel_rfl
theorem l8_e3 : evR lp7 9 = 704 := by kernel_rfl
theorem l8_m1 : mid (-2) 9 = 7 / 2 := by kernel_rfl
theorem l8_m2 : mid (-2) (7 / 2) = 3 / 4 := by kernel_rfl
theorem l8_m3 : mid (-2) (3 / 4) = -5 / 8 := by kernel_rfl
theorem l8_m4 : mid (-2) (-5 / 8) = -21 / 16 := by kernel_rfl
theorem l8_v1 : ¬ evR lp7 (7 / 2) < 0 := by decide +kernel
theorem l8_v2 : ¬ evR lp7 (3 / 4) < 0 := by decide +kernel
theorem l8_v3 : ¬ evR lp7 (-5 / 8) < 0 := by decide +kernel
theorem l8_v4 : ¬ evR lp7 (-21 / 16) < 0 := by decide +kernel
theorem l8_q1 : quoP lp7 [-2, 1, 1] = [-1, 1] := by kernel_rfl
theorem l8_d1 : dvB [-2, 1, 1] (dvN lp7 [-2, 1, 1]) lp7 = true := by kernel_rfl
theorem l8_de : deP [-1, 1] = [1] := by kernel_rfl
theorem l8_g : gcdP [-1, 1] [1] = [1] := by kernel_rfl
theorem l8_gb : gcB 2 (mnP [-1, 1]) (mnP [1]) = true := by kernel_rfl
theorem l8_q2 : quoP [-1, 1] [1] = [-1, 1] := by kernel_rfl
theorem l8_d2 : dvB [1] (dvN [-1, 1] [1]) [-1, 1] = true := by kernel_rfl
theorem l8_f2 : frP [-1, 1] = [-1, 1] := by kernel_rfl
theorem l8_g2 : gcdP [-2, 1, 1] [-1, 1] = [-1, 1] := by kernel_rfl
theorem l8_gb2 : gcB 3 (mnP [-2, 1, 1]) (mnP [-1, 1]) = true := by kernel_rfl
theorem l8_q3 : quoP [-2, 1, 1] [-1, 1] = [2, 1] := by kernel_rfl
theorem l8_d3 : dvB [-1, 1] (dvN [-2, 1, 1] [-1, 1]) [-2, 1, 1] = true := by kernel_rfl
theorem l8_mu : muP [1] [2, 1] = [2, 1] := by kernel_rfl
theorem l8_q4 : quoP [-1, 1] [-1, 1] = [1] := by kernel_rfl
theorem l8_d4 : dvB [-1, 1] (dvN [-1, 1] [-1, 1]) [-1, 1] = true := by kernel_rfl
theorem Qpk : smL [1] = true := by kernel_rfl
theorem Qr2 : smL [2, 1] = true := by kernel_rfl
theorem l8_de3 : deP [2, 1] = [1] := by kernel_rfl
theorem l8_g3 : gcdP [2, 1] [1] = [1] := by kernel_rfl
theorem l8_gb3 : gcB 2 (mnP [2, 1]) (mnP [1]) = true := by kernel_rfl
theorem l8_q5 : quoP [2, 1] [1] = [2, 1] := by kernel_rfl
theorem l8_d5 : dvB [1] (dvN [2, 1] [1]) [2, 1] = true := by kernel_rfl
theorem l8_f3 : frP [2, 1] = [2, 1] := by kernel_rfl
theorem l8_c3 : chP [2, 1] = [[2, 1], [1]] := by kernel_rfl
theorem l8_r3 : remP [2, 1] [1] = [] := by kernel_rfl
theorem l8_n : cnt [[2, 1], [1]] (-2) 9 = 0 := by kernel_rfl
theorem l8_ch : ChOk 800000 ([2, 1] : List Rat).length (frP [2, 1]) (deP (frP [2, 1])) := by
 rw [l8_f3, l8_de3]
 refine Qo3 (sm7 Qr2) (sm7 Qpk) (by simp) (by simp) (trm1 (by decide)) ?_
 rw [l8_r3]
 exact ch_done _ _ _
theorem l8_hs : ∀ q ∈ ([[2, 1], [1]] : List (List Rat)), SzL 3 q ∧ q.length * (2 * 3 + 1) ≤ 40000000000 := by
 intro q hq
 rcases List.mem_cons.1 hq with rfl | hq
 ·exact ⟨(QbR Qr2).mono (by omega), by simp⟩
 ·rw [List.mem_singleton.1 hq]; exact ⟨(QbR Qpk).mono (by omega), by simp⟩
theorem z_m2 : sz (-2 : Rat) ≤ 3 := sz_i (n := -2) ⟨by omega, by omega⟩
theorem z_m3 : sz (-3 : Rat) ≤ 3 := sz_i (n := -3) ⟨by omega, by omega⟩
theorem z_3 : sz (3 : Rat) ≤ 3 := sz_i (n := 3) ⟨by omega, by omega⟩
theorem z_1 : sz (1 : Rat) ≤ 3 := sz_i (n := 1) ⟨by omega, by omega⟩
theorem z_5 : sz (5 : Rat) ≤ 3 := sz_i (n := 5) ⟨by omega, by omega⟩
theorem z_9 : sz (9 : Rat) ≤ 3 := sz_i (n := 9) ⟨by omega, by omega⟩
theorem rep4L (a : D) : rep 4 [a] = [a, a, a, a] := rfl
theorem rep3L (a : D) : rep 3 [a] = [a, a, a] := rfl
theorem rep2L (a : D) : rep 2 [a] = [a, a] := rfl
theorem rep1L (a : D) : rep 1 [a] = [a] := rfl
theorem l8_sm : ∀ q ∈ lc7, SzL 100000000000 q ∧ q.length ≤ 1000 := by
 intro q hq
 refine ⟨(l7_hs (K := 1) (by omega) (by omega) q hq).1.mono (by omega), ?_⟩
 rcases List.mem_cons.1 hq with rfl | hq
 ·simp
 ·rcases List.mem_cons.1 hq with rfl | hq
  ·simp
  ·rw [List.mem_singleton.1 hq]; simp
section
variable [Its]
theorem l8_odd : ∃ d', RwR d' [2, 1] ∧ Qaj G Qgx [rowR lp7] = some (.d d') := by
 have P := RwR.row lp7
 obtain ⟨a1, h1, g1⟩ := l7_free
 rw [l7_f] at h1
 obtain ⟨a2, a2', h2, _, g2⟩ := Qe6 (K := 1) P h1 (by decide) (by simp) (QbR QrX) (by omega) (by omega) (Qkf l8_d1)
 rw [l8_q1] at h2
 have hf := Qfr (K := 1) h2 (by simp) (by omega) (by omega) (QbR Qr9)
 rw [l8_de, l8_g, l8_q2, l8_f2] at hf
 obtain ⟨a3, h3, g3⟩ := hf (QbR Qpk) (QoT l8_gb) (by simp) (QbR Qpk) (Qkf l8_d2) (QbR Qr9)
 obtain ⟨a4, h4, g4⟩ := QjH (K := 1) h1 h3 (by simp) (by simp) (by omega) (by omega) (QbR QrX) (QbR Qr9) (QoT l8_gb2)
 rw [l8_g2] at h4
 obtain ⟨a5, a5', h5, _, g5⟩ := Qe6 (K := 1) h1 h4 (by simp) (by simp) (QbR Qr9) (by omega) (by omega) (Qkf l8_d3)
 rw [l8_q3] at h5
 obtain ⟨a6, h6, g6⟩ := Ql1 (K := 1) (RwR.row [1]) h5 (QbR Qpk) (QbR Qr2) (by omega) (by simp)
 rw [l8_mu] at h6
 obtain ⟨a7, a7', h7, _, g7⟩ := Qe6 (K := 1) h2 h3 (by simp) (by simp) (QbR Qr9) (by omega) (by omega) (Qkf l8_d4)
 rw [l8_q4] at h7
 have hx := odg_go (d1 := rowR [1]) P (by decide) g1 g2 g3 g4 g5 g6 g7
 exact ⟨a6, h6, odg_end (by rw [Qak, hx, Option.bind_some, if_pos rfl, Qak, odg_stop h7 (by simp)]; rfl)⟩
theorem l8_free {d : D} (h : RwR d [2, 1]) : ∃ d', RwR d' (frP [2, 1]) ∧ Qaj G Qb8 [d] = some (.d d') := by
 have hf := Qfr (K := 1) h (by simp) (by omega) (by omega) (QbR Qr2)
 rw [l8_de3, l8_g3, l8_q5] at hf
 exact hf (QbR Qpk) (QoT l8_gb3) (by simp) (QbR Qpk) (Qkf l8_d5) (QbR Qr2)
theorem l8_low [ItsB] : Qaj G Qda [rowR lp7, encR (-3), encR 0] = some (.d (bv false)) :=
 Qsp (K := 300) (RwR.row lp7) ((QbR l7_sp).mono (by omega)) (by decide) (by omega) (by decide) (by decide) (Nat.le_trans z_m3 (by omega)) (Nat.le_trans z_0 (by omega)) (by rw [l8_e1]; decide)
theorem l8_stay [ItsB] : Qaj G Qda [rowR lp7, encR (-2), encR 9] = some (.d (bv true)) := by
 obtain ⟨dg, h, g⟩ := l8_odd
 have P := RwR.row lp7
 have c := QfN (K := 3) (QgY (K := 800000) (by simp) (by simp) (l8_free h) (by rw [l8_f3]; simp) (by rw [l8_f3]; simp) (by rw [l8_f3]; exact (QbR Qr2).mono (by omega)) l8_ch (by omega) (by omega)) (lo := -2) (hi := 9) (by rw [l8_c3]; simp) (by rw [l8_c3]; exact l8_hs) z_m2 z_9 (by omega)
 rw [l8_c3, l8_n] at c
 have sp : SzL 300 lp7 := (QbR l7_sp).mono (by omega)
 have z2 : sz (-2 : Rat) ≤ 100 := Nat.le_trans z_m2 (by omega)
 have z9 : sz (9 : Rat) ≤ 3 := z_9
 have k1 := Qrh z_m2 z_9
 rw [l8_m1] at k1
 have k2 := Qrh z_m2 k1
 rw [l8_m2] at k2
 have k3 := Qrh z_m2 k2
 rw [l8_m3] at k3
 have r0 := QqK P sp (by decide) (by omega) z2 (x := 9) (by omega) (by omega) (n := 4) (i := 0) (by omega) (by omega)
 have r1 := QqK P sp (by decide) (by omega) z2 (x := 7 / 2) (by omega) (by omega) (n := 4) (i := 1) (by omega) (by omega)
 have r2 := QqK P sp (by decide) (by omega) z2 (x := 3 / 4) (by omega) (by omega) (n := 4) (i := 2) (by omega) (by omega)
 have r3 := QqK P sp (by decide) (by omega) z2 (x := -5 / 8) (by omega) (by omega) (n := 4) (i := 3) (by omega) (by omega)
 rw [l8_m1, if_neg l8_v1] at r0
 rw [l8_m2, if_neg l8_v2] at r1
 rw [l8_m3, if_neg l8_v3] at r2
 rw [l8_m4, if_neg l8_v4] at r3
 refine QpH (K := 300) P sp (by decide) (by omega) (by decide) (by decide) (Nat.le_trans z_m2 (by omega)) (Nat.le_trans z_9 (by omega)) (by rw [l8_e2]; exact Rat.le_refl) (by rw [l8_e3]; decide) g c ?_
 show X G (.loop Qb1) (QiW (rowR lp7) (-2) 9 ((4 : Nat) : Int) ((0 : Nat) : Int)) = _
 rw [Qak, r0, Option.bind_some, if_pos rfl, Qak, r1, Option.bind_some, if_pos rfl, Qak, r2, Option.bind_some, if_pos rfl, Qak, r3, Option.bind_some, if_pos rfl, Qak, s7s_stop]
 rfl
theorem lives7 [ItsB] [ItsZ] : Qaj G Qdy [] = some (.d (bv true)) := by
 rw [Qad (cf := Qed) rfl]
 have f0 := of7_p
 have f1 := of7_1
 have f2 := of7_2
 have f3 := of7_3
 have nm3 := QeA (n := -3) ⟨by omega, by omega⟩
 have n3 := QeA (n := 3) ⟨by omega, by omega⟩
 have nm2 := QeA (n := -2) ⟨by omega, by omega⟩
 have n1 := QeA (n := 1) ⟨by omega, by omega⟩
 have n5 := QeA (n := 5) ⟨by omega, by omega⟩
 have n4 := QeA (n := 4) ⟨by omega, by omega⟩
 have n9 := QeA (n := 9) ⟨by omega, by omega⟩
 have n0 := QeA (n := 0) ⟨by omega, by omega⟩
 rw [show (((-3 : Int)) : Rat) = -3 from rfl] at nm3
 rw [show (((3 : Int)) : Rat) = 3 from rfl] at n3
 rw [show (((-2 : Int)) : Rat) = -2 from rfl] at nm2
 rw [show (((1 : Int)) : Rat) = 1 from rfl] at n1
 rw [show (((5 : Int)) : Rat) = 5 from rfl] at n5
 rw [show (((4 : Int)) : Rat) = 4 from rfl] at n4
 rw [show (((9 : Int)) : Rat) = 9 from rfl] at n9
 rw [show (((0 : Int)) : Rat) = 0 from rfl] at n0
 have c1 := Qm5 z_m3 z_3
 have c2 := Qm5 z_m2 z_1
 have c3 := Qm5 z_1 z_5
 rw [l7_n1] at c1
 rw [l7_n2] at c2
 rw [l7_n3] at c3
 have is := l7_isol
 obtain ⟨ds, hd, gc⟩ := QmL
 have gb := QlL (K := 1) (RwR.row lp7) (by decide) (QbR l7_sp) (by omega) (by omega)
 rw [l7_b] at gb
 have hL : RwC (.row 3 [rowR [-2, 1, 1], rowR [1, 2], rowR [9 / 4]]) (chP lp7) := by
  rw [l7_c]
  refine ⟨[rowR [-2, 1, 1], rowR [1, 2], rowR [9 / 4]], rfl, fun i hi => ?_, .inl rfl⟩
  match i, hi with
  | 0, _ => exact RwR.row _
  | 1, _ => exact RwR.row _
  | 2, _ => exact RwR.row _
 have gs := QrJ hd.rwc hL (by rw [l7_c]; decide) (by rw [l7_c]; exact l8_sm)
 have g5 := s5_refl (a := 4) (Nat.le_trans z_4 (by omega))
 have st := l8_stay
 have sl := l8_low
 have t2 : ((2 : Int) == 2) = true := rfl
 have t2n : (((2 : Nat) : Int) == 2) = true := rfl
 have t1 : ((1 : Int) == 1) = true := rfl
 have t0 : ((0 : Int) == 0) = true := rfl
 have hl : lenA (.d (rowA [(-4, 0), (0, 4)])) = some 2 := rfl
 have k1 : Qce (.d (rowR [-2, 1, 1])) = some [rowR [-2, 1, 1]] := rfl
 have k2 : Qce (.d (rowR [1, 2])) = some [rowR [1, 2]] := rfl
 have k3 : Qce (.d (rowR [9 / 4])) = some [rowR [9 / 4]] := rfl
 clear hL hd
 generalize rowA [(-4, 0), (0, 4)] = ra at *
 generalize rowR lp7 = p at *
 generalize rowR [-2, 1, 1] = p1 at *
 generalize rowR [1, 2] = p2 at *
 generalize rowR [9 / 4] = p3 at *
 generalize (-3 : Rat) = rm3 at *
 generalize (3 : Rat) = r3 at *
 generalize (-2 : Rat) = rm2 at *
 generalize (1 : Rat) = r1 at *
 generalize (5 : Rat) = r5 at *
 generalize (4 : Rat) = r4 at *
 generalize (9 : Rat) = r9 at *
 generalize (0 : Rat) = r0 at *
 simp only [encR, iv, bv] at f0 f1 f2 f3 nm3 n3 nm2 n1 n5 n4 n9 n0 c1 c2 c3 is gb gs g5 st sl
 simp -implicitDefEqProofs (maxSteps:=9^8) only [Qed, f0, f1, f2, f3, nm3, n3, nm2, n1, n5, n4, n9, n0, c1, c2, c3, is, gc, gb, gs, g5, st, sl, t2, t2n, t1, t0, hl, k1, k2, k3, rep4L, rep3L, rep2L, rep1L, toDs, allD, go_sem, iv, bv, reduceCtorEq, ↓reduceIte, Nat.reduceEqDiff]
end
end Go.AM

/- Chains of polynomials of at most the fifth degree: sizes. sturm.Count. -/
namespace Go.AM
open Go Go.RowKit
theorem H1.m1 : H1 0 0 (-1) := H1.one.neg
theorem sc_HL {d h : Nat} {l : List Rat} (H : HL d h l) : HL d h (scP l (-1)) := (H.sc H1.m1).mono (by omega) (by omega)
theorem Qq9 {K : Nat} : ∀ (n s : Nat) (a b : List Rat), HL s s a → HL s s b → Trm b → b.length < n → b.length ≤ 90 → (s + 1) * (dvN a b + 1) * 3 ^ b.length ≤ K → ChOk K n a b ∧ ∀ q ∈ chL n a b, SzL K q ∧ q.length ≤ b.length
 | 0, _, _, b, _, _, _, h, _, _ => by omega
 | n + 1, s, a, b, Ha, Hb, tb, hn, h90, hK => by
  have h3 : 1 ≤ 3 ^ b.length := Nat.one_le_pow _ _ (by decide)
  have hs : s + 1 ≤ K := Nat.le_trans (Nat.le_trans (Nat.le_mul_of_pos_right (s + 1) (by omega)) (Nat.le_mul_of_pos_right _ h3)) hK
  by_cases hb : b = []
  ·subst hb
   refine ⟨.inl rfl, ?_⟩
   rw [chL, if_pos rfl]
   exact fun q hq => by simp at hq
  ·have hlb : 0 < b.length := List.length_pos_iff.2 hb
   obtain ⟨_, q2, _, _⟩ := QjD (p := a) tb hb
   have h33 : 3 * ((s + 1) * (dvN a b + 1)) ≤ K := by
    refine Nat.le_trans ?_ hK
    rw [Nat.mul_comm 3]
    refine Nat.mul_le_mul_left _ ?_
    obtain ⟨k, hk⟩ : ∃ k, b.length = k + 1 := ⟨b.length - 1, by omega⟩
    rw [hk, Nat.pow_succ]
    have : 1 ≤ 3 ^ k := Nat.one_le_pow _ _ (by decide)
    omega
   have hr := len_sc (remP a b) (-1)
   have h3' : ((s + 1) * (dvN a b + 1)) * (dvN b (scP (remP a b) (-1)) + 1) * 3 ^ (scP (remP a b) (-1)).length ≤ K := by
    refine Nat.le_trans ?_ hK
    rw [Nat.mul_assoc]
    refine Nat.mul_le_mul_left _ (Nat.le_trans (Nat.le_of_eq ?_) (QiM (a := (scP (remP a b) (-1)).length) (b := b.length) (by omega)))
    congr 1
    unfold dvN; omega
   have he : (s + 1) * (dvN a b + 1) = s * dvN a b + dvN a b + s + 1 := by rw [Nat.mul_add, Nat.add_mul, Nat.mul_one, Nat.one_mul]; omega
   have he2 : dvN a b * (s + 1) = s * dvN a b + dvN a b := by rw [Nat.mul_add, Nat.mul_one, Nat.mul_comm]
   have he3 : dvN a b * s = s * dvN a b := Nat.mul_comm _ _
   obtain ⟨g1, g2, _⟩ := Qkb (K := K) Ha Hb tb (by rw [he2, he3]; omega)
   have hsz := g2.sz
   have g3 := sc_HL g2
   have e1 : s + dvN a b * (s + 1) + 1 = (s + 1) * (dvN a b + 1) := by omega
   obtain ⟨i1, i2⟩ := Qq9 (K := K) n (s + dvN a b * (s + 1)) b (scP (remP a b) (-1)) (Hb.mono (by omega) (by omega)) (g3.mono (by omega) (by omega)) (trm_sc _ _) (by omega) (by omega) (by rw [e1]; exact h3')
   refine ⟨.inr ⟨tb, h90, Hb.mono (by omega) (by omega), Hb.sz.mono (by omega), g1, hsz.mono (by omega), i1⟩, ?_⟩
   rw [chL, if_neg hb]
   intro q hq
   rcases List.mem_cons.1 hq with rfl | hq
   ·exact ⟨Hb.sz.mono (by omega), Nat.le_refl _⟩
   ·exact ⟨(i2 q hq).1, by have := (i2 q hq).2; omega⟩
theorem gz7 {N d s e K : Nat} {a b : List Rat} (Ha : HL d s a) (Hb : HL e s b) (ta : Trm a) (tb : Trm b) (na : a.length ≤ N) (nb : b.length ≤ N) (hK : (s + 1) * 3 ^ (N + 1) ≤ K) : gcG K (b.length + 1) (mnP a) (mnP b) ∧ gcH K (b.length + 1) (mnP a) (mnP b) ∧ HL K K (gcdP a b) := by
 have l1 := QeK ta
 have l2 := QeK tb
 have h0 := QiM (a := (mnP b).length) (b := N + 1) (by omega)
 have h1 : dvN (mnP a) (mnP b) + 1 ≤ N + 1 + 2 - (mnP b).length := by unfold dvN; omega
 have h2 : (s + 1) * (dvN (mnP a) (mnP b) + 1) * 3 ^ (mnP b).length ≤ K := by
  rw [Nat.mul_assoc]
  exact Nat.le_trans (Nat.mul_le_mul_left _ (Nat.le_trans (Nat.mul_le_mul_right _ h1) h0)) hK
 exact QqI (K := K) (b.length + 1) s (mnP a) (mnP b) (Qh2 Ha ta) (Qh2 Hb tb) (Qfg _) (by omega) h2
theorem QqJ {a b : List Rat} {M : Nat} (ha : a.length ≤ M) (hb : b.length ≤ M) : (gcdP a b).length ≤ M := by
 have go : ∀ (n : Nat) (a b : List Rat), a.length ≤ M → b.length ≤ M → (gcP n a b).length ≤ M := by
  intro n
  induction n with
  | zero => intro a b ha hb; exact ha
  | succ n ih =>
   intro a b ha hb
   rw [gcP]
   split
   ·exact ha
   ·exact ih b _ hb (Nat.le_trans (QeU _) (Nat.le_trans (QkK a b) ha))
 exact go _ _ _ (Nat.le_trans (QeU a) ha) (Nat.le_trans (QeU b) hb)
theorem QmK : frP [] = [] := by
 unfold frP
 have : quoP [] (gcdP [] (deP [])) = [] := if_pos (show gcdP [] (deP []) = [] from gcd_nil)
 rw [this]
 exact if_pos rfl
theorem quo_17 (p : List Rat) (tp : Trm p) : quoP p [1] = p := by
 obtain ⟨_, h⟩ := Qo0 (q := [1]) Qjx (by simp) (Dv.one p)
 exact QfK (Qd3 _ _) tp fun x => by rw [h, QbC, Rat.mul_one]
theorem fr_two {p : List Rat} (H : HL 120 120 p) (tp : Trm p) (np : p.length ≤ 6) : HL 2200000 2200000 (quoP p (gcdP p (deP p))) ∧ dvG 2200000 (gcdP p (deP p)) (dvN p (gcdP p (deP p))) p ∧ (HL 120 120 (frP p) ∨ (frP p).length ≤ 5) := by
 have hBB : BB = 1000000000 := rfl
 have Hd := H.de (by omega)
 have nd := Qoq p
 obtain ⟨_, _, Hg⟩ := gz7 (N := 6) (K := 268000) (H.mono (Nat.le_refl _) (show 120 ≤ 121 by omega)) Hd tp (Qbe p) np (by omega) (by decide)
 have tg : Trm (gcdP p (deP p)) := Qde
 have hm : dvN p (gcdP p (deP p)) ≤ 7 := by unfold dvN; omega
 have h1 : dvN p (gcdP p (deP p)) * 268000 ≤ 7 * 268000 := Nat.mul_le_mul_right _ hm
 have h2 : dvN p (gcdP p (deP p)) * (268000 + 1) ≤ 7 * (268000 + 1) := Nat.mul_le_mul_right _ hm
 obtain ⟨x, _, z⟩ := Qkb (K := 2200000) H Hg tg (by omega)
 refine ⟨z.mono (by omega) (by omega), x, ?_⟩
 by_cases p0 : p = []
 ·right; rw [p0, QmK]; simp
 have ng := Qjb tp (Qbe p) (.inl p0)
 have hl := List.length_pos_iff.2 ng
 by_cases l1 : (gcdP p (deP p)).length = 1
 ·left
  have e : gcdP p (deP p) = [1] := Qgc (Qjf tp (Qbe p)) l1
  unfold frP
  rw [e, quo_17 p tp]
  exact Qh2 H tp
 ·right
  unfold frP
  have k1 := QeU (quoP p (gcdP p (deP p)))
  have k2 := QkB p (gcdP p (deP p))
  unfold dvN at k2
  omega
theorem fr_HL {p : List Rat} (H : HL 120 120 p) (tp : Trm p) (np : p.length ≤ 6) : HL 2200000 2200000 (frP p) ∧ (frP p).length ≤ 6 := by
 obtain ⟨a, _, _⟩ := fr_two H tp np
 refine ⟨Qh2 a (Qd3 _ _), ?_⟩
 by_cases p0 : p = []
 ·rw [p0, QmK]; simp
 ·exact Nat.le_trans (Qdl (Qdd p) tp p0 (Qd2 tp p0)) np
theorem chain6 {p : List Rat} (H : HL 120 120 p) (tp : Trm p) (np : p.length ≤ 6) : ChOk 600000000 p.length (frP p) (deP (frP p)) ∧ ∀ q ∈ chP p, SzL 600000000 q ∧ q.length ≤ 6 := by
 have hBB : BB = 1000000000 := rfl
 obtain ⟨F, nf⟩ := fr_HL H tp np
 obtain ⟨_, _, F2⟩ := fr_two H tp np
 by_cases p0 : p = []
 ·subst p0
  rw [QmK]
  exact ⟨rfl, fun q hq => by rw [chP, if_pos rfl] at hq; simp at hq⟩
 have nd := Qgz (Qdd p)
 have pl := List.length_pos_iff.2 p0
 have fl := Qdl (Qdd p) tp p0 (Qd2 tp p0)
 have fpos := List.length_pos_iff.2 (Qg8 tp p0)
 have key : ∀ s M, HL s s (frP p) → HL s s (deP (frP p)) → (frP p).length ≤ M → (s + 1) * 3 ^ M ≤ 600000000 → ChOk 600000000 p.length (frP p) (deP (frP p)) ∧ ∀ q ∈ chL p.length (frP p) (deP (frP p)), SzL 600000000 q ∧ q.length ≤ (deP (frP p)).length := by
  intro s M h1 h2 hM hK
  refine Qq9 p.length s (frP p) (deP (frP p)) h1 h2 (Qbe _) (by omega) (by omega) ?_
  rw [Nat.mul_assoc]
  refine Nat.le_trans (Nat.mul_le_mul_left _ (Nat.le_trans (Nat.mul_le_mul_right _ ?_) (QiM (a := (deP (frP p)).length) (b := M) (by omega)))) hK
  unfold dvN; omega
 have k : ChOk 600000000 p.length (frP p) (deP (frP p)) ∧ ∀ q ∈ chL p.length (frP p) (deP (frP p)), SzL 600000000 q ∧ q.length ≤ (deP (frP p)).length := by
  rcases F2 with F2 | F2
  ·exact key 121 6 (F2.mono (by omega) (by omega)) ((F2.de (by omega)).mono (by omega) (by omega)) nf (by decide)
  ·exact key 2200001 5 (F.mono (by omega) (by omega)) ((F.de (by omega)).mono (by omega) (by omega)) F2 (by decide)
 refine ⟨k.1, fun q hq => ?_⟩
 rw [chP, if_neg p0] at hq
 rcases List.mem_cons.1 hq with rfl | hq
 ·exact ⟨F.sz.mono (by omega), nf⟩
 ·exact ⟨(k.2 q hq).1, by have := (k.2 q hq).2; omega⟩
theorem QpM : ∀ (n : Nat) (a b : List Rat), (chL n a b).length ≤ n
 | 0, _, _ => Nat.le_refl _
 | n + 1, a, b => by
  rw [chL]
  split
  ·simp
  ·rw [List.length_cons]; have := QpM n b (scP (remP a b) (-1)); omega
theorem chP_len {p : List Rat} (np : p.length ≤ 6) : (chP p).length ≤ 7 := by
 unfold chP
 split
 ·simp
 ·rw [List.length_cons]; have := QpM p.length (frP p) (deP (frP p)); omega
theorem hs6 {p : List Rat} (H : HL 120 120 p) (tp : Trm p) (np : p.length ≤ 6) : ∀ q ∈ chP p, SzL 600000000 q ∧ q.length * (2 * 600000000 + 1) ≤ 40000000000 := fun q hq => by
 obtain ⟨a, b⟩ := (chain6 H tp np).2 q hq
 exact ⟨a, Nat.le_trans (Nat.mul_le_mul_right _ b) (by decide)⟩
section
variable [Its] {dp : D} {p : List Rat}
theorem free6 (hp : RwR dp p) (H : HL 120 120 p) (tp : Trm p) (np : p.length ≤ 6) : ∃ d', RwR d' (frP p) ∧ Qaj G Qb8 [dp] = some (.d d') := by
 have hBB : BB = 1000000000 := rfl
 have Hd := H.de (by omega)
 have nd := Qoq p
 obtain ⟨g1, _, Hg⟩ := gz7 (N := 6) (K := 268000) (H.mono (Nat.le_refl _) (show 120 ≤ 121 by omega)) Hd tp (Qbe p) np (by omega) (by decide)
 obtain ⟨z, x, _⟩ := fr_two H tp np
 have gl := QqJ (M := 6) np (show (deP p).length ≤ 6 by omega)
 exact Qfr hp (by omega) (K := 2200001) (by omega) (by omega) (H.sz.mono (by omega)) (Hd.sz.mono (by omega)) (Qng (by omega) _ _ _ g1) (by omega) (Hg.sz.mono (by omega)) (QkM (by omega) _ _ x) (z.sz.mono (by omega))
theorem sChain6 (hp : RwR dp p) (H : HL 120 120 p) (tp : Trm p) (np : p.length ≤ 6) (p0 : p ≠ []) : ∃ ds, Dls ds (chP p) ∧ Qaj G QbY [dp] = some (.own 1 ds.length ds) := by
 obtain ⟨F, nf⟩ := fr_HL H tp np
 exact QgY (K := 600000000) p0 (by omega) (free6 hp H tp np) (Qg8 tp p0) (by omega) (F.sz.mono (by omega)) (chain6 H tp np).1 (by omega) (by omega)
theorem Qsg (hp : RwR dp []) : Qaj G QbY [dp] = some (.d (.z true)) := by
 rw [Qad (cf := Qfs) rfl]
 obtain ⟨da, ha, g1⟩ := free6 hp (HL.nil _ _) Qg3 (by simp)
 rw [QmK] at ha
 obtain ⟨db, hb, g2⟩ := QgL (K := 1) ha (fun q hq => by simp at hq) (by omega) (by omega) (by simp)
 have g3 : X G (.loop QbL) (Qop da db []) = some (.x 0, QrZ []) := by rw [Qak, Qpp ha]; rfl
 rw [Qrm, QnD] at g3
 simp only [go_sem] at g3
 clear ha hb
 simp -implicitDefEqProofs (maxSteps:=9^8) only [Qfs, g1, g2, g3, Qac, go_sem, iv, bv, reduceCtorEq, ↓reduceIte, Nat.reduceEqDiff]
theorem sCount6 [ItsB] (hp : RwR dp p) (H : HL 120 120 p) (tp : Trm p) (np : p.length ≤ 6) {lo hi : Rat} (h1 : sz lo ≤ 1000) (h2 : sz hi ≤ 1000) : Qaj G Qau [dp, encR lo, encR hi] = some (.d (iv (cnt (chP p) lo hi))) := by
 by_cases p0 : p = []
 ·subst p0
  rw [Qad (cf := Qfy) rfl]
  have g1 := Qsg hp
  have ec : chP [] = [] := if_pos rfl
  rw [ec]
  have g2 := QfZ (K := 1000) RwC.nil (by simp) (fun p hp => by simp at hp) h1 h2 (by omega)
  generalize cnt [] lo hi = c at *
  simp only [encR, iv] at g2
  simp -implicitDefEqProofs (maxSteps:=9^8) only [Qfy, encR, g1, g2, ld4q, Qac, go_sem, iv, bv, reduceCtorEq, ↓reduceIte, Nat.reduceEqDiff]
 ·exact QfN (sChain6 hp H tp np p0) (by have := chP_len np; omega) (hs6 H tp np) (Nat.le_trans h1 (by omega)) (Nat.le_trans h2 (by omega)) (by omega)
end
end Go.AM

/- Chains, shifted and scaled. -/
namespace Go.AM
open Go Go.RowKit
section
variable {p : List Rat} {f : Rat}
end
section
variable {d : Rat}
theorem Dv.sh {a b : List Rat} (h : Dv a b) : Dv (shP a d) (shP b d) := by
 obtain ⟨s, hs⟩ := h
 exact ⟨shP s d, fun x => by rw [ev_sh, ev_sh, ev_sh, hs]⟩
end
end Go.AM

/- The seat's iterators, as instances. -/
namespace Go.AM
open Go Go.RowKit Go.Proofs
noncomputable instance (priority := 2000) iZ : Its := itsZ
instance iZB : ItsB := itsBZ
instance iZZ : ItsZ := ⟨fun a b c d => itsZ_at a b c d⟩
theorem envQ : EnvOk Tryz.prog G := envZ
end Go.AM

/- ref06.Eval and ref07.Changes, counted at great coefficients; ref07.Bound. -/
namespace Go.AM
open Go Go.RowKit
variable [Its]
section
variable {d : D} {l : List Rat} {K : Nat}
end
section
variable {d : D} {ps : List (List Rat)} {x : Rat} {K : Nat}
end
section
variable {d : D} {p : List Rat} {K : Nat}
end
end Go.AM

/- Chains by both packages: sizes. -/
namespace Go.AM
open Go Go.RowKit
structure Fit (s N Kg Kq K : Nat) (p : List Rat) : Prop where
 H : HL s s p
 t : Trm p
 n : p.length ≤ N
 N9 : 1 ≤ N ∧ N ≤ 40
 g : (s + 2) * 3 ^ N ≤ Kg
 q : s + N * (Kg + 1) + Kg + 1 ≤ Kq
 f : (Kq + 2) * 3 ^ (N - 1) ≤ K
 l : (s + 2) * 3 ^ N ≤ K ∧ s + 2 ≤ Kg ∧ Kg ≤ Kq ∧ Kq + 2 ≤ K ∧ K ≤ 200000000
section
variable {s N Kg Kq K : Nat} {p : List Rat}
theorem Fit.d (F : Fit s N Kg Kq K p) : HL (s + 1) (s + 1) (deP p) := (F.H.de (by have := F.n; have := F.N9; have : BB = 1000000000 := rfl; omega)).mono (by omega) (by omega)
theorem Fit.gcd (F : Fit s N Kg Kq K p) (p0 : p ≠ []) : gcG Kg ((deP p).length + 1) (mnP p) (mnP (deP p)) ∧ gcH Kg ((deP p).length + 1) (mnP p) (mnP (deP p)) ∧ HL Kg Kg (gcdP p (deP p)) := by
 have l1 := QeK F.t
 have l2 := QeK (Qbe p)
 have ld := Qgz F.t
 have hp := List.length_pos_iff.2 p0
 have hn := F.n
 have h2 : (s + 1 + 1) * (dvN (mnP p) (mnP (deP p)) + 1) * 3 ^ (mnP (deP p)).length ≤ Kg := by
  refine Nat.le_trans ?_ F.g
  rw [Nat.mul_assoc]
  refine Nat.mul_le_mul_left _ ?_
  have h3 : (dvN (mnP p) (mnP (deP p)) + 1) * 3 ^ (mnP (deP p)).length = 3 ^ p.length := by
   have e : dvN (mnP p) (mnP (deP p)) + 1 = 3 := by unfold dvN; omega
   rw [e, l2, ld, show p.length = (p.length - 1) + 1 by omega, Nat.pow_succ, Nat.add_sub_cancel, Nat.mul_comm]
  rw [h3]
  exact Nat.pow_le_pow_right (by decide) hn
 exact QqI (K := Kg) ((deP p).length + 1) (s + 1) (mnP p) (mnP (deP p)) ((Qh2 F.H F.t).mono (by omega) (by omega)) (Qh2 F.d (Qbe p)) (Qfg _) (by omega) h2
theorem Fit.quo (F : Fit s N Kg Kq K p) (p0 : p ≠ []) : HL Kq Kq (quoP p (gcdP p (deP p))) ∧ dvG Kq (gcdP p (deP p)) (dvN p (gcdP p (deP p))) p ∧ (HL s s (frP p) ∨ (frP p).length ≤ N - 1) := by
 obtain ⟨_, _, Hg⟩ := F.gcd p0
 have ng := Qjb F.t (Qbe p) (.inl p0)
 have hl := List.length_pos_iff.2 ng
 have hn := F.n
 have hq := F.q
 have hm : dvN p (gcdP p (deP p)) ≤ N := by unfold dvN; omega
 have h1 : dvN p (gcdP p (deP p)) * Kg ≤ N * Kg := Nat.mul_le_mul_right _ hm
 have h2 : dvN p (gcdP p (deP p)) * (Kg + 1) ≤ N * (Kg + 1) := Nat.mul_le_mul_right _ hm
 have h3 : N * (Kg + 1) = N * Kg + N := Nat.mul_succ _ _
 obtain ⟨x, _, z⟩ := Qkb (K := Kq) F.H Hg Qde (by omega)
 refine ⟨z.mono (by omega) (by omega), x, ?_⟩
 by_cases l1 : (gcdP p (deP p)).length = 1
 ·left
  have e : gcdP p (deP p) = [1] := Qgc (Qjf F.t (Qbe p)) l1
  unfold frP
  rw [e, quo_17 p F.t]
  exact Qh2 F.H F.t
 ·right
  unfold frP
  have k1 := QeU (quoP p (gcdP p (deP p)))
  have k2 := QkB p (gcdP p (deP p))
  unfold dvN at k2
  omega
theorem Fit.free (F : Fit s N Kg Kq K p) (p0 : p ≠ []) : HL Kq Kq (frP p) ∧ (frP p).length ≤ N := by
 obtain ⟨a, _, _⟩ := F.quo p0
 exact ⟨Qh2 a (Qd3 _ _), Nat.le_trans (Qdl (Qdd p) F.t p0 (Qd2 F.t p0)) F.n⟩
theorem Fit.chain (F : Fit s N Kg Kq K p) (p0 : p ≠ []) : ChOk K p.length (frP p) (deP (frP p)) ∧ ∀ q ∈ chP p, SzL K q ∧ q.length ≤ N := by
 have hBB : BB = 1000000000 := rfl
 obtain ⟨Q, nf⟩ := F.free p0
 obtain ⟨_, _, F2⟩ := F.quo p0
 have nd := Qgz (Qdd p)
 have pl := List.length_pos_iff.2 p0
 have fl := Qdl (Qdd p) F.t p0 (Qd2 F.t p0)
 have fpos := List.length_pos_iff.2 (Qg8 F.t p0)
 have l := F.l
 have N9 := F.N9
 have key : ∀ r M, HL r r (frP p) → HL r r (deP (frP p)) → (frP p).length ≤ M → (r + 1) * 3 ^ M ≤ K → ChOk K p.length (frP p) (deP (frP p)) ∧ ∀ q ∈ chL p.length (frP p) (deP (frP p)), SzL K q ∧ q.length ≤ (deP (frP p)).length := by
  intro r M h1 h2 hM hK
  refine Qq9 p.length r (frP p) (deP (frP p)) h1 h2 (Qbe _) (by omega) (by omega) ?_
  rw [Nat.mul_assoc]
  refine Nat.le_trans (Nat.mul_le_mul_left _ ?_) hK
  have h3 : (dvN (frP p) (deP (frP p)) + 1) * 3 ^ (deP (frP p)).length = 3 ^ (frP p).length := by
   have e : dvN (frP p) (deP (frP p)) + 1 = 3 := by unfold dvN; omega
   rw [e, nd, show (frP p).length = ((frP p).length - 1) + 1 by omega, Nat.pow_succ, Nat.add_sub_cancel, Nat.mul_comm]
  rw [h3]
  exact Nat.pow_le_pow_right (by decide) hM
 have k : ChOk K p.length (frP p) (deP (frP p)) ∧ ∀ q ∈ chL p.length (frP p) (deP (frP p)), SzL K q ∧ q.length ≤ (deP (frP p)).length := by
  rcases F2 with F2 | F2
  ·exact key (s + 1) N (F2.mono (by omega) (by omega)) ((F2.de (by omega)).mono (by omega) (by omega)) nf l.1
  ·exact key (Kq + 1) (N - 1) (Q.mono (by omega) (by omega)) ((Q.de (by omega)).mono (by omega) (by omega)) F2 F.f
 refine ⟨k.1, fun q hq => ?_⟩
 rw [chP, if_neg p0] at hq
 rcases List.mem_cons.1 hq with rfl | hq
 ·exact ⟨Q.sz.mono (by omega), nf⟩
 ·exact ⟨(k.2 q hq).1, by have := (k.2 q hq).2; omega⟩
end
section
variable [Its] {s N Kg Kq K : Nat} {dp : D} {p : List Rat}
end
end Go.AM

/- law07.SturmChains: one round. -/
namespace Go.AM
open Go Go.RowKit
variable [Its]
section
variable {dl : D} {ps : List (List Rat)} {a : Rat} {K : Nat}
variable [ItsB]
end
end Go.AM

/- ref07.Made: a polynomial with known zeros. -/
namespace Go.AM
open Go Go.RowKit
theorem Qia : A.bool? (.d (.v (.tuple #[]))) = none := rfl
def kZ : List Rat → Rat → Nat
 | [], _ => 0
 | a :: l, z => if a < z then kZ l z + 1 else 0
def insZ (zs : List Rat) (z : Rat) : List Rat := if kZ zs z < zs.length ∧ zs.getD (kZ zs z) 0 = z then zs else zs.take (kZ zs z) ++ z :: zs.drop (kZ zs z)
theorem kZ_le : ∀ (l : List Rat) (z : Rat), kZ l z ≤ l.length
 | [], z => Nat.le_refl _
 | a :: l, z => by
  rw [kZ]
  have := kZ_le l z
  split
  ·rw [List.length_cons]; omega
  ·omega
theorem insZ_len (zs : List Rat) (z : Rat) : (insZ zs z).length ≤ zs.length + 1 := by
 unfold insZ
 split
 ·omega
 ·have := kZ_le zs z
  simp only [List.length_append, List.length_take, List.length_cons, List.length_drop]; omega
theorem insZ_mem {zs : List Rat} {z q : Rat} (h : q ∈ insZ zs z) : q ∈ zs ∨ q = z := by
 unfold insZ at h
 split at h
 ·exact .inl h
 ·rcases List.mem_append.1 h with h | h
  ·exact .inl (List.mem_of_mem_take h)
  ·rcases List.mem_cons.1 h with h | h
   ·exact .inr h
   ·exact .inl (List.mem_of_mem_drop h)
def kst (d : D) (w : Int) (dp dz : D) (i : Int) (z : Rat) (k : Int) : St := mkS [(0, .d d), (1, ai w), (6, .d dp), (7, .d dz), (8, ai i), (9, .ptr [9] 0), (10, ai k)] [([9], boxR z)]
def mdo (d : D) (w : Int) (dp dz : D) (i : Int) : St := mkS [(0, .d d), (1, ai w), (6, .d dp), (7, .d dz), (8, ai i)] []
def mde (w : Int) (dp dz : D) : St := mkS [(1, ai w), (6, .d dp), (7, .d dz)] []
variable [Its]
section
variable {d dp dz : D} {w : Int} {zs : List Rat} {z : Rat}
theorem mk_go (hz : RwR dz zs) (nz : zs.length ≤ 1000) (sz1 : SzL 1000 zs) (hs : sz z ≤ 1000) {i : Int} {k : Nat} (hk : k < zs.length) :
    X G Qbi (kst d w dp dz i z k) = if zs.getD k 0 < z then some (.n, kst d w dp dz i z ((k + 1 : Nat) : Int)) else some (.x 2, kst d w dp dz i z k) := by
  have e1 : decide ((k : Int) < (zs.length : Int)) = true := lt_t (by omega)
  have e2 : w64 ((k : Int) + 1) = ((k + 1 : Nat) : Int) := by rw [Qaf (by omega) (by omega)]; rfl
  obtain ⟨m, hm⟩ : ∃ m : Int, (zs.length : Int) - 1 = m := ⟨_, rfl⟩
  have e3 : w64 ((zs.length : Int) - 1) = m := by rw [Qaf (by omega) (by omega), hm]
  have e4 : (if m < (k : Int) then m else (k : Int)) = (k : Int) := if_neg (by omega)
  have ll := hz.len
  have x1 := hz.ixa hk
  have x2 := fun h => ldR h zs hk
  have s1 := sz1.getD (by omega) k
  have g1 := Qg9 (a := zs.getD k 0) (b := z) (by omega) (by omega)
  have t := cmpR_lt (a := zs.getD k 0) (b := z)
  generalize zs.getD k 0 = u at *
  generalize cRs (zs.drop k) = cs at *
  generalize cmpR u z = c at *
  simp only [encR, iv] at g1 x2
  by_cases h : u < z
  · have t1 : decide (c < 0) = true := lt_t (t.2 h)
    rw [if_pos h]
    simp -implicitDefEqProofs (maxSteps:=9^8) only [Qbi, kst, boxR, mnV, Qey, ll, x1, x2, g1, e1, e2, e3, e4, t1, ld4q, Qac, go_sem, iv, bv, reduceCtorEq, ↓reduceIte, Nat.reduceEqDiff]
  · have t1 : decide (c < 0) = false := lt_f (fun h2 => h (t.1 h2))
    rw [if_neg h]
    simp -implicitDefEqProofs (maxSteps:=9^8) only [Qbi, kst, boxR, mnV, Qey, ll, x1, x2, g1, e1, e2, e3, e4, t1, ld4q, Qac, go_sem, iv, bv, reduceCtorEq, ↓reduceIte, Nat.reduceEqDiff]
theorem mk_stop (hz : RwR dz zs) {i : Int} : X G Qbi (kst d w dp dz i z zs.length) = some (.x 2, kst d w dp dz i z zs.length) := by
 have e1 : decide ((zs.length : Int) < (zs.length : Int)) = false := lt_f (by omega)
 have ll := hz.len
 simp -implicitDefEqProofs (maxSteps:=9^8) only [Qbi, kst, boxR, ll, e1, Qia, decide_false, Bool.false_eq_true, if_false, Qac, go_sem, iv, bv, reduceCtorEq, ↓reduceIte, Nat.reduceEqDiff]
theorem mk_loop (hz : RwR dz zs) (nz : zs.length ≤ 1000) (sz1 : SzL 1000 zs) (hs : sz z ≤ 1000) {i : Int} : ∀ (j k : Nat), j + k = zs.length →
    X G (.loop Qbi) (kst d w dp dz i z k) = some (.x 2, kst d w dp dz i z ((k + kZ (zs.drop k) z : Nat) : Int))
  | 0, k, h => by
    have : k = zs.length := by omega
    subst this
    rw [Qak, mk_stop hz, List.drop_length]; rfl
  | j + 1, k, h => by
    have hk : k < zs.length := by omega
    have e : zs.drop k = zs.getD k 0 :: zs.drop (k + 1) := by
      rw [List.drop_eq_getElem_cons hk, List.getD_eq_getElem?_getD, List.getElem?_eq_getElem hk]; rfl
    rw [Qak, mk_go hz nz sz1 hs hk, e, kZ]
    by_cases h2 : zs.getD k 0 < z
    · rw [if_pos h2, if_pos h2, Option.bind_some, if_pos rfl, mk_loop hz nz sz1 hs j (k + 1) (by omega)]
      rw [show k + 1 + kZ (zs.drop (k + 1)) z = k + (kZ (zs.drop (k + 1)) z + 1) by omega]
    · rw [if_neg h2, if_neg h2, Option.bind_some]; rfl
end
end Go.AM

