/- Part 10 of the proof: a small machine, its soundness against the model, and what the program's functions compute on it. -/
import Derived.Test.YthhdbchmjfdgmaaM9
import Derived.Test.YthhdbchmjfdgmaaM8
import Derived.Test.YthhdbchmjfdgmaaRows
import Derived.Test.YthhdbchmjfdgmaaM5
import Derived.WalkKit
import Derived.ProofKit
import Derived.OpenShut
import Derived.ShutString
import Derived.ChangeOld
import Derived.Below
import Derived.SizedLaws
set_option linter.unusedVariables false
set_option linter.unusedSimpArgs false
/- How great the divisors are; ref06: Monic, Gcd, Free. -/
namespace Go.AM
open Go Go.RowKit

theorem sc_getD (l : List Rat) (a : Rat) (k : Nat) : (scP l a).getD k 0 = l.getD k 0 * a := by
  rw [scP, getD_trim]
  by_cases h : k < l.length
  · rw [getD_map _ h]
  · rw [getD_out (by simp; omega), getD_out (by omega), Rat.zero_mul]
theorem de_getD (l : List Rat) (k : Nat) : (deP l).getD k 0 = l.getD (k + 1) 0 * ((k + 1 : Nat) : Int) := by
  rw [deP, getD_trim]
  by_cases h : k < l.length - 1
  · rw [getD_map _ h]
  · rw [getD_out (by simp; omega), getD_out (by omega), Rat.zero_mul]
theorem len_of_ne {l : List Rat} {n : Nat} (h : l.getD n 0 ≠ 0) : n + 1 ≤ l.length := by
  by_cases h1 : n < l.length
  · exact h1
  · exact absurd (getD_out (by omega)) h
theorem rinv_ne {x : Rat} (h : x ≠ 0) : 1 / x ≠ 0 := fun h0 => by
  have h1 : 1 / x * x = 1 := by rw [Rat.div_def, Rat.one_mul, Rat.inv_mul_cancel _ h]
  rw [h0, Rat.zero_mul] at h1
  exact absurd h1 (by decide)
theorem mn_getD {l : List Rat} (h : l ≠ []) (k : Nat) : (mnP l).getD k 0 = l.getD k 0 * (1 / l.getD (l.length - 1) 0) := by
  rw [mnP, if_neg h, sc_getD]
theorem mn_lenE {l : List Rat} (hl : Trm l) : (mnP l).length = l.length := by
  by_cases h : l = []
  · subst h; rfl
  · have h1 := mnP_len l
    have hp : 0 < l.length := List.length_pos_iff.2 h
    have h2 := trm_last hl h
    have h3 : (mnP l).getD (l.length - 1) 0 ≠ 0 := by
      rw [mn_getD h]
      intro h0
      rcases Rat.mul_eq_zero.1 h0 with h4 | h4
      · exact h2 h4
      · exact rinv_ne h2 h4
    have := len_of_ne h3
    omega
theorem cast_ne {n : Nat} (h : 0 < n) : (((n : Nat) : Int) : Rat) ≠ 0 := cN_ne h
theorem de_lenE {l : List Rat} (hl : Trm l) : (deP l).length = l.length - 1 := by
  have h1 := len_de l
  by_cases h : l.length ≤ 1
  · omega
  · have h2 := trm_last hl (fun h0 => by rw [h0] at h; simp at h)
    have h3 : (deP l).getD (l.length - 2) 0 ≠ 0 := by
      rw [de_getD, show l.length - 2 + 1 = l.length - 1 by omega]
      intro h0
      rcases Rat.mul_eq_zero.1 h0 with h4 | h4
      · exact h2 h4
      · exact cast_ne (by omega) h4
    have := len_of_ne h3
    omega
theorem three_pow : ∀ d : Nat, d + 3 ≤ 3 ^ (d + 1)
  | 0 => by decide
  | d + 1 => by rw [Nat.pow_succ]; have := three_pow d; omega
theorem three_le {a b : Nat} (h : a < b) : (b + 2 - a) * 3 ^ a ≤ 3 ^ b := by
  obtain ⟨d, rfl⟩ : ∃ d, b = d + 1 + a := ⟨b - 1 - a, by omega⟩
  rw [Nat.pow_add]
  refine Nat.mul_le_mul_right _ ?_
  have := three_pow d
  omega
theorem trm_dv (a b : List Rat) : Trm (remP a b) := by
  unfold remP
  split
  · exact trm_nil
  · exact trm_trim _
/-- Small enough all the way, for the reference. -/
def gcH (K : Nat) : Nat → List Rat → List Rat → Prop
  | 0, _, b => b = []
  | n + 1, a, b => b = [] ∨ (HL K K b ∧ Trm b ∧ gcH K n b (mnP (remP a b)))
theorem dvG_mono {K L : Nat} (h : K ≤ L) {q : List Rat} : ∀ (m : Nat) (R : List Rat), dvG K q m R → dvG L q m R
  | 0, _, _ => trivial
  | k + 1, R, hg => ⟨hg.1.mono h, dvG_mono h k _ hg.2⟩
theorem gcG_mono {K L : Nat} (h : K ≤ L) : ∀ (n : Nat) (a b : List Rat), gcG K n a b → gcG L n a b
  | 0, _, _, hg => hg
  | n + 1, a, b, hg => hg.imp id fun ⟨h1, h2, h3, h4⟩ => ⟨h1.mono h, dvG_mono h _ _ h2, h3.mono h, gcG_mono h n _ _ h4⟩
theorem gc_pot {K : Nat} : ∀ (n s : Nat) (a b : List Rat), HL s s a → HL s s b → Trm b → b.length < n → (s + 1) * (dvN a b + 1) * 3 ^ b.length ≤ K → gcG K n a b ∧ gcH K n a b ∧ HL K K (gcP n a b)
  | 0, _, _, b, _, _, _, h, _ => by omega
  | n + 1, s, a, b, Ha, Hb, tb, hn, hK => by
    have h3 : 1 ≤ 3 ^ b.length := Nat.one_le_pow _ _ (by decide)
    have hs : s + 1 ≤ K := Nat.le_trans (Nat.le_trans (Nat.le_mul_of_pos_right (s + 1) (by omega)) (Nat.le_mul_of_pos_right _ h3)) hK
    by_cases hb : b = []
    · subst hb
      refine ⟨.inl rfl, .inl rfl, ?_⟩
      rw [gcP, if_pos rfl]
      exact Ha.mono (by omega) (by omega)
    · have hlb : 0 < b.length := List.length_pos_iff.2 hb
      obtain ⟨_, q2, _, _⟩ := quo_rem (p := a) tb hb
      have h33 : 3 * ((s + 1) * (dvN a b + 1)) ≤ K := by
        refine Nat.le_trans ?_ hK
        rw [Nat.mul_comm 3]
        refine Nat.mul_le_mul_left _ ?_
        obtain ⟨k, hk⟩ : ∃ k, b.length = k + 1 := ⟨b.length - 1, by omega⟩
        rw [hk, Nat.pow_succ]
        have : 1 ≤ 3 ^ k := Nat.one_le_pow _ _ (by decide)
        omega
      have hr := mnP_len (remP a b)
      have h3' : ((s + 1) * (dvN a b + 1)) * (dvN b (mnP (remP a b)) + 1) * 3 ^ (mnP (remP a b)).length ≤ K := by
        refine Nat.le_trans ?_ hK
        rw [Nat.mul_assoc]
        refine Nat.mul_le_mul_left _ (Nat.le_trans (Nat.le_of_eq ?_) (three_le (a := (mnP (remP a b)).length) (b := b.length) (by omega)))
        congr 1
        unfold dvN; omega
      have he : (s + 1) * (dvN a b + 1) = s * dvN a b + dvN a b + s + 1 := by rw [Nat.mul_add, Nat.add_mul, Nat.mul_one, Nat.one_mul]; omega
      have he2 : dvN a b * (s + 1) = s * dvN a b + dvN a b := by rw [Nat.mul_add, Nat.mul_one, Nat.mul_comm]
      have he3 : dvN a b * s = s * dvN a b := Nat.mul_comm _ _
      obtain ⟨g1, g2, _⟩ := div_HL (K := K) Ha Hb tb (by rw [he2, he3]; omega)
      have hsz := g2.sz
      have g3 := mn_HL g2 (trm_dv a b)
      have e1 : s + dvN a b * (s + 1) + 1 = (s + 1) * (dvN a b + 1) := by omega
      obtain ⟨i1, i2, i3⟩ := gc_pot (K := K) n (s + dvN a b * (s + 1)) b (mnP (remP a b)) (Hb.mono (by omega) (by omega)) g3 (trm_mn _) (by omega) (by rw [e1]; exact h3')
      refine ⟨.inr ⟨Hb.sz.mono (by omega), g1, hsz.mono (by omega), i1⟩, .inr ⟨Hb.mono (by omega) (by omega), tb, i2⟩, ?_⟩
      rw [gcP, if_neg hb]
      exact i3
variable [Its]

theorem r6Monic_spec {d : D} {l : List Rat} (hr : RwR d l) (hn : l.length ≤ 1000) {K : Nat} (sl : SzL K l) (hK1 : 1 ≤ K) (hK : K ≤ 1000000000) : ∃ d', RwR d' (mnP l) ∧ callX G n_gantryref06_Monic [d] = some (.d d') := by
  rw [callX_eq (cf := gantryref06_Monic) rfl]
  have ll := hr.len
  by_cases h0 : l.length = 0
  · have : l = [] := List.eq_nil_of_length_eq_zero h0
    subst this
    refine ⟨.z true, .inl ⟨rfl, rfl⟩, ?_⟩
    have e1 : ((0 : Int) == 0) = true := rfl
    simp only [List.length_nil] at ll
    simp -implicitDefEqProofs (maxSteps := 10000000) only [gantryref06_Monic, ll, e1, go_sem, iv, bv, reduceCtorEq, ↓reduceIte, Nat.reduceEqDiff]
  · have hne : l ≠ [] := fun h => h0 (by rw [h]; rfl)
    unfold mnP
    rw [if_neg hne]
    have e1 : ((l.length : Int) == 0) = false := beq_f (by omega)
    have e2 : w64 ((l.length : Int) - 1) = ((l.length - 1 : Nat) : Int) := by rw [w64_id (by omega) (by omega)]; omega
    have hl : l.length - 1 < l.length := by omega
    have x1 := hr.ixa hl
    have y1 := fun h => ldR h l hl
    have s1 := sl.getD hK1 (l.length - 1)
    have g1 := rone_of
    have g2 := rratDiv_spec (a := 1) (b := l.getD (l.length - 1) 0) (by rw [sz_one_]; omega) (by omega)
    have s2 := sz_div (a := 1) (b := l.getD (l.length - 1) 0)
    rw [sz_one_] at s2
    obtain ⟨d', hr', gS⟩ := r6Scale_spec (a := 1 / l.getD (l.length - 1) 0) hr (K := K + 1) (sl.mono (by omega)) (by omega) (by omega) (by omega) hn
    refine ⟨d', hr', ?_⟩
    clear s1 s2 hr'
    generalize 1 / l.getD (l.length - 1) 0 = r at *
    generalize l.getD (l.length - 1) 0 = u at *
    generalize cRs (l.drop (l.length - 1)) = cs at *
    generalize ((l.length - 1 : Nat) : Int) = z at *
    generalize (1 : Rat) = one at *
    simp only [encR, iv] at g1 g2 y1 gS
    simp -implicitDefEqProofs (maxSteps := 10000000) only [gantryref06_Monic, ll, x1, y1, e1, e2, g1, g2, gS, go_sem, iv, bv, reduceCtorEq, ↓reduceIte, Nat.reduceEqDiff]

end Go.AM

/- Divisors of polynomials: the common divisor is a combination, the part without squares. -/
namespace Go.AM
open Go Go.RowKit

def Dv (q p : List Rat) : Prop := ∃ s : List Rat, ∀ x, evR p x = evR s x * evR q x
theorem evR_c (c x : Rat) : evR [c] x = c := by
  show (0 : Rat) * x + c = c
  rw [Rat.zero_mul, Rat.zero_add]
theorem Dv.refl (p : List Rat) : Dv p p := ⟨[1], fun x => by rw [evR_c, Rat.one_mul]⟩
theorem Dv.nil (p : List Rat) : Dv p [] := ⟨[], fun x => by rw [evR_nil, Rat.zero_mul]⟩
theorem Dv.one (p : List Rat) : Dv [1] p := ⟨p, fun x => by rw [evR_c, Rat.mul_one]⟩
theorem Dv.trans {a b c : List Rat} (h : Dv a b) (k : Dv b c) : Dv a c := by
  obtain ⟨s, hs⟩ := h
  obtain ⟨t, ht⟩ := k
  exact ⟨muP t s, fun x => by rw [ev_mu, ht, hs, Rat.mul_assoc]⟩
theorem Dv.comb {q a b c u v : List Rat} (h : Dv q a) (k : Dv q b) (hc : ∀ x, evR c x = evR u x * evR a x + evR v x * evR b x) : Dv q c := by
  obtain ⟨s, hs⟩ := h
  obtain ⟨t, ht⟩ := k
  refine ⟨adP (muP u s) (muP v t), fun x => ?_⟩
  rw [ev_ad, ev_mu, ev_mu, hc, hs, ht]
  generalize evR u x = a1; generalize evR v x = a2; generalize evR s x = a3; generalize evR t x = a4; generalize evR q x = a5
  grind
theorem ev0_nil {l : List Rat} (hl : Trm l) (h : ∀ x, evR l x = 0) : l = [] := poly_ext hl trm_nil (fun x => by rw [h, evR_nil])
theorem ev_ne {l : List Rat} (hl : Trm l) (h : l ≠ []) : ∃ x, evR l x ≠ 0 := Classical.byContradiction fun hn => h (ev0_nil hl fun x => Classical.byContradiction fun hx => hn ⟨x, hx⟩)
theorem mul_len {a b : List Rat} (ha : Trm a) (hb : Trm b) (na : a ≠ []) (nb : b ≠ []) : (muP a b).length = a.length + b.length - 1 := by
  have h1 := List.length_pos_iff.2 na
  have h2 := List.length_pos_iff.2 nb
  have h3 : (muP a b).getD (a.length - 1 + (b.length - 1)) 0 ≠ 0 := by
    rw [mu_getD, conv_top h1 h2]
    intro h0
    rcases Rat.mul_eq_zero.1 h0 with h4 | h4
    · exact trm_last ha na h4
    · exact trm_last hb nb h4
  have := len_of_ne h3
  have := len_mu a b
  omega
theorem ev_mul_zero {a b : List Rat} (h : ∀ x, evR a x * evR b x = 0) : (∀ x, evR a x = 0) ∨ (∀ x, evR b x = 0) := by
  by_cases ha : trimR a = []
  · exact .inl fun x => by rw [← evR_trim, ha, evR_nil]
  · by_cases hb : trimR b = []
    · exact .inr fun x => by rw [← evR_trim, hb, evR_nil]
    · have h1 := mul_len (trm_trim a) (trm_trim b) ha hb
      have h2 : muP (trimR a) (trimR b) = [] := ev0_nil (trm_mu _ _) fun x => by rw [ev_mu, evR_trim, evR_trim, h]
      have h3 := List.length_pos_iff.2 ha
      have h4 := List.length_pos_iff.2 hb
      rw [h2] at h1
      simp only [List.length_nil] at h1
      omega
theorem ev_cancel {a b c : List Rat} (hc : ∃ x, evR c x ≠ 0) (h : ∀ x, evR a x * evR c x = evR b x * evR c x) (x : Rat) : evR a x = evR b x := by
  rcases ev_mul_zero (a := sbP a b) (b := c) (fun x => by rw [ev_sb]; have := h x; generalize evR a x = u at *; generalize evR b x = v at *; generalize evR c x = w at *; grind) with h1 | h1
  · have := h1 x
    rw [ev_sb] at this
    generalize evR a x = u at *; generalize evR b x = v at *
    grind
  · obtain ⟨y, hy⟩ := hc
    exact absurd (h1 y) hy
theorem dv_zero {p : List Rat} (tp : Trm p) (h : Dv [] p) : p = [] := by
  obtain ⟨s, hs⟩ := h
  exact ev0_nil tp fun x => by rw [hs, evR_nil, Rat.mul_zero]
/-- The factor, trimmed. -/
theorem dv_fac {q p : List Rat} (tq : Trm q) (tp : Trm p) (np : p ≠ []) (h : Dv q p) : ∃ s, Trm s ∧ s ≠ [] ∧ q ≠ [] ∧ p = muP s q ∧ p.length = s.length + q.length - 1 := by
  have nq : q ≠ [] := fun h0 => np (dv_zero tp (h0 ▸ h))
  obtain ⟨s, hs⟩ := h
  have e : p = muP (trimR s) q := poly_ext tp (trm_mu _ _) fun x => by rw [hs, ev_mu, evR_trim]
  have ns : trimR s ≠ [] := fun h0 => np (ev0_nil tp fun x => by rw [hs, ← evR_trim s, h0, evR_nil, Rat.zero_mul])
  exact ⟨trimR s, trm_trim _, ns, nq, e, by rw [e]; exact mul_len (trm_trim _) tq ns nq⟩
theorem dv_len {q p : List Rat} (tq : Trm q) (tp : Trm p) (np : p ≠ []) (h : Dv q p) : q.length ≤ p.length := by
  obtain ⟨s, _, ns, _, _, hl⟩ := dv_fac tq tp np h
  have := List.length_pos_iff.2 ns
  omega
theorem rem_of_dv {q p : List Rat} (tq : Trm q) (nq : q ≠ []) (h : Dv q p) : remP p q = [] ∧ ∀ x, evR p x = evR (quoP p q) x * evR q x := by
  obtain ⟨h1, h2, h3, h4⟩ := quo_rem (p := p) tq nq
  obtain ⟨s, hs⟩ := h
  have hr : remP p q = [] := (div_uniq tq nq h3 (trm_trim s) h4 trm_nil h2 (by simp) (fun x => by rw [← h1, evR_trim, hs, evR_nil, Rat.add_zero])).2
  exact ⟨hr, fun x => by rw [h1, hr, evR_nil, Rat.add_zero]⟩

def Mo (l : List Rat) : Prop := l = [] ∨ l.getD (l.length - 1) 0 = 1
theorem mo_one : Mo [1] := .inr rfl
theorem trm_one : Trm [1] := fun n h => by
  have : n = 0 := by simpa using h.symm
  subst this
  show (1 : Rat) ≠ 0
  decide
theorem mo_mn {l : List Rat} (tl : Trm l) : Mo (mnP l) := by
  by_cases h : l = []
  · subst h; exact .inl rfl
  · refine .inr ?_
    rw [mn_lenE tl, mn_getD h, Rat.div_def, Rat.one_mul, Rat.mul_inv_cancel _ (trm_last tl h)]
theorem ev_mn {l : List Rat} (h : l ≠ []) (x : Rat) : evR (mnP l) x = evR l x * (1 / l.getD (l.length - 1) 0) := by rw [mnP, if_neg h, ev_sc]
theorem dv_mn {l : List Rat} : Dv l (mnP l) := by
  by_cases h : l = []
  · subst h; exact Dv.nil _
  · exact ⟨[1 / l.getD (l.length - 1) 0], fun x => by rw [ev_mn h, evR_c, Rat.mul_comm]⟩
theorem mn_dv {l : List Rat} (tl : Trm l) : Dv (mnP l) l := by
  by_cases h : l = []
  · subst h; exact Dv.nil _
  · refine ⟨[l.getD (l.length - 1) 0], fun x => ?_⟩
    have h1 := trm_last tl h
    rw [ev_mn h, evR_c]
    generalize l.getD (l.length - 1) 0 = c at *
    rw [Rat.div_def, Rat.one_mul, Rat.mul_comm (evR l x), ← Rat.mul_assoc, Rat.mul_inv_cancel _ h1, Rat.one_mul]
theorem mn_ne {l : List Rat} (tl : Trm l) (h : l ≠ []) : mnP l ≠ [] := fun h0 => h (by
  have := mn_lenE tl
  rw [h0] at this
  exact List.length_eq_zero_iff.1 this.symm)
theorem mo_uniq {a b : List Rat} (ta : Trm a) (tb : Trm b) (ma : Mo a) (mb : Mo b) (h1 : Dv a b) (h2 : Dv b a) : a = b := by
  by_cases na : a = []
  · subst na; exact (dv_zero tb h1).symm
  · have nb : b ≠ [] := fun h0 => na (dv_zero ta (h0 ▸ h2))
    have l2 := dv_len tb ta na h2
    obtain ⟨s, ts, ns, _, e, hl⟩ := dv_fac ta tb nb h1
    have p1 := List.length_pos_iff.2 ns
    have p2 := List.length_pos_iff.2 na
    have hs : s.length = 1 := by omega
    have hab : b.length - 1 = s.length - 1 + (a.length - 1) := by omega
    have hc : s.getD (s.length - 1) 0 = 1 := by
      have c1 := mb.resolve_left nb
      rw [hab] at c1
      rw [e, mu_getD, conv_top p1 p2, ma.resolve_left na, Rat.mul_one] at c1
      exact c1
    obtain ⟨c, rfl⟩ : ∃ c, s = [c] := List.length_eq_one_iff.1 hs
    have hc1 : c = 1 := hc
    subst hc1
    refine poly_ext ta tb fun x => ?_
    rw [e, ev_mu, evR_c, Rat.one_mul]
theorem mo_len1 {a : List Rat} (ma : Mo a) (h : a.length = 1) : a = [1] := by
  obtain ⟨c, rfl⟩ : ∃ c, a = [c] := List.length_eq_one_iff.1 h
  rcases ma with h1 | h1
  · cases h1
  · have : c = 1 := h1
    rw [this]

/-! ### The common divisor -/
theorem gc_bez : ∀ (n : Nat) (a b : List Rat), Trm a → Trm b → b.length < n → (∃ u v, ∀ x, evR (gcP n a b) x = evR u x * evR a x + evR v x * evR b x) ∧ Dv (gcP n a b) a ∧ Dv (gcP n a b) b
  | 0, _, _, _, _, h => by omega
  | n + 1, a, b, ta, tb, h => by
    rw [gcP]
    by_cases hb : b = []
    · rw [if_pos hb]
      subst hb
      exact ⟨⟨[1], [], fun x => by rw [evR_c, evR_nil, Rat.one_mul, Rat.zero_mul, Rat.add_zero]⟩, Dv.refl _, Dv.nil _⟩
    · rw [if_neg hb]
      obtain ⟨q1, q2, q3, q4⟩ := quo_rem (p := a) tb hb
      have hp := List.length_pos_iff.2 hb
      obtain ⟨⟨u, v, i1⟩, i2, i3⟩ := gc_bez n b (mnP (remP a b)) tb (trm_mn _) (by have := mn_lenE q4; omega)
      generalize gcP n b (mnP (remP a b)) = g at *
      have i4 : Dv g (remP a b) := i3.trans (mn_dv q4)
      obtain ⟨s, hs⟩ := dv_mn (l := remP a b)
      refine ⟨⟨muP v s, sbP u (muP (muP v s) (quoP a b)), fun x => ?_⟩, i2.comb i4 (u := quoP a b) (v := [1]) (fun x => by rw [evR_c, Rat.one_mul]; exact q1 x), i2⟩
      rw [i1, hs, ev_sb, ev_mu, ev_mu, ev_mu, q1]
      generalize evR u x = a1; generalize evR v x = a2; generalize evR s x = a3; generalize evR b x = a4; generalize evR (quoP a b) x = a5; generalize evR (remP a b) x = a6
      grind
theorem trm_gcP : ∀ (n : Nat) (a b : List Rat), Trm a → Trm b → Trm (gcP n a b)
  | 0, _, _, ha, _ => ha
  | n + 1, a, b, ha, hb => by
    rw [gcP]
    split
    · exact ha
    · exact trm_gcP n b _ hb (trm_mn _)
theorem mo_gcP : ∀ (n : Nat) (a b : List Rat), Mo a → Mo b → Mo (gcP n a b)
  | 0, _, _, ha, _ => ha
  | n + 1, a, b, ha, hb => by
    rw [gcP]
    split
    · exact ha
    · exact mo_gcP n b _ hb (mo_mn (trm_dv _ _))
section
variable {p q : List Rat}
theorem gcd_bez (tp : Trm p) (tq : Trm q) : (∃ u v, ∀ x, evR (gcdP p q) x = evR u x * evR p x + evR v x * evR q x) ∧ Dv (gcdP p q) p ∧ Dv (gcdP p q) q := by
  obtain ⟨⟨u, v, h1⟩, h2, h3⟩ := gc_bez (q.length + 1) (mnP p) (mnP q) (trm_mn _) (trm_mn _) (by have := mn_lenE tq; omega)
  obtain ⟨s, hs⟩ := dv_mn (l := p)
  obtain ⟨t, ht⟩ := dv_mn (l := q)
  refine ⟨⟨muP u s, muP v t, fun x => ?_⟩, h2.trans (mn_dv tp), h3.trans (mn_dv tq)⟩
  show evR (gcP _ _ _) x = _
  rw [h1, hs, ht, ev_mu, ev_mu, Rat.mul_assoc, Rat.mul_assoc]
theorem trm_gcd : Trm (gcdP p q) := trm_gcP _ _ _ (trm_mn _) (trm_mn _)
theorem mo_gcd (tp : Trm p) (tq : Trm q) : Mo (gcdP p q) := mo_gcP _ _ _ (mo_mn tp) (mo_mn tq)
theorem gcd_is (tp : Trm p) (tq : Trm q) {g : List Rat} (tg : Trm g) (mg : Mo g) (h1 : Dv g p) (h2 : Dv g q) {u v : List Rat} (hb : ∀ x, evR g x = evR u x * evR p x + evR v x * evR q x) : gcdP p q = g := by
  obtain ⟨⟨a, b, k1⟩, k2, k3⟩ := gcd_bez tp tq
  exact mo_uniq trm_gcd tg (mo_gcd tp tq) mg (k2.comb k3 hb) (h1.comb h2 k1)
theorem gcd_ne (tp : Trm p) (tq : Trm q) (h : p ≠ [] ∨ q ≠ []) : gcdP p q ≠ [] := fun h0 => by
  obtain ⟨_, k2, k3⟩ := gcd_bez tp tq
  rw [h0] at k2 k3
  rcases h with h | h
  · exact h (dv_zero tp k2)
  · exact h (dv_zero tq k3)
theorem gcd_nil : gcdP [] [] = [] := rfl
theorem trm_quo (a b : List Rat) : Trm (quoP a b) := by
  unfold quoP
  split
  · exact trm_nil
  · exact trm_trim _
/-- The quotients have no common divisor. -/
theorem gcd_quo (tp : Trm p) (tq : Trm q) (h : p ≠ [] ∨ q ≠ []) : gcdP (quoP p (gcdP p q)) (quoP q (gcdP p q)) = [1] := by
  have ng := gcd_ne tp tq h
  have tg : Trm (gcdP p q) := trm_gcd
  obtain ⟨⟨u, v, k1⟩, k2, k3⟩ := gcd_bez tp tq
  generalize gcdP p q = g at *
  obtain ⟨_, e1⟩ := rem_of_dv tg ng k2
  obtain ⟨_, e2⟩ := rem_of_dv tg ng k3
  refine gcd_is (trm_quo _ _) (trm_quo _ _) trm_one mo_one (Dv.one _) (Dv.one _) (u := u) (v := v) (fun x => ?_)
  have := ev_cancel (a := [1]) (b := adP (muP u (quoP p g)) (muP v (quoP q g))) (c := g) (ev_ne tg ng) (fun x => by
    rw [evR_c, Rat.one_mul, ev_ad, ev_mu, ev_mu, Rat.add_mul, Rat.mul_assoc, Rat.mul_assoc, ← e1, ← e2, ← k1]) x
  rw [this, ev_ad, ev_mu, ev_mu]
/-- A common factor. -/
theorem gcd_mul (tp : Trm p) (tq : Trm q) (r : List Rat) : gcdP (muP p r) (muP q r) = mnP (muP (gcdP p q) r) := by
  obtain ⟨⟨u, v, k1⟩, k2, k3⟩ := gcd_bez tp tq
  generalize gcdP p q = g at *
  obtain ⟨s, hs⟩ := dv_mn (l := muP g r)
  have d1 : ∀ {a : List Rat}, Dv g a → Dv (mnP (muP g r)) (muP a r) := fun {a} ⟨t, ht⟩ => (mn_dv (trm_mu g r)).trans ⟨t, fun x => by rw [ev_mu, ev_mu, ht, Rat.mul_assoc]⟩
  refine gcd_is (trm_mu _ _) (trm_mu _ _) (trm_mn _) (mo_mn (trm_mu _ _)) (d1 k2) (d1 k3) (u := muP s u) (v := muP s v) (fun x => ?_)
  rw [hs, ev_mu, ev_mu, ev_mu, ev_mu, ev_mu, k1]
  generalize evR u x = a1; generalize evR v x = a2; generalize evR s x = a3; generalize evR p x = a4; generalize evR q x = a5; generalize evR r x = a6
  grind
end

/-! ### The part without squares -/
def Irr (π : List Rat) : Prop := Trm π ∧ 2 ≤ π.length ∧ ∀ d, Trm d → Dv d π → d.length = 1 ∨ d.length = π.length
theorem irr_ex : ∀ (n : Nat) (h : List Rat), h.length ≤ n → Trm h → 2 ≤ h.length → ∃ π, Irr π ∧ Dv π h
  | 0, h, hn, _, h2 => by omega
  | n + 1, h, hn, th, h2 => by
    have nh : h ≠ [] := fun h0 => by rw [h0] at h2; simp at h2
    by_cases hex : ∃ d, Trm d ∧ Dv d h ∧ 2 ≤ d.length ∧ d.length < h.length
    · obtain ⟨d, td, hd, d2, dl⟩ := hex
      obtain ⟨π, h1, h3⟩ := irr_ex n d (by omega) td d2
      exact ⟨π, h1, h3.trans hd⟩
    · refine ⟨h, ⟨th, h2, fun d td hd => ?_⟩, Dv.refl _⟩
      have l1 := dv_len td th nh hd
      have nd : d ≠ [] := fun h0 => nh (dv_zero th (h0 ▸ hd))
      have l2 := List.length_pos_iff.2 nd
      by_cases l3 : d.length = h.length
      · exact .inr l3
      · refine .inl ?_
        by_cases l4 : 2 ≤ d.length
        · exact absurd ⟨d, td, hd, l4, by omega⟩ hex
        · omega
theorem dv_eqlen {g π : List Rat} (tg : Trm g) (tπ : Trm π) (nπ : π ≠ []) (h : Dv g π) (hl : g.length = π.length) : Dv π g := by
  obtain ⟨s, ts, ns, ng, e, hh⟩ := dv_fac tg tπ nπ h
  have p1 := List.length_pos_iff.2 ng
  obtain ⟨c, rfl⟩ : ∃ c, s = [c] := List.length_eq_one_iff.1 (by omega)
  have hc : c ≠ 0 := by
    have := trm_last ts ns
    exact this
  refine ⟨[c⁻¹], fun x => ?_⟩
  rw [e, ev_mu, evR_c, evR_c, ← Rat.mul_assoc, Rat.inv_mul_cancel _ hc, Rat.one_mul]
theorem irr_ne {π : List Rat} (h : Irr π) : π ≠ [] := fun h0 => by have := h.2.1; rw [h0] at this; simp at this
theorem irr_prime {π a b : List Rat} (h : Irr π) (ta : Trm a) (hd : Dv π (muP a b)) : Dv π a ∨ Dv π b := by
  obtain ⟨tπ, h2, h3⟩ := h
  have nπ : π ≠ [] := irr_ne ⟨tπ, h2, h3⟩
  obtain ⟨⟨u, v, k1⟩, k2, k3⟩ := gcd_bez tπ ta
  have tg : Trm (gcdP π a) := trm_gcd
  have mg := mo_gcd tπ ta
  generalize gcdP π a = g at *
  rcases h3 g tg k2 with hl | hl
  · have hg := mo_len1 mg hl
    subst hg
    refine .inr ?_
    obtain ⟨t, ht⟩ := hd
    refine ⟨adP (muP u b) (muP v t), fun x => ?_⟩
    have e1 := k1 x
    have e2 := ht x
    rw [evR_c] at e1
    rw [ev_mu] at e2
    rw [ev_ad, ev_mu, ev_mu]
    generalize evR u x = a1 at *; generalize evR v x = a2 at *; generalize evR a x = a3 at *; generalize evR b x = a4 at *; generalize evR t x = a5 at *; generalize evR π x = a6 at *
    have e3 : a4 = (a1 * a6 + a2 * a3) * a4 := by rw [← e1, Rat.one_mul]
    grind
  · exact .inl ((dv_eqlen tg tπ nπ k2 hl).trans k3)
def pwP (π : List Rat) : Nat → List Rat
  | 0 => [1]
  | k + 1 => muP (pwP π k) π
theorem ev_pw (π : List Rat) (x : Rat) : ∀ k, evR (pwP π k) x = (evR π x) ^ k
  | 0 => by rw [pwP, evR_c, Rat.pow_zero]
  | k + 1 => by rw [pwP, ev_mu, ev_pw π x k, Rat.pow_succ]
theorem mult_ex {π : List Rat} (h : Irr π) : ∀ (n : Nat) (p : List Rat), p.length ≤ n → Trm p → p ≠ [] → ∃ k v, Trm v ∧ ¬ Dv π v ∧ ∀ x, evR p x = evR (pwP π k) x * evR v x
  | 0, p, hn, _, np => absurd (List.length_eq_zero_iff.1 (by omega)) np
  | n + 1, p, hn, tp, np => by
    by_cases hd : Dv π p
    · obtain ⟨s, ts, ns, _, e, hl⟩ := dv_fac h.1 tp np hd
      have h2 := h.2.1
      have p1 := List.length_pos_iff.2 ns
      obtain ⟨k, v, tv, nv, hv⟩ := mult_ex h n s (by omega) ts ns
      refine ⟨k + 1, v, tv, nv, fun x => ?_⟩
      rw [e, ev_mu, hv, pwP, ev_mu]
      generalize evR (pwP π k) x = a; generalize evR v x = b; generalize evR π x = c
      grind
    · exact ⟨0, p, tp, hd, fun x => by rw [pwP, evR_c, Rat.one_mul]⟩
theorem der_congr {l m : List Rat} (h : ∀ x, evR l x = evR m x) (x : Rat) : der l x = der m x := by
  have e : deP l = deP m := trm_ext (trm_de l) (trm_de m) fun k => by rw [de_getD, de_getD, coef_eq (c := 0) (fun x _ => h x)]
  rw [← ev_de, ← ev_de, e]
theorem der_pow {π v : List Rat} : ∀ (j : Nat) (p : List Rat), (∀ x, evR p x = evR (pwP π (j + 1)) x * evR v x) → Dv (pwP π j) (deP p)
  | 0, p, _ => Dv.one _
  | j + 1, p, h => by
    have h' : ∀ x, evR p x = evR (muP (muP (pwP π (j + 1)) v) π) x := fun x => by
      rw [h, pwP, ev_mu, ev_mu, ev_mu]
      generalize evR (pwP π (j + 1)) x = a; generalize evR v x = b; generalize evR π x = c
      grind
    obtain ⟨s, hs⟩ := der_pow (π := π) (v := v) j (muP (pwP π (j + 1)) v) (fun x => ev_mu _ _ _)
    refine ⟨adP s (muP v (deP π)), fun x => ?_⟩
    have e1 := hs x
    rw [ev_de] at e1
    rw [ev_de, der_congr h', der_mu, e1, ev_mu, ev_ad, ev_mu, pwP, ev_mu, ev_de]
    generalize evR (pwP π j) x = a; generalize evR v x = b; generalize evR π x = c; generalize evR s x = d; generalize der π x = e
    grind
theorem rpow_ne {x : Rat} (h : x ≠ 0) : ∀ k : Nat, x ^ k ≠ 0
  | 0 => by rw [Rat.pow_zero]; decide
  | k + 1 => by
    rw [Rat.pow_succ]
    intro h0
    rcases Rat.mul_eq_zero.1 h0 with h1 | h1
    · exact rpow_ne h k h1
    · exact h h1
theorem pw_ne {π : List Rat} (tπ : Trm π) (nπ : π ≠ []) (k : Nat) : ∃ x, evR (pwP π k) x ≠ 0 := by
  obtain ⟨x, hx⟩ := ev_ne tπ nπ
  exact ⟨x, by rw [ev_pw]; exact rpow_ne hx k⟩
section
variable {p : List Rat}
theorem frP_parts (tp : Trm p) (np : p ≠ []) : gcdP p (deP p) ≠ [] ∧ (∀ x, evR p x = evR (quoP p (gcdP p (deP p))) x * evR (gcdP p (deP p)) x) ∧ quoP p (gcdP p (deP p)) ≠ [] := by
  have ng := gcd_ne tp (trm_de p) (.inl np)
  obtain ⟨_, k2, _⟩ := gcd_bez tp (trm_de p)
  have e := (rem_of_dv trm_gcd ng k2).2
  exact ⟨ng, e, fun h0 => np (ev0_nil tp fun x => by rw [e, h0, evR_nil, Rat.zero_mul])⟩
theorem frP_ne (tp : Trm p) (np : p ≠ []) : frP p ≠ [] := mn_ne (trm_quo _ _) (frP_parts tp np).2.2
theorem trm_fr (p : List Rat) : Trm (frP p) := trm_mn _
theorem frP_dv (tp : Trm p) (np : p ≠ []) : Dv (frP p) p :=
  (mn_dv (trm_quo _ _)).trans ⟨gcdP p (deP p), fun x => by rw [(frP_parts tp np).2.1, Rat.mul_comm]⟩
theorem frP_free (tp : Trm p) (np : p ≠ []) : gcdP (frP p) (deP (frP p)) = [1] := by
  obtain ⟨ng, e, nF⟩ := frP_parts tp np
  obtain ⟨⟨a, b, k1⟩, _, _⟩ := gcd_bez tp (trm_de p)
  have hFf : Dv (frP p) (quoP p (gcdP p (deP p))) := mn_dv (trm_quo _ _)
  have nf := frP_ne tp np
  have tf := trm_fr p
  have tg : Trm (gcdP p (deP p)) := trm_gcd
  generalize gcdP p (deP p) = g at *
  generalize frP p = f at *
  have nh := gcd_ne tf (trm_de f) (.inl nf)
  have th : Trm (gcdP f (deP f)) := trm_gcd
  obtain ⟨_, d1, d2⟩ := gcd_bez tf (trm_de f)
  have hp := List.length_pos_iff.2 nh
  by_cases h2 : 2 ≤ (gcdP f (deP f)).length
  · exfalso
    obtain ⟨π, hI, hπ⟩ := irr_ex _ _ (Nat.le_refl _) th h2
    have tπ := hI.1
    have nπ := irr_ne hI
    have c1 := hπ.trans d1
    obtain ⟨t, ht⟩ := hπ.trans d2
    obtain ⟨u, tu, nu, _, eu, _⟩ := dv_fac tπ tf nf c1
    have hu : Dv π u := by
      have : Dv π (muP u (deP π)) := ⟨sbP t (deP u), fun x => by
        have e1 := ht x
        rw [ev_de, eu, der_mu] at e1
        rw [ev_mu, ev_sb, ev_de, ev_de]
        generalize der u x = a1 at *; generalize evR π x = a2 at *; generalize evR u x = a3 at *; generalize der π x = a4 at *; generalize evR t x = a5 at *
        grind⟩
      rcases irr_prime hI tu this with h | h
      · exact h
      · exfalso
        have l1 := de_lenE tπ
        have h3 := hI.2.1
        have nd : deP π ≠ [] := fun h0 => by rw [h0] at l1; simp only [List.length_nil] at l1; omega
        have := dv_len tπ (trm_de π) nd h
        omega
    obtain ⟨w, hw⟩ := hu
    obtain ⟨s, hs⟩ := hFf
    obtain ⟨k, v, tv, nv, hv⟩ := mult_ex hI p.length p (Nat.le_refl _) tp np
    have hsq : ∀ x, evR p x = evR s x * (evR w x * evR π x * evR π x) * evR g x := fun x => by rw [e, hs, eu, ev_mu, hw]
    cases k with
    | zero =>
      refine nv ⟨muP (muP s (muP w π)) g, fun x => ?_⟩
      have e1 := hv x
      rw [pwP, evR_c, Rat.one_mul] at e1
      rw [← e1, hsq, ev_mu, ev_mu, ev_mu]
      generalize evR s x = a1; generalize evR π x = a2; generalize evR w x = a3; generalize evR g x = a4
      grind
    | succ j =>
      obtain ⟨q, hq⟩ := der_pow j p hv
      -- the power before divides g
      have hg : ∀ x, evR g x = evR (adP (muP a (muP v π)) (muP b q)) x * evR (pwP π j) x := fun x => by
        rw [k1, hv, hq, pwP, ev_mu, ev_ad, ev_mu, ev_mu, ev_mu]
        generalize evR a x = a1; generalize evR π x = a2; generalize evR v x = a3; generalize evR b x = a4; generalize evR q x = a5; generalize evR (pwP π j) x = a6
        grind
      generalize adP (muP a (muP v π)) (muP b q) = G at *
      refine nv ⟨muP (muP s w) G, fun x => ?_⟩
      have := ev_cancel (a := v) (b := muP (muP (muP s w) G) π) (c := muP (pwP π j) π) (by
        obtain ⟨y, hy⟩ := pw_ne tπ nπ (j + 1)
        exact ⟨y, hy⟩) (fun x => by
        have e1 := hv x
        rw [pwP, ev_mu, hsq, hg] at e1
        rw [ev_mu, ev_mu, ev_mu, ev_mu]
        generalize evR s x = a1 at *; generalize evR π x = a2 at *; generalize evR w x = a3 at *; generalize evR G x = a4 at *; generalize evR v x = a5 at *; generalize evR (pwP π j) x = a6 at *
        grind) x
      rw [this, ev_mu]
  · exact mo_len1 (mo_gcd tf (trm_de f)) (by omega)
theorem mn_eqv {a b : List Rat} (ta : Trm a) (tb : Trm b) (h1 : Dv a b) (h2 : Dv b a) : mnP a = mnP b :=
  mo_uniq (trm_mn _) (trm_mn _) (mo_mn ta) (mo_mn tb) ((mn_dv ta).trans (h1.trans dv_mn)) ((mn_dv tb).trans (h2.trans dv_mn))
theorem half2 : (1 / 2 : Rat) * 2 = 1 := by decide +kernel
theorem frP_sqr (tp : Trm p) (np : p ≠ []) : frP (muP p p) = frP p := by
  obtain ⟨ng, e, nF⟩ := frP_parts tp np
  have tpp : Trm (muP p p) := trm_mu _ _
  have npp : muP p p ≠ [] := fun h0 => by
    have := mul_len tp tp np np
    have := List.length_pos_iff.2 np
    rw [h0] at *; simp only [List.length_nil] at *; omega
  obtain ⟨nG, E, nF1⟩ := frP_parts tpp npp
  obtain ⟨⟨u, w, k1⟩, k2, k3⟩ := gcd_bez tp (trm_de p)
  obtain ⟨⟨U, W, K1⟩, K2, K3⟩ := gcd_bez tpp (trm_de (muP p p))
  have tG : Trm (gcdP (muP p p) (deP (muP p p))) := trm_gcd
  refine mn_eqv (trm_quo _ _) (trm_quo _ _) ?_ ?_ <;>
  · have hd : ∀ x, evR (deP (muP p p)) x = 2 * (evR p x * evR (deP p) x) := fun x => by
      rw [ev_de, der_mu, ev_de]
      generalize evR p x = a; generalize der p x = b
      grind
    have s1 : Dv (gcdP (muP p p) (deP (muP p p))) (muP p (gcdP p (deP p))) := K2.comb K3 (u := u) (v := muP [1 / 2] w) (fun x => by
      have h2 := half2
      rw [hd, ev_mu, ev_mu, ev_mu, k1, evR_c]
      generalize evR p x = a1; generalize evR u x = a2; generalize evR w x = a3; generalize evR (deP p) x = a4; generalize (1 / 2 : Rat) = hf at *
      grind)
    have s2 : Dv (muP p (gcdP p (deP p))) (gcdP (muP p p) (deP (muP p p))) := by
      obtain ⟨q1, h1⟩ := k2
      obtain ⟨q2, h2⟩ := k3
      refine Dv.comb (a := muP p p) (b := deP (muP p p)) ⟨q1, fun x => ?_⟩ ⟨muP [2] q2, fun x => ?_⟩ K1
      · rw [ev_mu, ev_mu]
        have := h1 x
        generalize evR (gcdP p (deP p)) x = a1 at *; generalize evR p x = a2 at *; generalize evR q1 x = a3 at *
        grind
      · rw [hd, ev_mu, ev_mu, evR_c]
        have := h2 x
        generalize evR (gcdP p (deP p)) x = a1 at *; generalize evR p x = a2 at *; generalize evR q2 x = a3 at *; generalize evR (deP p) x = a4 at *
        grind
    generalize gcdP p (deP p) = g at *
    generalize quoP p g = F at *
    generalize quoP (muP p p) (gcdP (muP p p) (deP (muP p p))) = F1 at *
    generalize gcdP (muP p p) (deP (muP p p)) = G at *
    obtain ⟨t, ht⟩ := s1
    obtain ⟨s, hs⟩ := s2
    first
    | refine ⟨s, fun x => ?_⟩
      refine ev_cancel (a := F) (b := muP s F1) (c := muP p g) ?_ (fun x => ?_) x |>.trans (ev_mu _ _ _)
      · obtain ⟨y, hy⟩ := ev_ne tpp npp
        refine ⟨y, fun h0 => hy ?_⟩
        rw [ev_mu] at h0 ⊢
        have := e y
        generalize evR g y = a1 at *; generalize evR p y = a2 at *; generalize evR F y = a3 at *
        grind
      · have a := e x
        have b := E x
        have c := hs x
        rw [ev_mu] at b c
        rw [ev_mu, ev_mu]
        generalize evR g x = a1 at *; generalize evR p x = a2 at *; generalize evR F x = a3 at *; generalize evR F1 x = a4 at *; generalize evR G x = a5 at *; generalize evR s x = a6 at *
        grind
    | refine ⟨t, fun x => ?_⟩
      refine ev_cancel (a := F1) (b := muP t F) (c := G) (ev_ne tG nG) (fun x => ?_) x |>.trans (ev_mu _ _ _)
      have a := e x
      have b := E x
      have c := ht x
      rw [ev_mu] at b c
      rw [ev_mu]
      generalize evR g x = a1 at *; generalize evR p x = a2 at *; generalize evR F x = a3 at *; generalize evR F1 x = a4 at *; generalize evR G x = a5 at *; generalize evR t x = a6 at *
      grind
end
end Go.AM

/- The seat's iterators: Backward alone. -/
namespace Go.AM
open Go Go.RowKit Go.Proofs

instance itsP : Its := { it := fun f ds => if f = n_slices_Backward_api_Poly_api_Rat_1 then itBack ds else none }
instance itsBP : ItsB := ⟨fun _ => if_pos rfl⟩
theorem envP : EnvOk Try.prog G := env_ok fun f ds xs h => by
  have h' : (if f = n_slices_Backward_api_Poly_api_Rat_1 then itBack ds else none) = some xs := h
  split at h'
  · rename_i hf
    rw [hf]
    exact itBack_ok h'
  · cases h'
end Go.AM

/- law06.lives. -/
namespace Go.AM
open Go Go.RowKit Go.Proofs

theorem of1 : callX G n_gantrylaw06_of [.row 3 [iv (-1), iv 0, iv 1]] = some (.d (rowR [-1, 0, 1])) := callX_some.2 ⟨60, by kernel_rfl⟩
theorem of2 : callX G n_gantrylaw06_of [.row 2 [iv (-1), iv 1]] = some (.d (rowR [-1, 1])) := callX_some.2 ⟨60, by kernel_rfl⟩
theorem of3 : callX G n_gantrylaw06_of [.row 4 [iv 1, iv (-1), iv (-1), iv 1]] = some (.d (rowR [1, -1, -1, 1])) := callX_some.2 ⟨60, by kernel_rfl⟩
theorem of4 : callX G n_gantrylaw06_of [.row 2 [iv 1, iv 1]] = some (.d (rowR [1, 1])) := callX_some.2 ⟨60, by kernel_rfl⟩
theorem of5 : callX G n_gantrylaw06_of [.row 3 [iv 0, iv 2, iv 1]] = some (.d (rowR [0, 2, 1])) := callX_some.2 ⟨60, by kernel_rfl⟩
theorem val1 : callX G n_poly_Valid [rowR [-1, 0, 1]] = some (.d (bv true)) := callX_some.2 ⟨100, by kernel_rfl⟩
theorem deg1 : callX G n_poly_Degree [rowR [-1, 0, 1]] = some (.d (iv 2)) := callX_some.2 ⟨20, by kernel_rfl⟩
theorem is_spec {d x : D} {l : List Rat} (h : RwR d l) (ho : callX G n_gantrylaw06_of [x] = some (.d (rowR l))) (hs : smL l = true) (hl : l.length ≤ 1000) : callX G n_gantrylaw06_is [d, x] = some (.d (bv true)) := by
  rw [callX_eq (cf := gantrylaw06_is) rfl]
  have g := s6_refl h (RwR.row l) ((smL_ok hs).mono (by omega)) (by omega)
  generalize rowR l = r at *
  simp only [bv] at g
  simp -implicitDefEqProofs (maxSteps := 10000000) only [gantrylaw06_is, ho, g, go_sem, iv, bv, reduceCtorEq, ↓reduceIte, Nat.reduceEqDiff]

theorem rep_4 (a : D) : rep 4 [a] = [a, a, a, a] := rfl
theorem lives_spec : callX G n_gantrylaw06_lives [] = some (.d (bv true)) := by
  rw [callX_eq (cf := gantrylaw06_lives) rfl]
  have q1 : muP [-1, 0, 1] [-1, 1] = [1, -1, -1, 1] := by kernel_rfl
  have q2 : quoP [-1, 0, 1] [-1, 1] = [1, 1] := by kernel_rfl
  have q3 : remP [-1, 0, 1] [-1, 1] = [] := by kernel_rfl
  have q4 : quoP [-1, 1] [-1, 0, 1] = [] := by kernel_rfl
  have q5 : remP [-1, 1] [-1, 0, 1] = [-1, 1] := by kernel_rfl
  have q6 : muP [-1, 1] [-1, 1] = [1, -2, 1] := by kernel_rfl
  have q7 : gcdP [-1, 0, 1] [1, -2, 1] = [-1, 1] := by kernel_rfl
  have q8 : frP [1, -1, -1, 1] = [-1, 0, 1] := by kernel_rfl
  have q9 : shP [-1, 0, 1] 1 = [0, 2, 1] := by kernel_rfl
  have q10 : evR [-1, 0, 1] 3 = 8 := by kernel_rfl
  have q11 : deP [1, -1, -1, 1] = [-1, -2, 3] := by kernel_rfl
  have q12 : gcdP [1, -1, -1, 1] [-1, -2, 3] = [-1, 1] := by kernel_rfl
  have q13 : quoP [1, -1, -1, 1] [-1, 1] = [-1, 0, 1] := by kernel_rfl
  have sp : smL [-1, 0, 1] = true := by kernel_rfl
  have sq : smL [-1, 1] = true := by kernel_rfl
  have s3 : smL [1, -1, -1, 1] = true := by kernel_rfl
  have s4 : smL [1, 1] = true := by kernel_rfl
  have s5 : smL [0, 2, 1] = true := by kernel_rfl
  have s6 : smL [1, -2, 1] = true := by kernel_rfl
  have s7 : smL [-1, -2, 3] = true := by kernel_rfl
  have sd : smL (gcdP [1, -1, -1, 1] [-1, -2, 3]) = true := by kernel_rfl
  have v1 : dvB [-1, 1] (dvN [-1, 0, 1] [-1, 1]) [-1, 0, 1] = true := by kernel_rfl
  have v2 : dvB [-1, 0, 1] (dvN [-1, 1] [-1, 0, 1]) [-1, 1] = true := by kernel_rfl
  have v3 : gcB 4 (mnP [-1, 0, 1]) (mnP [1, -2, 1]) = true := by kernel_rfl
  have v4 : gcB 4 (mnP [1, -1, -1, 1]) (mnP [-1, -2, 3]) = true := by kernel_rfl
  have v5 : dvB [-1, 1] (dvN [1, -1, -1, 1] [-1, 1]) [1, -1, -1, 1] = true := by kernel_rfl
  have v6 : shB [-1, 0, 1] 1 = true := by kernel_rfl
  have z1 : sz 1 ≤ 1 := by rw [sz_one_]; omega
  have z3 : sz 3 ≤ 3 := sz_int (n := 3) ⟨by omega, by omega⟩
  have z8 : sz 8 ≤ 3 := sz_int (n := 8) ⟨by omega, by omega⟩
  have P := RwR.row [-1, 0, 1]
  have Q := RwR.row [-1, 1]
  obtain ⟨dm, hm, gm⟩ := Mul_spec_P (K := 1) P Q (smL_ok sp) (smL_ok sq) (by omega) (by simp only [List.length_cons, List.length_nil]; omega)
  rw [q1] at hm
  obtain ⟨da, db, ha, hb, gab⟩ := Div_spec_P (K := 1) P Q (by simp only [List.length_cons, List.length_nil]; omega) (by simp only [List.length_cons, List.length_nil]; omega) (smL_ok sq) (by omega) (by omega) (dvB_ok v1)
  rw [q2] at ha
  rw [q3] at hb
  obtain ⟨dc, dd', hc, hd, gcd⟩ := Div_spec_P (K := 1) Q P (by simp only [List.length_cons, List.length_nil]; omega) (by simp only [List.length_cons, List.length_nil]; omega) (smL_ok sp) (by omega) (by omega) (dvB_ok v2)
  rw [q4] at hc
  rw [q5] at hd
  have i1 := is_spec hm of3 s3 (by simp only [List.length_cons, List.length_nil]; omega)
  have i2 := is_spec ha of4 s4 (by simp only [List.length_cons, List.length_nil]; omega)
  have lb := hb.len
  have lc := hc.len
  simp only [List.length_nil] at lb lc
  have i3 := is_spec hd of2 sq (by simp only [List.length_cons, List.length_nil]; omega)
  obtain ⟨de, he, ge⟩ := Mul_spec_P (K := 1) Q Q (smL_ok sq) (smL_ok sq) (by omega) (by simp only [List.length_cons, List.length_nil]; omega)
  rw [q6] at he
  obtain ⟨df, hf, gf⟩ := Gcd_spec_P (K := 1) P he (by simp only [List.length_cons, List.length_nil]; omega) (by simp only [List.length_cons, List.length_nil]; omega) (by omega) (by omega) (smL_ok sp) (smL_ok s6) (gcB_ok v3)
  rw [q7] at hf
  have i4 := is_spec hf of2 sq (by simp only [List.length_cons, List.length_nil]; omega)
  have hfree := Free_spec_P (K := 1) hm (by simp only [List.length_cons, List.length_nil]; omega) (by omega) (by omega) (smL_ok s3)
  rw [q11, q12, q13, q8] at hfree
  obtain ⟨dg', hg, gg⟩ := hfree (smL_ok s7) (gcB_ok v4) (by simp only [List.length_cons, List.length_nil]; omega) (smL_ok sq) (dvB_ok v5) (smL_ok sp)
  have i5 := is_spec hg of1 sp (by simp only [List.length_cons, List.length_nil]; omega)
  have o1 := rratOf_spec (n := 1) (d := 1) ⟨by omega, by omega⟩ ⟨by omega, by omega⟩
  have o3 := rratOf_spec (n := 3) (d := 1) ⟨by omega, by omega⟩ ⟨by omega, by omega⟩
  have o8 := rratOf_spec (n := 8) (d := 1) ⟨by omega, by omega⟩ ⟨by omega, by omega⟩
  have w1 : Rat.divInt 1 1 = 1 := divInt_one 1
  have w3 : Rat.divInt 3 1 = 3 := divInt_one 3
  have w8 : Rat.divInt 8 1 = 8 := divInt_one 8
  rw [w1] at o1
  rw [w3] at o3
  rw [w8] at o8
  obtain ⟨ds, hs, gs⟩ := Shift_spec_P (a := 1) (K := 1) P (by simp only [List.length_cons, List.length_nil]; omega) (by omega) z1 (shB_ok v6)
  rw [q9] at hs
  have i6 := is_spec hs of5 s5 (by simp only [List.length_cons, List.length_nil]; omega)
  have gE := Eval_spec (x := 3) (K := 3) P z3 (by omega) ((smL_ok sp).mono (by omega)) (by simp only [List.length_cons, List.length_nil]; omega)
  rw [q10] at gE
  have j1 := s5_refl (a := 8) (by omega)
  have e0 : ((0 : Int) == 0) = true := rfl
  have e00 : ((((0 : Nat) : Int)) == 0) = true := rfl
  have e2 : ((2 : Int) == 2) = true := rfl
  have f1 := of1
  have f2 := of2
  have f6 := val1
  have f7 := deg1
  clear hm ha hb hc hd he hf hg hs q1 q2 q3 q4 q5 q6 q7 q8 q9 q10 q11 q12 q13 sp sq s3 s4 s5 s6 s7 sd v1 v2 v3 v4 v5 v6 z1 z3 z8 w1 w3 w8 P Q hfree
  generalize rowR [-1, 0, 1] = p at *
  generalize rowR [-1, 1] = q at *
  generalize (1 : Rat) = r1 at *
  generalize (3 : Rat) = r3 at *
  generalize (8 : Rat) = r8 at *
  simp only [encR, iv, bv] at f1 f2 f6 f7 gm gab gcd i1 i2 i3 i4 i5 i6 ge gf gg gs o1 o3 o8 gE j1
  simp -implicitDefEqProofs (maxSteps := 10000000) only [gantrylaw06_lives, f1, f2, f6, f7, gm, gab, gcd, i1, i2, i3, i4, i5, i6, ge, gf, gg, gs, o1, o3, o8, gE, j1, lb, lc, e0, e00, e2, rep_2, rep_3, rep_4, toDs, go_sem, iv, bv, reduceCtorEq, ↓reduceIte, Nat.reduceEqDiff]
end Go.AM

namespace Go.AM
open Go Go.RowKit Go.Proofs
theorem gz_ok {N d s e K : Nat} {a b : List Rat} (Ha : HL d s a) (Hb : HL e s b) (ta : Trm a) (tb : Trm b) (na : a.length ≤ N) (nb : b.length ≤ N) (hK : (s + 1) * 3 ^ (N + 1) ≤ K) : gcG K (b.length + 1) (mnP a) (mnP b) ∧ HL K K (gcdP a b) := by
  have l1 := mn_lenE ta
  have l2 := mn_lenE tb
  have h0 := three_le (a := (mnP b).length) (b := N + 1) (by omega)
  have h1 : dvN (mnP a) (mnP b) + 1 ≤ N + 1 + 2 - (mnP b).length := by unfold dvN; omega
  have h2 : (s + 1) * (dvN (mnP a) (mnP b) + 1) * 3 ^ (mnP b).length ≤ K := by
    rw [Nat.mul_assoc]
    exact Nat.le_trans (Nat.mul_le_mul_left _ (Nat.le_trans (Nat.mul_le_mul_right _ h1) h0)) hK
  obtain ⟨x, _, z⟩ := gc_pot (K := K) (b.length + 1) s (mnP a) (mnP b) (mn_HL Ha ta) (mn_HL Hb tb) (trm_mn _) (by omega) h2
  exact ⟨x, z⟩
theorem pz_quo {N K : Nat} {p g : List Rat} (Hp : HL 20 33 p) (np : p.length ≤ N) (Hg : HL K K g) (tg : Trm g) {L : Nat} (hL : 34 + (N + 1) * (K + 1) + K ≤ L) : dvG L g (dvN p g) p ∧ HL L L (quoP p g) := by
  have hm : dvN p g ≤ N + 1 := by unfold dvN; omega
  have h1 : dvN p g * K ≤ (N + 1) * (K + 1) := Nat.mul_le_mul hm (by omega)
  have h2 : dvN p g * (K + 1) ≤ (N + 1) * (K + 1) := Nat.mul_le_mul_right _ hm
  obtain ⟨x, _, z⟩ := div_HL (K := L) Hp Hg tg (by omega)
  exact ⟨x, z.mono (by omega) (by omega)⟩
theorem ofo : callX G n_gantrylaw06_of [.row 1 [iv 1]] = some (.d (rowR [1])) := callX_some.2 ⟨60, by kernel_rfl⟩
theorem one_sm : smL [1] = true := by kernel_rfl
theorem mul_quo {p g : List Rat} (tp : Trm p) (tg : Trm g) (ng : g ≠ []) (h : Dv g p) : muP (quoP p g) g = p := poly_ext (trm_mu _ _) tp fun x => by rw [ev_mu, ← (rem_of_dv tg ng h).2]
theorem quo_1 (p : List Rat) (tp : Trm p) : quoP p [1] = p := by
  obtain ⟨_, h⟩ := rem_of_dv (q := [1]) trm_one (by simp) (Dv.one p)
  exact poly_ext (trm_quo _ _) tp fun x => by rw [h, evR_c, Rat.mul_one]
theorem fr_nil : frP [] = [] := by
  unfold frP
  have : quoP [] (gcdP [] (deP [])) = [] := if_pos (show gcdP [] (deP []) = [] from gcd_nil)
  rw [this]
  exact if_pos rfl
section
variable {dp dq : D} {p q : List Rat}
theorem pA_parts (hp : RwR dp p) (hq : RwR dq q) (tp : Trm p) (tq : Trm q) (Hp : HL 10 16 p) (Hq : HL 10 16 q) (np : p.length ≤ 6) (nq : q.length ≤ 6) (h : p ≠ [] ∨ q ≠ []) :
    ∃ dg, RwR dg (gcdP p q) ∧ callX G n_poly_Gcd [dp, dq] = some (.d dg) ∧ ∃ da dr db ds dm dn dh, lenA (.d dr) = some 0 ∧ lenA (.d ds) = some 0 ∧ callX G n_poly_Div [dp, dg] = some (.d (.tup [da, dr])) ∧ callX G n_poly_Div [dq, dg] = some (.d (.tup [db, ds])) ∧
      callX G n_poly_Mul [da, dg] = some (.d dm) ∧ callX G n_gantryref06_Same [dm, dp] = some (.d (bv true)) ∧ callX G n_poly_Mul [db, dg] = some (.d dn) ∧ callX G n_gantryref06_Same [dn, dq] = some (.d (bv true)) ∧ callX G n_poly_Gcd [da, db] = some (.d dh) ∧ callX G n_gantrylaw06_is [dh, .row 1 [iv 1]] = some (.d (bv true)) := by
  obtain ⟨g1, Hg⟩ := gz_ok (N := 6) (K := 40000) Hp Hq tp tq np nq (by decide)
  have sp := Hp.sz
  have sq := Hq.sz
  obtain ⟨dg, hg, c1⟩ := Gcd_spec_P hp hq (by omega) (by omega) (K := 40000) (by omega) (by omega) (sp.mono (by omega)) (sq.mono (by omega)) g1
  have ng := gcd_ne tp tq h
  have tg : Trm (gcdP p q) := trm_gcd
  obtain ⟨_, k2, k3⟩ := gcd_bez tp tq
  have lg : (gcdP p q).length ≤ 6 := by
    rcases h with h | h
    · exact Nat.le_trans (dv_len tg tp h k2) np
    · exact Nat.le_trans (dv_len tg tq h k3) nq
  have m1 := mul_quo tp tg ng k2
  have m2 := mul_quo tq tg ng k3
  obtain ⟨r1, _⟩ := rem_of_dv tg ng k2
  obtain ⟨r2, _⟩ := rem_of_dv tg ng k3
  have mo := mo_gcd tp tq
  have gq := gcd_quo tp tq h
  obtain ⟨x1, A⟩ := pz_quo (N := 6) (K := 40000) (L := 330000) (Hp.mono (by omega) (by omega)) np Hg tg (by decide)
  obtain ⟨x2, B⟩ := pz_quo (N := 6) (K := 40000) (L := 330000) (Hq.mono (by omega) (by omega)) nq Hg tg (by decide)
  have la := quoP_len p (gcdP p q)
  have lb := quoP_len q (gcdP p q)
  have gg : gcG 900000000 ((quoP q (gcdP p q)).length + 1) (mnP (quoP p (gcdP p q))) (mnP (quoP q (gcdP p q))) := by
    by_cases l1 : (gcdP p q).length = 1
    · have e : gcdP p q = [1] := mo_len1 mo l1
      rw [e, quo_1 p tp, quo_1 q tq]
      exact gcG_mono (by omega) _ _ _ g1
    · have l2 := List.length_pos_iff.2 ng
      have na : (quoP p (gcdP p q)).length ≤ 5 := Nat.le_trans la (by unfold dvN; omega)
      have nb : (quoP q (gcdP p q)).length ≤ 5 := Nat.le_trans lb (by unfold dvN; omega)
      exact gcG_mono (by decide) _ _ _ (gz_ok (N := 5) (K := 330001 * 3 ^ 6) A B (trm_quo _ _) (trm_quo _ _) na nb (by decide)).1
  have na : (quoP p (gcdP p q)).length ≤ 7 := Nat.le_trans la (by unfold dvN; omega)
  have nb : (quoP q (gcdP p q)).length ≤ 7 := Nat.le_trans lb (by unfold dvN; omega)
  have sA := A.sz
  have sB := B.sz
  have sG := Hg.sz
  generalize hgd : gcdP p q = g at *
  obtain ⟨da, dr, ha, hr, c2⟩ := Div_spec_P hp hg (by omega) (by omega) (K := 330000) (sG.mono (by omega)) (by omega) (by omega) x1
  obtain ⟨db, ds, hb, hs, c3⟩ := Div_spec_P hq hg (by omega) (by omega) (K := 330000) (sG.mono (by omega)) (by omega) (by omega) x2
  rw [r1] at hr
  rw [r2] at hs
  obtain ⟨K, hK⟩ : ∃ K, K = 330001 := ⟨_, rfl⟩
  have hk : ∀ n, n ≤ 13 → n * (2 * K + 1) ≤ 10000000000 := fun n hn => by rw [hK]; exact Nat.le_trans (Nat.mul_le_mul_right _ hn) (by decide)
  obtain ⟨dm, hm, c4⟩ := Mul_spec_P (K := K) ha hg (sA.mono (by omega)) (sG.mono (by omega)) (by omega) (hk _ (by omega))
  obtain ⟨dn, hn, c5⟩ := Mul_spec_P (K := K) hb hg (sB.mono (by omega)) (sG.mono (by omega)) (by omega) (hk _ (by omega))
  rw [m1] at hm
  rw [m2] at hn
  obtain ⟨dh, hh, c6⟩ := Gcd_spec_P ha hb (by omega) (by omega) (K := 900000000) (by omega) (by omega) (sA.mono (by omega)) (sB.mono (by omega)) gg
  rw [gq] at hh
  exact ⟨dg, hg, c1, da, dr, db, ds, dm, dn, dh, hr.len, hs.len, c2, c3, c4, s6_refl hm hp (sp.mono (by omega)) (by omega), c5, s6_refl hn hq (sq.mono (by omega)) (by omega), c6, is_spec hh ofo one_sm (by simp)⟩
theorem pB_parts (hp : RwR dp p) (hq : RwR dq q) (tp : Trm p) (tq : Trm q) (Hp : HL 10 16 p) (Hq : HL 10 16 q) (np : p.length ≤ 6) (nq : q.length ≤ 6) {dg dr : D} {r : List Rat} (hg : RwR dg (gcdP p q)) (hr : RwR dr r) (Hr : HL 10 16 r) (nr : r.length ≤ 3) :
    ∃ d1 d2 d3 d4 d5, callX G n_poly_Mul [dp, dr] = some (.d d1) ∧ callX G n_poly_Mul [dq, dr] = some (.d d2) ∧ callX G n_poly_Gcd [d1, d2] = some (.d d3) ∧ callX G n_poly_Mul [dg, dr] = some (.d d4) ∧ callX G n_gantryref06_Monic [d4] = some (.d d5) ∧ callX G n_gantryref06_Same [d3, d5] = some (.d (bv true)) := by
  have hBB : BB = 1000000000 := rfl
  have sp := Hp.sz
  have sq := Hq.sz
  have sr := Hr.sz
  obtain ⟨_, Hg⟩ := gz_ok (N := 6) (K := 40000) Hp Hq tp tq np nq (by decide)
  have sg := Hg.sz
  have lg : (gcdP p q).length ≤ 6 := by
    have go : ∀ (n : Nat) (a b : List Rat), a.length ≤ 6 → b.length ≤ 6 → (gcP n a b).length ≤ 6 := by
      intro n
      induction n with
      | zero => intro a b ha hb; exact ha
      | succ n ih =>
        intro a b ha hb
        rw [gcP]
        split
        · exact ha
        · exact ih b _ hb (Nat.le_trans (mnP_len _) (Nat.le_trans (remP_len a b) ha))
    exact go _ _ _ (Nat.le_trans (mnP_len p) np) (Nat.le_trans (mnP_len q) nq)
  have e := gcd_mul tp tq r
  have M1 := Hp.mu Hr (by omega)
  have M2 := Hq.mu Hr (by omega)
  have n1 := len_mu p r
  have n2 := len_mu q r
  have n3 := len_mu (gcdP p q) r
  have M3 := Hg.mu Hr (by omega)
  obtain ⟨g1, _⟩ := gz_ok (N := 8) (K := 670000) M1 M2 (trm_mu _ _) (trm_mu _ _) (by omega) (by omega) (by decide)
  have b1 : (p.length + r.length) * (2 * 100 + 1) ≤ 9 * (2 * 100 + 1) := Nat.mul_le_mul_right _ (by omega)
  have b2 : (q.length + r.length) * (2 * 100 + 1) ≤ 9 * (2 * 100 + 1) := Nat.mul_le_mul_right _ (by omega)
  have b3 : ((gcdP p q).length + r.length) * (2 * 40001 + 1) ≤ 9 * (2 * 40001 + 1) := Nat.mul_le_mul_right _ (by omega)
  obtain ⟨d1, h1, c1⟩ := Mul_spec_P (K := 100) hp hr (sp.mono (by omega)) (sr.mono (by omega)) (by omega) (by omega)
  obtain ⟨d2, h2, c2⟩ := Mul_spec_P (K := 100) hq hr (sq.mono (by omega)) (sr.mono (by omega)) (by omega) (by omega)
  obtain ⟨d3, h3, c3⟩ := Gcd_spec_P h1 h2 (by omega) (by omega) (K := 670000) (by omega) (by omega) (M1.sz.mono (by omega)) (M2.sz.mono (by omega)) g1
  obtain ⟨d4, h4, c4⟩ := Mul_spec_P (K := 40001) hg hr (sg.mono (by omega)) (sr.mono (by omega)) (by omega) (by omega)
  obtain ⟨d5, h5, c5⟩ := r6Monic_spec h4 (by omega) (K := 1000000) (M3.sz.mono (by omega)) (by omega) (by omega)
  rw [e] at h3
  have n5 := mnP_len (muP (gcdP p q) r)
  exact ⟨d1, d2, d3, d4, d5, c1, c2, c3, c4, c5, s6_refl h3 h5 ((mn_HL M3 (trm_mu _ _)).sz.mono (by omega)) (by omega)⟩
theorem pC_free (hp : RwR dp p) (tp : Trm p) (Hp : HL 10 16 p) (np : p.length ≤ 6) : HL 330000 330000 (frP p) ∧ ∃ df, RwR df (frP p) ∧ callX G n_poly_Free [dp] = some (.d df) := by
  have hBB : BB = 1000000000 := rfl
  have Hd := Hp.de (by omega)
  have nd := len_de p
  obtain ⟨g1, Hg⟩ := gz_ok (N := 6) (K := 40000) (Hp.mono (Nat.le_refl _) (show 16 ≤ 17 by omega)) Hd tp (trm_de p) np (by omega) (by decide)
  obtain ⟨x1, A⟩ := pz_quo (N := 6) (K := 40000) (L := 330000) (Hp.mono (by omega) (by omega)) np Hg trm_gcd (by decide)
  have lg : (gcdP p (deP p)).length ≤ 6 := by
    have go : ∀ (n : Nat) (a b : List Rat), a.length ≤ 6 → b.length ≤ 6 → (gcP n a b).length ≤ 6 := by
      intro n
      induction n with
      | zero => intro a b ha hb; exact ha
      | succ n ih =>
        intro a b ha hb
        rw [gcP]
        split
        · exact ha
        · exact ih b _ hb (Nat.le_trans (mnP_len _) (Nat.le_trans (remP_len a b) ha))
    exact go _ _ _ (Nat.le_trans (mnP_len p) np) (Nat.le_trans (mnP_len _) (by omega))
  refine ⟨mn_HL A (trm_quo _ _), Free_spec_P hp (by omega) (K := 340000) (by omega) (by omega) (Hp.sz.mono (by omega)) (Hd.sz.mono (by omega)) (gcG_mono (by omega) _ _ _ g1) (by omega) (Hg.sz.mono (by omega)) (dvG_mono (by omega) _ _ x1) (A.sz.mono (by omega))⟩
theorem pC_parts (hp : RwR dp p) (tp : Trm p) (Hp : HL 10 16 p) (np : p.length ≤ 6) (h : p ≠ []) :
    ∃ df d1 d2 d3 d4 d5 d6, ∃ n : Nat, 0 < n ∧ lenA (.d df) = some n ∧ callX G n_poly_Free [dp] = some (.d df) ∧ callX G n_poly_Div [dp, df] = some (.d (.tup [d1, d2])) ∧ lenA (.d d2) = some 0 ∧ callX G n_poly_Derive [df] = some (.d d3) ∧ callX G n_poly_Gcd [df, d3] = some (.d d4) ∧ callX G n_gantrylaw06_is [d4, .row 1 [iv 1]] = some (.d (bv true)) ∧ callX G n_poly_Mul [dp, dp] = some (.d d5) ∧ callX G n_poly_Free [d5] = some (.d d6) ∧ callX G n_gantryref06_Same [d6, df] = some (.d (bv true)) := by
  have hBB : BB = 1000000000 := rfl
  obtain ⟨F, df, hf, c1⟩ := pC_free hp tp Hp np
  have nf := frP_ne tp h
  have tf := trm_fr p
  have dv := frP_dv tp h
  have lf := Nat.le_trans (dv_len tf tp h dv) np
  obtain ⟨r1, _⟩ := rem_of_dv tf nf dv
  have fr := frP_free tp h
  have sq := frP_sqr tp h
  obtain ⟨x1, _⟩ := pz_quo (N := 6) (K := 330000) (L := 3000000) (Hp.mono (by omega) (by omega)) np F tf (by decide)
  have sF := F.sz
  have FD := F.de (by omega)
  have nd := len_de (frP p)
  obtain ⟨g1, _⟩ := gz_ok (N := 6) (K := 900000000) (F.mono (Nat.le_refl _) (show 330000 ≤ 330001 by omega)) FD tf (trm_de _) lf (by omega) (by decide)
  generalize frP p = f at *
  obtain ⟨d1, d2, _, h2, c2⟩ := Div_spec_P hp hf (by omega) (by omega) (K := 3000000) (sF.mono (by omega)) (by omega) (by omega) x1
  rw [r1] at h2
  obtain ⟨d3, h3, c3⟩ := Derive_spec_P hf (K := 330001) (sF.mono (by omega)) (by omega) (by omega) (by omega)
  obtain ⟨d4, h4, c4⟩ := Gcd_spec_P hf h3 (by omega) (by omega) (K := 900000000) (by omega) (by omega) (sF.mono (by omega)) (FD.sz.mono (by omega)) g1
  rw [fr] at h4
  have b1 : (p.length + p.length) * (2 * 100 + 1) ≤ 12 * (2 * 100 + 1) := Nat.mul_le_mul_right _ (by omega)
  obtain ⟨d5, h5, c5⟩ := Mul_spec_P (K := 100) hp hp (Hp.sz.mono (by omega)) (Hp.sz.mono (by omega)) (by omega) (by omega)
  have M := Hp.mu Hp (by omega)
  have nm := len_mu p p
  have tm := trm_mu p p
  have MD := M.de (by omega)
  have nmd := len_de (muP p p)
  obtain ⟨g2, Hg⟩ := gz_ok (N := 11) (K := 19000000) (M.mono (Nat.le_refl _) (show 16 + 16 + 1 ≤ 34 by omega)) MD tm (trm_de _) (by omega) (by omega) (by decide)
  obtain ⟨x2, A⟩ := pz_quo (N := 11) (K := 19000000) (L := 300000000) (M.mono (by omega) (by omega)) (by omega) Hg trm_gcd (by decide)
  have lg : (gcdP (muP p p) (deP (muP p p))).length ≤ 11 := by
    have go : ∀ (n : Nat) (a b : List Rat), a.length ≤ 11 → b.length ≤ 11 → (gcP n a b).length ≤ 11 := by
      intro n
      induction n with
      | zero => intro a b ha hb; exact ha
      | succ n ih =>
        intro a b ha hb
        rw [gcP]
        split
        · exact ha
        · exact ih b _ hb (Nat.le_trans (mnP_len _) (Nat.le_trans (remP_len a b) ha))
    exact go _ _ _ (Nat.le_trans (mnP_len _) (by omega)) (Nat.le_trans (mnP_len _) (by omega))
  obtain ⟨d6, h6, c6⟩ := Free_spec_P h5 (by omega) (K := 300000001) (by omega) (by omega) (M.sz.mono (by omega)) (MD.sz.mono (by omega)) (gcG_mono (by omega) _ _ _ g2) (by omega) (Hg.sz.mono (by omega)) (dvG_mono (by omega) _ _ x2) (A.sz.mono (by omega))
  rw [sq] at h6
  exact ⟨df, d1, d2, d3, d4, d5, d6, f.length, List.length_pos_iff.2 nf, hf.len, c1, c2, h2.len, c3, c4, is_spec h4 ofo one_sm (by simp), c5, c6, s6_refl h6 hf (sF.mono (by omega)) (by omega)⟩
end
end Go.AM
namespace Go.Proofs.Ythhdbchmjfdgmaa.Pure
open Go Go.AM
set_option maxHeartbeats 2000000 in
theorem PolyDivisors (e0 : D) (l0 : List Int) (hd0 : Dg e0 l0) (hwf0 : ∀ n ∈ l0, (Lit.int .i64 n).wf = true) (hlen0 : l0.length * 8 ≤ 140737488351232) (e1 : D) (l1 : List Int) (hd1 : Dg e1 l1) (hwf1 : ∀ n ∈ l1, (Lit.int .i64 n).wf = true) (hlen1 : l1.length * 8 ≤ 140737488351232) (e2 : D) (l2 : List Int) (hd2 : Dg e2 l2) (hwf2 : ∀ n ∈ l2, (Lit.int .i64 n).wf = true) (hlen2 : l2.length * 8 ≤ 140737488351232) : callX G 4 [e0, e1, e2] = some (.d (bv true)) := by
  obtain ⟨dp, p, hp, tp, Hp, np, gp⟩ := Poly_spec (rw_dg hd0) (fun n hn => i64_wf (hwf0 n hn))
  obtain ⟨dq, q, hq, tq, Hq, nq, gq⟩ := Poly_spec (rw_dg hd1) (fun n hn => i64_wf (hwf1 n hn))
  obtain ⟨dr, r, hr, tr, Hr, nr, gr⟩ := Poly_spec (rw_dg hd2) (fun n hn => i64_wf (hwf2 n hn))
  have k10 := lives_spec
  have lp := hp.len
  have lq := hq.len
  have lr := hr.len
  have rep1z : rep 1 [D.v (.int .i64 0)] = [.v (.int .i64 0)] := rfl
  rw [callX_eq (cf := gantrylaw06_PolyDivisors) rfl]
  have e00 : ((0 : Int) == 0) = true := rfl
  by_cases h : p ≠ [] ∨ q ≠ []
  · obtain ⟨dg, hg, c1, da, dr', db, ds, dm, dn, dh, z1, z2, c2, c3, c4, c5, c6, c7, c8, c9⟩ := pA_parts hp hq tp tq Hp Hq np nq h
    have B := fun (dr : D) (r : List Rat) (hr : RwR dr r) (Hr : HL 10 16 r) (nr : r.length ≤ 3) => pB_parts hp hq tp tq Hp Hq np nq hg hr Hr nr
    have ng := gcd_ne tp tq h
    have lg := hg.len
    have w1 : w64 ((p.length : Int) + (q.length : Int)) = (p.length : Int) + (q.length : Int) := w64_id (by omega) (by omega)
    have t1 : ((p.length : Int) + (q.length : Int) == 0) = false := beq_f (by
      rcases h with h | h
      · have := List.length_pos_iff.2 h; omega
      · have := List.length_pos_iff.2 h; omega)
    have t2 : (((gcdP p q).length : Int) == 0) = false := beq_f (by have := List.length_pos_iff.2 ng; omega)
    have w0 : w64 ((0 : Int) + 0) = 0 := by rw [w64_id (by omega) (by omega)]; rfl
    have t3 : decide ((0 : Int) > 0) = false := rfl
    have tail : (∃ df d1 d2 d3 d4 d5 d6, ∃ n : Nat, 0 < n ∧ p ≠ [] ∧ lenA (.d df) = some n ∧ callX G n_poly_Free [dp] = some (.d df) ∧ callX G n_poly_Div [dp, df] = some (.d (.tup [d1, d2])) ∧ lenA (.d d2) = some 0 ∧ callX G n_poly_Derive [df] = some (.d d3) ∧ callX G n_poly_Gcd [df, d3] = some (.d d4) ∧ callX G n_gantrylaw06_is [d4, .row 1 [iv 1]] = some (.d (bv true)) ∧ callX G n_poly_Mul [dp, dp] = some (.d d5) ∧ callX G n_poly_Free [d5] = some (.d d6) ∧ callX G n_gantryref06_Same [d6, df] = some (.d (bv true))) ∨ (p = [] ∧ ∃ df, lenA (.d df) = some 0 ∧ callX G n_poly_Free [dp] = some (.d df)) := by
      by_cases h0 : p = []
      · obtain ⟨_, df, hf, cf⟩ := pC_free hp tp Hp np
        rw [h0, fr_nil] at hf
        exact .inr ⟨h0, df, hf.len, cf⟩
      · obtain ⟨df, d1, d2, d3, d4, d5, d6, n, a, b, c⟩ := pC_parts hp tp Hp np h0
        exact .inl ⟨df, d1, d2, d3, d4, d5, d6, n, a, h0, b, c⟩
    have rr : (r.length ≤ 3 ∧ r ≠ []) ∨ r.length > 3 ∨ r = [] := by
      by_cases a : r.length > 3
      · exact .inr (.inl a)
      · by_cases b : r = []
        · exact .inr (.inr b)
        · exact .inl ⟨by omega, b⟩
    rcases rr with ⟨a, b⟩ | a | a
    · obtain ⟨b1, b2, b3, b4, b5, q1, q2, q3, q4, q5, q6⟩ := B dr r hr Hr a
      have u1 : decide ((r.length : Int) > 3) = false := decide_eq_false (by omega)
      have u2 : decide ((r.length : Int) > 0) = true := decide_eq_true (by have := List.length_pos_iff.2 b; omega)
      clear B Hp Hq Hr hg hp hq hr tp tq tr
      rcases tail with ⟨df, d1, d2, d3, d4, d5, d6, n, n0, p0, v1, v2, v3, v4, v5, v6, v7, v8, v9, v10⟩ | ⟨p0, df, v1, v2⟩
      · have t4 : ((p.length : Int) == 0) = false := beq_f (by have := List.length_pos_iff.2 p0; omega)
        have t5 : decide ((n : Int) > 0) = true := decide_eq_true (by omega)
        clear p0 ng h
        simp only [iv, bv] at k10 c5 c7 c9 q6 v7 v10
        simp -implicitDefEqProofs (maxSteps := 10000000) only [gantrylaw06_PolyDivisors, gp, gq, gr, lp, lq, lr, lg, w1, t1, t2, w0, t3, z1, z2, c1, c2, c3, c4, c5, c6, c7, c8, c9, u1, u2, q1, q2, q3, q4, q5, q6, t4, t5, v1, v2, v3, v4, v5, v6, v7, v8, v9, v10, e00, rep1z, k10, go_sem, iv, bv, reduceCtorEq, ↓reduceIte, Nat.reduceEqDiff]
      · have t4 : ((p.length : Int) == 0) = true := by rw [p0]; rfl
        clear p0 ng h
        simp only [iv, bv] at k10 c5 c7 c9 q6
        simp -implicitDefEqProofs (maxSteps := 10000000) only [gantrylaw06_PolyDivisors, gp, gq, gr, lp, lq, lr, lg, w1, t1, t2, w0, t3, z1, z2, c1, c2, c3, c4, c5, c6, c7, c8, c9, u1, u2, q1, q2, q3, q4, q5, q6, t4, v1, v2, e00, rep1z, k10, go_sem, iv, bv, reduceCtorEq, ↓reduceIte, Nat.reduceEqDiff]
    · have u1 : decide ((r.length : Int) > 3) = true := decide_eq_true (by omega)
      have dre : dr = .row r.length (cRs r) := by
        rcases hr with ⟨_, h0⟩ | h0
        · rw [h0] at a; simp at a
        · exact h0
      have e2 : (((0 : Int) ≤ 0 ∧ (0 : Int) ≤ 0 ∧ (0 : Int) ≤ (r.length : Nat))) = True := eq_true ⟨by omega, by omega, by omega⟩
      have e3 : ((0 : Int) ≤ (r.length : Nat)) = True := eq_true (by omega)
      have u2 : lenA (.d (.row 0 [])) = some 0 := rfl
      clear B Hp Hq Hr hg hp hq hr tp tq tr
      subst dre
      generalize cRs r = cs at *
      rcases tail with ⟨df, d1, d2, d3, d4, d5, d6, n, n0, p0, v1, v2, v3, v4, v5, v6, v7, v8, v9, v10⟩ | ⟨p0, df, v1, v2⟩
      · have t4 : ((p.length : Int) == 0) = false := beq_f (by have := List.length_pos_iff.2 p0; omega)
        have t5 : decide ((n : Int) > 0) = true := decide_eq_true (by omega)
        clear p0 ng h
        simp only [iv, bv] at k10 c5 c7 c9 v7 v10
        simp -implicitDefEqProofs (maxSteps := 10000000) only [gantrylaw06_PolyDivisors, gp, gq, gr, lp, lq, lr, lg, w1, t1, t2, w0, t3, z1, z2, c1, c2, c3, c4, c5, c6, c7, c8, c9, u1, u2, e2, e3, slcA, bnds, optI, List.take_zero, Int.le_refl, and_self, t4, t5, v1, v2, v3, v4, v5, v6, v7, v8, v9, v10, e00, rep1z, k10, go_sem, iv, bv, reduceCtorEq, ↓reduceIte, Nat.reduceEqDiff]
      · have t4 : ((p.length : Int) == 0) = true := by rw [p0]; rfl
        clear p0 ng h
        simp only [iv, bv] at k10 c5 c7 c9
        simp -implicitDefEqProofs (maxSteps := 10000000) only [gantrylaw06_PolyDivisors, gp, gq, gr, lp, lq, lr, lg, w1, t1, t2, w0, t3, z1, z2, c1, c2, c3, c4, c5, c6, c7, c8, c9, u1, u2, e2, e3, slcA, bnds, optI, List.take_zero, Int.le_refl, and_self, t4, v1, v2, e00, rep1z, k10, go_sem, iv, bv, reduceCtorEq, ↓reduceIte, Nat.reduceEqDiff]
    · have lr0 : lenA (.d dr) = some 0 := by rw [lr, a]; rfl
      have u1 : decide ((0 : Int) > 3) = false := rfl
      clear B Hp Hq Hr hg hp hq hr tp tq tr lr
      rcases tail with ⟨df, d1, d2, d3, d4, d5, d6, n, n0, p0, v1, v2, v3, v4, v5, v6, v7, v8, v9, v10⟩ | ⟨p0, df, v1, v2⟩
      · have t4 : ((p.length : Int) == 0) = false := beq_f (by have := List.length_pos_iff.2 p0; omega)
        have t5 : decide ((n : Int) > 0) = true := decide_eq_true (by omega)
        clear p0 ng h
        simp only [iv, bv] at k10 c5 c7 c9 v7 v10
        simp -implicitDefEqProofs (maxSteps := 10000000) only [gantrylaw06_PolyDivisors, gp, gq, gr, lp, lq, lr0, lg, w1, t1, t2, w0, t3, z1, z2, c1, c2, c3, c4, c5, c6, c7, c8, c9, u1, t4, t5, v1, v2, v3, v4, v5, v6, v7, v8, v9, v10, e00, rep1z, k10, go_sem, iv, bv, reduceCtorEq, ↓reduceIte, Nat.reduceEqDiff]
      · have t4 : ((p.length : Int) == 0) = true := by rw [p0]; rfl
        clear p0 ng h
        simp only [iv, bv] at k10 c5 c7 c9
        simp -implicitDefEqProofs (maxSteps := 10000000) only [gantrylaw06_PolyDivisors, gp, gq, gr, lp, lq, lr0, lg, w1, t1, t2, w0, t3, z1, z2, c1, c2, c3, c4, c5, c6, c7, c8, c9, u1, t4, v1, v2, e00, rep1z, k10, go_sem, iv, bv, reduceCtorEq, ↓reduceIte, Nat.reduceEqDiff]
  · have p0 : p = [] := Classical.byContradiction fun e => h (.inl e)
    have q0 : q = [] := Classical.byContradiction fun e => h (.inr e)
    obtain ⟨g1, _⟩ := gz_ok (N := 6) (K := 40000) Hp Hq tp tq np nq (by decide)
    obtain ⟨dg, hg, c1⟩ := Gcd_spec_P hp hq (by omega) (by omega) (K := 40000) (by omega) (by omega) (Hp.sz.mono (by omega)) (Hq.sz.mono (by omega)) g1
    rw [p0, q0, gcd_nil] at hg
    have lg : lenA (.d dg) = some 0 := hg.len
    have lp0 : lenA (.d dp) = some 0 := by rw [lp, p0]; rfl
    have lq0 : lenA (.d dq) = some 0 := by rw [lq, q0]; rfl
    have w0 : w64 ((0 : Int) + 0) = 0 := by rw [w64_id (by omega) (by omega)]; rfl
    have rr : r.length > 3 ∨ ¬ r.length > 3 := Classical.em _
    rcases rr with a | a
    · have u1 : decide ((r.length : Int) > 3) = true := decide_eq_true (by omega)
      have dre : dr = .row r.length (cRs r) := by
        rcases hr with ⟨_, h0⟩ | h0
        · rw [h0] at a; simp at a
        · exact h0
      have e2 : (((0 : Int) ≤ 0 ∧ (0 : Int) ≤ 0 ∧ (0 : Int) ≤ (r.length : Nat))) = True := eq_true ⟨by omega, by omega, by omega⟩
      have e3 : ((0 : Int) ≤ (r.length : Nat)) = True := eq_true (by omega)
      clear Hp Hq Hr hg hp hq hr tp tq tr lp lq g1
      subst dre
      generalize cRs r = cs at *
      simp only [iv, bv] at k10
      simp -implicitDefEqProofs (maxSteps := 10000000) only [gantrylaw06_PolyDivisors, gp, gq, gr, lp0, lq0, lr, lg, w0, c1, u1, e2, e3, slcA, bnds, optI, List.take_zero, Int.le_refl, and_self, e00, rep1z, k10, go_sem, iv, bv, reduceCtorEq, ↓reduceIte, Nat.reduceEqDiff]
    · have u1 : decide ((r.length : Int) > 3) = false := decide_eq_false (by omega)
      clear Hp Hq Hr hg hp hq hr tp tq tr lp lq g1
      simp only [iv, bv] at k10
      simp -implicitDefEqProofs (maxSteps := 10000000) only [gantrylaw06_PolyDivisors, gp, gq, gr, lp0, lq0, lr, lg, w0, c1, u1, e00, rep1z, k10, go_sem, iv, bv, reduceCtorEq, ↓reduceIte, Nat.reduceEqDiff]
end Go.Proofs.Ythhdbchmjfdgmaa.Pure

/- The row of PolyDivisors, out of its Pure. Printed by row.py. -/
namespace Go.Proofs.Ythhdbchmjfdgmaa.polyDivisors
open Go.ChangeShapes Go.WideShapes Go.ChangeAt Go.RowKit Go.AM
theorem own : ownKnob Try.prog.godebug = none := by kernel_rfl
theorem laidOut : laidOutB Try.prog = true := by kernel_rfl
set_option maxRecDepth 100000 in
theorem lifted (os : Os) (started : os.Started) (H : Type) (enc : TypeId × Value → H) :
    ReturnsInHanded {} Try.checked os 4 .any (Rows.polyDivisorsSpec.pre6 enc Try.prog Try.f4 Rows.polyDivisorsRow.domain false) (Rows.polyDivisorsSpec.post enc Try.prog Try.f4 false true false false) := by
  refine returnsInHanded_of_change_sized (C := Try.checked) own started (by kernel_rfl) Try.func4
    (ChangeSpec.witness6 (enc := enc) (C := Try.checked) false ⟨#[], #[.slice none 0 0, .slice none 0 0, .slice none 0 0], []⟩ 8 (by kernel_rfl) (by kernel_rfl) (by kernel_rfl) (by kernel_rfl)) ?_
  intro W base args ds gs before hval0 hW hcnd hsz0 _
  have hsz : (DataW.weightsEach Try.prog (Try.f4.params.toList ++ Rows.polyDivisorsSpec.plain.varTypes Try.prog) (ds ++ gs)).all (· ≤ reachBytes) = true := hsz0
  have hval : ∀ (j : Nat) t v, Try.f4.params[j]? = some t → args[j]? = some v → Value.okWide Try.prog W .any base t v := hval0
  have hW' := hW
  obtain ⟨p, q, hA0, hV, rfl, hfz, hnd⟩ := hW
  have hA : DataW.TrodAll enc Try.prog W 0 (fun _ => true) true Try.f4.params.toList args.toList ds p := hA0
  rw [Try.params4] at hA hval hsz
  obtain ⟨v0, vs0, d0, ds0, p0, q0, hargs, rfl, rfl, h0, r0⟩ := trodAll_cons hA
  obtain ⟨v1, vs1, d1, ds1, p1, q1, rfl, rfl, rfl, h1, r1⟩ := trodAll_cons r0
  obtain ⟨v2, vs2, d2, ds2, p2, q2, rfl, rfl, rfl, h2, r2⟩ := trodAll_cons r1
  obtain ⟨rfl, rfl, rfl⟩ := trodAll_nil r2
  obtain rfl : args = #[v0, v1, v2] := by cases args; simp_all
  obtain ⟨rfl, rfl⟩ := trodVars_none hV
  obtain ⟨a0, len0, cap0, rfl⟩ := okWide_slice Try.underlying22 (hval 0 22 v0 rfl rfl)
  have k0 := h0
  have lt0 : ∀ x ∈ p0, x.block < W.heap.size := by obtain ⟨m, hm⟩ := k0; exact DataW.trod_lt m _ _ _ hm
  obtain ⟨z0, w0, y0⟩ : ∃ zs, ((a0 = none ∧ len0 = 0 ∧ cap0 = 0 ∧ zs = []) ∨ ∃ x, a0 = some x ∧ len0 ≤ cap0 ∧ cap0 ≤ maxLen ∧ zs.length = cap0 ∧ (∀ i, i < zs.length → W.cell? (x.add i) = some (.int .i64 (zs.getD i 0))) ∧ ∀ n ∈ zs, (Lit.int .i64 n).wf = true) ∧ len0 * 8 ≤ 140737488351232 := by
    obtain ⟨fuel, hf⟩ := h0
    rcases open_ints Try.underlying22 Try.underlying3 (by kernel_rfl) hf with ⟨hcs, _⟩ | ⟨x, l, c, zs, hcs, _, hl, hm, hz, hx, hcell, hwz⟩
    · simp [Value.cells] at hcs
      obtain ⟨rfl, rfl, rfl⟩ := hcs
      exact ⟨[], .inl ⟨rfl, rfl, rfl, rfl⟩, by simp⟩
    · simp [Value.cells] at hcs
      obtain ⟨rfl, rfl, rfl⟩ := hcs
      refine ⟨zs, .inr ⟨_, rfl, hl, hm, by simpa using hz, hcell, hwz⟩, ?_⟩
      simp only [Prod.mk.injEq] at hx
      have hd := hx.1
      have z := sized_slice hsz (j := 0) (t := 22) rfl (by rw [hd]; rfl) Try.underlying22
      have hb : Try.prog.bytesOf 3 = 8 := by kernel_rfl
      rw [hb] at z
      have hr : reachBytes ≤ 140737488351232 := by decide
      have hz' : zs.length = cap0 := by simpa using hz
      simp only [lits, List.length_map, List.length_take, List.length_drop] at z
      omega
  obtain ⟨e0, l0, hd0, hrep0, hlen0, hwf0⟩ := arg_row w0
  obtain ⟨a1, len1, cap1, rfl⟩ := okWide_slice Try.underlying22 (hval 1 22 v1 rfl rfl)
  have k1 := h1
  have lt1 : ∀ x ∈ p1, x.block < W.heap.size := by obtain ⟨m, hm⟩ := k1; exact DataW.trod_lt m _ _ _ hm
  obtain ⟨z1, w1, y1⟩ : ∃ zs, ((a1 = none ∧ len1 = 0 ∧ cap1 = 0 ∧ zs = []) ∨ ∃ x, a1 = some x ∧ len1 ≤ cap1 ∧ cap1 ≤ maxLen ∧ zs.length = cap1 ∧ (∀ i, i < zs.length → W.cell? (x.add i) = some (.int .i64 (zs.getD i 0))) ∧ ∀ n ∈ zs, (Lit.int .i64 n).wf = true) ∧ len1 * 8 ≤ 140737488351232 := by
    obtain ⟨fuel, hf⟩ := h1
    rcases open_ints Try.underlying22 Try.underlying3 (by kernel_rfl) hf with ⟨hcs, _⟩ | ⟨x, l, c, zs, hcs, _, hl, hm, hz, hx, hcell, hwz⟩
    · simp [Value.cells] at hcs
      obtain ⟨rfl, rfl, rfl⟩ := hcs
      exact ⟨[], .inl ⟨rfl, rfl, rfl, rfl⟩, by simp⟩
    · simp [Value.cells] at hcs
      obtain ⟨rfl, rfl, rfl⟩ := hcs
      refine ⟨zs, .inr ⟨_, rfl, hl, hm, by simpa using hz, hcell, hwz⟩, ?_⟩
      simp only [Prod.mk.injEq] at hx
      have hd := hx.1
      have z := sized_slice hsz (j := 1) (t := 22) rfl (by rw [hd]; rfl) Try.underlying22
      have hb : Try.prog.bytesOf 3 = 8 := by kernel_rfl
      rw [hb] at z
      have hr : reachBytes ≤ 140737488351232 := by decide
      have hz' : zs.length = cap1 := by simpa using hz
      simp only [lits, List.length_map, List.length_take, List.length_drop] at z
      omega
  obtain ⟨e1, l1, hd1, hrep1, hlen1, hwf1⟩ := arg_row w1
  obtain ⟨a2, len2, cap2, rfl⟩ := okWide_slice Try.underlying22 (hval 2 22 v2 rfl rfl)
  have k2 := h2
  have lt2 : ∀ x ∈ p2, x.block < W.heap.size := by obtain ⟨m, hm⟩ := k2; exact DataW.trod_lt m _ _ _ hm
  obtain ⟨z2, w2, y2⟩ : ∃ zs, ((a2 = none ∧ len2 = 0 ∧ cap2 = 0 ∧ zs = []) ∨ ∃ x, a2 = some x ∧ len2 ≤ cap2 ∧ cap2 ≤ maxLen ∧ zs.length = cap2 ∧ (∀ i, i < zs.length → W.cell? (x.add i) = some (.int .i64 (zs.getD i 0))) ∧ ∀ n ∈ zs, (Lit.int .i64 n).wf = true) ∧ len2 * 8 ≤ 140737488351232 := by
    obtain ⟨fuel, hf⟩ := h2
    rcases open_ints Try.underlying22 Try.underlying3 (by kernel_rfl) hf with ⟨hcs, _⟩ | ⟨x, l, c, zs, hcs, _, hl, hm, hz, hx, hcell, hwz⟩
    · simp [Value.cells] at hcs
      obtain ⟨rfl, rfl, rfl⟩ := hcs
      exact ⟨[], .inl ⟨rfl, rfl, rfl, rfl⟩, by simp⟩
    · simp [Value.cells] at hcs
      obtain ⟨rfl, rfl, rfl⟩ := hcs
      refine ⟨zs, .inr ⟨_, rfl, hl, hm, by simpa using hz, hcell, hwz⟩, ?_⟩
      simp only [Prod.mk.injEq] at hx
      have hd := hx.1
      have z := sized_slice hsz (j := 2) (t := 22) rfl (by rw [hd]; rfl) Try.underlying22
      have hb : Try.prog.bytesOf 3 = 8 := by kernel_rfl
      rw [hb] at z
      have hr : reachBytes ≤ 140737488351232 := by decide
      have hz' : zs.length = cap2 := by simpa using hz
      simp only [lits, List.length_map, List.length_take, List.length_drop] at z
      omega
  obtain ⟨e2, l2, hd2, hrep2, hlen2, hwf2⟩ := arg_row w2
  clear hA0 hval0 hsz0 hsz
  refine (law_walk envP (f := 4) (ds := [e0, e1, e2]) (vs := [.slice a0 len0 cap0, .slice a1 len1 cap1, .slice a2 len2 cap2]) (w := W) (tabs_none rfl W) (RepL.cons _ _ _ _ hrep0 (RepL.cons _ _ _ _ hrep1 (RepL.cons _ _ _ _ hrep2 RepL.nil))) (Pure.PolyDivisors e0 l0 hd0 hwf0 (by rw [hlen0]; exact y0) e1 l1 hd1 hwf1 (by rw [hlen1]; exact y1) e2 l2 hd2 hwf2 (by rw [hlen2]; exact y2))).mono fun e W' ⟨he, bel⟩ => ?_
  subst he
  exact ⟨_, rfl, _, _, _, [], _, [], hW', trodAll_mk1 (shut_bool Try.underlying4 _), (trodAll_cons_mk (Below.trod laidOut (by kernel_rfl) (of_decide_eq_true (by kernel_rfl)) k0 bel lt0) (trodAll_cons_mk (Below.trod laidOut (by kernel_rfl) (of_decide_eq_true (by kernel_rfl)) k1 bel lt1) (trodAll_cons_mk (Below.trod laidOut (by kernel_rfl) (of_decide_eq_true (by kernel_rfl)) k2 bel lt2) trodAll_mk0))), rfl, bel.frame _, fun h => by cases h⟩
theorem over : Rows.polyDivisorsRow.holds Try.pinned (OpenSpec.ofChange Rows.polyDivisorsSpec) :=
  OpenClaim.holds_of_wide 4 Try.f4 rfl rfl rfl rfl rfl rfl rfl ⟨rfl, rfl, rfl, rfl, rfl⟩ rfl rfl rfl rfl rfl (by kernel_rfl) Try.func4 (by kernel_rfl)
    (of_decide_eq_true (by kernel_rfl)) (by unfold Func.isWrapper; first | (rw [if_pos (by decide +kernel)]; kernel_rfl) | (rw [if_neg (by decide +kernel)]; exact ⟨rfl, rfl⟩))
    (fun os started H enc _ => lifted os started H enc)
theorem proved : Rows.PolyDivisorsSaid := over
end Go.Proofs.Ythhdbchmjfdgmaa.polyDivisors
namespace Go.Proofs.Ythhdbchmjfdgmaa
theorem polyDivisors_holds : Rows.PolyDivisorsSaid := polyDivisors.proved
end Go.Proofs.Ythhdbchmjfdgmaa


