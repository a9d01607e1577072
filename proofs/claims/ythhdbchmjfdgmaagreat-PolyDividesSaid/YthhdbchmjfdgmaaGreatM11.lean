/- Part 11 of the proof: a small machine, its soundness against the model, and what the program's functions compute on it. -/
import Derived.Test.YthhdbchmjfdgmaaGreatM10
import Derived.Test.YthhdbchmjfdgmaaGreatRows
import Derived.Test.YthhdbchmjfdgmaaGreatM6
import Derived.WalkKit
import Derived.ProofKit
import Derived.OpenShut
import Derived.ShutString
import Derived.ChangeOld
import Derived.Below
import Derived.SizedLaws
set_option linter.unusedVariables false
set_option linter.unusedSimpArgs false
/- Division: what it means, that it is the only one, how great the coefficients are. -/
namespace Go.AM
open Go Go.RowKit

theorem trm_last {l : List Rat} (h : Trm l) (hne : l ≠ []) : l.getD (l.length - 1) 0 ≠ 0 := by
  have hp : 0 < l.length := List.length_pos_iff.2 hne
  exact h (l.length - 1) (by omega)
theorem evR_setc (x : Rat) {l : List Rat} {t : Nat} {c : Rat} (h : t < l.length) : evR (l.set t c) x = evR l x + (c - l.getD t 0) * x ^ t := by
  have : ∀ (l : List Rat) (t : Nat) (c : Rat), t < l.length → evR (l.set t c) x = evR l x + (c - l.getD t 0) * x ^ t := by
    intro l
    induction l with
    | nil => intro t c h; simp at h
    | cons a l ih =>
      intro t c h
      cases t with
      | zero =>
        show evR l x * x + c = evR l x * x + a + (c - a) * x ^ 0
        rw [Rat.pow_zero]; generalize evR l x = u; grind
      | succ t =>
        have := ih t c (by simpa using h)
        show evR (l.set t c) x * x + a = evR l x * x + a + (c - l.getD t 0) * x ^ (t + 1)
        rw [this, Rat.pow_succ]
        generalize evR l x = u; generalize x ^ t = p; generalize l.getD t 0 = v; grind
  exact this l t c h
theorem rpow_add (x : Rat) (k : Nat) : ∀ i : Nat, x ^ (k + i) = x ^ k * x ^ i
  | 0 => by rw [Nat.add_zero, Rat.pow_zero, Rat.mul_one]
  | i + 1 => by rw [← Nat.add_assoc, Rat.pow_succ, Rat.pow_succ, rpow_add x k i, Rat.mul_assoc]
theorem evR_take (q : List Rat) (x : Rat) {i : Nat} (h : i < q.length) : evR (q.take (i + 1)) x = evR (q.take i) x + q.getD i 0 * x ^ i := by
  have e : q.take (i + 1) = q.take i ++ [q.getD i 0] := by
    rw [List.take_add_one]
    simp [List.getD, h]
  rw [e, evR_snoc, List.length_take, Nat.min_eq_left (by omega)]
theorem evR_dvI {R q : List Rat} {k : Nat} {f x : Rat} : ∀ i, i ≤ q.length → k + q.length ≤ R.length → evR (dvI R q k f i) x = evR R x - f * x ^ k * evR (q.take i) x
  | 0, _, _ => by rw [dvI, List.take_zero, evR_nil]; grind
  | i + 1, hi, hk => by
    rw [dvI, evR_setc x (by rw [dvI_len]; omega), evR_dvI i (by omega) hk, evR_take q x (by omega), rpow_add]
    generalize evR R x = a; generalize evR (q.take i) x = b; generalize x ^ k = p; generalize x ^ i = r; generalize q.getD i 0 = c; generalize (dvI R q k f i).getD (k + i) 0 = e
    grind
theorem evR_dv {R q : List Rat} {k : Nat} {f x : Rat} (hk : k + q.length ≤ R.length) : evR (dvI R q k f q.length) x = evR R x - f * x ^ k * evR q x := by
  have := evR_dvI (x := x) (f := f) q.length (Nat.le_refl _) hk
  rwa [List.take_length] at this
/-- What the loop of Div leaves. -/
theorem dvO_ev (q : List Rat) (x : Rat) : ∀ (m : Nat) (R O : List Rat), (0 < m → m - 1 + q.length ≤ R.length) → m ≤ O.length → (∀ t, t < m → O.getD t 0 = 0) → evR (dvO q m R O).2 x * evR q x + evR (dvO q m R O).1 x = evR O x * evR q x + evR R x
  | 0, R, O, _, _, _ => rfl
  | k + 1, R, O, h, hO, hz => by
    have hk : k + q.length ≤ R.length := by have := h (by omega); omega
    rw [dvO, dvO_ev q x k _ _ (fun _ => by rw [dvI_len]; omega) (by rw [List.length_set]; omega) (fun t ht => by rw [lgetD_set (by omega), if_neg (by omega)]; exact hz t (by omega)), evR_dv hk, evR_setc x (by omega), hz k (by omega)]
    generalize evR O x = a; generalize evR R x = b; generalize evR q x = c; generalize x ^ k = p; generalize dvF R q k = f
    grind
theorem dvO_deg {q : List Rat} (hq : q.getD (q.length - 1) 0 ≠ 0) (hq0 : 0 < q.length) : ∀ (m : Nat) (R O : List Rat), (0 < m → m - 1 + q.length ≤ R.length) → (∀ t, m + q.length - 1 ≤ t → R.getD t 0 = 0) → ∀ t, q.length - 1 ≤ t → (dvO q m R O).1.getD t 0 = 0
  | 0, R, O, _, hz, t, ht => hz t (by omega)
  | k + 1, R, O, h, hz, t, ht => by
    have hk : k + q.length ≤ R.length := by have := h (by omega); omega
    rw [dvO]
    refine dvO_deg hq hq0 k _ _ (fun _ => by rw [dvI_len]; omega) (fun t ht => ?_) t ht
    rw [dvI_getD q.length (by omega)]
    by_cases h1 : t = k + q.length - 1
    · subst h1
      rw [if_pos (by omega), show k + q.length - 1 - k = q.length - 1 by omega, dvF, Rat.div_def, Rat.mul_assoc, Rat.inv_mul_cancel _ hq, Rat.mul_one, Rat.sub_self]
    · rw [if_neg (by omega)]
      exact hz t (by omega)
theorem len_of_zero {l : List Rat} {n : Nat} (hl : Trm l) (h : ∀ t, n ≤ t → l.getD t 0 = 0) : l.length ≤ n := by
  by_cases hl0 : l.length ≤ n
  · exact hl0
  · exact absurd (h (l.length - 1) (by omega)) (hl (l.length - 1) (by omega))
theorem quo_rem {p q : List Rat} (hq : Trm q) (hq0 : q ≠ []) : (∀ x, evR p x = evR (quoP p q) x * evR q x + evR (remP p q) x) ∧ (remP p q).length ≤ q.length - 1 ∧ Trm (quoP p q) ∧ Trm (remP p q) := by
  have hl : 0 < q.length := List.length_pos_iff.2 hq0
  unfold quoP remP
  rw [if_neg hq0, if_neg hq0]
  refine ⟨fun x => ?_, ?_, trm_trim _, trm_trim _⟩
  · rw [evR_trim, evR_trim, dvO_ev q x (dvN p q) p (List.replicate (dvN p q) 0) (fun h => by unfold dvN at h ⊢; omega) (by simp) (fun t ht => by
      rw [List.getD_eq_getElem?_getD, List.getElem?_replicate, if_pos ht]; rfl), evR_zeros (fun r hr => (List.mem_replicate.1 hr).2), Rat.zero_mul, Rat.zero_add]
  · refine len_of_zero (trm_trim _) (fun t ht => ?_)
    rw [getD_trim]
    refine dvO_deg (trm_last hq hq0) hl _ _ _ (fun h => by unfold dvN at h ⊢; omega) (fun t ht => getD_out (by unfold dvN at ht; omega)) t ht
theorem conv_top {s q : List Rat} (hs : 0 < s.length) (hq : 0 < q.length) : conv s q (s.length - 1 + (q.length - 1)) = s.getD (s.length - 1) 0 * q.getD (q.length - 1) 0 := by
  obtain ⟨n, hn⟩ : ∃ n, s.length = n + 1 := ⟨s.length - 1, by omega⟩
  unfold conv
  rw [hn, Nat.add_sub_cancel]
  have h1 : sumR (fun i => s.getD i 0 * q.getD (n + (q.length - 1) - i) 0) (n + (q.length - 1) + 1) = sumR (fun i => s.getD i 0 * q.getD (n + (q.length - 1) - i) 0) (n + 1) := by
    rw [show n + (q.length - 1) + 1 = (n + 1) + (q.length - 1) by omega]
    exact sumR_more _ (fun i h1 _ => by rw [getD_out (l := s) (by omega), Rat.zero_mul])
  rw [h1, sumR, sumR_zero n (fun i hi => by rw [getD_out (l := q) (by omega), Rat.mul_zero]), Rat.zero_add, show n + (q.length - 1) - n = q.length - 1 by omega]
theorem mu_getD (l m : List Rat) (k : Nat) : (muP l m).getD k 0 = conv l m k := by
  rw [muP, getD_trim]
  by_cases h : k < l.length + m.length - 1
  · rw [getD_map _ h]
  · rw [getD_out (by simp; omega), conv_out (by omega)]
theorem sb_getD (l m : List Rat) (k : Nat) : (sbP l m).getD k 0 = l.getD k 0 - m.getD k 0 := by
  rw [sbP, getD_trim]
  by_cases h : k < max l.length m.length
  · rw [getD_map _ h]
  · rw [getD_out (by simp; omega), getD_out (l := l) (by omega), getD_out (l := m) (by omega), Rat.sub_self]
theorem ad_getD (l m : List Rat) (k : Nat) : (adP l m).getD k 0 = l.getD k 0 + m.getD k 0 := by
  rw [adP, getD_trim]
  by_cases h : k < max l.length m.length
  · rw [getD_map _ h]
  · rw [getD_out (by simp; omega), getD_out (l := l) (by omega), getD_out (l := m) (by omega), Rat.add_zero]
/-- Division is what it is. -/
theorem div_uniq {q a1 r1 a2 r2 : List Rat} (hq : Trm q) (hq0 : q ≠ []) (t1 : Trm a1) (t2 : Trm a2) (u1 : Trm r1) (u2 : Trm r2) (n1 : r1.length ≤ q.length - 1) (n2 : r2.length ≤ q.length - 1) (h : ∀ x, evR a1 x * evR q x + evR r1 x = evR a2 x * evR q x + evR r2 x) : a1 = a2 ∧ r1 = r2 := by
  have hl : 0 < q.length := List.length_pos_iff.2 hq0
  have hs : sbP a1 a2 = [] := by
    by_cases h0 : sbP a1 a2 = []
    · exact h0
    · have hsl : 0 < (sbP a1 a2).length := List.length_pos_iff.2 h0
      have hev : ∀ x, evR (muP (sbP a1 a2) q) x = evR (sbP r2 r1) x := fun x => by
        rw [ev_mu, ev_sb, ev_sb]
        have := h x
        generalize evR a1 x = a at *; generalize evR a2 x = b at *; generalize evR q x = c at *; generalize evR r1 x = d at *; generalize evR r2 x = e at *
        grind
      have hc := coef_eq (c := 0) (fun x _ => hev x) ((sbP a1 a2).length - 1 + (q.length - 1))
      rw [mu_getD, conv_top hsl hl, sb_getD r2 r1, getD_out (l := r2) (by omega), getD_out (l := r1) (by omega), Rat.sub_self] at hc
      rcases Rat.mul_eq_zero.1 hc with h1 | h1
      · exact absurd h1 (trm_last (trm_sb _ _) h0)
      · exact absurd h1 (trm_last hq hq0)
  have ha : a1 = a2 := trm_ext t1 t2 (fun k => by
    have := sb_getD a1 a2 k
    rw [hs, getD_out (by simp)] at this
    generalize a1.getD k 0 = u at *; generalize a2.getD k 0 = v at *
    grind)
  refine ⟨ha, poly_ext u1 u2 (fun x => ?_)⟩
  have := h x
  rw [ha] at this
  generalize evR a2 x * evR q x = u at *
  grind

/-! ### Sizes -/
theorem Hq.ratio {E Y : Nat} {c : Rat} (hE : 0 < E) (hc : c ≠ 0) (h : Hq E Y c) : ∃ s : Nat, 0 < s ∧ s ≤ Y ∧ ∀ (Z : Nat) (v : Rat), Hq E Z v → Hq s Z (v / c) := by
  obtain ⟨m, h1, h2⟩ := h
  have hm : m ≠ 0 := fun h0 => by
    rw [h0] at h1
    have h3 : c * cN E = 0 := h1
    rcases Rat.mul_eq_zero.1 h3 with h4 | h4
    · exact hc h4
    · exact cN_ne hE h4
  have key : ∀ v, v / c * (m : Rat) = v * cN E := fun v => by
    rw [← h1, Rat.div_def, Rat.mul_assoc, ← Rat.mul_assoc c⁻¹, Rat.inv_mul_cancel _ hc, Rat.one_mul]
  refine ⟨m.natAbs, by omega, h2, fun Z v hv => ?_⟩
  obtain ⟨n, n1, n2⟩ := hv
  rcases Int.lt_trichotomy m 0 with h3 | h3 | h3
  · have e : cN m.natAbs = -(m : Rat) := by
      unfold cN
      rw [show ((m.natAbs : Nat) : Int) = -m by omega, Rat.intCast_neg]
    exact ⟨-n, by rw [e, Rat.mul_neg, key, n1, Rat.intCast_neg], by omega⟩
  · exact absurd h3 hm
  · have e : cN m.natAbs = (m : Rat) := by
      unfold cN
      rw [show ((m.natAbs : Nat) : Int) = m by omega]
    exact ⟨n, by rw [e, key, n1], n2⟩
theorem Hq.one (E : Nat) : Hq E E 1 := ⟨(E : Int), by rw [Rat.one_mul]; rfl, by omega⟩
/-- One step of division: the denominator grows by the divisor's last numerator. -/
theorem dv_step {D X E Y s : Nat} {R q : List Rat} {k : Nat} (hR : ∀ x ∈ R, Hq D X x) (hq : ∀ x ∈ q, Hq E Y x) (hs : ∀ (Z : Nat) (v : Rat), Hq E Z v → Hq s Z (v / q.getD (q.length - 1) 0)) (hk : k + q.length ≤ R.length) :
    (∀ x ∈ dvI R q k (dvF R q k) q.length, Hq (D * s) (X * (s + Y)) x) ∧ Hq (D * s) (X * E) (dvF R q k) := by
  have hf : Hq (D * s) (X * E) (dvF R q k) := by
    have := (Hq.getD hR (k + q.length - 1)).mul (hs E 1 (Hq.one E))
    unfold dvF
    rwa [Rat.div_def, Rat.one_mul, ← Rat.div_def] at this
  refine ⟨fun x hx => ?_, hf⟩
  obtain ⟨t, ht, rfl⟩ := List.mem_iff_getElem.1 hx
  have e : (dvI R q k (dvF R q k) q.length)[t] = (dvI R q k (dvF R q k) q.length).getD t 0 := by
    rw [List.getD_eq_getElem?_getD, List.getElem?_eq_getElem ht]; rfl
  rw [e, dvI_getD q.length hk]
  have hRt := (Hq.getD hR t).lift s
  split
  · have hfq : Hq (D * s) (X * Y) (dvF R q k * q.getD (t - k) 0) := by
      have h1 := (Hq.getD hR (k + q.length - 1)).mul (hs Y _ (Hq.getD hq (t - k)))
      have e2 : R.getD (k + q.length - 1) 0 * (q.getD (t - k) 0 / q.getD (q.length - 1) 0) = dvF R q k * q.getD (t - k) 0 := by
        unfold dvF
        rw [Rat.div_def, Rat.div_def]
        generalize R.getD (k + q.length - 1) 0 = a; generalize (q.getD (q.length - 1) 0)⁻¹ = b; generalize q.getD (t - k) 0 = c
        grind
      rwa [e2] at h1
    rw [Nat.mul_add]
    exact hRt.sub hfq
  · rw [Nat.mul_add]
    exact hRt.le (by omega)
/-- All the way. -/
theorem dv_all {E Y s : Nat} {q : List Rat} {d e g : Nat} (hq : ∀ x ∈ q, Hq E Y x) (hs : ∀ (Z : Nat) (v : Rat), Hq E Z v → Hq s Z (v / q.getD (q.length - 1) 0)) (hs0 : 0 < s) (hsB : s ≤ BB ^ g) (hYB : Y ≤ BB ^ g) (hEB : E ≤ BB ^ e) {K : Nat} :
    ∀ (m D h : Nat) (R O : List Rat), 0 < D → D ≤ BB ^ d → (∀ x ∈ R, Hq D (BB ^ h) x) → (∀ x ∈ O, Hq D (BB ^ (h + e)) x) → (0 < m → m - 1 + q.length ≤ R.length) → max (d + m * g) (h + m * (g + 1) + e) + 1 ≤ K →
    dvG K q m R ∧ ∃ D', 0 < D' ∧ D' ≤ BB ^ (d + m * g) ∧ (∀ x ∈ (dvO q m R O).1, Hq D' (BB ^ (h + m * (g + 1))) x) ∧ (∀ x ∈ (dvO q m R O).2, Hq D' (BB ^ (h + m * (g + 1) + e)) x) := by
  intro m
  induction m generalizing d with
  | zero =>
    intro D h R O hD hd hR hO _ _
    exact ⟨trivial, D, hD, by rw [Nat.zero_mul, Nat.add_zero]; exact hd, by rw [Nat.zero_mul, Nat.add_zero]; exact hR, by rw [Nat.zero_mul, Nat.add_zero]; exact hO⟩
  | succ k ih =>
    intro D h R O hD hd hR hO hk hK
    have hk' := hk (by omega)
    obtain ⟨a1, a2⟩ := dv_step (k := k) hR hq hs (by omega)
    have e1 : (k + 1) * g = g + k * g := by rw [Nat.succ_mul, Nat.add_comm]
    have e2 : (k + 1) * (g + 1) = (g + 1) + k * (g + 1) := by rw [Nat.succ_mul, Nat.add_comm]
    have hb : BB ^ h * (s + Y) ≤ BB ^ (h + (g + 1)) := mul_BB (Nat.le_refl _) (two_BB hsB hYB)
    have hR' : ∀ x ∈ dvI R q k (dvF R q k) q.length, Hq (D * s) (BB ^ (h + (g + 1))) x := fun x hx => (a1 x hx).le hb
    have hO' : ∀ x ∈ O.set k (dvF R q k), Hq (D * s) (BB ^ (h + (g + 1) + e)) x := fun x hx => by
      rcases List.mem_or_eq_of_mem_set hx with h1 | h1
      · exact ((hO x h1).lift s).le (Nat.le_trans (mul_BB (Nat.le_refl _) hsB) (BB_mono (by omega)))
      · rw [h1]
        exact a2.le (Nat.le_trans (mul_BB (Nat.le_refl _) hEB) (BB_mono (by omega)))
    have := ih (d := d + g) (D * s) (h + (g + 1)) (dvI R q k (dvF R q k) q.length) (O.set k (dvF R q k)) (Nat.mul_pos hD hs0) (mul_BB hd hsB) hR' hO' (fun _ => by rw [dvI_len]; omega) (by
      rw [e1, e2] at hK; omega)
    obtain ⟨b1, D', b2, b3, b4, b5⟩ := this
    refine ⟨⟨fun x hx => ?_, b1⟩, D', b2, ?_, ?_, ?_⟩
    · have := Hq.sz hD hd (Nat.le_refl _) (hR x hx)
      rw [e1, e2] at hK; omega
    · rw [e1, ← Nat.add_assoc]; exact b3
    · rw [dvO, e2, ← Nat.add_assoc]; exact b4
    · rw [dvO, e2, ← Nat.add_assoc]; exact b5
theorem div_HL {d h e g : Nat} {p q : List Rat} (Hp : HL d h p) (Hq' : HL e g q) (hq : Trm q) {K : Nat} (hK : max (d + dvN p q * g) (h + dvN p q * (g + 1) + e) + 1 ≤ K) : dvG K q (dvN p q) p ∧ HL (d + dvN p q * g) (h + dvN p q * (g + 1)) (remP p q) ∧ HL (d + dvN p q * g) (h + dvN p q * (g + 1) + e) (quoP p q) := by
  obtain ⟨D, a1, a2, a3⟩ := Hp
  obtain ⟨E, b1, b2, b3⟩ := Hq'
  by_cases hq0 : q = []
  · have r1 : remP p q = [] := if_pos hq0
    have r2 : quoP p q = [] := if_pos hq0
    rw [r1, r2]
    refine ⟨?_, HL.nil _ _, HL.nil _ _⟩
    subst hq0
    have hg : ∀ (m : Nat) (R : List Rat), SzL K R → dvG K [] m R := by
      intro m
      induction m with
      | zero => intro R _; trivial
      | succ k ih => intro R hR; exact ⟨hR, ih _ hR⟩
    exact hg _ _ (fun x hx => Nat.le_trans ((a3 x hx).sz a1 a2 (Nat.le_refl _)) (by omega))
  · obtain ⟨s, s1, s2, s3⟩ := Hq.ratio b1 (trm_last hq hq0) (Hq.getD b3 (q.length - 1))
    obtain ⟨c1, D', c2, c3, c4, c5⟩ := dv_all (d := d) (e := e) (g := g) (K := K) b3 s3 s1 s2 (Nat.le_refl _) b2 (dvN p q) D h p (List.replicate (dvN p q) 0) a1 a2 a3 (fun x hx => by rw [(List.mem_replicate.1 hx).2]; exact Hq.zero _ _) (fun hm => by unfold dvN at hm ⊢; omega) hK
    have r1 : remP p q = trimR (dvO q (dvN p q) p (List.replicate (dvN p q) 0)).1 := if_neg hq0
    have r2 : quoP p q = trimR (dvO q (dvN p q) p (List.replicate (dvN p q) 0)).2 := if_neg hq0
    rw [r1, r2]
    exact ⟨c1, HL.trim ⟨D', c2, c3, c4⟩, HL.trim ⟨D', c2, c3, c5⟩⟩
theorem mn_HL {d h : Nat} {l : List Rat} (H : HL d h l) (hl : Trm l) : HL h h (mnP l) := by
  unfold mnP
  split
  · exact HL.nil _ _
  · rename_i hne
    obtain ⟨D, a1, a2, a3⟩ := H
    obtain ⟨s, s1, s2, s3⟩ := Hq.ratio a1 (trm_last hl hne) (Hq.getD a3 (l.length - 1))
    refine HL.made s1 s2 (Nat.le_refl _) (fun k _ => ?_)
    have := s3 _ _ (Hq.getD a3 k)
    rw [Rat.div_def, Rat.one_mul]
    rwa [Rat.div_def] at this
end Go.AM

/- ref06: Div, Monic, Gcd, Free. -/
namespace Go.AM
open Go Go.RowKit

theorem H1_of_sz {q : Rat} {K : Nat} (h : sz q ≤ K) : H1 K K q := by
  have h1 : nd q.num ≤ K := Nat.le_trans (Nat.le_max_left _ _) h
  have h2 : nd (q.den : Int) ≤ K := Nat.le_trans (Nat.le_max_right _ _) h
  have hd := Hq.div (n := q.num) (d := (q.den : Int)) (by have := q.den_pos; omega)
  rw [Rat.num_divInt_den, Int.natAbs_natCast] at hd
  refine ⟨q.den, q.den_pos, ?_, hd.le (Nat.le_trans (Nat.le_of_lt (lt_pow_nd q.num)) (BB_mono h1))⟩
  have := lt_pow_nd (q.den : Int)
  rw [Int.natAbs_natCast] at this
  exact Nat.le_trans (Nat.le_of_lt this) (BB_mono h2)
/-- The one new part of the quotient. -/
def prt (k : Nat) (f : Rat) : List Rat := trimR ((List.replicate (k + 1) 0).set k f)
theorem ev_prt (k : Nat) (f x : Rat) : evR (prt k f) x = f * x ^ k := by
  rw [prt, evR_trim, evR_setc x (by simp), evR_zerosN]
  have : (List.replicate (k + 1) (0 : Rat)).getD k 0 = 0 := by
    rw [List.getD_eq_getElem?_getD, List.getElem?_replicate, if_pos (by omega)]; rfl
  rw [this]
  generalize x ^ k = p; grind
theorem trm_prt (k : Nat) (f : Rat) : Trm (prt k f) := trm_trim _
theorem prt_len (k : Nat) (f : Rat) : (prt k f).length ≤ k + 1 := Nat.le_trans (trimR_le _) (by simp)
theorem prt_H {k : Nat} {f : Rat} {K : Nat} (h : H1 K K f) : HL K K (prt k f) := by
  obtain ⟨D, a1, a2, a3⟩ := h
  refine HL.trim ⟨D, a1, a2, fun q hq => ?_⟩
  rcases List.mem_or_eq_of_mem_set hq with h1 | h1
  · rw [(List.mem_replicate.1 h1).2]; exact Hq.zero _ _
  · rw [h1]; exact a3
theorem ad_prt {O : List Rat} {k : Nat} {f : Rat} (hk : k < O.length) (h0 : O.getD k 0 = 0) : adP (trimR O) (prt k f) = trimR (O.set k f) := poly_ext (trm_ad _ _) (trm_trim _) fun x => by
  rw [ev_ad, evR_trim, evR_trim, ev_prt, evR_setc x hk, h0]
  generalize evR O x = u; generalize x ^ k = p; grind
theorem sb_prt {R q : List Rat} {k : Nat} {f : Rat} (hk : k + q.length ≤ R.length) : sbP (trimR R) (muP (prt k f) q) = trimR (dvI R q k f q.length) := poly_ext (trm_sb _ _) (trm_trim _) fun x => by
  rw [ev_sb, evR_trim, evR_trim, ev_mu, ev_prt, evR_dv hk]
theorem dv_skip {R q : List Rat} {k : Nat} (hk : k + q.length ≤ R.length) : trimR (dvI R q k 0 q.length) = trimR R := poly_ext (trm_trim _) (trm_trim _) fun x => by
  rw [evR_trim, evR_trim, evR_dv hk, Rat.zero_mul, Rat.zero_mul]
  generalize evR R x = u; grind
theorem set_skip {O : List Rat} {k : Nat} (hk : k < O.length) (h0 : O.getD k 0 = 0) : trimR (O.set k 0) = trimR O := poly_ext (trm_trim _) (trm_trim _) fun x => by
  rw [evR_trim, evR_trim, evR_setc x hk, h0]
  generalize evR O x = u; generalize x ^ k = p; grind
theorem trim_len_le {R : List Rat} {n : Nat} (h : ∀ t, n ≤ t → R.getD t 0 = 0) : (trimR R).length ≤ n := len_of_zero (trm_trim _) (fun t ht => by rw [getD_trim]; exact h t ht)
theorem trim_len_eq {R : List Rat} {n : Nat} (h : ∀ t, n + 1 ≤ t → R.getD t 0 = 0) (h0 : R.getD n 0 ≠ 0) : (trimR R).length = n + 1 := by
  have h1 := trim_len_le h
  by_cases h2 : (trimR R).length ≤ n
  · exact absurd (by rw [← getD_trim]; exact getD_out h2) h0
  · omega
theorem muP_nil (p : List Rat) : muP p [] = [] := poly_ext (trm_mu _ _) trm_nil (fun x => by rw [ev_mu, evR_nil, Rat.mul_zero])
variable [Its]

section
variable {dq : D} {q : List Rat} {K e g : Nat}
def rd2_st (dq dout drest : D) : St := mkS [(1, .d dq), (6, .d dout), (7, .d drest)] []
def rd2_en (dout drest : D) : St := mkS [(6, .d dout), (7, .d drest)] []
theorem rd2_stop {dout drest : D} {R : List Rat} (hq : RwR dq q) (h2 : RwR drest R) (h : R.length < q.length) : X G gantryref06_Div_l0 (rd2_st dq dout drest) = some (.x 0, rd2_en dout drest) := by
  have l1 := hq.len
  have l2 := h2.len
  have e1 : decide ((R.length : Int) ≥ (q.length : Int)) = false := decide_eq_false (by omega)
  simp -implicitDefEqProofs (maxSteps := 10000000) only [gantryref06_Div_l0, rd2_st, rd2_en, l1, l2, e1, go_sem, iv, bv, reduceCtorEq, ↓reduceIte, Nat.reduceEqDiff]
theorem rd2_go {dout drest : D} {R O : List Rat} {k : Nat} (hq : RwR dq q) (h1 : RwR dout O) (h2 : RwR drest R) (hk : R.length = k + q.length) (hq0 : 0 < q.length) (n1 : R.length ≤ 100) (n2 : O.length ≤ 100)
    (sR : SzL K R) (sO : SzL (2 * K) O) (Hq' : HL e g q) (sq : SzL K q) (hK1 : 1 ≤ K) (hK : K ≤ 200000000) (he : e ≤ 200000000) (hg : g ≤ 200000000) :
    ∃ d1 d2, RwR d1 (adP O (prt k (dvF R q k))) ∧ RwR d2 (sbP R (muP (prt k (dvF R q k)) q)) ∧ X G gantryref06_Div_l0 (rd2_st dq dout drest) = some (.n, rd2_st dq d1 d2) := by
  have l1 := hq.len
  have l2 := h2.len
  have e1 : decide ((R.length : Int) ≥ (q.length : Int)) = true := decide_eq_true (by omega)
  have e2 : w64 ((R.length : Int) - (q.length : Int)) = (k : Int) := by rw [w64_id (by omega) (by omega)]; omega
  have e3 : w64 ((k : Int) + 1) = ((k + 1 : Nat) : Int) := by rw [w64_id (by omega) (by omega)]; rfl
  have e4 : w64 ((q.length : Int) - 1) = ((q.length - 1 : Nat) : Int) := by rw [w64_id (by omega) (by omega)]; omega
  have e5 : w64 ((R.length : Int) - 1) = ((k + q.length - 1 : Nat) : Int) := by rw [w64_id (by omega) (by omega)]; omega
  have f1 : ((0 : Int) ≤ ((k + 1 : Nat) : Int)) = True := eq_true (by omega)
  have f2 : (((k + 1 : Nat) : Int) * ((64 : Nat) : Int) ≤ (bound : Int)) = True := eq_true (by have : (bound : Int) = 140737488351232 := rfl; omega)
  have f3 : ((0 : Int) ≤ (k : Int)) = True := eq_true (by omega)
  have f4 : ((k : Int) < ((k + 1 : Nat) : Int)) = True := eq_true (by omega)
  have r0 := cRs_rep (k + 1)
  have m0 := map_cRs (List.replicate (k + 1) (0 : Rat))
  have hqi : q.length - 1 < q.length := by omega
  have hRi : k + q.length - 1 < R.length := by omega
  have x1 := hq.ixa hqi
  have y1 := fun h => ldR h q hqi
  have x2 := h2.ixa hRi
  have y2 := fun h => ldR h R hRi
  have s1 := sq.getD hK1 (q.length - 1)
  have s2 := sR.getD hK1 (k + q.length - 1)
  have g1 := rratDiv_spec (a := R.getD (k + q.length - 1) 0) (b := q.getD (q.length - 1) 0) (by omega) (by omega)
  have sf := sz_div (a := R.getD (k + q.length - 1) 0) (b := q.getD (q.length - 1) 0)
  have hf : R.getD (k + q.length - 1) 0 / q.getD (q.length - 1) 0 = dvF R q k := rfl
  rw [hf] at g1 sf
  have sf' : sz (dvF R q k) ≤ 2 * K := by omega
  have hlen : (List.replicate (k + 1) (0 : Rat)).length = k + 1 := List.length_replicate
  have t1 := st_cA (l := List.replicate (k + 1) (0 : Rat)) (j := k) (by simp) (dvF R q k)
  have Hp := prt_H (k := k) (H1_of_sz sf')
  obtain ⟨dp, hp, gT⟩ := rTrim_spec (RwR.row ((List.replicate (k + 1) (0 : Rat)).set k (dvF R q k))) (by simp; omega) (szl_set (fun x hx => by rw [(List.mem_replicate.1 hx).2, sz_zero]; omega) (by omega))
  have np := prt_len k (dvF R q k)
  have gT' : RwR dp (prt k (dvF R q k)) := hp
  have bbv : BB = 1000000000 := rfl
  obtain ⟨d1, a1, g2⟩ := r6Add_spec h1 gT' (K := 2 * K + 1) (sO.mono (by omega)) (Hp.sz.mono (by omega)) (by omega) (by omega) (by omega) (by omega)
  obtain ⟨dm, a2, g3⟩ := r6Mul_spec gT' hq Hp Hq' (by omega) (by omega) (by omega) (by omega)
  have Hm := HL.mu Hp Hq' (by omega)
  have lm := len_mu (prt k (dvF R q k)) q
  obtain ⟨d2, a3, g4⟩ := r6Sub_spec h2 a2 (K := 2 * K + max e g + 3) (sR.mono (by omega)) (Hm.sz.mono (by omega)) (by omega) (by omega) (by omega) (by omega)
  refine ⟨d1, d2, a1, a3, ?_⟩
  rw [rowR, List.length_set, hlen] at gT
  clear s1 s2 sf sf' sq sR sO hf Hp Hm a1 a2 a3 hp gT' np lm Hq' hlen hqi hRi
  generalize (List.replicate (k + 1) (0 : Rat)).set k (dvF R q k) = L at *
  generalize dvF R q k = f at *
  generalize R.getD (k + q.length - 1) 0 = u at *
  generalize q.getD (q.length - 1) 0 = v at *
  generalize cRs (q.drop (q.length - 1)) = cs at *
  generalize cRs (R.drop (k + q.length - 1)) = cs2 at *
  generalize ((k + q.length - 1 : Nat) : Int) = z1 at *
  generalize ((q.length - 1 : Nat) : Int) = z2 at *
  simp only [encR] at g1 y1 y2
  simp -implicitDefEqProofs (maxSteps := 10000000) only [gantryref06_Div_l0, rd2_st, frzSt, l1, l2, e1, e2, e3, e4, e5, f1, f2, f3, f4, r0, m0, x1, y1, x2, y2, g1, t1, gT, g2, g3, g4, allD_cA, refsL_cA, Int.toNat_natCast, go_sem, iv, bv, and_self, true_and, reduceCtorEq, ↓reduceIte, Nat.reduceEqDiff]
theorem rd2_loop (hq : RwR dq q) (hq0 : 0 < q.length) (hqz : q.getD (q.length - 1) 0 ≠ 0) (Hq' : HL e g q) (sq : SzL K q) (hK1 : 1 ≤ K) (hK : K ≤ 200000000) (he : e ≤ 200000000) (hg : g ≤ 200000000) : ∀ (j : Nat) (R O : List Rat) (dout drest : D), RwR dout (trimR O) → RwR drest (trimR R) → R.length ≤ 100 → O.length ≤ 100 → (0 < j → j - 1 + q.length ≤ R.length) → j ≤ O.length → (∀ t, t < j → O.getD t 0 = 0) → (∀ t, j + q.length - 1 ≤ t → R.getD t 0 = 0) → SzL (2 * K) O → dvG K q j R →
    ∃ d1 d2, RwR d1 (trimR (dvO q j R O).2) ∧ RwR d2 (trimR (dvO q j R O).1) ∧ X G (.loop gantryref06_Div_l0) (rd2_st dq dout drest) = some (.x 0, rd2_en d1 d2)
  | 0, R, O, dout, drest, h1, h2, _, _, _, _, _, hz, _, _ => by
    have hl : (trimR R).length ≤ q.length - 1 := trim_len_le (fun t ht => hz t (by omega))
    exact ⟨dout, drest, h1, h2, by rw [X_loop, rd2_stop hq h2 (by omega)]; rfl⟩
  | k + 1, R, O, dout, drest, h1, h2, n1, n2, hj, hm, ho, hz, sO, hgG => by
    have hk : k + q.length ≤ R.length := by have := hj (by omega); omega
    have hlast : q.length - 1 < q.length := by omega
    have h0 := ho k (by omega)
    have sO' : SzL (2 * K) (O.set k (dvF R q k)) := szl_set sO (by
      have s1 := sq.getD hK1 (q.length - 1)
      have s2 := hgG.1.getD hK1 (k + q.length - 1)
      have := sz_div (a := R.getD (k + q.length - 1) 0) (b := q.getD (q.length - 1) 0)
      unfold dvF; omega)
    have hz' : q.getD (q.length - 1) 0 ≠ 0 ∨ R.getD (k + q.length - 1) 0 = 0 → ∀ t, k + q.length - 1 ≤ t → (dvI R q k (dvF R q k) q.length).getD t 0 = 0 := fun hc t ht => by
      rw [dvI_getD q.length (by omega)]
      by_cases h1 : t = k + q.length - 1
      · subst h1
        rw [if_pos (by omega), show k + q.length - 1 - k = q.length - 1 by omega, dvF]
        rcases hc with hc | hc
        · rw [Rat.div_def, Rat.mul_assoc, Rat.inv_mul_cancel _ hc, Rat.mul_one, Rat.sub_self]
        · rw [hc, Rat.div_def, Rat.zero_mul, Rat.zero_mul, Rat.sub_self]
      · rw [if_neg (by omega)]
        exact hz t (by omega)
    have ho' : ∀ t, t < k → (O.set k (dvF R q k)).getD t 0 = 0 := fun t ht => by
      rw [lgetD_set (by omega), if_neg (by omega)]; exact ho t (by omega)
    have ih := rd2_loop hq hq0 hqz Hq' sq hK1 hK he hg k (dvI R q k (dvF R q k) q.length) (O.set k (dvF R q k))
    rw [dvO]
    by_cases hR0 : R.getD (k + q.length - 1) 0 = 0
    · have hf : dvF R q k = 0 := by rw [dvF, hR0, Rat.div_def, Rat.zero_mul]
      refine ih dout drest ?_ ?_ (by rw [dvI_len]; exact n1) (by rw [List.length_set]; exact n2) (fun _ => by rw [dvI_len]; omega) (by rw [List.length_set]; omega) ho' (hz' (.inr hR0)) sO' hgG.2
      · rw [hf, set_skip (by omega) h0]; exact h1
      · rw [hf, dv_skip hk]; exact h2
    · have hlen : (trimR R).length = k + q.length := by
        have := trim_len_eq (R := R) (n := k + q.length - 1) (fun t ht => hz t (by omega)) hR0
        omega
      have hfe : dvF (trimR R) q k = dvF R q k := by rw [dvF, getD_trim]; rfl
      obtain ⟨d1, d2, a1, a2, a3⟩ := rd2_go (k := k) hq h1 h2 hlen hq0 (Nat.le_trans (trimR_le R) n1) (Nat.le_trans (trimR_le O) n2) hgG.1.trim sO.trim Hq' sq hK1 hK he hg
      rw [hfe] at a1 a2
      rw [ad_prt (by omega) h0] at a1
      rw [sb_prt hk] at a2
      obtain ⟨e1, e2, b1, b2, b3⟩ := ih d1 d2 a1 a2 (by rw [dvI_len]; exact n1) (by rw [List.length_set]; exact n2) (fun _ => by rw [dvI_len]; omega) (by rw [List.length_set]; omega) ho' (hz' (.inl hqz)) sO' hgG.2
      exact ⟨e1, e2, b1, b2, by rw [X_loop, a3, Option.bind_some, if_pos rfl]; exact b3⟩
theorem r6Div_spec {dp : D} {p : List Rat} (hp : RwR dp p) (hq : RwR dq q) (tp : Trm p) (tq : Trm q) (n1 : p.length ≤ 90) (Hq' : HL e g q) (sq : SzL K q) (hK1 : 1 ≤ K) (hK : K ≤ 200000000) (he : e ≤ 200000000) (hg : g ≤ 200000000) (hG : dvG K q (dvN p q) p) :
    ∃ d1 d2, RwR d1 (quoP p q) ∧ RwR d2 (remP p q) ∧ callX G n_gantryref06_Div [dp, dq] = some (.d (.tup [d1, d2])) := by
  rw [callX_eq (cf := gantryref06_Div) rfl]
  have lq := hq.len
  unfold quoP remP
  by_cases hq0 : q = []
  · subst hq0
    rw [if_pos rfl, if_pos rfl]
    refine ⟨.z true, .z true, .nil, .nil, ?_⟩
    have e1 : ((0 : Int) == 0) = true := rfl
    simp only [List.length_nil] at lq
    simp -implicitDefEqProofs (maxSteps := 10000000) only [gantryref06_Div, toDs, lq, e1, go_sem, iv, bv, reduceCtorEq, ↓reduceIte, Nat.reduceEqDiff]
  · rw [if_neg hq0, if_neg hq0]
    have hl : 0 < q.length := List.length_pos_iff.2 hq0
    have e1 : ((q.length : Int) == 0) = false := beq_f (by omega)
    have hO : trimR (List.replicate (dvN p q) (0 : Rat)) = [] := poly_ext (trm_trim _) trm_nil fun x => by rw [evR_trim, evR_zerosN]; rfl
    obtain ⟨d1, d2, a1, a2, a3⟩ := rd2_loop hq hl (trm_last tq hq0) Hq' sq hK1 hK he hg (dvN p q) p (List.replicate (dvN p q) 0) (.z true) dp (by rw [hO]; exact .nil) (by rw [trim_of tp]; exact hp) (by omega) (by simp; unfold dvN; omega) (fun h => by unfold dvN at h ⊢; omega) (by simp) (fun t ht => by
      rw [List.getD_eq_getElem?_getD, List.getElem?_replicate, if_pos ht]; rfl) (fun t ht => getD_out (by unfold dvN at ht; omega)) (fun x hx => by rw [(List.mem_replicate.1 hx).2, sz_zero]; omega) hG
    refine ⟨d1, d2, a1, a2, ?_⟩
    simp only [rd2_st, rd2_en, go_sem] at a3
    simp -implicitDefEqProofs (maxSteps := 10000000) only [gantryref06_Div, toDs, lq, e1, a3, go_sem, iv, bv, reduceCtorEq, ↓reduceIte, Nat.reduceEqDiff]
end
end Go.AM

/- How great the divisors are; ref06: Monic, Gcd, Free. -/
namespace Go.AM
open Go Go.RowKit

theorem sc_getD (l : List Rat) (a : Rat) (k : Nat) : (scP l a).getD k 0 = l.getD k 0 * a := by
  rw [scP, getD_trim]
  by_cases h : k < l.length
  · rw [getD_map _ h]
  · rw [getD_out (by simp; omega), getD_out (by omega), Rat.zero_mul]
theorem de_getD (l : List Rat) (k : Nat) : (deP l).getD k 0 = l.getD (k + 1) 0 * ((k + 1 : Nat) : Int) := by
  rw [deP, getD_trim]
  by_cases h : k < l.length - 1
  · rw [getD_map _ h]
  · rw [getD_out (by simp; omega), getD_out (by omega), Rat.zero_mul]
theorem len_of_ne {l : List Rat} {n : Nat} (h : l.getD n 0 ≠ 0) : n + 1 ≤ l.length := by
  by_cases h1 : n < l.length
  · exact h1
  · exact absurd (getD_out (by omega)) h
theorem rinv_ne {x : Rat} (h : x ≠ 0) : 1 / x ≠ 0 := fun h0 => by
  have h1 : 1 / x * x = 1 := by rw [Rat.div_def, Rat.one_mul, Rat.inv_mul_cancel _ h]
  rw [h0, Rat.zero_mul] at h1
  exact absurd h1 (by decide)
theorem mn_getD {l : List Rat} (h : l ≠ []) (k : Nat) : (mnP l).getD k 0 = l.getD k 0 * (1 / l.getD (l.length - 1) 0) := by
  rw [mnP, if_neg h, sc_getD]
theorem mn_lenE {l : List Rat} (hl : Trm l) : (mnP l).length = l.length := by
  by_cases h : l = []
  · subst h; rfl
  · have h1 := mnP_len l
    have hp : 0 < l.length := List.length_pos_iff.2 h
    have h2 := trm_last hl h
    have h3 : (mnP l).getD (l.length - 1) 0 ≠ 0 := by
      rw [mn_getD h]
      intro h0
      rcases Rat.mul_eq_zero.1 h0 with h4 | h4
      · exact h2 h4
      · exact rinv_ne h2 h4
    have := len_of_ne h3
    omega
theorem cast_ne {n : Nat} (h : 0 < n) : (((n : Nat) : Int) : Rat) ≠ 0 := cN_ne h
theorem de_lenE {l : List Rat} (hl : Trm l) : (deP l).length = l.length - 1 := by
  have h1 := len_de l
  by_cases h : l.length ≤ 1
  · omega
  · have h2 := trm_last hl (fun h0 => by rw [h0] at h; simp at h)
    have h3 : (deP l).getD (l.length - 2) 0 ≠ 0 := by
      rw [de_getD, show l.length - 2 + 1 = l.length - 1 by omega]
      intro h0
      rcases Rat.mul_eq_zero.1 h0 with h4 | h4
      · exact h2 h4
      · exact cast_ne (by omega) h4
    have := len_of_ne h3
    omega
theorem three_pow : ∀ d : Nat, d + 3 ≤ 3 ^ (d + 1)
  | 0 => by decide
  | d + 1 => by rw [Nat.pow_succ]; have := three_pow d; omega
theorem three_le {a b : Nat} (h : a < b) : (b + 2 - a) * 3 ^ a ≤ 3 ^ b := by
  obtain ⟨d, rfl⟩ : ∃ d, b = d + 1 + a := ⟨b - 1 - a, by omega⟩
  rw [Nat.pow_add]
  refine Nat.mul_le_mul_right _ ?_
  have := three_pow d
  omega
theorem trm_dv (a b : List Rat) : Trm (remP a b) := by
  unfold remP
  split
  · exact trm_nil
  · exact trm_trim _
/-- Small enough all the way, for the reference. -/
def gcH (K : Nat) : Nat → List Rat → List Rat → Prop
  | 0, _, b => b = []
  | n + 1, a, b => b = [] ∨ (HL K K b ∧ Trm b ∧ gcH K n b (mnP (remP a b)))
theorem dvG_mono {K L : Nat} (h : K ≤ L) {q : List Rat} : ∀ (m : Nat) (R : List Rat), dvG K q m R → dvG L q m R
  | 0, _, _ => trivial
  | k + 1, R, hg => ⟨hg.1.mono h, dvG_mono h k _ hg.2⟩
theorem gcG_mono {K L : Nat} (h : K ≤ L) : ∀ (n : Nat) (a b : List Rat), gcG K n a b → gcG L n a b
  | 0, _, _, hg => hg
  | n + 1, a, b, hg => hg.imp id fun ⟨h1, h2, h3, h4⟩ => ⟨h1.mono h, dvG_mono h _ _ h2, h3.mono h, gcG_mono h n _ _ h4⟩
theorem gcH_mono {K L : Nat} (h : K ≤ L) : ∀ (n : Nat) (a b : List Rat), gcH K n a b → gcH L n a b
  | 0, _, _, hg => hg
  | n + 1, a, b, hg => hg.imp id fun ⟨h1, h2, h3⟩ => ⟨h1.mono h h, h2, gcH_mono h n _ _ h3⟩
theorem gc_pot {K : Nat} : ∀ (n s : Nat) (a b : List Rat), HL s s a → HL s s b → Trm b → b.length < n → (s + 1) * (dvN a b + 1) * 3 ^ b.length ≤ K → gcG K n a b ∧ gcH K n a b ∧ HL K K (gcP n a b)
  | 0, _, _, b, _, _, _, h, _ => by omega
  | n + 1, s, a, b, Ha, Hb, tb, hn, hK => by
    have h3 : 1 ≤ 3 ^ b.length := Nat.one_le_pow _ _ (by decide)
    have hs : s + 1 ≤ K := Nat.le_trans (Nat.le_trans (Nat.le_mul_of_pos_right (s + 1) (by omega)) (Nat.le_mul_of_pos_right _ h3)) hK
    by_cases hb : b = []
    · subst hb
      refine ⟨.inl rfl, .inl rfl, ?_⟩
      rw [gcP, if_pos rfl]
      exact Ha.mono (by omega) (by omega)
    · have hlb : 0 < b.length := List.length_pos_iff.2 hb
      obtain ⟨_, q2, _, _⟩ := quo_rem (p := a) tb hb
      have h33 : 3 * ((s + 1) * (dvN a b + 1)) ≤ K := by
        refine Nat.le_trans ?_ hK
        rw [Nat.mul_comm 3]
        refine Nat.mul_le_mul_left _ ?_
        obtain ⟨k, hk⟩ : ∃ k, b.length = k + 1 := ⟨b.length - 1, by omega⟩
        rw [hk, Nat.pow_succ]
        have : 1 ≤ 3 ^ k := Nat.one_le_pow _ _ (by decide)
        omega
      have hr := mnP_len (remP a b)
      have h3' : ((s + 1) * (dvN a b + 1)) * (dvN b (mnP (remP a b)) + 1) * 3 ^ (mnP (remP a b)).length ≤ K := by
        refine Nat.le_trans ?_ hK
        rw [Nat.mul_assoc]
        refine Nat.mul_le_mul_left _ (Nat.le_trans (Nat.le_of_eq ?_) (three_le (a := (mnP (remP a b)).length) (b := b.length) (by omega)))
        congr 1
        unfold dvN; omega
      have he : (s + 1) * (dvN a b + 1) = s * dvN a b + dvN a b + s + 1 := by rw [Nat.mul_add, Nat.add_mul, Nat.mul_one, Nat.one_mul]; omega
      have he2 : dvN a b * (s + 1) = s * dvN a b + dvN a b := by rw [Nat.mul_add, Nat.mul_one, Nat.mul_comm]
      have he3 : dvN a b * s = s * dvN a b := Nat.mul_comm _ _
      obtain ⟨g1, g2, _⟩ := div_HL (K := K) Ha Hb tb (by rw [he2, he3]; omega)
      have hsz := g2.sz
      have g3 := mn_HL g2 (trm_dv a b)
      have e1 : s + dvN a b * (s + 1) + 1 = (s + 1) * (dvN a b + 1) := by omega
      obtain ⟨i1, i2, i3⟩ := gc_pot (K := K) n (s + dvN a b * (s + 1)) b (mnP (remP a b)) (Hb.mono (by omega) (by omega)) g3 (trm_mn _) (by omega) (by rw [e1]; exact h3')
      refine ⟨.inr ⟨Hb.sz.mono (by omega), g1, hsz.mono (by omega), i1⟩, .inr ⟨Hb.mono (by omega) (by omega), tb, i2⟩, ?_⟩
      rw [gcP, if_neg hb]
      exact i3
variable [Its]

theorem r6Monic_spec {d : D} {l : List Rat} (hr : RwR d l) (hn : l.length ≤ 1000) {K : Nat} (sl : SzL K l) (hK1 : 1 ≤ K) (hK : K ≤ 1000000000) : ∃ d', RwR d' (mnP l) ∧ callX G n_gantryref06_Monic [d] = some (.d d') := by
  rw [callX_eq (cf := gantryref06_Monic) rfl]
  have ll := hr.len
  by_cases h0 : l.length = 0
  · have : l = [] := List.eq_nil_of_length_eq_zero h0
    subst this
    refine ⟨.z true, .inl ⟨rfl, rfl⟩, ?_⟩
    have e1 : ((0 : Int) == 0) = true := rfl
    simp only [List.length_nil] at ll
    simp -implicitDefEqProofs (maxSteps := 10000000) only [gantryref06_Monic, ll, e1, go_sem, iv, bv, reduceCtorEq, ↓reduceIte, Nat.reduceEqDiff]
  · have hne : l ≠ [] := fun h => h0 (by rw [h]; rfl)
    unfold mnP
    rw [if_neg hne]
    have e1 : ((l.length : Int) == 0) = false := beq_f (by omega)
    have e2 : w64 ((l.length : Int) - 1) = ((l.length - 1 : Nat) : Int) := by rw [w64_id (by omega) (by omega)]; omega
    have hl : l.length - 1 < l.length := by omega
    have x1 := hr.ixa hl
    have y1 := fun h => ldR h l hl
    have s1 := sl.getD hK1 (l.length - 1)
    have g1 := rone_of
    have g2 := rratDiv_spec (a := 1) (b := l.getD (l.length - 1) 0) (by rw [sz_one_]; omega) (by omega)
    have s2 := sz_div (a := 1) (b := l.getD (l.length - 1) 0)
    rw [sz_one_] at s2
    obtain ⟨d', hr', gS⟩ := r6Scale_spec (a := 1 / l.getD (l.length - 1) 0) hr (K := K + 1) (sl.mono (by omega)) (by omega) (by omega) (by omega) hn
    refine ⟨d', hr', ?_⟩
    clear s1 s2 hr'
    generalize 1 / l.getD (l.length - 1) 0 = r at *
    generalize l.getD (l.length - 1) 0 = u at *
    generalize cRs (l.drop (l.length - 1)) = cs at *
    generalize ((l.length - 1 : Nat) : Int) = z at *
    generalize (1 : Rat) = one at *
    simp only [encR, iv] at g1 g2 y1 gS
    simp -implicitDefEqProofs (maxSteps := 10000000) only [gantryref06_Monic, ll, x1, y1, e1, e2, g1, g2, gS, go_sem, iv, bv, reduceCtorEq, ↓reduceIte, Nat.reduceEqDiff]

def gr_st (da db : D) : St := mkS [(5, .d da), (6, .d db)] []
def gr_en (da : D) : St := mkS [(5, .d da)] []
theorem gr_stop {da db : D} (hb : RwR db []) : X G gantryref06_Gcd_l0 (gr_st da db) = some (.x 0, gr_en da) := by
  have ll := hb.len
  have e1 : decide ((0 : Int) > 0) = false := rfl
  simp only [List.length_nil] at ll
  simp -implicitDefEqProofs (maxSteps := 10000000) only [gantryref06_Gcd_l0, gr_st, gr_en, ll, e1, go_sem, iv, bv, reduceCtorEq, ↓reduceIte, Nat.reduceEqDiff]
theorem gr_go {da db : D} {a b : List Rat} (ha : RwR da a) (hb : RwR db b) (ta : Trm a) (tb : Trm b) (hne : b ≠ []) (na : a.length ≤ 90) {K : Nat} (hK1 : 1 ≤ K) (hK : K ≤ 200000000) (Hb : HL K K b) (sb : SzL K b) (hg : dvG K b (dvN a b) a) (sr : SzL K (remP a b)) :
    ∃ d', RwR d' (mnP (remP a b)) ∧ X G gantryref06_Gcd_l0 (gr_st da db) = some (.n, gr_st db d') := by
  obtain ⟨d1, d2, h1, h2, gD⟩ := r6Div_spec ha hb ta tb na Hb sb hK1 hK hK hK hg
  obtain ⟨d3, h3, gM⟩ := r6Monic_spec h2 (Nat.le_trans (remP_len a b) (by omega)) sr hK1 (by omega)
  refine ⟨d3, h3, ?_⟩
  have hl : 0 < b.length := List.length_pos_iff.2 hne
  have ll := hb.len
  have e1 : decide ((b.length : Int) > 0) = true := gt_t (by omega)
  simp -implicitDefEqProofs (maxSteps := 10000000) only [gantryref06_Gcd_l0, gr_st, ll, e1, gD, gM, go_sem, iv, bv, reduceCtorEq, ↓reduceIte, Nat.reduceEqDiff]
theorem gr_loop {K : Nat} (hK1 : 1 ≤ K) (hK : K ≤ 200000000) : ∀ (n : Nat) (a b : List Rat) (da db : D), RwR da a → RwR db b → Trm a → a.length ≤ 90 → b.length ≤ 90 → gcG K n a b → gcH K n a b → ∃ d', RwR d' (gcP n a b) ∧ X G (.loop gantryref06_Gcd_l0) (gr_st da db) = some (.x 0, gr_en d')
  | 0, a, b, da, db, ha, hb, ta, na, nb, hg, _ => by
    have hb' : b = [] := hg
    subst hb'
    exact ⟨da, ha, by rw [X_loop, gr_stop hb]; rfl⟩
  | n + 1, a, b, da, db, ha, hb, ta, na, nb, hg, hh => by
    by_cases hb0 : b = []
    · subst hb0
      rw [gcP, if_pos rfl]
      exact ⟨da, ha, by rw [X_loop, gr_stop hb]; rfl⟩
    · rw [gcP, if_neg hb0]
      rcases hg with hg | ⟨g1, g2, g3, g4⟩
      · exact absurd hg hb0
      · rcases hh with hh | ⟨k1, k2, k3⟩
        · exact absurd hh hb0
        · obtain ⟨d1, h1, hx⟩ := gr_go ha hb ta k2 hb0 na hK1 hK k1 g1 g2 g3
          obtain ⟨d', h', hl⟩ := gr_loop hK1 hK n b (mnP (remP a b)) db d1 hb h1 k2 nb (Nat.le_trans (mnP_len _) (Nat.le_trans (remP_len a b) na)) g4 k3
          exact ⟨d', h', by rw [X_loop, hx, Option.bind_some, if_pos rfl]; exact hl⟩
theorem r6Gcd_spec {dp dq : D} {p q : List Rat} (hp : RwR dp p) (hq : RwR dq q) (np : p.length ≤ 90) (nq : q.length ≤ 90) {K : Nat} (hK1 : 1 ≤ K) (hK : K ≤ 200000000) (sp : SzL K p) (sq : SzL K q) (hg : gcG K (q.length + 1) (mnP p) (mnP q)) (hh : gcH K (q.length + 1) (mnP p) (mnP q)) :
    ∃ d', RwR d' (gcdP p q) ∧ callX G n_gantryref06_Gcd [dp, dq] = some (.d d') := by
  rw [callX_eq (cf := gantryref06_Gcd) rfl]
  obtain ⟨d1, h1, g1⟩ := r6Monic_spec hp (by omega) sp hK1 (by omega)
  obtain ⟨d2, h2, g2⟩ := r6Monic_spec hq (by omega) sq hK1 (by omega)
  obtain ⟨d', h', hl⟩ := gr_loop hK1 hK (q.length + 1) (mnP p) (mnP q) d1 d2 h1 h2 (trm_mn p) (Nat.le_trans (mnP_len _) np) (Nat.le_trans (mnP_len _) nq) hg hh
  refine ⟨d', h', ?_⟩
  simp only [gr_st, gr_en, go_sem] at hl
  simp -implicitDefEqProofs (maxSteps := 10000000) only [gantryref06_Gcd, g1, g2, hl, go_sem, iv, bv, reduceCtorEq, ↓reduceIte, Nat.reduceEqDiff]
theorem r6Free_spec {dp : D} {p : List Rat} (hp : RwR dp p) (tp : Trm p) (tg : Trm (gcdP p (deP p))) (np : p.length ≤ 90) {K : Nat} (hK1 : 1 ≤ K) (hK : K ≤ 200000000) (sp : SzL K p) (sd : SzL K (deP p)) (hg : gcG K ((deP p).length + 1) (mnP p) (mnP (deP p))) (hh : gcH K ((deP p).length + 1) (mnP p) (mnP (deP p))) (Hg : HL K K (gcdP p (deP p))) (sg : SzL K (gcdP p (deP p))) (hd : dvG K (gcdP p (deP p)) (dvN p (gcdP p (deP p))) p) (so : SzL K (quoP p (gcdP p (deP p)))) :
    ∃ d', RwR d' (frP p) ∧ callX G n_gantryref06_Free [dp] = some (.d d') := by
  rw [callX_eq (cf := gantryref06_Free) rfl]
  obtain ⟨d1, h1, g1⟩ := r6Derive_spec hp sp hK1 (by omega) (by omega)
  obtain ⟨d2, h2, g2⟩ := r6Gcd_spec hp h1 np (Nat.le_trans (len_de p) (by omega)) hK1 hK sp sd hg hh
  obtain ⟨d3, d4, h3, h4, g3⟩ := r6Div_spec hp h2 tp tg np Hg sg hK1 hK hK hK hd
  obtain ⟨d', h', g4⟩ := r6Monic_spec h3 (Nat.le_trans (quoP_len p _) (by unfold dvN; omega)) so hK1 (by omega)
  refine ⟨d', h', ?_⟩
  simp -implicitDefEqProofs (maxSteps := 10000000) only [gantryref06_Free, g1, g2, g3, g4, go_sem, iv, bv, reduceCtorEq, ↓reduceIte, Nat.reduceEqDiff]
end Go.AM

namespace Go.AM
open Go Go.RowKit Go.Proofs

theorem trm_gc : ∀ (n : Nat) (a b : List Rat), Trm a → Trm b → Trm (gcP n a b)
  | 0, _, _, ha, _ => ha
  | n + 1, a, b, ha, hb => by
    rw [gcP]
    split
    · exact ha
    · exact trm_gc n b _ hb (trm_mn _)
theorem gc_len : ∀ (n : Nat) (a b : List Rat) (L : Nat), a.length ≤ L → b.length ≤ L → (gcP n a b).length ≤ L
  | 0, _, _, _, ha, _ => ha
  | n + 1, a, b, L, ha, hb => by
    rw [gcP]
    split
    · exact ha
    · exact gc_len n b _ L hb (Nat.le_trans (mnP_len _) (Nat.le_trans (remP_len a b) ha))
theorem gcd_len (p q : List Rat) (L : Nat) (hp : p.length ≤ L) (hq : q.length ≤ L) : (gcdP p q).length ≤ L := gc_len _ _ _ _ (Nat.le_trans (mnP_len p) hp) (Nat.le_trans (mnP_len q) hq)
/-- Of Gcd, for u of at most 11 and v of at most 6. -/
theorem pd_gcd {u v : List Rat} (Hu : HL 20 33 u) (nu : u.length ≤ 11) (tu : Trm u) (Hv : HL 20 33 v) (nv : v.length ≤ 6) (tv : Trm v) : gcG 1000000 (v.length + 1) (mnP u) (mnP v) ∧ gcH 1000000 (v.length + 1) (mnP u) (mnP v) ∧ HL 1000000 1000000 (gcdP u v) := by
  have l1 := mn_lenE tu
  have l2 := mn_lenE tv
  refine gc_pot (K := 1000000) (v.length + 1) 33 (mnP u) (mnP v) (mn_HL Hu tu) (mn_HL Hv tv) (trm_mn v) (by omega) ?_
  have h1 : dvN (mnP u) (mnP v) + 1 ≤ 13 := by unfold dvN; omega
  have h2 : 3 ^ (mnP v).length ≤ 3 ^ 6 := Nat.pow_le_pow_right (by omega) (by omega)
  exact Nat.le_trans (Nat.mul_le_mul (Nat.mul_le_mul_left _ h1) h2) (by decide)
theorem pd_free {u : List Rat} (Hu : HL 20 33 u) (nu : u.length ≤ 11) (tu : Trm u) : gcG 7000000 ((deP u).length + 1) (mnP u) (mnP (deP u)) ∧ gcH 7000000 ((deP u).length + 1) (mnP u) (mnP (deP u)) ∧ HL 7000000 7000000 (gcdP u (deP u)) := by
  have l1 := mn_lenE tu
  have l2 := mn_lenE (trm_de u)
  have l3 := de_lenE tu
  have hB : BB = 1000000000 := rfl
  have Hd := Hu.de (by omega)
  refine gc_pot (K := 7000000) ((deP u).length + 1) 34 (mnP u) (mnP (deP u)) ((mn_HL Hu tu).mono (by omega) (by omega)) (mn_HL Hd (trm_de u)) (trm_mn _) (by omega) ?_
  have h1 : dvN (mnP u) (mnP (deP u)) + 1 ≤ 3 := by unfold dvN; omega
  have h2 : 3 ^ (mnP (deP u)).length ≤ 3 ^ 10 := Nat.pow_le_pow_right (by omega) (by omega)
  exact Nat.le_trans (Nat.mul_le_mul (Nat.mul_le_mul_left _ h1) h2) (by decide)
theorem pd_fdiv {u : List Rat} (Hu : HL 20 33 u) (nu : u.length ≤ 11) (tu : Trm u) : dvG 100000000 (gcdP u (deP u)) (dvN u (gcdP u (deP u))) u ∧ HL 100000000 100000000 (quoP u (gcdP u (deP u))) ∧ SzL 100000000 (quoP u (gcdP u (deP u))) := by
  obtain ⟨_, _, Hg⟩ := pd_free Hu nu tu
  have tg : Trm (gcdP u (deP u)) := trm_gc _ _ _ (trm_mn _) (trm_mn _)
  generalize gcdP u (deP u) = g at *
  have hm : dvN u g ≤ 12 := by unfold dvN; omega
  have h1 : dvN u g * 7000000 ≤ 12 * 7000000 := Nat.mul_le_mul_right _ hm
  have h2 : dvN u g * (7000000 + 1) ≤ 12 * (7000000 + 1) := Nat.mul_le_mul_right _ hm
  obtain ⟨a, _, c⟩ := div_HL (K := 100000000) Hu Hg tg (by omega)
  exact ⟨a, c.mono (by omega) (by omega), c.sz.mono (by omega)⟩
theorem pd_div {u v : List Rat} (Hu : HL 20 33 u) (nu : u.length ≤ 11) (Hv : HL 10 17 v) (tv : Trm v) : dvG 1000 v (dvN u v) u ∧ HL 1000 1000 (remP u v) ∧ HL 1000 1000 (quoP u v) := by
  have hm : dvN u v ≤ 12 := by unfold dvN; omega
  have h1 : dvN u v * 17 ≤ 12 * 17 := Nat.mul_le_mul_right _ hm
  have h2 : dvN u v * (17 + 1) ≤ 12 * (17 + 1) := Nat.mul_le_mul_right _ hm
  obtain ⟨a, b, c⟩ := div_HL (K := 1000) Hu Hv tv (by omega)
  exact ⟨a, b.mono (by omega) (by omega), c.mono (by omega) (by omega)⟩
theorem rep2z (a : D) : rep 2 [a] = [a, a] := rfl
theorem rep6z (a : D) : rep 6 [a] = [a, a, a, a, a, a] := rfl
variable [Its]
def pv_st (L : D) (i : Int) : St := mkS [(7, .d L), (8, ai i)] []
theorem pv_go {L du dv : D} {u v : List Rat} {rest : List D} {i : Nat} (hi : i < 6) (hx : ∀ hp, ixaA hp 1 (i : Int) (.d L) = some (.d (.rp rest))) (hy : ∀ hp, loadA hp none (.d (.rp rest)) = some (.d (.row 2 [du, dv]))) (hL : lenA (.d L) = some 6)
    (hu : RwR du u) (Hu : HL 20 33 u) (nu : u.length ≤ 11) (tu : Trm u) (hv : RwR dv v) (Hv : HL 10 17 v) (nv : v.length ≤ 6) (tv : Trm v) : X G gantrylaw06_PolyDivides_l0 (pv_st L i) = some (.n, pv_st L ((i + 1 : Nat) : Int)) := by
  have n6 : ((6 : Nat) : Int) = 6 := rfl
  have e1 : decide ((i : Int) < 6) = true := lt_t (by omega)
  have e3 : w64 ((i : Int) + 1) = ((i + 1 : Nat) : Int) := by rw [w64_id (by omega) (by omega)]; rfl
  have f0 : ∀ h : Hp, ixaA h 1 0 (.d (.row 2 [du, dv])) = some (.d (.rp [du, dv])) := fun h => rfl
  have f1 : ∀ h : Hp, ixaA h 1 1 (.d (.row 2 [du, dv])) = some (.d (.rp [dv])) := fun h => rfl
  have l0 : ∀ h : Hp, loadA h none (.d (.rp [du, dv])) = some (.d du) := fun h => rfl
  have l1 : ∀ h : Hp, loadA h none (.d (.rp [dv])) = some (.d dv) := fun h => rfl
  have hBB : BB = 1000000000 := rfl
  have su := Hu.sz
  have sv := Hv.sz
  have Hd := Hu.de (by omega)
  have sd := Hd.sz
  have nd := len_de u
  obtain ⟨A1, A2, A3⟩ := pd_div Hu nu Hv tv
  obtain ⟨B1, B2, B3⟩ := pd_gcd Hu nu tu (Hv.mono (by omega) (by omega)) nv tv
  obtain ⟨C1, C2, C3⟩ := pd_free Hu nu tu
  obtain ⟨D1, D2, D3⟩ := pd_fdiv Hu nu tu
  have nq := quoP_len u v
  have nr := remP_len u v
  have ng := gcd_len u v 11 nu (by omega)
  have ng2 := gcd_len u (deP u) 11 nu (by omega)
  have nq2 := quoP_len u (gcdP u (deP u))
  have tg : Trm (gcdP u (deP u)) := trm_gc _ _ _ (trm_mn _) (trm_mn _)
  have hm1 : dvN u v ≤ 12 := by unfold dvN; omega
  have hm2 : dvN u (gcdP u (deP u)) ≤ 12 := by unfold dvN; omega
  obtain ⟨d1, d2, t1, t2, g1⟩ := Div_spec_P hu hv (by omega) (by omega) (K := 1000) (sv.mono (by omega)) (by omega) (by omega) A1
  obtain ⟨d3, d4, t3, t4, g2⟩ := r6Div_spec hu hv tu tv (by omega) Hv (K := 1000) (sv.mono (by omega)) (by omega) (by omega) (by omega) (by omega) A1
  have s1 := s6_refl t1 t3 (A3.sz.mono (by omega)) (by omega)
  have s2 := s6_refl t2 t4 (A2.sz.mono (by omega)) (by omega)
  obtain ⟨d5, t5, g3⟩ := Gcd_spec_P hu hv (by omega) (by omega) (K := 1000000) (by omega) (by omega) (su.mono (by omega)) (sv.mono (by omega)) B1
  obtain ⟨d6, t6, g4⟩ := r6Gcd_spec hu hv (by omega) (by omega) (K := 1000000) (by omega) (by omega) (su.mono (by omega)) (sv.mono (by omega)) B1 B2
  have s3 := s6_refl t5 t6 (B3.sz.mono (by omega)) (by omega)
  have C1' : gcG 100000000 ((deP u).length + 1) (mnP u) (mnP (deP u)) := gcG_mono (by omega) _ _ _ C1
  have C2' : gcH 100000000 ((deP u).length + 1) (mnP u) (mnP (deP u)) := gcH_mono (by omega) _ _ _ C2
  obtain ⟨d7, t7, g5⟩ := Free_spec_P hu (by omega) (K := 100000000) (by omega) (by omega) (su.mono (by omega)) (sd.mono (by omega)) C1' (by omega) (C3.sz.mono (by omega)) D1 D3
  obtain ⟨d8, t8, g6⟩ := r6Free_spec hu tu tg (by omega) (K := 100000000) (by omega) (by omega) (su.mono (by omega)) (sd.mono (by omega)) C1' C2' (C3.mono (by omega) (by omega)) (C3.sz.mono (by omega)) D1 D3
  have tq : Trm (quoP u (gcdP u (deP u))) := by
    unfold quoP; split
    · exact trm_nil
    · exact trm_trim _
  have nf := mnP_len (quoP u (gcdP u (deP u)))
  have s4 := s6_refl t7 t8 ((mn_HL D2 tq).sz.mono (by omega)) (by unfold frP; omega)
  clear A1 A2 A3 B1 B2 B3 C1 C2 C3 D1 D2 D3 C1' C2' su sv Hd sd nd nq nr ng ng2 nq2 tg hm1 hm2 tq nf t1 t2 t3 t4 t5 t6 t7 t8 Hu Hv hu hv tu tv nu nv hBB
  simp only [iv, bv] at s1 s2 s3 s4
  simp -implicitDefEqProofs (maxSteps := 10000000) only [gantrylaw06_PolyDivides_l0, pv_st, hx, hy, hL, n6, f0, f1, l0, l1, e1, e3, g1, g2, s1, s2, g3, g4, s3, g5, g6, s4, go_sem, stcells, ldcells, iv, bv, reduceCtorEq, ↓reduceIte, Nat.reduceEqDiff]
theorem pv_stop {L : D} (hL : lenA (.d L) = some 6) : X G gantrylaw06_PolyDivides_l0 (pv_st L ((6 : Nat) : Int)) = some (.x 0, mkS [] []) := by
  have n5 : ((6 : Nat) : Int) = 6 := rfl
  have e1 : decide ((6 : Int) < 6) = false := rfl
  simp -implicitDefEqProofs (maxSteps := 10000000) only [gantrylaw06_PolyDivides_l0, pv_st, hL, n5, e1, go_sem, stcells, ldcells, iv, bv, reduceCtorEq, ↓reduceIte, Nat.reduceEqDiff]
end Go.AM
namespace Go.Proofs.YthhdbchmjfdgmaaGreat.Pure
open Go Go.AM
theorem PolyDivides (e0 : D) (l0 : List Int) (hd0 : Dg e0 l0) (hwf0 : ∀ n ∈ l0, (Lit.int .i64 n).wf = true) (hlen0 : l0.length * 8 ≤ 140737488351232) (e1 : D) (l1 : List Int) (hd1 : Dg e1 l1) (hwf1 : ∀ n ∈ l1, (Lit.int .i64 n).wf = true) (hlen1 : l1.length * 8 ≤ 140737488351232) : callX G 3 [e0, e1] = some (.d (bv true)) := by
  obtain ⟨dp, p, hp, tp, Hp, np, gp⟩ := Poly_spec (rw_dg hd0) (fun n hn => i64_wf (hwf0 n hn))
  obtain ⟨dq, q, hq, tq, Hq, nq, gq⟩ := Poly_spec (rw_dg hd1) (fun n hn => i64_wf (hwf1 n hn))
  have hBB : BB = 1000000000 := rfl
  obtain ⟨dm, hm, gm⟩ := r6Mul_spec hp hq Hp Hq (by omega) (by omega) (by omega) (by omega)
  have Hm := Hp.mu Hq (by omega)
  have nm := len_mu p q
  obtain ⟨dd, hd, gd⟩ := r6Derive_spec hp (Hp.sz.mono (show max 10 16 + 1 ≤ 100 by decide)) (by omega) (by omega) (by omega)
  have Hd := Hp.de (by omega)
  have nd := len_de p
  have Hn : HL 10 16 [] := HL.nil _ _
  obtain ⟨L, hLd⟩ : ∃ L, D.row 6 [.row 2 [dp, dq], .row 2 [dq, dp], .row 2 [dm, dq], .row 2 [dp, .z true], .row 2 [.z true, dq], .row 2 [dp, dd]] = L := ⟨_, rfl⟩
  have hL5 : lenA (.d L) = some 6 := by rw [← hLd]; rfl
  have s0 := pv_go (L := L) (i := 0) (by omega) (fun hp => by rw [← hLd]; rfl) (fun hp => rfl) hL5 hp (Hp.mono (by omega) (by omega)) (by omega) tp hq (Hq.mono (by omega) (by omega)) nq tq
  have s1 := pv_go (L := L) (i := 1) (by omega) (fun hp => by rw [← hLd]; rfl) (fun hp => rfl) hL5 hq (Hq.mono (by omega) (by omega)) (by omega) tq hp (Hp.mono (by omega) (by omega)) np tp
  have s2 := pv_go (L := L) (i := 2) (by omega) (fun hp => by rw [← hLd]; rfl) (fun hp => rfl) hL5 hm (Hm.mono (by omega) (by omega)) (by omega) (trm_mu _ _) hq (Hq.mono (by omega) (by omega)) nq tq
  have s3 := pv_go (L := L) (i := 3) (by omega) (fun hp => by rw [← hLd]; rfl) (fun hp => rfl) hL5 hp (Hp.mono (by omega) (by omega)) (by omega) tp RwR.nil (Hn.mono (by omega) (by omega)) (by simp) trm_nil
  have s4 := pv_go (L := L) (i := 4) (by omega) (fun hp => by rw [← hLd]; rfl) (fun hp => rfl) hL5 RwR.nil (Hn.mono (by omega) (by omega)) (by simp) trm_nil hq (Hq.mono (by omega) (by omega)) nq tq
  have s5 := pv_go (L := L) (i := 5) (by omega) (fun hp => by rw [← hLd]; rfl) (fun hp => rfl) hL5 hp (Hp.mono (by omega) (by omega)) (by omega) tp hd (Hd.mono (by omega) (by omega)) (by omega) (trm_de _)
  have hl : X G (.loop gantrylaw06_PolyDivides_l0) (pv_st L ((0 : Nat) : Int)) = some (.x 0, mkS [] []) := by
    rw [X_loop, s0, Option.bind_some, if_pos rfl, X_loop, s1, Option.bind_some, if_pos rfl, X_loop, s2, Option.bind_some, if_pos rfl, X_loop, s3, Option.bind_some, if_pos rfl, X_loop, s4, Option.bind_some, if_pos rfl, X_loop, s5, Option.bind_some, if_pos rfl, X_loop, pv_stop hL5]
    rfl
  have k10 := lives_spec
  have z0 : ((0 : Nat) : Int) = 0 := rfl
  rw [z0, ← hLd] at hl
  have c1 : dcells (.d dp) = some [dp] := by rcases hp with ⟨rfl, _⟩ | rfl <;> rfl
  have c2 : dcells (.d dq) = some [dq] := by rcases hq with ⟨rfl, _⟩ | rfl <;> rfl
  have c3 : dcells (.d dm) = some [dm] := by rcases hm with ⟨rfl, _⟩ | rfl <;> rfl
  have c4 : dcells (.d dd) = some [dd] := by rcases hd with ⟨rfl, _⟩ | rfl <;> rfl
  rw [callX_eq (cf := gantrylaw06_PolyDivides) rfl]
  clear s0 s1 s2 s3 s4 s5 hLd hL5 Hp Hq Hm Hd Hn nm nd hBB
  simp only [iv, bv] at k10
  simp only [pv_st, go_sem] at hl
  simp -implicitDefEqProofs (maxSteps := 10000000) only [gantrylaw06_PolyDivides, gp, gq, gm, gd, hl, c1, c2, c3, c4, rep2z, rep6z, k10, go_sem, stcells, ldcells, iv, bv, reduceCtorEq, ↓reduceIte, Nat.reduceEqDiff]
end Go.Proofs.YthhdbchmjfdgmaaGreat.Pure

/- The row of PolyDivides, out of its Pure. Printed by row.py. -/
namespace Go.Proofs.YthhdbchmjfdgmaaGreat.polyDivides
open Go.ChangeShapes Go.WideShapes Go.ChangeAt Go.RowKit Go.AM
theorem own : ownKnob Tryz.prog.godebug = none := by kernel_rfl
theorem laidOut : laidOutB Tryz.prog = true := by kernel_rfl
set_option maxRecDepth 100000 in
theorem lifted (os : Os) (started : os.Started) (H : Type) (enc : TypeId × Value → H) :
    ReturnsInHanded {} Tryz.checked os 3 .any (Rows.polyDividesSpec.pre6 enc Tryz.prog Tryz.f3 Rows.polyDividesRow.domain false) (Rows.polyDividesSpec.post enc Tryz.prog Tryz.f3 false true false false) := by
  refine returnsInHanded_of_change_sized (C := Tryz.checked) own started (by kernel_rfl) Tryz.func3
    (ChangeSpec.witness6 (enc := enc) (C := Tryz.checked) false ⟨#[], #[.slice none 0 0, .slice none 0 0], []⟩ 8 (by kernel_rfl) (by kernel_rfl) (by kernel_rfl) (by kernel_rfl)) ?_
  intro W base args ds gs before hval0 hW hcnd hsz0 _
  have hsz : (DataW.weightsEach Tryz.prog (Tryz.f3.params.toList ++ Rows.polyDividesSpec.plain.varTypes Tryz.prog) (ds ++ gs)).all (· ≤ reachBytes) = true := hsz0
  have hval : ∀ (j : Nat) t v, Tryz.f3.params[j]? = some t → args[j]? = some v → Value.okWide Tryz.prog W .any base t v := hval0
  have hW' := hW
  obtain ⟨p, q, hA0, hV, rfl, hfz, hnd⟩ := hW
  have hA : DataW.TrodAll enc Tryz.prog W 0 (fun _ => true) true Tryz.f3.params.toList args.toList ds p := hA0
  rw [Tryz.params3] at hA hval hsz
  obtain ⟨v0, vs0, d0, ds0, p0, q0, hargs, rfl, rfl, h0, r0⟩ := trodAll_cons hA
  obtain ⟨v1, vs1, d1, ds1, p1, q1, rfl, rfl, rfl, h1, r1⟩ := trodAll_cons r0
  obtain ⟨rfl, rfl, rfl⟩ := trodAll_nil r1
  obtain rfl : args = #[v0, v1] := by cases args; simp_all
  obtain ⟨rfl, rfl⟩ := trodVars_none hV
  obtain ⟨a0, len0, cap0, rfl⟩ := okWide_slice Tryz.underlying22 (hval 0 22 v0 rfl rfl)
  have k0 := h0
  have lt0 : ∀ x ∈ p0, x.block < W.heap.size := by obtain ⟨m, hm⟩ := k0; exact DataW.trod_lt m _ _ _ hm
  obtain ⟨z0, w0, y0⟩ : ∃ zs, ((a0 = none ∧ len0 = 0 ∧ cap0 = 0 ∧ zs = []) ∨ ∃ x, a0 = some x ∧ len0 ≤ cap0 ∧ cap0 ≤ maxLen ∧ zs.length = cap0 ∧ (∀ i, i < zs.length → W.cell? (x.add i) = some (.int .i64 (zs.getD i 0))) ∧ ∀ n ∈ zs, (Lit.int .i64 n).wf = true) ∧ len0 * 8 ≤ 140737488351232 := by
    obtain ⟨fuel, hf⟩ := h0
    rcases open_ints Tryz.underlying22 Tryz.underlying3 (by kernel_rfl) hf with ⟨hcs, _⟩ | ⟨x, l, c, zs, hcs, _, hl, hm, hz, hx, hcell, hwz⟩
    · simp [Value.cells] at hcs
      obtain ⟨rfl, rfl, rfl⟩ := hcs
      exact ⟨[], .inl ⟨rfl, rfl, rfl, rfl⟩, by simp⟩
    · simp [Value.cells] at hcs
      obtain ⟨rfl, rfl, rfl⟩ := hcs
      refine ⟨zs, .inr ⟨_, rfl, hl, hm, by simpa using hz, hcell, hwz⟩, ?_⟩
      simp only [Prod.mk.injEq] at hx
      have hd := hx.1
      have z := sized_slice hsz (j := 0) (t := 22) rfl (by rw [hd]; rfl) Tryz.underlying22
      have hb : Tryz.prog.bytesOf 3 = 8 := by kernel_rfl
      rw [hb] at z
      have hr : reachBytes ≤ 140737488351232 := by decide
      have hz' : zs.length = cap0 := by simpa using hz
      simp only [lits, List.length_map, List.length_take, List.length_drop] at z
      omega
  obtain ⟨e0, l0, hd0, hrep0, hlen0, hwf0⟩ := arg_row w0
  obtain ⟨a1, len1, cap1, rfl⟩ := okWide_slice Tryz.underlying22 (hval 1 22 v1 rfl rfl)
  have k1 := h1
  have lt1 : ∀ x ∈ p1, x.block < W.heap.size := by obtain ⟨m, hm⟩ := k1; exact DataW.trod_lt m _ _ _ hm
  obtain ⟨z1, w1, y1⟩ : ∃ zs, ((a1 = none ∧ len1 = 0 ∧ cap1 = 0 ∧ zs = []) ∨ ∃ x, a1 = some x ∧ len1 ≤ cap1 ∧ cap1 ≤ maxLen ∧ zs.length = cap1 ∧ (∀ i, i < zs.length → W.cell? (x.add i) = some (.int .i64 (zs.getD i 0))) ∧ ∀ n ∈ zs, (Lit.int .i64 n).wf = true) ∧ len1 * 8 ≤ 140737488351232 := by
    obtain ⟨fuel, hf⟩ := h1
    rcases open_ints Tryz.underlying22 Tryz.underlying3 (by kernel_rfl) hf with ⟨hcs, _⟩ | ⟨x, l, c, zs, hcs, _, hl, hm, hz, hx, hcell, hwz⟩
    · simp [Value.cells] at hcs
      obtain ⟨rfl, rfl, rfl⟩ := hcs
      exact ⟨[], .inl ⟨rfl, rfl, rfl, rfl⟩, by simp⟩
    · simp [Value.cells] at hcs
      obtain ⟨rfl, rfl, rfl⟩ := hcs
      refine ⟨zs, .inr ⟨_, rfl, hl, hm, by simpa using hz, hcell, hwz⟩, ?_⟩
      simp only [Prod.mk.injEq] at hx
      have hd := hx.1
      have z := sized_slice hsz (j := 1) (t := 22) rfl (by rw [hd]; rfl) Tryz.underlying22
      have hb : Tryz.prog.bytesOf 3 = 8 := by kernel_rfl
      rw [hb] at z
      have hr : reachBytes ≤ 140737488351232 := by decide
      have hz' : zs.length = cap1 := by simpa using hz
      simp only [lits, List.length_map, List.length_take, List.length_drop] at z
      omega
  obtain ⟨e1, l1, hd1, hrep1, hlen1, hwf1⟩ := arg_row w1
  clear hA0 hval0 hsz0 hsz
  refine (law_walk envP (f := 3) (ds := [e0, e1]) (vs := [.slice a0 len0 cap0, .slice a1 len1 cap1]) (w := W) (RepL.cons _ _ _ _ hrep0 (RepL.cons _ _ _ _ hrep1 RepL.nil)) (Pure.PolyDivides e0 l0 hd0 hwf0 (by rw [hlen0]; exact y0) e1 l1 hd1 hwf1 (by rw [hlen1]; exact y1))).mono fun e W' ⟨he, bel⟩ => ?_
  subst he
  exact ⟨_, rfl, _, _, _, [], _, [], hW', trodAll_mk1 (shut_bool Tryz.underlying4 _), (trodAll_cons_mk (Below.trod laidOut (by kernel_rfl) (of_decide_eq_true (by kernel_rfl)) k0 bel lt0) (trodAll_cons_mk (Below.trod laidOut (by kernel_rfl) (of_decide_eq_true (by kernel_rfl)) k1 bel lt1) trodAll_mk0)), rfl, bel.frame _, fun h => by cases h⟩
theorem over : Rows.polyDividesRow.holds Tryz.pinned (OpenSpec.ofChange Rows.polyDividesSpec) :=
  OpenClaim.holds_of_wide 3 Tryz.f3 rfl rfl rfl rfl rfl rfl rfl ⟨rfl, rfl, rfl, rfl, rfl⟩ rfl rfl rfl rfl rfl (by kernel_rfl) Tryz.func3 (by kernel_rfl)
    (of_decide_eq_true (by kernel_rfl)) (by unfold Func.isWrapper; first | (rw [if_pos (by decide +kernel)]; kernel_rfl) | (rw [if_neg (by decide +kernel)]; exact ⟨rfl, rfl⟩))
    (fun os started H enc _ => lifted os started H enc)
theorem proved : Rows.PolyDividesSaid := over
end Go.Proofs.YthhdbchmjfdgmaaGreat.polyDivides
namespace Go.Proofs.YthhdbchmjfdgmaaGreat
theorem polyDivides_holds : Rows.PolyDividesSaid := polyDivides.proved
end Go.Proofs.YthhdbchmjfdgmaaGreat


