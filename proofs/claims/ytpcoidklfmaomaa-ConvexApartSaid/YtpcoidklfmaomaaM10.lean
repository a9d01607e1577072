/- Part 10 of the proof: a small machine, its soundness against the model, and what the program's functions compute on it. -/
import Derived.Test.YtpcoidklfmaomaaM9
import Derived.Test.YtpcoidklfmaomaaM6
import Derived.KernelRfl
set_option linter.unusedVariables false
set_option linter.unusedSimpArgs false
/- convex: Area, Valid; searching rows of points. -/
namespace Go.AM
open Go Go.RowKit

def fiQ (p : Pt → Bool) (O : List Pt) : Nat → Nat → Int
  | 0, _ => -1
  | j + 1, i => if p (O.getD i default) then (i : Int) else fiQ p O j (i + 1)
theorem fiQ_any (p : Pt → Bool) (O : List Pt) : ∀ j i : Nat, i + j = O.length → (decide (fiQ p O j i ≥ 0) = (O.drop i).any p)
  | 0, i, h => by rw [List.drop_eq_nil_of_le (by omega)]; rfl
  | j + 1, i, h => by
    have hi : i < O.length := by omega
    rw [drop_getD hi, List.any_cons, fiQ]
    cases hp : p (O.getD i default) with
    | true => simp
    | false => simp only [Bool.false_eq_true, if_false, Bool.false_or]; exact fiQ_any p O j (i + 1) (by omega)

def arN (l : List Pt) : Nat → Int
  | 0 => 0
  | i + 1 => arN l i + crI (l.getD 0 default) (l.getD i default) (nxP l i)
theorem crI_b {a b c : Pt} (ha : SmP a) (hb : SmP b) (hc : SmP c) : -80000000000000000 ≤ crI a b c ∧ crI a b c ≤ 80000000000000000 := by
  obtain ⟨h1, h2⟩ := ha
  obtain ⟨h3, h4⟩ := hb
  obtain ⟨h5, h6⟩ := hc
  simp only [Sm] at h1 h2 h3 h4 h5 h6
  have bb : ∀ u v : Int, -200000000 ≤ u ∧ u ≤ 200000000 → -200000000 ≤ v ∧ v ≤ 200000000 → -40000000000000000 ≤ u * v ∧ u * v ≤ 40000000000000000 := by
    intro u v hu hv
    have h1 : (u * v).natAbs ≤ 200000000 * 200000000 := by
      rw [Int.natAbs_mul]
      exact Nat.mul_le_mul (by omega) (by omega)
    omega
  have m1 := bb (b.1 - a.1) (c.2 - a.2) (by omega) (by omega)
  have m2 := bb (b.2 - a.2) (c.1 - a.1) (by omega) (by omega)
  unfold crI
  omega
theorem nxP_sm {l : List Pt} (hl : ∀ p ∈ l, SmP p) (i : Nat) : SmP (nxP l i) := by unfold nxP; split <;> exact getD_all hl smP0 _
theorem arN_b {l : List Pt} (hl : ∀ p ∈ l, SmP p) : ∀ i : Nat, -80000000000000000 * (i : Int) ≤ arN l i ∧ arN l i ≤ 80000000000000000 * (i : Int)
  | 0 => by simp [arN]
  | i + 1 => by
    have ih := arN_b hl i
    have := crI_b (getD_all hl smP0 0) (getD_all hl smP0 i) (nxP_sm hl i)
    rw [arN]
    omega
/-- Each other corner is on the left. -/
def cvB (l : List Pt) : Bool := (List.range l.length).all fun i => (List.range l.length).all fun k => k == i || k == (i + 1) % l.length || decide (0 < crI (l.getD i default) (nxP l i) (l.getD k default))
theorem cvB_at {l : List Pt} (h : cvB l = true) {i k : Nat} (hi : i < l.length) (hk : k < l.length) (h1 : k ≠ i) (h2 : k ≠ (i + 1) % l.length) : 0 < crI (l.getD i default) (nxP l i) (l.getD k default) := by
  unfold cvB at h
  rw [List.all_eq_true] at h
  have h3 := h i (List.mem_range.2 hi)
  rw [List.all_eq_true] at h3
  have h4 := h3 k (List.mem_range.2 hk)
  simp only [Bool.or_eq_true, beq_iff_eq, decide_eq_true_eq] at h4
  rcases h4 with (h4 | h4) | h4
  · exact absurd h4 h1
  · exact absurd h4 h2
  · exact h4
structure Lim (l : List Pt) : Prop where
  cv : cvB l = true
  lo : 3 ≤ l.length
  hi : l.length ≤ 8
  bd : ∀ p ∈ l, (-1048576 ≤ p.1 ∧ p.1 ≤ 1048576) ∧ (-1048576 ≤ p.2 ∧ p.2 ≤ 1048576)
def ar_st (d : D) (s n i : Int) : St := mkS [(0, .d d), (3, ai s), (6, ai n), (7, ai i)] []
def ar_en (s : Int) : St := mkS [(3, ai s)] []
def vl0_st (d : D) (i n j m k : Int) : St := mkS [(0, .d d), (4, ai i), (20, ai n), (21, ai j), (38, ai m), (39, ai k)] []
def vl0_en (d : D) (n j : Int) : St := mkS [(0, .d d), (20, ai n), (21, ai j)] []
def vl1_st (d : D) (n j : Int) : St := mkS [(0, .d d), (20, ai n), (21, ai j)] []
variable [Its]
/-! ### Searching -/
section
variable {d : D} {O : List Pt} {f : Nat} {caps : List D} {p : Pt → Bool}
def ixQ_st (d : D) (f : Nat) (caps : List D) (n i : Int) : St := mkS [(0, .d d), (1, .d (.fn f caps)), (7, ai n), (8, ai i)] []
theorem ixQ_no (hr : RwE cP d O) (hn : O.length ≤ 1000000) {i : Nat} (hi : i < O.length) (hf : callX G f (encP (O.getD i default) :: caps) = some (.d (bv false))) : X G slices_IndexFunc_api_Point_api_Point_l0 (ixQ_st d f caps O.length i) = some (.n, ixQ_st d f caps O.length ((i + 1 : Nat) : Int)) := by
  have e1 : decide ((i : Int) < (O.length : Int)) = true := lt_t (by omega)
  have e2 : w64 ((i : Int) + 1) = ((i + 1 : Nat) : Int) := by rw [w64_id (by omega) (by omega)]; rfl
  have x1 := hr.ixa cP_len hi
  have x2 := fun hp => ldE cP_len hp hi
  generalize O.getD i default = e at *
  obtain ⟨a, b⟩ := e
  simp only [encP, cP, iv, bv] at hf x2
  simp -implicitDefEqProofs (maxSteps := 10000000) only [slices_IndexFunc_api_Point_api_Point_l0, ixQ_st, x1, x2, e1, e2, hf, List.cons_append, List.nil_append, go_sem, iv, bv, reduceCtorEq, ↓reduceIte, Nat.reduceEqDiff]
theorem ixQ_yes (hr : RwE cP d O) (hn : O.length ≤ 1000000) {i : Nat} (hi : i < O.length) (hf : callX G f (encP (O.getD i default) :: caps) = some (.d (bv true))) : X G slices_IndexFunc_api_Point_api_Point_l0 (ixQ_st d f caps O.length i) = some (.r, mkS [(4, ai i)] []) := by
  have e1 : decide ((i : Int) < (O.length : Int)) = true := lt_t (by omega)
  have x1 := hr.ixa cP_len hi
  have x2 := fun hp => ldE cP_len hp hi
  generalize O.getD i default = e at *
  obtain ⟨a, b⟩ := e
  simp only [encP, cP, iv, bv] at hf x2
  simp -implicitDefEqProofs (maxSteps := 10000000) only [slices_IndexFunc_api_Point_api_Point_l0, ixQ_st, x1, x2, e1, hf, List.cons_append, List.nil_append, go_sem, iv, bv, reduceCtorEq, ↓reduceIte, Nat.reduceEqDiff]
theorem ixQ_stop : X G slices_IndexFunc_api_Point_api_Point_l0 (ixQ_st d f caps O.length O.length) = some (.x 0, mkS [] []) := by
  have e1 : decide ((O.length : Int) < (O.length : Int)) = false := lt_f (by omega)
  simp -implicitDefEqProofs (maxSteps := 10000000) only [slices_IndexFunc_api_Point_api_Point_l0, ixQ_st, e1, go_sem, iv, bv, reduceCtorEq, ↓reduceIte, Nat.reduceEqDiff]
/-- The place of the first that has it, from i on; -1 if none has. -/
theorem ixQ_loop (hr : RwE cP d O) (hn : O.length ≤ 1000000) (hf : ∀ i, i < O.length → callX G f (encP (O.getD i default) :: caps) = some (.d (bv (p (O.getD i default))))) : ∀ j i : Nat, i + j = O.length →
    X G (.loop slices_IndexFunc_api_Point_api_Point_l0) (ixQ_st d f caps O.length i) = (if fiQ p O j i = -1 then some (.x 0, mkS [] []) else some (.r, mkS [(4, ai (fiQ p O j i))] []))
  | 0, i, h => by
    have : i = O.length := by omega
    subst this
    rw [X_loop, ixQ_stop]; rfl
  | j + 1, i, h => by
    have hi : i < O.length := by omega
    have hh := hf i hi
    rw [fiQ]
    cases hp : p (O.getD i default) with
    | true =>
      rw [hp] at hh
      rw [X_loop, ixQ_yes hr hn hi hh, if_pos rfl, if_neg (by omega)]; rfl
    | false =>
      rw [hp] at hh
      simp only [Bool.false_eq_true, if_false]
      rw [X_loop, ixQ_no hr hn hi hh, Option.bind_some, if_pos rfl]
      exact ixQ_loop hr hn hf j (i + 1) (by omega)
theorem IndexQ_spec (hr : RwE cP d O) (hn : O.length ≤ 1000000) (hf : ∀ i, i < O.length → callX G f (encP (O.getD i default) :: caps) = some (.d (bv (p (O.getD i default))))) : callX G n_slices_IndexFunc_api_Point_api_Point [d, .fn f caps] = some (.d (iv (fiQ p O O.length 0))) := by
  rw [callX_eq (cf := slices_IndexFunc_api_Point_api_Point) rfl]
  have ll := hr.len
  have h := ixQ_loop hr hn hf O.length 0 (by omega)
  simp only [ixQ_st, go_sem, nc0] at h
  generalize fiQ p O O.length 0 = z at *
  by_cases hz : z = -1
  · subst hz
    simp only [if_true] at h
    simp -implicitDefEqProofs (maxSteps := 10000000) only [slices_IndexFunc_api_Point_api_Point, h, ll, go_sem, iv, bv, reduceCtorEq, ↓reduceIte, Nat.reduceEqDiff]
  · rw [if_neg hz] at h
    simp -implicitDefEqProofs (maxSteps := 10000000) only [slices_IndexFunc_api_Point_api_Point, h, ll, go_sem, iv, bv, reduceCtorEq, ↓reduceIte, Nat.reduceEqDiff]
end
theorem ContQ_spec {d : D} {O : List Pt} {f : Nat} {caps : List D} {p : Pt → Bool} (hr : RwE cP d O) (hn : O.length ≤ 1000000) (hf : ∀ i, i < O.length → callX G f (encP (O.getD i default) :: caps) = some (.d (bv (p (O.getD i default))))) : callX G n_slices_ContainsFunc_api_Point_api_Point [d, .fn f caps] = some (.d (bv (O.any p))) := by
  rw [callX_eq (cf := slices_ContainsFunc_api_Point_api_Point) rfl]
  have g := IndexQ_spec hr hn hf
  have e1 := fiQ_any p O O.length 0 (by omega)
  rw [List.drop_zero] at e1
  generalize fiQ p O O.length 0 = z at *
  generalize O.any p = t at *
  simp only [iv] at g
  simp -implicitDefEqProofs (maxSteps := 10000000) only [slices_ContainsFunc_api_Point_api_Point, g, e1, go_sem, iv, bv, reduceCtorEq, ↓reduceIte, Nat.reduceEqDiff]

theorem ar_go {d : D} {l : List Pt} (hr : RwE cP d l) (hl : ∀ p ∈ l, SmP p) (hn : l.length ≤ 10) {i : Nat} (hi : i < l.length) : X G convex_Area_l0 (ar_st d (arN l i) l.length i) = some (.n, ar_st d (arN l (i + 1)) l.length ((i + 1 : Nat) : Int)) := by
  have e1 : decide ((i : Int) < (l.length : Int)) = true := lt_t (by omega)
  have e2 : w64 ((i : Int) + 1) = ((i + 1 : Nat) : Int) := by rw [w64_id (by omega) (by omega)]; rfl
  have x1 := hr.ixa cP_len hi
  have x2 := fun hp => ldE cP_len hp hi
  have x3 := hr.ixa (j := 0) cP_len (by omega)
  have x4 := fun hp => ldE (j := 0) (l := l) cP_len hp (by omega)
  have g1 := cnext_spec hr hi (by omega)
  have g2 := cross_spec (getD_all hl smP0 0) (getD_all hl smP0 i) (nxP_sm hl i)
  have b1 := arN_b hl i
  have b2 := crI_b (getD_all hl smP0 0) (getD_all hl smP0 i) (nxP_sm hl i)
  rw [arN]
  obtain ⟨z, hz⟩ : ∃ z, arN l i + crI (l.getD 0 default) (l.getD i default) (nxP l i) = z := ⟨_, rfl⟩
  have e3 : w64 (arN l i + crI (l.getD 0 default) (l.getD i default) (nxP l i)) = z := by rw [w64_id (by omega) (by omega), hz]
  rw [hz]
  generalize crI (l.getD 0 default) (l.getD i default) (nxP l i) = c at *
  generalize arN l i = s at *
  generalize nxP l i = q1 at *
  generalize l.getD i default = q2 at *
  generalize l.getD 0 default = q3 at *
  obtain ⟨a1, a2⟩ := q1
  obtain ⟨b1, b2⟩ := q2
  obtain ⟨c1, c2⟩ := q3
  simp only [nc0, List.drop_zero] at x3 x4
  simp only [encP, cP, iv] at x2 x4 g1 g2
  simp -implicitDefEqProofs (maxSteps := 10000000) only [convex_Area_l0, ar_st, x1, x2, x3, x4, g1, g2, e1, e2, e3, go_sem, iv, bv, reduceCtorEq, ↓reduceIte, Nat.reduceEqDiff]
theorem ar_stop {d : D} {l : List Pt} {s : Int} : X G convex_Area_l0 (ar_st d s l.length l.length) = some (.x 0, ar_en s) := by
  have e1 : decide ((l.length : Int) < (l.length : Int)) = false := lt_f (by omega)
  simp -implicitDefEqProofs (maxSteps := 10000000) only [convex_Area_l0, ar_st, ar_en, e1, go_sem, iv, bv, reduceCtorEq, ↓reduceIte, Nat.reduceEqDiff]
theorem ar_loop {d : D} {l : List Pt} (hr : RwE cP d l) (hl : ∀ p ∈ l, SmP p) (hn : l.length ≤ 10) : ∀ (j i : Nat), i + j = l.length → X G (.loop convex_Area_l0) (ar_st d (arN l i) l.length i) = some (.x 0, ar_en (arN l l.length))
  | 0, i, h => by
    have : i = l.length := by omega
    subst this
    rw [X_loop, ar_stop]; rfl
  | j + 1, i, h => by
    rw [X_loop, ar_go hr hl hn (by omega), Option.bind_some, if_pos rfl]
    exact ar_loop hr hl hn j (i + 1) (by omega)
theorem cArea_spec {d : D} {l : List Pt} (hr : RwE cP d l) (hl : ∀ p ∈ l, SmP p) (hn : l.length ≤ 10) : callX G n_convex_Area [d] = some (.d (iv (arN l l.length))) := by
  rw [callX_eq (cf := convex_Area) rfl]
  have ll := hr.len
  have g := ar_loop hr hl hn l.length 0 (by omega)
  have e0 : arN l 0 = 0 := rfl
  rw [e0] at g
  generalize arN l l.length = z at *
  simp only [ar_st, ar_en, nc0, go_sem] at g
  simp -implicitDefEqProofs (maxSteps := 10000000) only [convex_Area, g, ll, go_sem, iv, bv, reduceCtorEq, ↓reduceIte, Nat.reduceEqDiff]
theorem V1p_spec {p : Pt} (hb : (-1048576 ≤ p.1 ∧ p.1 ≤ 1048576) ∧ (-1048576 ≤ p.2 ∧ p.2 ≤ 1048576)) : callX G n_convex_Valid_1 [encP p] = some (.d (bv false)) := by
  rw [callX_eq (cf := convex_Valid_1) rfl]
  obtain ⟨x, y⟩ := p
  dsimp only at hb
  obtain ⟨u, hu⟩ : ∃ u, (if y < x then y else x) = u := ⟨_, rfl⟩
  obtain ⟨v, hv⟩ : ∃ u, (if y > x then y else x) = u := ⟨_, rfl⟩
  have b1 : -1048576 ≤ u := by rw [← hu]; split <;> omega
  have b2 : v ≤ 1048576 := by rw [← hv]; split <;> omega
  have e1 : decide (u < -1048576) = false := lt_f (by omega)
  have e2 : decide (v > 1048576) = false := gt_f (by omega)
  simp -implicitDefEqProofs (maxSteps := 10000000) only [convex_Valid_1, encP, cP, foldV, mnV, mxV, ld2_0, ld2_1, hu, hv, e1, e2, go_sem, iv, bv, reduceCtorEq, ↓reduceIte, Nat.reduceEqDiff]
theorem vl0_go {d : D} {l : List Pt} (hr : RwE cP d l) (hg : GdS l) (hL : Lim l) {i k : Nat} (hi : i < l.length) (hk : k < l.length) : X G convex_Valid_l0 (vl0_st d i l.length i l.length k) = some (.n, vl0_st d i l.length i l.length ((k + 1 : Nat) : Int)) := by
  have h8 := hL.hi
  have e1 : decide ((k : Int) < (l.length : Int)) = true := lt_t (by omega)
  have e2 : w64 ((k : Int) + 1) = ((k + 1 : Nat) : Int) := by rw [w64_id (by omega) (by omega)]; rfl
  have e3 : w64 ((i : Int) + 1) = ((i + 1 : Nat) : Int) := by rw [w64_id (by omega) (by omega)]; rfl
  have e4 := eqz_f (b := (l.length : Int)) (by omega)
  have e5 : (((i + 1 : Nat) : Int)).tmod (l.length : Int) = (((i + 1) % l.length : Nat) : Int) := by rw [rem_pos (by omega)]; omega
  have x1 := hr.ixa cP_len hi
  have x2 := fun hp => ldE cP_len hp hi
  have x3 := hr.ixa cP_len hk
  have x4 := fun hp => ldE cP_len hp hk
  have ll := hr.len
  have g1 := cnext_spec hr hi (by omega)
  have g2 := cross_spec (getD_all hg.sm smP0 i) (nxP_sm hg.sm i) (getD_all hg.sm smP0 k)
  have hpos : k ≠ i → k ≠ (i + 1) % l.length → 0 < crI (l.getD i default) (nxP l i) (l.getD k default) := cvB_at hL.cv hi hk
  generalize crI (l.getD i default) (nxP l i) (l.getD k default) = c at *
  generalize nxP l i = q1 at *
  generalize l.getD i default = q2 at *
  generalize l.getD k default = q3 at *
  obtain ⟨a1, a2⟩ := q1
  obtain ⟨b1, b2⟩ := q2
  obtain ⟨c1, c2⟩ := q3
  simp only [encP, cP, iv] at x2 x4 g1 g2
  by_cases h1 : k = i
  · have t1 : ((k : Int) != (i : Int)) = false := bne_f (by omega)
    simp -implicitDefEqProofs (maxSteps := 10000000) only [convex_Valid_l0, vl0_st, t1, ll, e1, e2, e3, e4, e5, go_sem, iv, bv, reduceCtorEq, ↓reduceIte, Nat.reduceEqDiff]
  · have t1 : ((k : Int) != (i : Int)) = true := bne_t (by omega)
    by_cases h2 : k = (i + 1) % l.length
    · have t2 : ((k : Int) != (((i + 1) % l.length : Nat) : Int)) = false := bne_f (by omega)
      simp -implicitDefEqProofs (maxSteps := 10000000) only [convex_Valid_l0, vl0_st, t1, t2, ll, e1, e2, e3, e4, e5, go_sem, iv, bv, reduceCtorEq, ↓reduceIte, Nat.reduceEqDiff]
    · have t2 : ((k : Int) != (((i + 1) % l.length : Nat) : Int)) = true := bne_t (by omega)
      have t3 : decide (c ≤ 0) = false := le_f (by have := hpos h1 h2; omega)
      simp -implicitDefEqProofs (maxSteps := 10000000) only [convex_Valid_l0, vl0_st, t1, t2, t3, ll, e1, e2, e3, e4, e5, x1, x2, x3, x4, g1, g2, go_sem, iv, bv, reduceCtorEq, ↓reduceIte, Nat.reduceEqDiff]
theorem vl0_stop {d : D} {n i : Int} {m : Nat} : X G convex_Valid_l0 (vl0_st d i n i m m) = some (.x 2, vl0_en d n i) := by
  have e1 : decide ((m : Int) < (m : Int)) = false := lt_f (by omega)
  simp -implicitDefEqProofs (maxSteps := 10000000) only [convex_Valid_l0, vl0_st, vl0_en, e1, go_sem, iv, bv, reduceCtorEq, ↓reduceIte, Nat.reduceEqDiff]
theorem vl0_loop {d : D} {l : List Pt} (hr : RwE cP d l) (hg : GdS l) (hL : Lim l) {i : Nat} (hi : i < l.length) : ∀ (j k : Nat), k + j = l.length → X G (.loop convex_Valid_l0) (vl0_st d i l.length i l.length k) = some (.x 2, vl0_en d l.length i)
  | 0, k, h => by
    have : k = l.length := by omega
    subst this
    rw [X_loop, vl0_stop]; rfl
  | j + 1, k, h => by
    rw [X_loop, vl0_go hr hg hL hi (by omega), Option.bind_some, if_pos rfl]
    exact vl0_loop hr hg hL hi j (k + 1) (by omega)
theorem vl1_go {d : D} {l : List Pt} (hr : RwE cP d l) (hg : GdS l) (hL : Lim l) {i : Nat} (hi : i < l.length) : X G convex_Valid_l1 (vl1_st d l.length i) = some (.n, vl1_st d l.length ((i + 1 : Nat) : Int)) := by
  have h8 := hL.hi
  have e1 : decide ((i : Int) < (l.length : Int)) = true := lt_t (by omega)
  have e2 : w64 ((i : Int) + 1) = ((i + 1 : Nat) : Int) := by rw [w64_id (by omega) (by omega)]; rfl
  have x1 := hr.ixa cP_len hi
  have x2 := fun hp => ldE cP_len hp hi
  have ll := hr.len
  have g1 := cnext_spec hr hi (by omega)
  have g2 := cNorm_spec (h := sdh l i) (getD_all hg.sm smP0 i) (nxP_sm hg.sm i) (hg.sq i hi).1 (hg.sq i hi).2
  have gl := vl0_loop hr hg hL hi l.length 0 (by omega)
  generalize nrP ((nxP l i).1 - (l.getD i default).1) ((nxP l i).2 - (l.getD i default).2) (sdh l i) = v at *
  generalize nxP l i = q1 at *
  generalize l.getD i default = q2 at *
  obtain ⟨a1, a2⟩ := q1
  obtain ⟨b1, b2⟩ := q2
  obtain ⟨v1, v2, v3⟩ := v
  simp only [encP, cP, encD, cD, iv, bv] at x2 g1 g2
  simp only [vl0_st, vl0_en, nc0, go_sem] at gl
  simp -implicitDefEqProofs (maxSteps := 10000000) only [convex_Valid_l1, vl1_st, gl, ll, e1, e2, x1, x2, g1, g2, box3s, Bool.not_true, go_sem, iv, bv, reduceCtorEq, ↓reduceIte, Nat.reduceEqDiff]
theorem vl1_stop {d : D} {m : Nat} : X G convex_Valid_l1 (vl1_st d m m) = some (.x 0, mkS [] []) := by
  have e1 : decide ((m : Int) < (m : Int)) = false := lt_f (by omega)
  simp -implicitDefEqProofs (maxSteps := 10000000) only [convex_Valid_l1, vl1_st, e1, go_sem, iv, bv, reduceCtorEq, ↓reduceIte, Nat.reduceEqDiff]
theorem vl1_loop {d : D} {l : List Pt} (hr : RwE cP d l) (hg : GdS l) (hL : Lim l) : ∀ (j i : Nat), i + j = l.length → X G (.loop convex_Valid_l1) (vl1_st d l.length i) = some (.x 0, mkS [] [])
  | 0, i, h => by
    have : i = l.length := by omega
    subst this
    rw [X_loop, vl1_stop]; rfl
  | j + 1, i, h => by
    rw [X_loop, vl1_go hr hg hL (by omega), Option.bind_some, if_pos rfl]
    exact vl1_loop hr hg hL j (i + 1) (by omega)
theorem cValid_spec {d : D} {l : List Pt} (hr : RwE cP d l) (hg : GdS l) (hL : Lim l) : callX G n_convex_Valid [d] = some (.d (bv true)) := by
  have hc := ContQ_spec (f := n_convex_Valid_1) (caps := []) (p := fun _ => false) hr (by have := hL.hi; omega) (fun i hi => V1p_spec (hL.bd _ (by rw [List.getD_eq_getElem?_getD, List.getElem?_eq_getElem hi]; exact List.getElem_mem hi)))
  rw [show l.any (fun _ => false) = false by simp] at hc
  rw [callX_eq (cf := convex_Valid) rfl]
  have h3 := hL.lo
  have h8 := hL.hi
  have ll := hr.len
  have e1 : decide ((l.length : Int) < 3) = false := lt_f (by omega)
  have e2 : decide ((l.length : Int) > 8) = false := gt_f (by omega)
  have g := vl1_loop hr hg hL l.length 0 (by omega)
  simp only [vl1_st, nc0, go_sem] at g
  simp only [bv] at hc
  simp -implicitDefEqProofs (maxSteps := 10000000) only [convex_Valid, g, hc, ll, e1, e2, go_sem, iv, bv, reduceCtorEq, ↓reduceIte, Nat.reduceEqDiff]
theorem cValid_two {d : D} {l : List Pt} (hr : RwE cP d l) (h : l.length = 2) : callX G n_convex_Valid [d] = some (.d (bv false)) := by
  rw [callX_eq (cf := convex_Valid) rfl]
  have ll := hr.len
  have e1 : decide ((l.length : Int) < 3) = true := lt_t (by omega)
  simp -implicitDefEqProofs (maxSteps := 10000000) only [convex_Valid, ll, e1, go_sem, iv, bv, reduceCtorEq, ↓reduceIte, Nat.reduceEqDiff]
end Go.AM

/- Rows of edges: their directions, each once; the same after moving and exchanging; limits of the shapes. -/
namespace Go.AM
open Go Go.RowKit

def uqD (ds : List Dr) : Nat → List Dr
  | 0 => []
  | i + 1 => if frI ds i i then uqD ds i ++ [ds.getD i default] else uqD ds i
theorem sdO_uq (a b : List Pt) (ds : List Dr) : ∀ i, sdO a b ds i = (uqD ds i).map (edP a b)
  | 0 => rfl
  | i + 1 => by
    rw [sdO, uqD, sdO_uq a b ds i]
    split
    · rw [List.map_append]; rfl
    · rfl
theorem frI_iff (ds : List Dr) (i : Nat) : ∀ k, frI ds i k = true ↔ ∀ j, j < k → ds.getD j default ≠ ds.getD i default
  | 0 => by simp [frI]
  | k + 1 => by
    rw [frI, Bool.and_eq_true, frI_iff ds i k]
    constructor
    · rintro ⟨h1, h2⟩ j hj
      by_cases h : j = k
      · subst h
        intro h3
        rw [eqDr_iff.2 h3] at h2
        cases h2
      · exact h1 j (by omega)
    · intro h
      refine ⟨fun j hj => h j (by omega), ?_⟩
      cases h3 : eqDr (ds.getD k default) (ds.getD i default) with
      | false => rfl
      | true => exact absurd (eqDr_iff.1 h3) (h k (by omega))
theorem uqD_mem (ds : List Dr) {d : Dr} : ∀ i, d ∈ uqD ds i ↔ ∃ j, j < i ∧ ds.getD j default = d
  | 0 => by simp [uqD]
  | i + 1 => by
    have ih := uqD_mem ds (d := d) i
    rw [uqD]
    constructor
    · intro h
      split at h
      · rcases List.mem_append.1 h with h | h
        · obtain ⟨j, h1, h2⟩ := ih.1 h
          exact ⟨j, by omega, h2⟩
        · rw [List.mem_singleton] at h
          exact ⟨i, by omega, h.symm⟩
      · obtain ⟨j, h1, h2⟩ := ih.1 h
        exact ⟨j, by omega, h2⟩
    · rintro ⟨j, h1, h2⟩
      by_cases hj : j = i
      · subst hj
        split
        · exact List.mem_append.2 (.inr (by rw [h2]; exact List.mem_singleton.2 rfl))
        · rename_i hf
          have : ¬ ∀ k, k < j → ds.getD k default ≠ ds.getD j default := fun hh => hf ((frI_iff ds j j).2 hh)
          have h3 : ∃ k, k < j ∧ ds.getD k default = d := by
            refine Classical.byContradiction fun hc => this fun k hk hh => hc ⟨k, hk, by rw [hh, h2]⟩
          exact ih.2 h3
      · have h3 := ih.2 ⟨j, by omega, h2⟩
        split
        · exact List.mem_append.2 (.inl h3)
        · exact h3
theorem len_inj {f : Dr → Dr} (hf : ∀ x y, f x = f y → x = y) : ∀ (l m : List Dr), l.Nodup → (∀ x ∈ l, f x ∈ m) → l.length ≤ m.length
  | [], m, _, _ => by simp
  | x :: t, m, hn, hm => by
    have hx := hm x List.mem_cons_self
    rw [List.nodup_cons] at hn
    have h1 := len_inj hf t (m.erase (f x)) hn.2 fun y hy => by
      refine (List.mem_erase_of_ne ?_).2 (hm y (List.mem_cons_of_mem _ hy))
      intro h
      exact hn.1 (hf _ _ h ▸ hy)
    rw [List.length_erase_of_mem hx] at h1
    have := List.length_pos_of_mem hx
    rw [List.length_cons]
    omega
theorem getD_mem' {l : List Dr} {i : Nat} (h : i < l.length) : l.getD i default ∈ l := by rw [List.getD_eq_getElem?_getD, List.getElem?_eq_getElem h]; exact List.getElem_mem h
theorem mem_getD' {l : List Dr} {d : Dr} (h : d ∈ l) : ∃ i, i < l.length ∧ l.getD i default = d := by
  obtain ⟨i, hi, e⟩ := List.getElem_of_mem h
  exact ⟨i, hi, by rw [List.getD_eq_getElem?_getD, List.getElem?_eq_getElem hi]; exact e⟩
def uqS (a b : List Pt) : List Dr := uqD (drs a b) (drs a b).length
theorem uqS_mem (a b : List Pt) {d : Dr} : d ∈ uqS a b ↔ d ∈ drs a b := by
  unfold uqS
  rw [uqD_mem]
  constructor
  · rintro ⟨j, h1, h2⟩
    rw [← h2]
    exact getD_mem' h1
  · intro h
    exact mem_getD' h
theorem sdP_uq (a b : List Pt) : sdP a b = (uqS a b).map (edP a b) := sdO_uq a b _ _
/-- Three sides with three directions. -/
def thr (l : List Pt) : Bool := decide (3 ≤ l.length) && !(eqDr (sdN l 0) (sdN l 1)) && !(eqDr (sdN l 0) (sdN l 2)) && !(eqDr (sdN l 1) (sdN l 2))
theorem sdP_three {a b : List Pt} (h : thr a = true) : 3 ≤ (sdP a b).length := by
  rw [sdP_uq, List.length_map]
  simp only [thr, Bool.and_eq_true, decide_eq_true_eq, Bool.not_eq_true'] at h
  obtain ⟨⟨⟨h0, h1⟩, h2⟩, h3⟩ := h
  have e1 : sdN a 0 ≠ sdN a 1 := fun e => by rw [eqDr_iff.2 e] at h1; cases h1
  have e2 : sdN a 0 ≠ sdN a 2 := fun e => by rw [eqDr_iff.2 e] at h2; cases h2
  have e3 : sdN a 1 ≠ sdN a 2 := fun e => by rw [eqDr_iff.2 e] at h3; cases h3
  have := len_inj (f := id) (fun _ _ h => h) [sdN a 0, sdN a 1, sdN a 2] (uqS a b) (by simp [e1, e2, e3]) fun x hx => by
    rw [id, uqS_mem]
    unfold drs
    refine List.mem_append.2 (.inl (List.mem_map.2 ?_))
    simp only [List.mem_cons, List.not_mem_nil, or_false] at hx
    rcases hx with rfl | rfl | rfl
    · exact ⟨0, List.mem_range.2 (by omega), rfl⟩
    · exact ⟨1, List.mem_range.2 (by omega), rfl⟩
    · exact ⟨2, List.mem_range.2 (by omega), rfl⟩
  simpa using this
/-! The base shapes -/
def chkL (l : List Pt) : Bool := cvB l && thr l && decide (l.length ≤ 8) && l.all fun p => decide (-1000 ≤ p.1 ∧ p.1 ≤ 1000) && decide (-1000 ≤ p.2 ∧ p.2 ≤ 1000)
theorem chkL_all : ((List.range 7).all fun c => (List.range 3).all fun k => (List.range 6).all fun m => chkL (spB (c : Int) (1 + (k : Int)) (1 + (m : Int)))) = true := by kernel_rfl
theorem spB_chkL {c k m : Int} (hc : 0 ≤ c ∧ c < 7) (hk : 1 ≤ k ∧ k < 4) (hm : 1 ≤ m ∧ m < 7) : chkL (spB c k m) = true := by
  have h := chkL_all
  rw [List.all_eq_true] at h
  have h1 := h c.toNat (List.mem_range.2 (by omega))
  rw [List.all_eq_true] at h1
  have h2 := h1 (k - 1).toNat (List.mem_range.2 (by omega))
  rw [List.all_eq_true] at h2
  have h3 := h2 (m - 1).toNat (List.mem_range.2 (by omega))
  rwa [show ((c.toNat : Nat) : Int) = c by omega, show 1 + (((k - 1).toNat : Nat) : Int) = k by omega, show 1 + (((m - 1).toNat : Nat) : Int) = m by omega] at h3
theorem crI_mv (x y : Int) (a b c : Pt) : crI (mvP x y a) (mvP x y b) (mvP x y c) = crI a b c := by
  unfold crI mvP
  dsimp only
  rw [show b.1 + x - (a.1 + x) = b.1 - a.1 by omega, show c.2 + y - (a.2 + y) = c.2 - a.2 by omega, show b.2 + y - (a.2 + y) = b.2 - a.2 by omega, show c.1 + x - (a.1 + x) = c.1 - a.1 by omega]
theorem cvB_mv (x y : Int) (l : List Pt) : cvB (l.map (mvP x y)) = cvB l := by
  unfold cvB
  rw [List.length_map, Bool.eq_iff_iff, List.all_eq_true, List.all_eq_true]
  constructor <;> intro h i hi
  all_goals
    have h1 := h i hi
    rw [List.all_eq_true] at *
    intro k hk
    have h2 := h1 k hk
    rw [mv_getD _ _ (List.mem_range.1 hi), mv_nx _ _ (List.mem_range.1 hi), mv_getD _ _ (List.mem_range.1 hk), crI_mv] at *
    exact h2
theorem thr_mv (x y : Int) (l : List Pt) : thr l = true → thr (l.map (mvP x y)) = true := by
  intro h
  unfold thr at *
  rw [List.length_map]
  have h0 : 3 ≤ l.length := by
    simp only [Bool.and_eq_true, decide_eq_true_eq] at h
    exact h.1.1.1
  rw [mv_sdN _ _ (by omega), mv_sdN _ _ (by omega), mv_sdN _ _ (by omega)]
  exact h
theorem lim_mv {c k m x y : Int} (hc : 0 ≤ c ∧ c < 7) (hk : 1 ≤ k ∧ k < 4) (hm : 1 ≤ m ∧ m < 7) (hx : -1000000 ≤ x ∧ x ≤ 1000000) (hy : -1000000 ≤ y ∧ y ≤ 1000000) : Lim ((spB c k m).map (mvP x y)) ∧ thr ((spB c k m).map (mvP x y)) = true := by
  have h := spB_chkL hc hk hm
  unfold chkL at h
  simp only [Bool.and_eq_true, decide_eq_true_eq] at h
  obtain ⟨⟨⟨h1, h2⟩, h3⟩, h4⟩ := h
  have h0 : 3 ≤ (spB c k m).length := by
    unfold thr at h2
    simp only [Bool.and_eq_true, decide_eq_true_eq] at h2
    exact h2.1.1.1
  refine ⟨⟨by rw [cvB_mv]; exact h1, by rw [List.length_map]; exact h0, by rw [List.length_map]; exact h3, ?_⟩, thr_mv _ _ _ h2⟩
  intro p hp
  obtain ⟨q, hq, rfl⟩ := List.mem_map.1 hp
  have := List.all_eq_true.1 h4 q hq
  simp only [Bool.and_eq_true, decide_eq_true_eq] at this
  unfold mvP
  dsimp only
  omega
theorem lim_sh (l : List Int) : Lim (spP l) ∧ thr (spP l) = true := by
  obtain ⟨h1, h2, h3, h4, h5⟩ := sh_b l
  exact lim_mv h1 h2 h3 ⟨by omega, by omega⟩ ⟨by omega, by omega⟩
/-! Moved -/
theorem moP_mv (d : Dr) (x y : Int) {l : List Pt} (h0 : 0 < l.length) : moP d (l.map (mvP x y)) = moP d l + (d.1 * x + d.2.1 * y) := by
  have hd : ∀ i, i < l.length → dotI d ((l.map (mvP x y)).getD i default) = dotI d (l.getD i default) + (d.1 * x + d.2.1 * y) := by
    intro i hi
    rw [mv_getD _ _ hi]
    unfold dotI mvP
    dsimp only
    rw [Int.mul_add, Int.mul_add]
    omega
  have hm : ∀ i, i ≤ l.length → mstN d (l.map (mvP x y)) i = mstN d l i + (d.1 * x + d.2.1 * y) := by
    intro i
    induction i with
    | zero => intro _; exact hd 0 h0
    | succ i ih =>
      intro hi
      have h1 := ih (by omega)
      have h2 := hd i (by omega)
      rw [mstN, mstN, h1, h2]
      omega
  unfold moP
  rw [List.length_map]
  exact hm _ (Nat.le_refl _)
theorem drA_mv (x y : Int) (l : List Pt) (n : Nat) (hn : n ≤ l.length) : drA (l.map (mvP x y)) n = drA l n := by
  unfold drA
  refine List.map_congr_left fun i hi => ?_
  rw [List.mem_range] at hi
  exact mv_sdN _ _ (by omega)
theorem drB_mv (x y : Int) (l : List Pt) (n : Nat) (hn : n ≤ l.length) : drB (l.map (mvP x y)) n = drB l n := by
  unfold drB
  refine List.map_congr_left fun i hi => ?_
  rw [List.mem_range] at hi
  rw [mv_sdN _ _ (by omega)]
theorem drs_mv (x y u v : Int) (a b : List Pt) : drs (a.map (mvP x y)) (b.map (mvP u v)) = drs a b := by
  unfold drs
  rw [List.length_map, List.length_map, drA_mv _ _ _ _ (Nat.le_refl _), drB_mv _ _ _ _ (Nat.le_refl _)]
def mvE (x y u v : Int) (e : Eg) : Eg := (e.1, e.2 + e.1.1 * (x - u) + e.1.2.1 * (y - v))
end Go.AM

/- law12.lives. -/
namespace Go.AM
open Go Go.RowKit
def sqL : List Pt := [(0, 0), (2, 0), (2, 2), (0, 2)]
def trL : List Pt := [(0, 0), (4, 0), (0, 3)]
theorem chk_gd {l : List Pt} (h0 : 0 < l.length) (h1 : l.length ≤ 10) (hs : ∀ p ∈ l, SmP p) (h : chkS l = true) : GdS l := by
  unfold chkS at h
  rw [List.all_eq_true] at h
  refine ⟨h0, h1, hs, fun i hi => ?_, fun i hi => ?_⟩
  all_goals
    have h1 := h i (List.mem_range.2 hi)
    simp only [Bool.and_eq_true, decide_eq_true_eq] at h1
    obtain ⟨⟨⟨⟨⟨⟨⟨h1, h2⟩, h3⟩, h4⟩, h5⟩, h6⟩, h7⟩, h8⟩ := h1
  · exact ⟨h1, h2⟩
  · exact ⟨⟨h3, h4⟩, ⟨h5, h6⟩, ⟨h7, h8⟩⟩
theorem sq_gd : GdS sqL := chk_gd (by decide) (by decide) (by
  intro p hp
  unfold sqL at hp
  simp only [List.mem_cons, List.not_mem_nil, or_false] at hp
  rcases hp with rfl | rfl | rfl | rfl <;> exact ⟨⟨by decide, by decide⟩, ⟨by decide, by decide⟩⟩) (by kernel_rfl)
theorem tr_gd : GdS trL := chk_gd (by decide) (by decide) (by
  intro p hp
  unfold trL at hp
  simp only [List.mem_cons, List.not_mem_nil, or_false] at hp
  rcases hp with rfl | rfl | rfl <;> exact ⟨⟨by decide, by decide⟩, ⟨by decide, by decide⟩⟩) (by kernel_rfl)
theorem tr_lim : Lim trL := ⟨by kernel_rfl, by decide, by decide, by
  intro p hp
  unfold trL at hp
  simp only [List.mem_cons, List.not_mem_nil, or_false] at hp
  rcases hp with rfl | rfl | rfl <;> decide⟩
theorem st8v (a b c d e f g h i j k l m n o p : A) : stcells 0 [a, b, c, d, e, f, g, h] [i, j, k, l, m, n, o, p] = some [a, b, c, d, e, f, g, h] := rfl
theorem ld8v (a b c d e f g h : D) : ldcells (some 8) 0 [.d a, .d b, .d c, .d d, .d e, .d f, .d g, .d h] = some (.d (.agg [a, b, c, d, e, f, g, h])) := rfl
theorem rep5_4 (a b c d : D) : rep 5 [a, b, c, d] = [a, b, c, d, a, b, c, d, a, b, c, d, a, b, c, d, a, b, c, d] := rfl
variable [Its]
theorem l1 : callX G n_convex_Norm [encP (4, 0), encP (0, 3)] = some (.d (.tup [encD (3, 4, 5), bv true])) := by
  have h := cNorm_spec (a := (4, 0)) (b := (0, 3)) (h := 5) ⟨⟨by decide, by decide⟩, ⟨by decide, by decide⟩⟩ ⟨⟨by decide, by decide⟩, ⟨by decide, by decide⟩⟩ (by decide) (by decide)
  rw [h]
  have e : nrP ((0, 3) : Pt).1 3 5 = nrP ((0, 3) : Pt).1 3 5 := rfl
  have e : nrP (((0, 3) : Pt).1 - ((4, 0) : Pt).1) (((0, 3) : Pt).2 - ((4, 0) : Pt).2) 5 = (3, 4, 5) := by kernel_rfl
  rw [e]
theorem l2 : callX G n_convex_Area [triD] = some (.d (iv 12)) := by
  have h := cArea_spec (d := triD) (l := trL) (.inr rfl) tr_gd.sm (by decide)
  rw [h]
  have e : arN trL trL.length = 12 := by kernel_rfl
  rw [e]
theorem l3 : callX G n_convex_Sides [sqD, triD] = some (.own 4 5 sidC) := by
  have h := cSides_spec (da := sqD) (db := triD) (a := sqL) (b := trL) (.inr rfl) (.inr rfl) sq_gd tr_gd
  rw [h]
  have e : sdP sqL trL = [((0, -1, 1), 3), ((1, 0, 1), 2), ((0, 1, 1), 2), ((-1, 0, 1), 4), ((-3, -4, 5), 12)] := by kernel_rfl
  rw [e]
  rfl
theorem l4 : callX G n_convex_Valid [triD] = some (.d (bv true)) := cValid_spec (l := trL) (.inr rfl) tr_gd tr_lim
theorem l5 : callX G n_convex_Valid [.row 2 [iv 0, iv 0, iv 2, iv 0]] = some (.d (bv false)) := cValid_two (l := [(0, 0), (2, 0)]) (.inr rfl) rfl
set_option maxHeartbeats 4000000 in
theorem lives12 : callX G n_gantrylaw12_lives [] = some (.d (bv true)) := by
  rw [callX_eq (cf := gantrylaw12_lives) rfl]
  have l1 := l1; have l2 := l2; have l3 := l3; have l4 := l4; have l5 := l5
  have p1 := lp1; have p2 := lp2; have p3 := lp3; have q1 := lq1; have q2 := lq2; have q3 := lq3; have q4 := lq4
  have x1 : ∀ h : Hp, ixaA h 2 1 (.d triD) = some (.d (.rp [iv 4, iv 0, iv 0, iv 3])) := fun _ => rfl
  have x2 : ∀ h : Hp, ixaA h 2 2 (.d triD) = some (.d (.rp [iv 0, iv 3])) := fun _ => rfl
  have x3 : ∀ h : Hp, loadA h (some 2) (.d (.rp [iv 4, iv 0, iv 0, iv 3])) = some (.d (.agg [iv 4, iv 0])) := fun _ => rfl
  have x4 : ∀ h : Hp, loadA h (some 2) (.d (.rp [iv 0, iv 3])) = some (.d (.agg [iv 0, iv 3])) := fun _ => rfl
  have c1 : ((0 : Int) ≤ 0 ∧ (0 : Int) ≤ 2 ∧ (2 : Int) ≤ ((4 : Nat) : Int)) = True := by simp
  simp only [encP, encD, cP, cD, sqD, triD, triD', sumC, sidC, n2, n32, List.cons_append, List.nil_append, iv, bv] at x1 x2 x3 x4 l1 l2 l3 l4 l5 p1 p2 p3 q1 q2 q3 q4
  simp -implicitDefEqProofs (maxSteps := 10000000) only [gantrylaw12_lives, l1, l2, l3, l4, l5, p1, p2, p3, q1, q2, q3, q4, x1, x2, x3, x4, rep4_2, rep3_2, rep5_2, rep5_4, fillB, partsB, ld3p, c1, if_true, Int.toNat_zero, Int.reduceToNat, Int.reduceSub, Nat.zero_mul, Nat.reduceMul, List.drop_zero, List.take_succ_cons, List.take_zero, oneI, eqD3, Bool.and_self, box3s, st8v, ld8v, Bool.not_true, Bool.not_false, beq_self_eq_true, List.map_cons, List.map_nil, go_sem, iv, bv, reduceCtorEq, ↓reduceIte, Nat.reduceEqDiff]
end Go.AM

/- Edges of a pair: bounds; their parts read out of a row. -/
namespace Go.AM
open Go Go.RowKit
theorem ldGd (h : Hp) {l : List Eg} {j : Nat} (h1 : j < l.length) : loadA h (some 3) (.d (.rp ((l.drop j).flatMap cG))) = some (.d (encD (l.getD j default).1)) := by
  rw [drop_getD h1, List.flatMap_cons]
  simp only [loadA, ldrow, guardO, cG, List.cons_append, List.nil_append]
  simp [encD, cD]
theorem sd_nm {a b : List Pt} (ha : GdS a) (hb : GdS b) {e : Eg} (he : e ∈ sdP a b) : NmD e.1 := by
  rw [sdP_uq] at he
  obtain ⟨d, hd, rfl⟩ := List.mem_map.1 he
  exact drs_nm ha hb d ((uqS_mem a b).1 hd)
theorem sd_at {a b : List Pt} (ha : GdS a) (hb : GdS b) {e : Eg} (he : e ∈ sdP a b) : -40000000000000000 ≤ e.2 ∧ e.2 ≤ 40000000000000000 := by
  rw [sdP_uq] at he
  obtain ⟨d, hd, rfl⟩ := List.mem_map.1 he
  have hdi := drs_nm ha hb d ((uqS_mem a b).1 hd)
  have m1 : -20000000000000000 ≤ moP d a ∧ moP d a ≤ 20000000000000000 := mstN_b hdi ha.sm _
  have m2 : -20000000000000000 ≤ moP (tnD d) b ∧ moP (tnD d) b ≤ 20000000000000000 := mstN_b hdi.tn hb.sm _
  unfold edP
  dsimp only
  omega
theorem sd_le {a b : List Pt} (ha : GdS a) (hb : GdS b) : (sdP a b).length ≤ 20 := by
  have h1 := sdO_len a b (drs a b) (drs a b).length
  have h2 := drs_len a b
  have := ha.le; have := hb.le
  unfold sdP
  omega
theorem eg_mem {l : List Eg} {i : Nat} (h : i < l.length) : l.getD i default ∈ l := by rw [List.getD_eq_getElem?_getD, List.getElem?_eq_getElem h]; exact List.getElem_mem h
end Go.AM

/- SameEdges; ref12.Area; both Box. -/
namespace Go.AM
open Go Go.RowKit
def se_st (d e : D) (i : Int) : St := mkS [(0, .d d), (1, .d e), (5, ai i)] []
def arQ (l : List Pt) : Nat → Int
  | 0 => 0
  | i + 1 => arQ l i + (l.getD i default).1 * (nxP l i).2 - (l.getD i default).2 * (nxP l i).1
def ra_st (d : D) (s i : Int) : St := mkS [(0, .d d), (3, ai s), (4, ai i)] []
def ptM (l : List Pt) (i : Nat) : Pt := if i < l.length then l.getD i default else l.getD 0 default
def mnI (a b : Int) : Int := if b < a then b else a
def mxI (a b : Int) : Int := if b > a then b else a
def bxL (l : List Pt) : Nat → Pt
  | 0 => l.getD 0 default
  | i + 1 => (mnI (bxL l i).1 (l.getD i default).1, mnI (bxL l i).2 (l.getD i default).2)
def bxH (l : List Pt) : Nat → Pt
  | 0 => l.getD 0 default
  | i + 1 => (mxI (bxH l i).1 (l.getD i default).1, mxI (bxH l i).2 (l.getD i default).2)
def bxP (x y : Int) : Obj := ⟨0, 0, [.d (iv x), .d (iv y)], false⟩
def cb_st (d : D) (a b e f n i : Int) : St := mkS [(2, .ptr [2] 0), (3, .ptr [3] 0), (4, .ptr [4] 0), (5, .ptr [5] 0), (14, .d d), (15, ai n), (16, ai i)] [([2], bxP 0 0), ([3], bxP 0 0), ([4], bxP a b), ([5], bxP e f)]
def cb_en (a b e f : Int) : St := mkS [(2, .ptr [2] 0), (3, .ptr [3] 0), (4, .ptr [4] 0), (5, .ptr [5] 0)] [([2], bxP 0 0), ([3], bxP 0 0), ([4], bxP a b), ([5], bxP e f)]
def bxr_st (d : D) (a b e f i : Int) : St := mkS [(0, .d d), (2, .ptr [2] 0), (3, .ptr [3] 0), (4, .ptr [4] 0), (5, .ptr [5] 0), (6, ai i)] [([2], bxP 0 0), ([3], bxP 0 0), ([4], bxP a b), ([5], bxP e f)]
variable [Its]
end Go.AM

/- Vectors of ch. 12; Has of both. Printed by mkcxv.py (out of CvD). -/
namespace Go.AM
open Go Go.RowKit
abbrev Vc := Rat × Rat
def encV (v : Vc) : D := .agg [.v (.bool (decide (v.1.num < 0))), dg (digs v.1.num.natAbs), .v (.bool false), dg (dd v.1.den), .v (.bool (decide (v.2.num < 0))), dg (digs v.2.num.natAbs), .v (.bool false), dg (dd v.2.den)]
def vcA (n : Int) : Int := arnd n 96 % 24 * 2 - 24 + arnd n 96 / 72
def vcB (n : Int) : Int := 2 + arnd n 96 / 48 % 2
def vcR (n : Int) : Rat := Rat.divInt (vcA n) (vcB n)
def dotR (d : Dr) (v : Vc) : Rat := (d.1 : Rat) * v.1 + (d.2.1 : Rat) * v.2
def SzV (K : Nat) (v : Vc) : Prop := sz v.1 ≤ K ∧ sz v.2 ≤ K
theorem SzV.mono {K L : Nat} {v : Vc} (h : SzV K v) (hk : K ≤ L) : SzV L v := ⟨Nat.le_trans h.1 hk, Nat.le_trans h.2 hk⟩
theorem NmD.i1 {d : Dr} (h : NmD d) : I64 d.1 := ⟨by have := h.1; omega, by have := h.1; omega⟩
theorem NmD.i2 {d : Dr} (h : NmD d) : I64 d.2.1 := ⟨by have := h.2.1; omega, by have := h.2.1; omega⟩
theorem NmD.i3 {d : Dr} (h : NmD d) : I64 d.2.2 := ⟨by have := h.2.2; omega, by have := h.2.2; omega⟩
theorem i64_1 : I64 1 := ⟨by omega, by omega⟩
theorem dotR_sz {d : Dr} {v : Vc} {K : Nat} (hd : NmD d) (hv : SzV K v) : sz (dotR d v) ≤ 2 * K + 7 := by
  have h1 := sz_int hd.i1
  have h2 := sz_int hd.i2
  have h3 := sz_mul (a := (d.1 : Rat)) (b := v.1)
  have h4 := sz_mul (a := (d.2.1 : Rat)) (b := v.2)
  have h5 := sz_add (a := (d.1 : Rat) * v.1) (b := (d.2.1 : Rat) * v.2)
  have := hv.1
  have := hv.2
  unfold dotR
  omega
theorem vc_b (n : Int) : (-24 ≤ vcA n ∧ vcA n ≤ 24) ∧ (2 ≤ vcB n ∧ vcB n ≤ 3) := by
  have h := arnd_b (n := n) (m := 96) (by omega)
  unfold vcA vcB
  omega
theorem vcR_sz (n : Int) : sz (vcR n) ≤ 3 := by
  have h := vc_b n
  exact sz_of ⟨by omega, by omega⟩ ⟨by omega, by omega⟩
theorem vcV_sz (x y : Int) : SzV 3 (vcR x, vcR y) := ⟨vcR_sz x, vcR_sz y⟩
theorem st8 (a b c d e f g h i j k l m n o p : A) : stcells 0 [a, b, c, d, e, f, g, h] [i, j, k, l, m, n, o, p] = some [a, b, c, d, e, f, g, h] := rfl
theorem ld8 (a b c d e f g h : D) : ldcells (some 8) 0 [.d a, .d b, .d c, .d d, .d e, .d f, .d g, .d h] = some (.d (.agg [a, b, c, d, e, f, g, h])) := rfl
theorem ld80 (a b c d e f g h : D) : ldcells (some 4) 0 [.d a, .d b, .d c, .d d, .d e, .d f, .d g, .d h] = some (.d (.agg [a, b, c, d])) := rfl
theorem ld84 (a b c d e f g h : D) : ldcells (some 4) 4 [.d a, .d b, .d c, .d d, .d e, .d f, .d g, .d h] = some (.d (.agg [e, f, g, h])) := rfl
theorem st4' (a b c d i j k l : A) : stcells 0 [a, b, c, d] [i, j, k, l] = some [a, b, c, d] := rfl
theorem ld3_0 (a b c : D) : ldcells none 0 [.d a, .d b, .d c] = some (.d a) := rfl
theorem ld3_1 (a b c : D) : ldcells none 1 [.d a, .d b, .d c] = some (.d b) := rfl
theorem ld4_4 (a b c d : D) : ldcells (some 4) 0 [.d a, .d b, .d c, .d d] = some (.d (.agg [a, b, c, d])) := rfl
def hsA (l : List Pt) (v : Vc) (i : Nat) : Rat := (((nxP l i).1 - (l.getD i default).1 : Int) : Rat) * (v.2 - (((l.getD i default).2 : Int) : Rat))
def hsB (l : List Pt) (v : Vc) (i : Nat) : Rat := (((nxP l i).2 - (l.getD i default).2 : Int) : Rat) * (v.1 - (((l.getD i default).1 : Int) : Rat))
def hsF (l : List Pt) (v : Vc) : Nat → Nat → Bool
  | 0, _ => true
  | j + 1, i => if decide (hsA l v i < hsB l v i) then false else hsF l v j (i + 1)
def hsP (l : List Pt) (v : Vc) : Bool := hsF l v l.length 0
theorem hsF_at {l : List Pt} {v : Vc} : ∀ (j i : Nat), hsF l v j i = true → ∀ k, i ≤ k → k < i + j → hsB l v k ≤ hsA l v k
  | 0, i, h, k, h1, h2 => by omega
  | j + 1, i, h, k, h1, h2 => by
    rw [hsF] at h
    split at h
    · cases h
    · rename_i hh
      by_cases hk : k = i
      · subst hk
        rw [decide_eq_true_eq] at hh
        exact Rat.not_lt.1 hh
      · exact hsF_at j (i + 1) h k (by omega) (by omega)
theorem hsP_at {l : List Pt} {v : Vc} (h : hsP l v = true) {k : Nat} (hk : k < l.length) : hsB l v k ≤ hsA l v k := hsF_at _ _ h k (Nat.zero_le _) (by omega)
def bxW (v : Vc) : Obj := ⟨0, 0, [.d (.v (.bool (decide (v.1.num < 0)))), .d (dg (digs v.1.num.natAbs)), .d (.v (.bool false)), .d (dg (dd v.1.den)), .d (.v (.bool (decide (v.2.num < 0)))), .d (dg (digs v.2.num.natAbs)), .d (.v (.bool false)), .d (dg (dd v.2.den))], false⟩
def hc_st (d : D) (v : Vc) (n i : Int) : St := mkS [(0, .d d), (3, .ptr [3] 0), (11, ai n), (12, ai i)] [([3], bxW v)]
def hr_st (d : D) (v : Vc) (i : Int) : St := mkS [(0, .d d), (3, .ptr [3] 0), (5, ai i)] [([3], bxW v)]
def hsO (t : Bool) : Option (Ex × St) := if t then some (.x 0, mkS [] []) else some (.r, mkS [(4, ab false)] [])
theorem sm_i64 {n : Int} (h : Sm n) : I64 n := ⟨by have := h; unfold Sm at this; omega, by have := h; unfold Sm at this; omega⟩
theorem sm_sub {a b : Int} (ha : Sm a) (hb : Sm b) : w64 (a - b) = a - b ∧ I64 (a - b) := by
  unfold Sm at *
  exact ⟨w64_id (by omega) (by omega), by omega, by omega⟩
variable [Its]
theorem Vec_spec {x y : Int} (hx : I64 x) (hy : I64 y) : callX G n_gantryref12_Vec [iv x, iv y] = some (.d (encV (vcR x, vcR y))) := by
  rw [callX_eq (cf := gantryref12_Vec) rfl]
  have g1 := around_spec (m := 96) hx (by omega)
  have g2 := around_spec (m := 96) hy (by omega)
  have bx := vc_b x
  have bz := vc_b y
  have g3 := rratOf_spec (n := vcA x) (d := vcB x) ⟨by omega, by omega⟩ ⟨by omega, by omega⟩
  have g4 := rratOf_spec (n := vcA y) (d := vcB y) ⟨by omega, by omega⟩ ⟨by omega, by omega⟩
  have e3 : Rat.divInt (vcA x) (vcB x) = vcR x := rfl
  have e4 : Rat.divInt (vcA y) (vcB y) = vcR y := rfl
  rw [e3] at g3
  rw [e4] at g4
  clear e3 e4
  generalize vcR x = rx at *
  generalize vcR y = ry at *
  have b1 := arnd_b (n := x) (m := 96) (by omega)
  have b2 := arnd_b (n := y) (m := 96) (by omega)
  unfold vcA vcB at *
  generalize arnd x 96 = u at *
  generalize arnd y 96 = v at *
  have tm : ∀ a : Int, 0 ≤ a → a.tmod 24 = a % 24 := fun a h => rem_pos h
  have t1 := rem_pos (a := u) (b := 24) b1.1
  have t2 := quo_pos (a := u) (b := 72) b1.1
  have t3 := quo_pos (a := u) (b := 48) b1.1
  have t4 := rem_pos (a := u / 48) (b := 2) (by omega)
  have s1 := rem_pos (a := v) (b := 24) b2.1
  have s2 := quo_pos (a := v) (b := 72) b2.1
  have s3 := quo_pos (a := v) (b := 48) b2.1
  have s4 := rem_pos (a := v / 48) (b := 2) (by omega)
  have f1 : w64 (u % 24 * 2) = u % 24 * 2 := w64_id (by omega) (by omega)
  have f2 : w64 (u % 24 * 2 - 24) = u % 24 * 2 - 24 := w64_id (by omega) (by omega)
  have f3 : w64 (u / 72) = u / 72 := w64_id (by omega) (by omega)
  have f4 : w64 (u % 24 * 2 - 24 + u / 72) = u % 24 * 2 - 24 + u / 72 := w64_id (by omega) (by omega)
  have f5 : w64 (u / 48) = u / 48 := w64_id (by omega) (by omega)
  have f6 : w64 (2 + u / 48 % 2) = 2 + u / 48 % 2 := w64_id (by omega) (by omega)
  have h1 : w64 (v % 24 * 2) = v % 24 * 2 := w64_id (by omega) (by omega)
  have h2 : w64 (v % 24 * 2 - 24) = v % 24 * 2 - 24 := w64_id (by omega) (by omega)
  have h3 : w64 (v / 72) = v / 72 := w64_id (by omega) (by omega)
  have h4 : w64 (v % 24 * 2 - 24 + v / 72) = v % 24 * 2 - 24 + v / 72 := w64_id (by omega) (by omega)
  have h5 : w64 (v / 48) = v / 48 := w64_id (by omega) (by omega)
  have h6 : w64 (2 + v / 48 % 2) = 2 + v / 48 % 2 := w64_id (by omega) (by omega)
  have z1 : ((24 : Int) = 0) = False := by simp
  have z2 : ((72 : Int) = 0) = False := by simp
  have z3 : ((48 : Int) = 0) = False := by simp
  have z4 : ((2 : Int) = 0) = False := by simp
  clear bx bz b1 b2
  simp only [encR, iv, bv] at g1 g2 g3 g4
  simp -implicitDefEqProofs (maxSteps := 10000000) only [gantryref12_Vec, encV, fillB, partsB, st8, ld8, dc_dg, g1, g2, g3, g4, t1, t2, t3, t4, s1, s2, s3, s4, f1, f2, f3, f4, f5, f6, h1, h2, h3, h4, h5, h6, z1, z2, z3, z4, cells_dg, one_dg', go_sem, iv, bv, reduceCtorEq, ↓reduceIte, Nat.reduceEqDiff]
theorem Dot_spec_V {d : Dr} {v : Vc} {K : Nat} (hK : K ≤ 1000000000) (hd : NmD d) (hv : SzV K v) : callX G n_gantryref12_Dot [encD d, encV v] = some (.d (encR (dotR d v))) := by
  rw [callX_eq (cf := gantryref12_Dot) rfl]
  have g1 := rratOf_spec hd.i1 i64_1
  have g2 := rratOf_spec hd.i2 i64_1
  rw [divInt_one] at g1 g2
  have n1 := sz_int hd.i1
  have n2 := sz_int hd.i2
  have k1 := hv.1
  have k2 := hv.2
  have g3 := rratMul_spec (a := (d.1 : Rat)) (b := v.1) (by omega) (by omega)
  have g4 := rratMul_spec (a := (d.2.1 : Rat)) (b := v.2) (by omega) (by omega)
  have h3 := sz_mul (a := (d.1 : Rat)) (b := v.1)
  have h4 := sz_mul (a := (d.2.1 : Rat)) (b := v.2)
  have g5 := rratAdd_spec (a := (d.1 : Rat) * v.1) (b := (d.2.1 : Rat) * v.2) (by omega) (by omega)
  have e : (d.1 : Rat) * v.1 + (d.2.1 : Rat) * v.2 = dotR d v := rfl
  rw [e] at g5
  generalize dotR d v = r at *
  generalize (d.1 : Rat) * v.1 = u1 at *
  generalize (d.2.1 : Rat) * v.2 = u2 at *
  clear n1 n2 h3 h4 k1 k2 e hv
  generalize (d.1 : Rat) = c1 at *
  generalize (d.2.1 : Rat) = c2 at *
  obtain ⟨x, y⟩ := v
  obtain ⟨a, b, c⟩ := d
  simp only [encR, iv, bv] at g1 g2 g3 g4 g5
  simp -implicitDefEqProofs (maxSteps := 10000000) only [gantryref12_Dot, encD, cD, encV, encR, st4', ld4_4, ld80, ld84, ld3_0, ld3_1, dc_dg, g1, g2, g3, g4, g5, cells_dg, one_dg', go_sem, iv, bv, reduceCtorEq, ↓reduceIte, Nat.reduceEqDiff]
section
variable {d : D} {l : List Pt} {v : Vc} {K : Nat}
theorem hc_step (hr : RwE cP d l) (hl : ∀ p ∈ l, SmP p) (hn : l.length ≤ 10) (hK : K ≤ 1000000) (hv : SzV K v) {i : Nat} (hi : i < l.length) :
    X G convex_Has_l0 (hc_st d v l.length i) = if decide (hsA l v i < hsB l v i) then some (.r, mkS [(4, ab false)] []) else some (.n, hc_st d v l.length ((i + 1 : Nat) : Int)) := by
  have e1 : decide ((i : Int) < (l.length : Int)) = true := lt_t (by omega)
  have e2 : w64 ((i : Int) + 1) = ((i + 1 : Nat) : Int) := by rw [w64_id (by omega) (by omega)]; rfl
  have x1 := hr.ixa cP_len hi
  have x2 := fun hp => ldE cP_len hp hi
  have g0 := cnext_spec hr hi (by omega)
  have pa := getD_all hl smP0 i
  have pb := nxP_sm hl i
  have f1 := sm_sub pb.1 pa.1
  have f2 := sm_sub pb.2 pa.2
  unfold hsA hsB
  generalize nxP l i = b at *
  generalize l.getD i default = a at *
  have o1 := ratOf_spec (sm_i64 pa.1) i64_1
  have o2 := ratOf_spec (sm_i64 pa.2) i64_1
  have o3 := ratOf_spec f1.2 i64_1
  have o4 := ratOf_spec f2.2 i64_1
  have n1 := sz_int (sm_i64 pa.1)
  have n2 := sz_int (sm_i64 pa.2)
  have n3 := sz_int f1.2
  have n4 := sz_int f2.2
  rw [divInt_one] at o1 o2 o3 o4
  have k1 := hv.1
  have k2 := hv.2
  have s1 := ratSub_spec (a := v.1) (b := (a.1 : Rat)) (by omega) (by omega)
  have s2 := ratSub_spec (a := v.2) (b := (a.2 : Rat)) (by omega) (by omega)
  have z1 := sz_sub (a := v.1) (b := (a.1 : Rat))
  have z2 := sz_sub (a := v.2) (b := (a.2 : Rat))
  have m1 := ratMul_spec (a := ((b.1 - a.1 : Int) : Rat)) (b := v.2 - (a.2 : Rat)) (by omega) (by omega)
  have m2 := ratMul_spec (a := ((b.2 - a.2 : Int) : Rat)) (b := v.1 - (a.1 : Rat)) (by omega) (by omega)
  have y1 := sz_mul (a := ((b.1 - a.1 : Int) : Rat)) (b := v.2 - (a.2 : Rat))
  have y2 := sz_mul (a := ((b.2 - a.2 : Int) : Rat)) (b := v.1 - (a.1 : Rat))
  have c1 := ratCompare_spec (a := ((b.1 - a.1 : Int) : Rat) * (v.2 - (a.2 : Rat))) (b := ((b.2 - a.2 : Int) : Rat) * (v.1 - (a.1 : Rat))) (by omega) (by omega)
  rw [← cmR_lt]
  generalize cmpR (((b.1 - a.1 : Int) : Rat) * (v.2 - (a.2 : Rat))) (((b.2 - a.2 : Int) : Rat) * (v.1 - (a.1 : Rat))) = c at *
  generalize ((b.1 - a.1 : Int) : Rat) * (v.2 - (a.2 : Rat)) = u1 at *
  generalize ((b.2 - a.2 : Int) : Rat) * (v.1 - (a.1 : Rat)) = u2 at *
  generalize v.1 - (a.1 : Rat) = u3 at *
  generalize v.2 - (a.2 : Rat) = u4 at *
  have w1 := f1.1
  have w2 := f2.1
  clear f1 f2 n1 n2 n3 n4 k1 k2 z1 z2 y1 y2 hv pa pb
  obtain ⟨ax, ay⟩ := a
  obtain ⟨bx, byy⟩ := b
  obtain ⟨v1, v2⟩ := v
  dsimp only at *
  obtain ⟨dx, hdx⟩ : ∃ z, bx - ax = z := ⟨_, rfl⟩
  obtain ⟨dy, hdy⟩ : ∃ z, byy - ay = z := ⟨_, rfl⟩
  rw [hdx] at o3 m1
  rw [hdy] at o4 m2
  have w1 : w64 (bx - ax) = dx := by rw [w1, hdx]
  have w2 : w64 (byy - ay) = dy := by rw [w2, hdy]
  clear hdx hdy
  generalize (ax : Rat) = rx at *
  generalize (ay : Rat) = ry at *
  generalize (dx : Rat) = rdx at *
  generalize (dy : Rat) = rdy at *
  simp only [encP, cP, encR, iv, bv] at x2 g0 o1 o2 o3 o4 s1 s2 m1 m2 c1
  by_cases hc : c < 0
  · have t1 : decide (c < 0) = true := lt_t hc
    simp -implicitDefEqProofs (maxSteps := 10000000) only [convex_Has_l0, hc_st, bxW, x1, x2, g0, o1, o2, o3, o4, s1, s2, m1, m2, c1, t1, w1, w2, e1, e2, st2p, ld2_0, ld2_1, st4', ld4_4, ld80, ld84, dc_dg, cells_dg, one_dg', go_sem, iv, bv, reduceCtorEq, ↓reduceIte, Nat.reduceEqDiff]
  · have t1 : decide (c < 0) = false := lt_f (by omega)
    simp -implicitDefEqProofs (maxSteps := 10000000) only [convex_Has_l0, hc_st, bxW, x1, x2, g0, o1, o2, o3, o4, s1, s2, m1, m2, c1, t1, w1, w2, e1, e2, st2p, ld2_0, ld2_1, st4', ld4_4, ld80, ld84, dc_dg, cells_dg, one_dg', go_sem, iv, bv, reduceCtorEq, ↓reduceIte, Nat.reduceEqDiff]
theorem hc_stop : X G convex_Has_l0 (hc_st d v l.length l.length) = some (.x 0, mkS [] []) := by
  have e1 : decide ((l.length : Int) < (l.length : Int)) = false := lt_f (by omega)
  simp -implicitDefEqProofs (maxSteps := 10000000) only [convex_Has_l0, hc_st, bxW, e1, go_sem, iv, bv, reduceCtorEq, ↓reduceIte, Nat.reduceEqDiff]
theorem hc_loop (hr : RwE cP d l) (hl : ∀ p ∈ l, SmP p) (hn : l.length ≤ 10) (hK : K ≤ 1000000) (hv : SzV K v) : ∀ (j i : Nat), i + j = l.length → X G (.loop convex_Has_l0) (hc_st d v l.length i) = hsO (hsF l v j i)
  | 0, i, h => by
    have : i = l.length := by omega
    subst this
    rw [X_loop, hc_stop]; rfl
  | j + 1, i, h => by
    rw [X_loop, hc_step hr hl hn hK hv (by omega), hsF]
    split
    · rfl
    · rw [Option.bind_some, if_pos rfl]
      exact hc_loop hr hl hn hK hv j (i + 1) (by omega)
theorem cHas_spec (hr : RwE cP d l) (hl : ∀ p ∈ l, SmP p) (hn : l.length ≤ 10) (hK : K ≤ 1000000) (hv : SzV K v) : callX G n_convex_Has [d, encV v] = some (.d (bv (hsP l v))) := by
  rw [callX_eq (cf := convex_Has) rfl]
  have ll := hr.len
  have g := hc_loop hr hl hn hK hv l.length 0 (by omega)
  have e : hsF l v l.length 0 = hsP l v := rfl
  rw [e] at g
  generalize hsP l v = t at *
  obtain ⟨v1, v2⟩ := v
  simp only [hc_st, bxW, hsO, nc0, go_sem] at g
  cases t
  · simp only [Bool.false_eq_true, if_false] at g
    simp -implicitDefEqProofs (maxSteps := 10000000) only [convex_Has, encV, g, ll, dc_dg, cells_dg, one_dg', go_sem, iv, bv, reduceCtorEq, ↓reduceIte, Nat.reduceEqDiff]
  · simp only [if_true] at g
    simp -implicitDefEqProofs (maxSteps := 10000000) only [convex_Has, encV, g, ll, dc_dg, cells_dg, one_dg', go_sem, iv, bv, reduceCtorEq, ↓reduceIte, Nat.reduceEqDiff]
end
end Go.AM

/- ref12.Has; SamePoints. -/
namespace Go.AM
open Go Go.RowKit
def sp_st (d e : D) (i : Int) : St := mkS [(0, .d d), (1, .d e), (5, ai i)] []
variable [Its]
section
variable {d : D} {l : List Pt} {v : Vc} {K : Nat}
end
end Go.AM

/- far, Left, cmp.Or, Sum$1, MinFunc. -/
namespace Go.AM
open Go Go.RowKit
def faI (p q : Pt) : Int := (p.1 - q.1) * (p.1 - q.1) + (p.2 - q.2) * (p.2 - q.2)
def orI (a b : Int) : Int := if a ≠ 0 then a else b
/-- Lower, or as low and more to the left. -/
def ltQ (p q : Pt) : Bool := decide (p.2 < q.2) || (decide (p.2 = q.2) && decide (p.1 < q.1))
theorem or_lt (p q : Pt) : decide (orI (cmpI p.2 q.2) (cmpI p.1 q.1) < 0) = ltQ p q := by
  unfold orI cmpI ltQ
  by_cases h1 : p.2 < q.2
  · simp [h1]
  · by_cases h2 : p.2 > q.2
    · have h3 : p.2 ≠ q.2 := by omega
      simp [h1, h2, h3]
    · have h3 : p.2 = q.2 := by omega
      by_cases h4 : p.1 < q.1
      · simp [h3, h4]
      · by_cases h5 : p.1 > q.1 <;> simp [h3, h4, h5]
theorem nc2 : ((2 : Nat) : Int) = 2 := rfl
theorem rep2_1 (a : D) : rep 2 [a] = [a, a] := rfl
def mnF (l : List Pt) : Nat → Pt
  | 0 => l.getD 0 default
  | i + 1 => if ltQ (l.getD (i + 1) default) (mnF l i) = true then l.getD (i + 1) default else mnF l i
def mn_st (d : D) (p : Pt) (i : Int) : St := mkS [(0, .d d), (1, .d (.fn n_convex_Sum_1 [])), (4, .ptr [4] 0), (5, .ptr [5] 0), (6, ai i)] [([4], ⟨0, 0, [.d (iv 0), .d (iv 0)], false⟩), ([5], ⟨0, 0, [.d (iv p.1), .d (iv p.2)], false⟩)]
def or_st (a b : Int) (i : Int) : St := mkS [(3, ai 0), (6, .d (.row 2 [iv a, iv b])), (7, ai 2), (8, ai i)] []
variable [Its]
theorem far_spec {p q : Pt} (hp : SmP p) (hq : SmP q) : callX G n_convex_far [encP p, encP q] = some (.d (iv (faI p q))) := by
  rw [callX_eq (cf := convex_far) rfl]
  obtain ⟨a1, a2⟩ := p
  obtain ⟨b1, b2⟩ := q
  obtain ⟨h1, h2⟩ := hp
  obtain ⟨h3, h4⟩ := hq
  simp only [Sm] at h1 h2 h3 h4
  unfold faI
  dsimp only
  obtain ⟨x, hx⟩ : ∃ x, a1 - b1 = x := ⟨_, rfl⟩
  obtain ⟨y, hy⟩ : ∃ x, a2 - b2 = x := ⟨_, rfl⟩
  have e1 : w64 (a1 - b1) = x := by rw [w64_id (by omega) (by omega), hx]
  have e2 : w64 (a2 - b2) = y := by rw [w64_id (by omega) (by omega), hy]
  have bb : ∀ u : Int, -200000000 ≤ u ∧ u ≤ 200000000 → -40000000000000000 ≤ u * u ∧ u * u ≤ 40000000000000000 := by
    intro u hu
    have h1 : (u * u).natAbs ≤ 200000000 * 200000000 := by
      rw [Int.natAbs_mul]
      exact Nat.mul_le_mul (by omega) (by omega)
    omega
  have b1' := bb x (by omega)
  have b2' := bb y (by omega)
  rw [hx, hy]
  clear hx hy bb
  obtain ⟨z, hz⟩ : ∃ z, x * x = z := ⟨_, rfl⟩
  obtain ⟨t, ht⟩ : ∃ z, y * y = z := ⟨_, rfl⟩
  rw [hz] at b1'
  rw [ht] at b2'
  have e3 : w64 (x * x) = z := by rw [hz, w64_id (by omega) (by omega)]
  have e4 : w64 (y * y) = t := by rw [ht, w64_id (by omega) (by omega)]
  obtain ⟨s, hs⟩ : ∃ s, z + t = s := ⟨_, rfl⟩
  have e5 : w64 (z + t) = s := by rw [w64_id (by omega) (by omega), hs]
  rw [hz, ht, hs]
  simp -implicitDefEqProofs (maxSteps := 10000000) only [convex_far, encP, cP, ld2_0, ld2_1, go_sem, iv, bv, e1, e2, e3, e4, e5, reduceCtorEq, ↓reduceIte, Nat.reduceEqDiff]
theorem Or_spec (a b : Int) : callX G n_cmp_Or_int [.row 2 [iv a, iv b]] = some (.d (iv (orI a b))) := by
  rw [callX_eq (cf := cmp_Or_int) rfl]
  have x0 : ∀ h : Hp, ixaA h 1 0 (.d (.row 2 [iv a, iv b])) = some (.d (.rp [iv a, iv b])) := fun _ => rfl
  have x1 : ∀ h : Hp, ixaA h 1 1 (.d (.row 2 [iv a, iv b])) = some (.d (.rp [iv b])) := fun _ => rfl
  have y0 : ∀ h : Hp, loadA h none (.d (.rp [iv a, iv b])) = some (.d (iv a)) := fun _ => rfl
  have y1 : ∀ h : Hp, loadA h none (.d (.rp [iv b])) = some (.d (iv b)) := fun _ => rfl
  have t0 : decide ((0 : Int) < 2) = true := rfl
  have t1 : decide ((1 : Int) < 2) = true := rfl
  have t2 : decide ((2 : Int) < 2) = false := rfl
  have w0 : w64 ((0 : Int) + 1) = 1 := w64_id (by omega) (by omega)
  have w1 : w64 ((1 : Int) + 1) = 2 := w64_id (by omega) (by omega)
  have ll : lenA (.d (.row 2 [iv a, iv b])) = some 2 := rfl
  simp only [iv] at x0 x1 y0 y1 ll
  by_cases ha : a = 0
  · subst ha
    have n0 : ((0 : Int) != 0) = false := rfl
    have g0 : X G cmp_Or_int_l0 (or_st 0 b 0) = some (.n, or_st 0 b 1) := by
      simp -implicitDefEqProofs (maxSteps := 10000000) only [cmp_Or_int_l0, or_st, x0, y0, t0, n0, w0, go_sem, iv, bv, reduceCtorEq, ↓reduceIte, Nat.reduceEqDiff]
    by_cases hb : b = 0
    · subst hb
      have g1 : X G cmp_Or_int_l0 (or_st 0 0 1) = some (.n, or_st 0 0 2) := by
        simp -implicitDefEqProofs (maxSteps := 10000000) only [cmp_Or_int_l0, or_st, x1, y1, t1, n0, w1, go_sem, iv, bv, reduceCtorEq, ↓reduceIte, Nat.reduceEqDiff]
      have g2 : X G cmp_Or_int_l0 (or_st 0 0 2) = some (.x 0, mkS [(3, ai 0)] []) := by
        simp -implicitDefEqProofs (maxSteps := 10000000) only [cmp_Or_int_l0, or_st, t2, go_sem, iv, bv, reduceCtorEq, ↓reduceIte, Nat.reduceEqDiff]
      have g : X G (.loop cmp_Or_int_l0) (or_st 0 0 0) = some (.x 0, mkS [(3, ai 0)] []) := by
        rw [X_loop, g0, Option.bind_some, if_pos rfl, X_loop, g1, Option.bind_some, if_pos rfl, X_loop, g2]; rfl
      simp only [or_st, go_sem, iv] at g
      have e : orI 0 0 = 0 := rfl
      rw [e]
      simp -implicitDefEqProofs (maxSteps := 10000000) only [cmp_Or_int, g, ll, nc0, nc2, go_sem, iv, bv, reduceCtorEq, ↓reduceIte, Nat.reduceEqDiff]
    · have n1 : (b != 0) = true := bne_t hb
      have g1 : X G cmp_Or_int_l0 (or_st 0 b 1) = some (.r, mkS [(2, ai b)] []) := by
        simp -implicitDefEqProofs (maxSteps := 10000000) only [cmp_Or_int_l0, or_st, x1, y1, t1, n1, w1, go_sem, iv, bv, reduceCtorEq, ↓reduceIte, Nat.reduceEqDiff]
      have g : X G (.loop cmp_Or_int_l0) (or_st 0 b 0) = some (.r, mkS [(2, ai b)] []) := by
        rw [X_loop, g0, Option.bind_some, if_pos rfl, X_loop, g1]; rfl
      simp only [or_st, go_sem, iv] at g
      have e : orI 0 b = b := rfl
      rw [e]
      simp -implicitDefEqProofs (maxSteps := 10000000) only [cmp_Or_int, g, ll, nc0, nc2, go_sem, iv, bv, reduceCtorEq, ↓reduceIte, Nat.reduceEqDiff]
  · have n1 : (a != 0) = true := bne_t ha
    have g1 : X G cmp_Or_int_l0 (or_st a b 0) = some (.r, mkS [(2, ai a)] []) := by
      simp -implicitDefEqProofs (maxSteps := 10000000) only [cmp_Or_int_l0, or_st, x0, y0, t0, n1, w0, go_sem, iv, bv, reduceCtorEq, ↓reduceIte, Nat.reduceEqDiff]
    have g : X G (.loop cmp_Or_int_l0) (or_st a b 0) = some (.r, mkS [(2, ai a)] []) := by
      rw [X_loop, g1]; rfl
    simp only [or_st, go_sem, iv] at g
    have e : orI a b = a := if_pos ha
    rw [e]
    simp -implicitDefEqProofs (maxSteps := 10000000) only [cmp_Or_int, g, ll, nc0, nc2, go_sem, iv, bv, reduceCtorEq, ↓reduceIte, Nat.reduceEqDiff]
theorem Sum1_spec (p q : Pt) : callX G n_convex_Sum_1 [encP p, encP q] = some (.d (iv (orI (cmpI p.2 q.2) (cmpI p.1 q.1)))) := by
  rw [callX_eq (cf := convex_Sum_1) rfl]
  have g1 := cCompare_spec p.1 q.1
  have g2 := cCompare_spec p.2 q.2
  have g3 := Or_spec (cmpI p.2 q.2) (cmpI p.1 q.1)
  generalize orI (cmpI p.2 q.2) (cmpI p.1 q.1) = z at *
  generalize cmpI p.2 q.2 = u at *
  generalize cmpI p.1 q.1 = v at *
  obtain ⟨p1, p2⟩ := p
  obtain ⟨q1, q2⟩ := q
  simp only [iv] at g1 g2 g3
  simp -implicitDefEqProofs (maxSteps := 10000000) only [convex_Sum_1, encP, cP, g1, g2, g3, ld2_0, ld2_1, fillB, partsB, oneI, rep2_1, go_sem, iv, bv, reduceCtorEq, ↓reduceIte, Nat.reduceEqDiff]
end Go.AM

/- slices.MinFunc by (Y, X); the sums of all corners. -/
namespace Go.AM
open Go Go.RowKit
theorem mnF_all {P : Pt → Prop} {l : List Pt} (h0 : ∀ i, P (l.getD i default)) : ∀ i, P (mnF l i)
  | 0 => h0 0
  | i + 1 => by
    rw [mnF]
    split
    · exact h0 _
    · exact mnF_all h0 i
def mn_en (p : Pt) : St := mkS [(4, .ptr [4] 0), (5, .ptr [5] 0)] [([4], ⟨0, 0, [.d (iv 0), .d (iv 0)], false⟩), ([5], ⟨0, 0, [.d (iv p.1), .d (iv p.2)], false⟩)]
/-- All sums of a corner of a and the negative of one of b. -/
def suR (p : Pt) (b : List Pt) : List Pt := b.map fun q => (p.1 - q.1, p.2 - q.2)
def suA (a b : List Pt) : List Pt := a.flatMap fun p => suR p b
variable [Its]
theorem mn_go {d : D} {l : List Pt} (hr : RwE cP d l) (hn : l.length ≤ 1000000) {p : Pt} {i : Nat} (hi : i < l.length) :
    X G slices_MinFunc_api_Point_api_Point_l0 (mn_st d p i) = some (.n, mn_st d (if ltQ (l.getD i default) p = true then l.getD i default else p) ((i + 1 : Nat) : Int)) := by
  have ll := hr.len
  have e1 : decide ((i : Int) < (l.length : Int)) = true := lt_t (by omega)
  have e2 : w64 ((i : Int) + 1) = ((i + 1 : Nat) : Int) := by rw [w64_id (by omega) (by omega)]; rfl
  have x1 := hr.ixa cP_len hi
  have x2 := fun hp => ldE cP_len hp hi
  have g := Sum1_spec (l.getD i default) p
  have e3 := or_lt (l.getD i default) p
  generalize orI (cmpI (l.getD i default).2 p.2) (cmpI (l.getD i default).1 p.1) = z at *
  generalize l.getD i default = q at *
  obtain ⟨qx, qy⟩ := q
  obtain ⟨px, py⟩ := p
  simp only [cP, encP, iv] at x2 g
  cases h : ltQ (qx, qy) (px, py)
  · rw [h] at e3
    simp -implicitDefEqProofs (maxSteps := 10000000) only [slices_MinFunc_api_Point_api_Point_l0, mn_st, g, st2p, ld2p, Bool.false_eq_true, if_false, List.cons_append, List.nil_append, List.append_nil, go_sem, iv, bv, e1, e2, e3, ll, x1, x2, reduceCtorEq, ↓reduceIte, Nat.reduceEqDiff]
  · rw [h] at e3
    simp -implicitDefEqProofs (maxSteps := 10000000) only [slices_MinFunc_api_Point_api_Point_l0, mn_st, g, st2p, ld2p, if_true, List.cons_append, List.nil_append, List.append_nil, go_sem, iv, bv, e1, e2, e3, ll, x1, x2, reduceCtorEq, ↓reduceIte, Nat.reduceEqDiff]
theorem mn_stop {d : D} {l : List Pt} (hr : RwE cP d l) {p : Pt} : X G slices_MinFunc_api_Point_api_Point_l0 (mn_st d p l.length) = some (.x 0, mn_en p) := by
  have ll := hr.len
  have e1 : decide ((l.length : Int) < (l.length : Int)) = false := lt_f (by omega)
  simp -implicitDefEqProofs (maxSteps := 10000000) only [slices_MinFunc_api_Point_api_Point_l0, mn_st, mn_en, go_sem, iv, bv, e1, ll, reduceCtorEq, ↓reduceIte, Nat.reduceEqDiff]
theorem mn_loop {d : D} {l : List Pt} (hr : RwE cP d l) (hn : l.length ≤ 1000000) : ∀ (j i : Nat), i + 1 + j = l.length → X G (.loop slices_MinFunc_api_Point_api_Point_l0) (mn_st d (mnF l i) ((i + 1 : Nat) : Int)) = some (.x 0, mn_en (mnF l (l.length - 1)))
  | 0, i, h => by
    have : i + 1 = l.length := by omega
    rw [this, ← this, Nat.add_sub_cancel]
    rw [X_loop, this, mn_stop hr]; rfl
  | j + 1, i, h => by
    rw [X_loop, mn_go hr hn (by omega), Option.bind_some, if_pos rfl]
    exact mn_loop hr hn j (i + 1) (by omega)
theorem MinF_spec {d : D} {l : List Pt} (hr : RwE cP d l) (h0 : 0 < l.length) (hn : l.length ≤ 1000000) : callX G n_slices_MinFunc_api_Point_api_Point [d, .fn n_convex_Sum_1 []] = some (.d (encP (mnF l (l.length - 1)))) := by
  rw [callX_eq (cf := slices_MinFunc_api_Point_api_Point) rfl]
  have ll := hr.len
  have e1 : decide ((l.length : Int) < 1) = false := lt_f (by omega)
  have x1 := hr.ixa (j := 0) cP_len h0
  have x2 := fun hp => ldE (j := 0) (l := l) cP_len hp h0
  have g := mn_loop hr hn (l.length - 1) 0 (by omega)
  have e0 : mnF l 0 = l.getD 0 default := rfl
  have e3 : ((0 + 1 : Nat) : Int) = 1 := rfl
  rw [e0, e3] at g
  simp only [nc0, List.drop_zero] at x1 x2
  generalize mnF l (l.length - 1) = z at *
  generalize l.getD 0 default = q at *
  obtain ⟨qx, qy⟩ := q
  obtain ⟨zx, zy⟩ := z
  simp only [cP, iv] at x2
  simp only [mn_st, mn_en, iv, go_sem] at g
  simp -implicitDefEqProofs (maxSteps := 10000000) only [slices_MinFunc_api_Point_api_Point, encP, cP, g, st2p, ld2p, go_sem, iv, bv, e1, ll, x1, x2, reduceCtorEq, ↓reduceIte, Nat.reduceEqDiff]
end Go.AM

/- convex.Sum's first loops: all sums. -/
namespace Go.AM
open Go Go.RowKit
def suO (p q : Pt) : Pt := (p.1 - q.1, p.2 - q.2)
def cu0_st (da db : D) (L : List Pt) (p : Pt) (n i m k : Int) : St := mkS [(1, .d db), (5, gAE 41 L), (7, .ptr [7] 0), (16, .d da), (17, ai n), (18, ai i), (22, .d db), (23, ai m), (24, ai k)] (([7], bxP p.1 p.2) :: gHE cP 2 41 L)
def cu1_st (da db : D) (L : List Pt) (n i : Int) : St := mkS [(1, .d db), (5, gAE 41 L), (16, .d da), (17, ai n), (18, ai i)] (gHE cP 2 41 L)
def cu1_en (L : List Pt) : St := mkS [(5, gAE 41 L)] (gHE cP 2 41 L)
variable [Its]
theorem cu0_go {da db : D} {b : List Pt} (hr : RwE cP db b) (hb : ∀ p ∈ b, SmP p) (hn : b.length ≤ 1000) {L : List Pt} (hL : L.length ≤ 1000) {p : Pt} (hp : SmP p) {n i : Int} {k : Nat} (hk : k < b.length) :
    X G convex_Sum_l0 (cu0_st da db L p n i b.length k) = some (.n, cu0_st da db (L ++ [suO p (b.getD k default)]) p n i b.length ((k + 1 : Nat) : Int)) := by
  have e1 : decide ((k : Int) < (b.length : Int)) = true := lt_t (by omega)
  have e2 : w64 ((k : Int) + 1) = ((k + 1 : Nat) : Int) := by rw [w64_id (by omega) (by omega)]; rfl
  have x1 := hr.ixa cP_len hk
  have x2 := fun hp => ldE cP_len hp hk
  have hq := getD_all hb smP0 k
  unfold suO
  generalize b.getD k default = q at *
  obtain ⟨x, y⟩ := q
  obtain ⟨p1, p2⟩ := p
  obtain ⟨h1, h2⟩ := hq
  obtain ⟨h3, h4⟩ := hp
  simp only [Sm] at h1 h2 h3 h4
  dsimp only
  obtain ⟨u, hu⟩ : ∃ u, p1 - x = u := ⟨_, rfl⟩
  obtain ⟨v, hv⟩ : ∃ v, p2 - y = v := ⟨_, rfl⟩
  have e3 : w64 (p1 - x) = u := by rw [w64_id (by omega) (by omega), hu]
  have e4 : w64 (p2 - y) = v := by rw [w64_id (by omega) (by omega), hv]
  simp only [cP, iv] at x2
  rw [hu, hv]
  by_cases h0 : L = []
  · subst h0
    have hb : (16 ≤ bound) = True := eq_true (by unfold bound; omega)
    have hb1 : (1 * 16 ≤ bound) = True := eq_true (by unfold bound; omega)
    have hq : ([(u, v)] : List Pt) ≠ [] := by simp
    simp -implicitDefEqProofs (maxSteps := 10000000) only [convex_Sum_l0, cu0_st, bxP, gAE_nil, gHE_nil, gAE_ne hq, gHE_ne hq, arE, flat1P, hupdO_none, st2p, ld2_0, ld2_1, fillB, partsB, List.nil_append, List.cons_append, List.length_nil, List.length_cons, Nat.zero_add, List.map_cons, List.map_nil, rep1_2, oneI, srcS, src, allD, hb, hb1, x1, x2, go_sem, iv, bv, e1, e2, e3, e4, reduceCtorEq, ↓reduceIte, Nat.reduceEqDiff]
  · have n3 := lenE cP_len L
    have n4 : ((L.length + 1) * 16 ≤ bound) = True := eq_true (by unfold bound; omega)
    simp -implicitDefEqProofs (maxSteps := 10000000) only [convex_Sum_l0, cu0_st, bxP, gAE_ne h0, gHE_ne h0, gAE_snoc, gHE_snoc, arE, cP_snoc, refsL_E, n3, n4, st2p, ld2_0, ld2_1, fillB, partsB, List.nil_append, List.cons_append, List.length_nil, List.length_cons, Nat.zero_add, List.map_cons, List.map_nil, List.all_cons, List.all_nil, rep1_2, oneI, srcS, src, allD, x1, x2, go_sem, iv, bv, e1, e2, e3, e4, reduceCtorEq, ↓reduceIte, Nat.reduceEqDiff]
theorem cu0_stop {da db : D} {b : List Pt} {L : List Pt} {p : Pt} {n i : Int} : X G convex_Sum_l0 (cu0_st da db L p n i b.length b.length) = some (.x 2, cu1_st da db L n i) := by
  have e1 : decide ((b.length : Int) < (b.length : Int)) = false := lt_f (by omega)
  by_cases h0 : L = []
  · subst h0
    simp -implicitDefEqProofs (maxSteps := 10000000) only [convex_Sum_l0, cu0_st, cu1_st, bxP, gAE_nil, gHE_nil, hupdO_none, go_sem, iv, bv, e1, reduceCtorEq, ↓reduceIte, Nat.reduceEqDiff]
  · simp -implicitDefEqProofs (maxSteps := 10000000) only [convex_Sum_l0, cu0_st, cu1_st, bxP, gAE_ne h0, gHE_ne h0, arE, refsL_E, go_sem, iv, bv, e1, reduceCtorEq, ↓reduceIte, Nat.reduceEqDiff]
theorem cu0_loop {da db : D} {b : List Pt} (hr : RwE cP db b) (hb : ∀ p ∈ b, SmP p) (hn : b.length ≤ 10) {p : Pt} (hp : SmP p) {n i : Int} : ∀ (j k : Nat) (L : List Pt), k + j = b.length → L.length + j ≤ 1000 →
    X G (.loop convex_Sum_l0) (cu0_st da db L p n i b.length k) = some (.x 2, cu1_st da db (L ++ suR p (b.drop k)) n i)
  | 0, k, L, h, hl => by
    have : k = b.length := by omega
    subst this
    rw [X_loop, cu0_stop, List.drop_length]
    simp [suR]
  | j + 1, k, L, h, hl => by
    have hk : k < b.length := by omega
    rw [X_loop, cu0_go hr hb (by omega) (by omega) hp hk, Option.bind_some, if_pos rfl, cu0_loop hr hb hn hp j (k + 1) _ (by omega) (by rw [List.length_append, List.length_singleton]; omega), drop_getD hk]
    simp [suR, suO]
theorem cu1_go {da db : D} {a b : List Pt} (hra : RwE cP da a) (hr : RwE cP db b) (ha : ∀ p ∈ a, SmP p) (hb : ∀ p ∈ b, SmP p) (hn : b.length ≤ 10) {L : List Pt} (hL : L.length ≤ 900) {i : Nat} (hi : i < a.length) (hna : a.length ≤ 1000) :
    X G convex_Sum_l1 (cu1_st da db L a.length i) = some (.n, cu1_st da db (L ++ suR (a.getD i default) b) a.length ((i + 1 : Nat) : Int)) := by
  have e1 : decide ((i : Int) < (a.length : Int)) = true := lt_t (by omega)
  have e2 : w64 ((i : Int) + 1) = ((i + 1 : Nat) : Int) := by rw [w64_id (by omega) (by omega)]; rfl
  have x1 := hra.ixa cP_len hi
  have x2 := fun hp => ldE cP_len hp hi
  have hp := getD_all ha smP0 i
  have g := cu0_loop (da := da) (n := (a.length : Int)) (i := (i : Int)) hr hb hn hp b.length 0 L (by omega) (by omega)
  rw [List.drop_zero] at g
  have ll := hr.len
  generalize a.getD i default = p at *
  generalize L ++ suR p b = M at *
  obtain ⟨p1, p2⟩ := p
  simp only [cP, iv] at x2
  by_cases h0 : L = []
  · subst h0
    by_cases h1 : M = []
    · subst h1
      simp only [cu0_st, cu1_st, bxP, gAE_nil, gHE_nil, hupdO_none, nc0, go_sem, iv] at g
      simp -implicitDefEqProofs (maxSteps := 10000000) only [convex_Sum_l1, cu1_st, gAE_nil, gHE_nil, hupdO_none, g, ll, x1, x2, st2p, go_sem, iv, bv, e1, e2, reduceCtorEq, ↓reduceIte, Nat.reduceEqDiff]
    · simp only [cu0_st, cu1_st, bxP, gAE_nil, gHE_nil, gAE_ne h1, gHE_ne h1, arE, hupdO_none, nc0, go_sem, iv] at g
      simp -implicitDefEqProofs (maxSteps := 10000000) only [convex_Sum_l1, cu1_st, gAE_nil, gHE_nil, gAE_ne h1, gHE_ne h1, arE, refsL_E, hupdO_none, g, ll, x1, x2, st2p, go_sem, iv, bv, e1, e2, reduceCtorEq, ↓reduceIte, Nat.reduceEqDiff]
  · by_cases h1 : M = []
    · subst h1
      simp only [cu0_st, cu1_st, bxP, gAE_nil, gHE_nil, gAE_ne h0, gHE_ne h0, arE, hupdO_none, nc0, go_sem, iv] at g
      simp -implicitDefEqProofs (maxSteps := 10000000) only [convex_Sum_l1, cu1_st, gAE_nil, gHE_nil, gAE_ne h0, gHE_ne h0, arE, refsL_E, hupdO_none, g, ll, x1, x2, st2p, go_sem, iv, bv, e1, e2, reduceCtorEq, ↓reduceIte, Nat.reduceEqDiff]
    · simp only [cu0_st, cu1_st, bxP, gAE_ne h0, gHE_ne h0, gAE_ne h1, gHE_ne h1, arE, nc0, go_sem, iv] at g
      simp -implicitDefEqProofs (maxSteps := 10000000) only [convex_Sum_l1, cu1_st, gAE_ne h0, gHE_ne h0, gAE_ne h1, gHE_ne h1, arE, refsL_E, g, ll, x1, x2, st2p, go_sem, iv, bv, e1, e2, reduceCtorEq, ↓reduceIte, Nat.reduceEqDiff]
theorem cu1_stop {da db : D} {a : List Pt} {L : List Pt} : X G convex_Sum_l1 (cu1_st da db L a.length a.length) = some (.x 0, cu1_en L) := by
  have e1 : decide ((a.length : Int) < (a.length : Int)) = false := lt_f (by omega)
  by_cases h0 : L = []
  · subst h0
    simp -implicitDefEqProofs (maxSteps := 10000000) only [convex_Sum_l1, cu1_st, cu1_en, gAE_nil, gHE_nil, hupdO_none, go_sem, iv, bv, e1, reduceCtorEq, ↓reduceIte, Nat.reduceEqDiff]
  · simp -implicitDefEqProofs (maxSteps := 10000000) only [convex_Sum_l1, cu1_st, cu1_en, gAE_ne h0, gHE_ne h0, arE, refsL_E, go_sem, iv, bv, e1, reduceCtorEq, ↓reduceIte, Nat.reduceEqDiff]
theorem cu1_loop {da db : D} {a b : List Pt} (hra : RwE cP da a) (hr : RwE cP db b) (ha : ∀ p ∈ a, SmP p) (hb : ∀ p ∈ b, SmP p) (hn : b.length ≤ 10) (hna : a.length ≤ 10) : ∀ (j i : Nat) (L : List Pt), i + j = a.length → L.length + j * 10 ≤ 900 →
    X G (.loop convex_Sum_l1) (cu1_st da db L a.length i) = some (.x 0, cu1_en (L ++ suA (a.drop i) b))
  | 0, i, L, h, hl => by
    have : i = a.length := by omega
    subst this
    rw [X_loop, cu1_stop, List.drop_length]
    simp [suA]
  | j + 1, i, L, h, hl => by
    have hi : i < a.length := by omega
    have hs : (suR (a.getD i default) b).length ≤ 10 := by unfold suR; rw [List.length_map]; exact hn
    rw [X_loop, cu1_go hra hr ha hb hn (by omega) hi (by omega), Option.bind_some, if_pos rfl, cu1_loop hra hr ha hb hn hna j (i + 1) _ (by omega) (by rw [List.length_append]; omega), drop_getD hi]
    simp [suA]
end Go.AM

/- The hulls of both, plain; they move with the shapes. -/
namespace Go.AM
open Go Go.RowKit
def bsS (last best p : Pt) : Pt := if decide (best = last) || decide (crI last best p < 0) || (decide (crI last best p = 0) && decide (faI last best < faI last p)) then p else best
def nxC (all : List Pt) (last : Pt) : Pt := all.foldl (bsS last) last
def hulC (all : List Pt) (first : Pt) : Nat → List Pt → Pt → Option (List Pt)
  | 0, _, _ => none
  | f + 1, out, last => if nxC all last = first then some out else hulC all first f (out ++ [nxC all last]) (nxC all last)
def okQ (last c p : Pt) : Bool := decide (0 < crI last c p) || (decide (crI last c p = 0) && decide (faI p last ≤ faI c last))
def nxR (all : List Pt) (last : Pt) : Pt := (all.find? fun c => decide (c ≠ last) && all.all (okQ last c)).getD last
def hulR (all : List Pt) (first : Pt) : Nat → List Pt → Pt → Option (List Pt)
  | 0, _, _ => none
  | f + 1, out, last => if nxR all last = first then some out else hulR all first f (out ++ [nxR all last]) (nxR all last)
/-- A side of the hull on the line of an edge. -/
def onE (a b x : List Pt) (d : Dr) (i : Nat) : Bool :=
  let u := sdx x i
  let v := sdy x i
  let t := if d.1 = 0 then (-u).tdiv d.2.1 else v.tdiv d.1
  decide (0 < t) && decide (v = t * d.1) && decide (-u = t * d.2.1) && decide (dotI d (x.getD i default) = moP d a + moP (tnD d) b)
def edgB (a b x : List Pt) : Bool :=
  ((uqS a b).all fun d => (List.range x.length).any fun i => onE a b x d i) && ((List.range x.length).all fun i => (uqS a b).any fun d => onE a b x d i)
def bas (c : Int) : List (List Pt) := (List.range 3).flatMap fun (k : Nat) => (List.range (if c = 2 ∨ c = 5 then 6 else 1)).map fun (m : Nat) => spB c (1 + (k : Int)) (1 + (m : Int))
theorem bas_mem {c k m : Int} (hc : 0 ≤ c ∧ c < 7) (hk : 1 ≤ k ∧ k < 4) (hm : 1 ≤ m ∧ m < 7) : ∃ e ∈ ([2, 3, 4, 5, 6] : List Int), spB c k m ∈ bas e := by
  have key : ∀ e : Int, (e = 2 ∨ e = 5) → spB e k m ∈ bas e := by
    intro e he
    unfold bas
    rw [if_pos he]
    refine List.mem_flatMap.2 ⟨(k - 1).toNat, List.mem_range.2 (by omega), List.mem_map.2 ⟨(m - 1).toNat, List.mem_range.2 (by omega), ?_⟩⟩
    rw [show 1 + (((k - 1).toNat : Nat) : Int) = k by omega, show 1 + (((m - 1).toNat : Nat) : Int) = m by omega]
  have key2 : ∀ e : Int, (e = 3 ∨ e = 4 ∨ e = 6) → spB e k 1 ∈ bas e := by
    intro e he
    unfold bas
    rw [if_neg (by omega)]
    refine List.mem_flatMap.2 ⟨(k - 1).toNat, List.mem_range.2 (by omega), List.mem_map.2 ⟨0, List.mem_range.2 (by omega), ?_⟩⟩
    rw [show 1 + (((k - 1).toNat : Nat) : Int) = k by omega]; rfl
  obtain h | h | h | h | h : (c = 0 ∨ c = 1 ∨ c = 2) ∨ c = 3 ∨ c = 4 ∨ c = 5 ∨ c = 6 := by omega
  · refine ⟨2, by simp, ?_⟩
    have e1 : spB c k m = spB 2 k m := by unfold spB; rw [if_pos h, if_pos (by omega)]
    rw [e1]; exact key 2 (.inl rfl)
  · subst h; exact ⟨3, by simp, key2 3 (.inl rfl)⟩
  · subst h; exact ⟨4, by simp, key2 4 (.inr (.inl rfl))⟩
  · subst h; exact ⟨5, by simp, key 5 (.inr rfl)⟩
  · subst h; exact ⟨6, by simp, key2 6 (.inr (.inr rfl))⟩
/-! Moved -/
theorem mvP_iff (x y : Int) (p q : Pt) : (mvP x y p = mvP x y q) ↔ p = q := by
  obtain ⟨a, b⟩ := p
  obtain ⟨c, d⟩ := q
  unfold mvP
  simp only [Prod.mk.injEq]
  omega
theorem faI_mv (x y : Int) (p q : Pt) : faI (mvP x y p) (mvP x y q) = faI p q := by
  unfold faI mvP
  dsimp only
  rw [show p.1 + x - (q.1 + x) = p.1 - q.1 by omega, show p.2 + y - (q.2 + y) = p.2 - q.2 by omega]
theorem ltQ_mv (x y : Int) (p q : Pt) : ltQ (mvP x y p) (mvP x y q) = ltQ p q := by
  unfold ltQ mvP
  dsimp only
  rw [show decide (p.2 + y < q.2 + y) = decide (p.2 < q.2) from decide_eq_decide.2 (by omega), show decide (p.2 + y = q.2 + y) = decide (p.2 = q.2) from decide_eq_decide.2 (by omega), show decide (p.1 + x < q.1 + x) = decide (p.1 < q.1) from decide_eq_decide.2 (by omega)]
theorem bsS_mv (x y : Int) (l b p : Pt) : bsS (mvP x y l) (mvP x y b) (mvP x y p) = mvP x y (bsS l b p) := by
  unfold bsS
  rw [crI_mv, faI_mv, faI_mv, show decide (mvP x y b = mvP x y l) = decide (b = l) from decide_eq_decide.2 (mvP_iff x y b l)]
  split <;> rfl
theorem fold_mv (x y : Int) (l : Pt) : ∀ (L : List Pt) (b : Pt), (L.map (mvP x y)).foldl (bsS (mvP x y l)) (mvP x y b) = mvP x y (L.foldl (bsS l) b)
  | [], b => rfl
  | p :: L, b => by
    rw [List.map_cons, List.foldl_cons, List.foldl_cons, bsS_mv, fold_mv x y l L]
theorem nxC_mv (x y : Int) (L : List Pt) (l : Pt) : nxC (L.map (mvP x y)) (mvP x y l) = mvP x y (nxC L l) := fold_mv x y l L l
theorem hulC_mv (x y : Int) (L : List Pt) (fs : Pt) : ∀ (f : Nat) (O : List Pt) (l : Pt), hulC (L.map (mvP x y)) (mvP x y fs) f (O.map (mvP x y)) (mvP x y l) = (hulC L fs f O l).map (List.map (mvP x y))
  | 0, _, _ => rfl
  | f + 1, O, l => by
    rw [hulC, hulC, nxC_mv]
    by_cases h : nxC L l = fs
    · rw [if_pos h, if_pos (by rw [h])]; rfl
    · rw [if_neg h, if_neg (fun e => h ((mvP_iff x y _ _).1 e)), ← hulC_mv x y L fs f, List.map_append]; rfl
theorem okQ_mv (x y : Int) (l c p : Pt) : okQ (mvP x y l) (mvP x y c) (mvP x y p) = okQ l c p := by unfold okQ; rw [crI_mv, faI_mv, faI_mv]
theorem all_mv (x y : Int) (l c : Pt) (L : List Pt) : (L.map (mvP x y)).all (okQ (mvP x y l) (mvP x y c)) = L.all (okQ l c) := by
  rw [List.all_map]
  congr 1
  funext p
  exact okQ_mv x y l c p
theorem nxR_mv (x y : Int) (L : List Pt) (l : Pt) : nxR (L.map (mvP x y)) (mvP x y l) = mvP x y (nxR L l) := by
  unfold nxR
  rw [List.find?_map]
  have e : (fun c => decide (c ≠ mvP x y l) && (L.map (mvP x y)).all (okQ (mvP x y l) c)) ∘ mvP x y = fun c => decide (c ≠ l) && L.all (okQ l c) := by
    funext c
    show (decide (mvP x y c ≠ mvP x y l) && (L.map (mvP x y)).all (okQ (mvP x y l) (mvP x y c))) = _
    rw [all_mv, show decide (mvP x y c ≠ mvP x y l) = decide (c ≠ l) from decide_eq_decide.2 (not_congr (mvP_iff x y c l))]
  rw [e]
  cases L.find? fun c => decide (c ≠ l) && L.all (okQ l c) <;> rfl
theorem hulR_mv (x y : Int) (L : List Pt) (fs : Pt) : ∀ (f : Nat) (O : List Pt) (l : Pt), hulR (L.map (mvP x y)) (mvP x y fs) f (O.map (mvP x y)) (mvP x y l) = (hulR L fs f O l).map (List.map (mvP x y))
  | 0, _, _ => rfl
  | f + 1, O, l => by
    rw [hulR, hulR, nxR_mv]
    by_cases h : nxR L l = fs
    · rw [if_pos h, if_pos (by rw [h])]; rfl
    · rw [if_neg h, if_neg (fun e => h ((mvP_iff x y _ _).1 e)), ← hulR_mv x y L fs f, List.map_append]; rfl
theorem suA_mv (x y u v : Int) (a b : List Pt) : suA (a.map (mvP x y)) (b.map (mvP u v)) = (suA a b).map (mvP (x - u) (y - v)) := by
  unfold suA
  rw [List.flatMap_map, List.map_flatMap]
  congr 1
  funext p
  unfold suR
  rw [List.map_map, List.map_map]
  congr 1
  funext q
  simp only [Function.comp, mvP]
  refine Prod.ext ?_ ?_ <;> dsimp only <;> omega
theorem mnF_mv (x y : Int) (L : List Pt) : ∀ i, i < L.length → mnF (L.map (mvP x y)) i = mvP x y (mnF L i)
  | 0, h => by rw [mnF, mnF, mv_getD _ _ h]
  | i + 1, h => by
    rw [mnF, mnF, mnF_mv x y L i (by omega), mv_getD _ _ h, ltQ_mv]
    split <;> rfl
/-! What the kernel has found of the base shapes, for the moved ones. -/
structure Hul (a b x : List Pt) : Prop where
  c : hulC (suA a b) (mnF (suA a b) ((suA a b).length - 1)) 17 [mnF (suA a b) ((suA a b).length - 1)] (mnF (suA a b) ((suA a b).length - 1)) = some x
  r : hulR (suA a b) (mnF (suA a b) ((suA a b).length - 1)) 17 [mnF (suA a b) ((suA a b).length - 1)] (mnF (suA a b) ((suA a b).length - 1)) = some x
  three : 3 ≤ x.length
  ten : x.length ≤ 10
  one : ∀ d ∈ uqS a b, ∃ i, i < x.length ∧ onE a b x d i = true
  two : ∀ i, i < x.length → ∃ d ∈ uqS a b, onE a b x d i = true
  le : x.length ≤ (suA a b).length
theorem uqS_mv (x y u v : Int) (a b : List Pt) : uqS (a.map (mvP x y)) (b.map (mvP u v)) = uqS a b := by
  unfold uqS; rw [drs_mv]
theorem sdx_mv (x y : Int) (l : List Pt) {i : Nat} (h : i < l.length) : sdx (l.map (mvP x y)) i = sdx l i := by
  unfold sdx
  rw [mv_nx _ _ h, mv_getD _ _ h]
  unfold mvP
  dsimp only
  omega
theorem sdy_mv (x y : Int) (l : List Pt) {i : Nat} (h : i < l.length) : sdy (l.map (mvP x y)) i = sdy l i := by
  unfold sdy
  rw [mv_nx _ _ h, mv_getD _ _ h]
  unfold mvP
  dsimp only
  omega
theorem onE_mv (x y u v : Int) {a b : List Pt} (ha : 0 < a.length) (hb : 0 < b.length) (X : List Pt) (d : Dr) {i : Nat} (h : i < X.length) : onE (a.map (mvP x y)) (b.map (mvP u v)) (X.map (mvP (x - u) (y - v))) d i = onE a b X d i := by
  unfold onE
  dsimp only
  rw [sdx_mv _ _ _ h, sdy_mv _ _ _ h, moP_mv d x y ha, moP_mv (tnD d) u v hb, mv_getD _ _ h]
  have e : decide (dotI d (mvP (x - u) (y - v) (X.getD i default)) = moP d a + (d.1 * x + d.2.1 * y) + (moP (tnD d) b + ((tnD d).1 * u + (tnD d).2.1 * v))) = decide (dotI d (X.getD i default) = moP d a + moP (tnD d) b) := by
    refine decide_eq_decide.2 ?_
    generalize X.getD i default = p
    unfold dotI mvP tnD
    dsimp only
    rw [Int.mul_add, Int.mul_add, Int.mul_sub, Int.mul_sub, Int.neg_mul, Int.neg_mul]
    omega
  rw [e]
theorem hul_mv (x y u v : Int) {a b X : List Pt} (ha : 0 < a.length) (hb : 0 < b.length) (h : Hul a b X) : Hul (a.map (mvP x y)) (b.map (mvP u v)) (X.map (mvP (x - u) (y - v))) := by
  have hn : 0 < (suA a b).length := by
    unfold suA
    obtain ⟨p, a, rfl⟩ := List.exists_cons_of_length_pos ha
    rw [List.flatMap_cons, List.length_append]
    unfold suR
    rw [List.length_map]
    omega
  have e := suA_mv x y u v a b
  have e1 : mnF (suA (a.map (mvP x y)) (b.map (mvP u v))) ((suA (a.map (mvP x y)) (b.map (mvP u v))).length - 1) = mvP (x - u) (y - v) (mnF (suA a b) ((suA a b).length - 1)) := by
    rw [e, List.length_map, mnF_mv _ _ _ _ (by omega)]
  refine ⟨?_, ?_, by rw [List.length_map]; exact h.three, by rw [List.length_map]; exact h.ten, ?_, ?_, by rw [e, List.length_map, List.length_map]; exact h.le⟩
  · rw [e1, e]
    have := hulC_mv (x - u) (y - v) (suA a b) (mnF (suA a b) ((suA a b).length - 1)) 17 [mnF (suA a b) ((suA a b).length - 1)] (mnF (suA a b) ((suA a b).length - 1))
    rw [h.c] at this
    exact this
  · rw [e1, e]
    have := hulR_mv (x - u) (y - v) (suA a b) (mnF (suA a b) ((suA a b).length - 1)) 17 [mnF (suA a b) ((suA a b).length - 1)] (mnF (suA a b) ((suA a b).length - 1))
    rw [h.r] at this
    exact this
  · intro d hd
    rw [uqS_mv] at hd
    obtain ⟨i, hi, e⟩ := h.one d hd
    exact ⟨i, by rw [List.length_map]; exact hi, by rw [onE_mv _ _ _ _ ha hb _ _ hi]; exact e⟩
  · intro i hi
    rw [List.length_map] at hi
    obtain ⟨d, hd, e⟩ := h.two i hi
    exact ⟨d, by rw [uqS_mv]; exact hd, by rw [onE_mv _ _ _ _ ha hb _ _ hi]; exact e⟩
end Go.AM

/- convex.Sum's inner loop: the next corner. -/
namespace Go.AM
open Go Go.RowKit
/-- The row of all sums, frozen. -/
def frO (AA : List Pt) : Obj := ⟨2, AA.length, (AA.flatMap cP).map .d, true⟩
def l2_st (AA : List Pt) (fs : Pt) (O : List Pt) (k : Nat) (last best : Pt) (n i : Int) : St := mkS [(5, .d (rowE cP AA)), (10, .ptr [10] 0), (11, .own [k] O.length), (12, .ptr [12] 0), (13, .ptr [13] 0), (55, .d (rowE cP AA)), (56, ai n), (57, ai i)] [([10], bxP fs.1 fs.2), ([12], bxP last.1 last.2), ([13], bxP best.1 best.2), ([41], frO AA), ([k], arE cP 2 O.length O)]
def l2_en (AA : List Pt) (fs : Pt) (O : List Pt) (k : Nat) (best : Pt) : St := mkS [(5, .d (rowE cP AA)), (10, .ptr [10] 0), (11, .own [k] O.length), (13, .ptr [13] 0)] [([10], bxP fs.1 fs.2), ([13], bxP best.1 best.2), ([41], frO AA), ([k], arE cP 2 O.length O)]
theorem eqP_iff (p q : Pt) : ((p.1 == q.1) && (p.2 == q.2)) = decide (p = q) := by
  obtain ⟨a, b⟩ := p
  obtain ⟨c, d⟩ := q
  simp only [Prod.mk.injEq]
  by_cases h1 : a = c <;> by_cases h2 : b = d <;> simp [h1, h2]
theorem hupdO_47_41 (o : Obj) : hupdO (hupd hp0 [47] o) [41] none = hupd hp0 [47] o := by
  funext j
  simp only [hupdO, hupd, hp0]
  by_cases h : j = [41]
  · subst h; rfl
  · rw [if_neg h]
theorem hupdO_96_41 (o : Obj) : hupdO (hupd hp0 [96] o) [41] none = hupd hp0 [96] o := by
  funext j
  simp only [hupdO, hupd, hp0]
  by_cases h : j = [41]
  · subst h; rfl
  · rw [if_neg h]
theorem hupdO_96_47 (o : Obj) : hupdO (hupd hp0 [96] o) [47] none = hupd hp0 [96] o := by
  funext j
  simp only [hupdO, hupd, hp0]
  by_cases h : j = [47]
  · subst h; rfl
  · rw [if_neg h]
theorem tup_b : A.bool? (.d (.v (.tuple #[]))) = none := rfl
variable [Its]
set_option maxHeartbeats 2000000 in
theorem l2_go47 {AA O : List Pt} {fs last best : Pt} (hA : ∀ p ∈ AA, SmP p) (hn : AA.length ≤ 1000) (hl : SmP last) (hb : SmP best) {i : Nat} (hi : i < AA.length) :
    X G convex_Sum_l2 (l2_st AA fs O 47 last best AA.length i) = some (.n, l2_st AA fs O 47 last (bsS last best (AA.getD i default)) AA.length ((i + 1 : Nat) : Int)) := by
  have hr : RwE cP (rowE cP AA) AA := .inr rfl
  have e1 : decide ((i : Int) < (AA.length : Int)) = true := lt_t (by omega)
  have e2 : w64 ((i : Int) + 1) = ((i + 1 : Nat) : Int) := by rw [w64_id (by omega) (by omega)]; rfl
  have x1 := hr.ixa cP_len hi
  have x2 := fun hp => ldE cP_len hp hi
  have hp := getD_all hA smP0 i
  generalize AA.getD i default = p at *
  have g1 := cross_spec hl hb hp
  have g2 := far_spec hl hp
  have g3 := far_spec hl hb
  have q := eqP_iff best last
  unfold bsS
  generalize crI last best p = c at *
  generalize faI last p = u at *
  generalize faI last best = v at *
  cases h0 : decide (best = last) with
  | true =>
    rw [h0] at q
    obtain ⟨l1, l2⟩ := last
    obtain ⟨b1, b2⟩ := best
    obtain ⟨p1, p2⟩ := p
    simp only [encP, cP, iv] at x2 g1 g2 g3
    simp -implicitDefEqProofs (maxSteps := 10000000) only [convex_Sum_l2, l2_st, bxP, frO, arE, refsL_E, hupdO_none, hupdO_47_41, hupdO_96_41, hupdO_96_47, tup_b, decide_false, x1, x2, q, e1, e2, st2p, ld2p, Bool.true_or, if_true, go_sem, iv, bv, reduceCtorEq, ↓reduceIte, Nat.reduceEqDiff]
  | false =>
    rw [h0] at q
    obtain ⟨l1, l2⟩ := last
    obtain ⟨b1, b2⟩ := best
    obtain ⟨p1, p2⟩ := p
    simp only [encP, cP, iv] at x2 g1 g2 g3
    by_cases h1 : c < 0
    · have t1 : decide (c < 0) = true := lt_t h1
      simp -implicitDefEqProofs (maxSteps := 10000000) only [convex_Sum_l2, l2_st, bxP, frO, arE, refsL_E, hupdO_none, hupdO_47_41, hupdO_96_41, hupdO_96_47, tup_b, decide_false, x1, x2, q, g1, t1, e1, e2, st2p, ld2p, Bool.true_or, Bool.false_or, if_true, go_sem, iv, bv, reduceCtorEq, ↓reduceIte, Nat.reduceEqDiff]
    · have t1 : decide (c < 0) = false := lt_f (by omega)
      by_cases h2 : c = 0
      · subst h2
        have t2 : ((0 : Int) == 0) = true := rfl
        by_cases h3 : v < u
        · have t3 : decide (u > v) = true := gt_t h3
          have t4 : decide (v < u) = true := lt_t h3
          simp -implicitDefEqProofs (maxSteps := 10000000) only [convex_Sum_l2, l2_st, bxP, frO, arE, refsL_E, hupdO_none, hupdO_47_41, hupdO_96_41, hupdO_96_47, tup_b, decide_false, x1, x2, q, g1, g2, g3, t1, t2, t3, t4, e1, e2, st2p, ld2p, decide_true, Bool.and_self, Bool.true_or, Bool.false_or, if_true, go_sem, iv, bv, reduceCtorEq, ↓reduceIte, Nat.reduceEqDiff]
        · have t3 : decide (u > v) = false := gt_f (by omega)
          have t4 : decide (v < u) = false := lt_f (by omega)
          simp -implicitDefEqProofs (maxSteps := 10000000) only [convex_Sum_l2, l2_st, bxP, frO, arE, refsL_E, hupdO_none, hupdO_47_41, hupdO_96_41, hupdO_96_47, tup_b, decide_false, x1, x2, q, g1, g2, g3, t1, t2, t3, t4, e1, e2, st2p, ld2p, decide_true, Bool.and_false, Bool.true_or, Bool.false_or, Bool.false_eq_true, if_false, go_sem, iv, bv, reduceCtorEq, ↓reduceIte, Nat.reduceEqDiff]
      · have t2 : (c == 0) = false := by simp [h2]
        have t3 : decide (c = 0) = false := decide_eq_false h2
        simp -implicitDefEqProofs (maxSteps := 10000000) only [convex_Sum_l2, l2_st, bxP, frO, arE, refsL_E, hupdO_none, hupdO_47_41, hupdO_96_41, hupdO_96_47, tup_b, decide_false, x1, x2, q, g1, t1, t2, t3, e1, e2, st2p, ld2p, Bool.false_and, Bool.true_or, Bool.false_or, Bool.false_eq_true, if_false, go_sem, iv, bv, reduceCtorEq, ↓reduceIte, Nat.reduceEqDiff]
theorem l2_stop47 {AA O : List Pt} {fs last best : Pt} {n : Nat} : X G convex_Sum_l2 (l2_st AA fs O 47 last best n n) = some (.x 6, l2_en AA fs O 47 best) := by
  have e1 : decide ((n : Int) < (n : Int)) = false := lt_f (by omega)
  simp -implicitDefEqProofs (maxSteps := 10000000) only [convex_Sum_l2, l2_st, l2_en, bxP, frO, arE, refsL_E, hupdO_none, hupdO_47_41, hupdO_96_41, hupdO_96_47, e1, go_sem, iv, bv, reduceCtorEq, ↓reduceIte, Nat.reduceEqDiff]
theorem l2_loop47 {AA O : List Pt} {fs last : Pt} (hA : ∀ p ∈ AA, SmP p) (hn : AA.length ≤ 1000) (hl : SmP last) : ∀ (j i : Nat) (best : Pt), SmP best → i + j = AA.length →
    X G (.loop convex_Sum_l2) (l2_st AA fs O 47 last best AA.length i) = some (.x 6, l2_en AA fs O 47 ((AA.drop i).foldl (bsS last) best))
  | 0, i, best, hb, h => by
    have : i = AA.length := by omega
    subst this
    rw [X_loop, l2_stop47, List.drop_length]
    rfl
  | j + 1, i, best, hb, h => by
    have hi : i < AA.length := by omega
    have hp := getD_all hA smP0 i
    rw [X_loop, l2_go47 hA hn hl hb hi, Option.bind_some, if_pos rfl, l2_loop47 hA hn hl j (i + 1) _ (by unfold bsS; split <;> assumption) (by omega), drop_getD hi, List.foldl_cons]
end Go.AM

/- convex.Sum. -/
namespace Go.AM
open Go Go.RowKit
def l3_st (AA : List Pt) (fs : Pt) (O : List Pt) : St := mkS [(5, .d (rowE cP AA)), (10, .ptr [10] 0), (11, .own [47] O.length)] [([10], bxP fs.1 fs.2), ([41], frO AA), ([47], arE cP 2 O.length O)]
def l3_en (O : List Pt) : St := mkS [(4, .own [47] O.length)] [([47], arE cP 2 O.length O)]
theorem smP_bs {last best p : Pt} (hb : SmP best) (hp : SmP p) : SmP (bsS last best p) := by unfold bsS; split <;> assumption
theorem smP_fold {last : Pt} : ∀ (l : List Pt) (b : Pt), SmP b → (∀ p ∈ l, SmP p) → SmP (l.foldl (bsS last) b)
  | [], b, hb, _ => hb
  | p :: l, b, hb, h => by
    rw [List.foldl_cons]
    exact smP_fold l _ (smP_bs hb (h p (List.mem_cons_self ..))) fun q hq => h q (List.mem_cons_of_mem _ hq)
theorem suA_sm {a b : List Pt} (ha : ∀ p ∈ a, -40000000 ≤ p.1 ∧ p.1 ≤ 40000000 ∧ -40000000 ≤ p.2 ∧ p.2 ≤ 40000000) (hb : ∀ p ∈ b, -40000000 ≤ p.1 ∧ p.1 ≤ 40000000 ∧ -40000000 ≤ p.2 ∧ p.2 ≤ 40000000) : ∀ p ∈ suA a b, SmP p := by
  intro p hp
  unfold suA at hp
  obtain ⟨q, hq, hp⟩ := List.mem_flatMap.1 hp
  unfold suR at hp
  obtain ⟨r, hr, rfl⟩ := List.mem_map.1 hp
  have := ha q hq
  have := hb r hr
  simp only [SmP, Sm]
  omega
theorem suA_len (a b : List Pt) : (suA a b).length = a.length * b.length := by
  unfold suA
  induction a with
  | nil => simp
  | cons p a ih =>
    rw [List.flatMap_cons, List.length_append, ih]
    unfold suR
    rw [List.length_map, List.length_cons, Nat.succ_mul]
    omega
variable [Its]
set_option maxHeartbeats 1000000 in
theorem l3_go {AA O : List Pt} {fs last : Pt} (hA : ∀ p ∈ AA, SmP p) (hn : AA.length ≤ 1000) (h0 : 0 < O.length) (hO : O.length ≤ 1000) (hl : SmP last) (e : O.getD (O.length - 1) default = last) :
    X G convex_Sum_l3 (l3_st AA fs O) = if nxC AA last = fs then some (.r, l3_en O) else some (.n, l3_st AA fs (O ++ [nxC AA last])) := by
  have hr : RwE cP (rowE cP AA) AA := .inr rfl
  have ll := hr.len
  have e1 : w64 ((O.length : Int) - 1) = ((O.length - 1 : Nat) : Int) := by rw [w64_id (by omega) (by omega)]; omega
  have b1 : (0 ≤ ((O.length - 1 : Nat) : Int)) = True := eq_true (by omega)
  have b2 : (((O.length - 1 : Nat) : Int) < (O.length : Int)) = True := eq_true (by omega)
  have x1 := ldO cP_len (l := O) (j := O.length - 1) (by omega)
  rw [e] at x1
  have g := l2_loop47 (O := O) (fs := fs) hA hn hl AA.length 0 last hl (by omega)
  rw [List.drop_zero] at g
  have en : AA.foldl (bsS last) last = nxC AA last := rfl
  rw [en] at g
  generalize nxC AA last = z at *
  have q := eqP_iff z fs
  have n3 := lenE cP_len O
  have n4 : ((O.length + 1) * 16 ≤ bound) = True := eq_true (by unfold bound; omega)
  have n5 : (O ++ [z]).length = O.length + 1 := by simp
  have n6 := cP_snoc O z.1 z.2
  obtain ⟨z1, z2⟩ := z
  obtain ⟨f1, f2⟩ := fs
  obtain ⟨t1, t2⟩ := last
  dsimp only at q n6
  simp only [cP, iv] at x1
  simp only [l2_st, l2_en, bxP, frO, arE, nc0, hupdO_none, hupdO_47_41, go_sem, iv] at g
  by_cases hz : (z1, z2) = (f1, f2)
  · have t : decide ((z1, z2) = (f1, f2)) = true := decide_eq_true hz
    rw [t] at q
    rw [if_pos hz]
    simp -implicitDefEqProofs (maxSteps := 10000000) only [convex_Sum_l3, l3_st, l3_en, bxP, frO, arE, g, ll, e1, b1, b2, x1, q, nc0, refsL_E, Int.toNat_natCast, hupdO_none, hupdO_47_41, st2p, ld2p, go_sem, iv, bv, reduceCtorEq, ↓reduceIte, Nat.reduceEqDiff]
  · have t : decide ((z1, z2) = (f1, f2)) = false := decide_eq_false hz
    rw [t] at q
    rw [if_neg hz]
    simp -implicitDefEqProofs (maxSteps := 10000000) only [convex_Sum_l3, l3_st, l3_en, bxP, frO, arE, g, ll, e1, b1, b2, x1, q, nc0, n3, n4, n5, n6, rep1_2, oneI, srcS, src, allD, List.all_cons, List.all_nil, List.nil_append, List.cons_append, List.length_nil, List.length_cons, Nat.zero_add, List.map_cons, List.map_nil, refsL_E, Int.toNat_natCast, hupdO_none, hupdO_47_41, st2p, ld2p, go_sem, iv, bv, reduceCtorEq, ↓reduceIte, Nat.reduceEqDiff]
theorem l3_loop {AA : List Pt} {fs : Pt} (hA : ∀ p ∈ AA, SmP p) (hn : AA.length ≤ 1000) {x : List Pt} : ∀ (f : Nat) (O : List Pt) (last : Pt), 0 < O.length → O.length + f ≤ 1000 → SmP last → O.getD (O.length - 1) default = last →
    hulC AA fs f O last = some x → X G (.loop convex_Sum_l3) (l3_st AA fs O) = some (.r, l3_en x)
  | 0, O, last, _, _, _, _, h => by cases h
  | f + 1, O, last, h0, hO, hl, e, h => by
    rw [X_loop, l3_go hA hn h0 (by omega) hl e]
    rw [hulC] at h
    by_cases hz : nxC AA last = fs
    · rw [if_pos hz] at h ⊢
      cases h
      rfl
    · rw [if_neg hz] at h ⊢
      rw [Option.bind_some, if_pos rfl]
      exact l3_loop hA hn f _ _ (by simp) (by rw [List.length_append, List.length_singleton]; omega) (smP_fold _ _ hl hA) (by simp [nxC]) h
theorem cSum_spec {da db : D} {a b x : List Pt} (hra : RwE cP da a) (hrb : RwE cP db b) (ha : ∀ p ∈ a, -40000000 ≤ p.1 ∧ p.1 ≤ 40000000 ∧ -40000000 ≤ p.2 ∧ p.2 ≤ 40000000) (hb : ∀ p ∈ b, -40000000 ≤ p.1 ∧ p.1 ≤ 40000000 ∧ -40000000 ≤ p.2 ∧ p.2 ≤ 40000000) (na : a.length ≤ 8) (nb : b.length ≤ 8) (h0 : 0 < a.length) (h1 : 0 < b.length)
    (h : hulC (suA a b) (mnF (suA a b) ((suA a b).length - 1)) 17 [mnF (suA a b) ((suA a b).length - 1)] (mnF (suA a b) ((suA a b).length - 1)) = some x) :
    callX G n_convex_Sum [da, db] = some (.own 2 x.length (x.flatMap cP)) := by
  rw [callX_eq (cf := convex_Sum) rfl]
  have hS := suA_sm ha hb
  have hl : (suA a b).length ≤ 64 ∧ 0 < (suA a b).length := by
    rw [suA_len]
    exact ⟨Nat.le_trans (Nat.mul_le_mul na nb) (by omega), Nat.mul_pos h0 h1⟩
  have sm : ∀ {l : List Pt}, (∀ p ∈ l, -40000000 ≤ p.1 ∧ p.1 ≤ 40000000 ∧ -40000000 ≤ p.2 ∧ p.2 ≤ 40000000) → ∀ p ∈ l, SmP p := fun h p hp => by have := h p hp; simp only [SmP, Sm]; omega
  have g0 := cu1_loop hra hrb (sm ha) (sm hb) (by omega) (by omega) a.length 0 [] (by omega) (by simp; omega)
  rw [List.drop_zero, List.nil_append] at g0
  have hne : suA a b ≠ [] := fun e => by rw [e] at hl; simp at hl
  have g1 := MinF_spec (d := rowE cP (suA a b)) (l := suA a b) (.inr rfl) hl.2 (by omega)
  have hf : SmP (mnF (suA a b) ((suA a b).length - 1)) := mnF_all (P := SmP) (fun i => getD_all hS smP0 i) _
  generalize suA a b = AA at *
  generalize mnF AA (AA.length - 1) = fs at *
  have g2 := l3_loop hS (by omega) 17 [fs] fs (by simp) (by simp) hf rfl h
  have ll := hra.len
  obtain ⟨f1, f2⟩ := fs
  simp only [cu1_st, cu1_en, gAE_nil, gHE_nil, gAE_ne hne, gHE_ne hne, arE, hupdO_none, nc0, go_sem, iv] at g0
  have n6 := flat1P f1 f2
  simp only [l3_st, l3_en, bxP, frO, arE, n6, rowE, List.length_singleton, List.map_cons, List.map_nil, hupdO_none, hupdO_47_41, go_sem, iv] at g2
  simp only [encP, cP, rowE, iv] at g1
  simp -implicitDefEqProofs (maxSteps := 10000000) only [convex_Sum, frzSt, frO, g0, g1, g2, ll, nc0, rowE, bxP, frO, arE, allD_E, refsL_E, rep1_2, fillB, partsB, oneI, srcS, src, allD, List.map_cons, List.map_nil, List.length_cons, List.length_nil, Nat.zero_add, Int.toNat_natCast, hupdO_none, hupdO_47_41, st2p, ld2p, go_sem, iv, bv, reduceCtorEq, ↓reduceIte, Nat.reduceEqDiff]
end Go.AM

/- ref12.Sum. -/
namespace Go.AM
open Go Go.RowKit
def r0_st (da db : D) (L : List Pt) (i k : Int) : St := mkS [(0, .d da), (1, .d db), (5, gAE 57 L), (6, ai i), (7, ai k)] (gHE cP 2 57 L)
def r1_st (da db : D) (L : List Pt) (i : Int) : St := mkS [(0, .d da), (1, .d db), (5, gAE 57 L), (6, ai i)] (gHE cP 2 57 L)
def r1_en (L : List Pt) : St := mkS [(5, gAE 57 L)] (gHE cP 2 57 L)
def r2_st (L : List Pt) (p : Pt) (i : Int) : St := mkS [(5, .own [57] L.length), (8, .ptr [8] 0), (9, ai i)] [([8], bxP p.1 p.2), ([57], arE cP 2 L.length L)]
def r2_en (L : List Pt) (p : Pt) : St := mkS [(5, .own [57] L.length), (8, .ptr [8] 0)] [([8], bxP p.1 p.2), ([57], arE cP 2 L.length L)]
def r3_st (L O : List Pt) (fs last : Pt) (i : Int) (b : Bool) (k : Int) : St := mkS [(5, .own [57] L.length), (8, .ptr [8] 0), (10, .own [100] O.length), (11, .ptr [11] 0), (12, ai i), (13, ab b), (14, ai k)] [([8], bxP fs.1 fs.2), ([11], bxP last.1 last.2), ([57], arE cP 2 L.length L), ([100], arE cP 2 O.length O)]
def r3_en (L O : List Pt) (fs last : Pt) (i : Int) (b : Bool) : St := mkS [(5, .own [57] L.length), (8, .ptr [8] 0), (10, .own [100] O.length), (11, .ptr [11] 0), (12, ai i), (13, ab b)] [([8], bxP fs.1 fs.2), ([11], bxP last.1 last.2), ([57], arE cP 2 L.length L), ([100], arE cP 2 O.length O)]
def r4_st (L O : List Pt) (fs last : Pt) (i : Int) : St := mkS [(5, .own [57] L.length), (8, .ptr [8] 0), (10, .own [100] O.length), (11, .ptr [11] 0), (12, ai i)] [([8], bxP fs.1 fs.2), ([11], bxP last.1 last.2), ([57], arE cP 2 L.length L), ([100], arE cP 2 O.length O)]
def r4_en (L O : List Pt) (fs last : Pt) : St := mkS [(5, .own [57] L.length), (8, .ptr [8] 0), (10, .own [100] O.length), (11, .ptr [11] 0)] [([8], bxP fs.1 fs.2), ([11], bxP last.1 last.2), ([57], arE cP 2 L.length L), ([100], arE cP 2 O.length O)]
def r5_st (L O : List Pt) (fs : Pt) : St := mkS [(5, .own [57] L.length), (8, .ptr [8] 0), (10, .own [100] O.length)] [([8], bxP fs.1 fs.2), ([57], arE cP 2 L.length L), ([100], arE cP 2 O.length O)]
def r5_en (O : List Pt) : St := mkS [(4, .own [100] O.length)] [([100], arE cP 2 O.length O)]
def mnR (l : List Pt) : Nat → Pt
  | 0 => l.getD 0 default
  | i + 1 => if ltQ (l.getD i default) (mnR l i) = true then l.getD i default else mnR l i
theorem mnR_F (l : List Pt) : ∀ i, mnR l (i + 1) = mnF l i
  | 0 => by
    show (if ltQ (l.getD 0 default) (l.getD 0 default) = true then l.getD 0 default else l.getD 0 default) = l.getD 0 default
    split <;> rfl
  | i + 1 => by
    rw [mnR, mnR_F l i]; rfl
variable [Its]
end Go.AM

/- ref12.Sum, second part. -/
namespace Go.AM
open Go Go.RowKit
variable [Its]
end Go.AM

/- The hulls of both over natural numbers: quick for the kernel. -/
namespace Go.AM
open Go Go.RowKit
abbrev Nt := Nat × Nat
def ofN (p : Nt) : Pt := ((p.1 : Int), (p.2 : Int))
def toN (p : Pt) : Nt := ((p.1 + 100).toNat, (p.2 + 100).toNat)
def cpN (a b c : Nt) : Nat := Nat.add (Nat.add (Nat.mul b.1 c.2) (Nat.mul b.2 a.1)) (Nat.mul a.2 c.1)
def cmN (a b c : Nt) : Nat := Nat.add (Nat.add (Nat.mul b.1 a.2) (Nat.mul a.1 c.2)) (Nat.mul b.2 c.1)
def dfN (x y : Nat) : Nat := Nat.add (Nat.sub x y) (Nat.sub y x)
def faN (p q : Nt) : Nat := Nat.add (Nat.mul (dfN p.1 q.1) (dfN p.1 q.1)) (Nat.mul (dfN p.2 q.2) (dfN p.2 q.2))
def eqN (p q : Nt) : Bool := and (Nat.beq p.1 q.1) (Nat.beq p.2 q.2)
noncomputable def iteB {α : Type} (b : Bool) (x y : α) : α := Bool.rec y x b
noncomputable def frcN {α : Type} (n : Nat) (f : Nat → α) : α := Nat.rec (f 0) (fun k _ => f (Nat.succ k)) n
noncomputable def frcT {α : Type} (p : Nt) (f : Nt → α) : α := frcN p.1 fun x => frcN p.2 fun y => f (x, y)
noncomputable def frcM {α : Type} (l : List Nt) (f : List Nt → α) : α := List.rec (motive := fun _ => (List Nt → α) → α) (fun f => f []) (fun p _ ih f => frcT p fun p => ih fun l => f (p :: l)) l f
noncomputable def bsN (last best p : Nt) : Nt := iteB (eqN best last) p (iteB (Nat.ble (cmN last best p) (cpN last best p)) (iteB (and (Nat.beq (cmN last best p) (cpN last best p)) (Nat.ble (Nat.succ (faN last best)) (faN last p))) p best) p)
noncomputable def nxN (all : List Nt) (last : Nt) : Nt := all.foldl (bsN last) last
noncomputable def hulCN (all : List Nt) (first : Nt) : Nat → List Nt → Nt → Option (List Nt)
  | 0, _, _ => none
  | f + 1, out, last => frcT (nxN all last) fun z => iteB (eqN z first) (some out) (hulCN all first f (out ++ [z]) z)
def okN (last c p : Nt) : Bool := or (Nat.ble (Nat.succ (cmN last c p)) (cpN last c p)) (and (Nat.beq (cmN last c p) (cpN last c p)) (Nat.ble (faN p last) (faN c last)))
noncomputable def allN (last c : Nt) (l : List Nt) : Bool := List.rec (motive := fun _ => Bool) true (fun p _ ih => iteB (okN last c p) ih false) l
noncomputable def fndN (all : List Nt) (last : Nt) (l : List Nt) : Nt := List.rec (motive := fun _ => Nt) last (fun c _ ih => iteB (eqN c last) ih (iteB (allN last c all) c ih)) l
noncomputable def hulRN (all : List Nt) (first : Nt) : Nat → List Nt → Nt → Option (List Nt)
  | 0, _, _ => none
  | f + 1, out, last => frcT (fndN all last all) fun z => iteB (eqN z first) (some out) (hulRN all first f (out ++ [z]) z)
def ltN (p q : Nt) : Bool := or (Nat.ble (Nat.succ p.2) q.2) (and (Nat.beq p.2 q.2) (Nat.ble (Nat.succ p.1) q.1))
noncomputable def mnN (l : List Nt) (p : Nt) : Nt := l.foldl (fun p q => iteB (ltN q p) q p) p
def bkN (n : Nt) : Pt := ((n.1 : Int) - 100, (n.2 : Int) - 100)
noncomputable def hulB (a b : List Pt) : Bool :=
  frcM ((suA a b).map toN) fun all => frcT (mnN all (all.headD (0, 0))) fun first =>
  match hulCN all first 17 [first] first, hulRN all first 17 [first] first with
  | some x, some y => decide (x = y) && Nat.ble 3 x.length && Nat.ble x.length 10 && Nat.ble x.length all.length && edgB a b (x.map bkN) && ((suA a b).all fun p => decide (-100 ≤ p.1) && decide (-100 ≤ p.2)) && !((suA a b).isEmpty)
  | _, _ => false
noncomputable def hulA (c e : Int) : Bool := (bas c).all fun a => (bas e).all fun b => hulB a b
theorem frcN_eq {α : Type} (n : Nat) (f : Nat → α) : frcN n f = f n := by cases n <;> rfl
theorem frcT_eq {α : Type} (p : Nt) (f : Nt → α) : frcT p f = f p := by unfold frcT; rw [frcN_eq, frcN_eq]
theorem frcM_eq {α : Type} : ∀ (l : List Nt) (f : List Nt → α), frcM l f = f l
  | [], f => rfl
  | p :: l, f => by
    show (frcT p fun p => frcM l fun l => f (p :: l)) = _
    rw [frcT_eq, frcM_eq l]
theorem iteB_if {α : Type} (b : Bool) (x y : α) : iteB b x y = if b = true then x else y := by cases b <;> rfl
theorem ofN_inj (p q : Nt) : ofN p = ofN q ↔ p = q := by
  obtain ⟨a, b⟩ := p
  obtain ⟨c, d⟩ := q
  unfold ofN
  simp only [Prod.mk.injEq]
  omega
theorem nbeq (a b : Nat) : Nat.beq a b = true ↔ a = b := ⟨Nat.eq_of_beq_eq_true, fun h => h ▸ Nat.beq_refl _⟩
theorem eqN_iff (p q : Nt) : eqN p q = decide (ofN p = ofN q) := by
  obtain ⟨a, b⟩ := p
  obtain ⟨c, d⟩ := q
  rw [Bool.eq_iff_iff, decide_eq_true_iff, ofN_inj]
  unfold eqN
  show (Nat.beq a c && Nat.beq b d) = true ↔ _
  rw [Bool.and_eq_true, nbeq, nbeq, Prod.mk.injEq]
theorem cr_N (a b c : Nt) : crI (ofN a) (ofN b) (ofN c) = (cpN a b c : Int) - (cmN a b c : Int) := by
  unfold crI ofN
  have e1 : cpN a b c = b.1 * c.2 + b.2 * a.1 + a.2 * c.1 := rfl
  have e2 : cmN a b c = b.1 * a.2 + a.1 * c.2 + b.2 * c.1 := rfl
  rw [e1, e2]
  push_cast
  generalize (a.1 : Int) = a1
  generalize (a.2 : Int) = a2
  generalize (b.1 : Int) = b1
  generalize (b.2 : Int) = b2
  generalize (c.1 : Int) = c1
  generalize (c.2 : Int) = c2
  grind
theorem df_sq (x y : Nat) : ((x : Int) - (y : Int)) * ((x : Int) - (y : Int)) = ((dfN x y * dfN x y : Nat) : Int) := by
  have e : dfN x y = (x - y) + (y - x) := rfl
  rw [e, Int.natCast_mul]
  rcases Nat.le_total x y with h | h
  · have e1 : (((x - y) + (y - x) : Nat) : Int) = -((x : Int) - (y : Int)) := by omega
    rw [e1, Int.neg_mul_neg]
  · have e1 : (((x - y) + (y - x) : Nat) : Int) = ((x : Int) - (y : Int)) := by omega
    rw [e1]
theorem fa_N (p q : Nt) : faI (ofN p) (ofN q) = (faN p q : Int) := by
  unfold faI ofN
  dsimp only
  rw [df_sq, df_sq]
  have e : faN p q = dfN p.1 q.1 * dfN p.1 q.1 + dfN p.2 q.2 * dfN p.2 q.2 := rfl
  rw [e, Int.natCast_add]
theorem ble_lt (a b : Nat) : Nat.ble (Nat.succ a) b = decide (a < b) := by
  rw [Bool.eq_iff_iff, decide_eq_true_iff, Nat.ble_eq]
  exact Iff.rfl
theorem ble_le (a b : Nat) : Nat.ble a b = decide (a ≤ b) := by rw [Bool.eq_iff_iff, decide_eq_true_iff, Nat.ble_eq]
theorem beq_eq (a b : Nat) : Nat.beq a b = decide (a = b) := by rw [Bool.eq_iff_iff, decide_eq_true_iff, nbeq]
theorem bs_N (l b p : Nt) : bsS (ofN l) (ofN b) (ofN p) = ofN (bsN l b p) := by
  unfold bsS bsN
  rw [cr_N, fa_N, fa_N, eqN_iff, ble_le, ble_lt, beq_eq, iteB_if, iteB_if, iteB_if]
  generalize cpN l b p = u
  generalize cmN l b p = v
  generalize faN l b = s
  generalize faN l p = t
  by_cases h0 : ofN b = ofN l
  · simp only [h0, decide_true, Bool.true_or, if_true]
  · simp only [h0, decide_false, Bool.false_or, Bool.false_eq_true, if_false]
    by_cases h1 : v ≤ u
    · have h2 : ¬ ((u : Int) - (v : Int) < 0) := by omega
      simp only [h1, h2, decide_true, decide_false, Bool.false_or, if_true]
      by_cases h3 : v = u
      · have h4 : (u : Int) - (v : Int) = 0 := by omega
        by_cases h5 : s < t
        · have h6 : (s : Int) < (t : Int) := by omega
          have e : (decide (v = u)).and (decide (s < t)) = true := by simp [h3, h5]
          rw [e]
          simp only [h4, h6, decide_true, Bool.and_self, if_true]
        · have h6 : ¬ (s : Int) < (t : Int) := by omega
          have e : (decide (v = u)).and (decide (s < t)) = false := by simp [h5]
          rw [e]
          simp only [h6, decide_false, Bool.and_false, Bool.false_eq_true, if_false]
      · have h4 : ¬ (u : Int) - (v : Int) = 0 := by omega
        have e : (decide (v = u)).and (decide (s < t)) = false := by simp [h3]
        rw [e]
        simp only [h4, decide_false, Bool.false_and, Bool.false_eq_true, if_false]
    · have h2 : (u : Int) - (v : Int) < 0 := by omega
      simp only [h1, h2, decide_true, decide_false, Bool.true_or, if_true, Bool.false_eq_true, if_false]
theorem fold_N (l : Nt) : ∀ (L : List Nt) (b : Nt), (L.map ofN).foldl (bsS (ofN l)) (ofN b) = ofN (L.foldl (bsN l) b)
  | [], b => rfl
  | p :: L, b => by rw [List.map_cons, List.foldl_cons, List.foldl_cons, bs_N, fold_N l L]
theorem hulC_N (L : List Nt) (fs : Nt) : ∀ (f : Nat) (O : List Nt) (l : Nt), hulC (L.map ofN) (ofN fs) f (O.map ofN) (ofN l) = (hulCN L fs f O l).map (List.map ofN)
  | 0, _, _ => rfl
  | f + 1, O, l => by
    have e : nxC (L.map ofN) (ofN l) = ofN (nxN L l) := fold_N l L l
    rw [hulC, hulCN, e, frcT_eq, iteB_if, eqN_iff]
    by_cases h : ofN (nxN L l) = ofN fs
    · rw [if_pos h, if_pos (decide_eq_true h)]; rfl
    · rw [if_neg h, if_neg (by rw [decide_eq_false h]; simp), ← hulC_N L fs f, List.map_append]; rfl
theorem ok_N (l c p : Nt) : okQ (ofN l) (ofN c) (ofN p) = okN l c p := by
  unfold okQ okN
  rw [cr_N, fa_N, fa_N, ble_lt, ble_le, beq_eq]
  generalize cpN l c p = u
  generalize cmN l c p = v
  generalize faN p l = s
  generalize faN c l = t
  show _ = (decide (v < u) || (decide (v = u) && decide (s ≤ t)))
  rw [show decide (0 < (u : Int) - (v : Int)) = decide (v < u) from decide_eq_decide.2 (by omega), show decide ((u : Int) - (v : Int) = 0) = decide (v = u) from decide_eq_decide.2 (by omega), show decide ((s : Int) ≤ (t : Int)) = decide (s ≤ t) from decide_eq_decide.2 (by omega)]
theorem all_N (l c : Nt) : ∀ L : List Nt, (L.map ofN).all (okQ (ofN l) (ofN c)) = allN l c L
  | [] => rfl
  | p :: L => by
    show _ = iteB (okN l c p) (allN l c L) false
    rw [List.map_cons, List.all_cons, ok_N, all_N l c L, iteB_if]
    cases okN l c p <;> rfl
theorem fnd_N (all : List Nt) (l : Nt) : ∀ L : List Nt, ((L.map ofN).find? fun c => decide (c ≠ ofN l) && (all.map ofN).all (okQ (ofN l) c)).getD (ofN l) = ofN (fndN all l L)
  | [] => rfl
  | c :: L => by
    show _ = ofN (iteB (eqN c l) (fndN all l L) (iteB (allN l c all) c (fndN all l L)))
    rw [List.map_cons, List.find?_cons, all_N, eqN_iff, iteB_if, iteB_if]
    by_cases h : ofN c = ofN l
    · have e1 : decide (ofN c ≠ ofN l) = false := by simp [h]
      rw [e1, Bool.false_and, if_pos (decide_eq_true h)]
      exact fnd_N all l L
    · have e1 : decide (ofN c ≠ ofN l) = true := by simp [h]
      rw [e1, Bool.true_and, if_neg (by rw [decide_eq_false h]; simp)]
      cases allN l c all
      · exact fnd_N all l L
      · rfl
theorem hulR_N (L : List Nt) (fs : Nt) : ∀ (f : Nat) (O : List Nt) (l : Nt), hulR (L.map ofN) (ofN fs) f (O.map ofN) (ofN l) = (hulRN L fs f O l).map (List.map ofN)
  | 0, _, _ => rfl
  | f + 1, O, l => by
    have e : nxR (L.map ofN) (ofN l) = ofN (fndN L l L) := fnd_N L l L
    rw [hulR, hulRN, e, frcT_eq, iteB_if, eqN_iff]
    by_cases h : ofN (fndN L l L) = ofN fs
    · rw [if_pos h, if_pos (decide_eq_true h)]; rfl
    · rw [if_neg h, if_neg (by rw [decide_eq_false h]; simp), ← hulR_N L fs f, List.map_append]; rfl
theorem lt_N (p q : Nt) : ltQ (ofN p) (ofN q) = ltN p q := by
  unfold ltQ ltN ofN
  rw [ble_lt, ble_lt, beq_eq]
  show _ = (decide (p.2 < q.2) || (decide (p.2 = q.2) && decide (p.1 < q.1)))
  dsimp only
  rw [show decide ((p.2 : Int) < (q.2 : Int)) = decide (p.2 < q.2) from decide_eq_decide.2 (by omega), show decide ((p.2 : Int) = (q.2 : Int)) = decide (p.2 = q.2) from decide_eq_decide.2 (by omega), show decide ((p.1 : Int) < (q.1 : Int)) = decide (p.1 < q.1) from decide_eq_decide.2 (by omega)]
theorem mnR_fold (l : List Pt) : ∀ i, i ≤ l.length → mnR l i = (l.take i).foldl (fun p q => if ltQ q p = true then q else p) (l.getD 0 default)
  | 0, h => rfl
  | i + 1, h => by
    have e : l.take (i + 1) = l.take i ++ [l.getD i default] := by
      rw [List.take_add_one, List.getD_eq_getElem?_getD, List.getElem?_eq_getElem (show i < l.length by omega)]; rfl
    rw [mnR, e, List.foldl_append, ← mnR_fold l i (by omega)]; rfl
theorem mn_N : ∀ (L : List Nt) (p : Nt), (L.map ofN).foldl (fun p q => if ltQ q p = true then q else p) (ofN p) = ofN (mnN L p)
  | [], p => rfl
  | q :: L, p => by
    have e : mnN (q :: L) p = mnN L (iteB (ltN q p) q p) := rfl
    rw [List.map_cons, List.foldl_cons, lt_N, e, ← mn_N L, iteB_if]
    cases ltN q p <;> rfl
theorem to_of {p : Pt} (h : -100 ≤ p.1 ∧ -100 ≤ p.2) : ofN (toN p) = mvP 100 100 p := by
  unfold ofN toN mvP
  refine Prod.ext ?_ ?_ <;> dsimp only <;> omega
theorem bk_of (n : Nt) : mvP 100 100 (bkN n) = ofN n := by
  unfold mvP bkN ofN
  refine Prod.ext ?_ ?_ <;> dsimp only <;> omega
theorem map_mv_inj {x y : Int} : ∀ {l m : List Pt}, l.map (mvP x y) = m.map (mvP x y) → l = m
  | [], [], _ => rfl
  | [], _ :: _, h => by simp at h
  | _ :: _, [], h => by simp at h
  | p :: l, q :: m, h => by
    rw [List.map_cons, List.map_cons, List.cons.injEq] at h
    rw [(mvP_iff x y p q).1 h.1, map_mv_inj h.2]
theorem hul_of {a b : List Pt} (h : hulB a b = true) : ∃ x, Hul a b x := by
  unfold hulB at h
  rw [frcM_eq, frcT_eq] at h
  split at h
  · rename_i x y h1 h2
    simp only [Bool.and_eq_true, decide_eq_true_eq, Nat.ble_eq, Bool.not_eq_true'] at h
    obtain ⟨⟨⟨⟨⟨⟨rfl, h3⟩, h4⟩, h6⟩, h5⟩, h7⟩, h8⟩ := h
    have hne : 0 < (suA a b).length := by
      cases e : suA a b with
      | nil => rw [e] at h8; simp at h8
      | cons p l => simp
    have eL : ((suA a b).map toN).map ofN = (suA a b).map (mvP 100 100) := by
      rw [List.map_map]
      refine List.map_congr_left fun p hp => ?_
      have := List.all_eq_true.1 h7 p hp
      simp only [Bool.and_eq_true, decide_eq_true_eq] at this
      exact to_of this
    have em : ofN (mnN ((suA a b).map toN) (((suA a b).map toN).headD (0, 0))) = mvP 100 100 (mnF (suA a b) ((suA a b).length - 1)) := by
      have e1 := mnR_F ((suA a b).map (mvP 100 100)) ((suA a b).length - 1)
      rw [Nat.sub_add_cancel hne, mnF_mv _ _ _ _ (by omega)] at e1
      rw [← e1, ← mn_N, eL, mnR_fold _ _ (by simp), List.take_of_length_le (by simp)]
      congr 1
      rw [← eL]
      cases e : (suA a b).map toN with
      | nil => rw [← List.length_map toN, e] at hne; simp at hne
      | cons p l => rfl
    have hc := hulC_N ((suA a b).map toN) (mnN ((suA a b).map toN) (((suA a b).map toN).headD (0, 0))) 17 [mnN ((suA a b).map toN) (((suA a b).map toN).headD (0, 0))] (mnN ((suA a b).map toN) (((suA a b).map toN).headD (0, 0)))
    have hr := hulR_N ((suA a b).map toN) (mnN ((suA a b).map toN) (((suA a b).map toN).headD (0, 0))) 17 [mnN ((suA a b).map toN) (((suA a b).map toN).headD (0, 0))] (mnN ((suA a b).map toN) (((suA a b).map toN).headD (0, 0)))
    rw [h1] at hc
    rw [h2] at hr
    rw [List.map_singleton, em, eL] at hc hr
    have mc := hulC_mv 100 100 (suA a b) (mnF (suA a b) ((suA a b).length - 1)) 17 [mnF (suA a b) ((suA a b).length - 1)] (mnF (suA a b) ((suA a b).length - 1))
    have mr := hulR_mv 100 100 (suA a b) (mnF (suA a b) ((suA a b).length - 1)) 17 [mnF (suA a b) ((suA a b).length - 1)] (mnF (suA a b) ((suA a b).length - 1))
    rw [List.map_singleton, hc] at mc
    rw [List.map_singleton, hr] at mr
    have ex : x.map ofN = (x.map bkN).map (mvP 100 100) := by
      rw [List.map_map]
      exact List.map_congr_left fun n _ => (bk_of n).symm
    rw [Option.map_some, ex] at mc mr
    have key : ∀ o : Option (List Pt), some ((x.map bkN).map (mvP 100 100)) = o.map (List.map (mvP 100 100)) → o = some (x.map bkN) := by
      intro o ho
      cases o with
      | none => cases ho
      | some z =>
        rw [Option.map_some, Option.some.injEq] at ho
        rw [map_mv_inj ho]
    unfold edgB at h5
    rw [Bool.and_eq_true, List.all_eq_true, List.all_eq_true] at h5
    rw [List.length_map] at h6
    refine ⟨x.map bkN, key _ mc, key _ mr, by rw [List.length_map]; exact h3, by rw [List.length_map]; exact h4, fun d hd => ?_, fun i hi => ?_, by rw [List.length_map]; exact h6⟩
    · obtain ⟨i, hi, e⟩ := List.any_eq_true.1 (h5.1 d hd)
      exact ⟨i, List.mem_range.1 hi, e⟩
    · obtain ⟨d, hd, e⟩ := List.any_eq_true.1 (h5.2 i (List.mem_range.2 hi))
      exact ⟨d, hd, e⟩
  · cases h
end Go.AM

/- The hulls of all pairs of base shapes, by the kernel (part 1). -/
namespace Go.AM
open Go Go.RowKit
theorem hul_22 : hulA 2 2 = true := by kernel_rfl
theorem hul_23 : hulA 2 3 = true := by kernel_rfl
theorem hul_24 : hulA 2 4 = true := by kernel_rfl
theorem hul_26 : hulA 2 6 = true := by kernel_rfl
end Go.AM

/- The hulls of all pairs of base shapes, by the kernel (part 2). -/
namespace Go.AM
open Go Go.RowKit
theorem hul_25 : hulA 2 5 = true := by kernel_rfl
theorem hul_32 : hulA 3 2 = true := by kernel_rfl
theorem hul_33 : hulA 3 3 = true := by kernel_rfl
theorem hul_34 : hulA 3 4 = true := by kernel_rfl
theorem hul_36 : hulA 3 6 = true := by kernel_rfl
theorem hul_42 : hulA 4 2 = true := by kernel_rfl
theorem hul_43 : hulA 4 3 = true := by kernel_rfl
theorem hul_44 : hulA 4 4 = true := by kernel_rfl
theorem hul_46 : hulA 4 6 = true := by kernel_rfl
end Go.AM

/- The hulls of all pairs of base shapes, by the kernel (part 3). -/
namespace Go.AM
open Go Go.RowKit
theorem hul_52 : hulA 5 2 = true := by kernel_rfl
theorem hul_62 : hulA 6 2 = true := by kernel_rfl
theorem hul_63 : hulA 6 3 = true := by kernel_rfl
theorem hul_64 : hulA 6 4 = true := by kernel_rfl
theorem hul_66 : hulA 6 6 = true := by kernel_rfl
theorem hul_35 : hulA 3 5 = true := by kernel_rfl
theorem hul_53 : hulA 5 3 = true := by kernel_rfl
end Go.AM

/- The hulls of all pairs of base shapes, by the kernel (part 4). -/
namespace Go.AM
open Go Go.RowKit
theorem hul_55 : hulA 5 5 = true := by kernel_rfl
theorem hul_45 : hulA 4 5 = true := by kernel_rfl
theorem hul_54 : hulA 5 4 = true := by kernel_rfl
theorem hul_56 : hulA 5 6 = true := by kernel_rfl
theorem hul_65 : hulA 6 5 = true := by kernel_rfl
end Go.AM

/- Supports, plain: the directions of the shapes; a point of a shape is no further along them than Most. -/
namespace Go.AM
open Go Go.RowKit
def twD : List Dr := [(0, -1, 1), (0, 1, 1), (1, 0, 1), (-1, 0, 1), (3, 4, 5), (3, -4, 5), (-3, 4, 5), (-3, -4, 5), (4, 3, 5), (4, -3, 5), (-4, 3, 5), (-4, -3, 5)]
def pvI (l : List Pt) (i : Nat) : Nat := (i + l.length - 1) % l.length
def dtD (l : List Pt) (p i : Nat) : Int := sdx l p * sdy l i - sdy l p * sdx l i
def dtP (l : List Pt) (n : Dr) (i : Nat) : Int := n.1 * -(sdx l i) - n.2.1 * sdy l i
def dtQ (l : List Pt) (n : Dr) (p : Nat) : Int := sdy l p * n.2.1 + sdx l p * n.1
def coneB (l : List Pt) (n : Dr) : Bool := (List.range l.length).any fun i => decide (pvI l i < l.length) && decide (nxP l (pvI l i) = l.getD i default) && decide (0 < dtD l (pvI l i) i) && decide (0 ≤ dtP l n i) && decide (0 ≤ dtQ l n (pvI l i))
def onB (l : List Pt) : Bool := (List.range l.length).all fun i => decide (moP (sdN l i) l = dotI (sdN l i) (l.getD i default)) && twD.contains (sdN l i)
def chkU (l : List Pt) : Bool := onB l && twD.all fun n => coneB l n
theorem chkU_all : ((List.range 7).all fun c => (List.range 3).all fun k => (List.range 6).all fun m => chkU (spB (c : Int) (1 + (k : Int)) (1 + (m : Int)))) = true := by kernel_rfl
theorem spB_chkU {c k m : Int} (hc : 0 ≤ c ∧ c < 7) (hk : 1 ≤ k ∧ k < 4) (hm : 1 ≤ m ∧ m < 7) : chkU (spB c k m) = true := by
  have h := chkU_all
  rw [List.all_eq_true] at h
  have h1 := h c.toNat (List.mem_range.2 (by omega))
  rw [List.all_eq_true] at h1
  have h2 := h1 (k - 1).toNat (List.mem_range.2 (by omega))
  rw [List.all_eq_true] at h2
  have h3 := h2 (m - 1).toNat (List.mem_range.2 (by omega))
  rwa [show ((c.toNat : Nat) : Int) = c by omega, show 1 + (((k - 1).toNat : Nat) : Int) = k by omega, show 1 + (((m - 1).toNat : Nat) : Int) = m by omega] at h3
def Cone (l : List Pt) (n : Dr) : Prop := ∃ i p, i < l.length ∧ p < l.length ∧ nxP l p = l.getD i default ∧ 0 < dtD l p i ∧ 0 ≤ dtP l n i ∧ 0 ≤ dtQ l n p
theorem cone_of {l : List Pt} {n : Dr} (h : coneB l n = true) : Cone l n := by
  unfold coneB at h
  rw [List.any_eq_true] at h
  obtain ⟨i, hi, h⟩ := h
  simp only [Bool.and_eq_true, decide_eq_true_eq] at h
  obtain ⟨⟨⟨⟨h1, h2⟩, h3⟩, h4⟩, h5⟩ := h
  exact ⟨i, _, List.mem_range.1 hi, h1, h2, h3, h4, h5⟩
theorem cone_mv {l : List Pt} {n : Dr} (x y : Int) (h : Cone l n) : Cone (l.map (mvP x y)) n := by
  obtain ⟨i, p, hi, hp, h1, h2, h3, h4⟩ := h
  refine ⟨i, p, by rw [List.length_map]; exact hi, by rw [List.length_map]; exact hp, ?_, ?_, ?_, ?_⟩
  · rw [mv_nx _ _ hp, mv_getD _ _ hi, h1]
  · unfold dtD at *
    rw [mv_sdx _ _ hp, mv_sdx _ _ hi, mv_sdy _ _ hp, mv_sdy _ _ hi]
    exact h2
  · unfold dtP at *
    rw [mv_sdx _ _ hi, mv_sdy _ _ hi]
    exact h3
  · unfold dtQ at *
    rw [mv_sdx _ _ hp, mv_sdy _ _ hp]
    exact h4
theorem sup_sh (l : List Int) : (∀ i, i < (spP l).length → moP (sdN (spP l) i) (spP l) = dotI (sdN (spP l) i) ((spP l).getD i default) ∧ sdN (spP l) i ∈ twD) ∧ ∀ n ∈ twD, Cone (spP l) n := by
  obtain ⟨h1, h2, h3, h4, h5⟩ := sh_b l
  have h := spB_chkU h1 h2 h3
  unfold chkU at h
  rw [Bool.and_eq_true] at h
  obtain ⟨ho, hc⟩ := h
  unfold spP
  generalize spB (spC l) (spK l) (spM l) = b at *
  generalize spX l = x at *
  generalize spY l = y at *
  constructor
  · intro i hi
    rw [List.length_map] at hi
    unfold onB at ho
    rw [List.all_eq_true] at ho
    have h6 := ho i (List.mem_range.2 hi)
    rw [Bool.and_eq_true, decide_eq_true_eq, List.contains_iff_mem] at h6
    rw [mv_sdN _ _ hi, moP_mv _ _ _ (by omega), h6.1, mv_getD _ _ hi]
    refine ⟨?_, h6.2⟩
    unfold dotI mvP
    dsimp only
    rw [Int.mul_add, Int.mul_add]
    omega
  · intro n hn
    rw [List.all_eq_true] at hc
    exact cone_mv x y (cone_of (hc n hn))
theorem twD_tn {d : Dr} (h : d ∈ twD) : tnD d ∈ twD := by
  have : (twD.all fun d => twD.contains (tnD d)) = true := by kernel_rfl
  rw [List.all_eq_true] at this
  have h1 := this d h
  rwa [List.contains_iff_mem] at h1
theorem drs_all {a b : List Pt} (ha : ∀ i, i < a.length → sdN a i ∈ twD) (hb : ∀ i, i < b.length → sdN b i ∈ twD) {d : Dr} (h : d ∈ drs a b) : d ∈ twD := by
  unfold drs at h
  rcases List.mem_append.1 h with h | h
  · obtain ⟨i, hi, rfl⟩ := List.mem_map.1 h
    exact ha i (List.mem_range.1 hi)
  · obtain ⟨i, hi, rfl⟩ := List.mem_map.1 h
    exact twD_tn (hb i (List.mem_range.1 hi))
theorem sd_all (l m : List Int) {e : Eg} (he : e ∈ sdP (spP l) (spP m)) : e.1 ∈ twD := by
  rw [sdP_uq] at he
  obtain ⟨d, hd, rfl⟩ := List.mem_map.1 he
  exact drs_all (fun i hi => ((sup_sh l).1 i hi).2) (fun i hi => ((sup_sh m).1 i hi).2) ((uqS_mem _ _).1 hd)
theorem mst_ge (d : Dr) (l : List Pt) : ∀ k i, i < k → dotI d (l.getD i default) ≤ mstN d l k
  | 0, i, h => by omega
  | k + 1, i, h => by
    rw [mstN]
    by_cases hk : i = k
    · subst hk; omega
    · have := mst_ge d l k i (by omega)
      omega
theorem cram {n1 n2 px py qx qy x y : Rat} (hD : 0 < px * qy - py * qx) (hP : 0 ≤ n1 * -qx - n2 * qy) (hQ : 0 ≤ py * n2 + px * n1) (hU : py * x ≤ px * y) (hW : qy * x ≤ qx * y) : n1 * x + n2 * y ≤ 0 := by
  refine Rat.not_lt.1 fun hs => ?_
  have h1 := Rat.mul_pos hD hs
  have h2 : 0 ≤ (n1 * -qx - n2 * qy) * (px * y - py * x) := Rat.mul_nonneg hP (by grind)
  have h3 : 0 ≤ (py * n2 + px * n1) * (qx * y - qy * x) := Rat.mul_nonneg hQ (by grind)
  grind
theorem sup_le {l : List Pt} {n : Dr} {v : Vc} (hC : Cone l n) (hH : ∀ k, k < l.length → hsB l v k ≤ hsA l v k) : dotR n v ≤ (moP n l : Rat) := by
  obtain ⟨i, p, hi, hp, h1, h2, h3, h4⟩ := hC
  have b1 := hH i hi
  have b2 := hH p hp
  have hm : dotI n (l.getD i default) ≤ moP n l := mst_ge n l _ i hi
  unfold hsA hsB at b1 b2
  unfold dtD sdx sdy at h2
  unfold dtP sdx sdy at h3
  unfold dtQ sdx sdy at h4
  rw [h1] at b2 h2 h4
  generalize l.getD i default = c at *
  generalize l.getD p default = a at *
  generalize nxP l i = q at *
  have hm' : ((dotI n c : Int) : Rat) ≤ (moP n l : Rat) := Rat.intCast_le_intCast.2 hm
  refine Rat.le_trans ?_ hm'
  obtain ⟨c1, c2⟩ := c
  obtain ⟨a1, a2⟩ := a
  obtain ⟨q1, q2⟩ := q
  obtain ⟨n1, n2, n3⟩ := n
  obtain ⟨v1, v2⟩ := v
  have h2' := Rat.intCast_lt_intCast.2 h2
  have h3' := Rat.intCast_le_intCast.2 h3
  have h4' := Rat.intCast_le_intCast.2 h4
  unfold dotR dotI
  dsimp only at *
  simp only [Rat.intCast_sub, Rat.intCast_mul, Rat.intCast_add, Rat.intCast_neg, Rat.intCast_zero] at *
  generalize (c1 : Rat) = C1 at *
  generalize (c2 : Rat) = C2 at *
  generalize (a1 : Rat) = A1 at *
  generalize (a2 : Rat) = A2 at *
  generalize (q1 : Rat) = Q1 at *
  generalize (q2 : Rat) = Q2 at *
  generalize (n1 : Rat) = N1 at *
  generalize (n2 : Rat) = N2 at *
  have := cram (n1 := N1) (n2 := N2) (px := C1 - A1) (py := C2 - A2) (qx := Q1 - C1) (qy := Q2 - C2) (x := v1 - C1) (y := v2 - C2) h2' h3' h4' (by grind) b1
  grind
end Go.AM

/- The hulls of all pairs of shapes. -/
namespace Go.AM
open Go Go.RowKit
theorem hul_bas {e f : Int} (he : e ∈ ([2, 3, 4, 5, 6] : List Int)) (hf : f ∈ ([2, 3, 4, 5, 6] : List Int)) : hulA e f = true := by
  simp only [List.mem_cons, List.not_mem_nil, or_false] at he hf
  rcases he with rfl | rfl | rfl | rfl | rfl <;> rcases hf with rfl | rfl | rfl | rfl | rfl
  · exact hul_22
  · exact hul_23
  · exact hul_24
  · exact hul_25
  · exact hul_26
  · exact hul_32
  · exact hul_33
  · exact hul_34
  · exact hul_35
  · exact hul_36
  · exact hul_42
  · exact hul_43
  · exact hul_44
  · exact hul_45
  · exact hul_46
  · exact hul_52
  · exact hul_53
  · exact hul_54
  · exact hul_55
  · exact hul_56
  · exact hul_62
  · exact hul_63
  · exact hul_64
  · exact hul_65
  · exact hul_66
theorem hulC_all {P : Pt → Prop} {all : List Pt} {fs : Pt} (hA : ∀ p ∈ all, P p) {x : List Pt} : ∀ (f : Nat) (O : List Pt) (l : Pt), (∀ p ∈ O, P p) → P l → hulC all fs f O l = some x → ∀ p ∈ x, P p
  | 0, _, _, _, _, h => by cases h
  | f + 1, O, l, hO, hl, h => by
    have hz : P (nxC all l) := by
      have : ∀ (L : List Pt) (b : Pt), (∀ p ∈ L, P p) → P b → P (L.foldl (bsS l) b) := by
        intro L
        induction L with
        | nil => intro b _ hb; exact hb
        | cons p L ih =>
          intro b hL hb
          rw [List.foldl_cons]
          refine ih _ (fun q hq => hL q (List.mem_cons_of_mem _ hq)) ?_
          unfold bsS
          split
          · exact hL p (List.mem_cons_self ..)
          · exact hb
      exact this all l hA hl
    rw [hulC] at h
    split at h
    · cases h; exact hO
    · refine hulC_all hA f _ _ ?_ hz h
      intro p hp
      rcases List.mem_append.1 hp with hp | hp
      · exact hO p hp
      · rw [List.mem_singleton.1 hp]; exact hz
theorem sp_small (l : List Int) : ∀ p ∈ spP l, -40 ≤ p.1 ∧ p.1 ≤ 40 ∧ -40 ≤ p.2 ∧ p.2 ≤ 40 := by
  intro p hp
  obtain ⟨h1, h2, h3, h4, h5⟩ := sh_b l
  obtain ⟨q, hq, rfl⟩ := List.mem_map.1 hp
  have := spB_sm (c := spC l) h2 h3 q hq
  unfold mvP
  dsimp only
  omega
theorem hul_sh (l m : List Int) : ∃ x, Hul (spP l) (spP m) x ∧ ∀ p ∈ x, -80 ≤ p.1 ∧ p.1 ≤ 80 ∧ -80 ≤ p.2 ∧ p.2 ≤ 80 := by
  obtain ⟨h1, h2, h3, h4, h5⟩ := sh_b l
  obtain ⟨k1, k2, k3, k4, k5⟩ := sh_b m
  obtain ⟨e, he, ma⟩ := bas_mem h1 h2 h3
  obtain ⟨f, hf, mb⟩ := bas_mem k1 k2 k3
  have h := hul_bas he hf
  unfold hulA at h
  rw [List.all_eq_true] at h
  have h := h _ ma
  rw [List.all_eq_true] at h
  obtain ⟨x, hx⟩ := hul_of (h _ mb)
  have la := spB_len (spC l) (spK l) (spM l)
  have lb := spB_len (spC m) (spK m) (spM m)
  have := hul_mv (spX l) (spY l) (spX m) (spY m) (by omega) (by omega) hx
  refine ⟨_, this, ?_⟩
  have hA : ∀ p ∈ suA (spP l) (spP m), -80 ≤ p.1 ∧ p.1 ≤ 80 ∧ -80 ≤ p.2 ∧ p.2 ≤ 80 := by
    intro p hp
    unfold suA at hp
    obtain ⟨q, hq, hp⟩ := List.mem_flatMap.1 hp
    unfold suR at hp
    obtain ⟨r, hr, rfl⟩ := List.mem_map.1 hp
    have := sp_small l q hq
    have := sp_small m r hr
    dsimp only
    omega
  have hne : 0 < (suA (spP l) (spP m)).length := by
    have e : 0 < (spP l).length := by unfold spP; rw [List.length_map]; omega
    have e2 : 0 < (spP m).length := by unfold spP; rw [List.length_map]; omega
    rw [suA_len]
    exact Nat.mul_pos e e2
  have hd : ∀ i, (fun p : Pt => -80 ≤ p.1 ∧ p.1 ≤ 80 ∧ -80 ≤ p.2 ∧ p.2 ≤ 80) ((suA (spP l) (spP m)).getD i default) := fun i => by
    by_cases hi : i < (suA (spP l) (spP m)).length
    · exact hA _ (by rw [List.getD_eq_getElem?_getD, List.getElem?_eq_getElem hi]; exact List.getElem_mem hi)
    · rw [List.getD_eq_getElem?_getD, List.getElem?_eq_none (by omega)]
      exact ⟨by decide, by decide, by decide, by decide⟩
  have hf0 := mnF_all (P := fun p : Pt => -80 ≤ p.1 ∧ p.1 ≤ 80 ∧ -80 ≤ p.2 ∧ p.2 ≤ 80) hd ((suA (spP l) (spP m)).length - 1)
  exact hulC_all (P := fun p : Pt => -80 ≤ p.1 ∧ p.1 ≤ 80 ∧ -80 ≤ p.2 ∧ p.2 ≤ 80) hA 17 _ _ (fun p hp => by rw [List.mem_singleton.1 hp]; exact hf0) hf0 this.c
/-- Beside the edges: inside the hull. -/
theorem hul_in {a b x : List Pt} (h : Hul a b x) {v : Vc} : hsP x v = true ↔ ∀ d ∈ uqS a b, dotR d v ≤ ((moP d a + moP (tnD d) b : Int) : Rat) := by
  have key : ∀ i d, i < x.length → onE a b x d i = true → (hsB x v i ≤ hsA x v i ↔ dotR d v ≤ ((moP d a + moP (tnD d) b : Int) : Rat)) := by
    intro i d hi he
    unfold onE at he
    dsimp only at he
    generalize (if d.1 = 0 then (-(sdx x i)).tdiv d.2.1 else (sdy x i).tdiv d.1) = t at he
    simp only [Bool.and_eq_true, decide_eq_true_eq] at he
    obtain ⟨⟨⟨h0, h1⟩, h2⟩, h3⟩ := he
    rw [← h3]
    have e1 : (nxP x i).1 - (x.getD i default).1 = sdx x i := rfl
    have e2 : (nxP x i).2 - (x.getD i default).2 = sdy x i := rfl
    unfold hsA hsB dotR dotI
    rw [e1, e2, h1, show sdx x i = -(t * d.2.1) by omega]
    generalize x.getD i default = p
    obtain ⟨n1, n2, n3⟩ := d
    obtain ⟨p1, p2⟩ := p
    obtain ⟨v1, v2⟩ := v
    dsimp only
    have ht : (0 : Rat) < (t : Rat) := by exact_mod_cast h0
    push_cast
    generalize (t : Rat) = T at *
    generalize (n1 : Rat) = N1
    generalize (n2 : Rat) = N2
    generalize (p1 : Rat) = P1
    generalize (p2 : Rat) = P2
    constructor
    · intro h
      have h4 : T * (N1 * v1 + N2 * v2) ≤ T * (N1 * P1 + N2 * P2) := by grind
      exact Rat.le_of_mul_le_mul_left h4 ht
    · intro h
      have h4 : T * (N1 * v1 + N2 * v2) ≤ T * (N1 * P1 + N2 * P2) := Rat.mul_le_mul_of_nonneg_left h (Rat.le_of_lt ht)
      grind
  constructor
  · intro hh d hd
    obtain ⟨i, hi, he⟩ := h.one d hd
    exact (key i d hi he).1 (hsP_at hh hi)
  · intro hh
    have : ∀ j i, i + j = x.length → hsF x v j i = true := by
      intro j
      induction j with
      | zero => intro i _; rfl
      | succ j ih =>
        intro i hi
        obtain ⟨d, hd, he⟩ := h.two i (by omega)
        have := (key i d (by omega) he).2 (hh d hd)
        rw [hsF, if_neg (by rw [decide_eq_false (Rat.not_lt.2 this)]; simp)]
        exact ih (i + 1) (by omega)
    exact this x.length 0 (by omega)
end Go.AM

