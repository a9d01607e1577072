/- Part 10 of the proof: a small machine, its soundness against the model, and what the program's functions compute on it. -/
import Derived.Test.YtpcoidklfmaomaaM9
import Derived.Test.YtpcoidklfmaomaaM6
import Derived.Test.YtpcoidklfmaomaaRows
import Derived.WalkKit
import Derived.ProofKit
import Derived.OpenShut
import Derived.ShutString
import Derived.ChangeOld
import Derived.Below
import Derived.SizedLaws
set_option linter.unusedVariables false
set_option linter.unusedSimpArgs false
/- convex: Area, Valid; searching rows of points. -/
namespace Go.AM
open Go Go.RowKit

def fiQ (p : Pt → Bool) (O : List Pt) : Nat → Nat → Int
  | 0, _ => -1
  | j + 1, i => if p (O.getD i default) then (i : Int) else fiQ p O j (i + 1)
theorem fiQ_any (p : Pt → Bool) (O : List Pt) : ∀ j i : Nat, i + j = O.length → (decide (fiQ p O j i ≥ 0) = (O.drop i).any p)
  | 0, i, h => by rw [List.drop_eq_nil_of_le (by omega)]; rfl
  | j + 1, i, h => by
    have hi : i < O.length := by omega
    rw [drop_getD hi, List.any_cons, fiQ]
    cases hp : p (O.getD i default) with
    | true => simp
    | false => simp only [Bool.false_eq_true, if_false, Bool.false_or]; exact fiQ_any p O j (i + 1) (by omega)

def arN (l : List Pt) : Nat → Int
  | 0 => 0
  | i + 1 => arN l i + crI (l.getD 0 default) (l.getD i default) (nxP l i)
theorem crI_b {a b c : Pt} (ha : SmP a) (hb : SmP b) (hc : SmP c) : -80000000000000000 ≤ crI a b c ∧ crI a b c ≤ 80000000000000000 := by
  obtain ⟨h1, h2⟩ := ha
  obtain ⟨h3, h4⟩ := hb
  obtain ⟨h5, h6⟩ := hc
  simp only [Sm] at h1 h2 h3 h4 h5 h6
  have bb : ∀ u v : Int, -200000000 ≤ u ∧ u ≤ 200000000 → -200000000 ≤ v ∧ v ≤ 200000000 → -40000000000000000 ≤ u * v ∧ u * v ≤ 40000000000000000 := by
    intro u v hu hv
    have h1 : (u * v).natAbs ≤ 200000000 * 200000000 := by
      rw [Int.natAbs_mul]
      exact Nat.mul_le_mul (by omega) (by omega)
    omega
  have m1 := bb (b.1 - a.1) (c.2 - a.2) (by omega) (by omega)
  have m2 := bb (b.2 - a.2) (c.1 - a.1) (by omega) (by omega)
  unfold crI
  omega
theorem nxP_sm {l : List Pt} (hl : ∀ p ∈ l, SmP p) (i : Nat) : SmP (nxP l i) := by unfold nxP; split <;> exact getD_all hl smP0 _
theorem arN_b {l : List Pt} (hl : ∀ p ∈ l, SmP p) : ∀ i : Nat, -80000000000000000 * (i : Int) ≤ arN l i ∧ arN l i ≤ 80000000000000000 * (i : Int)
  | 0 => by simp [arN]
  | i + 1 => by
    have ih := arN_b hl i
    have := crI_b (getD_all hl smP0 0) (getD_all hl smP0 i) (nxP_sm hl i)
    rw [arN]
    omega
/-- Each other corner is on the left. -/
def cvB (l : List Pt) : Bool := (List.range l.length).all fun i => (List.range l.length).all fun k => k == i || k == (i + 1) % l.length || decide (0 < crI (l.getD i default) (nxP l i) (l.getD k default))
theorem cvB_at {l : List Pt} (h : cvB l = true) {i k : Nat} (hi : i < l.length) (hk : k < l.length) (h1 : k ≠ i) (h2 : k ≠ (i + 1) % l.length) : 0 < crI (l.getD i default) (nxP l i) (l.getD k default) := by
  unfold cvB at h
  rw [List.all_eq_true] at h
  have h3 := h i (List.mem_range.2 hi)
  rw [List.all_eq_true] at h3
  have h4 := h3 k (List.mem_range.2 hk)
  simp only [Bool.or_eq_true, beq_iff_eq, decide_eq_true_eq] at h4
  rcases h4 with (h4 | h4) | h4
  · exact absurd h4 h1
  · exact absurd h4 h2
  · exact h4
structure Lim (l : List Pt) : Prop where
  cv : cvB l = true
  lo : 3 ≤ l.length
  hi : l.length ≤ 8
  bd : ∀ p ∈ l, (-1048576 ≤ p.1 ∧ p.1 ≤ 1048576) ∧ (-1048576 ≤ p.2 ∧ p.2 ≤ 1048576)
def ar_st (d : D) (s n i : Int) : St := mkS [(0, .d d), (3, ai s), (6, ai n), (7, ai i)] []
def ar_en (s : Int) : St := mkS [(3, ai s)] []
def vl0_st (d : D) (i n j m k : Int) : St := mkS [(0, .d d), (4, ai i), (20, ai n), (21, ai j), (38, ai m), (39, ai k)] []
def vl0_en (d : D) (n j : Int) : St := mkS [(0, .d d), (20, ai n), (21, ai j)] []
def vl1_st (d : D) (n j : Int) : St := mkS [(0, .d d), (20, ai n), (21, ai j)] []
variable [Its]
/-! ### Searching -/
section
variable {d : D} {O : List Pt} {f : Nat} {caps : List D} {p : Pt → Bool}
def ixQ_st (d : D) (f : Nat) (caps : List D) (n i : Int) : St := mkS [(0, .d d), (1, .d (.fn f caps)), (7, ai n), (8, ai i)] []
theorem ixQ_no (hr : RwE cP d O) (hn : O.length ≤ 1000000) {i : Nat} (hi : i < O.length) (hf : callX G f (encP (O.getD i default) :: caps) = some (.d (bv false))) : X G slices_IndexFunc_api_Point_api_Point_l0 (ixQ_st d f caps O.length i) = some (.n, ixQ_st d f caps O.length ((i + 1 : Nat) : Int)) := by
  have e1 : decide ((i : Int) < (O.length : Int)) = true := lt_t (by omega)
  have e2 : w64 ((i : Int) + 1) = ((i + 1 : Nat) : Int) := by rw [w64_id (by omega) (by omega)]; rfl
  have x1 := hr.ixa cP_len hi
  have x2 := fun hp => ldE cP_len hp hi
  generalize O.getD i default = e at *
  obtain ⟨a, b⟩ := e
  simp only [encP, cP, iv, bv] at hf x2
  simp -implicitDefEqProofs (maxSteps := 10000000) only [slices_IndexFunc_api_Point_api_Point_l0, ixQ_st, x1, x2, e1, e2, hf, List.cons_append, List.nil_append, go_sem, iv, bv, reduceCtorEq, ↓reduceIte, Nat.reduceEqDiff]
theorem ixQ_yes (hr : RwE cP d O) (hn : O.length ≤ 1000000) {i : Nat} (hi : i < O.length) (hf : callX G f (encP (O.getD i default) :: caps) = some (.d (bv true))) : X G slices_IndexFunc_api_Point_api_Point_l0 (ixQ_st d f caps O.length i) = some (.r, mkS [(4, ai i)] []) := by
  have e1 : decide ((i : Int) < (O.length : Int)) = true := lt_t (by omega)
  have x1 := hr.ixa cP_len hi
  have x2 := fun hp => ldE cP_len hp hi
  generalize O.getD i default = e at *
  obtain ⟨a, b⟩ := e
  simp only [encP, cP, iv, bv] at hf x2
  simp -implicitDefEqProofs (maxSteps := 10000000) only [slices_IndexFunc_api_Point_api_Point_l0, ixQ_st, x1, x2, e1, hf, List.cons_append, List.nil_append, go_sem, iv, bv, reduceCtorEq, ↓reduceIte, Nat.reduceEqDiff]
theorem ixQ_stop : X G slices_IndexFunc_api_Point_api_Point_l0 (ixQ_st d f caps O.length O.length) = some (.x 0, mkS [] []) := by
  have e1 : decide ((O.length : Int) < (O.length : Int)) = false := lt_f (by omega)
  simp -implicitDefEqProofs (maxSteps := 10000000) only [slices_IndexFunc_api_Point_api_Point_l0, ixQ_st, e1, go_sem, iv, bv, reduceCtorEq, ↓reduceIte, Nat.reduceEqDiff]
/-- The place of the first that has it, from i on; -1 if none has. -/
theorem ixQ_loop (hr : RwE cP d O) (hn : O.length ≤ 1000000) (hf : ∀ i, i < O.length → callX G f (encP (O.getD i default) :: caps) = some (.d (bv (p (O.getD i default))))) : ∀ j i : Nat, i + j = O.length →
    X G (.loop slices_IndexFunc_api_Point_api_Point_l0) (ixQ_st d f caps O.length i) = (if fiQ p O j i = -1 then some (.x 0, mkS [] []) else some (.r, mkS [(4, ai (fiQ p O j i))] []))
  | 0, i, h => by
    have : i = O.length := by omega
    subst this
    rw [X_loop, ixQ_stop]; rfl
  | j + 1, i, h => by
    have hi : i < O.length := by omega
    have hh := hf i hi
    rw [fiQ]
    cases hp : p (O.getD i default) with
    | true =>
      rw [hp] at hh
      rw [X_loop, ixQ_yes hr hn hi hh, if_pos rfl, if_neg (by omega)]; rfl
    | false =>
      rw [hp] at hh
      simp only [Bool.false_eq_true, if_false]
      rw [X_loop, ixQ_no hr hn hi hh, Option.bind_some, if_pos rfl]
      exact ixQ_loop hr hn hf j (i + 1) (by omega)
theorem IndexQ_spec (hr : RwE cP d O) (hn : O.length ≤ 1000000) (hf : ∀ i, i < O.length → callX G f (encP (O.getD i default) :: caps) = some (.d (bv (p (O.getD i default))))) : callX G n_slices_IndexFunc_api_Point_api_Point [d, .fn f caps] = some (.d (iv (fiQ p O O.length 0))) := by
  rw [callX_eq (cf := slices_IndexFunc_api_Point_api_Point) rfl]
  have ll := hr.len
  have h := ixQ_loop hr hn hf O.length 0 (by omega)
  simp only [ixQ_st, go_sem, nc0] at h
  generalize fiQ p O O.length 0 = z at *
  by_cases hz : z = -1
  · subst hz
    simp only [if_true] at h
    simp -implicitDefEqProofs (maxSteps := 10000000) only [slices_IndexFunc_api_Point_api_Point, h, ll, go_sem, iv, bv, reduceCtorEq, ↓reduceIte, Nat.reduceEqDiff]
  · rw [if_neg hz] at h
    simp -implicitDefEqProofs (maxSteps := 10000000) only [slices_IndexFunc_api_Point_api_Point, h, ll, go_sem, iv, bv, reduceCtorEq, ↓reduceIte, Nat.reduceEqDiff]
end
theorem ContQ_spec {d : D} {O : List Pt} {f : Nat} {caps : List D} {p : Pt → Bool} (hr : RwE cP d O) (hn : O.length ≤ 1000000) (hf : ∀ i, i < O.length → callX G f (encP (O.getD i default) :: caps) = some (.d (bv (p (O.getD i default))))) : callX G n_slices_ContainsFunc_api_Point_api_Point [d, .fn f caps] = some (.d (bv (O.any p))) := by
  rw [callX_eq (cf := slices_ContainsFunc_api_Point_api_Point) rfl]
  have g := IndexQ_spec hr hn hf
  have e1 := fiQ_any p O O.length 0 (by omega)
  rw [List.drop_zero] at e1
  generalize fiQ p O O.length 0 = z at *
  generalize O.any p = t at *
  simp only [iv] at g
  simp -implicitDefEqProofs (maxSteps := 10000000) only [slices_ContainsFunc_api_Point_api_Point, g, e1, go_sem, iv, bv, reduceCtorEq, ↓reduceIte, Nat.reduceEqDiff]

theorem ar_go {d : D} {l : List Pt} (hr : RwE cP d l) (hl : ∀ p ∈ l, SmP p) (hn : l.length ≤ 10) {i : Nat} (hi : i < l.length) : X G convex_Area_l0 (ar_st d (arN l i) l.length i) = some (.n, ar_st d (arN l (i + 1)) l.length ((i + 1 : Nat) : Int)) := by
  have e1 : decide ((i : Int) < (l.length : Int)) = true := lt_t (by omega)
  have e2 : w64 ((i : Int) + 1) = ((i + 1 : Nat) : Int) := by rw [w64_id (by omega) (by omega)]; rfl
  have x1 := hr.ixa cP_len hi
  have x2 := fun hp => ldE cP_len hp hi
  have x3 := hr.ixa (j := 0) cP_len (by omega)
  have x4 := fun hp => ldE (j := 0) (l := l) cP_len hp (by omega)
  have g1 := cnext_spec hr hi (by omega)
  have g2 := cross_spec (getD_all hl smP0 0) (getD_all hl smP0 i) (nxP_sm hl i)
  have b1 := arN_b hl i
  have b2 := crI_b (getD_all hl smP0 0) (getD_all hl smP0 i) (nxP_sm hl i)
  rw [arN]
  obtain ⟨z, hz⟩ : ∃ z, arN l i + crI (l.getD 0 default) (l.getD i default) (nxP l i) = z := ⟨_, rfl⟩
  have e3 : w64 (arN l i + crI (l.getD 0 default) (l.getD i default) (nxP l i)) = z := by rw [w64_id (by omega) (by omega), hz]
  rw [hz]
  generalize crI (l.getD 0 default) (l.getD i default) (nxP l i) = c at *
  generalize arN l i = s at *
  generalize nxP l i = q1 at *
  generalize l.getD i default = q2 at *
  generalize l.getD 0 default = q3 at *
  obtain ⟨a1, a2⟩ := q1
  obtain ⟨b1, b2⟩ := q2
  obtain ⟨c1, c2⟩ := q3
  simp only [nc0, List.drop_zero] at x3 x4
  simp only [encP, cP, iv] at x2 x4 g1 g2
  simp -implicitDefEqProofs (maxSteps := 10000000) only [convex_Area_l0, ar_st, x1, x2, x3, x4, g1, g2, e1, e2, e3, go_sem, iv, bv, reduceCtorEq, ↓reduceIte, Nat.reduceEqDiff]
theorem ar_stop {d : D} {l : List Pt} {s : Int} : X G convex_Area_l0 (ar_st d s l.length l.length) = some (.x 0, ar_en s) := by
  have e1 : decide ((l.length : Int) < (l.length : Int)) = false := lt_f (by omega)
  simp -implicitDefEqProofs (maxSteps := 10000000) only [convex_Area_l0, ar_st, ar_en, e1, go_sem, iv, bv, reduceCtorEq, ↓reduceIte, Nat.reduceEqDiff]
theorem ar_loop {d : D} {l : List Pt} (hr : RwE cP d l) (hl : ∀ p ∈ l, SmP p) (hn : l.length ≤ 10) : ∀ (j i : Nat), i + j = l.length → X G (.loop convex_Area_l0) (ar_st d (arN l i) l.length i) = some (.x 0, ar_en (arN l l.length))
  | 0, i, h => by
    have : i = l.length := by omega
    subst this
    rw [X_loop, ar_stop]; rfl
  | j + 1, i, h => by
    rw [X_loop, ar_go hr hl hn (by omega), Option.bind_some, if_pos rfl]
    exact ar_loop hr hl hn j (i + 1) (by omega)
theorem cArea_spec {d : D} {l : List Pt} (hr : RwE cP d l) (hl : ∀ p ∈ l, SmP p) (hn : l.length ≤ 10) : callX G n_convex_Area [d] = some (.d (iv (arN l l.length))) := by
  rw [callX_eq (cf := convex_Area) rfl]
  have ll := hr.len
  have g := ar_loop hr hl hn l.length 0 (by omega)
  have e0 : arN l 0 = 0 := rfl
  rw [e0] at g
  generalize arN l l.length = z at *
  simp only [ar_st, ar_en, nc0, go_sem] at g
  simp -implicitDefEqProofs (maxSteps := 10000000) only [convex_Area, g, ll, go_sem, iv, bv, reduceCtorEq, ↓reduceIte, Nat.reduceEqDiff]
theorem V1p_spec {p : Pt} (hb : (-1048576 ≤ p.1 ∧ p.1 ≤ 1048576) ∧ (-1048576 ≤ p.2 ∧ p.2 ≤ 1048576)) : callX G n_convex_Valid_1 [encP p] = some (.d (bv false)) := by
  rw [callX_eq (cf := convex_Valid_1) rfl]
  obtain ⟨x, y⟩ := p
  dsimp only at hb
  obtain ⟨u, hu⟩ : ∃ u, (if y < x then y else x) = u := ⟨_, rfl⟩
  obtain ⟨v, hv⟩ : ∃ u, (if y > x then y else x) = u := ⟨_, rfl⟩
  have b1 : -1048576 ≤ u := by rw [← hu]; split <;> omega
  have b2 : v ≤ 1048576 := by rw [← hv]; split <;> omega
  have e1 : decide (u < -1048576) = false := lt_f (by omega)
  have e2 : decide (v > 1048576) = false := gt_f (by omega)
  simp -implicitDefEqProofs (maxSteps := 10000000) only [convex_Valid_1, encP, cP, foldV, mnV, mxV, ld2_0, ld2_1, hu, hv, e1, e2, go_sem, iv, bv, reduceCtorEq, ↓reduceIte, Nat.reduceEqDiff]
theorem vl0_go {d : D} {l : List Pt} (hr : RwE cP d l) (hg : GdS l) (hL : Lim l) {i k : Nat} (hi : i < l.length) (hk : k < l.length) : X G convex_Valid_l0 (vl0_st d i l.length i l.length k) = some (.n, vl0_st d i l.length i l.length ((k + 1 : Nat) : Int)) := by
  have h8 := hL.hi
  have e1 : decide ((k : Int) < (l.length : Int)) = true := lt_t (by omega)
  have e2 : w64 ((k : Int) + 1) = ((k + 1 : Nat) : Int) := by rw [w64_id (by omega) (by omega)]; rfl
  have e3 : w64 ((i : Int) + 1) = ((i + 1 : Nat) : Int) := by rw [w64_id (by omega) (by omega)]; rfl
  have e4 := eqz_f (b := (l.length : Int)) (by omega)
  have e5 : (((i + 1 : Nat) : Int)).tmod (l.length : Int) = (((i + 1) % l.length : Nat) : Int) := by rw [rem_pos (by omega)]; omega
  have x1 := hr.ixa cP_len hi
  have x2 := fun hp => ldE cP_len hp hi
  have x3 := hr.ixa cP_len hk
  have x4 := fun hp => ldE cP_len hp hk
  have ll := hr.len
  have g1 := cnext_spec hr hi (by omega)
  have g2 := cross_spec (getD_all hg.sm smP0 i) (nxP_sm hg.sm i) (getD_all hg.sm smP0 k)
  have hpos : k ≠ i → k ≠ (i + 1) % l.length → 0 < crI (l.getD i default) (nxP l i) (l.getD k default) := cvB_at hL.cv hi hk
  generalize crI (l.getD i default) (nxP l i) (l.getD k default) = c at *
  generalize nxP l i = q1 at *
  generalize l.getD i default = q2 at *
  generalize l.getD k default = q3 at *
  obtain ⟨a1, a2⟩ := q1
  obtain ⟨b1, b2⟩ := q2
  obtain ⟨c1, c2⟩ := q3
  simp only [encP, cP, iv] at x2 x4 g1 g2
  by_cases h1 : k = i
  · have t1 : ((k : Int) != (i : Int)) = false := bne_f (by omega)
    simp -implicitDefEqProofs (maxSteps := 10000000) only [convex_Valid_l0, vl0_st, t1, ll, e1, e2, e3, e4, e5, go_sem, iv, bv, reduceCtorEq, ↓reduceIte, Nat.reduceEqDiff]
  · have t1 : ((k : Int) != (i : Int)) = true := bne_t (by omega)
    by_cases h2 : k = (i + 1) % l.length
    · have t2 : ((k : Int) != (((i + 1) % l.length : Nat) : Int)) = false := bne_f (by omega)
      simp -implicitDefEqProofs (maxSteps := 10000000) only [convex_Valid_l0, vl0_st, t1, t2, ll, e1, e2, e3, e4, e5, go_sem, iv, bv, reduceCtorEq, ↓reduceIte, Nat.reduceEqDiff]
    · have t2 : ((k : Int) != (((i + 1) % l.length : Nat) : Int)) = true := bne_t (by omega)
      have t3 : decide (c ≤ 0) = false := le_f (by have := hpos h1 h2; omega)
      simp -implicitDefEqProofs (maxSteps := 10000000) only [convex_Valid_l0, vl0_st, t1, t2, t3, ll, e1, e2, e3, e4, e5, x1, x2, x3, x4, g1, g2, go_sem, iv, bv, reduceCtorEq, ↓reduceIte, Nat.reduceEqDiff]
theorem vl0_stop {d : D} {n i : Int} {m : Nat} : X G convex_Valid_l0 (vl0_st d i n i m m) = some (.x 2, vl0_en d n i) := by
  have e1 : decide ((m : Int) < (m : Int)) = false := lt_f (by omega)
  simp -implicitDefEqProofs (maxSteps := 10000000) only [convex_Valid_l0, vl0_st, vl0_en, e1, go_sem, iv, bv, reduceCtorEq, ↓reduceIte, Nat.reduceEqDiff]
theorem vl0_loop {d : D} {l : List Pt} (hr : RwE cP d l) (hg : GdS l) (hL : Lim l) {i : Nat} (hi : i < l.length) : ∀ (j k : Nat), k + j = l.length → X G (.loop convex_Valid_l0) (vl0_st d i l.length i l.length k) = some (.x 2, vl0_en d l.length i)
  | 0, k, h => by
    have : k = l.length := by omega
    subst this
    rw [X_loop, vl0_stop]; rfl
  | j + 1, k, h => by
    rw [X_loop, vl0_go hr hg hL hi (by omega), Option.bind_some, if_pos rfl]
    exact vl0_loop hr hg hL hi j (k + 1) (by omega)
theorem vl1_go {d : D} {l : List Pt} (hr : RwE cP d l) (hg : GdS l) (hL : Lim l) {i : Nat} (hi : i < l.length) : X G convex_Valid_l1 (vl1_st d l.length i) = some (.n, vl1_st d l.length ((i + 1 : Nat) : Int)) := by
  have h8 := hL.hi
  have e1 : decide ((i : Int) < (l.length : Int)) = true := lt_t (by omega)
  have e2 : w64 ((i : Int) + 1) = ((i + 1 : Nat) : Int) := by rw [w64_id (by omega) (by omega)]; rfl
  have x1 := hr.ixa cP_len hi
  have x2 := fun hp => ldE cP_len hp hi
  have ll := hr.len
  have g1 := cnext_spec hr hi (by omega)
  have g2 := cNorm_spec (h := sdh l i) (getD_all hg.sm smP0 i) (nxP_sm hg.sm i) (hg.sq i hi).1 (hg.sq i hi).2
  have gl := vl0_loop hr hg hL hi l.length 0 (by omega)
  generalize nrP ((nxP l i).1 - (l.getD i default).1) ((nxP l i).2 - (l.getD i default).2) (sdh l i) = v at *
  generalize nxP l i = q1 at *
  generalize l.getD i default = q2 at *
  obtain ⟨a1, a2⟩ := q1
  obtain ⟨b1, b2⟩ := q2
  obtain ⟨v1, v2, v3⟩ := v
  simp only [encP, cP, encD, cD, iv, bv] at x2 g1 g2
  simp only [vl0_st, vl0_en, nc0, go_sem] at gl
  simp -implicitDefEqProofs (maxSteps := 10000000) only [convex_Valid_l1, vl1_st, gl, ll, e1, e2, x1, x2, g1, g2, box3s, Bool.not_true, go_sem, iv, bv, reduceCtorEq, ↓reduceIte, Nat.reduceEqDiff]
theorem vl1_stop {d : D} {m : Nat} : X G convex_Valid_l1 (vl1_st d m m) = some (.x 0, mkS [] []) := by
  have e1 : decide ((m : Int) < (m : Int)) = false := lt_f (by omega)
  simp -implicitDefEqProofs (maxSteps := 10000000) only [convex_Valid_l1, vl1_st, e1, go_sem, iv, bv, reduceCtorEq, ↓reduceIte, Nat.reduceEqDiff]
theorem vl1_loop {d : D} {l : List Pt} (hr : RwE cP d l) (hg : GdS l) (hL : Lim l) : ∀ (j i : Nat), i + j = l.length → X G (.loop convex_Valid_l1) (vl1_st d l.length i) = some (.x 0, mkS [] [])
  | 0, i, h => by
    have : i = l.length := by omega
    subst this
    rw [X_loop, vl1_stop]; rfl
  | j + 1, i, h => by
    rw [X_loop, vl1_go hr hg hL (by omega), Option.bind_some, if_pos rfl]
    exact vl1_loop hr hg hL j (i + 1) (by omega)
theorem cValid_spec {d : D} {l : List Pt} (hr : RwE cP d l) (hg : GdS l) (hL : Lim l) : callX G n_convex_Valid [d] = some (.d (bv true)) := by
  have hc := ContQ_spec (f := n_convex_Valid_1) (caps := []) (p := fun _ => false) hr (by have := hL.hi; omega) (fun i hi => V1p_spec (hL.bd _ (by rw [List.getD_eq_getElem?_getD, List.getElem?_eq_getElem hi]; exact List.getElem_mem hi)))
  rw [show l.any (fun _ => false) = false by simp] at hc
  rw [callX_eq (cf := convex_Valid) rfl]
  have h3 := hL.lo
  have h8 := hL.hi
  have ll := hr.len
  have e1 : decide ((l.length : Int) < 3) = false := lt_f (by omega)
  have e2 : decide ((l.length : Int) > 8) = false := gt_f (by omega)
  have g := vl1_loop hr hg hL l.length 0 (by omega)
  simp only [vl1_st, nc0, go_sem] at g
  simp only [bv] at hc
  simp -implicitDefEqProofs (maxSteps := 10000000) only [convex_Valid, g, hc, ll, e1, e2, go_sem, iv, bv, reduceCtorEq, ↓reduceIte, Nat.reduceEqDiff]
theorem cValid_two {d : D} {l : List Pt} (hr : RwE cP d l) (h : l.length = 2) : callX G n_convex_Valid [d] = some (.d (bv false)) := by
  rw [callX_eq (cf := convex_Valid) rfl]
  have ll := hr.len
  have e1 : decide ((l.length : Int) < 3) = true := lt_t (by omega)
  simp -implicitDefEqProofs (maxSteps := 10000000) only [convex_Valid, ll, e1, go_sem, iv, bv, reduceCtorEq, ↓reduceIte, Nat.reduceEqDiff]
end Go.AM

/- Rows of edges: their directions, each once; the same after moving and exchanging; limits of the shapes. -/
namespace Go.AM
open Go Go.RowKit

def uqD (ds : List Dr) : Nat → List Dr
  | 0 => []
  | i + 1 => if frI ds i i then uqD ds i ++ [ds.getD i default] else uqD ds i
theorem sdO_uq (a b : List Pt) (ds : List Dr) : ∀ i, sdO a b ds i = (uqD ds i).map (edP a b)
  | 0 => rfl
  | i + 1 => by
    rw [sdO, uqD, sdO_uq a b ds i]
    split
    · rw [List.map_append]; rfl
    · rfl
theorem frI_iff (ds : List Dr) (i : Nat) : ∀ k, frI ds i k = true ↔ ∀ j, j < k → ds.getD j default ≠ ds.getD i default
  | 0 => by simp [frI]
  | k + 1 => by
    rw [frI, Bool.and_eq_true, frI_iff ds i k]
    constructor
    · rintro ⟨h1, h2⟩ j hj
      by_cases h : j = k
      · subst h
        intro h3
        rw [eqDr_iff.2 h3] at h2
        cases h2
      · exact h1 j (by omega)
    · intro h
      refine ⟨fun j hj => h j (by omega), ?_⟩
      cases h3 : eqDr (ds.getD k default) (ds.getD i default) with
      | false => rfl
      | true => exact absurd (eqDr_iff.1 h3) (h k (by omega))
theorem uqD_mem (ds : List Dr) {d : Dr} : ∀ i, d ∈ uqD ds i ↔ ∃ j, j < i ∧ ds.getD j default = d
  | 0 => by simp [uqD]
  | i + 1 => by
    have ih := uqD_mem ds (d := d) i
    rw [uqD]
    constructor
    · intro h
      split at h
      · rcases List.mem_append.1 h with h | h
        · obtain ⟨j, h1, h2⟩ := ih.1 h
          exact ⟨j, by omega, h2⟩
        · rw [List.mem_singleton] at h
          exact ⟨i, by omega, h.symm⟩
      · obtain ⟨j, h1, h2⟩ := ih.1 h
        exact ⟨j, by omega, h2⟩
    · rintro ⟨j, h1, h2⟩
      by_cases hj : j = i
      · subst hj
        split
        · exact List.mem_append.2 (.inr (by rw [h2]; exact List.mem_singleton.2 rfl))
        · rename_i hf
          have : ¬ ∀ k, k < j → ds.getD k default ≠ ds.getD j default := fun hh => hf ((frI_iff ds j j).2 hh)
          have h3 : ∃ k, k < j ∧ ds.getD k default = d := by
            refine Classical.byContradiction fun hc => this fun k hk hh => hc ⟨k, hk, by rw [hh, h2]⟩
          exact ih.2 h3
      · have h3 := ih.2 ⟨j, by omega, h2⟩
        split
        · exact List.mem_append.2 (.inl h3)
        · exact h3
theorem getD_mem' {l : List Dr} {i : Nat} (h : i < l.length) : l.getD i default ∈ l := by rw [List.getD_eq_getElem?_getD, List.getElem?_eq_getElem h]; exact List.getElem_mem h
theorem mem_getD' {l : List Dr} {d : Dr} (h : d ∈ l) : ∃ i, i < l.length ∧ l.getD i default = d := by
  obtain ⟨i, hi, e⟩ := List.getElem_of_mem h
  exact ⟨i, hi, by rw [List.getD_eq_getElem?_getD, List.getElem?_eq_getElem hi]; exact e⟩
def uqS (a b : List Pt) : List Dr := uqD (drs a b) (drs a b).length
theorem uqS_mem (a b : List Pt) {d : Dr} : d ∈ uqS a b ↔ d ∈ drs a b := by
  unfold uqS
  rw [uqD_mem]
  constructor
  · rintro ⟨j, h1, h2⟩
    rw [← h2]
    exact getD_mem' h1
  · intro h
    exact mem_getD' h
theorem sdP_uq (a b : List Pt) : sdP a b = (uqS a b).map (edP a b) := sdO_uq a b _ _
/-- Three sides with three directions. -/
def thr (l : List Pt) : Bool := decide (3 ≤ l.length) && !(eqDr (sdN l 0) (sdN l 1)) && !(eqDr (sdN l 0) (sdN l 2)) && !(eqDr (sdN l 1) (sdN l 2))
/-! The base shapes -/
def chkL (l : List Pt) : Bool := cvB l && thr l && decide (l.length ≤ 8) && l.all fun p => decide (-1000 ≤ p.1 ∧ p.1 ≤ 1000) && decide (-1000 ≤ p.2 ∧ p.2 ≤ 1000)
/-! Moved -/
def mvE (x y u v : Int) (e : Eg) : Eg := (e.1, e.2 + e.1.1 * (x - u) + e.1.2.1 * (y - v))
end Go.AM

/- law12.lives. -/
namespace Go.AM
open Go Go.RowKit
def sqL : List Pt := [(0, 0), (2, 0), (2, 2), (0, 2)]
def trL : List Pt := [(0, 0), (4, 0), (0, 3)]
theorem chk_gd {l : List Pt} (h0 : 0 < l.length) (h1 : l.length ≤ 10) (hs : ∀ p ∈ l, SmP p) (h : chkS l = true) : GdS l := by
  unfold chkS at h
  rw [List.all_eq_true] at h
  refine ⟨h0, h1, hs, fun i hi => ?_, fun i hi => ?_⟩
  all_goals
    have h1 := h i (List.mem_range.2 hi)
    simp only [Bool.and_eq_true, decide_eq_true_eq] at h1
    obtain ⟨⟨⟨⟨⟨⟨⟨h1, h2⟩, h3⟩, h4⟩, h5⟩, h6⟩, h7⟩, h8⟩ := h1
  · exact ⟨h1, h2⟩
  · exact ⟨⟨h3, h4⟩, ⟨h5, h6⟩, ⟨h7, h8⟩⟩
theorem sq_gd : GdS sqL := chk_gd (by decide) (by decide) (by
  intro p hp
  unfold sqL at hp
  simp only [List.mem_cons, List.not_mem_nil, or_false] at hp
  rcases hp with rfl | rfl | rfl | rfl <;> exact ⟨⟨by decide, by decide⟩, ⟨by decide, by decide⟩⟩) (by kernel_rfl)
theorem tr_gd : GdS trL := chk_gd (by decide) (by decide) (by
  intro p hp
  unfold trL at hp
  simp only [List.mem_cons, List.not_mem_nil, or_false] at hp
  rcases hp with rfl | rfl | rfl <;> exact ⟨⟨by decide, by decide⟩, ⟨by decide, by decide⟩⟩) (by kernel_rfl)
theorem tr_lim : Lim trL := ⟨by kernel_rfl, by decide, by decide, by
  intro p hp
  unfold trL at hp
  simp only [List.mem_cons, List.not_mem_nil, or_false] at hp
  rcases hp with rfl | rfl | rfl <;> decide⟩
theorem st8 (a b c d e f g h i j k l m n o p : A) : stcells 0 [a, b, c, d, e, f, g, h] [i, j, k, l, m, n, o, p] = some [a, b, c, d, e, f, g, h] := rfl
theorem ld8 (a b c d e f g h : D) : ldcells (some 8) 0 [.d a, .d b, .d c, .d d, .d e, .d f, .d g, .d h] = some (.d (.agg [a, b, c, d, e, f, g, h])) := rfl
theorem rep5_4 (a b c d : D) : rep 5 [a, b, c, d] = [a, b, c, d, a, b, c, d, a, b, c, d, a, b, c, d, a, b, c, d] := rfl
variable [Its]
theorem l1 : callX G n_convex_Norm [encP (4, 0), encP (0, 3)] = some (.d (.tup [encD (3, 4, 5), bv true])) := by
  have h := cNorm_spec (a := (4, 0)) (b := (0, 3)) (h := 5) ⟨⟨by decide, by decide⟩, ⟨by decide, by decide⟩⟩ ⟨⟨by decide, by decide⟩, ⟨by decide, by decide⟩⟩ (by decide) (by decide)
  rw [h]
  have e : nrP ((0, 3) : Pt).1 3 5 = nrP ((0, 3) : Pt).1 3 5 := rfl
  have e : nrP (((0, 3) : Pt).1 - ((4, 0) : Pt).1) (((0, 3) : Pt).2 - ((4, 0) : Pt).2) 5 = (3, 4, 5) := by kernel_rfl
  rw [e]
theorem l2 : callX G n_convex_Area [triD] = some (.d (iv 12)) := by
  have h := cArea_spec (d := triD) (l := trL) (.inr rfl) tr_gd.sm (by decide)
  rw [h]
  have e : arN trL trL.length = 12 := by kernel_rfl
  rw [e]
theorem l3 : callX G n_convex_Sides [sqD, triD] = some (.own 4 5 sidC) := by
  have h := cSides_spec (da := sqD) (db := triD) (a := sqL) (b := trL) (.inr rfl) (.inr rfl) sq_gd tr_gd
  rw [h]
  have e : sdP sqL trL = [((0, -1, 1), 3), ((1, 0, 1), 2), ((0, 1, 1), 2), ((-1, 0, 1), 4), ((-3, -4, 5), 12)] := by kernel_rfl
  rw [e]
  rfl
theorem l4 : callX G n_convex_Valid [triD] = some (.d (bv true)) := cValid_spec (l := trL) (.inr rfl) tr_gd tr_lim
theorem l5 : callX G n_convex_Valid [.row 2 [iv 0, iv 0, iv 2, iv 0]] = some (.d (bv false)) := cValid_two (l := [(0, 0), (2, 0)]) (.inr rfl) rfl
set_option maxHeartbeats 4000000 in
theorem lives12 : callX G n_gantrylaw12_lives [] = some (.d (bv true)) := by
  rw [callX_eq (cf := gantrylaw12_lives) rfl]
  have l1 := l1; have l2 := l2; have l3 := l3; have l4 := l4; have l5 := l5
  have p1 := lp1; have p2 := lp2; have p3 := lp3; have q1 := lq1; have q2 := lq2; have q3 := lq3; have q4 := lq4
  have x1 : ∀ h : Hp, ixaA h 2 1 (.d triD) = some (.d (.rp [iv 4, iv 0, iv 0, iv 3])) := fun _ => rfl
  have x2 : ∀ h : Hp, ixaA h 2 2 (.d triD) = some (.d (.rp [iv 0, iv 3])) := fun _ => rfl
  have x3 : ∀ h : Hp, loadA h (some 2) (.d (.rp [iv 4, iv 0, iv 0, iv 3])) = some (.d (.agg [iv 4, iv 0])) := fun _ => rfl
  have x4 : ∀ h : Hp, loadA h (some 2) (.d (.rp [iv 0, iv 3])) = some (.d (.agg [iv 0, iv 3])) := fun _ => rfl
  have c1 : ((0 : Int) ≤ 0 ∧ (0 : Int) ≤ 2 ∧ (2 : Int) ≤ ((4 : Nat) : Int)) = True := by simp
  simp only [encP, encD, cP, cD, sqD, triD, triD', sumC, sidC, n2, n32, List.cons_append, List.nil_append, iv, bv] at x1 x2 x3 x4 l1 l2 l3 l4 l5 p1 p2 p3 q1 q2 q3 q4
  simp -implicitDefEqProofs (maxSteps := 10000000) only [gantrylaw12_lives, l1, l2, l3, l4, l5, p1, p2, p3, q1, q2, q3, q4, x1, x2, x3, x4, rep4_2, rep3_2, rep5_2, rep5_4, fillB, partsB, ld3p, c1, if_true, Int.toNat_zero, Int.reduceToNat, Int.reduceSub, Nat.zero_mul, Nat.reduceMul, List.drop_zero, List.take_succ_cons, List.take_zero, oneI, eqD3, Bool.and_self, box3s, st8, ld8, Bool.not_true, Bool.not_false, beq_self_eq_true, List.map_cons, List.map_nil, go_sem, iv, bv, reduceCtorEq, ↓reduceIte, Nat.reduceEqDiff]
end Go.AM

/- Edges of a pair: bounds; their parts read out of a row. -/
namespace Go.AM
open Go Go.RowKit
theorem ldGd (h : Hp) {l : List Eg} {j : Nat} (h1 : j < l.length) : loadA h (some 3) (.d (.rp ((l.drop j).flatMap cG))) = some (.d (encD (l.getD j default).1)) := by
  rw [drop_getD h1, List.flatMap_cons]
  simp only [loadA, ldrow, guardO, cG, List.cons_append, List.nil_append]
  simp [encD, cD]
theorem sd_nm {a b : List Pt} (ha : GdS a) (hb : GdS b) {e : Eg} (he : e ∈ sdP a b) : NmD e.1 := by
  rw [sdP_uq] at he
  obtain ⟨d, hd, rfl⟩ := List.mem_map.1 he
  exact drs_nm ha hb d ((uqS_mem a b).1 hd)
theorem sd_le {a b : List Pt} (ha : GdS a) (hb : GdS b) : (sdP a b).length ≤ 20 := by
  have h1 := sdO_len a b (drs a b) (drs a b).length
  have h2 := drs_len a b
  have := ha.le; have := hb.le
  unfold sdP
  omega
theorem eg_mem {l : List Eg} {i : Nat} (h : i < l.length) : l.getD i default ∈ l := by rw [List.getD_eq_getElem?_getD, List.getElem?_eq_getElem h]; exact List.getElem_mem h
end Go.AM

/- SameEdges; ref12.Area; both Box. -/
namespace Go.AM
open Go Go.RowKit
def se_st (d e : D) (i : Int) : St := mkS [(0, .d d), (1, .d e), (5, ai i)] []
def arQ (l : List Pt) : Nat → Int
  | 0 => 0
  | i + 1 => arQ l i + (l.getD i default).1 * (nxP l i).2 - (l.getD i default).2 * (nxP l i).1
def ra_st (d : D) (s i : Int) : St := mkS [(0, .d d), (3, ai s), (4, ai i)] []
def ptM (l : List Pt) (i : Nat) : Pt := if i < l.length then l.getD i default else l.getD 0 default
theorem nx_pt (l : List Pt) (i : Nat) : nxP l i = ptM l (i + 1) := rfl
theorem cr3 (a b c : Pt) : crI a b c = (a.1 * b.2 - a.2 * b.1) + (b.1 * c.2 - b.2 * c.1) - (a.1 * c.2 - a.2 * c.1) := by
  unfold crI
  grind
theorem ar_tel (l : List Pt) : ∀ i, i ≤ l.length → arN l i = arQ l i - ((l.getD 0 default).1 * (ptM l i).2 - (l.getD 0 default).2 * (ptM l i).1)
  | 0, _ => by
    have : ptM l 0 = l.getD 0 default := by unfold ptM; split <;> rfl
    rw [this, Int.mul_comm (l.getD 0 default).2]
    simp [arN, arQ]
  | i + 1, h => by
    have ih := ar_tel l i (by omega)
    have : ptM l i = l.getD i default := by unfold ptM; rw [if_pos (by omega)]
    rw [this] at ih
    rw [arN, arQ, ih, cr3, nx_pt]
    omega
theorem ar_eq (l : List Pt) : arQ l l.length = arN l l.length := by
  have h := ar_tel l l.length (Nat.le_refl _)
  have : ptM l l.length = l.getD 0 default := by unfold ptM; rw [if_neg (by omega)]
  rw [this, Int.mul_comm (l.getD 0 default).2] at h
  omega
theorem pr_b {a b : Int} (ha : Sm a) (hb : Sm b) : -10000000000000000 ≤ a * b ∧ a * b ≤ 10000000000000000 := by
  have h1 : (a * b).natAbs ≤ 100000000 * 100000000 := by
    rw [Int.natAbs_mul]
    exact Nat.mul_le_mul (by have := ha; unfold Sm at this; omega) (by have := hb; unfold Sm at this; omega)
  omega
theorem arQ_b {l : List Pt} (hl : ∀ p ∈ l, SmP p) : ∀ i : Nat, -20000000000000000 * (i : Int) ≤ arQ l i ∧ arQ l i ≤ 20000000000000000 * (i : Int)
  | 0 => by simp [arQ]
  | i + 1 => by
    have ih := arQ_b hl i
    have h1 := getD_all hl smP0 i
    have h2 := nxP_sm hl i
    have m1 := pr_b h1.1 h2.2
    have m2 := pr_b h1.2 h2.1
    rw [arQ]
    omega
def mnI (a b : Int) : Int := if b < a then b else a
def mxI (a b : Int) : Int := if b > a then b else a
def bxL (l : List Pt) : Nat → Pt
  | 0 => l.getD 0 default
  | i + 1 => (mnI (bxL l i).1 (l.getD i default).1, mnI (bxL l i).2 (l.getD i default).2)
def bxH (l : List Pt) : Nat → Pt
  | 0 => l.getD 0 default
  | i + 1 => (mxI (bxH l i).1 (l.getD i default).1, mxI (bxH l i).2 (l.getD i default).2)
def bxP (x y : Int) : Obj := ⟨0, 0, [.d (iv x), .d (iv y)], false⟩
def cb_st (d : D) (a b e f n i : Int) : St := mkS [(2, .ptr [2] 0), (3, .ptr [3] 0), (4, .ptr [4] 0), (5, .ptr [5] 0), (14, .d d), (15, ai n), (16, ai i)] [([2], bxP 0 0), ([3], bxP 0 0), ([4], bxP a b), ([5], bxP e f)]
def cb_en (a b e f : Int) : St := mkS [(2, .ptr [2] 0), (3, .ptr [3] 0), (4, .ptr [4] 0), (5, .ptr [5] 0)] [([2], bxP 0 0), ([3], bxP 0 0), ([4], bxP a b), ([5], bxP e f)]
def bxr_st (d : D) (a b e f i : Int) : St := mkS [(0, .d d), (2, .ptr [2] 0), (3, .ptr [3] 0), (4, .ptr [4] 0), (5, .ptr [5] 0), (6, ai i)] [([2], bxP 0 0), ([3], bxP 0 0), ([4], bxP a b), ([5], bxP e f)]
theorem st1_0 (x a b : A) : stcells 0 [x] [a, b] = some [x, b] := rfl
theorem st1_1 (x a b : A) : stcells 1 [x] [a, b] = some [a, x] := rfl
variable [Its]
theorem se_go {l : List Eg} (hn : l.length ≤ 1000) {i : Nat} (hi : i < l.length) : X G gantryref12_SameEdges_l0 (se_st (rowE cG l) (rowE cG l) i) = some (.n, se_st (rowE cG l) (rowE cG l) ((i + 1 : Nat) : Int)) := by
  have e1 : decide ((i : Int) < (l.length : Int)) = true := lt_t (by omega)
  have e2 : w64 ((i : Int) + 1) = ((i + 1 : Nat) : Int) := by rw [w64_id (by omega) (by omega)]; rfl
  have ll : lenA (.d (rowE cG l)) = some l.length := rfl
  have x1 := RwE.ixa (d := rowE cG l) (l := l) cG_len (.inr rfl) hi
  have x2 := fun hp => ldE cG_len hp hi
  generalize l.getD i default = e at *
  obtain ⟨⟨a, b, c⟩, t⟩ := e
  simp only [cG, iv] at x2
  simp -implicitDefEqProofs (maxSteps := 10000000) only [gantryref12_SameEdges_l0, se_st, ll, x1, x2, e1, e2, beq_self_eq_true, Bool.and_self, Bool.not_true, go_sem, iv, bv, reduceCtorEq, ↓reduceIte, Nat.reduceEqDiff]
theorem se_stop {l : List Eg} : X G gantryref12_SameEdges_l0 (se_st (rowE cG l) (rowE cG l) l.length) = some (.x 0, mkS [] []) := by
  have e1 : decide ((l.length : Int) < (l.length : Int)) = false := lt_f (by omega)
  have ll : lenA (.d (rowE cG l)) = some l.length := rfl
  simp -implicitDefEqProofs (maxSteps := 10000000) only [gantryref12_SameEdges_l0, se_st, ll, e1, go_sem, iv, bv, reduceCtorEq, ↓reduceIte, Nat.reduceEqDiff]
theorem se_loop {l : List Eg} (hn : l.length ≤ 1000) : ∀ (j i : Nat), i + j = l.length → X G (.loop gantryref12_SameEdges_l0) (se_st (rowE cG l) (rowE cG l) i) = some (.x 0, mkS [] [])
  | 0, i, h => by
    have : i = l.length := by omega
    subst this
    rw [X_loop, se_stop]; rfl
  | j + 1, i, h => by
    rw [X_loop, se_go hn (by omega), Option.bind_some, if_pos rfl]
    exact se_loop hn j (i + 1) (by omega)
theorem SameE_refl {l : List Eg} (hn : l.length ≤ 1000) : callX G n_gantryref12_SameEdges [rowE cG l, rowE cG l] = some (.d (bv true)) := by
  rw [callX_eq (cf := gantryref12_SameEdges) rfl]
  have g := se_loop hn l.length 0 (by omega)
  have ll : lenA (.d (rowE cG l)) = some l.length := rfl
  have e1 : ((l.length : Int) != (l.length : Int)) = false := bne_f rfl
  simp only [se_st, nc0, go_sem] at g
  simp -implicitDefEqProofs (maxSteps := 10000000) only [gantryref12_SameEdges, g, ll, e1, go_sem, iv, bv, reduceCtorEq, ↓reduceIte, Nat.reduceEqDiff]
theorem ra_go {d : D} {l : List Pt} (hr : RwE cP d l) (hl : ∀ p ∈ l, SmP p) (hn : l.length ≤ 10) {i : Nat} (hi : i < l.length) : X G gantryref12_Area_l0 (ra_st d (arQ l i) i) = some (.n, ra_st d (arQ l (i + 1)) ((i + 1 : Nat) : Int)) := by
  have ll := hr.len
  have e1 : decide ((i : Int) < (l.length : Int)) = true := lt_t (by omega)
  have e2 : w64 ((i : Int) + 1) = ((i + 1 : Nat) : Int) := by rw [w64_id (by omega) (by omega)]; rfl
  have x1 := hr.ixa cP_len hi
  have x2 := fun hp => ldF (i := 0) cP_len hp hi (by omega)
  have x3 := fun hp => ldF (i := 1) cP_len hp hi (by omega)
  have g1 := Next_spec hr hi (by omega)
  have h1 := getD_all hl smP0 i
  have h2 := nxP_sm hl i
  have b1 := arQ_b hl i
  rw [arQ]
  generalize arQ l i = s at *
  generalize nxP l i = q1 at *
  generalize l.getD i default = q2 at *
  obtain ⟨a1, a2⟩ := q1
  obtain ⟨c1, c2⟩ := q2
  have m1 := pr_b h1.1 h2.2
  have m2 := pr_b h1.2 h2.1
  dsimp only at m1 m2
  dsimp only
  obtain ⟨z1, q1⟩ : ∃ z, c1 * a2 = z := ⟨_, rfl⟩
  obtain ⟨z2, q2⟩ : ∃ z, c2 * a1 = z := ⟨_, rfl⟩
  rw [q1] at m1
  rw [q2] at m2
  rw [q1, q2]
  have w1 : w64 (c1 * a2) = z1 := by rw [q1, w64_id (by omega) (by omega)]
  have w2 : w64 (c2 * a1) = z2 := by rw [q2, w64_id (by omega) (by omega)]
  obtain ⟨z3, q3⟩ : ∃ z, s + z1 = z := ⟨_, rfl⟩
  have w3 : w64 (s + z1) = z3 := by rw [w64_id (by omega) (by omega), q3]
  obtain ⟨z4, q4⟩ : ∃ z, z3 - z2 = z := ⟨_, rfl⟩
  have w4 : w64 (z3 - z2) = z4 := by rw [w64_id (by omega) (by omega), q4]
  rw [q3, q4]
  simp only [encP, cP, List.drop_zero, List.getElem?_cons_succ, List.getElem?_cons_zero, Option.map_some, iv] at x2 x3 g1
  simp -implicitDefEqProofs (maxSteps := 10000000) only [gantryref12_Area_l0, ra_st, ll, x1, x2, x3, g1, e1, e2, w1, w2, w3, w4, st2p, ld2_0, ld2_1, go_sem, iv, bv, reduceCtorEq, ↓reduceIte, Nat.reduceEqDiff]
theorem ra_stop {d : D} {l : List Pt} (hr : RwE cP d l) {s : Int} : X G gantryref12_Area_l0 (ra_st d s l.length) = some (.x 0, ar_en s) := by
  have ll := hr.len
  have e1 : decide ((l.length : Int) < (l.length : Int)) = false := lt_f (by omega)
  simp -implicitDefEqProofs (maxSteps := 10000000) only [gantryref12_Area_l0, ra_st, ar_en, ll, e1, go_sem, iv, bv, reduceCtorEq, ↓reduceIte, Nat.reduceEqDiff]
theorem ra_loop {d : D} {l : List Pt} (hr : RwE cP d l) (hl : ∀ p ∈ l, SmP p) (hn : l.length ≤ 10) : ∀ (j i : Nat), i + j = l.length → X G (.loop gantryref12_Area_l0) (ra_st d (arQ l i) i) = some (.x 0, ar_en (arQ l l.length))
  | 0, i, h => by
    have : i = l.length := by omega
    subst this
    rw [X_loop, ra_stop hr]; rfl
  | j + 1, i, h => by
    rw [X_loop, ra_go hr hl hn (by omega), Option.bind_some, if_pos rfl]
    exact ra_loop hr hl hn j (i + 1) (by omega)
theorem rArea_spec {d : D} {l : List Pt} (hr : RwE cP d l) (hl : ∀ p ∈ l, SmP p) (hn : l.length ≤ 10) : callX G n_gantryref12_Area [d] = some (.d (iv (arN l l.length))) := by
  rw [callX_eq (cf := gantryref12_Area) rfl]
  have ll := hr.len
  have g := ra_loop hr hl hn l.length 0 (by omega)
  rw [ar_eq] at g
  have e0 : arQ l 0 = 0 := rfl
  rw [e0] at g
  generalize arN l l.length = z at *
  simp only [ra_st, ar_en, nc0, go_sem] at g
  simp -implicitDefEqProofs (maxSteps := 10000000) only [gantryref12_Area, g, ll, go_sem, iv, bv, reduceCtorEq, ↓reduceIte, Nat.reduceEqDiff]
theorem cb_go {d : D} {l : List Pt} (hr : RwE cP d l) (hn : l.length ≤ 10) {i : Nat} (hi : i < l.length) : X G convex_Box_l0 (cb_st d (bxL l i).1 (bxL l i).2 (bxH l i).1 (bxH l i).2 l.length i) = some (.n, cb_st d (bxL l (i + 1)).1 (bxL l (i + 1)).2 (bxH l (i + 1)).1 (bxH l (i + 1)).2 l.length ((i + 1 : Nat) : Int)) := by
  have e1 : decide ((i : Int) < (l.length : Int)) = true := lt_t (by omega)
  have e2 : w64 ((i : Int) + 1) = ((i + 1 : Nat) : Int) := by rw [w64_id (by omega) (by omega)]; rfl
  have x1 := hr.ixa cP_len hi
  have x2 := fun hp => ldE cP_len hp hi
  rw [bxL, bxH]
  generalize bxL l i = lo at *
  generalize bxH l i = hi' at *
  generalize l.getD i default = p at *
  obtain ⟨a, b⟩ := lo
  obtain ⟨e, f⟩ := hi'
  obtain ⟨x, y⟩ := p
  simp only [encP, cP, iv] at x2
  simp -implicitDefEqProofs (maxSteps := 10000000) only [convex_Box_l0, cb_st, bxP, mnI, mxI, foldV, mnV, mxV, x1, x2, e1, e2, st2p, ld2_0, ld2_1, oneI, go_sem, iv, bv, reduceCtorEq, ↓reduceIte, Nat.reduceEqDiff]
theorem cb_stop {d : D} {a b e f : Int} {n : Nat} : X G convex_Box_l0 (cb_st d a b e f n n) = some (.x 0, cb_en a b e f) := by
  have e1 : decide ((n : Int) < (n : Int)) = false := lt_f (by omega)
  simp -implicitDefEqProofs (maxSteps := 10000000) only [convex_Box_l0, cb_st, cb_en, bxP, e1, go_sem, iv, bv, reduceCtorEq, ↓reduceIte, Nat.reduceEqDiff]
theorem cb_loop {d : D} {l : List Pt} (hr : RwE cP d l) (hn : l.length ≤ 10) : ∀ (j i : Nat), i + j = l.length → X G (.loop convex_Box_l0) (cb_st d (bxL l i).1 (bxL l i).2 (bxH l i).1 (bxH l i).2 l.length i) = some (.x 0, cb_en (bxL l l.length).1 (bxL l l.length).2 (bxH l l.length).1 (bxH l l.length).2)
  | 0, i, h => by
    have : i = l.length := by omega
    subst this
    rw [X_loop, cb_stop]; rfl
  | j + 1, i, h => by
    rw [X_loop, cb_go hr hn (by omega), Option.bind_some, if_pos rfl]
    exact cb_loop hr hn j (i + 1) (by omega)
theorem cBox_spec {d : D} {l : List Pt} (hr : RwE cP d l) (h0 : 0 < l.length) (hn : l.length ≤ 10) : callX G n_convex_Box [d] = some (.d (.tup [encP (bxL l l.length), encP (bxH l l.length)])) := by
  rw [callX_eq (cf := convex_Box) rfl]
  have ll := hr.len
  have g := cb_loop hr hn l.length 0 (by omega)
  have x1 := hr.ixa (j := 0) cP_len h0
  have x2 := fun hp => ldE (j := 0) (l := l) cP_len hp h0
  simp only [nc0, List.drop_zero] at x1 x2
  rw [bxL, bxH] at g
  generalize bxL l l.length = lo at *
  generalize bxH l l.length = hi' at *
  generalize l.getD 0 default = p at *
  obtain ⟨a, b⟩ := lo
  obtain ⟨e, f⟩ := hi'
  obtain ⟨x, y⟩ := p
  simp only [encP, cP, iv] at x2
  simp only [cb_st, cb_en, bxP, nc0, go_sem, iv] at g
  simp -implicitDefEqProofs (maxSteps := 10000000) only [convex_Box, g, ll, x1, x2, encP, cP, st2p, ld2p, toDs, apartS, ne_eq, not_false_eq_true, go_sem, iv, bv, reduceCtorEq, ↓reduceIte, Nat.reduceEqDiff]
theorem bxr_go {d : D} {l : List Pt} (hr : RwE cP d l) (hn : l.length ≤ 10) {i : Nat} (hi : i < l.length) : X G gantryref12_Box_l0 (bxr_st d (bxL l i).1 (bxL l i).2 (bxH l i).1 (bxH l i).2 i) = some (.n, bxr_st d (bxL l (i + 1)).1 (bxL l (i + 1)).2 (bxH l (i + 1)).1 (bxH l (i + 1)).2 ((i + 1 : Nat) : Int)) := by
  have ll := hr.len
  have e1 : decide ((i : Int) < (l.length : Int)) = true := lt_t (by omega)
  have e2 : w64 ((i : Int) + 1) = ((i + 1 : Nat) : Int) := by rw [w64_id (by omega) (by omega)]; rfl
  have x1 := hr.ixa cP_len hi
  have x2 := fun hp => ldF (i := 0) cP_len hp hi (by omega)
  have x3 := fun hp => ldF (i := 1) cP_len hp hi (by omega)
  rw [bxL, bxH]
  generalize bxL l i = lo at *
  generalize bxH l i = hi' at *
  generalize l.getD i default = p at *
  obtain ⟨a, b⟩ := lo
  obtain ⟨e, f⟩ := hi'
  obtain ⟨x, y⟩ := p
  simp only [cP, List.drop_zero, List.getElem?_cons_succ, List.getElem?_cons_zero, Option.map_some, iv] at x2 x3
  simp -implicitDefEqProofs (maxSteps := 10000000) only [gantryref12_Box_l0, bxr_st, bxP, mnI, mxI, foldV, mnV, mxV, ll, x1, x2, x3, e1, e2, st1_0, st1_1, ld2_0, ld2_1, oneI, go_sem, iv, bv, reduceCtorEq, ↓reduceIte, Nat.reduceEqDiff]
theorem bxr_stop {d : D} {l : List Pt} (hr : RwE cP d l) {a b e f : Int} : X G gantryref12_Box_l0 (bxr_st d a b e f l.length) = some (.x 0, cb_en a b e f) := by
  have ll := hr.len
  have e1 : decide ((l.length : Int) < (l.length : Int)) = false := lt_f (by omega)
  simp -implicitDefEqProofs (maxSteps := 10000000) only [gantryref12_Box_l0, bxr_st, cb_en, bxP, ll, e1, go_sem, iv, bv, reduceCtorEq, ↓reduceIte, Nat.reduceEqDiff]
theorem bxr_loop {d : D} {l : List Pt} (hr : RwE cP d l) (hn : l.length ≤ 10) : ∀ (j i : Nat), i + j = l.length → X G (.loop gantryref12_Box_l0) (bxr_st d (bxL l i).1 (bxL l i).2 (bxH l i).1 (bxH l i).2 i) = some (.x 0, cb_en (bxL l l.length).1 (bxL l l.length).2 (bxH l l.length).1 (bxH l l.length).2)
  | 0, i, h => by
    have : i = l.length := by omega
    subst this
    rw [X_loop, bxr_stop hr]; rfl
  | j + 1, i, h => by
    rw [X_loop, bxr_go hr hn (by omega), Option.bind_some, if_pos rfl]
    exact bxr_loop hr hn j (i + 1) (by omega)
theorem rBox_spec {d : D} {l : List Pt} (hr : RwE cP d l) (h0 : 0 < l.length) (hn : l.length ≤ 10) : callX G n_gantryref12_Box [d] = some (.d (.tup [encP (bxL l l.length), encP (bxH l l.length)])) := by
  rw [callX_eq (cf := gantryref12_Box) rfl]
  have ll := hr.len
  have g := bxr_loop hr hn l.length 0 (by omega)
  have x1 := hr.ixa (j := 0) cP_len h0
  have x2 := fun hp => ldE (j := 0) (l := l) cP_len hp h0
  simp only [nc0, List.drop_zero] at x1 x2
  rw [bxL, bxH] at g
  generalize bxL l l.length = lo at *
  generalize bxH l l.length = hi' at *
  generalize l.getD 0 default = p at *
  obtain ⟨a, b⟩ := lo
  obtain ⟨e, f⟩ := hi'
  obtain ⟨x, y⟩ := p
  simp only [encP, cP, iv] at x2
  simp only [bxr_st, cb_en, bxP, nc0, go_sem, iv] at g
  simp -implicitDefEqProofs (maxSteps := 10000000) only [gantryref12_Box, g, ll, x1, x2, encP, cP, st2p, ld2p, toDs, apartS, ne_eq, not_false_eq_true, go_sem, iv, bv, reduceCtorEq, ↓reduceIte, Nat.reduceEqDiff]
end Go.AM

namespace Go.AM
open Go Go.RowKit
def cv_st (a b : List Pt) (O : List Eg) (p q : Pt) (i : Int) : St := mkS [(5, .d (rowE cP a)), (6, .d (rowE cP b)), (7, .d (rowE cG O)), (8, .ptr [8] 0), (9, .ptr [9] 0), (10, .ptr [10] 0), (11, .ptr [11] 0), (12, ai i)] [([8], bxP p.1 p.2), ([9], bxP q.1 q.2), ([10], bxP p.1 p.2), ([11], bxP q.1 q.2)]
def cv_en (p q : Pt) : St := mkS [(8, .ptr [8] 0), (9, .ptr [9] 0), (10, .ptr [10] 0), (11, .ptr [11] 0)] [([8], bxP p.1 p.2), ([9], bxP q.1 q.2), ([10], bxP p.1 p.2), ([11], bxP q.1 q.2)]
variable [Its]
theorem cv_go {a b : List Pt} {O : List Eg} {p q : Pt} (ha : GdS a) (hb : GdS b) (hO : ∀ e ∈ O, NmD e.1) (hn : O.length ≤ 1000) {i : Nat} (hi : i < O.length) :
    X G gantrylaw12_ConvexSides_l0 (cv_st a b O p q i) = some (.n, cv_st a b O p q ((i + 1 : Nat) : Int)) := by
  have e1 : decide ((i : Int) < (O.length : Int)) = true := lt_t (by omega)
  have e2 : w64 ((i : Int) + 1) = ((i + 1 : Nat) : Int) := by rw [w64_id (by omega) (by omega)]; rfl
  have ll : lenA (.d (rowE cG O)) = some O.length := rfl
  have x1 := RwE.ixa (d := rowE cG O) (l := O) cG_len (.inr rfl) hi
  have x2 := fun hp => ldGd hp hi
  have he := hO _ (eg_mem hi)
  have g1 := cMost_spec (d := rowE cP a) (l := a) (e := (O.getD i default).1) (.inr rfl) ha.pos ha.sm he.sm (by have := ha.le; omega)
  have g2 := Most_spec (d := rowE cP a) (l := a) (e := (O.getD i default).1) (.inr rfl) ha.pos ha.sm he.sm (by have := ha.le; omega)
  have g3 := cMost_spec (d := rowE cP b) (l := b) (e := (O.getD i default).1) (.inr rfl) hb.pos hb.sm he.sm (by have := hb.le; omega)
  have g4 := Most_spec (d := rowE cP b) (l := b) (e := (O.getD i default).1) (.inr rfl) hb.pos hb.sm he.sm (by have := hb.le; omega)
  generalize moP (O.getD i default).1 a = m1 at *
  generalize moP (O.getD i default).1 b = m2 at *
  generalize O.getD i default = e at *
  have n1 : (m1 != m1) = false := bne_f rfl
  have n2 : (m2 != m2) = false := bne_f rfl
  obtain ⟨⟨a1, b1, c1⟩, t1⟩ := e
  simp only [encD, cD, iv] at x2 g1 g2 g3 g4
  simp -implicitDefEqProofs (maxSteps := 10000000) only [gantrylaw12_ConvexSides_l0, cv_st, bxP, ll, x1, x2, g1, g2, g3, g4, n1, n2, e1, e2, List.drop_zero, go_sem, iv, bv, reduceCtorEq, ↓reduceIte, Nat.reduceEqDiff]
theorem cv_stop {a b : List Pt} {O : List Eg} {p q : Pt} : X G gantrylaw12_ConvexSides_l0 (cv_st a b O p q O.length) = some (.x 0, cv_en p q) := by
  have e1 : decide ((O.length : Int) < (O.length : Int)) = false := lt_f (by omega)
  have ll : lenA (.d (rowE cG O)) = some O.length := rfl
  simp -implicitDefEqProofs (maxSteps := 10000000) only [gantrylaw12_ConvexSides_l0, cv_st, cv_en, bxP, ll, e1, go_sem, iv, bv, reduceCtorEq, ↓reduceIte, Nat.reduceEqDiff]
theorem cv_loop {a b : List Pt} {O : List Eg} {p q : Pt} (ha : GdS a) (hb : GdS b) (hO : ∀ e ∈ O, NmD e.1) (hn : O.length ≤ 1000) : ∀ (j i : Nat), i + j = O.length →
    X G (.loop gantrylaw12_ConvexSides_l0) (cv_st a b O p q i) = some (.x 0, cv_en p q)
  | 0, i, h => by
    have : i = O.length := by omega
    subst this
    rw [X_loop, cv_stop]; rfl
  | j + 1, i, h => by
    rw [X_loop, cv_go ha hb hO hn (by omega), Option.bind_some, if_pos rfl]
    exact cv_loop ha hb hO hn j (i + 1) (by omega)
end Go.AM
namespace Go.Proofs.Ytpcoidklfmaomaa.Pure
open Go Go.AM
attribute [local instance] noIts
theorem ConvexSides (e0 : D) (l0 : List Int) (hd0 : Dg e0 l0) (hwf0 : ∀ n ∈ l0, (Lit.int .i64 n).wf = true) (hlen0 : l0.length * 8 ≤ 140737488351232) (e1 : D) (l1 : List Int) (hd1 : Dg e1 l1) (hwf1 : ∀ n ∈ l1, (Lit.int .i64 n).wf = true) (hlen1 : l1.length * 8 ≤ 140737488351232) : callX G n_gantrylaw12_ConvexSides [e0, e1] = some (.d (bv true)) := by
  have g0 := Shape_spec (rw_dg hd0) (fun n hn => i64_wf (hwf0 n hn))
  have g1 := Shape_spec (rw_dg hd1) (fun n hn => i64_wf (hwf1 n hn))
  have ga := gd_sh l0
  have gb := gd_sh l1
  have g2 := cSides_spec (da := rowE cP (spP l0)) (db := rowE cP (spP l1)) (.inr rfl) (.inr rfl) ga gb
  have g3 := Sides_spec (da := rowE cP (spP l0)) (db := rowE cP (spP l1)) (.inr rfl) (.inr rfl) ga gb
  have g4 := SameE_refl (l := sdP (spP l0) (spP l1)) (by have := sd_le ga gb; omega)
  have g5 := cArea_spec (d := rowE cP (spP l0)) (l := spP l0) (.inr rfl) ga.sm ga.le
  have g6 := rArea_spec (d := rowE cP (spP l0)) (l := spP l0) (.inr rfl) ga.sm ga.le
  have g7 := cBox_spec (d := rowE cP (spP l1)) (l := spP l1) (.inr rfl) gb.pos gb.le
  have g8 := rBox_spec (d := rowE cP (spP l1)) (l := spP l1) (.inr rfl) gb.pos gb.le
  have gl := fun p q => cv_loop (p := p) (q := q) (O := sdP (spP l0) (spP l1)) ga gb (fun e he => sd_nm ga gb he) (by have := sd_le ga gb; omega) (sdP (spP l0) (spP l1)).length 0 (by omega)
  generalize sdP (spP l0) (spP l1) = O at *
  generalize arN (spP l0) (spP l0).length = ar at *
  have gl := gl (bxL (spP l1) (spP l1).length) (bxH (spP l1) (spP l1).length)
  generalize bxL (spP l1) (spP l1).length = p at *
  generalize bxH (spP l1) (spP l1).length = q at *
  have t3 : (ar != ar) = false := bne_f rfl
  have lv := lives12
  rw [callX_eq (cf := gantrylaw12_ConvexSides) rfl]
  obtain ⟨p1, p2⟩ := p
  obtain ⟨q1, q2⟩ := q
  simp only [cv_st, cv_en, bxP, rowE, nc0, go_sem, iv] at gl
  simp only [rowE, encP, cP, iv, bv] at g0 g1 g2 g3 g4 g5 g6 g7 g8 lv
  simp -implicitDefEqProofs (maxSteps := 10000000) only [gantrylaw12_ConvexSides, gl, g0, g1, g2, g3, g4, g5, g6, g7, g8, t3, lv, st2p, ld2p, beq_self_eq_true, Bool.and_self, Bool.not_true, Bool.not_false, go_sem, iv, bv, reduceCtorEq, ↓reduceIte, Nat.reduceEqDiff]
end Go.Proofs.Ytpcoidklfmaomaa.Pure

/- The row of ConvexSides, out of its Pure. Printed by row.py. -/
namespace Go.Proofs.Ytpcoidklfmaomaa.convexSides
open Go.ChangeShapes Go.WideShapes Go.ChangeAt Go.RowKit Go.AM
theorem own : ownKnob Try.prog.godebug = none := by kernel_rfl
theorem laidOut : laidOutB Try.prog = true := by kernel_rfl
set_option maxRecDepth 100000 in
theorem lifted (os : Os) (started : os.Started) (H : Type) (enc : TypeId × Value → H) :
    ReturnsInHanded {} Try.checked os 8 .any (Rows.convexSidesSpec.pre6 enc Try.prog Try.f8 Rows.convexSidesRow.domain false) (Rows.convexSidesSpec.post enc Try.prog Try.f8 false true false false) := by
  refine returnsInHanded_of_change_sized (C := Try.checked) own started (by kernel_rfl) Try.func8
    (ChangeSpec.witness6 (enc := enc) (C := Try.checked) false ⟨#[], #[.slice none 0 0, .slice none 0 0], []⟩ 8 (by kernel_rfl) (by kernel_rfl) (by kernel_rfl) (by kernel_rfl)) ?_
  intro W base args ds gs before hval0 hW hcnd hsz0 _
  have hsz : (DataW.weightsEach Try.prog (Try.f8.params.toList ++ Rows.convexSidesSpec.plain.varTypes Try.prog) (ds ++ gs)).all (· ≤ reachBytes) = true := hsz0
  have hval : ∀ (j : Nat) t v, Try.f8.params[j]? = some t → args[j]? = some v → Value.okWide Try.prog W .any base t v := hval0
  have hW' := hW
  obtain ⟨p, q, hA0, hV, rfl, hfz, hnd⟩ := hW
  have hA : DataW.TrodAll enc Try.prog W 0 (fun _ => true) true Try.f8.params.toList args.toList ds p := hA0
  rw [Try.params8] at hA hval hsz
  obtain ⟨v0, vs0, d0, ds0, p0, q0, hargs, rfl, rfl, h0, r0⟩ := trodAll_cons hA
  obtain ⟨v1, vs1, d1, ds1, p1, q1, rfl, rfl, rfl, h1, r1⟩ := trodAll_cons r0
  obtain ⟨rfl, rfl, rfl⟩ := trodAll_nil r1
  obtain rfl : args = #[v0, v1] := by cases args; simp_all
  obtain ⟨rfl, rfl⟩ := trodVars_none hV
  obtain ⟨a0, len0, cap0, rfl⟩ := okWide_slice Try.underlying22 (hval 0 22 v0 rfl rfl)
  have k0 := h0
  have lt0 : ∀ x ∈ p0, x.block < W.heap.size := by obtain ⟨m, hm⟩ := k0; exact DataW.trod_lt m _ _ _ hm
  obtain ⟨z0, w0, y0⟩ : ∃ zs, ((a0 = none ∧ len0 = 0 ∧ cap0 = 0 ∧ zs = []) ∨ ∃ x, a0 = some x ∧ len0 ≤ cap0 ∧ cap0 ≤ maxLen ∧ zs.length = cap0 ∧ (∀ i, i < zs.length → W.cell? (x.add i) = some (.int .i64 (zs.getD i 0))) ∧ ∀ n ∈ zs, (Lit.int .i64 n).wf = true) ∧ len0 * 8 ≤ 140737488351232 := by
    obtain ⟨fuel, hf⟩ := h0
    rcases open_ints Try.underlying22 Try.underlying3 (by kernel_rfl) hf with ⟨hcs, _⟩ | ⟨x, l, c, zs, hcs, _, hl, hm, hz, hx, hcell, hwz⟩
    · simp [Value.cells] at hcs
      obtain ⟨rfl, rfl, rfl⟩ := hcs
      exact ⟨[], .inl ⟨rfl, rfl, rfl, rfl⟩, by simp⟩
    · simp [Value.cells] at hcs
      obtain ⟨rfl, rfl, rfl⟩ := hcs
      refine ⟨zs, .inr ⟨_, rfl, hl, hm, by simpa using hz, hcell, hwz⟩, ?_⟩
      simp only [Prod.mk.injEq] at hx
      have hd := hx.1
      have z := sized_slice hsz (j := 0) (t := 22) rfl (by rw [hd]; rfl) Try.underlying22
      have hb : Try.prog.bytesOf 3 = 8 := by kernel_rfl
      rw [hb] at z
      have hr : reachBytes ≤ 140737488351232 := by decide
      have hz' : zs.length = cap0 := by simpa using hz
      simp only [lits, List.length_map, List.length_take, List.length_drop] at z
      omega
  obtain ⟨e0, l0, hd0, hrep0, hlen0, hwf0⟩ := arg_row w0
  obtain ⟨a1, len1, cap1, rfl⟩ := okWide_slice Try.underlying22 (hval 1 22 v1 rfl rfl)
  have k1 := h1
  have lt1 : ∀ x ∈ p1, x.block < W.heap.size := by obtain ⟨m, hm⟩ := k1; exact DataW.trod_lt m _ _ _ hm
  obtain ⟨z1, w1, y1⟩ : ∃ zs, ((a1 = none ∧ len1 = 0 ∧ cap1 = 0 ∧ zs = []) ∨ ∃ x, a1 = some x ∧ len1 ≤ cap1 ∧ cap1 ≤ maxLen ∧ zs.length = cap1 ∧ (∀ i, i < zs.length → W.cell? (x.add i) = some (.int .i64 (zs.getD i 0))) ∧ ∀ n ∈ zs, (Lit.int .i64 n).wf = true) ∧ len1 * 8 ≤ 140737488351232 := by
    obtain ⟨fuel, hf⟩ := h1
    rcases open_ints Try.underlying22 Try.underlying3 (by kernel_rfl) hf with ⟨hcs, _⟩ | ⟨x, l, c, zs, hcs, _, hl, hm, hz, hx, hcell, hwz⟩
    · simp [Value.cells] at hcs
      obtain ⟨rfl, rfl, rfl⟩ := hcs
      exact ⟨[], .inl ⟨rfl, rfl, rfl, rfl⟩, by simp⟩
    · simp [Value.cells] at hcs
      obtain ⟨rfl, rfl, rfl⟩ := hcs
      refine ⟨zs, .inr ⟨_, rfl, hl, hm, by simpa using hz, hcell, hwz⟩, ?_⟩
      simp only [Prod.mk.injEq] at hx
      have hd := hx.1
      have z := sized_slice hsz (j := 1) (t := 22) rfl (by rw [hd]; rfl) Try.underlying22
      have hb : Try.prog.bytesOf 3 = 8 := by kernel_rfl
      rw [hb] at z
      have hr : reachBytes ≤ 140737488351232 := by decide
      have hz' : zs.length = cap1 := by simpa using hz
      simp only [lits, List.length_map, List.length_take, List.length_drop] at z
      omega
  obtain ⟨e1, l1, hd1, hrep1, hlen1, hwf1⟩ := arg_row w1
  clear hA0 hval0 hsz0 hsz
  refine (law_walk env_ok0 (f := 8) (ds := [e0, e1]) (vs := [.slice a0 len0 cap0, .slice a1 len1 cap1]) (w := W) (tabs_none rfl W) (RepL.cons _ _ _ _ hrep0 (RepL.cons _ _ _ _ hrep1 RepL.nil)) (Pure.ConvexSides e0 l0 hd0 hwf0 (by rw [hlen0]; exact y0) e1 l1 hd1 hwf1 (by rw [hlen1]; exact y1))).mono fun e W' ⟨he, bel⟩ => ?_
  subst he
  exact ⟨_, rfl, _, _, _, [], _, [], hW', trodAll_mk1 (shut_bool Try.underlying4 _), (trodAll_cons_mk (Below.trod laidOut (by kernel_rfl) (of_decide_eq_true (by kernel_rfl)) k0 bel lt0) (trodAll_cons_mk (Below.trod laidOut (by kernel_rfl) (of_decide_eq_true (by kernel_rfl)) k1 bel lt1) trodAll_mk0)), rfl, bel.frame _, fun h => by cases h⟩
theorem over : Rows.convexSidesRow.holds Try.pinned (OpenSpec.ofChange Rows.convexSidesSpec) :=
  OpenClaim.holds_of_wide 8 Try.f8 rfl rfl rfl rfl rfl rfl rfl ⟨rfl, rfl, rfl, rfl, rfl⟩ rfl rfl rfl rfl rfl (by kernel_rfl) Try.func8 (by kernel_rfl)
    (of_decide_eq_true (by kernel_rfl)) (by unfold Func.isWrapper; first | (rw [if_pos (by decide +kernel)]; kernel_rfl) | (rw [if_neg (by decide +kernel)]; exact ⟨rfl, rfl⟩))
    (fun os started H enc _ => lifted os started H enc)
theorem proved : Rows.ConvexSidesSaid := over
end Go.Proofs.Ytpcoidklfmaomaa.convexSides
namespace Go.Proofs.Ytpcoidklfmaomaa
theorem convexSides_holds : Rows.ConvexSidesSaid := convexSides.proved
end Go.Proofs.Ytpcoidklfmaomaa


