/- Part 10 of the proof: a small machine, its soundness against the model, and what the program's functions compute on it. -/
import Derived.Test.YtahiegebcdeaoaaGreatDoorM9
set_option linter.unusedVariables false
set_option linter.unusedSimpArgs false
/- Valid at any digits: integer, ref04, rat, ref05. -/
namespace Go.AM
open Go Go.RowKit

def dOk (x : Int) : Bool := decide (0 ≤ x) && decide (x < 1000000000)
def vI (b : Bool) (l : List Int) : Bool := l.all dOk && (if l = [] then !b else l.getD (l.length - 1) 0 != 0)
theorem dOk_t {x : Int} (h : dOk x = true) : 0 ≤ x ∧ x < 1000000000 := by simpa [dOk] using h
theorem dOk_f {x : Int} (h : dOk x = false) : x < 0 ∨ (¬ x < 0 ∧ 1000000000 ≤ x) := by
  by_cases h0 : x < 0
  · exact .inl h0
  · right
    refine ⟨h0, ?_⟩
    rcases Int.lt_or_le x 1000000000 with h1 | h1
    · exfalso
      have : dOk x = true := by simp [dOk]; omega
      rw [this] at h; cases h
    · exact h1
theorem all_split (l : List Int) (i : Nat) (hi : i < l.length) : (l.drop i).all dOk = (dOk (l.getD i 0) && (l.drop (i + 1)).all dOk) := by
  have e : l.drop i = l.getD i 0 :: l.drop (i + 1) := by
    rw [List.drop_eq_getElem_cons hi, List.getD_eq_getElem?_getD, List.getElem?_eq_getElem hi]; rfl
  rw [e, List.all_cons]
theorem Rw.one {d : D} {l : List Int} (h : Rw d l) : A.one (.d d) = true := by
  rcases h with rfl | rfl
  · exact one_dg' l
  · rfl
theorem Rw.dcl {d : D} {l : List Int} (h : Rw d l) : cellsOf (.d d) = [.d d] := by
  rcases h with rfl | rfl
  · cases l <;> rfl
  · rfl
theorem Rw.donee {d : D} {l : List Int} (h : Rw d l) : d.one = true := by
  rcases h with rfl | rfl
  · cases l <;> rfl
  · rfl
def bxd (b : Bool) (d : D) : Obj := ⟨0, 0, [.d (.v (.bool b)), .d d], false⟩
variable [Its]

theorem V1_gen (x : Int) : callX G n_integer_Valid_1 [iv x] = some (.d (bv (!dOk x))) := by
  cases h : dOk x with
  | true => exact V1_spec (dOk_t h)
  | false =>
    rw [callX_eq (cf := integer_Valid_1) rfl]
    rcases dOk_f h with h | ⟨h0, h⟩
    · have e1 : decide (x < 0) = true := lt_t h
      simp -implicitDefEqProofs (maxSteps := 10000000) only [integer_Valid_1, e1, go_sem, iv, bv, reduceCtorEq, ↓reduceIte, Nat.reduceEqDiff]
    · have e1 : decide (x < 0) = false := lt_f (by omega)
      have e2 : decide (x ≥ 1000000000) = true := ge_t (by omega)
      simp -implicitDefEqProofs (maxSteps := 10000000) only [integer_Valid_1, e1, e2, go_sem, iv, bv, reduceCtorEq, ↓reduceIte, Nat.reduceEqDiff]
theorem ixg_go {d : D} {l : List Int} (hr : Rw d l) (hl : l.length ≤ 1000000000000) {i : Nat} (hi : i < l.length) (hx : dOk (l.getD i 0) = true) : X G slices_IndexFunc_int_int_l0 (ixi_st d n_integer_Valid_1 (l.length : Nat) i) = some (.n, ixi_st d n_integer_Valid_1 (l.length : Nat) ((i + 1 : Nat) : Int)) := by
  have e1 : decide ((i : Int) < (l.length : Int)) = true := lt_t (by omega)
  have e2 : w64 ((i : Int) + 1) = ((i + 1 : Nat) : Int) := by rw [w64_id (by omega) (by omega)]; rfl
  have x1 := hr.ixn hi
  have x2 := fun h => ldv h l hi
  have g := V1_gen (l.getD i 0)
  rw [hx] at g
  generalize l.getD i 0 = x at *
  simp only [iv, bv, Bool.not_true] at g
  simp -implicitDefEqProofs (maxSteps := 10000000) only [slices_IndexFunc_int_int_l0, ixi_st, x1, x2, e1, e2, g, List.append_nil, go_sem, iv, bv, reduceCtorEq, ↓reduceIte, Nat.reduceEqDiff]
theorem ixg_bad {d : D} {l : List Int} (hr : Rw d l) (hl : l.length ≤ 1000000000000) {i : Nat} (hi : i < l.length) (hx : dOk (l.getD i 0) = false) : X G slices_IndexFunc_int_int_l0 (ixi_st d n_integer_Valid_1 (l.length : Nat) i) = some (.r, mkS [(4, ai i)] []) := by
  have e1 : decide ((i : Int) < (l.length : Int)) = true := lt_t (by omega)
  have x1 := hr.ixn hi
  have x2 := fun h => ldv h l hi
  have g := V1_gen (l.getD i 0)
  rw [hx] at g
  generalize l.getD i 0 = x at *
  simp only [iv, bv, Bool.not_false] at g
  simp -implicitDefEqProofs (maxSteps := 10000000) only [slices_IndexFunc_int_int_l0, ixi_st, x1, x2, e1, g, List.append_nil, go_sem, iv, bv, reduceCtorEq, ↓reduceIte, Nat.reduceEqDiff]
theorem ixg_stop {d : D} {n : Nat} : X G slices_IndexFunc_int_int_l0 (ixi_st d n_integer_Valid_1 n n) = some (.x 0, mkS [] []) := by
  have e1 : decide ((n : Int) < (n : Int)) = false := lt_f (by omega)
  simp -implicitDefEqProofs (maxSteps := 10000000) only [slices_IndexFunc_int_int_l0, ixi_st, e1, go_sem, iv, bv, reduceCtorEq, ↓reduceIte, Nat.reduceEqDiff]
theorem ixg_loop {d : D} {l : List Int} (hr : Rw d l) (hl : l.length ≤ 1000000000000) : ∀ j i : Nat, i + j = l.length →
    ((l.drop i).all dOk = true ∧ X G (.loop slices_IndexFunc_int_int_l0) (ixi_st d n_integer_Valid_1 (l.length : Nat) i) = some (.x 0, mkS [] [])) ∨
    ((l.drop i).all dOk = false ∧ ∃ k : Nat, X G (.loop slices_IndexFunc_int_int_l0) (ixi_st d n_integer_Valid_1 (l.length : Nat) i) = some (.r, mkS [(4, ai k)] []))
  | 0, i, h => by
    have : i = l.length := by omega
    subst this
    rw [X_loop, ixg_stop]
    exact .inl ⟨by rw [List.drop_length]; rfl, rfl⟩
  | j + 1, i, h => by
    rw [all_split l i (by omega)]
    cases hx : dOk (l.getD i 0) with
    | true =>
      rw [X_loop, ixg_go hr hl (by omega) hx, Option.bind_some, if_pos rfl, Bool.true_and]
      exact ixg_loop hr hl j (i + 1) (by omega)
    | false =>
      rw [X_loop, ixg_bad hr hl (by omega) hx, Bool.false_and]
      exact .inr ⟨rfl, i, rfl⟩
theorem ctg_spec {d : D} {l : List Int} (hr : Rw d l) (hl : l.length ≤ 1000000000000) : callX G n_slices_ContainsFunc_int_int [d, .fn n_integer_Valid_1 []] = some (.d (bv (!(l.all dOk)))) := by
  have ll := hr.len
  rw [callX_eq (cf := slices_ContainsFunc_int_int) rfl]
  rcases ixg_loop hr hl l.length 0 (by omega) with ⟨h1, h⟩ | ⟨h1, k, h⟩
  · have g : callX G n_slices_IndexFunc_int_int [d, .fn n_integer_Valid_1 []] = some (.d (iv (-1))) := by
      rw [callX_eq (cf := slices_IndexFunc_int_int) rfl]
      simp only [ixi_st, go_sem, nc0] at h
      simp -implicitDefEqProofs (maxSteps := 10000000) only [slices_IndexFunc_int_int, ll, h, go_sem, iv, bv, reduceCtorEq, ↓reduceIte, Nat.reduceEqDiff]
    rw [List.drop_zero] at h1
    rw [h1]
    have e1 : decide ((-1 : Int) ≥ 0) = false := rfl
    simp only [iv] at g
    simp -implicitDefEqProofs (maxSteps := 10000000) only [slices_ContainsFunc_int_int, g, e1, go_sem, iv, bv, reduceCtorEq, ↓reduceIte, Nat.reduceEqDiff]
  · have g : callX G n_slices_IndexFunc_int_int [d, .fn n_integer_Valid_1 []] = some (.d (iv k)) := by
      rw [callX_eq (cf := slices_IndexFunc_int_int) rfl]
      simp only [ixi_st, go_sem, nc0] at h
      simp -implicitDefEqProofs (maxSteps := 10000000) only [slices_IndexFunc_int_int, ll, h, go_sem, iv, bv, reduceCtorEq, ↓reduceIte, Nat.reduceEqDiff]
    rw [List.drop_zero] at h1
    rw [h1]
    have e1 : decide ((k : Int) ≥ 0) = true := ge_t (by omega)
    simp only [iv] at g
    simp -implicitDefEqProofs (maxSteps := 10000000) only [slices_ContainsFunc_int_int, g, e1, go_sem, iv, bv, reduceCtorEq, ↓reduceIte, Nat.reduceEqDiff]
theorem iValid_gen {b : Bool} {d : D} {l : List Int} (hr : Rw d l) (hl : l.length ≤ 1000000000000) : callX G n_integer_Valid [.agg [.v (.bool b), d]] = some (.d (bv (vI b l))) := by
  rw [callX_eq (cf := integer_Valid) rfl]
  have g := ctg_spec hr hl
  have o1 := hr.one
  have o2 := hr.dcl
  have o3 := hr.donee
  have ll := hr.len
  unfold vI
  cases ha : l.all dOk with
  | false =>
    rw [ha] at g
    simp only [bv, Bool.not_false] at g
    simp -implicitDefEqProofs (maxSteps := 10000000) only [integer_Valid, g, o1, o2, o3, go_sem, stcells, ldcells, iv, bv, reduceCtorEq, ↓reduceIte, Nat.reduceEqDiff, Bool.false_and]
  | true =>
    rw [ha] at g
    simp only [bv, Bool.not_true] at g
    by_cases h0 : l = []
    · subst h0
      have e0 : ((((([] : List Int).length : Nat) : Int)) == 0) = true := rfl
      have e0' : ((0 : Int) == 0) = true := rfl
      have e2 : decide (((([] : List Int).length : Nat) : Int) > 0) = false := rfl
      have e2' : decide ((0 : Int) > 0) = false := rfl
      cases b <;> simp -implicitDefEqProofs (maxSteps := 10000000) only [integer_Valid, ubt, g, ll, e0, e0', e2, e2', o1, o2, o3, go_sem, stcells, ldcells, iv, bv, reduceCtorEq, ↓reduceIte, Nat.reduceEqDiff, Bool.true_and]
    · have hp : 0 < l.length := List.length_pos_iff.2 h0
      obtain ⟨n, hn⟩ : ∃ n, l.length = n + 1 := ⟨l.length - 1, by omega⟩
      have e1 : ((l.length : Int) == 0) = false := beq_f (by omega)
      have e2 : decide ((l.length : Int) > 0) = true := gt_t (by omega)
      have e3 : w64 ((l.length : Int) - 1) = (n : Int) := by rw [w64_id (by omega) (by omega)]; omega
      have x1 := hr.ixn (j := n) (by omega)
      have x2 := fun h => ldv h l (j := n) (by omega)
      have en : l.length - 1 = n := by omega
      rw [if_neg h0, en]
      generalize l.getD n 0 = v at *
      simp -implicitDefEqProofs (maxSteps := 10000000) only [integer_Valid, ubt, g, ll, e1, e2, e3, x1, x2, o1, o2, o3, go_sem, stcells, ldcells, iv, bv, reduceCtorEq, ↓reduceIte, Nat.reduceEqDiff, Bool.true_and]

/-! ### ref04.Valid -/
def w4_st (b : Bool) (d : D) (i : Int) : St := mkS [(1, .ptr [1] 0), (3, ai i)] [([1], bxd b d)]
theorem w4_go {b : Bool} {d : D} {l : List Int} (hr : Rw d l) (hl : l.length ≤ 1000000000000) {i : Nat} (hi : i < l.length) (hx : dOk (l.getD i 0) = true) : X G gantryref04_Valid_l0 (w4_st b d i) = some (.n, w4_st b d ((i + 1 : Nat) : Int)) := by
  have e1 : decide ((i : Int) < (l.length : Int)) = true := lt_t (by omega)
  have e2 : w64 ((i : Int) + 1) = ((i + 1 : Nat) : Int) := by rw [w64_id (by omega) (by omega)]; rfl
  have x1 := hr.ixn hi
  have x2 := fun h => ldv h l hi
  have ll := hr.len
  obtain ⟨h1, h2⟩ := dOk_t hx
  generalize l.getD i 0 = x at *
  have c1 : decide (x < 0) = false := lt_f (by omega)
  have c2 : decide (x ≥ 1000000000) = false := decide_eq_false (by omega)
  simp -implicitDefEqProofs (maxSteps := 10000000) only [gantryref04_Valid_l0, w4_st, bxd, ll, x1, x2, e1, e2, c1, c2, go_sem, stcells, ldcells, iv, bv, reduceCtorEq, ↓reduceIte, Nat.reduceEqDiff]
theorem w4_bad {b : Bool} {d : D} {l : List Int} (hr : Rw d l) (hl : l.length ≤ 1000000000000) {i : Nat} (hi : i < l.length) (hx : dOk (l.getD i 0) = false) : X G gantryref04_Valid_l0 (w4_st b d i) = some (.r, mkS [(2, .d (.v (.bool false)))] []) := by
  have e1 : decide ((i : Int) < (l.length : Int)) = true := lt_t (by omega)
  have x1 := hr.ixn hi
  have x2 := fun h => ldv h l hi
  have ll := hr.len
  have hx' := dOk_f hx
  generalize l.getD i 0 = x at *
  rcases hx' with h | ⟨h0, h⟩
  · have c1 : decide (x < 0) = true := lt_t h
    simp -implicitDefEqProofs (maxSteps := 10000000) only [gantryref04_Valid_l0, w4_st, bxd, ll, x1, x2, e1, c1, go_sem, stcells, ldcells, iv, bv, reduceCtorEq, ↓reduceIte, Nat.reduceEqDiff]
  · have c1 : decide (x < 0) = false := lt_f (by omega)
    have c2 : decide (x ≥ 1000000000) = true := ge_t (by omega)
    simp -implicitDefEqProofs (maxSteps := 10000000) only [gantryref04_Valid_l0, w4_st, bxd, ll, x1, x2, e1, c1, c2, go_sem, stcells, ldcells, iv, bv, reduceCtorEq, ↓reduceIte, Nat.reduceEqDiff]
theorem w4_stop {b : Bool} {d : D} {l : List Int} (hr : Rw d l) : X G gantryref04_Valid_l0 (w4_st b d (l.length : Nat)) = some (.x 0, mkS [(1, .ptr [1] 0)] [([1], bxd b d)]) := by
  have e1 : decide ((l.length : Int) < (l.length : Int)) = false := lt_f (by omega)
  have ll := hr.len
  simp -implicitDefEqProofs (maxSteps := 10000000) only [gantryref04_Valid_l0, w4_st, bxd, ll, e1, go_sem, stcells, ldcells, iv, bv, reduceCtorEq, ↓reduceIte, Nat.reduceEqDiff]
theorem w4_loop {b : Bool} {d : D} {l : List Int} (hr : Rw d l) (hl : l.length ≤ 1000000000000) : ∀ j i : Nat, i + j = l.length →
    ((l.drop i).all dOk = true ∧ X G (.loop gantryref04_Valid_l0) (w4_st b d i) = some (.x 0, mkS [(1, .ptr [1] 0)] [([1], bxd b d)])) ∨
    ((l.drop i).all dOk = false ∧ X G (.loop gantryref04_Valid_l0) (w4_st b d i) = some (.r, mkS [(2, .d (.v (.bool false)))] []))
  | 0, i, h => by
    have : i = l.length := by omega
    subst this
    rw [X_loop, w4_stop hr]
    exact .inl ⟨by rw [List.drop_length]; rfl, rfl⟩
  | j + 1, i, h => by
    rw [all_split l i (by omega)]
    cases hx : dOk (l.getD i 0) with
    | true =>
      rw [X_loop, w4_go hr hl (by omega) hx, Option.bind_some, if_pos rfl, Bool.true_and]
      exact w4_loop hr hl j (i + 1) (by omega)
    | false =>
      rw [X_loop, w4_bad hr hl (by omega) hx, Bool.false_and]
      exact .inr ⟨rfl, rfl⟩
theorem r4Valid_gen {b : Bool} {d : D} {l : List Int} (hr : Rw d l) (hl : l.length ≤ 1000000000000) : callX G n_gantryref04_Valid [.agg [.v (.bool b), d]] = some (.d (bv (vI b l))) := by
  rw [callX_eq (cf := gantryref04_Valid) rfl]
  have o1 := hr.one
  have o2 := hr.dcl
  have o3 := hr.donee
  have ll := hr.len
  unfold vI
  rcases w4_loop (b := b) hr hl l.length 0 (by omega) with ⟨h1, h⟩ | ⟨h1, h⟩
  · rw [List.drop_zero] at h1
    rw [h1]
    simp only [w4_st, bxd, go_sem, nc0] at h
    by_cases h0 : l = []
    · subst h0
      have e0 : ((((([] : List Int).length : Nat) : Int)) == 0) = true := rfl
      have e0' : ((0 : Int) == 0) = true := rfl
      cases b <;> simp -implicitDefEqProofs (maxSteps := 10000000) only [gantryref04_Valid, ubt, h, ll, e0, e0', o1, o2, o3, go_sem, stcells, ldcells, iv, bv, reduceCtorEq, ↓reduceIte, Nat.reduceEqDiff, Bool.true_and]
    · have hp : 0 < l.length := List.length_pos_iff.2 h0
      obtain ⟨n, hn⟩ : ∃ n, l.length = n + 1 := ⟨l.length - 1, by omega⟩
      have e1 : ((l.length : Int) == 0) = false := beq_f (by omega)
      have e3 : w64 ((l.length : Int) - 1) = (n : Int) := by rw [w64_id (by omega) (by omega)]; omega
      have x1 := hr.ixn (j := n) (by omega)
      have x2 := fun h => ldv h l (j := n) (by omega)
      have en : l.length - 1 = n := by omega
      rw [if_neg h0, en]
      generalize l.getD n 0 = v at *
      simp -implicitDefEqProofs (maxSteps := 10000000) only [gantryref04_Valid, ubt, h, ll, e1, e3, x1, x2, o1, o2, o3, go_sem, stcells, ldcells, iv, bv, reduceCtorEq, ↓reduceIte, Nat.reduceEqDiff, Bool.true_and]
  · rw [List.drop_zero] at h1
    rw [h1]
    simp only [w4_st, bxd, go_sem, nc0] at h
    simp -implicitDefEqProofs (maxSteps := 10000000) only [gantryref04_Valid, h, o1, o2, o3, go_sem, stcells, ldcells, iv, bv, reduceCtorEq, ↓reduceIte, Nat.reduceEqDiff, Bool.false_and]
end Go.AM

/- rat.Valid, ref05.Valid at a whole numerator and any denominator. -/
namespace Go.AM
open Go Go.RowKit

def vR (x : Int) (c : Bool) (m : List Int) : Bool := vI c m && !c && !(decide (m = [1])) && (decide (m = []) || decide (Int.gcd x (val m) = 1))
theorem vI_canon {m : List Int} (h : vI false m = true) : Dig m ∧ Top m := by
  unfold vI at h
  simp only [Bool.and_eq_true] at h
  obtain ⟨h1, h2⟩ := h
  refine ⟨fun d hd => dOk_t (List.all_eq_true.1 h1 d hd), fun hne => ?_⟩
  rw [if_neg hne] at h2
  have e : m.getD (m.length - 1) 0 = m.getLast hne := by
    rw [List.getLast_eq_getElem, List.getD_eq_getElem?_getD, List.getElem?_eq_getElem (by have := List.length_pos_iff.2 hne; omega)]; rfl
  rw [e] at h2
  simpa using h2
theorem one_iff (m : List Int) : decide (m = [1]) = ((m.length : Int) == 1 && m.getD 0 0 == 1) := by
  match m with
  | [] => rfl
  | [x] =>
    by_cases h : x = 1
    · subst h; rfl
    · have h1 : decide ([x] = [1]) = false := decide_eq_false (fun e => h (List.cons.inj e).1)
      rw [h1]
      have : (x == 1) = false := beq_f h
      simp [this]
  | x :: y :: r =>
    have h1 : decide (x :: y :: r = [1]) = false := decide_eq_false (fun e => by simp at e)
    rw [h1]
    have h2 : (((x :: y :: r).length : Nat) : Int) ≠ 1 := by simp only [List.length_cons]; omega
    rw [beq_f h2]; rfl
variable [Its]
theorem unit_gen {d : D} {m : List Int} (hr : Rw d m) : callX G n_rat_unit [.agg [.v (.bool false), d]] = some (.d (bv (decide (m = [1])))) := by
  rw [callX_eq (cf := rat_unit) rfl]
  have o1 := hr.one
  have o2 := hr.dcl
  have o3 := hr.donee
  have ll := hr.len
  rw [one_iff]
  by_cases h : m.length = 1
  · have e1 : ((m.length : Int) == 1) = true := by rw [h]; rfl
    have x1 := hr.ixn (j := 0) (by omega)
    have x2 : ∀ h, loadA h none (.d (.rp (m.map iv))) = some (.d (iv (m.getD 0 0))) := fun h => by
      have := ldv h m (j := 0) (by omega)
      rwa [List.drop_zero] at this
    rw [e1, Bool.true_and]
    generalize m.getD 0 0 = v at *
    have x1' : ∀ h, ixaA h 1 0 (.d d) = some (.d (.rp (m.map iv))) := fun h => by
      have := x1 h
      rwa [List.drop_zero] at this
    simp -implicitDefEqProofs (maxSteps := 10000000) only [rat_unit, ll, e1, x1', x2, o1, o2, o3, go_sem, stcells, ldcells, iv, bv, reduceCtorEq, ↓reduceIte, Nat.reduceEqDiff]
  · have e1 : ((m.length : Int) == 1) = false := beq_f (by omega)
    rw [e1, Bool.false_and]
    simp -implicitDefEqProofs (maxSteps := 10000000) only [rat_unit, ll, e1, o1, o2, o3, go_sem, stcells, ldcells, iv, bv, reduceCtorEq, ↓reduceIte, Nat.reduceEqDiff]
theorem rone_gen {d : D} {m : List Int} (hr : Rw d m) : callX G n_gantryref05_one [.agg [.v (.bool false), d]] = some (.d (bv (decide (m = [1])))) := by
  rw [callX_eq (cf := gantryref05_one) rfl]
  have o1 := hr.one
  have o2 := hr.dcl
  have o3 := hr.donee
  have ll := hr.len
  rw [one_iff]
  by_cases h : m.length = 1
  · have e1 : ((m.length : Int) == 1) = true := by rw [h]; rfl
    have e1' : ((m.length : Int) != 1) = false := by rw [h]; rfl
    have x1 := hr.ixn (j := 0) (by omega)
    have x2 : ∀ h, loadA h none (.d (.rp (m.map iv))) = some (.d (iv (m.getD 0 0))) := fun h => by
      have := ldv h m (j := 0) (by omega)
      rwa [List.drop_zero] at this
    rw [e1, Bool.true_and]
    generalize m.getD 0 0 = v at *
    have x1' : ∀ h, ixaA h 1 0 (.d d) = some (.d (.rp (m.map iv))) := fun h => by
      have := x1 h
      rwa [List.drop_zero] at this
    simp -implicitDefEqProofs (maxSteps := 10000000) only [gantryref05_one, ll, e1', x1', x2, o1, o2, o3, go_sem, stcells, ldcells, iv, bv, reduceCtorEq, ↓reduceIte, Nat.reduceEqDiff]
  · have e1 : ((m.length : Int) == 1) = false := beq_f (by omega)
    have e1' : ((m.length : Int) != 1) = true := bne_t (by omega)
    rw [e1, Bool.false_and]
    simp -implicitDefEqProofs (maxSteps := 10000000) only [gantryref05_one, ll, e1', o1, o2, o3, go_sem, stcells, ldcells, iv, bv, reduceCtorEq, ↓reduceIte, Nat.reduceEqDiff]
theorem vI_enc {x : Int} (hx : nd x ≤ 1000000000000) : vI (decide (x < 0)) (digs x.natAbs) = true := by
  have _its : Its := inferInstance
  have g := iValid_spec (b := decide (x < 0)) hx (digs_dig _) (digs_top _) (fun h => by
    have : ((x.natAbs : Nat) : Int) = 0 := by
      have := congrArg val h
      rw [val_digs] at this
      exact this
    exact decide_eq_false (by omega))
  have g2 := iValid_gen (b := decide (x < 0)) (Rw.dg (digs x.natAbs)) hx
  rw [g] at g2
  simpa [bv] using g2.symm
theorem rV_gen {x : Int} {c : Bool} {d : D} {m : List Int} (hr : Rw d m) (hx : nd x ≤ 1000000000) (hm : m.length ≤ 1000000000) :
    callX G n_rat_Valid [.agg [.v (.bool (decide (x < 0))), dg (digs x.natAbs), .v (.bool c), d]] = some (.d (bv (vR x c m))) := by
  rw [callX_eq (cf := rat_Valid) rfl]
  have o1 := hr.one
  have o2 := hr.dcl
  have o3 := hr.donee
  have ll := hr.len
  have g1 := iValid_gen (b := decide (x < 0)) (Rw.dg (digs x.natAbs)) (show (digs x.natAbs).length ≤ 1000000000000 by unfold nd at hx; omega)
  rw [vI_enc (by omega)] at g1
  have g2 := iValid_gen (b := c) hr (by omega)
  unfold vR
  cases hv : vI c m with
  | false =>
    rw [hv] at g2
    generalize digs x.natAbs = n at *
    generalize decide (x < 0) = b at *
    simp only [bv] at g1 g2
    simp -implicitDefEqProofs (maxSteps := 10000000) only [rat_Valid, g1, g2, o1, o2, o3, go_sem, stcells, ldcells, iv, bv, reduceCtorEq, ↓reduceIte, Nat.reduceEqDiff, Bool.false_and]
  | true =>
    rw [hv] at g2
    cases c with
    | true =>
      generalize digs x.natAbs = n at *
      generalize decide (x < 0) = b at *
      simp only [bv] at g1 g2
      simp -implicitDefEqProofs (maxSteps := 10000000) only [rat_Valid, g1, g2, o1, o2, o3, go_sem, stcells, ldcells, iv, bv, reduceCtorEq, ↓reduceIte, Nat.reduceEqDiff, Bool.false_and, Bool.and_false, Bool.not_true]
    | false =>
      have u := unit_gen hr
      cases hu : decide (m = [1]) with
      | true =>
        rw [hu] at u
        generalize digs x.natAbs = n at *
        generalize decide (x < 0) = b at *
        simp only [bv] at g1 g2 u
        simp -implicitDefEqProofs (maxSteps := 10000000) only [rat_Valid, g1, g2, u, o1, o2, o3, go_sem, stcells, ldcells, iv, bv, reduceCtorEq, ↓reduceIte, Nat.reduceEqDiff, Bool.false_and, Bool.and_false, Bool.not_true]
      | false =>
        rw [hu] at u
        by_cases h0 : m = []
        · have e1 : decide (m = []) = true := decide_eq_true h0
          have e2 : ((m.length : Int) == 0) = true := by rw [h0]; rfl
          rw [e1]
          generalize digs x.natAbs = n at *
          generalize decide (x < 0) = b at *
          simp only [bv] at g1 g2 u
          simp -implicitDefEqProofs (maxSteps := 10000000) only [rat_Valid, g1, g2, u, ll, e2, o1, o2, o3, go_sem, stcells, ldcells, iv, bv, reduceCtorEq, ↓reduceIte, Nat.reduceEqDiff, Bool.true_and, Bool.and_true, Bool.true_or, Bool.not_false]
        · have e1 : decide (m = []) = false := decide_eq_false h0
          have e2 : ((m.length : Int) == 0) = false := beq_f (by have := List.length_pos_iff.2 h0; omega)
          obtain ⟨hd, ht⟩ := vI_canon hv
          have hval := val_nonneg hd
          have em := digs_val hd ht
          have ed : d = dg m := by
            rcases hr with rfl | rfl
            · rfl
            · exact (dg_ne h0).symm
          subst ed
          have nv : (digs (val m).natAbs).length ≤ 1000000000 := by rw [show (val m).natAbs = (val m).toNat by omega, em]; exact hm
          have gg := Gcd_spec (x := x) (y := val m) (by omega) (by unfold nd; omega)
          have eE : encI (val m) = .agg [.v (.bool false), dg m] := by
            rw [encI, decide_eq_false (by omega), show (val m).natAbs = (val m).toNat by omega, em]; rfl
          rw [eE] at gg
          have gg' : callX G n_integer_Gcd [.agg [.v (.bool (decide (x < 0))), dg (digs x.natAbs)], .agg [.v (.bool false), dg m]] = some (.d (encI (Int.gcd x (val m) : Int))) := gg
          have hgl : nd (Int.gcd x (val m) : Int) ≤ 1000000000 := by
            refine Nat.le_trans (nd_mono ?_) nv
            have hv0 : val m ≠ 0 := fun h => h0 (by rw [h] at em; rw [← em]; exact digs_zero)
            rw [Int.natAbs_natCast]
            exact Nat.le_of_dvd (by omega) (Int.natAbs_dvd_natAbs.2 (Int.gcd_dvd_right x (val m)))
          have u1 := unit_spec (Int.gcd x (val m) : Int) (by omega)
          have eg : decide ((Int.gcd x (val m) : Int) = 1) = decide (Int.gcd x (val m) = 1) := decide_eq_decide.2 (by omega)
          rw [eg] at u1
          rw [e1]
          clear gg hgl eg eE nv hd ht
          generalize decide (Int.gcd x (val m) = 1) = gv at *
          generalize encI (Int.gcd x (val m) : Int) = ge at *
          generalize digs x.natAbs = n at *
          generalize decide (x < 0) = b at *
          simp only [bv] at g1 g2 u u1
          simp -implicitDefEqProofs (maxSteps := 10000000) only [rat_Valid, g1, g2, u, u1, gg', ll, e2, o1, o2, o3, go_sem, stcells, ldcells, iv, bv, reduceCtorEq, ↓reduceIte, Nat.reduceEqDiff, Bool.true_and, Bool.and_true, Bool.false_or, Bool.not_false]
theorem r5V_gen {x : Int} {c : Bool} {d : D} {m : List Int} (hr : Rw d m) (hx : nd x ≤ 1000000000) (hm : m.length ≤ 1000000000) :
    callX G n_gantryref05_Valid [.agg [.v (.bool (decide (x < 0))), dg (digs x.natAbs), .v (.bool c), d]] = some (.d (bv (vR x c m))) := by
  rw [callX_eq (cf := gantryref05_Valid) rfl]
  have o1 := hr.one
  have o2 := hr.dcl
  have o3 := hr.donee
  have ll := hr.len
  have g1 := r4Valid_gen (b := decide (x < 0)) (Rw.dg (digs x.natAbs)) (show (digs x.natAbs).length ≤ 1000000000000 by unfold nd at hx; omega)
  rw [vI_enc (by omega)] at g1
  have g2 := r4Valid_gen (b := c) hr (by omega)
  unfold vR
  cases hv : vI c m with
  | false =>
    rw [hv] at g2
    generalize digs x.natAbs = n at *
    generalize decide (x < 0) = b at *
    simp only [bv] at g1 g2
    simp -implicitDefEqProofs (maxSteps := 10000000) only [gantryref05_Valid, g1, g2, o1, o2, o3, go_sem, stcells, ldcells, iv, bv, reduceCtorEq, ↓reduceIte, Nat.reduceEqDiff, Bool.false_and]
  | true =>
    rw [hv] at g2
    cases c with
    | true =>
      generalize digs x.natAbs = n at *
      generalize decide (x < 0) = b at *
      simp only [bv] at g1 g2
      simp -implicitDefEqProofs (maxSteps := 10000000) only [gantryref05_Valid, g1, g2, o1, o2, o3, go_sem, stcells, ldcells, iv, bv, reduceCtorEq, ↓reduceIte, Nat.reduceEqDiff, Bool.false_and, Bool.and_false, Bool.not_true]
    | false =>
      have u := rone_gen hr
      cases hu : decide (m = [1]) with
      | true =>
        rw [hu] at u
        generalize digs x.natAbs = n at *
        generalize decide (x < 0) = b at *
        simp only [bv] at g1 g2 u
        simp -implicitDefEqProofs (maxSteps := 10000000) only [gantryref05_Valid, g1, g2, u, o1, o2, o3, go_sem, stcells, ldcells, iv, bv, reduceCtorEq, ↓reduceIte, Nat.reduceEqDiff, Bool.false_and, Bool.and_false, Bool.not_true]
      | false =>
        rw [hu] at u
        by_cases h0 : m = []
        · have e1 : decide (m = []) = true := decide_eq_true h0
          have e2 : ((m.length : Int) == 0) = true := by rw [h0]; rfl
          rw [e1]
          generalize digs x.natAbs = n at *
          generalize decide (x < 0) = b at *
          simp only [bv] at g1 g2 u
          simp -implicitDefEqProofs (maxSteps := 10000000) only [gantryref05_Valid, g1, g2, u, ll, e2, o1, o2, o3, go_sem, stcells, ldcells, iv, bv, reduceCtorEq, ↓reduceIte, Nat.reduceEqDiff, Bool.true_and, Bool.and_true, Bool.true_or, Bool.not_false]
        · have e1 : decide (m = []) = false := decide_eq_false h0
          have e2 : ((m.length : Int) == 0) = false := beq_f (by have := List.length_pos_iff.2 h0; omega)
          obtain ⟨hd, ht⟩ := vI_canon hv
          have hval := val_nonneg hd
          have em := digs_val hd ht
          have ed : d = dg m := by
            rcases hr with rfl | rfl
            · rfl
            · exact (dg_ne h0).symm
          subst ed
          have nv : (digs (val m).natAbs).length ≤ 1000000000 := by rw [show (val m).natAbs = (val m).toNat by omega, em]; exact hm
          have hv0 : val m ≠ 0 := fun h => h0 (by rw [h] at em; rw [← em]; exact digs_zero)
          have gg := rGcd_spec (x := x) (y := val m) (by omega) (by unfold nd; omega)
          have eE : encI (val m) = .agg [.v (.bool false), dg m] := by
            rw [encI, decide_eq_false (by omega), show (val m).natAbs = (val m).toNat by omega, em]; rfl
          rw [eE] at gg
          have gg' : callX G n_gantryref04_Gcd [.agg [.v (.bool (decide (x < 0))), dg (digs x.natAbs)], .agg [.v (.bool false), dg m]] = some (.d (encI (Int.gcd x (val m) : Int))) := gg
          have hgl : nd (Int.gcd x (val m) : Int) ≤ 1000000000 := by
            refine Nat.le_trans (nd_mono ?_) nv
            rw [Int.natAbs_natCast]
            exact Nat.le_of_dvd (by omega) (Int.natAbs_dvd_natAbs.2 (Int.gcd_dvd_right x (val m)))
          have hg0 : 0 < (Int.gcd x (val m) : Int) := by have := Int.gcd_pos_of_ne_zero_right x hv0; omega
          have u1 := rone_spec (Int.gcd x (val m) : Int) (by omega) hg0
          have eg : decide ((Int.gcd x (val m) : Int) = 1) = decide (Int.gcd x (val m) = 1) := decide_eq_decide.2 (by omega)
          rw [eg] at u1
          rw [e1]
          clear gg hgl eg eE nv hd ht hg0
          generalize decide (Int.gcd x (val m) = 1) = gv at *
          generalize encI (Int.gcd x (val m) : Int) = ge at *
          generalize digs x.natAbs = n at *
          generalize decide (x < 0) = b at *
          simp only [bv] at g1 g2 u u1
          simp -implicitDefEqProofs (maxSteps := 10000000) only [gantryref05_Valid, g1, g2, u, u1, gg', ll, e2, o1, o2, o3, go_sem, stcells, ldcells, iv, bv, reduceCtorEq, ↓reduceIte, Nat.reduceEqDiff, Bool.true_and, Bool.and_true, Bool.false_or, Bool.not_false]
end Go.AM

