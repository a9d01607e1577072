/- Part 11 of the proof: a small machine, its soundness against the model, and what the program's functions compute on it. -/
import Derived.Test.YtfdelaplhpmneaaGreatM9
import Derived.Test.YtfdelaplhpmneaaGreatM10
import Derived.Test.YtfdelaplhpmneaaGreatRows
import Derived.Test.YtfdelaplhpmneaaGreatM7
import Derived.WalkKit
import Derived.ProofKit
import Derived.OpenShut
import Derived.ShutString
import Derived.ChangeOld
import Derived.Below
import Derived.SizedLaws
set_option linter.unusedVariables false
set_option linter.unusedSimpArgs false
/- ref04.Same at equal numbers. -/
namespace Go.AM
open Go Go.RowKit

def bx2 (b : Bool) (l : List Int) : Obj := ⟨0, 0, [.d (.v (.bool b)), .d (dg l)], false⟩
theorem bself (b : Bool) : (b == b) = true := by cases b <;> rfl
variable [Its]

def s4_st (b : Bool) (l : List Int) (i : Int) : St := mkS [(2, .ptr [2] 0), (3, .ptr [3] 0), (5, ai i)] [([2], bx2 b l), ([3], bx2 b l)]
theorem s4_go {b : Bool} {l : List Int} (hl : l.length ≤ 1000000000000) {i : Nat} (hi : i < l.length) : X G gantryref04_Same_l0 (s4_st b l i) = some (.n, s4_st b l ((i + 1 : Nat) : Int)) := by
  have e1 : decide ((i : Int) < (l.length : Int)) = true := lt_t (by omega)
  have e2 : w64 ((i : Int) + 1) = ((i + 1 : Nat) : Int) := by rw [w64_id (by omega) (by omega)]; rfl
  have x1 := (Rw.dg l).ixn hi
  have x2 := fun h => ldv h l hi
  have e3 : (l.getD i 0 != l.getD i 0) = false := bne_self_eq_false _
  simp -implicitDefEqProofs (maxSteps := 10000000) only [gantryref04_Same_l0, s4_st, bx2, x1, x2, e1, e2, e3, go_sem, stcells, ldcells, iv, bv, reduceCtorEq, ↓reduceIte, Nat.reduceEqDiff]
theorem s4_stop {b : Bool} {l : List Int} : X G gantryref04_Same_l0 (s4_st b l (l.length : Nat)) = some (.x 0, mkS [] []) := by
  have e1 : decide ((l.length : Int) < (l.length : Int)) = false := lt_f (by omega)
  simp -implicitDefEqProofs (maxSteps := 10000000) only [gantryref04_Same_l0, s4_st, bx2, e1, go_sem, stcells, ldcells, iv, bv, reduceCtorEq, ↓reduceIte, Nat.reduceEqDiff]
theorem s4_loop {b : Bool} {l : List Int} (hl : l.length ≤ 1000000000000) : ∀ j i : Nat, i + j = l.length → X G (.loop gantryref04_Same_l0) (s4_st b l i) = some (.x 0, mkS [] [])
  | 0, i, h => by
    have : i = l.length := by omega
    subst this
    rw [X_loop, s4_stop]; rfl
  | j + 1, i, h => by
    rw [X_loop, s4_go hl (by omega), Option.bind_some, if_pos rfl]
    exact s4_loop hl j (i + 1) (by omega)
theorem s4_refl {b : Bool} {l : List Int} (hl : l.length ≤ 1000000000000) : callX G n_gantryref04_Same [.agg [.v (.bool b), dg l], .agg [.v (.bool b), dg l]] = some (.d (bv true)) := by
  rw [callX_eq (cf := gantryref04_Same) rfl]
  have h := s4_loop (b := b) hl l.length 0 (by omega)
  have e1 : ((l.length : Int) != (l.length : Int)) = false := bne_self_eq_false _
  have e2 := bself b
  simp only [s4_st, bx2, go_sem, nc0] at h
  simp -implicitDefEqProofs (maxSteps := 10000000) only [gantryref04_Same, h, e1, e2, go_sem, stcells, ldcells, iv, bv, reduceCtorEq, ↓reduceIte, Nat.reduceEqDiff]
end Go.AM

/- Equality: ref04, ref05, ref06.Same, rat.Same at equal numbers. -/
namespace Go.AM
open Go Go.RowKit

variable [Its]
theorem s5_refl {a : Rat} (ha : sz a ≤ 100000000000) : callX G n_gantryref05_Same [encR a, encR a] = some (.d (bv true)) := by
  rw [callX_eq (cf := gantryref05_Same) rfl]
  have h1 : (digs a.num.natAbs).length ≤ 1000000000000 := by have := sz_num ha; unfold nd at this; omega
  have h2 : (dd a.den).length ≤ 1000000000000 := by
    have := sz_den ha
    unfold nd at this
    rw [Int.natAbs_natCast] at this
    unfold dd
    split
    · simp
    · omega
  have g1 := s4_refl (b := decide (a.num < 0)) h1
  have g2 := s4_refl (b := false) h2
  clear h1 h2 ha
  unfold encR
  generalize digs a.num.natAbs = l1 at *
  generalize dd a.den = l2 at *
  generalize decide (a.num < 0) = b at *
  simp only [bv] at g1 g2
  simp -implicitDefEqProofs (maxSteps := 10000000) only [gantryref05_Same, g1, g2, go_sem, stcells, ldcells, iv, bv, reduceCtorEq, ↓reduceIte, Nat.reduceEqDiff]
def s6_st (d d' : D) (i : Int) : St := mkS [(0, .d d), (1, .d d'), (5, ai i)] []
theorem s6_go {d d' : D} {l : List Rat} (h1 : RwR d l) (h2 : RwR d' l) (sl : SzL 100000000000 l) (hl : l.length ≤ 1000000000000) {i : Nat} (hi : i < l.length) : X G gantryref06_Same_l0 (s6_st d d' i) = some (.n, s6_st d d' ((i + 1 : Nat) : Int)) := by
  have e1 : decide ((i : Int) < (l.length : Int)) = true := lt_t (by omega)
  have e2 : w64 ((i : Int) + 1) = ((i + 1 : Nat) : Int) := by rw [w64_id (by omega) (by omega)]; rfl
  have ll := h1.len
  have x1 := h1.ixa hi
  have x2 := h2.ixa hi
  have y1 := fun h => ldR h l hi
  have g := s5_refl (a := l.getD i 0) (sl.getD (by omega) i)
  generalize l.getD i 0 = q at *
  generalize cRs (l.drop i) = cs at *
  simp only [encR, bv] at y1 g
  simp -implicitDefEqProofs (maxSteps := 10000000) only [gantryref06_Same_l0, s6_st, ll, x1, x2, y1, e1, e2, g, go_sem, iv, bv, reduceCtorEq, ↓reduceIte, Nat.reduceEqDiff]
theorem s6_stop {d d' : D} {l : List Rat} (h1 : RwR d l) : X G gantryref06_Same_l0 (s6_st d d' (l.length : Nat)) = some (.x 0, mkS [] []) := by
  have e1 : decide ((l.length : Int) < (l.length : Int)) = false := lt_f (by omega)
  have ll := h1.len
  simp -implicitDefEqProofs (maxSteps := 10000000) only [gantryref06_Same_l0, s6_st, ll, e1, go_sem, iv, bv, reduceCtorEq, ↓reduceIte, Nat.reduceEqDiff]
theorem s6_loop {d d' : D} {l : List Rat} (h1 : RwR d l) (h2 : RwR d' l) (sl : SzL 100000000000 l) (hl : l.length ≤ 1000000000000) : ∀ j i : Nat, i + j = l.length → X G (.loop gantryref06_Same_l0) (s6_st d d' i) = some (.x 0, mkS [] [])
  | 0, i, h => by
    have : i = l.length := by omega
    subst this
    rw [X_loop, s6_stop h1]; rfl
  | j + 1, i, h => by
    rw [X_loop, s6_go h1 h2 sl hl (by omega), Option.bind_some, if_pos rfl]
    exact s6_loop h1 h2 sl hl j (i + 1) (by omega)
theorem s6_refl {d d' : D} {l : List Rat} (h1 : RwR d l) (h2 : RwR d' l) (sl : SzL 100000000000 l) (hl : l.length ≤ 1000000000000) : callX G n_gantryref06_Same [d, d'] = some (.d (bv true)) := by
  rw [callX_eq (cf := gantryref06_Same) rfl]
  have h := s6_loop h1 h2 sl hl l.length 0 (by omega)
  have e1 : ((l.length : Int) != (l.length : Int)) = false := bne_self_eq_false _
  have ll := h1.len
  have ll2 := h2.len
  simp only [s6_st, go_sem, nc0] at h
  simp -implicitDefEqProofs (maxSteps := 10000000) only [gantryref06_Same, h, ll, ll2, e1, go_sem, iv, bv, reduceCtorEq, ↓reduceIte, Nat.reduceEqDiff]
theorem s6_same {d d' : D} {l m : List Rat} (h1 : RwR d l) (h2 : RwR d' m) (h : l = m) (sl : SzL 100000000000 l) (hl : l.length ≤ 1000000000000) : callX G n_gantryref06_Same [d, d'] = some (.d (bv true)) := by
  subst h; exact s6_refl h1 h2 sl hl

/-! ### rat.Same -/
def eqi_st (d d' : D) (n i : Int) : St := mkS [(0, .d d), (1, .d d'), (12, ai n), (13, ai i)] []
theorem eqi_go {l : List Int} (hl : l.length ≤ 1000000000000) {i : Nat} (hi : i < l.length) : X G slices_Equal_int_int_l0 (eqi_st (dg l) (dg l) (l.length : Nat) i) = some (.n, eqi_st (dg l) (dg l) (l.length : Nat) ((i + 1 : Nat) : Int)) := by
  have e1 : decide ((i : Int) < (l.length : Int)) = true := lt_t (by omega)
  have e2 : w64 ((i : Int) + 1) = ((i + 1 : Nat) : Int) := by rw [w64_id (by omega) (by omega)]; rfl
  have x1 := (Rw.dg l).ixn hi
  have x2 := fun h => ldv h l hi
  have e3 : (l.getD i 0 != l.getD i 0) = false := bne_self_eq_false _
  simp -implicitDefEqProofs (maxSteps := 10000000) only [slices_Equal_int_int_l0, eqi_st, x1, x2, e1, e2, e3, go_sem, iv, bv, reduceCtorEq, ↓reduceIte, Nat.reduceEqDiff]
theorem eqi_stop {l : List Int} : X G slices_Equal_int_int_l0 (eqi_st (dg l) (dg l) (l.length : Nat) (l.length : Nat)) = some (.x 0, mkS [] []) := by
  have e1 : decide ((l.length : Int) < (l.length : Int)) = false := lt_f (by omega)
  simp -implicitDefEqProofs (maxSteps := 10000000) only [slices_Equal_int_int_l0, eqi_st, e1, go_sem, iv, bv, reduceCtorEq, ↓reduceIte, Nat.reduceEqDiff]
theorem eqi_loop {l : List Int} (hl : l.length ≤ 1000000000000) : ∀ j i : Nat, i + j = l.length → X G (.loop slices_Equal_int_int_l0) (eqi_st (dg l) (dg l) (l.length : Nat) i) = some (.x 0, mkS [] [])
  | 0, i, h => by
    have : i = l.length := by omega
    subst this
    rw [X_loop, eqi_stop]; rfl
  | j + 1, i, h => by
    rw [X_loop, eqi_go hl (by omega), Option.bind_some, if_pos rfl]
    exact eqi_loop hl j (i + 1) (by omega)
theorem eqi_refl {l : List Int} (hl : l.length ≤ 1000000000000) : callX G n_slices_Equal_int_int [dg l, dg l] = some (.d (bv true)) := by
  rw [callX_eq (cf := slices_Equal_int_int) rfl]
  have h := eqi_loop hl l.length 0 (by omega)
  have e1 : ((l.length : Int) != (l.length : Int)) = false := bne_self_eq_false _
  simp only [eqi_st, go_sem, nc0] at h
  simp -implicitDefEqProofs (maxSteps := 10000000) only [slices_Equal_int_int, h, e1, go_sem, iv, bv, reduceCtorEq, ↓reduceIte, Nat.reduceEqDiff]
theorem rs1_refl {b : Bool} {l : List Int} (hl : l.length ≤ 1000000000000) : callX G n_rat_Same_1 [.agg [.v (.bool b), dg l], .agg [.v (.bool b), dg l]] = some (.d (bv true)) := by
  rw [callX_eq (cf := rat_Same_1) rfl]
  have g := eqi_refl hl
  have e2 := bself b
  simp only [bv] at g
  simp -implicitDefEqProofs (maxSteps := 10000000) only [rat_Same_1, g, e2, go_sem, stcells, ldcells, iv, bv, reduceCtorEq, ↓reduceIte, Nat.reduceEqDiff]
theorem rs_refl {a : Rat} (ha : sz a ≤ 100000000000) : callX G n_rat_Same [encR a, encR a] = some (.d (bv true)) := by
  rw [callX_eq (cf := rat_Same) rfl]
  have h1 : (digs a.num.natAbs).length ≤ 1000000000000 := by have := sz_num ha; unfold nd at this; omega
  have h2 : (dd a.den).length ≤ 1000000000000 := by
    have := sz_den ha
    unfold nd at this
    rw [Int.natAbs_natCast] at this
    unfold dd
    split
    · simp
    · omega
  have g1 := rs1_refl (b := decide (a.num < 0)) h1
  have g2 := rs1_refl (b := false) h2
  clear h1 h2 ha
  unfold encR
  generalize digs a.num.natAbs = l1 at *
  generalize dd a.den = l2 at *
  generalize decide (a.num < 0) = b at *
  simp only [bv] at g1 g2
  simp -implicitDefEqProofs (maxSteps := 10000000) only [rat_Same, g1, g2, List.append_nil, go_sem, stcells, ldcells, iv, bv, reduceCtorEq, ↓reduceIte, Nat.reduceEqDiff]
end Go.AM

/- ref06: Trim, Small, Mul. -/
namespace Go.AM
open Go Go.RowKit

def smR (n : Int) : Rat := Rat.divInt (arnd n 105 % 15 - 7) (1 + arnd n 105 / 15 % 4)
variable [Its]

/-! ### Trim -/
def rtr_st (d : D) (n : Int) : St := mkS [(0, .d d), (3, ai n)] []
theorem rtr_go {d : D} {l : List Rat} (hr : RwR d l) {n : Nat} (hn : n < l.length) (hl : l.length * 64 ≤ 140737488351232) (sl : SzL 100000000000 l) (h0 : l.getD n 0 = 0) : X G gantryref06_Trim_l0 (rtr_st d ((n + 1 : Nat) : Int)) = some (.n, rtr_st d (n : Int)) := by
  have e1 : decide (((n + 1 : Nat) : Int) > 0) = true := gt_t (by omega)
  have e2 : w64 (((n + 1 : Nat) : Int) - 1) = (n : Int) := by rw [w64_id (by omega) (by omega)]; omega
  have e6 : (if (0 : Int) > (n : Int) then (0 : Int) else (n : Int)) = (n : Int) := if_neg (by omega)
  have e3 := hr.ixa hn
  have e4 := fun h => ldR h l hn
  have g := rratSign_spec (a := l.getD n 0) (sl.getD (by omega) n)
  have e5 : (Int.sign (l.getD n 0).num == 0) = true := by rw [sgn0]; exact decide_eq_true h0
  clear h0
  generalize ((n + 1 : Nat) : Int) = n1 at *
  generalize l.getD n 0 = q at *
  simp only [encR, iv] at e4 g
  simp -implicitDefEqProofs (maxSteps := 10000000) only [gantryref06_Trim_l0, rtr_st, foldV, mxV, e6, go_sem, iv, bv, e1, e2, e3, e4, e5, g, reduceCtorEq, ↓reduceIte, Nat.reduceEqDiff]
theorem rtr_stop {d : D} {l : List Rat} (hr : RwR d l) {n : Nat} (hn : n < l.length) (hl : l.length * 64 ≤ 140737488351232) (sl : SzL 100000000000 l) (h0 : l.getD n 0 ≠ 0) : X G gantryref06_Trim_l0 (rtr_st d ((n + 1 : Nat) : Int)) = some (.x 0, rtr_st d ((n + 1 : Nat) : Int)) := by
  have e1 : decide (((n + 1 : Nat) : Int) > 0) = true := gt_t (by omega)
  have e2 : w64 (((n + 1 : Nat) : Int) - 1) = (n : Int) := by rw [w64_id (by omega) (by omega)]; omega
  have e6 : (if (0 : Int) > (n : Int) then (0 : Int) else (n : Int)) = (n : Int) := if_neg (by omega)
  have e3 := hr.ixa hn
  have e4 := fun h => ldR h l hn
  have g := rratSign_spec (a := l.getD n 0) (sl.getD (by omega) n)
  have e5 : (Int.sign (l.getD n 0).num == 0) = false := by rw [sgn0]; exact decide_eq_false h0
  clear h0
  generalize ((n + 1 : Nat) : Int) = n1 at *
  generalize l.getD n 0 = q at *
  simp only [encR, iv] at e4 g
  simp -implicitDefEqProofs (maxSteps := 10000000) only [gantryref06_Trim_l0, rtr_st, foldV, mxV, e6, go_sem, iv, bv, e1, e2, e3, e4, e5, g, reduceCtorEq, ↓reduceIte, Nat.reduceEqDiff]
theorem rtr_zero {d : D} : X G gantryref06_Trim_l0 (rtr_st d 0) = some (.x 0, rtr_st d 0) := by
  have e1 : decide ((0 : Int) > 0) = false := rfl
  simp -implicitDefEqProofs (maxSteps := 10000000) only [gantryref06_Trim_l0, rtr_st, go_sem, iv, bv, e1, reduceCtorEq, ↓reduceIte, Nat.reduceEqDiff]
theorem rtr_loop {d : D} {l : List Rat} (hr : RwR d l) (hl : l.length * 64 ≤ 140737488351232) (sl : SzL 100000000000 l) : ∀ n : Nat, n ≤ l.length → X G (.loop gantryref06_Trim_l0) (rtr_st d (n : Int)) = some (.x 0, rtr_st d (cutR l n : Nat))
  | 0, _ => by
    rw [X_loop]
    show (X G gantryref06_Trim_l0 (rtr_st d 0)).bind _ = _
    rw [rtr_zero]; rfl
  | n + 1, hn => by
    rw [X_loop, cutR]
    by_cases h0 : l.getD n 0 = 0
    · rw [rtr_go hr (by omega) hl sl h0, Option.bind_some, if_pos rfl, if_pos h0]
      exact rtr_loop hr hl sl n (by omega)
    · rw [rtr_stop hr (by omega) hl sl h0, if_neg h0]; rfl
theorem rTrim_spec {d : D} {l : List Rat} (hr : RwR d l) (hl : l.length * 64 ≤ 140737488351232) (sl : SzL 100000000000 l) : ∃ d', RwR d' (trimR l) ∧ callX G n_gantryref06_Trim [d] = some (.d d') := by
  rw [callX_eq (cf := gantryref06_Trim) rfl]
  have hl' := rtr_loop hr hl sl l.length (Nat.le_refl _)
  have hc := cutR_le l l.length
  have ll := hr.len
  rcases hr with ⟨rfl, rfl⟩ | rfl
  · simp only [rtr_st, List.length_nil, cutR, go_sem] at hl'
    refine ⟨.z true, .inl ⟨rfl, rfl⟩, ?_⟩
    have b0 : (0 * 64 ≤ bound) = True := eq_true (by decide)
    simp -implicitDefEqProofs (maxSteps := 10000000) only [gantryref06_Trim, slcA, bnds, optI, srcS, src, b0, List.length_nil, Nat.zero_mul, Nat.zero_le, go_sem, iv, bv, hl', ll, Int.le_refl, reduceCtorEq, ↓reduceIte, Nat.reduceEqDiff]
  · refine ⟨dR (trimR l), dR_ok _, ?_⟩
    have e1 : rowR (trimR l) = .row (cutR l l.length) ((cRs l).take (cutR l l.length * 4)) := by rw [rowR, trimR_len, trimR, cRs_take]
    have e0 : dR (trimR l) = if cutR l l.length = 0 then .z true else .row (cutR l l.length) ((cRs l).take (cutR l l.length * 4)) := by
      rw [dR, e1]
      have := trimR_len l
      by_cases h : trimR l = []
      · rw [if_pos h, if_pos (by rw [← this, h]; rfl)]
      · rw [if_neg h, if_neg (fun h' => h (List.eq_nil_of_length_eq_zero (by omega)))]
    rw [e0]
    have e2 : (((0 : Int) ≤ 0 ∧ (0 : Int) ≤ (cutR l l.length : Nat) ∧ ((cutR l l.length : Nat) : Int) ≤ (l.length : Nat))) = True := eq_true ⟨by omega, by omega, by omega⟩
    have e3 : ((cutR l l.length : Nat) : Int).toNat = cutR l l.length := Int.toNat_natCast _
    have e5 : ((0 : Int) ≤ (cutR l l.length : Nat)) = True := eq_true (by omega)
    have e6 : (((cutR l l.length : Nat) : Int) ≤ (l.length : Nat)) = True := eq_true (by omega)
    have e7 : (cutR l l.length * 64 ≤ bound) = True := eq_true (by unfold bound; omega)
    have e8 : ((cRs l).take (cutR l l.length * 4)).length = cutR l l.length * 4 := by rw [List.length_take, cRs_length]; omega
    clear e0 e1
    unfold rowR at *
    generalize cutR l l.length = c at *
    generalize cRs l = cs at *
    simp only [rtr_st, go_sem] at hl'
    by_cases h0 : c = 0
    · subst h0
      simp only [Nat.zero_mul, List.take_zero] at e8 ⊢
      have b0 : (0 * 64 ≤ bound) = True := eq_true (by decide)
      have b1 : ((0 : Int) ≤ (l.length : Int)) = True := eq_true (by omega)
      simp -implicitDefEqProofs (maxSteps := 10000000) only [gantryref06_Trim, b1, slcA, bnds, optI, srcS, src, b0, List.length_nil, List.take_zero, Nat.zero_mul, Nat.zero_le, go_sem, iv, bv, hl', ll, e2, e3, e5, e6, Int.le_refl, and_self, reduceCtorEq, ↓reduceIte, Nat.reduceEqDiff]
    · simp -implicitDefEqProofs (maxSteps := 10000000) only [gantryref06_Trim, slcA, bnds, optI, srcS, src, h0, e7, e8, go_sem, iv, bv, hl', ll, e2, e3, e5, e6, Int.le_refl, and_self, reduceCtorEq, ↓reduceIte, Nat.reduceEqDiff]

/-! ### Mul -/
def rmi_st (dp dq : D) (L : List Rat) (n : Nat) (i k : Int) : St := mkS [(0, .d dp), (1, .d dq), (5, .own [22] n), (6, ai i), (7, ai k)] [([22], arrR n L)]
def rmo_st (dp dq : D) (L : List Rat) (n : Nat) (i : Int) : St := mkS [(0, .d dp), (1, .d dq), (5, .own [22] n), (6, ai i)] [([22], arrR n L)]
def rmo_en (L : List Rat) (n : Nat) : St := mkS [(5, .own [22] n)] [([22], arrR n L)]
section
variable {dp dq : D} {p q : List Rat} {n : Nat}
variable {D E XX YY d h K : Nat}
end
end Go.AM

/- ref06.Poly. -/
namespace Go.AM
open Go Go.RowKit

theorem H1.neg {d h : Nat} {q : Rat} (H : H1 d h q) : H1 d h (-q) := by
  obtain ⟨D, h1, h2, h3⟩ := H
  exact ⟨D, h1, h2, h3.neg⟩
theorem H1.one : H1 0 0 1 := ⟨1, by omega, by simp [BB], ⟨1, Rat.mul_one _, by simp⟩⟩
theorem HL.cons {d1 h1 d2 h2 : Nat} {a : Rat} {l : List Rat} (H : H1 d1 h1 a) (H' : HL d2 h2 l) : HL (d1 + d2) (max (h1 + d2) (h2 + d1)) (a :: l) := by
  obtain ⟨D, a1, a2, a3⟩ := H
  obtain ⟨E, b1, b2, b3⟩ := H'
  refine ⟨D * E, Nat.mul_pos a1 b1, mul_BB a2 b2, fun q hq => ?_⟩
  rcases List.mem_cons.1 hq with rfl | hq
  · exact (a3.lift E).le (Nat.le_trans (mul_BB (Nat.le_refl _) b2) (BB_mono (by omega)))
  · exact ((b3 q hq).lift' D).le (Nat.le_trans (mul_BB a2 (Nat.le_refl _)) (BB_mono (by omega)))
variable [Its]

section
variable {e0 : D} {l : List Int}
def pl_st (e0 : D) (L : List Rat) (i : Int) : St := mkS [(0, .d e0), (3, gA4 28 L), (4, ai i)] (gH4 28 L)
def pl_en (L : List Rat) : St := mkS [(3, gA4 28 L)] (gH4 28 L)
def pm_st (e0 d : D) (i : Int) : St := mkS [(0, .d e0), (5, .d d), (6, ai i)] []
def pm_en (d : D) : St := mkS [(5, .d d)] []
end
end Go.AM

/- How great the coefficients of a shift are. -/
namespace Go.AM
open Go Go.RowKit

theorem evR_dropL (l : List Rat) (x : Rat) {k : Nat} (h : k < l.length) : evR (l.drop k) x = evR (l.drop (k + 1)) x * x + l.getD k 0 := by
  have e : l.drop k = l.getD k 0 :: l.drop (k + 1) := by
    rw [List.drop_eq_getElem_cons h, List.getD_eq_getElem?_getD, List.getElem?_eq_getElem h]; rfl
  rw [e, evR_cons]
theorem syn_getD (a : Rat) : ∀ (s : List Rat) (i : Nat), s ≠ [] → (evR s a :: syn s a).getD i 0 = evR (s.drop i) a
  | [], _, h => absurd rfl h
  | [x], 0, _ => rfl
  | [x], i + 1, _ => by
    rw [syn]
    show (0 : Rat) = evR ([].drop i) a
    rw [List.drop_nil, evR_nil]
  | x :: b :: l, 0, _ => rfl
  | x :: b :: l, i + 1, _ => by
    rw [syn]
    show (evR (b :: l) a :: syn (b :: l) a).getD i 0 = evR ((b :: l).drop i) a
    exact syn_getD a (b :: l) i (by simp)
theorem hst_getD {l : List Rat} {a : Rat} {j : Nat} (hj : j < l.length) (t : Nat) : (hst l a j).getD t 0 = if t < j then l.getD t 0 else evR (l.drop t) a := by
  have hT : (l.take j).length = j := by rw [List.length_take]; omega
  unfold hst
  by_cases h : t < j
  · rw [if_pos h, List.getD_eq_getElem?_getD, List.getElem?_append_left (by omega), List.getElem?_take_of_lt h, ← List.getD_eq_getElem?_getD]
  · rw [if_neg h, List.getD_eq_getElem?_getD, List.getElem?_append_right (by omega), ← List.getD_eq_getElem?_getD, hT, syn_getD a _ _ (by
      intro h0; have := congrArg List.length h0; rw [List.length_drop] at this; simp at this; omega), List.drop_drop, show j + (t - j) = t by omega]
/-- Each place has its own power of v below. -/
def WS (D v n H : Nat) (l : List Rat) : Prop := ∀ k, k ≤ n → Hq (D * v ^ (n - k)) H (l.getD k 0)
theorem WS.suffix {D v n H U : Nat} {l : List Rat} {a : Rat} (h : WS D v n H l) (ha : Hq v U a) (hl : l.length ≤ n) : ∀ j t : Nat, t + j = n → Hq (D * v ^ (n - t)) (H * (1 + U) ^ j) (evR (l.drop t) a)
  | 0, t, ht => by
    rw [List.drop_of_length_le (by omega), evR_nil]; exact Hq.zero _ _
  | j + 1, t, ht => by
    by_cases h1 : t < l.length
    · have ih := WS.suffix h ha hl j (t + 1) (by omega)
      have h2 := ih.mul ha
      have h3 := h t (by omega)
      have e : D * v ^ (n - (t + 1)) * v = D * v ^ (n - t) := by
        rw [show n - t = (n - (t + 1)) + 1 by omega, Nat.pow_succ, Nat.mul_assoc]
      rw [e] at h2
      rw [evR_dropL l a h1]
      refine (h2.add h3).le ?_
      have e1 : H * (1 + U) ^ (j + 1) = H * (1 + U) ^ j * U + H * (1 + U) ^ j := by
        rw [Nat.pow_succ, ← Nat.mul_assoc, Nat.mul_add, Nat.mul_one, Nat.add_comm]
      rw [e1]
      have : H ≤ H * (1 + U) ^ j := Nat.le_mul_of_pos_right _ (Nat.pow_pos (by omega))
      omega
    · rw [List.drop_of_length_le (by omega), evR_nil]; exact Hq.zero _ _
theorem WS.hst {D v n H U : Nat} {l : List Rat} {a : Rat} (h : WS D v n H l) (ha : Hq v U a) (hl : l.length ≤ n) {j : Nat} (hj : j < l.length) : WS D v n (H * (1 + U) ^ n) (hst l a j) := fun k hk => by
  rw [hst_getD hj]
  split
  · exact (h k hk).le (Nat.le_mul_of_pos_right _ (Nat.pow_pos (by omega)))
  · exact (h.suffix ha hl (n - k) k (by omega)).le (Nat.mul_le_mul_left _ (Nat.pow_le_pow_right (by omega) (by omega)))
theorem WS.pas {D v n H U : Nat} {l : List Rat} {a : Rat} (h : WS D v n H l) (ha : Hq v U a) (hl : l.length ≤ n) : ∀ i, i ≤ l.length → WS D v n (H * ((1 + U) ^ n) ^ i) (pas l a i)
  | 0, _ => by rw [Nat.pow_zero, Nat.mul_one]; exact h
  | i + 1, hi => by
    have ih := WS.pas h ha hl i (by omega)
    have := ih.hst ha (by rw [pas_len i (by omega)]; exact hl) (j := i) (by rw [pas_len i (by omega)]; omega)
    rw [Nat.mul_assoc, ← Nat.pow_succ] at this
    exact this
end Go.AM

/- Small helps for the laws of ref06.Poly's polynomials. -/
namespace Go.AM
open Go Go.RowKit Go.Proofs
theorem H1.add {d1 h1 d2 h2 : Nat} {a b : Rat} (H : H1 d1 h1 a) (H' : H1 d2 h2 b) : H1 (d1 + d2) (max (h1 + d2) (h2 + d1) + 1) (a + b) := by
  obtain ⟨D, a1, a2, a3⟩ := H
  obtain ⟨E, b1, b2, b3⟩ := H'
  refine ⟨D * E, Nat.mul_pos a1 b1, mul_BB a2 b2, ((a3.lift E).add (b3.lift' D)).le (two_BB ?_ ?_)⟩
  · exact Nat.le_trans (mul_BB (Nat.le_refl _) b2) (BB_mono (by omega))
  · exact Nat.le_trans (mul_BB a2 (Nat.le_refl _)) (BB_mono (by omega))
variable [Its]
theorem evalP [ItsB] {d : D} {l : List Rat} {x : Rat} (h1 : RwR d l) (s1 : SzL 10000 l) (n1 : l.length ≤ 1000) (hx : sz x ≤ 10000) : callX G n_poly_Eval [d, encR x] = some (.d (encR (evR l x))) ∧ sz (evR l x) ≤ 100000000 := by
  have hb := Nat.mul_le_mul_right (2 * 10000 + 1) n1
  refine ⟨Eval_spec h1 hx (by omega) s1 (Nat.le_trans hb (by decide)), ?_⟩
  exact Nat.le_trans (evR_sz (K := 10000) hx l s1) (Nat.le_trans (Nat.add_le_add_right hb 1) (by decide))
end Go.AM

/- Vectors; ref12.Vec, Dot; ref13 and gap: small functions. -/
namespace Go.AM
open Go Go.RowKit

abbrev Vc := Rat × Rat
def encV (v : Vc) : D := .agg [.v (.bool (decide (v.1.num < 0))), dg (digs v.1.num.natAbs), .v (.bool false), dg (dd v.1.den), .v (.bool (decide (v.2.num < 0))), dg (digs v.2.num.natAbs), .v (.bool false), dg (dd v.2.den)]
def vcA (n : Int) : Int := arnd n 96 % 24 * 2 - 24 + arnd n 96 / 72
def vcB (n : Int) : Int := 2 + arnd n 96 / 48 % 2
def vcR (n : Int) : Rat := Rat.divInt (vcA n) (vcB n)
def dotR (d : Dr) (v : Vc) : Rat := (d.1 : Rat) * v.1 + (d.2.1 : Rat) * v.2
def rtR (d : Dr) (v : Vc) : Rat := dotR d v / (d.2.2 : Rat)
def gpR (e : Eg) (v : Vc) : Rat := (dotR e.1 v - (e.2 : Rat)) / (e.1.2.2 : Rat)
def plV (a b : Vc) : Vc := (a.1 + b.1, a.2 + b.2)
def tmV (k : Rat) (a : Vc) : Vc := (k * a.1, k * a.2)
def SzV (K : Nat) (v : Vc) : Prop := sz v.1 ≤ K ∧ sz v.2 ≤ K
theorem SzV.mono {K L : Nat} {v : Vc} (h : SzV K v) (hk : K ≤ L) : SzV L v := ⟨Nat.le_trans h.1 hk, Nat.le_trans h.2 hk⟩
def AtE (e : Eg) : Prop := NmD e.1 ∧ I64 e.2
theorem NmD.i1 {d : Dr} (h : NmD d) : I64 d.1 := ⟨by have := h.1; omega, by have := h.1; omega⟩
theorem NmD.i2 {d : Dr} (h : NmD d) : I64 d.2.1 := ⟨by have := h.2.1; omega, by have := h.2.1; omega⟩
theorem NmD.i3 {d : Dr} (h : NmD d) : I64 d.2.2 := ⟨by have := h.2.2; omega, by have := h.2.2; omega⟩
theorem i64_1 : I64 1 := ⟨by omega, by omega⟩
theorem dotR_sz {d : Dr} {v : Vc} {K : Nat} (hd : NmD d) (hv : SzV K v) : sz (dotR d v) ≤ 2 * K + 7 := by
  have h1 := sz_int hd.i1
  have h2 := sz_int hd.i2
  have h3 := sz_mul (a := (d.1 : Rat)) (b := v.1)
  have h4 := sz_mul (a := (d.2.1 : Rat)) (b := v.2)
  have h5 := sz_add (a := (d.1 : Rat) * v.1) (b := (d.2.1 : Rat) * v.2)
  have := hv.1
  have := hv.2
  unfold dotR
  omega
theorem rtR_sz {d : Dr} {v : Vc} {K : Nat} (hd : NmD d) (hv : SzV K v) : sz (rtR d v) ≤ 2 * K + 10 := by
  have h1 := dotR_sz hd hv
  have h2 := sz_int hd.i3
  have h3 := sz_div (a := dotR d v) (b := (d.2.2 : Rat))
  unfold rtR
  omega
theorem gpR_sz {e : Eg} {v : Vc} {K : Nat} (he : AtE e) (hv : SzV K v) : sz (gpR e v) ≤ 2 * K + 14 := by
  have h1 := dotR_sz he.1 hv
  have h2 := sz_int he.1.i3
  have h3 := sz_int he.2
  have h4 := sz_sub (a := dotR e.1 v) (b := (e.2 : Rat))
  have h5 := sz_div (a := dotR e.1 v - (e.2 : Rat)) (b := (e.1.2.2 : Rat))
  unfold gpR
  omega
theorem plV_sz {a b : Vc} {K L : Nat} (ha : SzV K a) (hb : SzV L b) : SzV (K + L + 1) (plV a b) := by
  have h1 := sz_add (a := a.1) (b := b.1)
  have h2 := sz_add (a := a.2) (b := b.2)
  have := ha.1; have := ha.2; have := hb.1; have := hb.2
  constructor <;> (unfold plV; dsimp only; omega)
theorem tmV_sz {k : Rat} {a : Vc} {K L : Nat} (hk : sz k ≤ L) (ha : SzV K a) : SzV (K + L) (tmV k a) := by
  have h1 := sz_mul (a := k) (b := a.1)
  have h2 := sz_mul (a := k) (b := a.2)
  have := ha.1; have := ha.2
  constructor <;> (unfold tmV; dsimp only; omega)
theorem vc_b (n : Int) : (-24 ≤ vcA n ∧ vcA n ≤ 24) ∧ (2 ≤ vcB n ∧ vcB n ≤ 3) := by
  have h := arnd_b (n := n) (m := 96) (by omega)
  unfold vcA vcB
  omega
theorem vcR_sz (n : Int) : sz (vcR n) ≤ 3 := by
  have h := vc_b n
  exact sz_of ⟨by omega, by omega⟩ ⟨by omega, by omega⟩
theorem vcV_sz (x y : Int) : SzV 3 (vcR x, vcR y) := ⟨vcR_sz x, vcR_sz y⟩
theorem st8 (a b c d e f g h i j k l m n o p : A) : stcells 0 [a, b, c, d, e, f, g, h] [i, j, k, l, m, n, o, p] = some [a, b, c, d, e, f, g, h] := rfl
theorem ld8 (a b c d e f g h : D) : ldcells (some 8) 0 [.d a, .d b, .d c, .d d, .d e, .d f, .d g, .d h] = some (.d (.agg [a, b, c, d, e, f, g, h])) := rfl
theorem ld80 (a b c d e f g h : D) : ldcells (some 4) 0 [.d a, .d b, .d c, .d d, .d e, .d f, .d g, .d h] = some (.d (.agg [a, b, c, d])) := rfl
theorem ld84 (a b c d e f g h : D) : ldcells (some 4) 4 [.d a, .d b, .d c, .d d, .d e, .d f, .d g, .d h] = some (.d (.agg [e, f, g, h])) := rfl
theorem st4' (a b c d i j k l : A) : stcells 0 [a, b, c, d] [i, j, k, l] = some [a, b, c, d] := rfl
theorem ld3_0 (a b c : D) : ldcells none 0 [.d a, .d b, .d c] = some (.d a) := rfl
theorem ld3_1 (a b c : D) : ldcells none 1 [.d a, .d b, .d c] = some (.d b) := rfl
theorem ld3_2 (a b c : D) : ldcells none 2 [.d a, .d b, .d c] = some (.d c) := rfl
theorem ld4_3 (a b c d : D) : ldcells (some 3) 0 [.d a, .d b, .d c, .d d] = some (.d (.agg [a, b, c])) := rfl
theorem ld4_4 (a b c d : D) : ldcells (some 4) 0 [.d a, .d b, .d c, .d d] = some (.d (.agg [a, b, c, d])) := rfl
theorem ld4_n2 (a b c d : D) : ldcells none 2 [.d a, .d b, .d c, .d d] = some (.d c) := rfl
theorem ld4_n3 (a b c d : D) : ldcells none 3 [.d a, .d b, .d c, .d d] = some (.d d) := rfl
theorem rep3_4 (a b c d : D) : rep 3 [a, b, c, d] = [a, b, c, d, a, b, c, d, a, b, c, d] := rfl

theorem gp_alt (e : Eg) (v : Vc) : rtR e.1 v - Rat.divInt e.2 e.1.2.2 = gpR e v := by
  unfold rtR gpR
  rw [Rat.divInt_eq_div, Rat.div_def, Rat.div_def, Rat.div_def]
  generalize dotR e.1 v = p
  generalize ((e.1.2.2 : Int) : Rat)⁻¹ = q
  generalize ((e.2 : Int) : Rat) = r
  grind
theorem half_alt (q : Rat) : q * Rat.divInt 1 2 = q / 2 := by
  rw [Rat.divInt_eq_div, Rat.div_def, Rat.div_def]
  congr 1
  rw [show ((1 : Int) : Rat) = 1 from rfl, Rat.one_mul]
  rfl
def alL (e : Eg) (r v a : Vc) : List Rat := [gpR e r, rtR e.1 v, rtR e.1 a / 2]
def alP (e : Eg) (r v a : Vc) : List Rat := trimR (alL e r v a)
theorem i64_2 : I64 2 := ⟨by omega, by omega⟩
theorem alL_sz {e : Eg} {r v a : Vc} {K : Nat} (he : AtE e) (hr : SzV K r) (hv : SzV K v) (ha : SzV K a) : SzL (2 * K + 14) (alL e r v a) := by
  intro q hq
  have h1 := gpR_sz he hr
  have h2 := rtR_sz he.1 hv
  have h3 := rtR_sz he.1 ha
  have h4 := sz_div (a := rtR e.1 a) (b := 2)
  have h5 := sz_two
  unfold alL at hq
  simp only [List.mem_cons, List.not_mem_nil, or_false] at hq
  rcases hq with rfl | rfl | rfl <;> omega
variable [Its]
theorem Vec_spec {x y : Int} (hx : I64 x) (hy : I64 y) : callX G n_gantryref12_Vec [iv x, iv y] = some (.d (encV (vcR x, vcR y))) := by
  rw [callX_eq (cf := gantryref12_Vec) rfl]
  have g1 := around_spec (m := 96) hx (by omega)
  have g2 := around_spec (m := 96) hy (by omega)
  have bx := vc_b x
  have bz := vc_b y
  have g3 := rratOf_spec (n := vcA x) (d := vcB x) ⟨by omega, by omega⟩ ⟨by omega, by omega⟩
  have g4 := rratOf_spec (n := vcA y) (d := vcB y) ⟨by omega, by omega⟩ ⟨by omega, by omega⟩
  have e3 : Rat.divInt (vcA x) (vcB x) = vcR x := rfl
  have e4 : Rat.divInt (vcA y) (vcB y) = vcR y := rfl
  rw [e3] at g3
  rw [e4] at g4
  clear e3 e4
  generalize vcR x = rx at *
  generalize vcR y = ry at *
  have b1 := arnd_b (n := x) (m := 96) (by omega)
  have b2 := arnd_b (n := y) (m := 96) (by omega)
  unfold vcA vcB at *
  generalize arnd x 96 = u at *
  generalize arnd y 96 = v at *
  have tm : ∀ a : Int, 0 ≤ a → a.tmod 24 = a % 24 := fun a h => rem_pos h
  have t1 := rem_pos (a := u) (b := 24) b1.1
  have t2 := quo_pos (a := u) (b := 72) b1.1
  have t3 := quo_pos (a := u) (b := 48) b1.1
  have t4 := rem_pos (a := u / 48) (b := 2) (by omega)
  have s1 := rem_pos (a := v) (b := 24) b2.1
  have s2 := quo_pos (a := v) (b := 72) b2.1
  have s3 := quo_pos (a := v) (b := 48) b2.1
  have s4 := rem_pos (a := v / 48) (b := 2) (by omega)
  have f1 : w64 (u % 24 * 2) = u % 24 * 2 := w64_id (by omega) (by omega)
  have f2 : w64 (u % 24 * 2 - 24) = u % 24 * 2 - 24 := w64_id (by omega) (by omega)
  have f3 : w64 (u / 72) = u / 72 := w64_id (by omega) (by omega)
  have f4 : w64 (u % 24 * 2 - 24 + u / 72) = u % 24 * 2 - 24 + u / 72 := w64_id (by omega) (by omega)
  have f5 : w64 (u / 48) = u / 48 := w64_id (by omega) (by omega)
  have f6 : w64 (2 + u / 48 % 2) = 2 + u / 48 % 2 := w64_id (by omega) (by omega)
  have h1 : w64 (v % 24 * 2) = v % 24 * 2 := w64_id (by omega) (by omega)
  have h2 : w64 (v % 24 * 2 - 24) = v % 24 * 2 - 24 := w64_id (by omega) (by omega)
  have h3 : w64 (v / 72) = v / 72 := w64_id (by omega) (by omega)
  have h4 : w64 (v % 24 * 2 - 24 + v / 72) = v % 24 * 2 - 24 + v / 72 := w64_id (by omega) (by omega)
  have h5 : w64 (v / 48) = v / 48 := w64_id (by omega) (by omega)
  have h6 : w64 (2 + v / 48 % 2) = 2 + v / 48 % 2 := w64_id (by omega) (by omega)
  have z1 : ((24 : Int) = 0) = False := by simp
  have z2 : ((72 : Int) = 0) = False := by simp
  have z3 : ((48 : Int) = 0) = False := by simp
  have z4 : ((2 : Int) = 0) = False := by simp
  clear bx bz b1 b2
  simp only [encR, iv, bv] at g1 g2 g3 g4
  simp -implicitDefEqProofs (maxSteps := 10000000) only [gantryref12_Vec, encV, fillB, partsB, st8, ld8, dc_dg, g1, g2, g3, g4, t1, t2, t3, t4, s1, s2, s3, s4, f1, f2, f3, f4, f5, f6, h1, h2, h3, h4, h5, h6, z1, z2, z3, z4, cells_dg, one_dg', go_sem, iv, bv, reduceCtorEq, ↓reduceIte, Nat.reduceEqDiff]
theorem Plus_spec {a b : Vc} {K : Nat} (hK : K ≤ 100000000000) (ha : SzV K a) (hb : SzV K b) : callX G n_gantryref13_Plus [encV a, encV b] = some (.d (encV (plV a b))) := by
  rw [callX_eq (cf := gantryref13_Plus) rfl]
  obtain ⟨x, y⟩ := a
  obtain ⟨z, t⟩ := b
  have g1 := rratAdd_spec (a := x) (b := z) (by have := ha.1; dsimp only at this; omega) (by have := hb.1; dsimp only at this; omega)
  have g2 := rratAdd_spec (a := y) (b := t) (by have := ha.2; dsimp only at this; omega) (by have := hb.2; dsimp only at this; omega)
  unfold plV
  dsimp only
  generalize x + z = u at *
  generalize y + t = v at *
  simp only [encR, iv, bv] at g1 g2
  simp -implicitDefEqProofs (maxSteps := 10000000) only [gantryref13_Plus, encV, fillB, partsB, st8, ld8, ld80, ld84, dc_dg, g1, g2, cells_dg, one_dg', go_sem, iv, bv, reduceCtorEq, ↓reduceIte, Nat.reduceEqDiff]
theorem Times_spec {k : Rat} {a : Vc} {K : Nat} (hK : K ≤ 100000000000) (hk : sz k ≤ K) (ha : SzV K a) : callX G n_gantryref13_Times [encR k, encV a] = some (.d (encV (tmV k a))) := by
  rw [callX_eq (cf := gantryref13_Times) rfl]
  obtain ⟨x, y⟩ := a
  have g1 := rratMul_spec (a := k) (b := x) (by omega) (by have := ha.1; dsimp only at this; omega)
  have g2 := rratMul_spec (a := k) (b := y) (by omega) (by have := ha.2; dsimp only at this; omega)
  unfold tmV
  dsimp only
  generalize k * x = u at *
  generalize k * y = v at *
  simp only [encR, iv, bv] at g1 g2
  simp -implicitDefEqProofs (maxSteps := 10000000) only [gantryref13_Times, encV, encR, fillB, partsB, st8, ld8, ld80, ld84, ld4_4, dc_dg, g1, g2, cells_dg, one_dg', go_sem, iv, bv, reduceCtorEq, ↓reduceIte, Nat.reduceEqDiff]
theorem Dot_spec_V {d : Dr} {v : Vc} {K : Nat} (hK : K ≤ 1000000000) (hd : NmD d) (hv : SzV K v) : callX G n_gantryref12_Dot [encD d, encV v] = some (.d (encR (dotR d v))) := by
  rw [callX_eq (cf := gantryref12_Dot) rfl]
  have g1 := rratOf_spec hd.i1 i64_1
  have g2 := rratOf_spec hd.i2 i64_1
  rw [divInt_one] at g1 g2
  have n1 := sz_int hd.i1
  have n2 := sz_int hd.i2
  have k1 := hv.1
  have k2 := hv.2
  have g3 := rratMul_spec (a := (d.1 : Rat)) (b := v.1) (by omega) (by omega)
  have g4 := rratMul_spec (a := (d.2.1 : Rat)) (b := v.2) (by omega) (by omega)
  have h3 := sz_mul (a := (d.1 : Rat)) (b := v.1)
  have h4 := sz_mul (a := (d.2.1 : Rat)) (b := v.2)
  have g5 := rratAdd_spec (a := (d.1 : Rat) * v.1) (b := (d.2.1 : Rat) * v.2) (by omega) (by omega)
  have e : (d.1 : Rat) * v.1 + (d.2.1 : Rat) * v.2 = dotR d v := rfl
  rw [e] at g5
  generalize dotR d v = r at *
  generalize (d.1 : Rat) * v.1 = u1 at *
  generalize (d.2.1 : Rat) * v.2 = u2 at *
  clear n1 n2 h3 h4 k1 k2 e hv
  generalize (d.1 : Rat) = c1 at *
  generalize (d.2.1 : Rat) = c2 at *
  obtain ⟨x, y⟩ := v
  obtain ⟨a, b, c⟩ := d
  simp only [encR, iv, bv] at g1 g2 g3 g4 g5
  simp -implicitDefEqProofs (maxSteps := 10000000) only [gantryref12_Dot, encD, cD, encV, encR, st4', ld4_4, ld80, ld84, ld3_0, ld3_1, dc_dg, g1, g2, g3, g4, g5, cells_dg, one_dg', go_sem, iv, bv, reduceCtorEq, ↓reduceIte, Nat.reduceEqDiff]
theorem Rate_spec {e : Eg} {v : Vc} {K : Nat} (hK : K ≤ 1000000000) (he : AtE e) (hv : SzV K v) : callX G n_gantryref13_Rate [encG e, encV v] = some (.d (encR (rtR e.1 v))) := by
  rw [callX_eq (cf := gantryref13_Rate) rfl]
  have g1 := Dot_spec_V hK he.1 hv
  have g2 := rratOf_spec he.1.i3 i64_1
  rw [divInt_one] at g2
  have n1 := sz_int he.1.i3
  have n2 := dotR_sz he.1 hv
  have g3 := rratDiv_spec (a := dotR e.1 v) (b := (e.1.2.2 : Rat)) (by omega) (by omega)
  have ee : dotR e.1 v / (e.1.2.2 : Rat) = rtR e.1 v := rfl
  rw [ee] at g3
  generalize rtR e.1 v = r at *
  generalize dotR e.1 v = s at *
  clear n1 n2 ee he hv
  generalize (e.1.2.2 : Rat) = c1 at *
  obtain ⟨x, y⟩ := v
  obtain ⟨⟨a, b, c⟩, t⟩ := e
  simp only [encD, cD, encV, encR, iv, bv] at g1 g2 g3
  simp -implicitDefEqProofs (maxSteps := 10000000) only [gantryref13_Rate, encG, cG, encV, encR, st4', ld4_4, ld8, ld4_3, ld4_n2, Nat.zero_add, dc_dg, g1, g2, g3, cells_dg, one_dg', go_sem, iv, bv, reduceCtorEq, ↓reduceIte, Nat.reduceEqDiff]
theorem rGap_spec {e : Eg} {v : Vc} {K : Nat} (hK : K ≤ 1000000000) (he : AtE e) (hv : SzV K v) : callX G n_gantryref13_Gap [encG e, encV v] = some (.d (encR (gpR e v))) := by
  rw [callX_eq (cf := gantryref13_Gap) rfl]
  have g1 := Dot_spec_V hK he.1 hv
  have g2 := rratOf_spec he.1.i3 i64_1
  have g4 := rratOf_spec he.2 i64_1
  rw [divInt_one] at g2 g4
  have n1 := sz_int he.1.i3
  have n2 := dotR_sz he.1 hv
  have n3 := sz_int he.2
  have n4 := sz_sub (a := dotR e.1 v) (b := (e.2 : Rat))
  have g5 := rratSub_spec (a := dotR e.1 v) (b := (e.2 : Rat)) (by omega) (by omega)
  have g3 := rratDiv_spec (a := dotR e.1 v - (e.2 : Rat)) (b := (e.1.2.2 : Rat)) (by omega) (by omega)
  have ee : (dotR e.1 v - (e.2 : Rat)) / (e.1.2.2 : Rat) = gpR e v := rfl
  rw [ee] at g3
  generalize gpR e v = r at *
  generalize dotR e.1 v - (e.2 : Rat) = q at *
  generalize dotR e.1 v = s at *
  clear n1 n2 n3 n4 ee he hv
  generalize (e.1.2.2 : Rat) = c1 at *
  generalize (e.2 : Rat) = c2 at *
  obtain ⟨x, y⟩ := v
  obtain ⟨⟨a, b, c⟩, t⟩ := e
  simp only [encD, cD, encV, encR, iv, bv] at g1 g2 g3 g4 g5
  simp -implicitDefEqProofs (maxSteps := 10000000) only [gantryref13_Gap, encG, cG, encV, encR, st4', ld4_4, ld8, ld4_3, ld4_n2, ld4_n3, Nat.zero_add, dc_dg, g1, g2, g3, g4, g5, cells_dg, one_dg', go_sem, iv, bv, reduceCtorEq, ↓reduceIte, Nat.reduceEqDiff]
theorem rate_spec {d : Dr} {v : Vc} {K : Nat} (hK : K ≤ 1000000000) (hd : NmD d) (hv : SzV K v) : callX G n_gap_rate [encD d, encV v] = some (.d (encR (rtR d v))) := by
  rw [callX_eq (cf := gap_rate) rfl]
  have g1 := ratOf_spec hd.i1 i64_1
  have g2 := ratOf_spec hd.i2 i64_1
  have g6 := ratOf_spec hd.i3 i64_1
  rw [divInt_one] at g1 g2 g6
  have n1 := sz_int hd.i1
  have n2 := sz_int hd.i2
  have n3 := sz_int hd.i3
  have n4 := dotR_sz hd hv
  have k1 := hv.1
  have k2 := hv.2
  have g3 := ratMul_spec (a := (d.1 : Rat)) (b := v.1) (by omega) (by omega)
  have g4 := ratMul_spec (a := (d.2.1 : Rat)) (b := v.2) (by omega) (by omega)
  have h3 := sz_mul (a := (d.1 : Rat)) (b := v.1)
  have h4 := sz_mul (a := (d.2.1 : Rat)) (b := v.2)
  have g5 := ratAdd_spec (a := (d.1 : Rat) * v.1) (b := (d.2.1 : Rat) * v.2) (by omega) (by omega)
  have e : (d.1 : Rat) * v.1 + (d.2.1 : Rat) * v.2 = dotR d v := rfl
  rw [e] at g5
  have g7 := ratDiv_spec (a := dotR d v) (b := (d.2.2 : Rat)) (by omega) (by omega)
  have ee : dotR d v / (d.2.2 : Rat) = rtR d v := rfl
  rw [ee] at g7
  generalize rtR d v = r at *
  generalize dotR d v = s at *
  generalize (d.1 : Rat) * v.1 = u1 at *
  generalize (d.2.1 : Rat) * v.2 = u2 at *
  clear n1 n2 n3 n4 h3 h4 k1 k2 e ee hv
  generalize (d.1 : Rat) = c1 at *
  generalize (d.2.1 : Rat) = c2 at *
  generalize (d.2.2 : Rat) = c3 at *
  obtain ⟨x, y⟩ := v
  obtain ⟨a, b, c⟩ := d
  simp only [encR, iv, bv] at g1 g2 g3 g4 g5 g6 g7
  simp -implicitDefEqProofs (maxSteps := 10000000) only [gap_rate, encD, cD, encV, encR, st4', ld4_4, ld80, ld84, ld3_0, ld3_1, ld3_2, dc_dg, g1, g2, g3, g4, g5, g6, g7, cells_dg, one_dg', go_sem, iv, bv, reduceCtorEq, ↓reduceIte, Nat.reduceEqDiff]
theorem Gap_spec {e : Eg} {v : Vc} {K : Nat} (hK : K ≤ 1000000000) (he : AtE e) (hv : SzV K v) : callX G n_gap_Gap [encG e, encV v] = some (.d (encR (gpR e v))) := by
  rw [callX_eq (cf := gap_Gap) rfl]
  have g1 := rate_spec hK he.1 hv
  have g2 := ratOf_spec he.2 he.1.i3
  have n1 := sz_of he.2 he.1.i3
  have n2 := rtR_sz he.1 hv
  have g3 := ratSub_spec (a := rtR e.1 v) (b := Rat.divInt e.2 e.1.2.2) (by omega) (by omega)
  rw [gp_alt] at g3
  generalize gpR e v = r at *
  generalize rtR e.1 v = s at *
  clear n1 n2 he hv
  generalize Rat.divInt e.2 e.1.2.2 = c1 at *
  obtain ⟨x, y⟩ := v
  obtain ⟨⟨a, b, c⟩, t⟩ := e
  simp only [encD, cD, encV, encR, iv, bv] at g1 g2 g3
  simp -implicitDefEqProofs (maxSteps := 10000000) only [gap_Gap, encG, cG, encV, encR, st4', ld4_4, ld8, ld4_3, ld4_n2, ld4_n3, Nat.zero_add, dc_dg, g1, g2, g3, cells_dg, one_dg', go_sem, iv, bv, reduceCtorEq, ↓reduceIte, Nat.reduceEqDiff]
theorem rAlong_spec {e : Eg} {r v a : Vc} {K : Nat} (hK : K ≤ 1000000000) (he : AtE e) (hr : SzV K r) (hv : SzV K v) (ha : SzV K a) : ∃ d, RwR d (alP e r v a) ∧ callX G n_gantryref13_Along [encG e, encV r, encV v, encV a] = some (.d d) := by
  rw [callX_eq (cf := gantryref13_Along) rfl]
  have g1 := rGap_spec hK he hr
  have g2 := Rate_spec hK he hv
  have g3 := Rate_spec hK he ha
  have g4 := rratOf_spec i64_2 i64_1
  rw [divInt_one, show ((2 : Int) : Rat) = 2 from rfl] at g4
  have n1 := rtR_sz he.1 ha
  have n2 := sz_two
  have g5 := rratDiv_spec (a := rtR e.1 a) (b := 2) (by omega) (by omega)
  have hs := alL_sz he hr hv ha
  obtain ⟨d', hd', g6⟩ := rTrim_spec (d := rowR (alL e r v a)) (l := alL e r v a) (.inr rfl) (by simp [alL]) (hs.mono (by omega))
  refine ⟨d', hd', ?_⟩
  unfold alL at g6
  clear hd' hs n1 n2
  generalize rtR e.1 a / 2 = q3 at *
  generalize rtR e.1 a = q4 at *
  generalize rtR e.1 v = q2 at *
  generalize gpR e r = q1 at *
  generalize (2 : Rat) = tw at *
  clear he hr hv ha
  obtain ⟨⟨a1, b1, c1⟩, t1⟩ := e
  obtain ⟨x1, y1⟩ := r
  obtain ⟨x2, y2⟩ := v
  obtain ⟨x3, y3⟩ := a
  simp only [encG, cG, encV, encR, rowR, cRs, List.cons_append, List.nil_append, List.length_cons, List.length_nil, Nat.zero_add, Nat.reduceAdd, iv, bv] at g1 g2 g3 g4 g5 g6
  simp -implicitDefEqProofs (maxSteps := 10000000) only [gantryref13_Along, encG, cG, encV, ld4_4, ld8, rep3_4, dc_dg, g1, g2, g3, g4, g5, g6, cells_dg, one_dg', go_sem, iv, bv, reduceCtorEq, ↓reduceIte, Nat.reduceEqDiff]
theorem Along_spec {e : Eg} {r v a : Vc} {K : Nat} (hK : K ≤ 1000000000) (he : AtE e) (hr : SzV K r) (hv : SzV K v) (ha : SzV K a) : ∃ d, RwR d (alP e r v a) ∧ callX G n_gap_Along [encG e, encV r, encV v, encV a] = some (.d d) := by
  rw [callX_eq (cf := gap_Along) rfl]
  have g1 := Gap_spec hK he hr
  have g2 := rate_spec hK he.1 hv
  have g3 := rate_spec hK he.1 ha
  have g4 := ratOf_spec i64_1 i64_2
  have n1 := rtR_sz he.1 ha
  have n2 := sz_of i64_1 i64_2
  have g5 := ratMul_spec (a := rtR e.1 a) (b := Rat.divInt 1 2) (by omega) (by omega)
  rw [half_alt] at g5
  have hs := alL_sz he hr hv ha
  obtain ⟨d', hd', g6⟩ := Trim_spec (d := rowR (alL e r v a)) (l := alL e r v a) (.inr rfl) (by simp [alL])
  refine ⟨d', hd', ?_⟩
  unfold alL at g6
  clear hd' hs n1 n2
  generalize rtR e.1 a / 2 = q3 at *
  generalize rtR e.1 a = q4 at *
  generalize rtR e.1 v = q2 at *
  generalize gpR e r = q1 at *
  generalize Rat.divInt 1 2 = tw at *
  clear he hr hv ha
  obtain ⟨⟨a1, b1, c1⟩, t1⟩ := e
  obtain ⟨x1, y1⟩ := r
  obtain ⟨x2, y2⟩ := v
  obtain ⟨x3, y3⟩ := a
  simp only [encG, cG, encD, cD, encV, encR, rowR, cRs, List.cons_append, List.nil_append, List.length_cons, List.length_nil, Nat.zero_add, Nat.reduceAdd, iv, bv] at g1 g2 g3 g4 g5 g6
  simp -implicitDefEqProofs (maxSteps := 10000000) only [gap_Along, encG, cG, encV, ld4_3, ld4_4, ld8, rep3_4, dc_dg, g1, g2, g3, g4, g5, g6, cells_dg, one_dg', go_sem, iv, bv, reduceCtorEq, ↓reduceIte, Nat.reduceEqDiff]
end Go.AM

/- law13.lives. -/
namespace Go.AM
open Go Go.RowKit
theorem z0 : zI 0 = [.v (.bool false), .z true, .v (.bool false), .z true] := rfl
set_option maxHeartbeats 4000000 in
theorem lives13 : callX G n_gantrylaw13_lives [] = some (.d (bv true)) := by
  rw [callX_eq (cf := gantrylaw13_lives) rfl]
  have v1 := kv 1 5 (by simp)
  have v2 := kv 1 1 (by simp)
  have v3 := kv 2 0 (by simp)
  have v4 := kv 0 0 (by simp)
  have v5 := kv 0 3 (by simp)
  have v6 := kv 0 (-2) (by simp)
  have v7 := kv 5 (-2) (by simp)
  have v8 := kv 5 1 (by simp)
  have v9 := kv 1 2 (by simp)
  have v10 := kv 1 0 (by simp)
  have v11 := kv 1 (-1) (by simp)
  have v12 := kv 0 1 (by simp)
  have v13 := kv 2 2 (by simp)
  have v14 := kv (-1) (-2) (by simp)
  have v15 := kv 0 (-1) (by simp)
  have k0 := k0; have k1 := k1; have k2 := k2; have k3 := k3; have k4 := k4; have k5 := k5; have kOf := kOf
  have f1 := f1; have f2 := f2; have f3 := f3; have c1 := c1; have c2 := c2; have c3 := c3; have c4 := c4
  have e0 : vI 0 0 = .agg [.v (.bool false), .z true, .v (.bool false), .z true, .v (.bool false), .z true, .v (.bool false), .z true] := rfl
  rw [e0] at v4 f1 f2 f3
  have e1 : D.agg (zI 3) = .agg [.v (.bool false), .row 1 [iv 3], .v (.bool false), .z true] := rfl
  have x1 : ∀ h : Hp, ixaA h 4 2 (.d eds) = some (.d (.rp [iv 0, iv 1, iv 1, iv 2, iv (-1), iv 0, iv 1, iv 2])) := fun _ => rfl
  have x2 : ∀ h : Hp, loadA h (some 4) (.d (.rp [iv 0, iv 1, iv 1, iv 2, iv (-1), iv 0, iv 1, iv 2])) = some (.d (.agg [iv 0, iv 1, iv 1, iv 2])) := fun _ => rfl
  simp only [eds, edc, iv, bv, sqD] at x1 x2 v1 v2 v3 v4 v5 v6 v7 v8 v9 v10 v11 v12 v13 v14 v15 k0 k1 k2 k3 k4 k5 kOf f1 f2 f3 c1 c2 c3 c4
  simp -implicitDefEqProofs (maxSteps := 10000000) only [gantrylaw13_lives, v1, v2, v3, v4, v5, v6, v7, v8, v9, v10, v11, v12, v13, v14, v15, k0, k1, k2, k3, k4, k5, kOf, f1, f2, f3, c1, c2, c3, c4, rep4_2, st8, ld8, fillB, partsB, x1, x2, one_b, oneI, Bool.not_true, Bool.not_false, beq_self_eq_true, List.map_cons, List.map_nil, go_sem, iv, bv, reduceCtorEq, ↓reduceIte, Nat.reduceEqDiff]
end Go.AM

namespace Go.AM
open Go Go.RowKit

def bxV (v : Vc) : Obj := ⟨0, 0, [.d (.v (.bool (decide (v.1.num < 0)))), .d (dg (digs v.1.num.natAbs)), .d (.v (.bool false)), .d (dg (dd v.1.den)), .d (.v (.bool (decide (v.2.num < 0)))), .d (dg (digs v.2.num.natAbs)), .d (.v (.bool false)), .d (dg (dd v.2.den))], false⟩
def ga_st (O : List Eg) (r v a n : Vc) (i : Int) : St := mkS [(7, .d (rowE cG O)), (8, .ptr [8] 0), (9, .ptr [9] 0), (10, .ptr [10] 0), (11, .ptr [11] 0), (12, ai i)] [([8], bxV r), ([9], bxV v), ([10], bxV a), ([11], bxV n)]
def hfV (r v a : Vc) : Vc := plV (plV r v) (tmV (Rat.divInt 1 2) a)
theorem enc0 : encR 0 = .agg [.v (.bool false), .z true, .v (.bool false), .z true] := by
  unfold encR
  have h1 : (0 : Rat).num = 0 := rfl
  have h2 : (0 : Rat).den = 1 := rfl
  rw [h1, h2]
  have h3 : digs (Int.natAbs 0) = [] := digs_zero
  have h4 : dd 1 = [] := rfl
  rw [h3, h4]
  rfl
theorem al_0 (e : Eg) (r v a : Vc) : evR (alP e r v a) 0 = gpR e r := by
  unfold alP
  rw [evR_trim]
  unfold alL
  simp only [evR, List.foldr]
  grind
theorem al_1 (e : Eg) (r v a : Vc) : evR (alP e r v a) 1 = gpR e r + rtR e.1 v + rtR e.1 a / 2 := by
  unfold alP
  rw [evR_trim]
  unfold alL
  simp only [evR, List.foldr]
  grind
theorem gp_plus (e : Eg) (r v : Vc) : gpR e (plV r v) = gpR e r + rtR e.1 v := by
  unfold gpR rtR dotR plV
  dsimp only
  rw [Rat.div_def, Rat.div_def, Rat.div_def]
  generalize ((e.1.2.2 : Int) : Rat)⁻¹ = q
  generalize ((e.2 : Int) : Rat) = t
  generalize ((e.1.1 : Int) : Rat) = a
  generalize ((e.1.2.1 : Int) : Rat) = b
  grind
theorem rt_half (d : Dr) (a : Vc) : rtR d (tmV (Rat.divInt 1 2) a) = rtR d a / 2 := by
  rw [← half_alt]
  unfold rtR dotR tmV
  dsimp only
  rw [Rat.div_def, Rat.div_def]
  generalize ((d.2.2 : Int) : Rat)⁻¹ = q
  generalize Rat.divInt 1 2 = h
  generalize ((d.1 : Int) : Rat) = a
  generalize ((d.2.1 : Int) : Rat) = b
  grind
theorem gp_end (e : Eg) (r v a : Vc) : gpR e (hfV r v a) = gpR e r + rtR e.1 v + rtR e.1 a / 2 := by
  unfold hfV
  rw [gp_plus, gp_plus, rt_half]
theorem sdO_at {a b : List Pt} (ha : GdS a) (hb : GdS b) {ds : List Dr} (hd : ∀ d ∈ ds, NmD d) : ∀ i, i ≤ ds.length → ∀ e ∈ sdO a b ds i, AtE e
  | 0, _, e, he => by simp [sdO] at he
  | i + 1, hi, e, he => by
    rw [sdO] at he
    split at he
    · rcases List.mem_append.1 he with h | h
      · exact sdO_at ha hb hd i (by omega) e h
      · rw [List.mem_singleton] at h
        subst h
        have hdi : NmD (ds.getD i default) := by rw [List.getD_eq_getElem?_getD, List.getElem?_eq_getElem (by omega)]; exact hd _ (List.getElem_mem (by omega))
        have m1 : -20000000000000000 ≤ moP (ds.getD i default) a ∧ moP (ds.getD i default) a ≤ 20000000000000000 := mstN_b hdi ha.sm _
        have m2 : -20000000000000000 ≤ moP (tnD (ds.getD i default)) b ∧ moP (tnD (ds.getD i default)) b ≤ 20000000000000000 := mstN_b hdi.tn hb.sm _
        refine ⟨hdi, ?_, ?_⟩ <;> (unfold edP; dsimp only; omega)
    · exact sdO_at ha hb hd i (by omega) e he
theorem sdP_at {a b : List Pt} (ha : GdS a) (hb : GdS b) : ∀ e ∈ sdP a b, AtE e := sdO_at ha hb (drs_nm ha hb) _ (Nat.le_refl _)
theorem sdP_len {a b : List Pt} (ha : GdS a) (hb : GdS b) : (sdP a b).length ≤ 20 := by
  have h1 := sdO_len a b (drs a b) (drs a b).length
  have h2 := drs_len a b
  have := ha.le; have := hb.le
  unfold sdP
  omega
theorem atE0 {O : List Eg} (hO : ∀ e ∈ O, AtE e) {i : Nat} (hi : i < O.length) : AtE (O.getD i default) := by
  rw [List.getD_eq_getElem?_getD, List.getElem?_eq_getElem hi]; exact hO _ (List.getElem_mem hi)

theorem ga_go {O : List Eg} {r v a : Vc} (hO : ∀ e ∈ O, AtE e) (hn : O.length ≤ 1000) (hr : SzV 30 r) (hv : SzV 30 v) (ha : SzV 30 a) {i : Nat} (hi : i < O.length) :
    X G gantrylaw13_GapAlong_l0 (ga_st O r v a (hfV r v a) i) = some (.n, ga_st O r v a (hfV r v a) ((i + 1 : Nat) : Int)) := by
  have e1 : decide ((i : Int) < (O.length : Int)) = true := lt_t (by omega)
  have e2 : w64 ((i : Int) + 1) = ((i + 1 : Nat) : Int) := by rw [w64_id (by omega) (by omega)]; rfl
  have ll : lenA (.d (rowE cG O)) = some O.length := rfl
  have x1 := RwE.ixa (d := rowE cG O) (l := O) cG_len (.inr rfl) hi
  have x2 := fun hp => ldE cG_len hp hi
  have he := atE0 hO hi
  generalize O.getD i default = e at *
  have pv := plV_sz hr hv
  have hh : sz (Rat.divInt 1 2) ≤ 3 := sz_of i64_1 i64_2
  have pe := plV_sz pv (tmV_sz hh ha)
  obtain ⟨d1, hd1, g1⟩ := Along_spec (K := 30) (by omega) he hr hv ha
  obtain ⟨d2, hd2, g2⟩ := rAlong_spec (K := 30) (by omega) he hr hv ha
  have sA : SzL 74 (alP e r v a) := (alL_sz he hr hv ha).trim
  have nA : (alP e r v a).length ≤ 3 := trimR_le _
  have g3 := Gap_spec (K := 30) (by omega) he hr
  have g4 := rGap_spec (K := 30) (by omega) he hr
  have k1 := gpR_sz he hr
  have k2 := rtR_sz he.1 hv
  have g5 := s5_refl (a := gpR e r) (by omega)
  have g6 := s6_same hd1 hd2 rfl (sA.mono (by omega)) (by omega)
  have g7 := Rate_spec (K := 30) (by omega) he hv
  have g8 := ratAdd_spec (a := gpR e r) (b := rtR e.1 v) (by omega) (by omega)
  have g9 := Plus_spec (K := 30) (by omega) hr hv
  have g10 := Gap_spec (K := 61) (by omega) he pv
  rw [gp_plus] at g10
  have k3 := sz_add (a := gpR e r) (b := rtR e.1 v)
  have g11 := rs_refl (a := gpR e r + rtR e.1 v) (by omega)
  have g12 := (evalP hd1 (sA.mono (by omega)) (by omega) (x := 0) (by rw [sz_zero]; omega)).1
  rw [al_0] at g12
  have g13 := rs_refl (a := gpR e r) (by omega)
  have g14 := rone1_spec
  have g15 := (evalP hd1 (sA.mono (by omega)) (by omega) (x := 1) (by rw [sz_one_]; omega)).1
  have g16 := Gap_spec (K := 100) (by omega) he (pe.mono (by omega))
  have k4 := gpR_sz he pe
  have g17 := rs_refl (a := gpR e (hfV r v a)) (by unfold hfV; omega)
  have ee : plV (plV r v) (tmV (Rat.divInt 1 2) a) = hfV r v a := rfl
  rw [ee] at g16
  rw [al_1, ← gp_end] at g15
  rw [enc0] at g12
  generalize hfV r v a = n at *
  generalize plV r v = rv at *
  generalize gpR e r + rtR e.1 v = q1 at *
  generalize gpR e n = q2 at *
  generalize gpR e r = q3 at *
  generalize rtR e.1 v = q4 at *
  generalize (1 : Rat) = one at *
  clear k1 k2 k3 k4 pv pe hh ee sA nA hd1 hd2 he hr hv ha
  obtain ⟨⟨a1, b1, c1⟩, t1⟩ := e
  obtain ⟨rx, ry⟩ := r
  obtain ⟨vx, vy⟩ := v
  obtain ⟨ax, ay⟩ := a
  obtain ⟨nx, ny⟩ := n
  obtain ⟨px, py⟩ := rv
  simp only [encG, cG, encV, encR, iv, bv] at x2 g1 g2 g3 g4 g5 g6 g7 g8 g9 g10 g11 g12 g13 g14 g15 g16 g17
  simp -implicitDefEqProofs (maxSteps := 10000000) only [gantrylaw13_GapAlong_l0, ga_st, bxV, hupdO_none, x1, x2, ll, g1, g2, g3, g4, g5, g6, g7, g8, g9, g10, g11, g12, g13, g14, g15, g16, g17, e1, e2, st4', ld4_4, ld8, Bool.not_true, Bool.not_false, cells_dg, one_dg', dc_dg, go_sem, iv, bv, reduceCtorEq, ↓reduceIte, Nat.reduceEqDiff]
theorem ga_stop {O : List Eg} {r v a n : Vc} : X G gantrylaw13_GapAlong_l0 (ga_st O r v a n O.length) = some (.x 0, mkS [] []) := by
  have e1 : decide ((O.length : Int) < (O.length : Int)) = false := lt_f (by omega)
  have ll : lenA (.d (rowE cG O)) = some O.length := rfl
  simp -implicitDefEqProofs (maxSteps := 10000000) only [gantrylaw13_GapAlong_l0, ga_st, bxV, hupdO_none, ll, go_sem, iv, bv, e1, reduceCtorEq, ↓reduceIte, Nat.reduceEqDiff]
theorem ga_loop {O : List Eg} {r v a : Vc} (hO : ∀ e ∈ O, AtE e) (hn : O.length ≤ 1000) (hr : SzV 30 r) (hv : SzV 30 v) (ha : SzV 30 a) : ∀ (j i : Nat), i + j = O.length → X G (.loop gantrylaw13_GapAlong_l0) (ga_st O r v a (hfV r v a) i) = some (.x 0, mkS [] [])
  | 0, i, h => by
    have : i = O.length := by omega
    subst this
    rw [X_loop, ga_stop]; rfl
  | j + 1, i, h => by
    rw [X_loop, ga_go hO hn hr hv ha (by omega), Option.bind_some, if_pos rfl]
    exact ga_loop hO hn hr hv ha j (i + 1) (by omega)
theorem atr_i (l : List Int) (i : Int) : I64 (atr l i 96) := by
  have := atr_b l i (m := 96) (by omega)
  exact ⟨by omega, by omega⟩
end Go.AM
namespace Go.Proofs.YtfdelaplhpmneaaGreat.Pure
open Go Go.AM
set_option maxHeartbeats 1000000 in
theorem GapAlong (e0 : D) (l0 : List Int) (hd0 : Dg e0 l0) (hwf0 : ∀ n ∈ l0, (Lit.int .i64 n).wf = true) (hlen0 : l0.length * 8 ≤ 140737488351232) (e1 : D) (l1 : List Int) (hd1 : Dg e1 l1) (hwf1 : ∀ n ∈ l1, (Lit.int .i64 n).wf = true) (hlen1 : l1.length * 8 ≤ 140737488351232) (e2 : D) (l2 : List Int) (hd2 : Dg e2 l2) (hwf2 : ∀ n ∈ l2, (Lit.int .i64 n).wf = true) (hlen2 : l2.length * 8 ≤ 140737488351232) : callX G n_gantrylaw13_GapAlong [e0, e1, e2] = some (.d (bv true)) := by
  have w2 : ∀ n ∈ l2, I64 n := fun n hn => i64_wf (hwf2 n hn)
  have g0 := Shape_spec (rw_dg hd0) (fun n hn => i64_wf (hwf0 n hn))
  have g1 := Shape_spec (rw_dg hd1) (fun n hn => i64_wf (hwf1 n hn))
  have ga := gd_sh l0
  have gb := gd_sh l1
  have g2 := Sides_spec (da := rowE cP (spP l0)) (db := rowE cP (spP l1)) (.inr rfl) (.inr rfl) ga gb
  have a0 := at_spec (i := 0) (m := 96) (rw_dg hd2) w2 (by omega)
  have a1 := at_spec (i := 1) (m := 96) (rw_dg hd2) w2 (by omega)
  have a2 := at_spec (i := 2) (m := 96) (rw_dg hd2) w2 (by omega)
  have a3 := at_spec (i := 3) (m := 96) (rw_dg hd2) w2 (by omega)
  have a4 := at_spec (i := 4) (m := 96) (rw_dg hd2) w2 (by omega)
  have a5 := at_spec (i := 5) (m := 96) (rw_dg hd2) w2 (by omega)
  have v0 := Vec_spec (atr_i l2 0) (atr_i l2 1)
  have v1 := Vec_spec (atr_i l2 2) (atr_i l2 3)
  have v2 := Vec_spec (atr_i l2 4) (atr_i l2 5)
  have s0 := vcV_sz (atr l2 0 96) (atr l2 1 96)
  have s1 := vcV_sz (atr l2 2 96) (atr l2 3 96)
  have s2 := vcV_sz (atr l2 4 96) (atr l2 5 96)
  have hO := sdP_at ga gb
  have hn := sdP_len ga gb
  have gl := ga_loop (O := sdP (spP l0) (spP l1)) hO (by omega) (s0.mono (by omega)) (s1.mono (by omega)) (s2.mono (by omega)) (sdP (spP l0) (spP l1)).length 0 (by omega)
  generalize (vcR (atr l2 0 96), vcR (atr l2 1 96)) = r at *
  generalize (vcR (atr l2 2 96), vcR (atr l2 3 96)) = v at *
  generalize (vcR (atr l2 4 96), vcR (atr l2 5 96)) = a at *
  generalize sdP (spP l0) (spP l1) = O at *
  have g3 := Plus_spec (K := 30) (by omega) (s0.mono (by omega)) (s1.mono (by omega))
  have pv := plV_sz s0 s1
  have hh : sz (Rat.divInt 1 2) ≤ 3 := sz_of i64_1 i64_2
  have g4 := rratOf_spec i64_1 i64_2
  have g5 := Times_spec (K := 30) (k := Rat.divInt 1 2) (by omega) (by omega) (s2.mono (by omega))
  have pt := tmV_sz hh s2
  have g6 := Plus_spec (K := 30) (by omega) (pv.mono (by omega)) (pt.mono (by omega))
  have ee : plV (plV r v) (tmV (Rat.divInt 1 2) a) = hfV r v a := rfl
  rw [ee] at g6
  have lv := lives13
  rw [callX_eq (cf := gantrylaw13_GapAlong) rfl]
  generalize hfV r v a = n at *
  generalize tmV (Rat.divInt 1 2) a = ta at *
  generalize plV r v = rv at *
  generalize Rat.divInt 1 2 = hq at *
  clear s0 s1 s2 pv hh pt ee hO hn
  obtain ⟨rx, ry⟩ := r
  obtain ⟨vx, vy⟩ := v
  obtain ⟨ax, ay⟩ := a
  obtain ⟨nx, ny⟩ := n
  obtain ⟨px, py⟩ := rv
  obtain ⟨tx, ty⟩ := ta
  simp only [ga_st, bxV, rowE, nc0, go_sem] at gl
  simp only [encV, encR, rowE, iv, bv] at g0 g1 g2 g3 g4 g5 g6 a0 a1 a2 a3 a4 a5 v0 v1 v2 lv
  simp -implicitDefEqProofs (maxSteps := 10000000) only [gantrylaw13_GapAlong, gl, g0, g1, g2, g3, g4, g5, g6, a0, a1, a2, a3, a4, a5, v0, v1, v2, lv, hupdO_none, st8, ld8, cells_dg, one_dg', dc_dg, go_sem, iv, bv, reduceCtorEq, ↓reduceIte, Nat.reduceEqDiff]
end Go.Proofs.YtfdelaplhpmneaaGreat.Pure

/- The row of GapAlong, out of its Pure. Printed by row.py. -/
namespace Go.Proofs.YtfdelaplhpmneaaGreat.gapAlong
open Go.ChangeShapes Go.WideShapes Go.ChangeAt Go.RowKit Go.AM
theorem own : ownKnob Tryz.prog.godebug = none := by kernel_rfl
theorem laidOut : laidOutB Tryz.prog = true := by kernel_rfl
set_option maxRecDepth 100000 in
theorem lifted (os : Os) (started : os.Started) (H : Type) (enc : TypeId × Value → H) :
    ReturnsInHanded {} Tryz.checked os 4 .any (Rows.gapAlongSpec.pre6 enc Tryz.prog Tryz.f4 Rows.gapAlongRow.domain false) (Rows.gapAlongSpec.post enc Tryz.prog Tryz.f4 false true false false) := by
  refine returnsInHanded_of_change_sized (C := Tryz.checked) own started (by kernel_rfl) Tryz.func4
    (ChangeSpec.witness6 (enc := enc) (C := Tryz.checked) false ⟨#[], #[.slice none 0 0, .slice none 0 0, .slice none 0 0], []⟩ 8 (by kernel_rfl) (by kernel_rfl) (by kernel_rfl) (by kernel_rfl)) ?_
  intro W base args ds gs before hval0 hW hcnd hsz0 _
  have hsz : (DataW.weightsEach Tryz.prog (Tryz.f4.params.toList ++ Rows.gapAlongSpec.plain.varTypes Tryz.prog) (ds ++ gs)).all (· ≤ reachBytes) = true := hsz0
  have hval : ∀ (j : Nat) t v, Tryz.f4.params[j]? = some t → args[j]? = some v → Value.okWide Tryz.prog W .any base t v := hval0
  have hW' := hW
  obtain ⟨p, q, hA0, hV, rfl, hfz, hnd⟩ := hW
  have hA : DataW.TrodAll enc Tryz.prog W 0 (fun _ => true) true Tryz.f4.params.toList args.toList ds p := hA0
  rw [Tryz.params4] at hA hval hsz
  obtain ⟨v0, vs0, d0, ds0, p0, q0, hargs, rfl, rfl, h0, r0⟩ := trodAll_cons hA
  obtain ⟨v1, vs1, d1, ds1, p1, q1, rfl, rfl, rfl, h1, r1⟩ := trodAll_cons r0
  obtain ⟨v2, vs2, d2, ds2, p2, q2, rfl, rfl, rfl, h2, r2⟩ := trodAll_cons r1
  obtain ⟨rfl, rfl, rfl⟩ := trodAll_nil r2
  obtain rfl : args = #[v0, v1, v2] := by cases args; simp_all
  obtain ⟨rfl, rfl⟩ := trodVars_none hV
  obtain ⟨a0, len0, cap0, rfl⟩ := okWide_slice Tryz.underlying22 (hval 0 22 v0 rfl rfl)
  have k0 := h0
  have lt0 : ∀ x ∈ p0, x.block < W.heap.size := by obtain ⟨m, hm⟩ := k0; exact DataW.trod_lt m _ _ _ hm
  obtain ⟨z0, w0, y0⟩ : ∃ zs, ((a0 = none ∧ len0 = 0 ∧ cap0 = 0 ∧ zs = []) ∨ ∃ x, a0 = some x ∧ len0 ≤ cap0 ∧ cap0 ≤ maxLen ∧ zs.length = cap0 ∧ (∀ i, i < zs.length → W.cell? (x.add i) = some (.int .i64 (zs.getD i 0))) ∧ ∀ n ∈ zs, (Lit.int .i64 n).wf = true) ∧ len0 * 8 ≤ 140737488351232 := by
    obtain ⟨fuel, hf⟩ := h0
    rcases open_ints Tryz.underlying22 Tryz.underlying3 (by kernel_rfl) hf with ⟨hcs, _⟩ | ⟨x, l, c, zs, hcs, _, hl, hm, hz, hx, hcell, hwz⟩
    · simp [Value.cells] at hcs
      obtain ⟨rfl, rfl, rfl⟩ := hcs
      exact ⟨[], .inl ⟨rfl, rfl, rfl, rfl⟩, by simp⟩
    · simp [Value.cells] at hcs
      obtain ⟨rfl, rfl, rfl⟩ := hcs
      refine ⟨zs, .inr ⟨_, rfl, hl, hm, by simpa using hz, hcell, hwz⟩, ?_⟩
      simp only [Prod.mk.injEq] at hx
      have hd := hx.1
      have z := sized_slice hsz (j := 0) (t := 22) rfl (by rw [hd]; rfl) Tryz.underlying22
      have hb : Tryz.prog.bytesOf 3 = 8 := by kernel_rfl
      rw [hb] at z
      have hr : reachBytes ≤ 140737488351232 := by decide
      have hz' : zs.length = cap0 := by simpa using hz
      simp only [lits, List.length_map, List.length_take, List.length_drop] at z
      omega
  obtain ⟨e0, l0, hd0, hrep0, hlen0, hwf0⟩ := arg_row w0
  obtain ⟨a1, len1, cap1, rfl⟩ := okWide_slice Tryz.underlying22 (hval 1 22 v1 rfl rfl)
  have k1 := h1
  have lt1 : ∀ x ∈ p1, x.block < W.heap.size := by obtain ⟨m, hm⟩ := k1; exact DataW.trod_lt m _ _ _ hm
  obtain ⟨z1, w1, y1⟩ : ∃ zs, ((a1 = none ∧ len1 = 0 ∧ cap1 = 0 ∧ zs = []) ∨ ∃ x, a1 = some x ∧ len1 ≤ cap1 ∧ cap1 ≤ maxLen ∧ zs.length = cap1 ∧ (∀ i, i < zs.length → W.cell? (x.add i) = some (.int .i64 (zs.getD i 0))) ∧ ∀ n ∈ zs, (Lit.int .i64 n).wf = true) ∧ len1 * 8 ≤ 140737488351232 := by
    obtain ⟨fuel, hf⟩ := h1
    rcases open_ints Tryz.underlying22 Tryz.underlying3 (by kernel_rfl) hf with ⟨hcs, _⟩ | ⟨x, l, c, zs, hcs, _, hl, hm, hz, hx, hcell, hwz⟩
    · simp [Value.cells] at hcs
      obtain ⟨rfl, rfl, rfl⟩ := hcs
      exact ⟨[], .inl ⟨rfl, rfl, rfl, rfl⟩, by simp⟩
    · simp [Value.cells] at hcs
      obtain ⟨rfl, rfl, rfl⟩ := hcs
      refine ⟨zs, .inr ⟨_, rfl, hl, hm, by simpa using hz, hcell, hwz⟩, ?_⟩
      simp only [Prod.mk.injEq] at hx
      have hd := hx.1
      have z := sized_slice hsz (j := 1) (t := 22) rfl (by rw [hd]; rfl) Tryz.underlying22
      have hb : Tryz.prog.bytesOf 3 = 8 := by kernel_rfl
      rw [hb] at z
      have hr : reachBytes ≤ 140737488351232 := by decide
      have hz' : zs.length = cap1 := by simpa using hz
      simp only [lits, List.length_map, List.length_take, List.length_drop] at z
      omega
  obtain ⟨e1, l1, hd1, hrep1, hlen1, hwf1⟩ := arg_row w1
  obtain ⟨a2, len2, cap2, rfl⟩ := okWide_slice Tryz.underlying22 (hval 2 22 v2 rfl rfl)
  have k2 := h2
  have lt2 : ∀ x ∈ p2, x.block < W.heap.size := by obtain ⟨m, hm⟩ := k2; exact DataW.trod_lt m _ _ _ hm
  obtain ⟨z2, w2, y2⟩ : ∃ zs, ((a2 = none ∧ len2 = 0 ∧ cap2 = 0 ∧ zs = []) ∨ ∃ x, a2 = some x ∧ len2 ≤ cap2 ∧ cap2 ≤ maxLen ∧ zs.length = cap2 ∧ (∀ i, i < zs.length → W.cell? (x.add i) = some (.int .i64 (zs.getD i 0))) ∧ ∀ n ∈ zs, (Lit.int .i64 n).wf = true) ∧ len2 * 8 ≤ 140737488351232 := by
    obtain ⟨fuel, hf⟩ := h2
    rcases open_ints Tryz.underlying22 Tryz.underlying3 (by kernel_rfl) hf with ⟨hcs, _⟩ | ⟨x, l, c, zs, hcs, _, hl, hm, hz, hx, hcell, hwz⟩
    · simp [Value.cells] at hcs
      obtain ⟨rfl, rfl, rfl⟩ := hcs
      exact ⟨[], .inl ⟨rfl, rfl, rfl, rfl⟩, by simp⟩
    · simp [Value.cells] at hcs
      obtain ⟨rfl, rfl, rfl⟩ := hcs
      refine ⟨zs, .inr ⟨_, rfl, hl, hm, by simpa using hz, hcell, hwz⟩, ?_⟩
      simp only [Prod.mk.injEq] at hx
      have hd := hx.1
      have z := sized_slice hsz (j := 2) (t := 22) rfl (by rw [hd]; rfl) Tryz.underlying22
      have hb : Tryz.prog.bytesOf 3 = 8 := by kernel_rfl
      rw [hb] at z
      have hr : reachBytes ≤ 140737488351232 := by decide
      have hz' : zs.length = cap2 := by simpa using hz
      simp only [lits, List.length_map, List.length_take, List.length_drop] at z
      omega
  obtain ⟨e2, l2, hd2, hrep2, hlen2, hwf2⟩ := arg_row w2
  clear hA0 hval0 hsz0 hsz
  refine (law_walk envP (f := 4) (ds := [e0, e1, e2]) (vs := [.slice a0 len0 cap0, .slice a1 len1 cap1, .slice a2 len2 cap2]) (w := W) (tabs_none rfl W) (RepL.cons _ _ _ _ hrep0 (RepL.cons _ _ _ _ hrep1 (RepL.cons _ _ _ _ hrep2 RepL.nil))) (Pure.GapAlong e0 l0 hd0 hwf0 (by rw [hlen0]; exact y0) e1 l1 hd1 hwf1 (by rw [hlen1]; exact y1) e2 l2 hd2 hwf2 (by rw [hlen2]; exact y2))).mono fun e W' ⟨he, bel⟩ => ?_
  subst he
  exact ⟨_, rfl, _, _, _, [], _, [], hW', trodAll_mk1 (shut_bool Tryz.underlying4 _), (trodAll_cons_mk (Below.trod laidOut (by kernel_rfl) (of_decide_eq_true (by kernel_rfl)) k0 bel lt0) (trodAll_cons_mk (Below.trod laidOut (by kernel_rfl) (of_decide_eq_true (by kernel_rfl)) k1 bel lt1) (trodAll_cons_mk (Below.trod laidOut (by kernel_rfl) (of_decide_eq_true (by kernel_rfl)) k2 bel lt2) trodAll_mk0))), rfl, bel.frame _, fun h => by cases h⟩
theorem over : Rows.gapAlongRow.holds Tryz.pinned (OpenSpec.ofChange Rows.gapAlongSpec) :=
  OpenClaim.holds_of_wide 4 Tryz.f4 rfl rfl rfl rfl rfl rfl rfl ⟨rfl, rfl, rfl, rfl, rfl⟩ rfl rfl rfl rfl rfl (by kernel_rfl) Tryz.func4 (by kernel_rfl)
    (of_decide_eq_true (by kernel_rfl)) (by unfold Func.isWrapper; first | (rw [if_pos (by decide +kernel)]; kernel_rfl) | (rw [if_neg (by decide +kernel)]; exact ⟨rfl, rfl⟩))
    (fun os started H enc _ => lifted os started H enc)
theorem proved : Rows.GapAlongSaid := over
end Go.Proofs.YtfdelaplhpmneaaGreat.gapAlong
namespace Go.Proofs.YtfdelaplhpmneaaGreat
theorem gapAlong_holds : Rows.GapAlongSaid := gapAlong.proved
end Go.Proofs.YtfdelaplhpmneaaGreat


