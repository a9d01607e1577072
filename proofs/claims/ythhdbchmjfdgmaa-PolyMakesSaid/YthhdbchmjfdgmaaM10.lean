/- Part 10 of the proof: a small machine, its soundness against the model, and what the program's functions compute on it. -/
import Derived.Test.YthhdbchmjfdgmaaM9
import Derived.Test.YthhdbchmjfdgmaaRows
import Derived.Test.YthhdbchmjfdgmaaM5
import Derived.WalkKit
import Derived.ProofKit
import Derived.OpenShut
import Derived.ShutString
import Derived.ChangeOld
import Derived.Below
import Derived.SizedLaws
set_option linter.unusedVariables false
set_option linter.unusedSimpArgs false
/- Valid: integer, ref04, rat, ref05, poly, ref06, at canonical numbers. -/
namespace Go.AM
open Go Go.RowKit

theorem top_getD {l : List Int} (h : Top l) {n : Nat} (hn : l.length = n + 1) : l.getD n 0 ≠ 0 := by
  have hne : l ≠ [] := fun h0 => by rw [h0] at hn; simp at hn
  have h1 := h hne
  rw [List.getLast_eq_getElem] at h1
  have e : l.length - 1 = n := by omega
  rw [List.getD_eq_getElem?_getD, List.getElem?_eq_getElem (by omega)]
  simpa [e] using h1
theorem ubt : A.bool? (.d (.v (.tuple #[]))) = none := rfl
/-- The parts of a canonical number. -/
theorem rat_parts {a : Rat} (ha : sz a ≤ 100000000000) : (digs a.num.natAbs).length ≤ 1000000000000 ∧ (dd a.den).length ≤ 1000000000000 ∧ Dig (dd a.den) ∧ Top (dd a.den) ∧ (digs a.num.natAbs = [] → decide (a.num < 0) = false) := by
  have h1 : (digs a.num.natAbs).length ≤ 1000000000000 := by have := sz_num ha; unfold nd at this; omega
  have h2 : (digs a.den).length ≤ 1000000000000 := by
    have := sz_den ha
    unfold nd at this
    rw [Int.natAbs_natCast] at this
    omega
  refine ⟨h1, ?_, ?_, ?_, fun h => ?_⟩
  · unfold dd; split
    · simp
    · exact h2
  · unfold dd; split
    · exact Dig.nil
    · exact digs_dig _
  · unfold dd; split
    · intro h; exact absurd rfl h
    · exact digs_top _
  · have h0 : ((a.num.natAbs : Nat) : Int) = 0 := by
      have := congrArg val h
      rw [val_digs] at this
      exact this
    exact decide_eq_false (by omega)
variable [Its]

theorem V1_spec {x : Int} (h : 0 ≤ x ∧ x < 1000000000) : callX G n_integer_Valid_1 [iv x] = some (.d (bv false)) := by
  rw [callX_eq (cf := integer_Valid_1) rfl]
  have e1 : decide (x < 0) = false := lt_f (by omega)
  have e2 : decide (x ≥ 1000000000) = false := decide_eq_false (by omega)
  simp -implicitDefEqProofs (maxSteps := 10000000) only [integer_Valid_1, e1, e2, go_sem, iv, bv, reduceCtorEq, ↓reduceIte, Nat.reduceEqDiff]
def ixi_st (d : D) (f : Nat) (n i : Int) : St := mkS [(0, .d d), (1, .d (.fn f [])), (7, ai n), (8, ai i)] []
theorem ixi_go {l : List Int} {f : Nat} (hl : l.length ≤ 1000000000000) (hf : ∀ x ∈ l, callX G f [iv x] = some (.d (bv false))) {i : Nat} (hi : i < l.length) : X G slices_IndexFunc_int_int_l0 (ixi_st (dg l) f (l.length : Nat) i) = some (.n, ixi_st (dg l) f (l.length : Nat) ((i + 1 : Nat) : Int)) := by
  have e1 : decide ((i : Int) < (l.length : Int)) = true := lt_t (by omega)
  have e2 : w64 ((i : Int) + 1) = ((i + 1 : Nat) : Int) := by rw [w64_id (by omega) (by omega)]; rfl
  have x1 := (Rw.dg l).ixn hi
  have x2 := fun h => ldv h l hi
  have g := hf (l.getD i 0) (by rw [List.getD_eq_getElem?_getD, List.getElem?_eq_getElem hi]; exact List.getElem_mem hi)
  generalize l.getD i 0 = x at *
  simp only [iv, bv] at g
  simp -implicitDefEqProofs (maxSteps := 10000000) only [slices_IndexFunc_int_int_l0, ixi_st, x1, x2, e1, e2, g, List.append_nil, go_sem, iv, bv, reduceCtorEq, ↓reduceIte, Nat.reduceEqDiff]
theorem ixi_stop {l : List Int} {f : Nat} : X G slices_IndexFunc_int_int_l0 (ixi_st (dg l) f (l.length : Nat) (l.length : Nat)) = some (.x 0, mkS [] []) := by
  have e1 : decide ((l.length : Int) < (l.length : Int)) = false := lt_f (by omega)
  simp -implicitDefEqProofs (maxSteps := 10000000) only [slices_IndexFunc_int_int_l0, ixi_st, e1, go_sem, iv, bv, reduceCtorEq, ↓reduceIte, Nat.reduceEqDiff]
theorem ixi_loop {l : List Int} {f : Nat} (hl : l.length ≤ 1000000000000) (hf : ∀ x ∈ l, callX G f [iv x] = some (.d (bv false))) : ∀ j i : Nat, i + j = l.length → X G (.loop slices_IndexFunc_int_int_l0) (ixi_st (dg l) f (l.length : Nat) i) = some (.x 0, mkS [] [])
  | 0, i, h => by
    have : i = l.length := by omega
    subst this
    rw [X_loop, ixi_stop]; rfl
  | j + 1, i, h => by
    rw [X_loop, ixi_go hl hf (by omega), Option.bind_some, if_pos rfl]
    exact ixi_loop hl hf j (i + 1) (by omega)
theorem cti_spec {l : List Int} {f : Nat} (hl : l.length ≤ 1000000000000) (hf : ∀ x ∈ l, callX G f [iv x] = some (.d (bv false))) : callX G n_slices_ContainsFunc_int_int [dg l, .fn f []] = some (.d (bv false)) := by
  have g : callX G n_slices_IndexFunc_int_int [dg l, .fn f []] = some (.d (iv (-1))) := by
    rw [callX_eq (cf := slices_IndexFunc_int_int) rfl]
    have h := ixi_loop hl hf l.length 0 (by omega)
    simp only [ixi_st, go_sem, nc0] at h
    simp -implicitDefEqProofs (maxSteps := 10000000) only [slices_IndexFunc_int_int, h, go_sem, iv, bv, reduceCtorEq, ↓reduceIte, Nat.reduceEqDiff]
  rw [callX_eq (cf := slices_ContainsFunc_int_int) rfl]
  have e1 : decide ((-1 : Int) ≥ 0) = false := rfl
  simp only [iv] at g
  simp -implicitDefEqProofs (maxSteps := 10000000) only [slices_ContainsFunc_int_int, g, e1, go_sem, iv, bv, reduceCtorEq, ↓reduceIte, Nat.reduceEqDiff]
theorem iValid_spec {b : Bool} {l : List Int} (hl : l.length ≤ 1000000000000) (hd : Dig l) (ht : Top l) (hb : l = [] → b = false) : callX G n_integer_Valid [.agg [.v (.bool b), dg l]] = some (.d (bv true)) := by
  rw [callX_eq (cf := integer_Valid) rfl]
  have g := cti_spec (f := n_integer_Valid_1) hl (fun x hx => V1_spec (hd x hx))
  simp only [bv] at g
  by_cases h0 : l = []
  · have hbf := hb h0
    subst h0 hbf
    have e0 : ((((([] : List Int).length : Nat) : Int)) == 0) = true := rfl
    have e0' : ((0 : Int) == 0) = true := rfl
    simp -implicitDefEqProofs (maxSteps := 10000000) only [integer_Valid, ubt, g, e0, e0', go_sem, stcells, ldcells, iv, bv, reduceCtorEq, ↓reduceIte, Nat.reduceEqDiff]
  · have hp : 0 < l.length := List.length_pos_iff.2 h0
    obtain ⟨n, hn⟩ : ∃ n, l.length = n + 1 := ⟨l.length - 1, by omega⟩
    have e1 : ((l.length : Int) == 0) = false := beq_f (by omega)
    have e2 : decide ((l.length : Int) > 0) = true := gt_t (by omega)
    have e3 : w64 ((l.length : Int) - 1) = (n : Int) := by rw [w64_id (by omega) (by omega)]; omega
    have x1 := (Rw.dg l).ixn (j := n) (by omega)
    have x2 := fun h => ldv h l (j := n) (by omega)
    have e4 : (l.getD n 0 != 0) = true := bne_t (top_getD ht hn)
    simp -implicitDefEqProofs (maxSteps := 10000000) only [integer_Valid, ubt, g, e1, e2, e3, e4, x1, x2, go_sem, stcells, ldcells, iv, bv, reduceCtorEq, ↓reduceIte, Nat.reduceEqDiff]

def v4_st (b : Bool) (l : List Int) (i : Int) : St := mkS [(1, .ptr [1] 0), (3, ai i)] [([1], bx2 b l)]
theorem v4_go {b : Bool} {l : List Int} (hl : l.length ≤ 1000000000000) (hd : Dig l) {i : Nat} (hi : i < l.length) : X G gantryref04_Valid_l0 (v4_st b l i) = some (.n, v4_st b l ((i + 1 : Nat) : Int)) := by
  have e1 : decide ((i : Int) < (l.length : Int)) = true := lt_t (by omega)
  have e2 : w64 ((i : Int) + 1) = ((i + 1 : Nat) : Int) := by rw [w64_id (by omega) (by omega)]; rfl
  have x1 := (Rw.dg l).ixn hi
  have x2 := fun h => ldv h l hi
  have hx := hd.getD i
  have e3 : decide (l.getD i 0 < 0) = false := lt_f (by omega)
  have e4 : decide (l.getD i 0 ≥ 1000000000) = false := decide_eq_false (by omega)
  simp -implicitDefEqProofs (maxSteps := 10000000) only [gantryref04_Valid_l0, v4_st, bx2, x1, x2, e1, e2, e3, e4, go_sem, stcells, ldcells, iv, bv, reduceCtorEq, ↓reduceIte, Nat.reduceEqDiff]
theorem v4_stop {b : Bool} {l : List Int} : X G gantryref04_Valid_l0 (v4_st b l (l.length : Nat)) = some (.x 0, mkS [(1, .ptr [1] 0)] [([1], bx2 b l)]) := by
  have e1 : decide ((l.length : Int) < (l.length : Int)) = false := lt_f (by omega)
  simp -implicitDefEqProofs (maxSteps := 10000000) only [gantryref04_Valid_l0, v4_st, bx2, e1, go_sem, stcells, ldcells, iv, bv, reduceCtorEq, ↓reduceIte, Nat.reduceEqDiff]
theorem v4_loop {b : Bool} {l : List Int} (hl : l.length ≤ 1000000000000) (hd : Dig l) : ∀ j i : Nat, i + j = l.length → X G (.loop gantryref04_Valid_l0) (v4_st b l i) = some (.x 0, mkS [(1, .ptr [1] 0)] [([1], bx2 b l)])
  | 0, i, h => by
    have : i = l.length := by omega
    subst this
    rw [X_loop, v4_stop]; rfl
  | j + 1, i, h => by
    rw [X_loop, v4_go hl hd (by omega), Option.bind_some, if_pos rfl]
    exact v4_loop hl hd j (i + 1) (by omega)
theorem v4_spec {b : Bool} {l : List Int} (hl : l.length ≤ 1000000000000) (hd : Dig l) (ht : Top l) (hb : l = [] → b = false) : callX G n_gantryref04_Valid [.agg [.v (.bool b), dg l]] = some (.d (bv true)) := by
  rw [callX_eq (cf := gantryref04_Valid) rfl]
  have h := v4_loop (b := b) hl hd l.length 0 (by omega)
  by_cases h0 : l = []
  · have hbf := hb h0
    subst h0 hbf
    have e0 : ((((([] : List Int).length : Nat) : Int)) == 0) = true := rfl
    have e0' : ((0 : Int) == 0) = true := rfl
    simp only [v4_st, bx2, go_sem, nc0] at h
    simp -implicitDefEqProofs (maxSteps := 10000000) only [gantryref04_Valid, h, e0, e0', go_sem, stcells, ldcells, iv, bv, reduceCtorEq, ↓reduceIte, Nat.reduceEqDiff]
  · have hp : 0 < l.length := List.length_pos_iff.2 h0
    obtain ⟨n, hn⟩ : ∃ n, l.length = n + 1 := ⟨l.length - 1, by omega⟩
    have e1 : ((l.length : Int) == 0) = false := beq_f (by omega)
    have e3 : w64 ((l.length : Int) - 1) = (n : Int) := by rw [w64_id (by omega) (by omega)]; omega
    have x1 := (Rw.dg l).ixn (j := n) (by omega)
    have x2 := fun h => ldv h l (j := n) (by omega)
    have e4 : (l.getD n 0 != 0) = true := bne_t (top_getD ht hn)
    simp only [v4_st, bx2, go_sem, nc0] at h
    simp -implicitDefEqProofs (maxSteps := 10000000) only [gantryref04_Valid, h, e1, e3, e4, x1, x2, go_sem, stcells, ldcells, iv, bv, reduceCtorEq, ↓reduceIte, Nat.reduceEqDiff]

theorem rValid_spec {a : Rat} (ha : sz a ≤ 100000000000) : callX G n_rat_Valid [encR a] = some (.d (bv true)) := by
  rw [callX_eq (cf := rat_Valid) rfl]
  obtain ⟨h1, h2, h3, h4, h5⟩ := rat_parts ha
  have g1 := iValid_spec (b := decide (a.num < 0)) h1 (digs_dig _) (digs_top _) h5
  have g2 := iValid_spec (b := false) h2 h3 h4 (fun _ => rfl)
  by_cases hd : a.den = 1
  · have e0 : dd a.den = [] := by rw [hd]; rfl
    have u := unit_spec 0 (by rw [nd_zero]; omega)
    have ez : encI 0 = .agg [.v (.bool false), .z true] := by
      rw [encI, show (0 : Int).natAbs = 0 from rfl, digs_zero]; rfl
    rw [ez, decide_eq_false (by omega)] at u
    have e1 : ((0 : Int) == 0) = true := rfl
    have e2 : dg [] = .z true := rfl
    rw [e0, e2] at g2
    unfold encR
    rw [e0, e2]
    clear h1 h2 h3 h4 h5 ha e0
    generalize digs a.num.natAbs = n at *
    generalize decide (a.num < 0) = b at *
    simp only [bv] at g1 g2 u
    simp -implicitDefEqProofs (maxSteps := 10000000) only [rat_Valid, g1, g2, u, e1, go_sem, stcells, ldcells, iv, bv, reduceCtorEq, ↓reduceIte, Nat.reduceEqDiff]
  · have e0 : dd a.den = digs a.den := dd_ne hd
    have u := unit_spec (a.den : Int) (by have := sz_den ha; omega)
    rw [decide_eq_false (by omega), encI_den] at u
    have gg := Gcd_spec (x := a.num) (y := a.den) (by have := sz_num ha; omega) (by have := sz_den ha; omega)
    have hc : Int.gcd a.num a.den = 1 := by
      have := a.reduced
      exact this
    rw [hc, encI_den] at gg
    have u1 := unit_spec 1 (by rw [nd_one]; omega)
    rw [decide_eq_true rfl] at u1
    have e1 : (((digs a.den).length : Int) == 0) = false := beq_f (by have := digs_length_pos.2 a.den_pos; omega)
    rw [e0] at g2
    unfold encR
    rw [e0]
    have gg' : callX G n_integer_Gcd [.agg [.v (.bool (decide (a.num < 0))), dg (digs a.num.natAbs)], .agg [.v (.bool false), dg (digs a.den)]] = some (.d (encI 1)) := gg
    clear h1 h2 h3 h4 h5 ha e0 gg hc
    generalize encI 1 = one at *
    generalize digs a.num.natAbs = n at *
    generalize digs a.den = m at *
    generalize decide (a.num < 0) = b at *
    simp only [bv] at g1 g2 u u1
    simp -implicitDefEqProofs (maxSteps := 10000000) only [rat_Valid, g1, g2, u, u1, gg', e1, go_sem, stcells, ldcells, iv, bv, reduceCtorEq, ↓reduceIte, Nat.reduceEqDiff]
theorem rone_zero : callX G n_gantryref05_one [.agg [.v (.bool false), .z true]] = some (.d (bv false)) := by
  rw [callX_eq (cf := gantryref05_one) rfl]
  have e1 : ((0 : Int) != 1) = true := rfl
  simp -implicitDefEqProofs (maxSteps := 10000000) only [gantryref05_one, e1, go_sem, stcells, ldcells, iv, bv, reduceCtorEq, ↓reduceIte, Nat.reduceEqDiff]
theorem r5Valid_spec {a : Rat} (ha : sz a ≤ 100000000000) : callX G n_gantryref05_Valid [encR a] = some (.d (bv true)) := by
  rw [callX_eq (cf := gantryref05_Valid) rfl]
  obtain ⟨h1, h2, h3, h4, h5⟩ := rat_parts ha
  have g1 := v4_spec (b := decide (a.num < 0)) h1 (digs_dig _) (digs_top _) h5
  have g2 := v4_spec (b := false) h2 h3 h4 (fun _ => rfl)
  by_cases hd : a.den = 1
  · have e0 : dd a.den = [] := by rw [hd]; rfl
    have u := rone_zero
    have e1 : ((0 : Int) == 0) = true := rfl
    have e2 : dg [] = .z true := rfl
    rw [e0, e2] at g2
    unfold encR
    rw [e0, e2]
    clear h1 h2 h3 h4 h5 ha e0
    generalize digs a.num.natAbs = n at *
    generalize decide (a.num < 0) = b at *
    simp only [bv] at g1 g2 u
    simp -implicitDefEqProofs (maxSteps := 10000000) only [gantryref05_Valid, g1, g2, u, e1, go_sem, stcells, ldcells, iv, bv, reduceCtorEq, ↓reduceIte, Nat.reduceEqDiff]
  · have e0 : dd a.den = digs a.den := dd_ne hd
    have hpos := a.den_pos
    have u := rone_spec (a.den : Int) (by have := sz_den ha; omega) (by omega)
    rw [decide_eq_false (by omega), encI_den] at u
    have gg := rGcd_spec (x := a.num) (y := a.den) (by have := sz_num ha; omega) (by have := sz_den ha; omega)
    have hc : Int.gcd a.num a.den = 1 := by
      have := a.reduced
      exact this
    rw [hc, encI_den] at gg
    have u1 := rone_spec 1 (by rw [nd_one]; omega) (by omega)
    rw [decide_eq_true rfl] at u1
    have e1 : (((digs a.den).length : Int) == 0) = false := beq_f (by have := digs_length_pos.2 a.den_pos; omega)
    rw [e0] at g2
    unfold encR
    rw [e0]
    have gg' : callX G n_gantryref04_Gcd [.agg [.v (.bool (decide (a.num < 0))), dg (digs a.num.natAbs)], .agg [.v (.bool false), dg (digs a.den)]] = some (.d (encI 1)) := gg
    clear h1 h2 h3 h4 h5 ha e0 gg hc hpos
    generalize encI 1 = one at *
    generalize digs a.num.natAbs = n at *
    generalize digs a.den = m at *
    generalize decide (a.num < 0) = b at *
    simp only [bv] at g1 g2 u u1
    simp -implicitDefEqProofs (maxSteps := 10000000) only [gantryref05_Valid, g1, g2, u, u1, gg', e1, go_sem, stcells, ldcells, iv, bv, reduceCtorEq, ↓reduceIte, Nat.reduceEqDiff]
end Go.AM

/- poly.Valid, ref06.Valid, poly.Degree. -/
namespace Go.AM
open Go Go.RowKit

theorem dR_nil' : dR [] = .z true := rfl
theorem dR_ne' {l : List Rat} (h : l ≠ []) : dR l = .row l.length (cRs l) := if_neg h
theorem elt_R {l : List Rat} {i : Nat} (hi : i < l.length) : D.agg (((cRs l).drop (i * 4)).take 4) = encR (l.getD i 0) := by
  have e : l.drop i = l.getD i 0 :: l.drop (i + 1) := by
    rw [List.drop_eq_getElem_cons hi, List.getD_eq_getElem?_getD, List.getElem?_eq_getElem hi]; rfl
  rw [cRs_drop, e]; rfl
/-- One more element, of any cells. -/
theorem elt_app {l : List Rat} {bad : List D} {i : Nat} (hi : i < l.length) : D.agg (((cRs l ++ bad).drop (i * 4)).take 4) = encR (l.getD i 0) := by
  rw [← elt_R hi, List.drop_append_of_le_length (by rw [cRs_length]; omega), List.take_append_of_le_length (by rw [List.length_drop, cRs_length]; omega)]
theorem elt_last {l : List Rat} {bad : List D} (hb : bad.length = 4) : D.agg (((cRs l ++ bad).drop (l.length * 4)).take 4) = .agg bad := by
  have e : (cRs l ++ bad).drop (l.length * 4) = bad := by
    rw [← cRs_length l]; exact List.drop_left
  rw [e, List.take_of_length_le (by omega)]
theorem rw4_R (l : List Rat) : Rw4 (rowR l) l.length (cRs l) := .inr ⟨rfl, cRs_length l⟩
/-- The first one, if any. -/
def fst? (t : Nat → Bool) (i n : Nat) : Int := match (List.range' i (n - i)).find? t with
  | some k => k
  | none => -1
def vB (l : List Rat) : Bool := decide (l = []) || decide (l.getD (l.length - 1) 0 ≠ 0)
theorem vB_trm {l : List Rat} (h : Trm l) : vB l = true := by
  unfold vB
  by_cases h0 : l = []
  · rw [decide_eq_true h0]; rfl
  · have hp : 0 < l.length := List.length_pos_iff.2 h0
    rw [decide_eq_true (h (l.length - 1) (by omega)), Bool.or_true]
theorem sgn_ne (q : Rat) : (Int.sign q.num != 0) = decide (q ≠ 0) := by
  rw [bne, sgn0]
  by_cases h : q = 0
  · rw [decide_eq_true h, decide_eq_false (by simpa using h)]; rfl
  · rw [decide_eq_false h, decide_eq_true h]; rfl
variable [Its]

section
variable {d : D} {n : Nat} {cs : List D} {f : Nat} {t : Nat → Bool}
def ix4_st (d : D) (f : Nat) (n i : Int) : St := mkS [(0, .d d), (1, .d (.fn f [])), (7, ai n), (8, ai i)] []
theorem ix4_no (hr : Rw4 d n cs) (hn : n ≤ 1000000000000) {i : Nat} (hi : i < n) (hf : callX G f [.agg ((cs.drop (i * 4)).take 4)] = some (.d (bv false))) : X G slices_IndexFunc_api_Poly_api_Rat_l0 (ix4_st d f n i) = some (.n, ix4_st d f n ((i + 1 : Nat) : Int)) := by
  have e1 : decide ((i : Int) < (n : Int)) = true := lt_t (by omega)
  have e2 : w64 ((i : Int) + 1) = ((i + 1 : Nat) : Int) := by rw [w64_id (by omega) (by omega)]; rfl
  have x1 := hr.ixa hi
  have x2 := hr.ld hi
  generalize (cs.drop (i * 4)).take 4 = c4 at *
  generalize cs.drop (i * 4) = c at *
  simp only [bv] at hf
  simp -implicitDefEqProofs (maxSteps := 10000000) only [slices_IndexFunc_api_Poly_api_Rat_l0, ix4_st, x1, x2, e1, e2, hf, List.append_nil, go_sem, iv, bv, reduceCtorEq, ↓reduceIte, Nat.reduceEqDiff]
theorem ix4_yes (hr : Rw4 d n cs) (hn : n ≤ 1000000000000) {i : Nat} (hi : i < n) (hf : callX G f [.agg ((cs.drop (i * 4)).take 4)] = some (.d (bv true))) : X G slices_IndexFunc_api_Poly_api_Rat_l0 (ix4_st d f n i) = some (.r, mkS [(4, ai i)] []) := by
  have e1 : decide ((i : Int) < (n : Int)) = true := lt_t (by omega)
  have x1 := hr.ixa hi
  have x2 := hr.ld hi
  generalize (cs.drop (i * 4)).take 4 = c4 at *
  generalize cs.drop (i * 4) = c at *
  simp only [bv] at hf
  simp -implicitDefEqProofs (maxSteps := 10000000) only [slices_IndexFunc_api_Poly_api_Rat_l0, ix4_st, x1, x2, e1, hf, List.append_nil, go_sem, iv, bv, reduceCtorEq, ↓reduceIte, Nat.reduceEqDiff]
theorem ix4_stop : X G slices_IndexFunc_api_Poly_api_Rat_l0 (ix4_st d f n n) = some (.x 0, mkS [] []) := by
  have e1 : decide ((n : Int) < (n : Int)) = false := lt_f (by omega)
  simp -implicitDefEqProofs (maxSteps := 10000000) only [slices_IndexFunc_api_Poly_api_Rat_l0, ix4_st, e1, go_sem, iv, bv, reduceCtorEq, ↓reduceIte, Nat.reduceEqDiff]
theorem ix4_none (hr : Rw4 d n cs) (hn : n ≤ 1000000000000) (hf : ∀ i, i < n → callX G f [.agg ((cs.drop (i * 4)).take 4)] = some (.d (bv false))) : ∀ j i : Nat, i + j = n → X G (.loop slices_IndexFunc_api_Poly_api_Rat_l0) (ix4_st d f n i) = some (.x 0, mkS [] [])
  | 0, i, h => by
    have : i = n := by omega
    subst this
    rw [X_loop, ix4_stop]; rfl
  | j + 1, i, h => by
    rw [X_loop, ix4_no hr hn (by omega) (hf i (by omega)), Option.bind_some, if_pos rfl]
    exact ix4_none hr hn hf j (i + 1) (by omega)
theorem ix4_some (hr : Rw4 d n cs) (hn : n ≤ 1000000000000) {m : Nat} (hm : m < n) (hf : ∀ i, i < m → callX G f [.agg ((cs.drop (i * 4)).take 4)] = some (.d (bv false))) (hy : callX G f [.agg ((cs.drop (m * 4)).take 4)] = some (.d (bv true))) : ∀ j i : Nat, i + j = m → X G (.loop slices_IndexFunc_api_Poly_api_Rat_l0) (ix4_st d f n i) = some (.r, mkS [(4, ai m)] [])
  | 0, i, h => by
    have : i = m := by omega
    subst this
    rw [X_loop, ix4_yes hr hn hm hy]; rfl
  | j + 1, i, h => by
    rw [X_loop, ix4_no hr hn (by omega) (hf i (by omega)), Option.bind_some, if_pos rfl]
    exact ix4_some hr hn hm hf hy j (i + 1) (by omega)
theorem ct4_none (hr : Rw4 d n cs) (hn : n ≤ 1000000000000) (hf : ∀ i, i < n → callX G f [.agg ((cs.drop (i * 4)).take 4)] = some (.d (bv false))) : callX G n_slices_ContainsFunc_api_Poly_api_Rat [d, .fn f []] = some (.d (bv false)) := by
  have ll := hr.len
  have g : callX G n_slices_IndexFunc_api_Poly_api_Rat [d, .fn f []] = some (.d (iv (-1))) := by
    rw [callX_eq (cf := slices_IndexFunc_api_Poly_api_Rat) rfl]
    have h := ix4_none hr hn hf n 0 (by omega)
    simp only [ix4_st, go_sem, nc0] at h
    simp -implicitDefEqProofs (maxSteps := 10000000) only [slices_IndexFunc_api_Poly_api_Rat, h, ll, go_sem, iv, bv, reduceCtorEq, ↓reduceIte, Nat.reduceEqDiff]
  rw [callX_eq (cf := slices_ContainsFunc_api_Poly_api_Rat) rfl]
  have e1 : decide ((-1 : Int) ≥ 0) = false := rfl
  simp only [iv] at g
  simp -implicitDefEqProofs (maxSteps := 10000000) only [slices_ContainsFunc_api_Poly_api_Rat, g, e1, go_sem, iv, bv, reduceCtorEq, ↓reduceIte, Nat.reduceEqDiff]
theorem ct4_some (hr : Rw4 d n cs) (hn : n ≤ 1000000000000) {m : Nat} (hm : m < n) (hf : ∀ i, i < m → callX G f [.agg ((cs.drop (i * 4)).take 4)] = some (.d (bv false))) (hy : callX G f [.agg ((cs.drop (m * 4)).take 4)] = some (.d (bv true))) : callX G n_slices_ContainsFunc_api_Poly_api_Rat [d, .fn f []] = some (.d (bv true)) := by
  have ll := hr.len
  have g : callX G n_slices_IndexFunc_api_Poly_api_Rat [d, .fn f []] = some (.d (iv m)) := by
    rw [callX_eq (cf := slices_IndexFunc_api_Poly_api_Rat) rfl]
    have h := ix4_some hr hn hm hf hy m 0 (by omega)
    simp only [ix4_st, go_sem, nc0] at h
    simp -implicitDefEqProofs (maxSteps := 10000000) only [slices_IndexFunc_api_Poly_api_Rat, h, ll, go_sem, iv, bv, reduceCtorEq, ↓reduceIte, Nat.reduceEqDiff]
  rw [callX_eq (cf := slices_ContainsFunc_api_Poly_api_Rat) rfl]
  have e1 : decide ((m : Int) ≥ 0) = true := decide_eq_true (by omega)
  simp only [iv] at g
  simp -implicitDefEqProofs (maxSteps := 10000000) only [slices_ContainsFunc_api_Poly_api_Rat, g, e1, go_sem, iv, bv, reduceCtorEq, ↓reduceIte, Nat.reduceEqDiff]
end
theorem pV1_spec {x : D} {b : Bool} {c1 c2 c3 c4 : D} (hx : x = .agg [c1, c2, c3, c4]) (h1 : c1.one = true ∧ c2.one = true ∧ c3.one = true ∧ c4.one = true) (g : callX G n_rat_Valid [x] = some (.d (bv b))) : callX G n_poly_Valid_1 [x] = some (.d (bv (!b))) := by
  rw [callX_eq (cf := poly_Valid_1) rfl]
  subst hx
  obtain ⟨o1, o2, o3, o4⟩ := h1
  have p1 : A.one (.d c1) = true := o1
  have p2 : A.one (.d c2) = true := o2
  have p3 : A.one (.d c3) = true := o3
  have p4 : A.one (.d c4) = true := o4
  simp only [bv] at g
  simp -implicitDefEqProofs (maxSteps := 10000000) only [poly_Valid_1, g, p1, p2, p3, p4, go_sem, stcells, ldcells, iv, bv, reduceCtorEq, ↓reduceIte, Nat.reduceEqDiff]
theorem pV1_R {a : Rat} (ha : sz a ≤ 100000000000) : callX G n_poly_Valid_1 [encR a] = some (.d (bv false)) :=
  pV1_spec (b := true) rfl ⟨rfl, dgone _, rfl, dgone _⟩ (rValid_spec ha)
theorem pValid_spec {d : D} {l : List Rat} (hr : RwR d l) (sl : SzL 100000000000 l) (hl : l.length ≤ 1000000000000) : callX G n_poly_Valid [d] = some (.d (bv (vB l))) := by
  rw [callX_eq (cf := poly_Valid) rfl]
  have ll := hr.len
  have hc := ct4_none (f := n_poly_Valid_1) hr.four hl (fun i hi => by rw [elt_R hi]; exact pV1_R (sl.getD (by omega) i))
  simp only [bv] at hc
  unfold vB
  by_cases h0 : l = []
  · subst h0
    have e0 : ((0 : Int) == 0) = true := rfl
    simp only [List.length_nil] at ll
    simp -implicitDefEqProofs (maxSteps := 10000000) only [poly_Valid, ubt, hc, ll, e0, go_sem, iv, bv, reduceCtorEq, ↓reduceIte, Nat.reduceEqDiff]
  · have hp : 0 < l.length := List.length_pos_iff.2 h0
    have e1 : ((l.length : Int) == 0) = false := beq_f (by omega)
    have e2 : w64 ((l.length : Int) - 1) = ((l.length - 1 : Nat) : Int) := by rw [w64_id (by omega) (by omega)]; omega
    have x1 := hr.ixa (j := l.length - 1) (by omega)
    have x2 := fun h => ldR h l (j := l.length - 1) (by omega)
    have g := ratSign_spec (l.getD (l.length - 1) 0)
    have e3 := sgn_ne (l.getD (l.length - 1) 0)
    rw [decide_eq_false h0, Bool.false_or]
    clear h0 hr sl
    generalize decide (l.getD (l.length - 1) 0 ≠ 0) = b at *
    generalize l.getD (l.length - 1) 0 = q at *
    generalize ((l.length - 1 : Nat) : Int) = z at *
    generalize cRs (l.drop (l.length - 1)) = cs at *
    simp only [encR, iv] at x2 g
    simp -implicitDefEqProofs (maxSteps := 10000000) only [poly_Valid, ubt, hc, ll, e1, e2, e3, x1, x2, g, go_sem, iv, bv, reduceCtorEq, ↓reduceIte, Nat.reduceEqDiff]
theorem pValid_bad {d : D} {n : Nat} {cs : List D} (hr : Rw4 d n cs) (hn : n ≤ 1000000000000) {m : Nat} (hm : m < n) (hf : ∀ i, i < m → callX G n_poly_Valid_1 [.agg ((cs.drop (i * 4)).take 4)] = some (.d (bv false))) (hy : callX G n_poly_Valid_1 [.agg ((cs.drop (m * 4)).take 4)] = some (.d (bv true))) : callX G n_poly_Valid [d] = some (.d (bv false)) := by
  rw [callX_eq (cf := poly_Valid) rfl]
  have ll := hr.len
  have hc := ct4_some hr hn hm hf hy
  simp only [bv] at hc
  simp -implicitDefEqProofs (maxSteps := 10000000) only [poly_Valid, ubt, hc, ll, go_sem, iv, bv, reduceCtorEq, ↓reduceIte, Nat.reduceEqDiff]
theorem pDegree_spec {d : D} {l : List Rat} (hr : RwR d l) (hl : l.length ≤ 1000000000000) : callX G n_poly_Degree [d] = some (.d (iv ((l.length : Int) - 1))) := by
  rw [callX_eq (cf := poly_Degree) rfl]
  have ll := hr.len
  have e1 : w64 ((l.length : Int) - 1) = (l.length : Int) - 1 := w64_id (by omega) (by omega)
  simp -implicitDefEqProofs (maxSteps := 10000000) only [poly_Degree, ll, e1, go_sem, iv, bv, reduceCtorEq, ↓reduceIte, Nat.reduceEqDiff]

/-! ### ref06.Valid -/
section
variable {d : D} {n : Nat} {cs : List D}
def v6_st (d : D) (i : Int) : St := mkS [(0, .d d), (3, ai i)] []
theorem v6_go (hr : Rw4 d n cs) (hn : n ≤ 1000000000000) {i : Nat} (hi : i < n) (hf : callX G n_gantryref05_Valid [.agg ((cs.drop (i * 4)).take 4)] = some (.d (bv true))) : X G gantryref06_Valid_l0 (v6_st d i) = some (.n, v6_st d ((i + 1 : Nat) : Int)) := by
  have e1 : decide ((i : Int) < (n : Int)) = true := lt_t (by omega)
  have e2 : w64 ((i : Int) + 1) = ((i + 1 : Nat) : Int) := by rw [w64_id (by omega) (by omega)]; rfl
  have ll := hr.len
  have x1 := hr.ixa hi
  have x2 := hr.ld hi
  generalize (cs.drop (i * 4)).take 4 = c4 at *
  generalize cs.drop (i * 4) = c at *
  simp only [bv] at hf
  simp -implicitDefEqProofs (maxSteps := 10000000) only [gantryref06_Valid_l0, v6_st, ll, x1, x2, e1, e2, hf, go_sem, iv, bv, reduceCtorEq, ↓reduceIte, Nat.reduceEqDiff]
theorem v6_bad (hr : Rw4 d n cs) (hn : n ≤ 1000000000000) {i : Nat} (hi : i < n) (hf : callX G n_gantryref05_Valid [.agg ((cs.drop (i * 4)).take 4)] = some (.d (bv false))) : X G gantryref06_Valid_l0 (v6_st d i) = some (.r, mkS [(2, ab false)] []) := by
  have e1 : decide ((i : Int) < (n : Int)) = true := lt_t (by omega)
  have ll := hr.len
  have x1 := hr.ixa hi
  have x2 := hr.ld hi
  generalize (cs.drop (i * 4)).take 4 = c4 at *
  generalize cs.drop (i * 4) = c at *
  simp only [bv] at hf
  simp -implicitDefEqProofs (maxSteps := 10000000) only [gantryref06_Valid_l0, v6_st, ll, x1, x2, e1, hf, go_sem, iv, bv, reduceCtorEq, ↓reduceIte, Nat.reduceEqDiff]
theorem v6_stop (hr : Rw4 d n cs) : X G gantryref06_Valid_l0 (v6_st d n) = some (.x 0, mkS [(0, .d d)] []) := by
  have e1 : decide ((n : Int) < (n : Int)) = false := lt_f (by omega)
  have ll := hr.len
  simp -implicitDefEqProofs (maxSteps := 10000000) only [gantryref06_Valid_l0, v6_st, ll, e1, go_sem, iv, bv, reduceCtorEq, ↓reduceIte, Nat.reduceEqDiff]
theorem v6_all (hr : Rw4 d n cs) (hn : n ≤ 1000000000000) (hf : ∀ i, i < n → callX G n_gantryref05_Valid [.agg ((cs.drop (i * 4)).take 4)] = some (.d (bv true))) : ∀ j i : Nat, i + j = n → X G (.loop gantryref06_Valid_l0) (v6_st d i) = some (.x 0, mkS [(0, .d d)] [])
  | 0, i, h => by
    have : i = n := by omega
    subst this
    rw [X_loop, v6_stop hr]; rfl
  | j + 1, i, h => by
    rw [X_loop, v6_go hr hn (by omega) (hf i (by omega)), Option.bind_some, if_pos rfl]
    exact v6_all hr hn hf j (i + 1) (by omega)
theorem v6_some (hr : Rw4 d n cs) (hn : n ≤ 1000000000000) {m : Nat} (hm : m < n) (hf : ∀ i, i < m → callX G n_gantryref05_Valid [.agg ((cs.drop (i * 4)).take 4)] = some (.d (bv true))) (hy : callX G n_gantryref05_Valid [.agg ((cs.drop (m * 4)).take 4)] = some (.d (bv false))) : ∀ j i : Nat, i + j = m → X G (.loop gantryref06_Valid_l0) (v6_st d i) = some (.r, mkS [(2, ab false)] [])
  | 0, i, h => by
    have : i = m := by omega
    subst this
    rw [X_loop, v6_bad hr hn hm hy]; rfl
  | j + 1, i, h => by
    rw [X_loop, v6_go hr hn (by omega) (hf i (by omega)), Option.bind_some, if_pos rfl]
    exact v6_some hr hn hm hf hy j (i + 1) (by omega)
theorem r6Valid_bad (hr : Rw4 d n cs) (hn : n ≤ 1000000000000) {m : Nat} (hm : m < n) (hf : ∀ i, i < m → callX G n_gantryref05_Valid [.agg ((cs.drop (i * 4)).take 4)] = some (.d (bv true))) (hy : callX G n_gantryref05_Valid [.agg ((cs.drop (m * 4)).take 4)] = some (.d (bv false))) : callX G n_gantryref06_Valid [d] = some (.d (bv false)) := by
  rw [callX_eq (cf := gantryref06_Valid) rfl]
  have h := v6_some hr hn hm hf hy m 0 (by omega)
  simp only [v6_st, go_sem, nc0] at h
  simp -implicitDefEqProofs (maxSteps := 10000000) only [gantryref06_Valid, h, go_sem, iv, bv, reduceCtorEq, ↓reduceIte, Nat.reduceEqDiff]
end
theorem r6Valid_spec {d : D} {l : List Rat} (hr : RwR d l) (sl : SzL 100000000000 l) (hl : l.length ≤ 1000000000000) : callX G n_gantryref06_Valid [d] = some (.d (bv (vB l))) := by
  rw [callX_eq (cf := gantryref06_Valid) rfl]
  have ll := hr.len
  have h := v6_all hr.four hl (fun i hi => by rw [elt_R hi]; exact r5Valid_spec (sl.getD (by omega) i)) l.length 0 (by omega)
  simp only [v6_st, go_sem, nc0] at h
  unfold vB
  by_cases h0 : l = []
  · subst h0
    have e0 : ((0 : Int) == 0) = true := rfl
    simp only [List.length_nil] at ll
    simp -implicitDefEqProofs (maxSteps := 10000000) only [gantryref06_Valid, h, ll, e0, go_sem, iv, bv, reduceCtorEq, ↓reduceIte, Nat.reduceEqDiff]
  · have hp : 0 < l.length := List.length_pos_iff.2 h0
    have e1 : ((l.length : Int) == 0) = false := beq_f (by omega)
    have e2 : w64 ((l.length : Int) - 1) = ((l.length - 1 : Nat) : Int) := by rw [w64_id (by omega) (by omega)]; omega
    have e6 : (if (0 : Int) > ((l.length - 1 : Nat) : Int) then (0 : Int) else ((l.length - 1 : Nat) : Int)) = ((l.length - 1 : Nat) : Int) := if_neg (by omega)
    have x1 := hr.ixa (j := l.length - 1) (by omega)
    have x2 := fun h => ldR h l (j := l.length - 1) (by omega)
    have g := rratSign_spec (a := l.getD (l.length - 1) 0) (sl.getD (by omega) _)
    have e3 := sgn_ne (l.getD (l.length - 1) 0)
    rw [decide_eq_false h0, Bool.false_or]
    clear h0 hr sl
    generalize decide (l.getD (l.length - 1) 0 ≠ 0) = b at *
    generalize l.getD (l.length - 1) 0 = q at *
    generalize ((l.length - 1 : Nat) : Int) = z at *
    generalize cRs (l.drop (l.length - 1)) = cs at *
    simp only [encR, iv] at x2 g
    simp -implicitDefEqProofs (maxSteps := 10000000) only [gantryref06_Valid, h, foldV, mxV, ll, e1, e2, e3, e6, x1, x2, g, go_sem, iv, bv, reduceCtorEq, ↓reduceIte, Nat.reduceEqDiff]
end Go.AM

/- Small helps for the laws of ref06.Poly's polynomials. -/
namespace Go.AM
open Go Go.RowKit Go.Proofs
theorem H1.add {d1 h1 d2 h2 : Nat} {a b : Rat} (H : H1 d1 h1 a) (H' : H1 d2 h2 b) : H1 (d1 + d2) (max (h1 + d2) (h2 + d1) + 1) (a + b) := by
  obtain ⟨D, a1, a2, a3⟩ := H
  obtain ⟨E, b1, b2, b3⟩ := H'
  refine ⟨D * E, Nat.mul_pos a1 b1, mul_BB a2 b2, ((a3.lift E).add (b3.lift' D)).le (two_BB ?_ ?_)⟩
  · exact Nat.le_trans (mul_BB (Nat.le_refl _) b2) (BB_mono (by omega))
  · exact Nat.le_trans (mul_BB a2 (Nat.le_refl _)) (BB_mono (by omega))
theorem HL.szK {d h : Nat} {l : List Rat} (H : HL d h l) (hd : d ≤ 9999) (hh : h ≤ 9999) : SzL 10000 l := H.sz.mono (by omega)
theorem HL.szB {d h : Nat} {l : List Rat} (H : HL d h l) (hd : d ≤ 9999) (hh : h ≤ 9999) : SzL 100000000000 l := H.sz.mono (by omega)
variable [Its]
theorem addP {d d2 : D} {l m : List Rat} (h1 : RwR d l) (h2 : RwR d2 m) (s1 : SzL 10000 l) (s2 : SzL 10000 m) (n1 : l.length ≤ 1000) (n2 : m.length ≤ 1000) : ∃ d', RwR d' (adP l m) ∧ callX G n_poly_Add [d, d2] = some (.d d') :=
  Add_spec_P h1 h2 s1 s2 (by omega) (by omega) (by omega) (by omega)
theorem mulP {d d2 : D} {l m : List Rat} (h1 : RwR d l) (h2 : RwR d2 m) (s1 : SzL 10000 l) (s2 : SzL 10000 m) (n1 : l.length ≤ 1000) (n2 : m.length ≤ 1000) : ∃ d', RwR d' (muP l m) ∧ callX G n_poly_Mul [d, d2] = some (.d d') :=
  Mul_spec_P h1 h2 s1 s2 (by omega) (Nat.le_trans (Nat.mul_le_mul_right (2 * 10000 + 1) (show l.length + m.length ≤ 2000 by omega)) (by decide))
theorem evalP [ItsB] {d : D} {l : List Rat} {x : Rat} (h1 : RwR d l) (s1 : SzL 10000 l) (n1 : l.length ≤ 1000) (hx : sz x ≤ 10000) : callX G n_poly_Eval [d, encR x] = some (.d (encR (evR l x))) ∧ sz (evR l x) ≤ 100000000 := by
  have hb := Nat.mul_le_mul_right (2 * 10000 + 1) n1
  refine ⟨Eval_spec h1 hx (by omega) s1 (Nat.le_trans hb (by decide)), ?_⟩
  exact Nat.le_trans (evR_sz (K := 10000) hx l s1) (Nat.le_trans (Nat.add_le_add_right hb 1) (by decide))
end Go.AM

namespace Go.AM
open Go Go.RowKit Go.Proofs

theorem trim_zeros {p : List Rat} (tp : Trm p) (k : Nat) : trimR (p ++ List.replicate k 0) = p :=
  trm_ext (trm_trim _) tp fun i => by
    rw [getD_trim]
    by_cases h : i < p.length
    · rw [List.getD_eq_getElem?_getD, List.getElem?_append_left h, ← List.getD_eq_getElem?_getD]
    · rw [getD_out (l := p) (by omega), List.getD_eq_getElem?_getD, List.getElem?_append_right (by omega)]
      by_cases h2 : i - p.length < k
      · rw [List.getElem?_replicate, if_pos h2]; rfl
      · rw [List.getElem?_eq_none (by simp; omega)]; rfl
theorem one_r1 (n : Nat) (cs : List D) : (D.row n cs).one = true := rfl
theorem ff_ : (false == false) = true := rfl
theorem refsL_app (ks : List Key) : ∀ a b : List A, refsL ks (a ++ b) = (refsL ks a && refsL ks b)
  | [], b => by rw [List.nil_append, refsL, Bool.true_and]
  | x :: a, b => by rw [List.cons_append, refsL, refsL, refsL_app ks a b, Bool.and_assoc]
theorem one_z1 (b : Bool) : (D.z b).one = true := rfl
def pk_H (p : List Rat) (k : Nat) : Hp := if p = [] then hupdO (hpL (gH4 24 (List.replicate k 0))) [14] none else hpL [([14], arrR (p.length + k) (p ++ List.replicate k 0))]
def pk_A (p : List Rat) (k : Nat) : A := if p = [] then gA4 24 (List.replicate k 0) else .own [14] (p.length + k)
def pk_st (dp : D) (p : List Rat) (z i : Int) (k : Nat) : St := ⟨frL [(1, ai z), (5, .d dp), (6, pk_A p k), (7, ai i)], pk_H p k, []⟩
def pk_en (dp : D) (p : List Rat) (k : Nat) : St := ⟨frL [(5, .d dp), (6, pk_A p k)], pk_H p k, []⟩
theorem rep_snoc (k : Nat) : List.replicate (k + 1) (0 : Rat) = List.replicate k 0 ++ [0] := List.replicate_succ'
theorem rep_one0 : List.replicate 1 (0 : Rat) = [0] := rfl
theorem zero_cells : cA [0] = [.d (.v (.bool false)), .d (.z true), .d (.v (.bool false)), .d (.z true)] := by
  have ez : decide ((0 : Rat).num < 0) = false := rfl
  have ez2 : dg (digs (0 : Rat).num.natAbs) = .z true := by rw [Rat.zero_num, show (0 : Int).natAbs = 0 from rfl, digs_zero]; rfl
  have ez3 : dg (dd (0 : Rat).den) = .z true := rfl
  rw [cA_one, ez, ez2, ez3]
theorem snoc_zero (l : List Rat) : cA l ++ [.d (.v (.bool false)), .d (.z true), .d (.v (.bool false)), .d (.z true)] = cA (l ++ [0]) := by
  rw [← zero_cells, cA, cA, cA, cRs_append, List.map_append]
theorem pk_go {dp : D} {p : List Rat} {z m : Int} {k : Nat} (gz : callX G n_gantryref01_Around [iv z, iv 3] = some (.d (iv m))) (hk : (k : Int) < m) (hm : m < 3) (np : p.length ≤ 1000) : X G gantrylaw06_PolyMakes_l0 (pk_st dp p z k k) = some (.n, pk_st dp p z ((k + 1 : Nat) : Int) (k + 1)) := by
  have e1 : decide ((k : Int) < m) = true := lt_t hk
  have e2 : w64 ((k : Int) + 1) = ((k + 1 : Nat) : Int) := by rw [w64_id (by omega) (by omega)]; rfl
  have hb : (64 ≤ bound) = True := eq_true (by unfold bound; omega)
  have hb1 : (1 * 64 ≤ bound) = True := eq_true (by unfold bound; omega)
  simp only [iv] at gz
  by_cases h0 : p = []
  · have a1 : ∀ j, pk_A p j = gA4 24 (List.replicate j 0) := fun j => if_pos h0
    have a2 : ∀ j, pk_H p j = hupdO (hpL (gH4 24 (List.replicate j 0))) [14] none := fun j => if_pos h0
    by_cases hk0 : k = 0
    · subst hk0
      have r0 : List.replicate 0 (0 : Rat) = [] := rfl
      have r1 : List.replicate (0 + 1) (0 : Rat) = [0] := rfl
      have e1' : decide ((0 : Int) < m) = true := e1
      have e2' : w64 (0 + 1) = 1 := w64_id (by omega) (by omega)
      have e3' : ((1 : Nat) : Int) = 1 := rfl
      simp -implicitDefEqProofs (maxSteps := 10000000) only [gantrylaw06_PolyMakes_l0, pk_st, a1, a2, r0, r1, e1', e2', e3', gA4_nil, gH4_nil, gA4_one, gH4_one, zero_cells, hupdO_none, rep1c, srcS, src, one_b, one_z1, allD, hb, hb1, List.length_cons, List.length_nil, Nat.zero_add, List.map_cons, List.map_nil, go_sem, iv, bv, e1, e2, gz, reduceCtorEq, ↓reduceIte, Nat.reduceEqDiff]
    · have hne : List.replicate k (0 : Rat) ≠ [] := by cases k with | zero => exact absurd rfl hk0 | succ n => simp [List.replicate_succ]
      have n3 : (cA (List.replicate k (0 : Rat))).length = (List.replicate k (0 : Rat)).length * 4 := cA_length _
      have n4 : (((List.replicate k (0 : Rat)).length + 1) * 64 ≤ bound) = True := eq_true (by rw [List.length_replicate]; unfold bound; omega)
      simp -implicitDefEqProofs (maxSteps := 10000000) only [gantrylaw06_PolyMakes_l0, pk_st, a1, a2, rep_snoc, gA4_ne hne, gH4_ne hne, gA4_snoc, gH4_snoc, snoc_zero, n3, n4, refsL_cA, hupdO_none, rep1c, srcS, src, one_b, one_z1, allD, List.length_cons, List.length_nil, Nat.zero_add, List.map_cons, List.map_nil, go_sem, iv, bv, e1, e2, gz, reduceCtorEq, ↓reduceIte, Nat.reduceEqDiff]
  · have a1 : ∀ j, pk_A p j = .own [14] (p.length + j) := fun j => if_neg h0
    have a2 : ∀ j, pk_H p j = hpL [([14], arrR (p.length + j) (p ++ List.replicate j 0))] := fun j => if_neg h0
    have n3 : (cA (p ++ List.replicate k (0 : Rat))).length = (p.length + k) * 4 := by rw [cA_length, List.length_append, List.length_replicate]
    have n4 : ((p.length + k + 1) * 64 ≤ bound) = True := eq_true (by unfold bound; omega)
    have n5 : p ++ (List.replicate k (0 : Rat) ++ [0]) = (p ++ List.replicate k 0) ++ [0] := (List.append_assoc ..).symm
    have n6 : p.length + (k + 1) = p.length + k + 1 := rfl
    simp -implicitDefEqProofs (maxSteps := 10000000) only [gantrylaw06_PolyMakes_l0, pk_st, a1, a2, rep_snoc, n5, n6, snoc_zero, n3, n4, refsL_cA, hupdO_none, rep1c, srcS, src, one_b, one_z1, allD, List.length_cons, List.length_nil, Nat.zero_add, List.map_cons, List.map_nil, go_sem, iv, bv, e1, e2, gz, reduceCtorEq, ↓reduceIte, Nat.reduceEqDiff]
theorem pk_stop {dp : D} {p : List Rat} {z m : Int} {k : Nat} (gz : callX G n_gantryref01_Around [iv z, iv 3] = some (.d (iv m))) (hk : (k : Int) = m) : X G gantrylaw06_PolyMakes_l0 (pk_st dp p z k k) = some (.x 0, pk_en dp p k) := by
  have e1 : decide ((k : Int) < m) = false := lt_f (by omega)
  simp only [iv] at gz
  by_cases h0 : p = []
  · have a1 : ∀ j, pk_A p j = gA4 24 (List.replicate j 0) := fun j => if_pos h0
    have a2 : ∀ j, pk_H p j = hupdO (hpL (gH4 24 (List.replicate j 0))) [14] none := fun j => if_pos h0
    by_cases hr : List.replicate k (0 : Rat) = []
    · simp -implicitDefEqProofs (maxSteps := 10000000) only [gantrylaw06_PolyMakes_l0, pk_st, pk_en, a1, a2, hr, gA4_nil, gH4_nil, hupdO_none, go_sem, iv, bv, e1, gz, reduceCtorEq, ↓reduceIte, Nat.reduceEqDiff]
    · simp -implicitDefEqProofs (maxSteps := 10000000) only [gantrylaw06_PolyMakes_l0, pk_st, pk_en, a1, a2, gA4_ne hr, gH4_ne hr, refsL_cA, hupdO_none, go_sem, iv, bv, e1, gz, reduceCtorEq, ↓reduceIte, Nat.reduceEqDiff]
  · have a1 : ∀ j, pk_A p j = .own [14] (p.length + j) := fun j => if_neg h0
    have a2 : ∀ j, pk_H p j = hpL [([14], arrR (p.length + j) (p ++ List.replicate j 0))] := fun j => if_neg h0
    simp -implicitDefEqProofs (maxSteps := 10000000) only [gantrylaw06_PolyMakes_l0, pk_st, pk_en, a1, a2, refsL_cA, hupdO_none, go_sem, iv, bv, e1, gz, reduceCtorEq, ↓reduceIte, Nat.reduceEqDiff]
theorem pk_loop {dp : D} {p : List Rat} {z : Int} {m : Nat} (gz : callX G n_gantryref01_Around [iv z, iv 3] = some (.d (iv m))) (hm : m < 3) (np : p.length ≤ 1000) : ∀ j k : Nat, k + j = m → X G (.loop gantrylaw06_PolyMakes_l0) (pk_st dp p z k k) = some (.x 0, pk_en dp p m)
  | 0, k, h => by
    have : k = m := by omega
    subst this
    rw [X_loop, pk_stop gz rfl]; rfl
  | j + 1, k, h => by
    rw [X_loop, pk_go gz (by omega) (by omega) np, Option.bind_some, if_pos rfl]
    exact pk_loop gz hm np j (k + 1) (by omega)
/-- 2 / 4, not in lowest terms. -/
def bad4 : List D := [.v (.bool false), .row 1 [iv 2], .v (.bool false), .row 1 [iv 4]]
theorem bad_v : callX G n_rat_Valid [.agg bad4] = some (.d (bv false)) := callX_some.2 ⟨100, by kernel_rfl⟩
theorem bad_v5 : callX G n_gantryref05_Valid [.agg bad4] = some (.d (bv false)) := callX_some.2 ⟨100, by kernel_rfl⟩
end Go.AM
namespace Go.Proofs.Ythhdbchmjfdgmaa.Pure
open Go Go.AM
theorem PolyMakes (e0 : D) (l0 : List Int) (hd0 : Dg e0 l0) (hwf0 : ∀ n ∈ l0, (Lit.int .i64 n).wf = true) (hlen0 : l0.length * 8 ≤ 140737488351232) (a1 : Int) (w1 : (Lit.int .i64 a1).wf = true) : callX G 3 [e0, iv a1] = some (.d (bv true)) := by
  obtain ⟨dp, p, hp, tp, Hp, np, gp⟩ := Poly_spec (rw_dg hd0) (fun n hn => i64_wf (hwf0 n hn))
  have g1 := around_spec (n := a1) (m := 3) (i64_wf w1) (by omega)
  have b1 := arnd_b (n := a1) (m := 3) (by omega)
  obtain ⟨m, hm⟩ : ∃ m : Nat, arnd a1 3 = (m : Int) := ⟨(arnd a1 3).toNat, by omega⟩
  rw [hm] at g1 b1
  have hl := pk_loop (dp := dp) (p := p) g1 (by omega) (by omega) m 0 (by omega)
  have sp := Hp.szB (by omega) (by omega)
  have slong : SzL 100000000000 (p ++ List.replicate m 0) := fun q hq => by
    rcases List.mem_append.1 hq with h | h
    · exact sp q h
    · rw [(List.mem_replicate.1 h).2, sz_zero]; omega
  have nlong : (p ++ List.replicate m (0 : Rat)).length = p.length + m := by simp
  obtain ⟨dt, ht, gT⟩ := Trim_spec (dR_ok (p ++ List.replicate m 0)) (by rw [nlong]; omega)
  rw [trim_zeros tp] at ht
  have gS := s6_refl ht hp sp (by omega)
  have gD := pDegree_spec ht (by omega)
  have gV := pValid_spec (dR_ok (p ++ List.replicate m 0)) slong (by rw [nlong]; omega)
  have gV6 := r6Valid_spec (dR_ok (p ++ List.replicate m 0)) slong (by rw [nlong]; omega)
  have gP := pValid_spec hp sp (by omega)
  rw [vB_trm tp] at gP
  obtain ⟨vb, hvb⟩ : ∃ vb, vB (p ++ List.replicate m 0) = vb := ⟨_, rfl⟩
  rw [hvb] at gV gV6
  have ebb := bself vb
  -- the odd one
  have hb4 : bad4.length = 4 := rfl
  have hodd : Rw4 (.row (p.length + 1) (cRs p ++ bad4)) (p.length + 1) (cRs p ++ bad4) := .inr ⟨rfl, by rw [List.length_append, cRs_length, hb4]; omega⟩
  have gO := pValid_bad hodd (by omega) (m := p.length) (by omega) (fun i hi => by rw [elt_app hi]; exact pV1_R (sp.getD (by omega) i)) (by rw [elt_last hb4]; exact pV1_spec (b := false) rfl ⟨rfl, rfl, rfl, rfl⟩ bad_v)
  have gO6 := r6Valid_bad hodd (by omega) (m := p.length) (by omega) (fun i hi => by rw [elt_app hi]; exact r5Valid_spec (sp.getD (by omega) i)) (by rw [elt_last hb4]; exact bad_v5)
  have ll := hp.len
  have sS := fun st => hp.srcS st
  have n1 := cRs_length p
  have n2 := cRs_one p
  have n3 : (p.length * 64 ≤ bound) = True := eq_true (by unfold bound; omega)
  have n4 : ((p.length + 1) * 64 ≤ bound) = True := eq_true (by unfold bound; omega)
  have ez : w64 ((p.length : Int) - 1) = (p.length : Int) - 1 := w64_id (by omega) (by omega)
  have ene : ((p.length : Int) - 1 != (p.length : Int) - 1) = false := bne_self_eq_false _
  have mc := map_cRs p
  have b00 : (0 * 64 ≤ bound) = True := eq_true (by decide)
  have hb1 : (1 * 64 ≤ bound) = True := eq_true (by decide)
  have k10 := lives_spec
  have z0 : ((0 : Nat) : Int) = 0 := rfl
  rw [z0] at hl
  have bc : bad4 = [.v (.bool false), .row 1 [.v (.int .i64 2)], .v (.bool false), .row 1 [.v (.int .i64 4)]] := rfl
  rw [bc] at gO gO6
  rw [callX_eq (cf := gantrylaw06_PolyMakes) rfl]
  clear hwf0 hlen0 hd0 Hp ht slong hodd hm b1 sp tp bc
  simp only [iv, bv] at gp g1 gS gD gV gV6 gP gO gO6 k10
  by_cases h0 : p = []
  · have a1 : ∀ j, pk_A p j = gA4 24 (List.replicate j 0) := fun j => if_pos h0
    have a2 : ∀ j, pk_H p j = hupdO (hpL (gH4 24 (List.replicate j 0))) [14] none := fun j => if_pos h0
    have r0 : List.replicate 0 (0 : Rat) = [] := rfl
    subst h0
    rw [List.nil_append] at gT gV gV6
    have n0 : ([] : List Rat).length = 0 := rfl
    have c0 : cRs [] = [] := rfl
    rw [n0, c0] at gO gO6
    simp only [Nat.zero_add, List.nil_append] at gO gO6
    rw [n0] at gD ll
    have z00 : ((0 : Nat) : Int) = 0 := rfl
    rw [z00] at gD
    have em1 : w64 (0 - 1) = 0 - 1 := w64_id (by omega) (by omega)
    have em2 : ((0 : Int) - 1 != 0 - 1) = false := rfl
    have hd2 : dp = .z true ∨ dp = .row 0 [] := by
      rcases hp with ⟨h, _⟩ | h
      · exact .inl h
      · exact .inr h
    clear hp sS
    by_cases hr : List.replicate m (0 : Rat) = []
    · have hvt : vb = true := by rw [← hvb, List.nil_append, hr]; rfl
      subst hvt
      rw [hr, dR_nil'] at gT gV gV6
      simp only [pk_st, pk_en, a1, a2, r0, hr, gA4_nil, gH4_nil, hupdO_none, go_sem] at hl
      rcases hd2 with rfl | rfl <;> simp -implicitDefEqProofs (maxSteps := 10000000) only [gantrylaw06_PolyMakes, frzSt, gp, g1, hl, gT, gS, gD, gV, gV6, gP, gO, gO6, ebb, srcS, src, ll, em1, em2, b00, hb1, rep_0, rep1c, rep_1, List.length_nil, List.length_cons, List.nil_append, List.map_nil, Nat.zero_mul, Nat.zero_add, one_b, one_z1, one_r1, ff_, refsL_app, allD, hupdO_none, k10, go_sem, iv, bv, reduceCtorEq, ↓reduceIte, Nat.reduceEqDiff]
    · rw [dR_ne' hr] at gT gV gV6
      simp only [pk_st, pk_en, a1, a2, r0, gA4_nil, gH4_nil, gA4_ne hr, gH4_ne hr, hupdO_none, go_sem] at hl
      rcases hd2 with rfl | rfl <;> simp -implicitDefEqProofs (maxSteps := 10000000) only [gantrylaw06_PolyMakes, frzSt, gp, g1, hl, gT, gS, gD, gV, gV6, gP, gO, gO6, ebb, srcS, src, ll, em1, em2, b00, hb1, rep_0, rep1c, rep_1, allD_cA, refsL_cA, List.length_nil, List.length_cons, List.nil_append, List.map_nil, Nat.zero_mul, Nat.zero_add, one_b, one_z1, one_r1, ff_, refsL_app, allD, hupdO_none, k10, go_sem, iv, bv, reduceCtorEq, ↓reduceIte, Nat.reduceEqDiff]
  · have a1 : ∀ j, pk_A p j = .own [14] (p.length + j) := fun j => if_neg h0
    have a2 : ∀ j, pk_H p j = hpL [([14], arrR (p.length + j) (p ++ List.replicate j 0))] := fun j => if_neg h0
    have hl0 : (p.length = 0) = False := eq_false (fun h => h0 (List.eq_nil_of_length_eq_zero h))
    have hne : p ++ List.replicate m (0 : Rat) ≠ [] := by
      intro h; exact h0 (List.append_eq_nil_iff.1 h).1
    rw [dR_ne' hne, nlong] at gT gV gV6
    have ap0 : p ++ List.replicate 0 (0 : Rat) = p := by simp
    simp only [pk_st, pk_en, a1, a2, ap0, Nat.add_zero, go_sem] at hl
    have aone : (cRs p).map A.d = cA p := rfl
    have al : (cA p).length = p.length * 4 := cA_length p
    have hd2 : dp = .row p.length (cRs p) := by
      rcases hp with ⟨_, h⟩ | h
      · exact absurd h h0
      · exact h
    clear hp sS
    subst hd2
    simp -implicitDefEqProofs (maxSteps := 10000000) only [gantrylaw06_PolyMakes, frzSt, gp, g1, hl, gT, gS, gD, gV, gV6, gP, gO, gO6, ebb, srcS, src, ll, ez, ene, hl0, n1, n2, n3, n4, al, aone, mc, b00, hb1, rep_0, rep1c, rep_1, allD_cA, refsL_cA, List.length_nil, List.length_cons, List.nil_append, List.map_nil, Nat.zero_mul, Nat.zero_add, one_b, one_z1, one_r1, ff_, refsL_app, allD, hupdO_none, k10, go_sem, iv, bv, reduceCtorEq, ↓reduceIte, Nat.reduceEqDiff]
end Go.Proofs.Ythhdbchmjfdgmaa.Pure

/- The row of PolyMakes, out of its Pure. Printed by row.py. -/
namespace Go.Proofs.Ythhdbchmjfdgmaa.polyMakes
open Go.ChangeShapes Go.WideShapes Go.ChangeAt Go.RowKit Go.AM
theorem own : ownKnob Try.prog.godebug = none := by kernel_rfl
theorem laidOut : laidOutB Try.prog = true := by kernel_rfl
set_option maxRecDepth 100000 in
theorem lifted (os : Os) (started : os.Started) (H : Type) (enc : TypeId × Value → H) :
    ReturnsInHanded {} Try.checked os 3 .any (Rows.polyMakesSpec.pre6 enc Try.prog Try.f3 Rows.polyMakesRow.domain false) (Rows.polyMakesSpec.post enc Try.prog Try.f3 false true false false) := by
  refine returnsInHanded_of_change_sized (C := Try.checked) own started (by kernel_rfl) Try.func3
    (ChangeSpec.witness6 (enc := enc) (C := Try.checked) false ⟨#[], #[.slice none 0 0, .int .i64 0], []⟩ 8 (by kernel_rfl) (by kernel_rfl) (by kernel_rfl) (by kernel_rfl)) ?_
  intro W base args ds gs before hval0 hW hcnd hsz0 _
  have hsz : (DataW.weightsEach Try.prog (Try.f3.params.toList ++ Rows.polyMakesSpec.plain.varTypes Try.prog) (ds ++ gs)).all (· ≤ reachBytes) = true := hsz0
  have hval : ∀ (j : Nat) t v, Try.f3.params[j]? = some t → args[j]? = some v → Value.okWide Try.prog W .any base t v := hval0
  have hW' := hW
  obtain ⟨p, q, hA0, hV, rfl, hfz, hnd⟩ := hW
  have hA : DataW.TrodAll enc Try.prog W 0 (fun _ => true) true Try.f3.params.toList args.toList ds p := hA0
  rw [Try.params3] at hA hval hsz
  obtain ⟨v0, vs0, d0, ds0, p0, q0, hargs, rfl, rfl, h0, r0⟩ := trodAll_cons hA
  obtain ⟨v1, vs1, d1, ds1, p1, q1, rfl, rfl, rfl, h1, r1⟩ := trodAll_cons r0
  obtain ⟨rfl, rfl, rfl⟩ := trodAll_nil r1
  obtain rfl : args = #[v0, v1] := by cases args; simp_all
  obtain ⟨rfl, rfl⟩ := trodVars_none hV
  obtain ⟨a0, len0, cap0, rfl⟩ := okWide_slice Try.underlying22 (hval 0 22 v0 rfl rfl)
  have k0 := h0
  have lt0 : ∀ x ∈ p0, x.block < W.heap.size := by obtain ⟨m, hm⟩ := k0; exact DataW.trod_lt m _ _ _ hm
  obtain ⟨z0, w0, y0⟩ : ∃ zs, ((a0 = none ∧ len0 = 0 ∧ cap0 = 0 ∧ zs = []) ∨ ∃ x, a0 = some x ∧ len0 ≤ cap0 ∧ cap0 ≤ maxLen ∧ zs.length = cap0 ∧ (∀ i, i < zs.length → W.cell? (x.add i) = some (.int .i64 (zs.getD i 0))) ∧ ∀ n ∈ zs, (Lit.int .i64 n).wf = true) ∧ len0 * 8 ≤ 140737488351232 := by
    obtain ⟨fuel, hf⟩ := h0
    rcases open_ints Try.underlying22 Try.underlying3 (by kernel_rfl) hf with ⟨hcs, _⟩ | ⟨x, l, c, zs, hcs, _, hl, hm, hz, hx, hcell, hwz⟩
    · simp [Value.cells] at hcs
      obtain ⟨rfl, rfl, rfl⟩ := hcs
      exact ⟨[], .inl ⟨rfl, rfl, rfl, rfl⟩, by simp⟩
    · simp [Value.cells] at hcs
      obtain ⟨rfl, rfl, rfl⟩ := hcs
      refine ⟨zs, .inr ⟨_, rfl, hl, hm, by simpa using hz, hcell, hwz⟩, ?_⟩
      simp only [Prod.mk.injEq] at hx
      have hd := hx.1
      have z := sized_slice hsz (j := 0) (t := 22) rfl (by rw [hd]; rfl) Try.underlying22
      have hb : Try.prog.bytesOf 3 = 8 := by kernel_rfl
      rw [hb] at z
      have hr : reachBytes ≤ 140737488351232 := by decide
      have hz' : zs.length = cap0 := by simpa using hz
      simp only [lits, List.length_map, List.length_take, List.length_drop] at z
      omega
  obtain ⟨e0, l0, hd0, hrep0, hlen0, hwf0⟩ := arg_row w0
  obtain ⟨a1, rfl, rfl, rfl, w1⟩ := open_int Try.underlying3 (hval 1 3 v1 rfl rfl) h1
  clear hA0 hval0 hsz0 hsz
  refine (law_walk envP (f := 3) (ds := [e0, (iv a1)]) (vs := [.slice a0 len0 cap0, .int .i64 a1]) (w := W) (RepL.cons _ _ _ _ hrep0 (RepL.cons _ _ _ _ (RepD.v _) RepL.nil)) (Pure.PolyMakes e0 l0 hd0 hwf0 (by rw [hlen0]; exact y0) a1 w1)).mono fun e W' ⟨he, bel⟩ => ?_
  subst he
  exact ⟨_, rfl, _, _, _, [], _, [], hW', trodAll_mk1 (shut_bool Try.underlying4 _), (trodAll_cons_mk (Below.trod laidOut (by kernel_rfl) (of_decide_eq_true (by kernel_rfl)) k0 bel lt0) (trodAll_cons_mk (shut_int Try.underlying3 w1) trodAll_mk0)), rfl, bel.frame _, fun h => by cases h⟩
theorem over : Rows.polyMakesRow.holds Try.pinned (OpenSpec.ofChange Rows.polyMakesSpec) :=
  OpenClaim.holds_of_wide 3 Try.f3 rfl rfl rfl rfl rfl rfl rfl ⟨rfl, rfl, rfl, rfl, rfl⟩ rfl rfl rfl rfl rfl (by kernel_rfl) Try.func3 (by kernel_rfl)
    (of_decide_eq_true (by kernel_rfl)) (by unfold Func.isWrapper; first | (rw [if_pos (by decide +kernel)]; kernel_rfl) | (rw [if_neg (by decide +kernel)]; exact ⟨rfl, rfl⟩))
    (fun os started H enc _ => lifted os started H enc)
theorem proved : Rows.PolyMakesSaid := over
end Go.Proofs.Ythhdbchmjfdgmaa.polyMakes
namespace Go.Proofs.Ythhdbchmjfdgmaa
theorem polyMakes_holds : Rows.PolyMakesSaid := polyMakes.proved
end Go.Proofs.Ythhdbchmjfdgmaa


