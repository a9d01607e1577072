/- Part 9 of the proof: a small machine, its soundness against the model, and what the program's functions compute on it. -/
import Derived.Test.YtecihganhcapoaaGreatDoorM7
import Derived.Test.YtecihganhcapoaaGreatDoorM8
set_option linter.unusedVariables false
set_option linter.unusedSimpArgs false
/- integer.Sub (where the seat has it) -/
namespace Go.AM
open Go Go.RowKit
variable [Its]

theorem Sub_spec {x y : Int} (hx : nd x ≤ 1000000000000) (hy : nd y ≤ 1000000000000) : callX G n_integer_Sub [encI x, encI y] = some (.d (encI (x - y))) := by
  rw [callX_eq (cf := integer_Sub) rfl]
  have g1 := Neg_spec y
  have g2 := Add_spec (x := x) (y := -y) hx (by rw [nd_neg]; exact hy)
  rw [show x + -y = x - y by omega] at g2
  simp -implicitDefEqProofs (maxSteps := 10000000) only [integer_Sub, go_sem, g1, g2, reduceCtorEq, ↓reduceIte, Nat.reduceEqDiff]

end Go.AM

/- integer.Small, ref04.Small. -/
namespace Go.AM
open Go Go.RowKit

def au (u : Int) : A := .d (.v (.int .u64 u))
attribute [go_sem] au
theorem w64_hi {n : Int} (h0 : 9223372036854775808 ≤ n) (h1 : n < 18446744073709551616) : w64 n = n - 18446744073709551616 := by
  rw [← wrap_i64]
  unfold IntKind.wrap
  simp only [IntKind.signed, IntKind.bits, Bool.true_and, decide_eq_true_eq, ge_iff_le]
  by_cases h : (2 : Int) ^ (64 - 1) ≤ n % 2 ^ 64
  · rw [if_pos h]; omega
  · rw [if_neg h]; omega
theorem u64m {n : Int} (h0 : 0 ≤ n) (h1 : n < 18446744073709551616) : n % 18446744073709551616 = n := Int.emod_eq_of_lt h0 h1
theorem val_getD_drop (l : List Int) (i : Nat) (h : i < l.length) : val (l.drop i) = l.getD i 0 + 1000000000 * val (l.drop (i + 1)) := by
  rw [List.drop_eq_getElem_cons h, val]
  simp [List.getD, h]
theorem val_drop_le {l : List Int} (hd : Dig l) : ∀ i, val (l.drop i) ≤ val l
  | 0 => by rw [List.drop_zero]; exact Int.le_refl _
  | i + 1 => by
    have ih := val_drop_le hd i
    by_cases h : i < l.length
    · rw [val_getD_drop l i h] at ih
      have := hd.getD i
      have h2 := val_nonneg (hd.drop (i + 1))
      omega
    · have h3 := val_nonneg hd
      rw [List.drop_eq_nil_of_le (by omega)]
      exact h3
theorem three_ex {l : List Int} (h : l.length = 3) : ∃ a b c, l = [a, b, c] := by
  match l, h with
  | [a, b, c], _ => exact ⟨a, b, c, rfl⟩
theorem ubt_ : A.bool? (.d (.v (.tuple #[]))) = none := rfl
def smb (x : Int) : Bool := decide (-9223372036854775808 ≤ x ∧ x < 9223372036854775808)
def smv (x : Int) : Int := if -9223372036854775808 ≤ x ∧ x < 9223372036854775808 then x else 0
theorem smb_t {x : Int} (h : I64 x) : smb x = true ∧ smv x = x := ⟨decide_eq_true h, if_pos h⟩
theorem smb_f {x : Int} (h : ¬ I64 x) : smb x = false ∧ smv x = 0 := ⟨decide_eq_false h, if_neg h⟩
variable [Its]

section
variable {x : Int} {l : List Int} (hl : digs x.natAbs = l)
def sm_st (x u i : Int) : St := mkS [(1, .ptr [1] 0), (4, au u), (5, ai i)] [([1], bI x)]
def sm_en (x u : Int) : St := mkS [(1, .ptr [1] 0), (4, au u)] [([1], bI x)]
theorem sm_stop (u : Int) : X G integer_Small_l0 (sm_st x u (-1)) = some (.x 0, sm_en x u) := by
  have e1 : decide ((-1 : Int) ≥ 0) = false := rfl
  simp -implicitDefEqProofs (maxSteps := 10000000) only [integer_Small_l0, sm_st, sm_en, bI, e1, go_sem, reduceCtorEq, ↓reduceIte, Nat.reduceEqDiff, iv]
include hl
theorem sm_go (hv : val l < 18446744073709551616) {i : Nat} (hi : i < l.length) (h3 : l.length ≤ 3) : X G integer_Small_l0 (sm_st x (val (l.drop (i + 1))) i) = some (.n, sm_st x (val (l.drop i)) ((i : Int) - 1)) := by
  have hd : Dig l := hl ▸ digs_dig _
  have e1 : decide ((i : Int) ≥ 0) = true := ge_t (by omega)
  have e2 : w64 ((i : Int) - 1) = (i : Int) - 1 := w64_id (by omega) (by omega)
  have x1 := (Rw.dg l).ixn hi
  have x2 := fun h => ldv h l hi
  have h0 := val_nonneg (hd.drop (i + 1))
  have h1 := hd.getD i
  have h2 := val_getD_drop l i hi
  have h4 := val_drop_le hd i
  have h5 : val (l.drop (i + 1)) * 1000000000 + l.getD i 0 = val (l.drop i) := by omega
  generalize val (l.drop (i + 1)) = u at *
  generalize l.getD i 0 = d at *
  have e3 : u * 1000000000 % 18446744073709551616 = u * 1000000000 := u64m (by omega) (by omega)
  have e4 : d % 18446744073709551616 = d := u64m (by omega) (by omega)
  have e5 : (u * 1000000000 + d) % 18446744073709551616 = val (l.drop i) := by rw [h5]; exact u64m (by omega) (by omega)
  simp -implicitDefEqProofs (maxSteps := 10000000) only [integer_Small_l0, sm_st, bI, hl, x1, x2, e1, e2, e3, e4, e5, go_sem, reduceCtorEq, ↓reduceIte, Nat.reduceEqDiff, iv]
theorem sm_loop (hv : val l < 18446744073709551616) (h3 : l.length ≤ 3) : ∀ i : Nat, i ≤ l.length → X G (.loop integer_Small_l0) (sm_st x (val (l.drop i)) ((i : Int) - 1)) = some (.x 0, sm_en x (val l))
  | 0, _ => by
    rw [X_loop, show ((0 : Nat) : Int) - 1 = -1 from rfl, sm_stop, List.drop_zero]; rfl
  | i + 1, h => by
    rw [X_loop, show ((i + 1 : Nat) : Int) - 1 = (i : Int) by omega, sm_go hl hv (by omega) h3, Option.bind_some, if_pos rfl]
    exact sm_loop hv h3 i (by omega)
end

theorem Small_spec_I {x : Int} (hx : nd x ≤ 1000000000000) : callX G n_integer_Small [encI x] = some (.d (.tup [iv (smv x), bv (smb x)])) := by
  rw [callX_eq (cf := integer_Small) rfl]
  obtain ⟨l, hl⟩ : ∃ l, digs x.natAbs = l := ⟨_, rfl⟩
  have hd : Dig l := hl ▸ digs_dig _
  have hv : val l = x.natAbs := hl ▸ val_digs _
  have hn : l.length ≤ 1000000000000 := by rw [← hl]; exact hx
  have ll := lenA_dg l
  by_cases h3 : l.length > 3
  · have e1 : decide ((l.length : Int) > 3) = true := gt_t (by omega)
    have hb : ¬ I64 x := fun h => by
      have h1 := nd_i64 h
      unfold nd at h1
      rw [hl] at h1; omega
    obtain ⟨b1, b2⟩ := smb_f hb
    simp -implicitDefEqProofs (maxSteps := 10000000) only [integer_Small, bI, hl, ll, e1, b1, b2, toDs, ubt_, go_sem, reduceCtorEq, ↓reduceIte, Nat.reduceEqDiff, iv, bv]
  have e1 : decide ((l.length : Int) > 3) = false := gt_f (by omega)
  by_cases hc : l.length = 3 ∧ l.getD 2 0 > 9
  · obtain ⟨a, b, c, rfl⟩ := three_ex hc.1
    have hc2 : c > 9 := hc.2
    have hdig := hd
    rw [Dig.cons, Dig.cons, Dig.cons] at hdig
    obtain ⟨d1, d2, d3, _⟩ := hdig
    have hb : ¬ I64 x := fun ⟨h1, h2⟩ => by
      simp only [val] at hv; omega
    obtain ⟨b1, b2⟩ := smb_f hb
    have e2 : decide (c > 9) = true := gt_t hc2
    have e3 : ((3 : Int) == 3) = true := rfl
    have e4 : ∀ h, ixaA h 1 2 (.d (dg [a, b, c])) = some (.d (.rp [iv c])) := fun h => rfl
    have e5 : ∀ h, loadA h none (.d (.rp [.v (.int .i64 c)])) = some (.d (.v (.int .i64 c))) := fun h => rfl
    have e6 : (((0 + 1 + 1 + 1 : Nat) : Int) == 3) = true := rfl
    simp only [List.length_cons, List.length_nil] at e1
    simp -implicitDefEqProofs (maxSteps := 10000000) only [integer_Small, bI, hl, ll, e1, e2, e3, e4, e5, e6, b1, b2, toDs, ubt_, go_sem, reduceCtorEq, ↓reduceIte, Nat.reduceEqDiff, iv, bv]
    done
  have hlt : val l < 10000000000000000000 := by
    by_cases h4 : l.length = 3
    · obtain ⟨a, b, c, rfl⟩ := three_ex h4
      have hc2 : ¬ c > 9 := fun h => hc ⟨h4, h⟩
      have hdig := hd
      rw [Dig.cons, Dig.cons, Dig.cons] at hdig
      obtain ⟨d1, d2, d3, _⟩ := hdig
      simp only [val]; omega
    · have := val_lt hd
      have h5 := pow_mono (n := l.length) (m := 2) (by omega)
      have h6 : (1000000000 : Int) ^ 2 = 1000000000000000000 := by decide
      omega
  have hlp := sm_loop hl (by omega) (by omega) l.length (Nat.le_refl _)
  rw [List.drop_length, hv] at hlp
  have e2 : w64 ((l.length : Int) - 1) = (l.length : Int) - 1 := w64_id (by omega) (by omega)
  rw [hv] at hlt
  simp only [sm_st, sm_en, bI, go_sem, val] at hlp
  have hcond : ∀ rest : Option (Ex × St), True := fun _ => trivial
  by_cases h4 : l.length = 3
  · have e3 : ((l.length : Int) == 3) = true := beq_t (by omega)
    have e4 : ∀ h, ixaA h 1 2 (.d (dg l)) = some (.d (.rp ((l.drop 2).map iv))) := fun h => (Rw.dg l).ixn (j := 2) (by omega) h
    have e5 := fun h => ldv h l (j := 2) (by omega)
    have e6 : decide (l.getD 2 0 > 9) = false := gt_f (fun h => hc ⟨h4, h⟩)
    by_cases hs : x < 0
    · have s1 : decide (x < 0) = true := lt_t hs
      by_cases hm : -9223372036854775808 ≤ x
      · obtain ⟨b1, b2⟩ := smb_t (x := x) ⟨hm, by omega⟩
        have e7 : decide ((x.natAbs : Int) ≤ 9223372036854775808) = true := le_t (by omega)
        have e8 : (0 - (x.natAbs : Int)) % 18446744073709551616 = 18446744073709551616 - (x.natAbs : Int) := by omega
        have e9 : w64 (18446744073709551616 - (x.natAbs : Int)) = x := by rw [w64_hi (by omega) (by omega)]; omega
        simp -implicitDefEqProofs (maxSteps := 10000000) only [integer_Small, bI, hl, ll, hlp, e1, e2, e3, e4, e5, e6, e7, e8, e9, s1, b1, b2, toDs, ubt_, go_sem, reduceCtorEq, ↓reduceIte, Nat.reduceEqDiff, iv, bv]
      · obtain ⟨b1, b2⟩ := smb_f (x := x) (fun h => hm h.1)
        have e7 : decide ((x.natAbs : Int) ≤ 9223372036854775808) = false := le_f (by omega)
        simp -implicitDefEqProofs (maxSteps := 10000000) only [integer_Small, bI, hl, ll, hlp, e1, e2, e3, e4, e5, e6, e7, s1, b1, b2, toDs, ubt_, go_sem, reduceCtorEq, ↓reduceIte, Nat.reduceEqDiff, iv, bv]
    · have s1 : decide (x < 0) = false := lt_f hs
      by_cases hm : x < 9223372036854775808
      · obtain ⟨b1, b2⟩ := smb_t (x := x) ⟨by omega, hm⟩
        have e7 : decide ((x.natAbs : Int) < 9223372036854775808) = true := lt_t (by omega)
        have e9 : w64 (x.natAbs : Int) = x := by rw [w64_id (by omega) (by omega)]; omega
        simp -implicitDefEqProofs (maxSteps := 10000000) only [integer_Small, bI, hl, ll, hlp, e1, e2, e3, e4, e5, e6, e7, e9, s1, b1, b2, toDs, ubt_, go_sem, reduceCtorEq, ↓reduceIte, Nat.reduceEqDiff, iv, bv]
      · obtain ⟨b1, b2⟩ := smb_f (x := x) (fun h => hm h.2)
        have e7 : decide ((x.natAbs : Int) < 9223372036854775808) = false := lt_f (by omega)
        simp -implicitDefEqProofs (maxSteps := 10000000) only [integer_Small, bI, hl, ll, hlp, e1, e2, e3, e4, e5, e6, e7, s1, b1, b2, toDs, ubt_, go_sem, reduceCtorEq, ↓reduceIte, Nat.reduceEqDiff, iv, bv]
  · have e3 : ((l.length : Int) == 3) = false := beq_f (by omega)
    by_cases hs : x < 0
    · have s1 : decide (x < 0) = true := lt_t hs
      by_cases hm : -9223372036854775808 ≤ x
      · obtain ⟨b1, b2⟩ := smb_t (x := x) ⟨hm, by omega⟩
        have e7 : decide ((x.natAbs : Int) ≤ 9223372036854775808) = true := le_t (by omega)
        have e8 : (0 - (x.natAbs : Int)) % 18446744073709551616 = 18446744073709551616 - (x.natAbs : Int) := by omega
        have e9 : w64 (18446744073709551616 - (x.natAbs : Int)) = x := by rw [w64_hi (by omega) (by omega)]; omega
        simp -implicitDefEqProofs (maxSteps := 10000000) only [integer_Small, bI, hl, ll, hlp, e1, e2, e3, e7, e8, e9, s1, b1, b2, toDs, ubt_, go_sem, reduceCtorEq, ↓reduceIte, Nat.reduceEqDiff, iv, bv]
      · obtain ⟨b1, b2⟩ := smb_f (x := x) (fun h => hm h.1)
        have e7 : decide ((x.natAbs : Int) ≤ 9223372036854775808) = false := le_f (by omega)
        simp -implicitDefEqProofs (maxSteps := 10000000) only [integer_Small, bI, hl, ll, hlp, e1, e2, e3, e7, s1, b1, b2, toDs, ubt_, go_sem, reduceCtorEq, ↓reduceIte, Nat.reduceEqDiff, iv, bv]
    · have s1 : decide (x < 0) = false := lt_f hs
      by_cases hm : x < 9223372036854775808
      · obtain ⟨b1, b2⟩ := smb_t (x := x) ⟨by omega, hm⟩
        have e7 : decide ((x.natAbs : Int) < 9223372036854775808) = true := lt_t (by omega)
        have e9 : w64 (x.natAbs : Int) = x := by rw [w64_id (by omega) (by omega)]; omega
        simp -implicitDefEqProofs (maxSteps := 10000000) only [integer_Small, bI, hl, ll, hlp, e1, e2, e3, e7, e9, s1, b1, b2, toDs, ubt_, go_sem, reduceCtorEq, ↓reduceIte, Nat.reduceEqDiff, iv, bv]
      · obtain ⟨b1, b2⟩ := smb_f (x := x) (fun h => hm h.2)
        have e7 : decide ((x.natAbs : Int) < 9223372036854775808) = false := lt_f (by omega)
        simp -implicitDefEqProofs (maxSteps := 10000000) only [integer_Small, bI, hl, ll, hlp, e1, e2, e3, e7, s1, b1, b2, toDs, ubt_, go_sem, reduceCtorEq, ↓reduceIte, Nat.reduceEqDiff, iv, bv]
end Go.AM

/- ref04.Small. -/
namespace Go.AM
open Go Go.RowKit

theorem sgn_gt {a : Int} : decide (Int.sign a > 0) = decide (0 < a) := by
  apply decide_eq_decide.2
  rcases Int.lt_trichotomy a 0 with h | h | h
  · rw [Int.sign_eq_neg_one_of_neg h]; omega
  · subst h; simp
  · rw [Int.sign_eq_one_of_pos h]; omega
theorem sgn_lt {a : Int} : decide (Int.sign a < 0) = decide (a < 0) := by
  apply decide_eq_decide.2
  rcases Int.lt_trichotomy a 0 with h | h | h
  · rw [Int.sign_eq_neg_one_of_neg h]; omega
  · subst h; simp
  · rw [Int.sign_eq_one_of_pos h]; omega
theorem sgn_ge {a : Int} : decide (Int.sign a ≥ 0) = decide (0 ≤ a) := by
  apply decide_eq_decide.2
  rcases Int.lt_trichotomy a 0 with h | h | h
  · rw [Int.sign_eq_neg_one_of_neg h]; omega
  · subst h; simp
  · rw [Int.sign_eq_one_of_pos h]; omega
theorem sgn_le {a : Int} : decide (Int.sign a ≤ 0) = decide (a ≤ 0) := by
  apply decide_eq_decide.2
  rcases Int.lt_trichotomy a 0 with h | h | h
  · rw [Int.sign_eq_neg_one_of_neg h]; omega
  · subst h; simp
  · rw [Int.sign_eq_one_of_pos h]; omega
theorem sgn_eq {a : Int} : (Int.sign a == 0) = decide (a = 0) := by
  by_cases h : a = 0
  · subst h; rfl
  · rw [decide_eq_false h]
    refine beq_f fun h1 => h (Int.sign_eq_zero_iff_zero.1 h1)
variable [Its]
section
variable {x : Int} {l : List Int}
def rsm_st (x u i : Int) : St := mkS [(1, .ptr [1] 0), (4, ai u), (5, ai i)] [([1], bI x)]
def rsm_en (u : Int) : St := mkS [(4, ai u)] []
theorem rsm_stop (u : Int) : X G gantryref04_Small_l0 (rsm_st x u (-1)) = some (.x 0, rsm_en u) := by
  have e1 : decide ((-1 : Int) ≥ 0) = false := rfl
  simp -implicitDefEqProofs (maxSteps := 10000000) only [gantryref04_Small_l0, rsm_st, rsm_en, bI, e1, go_sem, reduceCtorEq, ↓reduceIte, Nat.reduceEqDiff, iv]
theorem rsm_go (hl : digs x.natAbs = l) (hx : I64 x) {i : Nat} (hi : i < l.length) (h3 : l.length ≤ 1000) : X G gantryref04_Small_l0 (rsm_st x (sgn (decide (x < 0)) (val (l.drop (i + 1)))) i) = some (.n, rsm_st x (sgn (decide (x < 0)) (val (l.drop i))) ((i : Int) - 1)) := by
  have hd : Dig l := hl ▸ digs_dig _
  have hv : val l = x.natAbs := hl ▸ val_digs _
  have e1 : decide ((i : Int) ≥ 0) = true := ge_t (by omega)
  have e2 : w64 ((i : Int) - 1) = (i : Int) - 1 := w64_id (by omega) (by omega)
  have x1 := (Rw.dg l).ixn hi
  have x2 := fun h => ldv h l hi
  have h0 := val_nonneg (hd.drop (i + 1))
  have h1 := hd.getD i
  have h2 := val_getD_drop l i hi
  have h4 := val_drop_le hd i
  have h5 : val (l.drop i) = val (l.drop (i + 1)) * 1000000000 + l.getD i 0 := by omega
  obtain ⟨h6, h7⟩ := hx
  rw [h5]
  generalize val (l.drop (i + 1)) = u at *
  generalize l.getD i 0 = d at *
  by_cases hs : x < 0
  · have s1 : decide (x < 0) = true := lt_t hs
    have e3 : w64 (-u * 1000000000) = -(u * 1000000000) := by rw [w64_id (by omega) (by omega)]; omega
    have e5 : w64 (-(u * 1000000000) - d) = -(u * 1000000000 + d) := by rw [w64_id (by omega) (by omega)]; omega
    simp -implicitDefEqProofs (maxSteps := 10000000) only [gantryref04_Small_l0, rsm_st, bI, sgn, hl, x1, x2, e1, e2, e3, e5, s1, go_sem, reduceCtorEq, ↓reduceIte, Nat.reduceEqDiff, iv]
  · have s1 : decide (x < 0) = false := lt_f hs
    have e3 : w64 (u * 1000000000) = u * 1000000000 := w64_id (by omega) (by omega)
    have e5 : w64 (u * 1000000000 + d) = u * 1000000000 + d := w64_id (by omega) (by omega)
    simp -implicitDefEqProofs (maxSteps := 10000000) only [gantryref04_Small_l0, rsm_st, bI, sgn, hl, x1, x2, e1, e2, e3, e5, s1, go_sem, reduceCtorEq, ↓reduceIte, Nat.reduceEqDiff, iv]
theorem rsm_loop (hl : digs x.natAbs = l) (hx : I64 x) (h3 : l.length ≤ 1000) : ∀ i : Nat, i ≤ l.length → X G (.loop gantryref04_Small_l0) (rsm_st x (sgn (decide (x < 0)) (val (l.drop i))) ((i : Int) - 1)) = some (.x 0, rsm_en x)
  | 0, _ => by
    have e : sgn (decide (x < 0)) (val (l.drop 0)) = x := by
      rw [List.drop_zero, show val l = x.natAbs from hl ▸ val_digs _]
      by_cases hs : x < 0
      · rw [lt_t hs]; simp only [sgn, if_true]; omega
      · rw [lt_f hs]; simp only [sgn, Bool.false_eq_true, if_false]; omega
    rw [X_loop, show ((0 : Nat) : Int) - 1 = -1 from rfl, rsm_stop, e]; rfl
  | i + 1, h => by
    rw [X_loop, show ((i + 1 : Nat) : Int) - 1 = (i : Int) by omega, rsm_go hl hx (by omega) h3, Option.bind_some, if_pos rfl]
    exact rsm_loop hl hx h3 i (by omega)
end
theorem rSmall_spec {x : Int} (hx : nd x ≤ 1000000000000) : callX G n_gantryref04_Small [encI x] = some (.d (.tup [iv (smv x), bv (smb x)])) := by
  rw [callX_eq (cf := gantryref04_Small) rfl]
  have g1 := rOf_spec (n := 9223372036854775807) ⟨by omega, by omega⟩
  have g2 := rOf_spec (n := -9223372036854775808) ⟨by omega, by omega⟩
  have g3 := rCompare_spec (x := x) (y := 9223372036854775807) hx (Nat.le_trans (nd_i64 ⟨by omega, by omega⟩) (by omega))
  have g4 := rCompare_spec (x := x) (y := -9223372036854775808) hx (Nat.le_trans (nd_i64 ⟨by omega, by omega⟩) (by omega))
  simp only [iv] at g1 g2 g3 g4
  have c1 := sgn_gt (a := x - 9223372036854775807)
  have c2 := sgn_lt (a := x - -9223372036854775808)
  generalize Int.sign (x - 9223372036854775807) = s1 at *
  generalize Int.sign (x - -9223372036854775808) = s2 at *
  by_cases h1 : 0 < x - 9223372036854775807
  · rw [gt_t h1] at c1
    obtain ⟨b1, b2⟩ := smb_f (x := x) (fun h => by have := h.2; omega)
    simp -implicitDefEqProofs (maxSteps := 10000000) only [gantryref04_Small, bI, g1, g2, g3, g4, c1, b1, b2, toDs, ubt_, go_sem, reduceCtorEq, ↓reduceIte, Nat.reduceEqDiff, iv, bv]
  rw [gt_f h1] at c1
  by_cases h2 : x - -9223372036854775808 < 0
  · rw [lt_t h2] at c2
    obtain ⟨b1, b2⟩ := smb_f (x := x) (fun h => by have := h.1; omega)
    simp -implicitDefEqProofs (maxSteps := 10000000) only [gantryref04_Small, bI, g1, g2, g3, g4, c1, c2, b1, b2, toDs, ubt_, go_sem, reduceCtorEq, ↓reduceIte, Nat.reduceEqDiff, iv, bv]
  rw [lt_f h2] at c2
  have hI : I64 x := ⟨by omega, by omega⟩
  obtain ⟨b1, b2⟩ := smb_t hI
  obtain ⟨l, hl⟩ : ∃ l, digs x.natAbs = l := ⟨_, rfl⟩
  have h3 : l.length ≤ 3 := by rw [← hl]; exact nd_i64 hI
  have ll := lenA_dg l
  have e2 : w64 ((l.length : Int) - 1) = (l.length : Int) - 1 := w64_id (by omega) (by omega)
  have hlp := rsm_loop hl hI (by omega) l.length (Nat.le_refl _)
  have e0 : sgn (decide (x < 0)) 0 = 0 := by cases decide (x < 0) <;> rfl
  rw [List.drop_length, val, e0] at hlp
  simp only [rsm_st, rsm_en, bI, go_sem] at hlp
  simp -implicitDefEqProofs (maxSteps := 10000000) only [gantryref04_Small, bI, g1, g2, g3, g4, c1, c2, b1, b2, hl, ll, e2, hlp, toDs, ubt_, go_sem, reduceCtorEq, ↓reduceIte, Nat.reduceEqDiff, iv, bv]
end Go.AM

/- law04.same, ref04.Sub. -/
namespace Go.AM
open Go Go.RowKit
variable [Its]
theorem S4_refl {x : Int} (h : nd x ≤ 1000000000000) : callX G n_gantryref04_Same [encI x, encI x] = some (.d (bv true)) := s4_refl (b := decide (x < 0)) (l := digs x.natAbs) h
theorem sm4 {x y : Int} (e : x = y) (h : nd x ≤ 1000000000000) : callX G n_gantrylaw04_same [encI x, encI y] = some (.d (bv true)) := by
  subst e
  rw [callX_eq (cf := gantrylaw04_same) rfl]
  have g := S4_refl h
  simp only [bv] at g
  simp -implicitDefEqProofs (maxSteps := 10000000) only [gantrylaw04_same, bI, g, go_sem, reduceCtorEq, ↓reduceIte, Nat.reduceEqDiff, iv, bv]
theorem rSub4 {x y : Int} (hx : nd x ≤ 100000000000) (hy : nd y ≤ 100000000000) : callX G n_gantryref04_Sub [encI x, encI y] = some (.d (encI (x - y))) := by
  rw [callX_eq (cf := gantryref04_Sub) rfl]
  have g1 := rNeg_spec (x := y) (by omega)
  have g2 := rAdd_spec (x := x) (y := -y) (by omega) (by rw [nd_neg]; omega)
  rw [show x + -y = x - y by omega] at g2
  simp -implicitDefEqProofs (maxSteps := 10000000) only [gantryref04_Sub, bI, g1, g2, go_sem, reduceCtorEq, ↓reduceIte, Nat.reduceEqDiff, iv, bv]
end Go.AM

