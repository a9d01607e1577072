/- Part 9 of the proof: a small machine, its soundness against the model, and what the program's functions compute on it. -/
import Derived.Test.YtecihganhcapoaaGreatDoorM7
import Derived.Test.YtecihganhcapoaaGreatDoorM8
set_option linter.unusedVariables false
set_option linter.unusedSimpArgs false
/- integer.Sub (where the seat has it) -/
namespace Go.AM
open Go Go.RowKit
variable [Its]

theorem Sub_spec {x y : Int} (hx : nd x ≤ 1000000000000) (hy : nd y ≤ 1000000000000) : callX G n_integer_Sub [encI x, encI y] = some (.d (encI (x - y))) := by
  rw [callX_eq (cf := integer_Sub) rfl]
  have g1 := Neg_spec y
  have g2 := Add_spec (x := x) (y := -y) hx (by rw [nd_neg]; exact hy)
  rw [show x + -y = x - y by omega] at g2
  simp -implicitDefEqProofs (maxSteps := 10000000) only [integer_Sub, go_sem, g1, g2, reduceCtorEq, ↓reduceIte, Nat.reduceEqDiff]

end Go.AM

/- integer.Small, ref04.Small. -/
namespace Go.AM
open Go Go.RowKit

def au (u : Int) : A := .d (.v (.int .u64 u))
attribute [go_sem] au
theorem w64_hi {n : Int} (h0 : 9223372036854775808 ≤ n) (h1 : n < 18446744073709551616) : w64 n = n - 18446744073709551616 := by
  rw [← wrap_i64]
  unfold IntKind.wrap
  simp only [IntKind.signed, IntKind.bits, Bool.true_and, decide_eq_true_eq, ge_iff_le]
  by_cases h : (2 : Int) ^ (64 - 1) ≤ n % 2 ^ 64
  · rw [if_pos h]; omega
  · rw [if_neg h]; omega
theorem u64m {n : Int} (h0 : 0 ≤ n) (h1 : n < 18446744073709551616) : n % 18446744073709551616 = n := Int.emod_eq_of_lt h0 h1
theorem val_getD_drop (l : List Int) (i : Nat) (h : i < l.length) : val (l.drop i) = l.getD i 0 + 1000000000 * val (l.drop (i + 1)) := by
  rw [List.drop_eq_getElem_cons h, val]
  simp [List.getD, h]
theorem val_drop_le {l : List Int} (hd : Dig l) : ∀ i, val (l.drop i) ≤ val l
  | 0 => by rw [List.drop_zero]; exact Int.le_refl _
  | i + 1 => by
    have ih := val_drop_le hd i
    by_cases h : i < l.length
    · rw [val_getD_drop l i h] at ih
      have := hd.getD i
      have h2 := val_nonneg (hd.drop (i + 1))
      omega
    · have h3 := val_nonneg hd
      rw [List.drop_eq_nil_of_le (by omega)]
      exact h3
theorem three_ex {l : List Int} (h : l.length = 3) : ∃ a b c, l = [a, b, c] := by
  match l, h with
  | [a, b, c], _ => exact ⟨a, b, c, rfl⟩
theorem ubt_ : A.bool? (.d (.v (.tuple #[]))) = none := rfl
def smb (x : Int) : Bool := decide (-9223372036854775808 ≤ x ∧ x < 9223372036854775808)
def smv (x : Int) : Int := if -9223372036854775808 ≤ x ∧ x < 9223372036854775808 then x else 0
theorem smb_t {x : Int} (h : I64 x) : smb x = true ∧ smv x = x := ⟨decide_eq_true h, if_pos h⟩
theorem smb_f {x : Int} (h : ¬ I64 x) : smb x = false ∧ smv x = 0 := ⟨decide_eq_false h, if_neg h⟩
variable [Its]

section
variable {x : Int} {l : List Int} (hl : digs x.natAbs = l)
def sm_st (x u i : Int) : St := mkS [(1, .ptr [1] 0), (4, au u), (5, ai i)] [([1], bI x)]
def sm_en (x u : Int) : St := mkS [(1, .ptr [1] 0), (4, au u)] [([1], bI x)]
theorem sm_stop (u : Int) : X G integer_Small_l0 (sm_st x u (-1)) = some (.x 0, sm_en x u) := by
  have e1 : decide ((-1 : Int) ≥ 0) = false := rfl
  simp -implicitDefEqProofs (maxSteps := 10000000) only [integer_Small_l0, sm_st, sm_en, bI, e1, go_sem, reduceCtorEq, ↓reduceIte, Nat.reduceEqDiff, iv]
include hl
theorem sm_go (hv : val l < 18446744073709551616) {i : Nat} (hi : i < l.length) (h3 : l.length ≤ 3) : X G integer_Small_l0 (sm_st x (val (l.drop (i + 1))) i) = some (.n, sm_st x (val (l.drop i)) ((i : Int) - 1)) := by
  have hd : Dig l := hl ▸ digs_dig _
  have e1 : decide ((i : Int) ≥ 0) = true := ge_t (by omega)
  have e2 : w64 ((i : Int) - 1) = (i : Int) - 1 := w64_id (by omega) (by omega)
  have x1 := (Rw.dg l).ixn hi
  have x2 := fun h => ldv h l hi
  have h0 := val_nonneg (hd.drop (i + 1))
  have h1 := hd.getD i
  have h2 := val_getD_drop l i hi
  have h4 := val_drop_le hd i
  have h5 : val (l.drop (i + 1)) * 1000000000 + l.getD i 0 = val (l.drop i) := by omega
  generalize val (l.drop (i + 1)) = u at *
  generalize l.getD i 0 = d at *
  have e3 : u * 1000000000 % 18446744073709551616 = u * 1000000000 := u64m (by omega) (by omega)
  have e4 : d % 18446744073709551616 = d := u64m (by omega) (by omega)
  have e5 : (u * 1000000000 + d) % 18446744073709551616 = val (l.drop i) := by rw [h5]; exact u64m (by omega) (by omega)
  simp -implicitDefEqProofs (maxSteps := 10000000) only [integer_Small_l0, sm_st, bI, hl, x1, x2, e1, e2, e3, e4, e5, go_sem, reduceCtorEq, ↓reduceIte, Nat.reduceEqDiff, iv]
theorem sm_loop (hv : val l < 18446744073709551616) (h3 : l.length ≤ 3) : ∀ i : Nat, i ≤ l.length → X G (.loop integer_Small_l0) (sm_st x (val (l.drop i)) ((i : Int) - 1)) = some (.x 0, sm_en x (val l))
  | 0, _ => by
    rw [X_loop, show ((0 : Nat) : Int) - 1 = -1 from rfl, sm_stop, List.drop_zero]; rfl
  | i + 1, h => by
    rw [X_loop, show ((i + 1 : Nat) : Int) - 1 = (i : Int) by omega, sm_go hl hv (by omega) h3, Option.bind_some, if_pos rfl]
    exact sm_loop hv h3 i (by omega)
end

theorem Small_spec_I {x : Int} (hx : nd x ≤ 1000000000000) : callX G n_integer_Small [encI x] = some (.d (.tup [iv (smv x), bv (smb x)])) := by
  rw [callX_eq (cf := integer_Small) rfl]
  obtain ⟨l, hl⟩ : ∃ l, digs x.natAbs = l := ⟨_, rfl⟩
  have hd : Dig l := hl ▸ digs_dig _
  have hv : val l = x.natAbs := hl ▸ val_digs _
  have hn : l.length ≤ 1000000000000 := by rw [← hl]; exact hx
  have ll := lenA_dg l
  by_cases h3 : l.length > 3
  · have e1 : decide ((l.length : Int) > 3) = true := gt_t (by omega)
    have hb : ¬ I64 x := fun h => by
      have h1 := nd_i64 h
      unfold nd at h1
      rw [hl] at h1; omega
    obtain ⟨b1, b2⟩ := smb_f hb
    simp -implicitDefEqProofs (maxSteps := 10000000) only [integer_Small, bI, hl, ll, e1, b1, b2, toDs, ubt_, go_sem, reduceCtorEq, ↓reduceIte, Nat.reduceEqDiff, iv, bv]
  have e1 : decide ((l.length : Int) > 3) = false := gt_f (by omega)
  by_cases hc : l.length = 3 ∧ l.getD 2 0 > 9
  · obtain ⟨a, b, c, rfl⟩ := three_ex hc.1
    have hc2 : c > 9 := hc.2
    have hdig := hd
    rw [Dig.cons, Dig.cons, Dig.cons] at hdig
    obtain ⟨d1, d2, d3, _⟩ := hdig
    have hb : ¬ I64 x := fun ⟨h1, h2⟩ => by
      simp only [val] at hv; omega
    obtain ⟨b1, b2⟩ := smb_f hb
    have e2 : decide (c > 9) = true := gt_t hc2
    have e3 : ((3 : Int) == 3) = true := rfl
    have e4 : ∀ h, ixaA h 1 2 (.d (dg [a, b, c])) = some (.d (.rp [iv c])) := fun h => rfl
    have e5 : ∀ h, loadA h none (.d (.rp [.v (.int .i64 c)])) = some (.d (.v (.int .i64 c))) := fun h => rfl
    have e6 : (((0 + 1 + 1 + 1 : Nat) : Int) == 3) = true := rfl
    simp only [List.length_cons, List.length_nil] at e1
    simp -implicitDefEqProofs (maxSteps := 10000000) only [integer_Small, bI, hl, ll, e1, e2, e3, e4, e5, e6, b1, b2, toDs, ubt_, go_sem, reduceCtorEq, ↓reduceIte, Nat.reduceEqDiff, iv, bv]
    done
  have hlt : val l < 10000000000000000000 := by
    by_cases h4 : l.length = 3
    · obtain ⟨a, b, c, rfl⟩ := three_ex h4
      have hc2 : ¬ c > 9 := fun h => hc ⟨h4, h⟩
      have hdig := hd
      rw [Dig.cons, Dig.cons, Dig.cons] at hdig
      obtain ⟨d1, d2, d3, _⟩ := hdig
      simp only [val]; omega
    · have := val_lt hd
      have h5 := pow_mono (n := l.length) (m := 2) (by omega)
      have h6 : (1000000000 : Int) ^ 2 = 1000000000000000000 := by decide
      omega
  have hlp := sm_loop hl (by omega) (by omega) l.length (Nat.le_refl _)
  rw [List.drop_length, hv] at hlp
  have e2 : w64 ((l.length : Int) - 1) = (l.length : Int) - 1 := w64_id (by omega) (by omega)
  rw [hv] at hlt
  simp only [sm_st, sm_en, bI, go_sem, val] at hlp
  have hcond : ∀ rest : Option (Ex × St), True := fun _ => trivial
  by_cases h4 : l.length = 3
  · have e3 : ((l.length : Int) == 3) = true := beq_t (by omega)
    have e4 : ∀ h, ixaA h 1 2 (.d (dg l)) = some (.d (.rp ((l.drop 2).map iv))) := fun h => (Rw.dg l).ixn (j := 2) (by omega) h
    have e5 := fun h => ldv h l (j := 2) (by omega)
    have e6 : decide (l.getD 2 0 > 9) = false := gt_f (fun h => hc ⟨h4, h⟩)
    by_cases hs : x < 0
    · have s1 : decide (x < 0) = true := lt_t hs
      by_cases hm : -9223372036854775808 ≤ x
      · obtain ⟨b1, b2⟩ := smb_t (x := x) ⟨hm, by omega⟩
        have e7 : decide ((x.natAbs : Int) ≤ 9223372036854775808) = true := le_t (by omega)
        have e8 : (0 - (x.natAbs : Int)) % 18446744073709551616 = 18446744073709551616 - (x.natAbs : Int) := by omega
        have e9 : w64 (18446744073709551616 - (x.natAbs : Int)) = x := by rw [w64_hi (by omega) (by omega)]; omega
        simp -implicitDefEqProofs (maxSteps := 10000000) only [integer_Small, bI, hl, ll, hlp, e1, e2, e3, e4, e5, e6, e7, e8, e9, s1, b1, b2, toDs, ubt_, go_sem, reduceCtorEq, ↓reduceIte, Nat.reduceEqDiff, iv, bv]
      · obtain ⟨b1, b2⟩ := smb_f (x := x) (fun h => hm h.1)
        have e7 : decide ((x.natAbs : Int) ≤ 9223372036854775808) = false := le_f (by omega)
        simp -implicitDefEqProofs (maxSteps := 10000000) only [integer_Small, bI, hl, ll, hlp, e1, e2, e3, e4, e5, e6, e7, s1, b1, b2, toDs, ubt_, go_sem, reduceCtorEq, ↓reduceIte, Nat.reduceEqDiff, iv, bv]
    · have s1 : decide (x < 0) = false := lt_f hs
      by_cases hm : x < 9223372036854775808
      · obtain ⟨b1, b2⟩ := smb_t (x := x) ⟨by omega, hm⟩
        have e7 : decide ((x.natAbs : Int) < 9223372036854775808) = true := lt_t (by omega)
        have e9 : w64 (x.natAbs : Int) = x := by rw [w64_id (by omega) (by omega)]; omega
        simp -implicitDefEqProofs (maxSteps := 10000000) only [integer_Small, bI, hl, ll, hlp, e1, e2, e3, e4, e5, e6, e7, e9, s1, b1, b2, toDs, ubt_, go_sem, reduceCtorEq, ↓reduceIte, Nat.reduceEqDiff, iv, bv]
      · obtain ⟨b1, b2⟩ := smb_f (x := x) (fun h => hm h.2)
        have e7 : decide ((x.natAbs : Int) < 9223372036854775808) = false := lt_f (by omega)
        simp -implicitDefEqProofs (maxSteps := 10000000) only [integer_Small, bI, hl, ll, hlp, e1, e2, e3, e4, e5, e6, e7, s1, b1, b2, toDs, ubt_, go_sem, reduceCtorEq, ↓reduceIte, Nat.reduceEqDiff, iv, bv]
  · have e3 : ((l.length : Int) == 3) = false := beq_f (by omega)
    by_cases hs : x < 0
    · have s1 : decide (x < 0) = true := lt_t hs
      by_cases hm : -9223372036854775808 ≤ x
      · obtain ⟨b1, b2⟩ := smb_t (x := x) ⟨hm, by omega⟩
        have e7 : decide ((x.natAbs : Int) ≤ 9223372036854775808) = true := le_t (by omega)
        have e8 : (0 - (x.natAbs : Int)) % 18446744073709551616 = 18446744073709551616 - (x.natAbs : Int) := by omega
        have e9 : w64 (18446744073709551616 - (x.natAbs : Int)) = x := by rw [w64_hi (by omega) (by omega)]; omega
        simp -implicitDefEqProofs (maxSteps := 10000000) only [integer_Small, bI, hl, ll, hlp, e1, e2, e3, e7, e8, e9, s1, b1, b2, toDs, ubt_, go_sem, reduceCtorEq, ↓reduceIte, Nat.reduceEqDiff, iv, bv]
      · obtain ⟨b1, b2⟩ := smb_f (x := x) (fun h => hm h.1)
        have e7 : decide ((x.natAbs : Int) ≤ 9223372036854775808) = false := le_f (by omega)
        simp -implicitDefEqProofs (maxSteps := 10000000) only [integer_Small, bI, hl, ll, hlp, e1, e2, e3, e7, s1, b1, b2, toDs, ubt_, go_sem, reduceCtorEq, ↓reduceIte, Nat.reduceEqDiff, iv, bv]
    · have s1 : decide (x < 0) = false := lt_f hs
      by_cases hm : x < 9223372036854775808
      · obtain ⟨b1, b2⟩ := smb_t (x := x) ⟨by omega, hm⟩
        have e7 : decide ((x.natAbs : Int) < 9223372036854775808) = true := lt_t (by omega)
        have e9 : w64 (x.natAbs : Int) = x := by rw [w64_id (by omega) (by omega)]; omega
        simp -implicitDefEqProofs (maxSteps := 10000000) only [integer_Small, bI, hl, ll, hlp, e1, e2, e3, e7, e9, s1, b1, b2, toDs, ubt_, go_sem, reduceCtorEq, ↓reduceIte, Nat.reduceEqDiff, iv, bv]
      · obtain ⟨b1, b2⟩ := smb_f (x := x) (fun h => hm h.2)
        have e7 : decide ((x.natAbs : Int) < 9223372036854775808) = false := lt_f (by omega)
        simp -implicitDefEqProofs (maxSteps := 10000000) only [integer_Small, bI, hl, ll, hlp, e1, e2, e3, e7, s1, b1, b2, toDs, ubt_, go_sem, reduceCtorEq, ↓reduceIte, Nat.reduceEqDiff, iv, bv]
end Go.AM

/- ref04.Small. -/
namespace Go.AM
open Go Go.RowKit

theorem sgn_gt {a : Int} : decide (Int.sign a > 0) = decide (0 < a) := by
  apply decide_eq_decide.2
  rcases Int.lt_trichotomy a 0 with h | h | h
  · rw [Int.sign_eq_neg_one_of_neg h]; omega
  · subst h; simp
  · rw [Int.sign_eq_one_of_pos h]; omega
theorem sgn_lt {a : Int} : decide (Int.sign a < 0) = decide (a < 0) := by
  apply decide_eq_decide.2
  rcases Int.lt_trichotomy a 0 with h | h | h
  · rw [Int.sign_eq_neg_one_of_neg h]; omega
  · subst h; simp
  · rw [Int.sign_eq_one_of_pos h]; omega
theorem sgn_ge {a : Int} : decide (Int.sign a ≥ 0) = decide (0 ≤ a) := by
  apply decide_eq_decide.2
  rcases Int.lt_trichotomy a 0 with h | h | h
  · rw [Int.sign_eq_neg_one_of_neg h]; omega
  · subst h; simp
  · rw [Int.sign_eq_one_of_pos h]; omega
theorem sgn_le {a : Int} : decide (Int.sign a ≤ 0) = decide (a ≤ 0) := by
  apply decide_eq_decide.2
  rcases Int.lt_trichotomy a 0 with h | h | h
  · rw [Int.sign_eq_neg_one_of_neg h]; omega
  · subst h; simp
  · rw [Int.sign_eq_one_of_pos h]; omega
theorem sgn_eq {a : Int} : (Int.sign a == 0) = decide (a = 0) := by
  by_cases h : a = 0
  · subst h; rfl
  · rw [decide_eq_false h]
    refine beq_f fun h1 => h (Int.sign_eq_zero_iff_zero.1 h1)
variable [Its]
section
variable {x : Int} {l : List Int}
def rsm_st (x u i : Int) : St := mkS [(1, .ptr [1] 0), (4, ai u), (5, ai i)] [([1], bI x)]
def rsm_en (u : Int) : St := mkS [(4, ai u)] []
theorem rsm_stop (u : Int) : X G gantryref04_Small_l0 (rsm_st x u (-1)) = some (.x 0, rsm_en u) := by
  have e1 : decide ((-1 : Int) ≥ 0) = false := rfl
  simp -implicitDefEqProofs (maxSteps := 10000000) only [gantryref04_Small_l0, rsm_st, rsm_en, bI, e1, go_sem, reduceCtorEq, ↓reduceIte, Nat.reduceEqDiff, iv]
theorem rsm_go (hl : digs x.natAbs = l) (hx : I64 x) {i : Nat} (hi : i < l.length) (h3 : l.length ≤ 1000) : X G gantryref04_Small_l0 (rsm_st x (sgn (decide (x < 0)) (val (l.drop (i + 1)))) i) = some (.n, rsm_st x (sgn (decide (x < 0)) (val (l.drop i))) ((i : Int) - 1)) := by
  have hd : Dig l := hl ▸ digs_dig _
  have hv : val l = x.natAbs := hl ▸ val_digs _
  have e1 : decide ((i : Int) ≥ 0) = true := ge_t (by omega)
  have e2 : w64 ((i : Int) - 1) = (i : Int) - 1 := w64_id (by omega) (by omega)
  have x1 := (Rw.dg l).ixn hi
  have x2 := fun h => ldv h l hi
  have h0 := val_nonneg (hd.drop (i + 1))
  have h1 := hd.getD i
  have h2 := val_getD_drop l i hi
  have h4 := val_drop_le hd i
  have h5 : val (l.drop i) = val (l.drop (i + 1)) * 1000000000 + l.getD i 0 := by omega
  obtain ⟨h6, h7⟩ := hx
  rw [h5]
  generalize val (l.drop (i + 1)) = u at *
  generalize l.getD i 0 = d at *
  by_cases hs : x < 0
  · have s1 : decide (x < 0) = true := lt_t hs
    have e3 : w64 (-u * 1000000000) = -(u * 1000000000) := by rw [w64_id (by omega) (by omega)]; omega
    have e5 : w64 (-(u * 1000000000) - d) = -(u * 1000000000 + d) := by rw [w64_id (by omega) (by omega)]; omega
    simp -implicitDefEqProofs (maxSteps := 10000000) only [gantryref04_Small_l0, rsm_st, bI, sgn, hl, x1, x2, e1, e2, e3, e5, s1, go_sem, reduceCtorEq, ↓reduceIte, Nat.reduceEqDiff, iv]
  · have s1 : decide (x < 0) = false := lt_f hs
    have e3 : w64 (u * 1000000000) = u * 1000000000 := w64_id (by omega) (by omega)
    have e5 : w64 (u * 1000000000 + d) = u * 1000000000 + d := w64_id (by omega) (by omega)
    simp -implicitDefEqProofs (maxSteps := 10000000) only [gantryref04_Small_l0, rsm_st, bI, sgn, hl, x1, x2, e1, e2, e3, e5, s1, go_sem, reduceCtorEq, ↓reduceIte, Nat.reduceEqDiff, iv]
theorem rsm_loop (hl : digs x.natAbs = l) (hx : I64 x) (h3 : l.length ≤ 1000) : ∀ i : Nat, i ≤ l.length → X G (.loop gantryref04_Small_l0) (rsm_st x (sgn (decide (x < 0)) (val (l.drop i))) ((i : Int) - 1)) = some (.x 0, rsm_en x)
  | 0, _ => by
    have e : sgn (decide (x < 0)) (val (l.drop 0)) = x := by
      rw [List.drop_zero, show val l = x.natAbs from hl ▸ val_digs _]
      by_cases hs : x < 0
      · rw [lt_t hs]; simp only [sgn, if_true]; omega
      · rw [lt_f hs]; simp only [sgn, Bool.false_eq_true, if_false]; omega
    rw [X_loop, show ((0 : Nat) : Int) - 1 = -1 from rfl, rsm_stop, e]; rfl
  | i + 1, h => by
    rw [X_loop, show ((i + 1 : Nat) : Int) - 1 = (i : Int) by omega, rsm_go hl hx (by omega) h3, Option.bind_some, if_pos rfl]
    exact rsm_loop hl hx h3 i (by omega)
end
theorem rSmall_spec {x : Int} (hx : nd x ≤ 1000000000000) : callX G n_gantryref04_Small [encI x] = some (.d (.tup [iv (smv x), bv (smb x)])) := by
  rw [callX_eq (cf := gantryref04_Small) rfl]
  have g1 := rOf_spec (n := 9223372036854775807) ⟨by omega, by omega⟩
  have g2 := rOf_spec (n := -9223372036854775808) ⟨by omega, by omega⟩
  have g3 := rCompare_spec (x := x) (y := 9223372036854775807) hx (Nat.le_trans (nd_i64 ⟨by omega, by omega⟩) (by omega))
  have g4 := rCompare_spec (x := x) (y := -9223372036854775808) hx (Nat.le_trans (nd_i64 ⟨by omega, by omega⟩) (by omega))
  simp only [iv] at g1 g2 g3 g4
  have c1 := sgn_gt (a := x - 9223372036854775807)
  have c2 := sgn_lt (a := x - -9223372036854775808)
  generalize Int.sign (x - 9223372036854775807) = s1 at *
  generalize Int.sign (x - -9223372036854775808) = s2 at *
  by_cases h1 : 0 < x - 9223372036854775807
  · rw [gt_t h1] at c1
    obtain ⟨b1, b2⟩ := smb_f (x := x) (fun h => by have := h.2; omega)
    simp -implicitDefEqProofs (maxSteps := 10000000) only [gantryref04_Small, bI, g1, g2, g3, g4, c1, b1, b2, toDs, ubt_, go_sem, reduceCtorEq, ↓reduceIte, Nat.reduceEqDiff, iv, bv]
  rw [gt_f h1] at c1
  by_cases h2 : x - -9223372036854775808 < 0
  · rw [lt_t h2] at c2
    obtain ⟨b1, b2⟩ := smb_f (x := x) (fun h => by have := h.1; omega)
    simp -implicitDefEqProofs (maxSteps := 10000000) only [gantryref04_Small, bI, g1, g2, g3, g4, c1, c2, b1, b2, toDs, ubt_, go_sem, reduceCtorEq, ↓reduceIte, Nat.reduceEqDiff, iv, bv]
  rw [lt_f h2] at c2
  have hI : I64 x := ⟨by omega, by omega⟩
  obtain ⟨b1, b2⟩ := smb_t hI
  obtain ⟨l, hl⟩ : ∃ l, digs x.natAbs = l := ⟨_, rfl⟩
  have h3 : l.length ≤ 3 := by rw [← hl]; exact nd_i64 hI
  have ll := lenA_dg l
  have e2 : w64 ((l.length : Int) - 1) = (l.length : Int) - 1 := w64_id (by omega) (by omega)
  have hlp := rsm_loop hl hI (by omega) l.length (Nat.le_refl _)
  have e0 : sgn (decide (x < 0)) 0 = 0 := by cases decide (x < 0) <;> rfl
  rw [List.drop_length, val, e0] at hlp
  simp only [rsm_st, rsm_en, bI, go_sem] at hlp
  simp -implicitDefEqProofs (maxSteps := 10000000) only [gantryref04_Small, bI, g1, g2, g3, g4, c1, c2, b1, b2, hl, ll, e2, hlp, toDs, ubt_, go_sem, reduceCtorEq, ↓reduceIte, Nat.reduceEqDiff, iv, bv]
end Go.AM

/- law04.same, ref04.Sub. -/
namespace Go.AM
open Go Go.RowKit
variable [Its]
theorem S4_refl {x : Int} (h : nd x ≤ 1000000000000) : callX G n_gantryref04_Same [encI x, encI x] = some (.d (bv true)) := s4_refl (b := decide (x < 0)) (l := digs x.natAbs) h
theorem sm4 {x y : Int} (e : x = y) (h : nd x ≤ 1000000000000) : callX G n_gantrylaw04_same [encI x, encI y] = some (.d (bv true)) := by
  subst e
  rw [callX_eq (cf := gantrylaw04_same) rfl]
  have g := S4_refl h
  simp only [bv] at g
  simp -implicitDefEqProofs (maxSteps := 10000000) only [gantrylaw04_same, bI, g, go_sem, reduceCtorEq, ↓reduceIte, Nat.reduceEqDiff, iv, bv]
theorem rSub4 {x y : Int} (hx : nd x ≤ 100000000000) (hy : nd y ≤ 100000000000) : callX G n_gantryref04_Sub [encI x, encI y] = some (.d (encI (x - y))) := by
  rw [callX_eq (cf := gantryref04_Sub) rfl]
  have g1 := rNeg_spec (x := y) (by omega)
  have g2 := rAdd_spec (x := x) (y := -y) (by omega) (by rw [nd_neg]; omega)
  rw [show x + -y = x - y by omega] at g2
  simp -implicitDefEqProofs (maxSteps := 10000000) only [gantryref04_Sub, bI, g1, g2, go_sem, reduceCtorEq, ↓reduceIte, Nat.reduceEqDiff, iv, bv]
end Go.AM

/- Bytes: arrays of bytes, the encoding of whole numbers (wire.Int, ref01.Int, both Ints, Same). -/
namespace Go.AM
open Go Go.RowKit

/-! ### Plain -/
def dlF : Nat → Nat → Nat
  | 0, _ => 0
  | f + 1, m => if m = 0 then 0 else 1 + dlF f (m / 256)
/-- How many bytes a magnitude takes (less than 2^64). -/
def dl (m : Nat) : Nat := dlF 8 m
theorem dlF_le : ∀ (f m : Nat), dlF f m ≤ f
  | 0, _ => Nat.le_refl _
  | f + 1, m => by
    rw [dlF]; split
    · omega
    · have := dlF_le f (m / 256); omega
theorem dlF_lt : ∀ (f m i : Nat), m < 256 ^ f → (0 < m / 256 ^ i ↔ i < dlF f m)
  | 0, m, i, h => by
    have : m = 0 := by simpa using h
    subst this
    rw [Nat.zero_div, dlF]; omega
  | f + 1, m, i, h => by
    rw [dlF]
    by_cases h0 : m = 0
    · subst h0; rw [Nat.zero_div, if_pos rfl]; omega
    · rw [if_neg h0]
      cases i with
      | zero => rw [Nat.pow_zero, Nat.div_one]; omega
      | succ i =>
        have h1 : m / 256 < 256 ^ f := by rw [Nat.pow_succ] at h; omega
        have := dlF_lt f (m / 256) i h1
        rw [Nat.pow_succ, Nat.mul_comm, ← Nat.div_div_eq_div_mul, this]
        omega
theorem dl_le (m : Nat) : dl m ≤ 8 := dlF_le _ _
theorem dl_lt {m : Nat} (h : m < 18446744073709551616) (i : Nat) : 0 < m / 256 ^ i ↔ i < dl m := dlF_lt 8 m i h
def bt (m i : Nat) : Int := ((m / 256 ^ i % 256 : Nat) : Int)
theorem bt_b (m i : Nat) : 0 ≤ bt m i ∧ bt m i < 256 := by unfold bt; omega
def flp (n : Int) (x : Int) : Int := if n < 0 then 255 - x else x
def mag (n : Int) : Nat := (if n < 0 then -1 - n else n).toNat
theorem mag_b {n : Int} (h : I64 n) : mag n < 9223372036854775808 := by
  obtain ⟨h1, h2⟩ := h
  unfold mag; split <;> omega
/-- The bytes below the i-th, from the top. -/
def dwn (n : Int) : Nat → List Int
  | 0 => []
  | i + 1 => flp n (bt (mag n) i) :: dwn n i
def wI (n : Int) : List Int := flp n (128 + (dl (mag n) : Nat)) :: dwn n (dl (mag n))
theorem dwn_len (n : Int) : ∀ i, (dwn n i).length = i
  | 0 => rfl
  | i + 1 => by rw [dwn, List.length_cons, dwn_len n i]
theorem wI_len (n : Int) : (wI n).length ≤ 9 := by
  rw [wI, List.length_cons, dwn_len]
  have := dl_le (mag n); omega
def Byt (l : List Int) : Prop := ∀ x ∈ l, 0 ≤ x ∧ x < 256
theorem flp_b {n x : Int} (h : 0 ≤ x ∧ x < 256) : 0 ≤ flp n x ∧ flp n x < 256 := by unfold flp; split <;> omega
theorem dwn_byt (n : Int) : ∀ i, Byt (dwn n i)
  | 0 => fun x hx => by cases hx
  | i + 1 => fun x hx => by
    rcases List.mem_cons.1 hx with rfl | h
    · exact flp_b (bt_b _ _)
    · exact dwn_byt n i x h
theorem wI_byt (n : Int) : Byt (wI n) := fun x hx => by
  rcases List.mem_cons.1 hx with rfl | h
  · have := dl_le (mag n); exact flp_b (by omega)
  · exact dwn_byt n _ x h
def wJ : List Int → List Int
  | [] => []
  | n :: l => wI n ++ wJ l
def wL (l : List Int) : List Int := wI (l.length : Nat) ++ wJ l
theorem wJ_len : ∀ l : List Int, (wJ l).length ≤ 9 * l.length
  | [] => Nat.le_refl _
  | n :: l => by
    rw [wJ, List.length_append, List.length_cons]
    have := wI_len n; have := wJ_len l; omega
theorem wJ_byt : ∀ l : List Int, Byt (wJ l)
  | [] => fun x hx => by cases hx
  | n :: l => fun x hx => by
    rcases List.mem_append.1 hx with h | h
    · exact wI_byt n x h
    · exact wJ_byt l x h
theorem wL_byt (l : List Int) : Byt (wL l) := fun x hx => by
  rcases List.mem_append.1 hx with h | h
  · exact wI_byt _ x h
  · exact wJ_byt l x h
theorem wL_len (l : List Int) : (wL l).length ≤ 9 + 9 * l.length := by
  rw [wL, List.length_append]
  have := wI_len ((l.length : Nat) : Int); have := wJ_len l; omega
theorem wJ_snoc (n : Int) : ∀ l : List Int, wJ (l ++ [n]) = wJ l ++ wI n
  | [] => by simp [wJ]
  | m :: l => by rw [List.cons_append, wJ, wJ_snoc n l, wJ, List.append_assoc]

/-! ### Rows and arrays of bytes -/
def uv (x : Int) : D := .v (.int .u8 x)
def rowU (l : List Int) : D := .row l.length (l.map uv)
def cellsU (l : List Int) : List A := l.map fun x => A.d (.v (.int .u8 x))
def arrU (n : Nat) (l : List Int) : Obj := ⟨1, n, cellsU l, false⟩
theorem cellsU_length (l : List Int) : (cellsU l).length = l.length := by simp [cellsU]
theorem cellsU_snoc (l : List Int) (v : Int) : cellsU l ++ [A.d (.v (.int .u8 v))] = cellsU (l ++ [v]) := by simp [cellsU]
theorem cellsU_app (l m : List Int) : cellsU l ++ List.map A.d (m.map uv) = cellsU (l ++ m) := by simp [cellsU, uv]
theorem cellsU_one (v : Int) : cellsU [v] = [A.d (.v (.int .u8 v))] := rfl
theorem refsL_U (ks : List Key) (l : List Int) : refsL ks (cellsU l) = true := by
  induction l with
  | nil => rfl
  | cons x r ih => simpa [cellsU, refsL, refs] using ih
theorem allD_U (l : List Int) : allD (cellsU l) = some (l.map uv) := by
  induction l with
  | nil => rfl
  | cons x r ih =>
    simp only [cellsU, List.map_cons, allD] at ih ⊢
    rw [ih]; rfl
theorem allone_U (l : List Int) : (l.map uv).all D.one = true := by
  induction l with
  | nil => rfl
  | cons x r ih => simp [uv, D.one, A.one]
theorem mapd_U (l : List Int) : List.map A.d (l.map uv) = cellsU l := by simp [cellsU, uv]
/-- An array of bytes that grows from nothing. -/
def gU (k : Nat) (l : List Int) : A := if l = [] then .d (.z true) else .own [k] l.length
def gUH (k : Nat) (l : List Int) : List (Key × Obj) := if l = [] then [] else [([k], arrU l.length l)]
theorem gU_nil (k : Nat) : gU k [] = .d (.z true) := rfl
theorem gUH_nil (k : Nat) : gUH k [] = [] := rfl
theorem gU_ne {k : Nat} {l : List Int} (h : l ≠ []) : gU k l = .own [k] l.length := if_neg h
theorem gUH_ne {k : Nat} {l : List Int} (h : l ≠ []) : gUH k l = [([k], arrU l.length l)] := if_neg h
theorem gU_one (k : Nat) (v : Int) : gU k [v] = .own [k] 1 := rfl
theorem gUH_one (k : Nat) (v : Int) : gUH k [v] = [([k], arrU 1 [v])] := rfl
theorem gU_snoc (k : Nat) (l : List Int) (v : Int) : gU k (l ++ [v]) = .own [k] (l.length + 1) := by rw [gU_ne (by simp)]; simp
theorem gUH_snoc (k : Nat) (l : List Int) (v : Int) : gUH k (l ++ [v]) = [([k], arrU (l.length + 1) (l ++ [v]))] := by rw [gUH_ne (by simp)]; simp
/-- Reads these bytes, nil or not. -/
def RwU (d : D) (l : List Int) : Prop := (d = .z true ∧ l = []) ∨ d = rowU l
theorem RwU.row (l : List Int) : RwU (rowU l) l := .inr rfl
theorem RwU.len {d : D} {l : List Int} (h : RwU d l) : lenA (.d d) = some l.length := by
  rcases h with ⟨rfl, rfl⟩ | rfl <;> rfl
theorem RwU.ixn {d : D} {l : List Int} (hr : RwU d l) {j : Nat} (h1 : j < l.length) (h : Hp) : ixaA h 1 (j : Int) (.d d) = some (.d (.rp ((l.drop j).map uv))) := by
  rcases hr with ⟨rfl, rfl⟩ | rfl
  · simp at h1
  · simp only [ixaA, guardO, rowU]
    rw [if_pos (by omega), Nat.mul_one, List.map_drop, Int.toNat_natCast]
theorem ldu (h : Hp) (l : List Int) {j : Nat} (h1 : j < l.length) : loadA h none (.d (.rp ((l.drop j).map uv))) = some (.d (.v (.int .u8 (l.getD j 0)))) := by
  simp only [loadA, ldrow]
  rw [List.head?_map, List.head?_drop]
  simp [h1, uv]
theorem RwU.src {d : D} {l : List Int} (hr : RwU d l) (st : St) : src st (.d d) = some (l.length, l.map uv) := by
  rcases hr with ⟨rfl, rfl⟩ | rfl <;> rfl
theorem RwU.ne {d : D} {l : List Int} (hr : RwU d l) (h : l ≠ []) : d = rowU l := by
  rcases hr with ⟨_, h0⟩ | rfl
  · exact absurd h0 h
  · rfl
theorem app_fU {n : Nat} (h : n ≤ 140737488351232) : (n ≤ bound) = True := eq_true (by simp only [bound]; omega)
def rU (l : List Int) : R := .own 1 l.length (l.map uv)
theorem u8m {n : Int} (h : 0 ≤ n ∧ n < 256) : IntKind.u8.wrap n = n := by
  unfold IntKind.wrap
  simp only [IntKind.signed, Bool.false_and, IntKind.bits]
  have : (2 : Int) ^ 8 = 256 := rfl
  rw [this]
  exact Int.emod_eq_of_lt h.1 h.2
theorem u8w (n : Int) : IntKind.u8.wrap n = n % 256 := by
  unfold IntKind.wrap
  simp only [IntKind.signed, Bool.false_and, IntKind.bits]
  rfl
theorem xor8_0 {a : Int} (h : 0 ≤ a ∧ a < 256) : binI .xor .u8 a 0 = some (.int .u8 a) := by
  obtain ⟨n, rfl⟩ : ∃ n : Nat, a = (n : Int) := ⟨a.toNat, by omega⟩
  show some (Value.int .u8 (IntKind.u8.wrap (((BitVec.ofInt 8 (n : Int)) ^^^ BitVec.ofInt 8 0).toNat : Nat))) = _
  have e : (BitVec.ofInt 8 (n : Int) ^^^ BitVec.ofInt 8 0) = BitVec.ofNat 8 n := by
    rw [BitVec.ofInt_natCast, show BitVec.ofInt 8 0 = 0#8 from rfl, BitVec.xor_zero]
  rw [e, BitVec.toNat_ofNat, u8w]
  congr 2
  omega
theorem xor8_1 {a : Int} (h : 0 ≤ a ∧ a < 256) : binI .xor .u8 a 255 = some (.int .u8 (255 - a)) := by
  obtain ⟨n, rfl⟩ : ∃ n : Nat, a = (n : Int) := ⟨a.toNat, by omega⟩
  show some (Value.int .u8 (IntKind.u8.wrap (((BitVec.ofInt 8 (n : Int)) ^^^ BitVec.ofInt 8 255).toNat : Nat))) = _
  have e : (BitVec.ofInt 8 (n : Int) ^^^ BitVec.ofInt 8 255) = ~~~ (BitVec.ofNat 8 n) := by
    rw [BitVec.ofInt_natCast, show BitVec.ofInt 8 255 = BitVec.allOnes 8 from rfl, BitVec.xor_allOnes]
  rw [e, BitVec.toNat_not, BitVec.toNat_ofNat, u8w]
  congr 2
  omega
theorem not64 {a : Int} (h : 0 ≤ a ∧ a < 18446744073709551616) : unV .xor (.int .u64 a) = some (.int .u64 (18446744073709551615 - a)) := by
  obtain ⟨n, rfl⟩ : ∃ n : Nat, a = (n : Int) := ⟨a.toNat, by omega⟩
  show some (Value.int .u64 (IntKind.u64.wrap (((BitVec.ofInt 64 IntKind.u64.max) ^^^ BitVec.ofInt 64 (n : Int)).toNat : Nat))) = _
  have e : (BitVec.ofInt 64 IntKind.u64.max ^^^ BitVec.ofInt 64 (n : Int)) = ~~~ (BitVec.ofNat 64 n) := by
    rw [BitVec.ofInt_natCast, show BitVec.ofInt 64 IntKind.u64.max = BitVec.allOnes 64 by decide, BitVec.allOnes_xor]
  rw [e, BitVec.toNat_not, BitVec.toNat_ofNat, wrap_u64]
  congr 2
  omega
theorem npow_cast (b i : Nat) : ((b ^ i : Nat) : Int) = (b : Int) ^ i := by
  induction i with
  | zero => rfl
  | succ i ih => rw [Nat.pow_succ, Int.pow_succ, ← ih]; rfl
theorem shr64 (m i : Nat) (h : i ≤ 8) : shI .shr .u64 (m : Int) ((8 * i : Nat) : Int) = some (.int .u64 ((m / 256 ^ i : Nat) : Int)) := by
  unfold shI
  rw [if_neg (by omega)]
  have e : min ((8 * i : Nat) : Int).toNat IntKind.u64.bits = 8 * i := by
    simp only [IntKind.bits, Int.toNat_natCast]; omega
  simp only [e]
  congr 2
  have e2 : (2 : Int) ^ (8 * i) = ((256 ^ i : Nat) : Int) := by
    rw [npow_cast, Int.pow_mul]; rfl
  rw [e2, Int.fdiv_eq_ediv_of_nonneg _ (Int.natCast_nonneg _)]
  rfl
def flb (n : Int) : Int := if n < 0 then 255 else 0
theorem xor8_f (n : Int) {a : Int} (h : 0 ≤ a ∧ a < 256) : binI .xor .u8 a (flb n) = some (.int .u8 (flp n a)) := by
  unfold flb flp
  split
  · exact xor8_1 h
  · exact xor8_0 h
variable [Its]
/-! ### wire.Int -/
def wk_st (m fl k : Int) : St := mkS [(3, .d (.v (.int .u64 m))), (4, .d (.v (.int .u8 fl))), (5, ai k)] []
theorem wk_loop {m : Nat} {fl : Int} (hm : m < 18446744073709551616) : ∀ k : Nat, k ≤ 8 → dl m ≤ k → X G (.loop wire_Int_l0) (wk_st m fl k) = some (.x 0, wk_st m fl (dl m : Nat))
  | 0, _, h => by
    have e1 : decide ((0 : Int) > 0) = false := rfl
    have hd : dl m = 0 := by omega
    rw [X_loop, hd]
    simp -implicitDefEqProofs (maxSteps := 10000000) only [wire_Int_l0, wk_st, e1, go_sem, reduceCtorEq, ↓reduceIte, Nat.reduceEqDiff, iv]
  | k + 1, hk, h => by
    have e1 : decide (((k + 1 : Nat) : Int) > 0) = true := gt_t (by omega)
    have e2 : w64 (((k + 1 : Nat) : Int) - 1) = (k : Int) := by rw [w64_id (by omega) (by omega)]; omega
    have e3 : w64 (8 * (k : Int)) = ((8 * k : Nat) : Int) := by rw [w64_id (by omega) (by omega)]; omega
    have e4 := shr64 m k (by omega)
    have hl := dl_lt hm k
    rw [X_loop]
    by_cases hc : k < dl m
    · have hd : dl m = k + 1 := by omega
      have e5 : decide (((m / 256 ^ k : Nat) : Int) > 0) = true := gt_t (by have := hl.2 hc; omega)
      rw [hd]
      generalize ((m / 256 ^ k : Nat) : Int) = q at *
      simp -implicitDefEqProofs (maxSteps := 10000000) only [wire_Int_l0, wk_st, e1, e2, e3, e4, e5, go_sem, reduceCtorEq, ↓reduceIte, Nat.reduceEqDiff, iv]
    · have e5 : decide (((m / 256 ^ k : Nat) : Int) > 0) = false := gt_f (fun h2 => hc (hl.1 (by omega)))
      have hx : X G wire_Int_l0 (wk_st m fl ((k + 1 : Nat) : Int)) = some (.n, wk_st m fl k) := by
        generalize ((m / 256 ^ k : Nat) : Int) = q at *
        simp -implicitDefEqProofs (maxSteps := 10000000) only [wire_Int_l0, wk_st, e1, e2, e3, e4, e5, go_sem, reduceCtorEq, ↓reduceIte, Nat.reduceEqDiff, iv]
      rw [hx, Option.bind_some, if_pos rfl]
      exact wk_loop hm k (by omega) (by omega)
def wo_st (m fl : Int) (L : List Int) (i : Int) : St := mkS [(3, .d (.v (.int .u64 m))), (4, .d (.v (.int .u8 fl))), (6, .own [29] L.length), (7, ai i)] [([29], arrU L.length L)]
def wo_en (L : List Int) : St := mkS [(6, .own [29] L.length)] [([29], arrU L.length L)]
theorem wo_loop {n : Int} (hm : mag n < 18446744073709551616) : ∀ (i : Nat) (L : List Int), i ≤ 8 → L.length + i ≤ 100 → X G (.loop wire_Int_l1) (wo_st (mag n : Nat) (flb n) L ((i : Int) - 1)) = some (.x 2, wo_en (L ++ dwn n i))
  | 0, L, _, _ => by
    have e1 : decide ((-1 : Int) ≥ 0) = false := rfl
    rw [X_loop, show ((0 : Nat) : Int) - 1 = -1 from rfl, dwn, List.append_nil]
    simp -implicitDefEqProofs (maxSteps := 10000000) only [wire_Int_l1, wo_st, wo_en, arrU, hupdO_none, refsL_U, e1, go_sem, reduceCtorEq, ↓reduceIte, Nat.reduceEqDiff, iv]
  | i + 1, L, hi, hL => by
    have e1 : decide ((i : Int) ≥ 0) = true := ge_t (by omega)
    have e2 : w64 ((i : Int) - 1) = (i : Int) - 1 := w64_id (by omega) (by omega)
    have e3 : w64 (8 * (i : Int)) = ((8 * i : Nat) : Int) := by rw [w64_id (by omega) (by omega)]; omega
    have e4 := shr64 (mag n) i (by omega)
    have e5 : IntKind.u8.wrap ((mag n / 256 ^ i : Nat) : Int) = bt (mag n) i := by rw [u8w]; unfold bt; omega
    have e6 := xor8_f n (bt_b (mag n) i)
    have f1 := app_fU (n := L.length + 1) (by omega)
    rw [X_loop, show ((i + 1 : Nat) : Int) - 1 = (i : Int) by omega, dwn, show L ++ flp n (bt (mag n) i) :: dwn n i = (L ++ [flp n (bt (mag n) i)]) ++ dwn n i by simp]
    have hx : X G wire_Int_l1 (wo_st (mag n : Nat) (flb n) L i) = some (.n, wo_st (mag n : Nat) (flb n) (L ++ [flp n (bt (mag n) i)]) ((i : Int) - 1)) := by
      have hlen : (L ++ [flp n (bt (mag n) i)]).length = L.length + 1 := by simp
      simp only [wo_st, hlen]
      simp -implicitDefEqProofs only [go_sem, Option.some.injEq, Value.int.injEq] at e6
      generalize flp n (bt (mag n) i) = z at *
      generalize ((mag n / 256 ^ i : Nat) : Int) = q at *
      generalize bt (mag n) i = b at *
      generalize flb n = fl at *
      generalize ((mag n : Nat) : Int) = m at *
      simp -implicitDefEqProofs (maxSteps := 10000000) only [wire_Int_l1, arrU, hupdO_none, refsL_U, cellsU_length, cellsU_snoc, f1, D.one, src_row, e1, e2, e3, e4, e5, e6, go_sem, reduceCtorEq, ↓reduceIte, Nat.reduceEqDiff, iv]
    rw [hx, Option.bind_some, if_pos rfl]
    exact wo_loop hm i _ (by omega) (by simp; omega)
theorem wInt_spec {n : Int} (hn : I64 n) : callX G n_wire_Int [iv n] = some (rU (wI n)) := by
  rw [callX_eq (cf := wire_Int) rfl]
  have hm := mag_b hn
  have hd := dl_le (mag n)
  have h1 := wk_loop (m := mag n) (fl := flb n) (by omega) 8 (by omega) hd
  rw [show ((8 : Nat) : Int) = 8 from rfl] at h1
  have h2 := wo_loop (n := n) (by omega) (dl (mag n)) [flp n (128 + (dl (mag n) : Nat))] hd (by rw [List.length_singleton]; omega)
  obtain ⟨h3, h4⟩ := hn
  have e3 : w64 (128 + (dl (mag n) : Nat)) = 128 + (dl (mag n) : Nat) := w64_id (by omega) (by omega)
  have e4 : IntKind.u8.wrap (128 + (dl (mag n) : Nat)) = 128 + (dl (mag n) : Nat) := u8m (by omega)
  have e5 := xor8_f n (a := 128 + (dl (mag n) : Nat)) (by omega)
  have e6 : w64 ((dl (mag n) : Nat) - 1) = (dl (mag n) : Nat) - 1 := w64_id (by omega) (by omega)
  rw [wI]
  have hl : ([flp n (128 + (dl (mag n) : Nat))] ++ dwn n (dl (mag n))) = flp n (128 + (dl (mag n) : Nat)) :: dwn n (dl (mag n)) := rfl
  rw [hl] at h2
  generalize hw : flp n (128 + (dl (mag n) : Nat)) :: dwn n (dl (mag n)) = W at *
  simp only [wk_st, wo_st, wo_en, arrU, List.length_cons, List.length_nil, go_sem] at h1 h2
  have c1 := cellsU_one (flp n (128 + (dl (mag n) : Nat)))
  generalize flp n (128 + (dl (mag n) : Nat)) = hd0 at *
  rw [c1] at h2
  by_cases hs : n < 0
  · have s1 : decide (n < 0) = true := lt_t hs
    have m1 : n % 18446744073709551616 = n + 18446744073709551616 := by omega
    have m2 := not64 (a := n + 18446744073709551616) (by omega)
    have m3 : 18446744073709551615 - (n + 18446744073709551616) = ((mag n : Nat) : Int) := by unfold mag; rw [if_pos hs]; omega
    rw [m3] at m2
    simp -implicitDefEqProofs only [go_sem, Option.some.injEq, Value.int.injEq] at m2
    have fb : flb n = 255 := if_pos hs
    rw [fb] at h1 h2 e5
    simp -implicitDefEqProofs only [go_sem, Option.some.injEq, Value.int.injEq] at e5
    generalize ((mag n : Nat) : Int) = m at *
    generalize ((dl (mag n) : Nat) : Int) = k at *
    simp -implicitDefEqProofs (maxSteps := 10000000) only [wire_Int, rU, hupdO_none, c1, refsL_U, allD_U, s1, m1, m2, h1, h2, e3, e4, e5, e6, go_sem, reduceCtorEq, ↓reduceIte, Nat.reduceEqDiff, iv]
  · have s1 : decide (n < 0) = false := lt_f hs
    have m1 : n % 18446744073709551616 = ((mag n : Nat) : Int) := by unfold mag; rw [if_neg hs]; omega
    have fb : flb n = 0 := if_neg hs
    rw [fb] at h1 h2 e5
    simp -implicitDefEqProofs only [go_sem, Option.some.injEq, Value.int.injEq] at e5
    generalize ((mag n : Nat) : Int) = m at *
    generalize ((dl (mag n) : Nat) : Int) = k at *
    simp -implicitDefEqProofs (maxSteps := 10000000) only [wire_Int, rU, hupdO_none, c1, refsL_U, allD_U, s1, m1, h1, h2, e3, e4, e5, e6, go_sem, reduceCtorEq, ↓reduceIte, Nat.reduceEqDiff, iv]
end Go.AM

/- ref01.Int, both Ints, both Encode, ref01.Same. -/
namespace Go.AM
open Go Go.RowKit

def upb (m : Nat) : Nat → List Int
  | 0 => []
  | i + 1 => upb m i ++ [bt m i]
theorem upb_len (m : Nat) : ∀ i, (upb m i).length = i
  | 0 => rfl
  | i + 1 => by rw [upb, List.length_append, upb_len m i]; rfl
theorem upb_get (m : Nat) : ∀ (n i : Nat), i < n → (upb m n).getD i 0 = bt m i
  | 0, i, h => by omega
  | n + 1, i, h => by
    rw [upb, List.getD_eq_getElem?_getD]
    by_cases h1 : i < n
    · rw [List.getElem?_append_left (by rw [upb_len]; exact h1), ← List.getD_eq_getElem?_getD]
      exact upb_get m n i h1
    · have : i = n := by omega
      subst this
      rw [List.getElem?_append_right (by rw [upb_len]; exact Nat.le_refl _), upb_len, Nat.sub_self]; rfl
theorem hupdO_non (h : Hp) (k : Key) (hk : h k = none) : hupdO h k none = h := by
  funext j
  simp only [hupdO]
  split
  · rename_i e; rw [e, hk]
  · rfl
theorem w64_nat {q : Nat} (h : q < 9223372036854775808) : w64 (q : Int) = (q : Int) := w64_id (by omega) (by omega)
theorem k256 : ((256 : Int) = 0) = False := by simp
theorem quo256 (m i : Nat) : ((m / 256 ^ i : Nat) : Int) / 256 = ((m / 256 ^ (i + 1) : Nat) : Int) := by
  rw [Nat.pow_succ, ← Nat.div_div_eq_div_mul]; rfl
variable [Its]
def ri_st (n m : Int) (L : List Int) : St := mkS [(0, ai n), (3, ai m), (4, gU 21 L)] (gUH 21 L)
def ri_en (n : Int) (L : List Int) : St := mkS [(0, ai n), (4, gU 21 L)] (gUH 21 L)
theorem ri_loop {n : Int} {m : Nat} (hm : m < 9223372036854775808) : ∀ j i : Nat, i + j = dl m → X G (.loop gantryref01_Int_l0) (ri_st n ((m / 256 ^ i : Nat) : Int) (upb m i)) = some (.x 0, ri_en n (upb m (dl m)))
  | 0, i, h => by
    have hl := dl_lt (m := m) (by omega) i
    have e1 : decide (((m / 256 ^ i : Nat) : Int) > 0) = false := gt_f (fun h2 => by have := hl.1 (by omega); omega)
    have : i = dl m := by omega
    rw [X_loop, ← this]
    generalize ((m / 256 ^ i : Nat) : Int) = q at *
    generalize upb m i = L at *
    by_cases h0 : L = []
    · subst h0
      simp -implicitDefEqProofs (maxSteps := 10000000) only [gantryref01_Int_l0, ri_st, ri_en, gU_nil, gUH_nil, hupdO_none, e1, go_sem, reduceCtorEq, ↓reduceIte, Nat.reduceEqDiff, iv]
    · simp -implicitDefEqProofs (maxSteps := 10000000) only [gantryref01_Int_l0, ri_st, ri_en, arrU, gU_ne h0, gUH_ne h0, refsL_U, e1, go_sem, reduceCtorEq, ↓reduceIte, Nat.reduceEqDiff, iv]
  | j + 1, i, h => by
    have hl := dl_lt (m := m) (by omega) i
    have hd := dl_le m
    have hpos := hl.2 (by omega)
    have e1 : decide (((m / 256 ^ i : Nat) : Int) > 0) = true := gt_t (by omega)
    have e2 := rem_pos (a := ((m / 256 ^ i : Nat) : Int)) (b := 256) (Int.natCast_nonneg _)
    have hle : m / 256 ^ i ≤ m := Nat.div_le_self _ _
    have hle2 : m / 256 ^ (i + 1) ≤ m := Nat.div_le_self _ _
    have e3 : w64 (((m / 256 ^ i : Nat) : Int).tdiv 256) = ((m / 256 ^ (i + 1) : Nat) : Int) := by
      rw [quo_pos (Int.natCast_nonneg _), quo256]
      exact w64_nat (Nat.lt_of_le_of_lt hle2 hm)
    have e4 : IntKind.u8.wrap (((m / 256 ^ i : Nat) : Int) % 256) = bt m i := by rw [u8w]; unfold bt; omega
    have f1 := app_fU (n := (upb m i).length + 1) (by rw [upb_len]; omega)
    have hx : X G gantryref01_Int_l0 (ri_st n ((m / 256 ^ i : Nat) : Int) (upb m i)) = some (.n, ri_st n ((m / 256 ^ (i + 1) : Nat) : Int) (upb m (i + 1))) := by
      rw [upb]
      generalize ((m / 256 ^ i : Nat) : Int) = q at *
      generalize ((m / 256 ^ (i + 1) : Nat) : Int) = q2 at *
      generalize upb m i = L at *
      generalize bt m i = b at *
      by_cases h0 : L = []
      · subst h0
        have f0 := app_fU (n := 1) (by omega)
        simp -implicitDefEqProofs (maxSteps := 10000000) only [gantryref01_Int_l0, ri_st, ri_en, arrU, gU_nil, gUH_nil, gU_one, gUH_one, hupdO_none, cellsU_one, D.one, allD, src_row, k256, f0, e1, e2, e3, e4, go_sem, reduceCtorEq, ↓reduceIte, Nat.reduceEqDiff, iv]
      · simp -implicitDefEqProofs (maxSteps := 10000000) only [gantryref01_Int_l0, ri_st, ri_en, arrU, gU_ne h0, gUH_ne h0, gU_snoc, gUH_snoc, refsL_U, cellsU_length, cellsU_snoc, f1, D.one, allD, src_row, k256, e1, e2, e3, e4, go_sem, reduceCtorEq, ↓reduceIte, Nat.reduceEqDiff, iv]
    rw [X_loop, hx, Option.bind_some, if_pos rfl]
    exact ri_loop hm j (i + 1) (by omega)
def rj_st (K : Nat) (n : Int) (U L : List Int) (i : Int) : St := mkS [(0, ai n), (4, gU 21 U), (6, .own [K] L.length), (7, ai i)] (gUH 21 U ++ [([K], arrU L.length L)])
def rj_en (K : Nat) (L : List Int) : St := mkS [(6, .own [K] L.length)] [([K], arrU L.length L)]
theorem rj_stop {K : Nat} (hK : K = 33 ∨ K = 39) {n : Int} {U L : List Int} : X G gantryref01_Int_l1 (rj_st K n U L (-1)) = some (.x 2, rj_en K L) := by
  have e1 : decide ((-1 : Int) ≥ 0) = false := rfl
  rcases hK with rfl | rfl
  · by_cases h0 : U = []
    · subst h0
      simp -implicitDefEqProofs (maxSteps := 10000000) only [gantryref01_Int_l1, rj_st, rj_en, arrU, gU_nil, gUH_nil, hupdO_non, List.nil_append, refsL_U, e1, go_sem, reduceCtorEq, ↓reduceIte, Nat.reduceEqDiff, iv]
    · simp -implicitDefEqProofs (maxSteps := 10000000) only [gantryref01_Int_l1, rj_st, rj_en, arrU, gU_ne h0, gUH_ne h0, List.cons_append, List.nil_append, hupdO_non, refsL_U, e1, go_sem, reduceCtorEq, ↓reduceIte, Nat.reduceEqDiff, iv]
  · by_cases h0 : U = []
    · subst h0
      simp -implicitDefEqProofs (maxSteps := 10000000) only [gantryref01_Int_l1, rj_st, rj_en, arrU, gU_nil, gUH_nil, hupdO_non, List.nil_append, refsL_U, e1, go_sem, reduceCtorEq, ↓reduceIte, Nat.reduceEqDiff, iv]
    · simp -implicitDefEqProofs (maxSteps := 10000000) only [gantryref01_Int_l1, rj_st, rj_en, arrU, gU_ne h0, gUH_ne h0, List.cons_append, List.nil_append, hupdO_non, refsL_U, e1, go_sem, reduceCtorEq, ↓reduceIte, Nat.reduceEqDiff, iv]
theorem rj_go {K : Nat} {n : Int} (hK : (K = 33 ∧ 0 ≤ n) ∨ (K = 39 ∧ n < 0)) {m k i : Nat} (hi : i < k) (hk : k ≤ 8) {L : List Int} (hL : L.length ≤ 100) :
    X G gantryref01_Int_l1 (rj_st K n (upb m k) L i) = some (.n, rj_st K n (upb m k) (L ++ [flp n (bt m i)]) ((i : Int) - 1)) := by
  have hU : upb m k ≠ [] := fun h => by have := upb_len m k; rw [h] at this; simp at this; omega
  have e1 : decide ((i : Int) ≥ 0) = true := ge_t (by omega)
  have e2 : w64 ((i : Int) - 1) = (i : Int) - 1 := w64_id (by omega) (by omega)
  have x1 : guardO (0 ≤ (i : Int) ∧ (i : Int) < (upb m k).length) (some (A.ep [21] (upb m k).length i)) = some (A.ep [21] (upb m k).length i) := if_pos (by rw [upb_len]; omega)
  have x2 : ∀ c : List Int, (cellsU c)[i]? = (c[i]?).map fun x => A.d (.v (.int .u8 x)) := fun c => by rw [cellsU, List.getElem?_map]
  have x3 : (upb m k)[i]? = some (bt m i) := by
    have h1 : i < (upb m k).length := by rw [upb_len]; exact hi
    have := upb_get m k i hi
    rw [List.getD_eq_getElem?_getD, List.getElem?_eq_getElem h1] at this
    rw [List.getElem?_eq_getElem h1]
    exact congrArg some this
  have f1 := app_fU (n := L.length + 1) (by omega)
  have hb := bt_b m i
  have lt1 : (0 ≤ (i : Int) ∧ (i : Int) < ((upb m k).length : Int)) = True := eq_true (by rw [upb_len]; omega)
  have hlen : ∀ z : Int, (L ++ [z]).length = L.length + 1 := fun z => by simp
  simp only [rj_st, hlen]
  unfold flp
  generalize upb m k = U at *
  generalize bt m i = b at *
  rcases hK with ⟨rfl, hs⟩ | ⟨rfl, hs⟩
  · have s1 : decide (n < 0) = false := lt_f (by omega)
    rw [if_neg (by omega)]
    simp -implicitDefEqProofs (maxSteps := 10000000) only [gantryref01_Int_l1, arrU, gU_ne hU, gUH_ne hU, List.cons_append, List.nil_append, hupdO_non, refsL_U, cellsU_length, cellsU_snoc, f1, lt1, x2, x3, ldcells, D.one, allD, src_row, e1, e2, s1, go_sem, reduceCtorEq, ↓reduceIte, Nat.reduceEqDiff, iv]
  · have s1 : decide (n < 0) = true := lt_t hs
    have e3 : IntKind.u8.wrap (255 - b) = 255 - b := u8m (by omega)
    rw [if_pos hs]
    simp -implicitDefEqProofs (maxSteps := 10000000) only [gantryref01_Int_l1, arrU, gU_ne hU, gUH_ne hU, List.cons_append, List.nil_append, hupdO_non, refsL_U, cellsU_length, cellsU_snoc, f1, lt1, x2, x3, ldcells, D.one, allD, src_row, e1, e2, e3, s1, go_sem, reduceCtorEq, ↓reduceIte, Nat.reduceEqDiff, iv]
end Go.AM

/- ref01.Int; both Ints; both Encode; ref01.Same. -/
namespace Go.AM
open Go Go.RowKit
theorem retA_rU (k : Key) (h : Hp) (l : List Int) : retA k h false true (rU l) = some (.d (rowU l), h) := rfl
/-! ### Encode -/
def enI (x : Int) : List Int := wL (Int.sign x :: digs x.natAbs)
theorem sign_i64 (x : Int) : I64 (Int.sign x) := by
  rcases Int.lt_trichotomy x 0 with h | h | h
  · rw [Int.sign_eq_neg_one_of_neg h]; exact ⟨by omega, by omega⟩
  · subst h; exact ⟨by decide, by decide⟩
  · rw [Int.sign_eq_one_of_pos h]; exact ⟨by omega, by omega⟩
theorem en_i64 (x : Int) : ∀ n ∈ Int.sign x :: digs x.natAbs, I64 n := fun n hn => by
  rcases List.mem_cons.1 hn with rfl | h
  · exact sign_i64 x
  · have := digs_dig _ n h; exact ⟨by omega, by omega⟩
theorem enI_len {x : Int} (hx : nd x ≤ 100000000000) : (enI x).length ≤ 1000000000000 := by
  have := wL_len (Int.sign x :: digs x.natAbs)
  have hn : (digs x.natAbs).length ≤ 100000000000 := hx
  rw [List.length_cons] at this
  rw [enI]; omega

variable [Its]

theorem rj_loop {K : Nat} {n : Int} (hK : (K = 33 ∧ 0 ≤ n) ∨ (K = 39 ∧ n < 0)) {k : Nat} (hk : k ≤ 8) : ∀ (i : Nat) (L : List Int), i ≤ k → L.length + i ≤ 100 → X G (.loop gantryref01_Int_l1) (rj_st K n (upb (mag n) k) L ((i : Int) - 1)) = some (.x 2, rj_en K (L ++ dwn n i))
  | 0, L, _, _ => by
    rw [X_loop, show ((0 : Nat) : Int) - 1 = -1 from rfl, rj_stop (by rcases hK with h | h; exact .inl h.1; exact .inr h.1), dwn, List.append_nil]; rfl
  | i + 1, L, hi, hL => by
    rw [X_loop, show ((i + 1 : Nat) : Int) - 1 = (i : Int) by omega, rj_go hK (by omega) hk (by omega), Option.bind_some, if_pos rfl, dwn, show L ++ flp n (bt (mag n) i) :: dwn n i = (L ++ [flp n (bt (mag n) i)]) ++ dwn n i by simp]
    exact rj_loop hK hk i _ (by omega) (by rw [List.length_append, List.length_singleton]; omega)
theorem rInt_spec {n : Int} (hn : I64 n) : callX G n_gantryref01_Int [iv n] = some (rU (wI n)) := by
  rw [callX_eq (cf := gantryref01_Int) rfl]
  have hm := mag_b hn
  have hd := dl_le (mag n)
  have h1 := ri_loop (n := n) hm (dl (mag n)) 0 (by omega)
  rw [Nat.pow_zero, Nat.div_one, upb] at h1
  have lU := upb_len (mag n) (dl (mag n))
  have e2 : w64 ((dl (mag n) : Nat) - 1) = (dl (mag n) : Nat) - 1 := w64_id (by omega) (by omega)
  obtain ⟨h3, h4⟩ := hn
  rw [wI]
  have f0 := app_fU (n := 1) (by omega)
  have fl : lenA (gU 21 (upb (mag n) (dl (mag n)))) = some (dl (mag n)) := by
    by_cases h0 : upb (mag n) (dl (mag n)) = []
    · rw [h0, gU_nil]
      rw [h0] at lU
      rw [← lU]; rfl
    · rw [gU_ne h0, lenA_own, lU]
  have fg : gU 21 (upb (mag n) (dl (mag n))) = .d (.z true) ∧ gUH 21 (upb (mag n) (dl (mag n))) = [] ∨ gU 21 (upb (mag n) (dl (mag n))) = .own [21] (dl (mag n)) ∧ gUH 21 (upb (mag n) (dl (mag n))) = [([21], arrU (dl (mag n)) (upb (mag n) (dl (mag n))))] := by
    by_cases h0 : upb (mag n) (dl (mag n)) = []
    · exact .inl ⟨by rw [h0, gU_nil], by rw [h0, gUH_nil]⟩
    · exact .inr ⟨by rw [gU_ne h0, lU], by rw [gUH_ne h0, lU]⟩
  by_cases hs : n < 0
  · have s1 : decide (n < 0) = true := lt_t hs
    have s2 : decide (n ≥ 0) = false := ge_f (by omega)
    have m1 : w64 (-1 - n) = ((mag n : Nat) : Int) := by
      unfold mag
      rw [if_pos hs, w64_id (by omega) (by omega)]; omega
    obtain ⟨hd0, hh⟩ : ∃ h0, 127 - ((dl (mag n) : Nat) : Int) = h0 := ⟨_, rfl⟩
    have e3 : w64 (127 - ((dl (mag n) : Nat) : Int)) = hd0 := by rw [w64_id (by omega) (by omega)]; exact hh
    have e4 : IntKind.u8.wrap hd0 = hd0 := u8m (by omega)
    have e5 : flp n (128 + ((dl (mag n) : Nat) : Int)) = hd0 := by unfold flp; rw [if_pos hs]; omega
    have h2 := rj_loop (K := 39) (.inr ⟨rfl, hs⟩) hd (dl (mag n)) [hd0] (Nat.le_refl _) (by rw [List.length_singleton]; omega)
    have hl : ([hd0] ++ dwn n (dl (mag n))) = (hd0) :: dwn n (dl (mag n)) := rfl
    rw [hl] at h2
    rw [e5]
    simp only [rj_st, rj_en, ri_st, ri_en, gU_nil, gUH_nil, List.length_singleton] at h1 h2
    generalize gU 21 (upb (mag n) (dl (mag n))) = u at *
    generalize gUH 21 (upb (mag n) (dl (mag n))) = uh at *
    clear e5 hl lU
    have c1 := cellsU_one (hd0)
    generalize (hd0) :: dwn n (dl (mag n)) = W at *
    generalize upb (mag n) (dl (mag n)) = U at *
    generalize ((mag n : Nat) : Int) = m at *
    rcases fg with ⟨rfl, rfl⟩ | ⟨rfl, rfl⟩
    · simp only [arrU, List.nil_append, c1, go_sem] at h1 h2
      simp -implicitDefEqProofs (maxSteps := 10000000) only [gantryref01_Int, rU, hupdO_non, fl, c1, f0, refsL_U, allD_U, src_row, D.one, allD, s1, s2, m1, h1, h2, e2, e3, e4, go_sem, reduceCtorEq, ↓reduceIte, Nat.reduceEqDiff, iv]
    · simp only [arrU, List.cons_append, List.nil_append, c1, go_sem] at h1 h2
      simp -implicitDefEqProofs (maxSteps := 10000000) only [gantryref01_Int, rU, hupdO_non, fl, c1, f0, refsL_U, allD_U, src_row, D.one, allD, s1, s2, m1, h1, h2, e2, e3, e4, go_sem, reduceCtorEq, ↓reduceIte, Nat.reduceEqDiff, iv]
  · have s1 : decide (n < 0) = false := lt_f hs
    have s2 : decide (n ≥ 0) = true := ge_t (by omega)
    have m1 : n = ((mag n : Nat) : Int) := by
      unfold mag
      rw [if_neg hs]; omega
    obtain ⟨hd0, hh⟩ : ∃ h0, 128 + ((dl (mag n) : Nat) : Int) = h0 := ⟨_, rfl⟩
    have e3 : w64 (128 + ((dl (mag n) : Nat) : Int)) = hd0 := by rw [w64_id (by omega) (by omega)]; exact hh
    have e4 : IntKind.u8.wrap hd0 = hd0 := u8m (by omega)
    have e5 : flp n (128 + ((dl (mag n) : Nat) : Int)) = hd0 := by unfold flp; rw [if_neg hs]; exact hh
    have h2 := rj_loop (K := 33) (n := n) (.inl ⟨rfl, by omega⟩) hd (dl (mag n)) [hd0] (Nat.le_refl _) (by rw [List.length_singleton]; omega)
    have hl : ([hd0] ++ dwn n (dl (mag n))) = (hd0) :: dwn n (dl (mag n)) := rfl
    rw [hl] at h2
    rw [e5]
    rw [← m1] at h1
    simp only [rj_st, rj_en, ri_st, ri_en, gU_nil, gUH_nil, List.length_singleton] at h1 h2
    generalize gU 21 (upb (mag n) (dl (mag n))) = u at *
    generalize gUH 21 (upb (mag n) (dl (mag n))) = uh at *
    clear e5 hl lU m1
    have c1 := cellsU_one (hd0)
    generalize (hd0) :: dwn n (dl (mag n)) = W at *
    generalize upb (mag n) (dl (mag n)) = U at *
    rcases fg with ⟨rfl, rfl⟩ | ⟨rfl, rfl⟩
    · simp only [arrU, List.nil_append, c1, go_sem] at h1 h2
      simp -implicitDefEqProofs (maxSteps := 10000000) only [gantryref01_Int, rU, hupdO_non, fl, c1, f0, refsL_U, allD_U, src_row, D.one, allD, s1, s2, h1, h2, e2, e3, e4, go_sem, reduceCtorEq, ↓reduceIte, Nat.reduceEqDiff, iv]
    · simp only [arrU, List.cons_append, List.nil_append, c1, go_sem] at h1 h2
      simp -implicitDefEqProofs (maxSteps := 10000000) only [gantryref01_Int, rU, hupdO_non, fl, c1, f0, refsL_U, allD_U, src_row, D.one, allD, s1, s2, h1, h2, e2, e3, e4, go_sem, reduceCtorEq, ↓reduceIte, Nat.reduceEqDiff, iv]

/-! ### Ints -/
def rk_st (d : D) (L : List Int) (i : Int) : St := mkS [(0, .d d), (3, .own [7] L.length), (4, ai i)] [([7], arrU L.length L)]
def rk_en (L : List Int) : St := mkS [(3, .own [7] L.length)] [([7], arrU L.length L)]
def wk2_st (d : D) (L : List Int) (n i : Int) : St := mkS [(3, .own [8] L.length), (9, .d d), (10, ai n), (11, ai i)] [([8], arrU L.length L)]
def wk2_en (L : List Int) : St := mkS [(3, .own [8] L.length)] [([8], arrU L.length L)]
section
variable {d : D} {l : List Int}
theorem rk_loop (hr : Rw d l) (hl : ∀ n ∈ l, I64 n) (hn : l.length ≤ 1000000000000) : ∀ (j i : Nat) (L : List Int), i + j = l.length → L.length ≤ 9 + 9 * i → X G (.loop gantryref01_Ints_l0) (rk_st d L i) = some (.x 0, rk_en (L ++ wJ (l.drop i)))
  | 0, i, L, hj, hL => by
    have ll := hr.len
    have e1 : decide ((i : Int) < (l.length : Int)) = false := lt_f (by omega)
    rw [X_loop, List.drop_eq_nil_of_le (by omega), wJ, List.append_nil]
    simp -implicitDefEqProofs (maxSteps := 10000000) only [gantryref01_Ints_l0, rk_st, rk_en, arrU, hupdO_non, ll, refsL_U, e1, go_sem, reduceCtorEq, ↓reduceIte, Nat.reduceEqDiff, iv]
  | j + 1, i, L, hj, hL => by
    have ll := hr.len
    have hi : i < l.length := by omega
    have e1 : decide ((i : Int) < (l.length : Int)) = true := lt_t (by omega)
    have e2 : w64 ((i : Int) + 1) = ((i + 1 : Nat) : Int) := by rw [w64_id (by omega) (by omega)]; rfl
    have x1 := hr.ixn hi
    have x2 := fun h => ldv h l hi
    have hx : I64 (l.getD i 0) := hl _ (by rw [List.getD_eq_getElem?_getD, List.getElem?_eq_getElem hi]; exact List.getElem_mem hi)
    have hdr : l.drop i = l.getD i 0 :: l.drop (i + 1) := by
      rw [List.drop_eq_getElem_cons hi, List.getD_eq_getElem?_getD, List.getElem?_eq_getElem hi]; rfl
    rw [hdr, wJ, ← List.append_assoc]
    generalize l.getD i 0 = x at *
    have g := rInt_spec hx
    have lw := wI_len x
    have f1 := app_fU (n := L.length + (wI x).length) (by omega)
    have f2 := allone_U (wI x)
    generalize wI x = W at *
    simp only [iv, rU] at g
    have hl2 : (L ++ W).length = L.length + W.length := List.length_append
    have hgo : X G gantryref01_Ints_l0 (rk_st d L i) = some (.n, rk_st d (L ++ W) ((i + 1 : Nat) : Int)) := by
      simp only [rk_st, hl2]
      simp -implicitDefEqProofs (maxSteps := 10000000) only [gantryref01_Ints_l0, arrU, hupdO_non, ll, x1, x2, g, f1, f2, refsL_U, cellsU_length, cellsU_app, List.length_map, src_row, e1, e2, go_sem, reduceCtorEq, ↓reduceIte, Nat.reduceEqDiff, iv]
    rw [X_loop, hgo, Option.bind_some, if_pos rfl]
    exact rk_loop hr hl hn j (i + 1) _ (by omega) (by rw [hl2]; omega)
theorem wk2_loop (hr : Rw d l) (hl : ∀ n ∈ l, I64 n) (hn : l.length ≤ 1000000000000) : ∀ (j i : Nat) (L : List Int), i + j = l.length → L.length ≤ 9 + 9 * i → X G (.loop wire_Ints_l0) (wk2_st d L l.length i) = some (.x 0, wk2_en (L ++ wJ (l.drop i)))
  | 0, i, L, hj, hL => by
    have ll := hr.len
    have e1 : decide ((i : Int) < (l.length : Int)) = false := lt_f (by omega)
    rw [X_loop, List.drop_eq_nil_of_le (by omega), wJ, List.append_nil]
    simp -implicitDefEqProofs (maxSteps := 10000000) only [wire_Ints_l0, wk2_st, wk2_en, arrU, hupdO_non, ll, refsL_U, e1, go_sem, reduceCtorEq, ↓reduceIte, Nat.reduceEqDiff, iv]
  | j + 1, i, L, hj, hL => by
    have hi : i < l.length := by omega
    have e1 : decide ((i : Int) < (l.length : Int)) = true := lt_t (by omega)
    have e2 : w64 ((i : Int) + 1) = ((i + 1 : Nat) : Int) := by rw [w64_id (by omega) (by omega)]; rfl
    have x1 := hr.ixn hi
    have x2 := fun h => ldv h l hi
    have hx : I64 (l.getD i 0) := hl _ (by rw [List.getD_eq_getElem?_getD, List.getElem?_eq_getElem hi]; exact List.getElem_mem hi)
    have hdr : l.drop i = l.getD i 0 :: l.drop (i + 1) := by
      rw [List.drop_eq_getElem_cons hi, List.getD_eq_getElem?_getD, List.getElem?_eq_getElem hi]; rfl
    rw [hdr, wJ, ← List.append_assoc]
    generalize l.getD i 0 = x at *
    have g := wInt_spec hx
    have lw := wI_len x
    have f1 := app_fU (n := L.length + (wI x).length) (by omega)
    have f2 := allone_U (wI x)
    generalize wI x = W at *
    simp only [iv, rU] at g
    have hl2 : (L ++ W).length = L.length + W.length := List.length_append
    have hgo : X G wire_Ints_l0 (wk2_st d L l.length i) = some (.n, wk2_st d (L ++ W) l.length ((i + 1 : Nat) : Int)) := by
      simp only [wk2_st, hl2]
      simp -implicitDefEqProofs (maxSteps := 10000000) only [wire_Ints_l0, arrU, hupdO_non, x1, x2, g, f1, f2, refsL_U, cellsU_length, cellsU_app, List.length_map, src_row, e1, e2, go_sem, reduceCtorEq, ↓reduceIte, Nat.reduceEqDiff, iv]
    rw [X_loop, hgo, Option.bind_some, if_pos rfl]
    exact wk2_loop hr hl hn j (i + 1) _ (by omega) (by rw [hl2]; omega)
theorem rInts_spec (hr : Rw d l) (hl : ∀ n ∈ l, I64 n) (hn : l.length ≤ 1000000000000) : callX G n_gantryref01_Ints [d] = some (rU (wL l)) := by
  rw [callX_eq (cf := gantryref01_Ints) rfl]
  have ll := hr.len
  have g := rInt_spec (n := (l.length : Nat)) ⟨by omega, by omega⟩
  have lw := wI_len ((l.length : Nat) : Int)
  have h := rk_loop hr hl hn l.length 0 (wI (l.length : Nat)) (by omega) (by omega)
  rw [List.drop_zero] at h
  rw [wL]
  generalize wI ((l.length : Nat) : Int) ++ wJ l = W at *
  generalize wI ((l.length : Nat) : Int) = V at *
  have c1 := mapd_U V
  simp only [rk_st, rk_en, arrU, go_sem, nc0] at h
  simp only [iv, rU] at g
  simp -implicitDefEqProofs (maxSteps := 10000000) only [gantryref01_Ints, rU, hupdO_non, ll, g, h, c1, refsL_U, allD_U, go_sem, reduceCtorEq, ↓reduceIte, Nat.reduceEqDiff, iv]
theorem wInts_spec (hr : Rw d l) (hl : ∀ n ∈ l, I64 n) (hn : l.length ≤ 1000000000000) : callX G n_wire_Ints [d] = some (rU (wL l)) := by
  rw [callX_eq (cf := wire_Ints) rfl]
  have ll := hr.len
  have g := wInt_spec (n := (l.length : Nat)) ⟨by omega, by omega⟩
  have lw := wI_len ((l.length : Nat) : Int)
  have h := wk2_loop hr hl hn l.length 0 (wI (l.length : Nat)) (by omega) (by omega)
  rw [List.drop_zero] at h
  rw [wL]
  generalize wI ((l.length : Nat) : Int) ++ wJ l = W at *
  generalize wI ((l.length : Nat) : Int) = V at *
  have c1 := mapd_U V
  simp only [wk2_st, wk2_en, arrU, go_sem, nc0] at h
  simp only [iv, rU] at g
  simp -implicitDefEqProofs (maxSteps := 10000000) only [wire_Ints, rU, hupdO_non, ll, g, h, c1, refsL_U, allD_U, go_sem, reduceCtorEq, ↓reduceIte, Nat.reduceEqDiff, iv]
end

theorem Encode_spec {x : Int} (hx : nd x ≤ 100000000000) : callX G n_integer_Encode [encI x] = some (.d (rowU (enI x))) := by
  rw [callX_eq (cf := integer_Encode) rfl]
  have hn : (digs x.natAbs).length ≤ 100000000000 := hx
  have g1 := Sign_spec x
  have g2 := wInts_spec (Rw.row (Int.sign x :: digs x.natAbs)) (en_i64 x) (by rw [List.length_cons]; omega)
  have sd := fun st => src_dg st (digs x.natAbs)
  have f1 := (show ((1 + (digs x.natAbs).length) * 8 ≤ bound) = True from eq_true (by simp only [bound]; omega))
  have f2 : List.all ((digs x.natAbs).map iv) D.one = true := by simp [iv, D.one, A.one]
  have f3 : ((digs x.natAbs).map iv).length = (digs x.natAbs).length := List.length_map _
  rw [enI]
  have hr : rowI (Int.sign x :: digs x.natAbs) = .row (1 + (digs x.natAbs).length) (.v (.int .i64 (Int.sign x)) :: (digs x.natAbs).map iv) := by rw [rowI, List.length_cons, Nat.add_comm]; rfl
  rw [hr] at g2
  generalize wL (Int.sign x :: digs x.natAbs) = W at *
  generalize Int.sign x = s at *
  simp only [iv, rU] at g1 g2
  simp -implicitDefEqProofs (maxSteps := 10000000) only [integer_Encode, bI, rowU, sd, f1, f2, f3, g1, g2, go_sem, reduceCtorEq, ↓reduceIte, Nat.reduceEqDiff, iv]
theorem rEncode_spec {x : Int} (hx : nd x ≤ 100000000000) : callX G n_gantryref04_Encode [encI x] = some (.d (rowU (enI x))) := by
  rw [callX_eq (cf := gantryref04_Encode) rfl]
  have hn : (digs x.natAbs).length ≤ 100000000000 := hx
  have g1 := rSign_spec (x := x) (by omega)
  have g2 := rInts_spec (Rw.row (Int.sign x :: digs x.natAbs)) (en_i64 x) (by rw [List.length_cons]; omega)
  have sd := fun st => src_dg st (digs x.natAbs)
  have f1 := (show ((1 + (digs x.natAbs).length) * 8 ≤ bound) = True from eq_true (by simp only [bound]; omega))
  have f2 : List.all ((digs x.natAbs).map iv) D.one = true := by simp [iv, D.one, A.one]
  have f3 : ((digs x.natAbs).map iv).length = (digs x.natAbs).length := List.length_map _
  rw [enI]
  have hr : rowI (Int.sign x :: digs x.natAbs) = .row (1 + (digs x.natAbs).length) (.v (.int .i64 (Int.sign x)) :: (digs x.natAbs).map iv) := by rw [rowI, List.length_cons, Nat.add_comm]; rfl
  rw [hr] at g2
  generalize wL (Int.sign x :: digs x.natAbs) = W at *
  generalize Int.sign x = s at *
  simp only [iv, rU] at g1 g2
  simp -implicitDefEqProofs (maxSteps := 10000000) only [gantryref04_Encode, bI, rowU, sd, f1, f2, f3, g1, g2, go_sem, reduceCtorEq, ↓reduceIte, Nat.reduceEqDiff, iv]
/-! ### Same -/
def bs_st (d e : D) (i : Int) : St := mkS [(0, .d d), (1, .d e), (5, ai i)] []
theorem bs_loop {d e : D} {l : List Int} (h1 : RwU d l) (h2 : RwU e l) (hn : l.length ≤ 1000000000000) : ∀ j i : Nat, i + j = l.length → X G (.loop gantryref01_Same_l0) (bs_st d e i) = some (.x 0, mkS [] [])
  | 0, i, hj => by
    have l1 := h1.len
    have e1 : decide ((i : Int) < (l.length : Int)) = false := lt_f (by omega)
    rw [X_loop]
    simp -implicitDefEqProofs (maxSteps := 10000000) only [gantryref01_Same_l0, bs_st, l1, e1, go_sem, reduceCtorEq, ↓reduceIte, Nat.reduceEqDiff, iv]
  | j + 1, i, hj => by
    have l1 := h1.len
    have hi : i < l.length := by omega
    have e1 : decide ((i : Int) < (l.length : Int)) = true := lt_t (by omega)
    have e2 : w64 ((i : Int) + 1) = ((i + 1 : Nat) : Int) := by rw [w64_id (by omega) (by omega)]; rfl
    have x1 := h1.ixn hi
    have x3 := h2.ixn hi
    have x2 := fun h => ldu h l hi
    have e3 : (l.getD i 0 != l.getD i 0) = false := bne_self_eq_false _
    have hx : X G gantryref01_Same_l0 (bs_st d e i) = some (.n, bs_st d e ((i + 1 : Nat) : Int)) := by
      simp -implicitDefEqProofs (maxSteps := 10000000) only [gantryref01_Same_l0, bs_st, l1, x1, x2, x3, e1, e2, e3, go_sem, reduceCtorEq, ↓reduceIte, Nat.reduceEqDiff, iv]
    rw [X_loop, hx, Option.bind_some, if_pos rfl]
    exact bs_loop h1 h2 hn j (i + 1) (by omega)
theorem bSame_refl {d e : D} {l : List Int} (h1 : RwU d l) (h2 : RwU e l) (hn : l.length ≤ 1000000000000) : callX G n_gantryref01_Same [d, e] = some (.d (bv true)) := by
  rw [callX_eq (cf := gantryref01_Same) rfl]
  have l1 := h1.len
  have l2 := h2.len
  have h := bs_loop h1 h2 hn l.length 0 (by omega)
  have e1 : ((l.length : Int) != (l.length : Int)) = false := bne_self_eq_false _
  simp only [bs_st, go_sem, nc0] at h
  simp -implicitDefEqProofs (maxSteps := 10000000) only [gantryref01_Same, l1, l2, e1, h, go_sem, reduceCtorEq, ↓reduceIte, Nat.reduceEqDiff, iv, bv]
end Go.AM

