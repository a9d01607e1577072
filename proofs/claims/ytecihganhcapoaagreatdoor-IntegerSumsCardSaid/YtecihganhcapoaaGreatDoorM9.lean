/- Part 9 of the proof: a small machine, its soundness against the model, and what the program's functions compute on it. -/
import Derived.Test.YtecihganhcapoaaGreatDoorM7
import Derived.Test.YtecihganhcapoaaGreatDoorM8
import Derived.Shelf.Strings.BuilderK
import Derived.Shelf.Strings.Repeat
import Derived.Shelf.LaysM
import Derived.Shelf.Strconv.Itoa3
import Derived.Shelf.Strings.SlTrimAscii
import Derived.Test.YtecihganhcapoaaGreatDoorProg
import Derived.WalkKit
import Derived.BigCall
import Derived.Lib.AppendIntMem
import Derived.Lib.OthersKept
import Derived.KernelRfl
import Derived.Test.YtecihganhcapoaaGreatDoorM6
import GoSem.Claims
import Derived.Lib.LaidTab
import Derived.LaidMore
import Derived.MakeChecks
import Derived.Test.YtecihganhcapoaaGreatDoorCards
import Derived.Test.YtecihganhcapoaaGreatDoorTie
import Derived.ProofKit
import Derived.OpenShut
import Derived.ShutString
import Derived.ChangeOld
import Derived.Below
import Derived.SizedLaws
import Derived.Lay
import Derived.SevenTiedAt
import Derived.Stop.Joined
set_option linter.unusedVariables false
set_option linter.unusedSimpArgs false
/- integer.Sub (where the seat has it) -/
namespace Go.AM
open Go Go.RowKit
variable [Its]

theorem Sub_spec {x y : Int} (hx : nd x ≤ 1000000000000) (hy : nd y ≤ 1000000000000) : callX G n_integer_Sub [encI x, encI y] = some (.d (encI (x - y))) := by
  rw [callX_eq (cf := integer_Sub) rfl]
  have g1 := Neg_spec y
  have g2 := Add_spec (x := x) (y := -y) hx (by rw [nd_neg]; exact hy)
  rw [show x + -y = x - y by omega] at g2
  simp -implicitDefEqProofs (maxSteps := 10000000) only [integer_Sub, go_sem, g1, g2, reduceCtorEq, ↓reduceIte, Nat.reduceEqDiff]

end Go.AM

/- integer.Small, ref04.Small. -/
namespace Go.AM
open Go Go.RowKit

def au (u : Int) : A := .d (.v (.int .u64 u))
attribute [go_sem] au
theorem w64_hi {n : Int} (h0 : 9223372036854775808 ≤ n) (h1 : n < 18446744073709551616) : w64 n = n - 18446744073709551616 := by
  rw [← wrap_i64]
  unfold IntKind.wrap
  simp only [IntKind.signed, IntKind.bits, Bool.true_and, decide_eq_true_eq, ge_iff_le]
  by_cases h : (2 : Int) ^ (64 - 1) ≤ n % 2 ^ 64
  · rw [if_pos h]; omega
  · rw [if_neg h]; omega
theorem u64m {n : Int} (h0 : 0 ≤ n) (h1 : n < 18446744073709551616) : n % 18446744073709551616 = n := Int.emod_eq_of_lt h0 h1
theorem val_getD_drop (l : List Int) (i : Nat) (h : i < l.length) : val (l.drop i) = l.getD i 0 + 1000000000 * val (l.drop (i + 1)) := by
  rw [List.drop_eq_getElem_cons h, val]
  simp [List.getD, h]
theorem val_drop_le {l : List Int} (hd : Dig l) : ∀ i, val (l.drop i) ≤ val l
  | 0 => by rw [List.drop_zero]; exact Int.le_refl _
  | i + 1 => by
    have ih := val_drop_le hd i
    by_cases h : i < l.length
    · rw [val_getD_drop l i h] at ih
      have := hd.getD i
      have h2 := val_nonneg (hd.drop (i + 1))
      omega
    · have h3 := val_nonneg hd
      rw [List.drop_eq_nil_of_le (by omega)]
      exact h3
theorem three_ex {l : List Int} (h : l.length = 3) : ∃ a b c, l = [a, b, c] := by
  match l, h with
  | [a, b, c], _ => exact ⟨a, b, c, rfl⟩
theorem ubt_ : A.bool? (.d (.v (.tuple #[]))) = none := rfl
def smb (x : Int) : Bool := decide (-9223372036854775808 ≤ x ∧ x < 9223372036854775808)
def smv (x : Int) : Int := if -9223372036854775808 ≤ x ∧ x < 9223372036854775808 then x else 0
theorem smb_t {x : Int} (h : I64 x) : smb x = true ∧ smv x = x := ⟨decide_eq_true h, if_pos h⟩
theorem smb_f {x : Int} (h : ¬ I64 x) : smb x = false ∧ smv x = 0 := ⟨decide_eq_false h, if_neg h⟩
variable [Its]

section
variable {x : Int} {l : List Int} (hl : digs x.natAbs = l)
def sm_st (x u i : Int) : St := mkS [(1, .ptr [1] 0), (4, au u), (5, ai i)] [([1], bI x)]
def sm_en (x u : Int) : St := mkS [(1, .ptr [1] 0), (4, au u)] [([1], bI x)]
theorem sm_stop (u : Int) : X G integer_Small_l0 (sm_st x u (-1)) = some (.x 0, sm_en x u) := by
  have e1 : decide ((-1 : Int) ≥ 0) = false := rfl
  simp -implicitDefEqProofs (maxSteps := 10000000) only [integer_Small_l0, sm_st, sm_en, bI, e1, go_sem, reduceCtorEq, ↓reduceIte, Nat.reduceEqDiff, iv]
include hl
theorem sm_go (hv : val l < 18446744073709551616) {i : Nat} (hi : i < l.length) (h3 : l.length ≤ 3) : X G integer_Small_l0 (sm_st x (val (l.drop (i + 1))) i) = some (.n, sm_st x (val (l.drop i)) ((i : Int) - 1)) := by
  have hd : Dig l := hl ▸ digs_dig _
  have e1 : decide ((i : Int) ≥ 0) = true := ge_t (by omega)
  have e2 : w64 ((i : Int) - 1) = (i : Int) - 1 := w64_id (by omega) (by omega)
  have x1 := (Rw.dg l).ixn hi
  have x2 := fun h => ldv h l hi
  have h0 := val_nonneg (hd.drop (i + 1))
  have h1 := hd.getD i
  have h2 := val_getD_drop l i hi
  have h4 := val_drop_le hd i
  have h5 : val (l.drop (i + 1)) * 1000000000 + l.getD i 0 = val (l.drop i) := by omega
  generalize val (l.drop (i + 1)) = u at *
  generalize l.getD i 0 = d at *
  have e3 : u * 1000000000 % 18446744073709551616 = u * 1000000000 := u64m (by omega) (by omega)
  have e4 : d % 18446744073709551616 = d := u64m (by omega) (by omega)
  have e5 : (u * 1000000000 + d) % 18446744073709551616 = val (l.drop i) := by rw [h5]; exact u64m (by omega) (by omega)
  simp -implicitDefEqProofs (maxSteps := 10000000) only [integer_Small_l0, sm_st, bI, hl, x1, x2, e1, e2, e3, e4, e5, go_sem, reduceCtorEq, ↓reduceIte, Nat.reduceEqDiff, iv]
theorem sm_loop (hv : val l < 18446744073709551616) (h3 : l.length ≤ 3) : ∀ i : Nat, i ≤ l.length → X G (.loop integer_Small_l0) (sm_st x (val (l.drop i)) ((i : Int) - 1)) = some (.x 0, sm_en x (val l))
  | 0, _ => by
    rw [X_loop, show ((0 : Nat) : Int) - 1 = -1 from rfl, sm_stop, List.drop_zero]; rfl
  | i + 1, h => by
    rw [X_loop, show ((i + 1 : Nat) : Int) - 1 = (i : Int) by omega, sm_go hl hv (by omega) h3, Option.bind_some, if_pos rfl]
    exact sm_loop hv h3 i (by omega)
end

theorem Small_spec_I {x : Int} (hx : nd x ≤ 1000000000000) : callX G n_integer_Small [encI x] = some (.d (.tup [iv (smv x), bv (smb x)])) := by
  rw [callX_eq (cf := integer_Small) rfl]
  obtain ⟨l, hl⟩ : ∃ l, digs x.natAbs = l := ⟨_, rfl⟩
  have hd : Dig l := hl ▸ digs_dig _
  have hv : val l = x.natAbs := hl ▸ val_digs _
  have hn : l.length ≤ 1000000000000 := by rw [← hl]; exact hx
  have ll := lenA_dg l
  by_cases h3 : l.length > 3
  · have e1 : decide ((l.length : Int) > 3) = true := gt_t (by omega)
    have hb : ¬ I64 x := fun h => by
      have h1 := nd_i64 h
      unfold nd at h1
      rw [hl] at h1; omega
    obtain ⟨b1, b2⟩ := smb_f hb
    simp -implicitDefEqProofs (maxSteps := 10000000) only [integer_Small, bI, hl, ll, e1, b1, b2, toDs, ubt_, go_sem, reduceCtorEq, ↓reduceIte, Nat.reduceEqDiff, iv, bv]
  have e1 : decide ((l.length : Int) > 3) = false := gt_f (by omega)
  by_cases hc : l.length = 3 ∧ l.getD 2 0 > 9
  · obtain ⟨a, b, c, rfl⟩ := three_ex hc.1
    have hc2 : c > 9 := hc.2
    have hdig := hd
    rw [Dig.cons, Dig.cons, Dig.cons] at hdig
    obtain ⟨d1, d2, d3, _⟩ := hdig
    have hb : ¬ I64 x := fun ⟨h1, h2⟩ => by
      simp only [val] at hv; omega
    obtain ⟨b1, b2⟩ := smb_f hb
    have e2 : decide (c > 9) = true := gt_t hc2
    have e3 : ((3 : Int) == 3) = true := rfl
    have e4 : ∀ h, ixaA h 1 2 (.d (dg [a, b, c])) = some (.d (.rp [iv c])) := fun h => rfl
    have e5 : ∀ h, loadA h none (.d (.rp [.v (.int .i64 c)])) = some (.d (.v (.int .i64 c))) := fun h => rfl
    have e6 : (((0 + 1 + 1 + 1 : Nat) : Int) == 3) = true := rfl
    simp only [List.length_cons, List.length_nil] at e1
    simp -implicitDefEqProofs (maxSteps := 10000000) only [integer_Small, bI, hl, ll, e1, e2, e3, e4, e5, e6, b1, b2, toDs, ubt_, go_sem, reduceCtorEq, ↓reduceIte, Nat.reduceEqDiff, iv, bv]
    done
  have hlt : val l < 10000000000000000000 := by
    by_cases h4 : l.length = 3
    · obtain ⟨a, b, c, rfl⟩ := three_ex h4
      have hc2 : ¬ c > 9 := fun h => hc ⟨h4, h⟩
      have hdig := hd
      rw [Dig.cons, Dig.cons, Dig.cons] at hdig
      obtain ⟨d1, d2, d3, _⟩ := hdig
      simp only [val]; omega
    · have := val_lt hd
      have h5 := pow_mono (n := l.length) (m := 2) (by omega)
      have h6 : (1000000000 : Int) ^ 2 = 1000000000000000000 := by decide
      omega
  have hlp := sm_loop hl (by omega) (by omega) l.length (Nat.le_refl _)
  rw [List.drop_length, hv] at hlp
  have e2 : w64 ((l.length : Int) - 1) = (l.length : Int) - 1 := w64_id (by omega) (by omega)
  rw [hv] at hlt
  simp only [sm_st, sm_en, bI, go_sem, val] at hlp
  have hcond : ∀ rest : Option (Ex × St), True := fun _ => trivial
  by_cases h4 : l.length = 3
  · have e3 : ((l.length : Int) == 3) = true := beq_t (by omega)
    have e4 : ∀ h, ixaA h 1 2 (.d (dg l)) = some (.d (.rp ((l.drop 2).map iv))) := fun h => (Rw.dg l).ixn (j := 2) (by omega) h
    have e5 := fun h => ldv h l (j := 2) (by omega)
    have e6 : decide (l.getD 2 0 > 9) = false := gt_f (fun h => hc ⟨h4, h⟩)
    by_cases hs : x < 0
    · have s1 : decide (x < 0) = true := lt_t hs
      by_cases hm : -9223372036854775808 ≤ x
      · obtain ⟨b1, b2⟩ := smb_t (x := x) ⟨hm, by omega⟩
        have e7 : decide ((x.natAbs : Int) ≤ 9223372036854775808) = true := le_t (by omega)
        have e8 : (0 - (x.natAbs : Int)) % 18446744073709551616 = 18446744073709551616 - (x.natAbs : Int) := by omega
        have e9 : w64 (18446744073709551616 - (x.natAbs : Int)) = x := by rw [w64_hi (by omega) (by omega)]; omega
        simp -implicitDefEqProofs (maxSteps := 10000000) only [integer_Small, bI, hl, ll, hlp, e1, e2, e3, e4, e5, e6, e7, e8, e9, s1, b1, b2, toDs, ubt_, go_sem, reduceCtorEq, ↓reduceIte, Nat.reduceEqDiff, iv, bv]
      · obtain ⟨b1, b2⟩ := smb_f (x := x) (fun h => hm h.1)
        have e7 : decide ((x.natAbs : Int) ≤ 9223372036854775808) = false := le_f (by omega)
        simp -implicitDefEqProofs (maxSteps := 10000000) only [integer_Small, bI, hl, ll, hlp, e1, e2, e3, e4, e5, e6, e7, s1, b1, b2, toDs, ubt_, go_sem, reduceCtorEq, ↓reduceIte, Nat.reduceEqDiff, iv, bv]
    · have s1 : decide (x < 0) = false := lt_f hs
      by_cases hm : x < 9223372036854775808
      · obtain ⟨b1, b2⟩ := smb_t (x := x) ⟨by omega, hm⟩
        have e7 : decide ((x.natAbs : Int) < 9223372036854775808) = true := lt_t (by omega)
        have e9 : w64 (x.natAbs : Int) = x := by rw [w64_id (by omega) (by omega)]; omega
        simp -implicitDefEqProofs (maxSteps := 10000000) only [integer_Small, bI, hl, ll, hlp, e1, e2, e3, e4, e5, e6, e7, e9, s1, b1, b2, toDs, ubt_, go_sem, reduceCtorEq, ↓reduceIte, Nat.reduceEqDiff, iv, bv]
      · obtain ⟨b1, b2⟩ := smb_f (x := x) (fun h => hm h.2)
        have e7 : decide ((x.natAbs : Int) < 9223372036854775808) = false := lt_f (by omega)
        simp -implicitDefEqProofs (maxSteps := 10000000) only [integer_Small, bI, hl, ll, hlp, e1, e2, e3, e4, e5, e6, e7, s1, b1, b2, toDs, ubt_, go_sem, reduceCtorEq, ↓reduceIte, Nat.reduceEqDiff, iv, bv]
  · have e3 : ((l.length : Int) == 3) = false := beq_f (by omega)
    by_cases hs : x < 0
    · have s1 : decide (x < 0) = true := lt_t hs
      by_cases hm : -9223372036854775808 ≤ x
      · obtain ⟨b1, b2⟩ := smb_t (x := x) ⟨hm, by omega⟩
        have e7 : decide ((x.natAbs : Int) ≤ 9223372036854775808) = true := le_t (by omega)
        have e8 : (0 - (x.natAbs : Int)) % 18446744073709551616 = 18446744073709551616 - (x.natAbs : Int) := by omega
        have e9 : w64 (18446744073709551616 - (x.natAbs : Int)) = x := by rw [w64_hi (by omega) (by omega)]; omega
        simp -implicitDefEqProofs (maxSteps := 10000000) only [integer_Small, bI, hl, ll, hlp, e1, e2, e3, e7, e8, e9, s1, b1, b2, toDs, ubt_, go_sem, reduceCtorEq, ↓reduceIte, Nat.reduceEqDiff, iv, bv]
      · obtain ⟨b1, b2⟩ := smb_f (x := x) (fun h => hm h.1)
        have e7 : decide ((x.natAbs : Int) ≤ 9223372036854775808) = false := le_f (by omega)
        simp -implicitDefEqProofs (maxSteps := 10000000) only [integer_Small, bI, hl, ll, hlp, e1, e2, e3, e7, s1, b1, b2, toDs, ubt_, go_sem, reduceCtorEq, ↓reduceIte, Nat.reduceEqDiff, iv, bv]
    · have s1 : decide (x < 0) = false := lt_f hs
      by_cases hm : x < 9223372036854775808
      · obtain ⟨b1, b2⟩ := smb_t (x := x) ⟨by omega, hm⟩
        have e7 : decide ((x.natAbs : Int) < 9223372036854775808) = true := lt_t (by omega)
        have e9 : w64 (x.natAbs : Int) = x := by rw [w64_id (by omega) (by omega)]; omega
        simp -implicitDefEqProofs (maxSteps := 10000000) only [integer_Small, bI, hl, ll, hlp, e1, e2, e3, e7, e9, s1, b1, b2, toDs, ubt_, go_sem, reduceCtorEq, ↓reduceIte, Nat.reduceEqDiff, iv, bv]
      · obtain ⟨b1, b2⟩ := smb_f (x := x) (fun h => hm h.2)
        have e7 : decide ((x.natAbs : Int) < 9223372036854775808) = false := lt_f (by omega)
        simp -implicitDefEqProofs (maxSteps := 10000000) only [integer_Small, bI, hl, ll, hlp, e1, e2, e3, e7, s1, b1, b2, toDs, ubt_, go_sem, reduceCtorEq, ↓reduceIte, Nat.reduceEqDiff, iv, bv]
end Go.AM

/- ref04.Small. -/
namespace Go.AM
open Go Go.RowKit

theorem sgn_gt {a : Int} : decide (Int.sign a > 0) = decide (0 < a) := by
  apply decide_eq_decide.2
  rcases Int.lt_trichotomy a 0 with h | h | h
  · rw [Int.sign_eq_neg_one_of_neg h]; omega
  · subst h; simp
  · rw [Int.sign_eq_one_of_pos h]; omega
theorem sgn_lt {a : Int} : decide (Int.sign a < 0) = decide (a < 0) := by
  apply decide_eq_decide.2
  rcases Int.lt_trichotomy a 0 with h | h | h
  · rw [Int.sign_eq_neg_one_of_neg h]; omega
  · subst h; simp
  · rw [Int.sign_eq_one_of_pos h]; omega
theorem sgn_ge {a : Int} : decide (Int.sign a ≥ 0) = decide (0 ≤ a) := by
  apply decide_eq_decide.2
  rcases Int.lt_trichotomy a 0 with h | h | h
  · rw [Int.sign_eq_neg_one_of_neg h]; omega
  · subst h; simp
  · rw [Int.sign_eq_one_of_pos h]; omega
theorem sgn_le {a : Int} : decide (Int.sign a ≤ 0) = decide (a ≤ 0) := by
  apply decide_eq_decide.2
  rcases Int.lt_trichotomy a 0 with h | h | h
  · rw [Int.sign_eq_neg_one_of_neg h]; omega
  · subst h; simp
  · rw [Int.sign_eq_one_of_pos h]; omega
theorem sgn_eq {a : Int} : (Int.sign a == 0) = decide (a = 0) := by
  by_cases h : a = 0
  · subst h; rfl
  · rw [decide_eq_false h]
    refine beq_f fun h1 => h (Int.sign_eq_zero_iff_zero.1 h1)
variable [Its]
section
variable {x : Int} {l : List Int}
def rsm_st (x u i : Int) : St := mkS [(1, .ptr [1] 0), (4, ai u), (5, ai i)] [([1], bI x)]
def rsm_en (u : Int) : St := mkS [(4, ai u)] []
theorem rsm_stop (u : Int) : X G gantryref04_Small_l0 (rsm_st x u (-1)) = some (.x 0, rsm_en u) := by
  have e1 : decide ((-1 : Int) ≥ 0) = false := rfl
  simp -implicitDefEqProofs (maxSteps := 10000000) only [gantryref04_Small_l0, rsm_st, rsm_en, bI, e1, go_sem, reduceCtorEq, ↓reduceIte, Nat.reduceEqDiff, iv]
theorem rsm_go (hl : digs x.natAbs = l) (hx : I64 x) {i : Nat} (hi : i < l.length) (h3 : l.length ≤ 1000) : X G gantryref04_Small_l0 (rsm_st x (sgn (decide (x < 0)) (val (l.drop (i + 1)))) i) = some (.n, rsm_st x (sgn (decide (x < 0)) (val (l.drop i))) ((i : Int) - 1)) := by
  have hd : Dig l := hl ▸ digs_dig _
  have hv : val l = x.natAbs := hl ▸ val_digs _
  have e1 : decide ((i : Int) ≥ 0) = true := ge_t (by omega)
  have e2 : w64 ((i : Int) - 1) = (i : Int) - 1 := w64_id (by omega) (by omega)
  have x1 := (Rw.dg l).ixn hi
  have x2 := fun h => ldv h l hi
  have h0 := val_nonneg (hd.drop (i + 1))
  have h1 := hd.getD i
  have h2 := val_getD_drop l i hi
  have h4 := val_drop_le hd i
  have h5 : val (l.drop i) = val (l.drop (i + 1)) * 1000000000 + l.getD i 0 := by omega
  obtain ⟨h6, h7⟩ := hx
  rw [h5]
  generalize val (l.drop (i + 1)) = u at *
  generalize l.getD i 0 = d at *
  by_cases hs : x < 0
  · have s1 : decide (x < 0) = true := lt_t hs
    have e3 : w64 (-u * 1000000000) = -(u * 1000000000) := by rw [w64_id (by omega) (by omega)]; omega
    have e5 : w64 (-(u * 1000000000) - d) = -(u * 1000000000 + d) := by rw [w64_id (by omega) (by omega)]; omega
    simp -implicitDefEqProofs (maxSteps := 10000000) only [gantryref04_Small_l0, rsm_st, bI, sgn, hl, x1, x2, e1, e2, e3, e5, s1, go_sem, reduceCtorEq, ↓reduceIte, Nat.reduceEqDiff, iv]
  · have s1 : decide (x < 0) = false := lt_f hs
    have e3 : w64 (u * 1000000000) = u * 1000000000 := w64_id (by omega) (by omega)
    have e5 : w64 (u * 1000000000 + d) = u * 1000000000 + d := w64_id (by omega) (by omega)
    simp -implicitDefEqProofs (maxSteps := 10000000) only [gantryref04_Small_l0, rsm_st, bI, sgn, hl, x1, x2, e1, e2, e3, e5, s1, go_sem, reduceCtorEq, ↓reduceIte, Nat.reduceEqDiff, iv]
theorem rsm_loop (hl : digs x.natAbs = l) (hx : I64 x) (h3 : l.length ≤ 1000) : ∀ i : Nat, i ≤ l.length → X G (.loop gantryref04_Small_l0) (rsm_st x (sgn (decide (x < 0)) (val (l.drop i))) ((i : Int) - 1)) = some (.x 0, rsm_en x)
  | 0, _ => by
    have e : sgn (decide (x < 0)) (val (l.drop 0)) = x := by
      rw [List.drop_zero, show val l = x.natAbs from hl ▸ val_digs _]
      by_cases hs : x < 0
      · rw [lt_t hs]; simp only [sgn, if_true]; omega
      · rw [lt_f hs]; simp only [sgn, Bool.false_eq_true, if_false]; omega
    rw [X_loop, show ((0 : Nat) : Int) - 1 = -1 from rfl, rsm_stop, e]; rfl
  | i + 1, h => by
    rw [X_loop, show ((i + 1 : Nat) : Int) - 1 = (i : Int) by omega, rsm_go hl hx (by omega) h3, Option.bind_some, if_pos rfl]
    exact rsm_loop hl hx h3 i (by omega)
end
theorem rSmall_spec {x : Int} (hx : nd x ≤ 1000000000000) : callX G n_gantryref04_Small [encI x] = some (.d (.tup [iv (smv x), bv (smb x)])) := by
  rw [callX_eq (cf := gantryref04_Small) rfl]
  have g1 := rOf_spec (n := 9223372036854775807) ⟨by omega, by omega⟩
  have g2 := rOf_spec (n := -9223372036854775808) ⟨by omega, by omega⟩
  have g3 := rCompare_spec (x := x) (y := 9223372036854775807) hx (Nat.le_trans (nd_i64 ⟨by omega, by omega⟩) (by omega))
  have g4 := rCompare_spec (x := x) (y := -9223372036854775808) hx (Nat.le_trans (nd_i64 ⟨by omega, by omega⟩) (by omega))
  simp only [iv] at g1 g2 g3 g4
  have c1 := sgn_gt (a := x - 9223372036854775807)
  have c2 := sgn_lt (a := x - -9223372036854775808)
  generalize Int.sign (x - 9223372036854775807) = s1 at *
  generalize Int.sign (x - -9223372036854775808) = s2 at *
  by_cases h1 : 0 < x - 9223372036854775807
  · rw [gt_t h1] at c1
    obtain ⟨b1, b2⟩ := smb_f (x := x) (fun h => by have := h.2; omega)
    simp -implicitDefEqProofs (maxSteps := 10000000) only [gantryref04_Small, bI, g1, g2, g3, g4, c1, b1, b2, toDs, ubt_, go_sem, reduceCtorEq, ↓reduceIte, Nat.reduceEqDiff, iv, bv]
  rw [gt_f h1] at c1
  by_cases h2 : x - -9223372036854775808 < 0
  · rw [lt_t h2] at c2
    obtain ⟨b1, b2⟩ := smb_f (x := x) (fun h => by have := h.1; omega)
    simp -implicitDefEqProofs (maxSteps := 10000000) only [gantryref04_Small, bI, g1, g2, g3, g4, c1, c2, b1, b2, toDs, ubt_, go_sem, reduceCtorEq, ↓reduceIte, Nat.reduceEqDiff, iv, bv]
  rw [lt_f h2] at c2
  have hI : I64 x := ⟨by omega, by omega⟩
  obtain ⟨b1, b2⟩ := smb_t hI
  obtain ⟨l, hl⟩ : ∃ l, digs x.natAbs = l := ⟨_, rfl⟩
  have h3 : l.length ≤ 3 := by rw [← hl]; exact nd_i64 hI
  have ll := lenA_dg l
  have e2 : w64 ((l.length : Int) - 1) = (l.length : Int) - 1 := w64_id (by omega) (by omega)
  have hlp := rsm_loop hl hI (by omega) l.length (Nat.le_refl _)
  have e0 : sgn (decide (x < 0)) 0 = 0 := by cases decide (x < 0) <;> rfl
  rw [List.drop_length, val, e0] at hlp
  simp only [rsm_st, rsm_en, bI, go_sem] at hlp
  simp -implicitDefEqProofs (maxSteps := 10000000) only [gantryref04_Small, bI, g1, g2, g3, g4, c1, c2, b1, b2, hl, ll, e2, hlp, toDs, ubt_, go_sem, reduceCtorEq, ↓reduceIte, Nat.reduceEqDiff, iv, bv]
end Go.AM

/- law04.same, ref04.Sub. -/
namespace Go.AM
open Go Go.RowKit
variable [Its]
theorem S4_refl {x : Int} (h : nd x ≤ 1000000000000) : callX G n_gantryref04_Same [encI x, encI x] = some (.d (bv true)) := s4_refl (b := decide (x < 0)) (l := digs x.natAbs) h
theorem sm4 {x y : Int} (e : x = y) (h : nd x ≤ 1000000000000) : callX G n_gantrylaw04_same [encI x, encI y] = some (.d (bv true)) := by
  subst e
  rw [callX_eq (cf := gantrylaw04_same) rfl]
  have g := S4_refl h
  simp only [bv] at g
  simp -implicitDefEqProofs (maxSteps := 10000000) only [gantrylaw04_same, bI, g, go_sem, reduceCtorEq, ↓reduceIte, Nat.reduceEqDiff, iv, bv]
theorem rSub4 {x y : Int} (hx : nd x ≤ 100000000000) (hy : nd y ≤ 100000000000) : callX G n_gantryref04_Sub [encI x, encI y] = some (.d (encI (x - y))) := by
  rw [callX_eq (cf := gantryref04_Sub) rfl]
  have g1 := rNeg_spec (x := y) (by omega)
  have g2 := rAdd_spec (x := x) (y := -y) (by omega) (by rw [nd_neg]; omega)
  rw [show x + -y = x - y by omega] at g2
  simp -implicitDefEqProofs (maxSteps := 10000000) only [gantryref04_Sub, bI, g1, g2, go_sem, reduceCtorEq, ↓reduceIte, Nat.reduceEqDiff, iv, bv]
end Go.AM

/- Bytes: arrays of bytes, the encoding of whole numbers (wire.Int, ref01.Int, both Ints, Same). -/
namespace Go.AM
open Go Go.RowKit

/-! ### Plain -/
def dlF : Nat → Nat → Nat
  | 0, _ => 0
  | f + 1, m => if m = 0 then 0 else 1 + dlF f (m / 256)
/-- How many bytes a magnitude takes (less than 2^64). -/
def dl (m : Nat) : Nat := dlF 8 m
theorem dlF_le : ∀ (f m : Nat), dlF f m ≤ f
  | 0, _ => Nat.le_refl _
  | f + 1, m => by
    rw [dlF]; split
    · omega
    · have := dlF_le f (m / 256); omega
theorem dlF_lt : ∀ (f m i : Nat), m < 256 ^ f → (0 < m / 256 ^ i ↔ i < dlF f m)
  | 0, m, i, h => by
    have : m = 0 := by simpa using h
    subst this
    rw [Nat.zero_div, dlF]; omega
  | f + 1, m, i, h => by
    rw [dlF]
    by_cases h0 : m = 0
    · subst h0; rw [Nat.zero_div, if_pos rfl]; omega
    · rw [if_neg h0]
      cases i with
      | zero => rw [Nat.pow_zero, Nat.div_one]; omega
      | succ i =>
        have h1 : m / 256 < 256 ^ f := by rw [Nat.pow_succ] at h; omega
        have := dlF_lt f (m / 256) i h1
        rw [Nat.pow_succ, Nat.mul_comm, ← Nat.div_div_eq_div_mul, this]
        omega
theorem dl_le (m : Nat) : dl m ≤ 8 := dlF_le _ _
theorem dl_lt {m : Nat} (h : m < 18446744073709551616) (i : Nat) : 0 < m / 256 ^ i ↔ i < dl m := dlF_lt 8 m i h
def bt (m i : Nat) : Int := ((m / 256 ^ i % 256 : Nat) : Int)
theorem bt_b (m i : Nat) : 0 ≤ bt m i ∧ bt m i < 256 := by unfold bt; omega
def flp (n : Int) (x : Int) : Int := if n < 0 then 255 - x else x
def mag (n : Int) : Nat := (if n < 0 then -1 - n else n).toNat
theorem mag_b {n : Int} (h : I64 n) : mag n < 9223372036854775808 := by
  obtain ⟨h1, h2⟩ := h
  unfold mag; split <;> omega
/-- The bytes below the i-th, from the top. -/
def dwn (n : Int) : Nat → List Int
  | 0 => []
  | i + 1 => flp n (bt (mag n) i) :: dwn n i
def wI (n : Int) : List Int := flp n (128 + (dl (mag n) : Nat)) :: dwn n (dl (mag n))
theorem dwn_len (n : Int) : ∀ i, (dwn n i).length = i
  | 0 => rfl
  | i + 1 => by rw [dwn, List.length_cons, dwn_len n i]
theorem wI_len (n : Int) : (wI n).length ≤ 9 := by
  rw [wI, List.length_cons, dwn_len]
  have := dl_le (mag n); omega
def Byt (l : List Int) : Prop := ∀ x ∈ l, 0 ≤ x ∧ x < 256
theorem flp_b {n x : Int} (h : 0 ≤ x ∧ x < 256) : 0 ≤ flp n x ∧ flp n x < 256 := by unfold flp; split <;> omega
theorem dwn_byt (n : Int) : ∀ i, Byt (dwn n i)
  | 0 => fun x hx => by cases hx
  | i + 1 => fun x hx => by
    rcases List.mem_cons.1 hx with rfl | h
    · exact flp_b (bt_b _ _)
    · exact dwn_byt n i x h
theorem wI_byt (n : Int) : Byt (wI n) := fun x hx => by
  rcases List.mem_cons.1 hx with rfl | h
  · have := dl_le (mag n); exact flp_b (by omega)
  · exact dwn_byt n _ x h
def wJ : List Int → List Int
  | [] => []
  | n :: l => wI n ++ wJ l
def wL (l : List Int) : List Int := wI (l.length : Nat) ++ wJ l
theorem wJ_len : ∀ l : List Int, (wJ l).length ≤ 9 * l.length
  | [] => Nat.le_refl _
  | n :: l => by
    rw [wJ, List.length_append, List.length_cons]
    have := wI_len n; have := wJ_len l; omega
theorem wJ_byt : ∀ l : List Int, Byt (wJ l)
  | [] => fun x hx => by cases hx
  | n :: l => fun x hx => by
    rcases List.mem_append.1 hx with h | h
    · exact wI_byt n x h
    · exact wJ_byt l x h
theorem wL_byt (l : List Int) : Byt (wL l) := fun x hx => by
  rcases List.mem_append.1 hx with h | h
  · exact wI_byt _ x h
  · exact wJ_byt l x h
theorem wL_len (l : List Int) : (wL l).length ≤ 9 + 9 * l.length := by
  rw [wL, List.length_append]
  have := wI_len ((l.length : Nat) : Int); have := wJ_len l; omega
theorem wJ_snoc (n : Int) : ∀ l : List Int, wJ (l ++ [n]) = wJ l ++ wI n
  | [] => by simp [wJ]
  | m :: l => by rw [List.cons_append, wJ, wJ_snoc n l, wJ, List.append_assoc]

/-! ### Rows and arrays of bytes -/
def uv (x : Int) : D := .v (.int .u8 x)
def rowU (l : List Int) : D := .row l.length (l.map uv)
def cellsU (l : List Int) : List A := l.map fun x => A.d (.v (.int .u8 x))
def arrU (n : Nat) (l : List Int) : Obj := ⟨1, n, cellsU l, false⟩
theorem cellsU_length (l : List Int) : (cellsU l).length = l.length := by simp [cellsU]
theorem cellsU_snoc (l : List Int) (v : Int) : cellsU l ++ [A.d (.v (.int .u8 v))] = cellsU (l ++ [v]) := by simp [cellsU]
theorem cellsU_app (l m : List Int) : cellsU l ++ List.map A.d (m.map uv) = cellsU (l ++ m) := by simp [cellsU, uv]
theorem cellsU_one (v : Int) : cellsU [v] = [A.d (.v (.int .u8 v))] := rfl
theorem refsL_U (ks : List Key) (l : List Int) : refsL ks (cellsU l) = true := by
  induction l with
  | nil => rfl
  | cons x r ih => simpa [cellsU, refsL, refs] using ih
theorem allD_U (l : List Int) : allD (cellsU l) = some (l.map uv) := by
  induction l with
  | nil => rfl
  | cons x r ih =>
    simp only [cellsU, List.map_cons, allD] at ih ⊢
    rw [ih]; rfl
theorem allone_U (l : List Int) : (l.map uv).all D.one = true := by
  induction l with
  | nil => rfl
  | cons x r ih => simp [uv, D.one, A.one]
theorem mapd_U (l : List Int) : List.map A.d (l.map uv) = cellsU l := by simp [cellsU, uv]
/-- An array of bytes that grows from nothing. -/
def gU (k : Nat) (l : List Int) : A := if l = [] then .d (.z true) else .own [k] l.length
def gUH (k : Nat) (l : List Int) : List (Key × Obj) := if l = [] then [] else [([k], arrU l.length l)]
theorem gU_nil (k : Nat) : gU k [] = .d (.z true) := rfl
theorem gUH_nil (k : Nat) : gUH k [] = [] := rfl
theorem gU_ne {k : Nat} {l : List Int} (h : l ≠ []) : gU k l = .own [k] l.length := if_neg h
theorem gUH_ne {k : Nat} {l : List Int} (h : l ≠ []) : gUH k l = [([k], arrU l.length l)] := if_neg h
theorem gU_one (k : Nat) (v : Int) : gU k [v] = .own [k] 1 := rfl
theorem gUH_one (k : Nat) (v : Int) : gUH k [v] = [([k], arrU 1 [v])] := rfl
theorem gU_snoc (k : Nat) (l : List Int) (v : Int) : gU k (l ++ [v]) = .own [k] (l.length + 1) := by rw [gU_ne (by simp)]; simp
theorem gUH_snoc (k : Nat) (l : List Int) (v : Int) : gUH k (l ++ [v]) = [([k], arrU (l.length + 1) (l ++ [v]))] := by rw [gUH_ne (by simp)]; simp
/-- Reads these bytes, nil or not. -/
def RwU (d : D) (l : List Int) : Prop := (d = .z true ∧ l = []) ∨ d = rowU l
theorem RwU.row (l : List Int) : RwU (rowU l) l := .inr rfl
theorem RwU.len {d : D} {l : List Int} (h : RwU d l) : lenA (.d d) = some l.length := by
  rcases h with ⟨rfl, rfl⟩ | rfl <;> rfl
theorem RwU.ixn {d : D} {l : List Int} (hr : RwU d l) {j : Nat} (h1 : j < l.length) (h : Hp) : ixaA h 1 (j : Int) (.d d) = some (.d (.rp ((l.drop j).map uv))) := by
  rcases hr with ⟨rfl, rfl⟩ | rfl
  · simp at h1
  · simp only [ixaA, guardO, rowU]
    rw [if_pos (by omega), Nat.mul_one, List.map_drop, Int.toNat_natCast]
theorem ldu (h : Hp) (l : List Int) {j : Nat} (h1 : j < l.length) : loadA h none (.d (.rp ((l.drop j).map uv))) = some (.d (.v (.int .u8 (l.getD j 0)))) := by
  simp only [loadA, ldrow]
  rw [List.head?_map, List.head?_drop]
  simp [h1, uv]
theorem RwU.src {d : D} {l : List Int} (hr : RwU d l) (st : St) : src st (.d d) = some (l.length, l.map uv) := by
  rcases hr with ⟨rfl, rfl⟩ | rfl <;> rfl
theorem RwU.ne {d : D} {l : List Int} (hr : RwU d l) (h : l ≠ []) : d = rowU l := by
  rcases hr with ⟨_, h0⟩ | rfl
  · exact absurd h0 h
  · rfl
theorem app_fU {n : Nat} (h : n ≤ 140737488351232) : (n ≤ bound) = True := eq_true (by simp only [bound]; omega)
def rU (l : List Int) : R := .own 1 l.length (l.map uv)
theorem u8m {n : Int} (h : 0 ≤ n ∧ n < 256) : IntKind.u8.wrap n = n := by
  unfold IntKind.wrap
  simp only [IntKind.signed, Bool.false_and, IntKind.bits]
  have : (2 : Int) ^ 8 = 256 := rfl
  rw [this]
  exact Int.emod_eq_of_lt h.1 h.2
theorem u8w (n : Int) : IntKind.u8.wrap n = n % 256 := by
  unfold IntKind.wrap
  simp only [IntKind.signed, Bool.false_and, IntKind.bits]
  rfl
theorem xor8_0 {a : Int} (h : 0 ≤ a ∧ a < 256) : binI .xor .u8 a 0 = some (.int .u8 a) := by
  obtain ⟨n, rfl⟩ : ∃ n : Nat, a = (n : Int) := ⟨a.toNat, by omega⟩
  show some (Value.int .u8 (IntKind.u8.wrap (((BitVec.ofInt 8 (n : Int)) ^^^ BitVec.ofInt 8 0).toNat : Nat))) = _
  have e : (BitVec.ofInt 8 (n : Int) ^^^ BitVec.ofInt 8 0) = BitVec.ofNat 8 n := by
    rw [BitVec.ofInt_natCast, show BitVec.ofInt 8 0 = 0#8 from rfl, BitVec.xor_zero]
  rw [e, BitVec.toNat_ofNat, u8w]
  congr 2
  omega
theorem xor8_1 {a : Int} (h : 0 ≤ a ∧ a < 256) : binI .xor .u8 a 255 = some (.int .u8 (255 - a)) := by
  obtain ⟨n, rfl⟩ : ∃ n : Nat, a = (n : Int) := ⟨a.toNat, by omega⟩
  show some (Value.int .u8 (IntKind.u8.wrap (((BitVec.ofInt 8 (n : Int)) ^^^ BitVec.ofInt 8 255).toNat : Nat))) = _
  have e : (BitVec.ofInt 8 (n : Int) ^^^ BitVec.ofInt 8 255) = ~~~ (BitVec.ofNat 8 n) := by
    rw [BitVec.ofInt_natCast, show BitVec.ofInt 8 255 = BitVec.allOnes 8 from rfl, BitVec.xor_allOnes]
  rw [e, BitVec.toNat_not, BitVec.toNat_ofNat, u8w]
  congr 2
  omega
theorem not64 {a : Int} (h : 0 ≤ a ∧ a < 18446744073709551616) : unV .xor (.int .u64 a) = some (.int .u64 (18446744073709551615 - a)) := by
  obtain ⟨n, rfl⟩ : ∃ n : Nat, a = (n : Int) := ⟨a.toNat, by omega⟩
  show some (Value.int .u64 (IntKind.u64.wrap (((BitVec.ofInt 64 IntKind.u64.max) ^^^ BitVec.ofInt 64 (n : Int)).toNat : Nat))) = _
  have e : (BitVec.ofInt 64 IntKind.u64.max ^^^ BitVec.ofInt 64 (n : Int)) = ~~~ (BitVec.ofNat 64 n) := by
    rw [BitVec.ofInt_natCast, show BitVec.ofInt 64 IntKind.u64.max = BitVec.allOnes 64 by decide, BitVec.allOnes_xor]
  rw [e, BitVec.toNat_not, BitVec.toNat_ofNat, wrap_u64]
  congr 2
  omega
theorem npow_cast (b i : Nat) : ((b ^ i : Nat) : Int) = (b : Int) ^ i := by
  induction i with
  | zero => rfl
  | succ i ih => rw [Nat.pow_succ, Int.pow_succ, ← ih]; rfl
theorem shr64 (m i : Nat) (h : i ≤ 8) : shI .shr .u64 (m : Int) ((8 * i : Nat) : Int) = some (.int .u64 ((m / 256 ^ i : Nat) : Int)) := by
  unfold shI
  rw [if_neg (by omega)]
  have e : min ((8 * i : Nat) : Int).toNat IntKind.u64.bits = 8 * i := by
    simp only [IntKind.bits, Int.toNat_natCast]; omega
  simp only [e]
  congr 2
  have e2 : (2 : Int) ^ (8 * i) = ((256 ^ i : Nat) : Int) := by
    rw [npow_cast, Int.pow_mul]; rfl
  rw [e2, Int.fdiv_eq_ediv_of_nonneg _ (Int.natCast_nonneg _)]
  rfl
def flb (n : Int) : Int := if n < 0 then 255 else 0
theorem xor8_f (n : Int) {a : Int} (h : 0 ≤ a ∧ a < 256) : binI .xor .u8 a (flb n) = some (.int .u8 (flp n a)) := by
  unfold flb flp
  split
  · exact xor8_1 h
  · exact xor8_0 h
variable [Its]
/-! ### wire.Int -/
def wk_st (m fl k : Int) : St := mkS [(3, .d (.v (.int .u64 m))), (4, .d (.v (.int .u8 fl))), (5, ai k)] []
theorem wk_loop {m : Nat} {fl : Int} (hm : m < 18446744073709551616) : ∀ k : Nat, k ≤ 8 → dl m ≤ k → X G (.loop wire_Int_l0) (wk_st m fl k) = some (.x 0, wk_st m fl (dl m : Nat))
  | 0, _, h => by
    have e1 : decide ((0 : Int) > 0) = false := rfl
    have hd : dl m = 0 := by omega
    rw [X_loop, hd]
    simp -implicitDefEqProofs (maxSteps := 10000000) only [wire_Int_l0, wk_st, e1, go_sem, reduceCtorEq, ↓reduceIte, Nat.reduceEqDiff, iv]
  | k + 1, hk, h => by
    have e1 : decide (((k + 1 : Nat) : Int) > 0) = true := gt_t (by omega)
    have e2 : w64 (((k + 1 : Nat) : Int) - 1) = (k : Int) := by rw [w64_id (by omega) (by omega)]; omega
    have e3 : w64 (8 * (k : Int)) = ((8 * k : Nat) : Int) := by rw [w64_id (by omega) (by omega)]; omega
    have e4 := shr64 m k (by omega)
    have hl := dl_lt hm k
    rw [X_loop]
    by_cases hc : k < dl m
    · have hd : dl m = k + 1 := by omega
      have e5 : decide (((m / 256 ^ k : Nat) : Int) > 0) = true := gt_t (by have := hl.2 hc; omega)
      rw [hd]
      generalize ((m / 256 ^ k : Nat) : Int) = q at *
      simp -implicitDefEqProofs (maxSteps := 10000000) only [wire_Int_l0, wk_st, e1, e2, e3, e4, e5, go_sem, reduceCtorEq, ↓reduceIte, Nat.reduceEqDiff, iv]
    · have e5 : decide (((m / 256 ^ k : Nat) : Int) > 0) = false := gt_f (fun h2 => hc (hl.1 (by omega)))
      have hx : X G wire_Int_l0 (wk_st m fl ((k + 1 : Nat) : Int)) = some (.n, wk_st m fl k) := by
        generalize ((m / 256 ^ k : Nat) : Int) = q at *
        simp -implicitDefEqProofs (maxSteps := 10000000) only [wire_Int_l0, wk_st, e1, e2, e3, e4, e5, go_sem, reduceCtorEq, ↓reduceIte, Nat.reduceEqDiff, iv]
      rw [hx, Option.bind_some, if_pos rfl]
      exact wk_loop hm k (by omega) (by omega)
def wo_st (m fl : Int) (L : List Int) (i : Int) : St := mkS [(3, .d (.v (.int .u64 m))), (4, .d (.v (.int .u8 fl))), (6, .own [29] L.length), (7, ai i)] [([29], arrU L.length L)]
def wo_en (L : List Int) : St := mkS [(6, .own [29] L.length)] [([29], arrU L.length L)]
theorem wo_loop {n : Int} (hm : mag n < 18446744073709551616) : ∀ (i : Nat) (L : List Int), i ≤ 8 → L.length + i ≤ 100 → X G (.loop wire_Int_l1) (wo_st (mag n : Nat) (flb n) L ((i : Int) - 1)) = some (.x 2, wo_en (L ++ dwn n i))
  | 0, L, _, _ => by
    have e1 : decide ((-1 : Int) ≥ 0) = false := rfl
    rw [X_loop, show ((0 : Nat) : Int) - 1 = -1 from rfl, dwn, List.append_nil]
    simp -implicitDefEqProofs (maxSteps := 10000000) only [wire_Int_l1, wo_st, wo_en, arrU, hupdO_none, refsL_U, e1, go_sem, reduceCtorEq, ↓reduceIte, Nat.reduceEqDiff, iv]
  | i + 1, L, hi, hL => by
    have e1 : decide ((i : Int) ≥ 0) = true := ge_t (by omega)
    have e2 : w64 ((i : Int) - 1) = (i : Int) - 1 := w64_id (by omega) (by omega)
    have e3 : w64 (8 * (i : Int)) = ((8 * i : Nat) : Int) := by rw [w64_id (by omega) (by omega)]; omega
    have e4 := shr64 (mag n) i (by omega)
    have e5 : IntKind.u8.wrap ((mag n / 256 ^ i : Nat) : Int) = bt (mag n) i := by rw [u8w]; unfold bt; omega
    have e6 := xor8_f n (bt_b (mag n) i)
    have f1 := app_fU (n := L.length + 1) (by omega)
    rw [X_loop, show ((i + 1 : Nat) : Int) - 1 = (i : Int) by omega, dwn, show L ++ flp n (bt (mag n) i) :: dwn n i = (L ++ [flp n (bt (mag n) i)]) ++ dwn n i by simp]
    have hx : X G wire_Int_l1 (wo_st (mag n : Nat) (flb n) L i) = some (.n, wo_st (mag n : Nat) (flb n) (L ++ [flp n (bt (mag n) i)]) ((i : Int) - 1)) := by
      have hlen : (L ++ [flp n (bt (mag n) i)]).length = L.length + 1 := by simp
      simp only [wo_st, hlen]
      simp -implicitDefEqProofs only [go_sem, Option.some.injEq, Value.int.injEq] at e6
      generalize flp n (bt (mag n) i) = z at *
      generalize ((mag n / 256 ^ i : Nat) : Int) = q at *
      generalize bt (mag n) i = b at *
      generalize flb n = fl at *
      generalize ((mag n : Nat) : Int) = m at *
      simp -implicitDefEqProofs (maxSteps := 10000000) only [wire_Int_l1, arrU, hupdO_none, refsL_U, cellsU_length, cellsU_snoc, f1, D.one, src_row, e1, e2, e3, e4, e5, e6, go_sem, reduceCtorEq, ↓reduceIte, Nat.reduceEqDiff, iv]
    rw [hx, Option.bind_some, if_pos rfl]
    exact wo_loop hm i _ (by omega) (by simp; omega)
theorem wInt_spec {n : Int} (hn : I64 n) : callX G n_wire_Int [iv n] = some (rU (wI n)) := by
  rw [callX_eq (cf := wire_Int) rfl]
  have hm := mag_b hn
  have hd := dl_le (mag n)
  have h1 := wk_loop (m := mag n) (fl := flb n) (by omega) 8 (by omega) hd
  rw [show ((8 : Nat) : Int) = 8 from rfl] at h1
  have h2 := wo_loop (n := n) (by omega) (dl (mag n)) [flp n (128 + (dl (mag n) : Nat))] hd (by rw [List.length_singleton]; omega)
  obtain ⟨h3, h4⟩ := hn
  have e3 : w64 (128 + (dl (mag n) : Nat)) = 128 + (dl (mag n) : Nat) := w64_id (by omega) (by omega)
  have e4 : IntKind.u8.wrap (128 + (dl (mag n) : Nat)) = 128 + (dl (mag n) : Nat) := u8m (by omega)
  have e5 := xor8_f n (a := 128 + (dl (mag n) : Nat)) (by omega)
  have e6 : w64 ((dl (mag n) : Nat) - 1) = (dl (mag n) : Nat) - 1 := w64_id (by omega) (by omega)
  rw [wI]
  have hl : ([flp n (128 + (dl (mag n) : Nat))] ++ dwn n (dl (mag n))) = flp n (128 + (dl (mag n) : Nat)) :: dwn n (dl (mag n)) := rfl
  rw [hl] at h2
  generalize hw : flp n (128 + (dl (mag n) : Nat)) :: dwn n (dl (mag n)) = W at *
  simp only [wk_st, wo_st, wo_en, arrU, List.length_cons, List.length_nil, go_sem] at h1 h2
  have c1 := cellsU_one (flp n (128 + (dl (mag n) : Nat)))
  generalize flp n (128 + (dl (mag n) : Nat)) = hd0 at *
  rw [c1] at h2
  by_cases hs : n < 0
  · have s1 : decide (n < 0) = true := lt_t hs
    have m1 : n % 18446744073709551616 = n + 18446744073709551616 := by omega
    have m2 := not64 (a := n + 18446744073709551616) (by omega)
    have m3 : 18446744073709551615 - (n + 18446744073709551616) = ((mag n : Nat) : Int) := by unfold mag; rw [if_pos hs]; omega
    rw [m3] at m2
    simp -implicitDefEqProofs only [go_sem, Option.some.injEq, Value.int.injEq] at m2
    have fb : flb n = 255 := if_pos hs
    rw [fb] at h1 h2 e5
    simp -implicitDefEqProofs only [go_sem, Option.some.injEq, Value.int.injEq] at e5
    generalize ((mag n : Nat) : Int) = m at *
    generalize ((dl (mag n) : Nat) : Int) = k at *
    simp -implicitDefEqProofs (maxSteps := 10000000) only [wire_Int, rU, hupdO_none, c1, refsL_U, allD_U, s1, m1, m2, h1, h2, e3, e4, e5, e6, go_sem, reduceCtorEq, ↓reduceIte, Nat.reduceEqDiff, iv]
  · have s1 : decide (n < 0) = false := lt_f hs
    have m1 : n % 18446744073709551616 = ((mag n : Nat) : Int) := by unfold mag; rw [if_neg hs]; omega
    have fb : flb n = 0 := if_neg hs
    rw [fb] at h1 h2 e5
    simp -implicitDefEqProofs only [go_sem, Option.some.injEq, Value.int.injEq] at e5
    generalize ((mag n : Nat) : Int) = m at *
    generalize ((dl (mag n) : Nat) : Int) = k at *
    simp -implicitDefEqProofs (maxSteps := 10000000) only [wire_Int, rU, hupdO_none, c1, refsL_U, allD_U, s1, m1, h1, h2, e3, e4, e5, e6, go_sem, reduceCtorEq, ↓reduceIte, Nat.reduceEqDiff, iv]
end Go.AM

/- ref01.Int, both Ints, both Encode, ref01.Same. -/
namespace Go.AM
open Go Go.RowKit

def upb (m : Nat) : Nat → List Int
  | 0 => []
  | i + 1 => upb m i ++ [bt m i]
theorem upb_len (m : Nat) : ∀ i, (upb m i).length = i
  | 0 => rfl
  | i + 1 => by rw [upb, List.length_append, upb_len m i]; rfl
theorem upb_get (m : Nat) : ∀ (n i : Nat), i < n → (upb m n).getD i 0 = bt m i
  | 0, i, h => by omega
  | n + 1, i, h => by
    rw [upb, List.getD_eq_getElem?_getD]
    by_cases h1 : i < n
    · rw [List.getElem?_append_left (by rw [upb_len]; exact h1), ← List.getD_eq_getElem?_getD]
      exact upb_get m n i h1
    · have : i = n := by omega
      subst this
      rw [List.getElem?_append_right (by rw [upb_len]; exact Nat.le_refl _), upb_len, Nat.sub_self]; rfl
theorem hupdO_non (h : Hp) (k : Key) (hk : h k = none) : hupdO h k none = h := by
  funext j
  simp only [hupdO]
  split
  · rename_i e; rw [e, hk]
  · rfl
theorem w64_nat {q : Nat} (h : q < 9223372036854775808) : w64 (q : Int) = (q : Int) := w64_id (by omega) (by omega)
theorem k256 : ((256 : Int) = 0) = False := by simp
theorem quo256 (m i : Nat) : ((m / 256 ^ i : Nat) : Int) / 256 = ((m / 256 ^ (i + 1) : Nat) : Int) := by
  rw [Nat.pow_succ, ← Nat.div_div_eq_div_mul]; rfl
variable [Its]
def ri_st (n m : Int) (L : List Int) : St := mkS [(0, ai n), (3, ai m), (4, gU 21 L)] (gUH 21 L)
def ri_en (n : Int) (L : List Int) : St := mkS [(0, ai n), (4, gU 21 L)] (gUH 21 L)
theorem ri_loop {n : Int} {m : Nat} (hm : m < 9223372036854775808) : ∀ j i : Nat, i + j = dl m → X G (.loop gantryref01_Int_l0) (ri_st n ((m / 256 ^ i : Nat) : Int) (upb m i)) = some (.x 0, ri_en n (upb m (dl m)))
  | 0, i, h => by
    have hl := dl_lt (m := m) (by omega) i
    have e1 : decide (((m / 256 ^ i : Nat) : Int) > 0) = false := gt_f (fun h2 => by have := hl.1 (by omega); omega)
    have : i = dl m := by omega
    rw [X_loop, ← this]
    generalize ((m / 256 ^ i : Nat) : Int) = q at *
    generalize upb m i = L at *
    by_cases h0 : L = []
    · subst h0
      simp -implicitDefEqProofs (maxSteps := 10000000) only [gantryref01_Int_l0, ri_st, ri_en, gU_nil, gUH_nil, hupdO_none, e1, go_sem, reduceCtorEq, ↓reduceIte, Nat.reduceEqDiff, iv]
    · simp -implicitDefEqProofs (maxSteps := 10000000) only [gantryref01_Int_l0, ri_st, ri_en, arrU, gU_ne h0, gUH_ne h0, refsL_U, e1, go_sem, reduceCtorEq, ↓reduceIte, Nat.reduceEqDiff, iv]
  | j + 1, i, h => by
    have hl := dl_lt (m := m) (by omega) i
    have hd := dl_le m
    have hpos := hl.2 (by omega)
    have e1 : decide (((m / 256 ^ i : Nat) : Int) > 0) = true := gt_t (by omega)
    have e2 := rem_pos (a := ((m / 256 ^ i : Nat) : Int)) (b := 256) (Int.natCast_nonneg _)
    have hle : m / 256 ^ i ≤ m := Nat.div_le_self _ _
    have hle2 : m / 256 ^ (i + 1) ≤ m := Nat.div_le_self _ _
    have e3 : w64 (((m / 256 ^ i : Nat) : Int).tdiv 256) = ((m / 256 ^ (i + 1) : Nat) : Int) := by
      rw [quo_pos (Int.natCast_nonneg _), quo256]
      exact w64_nat (Nat.lt_of_le_of_lt hle2 hm)
    have e4 : IntKind.u8.wrap (((m / 256 ^ i : Nat) : Int) % 256) = bt m i := by rw [u8w]; unfold bt; omega
    have f1 := app_fU (n := (upb m i).length + 1) (by rw [upb_len]; omega)
    have hx : X G gantryref01_Int_l0 (ri_st n ((m / 256 ^ i : Nat) : Int) (upb m i)) = some (.n, ri_st n ((m / 256 ^ (i + 1) : Nat) : Int) (upb m (i + 1))) := by
      rw [upb]
      generalize ((m / 256 ^ i : Nat) : Int) = q at *
      generalize ((m / 256 ^ (i + 1) : Nat) : Int) = q2 at *
      generalize upb m i = L at *
      generalize bt m i = b at *
      by_cases h0 : L = []
      · subst h0
        have f0 := app_fU (n := 1) (by omega)
        simp -implicitDefEqProofs (maxSteps := 10000000) only [gantryref01_Int_l0, ri_st, ri_en, arrU, gU_nil, gUH_nil, gU_one, gUH_one, hupdO_none, cellsU_one, D.one, allD, src_row, k256, f0, e1, e2, e3, e4, go_sem, reduceCtorEq, ↓reduceIte, Nat.reduceEqDiff, iv]
      · simp -implicitDefEqProofs (maxSteps := 10000000) only [gantryref01_Int_l0, ri_st, ri_en, arrU, gU_ne h0, gUH_ne h0, gU_snoc, gUH_snoc, refsL_U, cellsU_length, cellsU_snoc, f1, D.one, allD, src_row, k256, e1, e2, e3, e4, go_sem, reduceCtorEq, ↓reduceIte, Nat.reduceEqDiff, iv]
    rw [X_loop, hx, Option.bind_some, if_pos rfl]
    exact ri_loop hm j (i + 1) (by omega)
def rj_st (K : Nat) (n : Int) (U L : List Int) (i : Int) : St := mkS [(0, ai n), (4, gU 21 U), (6, .own [K] L.length), (7, ai i)] (gUH 21 U ++ [([K], arrU L.length L)])
def rj_en (K : Nat) (L : List Int) : St := mkS [(6, .own [K] L.length)] [([K], arrU L.length L)]
theorem rj_stop {K : Nat} (hK : K = 33 ∨ K = 39) {n : Int} {U L : List Int} : X G gantryref01_Int_l1 (rj_st K n U L (-1)) = some (.x 2, rj_en K L) := by
  have e1 : decide ((-1 : Int) ≥ 0) = false := rfl
  rcases hK with rfl | rfl
  · by_cases h0 : U = []
    · subst h0
      simp -implicitDefEqProofs (maxSteps := 10000000) only [gantryref01_Int_l1, rj_st, rj_en, arrU, gU_nil, gUH_nil, hupdO_non, List.nil_append, refsL_U, e1, go_sem, reduceCtorEq, ↓reduceIte, Nat.reduceEqDiff, iv]
    · simp -implicitDefEqProofs (maxSteps := 10000000) only [gantryref01_Int_l1, rj_st, rj_en, arrU, gU_ne h0, gUH_ne h0, List.cons_append, List.nil_append, hupdO_non, refsL_U, e1, go_sem, reduceCtorEq, ↓reduceIte, Nat.reduceEqDiff, iv]
  · by_cases h0 : U = []
    · subst h0
      simp -implicitDefEqProofs (maxSteps := 10000000) only [gantryref01_Int_l1, rj_st, rj_en, arrU, gU_nil, gUH_nil, hupdO_non, List.nil_append, refsL_U, e1, go_sem, reduceCtorEq, ↓reduceIte, Nat.reduceEqDiff, iv]
    · simp -implicitDefEqProofs (maxSteps := 10000000) only [gantryref01_Int_l1, rj_st, rj_en, arrU, gU_ne h0, gUH_ne h0, List.cons_append, List.nil_append, hupdO_non, refsL_U, e1, go_sem, reduceCtorEq, ↓reduceIte, Nat.reduceEqDiff, iv]
theorem rj_go {K : Nat} {n : Int} (hK : (K = 33 ∧ 0 ≤ n) ∨ (K = 39 ∧ n < 0)) {m k i : Nat} (hi : i < k) (hk : k ≤ 8) {L : List Int} (hL : L.length ≤ 100) :
    X G gantryref01_Int_l1 (rj_st K n (upb m k) L i) = some (.n, rj_st K n (upb m k) (L ++ [flp n (bt m i)]) ((i : Int) - 1)) := by
  have hU : upb m k ≠ [] := fun h => by have := upb_len m k; rw [h] at this; simp at this; omega
  have e1 : decide ((i : Int) ≥ 0) = true := ge_t (by omega)
  have e2 : w64 ((i : Int) - 1) = (i : Int) - 1 := w64_id (by omega) (by omega)
  have x1 : guardO (0 ≤ (i : Int) ∧ (i : Int) < (upb m k).length) (some (A.ep [21] (upb m k).length i)) = some (A.ep [21] (upb m k).length i) := if_pos (by rw [upb_len]; omega)
  have x2 : ∀ c : List Int, (cellsU c)[i]? = (c[i]?).map fun x => A.d (.v (.int .u8 x)) := fun c => by rw [cellsU, List.getElem?_map]
  have x3 : (upb m k)[i]? = some (bt m i) := by
    have h1 : i < (upb m k).length := by rw [upb_len]; exact hi
    have := upb_get m k i hi
    rw [List.getD_eq_getElem?_getD, List.getElem?_eq_getElem h1] at this
    rw [List.getElem?_eq_getElem h1]
    exact congrArg some this
  have f1 := app_fU (n := L.length + 1) (by omega)
  have hb := bt_b m i
  have lt1 : (0 ≤ (i : Int) ∧ (i : Int) < ((upb m k).length : Int)) = True := eq_true (by rw [upb_len]; omega)
  have hlen : ∀ z : Int, (L ++ [z]).length = L.length + 1 := fun z => by simp
  simp only [rj_st, hlen]
  unfold flp
  generalize upb m k = U at *
  generalize bt m i = b at *
  rcases hK with ⟨rfl, hs⟩ | ⟨rfl, hs⟩
  · have s1 : decide (n < 0) = false := lt_f (by omega)
    rw [if_neg (by omega)]
    simp -implicitDefEqProofs (maxSteps := 10000000) only [gantryref01_Int_l1, arrU, gU_ne hU, gUH_ne hU, List.cons_append, List.nil_append, hupdO_non, refsL_U, cellsU_length, cellsU_snoc, f1, lt1, x2, x3, ldcells, D.one, allD, src_row, e1, e2, s1, go_sem, reduceCtorEq, ↓reduceIte, Nat.reduceEqDiff, iv]
  · have s1 : decide (n < 0) = true := lt_t hs
    have e3 : IntKind.u8.wrap (255 - b) = 255 - b := u8m (by omega)
    rw [if_pos hs]
    simp -implicitDefEqProofs (maxSteps := 10000000) only [gantryref01_Int_l1, arrU, gU_ne hU, gUH_ne hU, List.cons_append, List.nil_append, hupdO_non, refsL_U, cellsU_length, cellsU_snoc, f1, lt1, x2, x3, ldcells, D.one, allD, src_row, e1, e2, e3, s1, go_sem, reduceCtorEq, ↓reduceIte, Nat.reduceEqDiff, iv]
end Go.AM

/- ref01.Int; both Ints; both Encode; ref01.Same. -/
namespace Go.AM
open Go Go.RowKit
theorem retA_rU (k : Key) (h : Hp) (l : List Int) : retA k h false true (rU l) = some (.d (rowU l), h) := rfl
/-! ### Encode -/
def enI (x : Int) : List Int := wL (Int.sign x :: digs x.natAbs)
theorem sign_i64 (x : Int) : I64 (Int.sign x) := by
  rcases Int.lt_trichotomy x 0 with h | h | h
  · rw [Int.sign_eq_neg_one_of_neg h]; exact ⟨by omega, by omega⟩
  · subst h; exact ⟨by decide, by decide⟩
  · rw [Int.sign_eq_one_of_pos h]; exact ⟨by omega, by omega⟩
theorem en_i64 (x : Int) : ∀ n ∈ Int.sign x :: digs x.natAbs, I64 n := fun n hn => by
  rcases List.mem_cons.1 hn with rfl | h
  · exact sign_i64 x
  · have := digs_dig _ n h; exact ⟨by omega, by omega⟩
theorem enI_len {x : Int} (hx : nd x ≤ 100000000000) : (enI x).length ≤ 1000000000000 := by
  have := wL_len (Int.sign x :: digs x.natAbs)
  have hn : (digs x.natAbs).length ≤ 100000000000 := hx
  rw [List.length_cons] at this
  rw [enI]; omega

variable [Its]

theorem rj_loop {K : Nat} {n : Int} (hK : (K = 33 ∧ 0 ≤ n) ∨ (K = 39 ∧ n < 0)) {k : Nat} (hk : k ≤ 8) : ∀ (i : Nat) (L : List Int), i ≤ k → L.length + i ≤ 100 → X G (.loop gantryref01_Int_l1) (rj_st K n (upb (mag n) k) L ((i : Int) - 1)) = some (.x 2, rj_en K (L ++ dwn n i))
  | 0, L, _, _ => by
    rw [X_loop, show ((0 : Nat) : Int) - 1 = -1 from rfl, rj_stop (by rcases hK with h | h; exact .inl h.1; exact .inr h.1), dwn, List.append_nil]; rfl
  | i + 1, L, hi, hL => by
    rw [X_loop, show ((i + 1 : Nat) : Int) - 1 = (i : Int) by omega, rj_go hK (by omega) hk (by omega), Option.bind_some, if_pos rfl, dwn, show L ++ flp n (bt (mag n) i) :: dwn n i = (L ++ [flp n (bt (mag n) i)]) ++ dwn n i by simp]
    exact rj_loop hK hk i _ (by omega) (by rw [List.length_append, List.length_singleton]; omega)
theorem rInt_spec {n : Int} (hn : I64 n) : callX G n_gantryref01_Int [iv n] = some (rU (wI n)) := by
  rw [callX_eq (cf := gantryref01_Int) rfl]
  have hm := mag_b hn
  have hd := dl_le (mag n)
  have h1 := ri_loop (n := n) hm (dl (mag n)) 0 (by omega)
  rw [Nat.pow_zero, Nat.div_one, upb] at h1
  have lU := upb_len (mag n) (dl (mag n))
  have e2 : w64 ((dl (mag n) : Nat) - 1) = (dl (mag n) : Nat) - 1 := w64_id (by omega) (by omega)
  obtain ⟨h3, h4⟩ := hn
  rw [wI]
  have f0 := app_fU (n := 1) (by omega)
  have fl : lenA (gU 21 (upb (mag n) (dl (mag n)))) = some (dl (mag n)) := by
    by_cases h0 : upb (mag n) (dl (mag n)) = []
    · rw [h0, gU_nil]
      rw [h0] at lU
      rw [← lU]; rfl
    · rw [gU_ne h0, lenA_own, lU]
  have fg : gU 21 (upb (mag n) (dl (mag n))) = .d (.z true) ∧ gUH 21 (upb (mag n) (dl (mag n))) = [] ∨ gU 21 (upb (mag n) (dl (mag n))) = .own [21] (dl (mag n)) ∧ gUH 21 (upb (mag n) (dl (mag n))) = [([21], arrU (dl (mag n)) (upb (mag n) (dl (mag n))))] := by
    by_cases h0 : upb (mag n) (dl (mag n)) = []
    · exact .inl ⟨by rw [h0, gU_nil], by rw [h0, gUH_nil]⟩
    · exact .inr ⟨by rw [gU_ne h0, lU], by rw [gUH_ne h0, lU]⟩
  by_cases hs : n < 0
  · have s1 : decide (n < 0) = true := lt_t hs
    have s2 : decide (n ≥ 0) = false := ge_f (by omega)
    have m1 : w64 (-1 - n) = ((mag n : Nat) : Int) := by
      unfold mag
      rw [if_pos hs, w64_id (by omega) (by omega)]; omega
    obtain ⟨hd0, hh⟩ : ∃ h0, 127 - ((dl (mag n) : Nat) : Int) = h0 := ⟨_, rfl⟩
    have e3 : w64 (127 - ((dl (mag n) : Nat) : Int)) = hd0 := by rw [w64_id (by omega) (by omega)]; exact hh
    have e4 : IntKind.u8.wrap hd0 = hd0 := u8m (by omega)
    have e5 : flp n (128 + ((dl (mag n) : Nat) : Int)) = hd0 := by unfold flp; rw [if_pos hs]; omega
    have h2 := rj_loop (K := 39) (.inr ⟨rfl, hs⟩) hd (dl (mag n)) [hd0] (Nat.le_refl _) (by rw [List.length_singleton]; omega)
    have hl : ([hd0] ++ dwn n (dl (mag n))) = (hd0) :: dwn n (dl (mag n)) := rfl
    rw [hl] at h2
    rw [e5]
    simp only [rj_st, rj_en, ri_st, ri_en, gU_nil, gUH_nil, List.length_singleton] at h1 h2
    generalize gU 21 (upb (mag n) (dl (mag n))) = u at *
    generalize gUH 21 (upb (mag n) (dl (mag n))) = uh at *
    clear e5 hl lU
    have c1 := cellsU_one (hd0)
    generalize (hd0) :: dwn n (dl (mag n)) = W at *
    generalize upb (mag n) (dl (mag n)) = U at *
    generalize ((mag n : Nat) : Int) = m at *
    rcases fg with ⟨rfl, rfl⟩ | ⟨rfl, rfl⟩
    · simp only [arrU, List.nil_append, c1, go_sem] at h1 h2
      simp -implicitDefEqProofs (maxSteps := 10000000) only [gantryref01_Int, rU, hupdO_non, fl, c1, f0, refsL_U, allD_U, src_row, D.one, allD, s1, s2, m1, h1, h2, e2, e3, e4, go_sem, reduceCtorEq, ↓reduceIte, Nat.reduceEqDiff, iv]
    · simp only [arrU, List.cons_append, List.nil_append, c1, go_sem] at h1 h2
      simp -implicitDefEqProofs (maxSteps := 10000000) only [gantryref01_Int, rU, hupdO_non, fl, c1, f0, refsL_U, allD_U, src_row, D.one, allD, s1, s2, m1, h1, h2, e2, e3, e4, go_sem, reduceCtorEq, ↓reduceIte, Nat.reduceEqDiff, iv]
  · have s1 : decide (n < 0) = false := lt_f hs
    have s2 : decide (n ≥ 0) = true := ge_t (by omega)
    have m1 : n = ((mag n : Nat) : Int) := by
      unfold mag
      rw [if_neg hs]; omega
    obtain ⟨hd0, hh⟩ : ∃ h0, 128 + ((dl (mag n) : Nat) : Int) = h0 := ⟨_, rfl⟩
    have e3 : w64 (128 + ((dl (mag n) : Nat) : Int)) = hd0 := by rw [w64_id (by omega) (by omega)]; exact hh
    have e4 : IntKind.u8.wrap hd0 = hd0 := u8m (by omega)
    have e5 : flp n (128 + ((dl (mag n) : Nat) : Int)) = hd0 := by unfold flp; rw [if_neg hs]; exact hh
    have h2 := rj_loop (K := 33) (n := n) (.inl ⟨rfl, by omega⟩) hd (dl (mag n)) [hd0] (Nat.le_refl _) (by rw [List.length_singleton]; omega)
    have hl : ([hd0] ++ dwn n (dl (mag n))) = (hd0) :: dwn n (dl (mag n)) := rfl
    rw [hl] at h2
    rw [e5]
    rw [← m1] at h1
    simp only [rj_st, rj_en, ri_st, ri_en, gU_nil, gUH_nil, List.length_singleton] at h1 h2
    generalize gU 21 (upb (mag n) (dl (mag n))) = u at *
    generalize gUH 21 (upb (mag n) (dl (mag n))) = uh at *
    clear e5 hl lU m1
    have c1 := cellsU_one (hd0)
    generalize (hd0) :: dwn n (dl (mag n)) = W at *
    generalize upb (mag n) (dl (mag n)) = U at *
    rcases fg with ⟨rfl, rfl⟩ | ⟨rfl, rfl⟩
    · simp only [arrU, List.nil_append, c1, go_sem] at h1 h2
      simp -implicitDefEqProofs (maxSteps := 10000000) only [gantryref01_Int, rU, hupdO_non, fl, c1, f0, refsL_U, allD_U, src_row, D.one, allD, s1, s2, h1, h2, e2, e3, e4, go_sem, reduceCtorEq, ↓reduceIte, Nat.reduceEqDiff, iv]
    · simp only [arrU, List.cons_append, List.nil_append, c1, go_sem] at h1 h2
      simp -implicitDefEqProofs (maxSteps := 10000000) only [gantryref01_Int, rU, hupdO_non, fl, c1, f0, refsL_U, allD_U, src_row, D.one, allD, s1, s2, h1, h2, e2, e3, e4, go_sem, reduceCtorEq, ↓reduceIte, Nat.reduceEqDiff, iv]

/-! ### Ints -/
def rk_st (d : D) (L : List Int) (i : Int) : St := mkS [(0, .d d), (3, .own [7] L.length), (4, ai i)] [([7], arrU L.length L)]
def rk_en (L : List Int) : St := mkS [(3, .own [7] L.length)] [([7], arrU L.length L)]
def wk2_st (d : D) (L : List Int) (n i : Int) : St := mkS [(3, .own [8] L.length), (9, .d d), (10, ai n), (11, ai i)] [([8], arrU L.length L)]
def wk2_en (L : List Int) : St := mkS [(3, .own [8] L.length)] [([8], arrU L.length L)]
section
variable {d : D} {l : List Int}
theorem rk_loop (hr : Rw d l) (hl : ∀ n ∈ l, I64 n) (hn : l.length ≤ 1000000000000) : ∀ (j i : Nat) (L : List Int), i + j = l.length → L.length ≤ 9 + 9 * i → X G (.loop gantryref01_Ints_l0) (rk_st d L i) = some (.x 0, rk_en (L ++ wJ (l.drop i)))
  | 0, i, L, hj, hL => by
    have ll := hr.len
    have e1 : decide ((i : Int) < (l.length : Int)) = false := lt_f (by omega)
    rw [X_loop, List.drop_eq_nil_of_le (by omega), wJ, List.append_nil]
    simp -implicitDefEqProofs (maxSteps := 10000000) only [gantryref01_Ints_l0, rk_st, rk_en, arrU, hupdO_non, ll, refsL_U, e1, go_sem, reduceCtorEq, ↓reduceIte, Nat.reduceEqDiff, iv]
  | j + 1, i, L, hj, hL => by
    have ll := hr.len
    have hi : i < l.length := by omega
    have e1 : decide ((i : Int) < (l.length : Int)) = true := lt_t (by omega)
    have e2 : w64 ((i : Int) + 1) = ((i + 1 : Nat) : Int) := by rw [w64_id (by omega) (by omega)]; rfl
    have x1 := hr.ixn hi
    have x2 := fun h => ldv h l hi
    have hx : I64 (l.getD i 0) := hl _ (by rw [List.getD_eq_getElem?_getD, List.getElem?_eq_getElem hi]; exact List.getElem_mem hi)
    have hdr : l.drop i = l.getD i 0 :: l.drop (i + 1) := by
      rw [List.drop_eq_getElem_cons hi, List.getD_eq_getElem?_getD, List.getElem?_eq_getElem hi]; rfl
    rw [hdr, wJ, ← List.append_assoc]
    generalize l.getD i 0 = x at *
    have g := rInt_spec hx
    have lw := wI_len x
    have f1 := app_fU (n := L.length + (wI x).length) (by omega)
    have f2 := allone_U (wI x)
    generalize wI x = W at *
    simp only [iv, rU] at g
    have hl2 : (L ++ W).length = L.length + W.length := List.length_append
    have hgo : X G gantryref01_Ints_l0 (rk_st d L i) = some (.n, rk_st d (L ++ W) ((i + 1 : Nat) : Int)) := by
      simp only [rk_st, hl2]
      simp -implicitDefEqProofs (maxSteps := 10000000) only [gantryref01_Ints_l0, arrU, hupdO_non, ll, x1, x2, g, f1, f2, refsL_U, cellsU_length, cellsU_app, List.length_map, src_row, e1, e2, go_sem, reduceCtorEq, ↓reduceIte, Nat.reduceEqDiff, iv]
    rw [X_loop, hgo, Option.bind_some, if_pos rfl]
    exact rk_loop hr hl hn j (i + 1) _ (by omega) (by rw [hl2]; omega)
theorem wk2_loop (hr : Rw d l) (hl : ∀ n ∈ l, I64 n) (hn : l.length ≤ 1000000000000) : ∀ (j i : Nat) (L : List Int), i + j = l.length → L.length ≤ 9 + 9 * i → X G (.loop wire_Ints_l0) (wk2_st d L l.length i) = some (.x 0, wk2_en (L ++ wJ (l.drop i)))
  | 0, i, L, hj, hL => by
    have ll := hr.len
    have e1 : decide ((i : Int) < (l.length : Int)) = false := lt_f (by omega)
    rw [X_loop, List.drop_eq_nil_of_le (by omega), wJ, List.append_nil]
    simp -implicitDefEqProofs (maxSteps := 10000000) only [wire_Ints_l0, wk2_st, wk2_en, arrU, hupdO_non, ll, refsL_U, e1, go_sem, reduceCtorEq, ↓reduceIte, Nat.reduceEqDiff, iv]
  | j + 1, i, L, hj, hL => by
    have hi : i < l.length := by omega
    have e1 : decide ((i : Int) < (l.length : Int)) = true := lt_t (by omega)
    have e2 : w64 ((i : Int) + 1) = ((i + 1 : Nat) : Int) := by rw [w64_id (by omega) (by omega)]; rfl
    have x1 := hr.ixn hi
    have x2 := fun h => ldv h l hi
    have hx : I64 (l.getD i 0) := hl _ (by rw [List.getD_eq_getElem?_getD, List.getElem?_eq_getElem hi]; exact List.getElem_mem hi)
    have hdr : l.drop i = l.getD i 0 :: l.drop (i + 1) := by
      rw [List.drop_eq_getElem_cons hi, List.getD_eq_getElem?_getD, List.getElem?_eq_getElem hi]; rfl
    rw [hdr, wJ, ← List.append_assoc]
    generalize l.getD i 0 = x at *
    have g := wInt_spec hx
    have lw := wI_len x
    have f1 := app_fU (n := L.length + (wI x).length) (by omega)
    have f2 := allone_U (wI x)
    generalize wI x = W at *
    simp only [iv, rU] at g
    have hl2 : (L ++ W).length = L.length + W.length := List.length_append
    have hgo : X G wire_Ints_l0 (wk2_st d L l.length i) = some (.n, wk2_st d (L ++ W) l.length ((i + 1 : Nat) : Int)) := by
      simp only [wk2_st, hl2]
      simp -implicitDefEqProofs (maxSteps := 10000000) only [wire_Ints_l0, arrU, hupdO_non, x1, x2, g, f1, f2, refsL_U, cellsU_length, cellsU_app, List.length_map, src_row, e1, e2, go_sem, reduceCtorEq, ↓reduceIte, Nat.reduceEqDiff, iv]
    rw [X_loop, hgo, Option.bind_some, if_pos rfl]
    exact wk2_loop hr hl hn j (i + 1) _ (by omega) (by rw [hl2]; omega)
theorem rInts_spec (hr : Rw d l) (hl : ∀ n ∈ l, I64 n) (hn : l.length ≤ 1000000000000) : callX G n_gantryref01_Ints [d] = some (rU (wL l)) := by
  rw [callX_eq (cf := gantryref01_Ints) rfl]
  have ll := hr.len
  have g := rInt_spec (n := (l.length : Nat)) ⟨by omega, by omega⟩
  have lw := wI_len ((l.length : Nat) : Int)
  have h := rk_loop hr hl hn l.length 0 (wI (l.length : Nat)) (by omega) (by omega)
  rw [List.drop_zero] at h
  rw [wL]
  generalize wI ((l.length : Nat) : Int) ++ wJ l = W at *
  generalize wI ((l.length : Nat) : Int) = V at *
  have c1 := mapd_U V
  simp only [rk_st, rk_en, arrU, go_sem, nc0] at h
  simp only [iv, rU] at g
  simp -implicitDefEqProofs (maxSteps := 10000000) only [gantryref01_Ints, rU, hupdO_non, ll, g, h, c1, refsL_U, allD_U, go_sem, reduceCtorEq, ↓reduceIte, Nat.reduceEqDiff, iv]
theorem wInts_spec (hr : Rw d l) (hl : ∀ n ∈ l, I64 n) (hn : l.length ≤ 1000000000000) : callX G n_wire_Ints [d] = some (rU (wL l)) := by
  rw [callX_eq (cf := wire_Ints) rfl]
  have ll := hr.len
  have g := wInt_spec (n := (l.length : Nat)) ⟨by omega, by omega⟩
  have lw := wI_len ((l.length : Nat) : Int)
  have h := wk2_loop hr hl hn l.length 0 (wI (l.length : Nat)) (by omega) (by omega)
  rw [List.drop_zero] at h
  rw [wL]
  generalize wI ((l.length : Nat) : Int) ++ wJ l = W at *
  generalize wI ((l.length : Nat) : Int) = V at *
  have c1 := mapd_U V
  simp only [wk2_st, wk2_en, arrU, go_sem, nc0] at h
  simp only [iv, rU] at g
  simp -implicitDefEqProofs (maxSteps := 10000000) only [wire_Ints, rU, hupdO_non, ll, g, h, c1, refsL_U, allD_U, go_sem, reduceCtorEq, ↓reduceIte, Nat.reduceEqDiff, iv]
end

theorem Encode_spec {x : Int} (hx : nd x ≤ 100000000000) : callX G n_integer_Encode [encI x] = some (.d (rowU (enI x))) := by
  rw [callX_eq (cf := integer_Encode) rfl]
  have hn : (digs x.natAbs).length ≤ 100000000000 := hx
  have g1 := Sign_spec x
  have g2 := wInts_spec (Rw.row (Int.sign x :: digs x.natAbs)) (en_i64 x) (by rw [List.length_cons]; omega)
  have sd := fun st => src_dg st (digs x.natAbs)
  have f1 := (show ((1 + (digs x.natAbs).length) * 8 ≤ bound) = True from eq_true (by simp only [bound]; omega))
  have f2 : List.all ((digs x.natAbs).map iv) D.one = true := by simp [iv, D.one, A.one]
  have f3 : ((digs x.natAbs).map iv).length = (digs x.natAbs).length := List.length_map _
  rw [enI]
  have hr : rowI (Int.sign x :: digs x.natAbs) = .row (1 + (digs x.natAbs).length) (.v (.int .i64 (Int.sign x)) :: (digs x.natAbs).map iv) := by rw [rowI, List.length_cons, Nat.add_comm]; rfl
  rw [hr] at g2
  generalize wL (Int.sign x :: digs x.natAbs) = W at *
  generalize Int.sign x = s at *
  simp only [iv, rU] at g1 g2
  simp -implicitDefEqProofs (maxSteps := 10000000) only [integer_Encode, bI, rowU, sd, f1, f2, f3, g1, g2, go_sem, reduceCtorEq, ↓reduceIte, Nat.reduceEqDiff, iv]
theorem rEncode_spec {x : Int} (hx : nd x ≤ 100000000000) : callX G n_gantryref04_Encode [encI x] = some (.d (rowU (enI x))) := by
  rw [callX_eq (cf := gantryref04_Encode) rfl]
  have hn : (digs x.natAbs).length ≤ 100000000000 := hx
  have g1 := rSign_spec (x := x) (by omega)
  have g2 := rInts_spec (Rw.row (Int.sign x :: digs x.natAbs)) (en_i64 x) (by rw [List.length_cons]; omega)
  have sd := fun st => src_dg st (digs x.natAbs)
  have f1 := (show ((1 + (digs x.natAbs).length) * 8 ≤ bound) = True from eq_true (by simp only [bound]; omega))
  have f2 : List.all ((digs x.natAbs).map iv) D.one = true := by simp [iv, D.one, A.one]
  have f3 : ((digs x.natAbs).map iv).length = (digs x.natAbs).length := List.length_map _
  rw [enI]
  have hr : rowI (Int.sign x :: digs x.natAbs) = .row (1 + (digs x.natAbs).length) (.v (.int .i64 (Int.sign x)) :: (digs x.natAbs).map iv) := by rw [rowI, List.length_cons, Nat.add_comm]; rfl
  rw [hr] at g2
  generalize wL (Int.sign x :: digs x.natAbs) = W at *
  generalize Int.sign x = s at *
  simp only [iv, rU] at g1 g2
  simp -implicitDefEqProofs (maxSteps := 10000000) only [gantryref04_Encode, bI, rowU, sd, f1, f2, f3, g1, g2, go_sem, reduceCtorEq, ↓reduceIte, Nat.reduceEqDiff, iv]
/-! ### Same -/
def bs_st (d e : D) (i : Int) : St := mkS [(0, .d d), (1, .d e), (5, ai i)] []
theorem bs_loop {d e : D} {l : List Int} (h1 : RwU d l) (h2 : RwU e l) (hn : l.length ≤ 1000000000000) : ∀ j i : Nat, i + j = l.length → X G (.loop gantryref01_Same_l0) (bs_st d e i) = some (.x 0, mkS [] [])
  | 0, i, hj => by
    have l1 := h1.len
    have e1 : decide ((i : Int) < (l.length : Int)) = false := lt_f (by omega)
    rw [X_loop]
    simp -implicitDefEqProofs (maxSteps := 10000000) only [gantryref01_Same_l0, bs_st, l1, e1, go_sem, reduceCtorEq, ↓reduceIte, Nat.reduceEqDiff, iv]
  | j + 1, i, hj => by
    have l1 := h1.len
    have hi : i < l.length := by omega
    have e1 : decide ((i : Int) < (l.length : Int)) = true := lt_t (by omega)
    have e2 : w64 ((i : Int) + 1) = ((i + 1 : Nat) : Int) := by rw [w64_id (by omega) (by omega)]; rfl
    have x1 := h1.ixn hi
    have x3 := h2.ixn hi
    have x2 := fun h => ldu h l hi
    have e3 : (l.getD i 0 != l.getD i 0) = false := bne_self_eq_false _
    have hx : X G gantryref01_Same_l0 (bs_st d e i) = some (.n, bs_st d e ((i + 1 : Nat) : Int)) := by
      simp -implicitDefEqProofs (maxSteps := 10000000) only [gantryref01_Same_l0, bs_st, l1, x1, x2, x3, e1, e2, e3, go_sem, reduceCtorEq, ↓reduceIte, Nat.reduceEqDiff, iv]
    rw [X_loop, hx, Option.bind_some, if_pos rfl]
    exact bs_loop h1 h2 hn j (i + 1) (by omega)
theorem bSame_refl {d e : D} {l : List Int} (h1 : RwU d l) (h2 : RwU e l) (hn : l.length ≤ 1000000000000) : callX G n_gantryref01_Same [d, e] = some (.d (bv true)) := by
  rw [callX_eq (cf := gantryref01_Same) rfl]
  have l1 := h1.len
  have l2 := h2.len
  have h := bs_loop h1 h2 hn l.length 0 (by omega)
  have e1 : ((l.length : Int) != (l.length : Int)) = false := bne_self_eq_false _
  simp only [bs_st, go_sem, nc0] at h
  simp -implicitDefEqProofs (maxSteps := 10000000) only [gantryref01_Same, l1, l2, e1, h, go_sem, reduceCtorEq, ↓reduceIte, Nat.reduceEqDiff, iv, bv]
end Go.AM

/-
  DERIVED: THE SHELF's CONTRACTS AT THIS DUMP, IN PLAIN WORDS (tools/lay-plain.mjs out of 'TryzShelf.lean', which tools/lay-shelf.mjs wrote): THE SAME DECLARATIONS UNDER THE SAME NAMES: 'import', 'namespace', 'open', 'def', 'theorem' AND NOTHING ELSE: no command of the shelf's: FOR A HAND-IN. Each laying: the table of numbers ('.._ren') and one theorem, a field a fact of the dump's own or the kernel's comparison; each contract: ONE APPLICATION.
-/
namespace Go.Proofs
open Go.Shelf
def Tryz.lays169_ren : Go.Shelf.Ren := ⟨fun | 169 => 74 | n => n, fun | 70 => 78 | 9 => 9 | 0 => 0 | 72 => 80 | 37 => 35 | 127 => 105 | 3 => 3 | 5 => 5 | n => n, fun | n => n⟩
theorem Tryz.lays169 : Go.Proofs.Lays.n169 Tryz.prog Tryz.lays169_ren := {
  mixed := by kernel_rfl
  f169 := Tryz.func74.trans (congrArg some (by kernel_rfl))
  t0 := Tryz.underlying0
  a0 := Tryz.isAgg0
  z0 := Tryz.sizeOf0
  v0 := Tryz.zeroValue0
  t3 := Tryz.underlying3
  a3 := Tryz.isAgg3
  z3 := Tryz.sizeOf3
  v3 := Tryz.zeroValue3
  t9 := Tryz.underlying9
  a9 := Tryz.isAgg9
  z9 := Tryz.sizeOf9
  v9 := Tryz.zeroValue9
  t37 := Tryz.underlying35
  a37 := Tryz.isAgg35
  z37 := Tryz.sizeOf35
  v37 := Tryz.zeroValue35
  t70 := Tryz.underlying78
  a70 := Tryz.isAgg78
  z70 := Tryz.sizeOf78
  v70 := Tryz.zeroValue78
  t72 := Tryz.underlying80
  a72 := Tryz.isAgg80
  z72 := Tryz.sizeOf80
  v72 := Tryz.zeroValue80
  t127 := Tryz.underlying105
  a127 := Tryz.isAgg105
  z127 := Tryz.sizeOf105
  v127 := Tryz.zeroValue105 }
theorem Tryz.Builder_Extra_169 : Builder.Extra Tryz.prog Tryz.lays169_ren := {
  sizeBuilder := by kernel_rfl
  liesBuilder := by kernel_rfl
  t5 := Tryz.underlying5
  a5 := Tryz.isAgg5
  z5 := Tryz.sizeOf5
  v5 := Tryz.zeroValue5
  infoByte := by kernel_rfl
  cellsByte := by kernel_rfl
  sizeByte := by kernel_rfl
  neB5 := by decide }
def Tryz.lays160_ren : Go.Shelf.Ren := ⟨fun | 160 => 76 | 232 => 98 | 231 => 97 | 227 => 99 | 234 => 101 | 233 => 100 | 236 => 103 | 235 => 102 | 228 => 119 | 271 => 122 | 151 => 121 | 197 => 120 | 120 => 137 | 152 => 136 | 260 => 135 | 137 => 146 | 119 => 147 | 224 => 148 | 225 => 149 | 217 => 154 | 266 => 155 | n => n, fun | 9 => 9 | 4 => 4 | 3 => 3 | 5 => 5 | 117 => 109 | 116 => 108 | 0 => 0 | 124 => 112 | 21 => 21 | 105 => 128 | 46 => 99 | 119 => 154 | 139 => 157 | 138 => 156 | n => n, fun | 3 => 4 | 4 => 5 | n => n⟩
theorem Tryz.lays160 : Go.Proofs.Lays.n160 Tryz.prog Tryz.lays160_ren := {
  mixed := by kernel_rfl
  f119 := Tryz.func147.trans (congrArg some (by kernel_rfl))
  f120 := Tryz.func137.trans (congrArg some (by kernel_rfl))
  f137 := Tryz.func146.trans (congrArg some (by kernel_rfl))
  f151 := Tryz.func121.trans (congrArg some (by kernel_rfl))
  f152 := Tryz.func136.trans (congrArg some (by kernel_rfl))
  f160 := Tryz.func76.trans (congrArg some (by kernel_rfl))
  f197 := Tryz.func120.trans (congrArg some (by kernel_rfl))
  f217 := Tryz.func154.trans (congrArg some (by kernel_rfl))
  f224 := Tryz.func148.trans (congrArg some (by kernel_rfl))
  f225 := Tryz.func149.trans (congrArg some (by kernel_rfl))
  f227 := Tryz.func99.trans (congrArg some (by kernel_rfl))
  f228 := Tryz.func119.trans (congrArg some (by kernel_rfl))
  f231 := Tryz.func97.trans (congrArg some (by kernel_rfl))
  f232 := Tryz.func98.trans (congrArg some (by kernel_rfl))
  f233 := Tryz.func100.trans (congrArg some (by kernel_rfl))
  f234 := Tryz.func101.trans (congrArg some (by kernel_rfl))
  f235 := Tryz.func102.trans (congrArg some (by kernel_rfl))
  f236 := Tryz.func103.trans (congrArg some (by kernel_rfl))
  f260 := Tryz.func135.trans (congrArg some (by kernel_rfl))
  f266 := Tryz.func155.trans (congrArg some (by kernel_rfl))
  f271 := Tryz.func122.trans (congrArg some (by kernel_rfl))
  t0 := Tryz.underlying0
  a0 := Tryz.isAgg0
  z0 := Tryz.sizeOf0
  v0 := Tryz.zeroValue0
  t3 := Tryz.underlying3
  a3 := Tryz.isAgg3
  z3 := Tryz.sizeOf3
  v3 := Tryz.zeroValue3
  t4 := Tryz.underlying4
  a4 := Tryz.isAgg4
  z4 := Tryz.sizeOf4
  v4 := Tryz.zeroValue4
  t5 := Tryz.underlying5
  a5 := Tryz.isAgg5
  z5 := Tryz.sizeOf5
  v5 := Tryz.zeroValue5
  t9 := Tryz.underlying9
  a9 := Tryz.isAgg9
  z9 := Tryz.sizeOf9
  v9 := Tryz.zeroValue9
  t21 := Tryz.underlying21
  a21 := Tryz.isAgg21
  z21 := Tryz.sizeOf21
  v21 := Tryz.zeroValue21
  t46 := Tryz.underlying99
  a46 := Tryz.isAgg99
  z46 := Tryz.sizeOf99
  v46 := Tryz.zeroValue99
  t105 := Tryz.underlying128
  a105 := Tryz.isAgg128
  z105 := Tryz.sizeOf128
  v105 := Tryz.zeroValue128
  t116 := Tryz.underlying108
  a116 := Tryz.isAgg108
  z116 := Tryz.sizeOf108
  t117 := Tryz.underlying109
  a117 := Tryz.isAgg109
  z117 := Tryz.sizeOf109
  v117 := Tryz.zeroValue109
  t119 := Tryz.underlying154
  a119 := Tryz.isAgg154
  z119 := Tryz.sizeOf154
  t124 := Tryz.underlying112
  a124 := Tryz.isAgg112
  z124 := Tryz.sizeOf112
  v124 := Tryz.zeroValue112
  t138 := Tryz.underlying156
  a138 := Tryz.isAgg156
  z138 := Tryz.sizeOf156
  v138 := Tryz.zeroValue156
  t139 := Tryz.underlying157
  a139 := Tryz.isAgg157
  z139 := Tryz.sizeOf157
  v139 := Tryz.zeroValue157
  g3 := by kernel_rfl
  g4 := by kernel_rfl }
def Tryz.laysM171_ren : Go.Shelf.Ren := ⟨fun | 171 => 72 | 243 => 91 | 246 => 114 | 283 => 130 | 284 => 131 | 285 => 132 | 286 => 133 | 129 => 142 | 317 => 141 | 318 => 143 | 319 => 144 | 320 => 145 | 337 => 152 | 338 => 153 | n => n, fun | 3 => 3 | 9 => 9 | 2 => 2 | 4 => 4 | 171 => 137 | 0 => 0 | 53 => 70 | 37 => 35 | 5 => 5 | 173 => 140 | 212 => 151 | 51 => 122 | 20 => 20 | 213 => 152 | 46 => 99 | 232 => 167 | 233 => 168 | n => n, fun | 17 => 2 | 18 => 6 | 19 => 7 | n => n⟩
theorem Tryz.laysM171 : Go.Proofs.LaysM.n171 Tryz.prog Tryz.laysM171_ren := {
  mixed := by kernel_rfl
  f129 := Tryz.func142.trans (congrArg some (by kernel_rfl))
  f171 := Tryz.func72.trans (congrArg some (by kernel_rfl))
  f243 := Tryz.func91.trans (congrArg some (by kernel_rfl))
  f246 := Tryz.func114.trans (congrArg some (by kernel_rfl))
  f283 := Tryz.func130.trans (congrArg some (by kernel_rfl))
  f284 := Tryz.func131.trans (congrArg some (by kernel_rfl))
  f285 := Tryz.func132.trans (congrArg some (by kernel_rfl))
  f286 := Tryz.func133.trans (congrArg some (by kernel_rfl))
  f317 := Tryz.func141.trans (congrArg some (by kernel_rfl))
  f318 := Tryz.func143.trans (congrArg some (by kernel_rfl))
  f319 := Tryz.func144.trans (congrArg some (by kernel_rfl))
  f320 := Tryz.func145.trans (congrArg some (by kernel_rfl))
  f337 := Tryz.func152.trans (congrArg some (by kernel_rfl))
  f338 := Tryz.func153.trans (congrArg some (by kernel_rfl))
  t0 := Tryz.underlying0
  a0 := Tryz.isAgg0
  z0 := Tryz.sizeOf0
  v0 := Tryz.zeroValue0
  t2 := Tryz.underlying2
  a2 := Tryz.isAgg2
  z2 := Tryz.sizeOf2
  v2 := Tryz.zeroValue2
  t3 := Tryz.underlying3
  a3 := Tryz.isAgg3
  z3 := Tryz.sizeOf3
  v3 := Tryz.zeroValue3
  t4 := Tryz.underlying4
  a4 := Tryz.isAgg4
  z4 := Tryz.sizeOf4
  v4 := Tryz.zeroValue4
  t5 := Tryz.underlying5
  a5 := Tryz.isAgg5
  z5 := Tryz.sizeOf5
  v5 := Tryz.zeroValue5
  t9 := Tryz.underlying9
  a9 := Tryz.isAgg9
  z9 := Tryz.sizeOf9
  v9 := Tryz.zeroValue9
  t20 := Tryz.underlying20
  a20 := Tryz.isAgg20
  z20 := Tryz.sizeOf20
  v20 := Tryz.zeroValue20
  t37 := Tryz.underlying35
  a37 := Tryz.isAgg35
  z37 := Tryz.sizeOf35
  v37 := Tryz.zeroValue35
  t46 := Tryz.underlying99
  a46 := Tryz.isAgg99
  z46 := Tryz.sizeOf99
  v46 := Tryz.zeroValue99
  t51 := Tryz.underlying122
  a51 := Tryz.isAgg122
  z51 := Tryz.sizeOf122
  v51 := Tryz.zeroValue122
  t53 := Tryz.underlying70
  a53 := Tryz.isAgg70
  z53 := Tryz.sizeOf70
  v53 := Tryz.zeroValue70
  t171 := Tryz.underlying137
  a171 := Tryz.isAgg137
  z171 := Tryz.sizeOf137
  v171 := Tryz.zeroValue137
  t173 := Tryz.underlying140
  a173 := Tryz.isAgg140
  z173 := Tryz.sizeOf140
  v173 := Tryz.zeroValue140
  t212 := Tryz.underlying151
  a212 := Tryz.isAgg151
  z212 := Tryz.sizeOf151
  v212 := Tryz.zeroValue151
  t213 := Tryz.underlying152
  a213 := Tryz.isAgg152
  z213 := Tryz.sizeOf152
  t232 := Tryz.underlying167
  a232 := Tryz.isAgg167
  z232 := Tryz.sizeOf167
  v232 := Tryz.zeroValue167
  t233 := Tryz.underlying168
  a233 := Tryz.isAgg168
  z233 := Tryz.sizeOf168
  v233 := Tryz.zeroValue168
  g17 := by kernel_rfl
  g18 := by kernel_rfl
  g19 := by kernel_rfl
  i0 := by kernel_rfl
  i2 := by kernel_rfl
  i3 := by kernel_rfl
  i4 := by kernel_rfl
  i5 := by kernel_rfl
  i9 := by kernel_rfl
  i20 := by kernel_rfl
  i37 := by kernel_rfl
  i46 := by kernel_rfl
  i51 := by kernel_rfl
  i53 := by kernel_rfl
  i171 := by kernel_rfl
  i173 := by kernel_rfl
  i212 := by kernel_rfl
  i232 := by kernel_rfl
  i233 := by kernel_rfl
  m17 := by kernel_rfl
  m18 := by kernel_rfl
  m19 := by kernel_rfl }
def Tryz.lays105_ren : Go.Shelf.Ren := ⟨fun | 105 => 73 | 212 => 92 | 99 => 93 | 165 => 94 | 166 => 71 | 170 => 95 | 169 => 74 | 263 => 115 | 264 => 116 | 206 => 117 | 240 => 90 | 241 => 118 | 276 => 113 | 277 => 134 | n => n, fun | 9 => 9 | 3 => 3 | 4 => 4 | 20 => 20 | 0 => 0 | 46 => 99 | 109 => 100 | 5 => 5 | 72 => 80 | 76 => 84 | 51 => 122 | 146 => 123 | 53 => 70 | 148 => 125 | 70 => 78 | 37 => 35 | 75 => 82 | 127 => 105 | 164 => 119 | 80 => 87 | n => n, fun | n => n⟩
theorem Tryz.lays105 : Go.Proofs.Lays.n105 Tryz.prog Tryz.lays105_ren := {
  mixed := by kernel_rfl
  f99 := Tryz.func93.trans (congrArg some (by kernel_rfl))
  f105 := Tryz.func73.trans (congrArg some (by kernel_rfl))
  f165 := Tryz.func94.trans (congrArg some (by kernel_rfl))
  f166 := Tryz.func71.trans (congrArg some (by kernel_rfl))
  f169 := Tryz.func74.trans (congrArg some (by kernel_rfl))
  f170 := Tryz.func95.trans (congrArg some (by kernel_rfl))
  f206 := Tryz.func117.trans (congrArg some (by kernel_rfl))
  f212 := Tryz.func92.trans (congrArg some (by kernel_rfl))
  f240 := Tryz.func90.trans (congrArg some (by kernel_rfl))
  f241 := Tryz.func118.trans (congrArg some (by kernel_rfl))
  f263 := Tryz.func115.trans (congrArg some (by kernel_rfl))
  f264 := Tryz.func116.trans (congrArg some (by kernel_rfl))
  f276 := Tryz.func113.trans (congrArg some (by kernel_rfl))
  f277 := Tryz.func134.trans (congrArg some (by kernel_rfl))
  t0 := Tryz.underlying0
  a0 := Tryz.isAgg0
  z0 := Tryz.sizeOf0
  v0 := Tryz.zeroValue0
  t3 := Tryz.underlying3
  a3 := Tryz.isAgg3
  z3 := Tryz.sizeOf3
  v3 := Tryz.zeroValue3
  t4 := Tryz.underlying4
  a4 := Tryz.isAgg4
  z4 := Tryz.sizeOf4
  v4 := Tryz.zeroValue4
  t5 := Tryz.underlying5
  a5 := Tryz.isAgg5
  z5 := Tryz.sizeOf5
  v5 := Tryz.zeroValue5
  t9 := Tryz.underlying9
  a9 := Tryz.isAgg9
  z9 := Tryz.sizeOf9
  v9 := Tryz.zeroValue9
  t20 := Tryz.underlying20
  a20 := Tryz.isAgg20
  z20 := Tryz.sizeOf20
  v20 := Tryz.zeroValue20
  t37 := Tryz.underlying35
  a37 := Tryz.isAgg35
  z37 := Tryz.sizeOf35
  v37 := Tryz.zeroValue35
  t46 := Tryz.underlying99
  a46 := Tryz.isAgg99
  z46 := Tryz.sizeOf99
  v46 := Tryz.zeroValue99
  t51 := Tryz.underlying122
  a51 := Tryz.isAgg122
  z51 := Tryz.sizeOf122
  v51 := Tryz.zeroValue122
  t53 := Tryz.underlying70
  a53 := Tryz.isAgg70
  z53 := Tryz.sizeOf70
  v53 := Tryz.zeroValue70
  t70 := Tryz.underlying78
  a70 := Tryz.isAgg78
  z70 := Tryz.sizeOf78
  v70 := Tryz.zeroValue78
  t72 := Tryz.underlying80
  a72 := Tryz.isAgg80
  z72 := Tryz.sizeOf80
  v72 := Tryz.zeroValue80
  t75 := Tryz.underlying82
  a75 := Tryz.isAgg82
  z75 := Tryz.sizeOf82
  v75 := Tryz.zeroValue82
  t76 := Tryz.underlying84
  a76 := Tryz.isAgg84
  z76 := Tryz.sizeOf84
  v76 := Tryz.zeroValue84
  t109 := Tryz.underlying100
  a109 := Tryz.isAgg100
  z109 := Tryz.sizeOf100
  v109 := Tryz.zeroValue100
  t127 := Tryz.underlying105
  a127 := Tryz.isAgg105
  z127 := Tryz.sizeOf105
  v127 := Tryz.zeroValue105
  t146 := Tryz.underlying123
  a146 := Tryz.isAgg123
  z146 := Tryz.sizeOf123
  v146 := Tryz.zeroValue123
  t148 := Tryz.underlying125
  a148 := Tryz.isAgg125
  z148 := Tryz.sizeOf125
  v148 := Tryz.zeroValue125
  t164 := Tryz.underlying119
  a164 := Tryz.isAgg119
  z164 := Tryz.sizeOf119
  v164 := Tryz.zeroValue119 }
theorem Tryz.Builder_Extra_105 : Builder.Extra Tryz.prog Tryz.lays105_ren := {
  sizeBuilder := by kernel_rfl
  liesBuilder := by kernel_rfl
  t5 := Tryz.underlying5
  a5 := Tryz.isAgg5
  z5 := Tryz.sizeOf5
  v5 := Tryz.zeroValue5
  infoByte := by kernel_rfl
  cellsByte := by kernel_rfl
  sizeByte := by kernel_rfl
  neB5 := by decide }
end Go.Proofs

/- integer.Text: its text. -/
namespace Go.Proofs
open Go.Shelf Go.RowKit

theorem bldBelowF {T e : TypeId} {B b : Nat} {p : Value} {bs : List Value} {W W' : World} (h : Lib.BuilderAtF T e B b p bs W) (hb : Below W.heap.size W W') : Lib.BuilderAtF T e B b p bs W' := by
  have hlt := h.lt
  obtain ⟨hB, v, hv, hown, hne⟩ := h
  exact ⟨hB, v, (hb.block b hlt).trans hv, hown.kept (row := none) ⟨hb.os, hb.tape, hb.output, hb.size, fun k hk _ => hb.block k hk⟩ (Classical.em _), hne⟩
theorem bldBelow {T e : TypeId} {B b : Nat} {bs : List Value} {W W' : World} (h : Lib.IsBuilderF T e B b bs W) (hb : Below W.heap.size W W') : Lib.IsBuilderF T e B b bs W' :=
  h.elim (fun x => .inl (bldBelowF x hb)) (fun x => .inr (bldBelowF x hb))
theorem belowGrow (w : World) (k : Nat) (os : Array Obj) : Below w.heap.size w (Sort.grow (w.drewN k) os) := Lib.below_grow _ w (Nat.le_refl _) k os
theorem Tryz.lays166x : Lays.n166 Tryz.prog Tryz.lays105_ren := { Tryz.lays105 with }

theorem itoaC (n : Int) (h0 : -9223372036854775808 ≤ n) (h1 : n ≤ 9223372036854775807) (w : World) (htab : Lib.TabIs Tryz.prog w "internal/strconv.uint64pow10" .u64 Lib.pow10Tab) :
    Calls Tryz.prog 72 #[.int .i64 n] w fun e w' => e = .returned (.string ⟨(Lib.itoa n).toArray⟩) ∧ ∃ k os, w' = Sort.grow (w.drewN k) os := Any.strconv_Itoa Tryz.laysM171 n h0 h1 w htab
theorem repeatC (s : ByteArray) (c : Nat) (w : World) (hc : c ≤ 9223372036854775807) (hlen : s.size * c ≤ 140737488355328) :
    Calls Tryz.prog 73 #[.string s, .int .i64 c] w fun e w' => e = .returned (.string ⟨(Lib.repeatL s.data.toList c).toArray⟩) ∧ Below w.heap.size w w' := Any.strings_Repeat Tryz.lays105 Tryz.Builder_Extra_105 s c w hc hlen
theorem stringC (B b : Nat) (l : List UInt8) (w : World) (h : Lib.IsBuilderF 80 5 B b (Lib.byteCells l) w) (hBw : B ≤ w.heap.size) :
    Calls Tryz.prog 74 #[.pointer (some ⟨b, 0, none⟩)] w fun e w' => e = .returned (.string ⟨l.toArray⟩) ∧ (Lib.IsBuilderF 80 5 B b (Lib.byteCells l) w' ∧ Below B w w' ∧ Lib.OthersKept 5 (some b) w w') := Any.Builder_String_any_k Tryz.lays169 Tryz.Builder_Extra_169 B b l w h hBw
theorem writeStr (B b : Nat) (bs : List Value) (t : ByteArray) (w : World) (h : Lib.IsBuilderF 80 5 B b bs w) (hlen : bs.length + t.size ≤ 140737488355328) (hBw : B ≤ w.heap.size) :
    Calls Tryz.prog 71 #[.pointer (some ⟨b, 0, none⟩), .string t] w fun e w' => e = .returned (.tuple #[.int .i64 t.size, .nilIface]) ∧ (Lib.BuilderAtF 80 5 B b (.pointer (some ⟨b, 0, none⟩)) (bs ++ Lib.strCells t) w' ∧ Below B w w' ∧ Lib.OthersKept 5 (some b) w w') :=
  Any.Builder_WriteString_k Tryz.lays166x Tryz.Builder_Extra_105 B b bs t w h hlen hBw

/-- A digit's nine places. -/
def pad9 (d : Int) : List UInt8 := Lib.repeatL [48] (9 - (Lib.itoa d).length) ++ Lib.itoa d
/-- The digits below the j-th. -/
def restL (f : Nat → Int) : Nat → List UInt8
  | 0 => []
  | j + 1 => pad9 (f j) ++ restL f j
theorem nDig_le : ∀ (k u : Nat), u < 10 ^ (k + 1) → Lib.nDigits u ≤ k + 1
  | 0, u, h => by rw [Lib.nDigits_small (by simpa using h)]; exact Nat.le_refl _
  | k + 1, u, h => by
    by_cases h1 : u < 10
    · rw [Lib.nDigits_small h1]; omega
    · rw [Lib.nDigits_big h1]
      have := nDig_le k (u / 10) (by rw [Nat.pow_succ] at h; omega)
      omega
theorem itoa_len {d : Int} (h : 0 ≤ d ∧ d < 1000000000) : (Lib.itoa d).length ≤ 9 := by
  unfold Lib.itoa
  rw [if_neg (by omega), Lib.decDigits_length]
  exact nDig_le 8 _ (by have : (10 : Nat) ^ (8 + 1) = 1000000000 := by decide
                        omega)
theorem pad9_len {d : Int} (h : 0 ≤ d ∧ d < 1000000000) : (pad9 d).length = 9 := by
  have := itoa_len h
  unfold pad9
  rw [List.length_append, Lib.repeatL_length]
  simp; omega

theorem restL_len {f : Nat → Int} (hd : ∀ i, 0 ≤ f i ∧ f i < 1000000000) : ∀ j, (restL f j).length = 9 * j
  | 0 => rfl
  | j + 1 => by rw [restL, List.length_append, pad9_len (hd j), restL_len hd j]; omega
theorem bld_sz {T e : TypeId} {B b : Nat} {bs : List Value} {W : World} (h : Lib.IsBuilderF T e B b bs W) : b < W.heap.size := h.elim (fun x => x.lt) (fun x => x.lt)

set_option maxHeartbeats 4000000 in
set_option maxRecDepth 1000000 in
theorem text_walk (f : Nat → Int) (n : Nat) (T : List UInt8) (hT : Lib.itoa (f n) ++ restL f n = T) (hn : n ≤ 1000000000) (hd : ∀ i, 0 ≤ f i ∧ f i < 1000000000) (ad : Addr) (cap : Nat) (w : World) (hc : ∀ i, i ≤ n → w.cell? (ad.add i) = some (.int .i64 (f i))) (hbw : ad.block < w.heap.size)
    (htab : Lib.TabBelow Tryz.prog w.heap.size w "internal/strconv.uint64pow10" .u64 Lib.pow10Tab) :
    Calls Tryz.prog 42 #[.agg #[.bool false, .slice (some ad) ((n + 1 : Nat)) cap]] w fun e w' => e = .returned (.string ⟨T.toArray⟩) ∧ Below w.heap.size w w' := by
  have cellB : ∀ W, Below w.heap.size w W → ∀ i, i ≤ n → W.cell? (ad.add i) = some (.int .i64 (f i)) := fun W hb i hi => by
    rw [World.cell?_of_block (w := w) (by
      have e : (ad.add i).block = ad.block := by unfold Addr.add; split <;> rfl
      rw [e]; exact hb.block _ hbw)]
    exact hc i hi
  have A1 : ∀ o1 o2, Below w.heap.size w ((w.alloc o1).alloc o2) := fun o1 o2 => ((Below.refl _ w).alloc (Nat.le_refl _) _).alloc (by simp) _
  have c1 : ∀ o1 o2, ((w.alloc o1).alloc o2).cell? (ad.add n) = some (.int .i64 (f n)) := fun o1 o2 => cellB _ (A1 o1 o2) _ (Nat.le_refl _)
  have hfn := hd n
  go_enter Tryz.func42, Tryz.ntmps42
  go_wp2_with (go_at_call 72; refine (itoaC (f n) (by omega) (by omega) _ ((htab.on (A1 _ _)).here)).mono ?_)
  rintro e w1 ⟨rfl, k, os, hw1⟩
  have I1 : Lib.IsBuilderF 80 5 (w.heap.size + 1) (w.heap.size + 1) [] w1 := by
    rw [hw1]
    refine bldBelow ?_ (belowGrow _ _ _)
    have := Lib.IsBuilderF.of (Lib.fresh_isBuilder 80 5 (w.alloc (Obj.cells #[.bool false, .slice (some ad) (n + 1) cap] 24)))
    simpa using this
  have B1 : Below w.heap.size w w1 := (A1 _ _).trans (by rw [hw1]; exact (belowGrow _ k os).mono (by simp; omega))
  have D1 : w1.cell? ⟨w.heap.size, 1, none⟩ = some (.slice (some ad) (n + 1) cap) := by
    have hb : w1.heap[w.heap.size]? = some (Obj.cells #[.bool false, .slice (some ad) (n + 1) cap] 24) := by
      rw [hw1, Lib.heap_grow_old _ _ _ _ (by simp; omega), Lib.alloc_old (w.alloc _) _ _ (by simp)]
      exact Array.getElem?_push_size
    rw [Lib.cell_of_heap hb]; rfl
  have hlen0 := itoa_len hfn
  have hz1 := bld_sz I1
  have hs0 : (⟨(Lib.itoa (f n)).toArray⟩ : ByteArray).size = (Lib.itoa (f n)).length := by
    show (Lib.itoa (f n)).toArray.size = _
    simp
  have hs1 : ([] : List Value).length + (⟨(Lib.itoa (f n)).toArray⟩ : ByteArray).size ≤ 140737488355328 := by rw [hs0, List.length_nil]; omega
  clear hw1
  go_wp2_with (go_at_call 71; refine (writeStr (w.heap.size + 1) (w.heap.size + 1) [] ⟨(Lib.itoa (f n)).toArray⟩ w1 I1 hs1 (by omega)).mono ?_)
  rintro e w2 ⟨rfl, I2, b2, -⟩
  have D2 : w2.cell? ⟨w.heap.size, 1, none⟩ = some (.slice (some ad) (n + 1) cap) := by
    rw [World.cell?_of_block (w := w1) (b2.block _ (Nat.lt_succ_self _))]; exact D1
  have B2 : Below w.heap.size w w2 := B1.trans (b2.mono (Nat.le_succ _))
  have hTl : T.length ≤ 9 + 9 * n := by rw [← hT, List.length_append, restL_len hd]; omega
  go_wp2
  go_loopw [4] (fun i wr => ∃ (j : Nat) (acc : List UInt8), i = .int .i64 ((j : Int) - 1) ∧ j ≤ n ∧ Lib.IsBuilderF 80 5 (w.heap.size + 1) (w.heap.size + 1) (Lib.byteCells acc) wr ∧ Below (w.heap.size + 1) w2 wr ∧ acc ++ restL f j = T) (fun i _ => (intOf i + 1).toNat)
  case atStart =>
    refine ⟨n, Lib.itoa (f n), by congr 1; omega, Nat.le_refl _, Or.inr ?_, Below.refl _ _, hT⟩
    exact I2
  case round =>
    obtain ⟨j, acc, rfl, hj, hI, hb, hacc⟩ := hrel
    have hB3 : Below w.heap.size w wr := B2.trans (hb.mono (Nat.le_succ _))
    have hzr := bld_sz hI
    have hal : acc.length ≤ T.length := by rw [← hacc, List.length_append]; omega
    by_cases hj0 : j = 0
    · subst hj0
      rw [restL, List.append_nil] at hacc
      subst hacc
      have e0 : decide (((0 : Nat) : Int) - 1 ≥ 0) = false := rfl
      go_wp2_with (go_at_call 74; refine (stringC (w.heap.size + 1) (w.heap.size + 1) acc wr hI (by omega)).mono ?_)
      rintro e W1 ⟨rfl, _, b3, _⟩
      go_wp2
      go_ret
      exact ⟨rfl, hB3.trans (b3.mono (Nat.le_succ _))⟩
    · obtain ⟨i, rfl⟩ : ∃ i, j = i + 1 := ⟨j - 1, by omega⟩
      have e1 : ((i + 1 : Nat) : Int) - 1 = (i : Int) := by omega
      rw [e1]
      have hfi := hd i
      have hli := itoa_len hfi
      have Dr : wr.cell? ⟨w.heap.size, 1, none⟩ = some (.slice (some ad) (n + 1) cap) := by
        rw [World.cell?_of_block (w := w2) (hb.block _ (Nat.lt_succ_self _))]; exact D2
      have Cr := cellB wr hB3 i (by omega)
      have hi1 : i < n + 1 := by omega
      go_wp2_with (go_at_call 72; refine (itoaC (f i) (by omega) (by omega) wr ((htab.on hB3).here)).mono ?_)
      rintro e w3 ⟨rfl, k3, os3, hw3⟩
      have hb3 : Below wr.heap.size wr w3 := by rw [hw3]; exact belowGrow _ _ _
      clear hw3
      have I3 := bldBelow hI hb3
      have e9 : (9 : Int) - ((Lib.itoa (f i)).length : Int) = ((9 - (Lib.itoa (f i)).length : Nat) : Int) := by omega
      have hr1 : (⟨#[48]⟩ : ByteArray).size * (9 - (Lib.itoa (f i)).length) ≤ 140737488355328 := by
        show 1 * (9 - (Lib.itoa (f i)).length) ≤ _
        omega
      go_wp2_with (go_at_call 73; refine (repeatC ⟨#[48]⟩ (9 - (Lib.itoa (f i)).length) w3 (by omega) hr1).mono ?_)
      intro e w4 he b4
      subst he
      have I4 := bldBelow I3 b4
      have hz4 := bld_sz I4
      obtain ⟨sA, hA⟩ : ∃ sA : ByteArray, (⟨(Lib.repeatL [48] (9 - (Lib.itoa (f i)).length)).toArray⟩ : ByteArray) = sA := ⟨_, rfl⟩
      obtain ⟨sB, hB⟩ : ∃ sB : ByteArray, (⟨(Lib.itoa (f i)).toArray⟩ : ByteArray) = sB := ⟨_, rfl⟩
      have hA1 : sA.size = 9 - (Lib.itoa (f i)).length := by
        rw [← hA]
        show (Lib.repeatL [48] (9 - (Lib.itoa (f i)).length)).toArray.size = _
        rw [List.size_toArray, Lib.repeatL_length]; simp
      have hB1 : sB.size = (Lib.itoa (f i)).length := by
        rw [← hB]
        show (Lib.itoa (f i)).toArray.size = _
        simp
      have hS : (sA ++ sB).size = 9 := by rw [ByteArray.size_append, hA1, hB1]; omega
      have hcells : Lib.byteCells acc ++ Lib.strCells (sA ++ sB) = Lib.byteCells (acc ++ pad9 (f i)) := by
        rw [Lib.byteCells_append, Lib.strCells_eq, ← hA, ← hB, pad9]
        congr 2
      rw [hA, hB]
      have hw5 : (Lib.byteCells acc).length + (sA ++ sB).size ≤ 140737488355328 := by rw [Lib.byteCells_length, hS]; omega
      have W5 := writeStr (w.heap.size + 1) (w.heap.size + 1) (Lib.byteCells acc) (sA ++ sB) w4 I4 hw5 (by omega)
      rw [hcells] at W5
      clear hA hB hcells hw5
      go_wp2_with (go_at_call 71; refine W5.mono ?_)
      rintro e w5 ⟨rfl, I5, b5, -⟩
      go_wp2
      go_roundw
      case rel =>
        have h1 : w3.heap.size ≤ w4.heap.size := b4.size
        have h2 : wr.heap.size ≤ w3.heap.size := hb3.size
        exact ⟨i, acc ++ pad9 (f i), by go_num, by omega, Or.inr I5, hb.trans ((hb3.mono (by omega)).trans ((b4.mono (by omega)).trans b5)), by rw [List.append_assoc]; exact hacc⟩
      case measure => simp [intOf]
end Go.Proofs

/- The library's part of the texts: strings.Trim at digits, integer.Text of numbers that are not negative. -/
namespace Go.AM
open Go Go.Proofs Go.RowKit

def tenD : List UInt8 := [48, 49, 50, 51, 52, 53, 54, 55, 56, 57]
def decF : Nat → Nat → List UInt8
  | 0, _ => []
  | k + 1, u => if u < 10 then [UInt8.ofNat (48 + u)] else decF k (u / 10) ++ [UInt8.ofNat (48 + u % 10)]
theorem decF_eq : ∀ (k u : Nat), u < 10 ^ (k + 1) → Lib.decDigits u = decF (k + 1) u
  | 0, u, h => by
    have h1 : u < 10 := by simpa using h
    rw [Lib.decDigits, decF, dif_pos h1, if_pos h1]
  | k + 1, u, h => by
    rw [Lib.decDigits, decF]
    by_cases h1 : u < 10
    · rw [dif_pos h1, if_pos h1]
    · rw [dif_neg h1, if_neg h1, decF_eq k (u / 10) (by rw [Nat.pow_succ] at h; omega)]
def itoaF (d : Int) : List UInt8 := decF 9 d.toNat
def rep48 : Nat → List UInt8
  | 0 => []
  | n + 1 => 48 :: rep48 n
def restF (l : List Int) : Nat → List UInt8
  | 0 => []
  | j + 1 => rep48 (9 - (itoaF (l.getD j 0)).length) ++ itoaF (l.getD j 0) ++ restF l j
def intsD : List D → Option (List Int)
  | [] => some []
  | .v (.int .i64 d) :: r => (intsD r).map (d :: ·)
  | _ => none
def dig9 (l : List Int) : Bool := l.all fun d => decide (0 ≤ d) && decide (d < 1000000000)
def orc4 (f : Nat) (ds : List D) : Option R :=
  if f = 76 then match ds with
    | [.v (.string s), .v (.string c)] => if c.data.toList = tenD ∧ s.size ≤ 1000000 ∧ s.data.toList.all (tenD.contains ·) = true then some (.d (.v (.string ⟨#[]⟩))) else none
    | _ => none
  else if f = 42 then match ds with
    | [.agg [.v (.bool false), .row (n + 1) cs]] => (intsD cs).bind fun l => if l.length = n + 1 ∧ n ≤ 1000000 ∧ dig9 l = true then some (.d (.v (.string ⟨(itoaF (l.getD n 0) ++ restF l n).toArray⟩))) else none
    | _ => none
  else none

theorem rep48_eq : ∀ n, rep48 n = Lib.repeatL [48] n
  | 0 => rfl
  | n + 1 => by rw [rep48, Lib.repeatL, rep48_eq n]; rfl
theorem itoaF_eq {d : Int} (h : 0 ≤ d ∧ d < 1000000000) : Lib.itoa d = itoaF d := by
  unfold Lib.itoa itoaF
  rw [if_neg (by omega)]
  exact decF_eq 8 _ (by have : (10 : Nat) ^ (8 + 1) = 1000000000 := by decide
                        omega)
theorem dig9_at {l : List Int} (h : dig9 l = true) (i : Nat) : 0 ≤ l.getD i 0 ∧ l.getD i 0 < 1000000000 := by
  by_cases hi : i < l.length
  · have e : l.getD i 0 = l[i] := by rw [List.getD_eq_getElem?_getD, List.getElem?_eq_getElem hi]; rfl
    rw [e]
    have := List.all_eq_true.1 h _ (List.getElem_mem hi)
    simpa using this
  · have e : l.getD i 0 = 0 := by rw [List.getD_eq_getElem?_getD, List.getElem?_eq_none (by omega)]; rfl
    rw [e]; omega
theorem restF_eq {l : List Int} (h : dig9 l = true) : ∀ j, restL (fun i => l.getD i 0) j = restF l j
  | 0 => rfl
  | j + 1 => by
    rw [restL, restF, pad9, restF_eq h j, itoaF_eq (dig9_at h j), rep48_eq]
theorem intsD_rep {S : Nat → Prop} {w : World} : ∀ {cs : List D} {l : List Int} {vs : List Value}, intsD cs = some l → RepL S w cs vs → vs = l.map fun d => Value.int .i64 d
  | [], l, vs, h, hr => by
    cases hr
    simp only [intsD, Option.some.injEq] at h
    subst h; rfl
  | c :: cs, l, vs, h, hr => by
    cases hr with
    | cons _ _ v vs hv ht =>
      unfold intsD at h
      split at h
      · rename_i heq; cases heq
      · rename_i d r heq
        cases heq
        simp only [Option.map_eq_some_iff] at h
        obtain ⟨l', h1, rfl⟩ := h
        rw [intsD_rep h1 ht]
        cases hv; rfl
      · cases h
theorem trim_all {l cs : List UInt8} (h : l.all (cs.contains ·) = true) : Lib.trimS l cs = [] := by
  have h1 : ∀ m : List UInt8, m.all (cs.contains ·) = true → m.dropWhile (cs.contains ·) = [] := by
    intro m
    induction m with
    | nil => intro _; rfl
    | cons a m ih =>
      intro hm
      simp only [List.all_cons, Bool.and_eq_true] at hm
      rw [List.dropWhile_cons, if_pos hm.1, ih hm.2]
  unfold Lib.trimS Lib.trimLeftS Lib.trimRightS
  rw [h1 l.reverse (by rw [List.all_reverse]; exact h)]
  rfl
theorem tab_is {w : World} (h : TabOk w) : Lib.TabIs Tryz.prog w "internal/strconv.uint64pow10" .u64 Lib.pow10Tab := by
  obtain ⟨_, T, fz, hb⟩ := h _ (List.mem_cons_self ..)
  have hg : Tryz.prog.globalNamed "internal/strconv.uint64pow10" = some 2 := by kernel_rfl
  unfold Lib.TabIs World.var?
  rw [hg, Option.bind_some]
  simp only at hb
  rw [hb]
  rfl
theorem orc4_ok : ∀ f ds r, ft f = none → orc4 f ds = some r → CallOk Tryz.prog f ds r := by
  intro f ds r _ h
  unfold orc4 at h
  split at h
  · rename_i hf
    subst hf
    split at h
    · rename_i s c
      split at h
      · rename_i hc
        obtain ⟨h1, h2, h3⟩ := hc
        cases h
        refine ⟨⟨Tryz.f76, Tryz.func76, by kernel_rfl, by decide⟩, fun S w vs hT hrep hlt => ?_⟩
        cases hrep with
        | cons _ _ v1 vs1 r1 t1 =>
        cases t1 with
        | cons _ _ v2 vs2 r2 t2 =>
        cases t2; cases r1; cases r2
        have hcon := Any.strings_Trim_laid Tryz.lays160 (by kernel_rfl) s c w (by omega) (by
          have : c.size = c.data.toList.length := by show c.data.size = _; simp
          rw [this, h1]; decide) (by rw [h1]; exact ascii_of_all (by decide))
        rw [h1, trim_all h3] at hcon
        refine Calls.mono hcon ?_
        rintro e w' ⟨rfl, hb⟩
        exact ⟨_, rfl, hb, RepD.v _⟩
      · cases h
    · cases h
  · split at h
    · rename_i hf
      subst hf
      split at h
      · rename_i n cs
        simp only [Option.bind_eq_some_iff] at h
        obtain ⟨l, hl, h⟩ := h
        split at h
        · rename_i hc
          obtain ⟨h1, h2, h3⟩ := hc
          cases h
          refine ⟨⟨Tryz.f42, Tryz.func42, by kernel_rfl, by decide⟩, fun S w vs hT hrep hlt => ?_⟩
          cases hrep with
          | cons _ _ v1 vs1 r1 t1 =>
          cases t1
          cases r1 with
          | agg _ vs2 h4 =>
          cases h4 with
          | cons _ _ v3 vs3 r3 t3 =>
          cases t3 with
          | cons _ _ v4 vs4 r4 t4 =>
          cases t4; cases r3
          cases r4 with
          | row _ _ ad cap vs5 g1 g2 g3 g4 =>
            have hv := intsD_rep hl g3
            subst hv
            have hw := text_walk (fun i => l.getD i 0) n (itoaF (l.getD n 0) ++ restF l n) (by rw [itoaF_eq (dig9_at h3 n), restF_eq h3]) (by omega) (dig9_at h3) ad cap w (fun i hi => by
              refine g4 i _ ?_
              rw [List.getElem?_map, List.getD_eq_getElem?_getD, List.getElem?_eq_getElem (by omega)]; rfl) (hlt _ g2) (Lib.tabBelow_of_tabIs (tab_is hT))
            refine Calls.mono hw ?_
            rintro e w' ⟨rfl, hb⟩
            exact ⟨_, rfl, hb, RepD.v _⟩
        · cases h
      · cases h
    · cases h
instance its4 : Its := { it := fun _ _ => none, orc := orc4 }
theorem env4 : EnvOk Tryz.prog (@G its4) := @env_okO its4 (fun _ _ _ h => by cases h) orc4_ok
end Go.AM

/- law04.lives, by the kernel. -/
namespace Go.AM
open Go Go.RowKit Go.Proofs
theorem lives4 : callX (@G its4) n_gantrylaw04_lives [] = some (.d (bv true)) := callX_some.2 ⟨60, by kernel_rfl⟩
end Go.AM

namespace Go.Proofs.YtecihganhcapoaaGreatDoor.Pure
open Go Go.AM
theorem IntegerSums (e0 : D) (l0 : List Int) (hd0 : Dg e0 l0) (hwf0 : ∀ n ∈ l0, (Lit.int .i64 n).wf = true) (hlen0 : l0.length * 8 ≤ 140737488351232) (e1 : D) (l1 : List Int) (hd1 : Dg e1 l1) (hwf1 : ∀ n ∈ l1, (Lit.int .i64 n).wf = true) (hlen1 : l1.length * 8 ≤ 140737488351232) : callX G 4 [e0, e1] = some (.d (bv true)) := by
  obtain ⟨x, nx, gx⟩ := Number_spec (at_ := 0) (rw_dg hd0) (fun n hn => i64_wf (hwf0 n hn)) (by omega)
  obtain ⟨y, ny, gy⟩ := Number_spec (at_ := 0) (rw_dg hd1) (fun n hn => i64_wf (hwf1 n hn)) (by omega)
  have a1 := Add_spec (x := x) (y := y) (by omega) (by omega)
  have a2 := rAdd_spec (x := x) (y := y) (by omega) (by omega)
  have na := nd_add (x := x) (y := y) (k := 8) (by omega) (by omega)
  have a3 := sm4 (x := x + y) rfl (by omega)
  have b1 := Sub_spec (x := x) (y := y) (by omega) (by omega)
  have b2 := rSub4 (x := x) (y := y) (by omega) (by omega)
  have nb := nd_add (x := x) (y := -y) (k := 8) (by omega) (by rw [nd_neg]; omega)
  rw [show x + -y = x - y by omega] at nb
  have b3 := sm4 (x := x - y) rfl (by omega)
  have m1 := Mul_spec (x := x) (y := y) (by omega) (by omega)
  have m2 := rMul_spec (x := x) (y := y) (by omega) (by omega)
  have nm := nd_mul (x := x) (y := y)
  have m3 := sm4 (x := x * y) rfl (by omega)
  have n1 := Neg_spec x
  have n2 := rNeg_spec (x := x) (by omega)
  have n3 := sm4 (x := -x) rfl (by rw [nd_neg]; omega)
  have c1 := Compare_spec (x := x) (y := y) (by omega) (by omega)
  have c2 := rCompare_spec (x := x) (y := y) (by omega) (by omega)
  have c3 := Compare_spec (x := x) (y := x) (by omega) (by omega)
  have s1 := Sign_spec x
  have s2 := rSign_spec (x := x) (by omega)
  rw [Int.sub_self, Int.sign_zero] at c3
  have d1 := rEncode_spec (x := x) (by omega)
  have d2 := rEncode_spec (x := y) (by omega)
  have d3 := bSame_refl (RwU.row (enI x)) (RwU.row (enI x)) (enI_len (by omega))
  have d4 := bSame_refl (RwU.row (enI y)) (RwU.row (enI y)) (enI_len (by omega))
  have kl := lives4
  have q1 : ((0 : Int) == 0) = true := rfl
  have q2 : (Int.sign (x - y) == Int.sign (x - y)) = true := beq_self_eq_true _
  have q3 : (Int.sign x == Int.sign x) = true := beq_self_eq_true _
  generalize enI x = ex at *
  generalize enI y = ey at *
  generalize Int.sign (x - y) = sg at *
  generalize Int.sign x = sx at *
  generalize x + y = p at *
  generalize x - y = q at *
  generalize x * y = r at *
  generalize -x = t at *
  rw [callX_eq (cf := gantrylaw04_IntegerSums) rfl]
  simp only [iv, bv, rowU] at gx gy a3 b3 m3 n3 c1 c2 c3 s1 s2 d1 d2 d3 d4 kl
  simp -implicitDefEqProofs (maxSteps := 10000000) only [gantrylaw04_IntegerSums, bI, gx, gy, a1, a2, a3, b1, b2, b3, m1, m2, m3, n1, n2, n3, c1, c2, c3, s1, s2, d1, d2, d3, d4, kl, q1, q2, q3, go_sem, reduceCtorEq, ↓reduceIte, Nat.reduceEqDiff, iv, bv]
end Go.Proofs.YtecihganhcapoaaGreatDoor.Pure

/- The table that the rows list, as the machine asks for it. -/
namespace Go.AM
open Go Go.Proofs Go.RowKit

theorem laidVars_get {P : Program} {w : World} {n : String} {d : DataW Unit} : ∀ {l : List (String × DataW Unit)} {ps : List MemPlace}, DataW.LaidVars P w l ps → (n, d) ∈ l →
    ∃ g t cs fuel p, P.globalNamed n = some g ∧ (P.globals[g]?).map (·.type) = some t ∧ w.var? P n = some cs ∧ DataW.trod (fun _ => ()) P w 0 (fun _ => true) false fuel t cs.toList = some (d, p)
  | [], _, _, h => by cases h
  | (m, e) :: r, ps, hL, h => by
    obtain ⟨g, t, cs, fuel, p, q, h1, h2, h3, h4, h5, _⟩ := hL
    rcases List.mem_cons.1 h with h' | h'
    · cases h'
      exact ⟨g, t, cs, fuel, p, h1, h2, h3, h4⟩
    · exact laidVars_get h5 h'
def chkT (P : Program) (g : Nat) : Bool :=
  match (P.globals[g]?).map (·.type) with
  | some t => (match P.underlying t with
    | some (.array 20 e) => (match P.underlying e with
      | some (.int .u64) => P.cellsOf e == 1 && P.cellsOf t == 20
      | _ => false)
    | _ => false)
  | none => false
theorem chkT_ok {P : Program} {g : Nat} (h : chkT P g = true) : ∃ t', (P.globals[g]?).map (·.type) = some t' ∧ ∃ e, P.underlying t' = some (.array 20 e) ∧ P.underlying e = some (.int .u64) ∧ P.cellsOf e = 1 ∧ P.cellsOf t' = 20 := by
  unfold chkT at h
  split at h
  · rename_i t ht
    split at h
    · rename_i e he
      split at h
      · rename_i hk
        simp only [Bool.and_eq_true, beq_iff_eq] at h
        exact ⟨t, ht, e, he, hk, h.1, h.2⟩
      · cases h
    · cases h
  · cases h
def tabDat : DataW Unit := Lib.tabData .u64 Lib.pow10Tab
theorem tabOk_laid {l : List (String × DataW Unit)} {w : World} (hL : laidMet Tryz.prog l w) (hm : ("internal/strconv.uint64pow10", tabDat) ∈ l) : TabOk w := by
  obtain ⟨ps, h, _⟩ := hL
  obtain ⟨g, t, cs, fuel, p, h1, h2, h3, h4⟩ := laidVars_get h hm
  have hg : Tryz.prog.globalNamed "internal/strconv.uint64pow10" = some 2 := by kernel_rfl
  obtain rfl : g = 2 := Option.some.inj (h1.symm.trans hg)
  have ht := chkT_ok (P := Tryz.prog) (g := 2) (by kernel_rfl)
  obtain ⟨t', ht, e, k1, k2, k3, k4⟩ := ht
  obtain rfl := Option.some.inj (ht.symm.trans h2)
  have hc := Lib.cells_of_tab k1 k2 k3 k4 h4
  unfold World.var? at h3
  rw [h1, Option.bind_some] at h3
  intro x hx
  have hx' : x = (2, (Lib.pow10Tab.map fun z => Value.int .u64 z).toArray) := by
    have : tabs = [(2, (Lib.pow10Tab.map fun z => Value.int .u64 z).toArray)] := by kernel_rfl
    rw [this] at hx
    exact List.mem_singleton.1 hx
  subst hx'
  cases ho : w.heap[2]? with
  | none => rw [ho] at h3; cases h3
  | some o =>
    rw [ho] at h3
    cases o with
    | cells cs' T fz =>
      simp only [Option.some.injEq] at h3
      subst h3
      refine ⟨(Array.getElem?_eq_some_iff.1 ho).1, T, fz, ?_⟩
      show some (Go.Obj.cells cs' T fz) = some (Go.Obj.cells (Lib.pow10Tab.map fun z => Value.int .u64 z).toArray T fz)
      rw [← hc]
    | _ => cases h3
end Go.AM

/- The row of IntegerSums, out of its Pure. Printed by row.py. -/
namespace Go.Proofs.YtecihganhcapoaaGreatDoor.integerSums
open Go.ChangeShapes Go.WideShapes Go.ChangeAt Go.RowKit Go.AM
theorem own : ownKnob Tryz.prog.godebug = none := by kernel_rfl
theorem laidOut : laidOutB Tryz.prog = true := by kernel_rfl
set_option maxRecDepth 100000 in
theorem lifted (os : Os) (started : os.Started) (H : Type) (enc : TypeId × Value → H) :
    ReturnsInHanded {} Tryz.checked os 4 .any (fun w args => (Rows.integerSumsSpec.pre enc Tryz.prog Tryz.f4 Rows.integerSumsRow.domain false w args ∧ laidMetH Tryz.prog Rows.integerSumsRow.laid w) ∧ sizedMet enc Tryz.prog Tryz.f4 (OpenSpec.ofChange Rows.integerSumsSpec) false w args)
      (Rows.integerSumsSpec.post enc Tryz.prog Tryz.f4 false true false false) := by
  refine returnsInHanded_of_change_and (C := Tryz.checked) (X := fun w _ => laidMetH Tryz.prog Rows.integerSumsRow.laid w) (fun _ _ _ hh h => h.of_heap hh) own started (by kernel_rfl) Tryz.func4
    (ChangeSpec.witness_shaped (enc := enc) (C := Tryz.checked) (os := os) (X := fun w _ => laidMetH Tryz.prog Rows.integerSumsRow.laid w) false (World.laidAll Tryz.prog os Rows.integerSumsRow.laid) #[.slice none 0 0, .slice none 0 0] 8 (World.laidAll_os _ _ _)
      (World.shaped_of_ZipB (by kernel_rfl) (by kernel_rfl)) (by kernel_rfl) (by kernel_rfl) (by kernel_rfl)
      (by rw [MakeChecks.laidMetH_plain _ _ _ (by kernel_rfl)]; exact laidMet_laidAll _ (by kernel_rfl) (by kernel_rfl))) ?_
  intro W base args ds gs before hval0 hW hcnd hsz0 hL _
  have hsz : (DataW.weightsEach Tryz.prog (Tryz.f4.params.toList ++ Rows.integerSumsSpec.plain.varTypes Tryz.prog) (ds ++ gs)).all (· ≤ reachBytes) = true := hsz0
  have hval : ∀ (j : Nat) t v, Tryz.f4.params[j]? = some t → args[j]? = some v → Value.okWide Tryz.prog W .any base t v := hval0
  have hW' := hW
  obtain ⟨p, q, hA0, hV, rfl, hfz, hnd⟩ := hW
  have hA : DataW.TrodAll enc Tryz.prog W 0 (fun _ => true) true Tryz.f4.params.toList args.toList ds p := hA0
  rw [Tryz.params4] at hA hval hsz
  obtain ⟨v0, vs0, d0, ds0, p0, q0, hargs, rfl, rfl, h0, r0⟩ := trodAll_cons hA
  obtain ⟨v1, vs1, d1, ds1, p1, q1, rfl, rfl, rfl, h1, r1⟩ := trodAll_cons r0
  obtain ⟨rfl, rfl, rfl⟩ := trodAll_nil r1
  obtain rfl : args = #[v0, v1] := by cases args; simp_all
  obtain ⟨rfl, rfl⟩ := trodVars_none hV
  obtain ⟨a0, len0, cap0, rfl⟩ := okWide_slice Tryz.underlying22 (hval 0 22 v0 rfl rfl)
  have k0 := h0
  have lt0 : ∀ x ∈ p0, x.block < W.heap.size := by obtain ⟨m, hm⟩ := k0; exact DataW.trod_lt m _ _ _ hm
  obtain ⟨z0, w0, y0⟩ : ∃ zs, ((a0 = none ∧ len0 = 0 ∧ cap0 = 0 ∧ zs = []) ∨ ∃ x, a0 = some x ∧ len0 ≤ cap0 ∧ cap0 ≤ maxLen ∧ zs.length = cap0 ∧ (∀ i, i < zs.length → W.cell? (x.add i) = some (.int .i64 (zs.getD i 0))) ∧ ∀ n ∈ zs, (Lit.int .i64 n).wf = true) ∧ len0 * 8 ≤ 140737488351232 := by
    obtain ⟨fuel, hf⟩ := h0
    rcases open_ints Tryz.underlying22 Tryz.underlying3 (by kernel_rfl) hf with ⟨hcs, _⟩ | ⟨x, l, c, zs, hcs, _, hl, hm, hz, hx, hcell, hwz⟩
    · simp [Value.cells] at hcs
      obtain ⟨rfl, rfl, rfl⟩ := hcs
      exact ⟨[], .inl ⟨rfl, rfl, rfl, rfl⟩, by simp⟩
    · simp [Value.cells] at hcs
      obtain ⟨rfl, rfl, rfl⟩ := hcs
      refine ⟨zs, .inr ⟨_, rfl, hl, hm, by simpa using hz, hcell, hwz⟩, ?_⟩
      simp only [Prod.mk.injEq] at hx
      have hd := hx.1
      have z := sized_slice hsz (j := 0) (t := 22) rfl (by rw [hd]; rfl) Tryz.underlying22
      have hb : Tryz.prog.bytesOf 3 = 8 := by kernel_rfl
      rw [hb] at z
      have hr : reachBytes ≤ 140737488351232 := by decide
      have hz' : zs.length = cap0 := by simpa using hz
      simp only [lits, List.length_map, List.length_take, List.length_drop] at z
      omega
  obtain ⟨e0, l0, hd0, hrep0, hlen0, hwf0⟩ := arg_row w0
  obtain ⟨a1, len1, cap1, rfl⟩ := okWide_slice Tryz.underlying22 (hval 1 22 v1 rfl rfl)
  have k1 := h1
  have lt1 : ∀ x ∈ p1, x.block < W.heap.size := by obtain ⟨m, hm⟩ := k1; exact DataW.trod_lt m _ _ _ hm
  obtain ⟨z1, w1, y1⟩ : ∃ zs, ((a1 = none ∧ len1 = 0 ∧ cap1 = 0 ∧ zs = []) ∨ ∃ x, a1 = some x ∧ len1 ≤ cap1 ∧ cap1 ≤ maxLen ∧ zs.length = cap1 ∧ (∀ i, i < zs.length → W.cell? (x.add i) = some (.int .i64 (zs.getD i 0))) ∧ ∀ n ∈ zs, (Lit.int .i64 n).wf = true) ∧ len1 * 8 ≤ 140737488351232 := by
    obtain ⟨fuel, hf⟩ := h1
    rcases open_ints Tryz.underlying22 Tryz.underlying3 (by kernel_rfl) hf with ⟨hcs, _⟩ | ⟨x, l, c, zs, hcs, _, hl, hm, hz, hx, hcell, hwz⟩
    · simp [Value.cells] at hcs
      obtain ⟨rfl, rfl, rfl⟩ := hcs
      exact ⟨[], .inl ⟨rfl, rfl, rfl, rfl⟩, by simp⟩
    · simp [Value.cells] at hcs
      obtain ⟨rfl, rfl, rfl⟩ := hcs
      refine ⟨zs, .inr ⟨_, rfl, hl, hm, by simpa using hz, hcell, hwz⟩, ?_⟩
      simp only [Prod.mk.injEq] at hx
      have hd := hx.1
      have z := sized_slice hsz (j := 1) (t := 22) rfl (by rw [hd]; rfl) Tryz.underlying22
      have hb : Tryz.prog.bytesOf 3 = 8 := by kernel_rfl
      rw [hb] at z
      have hr : reachBytes ≤ 140737488351232 := by decide
      have hz' : zs.length = cap1 := by simpa using hz
      simp only [lits, List.length_map, List.length_take, List.length_drop] at z
      omega
  obtain ⟨e1, l1, hd1, hrep1, hlen1, hwf1⟩ := arg_row w1
  clear hA0 hval0 hsz0 hsz
  refine (law_walk env4 (f := 4) (ds := [e0, e1]) (vs := [.slice a0 len0 cap0, .slice a1 len1 cap1]) (w := W) (tabOk_laid (by rw [← MakeChecks.laidMetH_plain _ _ _ (by kernel_rfl)]; exact hL) (List.mem_of_getElem? (i := 2) (by kernel_rfl))) (RepL.cons _ _ _ _ hrep0 (RepL.cons _ _ _ _ hrep1 RepL.nil)) (Pure.IntegerSums e0 l0 hd0 hwf0 (by rw [hlen0]; exact y0) e1 l1 hd1 hwf1 (by rw [hlen1]; exact y1))).mono fun e W' ⟨he, bel⟩ => ?_
  subst he
  exact ⟨_, rfl, _, _, _, [], _, [], hW', trodAll_mk1 (shut_bool Tryz.underlying4 _), (trodAll_cons_mk (Below.trod laidOut (by kernel_rfl) (of_decide_eq_true (by kernel_rfl)) k0 bel lt0) (trodAll_cons_mk (Below.trod laidOut (by kernel_rfl) (of_decide_eq_true (by kernel_rfl)) k1 bel lt1) trodAll_mk0)), rfl, bel.frame _, fun h => by cases h⟩
theorem over : Rows.integerSumsRow.holds Tryz.pinned (OpenSpec.ofChange Rows.integerSumsSpec) :=
  OpenClaim.holds_of_wide 4 Tryz.f4 rfl rfl rfl rfl rfl rfl rfl ⟨rfl, rfl, rfl, rfl, rfl⟩ rfl rfl rfl rfl rfl (by kernel_rfl) Tryz.func4 (by kernel_rfl)
    (of_decide_eq_true (by kernel_rfl)) (by unfold Func.isWrapper; first | (rw [if_pos (by decide +kernel)]; kernel_rfl) | (rw [if_neg (by decide +kernel)]; exact ⟨rfl, rfl⟩))
    (fun os started H enc _ => lifted os started H enc)
theorem card : Rows.IntegerSumsCardSaid :=
  Claim7.holds_tied_plain_at .later [] [.data, .data, .data, .data, .sentinel, .sentinel, .pinned] true (true, "8f30b765037cb7f36d521e85c7b3d15f44d2f8c8747fa73e3d59755b044424b0") true over (fun _ h => by cases h) (by kernel_rfl) (fun _ h => by cases h) integerSums_row_tie rfl ⟨rfl, rfl⟩ (by kernel_rfl) rfl
    (fun f fn hf hfn => by
      obtain rfl : f = 4 := Option.some.inj ((show Tryz.prog.funcNamed "gantry/gantrylaw04.IntegerSums" = some 4 by kernel_rfl).symm.trans hf) |>.symm
      obtain rfl : fn = Tryz.f4 := (Option.some.inj (Tryz.func4.symm.trans hfn)).symm
      exact ⟨by kernel_rfl, fun j t ht => by
        rw [Tryz.params4] at ht
        have hm : t ∈ [22, 22] := by simpa using Array.mem_of_getElem? ht
        have hall : ([22, 22].all fun u => !Tryz.prog.wantsStandIn u) = true := by kernel_rfl
        exact (show Tryz.prog.wantsStandIn t = false by simpa using List.all_eq_true.1 hall t hm)⟩)
    (by kernel_rfl)
end Go.Proofs.YtecihganhcapoaaGreatDoor.integerSums
namespace Go.Proofs.YtecihganhcapoaaGreatDoor
theorem integerSums_holds : Rows.IntegerSumsCardSaid := integerSums.card
end Go.Proofs.YtecihganhcapoaaGreatDoor


