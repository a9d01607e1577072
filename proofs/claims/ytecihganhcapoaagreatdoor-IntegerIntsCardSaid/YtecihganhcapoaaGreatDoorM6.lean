/- Part 6 of the proof: a small machine, its soundness against the model, and what the program's functions compute on it. -/
import Derived.Test.YtecihganhcapoaaGreatDoorM5
set_option linter.unusedVariables false
set_option linter.unusedSimpArgs false
/- Numbers in digits: plain mathematics, no program in sight. -/
namespace Go.AM


def digs : Nat → List Int
  | 0 => []
  | n + 1 => (((n + 1) % 1000000000 : Nat) : Int) :: digs ((n + 1) / 1000000000)
  decreasing_by omega
def val : List Int → Int
  | [] => 0
  | d :: r => d + 1000000000 * val r
def Dig (l : List Int) : Prop := ∀ d ∈ l, 0 ≤ d ∧ d < 1000000000

theorem digs_zero : digs 0 = [] := by rw [digs]
theorem digs_pos {n : Nat} (h : 0 < n) : digs n = ((n % 1000000000 : Nat) : Int) :: digs (n / 1000000000) := by
  cases n with
  | zero => omega
  | succ n => rw [digs]
theorem Dig.nil : Dig [] := by intro d h; cases h
theorem Dig.cons {d : Int} {l : List Int} : Dig (d :: l) ↔ (0 ≤ d ∧ d < 1000000000) ∧ Dig l := by
  constructor
  · intro h; exact ⟨h d (by simp), fun e he => h e (by simp [he])⟩
  · rintro ⟨h1, h2⟩ e he
    rcases List.mem_cons.1 he with rfl | he
    · exact h1
    · exact h2 e he
theorem Dig.append {l m : List Int} : Dig (l ++ m) ↔ Dig l ∧ Dig m := by
  constructor
  · intro h; exact ⟨fun e he => h e (by simp [he]), fun e he => h e (by simp [he])⟩
  · rintro ⟨h1, h2⟩ e he
    rcases List.mem_append.1 he with he | he
    · exact h1 e he
    · exact h2 e he
theorem Dig.take {l : List Int} (h : Dig l) (n : Nat) : Dig (l.take n) := fun e he => h e (List.mem_of_mem_take he)
theorem Dig.drop {l : List Int} (h : Dig l) (n : Nat) : Dig (l.drop n) := fun e he => h e (List.mem_of_mem_drop he)
theorem Dig.getD {l : List Int} (h : Dig l) (i : Nat) : 0 ≤ l.getD i 0 ∧ l.getD i 0 < 1000000000 := by
  rw [List.getD_eq_getElem?_getD]
  cases hq : l[i]? with
  | none => simp
  | some x => exact h x (List.mem_of_getElem? hq)
theorem Dig.set {l : List Int} (h : Dig l) {i : Nat} {d : Int} (hd : 0 ≤ d ∧ d < 1000000000) : Dig (l.set i d) := by
  intro e he
  rcases List.mem_or_eq_of_mem_set he with he | rfl
  · exact h e he
  · exact hd
theorem Dig.replicate (n : Nat) : Dig (List.replicate n 0) := by
  intro e he
  rw [(List.mem_replicate.1 he).2]; omega

theorem digs_dig : ∀ n : Nat, Dig (digs n) := by
  intro n
  induction n using Nat.strongRecOn with
  | _ n ih =>
    rcases Nat.eq_zero_or_pos n with rfl | h
    · rw [digs_zero]; exact .nil
    · rw [digs_pos h, Dig.cons]
      exact ⟨by omega, ih _ (by omega)⟩
theorem val_digs : ∀ n : Nat, val (digs n) = n := by
  intro n
  induction n using Nat.strongRecOn with
  | _ n ih =>
    rcases Nat.eq_zero_or_pos n with rfl | h
    · rw [digs_zero]; rfl
    · rw [digs_pos h, val, ih _ (by omega)]
      omega
theorem val_nonneg : ∀ {l : List Int}, Dig l → 0 ≤ val l
  | [], _ => Int.le_refl _
  | d :: r, h => by
    obtain ⟨h1, h2⟩ := Dig.cons.1 h
    have := val_nonneg h2
    simp only [val]
    omega
theorem digs_ne {n : Nat} : digs n = [] ↔ n = 0 := by
  constructor
  · intro h
    rcases Nat.eq_zero_or_pos n with h' | h'
    · exact h'
    · rw [digs_pos h'] at h; cases h
  · rintro rfl; exact digs_zero
/-- Without zeros at the end. -/
def Top (l : List Int) : Prop := ∀ h : l ≠ [], l.getLast h ≠ 0
theorem digs_top : ∀ n : Nat, Top (digs n) := by
  intro n
  induction n using Nat.strongRecOn with
  | _ n ih =>
    intro h
    rcases Nat.eq_zero_or_pos n with rfl | hp
    · exact absurd digs_zero h
    · have e := digs_pos hp
      by_cases h0 : n / 1000000000 = 0
      · have : digs n = [((n % 1000000000 : Nat) : Int)] := by rw [e, h0, digs_zero]
        simp only [this, List.getLast_singleton]
        omega
      · have hne : digs (n / 1000000000) ≠ [] := by rw [ne_eq, digs_ne]; exact h0
        have : (digs n).getLast h = (digs (n / 1000000000)).getLast hne := by
          simp only [e]
          exact List.getLast_cons hne
        rw [this]
        exact ih _ (by omega) hne
/-- Digits without zeros at the end are those of their value. -/
theorem digs_val : ∀ {l : List Int}, Dig l → Top l → digs (val l).toNat = l
  | [], _, _ => digs_zero
  | d :: r, h, ht => by
    obtain ⟨h1, h2⟩ := Dig.cons.1 h
    have hv := val_nonneg h2
    have htr : Top r := by
      intro hne
      have := ht (by simp)
      rw [List.getLast_cons hne] at this
      exact this
    have ih := digs_val h2 htr
    have hpos : 0 < (val (d :: r)).toNat := by
      simp only [val]
      by_cases hr : r = []
      · subst hr
        have := ht (by simp)
        simp at this
        simp only [val]
        omega
      · have : val r ≠ 0 := by
          intro h0
          rw [h0] at ih
          exact hr (ih.symm.trans digs_zero)
        omega
    rw [digs_pos hpos]
    have e1 : ((val (d :: r)).toNat % 1000000000 : Nat) = d.toNat := by simp only [val]; omega
    have e2 : (val (d :: r)).toNat / 1000000000 = (val r).toNat := by simp only [val]; omega
    rw [e1, e2, ih]
    congr 1
    omega
theorem val_append : ∀ (l m : List Int), val (l ++ m) = val l + (1000000000 : Int) ^ l.length * val m
  | [], m => by simp [val]
  | d :: r, m => by
    rw [List.cons_append, val, val_append r m, val, List.length_cons]
    grind
theorem val_replicate : ∀ n : Nat, val (List.replicate n 0) = 0
  | 0 => rfl
  | n + 1 => by rw [List.replicate_succ, val, val_replicate n]; rfl
theorem val_lt : ∀ {l : List Int}, Dig l → val l < (1000000000 : Int) ^ l.length
  | [], _ => by simp [val]
  | d :: r, h => by
    obtain ⟨h1, h2⟩ := Dig.cons.1 h
    have := val_lt h2
    rw [val, List.length_cons, Int.pow_succ]
    grind
theorem val_set : ∀ (l : List Int) (i : Nat) (d : Int), i < l.length → val (l.set i d) = val l + (1000000000 : Int) ^ i * (d - l.getD i 0)
  | [], i, d, h => by simp at h
  | e :: r, 0, d, h => by simp [val]; omega
  | e :: r, i + 1, d, h => by
    rw [List.set_cons_succ, val, val, val_set r i d (by simpa using h)]
    simp only [List.getD_cons_succ]
    grind
theorem pow_mono {n m : Nat} (h : n ≤ m) : (1000000000 : Int) ^ n ≤ (1000000000 : Int) ^ m := by
  obtain ⟨k, rfl⟩ := Nat.exists_eq_add_of_le h
  rw [Int.pow_add]
  have h1 : (0 : Int) < (1000000000 : Int) ^ k := Int.pow_pos (by omega)
  have h2 : (0 : Int) ≤ (1000000000 : Int) ^ n := Int.pow_nonneg (by omega)
  have h3 : (1000000000 : Int) ^ n * 1 ≤ (1000000000 : Int) ^ n * (1000000000 : Int) ^ k := Int.mul_le_mul_of_nonneg_left (by omega) h2
  omega
end Go.AM

/- Integers as the program holds them. -/
namespace Go.AM
open Go Go.RowKit

def sgn (neg : Bool) (x : Int) : Int := if neg then -x else x
def encI (x : Int) : D := .agg [bv (decide (x < 0)), dg (digs x.natAbs)]
/-- A row of these numbers. -/
def rowI (l : List Int) : D := .row l.length (l.map iv)
def I64 (n : Int) : Prop := -9223372036854775808 ≤ n ∧ n < 9223372036854775808

theorem ixa_rowI (h : Hp) (l : List Int) {j : Int} (h0 : 0 ≤ j) (h1 : j < l.length) : ixaA h 1 j (.d (rowI l)) = some (.d (.rp ((l.drop j.toNat).map iv))) := by
  simp only [ixaA, guardO, rowI]
  rw [if_pos ⟨h0, h1⟩, Nat.mul_one, List.map_drop]
/-- Reads these numbers, nil or not. -/
def Rw (d : D) (l : List Int) : Prop := d = dg l ∨ d = rowI l
theorem Rw.dg (l : List Int) : Rw (dg l) l := .inl rfl
theorem Rw.row (l : List Int) : Rw (rowI l) l := .inr rfl
theorem Rw.len {d : D} {l : List Int} (h : Rw d l) : lenA (.d d) = some l.length := by
  rcases h with rfl | rfl
  · exact lenA_dg l
  · rfl
theorem Rw.ixa {d : D} {l : List Int} (hr : Rw d l) {j : Int} (h0 : 0 ≤ j) (h1 : j < l.length) (h : Hp) : ixaA h 1 j (.d d) = some (.d (.rp ((l.drop j.toNat).map iv))) := by
  rcases hr with rfl | rfl
  · exact ixa_dg h l h0 h1
  · exact ixa_rowI h l h0 h1
theorem Rw.ixn {d : D} {l : List Int} (hr : Rw d l) {j : Nat} (h1 : j < l.length) (h : Hp) : ixaA h 1 (j : Int) (.d d) = some (.d (.rp ((l.drop j).map iv))) := by
  have := hr.ixa (j := (j : Int)) (by omega) (by omega) h
  simpa using this
theorem Rw.src {d : D} {l : List Int} (hr : Rw d l) (st : St) : src st (.d d) = some (l.length, l.map iv) := by
  rcases hr with rfl | rfl
  · exact src_dg st l
  · rfl
theorem Rw.ne {d : D} {l : List Int} (hr : Rw d l) (h : l ≠ []) : d = rowI l := by
  rcases hr with rfl | rfl
  · exact dg_ne h
  · rfl
theorem ldv (h : Hp) (l : List Int) {j : Nat} (h1 : j < l.length) : loadA h none (.d (.rp ((l.drop j).map iv))) = some (.d (.v (.int .i64 (l.getD j 0)))) := load_rp_ints h l h1

/-- The length without zeros at the end of the first n. -/
def cutn (l : List Int) : Nat → Nat
  | 0 => 0
  | n + 1 => if l.getD n 0 = 0 then cutn l n else n + 1
theorem cutn_le (l : List Int) : ∀ n, cutn l n ≤ n
  | 0 => Nat.le_refl _
  | n + 1 => by
    rw [cutn]
    split
    · exact Nat.le_succ_of_le (cutn_le l n)
    · exact Nat.le_refl _
theorem val_take_succ (l : List Int) (n : Nat) (h : n < l.length) : val (l.take (n + 1)) = val (l.take n) + (1000000000 : Int) ^ n * l.getD n 0 := by
  have : l.take (n + 1) = l.take n ++ [l.getD n 0] := by
    rw [List.take_add_one]
    simp [List.getD, h]
  rw [this, val_append, List.length_take, Nat.min_eq_left (Nat.le_of_lt h)]
  simp [val]
theorem val_cutn (l : List Int) : ∀ n, n ≤ l.length → val (l.take (cutn l n)) = val (l.take n)
  | 0, _ => rfl
  | n + 1, h => by
    rw [cutn]
    split
    · rename_i h0
      rw [val_cutn l n (by omega), val_take_succ l n (by omega), h0]; omega
    · rfl
theorem top_cutn (l : List Int) : ∀ n, n ≤ l.length → Top (l.take (cutn l n))
  | 0, _ => by intro h; simp [cutn] at h
  | n + 1, h => by
    rw [cutn]
    split
    · exact top_cutn l n (by omega)
    · rename_i h0
      intro hne
      have : l.take (n + 1) = l.take n ++ [l.getD n 0] := by
        rw [List.take_add_one]
        simp [List.getD, (by omega : n < l.length)]
      simp only [this]
      rw [List.getLast_append_of_ne_nil _ (by simp)]
      simpa using h0
theorem digs_cutn {l : List Int} (hd : Dig l) : digs (val l).toNat = l.take (cutn l l.length) := by
  have h1 := val_cutn l l.length (Nat.le_refl _)
  rw [List.take_length] at h1
  rw [← h1]
  exact digs_val (hd.take _) (top_cutn l _ (Nat.le_refl _))
theorem cutn_zero {l : List Int} (hd : Dig l) : cutn l l.length = 0 ↔ val l = 0 := by
  have hc := cutn_le l l.length
  have h1 := digs_cutn hd
  have hv := val_nonneg hd
  constructor
  · intro h
    rw [h, List.take_zero, digs_ne] at h1
    omega
  · intro h
    rw [h] at h1
    have h2 : l.take (cutn l l.length) = [] := by rw [← h1]; exact digs_zero
    have := congrArg List.length h2
    simp at this
    rcases this with h' | h'
    · exact h'
    · subst h'; simp at hc; exact hc
theorem natAbs_sgn (neg : Bool) (x : Int) : (sgn neg x).natAbs = x.natAbs := by cases neg <;> simp [sgn]
theorem encI_sgn {neg : Bool} {l : List Int} (hd : Dig l) : encI (sgn neg (val l)) = if cutn l l.length = 0 then .agg [bv false, .z true] else .agg [bv neg, .row (cutn l l.length) ((l.map iv).take (cutn l l.length))] := by
  have hv := val_nonneg hd
  have hc := cutn_le l l.length
  by_cases h0 : cutn l l.length = 0
  · rw [if_pos h0, (cutn_zero hd).1 h0]
    have e : encI 0 = .agg [bv false, .z true] := by
      have : digs (0 : Int).natAbs = [] := digs_zero
      rw [encI, this]; rfl
    cases neg <;> exact e
  · rw [if_neg h0]
    have hne : val l ≠ 0 := fun h => h0 ((cutn_zero hd).2 h)
    have e1 : decide (sgn neg (val l) < 0) = neg := by
      cases neg
      · simp only [sgn, Bool.false_eq_true, if_false, decide_eq_false_iff_not]; omega
      · simp only [sgn, if_true, decide_eq_true_eq]; omega
    have e2 : (sgn neg (val l)).natAbs = (val l).toNat := by rw [natAbs_sgn]; omega
    have hne2 : l.take (cutn l l.length) ≠ [] := by
      intro h
      have := congrArg List.length h
      simp at this
      rcases this with h' | h'
      · exact h0 h'
      · subst h'; exact h0 rfl
    rw [encI, e1, e2, digs_cutn hd, dg_ne hne2, List.map_take]
    congr 3
    simp; omega

theorem getD_set_ne {l : List Int} {i j : Nat} (d : Int) (h : i ≠ j) : (l.set i d).getD j 0 = l.getD j 0 := by
  simp [List.getD, List.getElem?_set, h]
theorem val_take_getD (l : List Int) (n : Nat) : val (l.take (n + 1)) = val (l.take n) + (1000000000 : Int) ^ n * l.getD n 0 := by
  by_cases h : n < l.length
  · exact val_take_succ l n h
  · have e1 : l.take (n + 1) = l := List.take_of_length_le (by omega)
    have e2 : l.take n = l := List.take_of_length_le (by omega)
    have e3 : l.getD n 0 = 0 := by rw [List.getD_eq_getElem?_getD, List.getElem?_eq_none (by omega)]; rfl
    rw [e1, e2, e3]; omega

/-! ### Arrays of numbers that are written -/
def cellsI (l : List Int) : List A := l.map fun x => A.d (.v (.int .i64 x))
theorem cellsI_length (l : List Int) : (cellsI l).length = l.length := by simp [cellsI]
theorem stcells_I {l : List Int} {off : Nat} {v : Int} (h : off < l.length) : stcells off [A.d (.v (.int .i64 v))] (cellsI l) = some (cellsI (l.set off v)) := by
  rw [stcells, guardO, if_pos (by rw [cellsI_length]; simp; omega)]
  congr 1
  apply List.ext_getElem?
  intro j
  rw [seg_get _ _ _ (by rw [cellsI_length]; simp; omega)]
  simp only [List.length_cons, List.length_nil, cellsI, List.getElem?_map, List.getElem?_set]
  by_cases h1 : j < off
  · rw [if_pos h1, if_neg (by omega)]
  · rw [if_neg h1]
    by_cases h2 : j < off + (0 + 1)
    · obtain rfl : j = off := by omega
      simp [h]
    · rw [if_neg h2, if_neg (by omega)]
theorem ldcells_I {l : List Int} {off : Nat} (h : off < l.length) : ldcells none off (cellsI l) = some (A.d (.v (.int .i64 (l.getD off 0)))) := by
  simp [ldcells, cellsI, List.getD, h]
theorem refsL_I (ks : List Key) (l : List Int) : refsL ks (cellsI l) = true := by
  induction l with
  | nil => rfl
  | cons x r ih => simpa [cellsI, refsL, refs] using ih
theorem allD_I (l : List Int) : allD (cellsI l) = some (l.map iv) := by
  induction l with
  | nil => rfl
  | cons x r ih =>
    simp only [cellsI, List.map_cons, allD] at ih ⊢
    rw [ih]; rfl
theorem rep_I (n : Nat) : List.map A.d (rep n [.v (.int .i64 0)]) = cellsI (List.replicate n 0) := by
  induction n with
  | zero => rfl
  | succ n ih =>
    simp only [rep, List.replicate_succ, List.flatten_cons, List.map_append, List.map_cons, List.map_nil, cellsI, List.cons_append, List.nil_append] at ih ⊢
    rw [ih]
/-! ### Sizes -/
def nd (x : Int) : Nat := (digs x.natAbs).length
theorem digs_length_le : ∀ (k n : Nat), n < 1000000000 ^ k → (digs n).length ≤ k
  | 0, n, h => by
    have : n = 0 := by simpa using h
    subst this; rw [digs_zero]; exact Nat.le_refl _
  | k + 1, n, h => by
    rcases Nat.eq_zero_or_pos n with rfl | hp
    · rw [digs_zero]; simp
    · rw [digs_pos hp, List.length_cons]
      have : n / 1000000000 < 1000000000 ^ k := by
        rw [Nat.pow_succ] at h
        exact Nat.div_lt_of_lt_mul (by rw [Nat.mul_comm]; exact h)
      exact Nat.succ_le_succ (digs_length_le k _ this)
theorem lt_pow_nd (x : Int) : x.natAbs < 1000000000 ^ nd x := by
  have h1 := val_lt (digs_dig x.natAbs)
  rw [val_digs] at h1
  have h2 : ((1000000000 ^ (digs x.natAbs).length : Nat) : Int) = (1000000000 : Int) ^ (digs x.natAbs).length := by simp
  rw [← h2] at h1
  exact Int.ofNat_lt.1 h1
theorem nd_le {x : Int} {k : Nat} (h : x.natAbs < 1000000000 ^ k) : nd x ≤ k := digs_length_le k _ h
theorem npow_mono {n m : Nat} (h : n ≤ m) : 1000000000 ^ n ≤ 1000000000 ^ m := Nat.pow_le_pow_right (by omega) h
theorem nd_add {x y : Int} {k : Nat} (hx : nd x ≤ k) (hy : nd y ≤ k) : nd (x + y) ≤ k + 1 := by
  apply nd_le
  have h1 := Nat.lt_of_lt_of_le (lt_pow_nd x) (npow_mono hx)
  have h2 := Nat.lt_of_lt_of_le (lt_pow_nd y) (npow_mono hy)
  rw [Nat.pow_succ]
  omega
theorem nd_neg (x : Int) : nd (-x) = nd x := by simp [nd]
theorem nd_mono {x y : Int} (h : x.natAbs ≤ y.natAbs) : nd x ≤ nd y := nd_le (Nat.lt_of_le_of_lt h (lt_pow_nd y))
theorem nd_i64 {x : Int} (h : -9223372036854775808 ≤ x ∧ x < 9223372036854775808) : nd x ≤ 3 := by
  apply nd_le
  have : (1000000000 : Nat) ^ 3 = 1000000000000000000000000000 := by decide
  omega
theorem val_dabs (x : Int) : val (digs x.natAbs) = x.natAbs := val_digs _
end Go.AM

/- integer.of -/
namespace Go.AM
open Go Go.RowKit
variable [Its]

section
variable (neg : Bool) (d : D) (l : List Int)
end

end Go.AM

/- integer.plus -/
namespace Go.AM
open Go Go.RowKit
variable [Its]

section
variable (da db : D) (a b : List Int)
end

end Go.AM

/- integer.minus -/
namespace Go.AM
open Go Go.RowKit
variable [Its]

section
variable (db : D) (b : List Int)
end

end Go.AM

/- cmp.Compare, integer.compare -/
namespace Go.AM
open Go Go.RowKit
variable [Its]

section
variable (da db : D) (a b : List Int)
end

end Go.AM

/- integer.Add, Neg, Sub, Compare, Sign -/
namespace Go.AM
open Go Go.RowKit
variable [Its]

end Go.AM

/- Boxes of whole numbers, folded. -/
namespace Go.AM
open Go Go.RowKit

/-- A number's two cells. -/
def cI (x : Int) : List A := [.d (.v (.bool (decide (x < 0)))), .d (dg (digs x.natAbs))]
def bI (x : Int) : Obj := ⟨0, 0, cI x, false⟩
theorem one_encI (x : Int) : A.one (.d (encI x)) = false := rfl
theorem cells_encI (x : Int) : cellsOf (.d (encI x)) = cI x := rfl
theorem dc_encI (x : Int) : dcells (.d (encI x)) = some [.v (.bool (decide (x < 0))), dg (digs x.natAbs)] := rfl
theorem all_cI (x : Int) : (cI x).all A.one = true := by
  simp only [cI, List.all_cons, List.all_nil, one_bool, one_dg', Bool.and_self]
theorem len_cI (x : Int) : (cI x).length = 2 := rfl
theorem refs_cI (ks : List Key) (x : Int) : refsL ks (cI x) = true := rfl
theorem ld_cI (x : Int) : ldcells (some 2) 0 (cI x) = some (.d (encI x)) := rfl
theorem ld_cI0 (x : Int) : ldcells none 0 (cI x) = some (.d (.v (.bool (decide (x < 0))))) := rfl
theorem ld_cI1 (x : Int) : ldcells none 1 (cI x) = some (.d (dg (digs x.natAbs))) := rfl
theorem st_cI (x y : Int) : stcells 0 (cI x) (cI y) = some (cI x) := rfl
theorem st_cIn (x : Int) (u v : A) : stcells 0 (cI x) [u, v] = some (cI x) := rfl
theorem ad_cI (x : Int) : allD (cI x) = some [.v (.bool (decide (x < 0))), dg (digs x.natAbs)] := rfl
theorem ag_encI (x : Int) : aggA (.d (encI x)) = some [.v (.bool (decide (x < 0))), dg (digs x.natAbs)] := rfl
attribute [go_sem] one_encI cells_encI dc_encI all_cI len_cI refs_cI ld_cI ld_cI0 ld_cI1 st_cI st_cIn ad_cI ag_encI
end Go.AM

/- integer.unsigned, Of -/
namespace Go.AM
open Go Go.RowKit
variable [Its]

theorem encI_sgn_dg (neg : Bool) {u : Int} (h : 0 < u) : encI (sgn neg u) = .agg [bv neg, dg (digs u.toNat)] := by
  have _its : Its := inferInstance
  have e1 : decide (sgn neg u < 0) = neg := by
    cases neg
    · simp only [sgn, Bool.false_eq_true, if_false, decide_eq_false_iff_not]; omega
    · simp only [sgn, if_true, decide_eq_true_eq]; omega
  rw [encI, e1, natAbs_sgn, show u.natAbs = u.toNat by omega]
theorem encI_sgn0 (neg : Bool) : encI (sgn neg 0) = .agg [bv false, .z true] := by
  have _its : Its := inferInstance
  have e : encI 0 = .agg [bv false, .z true] := by
    have : digs (0 : Int).natAbs = [] := digs_zero
    rw [encI, this]; rfl
  cases neg <;> exact e

theorem unsigned_spec (neg : Bool) {u : Int} (h : 0 ≤ u ∧ u < 18446744073709551616) : callX G n_integer_unsigned [bv neg, .v (.int .u64 u)] = some (.d (encI (sgn neg u))) := by
  rw [callX_eq (cf := integer_unsigned) rfl]
  have q1 : ∀ x : Int, 0 ≤ x → x.tmod 1000000000 = x % 1000000000 := fun x hx => Int.tmod_eq_emod_of_nonneg hx
  have q2 : ∀ x : Int, 0 ≤ x → x.tdiv 1000000000 = x / 1000000000 := fun x hx => Int.tdiv_eq_ediv_of_nonneg hx
  by_cases h0 : u = 0
  · subst h0
    rw [encI_sgn0]
    have e1 : ((0 : Int) == 0) = true := rfl
    simp -implicitDefEqProofs (maxSteps := 10000000) only [integer_unsigned, go_sem, stcells, ldcells, iv, bv, e1, reduceCtorEq, ↓reduceIte, Nat.reduceEqDiff]
  · have e1 : (u == 0) = false := beq_f h0
    rw [encI_sgn_dg neg (by omega)]
    have d1 := digs_pos (n := u.toNat) (by omega)
    by_cases h1 : u < 1000000000
    · have e2 : decide (u < 1000000000) = true := lt_t h1
      have e3 : w64 u = u := w64_id (by omega) (by omega)
      have d2 : digs u.toNat = [u] := by
        rw [d1, show u.toNat / 1000000000 = 0 by omega, digs_zero, show ((u.toNat % 1000000000 : Nat) : Int) = u by omega]
      rw [d2, dg_cons]
      simp -implicitDefEqProofs (maxSteps := 10000000) only [integer_unsigned, go_sem, stcells, ldcells, iv, bv, e1, e2, e3, reduceCtorEq, ↓reduceIte, Nat.reduceEqDiff]
    · have e2 : decide (u < 1000000000) = false := lt_f h1
      have t1 := q1 u (by omega)
      have t2 := q2 u (by omega)
      have e3 : w64 (u % 1000000000) = u % 1000000000 := w64_id (by omega) (by omega)
      have m1 : u / 1000000000 % 18446744073709551616 = u / 1000000000 := by omega
      have e4 : w64 (u / 1000000000) = u / 1000000000 := w64_id (by omega) (by omega)
      have d1' := digs_pos (n := u.toNat / 1000000000) (by omega)
      by_cases h2 : u < 1000000000000000000
      · have e5 : decide (u < 1000000000000000000) = true := lt_t h2
        have d2 : digs u.toNat = [u % 1000000000, u / 1000000000] := by
          rw [d1, d1', show u.toNat / 1000000000 / 1000000000 = 0 by omega, digs_zero, show ((u.toNat % 1000000000 : Nat) : Int) = u % 1000000000 by omega, show ((u.toNat / 1000000000 % 1000000000 : Nat) : Int) = u / 1000000000 by omega]
        rw [d2, dg_cons]
        simp -implicitDefEqProofs (maxSteps := 10000000) only [integer_unsigned, go_sem, stcells, ldcells, iv, bv, e1, e2, t1, t2, m1, e3, e4, e5, reduceCtorEq, ↓reduceIte, Nat.reduceEqDiff]
      · have e5 : decide (u < 1000000000000000000) = false := lt_f h2
        have t3 := q1 (u / 1000000000) (by omega)
        have t4 := q2 (u / 1000000000) (by omega)
        have e6 : w64 (u / 1000000000 % 1000000000) = u / 1000000000 % 1000000000 := w64_id (by omega) (by omega)
        have m2 : u / 1000000000 / 1000000000 % 18446744073709551616 = u / 1000000000 / 1000000000 := by omega
        have e7 : w64 (u / 1000000000 / 1000000000) = u / 1000000000 / 1000000000 := w64_id (by omega) (by omega)
        have d1'' := digs_pos (n := u.toNat / 1000000000 / 1000000000) (by omega)
        have d2 : digs u.toNat = [u % 1000000000, u / 1000000000 % 1000000000, u / 1000000000 / 1000000000] := by
          rw [d1, d1', d1'', show u.toNat / 1000000000 / 1000000000 / 1000000000 = 0 by omega, digs_zero, show ((u.toNat % 1000000000 : Nat) : Int) = u % 1000000000 by omega, show ((u.toNat / 1000000000 % 1000000000 : Nat) : Int) = u / 1000000000 % 1000000000 by omega,
            show ((u.toNat / 1000000000 / 1000000000 % 1000000000 : Nat) : Int) = u / 1000000000 / 1000000000 by omega]
        rw [d2, dg_cons]
        simp -implicitDefEqProofs (maxSteps := 10000000) only [integer_unsigned, go_sem, stcells, ldcells, iv, bv, e1, e2, t1, t2, t3, t4, m1, m2, e3, e4, e5, e6, e7, reduceCtorEq, ↓reduceIte, Nat.reduceEqDiff]

theorem Of_spec {n : Int} (h : I64 n) : callX G n_integer_Of [iv n] = some (.d (encI n)) := by
  obtain ⟨h1, h2⟩ := h
  rw [callX_eq (cf := integer_Of) rfl]
  by_cases hn : n < 0
  · have e1 : decide (n < 0) = true := lt_t hn
    have e2 : (0 - n % 18446744073709551616) % 18446744073709551616 = -n := by omega
    have e3 := unsigned_spec true (u := -n) (by omega)
    have e4 : sgn true (-n) = n := by simp [sgn]
    rw [e4] at e3
    simp only [bv] at e3
    simp -implicitDefEqProofs (maxSteps := 10000000) only [integer_Of, encI, go_sem, stcells, ldcells, iv, bv, e1, e2, reduceCtorEq, ↓reduceIte, Nat.reduceEqDiff]
    simp only [e1, e3, encI, go_sem, stcells, ldcells, iv, bv, reduceCtorEq, ↓reduceIte, Nat.reduceEqDiff]
  · have e1 : decide (n < 0) = false := lt_f hn
    have e2 : n % 18446744073709551616 = n := by omega
    have e3 := unsigned_spec false (u := n) (by omega)
    have e4 : sgn false n = n := rfl
    rw [e4] at e3
    simp only [bv] at e3
    simp -implicitDefEqProofs (maxSteps := 10000000) only [integer_Of, encI, go_sem, stcells, ldcells, iv, bv, e1, e2, reduceCtorEq, ↓reduceIte, Nat.reduceEqDiff]
    simp only [e1, e3, encI, go_sem, stcells, ldcells, iv, bv, reduceCtorEq, ↓reduceIte, Nat.reduceEqDiff]
end Go.AM

/- integer.Mul -/
namespace Go.AM
open Go Go.RowKit
variable [Its]

section
variable (p q : Bool) (dx dy da db : D) (a b : List Int)
end
end Go.AM

/- integer.Mul as a function -/
namespace Go.AM
open Go Go.RowKit
variable [Its]

theorem sgn_mul {x y : Int} (h : x ≠ 0) (h2 : y ≠ 0) : sgn (!(decide (x < 0) == decide (y < 0))) ((x.natAbs : Int) * (y.natAbs : Int)) = x * y := by
  have _its : Its := inferInstance
  by_cases hx : x < 0 <;> by_cases hy : y < 0
  · have e1 : (x.natAbs : Int) = -x := by omega
    have e2 : (y.natAbs : Int) = -y := by omega
    simp [sgn, hx, hy, e1, e2]
    try grind
  · have e1 : (x.natAbs : Int) = -x := by omega
    have e2 : (y.natAbs : Int) = y := by omega
    simp [sgn, hx, hy, e1, e2]
    try grind
  · have e1 : (x.natAbs : Int) = x := by omega
    have e2 : (y.natAbs : Int) = -y := by omega
    simp [sgn, hx, hy, e1, e2]
    try grind
  · have e1 : (x.natAbs : Int) = x := by omega
    have e2 : (y.natAbs : Int) = y := by omega
    simp [sgn, hx, hy, e1, e2]
    try grind

theorem sgn_mul' (x y : Int) : sgn (!(decide (x < 0) == decide (y < 0))) ((x.natAbs : Int) * (y.natAbs : Int)) = x * y := by
  by_cases h : x = 0
  · subst h
    have : ((0 : Int).natAbs : Int) = 0 := rfl
    rw [this, Int.zero_mul, Int.zero_mul]
    unfold sgn; split <;> rfl
  · by_cases h2 : y = 0
    · subst h2
      have : ((0 : Int).natAbs : Int) = 0 := rfl
      rw [this, Int.mul_zero, Int.mul_zero]
      unfold sgn; split <;> rfl
    · exact sgn_mul h h2

end Go.AM

/- integer.two -/
namespace Go.AM
open Go Go.RowKit

variable [Its]

end Go.AM

/- States as lists; quotients; values from the top. -/
namespace Go.AM
open Go Go.RowKit

def frL : List (Nat × A) → Fr
  | [] => fr0
  | (i, x) :: r => upd (frL r) i x
def hpL : List (Key × Obj) → Hp
  | [] => hp0
  | (k, o) :: r => hupd (hpL r) k o
def mkS (f : List (Nat × A)) (h : List (Key × Obj)) : St := ⟨frL f, hpL h, []⟩
def ai (x : Int) : A := .d (.v (.int .i64 x))
def ab (b : Bool) : A := .d (.v (.bool b))
def arrI (n : Nat) (l : List Int) : Obj := ⟨1, n, cellsI l, false⟩
attribute [go_sem] mkS frL hpL ai ab arrI

theorem quo_pos {a b : Int} (ha : 0 ≤ a) : a.tdiv b = a / b := Int.tdiv_eq_ediv_of_nonneg ha
theorem rem_pos {a b : Int} (ha : 0 ≤ a) : a.tmod b = a % b := Int.tmod_eq_emod_of_nonneg ha
theorem eqz_f {b : Int} (h : b ≠ 0) : (b = 0) = False := eq_false h

theorem val_drop_getD (l : List Int) (k : Nat) : val (l.drop k) = l.getD k 0 + 1000000000 * val (l.drop (k + 1)) := by
  by_cases h : k < l.length
  · rw [List.drop_eq_getElem_cons h, val]
    simp [List.getD, h]
  · rw [List.drop_eq_nil_of_le (by omega), List.drop_eq_nil_of_le (by omega)]
    have : l.getD k 0 = 0 := by rw [List.getD_eq_getElem?_getD, List.getElem?_eq_none (by omega)]; rfl
    rw [this]; simp [val]
theorem pow_pos' (n : Nat) : (0 : Int) < (1000000000 : Int) ^ n := Int.pow_pos (by omega)
theorem bnd (n : Nat) (h : n * 8 ≤ 140737488351232) : (0 : Int) ≤ ((n : Nat) : Int) ∧ ((n : Nat) : Int) * ((8 : Nat) : Int) ≤ ((bound : Nat) : Int) := by simp only [bound]; omega
end Go.AM

/- integer.short -/
namespace Go.AM
open Go Go.RowKit

variable [Its]

section
variable (da : D) (a : List Int) (b : Int)
end

end Go.AM

/- integer.scaled -/
namespace Go.AM
open Go Go.RowKit

variable [Its]

section
variable (da : D) (a : List Int) (k : Int)
end

end Go.AM

/- Long division, one digit of the quotient: plain arithmetic. -/
namespace Go.AM

section
variable {P v1 v2 vl u0 u1 u2 ul : Int}

end

/-- A digit less a product, with a carry. -/
theorem kn_sub {u g v c : Int} (hu : 0 ≤ u ∧ u < 1000000000) (hg : 0 ≤ g ∧ g < 1000000000) (hv : 0 ≤ v ∧ v < 1000000000) (hc : 0 ≤ c ∧ c < 1000000000) :
    0 ≤ g * v ∧ g * v ≤ 999999999 * 999999999 ∧ (u - g * v - c < 0 → 0 ≤ -(u - g * v - c) + 1000000000 - 1 ∧ 0 ≤ (-(u - g * v - c) + 1000000000 - 1) / 1000000000 ∧ (-(u - g * v - c) + 1000000000 - 1) / 1000000000 < 1000000000 ∧
      0 ≤ u - g * v - c + (-(u - g * v - c) + 1000000000 - 1) / 1000000000 * 1000000000 ∧ u - g * v - c + (-(u - g * v - c) + 1000000000 - 1) / 1000000000 * 1000000000 < 1000000000) := by
  have h1 : 0 ≤ g * v := Int.mul_nonneg hg.1 hv.1
  have h2 : g * v ≤ 999999999 * v := Int.mul_le_mul_of_nonneg_right (by omega) hv.1
  generalize g * v = p at *
  omega
end Go.AM

/- integer.long: the guess -/
namespace Go.AM
open Go Go.RowKit
variable [Its]

section
variable (s : Int) (dv : D) (p L M j : Nat) (u q v : List Int)
variable (hrv : Rw dv v) (hv : Dig v) (hu : Dig u) (hvl : v.length = p + 2) (hul : u.length = L) (hj : j + p + 2 < L) (hL : L < 4611686018427387904)
include hrv hv hu hvl hul hj hL

end
end Go.AM

/- integer.long: the product is taken away; a divisor is added back -/
namespace Go.AM
open Go Go.RowKit

theorem add_ix {u v c : Int} (hu : 0 ≤ u ∧ u < 1000000000) (hv : 0 ≤ v ∧ v < 1000000000) (hc : 0 ≤ c ∧ c ≤ 1) : w64 (u + v) = u + v ∧ w64 (u + v + c) = u + v + c ∧ 0 ≤ u + v + c ∧ w64 ((u + v + c) / 1000000000) = (u + v + c) / 1000000000 ∧
    (0 ≤ (u + v + c) / 1000000000 ∧ (u + v + c) / 1000000000 ≤ 1) ∧ (0 ≤ (u + v + c) % 1000000000 ∧ (u + v + c) % 1000000000 < 1000000000) ∧ (u + v + c) % 1000000000 + 1000000000 * ((u + v + c) / 1000000000) = u + v + c := by
  refine ⟨w64_id (by omega) (by omega), w64_id (by omega) (by omega), by omega, w64_id (by omega) (by omega), by omega, by omega, by omega⟩
variable [Its]

section
variable (s : Int) (dv : D) (p L M j : Nat) (q v : List Int) (g : Int)
variable (hrv : Rw dv v) (hv : Dig v) (hvl : v.length = p + 2) (hj : j + p + 2 < L) (hL : L < 4611686018427387904)
include hrv hv hvl hj hL

end
end Go.AM

/- Long division: numbers in digits, cut at a digit. -/
namespace Go.AM
open Go Go.RowKit

theorem val_split (l : List Int) {j : Nat} (h : j ≤ l.length) : val l = val (l.take j) + (1000000000 : Int) ^ j * val (l.drop j) := by
  have e : l.take j ++ l.drop j = l := List.take_append_drop j l
  have h1 : (l.take j).length = j := by simp; omega
  have h2 := val_append (l.take j) (l.drop j)
  rw [e, h1] at h2
  exact h2
theorem dig_cut {l : List Int} {j n : Nat} (h : ∀ x, j ≤ x → x < j + n → 0 ≤ l.getD x 0 ∧ l.getD x 0 < 1000000000) : Dig ((l.drop j).take n) := by
  intro d hd
  obtain ⟨i, hi, rfl⟩ := List.getElem_of_mem hd
  simp only [List.length_take, List.length_drop] at hi
  have := h (j + i) (by omega) (by omega)
  have e : l.getD (j + i) 0 = ((l.drop j).take n)[i]'(by simp only [List.length_take, List.length_drop]; exact hi) := by
    rw [List.getElem_take, List.getElem_drop, List.getD_eq_getElem?_getD, List.getElem?_eq_getElem (by omega)]
    rfl
  rw [← e]; exact this
theorem cut_lt {l : List Int} {j n : Nat} (h : ∀ x, j ≤ x → x < j + n → 0 ≤ l.getD x 0 ∧ l.getD x 0 < 1000000000) (hl : j + n ≤ l.length) : 0 ≤ val ((l.drop j).take n) ∧ val ((l.drop j).take n) < (1000000000 : Int) ^ n := by
  have hd := dig_cut h
  have h2 := val_lt hd
  have e : ((l.drop j).take n).length = n := by simp; omega
  rw [e] at h2
  exact ⟨val_nonneg hd, h2⟩

end Go.AM

/- integer.long: one digit of the quotient; the loop -/
namespace Go.AM
open Go Go.RowKit

theorem Hid.mk {p : Prop} (h : p) : Hid p := h
variable [Its]

section
variable (s : Int) (dv : D) (p L M : Nat) (v : List Int)
variable (hrv : Rw dv v) (hv : Dig v) (hvl : v.length = p + 2) (hL : L < 4611686018427387904)
include hrv hv hvl hL

end
end Go.AM

/- integer.long -/
namespace Go.AM
open Go Go.RowKit

variable [Its]

section
variable (s : Int) (dv : D) (p L M : Nat) (v : List Int)
variable (hrv : Rw dv v) (hv : Dig v) (hvl : v.length = p + 2) (hL : L < 4611686018427387904)
include hrv hv hvl hL

end

end Go.AM

/- integer.divide -/
namespace Go.AM
open Go Go.RowKit

theorem digs_len_mono {x y : Nat} (h : x ≤ y) : (digs x).length ≤ (digs y).length := by
  have := nd_mono (x := (x : Int)) (y := (y : Int)) (by simpa using h)
  simpa [nd] using this
variable [Its]

end Go.AM

/- integer.Div, Sub -/
namespace Go.AM
open Go Go.RowKit

variable [Its]

end Go.AM

/- integer.Gcd -/
namespace Go.AM
open Go Go.RowKit

variable [Its]

def box0 : Obj := ⟨0, 0, [.d (.v (.bool false)), .d (.z true)], false⟩
end Go.AM

/- gantryref04: normal, digit, tiny, compared, Compare, Sign, Neg -/
namespace Go.AM
open Go Go.RowKit

theorem src_row (st : St) (n : Nat) (cs : List D) : src st (.d (.row n cs)) = some (n, cs) := rfl
theorem encI_agg (x : Int) : encI x = .agg [.v (.bool (decide (x < 0))), dg (digs x.natAbs)] := rfl
variable [Its]

section
variable (neg : Bool) (d : D) (l : List Int)
def nrm_st (n : Int) : St := mkS [(0, ab neg), (1, .d d), (4, .ptr [4] 0), (5, ai n)] [([4], box0)]
theorem nrm_go (hr : Rw d l) (n : Nat) (h : n < l.length) (hl : l.length < 4611686018427387904) (h0 : l.getD n 0 = 0) : X G gantryref04_normal_l0 (nrm_st neg d ((n + 1 : Nat) : Int)) = some (.n, nrm_st neg d n) := by
  have e1 : decide (((n + 1 : Nat) : Int) > 0) = true := gt_t (by omega)
  have e2 : w64 (((n + 1 : Nat) : Int) - 1) = n := by rw [w64_id (by omega) (by omega)]; omega
  have e3 := hr.ixn (j := n) (by omega)
  have e4 := fun hp => ldv hp l (j := n) (by omega)
  have e5 : ((0 : Int) > (n : Int)) = False := eq_false (by omega)
  simp -implicitDefEqProofs (maxSteps := 10000000) only [gantryref04_normal_l0, nrm_st, box0, go_sem, foldV, mxV, iv, bv, e1, e2, e3, e4, e5, h0, beq_self_eq_true, reduceCtorEq, ↓reduceIte, Nat.reduceEqDiff]
theorem nrm_stop (hr : Rw d l) (n : Nat) (h : n < l.length) (hl : l.length < 4611686018427387904) (h0 : l.getD n 0 ≠ 0) : X G gantryref04_normal_l0 (nrm_st neg d ((n + 1 : Nat) : Int)) = some (.x 0, nrm_st neg d ((n + 1 : Nat) : Int)) := by
  have e1 : decide (((n + 1 : Nat) : Int) > 0) = true := gt_t (by omega)
  have e2 : w64 (((n + 1 : Nat) : Int) - 1) = n := by rw [w64_id (by omega) (by omega)]; omega
  have e3 := hr.ixn (j := n) (by omega)
  have e4 := fun hp => ldv hp l (j := n) (by omega)
  have e5 : ((0 : Int) > (n : Int)) = False := eq_false (by omega)
  simp -implicitDefEqProofs (maxSteps := 10000000) only [gantryref04_normal_l0, nrm_st, box0, go_sem, foldV, mxV, iv, bv, e1, e2, e3, e4, e5, beq_f h0, reduceCtorEq, ↓reduceIte, Nat.reduceEqDiff]
theorem nrm_zero : X G gantryref04_normal_l0 (nrm_st neg d ((0 : Nat) : Int)) = some (.x 0, nrm_st neg d ((0 : Nat) : Int)) := by
  have e1 : decide ((0 : Int) > 0) = false := rfl
  simp -implicitDefEqProofs (maxSteps := 10000000) only [gantryref04_normal_l0, nrm_st, box0, go_sem, foldV, mxV, iv, bv, e1, reduceCtorEq, ↓reduceIte, Nat.reduceEqDiff]
theorem nrm_loop (hr : Rw d l) (hl : l.length < 4611686018427387904) : ∀ n : Nat, n ≤ l.length → X G (.loop gantryref04_normal_l0) (nrm_st neg d (n : Int)) = some (.x 0, nrm_st neg d (cutn l n : Nat))
  | 0, _ => by
    rw [X_loop, nrm_zero]
    rfl
  | n + 1, h => by
    rw [X_loop, cutn]
    by_cases h0 : l.getD n 0 = 0
    · rw [nrm_go neg d l hr n (by omega) hl h0, if_pos h0]
      exact nrm_loop hr hl n (by omega)
    · rw [nrm_stop neg d l hr n (by omega) hl h0, if_neg h0]
      rfl
end

theorem normal_spec (neg : Bool) {d : D} {l : List Int} (hr : Rw d l) (hl : l.length < 4611686018427387904) (hd : Dig l) : callX G n_gantryref04_normal [bv neg, d] = some (.d (encI (sgn neg (val l)))) := by
  rw [callX_eq (cf := gantryref04_normal) rfl, encI_sgn hd]
  have hc := cutn_le l l.length
  have el := nrm_loop neg d l hr hl l.length (Nat.le_refl _)
  simp only [nrm_st, box0, go_sem] at el
  generalize hn : cutn l l.length = n at *
  by_cases h0 : n = 0
  · subst h0
    have e0 : ((0 : Int) == 0) = true := rfl
    simp only [nc0] at el
    simp -implicitDefEqProofs (maxSteps := 10000000) only [gantryref04_normal, go_sem, stcells, ldcells, iv, bv, hr.len, el, e0, reduceCtorEq, ↓reduceIte, Nat.reduceEqDiff]
  · obtain rfl := hr.ne (by rintro rfl; simp [cutn] at hn; exact h0 hn.symm)
    have e0 : (((n : Nat) : Int) == 0) = false := beq_f (by omega)
    have e1 : (0 : Int) ≤ 0 ∧ (0 : Int) ≤ (n : Int) ∧ (n : Int) ≤ (l.length : Int) := by omega
    simp only [rowI] at el
    simp -implicitDefEqProofs (maxSteps := 10000000) only [gantryref04_normal, go_sem, stcells, ldcells, iv, bv, rowI, el, e0, e1, h0, reduceCtorEq, ↓reduceIte, Nat.reduceEqDiff]

theorem digit_spec {d : D} {l : List Int} (h : Rw d l) {i : Nat} : callX G n_gantryref04_digit [d, iv (i : Int)] = some (.d (iv (l.getD i 0))) := by
  rw [callX_eq (cf := gantryref04_digit) rfl]
  have hh := h.len
  by_cases h0 : i < l.length
  · have e1 : decide ((i : Int) < (l.length : Int)) = true := lt_t (by omega)
    have e2 := h.ixn (j := i) h0
    have e3 := fun hp => ldv hp l (j := i) h0
    simp -implicitDefEqProofs (maxSteps := 10000000) only [gantryref04_digit, go_sem, iv, bv, hh, e1, e2, e3, reduceCtorEq, ↓reduceIte, Nat.reduceEqDiff]
  · have e1 : decide ((i : Int) < (l.length : Int)) = false := lt_f (by omega)
    have e2 : l.getD i 0 = 0 := by rw [List.getD_eq_getElem?_getD, List.getElem?_eq_none (by omega)]; rfl
    rw [e2]
    simp -implicitDefEqProofs (maxSteps := 10000000) only [gantryref04_digit, go_sem, iv, bv, hh, e1, reduceCtorEq, ↓reduceIte, Nat.reduceEqDiff]

section
variable (da db : D) (a b : List Int)
def cmd_st (i : Int) : St := mkS [(0, .d da), (1, .d db), (5, ai i)] []
def cmd_ret (x : Int) : St := mkS [(4, ai x)] []
theorem cmd_stop : X G gantryref04_compared_l0 (cmd_st da db (-1)) = some (.x 0, mkS [] []) := by
  have e1 : decide ((-1 : Int) ≥ 0) = false := rfl
  simp -implicitDefEqProofs (maxSteps := 10000000) only [gantryref04_compared_l0, cmd_st, go_sem, iv, bv, e1, reduceCtorEq, ↓reduceIte, Nat.reduceEqDiff]
theorem cmd_go (hra : Rw da a) (hrb : Rw db b) {i : Nat} (ha : i < a.length) (hb : i < b.length) (hl : a.length < 4611686018427387904) :
    X G gantryref04_compared_l0 (cmd_st da db (i : Int)) = if a.getD i 0 < b.getD i 0 then some (.r, cmd_ret (-1)) else if a.getD i 0 > b.getD i 0 then some (.r, cmd_ret 1) else some (.n, cmd_st da db ((i : Int) - 1)) := by
  have e1 : decide ((i : Int) ≥ 0) = true := ge_t (by omega)
  have e2 := hra.ixn (j := i) ha
  have e3 := fun hp => ldv hp a (j := i) ha
  have e4 := hrb.ixn (j := i) hb
  have e5 := fun hp => ldv hp b (j := i) hb
  have e6 : w64 ((i : Int) - 1) = (i : Int) - 1 := w64_id (by omega) (by omega)
  by_cases h1 : a.getD i 0 < b.getD i 0
  · have e7 : decide (a.getD i 0 < b.getD i 0) = true := lt_t h1
    rw [if_pos h1]
    simp -implicitDefEqProofs (maxSteps := 10000000) only [gantryref04_compared_l0, cmd_st, cmd_ret, go_sem, iv, bv, e1, e2, e3, e4, e5, e6, e7, reduceCtorEq, ↓reduceIte, Nat.reduceEqDiff]
  · have e7 : decide (a.getD i 0 < b.getD i 0) = false := lt_f h1
    rw [if_neg h1]
    by_cases h2 : a.getD i 0 > b.getD i 0
    · have e8 : decide (a.getD i 0 > b.getD i 0) = true := gt_t h2
      rw [if_pos h2]
      simp -implicitDefEqProofs (maxSteps := 10000000) only [gantryref04_compared_l0, cmd_st, cmd_ret, go_sem, iv, bv, e1, e2, e3, e4, e5, e6, e7, e8, reduceCtorEq, ↓reduceIte, Nat.reduceEqDiff]
    · have e8 : decide (a.getD i 0 > b.getD i 0) = false := gt_f h2
      rw [if_neg h2]
      simp -implicitDefEqProofs (maxSteps := 10000000) only [gantryref04_compared_l0, cmd_st, cmd_ret, go_sem, iv, bv, e1, e2, e3, e4, e5, e6, e7, e8, reduceCtorEq, ↓reduceIte, Nat.reduceEqDiff]

theorem take_lt_of {k : Nat} (ha : Dig a) (hb : Dig b) (hk : a.getD k 0 < b.getD k 0) : val (a.take (k + 1)) < val (b.take (k + 1)) := by
  have _its : Its := inferInstance
  rw [val_take_getD, val_take_getD]
  have h1 := cut_lt (l := a) (j := 0) (n := k) (fun x _ _ => ha.getD x)
  have e1 : val (a.take k) < (1000000000 : Int) ^ k := by
    rcases Nat.lt_or_ge a.length k with h | h
    · have := val_lt (ha.take k)
      have e : (a.take k).length ≤ k := by rw [List.length_take]; omega
      exact Int.lt_of_lt_of_le this (pow_mono e)
    · have := val_lt (ha.take k)
      have e : (a.take k).length ≤ k := by rw [List.length_take]; omega
      exact Int.lt_of_lt_of_le this (pow_mono e)
  have e2 := val_nonneg (hb.take k)
  have e3 : (1000000000 : Int) ^ k * (a.getD k 0 + 1) ≤ (1000000000 : Int) ^ k * b.getD k 0 := Int.mul_le_mul_of_nonneg_left (by omega) (Int.le_of_lt (pow_pos' k))
  rw [Int.mul_add, Int.mul_one] at e3
  generalize (1000000000 : Int) ^ k * a.getD k 0 = x at *
  generalize (1000000000 : Int) ^ k * b.getD k 0 = y at *
  clear h1
  omega

theorem cmd_loop (hra : Rw da a) (hrb : Rw db b) (ha : Dig a) (hb : Dig b) (hl : a.length < 4611686018427387904) : ∀ k : Nat, k ≤ a.length → k ≤ b.length →
    (X G (.loop gantryref04_compared_l0) (cmd_st da db ((k : Int) - 1)) = some (.x 0, mkS [] []) ∧ val (a.take k) = val (b.take k)) ∨
    (X G (.loop gantryref04_compared_l0) (cmd_st da db ((k : Int) - 1)) = some (.r, cmd_ret (-1)) ∧ val (a.take k) < val (b.take k)) ∨
    (X G (.loop gantryref04_compared_l0) (cmd_st da db ((k : Int) - 1)) = some (.r, cmd_ret 1) ∧ val (b.take k) < val (a.take k))
  | 0, _, _ => .inl ⟨by
      have : ((0 : Nat) : Int) - 1 = -1 := rfl
      rw [this, X_loop, cmd_stop]; rfl, rfl⟩
  | k + 1, h1, h2 => by
    have hx := cmd_go da db a b hra hrb (i := k) (by omega) (by omega) hl
    have e : ((k + 1 : Nat) : Int) - 1 = (k : Int) := by omega
    rw [e, X_loop, hx]
    by_cases g1 : a.getD k 0 < b.getD k 0
    · rw [if_pos g1]
      exact .inr (.inl ⟨rfl, take_lt_of a b ha hb g1⟩)
    · rw [if_neg g1]
      by_cases g2 : a.getD k 0 > b.getD k 0
      · rw [if_pos g2]
        exact .inr (.inr ⟨rfl, take_lt_of b a hb ha g2⟩)
      · rw [if_neg g2]
        have g3 : a.getD k 0 = b.getD k 0 := by omega
        have ih := cmd_loop hra hrb ha hb hl k (by omega) (by omega)
        rw [val_take_getD a, val_take_getD b, g3]
        rcases ih with ⟨i1, i2⟩ | ⟨i1, i2⟩ | ⟨i1, i2⟩
        · exact .inl ⟨i1, by rw [i2]⟩
        · exact .inr (.inl ⟨i1, Int.add_lt_add_right i2 _⟩)
        · exact .inr (.inr ⟨i1, Int.add_lt_add_right i2 _⟩)
end

theorem compared_spec {da db : D} {a b : List Int} (hra : Rw da a) (hrb : Rw db b) (ha : Dig a) (hb : Dig b) (hat : Top a) (hbt : Top b) (hla : a.length < 4611686018427387904) (hlb : b.length < 4611686018427387904) :
    callX G n_gantryref04_compared [da, db] = some (.d (iv (Int.sign (val a - val b)))) := by
  have ca := hra.len
  have cb := hrb.len
  have tg := fun {u v : List Int} (hu : Dig u) (hv : Dig v) (hvt : Top v) (h : u.length < v.length) => show val u < val v from by
    have h1 := val_lt hu
    have h2 : (1000000000 : Int) ^ u.length ≤ val v := by
      have hne : v ≠ [] := by rintro rfl; simp at h
      obtain ⟨q, hq⟩ : ∃ q, v.length = q + 1 := ⟨v.length - 1, by omega⟩
      have ht := hvt hne
      have e : v.getLast hne = v.getD q 0 := by
        rw [List.getLast_eq_getElem, List.getD_eq_getElem?_getD, List.getElem?_eq_getElem (by omega)]
        simp [hq]
      rw [e] at ht
      have hp := hv.getD q
      have e1 := val_split v (j := q) (by omega)
      have e2 := val_drop_getD v q
      rw [List.drop_eq_nil_of_le (show v.length ≤ q + 1 by omega)] at e2
      simp only [val, Int.mul_zero, Int.add_zero] at e2
      rw [e1, e2]
      have e3 := val_nonneg (hv.take q)
      have e4 : (1000000000 : Int) ^ q * 1 ≤ (1000000000 : Int) ^ q * v.getD q 0 := Int.mul_le_mul_of_nonneg_left (by clear e1; omega) (Int.le_of_lt (pow_pos' q))
      have e5 := pow_mono (show u.length ≤ q by omega)
      generalize (1000000000 : Int) ^ q * v.getD q 0 = x at *
      generalize (1000000000 : Int) ^ q = y at *
      generalize (1000000000 : Int) ^ u.length = z at *
      clear e1 e2 h1
      omega
    exact Int.lt_of_lt_of_le h1 h2
  rw [callX_eq (cf := gantryref04_compared) rfl]
  by_cases h1 : a.length < b.length
  · have hv := tg ha hb hbt h1
    rw [Int.sign_eq_neg_one_of_neg (by omega)]
    have e1 : decide ((a.length : Int) < (b.length : Int)) = true := lt_t (by omega)
    simp -implicitDefEqProofs (maxSteps := 10000000) only [gantryref04_compared, go_sem, iv, bv, ca, cb, e1, reduceCtorEq, ↓reduceIte, Nat.reduceEqDiff]
  · have e1 : decide ((a.length : Int) < (b.length : Int)) = false := lt_f (by omega)
    by_cases h2 : b.length < a.length
    · have hv := tg hb ha hat h2
      rw [Int.sign_eq_one_of_pos (by omega)]
      have e2 : decide ((a.length : Int) > (b.length : Int)) = true := gt_t (by omega)
      simp -implicitDefEqProofs (maxSteps := 10000000) only [gantryref04_compared, go_sem, iv, bv, ca, cb, e1, e2, reduceCtorEq, ↓reduceIte, Nat.reduceEqDiff]
    · have e2 : decide ((a.length : Int) > (b.length : Int)) = false := gt_f (by omega)
      have hlen : b.length = a.length := by omega
      have e3 : w64 ((a.length : Int) - 1) = (a.length : Int) - 1 := w64_id (by omega) (by omega)
      have hl := cmd_loop da db a b hra hrb ha hb hla a.length (Nat.le_refl _) (by omega)
      rw [List.take_length, ← hlen, List.take_length, hlen] at hl
      rw [hlen] at cb e1 e2
      rcases hl with ⟨i1, i2⟩ | ⟨i1, i2⟩ | ⟨i1, i2⟩
      · rw [show val a - val b = 0 by omega]
        have e4 : Int.sign 0 = 0 := rfl
        simp only [cmd_st, go_sem] at i1
        simp -implicitDefEqProofs (maxSteps := 10000000) only [gantryref04_compared, go_sem, iv, bv, ca, cb, e1, e2, e3, e4, i1, reduceCtorEq, ↓reduceIte, Nat.reduceEqDiff]
      · rw [Int.sign_eq_neg_one_of_neg (by omega)]
        simp only [cmd_st, cmd_ret, go_sem] at i1
        simp -implicitDefEqProofs (maxSteps := 10000000) only [gantryref04_compared, go_sem, iv, bv, ca, cb, e1, e2, e3, i1, reduceCtorEq, ↓reduceIte, Nat.reduceEqDiff]
      · rw [Int.sign_eq_one_of_pos (by omega)]
        simp only [cmd_st, cmd_ret, go_sem] at i1
        simp -implicitDefEqProofs (maxSteps := 10000000) only [gantryref04_compared, go_sem, iv, bv, ca, cb, e1, e2, e3, i1, reduceCtorEq, ↓reduceIte, Nat.reduceEqDiff]
end Go.AM

/- gantryref04: Compare, Sign, Neg, plus, minus, Add -/
namespace Go.AM
open Go Go.RowKit

theorem cellsI_snoc (l : List Int) (v : Int) : cellsI l ++ [A.d (.v (.int .i64 v))] = cellsI (l ++ [v]) := by simp [cellsI]
theorem cellsI_one (v : Int) : cellsI [v] = [A.d (.v (.int .i64 v))] := rfl
/-- An array that grows, from nothing on. -/
def gA (k : Nat) (l : List Int) : A := if l = [] then .d (.z true) else .own [k] l.length
def gH (k : Nat) (l : List Int) : List (Key × Obj) := if l = [] then [] else [([k], arrI l.length l)]
theorem gA_nil (k : Nat) : gA k [] = .d (.z true) := rfl
theorem gH_nil (k : Nat) : gH k [] = [] := rfl
theorem gA_ne {k : Nat} {l : List Int} (h : l ≠ []) : gA k l = .own [k] l.length := if_neg h
theorem gH_ne {k : Nat} {l : List Int} (h : l ≠ []) : gH k l = [([k], arrI l.length l)] := if_neg h
theorem gA_one (k : Nat) (v : Int) : gA k [v] = .own [k] 1 := rfl
theorem gH_one (k : Nat) (v : Int) : gH k [v] = [([k], arrI 1 [v])] := rfl
theorem gA_snoc (k : Nat) (l : List Int) (v : Int) : gA k (l ++ [v]) = .own [k] (l.length + 1) := by rw [gA_ne (by simp)]; simp
theorem gH_snoc (k : Nat) (l : List Int) (v : Int) : gH k (l ++ [v]) = [([k], arrI (l.length + 1) (l ++ [v]))] := by rw [gH_ne (by simp)]; simp
theorem app_fact {l : List Int} (h : (l.length + 1) * 8 ≤ 140737488351232) : ((l.length + 1) * 8 ≤ bound) = True := eq_true (by simp only [bound]; omega)
theorem app_fact0 : (8 ≤ bound) = True := eq_true (by decide)
theorem snoc_dig {l : List Int} {v : Int} (h : Dig l) (hv : 0 ≤ v ∧ v < 1000000000) : Dig (l ++ [v]) := Dig.append.2 ⟨h, Dig.cons.2 ⟨hv, Dig.nil⟩⟩
theorem snoc_val (l : List Int) (v : Int) : val (l ++ [v]) = val l + (1000000000 : Int) ^ l.length * v := by rw [val_append]; simp [val]
theorem hupdO_none (k : Key) : hupdO hp0 k none = hp0 := by
  funext j
  simp [hupdO, hp0]
/-- The row that is handed back. -/
def gR (l : List Int) : R := if l = [] then .d (.z true) else .own 1 l.length (l.map iv)
variable [Its]

theorem rNeg_spec {x : Int} (hx : nd x ≤ 1000000000000) : callX G n_gantryref04_Neg [encI x] = some (.d (encI (-x))) := by
  rw [callX_eq (cf := gantryref04_Neg) rfl]
  have hx' : (digs x.natAbs).length < 4611686018427387904 := Nat.lt_of_le_of_lt hx (by decide)
  have g : Hid (callX G n_gantryref04_normal [bv (!decide (x < 0)), dg (digs x.natAbs)] = some (.d (encI (-x)))) := by
    have hl : (digs x.natAbs).length < 4611686018427387904 := hx'
    have := normal_spec (!decide (x < 0)) (Rw.dg (digs x.natAbs)) hl (digs_dig _)
    rw [val_dabs] at this
    have e : sgn (!decide (x < 0)) (x.natAbs : Int) = -x := by
      by_cases h : x < 0
      · simp [sgn, h]; omega
      · simp [sgn, h]; omega
    rw [e] at this
    exact this
  have g' := g.out
  simp only [bv] at g'
  simp -implicitDefEqProofs (maxSteps := 10000000) only [gantryref04_Neg, encI_agg x, go_sem, stcells, ldcells, iv, bv, g', encI, reduceCtorEq, ↓reduceIte, Nat.reduceEqDiff]
theorem rCompare_spec {x y : Int} (hx : nd x ≤ 1000000000000) (hy : nd y ≤ 1000000000000) : callX G n_gantryref04_Compare [encI x, encI y] = some (.d (iv (Int.sign (x - y)))) := by
  rw [callX_eq (cf := gantryref04_Compare) rfl]
  have hx' : (digs x.natAbs).length ≤ 1000000000000 := hx
  have hy' : (digs y.natAbs).length ≤ 1000000000000 := hy
  have g0 := compared_spec (Rw.dg _) (Rw.dg _) (digs_dig x.natAbs) (digs_dig y.natAbs) (digs_top _) (digs_top _) (by omega) (by omega)
  have g1 := compared_spec (Rw.dg _) (Rw.dg _) (digs_dig y.natAbs) (digs_dig x.natAbs) (digs_top _) (digs_top _) (by omega) (by omega)
  rw [val_dabs, val_dabs] at g0 g1
  simp only [iv] at g0 g1
  by_cases h : x < 0 <;> by_cases h2 : y < 0
  · have e1 : decide (x < 0) = true := decide_eq_true h
    have e2 : decide (y < 0) = true := decide_eq_true h2
    have e3 : (y.natAbs : Int) - (x.natAbs : Int) = x - y := by omega
    have e4 : (true == true) = true := rfl
    rw [e3] at g1
    simp -implicitDefEqProofs (maxSteps := 10000000) only [gantryref04_Compare, encI, go_sem, stcells, ldcells, iv, bv, e1, e2, e4, g1, reduceCtorEq, ↓reduceIte, Nat.reduceEqDiff]
  · have e1 : decide (x < 0) = true := decide_eq_true h
    have e2 : decide (y < 0) = false := decide_eq_false h2
    have e3 : Int.sign (x - y) = -1 := Int.sign_eq_neg_one_of_neg (by omega)
    have e4 : (true == false) = false := rfl
    simp -implicitDefEqProofs (maxSteps := 10000000) only [gantryref04_Compare, encI, go_sem, stcells, ldcells, iv, bv, e1, e2, e3, e4, reduceCtorEq, ↓reduceIte, Nat.reduceEqDiff]
  · have e1 : decide (x < 0) = false := decide_eq_false h
    have e2 : decide (y < 0) = true := decide_eq_true h2
    have e3 : Int.sign (x - y) = 1 := Int.sign_eq_one_of_pos (by omega)
    have e4 : (false == true) = false := rfl
    simp -implicitDefEqProofs (maxSteps := 10000000) only [gantryref04_Compare, encI, go_sem, stcells, ldcells, iv, bv, e1, e2, e3, e4, reduceCtorEq, ↓reduceIte, Nat.reduceEqDiff]
  · have e1 : decide (x < 0) = false := decide_eq_false h
    have e2 : decide (y < 0) = false := decide_eq_false h2
    have e3 : (x.natAbs : Int) - (y.natAbs : Int) = x - y := by omega
    have e4 : (false == false) = true := rfl
    rw [e3] at g0
    simp -implicitDefEqProofs (maxSteps := 10000000) only [gantryref04_Compare, encI, go_sem, stcells, ldcells, iv, bv, e1, e2, e4, g0, reduceCtorEq, ↓reduceIte, Nat.reduceEqDiff]
section
variable (da db : D) (a b : List Int)
def rp_st (o : List Int) (c i : Int) : St := mkS [(0, .d da), (1, .d db), (5, gA 38 o), (6, ai c), (7, ai i)] (gH 38 o)
def rp_end (o : List Int) : St := mkS [(5, gA 38 o)] (gH 38 o)

theorem rp_ge {i : Nat} {l : List Int} (h : l.length ≤ i) : l.getD i 0 = 0 := by
  have _its : Its := inferInstance
  rw [List.getD_eq_getElem?_getD, List.getElem?_eq_none h]; rfl

theorem rp_stop (hra : Rw da a) (hrb : Rw db b) {o : List Int} {i : Nat} (h1 : a.length ≤ i) (h2 : b.length ≤ i) : X G gantryref04_plus_l0 (rp_st da db o 0 (i : Int)) = some (.x 0, rp_end o) := by
  have e1 : decide ((i : Int) < (a.length : Int)) = false := lt_f (by omega)
  have e2 : decide ((i : Int) < (b.length : Int)) = false := lt_f (by omega)
  have e3 : decide ((0 : Int) > 0) = false := rfl
  by_cases ho : o = []
  · subst ho
    simp -implicitDefEqProofs (maxSteps := 10000000) only [gantryref04_plus_l0, rp_st, rp_end, gA_nil, gH_nil, hupdO_none, go_sem, iv, bv, hra.len, hrb.len, e1, e2, e3, refsL_I, reduceCtorEq, ↓reduceIte, Nat.reduceEqDiff]
  · simp -implicitDefEqProofs (maxSteps := 10000000) only [gantryref04_plus_l0, rp_st, rp_end, gA_ne ho, gH_ne ho, go_sem, iv, bv, hra.len, hrb.len, e1, e2, e3, refsL_I, reduceCtorEq, ↓reduceIte, Nat.reduceEqDiff]

theorem rp_go (hra : Rw da a) (hrb : Rw db b) (ha : Dig a) (hb : Dig b) {o : List Int} {c : Int} {i : Nat} (hc : 0 ≤ c ∧ c ≤ 1) (hi : i < a.length ∨ i < b.length ∨ c > 0) (hil : i < 4611686018427387904) (hol : (o.length + 1) * 8 ≤ 140737488351232) :
    X G gantryref04_plus_l0 (rp_st da db o c (i : Int)) = some (.n, rp_st da db (o ++ [(a.getD i 0 + b.getD i 0 + c) % 1000000000]) ((a.getD i 0 + b.getD i 0 + c) / 1000000000) ((i + 1 : Nat) : Int)) := by
  obtain ⟨e1, e2, e3, e4, e5, e6, e7⟩ := add_ix (ha.getD i) (hb.getD i) hc
  have d1 := digit_spec hra (i := i)
  have d2 := digit_spec hrb (i := i)
  simp only [iv] at d1 d2
  have n1 := quo_pos (b := 1000000000) e3
  have n2 := rem_pos (b := 1000000000) e3
  have n3 : w64 ((i : Int) + 1) = ((i + 1 : Nat) : Int) := by rw [w64_id (by omega) (by omega)]; omega
  have f1 := app_fact hol
  have f2 := app_fact0
  generalize hv : (a.getD i 0 + b.getD i 0 + c) % 1000000000 = v at *
  generalize hq : (a.getD i 0 + b.getD i 0 + c) / 1000000000 = q at *
  have key : ∀ (t1 t2 t3 : Bool), (decide ((i : Int) < (a.length : Int)) = t1) → (decide ((i : Int) < (b.length : Int)) = t2) → (decide (c > 0) = t3) → (t1 || t2 || t3) = true → X G gantryref04_plus_l0 (rp_st da db o c (i : Int)) = some (.n, rp_st da db (o ++ [v]) q ((i + 1 : Nat) : Int)) := by
    intro t1 t2 t3 h1 h2 h3 h4
    by_cases ho : o = []
    · subst ho
      cases t1 <;> cases t2 <;> cases t3 <;> first
        | exact absurd h4 (by decide)
        | simp -implicitDefEqProofs (maxSteps := 10000000) only [gantryref04_plus_l0, rp_st, rp_end, gA_nil, gH_nil, hupdO_none, gA_one, gH_one, gA_snoc, gH_snoc, go_sem, src_row, iv, bv, hra.len, hrb.len, h1, h2, h3, d1, d2, e1, e2, e4, n1, n2, n3, f2, hv, hq, cellsI_one, D.one, allD, refsL_I, reduceCtorEq, ↓reduceIte, Nat.reduceEqDiff]
    · cases t1 <;> cases t2 <;> cases t3 <;> first
        | exact absurd h4 (by decide)
        | simp -implicitDefEqProofs (maxSteps := 10000000) only [gantryref04_plus_l0, rp_st, rp_end, gA_ne ho, gH_ne ho, gA_snoc, gH_snoc, go_sem, src_row, iv, bv, hra.len, hrb.len, h1, h2, h3, d1, d2, e1, e2, e4, n1, n2, n3, f1, f2, hv, hq, cellsI_snoc, cellsI_length, D.one, allD, refsL_I, reduceCtorEq, ↓reduceIte, Nat.reduceEqDiff]
  refine key _ _ _ rfl rfl rfl ?_
  simp only [Bool.or_eq_true, decide_eq_true_eq]
  omega

theorem rp_loop (hra : Rw da a) (hrb : Rw db b) (ha : Dig a) (hb : Dig b) (hl : (max a.length b.length + 2) * 8 ≤ 140737488351232) : ∀ (k i : Nat) (o : List Int) (c : Int), i + k = max a.length b.length + 1 → (0 ≤ c ∧ c ≤ 1) → (i = max a.length b.length + 1 → c = 0) → o.length = i → Dig o → val o + (1000000000 : Int) ^ i * c = val (a.take i) + val (b.take i) →
    ∃ o', X G (.loop gantryref04_plus_l0) (rp_st da db o c (i : Int)) = some (.x 0, rp_end o') ∧ Dig o' ∧ o'.length ≤ max a.length b.length + 1 ∧ val o' = val a + val b
  | 0, i, o, c, hi, hc, h0, ho, hd, hv => by
    have hc0 := h0 (by omega)
    subst hc0
    refine ⟨o, by rw [X_loop, rp_stop da db a b hra hrb (by omega) (by omega)]; rfl, hd, by omega, ?_⟩
    rw [Int.mul_zero, Int.add_zero, List.take_of_length_le (by omega), List.take_of_length_le (by omega)] at hv
    exact hv
  | k + 1, i, o, c, hi, hc, h0, ho, hd, hv => by
    by_cases hmore : i < a.length ∨ i < b.length ∨ c > 0
    · obtain ⟨_, _, _, _, e5, e6, e7⟩ := add_ix (ha.getD i) (hb.getD i) hc
      have hx := rp_go da db a b hra hrb ha hb hc hmore (by omega) (o := o) (by omega)
      have hlast : i + 1 = max a.length b.length + 1 → (a.getD i 0 + b.getD i 0 + c) / 1000000000 = 0 := by
        intro h
        rw [rp_ge (i := i) (l := a) (by omega), rp_ge (i := i) (l := b) (by omega)]
        omega
      obtain ⟨o', g1, g2⟩ := rp_loop hra hrb ha hb hl k (i + 1) (o ++ [(a.getD i 0 + b.getD i 0 + c) % 1000000000]) ((a.getD i 0 + b.getD i 0 + c) / 1000000000) (by omega) e5 hlast (by simp; omega) (snoc_dig hd e6) (by
        rw [snoc_val, ho, val_take_getD a, val_take_getD b, Int.pow_succ]
        generalize (a.getD i 0 + b.getD i 0 + c) % 1000000000 = R at *
        generalize (a.getD i 0 + b.getD i 0 + c) / 1000000000 = Q at *
        clear hx e5 e6 hlast
        grind)
      exact ⟨o', by rw [X_loop, hx]; exact g1, g2⟩
    · have hc0 : c = 0 := by omega
      subst hc0
      refine ⟨o, by rw [X_loop, rp_stop da db a b hra hrb (by omega) (by omega)]; rfl, hd, by omega, ?_⟩
      rw [Int.mul_zero, Int.add_zero, List.take_of_length_le (by omega), List.take_of_length_le (by omega)] at hv
      exact hv
end

theorem rplus_spec {da db : D} {a b : List Int} (hra : Rw da a) (hrb : Rw db b) (ha : Dig a) (hb : Dig b) (hl : (max a.length b.length + 2) * 8 ≤ 140737488351232) :
    ∃ out, callX G n_gantryref04_plus [da, db] = some (gR out) ∧ out.length ≤ max a.length b.length + 1 ∧ Dig out ∧ val out = val a + val b := by
  obtain ⟨o, h1, h2, h3, h4⟩ := rp_loop da db a b hra hrb ha hb hl (max a.length b.length + 1) 0 [] 0 (by omega) (by omega) (fun h => rfl) rfl .nil (by simp [val])
  refine ⟨o, ?_, h3, h2, h4⟩
  rw [callX_eq (cf := gantryref04_plus) rfl]
  by_cases ho : o = []
  · subst ho
    simp only [rp_st, rp_end, gA_nil, gH_nil, hupdO_none, go_sem, nc0] at h1
    simp -implicitDefEqProofs (maxSteps := 10000000) only [gantryref04_plus, gR, hupdO_none, go_sem, iv, bv, h1, refsL_I, reduceCtorEq, ↓reduceIte, Nat.reduceEqDiff]
  · simp only [rp_st, rp_end, gA_nil, gH_nil, hupdO_none, gA_ne ho, gH_ne ho, go_sem, nc0] at h1
    simp -implicitDefEqProofs (maxSteps := 10000000) only [gantryref04_plus, gR, ho, hupdO_none, go_sem, iv, bv, h1, refsL_I, allD_I, reduceCtorEq, ↓reduceIte, Nat.reduceEqDiff]
end Go.AM

/- ref01: Around, At; digits tell numbers apart. -/
namespace Go.AM
open Go Go.RowKit

theorem i64_wf {n : Int} (h : (Lit.int .i64 n).wf = true) : I64 n := by
  simp only [Lit.wf, Bool.and_eq_true, decide_eq_true_eq] at h
  have h1 : IntKind.min .i64 = -9223372036854775808 := by decide
  have h2 : IntKind.max .i64 = 9223372036854775807 := by decide
  rw [h1, h2] at h
  exact ⟨by omega, by omega⟩
theorem rw_dg {d : D} {l : List Int} (h : Dg d l) : Rw d l := by
  rcases h with ⟨rfl, rfl⟩ | h
  · exact .inl rfl
  · exact .inr h
def arnd (n m : Int) : Int := (if n < 0 then -(n + 1) else n) % m
theorem arnd_b {n m : Int} (hm : 0 < m) : 0 ≤ arnd n m ∧ arnd n m < m := ⟨Int.emod_nonneg _ (by omega), Int.emod_lt_of_pos _ hm⟩
def atr (l : List Int) (i m : Int) : Int := if i < 0 ∨ i ≥ l.length then 0 else arnd (l.getD i.toNat 0) m
theorem atr_b (l : List Int) (i : Int) {m : Int} (hm : 0 < m) : 0 ≤ atr l i m ∧ atr l i m < m := by
  unfold atr
  split
  · omega
  · exact arnd_b hm

variable [Its]

theorem around_spec {n m : Int} (hn : I64 n) (hm : 0 < m) : callX G n_gantryref01_Around [iv n, iv m] = some (.d (iv (arnd n m))) := by
  rw [callX_eq (cf := gantryref01_Around) rfl]
  obtain ⟨h1, h2⟩ := hn
  have e2 := eqz_f (b := m) (by omega)
  unfold arnd
  by_cases h : n < 0
  · have e1 : decide (n < 0) = true := decide_eq_true h
    have e3 : w64 (n + 1) = n + 1 := w64_id (by omega) (by omega)
    have e4 : w64 (0 - (n + 1)) = -(n + 1) := by rw [w64_id (by omega) (by omega)]; omega
    have e5 := rem_pos (a := -(n + 1)) (b := m) (by omega)
    rw [if_pos h]
    simp -implicitDefEqProofs (maxSteps := 10000000) only [gantryref01_Around, go_sem, iv, bv, e1, e2, e3, e4, e5, reduceCtorEq, ↓reduceIte, Nat.reduceEqDiff]
  · have e1 : decide (n < 0) = false := decide_eq_false h
    have e5 := rem_pos (a := n) (b := m) (by omega)
    rw [if_neg h]
    simp -implicitDefEqProofs (maxSteps := 10000000) only [gantryref01_Around, go_sem, iv, bv, e1, e2, e5, reduceCtorEq, ↓reduceIte, Nat.reduceEqDiff]
theorem at_spec {d : D} {l : List Int} {i m : Int} (hr : Rw d l) (hl : ∀ n ∈ l, I64 n) (hm : 0 < m) : callX G n_gantryref01_At [d, iv i, iv m] = some (.d (iv (atr l i m))) := by
  rw [callX_eq (cf := gantryref01_At) rfl]
  have ll := hr.len
  unfold atr
  by_cases h : i < 0
  · have e1 : decide (i < 0) = true := decide_eq_true h
    rw [if_pos (.inl h)]
    simp -implicitDefEqProofs (maxSteps := 10000000) only [gantryref01_At, go_sem, iv, bv, e1, reduceCtorEq, ↓reduceIte, Nat.reduceEqDiff]
  · have e1 : decide (i < 0) = false := decide_eq_false h
    by_cases h2 : i ≥ l.length
    · have e2 : decide (i ≥ (l.length : Int)) = true := decide_eq_true h2
      rw [if_pos (.inr h2)]
      simp -implicitDefEqProofs (maxSteps := 10000000) only [gantryref01_At, go_sem, iv, bv, e1, e2, ll, reduceCtorEq, ↓reduceIte, Nat.reduceEqDiff]
    · have e2 : decide (i ≥ (l.length : Int)) = false := decide_eq_false h2
      rw [if_neg (by omega)]
      obtain ⟨j, rfl⟩ : ∃ j : Nat, i = (j : Int) := ⟨i.toNat, by omega⟩
      rw [Int.toNat_natCast]
      have hj : j < l.length := by omega
      have e3 := hr.ixn (j := j) hj
      have e4 := fun hp => ldv hp l (j := j) hj
      have hb : I64 (l.getD j 0) := hl _ (by rw [List.getD_eq_getElem?_getD, List.getElem?_eq_getElem hj]; exact List.getElem_mem hj)
      have g := around_spec hb hm
      simp only [iv] at g
      simp -implicitDefEqProofs (maxSteps := 10000000) only [gantryref01_At, go_sem, iv, bv, e1, e2, e3, e4, ll, g, reduceCtorEq, ↓reduceIte, Nat.reduceEqDiff]
end Go.AM

/- gantryref04: minus, Add, Of -/
namespace Go.AM
open Go Go.RowKit

theorem retA_gR (k : Key) (h : Hp) (l : List Int) : retA k h false true (gR l) = some (.d (dg l), h) := by
  by_cases hl : l = []
  · subst hl; rfl
  · rw [gR, if_neg hl, dg_ne hl]; rfl
theorem sub_arith {x y c : Int} (hx : 0 ≤ x ∧ x < 1000000000) (hy : 0 ≤ y ∧ y < 1000000000) (hc : 0 ≤ c ∧ c ≤ 1) :
    w64 (x - y) = x - y ∧ w64 (x - y - c) = x - y - c ∧ (x - y - c < 0 → w64 (x - y - c + 1000000000) = x - y - c + 1000000000 ∧ 0 ≤ x - y - c + 1000000000 ∧ x - y - c + 1000000000 < 1000000000) ∧ (¬ x - y - c < 0 → 0 ≤ x - y - c ∧ x - y - c < 1000000000) :=
  ⟨w64_id (by omega) (by omega), w64_id (by omega) (by omega), fun _ => ⟨w64_id (by omega) (by omega), by omega, by omega⟩, fun _ => ⟨by omega, by omega⟩⟩
variable [Its]

section
variable (da db : D) (a b : List Int)
def rm_st (o : List Int) (c i : Int) : St := mkS [(0, .d da), (1, .d db), (5, gA 32 o), (6, ai c), (7, ai i)] (gH 32 o)
def rm_end (o : List Int) : St := mkS [(5, gA 32 o)] (gH 32 o)

theorem rm_stop (hra : Rw da a) {o : List Int} (c : Int) : X G gantryref04_minus_l0 (rm_st da db o c (a.length : Int)) = some (.x 0, rm_end o) := by
  have e1 : decide ((a.length : Int) < (a.length : Int)) = false := lt_f (by omega)
  by_cases ho : o = []
  · subst ho
    simp -implicitDefEqProofs (maxSteps := 10000000) only [gantryref04_minus_l0, rm_st, rm_end, gA_nil, gH_nil, hupdO_none, go_sem, iv, bv, hra.len, e1, refsL_I, reduceCtorEq, ↓reduceIte, Nat.reduceEqDiff]
  · simp -implicitDefEqProofs (maxSteps := 10000000) only [gantryref04_minus_l0, rm_st, rm_end, gA_ne ho, gH_ne ho, go_sem, iv, bv, hra.len, e1, refsL_I, reduceCtorEq, ↓reduceIte, Nat.reduceEqDiff]

theorem rm_go (hra : Rw da a) (hrb : Rw db b) (ha : Dig a) (hb : Dig b) {o : List Int} {c : Int} {i : Nat} (hc : 0 ≤ c ∧ c ≤ 1) (hi : i < a.length) (hil : i < 4611686018427387904) (hol : (o.length + 1) * 8 ≤ 140737488351232) :
    ∃ v c', (0 ≤ v ∧ v < 1000000000) ∧ (0 ≤ c' ∧ c' ≤ 1) ∧ v = a.getD i 0 - b.getD i 0 - c + 1000000000 * c' ∧ X G gantryref04_minus_l0 (rm_st da db o c (i : Int)) = some (.n, rm_st da db (o ++ [v]) c' ((i + 1 : Nat) : Int)) := by
  obtain ⟨e1, e2, e3, e4⟩ := sub_arith (ha.getD i) (hb.getD i) hc
  have d2 := digit_spec hrb (i := i)
  simp only [iv] at d2
  have n1 := hra.ixn (j := i) hi
  have n2 := fun hp => ldv hp a (j := i) hi
  have n3 : w64 ((i : Int) + 1) = ((i + 1 : Nat) : Int) := by rw [w64_id (by omega) (by omega)]; omega
  have n4 : decide ((i : Int) < (a.length : Int)) = true := lt_t (by omega)
  have f1 := app_fact hol
  have f2 := app_fact0
  obtain ⟨w, hw⟩ : ∃ w, a.getD i 0 - b.getD i 0 - c = w := ⟨_, rfl⟩
  rw [hw] at e2 e3 e4 ⊢
  by_cases h0 : w < 0
  · obtain ⟨e5, e6⟩ := e3 h0
    have e7 : decide (w < 0) = true := lt_t h0
    refine ⟨w + 1000000000, 1, e6, by omega, by omega, ?_⟩
    by_cases ho : o = []
    · subst ho
      simp -implicitDefEqProofs (maxSteps := 10000000) only [gantryref04_minus_l0, rm_st, gA_nil, gH_nil, hupdO_none, gA_one, gH_one, go_sem, src_row, iv, bv, hra.len, n1, n2, n3, n4, d2, e1, hw, e2, e5, e7, f2, cellsI_one, D.one, allD, refsL_I, reduceCtorEq, ↓reduceIte, Nat.reduceEqDiff]
    · simp -implicitDefEqProofs (maxSteps := 10000000) only [gantryref04_minus_l0, rm_st, gA_ne ho, gH_ne ho, gA_snoc, gH_snoc, go_sem, src_row, iv, bv, hra.len, n1, n2, n3, n4, d2, e1, hw, e2, e5, e7, f1, f2, cellsI_snoc, cellsI_length, D.one, allD, refsL_I, reduceCtorEq, ↓reduceIte, Nat.reduceEqDiff]
  · have e5 := e4 h0
    have e7 : decide (w < 0) = false := lt_f h0
    refine ⟨w, 0, e5, by omega, by omega, ?_⟩
    by_cases ho : o = []
    · subst ho
      simp -implicitDefEqProofs (maxSteps := 10000000) only [gantryref04_minus_l0, rm_st, gA_nil, gH_nil, hupdO_none, gA_one, gH_one, go_sem, src_row, iv, bv, hra.len, n1, n2, n3, n4, d2, e1, hw, e2, e7, f2, cellsI_one, D.one, allD, refsL_I, reduceCtorEq, ↓reduceIte, Nat.reduceEqDiff]
    · simp -implicitDefEqProofs (maxSteps := 10000000) only [gantryref04_minus_l0, rm_st, gA_ne ho, gH_ne ho, gA_snoc, gH_snoc, go_sem, src_row, iv, bv, hra.len, n1, n2, n3, n4, d2, e1, hw, e2, e7, f1, f2, cellsI_snoc, cellsI_length, D.one, allD, refsL_I, reduceCtorEq, ↓reduceIte, Nat.reduceEqDiff]

theorem rm_loop (hra : Rw da a) (hrb : Rw db b) (ha : Dig a) (hb : Dig b) (hl : (a.length + 1) * 8 ≤ 140737488351232) : ∀ (k i : Nat) (o : List Int) (c : Int), i + k = a.length → (0 ≤ c ∧ c ≤ 1) → o.length = i → Dig o → val o - (1000000000 : Int) ^ i * c = val (a.take i) - val (b.take i) →
    ∃ o' c', X G (.loop gantryref04_minus_l0) (rm_st da db o c (i : Int)) = some (.x 0, rm_end o') ∧ Dig o' ∧ o'.length = a.length ∧ (0 ≤ c' ∧ c' ≤ 1) ∧ val o' - (1000000000 : Int) ^ a.length * c' = val a - val (b.take a.length)
  | 0, i, o, c, hi, hc, ho, hd, hv => by
    obtain rfl : i = a.length := by omega
    refine ⟨o, c, by rw [X_loop, rm_stop da db a hra c]; rfl, hd, ho, hc, ?_⟩
    rw [hv, List.take_length]
  | k + 1, i, o, c, hi, hc, ho, hd, hv => by
    obtain ⟨v, c', h1, h2, h3, hx⟩ := rm_go da db a b hra hrb ha hb hc (i := i) (o := o) (by omega) (by omega) (by omega)
    obtain ⟨o', c2, g1, g2⟩ := rm_loop hra hrb ha hb hl k (i + 1) (o ++ [v]) c' (by omega) h2 (by simp; omega) (snoc_dig hd h1) (by
      rw [snoc_val, ho, val_take_getD a, val_take_getD b, Int.pow_succ, h3]
      clear hx h1 h2 h3
      grind)
    exact ⟨o', c2, by rw [X_loop, hx]; exact g1, g2⟩
end

theorem rminus_spec {da db : D} {a b : List Int} (hra : Rw da a) (hrb : Rw db b) (ha : Dig a) (hb : Dig b) (hl : (a.length + 1) * 8 ≤ 140737488351232) (hbl : b.length ≤ a.length) (hle : val b ≤ val a) :
    ∃ out, callX G n_gantryref04_minus [da, db] = some (gR out) ∧ out.length = a.length ∧ Dig out ∧ val out = val a - val b := by
  obtain ⟨o, c, h1, h2, h3, h4, h5⟩ := rm_loop da db a b hra hrb ha hb hl a.length 0 [] 0 (by omega) (by omega) rfl .nil (by simp [val])
  rw [List.take_of_length_le hbl] at h5
  have hc : c = 0 := by
    rcases Int.lt_or_le 0 c with h | h
    · exfalso
      have e1 : c = 1 := by omega
      subst e1
      have e2 := val_lt h2
      rw [h3] at e2
      rw [Int.mul_one] at h5
      generalize (1000000000 : Int) ^ a.length = x at *
      omega
    · omega
  subst hc
  rw [Int.mul_zero, Int.sub_zero] at h5
  refine ⟨o, ?_, h3, h2, h5⟩
  rw [callX_eq (cf := gantryref04_minus) rfl]
  by_cases ho : o = []
  · subst ho
    simp only [rm_st, rm_end, gA_nil, gH_nil, go_sem, nc0] at h1
    simp -implicitDefEqProofs (maxSteps := 10000000) only [gantryref04_minus, gR, hupdO_none, go_sem, iv, bv, h1, refsL_I, reduceCtorEq, ↓reduceIte, Nat.reduceEqDiff]
  · simp only [rm_st, rm_end, gA_nil, gH_nil, gA_ne ho, gH_ne ho, go_sem, nc0] at h1
    simp -implicitDefEqProofs (maxSteps := 10000000) only [gantryref04_minus, gR, ho, hupdO_none, go_sem, iv, bv, h1, refsL_I, allD_I, reduceCtorEq, ↓reduceIte, Nat.reduceEqDiff]

theorem rAdd_spec {x y : Int} (hx : nd x ≤ 1000000000000) (hy : nd y ≤ 1000000000000) : callX G n_gantryref04_Add [encI x, encI y] = some (.d (encI (x + y))) := by
  rw [callX_eq (cf := gantryref04_Add) rfl]
  have hx' : (digs x.natAbs).length ≤ 1000000000000 := hx
  have hy' : (digs y.natAbs).length ≤ 1000000000000 := hy
  have dx := digs_dig x.natAbs
  have dy := digs_dig y.natAbs
  have vx := val_dabs x
  have vy := val_dabs y
  by_cases hs : decide (x < 0) = decide (y < 0)
  · obtain ⟨out, g1, g2, g3, g4⟩ := rplus_spec (Rw.dg _) (Rw.dg _) dx dy (by omega)
    have g5 := normal_spec (decide (x < 0)) (Rw.dg out) (by omega) g3
    have e1 : (decide (x < 0) == decide (y < 0)) = true := by rw [hs]; simp
    have e2 : sgn (decide (x < 0)) (val out) = x + y := by
      rw [g4, vx, vy]
      by_cases h : x < 0
      · have h2 : y < 0 := by simpa [h] using hs
        simp [sgn, h]; omega
      · have h2 : ¬ y < 0 := by simpa [h] using hs
        simp [sgn, h]; omega
    rw [e2] at g5
    simp only [bv] at g5
    simp -implicitDefEqProofs (maxSteps := 10000000) only [gantryref04_Add, encI, go_sem, retA_gR, stcells, ldcells, iv, bv, e1, g1, g5, reduceCtorEq, ↓reduceIte, Nat.reduceEqDiff]
  · have e1 : (decide (x < 0) == decide (y < 0)) = false := by simpa using hs
    have g0 := compared_spec (Rw.dg _) (Rw.dg _) dx dy (digs_top _) (digs_top _) (by omega) (by omega)
    rw [vx, vy] at g0
    simp only [iv] at g0
    by_cases hlt : x.natAbs < y.natAbs
    · have hsg : Int.sign ((x.natAbs : Int) - (y.natAbs : Int)) = -1 := Int.sign_eq_neg_one_of_neg (by omega)
      rw [hsg] at g0
      obtain ⟨out, g1, g2, g3, g4⟩ := rminus_spec (Rw.dg _) (Rw.dg _) dy dx (by omega) (digs_len_mono (by omega)) (by rw [vx, vy]; omega)
      have g5 := normal_spec (decide (y < 0)) (Rw.dg out) (by omega) g3
      have e2 : sgn (decide (y < 0)) (val out) = x + y := by
        rw [g4, vx, vy]
        by_cases h : y < 0
        · have h2 : ¬ x < 0 := by intro h3; exact hs (by simp [h, h3])
          simp [sgn, h]; omega
        · have h2 : x < 0 := by
            rcases Int.lt_or_le x 0 with h3 | h3
            · exact h3
            · exact absurd (by simp [h, Int.not_lt.2 h3]) hs
          simp [sgn, h]; omega
      rw [e2] at g5
      simp only [bv] at g5
      have e3 : decide ((-1 : Int) < 0) = true := rfl
      simp -implicitDefEqProofs (maxSteps := 10000000) only [gantryref04_Add, encI, go_sem, retA_gR, stcells, ldcells, iv, bv, e1, e3, g0, g1, g5, reduceCtorEq, ↓reduceIte, Nat.reduceEqDiff]
    · have e3 : decide (Int.sign ((x.natAbs : Int) - (y.natAbs : Int)) < 0) = false := by
        apply lt_f
        rcases Int.lt_or_le 0 ((x.natAbs : Int) - (y.natAbs : Int)) with h | h
        · rw [Int.sign_eq_one_of_pos h]; omega
        · rw [show (x.natAbs : Int) - (y.natAbs : Int) = 0 by omega]; exact Int.lt_irrefl 0
      obtain ⟨out, g1, g2, g3, g4⟩ := rminus_spec (Rw.dg _) (Rw.dg _) dx dy (by omega) (digs_len_mono (by omega)) (by rw [vx, vy]; omega)
      have g5 := normal_spec (decide (x < 0)) (Rw.dg out) (by omega) g3
      have e2 : sgn (decide (x < 0)) (val out) = x + y := by
        rw [g4, vx, vy]
        by_cases h : x < 0
        · have h2 : ¬ y < 0 := by intro h3; exact hs (by simp [h, h3])
          simp [sgn, h]; omega
        · have h2 : y < 0 := by
            rcases Int.lt_or_le y 0 with h3 | h3
            · exact h3
            · exact absurd (by simp [h, Int.not_lt.2 h3]) hs
          simp [sgn, h]; omega
      rw [e2] at g5
      simp only [bv] at g5
      simp -implicitDefEqProofs (maxSteps := 10000000) only [gantryref04_Add, encI, go_sem, retA_gR, stcells, ldcells, iv, bv, e1, e3, g0, g1, g5, reduceCtorEq, ↓reduceIte, Nat.reduceEqDiff]
end Go.AM

/- gantryref04: Of, Mul -/
namespace Go.AM
open Go Go.RowKit

theorem of_arith (neg : Bool) {m : Nat} (hm : m ≤ 9223372036854775808) (hp : neg = false → m < 9223372036854775808) :
    (sgn neg (m : Int)).tmod 1000000000 = sgn neg ((m % 1000000000 : Nat) : Int) ∧ w64 ((sgn neg (m : Int)).tdiv 1000000000) = sgn neg ((m / 1000000000 : Nat) : Int) := by
  have e1 : (m : Int).tmod 1000000000 = ((m % 1000000000 : Nat) : Int) := by rw [Int.tmod_eq_emod_of_nonneg (by omega)]; rfl
  have e2 : (m : Int).tdiv 1000000000 = ((m / 1000000000 : Nat) : Int) := by rw [Int.tdiv_eq_ediv_of_nonneg (by omega)]; rfl
  cases neg
  · simp only [sgn, Bool.false_eq_true, if_false]
    rw [e1, e2]
    exact ⟨rfl, w64_id (by omega) (by omega)⟩
  · simp only [sgn, if_true]
    rw [Int.neg_tmod, Int.neg_tdiv, e1, e2]
    exact ⟨rfl, w64_id (by omega) (by omega)⟩
variable [Its]

section
variable (neg : Bool)
def rof_st (d : List Int) (n : Int) : St := mkS [(0, ai n), (2, .ptr [2] 0), (3, gA 19 d), (4, ab neg)] (([2], box0) :: gH 19 d)
def rof_end (d : List Int) : St := mkS [(2, .ptr [2] 0), (3, gA 19 d), (4, ab neg)] (([2], box0) :: gH 19 d)
theorem rof_stop {d : List Int} : X G gantryref04_Of_l0 (rof_st neg d 0) = some (.x 0, rof_end neg d) := by
  have e1 : ((0 : Int) != 0) = false := rfl
  by_cases ho : d = []
  · subst ho
    simp -implicitDefEqProofs (maxSteps := 10000000) only [gantryref04_Of_l0, rof_st, rof_end, gA_nil, gH_nil, hupdO_none, box0, go_sem, iv, bv, e1, refsL_I, reduceCtorEq, ↓reduceIte, Nat.reduceEqDiff]
  · simp -implicitDefEqProofs (maxSteps := 10000000) only [gantryref04_Of_l0, rof_st, rof_end, gA_ne ho, gH_ne ho, box0, go_sem, iv, bv, e1, refsL_I, reduceCtorEq, ↓reduceIte, Nat.reduceEqDiff]

theorem rof_go {d : List Int} {m : Nat} (hm : m ≤ 9223372036854775808) (hp : neg = false → m < 9223372036854775808) (h0 : m ≠ 0) (hd : (d.length + 1) * 8 ≤ 140737488351232) :
    X G gantryref04_Of_l0 (rof_st neg d (sgn neg (m : Int))) = some (.n, rof_st neg (d ++ [((m % 1000000000 : Nat) : Int)]) (sgn neg ((m / 1000000000 : Nat) : Int))) := by
  obtain ⟨e1, e2⟩ := of_arith neg hm hp
  have e3 : (sgn neg (m : Int) != 0) = true := bne_t (by cases neg <;> simp [sgn] <;> omega)
  have f1 := app_fact hd
  have f2 := app_fact0
  by_cases hk : neg = true ∧ m % 1000000000 ≠ 0
  · obtain ⟨rfl, hk⟩ := hk
    have e4 : decide (sgn true ((m % 1000000000 : Nat) : Int) < 0) = true := lt_t (by simp only [sgn, if_true]; omega)
    have e5 : w64 (0 - sgn true ((m % 1000000000 : Nat) : Int)) = ((m % 1000000000 : Nat) : Int) := by
      rw [w64_id (by simp only [sgn, if_true]; omega) (by simp only [sgn, if_true]; omega)]
      simp only [sgn, if_true]; omega
    generalize hv : ((m % 1000000000 : Nat) : Int) = v at *
    by_cases ho : d = []
    · subst ho
      simp -implicitDefEqProofs (maxSteps := 10000000) only [gantryref04_Of_l0, rof_st, gA_nil, gH_nil, hupdO_none, gA_one, gH_one, box0, go_sem, src_row, iv, bv, e1, e2, e3, e4, e5, f2, cellsI_one, D.one, allD, refsL_I, reduceCtorEq, ↓reduceIte, Nat.reduceEqDiff]
    · simp -implicitDefEqProofs (maxSteps := 10000000) only [gantryref04_Of_l0, rof_st, gA_ne ho, gH_ne ho, gA_snoc, gH_snoc, box0, go_sem, src_row, iv, bv, e1, e2, e3, e4, e5, f1, f2, cellsI_snoc, cellsI_length, D.one, allD, refsL_I, reduceCtorEq, ↓reduceIte, Nat.reduceEqDiff]
  · have e6 : sgn neg ((m % 1000000000 : Nat) : Int) = ((m % 1000000000 : Nat) : Int) := by
      cases neg
      · rfl
      · have : m % 1000000000 = 0 := Classical.byContradiction fun h => hk ⟨rfl, h⟩
        rw [this]; rfl
    rw [e6] at e1
    have e4 : decide (((m % 1000000000 : Nat) : Int) < 0) = false := lt_f (by omega)
    generalize hv : ((m % 1000000000 : Nat) : Int) = v at *
    by_cases ho : d = []
    · subst ho
      simp -implicitDefEqProofs (maxSteps := 10000000) only [gantryref04_Of_l0, rof_st, gA_nil, gH_nil, hupdO_none, gA_one, gH_one, box0, go_sem, src_row, iv, bv, e1, e2, e3, e4, f2, cellsI_one, D.one, allD, refsL_I, reduceCtorEq, ↓reduceIte, Nat.reduceEqDiff]
    · simp -implicitDefEqProofs (maxSteps := 10000000) only [gantryref04_Of_l0, rof_st, gA_ne ho, gH_ne ho, gA_snoc, gH_snoc, box0, go_sem, src_row, iv, bv, e1, e2, e3, e4, f1, f2, cellsI_snoc, cellsI_length, D.one, allD, refsL_I, reduceCtorEq, ↓reduceIte, Nat.reduceEqDiff]

theorem rof_loop : ∀ (m : Nat) (d : List Int), m ≤ 9223372036854775808 → (neg = false → m < 9223372036854775808) → d.length + (digs m).length ≤ 3 →
    X G (.loop gantryref04_Of_l0) (rof_st neg d (sgn neg (m : Int))) = some (.x 0, rof_end neg (d ++ digs m)) := by
  intro m
  induction m using Nat.strongRecOn with
  | _ m ih =>
  intro d hm hp hl
  rw [X_loop]
  by_cases h0 : m = 0
  · subst h0
    have e : sgn neg ((0 : Nat) : Int) = 0 := by cases neg <;> rfl
    rw [e, rof_stop, digs_zero, List.append_nil]; rfl
  · have hd := digs_pos (Nat.pos_of_ne_zero h0)
    rw [hd, List.length_cons] at hl
    rw [rof_go neg hm hp h0 (by omega), Option.bind_some, if_pos rfl]
    have := ih (m / 1000000000) (Nat.div_lt_self (Nat.pos_of_ne_zero h0) (by omega)) (d ++ [((m % 1000000000 : Nat) : Int)]) (by omega) (fun h => by have := hp h; omega) (by simp; omega)
    rw [hd]
    rw [this, List.append_assoc]
    rfl
end

theorem rOf_spec {n : Int} (h : I64 n) : callX G n_gantryref04_Of [iv n] = some (.d (encI n)) := by
  obtain ⟨h1, h2⟩ := h
  rw [callX_eq (cf := gantryref04_Of) rfl]
  have hsg : sgn (decide (n < 0)) (n.natAbs : Int) = n := by
    by_cases h : n < 0
    · simp [sgn, h]; omega
    · simp [sgn, h]; omega
  have hnd : (digs n.natAbs).length ≤ 3 := nd_i64 ⟨h1, h2⟩
  have hl := rof_loop (decide (n < 0)) n.natAbs [] (by omega) (fun h => by have : ¬ n < 0 := of_decide_eq_false h; omega) (by simpa using hnd)
  rw [hsg, List.nil_append] at hl
  have hn := normal_spec (decide (n < 0)) (Rw.dg (digs n.natAbs)) (by omega) (digs_dig _)
  rw [val_dabs, hsg] at hn
  simp only [bv] at hn
  by_cases h0 : digs n.natAbs = []
  · rw [h0] at hl hn
    simp only [rof_st, rof_end, gA_nil, gH_nil, box0, go_sem] at hl
    simp only [dg_nil] at hn
    simp -implicitDefEqProofs (maxSteps := 10000000) only [gantryref04_Of, encI, frzSt, hupdO_none, go_sem, stcells, ldcells, iv, bv, hl, hn, reduceCtorEq, ↓reduceIte, Nat.reduceEqDiff]
  · simp only [rof_st, rof_end, gA_nil, gH_nil, gA_ne h0, gH_ne h0, box0, go_sem] at hl
    rw [dg_ne h0] at hn
    simp -implicitDefEqProofs (maxSteps := 10000000) only [gantryref04_Of, encI, frzSt, hupdO_none, go_sem, stcells, ldcells, iv, bv, hl, hn, allD_I, refsL_I, reduceCtorEq, ↓reduceIte, Nat.reduceEqDiff]
end Go.AM

/- gantryref04: Mul -/
namespace Go.AM
open Go Go.RowKit

theorem rmul_w {o a b c : Int} (ho : 0 ≤ o ∧ o < 1000000000) (ha : 0 ≤ a ∧ a < 1000000000) (hb : 0 ≤ b ∧ b < 1000000000) (hc : 0 ≤ c ∧ c < 1000000000) :
    w64 (a * b) = a * b ∧ w64 (o + a * b) = o + a * b ∧ w64 (o + a * b + c) = o + a * b + c ∧ 0 ≤ o + a * b + c ∧ w64 ((o + a * b + c) / 1000000000) = (o + a * b + c) / 1000000000 ∧
    (0 ≤ (o + a * b + c) / 1000000000 ∧ (o + a * b + c) / 1000000000 < 1000000000) ∧ (0 ≤ (o + a * b + c) % 1000000000 ∧ (o + a * b + c) % 1000000000 < 1000000000) ∧ (o + a * b + c) % 1000000000 + 1000000000 * ((o + a * b + c) / 1000000000) = o + a * b + c := by
  obtain ⟨m1, m2, _⟩ := kn_sub (u := 0) (c := 0) (by omega) ha hb (by omega)
  generalize a * b = x at *
  refine ⟨w64_id (by omega) (by omega), w64_id (by omega) (by omega), w64_id (by omega) (by omega), by omega, w64_id (by omega) (by omega), by omega, by omega, by omega⟩
theorem rmul_ix {i k n N : Nat} (h : i + k < N) (hN : N < 4611686018427387904) : w64 ((i : Int) + (k : Int)) = ((i + k : Nat) : Int) ∧ ((0 : Int) ≤ ((i + k : Nat) : Int) ∧ ((i + k : Nat) : Int) < ((N : Nat) : Int)) ∧ w64 ((k : Int) + 1) = ((k + 1 : Nat) : Int) ∧ w64 ((i : Int) + 1) = ((i + 1 : Nat) : Int) := by
  refine ⟨?_, by omega, ?_, ?_⟩ <;> rw [w64_id (by omega) (by omega)] <;> omega
def bxI (neg : Bool) (d : D) : Obj := ⟨0, 0, [.d (.v (.bool neg)), .d d], false⟩
variable [Its]

section
variable (na nb : Bool) (da db : D) (a b : List Int) (N : Nat)
def rx_st (i : Int) (o : List Int) (c k : Int) : St := mkS [(2, .ptr [2] 0), (3, .ptr [3] 0), (4, .ptr [4] 0), (5, .own [17] N), (6, ai i), (7, ai c), (8, ai k)] [([2], bxI na da), ([3], bxI nb db), ([4], box0), ([17], arrI N o)]
def rx_end (i : Int) (o : List Int) (c : Int) : St := mkS [(2, .ptr [2] 0), (3, .ptr [3] 0), (4, .ptr [4] 0), (5, .own [17] N), (6, ai i), (7, ai c)] [([2], bxI na da), ([3], bxI nb db), ([4], box0), ([17], arrI N o)]
def ry_st (i : Int) (o : List Int) : St := mkS [(2, .ptr [2] 0), (3, .ptr [3] 0), (4, .ptr [4] 0), (5, .own [17] N), (6, ai i)] [([2], bxI na da), ([3], bxI nb db), ([4], box0), ([17], arrI N o)]
def ry_end (o : List Int) : St := mkS [(2, .ptr [2] 0), (3, .ptr [3] 0), (4, .ptr [4] 0), (5, .own [17] N)] [([2], bxI na da), ([3], bxI nb db), ([4], box0), ([17], arrI N o)]

theorem rx_stop (hrb : Rw db b) {i : Int} {o : List Int} {c : Int} : X G gantryref04_Mul_l0 (rx_st na nb da db N i o c (b.length : Int)) = some (.x 2, rx_end na nb da db N i o c) := by
  have e1 : decide ((b.length : Int) < (b.length : Int)) = false := lt_f (by omega)
  simp -implicitDefEqProofs (maxSteps := 10000000) only [gantryref04_Mul_l0, rx_st, rx_end, bxI, box0, go_sem, ldcells, iv, bv, hrb.len, e1, refsL_I, reduceCtorEq, ↓reduceIte, Nat.reduceEqDiff]
theorem rx_go (hra : Rw da a) (hrb : Rw db b) (ha : Dig a) (hb : Dig b) {o : List Int} (ho : Dig o) (hoN : o.length = N) (hN : N < 4611686018427387904) {c : Int} (hc : 0 ≤ c ∧ c < 1000000000) {i k : Nat} (hi : i < a.length) (hk : k < b.length) (hik : i + k < N) :
    X G gantryref04_Mul_l0 (rx_st na nb da db N (i : Int) o c (k : Int)) = some (.n, rx_st na nb da db N (i : Int) (o.set (i + k) ((o.getD (i + k) 0 + a.getD i 0 * b.getD k 0 + c) % 1000000000)) ((o.getD (i + k) 0 + a.getD i 0 * b.getD k 0 + c) / 1000000000) ((k + 1 : Nat) : Int)) := by
  obtain ⟨e1, e2, e3, e4, e5, _⟩ := rmul_w (ho.getD (i + k)) (ha.getD i) (hb.getD k) hc
  obtain ⟨i1, i2, i3, _⟩ := rmul_ix (n := 0) hik hN
  have n1 := hra.ixn (j := i) hi
  have n2 := fun hp => ldv hp a (j := i) hi
  have n3 := hrb.ixn (j := k) hk
  have n4 := fun hp => ldv hp b (j := k) hk
  have n5 := ldcells_I (l := o) (off := i + k) (hoN ▸ hik)
  have n6 := fun v => stcells_I (l := o) (off := i + k) (v := v) (hoN ▸ hik)
  have n7 : decide ((k : Int) < (b.length : Int)) = true := lt_t (by omega)
  have q1 := quo_pos (b := 1000000000) e4
  have q2 := rem_pos (b := 1000000000) e4
  have l2 : ∀ (h : Hp) (cs : List A) (o : Nat), ldcells none o cs = cs[o]? := fun _ _ _ => rfl
  have l3 : ∀ (n : Bool) (d : D), ldcells none 1 [A.d (.v (.bool n)), A.d d] = some (.d d) := fun _ _ => rfl
  simp -implicitDefEqProofs (maxSteps := 10000000) only [gantryref04_Mul_l0, rx_st, bxI, box0, go_sem, l3, iv, bv, hrb.len, e1, e2, e3, e5, q1, q2, i1, i2, i3, n1, n2, n3, n4, n5, n6, n7, allD, refsL_I, allD_I, cellsI_length, reduceCtorEq, ↓reduceIte, Nat.reduceEqDiff]

theorem rx_loop (hra : Rw da a) (hrb : Rw db b) (ha : Dig a) (hb : Dig b) (hN : N < 4611686018427387904) {i : Nat} (hi : i < a.length) (hib : i + b.length < N) (u0 : List Int) : ∀ (j k : Nat) (o : List Int) (c : Int), k + j = b.length → Dig o → o.length = N → (0 ≤ c ∧ c < 1000000000) → (∀ x, i + k ≤ x → o.getD x 0 = u0.getD x 0) →
    val o + (1000000000 : Int) ^ (i + k) * c = val u0 + (1000000000 : Int) ^ i * (a.getD i 0 * val (b.take k)) →
    ∃ o' c', X G (.loop gantryref04_Mul_l0) (rx_st na nb da db N (i : Int) o c (k : Int)) = some (.x 2, rx_end na nb da db N (i : Int) o' c') ∧ Dig o' ∧ o'.length = N ∧ (0 ≤ c' ∧ c' < 1000000000) ∧ (∀ x, i + b.length ≤ x → o'.getD x 0 = u0.getD x 0) ∧
      val o' + (1000000000 : Int) ^ (i + b.length) * c' = val u0 + (1000000000 : Int) ^ i * (a.getD i 0 * val b)
  | 0, k, o, c, hk, ho, hoN, hc, h1, hv => by
    obtain rfl : k = b.length := by omega
    refine ⟨o, c, by rw [X_loop, rx_stop na nb da db b N hrb]; rfl, ho, hoN, hc, h1, ?_⟩
    rw [hv, List.take_length]
  | j + 1, k, o, c, hk, ho, hoN, hc, h1, hv => by
    have hx := rx_go na nb da db a b N hra hrb ha hb ho hoN hN hc hi (k := k) (by omega) (by omega)
    obtain ⟨_, _, _, _, _, e6, e7, e8⟩ := rmul_w (ho.getD (i + k)) (ha.getD i) (hb.getD k) hc
    obtain ⟨o', c2, g1, g2⟩ := rx_loop hra hrb ha hb hN hi hib u0 j (k + 1) (o.set (i + k) ((o.getD (i + k) 0 + a.getD i 0 * b.getD k 0 + c) % 1000000000)) ((o.getD (i + k) 0 + a.getD i 0 * b.getD k 0 + c) / 1000000000) (by omega) (ho.set e7) (by simpa using hoN) e6 (fun x hx' => by rw [getD_set_ne _ (by omega)]; exact h1 x (by omega)) (by
      rw [val_set _ _ _ (by omega), val_take_getD b k, show i + (k + 1) = (i + k) + 1 by omega, Int.pow_succ, Int.pow_add]
      rw [Int.pow_add] at hv
      generalize (o.getD (i + k) 0 + a.getD i 0 * b.getD k 0 + c) % 1000000000 = R at *
      generalize (o.getD (i + k) 0 + a.getD i 0 * b.getD k 0 + c) / 1000000000 = Q at *
      clear hx e6 e7 h1
      grind)
    exact ⟨o', c2, by rw [X_loop, hx]; exact g1, g2⟩

theorem ry_stop (hra : Rw da a) {o : List Int} : X G gantryref04_Mul_l1 (ry_st na nb da db N (a.length : Int) o) = some (.x 0, ry_end na nb da db N o) := by
  have e1 : decide ((a.length : Int) < (a.length : Int)) = false := lt_f (by omega)
  simp -implicitDefEqProofs (maxSteps := 10000000) only [gantryref04_Mul_l1, ry_st, ry_end, bxI, box0, go_sem, ldcells, iv, bv, hra.len, e1, refsL_I, reduceCtorEq, ↓reduceIte, Nat.reduceEqDiff]

theorem ry_go (hra : Rw da a) (hrb : Rw db b) (ha : Dig a) (hb : Dig b) (hNe : a.length + b.length = N) (hN : N < 4611686018427387904) {o : List Int} (ho : Dig o) (hoN : o.length = N) {i : Nat} (hi : i < a.length) (hz : ∀ x, i + b.length ≤ x → o.getD x 0 = 0) (hv : val o = val (a.take i) * val b) :
    ∃ o', Dig o' ∧ o'.length = N ∧ (∀ x, i + 1 + b.length ≤ x → o'.getD x 0 = 0) ∧ val o' = val (a.take (i + 1)) * val b ∧ X G gantryref04_Mul_l1 (ry_st na nb da db N (i : Int) o) = some (.n, ry_st na nb da db N ((i + 1 : Nat) : Int) o') := by
  have hib : i + b.length < N := by omega
  obtain ⟨o1, c1, hx, d1, l1, hc, h1, hv1⟩ := rx_loop na nb da db a b N hra hrb ha hb hN hi hib o b.length 0 o 0 (by omega) ho hoN (by omega) (fun _ _ => rfl) (by simp [val])
  refine ⟨o1.set (i + b.length) c1, d1.set hc, by simpa using l1, fun x hx' => by rw [getD_set_ne _ (by omega), h1 x (by omega)]; exact hz x (by omega), ?_, ?_⟩
  · rw [val_set _ _ _ (by omega), h1 _ (Nat.le_refl _), hz _ (Nat.le_refl _), Int.sub_zero, hv1, hv, val_take_getD a i]
    grind
  · obtain ⟨i1, i2, _, i4⟩ := rmul_ix (n := 0) hib hN
    have n6 := fun v => stcells_I (l := o1) (off := i + b.length) (v := v) (by omega)
    have n7 : decide ((i : Int) < (a.length : Int)) = true := lt_t (by omega)
    have l3 : ∀ (n : Bool) (d : D), ldcells none 1 [A.d (.v (.bool n)), A.d d] = some (.d d) := fun _ _ => rfl
    simp only [rx_st, rx_end, bxI, box0, go_sem, nc0] at hx
    simp -implicitDefEqProofs (maxSteps := 10000000) only [gantryref04_Mul_l1, ry_st, bxI, box0, go_sem, l3, iv, bv, hra.len, hrb.len, i1, i2, i4, n6, n7, hx, allD, refsL_I, allD_I, cellsI_length, reduceCtorEq, ↓reduceIte, Nat.reduceEqDiff]

theorem ry_loop (hra : Rw da a) (hrb : Rw db b) (ha : Dig a) (hb : Dig b) (hNe : a.length + b.length = N) (hN : N < 4611686018427387904) : ∀ (k i : Nat) (o : List Int), i + k = a.length → Dig o → o.length = N → (∀ x, i + b.length ≤ x → o.getD x 0 = 0) → val o = val (a.take i) * val b →
    ∃ o', X G (.loop gantryref04_Mul_l1) (ry_st na nb da db N (i : Int) o) = some (.x 0, ry_end na nb da db N o') ∧ Dig o' ∧ o'.length = N ∧ val o' = val a * val b
  | 0, i, o, hi, ho, hoN, hz, hv => by
    obtain rfl : i = a.length := by omega
    exact ⟨o, by rw [X_loop, ry_stop na nb da db a N hra]; rfl, ho, hoN, by rw [hv, List.take_length]⟩
  | k + 1, i, o, hi, ho, hoN, hz, hv => by
    obtain ⟨o1, d1, l1, z1, v1, hx⟩ := ry_go na nb da db a b N hra hrb ha hb hNe hN ho hoN (i := i) (by omega) hz hv
    obtain ⟨o', g1, g2⟩ := ry_loop hra hrb ha hb hNe hN k (i + 1) o1 (by omega) d1 l1 z1 v1
    exact ⟨o', by rw [X_loop, hx]; exact g1, g2⟩
end

theorem rMul_spec {x y : Int} (hx : nd x ≤ 1000000000000) (hy : nd y ≤ 1000000000000) : callX G n_gantryref04_Mul [encI x, encI y] = some (.d (encI (x * y))) := by
  rw [callX_eq (cf := gantryref04_Mul) rfl]
  have hx' : (digs x.natAbs).length ≤ 1000000000000 := hx
  have hy' : (digs y.natAbs).length ≤ 1000000000000 := hy
  obtain ⟨N, hN⟩ : ∃ N, (digs x.natAbs).length + (digs y.natAbs).length = N := ⟨_, rfl⟩
  obtain ⟨o, g1, g2, g3, g4⟩ := ry_loop (decide (x < 0)) (decide (y < 0)) (dg (digs x.natAbs)) (dg (digs y.natAbs)) (digs x.natAbs) (digs y.natAbs) N (Rw.dg _) (Rw.dg _) (digs_dig _) (digs_dig _) hN (by omega) (digs x.natAbs).length 0 (List.replicate N 0) (by omega) (Dig.replicate _) (by simp)
    (fun x _ => by simp only [List.getD_eq_getElem?_getD, List.getElem?_replicate]; split <;> rfl) (by rw [val_replicate]; simp [val])
  have e0 := lenA_dg (digs x.natAbs)
  have e1 := lenA_dg (digs y.natAbs)
  have hw : w64 (((digs x.natAbs).length : Int) + ((digs y.natAbs).length : Int)) = ((N : Nat) : Int) := by rw [w64_id (by omega) (by omega)]; omega
  have hm := bnd N (by omega)
  have g5 := normal_spec (!(decide (x < 0) == decide (y < 0))) (Rw.row o) (by omega) g2
  rw [g4, val_dabs, val_dabs, sgn_mul'] at g5
  simp only [rowI, bv, g3] at g5
  simp only [ry_st, ry_end, bxI, box0, go_sem, nc0] at g1
  simp -implicitDefEqProofs (maxSteps := 10000000) only [gantryref04_Mul, encI, frzSt, go_sem, stcells, ldcells, iv, bv, e0, e1, hw, hm, rep_I, refsL_I, allD_I, g1, g5, reduceCtorEq, ↓reduceIte, Nat.reduceEqDiff]
end Go.AM

/- ref04.Power, ref04.Number: some number of at most 8 digits. -/
namespace Go.AM
open Go Go.RowKit

theorem hupdO_none2 (o : Obj) : hupdO (hupd hp0 [91] o) [39] none = hupd hp0 [91] o := by
  funext j
  simp only [hupdO, hupd, hp0]
  by_cases h : j = [39]
  · subst h; rfl
  · rw [if_neg h]
theorem nd_pw {k : Nat} (h : k ≤ 30) : nd ((10 : Int) ^ k) ≤ 4 := nd_le (by
  rw [Int.natAbs_pow]
  have : 10 ^ k ≤ 10 ^ 30 := Nat.pow_le_pow_right (by omega) h
  have e : (10 : Nat) ^ 30 < 1000000000 ^ 4 := by decide
  exact Nat.lt_of_le_of_lt this e)
theorem nd_len {l : List Int} (hd : Dig l) : nd (val l) ≤ l.length := nd_le (by
  have h1 := val_lt hd
  have h2 := val_nonneg hd
  have h4 : ((1000000000 ^ l.length : Nat) : Int) = (1000000000 : Int) ^ l.length := by simp
  rw [← h4] at h1; omega)
theorem nd_sgn (b : Bool) (x : Int) : nd (sgn b x) = nd x := by rw [nd, nd, natAbs_sgn]
theorem six_ne : ((6 : Int) = 0) = False := by simp
theorem five_ne : ((5 : Int) = 0) = False := by simp
theorem two_ne_ : ((2 : Int) = 0) = False := by simp
variable [Its]
def pow_st (k v i : Int) : St := mkS [(0, ai k), (2, .ptr [2] 0), (3, .ptr [3] 0), (4, ai i)] [([2], box0), ([3], bI v)]
def pow_en (v : Int) : St := mkS [(2, .ptr [2] 0), (3, .ptr [3] 0)] [([2], box0), ([3], bI v)]
theorem pow_loop {k : Nat} (hk : k ≤ 30) : ∀ j i : Nat, i + j = k → X G (.loop gantryref04_Power_l0) (pow_st k ((10 : Int) ^ i) i) = some (.x 0, pow_en ((10 : Int) ^ k))
  | 0, i, h => by
    obtain rfl : i = k := by omega
    have e1 : decide ((i : Int) < (i : Int)) = false := lt_f (by omega)
    have hx : X G gantryref04_Power_l0 (pow_st i ((10 : Int) ^ i) i) = some (.x 0, pow_en ((10 : Int) ^ i)) := by
      generalize (10 : Int) ^ i = v
      simp -implicitDefEqProofs (maxSteps := 10000000) only [gantryref04_Power_l0, pow_st, pow_en, box0, bI, e1, go_sem, reduceCtorEq, ↓reduceIte, Nat.reduceEqDiff, iv]
    rw [X_loop, hx]; rfl
  | j + 1, i, h => by
    have e1 : decide ((i : Int) < (k : Int)) = true := lt_t (by omega)
    have e2 : w64 ((i : Int) + 1) = ((i + 1 : Nat) : Int) := by rw [w64_id (by omega) (by omega)]; rfl
    have g1 := rOf_spec (n := 10) ⟨by omega, by omega⟩
    have hp := nd_pw (k := i) (by omega)
    have g2 := rMul_spec (x := (10 : Int) ^ i) (y := 10) (by omega) (Nat.le_trans (nd_i64 ⟨by omega, by omega⟩) (by omega))
    rw [← Int.pow_succ] at g2
    simp only [iv] at g1
    have hx : X G gantryref04_Power_l0 (pow_st k ((10 : Int) ^ i) i) = some (.n, pow_st k ((10 : Int) ^ (i + 1)) ((i + 1 : Nat) : Int)) := by
      generalize (10 : Int) ^ i = v at *
      generalize (10 : Int) ^ (i + 1) = v2 at *
      simp -implicitDefEqProofs (maxSteps := 10000000) only [gantryref04_Power_l0, pow_st, pow_en, box0, bI, e1, e2, g1, g2, go_sem, reduceCtorEq, ↓reduceIte, Nat.reduceEqDiff, iv]
    rw [X_loop, hx, Option.bind_some, if_pos rfl]
    exact pow_loop hk j (i + 1) (by omega)
theorem Power_spec {k : Nat} (hk : k ≤ 30) : callX G n_gantryref04_Power [iv k] = some (.d (encI ((10 : Int) ^ k))) := by
  rw [callX_eq (cf := gantryref04_Power) rfl]
  have h := pow_loop hk k 0 (by omega)
  have g := rOf_spec (n := 1) ⟨by omega, by omega⟩
  rw [Int.pow_zero] at h
  simp only [iv] at g
  generalize (10 : Int) ^ k = v at *
  simp only [pow_st, pow_en, box0, bI, go_sem, nc0] at h
  simp -implicitDefEqProofs (maxSteps := 10000000) only [gantryref04_Power, box0, bI, g, h, go_sem, reduceCtorEq, ↓reduceIte, Nat.reduceEqDiff, iv]

section
variable {e0 : D} {l : List Int} {at_ n : Int} {ng : Bool}
def nb_st (e0 : D) (at_ n : Int) (ng : Bool) (L : List Int) (i : Int) : St := mkS [(0, .d e0), (1, ai at_), (4, .ptr [4] 0), (6, ai n), (7, ab ng), (8, gA 39 L), (11, ai i)] (([4], box0) :: gH 39 L)
def nb_en (ng : Bool) (L : List Int) : St := mkS [(4, .ptr [4] 0), (7, ab ng), (8, gA 39 L)] (([4], box0) :: gH 39 L)
def nc_st (e0 : D) (at_ n : Int) (ng : Bool) (L : List Int) (i : Int) : St := mkS [(0, .d e0), (1, ai at_), (4, .ptr [4] 0), (6, ai n), (7, ab ng), (8, gA 91 L), (10, ai i)] (([4], box0) :: gH 91 L)
def nc_en (ng : Bool) (L : List Int) : St := mkS [(4, .ptr [4] 0), (7, ab ng), (8, gA 91 L)] (([4], box0) :: gH 91 L)
theorem nb_stop {i m : Nat} (hn : 0 ≤ n ∧ n < 1000000) (hm : (n / 2) % 6 = m) (hi : m + 1 ≤ i) {L : List Int} : X G gantryref04_Number_l1 (nb_st e0 at_ n ng L i) = some (.x 1, nb_en ng L) := by
  have q1 : w64 (n.tdiv 2) = n / 2 := by rw [quo_pos hn.1]; exact w64_id (by omega) (by omega)
  have q2 := rem_pos (a := n / 2) (b := 6) (by omega)
  have q3 : w64 (1 + (m : Int)) = ((m + 1 : Nat) : Int) := by rw [w64_id (by omega) (by omega)]; omega
  have e1 : decide ((i : Int) < ((m + 1 : Nat) : Int)) = false := lt_f (by omega)
  by_cases h0 : L = []
  · subst h0
    simp -implicitDefEqProofs (maxSteps := 10000000) only [gantryref04_Number_l1, nb_st, nb_en, box0, gA_nil, gH_nil, hupdO_none, q1, q2, hm, q3, six_ne, two_ne_, e1, go_sem, reduceCtorEq, ↓reduceIte, Nat.reduceEqDiff, iv]
  · simp -implicitDefEqProofs (maxSteps := 10000000) only [gantryref04_Number_l1, nb_st, nb_en, box0, gA_ne h0, gH_ne h0, hupdO_none, refsL_I, q1, q2, hm, q3, six_ne, two_ne_, e1, go_sem, reduceCtorEq, ↓reduceIte, Nat.reduceEqDiff, iv]
theorem nb_go (hr : Rw e0 l) (hl : ∀ n ∈ l, I64 n) (ha : 0 ≤ at_ ∧ at_ ≤ 1000) {i m : Nat} (hn : 0 ≤ n ∧ n < 1000000) (hm : (n / 2) % 6 = m) (hi : i < m + 1) {L : List Int} (hL : L.length ≤ 100) :
    ∃ v, (0 ≤ v ∧ v < 1000000000) ∧ X G gantryref04_Number_l1 (nb_st e0 at_ n ng L i) = some (.n, nb_st e0 at_ n ng (L ++ [v]) ((i + 1 : Nat) : Int)) := by
  have q1 : w64 (n.tdiv 2) = n / 2 := by rw [quo_pos hn.1]; exact w64_id (by omega) (by omega)
  have q2 := rem_pos (a := n / 2) (b := 6) (by omega)
  have q3 : w64 (1 + (m : Int)) = ((m + 1 : Nat) : Int) := by rw [w64_id (by omega) (by omega)]; omega
  have e1 : decide ((i : Int) < ((m + 1 : Nat) : Int)) = true := lt_t (by omega)
  have e2 : w64 ((i : Int) + 1) = ((i + 1 : Nat) : Int) := by rw [w64_id (by omega) (by omega)]; rfl
  have e3 : w64 (at_ + 2) = at_ + 2 := w64_id (by omega) (by omega)
  obtain ⟨w, hw⟩ : ∃ w, at_ + 2 + (i : Int) = w := ⟨_, rfl⟩
  have e4 : w64 (at_ + 2 + (i : Int)) = w := by rw [w64_id (by omega) (by omega)]; exact hw
  have g := at_spec (i := w) (m := 1000000000) hr hl (by omega)
  refine ⟨atr l w 1000000000, atr_b _ _ (by omega), ?_⟩
  generalize atr l w 1000000000 = v at *
  simp only [iv] at g
  have f1 := app_fact (l := L) (by omega)
  by_cases h0 : L = []
  · subst h0
    simp -implicitDefEqProofs (maxSteps := 10000000) only [gantryref04_Number_l1, nb_st, nb_en, box0, gA_nil, gH_nil, hupdO_none, gA_one, gH_one, gA_snoc, gH_snoc, app_fact0, cellsI_one, D.one, allD, refsL_I, src_row, q1, q2, hm, q3, six_ne, two_ne_, e1, e2, e3, e4, g, go_sem, reduceCtorEq, ↓reduceIte, Nat.reduceEqDiff, iv]
  · simp -implicitDefEqProofs (maxSteps := 10000000) only [gantryref04_Number_l1, nb_st, nb_en, box0, gA_ne h0, gH_ne h0, hupdO_none, gA_snoc, gH_snoc, f1, app_fact0, cellsI_snoc, cellsI_length, D.one, allD, refsL_I, src_row, q1, q2, hm, q3, six_ne, two_ne_, e1, e2, e3, e4, g, go_sem, reduceCtorEq, ↓reduceIte, Nat.reduceEqDiff, iv]
theorem nb_loop (hr : Rw e0 l) (hl : ∀ n ∈ l, I64 n) (ha : 0 ≤ at_ ∧ at_ ≤ 1000) {m : Nat} (hn : 0 ≤ n ∧ n < 1000000) (hm : (n / 2) % 6 = m) (h6 : m < 6) : ∀ (j i : Nat) (L : List Int), i + j = m + 1 → L.length = i → Dig L → ∃ L', L'.length = m + 1 ∧ Dig L' ∧ X G (.loop gantryref04_Number_l1) (nb_st e0 at_ n ng L i) = some (.x 1, nb_en ng L')
  | 0, i, L, hj, hLi, hd => ⟨L, by omega, hd, by rw [X_loop, nb_stop hn hm (by omega)]; rfl⟩
  | j + 1, i, L, hj, hLi, hd => by
    obtain ⟨v, hv, hx⟩ := nb_go (ng := ng) hr hl ha hn hm (i := i) (by omega) (L := L) (by omega)
    obtain ⟨L', h1, h2, h3⟩ := nb_loop hr hl ha hn hm h6 j (i + 1) (L ++ [v]) (by omega) (by simp; omega) (snoc_dig hd hv)
    exact ⟨L', h1, h2, by rw [X_loop, hx, Option.bind_some, if_pos rfl]; exact h3⟩
theorem nc_stop {i m : Nat} (hn : 0 ≤ n ∧ n < 1000000) (hm : (n / 2) % 5 = m) (hi : m + 1 ≤ i) {L : List Int} : X G gantryref04_Number_l0 (nc_st e0 at_ n ng L i) = some (.x 3, nc_en ng L) := by
  have q1 : w64 (n.tdiv 2) = n / 2 := by rw [quo_pos hn.1]; exact w64_id (by omega) (by omega)
  have q2 := rem_pos (a := n / 2) (b := 5) (by omega)
  have q3 : w64 (1 + (m : Int)) = ((m + 1 : Nat) : Int) := by rw [w64_id (by omega) (by omega)]; omega
  have e1 : decide ((i : Int) < ((m + 1 : Nat) : Int)) = false := lt_f (by omega)
  by_cases h0 : L = []
  · subst h0
    simp -implicitDefEqProofs (maxSteps := 10000000) only [gantryref04_Number_l0, nc_st, nc_en, box0, gA_nil, gH_nil, hupdO_none, q1, q2, hm, q3, five_ne, two_ne_, e1, go_sem, reduceCtorEq, ↓reduceIte, Nat.reduceEqDiff, iv]
  · simp -implicitDefEqProofs (maxSteps := 10000000) only [gantryref04_Number_l0, nc_st, nc_en, box0, gA_ne h0, gH_ne h0, hupdO_none2, refsL_I, q1, q2, hm, q3, five_ne, two_ne_, e1, go_sem, reduceCtorEq, ↓reduceIte, Nat.reduceEqDiff, iv]
theorem nc_go (hr : Rw e0 l) (hl : ∀ n ∈ l, I64 n) (ha : 0 ≤ at_ ∧ at_ ≤ 1000) {i m : Nat} (hn : 0 ≤ n ∧ n < 1000000) (hm : (n / 2) % 5 = m) (hi : i < m + 1) {L : List Int} (hL : L.length ≤ 100) :
    ∃ v, (0 ≤ v ∧ v < 1000000000) ∧ X G gantryref04_Number_l0 (nc_st e0 at_ n ng L i) = some (.n, nc_st e0 at_ n ng (L ++ [v]) ((i + 1 : Nat) : Int)) := by
  have q1 : w64 (n.tdiv 2) = n / 2 := by rw [quo_pos hn.1]; exact w64_id (by omega) (by omega)
  have q2 := rem_pos (a := n / 2) (b := 5) (by omega)
  have q3 : w64 (1 + (m : Int)) = ((m + 1 : Nat) : Int) := by rw [w64_id (by omega) (by omega)]; omega
  have e1 : decide ((i : Int) < ((m + 1 : Nat) : Int)) = true := lt_t (by omega)
  have e2 : w64 ((i : Int) + 1) = ((i + 1 : Nat) : Int) := by rw [w64_id (by omega) (by omega)]; rfl
  have e3 : w64 (at_ + 2) = at_ + 2 := w64_id (by omega) (by omega)
  obtain ⟨w, hw⟩ : ∃ w, at_ + 2 + (i : Int) = w := ⟨_, rfl⟩
  have e4 : w64 (at_ + 2 + (i : Int)) = w := by rw [w64_id (by omega) (by omega)]; exact hw
  have g := at_spec (i := w) (m := 4) hr hl (by omega)
  have hb := atr_b l w (m := 4) (by omega)
  generalize atr l w 4 = v at *
  simp only [iv] at g
  have f1 := app_fact (l := L) (by omega)
  have key : ∀ d : Int, (∀ h, (ixaA h 1 v (.d (.row 4 [iv 0, iv 999999999, iv 1, iv 500000000]))).bind (loadA h none) = some (.d (.v (.int .i64 d)))) → X G gantryref04_Number_l0 (nc_st e0 at_ n ng L i) = some (.n, nc_st e0 at_ n ng (L ++ [d]) ((i + 1 : Nat) : Int)) := by
    intro d hd
    obtain ⟨q, hq, hq2⟩ : ∃ q, (∀ h, ixaA h 1 v (.d (.row 4 [iv 0, iv 999999999, iv 1, iv 500000000])) = some q) ∧ ∀ h, loadA h none q = some (.d (.v (.int .i64 d))) := by
      cases hx : ixaA hp0 1 v (.d (.row 4 [iv 0, iv 999999999, iv 1, iv 500000000])) with
      | none =>
        have := hd hp0
        rw [hx] at this; cases this
      | some q =>
        refine ⟨q, fun h => hx, fun h => ?_⟩
        have := hd h
        rw [show ixaA h 1 v (.d (.row 4 [iv 0, iv 999999999, iv 1, iv 500000000])) = some q from hx] at this
        exact this
    have rep4 : ∀ z : D, rep 4 [z] = [z, z, z, z] := fun _ => rfl
    simp only [iv] at hq
    by_cases h0 : L = []
    · subst h0
      simp -implicitDefEqProofs (maxSteps := 10000000) only [gantryref04_Number_l0, nc_st, nc_en, box0, gA_nil, gH_nil, hupdO_none, hupdO_none2, rep4, gA_one, gH_one, gA_snoc, gH_snoc, app_fact0, cellsI_one, D.one, allD, refsL_I, src_row, q1, q2, hm, q3, hq, hq2, five_ne, two_ne_, e1, e2, e3, e4, g, go_sem, reduceCtorEq, ↓reduceIte, Nat.reduceEqDiff, iv]
    · simp -implicitDefEqProofs (maxSteps := 10000000) only [gantryref04_Number_l0, nc_st, nc_en, box0, gA_ne h0, gH_ne h0, hupdO_none, hupdO_none2, rep4, gA_snoc, gH_snoc, f1, app_fact0, cellsI_snoc, cellsI_length, D.one, allD, refsL_I, src_row, q1, q2, hm, q3, hq, hq2, five_ne, two_ne_, e1, e2, e3, e4, g, go_sem, reduceCtorEq, ↓reduceIte, Nat.reduceEqDiff, iv]
  have hc : v = 0 ∨ v = 1 ∨ v = 2 ∨ v = 3 := by omega
  rcases hc with rfl | rfl | rfl | rfl
  · exact ⟨0, by omega, key 0 (fun _ => rfl)⟩
  · exact ⟨999999999, by omega, key 999999999 (fun _ => rfl)⟩
  · exact ⟨1, by omega, key 1 (fun _ => rfl)⟩
  · exact ⟨500000000, by omega, key 500000000 (fun _ => rfl)⟩
theorem nc_loop (hr : Rw e0 l) (hl : ∀ n ∈ l, I64 n) (ha : 0 ≤ at_ ∧ at_ ≤ 1000) {m : Nat} (hn : 0 ≤ n ∧ n < 1000000) (hm : (n / 2) % 5 = m) (h6 : m < 5) : ∀ (j i : Nat) (L : List Int), i + j = m + 1 → L.length = i → Dig L → ∃ L', L'.length = m + 1 ∧ Dig L' ∧ X G (.loop gantryref04_Number_l0) (nc_st e0 at_ n ng L i) = some (.x 3, nc_en ng L')
  | 0, i, L, hj, hLi, hd => ⟨L, by omega, hd, by rw [X_loop, nc_stop hn hm (by omega)]; rfl⟩
  | j + 1, i, L, hj, hLi, hd => by
    obtain ⟨v, hv, hx⟩ := nc_go (ng := ng) hr hl ha hn hm (i := i) (by omega) (L := L) (by omega)
    obtain ⟨L', h1, h2, h3⟩ := nc_loop hr hl ha hn hm h6 j (i + 1) (L ++ [v]) (by omega) (by simp; omega) (snoc_dig hd hv)
    exact ⟨L', h1, h2, by rw [X_loop, hx, Option.bind_some, if_pos rfl]; exact h3⟩
end
end Go.AM

/- ref04.Number. -/
namespace Go.AM
open Go Go.RowKit
theorem kn0 : ((0 : Int) == 0) = true := rfl
theorem k41 : ((41 : Int) = 0) = False := by simp
theorem k30 : ((30 : Int) = 0) = False := by simp
theorem k60 : ((60 : Int) = 0) = False := by simp
variable [Its]
theorem Number_spec {e0 : D} {l : List Int} {at_ : Int} (hr : Rw e0 l) (hl : ∀ n ∈ l, I64 n) (ha : 0 ≤ at_ ∧ at_ ≤ 1000) : ∃ x, nd x ≤ 8 ∧ callX G n_gantryref04_Number [e0, iv at_] = some (.d (encI x)) := by
  have hk := atr_b l at_ (m := 6) (by omega)
  have g1 := at_spec (i := at_) (m := 6) hr hl (by omega)
  have s1 : w64 (at_ + 1) = at_ + 1 := w64_id (by omega) (by omega)
  have hn := atr_b l (at_ + 1) (m := 1000000) (by omega)
  have g2 := at_spec (i := at_ + 1) (m := 1000000) hr hl (by omega)
  generalize atr l at_ 6 = k at *
  generalize atr l (at_ + 1) 1000000 = n at *
  have r2 := rem_pos (a := n) (b := 2) (by omega)
  have ok : (n % 2 == 1) = (n % 2 == 1) := rfl
  obtain ⟨ng, hng⟩ : ∃ ng, (n % 2 == 1) = ng := ⟨_, rfl⟩
  simp only [iv] at g1 g2
  have hc : k = 0 ∨ k = 1 ∨ k = 2 ∨ k = 3 ∨ (4 ≤ k) := by omega
  rcases hc with rfl | rfl | rfl | rfl | hc
  · have r3 := rem_pos (a := n) (b := 41) (by omega)
    obtain ⟨u, hu⟩ : ∃ u, n % 41 - 20 = u := ⟨_, rfl⟩
    have s2 : w64 (n % 41 - 20) = u := by rw [w64_id (by omega) (by omega)]; exact hu
    have g3 := rOf_spec (n := u) ⟨by omega, by omega⟩
    refine ⟨u, Nat.le_trans (nd_i64 ⟨by omega, by omega⟩) (by omega), ?_⟩
    rw [callX_eq (cf := gantryref04_Number) rfl]
    simp only [iv] at g3
    simp -implicitDefEqProofs (maxSteps := 10000000) only [gantryref04_Number, box0, bI, hupdO_none, s1, s2, g1, g2, g3, r2, r3, hng, kn0, k41, two_ne_, go_sem, reduceCtorEq, ↓reduceIte, Nat.reduceEqDiff, iv]
  · obtain ⟨u, hu⟩ : ∃ u, n - 500000 = u := ⟨_, rfl⟩
    have s2 : w64 (n - 500000) = u := by rw [w64_id (by omega) (by omega)]; exact hu
    have g3 := rOf_spec (n := u) ⟨by omega, by omega⟩
    refine ⟨u, Nat.le_trans (nd_i64 ⟨by omega, by omega⟩) (by omega), ?_⟩
    rw [callX_eq (cf := gantryref04_Number) rfl]
    simp only [iv] at g3
    have b0 : ((1 : Int) == 0) = false := rfl
    have b1 : ((1 : Int) == 1) = true := rfl
    simp -implicitDefEqProofs (maxSteps := 10000000) only [gantryref04_Number, box0, bI, hupdO_none, s1, s2, g1, g2, g3, r2, hng, b0, b1, k41, two_ne_, go_sem, reduceCtorEq, ↓reduceIte, Nat.reduceEqDiff, iv]
  · have q1 : w64 (n.tdiv 2) = n / 2 := by rw [quo_pos hn.1]; exact w64_id (by omega) (by omega)
    have r3 := rem_pos (a := n / 2) (b := 30) (by omega)
    obtain ⟨p, hp⟩ : ∃ p : Nat, n / 2 % 30 = (p : Int) := ⟨(n / 2 % 30).toNat, by omega⟩
    have g3 := Power_spec (k := p) (by omega)
    have q2 : w64 (n.tdiv 60) = n / 60 := by rw [quo_pos hn.1]; exact w64_id (by omega) (by omega)
    have r4 := rem_pos (a := n / 60) (b := 5) (by omega)
    obtain ⟨u, hu⟩ : ∃ u, n / 60 % 5 - 2 = u := ⟨_, rfl⟩
    have s2 : w64 (n / 60 % 5 - 2) = u := by rw [w64_id (by omega) (by omega)]; exact hu
    have g4 := rOf_spec (n := u) ⟨by omega, by omega⟩
    have np := nd_pw (k := p) (by omega)
    have nu : nd u ≤ 4 := Nat.le_trans (nd_i64 ⟨by omega, by omega⟩) (by omega)
    have g5 := rAdd_spec (x := (10 : Int) ^ p) (y := u) (by omega) (by omega)
    have n5 := nd_add np nu
    generalize (10 : Int) ^ p + u = y at *
    generalize (10 : Int) ^ p = pw at *
    obtain ⟨sg, hsg⟩ : ∃ sg, (!(ng == decide (y < 0))) = sg := ⟨_, rfl⟩
    have ny : (digs y.natAbs).length ≤ 5 := n5
    have g6 := normal_spec sg (Rw.dg (digs y.natAbs)) (by omega) (digs_dig _)
    refine ⟨sgn sg (val (digs y.natAbs)), ?_, ?_⟩
    · rw [nd_sgn]
      exact Nat.le_trans (nd_len (digs_dig _)) (by omega)
    rw [callX_eq (cf := gantryref04_Number) rfl]
    generalize sgn sg (val (digs y.natAbs)) = z at *
    simp only [iv, bv] at g3 g4 g6
    have b0 : ((2 : Int) == 0) = false := rfl
    have b1 : ((2 : Int) == 1) = false := rfl
    have b2 : ((2 : Int) == 2) = true := rfl
    simp -implicitDefEqProofs (maxSteps := 10000000) only [gantryref04_Number, box0, bI, hupdO_none, s1, s2, q1, q2, g1, g2, g3, g4, g5, g6, r2, r3, r4, hp, hng, hsg, b0, b1, b2, k41, k30, k60, five_ne, two_ne_, go_sem, reduceCtorEq, ↓reduceIte, Nat.reduceEqDiff, iv]
  · obtain ⟨m, hm⟩ : ∃ m : Nat, n / 2 % 5 = (m : Int) := ⟨(n / 2 % 5).toNat, by omega⟩
    obtain ⟨L, h1, h2, h3⟩ := nc_loop (ng := ng) hr hl ha hn hm (by omega) (m + 1) 0 [] (by omega) rfl Dig.nil
    have hne : L ≠ [] := fun h => by rw [h] at h1; simp at h1
    have g6 := normal_spec ng (Rw.row L) (by omega) h2
    refine ⟨sgn ng (val L), by rw [nd_sgn]; exact Nat.le_trans (nd_len h2) (by omega), ?_⟩
    rw [callX_eq (cf := gantryref04_Number) rfl]
    generalize sgn ng (val L) = z at *
    simp only [rowI, bv, iv] at g6
    simp only [nc_st, nc_en, box0, gA_nil, gH_nil, gA_ne hne, gH_ne hne, go_sem, nc0] at h3
    have b0 : ((3 : Int) == 0) = false := rfl
    have b1 : ((3 : Int) == 1) = false := rfl
    have b2 : ((3 : Int) == 2) = false := rfl
    have b3 : ((3 : Int) == 3) = true := rfl
    simp -implicitDefEqProofs (maxSteps := 10000000) only [gantryref04_Number, frzSt, box0, bI, hupdO_none, hupdO_none2, s1, g1, g2, g6, r2, h3, hng, b0, b1, b2, b3, k41, two_ne_, allD_I, refsL_I, go_sem, reduceCtorEq, ↓reduceIte, Nat.reduceEqDiff, iv]
  · obtain ⟨m, hm⟩ : ∃ m : Nat, n / 2 % 6 = (m : Int) := ⟨(n / 2 % 6).toNat, by omega⟩
    obtain ⟨L, h1, h2, h3⟩ := nb_loop (ng := ng) hr hl ha hn hm (by omega) (m + 1) 0 [] (by omega) rfl Dig.nil
    have hne : L ≠ [] := fun h => by rw [h] at h1; simp at h1
    have g6 := normal_spec ng (Rw.row L) (by omega) h2
    refine ⟨sgn ng (val L), by rw [nd_sgn]; exact Nat.le_trans (nd_len h2) (by omega), ?_⟩
    rw [callX_eq (cf := gantryref04_Number) rfl]
    generalize sgn ng (val L) = z at *
    simp only [rowI, bv, iv] at g6
    simp only [nb_st, nb_en, box0, gA_nil, gH_nil, gA_ne hne, gH_ne hne, go_sem, nc0] at h3
    have b0 : (k == 0) = false := beq_f (by omega)
    have b1 : (k == 1) = false := beq_f (by omega)
    have b2 : (k == 2) = false := beq_f (by omega)
    have b3 : (k == 3) = false := beq_f (by omega)
    simp -implicitDefEqProofs (maxSteps := 10000000) only [gantryref04_Number, frzSt, box0, bI, hupdO_none, hupdO_none2, s1, g1, g2, g6, r2, h3, hng, b0, b1, b2, b3, k41, two_ne_, allD_I, refsL_I, go_sem, reduceCtorEq, ↓reduceIte, Nat.reduceEqDiff, iv]
end Go.AM

/- ref04.Same at equal numbers. -/
namespace Go.AM
open Go Go.RowKit

def bx2 (b : Bool) (l : List Int) : Obj := ⟨0, 0, [.d (.v (.bool b)), .d (dg l)], false⟩
theorem bself (b : Bool) : (b == b) = true := by cases b <;> rfl
variable [Its]

def s4_st (b : Bool) (l : List Int) (i : Int) : St := mkS [(2, .ptr [2] 0), (3, .ptr [3] 0), (5, ai i)] [([2], bx2 b l), ([3], bx2 b l)]
theorem s4_go {b : Bool} {l : List Int} (hl : l.length ≤ 1000000000000) {i : Nat} (hi : i < l.length) : X G gantryref04_Same_l0 (s4_st b l i) = some (.n, s4_st b l ((i + 1 : Nat) : Int)) := by
  have e1 : decide ((i : Int) < (l.length : Int)) = true := lt_t (by omega)
  have e2 : w64 ((i : Int) + 1) = ((i + 1 : Nat) : Int) := by rw [w64_id (by omega) (by omega)]; rfl
  have x1 := (Rw.dg l).ixn hi
  have x2 := fun h => ldv h l hi
  have e3 : (l.getD i 0 != l.getD i 0) = false := bne_self_eq_false _
  simp -implicitDefEqProofs (maxSteps := 10000000) only [gantryref04_Same_l0, s4_st, bx2, x1, x2, e1, e2, e3, go_sem, stcells, ldcells, iv, bv, reduceCtorEq, ↓reduceIte, Nat.reduceEqDiff]
theorem s4_stop {b : Bool} {l : List Int} : X G gantryref04_Same_l0 (s4_st b l (l.length : Nat)) = some (.x 0, mkS [] []) := by
  have e1 : decide ((l.length : Int) < (l.length : Int)) = false := lt_f (by omega)
  simp -implicitDefEqProofs (maxSteps := 10000000) only [gantryref04_Same_l0, s4_st, bx2, e1, go_sem, stcells, ldcells, iv, bv, reduceCtorEq, ↓reduceIte, Nat.reduceEqDiff]
theorem s4_loop {b : Bool} {l : List Int} (hl : l.length ≤ 1000000000000) : ∀ j i : Nat, i + j = l.length → X G (.loop gantryref04_Same_l0) (s4_st b l i) = some (.x 0, mkS [] [])
  | 0, i, h => by
    have : i = l.length := by omega
    subst this
    rw [X_loop, s4_stop]; rfl
  | j + 1, i, h => by
    rw [X_loop, s4_go hl (by omega), Option.bind_some, if_pos rfl]
    exact s4_loop hl j (i + 1) (by omega)
theorem s4_refl {b : Bool} {l : List Int} (hl : l.length ≤ 1000000000000) : callX G n_gantryref04_Same [.agg [.v (.bool b), dg l], .agg [.v (.bool b), dg l]] = some (.d (bv true)) := by
  rw [callX_eq (cf := gantryref04_Same) rfl]
  have h := s4_loop (b := b) hl l.length 0 (by omega)
  have e1 : ((l.length : Int) != (l.length : Int)) = false := bne_self_eq_false _
  have e2 := bself b
  simp only [s4_st, bx2, go_sem, nc0] at h
  simp -implicitDefEqProofs (maxSteps := 10000000) only [gantryref04_Same, h, e1, e2, go_sem, stcells, ldcells, iv, bv, reduceCtorEq, ↓reduceIte, Nat.reduceEqDiff]
end Go.AM

/- integer.Sub (where the seat has it) -/
namespace Go.AM
open Go Go.RowKit
variable [Its]

end Go.AM

/- integer.Small, ref04.Small. -/
namespace Go.AM
open Go Go.RowKit

def au (u : Int) : A := .d (.v (.int .u64 u))
attribute [go_sem] au
theorem w64_hi {n : Int} (h0 : 9223372036854775808 ≤ n) (h1 : n < 18446744073709551616) : w64 n = n - 18446744073709551616 := by
  rw [← wrap_i64]
  unfold IntKind.wrap
  simp only [IntKind.signed, IntKind.bits, Bool.true_and, decide_eq_true_eq, ge_iff_le]
  by_cases h : (2 : Int) ^ (64 - 1) ≤ n % 2 ^ 64
  · rw [if_pos h]; omega
  · rw [if_neg h]; omega
theorem u64m {n : Int} (h0 : 0 ≤ n) (h1 : n < 18446744073709551616) : n % 18446744073709551616 = n := Int.emod_eq_of_lt h0 h1
theorem val_getD_drop (l : List Int) (i : Nat) (h : i < l.length) : val (l.drop i) = l.getD i 0 + 1000000000 * val (l.drop (i + 1)) := by
  rw [List.drop_eq_getElem_cons h, val]
  simp [List.getD, h]
theorem val_drop_le {l : List Int} (hd : Dig l) : ∀ i, val (l.drop i) ≤ val l
  | 0 => by rw [List.drop_zero]; exact Int.le_refl _
  | i + 1 => by
    have ih := val_drop_le hd i
    by_cases h : i < l.length
    · rw [val_getD_drop l i h] at ih
      have := hd.getD i
      have h2 := val_nonneg (hd.drop (i + 1))
      omega
    · have h3 := val_nonneg hd
      rw [List.drop_eq_nil_of_le (by omega)]
      exact h3
theorem three_ex {l : List Int} (h : l.length = 3) : ∃ a b c, l = [a, b, c] := by
  match l, h with
  | [a, b, c], _ => exact ⟨a, b, c, rfl⟩
theorem ubt_ : A.bool? (.d (.v (.tuple #[]))) = none := rfl
def smb (x : Int) : Bool := decide (-9223372036854775808 ≤ x ∧ x < 9223372036854775808)
def smv (x : Int) : Int := if -9223372036854775808 ≤ x ∧ x < 9223372036854775808 then x else 0
theorem smb_t {x : Int} (h : I64 x) : smb x = true ∧ smv x = x := ⟨decide_eq_true h, if_pos h⟩
theorem smb_f {x : Int} (h : ¬ I64 x) : smb x = false ∧ smv x = 0 := ⟨decide_eq_false h, if_neg h⟩
variable [Its]

section
variable {x : Int} {l : List Int} (hl : digs x.natAbs = l)
def sm_st (x u i : Int) : St := mkS [(1, .ptr [1] 0), (4, au u), (5, ai i)] [([1], bI x)]
def sm_en (x u : Int) : St := mkS [(1, .ptr [1] 0), (4, au u)] [([1], bI x)]
theorem sm_stop (u : Int) : X G integer_Small_l0 (sm_st x u (-1)) = some (.x 0, sm_en x u) := by
  have e1 : decide ((-1 : Int) ≥ 0) = false := rfl
  simp -implicitDefEqProofs (maxSteps := 10000000) only [integer_Small_l0, sm_st, sm_en, bI, e1, go_sem, reduceCtorEq, ↓reduceIte, Nat.reduceEqDiff, iv]
include hl
theorem sm_go (hv : val l < 18446744073709551616) {i : Nat} (hi : i < l.length) (h3 : l.length ≤ 3) : X G integer_Small_l0 (sm_st x (val (l.drop (i + 1))) i) = some (.n, sm_st x (val (l.drop i)) ((i : Int) - 1)) := by
  have hd : Dig l := hl ▸ digs_dig _
  have e1 : decide ((i : Int) ≥ 0) = true := ge_t (by omega)
  have e2 : w64 ((i : Int) - 1) = (i : Int) - 1 := w64_id (by omega) (by omega)
  have x1 := (Rw.dg l).ixn hi
  have x2 := fun h => ldv h l hi
  have h0 := val_nonneg (hd.drop (i + 1))
  have h1 := hd.getD i
  have h2 := val_getD_drop l i hi
  have h4 := val_drop_le hd i
  have h5 : val (l.drop (i + 1)) * 1000000000 + l.getD i 0 = val (l.drop i) := by omega
  generalize val (l.drop (i + 1)) = u at *
  generalize l.getD i 0 = d at *
  have e3 : u * 1000000000 % 18446744073709551616 = u * 1000000000 := u64m (by omega) (by omega)
  have e4 : d % 18446744073709551616 = d := u64m (by omega) (by omega)
  have e5 : (u * 1000000000 + d) % 18446744073709551616 = val (l.drop i) := by rw [h5]; exact u64m (by omega) (by omega)
  simp -implicitDefEqProofs (maxSteps := 10000000) only [integer_Small_l0, sm_st, bI, hl, x1, x2, e1, e2, e3, e4, e5, go_sem, reduceCtorEq, ↓reduceIte, Nat.reduceEqDiff, iv]
theorem sm_loop (hv : val l < 18446744073709551616) (h3 : l.length ≤ 3) : ∀ i : Nat, i ≤ l.length → X G (.loop integer_Small_l0) (sm_st x (val (l.drop i)) ((i : Int) - 1)) = some (.x 0, sm_en x (val l))
  | 0, _ => by
    rw [X_loop, show ((0 : Nat) : Int) - 1 = -1 from rfl, sm_stop, List.drop_zero]; rfl
  | i + 1, h => by
    rw [X_loop, show ((i + 1 : Nat) : Int) - 1 = (i : Int) by omega, sm_go hl hv (by omega) h3, Option.bind_some, if_pos rfl]
    exact sm_loop hv h3 i (by omega)
end

theorem Small_spec_I {x : Int} (hx : nd x ≤ 1000000000000) : callX G n_integer_Small [encI x] = some (.d (.tup [iv (smv x), bv (smb x)])) := by
  rw [callX_eq (cf := integer_Small) rfl]
  obtain ⟨l, hl⟩ : ∃ l, digs x.natAbs = l := ⟨_, rfl⟩
  have hd : Dig l := hl ▸ digs_dig _
  have hv : val l = x.natAbs := hl ▸ val_digs _
  have hn : l.length ≤ 1000000000000 := by rw [← hl]; exact hx
  have ll := lenA_dg l
  by_cases h3 : l.length > 3
  · have e1 : decide ((l.length : Int) > 3) = true := gt_t (by omega)
    have hb : ¬ I64 x := fun h => by
      have h1 := nd_i64 h
      unfold nd at h1
      rw [hl] at h1; omega
    obtain ⟨b1, b2⟩ := smb_f hb
    simp -implicitDefEqProofs (maxSteps := 10000000) only [integer_Small, bI, hl, ll, e1, b1, b2, toDs, ubt_, go_sem, reduceCtorEq, ↓reduceIte, Nat.reduceEqDiff, iv, bv]
  have e1 : decide ((l.length : Int) > 3) = false := gt_f (by omega)
  by_cases hc : l.length = 3 ∧ l.getD 2 0 > 9
  · obtain ⟨a, b, c, rfl⟩ := three_ex hc.1
    have hc2 : c > 9 := hc.2
    have hdig := hd
    rw [Dig.cons, Dig.cons, Dig.cons] at hdig
    obtain ⟨d1, d2, d3, _⟩ := hdig
    have hb : ¬ I64 x := fun ⟨h1, h2⟩ => by
      simp only [val] at hv; omega
    obtain ⟨b1, b2⟩ := smb_f hb
    have e2 : decide (c > 9) = true := gt_t hc2
    have e3 : ((3 : Int) == 3) = true := rfl
    have e4 : ∀ h, ixaA h 1 2 (.d (dg [a, b, c])) = some (.d (.rp [iv c])) := fun h => rfl
    have e5 : ∀ h, loadA h none (.d (.rp [.v (.int .i64 c)])) = some (.d (.v (.int .i64 c))) := fun h => rfl
    have e6 : (((0 + 1 + 1 + 1 : Nat) : Int) == 3) = true := rfl
    simp only [List.length_cons, List.length_nil] at e1
    simp -implicitDefEqProofs (maxSteps := 10000000) only [integer_Small, bI, hl, ll, e1, e2, e3, e4, e5, e6, b1, b2, toDs, ubt_, go_sem, reduceCtorEq, ↓reduceIte, Nat.reduceEqDiff, iv, bv]
    done
  have hlt : val l < 10000000000000000000 := by
    by_cases h4 : l.length = 3
    · obtain ⟨a, b, c, rfl⟩ := three_ex h4
      have hc2 : ¬ c > 9 := fun h => hc ⟨h4, h⟩
      have hdig := hd
      rw [Dig.cons, Dig.cons, Dig.cons] at hdig
      obtain ⟨d1, d2, d3, _⟩ := hdig
      simp only [val]; omega
    · have := val_lt hd
      have h5 := pow_mono (n := l.length) (m := 2) (by omega)
      have h6 : (1000000000 : Int) ^ 2 = 1000000000000000000 := by decide
      omega
  have hlp := sm_loop hl (by omega) (by omega) l.length (Nat.le_refl _)
  rw [List.drop_length, hv] at hlp
  have e2 : w64 ((l.length : Int) - 1) = (l.length : Int) - 1 := w64_id (by omega) (by omega)
  rw [hv] at hlt
  simp only [sm_st, sm_en, bI, go_sem, val] at hlp
  have hcond : ∀ rest : Option (Ex × St), True := fun _ => trivial
  by_cases h4 : l.length = 3
  · have e3 : ((l.length : Int) == 3) = true := beq_t (by omega)
    have e4 : ∀ h, ixaA h 1 2 (.d (dg l)) = some (.d (.rp ((l.drop 2).map iv))) := fun h => (Rw.dg l).ixn (j := 2) (by omega) h
    have e5 := fun h => ldv h l (j := 2) (by omega)
    have e6 : decide (l.getD 2 0 > 9) = false := gt_f (fun h => hc ⟨h4, h⟩)
    by_cases hs : x < 0
    · have s1 : decide (x < 0) = true := lt_t hs
      by_cases hm : -9223372036854775808 ≤ x
      · obtain ⟨b1, b2⟩ := smb_t (x := x) ⟨hm, by omega⟩
        have e7 : decide ((x.natAbs : Int) ≤ 9223372036854775808) = true := le_t (by omega)
        have e8 : (0 - (x.natAbs : Int)) % 18446744073709551616 = 18446744073709551616 - (x.natAbs : Int) := by omega
        have e9 : w64 (18446744073709551616 - (x.natAbs : Int)) = x := by rw [w64_hi (by omega) (by omega)]; omega
        simp -implicitDefEqProofs (maxSteps := 10000000) only [integer_Small, bI, hl, ll, hlp, e1, e2, e3, e4, e5, e6, e7, e8, e9, s1, b1, b2, toDs, ubt_, go_sem, reduceCtorEq, ↓reduceIte, Nat.reduceEqDiff, iv, bv]
      · obtain ⟨b1, b2⟩ := smb_f (x := x) (fun h => hm h.1)
        have e7 : decide ((x.natAbs : Int) ≤ 9223372036854775808) = false := le_f (by omega)
        simp -implicitDefEqProofs (maxSteps := 10000000) only [integer_Small, bI, hl, ll, hlp, e1, e2, e3, e4, e5, e6, e7, s1, b1, b2, toDs, ubt_, go_sem, reduceCtorEq, ↓reduceIte, Nat.reduceEqDiff, iv, bv]
    · have s1 : decide (x < 0) = false := lt_f hs
      by_cases hm : x < 9223372036854775808
      · obtain ⟨b1, b2⟩ := smb_t (x := x) ⟨by omega, hm⟩
        have e7 : decide ((x.natAbs : Int) < 9223372036854775808) = true := lt_t (by omega)
        have e9 : w64 (x.natAbs : Int) = x := by rw [w64_id (by omega) (by omega)]; omega
        simp -implicitDefEqProofs (maxSteps := 10000000) only [integer_Small, bI, hl, ll, hlp, e1, e2, e3, e4, e5, e6, e7, e9, s1, b1, b2, toDs, ubt_, go_sem, reduceCtorEq, ↓reduceIte, Nat.reduceEqDiff, iv, bv]
      · obtain ⟨b1, b2⟩ := smb_f (x := x) (fun h => hm h.2)
        have e7 : decide ((x.natAbs : Int) < 9223372036854775808) = false := lt_f (by omega)
        simp -implicitDefEqProofs (maxSteps := 10000000) only [integer_Small, bI, hl, ll, hlp, e1, e2, e3, e4, e5, e6, e7, s1, b1, b2, toDs, ubt_, go_sem, reduceCtorEq, ↓reduceIte, Nat.reduceEqDiff, iv, bv]
  · have e3 : ((l.length : Int) == 3) = false := beq_f (by omega)
    by_cases hs : x < 0
    · have s1 : decide (x < 0) = true := lt_t hs
      by_cases hm : -9223372036854775808 ≤ x
      · obtain ⟨b1, b2⟩ := smb_t (x := x) ⟨hm, by omega⟩
        have e7 : decide ((x.natAbs : Int) ≤ 9223372036854775808) = true := le_t (by omega)
        have e8 : (0 - (x.natAbs : Int)) % 18446744073709551616 = 18446744073709551616 - (x.natAbs : Int) := by omega
        have e9 : w64 (18446744073709551616 - (x.natAbs : Int)) = x := by rw [w64_hi (by omega) (by omega)]; omega
        simp -implicitDefEqProofs (maxSteps := 10000000) only [integer_Small, bI, hl, ll, hlp, e1, e2, e3, e7, e8, e9, s1, b1, b2, toDs, ubt_, go_sem, reduceCtorEq, ↓reduceIte, Nat.reduceEqDiff, iv, bv]
      · obtain ⟨b1, b2⟩ := smb_f (x := x) (fun h => hm h.1)
        have e7 : decide ((x.natAbs : Int) ≤ 9223372036854775808) = false := le_f (by omega)
        simp -implicitDefEqProofs (maxSteps := 10000000) only [integer_Small, bI, hl, ll, hlp, e1, e2, e3, e7, s1, b1, b2, toDs, ubt_, go_sem, reduceCtorEq, ↓reduceIte, Nat.reduceEqDiff, iv, bv]
    · have s1 : decide (x < 0) = false := lt_f hs
      by_cases hm : x < 9223372036854775808
      · obtain ⟨b1, b2⟩ := smb_t (x := x) ⟨by omega, hm⟩
        have e7 : decide ((x.natAbs : Int) < 9223372036854775808) = true := lt_t (by omega)
        have e9 : w64 (x.natAbs : Int) = x := by rw [w64_id (by omega) (by omega)]; omega
        simp -implicitDefEqProofs (maxSteps := 10000000) only [integer_Small, bI, hl, ll, hlp, e1, e2, e3, e7, e9, s1, b1, b2, toDs, ubt_, go_sem, reduceCtorEq, ↓reduceIte, Nat.reduceEqDiff, iv, bv]
      · obtain ⟨b1, b2⟩ := smb_f (x := x) (fun h => hm h.2)
        have e7 : decide ((x.natAbs : Int) < 9223372036854775808) = false := lt_f (by omega)
        simp -implicitDefEqProofs (maxSteps := 10000000) only [integer_Small, bI, hl, ll, hlp, e1, e2, e3, e7, s1, b1, b2, toDs, ubt_, go_sem, reduceCtorEq, ↓reduceIte, Nat.reduceEqDiff, iv, bv]
end Go.AM

/- ref04.Small. -/
namespace Go.AM
open Go Go.RowKit

theorem sgn_gt {a : Int} : decide (Int.sign a > 0) = decide (0 < a) := by
  apply decide_eq_decide.2
  rcases Int.lt_trichotomy a 0 with h | h | h
  · rw [Int.sign_eq_neg_one_of_neg h]; omega
  · subst h; simp
  · rw [Int.sign_eq_one_of_pos h]; omega
theorem sgn_lt {a : Int} : decide (Int.sign a < 0) = decide (a < 0) := by
  apply decide_eq_decide.2
  rcases Int.lt_trichotomy a 0 with h | h | h
  · rw [Int.sign_eq_neg_one_of_neg h]; omega
  · subst h; simp
  · rw [Int.sign_eq_one_of_pos h]; omega
variable [Its]
section
variable {x : Int} {l : List Int}
def rsm_st (x u i : Int) : St := mkS [(1, .ptr [1] 0), (4, ai u), (5, ai i)] [([1], bI x)]
def rsm_en (u : Int) : St := mkS [(4, ai u)] []
theorem rsm_stop (u : Int) : X G gantryref04_Small_l0 (rsm_st x u (-1)) = some (.x 0, rsm_en u) := by
  have e1 : decide ((-1 : Int) ≥ 0) = false := rfl
  simp -implicitDefEqProofs (maxSteps := 10000000) only [gantryref04_Small_l0, rsm_st, rsm_en, bI, e1, go_sem, reduceCtorEq, ↓reduceIte, Nat.reduceEqDiff, iv]
theorem rsm_go (hl : digs x.natAbs = l) (hx : I64 x) {i : Nat} (hi : i < l.length) (h3 : l.length ≤ 1000) : X G gantryref04_Small_l0 (rsm_st x (sgn (decide (x < 0)) (val (l.drop (i + 1)))) i) = some (.n, rsm_st x (sgn (decide (x < 0)) (val (l.drop i))) ((i : Int) - 1)) := by
  have hd : Dig l := hl ▸ digs_dig _
  have hv : val l = x.natAbs := hl ▸ val_digs _
  have e1 : decide ((i : Int) ≥ 0) = true := ge_t (by omega)
  have e2 : w64 ((i : Int) - 1) = (i : Int) - 1 := w64_id (by omega) (by omega)
  have x1 := (Rw.dg l).ixn hi
  have x2 := fun h => ldv h l hi
  have h0 := val_nonneg (hd.drop (i + 1))
  have h1 := hd.getD i
  have h2 := val_getD_drop l i hi
  have h4 := val_drop_le hd i
  have h5 : val (l.drop i) = val (l.drop (i + 1)) * 1000000000 + l.getD i 0 := by omega
  obtain ⟨h6, h7⟩ := hx
  rw [h5]
  generalize val (l.drop (i + 1)) = u at *
  generalize l.getD i 0 = d at *
  by_cases hs : x < 0
  · have s1 : decide (x < 0) = true := lt_t hs
    have e3 : w64 (-u * 1000000000) = -(u * 1000000000) := by rw [w64_id (by omega) (by omega)]; omega
    have e5 : w64 (-(u * 1000000000) - d) = -(u * 1000000000 + d) := by rw [w64_id (by omega) (by omega)]; omega
    simp -implicitDefEqProofs (maxSteps := 10000000) only [gantryref04_Small_l0, rsm_st, bI, sgn, hl, x1, x2, e1, e2, e3, e5, s1, go_sem, reduceCtorEq, ↓reduceIte, Nat.reduceEqDiff, iv]
  · have s1 : decide (x < 0) = false := lt_f hs
    have e3 : w64 (u * 1000000000) = u * 1000000000 := w64_id (by omega) (by omega)
    have e5 : w64 (u * 1000000000 + d) = u * 1000000000 + d := w64_id (by omega) (by omega)
    simp -implicitDefEqProofs (maxSteps := 10000000) only [gantryref04_Small_l0, rsm_st, bI, sgn, hl, x1, x2, e1, e2, e3, e5, s1, go_sem, reduceCtorEq, ↓reduceIte, Nat.reduceEqDiff, iv]
theorem rsm_loop (hl : digs x.natAbs = l) (hx : I64 x) (h3 : l.length ≤ 1000) : ∀ i : Nat, i ≤ l.length → X G (.loop gantryref04_Small_l0) (rsm_st x (sgn (decide (x < 0)) (val (l.drop i))) ((i : Int) - 1)) = some (.x 0, rsm_en x)
  | 0, _ => by
    have e : sgn (decide (x < 0)) (val (l.drop 0)) = x := by
      rw [List.drop_zero, show val l = x.natAbs from hl ▸ val_digs _]
      by_cases hs : x < 0
      · rw [lt_t hs]; simp only [sgn, if_true]; omega
      · rw [lt_f hs]; simp only [sgn, Bool.false_eq_true, if_false]; omega
    rw [X_loop, show ((0 : Nat) : Int) - 1 = -1 from rfl, rsm_stop, e]; rfl
  | i + 1, h => by
    rw [X_loop, show ((i + 1 : Nat) : Int) - 1 = (i : Int) by omega, rsm_go hl hx (by omega) h3, Option.bind_some, if_pos rfl]
    exact rsm_loop hl hx h3 i (by omega)
end
theorem rSmall_spec {x : Int} (hx : nd x ≤ 1000000000000) : callX G n_gantryref04_Small [encI x] = some (.d (.tup [iv (smv x), bv (smb x)])) := by
  rw [callX_eq (cf := gantryref04_Small) rfl]
  have g1 := rOf_spec (n := 9223372036854775807) ⟨by omega, by omega⟩
  have g2 := rOf_spec (n := -9223372036854775808) ⟨by omega, by omega⟩
  have g3 := rCompare_spec (x := x) (y := 9223372036854775807) hx (Nat.le_trans (nd_i64 ⟨by omega, by omega⟩) (by omega))
  have g4 := rCompare_spec (x := x) (y := -9223372036854775808) hx (Nat.le_trans (nd_i64 ⟨by omega, by omega⟩) (by omega))
  simp only [iv] at g1 g2 g3 g4
  have c1 := sgn_gt (a := x - 9223372036854775807)
  have c2 := sgn_lt (a := x - -9223372036854775808)
  generalize Int.sign (x - 9223372036854775807) = s1 at *
  generalize Int.sign (x - -9223372036854775808) = s2 at *
  by_cases h1 : 0 < x - 9223372036854775807
  · rw [gt_t h1] at c1
    obtain ⟨b1, b2⟩ := smb_f (x := x) (fun h => by have := h.2; omega)
    simp -implicitDefEqProofs (maxSteps := 10000000) only [gantryref04_Small, bI, g1, g2, g3, g4, c1, b1, b2, toDs, ubt_, go_sem, reduceCtorEq, ↓reduceIte, Nat.reduceEqDiff, iv, bv]
  rw [gt_f h1] at c1
  by_cases h2 : x - -9223372036854775808 < 0
  · rw [lt_t h2] at c2
    obtain ⟨b1, b2⟩ := smb_f (x := x) (fun h => by have := h.1; omega)
    simp -implicitDefEqProofs (maxSteps := 10000000) only [gantryref04_Small, bI, g1, g2, g3, g4, c1, c2, b1, b2, toDs, ubt_, go_sem, reduceCtorEq, ↓reduceIte, Nat.reduceEqDiff, iv, bv]
  rw [lt_f h2] at c2
  have hI : I64 x := ⟨by omega, by omega⟩
  obtain ⟨b1, b2⟩ := smb_t hI
  obtain ⟨l, hl⟩ : ∃ l, digs x.natAbs = l := ⟨_, rfl⟩
  have h3 : l.length ≤ 3 := by rw [← hl]; exact nd_i64 hI
  have ll := lenA_dg l
  have e2 : w64 ((l.length : Int) - 1) = (l.length : Int) - 1 := w64_id (by omega) (by omega)
  have hlp := rsm_loop hl hI (by omega) l.length (Nat.le_refl _)
  have e0 : sgn (decide (x < 0)) 0 = 0 := by cases decide (x < 0) <;> rfl
  rw [List.drop_length, val, e0] at hlp
  simp only [rsm_st, rsm_en, bI, go_sem] at hlp
  simp -implicitDefEqProofs (maxSteps := 10000000) only [gantryref04_Small, bI, g1, g2, g3, g4, c1, c2, b1, b2, hl, ll, e2, hlp, toDs, ubt_, go_sem, reduceCtorEq, ↓reduceIte, Nat.reduceEqDiff, iv, bv]
end Go.AM

/- law04.same, ref04.Sub. -/
namespace Go.AM
open Go Go.RowKit
variable [Its]
theorem S4_refl {x : Int} (h : nd x ≤ 1000000000000) : callX G n_gantryref04_Same [encI x, encI x] = some (.d (bv true)) := s4_refl (b := decide (x < 0)) (l := digs x.natAbs) h
theorem sm4 {x y : Int} (e : x = y) (h : nd x ≤ 1000000000000) : callX G n_gantrylaw04_same [encI x, encI y] = some (.d (bv true)) := by
  subst e
  rw [callX_eq (cf := gantrylaw04_same) rfl]
  have g := S4_refl h
  simp only [bv] at g
  simp -implicitDefEqProofs (maxSteps := 10000000) only [gantrylaw04_same, bI, g, go_sem, reduceCtorEq, ↓reduceIte, Nat.reduceEqDiff, iv, bv]
theorem rSub4 {x y : Int} (hx : nd x ≤ 100000000000) (hy : nd y ≤ 100000000000) : callX G n_gantryref04_Sub [encI x, encI y] = some (.d (encI (x - y))) := by
  rw [callX_eq (cf := gantryref04_Sub) rfl]
  have g1 := rNeg_spec (x := y) (by omega)
  have g2 := rAdd_spec (x := x) (y := -y) (by omega) (by rw [nd_neg]; omega)
  rw [show x + -y = x - y by omega] at g2
  simp -implicitDefEqProofs (maxSteps := 10000000) only [gantryref04_Sub, bI, g1, g2, go_sem, reduceCtorEq, ↓reduceIte, Nat.reduceEqDiff, iv, bv]
end Go.AM

