/- Part 8 of the proof: a small machine, its soundness against the model, and what the program's functions compute on it. -/
import Derived.Test.YtecihganhcapoaaGreatDoorM7
import Derived.Test.YtecihganhcapoaaGreatDoorM5
import GoSem.Claims
import Derived.KernelRfl
import Derived.Test.YtecihganhcapoaaGreatDoorM6
import Derived.Lib.LaidTab
import Derived.LaidMore
import Derived.MakeChecks
import Derived.Test.YtecihganhcapoaaGreatDoorCards
import Derived.Test.YtecihganhcapoaaGreatDoorTie
import Derived.WalkKit
import Derived.ProofKit
import Derived.OpenShut
import Derived.ShutString
import Derived.ChangeOld
import Derived.Below
import Derived.SizedLaws
import Derived.Lay
import Derived.SevenTiedAt
import Derived.Stop.Joined
set_option linter.unusedVariables false
set_option linter.unusedSimpArgs false
/- The library's part of the texts: strings.Trim at digits, integer.Text of numbers that are not negative. -/
namespace Go.AM
open Go Go.Proofs Go.RowKit

def tenD : List UInt8 := [48, 49, 50, 51, 52, 53, 54, 55, 56, 57]
def decF : Nat → Nat → List UInt8
  | 0, _ => []
  | k + 1, u => if u < 10 then [UInt8.ofNat (48 + u)] else decF k (u / 10) ++ [UInt8.ofNat (48 + u % 10)]
theorem decF_eq : ∀ (k u : Nat), u < 10 ^ (k + 1) → Lib.decDigits u = decF (k + 1) u
  | 0, u, h => by
    have h1 : u < 10 := by simpa using h
    rw [Lib.decDigits, decF, dif_pos h1, if_pos h1]
  | k + 1, u, h => by
    rw [Lib.decDigits, decF]
    by_cases h1 : u < 10
    · rw [dif_pos h1, if_pos h1]
    · rw [dif_neg h1, if_neg h1, decF_eq k (u / 10) (by rw [Nat.pow_succ] at h; omega)]
def itoaF (d : Int) : List UInt8 := decF 9 d.toNat
def rep48 : Nat → List UInt8
  | 0 => []
  | n + 1 => 48 :: rep48 n
def restF (l : List Int) : Nat → List UInt8
  | 0 => []
  | j + 1 => rep48 (9 - (itoaF (l.getD j 0)).length) ++ itoaF (l.getD j 0) ++ restF l j
def intsD : List D → Option (List Int)
  | [] => some []
  | .v (.int .i64 d) :: r => (intsD r).map (d :: ·)
  | _ => none
def dig9 (l : List Int) : Bool := l.all fun d => decide (0 ≤ d) && decide (d < 1000000000)
def orc4 (f : Nat) (ds : List D) : Option R :=
  if f = 76 then match ds with
    | [.v (.string s), .v (.string c)] => if c.data.toList = tenD ∧ s.size ≤ 1000000 ∧ s.data.toList.all (tenD.contains ·) = true then some (.d (.v (.string ⟨#[]⟩))) else none
    | _ => none
  else if f = 42 then match ds with
    | [.agg [.v (.bool false), .row (n + 1) cs]] => (intsD cs).bind fun l => if l.length = n + 1 ∧ n ≤ 1000000 ∧ dig9 l = true then some (.d (.v (.string ⟨(itoaF (l.getD n 0) ++ restF l n).toArray⟩))) else none
    | _ => none
  else none

theorem rep48_eq : ∀ n, rep48 n = Lib.repeatL [48] n
  | 0 => rfl
  | n + 1 => by rw [rep48, Lib.repeatL, rep48_eq n]; rfl
theorem itoaF_eq {d : Int} (h : 0 ≤ d ∧ d < 1000000000) : Lib.itoa d = itoaF d := by
  unfold Lib.itoa itoaF
  rw [if_neg (by omega)]
  exact decF_eq 8 _ (by have : (10 : Nat) ^ (8 + 1) = 1000000000 := by decide
                        omega)
theorem dig9_at {l : List Int} (h : dig9 l = true) (i : Nat) : 0 ≤ l.getD i 0 ∧ l.getD i 0 < 1000000000 := by
  by_cases hi : i < l.length
  · have e : l.getD i 0 = l[i] := by rw [List.getD_eq_getElem?_getD, List.getElem?_eq_getElem hi]; rfl
    rw [e]
    have := List.all_eq_true.1 h _ (List.getElem_mem hi)
    simpa using this
  · have e : l.getD i 0 = 0 := by rw [List.getD_eq_getElem?_getD, List.getElem?_eq_none (by omega)]; rfl
    rw [e]; omega
theorem restF_eq {l : List Int} (h : dig9 l = true) : ∀ j, restL (fun i => l.getD i 0) j = restF l j
  | 0 => rfl
  | j + 1 => by
    rw [restL, restF, pad9, restF_eq h j, itoaF_eq (dig9_at h j), rep48_eq]
theorem intsD_rep {S : Nat → Prop} {w : World} : ∀ {cs : List D} {l : List Int} {vs : List Value}, intsD cs = some l → RepL S w cs vs → vs = l.map fun d => Value.int .i64 d
  | [], l, vs, h, hr => by
    cases hr
    simp only [intsD, Option.some.injEq] at h
    subst h; rfl
  | c :: cs, l, vs, h, hr => by
    cases hr with
    | cons _ _ v vs hv ht =>
      unfold intsD at h
      split at h
      · rename_i heq; cases heq
      · rename_i d r heq
        cases heq
        simp only [Option.map_eq_some_iff] at h
        obtain ⟨l', h1, rfl⟩ := h
        rw [intsD_rep h1 ht]
        cases hv; rfl
      · cases h
theorem trim_all {l cs : List UInt8} (h : l.all (cs.contains ·) = true) : Lib.trimS l cs = [] := by
  have h1 : ∀ m : List UInt8, m.all (cs.contains ·) = true → m.dropWhile (cs.contains ·) = [] := by
    intro m
    induction m with
    | nil => intro _; rfl
    | cons a m ih =>
      intro hm
      simp only [List.all_cons, Bool.and_eq_true] at hm
      rw [List.dropWhile_cons, if_pos hm.1, ih hm.2]
  unfold Lib.trimS Lib.trimLeftS Lib.trimRightS
  rw [h1 l.reverse (by rw [List.all_reverse]; exact h)]
  rfl
theorem tab_is {w : World} (h : TabOk w) : Lib.TabIs Tryz.prog w "internal/strconv.uint64pow10" .u64 Lib.pow10Tab := by
  obtain ⟨_, T, fz, hb⟩ := h _ (List.mem_cons_self ..)
  have hg : Tryz.prog.globalNamed "internal/strconv.uint64pow10" = some 2 := by kernel_rfl
  unfold Lib.TabIs World.var?
  rw [hg, Option.bind_some]
  simp only at hb
  rw [hb]
  rfl
theorem orc4_ok : ∀ f ds r, ft f = none → orc4 f ds = some r → CallOk Tryz.prog f ds r := by
  intro f ds r _ h
  unfold orc4 at h
  split at h
  · rename_i hf
    subst hf
    split at h
    · rename_i s c
      split at h
      · rename_i hc
        obtain ⟨h1, h2, h3⟩ := hc
        cases h
        refine ⟨⟨Tryz.f76, Tryz.func76, by kernel_rfl, by decide⟩, fun S w vs hT hrep hlt => ?_⟩
        cases hrep with
        | cons _ _ v1 vs1 r1 t1 =>
        cases t1 with
        | cons _ _ v2 vs2 r2 t2 =>
        cases t2; cases r1; cases r2
        have hcon := Any.strings_Trim_laid Tryz.lays160 (by kernel_rfl) s c w (by omega) (by
          have : c.size = c.data.toList.length := by show c.data.size = _; simp
          rw [this, h1]; decide) (by rw [h1]; exact ascii_of_all (by decide))
        rw [h1, trim_all h3] at hcon
        refine Calls.mono hcon ?_
        rintro e w' ⟨rfl, hb⟩
        exact ⟨_, rfl, hb, RepD.v _⟩
      · cases h
    · cases h
  · split at h
    · rename_i hf
      subst hf
      split at h
      · rename_i n cs
        simp only [Option.bind_eq_some_iff] at h
        obtain ⟨l, hl, h⟩ := h
        split at h
        · rename_i hc
          obtain ⟨h1, h2, h3⟩ := hc
          cases h
          refine ⟨⟨Tryz.f42, Tryz.func42, by kernel_rfl, by decide⟩, fun S w vs hT hrep hlt => ?_⟩
          cases hrep with
          | cons _ _ v1 vs1 r1 t1 =>
          cases t1
          cases r1 with
          | agg _ vs2 h4 =>
          cases h4 with
          | cons _ _ v3 vs3 r3 t3 =>
          cases t3 with
          | cons _ _ v4 vs4 r4 t4 =>
          cases t4; cases r3
          cases r4 with
          | row _ _ ad cap vs5 g1 g2 g3 g4 =>
            have hv := intsD_rep hl g3
            subst hv
            have hw := text_walk (fun i => l.getD i 0) n (itoaF (l.getD n 0) ++ restF l n) (by rw [itoaF_eq (dig9_at h3 n), restF_eq h3]) (by omega) (dig9_at h3) ad cap w (fun i hi => by
              refine g4 i _ ?_
              rw [List.getElem?_map, List.getD_eq_getElem?_getD, List.getElem?_eq_getElem (by omega)]; rfl) (hlt _ g2) (Lib.tabBelow_of_tabIs (tab_is hT))
            refine Calls.mono hw ?_
            rintro e w' ⟨rfl, hb⟩
            exact ⟨_, rfl, hb, RepD.v _⟩
        · cases h
      · cases h
    · cases h
instance its4 : Its := { it := fun _ _ => none, orc := orc4 }
theorem env4 : EnvOk Tryz.prog (@G its4) := @env_okO its4 (fun _ _ _ h => by cases h) orc4_ok
end Go.AM

/- law04.lives, by the kernel. -/
namespace Go.AM
open Go Go.RowKit Go.Proofs
theorem lives4 : callX (@G its4) n_gantrylaw04_lives [] = some (.d (bv true)) := callX_some.2 ⟨60, by kernel_rfl⟩
end Go.AM

/- gantryref04: times, divided -/
namespace Go.AM
open Go Go.RowKit

variable [Its]

section
variable (da : D) (y n : Nat) (o : List Int) (i R : Nat)
end
end Go.AM

/- gantryref04: divided -/
namespace Go.AM
open Go Go.RowKit

variable [Its]

section
variable (da : D) (a : List Int) (y : Nat)
end

end Go.AM

/- ref04.Div -/
namespace Go.AM
open Go Go.RowKit
variable [Its]

end Go.AM

/- ref04.Gcd -/
namespace Go.AM
open Go Go.RowKit
variable [Its]

end Go.AM

/- Rationals as the program holds them; rat.unit, one, lowest, Make, Of, Den -/
namespace Go.AM
open Go Go.RowKit

/-- Digits it takes. -/
def sz (q : Rat) : Nat := max (nd q.num) (nd (q.den : Int))
variable [Its]

end Go.AM

/- rat.lowest, Make, Of; ref05.Make, Of -/
namespace Go.AM
open Go Go.RowKit

variable [Its]

end Go.AM

/- Laws of rationals for rat and ref05. -/
namespace Go.AM
open Go Go.RowKit

end Go.AM

/- rat.Neg, Sign, Add, Sub, Mul, Div, Compare -/
namespace Go.AM
open Go Go.RowKit

variable [Its]

end Go.AM

/- ref05.Neg, Sign, Add, Sub, Mul, Div, Compare -/
namespace Go.AM
open Go Go.RowKit
variable [Its]

end Go.AM

/- Rationals: signs, sizes, names for what comes out; ref01. -/
namespace Go.AM
open Go Go.RowKit

variable [Its]

end Go.AM

/- Valid: integer, ref04, rat, ref05, poly, ref06, at canonical numbers. -/
namespace Go.AM
open Go Go.RowKit

theorem ubt : A.bool? (.d (.v (.tuple #[]))) = none := rfl
variable [Its]

theorem V1_spec {x : Int} (h : 0 ≤ x ∧ x < 1000000000) : callX G n_integer_Valid_1 [iv x] = some (.d (bv false)) := by
  rw [callX_eq (cf := integer_Valid_1) rfl]
  have e1 : decide (x < 0) = false := lt_f (by omega)
  have e2 : decide (x ≥ 1000000000) = false := decide_eq_false (by omega)
  simp -implicitDefEqProofs (maxSteps := 10000000) only [integer_Valid_1, e1, e2, go_sem, iv, bv, reduceCtorEq, ↓reduceIte, Nat.reduceEqDiff]
def ixi_st (d : D) (f : Nat) (n i : Int) : St := mkS [(0, .d d), (1, .d (.fn f [])), (7, ai n), (8, ai i)] []
end Go.AM

/- Valid at any digits: integer, ref04, rat, ref05. -/
namespace Go.AM
open Go Go.RowKit

def dOk (x : Int) : Bool := decide (0 ≤ x) && decide (x < 1000000000)
def vI (b : Bool) (l : List Int) : Bool := l.all dOk && (if l = [] then !b else l.getD (l.length - 1) 0 != 0)
theorem dOk_t {x : Int} (h : dOk x = true) : 0 ≤ x ∧ x < 1000000000 := by simpa [dOk] using h
theorem dOk_f {x : Int} (h : dOk x = false) : x < 0 ∨ (¬ x < 0 ∧ 1000000000 ≤ x) := by
  by_cases h0 : x < 0
  · exact .inl h0
  · right
    refine ⟨h0, ?_⟩
    rcases Int.lt_or_le x 1000000000 with h1 | h1
    · exfalso
      have : dOk x = true := by simp [dOk]; omega
      rw [this] at h; cases h
    · exact h1
theorem all_split (l : List Int) (i : Nat) (hi : i < l.length) : (l.drop i).all dOk = (dOk (l.getD i 0) && (l.drop (i + 1)).all dOk) := by
  have e : l.drop i = l.getD i 0 :: l.drop (i + 1) := by
    rw [List.drop_eq_getElem_cons hi, List.getD_eq_getElem?_getD, List.getElem?_eq_getElem hi]; rfl
  rw [e, List.all_cons]
theorem Rw.one {d : D} {l : List Int} (h : Rw d l) : A.one (.d d) = true := by
  rcases h with rfl | rfl
  · exact one_dg' l
  · rfl
theorem Rw.dcl {d : D} {l : List Int} (h : Rw d l) : cellsOf (.d d) = [.d d] := by
  rcases h with rfl | rfl
  · cases l <;> rfl
  · rfl
theorem Rw.donee {d : D} {l : List Int} (h : Rw d l) : d.one = true := by
  rcases h with rfl | rfl
  · cases l <;> rfl
  · rfl
def bxd (b : Bool) (d : D) : Obj := ⟨0, 0, [.d (.v (.bool b)), .d d], false⟩
variable [Its]

theorem V1_gen (x : Int) : callX G n_integer_Valid_1 [iv x] = some (.d (bv (!dOk x))) := by
  cases h : dOk x with
  | true => exact V1_spec (dOk_t h)
  | false =>
    rw [callX_eq (cf := integer_Valid_1) rfl]
    rcases dOk_f h with h | ⟨h0, h⟩
    · have e1 : decide (x < 0) = true := lt_t h
      simp -implicitDefEqProofs (maxSteps := 10000000) only [integer_Valid_1, e1, go_sem, iv, bv, reduceCtorEq, ↓reduceIte, Nat.reduceEqDiff]
    · have e1 : decide (x < 0) = false := lt_f (by omega)
      have e2 : decide (x ≥ 1000000000) = true := ge_t (by omega)
      simp -implicitDefEqProofs (maxSteps := 10000000) only [integer_Valid_1, e1, e2, go_sem, iv, bv, reduceCtorEq, ↓reduceIte, Nat.reduceEqDiff]
theorem ixg_go {d : D} {l : List Int} (hr : Rw d l) (hl : l.length ≤ 1000000000000) {i : Nat} (hi : i < l.length) (hx : dOk (l.getD i 0) = true) : X G slices_IndexFunc_int_int_l0 (ixi_st d n_integer_Valid_1 (l.length : Nat) i) = some (.n, ixi_st d n_integer_Valid_1 (l.length : Nat) ((i + 1 : Nat) : Int)) := by
  have e1 : decide ((i : Int) < (l.length : Int)) = true := lt_t (by omega)
  have e2 : w64 ((i : Int) + 1) = ((i + 1 : Nat) : Int) := by rw [w64_id (by omega) (by omega)]; rfl
  have x1 := hr.ixn hi
  have x2 := fun h => ldv h l hi
  have g := V1_gen (l.getD i 0)
  rw [hx] at g
  generalize l.getD i 0 = x at *
  simp only [iv, bv, Bool.not_true] at g
  simp -implicitDefEqProofs (maxSteps := 10000000) only [slices_IndexFunc_int_int_l0, ixi_st, x1, x2, e1, e2, g, List.append_nil, go_sem, iv, bv, reduceCtorEq, ↓reduceIte, Nat.reduceEqDiff]
theorem ixg_bad {d : D} {l : List Int} (hr : Rw d l) (hl : l.length ≤ 1000000000000) {i : Nat} (hi : i < l.length) (hx : dOk (l.getD i 0) = false) : X G slices_IndexFunc_int_int_l0 (ixi_st d n_integer_Valid_1 (l.length : Nat) i) = some (.r, mkS [(4, ai i)] []) := by
  have e1 : decide ((i : Int) < (l.length : Int)) = true := lt_t (by omega)
  have x1 := hr.ixn hi
  have x2 := fun h => ldv h l hi
  have g := V1_gen (l.getD i 0)
  rw [hx] at g
  generalize l.getD i 0 = x at *
  simp only [iv, bv, Bool.not_false] at g
  simp -implicitDefEqProofs (maxSteps := 10000000) only [slices_IndexFunc_int_int_l0, ixi_st, x1, x2, e1, g, List.append_nil, go_sem, iv, bv, reduceCtorEq, ↓reduceIte, Nat.reduceEqDiff]
theorem ixg_stop {d : D} {n : Nat} : X G slices_IndexFunc_int_int_l0 (ixi_st d n_integer_Valid_1 n n) = some (.x 0, mkS [] []) := by
  have e1 : decide ((n : Int) < (n : Int)) = false := lt_f (by omega)
  simp -implicitDefEqProofs (maxSteps := 10000000) only [slices_IndexFunc_int_int_l0, ixi_st, e1, go_sem, iv, bv, reduceCtorEq, ↓reduceIte, Nat.reduceEqDiff]
theorem ixg_loop {d : D} {l : List Int} (hr : Rw d l) (hl : l.length ≤ 1000000000000) : ∀ j i : Nat, i + j = l.length →
    ((l.drop i).all dOk = true ∧ X G (.loop slices_IndexFunc_int_int_l0) (ixi_st d n_integer_Valid_1 (l.length : Nat) i) = some (.x 0, mkS [] [])) ∨
    ((l.drop i).all dOk = false ∧ ∃ k : Nat, X G (.loop slices_IndexFunc_int_int_l0) (ixi_st d n_integer_Valid_1 (l.length : Nat) i) = some (.r, mkS [(4, ai k)] []))
  | 0, i, h => by
    have : i = l.length := by omega
    subst this
    rw [X_loop, ixg_stop]
    exact .inl ⟨by rw [List.drop_length]; rfl, rfl⟩
  | j + 1, i, h => by
    rw [all_split l i (by omega)]
    cases hx : dOk (l.getD i 0) with
    | true =>
      rw [X_loop, ixg_go hr hl (by omega) hx, Option.bind_some, if_pos rfl, Bool.true_and]
      exact ixg_loop hr hl j (i + 1) (by omega)
    | false =>
      rw [X_loop, ixg_bad hr hl (by omega) hx, Bool.false_and]
      exact .inr ⟨rfl, i, rfl⟩
theorem ctg_spec {d : D} {l : List Int} (hr : Rw d l) (hl : l.length ≤ 1000000000000) : callX G n_slices_ContainsFunc_int_int [d, .fn n_integer_Valid_1 []] = some (.d (bv (!(l.all dOk)))) := by
  have ll := hr.len
  rw [callX_eq (cf := slices_ContainsFunc_int_int) rfl]
  rcases ixg_loop hr hl l.length 0 (by omega) with ⟨h1, h⟩ | ⟨h1, k, h⟩
  · have g : callX G n_slices_IndexFunc_int_int [d, .fn n_integer_Valid_1 []] = some (.d (iv (-1))) := by
      rw [callX_eq (cf := slices_IndexFunc_int_int) rfl]
      simp only [ixi_st, go_sem, nc0] at h
      simp -implicitDefEqProofs (maxSteps := 10000000) only [slices_IndexFunc_int_int, ll, h, go_sem, iv, bv, reduceCtorEq, ↓reduceIte, Nat.reduceEqDiff]
    rw [List.drop_zero] at h1
    rw [h1]
    have e1 : decide ((-1 : Int) ≥ 0) = false := rfl
    simp only [iv] at g
    simp -implicitDefEqProofs (maxSteps := 10000000) only [slices_ContainsFunc_int_int, g, e1, go_sem, iv, bv, reduceCtorEq, ↓reduceIte, Nat.reduceEqDiff]
  · have g : callX G n_slices_IndexFunc_int_int [d, .fn n_integer_Valid_1 []] = some (.d (iv k)) := by
      rw [callX_eq (cf := slices_IndexFunc_int_int) rfl]
      simp only [ixi_st, go_sem, nc0] at h
      simp -implicitDefEqProofs (maxSteps := 10000000) only [slices_IndexFunc_int_int, ll, h, go_sem, iv, bv, reduceCtorEq, ↓reduceIte, Nat.reduceEqDiff]
    rw [List.drop_zero] at h1
    rw [h1]
    have e1 : decide ((k : Int) ≥ 0) = true := ge_t (by omega)
    simp only [iv] at g
    simp -implicitDefEqProofs (maxSteps := 10000000) only [slices_ContainsFunc_int_int, g, e1, go_sem, iv, bv, reduceCtorEq, ↓reduceIte, Nat.reduceEqDiff]
theorem iValid_gen {b : Bool} {d : D} {l : List Int} (hr : Rw d l) (hl : l.length ≤ 1000000000000) : callX G n_integer_Valid [.agg [.v (.bool b), d]] = some (.d (bv (vI b l))) := by
  rw [callX_eq (cf := integer_Valid) rfl]
  have g := ctg_spec hr hl
  have o1 := hr.one
  have o2 := hr.dcl
  have o3 := hr.donee
  have ll := hr.len
  unfold vI
  cases ha : l.all dOk with
  | false =>
    rw [ha] at g
    simp only [bv, Bool.not_false] at g
    simp -implicitDefEqProofs (maxSteps := 10000000) only [integer_Valid, g, o1, o2, o3, go_sem, stcells, ldcells, iv, bv, reduceCtorEq, ↓reduceIte, Nat.reduceEqDiff, Bool.false_and]
  | true =>
    rw [ha] at g
    simp only [bv, Bool.not_true] at g
    by_cases h0 : l = []
    · subst h0
      have e0 : ((((([] : List Int).length : Nat) : Int)) == 0) = true := rfl
      have e0' : ((0 : Int) == 0) = true := rfl
      have e2 : decide (((([] : List Int).length : Nat) : Int) > 0) = false := rfl
      have e2' : decide ((0 : Int) > 0) = false := rfl
      cases b <;> simp -implicitDefEqProofs (maxSteps := 10000000) only [integer_Valid, ubt, g, ll, e0, e0', e2, e2', o1, o2, o3, go_sem, stcells, ldcells, iv, bv, reduceCtorEq, ↓reduceIte, Nat.reduceEqDiff, Bool.true_and]
    · have hp : 0 < l.length := List.length_pos_iff.2 h0
      obtain ⟨n, hn⟩ : ∃ n, l.length = n + 1 := ⟨l.length - 1, by omega⟩
      have e1 : ((l.length : Int) == 0) = false := beq_f (by omega)
      have e2 : decide ((l.length : Int) > 0) = true := gt_t (by omega)
      have e3 : w64 ((l.length : Int) - 1) = (n : Int) := by rw [w64_id (by omega) (by omega)]; omega
      have x1 := hr.ixn (j := n) (by omega)
      have x2 := fun h => ldv h l (j := n) (by omega)
      have en : l.length - 1 = n := by omega
      rw [if_neg h0, en]
      generalize l.getD n 0 = v at *
      simp -implicitDefEqProofs (maxSteps := 10000000) only [integer_Valid, ubt, g, ll, e1, e2, e3, x1, x2, o1, o2, o3, go_sem, stcells, ldcells, iv, bv, reduceCtorEq, ↓reduceIte, Nat.reduceEqDiff, Bool.true_and]

/-! ### ref04.Valid -/
def w4_st (b : Bool) (d : D) (i : Int) : St := mkS [(1, .ptr [1] 0), (3, ai i)] [([1], bxd b d)]
theorem w4_go {b : Bool} {d : D} {l : List Int} (hr : Rw d l) (hl : l.length ≤ 1000000000000) {i : Nat} (hi : i < l.length) (hx : dOk (l.getD i 0) = true) : X G gantryref04_Valid_l0 (w4_st b d i) = some (.n, w4_st b d ((i + 1 : Nat) : Int)) := by
  have e1 : decide ((i : Int) < (l.length : Int)) = true := lt_t (by omega)
  have e2 : w64 ((i : Int) + 1) = ((i + 1 : Nat) : Int) := by rw [w64_id (by omega) (by omega)]; rfl
  have x1 := hr.ixn hi
  have x2 := fun h => ldv h l hi
  have ll := hr.len
  obtain ⟨h1, h2⟩ := dOk_t hx
  generalize l.getD i 0 = x at *
  have c1 : decide (x < 0) = false := lt_f (by omega)
  have c2 : decide (x ≥ 1000000000) = false := decide_eq_false (by omega)
  simp -implicitDefEqProofs (maxSteps := 10000000) only [gantryref04_Valid_l0, w4_st, bxd, ll, x1, x2, e1, e2, c1, c2, go_sem, stcells, ldcells, iv, bv, reduceCtorEq, ↓reduceIte, Nat.reduceEqDiff]
theorem w4_bad {b : Bool} {d : D} {l : List Int} (hr : Rw d l) (hl : l.length ≤ 1000000000000) {i : Nat} (hi : i < l.length) (hx : dOk (l.getD i 0) = false) : X G gantryref04_Valid_l0 (w4_st b d i) = some (.r, mkS [(2, .d (.v (.bool false)))] []) := by
  have e1 : decide ((i : Int) < (l.length : Int)) = true := lt_t (by omega)
  have x1 := hr.ixn hi
  have x2 := fun h => ldv h l hi
  have ll := hr.len
  have hx' := dOk_f hx
  generalize l.getD i 0 = x at *
  rcases hx' with h | ⟨h0, h⟩
  · have c1 : decide (x < 0) = true := lt_t h
    simp -implicitDefEqProofs (maxSteps := 10000000) only [gantryref04_Valid_l0, w4_st, bxd, ll, x1, x2, e1, c1, go_sem, stcells, ldcells, iv, bv, reduceCtorEq, ↓reduceIte, Nat.reduceEqDiff]
  · have c1 : decide (x < 0) = false := lt_f (by omega)
    have c2 : decide (x ≥ 1000000000) = true := ge_t (by omega)
    simp -implicitDefEqProofs (maxSteps := 10000000) only [gantryref04_Valid_l0, w4_st, bxd, ll, x1, x2, e1, c1, c2, go_sem, stcells, ldcells, iv, bv, reduceCtorEq, ↓reduceIte, Nat.reduceEqDiff]
theorem w4_stop {b : Bool} {d : D} {l : List Int} (hr : Rw d l) : X G gantryref04_Valid_l0 (w4_st b d (l.length : Nat)) = some (.x 0, mkS [(1, .ptr [1] 0)] [([1], bxd b d)]) := by
  have e1 : decide ((l.length : Int) < (l.length : Int)) = false := lt_f (by omega)
  have ll := hr.len
  simp -implicitDefEqProofs (maxSteps := 10000000) only [gantryref04_Valid_l0, w4_st, bxd, ll, e1, go_sem, stcells, ldcells, iv, bv, reduceCtorEq, ↓reduceIte, Nat.reduceEqDiff]
theorem w4_loop {b : Bool} {d : D} {l : List Int} (hr : Rw d l) (hl : l.length ≤ 1000000000000) : ∀ j i : Nat, i + j = l.length →
    ((l.drop i).all dOk = true ∧ X G (.loop gantryref04_Valid_l0) (w4_st b d i) = some (.x 0, mkS [(1, .ptr [1] 0)] [([1], bxd b d)])) ∨
    ((l.drop i).all dOk = false ∧ X G (.loop gantryref04_Valid_l0) (w4_st b d i) = some (.r, mkS [(2, .d (.v (.bool false)))] []))
  | 0, i, h => by
    have : i = l.length := by omega
    subst this
    rw [X_loop, w4_stop hr]
    exact .inl ⟨by rw [List.drop_length]; rfl, rfl⟩
  | j + 1, i, h => by
    rw [all_split l i (by omega)]
    cases hx : dOk (l.getD i 0) with
    | true =>
      rw [X_loop, w4_go hr hl (by omega) hx, Option.bind_some, if_pos rfl, Bool.true_and]
      exact w4_loop hr hl j (i + 1) (by omega)
    | false =>
      rw [X_loop, w4_bad hr hl (by omega) hx, Bool.false_and]
      exact .inr ⟨rfl, rfl⟩
theorem r4Valid_gen {b : Bool} {d : D} {l : List Int} (hr : Rw d l) (hl : l.length ≤ 1000000000000) : callX G n_gantryref04_Valid [.agg [.v (.bool b), d]] = some (.d (bv (vI b l))) := by
  rw [callX_eq (cf := gantryref04_Valid) rfl]
  have o1 := hr.one
  have o2 := hr.dcl
  have o3 := hr.donee
  have ll := hr.len
  unfold vI
  rcases w4_loop (b := b) hr hl l.length 0 (by omega) with ⟨h1, h⟩ | ⟨h1, h⟩
  · rw [List.drop_zero] at h1
    rw [h1]
    simp only [w4_st, bxd, go_sem, nc0] at h
    by_cases h0 : l = []
    · subst h0
      have e0 : ((((([] : List Int).length : Nat) : Int)) == 0) = true := rfl
      have e0' : ((0 : Int) == 0) = true := rfl
      cases b <;> simp -implicitDefEqProofs (maxSteps := 10000000) only [gantryref04_Valid, ubt, h, ll, e0, e0', o1, o2, o3, go_sem, stcells, ldcells, iv, bv, reduceCtorEq, ↓reduceIte, Nat.reduceEqDiff, Bool.true_and]
    · have hp : 0 < l.length := List.length_pos_iff.2 h0
      obtain ⟨n, hn⟩ : ∃ n, l.length = n + 1 := ⟨l.length - 1, by omega⟩
      have e1 : ((l.length : Int) == 0) = false := beq_f (by omega)
      have e3 : w64 ((l.length : Int) - 1) = (n : Int) := by rw [w64_id (by omega) (by omega)]; omega
      have x1 := hr.ixn (j := n) (by omega)
      have x2 := fun h => ldv h l (j := n) (by omega)
      have en : l.length - 1 = n := by omega
      rw [if_neg h0, en]
      generalize l.getD n 0 = v at *
      simp -implicitDefEqProofs (maxSteps := 10000000) only [gantryref04_Valid, ubt, h, ll, e1, e3, x1, x2, o1, o2, o3, go_sem, stcells, ldcells, iv, bv, reduceCtorEq, ↓reduceIte, Nat.reduceEqDiff, Bool.true_and]
  · rw [List.drop_zero] at h1
    rw [h1]
    simp only [w4_st, bxd, go_sem, nc0] at h
    simp -implicitDefEqProofs (maxSteps := 10000000) only [gantryref04_Valid, h, o1, o2, o3, go_sem, stcells, ldcells, iv, bv, reduceCtorEq, ↓reduceIte, Nat.reduceEqDiff, Bool.false_and]
end Go.AM

namespace Go.AM
open Go Go.RowKit
abbrev E2 : Type := Bool × List Int
instance : Inhabited E2 := ⟨(false, [])⟩
def c2i (e : E2) : List D := [.v (.bool e.1), dg e.2]
def c2is : List E2 → List D
  | [] => []
  | e :: l => c2i e ++ c2is l
theorem c2is_len : ∀ l : List E2, (c2is l).length = l.length * 2
  | [] => rfl
  | e :: l => by rw [c2is, List.length_append, c2is_len l, List.length_cons]; show 2 + _ = _; omega
theorem c2is_drop : ∀ (l : List E2) (n : Nat), (c2is l).drop (n * 2) = c2is (l.drop n)
  | [], n => by simp [c2is]
  | q :: l, 0 => rfl
  | q :: l, n + 1 => by
    rw [show (n + 1) * 2 = n * 2 + 1 + 1 by omega, c2is, c2i]
    simp only [List.cons_append, List.nil_append, List.drop_succ_cons]
    exact c2is_drop l n
theorem ix_c2i (h : Hp) (l : List E2) {j : Nat} (hj : j < l.length) : ixaA h 2 (j : Int) (.d (.row l.length (c2is l))) = some (.d (.rp (c2is (l.drop j)))) := by
  simp only [ixaA, guardO]
  rw [if_pos ⟨by omega, by omega⟩, Int.toNat_natCast, c2is_drop]
theorem ld_c2i (h : Hp) (l : List E2) {j : Nat} (hj : j < l.length) : loadA h (some 2) (.d (.rp (c2is (l.drop j)))) = some (.d (.agg (c2i l[j]))) := by
  have e : l.drop j = l[j] :: l.drop (j + 1) := List.drop_eq_getElem_cons hj
  rw [e]
  show guardO (2 ≤ (c2is (l[j] :: l.drop (j + 1))).length) (some (A.d (D.agg ((c2is (l[j] :: l.drop (j + 1))).take 2)))) = _
  exact if_pos (by rw [c2is_len, List.length_cons]; omega)
theorem vI_cz {b : Bool} {m : List Int} (h : vI b m = true) : Dig m ∧ Top m ∧ (m = [] → b = false) := by
  unfold vI at h
  simp only [Bool.and_eq_true] at h
  obtain ⟨h1, h2⟩ := h
  refine ⟨fun d hd => dOk_t (List.all_eq_true.1 h1 d hd), fun hne => ?_, fun h0 => ?_⟩
  · rw [if_neg hne] at h2
    have e : m.getD (m.length - 1) 0 = m.getLast hne := by
      rw [List.getLast_eq_getElem, List.getD_eq_getElem?_getD, List.getElem?_eq_getElem (by have := List.length_pos_iff.2 hne; omega)]; rfl
    rw [e] at h2
    simpa using h2
  · rw [if_pos h0] at h2
    simpa using h2
theorem vI_int {b : Bool} {m : List Int} (h : vI b m = true) : ∃ x : Int, encI x = .agg (c2i (b, m)) ∧ nd x = m.length := by
  obtain ⟨hd, ht, hb⟩ := vI_cz h
  have h0 := val_nonneg hd
  have h1 := digs_val hd ht
  cases b with
  | false =>
    have e : (val m).natAbs = (val m).toNat := by omega
    refine ⟨val m, ?_, ?_⟩
    · unfold encI
      rw [e, h1, decide_eq_false (by omega)]; rfl
    · unfold nd
      rw [e, h1]
  | true =>
    have hne : m ≠ [] := fun e => by have := hb e; simp at this
    have hp : val m ≠ 0 := fun e => hne (by
      rw [e] at h1
      rw [← h1]
      exact digs_zero)
    have e : (-(val m)).natAbs = (val m).toNat := by omega
    refine ⟨-(val m), ?_, ?_⟩
    · unfold encI
      rw [e, h1, decide_eq_true (by omega)]; rfl
    · unfold nd
      rw [e, h1]
def ii_st (n : Int) (len : Nat) (cs : List D) (i : Int) : St := mkS [(0, ai n), (14, .d (.row len cs)), (15, ai i)] []
theorem rep7_2 (a b : D) : rep 7 [a, b] = [a, b, a, b, a, b, a, b, a, b, a, b, a, b] := rfl
theorem rep5_1 (a : D) : rep 5 [a] = [a, a, a, a, a] := rfl
theorem rep1_1i (a : D) : rep 1 [a] = [a] := rfl
theorem rep0_1 (a : D) : rep 0 [a] = [] := rfl
theorem st2i (a b c d : A) : stcells 0 [a, b] [c, d] = some [a, b] := rfl
theorem ld2i (a b : D) : ldcells (some 2) 0 [.d a, .d b] = some (.d (.agg [a, b])) := rfl
theorem ld2i0 (a b : D) : ldcells none 0 [.d a, .d b] = some (.d a) := rfl
theorem ld2i1 (a b : D) : ldcells none 1 [.d a, .d b] = some (.d b) := rfl
theorem refs_dsi (ks : List Key) : ∀ ds : List D, refsL ks (ds.map A.d) = true
  | [] => rfl
  | x :: r => by simp only [List.map_cons, refsL, refs, refs_dsi ks r, Bool.and_self]
theorem bne_ri (a b : Bool) : (!(a == b)) = (a != b) := rfl
theorem dvione (n : Int) : (D.v (.int .i64 n)).one = true := rfl
theorem dgoni (m : List Int) : (dg m).one = true := by cases m <;> rfl
section
variable [Its]
theorem ii_go {n : Int} {l : List E2} (hl : l.length ≤ 1000) {i : Nat} (hi : i < l.length) {t : Bool} (g1 : callX G n_integer_Valid [.agg (c2i l[i])] = some (.d (bv t))) (g2 : callX G n_gantryref04_Valid [.agg (c2i l[i])] = some (.d (bv t)))
    (g3 : t = true → ∃ v s, callX G n_integer_Small [.agg (c2i l[i])] = some (.d (.tup [iv v, bv s])) ∧ callX G n_gantryref04_Small [.agg (c2i l[i])] = some (.d (.tup [iv v, bv s]))) :
    X G gantrylaw04_IntegerInts_l0 (ii_st n l.length (c2is l) i) = some (.n, ii_st n l.length (c2is l) ((i + 1 : Nat) : Int)) := by
  have e1 : decide ((i : Int) < (l.length : Int)) = true := lt_t (by omega)
  have e2 : w64 ((i : Int) + 1) = ((i + 1 : Nat) : Int) := by rw [w64_id (by omega) (by omega)]; rfl
  have x1 := fun h => ix_c2i h l hi
  have x2 := fun h => ld_c2i h l hi
  generalize c2i l[i] = ce at *
  generalize c2is (l.drop i) = cd at *
  generalize c2is l = cs at *
  generalize l.length = len at *
  cases t with
  | false =>
    simp only [bv] at g1 g2
    simp -implicitDefEqProofs (maxSteps := 10000000) only [gantrylaw04_IntegerInts_l0, ii_st, x1, x2, e1, e2, g1, g2, lenA, beq_self_eq_true, go_sem, reduceCtorEq, ↓reduceIte, Nat.reduceEqDiff, iv, bv]
  | true =>
    obtain ⟨v, s, g4, g5⟩ := g3 rfl
    have t1 : (v != v) = false := by simp
    simp only [iv, bv] at g1 g2 g4 g5
    cases s with
    | false =>
      simp -implicitDefEqProofs (maxSteps := 10000000) only [gantrylaw04_IntegerInts_l0, ii_st, x1, x2, e1, e2, g1, g2, g4, g5, t1, lenA, beq_self_eq_true, go_sem, reduceCtorEq, ↓reduceIte, Nat.reduceEqDiff, iv, bv]
    | true =>
      simp -implicitDefEqProofs (maxSteps := 10000000) only [gantrylaw04_IntegerInts_l0, ii_st, x1, x2, e1, e2, g1, g2, g4, g5, t1, lenA, beq_self_eq_true, go_sem, reduceCtorEq, ↓reduceIte, Nat.reduceEqDiff, iv, bv]
theorem ii_stop {n : Int} {len : Nat} {cs : List D} : X G gantrylaw04_IntegerInts_l0 (ii_st n len cs len) = some (.x 0, mkS [(0, ai n)] []) := by
  have e1 : decide ((len : Int) < (len : Int)) = false := lt_f (by omega)
  simp -implicitDefEqProofs (maxSteps := 10000000) only [gantrylaw04_IntegerInts_l0, ii_st, e1, lenA, go_sem, reduceCtorEq, ↓reduceIte, Nat.reduceEqDiff, iv, bv]
theorem ii_loop {n : Int} {l : List E2} (hl : l.length ≤ 1000) (hs : ∀ e ∈ l, e.2.length ≤ 2000) : ∀ j i : Nat, i + j = l.length → X G (.loop gantrylaw04_IntegerInts_l0) (ii_st n l.length (c2is l) i) = some (.x 0, mkS [(0, ai n)] [])
  | 0, i, h => by
    have : i = l.length := by omega
    subst this
    rw [X_loop, ii_stop]; rfl
  | j + 1, i, h => by
    have hi : i < l.length := by omega
    have he := hs l[i] (List.getElem_mem hi)
    have g1 := iValid_gen (b := l[i].1) (d := dg l[i].2) (l := l[i].2) (.inl rfl) (by omega)
    have g2 := r4Valid_gen (b := l[i].1) (d := dg l[i].2) (l := l[i].2) (.inl rfl) (by omega)
    rw [X_loop, ii_go hl hi g1 g2 (fun ht => by
      obtain ⟨x, hx, hn⟩ := vI_int ht
      have a1 := Small_spec_I (x := x) (by omega)
      have a2 := rSmall_spec (x := x) (by omega)
      rw [hx] at a1 a2
      exact ⟨_, _, a1, a2⟩), Option.bind_some, if_pos rfl]
    exact ii_loop hl hs j (i + 1) (by omega)
theorem Take8_spec {d : D} {l : List Int} (hr : Rw d l) : callX G n_gantryref01_Take [d, iv 8] = some (.d (dg (l.take 8))) := by
  rw [callX_eq (cf := gantryref01_Take) rfl]
  have ll := hr.len
  have hmi : (if (8 : Int) < (l.length : Int) then (8 : Int) else (l.length : Int)) = ((min l.length 8 : Nat) : Int) := by split <;> omega
  have hle : min l.length 8 ≤ l.length := Nat.min_le_left _ _
  have h5 : min l.length 8 ≤ 8 := Nat.min_le_right _ _
  have htk : l.take (min l.length 8) = l.take 8 := by rw [Nat.min_comm, List.take_eq_take_iff]; omega
  have b1 : ((0 : Int) ≤ ((min l.length 8 : Nat) : Int)) = True := eq_true (by omega)
  have hpos : l ≠ [] → 0 < min l.length 8 := fun h => by have := List.length_pos_iff.2 h; omega
  have c1 : ((8 : Int) < 0) = False := by simp
  have c2 : ((0 : Int) ≤ 0) = True := eq_true (by omega)
  have c3 : ((0 : Nat) ≤ bound) = True := eq_true (by omega)
  generalize min l.length 8 = n at *
  by_cases h0 : l = []
  · subst h0
    have n0 : n = 0 := by simpa using hle
    subst n0
    rcases hr with rfl | rfl
    · simp -implicitDefEqProofs (maxSteps := 10000000) only [gantryref01_Take, ll, hmi, foldV, mnV, dg_nil, List.take_nil, c1, c2, c3, src, srcS, and_self, Int.toNat_zero, go_sem, iv, bv, reduceCtorEq, ↓reduceIte, Nat.reduceEqDiff]
    · simp -implicitDefEqProofs (maxSteps := 10000000) only [gantryref01_Take, ll, hmi, foldV, mnV, rowI, dg_nil, List.take_nil, c1, c2, c3, src, srcS, and_self, Int.toNat_zero, go_sem, iv, bv, reduceCtorEq, ↓reduceIte, Nat.reduceEqDiff]
  · have ed : d = rowI l := by
      rcases hr with rfl | rfl
      · exact dg_ne h0
      · rfl
    subst ed
    have b2 : ((n : Int) ≤ (l.length : Int)) = True := eq_true (by omega)
    have hn := hpos h0
    have b3 : (n = 0) = False := eq_false (by omega)
    have b4 : (n * 8 ≤ bound) = True := eq_true (by unfold bound; omega)
    have b5 : (List.take n (l.map iv)).length = n := by rw [List.length_take, List.length_map]; omega
    have e5 : List.take n (l.map iv) = (l.take 8).map iv := by rw [← List.map_take, htk]
    have el : (l.take 8).length = n := by rw [← htk, List.length_take]; omega
    have ne5 : l.take 8 ≠ [] := fun h => by rw [h] at el; simp at el; omega
    have er : dg (l.take 8) = .row n (List.take n (l.map iv)) := by rw [dg_ne ne5, el, e5]
    rw [er]
    clear er e5 el ne5 htk
    simp -implicitDefEqProofs (maxSteps := 10000000) only [gantryref01_Take, ll, hmi, foldV, mnV, rowI, b1, b2, b3, b4, b5, c2, src, srcS, and_self, go_sem, iv, bv, reduceCtorEq, ↓reduceIte, Nat.reduceEqDiff]
end
end Go.AM
namespace Go.Proofs.YtecihganhcapoaaGreatDoor.Pure
open Go Go.AM
set_option maxHeartbeats 1000000 in
theorem IntegerInts (a0 : Int) (w0 : (Lit.int .i64 a0).wf = true) (e1 : D) (l1 : List Int) (hd1 : Dg e1 l1) (hwf1 : ∀ n ∈ l1, (Lit.int .i64 n).wf = true) (hlen1 : l1.length * 8 ≤ 140737488351232) (e2 : D) (l2 : List Int) (hd2 : Dg e2 l2) (hwf2 : ∀ n ∈ l2, (Lit.int .i64 n).wf = true) (hlen2 : l2.length * 8 ≤ 140737488351232) (a3 : Bool) (a4 : Int) (w4 : (Lit.int .i64 a4).wf = true) : callX G 8 [iv a0, e1, e2, bv a3, iv a4] = some (.d (bv true)) := by
  obtain ⟨x, nx, gx⟩ := Number_spec (at_ := 0) (rw_dg hd1) (fun n hn => i64_wf (hwf1 n hn)) (by omega)
  have gt := Take8_spec (rw_dg hd2)
  have ga := around_spec (i64_wf w4) (show (0 : Int) < 5 by omega)
  have ab := arnd_b (n := a4) (m := 5) (by omega)
  obtain ⟨j, hj⟩ : ∃ j : Nat, arnd a4 5 = (j : Int) := ⟨(arnd a4 5).toNat, by omega⟩
  rw [hj] at ga ab
  have hj5 : j < ([0, 1, -1, 999999999, 1000000000] : List Int).length := by show j < 5; omega
  have x1 := (show Rw (rowI [0, 1, -1, 999999999, 1000000000]) [0, 1, -1, 999999999, 1000000000] from .inr rfl).ixn hj5
  have x2 := fun h => ldv h [0, 1, -1, 999999999, 1000000000] hj5
  generalize ([0, 1, -1, 999999999, 1000000000] : List Int).getD j 0 = v at *
  have z3 := eqz_f (b := (3 : Int)) (by omega)
  have wk := i64_wf w4
  have hm : -2 ≤ a4.tmod 3 ∧ a4.tmod 3 ≤ 2 := by
    have h := Int.natAbs_tmod a4 3
    have h3 : (3 : Int).natAbs = 3 := rfl
    rw [h3] at h
    omega
  have o0 := rOf_spec (i64_wf w0)
  have o1 := rOf_spec (n := 9223372036854775807) ⟨by omega, by omega⟩
  have o2 := rOf_spec (n := -9223372036854775808) ⟨by omega, by omega⟩
  have o3 := rOf_spec (n := a4.tmod 3) ⟨by omega, by omega⟩
  have n1 : nd 9223372036854775807 ≤ 1000 := by decide +kernel
  have n2 : nd (-9223372036854775808) ≤ 1000 := by decide +kernel
  have n3 : nd (a4.tmod 3) ≤ 1000 := Nat.le_trans (nd_i64 (x := a4.tmod 3) ⟨by omega, by omega⟩) (by omega)
  have p1 := rAdd_spec (x := 9223372036854775807) (y := a4.tmod 3) (by omega) (by omega)
  have p2 := rSub4 (x := -9223372036854775808) (y := a4.tmod 3) (by omega) (by omega)
  have m1 := nd_add (x := 9223372036854775807) (y := a4.tmod 3) (k := 1000) (by omega) (by omega)
  have m2 := nd_add (x := -9223372036854775808) (y := -(a4.tmod 3)) (k := 1000) (by omega) (by rw [nd_neg]; omega)
  rw [show (-9223372036854775808 : Int) + -(a4.tmod 3) = -9223372036854775808 - a4.tmod 3 by omega] at m2
  have n0 : nd a0 ≤ 1000 := Nat.le_trans (nd_i64 (i64_wf w0)) (by omega)
  have s1 := Of_spec (i64_wf w0)
  have s2 := Small_spec_I (x := a0) (by omega)
  have sv : smv a0 = a0 := by unfold smv; rw [if_pos ⟨(i64_wf w0).1, by have := (i64_wf w0).2; omega⟩]
  have sb : smb a0 = true := decide_eq_true ⟨(i64_wf w0).1, by have := (i64_wf w0).2; omega⟩
  rw [sv, sb] at s2
  have s3 := sm4 (x := a0) (y := a0) rfl (by omega)
  have kl := lives4
  have q0 : (a0 == a0) = true := beq_self_eq_true a0
  obtain ⟨m, hmm⟩ : ∃ m, a4.tmod 3 = m := ⟨_, rfl⟩
  rw [hmm] at hm o3 n3 p1 p2 m1 m2
  generalize (9223372036854775807 : Int) + m = y1 at *
  generalize (-9223372036854775808 : Int) - m = y2 at *
  have gl := ii_loop (n := a0) (l := [(decide (x < 0), digs x.natAbs), (a3, l2.take 8), (a3 != decide (x < 0), digs x.natAbs ++ [v]), (decide (a0 < 0), digs a0.natAbs), (decide (y1 < 0), digs y1.natAbs), (decide (y2 < 0), digs y2.natAbs), (false, [])]) (by simp) (fun e he => by
    unfold nd at nx n0 m1 m2
    simp only [List.mem_cons, List.not_mem_nil, or_false] at he
    rcases he with rfl | rfl | rfl | rfl | rfl | rfl | rfl
    · dsimp only; omega
    · dsimp only; rw [List.length_take]; omega
    · dsimp only; rw [List.length_append, List.length_singleton]; omega
    · dsimp only; omega
    · dsimp only; omega
    · dsimp only; omega
    · simp) 7 0 rfl
  have nl : (digs x.natAbs).length ≤ 8 := by unfold nd at nx; exact nx
  have c0 : ((0 : Nat) : Int) = 0 := rfl
  rw [c0] at gl
  have er : dg (digs x.natAbs ++ [v]) = .row ((digs x.natAbs).length + 1) ((digs x.natAbs).map iv ++ [.v (.int .i64 v)]) := by
    rw [dg_ne (by simp), List.length_append, List.length_singleton, List.map_append]; rfl
  have b1 : ((digs x.natAbs).length * 8 ≤ bound) = True := eq_true (by unfold bound; omega)
  have b2 : (((digs x.natAbs).length + 1) * 8 ≤ bound) = True := eq_true (by unfold bound; omega)
  have one1 : ((digs x.natAbs).map iv).all D.one = true := by rw [List.all_map]; exact List.all_eq_true.2 fun _ _ => rfl
  have n7 : allD (((digs x.natAbs).map iv).map A.d) = some ((digs x.natAbs).map iv) := allD_of_map _
  have n8 : (((digs x.natAbs).map iv).map A.d).length = (digs x.natAbs).length := by simp
  have n9 : ((digs x.natAbs).map iv).length = (digs x.natAbs).length := by simp
  have sr := src_dg
  simp only [c2is, c2i, er, List.length_cons, List.length_nil, Nat.zero_add, Nat.reduceAdd, List.cons_append, List.nil_append, dg_nil] at gl
  have lo := dgoni
  rw [callX_eq (cf := gantrylaw04_IntegerInts) rfl]
  clear er hj5 hm ab m1 m2 n0 n1 n2 n3 nx hj wk nl
  simp only [encI, iv, bv] at gx gt ga o0 o1 o2 o3 p1 p2 s1 s2 s3 kl
  simp only [rowI, List.length_cons, List.length_nil, List.map_cons, List.map_nil, Nat.zero_add, Nat.reduceAdd, iv] at x1
  simp only [ii_st, go_sem] at gl
  generalize digs x.natAbs = dl at *
  generalize decide (x < 0) = bx at *
  generalize l2.take 8 = tl at *
  generalize decide (y1 < 0) = by1 at *
  generalize decide (y2 < 0) = by2 at *
  generalize digs y1.natAbs = dl1 at *
  generalize digs y2.natAbs = dl2 at *
  cases a3 <;> cases bx <;>
  simp -implicitDefEqProofs (maxSteps := 10000000) only [gantrylaw04_IntegerInts, gx, gt, ga, x1, x2, z3, o0, o1, o2, o3, p1, p2, s1, s2, s3, kl, q0, gl, b1, b2, one1, n7, n8, n9, sr, lo, rep7_2, rep5_1, rep1_1i, rep0_1, st2i, ld2i, ld2i0, ld2i1, refs_dsi, allD, srcS, src_row, bne_ri, dvione, hmm, Nat.zero_add, fillB, partsB, apartS, hupdO_none, List.map_append, List.map_nil, List.length_nil, List.length_append, ne_eq, not_true_eq_false, decide_false, decide_true, Nat.le_refl, Bool.or_true, Bool.true_or, List.all_cons, List.all_nil, Bool.and_true, Bool.and_self, go_sem, iv, bv, reduceCtorEq, ↓reduceIte, Nat.reduceEqDiff]
end Go.Proofs.YtecihganhcapoaaGreatDoor.Pure

/- The table that the rows list, as the machine asks for it. -/
namespace Go.AM
open Go Go.Proofs Go.RowKit

theorem laidVars_get {P : Program} {w : World} {n : String} {d : DataW Unit} : ∀ {l : List (String × DataW Unit)} {ps : List MemPlace}, DataW.LaidVars P w l ps → (n, d) ∈ l →
    ∃ g t cs fuel p, P.globalNamed n = some g ∧ (P.globals[g]?).map (·.type) = some t ∧ w.var? P n = some cs ∧ DataW.trod (fun _ => ()) P w 0 (fun _ => true) false fuel t cs.toList = some (d, p)
  | [], _, _, h => by cases h
  | (m, e) :: r, ps, hL, h => by
    obtain ⟨g, t, cs, fuel, p, q, h1, h2, h3, h4, h5, _⟩ := hL
    rcases List.mem_cons.1 h with h' | h'
    · cases h'
      exact ⟨g, t, cs, fuel, p, h1, h2, h3, h4⟩
    · exact laidVars_get h5 h'
def chkT (P : Program) (g : Nat) : Bool :=
  match (P.globals[g]?).map (·.type) with
  | some t => (match P.underlying t with
    | some (.array 20 e) => (match P.underlying e with
      | some (.int .u64) => P.cellsOf e == 1 && P.cellsOf t == 20
      | _ => false)
    | _ => false)
  | none => false
theorem chkT_ok {P : Program} {g : Nat} (h : chkT P g = true) : ∃ t', (P.globals[g]?).map (·.type) = some t' ∧ ∃ e, P.underlying t' = some (.array 20 e) ∧ P.underlying e = some (.int .u64) ∧ P.cellsOf e = 1 ∧ P.cellsOf t' = 20 := by
  unfold chkT at h
  split at h
  · rename_i t ht
    split at h
    · rename_i e he
      split at h
      · rename_i hk
        simp only [Bool.and_eq_true, beq_iff_eq] at h
        exact ⟨t, ht, e, he, hk, h.1, h.2⟩
      · cases h
    · cases h
  · cases h
def tabDat : DataW Unit := Lib.tabData .u64 Lib.pow10Tab
theorem tabOk_laid {l : List (String × DataW Unit)} {w : World} (hL : laidMet Tryz.prog l w) (hm : ("internal/strconv.uint64pow10", tabDat) ∈ l) : TabOk w := by
  obtain ⟨ps, h, _⟩ := hL
  obtain ⟨g, t, cs, fuel, p, h1, h2, h3, h4⟩ := laidVars_get h hm
  have hg : Tryz.prog.globalNamed "internal/strconv.uint64pow10" = some 2 := by kernel_rfl
  obtain rfl : g = 2 := Option.some.inj (h1.symm.trans hg)
  have ht := chkT_ok (P := Tryz.prog) (g := 2) (by kernel_rfl)
  obtain ⟨t', ht, e, k1, k2, k3, k4⟩ := ht
  obtain rfl := Option.some.inj (ht.symm.trans h2)
  have hc := Lib.cells_of_tab k1 k2 k3 k4 h4
  unfold World.var? at h3
  rw [h1, Option.bind_some] at h3
  intro x hx
  have hx' : x = (2, (Lib.pow10Tab.map fun z => Value.int .u64 z).toArray) := by
    have : tabs = [(2, (Lib.pow10Tab.map fun z => Value.int .u64 z).toArray)] := by kernel_rfl
    rw [this] at hx
    exact List.mem_singleton.1 hx
  subst hx'
  cases ho : w.heap[2]? with
  | none => rw [ho] at h3; cases h3
  | some o =>
    rw [ho] at h3
    cases o with
    | cells cs' T fz =>
      simp only [Option.some.injEq] at h3
      subst h3
      refine ⟨(Array.getElem?_eq_some_iff.1 ho).1, T, fz, ?_⟩
      show some (Go.Obj.cells cs' T fz) = some (Go.Obj.cells (Lib.pow10Tab.map fun z => Value.int .u64 z).toArray T fz)
      rw [← hc]
    | _ => cases h3
end Go.AM

/- The row of IntegerInts, out of its Pure. Printed by row.py. -/
namespace Go.Proofs.YtecihganhcapoaaGreatDoor.integerInts
open Go.ChangeShapes Go.WideShapes Go.ChangeAt Go.RowKit Go.AM
theorem own : ownKnob Tryz.prog.godebug = none := by kernel_rfl
theorem laidOut : laidOutB Tryz.prog = true := by kernel_rfl
set_option maxRecDepth 100000 in
theorem lifted (os : Os) (started : os.Started) (H : Type) (enc : TypeId × Value → H) :
    ReturnsInHanded {} Tryz.checked os 8 .any (fun w args => (Rows.integerIntsSpec.pre enc Tryz.prog Tryz.f8 Rows.integerIntsRow.domain false w args ∧ laidMetH Tryz.prog Rows.integerIntsRow.laid w) ∧ sizedMet enc Tryz.prog Tryz.f8 (OpenSpec.ofChange Rows.integerIntsSpec) false w args)
      (Rows.integerIntsSpec.post enc Tryz.prog Tryz.f8 false true false false) := by
  refine returnsInHanded_of_change_and (C := Tryz.checked) (X := fun w _ => laidMetH Tryz.prog Rows.integerIntsRow.laid w) (fun _ _ _ hh h => h.of_heap hh) own started (by kernel_rfl) Tryz.func8
    (ChangeSpec.witness_shaped (enc := enc) (C := Tryz.checked) (os := os) (X := fun w _ => laidMetH Tryz.prog Rows.integerIntsRow.laid w) false (World.laidAll Tryz.prog os Rows.integerIntsRow.laid) #[.int .i64 0, .slice none 0 0, .slice none 0 0, .bool false, .int .i64 0] 8 (World.laidAll_os _ _ _)
      (World.shaped_of_ZipB (by kernel_rfl) (by kernel_rfl)) (by kernel_rfl) (by kernel_rfl) (by kernel_rfl)
      (by rw [MakeChecks.laidMetH_plain _ _ _ (by kernel_rfl)]; exact laidMet_laidAll _ (by kernel_rfl) (by kernel_rfl))) ?_
  intro W base args ds gs before hval0 hW hcnd hsz0 hL _
  have hsz : (DataW.weightsEach Tryz.prog (Tryz.f8.params.toList ++ Rows.integerIntsSpec.plain.varTypes Tryz.prog) (ds ++ gs)).all (· ≤ reachBytes) = true := hsz0
  have hval : ∀ (j : Nat) t v, Tryz.f8.params[j]? = some t → args[j]? = some v → Value.okWide Tryz.prog W .any base t v := hval0
  have hW' := hW
  obtain ⟨p, q, hA0, hV, rfl, hfz, hnd⟩ := hW
  have hA : DataW.TrodAll enc Tryz.prog W 0 (fun _ => true) true Tryz.f8.params.toList args.toList ds p := hA0
  rw [Tryz.params8] at hA hval hsz
  obtain ⟨v0, vs0, d0, ds0, p0, q0, hargs, rfl, rfl, h0, r0⟩ := trodAll_cons hA
  obtain ⟨v1, vs1, d1, ds1, p1, q1, rfl, rfl, rfl, h1, r1⟩ := trodAll_cons r0
  obtain ⟨v2, vs2, d2, ds2, p2, q2, rfl, rfl, rfl, h2, r2⟩ := trodAll_cons r1
  obtain ⟨v3, vs3, d3, ds3, p3, q3, rfl, rfl, rfl, h3, r3⟩ := trodAll_cons r2
  obtain ⟨v4, vs4, d4, ds4, p4, q4, rfl, rfl, rfl, h4, r4⟩ := trodAll_cons r3
  obtain ⟨rfl, rfl, rfl⟩ := trodAll_nil r4
  obtain rfl : args = #[v0, v1, v2, v3, v4] := by cases args; simp_all
  obtain ⟨rfl, rfl⟩ := trodVars_none hV
  obtain ⟨a0, rfl, rfl, rfl, w0⟩ := open_int Tryz.underlying3 (hval 0 3 v0 rfl rfl) h0
  obtain ⟨a1, len1, cap1, rfl⟩ := okWide_slice Tryz.underlying22 (hval 1 22 v1 rfl rfl)
  have k1 := h1
  have lt1 : ∀ x ∈ p1, x.block < W.heap.size := by obtain ⟨m, hm⟩ := k1; exact DataW.trod_lt m _ _ _ hm
  obtain ⟨z1, w1, y1⟩ : ∃ zs, ((a1 = none ∧ len1 = 0 ∧ cap1 = 0 ∧ zs = []) ∨ ∃ x, a1 = some x ∧ len1 ≤ cap1 ∧ cap1 ≤ maxLen ∧ zs.length = cap1 ∧ (∀ i, i < zs.length → W.cell? (x.add i) = some (.int .i64 (zs.getD i 0))) ∧ ∀ n ∈ zs, (Lit.int .i64 n).wf = true) ∧ len1 * 8 ≤ 140737488351232 := by
    obtain ⟨fuel, hf⟩ := h1
    rcases open_ints Tryz.underlying22 Tryz.underlying3 (by kernel_rfl) hf with ⟨hcs, _⟩ | ⟨x, l, c, zs, hcs, _, hl, hm, hz, hx, hcell, hwz⟩
    · simp [Value.cells] at hcs
      obtain ⟨rfl, rfl, rfl⟩ := hcs
      exact ⟨[], .inl ⟨rfl, rfl, rfl, rfl⟩, by simp⟩
    · simp [Value.cells] at hcs
      obtain ⟨rfl, rfl, rfl⟩ := hcs
      refine ⟨zs, .inr ⟨_, rfl, hl, hm, by simpa using hz, hcell, hwz⟩, ?_⟩
      simp only [Prod.mk.injEq] at hx
      have hd := hx.1
      have z := sized_slice hsz (j := 1) (t := 22) rfl (by rw [hd]; rfl) Tryz.underlying22
      have hb : Tryz.prog.bytesOf 3 = 8 := by kernel_rfl
      rw [hb] at z
      have hr : reachBytes ≤ 140737488351232 := by decide
      have hz' : zs.length = cap1 := by simpa using hz
      simp only [lits, List.length_map, List.length_take, List.length_drop] at z
      omega
  obtain ⟨e1, l1, hd1, hrep1, hlen1, hwf1⟩ := arg_row w1
  obtain ⟨a2, len2, cap2, rfl⟩ := okWide_slice Tryz.underlying22 (hval 2 22 v2 rfl rfl)
  have k2 := h2
  have lt2 : ∀ x ∈ p2, x.block < W.heap.size := by obtain ⟨m, hm⟩ := k2; exact DataW.trod_lt m _ _ _ hm
  obtain ⟨z2, w2, y2⟩ : ∃ zs, ((a2 = none ∧ len2 = 0 ∧ cap2 = 0 ∧ zs = []) ∨ ∃ x, a2 = some x ∧ len2 ≤ cap2 ∧ cap2 ≤ maxLen ∧ zs.length = cap2 ∧ (∀ i, i < zs.length → W.cell? (x.add i) = some (.int .i64 (zs.getD i 0))) ∧ ∀ n ∈ zs, (Lit.int .i64 n).wf = true) ∧ len2 * 8 ≤ 140737488351232 := by
    obtain ⟨fuel, hf⟩ := h2
    rcases open_ints Tryz.underlying22 Tryz.underlying3 (by kernel_rfl) hf with ⟨hcs, _⟩ | ⟨x, l, c, zs, hcs, _, hl, hm, hz, hx, hcell, hwz⟩
    · simp [Value.cells] at hcs
      obtain ⟨rfl, rfl, rfl⟩ := hcs
      exact ⟨[], .inl ⟨rfl, rfl, rfl, rfl⟩, by simp⟩
    · simp [Value.cells] at hcs
      obtain ⟨rfl, rfl, rfl⟩ := hcs
      refine ⟨zs, .inr ⟨_, rfl, hl, hm, by simpa using hz, hcell, hwz⟩, ?_⟩
      simp only [Prod.mk.injEq] at hx
      have hd := hx.1
      have z := sized_slice hsz (j := 2) (t := 22) rfl (by rw [hd]; rfl) Tryz.underlying22
      have hb : Tryz.prog.bytesOf 3 = 8 := by kernel_rfl
      rw [hb] at z
      have hr : reachBytes ≤ 140737488351232 := by decide
      have hz' : zs.length = cap2 := by simpa using hz
      simp only [lits, List.length_map, List.length_take, List.length_drop] at z
      omega
  obtain ⟨e2, l2, hd2, hrep2, hlen2, hwf2⟩ := arg_row w2
  obtain ⟨a3, rfl, rfl, rfl⟩ := open_bool Tryz.underlying4 (hval 3 4 v3 rfl rfl) h3
  obtain ⟨a4, rfl, rfl, rfl, w4⟩ := open_int Tryz.underlying3 (hval 4 3 v4 rfl rfl) h4
  clear hA0 hval0 hsz0 hsz
  refine (law_walk env4 (f := 8) (ds := [(iv a0), e1, e2, (bv a3), (iv a4)]) (vs := [.int .i64 a0, .slice a1 len1 cap1, .slice a2 len2 cap2, .bool a3, .int .i64 a4]) (w := W) (tabOk_laid (by rw [← MakeChecks.laidMetH_plain _ _ _ (by kernel_rfl)]; exact hL) (List.mem_of_getElem? (i := 2) (by kernel_rfl))) (RepL.cons _ _ _ _ (RepD.v _) (RepL.cons _ _ _ _ hrep1 (RepL.cons _ _ _ _ hrep2 (RepL.cons _ _ _ _ (RepD.v _) (RepL.cons _ _ _ _ (RepD.v _) RepL.nil))))) (Pure.IntegerInts a0 w0 e1 l1 hd1 hwf1 (by rw [hlen1]; exact y1) e2 l2 hd2 hwf2 (by rw [hlen2]; exact y2) a3 a4 w4)).mono fun e W' ⟨he, bel⟩ => ?_
  subst he
  exact ⟨_, rfl, _, _, _, [], _, [], hW', trodAll_mk1 (shut_bool Tryz.underlying4 _), (trodAll_cons_mk (shut_int Tryz.underlying3 w0) (trodAll_cons_mk (Below.trod laidOut (by kernel_rfl) (of_decide_eq_true (by kernel_rfl)) k1 bel lt1) (trodAll_cons_mk (Below.trod laidOut (by kernel_rfl) (of_decide_eq_true (by kernel_rfl)) k2 bel lt2) (trodAll_cons_mk (shut_bool Tryz.underlying4 _) (trodAll_cons_mk (shut_int Tryz.underlying3 w4) trodAll_mk0))))), rfl, bel.frame _, fun h => by cases h⟩
theorem over : Rows.integerIntsRow.holds Tryz.pinned (OpenSpec.ofChange Rows.integerIntsSpec) :=
  OpenClaim.holds_of_wide 8 Tryz.f8 rfl rfl rfl rfl rfl rfl rfl ⟨rfl, rfl, rfl, rfl, rfl⟩ rfl rfl rfl rfl rfl (by kernel_rfl) Tryz.func8 (by kernel_rfl)
    (of_decide_eq_true (by kernel_rfl)) (by unfold Func.isWrapper; first | (rw [if_pos (by decide +kernel)]; kernel_rfl) | (rw [if_neg (by decide +kernel)]; exact ⟨rfl, rfl⟩))
    (fun os started H enc _ => lifted os started H enc)
theorem card : Rows.IntegerIntsCardSaid :=
  Claim7.holds_tied_plain_at .later [] [.data, .data, .data, .data, .sentinel, .sentinel, .pinned] true (true, "8f30b765037cb7f36d521e85c7b3d15f44d2f8c8747fa73e3d59755b044424b0") true over (fun _ h => by cases h) (by kernel_rfl) (fun _ h => by cases h) integerInts_row_tie rfl ⟨rfl, rfl⟩ (by kernel_rfl) rfl
    (fun f fn hf hfn => by
      obtain rfl : f = 8 := Option.some.inj ((show Tryz.prog.funcNamed "gantry/gantrylaw04.IntegerInts" = some 8 by kernel_rfl).symm.trans hf) |>.symm
      obtain rfl : fn = Tryz.f8 := (Option.some.inj (Tryz.func8.symm.trans hfn)).symm
      exact ⟨by kernel_rfl, fun j t ht => by
        rw [Tryz.params8] at ht
        have hm : t ∈ [3, 22, 22, 4, 3] := by simpa using Array.mem_of_getElem? ht
        have hall : ([3, 22, 22, 4, 3].all fun u => !Tryz.prog.wantsStandIn u) = true := by kernel_rfl
        exact (show Tryz.prog.wantsStandIn t = false by simpa using List.all_eq_true.1 hall t hm)⟩)
    (by kernel_rfl)
end Go.Proofs.YtecihganhcapoaaGreatDoor.integerInts
namespace Go.Proofs.YtecihganhcapoaaGreatDoor
theorem integerInts_holds : Rows.IntegerIntsCardSaid := integerInts.card
end Go.Proofs.YtecihganhcapoaaGreatDoor


