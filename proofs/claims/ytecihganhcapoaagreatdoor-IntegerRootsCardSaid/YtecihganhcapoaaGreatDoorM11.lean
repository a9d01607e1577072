/- Part 11 of the proof: a small machine, its soundness against the model, and what the program's functions compute on it. -/
import Derived.Test.YtecihganhcapoaaGreatDoorM10
import Derived.Test.YtecihganhcapoaaGreatDoorM6
import GoSem.Claims
import Derived.KernelRfl
import Derived.Test.YtecihganhcapoaaGreatDoorM7
import Derived.Test.YtecihganhcapoaaGreatDoorM8
import Derived.Test.YtecihganhcapoaaGreatDoorM9
import Derived.Lib.LaidTab
import Derived.LaidMore
import Derived.MakeChecks
import Derived.Test.YtecihganhcapoaaGreatDoorCards
import Derived.Test.YtecihganhcapoaaGreatDoorTie
import Derived.WalkKit
import Derived.ProofKit
import Derived.OpenShut
import Derived.ShutString
import Derived.ChangeOld
import Derived.Below
import Derived.SizedLaws
import Derived.Lay
import Derived.SevenTiedAt
import Derived.Stop.Joined
set_option linter.unusedVariables false
set_option linter.unusedSimpArgs false
/- The library's part of the texts: strings.Trim at digits, integer.Text of numbers that are not negative. -/
namespace Go.AM
open Go Go.Proofs Go.RowKit

def tenD : List UInt8 := [48, 49, 50, 51, 52, 53, 54, 55, 56, 57]
def decF : Nat → Nat → List UInt8
  | 0, _ => []
  | k + 1, u => if u < 10 then [UInt8.ofNat (48 + u)] else decF k (u / 10) ++ [UInt8.ofNat (48 + u % 10)]
theorem decF_eq : ∀ (k u : Nat), u < 10 ^ (k + 1) → Lib.decDigits u = decF (k + 1) u
  | 0, u, h => by
    have h1 : u < 10 := by simpa using h
    rw [Lib.decDigits, decF, dif_pos h1, if_pos h1]
  | k + 1, u, h => by
    rw [Lib.decDigits, decF]
    by_cases h1 : u < 10
    · rw [dif_pos h1, if_pos h1]
    · rw [dif_neg h1, if_neg h1, decF_eq k (u / 10) (by rw [Nat.pow_succ] at h; omega)]
def itoaF (d : Int) : List UInt8 := decF 9 d.toNat
def rep48 : Nat → List UInt8
  | 0 => []
  | n + 1 => 48 :: rep48 n
def restF (l : List Int) : Nat → List UInt8
  | 0 => []
  | j + 1 => rep48 (9 - (itoaF (l.getD j 0)).length) ++ itoaF (l.getD j 0) ++ restF l j
def intsD : List D → Option (List Int)
  | [] => some []
  | .v (.int .i64 d) :: r => (intsD r).map (d :: ·)
  | _ => none
def dig9 (l : List Int) : Bool := l.all fun d => decide (0 ≤ d) && decide (d < 1000000000)
def orc4 (f : Nat) (ds : List D) : Option R :=
  if f = 76 then match ds with
    | [.v (.string s), .v (.string c)] => if c.data.toList = tenD ∧ s.size ≤ 1000000 ∧ s.data.toList.all (tenD.contains ·) = true then some (.d (.v (.string ⟨#[]⟩))) else none
    | _ => none
  else if f = 42 then match ds with
    | [.agg [.v (.bool false), .row (n + 1) cs]] => (intsD cs).bind fun l => if l.length = n + 1 ∧ n ≤ 1000000 ∧ dig9 l = true then some (.d (.v (.string ⟨(itoaF (l.getD n 0) ++ restF l n).toArray⟩))) else none
    | _ => none
  else none

theorem rep48_eq : ∀ n, rep48 n = Lib.repeatL [48] n
  | 0 => rfl
  | n + 1 => by rw [rep48, Lib.repeatL, rep48_eq n]; rfl
theorem itoaF_eq {d : Int} (h : 0 ≤ d ∧ d < 1000000000) : Lib.itoa d = itoaF d := by
  unfold Lib.itoa itoaF
  rw [if_neg (by omega)]
  exact decF_eq 8 _ (by have : (10 : Nat) ^ (8 + 1) = 1000000000 := by decide
                        omega)
theorem dig9_at {l : List Int} (h : dig9 l = true) (i : Nat) : 0 ≤ l.getD i 0 ∧ l.getD i 0 < 1000000000 := by
  by_cases hi : i < l.length
  · have e : l.getD i 0 = l[i] := by rw [List.getD_eq_getElem?_getD, List.getElem?_eq_getElem hi]; rfl
    rw [e]
    have := List.all_eq_true.1 h _ (List.getElem_mem hi)
    simpa using this
  · have e : l.getD i 0 = 0 := by rw [List.getD_eq_getElem?_getD, List.getElem?_eq_none (by omega)]; rfl
    rw [e]; omega
theorem restF_eq {l : List Int} (h : dig9 l = true) : ∀ j, restL (fun i => l.getD i 0) j = restF l j
  | 0 => rfl
  | j + 1 => by
    rw [restL, restF, pad9, restF_eq h j, itoaF_eq (dig9_at h j), rep48_eq]
theorem intsD_rep {S : Nat → Prop} {w : World} : ∀ {cs : List D} {l : List Int} {vs : List Value}, intsD cs = some l → RepL S w cs vs → vs = l.map fun d => Value.int .i64 d
  | [], l, vs, h, hr => by
    cases hr
    simp only [intsD, Option.some.injEq] at h
    subst h; rfl
  | c :: cs, l, vs, h, hr => by
    cases hr with
    | cons _ _ v vs hv ht =>
      unfold intsD at h
      split at h
      · rename_i heq; cases heq
      · rename_i d r heq
        cases heq
        simp only [Option.map_eq_some_iff] at h
        obtain ⟨l', h1, rfl⟩ := h
        rw [intsD_rep h1 ht]
        cases hv; rfl
      · cases h
theorem trim_all {l cs : List UInt8} (h : l.all (cs.contains ·) = true) : Lib.trimS l cs = [] := by
  have h1 : ∀ m : List UInt8, m.all (cs.contains ·) = true → m.dropWhile (cs.contains ·) = [] := by
    intro m
    induction m with
    | nil => intro _; rfl
    | cons a m ih =>
      intro hm
      simp only [List.all_cons, Bool.and_eq_true] at hm
      rw [List.dropWhile_cons, if_pos hm.1, ih hm.2]
  unfold Lib.trimS Lib.trimLeftS Lib.trimRightS
  rw [h1 l.reverse (by rw [List.all_reverse]; exact h)]
  rfl
theorem tab_is {w : World} (h : TabOk w) : Lib.TabIs Tryz.prog w "internal/strconv.uint64pow10" .u64 Lib.pow10Tab := by
  obtain ⟨_, T, fz, hb⟩ := h _ (List.mem_cons_self ..)
  have hg : Tryz.prog.globalNamed "internal/strconv.uint64pow10" = some 2 := by kernel_rfl
  unfold Lib.TabIs World.var?
  rw [hg, Option.bind_some]
  simp only at hb
  rw [hb]
  rfl
theorem orc4_ok : ∀ f ds r, ft f = none → orc4 f ds = some r → CallOk Tryz.prog f ds r := by
  intro f ds r _ h
  unfold orc4 at h
  split at h
  · rename_i hf
    subst hf
    split at h
    · rename_i s c
      split at h
      · rename_i hc
        obtain ⟨h1, h2, h3⟩ := hc
        cases h
        refine ⟨⟨Tryz.f76, Tryz.func76, by kernel_rfl, by decide⟩, fun S w vs hT hrep hlt => ?_⟩
        cases hrep with
        | cons _ _ v1 vs1 r1 t1 =>
        cases t1 with
        | cons _ _ v2 vs2 r2 t2 =>
        cases t2; cases r1; cases r2
        have hcon := Any.strings_Trim_laid Tryz.lays160 (by kernel_rfl) s c w (by omega) (by
          have : c.size = c.data.toList.length := by show c.data.size = _; simp
          rw [this, h1]; decide) (by rw [h1]; exact ascii_of_all (by decide))
        rw [h1, trim_all h3] at hcon
        refine Calls.mono hcon ?_
        rintro e w' ⟨rfl, hb⟩
        exact ⟨_, rfl, hb, RepD.v _⟩
      · cases h
    · cases h
  · split at h
    · rename_i hf
      subst hf
      split at h
      · rename_i n cs
        simp only [Option.bind_eq_some_iff] at h
        obtain ⟨l, hl, h⟩ := h
        split at h
        · rename_i hc
          obtain ⟨h1, h2, h3⟩ := hc
          cases h
          refine ⟨⟨Tryz.f42, Tryz.func42, by kernel_rfl, by decide⟩, fun S w vs hT hrep hlt => ?_⟩
          cases hrep with
          | cons _ _ v1 vs1 r1 t1 =>
          cases t1
          cases r1 with
          | agg _ vs2 h4 =>
          cases h4 with
          | cons _ _ v3 vs3 r3 t3 =>
          cases t3 with
          | cons _ _ v4 vs4 r4 t4 =>
          cases t4; cases r3
          cases r4 with
          | row _ _ ad cap vs5 g1 g2 g3 g4 =>
            have hv := intsD_rep hl g3
            subst hv
            have hw := text_walk (fun i => l.getD i 0) n (itoaF (l.getD n 0) ++ restF l n) (by rw [itoaF_eq (dig9_at h3 n), restF_eq h3]) (by omega) (dig9_at h3) ad cap w (fun i hi => by
              refine g4 i _ ?_
              rw [List.getElem?_map, List.getD_eq_getElem?_getD, List.getElem?_eq_getElem (by omega)]; rfl) (hlt _ g2) (Lib.tabBelow_of_tabIs (tab_is hT))
            refine Calls.mono hw ?_
            rintro e w' ⟨rfl, hb⟩
            exact ⟨_, rfl, hb, RepD.v _⟩
        · cases h
      · cases h
    · cases h
instance its4 : Its := { it := fun _ _ => none, orc := orc4 }
theorem env4 : EnvOk Tryz.prog (@G its4) := @env_okO its4 (fun _ _ _ h => by cases h) orc4_ok
end Go.AM

/- law04.lives, by the kernel. -/
namespace Go.AM
open Go Go.RowKit Go.Proofs
theorem lives4 : callX (@G its4) n_gantrylaw04_lives [] = some (.d (bv true)) := callX_some.2 ⟨60, by kernel_rfl⟩
end Go.AM

/- Square roots of whole numbers: Newton's step, and halving. -/
namespace Go.AM

def IsRt (s x : Int) : Prop := 0 ≤ s ∧ s * s ≤ x ∧ x < (s + 1) * (s + 1)
theorem sq_mono {a b : Int} (ha : 0 ≤ a) (h : a ≤ b) : a * a ≤ b * b := Int.mul_le_mul h h ha (by omega)
theorem rt_le {s x t : Int} (h : IsRt s x) (ht : 0 ≤ t) (h2 : t * t ≤ x) : t ≤ s := by
  obtain ⟨h0, _, h1⟩ := h
  by_cases hc : t ≤ s
  · exact hc
  · have := sq_mono (a := s + 1) (b := t) (by omega) (by omega)
    omega
theorem rt_gt {s x t : Int} (h : IsRt s x) (ht : 0 ≤ t) (h2 : x < t * t) : s < t := by
  obtain ⟨h0, h1, _⟩ := h
  by_cases hc : s < t
  · exact hc
  · have := sq_mono (a := t) (b := s) (by omega) (by omega)
    omega
theorem rt_uniq {s t x : Int} (h : IsRt s x) (k : IsRt t x) : s = t := by
  have h1 := rt_le h k.1 k.2.1
  have h2 := rt_le k h.1 h.2.1
  omega
theorem sq_dif (s r : Int) : 0 ≤ s * s - 2 * (s * r) + r * r := by
  have e : s * s - 2 * (s * r) + r * r = (s - r) * (s - r) := by grind
  rw [e]
  rcases Int.le_total s r with h | h
  · have := Int.mul_nonneg (a := r - s) (b := r - s) (by omega) (by omega)
    have e2 : (r - s) * (r - s) = (s - r) * (s - r) := by grind
    omega
  · exact Int.mul_nonneg (by omega) (by omega)
theorem newton_ge {s x r : Int} (h : IsRt s x) (hr : 0 < r) : s ≤ (r + x / r) / 2 := by
  obtain ⟨h0, h1, _⟩ := h
  have e : (2 * s - r) * r ≤ x := by
    have := sq_dif s r
    have e : (2 * s - r) * r = 2 * (s * r) - r * r := by grind
    omega
  have := (Int.le_ediv_iff_mul_le hr).2 e
  generalize x / r = t at *
  omega
theorem newton_lt {s x r : Int} (h : IsRt s x) (hr : s < r) : (r + x / r) / 2 < r := by
  obtain ⟨h0, _, h1⟩ := h
  have h2 := sq_mono (a := s + 1) (b := r) (by omega) (by omega)
  have h3 : x / r < r := Int.ediv_lt_of_lt_mul (by omega) (by omega)
  generalize x / r = t at *
  omega
theorem rt_ex : ∀ n : Nat, ∃ s, IsRt s (n : Int)
  | 0 => ⟨0, by unfold IsRt; decide⟩
  | n + 1 => by
    obtain ⟨s, h0, h1, h2⟩ := rt_ex n
    by_cases hc : (n : Int) + 1 < (s + 1) * (s + 1)
    · exact ⟨s, h0, by omega, by omega⟩
    · refine ⟨s + 1, by omega, by omega, ?_⟩
      have e : (s + 1 + 1) * (s + 1 + 1) = (s + 1) * (s + 1) + 2 * s + 3 := by grind
      omega
theorem rt_exI {x : Int} (hx : 0 ≤ x) : ∃ s, IsRt s x := by
  obtain ⟨s, h⟩ := rt_ex x.toNat
  exact ⟨s, by rwa [Int.toNat_of_nonneg hx] at h⟩
theorem rt_pos {s x : Int} (h : IsRt s x) (hx : 0 < x) : 0 < s := by
  obtain ⟨h0, h1, h2⟩ := h
  rcases Int.lt_or_eq_of_le h0 with h3 | h3
  · exact h3
  · subst h3
    exfalso
    have : (0 + 1) * (0 + 1) = (1 : Int) := by decide
    omega
/-- Halving an interval around the root. -/
theorem half_lt {lo hi : Int} (h : lo + 1 < hi) : lo < (lo + hi) / 2 ∧ (lo + hi) / 2 < hi := by omega
end Go.AM

/- gantryref04: times, divided -/
namespace Go.AM
open Go Go.RowKit

theorem row_cons (v : Int) (l : List Int) : D.row (1 + l.length) (D.v (.int .i64 v) :: l.map iv) = rowI (v :: l) := by rw [rowI, List.length_cons, Nat.add_comm]; rfl
theorem all_ints (l : List Int) : List.all (l.map iv) D.one = true := by simp [iv, D.one, A.one]
theorem nd_nat (x : Nat) : nd (x : Int) = (digs x).length := rfl
theorem bs_mid {lo hi q R y : Nat} (h1 : lo ≤ q) (h2 : q ≤ hi) (h3 : lo < hi) (hq : q = R / y) (hy : 0 < y) : (y * ((lo + hi + 1) / 2) ≤ R → (lo + hi + 1) / 2 ≤ q) ∧ (¬ y * ((lo + hi + 1) / 2) ≤ R → q ≤ (lo + hi + 1) / 2 - 1) := by
  subst hq
  constructor
  · intro h
    rw [Nat.le_div_iff_mul_le hy, Nat.mul_comm]; exact h
  · intro h
    have : R / y < (lo + hi + 1) / 2 := by
      rw [Nat.div_lt_iff_lt_mul hy, Nat.mul_comm]
      exact Nat.not_le.1 h
    omega
variable [Its]

theorem times_spec {y k : Nat} (hy : (digs y).length ≤ 999999999999) (hk : k < 1000000000) : callX G n_gantryref04_times [dg (digs y), iv (k : Int)] = some (.d (dg (digs (y * k)))) := by
  rw [callX_eq (cf := gantryref04_times) rfl]
  have g1 := normal_spec false (Rw.dg (digs y)) (by omega) (digs_dig y)
  rw [encI_sgn_false, val_digs] at g1
  have g2 := rOf_spec (n := (k : Int)) ⟨by omega, by omega⟩
  have g3 := rMul_spec (x := (y : Int)) (y := (k : Int)) (by rw [nd_nat]; omega) (by rw [nd_nat]; have := nd_i64 (x := (k : Int)) ⟨by omega, by omega⟩; rw [nd_nat] at this; omega)
  have e : (y : Int) * (k : Int) = ((y * k : Nat) : Int) := rfl
  rw [e, encI_nat] at g3
  rw [encI_nat] at g1 g2 g3
  rw [encI_nat] at g3
  simp only [bv, iv] at g1 g2 g3
  simp -implicitDefEqProofs (maxSteps := 10000000) only [gantryref04_times, go_sem, stcells, ldcells, iv, bv, g1, g2, g3, reduceCtorEq, ↓reduceIte, Nat.reduceEqDiff]

section
variable (da : D) (y n : Nat) (o : List Int) (i R : Nat)
def rb_st (lo hi : Nat) : St := mkS [(0, .d da), (1, .d (dg (digs y))), (8, .own [42] n), (9, .d (dg (digs R))), (10, ai (i : Int)), (12, ai (lo : Int)), (13, ai (hi : Int))] [([42], arrI n o)]
def rb_end (lo : Nat) : St := mkS [(0, .d da), (1, .d (dg (digs y))), (8, .own [42] n), (9, .d (dg (digs R))), (10, ai (i : Int)), (12, ai (lo : Int))] [([42], arrI n o)]

theorem rb_go {lo hi : Nat} (hy : (digs y).length ≤ 999999999999) (hR : (digs R).length ≤ 1000000000001) (hlt : lo < hi) (hh : hi < 1000000000) :
    X G gantryref04_divided_l0 (rb_st da y n o i R lo hi) = some (.n, if y * ((lo + hi + 1) / 2) ≤ R then rb_st da y n o i R ((lo + hi + 1) / 2) hi else rb_st da y n o i R lo ((lo + hi + 1) / 2 - 1)) := by
  have e1 : decide ((lo : Int) < (hi : Int)) = true := lt_t (by omega)
  have e2 : w64 ((lo : Int) + (hi : Int)) = (lo : Int) + (hi : Int) := w64_id (by omega) (by omega)
  have e3 : w64 ((lo : Int) + (hi : Int) + 1) = (lo : Int) + (hi : Int) + 1 := w64_id (by omega) (by omega)
  have e4 : ((lo : Int) + (hi : Int) + 1).tdiv 2 = (((lo + hi + 1) / 2 : Nat) : Int) := by rw [Int.tdiv_eq_ediv_of_nonneg (by omega)]; omega
  have e5 : w64 (((lo + hi + 1) / 2 : Nat) : Int) = (((lo + hi + 1) / 2 : Nat) : Int) := w64_id (by omega) (by omega)
  have e9 : ((2 : Int) = 0) = False := by simp
  have hm : (lo + hi + 1) / 2 < 1000000000 := by omega
  have hm1 : 1 ≤ (lo + hi + 1) / 2 := by omega
  have t1 := times_spec (y := y) (k := (lo + hi + 1) / 2) hy hm
  generalize (lo + hi + 1) / 2 = mid at *
  have hly : (digs (y * mid)).length ≤ 1000000000002 := by
    have := nd_mul (x := (y : Int)) (y := (mid : Int))
    have e : (y : Int) * (mid : Int) = ((y * mid : Nat) : Int) := rfl
    rw [e] at this
    rw [nd_nat, nd_nat, nd_nat] at this
    have h3 := nd_i64 (x := (mid : Int)) ⟨by omega, by omega⟩
    rw [nd_nat] at h3
    omega
  have t2 := compared_spec (Rw.dg (digs (y * mid))) (Rw.dg (digs R)) (digs_dig _) (digs_dig _) (digs_top _) (digs_top _) (by omega) (by omega)
  rw [val_digs, val_digs] at t2
  simp only [iv] at t1 t2
  have e6 : w64 ((mid : Int) - 1) = ((mid - 1 : Nat) : Int) := by rw [w64_id (by omega) (by omega)]; omega
  by_cases hle : y * mid ≤ R
  · have e7 : decide (Int.sign (((y * mid : Nat) : Int) - (R : Int)) ≤ 0) = true := by
      apply le_t
      generalize y * mid = z at *
      rcases Int.lt_or_le ((z : Int) - (R : Int)) 0 with h | h
      · rw [Int.sign_eq_neg_one_of_neg h]; omega
      · rw [show (z : Int) - (R : Int) = 0 by omega]; exact Int.le_refl 0
    rw [if_pos hle]
    simp -implicitDefEqProofs (maxSteps := 10000000) only [gantryref04_divided_l0, rb_st, go_sem, iv, bv, e1, e2, e3, e4, e5, e6, e7, e9, t1, t2, refsL_I, reduceCtorEq, ↓reduceIte, Nat.reduceEqDiff]
  · have e7 : decide (Int.sign (((y * mid : Nat) : Int) - (R : Int)) ≤ 0) = false := by
      apply le_f
      generalize y * mid = z at *
      rw [Int.sign_eq_one_of_pos (by omega)]; omega
    rw [if_neg hle]
    simp -implicitDefEqProofs (maxSteps := 10000000) only [gantryref04_divided_l0, rb_st, go_sem, iv, bv, e1, e2, e3, e4, e5, e6, e7, e9, t1, t2, refsL_I, reduceCtorEq, ↓reduceIte, Nat.reduceEqDiff]

theorem rb_loop (hy0 : 0 < y) (hy : (digs y).length ≤ 999999999999) (hR : (digs R).length ≤ 1000000000001) : ∀ (k lo hi : Nat), hi - lo ≤ k → lo ≤ R / y → R / y ≤ hi → hi < 1000000000 → X G (.loop gantryref04_divided_l0) (rb_st da y n o i R lo hi) = some (.x 2, rb_end da y n o i R (R / y))
  | k, lo, hi, hk, h1, h2, hh => by
    rw [X_loop]
    by_cases hlt : lo < hi
    · rw [rb_go da y n o i R hy hR hlt hh, Option.bind_some, if_pos rfl]
      obtain ⟨b1, b2⟩ := bs_mid (R := R) (y := y) h1 h2 hlt rfl hy0
      cases k with
      | zero => omega
      | succ k =>
        by_cases hle : y * ((lo + hi + 1) / 2) ≤ R
        · rw [if_pos hle]
          exact rb_loop hy0 hy hR k _ _ (by omega) (b1 hle) h2 hh
        · rw [if_neg hle]
          exact rb_loop hy0 hy hR k _ _ (by omega) h1 (b2 hle) (by omega)
    · have he : lo = R / y := by omega
      have e1 : decide ((lo : Int) < (hi : Int)) = false := lt_f (by omega)
      rw [← he]
      simp -implicitDefEqProofs (maxSteps := 10000000) only [gantryref04_divided_l0, rb_st, rb_end, go_sem, iv, bv, e1, refsL_I, reduceCtorEq, ↓reduceIte, Nat.reduceEqDiff]
  termination_by k => k
end
end Go.AM

/- gantryref04: divided -/
namespace Go.AM
open Go Go.RowKit

theorem app1_fact {l : List Int} (h : l.length ≤ 1000000000000) : ((1 + l.length) * 8 ≤ bound) = True := eq_true (by simp only [bound]; omega)
theorem nat_digit {v : Int} (h : 0 ≤ v) : ∃ n : Nat, v = (n : Int) := ⟨v.toNat, by omega⟩
theorem step_lt {v r y : Nat} (hv : v < 1000000000) (hr : r < y) : v + 1000000000 * r < 1000000000 * y := by omega
theorem digs_step {v r y : Nat} (hv : v < 1000000000) (hr : r < y) : (digs (v + 1000000000 * r)).length ≤ (digs y).length + 1 := by
  apply digs_length_le
  have h1 : y < 1000000000 ^ (digs y).length := by
    have := lt_pow_nd (y : Int)
    rw [nd_nat] at this
    simpa using this
  rw [Nat.pow_succ]
  generalize 1000000000 ^ (digs y).length = z at *
  omega
theorem quo_step {v r y : Nat} (hv : v < 1000000000) (hr : r < y) : (v + 1000000000 * r) / y < 1000000000 := by
  rw [Nat.div_lt_iff_lt_mul (by omega)]
  omega
theorem rem_step (R y : Nat) : (R : Int) - ((y * (R / y) : Nat) : Int) = ((R % y : Nat) : Int) := by
  have := Nat.div_add_mod R y
  generalize y * (R / y) = z at *
  omega
theorem cast_dm (A y : Nat) : (y : Int) * ((A / y : Nat) : Int) + ((A % y : Nat) : Int) = (A : Int) := by
  have h := Nat.div_add_mod A y
  generalize A / y = q at *
  generalize A % y = m at *
  subst h
  rw [Int.natCast_add, Int.natCast_mul]
theorem dig_nat {n : Nat} (h : n < 1000000000) : 0 ≤ (n : Int) ∧ (n : Int) < 1000000000 := by omega
theorem st2 (x y u v : A) : stcells 0 [x, y] [u, v] = some [x, y] := rfl
theorem ld1 (u v : A) : ldcells none 1 [u, v] = some v := rfl
variable [Its]

section
variable (da : D) (a : List Int) (y : Nat)
def rd_st (o : List Int) (r : Nat) (i : Int) : St := mkS [(0, .d da), (1, .d (dg (digs y))), (8, .own [42] a.length), (9, .d (dg (digs r))), (10, ai i)] [([42], arrI a.length o)]
def rd_end (o : List Int) (r : Nat) : St := mkS [(8, .own [42] a.length), (9, .d (dg (digs r)))] [([42], arrI a.length o)]

theorem rd_stop (o : List Int) (r : Nat) : X G gantryref04_divided_l1 (rd_st da a y o r (-1)) = some (.x 0, rd_end a o r) := by
  have e1 : decide ((-1 : Int) ≥ 0) = false := rfl
  simp -implicitDefEqProofs (maxSteps := 10000000) only [gantryref04_divided_l1, rd_st, rd_end, go_sem, iv, bv, e1, refsL_I, reduceCtorEq, ↓reduceIte, Nat.reduceEqDiff]

theorem rd_go (hra : Rw da a) (ha : Dig a) (hy : (digs y).length ≤ 999999999999) (hl : a.length ≤ 1000000000000) {o : List Int} (ho : o.length = a.length) {r i v : Nat} (hi : i < a.length) (hr : r < y) (hv : a.getD i 0 = (v : Int)) :
    X G gantryref04_divided_l1 (rd_st da a y o r (i : Int)) = some (.n, rd_st da a y (o.set i (((v + 1000000000 * r) / y : Nat) : Int)) ((v + 1000000000 * r) % y) ((i : Int) - 1)) := by
  have hvd := ha.getD i
  rw [hv] at hvd
  have hvn : v < 1000000000 := by omega
  have hRl := digs_step (y := y) hvn hr
  have hq := quo_step (y := y) hvn hr
  have hrl := digs_len_mono (Nat.le_of_lt hr)
  have e1 : decide ((i : Int) ≥ 0) = true := ge_t (by omega)
  have e2 := hra.ixn (j := i) hi
  have e3 := fun hp => ldv hp a (j := i) hi
  rw [hv] at e3
  have e4 : w64 ((i : Int) - 1) = (i : Int) - 1 := w64_id (by omega) (by omega)
  have e5 : (0 : Int) ≤ (i : Int) ∧ (i : Int) < ((a.length : Nat) : Int) := by omega
  have e6 := fun x => stcells_I (l := o) (off := i) (v := x) (by omega)
  have f1 := app1_fact (l := digs r) (by omega)
  have f2 := all_ints (digs r)
  have nr := normal_spec false (Rw.row ((v : Int) :: digs r)) (by simp; omega) (Dig.cons.2 ⟨hvd, digs_dig r⟩)
  rw [encI_sgn_false, val, val_digs, ← row_cons] at nr
  have eR : (v : Int) + 1000000000 * (r : Int) = ((v + 1000000000 * r : Nat) : Int) := by omega
  rw [eR] at nr
  obtain ⟨R, hR⟩ : ∃ R, v + 1000000000 * r = R := ⟨_, rfl⟩
  rw [hR] at nr hRl hq ⊢
  rw [encI_nat] at nr
  have cp := compared_spec (Rw.dg (digs R)) (Rw.dg (digs y)) (digs_dig _) (digs_dig _) (digs_top _) (digs_top _) (by omega) (by omega)
  rw [val_digs, val_digs] at cp
  have tm := times_spec (y := y) (k := R / y) hy hq
  have hle : y * (R / y) ≤ R := Nat.mul_div_le R y
  obtain ⟨out, m1, m2, m3, m4⟩ := rminus_spec (Rw.dg (digs R)) (Rw.dg (digs (y * (R / y)))) (digs_dig _) (digs_dig _) (by omega) (digs_len_mono hle) (by rw [val_digs, val_digs]; exact Int.ofNat_le.2 hle)
  rw [val_digs, val_digs, rem_step] at m4
  have n2 := normal_spec false (Rw.dg out) (by omega) m3
  rw [encI_sgn_false, m4, encI_nat] at n2
  have hyp : 0 < y := by omega
  have c9 : ((999999999 : Nat) : Int) = 999999999 := rfl
  simp only [bv, iv] at nr cp tm n2
  by_cases hlt : R < y
  · have c1 : decide (Int.sign ((R : Int) - (y : Int)) < 0) = true := by rw [Int.sign_eq_neg_one_of_neg (by omega)]; rfl
    have hx := rb_loop da y a.length o i R hyp hy (by omega) 0 0 0 (by omega) (Nat.zero_le _) (by rw [Nat.div_eq_of_lt hlt]; exact Nat.le_refl _) (by omega)
    simp only [rb_st, rb_end, go_sem] at hx
    simp -implicitDefEqProofs (maxSteps := 10000000) only [gantryref04_divided_l1, rd_st, go_sem, st2, ld1, src_dg, src_row, List.length_map, iv, bv, e1, e2, e3, e4, e5, e6, f1, f2, nr, cp, c1, hx, tm, m1, n2, retA_gR, allD_I, refsL_I, cellsI_length, reduceCtorEq, ↓reduceIte, Nat.reduceEqDiff]
  · have c1 : decide (Int.sign ((R : Int) - (y : Int)) < 0) = false := by
      apply lt_f
      rcases Int.lt_or_le 0 ((R : Int) - (y : Int)) with h | h
      · rw [Int.sign_eq_one_of_pos h]; omega
      · rw [show (R : Int) - (y : Int) = 0 by omega]; exact Int.lt_irrefl 0
    have hx := rb_loop da y a.length o i R hyp hy (by omega) 999999999 0 999999999 (by omega) (Nat.zero_le _) (by omega) (by omega)
    simp only [rb_st, rb_end, go_sem, c9] at hx
    simp -implicitDefEqProofs (maxSteps := 10000000) only [gantryref04_divided_l1, rd_st, go_sem, st2, ld1, src_dg, src_row, List.length_map, iv, bv, e1, e2, e3, e4, e5, e6, f1, f2, nr, cp, c1, hx, tm, m1, n2, retA_gR, allD_I, refsL_I, cellsI_length, reduceCtorEq, ↓reduceIte, Nat.reduceEqDiff]

theorem rd_loop (hra : Rw da a) (ha : Dig a) (hy0 : 0 < y) (hy : (digs y).length ≤ 999999999999) (hl : a.length ≤ 1000000000000) : ∀ (k : Nat) (o : List Int) (r : Nat), k ≤ a.length → o.length = a.length → Dig o → r < y → val (a.drop k) = val (o.drop k) * (y : Int) + (r : Int) →
    ∃ o' r', X G (.loop gantryref04_divided_l1) (rd_st da a y o r ((k : Int) - 1)) = some (.x 0, rd_end a o' r') ∧ o'.length = a.length ∧ Dig o' ∧ r' < y ∧ val a = val o' * (y : Int) + (r' : Int)
  | 0, o, r, hk, ho, hd, hr, hv => ⟨o, r, by
      have : ((0 : Nat) : Int) - 1 = -1 := rfl
      rw [this, X_loop, rd_stop]; rfl, ho, hd, hr, by simpa using hv⟩
  | k + 1, o, r, hk, ho, hd, hr, hv => by
    obtain ⟨v, hvv⟩ := nat_digit (ha.getD k).1
    have hvn := (ha.getD k).2
    rw [hvv] at hvn
    have hvn' : v < 1000000000 := by omega
    have hx := rd_go da a y hra ha hy hl ho (i := k) (by omega) hr hvv
    have hq := quo_step (y := y) hvn' hr
    have hm := Nat.mod_lt (v + 1000000000 * r) hy0
    obtain ⟨o', r', g1, g2⟩ := rd_loop hra ha hy0 hy hl k (o.set k (((v + 1000000000 * r) / y : Nat) : Int)) ((v + 1000000000 * r) % y) (by omega) (by simpa using ho) (hd.set (dig_nat hq)) hm (by
      rw [val_drop_getD, hv, val_drop_set _ (by omega), hvv]
      have hdm' : (y : Int) * (((v + 1000000000 * r) / y : Nat) : Int) + (((v + 1000000000 * r) % y : Nat) : Int) = (v : Int) + 1000000000 * (r : Int) := by rw [cast_dm]; rw [Int.natCast_add, Int.natCast_mul]; rfl
      generalize (((v + 1000000000 * r) / y : Nat) : Int) = Q at *
      generalize (((v + 1000000000 * r) % y : Nat) : Int) = M at *
      clear hx hq hm hv
      grind)
    refine ⟨o', r', ?_, g2⟩
    have : ((k + 1 : Nat) : Int) - 1 = (k : Int) := by omega
    rw [this, X_loop, hx]
    exact g1
end

theorem divided_spec {x y : Nat} (hy : 0 < y) (hx : (digs x).length ≤ 1000000000000) (hyl : (digs y).length ≤ 999999999999) :
    ∃ dq q, callX G n_gantryref04_divided [dg (digs x), dg (digs y)] = some (.d (.tup [dq, dg (digs (x % y))])) ∧ Rw dq q ∧ Dig q ∧ q.length ≤ 1000000000000 ∧ val q = ((x / y : Nat) : Int) := by
  have lx := lenA_dg (digs x)
  have ly := lenA_dg (digs y)
  by_cases h1 : (digs x).length ≤ 2
  · have e1 : decide (((digs x).length : Int) ≤ 2) = true := le_t (by omega)
    by_cases h2 : (digs y).length ≤ 2
    · have e2 : decide (((digs y).length : Int) ≤ 2) = true := le_t (by omega)
      have t1 := tiny_spec (Rw.dg (digs x)) (digs_dig x) h1
      have t2 := tiny_spec (Rw.dg (digs y)) (digs_dig y) h2
      rw [val_digs] at t1 t2
      have s1 := digs_small h1
      have e3 := eqz_f (b := (y : Int)) (by omega)
      have e4 := quo_pos (a := (x : Int)) (b := (y : Int)) (by omega)
      have e5 := rem_pos (a := (x : Int)) (b := (y : Int)) (by omega)
      have c1 : (x : Int) / (y : Int) = ((x / y : Nat) : Int) := rfl
      have c2 : (x : Int) % (y : Int) = ((x % y : Nat) : Int) := rfl
      rw [c1] at e4
      rw [c2] at e5
      have hq : x / y ≤ x := Nat.div_le_self x y
      have hr : x % y ≤ x := Nat.mod_le x y
      have hql := digs_len_mono hq
      clear c1 c2
      generalize x / y = Q at *
      generalize x % y = M at *
      have o1 := rOf_spec (n := (Q : Int)) ⟨by omega, by omega⟩
      have o2 := rOf_spec (n := (M : Int)) ⟨by omega, by omega⟩
      have e6 : w64 (Q : Int) = (Q : Int) := w64_id (by omega) (by omega)
      rw [encI_nat] at o1 o2
      simp only [iv] at t1 t2 o1 o2
      refine ⟨dg (digs Q), digs Q, ?_, Rw.dg _, digs_dig _, by omega, val_digs _⟩
      rw [callX_eq (cf := gantryref04_divided) rfl]
      simp -implicitDefEqProofs (maxSteps := 10000000) only [gantryref04_divided, go_sem, st2, ld1, iv, bv, lx, ly, e1, e2, e3, e4, e5, e6, t1, t2, o1, o2, toDs, reduceCtorEq, ↓reduceIte, Nat.reduceEqDiff]
    · have e2 : decide (((digs y).length : Int) ≤ 2) = false := le_f (by omega)
      obtain ⟨o, r, g1, g2, g3, g4, g5⟩ := rd_loop (dg (digs x)) (digs x) y (Rw.dg _) (digs_dig x) hy hyl hx (digs x).length (List.replicate (digs x).length 0) 0 (Nat.le_refl _) (by simp) (Dig.replicate _) hy (by rw [List.drop_length, List.drop_eq_nil_of_le (by simp)]; simp [val])
      rw [val_digs] at g5
      obtain ⟨u1, u2⟩ := div_uni g5 (Int.natCast_nonneg _) (Int.ofNat_lt.2 g4)
      have u2' : x % y = r := Int.ofNat.inj u2
      refine ⟨rowI o, o, ?_, Rw.row _, g3, by omega, u1.symm⟩
      rw [u2', callX_eq (cf := gantryref04_divided) rfl]
      have f1 := bnd (digs x).length (by omega)
      have f2 : w64 (((digs x).length : Int) - 1) = ((digs x).length : Int) - 1 := w64_id (by omega) (by omega)
      simp only [rd_st, rd_end, digs_zero, dg_nil, go_sem] at g1
      simp -implicitDefEqProofs (maxSteps := 10000000) only [gantryref04_divided, go_sem, iv, bv, lx, ly, e1, e2, f1, f2, g1, g2, rowI, rep_I, allD_I, refsL_I, toDs, reduceCtorEq, ↓reduceIte, Nat.reduceEqDiff]
  · have e1 : decide (((digs x).length : Int) ≤ 2) = false := le_f (by omega)
    obtain ⟨o, r, g1, g2, g3, g4, g5⟩ := rd_loop (dg (digs x)) (digs x) y (Rw.dg _) (digs_dig x) hy hyl hx (digs x).length (List.replicate (digs x).length 0) 0 (Nat.le_refl _) (by simp) (Dig.replicate _) hy (by rw [List.drop_length, List.drop_eq_nil_of_le (by simp)]; simp [val])
    rw [val_digs] at g5
    obtain ⟨u1, u2⟩ := div_uni g5 (Int.natCast_nonneg _) (Int.ofNat_lt.2 g4)
    have u2' : x % y = r := Int.ofNat.inj u2
    refine ⟨rowI o, o, ?_, Rw.row _, g3, by omega, u1.symm⟩
    rw [u2', callX_eq (cf := gantryref04_divided) rfl]
    have f1 := bnd (digs x).length (by omega)
    have f2 : w64 (((digs x).length : Int) - 1) = ((digs x).length : Int) - 1 := w64_id (by omega) (by omega)
    simp only [rd_st, rd_end, digs_zero, dg_nil, go_sem] at g1
    simp -implicitDefEqProofs (maxSteps := 10000000) only [gantryref04_divided, go_sem, iv, bv, lx, ly, e1, f1, f2, g1, g2, rowI, rep_I, allD_I, refsL_I, toDs, reduceCtorEq, ↓reduceIte, Nat.reduceEqDiff]
end Go.AM

/- ref04.Div -/
namespace Go.AM
open Go Go.RowKit
variable [Its]

theorem rDiv_zero (x : Int) : callX G n_gantryref04_Div [encI x, encI 0] = some (.d (.tup [encI 0, encI 0])) := by
  rw [callX_eq (cf := gantryref04_Div) rfl]
  have e1 : ((0 : Int) == 0) = true := rfl
  have e2 := one_dg' (digs x.natAbs)
  rw [encI_zero]
  simp -implicitDefEqProofs (maxSteps := 10000000) only [gantryref04_Div, encI, go_sem, stcells, ldcells, iv, bv, e1, toDs, reduceCtorEq, ↓reduceIte, Nat.reduceEqDiff]

theorem rDiv_spec {x y : Int} (hy : y ≠ 0) (hx : nd x ≤ 1000000000000) (hyl : nd y ≤ 999999999999) :
    callX G n_gantryref04_Div [encI x, encI y] = some (.d (.tup [encI (x / y), encI (x % y)])) := by
  obtain ⟨c1, c2, c3⟩ := ediv_cases (x := x) hy
  have hya : 0 < y.natAbs := by omega
  obtain ⟨dq, q, td, t1, t2, t3, t4⟩ := divided_spec (x := x.natAbs) (y := y.natAbs) hya hx hyl
  have ly := lenA_dg (digs y.natAbs)
  have fq : A.one (.d dq) = true := by
    rcases t1 with h | h
    · rw [h]; exact one_dg' q
    · rw [h]; rfl
  have e1 : (((digs y.natAbs).length : Int) == 0) = false := beq_f (by have := digs_length_pos.2 hya; omega)
  have n1 : (x.natAbs : Int) / (y.natAbs : Int) = ((x.natAbs / y.natAbs : Nat) : Int) := rfl
  have n2 : (x.natAbs : Int) % (y.natAbs : Int) = ((x.natAbs % y.natAbs : Nat) : Int) := rfl
  have hq1 : x.natAbs / y.natAbs ≤ x.natAbs := Nat.div_le_self _ _
  have hr1 : x.natAbs % y.natAbs < y.natAbs := Nat.mod_lt _ hya
  rw [n1] at c1 c2 c3
  rw [n2] at c1 c2 c3
  clear n1 n2
  generalize x.natAbs / y.natAbs = Q at *
  generalize x.natAbs % y.natAbs = M at *
  have hQl : (digs Q).length ≤ (digs x.natAbs).length := digs_len_mono hq1
  have hMl : (digs M).length ≤ (digs y.natAbs).length := digs_len_mono (Nat.le_of_lt hr1)
  have hxn : (digs x.natAbs).length ≤ 1000000000000 := hx
  have hyn : (digs y.natAbs).length ≤ 999999999999 := hyl
  have lm := lenA_dg (digs M)
  obtain ⟨s, hs⟩ : ∃ s, (!(decide (x < 0) == decide (y < 0))) = s := ⟨_, rfl⟩
  have k1 := normal_spec s t1 (by omega) t2
  rw [t4] at k1
  have k2 := normal_spec false (Rw.dg (digs M)) (by omega) (digs_dig _)
  rw [encI_sgn_false, val_digs, encI_nat] at k2
  rw [callX_eq (cf := gantryref04_Div) rfl]
  by_cases hb : x < 0 ∧ M ≠ 0
  · have x1 : decide (x < 0) = true := decide_eq_true hb.1
    have f1 : decide (((digs M).length : Int) > 0) = true := gt_t (by have := digs_length_pos.2 (Nat.pos_of_ne_zero hb.2); omega)
    obtain ⟨d1, d2⟩ := c3 hb.1 (by omega)
    have hs' : s = !decide (y < 0) := by rw [← hs, x1]; cases decide (y < 0) <;> rfl
    have k3 := normal_spec s (Rw.row [1]) (by simp) (fun d hd => by simp at hd; omega)
    have v1 : val [1] = 1 := by simp [val]
    rw [v1] at k3
    have a1 : nd (sgn s (Q : Int)) ≤ 1000000000000 := by rw [nd, natAbs_sgn]; exact Nat.le_trans hQl hxn
    have a2 : nd (sgn s 1) ≤ 1000000000000 := by
      have : nd (sgn s 1) ≤ 3 := nd_i64 (by cases s <;> simp [sgn])
      omega
    have k4 := rAdd_spec a1 a2
    have s1 : sgn s (Q : Int) + sgn s 1 = sgn s ((Q : Int) + 1) := by
      cases s
      · simp only [sgn, Bool.false_eq_true, if_false]
      · simp only [sgn, if_true]; omega
    rw [s1, hs', ← d1, ← hs'] at k4
    obtain ⟨o2, s1, s2, s3, s4⟩ := rminus_spec (Rw.dg (digs y.natAbs)) (Rw.dg (digs M)) (digs_dig _) (digs_dig _) (by omega) hMl (by rw [val_digs, val_digs]; omega)
    rw [val_digs, val_digs] at s4
    have k5 := normal_spec false (Rw.dg o2) (by omega) s3
    rw [encI_sgn_false, s4, ← d2] at k5
    obtain ⟨z, hz⟩ : ∃ z, sgn s (Q : Int) = z := ⟨_, rfl⟩
    obtain ⟨X, hX⟩ : ∃ X, x / y = X := ⟨_, rfl⟩
    obtain ⟨Y, hY⟩ : ∃ Y, x % y = Y := ⟨_, rfl⟩
    rw [hz] at k1 k4
    rw [hX] at k4 ⊢
    rw [hY] at k5 ⊢
    simp only [rowI, List.map_cons, List.map_nil, List.length_cons, List.length_nil, encI, bv, iv, Nat.reduceAdd] at k1 k2 k3 k4 k5
    rw [x1] at hs
    simp -implicitDefEqProofs (maxSteps := 10000000) only [gantryref04_Div, encI, go_sem, stcells, ldcells, iv, bv, e1, x1, hs, f1, td, ly, lm, fq, k1, k2, k3, k4, k5, s1, retA_gR, toDs, apartS, ne_eq, not_false_eq_true, reduceCtorEq, ↓reduceIte, Nat.reduceEqDiff]
  · have hr : x / y = sgn s (Q : Int) ∧ x % y = (M : Int) := by
      by_cases hx0 : x < 0
      · have hM : M = 0 := by
          rcases Nat.eq_zero_or_pos M with h | h
          · exact h
          · exact absurd ⟨hx0, by omega⟩ hb
        have x1 : decide (x < 0) = true := decide_eq_true hx0
        obtain ⟨d1, d2⟩ := c2 hx0 (by omega)
        refine ⟨?_, by rw [d2, hM]; rfl⟩
        rw [d1, ← hs, x1]; cases decide (y < 0) <;> rfl
      · have x1 : decide (x < 0) = false := decide_eq_false hx0
        obtain ⟨d1, d2⟩ := c1 hx0
        refine ⟨?_, d2⟩
        rw [d1, ← hs, x1]; cases decide (y < 0) <;> rfl
    rw [hr.1, hr.2, encI_nat]
    obtain ⟨z, hz⟩ : ∃ z, sgn s (Q : Int) = z := ⟨_, rfl⟩
    rw [hz] at k1 ⊢
    simp only [encI, bv, iv] at k1 k2
    by_cases hx0 : x < 0
    · have x1 : decide (x < 0) = true := decide_eq_true hx0
      have f1 : decide (((digs M).length : Int) > 0) = false := by
        have : ¬ M ≠ 0 := fun h => hb ⟨hx0, h⟩
        have : M = 0 := by omega
        rw [this, digs_zero]; rfl
      rw [x1] at hs
      simp -implicitDefEqProofs (maxSteps := 10000000) only [gantryref04_Div, encI, go_sem, stcells, ldcells, iv, bv, e1, x1, hs, f1, td, ly, lm, fq, k1, k2, toDs, apartS, ne_eq, not_false_eq_true, reduceCtorEq, ↓reduceIte, Nat.reduceEqDiff]
    · have x1 : decide (x < 0) = false := decide_eq_false hx0
      rw [x1] at hs
      simp -implicitDefEqProofs (maxSteps := 10000000) only [gantryref04_Div, encI, go_sem, stcells, ldcells, iv, bv, e1, x1, hs, td, ly, lm, fq, k1, k2, toDs, apartS, ne_eq, not_false_eq_true, reduceCtorEq, ↓reduceIte, Nat.reduceEqDiff]
end Go.AM

/- ref04.Gcd -/
namespace Go.AM
open Go Go.RowKit
variable [Its]

def rg_st (m n : Nat) : St := mkS [(4, .ptr [4] 0), (7, ai m), (8, ai n)] [([4], box0)]
def rg_en (m : Nat) : St := mkS [(4, .ptr [4] 0), (7, ai m)] [([4], box0)]
theorem rg_ints : ∀ (n m : Nat), m < 1000000000000000000 → n < 1000000000000000000 → X G (.loop gantryref04_Gcd_l0) (rg_st m n) = some (.x 2, rg_en (Nat.gcd m n)) := by
  intro n
  induction n using Nat.strongRecOn with
  | _ n ih =>
  intro m hm hn
  rw [X_loop]
  by_cases h0 : n = 0
  · subst h0
    have e1 : decide (((0 : Nat) : Int) > 0) = false := rfl
    rw [Nat.gcd_zero_right]
    simp -implicitDefEqProofs (maxSteps := 10000000) only [gantryref04_Gcd_l0, rg_st, rg_en, box0, go_sem, iv, bv, reduceCtorEq, ↓reduceIte, Nat.reduceEqDiff]
    rfl
  · have e1 : decide ((n : Int) > 0) = true := gt_t (by omega)
    have e2 := eqz_f (b := (n : Int)) (by omega)
    have e3 := rem_pos (a := (m : Int)) (b := (n : Int)) (by omega)
    have e4 : (m : Int) % (n : Int) = ((m % n : Nat) : Int) := rfl
    have hlt : m % n < n := Nat.mod_lt _ (by omega)
    have hx : X G gantryref04_Gcd_l0 (rg_st m n) = some (.n, rg_st n (m % n)) := by
      simp -implicitDefEqProofs (maxSteps := 10000000) only [gantryref04_Gcd_l0, rg_st, rg_en, box0, go_sem, iv, bv, e1, e2, e3, e4, reduceCtorEq, ↓reduceIte, Nat.reduceEqDiff]
    rw [hx, Option.bind_some, if_pos rfl, ih (m % n) hlt n hn (by omega), gcd_step]

theorem rg_loop : ∀ (b a : Nat), (digs a).length ≤ 1000000000000 → (digs b).length ≤ 999999999999 →
    X G (.loop gantryref04_Gcd_l1) (gl_st a b) = some (.x 0, gl_en (Nat.gcd a b)) ∨ X G (.loop gantryref04_Gcd_l1) (gl_st a b) = some (.r, gl_ret (Nat.gcd a b)) := by
  intro b
  induction b using Nat.strongRecOn with
  | _ b ih =>
  intro a ha hb
  have la := lenA_dg (digs a)
  have lb := lenA_dg (digs b)
  by_cases h0 : b = 0
  · subst h0
    have e1 : decide (((digs 0).length : Int) > 0) = false := by rw [digs_zero]; rfl
    refine .inl ?_
    rw [Nat.gcd_zero_right, X_loop]
    simp -implicitDefEqProofs (maxSteps := 10000000) only [gantryref04_Gcd_l1, gl_st, gl_en, box0, boxI, go_sem, stcells, ldcells, iv, bv, e1, la, lb, reduceCtorEq, ↓reduceIte, Nat.reduceEqDiff]
  · have e1 : decide (((digs b).length : Int) > 0) = true := gt_t (by have := digs_length_pos.2 (Nat.pos_of_ne_zero h0); omega)
    by_cases h1 : (digs a).length ≤ 2 ∧ (digs b).length ≤ 2
    · have t1 := tiny_spec (Rw.dg (digs a)) (digs_dig a) h1.1
      have t2 := tiny_spec (Rw.dg (digs b)) (digs_dig b) h1.2
      rw [val_digs] at t1 t2
      simp only [iv, bv] at t1 t2
      have d1 : decide (((digs a).length : Int) ≤ 2) = true := le_t (by omega)
      have d2 : decide (((digs b).length : Int) ≤ 2) = true := le_t (by omega)
      have s1 := digs_small h1.1
      have s2 := digs_small h1.2
      have g1 := rg_ints b a s1 s2
      have hg : Nat.gcd a b ≤ b := Nat.gcd_le_right _ (Nat.pos_of_ne_zero h0)
      have u1 := rOf_spec (n := ((Nat.gcd a b : Nat) : Int)) ⟨by omega, by omega⟩
      rw [encI_nat] at u1
      simp only [rg_st, rg_en, box0, go_sem] at g1
      simp only [iv] at u1
      refine .inr ?_
      rw [X_loop]
      simp -implicitDefEqProofs (maxSteps := 10000000) only [gantryref04_Gcd_l1, gl_st, gl_ret, box0, boxI, go_sem, stcells, ldcells, iv, bv, e1, la, lb, d1, d2, t1, t2, g1, u1, reduceCtorEq, ↓reduceIte, Nat.reduceEqDiff]
    · have td := rDiv_spec (x := (a : Int)) (y := (b : Int)) (by omega) (by rw [nd_nat]; exact ha) (by rw [nd_nat]; exact hb)
      have e3 : (a : Int) / (b : Int) = ((a / b : Nat) : Int) := rfl
      have e4 : (a : Int) % (b : Int) = ((a % b : Nat) : Int) := rfl
      rw [e3, e4, encI_nat, encI_nat, encI_nat, encI_nat] at td
      have hlt : a % b < b := Nat.mod_lt _ (Nat.pos_of_ne_zero h0)
      have hx : X G gantryref04_Gcd_l1 (gl_st a b) = some (.n, gl_st b (a % b)) := by
        by_cases h2 : (digs a).length ≤ 2
        · have h3 : ¬ (digs b).length ≤ 2 := fun h => h1 ⟨h2, h⟩
          have d1 : decide (((digs a).length : Int) ≤ 2) = true := le_t (by omega)
          have d2 : decide (((digs b).length : Int) ≤ 2) = false := le_f (by omega)
          simp -implicitDefEqProofs (maxSteps := 10000000) only [gantryref04_Gcd_l1, gl_st, gl_ret, box0, boxI, go_sem, stcells, ldcells, iv, bv, e1, la, lb, d1, d2, td, apartS, ne_eq, not_false_eq_true, reduceCtorEq, ↓reduceIte, Nat.reduceEqDiff]
        · have d1 : decide (((digs a).length : Int) ≤ 2) = false := le_f (by omega)
          simp -implicitDefEqProofs (maxSteps := 10000000) only [gantryref04_Gcd_l1, gl_st, gl_ret, box0, boxI, go_sem, stcells, ldcells, iv, bv, e1, la, lb, d1, td, apartS, ne_eq, not_false_eq_true, reduceCtorEq, ↓reduceIte, Nat.reduceEqDiff]
      have hr := ih (a % b) hlt b (by omega) (Nat.le_trans (digs_len_mono (Nat.le_of_lt hlt)) hb)
      rw [gcd_step] at hr
      rw [X_loop, hx]
      exact hr

theorem rGcd_spec {x y : Int} (hx : nd x ≤ 1000000000000) (hy : nd y ≤ 999999999999) : callX G n_gantryref04_Gcd [encI x, encI y] = some (.d (encI (Int.gcd x y : Nat))) := by
  rw [callX_eq (cf := gantryref04_Gcd) rfl]
  have hxn : (digs x.natAbs).length ≤ 1000000000000 := hx
  have hyn : (digs y.natAbs).length ≤ 999999999999 := hy
  have o1 := normal_spec false (Rw.dg (digs x.natAbs)) (by omega) (digs_dig _)
  have o2 := normal_spec false (Rw.dg (digs y.natAbs)) (by omega) (digs_dig _)
  rw [encI_sgn_false, val_digs, encI_nat] at o1 o2
  simp only [bv] at o1 o2
  rw [encI_nat]
  have e : Int.gcd x y = Nat.gcd x.natAbs y.natAbs := rfl
  rw [e]
  rcases rg_loop y.natAbs x.natAbs hxn hyn with g | g
  · simp only [gl_st, gl_en, box0, boxI, go_sem] at g
    simp -implicitDefEqProofs (maxSteps := 10000000) only [gantryref04_Gcd, encI, go_sem, stcells, ldcells, iv, bv, o1, o2, g, reduceCtorEq, ↓reduceIte, Nat.reduceEqDiff]
  · simp only [gl_st, gl_ret, box0, boxI, go_sem] at g
    simp -implicitDefEqProofs (maxSteps := 10000000) only [gantryref04_Gcd, encI, go_sem, stcells, ldcells, iv, bv, o1, o2, g, reduceCtorEq, ↓reduceIte, Nat.reduceEqDiff]
end Go.AM

/- integer.Root, ref04.Root. -/
namespace Go.AM
open Go Go.RowKit

theorem nd_ediv2 {x r : Int} : nd (x / r) ≤ nd x := nd_mono (by
  rcases Int.lt_trichotomy r 0 with h | h | h
  · exact Int.natAbs_ediv_le_natAbs _ _
  · subst h; simp
  · exact Int.natAbs_ediv_le_natAbs _ _)
theorem nd_le_of {x y : Int} (h0 : 0 ≤ x) (h : x ≤ y) : nd x ≤ nd y := nd_mono (by omega)
theorem val_lead (m : Nat) : val (List.replicate m 0 ++ [1]) = (1000000000 : Int) ^ m := by
  rw [val_append, val_replicate, List.length_replicate]
  simp [val]
theorem dig_one (m : Nat) : Dig (List.replicate m 0 ++ [1]) := by
  rw [Dig.append]
  exact ⟨Dig.replicate m, fun d hd => by simp at hd; omega⟩
theorem two_ne : ((2 : Int) = 0) = False := by simp
variable [Its]
def rt_st (x r : Int) : St := mkS [(1, .ptr [1] 0), (2, .ptr [2] 0), (4, .ptr [4] 0)] [([1], bI x), ([2], ⟨0, 0, [.d (.v (.bool false)), .d (.z true)], false⟩), ([4], bI r)]
theorem rt_go {x r : Int} (hr : 0 < r) (hx : nd x ≤ 100000000000) (hk : nd r ≤ 100000000000) :
    X G integer_Root_l0 (rt_st x r) = if (r + x / r) / 2 ≥ r then some (.x 0, rt_st x r) else some (.n, rt_st x ((r + x / r) / 2)) := by
  have g1 := Div_spec (x := x) (y := r) (by omega) (by omega) (by omega)
  have n1 := nd_ediv2 (x := x) (r := r)
  have g2 := Add_spec (x := r) (y := x / r) (by omega) (by omega)
  have n2 := nd_add (x := r) (y := x / r) (k := 100000000000) hk (by omega)
  have g3 := Of_spec (n := 2) ⟨by omega, by omega⟩
  have g4 := Div_spec (x := r + x / r) (y := 2) (by omega) (by omega) (Nat.le_trans (nd_i64 ⟨by omega, by omega⟩) (by omega))
  have n3 := nd_ediv2 (x := r + x / r) (r := 2)
  have g5 := Compare_spec (x := (r + x / r) / 2) (y := r) (by omega) (by omega)
  have c := sgn_ge (a := (r + x / r) / 2 - r)
  simp only [iv] at g3 g5
  generalize (r + x / r) % 2 = m2 at *
  obtain ⟨nx, hnx⟩ : ∃ nx, (r + x / r) / 2 = nx := ⟨_, rfl⟩
  rw [hnx] at g4 g5 c ⊢
  generalize x / r = q at *
  generalize x % r = m1 at *
  generalize r + q = s at *
  generalize Int.sign (nx - r) = sg at *
  by_cases h : nx ≥ r
  · rw [show decide (0 ≤ nx - r) = true from decide_eq_true (by omega)] at c
    rw [if_pos h]
    simp -implicitDefEqProofs (maxSteps := 10000000) only [integer_Root_l0, rt_st, bI, g1, g2, g3, g4, g5, c, extA, go_sem, reduceCtorEq, ↓reduceIte, Nat.reduceEqDiff, iv]
  · rw [show decide (0 ≤ nx - r) = false from decide_eq_false (by omega)] at c
    rw [if_neg h]
    simp -implicitDefEqProofs (maxSteps := 10000000) only [integer_Root_l0, rt_st, bI, g1, g2, g3, g4, g5, c, extA, go_sem, reduceCtorEq, ↓reduceIte, Nat.reduceEqDiff, iv]
theorem rt_loop {x s : Int} (hx : nd x ≤ 100000000000) (hs : IsRt s x) (hs0 : 0 < s) : ∀ (n : Nat) (r : Int), r.toNat ≤ n → s ≤ r → nd r ≤ 100000000000 → X G (.loop integer_Root_l0) (rt_st x r) = some (.x 0, rt_st x s)
  | 0, r, hn, hr, hk => by omega
  | n + 1, r, hn, hr, hk => by
    rw [X_loop, rt_go (by omega) hx hk]
    have h1 := newton_ge hs (r := r) (by omega)
    by_cases h : s < r
    · have h2 := newton_lt hs h
      generalize (r + x / r) / 2 = nx at *
      rw [if_neg (by omega), Option.bind_some, if_pos rfl]
      exact rt_loop hx hs hs0 n nx (by omega) h1 (Nat.le_trans (nd_le_of (by omega) (by omega)) hk)
    · have : r = s := by omega
      subst this
      generalize (r + x / r) / 2 = nx at *
      rw [if_pos (by omega)]
      rfl
theorem Root_spec {x s : Int} (hx : nd x ≤ 10000000000) (h0 : 0 ≤ x) (hs : IsRt s x) : callX G n_integer_Root [encI x] = some (.d (.tup [encI s, bv (decide (s * s = x))])) := by
  rw [callX_eq (cf := integer_Root) rfl]
  obtain ⟨l, hl⟩ : ∃ l, digs x.natAbs = l := ⟨_, rfl⟩
  have ll := lenA_dg l
  have s1 : decide (x < 0) = false := lt_f (by omega)
  have hn : l.length ≤ 10000000000 := by rw [← hl]; exact hx
  by_cases hx0 : x = 0
  · subst hx0
    have hs0 : s = 0 := by
      obtain ⟨h1, h2, _⟩ := hs
      have := sq_dif s 0
      rcases Int.lt_or_eq_of_le h1 with h3 | h3
      · have : 0 < s * s := Int.mul_pos h3 h3
        omega
      · exact h3.symm
    subst hs0
    have e1 : ((l.length : Int) == 0) = true := by rw [← hl]; exact beq_t (by rw [show (0 : Int).natAbs = 0 from rfl, digs_zero]; rfl)
    have e2 : decide ((0 : Int) * 0 = 0) = true := rfl
    have e3 := zero_agg
    have st0 : ∀ u v : A, stcells 0 [A.d (.v (.bool false)), A.d (.z true)] [u, v] = some [A.d (.v (.bool false)), A.d (.z true)] := fun _ _ => rfl
    have ld0 : ldcells (some 2) 0 [A.d (.v (.bool false)), A.d (.z true)] = some (.d (encI 0)) := by rw [← zero_agg]; rfl
    simp -implicitDefEqProofs (maxSteps := 10000000) only [integer_Root, bI, hl, ll, s1, e1, e2, st0, ld0, apartS, ne_eq, not_false_eq_true, toDs, go_sem, reduceCtorEq, ↓reduceIte, Nat.reduceEqDiff, iv, bv]
  have hsp := rt_pos hs (show 0 < x by omega)
  have e1 : ((l.length : Int) == 0) = false := beq_f (by
    have : 0 < (digs x.natAbs).length := digs_length_pos.2 (by omega)
    rw [hl] at this; omega)
  obtain ⟨m, hm⟩ : ∃ m, (l.length + 1) / 2 = m := ⟨_, rfl⟩
  have e2 : w64 ((l.length : Int) + 1) = ((l.length + 1 : Nat) : Int) := by rw [w64_id (by omega) (by omega)]; rfl
  have e3 : w64 (((l.length + 1 : Nat) : Int).tdiv 2) = (m : Int) := by
    rw [quo_pos (by omega), ← hm]
    exact w64_id (by omega) (by omega)
  have e4 := bnd m (by omega)
  have o1 := of_spec false (Rw.row (List.replicate m 0 ++ [1])) (by simp; omega) (dig_one m)
  rw [val_lead] at o1
  have hdr : (digs x.natAbs).length ≤ m + m := by rw [hl]; omega
  have hlt : s ≤ (1000000000 : Int) ^ m := by
    have h1 := lt_pow_nd x
    have h2 : x.natAbs < 1000000000 ^ (m + m) := Nat.lt_of_lt_of_le h1 (npow_mono hdr)
    have h3 : x < (1000000000 : Int) ^ m * (1000000000 : Int) ^ m := by
      rw [← Int.pow_add]
      have h4 : ((1000000000 ^ (m + m) : Nat) : Int) = (1000000000 : Int) ^ (m + m) := by simp
      rw [← h4]; omega
    have := rt_gt hs (t := (1000000000 : Int) ^ m) (Int.le_of_lt (pow_pos' m)) h3
    omega
  have hk : nd ((1000000000 : Int) ^ m) ≤ m + 1 := nd_le (by
    have h4 : ((1000000000 : Int) ^ m).natAbs = 1000000000 ^ m := by rw [Int.natAbs_pow]; rfl
    rw [h4]
    exact Nat.pow_lt_pow_right (by omega) (by omega))
  have hlp := rt_loop (Nat.le_trans hx (by omega)) hs hsp _ _ (Nat.le_refl _) hlt (by omega)
  have hss : sgn false ((1000000000 : Int) ^ m) = (1000000000 : Int) ^ m := rfl
  rw [hss] at o1
  generalize (1000000000 : Int) ^ m = R at *
  have ns : nd s ≤ 10000000000 := by
    refine Nat.le_trans (nd_le_of (by omega) hlt) (by omega)
  have g1 := Mul_spec (x := s) (y := s) (by omega) (by omega)
  have n2 := nd_mul (x := s) (y := s)
  have g2 := Compare_spec (x := s * s) (y := x) (by omega) (by omega)
  have c := sgn_eq (a := s * s - x)
  have c2 : decide (s * s - x = 0) = decide (s * s = x) := decide_eq_decide.2 (by omega)
  rw [c2] at c
  generalize s * s = ss at *
  generalize Int.sign (ss - x) = sg at *
  simp only [iv, bv, rowI, List.length_append, List.length_replicate, List.length_cons, List.length_nil, List.map_append, List.map_cons, List.map_nil, Nat.zero_add] at o1 g2
  simp only [rt_st, bI, go_sem] at hlp
  have f1 := rep_I m
  have f2 := allD_I (List.replicate m 0)
  have f3 : (cellsI (List.replicate m 0)).length = m := by rw [cellsI_length, List.length_replicate]
  have f4 : (m + 1) * 8 ≤ bound := by simp only [bound]; omega
  have f5 : List.all [D.v (.int .i64 1)] D.one = true := rfl
  simp -implicitDefEqProofs (maxSteps := 10000000) only [integer_Root, bI, hl, ll, s1, e1, e2, e3, e4, two_ne, f1, f2, f3, f4, f5, o1, g1, g2, hlp, c, src_row, toDs, go_sem, reduceCtorEq, ↓reduceIte, Nat.reduceEqDiff, iv, bv]
end Go.AM

/- ref04.Root. -/
namespace Go.AM
open Go Go.RowKit
theorem nd_1 : nd 1 ≤ 3 := nd_i64 ⟨by omega, by omega⟩
theorem nd_2 : nd 2 ≤ 3 := nd_i64 ⟨by omega, by omega⟩
variable [Its]
def rr_st (x lo hi : Int) : St := mkS [(1, .ptr [1] 0), (2, .ptr [2] 0), (4, .ptr [4] 0), (5, .ptr [5] 0), (6, .ptr [6] 0), (7, .ptr [7] 0)] [([1], bI x), ([2], box0), ([4], bI lo), ([5], bI hi), ([6], bI 1), ([7], bI 2)]
def rr_en (x lo : Int) : St := mkS [(1, .ptr [1] 0), (2, .ptr [2] 0), (4, .ptr [4] 0)] [([1], bI x), ([2], box0), ([4], bI lo)]
theorem rr_stop {x lo hi : Int} (h : ¬ lo + 1 < hi) (hk : nd lo ≤ 100000000000) (hk2 : nd hi ≤ 100000000000) : X G gantryref04_Root_l0 (rr_st x lo hi) = some (.x 0, rr_en x lo) := by
  have g1 := rAdd_spec (x := lo) (y := 1) (by omega) (Nat.le_trans nd_1 (by omega))
  have n1 := nd_add (x := lo) (y := 1) (k := 100000000000) hk (Nat.le_trans nd_1 (by omega))
  have g2 := rCompare_spec (x := lo + 1) (y := hi) (by omega) (by omega)
  have c := sgn_lt (a := lo + 1 - hi)
  rw [show decide (lo + 1 - hi < 0) = false from decide_eq_false (by omega)] at c
  generalize Int.sign (lo + 1 - hi) = s at *
  generalize lo + 1 = t at *
  simp only [iv] at g2
  simp -implicitDefEqProofs (maxSteps := 10000000) only [gantryref04_Root_l0, rr_st, rr_en, box0, bI, g1, g2, c, extA, go_sem, reduceCtorEq, ↓reduceIte, Nat.reduceEqDiff, iv]
theorem rr_go {x lo hi : Int} (h : lo + 1 < hi) (h0 : 0 ≤ lo) (hx : nd x ≤ 100000000000) (hk : nd lo ≤ 100000000000) (hk2 : nd hi ≤ 100000000000) :
    X G gantryref04_Root_l0 (rr_st x lo hi) = some (.n, if (lo + hi) / 2 * ((lo + hi) / 2) ≤ x then rr_st x ((lo + hi) / 2) hi else rr_st x lo ((lo + hi) / 2)) := by
  have g1 := rAdd_spec (x := lo) (y := 1) (by omega) (Nat.le_trans nd_1 (by omega))
  have n1 := nd_add (x := lo) (y := 1) (k := 100000000000) hk (Nat.le_trans nd_1 (by omega))
  have g2 := rCompare_spec (x := lo + 1) (y := hi) (by omega) (by omega)
  have c := sgn_lt (a := lo + 1 - hi)
  rw [show decide (lo + 1 - hi < 0) = true from decide_eq_true (by omega)] at c
  have g3 := rAdd_spec (x := lo) (y := hi) (by omega) (by omega)
  have n2 := nd_add (x := lo) (y := hi) (k := 100000000000) hk hk2
  have g4 := rDiv_spec (x := lo + hi) (y := 2) (by omega) (by omega) (Nat.le_trans nd_2 (by omega))
  have n3 := nd_ediv2 (x := lo + hi) (r := 2)
  generalize (lo + hi) % 2 = m2 at *
  obtain ⟨mid, hmid⟩ : ∃ mid, (lo + hi) / 2 = mid := ⟨_, rfl⟩
  rw [hmid] at g4 n3 ⊢
  have g5 := rMul_spec (x := mid) (y := mid) (by omega) (by omega)
  have n4 := nd_mul (x := mid) (y := mid)
  have g6 := rCompare_spec (x := mid * mid) (y := x) (by omega) (by omega)
  have d := sgn_le (a := mid * mid - x)
  simp only [iv] at g2 g6
  clear n1 n2 n3 n4 hmid
  generalize Int.sign (lo + 1 - hi) = s at *
  generalize Int.sign (mid * mid - x) = s2 at *
  generalize lo + 1 = t at *
  generalize lo + hi = u at *
  generalize mid * mid = mm at *
  by_cases hc : mm ≤ x
  · rw [show decide (mm - x ≤ 0) = true from decide_eq_true (by omega)] at d
    rw [if_pos hc]
    simp -implicitDefEqProofs (maxSteps := 10000000) only [gantryref04_Root_l0, rr_st, rr_en, box0, bI, g1, g2, g3, g4, g5, g6, c, d, extA, go_sem, reduceCtorEq, ↓reduceIte, Nat.reduceEqDiff, iv]
  · rw [show decide (mm - x ≤ 0) = false from decide_eq_false (by omega)] at d
    rw [if_neg hc]
    simp -implicitDefEqProofs (maxSteps := 10000000) only [gantryref04_Root_l0, rr_st, rr_en, box0, bI, g1, g2, g3, g4, g5, g6, c, d, extA, go_sem, reduceCtorEq, ↓reduceIte, Nat.reduceEqDiff, iv]
theorem rr_loop {x s : Int} (hx : nd x ≤ 100000000000) (hs : IsRt s x) : ∀ (n : Nat) (lo hi : Int), (hi - lo).toNat ≤ n → 0 ≤ lo → lo < hi → lo * lo ≤ x → x < hi * hi → nd hi ≤ 100000000000 → X G (.loop gantryref04_Root_l0) (rr_st x lo hi) = some (.x 0, rr_en x s)
  | n, lo, hi, hn, h0, h1, h2, h3, hk => by
    rw [X_loop]
    have hl : nd lo ≤ 100000000000 := Nat.le_trans (nd_le_of h0 (by omega)) hk
    by_cases h : lo + 1 < hi
    · obtain ⟨a, b⟩ := half_lt h
      rw [rr_go h h0 hx hl hk, Option.bind_some, if_pos rfl]
      generalize (lo + hi) / 2 = mid at *
      cases n with
      | zero => omega
      | succ n =>
        by_cases hc : mid * mid ≤ x
        · rw [if_pos hc]
          exact rr_loop hx hs n mid hi (by omega) (by omega) b hc h3 hk
        · rw [if_neg hc]
          exact rr_loop hx hs n lo mid (by omega) h0 a h2 (by omega) (Nat.le_trans (nd_le_of (by omega) (by omega)) hk)
    · have e : s = lo := rt_uniq hs ⟨h0, h2, by
        have : hi = lo + 1 := by omega
        rw [← this]; exact h3⟩
      subst e
      rw [rr_stop h hl hk]
      rfl
theorem rRoot_spec {x s : Int} (hx : nd x ≤ 10000000000) (h0 : 0 ≤ x) (hs : IsRt s x) : callX G n_gantryref04_Root [encI x] = some (.d (.tup [encI s, bv (decide (s * s = x))])) := by
  rw [callX_eq (cf := gantryref04_Root) rfl]
  obtain ⟨l, hl⟩ : ∃ l, digs x.natAbs = l := ⟨_, rfl⟩
  have ll := lenA_dg l
  have s1 : decide (x < 0) = false := lt_f (by omega)
  have hn : l.length ≤ 10000000000 := by rw [← hl]; exact hx
  obtain ⟨m, hm⟩ : ∃ m, l.length / 2 + 1 = m := ⟨_, rfl⟩
  have e2 : w64 ((l.length : Int).tdiv 2) = ((l.length / 2 : Nat) : Int) := by
    rw [quo_pos (by omega)]
    exact w64_id (by omega) (by omega)
  have e3 : w64 (((l.length / 2 : Nat) : Int) + 1) = (m : Int) := by
    rw [← hm]
    exact w64_id (by omega) (by omega)
  have e4 := bnd m (by omega)
  have o1 := normal_spec false (Rw.row (List.replicate m 0 ++ [1])) (by simp; omega) (dig_one m)
  rw [val_lead] at o1
  have hdr : (digs x.natAbs).length ≤ m + m := by rw [hl]; omega
  have hlt : x < (1000000000 : Int) ^ m * (1000000000 : Int) ^ m := by
    have h1 := lt_pow_nd x
    have h2 : x.natAbs < 1000000000 ^ (m + m) := Nat.lt_of_lt_of_le h1 (npow_mono hdr)
    rw [← Int.pow_add]
    have h4 : ((1000000000 ^ (m + m) : Nat) : Int) = (1000000000 : Int) ^ (m + m) := by simp
    rw [← h4]; omega
  have hk : nd ((1000000000 : Int) ^ m) ≤ m + 1 := nd_le (by
    have h4 : ((1000000000 : Int) ^ m).natAbs = 1000000000 ^ m := by rw [Int.natAbs_pow]; rfl
    rw [h4]
    exact Nat.pow_lt_pow_right (by omega) (by omega))
  have hlp := rr_loop (Nat.le_trans hx (by omega)) hs _ 0 ((1000000000 : Int) ^ m) (Nat.le_refl _) (by omega) (pow_pos' m) (by simpa using h0) hlt (by omega)
  have hss : sgn false ((1000000000 : Int) ^ m) = (1000000000 : Int) ^ m := rfl
  rw [hss] at o1
  have hsR : s < (1000000000 : Int) ^ m := rt_gt hs (Int.le_of_lt (pow_pos' m)) hlt
  generalize (1000000000 : Int) ^ m = R at *
  have ns : nd s ≤ 10000000000 := Nat.le_trans (nd_le_of hs.1 (Int.le_of_lt hsR)) (by omega)
  have g1 := rMul_spec (x := s) (y := s) (by omega) (by omega)
  have n2 := nd_mul (x := s) (y := s)
  have g2 := rCompare_spec (x := s * s) (y := x) (by omega) (by omega)
  have g3 := rOf_spec (n := 1) ⟨by omega, by omega⟩
  have g4 := rOf_spec (n := 2) ⟨by omega, by omega⟩
  have c := sgn_eq (a := s * s - x)
  have c2 : decide (s * s - x = 0) = decide (s * s = x) := decide_eq_decide.2 (by omega)
  rw [c2] at c
  clear hlt hsR
  generalize s * s = ss at *
  generalize Int.sign (ss - x) = sg at *
  simp only [iv, bv, rowI, List.length_append, List.length_replicate, List.length_cons, List.length_nil, List.map_append, List.map_cons, List.map_nil, Nat.zero_add] at o1 g2 g3 g4
  simp only [rr_st, rr_en, box0, bI, go_sem] at hlp
  have f1 := rep_I m
  have f2 := allD_I (List.replicate m 0)
  have f3 : (cellsI (List.replicate m 0)).length = m := by rw [cellsI_length, List.length_replicate]
  have f4 : (m + 1) * 8 ≤ bound := by simp only [bound]; omega
  have f5 : List.all [D.v (.int .i64 1)] D.one = true := rfl
  have z1 := zero_agg
  simp -implicitDefEqProofs (maxSteps := 10000000) only [gantryref04_Root, bI, hl, ll, s1, e2, e3, e4, two_ne, f1, f2, f3, f4, f5, o1, g1, g2, g3, g4, z1, hlp, c, src_row, toDs, go_sem, reduceCtorEq, ↓reduceIte, Nat.reduceEqDiff, iv, bv]
end Go.AM

namespace Go.AM
open Go Go.RowKit
theorem nd_rt {s x : Int} (h : IsRt s x) : nd s ≤ nd x := by
  refine nd_le_of h.1 ?_
  obtain ⟨h0, h1, _⟩ := h
  rcases Int.lt_or_eq_of_le h0 with h2 | h2
  · have : s * 1 ≤ s * s := Int.mul_le_mul_of_nonneg_left (by omega) h0
    omega
  · subst h2; omega
theorem rep4_2 (a b : D) : rep 4 [a, b] = [a, b, a, b, a, b, a, b] := rfl
variable [Its]
theorem Root_neg {x : Int} (h : x < 0) : callX G n_integer_Root [encI x] = some (.d (.tup [encI 0, bv false])) := by
  rw [callX_eq (cf := integer_Root) rfl]
  have s1 : decide (x < 0) = true := lt_t h
  have st0 : ∀ u v : A, stcells 0 [A.d (.v (.bool false)), A.d (.z true)] [u, v] = some [A.d (.v (.bool false)), A.d (.z true)] := fun _ _ => rfl
  have ld0 : ldcells (some 2) 0 [A.d (.v (.bool false)), A.d (.z true)] = some (.d (encI 0)) := by rw [← zero_agg]; rfl
  simp -implicitDefEqProofs (maxSteps := 10000000) only [integer_Root, bI, s1, st0, ld0, apartS, ne_eq, not_false_eq_true, toDs, go_sem, reduceCtorEq, ↓reduceIte, Nat.reduceEqDiff, iv, bv]
theorem rRoot_neg {x : Int} (h : x < 0) : callX G n_gantryref04_Root [encI x] = some (.d (.tup [encI 0, bv false])) := by
  rw [callX_eq (cf := gantryref04_Root) rfl]
  have s1 : decide (x < 0) = true := lt_t h
  have st0 : ∀ u v : A, stcells 0 [A.d (.v (.bool false)), A.d (.z true)] [u, v] = some [A.d (.v (.bool false)), A.d (.z true)] := fun _ _ => rfl
  have ld0 : ldcells (some 2) 0 [A.d (.v (.bool false)), A.d (.z true)] = some (.d (encI 0)) := by rw [← zero_agg]; rfl
  simp -implicitDefEqProofs (maxSteps := 10000000) only [gantryref04_Root, bI, s1, st0, ld0, apartS, ne_eq, not_false_eq_true, toDs, go_sem, reduceCtorEq, ↓reduceIte, Nat.reduceEqDiff, iv, bv]
theorem both_root {x : Int} (hx : nd x ≤ 1000) : ∃ s b, nd s ≤ 1000 ∧ callX G n_integer_Root [encI x] = some (.d (.tup [encI s, bv b])) ∧ callX G n_gantryref04_Root [encI x] = some (.d (.tup [encI s, bv b])) := by
  by_cases h : x < 0
  · exact ⟨0, false, by rw [nd_zero]; omega, Root_neg h, rRoot_neg h⟩
  · obtain ⟨s, hs⟩ := rt_exI (x := x) (by omega)
    exact ⟨s, _, Nat.le_trans (nd_rt hs) hx, Root_spec (by omega) (by omega) hs, rRoot_spec (by omega) (by omega) hs⟩
def ir_st (L : D) (i : Int) : St := mkS [(7, .d L), (8, ai i)] []
theorem ir_go {L : D} {rest : List D} {i : Nat} {x : Int} (hi : i < 4) (hL : lenA (.d L) = some 4) (hx : ∀ hp, ixaA hp 2 (i : Int) (.d L) = some (.d (.rp rest))) (hy : ∀ hp, loadA hp (some 2) (.d (.rp rest)) = some (.d (encI x))) (nx : nd x ≤ 1000) :
    X G gantrylaw04_IntegerRoots_l0 (ir_st L i) = some (.n, ir_st L ((i + 1 : Nat) : Int)) := by
  obtain ⟨s, b, ns, g1, g2⟩ := both_root nx
  have g3 := sm4 (x := s) rfl (by omega)
  have e0 : ((4 : Nat) : Int) = 4 := rfl
  have e1 : decide ((i : Int) < 4) = true := lt_t (by omega)
  have e2 : w64 ((i : Int) + 1) = ((i + 1 : Nat) : Int) := by rw [w64_id (by omega) (by omega)]; rfl
  have e3 : (!(b == b)) = false := by cases b <;> rfl
  simp only [bv] at g1 g2 g3
  simp -implicitDefEqProofs (maxSteps := 10000000) only [gantrylaw04_IntegerRoots_l0, ir_st, bI, hL, hx, hy, e0, e1, e2, e3, g1, g2, g3, go_sem, reduceCtorEq, ↓reduceIte, Nat.reduceEqDiff, iv, bv]
theorem ir_stop {L : D} (hL : lenA (.d L) = some 4) : X G gantrylaw04_IntegerRoots_l0 (ir_st L 4) = some (.x 0, mkS [] []) := by
  have e0 : ((4 : Nat) : Int) = 4 := rfl
  have e1 : decide ((4 : Int) < 4) = false := rfl
  simp -implicitDefEqProofs (maxSteps := 10000000) only [gantrylaw04_IntegerRoots_l0, ir_st, bI, hL, e0, e1, go_sem, reduceCtorEq, ↓reduceIte, Nat.reduceEqDiff, iv, bv]
def row4 (a b c d : Int) : D := .row 4 [.v (.bool (decide (a < 0))), dg (digs a.natAbs), .v (.bool (decide (b < 0))), dg (digs b.natAbs), .v (.bool (decide (c < 0))), dg (digs c.natAbs), .v (.bool (decide (d < 0))), dg (digs d.natAbs)]
theorem ir_loop {a b c d : Int} (na : nd a ≤ 1000) (nb : nd b ≤ 1000) (nc : nd c ≤ 1000) (nd' : nd d ≤ 1000) : X G (.loop gantrylaw04_IntegerRoots_l0) (ir_st (row4 a b c d) 0) = some (.x 0, mkS [] []) := by
  have h0 := ir_go (L := row4 a b c d) (i := 0) (by omega) rfl (fun _ => rfl) (fun _ => rfl) na
  have h1 := ir_go (L := row4 a b c d) (i := 1) (by omega) rfl (fun _ => rfl) (fun _ => rfl) nb
  have h2 := ir_go (L := row4 a b c d) (i := 2) (by omega) rfl (fun _ => rfl) (fun _ => rfl) nc
  have h3 := ir_go (L := row4 a b c d) (i := 3) (by omega) rfl (fun _ => rfl) (fun _ => rfl) nd'
  have h4 := ir_stop (L := row4 a b c d) rfl
  rw [X_loop, show (0 : Int) = ((0 : Nat) : Int) from rfl, h0, Option.bind_some, if_pos rfl, X_loop, h1, Option.bind_some, if_pos rfl, X_loop, h2, Option.bind_some, if_pos rfl, X_loop, h3, Option.bind_some, if_pos rfl, X_loop, show ((3 + 1 : Nat) : Int) = 4 from rfl, h4]
  rfl
end Go.AM
namespace Go.Proofs.YtecihganhcapoaaGreatDoor.Pure
open Go Go.AM
theorem IntegerRoots (e0 : D) (l0 : List Int) (hd0 : Dg e0 l0) (hwf0 : ∀ n ∈ l0, (Lit.int .i64 n).wf = true) (hlen0 : l0.length * 8 ≤ 140737488351232) (a1 : Int) (w1 : (Lit.int .i64 a1).wf = true) : callX G 3 [e0, iv a1] = some (.d (bv true)) := by
  obtain ⟨x, nx, gx⟩ := Number_spec (at_ := 0) (rw_dg hd0) (fun n hn => i64_wf (hwf0 n hn)) (by omega)
  have m1 := rMul_spec (x := x) (y := x) (by omega) (by omega)
  have nm : nd (x * x) ≤ 16 := Nat.le_trans nd_mul (by omega)
  generalize x * x = y at *
  have r1 := around_spec (m := 5) (i64_wf w1) (by omega)
  have b1 := arnd_b (n := a1) (m := 5) (by omega)
  generalize arnd a1 5 = k at *
  obtain ⟨u, hu⟩ : ∃ u, k - 2 = u := ⟨_, rfl⟩
  have e1 : w64 (k - 2) = u := by rw [w64_id (by omega) (by omega)]; exact hu
  have o1 := rOf_spec (n := u) ⟨by omega, by omega⟩
  have nu : nd u ≤ 16 := Nat.le_trans (nd_i64 ⟨by omega, by omega⟩) (by omega)
  have g1 := rAdd_spec (x := y) (y := u) (by omega) (by omega)
  have n1 := nd_add nm nu
  have o2 := rOf_spec (n := 1) ⟨by omega, by omega⟩
  have g2 := rSub4 (x := y) (y := 1) (by omega) (Nat.le_trans nd_1 (by omega))
  have n2 := nd_add nm (y := -1) (by rw [nd_neg]; exact Nat.le_trans nd_1 (by omega))
  rw [show y + -1 = y - 1 by omega] at n2
  generalize y + u = z at *
  generalize y - 1 = v at *
  have hl := ir_loop (a := x) (b := y) (c := z) (d := v) (by omega) (by omega) (by omega) (by omega)
  have kl := lives4
  simp only [ir_st, row4, go_sem] at hl
  rw [callX_eq (cf := gantrylaw04_IntegerRoots) rfl]
  simp only [iv, bv] at gx r1 o1 o2 kl
  simp -implicitDefEqProofs (maxSteps := 10000000) only [gantrylaw04_IntegerRoots, bI, gx, m1, r1, e1, o1, g1, o2, g2, rep4_2, hl, kl, go_sem, reduceCtorEq, ↓reduceIte, Nat.reduceEqDiff, iv, bv]
end Go.Proofs.YtecihganhcapoaaGreatDoor.Pure

/- The table that the rows list, as the machine asks for it. -/
namespace Go.AM
open Go Go.Proofs Go.RowKit

theorem laidVars_get {P : Program} {w : World} {n : String} {d : DataW Unit} : ∀ {l : List (String × DataW Unit)} {ps : List MemPlace}, DataW.LaidVars P w l ps → (n, d) ∈ l →
    ∃ g t cs fuel p, P.globalNamed n = some g ∧ (P.globals[g]?).map (·.type) = some t ∧ w.var? P n = some cs ∧ DataW.trod (fun _ => ()) P w 0 (fun _ => true) false fuel t cs.toList = some (d, p)
  | [], _, _, h => by cases h
  | (m, e) :: r, ps, hL, h => by
    obtain ⟨g, t, cs, fuel, p, q, h1, h2, h3, h4, h5, _⟩ := hL
    rcases List.mem_cons.1 h with h' | h'
    · cases h'
      exact ⟨g, t, cs, fuel, p, h1, h2, h3, h4⟩
    · exact laidVars_get h5 h'
def chkT (P : Program) (g : Nat) : Bool :=
  match (P.globals[g]?).map (·.type) with
  | some t => (match P.underlying t with
    | some (.array 20 e) => (match P.underlying e with
      | some (.int .u64) => P.cellsOf e == 1 && P.cellsOf t == 20
      | _ => false)
    | _ => false)
  | none => false
theorem chkT_ok {P : Program} {g : Nat} (h : chkT P g = true) : ∃ t', (P.globals[g]?).map (·.type) = some t' ∧ ∃ e, P.underlying t' = some (.array 20 e) ∧ P.underlying e = some (.int .u64) ∧ P.cellsOf e = 1 ∧ P.cellsOf t' = 20 := by
  unfold chkT at h
  split at h
  · rename_i t ht
    split at h
    · rename_i e he
      split at h
      · rename_i hk
        simp only [Bool.and_eq_true, beq_iff_eq] at h
        exact ⟨t, ht, e, he, hk, h.1, h.2⟩
      · cases h
    · cases h
  · cases h
def tabDat : DataW Unit := Lib.tabData .u64 Lib.pow10Tab
theorem tabOk_laid {l : List (String × DataW Unit)} {w : World} (hL : laidMet Tryz.prog l w) (hm : ("internal/strconv.uint64pow10", tabDat) ∈ l) : TabOk w := by
  obtain ⟨ps, h, _⟩ := hL
  obtain ⟨g, t, cs, fuel, p, h1, h2, h3, h4⟩ := laidVars_get h hm
  have hg : Tryz.prog.globalNamed "internal/strconv.uint64pow10" = some 2 := by kernel_rfl
  obtain rfl : g = 2 := Option.some.inj (h1.symm.trans hg)
  have ht := chkT_ok (P := Tryz.prog) (g := 2) (by kernel_rfl)
  obtain ⟨t', ht, e, k1, k2, k3, k4⟩ := ht
  obtain rfl := Option.some.inj (ht.symm.trans h2)
  have hc := Lib.cells_of_tab k1 k2 k3 k4 h4
  unfold World.var? at h3
  rw [h1, Option.bind_some] at h3
  intro x hx
  have hx' : x = (2, (Lib.pow10Tab.map fun z => Value.int .u64 z).toArray) := by
    have : tabs = [(2, (Lib.pow10Tab.map fun z => Value.int .u64 z).toArray)] := by kernel_rfl
    rw [this] at hx
    exact List.mem_singleton.1 hx
  subst hx'
  cases ho : w.heap[2]? with
  | none => rw [ho] at h3; cases h3
  | some o =>
    rw [ho] at h3
    cases o with
    | cells cs' T fz =>
      simp only [Option.some.injEq] at h3
      subst h3
      refine ⟨(Array.getElem?_eq_some_iff.1 ho).1, T, fz, ?_⟩
      show some (Go.Obj.cells cs' T fz) = some (Go.Obj.cells (Lib.pow10Tab.map fun z => Value.int .u64 z).toArray T fz)
      rw [← hc]
    | _ => cases h3
end Go.AM

/- The row of IntegerRoots, out of its Pure. Printed by row.py. -/
namespace Go.Proofs.YtecihganhcapoaaGreatDoor.integerRoots
open Go.ChangeShapes Go.WideShapes Go.ChangeAt Go.RowKit Go.AM
theorem own : ownKnob Tryz.prog.godebug = none := by kernel_rfl
theorem laidOut : laidOutB Tryz.prog = true := by kernel_rfl
set_option maxRecDepth 100000 in
theorem lifted (os : Os) (started : os.Started) (H : Type) (enc : TypeId × Value → H) :
    ReturnsInHanded {} Tryz.checked os 3 .any (fun w args => (Rows.integerRootsSpec.pre enc Tryz.prog Tryz.f3 Rows.integerRootsRow.domain false w args ∧ laidMetH Tryz.prog Rows.integerRootsRow.laid w) ∧ sizedMet enc Tryz.prog Tryz.f3 (OpenSpec.ofChange Rows.integerRootsSpec) false w args)
      (Rows.integerRootsSpec.post enc Tryz.prog Tryz.f3 false true false false) := by
  refine returnsInHanded_of_change_and (C := Tryz.checked) (X := fun w _ => laidMetH Tryz.prog Rows.integerRootsRow.laid w) (fun _ _ _ hh h => h.of_heap hh) own started (by kernel_rfl) Tryz.func3
    (ChangeSpec.witness_shaped (enc := enc) (C := Tryz.checked) (os := os) (X := fun w _ => laidMetH Tryz.prog Rows.integerRootsRow.laid w) false (World.laidAll Tryz.prog os Rows.integerRootsRow.laid) #[.slice none 0 0, .int .i64 0] 8 (World.laidAll_os _ _ _)
      (World.shaped_of_ZipB (by kernel_rfl) (by kernel_rfl)) (by kernel_rfl) (by kernel_rfl) (by kernel_rfl)
      (by rw [MakeChecks.laidMetH_plain _ _ _ (by kernel_rfl)]; exact laidMet_laidAll _ (by kernel_rfl) (by kernel_rfl))) ?_
  intro W base args ds gs before hval0 hW hcnd hsz0 hL _
  have hsz : (DataW.weightsEach Tryz.prog (Tryz.f3.params.toList ++ Rows.integerRootsSpec.plain.varTypes Tryz.prog) (ds ++ gs)).all (· ≤ reachBytes) = true := hsz0
  have hval : ∀ (j : Nat) t v, Tryz.f3.params[j]? = some t → args[j]? = some v → Value.okWide Tryz.prog W .any base t v := hval0
  have hW' := hW
  obtain ⟨p, q, hA0, hV, rfl, hfz, hnd⟩ := hW
  have hA : DataW.TrodAll enc Tryz.prog W 0 (fun _ => true) true Tryz.f3.params.toList args.toList ds p := hA0
  rw [Tryz.params3] at hA hval hsz
  obtain ⟨v0, vs0, d0, ds0, p0, q0, hargs, rfl, rfl, h0, r0⟩ := trodAll_cons hA
  obtain ⟨v1, vs1, d1, ds1, p1, q1, rfl, rfl, rfl, h1, r1⟩ := trodAll_cons r0
  obtain ⟨rfl, rfl, rfl⟩ := trodAll_nil r1
  obtain rfl : args = #[v0, v1] := by cases args; simp_all
  obtain ⟨rfl, rfl⟩ := trodVars_none hV
  obtain ⟨a0, len0, cap0, rfl⟩ := okWide_slice Tryz.underlying22 (hval 0 22 v0 rfl rfl)
  have k0 := h0
  have lt0 : ∀ x ∈ p0, x.block < W.heap.size := by obtain ⟨m, hm⟩ := k0; exact DataW.trod_lt m _ _ _ hm
  obtain ⟨z0, w0, y0⟩ : ∃ zs, ((a0 = none ∧ len0 = 0 ∧ cap0 = 0 ∧ zs = []) ∨ ∃ x, a0 = some x ∧ len0 ≤ cap0 ∧ cap0 ≤ maxLen ∧ zs.length = cap0 ∧ (∀ i, i < zs.length → W.cell? (x.add i) = some (.int .i64 (zs.getD i 0))) ∧ ∀ n ∈ zs, (Lit.int .i64 n).wf = true) ∧ len0 * 8 ≤ 140737488351232 := by
    obtain ⟨fuel, hf⟩ := h0
    rcases open_ints Tryz.underlying22 Tryz.underlying3 (by kernel_rfl) hf with ⟨hcs, _⟩ | ⟨x, l, c, zs, hcs, _, hl, hm, hz, hx, hcell, hwz⟩
    · simp [Value.cells] at hcs
      obtain ⟨rfl, rfl, rfl⟩ := hcs
      exact ⟨[], .inl ⟨rfl, rfl, rfl, rfl⟩, by simp⟩
    · simp [Value.cells] at hcs
      obtain ⟨rfl, rfl, rfl⟩ := hcs
      refine ⟨zs, .inr ⟨_, rfl, hl, hm, by simpa using hz, hcell, hwz⟩, ?_⟩
      simp only [Prod.mk.injEq] at hx
      have hd := hx.1
      have z := sized_slice hsz (j := 0) (t := 22) rfl (by rw [hd]; rfl) Tryz.underlying22
      have hb : Tryz.prog.bytesOf 3 = 8 := by kernel_rfl
      rw [hb] at z
      have hr : reachBytes ≤ 140737488351232 := by decide
      have hz' : zs.length = cap0 := by simpa using hz
      simp only [lits, List.length_map, List.length_take, List.length_drop] at z
      omega
  obtain ⟨e0, l0, hd0, hrep0, hlen0, hwf0⟩ := arg_row w0
  obtain ⟨a1, rfl, rfl, rfl, w1⟩ := open_int Tryz.underlying3 (hval 1 3 v1 rfl rfl) h1
  clear hA0 hval0 hsz0 hsz
  refine (law_walk env4 (f := 3) (ds := [e0, (iv a1)]) (vs := [.slice a0 len0 cap0, .int .i64 a1]) (w := W) (tabOk_laid (by rw [← MakeChecks.laidMetH_plain _ _ _ (by kernel_rfl)]; exact hL) (List.mem_of_getElem? (i := 2) (by kernel_rfl))) (RepL.cons _ _ _ _ hrep0 (RepL.cons _ _ _ _ (RepD.v _) RepL.nil)) (Pure.IntegerRoots e0 l0 hd0 hwf0 (by rw [hlen0]; exact y0) a1 w1)).mono fun e W' ⟨he, bel⟩ => ?_
  subst he
  exact ⟨_, rfl, _, _, _, [], _, [], hW', trodAll_mk1 (shut_bool Tryz.underlying4 _), (trodAll_cons_mk (Below.trod laidOut (by kernel_rfl) (of_decide_eq_true (by kernel_rfl)) k0 bel lt0) (trodAll_cons_mk (shut_int Tryz.underlying3 w1) trodAll_mk0)), rfl, bel.frame _, fun h => by cases h⟩
theorem over : Rows.integerRootsRow.holds Tryz.pinned (OpenSpec.ofChange Rows.integerRootsSpec) :=
  OpenClaim.holds_of_wide 3 Tryz.f3 rfl rfl rfl rfl rfl rfl rfl ⟨rfl, rfl, rfl, rfl, rfl⟩ rfl rfl rfl rfl rfl (by kernel_rfl) Tryz.func3 (by kernel_rfl)
    (of_decide_eq_true (by kernel_rfl)) (by unfold Func.isWrapper; first | (rw [if_pos (by decide +kernel)]; kernel_rfl) | (rw [if_neg (by decide +kernel)]; exact ⟨rfl, rfl⟩))
    (fun os started H enc _ => lifted os started H enc)
theorem card : Rows.IntegerRootsCardSaid :=
  Claim7.holds_tied_plain_at .later [] [.data, .data, .data, .data, .sentinel, .sentinel, .pinned] true (true, "8f30b765037cb7f36d521e85c7b3d15f44d2f8c8747fa73e3d59755b044424b0") true over (fun _ h => by cases h) (by kernel_rfl) (fun _ h => by cases h) integerRoots_row_tie rfl ⟨rfl, rfl⟩ (by kernel_rfl) rfl
    (fun f fn hf hfn => by
      obtain rfl : f = 3 := Option.some.inj ((show Tryz.prog.funcNamed "gantry/gantrylaw04.IntegerRoots" = some 3 by kernel_rfl).symm.trans hf) |>.symm
      obtain rfl : fn = Tryz.f3 := (Option.some.inj (Tryz.func3.symm.trans hfn)).symm
      exact ⟨by kernel_rfl, fun j t ht => by
        rw [Tryz.params3] at ht
        have hm : t ∈ [22, 3] := by simpa using Array.mem_of_getElem? ht
        have hall : ([22, 3].all fun u => !Tryz.prog.wantsStandIn u) = true := by kernel_rfl
        exact (show Tryz.prog.wantsStandIn t = false by simpa using List.all_eq_true.1 hall t hm)⟩)
    (by kernel_rfl)
end Go.Proofs.YtecihganhcapoaaGreatDoor.integerRoots
namespace Go.Proofs.YtecihganhcapoaaGreatDoor
theorem integerRoots_holds : Rows.IntegerRootsCardSaid := integerRoots.card
end Go.Proofs.YtecihganhcapoaaGreatDoor


