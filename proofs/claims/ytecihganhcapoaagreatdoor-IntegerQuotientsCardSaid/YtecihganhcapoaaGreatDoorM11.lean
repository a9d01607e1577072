/- Part 11 of the proof: a small machine, its soundness against the model, and what the program's functions compute on it. -/
import Derived.Test.YtecihganhcapoaaGreatDoorM10
import Derived.Test.YtecihganhcapoaaGreatDoorM6
import GoSem.Claims
import Derived.KernelRfl
import Derived.Test.YtecihganhcapoaaGreatDoorM8
import Derived.Test.YtecihganhcapoaaGreatDoorM9
import Derived.Lib.LaidTab
import Derived.LaidMore
import Derived.MakeChecks
import Derived.Test.YtecihganhcapoaaGreatDoorCards
import Derived.Test.YtecihganhcapoaaGreatDoorTie
import Derived.WalkKit
import Derived.ProofKit
import Derived.OpenShut
import Derived.ShutString
import Derived.ChangeOld
import Derived.Below
import Derived.SizedLaws
import Derived.Lay
import Derived.SevenTiedAt
import Derived.Stop.Joined
set_option linter.unusedVariables false
set_option linter.unusedSimpArgs false
/- The library's part of the texts: strings.Trim at digits, integer.Text of numbers that are not negative. -/
namespace Go.AM
open Go Go.Proofs Go.RowKit

def tenD : List UInt8 := [48, 49, 50, 51, 52, 53, 54, 55, 56, 57]
def decF : Nat → Nat → List UInt8
  | 0, _ => []
  | k + 1, u => if u < 10 then [UInt8.ofNat (48 + u)] else decF k (u / 10) ++ [UInt8.ofNat (48 + u % 10)]
theorem decF_eq : ∀ (k u : Nat), u < 10 ^ (k + 1) → Lib.decDigits u = decF (k + 1) u
  | 0, u, h => by
    have h1 : u < 10 := by simpa using h
    rw [Lib.decDigits, decF, dif_pos h1, if_pos h1]
  | k + 1, u, h => by
    rw [Lib.decDigits, decF]
    by_cases h1 : u < 10
    · rw [dif_pos h1, if_pos h1]
    · rw [dif_neg h1, if_neg h1, decF_eq k (u / 10) (by rw [Nat.pow_succ] at h; omega)]
def itoaF (d : Int) : List UInt8 := decF 9 d.toNat
def rep48 : Nat → List UInt8
  | 0 => []
  | n + 1 => 48 :: rep48 n
def restF (l : List Int) : Nat → List UInt8
  | 0 => []
  | j + 1 => rep48 (9 - (itoaF (l.getD j 0)).length) ++ itoaF (l.getD j 0) ++ restF l j
def intsD : List D → Option (List Int)
  | [] => some []
  | .v (.int .i64 d) :: r => (intsD r).map (d :: ·)
  | _ => none
def dig9 (l : List Int) : Bool := l.all fun d => decide (0 ≤ d) && decide (d < 1000000000)
def orc4 (f : Nat) (ds : List D) : Option R :=
  if f = 76 then match ds with
    | [.v (.string s), .v (.string c)] => if c.data.toList = tenD ∧ s.size ≤ 1000000 ∧ s.data.toList.all (tenD.contains ·) = true then some (.d (.v (.string ⟨#[]⟩))) else none
    | _ => none
  else if f = 42 then match ds with
    | [.agg [.v (.bool false), .row (n + 1) cs]] => (intsD cs).bind fun l => if l.length = n + 1 ∧ n ≤ 1000000 ∧ dig9 l = true then some (.d (.v (.string ⟨(itoaF (l.getD n 0) ++ restF l n).toArray⟩))) else none
    | _ => none
  else none

theorem rep48_eq : ∀ n, rep48 n = Lib.repeatL [48] n
  | 0 => rfl
  | n + 1 => by rw [rep48, Lib.repeatL, rep48_eq n]; rfl
theorem itoaF_eq {d : Int} (h : 0 ≤ d ∧ d < 1000000000) : Lib.itoa d = itoaF d := by
  unfold Lib.itoa itoaF
  rw [if_neg (by omega)]
  exact decF_eq 8 _ (by have : (10 : Nat) ^ (8 + 1) = 1000000000 := by decide
                        omega)
theorem dig9_at {l : List Int} (h : dig9 l = true) (i : Nat) : 0 ≤ l.getD i 0 ∧ l.getD i 0 < 1000000000 := by
  by_cases hi : i < l.length
  · have e : l.getD i 0 = l[i] := by rw [List.getD_eq_getElem?_getD, List.getElem?_eq_getElem hi]; rfl
    rw [e]
    have := List.all_eq_true.1 h _ (List.getElem_mem hi)
    simpa using this
  · have e : l.getD i 0 = 0 := by rw [List.getD_eq_getElem?_getD, List.getElem?_eq_none (by omega)]; rfl
    rw [e]; omega
theorem restF_eq {l : List Int} (h : dig9 l = true) : ∀ j, restL (fun i => l.getD i 0) j = restF l j
  | 0 => rfl
  | j + 1 => by
    rw [restL, restF, pad9, restF_eq h j, itoaF_eq (dig9_at h j), rep48_eq]
theorem intsD_rep {S : Nat → Prop} {w : World} : ∀ {cs : List D} {l : List Int} {vs : List Value}, intsD cs = some l → RepL S w cs vs → vs = l.map fun d => Value.int .i64 d
  | [], l, vs, h, hr => by
    cases hr
    simp only [intsD, Option.some.injEq] at h
    subst h; rfl
  | c :: cs, l, vs, h, hr => by
    cases hr with
    | cons _ _ v vs hv ht =>
      unfold intsD at h
      split at h
      · rename_i heq; cases heq
      · rename_i d r heq
        cases heq
        simp only [Option.map_eq_some_iff] at h
        obtain ⟨l', h1, rfl⟩ := h
        rw [intsD_rep h1 ht]
        cases hv; rfl
      · cases h
theorem trim_all {l cs : List UInt8} (h : l.all (cs.contains ·) = true) : Lib.trimS l cs = [] := by
  have h1 : ∀ m : List UInt8, m.all (cs.contains ·) = true → m.dropWhile (cs.contains ·) = [] := by
    intro m
    induction m with
    | nil => intro _; rfl
    | cons a m ih =>
      intro hm
      simp only [List.all_cons, Bool.and_eq_true] at hm
      rw [List.dropWhile_cons, if_pos hm.1, ih hm.2]
  unfold Lib.trimS Lib.trimLeftS Lib.trimRightS
  rw [h1 l.reverse (by rw [List.all_reverse]; exact h)]
  rfl
theorem tab_is {w : World} (h : TabOk w) : Lib.TabIs Tryz.prog w "internal/strconv.uint64pow10" .u64 Lib.pow10Tab := by
  obtain ⟨_, T, fz, hb⟩ := h _ (List.mem_cons_self ..)
  have hg : Tryz.prog.globalNamed "internal/strconv.uint64pow10" = some 2 := by kernel_rfl
  unfold Lib.TabIs World.var?
  rw [hg, Option.bind_some]
  simp only at hb
  rw [hb]
  rfl
theorem orc4_ok : ∀ f ds r, ft f = none → orc4 f ds = some r → CallOk Tryz.prog f ds r := by
  intro f ds r _ h
  unfold orc4 at h
  split at h
  · rename_i hf
    subst hf
    split at h
    · rename_i s c
      split at h
      · rename_i hc
        obtain ⟨h1, h2, h3⟩ := hc
        cases h
        refine ⟨⟨Tryz.f76, Tryz.func76, by kernel_rfl, by decide⟩, fun S w vs hT hrep hlt => ?_⟩
        cases hrep with
        | cons _ _ v1 vs1 r1 t1 =>
        cases t1 with
        | cons _ _ v2 vs2 r2 t2 =>
        cases t2; cases r1; cases r2
        have hcon := Any.strings_Trim_laid Tryz.lays160 (by kernel_rfl) s c w (by omega) (by
          have : c.size = c.data.toList.length := by show c.data.size = _; simp
          rw [this, h1]; decide) (by rw [h1]; exact ascii_of_all (by decide))
        rw [h1, trim_all h3] at hcon
        refine Calls.mono hcon ?_
        rintro e w' ⟨rfl, hb⟩
        exact ⟨_, rfl, hb, RepD.v _⟩
      · cases h
    · cases h
  · split at h
    · rename_i hf
      subst hf
      split at h
      · rename_i n cs
        simp only [Option.bind_eq_some_iff] at h
        obtain ⟨l, hl, h⟩ := h
        split at h
        · rename_i hc
          obtain ⟨h1, h2, h3⟩ := hc
          cases h
          refine ⟨⟨Tryz.f42, Tryz.func42, by kernel_rfl, by decide⟩, fun S w vs hT hrep hlt => ?_⟩
          cases hrep with
          | cons _ _ v1 vs1 r1 t1 =>
          cases t1
          cases r1 with
          | agg _ vs2 h4 =>
          cases h4 with
          | cons _ _ v3 vs3 r3 t3 =>
          cases t3 with
          | cons _ _ v4 vs4 r4 t4 =>
          cases t4; cases r3
          cases r4 with
          | row _ _ ad cap vs5 g1 g2 g3 g4 =>
            have hv := intsD_rep hl g3
            subst hv
            have hw := text_walk (fun i => l.getD i 0) n (itoaF (l.getD n 0) ++ restF l n) (by rw [itoaF_eq (dig9_at h3 n), restF_eq h3]) (by omega) (dig9_at h3) ad cap w (fun i hi => by
              refine g4 i _ ?_
              rw [List.getElem?_map, List.getD_eq_getElem?_getD, List.getElem?_eq_getElem (by omega)]; rfl) (hlt _ g2) (Lib.tabBelow_of_tabIs (tab_is hT))
            refine Calls.mono hw ?_
            rintro e w' ⟨rfl, hb⟩
            exact ⟨_, rfl, hb, RepD.v _⟩
        · cases h
      · cases h
    · cases h
instance its4 : Its := { it := fun _ _ => none, orc := orc4 }
theorem env4 : EnvOk Tryz.prog (@G its4) := @env_okO its4 (fun _ _ _ h => by cases h) orc4_ok
end Go.AM

/- law04.lives, by the kernel. -/
namespace Go.AM
open Go Go.RowKit Go.Proofs
theorem lives4 : callX (@G its4) n_gantrylaw04_lives [] = some (.d (bv true)) := callX_some.2 ⟨60, by kernel_rfl⟩
end Go.AM

/- gantryref04: times, divided -/
namespace Go.AM
open Go Go.RowKit

theorem row_cons (v : Int) (l : List Int) : D.row (1 + l.length) (D.v (.int .i64 v) :: l.map iv) = rowI (v :: l) := by rw [rowI, List.length_cons, Nat.add_comm]; rfl
theorem all_ints (l : List Int) : List.all (l.map iv) D.one = true := by simp [iv, D.one, A.one]
theorem nd_nat (x : Nat) : nd (x : Int) = (digs x).length := rfl
theorem bs_mid {lo hi q R y : Nat} (h1 : lo ≤ q) (h2 : q ≤ hi) (h3 : lo < hi) (hq : q = R / y) (hy : 0 < y) : (y * ((lo + hi + 1) / 2) ≤ R → (lo + hi + 1) / 2 ≤ q) ∧ (¬ y * ((lo + hi + 1) / 2) ≤ R → q ≤ (lo + hi + 1) / 2 - 1) := by
  subst hq
  constructor
  · intro h
    rw [Nat.le_div_iff_mul_le hy, Nat.mul_comm]; exact h
  · intro h
    have : R / y < (lo + hi + 1) / 2 := by
      rw [Nat.div_lt_iff_lt_mul hy, Nat.mul_comm]
      exact Nat.not_le.1 h
    omega
variable [Its]

theorem times_spec {y k : Nat} (hy : (digs y).length ≤ 999999999999) (hk : k < 1000000000) : callX G n_gantryref04_times [dg (digs y), iv (k : Int)] = some (.d (dg (digs (y * k)))) := by
  rw [callX_eq (cf := gantryref04_times) rfl]
  have g1 := normal_spec false (Rw.dg (digs y)) (by omega) (digs_dig y)
  rw [encI_sgn_false, val_digs] at g1
  have g2 := rOf_spec (n := (k : Int)) ⟨by omega, by omega⟩
  have g3 := rMul_spec (x := (y : Int)) (y := (k : Int)) (by rw [nd_nat]; omega) (by rw [nd_nat]; have := nd_i64 (x := (k : Int)) ⟨by omega, by omega⟩; rw [nd_nat] at this; omega)
  have e : (y : Int) * (k : Int) = ((y * k : Nat) : Int) := rfl
  rw [e, encI_nat] at g3
  rw [encI_nat] at g1 g2 g3
  rw [encI_nat] at g3
  simp only [bv, iv] at g1 g2 g3
  simp -implicitDefEqProofs (maxSteps := 10000000) only [gantryref04_times, go_sem, stcells, ldcells, iv, bv, g1, g2, g3, reduceCtorEq, ↓reduceIte, Nat.reduceEqDiff]

section
variable (da : D) (y n : Nat) (o : List Int) (i R : Nat)
def rb_st (lo hi : Nat) : St := mkS [(0, .d da), (1, .d (dg (digs y))), (8, .own [42] n), (9, .d (dg (digs R))), (10, ai (i : Int)), (12, ai (lo : Int)), (13, ai (hi : Int))] [([42], arrI n o)]
def rb_end (lo : Nat) : St := mkS [(0, .d da), (1, .d (dg (digs y))), (8, .own [42] n), (9, .d (dg (digs R))), (10, ai (i : Int)), (12, ai (lo : Int))] [([42], arrI n o)]

theorem rb_go {lo hi : Nat} (hy : (digs y).length ≤ 999999999999) (hR : (digs R).length ≤ 1000000000001) (hlt : lo < hi) (hh : hi < 1000000000) :
    X G gantryref04_divided_l0 (rb_st da y n o i R lo hi) = some (.n, if y * ((lo + hi + 1) / 2) ≤ R then rb_st da y n o i R ((lo + hi + 1) / 2) hi else rb_st da y n o i R lo ((lo + hi + 1) / 2 - 1)) := by
  have e1 : decide ((lo : Int) < (hi : Int)) = true := lt_t (by omega)
  have e2 : w64 ((lo : Int) + (hi : Int)) = (lo : Int) + (hi : Int) := w64_id (by omega) (by omega)
  have e3 : w64 ((lo : Int) + (hi : Int) + 1) = (lo : Int) + (hi : Int) + 1 := w64_id (by omega) (by omega)
  have e4 : ((lo : Int) + (hi : Int) + 1).tdiv 2 = (((lo + hi + 1) / 2 : Nat) : Int) := by rw [Int.tdiv_eq_ediv_of_nonneg (by omega)]; omega
  have e5 : w64 (((lo + hi + 1) / 2 : Nat) : Int) = (((lo + hi + 1) / 2 : Nat) : Int) := w64_id (by omega) (by omega)
  have e9 : ((2 : Int) = 0) = False := by simp
  have hm : (lo + hi + 1) / 2 < 1000000000 := by omega
  have hm1 : 1 ≤ (lo + hi + 1) / 2 := by omega
  have t1 := times_spec (y := y) (k := (lo + hi + 1) / 2) hy hm
  generalize (lo + hi + 1) / 2 = mid at *
  have hly : (digs (y * mid)).length ≤ 1000000000002 := by
    have := nd_mul (x := (y : Int)) (y := (mid : Int))
    have e : (y : Int) * (mid : Int) = ((y * mid : Nat) : Int) := rfl
    rw [e] at this
    rw [nd_nat, nd_nat, nd_nat] at this
    have h3 := nd_i64 (x := (mid : Int)) ⟨by omega, by omega⟩
    rw [nd_nat] at h3
    omega
  have t2 := compared_spec (Rw.dg (digs (y * mid))) (Rw.dg (digs R)) (digs_dig _) (digs_dig _) (digs_top _) (digs_top _) (by omega) (by omega)
  rw [val_digs, val_digs] at t2
  simp only [iv] at t1 t2
  have e6 : w64 ((mid : Int) - 1) = ((mid - 1 : Nat) : Int) := by rw [w64_id (by omega) (by omega)]; omega
  by_cases hle : y * mid ≤ R
  · have e7 : decide (Int.sign (((y * mid : Nat) : Int) - (R : Int)) ≤ 0) = true := by
      apply le_t
      generalize y * mid = z at *
      rcases Int.lt_or_le ((z : Int) - (R : Int)) 0 with h | h
      · rw [Int.sign_eq_neg_one_of_neg h]; omega
      · rw [show (z : Int) - (R : Int) = 0 by omega]; exact Int.le_refl 0
    rw [if_pos hle]
    simp -implicitDefEqProofs (maxSteps := 10000000) only [gantryref04_divided_l0, rb_st, go_sem, iv, bv, e1, e2, e3, e4, e5, e6, e7, e9, t1, t2, refsL_I, reduceCtorEq, ↓reduceIte, Nat.reduceEqDiff]
  · have e7 : decide (Int.sign (((y * mid : Nat) : Int) - (R : Int)) ≤ 0) = false := by
      apply le_f
      generalize y * mid = z at *
      rw [Int.sign_eq_one_of_pos (by omega)]; omega
    rw [if_neg hle]
    simp -implicitDefEqProofs (maxSteps := 10000000) only [gantryref04_divided_l0, rb_st, go_sem, iv, bv, e1, e2, e3, e4, e5, e6, e7, e9, t1, t2, refsL_I, reduceCtorEq, ↓reduceIte, Nat.reduceEqDiff]

theorem rb_loop (hy0 : 0 < y) (hy : (digs y).length ≤ 999999999999) (hR : (digs R).length ≤ 1000000000001) : ∀ (k lo hi : Nat), hi - lo ≤ k → lo ≤ R / y → R / y ≤ hi → hi < 1000000000 → X G (.loop gantryref04_divided_l0) (rb_st da y n o i R lo hi) = some (.x 2, rb_end da y n o i R (R / y))
  | k, lo, hi, hk, h1, h2, hh => by
    rw [X_loop]
    by_cases hlt : lo < hi
    · rw [rb_go da y n o i R hy hR hlt hh, Option.bind_some, if_pos rfl]
      obtain ⟨b1, b2⟩ := bs_mid (R := R) (y := y) h1 h2 hlt rfl hy0
      cases k with
      | zero => omega
      | succ k =>
        by_cases hle : y * ((lo + hi + 1) / 2) ≤ R
        · rw [if_pos hle]
          exact rb_loop hy0 hy hR k _ _ (by omega) (b1 hle) h2 hh
        · rw [if_neg hle]
          exact rb_loop hy0 hy hR k _ _ (by omega) h1 (b2 hle) (by omega)
    · have he : lo = R / y := by omega
      have e1 : decide ((lo : Int) < (hi : Int)) = false := lt_f (by omega)
      rw [← he]
      simp -implicitDefEqProofs (maxSteps := 10000000) only [gantryref04_divided_l0, rb_st, rb_end, go_sem, iv, bv, e1, refsL_I, reduceCtorEq, ↓reduceIte, Nat.reduceEqDiff]
  termination_by k => k
end
end Go.AM

/- gantryref04: divided -/
namespace Go.AM
open Go Go.RowKit

theorem app1_fact {l : List Int} (h : l.length ≤ 1000000000000) : ((1 + l.length) * 8 ≤ bound) = True := eq_true (by simp only [bound]; omega)
theorem nat_digit {v : Int} (h : 0 ≤ v) : ∃ n : Nat, v = (n : Int) := ⟨v.toNat, by omega⟩
theorem step_lt {v r y : Nat} (hv : v < 1000000000) (hr : r < y) : v + 1000000000 * r < 1000000000 * y := by omega
theorem digs_step {v r y : Nat} (hv : v < 1000000000) (hr : r < y) : (digs (v + 1000000000 * r)).length ≤ (digs y).length + 1 := by
  apply digs_length_le
  have h1 : y < 1000000000 ^ (digs y).length := by
    have := lt_pow_nd (y : Int)
    rw [nd_nat] at this
    simpa using this
  rw [Nat.pow_succ]
  generalize 1000000000 ^ (digs y).length = z at *
  omega
theorem quo_step {v r y : Nat} (hv : v < 1000000000) (hr : r < y) : (v + 1000000000 * r) / y < 1000000000 := by
  rw [Nat.div_lt_iff_lt_mul (by omega)]
  omega
theorem rem_step (R y : Nat) : (R : Int) - ((y * (R / y) : Nat) : Int) = ((R % y : Nat) : Int) := by
  have := Nat.div_add_mod R y
  generalize y * (R / y) = z at *
  omega
theorem cast_dm (A y : Nat) : (y : Int) * ((A / y : Nat) : Int) + ((A % y : Nat) : Int) = (A : Int) := by
  have h := Nat.div_add_mod A y
  generalize A / y = q at *
  generalize A % y = m at *
  subst h
  rw [Int.natCast_add, Int.natCast_mul]
theorem dig_nat {n : Nat} (h : n < 1000000000) : 0 ≤ (n : Int) ∧ (n : Int) < 1000000000 := by omega
theorem st2 (x y u v : A) : stcells 0 [x, y] [u, v] = some [x, y] := rfl
theorem ld1 (u v : A) : ldcells none 1 [u, v] = some v := rfl
variable [Its]

section
variable (da : D) (a : List Int) (y : Nat)
def rd_st (o : List Int) (r : Nat) (i : Int) : St := mkS [(0, .d da), (1, .d (dg (digs y))), (8, .own [42] a.length), (9, .d (dg (digs r))), (10, ai i)] [([42], arrI a.length o)]
def rd_end (o : List Int) (r : Nat) : St := mkS [(8, .own [42] a.length), (9, .d (dg (digs r)))] [([42], arrI a.length o)]

theorem rd_stop (o : List Int) (r : Nat) : X G gantryref04_divided_l1 (rd_st da a y o r (-1)) = some (.x 0, rd_end a o r) := by
  have e1 : decide ((-1 : Int) ≥ 0) = false := rfl
  simp -implicitDefEqProofs (maxSteps := 10000000) only [gantryref04_divided_l1, rd_st, rd_end, go_sem, iv, bv, e1, refsL_I, reduceCtorEq, ↓reduceIte, Nat.reduceEqDiff]

theorem rd_go (hra : Rw da a) (ha : Dig a) (hy : (digs y).length ≤ 999999999999) (hl : a.length ≤ 1000000000000) {o : List Int} (ho : o.length = a.length) {r i v : Nat} (hi : i < a.length) (hr : r < y) (hv : a.getD i 0 = (v : Int)) :
    X G gantryref04_divided_l1 (rd_st da a y o r (i : Int)) = some (.n, rd_st da a y (o.set i (((v + 1000000000 * r) / y : Nat) : Int)) ((v + 1000000000 * r) % y) ((i : Int) - 1)) := by
  have hvd := ha.getD i
  rw [hv] at hvd
  have hvn : v < 1000000000 := by omega
  have hRl := digs_step (y := y) hvn hr
  have hq := quo_step (y := y) hvn hr
  have hrl := digs_len_mono (Nat.le_of_lt hr)
  have e1 : decide ((i : Int) ≥ 0) = true := ge_t (by omega)
  have e2 := hra.ixn (j := i) hi
  have e3 := fun hp => ldv hp a (j := i) hi
  rw [hv] at e3
  have e4 : w64 ((i : Int) - 1) = (i : Int) - 1 := w64_id (by omega) (by omega)
  have e5 : (0 : Int) ≤ (i : Int) ∧ (i : Int) < ((a.length : Nat) : Int) := by omega
  have e6 := fun x => stcells_I (l := o) (off := i) (v := x) (by omega)
  have f1 := app1_fact (l := digs r) (by omega)
  have f2 := all_ints (digs r)
  have nr := normal_spec false (Rw.row ((v : Int) :: digs r)) (by simp; omega) (Dig.cons.2 ⟨hvd, digs_dig r⟩)
  rw [encI_sgn_false, val, val_digs, ← row_cons] at nr
  have eR : (v : Int) + 1000000000 * (r : Int) = ((v + 1000000000 * r : Nat) : Int) := by omega
  rw [eR] at nr
  obtain ⟨R, hR⟩ : ∃ R, v + 1000000000 * r = R := ⟨_, rfl⟩
  rw [hR] at nr hRl hq ⊢
  rw [encI_nat] at nr
  have cp := compared_spec (Rw.dg (digs R)) (Rw.dg (digs y)) (digs_dig _) (digs_dig _) (digs_top _) (digs_top _) (by omega) (by omega)
  rw [val_digs, val_digs] at cp
  have tm := times_spec (y := y) (k := R / y) hy hq
  have hle : y * (R / y) ≤ R := Nat.mul_div_le R y
  obtain ⟨out, m1, m2, m3, m4⟩ := rminus_spec (Rw.dg (digs R)) (Rw.dg (digs (y * (R / y)))) (digs_dig _) (digs_dig _) (by omega) (digs_len_mono hle) (by rw [val_digs, val_digs]; exact Int.ofNat_le.2 hle)
  rw [val_digs, val_digs, rem_step] at m4
  have n2 := normal_spec false (Rw.dg out) (by omega) m3
  rw [encI_sgn_false, m4, encI_nat] at n2
  have hyp : 0 < y := by omega
  have c9 : ((999999999 : Nat) : Int) = 999999999 := rfl
  simp only [bv, iv] at nr cp tm n2
  by_cases hlt : R < y
  · have c1 : decide (Int.sign ((R : Int) - (y : Int)) < 0) = true := by rw [Int.sign_eq_neg_one_of_neg (by omega)]; rfl
    have hx := rb_loop da y a.length o i R hyp hy (by omega) 0 0 0 (by omega) (Nat.zero_le _) (by rw [Nat.div_eq_of_lt hlt]; exact Nat.le_refl _) (by omega)
    simp only [rb_st, rb_end, go_sem] at hx
    simp -implicitDefEqProofs (maxSteps := 10000000) only [gantryref04_divided_l1, rd_st, go_sem, st2, ld1, src_dg, src_row, List.length_map, iv, bv, e1, e2, e3, e4, e5, e6, f1, f2, nr, cp, c1, hx, tm, m1, n2, retA_gR, allD_I, refsL_I, cellsI_length, reduceCtorEq, ↓reduceIte, Nat.reduceEqDiff]
  · have c1 : decide (Int.sign ((R : Int) - (y : Int)) < 0) = false := by
      apply lt_f
      rcases Int.lt_or_le 0 ((R : Int) - (y : Int)) with h | h
      · rw [Int.sign_eq_one_of_pos h]; omega
      · rw [show (R : Int) - (y : Int) = 0 by omega]; exact Int.lt_irrefl 0
    have hx := rb_loop da y a.length o i R hyp hy (by omega) 999999999 0 999999999 (by omega) (Nat.zero_le _) (by omega) (by omega)
    simp only [rb_st, rb_end, go_sem, c9] at hx
    simp -implicitDefEqProofs (maxSteps := 10000000) only [gantryref04_divided_l1, rd_st, go_sem, st2, ld1, src_dg, src_row, List.length_map, iv, bv, e1, e2, e3, e4, e5, e6, f1, f2, nr, cp, c1, hx, tm, m1, n2, retA_gR, allD_I, refsL_I, cellsI_length, reduceCtorEq, ↓reduceIte, Nat.reduceEqDiff]

theorem rd_loop (hra : Rw da a) (ha : Dig a) (hy0 : 0 < y) (hy : (digs y).length ≤ 999999999999) (hl : a.length ≤ 1000000000000) : ∀ (k : Nat) (o : List Int) (r : Nat), k ≤ a.length → o.length = a.length → Dig o → r < y → val (a.drop k) = val (o.drop k) * (y : Int) + (r : Int) →
    ∃ o' r', X G (.loop gantryref04_divided_l1) (rd_st da a y o r ((k : Int) - 1)) = some (.x 0, rd_end a o' r') ∧ o'.length = a.length ∧ Dig o' ∧ r' < y ∧ val a = val o' * (y : Int) + (r' : Int)
  | 0, o, r, hk, ho, hd, hr, hv => ⟨o, r, by
      have : ((0 : Nat) : Int) - 1 = -1 := rfl
      rw [this, X_loop, rd_stop]; rfl, ho, hd, hr, by simpa using hv⟩
  | k + 1, o, r, hk, ho, hd, hr, hv => by
    obtain ⟨v, hvv⟩ := nat_digit (ha.getD k).1
    have hvn := (ha.getD k).2
    rw [hvv] at hvn
    have hvn' : v < 1000000000 := by omega
    have hx := rd_go da a y hra ha hy hl ho (i := k) (by omega) hr hvv
    have hq := quo_step (y := y) hvn' hr
    have hm := Nat.mod_lt (v + 1000000000 * r) hy0
    obtain ⟨o', r', g1, g2⟩ := rd_loop hra ha hy0 hy hl k (o.set k (((v + 1000000000 * r) / y : Nat) : Int)) ((v + 1000000000 * r) % y) (by omega) (by simpa using ho) (hd.set (dig_nat hq)) hm (by
      rw [val_drop_getD, hv, val_drop_set _ (by omega), hvv]
      have hdm' : (y : Int) * (((v + 1000000000 * r) / y : Nat) : Int) + (((v + 1000000000 * r) % y : Nat) : Int) = (v : Int) + 1000000000 * (r : Int) := by rw [cast_dm]; rw [Int.natCast_add, Int.natCast_mul]; rfl
      generalize (((v + 1000000000 * r) / y : Nat) : Int) = Q at *
      generalize (((v + 1000000000 * r) % y : Nat) : Int) = M at *
      clear hx hq hm hv
      grind)
    refine ⟨o', r', ?_, g2⟩
    have : ((k + 1 : Nat) : Int) - 1 = (k : Int) := by omega
    rw [this, X_loop, hx]
    exact g1
end

theorem divided_spec {x y : Nat} (hy : 0 < y) (hx : (digs x).length ≤ 1000000000000) (hyl : (digs y).length ≤ 999999999999) :
    ∃ dq q, callX G n_gantryref04_divided [dg (digs x), dg (digs y)] = some (.d (.tup [dq, dg (digs (x % y))])) ∧ Rw dq q ∧ Dig q ∧ q.length ≤ 1000000000000 ∧ val q = ((x / y : Nat) : Int) := by
  have lx := lenA_dg (digs x)
  have ly := lenA_dg (digs y)
  by_cases h1 : (digs x).length ≤ 2
  · have e1 : decide (((digs x).length : Int) ≤ 2) = true := le_t (by omega)
    by_cases h2 : (digs y).length ≤ 2
    · have e2 : decide (((digs y).length : Int) ≤ 2) = true := le_t (by omega)
      have t1 := tiny_spec (Rw.dg (digs x)) (digs_dig x) h1
      have t2 := tiny_spec (Rw.dg (digs y)) (digs_dig y) h2
      rw [val_digs] at t1 t2
      have s1 := digs_small h1
      have e3 := eqz_f (b := (y : Int)) (by omega)
      have e4 := quo_pos (a := (x : Int)) (b := (y : Int)) (by omega)
      have e5 := rem_pos (a := (x : Int)) (b := (y : Int)) (by omega)
      have c1 : (x : Int) / (y : Int) = ((x / y : Nat) : Int) := rfl
      have c2 : (x : Int) % (y : Int) = ((x % y : Nat) : Int) := rfl
      rw [c1] at e4
      rw [c2] at e5
      have hq : x / y ≤ x := Nat.div_le_self x y
      have hr : x % y ≤ x := Nat.mod_le x y
      have hql := digs_len_mono hq
      clear c1 c2
      generalize x / y = Q at *
      generalize x % y = M at *
      have o1 := rOf_spec (n := (Q : Int)) ⟨by omega, by omega⟩
      have o2 := rOf_spec (n := (M : Int)) ⟨by omega, by omega⟩
      have e6 : w64 (Q : Int) = (Q : Int) := w64_id (by omega) (by omega)
      rw [encI_nat] at o1 o2
      simp only [iv] at t1 t2 o1 o2
      refine ⟨dg (digs Q), digs Q, ?_, Rw.dg _, digs_dig _, by omega, val_digs _⟩
      rw [callX_eq (cf := gantryref04_divided) rfl]
      simp -implicitDefEqProofs (maxSteps := 10000000) only [gantryref04_divided, go_sem, st2, ld1, iv, bv, lx, ly, e1, e2, e3, e4, e5, e6, t1, t2, o1, o2, toDs, reduceCtorEq, ↓reduceIte, Nat.reduceEqDiff]
    · have e2 : decide (((digs y).length : Int) ≤ 2) = false := le_f (by omega)
      obtain ⟨o, r, g1, g2, g3, g4, g5⟩ := rd_loop (dg (digs x)) (digs x) y (Rw.dg _) (digs_dig x) hy hyl hx (digs x).length (List.replicate (digs x).length 0) 0 (Nat.le_refl _) (by simp) (Dig.replicate _) hy (by rw [List.drop_length, List.drop_eq_nil_of_le (by simp)]; simp [val])
      rw [val_digs] at g5
      obtain ⟨u1, u2⟩ := div_uni g5 (Int.natCast_nonneg _) (Int.ofNat_lt.2 g4)
      have u2' : x % y = r := Int.ofNat.inj u2
      refine ⟨rowI o, o, ?_, Rw.row _, g3, by omega, u1.symm⟩
      rw [u2', callX_eq (cf := gantryref04_divided) rfl]
      have f1 := bnd (digs x).length (by omega)
      have f2 : w64 (((digs x).length : Int) - 1) = ((digs x).length : Int) - 1 := w64_id (by omega) (by omega)
      simp only [rd_st, rd_end, digs_zero, dg_nil, go_sem] at g1
      simp -implicitDefEqProofs (maxSteps := 10000000) only [gantryref04_divided, go_sem, iv, bv, lx, ly, e1, e2, f1, f2, g1, g2, rowI, rep_I, allD_I, refsL_I, toDs, reduceCtorEq, ↓reduceIte, Nat.reduceEqDiff]
  · have e1 : decide (((digs x).length : Int) ≤ 2) = false := le_f (by omega)
    obtain ⟨o, r, g1, g2, g3, g4, g5⟩ := rd_loop (dg (digs x)) (digs x) y (Rw.dg _) (digs_dig x) hy hyl hx (digs x).length (List.replicate (digs x).length 0) 0 (Nat.le_refl _) (by simp) (Dig.replicate _) hy (by rw [List.drop_length, List.drop_eq_nil_of_le (by simp)]; simp [val])
    rw [val_digs] at g5
    obtain ⟨u1, u2⟩ := div_uni g5 (Int.natCast_nonneg _) (Int.ofNat_lt.2 g4)
    have u2' : x % y = r := Int.ofNat.inj u2
    refine ⟨rowI o, o, ?_, Rw.row _, g3, by omega, u1.symm⟩
    rw [u2', callX_eq (cf := gantryref04_divided) rfl]
    have f1 := bnd (digs x).length (by omega)
    have f2 : w64 (((digs x).length : Int) - 1) = ((digs x).length : Int) - 1 := w64_id (by omega) (by omega)
    simp only [rd_st, rd_end, digs_zero, dg_nil, go_sem] at g1
    simp -implicitDefEqProofs (maxSteps := 10000000) only [gantryref04_divided, go_sem, iv, bv, lx, ly, e1, f1, f2, g1, g2, rowI, rep_I, allD_I, refsL_I, toDs, reduceCtorEq, ↓reduceIte, Nat.reduceEqDiff]
end Go.AM

/- ref04.Div -/
namespace Go.AM
open Go Go.RowKit
variable [Its]

theorem rDiv_zero (x : Int) : callX G n_gantryref04_Div [encI x, encI 0] = some (.d (.tup [encI 0, encI 0])) := by
  rw [callX_eq (cf := gantryref04_Div) rfl]
  have e1 : ((0 : Int) == 0) = true := rfl
  have e2 := one_dg' (digs x.natAbs)
  rw [encI_zero]
  simp -implicitDefEqProofs (maxSteps := 10000000) only [gantryref04_Div, encI, go_sem, stcells, ldcells, iv, bv, e1, toDs, reduceCtorEq, ↓reduceIte, Nat.reduceEqDiff]

theorem rDiv_spec {x y : Int} (hy : y ≠ 0) (hx : nd x ≤ 1000000000000) (hyl : nd y ≤ 999999999999) :
    callX G n_gantryref04_Div [encI x, encI y] = some (.d (.tup [encI (x / y), encI (x % y)])) := by
  obtain ⟨c1, c2, c3⟩ := ediv_cases (x := x) hy
  have hya : 0 < y.natAbs := by omega
  obtain ⟨dq, q, td, t1, t2, t3, t4⟩ := divided_spec (x := x.natAbs) (y := y.natAbs) hya hx hyl
  have ly := lenA_dg (digs y.natAbs)
  have fq : A.one (.d dq) = true := by
    rcases t1 with h | h
    · rw [h]; exact one_dg' q
    · rw [h]; rfl
  have e1 : (((digs y.natAbs).length : Int) == 0) = false := beq_f (by have := digs_length_pos.2 hya; omega)
  have n1 : (x.natAbs : Int) / (y.natAbs : Int) = ((x.natAbs / y.natAbs : Nat) : Int) := rfl
  have n2 : (x.natAbs : Int) % (y.natAbs : Int) = ((x.natAbs % y.natAbs : Nat) : Int) := rfl
  have hq1 : x.natAbs / y.natAbs ≤ x.natAbs := Nat.div_le_self _ _
  have hr1 : x.natAbs % y.natAbs < y.natAbs := Nat.mod_lt _ hya
  rw [n1] at c1 c2 c3
  rw [n2] at c1 c2 c3
  clear n1 n2
  generalize x.natAbs / y.natAbs = Q at *
  generalize x.natAbs % y.natAbs = M at *
  have hQl : (digs Q).length ≤ (digs x.natAbs).length := digs_len_mono hq1
  have hMl : (digs M).length ≤ (digs y.natAbs).length := digs_len_mono (Nat.le_of_lt hr1)
  have hxn : (digs x.natAbs).length ≤ 1000000000000 := hx
  have hyn : (digs y.natAbs).length ≤ 999999999999 := hyl
  have lm := lenA_dg (digs M)
  obtain ⟨s, hs⟩ : ∃ s, (!(decide (x < 0) == decide (y < 0))) = s := ⟨_, rfl⟩
  have k1 := normal_spec s t1 (by omega) t2
  rw [t4] at k1
  have k2 := normal_spec false (Rw.dg (digs M)) (by omega) (digs_dig _)
  rw [encI_sgn_false, val_digs, encI_nat] at k2
  rw [callX_eq (cf := gantryref04_Div) rfl]
  by_cases hb : x < 0 ∧ M ≠ 0
  · have x1 : decide (x < 0) = true := decide_eq_true hb.1
    have f1 : decide (((digs M).length : Int) > 0) = true := gt_t (by have := digs_length_pos.2 (Nat.pos_of_ne_zero hb.2); omega)
    obtain ⟨d1, d2⟩ := c3 hb.1 (by omega)
    have hs' : s = !decide (y < 0) := by rw [← hs, x1]; cases decide (y < 0) <;> rfl
    have k3 := normal_spec s (Rw.row [1]) (by simp) (fun d hd => by simp at hd; omega)
    have v1 : val [1] = 1 := by simp [val]
    rw [v1] at k3
    have a1 : nd (sgn s (Q : Int)) ≤ 1000000000000 := by rw [nd, natAbs_sgn]; exact Nat.le_trans hQl hxn
    have a2 : nd (sgn s 1) ≤ 1000000000000 := by
      have : nd (sgn s 1) ≤ 3 := nd_i64 (by cases s <;> simp [sgn])
      omega
    have k4 := rAdd_spec a1 a2
    have s1 : sgn s (Q : Int) + sgn s 1 = sgn s ((Q : Int) + 1) := by
      cases s
      · simp only [sgn, Bool.false_eq_true, if_false]
      · simp only [sgn, if_true]; omega
    rw [s1, hs', ← d1, ← hs'] at k4
    obtain ⟨o2, s1, s2, s3, s4⟩ := rminus_spec (Rw.dg (digs y.natAbs)) (Rw.dg (digs M)) (digs_dig _) (digs_dig _) (by omega) hMl (by rw [val_digs, val_digs]; omega)
    rw [val_digs, val_digs] at s4
    have k5 := normal_spec false (Rw.dg o2) (by omega) s3
    rw [encI_sgn_false, s4, ← d2] at k5
    obtain ⟨z, hz⟩ : ∃ z, sgn s (Q : Int) = z := ⟨_, rfl⟩
    obtain ⟨X, hX⟩ : ∃ X, x / y = X := ⟨_, rfl⟩
    obtain ⟨Y, hY⟩ : ∃ Y, x % y = Y := ⟨_, rfl⟩
    rw [hz] at k1 k4
    rw [hX] at k4 ⊢
    rw [hY] at k5 ⊢
    simp only [rowI, List.map_cons, List.map_nil, List.length_cons, List.length_nil, encI, bv, iv, Nat.reduceAdd] at k1 k2 k3 k4 k5
    rw [x1] at hs
    simp -implicitDefEqProofs (maxSteps := 10000000) only [gantryref04_Div, encI, go_sem, stcells, ldcells, iv, bv, e1, x1, hs, f1, td, ly, lm, fq, k1, k2, k3, k4, k5, s1, retA_gR, toDs, apartS, ne_eq, not_false_eq_true, reduceCtorEq, ↓reduceIte, Nat.reduceEqDiff]
  · have hr : x / y = sgn s (Q : Int) ∧ x % y = (M : Int) := by
      by_cases hx0 : x < 0
      · have hM : M = 0 := by
          rcases Nat.eq_zero_or_pos M with h | h
          · exact h
          · exact absurd ⟨hx0, by omega⟩ hb
        have x1 : decide (x < 0) = true := decide_eq_true hx0
        obtain ⟨d1, d2⟩ := c2 hx0 (by omega)
        refine ⟨?_, by rw [d2, hM]; rfl⟩
        rw [d1, ← hs, x1]; cases decide (y < 0) <;> rfl
      · have x1 : decide (x < 0) = false := decide_eq_false hx0
        obtain ⟨d1, d2⟩ := c1 hx0
        refine ⟨?_, d2⟩
        rw [d1, ← hs, x1]; cases decide (y < 0) <;> rfl
    rw [hr.1, hr.2, encI_nat]
    obtain ⟨z, hz⟩ : ∃ z, sgn s (Q : Int) = z := ⟨_, rfl⟩
    rw [hz] at k1 ⊢
    simp only [encI, bv, iv] at k1 k2
    by_cases hx0 : x < 0
    · have x1 : decide (x < 0) = true := decide_eq_true hx0
      have f1 : decide (((digs M).length : Int) > 0) = false := by
        have : ¬ M ≠ 0 := fun h => hb ⟨hx0, h⟩
        have : M = 0 := by omega
        rw [this, digs_zero]; rfl
      rw [x1] at hs
      simp -implicitDefEqProofs (maxSteps := 10000000) only [gantryref04_Div, encI, go_sem, stcells, ldcells, iv, bv, e1, x1, hs, f1, td, ly, lm, fq, k1, k2, toDs, apartS, ne_eq, not_false_eq_true, reduceCtorEq, ↓reduceIte, Nat.reduceEqDiff]
    · have x1 : decide (x < 0) = false := decide_eq_false hx0
      rw [x1] at hs
      simp -implicitDefEqProofs (maxSteps := 10000000) only [gantryref04_Div, encI, go_sem, stcells, ldcells, iv, bv, e1, x1, hs, td, ly, lm, fq, k1, k2, toDs, apartS, ne_eq, not_false_eq_true, reduceCtorEq, ↓reduceIte, Nat.reduceEqDiff]
end Go.AM

/- ref04.Gcd -/
namespace Go.AM
open Go Go.RowKit
variable [Its]

def rg_st (m n : Nat) : St := mkS [(4, .ptr [4] 0), (7, ai m), (8, ai n)] [([4], box0)]
def rg_en (m : Nat) : St := mkS [(4, .ptr [4] 0), (7, ai m)] [([4], box0)]
theorem rg_ints : ∀ (n m : Nat), m < 1000000000000000000 → n < 1000000000000000000 → X G (.loop gantryref04_Gcd_l0) (rg_st m n) = some (.x 2, rg_en (Nat.gcd m n)) := by
  intro n
  induction n using Nat.strongRecOn with
  | _ n ih =>
  intro m hm hn
  rw [X_loop]
  by_cases h0 : n = 0
  · subst h0
    have e1 : decide (((0 : Nat) : Int) > 0) = false := rfl
    rw [Nat.gcd_zero_right]
    simp -implicitDefEqProofs (maxSteps := 10000000) only [gantryref04_Gcd_l0, rg_st, rg_en, box0, go_sem, iv, bv, reduceCtorEq, ↓reduceIte, Nat.reduceEqDiff]
    rfl
  · have e1 : decide ((n : Int) > 0) = true := gt_t (by omega)
    have e2 := eqz_f (b := (n : Int)) (by omega)
    have e3 := rem_pos (a := (m : Int)) (b := (n : Int)) (by omega)
    have e4 : (m : Int) % (n : Int) = ((m % n : Nat) : Int) := rfl
    have hlt : m % n < n := Nat.mod_lt _ (by omega)
    have hx : X G gantryref04_Gcd_l0 (rg_st m n) = some (.n, rg_st n (m % n)) := by
      simp -implicitDefEqProofs (maxSteps := 10000000) only [gantryref04_Gcd_l0, rg_st, rg_en, box0, go_sem, iv, bv, e1, e2, e3, e4, reduceCtorEq, ↓reduceIte, Nat.reduceEqDiff]
    rw [hx, Option.bind_some, if_pos rfl, ih (m % n) hlt n hn (by omega), gcd_step]

theorem rg_loop : ∀ (b a : Nat), (digs a).length ≤ 1000000000000 → (digs b).length ≤ 999999999999 →
    X G (.loop gantryref04_Gcd_l1) (gl_st a b) = some (.x 0, gl_en (Nat.gcd a b)) ∨ X G (.loop gantryref04_Gcd_l1) (gl_st a b) = some (.r, gl_ret (Nat.gcd a b)) := by
  intro b
  induction b using Nat.strongRecOn with
  | _ b ih =>
  intro a ha hb
  have la := lenA_dg (digs a)
  have lb := lenA_dg (digs b)
  by_cases h0 : b = 0
  · subst h0
    have e1 : decide (((digs 0).length : Int) > 0) = false := by rw [digs_zero]; rfl
    refine .inl ?_
    rw [Nat.gcd_zero_right, X_loop]
    simp -implicitDefEqProofs (maxSteps := 10000000) only [gantryref04_Gcd_l1, gl_st, gl_en, box0, boxI, go_sem, stcells, ldcells, iv, bv, e1, la, lb, reduceCtorEq, ↓reduceIte, Nat.reduceEqDiff]
  · have e1 : decide (((digs b).length : Int) > 0) = true := gt_t (by have := digs_length_pos.2 (Nat.pos_of_ne_zero h0); omega)
    by_cases h1 : (digs a).length ≤ 2 ∧ (digs b).length ≤ 2
    · have t1 := tiny_spec (Rw.dg (digs a)) (digs_dig a) h1.1
      have t2 := tiny_spec (Rw.dg (digs b)) (digs_dig b) h1.2
      rw [val_digs] at t1 t2
      simp only [iv, bv] at t1 t2
      have d1 : decide (((digs a).length : Int) ≤ 2) = true := le_t (by omega)
      have d2 : decide (((digs b).length : Int) ≤ 2) = true := le_t (by omega)
      have s1 := digs_small h1.1
      have s2 := digs_small h1.2
      have g1 := rg_ints b a s1 s2
      have hg : Nat.gcd a b ≤ b := Nat.gcd_le_right _ (Nat.pos_of_ne_zero h0)
      have u1 := rOf_spec (n := ((Nat.gcd a b : Nat) : Int)) ⟨by omega, by omega⟩
      rw [encI_nat] at u1
      simp only [rg_st, rg_en, box0, go_sem] at g1
      simp only [iv] at u1
      refine .inr ?_
      rw [X_loop]
      simp -implicitDefEqProofs (maxSteps := 10000000) only [gantryref04_Gcd_l1, gl_st, gl_ret, box0, boxI, go_sem, stcells, ldcells, iv, bv, e1, la, lb, d1, d2, t1, t2, g1, u1, reduceCtorEq, ↓reduceIte, Nat.reduceEqDiff]
    · have td := rDiv_spec (x := (a : Int)) (y := (b : Int)) (by omega) (by rw [nd_nat]; exact ha) (by rw [nd_nat]; exact hb)
      have e3 : (a : Int) / (b : Int) = ((a / b : Nat) : Int) := rfl
      have e4 : (a : Int) % (b : Int) = ((a % b : Nat) : Int) := rfl
      rw [e3, e4, encI_nat, encI_nat, encI_nat, encI_nat] at td
      have hlt : a % b < b := Nat.mod_lt _ (Nat.pos_of_ne_zero h0)
      have hx : X G gantryref04_Gcd_l1 (gl_st a b) = some (.n, gl_st b (a % b)) := by
        by_cases h2 : (digs a).length ≤ 2
        · have h3 : ¬ (digs b).length ≤ 2 := fun h => h1 ⟨h2, h⟩
          have d1 : decide (((digs a).length : Int) ≤ 2) = true := le_t (by omega)
          have d2 : decide (((digs b).length : Int) ≤ 2) = false := le_f (by omega)
          simp -implicitDefEqProofs (maxSteps := 10000000) only [gantryref04_Gcd_l1, gl_st, gl_ret, box0, boxI, go_sem, stcells, ldcells, iv, bv, e1, la, lb, d1, d2, td, apartS, ne_eq, not_false_eq_true, reduceCtorEq, ↓reduceIte, Nat.reduceEqDiff]
        · have d1 : decide (((digs a).length : Int) ≤ 2) = false := le_f (by omega)
          simp -implicitDefEqProofs (maxSteps := 10000000) only [gantryref04_Gcd_l1, gl_st, gl_ret, box0, boxI, go_sem, stcells, ldcells, iv, bv, e1, la, lb, d1, td, apartS, ne_eq, not_false_eq_true, reduceCtorEq, ↓reduceIte, Nat.reduceEqDiff]
      have hr := ih (a % b) hlt b (by omega) (Nat.le_trans (digs_len_mono (Nat.le_of_lt hlt)) hb)
      rw [gcd_step] at hr
      rw [X_loop, hx]
      exact hr

theorem rGcd_spec {x y : Int} (hx : nd x ≤ 1000000000000) (hy : nd y ≤ 999999999999) : callX G n_gantryref04_Gcd [encI x, encI y] = some (.d (encI (Int.gcd x y : Nat))) := by
  rw [callX_eq (cf := gantryref04_Gcd) rfl]
  have hxn : (digs x.natAbs).length ≤ 1000000000000 := hx
  have hyn : (digs y.natAbs).length ≤ 999999999999 := hy
  have o1 := normal_spec false (Rw.dg (digs x.natAbs)) (by omega) (digs_dig _)
  have o2 := normal_spec false (Rw.dg (digs y.natAbs)) (by omega) (digs_dig _)
  rw [encI_sgn_false, val_digs, encI_nat] at o1 o2
  simp only [bv] at o1 o2
  rw [encI_nat]
  have e : Int.gcd x y = Nat.gcd x.natAbs y.natAbs := rfl
  rw [e]
  rcases rg_loop y.natAbs x.natAbs hxn hyn with g | g
  · simp only [gl_st, gl_en, box0, boxI, go_sem] at g
    simp -implicitDefEqProofs (maxSteps := 10000000) only [gantryref04_Gcd, encI, go_sem, stcells, ldcells, iv, bv, o1, o2, g, reduceCtorEq, ↓reduceIte, Nat.reduceEqDiff]
  · simp only [gl_st, gl_ret, box0, boxI, go_sem] at g
    simp -implicitDefEqProofs (maxSteps := 10000000) only [gantryref04_Gcd, encI, go_sem, stcells, ldcells, iv, bv, o1, o2, g, reduceCtorEq, ↓reduceIte, Nat.reduceEqDiff]
end Go.AM

namespace Go.AM
open Go Go.RowKit
theorem nd_ediv3_ {x r : Int} : nd (x / r) ≤ nd x := nd_mono (by
  rcases Int.lt_trichotomy r 0 with h | h | h
  · exact Int.natAbs_ediv_le_natAbs _ _
  · subst h; simp
  · exact Int.natAbs_ediv_le_natAbs _ _)
theorem nd_emod3 {x y : Int} (hy : y ≠ 0) : nd (x % y) ≤ nd y := nd_mono (by
  have h1 := Int.emod_nonneg x hy
  have h2 := Int.emod_lt x hy
  omega)
theorem nd_gcd3 (x y : Int) : nd ((Int.gcd x y : Nat) : Int) ≤ max (nd x) (nd y) := by
  by_cases hy : y = 0
  · subst hy
    rw [Int.gcd_zero]
    have : nd ((x.natAbs : Nat) : Int) = nd x := by rw [nd, Int.natAbs_natCast]; rfl
    omega
  · refine Nat.le_trans (nd_mono ?_) (Nat.le_max_right _ _)
    rw [Int.natAbs_natCast]
    exact Nat.le_of_dvd (by omega) (Int.gcd_dvd_natAbs_right x y)
theorem rep2_2 (a b : D) : rep 2 [a, b] = [a, b, a, b] := rfl
theorem rep6_1 (a : D) : rep 6 [a] = [a, a, a, a, a, a] := rfl
def row2 (a b : Int) : D := .row 2 [.v (.bool (decide (a < 0))), dg (digs a.natAbs), .v (.bool (decide (b < 0))), dg (digs b.natAbs)]
theorem ixr20 (a b : Int) (h : Hp) : ixaA h 2 0 (.d (row2 a b)) = some (.d (.rp [.v (.bool (decide (a < 0))), dg (digs a.natAbs), .v (.bool (decide (b < 0))), dg (digs b.natAbs)])) := rfl
theorem ixr21 (a b : Int) (h : Hp) : ixaA h 2 1 (.d (row2 a b)) = some (.d (.rp [.v (.bool (decide (b < 0))), dg (digs b.natAbs)])) := rfl
theorem ldr20 (a : Int) (r : List D) (h : Hp) : loadA h (some 2) (.d (.rp (.v (.bool (decide (a < 0))) :: dg (digs a.natAbs) :: r))) = some (.d (encI a)) := by
  simp only [loadA, ldrow, guardO]
  rw [if_pos (by simp)]
  rfl
variable [Its]
theorem both_div {x y : Int} (hx : nd x ≤ 1000) (hy : nd y ≤ 1000) : ∃ q r, nd q ≤ 1000 ∧ nd r ≤ 1000 ∧ callX G n_integer_Div [encI x, encI y] = some (.d (.tup [encI q, encI r])) ∧ callX G n_gantryref04_Div [encI x, encI y] = some (.d (.tup [encI q, encI r])) := by
  by_cases h : y = 0
  · subst h
    exact ⟨0, 0, by rw [nd_zero]; omega, by rw [nd_zero]; omega, Div_zero x, rDiv_zero x⟩
  · exact ⟨_, _, Nat.le_trans nd_ediv3_ hx, Nat.le_trans (nd_emod3 h) hy, Div_spec h (by omega) (by omega), rDiv_spec h (by omega) (by omega)⟩
def iq_st (L : D) (i : Int) : St := mkS [(10, .d L), (11, ai i)] []
theorem iq_go {L : D} {rest : List D} {i : Nat} {x y : Int} (hi : i < 6) (hL : lenA (.d L) = some 6) (hx : ∀ hp, ixaA hp 1 (i : Int) (.d L) = some (.d (.rp rest))) (hy : ∀ hp, loadA hp none (.d (.rp rest)) = some (.d (row2 x y))) (nx : nd x ≤ 1000) (ny : nd y ≤ 1000) :
    X G gantrylaw04_IntegerQuotients_l0 (iq_st L i) = some (.n, iq_st L ((i + 1 : Nat) : Int)) := by
  obtain ⟨q, r, nq, nr, g1, g2⟩ := both_div nx ny
  have g3 := sm4 (x := q) rfl (by omega)
  have g4 := sm4 (x := r) rfl (by omega)
  have g5 := Gcd_spec (x := x) (y := y) (by omega) (by omega)
  have g6 := rGcd_spec (x := x) (y := y) (by omega) (by omega)
  have ng := nd_gcd3 x y
  have g7 := sm4 (x := ((Int.gcd x y : Nat) : Int)) rfl (by omega)
  generalize ((Int.gcd x y : Nat) : Int) = gg at *
  have e0 : ((6 : Nat) : Int) = 6 := rfl
  have e1 : decide ((i : Int) < 6) = true := lt_t (by omega)
  have e2 : w64 ((i : Int) + 1) = ((i + 1 : Nat) : Int) := by rw [w64_id (by omega) (by omega)]; rfl
  simp only [bv] at g3 g4 g7
  simp -implicitDefEqProofs (maxSteps := 10000000) only [gantrylaw04_IntegerQuotients_l0, iq_st, bI, hL, hx, hy, ixr20, ixr21, ldr20, e0, e1, e2, g1, g2, g3, g4, g5, g6, g7, go_sem, reduceCtorEq, ↓reduceIte, Nat.reduceEqDiff, iv, bv]
theorem iq_stop {L : D} (hL : lenA (.d L) = some 6) : X G gantrylaw04_IntegerQuotients_l0 (iq_st L 6) = some (.x 0, mkS [] []) := by
  have e0 : ((6 : Nat) : Int) = 6 := rfl
  have e1 : decide ((6 : Int) < 6) = false := rfl
  simp -implicitDefEqProofs (maxSteps := 10000000) only [gantrylaw04_IntegerQuotients_l0, iq_st, hL, e0, e1, go_sem, reduceCtorEq, ↓reduceIte, Nat.reduceEqDiff, iv, bv]
theorem iq_loop {x y p s : Int} (nx : nd x ≤ 1000) (ny : nd y ≤ 1000) (np : nd p ≤ 1000) (ns : nd s ≤ 1000) :
    X G (.loop gantrylaw04_IntegerQuotients_l0) (iq_st (.row 6 [row2 x y, row2 y x, row2 p y, row2 p x, row2 x 0, row2 p s]) 0) = some (.x 0, mkS [] []) := by
  generalize hL : D.row 6 [row2 x y, row2 y x, row2 p y, row2 p x, row2 x 0, row2 p s] = L
  have h0 := iq_go (L := L) (i := 0) (x := x) (y := y) (by omega) (by rw [← hL]; rfl) (fun _ => by rw [← hL]; rfl) (fun _ => rfl) nx ny
  have h1 := iq_go (L := L) (i := 1) (x := y) (y := x) (by omega) (by rw [← hL]; rfl) (fun _ => by rw [← hL]; rfl) (fun _ => rfl) ny nx
  have h2 := iq_go (L := L) (i := 2) (x := p) (y := y) (by omega) (by rw [← hL]; rfl) (fun _ => by rw [← hL]; rfl) (fun _ => rfl) np ny
  have h3 := iq_go (L := L) (i := 3) (x := p) (y := x) (by omega) (by rw [← hL]; rfl) (fun _ => by rw [← hL]; rfl) (fun _ => rfl) np nx
  have h4 := iq_go (L := L) (i := 4) (x := x) (y := 0) (by omega) (by rw [← hL]; rfl) (fun _ => by rw [← hL]; rfl) (fun _ => rfl) nx (by rw [nd_zero]; omega)
  have h5 := iq_go (L := L) (i := 5) (x := p) (y := s) (by omega) (by rw [← hL]; rfl) (fun _ => by rw [← hL]; rfl) (fun _ => rfl) np ns
  have h6 := iq_stop (L := L) (by rw [← hL]; rfl)
  rw [X_loop, show (0 : Int) = ((0 : Nat) : Int) from rfl, h0, Option.bind_some, if_pos rfl, X_loop, h1, Option.bind_some, if_pos rfl, X_loop, h2, Option.bind_some, if_pos rfl, X_loop, h3, Option.bind_some, if_pos rfl, X_loop, h4, Option.bind_some, if_pos rfl, X_loop, h5, Option.bind_some, if_pos rfl, X_loop, show ((5 + 1 : Nat) : Int) = 6 from rfl, h6]
  rfl
end Go.AM
namespace Go.Proofs.YtecihganhcapoaaGreatDoor.Pure
open Go Go.AM
theorem IntegerQuotients (e0 : D) (l0 : List Int) (hd0 : Dg e0 l0) (hwf0 : ∀ n ∈ l0, (Lit.int .i64 n).wf = true) (hlen0 : l0.length * 8 ≤ 140737488351232) (e1 : D) (l1 : List Int) (hd1 : Dg e1 l1) (hwf1 : ∀ n ∈ l1, (Lit.int .i64 n).wf = true) (hlen1 : l1.length * 8 ≤ 140737488351232) (a2 : Int) (w2 : (Lit.int .i64 a2).wf = true) : callX G 7 [e0, e1, iv a2] = some (.d (bv true)) := by
  obtain ⟨x, nx, gx⟩ := Number_spec (at_ := 0) (rw_dg hd0) (fun n hn => i64_wf (hwf0 n hn)) (by omega)
  obtain ⟨y, ny, gy⟩ := Number_spec (at_ := 0) (rw_dg hd1) (fun n hn => i64_wf (hwf1 n hn)) (by omega)
  have m1 := rMul_spec (x := x) (y := y) (by omega) (by omega)
  have nm : nd (x * y) ≤ 16 := Nat.le_trans nd_mul (by omega)
  have m2 := rMul_spec (x := y) (y := y) (by omega) (by omega)
  have ns : nd (y * y) ≤ 16 := Nat.le_trans nd_mul (by omega)
  generalize x * y = p0 at *
  generalize y * y = s at *
  have r1 := around_spec (m := 5) (i64_wf w2) (by omega)
  have b1 := arnd_b (n := a2) (m := 5) (by omega)
  generalize arnd a2 5 = k at *
  obtain ⟨u, hu⟩ : ∃ u, k - 2 = u := ⟨_, rfl⟩
  have e1 : w64 (k - 2) = u := by rw [w64_id (by omega) (by omega)]; exact hu
  have o1 := rOf_spec (n := u) ⟨by omega, by omega⟩
  have nu : nd u ≤ 16 := Nat.le_trans (nd_i64 ⟨by omega, by omega⟩) (by omega)
  have g1 := rAdd_spec (x := p0) (y := u) (by omega) (by omega)
  have n1 := nd_add nm nu
  generalize p0 + u = p at *
  have hl := iq_loop (x := x) (y := y) (p := p) (s := s) (by omega) (by omega) (by omega) (by omega)
  have kl := lives4
  have z : row2 x 0 = .row 2 [.v (.bool (decide (x < 0))), dg (digs x.natAbs), .v (.bool false), .z true] := by
    rw [row2, show (0 : Int).natAbs = 0 from rfl, digs_zero]; rfl
  rw [z] at hl
  simp only [iq_st, row2, go_sem] at hl
  rw [callX_eq (cf := gantrylaw04_IntegerQuotients) rfl]
  simp only [iv, bv] at gx gy r1 o1 kl
  simp -implicitDefEqProofs (maxSteps := 10000000) only [gantrylaw04_IntegerQuotients, bI, gx, gy, m1, m2, r1, e1, o1, g1, rep2_2, rep6_1, hl, kl, go_sem, reduceCtorEq, ↓reduceIte, Nat.reduceEqDiff, iv, bv]
end Go.Proofs.YtecihganhcapoaaGreatDoor.Pure

/- The table that the rows list, as the machine asks for it. -/
namespace Go.AM
open Go Go.Proofs Go.RowKit

theorem laidVars_get {P : Program} {w : World} {n : String} {d : DataW Unit} : ∀ {l : List (String × DataW Unit)} {ps : List MemPlace}, DataW.LaidVars P w l ps → (n, d) ∈ l →
    ∃ g t cs fuel p, P.globalNamed n = some g ∧ (P.globals[g]?).map (·.type) = some t ∧ w.var? P n = some cs ∧ DataW.trod (fun _ => ()) P w 0 (fun _ => true) false fuel t cs.toList = some (d, p)
  | [], _, _, h => by cases h
  | (m, e) :: r, ps, hL, h => by
    obtain ⟨g, t, cs, fuel, p, q, h1, h2, h3, h4, h5, _⟩ := hL
    rcases List.mem_cons.1 h with h' | h'
    · cases h'
      exact ⟨g, t, cs, fuel, p, h1, h2, h3, h4⟩
    · exact laidVars_get h5 h'
def chkT (P : Program) (g : Nat) : Bool :=
  match (P.globals[g]?).map (·.type) with
  | some t => (match P.underlying t with
    | some (.array 20 e) => (match P.underlying e with
      | some (.int .u64) => P.cellsOf e == 1 && P.cellsOf t == 20
      | _ => false)
    | _ => false)
  | none => false
theorem chkT_ok {P : Program} {g : Nat} (h : chkT P g = true) : ∃ t', (P.globals[g]?).map (·.type) = some t' ∧ ∃ e, P.underlying t' = some (.array 20 e) ∧ P.underlying e = some (.int .u64) ∧ P.cellsOf e = 1 ∧ P.cellsOf t' = 20 := by
  unfold chkT at h
  split at h
  · rename_i t ht
    split at h
    · rename_i e he
      split at h
      · rename_i hk
        simp only [Bool.and_eq_true, beq_iff_eq] at h
        exact ⟨t, ht, e, he, hk, h.1, h.2⟩
      · cases h
    · cases h
  · cases h
def tabDat : DataW Unit := Lib.tabData .u64 Lib.pow10Tab
theorem tabOk_laid {l : List (String × DataW Unit)} {w : World} (hL : laidMet Tryz.prog l w) (hm : ("internal/strconv.uint64pow10", tabDat) ∈ l) : TabOk w := by
  obtain ⟨ps, h, _⟩ := hL
  obtain ⟨g, t, cs, fuel, p, h1, h2, h3, h4⟩ := laidVars_get h hm
  have hg : Tryz.prog.globalNamed "internal/strconv.uint64pow10" = some 2 := by kernel_rfl
  obtain rfl : g = 2 := Option.some.inj (h1.symm.trans hg)
  have ht := chkT_ok (P := Tryz.prog) (g := 2) (by kernel_rfl)
  obtain ⟨t', ht, e, k1, k2, k3, k4⟩ := ht
  obtain rfl := Option.some.inj (ht.symm.trans h2)
  have hc := Lib.cells_of_tab k1 k2 k3 k4 h4
  unfold World.var? at h3
  rw [h1, Option.bind_some] at h3
  intro x hx
  have hx' : x = (2, (Lib.pow10Tab.map fun z => Value.int .u64 z).toArray) := by
    have : tabs = [(2, (Lib.pow10Tab.map fun z => Value.int .u64 z).toArray)] := by kernel_rfl
    rw [this] at hx
    exact List.mem_singleton.1 hx
  subst hx'
  cases ho : w.heap[2]? with
  | none => rw [ho] at h3; cases h3
  | some o =>
    rw [ho] at h3
    cases o with
    | cells cs' T fz =>
      simp only [Option.some.injEq] at h3
      subst h3
      refine ⟨(Array.getElem?_eq_some_iff.1 ho).1, T, fz, ?_⟩
      show some (Go.Obj.cells cs' T fz) = some (Go.Obj.cells (Lib.pow10Tab.map fun z => Value.int .u64 z).toArray T fz)
      rw [← hc]
    | _ => cases h3
end Go.AM

/- The row of IntegerQuotients, out of its Pure. Printed by row.py. -/
namespace Go.Proofs.YtecihganhcapoaaGreatDoor.integerQuotients
open Go.ChangeShapes Go.WideShapes Go.ChangeAt Go.RowKit Go.AM
theorem own : ownKnob Tryz.prog.godebug = none := by kernel_rfl
theorem laidOut : laidOutB Tryz.prog = true := by kernel_rfl
set_option maxRecDepth 100000 in
theorem lifted (os : Os) (started : os.Started) (H : Type) (enc : TypeId × Value → H) :
    ReturnsInHanded {} Tryz.checked os 7 .any (fun w args => (Rows.integerQuotientsSpec.pre enc Tryz.prog Tryz.f7 Rows.integerQuotientsRow.domain false w args ∧ laidMetH Tryz.prog Rows.integerQuotientsRow.laid w) ∧ sizedMet enc Tryz.prog Tryz.f7 (OpenSpec.ofChange Rows.integerQuotientsSpec) false w args)
      (Rows.integerQuotientsSpec.post enc Tryz.prog Tryz.f7 false true false false) := by
  refine returnsInHanded_of_change_and (C := Tryz.checked) (X := fun w _ => laidMetH Tryz.prog Rows.integerQuotientsRow.laid w) (fun _ _ _ hh h => h.of_heap hh) own started (by kernel_rfl) Tryz.func7
    (ChangeSpec.witness_shaped (enc := enc) (C := Tryz.checked) (os := os) (X := fun w _ => laidMetH Tryz.prog Rows.integerQuotientsRow.laid w) false (World.laidAll Tryz.prog os Rows.integerQuotientsRow.laid) #[.slice none 0 0, .slice none 0 0, .int .i64 0] 8 (World.laidAll_os _ _ _)
      (World.shaped_of_ZipB (by kernel_rfl) (by kernel_rfl)) (by kernel_rfl) (by kernel_rfl) (by kernel_rfl)
      (by rw [MakeChecks.laidMetH_plain _ _ _ (by kernel_rfl)]; exact laidMet_laidAll _ (by kernel_rfl) (by kernel_rfl))) ?_
  intro W base args ds gs before hval0 hW hcnd hsz0 hL _
  have hsz : (DataW.weightsEach Tryz.prog (Tryz.f7.params.toList ++ Rows.integerQuotientsSpec.plain.varTypes Tryz.prog) (ds ++ gs)).all (· ≤ reachBytes) = true := hsz0
  have hval : ∀ (j : Nat) t v, Tryz.f7.params[j]? = some t → args[j]? = some v → Value.okWide Tryz.prog W .any base t v := hval0
  have hW' := hW
  obtain ⟨p, q, hA0, hV, rfl, hfz, hnd⟩ := hW
  have hA : DataW.TrodAll enc Tryz.prog W 0 (fun _ => true) true Tryz.f7.params.toList args.toList ds p := hA0
  rw [Tryz.params7] at hA hval hsz
  obtain ⟨v0, vs0, d0, ds0, p0, q0, hargs, rfl, rfl, h0, r0⟩ := trodAll_cons hA
  obtain ⟨v1, vs1, d1, ds1, p1, q1, rfl, rfl, rfl, h1, r1⟩ := trodAll_cons r0
  obtain ⟨v2, vs2, d2, ds2, p2, q2, rfl, rfl, rfl, h2, r2⟩ := trodAll_cons r1
  obtain ⟨rfl, rfl, rfl⟩ := trodAll_nil r2
  obtain rfl : args = #[v0, v1, v2] := by cases args; simp_all
  obtain ⟨rfl, rfl⟩ := trodVars_none hV
  obtain ⟨a0, len0, cap0, rfl⟩ := okWide_slice Tryz.underlying22 (hval 0 22 v0 rfl rfl)
  have k0 := h0
  have lt0 : ∀ x ∈ p0, x.block < W.heap.size := by obtain ⟨m, hm⟩ := k0; exact DataW.trod_lt m _ _ _ hm
  obtain ⟨z0, w0, y0⟩ : ∃ zs, ((a0 = none ∧ len0 = 0 ∧ cap0 = 0 ∧ zs = []) ∨ ∃ x, a0 = some x ∧ len0 ≤ cap0 ∧ cap0 ≤ maxLen ∧ zs.length = cap0 ∧ (∀ i, i < zs.length → W.cell? (x.add i) = some (.int .i64 (zs.getD i 0))) ∧ ∀ n ∈ zs, (Lit.int .i64 n).wf = true) ∧ len0 * 8 ≤ 140737488351232 := by
    obtain ⟨fuel, hf⟩ := h0
    rcases open_ints Tryz.underlying22 Tryz.underlying3 (by kernel_rfl) hf with ⟨hcs, _⟩ | ⟨x, l, c, zs, hcs, _, hl, hm, hz, hx, hcell, hwz⟩
    · simp [Value.cells] at hcs
      obtain ⟨rfl, rfl, rfl⟩ := hcs
      exact ⟨[], .inl ⟨rfl, rfl, rfl, rfl⟩, by simp⟩
    · simp [Value.cells] at hcs
      obtain ⟨rfl, rfl, rfl⟩ := hcs
      refine ⟨zs, .inr ⟨_, rfl, hl, hm, by simpa using hz, hcell, hwz⟩, ?_⟩
      simp only [Prod.mk.injEq] at hx
      have hd := hx.1
      have z := sized_slice hsz (j := 0) (t := 22) rfl (by rw [hd]; rfl) Tryz.underlying22
      have hb : Tryz.prog.bytesOf 3 = 8 := by kernel_rfl
      rw [hb] at z
      have hr : reachBytes ≤ 140737488351232 := by decide
      have hz' : zs.length = cap0 := by simpa using hz
      simp only [lits, List.length_map, List.length_take, List.length_drop] at z
      omega
  obtain ⟨e0, l0, hd0, hrep0, hlen0, hwf0⟩ := arg_row w0
  obtain ⟨a1, len1, cap1, rfl⟩ := okWide_slice Tryz.underlying22 (hval 1 22 v1 rfl rfl)
  have k1 := h1
  have lt1 : ∀ x ∈ p1, x.block < W.heap.size := by obtain ⟨m, hm⟩ := k1; exact DataW.trod_lt m _ _ _ hm
  obtain ⟨z1, w1, y1⟩ : ∃ zs, ((a1 = none ∧ len1 = 0 ∧ cap1 = 0 ∧ zs = []) ∨ ∃ x, a1 = some x ∧ len1 ≤ cap1 ∧ cap1 ≤ maxLen ∧ zs.length = cap1 ∧ (∀ i, i < zs.length → W.cell? (x.add i) = some (.int .i64 (zs.getD i 0))) ∧ ∀ n ∈ zs, (Lit.int .i64 n).wf = true) ∧ len1 * 8 ≤ 140737488351232 := by
    obtain ⟨fuel, hf⟩ := h1
    rcases open_ints Tryz.underlying22 Tryz.underlying3 (by kernel_rfl) hf with ⟨hcs, _⟩ | ⟨x, l, c, zs, hcs, _, hl, hm, hz, hx, hcell, hwz⟩
    · simp [Value.cells] at hcs
      obtain ⟨rfl, rfl, rfl⟩ := hcs
      exact ⟨[], .inl ⟨rfl, rfl, rfl, rfl⟩, by simp⟩
    · simp [Value.cells] at hcs
      obtain ⟨rfl, rfl, rfl⟩ := hcs
      refine ⟨zs, .inr ⟨_, rfl, hl, hm, by simpa using hz, hcell, hwz⟩, ?_⟩
      simp only [Prod.mk.injEq] at hx
      have hd := hx.1
      have z := sized_slice hsz (j := 1) (t := 22) rfl (by rw [hd]; rfl) Tryz.underlying22
      have hb : Tryz.prog.bytesOf 3 = 8 := by kernel_rfl
      rw [hb] at z
      have hr : reachBytes ≤ 140737488351232 := by decide
      have hz' : zs.length = cap1 := by simpa using hz
      simp only [lits, List.length_map, List.length_take, List.length_drop] at z
      omega
  obtain ⟨e1, l1, hd1, hrep1, hlen1, hwf1⟩ := arg_row w1
  obtain ⟨a2, rfl, rfl, rfl, w2⟩ := open_int Tryz.underlying3 (hval 2 3 v2 rfl rfl) h2
  clear hA0 hval0 hsz0 hsz
  refine (law_walk env4 (f := 7) (ds := [e0, e1, (iv a2)]) (vs := [.slice a0 len0 cap0, .slice a1 len1 cap1, .int .i64 a2]) (w := W) (tabOk_laid (by rw [← MakeChecks.laidMetH_plain _ _ _ (by kernel_rfl)]; exact hL) (List.mem_of_getElem? (i := 2) (by kernel_rfl))) (RepL.cons _ _ _ _ hrep0 (RepL.cons _ _ _ _ hrep1 (RepL.cons _ _ _ _ (RepD.v _) RepL.nil))) (Pure.IntegerQuotients e0 l0 hd0 hwf0 (by rw [hlen0]; exact y0) e1 l1 hd1 hwf1 (by rw [hlen1]; exact y1) a2 w2)).mono fun e W' ⟨he, bel⟩ => ?_
  subst he
  exact ⟨_, rfl, _, _, _, [], _, [], hW', trodAll_mk1 (shut_bool Tryz.underlying4 _), (trodAll_cons_mk (Below.trod laidOut (by kernel_rfl) (of_decide_eq_true (by kernel_rfl)) k0 bel lt0) (trodAll_cons_mk (Below.trod laidOut (by kernel_rfl) (of_decide_eq_true (by kernel_rfl)) k1 bel lt1) (trodAll_cons_mk (shut_int Tryz.underlying3 w2) trodAll_mk0))), rfl, bel.frame _, fun h => by cases h⟩
theorem over : Rows.integerQuotientsRow.holds Tryz.pinned (OpenSpec.ofChange Rows.integerQuotientsSpec) :=
  OpenClaim.holds_of_wide 7 Tryz.f7 rfl rfl rfl rfl rfl rfl rfl ⟨rfl, rfl, rfl, rfl, rfl⟩ rfl rfl rfl rfl rfl (by kernel_rfl) Tryz.func7 (by kernel_rfl)
    (of_decide_eq_true (by kernel_rfl)) (by unfold Func.isWrapper; first | (rw [if_pos (by decide +kernel)]; kernel_rfl) | (rw [if_neg (by decide +kernel)]; exact ⟨rfl, rfl⟩))
    (fun os started H enc _ => lifted os started H enc)
theorem card : Rows.IntegerQuotientsCardSaid :=
  Claim7.holds_tied_plain_at .later [] [.data, .data, .data, .data, .sentinel, .sentinel, .pinned] true (true, "8f30b765037cb7f36d521e85c7b3d15f44d2f8c8747fa73e3d59755b044424b0") true over (fun _ h => by cases h) (by kernel_rfl) (fun _ h => by cases h) integerQuotients_row_tie rfl ⟨rfl, rfl⟩ (by kernel_rfl) rfl
    (fun f fn hf hfn => by
      obtain rfl : f = 7 := Option.some.inj ((show Tryz.prog.funcNamed "gantry/gantrylaw04.IntegerQuotients" = some 7 by kernel_rfl).symm.trans hf) |>.symm
      obtain rfl : fn = Tryz.f7 := (Option.some.inj (Tryz.func7.symm.trans hfn)).symm
      exact ⟨by kernel_rfl, fun j t ht => by
        rw [Tryz.params7] at ht
        have hm : t ∈ [22, 22, 3] := by simpa using Array.mem_of_getElem? ht
        have hall : ([22, 22, 3].all fun u => !Tryz.prog.wantsStandIn u) = true := by kernel_rfl
        exact (show Tryz.prog.wantsStandIn t = false by simpa using List.all_eq_true.1 hall t hm)⟩)
    (by kernel_rfl)
end Go.Proofs.YtecihganhcapoaaGreatDoor.integerQuotients
namespace Go.Proofs.YtecihganhcapoaaGreatDoor
theorem integerQuotients_holds : Rows.IntegerQuotientsCardSaid := integerQuotients.card
end Go.Proofs.YtecihganhcapoaaGreatDoor


