/- Part 11 of the proof: a small machine, its soundness against the model, and what the program's functions compute on it. -/
import Derived.Test.YtecihganhcapoaaGreatDoorM10
import Derived.Test.YtecihganhcapoaaGreatDoorM6
import GoSem.Claims
import Derived.KernelRfl
import Derived.Test.YtecihganhcapoaaGreatDoorM9
import Derived.Test.YtecihganhcapoaaGreatDoorM8
import Derived.Lib.LaidTab
import Derived.LaidMore
import Derived.MakeChecks
import Derived.Test.YtecihganhcapoaaGreatDoorCards
import Derived.Test.YtecihganhcapoaaGreatDoorTie
import Derived.WalkKit
import Derived.ProofKit
import Derived.OpenShut
import Derived.ShutString
import Derived.ChangeOld
import Derived.Below
import Derived.SizedLaws
import Derived.Lay
import Derived.SevenTiedAt
import Derived.Stop.Joined
set_option linter.unusedVariables false
set_option linter.unusedSimpArgs false
/- The library's part of the texts: strings.Trim at digits, integer.Text of numbers that are not negative. -/
namespace Go.AM
open Go Go.Proofs Go.RowKit

def tenD : List UInt8 := [48, 49, 50, 51, 52, 53, 54, 55, 56, 57]
def decF : Nat → Nat → List UInt8
  | 0, _ => []
  | k + 1, u => if u < 10 then [UInt8.ofNat (48 + u)] else decF k (u / 10) ++ [UInt8.ofNat (48 + u % 10)]
theorem decF_eq : ∀ (k u : Nat), u < 10 ^ (k + 1) → Lib.decDigits u = decF (k + 1) u
  | 0, u, h => by
    have h1 : u < 10 := by simpa using h
    rw [Lib.decDigits, decF, dif_pos h1, if_pos h1]
  | k + 1, u, h => by
    rw [Lib.decDigits, decF]
    by_cases h1 : u < 10
    · rw [dif_pos h1, if_pos h1]
    · rw [dif_neg h1, if_neg h1, decF_eq k (u / 10) (by rw [Nat.pow_succ] at h; omega)]
def itoaF (d : Int) : List UInt8 := decF 9 d.toNat
def rep48 : Nat → List UInt8
  | 0 => []
  | n + 1 => 48 :: rep48 n
def restF (l : List Int) : Nat → List UInt8
  | 0 => []
  | j + 1 => rep48 (9 - (itoaF (l.getD j 0)).length) ++ itoaF (l.getD j 0) ++ restF l j
def intsD : List D → Option (List Int)
  | [] => some []
  | .v (.int .i64 d) :: r => (intsD r).map (d :: ·)
  | _ => none
def dig9 (l : List Int) : Bool := l.all fun d => decide (0 ≤ d) && decide (d < 1000000000)
def orc4 (f : Nat) (ds : List D) : Option R :=
  if f = 76 then match ds with
    | [.v (.string s), .v (.string c)] => if c.data.toList = tenD ∧ s.size ≤ 1000000 ∧ s.data.toList.all (tenD.contains ·) = true then some (.d (.v (.string ⟨#[]⟩))) else none
    | _ => none
  else if f = 42 then match ds with
    | [.agg [.v (.bool false), .row (n + 1) cs]] => (intsD cs).bind fun l => if l.length = n + 1 ∧ n ≤ 1000000 ∧ dig9 l = true then some (.d (.v (.string ⟨(itoaF (l.getD n 0) ++ restF l n).toArray⟩))) else none
    | _ => none
  else none

theorem rep48_eq : ∀ n, rep48 n = Lib.repeatL [48] n
  | 0 => rfl
  | n + 1 => by rw [rep48, Lib.repeatL, rep48_eq n]; rfl
theorem itoaF_eq {d : Int} (h : 0 ≤ d ∧ d < 1000000000) : Lib.itoa d = itoaF d := by
  unfold Lib.itoa itoaF
  rw [if_neg (by omega)]
  exact decF_eq 8 _ (by have : (10 : Nat) ^ (8 + 1) = 1000000000 := by decide
                        omega)
theorem dig9_at {l : List Int} (h : dig9 l = true) (i : Nat) : 0 ≤ l.getD i 0 ∧ l.getD i 0 < 1000000000 := by
  by_cases hi : i < l.length
  · have e : l.getD i 0 = l[i] := by rw [List.getD_eq_getElem?_getD, List.getElem?_eq_getElem hi]; rfl
    rw [e]
    have := List.all_eq_true.1 h _ (List.getElem_mem hi)
    simpa using this
  · have e : l.getD i 0 = 0 := by rw [List.getD_eq_getElem?_getD, List.getElem?_eq_none (by omega)]; rfl
    rw [e]; omega
theorem restF_eq {l : List Int} (h : dig9 l = true) : ∀ j, restL (fun i => l.getD i 0) j = restF l j
  | 0 => rfl
  | j + 1 => by
    rw [restL, restF, pad9, restF_eq h j, itoaF_eq (dig9_at h j), rep48_eq]
theorem intsD_rep {S : Nat → Prop} {w : World} : ∀ {cs : List D} {l : List Int} {vs : List Value}, intsD cs = some l → RepL S w cs vs → vs = l.map fun d => Value.int .i64 d
  | [], l, vs, h, hr => by
    cases hr
    simp only [intsD, Option.some.injEq] at h
    subst h; rfl
  | c :: cs, l, vs, h, hr => by
    cases hr with
    | cons _ _ v vs hv ht =>
      unfold intsD at h
      split at h
      · rename_i heq; cases heq
      · rename_i d r heq
        cases heq
        simp only [Option.map_eq_some_iff] at h
        obtain ⟨l', h1, rfl⟩ := h
        rw [intsD_rep h1 ht]
        cases hv; rfl
      · cases h
theorem trim_all {l cs : List UInt8} (h : l.all (cs.contains ·) = true) : Lib.trimS l cs = [] := by
  have h1 : ∀ m : List UInt8, m.all (cs.contains ·) = true → m.dropWhile (cs.contains ·) = [] := by
    intro m
    induction m with
    | nil => intro _; rfl
    | cons a m ih =>
      intro hm
      simp only [List.all_cons, Bool.and_eq_true] at hm
      rw [List.dropWhile_cons, if_pos hm.1, ih hm.2]
  unfold Lib.trimS Lib.trimLeftS Lib.trimRightS
  rw [h1 l.reverse (by rw [List.all_reverse]; exact h)]
  rfl
theorem tab_is {w : World} (h : TabOk w) : Lib.TabIs Tryz.prog w "internal/strconv.uint64pow10" .u64 Lib.pow10Tab := by
  obtain ⟨_, T, fz, hb⟩ := h _ (List.mem_cons_self ..)
  have hg : Tryz.prog.globalNamed "internal/strconv.uint64pow10" = some 2 := by kernel_rfl
  unfold Lib.TabIs World.var?
  rw [hg, Option.bind_some]
  simp only at hb
  rw [hb]
  rfl
theorem orc4_ok : ∀ f ds r, ft f = none → orc4 f ds = some r → CallOk Tryz.prog f ds r := by
  intro f ds r _ h
  unfold orc4 at h
  split at h
  · rename_i hf
    subst hf
    split at h
    · rename_i s c
      split at h
      · rename_i hc
        obtain ⟨h1, h2, h3⟩ := hc
        cases h
        refine ⟨⟨Tryz.f76, Tryz.func76, by kernel_rfl, by decide⟩, fun S w vs hT hrep hlt => ?_⟩
        cases hrep with
        | cons _ _ v1 vs1 r1 t1 =>
        cases t1 with
        | cons _ _ v2 vs2 r2 t2 =>
        cases t2; cases r1; cases r2
        have hcon := Any.strings_Trim_laid Tryz.lays160 (by kernel_rfl) s c w (by omega) (by
          have : c.size = c.data.toList.length := by show c.data.size = _; simp
          rw [this, h1]; decide) (by rw [h1]; exact ascii_of_all (by decide))
        rw [h1, trim_all h3] at hcon
        refine Calls.mono hcon ?_
        rintro e w' ⟨rfl, hb⟩
        exact ⟨_, rfl, hb, RepD.v _⟩
      · cases h
    · cases h
  · split at h
    · rename_i hf
      subst hf
      split at h
      · rename_i n cs
        simp only [Option.bind_eq_some_iff] at h
        obtain ⟨l, hl, h⟩ := h
        split at h
        · rename_i hc
          obtain ⟨h1, h2, h3⟩ := hc
          cases h
          refine ⟨⟨Tryz.f42, Tryz.func42, by kernel_rfl, by decide⟩, fun S w vs hT hrep hlt => ?_⟩
          cases hrep with
          | cons _ _ v1 vs1 r1 t1 =>
          cases t1
          cases r1 with
          | agg _ vs2 h4 =>
          cases h4 with
          | cons _ _ v3 vs3 r3 t3 =>
          cases t3 with
          | cons _ _ v4 vs4 r4 t4 =>
          cases t4; cases r3
          cases r4 with
          | row _ _ ad cap vs5 g1 g2 g3 g4 =>
            have hv := intsD_rep hl g3
            subst hv
            have hw := text_walk (fun i => l.getD i 0) n (itoaF (l.getD n 0) ++ restF l n) (by rw [itoaF_eq (dig9_at h3 n), restF_eq h3]) (by omega) (dig9_at h3) ad cap w (fun i hi => by
              refine g4 i _ ?_
              rw [List.getElem?_map, List.getD_eq_getElem?_getD, List.getElem?_eq_getElem (by omega)]; rfl) (hlt _ g2) (Lib.tabBelow_of_tabIs (tab_is hT))
            refine Calls.mono hw ?_
            rintro e w' ⟨rfl, hb⟩
            exact ⟨_, rfl, hb, RepD.v _⟩
        · cases h
      · cases h
    · cases h
instance its4 : Its := { it := fun _ _ => none, orc := orc4 }
theorem env4 : EnvOk Tryz.prog (@G its4) := @env_okO its4 (fun _ _ _ h => by cases h) orc4_ok
end Go.AM

/- law04.lives, by the kernel. -/
namespace Go.AM
open Go Go.RowKit Go.Proofs
theorem lives4 : callX (@G its4) n_gantrylaw04_lives [] = some (.d (bv true)) := callX_some.2 ⟨60, by kernel_rfl⟩
end Go.AM

namespace Go.AM
theorem nd_ediv2_ {x r : Int} : nd (x / r) ≤ nd x := nd_mono (by
  rcases Int.lt_trichotomy r 0 with h | h | h
  · exact Int.natAbs_ediv_le_natAbs _ _
  · subst h; simp
  · exact Int.natAbs_ediv_le_natAbs _ _)
theorem gcd_pos_ne_ {n d : Int} (hd : d ≠ 0) : 0 < Int.gcd n d := Nat.pos_of_ne_zero fun h => hd (Int.gcd_eq_zero_iff.1 h).2
theorem gcd_one_ {n d : Int} (hd : d ≠ 0) : Int.gcd (n / (Int.gcd n d : Nat)) (d / (Int.gcd n d : Nat)) = 1 := by
  have hg : 0 < Int.gcd n d := gcd_pos_ne_ hd
  rw [Int.gcd_ediv (Int.gcd_dvd_left n d) (Int.gcd_dvd_right n d)]
  simp only [Int.natAbs_natCast]
  exact Nat.div_self hg
theorem nd_emod {x y : Int} (hy : y ≠ 0) : nd (x % y) ≤ nd y := nd_mono (by
  have h1 := Int.emod_nonneg x hy
  have h2 := Int.emod_lt x hy
  omega)
theorem nd_gcd {x y : Int} (hy : y ≠ 0) : nd ((Int.gcd x y : Nat) : Int) ≤ nd y := nd_mono (by
  rw [Int.natAbs_natCast]
  exact Nat.le_of_dvd (by omega) (Int.gcd_dvd_natAbs_right x y))
theorem gcd_emod (x y : Int) : Int.gcd y (x % y) = Int.gcd x y := by
  rw [show x % y = x - y * (x / y) by have := Int.mul_ediv_add_emod x y; omega, Int.gcd_sub_mul_left_right]
  exact Int.gcd_comm _ _
end Go.AM
namespace Go.Proofs.YtecihganhcapoaaGreatDoor.Pure
open Go Go.AM
theorem IntegerDivisors (e0 : D) (l0 : List Int) (hd0 : Dg e0 l0) (hwf0 : ∀ n ∈ l0, (Lit.int .i64 n).wf = true) (hlen0 : l0.length * 8 ≤ 140737488351232) (e1 : D) (l1 : List Int) (hd1 : Dg e1 l1) (hwf1 : ∀ n ∈ l1, (Lit.int .i64 n).wf = true) (hlen1 : l1.length * 8 ≤ 140737488351232) (e2 : D) (l2 : List Int) (hd2 : Dg e2 l2) (hwf2 : ∀ n ∈ l2, (Lit.int .i64 n).wf = true) (hlen2 : l2.length * 8 ≤ 140737488351232) : callX G 9 [e0, e1, e2] = some (.d (bv true)) := by
  obtain ⟨x0, nx0, gx⟩ := Number_spec (at_ := 0) (rw_dg hd0) (fun n hn => i64_wf (hwf0 n hn)) (by omega)
  obtain ⟨y0, ny0, gy⟩ := Number_spec (at_ := 0) (rw_dg hd1) (fun n hn => i64_wf (hwf1 n hn)) (by omega)
  obtain ⟨z, nz, gz⟩ := Number_spec (at_ := 0) (rw_dg hd2) (fun n hn => i64_wf (hwf2 n hn)) (by omega)
  have m1 := rMul_spec (x := x0) (y := z) (by omega) (by omega)
  have m2 := rMul_spec (x := y0) (y := z) (by omega) (by omega)
  have nx : nd (x0 * z) ≤ 16 := Nat.le_trans nd_mul (by omega)
  have ny : nd (y0 * z) ≤ 16 := Nat.le_trans nd_mul (by omega)
  generalize x0 * z = x at *
  generalize y0 * z = y at *
  have kl := lives4
  have s1 := Sign_spec y
  have cs := sgn_lt (a := y)
  have ce := sgn_eq (a := y)
  by_cases hy : y = 0
  · subst hy
    have d0 : callX G n_integer_Div [encI x, encI 0] = some (.d (.tup [encI 0, encI 0])) := Div_zero x
    rw [Int.sign_zero] at s1
    have q1 : ((0 : Int) == 0) = true := rfl
    have q2 : decide ((0 : Int) < 0) = false := rfl
    rw [callX_eq (cf := gantrylaw04_IntegerDivisors) rfl]
    simp only [iv, bv] at gx gy gz s1 kl
    simp -implicitDefEqProofs (maxSteps := 10000000) only [gantrylaw04_IntegerDivisors, bI, gx, gy, gz, m1, m2, d0, s1, q1, q2, kl, go_sem, reduceCtorEq, ↓reduceIte, Nat.reduceEqDiff, iv, bv]
  have d1 := Div_spec (x := x) (y := y) hy (by omega) (by omega)
  have nq := nd_ediv2_ (x := x) (r := y)
  have nr := nd_emod (x := x) hy
  have hqr := Int.mul_ediv_add_emod x y
  have hr0 := Int.emod_nonneg x hy
  have hr1 := Int.emod_lt x hy
  have hg0 : 0 < Int.gcd x y := gcd_pos_ne_ hy
  have gd1 := Gcd_spec (x := x) (y := y) (by omega) (by omega)
  have gd2 := Gcd_spec (x := y) (y := x % y) (by omega) (by omega)
  rw [gcd_emod] at gd2
  have ngc := nd_gcd (x := x) hy
  have e1 := Int.emod_eq_zero_of_dvd (Int.gcd_dvd_left x y)
  have e2 := Int.emod_eq_zero_of_dvd (Int.gcd_dvd_right x y)
  have dd1 := Div_spec (x := x) (y := (Int.gcd x y : Nat)) (by omega) (by omega) (by omega)
  have dd2 := Div_spec (x := y) (y := (Int.gcd x y : Nat)) (by omega) (by omega) (by omega)
  rw [e1] at dd1
  rw [e2] at dd2
  have na := nd_ediv2_ (x := x) (r := (Int.gcd x y : Nat))
  have nb := nd_ediv2_ (x := y) (r := (Int.gcd x y : Nat))
  have gd3 := Gcd_spec (x := x / (Int.gcd x y : Nat)) (y := y / (Int.gcd x y : Nat)) (by omega) (by omega)
  rw [gcd_one_ hy] at gd3
  have o1 := Of_spec (n := 1) ⟨by omega, by omega⟩
  have k2 := sm4 (x := 1) rfl (Nat.le_trans (nd_i64 ⟨by omega, by omega⟩) (by omega))
  have k3 := sm4 (x := ((Int.gcd x y : Nat) : Int)) rfl (by omega)
  have sg := Sign_spec ((Int.gcd x y : Nat) : Int)
  rw [Int.sign_eq_one_of_pos (by omega)] at sg
  have sz := Sign_spec 0
  rw [Int.sign_zero] at sz
  have mq := Mul_spec (x := x / y) (y := y) (by omega) (by omega)
  have aq := Add_spec (x := x / y * y) (y := x % y) (Nat.le_trans nd_mul (by omega)) (by omega)
  rw [Int.ediv_mul_add_emod] at aq
  have k1 := sm4 (x := x) rfl (by omega)
  have sr := Sign_spec (x % y)
  have cr := sgn_lt (a := x % y)
  rw [show decide (x % y < 0) = false from decide_eq_false (by omega)] at cr
  have nsz : nd ((y.natAbs : Nat) : Int) ≤ 16 := by rw [nd, Int.natAbs_natCast]; exact ny
  have cc := Compare_spec (x := x % y) (y := ((y.natAbs : Nat) : Int)) (by omega) (by omega)
  have cg := sgn_ge (a := x % y - ((y.natAbs : Nat) : Int))
  rw [show decide (0 ≤ x % y - ((y.natAbs : Nat) : Int)) = false from decide_eq_false (by omega)] at cg
  have z1 : ((Int.gcd x y : Nat) : Int) = ((Int.gcd x y : Nat) : Int) := rfl
  rw [show decide (y = 0) = false from decide_eq_false hy] at ce
  have q1 : ((0 : Int) == 0) = true := rfl
  have q3 : decide ((1 : Int) > 0) = true := rfl
  have o1' : ((1 : Nat) : Int) = 1 := rfl
  rw [o1'] at gd3
  generalize x / (Int.gcd x y : Nat) = A at *
  generalize y / (Int.gcd x y : Nat) = B at *
  generalize ((Int.gcd x y : Nat) : Int) = gg at *
  clear hqr hr0 hr1
  generalize x / y = q at *
  generalize x % y = r at *
  generalize q * y = qy at *
  generalize Int.sign (r - ((y.natAbs : Nat) : Int)) = S1 at *
  generalize Int.sign r = S2 at *
  by_cases hs : y < 0
  · rw [show decide (y < 0) = true from decide_eq_true hs] at cs
    have ng := Neg_spec y
    rw [show -y = ((y.natAbs : Nat) : Int) by omega] at ng
    generalize ((y.natAbs : Nat) : Int) = ya at *
    generalize Int.sign y = S3 at *
    rw [callX_eq (cf := gantrylaw04_IntegerDivisors) rfl]
    simp only [iv, bv] at gx gy gz s1 sr sg sz o1 k1 k2 k3 cc kl
    simp -implicitDefEqProofs (maxSteps := 10000000) only [gantrylaw04_IntegerDivisors, bI, gx, gy, gz, m1, m2, d1, s1, cs, ce, ng, mq, aq, k1, sr, cr, cc, cg, gd1, gd2, gd3, dd1, dd2, sg, sz, o1, k2, k3, q1, q3, kl, go_sem, reduceCtorEq, ↓reduceIte, Nat.reduceEqDiff, iv, bv]
  · rw [show decide (y < 0) = false from decide_eq_false hs] at cs
    have hya : ((y.natAbs : Nat) : Int) = y := by omega
    rw [hya] at cc
    generalize ((y.natAbs : Nat) : Int) = ya at *
    generalize Int.sign y = S3 at *
    rw [callX_eq (cf := gantrylaw04_IntegerDivisors) rfl]
    simp only [iv, bv] at gx gy gz s1 sr sg sz o1 k1 k2 k3 cc kl
    simp -implicitDefEqProofs (maxSteps := 10000000) only [gantrylaw04_IntegerDivisors, bI, gx, gy, gz, m1, m2, d1, s1, cs, ce, mq, aq, k1, sr, cr, cc, cg, gd1, gd2, gd3, dd1, dd2, sg, sz, o1, k2, k3, q1, q3, kl, go_sem, reduceCtorEq, ↓reduceIte, Nat.reduceEqDiff, iv, bv]
end Go.Proofs.YtecihganhcapoaaGreatDoor.Pure

/- The table that the rows list, as the machine asks for it. -/
namespace Go.AM
open Go Go.Proofs Go.RowKit

theorem laidVars_get {P : Program} {w : World} {n : String} {d : DataW Unit} : ∀ {l : List (String × DataW Unit)} {ps : List MemPlace}, DataW.LaidVars P w l ps → (n, d) ∈ l →
    ∃ g t cs fuel p, P.globalNamed n = some g ∧ (P.globals[g]?).map (·.type) = some t ∧ w.var? P n = some cs ∧ DataW.trod (fun _ => ()) P w 0 (fun _ => true) false fuel t cs.toList = some (d, p)
  | [], _, _, h => by cases h
  | (m, e) :: r, ps, hL, h => by
    obtain ⟨g, t, cs, fuel, p, q, h1, h2, h3, h4, h5, _⟩ := hL
    rcases List.mem_cons.1 h with h' | h'
    · cases h'
      exact ⟨g, t, cs, fuel, p, h1, h2, h3, h4⟩
    · exact laidVars_get h5 h'
def chkT (P : Program) (g : Nat) : Bool :=
  match (P.globals[g]?).map (·.type) with
  | some t => (match P.underlying t with
    | some (.array 20 e) => (match P.underlying e with
      | some (.int .u64) => P.cellsOf e == 1 && P.cellsOf t == 20
      | _ => false)
    | _ => false)
  | none => false
theorem chkT_ok {P : Program} {g : Nat} (h : chkT P g = true) : ∃ t', (P.globals[g]?).map (·.type) = some t' ∧ ∃ e, P.underlying t' = some (.array 20 e) ∧ P.underlying e = some (.int .u64) ∧ P.cellsOf e = 1 ∧ P.cellsOf t' = 20 := by
  unfold chkT at h
  split at h
  · rename_i t ht
    split at h
    · rename_i e he
      split at h
      · rename_i hk
        simp only [Bool.and_eq_true, beq_iff_eq] at h
        exact ⟨t, ht, e, he, hk, h.1, h.2⟩
      · cases h
    · cases h
  · cases h
def tabDat : DataW Unit := Lib.tabData .u64 Lib.pow10Tab
theorem tabOk_laid {l : List (String × DataW Unit)} {w : World} (hL : laidMet Tryz.prog l w) (hm : ("internal/strconv.uint64pow10", tabDat) ∈ l) : TabOk w := by
  obtain ⟨ps, h, _⟩ := hL
  obtain ⟨g, t, cs, fuel, p, h1, h2, h3, h4⟩ := laidVars_get h hm
  have hg : Tryz.prog.globalNamed "internal/strconv.uint64pow10" = some 2 := by kernel_rfl
  obtain rfl : g = 2 := Option.some.inj (h1.symm.trans hg)
  have ht := chkT_ok (P := Tryz.prog) (g := 2) (by kernel_rfl)
  obtain ⟨t', ht, e, k1, k2, k3, k4⟩ := ht
  obtain rfl := Option.some.inj (ht.symm.trans h2)
  have hc := Lib.cells_of_tab k1 k2 k3 k4 h4
  unfold World.var? at h3
  rw [h1, Option.bind_some] at h3
  intro x hx
  have hx' : x = (2, (Lib.pow10Tab.map fun z => Value.int .u64 z).toArray) := by
    have : tabs = [(2, (Lib.pow10Tab.map fun z => Value.int .u64 z).toArray)] := by kernel_rfl
    rw [this] at hx
    exact List.mem_singleton.1 hx
  subst hx'
  cases ho : w.heap[2]? with
  | none => rw [ho] at h3; cases h3
  | some o =>
    rw [ho] at h3
    cases o with
    | cells cs' T fz =>
      simp only [Option.some.injEq] at h3
      subst h3
      refine ⟨(Array.getElem?_eq_some_iff.1 ho).1, T, fz, ?_⟩
      show some (Go.Obj.cells cs' T fz) = some (Go.Obj.cells (Lib.pow10Tab.map fun z => Value.int .u64 z).toArray T fz)
      rw [← hc]
    | _ => cases h3
end Go.AM

/- The row of IntegerDivisors, out of its Pure. Printed by row.py. -/
namespace Go.Proofs.YtecihganhcapoaaGreatDoor.integerDivisors
open Go.ChangeShapes Go.WideShapes Go.ChangeAt Go.RowKit Go.AM
theorem own : ownKnob Tryz.prog.godebug = none := by kernel_rfl
theorem laidOut : laidOutB Tryz.prog = true := by kernel_rfl
set_option maxRecDepth 100000 in
theorem lifted (os : Os) (started : os.Started) (H : Type) (enc : TypeId × Value → H) :
    ReturnsInHanded {} Tryz.checked os 9 .any (fun w args => (Rows.integerDivisorsSpec.pre enc Tryz.prog Tryz.f9 Rows.integerDivisorsRow.domain false w args ∧ laidMetH Tryz.prog Rows.integerDivisorsRow.laid w) ∧ sizedMet enc Tryz.prog Tryz.f9 (OpenSpec.ofChange Rows.integerDivisorsSpec) false w args)
      (Rows.integerDivisorsSpec.post enc Tryz.prog Tryz.f9 false true false false) := by
  refine returnsInHanded_of_change_and (C := Tryz.checked) (X := fun w _ => laidMetH Tryz.prog Rows.integerDivisorsRow.laid w) (fun _ _ _ hh h => h.of_heap hh) own started (by kernel_rfl) Tryz.func9
    (ChangeSpec.witness_shaped (enc := enc) (C := Tryz.checked) (os := os) (X := fun w _ => laidMetH Tryz.prog Rows.integerDivisorsRow.laid w) false (World.laidAll Tryz.prog os Rows.integerDivisorsRow.laid) #[.slice none 0 0, .slice none 0 0, .slice none 0 0] 8 (World.laidAll_os _ _ _)
      (World.shaped_of_ZipB (by kernel_rfl) (by kernel_rfl)) (by kernel_rfl) (by kernel_rfl) (by kernel_rfl)
      (by rw [MakeChecks.laidMetH_plain _ _ _ (by kernel_rfl)]; exact laidMet_laidAll _ (by kernel_rfl) (by kernel_rfl))) ?_
  intro W base args ds gs before hval0 hW hcnd hsz0 hL _
  have hsz : (DataW.weightsEach Tryz.prog (Tryz.f9.params.toList ++ Rows.integerDivisorsSpec.plain.varTypes Tryz.prog) (ds ++ gs)).all (· ≤ reachBytes) = true := hsz0
  have hval : ∀ (j : Nat) t v, Tryz.f9.params[j]? = some t → args[j]? = some v → Value.okWide Tryz.prog W .any base t v := hval0
  have hW' := hW
  obtain ⟨p, q, hA0, hV, rfl, hfz, hnd⟩ := hW
  have hA : DataW.TrodAll enc Tryz.prog W 0 (fun _ => true) true Tryz.f9.params.toList args.toList ds p := hA0
  rw [Tryz.params9] at hA hval hsz
  obtain ⟨v0, vs0, d0, ds0, p0, q0, hargs, rfl, rfl, h0, r0⟩ := trodAll_cons hA
  obtain ⟨v1, vs1, d1, ds1, p1, q1, rfl, rfl, rfl, h1, r1⟩ := trodAll_cons r0
  obtain ⟨v2, vs2, d2, ds2, p2, q2, rfl, rfl, rfl, h2, r2⟩ := trodAll_cons r1
  obtain ⟨rfl, rfl, rfl⟩ := trodAll_nil r2
  obtain rfl : args = #[v0, v1, v2] := by cases args; simp_all
  obtain ⟨rfl, rfl⟩ := trodVars_none hV
  obtain ⟨a0, len0, cap0, rfl⟩ := okWide_slice Tryz.underlying22 (hval 0 22 v0 rfl rfl)
  have k0 := h0
  have lt0 : ∀ x ∈ p0, x.block < W.heap.size := by obtain ⟨m, hm⟩ := k0; exact DataW.trod_lt m _ _ _ hm
  obtain ⟨z0, w0, y0⟩ : ∃ zs, ((a0 = none ∧ len0 = 0 ∧ cap0 = 0 ∧ zs = []) ∨ ∃ x, a0 = some x ∧ len0 ≤ cap0 ∧ cap0 ≤ maxLen ∧ zs.length = cap0 ∧ (∀ i, i < zs.length → W.cell? (x.add i) = some (.int .i64 (zs.getD i 0))) ∧ ∀ n ∈ zs, (Lit.int .i64 n).wf = true) ∧ len0 * 8 ≤ 140737488351232 := by
    obtain ⟨fuel, hf⟩ := h0
    rcases open_ints Tryz.underlying22 Tryz.underlying3 (by kernel_rfl) hf with ⟨hcs, _⟩ | ⟨x, l, c, zs, hcs, _, hl, hm, hz, hx, hcell, hwz⟩
    · simp [Value.cells] at hcs
      obtain ⟨rfl, rfl, rfl⟩ := hcs
      exact ⟨[], .inl ⟨rfl, rfl, rfl, rfl⟩, by simp⟩
    · simp [Value.cells] at hcs
      obtain ⟨rfl, rfl, rfl⟩ := hcs
      refine ⟨zs, .inr ⟨_, rfl, hl, hm, by simpa using hz, hcell, hwz⟩, ?_⟩
      simp only [Prod.mk.injEq] at hx
      have hd := hx.1
      have z := sized_slice hsz (j := 0) (t := 22) rfl (by rw [hd]; rfl) Tryz.underlying22
      have hb : Tryz.prog.bytesOf 3 = 8 := by kernel_rfl
      rw [hb] at z
      have hr : reachBytes ≤ 140737488351232 := by decide
      have hz' : zs.length = cap0 := by simpa using hz
      simp only [lits, List.length_map, List.length_take, List.length_drop] at z
      omega
  obtain ⟨e0, l0, hd0, hrep0, hlen0, hwf0⟩ := arg_row w0
  obtain ⟨a1, len1, cap1, rfl⟩ := okWide_slice Tryz.underlying22 (hval 1 22 v1 rfl rfl)
  have k1 := h1
  have lt1 : ∀ x ∈ p1, x.block < W.heap.size := by obtain ⟨m, hm⟩ := k1; exact DataW.trod_lt m _ _ _ hm
  obtain ⟨z1, w1, y1⟩ : ∃ zs, ((a1 = none ∧ len1 = 0 ∧ cap1 = 0 ∧ zs = []) ∨ ∃ x, a1 = some x ∧ len1 ≤ cap1 ∧ cap1 ≤ maxLen ∧ zs.length = cap1 ∧ (∀ i, i < zs.length → W.cell? (x.add i) = some (.int .i64 (zs.getD i 0))) ∧ ∀ n ∈ zs, (Lit.int .i64 n).wf = true) ∧ len1 * 8 ≤ 140737488351232 := by
    obtain ⟨fuel, hf⟩ := h1
    rcases open_ints Tryz.underlying22 Tryz.underlying3 (by kernel_rfl) hf with ⟨hcs, _⟩ | ⟨x, l, c, zs, hcs, _, hl, hm, hz, hx, hcell, hwz⟩
    · simp [Value.cells] at hcs
      obtain ⟨rfl, rfl, rfl⟩ := hcs
      exact ⟨[], .inl ⟨rfl, rfl, rfl, rfl⟩, by simp⟩
    · simp [Value.cells] at hcs
      obtain ⟨rfl, rfl, rfl⟩ := hcs
      refine ⟨zs, .inr ⟨_, rfl, hl, hm, by simpa using hz, hcell, hwz⟩, ?_⟩
      simp only [Prod.mk.injEq] at hx
      have hd := hx.1
      have z := sized_slice hsz (j := 1) (t := 22) rfl (by rw [hd]; rfl) Tryz.underlying22
      have hb : Tryz.prog.bytesOf 3 = 8 := by kernel_rfl
      rw [hb] at z
      have hr : reachBytes ≤ 140737488351232 := by decide
      have hz' : zs.length = cap1 := by simpa using hz
      simp only [lits, List.length_map, List.length_take, List.length_drop] at z
      omega
  obtain ⟨e1, l1, hd1, hrep1, hlen1, hwf1⟩ := arg_row w1
  obtain ⟨a2, len2, cap2, rfl⟩ := okWide_slice Tryz.underlying22 (hval 2 22 v2 rfl rfl)
  have k2 := h2
  have lt2 : ∀ x ∈ p2, x.block < W.heap.size := by obtain ⟨m, hm⟩ := k2; exact DataW.trod_lt m _ _ _ hm
  obtain ⟨z2, w2, y2⟩ : ∃ zs, ((a2 = none ∧ len2 = 0 ∧ cap2 = 0 ∧ zs = []) ∨ ∃ x, a2 = some x ∧ len2 ≤ cap2 ∧ cap2 ≤ maxLen ∧ zs.length = cap2 ∧ (∀ i, i < zs.length → W.cell? (x.add i) = some (.int .i64 (zs.getD i 0))) ∧ ∀ n ∈ zs, (Lit.int .i64 n).wf = true) ∧ len2 * 8 ≤ 140737488351232 := by
    obtain ⟨fuel, hf⟩ := h2
    rcases open_ints Tryz.underlying22 Tryz.underlying3 (by kernel_rfl) hf with ⟨hcs, _⟩ | ⟨x, l, c, zs, hcs, _, hl, hm, hz, hx, hcell, hwz⟩
    · simp [Value.cells] at hcs
      obtain ⟨rfl, rfl, rfl⟩ := hcs
      exact ⟨[], .inl ⟨rfl, rfl, rfl, rfl⟩, by simp⟩
    · simp [Value.cells] at hcs
      obtain ⟨rfl, rfl, rfl⟩ := hcs
      refine ⟨zs, .inr ⟨_, rfl, hl, hm, by simpa using hz, hcell, hwz⟩, ?_⟩
      simp only [Prod.mk.injEq] at hx
      have hd := hx.1
      have z := sized_slice hsz (j := 2) (t := 22) rfl (by rw [hd]; rfl) Tryz.underlying22
      have hb : Tryz.prog.bytesOf 3 = 8 := by kernel_rfl
      rw [hb] at z
      have hr : reachBytes ≤ 140737488351232 := by decide
      have hz' : zs.length = cap2 := by simpa using hz
      simp only [lits, List.length_map, List.length_take, List.length_drop] at z
      omega
  obtain ⟨e2, l2, hd2, hrep2, hlen2, hwf2⟩ := arg_row w2
  clear hA0 hval0 hsz0 hsz
  refine (law_walk env4 (f := 9) (ds := [e0, e1, e2]) (vs := [.slice a0 len0 cap0, .slice a1 len1 cap1, .slice a2 len2 cap2]) (w := W) (tabOk_laid (by rw [← MakeChecks.laidMetH_plain _ _ _ (by kernel_rfl)]; exact hL) (List.mem_of_getElem? (i := 2) (by kernel_rfl))) (RepL.cons _ _ _ _ hrep0 (RepL.cons _ _ _ _ hrep1 (RepL.cons _ _ _ _ hrep2 RepL.nil))) (Pure.IntegerDivisors e0 l0 hd0 hwf0 (by rw [hlen0]; exact y0) e1 l1 hd1 hwf1 (by rw [hlen1]; exact y1) e2 l2 hd2 hwf2 (by rw [hlen2]; exact y2))).mono fun e W' ⟨he, bel⟩ => ?_
  subst he
  exact ⟨_, rfl, _, _, _, [], _, [], hW', trodAll_mk1 (shut_bool Tryz.underlying4 _), (trodAll_cons_mk (Below.trod laidOut (by kernel_rfl) (of_decide_eq_true (by kernel_rfl)) k0 bel lt0) (trodAll_cons_mk (Below.trod laidOut (by kernel_rfl) (of_decide_eq_true (by kernel_rfl)) k1 bel lt1) (trodAll_cons_mk (Below.trod laidOut (by kernel_rfl) (of_decide_eq_true (by kernel_rfl)) k2 bel lt2) trodAll_mk0))), rfl, bel.frame _, fun h => by cases h⟩
theorem over : Rows.integerDivisorsRow.holds Tryz.pinned (OpenSpec.ofChange Rows.integerDivisorsSpec) :=
  OpenClaim.holds_of_wide 9 Tryz.f9 rfl rfl rfl rfl rfl rfl rfl ⟨rfl, rfl, rfl, rfl, rfl⟩ rfl rfl rfl rfl rfl (by kernel_rfl) Tryz.func9 (by kernel_rfl)
    (of_decide_eq_true (by kernel_rfl)) (by unfold Func.isWrapper; first | (rw [if_pos (by decide +kernel)]; kernel_rfl) | (rw [if_neg (by decide +kernel)]; exact ⟨rfl, rfl⟩))
    (fun os started H enc _ => lifted os started H enc)
theorem card : Rows.IntegerDivisorsCardSaid :=
  Claim7.holds_tied_plain_at .later [] [.data, .data, .data, .data, .sentinel, .sentinel, .pinned] true (true, "8f30b765037cb7f36d521e85c7b3d15f44d2f8c8747fa73e3d59755b044424b0") true over (fun _ h => by cases h) (by kernel_rfl) (fun _ h => by cases h) integerDivisors_row_tie rfl ⟨rfl, rfl⟩ (by kernel_rfl) rfl
    (fun f fn hf hfn => by
      obtain rfl : f = 9 := Option.some.inj ((show Tryz.prog.funcNamed "gantry/gantrylaw04.IntegerDivisors" = some 9 by kernel_rfl).symm.trans hf) |>.symm
      obtain rfl : fn = Tryz.f9 := (Option.some.inj (Tryz.func9.symm.trans hfn)).symm
      exact ⟨by kernel_rfl, fun j t ht => by
        rw [Tryz.params9] at ht
        have hm : t ∈ [22, 22, 22] := by simpa using Array.mem_of_getElem? ht
        have hall : ([22, 22, 22].all fun u => !Tryz.prog.wantsStandIn u) = true := by kernel_rfl
        exact (show Tryz.prog.wantsStandIn t = false by simpa using List.all_eq_true.1 hall t hm)⟩)
    (by kernel_rfl)
end Go.Proofs.YtecihganhcapoaaGreatDoor.integerDivisors
namespace Go.Proofs.YtecihganhcapoaaGreatDoor
theorem integerDivisors_holds : Rows.IntegerDivisorsCardSaid := integerDivisors.card
end Go.Proofs.YtecihganhcapoaaGreatDoor


