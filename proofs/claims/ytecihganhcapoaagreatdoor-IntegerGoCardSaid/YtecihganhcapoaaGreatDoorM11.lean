/- Part 11 of the proof: a small machine, its soundness against the model, and what the program's functions compute on it. -/
import Derived.Test.YtecihganhcapoaaGreatDoorM10
import Derived.Test.YtecihganhcapoaaGreatDoorM6
import GoSem.Claims
import Derived.KernelRfl
import Derived.Test.YtecihganhcapoaaGreatDoorM9
import Derived.Test.YtecihganhcapoaaGreatDoorM8
import Derived.Lib.LaidTab
import Derived.LaidMore
import Derived.MakeChecks
import Derived.Test.YtecihganhcapoaaGreatDoorCards
import Derived.Test.YtecihganhcapoaaGreatDoorTie
import Derived.WalkKit
import Derived.ProofKit
import Derived.OpenShut
import Derived.ShutString
import Derived.ChangeOld
import Derived.Below
import Derived.SizedLaws
import Derived.Lay
import Derived.SevenTiedAt
import Derived.Stop.Joined
set_option linter.unusedVariables false
set_option linter.unusedSimpArgs false
/- The library's part of the texts: strings.Trim at digits, integer.Text of numbers that are not negative. -/
namespace Go.AM
open Go Go.Proofs Go.RowKit

def tenD : List UInt8 := [48, 49, 50, 51, 52, 53, 54, 55, 56, 57]
def decF : Nat → Nat → List UInt8
  | 0, _ => []
  | k + 1, u => if u < 10 then [UInt8.ofNat (48 + u)] else decF k (u / 10) ++ [UInt8.ofNat (48 + u % 10)]
theorem decF_eq : ∀ (k u : Nat), u < 10 ^ (k + 1) → Lib.decDigits u = decF (k + 1) u
  | 0, u, h => by
    have h1 : u < 10 := by simpa using h
    rw [Lib.decDigits, decF, dif_pos h1, if_pos h1]
  | k + 1, u, h => by
    rw [Lib.decDigits, decF]
    by_cases h1 : u < 10
    · rw [dif_pos h1, if_pos h1]
    · rw [dif_neg h1, if_neg h1, decF_eq k (u / 10) (by rw [Nat.pow_succ] at h; omega)]
def itoaF (d : Int) : List UInt8 := decF 9 d.toNat
def rep48 : Nat → List UInt8
  | 0 => []
  | n + 1 => 48 :: rep48 n
def restF (l : List Int) : Nat → List UInt8
  | 0 => []
  | j + 1 => rep48 (9 - (itoaF (l.getD j 0)).length) ++ itoaF (l.getD j 0) ++ restF l j
def intsD : List D → Option (List Int)
  | [] => some []
  | .v (.int .i64 d) :: r => (intsD r).map (d :: ·)
  | _ => none
def dig9 (l : List Int) : Bool := l.all fun d => decide (0 ≤ d) && decide (d < 1000000000)
def orc4 (f : Nat) (ds : List D) : Option R :=
  if f = 76 then match ds with
    | [.v (.string s), .v (.string c)] => if c.data.toList = tenD ∧ s.size ≤ 1000000 ∧ s.data.toList.all (tenD.contains ·) = true then some (.d (.v (.string ⟨#[]⟩))) else none
    | _ => none
  else if f = 42 then match ds with
    | [.agg [.v (.bool false), .row (n + 1) cs]] => (intsD cs).bind fun l => if l.length = n + 1 ∧ n ≤ 1000000 ∧ dig9 l = true then some (.d (.v (.string ⟨(itoaF (l.getD n 0) ++ restF l n).toArray⟩))) else none
    | _ => none
  else none

theorem rep48_eq : ∀ n, rep48 n = Lib.repeatL [48] n
  | 0 => rfl
  | n + 1 => by rw [rep48, Lib.repeatL, rep48_eq n]; rfl
theorem itoaF_eq {d : Int} (h : 0 ≤ d ∧ d < 1000000000) : Lib.itoa d = itoaF d := by
  unfold Lib.itoa itoaF
  rw [if_neg (by omega)]
  exact decF_eq 8 _ (by have : (10 : Nat) ^ (8 + 1) = 1000000000 := by decide
                        omega)
theorem dig9_at {l : List Int} (h : dig9 l = true) (i : Nat) : 0 ≤ l.getD i 0 ∧ l.getD i 0 < 1000000000 := by
  by_cases hi : i < l.length
  · have e : l.getD i 0 = l[i] := by rw [List.getD_eq_getElem?_getD, List.getElem?_eq_getElem hi]; rfl
    rw [e]
    have := List.all_eq_true.1 h _ (List.getElem_mem hi)
    simpa using this
  · have e : l.getD i 0 = 0 := by rw [List.getD_eq_getElem?_getD, List.getElem?_eq_none (by omega)]; rfl
    rw [e]; omega
theorem restF_eq {l : List Int} (h : dig9 l = true) : ∀ j, restL (fun i => l.getD i 0) j = restF l j
  | 0 => rfl
  | j + 1 => by
    rw [restL, restF, pad9, restF_eq h j, itoaF_eq (dig9_at h j), rep48_eq]
theorem intsD_rep {S : Nat → Prop} {w : World} : ∀ {cs : List D} {l : List Int} {vs : List Value}, intsD cs = some l → RepL S w cs vs → vs = l.map fun d => Value.int .i64 d
  | [], l, vs, h, hr => by
    cases hr
    simp only [intsD, Option.some.injEq] at h
    subst h; rfl
  | c :: cs, l, vs, h, hr => by
    cases hr with
    | cons _ _ v vs hv ht =>
      unfold intsD at h
      split at h
      · rename_i heq; cases heq
      · rename_i d r heq
        cases heq
        simp only [Option.map_eq_some_iff] at h
        obtain ⟨l', h1, rfl⟩ := h
        rw [intsD_rep h1 ht]
        cases hv; rfl
      · cases h
theorem trim_all {l cs : List UInt8} (h : l.all (cs.contains ·) = true) : Lib.trimS l cs = [] := by
  have h1 : ∀ m : List UInt8, m.all (cs.contains ·) = true → m.dropWhile (cs.contains ·) = [] := by
    intro m
    induction m with
    | nil => intro _; rfl
    | cons a m ih =>
      intro hm
      simp only [List.all_cons, Bool.and_eq_true] at hm
      rw [List.dropWhile_cons, if_pos hm.1, ih hm.2]
  unfold Lib.trimS Lib.trimLeftS Lib.trimRightS
  rw [h1 l.reverse (by rw [List.all_reverse]; exact h)]
  rfl
theorem tab_is {w : World} (h : TabOk w) : Lib.TabIs Tryz.prog w "internal/strconv.uint64pow10" .u64 Lib.pow10Tab := by
  obtain ⟨_, T, fz, hb⟩ := h _ (List.mem_cons_self ..)
  have hg : Tryz.prog.globalNamed "internal/strconv.uint64pow10" = some 2 := by kernel_rfl
  unfold Lib.TabIs World.var?
  rw [hg, Option.bind_some]
  simp only at hb
  rw [hb]
  rfl
theorem orc4_ok : ∀ f ds r, ft f = none → orc4 f ds = some r → CallOk Tryz.prog f ds r := by
  intro f ds r _ h
  unfold orc4 at h
  split at h
  · rename_i hf
    subst hf
    split at h
    · rename_i s c
      split at h
      · rename_i hc
        obtain ⟨h1, h2, h3⟩ := hc
        cases h
        refine ⟨⟨Tryz.f76, Tryz.func76, by kernel_rfl, by decide⟩, fun S w vs hT hrep hlt => ?_⟩
        cases hrep with
        | cons _ _ v1 vs1 r1 t1 =>
        cases t1 with
        | cons _ _ v2 vs2 r2 t2 =>
        cases t2; cases r1; cases r2
        have hcon := Any.strings_Trim_laid Tryz.lays160 (by kernel_rfl) s c w (by omega) (by
          have : c.size = c.data.toList.length := by show c.data.size = _; simp
          rw [this, h1]; decide) (by rw [h1]; exact ascii_of_all (by decide))
        rw [h1, trim_all h3] at hcon
        refine Calls.mono hcon ?_
        rintro e w' ⟨rfl, hb⟩
        exact ⟨_, rfl, hb, RepD.v _⟩
      · cases h
    · cases h
  · split at h
    · rename_i hf
      subst hf
      split at h
      · rename_i n cs
        simp only [Option.bind_eq_some_iff] at h
        obtain ⟨l, hl, h⟩ := h
        split at h
        · rename_i hc
          obtain ⟨h1, h2, h3⟩ := hc
          cases h
          refine ⟨⟨Tryz.f42, Tryz.func42, by kernel_rfl, by decide⟩, fun S w vs hT hrep hlt => ?_⟩
          cases hrep with
          | cons _ _ v1 vs1 r1 t1 =>
          cases t1
          cases r1 with
          | agg _ vs2 h4 =>
          cases h4 with
          | cons _ _ v3 vs3 r3 t3 =>
          cases t3 with
          | cons _ _ v4 vs4 r4 t4 =>
          cases t4; cases r3
          cases r4 with
          | row _ _ ad cap vs5 g1 g2 g3 g4 =>
            have hv := intsD_rep hl g3
            subst hv
            have hw := text_walk (fun i => l.getD i 0) n (itoaF (l.getD n 0) ++ restF l n) (by rw [itoaF_eq (dig9_at h3 n), restF_eq h3]) (by omega) (dig9_at h3) ad cap w (fun i hi => by
              refine g4 i _ ?_
              rw [List.getElem?_map, List.getD_eq_getElem?_getD, List.getElem?_eq_getElem (by omega)]; rfl) (hlt _ g2) (Lib.tabBelow_of_tabIs (tab_is hT))
            refine Calls.mono hw ?_
            rintro e w' ⟨rfl, hb⟩
            exact ⟨_, rfl, hb, RepD.v _⟩
        · cases h
      · cases h
    · cases h
instance its4 : Its := { it := fun _ _ => none, orc := orc4 }
theorem env4 : EnvOk Tryz.prog (@G its4) := @env_okO its4 (fun _ _ _ h => by cases h) orc4_ok
end Go.AM

/- law04.lives, by the kernel. -/
namespace Go.AM
open Go Go.RowKit Go.Proofs
theorem lives4 : callX (@G its4) n_gantrylaw04_lives [] = some (.d (bv true)) := callX_some.2 ⟨60, by kernel_rfl⟩
end Go.AM

namespace Go.Proofs.YtecihganhcapoaaGreatDoor.Pure
open Go Go.AM
theorem IntegerGo (a0 : Int) (w0 : (Lit.int .i64 a0).wf = true) (a1 : Int) (w1 : (Lit.int .i64 a1).wf = true) (a2 : Int) (w2 : (Lit.int .i64 a2).wf = true) : callX G 6 [iv a0, iv a1, iv a2] = some (.d (bv true)) := by
  have i0 := i64_wf w0
  have i1 := i64_wf w1
  have i2 := i64_wf w2
  have t31 : ((2147483648 : Int) = 0) = False := by simp
  obtain ⟨m, hm⟩ : ∃ m, a0.tmod 2147483648 = m := ⟨_, rfl⟩
  obtain ⟨n, hn⟩ : ∃ n, a1.tmod 2147483648 = n := ⟨_, rfl⟩
  have bm : -2147483648 < m ∧ m < 2147483648 := by
    have h1 := Int.tmod_lt_of_pos a0 (show (0 : Int) < 2147483648 by omega)
    have h2 := Int.lt_tmod_of_pos a0 (show (0 : Int) < 2147483648 by omega)
    omega
  have bn : -2147483648 < n ∧ n < 2147483648 := by
    have h1 := Int.tmod_lt_of_pos a1 (show (0 : Int) < 2147483648 by omega)
    have h2 := Int.lt_tmod_of_pos a1 (show (0 : Int) < 2147483648 by omega)
    omega
  have bmn : -4611686018427387904 ≤ m * n ∧ m * n ≤ 4611686018427387904 := by
    have h1 : (m * n).natAbs ≤ 2147483648 * 2147483648 := by
      rw [Int.natAbs_mul]; exact Nat.mul_le_mul (by omega) (by omega)
    omega
  have nm := nd_i64 (x := m) ⟨by omega, by omega⟩
  have nn := nd_i64 (x := n) ⟨by omega, by omega⟩
  have g1 := Of_spec (n := m) ⟨by omega, by omega⟩
  have g2 := Of_spec (n := n) ⟨by omega, by omega⟩
  obtain ⟨s, hs⟩ : ∃ s, m + n = s := ⟨_, rfl⟩
  obtain ⟨d, hd⟩ : ∃ d, m - n = d := ⟨_, rfl⟩
  obtain ⟨p, hp⟩ : ∃ p, m * n = p := ⟨_, rfl⟩
  have a1' := Add_spec (x := m) (y := n) (by omega) (by omega)
  have a2' := Sub_spec (x := m) (y := n) (by omega) (by omega)
  have a3' := Mul_spec (x := m) (y := n) (by omega) (by omega)
  have a4' := Compare_spec (x := m) (y := n) (by omega) (by omega)
  rw [hs] at a1'
  rw [hd] at a2' a4'
  rw [hp] at a3' bmn
  have o1 := Of_spec (n := s) ⟨by omega, by omega⟩
  have o2 := Of_spec (n := d) ⟨by omega, by omega⟩
  have o3 := Of_spec (n := p) ⟨by omega, by omega⟩
  have v1 : w64 (m + n) = s := by rw [w64_id (by omega) (by omega)]; exact hs
  have v2 : w64 (m - n) = d := by rw [w64_id (by omega) (by omega)]; exact hd
  have v3 : w64 (m * n) = p := by rw [hp]; exact w64_id (by omega) (by omega)
  have k1 := sm4 (x := s) rfl (Nat.le_trans (nd_i64 ⟨by omega, by omega⟩) (by omega))
  have k2 := sm4 (x := d) rfl (Nat.le_trans (nd_i64 ⟨by omega, by omega⟩) (by omega))
  have k3 := sm4 (x := p) rfl (Nat.le_trans (nd_i64 ⟨by omega, by omega⟩) (by omega))
  have r1 := around_spec (m := 4611686018427387904) i0 (by omega)
  have b1 := arnd_b (n := a0) (m := 4611686018427387904) (by omega)
  have r2 := around_spec (m := 4611686018427387903) i2 (by omega)
  have b2 := arnd_b (n := a2) (m := 4611686018427387903) (by omega)
  obtain ⟨c, hc⟩ : ∃ c, 1 + arnd a2 4611686018427387903 = c := ⟨_, rfl⟩
  have v4 : w64 (1 + arnd a2 4611686018427387903) = c := by rw [w64_id (by omega) (by omega)]; exact hc
  have r3 := around_spec (m := c) i1 (by omega)
  have b3 := arnd_b (n := a1) (m := c) (by omega)
  obtain ⟨v, hv⟩ : ∃ v, 1 + arnd a1 c = v := ⟨_, rfl⟩
  have v5 : w64 (1 + arnd a1 c) = v := by rw [w64_id (by omega) (by omega)]; exact hv
  generalize arnd a0 4611686018427387904 = u at *
  generalize arnd a2 4611686018427387903 = c0 at *
  generalize arnd a1 c = c1 at *
  have o4 := Of_spec (n := u) ⟨by omega, by omega⟩
  have o5 := Of_spec (n := v) ⟨by omega, by omega⟩
  have q := Div_spec (x := u) (y := v) (by omega) (Nat.le_trans (nd_i64 ⟨by omega, by omega⟩) (by omega)) (Nat.le_trans (nd_i64 ⟨by omega, by omega⟩) (by omega))
  have hq0 : 0 ≤ u / v := Int.ediv_nonneg (by omega) (by omega)
  have hr0 : 0 ≤ u % v := Int.emod_nonneg _ (by omega)
  have hq1 : u / v ≤ u := Int.ediv_le_self _ (by omega)
  have hr1 : u % v < v := Int.emod_lt_of_pos _ (by omega)
  have e1 := quo_pos (a := u) (b := v) (by omega)
  have e2 := rem_pos (a := u) (b := v) (by omega)
  have z := eqz_f (b := v) (by omega)
  obtain ⟨Q, hQ⟩ : ∃ Q, u / v = Q := ⟨_, rfl⟩
  obtain ⟨R, hR⟩ : ∃ R, u % v = R := ⟨_, rfl⟩
  rw [hQ, hR] at q
  rw [hQ] at e1 hq0 hq1
  rw [hR] at e2 hr0 hr1
  have v6 : w64 Q = Q := w64_id (by omega) (by omega)
  have o6 := Of_spec (n := Q) ⟨by omega, by omega⟩
  have o7 := Of_spec (n := R) ⟨by omega, by omega⟩
  have k4 := sm4 (x := Q) rfl (Nat.le_trans (nd_i64 ⟨by omega, by omega⟩) (by omega))
  have k5 := sm4 (x := R) rfl (Nat.le_trans (nd_i64 ⟨by omega, by omega⟩) (by omega))
  have kl := lives4
  rw [callX_eq (cf := gantrylaw04_IntegerGo) rfl]
  simp only [iv, bv] at g1 g2 o1 o2 o3 o4 o5 o6 o7 r1 r2 r3 a4' k1 k2 k3 k4 k5 kl
  rcases Int.lt_trichotomy m n with h | h | h
  · have c1 : decide (m < n) = true := lt_t h
    have c2 : decide (m > n) = false := gt_f (by omega)
    rw [Int.sign_eq_neg_one_of_neg (show d < 0 by omega)] at a4'
    have c3 : ((-1 : Int) != -1) = false := rfl
    simp -implicitDefEqProofs (maxSteps := 10000000) only [gantrylaw04_IntegerGo, bI, t31, hm, hn, g1, g2, a1', a2', a3', a4', v1, v2, v3, v4, v5, v6, o1, o2, o3, o4, o5, o6, o7, k1, k2, k3, k4, k5, kl, r1, r2, r3, q, e1, e2, z, c1, c2, c3, go_sem, reduceCtorEq, ↓reduceIte, Nat.reduceEqDiff, iv, bv]
  · have c1 : decide (m < n) = false := lt_f (by omega)
    have c2 : decide (m > n) = false := gt_f (by omega)
    rw [show d = 0 by omega, Int.sign_zero] at a4'
    have c3 : ((0 : Int) != 0) = false := rfl
    simp -implicitDefEqProofs (maxSteps := 10000000) only [gantrylaw04_IntegerGo, bI, t31, hm, hn, g1, g2, a1', a2', a3', a4', v1, v2, v3, v4, v5, v6, o1, o2, o3, o4, o5, o6, o7, k1, k2, k3, k4, k5, kl, r1, r2, r3, q, e1, e2, z, c1, c2, c3, go_sem, reduceCtorEq, ↓reduceIte, Nat.reduceEqDiff, iv, bv]
  · have c1 : decide (m < n) = false := lt_f (by omega)
    have c2 : decide (m > n) = true := gt_t h
    rw [Int.sign_eq_one_of_pos (show 0 < d by omega)] at a4'
    have c3 : ((1 : Int) != 1) = false := rfl
    simp -implicitDefEqProofs (maxSteps := 10000000) only [gantrylaw04_IntegerGo, bI, t31, hm, hn, g1, g2, a1', a2', a3', a4', v1, v2, v3, v4, v5, v6, o1, o2, o3, o4, o5, o6, o7, k1, k2, k3, k4, k5, kl, r1, r2, r3, q, e1, e2, z, c1, c2, c3, go_sem, reduceCtorEq, ↓reduceIte, Nat.reduceEqDiff, iv, bv]
end Go.Proofs.YtecihganhcapoaaGreatDoor.Pure

/- The table that the rows list, as the machine asks for it. -/
namespace Go.AM
open Go Go.Proofs Go.RowKit

theorem laidVars_get {P : Program} {w : World} {n : String} {d : DataW Unit} : ∀ {l : List (String × DataW Unit)} {ps : List MemPlace}, DataW.LaidVars P w l ps → (n, d) ∈ l →
    ∃ g t cs fuel p, P.globalNamed n = some g ∧ (P.globals[g]?).map (·.type) = some t ∧ w.var? P n = some cs ∧ DataW.trod (fun _ => ()) P w 0 (fun _ => true) false fuel t cs.toList = some (d, p)
  | [], _, _, h => by cases h
  | (m, e) :: r, ps, hL, h => by
    obtain ⟨g, t, cs, fuel, p, q, h1, h2, h3, h4, h5, _⟩ := hL
    rcases List.mem_cons.1 h with h' | h'
    · cases h'
      exact ⟨g, t, cs, fuel, p, h1, h2, h3, h4⟩
    · exact laidVars_get h5 h'
def chkT (P : Program) (g : Nat) : Bool :=
  match (P.globals[g]?).map (·.type) with
  | some t => (match P.underlying t with
    | some (.array 20 e) => (match P.underlying e with
      | some (.int .u64) => P.cellsOf e == 1 && P.cellsOf t == 20
      | _ => false)
    | _ => false)
  | none => false
theorem chkT_ok {P : Program} {g : Nat} (h : chkT P g = true) : ∃ t', (P.globals[g]?).map (·.type) = some t' ∧ ∃ e, P.underlying t' = some (.array 20 e) ∧ P.underlying e = some (.int .u64) ∧ P.cellsOf e = 1 ∧ P.cellsOf t' = 20 := by
  unfold chkT at h
  split at h
  · rename_i t ht
    split at h
    · rename_i e he
      split at h
      · rename_i hk
        simp only [Bool.and_eq_true, beq_iff_eq] at h
        exact ⟨t, ht, e, he, hk, h.1, h.2⟩
      · cases h
    · cases h
  · cases h
def tabDat : DataW Unit := Lib.tabData .u64 Lib.pow10Tab
theorem tabOk_laid {l : List (String × DataW Unit)} {w : World} (hL : laidMet Tryz.prog l w) (hm : ("internal/strconv.uint64pow10", tabDat) ∈ l) : TabOk w := by
  obtain ⟨ps, h, _⟩ := hL
  obtain ⟨g, t, cs, fuel, p, h1, h2, h3, h4⟩ := laidVars_get h hm
  have hg : Tryz.prog.globalNamed "internal/strconv.uint64pow10" = some 2 := by kernel_rfl
  obtain rfl : g = 2 := Option.some.inj (h1.symm.trans hg)
  have ht := chkT_ok (P := Tryz.prog) (g := 2) (by kernel_rfl)
  obtain ⟨t', ht, e, k1, k2, k3, k4⟩ := ht
  obtain rfl := Option.some.inj (ht.symm.trans h2)
  have hc := Lib.cells_of_tab k1 k2 k3 k4 h4
  unfold World.var? at h3
  rw [h1, Option.bind_some] at h3
  intro x hx
  have hx' : x = (2, (Lib.pow10Tab.map fun z => Value.int .u64 z).toArray) := by
    have : tabs = [(2, (Lib.pow10Tab.map fun z => Value.int .u64 z).toArray)] := by kernel_rfl
    rw [this] at hx
    exact List.mem_singleton.1 hx
  subst hx'
  cases ho : w.heap[2]? with
  | none => rw [ho] at h3; cases h3
  | some o =>
    rw [ho] at h3
    cases o with
    | cells cs' T fz =>
      simp only [Option.some.injEq] at h3
      subst h3
      refine ⟨(Array.getElem?_eq_some_iff.1 ho).1, T, fz, ?_⟩
      show some (Go.Obj.cells cs' T fz) = some (Go.Obj.cells (Lib.pow10Tab.map fun z => Value.int .u64 z).toArray T fz)
      rw [← hc]
    | _ => cases h3
end Go.AM

/- The row of IntegerGo, out of its Pure. Printed by row.py. -/
namespace Go.Proofs.YtecihganhcapoaaGreatDoor.integerGo
open Go.ChangeShapes Go.WideShapes Go.ChangeAt Go.RowKit Go.AM
theorem own : ownKnob Tryz.prog.godebug = none := by kernel_rfl
theorem laidOut : laidOutB Tryz.prog = true := by kernel_rfl
set_option maxRecDepth 100000 in
theorem lifted (os : Os) (started : os.Started) (H : Type) (enc : TypeId × Value → H) :
    ReturnsInHanded {} Tryz.checked os 6 .any (fun w args => (Rows.integerGoSpec.pre enc Tryz.prog Tryz.f6 Rows.integerGoRow.domain false w args ∧ laidMetH Tryz.prog Rows.integerGoRow.laid w) ∧ sizedMet enc Tryz.prog Tryz.f6 (OpenSpec.ofChange Rows.integerGoSpec) false w args)
      (Rows.integerGoSpec.post enc Tryz.prog Tryz.f6 false true false false) := by
  refine returnsInHanded_of_change_and (C := Tryz.checked) (X := fun w _ => laidMetH Tryz.prog Rows.integerGoRow.laid w) (fun _ _ _ hh h => h.of_heap hh) own started (by kernel_rfl) Tryz.func6
    (ChangeSpec.witness_shaped (enc := enc) (C := Tryz.checked) (os := os) (X := fun w _ => laidMetH Tryz.prog Rows.integerGoRow.laid w) false (World.laidAll Tryz.prog os Rows.integerGoRow.laid) #[.int .i64 0, .int .i64 0, .int .i64 0] 8 (World.laidAll_os _ _ _)
      (World.shaped_of_ZipB (by kernel_rfl) (by kernel_rfl)) (by kernel_rfl) (by kernel_rfl) (by kernel_rfl)
      (by rw [MakeChecks.laidMetH_plain _ _ _ (by kernel_rfl)]; exact laidMet_laidAll _ (by kernel_rfl) (by kernel_rfl))) ?_
  intro W base args ds gs before hval0 hW hcnd hsz0 hL _
  have hsz : (DataW.weightsEach Tryz.prog (Tryz.f6.params.toList ++ Rows.integerGoSpec.plain.varTypes Tryz.prog) (ds ++ gs)).all (· ≤ reachBytes) = true := hsz0
  have hval : ∀ (j : Nat) t v, Tryz.f6.params[j]? = some t → args[j]? = some v → Value.okWide Tryz.prog W .any base t v := hval0
  have hW' := hW
  obtain ⟨p, q, hA0, hV, rfl, hfz, hnd⟩ := hW
  have hA : DataW.TrodAll enc Tryz.prog W 0 (fun _ => true) true Tryz.f6.params.toList args.toList ds p := hA0
  rw [Tryz.params6] at hA hval hsz
  obtain ⟨v0, vs0, d0, ds0, p0, q0, hargs, rfl, rfl, h0, r0⟩ := trodAll_cons hA
  obtain ⟨v1, vs1, d1, ds1, p1, q1, rfl, rfl, rfl, h1, r1⟩ := trodAll_cons r0
  obtain ⟨v2, vs2, d2, ds2, p2, q2, rfl, rfl, rfl, h2, r2⟩ := trodAll_cons r1
  obtain ⟨rfl, rfl, rfl⟩ := trodAll_nil r2
  obtain rfl : args = #[v0, v1, v2] := by cases args; simp_all
  obtain ⟨rfl, rfl⟩ := trodVars_none hV
  obtain ⟨a0, rfl, rfl, rfl, w0⟩ := open_int Tryz.underlying3 (hval 0 3 v0 rfl rfl) h0
  obtain ⟨a1, rfl, rfl, rfl, w1⟩ := open_int Tryz.underlying3 (hval 1 3 v1 rfl rfl) h1
  obtain ⟨a2, rfl, rfl, rfl, w2⟩ := open_int Tryz.underlying3 (hval 2 3 v2 rfl rfl) h2
  clear hA0 hval0 hsz0 hsz
  refine (law_walk env4 (f := 6) (ds := [(iv a0), (iv a1), (iv a2)]) (vs := [.int .i64 a0, .int .i64 a1, .int .i64 a2]) (w := W) (tabOk_laid (by rw [← MakeChecks.laidMetH_plain _ _ _ (by kernel_rfl)]; exact hL) (List.mem_of_getElem? (i := 2) (by kernel_rfl))) (RepL.cons _ _ _ _ (RepD.v _) (RepL.cons _ _ _ _ (RepD.v _) (RepL.cons _ _ _ _ (RepD.v _) RepL.nil))) (Pure.IntegerGo a0 w0 a1 w1 a2 w2)).mono fun e W' ⟨he, bel⟩ => ?_
  subst he
  exact ⟨_, rfl, _, _, _, [], _, [], hW', trodAll_mk1 (shut_bool Tryz.underlying4 _), (trodAll_cons_mk (shut_int Tryz.underlying3 w0) (trodAll_cons_mk (shut_int Tryz.underlying3 w1) (trodAll_cons_mk (shut_int Tryz.underlying3 w2) trodAll_mk0))), rfl, bel.frame _, fun h => by cases h⟩
theorem over : Rows.integerGoRow.holds Tryz.pinned (OpenSpec.ofChange Rows.integerGoSpec) :=
  OpenClaim.holds_of_wide 6 Tryz.f6 rfl rfl rfl rfl rfl rfl rfl ⟨rfl, rfl, rfl, rfl, rfl⟩ rfl rfl rfl rfl rfl (by kernel_rfl) Tryz.func6 (by kernel_rfl)
    (of_decide_eq_true (by kernel_rfl)) (by unfold Func.isWrapper; first | (rw [if_pos (by decide +kernel)]; kernel_rfl) | (rw [if_neg (by decide +kernel)]; exact ⟨rfl, rfl⟩))
    (fun os started H enc _ => lifted os started H enc)
theorem card : Rows.IntegerGoCardSaid :=
  Claim7.holds_tied_plain_at .later [] [.data, .data, .data, .data, .sentinel, .sentinel, .pinned] true (true, "8f30b765037cb7f36d521e85c7b3d15f44d2f8c8747fa73e3d59755b044424b0") true over (fun _ h => by cases h) (by kernel_rfl) (fun _ h => by cases h) integerGo_row_tie rfl ⟨rfl, rfl⟩ (by kernel_rfl) rfl
    (fun f fn hf hfn => by
      obtain rfl : f = 6 := Option.some.inj ((show Tryz.prog.funcNamed "gantry/gantrylaw04.IntegerGo" = some 6 by kernel_rfl).symm.trans hf) |>.symm
      obtain rfl : fn = Tryz.f6 := (Option.some.inj (Tryz.func6.symm.trans hfn)).symm
      exact ⟨by kernel_rfl, fun j t ht => by
        rw [Tryz.params6] at ht
        have hm : t ∈ [3, 3, 3] := by simpa using Array.mem_of_getElem? ht
        have hall : ([3, 3, 3].all fun u => !Tryz.prog.wantsStandIn u) = true := by kernel_rfl
        exact (show Tryz.prog.wantsStandIn t = false by simpa using List.all_eq_true.1 hall t hm)⟩)
    (by kernel_rfl)
end Go.Proofs.YtecihganhcapoaaGreatDoor.integerGo
namespace Go.Proofs.YtecihganhcapoaaGreatDoor
theorem integerGo_holds : Rows.IntegerGoCardSaid := integerGo.card
end Go.Proofs.YtecihganhcapoaaGreatDoor


