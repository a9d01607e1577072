/- Part 11 of the proof: a small machine, its soundness against the model, and what the program's functions compute on it. -/
import Derived.Test.YtecihganhcapoaaGreatDoorM10
import Derived.Test.YtecihganhcapoaaGreatDoorM6
import GoSem.Claims
import Derived.KernelRfl
import Derived.Test.YtecihganhcapoaaGreatDoorM9
import Derived.Lib.LaidTab
import Derived.LaidMore
import Derived.MakeChecks
import Derived.Test.YtecihganhcapoaaGreatDoorCards
import Derived.Test.YtecihganhcapoaaGreatDoorTie
import Derived.WalkKit
import Derived.ProofKit
import Derived.OpenShut
import Derived.ShutString
import Derived.ChangeOld
import Derived.Below
import Derived.SizedLaws
import Derived.Lay
import Derived.SevenTiedAt
import Derived.Stop.Joined
set_option linter.unusedVariables false
set_option linter.unusedSimpArgs false
/- The library's part of the texts: strings.Trim at digits, integer.Text of numbers that are not negative. -/
namespace Go.AM
open Go Go.Proofs Go.RowKit

def tenD : List UInt8 := [48, 49, 50, 51, 52, 53, 54, 55, 56, 57]
def decF : Nat → Nat → List UInt8
  | 0, _ => []
  | k + 1, u => if u < 10 then [UInt8.ofNat (48 + u)] else decF k (u / 10) ++ [UInt8.ofNat (48 + u % 10)]
theorem decF_eq : ∀ (k u : Nat), u < 10 ^ (k + 1) → Lib.decDigits u = decF (k + 1) u
  | 0, u, h => by
    have h1 : u < 10 := by simpa using h
    rw [Lib.decDigits, decF, dif_pos h1, if_pos h1]
  | k + 1, u, h => by
    rw [Lib.decDigits, decF]
    by_cases h1 : u < 10
    · rw [dif_pos h1, if_pos h1]
    · rw [dif_neg h1, if_neg h1, decF_eq k (u / 10) (by rw [Nat.pow_succ] at h; omega)]
def itoaF (d : Int) : List UInt8 := decF 9 d.toNat
def rep48 : Nat → List UInt8
  | 0 => []
  | n + 1 => 48 :: rep48 n
def restF (l : List Int) : Nat → List UInt8
  | 0 => []
  | j + 1 => rep48 (9 - (itoaF (l.getD j 0)).length) ++ itoaF (l.getD j 0) ++ restF l j
def intsD : List D → Option (List Int)
  | [] => some []
  | .v (.int .i64 d) :: r => (intsD r).map (d :: ·)
  | _ => none
def dig9 (l : List Int) : Bool := l.all fun d => decide (0 ≤ d) && decide (d < 1000000000)
def orc4 (f : Nat) (ds : List D) : Option R :=
  if f = 76 then match ds with
    | [.v (.string s), .v (.string c)] => if c.data.toList = tenD ∧ s.size ≤ 1000000 ∧ s.data.toList.all (tenD.contains ·) = true then some (.d (.v (.string ⟨#[]⟩))) else none
    | _ => none
  else if f = 42 then match ds with
    | [.agg [.v (.bool false), .row (n + 1) cs]] => (intsD cs).bind fun l => if l.length = n + 1 ∧ n ≤ 1000000 ∧ dig9 l = true then some (.d (.v (.string ⟨(itoaF (l.getD n 0) ++ restF l n).toArray⟩))) else none
    | _ => none
  else none

theorem rep48_eq : ∀ n, rep48 n = Lib.repeatL [48] n
  | 0 => rfl
  | n + 1 => by rw [rep48, Lib.repeatL, rep48_eq n]; rfl
theorem itoaF_eq {d : Int} (h : 0 ≤ d ∧ d < 1000000000) : Lib.itoa d = itoaF d := by
  unfold Lib.itoa itoaF
  rw [if_neg (by omega)]
  exact decF_eq 8 _ (by have : (10 : Nat) ^ (8 + 1) = 1000000000 := by decide
                        omega)
theorem dig9_at {l : List Int} (h : dig9 l = true) (i : Nat) : 0 ≤ l.getD i 0 ∧ l.getD i 0 < 1000000000 := by
  by_cases hi : i < l.length
  · have e : l.getD i 0 = l[i] := by rw [List.getD_eq_getElem?_getD, List.getElem?_eq_getElem hi]; rfl
    rw [e]
    have := List.all_eq_true.1 h _ (List.getElem_mem hi)
    simpa using this
  · have e : l.getD i 0 = 0 := by rw [List.getD_eq_getElem?_getD, List.getElem?_eq_none (by omega)]; rfl
    rw [e]; omega
theorem restF_eq {l : List Int} (h : dig9 l = true) : ∀ j, restL (fun i => l.getD i 0) j = restF l j
  | 0 => rfl
  | j + 1 => by
    rw [restL, restF, pad9, restF_eq h j, itoaF_eq (dig9_at h j), rep48_eq]
theorem intsD_rep {S : Nat → Prop} {w : World} : ∀ {cs : List D} {l : List Int} {vs : List Value}, intsD cs = some l → RepL S w cs vs → vs = l.map fun d => Value.int .i64 d
  | [], l, vs, h, hr => by
    cases hr
    simp only [intsD, Option.some.injEq] at h
    subst h; rfl
  | c :: cs, l, vs, h, hr => by
    cases hr with
    | cons _ _ v vs hv ht =>
      unfold intsD at h
      split at h
      · rename_i heq; cases heq
      · rename_i d r heq
        cases heq
        simp only [Option.map_eq_some_iff] at h
        obtain ⟨l', h1, rfl⟩ := h
        rw [intsD_rep h1 ht]
        cases hv; rfl
      · cases h
theorem trim_all {l cs : List UInt8} (h : l.all (cs.contains ·) = true) : Lib.trimS l cs = [] := by
  have h1 : ∀ m : List UInt8, m.all (cs.contains ·) = true → m.dropWhile (cs.contains ·) = [] := by
    intro m
    induction m with
    | nil => intro _; rfl
    | cons a m ih =>
      intro hm
      simp only [List.all_cons, Bool.and_eq_true] at hm
      rw [List.dropWhile_cons, if_pos hm.1, ih hm.2]
  unfold Lib.trimS Lib.trimLeftS Lib.trimRightS
  rw [h1 l.reverse (by rw [List.all_reverse]; exact h)]
  rfl
theorem tab_is {w : World} (h : TabOk w) : Lib.TabIs Tryz.prog w "internal/strconv.uint64pow10" .u64 Lib.pow10Tab := by
  obtain ⟨_, T, fz, hb⟩ := h _ (List.mem_cons_self ..)
  have hg : Tryz.prog.globalNamed "internal/strconv.uint64pow10" = some 2 := by kernel_rfl
  unfold Lib.TabIs World.var?
  rw [hg, Option.bind_some]
  simp only at hb
  rw [hb]
  rfl
theorem orc4_ok : ∀ f ds r, ft f = none → orc4 f ds = some r → CallOk Tryz.prog f ds r := by
  intro f ds r _ h
  unfold orc4 at h
  split at h
  · rename_i hf
    subst hf
    split at h
    · rename_i s c
      split at h
      · rename_i hc
        obtain ⟨h1, h2, h3⟩ := hc
        cases h
        refine ⟨⟨Tryz.f76, Tryz.func76, by kernel_rfl, by decide⟩, fun S w vs hT hrep hlt => ?_⟩
        cases hrep with
        | cons _ _ v1 vs1 r1 t1 =>
        cases t1 with
        | cons _ _ v2 vs2 r2 t2 =>
        cases t2; cases r1; cases r2
        have hcon := Any.strings_Trim_laid Tryz.lays160 (by kernel_rfl) s c w (by omega) (by
          have : c.size = c.data.toList.length := by show c.data.size = _; simp
          rw [this, h1]; decide) (by rw [h1]; exact ascii_of_all (by decide))
        rw [h1, trim_all h3] at hcon
        refine Calls.mono hcon ?_
        rintro e w' ⟨rfl, hb⟩
        exact ⟨_, rfl, hb, RepD.v _⟩
      · cases h
    · cases h
  · split at h
    · rename_i hf
      subst hf
      split at h
      · rename_i n cs
        simp only [Option.bind_eq_some_iff] at h
        obtain ⟨l, hl, h⟩ := h
        split at h
        · rename_i hc
          obtain ⟨h1, h2, h3⟩ := hc
          cases h
          refine ⟨⟨Tryz.f42, Tryz.func42, by kernel_rfl, by decide⟩, fun S w vs hT hrep hlt => ?_⟩
          cases hrep with
          | cons _ _ v1 vs1 r1 t1 =>
          cases t1
          cases r1 with
          | agg _ vs2 h4 =>
          cases h4 with
          | cons _ _ v3 vs3 r3 t3 =>
          cases t3 with
          | cons _ _ v4 vs4 r4 t4 =>
          cases t4; cases r3
          cases r4 with
          | row _ _ ad cap vs5 g1 g2 g3 g4 =>
            have hv := intsD_rep hl g3
            subst hv
            have hw := text_walk (fun i => l.getD i 0) n (itoaF (l.getD n 0) ++ restF l n) (by rw [itoaF_eq (dig9_at h3 n), restF_eq h3]) (by omega) (dig9_at h3) ad cap w (fun i hi => by
              refine g4 i _ ?_
              rw [List.getElem?_map, List.getD_eq_getElem?_getD, List.getElem?_eq_getElem (by omega)]; rfl) (hlt _ g2) (Lib.tabBelow_of_tabIs (tab_is hT))
            refine Calls.mono hw ?_
            rintro e w' ⟨rfl, hb⟩
            exact ⟨_, rfl, hb, RepD.v _⟩
        · cases h
      · cases h
    · cases h
instance its4 : Its := { it := fun _ _ => none, orc := orc4 }
theorem env4 : EnvOk Tryz.prog (@G its4) := @env_okO its4 (fun _ _ _ h => by cases h) orc4_ok
end Go.AM

/- law04.lives, by the kernel. -/
namespace Go.AM
open Go Go.RowKit Go.Proofs
theorem lives4 : callX (@G its4) n_gantrylaw04_lives [] = some (.d (bv true)) := callX_some.2 ⟨60, by kernel_rfl⟩
end Go.AM

namespace Go.AM
open Go Go.RowKit
variable [Its]
theorem aX {x y : Int} {k : Nat} (hx : nd x ≤ k) (hy : nd y ≤ k) (hk : k ≤ 1000) : ∃ z, x + y = z ∧ nd z ≤ k + 1 ∧ callX G n_integer_Add [encI x, encI y] = some (.d (encI z)) := ⟨_, rfl, nd_add hx hy, Add_spec (by omega) (by omega)⟩
theorem mX {x y : Int} {k : Nat} (hx : nd x ≤ k) (hy : nd y ≤ k) (hk : k ≤ 1000) : ∃ z, x * y = z ∧ nd z ≤ k + k ∧ callX G n_integer_Mul [encI x, encI y] = some (.d (encI z)) := ⟨_, rfl, Nat.le_trans nd_mul (by omega), Mul_spec (by omega) (by omega)⟩
theorem sX {x y : Int} {k : Nat} (hx : nd x ≤ k) (hy : nd y ≤ k) (hk : k ≤ 1000) : ∃ z, x - y = z ∧ nd z ≤ k + 1 ∧ callX G n_integer_Sub [encI x, encI y] = some (.d (encI z)) := ⟨_, rfl, by have := nd_add (x := x) (y := -y) hx (by rw [nd_neg]; exact hy); rwa [show x + -y = x - y by omega] at this, Sub_spec (by omega) (by omega)⟩
end Go.AM
namespace Go.Proofs.YtecihganhcapoaaGreatDoor.Pure
open Go Go.AM
theorem IntegerRing (e0 : D) (l0 : List Int) (hd0 : Dg e0 l0) (hwf0 : ∀ n ∈ l0, (Lit.int .i64 n).wf = true) (hlen0 : l0.length * 8 ≤ 140737488351232) (e1 : D) (l1 : List Int) (hd1 : Dg e1 l1) (hwf1 : ∀ n ∈ l1, (Lit.int .i64 n).wf = true) (hlen1 : l1.length * 8 ≤ 140737488351232) (e2 : D) (l2 : List Int) (hd2 : Dg e2 l2) (hwf2 : ∀ n ∈ l2, (Lit.int .i64 n).wf = true) (hlen2 : l2.length * 8 ≤ 140737488351232) : callX G 5 [e0, e1, e2] = some (.d (bv true)) := by
  obtain ⟨x, nx, gx⟩ := Number_spec (at_ := 0) (rw_dg hd0) (fun n hn => i64_wf (hwf0 n hn)) (by omega)
  obtain ⟨y, ny, gy⟩ := Number_spec (at_ := 0) (rw_dg hd1) (fun n hn => i64_wf (hwf1 n hn)) (by omega)
  obtain ⟨z, nz, gz⟩ := Number_spec (at_ := 0) (rw_dg hd2) (fun n hn => i64_wf (hwf2 n hn)) (by omega)
  obtain ⟨xy, h1, n1, a1⟩ := aX nx ny (by omega)
  obtain ⟨yx, h2, n2, a2⟩ := aX ny nx (by omega)
  have k1 := sm4 (x := xy) (y := yx) (by omega) (by omega)
  obtain ⟨pxy, h3, n3, a3⟩ := mX nx ny (by omega)
  obtain ⟨pyx, h4, n4, a4⟩ := mX ny nx (by omega)
  have k2 := sm4 (x := pxy) (y := pyx) (by rw [← h3, ← h4, Int.mul_comm]) (by omega)
  obtain ⟨xy_z, h5, n5, a5⟩ := aX n1 (Nat.le_trans nz (by omega)) (by omega)
  obtain ⟨yz, h6, n6, a6⟩ := aX ny nz (by omega)
  obtain ⟨x_yz, h7, n7, a7⟩ := aX (Nat.le_trans nx (by omega)) n6 (by omega)
  have k3 := sm4 (x := xy_z) (y := x_yz) (by omega) (by omega)
  obtain ⟨pxy_z, h8, n8, a8⟩ := mX n3 (Nat.le_trans nz (by omega)) (by omega)
  obtain ⟨pyz, h9, n9, a9⟩ := mX ny nz (by omega)
  obtain ⟨px_yz, h10, n10, a10⟩ := mX (Nat.le_trans nx (by omega)) n9 (by omega)
  have k4 := sm4 (x := pxy_z) (y := px_yz) (by rw [← h8, ← h10, ← h3, ← h9, Int.mul_assoc]) (by omega)
  obtain ⟨l, h11, n11, a11⟩ := mX (Nat.le_trans nx (by omega)) n6 (by omega)
  obtain ⟨pxz, h12, n12, a12⟩ := mX nx nz (by omega)
  obtain ⟨r, h13, n13, a13⟩ := aX n3 n12 (by omega)
  have k5 := sm4 (x := l) (y := r) (by rw [← h11, ← h13, ← h6, ← h3, ← h12, Int.mul_add]) (by omega)
  obtain ⟨u, h14, n14, a14⟩ := sX n1 (Nat.le_trans ny (by omega)) (by omega)
  have k6 := sm4 (x := u) (y := x) (by omega) (by omega)
  have c1 := Compare_spec (x := x) (y := y) (by omega) (by omega)
  obtain ⟨v, h15, n15, a15⟩ := sX nx ny (by omega)
  have s1 := Sign_spec v
  obtain ⟨xz, h16, n16, a16⟩ := aX nx nz (by omega)
  have c2 := Compare_spec (x := xz) (y := yz) (by omega) (by omega)
  rw [show xz - yz = v by omega] at c2
  rw [h15] at c1
  have kl := lives4
  have q3 : (Int.sign v == Int.sign v) = true := beq_self_eq_true _
  generalize Int.sign v = sv at *
  rw [callX_eq (cf := gantrylaw04_IntegerRing) rfl]
  simp only [iv, bv] at gx gy gz k1 k2 k3 k4 k5 k6 c1 c2 s1 kl
  simp -implicitDefEqProofs (maxSteps := 10000000) only [gantrylaw04_IntegerRing, bI, gx, gy, gz, a1, a2, a3, a4, a5, a6, a7, a8, a9, a10, a11, a12, a13, a14, a15, a16, k1, k2, k3, k4, k5, k6, c1, c2, s1, kl, q3, go_sem, reduceCtorEq, ↓reduceIte, Nat.reduceEqDiff, iv, bv]
end Go.Proofs.YtecihganhcapoaaGreatDoor.Pure

/- The table that the rows list, as the machine asks for it. -/
namespace Go.AM
open Go Go.Proofs Go.RowKit

theorem laidVars_get {P : Program} {w : World} {n : String} {d : DataW Unit} : ∀ {l : List (String × DataW Unit)} {ps : List MemPlace}, DataW.LaidVars P w l ps → (n, d) ∈ l →
    ∃ g t cs fuel p, P.globalNamed n = some g ∧ (P.globals[g]?).map (·.type) = some t ∧ w.var? P n = some cs ∧ DataW.trod (fun _ => ()) P w 0 (fun _ => true) false fuel t cs.toList = some (d, p)
  | [], _, _, h => by cases h
  | (m, e) :: r, ps, hL, h => by
    obtain ⟨g, t, cs, fuel, p, q, h1, h2, h3, h4, h5, _⟩ := hL
    rcases List.mem_cons.1 h with h' | h'
    · cases h'
      exact ⟨g, t, cs, fuel, p, h1, h2, h3, h4⟩
    · exact laidVars_get h5 h'
def chkT (P : Program) (g : Nat) : Bool :=
  match (P.globals[g]?).map (·.type) with
  | some t => (match P.underlying t with
    | some (.array 20 e) => (match P.underlying e with
      | some (.int .u64) => P.cellsOf e == 1 && P.cellsOf t == 20
      | _ => false)
    | _ => false)
  | none => false
theorem chkT_ok {P : Program} {g : Nat} (h : chkT P g = true) : ∃ t', (P.globals[g]?).map (·.type) = some t' ∧ ∃ e, P.underlying t' = some (.array 20 e) ∧ P.underlying e = some (.int .u64) ∧ P.cellsOf e = 1 ∧ P.cellsOf t' = 20 := by
  unfold chkT at h
  split at h
  · rename_i t ht
    split at h
    · rename_i e he
      split at h
      · rename_i hk
        simp only [Bool.and_eq_true, beq_iff_eq] at h
        exact ⟨t, ht, e, he, hk, h.1, h.2⟩
      · cases h
    · cases h
  · cases h
def tabDat : DataW Unit := Lib.tabData .u64 Lib.pow10Tab
theorem tabOk_laid {l : List (String × DataW Unit)} {w : World} (hL : laidMet Tryz.prog l w) (hm : ("internal/strconv.uint64pow10", tabDat) ∈ l) : TabOk w := by
  obtain ⟨ps, h, _⟩ := hL
  obtain ⟨g, t, cs, fuel, p, h1, h2, h3, h4⟩ := laidVars_get h hm
  have hg : Tryz.prog.globalNamed "internal/strconv.uint64pow10" = some 2 := by kernel_rfl
  obtain rfl : g = 2 := Option.some.inj (h1.symm.trans hg)
  have ht := chkT_ok (P := Tryz.prog) (g := 2) (by kernel_rfl)
  obtain ⟨t', ht, e, k1, k2, k3, k4⟩ := ht
  obtain rfl := Option.some.inj (ht.symm.trans h2)
  have hc := Lib.cells_of_tab k1 k2 k3 k4 h4
  unfold World.var? at h3
  rw [h1, Option.bind_some] at h3
  intro x hx
  have hx' : x = (2, (Lib.pow10Tab.map fun z => Value.int .u64 z).toArray) := by
    have : tabs = [(2, (Lib.pow10Tab.map fun z => Value.int .u64 z).toArray)] := by kernel_rfl
    rw [this] at hx
    exact List.mem_singleton.1 hx
  subst hx'
  cases ho : w.heap[2]? with
  | none => rw [ho] at h3; cases h3
  | some o =>
    rw [ho] at h3
    cases o with
    | cells cs' T fz =>
      simp only [Option.some.injEq] at h3
      subst h3
      refine ⟨(Array.getElem?_eq_some_iff.1 ho).1, T, fz, ?_⟩
      show some (Go.Obj.cells cs' T fz) = some (Go.Obj.cells (Lib.pow10Tab.map fun z => Value.int .u64 z).toArray T fz)
      rw [← hc]
    | _ => cases h3
end Go.AM

/- The row of IntegerRing, out of its Pure. Printed by row.py. -/
namespace Go.Proofs.YtecihganhcapoaaGreatDoor.integerRing
open Go.ChangeShapes Go.WideShapes Go.ChangeAt Go.RowKit Go.AM
theorem own : ownKnob Tryz.prog.godebug = none := by kernel_rfl
theorem laidOut : laidOutB Tryz.prog = true := by kernel_rfl
set_option maxRecDepth 100000 in
theorem lifted (os : Os) (started : os.Started) (H : Type) (enc : TypeId × Value → H) :
    ReturnsInHanded {} Tryz.checked os 5 .any (fun w args => (Rows.integerRingSpec.pre enc Tryz.prog Tryz.f5 Rows.integerRingRow.domain false w args ∧ laidMetH Tryz.prog Rows.integerRingRow.laid w) ∧ sizedMet enc Tryz.prog Tryz.f5 (OpenSpec.ofChange Rows.integerRingSpec) false w args)
      (Rows.integerRingSpec.post enc Tryz.prog Tryz.f5 false true false false) := by
  refine returnsInHanded_of_change_and (C := Tryz.checked) (X := fun w _ => laidMetH Tryz.prog Rows.integerRingRow.laid w) (fun _ _ _ hh h => h.of_heap hh) own started (by kernel_rfl) Tryz.func5
    (ChangeSpec.witness_shaped (enc := enc) (C := Tryz.checked) (os := os) (X := fun w _ => laidMetH Tryz.prog Rows.integerRingRow.laid w) false (World.laidAll Tryz.prog os Rows.integerRingRow.laid) #[.slice none 0 0, .slice none 0 0, .slice none 0 0] 8 (World.laidAll_os _ _ _)
      (World.shaped_of_ZipB (by kernel_rfl) (by kernel_rfl)) (by kernel_rfl) (by kernel_rfl) (by kernel_rfl)
      (by rw [MakeChecks.laidMetH_plain _ _ _ (by kernel_rfl)]; exact laidMet_laidAll _ (by kernel_rfl) (by kernel_rfl))) ?_
  intro W base args ds gs before hval0 hW hcnd hsz0 hL _
  have hsz : (DataW.weightsEach Tryz.prog (Tryz.f5.params.toList ++ Rows.integerRingSpec.plain.varTypes Tryz.prog) (ds ++ gs)).all (· ≤ reachBytes) = true := hsz0
  have hval : ∀ (j : Nat) t v, Tryz.f5.params[j]? = some t → args[j]? = some v → Value.okWide Tryz.prog W .any base t v := hval0
  have hW' := hW
  obtain ⟨p, q, hA0, hV, rfl, hfz, hnd⟩ := hW
  have hA : DataW.TrodAll enc Tryz.prog W 0 (fun _ => true) true Tryz.f5.params.toList args.toList ds p := hA0
  rw [Tryz.params5] at hA hval hsz
  obtain ⟨v0, vs0, d0, ds0, p0, q0, hargs, rfl, rfl, h0, r0⟩ := trodAll_cons hA
  obtain ⟨v1, vs1, d1, ds1, p1, q1, rfl, rfl, rfl, h1, r1⟩ := trodAll_cons r0
  obtain ⟨v2, vs2, d2, ds2, p2, q2, rfl, rfl, rfl, h2, r2⟩ := trodAll_cons r1
  obtain ⟨rfl, rfl, rfl⟩ := trodAll_nil r2
  obtain rfl : args = #[v0, v1, v2] := by cases args; simp_all
  obtain ⟨rfl, rfl⟩ := trodVars_none hV
  obtain ⟨a0, len0, cap0, rfl⟩ := okWide_slice Tryz.underlying22 (hval 0 22 v0 rfl rfl)
  have k0 := h0
  have lt0 : ∀ x ∈ p0, x.block < W.heap.size := by obtain ⟨m, hm⟩ := k0; exact DataW.trod_lt m _ _ _ hm
  obtain ⟨z0, w0, y0⟩ : ∃ zs, ((a0 = none ∧ len0 = 0 ∧ cap0 = 0 ∧ zs = []) ∨ ∃ x, a0 = some x ∧ len0 ≤ cap0 ∧ cap0 ≤ maxLen ∧ zs.length = cap0 ∧ (∀ i, i < zs.length → W.cell? (x.add i) = some (.int .i64 (zs.getD i 0))) ∧ ∀ n ∈ zs, (Lit.int .i64 n).wf = true) ∧ len0 * 8 ≤ 140737488351232 := by
    obtain ⟨fuel, hf⟩ := h0
    rcases open_ints Tryz.underlying22 Tryz.underlying3 (by kernel_rfl) hf with ⟨hcs, _⟩ | ⟨x, l, c, zs, hcs, _, hl, hm, hz, hx, hcell, hwz⟩
    · simp [Value.cells] at hcs
      obtain ⟨rfl, rfl, rfl⟩ := hcs
      exact ⟨[], .inl ⟨rfl, rfl, rfl, rfl⟩, by simp⟩
    · simp [Value.cells] at hcs
      obtain ⟨rfl, rfl, rfl⟩ := hcs
      refine ⟨zs, .inr ⟨_, rfl, hl, hm, by simpa using hz, hcell, hwz⟩, ?_⟩
      simp only [Prod.mk.injEq] at hx
      have hd := hx.1
      have z := sized_slice hsz (j := 0) (t := 22) rfl (by rw [hd]; rfl) Tryz.underlying22
      have hb : Tryz.prog.bytesOf 3 = 8 := by kernel_rfl
      rw [hb] at z
      have hr : reachBytes ≤ 140737488351232 := by decide
      have hz' : zs.length = cap0 := by simpa using hz
      simp only [lits, List.length_map, List.length_take, List.length_drop] at z
      omega
  obtain ⟨e0, l0, hd0, hrep0, hlen0, hwf0⟩ := arg_row w0
  obtain ⟨a1, len1, cap1, rfl⟩ := okWide_slice Tryz.underlying22 (hval 1 22 v1 rfl rfl)
  have k1 := h1
  have lt1 : ∀ x ∈ p1, x.block < W.heap.size := by obtain ⟨m, hm⟩ := k1; exact DataW.trod_lt m _ _ _ hm
  obtain ⟨z1, w1, y1⟩ : ∃ zs, ((a1 = none ∧ len1 = 0 ∧ cap1 = 0 ∧ zs = []) ∨ ∃ x, a1 = some x ∧ len1 ≤ cap1 ∧ cap1 ≤ maxLen ∧ zs.length = cap1 ∧ (∀ i, i < zs.length → W.cell? (x.add i) = some (.int .i64 (zs.getD i 0))) ∧ ∀ n ∈ zs, (Lit.int .i64 n).wf = true) ∧ len1 * 8 ≤ 140737488351232 := by
    obtain ⟨fuel, hf⟩ := h1
    rcases open_ints Tryz.underlying22 Tryz.underlying3 (by kernel_rfl) hf with ⟨hcs, _⟩ | ⟨x, l, c, zs, hcs, _, hl, hm, hz, hx, hcell, hwz⟩
    · simp [Value.cells] at hcs
      obtain ⟨rfl, rfl, rfl⟩ := hcs
      exact ⟨[], .inl ⟨rfl, rfl, rfl, rfl⟩, by simp⟩
    · simp [Value.cells] at hcs
      obtain ⟨rfl, rfl, rfl⟩ := hcs
      refine ⟨zs, .inr ⟨_, rfl, hl, hm, by simpa using hz, hcell, hwz⟩, ?_⟩
      simp only [Prod.mk.injEq] at hx
      have hd := hx.1
      have z := sized_slice hsz (j := 1) (t := 22) rfl (by rw [hd]; rfl) Tryz.underlying22
      have hb : Tryz.prog.bytesOf 3 = 8 := by kernel_rfl
      rw [hb] at z
      have hr : reachBytes ≤ 140737488351232 := by decide
      have hz' : zs.length = cap1 := by simpa using hz
      simp only [lits, List.length_map, List.length_take, List.length_drop] at z
      omega
  obtain ⟨e1, l1, hd1, hrep1, hlen1, hwf1⟩ := arg_row w1
  obtain ⟨a2, len2, cap2, rfl⟩ := okWide_slice Tryz.underlying22 (hval 2 22 v2 rfl rfl)
  have k2 := h2
  have lt2 : ∀ x ∈ p2, x.block < W.heap.size := by obtain ⟨m, hm⟩ := k2; exact DataW.trod_lt m _ _ _ hm
  obtain ⟨z2, w2, y2⟩ : ∃ zs, ((a2 = none ∧ len2 = 0 ∧ cap2 = 0 ∧ zs = []) ∨ ∃ x, a2 = some x ∧ len2 ≤ cap2 ∧ cap2 ≤ maxLen ∧ zs.length = cap2 ∧ (∀ i, i < zs.length → W.cell? (x.add i) = some (.int .i64 (zs.getD i 0))) ∧ ∀ n ∈ zs, (Lit.int .i64 n).wf = true) ∧ len2 * 8 ≤ 140737488351232 := by
    obtain ⟨fuel, hf⟩ := h2
    rcases open_ints Tryz.underlying22 Tryz.underlying3 (by kernel_rfl) hf with ⟨hcs, _⟩ | ⟨x, l, c, zs, hcs, _, hl, hm, hz, hx, hcell, hwz⟩
    · simp [Value.cells] at hcs
      obtain ⟨rfl, rfl, rfl⟩ := hcs
      exact ⟨[], .inl ⟨rfl, rfl, rfl, rfl⟩, by simp⟩
    · simp [Value.cells] at hcs
      obtain ⟨rfl, rfl, rfl⟩ := hcs
      refine ⟨zs, .inr ⟨_, rfl, hl, hm, by simpa using hz, hcell, hwz⟩, ?_⟩
      simp only [Prod.mk.injEq] at hx
      have hd := hx.1
      have z := sized_slice hsz (j := 2) (t := 22) rfl (by rw [hd]; rfl) Tryz.underlying22
      have hb : Tryz.prog.bytesOf 3 = 8 := by kernel_rfl
      rw [hb] at z
      have hr : reachBytes ≤ 140737488351232 := by decide
      have hz' : zs.length = cap2 := by simpa using hz
      simp only [lits, List.length_map, List.length_take, List.length_drop] at z
      omega
  obtain ⟨e2, l2, hd2, hrep2, hlen2, hwf2⟩ := arg_row w2
  clear hA0 hval0 hsz0 hsz
  refine (law_walk env4 (f := 5) (ds := [e0, e1, e2]) (vs := [.slice a0 len0 cap0, .slice a1 len1 cap1, .slice a2 len2 cap2]) (w := W) (tabOk_laid (by rw [← MakeChecks.laidMetH_plain _ _ _ (by kernel_rfl)]; exact hL) (List.mem_of_getElem? (i := 2) (by kernel_rfl))) (RepL.cons _ _ _ _ hrep0 (RepL.cons _ _ _ _ hrep1 (RepL.cons _ _ _ _ hrep2 RepL.nil))) (Pure.IntegerRing e0 l0 hd0 hwf0 (by rw [hlen0]; exact y0) e1 l1 hd1 hwf1 (by rw [hlen1]; exact y1) e2 l2 hd2 hwf2 (by rw [hlen2]; exact y2))).mono fun e W' ⟨he, bel⟩ => ?_
  subst he
  exact ⟨_, rfl, _, _, _, [], _, [], hW', trodAll_mk1 (shut_bool Tryz.underlying4 _), (trodAll_cons_mk (Below.trod laidOut (by kernel_rfl) (of_decide_eq_true (by kernel_rfl)) k0 bel lt0) (trodAll_cons_mk (Below.trod laidOut (by kernel_rfl) (of_decide_eq_true (by kernel_rfl)) k1 bel lt1) (trodAll_cons_mk (Below.trod laidOut (by kernel_rfl) (of_decide_eq_true (by kernel_rfl)) k2 bel lt2) trodAll_mk0))), rfl, bel.frame _, fun h => by cases h⟩
theorem over : Rows.integerRingRow.holds Tryz.pinned (OpenSpec.ofChange Rows.integerRingSpec) :=
  OpenClaim.holds_of_wide 5 Tryz.f5 rfl rfl rfl rfl rfl rfl rfl ⟨rfl, rfl, rfl, rfl, rfl⟩ rfl rfl rfl rfl rfl (by kernel_rfl) Tryz.func5 (by kernel_rfl)
    (of_decide_eq_true (by kernel_rfl)) (by unfold Func.isWrapper; first | (rw [if_pos (by decide +kernel)]; kernel_rfl) | (rw [if_neg (by decide +kernel)]; exact ⟨rfl, rfl⟩))
    (fun os started H enc _ => lifted os started H enc)
theorem card : Rows.IntegerRingCardSaid :=
  Claim7.holds_tied_plain_at .later [] [.data, .data, .data, .data, .sentinel, .sentinel, .pinned] true (true, "8f30b765037cb7f36d521e85c7b3d15f44d2f8c8747fa73e3d59755b044424b0") true over (fun _ h => by cases h) (by kernel_rfl) (fun _ h => by cases h) integerRing_row_tie rfl ⟨rfl, rfl⟩ (by kernel_rfl) rfl
    (fun f fn hf hfn => by
      obtain rfl : f = 5 := Option.some.inj ((show Tryz.prog.funcNamed "gantry/gantrylaw04.IntegerRing" = some 5 by kernel_rfl).symm.trans hf) |>.symm
      obtain rfl : fn = Tryz.f5 := (Option.some.inj (Tryz.func5.symm.trans hfn)).symm
      exact ⟨by kernel_rfl, fun j t ht => by
        rw [Tryz.params5] at ht
        have hm : t ∈ [22, 22, 22] := by simpa using Array.mem_of_getElem? ht
        have hall : ([22, 22, 22].all fun u => !Tryz.prog.wantsStandIn u) = true := by kernel_rfl
        exact (show Tryz.prog.wantsStandIn t = false by simpa using List.all_eq_true.1 hall t hm)⟩)
    (by kernel_rfl)
end Go.Proofs.YtecihganhcapoaaGreatDoor.integerRing
namespace Go.Proofs.YtecihganhcapoaaGreatDoor
theorem integerRing_holds : Rows.IntegerRingCardSaid := integerRing.card
end Go.Proofs.YtecihganhcapoaaGreatDoor


