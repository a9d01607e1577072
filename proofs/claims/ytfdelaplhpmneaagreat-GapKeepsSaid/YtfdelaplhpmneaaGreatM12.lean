/- Part 12 of the proof: a small machine, its soundness against the model, and what the program's functions compute on it. -/
import Derived.Test.YtfdelaplhpmneaaGreatM11
import Derived.KernelRfl
import Derived.Test.YtfdelaplhpmneaaGreatRows
import Derived.Test.YtfdelaplhpmneaaGreatM6
import Derived.WalkKit
import Derived.ProofKit
import Derived.OpenShut
import Derived.ShutString
import Derived.ChangeOld
import Derived.Below
import Derived.SizedLaws
set_option linter.unusedVariables false
set_option linter.unusedSimpArgs false
/- The hulls of all QiH of base shapes, by the kernel (part 1). -/
namespace Go.AM
open Go Go.RowKit
theorem hul_22 : hulA 2 2 = true := by kernel_rfl
theorem hul_23 : hulA 2 3 = true := by kernel_rfl
theorem hul_24 : hulA 2 4 = true := by kernel_rfl
theorem hul_26 : hulA 2 6 = true := by kernel_rfl
end Go.AM

/- The hulls of all QiH of base shapes, by the kernel (part 2). -/
namespace Go.AM
open Go Go.RowKit
theorem hul_25 : hulA 2 5 = true := by kernel_rfl
theorem hul_32 : hulA 3 2 = true := by kernel_rfl
theorem hul_33 : hulA 3 3 = true := by kernel_rfl
theorem hul_34 : hulA 3 4 = true := by kernel_rfl
theorem hul_36 : hulA 3 6 = true := by kernel_rfl
theorem hul_42 : hulA 4 2 = true := by kernel_rfl
theorem hul_43 : hulA 4 3 = true := by kernel_rfl
theorem hul_44 : hulA 4 4 = true := by kernel_rfl
theorem hul_46 : hulA 4 6 = true := by kernel_rfl
end Go.AM

/- The hulls of all QiH of base shapes, by the kernel (part 3). -/
namespace Go.AM
open Go Go.RowKit
theorem hul_52 : hulA 5 2 = true := by kernel_rfl
theorem hul_62 : hulA 6 2 = true := by kernel_rfl
theorem hul_63 : hulA 6 3 = true := by kernel_rfl
theorem hul_64 : hulA 6 4 = true := by kernel_rfl
theorem hul_66 : hulA 6 6 = true := by kernel_rfl
theorem hul_35 : hulA 3 5 = true := by kernel_rfl
theorem hul_53 : hulA 5 3 = true := by kernel_rfl
end Go.AM

/- The hulls of all QiH of base shapes, by the kernel (part 4). -/
namespace Go.AM
open Go Go.RowKit
theorem hul_55 : hulA 5 5 = true := by kernel_rfl
theorem hul_45 : hulA 4 5 = true := by kernel_rfl
theorem hul_54 : hulA 5 4 = true := by kernel_rfl
theorem hul_56 : hulA 5 6 = true := by kernel_rfl
theorem hul_65 : hulA 6 5 = true := by kernel_rfl
end Go.AM

/- Supports, plain: the directions of the shapes; a point of a shape is no further along them than Most. -/
namespace Go.AM
open Go Go.RowKit
end Go.AM

/- The hulls of all QiH of shapes. -/
namespace Go.AM
open Go Go.RowKit
theorem hul_bas {e f : Int} (he : e ∈ ([2, 3, 4, 5, 6] : List Int)) (hf : f ∈ ([2, 3, 4, 5, 6] : List Int)) : hulA e f = true := by
  simp only [List.mem_cons, List.not_mem_nil, or_false] at he hf
  rcases he with rfl | rfl | rfl | rfl | rfl <;> rcases hf with rfl | rfl | rfl | rfl | rfl
  · exact hul_22
  · exact hul_23
  · exact hul_24
  · exact hul_25
  · exact hul_26
  · exact hul_32
  · exact hul_33
  · exact hul_34
  · exact hul_35
  · exact hul_36
  · exact hul_42
  · exact hul_43
  · exact hul_44
  · exact hul_45
  · exact hul_46
  · exact hul_52
  · exact hul_53
  · exact hul_54
  · exact hul_55
  · exact hul_56
  · exact hul_62
  · exact hul_63
  · exact hul_64
  · exact hul_65
  · exact hul_66
theorem Qqe {P : Pt → Prop} {all : List Pt} {fs : Pt} (hA : ∀ p ∈ all, P p) {x : List Pt} : ∀ (f : Nat) (O : List Pt) (l : Pt), (∀ p ∈ O, P p) → P l → hulC all fs f O l = some x → ∀ p ∈ x, P p
  | 0, _, _, _, _, h => by cases h
  | f + 1, O, l, hO, hl, h => by
    have hz : P (nxC all l) := by
      have : ∀ (L : List Pt) (b : Pt), (∀ p ∈ L, P p) → P b → P (L.foldl (bsS l) b) := by
        intro L
        induction L with
        | nil => intro b _ hb; exact hb
        | cons p L ih =>
          intro b hL hb
          rw [List.foldl_cons]
          refine ih _ (fun q hq => hL q (List.mem_cons_of_mem _ hq)) ?_
          unfold bsS
          split
          · exact hL p (List.mem_cons_self ..)
          · exact hb
      exact this all l hA hl
    rw [hulC] at h
    split at h
    · cases h; exact hO
    · refine Qqe hA f _ _ ?_ hz h
      intro p hp
      rcases List.mem_append.1 hp with hp | hp
      · exact hO p hp
      · rw [List.mem_singleton.1 hp]; exact hz
theorem QjY (l : List Int) : ∀ p ∈ spP l, -40 ≤ p.1 ∧ p.1 ≤ 40 ∧ -40 ≤ p.2 ∧ p.2 ≤ 40 := by
  intro p hp
  obtain ⟨h1, h2, h3, h4, h5⟩ := sh_b l
  obtain ⟨q, hq, rfl⟩ := List.mem_map.1 hp
  have := spB_sm (c := spC l) h2 h3 q hq
  unfold mvP
  dsimp only
  omega
theorem hul_sh (l m : List Int) : ∃ x, Hul (spP l) (spP m) x ∧ ∀ p ∈ x, -80 ≤ p.1 ∧ p.1 ≤ 80 ∧ -80 ≤ p.2 ∧ p.2 ≤ 80 := by
  obtain ⟨h1, h2, h3, h4, h5⟩ := sh_b l
  obtain ⟨k1, k2, k3, k4, k5⟩ := sh_b m
  obtain ⟨e, he, ma⟩ := bas_mem h1 h2 h3
  obtain ⟨f, hf, mb⟩ := bas_mem k1 k2 k3
  have h := hul_bas he hf
  unfold hulA at h
  rw [List.all_eq_true] at h
  have h := h _ ma
  rw [List.all_eq_true] at h
  obtain ⟨x, hx⟩ := hul_of (h _ mb)
  have la := QmZ (spC l) (spK l) (spM l)
  have lb := QmZ (spC m) (spK m) (spM m)
  have := hul_mv (spX l) (spY l) (spX m) (spY m) (by omega) (by omega) hx
  refine ⟨_, this, ?_⟩
  have hA : ∀ p ∈ suA (spP l) (spP m), -80 ≤ p.1 ∧ p.1 ≤ 80 ∧ -80 ≤ p.2 ∧ p.2 ≤ 80 := by
    intro p hp
    unfold suA at hp
    obtain ⟨q, hq, hp⟩ := List.mem_flatMap.1 hp
    unfold suR at hp
    obtain ⟨r, hr, rfl⟩ := List.mem_map.1 hp
    have := QjY l q hq
    have := QjY m r hr
    dsimp only
    omega
  have hne : 0 < (suA (spP l) (spP m)).length := by
    have e : 0 < (spP l).length := by unfold spP; rw [List.length_map]; omega
    have e2 : 0 < (spP m).length := by unfold spP; rw [List.length_map]; omega
    rw [suA_len]
    exact Nat.mul_pos e e2
  have hd : ∀ i, (fun p : Pt => -80 ≤ p.1 ∧ p.1 ≤ 80 ∧ -80 ≤ p.2 ∧ p.2 ≤ 80) ((suA (spP l) (spP m)).getD i default) := fun i => by
    by_cases hi : i < (suA (spP l) (spP m)).length
    · exact hA _ (by rw [List.getD_eq_getElem?_getD, List.getElem?_eq_getElem hi]; exact List.getElem_mem hi)
    · rw [List.getD_eq_getElem?_getD, List.getElem?_eq_none (by omega)]
      exact ⟨by decide, by decide, by decide, by decide⟩
  have hf0 := Qpm (P := fun p : Pt => -80 ≤ p.1 ∧ p.1 ≤ 80 ∧ -80 ≤ p.2 ∧ p.2 ≤ 80) hd ((suA (spP l) (spP m)).length - 1)
  exact Qqe (P := fun p : Pt => -80 ≤ p.1 ∧ p.1 ≤ 80 ∧ -80 ≤ p.2 ∧ p.2 ≤ 80) hA 17 _ _ (fun p hp => by rw [List.mem_singleton.1 hp]; exact hf0) hf0 this.c
/-- Beside the edges: inside the hull. -/
theorem hul_in {a b x : List Pt} (h : Hul a b x) {v : Vc} : hsP x v = true ↔ ∀ d ∈ uqS a b, dotR d v ≤ ((moP d a + moP (tnD d) b : Int) : Rat) := by
  have key : ∀ i d, i < x.length → onE a b x d i = true → (hsB x v i ≤ hsA x v i ↔ dotR d v ≤ ((moP d a + moP (tnD d) b : Int) : Rat)) := by
    intro i d hi he
    unfold onE at he
    dsimp only at he
    generalize (if d.1 = 0 then (-(sdx x i)).tdiv d.2.1 else (sdy x i).tdiv d.1) = t at he
    simp only [Bool.and_eq_true, decide_eq_true_eq] at he
    obtain ⟨⟨⟨h0, h1⟩, h2⟩, h3⟩ := he
    rw [← h3]
    have e1 : (nxP x i).1 - (x.getD i default).1 = sdx x i := rfl
    have e2 : (nxP x i).2 - (x.getD i default).2 = sdy x i := rfl
    unfold hsA hsB dotR dotI
    rw [e1, e2, h1, show sdx x i = -(t * d.2.1) by omega]
    generalize x.getD i default = p
    obtain ⟨n1, n2, n3⟩ := d
    obtain ⟨p1, p2⟩ := p
    obtain ⟨v1, v2⟩ := v
    dsimp only
    have ht : (0 : Rat) < (t : Rat) := by exact_mod_cast h0
    push_cast
    generalize (t : Rat) = T at *
    generalize (n1 : Rat) = N1
    generalize (n2 : Rat) = N2
    generalize (p1 : Rat) = P1
    generalize (p2 : Rat) = P2
    constructor
    · intro h
      have h4 : T * (N1 * v1 + N2 * v2) ≤ T * (N1 * P1 + N2 * P2) := by grind
      exact Rat.le_of_mul_le_mul_left h4 ht
    · intro h
      have h4 : T * (N1 * v1 + N2 * v2) ≤ T * (N1 * P1 + N2 * P2) := Rat.mul_le_mul_of_nonneg_left h (Rat.le_of_lt ht)
      grind
  constructor
  · intro hh d hd
    obtain ⟨i, hi, he⟩ := h.one d hd
    exact (key i d hi he).1 (hsP_at hh hi)
  · intro hh
    have : ∀ j i, i + j = x.length → hsF x v j i = true := by
      intro j
      induction j with
      | zero => intro i _; rfl
      | succ j ih =>
        intro i hi
        obtain ⟨d, hd, he⟩ := h.two i (by omega)
        have := (key i d (by omega) he).2 (hh d hd)
        rw [hsF, if_neg (by rw [decide_eq_false (Rat.not_lt.2 this)]; simp)]
        exact ih (i + 1) (by omega)
    exact this x.length 0 (by omega)
end Go.AM

namespace Go.AM
open Go Go.RowKit
def QkI (O : List Eg) (x : List Pt) (r v w : Vc) (k i : Int) : St := mkS [(9, .d (rowE cG O)), (10, .d (rowE cP x)), (11, .ptr [11] 0), (12, .ptr [12] 0), (13, .ptr [13] 0), (14, ai k), (15, ai i)] [([11], bxV r), ([12], bxV v), ([13], bxV w)]
def Qot (O : List Eg) (x : List Pt) (r v : Vc) : St := mkS [(9, .d (rowE cG O)), (10, .d (rowE cP x)), (11, .ptr [11] 0), (12, .ptr [12] 0)] [([11], bxV r), ([12], bxV v)]
theorem st8k (a b c d e f g h i j k l m n o p : A) : Qae 0 [a, b, c, d, e, f, g, h] [i, j, k, l, m, n, o, p] = some [a, b, c, d, e, f, g, h] := rfl
theorem i64_4 : I64 4 := ⟨by omega, by omega⟩
theorem div4_b {i : Nat} (h : i ≤ 4) : 0 ≤ Rat.divInt i 4 ∧ Rat.divInt i 4 ≤ 1 := by
  match i, h with
  | 0, _ => exact ⟨by decide, by decide⟩
  | 1, _ => exact ⟨by decide, by decide⟩
  | 2, _ => exact ⟨by decide, by decide⟩
  | 3, _ => exact ⟨by decide, by decide⟩
  | 4, _ => exact ⟨by decide, by decide⟩
theorem gk_go {O : List Eg} {x : List Pt} {r v w : Vc} (hO : ∀ e ∈ O, AtE e) (hn : O.length ≤ 1000) (hr : SzV 3 r) (hv : SzV 3 v) (hw : SzV 3 w) {k : Nat} (hk : k < O.length) (hS : staG (alP (O.getD k default) r v w) = true) {i : Nat} (hi : i ≤ 4) :
    X G QaC (QkI O x r v w k i) = some (.n, QkI O x r v w k ((i + 1 : Nat) : Int)) := by
  have e1 : decide ((i : Int) ≤ 4) = true := decide_eq_true (by omega)
  have e2 : w64 ((i : Int) + 1) = ((i + 1 : Nat) : Int) := by rw [Qac (by omega) (by omega)]; rfl
  have e3 : decide ((k : Int) ≥ 0) = true := decide_eq_true (by omega)
  have ll : lenA (.d (rowE cG O)) = some O.length := rfl
  have x1 := RwE.ixa (d := rowE cG O) (l := O) QeT (.inr rfl) hk
  have x2 := fun hp => ldE QeT hp hk
  have hs := div4_b hi
  have i1 : I64 (i : Int) := ⟨by omega, by omega⟩
  have o1 := QbU i1 i64_4
  have o2 := QbU QeV Qob
  have z1 := QpZ i1 i64_4
  have z2 := QpZ QeV Qob
  have he := atE0 hO hk
  have pos := sta_nn (p := alP (O.getD k default) r v w) (Nat.le_trans (QhI _) (by simp [alL])) (Qqj _) hS hs.1 hs.2
  rw [← gp_po] at pos
  clear hS hs i1
  have m1 := Qct (a := Rat.divInt i 4) (b := Rat.divInt i 4) (by omega) (by omega)
  have z3 := QeM (a := Rat.divInt i 4) (b := Rat.divInt i 4)
  have m2 := Qct (a := Rat.divInt i 4 * Rat.divInt i 4) (b := Rat.divInt 1 2) (by omega) (by omega)
  have z4 := QeM (a := Rat.divInt i 4 * Rat.divInt i 4) (b := Rat.divInt 1 2)
  have t1 := Qjg (K := 30) (k := Rat.divInt i 4) (by omega) (by omega) (hv.mono (by omega))
  have t2 := Qjg (K := 30) (k := Rat.divInt i 4 * Rat.divInt i 4 * Rat.divInt 1 2) (by omega) (by omega) (hw.mono (by omega))
  have y1 := QqZ (L := 12) (k := Rat.divInt i 4) (by omega) hv
  have y2 := QqZ (L := 12) (k := Rat.divInt i 4 * Rat.divInt i 4 * Rat.divInt 1 2) (by omega) hw
  have p1 := Qft (K := 30) (by omega) (y1.mono (by omega)) (y2.mono (by omega))
  have y3 := QlG y1 y2
  have p2 := Qft (K := 100) (by omega) (hr.mono (by omega)) (y3.mono (by omega))
  have y4 := QlG hr y3
  have ep : plV r (plV (tmV (Rat.divInt i 4) v) (tmV (Rat.divInt i 4 * Rat.divInt i 4 * Rat.divInt 1 2) w)) = poV r v w (Rat.divInt i 4) := rfl
  rw [ep] at p2 y4
  have g1 := Qn3 (d := rowE cG O) (K := 100) (.inr rfl) hn (by omega) hO (y4.mono (by omega))
  have mf : meG O (poV r v w (Rat.divInt i 4)) = false := by
    rw [Bool.eq_false_iff]
    intro h
    rw [Qpy] at h
    exact absurd pos (Rat.not_le.2 (h _ (egm hk)))
  rw [mf] at g1
  have g2 := QeF (K := 100) (by omega) he (y4.mono (by omega))
  have g3 := Qbs (gpR (O.getD k default) (poV r v w (Rat.divInt i 4)))
  have tn : decide (Int.sign (gpR (O.getD k default) (poV r v w (Rat.divInt i 4))).num < 0) = false := by rw [Qm4]; exact decide_eq_false (Rat.not_lt.2 pos)
  clear z1 z2 z3 z4 y1 y2 y3 y4 ep mf pos hr hv hw he hO
  generalize gpR (O.getD k default) (poV r v w (Rat.divInt i 4)) = gq at *
  generalize poV r v w (Rat.divInt i 4) = p at *
  generalize plV (tmV (Rat.divInt i 4) v) (tmV (Rat.divInt i 4 * Rat.divInt i 4 * Rat.divInt 1 2) w) = p3 at *
  generalize tmV (Rat.divInt i 4) v = p4 at *
  generalize tmV (Rat.divInt i 4 * Rat.divInt i 4 * Rat.divInt 1 2) w = p5 at *
  generalize Rat.divInt i 4 * Rat.divInt i 4 * Rat.divInt 1 2 = q1 at *
  generalize Rat.divInt i 4 * Rat.divInt i 4 = q2 at *
  generalize Rat.divInt i 4 = q3 at *
  generalize Rat.divInt 1 2 = q4 at *
  generalize Int.sign gq.num = sg at *
  generalize O.getD k default = e at *
  obtain ⟨⟨a1, b1, c1⟩, d1⟩ := e
  obtain ⟨rx, ry⟩ := r
  obtain ⟨vx, vy⟩ := v
  obtain ⟨wx, wy⟩ := w
  obtain ⟨px, py⟩ := p
  obtain ⟨px3, py3⟩ := p3
  obtain ⟨px4, py4⟩ := p4
  obtain ⟨px5, py5⟩ := p5
  simp only [encG, cG, encV, encR, iv, bv] at x2 o1 o2 m1 m2 t1 t2 p1 p2 g1 g2 g3
  simp -implicitDefEqProofs (maxSteps := 10000000) only [QaC, QkI, bxV, e1, e2, e3, ll, x1, x2, o1, o2, m1, m2, t1, t2, p1, p2, g1, g2, g3, tn, st4', Qei, st8k, ld8, Qaz, QaL, Qcu, decide_true, decide_false, tupG, Qad, go_sem, iv, bv, reduceCtorEq, ↓reduceIte, Nat.reduceEqDiff]
theorem gk_stop {O : List Eg} {x : List Pt} {r v w : Vc} {k : Int} : X G QaC (QkI O x r v w k ((5 : Nat) : Int)) = some (.x 0, Qot O x r v) := by
  have e1 : decide (((5 : Nat) : Int) ≤ 4) = false := decide_eq_false (by omega)
  simp -implicitDefEqProofs (maxSteps := 10000000) only [QaC, QkI, Qot, bxV, e1, Qaz, QaL, Qcu, decide_true, decide_false, tupG, Qad, go_sem, iv, bv, reduceCtorEq, ↓reduceIte, Nat.reduceEqDiff]
theorem gk_none {O : List Eg} {x : List Pt} {r v w : Vc} : X G QaC (QkI O x r v w (-1) 0) = some (.x 0, Qot O x r v) := by
  have e1 : decide ((0 : Int) ≤ 4) = true := rfl
  have e2 : decide ((-1 : Int) ≥ 0) = false := decide_eq_false (by omega)
  simp -implicitDefEqProofs (maxSteps := 10000000) only [QaC, QkI, Qot, bxV, e1, e2, Qaz, QaL, Qcu, decide_true, decide_false, tupG, Qad, go_sem, iv, bv, reduceCtorEq, ↓reduceIte, Nat.reduceEqDiff]
theorem gk_loop {O : List Eg} {x : List Pt} {r v w : Vc} (hO : ∀ e ∈ O, AtE e) (hn : O.length ≤ 1000) (hr : SzV 3 r) (hv : SzV 3 v) (hw : SzV 3 w) {k : Nat} (hk : k < O.length) (hS : staG (alP (O.getD k default) r v w) = true) : ∀ (j i : Nat), i + j = 5 →
    X G (.loop QaC) (QkI O x r v w k i) = some (.x 0, Qot O x r v)
  | 0, i, h => by
    have : i = 5 := by omega
    subst this
    rw [Qak, gk_stop]; rfl
  | j + 1, i, h => by
    rw [Qak, gk_go hO hn hr hv hw hk hS (by omega), Option.bind_some, if_pos rfl]
    exact gk_loop hO hn hr hv hw hk hS j (i + 1) (by omega)
theorem gk_all {O : List Eg} {x : List Pt} {r v w : Vc} (hO : ∀ e ∈ O, AtE e) (hn : O.length ≤ 1000) (hr : SzV 3 r) (hv : SzV 3 v) (hw : SzV 3 w) {k : Int} (hk : k = -1 ∨ ∃ n : Nat, n < O.length ∧ k = (n : Int) ∧ staG (alP (O.getD n default) r v w) = true) :
    X G (.loop QaC) (QkI O x r v w k 0) = some (.x 0, Qot O x r v) := by
  rcases hk with rfl | ⟨n, h1, rfl, h3⟩
  · have := gk_none (O := O) (x := x) (r := r) (v := v) (w := w)
    rw [Qak, this]; rfl
  · exact gk_loop hO hn hr hv hw h1 h3 5 0 (by omega)
theorem in_of {a b x : List Pt} (h : Hul a b x) (hO : ∀ e ∈ sdP a b, AtE e) {r : Vc} (hm : meG (sdP a b) r = true) : hsP x r = true := by
  rw [hul_in h]
  rw [Qpy] at hm
  intro d hd
  have he : edP a b d ∈ sdP a b := by rw [sdP_uq]; exact List.mem_map.2 ⟨d, hd, rfl⟩
  have := hm _ he
  exact ((gp_le (hO _ he).1 r).1).1 (Rat.le_of_lt this)
theorem be_of {O : List Eg} {r v : Vc} : beG O r v = -1 ∨ ∃ k : Nat, k < O.length ∧ beG O r v = (k : Int) ∧ 0 ≤ gpR (O.getD k default) r := by
  unfold beG
  rcases grS_at (fun e => (gpR e v, decide (0 ≤ gpR e r))) O O.length with ⟨h1, _⟩ | ⟨k, h1, h2, h3⟩
  · exact .inl h1
  · exact .inr ⟨k, h1, h2, of_decide_eq_true h3⟩
end Go.AM
namespace Go.Proofs.YtfdelaplhpmneaaGreat.Pure
open Go Go.AM
set_option maxHeartbeats 1000000 in
theorem GapKeeps (e0 : D) (l0 : List Int) (hd0 : Dg e0 l0) (hwf0 : ∀ n ∈ l0, (Lit.int .i64 n).wf = true) (hlen0 : l0.length * 8 ≤ 140737488351232) (e1 : D) (l1 : List Int) (hd1 : Dg e1 l1) (hwf1 : ∀ n ∈ l1, (Lit.int .i64 n).wf = true) (hlen1 : l1.length * 8 ≤ 140737488351232) (e2 : D) (l2 : List Int) (hd2 : Dg e2 l2) (hwf2 : ∀ n ∈ l2, (Lit.int .i64 n).wf = true) (hlen2 : l2.length * 8 ≤ 140737488351232) : Qaj G Qf7 [e0, e1, e2] = some (.d (bv true)) := by
  have w2 : ∀ n ∈ l2, I64 n := fun n hn => Qmh (hwf2 n hn)
  have g0 := QgD (QgT hd0) (fun n hn => Qmh (hwf0 n hn))
  have g1 := QgD (QgT hd1) (fun n hn => Qmh (hwf1 n hn))
  have ga := gd_sh l0
  have gb := gd_sh l1
  obtain ⟨x, hx, hs⟩ := hul_sh l0 l1
  have ba : ∀ p ∈ spP l0, -40000000 ≤ p.1 ∧ p.1 ≤ 40000000 ∧ -40000000 ≤ p.2 ∧ p.2 ≤ 40000000 := fun p hp => by have := QjY l0 p hp; omega
  have bb : ∀ p ∈ spP l1, -40000000 ≤ p.1 ∧ p.1 ≤ 40000000 ∧ -40000000 ≤ p.2 ∧ p.2 ≤ 40000000 := fun p hp => by have := QjY l1 p hp; omega
  have la := (lim_sh l0).1.hi
  have lb := (lim_sh l1).1.hi
  have g2 := QpV (da := rowE cP (spP l0)) (db := rowE cP (spP l1)) (.inr rfl) (.inr rfl) ga gb
  have g3 := cSum_spec (da := rowE cP (spP l0)) (db := rowE cP (spP l1)) (.inr rfl) (.inr rfl) ba bb la lb ga.pos gb.pos hx.c
  have hsm : ∀ p ∈ x, SmP p := fun p hp => by have := hs p hp; simp only [SmP, Sm]; omega
  have a0 := Qc9 (i := 0) (m := 96) (QgT hd2) w2 (by omega)
  have a1 := Qc9 (i := 1) (m := 96) (QgT hd2) w2 (by omega)
  have a2 := Qc9 (i := 2) (m := 96) (QgT hd2) w2 (by omega)
  have a3 := Qc9 (i := 3) (m := 96) (QgT hd2) w2 (by omega)
  have a4 := Qc9 (i := 4) (m := 96) (QgT hd2) w2 (by omega)
  have a5 := Qc9 (i := 5) (m := 96) (QgT hd2) w2 (by omega)
  have v0 := QgL (QjG l2 0) (QjG l2 1)
  have v1 := QgL (QjG l2 2) (QjG l2 3)
  have v2 := QgL (QjG l2 4) (QjG l2 5)
  have s0 := Ql5 (atr l2 0 96) (atr l2 1 96)
  have s1 := Ql5 (atr l2 2 96) (atr l2 3 96)
  have s2 := Ql5 (atr l2 4 96) (atr l2 5 96)
  have hO := sdP_at ga gb
  have hn := sdP_len ga gb
  have hin := fun r hm => in_of hx hO (r := r) hm
  generalize (vcR (atr l2 0 96), vcR (atr l2 1 96)) = r at *
  generalize (vcR (atr l2 2 96), vcR (atr l2 3 96)) = v at *
  generalize (vcR (atr l2 4 96), vcR (atr l2 5 96)) = w at *
  have x3 := hx.three
  have x10 := hx.ten
  clear hx hs
  generalize sdP (spP l0) (spP l1) = O at *
  have f1 := Qpt (d := rowE cG O) (O := O) (r := r) (v := v) (a := w) (.inr rfl) (by omega) (by omega) hO s0 s1 s2
  have f2 : fiE (fun e => staG (alP e r v w)) O O.length 0 = -1 ∨ ∃ n : Nat, n < O.length ∧ fiE (fun e => staG (alP e r v w)) O O.length 0 = (n : Int) ∧ staG (alP (O.getD n default) r v w) = true := by
    rcases fiE_at (fun e => staG (alP e r v w)) O O.length 0 (by omega) with ⟨h1, _⟩ | ⟨k, _, h2, h3, h4⟩
    · exact .inl h1
    · exact .inr ⟨k, h2, h3, h4⟩
  generalize fiE (fun e => staG (alP e r v w)) O O.length 0 = k at *
  have gl := gk_all (x := x) hO (by omega) s0 s1 s2 f2
  have kb : -1 ≤ k ∧ k < O.length := by rcases f2 with h | ⟨n, h1, h2, _⟩ <;> omega
  have t1 : decide (k ≥ (O.length : Int)) = false := decide_eq_false (by omega)
  have t2 : decide (k < -1) = false := lt_f (by omega)
  have t3 : decide ((x.length : Int) < 3) = false := lt_f (by omega)
  have m1 := Qn3 (d := rowE cG O) (.inr rfl) (by omega) (by omega) hO s0
  have p1 := Qft (K := 30) (by omega) (s0.mono (by omega)) (s1.mono (by omega))
  have pz := QlG s0 s1
  have b1 := Best_spec (d := rowE cG O) (K := 30) (.inr rfl) (by omega) (by omega) hO (s0.mono (by omega)) (pz.mono (by omega))
  have hb := meG_beG O r (plV r v)
  have bo := be_of (O := O) (r := r) (v := plV r v)
  have hh := cHas_spec (d := rowE cP x) (K := 30) (.inr rfl) hsm x10 (by omega) (s0.mono (by omega))
  have hi2 := hin r
  have lx : lenA (.d (rowE cP x)) = some x.length := rfl
  have lO : lenA (.d (rowE cG O)) = some O.length := rfl
  have lv := lives13
  rw [Qaf (cf := gantrylaw13_GapKeeps) rfl]
  clear f2 kb hin ga gb ba bb la lb x3 x10 hsm hn pz hd2 w2 hwf2 hlen2
  generalize hsP x r = hs at *
  generalize hm : meG O r = m at *
  rcases bo with bo | ⟨n, hn, bo, gp⟩
  · rw [bo] at b1 hb
    have hb : m = true := by rw [hb]; rfl
    subst hb
    obtain rfl := hi2 rfl
    clear hm s0 s1 s2 hO
    generalize plV r v = pv at *
    obtain ⟨rx, ry⟩ := r
    obtain ⟨vx, vy⟩ := v
    obtain ⟨wx, wy⟩ := w
    obtain ⟨px, py⟩ := pv
    have t4 : ((-1 : Int) == -1) = true := rfl
    have t5 : decide ((-1 : Int) < 0) = true := rfl
    simp only [QkI, Qot, bxV, rowE, nc0, go_sem] at gl
    simp only [encV, rowE, iv, bv] at g0 g1 g2 g3 a0 a1 a2 a3 a4 a5 v0 v1 v2 lv f1 m1 p1 b1 hh lx lO
    simp -implicitDefEqProofs (maxSteps := 10000000) only [gantrylaw13_GapKeeps, gl, g0, g1, g2, g3, a0, a1, a2, a3, a4, a5, v0, v1, v2, lv, f1, m1, p1, b1, hh, t1, t2, t3, t4, t5, lx, lO, List.map_cons, List.map_nil, beq_self_eq_true, Bool.not_true, Bool.not_false, decide_true, decide_false, tupG, Qad, st8k, ld8, Qaz, QaL, Qcu, go_sem, iv, bv, reduceCtorEq, ↓reduceIte, Nat.reduceEqDiff]
  · rw [bo] at b1 hb
    have hb : m = false := by rw [hb]; exact decide_eq_false (by omega)
    subst hb
    have he := hO _ (egm hn)
    have x1 := RwE.ixa (d := rowE cG O) (l := O) QeT (.inr rfl) hn
    have x2 := fun hp => ldE QeT hp hn
    have q1 := QeF (K := 100) (by omega) he (s0.mono (by omega))
    have q2 := Qbs (gpR (O.getD n default) r)
    have t6 : decide (Int.sign (gpR (O.getD n default) r).num ≥ 0) = true := by rw [Qk3]; exact decide_eq_true gp
    have t4 : ((n : Int) == -1) = false := Qdz (by omega)
    have t5 : decide ((n : Int) < 0) = false := lt_f (by omega)
    have t7 : decide ((n : Int) < (O.length : Int)) = true := lt_t (by omega)
    clear hm s0 s1 s2 hO he gp bo hi2
    generalize gpR (O.getD n default) r = gq at *
    generalize Int.sign gq.num = sg at *
    generalize O.getD n default = e at *
    generalize plV r v = pv at *
    obtain ⟨⟨c1, c2, c3⟩, c4⟩ := e
    obtain ⟨rx, ry⟩ := r
    obtain ⟨vx, vy⟩ := v
    obtain ⟨wx, wy⟩ := w
    obtain ⟨px, py⟩ := pv
    simp only [QkI, Qot, bxV, rowE, nc0, go_sem] at gl
    simp only [encG, cG, encV, encR, rowE, iv, bv] at x1 x2 g0 g1 g2 g3 a0 a1 a2 a3 a4 a5 v0 v1 v2 lv f1 m1 p1 b1 hh lx lO q1 q2
    simp -implicitDefEqProofs (maxSteps := 10000000) only [gantrylaw13_GapKeeps, gl, g0, g1, g2, g3, a0, a1, a2, a3, a4, a5, v0, v1, v2, lv, f1, m1, p1, b1, hh, t1, t2, t3, t4, t5, t6, t7, x1, x2, q1, q2, lx, lO, List.map_cons, List.map_nil, beq_self_eq_true, Bool.not_true, Bool.not_false, decide_true, decide_false, tupG, Qad, st8k, ld8, Qaz, QaL, Qcu, go_sem, iv, bv, reduceCtorEq, ↓reduceIte, Nat.reduceEqDiff]
end Go.Proofs.YtfdelaplhpmneaaGreat.Pure

/- The row of GapKeeps, out of its Pure. Printed by row.py. -/
namespace Go.Proofs.YtfdelaplhpmneaaGreat.gapKeeps
open Go.ChangeShapes Go.WideShapes Go.ChangeAt Go.RowKit Go.AM
theorem own : ownKnob Tryz.prog.godebug = none := by kernel_rfl
theorem laidOut : laidOutB Tryz.prog = true := by kernel_rfl
set_option maxRecDepth 100000 in
theorem lifted (os : Os) (started : os.Started) (H : Type) (enc : TypeId × Value → H) :
    ReturnsInHanded {} Tryz.checked os 6 .any (Rows.gapKeepsSpec.pre6 enc Tryz.prog Tryz.f6 Rows.gapKeepsRow.domain false) (Rows.gapKeepsSpec.post enc Tryz.prog Tryz.f6 false true false false) := by
  refine returnsInHanded_of_change_sized (C := Tryz.checked) own started (by kernel_rfl) Tryz.func6
    (ChangeSpec.witness6 (enc := enc) (C := Tryz.checked) false ⟨#[], #[.slice none 0 0, .slice none 0 0, .slice none 0 0], []⟩ 8 (by kernel_rfl) (by kernel_rfl) (by kernel_rfl) (by kernel_rfl)) ?_
  intro W base args ds gs before hval0 hW hcnd hsz0 _
  have hsz : (DataW.weightsEach Tryz.prog (Tryz.f6.params.toList ++ Rows.gapKeepsSpec.plain.varTypes Tryz.prog) (ds ++ gs)).all (· ≤ reachBytes) = true := hsz0
  have hval : ∀ (j : Nat) t v, Tryz.f6.params[j]? = some t → args[j]? = some v → Value.okWide Tryz.prog W .any base t v := hval0
  have hW' := hW
  obtain ⟨p, q, hA0, hV, rfl, hfz, hnd⟩ := hW
  have hA : DataW.TrodAll enc Tryz.prog W 0 (fun _ => true) true Tryz.f6.params.toList args.toList ds p := hA0
  rw [Tryz.params6] at hA hval hsz
  obtain ⟨v0, vs0, d0, ds0, p0, q0, hargs, rfl, rfl, h0, r0⟩ := trodAll_cons hA
  obtain ⟨v1, vs1, d1, ds1, p1, q1, rfl, rfl, rfl, h1, r1⟩ := trodAll_cons r0
  obtain ⟨v2, vs2, d2, ds2, p2, q2, rfl, rfl, rfl, h2, r2⟩ := trodAll_cons r1
  obtain ⟨rfl, rfl, rfl⟩ := trodAll_nil r2
  obtain rfl : args = #[v0, v1, v2] := by cases args; simp_all
  obtain ⟨rfl, rfl⟩ := trodVars_none hV
  obtain ⟨a0, len0, cap0, rfl⟩ := okWide_slice Tryz.underlying22 (hval 0 22 v0 rfl rfl)
  have k0 := h0
  have lt0 : ∀ x ∈ p0, x.block < W.heap.size := by obtain ⟨m, hm⟩ := k0; exact DataW.trod_lt m _ _ _ hm
  obtain ⟨z0, w0, y0⟩ : ∃ zs, ((a0 = none ∧ len0 = 0 ∧ cap0 = 0 ∧ zs = []) ∨ ∃ x, a0 = some x ∧ len0 ≤ cap0 ∧ cap0 ≤ maxLen ∧ zs.length = cap0 ∧ (∀ i, i < zs.length → W.cell? (x.add i) = some (.int .i64 (zs.getD i 0))) ∧ ∀ n ∈ zs, (Lit.int .i64 n).wf = true) ∧ len0 * 8 ≤ 140737488351232 := by
    obtain ⟨fuel, hf⟩ := h0
    rcases open_ints Tryz.underlying22 Tryz.underlying3 (by kernel_rfl) hf with ⟨hcs, _⟩ | ⟨x, l, c, zs, hcs, _, hl, hm, hz, hx, hcell, hwz⟩
    · simp [Value.cells] at hcs
      obtain ⟨rfl, rfl, rfl⟩ := hcs
      exact ⟨[], .inl ⟨rfl, rfl, rfl, rfl⟩, by simp⟩
    · simp [Value.cells] at hcs
      obtain ⟨rfl, rfl, rfl⟩ := hcs
      refine ⟨zs, .inr ⟨_, rfl, hl, hm, by simpa using hz, hcell, hwz⟩, ?_⟩
      simp only [Prod.mk.injEq] at hx
      have hd := hx.1
      have z := sized_slice hsz (j := 0) (t := 22) rfl (by rw [hd]; rfl) Tryz.underlying22
      have hb : Tryz.prog.bytesOf 3 = 8 := by kernel_rfl
      rw [hb] at z
      have hr : reachBytes ≤ 140737488351232 := by decide
      have hz' : zs.length = cap0 := by simpa using hz
      simp only [lits, List.length_map, List.length_take, List.length_drop] at z
      omega
  obtain ⟨e0, l0, hd0, hrep0, hlen0, hwf0⟩ := Qpw w0
  obtain ⟨a1, len1, cap1, rfl⟩ := okWide_slice Tryz.underlying22 (hval 1 22 v1 rfl rfl)
  have k1 := h1
  have lt1 : ∀ x ∈ p1, x.block < W.heap.size := by obtain ⟨m, hm⟩ := k1; exact DataW.trod_lt m _ _ _ hm
  obtain ⟨z1, w1, y1⟩ : ∃ zs, ((a1 = none ∧ len1 = 0 ∧ cap1 = 0 ∧ zs = []) ∨ ∃ x, a1 = some x ∧ len1 ≤ cap1 ∧ cap1 ≤ maxLen ∧ zs.length = cap1 ∧ (∀ i, i < zs.length → W.cell? (x.add i) = some (.int .i64 (zs.getD i 0))) ∧ ∀ n ∈ zs, (Lit.int .i64 n).wf = true) ∧ len1 * 8 ≤ 140737488351232 := by
    obtain ⟨fuel, hf⟩ := h1
    rcases open_ints Tryz.underlying22 Tryz.underlying3 (by kernel_rfl) hf with ⟨hcs, _⟩ | ⟨x, l, c, zs, hcs, _, hl, hm, hz, hx, hcell, hwz⟩
    · simp [Value.cells] at hcs
      obtain ⟨rfl, rfl, rfl⟩ := hcs
      exact ⟨[], .inl ⟨rfl, rfl, rfl, rfl⟩, by simp⟩
    · simp [Value.cells] at hcs
      obtain ⟨rfl, rfl, rfl⟩ := hcs
      refine ⟨zs, .inr ⟨_, rfl, hl, hm, by simpa using hz, hcell, hwz⟩, ?_⟩
      simp only [Prod.mk.injEq] at hx
      have hd := hx.1
      have z := sized_slice hsz (j := 1) (t := 22) rfl (by rw [hd]; rfl) Tryz.underlying22
      have hb : Tryz.prog.bytesOf 3 = 8 := by kernel_rfl
      rw [hb] at z
      have hr : reachBytes ≤ 140737488351232 := by decide
      have hz' : zs.length = cap1 := by simpa using hz
      simp only [lits, List.length_map, List.length_take, List.length_drop] at z
      omega
  obtain ⟨e1, l1, hd1, hrep1, hlen1, hwf1⟩ := Qpw w1
  obtain ⟨a2, len2, cap2, rfl⟩ := okWide_slice Tryz.underlying22 (hval 2 22 v2 rfl rfl)
  have k2 := h2
  have lt2 : ∀ x ∈ p2, x.block < W.heap.size := by obtain ⟨m, hm⟩ := k2; exact DataW.trod_lt m _ _ _ hm
  obtain ⟨z2, w2, y2⟩ : ∃ zs, ((a2 = none ∧ len2 = 0 ∧ cap2 = 0 ∧ zs = []) ∨ ∃ x, a2 = some x ∧ len2 ≤ cap2 ∧ cap2 ≤ maxLen ∧ zs.length = cap2 ∧ (∀ i, i < zs.length → W.cell? (x.add i) = some (.int .i64 (zs.getD i 0))) ∧ ∀ n ∈ zs, (Lit.int .i64 n).wf = true) ∧ len2 * 8 ≤ 140737488351232 := by
    obtain ⟨fuel, hf⟩ := h2
    rcases open_ints Tryz.underlying22 Tryz.underlying3 (by kernel_rfl) hf with ⟨hcs, _⟩ | ⟨x, l, c, zs, hcs, _, hl, hm, hz, hx, hcell, hwz⟩
    · simp [Value.cells] at hcs
      obtain ⟨rfl, rfl, rfl⟩ := hcs
      exact ⟨[], .inl ⟨rfl, rfl, rfl, rfl⟩, by simp⟩
    · simp [Value.cells] at hcs
      obtain ⟨rfl, rfl, rfl⟩ := hcs
      refine ⟨zs, .inr ⟨_, rfl, hl, hm, by simpa using hz, hcell, hwz⟩, ?_⟩
      simp only [Prod.mk.injEq] at hx
      have hd := hx.1
      have z := sized_slice hsz (j := 2) (t := 22) rfl (by rw [hd]; rfl) Tryz.underlying22
      have hb : Tryz.prog.bytesOf 3 = 8 := by kernel_rfl
      rw [hb] at z
      have hr : reachBytes ≤ 140737488351232 := by decide
      have hz' : zs.length = cap2 := by simpa using hz
      simp only [lits, List.length_map, List.length_take, List.length_drop] at z
      omega
  obtain ⟨e2, l2, hd2, hrep2, hlen2, hwf2⟩ := Qpw w2
  clear hA0 hval0 hsz0 hsz
  refine (law_walk envP (f := 6) (ds := [e0, e1, e2]) (vs := [.slice a0 len0 cap0, .slice a1 len1 cap1, .slice a2 len2 cap2]) (w := W) (Qn9 rfl W) (RepL.cons _ _ _ _ hrep0 (RepL.cons _ _ _ _ hrep1 (RepL.cons _ _ _ _ hrep2 RepL.nil))) (Pure.GapKeeps e0 l0 hd0 hwf0 (by rw [hlen0]; exact y0) e1 l1 hd1 hwf1 (by rw [hlen1]; exact y1) e2 l2 hd2 hwf2 (by rw [hlen2]; exact y2))).mono fun e W' ⟨he, bel⟩ => ?_
  subst he
  exact ⟨_, rfl, _, _, _, [], _, [], hW', trodAll_mk1 (shut_bool Tryz.underlying4 _), (trodAll_cons_mk (Below.trod laidOut (by kernel_rfl) (of_decide_eq_true (by kernel_rfl)) k0 bel lt0) (trodAll_cons_mk (Below.trod laidOut (by kernel_rfl) (of_decide_eq_true (by kernel_rfl)) k1 bel lt1) (trodAll_cons_mk (Below.trod laidOut (by kernel_rfl) (of_decide_eq_true (by kernel_rfl)) k2 bel lt2) trodAll_mk0))), rfl, bel.frame _, fun h => by cases h⟩
theorem over : Rows.gapKeepsRow.holds Tryz.pinned (OpenSpec.ofChange Rows.gapKeepsSpec) :=
  OpenClaim.holds_of_wide 6 Tryz.f6 rfl rfl rfl rfl rfl rfl rfl ⟨rfl, rfl, rfl, rfl, rfl⟩ rfl rfl rfl rfl rfl (by kernel_rfl) Tryz.func6 (by kernel_rfl)
    (of_decide_eq_true (by kernel_rfl)) (by unfold Func.isWrapper; first | (rw [if_pos (by decide +kernel)]; kernel_rfl) | (rw [if_neg (by decide +kernel)]; exact ⟨rfl, rfl⟩))
    (fun os started H enc _ => lifted os started H enc)
theorem proved : Rows.GapKeepsSaid := over
end Go.Proofs.YtfdelaplhpmneaaGreat.gapKeeps
namespace Go.Proofs.YtfdelaplhpmneaaGreat
theorem gapKeeps_holds : Rows.GapKeepsSaid := gapKeeps.proved
end Go.Proofs.YtfdelaplhpmneaaGreat


