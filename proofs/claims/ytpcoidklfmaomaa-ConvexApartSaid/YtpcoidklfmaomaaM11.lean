/- Part 11 of the proof: a small machine, its soundness against the model, and what the program's functions compute on it. -/
import Derived.Test.YtpcoidklfmaomaaM10
import Derived.Test.YtpcoidklfmaomaaRows
import Derived.Test.YtpcoidklfmaomaaM6
import Derived.WalkKit
import Derived.ProofKit
import Derived.OpenShut
import Derived.ShutString
import Derived.ChangeOld
import Derived.Below
import Derived.SizedLaws
set_option linter.unusedVariables false
set_option linter.unusedSimpArgs false
namespace Go.AM
open Go Go.RowKit
def inG (O : List Eg) (r : Vc) : Nat → Bool
  | 0 => true
  | k + 1 => inG O r k && decide (dotR (O.getD k default).1 r ≤ ((O.getD k default).2 : Rat))
theorem inG_iff (O : List Eg) (r : Vc) : ∀ k, k ≤ O.length → (inG O r k = true ↔ ∀ j, j < k → dotR (O.getD j default).1 r ≤ ((O.getD j default).2 : Rat))
  | 0, _ => by simp [inG]
  | k + 1, h => by
    rw [inG, Bool.and_eq_true, decide_eq_true_eq, inG_iff O r k (by omega)]
    constructor
    · rintro ⟨h1, h2⟩ j hj
      by_cases e : j = k
      · rw [e]; exact h2
      · exact h1 j (by omega)
    · intro h1
      exact ⟨fun j hj => h1 j (by omega), h1 k (by omega)⟩
def pa0_st (e : D) (a b : List Pt) (O : List Eg) (s : List Pt) (pt r : Vc) (i : Int) (f : Bool) (k : Int) : St := mkS [(2, .d e), (11, .d (rowE cP a)), (12, .d (rowE cP b)), (13, .d (rowE cG O)), (14, .d (rowE cP s)), (15, .ptr [15] 0), (16, ai i), (17, .ptr [17] 0), (18, ab f), (19, ai k)] [([15], bxW pt), ([17], bxW r)]
def pa0_en (e : D) (a b : List Pt) (O : List Eg) (s : List Pt) (pt r : Vc) (i : Int) (f : Bool) : St := mkS [(2, .d e), (11, .d (rowE cP a)), (12, .d (rowE cP b)), (13, .d (rowE cG O)), (14, .d (rowE cP s)), (15, .ptr [15] 0), (16, ai i), (17, .ptr [17] 0), (18, ab f)] [([15], bxW pt), ([17], bxW r)]
def pa_st (e : D) (a b : List Pt) (O : List Eg) (s : List Pt) (pt : Vc) (i : Int) : St := mkS [(2, .d e), (11, .d (rowE cP a)), (12, .d (rowE cP b)), (13, .d (rowE cG O)), (14, .d (rowE cP s)), (15, .ptr [15] 0), (16, ai i)] [([15], bxW pt)]
variable [Its]
theorem pa0_go {e : D} {a b s : List Pt} {O : List Eg} {pt r : Vc} {i : Int} {f : Bool} (hO : ∀ e ∈ O, NmD e.1 ∧ -40000000000000000 ≤ e.2 ∧ e.2 ≤ 40000000000000000) (hn : O.length ≤ 1000) (hv : SzV 3 r) {k : Nat} (hk : k < O.length) :
    X G gantrylaw12_ConvexApart_l0 (pa0_st e a b O s pt r i f k) = some (.n, pa0_st e a b O s pt r i (f && decide (dotR (O.getD k default).1 r ≤ ((O.getD k default).2 : Rat))) ((k + 1 : Nat) : Int)) := by
  have e1 : decide ((k : Int) < (O.length : Int)) = true := lt_t (by omega)
  have e2 : w64 ((k : Int) + 1) = ((k + 1 : Nat) : Int) := by rw [w64_id (by omega) (by omega)]; rfl
  have ll : lenA (.d (rowE cG O)) = some O.length := rfl
  have x1 := RwE.ixa (d := rowE cG O) (l := O) cG_len (.inr rfl) hk
  have x2 := fun hp => ldGd hp hk
  have x3 := fun hp => ldF (en := cG) (i := 3) cG_len hp hk (by omega)
  have he := hO _ (eg_mem hk)
  generalize O.getD k default = eg at *
  obtain ⟨n, t⟩ := eg
  dsimp only at *
  have i6 : I64 t := ⟨by omega, by omega⟩
  have g3 := Dot_spec_V (d := n) (v := r) (K := 3) (by omega) he.1 hv
  have g4 := ratOf_spec i6 i64_1
  rw [divInt_one] at g4
  have k1 := dotR_sz he.1 hv
  have k2 := sz_int i6
  have g5 := ratCompare_spec (a := dotR n r) (b := (t : Rat)) (by omega) (by omega)
  have tc : decide (cmpR (dotR n r) (t : Rat) ≤ 0) = decide (dotR n r ≤ (t : Rat)) := decide_eq_decide.2 cmpR_le
  clear k1 k2 i6 he hO hv
  generalize decide (dotR n r ≤ (t : Rat)) = u at *
  generalize cmpR (dotR n r) (t : Rat) = c at *
  generalize dotR n r = r1 at *
  generalize (t : Rat) = r2 at *
  obtain ⟨n1, n2, n3⟩ := n
  obtain ⟨v1, v2⟩ := r
  simp only [cG, List.drop_zero, List.getElem?_cons_succ, List.getElem?_cons_zero, Option.map_some, encD, cD, encV, encR, iv, bv] at x2 x3 g3 g4 g5
  cases f
  · simp -implicitDefEqProofs (maxSteps := 10000000) only [gantrylaw12_ConvexApart_l0, pa0_st, bxW, ll, x1, x2, x3, g3, g4, g5, tc, e1, e2, List.drop_zero, ld8, dc_dg, cells_dg, one_dg', decide_true, decide_false, tup_b, Bool.false_and, go_sem, iv, bv, reduceCtorEq, ↓reduceIte, Nat.reduceEqDiff]
  · simp -implicitDefEqProofs (maxSteps := 10000000) only [gantrylaw12_ConvexApart_l0, pa0_st, bxW, ll, x1, x2, x3, g3, g4, g5, tc, e1, e2, List.drop_zero, ld8, dc_dg, cells_dg, one_dg', decide_true, decide_false, tup_b, Bool.true_and, go_sem, iv, bv, reduceCtorEq, ↓reduceIte, Nat.reduceEqDiff]
theorem pa0_stop {e : D} {a b s : List Pt} {O : List Eg} {pt r : Vc} {i : Int} {f : Bool} : X G gantrylaw12_ConvexApart_l0 (pa0_st e a b O s pt r i f O.length) = some (.x 2, pa0_en e a b O s pt r i f) := by
  have e1 : decide ((O.length : Int) < (O.length : Int)) = false := lt_f (by omega)
  have ll : lenA (.d (rowE cG O)) = some O.length := rfl
  simp -implicitDefEqProofs (maxSteps := 10000000) only [gantrylaw12_ConvexApart_l0, pa0_st, pa0_en, bxW, ll, e1, go_sem, iv, bv, reduceCtorEq, ↓reduceIte, Nat.reduceEqDiff]
theorem pa0_loop {e : D} {a b s : List Pt} {O : List Eg} {pt r : Vc} {i : Int} (hO : ∀ e ∈ O, NmD e.1 ∧ -40000000000000000 ≤ e.2 ∧ e.2 ≤ 40000000000000000) (hn : O.length ≤ 1000) (hv : SzV 3 r) : ∀ (j k : Nat), k + j = O.length →
    X G (.loop gantrylaw12_ConvexApart_l0) (pa0_st e a b O s pt r i (inG O r k) k) = some (.x 2, pa0_en e a b O s pt r i (inG O r O.length))
  | 0, k, h => by
    have : k = O.length := by omega
    subst this
    rw [X_loop, pa0_stop]; rfl
  | j + 1, k, h => by
    rw [X_loop, pa0_go hO hn hv (by omega), Option.bind_some, if_pos rfl]
    exact pa0_loop hO hn hv j (k + 1) (by omega)
theorem pa_go {e : D} {l : List Int} {a b s : List Pt} {O : List Eg} {pt : Vc} (hr : Rw e l) (hI : ∀ n ∈ l, I64 n) (ha : ∀ p ∈ a, SmP p) (hb : ∀ p ∈ b, SmP p) (hs : ∀ p ∈ s, SmP p) (na : a.length ≤ 10) (nb : b.length ≤ 10) (ns : s.length ≤ 10) (hO : ∀ e ∈ O, NmD e.1 ∧ -40000000000000000 ≤ e.2 ∧ e.2 ≤ 40000000000000000) (hn : O.length ≤ 1000) (hpt : SzV 3 pt)
    (hIn : ∀ v, hsP s v = inG O v O.length) (hAp : ∀ v, hsP a pt = true → hsP b (pt.1 - v.1, pt.2 - v.2) = true → inG O v O.length = true) {i : Nat} (hi : i + 1 < l.length) (h20 : i < 20) :
    X G gantrylaw12_ConvexApart_l1 (pa_st e a b O s pt i) = some (.n, pa_st e a b O s pt ((i + 2 : Nat) : Int)) := by
  have e0 : w64 ((i : Int) + 1) = ((i + 1 : Nat) : Int) := by rw [w64_id (by omega) (by omega)]; rfl
  have e1 : decide (((i + 1 : Nat) : Int) < (l.length : Int)) = true := lt_t (by omega)
  have e2 : decide ((i : Int) < 20) = true := lt_t (by omega)
  have e3 : w64 ((i : Int) + 2) = ((i + 2 : Nat) : Int) := by rw [w64_id (by omega) (by omega)]; rfl
  have ll := hr.len
  have x1 := hr.ixn (j := i) (by omega)
  have x2 := fun h => load_rpI h l (j := i) (by omega)
  have x3 := hr.ixn (j := i + 1) (by omega)
  have x4 := fun h => load_rpI h l (j := i + 1) (by omega)
  have i1 : I64 (l.getD i 0) := hI _ (by rw [List.getD_eq_getElem?_getD, List.getElem?_eq_getElem (show i < l.length by omega)]; exact List.getElem_mem _)
  have i2 : I64 (l.getD (i + 1) 0) := hI _ (by rw [List.getD_eq_getElem?_getD, List.getElem?_eq_getElem hi]; exact List.getElem_mem _)
  have g := Vec_spec i1 i2
  have hv := vcV_sz (l.getD i 0) (l.getD (i + 1) 0)
  have f1 := hIn (vcR (l.getD i 0), vcR (l.getD (i + 1) 0))
  have f2 := hAp (vcR (l.getD i 0), vcR (l.getD (i + 1) 0))
  have gl := pa0_loop (e := e) (a := a) (b := b) (s := s) (pt := pt) (i := (i : Int)) hO hn hv O.length 0 (by omega)
  have h1 := hv.1
  have h2 := hv.2
  have p1 := hpt.1
  have p2 := hpt.2
  have s1 := ratSub_spec (a := pt.1) (b := vcR (l.getD i 0)) (by omega) (by have := vcR_sz (l.getD i 0); omega)
  have s2 := ratSub_spec (a := pt.2) (b := vcR (l.getD (i + 1) 0)) (by omega) (by have := vcR_sz (l.getD (i + 1) 0); omega)
  have z1 := sz_sub (a := pt.1) (b := vcR (l.getD i 0))
  have z2 := sz_sub (a := pt.2) (b := vcR (l.getD (i + 1) 0))
  have hm : SzV 7 (pt.1 - vcR (l.getD i 0), pt.2 - vcR (l.getD (i + 1) 0)) := ⟨by have := vcR_sz (l.getD i 0); dsimp only; omega, by have := vcR_sz (l.getD (i + 1) 0); dsimp only; omega⟩
  have g1 := cHas_spec (d := rowE cP a) (.inr rfl) ha na (by omega) hpt
  have g2 := cHas_spec (d := rowE cP b) (.inr rfl) hb nb (by omega) hm
  have g3 := cHas_spec (d := rowE cP s) (.inr rfl) hs ns (by omega) hv
  rw [f1] at g3
  clear f1 hIn hAp h1 h2 p1 p2 z1 z2 hm hv hpt i1 i2 hO
  generalize inG O _ O.length = q3 at *
  have eg0 : inG O (vcR (l.getD i 0), vcR (l.getD (i + 1) 0)) 0 = true := rfl
  rw [eg0] at gl
  clear eg0
  generalize hsP a _ = q1 at *
  generalize hsP b _ = q2 at *
  obtain ⟨pt1, pt2⟩ := pt
  dsimp only at *
  generalize pt1 - vcR (l.getD i 0) = m1 at *
  generalize pt2 - vcR (l.getD (i + 1) 0) = m2 at *
  generalize vcR (l.getD i 0) = v1 at *
  generalize vcR (l.getD (i + 1) 0) = v2 at *
  generalize l.getD i 0 = y1 at *
  generalize l.getD (i + 1) 0 = y2 at *
  simp only [pa0_st, pa0_en, bxW, nc0, go_sem, iv, bv] at gl
  simp only [encV, encR, iv, bv] at x2 x4 g g1 g2 g3 s1 s2
  cases q1 with
  | false =>
    cases q3 <;> simp -implicitDefEqProofs (maxSteps := 10000000) only [gantrylaw12_ConvexApart_l1, pa_st, bxW, ll, x1, x2, x3, x4, g, gl, g1, g3, s1, s2, e0, e1, e2, e3, fillB, partsB, st8, ld8, ld80, ld84, dc_dg, cells_dg, one_dg', decide_true, decide_false, tup_b, beq_self_eq_true, Bool.not_true, Bool.not_false, hupdO_none, go_sem, iv, bv, reduceCtorEq, ↓reduceIte, Nat.reduceEqDiff]
  | true =>
    cases q2 with
    | false =>
      cases q3 <;> simp -implicitDefEqProofs (maxSteps := 10000000) only [gantrylaw12_ConvexApart_l1, pa_st, bxW, ll, x1, x2, x3, x4, g, gl, g1, g2, g3, s1, s2, e0, e1, e2, e3, fillB, partsB, st8, ld8, ld80, ld84, dc_dg, cells_dg, one_dg', decide_true, decide_false, tup_b, beq_self_eq_true, Bool.not_true, Bool.not_false, hupdO_none, go_sem, iv, bv, reduceCtorEq, ↓reduceIte, Nat.reduceEqDiff]
    | true =>
      obtain rfl := f2 rfl rfl
      simp -implicitDefEqProofs (maxSteps := 10000000) only [gantrylaw12_ConvexApart_l1, pa_st, bxW, ll, x1, x2, x3, x4, g, gl, g1, g2, g3, s1, s2, e0, e1, e2, e3, fillB, partsB, st8, ld8, ld80, ld84, dc_dg, cells_dg, one_dg', decide_true, decide_false, tup_b, beq_self_eq_true, Bool.not_true, Bool.not_false, hupdO_none, go_sem, iv, bv, reduceCtorEq, ↓reduceIte, Nat.reduceEqDiff]
theorem pa_stop {e : D} {l : List Int} {a b s : List Pt} {O : List Eg} {pt : Vc} (hr : Rw e l) (hn : l.length < 9000000000000000000) {i : Nat} (hi : i ≤ 20) (h : ¬(i + 1 < l.length ∧ i < 20)) :
    X G gantrylaw12_ConvexApart_l1 (pa_st e a b O s pt i) = some (.x 0, mkS [] []) := by
  have e0 : w64 ((i : Int) + 1) = ((i + 1 : Nat) : Int) := by rw [w64_id (by omega) (by omega)]; rfl
  have ll := hr.len
  by_cases h1 : i + 1 < l.length
  · have e1 : decide (((i + 1 : Nat) : Int) < (l.length : Int)) = true := lt_t (by omega)
    have e2 : decide ((i : Int) < 20) = false := lt_f (by omega)
    simp -implicitDefEqProofs (maxSteps := 10000000) only [gantrylaw12_ConvexApart_l1, pa_st, bxW, ll, e0, e1, e2, decide_true, decide_false, tup_b, hupdO_none, cells_dg, one_dg', go_sem, iv, bv, reduceCtorEq, ↓reduceIte, Nat.reduceEqDiff]
  · have e1 : decide (((i + 1 : Nat) : Int) < (l.length : Int)) = false := lt_f (by omega)
    simp -implicitDefEqProofs (maxSteps := 10000000) only [gantrylaw12_ConvexApart_l1, pa_st, bxW, ll, e0, e1, decide_true, decide_false, tup_b, hupdO_none, cells_dg, one_dg', go_sem, iv, bv, reduceCtorEq, ↓reduceIte, Nat.reduceEqDiff]
theorem pa_loop {e : D} {l : List Int} {a b s : List Pt} {O : List Eg} {pt : Vc} (hr : Rw e l) (hI : ∀ n ∈ l, I64 n) (hl : l.length < 9000000000000000000) (ha : ∀ p ∈ a, SmP p) (hb : ∀ p ∈ b, SmP p) (hs : ∀ p ∈ s, SmP p) (na : a.length ≤ 10) (nb : b.length ≤ 10) (ns : s.length ≤ 10) (hO : ∀ e ∈ O, NmD e.1 ∧ -40000000000000000 ≤ e.2 ∧ e.2 ≤ 40000000000000000) (hn : O.length ≤ 1000) (hpt : SzV 3 pt)
    (hIn : ∀ v, hsP s v = inG O v O.length) (hAp : ∀ v, hsP a pt = true → hsP b (pt.1 - v.1, pt.2 - v.2) = true → inG O v O.length = true) : ∀ (j i : Nat), i + 2 * j = 20 →
    X G (.loop gantrylaw12_ConvexApart_l1) (pa_st e a b O s pt i) = some (.x 0, mkS [] [])
  | 0, i, h => by rw [X_loop, pa_stop hr hl (by omega) (by omega)]; rfl
  | j + 1, i, h => by
    by_cases hc : i + 1 < l.length ∧ i < 20
    · rw [X_loop, pa_go hr hI ha hb hs na nb ns hO hn hpt hIn hAp hc.1 hc.2, Option.bind_some, if_pos rfl]
      exact pa_loop hr hI hl ha hb hs na nb ns hO hn hpt hIn hAp j (i + 2) (by omega)
    · rw [X_loop, pa_stop hr hl (by omega) hc]; rfl
end Go.AM
namespace Go.Proofs.Ytpcoidklfmaomaa.Pure
open Go Go.AM
attribute [local instance] noIts
theorem ConvexApart (e0 : D) (l0 : List Int) (hd0 : Dg e0 l0) (hwf0 : ∀ n ∈ l0, (Lit.int .i64 n).wf = true) (hlen0 : l0.length * 8 ≤ 140737488351232) (e1 : D) (l1 : List Int) (hd1 : Dg e1 l1) (hwf1 : ∀ n ∈ l1, (Lit.int .i64 n).wf = true) (hlen1 : l1.length * 8 ≤ 140737488351232) (e2 : D) (l2 : List Int) (hd2 : Dg e2 l2) (hwf2 : ∀ n ∈ l2, (Lit.int .i64 n).wf = true) (hlen2 : l2.length * 8 ≤ 140737488351232) (a3 : Int) (w3 : (Lit.int .i64 a3).wf = true) (a4 : Int) (w4 : (Lit.int .i64 a4).wf = true) : callX G n_gantrylaw12_ConvexApart [e0, e1, e2, iv a3, iv a4] = some (.d (bv true)) := by
  have g0 := Shape_spec (rw_dg hd0) (fun n hn => i64_wf (hwf0 n hn))
  have g1 := Shape_spec (rw_dg hd1) (fun n hn => i64_wf (hwf1 n hn))
  have ga := gd_sh l0
  have gb := gd_sh l1
  obtain ⟨x, hx, hs⟩ := hul_sh l0 l1
  have ba : ∀ p ∈ spP l0, -40000000 ≤ p.1 ∧ p.1 ≤ 40000000 ∧ -40000000 ≤ p.2 ∧ p.2 ≤ 40000000 := fun p hp => by have := sp_small l0 p hp; omega
  have bb : ∀ p ∈ spP l1, -40000000 ≤ p.1 ∧ p.1 ≤ 40000000 ∧ -40000000 ≤ p.2 ∧ p.2 ≤ 40000000 := fun p hp => by have := sp_small l1 p hp; omega
  have la := (lim_sh l0).1.hi
  have lb := (lim_sh l1).1.hi
  have g2 := cSum_spec (da := rowE cP (spP l0)) (db := rowE cP (spP l1)) (.inr rfl) (.inr rfl) ba bb la lb ga.pos gb.pos hx.c
  have g3 := cSides_spec (da := rowE cP (spP l0)) (db := rowE cP (spP l1)) (.inr rfl) (.inr rfl) ga gb
  have g4 := Vec_spec (i64_wf w3) (i64_wf w4)
  have hsm : ∀ p ∈ x, SmP p := fun p hp => by have := hs p hp; simp only [SmP, Sm]; omega
  have n3 := sdP_three (b := spP l1) (lim_sh l0).2
  have hO : ∀ e ∈ sdP (spP l0) (spP l1), NmD e.1 ∧ -40000000000000000 ≤ e.2 ∧ e.2 ≤ 40000000000000000 := fun e he => ⟨sd_nm ga gb he, sd_at ga gb he⟩
  have hIn : ∀ v, hsP x v = inG (sdP (spP l0) (spP l1)) v (sdP (spP l0) (spP l1)).length := by
    intro v
    rw [Bool.eq_iff_iff, hul_in hx, inG_iff _ _ _ (Nat.le_refl _)]
    constructor
    · intro h j hj
      have hm := eg_mem hj
      generalize (sdP (spP l0) (spP l1)).getD j default = eg at *
      rw [sdP_uq] at hm
      obtain ⟨d, hd, rfl⟩ := List.mem_map.1 hm
      exact h d hd
    · intro h d hd
      have hm : edP (spP l0) (spP l1) d ∈ sdP (spP l0) (spP l1) := by rw [sdP_uq]; exact List.mem_map.2 ⟨d, hd, rfl⟩
      obtain ⟨j, hj, e⟩ := List.getElem_of_mem hm
      have := h j hj
      rw [List.getD_eq_getElem?_getD, List.getElem?_eq_getElem hj, Option.getD_some, e] at this
      exact this
  have hAp : ∀ v : Vc, hsP (spP l0) (vcR a3, vcR a4) = true → hsP (spP l1) (vcR a3 - v.1, vcR a4 - v.2) = true → inG (sdP (spP l0) (spP l1)) v (sdP (spP l0) (spP l1)).length = true := by
    intro v h1 h2
    rw [inG_iff _ _ _ (Nat.le_refl _)]
    intro j hj
    have hm := eg_mem hj
    have ht := sd_all l0 l1 hm
    generalize (sdP (spP l0) (spP l1)).getD j default = eg at *
    rw [sdP_uq] at hm
    obtain ⟨d, hd, rfl⟩ := List.mem_map.1 hm
    have s1 := sup_le ((sup_sh l0).2 d ht) (fun k hk => hsP_at h1 hk)
    have s2 := sup_le ((sup_sh l1).2 (tnD d) (twD_tn ht)) (fun k hk => hsP_at h2 hk)
    unfold edP
    dsimp only
    generalize moP d (spP l0) = m1 at *
    generalize moP (tnD d) (spP l1) = m2 at *
    obtain ⟨d1, d2, d3⟩ := d
    unfold dotR tnD at *
    dsimp only at *
    rw [Rat.intCast_add]
    rw [Rat.intCast_neg, Rat.intCast_neg] at s2
    grind
  have gl := pa_loop (e := e2) (a := spP l0) (b := spP l1) (s := x) (O := sdP (spP l0) (spP l1)) (pt := (vcR a3, vcR a4)) (rw_dg hd2) (fun n hn => i64_wf (hwf2 n hn)) (by omega) ga.sm gb.sm hsm (by omega) (by omega) hx.ten hO (by have := sd_le ga gb; omega) (vcV_sz a3 a4) hIn hAp 10 0 (by omega)
  have x3 := hx.three
  clear hO hIn hAp hx hs hsm
  generalize sdP (spP l0) (spP l1) = O at *
  generalize spP l0 = a at *
  generalize spP l1 = b at *
  generalize vcR a3 = v1 at *
  generalize vcR a4 = v2 at *
  have t1 : decide ((O.length : Int) < 3) = false := lt_f (by omega)
  have t2 : decide ((x.length : Int) < 3) = false := lt_f (by omega)
  have l1 : lenA (.d (rowE cG O)) = some O.length := rfl
  have l2 : lenA (.d (rowE cP x)) = some x.length := rfl
  have lv := lives12
  rw [callX_eq (cf := gantrylaw12_ConvexApart) rfl]
  simp only [pa_st, bxW, rowE, nc0, go_sem] at gl
  simp only [rowE, encV, iv, bv] at g0 g1 g2 g3 g4 lv l1 l2
  simp -implicitDefEqProofs (maxSteps := 10000000) only [gantrylaw12_ConvexApart, gl, g0, g1, g2, g3, g4, t1, t2, l1, l2, lv, st8, dc_dg, cells_dg, one_dg', decide_true, decide_false, tup_b, List.map_cons, List.map_nil, Bool.not_true, hupdO_none, go_sem, iv, bv, reduceCtorEq, ↓reduceIte, Nat.reduceEqDiff]
end Go.Proofs.Ytpcoidklfmaomaa.Pure

/- The row of ConvexApart, out of its Pure. Printed by row.py. -/
namespace Go.Proofs.Ytpcoidklfmaomaa.convexApart
open Go.ChangeShapes Go.WideShapes Go.ChangeAt Go.RowKit Go.AM
theorem own : ownKnob Try.prog.godebug = none := by kernel_rfl
theorem laidOut : laidOutB Try.prog = true := by kernel_rfl
set_option maxRecDepth 100000 in
theorem lifted (os : Os) (started : os.Started) (H : Type) (enc : TypeId × Value → H) :
    ReturnsInHanded {} Try.checked os 4 .any (Rows.convexApartSpec.pre6 enc Try.prog Try.f4 Rows.convexApartRow.domain false) (Rows.convexApartSpec.post enc Try.prog Try.f4 false true false false) := by
  refine returnsInHanded_of_change_sized (C := Try.checked) own started (by kernel_rfl) Try.func4
    (ChangeSpec.witness6 (enc := enc) (C := Try.checked) false ⟨#[], #[.slice none 0 0, .slice none 0 0, .slice none 0 0, .int .i64 0, .int .i64 0], []⟩ 8 (by kernel_rfl) (by kernel_rfl) (by kernel_rfl) (by kernel_rfl)) ?_
  intro W base args ds gs before hval0 hW hcnd hsz0 _
  have hsz : (DataW.weightsEach Try.prog (Try.f4.params.toList ++ Rows.convexApartSpec.plain.varTypes Try.prog) (ds ++ gs)).all (· ≤ reachBytes) = true := hsz0
  have hval : ∀ (j : Nat) t v, Try.f4.params[j]? = some t → args[j]? = some v → Value.okWide Try.prog W .any base t v := hval0
  have hW' := hW
  obtain ⟨p, q, hA0, hV, rfl, hfz, hnd⟩ := hW
  have hA : DataW.TrodAll enc Try.prog W 0 (fun _ => true) true Try.f4.params.toList args.toList ds p := hA0
  rw [Try.params4] at hA hval hsz
  obtain ⟨v0, vs0, d0, ds0, p0, q0, hargs, rfl, rfl, h0, r0⟩ := trodAll_cons hA
  obtain ⟨v1, vs1, d1, ds1, p1, q1, rfl, rfl, rfl, h1, r1⟩ := trodAll_cons r0
  obtain ⟨v2, vs2, d2, ds2, p2, q2, rfl, rfl, rfl, h2, r2⟩ := trodAll_cons r1
  obtain ⟨v3, vs3, d3, ds3, p3, q3, rfl, rfl, rfl, h3, r3⟩ := trodAll_cons r2
  obtain ⟨v4, vs4, d4, ds4, p4, q4, rfl, rfl, rfl, h4, r4⟩ := trodAll_cons r3
  obtain ⟨rfl, rfl, rfl⟩ := trodAll_nil r4
  obtain rfl : args = #[v0, v1, v2, v3, v4] := by cases args; simp_all
  obtain ⟨rfl, rfl⟩ := trodVars_none hV
  obtain ⟨a0, len0, cap0, rfl⟩ := okWide_slice Try.underlying22 (hval 0 22 v0 rfl rfl)
  have k0 := h0
  have lt0 : ∀ x ∈ p0, x.block < W.heap.size := by obtain ⟨m, hm⟩ := k0; exact DataW.trod_lt m _ _ _ hm
  obtain ⟨z0, w0, y0⟩ : ∃ zs, ((a0 = none ∧ len0 = 0 ∧ cap0 = 0 ∧ zs = []) ∨ ∃ x, a0 = some x ∧ len0 ≤ cap0 ∧ cap0 ≤ maxLen ∧ zs.length = cap0 ∧ (∀ i, i < zs.length → W.cell? (x.add i) = some (.int .i64 (zs.getD i 0))) ∧ ∀ n ∈ zs, (Lit.int .i64 n).wf = true) ∧ len0 * 8 ≤ 140737488351232 := by
    obtain ⟨fuel, hf⟩ := h0
    rcases open_ints Try.underlying22 Try.underlying3 (by kernel_rfl) hf with ⟨hcs, _⟩ | ⟨x, l, c, zs, hcs, _, hl, hm, hz, hx, hcell, hwz⟩
    · simp [Value.cells] at hcs
      obtain ⟨rfl, rfl, rfl⟩ := hcs
      exact ⟨[], .inl ⟨rfl, rfl, rfl, rfl⟩, by simp⟩
    · simp [Value.cells] at hcs
      obtain ⟨rfl, rfl, rfl⟩ := hcs
      refine ⟨zs, .inr ⟨_, rfl, hl, hm, by simpa using hz, hcell, hwz⟩, ?_⟩
      simp only [Prod.mk.injEq] at hx
      have hd := hx.1
      have z := sized_slice hsz (j := 0) (t := 22) rfl (by rw [hd]; rfl) Try.underlying22
      have hb : Try.prog.bytesOf 3 = 8 := by kernel_rfl
      rw [hb] at z
      have hr : reachBytes ≤ 140737488351232 := by decide
      have hz' : zs.length = cap0 := by simpa using hz
      simp only [lits, List.length_map, List.length_take, List.length_drop] at z
      omega
  obtain ⟨e0, l0, hd0, hrep0, hlen0, hwf0⟩ := arg_row w0
  obtain ⟨a1, len1, cap1, rfl⟩ := okWide_slice Try.underlying22 (hval 1 22 v1 rfl rfl)
  have k1 := h1
  have lt1 : ∀ x ∈ p1, x.block < W.heap.size := by obtain ⟨m, hm⟩ := k1; exact DataW.trod_lt m _ _ _ hm
  obtain ⟨z1, w1, y1⟩ : ∃ zs, ((a1 = none ∧ len1 = 0 ∧ cap1 = 0 ∧ zs = []) ∨ ∃ x, a1 = some x ∧ len1 ≤ cap1 ∧ cap1 ≤ maxLen ∧ zs.length = cap1 ∧ (∀ i, i < zs.length → W.cell? (x.add i) = some (.int .i64 (zs.getD i 0))) ∧ ∀ n ∈ zs, (Lit.int .i64 n).wf = true) ∧ len1 * 8 ≤ 140737488351232 := by
    obtain ⟨fuel, hf⟩ := h1
    rcases open_ints Try.underlying22 Try.underlying3 (by kernel_rfl) hf with ⟨hcs, _⟩ | ⟨x, l, c, zs, hcs, _, hl, hm, hz, hx, hcell, hwz⟩
    · simp [Value.cells] at hcs
      obtain ⟨rfl, rfl, rfl⟩ := hcs
      exact ⟨[], .inl ⟨rfl, rfl, rfl, rfl⟩, by simp⟩
    · simp [Value.cells] at hcs
      obtain ⟨rfl, rfl, rfl⟩ := hcs
      refine ⟨zs, .inr ⟨_, rfl, hl, hm, by simpa using hz, hcell, hwz⟩, ?_⟩
      simp only [Prod.mk.injEq] at hx
      have hd := hx.1
      have z := sized_slice hsz (j := 1) (t := 22) rfl (by rw [hd]; rfl) Try.underlying22
      have hb : Try.prog.bytesOf 3 = 8 := by kernel_rfl
      rw [hb] at z
      have hr : reachBytes ≤ 140737488351232 := by decide
      have hz' : zs.length = cap1 := by simpa using hz
      simp only [lits, List.length_map, List.length_take, List.length_drop] at z
      omega
  obtain ⟨e1, l1, hd1, hrep1, hlen1, hwf1⟩ := arg_row w1
  obtain ⟨a2, len2, cap2, rfl⟩ := okWide_slice Try.underlying22 (hval 2 22 v2 rfl rfl)
  have k2 := h2
  have lt2 : ∀ x ∈ p2, x.block < W.heap.size := by obtain ⟨m, hm⟩ := k2; exact DataW.trod_lt m _ _ _ hm
  obtain ⟨z2, w2, y2⟩ : ∃ zs, ((a2 = none ∧ len2 = 0 ∧ cap2 = 0 ∧ zs = []) ∨ ∃ x, a2 = some x ∧ len2 ≤ cap2 ∧ cap2 ≤ maxLen ∧ zs.length = cap2 ∧ (∀ i, i < zs.length → W.cell? (x.add i) = some (.int .i64 (zs.getD i 0))) ∧ ∀ n ∈ zs, (Lit.int .i64 n).wf = true) ∧ len2 * 8 ≤ 140737488351232 := by
    obtain ⟨fuel, hf⟩ := h2
    rcases open_ints Try.underlying22 Try.underlying3 (by kernel_rfl) hf with ⟨hcs, _⟩ | ⟨x, l, c, zs, hcs, _, hl, hm, hz, hx, hcell, hwz⟩
    · simp [Value.cells] at hcs
      obtain ⟨rfl, rfl, rfl⟩ := hcs
      exact ⟨[], .inl ⟨rfl, rfl, rfl, rfl⟩, by simp⟩
    · simp [Value.cells] at hcs
      obtain ⟨rfl, rfl, rfl⟩ := hcs
      refine ⟨zs, .inr ⟨_, rfl, hl, hm, by simpa using hz, hcell, hwz⟩, ?_⟩
      simp only [Prod.mk.injEq] at hx
      have hd := hx.1
      have z := sized_slice hsz (j := 2) (t := 22) rfl (by rw [hd]; rfl) Try.underlying22
      have hb : Try.prog.bytesOf 3 = 8 := by kernel_rfl
      rw [hb] at z
      have hr : reachBytes ≤ 140737488351232 := by decide
      have hz' : zs.length = cap2 := by simpa using hz
      simp only [lits, List.length_map, List.length_take, List.length_drop] at z
      omega
  obtain ⟨e2, l2, hd2, hrep2, hlen2, hwf2⟩ := arg_row w2
  obtain ⟨a3, rfl, rfl, rfl, w3⟩ := open_int Try.underlying3 (hval 3 3 v3 rfl rfl) h3
  obtain ⟨a4, rfl, rfl, rfl, w4⟩ := open_int Try.underlying3 (hval 4 3 v4 rfl rfl) h4
  clear hA0 hval0 hsz0 hsz
  refine (law_walk env_ok0 (f := 4) (ds := [e0, e1, e2, (iv a3), (iv a4)]) (vs := [.slice a0 len0 cap0, .slice a1 len1 cap1, .slice a2 len2 cap2, .int .i64 a3, .int .i64 a4]) (w := W) (tabs_none rfl W) (RepL.cons _ _ _ _ hrep0 (RepL.cons _ _ _ _ hrep1 (RepL.cons _ _ _ _ hrep2 (RepL.cons _ _ _ _ (RepD.v _) (RepL.cons _ _ _ _ (RepD.v _) RepL.nil))))) (Pure.ConvexApart e0 l0 hd0 hwf0 (by rw [hlen0]; exact y0) e1 l1 hd1 hwf1 (by rw [hlen1]; exact y1) e2 l2 hd2 hwf2 (by rw [hlen2]; exact y2) a3 w3 a4 w4)).mono fun e W' ⟨he, bel⟩ => ?_
  subst he
  exact ⟨_, rfl, _, _, _, [], _, [], hW', trodAll_mk1 (shut_bool Try.underlying4 _), (trodAll_cons_mk (Below.trod laidOut (by kernel_rfl) (of_decide_eq_true (by kernel_rfl)) k0 bel lt0) (trodAll_cons_mk (Below.trod laidOut (by kernel_rfl) (of_decide_eq_true (by kernel_rfl)) k1 bel lt1) (trodAll_cons_mk (Below.trod laidOut (by kernel_rfl) (of_decide_eq_true (by kernel_rfl)) k2 bel lt2) (trodAll_cons_mk (shut_int Try.underlying3 w3) (trodAll_cons_mk (shut_int Try.underlying3 w4) trodAll_mk0))))), rfl, bel.frame _, fun h => by cases h⟩
theorem over : Rows.convexApartRow.holds Try.pinned (OpenSpec.ofChange Rows.convexApartSpec) :=
  OpenClaim.holds_of_wide 4 Try.f4 rfl rfl rfl rfl rfl rfl rfl ⟨rfl, rfl, rfl, rfl, rfl⟩ rfl rfl rfl rfl rfl (by kernel_rfl) Try.func4 (by kernel_rfl)
    (of_decide_eq_true (by kernel_rfl)) (by unfold Func.isWrapper; first | (rw [if_pos (by decide +kernel)]; kernel_rfl) | (rw [if_neg (by decide +kernel)]; exact ⟨rfl, rfl⟩))
    (fun os started H enc _ => lifted os started H enc)
theorem proved : Rows.ConvexApartSaid := over
end Go.Proofs.Ytpcoidklfmaomaa.convexApart
namespace Go.Proofs.Ytpcoidklfmaomaa
theorem convexApart_holds : Rows.ConvexApartSaid := convexApart.proved
end Go.Proofs.Ytpcoidklfmaomaa


