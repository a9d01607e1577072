/- Part 10 of the proof: a small machine, its soundness against the model, and what the program's functions compute on it. -/
import Derived.Test.YtpcoidklfmaomaaM9
import Derived.Test.YtpcoidklfmaomaaM6
import Derived.Test.YtpcoidklfmaomaaRows
import Derived.WalkKit
import Derived.ProofKit
import Derived.OpenShut
import Derived.ShutString
import Derived.ChangeOld
import Derived.Below
import Derived.SizedLaws
set_option linter.unusedVariables false
set_option linter.unusedSimpArgs false
/- convex.Sides. -/
namespace Go.AM
open Go Go.RowKit

theorem eqDr_iff {a b : Dr} : eqDr a b = true ↔ a = b := by
  obtain ⟨x, y, z⟩ := a
  obtain ⟨p, q, r⟩ := b
  simp [eqDr]
def cadd (a b : List Pt) (O : List Eg) (d : Dr) : List Eg := if O.any (fun e => eqDr e.1 d) then O else O ++ [edP a b d]
theorem frI_any {ds : List Dr} {i : Nat} (hi : i < ds.length) : ∀ k, k ≤ i → frI ds i k = !((ds.take k).any fun x => eqDr x (ds.getD i default))
  | 0, _ => by simp [frI]
  | k + 1, hk => by
    rw [frI, frI_any hi k (by omega), List.take_add_one, List.any_append, Bool.not_or]
    congr 1
    rw [List.getElem?_eq_getElem (by omega), List.getD_eq_getElem?_getD (i := k), List.getElem?_eq_getElem (by omega)]
    simp
theorem sdO_any (a b : List Pt) {ds : List Dr} (d : Dr) : ∀ i, i ≤ ds.length → (sdO a b ds i).any (fun e => eqDr e.1 d) = (ds.take i).any fun x => eqDr x d
  | 0, _ => by simp [sdO]
  | i + 1, hi => by
    have ih := sdO_any a b (ds := ds) d i (by omega)
    have e1 : ds.take (i + 1) = ds.take i ++ [ds.getD i default] := by
      rw [List.take_add_one, List.getElem?_eq_getElem (by omega), List.getD_eq_getElem?_getD, List.getElem?_eq_getElem (by omega)]; rfl
    rw [sdO, e1, List.any_append]
    have hf := frI_any (ds := ds) (i := i) (by omega) i (Nat.le_refl _)
    split
    · rw [List.any_append, ih]; rfl
    · rename_i hc
      rw [ih]
      have h2 : ((ds.take i).any fun x => eqDr x (ds.getD i default)) = true := by
        rw [hf] at hc; simpa using hc
      cases h3 : eqDr (ds.getD i default) d with
      | false => rw [List.any_cons, List.any_nil, Bool.or_false, h3, Bool.or_false]
      | true =>
        rw [eqDr_iff] at h3
        rw [h3] at h2
        rw [h2]; rfl
theorem cadd_sdO (a b : List Pt) (ds : List Dr) {i : Nat} (hi : i < ds.length) : cadd a b (sdO a b ds i) (ds.getD i default) = sdO a b ds (i + 1) := by
  unfold cadd
  rw [sdO_any a b _ i (by omega), sdO, frI_any hi i (Nat.le_refl _)]
  cases ((ds.take i).any fun x => eqDr x (ds.getD i default)) <;> simp
theorem drs_at_a {a b : List Pt} {i : Nat} (hi : i < a.length) : (drs a b).getD i default = sdN a i := by
  unfold drs
  rw [List.getD_eq_getElem?_getD, List.getElem?_append_left (by rw [drA_len]; exact hi)]
  simp [drA, hi]
theorem drs_at_b {a b : List Pt} {i : Nat} (hi : i < b.length) : (drs a b).getD (a.length + i) default = tnD (sdN b i) := by
  unfold drs
  rw [List.getD_eq_getElem?_getD, List.getElem?_append_right (by rw [drA_len]; omega), drA_len, Nat.add_sub_cancel_left]
  simp [drB, hi]
def gO (O : List Eg) : A := if O = [] then .d (.z true) else .own [21, 0] O.length
def hO (O : List Eg) : List (Key × Obj) := if O = [] then [] else [([21, 0], arE cG 4 O.length O)]
def bxA (x : A) : Obj := ⟨0, 0, [x], false⟩
theorem gO_nil : gO [] = .d (.z true) := rfl
theorem hO_nil : hO [] = [] := rfl
theorem gO_ne {O : List Eg} (h : O ≠ []) : gO O = .own [21, 0] O.length := if_neg h
theorem hO_ne {O : List Eg} (h : O ≠ []) : hO O = [([21, 0], arE cG 4 O.length O)] := if_neg h
theorem gO_snoc (O : List Eg) (e : Eg) : gO (O ++ [e]) = .own [21, 0] (O.length + 1) := by rw [gO_ne (by simp)]; simp
theorem hO_snoc (O : List Eg) (e : Eg) : hO (O ++ [e]) = [([21, 0], arE cG 4 (O.length + 1) (O ++ [e]))] := by rw [hO_ne (by simp)]; simp
def clo : A := .fn n_convex_Sides_1 [.ptr [5] 0, .ptr [2] 0, .ptr [3] 0]
def cs1_st (da db : D) (O : List Eg) (n i : Int) : St := mkS [(2, .ptr [2] 0), (3, .ptr [3] 0), (5, .ptr [5] 0), (6, clo), (15, ai n), (16, ai i)] ([([2], bxA (.d da)), ([3], bxA (.d db)), ([5], bxA (gO O))] ++ hO O)
def cs1_en (da db : D) (O : List Eg) : St := mkS [(3, .ptr [3] 0), (5, .ptr [5] 0), (6, clo)] ([([2], bxA (.d da)), ([3], bxA (.d db)), ([5], bxA (gO O))] ++ hO O)
def cs3_st (da db : D) (O : List Eg) (n i : Int) : St := mkS [(3, .ptr [3] 0), (5, .ptr [5] 0), (6, clo), (35, ai n), (36, ai i)] ([([2], bxA (.d da)), ([3], bxA (.d db)), ([5], bxA (gO O))] ++ hO O)
def cs3_en (O : List Eg) : St := mkS [(5, .ptr [5] 0)] ([([5], bxA (gO O))] ++ hO O)
theorem ld1c (a : A) : ldcells none 0 [a] = some a := rfl
theorem st1c (a b : A) : stcells 0 [a] [b] = some [a] := rfl
theorem hold2 : convex_Sides_i2.holds [[2], [3], [5], [21, 0]] = true := by decide

variable [Its]
/-- What the closure's call needs. -/
structure AdF (da db : D) (a b : List Pt) (O : List Eg) (d : Dr) : Prop where
  co : callX G n_slices_ContainsFunc_api_Edge_api_Edge [dE cG O, .fn n_convex_Sides_1_1 [.rp (cD d)]] = some (.d (bv (O.any fun e => eqDr e.1 d)))
  m1 : callX G n_convex_Most [da, encD d] = some (.d (iv (moP d a)))
  tn : callX G n_convex_turned [encD d] = some (.d (encD (tnD d)))
  m2 : callX G n_convex_Most [db, encD (tnD d)] = some (.d (iv (moP (tnD d) b)))
  wr : w64 (moP d a + moP (tnD d) b) = moP d a + moP (tnD d) b
theorem adF {da db : D} {a b : List Pt} (hra : RwE cP da a) (hrb : RwE cP db b) (ha : GdS a) (hb : GdS b) {O : List Eg} (hO : O.length ≤ 1000) {d : Dr} (hd : NmD d) : AdF da db a b O d := by
  refine ⟨ContE_spec (dE_ok O) (by omega) (fun i hi => Sides11_spec _ _), cMost_spec hra ha.pos ha.sm hd.sm (by have := ha.le; omega), turned_spec hd.sm, cMost_spec hrb hb.pos hb.sm hd.tn.sm (by have := hb.le; omega), ?_⟩
  have m1 : -20000000000000000 ≤ moP d a ∧ moP d a ≤ 20000000000000000 := mstN_b hd ha.sm _
  have m2 : -20000000000000000 ≤ moP (tnD d) b ∧ moP (tnD d) b ≤ 20000000000000000 := mstN_b hd.tn hb.sm _
  exact w64_id (by omega) (by omega)
theorem cs1_go {da db : D} {a b : List Pt} (hra : RwE cP da a) (hrb : RwE cP db b) (ha : GdS a) (hb : GdS b) {O : List Eg} (hOl : O.length ≤ 1000) {i : Nat} (hi : i < a.length) :
    X G convex_Sides_l1 (cs1_st da db O a.length i) = some (.n, cs1_st da db (cadd a b O (sdN a i)) a.length ((i + 1 : Nat) : Int)) := by
  have hle := ha.le
  have e1 : decide ((i : Int) < (a.length : Int)) = true := lt_t (by omega)
  have e2 : w64 ((i : Int) + 1) = ((i + 1 : Nat) : Int) := by rw [w64_id (by omega) (by omega)]; rfl
  have x1 := hra.ixa cP_len hi
  have x2 := fun hp => ldE cP_len hp hi
  have g1 := cnext_spec hra hi (by omega)
  have hp := getD_all ha.sm smP0 i
  have hn : SmP (nxP a i) := by unfold nxP; split <;> exact getD_all ha.sm smP0 _
  have g2 := cNorm_spec (h := sdh a i) hp hn (ha.sq i hi).1 (ha.sq i hi).2
  have e3 : nrP ((nxP a i).1 - (a.getD i default).1) ((nxP a i).2 - (a.getD i default).2) (sdh a i) = sdN a i := rfl
  rw [e3] at g2
  obtain ⟨f1, f2, f3, f4, f5⟩ := adF hra hrb ha hb hOl (ha.nm i hi)
  have hO0 : ∀ h : O = [], (O.any fun e => eqDr e.1 (sdN a i)) = false := fun h => by rw [h]; rfl
  unfold cadd edP
  obtain ⟨t, ht⟩ : ∃ t, (O.any fun e => eqDr e.1 (sdN a i)) = t := ⟨_, rfl⟩
  rw [ht] at f1 hO0 ⊢
  obtain ⟨z, hz⟩ : ∃ z, moP (sdN a i) a + moP (tnD (sdN a i)) b = z := ⟨_, rfl⟩
  rw [hz] at f5 ⊢
  generalize moP (sdN a i) a = z1 at *
  generalize moP (tnD (sdN a i)) b = z2 at *
  have f5' : w64 (z1 + z2) = z := by rw [hz]; exact f5
  clear f5 hz ht
  simp only [encP, cP, encD, cD, iv, bv] at x2 g1 g2 f1 f2 f3 f4
  generalize (nxP a i).1 = n1 at *
  generalize (nxP a i).2 = n2 at *
  generalize (a.getD i default).1 = p1 at *
  generalize (a.getD i default).2 = p2 at *
  clear e3 hp hn
  generalize tnD (sdN a i) = v2 at *
  generalize sdN a i = v at *
  obtain ⟨u1, u2, u3⟩ := v
  obtain ⟨y1, y2, y3⟩ := v2
  dsimp only at g2 f1 f2 f3 f4
  have c1 := hra.cell
  have c2 := hrb.cell
  by_cases h0 : O = []
  · have := hO0 h0
    subst this
    subst h0
    have fq : dE cG ([] : List Eg) = .z true := rfl
    rw [fq] at f1
    rw [if_neg (by simp)]
    have hq : ([((u1, u2, u3), z)] : List Eg) ≠ [] := by simp
    simp -implicitDefEqProofs (maxSteps := 10000000) only [convex_Sides_l1, convex_Sides_i0, cs1_st, clo, bxA, gO_nil, hO_nil, gO_ne hq, hO_ne hq, List.nil_append, List.cons_append, List.append_nil, C.holds, c1, c2, x1, x2, g1, g2, f1, f2, f3, f4, f5', e1, e2, hupdO_none, arE, flat1G, b32, b32', rep1_4, oneI, srcS, src, allD, snap, snapH, fillB, partsB, ld1c, st1c, ld3p, box3s, Bool.not_true, Bool.not_false, List.map_cons, List.map_nil, List.length_nil, List.length_cons, Nat.zero_add, List.cons.injEq, go_sem, iv, bv, reduceCtorEq, ↓reduceIte, Nat.reduceEqDiff]
  · have n3 := lenE cG_len O
    have n4 := bnd4 hOl
    have fq : dE cG O = .row O.length (O.flatMap cG) := if_neg h0
    rw [fq] at f1
    cases t with
    | true =>
      rw [if_pos rfl]
      simp -implicitDefEqProofs (maxSteps := 10000000) only [convex_Sides_l1, convex_Sides_i0, cs1_st, clo, bxA, gO_ne h0, hO_ne h0, List.nil_append, List.cons_append, List.append_nil, C.holds, c1, c2, x1, x2, g1, g2, f1, f2, f3, f4, f5', e1, e2, hupdO_none, arE, refsL_E, allD_E, n3, n4, rep1_4, oneI, srcS, src, allD, snap, snapH, fillB, partsB, ld1c, st1c, ld3p, box3s, Bool.not_true, Bool.not_false, List.map_cons, List.map_nil, List.length_nil, List.length_cons, Nat.zero_add, List.cons.injEq, go_sem, iv, bv, reduceCtorEq, ↓reduceIte, Nat.reduceEqDiff]
    | false =>
      rw [if_neg (by simp)]
      simp -implicitDefEqProofs (maxSteps := 10000000) only [convex_Sides_l1, convex_Sides_i0, cs1_st, clo, bxA, gO_ne h0, hO_ne h0, gO_snoc, hO_snoc, cG_snoc, List.nil_append, List.cons_append, List.append_nil, C.holds, c1, c2, x1, x2, g1, g2, f1, f2, f3, f4, f5', e1, e2, hupdO_none, arE, refsL_E, allD_E, n3, n4, rep1_4, oneI, srcS, src, allD, snap, snapH, fillB, partsB, ld1c, st1c, ld3p, box3s, Bool.not_true, Bool.not_false, List.map_cons, List.map_nil, List.length_nil, List.length_cons, Nat.zero_add, List.all_cons, List.all_nil, List.cons.injEq, go_sem, iv, bv, reduceCtorEq, ↓reduceIte, Nat.reduceEqDiff]
theorem cs3_go {da db : D} {a b : List Pt} (hra : RwE cP da a) (hrb : RwE cP db b) (ha : GdS a) (hb : GdS b) {O : List Eg} (hOl : O.length ≤ 1000) {i : Nat} (hi : i < b.length) :
    X G convex_Sides_l3 (cs3_st da db O b.length i) = some (.n, cs3_st da db (cadd a b O (tnD (sdN b i))) b.length ((i + 1 : Nat) : Int)) := by
  have hle := hb.le
  have e1 : decide ((i : Int) < (b.length : Int)) = true := lt_t (by omega)
  have e2 : w64 ((i : Int) + 1) = ((i + 1 : Nat) : Int) := by rw [w64_id (by omega) (by omega)]; rfl
  have x1 := hrb.ixa cP_len hi
  have x2 := fun hp => ldE cP_len hp hi
  have g1 := cnext_spec hrb hi (by omega)
  have hp := getD_all hb.sm smP0 i
  have hn : SmP (nxP b i) := by unfold nxP; split <;> exact getD_all hb.sm smP0 _
  have g2 := cNorm_spec (h := sdh b i) hp hn (hb.sq i hi).1 (hb.sq i hi).2
  have e3 : nrP ((nxP b i).1 - (b.getD i default).1) ((nxP b i).2 - (b.getD i default).2) (sdh b i) = sdN b i := rfl
  rw [e3] at g2
  have g3 := turned_spec (hb.nm i hi).sm
  obtain ⟨f1, f2, f3, f4, f5⟩ := adF hra hrb ha hb hOl (hb.nm i hi).tn
  have hO0 : ∀ h : O = [], (O.any fun e => eqDr e.1 (tnD (sdN b i))) = false := fun h => by rw [h]; rfl
  unfold cadd edP
  obtain ⟨t, ht⟩ : ∃ t, (O.any fun e => eqDr e.1 (tnD (sdN b i))) = t := ⟨_, rfl⟩
  rw [ht] at f1 hO0 ⊢
  obtain ⟨z, hz⟩ : ∃ z, moP (tnD (sdN b i)) a + moP (tnD (tnD (sdN b i))) b = z := ⟨_, rfl⟩
  rw [hz] at f5 ⊢
  generalize moP (tnD (sdN b i)) a = z1 at *
  generalize moP (tnD (tnD (sdN b i))) b = z2 at *
  have f5' : w64 (z1 + z2) = z := by rw [hz]; exact f5
  clear f5 hz ht
  simp only [encP, cP, encD, cD, iv, bv] at x2 g1 g2 g3 f1 f2 f3 f4
  generalize (nxP b i).1 = n1 at *
  generalize (nxP b i).2 = n2 at *
  generalize (b.getD i default).1 = p1 at *
  generalize (b.getD i default).2 = p2 at *
  clear e3 hp hn
  generalize tnD (tnD (sdN b i)) = v2 at *
  generalize tnD (sdN b i) = v at *
  generalize sdN b i = v0 at *
  obtain ⟨o1, o2, o3⟩ := v0
  obtain ⟨u1, u2, u3⟩ := v
  obtain ⟨y1, y2, y3⟩ := v2
  dsimp only at g2 g3 f1 f2 f3 f4
  have c1 := hra.cell
  have c2 := hrb.cell
  by_cases h0 : O = []
  · have := hO0 h0
    subst this
    subst h0
    have fq : dE cG ([] : List Eg) = .z true := rfl
    rw [fq] at f1
    rw [if_neg (by simp)]
    have hq : ([((u1, u2, u3), z)] : List Eg) ≠ [] := by simp
    simp -implicitDefEqProofs (maxSteps := 10000000) only [convex_Sides_l3, convex_Sides_i2, cs3_st, clo, bxA, gO_nil, hO_nil, gO_ne hq, hO_ne hq, List.nil_append, List.cons_append, List.append_nil, C.holds, c1, c2, x1, x2, g1, g2, g3, f1, f2, f3, f4, f5', e1, e2, hupdO_none, arE, flat1G, b32, b32', rep1_4, oneI, srcS, src, allD, snap, snapH, fillB, partsB, ld1c, st1c, ld3p, box3s, Bool.not_true, Bool.not_false, List.map_cons, List.map_nil, List.length_nil, List.length_cons, Nat.zero_add, List.cons.injEq, go_sem, iv, bv, reduceCtorEq, ↓reduceIte, Nat.reduceEqDiff]
  · have n3 := lenE cG_len O
    have n4 := bnd4 hOl
    have fq : dE cG O = .row O.length (O.flatMap cG) := if_neg h0
    rw [fq] at f1
    cases t with
    | true =>
      rw [if_pos rfl]
      simp -implicitDefEqProofs (maxSteps := 10000000) only [convex_Sides_l3, convex_Sides_i2, cs3_st, clo, bxA, gO_ne h0, hO_ne h0, List.nil_append, List.cons_append, List.append_nil, C.holds, c1, c2, x1, x2, g1, g2, g3, f1, f2, f3, f4, f5', e1, e2, hupdO_none, arE, refsL_E, allD_E, n3, n4, rep1_4, oneI, srcS, src, allD, snap, snapH, fillB, partsB, ld1c, st1c, ld3p, box3s, Bool.not_true, Bool.not_false, List.map_cons, List.map_nil, List.length_nil, List.length_cons, Nat.zero_add, List.cons.injEq, go_sem, iv, bv, reduceCtorEq, ↓reduceIte, Nat.reduceEqDiff]
    | false =>
      rw [if_neg (by simp)]
      simp -implicitDefEqProofs (maxSteps := 10000000) only [convex_Sides_l3, convex_Sides_i2, cs3_st, clo, bxA, gO_ne h0, hO_ne h0, gO_snoc, hO_snoc, cG_snoc, List.nil_append, List.cons_append, List.append_nil, C.holds, c1, c2, x1, x2, g1, g2, g3, f1, f2, f3, f4, f5', e1, e2, hupdO_none, arE, refsL_E, allD_E, n3, n4, rep1_4, oneI, srcS, src, allD, snap, snapH, fillB, partsB, ld1c, st1c, ld3p, box3s, Bool.not_true, Bool.not_false, List.map_cons, List.map_nil, List.length_nil, List.length_cons, Nat.zero_add, List.all_cons, List.all_nil, List.cons.injEq, go_sem, iv, bv, reduceCtorEq, ↓reduceIte, Nat.reduceEqDiff]
theorem cs1_stop {da db : D} {a b : List Pt} (hra : RwE cP da a) (hrb : RwE cP db b) {O : List Eg} : X G convex_Sides_l1 (cs1_st da db O a.length a.length) = some (.x 0, cs1_en da db O) := by
  have e1 : decide ((a.length : Int) < (a.length : Int)) = false := lt_f (by omega)
  by_cases h0 : O = []
  · subst h0
    simp -implicitDefEqProofs (maxSteps := 10000000) only [convex_Sides_l1, cs1_st, cs1_en, clo, bxA, gO_nil, hO_nil, List.nil_append, List.cons_append, List.append_nil, e1, hupdO_none, arE, refsL_E, List.cons.injEq, go_sem, iv, bv, reduceCtorEq, ↓reduceIte, Nat.reduceEqDiff]
  · simp -implicitDefEqProofs (maxSteps := 10000000) only [convex_Sides_l1, cs1_st, cs1_en, clo, bxA, gO_ne h0, hO_ne h0, List.nil_append, List.cons_append, List.append_nil, e1, hupdO_none, arE, refsL_E, List.cons.injEq, go_sem, iv, bv, reduceCtorEq, ↓reduceIte, Nat.reduceEqDiff]
theorem cs3_stop {da db : D} {b : List Pt} {O : List Eg} : X G convex_Sides_l3 (cs3_st da db O b.length b.length) = some (.x 2, cs3_en O) := by
  have e1 : decide ((b.length : Int) < (b.length : Int)) = false := lt_f (by omega)
  by_cases h0 : O = []
  · subst h0
    simp -implicitDefEqProofs (maxSteps := 10000000) only [convex_Sides_l3, cs3_st, cs3_en, clo, bxA, gO_nil, hO_nil, List.nil_append, List.cons_append, List.append_nil, e1, hupdO_none, arE, refsL_E, List.cons.injEq, go_sem, iv, bv, reduceCtorEq, ↓reduceIte, Nat.reduceEqDiff]
  · simp -implicitDefEqProofs (maxSteps := 10000000) only [convex_Sides_l3, cs3_st, cs3_en, clo, bxA, gO_ne h0, hO_ne h0, List.nil_append, List.cons_append, List.append_nil, e1, hupdO_none, arE, refsL_E, List.cons.injEq, go_sem, iv, bv, reduceCtorEq, ↓reduceIte, Nat.reduceEqDiff]
theorem cs1_loop {da db : D} {a b : List Pt} (hra : RwE cP da a) (hrb : RwE cP db b) (ha : GdS a) (hb : GdS b) : ∀ (j i : Nat), i + j = a.length → X G (.loop convex_Sides_l1) (cs1_st da db (sdO a b (drs a b) i) a.length i) = some (.x 0, cs1_en da db (sdO a b (drs a b) a.length))
  | 0, i, h => by
    have : i = a.length := by omega
    subst this
    rw [X_loop, cs1_stop hra hrb]; rfl
  | j + 1, i, h => by
    have hi : i < a.length := by omega
    have hl := drs_len a b
    have hc := cadd_sdO a b (drs a b) (i := i) (by omega)
    rw [drs_at_a hi] at hc
    rw [X_loop, cs1_go hra hrb ha hb (by have := sdO_len a b (drs a b) i; have := ha.le; omega) hi, Option.bind_some, if_pos rfl, hc]
    exact cs1_loop hra hrb ha hb j (i + 1) (by omega)
theorem cs3_loop {da db : D} {a b : List Pt} (hra : RwE cP da a) (hrb : RwE cP db b) (ha : GdS a) (hb : GdS b) : ∀ (j i : Nat), i + j = b.length → X G (.loop convex_Sides_l3) (cs3_st da db (sdO a b (drs a b) (a.length + i)) b.length i) = some (.x 2, cs3_en (sdP a b))
  | 0, i, h => by
    have hl := drs_len a b
    have : i = b.length := by omega
    subst this
    have e : sdO a b (drs a b) (a.length + b.length) = sdP a b := by unfold sdP; rw [hl]
    rw [X_loop, cs3_stop, e]; rfl
  | j + 1, i, h => by
    have hi : i < b.length := by omega
    have hl := drs_len a b
    have hc := cadd_sdO a b (drs a b) (i := a.length + i) (by omega)
    rw [drs_at_b hi] at hc
    rw [X_loop, cs3_go hra hrb ha hb (by have := sdO_len a b (drs a b) (a.length + i); have := ha.le; have := hb.le; omega) hi, Option.bind_some, if_pos rfl, hc]
    exact cs3_loop hra hrb ha hb j (i + 1) (by omega)
theorem cSides_spec {da db : D} {a b : List Pt} (hra : RwE cP da a) (hrb : RwE cP db b) (ha : GdS a) (hb : GdS b) : callX G n_convex_Sides [da, db] = some (.own 4 (sdP a b).length ((sdP a b).flatMap cG)) := by
  rw [callX_eq (cf := convex_Sides) rfl]
  have g1 := cs1_loop hra hrb ha hb a.length 0 (by omega)
  have g3 := cs3_loop hra hrb ha hb b.length 0 (by omega)
  have hne := sdP_ne (b := b) ha
  have e0 : sdO a b (drs a b) 0 = [] := rfl
  rw [e0] at g1
  rw [Nat.add_zero] at g3
  have l1 := hra.len
  have l2 := hrb.len
  have c1 := hra.cell
  have c2 := hrb.cell
  have o1 := hra.onec
  have o2 := hrb.onec
  generalize sdP a b = O at *
  generalize hO1 : sdO a b (drs a b) a.length = O1 at *
  have hne1 : O1 ≠ [] := by
    rw [← hO1]
    have key : ∀ n, 0 < n → sdO a b (drs a b) n ≠ [] := by
      intro n
      induction n with
      | zero => intro h; omega
      | succ n ih =>
        intro _
        rw [sdO]
        by_cases hn : 0 < n
        · split
          · simp
          · exact ih hn
        · have : n = 0 := by omega
          subst this
          simp [frI]
    exact key _ ha.pos
  clear hO1
  simp only [cs1_st, cs1_en, clo, bxA, gO_nil, hO_nil, gO_ne hne1, hO_ne hne1, arE, List.nil_append, List.cons_append, List.append_nil, hupdO_none, go_sem, nc0, iv] at g1
  simp only [cs3_st, cs3_en, clo, bxA, gO_ne hne1, hO_ne hne1, gO_ne hne, hO_ne hne, arE, List.nil_append, List.cons_append, List.append_nil, hupdO_none, go_sem, nc0, iv] at g3
  simp -implicitDefEqProofs (maxSteps := 10000000) only [convex_Sides, g1, g3, l1, l2, c1, c2, o1, o2, refsL_E, allD_E, allD, ld1c, hupdO_none, List.cons_append, List.nil_append, List.map_cons, List.map_nil, List.cons.injEq, go_sem, iv, bv, reduceCtorEq, ↓reduceIte, Nat.reduceEqDiff]
end Go.AM

/- convex: Area, Valid; searching rows of points. -/
namespace Go.AM
open Go Go.RowKit

def fiQ (p : Pt → Bool) (O : List Pt) : Nat → Nat → Int
  | 0, _ => -1
  | j + 1, i => if p (O.getD i default) then (i : Int) else fiQ p O j (i + 1)
theorem fiQ_any (p : Pt → Bool) (O : List Pt) : ∀ j i : Nat, i + j = O.length → (decide (fiQ p O j i ≥ 0) = (O.drop i).any p)
  | 0, i, h => by rw [List.drop_eq_nil_of_le (by omega)]; rfl
  | j + 1, i, h => by
    have hi : i < O.length := by omega
    rw [drop_getD hi, List.any_cons, fiQ]
    cases hp : p (O.getD i default) with
    | true => simp
    | false => simp only [Bool.false_eq_true, if_false, Bool.false_or]; exact fiQ_any p O j (i + 1) (by omega)

def arN (l : List Pt) : Nat → Int
  | 0 => 0
  | i + 1 => arN l i + crI (l.getD 0 default) (l.getD i default) (nxP l i)
theorem crI_b {a b c : Pt} (ha : SmP a) (hb : SmP b) (hc : SmP c) : -80000000000000000 ≤ crI a b c ∧ crI a b c ≤ 80000000000000000 := by
  obtain ⟨h1, h2⟩ := ha
  obtain ⟨h3, h4⟩ := hb
  obtain ⟨h5, h6⟩ := hc
  simp only [Sm] at h1 h2 h3 h4 h5 h6
  have bb : ∀ u v : Int, -200000000 ≤ u ∧ u ≤ 200000000 → -200000000 ≤ v ∧ v ≤ 200000000 → -40000000000000000 ≤ u * v ∧ u * v ≤ 40000000000000000 := by
    intro u v hu hv
    have h1 : (u * v).natAbs ≤ 200000000 * 200000000 := by
      rw [Int.natAbs_mul]
      exact Nat.mul_le_mul (by omega) (by omega)
    omega
  have m1 := bb (b.1 - a.1) (c.2 - a.2) (by omega) (by omega)
  have m2 := bb (b.2 - a.2) (c.1 - a.1) (by omega) (by omega)
  unfold crI
  omega
theorem nxP_sm {l : List Pt} (hl : ∀ p ∈ l, SmP p) (i : Nat) : SmP (nxP l i) := by unfold nxP; split <;> exact getD_all hl smP0 _
theorem arN_b {l : List Pt} (hl : ∀ p ∈ l, SmP p) : ∀ i : Nat, -80000000000000000 * (i : Int) ≤ arN l i ∧ arN l i ≤ 80000000000000000 * (i : Int)
  | 0 => by simp [arN]
  | i + 1 => by
    have ih := arN_b hl i
    have := crI_b (getD_all hl smP0 0) (getD_all hl smP0 i) (nxP_sm hl i)
    rw [arN]
    omega
/-- Each other corner is on the left. -/
def cvB (l : List Pt) : Bool := (List.range l.length).all fun i => (List.range l.length).all fun k => k == i || k == (i + 1) % l.length || decide (0 < crI (l.getD i default) (nxP l i) (l.getD k default))
theorem cvB_at {l : List Pt} (h : cvB l = true) {i k : Nat} (hi : i < l.length) (hk : k < l.length) (h1 : k ≠ i) (h2 : k ≠ (i + 1) % l.length) : 0 < crI (l.getD i default) (nxP l i) (l.getD k default) := by
  unfold cvB at h
  rw [List.all_eq_true] at h
  have h3 := h i (List.mem_range.2 hi)
  rw [List.all_eq_true] at h3
  have h4 := h3 k (List.mem_range.2 hk)
  simp only [Bool.or_eq_true, beq_iff_eq, decide_eq_true_eq] at h4
  rcases h4 with (h4 | h4) | h4
  · exact absurd h4 h1
  · exact absurd h4 h2
  · exact h4
structure Lim (l : List Pt) : Prop where
  cv : cvB l = true
  lo : 3 ≤ l.length
  hi : l.length ≤ 8
  bd : ∀ p ∈ l, (-1048576 ≤ p.1 ∧ p.1 ≤ 1048576) ∧ (-1048576 ≤ p.2 ∧ p.2 ≤ 1048576)
def ar_st (d : D) (s n i : Int) : St := mkS [(0, .d d), (3, ai s), (6, ai n), (7, ai i)] []
def ar_en (s : Int) : St := mkS [(3, ai s)] []
def vl0_st (d : D) (i n j m k : Int) : St := mkS [(0, .d d), (4, ai i), (20, ai n), (21, ai j), (38, ai m), (39, ai k)] []
def vl0_en (d : D) (n j : Int) : St := mkS [(0, .d d), (20, ai n), (21, ai j)] []
def vl1_st (d : D) (n j : Int) : St := mkS [(0, .d d), (20, ai n), (21, ai j)] []
variable [Its]
/-! ### Searching -/
section
variable {d : D} {O : List Pt} {f : Nat} {caps : List D} {p : Pt → Bool}
def ixQ_st (d : D) (f : Nat) (caps : List D) (n i : Int) : St := mkS [(0, .d d), (1, .d (.fn f caps)), (7, ai n), (8, ai i)] []
theorem ixQ_no (hr : RwE cP d O) (hn : O.length ≤ 1000000) {i : Nat} (hi : i < O.length) (hf : callX G f (encP (O.getD i default) :: caps) = some (.d (bv false))) : X G slices_IndexFunc_api_Point_api_Point_l0 (ixQ_st d f caps O.length i) = some (.n, ixQ_st d f caps O.length ((i + 1 : Nat) : Int)) := by
  have e1 : decide ((i : Int) < (O.length : Int)) = true := lt_t (by omega)
  have e2 : w64 ((i : Int) + 1) = ((i + 1 : Nat) : Int) := by rw [w64_id (by omega) (by omega)]; rfl
  have x1 := hr.ixa cP_len hi
  have x2 := fun hp => ldE cP_len hp hi
  generalize O.getD i default = e at *
  obtain ⟨a, b⟩ := e
  simp only [encP, cP, iv, bv] at hf x2
  simp -implicitDefEqProofs (maxSteps := 10000000) only [slices_IndexFunc_api_Point_api_Point_l0, ixQ_st, x1, x2, e1, e2, hf, List.cons_append, List.nil_append, go_sem, iv, bv, reduceCtorEq, ↓reduceIte, Nat.reduceEqDiff]
theorem ixQ_yes (hr : RwE cP d O) (hn : O.length ≤ 1000000) {i : Nat} (hi : i < O.length) (hf : callX G f (encP (O.getD i default) :: caps) = some (.d (bv true))) : X G slices_IndexFunc_api_Point_api_Point_l0 (ixQ_st d f caps O.length i) = some (.r, mkS [(4, ai i)] []) := by
  have e1 : decide ((i : Int) < (O.length : Int)) = true := lt_t (by omega)
  have x1 := hr.ixa cP_len hi
  have x2 := fun hp => ldE cP_len hp hi
  generalize O.getD i default = e at *
  obtain ⟨a, b⟩ := e
  simp only [encP, cP, iv, bv] at hf x2
  simp -implicitDefEqProofs (maxSteps := 10000000) only [slices_IndexFunc_api_Point_api_Point_l0, ixQ_st, x1, x2, e1, hf, List.cons_append, List.nil_append, go_sem, iv, bv, reduceCtorEq, ↓reduceIte, Nat.reduceEqDiff]
theorem ixQ_stop : X G slices_IndexFunc_api_Point_api_Point_l0 (ixQ_st d f caps O.length O.length) = some (.x 0, mkS [] []) := by
  have e1 : decide ((O.length : Int) < (O.length : Int)) = false := lt_f (by omega)
  simp -implicitDefEqProofs (maxSteps := 10000000) only [slices_IndexFunc_api_Point_api_Point_l0, ixQ_st, e1, go_sem, iv, bv, reduceCtorEq, ↓reduceIte, Nat.reduceEqDiff]
/-- The place of the first that has it, from i on; -1 if none has. -/
theorem ixQ_loop (hr : RwE cP d O) (hn : O.length ≤ 1000000) (hf : ∀ i, i < O.length → callX G f (encP (O.getD i default) :: caps) = some (.d (bv (p (O.getD i default))))) : ∀ j i : Nat, i + j = O.length →
    X G (.loop slices_IndexFunc_api_Point_api_Point_l0) (ixQ_st d f caps O.length i) = (if fiQ p O j i = -1 then some (.x 0, mkS [] []) else some (.r, mkS [(4, ai (fiQ p O j i))] []))
  | 0, i, h => by
    have : i = O.length := by omega
    subst this
    rw [X_loop, ixQ_stop]; rfl
  | j + 1, i, h => by
    have hi : i < O.length := by omega
    have hh := hf i hi
    rw [fiQ]
    cases hp : p (O.getD i default) with
    | true =>
      rw [hp] at hh
      rw [X_loop, ixQ_yes hr hn hi hh, if_pos rfl, if_neg (by omega)]; rfl
    | false =>
      rw [hp] at hh
      simp only [Bool.false_eq_true, if_false]
      rw [X_loop, ixQ_no hr hn hi hh, Option.bind_some, if_pos rfl]
      exact ixQ_loop hr hn hf j (i + 1) (by omega)
theorem IndexQ_spec (hr : RwE cP d O) (hn : O.length ≤ 1000000) (hf : ∀ i, i < O.length → callX G f (encP (O.getD i default) :: caps) = some (.d (bv (p (O.getD i default))))) : callX G n_slices_IndexFunc_api_Point_api_Point [d, .fn f caps] = some (.d (iv (fiQ p O O.length 0))) := by
  rw [callX_eq (cf := slices_IndexFunc_api_Point_api_Point) rfl]
  have ll := hr.len
  have h := ixQ_loop hr hn hf O.length 0 (by omega)
  simp only [ixQ_st, go_sem, nc0] at h
  generalize fiQ p O O.length 0 = z at *
  by_cases hz : z = -1
  · subst hz
    simp only [if_true] at h
    simp -implicitDefEqProofs (maxSteps := 10000000) only [slices_IndexFunc_api_Point_api_Point, h, ll, go_sem, iv, bv, reduceCtorEq, ↓reduceIte, Nat.reduceEqDiff]
  · rw [if_neg hz] at h
    simp -implicitDefEqProofs (maxSteps := 10000000) only [slices_IndexFunc_api_Point_api_Point, h, ll, go_sem, iv, bv, reduceCtorEq, ↓reduceIte, Nat.reduceEqDiff]
end
theorem ContQ_spec {d : D} {O : List Pt} {f : Nat} {caps : List D} {p : Pt → Bool} (hr : RwE cP d O) (hn : O.length ≤ 1000000) (hf : ∀ i, i < O.length → callX G f (encP (O.getD i default) :: caps) = some (.d (bv (p (O.getD i default))))) : callX G n_slices_ContainsFunc_api_Point_api_Point [d, .fn f caps] = some (.d (bv (O.any p))) := by
  rw [callX_eq (cf := slices_ContainsFunc_api_Point_api_Point) rfl]
  have g := IndexQ_spec hr hn hf
  have e1 := fiQ_any p O O.length 0 (by omega)
  rw [List.drop_zero] at e1
  generalize fiQ p O O.length 0 = z at *
  generalize O.any p = t at *
  simp only [iv] at g
  simp -implicitDefEqProofs (maxSteps := 10000000) only [slices_ContainsFunc_api_Point_api_Point, g, e1, go_sem, iv, bv, reduceCtorEq, ↓reduceIte, Nat.reduceEqDiff]

theorem ar_go {d : D} {l : List Pt} (hr : RwE cP d l) (hl : ∀ p ∈ l, SmP p) (hn : l.length ≤ 10) {i : Nat} (hi : i < l.length) : X G convex_Area_l0 (ar_st d (arN l i) l.length i) = some (.n, ar_st d (arN l (i + 1)) l.length ((i + 1 : Nat) : Int)) := by
  have e1 : decide ((i : Int) < (l.length : Int)) = true := lt_t (by omega)
  have e2 : w64 ((i : Int) + 1) = ((i + 1 : Nat) : Int) := by rw [w64_id (by omega) (by omega)]; rfl
  have x1 := hr.ixa cP_len hi
  have x2 := fun hp => ldE cP_len hp hi
  have x3 := hr.ixa (j := 0) cP_len (by omega)
  have x4 := fun hp => ldE (j := 0) (l := l) cP_len hp (by omega)
  have g1 := cnext_spec hr hi (by omega)
  have g2 := cross_spec (getD_all hl smP0 0) (getD_all hl smP0 i) (nxP_sm hl i)
  have b1 := arN_b hl i
  have b2 := crI_b (getD_all hl smP0 0) (getD_all hl smP0 i) (nxP_sm hl i)
  rw [arN]
  obtain ⟨z, hz⟩ : ∃ z, arN l i + crI (l.getD 0 default) (l.getD i default) (nxP l i) = z := ⟨_, rfl⟩
  have e3 : w64 (arN l i + crI (l.getD 0 default) (l.getD i default) (nxP l i)) = z := by rw [w64_id (by omega) (by omega), hz]
  rw [hz]
  generalize crI (l.getD 0 default) (l.getD i default) (nxP l i) = c at *
  generalize arN l i = s at *
  generalize nxP l i = q1 at *
  generalize l.getD i default = q2 at *
  generalize l.getD 0 default = q3 at *
  obtain ⟨a1, a2⟩ := q1
  obtain ⟨b1, b2⟩ := q2
  obtain ⟨c1, c2⟩ := q3
  simp only [nc0, List.drop_zero] at x3 x4
  simp only [encP, cP, iv] at x2 x4 g1 g2
  simp -implicitDefEqProofs (maxSteps := 10000000) only [convex_Area_l0, ar_st, x1, x2, x3, x4, g1, g2, e1, e2, e3, go_sem, iv, bv, reduceCtorEq, ↓reduceIte, Nat.reduceEqDiff]
theorem ar_stop {d : D} {l : List Pt} {s : Int} : X G convex_Area_l0 (ar_st d s l.length l.length) = some (.x 0, ar_en s) := by
  have e1 : decide ((l.length : Int) < (l.length : Int)) = false := lt_f (by omega)
  simp -implicitDefEqProofs (maxSteps := 10000000) only [convex_Area_l0, ar_st, ar_en, e1, go_sem, iv, bv, reduceCtorEq, ↓reduceIte, Nat.reduceEqDiff]
theorem ar_loop {d : D} {l : List Pt} (hr : RwE cP d l) (hl : ∀ p ∈ l, SmP p) (hn : l.length ≤ 10) : ∀ (j i : Nat), i + j = l.length → X G (.loop convex_Area_l0) (ar_st d (arN l i) l.length i) = some (.x 0, ar_en (arN l l.length))
  | 0, i, h => by
    have : i = l.length := by omega
    subst this
    rw [X_loop, ar_stop]; rfl
  | j + 1, i, h => by
    rw [X_loop, ar_go hr hl hn (by omega), Option.bind_some, if_pos rfl]
    exact ar_loop hr hl hn j (i + 1) (by omega)
theorem cArea_spec {d : D} {l : List Pt} (hr : RwE cP d l) (hl : ∀ p ∈ l, SmP p) (hn : l.length ≤ 10) : callX G n_convex_Area [d] = some (.d (iv (arN l l.length))) := by
  rw [callX_eq (cf := convex_Area) rfl]
  have ll := hr.len
  have g := ar_loop hr hl hn l.length 0 (by omega)
  have e0 : arN l 0 = 0 := rfl
  rw [e0] at g
  generalize arN l l.length = z at *
  simp only [ar_st, ar_en, nc0, go_sem] at g
  simp -implicitDefEqProofs (maxSteps := 10000000) only [convex_Area, g, ll, go_sem, iv, bv, reduceCtorEq, ↓reduceIte, Nat.reduceEqDiff]
theorem V1p_spec {p : Pt} (hb : (-1048576 ≤ p.1 ∧ p.1 ≤ 1048576) ∧ (-1048576 ≤ p.2 ∧ p.2 ≤ 1048576)) : callX G n_convex_Valid_1 [encP p] = some (.d (bv false)) := by
  rw [callX_eq (cf := convex_Valid_1) rfl]
  obtain ⟨x, y⟩ := p
  dsimp only at hb
  obtain ⟨u, hu⟩ : ∃ u, (if y < x then y else x) = u := ⟨_, rfl⟩
  obtain ⟨v, hv⟩ : ∃ u, (if y > x then y else x) = u := ⟨_, rfl⟩
  have b1 : -1048576 ≤ u := by rw [← hu]; split <;> omega
  have b2 : v ≤ 1048576 := by rw [← hv]; split <;> omega
  have e1 : decide (u < -1048576) = false := lt_f (by omega)
  have e2 : decide (v > 1048576) = false := gt_f (by omega)
  simp -implicitDefEqProofs (maxSteps := 10000000) only [convex_Valid_1, encP, cP, foldV, mnV, mxV, ld2_0, ld2_1, hu, hv, e1, e2, go_sem, iv, bv, reduceCtorEq, ↓reduceIte, Nat.reduceEqDiff]
theorem vl0_go {d : D} {l : List Pt} (hr : RwE cP d l) (hg : GdS l) (hL : Lim l) {i k : Nat} (hi : i < l.length) (hk : k < l.length) : X G convex_Valid_l0 (vl0_st d i l.length i l.length k) = some (.n, vl0_st d i l.length i l.length ((k + 1 : Nat) : Int)) := by
  have h8 := hL.hi
  have e1 : decide ((k : Int) < (l.length : Int)) = true := lt_t (by omega)
  have e2 : w64 ((k : Int) + 1) = ((k + 1 : Nat) : Int) := by rw [w64_id (by omega) (by omega)]; rfl
  have e3 : w64 ((i : Int) + 1) = ((i + 1 : Nat) : Int) := by rw [w64_id (by omega) (by omega)]; rfl
  have e4 := eqz_f (b := (l.length : Int)) (by omega)
  have e5 : (((i + 1 : Nat) : Int)).tmod (l.length : Int) = (((i + 1) % l.length : Nat) : Int) := by rw [rem_pos (by omega)]; omega
  have x1 := hr.ixa cP_len hi
  have x2 := fun hp => ldE cP_len hp hi
  have x3 := hr.ixa cP_len hk
  have x4 := fun hp => ldE cP_len hp hk
  have ll := hr.len
  have g1 := cnext_spec hr hi (by omega)
  have g2 := cross_spec (getD_all hg.sm smP0 i) (nxP_sm hg.sm i) (getD_all hg.sm smP0 k)
  have hpos : k ≠ i → k ≠ (i + 1) % l.length → 0 < crI (l.getD i default) (nxP l i) (l.getD k default) := cvB_at hL.cv hi hk
  generalize crI (l.getD i default) (nxP l i) (l.getD k default) = c at *
  generalize nxP l i = q1 at *
  generalize l.getD i default = q2 at *
  generalize l.getD k default = q3 at *
  obtain ⟨a1, a2⟩ := q1
  obtain ⟨b1, b2⟩ := q2
  obtain ⟨c1, c2⟩ := q3
  simp only [encP, cP, iv] at x2 x4 g1 g2
  by_cases h1 : k = i
  · have t1 : ((k : Int) != (i : Int)) = false := bne_f (by omega)
    simp -implicitDefEqProofs (maxSteps := 10000000) only [convex_Valid_l0, vl0_st, t1, ll, e1, e2, e3, e4, e5, go_sem, iv, bv, reduceCtorEq, ↓reduceIte, Nat.reduceEqDiff]
  · have t1 : ((k : Int) != (i : Int)) = true := bne_t (by omega)
    by_cases h2 : k = (i + 1) % l.length
    · have t2 : ((k : Int) != (((i + 1) % l.length : Nat) : Int)) = false := bne_f (by omega)
      simp -implicitDefEqProofs (maxSteps := 10000000) only [convex_Valid_l0, vl0_st, t1, t2, ll, e1, e2, e3, e4, e5, go_sem, iv, bv, reduceCtorEq, ↓reduceIte, Nat.reduceEqDiff]
    · have t2 : ((k : Int) != (((i + 1) % l.length : Nat) : Int)) = true := bne_t (by omega)
      have t3 : decide (c ≤ 0) = false := le_f (by have := hpos h1 h2; omega)
      simp -implicitDefEqProofs (maxSteps := 10000000) only [convex_Valid_l0, vl0_st, t1, t2, t3, ll, e1, e2, e3, e4, e5, x1, x2, x3, x4, g1, g2, go_sem, iv, bv, reduceCtorEq, ↓reduceIte, Nat.reduceEqDiff]
theorem vl0_stop {d : D} {n i : Int} {m : Nat} : X G convex_Valid_l0 (vl0_st d i n i m m) = some (.x 2, vl0_en d n i) := by
  have e1 : decide ((m : Int) < (m : Int)) = false := lt_f (by omega)
  simp -implicitDefEqProofs (maxSteps := 10000000) only [convex_Valid_l0, vl0_st, vl0_en, e1, go_sem, iv, bv, reduceCtorEq, ↓reduceIte, Nat.reduceEqDiff]
theorem vl0_loop {d : D} {l : List Pt} (hr : RwE cP d l) (hg : GdS l) (hL : Lim l) {i : Nat} (hi : i < l.length) : ∀ (j k : Nat), k + j = l.length → X G (.loop convex_Valid_l0) (vl0_st d i l.length i l.length k) = some (.x 2, vl0_en d l.length i)
  | 0, k, h => by
    have : k = l.length := by omega
    subst this
    rw [X_loop, vl0_stop]; rfl
  | j + 1, k, h => by
    rw [X_loop, vl0_go hr hg hL hi (by omega), Option.bind_some, if_pos rfl]
    exact vl0_loop hr hg hL hi j (k + 1) (by omega)
theorem vl1_go {d : D} {l : List Pt} (hr : RwE cP d l) (hg : GdS l) (hL : Lim l) {i : Nat} (hi : i < l.length) : X G convex_Valid_l1 (vl1_st d l.length i) = some (.n, vl1_st d l.length ((i + 1 : Nat) : Int)) := by
  have h8 := hL.hi
  have e1 : decide ((i : Int) < (l.length : Int)) = true := lt_t (by omega)
  have e2 : w64 ((i : Int) + 1) = ((i + 1 : Nat) : Int) := by rw [w64_id (by omega) (by omega)]; rfl
  have x1 := hr.ixa cP_len hi
  have x2 := fun hp => ldE cP_len hp hi
  have ll := hr.len
  have g1 := cnext_spec hr hi (by omega)
  have g2 := cNorm_spec (h := sdh l i) (getD_all hg.sm smP0 i) (nxP_sm hg.sm i) (hg.sq i hi).1 (hg.sq i hi).2
  have gl := vl0_loop hr hg hL hi l.length 0 (by omega)
  generalize nrP ((nxP l i).1 - (l.getD i default).1) ((nxP l i).2 - (l.getD i default).2) (sdh l i) = v at *
  generalize nxP l i = q1 at *
  generalize l.getD i default = q2 at *
  obtain ⟨a1, a2⟩ := q1
  obtain ⟨b1, b2⟩ := q2
  obtain ⟨v1, v2, v3⟩ := v
  simp only [encP, cP, encD, cD, iv, bv] at x2 g1 g2
  simp only [vl0_st, vl0_en, nc0, go_sem] at gl
  simp -implicitDefEqProofs (maxSteps := 10000000) only [convex_Valid_l1, vl1_st, gl, ll, e1, e2, x1, x2, g1, g2, box3s, Bool.not_true, go_sem, iv, bv, reduceCtorEq, ↓reduceIte, Nat.reduceEqDiff]
theorem vl1_stop {d : D} {m : Nat} : X G convex_Valid_l1 (vl1_st d m m) = some (.x 0, mkS [] []) := by
  have e1 : decide ((m : Int) < (m : Int)) = false := lt_f (by omega)
  simp -implicitDefEqProofs (maxSteps := 10000000) only [convex_Valid_l1, vl1_st, e1, go_sem, iv, bv, reduceCtorEq, ↓reduceIte, Nat.reduceEqDiff]
theorem vl1_loop {d : D} {l : List Pt} (hr : RwE cP d l) (hg : GdS l) (hL : Lim l) : ∀ (j i : Nat), i + j = l.length → X G (.loop convex_Valid_l1) (vl1_st d l.length i) = some (.x 0, mkS [] [])
  | 0, i, h => by
    have : i = l.length := by omega
    subst this
    rw [X_loop, vl1_stop]; rfl
  | j + 1, i, h => by
    rw [X_loop, vl1_go hr hg hL (by omega), Option.bind_some, if_pos rfl]
    exact vl1_loop hr hg hL j (i + 1) (by omega)
theorem cValid_spec {d : D} {l : List Pt} (hr : RwE cP d l) (hg : GdS l) (hL : Lim l) : callX G n_convex_Valid [d] = some (.d (bv true)) := by
  have hc := ContQ_spec (f := n_convex_Valid_1) (caps := []) (p := fun _ => false) hr (by have := hL.hi; omega) (fun i hi => V1p_spec (hL.bd _ (by rw [List.getD_eq_getElem?_getD, List.getElem?_eq_getElem hi]; exact List.getElem_mem hi)))
  rw [show l.any (fun _ => false) = false by simp] at hc
  rw [callX_eq (cf := convex_Valid) rfl]
  have h3 := hL.lo
  have h8 := hL.hi
  have ll := hr.len
  have e1 : decide ((l.length : Int) < 3) = false := lt_f (by omega)
  have e2 : decide ((l.length : Int) > 8) = false := gt_f (by omega)
  have g := vl1_loop hr hg hL l.length 0 (by omega)
  simp only [vl1_st, nc0, go_sem] at g
  simp only [bv] at hc
  simp -implicitDefEqProofs (maxSteps := 10000000) only [convex_Valid, g, hc, ll, e1, e2, go_sem, iv, bv, reduceCtorEq, ↓reduceIte, Nat.reduceEqDiff]
theorem cValid_two {d : D} {l : List Pt} (hr : RwE cP d l) (h : l.length = 2) : callX G n_convex_Valid [d] = some (.d (bv false)) := by
  rw [callX_eq (cf := convex_Valid) rfl]
  have ll := hr.len
  have e1 : decide ((l.length : Int) < 3) = true := lt_t (by omega)
  simp -implicitDefEqProofs (maxSteps := 10000000) only [convex_Valid, ll, e1, go_sem, iv, bv, reduceCtorEq, ↓reduceIte, Nat.reduceEqDiff]
end Go.AM

/- Rows of edges: their directions, each once; the same after moving and exchanging; limits of the shapes. -/
namespace Go.AM
open Go Go.RowKit

def uqD (ds : List Dr) : Nat → List Dr
  | 0 => []
  | i + 1 => if frI ds i i then uqD ds i ++ [ds.getD i default] else uqD ds i
theorem sdO_uq (a b : List Pt) (ds : List Dr) : ∀ i, sdO a b ds i = (uqD ds i).map (edP a b)
  | 0 => rfl
  | i + 1 => by
    rw [sdO, uqD, sdO_uq a b ds i]
    split
    · rw [List.map_append]; rfl
    · rfl
theorem frI_iff (ds : List Dr) (i : Nat) : ∀ k, frI ds i k = true ↔ ∀ j, j < k → ds.getD j default ≠ ds.getD i default
  | 0 => by simp [frI]
  | k + 1 => by
    rw [frI, Bool.and_eq_true, frI_iff ds i k]
    constructor
    · rintro ⟨h1, h2⟩ j hj
      by_cases h : j = k
      · subst h
        intro h3
        rw [eqDr_iff.2 h3] at h2
        cases h2
      · exact h1 j (by omega)
    · intro h
      refine ⟨fun j hj => h j (by omega), ?_⟩
      cases h3 : eqDr (ds.getD k default) (ds.getD i default) with
      | false => rfl
      | true => exact absurd (eqDr_iff.1 h3) (h k (by omega))
theorem uqD_mem (ds : List Dr) {d : Dr} : ∀ i, d ∈ uqD ds i ↔ ∃ j, j < i ∧ ds.getD j default = d
  | 0 => by simp [uqD]
  | i + 1 => by
    have ih := uqD_mem ds (d := d) i
    rw [uqD]
    constructor
    · intro h
      split at h
      · rcases List.mem_append.1 h with h | h
        · obtain ⟨j, h1, h2⟩ := ih.1 h
          exact ⟨j, by omega, h2⟩
        · rw [List.mem_singleton] at h
          exact ⟨i, by omega, h.symm⟩
      · obtain ⟨j, h1, h2⟩ := ih.1 h
        exact ⟨j, by omega, h2⟩
    · rintro ⟨j, h1, h2⟩
      by_cases hj : j = i
      · subst hj
        split
        · exact List.mem_append.2 (.inr (by rw [h2]; exact List.mem_singleton.2 rfl))
        · rename_i hf
          have : ¬ ∀ k, k < j → ds.getD k default ≠ ds.getD j default := fun hh => hf ((frI_iff ds j j).2 hh)
          have h3 : ∃ k, k < j ∧ ds.getD k default = d := by
            refine Classical.byContradiction fun hc => this fun k hk hh => hc ⟨k, hk, by rw [hh, h2]⟩
          exact ih.2 h3
      · have h3 := ih.2 ⟨j, by omega, h2⟩
        split
        · exact List.mem_append.2 (.inl h3)
        · exact h3
theorem len_inj {f : Dr → Dr} (hf : ∀ x y, f x = f y → x = y) : ∀ (l m : List Dr), l.Nodup → (∀ x ∈ l, f x ∈ m) → l.length ≤ m.length
  | [], m, _, _ => by simp
  | x :: t, m, hn, hm => by
    have hx := hm x List.mem_cons_self
    rw [List.nodup_cons] at hn
    have h1 := len_inj hf t (m.erase (f x)) hn.2 fun y hy => by
      refine (List.mem_erase_of_ne ?_).2 (hm y (List.mem_cons_of_mem _ hy))
      intro h
      exact hn.1 (hf _ _ h ▸ hy)
    rw [List.length_erase_of_mem hx] at h1
    have := List.length_pos_of_mem hx
    rw [List.length_cons]
    omega
theorem getD_mem' {l : List Dr} {i : Nat} (h : i < l.length) : l.getD i default ∈ l := by rw [List.getD_eq_getElem?_getD, List.getElem?_eq_getElem h]; exact List.getElem_mem h
theorem mem_getD' {l : List Dr} {d : Dr} (h : d ∈ l) : ∃ i, i < l.length ∧ l.getD i default = d := by
  obtain ⟨i, hi, e⟩ := List.getElem_of_mem h
  exact ⟨i, hi, by rw [List.getD_eq_getElem?_getD, List.getElem?_eq_getElem hi]; exact e⟩
def uqS (a b : List Pt) : List Dr := uqD (drs a b) (drs a b).length
theorem uqS_mem (a b : List Pt) {d : Dr} : d ∈ uqS a b ↔ d ∈ drs a b := by
  unfold uqS
  rw [uqD_mem]
  constructor
  · rintro ⟨j, h1, h2⟩
    rw [← h2]
    exact getD_mem' h1
  · intro h
    exact mem_getD' h
theorem sdP_uq (a b : List Pt) : sdP a b = (uqS a b).map (edP a b) := sdO_uq a b _ _
/-- Three sides with three directions. -/
def thr (l : List Pt) : Bool := decide (3 ≤ l.length) && !(eqDr (sdN l 0) (sdN l 1)) && !(eqDr (sdN l 0) (sdN l 2)) && !(eqDr (sdN l 1) (sdN l 2))
theorem sdP_three {a b : List Pt} (h : thr a = true) : 3 ≤ (sdP a b).length := by
  rw [sdP_uq, List.length_map]
  simp only [thr, Bool.and_eq_true, decide_eq_true_eq, Bool.not_eq_true'] at h
  obtain ⟨⟨⟨h0, h1⟩, h2⟩, h3⟩ := h
  have e1 : sdN a 0 ≠ sdN a 1 := fun e => by rw [eqDr_iff.2 e] at h1; cases h1
  have e2 : sdN a 0 ≠ sdN a 2 := fun e => by rw [eqDr_iff.2 e] at h2; cases h2
  have e3 : sdN a 1 ≠ sdN a 2 := fun e => by rw [eqDr_iff.2 e] at h3; cases h3
  have := len_inj (f := id) (fun _ _ h => h) [sdN a 0, sdN a 1, sdN a 2] (uqS a b) (by simp [e1, e2, e3]) fun x hx => by
    rw [id, uqS_mem]
    unfold drs
    refine List.mem_append.2 (.inl (List.mem_map.2 ?_))
    simp only [List.mem_cons, List.not_mem_nil, or_false] at hx
    rcases hx with rfl | rfl | rfl
    · exact ⟨0, List.mem_range.2 (by omega), rfl⟩
    · exact ⟨1, List.mem_range.2 (by omega), rfl⟩
    · exact ⟨2, List.mem_range.2 (by omega), rfl⟩
  simpa using this
/-! The base shapes -/
def chkL (l : List Pt) : Bool := cvB l && thr l && decide (l.length ≤ 8) && l.all fun p => decide (-1000 ≤ p.1 ∧ p.1 ≤ 1000) && decide (-1000 ≤ p.2 ∧ p.2 ≤ 1000)
theorem chkL_all : ((List.range 7).all fun c => (List.range 3).all fun k => (List.range 6).all fun m => chkL (spB (c : Int) (1 + (k : Int)) (1 + (m : Int)))) = true := by kernel_rfl
theorem spB_chkL {c k m : Int} (hc : 0 ≤ c ∧ c < 7) (hk : 1 ≤ k ∧ k < 4) (hm : 1 ≤ m ∧ m < 7) : chkL (spB c k m) = true := by
  have h := chkL_all
  rw [List.all_eq_true] at h
  have h1 := h c.toNat (List.mem_range.2 (by omega))
  rw [List.all_eq_true] at h1
  have h2 := h1 (k - 1).toNat (List.mem_range.2 (by omega))
  rw [List.all_eq_true] at h2
  have h3 := h2 (m - 1).toNat (List.mem_range.2 (by omega))
  rwa [show ((c.toNat : Nat) : Int) = c by omega, show 1 + (((k - 1).toNat : Nat) : Int) = k by omega, show 1 + (((m - 1).toNat : Nat) : Int) = m by omega] at h3
theorem crI_mv (x y : Int) (a b c : Pt) : crI (mvP x y a) (mvP x y b) (mvP x y c) = crI a b c := by
  unfold crI mvP
  dsimp only
  rw [show b.1 + x - (a.1 + x) = b.1 - a.1 by omega, show c.2 + y - (a.2 + y) = c.2 - a.2 by omega, show b.2 + y - (a.2 + y) = b.2 - a.2 by omega, show c.1 + x - (a.1 + x) = c.1 - a.1 by omega]
theorem cvB_mv (x y : Int) (l : List Pt) : cvB (l.map (mvP x y)) = cvB l := by
  unfold cvB
  rw [List.length_map, Bool.eq_iff_iff, List.all_eq_true, List.all_eq_true]
  constructor <;> intro h i hi
  all_goals
    have h1 := h i hi
    rw [List.all_eq_true] at *
    intro k hk
    have h2 := h1 k hk
    rw [mv_getD _ _ (List.mem_range.1 hi), mv_nx _ _ (List.mem_range.1 hi), mv_getD _ _ (List.mem_range.1 hk), crI_mv] at *
    exact h2
theorem thr_mv (x y : Int) (l : List Pt) : thr l = true → thr (l.map (mvP x y)) = true := by
  intro h
  unfold thr at *
  rw [List.length_map]
  have h0 : 3 ≤ l.length := by
    simp only [Bool.and_eq_true, decide_eq_true_eq] at h
    exact h.1.1.1
  rw [mv_sdN _ _ (by omega), mv_sdN _ _ (by omega), mv_sdN _ _ (by omega)]
  exact h
theorem lim_mv {c k m x y : Int} (hc : 0 ≤ c ∧ c < 7) (hk : 1 ≤ k ∧ k < 4) (hm : 1 ≤ m ∧ m < 7) (hx : -1000000 ≤ x ∧ x ≤ 1000000) (hy : -1000000 ≤ y ∧ y ≤ 1000000) : Lim ((spB c k m).map (mvP x y)) ∧ thr ((spB c k m).map (mvP x y)) = true := by
  have h := spB_chkL hc hk hm
  unfold chkL at h
  simp only [Bool.and_eq_true, decide_eq_true_eq] at h
  obtain ⟨⟨⟨h1, h2⟩, h3⟩, h4⟩ := h
  have h0 : 3 ≤ (spB c k m).length := by
    unfold thr at h2
    simp only [Bool.and_eq_true, decide_eq_true_eq] at h2
    exact h2.1.1.1
  refine ⟨⟨by rw [cvB_mv]; exact h1, by rw [List.length_map]; exact h0, by rw [List.length_map]; exact h3, ?_⟩, thr_mv _ _ _ h2⟩
  intro p hp
  obtain ⟨q, hq, rfl⟩ := List.mem_map.1 hp
  have := List.all_eq_true.1 h4 q hq
  simp only [Bool.and_eq_true, decide_eq_true_eq] at this
  unfold mvP
  dsimp only
  omega
theorem lim_sh (l : List Int) : Lim (spP l) ∧ thr (spP l) = true := by
  obtain ⟨h1, h2, h3, h4, h5⟩ := sh_b l
  exact lim_mv h1 h2 h3 ⟨by omega, by omega⟩ ⟨by omega, by omega⟩
/-! Moved -/
theorem moP_mv (d : Dr) (x y : Int) {l : List Pt} (h0 : 0 < l.length) : moP d (l.map (mvP x y)) = moP d l + (d.1 * x + d.2.1 * y) := by
  have hd : ∀ i, i < l.length → dotI d ((l.map (mvP x y)).getD i default) = dotI d (l.getD i default) + (d.1 * x + d.2.1 * y) := by
    intro i hi
    rw [mv_getD _ _ hi]
    unfold dotI mvP
    dsimp only
    rw [Int.mul_add, Int.mul_add]
    omega
  have hm : ∀ i, i ≤ l.length → mstN d (l.map (mvP x y)) i = mstN d l i + (d.1 * x + d.2.1 * y) := by
    intro i
    induction i with
    | zero => intro _; exact hd 0 h0
    | succ i ih =>
      intro hi
      have h1 := ih (by omega)
      have h2 := hd i (by omega)
      rw [mstN, mstN, h1, h2]
      omega
  unfold moP
  rw [List.length_map]
  exact hm _ (Nat.le_refl _)
def mvE (x y u v : Int) (e : Eg) : Eg := (e.1, e.2 + e.1.1 * (x - u) + e.1.2.1 * (y - v))
end Go.AM

/- law12.lives. -/
namespace Go.AM
open Go Go.RowKit
def sqL : List Pt := [(0, 0), (2, 0), (2, 2), (0, 2)]
def trL : List Pt := [(0, 0), (4, 0), (0, 3)]
theorem chk_gd {l : List Pt} (h0 : 0 < l.length) (h1 : l.length ≤ 10) (hs : ∀ p ∈ l, SmP p) (h : chkS l = true) : GdS l := by
  unfold chkS at h
  rw [List.all_eq_true] at h
  refine ⟨h0, h1, hs, fun i hi => ?_, fun i hi => ?_⟩
  all_goals
    have h1 := h i (List.mem_range.2 hi)
    simp only [Bool.and_eq_true, decide_eq_true_eq] at h1
    obtain ⟨⟨⟨⟨⟨⟨⟨h1, h2⟩, h3⟩, h4⟩, h5⟩, h6⟩, h7⟩, h8⟩ := h1
  · exact ⟨h1, h2⟩
  · exact ⟨⟨h3, h4⟩, ⟨h5, h6⟩, ⟨h7, h8⟩⟩
theorem sq_gd : GdS sqL := chk_gd (by decide) (by decide) (by
  intro p hp
  unfold sqL at hp
  simp only [List.mem_cons, List.not_mem_nil, or_false] at hp
  rcases hp with rfl | rfl | rfl | rfl <;> exact ⟨⟨by decide, by decide⟩, ⟨by decide, by decide⟩⟩) (by kernel_rfl)
theorem tr_gd : GdS trL := chk_gd (by decide) (by decide) (by
  intro p hp
  unfold trL at hp
  simp only [List.mem_cons, List.not_mem_nil, or_false] at hp
  rcases hp with rfl | rfl | rfl <;> exact ⟨⟨by decide, by decide⟩, ⟨by decide, by decide⟩⟩) (by kernel_rfl)
theorem tr_lim : Lim trL := ⟨by kernel_rfl, by decide, by decide, by
  intro p hp
  unfold trL at hp
  simp only [List.mem_cons, List.not_mem_nil, or_false] at hp
  rcases hp with rfl | rfl | rfl <;> decide⟩
theorem st8v (a b c d e f g h i j k l m n o p : A) : stcells 0 [a, b, c, d, e, f, g, h] [i, j, k, l, m, n, o, p] = some [a, b, c, d, e, f, g, h] := rfl
theorem ld8v (a b c d e f g h : D) : ldcells (some 8) 0 [.d a, .d b, .d c, .d d, .d e, .d f, .d g, .d h] = some (.d (.agg [a, b, c, d, e, f, g, h])) := rfl
theorem rep5_4 (a b c d : D) : rep 5 [a, b, c, d] = [a, b, c, d, a, b, c, d, a, b, c, d, a, b, c, d, a, b, c, d] := rfl
variable [Its]
theorem l1 : callX G n_convex_Norm [encP (4, 0), encP (0, 3)] = some (.d (.tup [encD (3, 4, 5), bv true])) := by
  have h := cNorm_spec (a := (4, 0)) (b := (0, 3)) (h := 5) ⟨⟨by decide, by decide⟩, ⟨by decide, by decide⟩⟩ ⟨⟨by decide, by decide⟩, ⟨by decide, by decide⟩⟩ (by decide) (by decide)
  rw [h]
  have e : nrP ((0, 3) : Pt).1 3 5 = nrP ((0, 3) : Pt).1 3 5 := rfl
  have e : nrP (((0, 3) : Pt).1 - ((4, 0) : Pt).1) (((0, 3) : Pt).2 - ((4, 0) : Pt).2) 5 = (3, 4, 5) := by kernel_rfl
  rw [e]
theorem l2 : callX G n_convex_Area [triD] = some (.d (iv 12)) := by
  have h := cArea_spec (d := triD) (l := trL) (.inr rfl) tr_gd.sm (by decide)
  rw [h]
  have e : arN trL trL.length = 12 := by kernel_rfl
  rw [e]
theorem l3 : callX G n_convex_Sides [sqD, triD] = some (.own 4 5 sidC) := by
  have h := cSides_spec (da := sqD) (db := triD) (a := sqL) (b := trL) (.inr rfl) (.inr rfl) sq_gd tr_gd
  rw [h]
  have e : sdP sqL trL = [((0, -1, 1), 3), ((1, 0, 1), 2), ((0, 1, 1), 2), ((-1, 0, 1), 4), ((-3, -4, 5), 12)] := by kernel_rfl
  rw [e]
  rfl
theorem l4 : callX G n_convex_Valid [triD] = some (.d (bv true)) := cValid_spec (l := trL) (.inr rfl) tr_gd tr_lim
theorem l5 : callX G n_convex_Valid [.row 2 [iv 0, iv 0, iv 2, iv 0]] = some (.d (bv false)) := cValid_two (l := [(0, 0), (2, 0)]) (.inr rfl) rfl
set_option maxHeartbeats 4000000 in
theorem lives12 : callX G n_gantrylaw12_lives [] = some (.d (bv true)) := by
  rw [callX_eq (cf := gantrylaw12_lives) rfl]
  have l1 := l1; have l2 := l2; have l3 := l3; have l4 := l4; have l5 := l5
  have p1 := lp1; have p2 := lp2; have p3 := lp3; have q1 := lq1; have q2 := lq2; have q3 := lq3; have q4 := lq4
  have x1 : ∀ h : Hp, ixaA h 2 1 (.d triD) = some (.d (.rp [iv 4, iv 0, iv 0, iv 3])) := fun _ => rfl
  have x2 : ∀ h : Hp, ixaA h 2 2 (.d triD) = some (.d (.rp [iv 0, iv 3])) := fun _ => rfl
  have x3 : ∀ h : Hp, loadA h (some 2) (.d (.rp [iv 4, iv 0, iv 0, iv 3])) = some (.d (.agg [iv 4, iv 0])) := fun _ => rfl
  have x4 : ∀ h : Hp, loadA h (some 2) (.d (.rp [iv 0, iv 3])) = some (.d (.agg [iv 0, iv 3])) := fun _ => rfl
  have c1 : ((0 : Int) ≤ 0 ∧ (0 : Int) ≤ 2 ∧ (2 : Int) ≤ ((4 : Nat) : Int)) = True := by simp
  simp only [encP, encD, cP, cD, sqD, triD, triD', sumC, sidC, n2, n32, List.cons_append, List.nil_append, iv, bv] at x1 x2 x3 x4 l1 l2 l3 l4 l5 p1 p2 p3 q1 q2 q3 q4
  simp -implicitDefEqProofs (maxSteps := 10000000) only [gantrylaw12_lives, l1, l2, l3, l4, l5, p1, p2, p3, q1, q2, q3, q4, x1, x2, x3, x4, rep4_2, rep3_2, rep5_2, rep5_4, fillB, partsB, ld3p, c1, if_true, Int.toNat_zero, Int.reduceToNat, Int.reduceSub, Nat.zero_mul, Nat.reduceMul, List.drop_zero, List.take_succ_cons, List.take_zero, oneI, eqD3, Bool.and_self, box3s, st8v, ld8v, Bool.not_true, Bool.not_false, beq_self_eq_true, List.map_cons, List.map_nil, go_sem, iv, bv, reduceCtorEq, ↓reduceIte, Nat.reduceEqDiff]
end Go.AM

/- Edges of a pair: bounds; their parts read out of a row. -/
namespace Go.AM
open Go Go.RowKit
theorem ldGd (h : Hp) {l : List Eg} {j : Nat} (h1 : j < l.length) : loadA h (some 3) (.d (.rp ((l.drop j).flatMap cG))) = some (.d (encD (l.getD j default).1)) := by
  rw [drop_getD h1, List.flatMap_cons]
  simp only [loadA, ldrow, guardO, cG, List.cons_append, List.nil_append]
  simp [encD, cD]
theorem sd_nm {a b : List Pt} (ha : GdS a) (hb : GdS b) {e : Eg} (he : e ∈ sdP a b) : NmD e.1 := by
  rw [sdP_uq] at he
  obtain ⟨d, hd, rfl⟩ := List.mem_map.1 he
  exact drs_nm ha hb d ((uqS_mem a b).1 hd)
theorem sd_le {a b : List Pt} (ha : GdS a) (hb : GdS b) : (sdP a b).length ≤ 20 := by
  have h1 := sdO_len a b (drs a b) (drs a b).length
  have h2 := drs_len a b
  have := ha.le; have := hb.le
  unfold sdP
  omega
theorem eg_mem {l : List Eg} {i : Nat} (h : i < l.length) : l.getD i default ∈ l := by rw [List.getD_eq_getElem?_getD, List.getElem?_eq_getElem h]; exact List.getElem_mem h
end Go.AM

/- SameEdges; ref12.Area; both Box. -/
namespace Go.AM
open Go Go.RowKit
def se_st (d e : D) (i : Int) : St := mkS [(0, .d d), (1, .d e), (5, ai i)] []
def arQ (l : List Pt) : Nat → Int
  | 0 => 0
  | i + 1 => arQ l i + (l.getD i default).1 * (nxP l i).2 - (l.getD i default).2 * (nxP l i).1
def ra_st (d : D) (s i : Int) : St := mkS [(0, .d d), (3, ai s), (4, ai i)] []
def ptM (l : List Pt) (i : Nat) : Pt := if i < l.length then l.getD i default else l.getD 0 default
def mnI (a b : Int) : Int := if b < a then b else a
def mxI (a b : Int) : Int := if b > a then b else a
def bxL (l : List Pt) : Nat → Pt
  | 0 => l.getD 0 default
  | i + 1 => (mnI (bxL l i).1 (l.getD i default).1, mnI (bxL l i).2 (l.getD i default).2)
def bxH (l : List Pt) : Nat → Pt
  | 0 => l.getD 0 default
  | i + 1 => (mxI (bxH l i).1 (l.getD i default).1, mxI (bxH l i).2 (l.getD i default).2)
def bxP (x y : Int) : Obj := ⟨0, 0, [.d (iv x), .d (iv y)], false⟩
def cb_st (d : D) (a b e f n i : Int) : St := mkS [(2, .ptr [2] 0), (3, .ptr [3] 0), (4, .ptr [4] 0), (5, .ptr [5] 0), (14, .d d), (15, ai n), (16, ai i)] [([2], bxP 0 0), ([3], bxP 0 0), ([4], bxP a b), ([5], bxP e f)]
def cb_en (a b e f : Int) : St := mkS [(2, .ptr [2] 0), (3, .ptr [3] 0), (4, .ptr [4] 0), (5, .ptr [5] 0)] [([2], bxP 0 0), ([3], bxP 0 0), ([4], bxP a b), ([5], bxP e f)]
def bxr_st (d : D) (a b e f i : Int) : St := mkS [(0, .d d), (2, .ptr [2] 0), (3, .ptr [3] 0), (4, .ptr [4] 0), (5, .ptr [5] 0), (6, ai i)] [([2], bxP 0 0), ([3], bxP 0 0), ([4], bxP a b), ([5], bxP e f)]
variable [Its]
end Go.AM

/- Vectors of ch. 12; Has of both. Printed by mkcxv.py (out of CvD). -/
namespace Go.AM
open Go Go.RowKit
abbrev Vc := Rat × Rat
def encV (v : Vc) : D := .agg [.v (.bool (decide (v.1.num < 0))), dg (digs v.1.num.natAbs), .v (.bool false), dg (dd v.1.den), .v (.bool (decide (v.2.num < 0))), dg (digs v.2.num.natAbs), .v (.bool false), dg (dd v.2.den)]
def vcA (n : Int) : Int := arnd n 96 % 24 * 2 - 24 + arnd n 96 / 72
def vcB (n : Int) : Int := 2 + arnd n 96 / 48 % 2
def vcR (n : Int) : Rat := Rat.divInt (vcA n) (vcB n)
def dotR (d : Dr) (v : Vc) : Rat := (d.1 : Rat) * v.1 + (d.2.1 : Rat) * v.2
def SzV (K : Nat) (v : Vc) : Prop := sz v.1 ≤ K ∧ sz v.2 ≤ K
theorem SzV.mono {K L : Nat} {v : Vc} (h : SzV K v) (hk : K ≤ L) : SzV L v := ⟨Nat.le_trans h.1 hk, Nat.le_trans h.2 hk⟩
theorem NmD.i1 {d : Dr} (h : NmD d) : I64 d.1 := ⟨by have := h.1; omega, by have := h.1; omega⟩
theorem NmD.i2 {d : Dr} (h : NmD d) : I64 d.2.1 := ⟨by have := h.2.1; omega, by have := h.2.1; omega⟩
theorem NmD.i3 {d : Dr} (h : NmD d) : I64 d.2.2 := ⟨by have := h.2.2; omega, by have := h.2.2; omega⟩
theorem i64_1 : I64 1 := ⟨by omega, by omega⟩
theorem dotR_sz {d : Dr} {v : Vc} {K : Nat} (hd : NmD d) (hv : SzV K v) : sz (dotR d v) ≤ 2 * K + 7 := by
  have h1 := sz_int hd.i1
  have h2 := sz_int hd.i2
  have h3 := sz_mul (a := (d.1 : Rat)) (b := v.1)
  have h4 := sz_mul (a := (d.2.1 : Rat)) (b := v.2)
  have h5 := sz_add (a := (d.1 : Rat) * v.1) (b := (d.2.1 : Rat) * v.2)
  have := hv.1
  have := hv.2
  unfold dotR
  omega
theorem vc_b (n : Int) : (-24 ≤ vcA n ∧ vcA n ≤ 24) ∧ (2 ≤ vcB n ∧ vcB n ≤ 3) := by
  have h := arnd_b (n := n) (m := 96) (by omega)
  unfold vcA vcB
  omega
theorem vcR_sz (n : Int) : sz (vcR n) ≤ 3 := by
  have h := vc_b n
  exact sz_of ⟨by omega, by omega⟩ ⟨by omega, by omega⟩
theorem vcV_sz (x y : Int) : SzV 3 (vcR x, vcR y) := ⟨vcR_sz x, vcR_sz y⟩
theorem st8 (a b c d e f g h i j k l m n o p : A) : stcells 0 [a, b, c, d, e, f, g, h] [i, j, k, l, m, n, o, p] = some [a, b, c, d, e, f, g, h] := rfl
theorem ld8 (a b c d e f g h : D) : ldcells (some 8) 0 [.d a, .d b, .d c, .d d, .d e, .d f, .d g, .d h] = some (.d (.agg [a, b, c, d, e, f, g, h])) := rfl
theorem ld80 (a b c d e f g h : D) : ldcells (some 4) 0 [.d a, .d b, .d c, .d d, .d e, .d f, .d g, .d h] = some (.d (.agg [a, b, c, d])) := rfl
theorem ld84 (a b c d e f g h : D) : ldcells (some 4) 4 [.d a, .d b, .d c, .d d, .d e, .d f, .d g, .d h] = some (.d (.agg [e, f, g, h])) := rfl
theorem st4' (a b c d i j k l : A) : stcells 0 [a, b, c, d] [i, j, k, l] = some [a, b, c, d] := rfl
theorem ld3_0 (a b c : D) : ldcells none 0 [.d a, .d b, .d c] = some (.d a) := rfl
theorem ld3_1 (a b c : D) : ldcells none 1 [.d a, .d b, .d c] = some (.d b) := rfl
theorem ld4_4 (a b c d : D) : ldcells (some 4) 0 [.d a, .d b, .d c, .d d] = some (.d (.agg [a, b, c, d])) := rfl
def hsA (l : List Pt) (v : Vc) (i : Nat) : Rat := (((nxP l i).1 - (l.getD i default).1 : Int) : Rat) * (v.2 - (((l.getD i default).2 : Int) : Rat))
def hsB (l : List Pt) (v : Vc) (i : Nat) : Rat := (((nxP l i).2 - (l.getD i default).2 : Int) : Rat) * (v.1 - (((l.getD i default).1 : Int) : Rat))
def hsF (l : List Pt) (v : Vc) : Nat → Nat → Bool
  | 0, _ => true
  | j + 1, i => if decide (hsA l v i < hsB l v i) then false else hsF l v j (i + 1)
def hsP (l : List Pt) (v : Vc) : Bool := hsF l v l.length 0
theorem hsF_at {l : List Pt} {v : Vc} : ∀ (j i : Nat), hsF l v j i = true → ∀ k, i ≤ k → k < i + j → hsB l v k ≤ hsA l v k
  | 0, i, h, k, h1, h2 => by omega
  | j + 1, i, h, k, h1, h2 => by
    rw [hsF] at h
    split at h
    · cases h
    · rename_i hh
      by_cases hk : k = i
      · subst hk
        rw [decide_eq_true_eq] at hh
        exact Rat.not_lt.1 hh
      · exact hsF_at j (i + 1) h k (by omega) (by omega)
theorem hsP_at {l : List Pt} {v : Vc} (h : hsP l v = true) {k : Nat} (hk : k < l.length) : hsB l v k ≤ hsA l v k := hsF_at _ _ h k (Nat.zero_le _) (by omega)
def bxW (v : Vc) : Obj := ⟨0, 0, [.d (.v (.bool (decide (v.1.num < 0)))), .d (dg (digs v.1.num.natAbs)), .d (.v (.bool false)), .d (dg (dd v.1.den)), .d (.v (.bool (decide (v.2.num < 0)))), .d (dg (digs v.2.num.natAbs)), .d (.v (.bool false)), .d (dg (dd v.2.den))], false⟩
def hc_st (d : D) (v : Vc) (n i : Int) : St := mkS [(0, .d d), (3, .ptr [3] 0), (11, ai n), (12, ai i)] [([3], bxW v)]
def hr_st (d : D) (v : Vc) (i : Int) : St := mkS [(0, .d d), (3, .ptr [3] 0), (5, ai i)] [([3], bxW v)]
def hsO (t : Bool) : Option (Ex × St) := if t then some (.x 0, mkS [] []) else some (.r, mkS [(4, ab false)] [])
theorem sm_i64 {n : Int} (h : Sm n) : I64 n := ⟨by have := h; unfold Sm at this; omega, by have := h; unfold Sm at this; omega⟩
theorem sm_sub {a b : Int} (ha : Sm a) (hb : Sm b) : w64 (a - b) = a - b ∧ I64 (a - b) := by
  unfold Sm at *
  exact ⟨w64_id (by omega) (by omega), by omega, by omega⟩
variable [Its]
theorem Vec_spec {x y : Int} (hx : I64 x) (hy : I64 y) : callX G n_gantryref12_Vec [iv x, iv y] = some (.d (encV (vcR x, vcR y))) := by
  rw [callX_eq (cf := gantryref12_Vec) rfl]
  have g1 := around_spec (m := 96) hx (by omega)
  have g2 := around_spec (m := 96) hy (by omega)
  have bx := vc_b x
  have bz := vc_b y
  have g3 := rratOf_spec (n := vcA x) (d := vcB x) ⟨by omega, by omega⟩ ⟨by omega, by omega⟩
  have g4 := rratOf_spec (n := vcA y) (d := vcB y) ⟨by omega, by omega⟩ ⟨by omega, by omega⟩
  have e3 : Rat.divInt (vcA x) (vcB x) = vcR x := rfl
  have e4 : Rat.divInt (vcA y) (vcB y) = vcR y := rfl
  rw [e3] at g3
  rw [e4] at g4
  clear e3 e4
  generalize vcR x = rx at *
  generalize vcR y = ry at *
  have b1 := arnd_b (n := x) (m := 96) (by omega)
  have b2 := arnd_b (n := y) (m := 96) (by omega)
  unfold vcA vcB at *
  generalize arnd x 96 = u at *
  generalize arnd y 96 = v at *
  have tm : ∀ a : Int, 0 ≤ a → a.tmod 24 = a % 24 := fun a h => rem_pos h
  have t1 := rem_pos (a := u) (b := 24) b1.1
  have t2 := quo_pos (a := u) (b := 72) b1.1
  have t3 := quo_pos (a := u) (b := 48) b1.1
  have t4 := rem_pos (a := u / 48) (b := 2) (by omega)
  have s1 := rem_pos (a := v) (b := 24) b2.1
  have s2 := quo_pos (a := v) (b := 72) b2.1
  have s3 := quo_pos (a := v) (b := 48) b2.1
  have s4 := rem_pos (a := v / 48) (b := 2) (by omega)
  have f1 : w64 (u % 24 * 2) = u % 24 * 2 := w64_id (by omega) (by omega)
  have f2 : w64 (u % 24 * 2 - 24) = u % 24 * 2 - 24 := w64_id (by omega) (by omega)
  have f3 : w64 (u / 72) = u / 72 := w64_id (by omega) (by omega)
  have f4 : w64 (u % 24 * 2 - 24 + u / 72) = u % 24 * 2 - 24 + u / 72 := w64_id (by omega) (by omega)
  have f5 : w64 (u / 48) = u / 48 := w64_id (by omega) (by omega)
  have f6 : w64 (2 + u / 48 % 2) = 2 + u / 48 % 2 := w64_id (by omega) (by omega)
  have h1 : w64 (v % 24 * 2) = v % 24 * 2 := w64_id (by omega) (by omega)
  have h2 : w64 (v % 24 * 2 - 24) = v % 24 * 2 - 24 := w64_id (by omega) (by omega)
  have h3 : w64 (v / 72) = v / 72 := w64_id (by omega) (by omega)
  have h4 : w64 (v % 24 * 2 - 24 + v / 72) = v % 24 * 2 - 24 + v / 72 := w64_id (by omega) (by omega)
  have h5 : w64 (v / 48) = v / 48 := w64_id (by omega) (by omega)
  have h6 : w64 (2 + v / 48 % 2) = 2 + v / 48 % 2 := w64_id (by omega) (by omega)
  have z1 : ((24 : Int) = 0) = False := by simp
  have z2 : ((72 : Int) = 0) = False := by simp
  have z3 : ((48 : Int) = 0) = False := by simp
  have z4 : ((2 : Int) = 0) = False := by simp
  clear bx bz b1 b2
  simp only [encR, iv, bv] at g1 g2 g3 g4
  simp -implicitDefEqProofs (maxSteps := 10000000) only [gantryref12_Vec, encV, fillB, partsB, st8, ld8, dc_dg, g1, g2, g3, g4, t1, t2, t3, t4, s1, s2, s3, s4, f1, f2, f3, f4, f5, f6, h1, h2, h3, h4, h5, h6, z1, z2, z3, z4, cells_dg, one_dg', go_sem, iv, bv, reduceCtorEq, ↓reduceIte, Nat.reduceEqDiff]
theorem Dot_spec_V {d : Dr} {v : Vc} {K : Nat} (hK : K ≤ 1000000000) (hd : NmD d) (hv : SzV K v) : callX G n_gantryref12_Dot [encD d, encV v] = some (.d (encR (dotR d v))) := by
  rw [callX_eq (cf := gantryref12_Dot) rfl]
  have g1 := rratOf_spec hd.i1 i64_1
  have g2 := rratOf_spec hd.i2 i64_1
  rw [divInt_one] at g1 g2
  have n1 := sz_int hd.i1
  have n2 := sz_int hd.i2
  have k1 := hv.1
  have k2 := hv.2
  have g3 := rratMul_spec (a := (d.1 : Rat)) (b := v.1) (by omega) (by omega)
  have g4 := rratMul_spec (a := (d.2.1 : Rat)) (b := v.2) (by omega) (by omega)
  have h3 := sz_mul (a := (d.1 : Rat)) (b := v.1)
  have h4 := sz_mul (a := (d.2.1 : Rat)) (b := v.2)
  have g5 := rratAdd_spec (a := (d.1 : Rat) * v.1) (b := (d.2.1 : Rat) * v.2) (by omega) (by omega)
  have e : (d.1 : Rat) * v.1 + (d.2.1 : Rat) * v.2 = dotR d v := rfl
  rw [e] at g5
  generalize dotR d v = r at *
  generalize (d.1 : Rat) * v.1 = u1 at *
  generalize (d.2.1 : Rat) * v.2 = u2 at *
  clear n1 n2 h3 h4 k1 k2 e hv
  generalize (d.1 : Rat) = c1 at *
  generalize (d.2.1 : Rat) = c2 at *
  obtain ⟨x, y⟩ := v
  obtain ⟨a, b, c⟩ := d
  simp only [encR, iv, bv] at g1 g2 g3 g4 g5
  simp -implicitDefEqProofs (maxSteps := 10000000) only [gantryref12_Dot, encD, cD, encV, encR, st4', ld4_4, ld80, ld84, ld3_0, ld3_1, dc_dg, g1, g2, g3, g4, g5, cells_dg, one_dg', go_sem, iv, bv, reduceCtorEq, ↓reduceIte, Nat.reduceEqDiff]
section
variable {d : D} {l : List Pt} {v : Vc} {K : Nat}
theorem hc_step (hr : RwE cP d l) (hl : ∀ p ∈ l, SmP p) (hn : l.length ≤ 10) (hK : K ≤ 1000000) (hv : SzV K v) {i : Nat} (hi : i < l.length) :
    X G convex_Has_l0 (hc_st d v l.length i) = if decide (hsA l v i < hsB l v i) then some (.r, mkS [(4, ab false)] []) else some (.n, hc_st d v l.length ((i + 1 : Nat) : Int)) := by
  have e1 : decide ((i : Int) < (l.length : Int)) = true := lt_t (by omega)
  have e2 : w64 ((i : Int) + 1) = ((i + 1 : Nat) : Int) := by rw [w64_id (by omega) (by omega)]; rfl
  have x1 := hr.ixa cP_len hi
  have x2 := fun hp => ldE cP_len hp hi
  have g0 := cnext_spec hr hi (by omega)
  have pa := getD_all hl smP0 i
  have pb := nxP_sm hl i
  have f1 := sm_sub pb.1 pa.1
  have f2 := sm_sub pb.2 pa.2
  unfold hsA hsB
  generalize nxP l i = b at *
  generalize l.getD i default = a at *
  have o1 := ratOf_spec (sm_i64 pa.1) i64_1
  have o2 := ratOf_spec (sm_i64 pa.2) i64_1
  have o3 := ratOf_spec f1.2 i64_1
  have o4 := ratOf_spec f2.2 i64_1
  have n1 := sz_int (sm_i64 pa.1)
  have n2 := sz_int (sm_i64 pa.2)
  have n3 := sz_int f1.2
  have n4 := sz_int f2.2
  rw [divInt_one] at o1 o2 o3 o4
  have k1 := hv.1
  have k2 := hv.2
  have s1 := ratSub_spec (a := v.1) (b := (a.1 : Rat)) (by omega) (by omega)
  have s2 := ratSub_spec (a := v.2) (b := (a.2 : Rat)) (by omega) (by omega)
  have z1 := sz_sub (a := v.1) (b := (a.1 : Rat))
  have z2 := sz_sub (a := v.2) (b := (a.2 : Rat))
  have m1 := ratMul_spec (a := ((b.1 - a.1 : Int) : Rat)) (b := v.2 - (a.2 : Rat)) (by omega) (by omega)
  have m2 := ratMul_spec (a := ((b.2 - a.2 : Int) : Rat)) (b := v.1 - (a.1 : Rat)) (by omega) (by omega)
  have y1 := sz_mul (a := ((b.1 - a.1 : Int) : Rat)) (b := v.2 - (a.2 : Rat))
  have y2 := sz_mul (a := ((b.2 - a.2 : Int) : Rat)) (b := v.1 - (a.1 : Rat))
  have c1 := ratCompare_spec (a := ((b.1 - a.1 : Int) : Rat) * (v.2 - (a.2 : Rat))) (b := ((b.2 - a.2 : Int) : Rat) * (v.1 - (a.1 : Rat))) (by omega) (by omega)
  rw [← cmR_lt]
  generalize cmpR (((b.1 - a.1 : Int) : Rat) * (v.2 - (a.2 : Rat))) (((b.2 - a.2 : Int) : Rat) * (v.1 - (a.1 : Rat))) = c at *
  generalize ((b.1 - a.1 : Int) : Rat) * (v.2 - (a.2 : Rat)) = u1 at *
  generalize ((b.2 - a.2 : Int) : Rat) * (v.1 - (a.1 : Rat)) = u2 at *
  generalize v.1 - (a.1 : Rat) = u3 at *
  generalize v.2 - (a.2 : Rat) = u4 at *
  have w1 := f1.1
  have w2 := f2.1
  clear f1 f2 n1 n2 n3 n4 k1 k2 z1 z2 y1 y2 hv pa pb
  obtain ⟨ax, ay⟩ := a
  obtain ⟨bx, byy⟩ := b
  obtain ⟨v1, v2⟩ := v
  dsimp only at *
  obtain ⟨dx, hdx⟩ : ∃ z, bx - ax = z := ⟨_, rfl⟩
  obtain ⟨dy, hdy⟩ : ∃ z, byy - ay = z := ⟨_, rfl⟩
  rw [hdx] at o3 m1
  rw [hdy] at o4 m2
  have w1 : w64 (bx - ax) = dx := by rw [w1, hdx]
  have w2 : w64 (byy - ay) = dy := by rw [w2, hdy]
  clear hdx hdy
  generalize (ax : Rat) = rx at *
  generalize (ay : Rat) = ry at *
  generalize (dx : Rat) = rdx at *
  generalize (dy : Rat) = rdy at *
  simp only [encP, cP, encR, iv, bv] at x2 g0 o1 o2 o3 o4 s1 s2 m1 m2 c1
  by_cases hc : c < 0
  · have t1 : decide (c < 0) = true := lt_t hc
    simp -implicitDefEqProofs (maxSteps := 10000000) only [convex_Has_l0, hc_st, bxW, x1, x2, g0, o1, o2, o3, o4, s1, s2, m1, m2, c1, t1, w1, w2, e1, e2, st2p, ld2_0, ld2_1, st4', ld4_4, ld80, ld84, dc_dg, cells_dg, one_dg', go_sem, iv, bv, reduceCtorEq, ↓reduceIte, Nat.reduceEqDiff]
  · have t1 : decide (c < 0) = false := lt_f (by omega)
    simp -implicitDefEqProofs (maxSteps := 10000000) only [convex_Has_l0, hc_st, bxW, x1, x2, g0, o1, o2, o3, o4, s1, s2, m1, m2, c1, t1, w1, w2, e1, e2, st2p, ld2_0, ld2_1, st4', ld4_4, ld80, ld84, dc_dg, cells_dg, one_dg', go_sem, iv, bv, reduceCtorEq, ↓reduceIte, Nat.reduceEqDiff]
theorem hc_stop : X G convex_Has_l0 (hc_st d v l.length l.length) = some (.x 0, mkS [] []) := by
  have e1 : decide ((l.length : Int) < (l.length : Int)) = false := lt_f (by omega)
  simp -implicitDefEqProofs (maxSteps := 10000000) only [convex_Has_l0, hc_st, bxW, e1, go_sem, iv, bv, reduceCtorEq, ↓reduceIte, Nat.reduceEqDiff]
theorem hc_loop (hr : RwE cP d l) (hl : ∀ p ∈ l, SmP p) (hn : l.length ≤ 10) (hK : K ≤ 1000000) (hv : SzV K v) : ∀ (j i : Nat), i + j = l.length → X G (.loop convex_Has_l0) (hc_st d v l.length i) = hsO (hsF l v j i)
  | 0, i, h => by
    have : i = l.length := by omega
    subst this
    rw [X_loop, hc_stop]; rfl
  | j + 1, i, h => by
    rw [X_loop, hc_step hr hl hn hK hv (by omega), hsF]
    split
    · rfl
    · rw [Option.bind_some, if_pos rfl]
      exact hc_loop hr hl hn hK hv j (i + 1) (by omega)
theorem cHas_spec (hr : RwE cP d l) (hl : ∀ p ∈ l, SmP p) (hn : l.length ≤ 10) (hK : K ≤ 1000000) (hv : SzV K v) : callX G n_convex_Has [d, encV v] = some (.d (bv (hsP l v))) := by
  rw [callX_eq (cf := convex_Has) rfl]
  have ll := hr.len
  have g := hc_loop hr hl hn hK hv l.length 0 (by omega)
  have e : hsF l v l.length 0 = hsP l v := rfl
  rw [e] at g
  generalize hsP l v = t at *
  obtain ⟨v1, v2⟩ := v
  simp only [hc_st, bxW, hsO, nc0, go_sem] at g
  cases t
  · simp only [Bool.false_eq_true, if_false] at g
    simp -implicitDefEqProofs (maxSteps := 10000000) only [convex_Has, encV, g, ll, dc_dg, cells_dg, one_dg', go_sem, iv, bv, reduceCtorEq, ↓reduceIte, Nat.reduceEqDiff]
  · simp only [if_true] at g
    simp -implicitDefEqProofs (maxSteps := 10000000) only [convex_Has, encV, g, ll, dc_dg, cells_dg, one_dg', go_sem, iv, bv, reduceCtorEq, ↓reduceIte, Nat.reduceEqDiff]
end
end Go.AM

/- Supports, plain: the directions of the shapes; a point of a shape is no further along them than Most. -/
namespace Go.AM
open Go Go.RowKit
def twD : List Dr := [(0, -1, 1), (0, 1, 1), (1, 0, 1), (-1, 0, 1), (3, 4, 5), (3, -4, 5), (-3, 4, 5), (-3, -4, 5), (4, 3, 5), (4, -3, 5), (-4, 3, 5), (-4, -3, 5)]
def pvI (l : List Pt) (i : Nat) : Nat := (i + l.length - 1) % l.length
def dtD (l : List Pt) (p i : Nat) : Int := sdx l p * sdy l i - sdy l p * sdx l i
def dtP (l : List Pt) (n : Dr) (i : Nat) : Int := n.1 * -(sdx l i) - n.2.1 * sdy l i
def dtQ (l : List Pt) (n : Dr) (p : Nat) : Int := sdy l p * n.2.1 + sdx l p * n.1
def coneB (l : List Pt) (n : Dr) : Bool := (List.range l.length).any fun i => decide (pvI l i < l.length) && decide (nxP l (pvI l i) = l.getD i default) && decide (0 < dtD l (pvI l i) i) && decide (0 ≤ dtP l n i) && decide (0 ≤ dtQ l n (pvI l i))
def onB (l : List Pt) : Bool := (List.range l.length).all fun i => decide (moP (sdN l i) l = dotI (sdN l i) (l.getD i default)) && twD.contains (sdN l i)
def chkU (l : List Pt) : Bool := onB l && twD.all fun n => coneB l n
theorem chkU_all : ((List.range 7).all fun c => (List.range 3).all fun k => (List.range 6).all fun m => chkU (spB (c : Int) (1 + (k : Int)) (1 + (m : Int)))) = true := by kernel_rfl
theorem spB_chkU {c k m : Int} (hc : 0 ≤ c ∧ c < 7) (hk : 1 ≤ k ∧ k < 4) (hm : 1 ≤ m ∧ m < 7) : chkU (spB c k m) = true := by
  have h := chkU_all
  rw [List.all_eq_true] at h
  have h1 := h c.toNat (List.mem_range.2 (by omega))
  rw [List.all_eq_true] at h1
  have h2 := h1 (k - 1).toNat (List.mem_range.2 (by omega))
  rw [List.all_eq_true] at h2
  have h3 := h2 (m - 1).toNat (List.mem_range.2 (by omega))
  rwa [show ((c.toNat : Nat) : Int) = c by omega, show 1 + (((k - 1).toNat : Nat) : Int) = k by omega, show 1 + (((m - 1).toNat : Nat) : Int) = m by omega] at h3
def Cone (l : List Pt) (n : Dr) : Prop := ∃ i p, i < l.length ∧ p < l.length ∧ nxP l p = l.getD i default ∧ 0 < dtD l p i ∧ 0 ≤ dtP l n i ∧ 0 ≤ dtQ l n p
theorem cone_of {l : List Pt} {n : Dr} (h : coneB l n = true) : Cone l n := by
  unfold coneB at h
  rw [List.any_eq_true] at h
  obtain ⟨i, hi, h⟩ := h
  simp only [Bool.and_eq_true, decide_eq_true_eq] at h
  obtain ⟨⟨⟨⟨h1, h2⟩, h3⟩, h4⟩, h5⟩ := h
  exact ⟨i, _, List.mem_range.1 hi, h1, h2, h3, h4, h5⟩
theorem cone_mv {l : List Pt} {n : Dr} (x y : Int) (h : Cone l n) : Cone (l.map (mvP x y)) n := by
  obtain ⟨i, p, hi, hp, h1, h2, h3, h4⟩ := h
  refine ⟨i, p, by rw [List.length_map]; exact hi, by rw [List.length_map]; exact hp, ?_, ?_, ?_, ?_⟩
  · rw [mv_nx _ _ hp, mv_getD _ _ hi, h1]
  · unfold dtD at *
    rw [mv_sdx _ _ hp, mv_sdx _ _ hi, mv_sdy _ _ hp, mv_sdy _ _ hi]
    exact h2
  · unfold dtP at *
    rw [mv_sdx _ _ hi, mv_sdy _ _ hi]
    exact h3
  · unfold dtQ at *
    rw [mv_sdx _ _ hp, mv_sdy _ _ hp]
    exact h4
theorem sup_sh (l : List Int) : (∀ i, i < (spP l).length → moP (sdN (spP l) i) (spP l) = dotI (sdN (spP l) i) ((spP l).getD i default) ∧ sdN (spP l) i ∈ twD) ∧ ∀ n ∈ twD, Cone (spP l) n := by
  obtain ⟨h1, h2, h3, h4, h5⟩ := sh_b l
  have h := spB_chkU h1 h2 h3
  unfold chkU at h
  rw [Bool.and_eq_true] at h
  obtain ⟨ho, hc⟩ := h
  unfold spP
  generalize spB (spC l) (spK l) (spM l) = b at *
  generalize spX l = x at *
  generalize spY l = y at *
  constructor
  · intro i hi
    rw [List.length_map] at hi
    unfold onB at ho
    rw [List.all_eq_true] at ho
    have h6 := ho i (List.mem_range.2 hi)
    rw [Bool.and_eq_true, decide_eq_true_eq, List.contains_iff_mem] at h6
    rw [mv_sdN _ _ hi, moP_mv _ _ _ (by omega), h6.1, mv_getD _ _ hi]
    refine ⟨?_, h6.2⟩
    unfold dotI mvP
    dsimp only
    rw [Int.mul_add, Int.mul_add]
    omega
  · intro n hn
    rw [List.all_eq_true] at hc
    exact cone_mv x y (cone_of (hc n hn))
theorem twD_tn {d : Dr} (h : d ∈ twD) : tnD d ∈ twD := by
  have : (twD.all fun d => twD.contains (tnD d)) = true := by kernel_rfl
  rw [List.all_eq_true] at this
  have h1 := this d h
  rwa [List.contains_iff_mem] at h1
theorem drs_all {a b : List Pt} (ha : ∀ i, i < a.length → sdN a i ∈ twD) (hb : ∀ i, i < b.length → sdN b i ∈ twD) {d : Dr} (h : d ∈ drs a b) : d ∈ twD := by
  unfold drs at h
  rcases List.mem_append.1 h with h | h
  · obtain ⟨i, hi, rfl⟩ := List.mem_map.1 h
    exact ha i (List.mem_range.1 hi)
  · obtain ⟨i, hi, rfl⟩ := List.mem_map.1 h
    exact twD_tn (hb i (List.mem_range.1 hi))
theorem sd_all (l m : List Int) {e : Eg} (he : e ∈ sdP (spP l) (spP m)) : e.1 ∈ twD := by
  rw [sdP_uq] at he
  obtain ⟨d, hd, rfl⟩ := List.mem_map.1 he
  exact drs_all (fun i hi => ((sup_sh l).1 i hi).2) (fun i hi => ((sup_sh m).1 i hi).2) ((uqS_mem _ _).1 hd)
theorem mst_ge (d : Dr) (l : List Pt) : ∀ k i, i < k → dotI d (l.getD i default) ≤ mstN d l k
  | 0, i, h => by omega
  | k + 1, i, h => by
    rw [mstN]
    by_cases hk : i = k
    · subst hk; omega
    · have := mst_ge d l k i (by omega)
      omega
theorem mst_at (d : Dr) (l : List Pt) : ∀ k, 0 < k → ∃ i, i < k ∧ dotI d (l.getD i default) = mstN d l k
  | 0, h => by omega
  | k + 1, h => by
    rw [mstN]
    by_cases hk : mstN d l k ≤ dotI d (l.getD k default)
    · exact ⟨k, by omega, by omega⟩
    · by_cases h0 : 0 < k
      · obtain ⟨i, hi, e⟩ := mst_at d l k h0
        exact ⟨i, by omega, by omega⟩
      · have : k = 0 := by omega
        subst this
        rw [mstN] at hk
        omega
theorem cram {n1 n2 px py qx qy x y : Rat} (hD : 0 < px * qy - py * qx) (hP : 0 ≤ n1 * -qx - n2 * qy) (hQ : 0 ≤ py * n2 + px * n1) (hU : py * x ≤ px * y) (hW : qy * x ≤ qx * y) : n1 * x + n2 * y ≤ 0 := by
  refine Rat.not_lt.1 fun hs => ?_
  have h1 := Rat.mul_pos hD hs
  have h2 : 0 ≤ (n1 * -qx - n2 * qy) * (px * y - py * x) := Rat.mul_nonneg hP (by grind)
  have h3 : 0 ≤ (py * n2 + px * n1) * (qx * y - qy * x) := Rat.mul_nonneg hQ (by grind)
  grind
theorem sup_le {l : List Pt} {n : Dr} {v : Vc} (hC : Cone l n) (hH : ∀ k, k < l.length → hsB l v k ≤ hsA l v k) : dotR n v ≤ (moP n l : Rat) := by
  obtain ⟨i, p, hi, hp, h1, h2, h3, h4⟩ := hC
  have b1 := hH i hi
  have b2 := hH p hp
  have hm : dotI n (l.getD i default) ≤ moP n l := mst_ge n l _ i hi
  unfold hsA hsB at b1 b2
  unfold dtD sdx sdy at h2
  unfold dtP sdx sdy at h3
  unfold dtQ sdx sdy at h4
  rw [h1] at b2 h2 h4
  generalize l.getD i default = c at *
  generalize l.getD p default = a at *
  generalize nxP l i = q at *
  have hm' : ((dotI n c : Int) : Rat) ≤ (moP n l : Rat) := Rat.intCast_le_intCast.2 hm
  refine Rat.le_trans ?_ hm'
  obtain ⟨c1, c2⟩ := c
  obtain ⟨a1, a2⟩ := a
  obtain ⟨q1, q2⟩ := q
  obtain ⟨n1, n2, n3⟩ := n
  obtain ⟨v1, v2⟩ := v
  have h2' := Rat.intCast_lt_intCast.2 h2
  have h3' := Rat.intCast_le_intCast.2 h3
  have h4' := Rat.intCast_le_intCast.2 h4
  unfold dotR dotI
  dsimp only at *
  simp only [Rat.intCast_sub, Rat.intCast_mul, Rat.intCast_add, Rat.intCast_neg, Rat.intCast_zero] at *
  generalize (c1 : Rat) = C1 at *
  generalize (c2 : Rat) = C2 at *
  generalize (a1 : Rat) = A1 at *
  generalize (a2 : Rat) = A2 at *
  generalize (q1 : Rat) = Q1 at *
  generalize (q2 : Rat) = Q2 at *
  generalize (n1 : Rat) = N1 at *
  generalize (n2 : Rat) = N2 at *
  have := cram (n1 := N1) (n2 := N2) (px := C1 - A1) (py := C2 - A2) (qx := Q1 - C1) (qy := Q2 - C2) (x := v1 - C1) (y := v2 - C2) h2' h3' h4' (by grind) b1
  grind
end Go.AM

namespace Go.AM
open Go Go.RowKit
def meF (n : Dr) (a : List Pt) (m : Int) : Nat → Bool
  | 0 => false
  | k + 1 => meF n a m k || (dotI n (a.getD k default) == m)
theorem meF_at {n : Dr} {a : List Pt} {m : Int} : ∀ k, (∃ i, i < k ∧ dotI n (a.getD i default) = m) → meF n a m k = true
  | 0, ⟨i, h, _⟩ => by omega
  | k + 1, ⟨i, h, e⟩ => by
    rw [meF]
    by_cases hk : i = k
    · subst hk
      rw [e, beq_self_eq_true, Bool.or_true]
    · rw [meF_at k ⟨i, by omega, e⟩, Bool.true_or]
theorem me_all {n : Dr} {a : List Pt} (h0 : 0 < a.length) : meF n a (moP n a) a.length = true := meF_at _ (mst_at n a a.length h0)
def bxD (n : Dr) : Obj := ⟨0, 0, [.d (iv n.1), .d (iv n.2.1), .d (iv n.2.2)], false⟩
def s0_st (a : List Pt) (O : List Eg) (v : Vc) (n : Dr) (i m : Int) (f : Bool) (k : Int) : St := mkS [(9, .d (rowE cP a)), (10, .d (rowE cG O)), (11, .ptr [11] 0), (12, ai i), (13, .ptr [13] 0), (14, ai m), (15, ab f), (16, ai k)] [([11], bxW v), ([13], bxD n)]
def s0_en (a : List Pt) (O : List Eg) (v : Vc) (n : Dr) (i m : Int) (f : Bool) : St := mkS [(9, .d (rowE cP a)), (10, .d (rowE cG O)), (11, .ptr [11] 0), (12, ai i), (13, .ptr [13] 0), (14, ai m), (15, ab f)] [([11], bxW v), ([13], bxD n)]
def s1_st (a : List Pt) (O : List Eg) (v : Vc) (i : Int) : St := mkS [(9, .d (rowE cP a)), (10, .d (rowE cG O)), (11, .ptr [11] 0), (12, ai i)] [([11], bxW v)]
def s1_en (a : List Pt) (O : List Eg) : St := mkS [(9, .d (rowE cP a)), (10, .d (rowE cG O))] []
def s2_st (a : List Pt) (O : List Eg) (i : Int) : St := mkS [(9, .d (rowE cP a)), (10, .d (rowE cG O)), (17, ai i)] []
def s2_en (O : List Eg) : St := mkS [(10, .d (rowE cG O))] []
variable [Its]
theorem s0_go {a : List Pt} {O : List Eg} {v : Vc} {n : Dr} {i m : Int} {f : Bool} (ha : GdS a) (hd : NmD n) {k : Nat} (hk : k < a.length) (hm : dotI n (a.getD k default) ≤ m) :
    X G gantrylaw12_ConvexSupports_l0 (s0_st a O v n i m f k) = some (.n, s0_st a O v n i m (f || (dotI n (a.getD k default) == m)) ((k + 1 : Nat) : Int)) := by
  have h8 := ha.le
  have e1 : decide ((k : Int) < (a.length : Int)) = true := lt_t (by omega)
  have e2 : w64 ((k : Int) + 1) = ((k + 1 : Nat) : Int) := by rw [w64_id (by omega) (by omega)]; rfl
  have ll : lenA (.d (rowE cP a)) = some a.length := rfl
  have x1 := RwE.ixa (d := rowE cP a) (l := a) cP_len (.inr rfl) hk
  have x2 := fun hp => ldF (en := cP) (i := 0) cP_len hp hk (by omega)
  have x3 := fun hp => ldF (en := cP) (i := 1) cP_len hp hk (by omega)
  have hp := getD_all ha.sm smP0 k
  unfold dotI at *
  generalize a.getD k default = p at *
  obtain ⟨p1, p2⟩ := p
  obtain ⟨n1, n2, n3⟩ := n
  have m1 := sm_mul hd.sm.1 hp.1
  have m2 := sm_mul hd.sm.2.1 hp.2
  dsimp only at *
  obtain ⟨z1, q1⟩ : ∃ z, n1 * p1 = z := ⟨_, rfl⟩
  obtain ⟨z2, q2⟩ : ∃ z, n2 * p2 = z := ⟨_, rfl⟩
  rw [q1] at m1
  rw [q2] at m2
  rw [q1, q2] at hm
  have w1 : w64 (n1 * p1) = z1 := by rw [q1, w64_id (by omega) (by omega)]
  have w2 : w64 (n2 * p2) = z2 := by rw [q2, w64_id (by omega) (by omega)]
  obtain ⟨z3, q3⟩ : ∃ z, z1 + z2 = z := ⟨_, rfl⟩
  have w3 : w64 (z1 + z2) = z3 := by rw [w64_id (by omega) (by omega), q3]
  rw [q3] at hm
  rw [q1, q2, q3]
  have t1 : decide (z3 > m) = false := gt_f (by omega)
  simp only [cP, List.drop_zero, List.getElem?_cons_succ, List.getElem?_cons_zero, Option.map_some, iv] at x2 x3
  cases f
  · simp -implicitDefEqProofs (maxSteps := 10000000) only [gantrylaw12_ConvexSupports_l0, s0_st, bxW, bxD, ll, x1, x2, x3, e1, e2, w1, w2, w3, t1, ld3n0, ld3n1, Bool.false_or, Bool.true_or, go_sem, iv, bv, reduceCtorEq, ↓reduceIte, Nat.reduceEqDiff]
  · simp -implicitDefEqProofs (maxSteps := 10000000) only [gantrylaw12_ConvexSupports_l0, s0_st, bxW, bxD, ll, x1, x2, x3, e1, e2, w1, w2, w3, t1, ld3n0, ld3n1, Bool.false_or, Bool.true_or, go_sem, iv, bv, reduceCtorEq, ↓reduceIte, Nat.reduceEqDiff]
theorem s0_stop {a : List Pt} {O : List Eg} {v : Vc} {n : Dr} {i m : Int} {f : Bool} : X G gantrylaw12_ConvexSupports_l0 (s0_st a O v n i m f a.length) = some (.x 2, s0_en a O v n i m f) := by
  have e1 : decide ((a.length : Int) < (a.length : Int)) = false := lt_f (by omega)
  have ll : lenA (.d (rowE cP a)) = some a.length := rfl
  simp -implicitDefEqProofs (maxSteps := 10000000) only [gantrylaw12_ConvexSupports_l0, s0_st, s0_en, bxW, bxD, ll, e1, go_sem, iv, bv, reduceCtorEq, ↓reduceIte, Nat.reduceEqDiff]
theorem s0_loop {a : List Pt} {O : List Eg} {v : Vc} {n : Dr} {i m : Int} (ha : GdS a) (hd : NmD n) (hm : ∀ k, k < a.length → dotI n (a.getD k default) ≤ m) : ∀ (j k : Nat), k + j = a.length →
    X G (.loop gantrylaw12_ConvexSupports_l0) (s0_st a O v n i m (meF n a m k) k) = some (.x 2, s0_en a O v n i m (meF n a m a.length))
  | 0, k, h => by
    have : k = a.length := by omega
    subst this
    rw [X_loop, s0_stop]; rfl
  | j + 1, k, h => by
    rw [X_loop, s0_go ha hd (by omega) (hm k (by omega)), Option.bind_some, if_pos rfl]
    exact s0_loop ha hd hm j (k + 1) (by omega)
theorem s1_go {a : List Pt} {O : List Eg} {v : Vc} (ha : GdS a) (hO : ∀ e ∈ O, NmD e.1) (hn : O.length ≤ 1000) (hv : SzV 3 v) {i : Nat} (hi : i < O.length) (hS : hsP a v = true → dotR (O.getD i default).1 v ≤ (moP (O.getD i default).1 a : Rat)) :
    X G gantrylaw12_ConvexSupports_l1 (s1_st a O v i) = some (.n, s1_st a O v ((i + 1 : Nat) : Int)) := by
  have e1 : decide ((i : Int) < (O.length : Int)) = true := lt_t (by omega)
  have e2 : w64 ((i : Int) + 1) = ((i + 1 : Nat) : Int) := by rw [w64_id (by omega) (by omega)]; rfl
  have ll : lenA (.d (rowE cG O)) = some O.length := rfl
  have x1 := RwE.ixa (d := rowE cG O) (l := O) cG_len (.inr rfl) hi
  have x2 := fun hp => ldGd hp hi
  have he := hO _ (eg_mem hi)
  generalize O.getD i default = e at *
  obtain ⟨n, t⟩ := e
  dsimp only at *
  have g1 := cMost_spec (d := rowE cP a) (l := a) (e := n) (.inr rfl) ha.pos ha.sm he.sm (by have := ha.le; omega)
  have g2 := cHas_spec (d := rowE cP a) (l := a) (v := v) (K := 3) (.inr rfl) ha.sm ha.le (by omega) hv
  have gl := s0_loop (O := O) (v := v) (i := (i : Int)) (m := moP n a) ha he (fun k hk => mst_ge n a _ k hk) a.length 0 (by omega)
  rw [me_all ha.pos] at gl
  have g3 := Dot_spec_V (d := n) (v := v) (K := 3) (by omega) he hv
  have mb : -20000000000000000 ≤ moP n a ∧ moP n a ≤ 20000000000000000 := mstN_b he ha.sm _
  have i6 : I64 (moP n a) := ⟨by omega, by omega⟩
  have g4 := rratOf_spec i6 i64_1
  rw [divInt_one] at g4
  have k1 := dotR_sz he hv
  have k2 := sz_int i6
  have g5 := rratCompare_spec (a := dotR n v) (b := (moP n a : Rat)) (by omega) (by omega)
  have tc : hsP a v = true → decide (cmpR (dotR n v) (moP n a : Rat) > 0) = false := fun h => gt_f (by have := cmpR_le.2 (hS h); omega)
  clear hS k1 k2 i6 mb hv
  generalize cmpR (dotR n v) (moP n a : Rat) = c at *
  generalize dotR n v = r1 at *
  generalize (moP n a : Rat) = r2 at *
  generalize moP n a = m at *
  generalize hsP a v = hh at *
  clear he
  obtain ⟨n1, n2, n3⟩ := n
  obtain ⟨v1, v2⟩ := v
  simp only [s0_st, s0_en, bxW, bxD, meF, nc0, go_sem, iv] at gl
  simp only [encD, cD, encV, encR, iv, bv] at x2 g1 g2 g3 g4 g5
  cases hh
  · simp -implicitDefEqProofs (maxSteps := 10000000) only [gantrylaw12_ConvexSupports_l1, s1_st, bxW, ll, x1, x2, gl, g1, g2, g3, g4, g5, e1, e2, List.drop_zero, box3s, ld3p, ld8, dc_dg, cells_dg, one_dg', Bool.not_true, Bool.not_false, go_sem, iv, bv, reduceCtorEq, ↓reduceIte, Nat.reduceEqDiff]
  · have tc := tc rfl
    simp -implicitDefEqProofs (maxSteps := 10000000) only [gantrylaw12_ConvexSupports_l1, s1_st, bxW, ll, x1, x2, gl, g1, g2, g3, g4, g5, tc, e1, e2, List.drop_zero, box3s, ld3p, ld8, dc_dg, cells_dg, one_dg', Bool.not_true, Bool.not_false, go_sem, iv, bv, reduceCtorEq, ↓reduceIte, Nat.reduceEqDiff]
theorem s1_stop {a : List Pt} {O : List Eg} {v : Vc} : X G gantrylaw12_ConvexSupports_l1 (s1_st a O v O.length) = some (.x 0, s1_en a O) := by
  have e1 : decide ((O.length : Int) < (O.length : Int)) = false := lt_f (by omega)
  have ll : lenA (.d (rowE cG O)) = some O.length := rfl
  simp -implicitDefEqProofs (maxSteps := 10000000) only [gantrylaw12_ConvexSupports_l1, s1_st, s1_en, bxW, ll, e1, go_sem, iv, bv, reduceCtorEq, ↓reduceIte, Nat.reduceEqDiff]
theorem s1_loop {a : List Pt} {O : List Eg} {v : Vc} (ha : GdS a) (hO : ∀ e ∈ O, NmD e.1) (hn : O.length ≤ 1000) (hv : SzV 3 v) (hS : hsP a v = true → ∀ e ∈ O, dotR e.1 v ≤ (moP e.1 a : Rat)) : ∀ (j i : Nat), i + j = O.length →
    X G (.loop gantrylaw12_ConvexSupports_l1) (s1_st a O v i) = some (.x 0, s1_en a O)
  | 0, i, h => by
    have : i = O.length := by omega
    subst this
    rw [X_loop, s1_stop]; rfl
  | j + 1, i, h => by
    rw [X_loop, s1_go ha hO hn hv (by omega) (fun hh => hS hh _ (eg_mem (by omega))), Option.bind_some, if_pos rfl]
    exact s1_loop ha hO hn hv hS j (i + 1) (by omega)
theorem s2_go {a : List Pt} {O : List Eg} (ha : GdS a) {i : Nat} (hi : i < a.length) (hon : moP (sdN a i) a = dotI (sdN a i) (a.getD i default)) :
    X G gantrylaw12_ConvexSupports_l2 (s2_st a O i) = some (.n, s2_st a O ((i + 1 : Nat) : Int)) := by
  have h8 := ha.le
  have e1 : decide ((i : Int) < (a.length : Int)) = true := lt_t (by omega)
  have e2 : w64 ((i : Int) + 1) = ((i + 1 : Nat) : Int) := by rw [w64_id (by omega) (by omega)]; rfl
  have ll : lenA (.d (rowE cP a)) = some a.length := rfl
  have x1 := RwE.ixa (d := rowE cP a) (l := a) cP_len (.inr rfl) hi
  have x2 := fun hp => ldE (en := cP) cP_len hp hi
  have x3 := fun hp => ldF (en := cP) (i := 0) cP_len hp hi (by omega)
  have x4 := fun hp => ldF (en := cP) (i := 1) cP_len hp hi (by omega)
  have g1 := Next_spec (d := rowE cP a) (l := a) (.inr rfl) hi (by omega)
  have g2 := cNorm_spec (h := sdh a i) (getD_all ha.sm smP0 i) (nxP_sm ha.sm i) (ha.sq i hi).1 (ha.sq i hi).2
  have en : nrP ((nxP a i).1 - (a.getD i default).1) ((nxP a i).2 - (a.getD i default).2) (sdh a i) = sdN a i := rfl
  rw [en] at g2
  have hd := ha.nm i hi
  have g3 := cMost_spec (d := rowE cP a) (l := a) (e := sdN a i) (.inr rfl) ha.pos ha.sm hd.sm (by omega)
  rw [hon] at g3
  have hp := getD_all ha.sm smP0 i
  clear hon en
  unfold dotI at g3
  generalize sdN a i = n at *
  generalize nxP a i = q at *
  generalize a.getD i default = p at *
  obtain ⟨p1, p2⟩ := p
  obtain ⟨q1, q2⟩ := q
  obtain ⟨n1, n2, n3⟩ := n
  have m1 := sm_mul hd.sm.1 hp.1
  have m2 := sm_mul hd.sm.2.1 hp.2
  dsimp only at *
  obtain ⟨z1, y1⟩ : ∃ z, n1 * p1 = z := ⟨_, rfl⟩
  obtain ⟨z2, y2⟩ : ∃ z, n2 * p2 = z := ⟨_, rfl⟩
  rw [y1] at m1
  rw [y2] at m2
  rw [y1, y2] at g3
  have w1 : w64 (n1 * p1) = z1 := by rw [y1, w64_id (by omega) (by omega)]
  have w2 : w64 (n2 * p2) = z2 := by rw [y2, w64_id (by omega) (by omega)]
  obtain ⟨z3, y3⟩ : ∃ z, z1 + z2 = z := ⟨_, rfl⟩
  have w3 : w64 (z1 + z2) = z3 := by rw [w64_id (by omega) (by omega), y3]
  rw [y3] at g3
  have t1 : (z3 != z3) = false := bne_f rfl
  simp only [encP, cP, encD, cD, List.drop_zero, List.getElem?_cons_succ, List.getElem?_cons_zero, Option.map_some, iv, bv] at x2 x3 x4 g1 g2 g3
  simp -implicitDefEqProofs (maxSteps := 10000000) only [gantrylaw12_ConvexSupports_l2, s2_st, ll, x1, x2, x3, x4, g1, g2, g3, e1, e2, w1, w2, w3, t1, box3s, ld3p, ld3n0, ld3n1, Bool.not_true, Bool.not_false, go_sem, iv, bv, reduceCtorEq, ↓reduceIte, Nat.reduceEqDiff]
theorem s2_stop {a : List Pt} {O : List Eg} : X G gantrylaw12_ConvexSupports_l2 (s2_st a O a.length) = some (.x 4, s2_en O) := by
  have e1 : decide ((a.length : Int) < (a.length : Int)) = false := lt_f (by omega)
  have ll : lenA (.d (rowE cP a)) = some a.length := rfl
  simp -implicitDefEqProofs (maxSteps := 10000000) only [gantrylaw12_ConvexSupports_l2, s2_st, s2_en, ll, e1, go_sem, iv, bv, reduceCtorEq, ↓reduceIte, Nat.reduceEqDiff]
theorem s2_loop {a : List Pt} {O : List Eg} (ha : GdS a) (hon : ∀ i, i < a.length → moP (sdN a i) a = dotI (sdN a i) (a.getD i default)) : ∀ (j i : Nat), i + j = a.length →
    X G (.loop gantrylaw12_ConvexSupports_l2) (s2_st a O i) = some (.x 4, s2_en O)
  | 0, i, h => by
    have : i = a.length := by omega
    subst this
    rw [X_loop, s2_stop]; rfl
  | j + 1, i, h => by
    rw [X_loop, s2_go ha (by omega) (hon i (by omega)), Option.bind_some, if_pos rfl]
    exact s2_loop ha hon j (i + 1) (by omega)
end Go.AM
namespace Go.Proofs.Ytpcoidklfmaomaa.Pure
open Go Go.AM
attribute [local instance] noIts
theorem ConvexSupports (e0 : D) (l0 : List Int) (hd0 : Dg e0 l0) (hwf0 : ∀ n ∈ l0, (Lit.int .i64 n).wf = true) (hlen0 : l0.length * 8 ≤ 140737488351232) (e1 : D) (l1 : List Int) (hd1 : Dg e1 l1) (hwf1 : ∀ n ∈ l1, (Lit.int .i64 n).wf = true) (hlen1 : l1.length * 8 ≤ 140737488351232) (a2 : Int) (w2 : (Lit.int .i64 a2).wf = true) (a3 : Int) (w3 : (Lit.int .i64 a3).wf = true) : callX G n_gantrylaw12_ConvexSupports [e0, e1, iv a2, iv a3] = some (.d (bv true)) := by
  have g0 := Shape_spec (rw_dg hd0) (fun n hn => i64_wf (hwf0 n hn))
  have g1 := Shape_spec (rw_dg hd1) (fun n hn => i64_wf (hwf1 n hn))
  have ga := gd_sh l0
  have gb := gd_sh l1
  have g2 := cSides_spec (da := rowE cP (spP l1)) (db := rowE cP (spP l0)) (.inr rfl) (.inr rfl) gb ga
  have g3 := Vec_spec (i64_wf w2) (i64_wf w3)
  have hv := vcV_sz a2 a3
  have n3 := sdP_three (b := spP l0) (lim_sh l1).2
  have gl1 := s1_loop (O := sdP (spP l1) (spP l0)) (v := (vcR a2, vcR a3)) ga (fun e he => sd_nm gb ga he) (by have := sd_le gb ga; omega) hv (fun hh e he => sup_le ((sup_sh l0).2 _ (sd_all l1 l0 he)) (fun k hk => hsP_at hh hk)) (sdP (spP l1) (spP l0)).length 0 (by omega)
  have gl2 := s2_loop (O := sdP (spP l1) (spP l0)) ga (fun i hi => ((sup_sh l0).1 i hi).1) (spP l0).length 0 (by omega)
  generalize sdP (spP l1) (spP l0) = O at *
  generalize vcR a2 = v1 at *
  generalize vcR a3 = v2 at *
  generalize spP l0 = a at *
  generalize spP l1 = b at *
  have t1 : decide ((O.length : Int) > 2) = true := gt_t (by omega)
  have lv := lives12
  have ll : lenA (.d (rowE cG O)) = some O.length := rfl
  clear n3 hv
  rw [callX_eq (cf := gantrylaw12_ConvexSupports) rfl]
  simp only [s1_st, s1_en, bxW, rowE, nc0, go_sem] at gl1
  simp only [s2_st, s2_en, rowE, nc0, go_sem] at gl2
  simp only [rowE, encV, iv, bv] at g0 g1 g2 g3 lv ll
  simp -implicitDefEqProofs (maxSteps := 10000000) only [gantrylaw12_ConvexSupports, gl1, gl2, g0, g1, g2, g3, t1, lv, ll, st8, dc_dg, cells_dg, one_dg', go_sem, iv, bv, reduceCtorEq, ↓reduceIte, Nat.reduceEqDiff]
end Go.Proofs.Ytpcoidklfmaomaa.Pure

/- The row of ConvexSupports, out of its Pure. Printed by row.py. -/
namespace Go.Proofs.Ytpcoidklfmaomaa.convexSupports
open Go.ChangeShapes Go.WideShapes Go.ChangeAt Go.RowKit Go.AM
theorem own : ownKnob Try.prog.godebug = none := by kernel_rfl
theorem laidOut : laidOutB Try.prog = true := by kernel_rfl
set_option maxRecDepth 100000 in
theorem lifted (os : Os) (started : os.Started) (H : Type) (enc : TypeId × Value → H) :
    ReturnsInHanded {} Try.checked os 7 .any (Rows.convexSupportsSpec.pre6 enc Try.prog Try.f7 Rows.convexSupportsRow.domain false) (Rows.convexSupportsSpec.post enc Try.prog Try.f7 false true false false) := by
  refine returnsInHanded_of_change_sized (C := Try.checked) own started (by kernel_rfl) Try.func7
    (ChangeSpec.witness6 (enc := enc) (C := Try.checked) false ⟨#[], #[.slice none 0 0, .slice none 0 0, .int .i64 0, .int .i64 0], []⟩ 8 (by kernel_rfl) (by kernel_rfl) (by kernel_rfl) (by kernel_rfl)) ?_
  intro W base args ds gs before hval0 hW hcnd hsz0 _
  have hsz : (DataW.weightsEach Try.prog (Try.f7.params.toList ++ Rows.convexSupportsSpec.plain.varTypes Try.prog) (ds ++ gs)).all (· ≤ reachBytes) = true := hsz0
  have hval : ∀ (j : Nat) t v, Try.f7.params[j]? = some t → args[j]? = some v → Value.okWide Try.prog W .any base t v := hval0
  have hW' := hW
  obtain ⟨p, q, hA0, hV, rfl, hfz, hnd⟩ := hW
  have hA : DataW.TrodAll enc Try.prog W 0 (fun _ => true) true Try.f7.params.toList args.toList ds p := hA0
  rw [Try.params7] at hA hval hsz
  obtain ⟨v0, vs0, d0, ds0, p0, q0, hargs, rfl, rfl, h0, r0⟩ := trodAll_cons hA
  obtain ⟨v1, vs1, d1, ds1, p1, q1, rfl, rfl, rfl, h1, r1⟩ := trodAll_cons r0
  obtain ⟨v2, vs2, d2, ds2, p2, q2, rfl, rfl, rfl, h2, r2⟩ := trodAll_cons r1
  obtain ⟨v3, vs3, d3, ds3, p3, q3, rfl, rfl, rfl, h3, r3⟩ := trodAll_cons r2
  obtain ⟨rfl, rfl, rfl⟩ := trodAll_nil r3
  obtain rfl : args = #[v0, v1, v2, v3] := by cases args; simp_all
  obtain ⟨rfl, rfl⟩ := trodVars_none hV
  obtain ⟨a0, len0, cap0, rfl⟩ := okWide_slice Try.underlying22 (hval 0 22 v0 rfl rfl)
  have k0 := h0
  have lt0 : ∀ x ∈ p0, x.block < W.heap.size := by obtain ⟨m, hm⟩ := k0; exact DataW.trod_lt m _ _ _ hm
  obtain ⟨z0, w0, y0⟩ : ∃ zs, ((a0 = none ∧ len0 = 0 ∧ cap0 = 0 ∧ zs = []) ∨ ∃ x, a0 = some x ∧ len0 ≤ cap0 ∧ cap0 ≤ maxLen ∧ zs.length = cap0 ∧ (∀ i, i < zs.length → W.cell? (x.add i) = some (.int .i64 (zs.getD i 0))) ∧ ∀ n ∈ zs, (Lit.int .i64 n).wf = true) ∧ len0 * 8 ≤ 140737488351232 := by
    obtain ⟨fuel, hf⟩ := h0
    rcases open_ints Try.underlying22 Try.underlying3 (by kernel_rfl) hf with ⟨hcs, _⟩ | ⟨x, l, c, zs, hcs, _, hl, hm, hz, hx, hcell, hwz⟩
    · simp [Value.cells] at hcs
      obtain ⟨rfl, rfl, rfl⟩ := hcs
      exact ⟨[], .inl ⟨rfl, rfl, rfl, rfl⟩, by simp⟩
    · simp [Value.cells] at hcs
      obtain ⟨rfl, rfl, rfl⟩ := hcs
      refine ⟨zs, .inr ⟨_, rfl, hl, hm, by simpa using hz, hcell, hwz⟩, ?_⟩
      simp only [Prod.mk.injEq] at hx
      have hd := hx.1
      have z := sized_slice hsz (j := 0) (t := 22) rfl (by rw [hd]; rfl) Try.underlying22
      have hb : Try.prog.bytesOf 3 = 8 := by kernel_rfl
      rw [hb] at z
      have hr : reachBytes ≤ 140737488351232 := by decide
      have hz' : zs.length = cap0 := by simpa using hz
      simp only [lits, List.length_map, List.length_take, List.length_drop] at z
      omega
  obtain ⟨e0, l0, hd0, hrep0, hlen0, hwf0⟩ := arg_row w0
  obtain ⟨a1, len1, cap1, rfl⟩ := okWide_slice Try.underlying22 (hval 1 22 v1 rfl rfl)
  have k1 := h1
  have lt1 : ∀ x ∈ p1, x.block < W.heap.size := by obtain ⟨m, hm⟩ := k1; exact DataW.trod_lt m _ _ _ hm
  obtain ⟨z1, w1, y1⟩ : ∃ zs, ((a1 = none ∧ len1 = 0 ∧ cap1 = 0 ∧ zs = []) ∨ ∃ x, a1 = some x ∧ len1 ≤ cap1 ∧ cap1 ≤ maxLen ∧ zs.length = cap1 ∧ (∀ i, i < zs.length → W.cell? (x.add i) = some (.int .i64 (zs.getD i 0))) ∧ ∀ n ∈ zs, (Lit.int .i64 n).wf = true) ∧ len1 * 8 ≤ 140737488351232 := by
    obtain ⟨fuel, hf⟩ := h1
    rcases open_ints Try.underlying22 Try.underlying3 (by kernel_rfl) hf with ⟨hcs, _⟩ | ⟨x, l, c, zs, hcs, _, hl, hm, hz, hx, hcell, hwz⟩
    · simp [Value.cells] at hcs
      obtain ⟨rfl, rfl, rfl⟩ := hcs
      exact ⟨[], .inl ⟨rfl, rfl, rfl, rfl⟩, by simp⟩
    · simp [Value.cells] at hcs
      obtain ⟨rfl, rfl, rfl⟩ := hcs
      refine ⟨zs, .inr ⟨_, rfl, hl, hm, by simpa using hz, hcell, hwz⟩, ?_⟩
      simp only [Prod.mk.injEq] at hx
      have hd := hx.1
      have z := sized_slice hsz (j := 1) (t := 22) rfl (by rw [hd]; rfl) Try.underlying22
      have hb : Try.prog.bytesOf 3 = 8 := by kernel_rfl
      rw [hb] at z
      have hr : reachBytes ≤ 140737488351232 := by decide
      have hz' : zs.length = cap1 := by simpa using hz
      simp only [lits, List.length_map, List.length_take, List.length_drop] at z
      omega
  obtain ⟨e1, l1, hd1, hrep1, hlen1, hwf1⟩ := arg_row w1
  obtain ⟨a2, rfl, rfl, rfl, w2⟩ := open_int Try.underlying3 (hval 2 3 v2 rfl rfl) h2
  obtain ⟨a3, rfl, rfl, rfl, w3⟩ := open_int Try.underlying3 (hval 3 3 v3 rfl rfl) h3
  clear hA0 hval0 hsz0 hsz
  refine (law_walk env_ok0 (f := 7) (ds := [e0, e1, (iv a2), (iv a3)]) (vs := [.slice a0 len0 cap0, .slice a1 len1 cap1, .int .i64 a2, .int .i64 a3]) (w := W) (tabs_none rfl W) (RepL.cons _ _ _ _ hrep0 (RepL.cons _ _ _ _ hrep1 (RepL.cons _ _ _ _ (RepD.v _) (RepL.cons _ _ _ _ (RepD.v _) RepL.nil)))) (Pure.ConvexSupports e0 l0 hd0 hwf0 (by rw [hlen0]; exact y0) e1 l1 hd1 hwf1 (by rw [hlen1]; exact y1) a2 w2 a3 w3)).mono fun e W' ⟨he, bel⟩ => ?_
  subst he
  exact ⟨_, rfl, _, _, _, [], _, [], hW', trodAll_mk1 (shut_bool Try.underlying4 _), (trodAll_cons_mk (Below.trod laidOut (by kernel_rfl) (of_decide_eq_true (by kernel_rfl)) k0 bel lt0) (trodAll_cons_mk (Below.trod laidOut (by kernel_rfl) (of_decide_eq_true (by kernel_rfl)) k1 bel lt1) (trodAll_cons_mk (shut_int Try.underlying3 w2) (trodAll_cons_mk (shut_int Try.underlying3 w3) trodAll_mk0)))), rfl, bel.frame _, fun h => by cases h⟩
theorem over : Rows.convexSupportsRow.holds Try.pinned (OpenSpec.ofChange Rows.convexSupportsSpec) :=
  OpenClaim.holds_of_wide 7 Try.f7 rfl rfl rfl rfl rfl rfl rfl ⟨rfl, rfl, rfl, rfl, rfl⟩ rfl rfl rfl rfl rfl (by kernel_rfl) Try.func7 (by kernel_rfl)
    (of_decide_eq_true (by kernel_rfl)) (by unfold Func.isWrapper; first | (rw [if_pos (by decide +kernel)]; kernel_rfl) | (rw [if_neg (by decide +kernel)]; exact ⟨rfl, rfl⟩))
    (fun os started H enc _ => lifted os started H enc)
theorem proved : Rows.ConvexSupportsSaid := over
end Go.Proofs.Ytpcoidklfmaomaa.convexSupports
namespace Go.Proofs.Ytpcoidklfmaomaa
theorem convexSupports_holds : Rows.ConvexSupportsSaid := convexSupports.proved
end Go.Proofs.Ytpcoidklfmaomaa


