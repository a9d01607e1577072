/- Part 10 of the proof: a small machine, its soundness against the model, and what the program's functions compute on it. -/
import Derived.Test.YtpcoidklfmaomaaM9
import Derived.Test.YtpcoidklfmaomaaM6
set_option linter.unusedVariables false
set_option linter.unusedSimpArgs false
/- convex.Sides. -/
namespace Go.AM
open Go Go.RowKit

theorem eqDr_iff {a b : Dr} : eqDr a b = true ↔ a = b := by
  obtain ⟨x, y, z⟩ := a
  obtain ⟨p, q, r⟩ := b
  simp [eqDr]
def cadd (a b : List Pt) (O : List Eg) (d : Dr) : List Eg := if O.any (fun e => eqDr e.1 d) then O else O ++ [edP a b d]
theorem frI_any {ds : List Dr} {i : Nat} (hi : i < ds.length) : ∀ k, k ≤ i → frI ds i k = !((ds.take k).any fun x => eqDr x (ds.getD i default))
  | 0, _ => by simp [frI]
  | k + 1, hk => by
    rw [frI, frI_any hi k (by omega), List.take_add_one, List.any_append, Bool.not_or]
    congr 1
    rw [List.getElem?_eq_getElem (by omega), List.getD_eq_getElem?_getD (i := k), List.getElem?_eq_getElem (by omega)]
    simp
theorem sdO_any (a b : List Pt) {ds : List Dr} (d : Dr) : ∀ i, i ≤ ds.length → (sdO a b ds i).any (fun e => eqDr e.1 d) = (ds.take i).any fun x => eqDr x d
  | 0, _ => by simp [sdO]
  | i + 1, hi => by
    have ih := sdO_any a b (ds := ds) d i (by omega)
    have e1 : ds.take (i + 1) = ds.take i ++ [ds.getD i default] := by
      rw [List.take_add_one, List.getElem?_eq_getElem (by omega), List.getD_eq_getElem?_getD, List.getElem?_eq_getElem (by omega)]; rfl
    rw [sdO, e1, List.any_append]
    have hf := frI_any (ds := ds) (i := i) (by omega) i (Nat.le_refl _)
    split
    · rw [List.any_append, ih]; rfl
    · rename_i hc
      rw [ih]
      have h2 : ((ds.take i).any fun x => eqDr x (ds.getD i default)) = true := by
        rw [hf] at hc; simpa using hc
      cases h3 : eqDr (ds.getD i default) d with
      | false => rw [List.any_cons, List.any_nil, Bool.or_false, h3, Bool.or_false]
      | true =>
        rw [eqDr_iff] at h3
        rw [h3] at h2
        rw [h2]; rfl
theorem cadd_sdO (a b : List Pt) (ds : List Dr) {i : Nat} (hi : i < ds.length) : cadd a b (sdO a b ds i) (ds.getD i default) = sdO a b ds (i + 1) := by
  unfold cadd
  rw [sdO_any a b _ i (by omega), sdO, frI_any hi i (Nat.le_refl _)]
  cases ((ds.take i).any fun x => eqDr x (ds.getD i default)) <;> simp
theorem drs_at_a {a b : List Pt} {i : Nat} (hi : i < a.length) : (drs a b).getD i default = sdN a i := by
  unfold drs
  rw [List.getD_eq_getElem?_getD, List.getElem?_append_left (by rw [drA_len]; exact hi)]
  simp [drA, hi]
theorem drs_at_b {a b : List Pt} {i : Nat} (hi : i < b.length) : (drs a b).getD (a.length + i) default = tnD (sdN b i) := by
  unfold drs
  rw [List.getD_eq_getElem?_getD, List.getElem?_append_right (by rw [drA_len]; omega), drA_len, Nat.add_sub_cancel_left]
  simp [drB, hi]
def gO (O : List Eg) : A := if O = [] then .d (.z true) else .own [21, 0] O.length
def hO (O : List Eg) : List (Key × Obj) := if O = [] then [] else [([21, 0], arE cG 4 O.length O)]
def bxA (x : A) : Obj := ⟨0, 0, [x], false⟩
theorem gO_nil : gO [] = .d (.z true) := rfl
theorem hO_nil : hO [] = [] := rfl
theorem gO_ne {O : List Eg} (h : O ≠ []) : gO O = .own [21, 0] O.length := if_neg h
theorem hO_ne {O : List Eg} (h : O ≠ []) : hO O = [([21, 0], arE cG 4 O.length O)] := if_neg h
theorem gO_snoc (O : List Eg) (e : Eg) : gO (O ++ [e]) = .own [21, 0] (O.length + 1) := by rw [gO_ne (by simp)]; simp
theorem hO_snoc (O : List Eg) (e : Eg) : hO (O ++ [e]) = [([21, 0], arE cG 4 (O.length + 1) (O ++ [e]))] := by rw [hO_ne (by simp)]; simp
def clo : A := .fn n_convex_Sides_1 [.ptr [5] 0, .ptr [2] 0, .ptr [3] 0]
def cs1_st (da db : D) (O : List Eg) (n i : Int) : St := mkS [(2, .ptr [2] 0), (3, .ptr [3] 0), (5, .ptr [5] 0), (6, clo), (15, ai n), (16, ai i)] ([([2], bxA (.d da)), ([3], bxA (.d db)), ([5], bxA (gO O))] ++ hO O)
def cs1_en (da db : D) (O : List Eg) : St := mkS [(3, .ptr [3] 0), (5, .ptr [5] 0), (6, clo)] ([([2], bxA (.d da)), ([3], bxA (.d db)), ([5], bxA (gO O))] ++ hO O)
def cs3_st (da db : D) (O : List Eg) (n i : Int) : St := mkS [(3, .ptr [3] 0), (5, .ptr [5] 0), (6, clo), (35, ai n), (36, ai i)] ([([2], bxA (.d da)), ([3], bxA (.d db)), ([5], bxA (gO O))] ++ hO O)
def cs3_en (O : List Eg) : St := mkS [(5, .ptr [5] 0)] ([([5], bxA (gO O))] ++ hO O)
theorem ld1c (a : A) : ldcells none 0 [a] = some a := rfl
theorem st1c (a b : A) : stcells 0 [a] [b] = some [a] := rfl
theorem hold2 : convex_Sides_i2.holds [[2], [3], [5], [21, 0]] = true := by decide

variable [Its]
/-- What the closure's call needs. -/
structure AdF (da db : D) (a b : List Pt) (O : List Eg) (d : Dr) : Prop where
  co : callX G n_slices_ContainsFunc_api_Edge_api_Edge [dE cG O, .fn n_convex_Sides_1_1 [.rp (cD d)]] = some (.d (bv (O.any fun e => eqDr e.1 d)))
  m1 : callX G n_convex_Most [da, encD d] = some (.d (iv (moP d a)))
  tn : callX G n_convex_turned [encD d] = some (.d (encD (tnD d)))
  m2 : callX G n_convex_Most [db, encD (tnD d)] = some (.d (iv (moP (tnD d) b)))
  wr : w64 (moP d a + moP (tnD d) b) = moP d a + moP (tnD d) b
theorem adF {da db : D} {a b : List Pt} (hra : RwE cP da a) (hrb : RwE cP db b) (ha : GdS a) (hb : GdS b) {O : List Eg} (hO : O.length ≤ 1000) {d : Dr} (hd : NmD d) : AdF da db a b O d := by
  refine ⟨ContE_spec (dE_ok O) (by omega) (fun i hi => Sides11_spec _ _), cMost_spec hra ha.pos ha.sm hd.sm (by have := ha.le; omega), turned_spec hd.sm, cMost_spec hrb hb.pos hb.sm hd.tn.sm (by have := hb.le; omega), ?_⟩
  have m1 : -20000000000000000 ≤ moP d a ∧ moP d a ≤ 20000000000000000 := mstN_b hd ha.sm _
  have m2 : -20000000000000000 ≤ moP (tnD d) b ∧ moP (tnD d) b ≤ 20000000000000000 := mstN_b hd.tn hb.sm _
  exact w64_id (by omega) (by omega)
theorem cs1_go {da db : D} {a b : List Pt} (hra : RwE cP da a) (hrb : RwE cP db b) (ha : GdS a) (hb : GdS b) {O : List Eg} (hOl : O.length ≤ 1000) {i : Nat} (hi : i < a.length) :
    X G convex_Sides_l1 (cs1_st da db O a.length i) = some (.n, cs1_st da db (cadd a b O (sdN a i)) a.length ((i + 1 : Nat) : Int)) := by
  have hle := ha.le
  have e1 : decide ((i : Int) < (a.length : Int)) = true := lt_t (by omega)
  have e2 : w64 ((i : Int) + 1) = ((i + 1 : Nat) : Int) := by rw [w64_id (by omega) (by omega)]; rfl
  have x1 := hra.ixa cP_len hi
  have x2 := fun hp => ldE cP_len hp hi
  have g1 := cnext_spec hra hi (by omega)
  have hp := getD_all ha.sm smP0 i
  have hn : SmP (nxP a i) := by unfold nxP; split <;> exact getD_all ha.sm smP0 _
  have g2 := cNorm_spec (h := sdh a i) hp hn (ha.sq i hi).1 (ha.sq i hi).2
  have e3 : nrP ((nxP a i).1 - (a.getD i default).1) ((nxP a i).2 - (a.getD i default).2) (sdh a i) = sdN a i := rfl
  rw [e3] at g2
  obtain ⟨f1, f2, f3, f4, f5⟩ := adF hra hrb ha hb hOl (ha.nm i hi)
  have hO0 : ∀ h : O = [], (O.any fun e => eqDr e.1 (sdN a i)) = false := fun h => by rw [h]; rfl
  unfold cadd edP
  obtain ⟨t, ht⟩ : ∃ t, (O.any fun e => eqDr e.1 (sdN a i)) = t := ⟨_, rfl⟩
  rw [ht] at f1 hO0 ⊢
  obtain ⟨z, hz⟩ : ∃ z, moP (sdN a i) a + moP (tnD (sdN a i)) b = z := ⟨_, rfl⟩
  rw [hz] at f5 ⊢
  generalize moP (sdN a i) a = z1 at *
  generalize moP (tnD (sdN a i)) b = z2 at *
  have f5' : w64 (z1 + z2) = z := by rw [hz]; exact f5
  clear f5 hz ht
  simp only [encP, cP, encD, cD, iv, bv] at x2 g1 g2 f1 f2 f3 f4
  generalize (nxP a i).1 = n1 at *
  generalize (nxP a i).2 = n2 at *
  generalize (a.getD i default).1 = p1 at *
  generalize (a.getD i default).2 = p2 at *
  clear e3 hp hn
  generalize tnD (sdN a i) = v2 at *
  generalize sdN a i = v at *
  obtain ⟨u1, u2, u3⟩ := v
  obtain ⟨y1, y2, y3⟩ := v2
  dsimp only at g2 f1 f2 f3 f4
  have c1 := hra.cell
  have c2 := hrb.cell
  by_cases h0 : O = []
  · have := hO0 h0
    subst this
    subst h0
    have fq : dE cG ([] : List Eg) = .z true := rfl
    rw [fq] at f1
    rw [if_neg (by simp)]
    have hq : ([((u1, u2, u3), z)] : List Eg) ≠ [] := by simp
    simp -implicitDefEqProofs (maxSteps := 10000000) only [convex_Sides_l1, convex_Sides_i0, cs1_st, clo, bxA, gO_nil, hO_nil, gO_ne hq, hO_ne hq, List.nil_append, List.cons_append, List.append_nil, C.holds, c1, c2, x1, x2, g1, g2, f1, f2, f3, f4, f5', e1, e2, hupdO_none, arE, flat1G, b32, b32', rep1_4, oneI, srcS, src, allD, snap, snapH, fillB, partsB, ld1c, st1c, ld3p, box3s, Bool.not_true, Bool.not_false, List.map_cons, List.map_nil, List.length_nil, List.length_cons, Nat.zero_add, List.cons.injEq, go_sem, iv, bv, reduceCtorEq, ↓reduceIte, Nat.reduceEqDiff]
  · have n3 := lenE cG_len O
    have n4 := bnd4 hOl
    have fq : dE cG O = .row O.length (O.flatMap cG) := if_neg h0
    rw [fq] at f1
    cases t with
    | true =>
      rw [if_pos rfl]
      simp -implicitDefEqProofs (maxSteps := 10000000) only [convex_Sides_l1, convex_Sides_i0, cs1_st, clo, bxA, gO_ne h0, hO_ne h0, List.nil_append, List.cons_append, List.append_nil, C.holds, c1, c2, x1, x2, g1, g2, f1, f2, f3, f4, f5', e1, e2, hupdO_none, arE, refsL_E, allD_E, n3, n4, rep1_4, oneI, srcS, src, allD, snap, snapH, fillB, partsB, ld1c, st1c, ld3p, box3s, Bool.not_true, Bool.not_false, List.map_cons, List.map_nil, List.length_nil, List.length_cons, Nat.zero_add, List.cons.injEq, go_sem, iv, bv, reduceCtorEq, ↓reduceIte, Nat.reduceEqDiff]
    | false =>
      rw [if_neg (by simp)]
      simp -implicitDefEqProofs (maxSteps := 10000000) only [convex_Sides_l1, convex_Sides_i0, cs1_st, clo, bxA, gO_ne h0, hO_ne h0, gO_snoc, hO_snoc, cG_snoc, List.nil_append, List.cons_append, List.append_nil, C.holds, c1, c2, x1, x2, g1, g2, f1, f2, f3, f4, f5', e1, e2, hupdO_none, arE, refsL_E, allD_E, n3, n4, rep1_4, oneI, srcS, src, allD, snap, snapH, fillB, partsB, ld1c, st1c, ld3p, box3s, Bool.not_true, Bool.not_false, List.map_cons, List.map_nil, List.length_nil, List.length_cons, Nat.zero_add, List.all_cons, List.all_nil, List.cons.injEq, go_sem, iv, bv, reduceCtorEq, ↓reduceIte, Nat.reduceEqDiff]
theorem cs3_go {da db : D} {a b : List Pt} (hra : RwE cP da a) (hrb : RwE cP db b) (ha : GdS a) (hb : GdS b) {O : List Eg} (hOl : O.length ≤ 1000) {i : Nat} (hi : i < b.length) :
    X G convex_Sides_l3 (cs3_st da db O b.length i) = some (.n, cs3_st da db (cadd a b O (tnD (sdN b i))) b.length ((i + 1 : Nat) : Int)) := by
  have hle := hb.le
  have e1 : decide ((i : Int) < (b.length : Int)) = true := lt_t (by omega)
  have e2 : w64 ((i : Int) + 1) = ((i + 1 : Nat) : Int) := by rw [w64_id (by omega) (by omega)]; rfl
  have x1 := hrb.ixa cP_len hi
  have x2 := fun hp => ldE cP_len hp hi
  have g1 := cnext_spec hrb hi (by omega)
  have hp := getD_all hb.sm smP0 i
  have hn : SmP (nxP b i) := by unfold nxP; split <;> exact getD_all hb.sm smP0 _
  have g2 := cNorm_spec (h := sdh b i) hp hn (hb.sq i hi).1 (hb.sq i hi).2
  have e3 : nrP ((nxP b i).1 - (b.getD i default).1) ((nxP b i).2 - (b.getD i default).2) (sdh b i) = sdN b i := rfl
  rw [e3] at g2
  have g3 := turned_spec (hb.nm i hi).sm
  obtain ⟨f1, f2, f3, f4, f5⟩ := adF hra hrb ha hb hOl (hb.nm i hi).tn
  have hO0 : ∀ h : O = [], (O.any fun e => eqDr e.1 (tnD (sdN b i))) = false := fun h => by rw [h]; rfl
  unfold cadd edP
  obtain ⟨t, ht⟩ : ∃ t, (O.any fun e => eqDr e.1 (tnD (sdN b i))) = t := ⟨_, rfl⟩
  rw [ht] at f1 hO0 ⊢
  obtain ⟨z, hz⟩ : ∃ z, moP (tnD (sdN b i)) a + moP (tnD (tnD (sdN b i))) b = z := ⟨_, rfl⟩
  rw [hz] at f5 ⊢
  generalize moP (tnD (sdN b i)) a = z1 at *
  generalize moP (tnD (tnD (sdN b i))) b = z2 at *
  have f5' : w64 (z1 + z2) = z := by rw [hz]; exact f5
  clear f5 hz ht
  simp only [encP, cP, encD, cD, iv, bv] at x2 g1 g2 g3 f1 f2 f3 f4
  generalize (nxP b i).1 = n1 at *
  generalize (nxP b i).2 = n2 at *
  generalize (b.getD i default).1 = p1 at *
  generalize (b.getD i default).2 = p2 at *
  clear e3 hp hn
  generalize tnD (tnD (sdN b i)) = v2 at *
  generalize tnD (sdN b i) = v at *
  generalize sdN b i = v0 at *
  obtain ⟨o1, o2, o3⟩ := v0
  obtain ⟨u1, u2, u3⟩ := v
  obtain ⟨y1, y2, y3⟩ := v2
  dsimp only at g2 g3 f1 f2 f3 f4
  have c1 := hra.cell
  have c2 := hrb.cell
  by_cases h0 : O = []
  · have := hO0 h0
    subst this
    subst h0
    have fq : dE cG ([] : List Eg) = .z true := rfl
    rw [fq] at f1
    rw [if_neg (by simp)]
    have hq : ([((u1, u2, u3), z)] : List Eg) ≠ [] := by simp
    simp -implicitDefEqProofs (maxSteps := 10000000) only [convex_Sides_l3, convex_Sides_i2, cs3_st, clo, bxA, gO_nil, hO_nil, gO_ne hq, hO_ne hq, List.nil_append, List.cons_append, List.append_nil, C.holds, c1, c2, x1, x2, g1, g2, g3, f1, f2, f3, f4, f5', e1, e2, hupdO_none, arE, flat1G, b32, b32', rep1_4, oneI, srcS, src, allD, snap, snapH, fillB, partsB, ld1c, st1c, ld3p, box3s, Bool.not_true, Bool.not_false, List.map_cons, List.map_nil, List.length_nil, List.length_cons, Nat.zero_add, List.cons.injEq, go_sem, iv, bv, reduceCtorEq, ↓reduceIte, Nat.reduceEqDiff]
  · have n3 := lenE cG_len O
    have n4 := bnd4 hOl
    have fq : dE cG O = .row O.length (O.flatMap cG) := if_neg h0
    rw [fq] at f1
    cases t with
    | true =>
      rw [if_pos rfl]
      simp -implicitDefEqProofs (maxSteps := 10000000) only [convex_Sides_l3, convex_Sides_i2, cs3_st, clo, bxA, gO_ne h0, hO_ne h0, List.nil_append, List.cons_append, List.append_nil, C.holds, c1, c2, x1, x2, g1, g2, g3, f1, f2, f3, f4, f5', e1, e2, hupdO_none, arE, refsL_E, allD_E, n3, n4, rep1_4, oneI, srcS, src, allD, snap, snapH, fillB, partsB, ld1c, st1c, ld3p, box3s, Bool.not_true, Bool.not_false, List.map_cons, List.map_nil, List.length_nil, List.length_cons, Nat.zero_add, List.cons.injEq, go_sem, iv, bv, reduceCtorEq, ↓reduceIte, Nat.reduceEqDiff]
    | false =>
      rw [if_neg (by simp)]
      simp -implicitDefEqProofs (maxSteps := 10000000) only [convex_Sides_l3, convex_Sides_i2, cs3_st, clo, bxA, gO_ne h0, hO_ne h0, gO_snoc, hO_snoc, cG_snoc, List.nil_append, List.cons_append, List.append_nil, C.holds, c1, c2, x1, x2, g1, g2, g3, f1, f2, f3, f4, f5', e1, e2, hupdO_none, arE, refsL_E, allD_E, n3, n4, rep1_4, oneI, srcS, src, allD, snap, snapH, fillB, partsB, ld1c, st1c, ld3p, box3s, Bool.not_true, Bool.not_false, List.map_cons, List.map_nil, List.length_nil, List.length_cons, Nat.zero_add, List.all_cons, List.all_nil, List.cons.injEq, go_sem, iv, bv, reduceCtorEq, ↓reduceIte, Nat.reduceEqDiff]
theorem cs1_stop {da db : D} {a b : List Pt} (hra : RwE cP da a) (hrb : RwE cP db b) {O : List Eg} : X G convex_Sides_l1 (cs1_st da db O a.length a.length) = some (.x 0, cs1_en da db O) := by
  have e1 : decide ((a.length : Int) < (a.length : Int)) = false := lt_f (by omega)
  by_cases h0 : O = []
  · subst h0
    simp -implicitDefEqProofs (maxSteps := 10000000) only [convex_Sides_l1, cs1_st, cs1_en, clo, bxA, gO_nil, hO_nil, List.nil_append, List.cons_append, List.append_nil, e1, hupdO_none, arE, refsL_E, List.cons.injEq, go_sem, iv, bv, reduceCtorEq, ↓reduceIte, Nat.reduceEqDiff]
  · simp -implicitDefEqProofs (maxSteps := 10000000) only [convex_Sides_l1, cs1_st, cs1_en, clo, bxA, gO_ne h0, hO_ne h0, List.nil_append, List.cons_append, List.append_nil, e1, hupdO_none, arE, refsL_E, List.cons.injEq, go_sem, iv, bv, reduceCtorEq, ↓reduceIte, Nat.reduceEqDiff]
theorem cs3_stop {da db : D} {b : List Pt} {O : List Eg} : X G convex_Sides_l3 (cs3_st da db O b.length b.length) = some (.x 2, cs3_en O) := by
  have e1 : decide ((b.length : Int) < (b.length : Int)) = false := lt_f (by omega)
  by_cases h0 : O = []
  · subst h0
    simp -implicitDefEqProofs (maxSteps := 10000000) only [convex_Sides_l3, cs3_st, cs3_en, clo, bxA, gO_nil, hO_nil, List.nil_append, List.cons_append, List.append_nil, e1, hupdO_none, arE, refsL_E, List.cons.injEq, go_sem, iv, bv, reduceCtorEq, ↓reduceIte, Nat.reduceEqDiff]
  · simp -implicitDefEqProofs (maxSteps := 10000000) only [convex_Sides_l3, cs3_st, cs3_en, clo, bxA, gO_ne h0, hO_ne h0, List.nil_append, List.cons_append, List.append_nil, e1, hupdO_none, arE, refsL_E, List.cons.injEq, go_sem, iv, bv, reduceCtorEq, ↓reduceIte, Nat.reduceEqDiff]
theorem cs1_loop {da db : D} {a b : List Pt} (hra : RwE cP da a) (hrb : RwE cP db b) (ha : GdS a) (hb : GdS b) : ∀ (j i : Nat), i + j = a.length → X G (.loop convex_Sides_l1) (cs1_st da db (sdO a b (drs a b) i) a.length i) = some (.x 0, cs1_en da db (sdO a b (drs a b) a.length))
  | 0, i, h => by
    have : i = a.length := by omega
    subst this
    rw [X_loop, cs1_stop hra hrb]; rfl
  | j + 1, i, h => by
    have hi : i < a.length := by omega
    have hl := drs_len a b
    have hc := cadd_sdO a b (drs a b) (i := i) (by omega)
    rw [drs_at_a hi] at hc
    rw [X_loop, cs1_go hra hrb ha hb (by have := sdO_len a b (drs a b) i; have := ha.le; omega) hi, Option.bind_some, if_pos rfl, hc]
    exact cs1_loop hra hrb ha hb j (i + 1) (by omega)
theorem cs3_loop {da db : D} {a b : List Pt} (hra : RwE cP da a) (hrb : RwE cP db b) (ha : GdS a) (hb : GdS b) : ∀ (j i : Nat), i + j = b.length → X G (.loop convex_Sides_l3) (cs3_st da db (sdO a b (drs a b) (a.length + i)) b.length i) = some (.x 2, cs3_en (sdP a b))
  | 0, i, h => by
    have hl := drs_len a b
    have : i = b.length := by omega
    subst this
    have e : sdO a b (drs a b) (a.length + b.length) = sdP a b := by unfold sdP; rw [hl]
    rw [X_loop, cs3_stop, e]; rfl
  | j + 1, i, h => by
    have hi : i < b.length := by omega
    have hl := drs_len a b
    have hc := cadd_sdO a b (drs a b) (i := a.length + i) (by omega)
    rw [drs_at_b hi] at hc
    rw [X_loop, cs3_go hra hrb ha hb (by have := sdO_len a b (drs a b) (a.length + i); have := ha.le; have := hb.le; omega) hi, Option.bind_some, if_pos rfl, hc]
    exact cs3_loop hra hrb ha hb j (i + 1) (by omega)
theorem cSides_spec {da db : D} {a b : List Pt} (hra : RwE cP da a) (hrb : RwE cP db b) (ha : GdS a) (hb : GdS b) : callX G n_convex_Sides [da, db] = some (.own 4 (sdP a b).length ((sdP a b).flatMap cG)) := by
  rw [callX_eq (cf := convex_Sides) rfl]
  have g1 := cs1_loop hra hrb ha hb a.length 0 (by omega)
  have g3 := cs3_loop hra hrb ha hb b.length 0 (by omega)
  have hne := sdP_ne (b := b) ha
  have e0 : sdO a b (drs a b) 0 = [] := rfl
  rw [e0] at g1
  rw [Nat.add_zero] at g3
  have l1 := hra.len
  have l2 := hrb.len
  have c1 := hra.cell
  have c2 := hrb.cell
  have o1 := hra.onec
  have o2 := hrb.onec
  generalize sdP a b = O at *
  generalize hO1 : sdO a b (drs a b) a.length = O1 at *
  have hne1 : O1 ≠ [] := by
    rw [← hO1]
    have key : ∀ n, 0 < n → sdO a b (drs a b) n ≠ [] := by
      intro n
      induction n with
      | zero => intro h; omega
      | succ n ih =>
        intro _
        rw [sdO]
        by_cases hn : 0 < n
        · split
          · simp
          · exact ih hn
        · have : n = 0 := by omega
          subst this
          simp [frI]
    exact key _ ha.pos
  clear hO1
  simp only [cs1_st, cs1_en, clo, bxA, gO_nil, hO_nil, gO_ne hne1, hO_ne hne1, arE, List.nil_append, List.cons_append, List.append_nil, hupdO_none, go_sem, nc0, iv] at g1
  simp only [cs3_st, cs3_en, clo, bxA, gO_ne hne1, hO_ne hne1, gO_ne hne, hO_ne hne, arE, List.nil_append, List.cons_append, List.append_nil, hupdO_none, go_sem, nc0, iv] at g3
  simp -implicitDefEqProofs (maxSteps := 10000000) only [convex_Sides, g1, g3, l1, l2, c1, c2, o1, o2, refsL_E, allD_E, allD, ld1c, hupdO_none, List.cons_append, List.nil_append, List.map_cons, List.map_nil, List.cons.injEq, go_sem, iv, bv, reduceCtorEq, ↓reduceIte, Nat.reduceEqDiff]
end Go.AM

/- convex: Area, Valid; searching rows of points. -/
namespace Go.AM
open Go Go.RowKit

def fiQ (p : Pt → Bool) (O : List Pt) : Nat → Nat → Int
  | 0, _ => -1
  | j + 1, i => if p (O.getD i default) then (i : Int) else fiQ p O j (i + 1)
theorem fiQ_any (p : Pt → Bool) (O : List Pt) : ∀ j i : Nat, i + j = O.length → (decide (fiQ p O j i ≥ 0) = (O.drop i).any p)
  | 0, i, h => by rw [List.drop_eq_nil_of_le (by omega)]; rfl
  | j + 1, i, h => by
    have hi : i < O.length := by omega
    rw [drop_getD hi, List.any_cons, fiQ]
    cases hp : p (O.getD i default) with
    | true => simp
    | false => simp only [Bool.false_eq_true, if_false, Bool.false_or]; exact fiQ_any p O j (i + 1) (by omega)

def arN (l : List Pt) : Nat → Int
  | 0 => 0
  | i + 1 => arN l i + crI (l.getD 0 default) (l.getD i default) (nxP l i)
theorem crI_b {a b c : Pt} (ha : SmP a) (hb : SmP b) (hc : SmP c) : -80000000000000000 ≤ crI a b c ∧ crI a b c ≤ 80000000000000000 := by
  obtain ⟨h1, h2⟩ := ha
  obtain ⟨h3, h4⟩ := hb
  obtain ⟨h5, h6⟩ := hc
  simp only [Sm] at h1 h2 h3 h4 h5 h6
  have bb : ∀ u v : Int, -200000000 ≤ u ∧ u ≤ 200000000 → -200000000 ≤ v ∧ v ≤ 200000000 → -40000000000000000 ≤ u * v ∧ u * v ≤ 40000000000000000 := by
    intro u v hu hv
    have h1 : (u * v).natAbs ≤ 200000000 * 200000000 := by
      rw [Int.natAbs_mul]
      exact Nat.mul_le_mul (by omega) (by omega)
    omega
  have m1 := bb (b.1 - a.1) (c.2 - a.2) (by omega) (by omega)
  have m2 := bb (b.2 - a.2) (c.1 - a.1) (by omega) (by omega)
  unfold crI
  omega
theorem nxP_sm {l : List Pt} (hl : ∀ p ∈ l, SmP p) (i : Nat) : SmP (nxP l i) := by unfold nxP; split <;> exact getD_all hl smP0 _
theorem arN_b {l : List Pt} (hl : ∀ p ∈ l, SmP p) : ∀ i : Nat, -80000000000000000 * (i : Int) ≤ arN l i ∧ arN l i ≤ 80000000000000000 * (i : Int)
  | 0 => by simp [arN]
  | i + 1 => by
    have ih := arN_b hl i
    have := crI_b (getD_all hl smP0 0) (getD_all hl smP0 i) (nxP_sm hl i)
    rw [arN]
    omega
/-- Each other corner is on the left. -/
def cvB (l : List Pt) : Bool := (List.range l.length).all fun i => (List.range l.length).all fun k => k == i || k == (i + 1) % l.length || decide (0 < crI (l.getD i default) (nxP l i) (l.getD k default))
theorem cvB_at {l : List Pt} (h : cvB l = true) {i k : Nat} (hi : i < l.length) (hk : k < l.length) (h1 : k ≠ i) (h2 : k ≠ (i + 1) % l.length) : 0 < crI (l.getD i default) (nxP l i) (l.getD k default) := by
  unfold cvB at h
  rw [List.all_eq_true] at h
  have h3 := h i (List.mem_range.2 hi)
  rw [List.all_eq_true] at h3
  have h4 := h3 k (List.mem_range.2 hk)
  simp only [Bool.or_eq_true, beq_iff_eq, decide_eq_true_eq] at h4
  rcases h4 with (h4 | h4) | h4
  · exact absurd h4 h1
  · exact absurd h4 h2
  · exact h4
structure Lim (l : List Pt) : Prop where
  cv : cvB l = true
  lo : 3 ≤ l.length
  hi : l.length ≤ 8
  bd : ∀ p ∈ l, (-1048576 ≤ p.1 ∧ p.1 ≤ 1048576) ∧ (-1048576 ≤ p.2 ∧ p.2 ≤ 1048576)
def ar_st (d : D) (s n i : Int) : St := mkS [(0, .d d), (3, ai s), (6, ai n), (7, ai i)] []
def ar_en (s : Int) : St := mkS [(3, ai s)] []
def vl0_st (d : D) (i n j m k : Int) : St := mkS [(0, .d d), (4, ai i), (20, ai n), (21, ai j), (38, ai m), (39, ai k)] []
def vl0_en (d : D) (n j : Int) : St := mkS [(0, .d d), (20, ai n), (21, ai j)] []
def vl1_st (d : D) (n j : Int) : St := mkS [(0, .d d), (20, ai n), (21, ai j)] []
variable [Its]
/-! ### Searching -/
section
variable {d : D} {O : List Pt} {f : Nat} {caps : List D} {p : Pt → Bool}
def ixQ_st (d : D) (f : Nat) (caps : List D) (n i : Int) : St := mkS [(0, .d d), (1, .d (.fn f caps)), (7, ai n), (8, ai i)] []
theorem ixQ_no (hr : RwE cP d O) (hn : O.length ≤ 1000000) {i : Nat} (hi : i < O.length) (hf : callX G f (encP (O.getD i default) :: caps) = some (.d (bv false))) : X G slices_IndexFunc_api_Point_api_Point_l0 (ixQ_st d f caps O.length i) = some (.n, ixQ_st d f caps O.length ((i + 1 : Nat) : Int)) := by
  have e1 : decide ((i : Int) < (O.length : Int)) = true := lt_t (by omega)
  have e2 : w64 ((i : Int) + 1) = ((i + 1 : Nat) : Int) := by rw [w64_id (by omega) (by omega)]; rfl
  have x1 := hr.ixa cP_len hi
  have x2 := fun hp => ldE cP_len hp hi
  generalize O.getD i default = e at *
  obtain ⟨a, b⟩ := e
  simp only [encP, cP, iv, bv] at hf x2
  simp -implicitDefEqProofs (maxSteps := 10000000) only [slices_IndexFunc_api_Point_api_Point_l0, ixQ_st, x1, x2, e1, e2, hf, List.cons_append, List.nil_append, go_sem, iv, bv, reduceCtorEq, ↓reduceIte, Nat.reduceEqDiff]
theorem ixQ_yes (hr : RwE cP d O) (hn : O.length ≤ 1000000) {i : Nat} (hi : i < O.length) (hf : callX G f (encP (O.getD i default) :: caps) = some (.d (bv true))) : X G slices_IndexFunc_api_Point_api_Point_l0 (ixQ_st d f caps O.length i) = some (.r, mkS [(4, ai i)] []) := by
  have e1 : decide ((i : Int) < (O.length : Int)) = true := lt_t (by omega)
  have x1 := hr.ixa cP_len hi
  have x2 := fun hp => ldE cP_len hp hi
  generalize O.getD i default = e at *
  obtain ⟨a, b⟩ := e
  simp only [encP, cP, iv, bv] at hf x2
  simp -implicitDefEqProofs (maxSteps := 10000000) only [slices_IndexFunc_api_Point_api_Point_l0, ixQ_st, x1, x2, e1, hf, List.cons_append, List.nil_append, go_sem, iv, bv, reduceCtorEq, ↓reduceIte, Nat.reduceEqDiff]
theorem ixQ_stop : X G slices_IndexFunc_api_Point_api_Point_l0 (ixQ_st d f caps O.length O.length) = some (.x 0, mkS [] []) := by
  have e1 : decide ((O.length : Int) < (O.length : Int)) = false := lt_f (by omega)
  simp -implicitDefEqProofs (maxSteps := 10000000) only [slices_IndexFunc_api_Point_api_Point_l0, ixQ_st, e1, go_sem, iv, bv, reduceCtorEq, ↓reduceIte, Nat.reduceEqDiff]
/-- The place of the first that has it, from i on; -1 if none has. -/
theorem ixQ_loop (hr : RwE cP d O) (hn : O.length ≤ 1000000) (hf : ∀ i, i < O.length → callX G f (encP (O.getD i default) :: caps) = some (.d (bv (p (O.getD i default))))) : ∀ j i : Nat, i + j = O.length →
    X G (.loop slices_IndexFunc_api_Point_api_Point_l0) (ixQ_st d f caps O.length i) = (if fiQ p O j i = -1 then some (.x 0, mkS [] []) else some (.r, mkS [(4, ai (fiQ p O j i))] []))
  | 0, i, h => by
    have : i = O.length := by omega
    subst this
    rw [X_loop, ixQ_stop]; rfl
  | j + 1, i, h => by
    have hi : i < O.length := by omega
    have hh := hf i hi
    rw [fiQ]
    cases hp : p (O.getD i default) with
    | true =>
      rw [hp] at hh
      rw [X_loop, ixQ_yes hr hn hi hh, if_pos rfl, if_neg (by omega)]; rfl
    | false =>
      rw [hp] at hh
      simp only [Bool.false_eq_true, if_false]
      rw [X_loop, ixQ_no hr hn hi hh, Option.bind_some, if_pos rfl]
      exact ixQ_loop hr hn hf j (i + 1) (by omega)
theorem IndexQ_spec (hr : RwE cP d O) (hn : O.length ≤ 1000000) (hf : ∀ i, i < O.length → callX G f (encP (O.getD i default) :: caps) = some (.d (bv (p (O.getD i default))))) : callX G n_slices_IndexFunc_api_Point_api_Point [d, .fn f caps] = some (.d (iv (fiQ p O O.length 0))) := by
  rw [callX_eq (cf := slices_IndexFunc_api_Point_api_Point) rfl]
  have ll := hr.len
  have h := ixQ_loop hr hn hf O.length 0 (by omega)
  simp only [ixQ_st, go_sem, nc0] at h
  generalize fiQ p O O.length 0 = z at *
  by_cases hz : z = -1
  · subst hz
    simp only [if_true] at h
    simp -implicitDefEqProofs (maxSteps := 10000000) only [slices_IndexFunc_api_Point_api_Point, h, ll, go_sem, iv, bv, reduceCtorEq, ↓reduceIte, Nat.reduceEqDiff]
  · rw [if_neg hz] at h
    simp -implicitDefEqProofs (maxSteps := 10000000) only [slices_IndexFunc_api_Point_api_Point, h, ll, go_sem, iv, bv, reduceCtorEq, ↓reduceIte, Nat.reduceEqDiff]
end
theorem ContQ_spec {d : D} {O : List Pt} {f : Nat} {caps : List D} {p : Pt → Bool} (hr : RwE cP d O) (hn : O.length ≤ 1000000) (hf : ∀ i, i < O.length → callX G f (encP (O.getD i default) :: caps) = some (.d (bv (p (O.getD i default))))) : callX G n_slices_ContainsFunc_api_Point_api_Point [d, .fn f caps] = some (.d (bv (O.any p))) := by
  rw [callX_eq (cf := slices_ContainsFunc_api_Point_api_Point) rfl]
  have g := IndexQ_spec hr hn hf
  have e1 := fiQ_any p O O.length 0 (by omega)
  rw [List.drop_zero] at e1
  generalize fiQ p O O.length 0 = z at *
  generalize O.any p = t at *
  simp only [iv] at g
  simp -implicitDefEqProofs (maxSteps := 10000000) only [slices_ContainsFunc_api_Point_api_Point, g, e1, go_sem, iv, bv, reduceCtorEq, ↓reduceIte, Nat.reduceEqDiff]

theorem ar_go {d : D} {l : List Pt} (hr : RwE cP d l) (hl : ∀ p ∈ l, SmP p) (hn : l.length ≤ 10) {i : Nat} (hi : i < l.length) : X G convex_Area_l0 (ar_st d (arN l i) l.length i) = some (.n, ar_st d (arN l (i + 1)) l.length ((i + 1 : Nat) : Int)) := by
  have e1 : decide ((i : Int) < (l.length : Int)) = true := lt_t (by omega)
  have e2 : w64 ((i : Int) + 1) = ((i + 1 : Nat) : Int) := by rw [w64_id (by omega) (by omega)]; rfl
  have x1 := hr.ixa cP_len hi
  have x2 := fun hp => ldE cP_len hp hi
  have x3 := hr.ixa (j := 0) cP_len (by omega)
  have x4 := fun hp => ldE (j := 0) (l := l) cP_len hp (by omega)
  have g1 := cnext_spec hr hi (by omega)
  have g2 := cross_spec (getD_all hl smP0 0) (getD_all hl smP0 i) (nxP_sm hl i)
  have b1 := arN_b hl i
  have b2 := crI_b (getD_all hl smP0 0) (getD_all hl smP0 i) (nxP_sm hl i)
  rw [arN]
  obtain ⟨z, hz⟩ : ∃ z, arN l i + crI (l.getD 0 default) (l.getD i default) (nxP l i) = z := ⟨_, rfl⟩
  have e3 : w64 (arN l i + crI (l.getD 0 default) (l.getD i default) (nxP l i)) = z := by rw [w64_id (by omega) (by omega), hz]
  rw [hz]
  generalize crI (l.getD 0 default) (l.getD i default) (nxP l i) = c at *
  generalize arN l i = s at *
  generalize nxP l i = q1 at *
  generalize l.getD i default = q2 at *
  generalize l.getD 0 default = q3 at *
  obtain ⟨a1, a2⟩ := q1
  obtain ⟨b1, b2⟩ := q2
  obtain ⟨c1, c2⟩ := q3
  simp only [nc0, List.drop_zero] at x3 x4
  simp only [encP, cP, iv] at x2 x4 g1 g2
  simp -implicitDefEqProofs (maxSteps := 10000000) only [convex_Area_l0, ar_st, x1, x2, x3, x4, g1, g2, e1, e2, e3, go_sem, iv, bv, reduceCtorEq, ↓reduceIte, Nat.reduceEqDiff]
theorem ar_stop {d : D} {l : List Pt} {s : Int} : X G convex_Area_l0 (ar_st d s l.length l.length) = some (.x 0, ar_en s) := by
  have e1 : decide ((l.length : Int) < (l.length : Int)) = false := lt_f (by omega)
  simp -implicitDefEqProofs (maxSteps := 10000000) only [convex_Area_l0, ar_st, ar_en, e1, go_sem, iv, bv, reduceCtorEq, ↓reduceIte, Nat.reduceEqDiff]
theorem ar_loop {d : D} {l : List Pt} (hr : RwE cP d l) (hl : ∀ p ∈ l, SmP p) (hn : l.length ≤ 10) : ∀ (j i : Nat), i + j = l.length → X G (.loop convex_Area_l0) (ar_st d (arN l i) l.length i) = some (.x 0, ar_en (arN l l.length))
  | 0, i, h => by
    have : i = l.length := by omega
    subst this
    rw [X_loop, ar_stop]; rfl
  | j + 1, i, h => by
    rw [X_loop, ar_go hr hl hn (by omega), Option.bind_some, if_pos rfl]
    exact ar_loop hr hl hn j (i + 1) (by omega)
theorem cArea_spec {d : D} {l : List Pt} (hr : RwE cP d l) (hl : ∀ p ∈ l, SmP p) (hn : l.length ≤ 10) : callX G n_convex_Area [d] = some (.d (iv (arN l l.length))) := by
  rw [callX_eq (cf := convex_Area) rfl]
  have ll := hr.len
  have g := ar_loop hr hl hn l.length 0 (by omega)
  have e0 : arN l 0 = 0 := rfl
  rw [e0] at g
  generalize arN l l.length = z at *
  simp only [ar_st, ar_en, nc0, go_sem] at g
  simp -implicitDefEqProofs (maxSteps := 10000000) only [convex_Area, g, ll, go_sem, iv, bv, reduceCtorEq, ↓reduceIte, Nat.reduceEqDiff]
theorem V1p_spec {p : Pt} (hb : (-1048576 ≤ p.1 ∧ p.1 ≤ 1048576) ∧ (-1048576 ≤ p.2 ∧ p.2 ≤ 1048576)) : callX G n_convex_Valid_1 [encP p] = some (.d (bv false)) := by
  rw [callX_eq (cf := convex_Valid_1) rfl]
  obtain ⟨x, y⟩ := p
  dsimp only at hb
  obtain ⟨u, hu⟩ : ∃ u, (if y < x then y else x) = u := ⟨_, rfl⟩
  obtain ⟨v, hv⟩ : ∃ u, (if y > x then y else x) = u := ⟨_, rfl⟩
  have b1 : -1048576 ≤ u := by rw [← hu]; split <;> omega
  have b2 : v ≤ 1048576 := by rw [← hv]; split <;> omega
  have e1 : decide (u < -1048576) = false := lt_f (by omega)
  have e2 : decide (v > 1048576) = false := gt_f (by omega)
  simp -implicitDefEqProofs (maxSteps := 10000000) only [convex_Valid_1, encP, cP, foldV, mnV, mxV, ld2_0, ld2_1, hu, hv, e1, e2, go_sem, iv, bv, reduceCtorEq, ↓reduceIte, Nat.reduceEqDiff]
theorem vl0_go {d : D} {l : List Pt} (hr : RwE cP d l) (hg : GdS l) (hL : Lim l) {i k : Nat} (hi : i < l.length) (hk : k < l.length) : X G convex_Valid_l0 (vl0_st d i l.length i l.length k) = some (.n, vl0_st d i l.length i l.length ((k + 1 : Nat) : Int)) := by
  have h8 := hL.hi
  have e1 : decide ((k : Int) < (l.length : Int)) = true := lt_t (by omega)
  have e2 : w64 ((k : Int) + 1) = ((k + 1 : Nat) : Int) := by rw [w64_id (by omega) (by omega)]; rfl
  have e3 : w64 ((i : Int) + 1) = ((i + 1 : Nat) : Int) := by rw [w64_id (by omega) (by omega)]; rfl
  have e4 := eqz_f (b := (l.length : Int)) (by omega)
  have e5 : (((i + 1 : Nat) : Int)).tmod (l.length : Int) = (((i + 1) % l.length : Nat) : Int) := by rw [rem_pos (by omega)]; omega
  have x1 := hr.ixa cP_len hi
  have x2 := fun hp => ldE cP_len hp hi
  have x3 := hr.ixa cP_len hk
  have x4 := fun hp => ldE cP_len hp hk
  have ll := hr.len
  have g1 := cnext_spec hr hi (by omega)
  have g2 := cross_spec (getD_all hg.sm smP0 i) (nxP_sm hg.sm i) (getD_all hg.sm smP0 k)
  have hpos : k ≠ i → k ≠ (i + 1) % l.length → 0 < crI (l.getD i default) (nxP l i) (l.getD k default) := cvB_at hL.cv hi hk
  generalize crI (l.getD i default) (nxP l i) (l.getD k default) = c at *
  generalize nxP l i = q1 at *
  generalize l.getD i default = q2 at *
  generalize l.getD k default = q3 at *
  obtain ⟨a1, a2⟩ := q1
  obtain ⟨b1, b2⟩ := q2
  obtain ⟨c1, c2⟩ := q3
  simp only [encP, cP, iv] at x2 x4 g1 g2
  by_cases h1 : k = i
  · have t1 : ((k : Int) != (i : Int)) = false := bne_f (by omega)
    simp -implicitDefEqProofs (maxSteps := 10000000) only [convex_Valid_l0, vl0_st, t1, ll, e1, e2, e3, e4, e5, go_sem, iv, bv, reduceCtorEq, ↓reduceIte, Nat.reduceEqDiff]
  · have t1 : ((k : Int) != (i : Int)) = true := bne_t (by omega)
    by_cases h2 : k = (i + 1) % l.length
    · have t2 : ((k : Int) != (((i + 1) % l.length : Nat) : Int)) = false := bne_f (by omega)
      simp -implicitDefEqProofs (maxSteps := 10000000) only [convex_Valid_l0, vl0_st, t1, t2, ll, e1, e2, e3, e4, e5, go_sem, iv, bv, reduceCtorEq, ↓reduceIte, Nat.reduceEqDiff]
    · have t2 : ((k : Int) != (((i + 1) % l.length : Nat) : Int)) = true := bne_t (by omega)
      have t3 : decide (c ≤ 0) = false := le_f (by have := hpos h1 h2; omega)
      simp -implicitDefEqProofs (maxSteps := 10000000) only [convex_Valid_l0, vl0_st, t1, t2, t3, ll, e1, e2, e3, e4, e5, x1, x2, x3, x4, g1, g2, go_sem, iv, bv, reduceCtorEq, ↓reduceIte, Nat.reduceEqDiff]
theorem vl0_stop {d : D} {n i : Int} {m : Nat} : X G convex_Valid_l0 (vl0_st d i n i m m) = some (.x 2, vl0_en d n i) := by
  have e1 : decide ((m : Int) < (m : Int)) = false := lt_f (by omega)
  simp -implicitDefEqProofs (maxSteps := 10000000) only [convex_Valid_l0, vl0_st, vl0_en, e1, go_sem, iv, bv, reduceCtorEq, ↓reduceIte, Nat.reduceEqDiff]
theorem vl0_loop {d : D} {l : List Pt} (hr : RwE cP d l) (hg : GdS l) (hL : Lim l) {i : Nat} (hi : i < l.length) : ∀ (j k : Nat), k + j = l.length → X G (.loop convex_Valid_l0) (vl0_st d i l.length i l.length k) = some (.x 2, vl0_en d l.length i)
  | 0, k, h => by
    have : k = l.length := by omega
    subst this
    rw [X_loop, vl0_stop]; rfl
  | j + 1, k, h => by
    rw [X_loop, vl0_go hr hg hL hi (by omega), Option.bind_some, if_pos rfl]
    exact vl0_loop hr hg hL hi j (k + 1) (by omega)
theorem vl1_go {d : D} {l : List Pt} (hr : RwE cP d l) (hg : GdS l) (hL : Lim l) {i : Nat} (hi : i < l.length) : X G convex_Valid_l1 (vl1_st d l.length i) = some (.n, vl1_st d l.length ((i + 1 : Nat) : Int)) := by
  have h8 := hL.hi
  have e1 : decide ((i : Int) < (l.length : Int)) = true := lt_t (by omega)
  have e2 : w64 ((i : Int) + 1) = ((i + 1 : Nat) : Int) := by rw [w64_id (by omega) (by omega)]; rfl
  have x1 := hr.ixa cP_len hi
  have x2 := fun hp => ldE cP_len hp hi
  have ll := hr.len
  have g1 := cnext_spec hr hi (by omega)
  have g2 := cNorm_spec (h := sdh l i) (getD_all hg.sm smP0 i) (nxP_sm hg.sm i) (hg.sq i hi).1 (hg.sq i hi).2
  have gl := vl0_loop hr hg hL hi l.length 0 (by omega)
  generalize nrP ((nxP l i).1 - (l.getD i default).1) ((nxP l i).2 - (l.getD i default).2) (sdh l i) = v at *
  generalize nxP l i = q1 at *
  generalize l.getD i default = q2 at *
  obtain ⟨a1, a2⟩ := q1
  obtain ⟨b1, b2⟩ := q2
  obtain ⟨v1, v2, v3⟩ := v
  simp only [encP, cP, encD, cD, iv, bv] at x2 g1 g2
  simp only [vl0_st, vl0_en, nc0, go_sem] at gl
  simp -implicitDefEqProofs (maxSteps := 10000000) only [convex_Valid_l1, vl1_st, gl, ll, e1, e2, x1, x2, g1, g2, box3s, Bool.not_true, go_sem, iv, bv, reduceCtorEq, ↓reduceIte, Nat.reduceEqDiff]
theorem vl1_stop {d : D} {m : Nat} : X G convex_Valid_l1 (vl1_st d m m) = some (.x 0, mkS [] []) := by
  have e1 : decide ((m : Int) < (m : Int)) = false := lt_f (by omega)
  simp -implicitDefEqProofs (maxSteps := 10000000) only [convex_Valid_l1, vl1_st, e1, go_sem, iv, bv, reduceCtorEq, ↓reduceIte, Nat.reduceEqDiff]
theorem vl1_loop {d : D} {l : List Pt} (hr : RwE cP d l) (hg : GdS l) (hL : Lim l) : ∀ (j i : Nat), i + j = l.length → X G (.loop convex_Valid_l1) (vl1_st d l.length i) = some (.x 0, mkS [] [])
  | 0, i, h => by
    have : i = l.length := by omega
    subst this
    rw [X_loop, vl1_stop]; rfl
  | j + 1, i, h => by
    rw [X_loop, vl1_go hr hg hL (by omega), Option.bind_some, if_pos rfl]
    exact vl1_loop hr hg hL j (i + 1) (by omega)
theorem cValid_spec {d : D} {l : List Pt} (hr : RwE cP d l) (hg : GdS l) (hL : Lim l) : callX G n_convex_Valid [d] = some (.d (bv true)) := by
  have hc := ContQ_spec (f := n_convex_Valid_1) (caps := []) (p := fun _ => false) hr (by have := hL.hi; omega) (fun i hi => V1p_spec (hL.bd _ (by rw [List.getD_eq_getElem?_getD, List.getElem?_eq_getElem hi]; exact List.getElem_mem hi)))
  rw [show l.any (fun _ => false) = false by simp] at hc
  rw [callX_eq (cf := convex_Valid) rfl]
  have h3 := hL.lo
  have h8 := hL.hi
  have ll := hr.len
  have e1 : decide ((l.length : Int) < 3) = false := lt_f (by omega)
  have e2 : decide ((l.length : Int) > 8) = false := gt_f (by omega)
  have g := vl1_loop hr hg hL l.length 0 (by omega)
  simp only [vl1_st, nc0, go_sem] at g
  simp only [bv] at hc
  simp -implicitDefEqProofs (maxSteps := 10000000) only [convex_Valid, g, hc, ll, e1, e2, go_sem, iv, bv, reduceCtorEq, ↓reduceIte, Nat.reduceEqDiff]
theorem cValid_two {d : D} {l : List Pt} (hr : RwE cP d l) (h : l.length = 2) : callX G n_convex_Valid [d] = some (.d (bv false)) := by
  rw [callX_eq (cf := convex_Valid) rfl]
  have ll := hr.len
  have e1 : decide ((l.length : Int) < 3) = true := lt_t (by omega)
  simp -implicitDefEqProofs (maxSteps := 10000000) only [convex_Valid, ll, e1, go_sem, iv, bv, reduceCtorEq, ↓reduceIte, Nat.reduceEqDiff]
end Go.AM

/- Rows of edges: their directions, each once; the same after moving and exchanging; limits of the shapes. -/
namespace Go.AM
open Go Go.RowKit

def uqD (ds : List Dr) : Nat → List Dr
  | 0 => []
  | i + 1 => if frI ds i i then uqD ds i ++ [ds.getD i default] else uqD ds i
def uqS (a b : List Pt) : List Dr := uqD (drs a b) (drs a b).length
/-- Three sides with three directions. -/
def thr (l : List Pt) : Bool := decide (3 ≤ l.length) && !(eqDr (sdN l 0) (sdN l 1)) && !(eqDr (sdN l 0) (sdN l 2)) && !(eqDr (sdN l 1) (sdN l 2))
/-! The base shapes -/
def chkL (l : List Pt) : Bool := cvB l && thr l && decide (l.length ≤ 8) && l.all fun p => decide (-1000 ≤ p.1 ∧ p.1 ≤ 1000) && decide (-1000 ≤ p.2 ∧ p.2 ≤ 1000)
theorem chkL_all : ((List.range 7).all fun c => (List.range 3).all fun k => (List.range 6).all fun m => chkL (spB (c : Int) (1 + (k : Int)) (1 + (m : Int)))) = true := by kernel_rfl
theorem spB_chkL {c k m : Int} (hc : 0 ≤ c ∧ c < 7) (hk : 1 ≤ k ∧ k < 4) (hm : 1 ≤ m ∧ m < 7) : chkL (spB c k m) = true := by
  have h := chkL_all
  rw [List.all_eq_true] at h
  have h1 := h c.toNat (List.mem_range.2 (by omega))
  rw [List.all_eq_true] at h1
  have h2 := h1 (k - 1).toNat (List.mem_range.2 (by omega))
  rw [List.all_eq_true] at h2
  have h3 := h2 (m - 1).toNat (List.mem_range.2 (by omega))
  rwa [show ((c.toNat : Nat) : Int) = c by omega, show 1 + (((k - 1).toNat : Nat) : Int) = k by omega, show 1 + (((m - 1).toNat : Nat) : Int) = m by omega] at h3
theorem crI_mv (x y : Int) (a b c : Pt) : crI (mvP x y a) (mvP x y b) (mvP x y c) = crI a b c := by
  unfold crI mvP
  dsimp only
  rw [show b.1 + x - (a.1 + x) = b.1 - a.1 by omega, show c.2 + y - (a.2 + y) = c.2 - a.2 by omega, show b.2 + y - (a.2 + y) = b.2 - a.2 by omega, show c.1 + x - (a.1 + x) = c.1 - a.1 by omega]
theorem cvB_mv (x y : Int) (l : List Pt) : cvB (l.map (mvP x y)) = cvB l := by
  unfold cvB
  rw [List.length_map, Bool.eq_iff_iff, List.all_eq_true, List.all_eq_true]
  constructor <;> intro h i hi
  all_goals
    have h1 := h i hi
    rw [List.all_eq_true] at *
    intro k hk
    have h2 := h1 k hk
    rw [mv_getD _ _ (List.mem_range.1 hi), mv_nx _ _ (List.mem_range.1 hi), mv_getD _ _ (List.mem_range.1 hk), crI_mv] at *
    exact h2
theorem thr_mv (x y : Int) (l : List Pt) : thr l = true → thr (l.map (mvP x y)) = true := by
  intro h
  unfold thr at *
  rw [List.length_map]
  have h0 : 3 ≤ l.length := by
    simp only [Bool.and_eq_true, decide_eq_true_eq] at h
    exact h.1.1.1
  rw [mv_sdN _ _ (by omega), mv_sdN _ _ (by omega), mv_sdN _ _ (by omega)]
  exact h
theorem lim_mv {c k m x y : Int} (hc : 0 ≤ c ∧ c < 7) (hk : 1 ≤ k ∧ k < 4) (hm : 1 ≤ m ∧ m < 7) (hx : -1000000 ≤ x ∧ x ≤ 1000000) (hy : -1000000 ≤ y ∧ y ≤ 1000000) : Lim ((spB c k m).map (mvP x y)) ∧ thr ((spB c k m).map (mvP x y)) = true := by
  have h := spB_chkL hc hk hm
  unfold chkL at h
  simp only [Bool.and_eq_true, decide_eq_true_eq] at h
  obtain ⟨⟨⟨h1, h2⟩, h3⟩, h4⟩ := h
  have h0 : 3 ≤ (spB c k m).length := by
    unfold thr at h2
    simp only [Bool.and_eq_true, decide_eq_true_eq] at h2
    exact h2.1.1.1
  refine ⟨⟨by rw [cvB_mv]; exact h1, by rw [List.length_map]; exact h0, by rw [List.length_map]; exact h3, ?_⟩, thr_mv _ _ _ h2⟩
  intro p hp
  obtain ⟨q, hq, rfl⟩ := List.mem_map.1 hp
  have := List.all_eq_true.1 h4 q hq
  simp only [Bool.and_eq_true, decide_eq_true_eq] at this
  unfold mvP
  dsimp only
  omega
theorem lim_sh (l : List Int) : Lim (spP l) ∧ thr (spP l) = true := by
  obtain ⟨h1, h2, h3, h4, h5⟩ := sh_b l
  exact lim_mv h1 h2 h3 ⟨by omega, by omega⟩ ⟨by omega, by omega⟩
/-! Moved -/
theorem moP_mv (d : Dr) (x y : Int) {l : List Pt} (h0 : 0 < l.length) : moP d (l.map (mvP x y)) = moP d l + (d.1 * x + d.2.1 * y) := by
  have hd : ∀ i, i < l.length → dotI d ((l.map (mvP x y)).getD i default) = dotI d (l.getD i default) + (d.1 * x + d.2.1 * y) := by
    intro i hi
    rw [mv_getD _ _ hi]
    unfold dotI mvP
    dsimp only
    rw [Int.mul_add, Int.mul_add]
    omega
  have hm : ∀ i, i ≤ l.length → mstN d (l.map (mvP x y)) i = mstN d l i + (d.1 * x + d.2.1 * y) := by
    intro i
    induction i with
    | zero => intro _; exact hd 0 h0
    | succ i ih =>
      intro hi
      have h1 := ih (by omega)
      have h2 := hd i (by omega)
      rw [mstN, mstN, h1, h2]
      omega
  unfold moP
  rw [List.length_map]
  exact hm _ (Nat.le_refl _)
theorem drA_mv (x y : Int) (l : List Pt) (n : Nat) (hn : n ≤ l.length) : drA (l.map (mvP x y)) n = drA l n := by
  unfold drA
  refine List.map_congr_left fun i hi => ?_
  rw [List.mem_range] at hi
  exact mv_sdN _ _ (by omega)
theorem drB_mv (x y : Int) (l : List Pt) (n : Nat) (hn : n ≤ l.length) : drB (l.map (mvP x y)) n = drB l n := by
  unfold drB
  refine List.map_congr_left fun i hi => ?_
  rw [List.mem_range] at hi
  rw [mv_sdN _ _ (by omega)]
theorem drs_mv (x y u v : Int) (a b : List Pt) : drs (a.map (mvP x y)) (b.map (mvP u v)) = drs a b := by
  unfold drs
  rw [List.length_map, List.length_map, drA_mv _ _ _ _ (Nat.le_refl _), drB_mv _ _ _ _ (Nat.le_refl _)]
def mvE (x y u v : Int) (e : Eg) : Eg := (e.1, e.2 + e.1.1 * (x - u) + e.1.2.1 * (y - v))
end Go.AM

/- law12.lives. -/
namespace Go.AM
open Go Go.RowKit
def sqL : List Pt := [(0, 0), (2, 0), (2, 2), (0, 2)]
def trL : List Pt := [(0, 0), (4, 0), (0, 3)]
theorem chk_gd {l : List Pt} (h0 : 0 < l.length) (h1 : l.length ≤ 10) (hs : ∀ p ∈ l, SmP p) (h : chkS l = true) : GdS l := by
  unfold chkS at h
  rw [List.all_eq_true] at h
  refine ⟨h0, h1, hs, fun i hi => ?_, fun i hi => ?_⟩
  all_goals
    have h1 := h i (List.mem_range.2 hi)
    simp only [Bool.and_eq_true, decide_eq_true_eq] at h1
    obtain ⟨⟨⟨⟨⟨⟨⟨h1, h2⟩, h3⟩, h4⟩, h5⟩, h6⟩, h7⟩, h8⟩ := h1
  · exact ⟨h1, h2⟩
  · exact ⟨⟨h3, h4⟩, ⟨h5, h6⟩, ⟨h7, h8⟩⟩
theorem sq_gd : GdS sqL := chk_gd (by decide) (by decide) (by
  intro p hp
  unfold sqL at hp
  simp only [List.mem_cons, List.not_mem_nil, or_false] at hp
  rcases hp with rfl | rfl | rfl | rfl <;> exact ⟨⟨by decide, by decide⟩, ⟨by decide, by decide⟩⟩) (by kernel_rfl)
theorem tr_gd : GdS trL := chk_gd (by decide) (by decide) (by
  intro p hp
  unfold trL at hp
  simp only [List.mem_cons, List.not_mem_nil, or_false] at hp
  rcases hp with rfl | rfl | rfl <;> exact ⟨⟨by decide, by decide⟩, ⟨by decide, by decide⟩⟩) (by kernel_rfl)
theorem tr_lim : Lim trL := ⟨by kernel_rfl, by decide, by decide, by
  intro p hp
  unfold trL at hp
  simp only [List.mem_cons, List.not_mem_nil, or_false] at hp
  rcases hp with rfl | rfl | rfl <;> decide⟩
theorem st8v (a b c d e f g h i j k l m n o p : A) : stcells 0 [a, b, c, d, e, f, g, h] [i, j, k, l, m, n, o, p] = some [a, b, c, d, e, f, g, h] := rfl
theorem ld8v (a b c d e f g h : D) : ldcells (some 8) 0 [.d a, .d b, .d c, .d d, .d e, .d f, .d g, .d h] = some (.d (.agg [a, b, c, d, e, f, g, h])) := rfl
theorem rep5_4 (a b c d : D) : rep 5 [a, b, c, d] = [a, b, c, d, a, b, c, d, a, b, c, d, a, b, c, d, a, b, c, d] := rfl
variable [Its]
theorem l1 : callX G n_convex_Norm [encP (4, 0), encP (0, 3)] = some (.d (.tup [encD (3, 4, 5), bv true])) := by
  have h := cNorm_spec (a := (4, 0)) (b := (0, 3)) (h := 5) ⟨⟨by decide, by decide⟩, ⟨by decide, by decide⟩⟩ ⟨⟨by decide, by decide⟩, ⟨by decide, by decide⟩⟩ (by decide) (by decide)
  rw [h]
  have e : nrP ((0, 3) : Pt).1 3 5 = nrP ((0, 3) : Pt).1 3 5 := rfl
  have e : nrP (((0, 3) : Pt).1 - ((4, 0) : Pt).1) (((0, 3) : Pt).2 - ((4, 0) : Pt).2) 5 = (3, 4, 5) := by kernel_rfl
  rw [e]
theorem l2 : callX G n_convex_Area [triD] = some (.d (iv 12)) := by
  have h := cArea_spec (d := triD) (l := trL) (.inr rfl) tr_gd.sm (by decide)
  rw [h]
  have e : arN trL trL.length = 12 := by kernel_rfl
  rw [e]
theorem l3 : callX G n_convex_Sides [sqD, triD] = some (.own 4 5 sidC) := by
  have h := cSides_spec (da := sqD) (db := triD) (a := sqL) (b := trL) (.inr rfl) (.inr rfl) sq_gd tr_gd
  rw [h]
  have e : sdP sqL trL = [((0, -1, 1), 3), ((1, 0, 1), 2), ((0, 1, 1), 2), ((-1, 0, 1), 4), ((-3, -4, 5), 12)] := by kernel_rfl
  rw [e]
  rfl
theorem l4 : callX G n_convex_Valid [triD] = some (.d (bv true)) := cValid_spec (l := trL) (.inr rfl) tr_gd tr_lim
theorem l5 : callX G n_convex_Valid [.row 2 [iv 0, iv 0, iv 2, iv 0]] = some (.d (bv false)) := cValid_two (l := [(0, 0), (2, 0)]) (.inr rfl) rfl
set_option maxHeartbeats 4000000 in
theorem lives12 : callX G n_gantrylaw12_lives [] = some (.d (bv true)) := by
  rw [callX_eq (cf := gantrylaw12_lives) rfl]
  have l1 := l1; have l2 := l2; have l3 := l3; have l4 := l4; have l5 := l5
  have p1 := lp1; have p2 := lp2; have p3 := lp3; have q1 := lq1; have q2 := lq2; have q3 := lq3; have q4 := lq4
  have x1 : ∀ h : Hp, ixaA h 2 1 (.d triD) = some (.d (.rp [iv 4, iv 0, iv 0, iv 3])) := fun _ => rfl
  have x2 : ∀ h : Hp, ixaA h 2 2 (.d triD) = some (.d (.rp [iv 0, iv 3])) := fun _ => rfl
  have x3 : ∀ h : Hp, loadA h (some 2) (.d (.rp [iv 4, iv 0, iv 0, iv 3])) = some (.d (.agg [iv 4, iv 0])) := fun _ => rfl
  have x4 : ∀ h : Hp, loadA h (some 2) (.d (.rp [iv 0, iv 3])) = some (.d (.agg [iv 0, iv 3])) := fun _ => rfl
  have c1 : ((0 : Int) ≤ 0 ∧ (0 : Int) ≤ 2 ∧ (2 : Int) ≤ ((4 : Nat) : Int)) = True := by simp
  simp only [encP, encD, cP, cD, sqD, triD, triD', sumC, sidC, n2, n32, List.cons_append, List.nil_append, iv, bv] at x1 x2 x3 x4 l1 l2 l3 l4 l5 p1 p2 p3 q1 q2 q3 q4
  simp -implicitDefEqProofs (maxSteps := 10000000) only [gantrylaw12_lives, l1, l2, l3, l4, l5, p1, p2, p3, q1, q2, q3, q4, x1, x2, x3, x4, rep4_2, rep3_2, rep5_2, rep5_4, fillB, partsB, ld3p, c1, if_true, Int.toNat_zero, Int.reduceToNat, Int.reduceSub, Nat.zero_mul, Nat.reduceMul, List.drop_zero, List.take_succ_cons, List.take_zero, oneI, eqD3, Bool.and_self, box3s, st8v, ld8v, Bool.not_true, Bool.not_false, beq_self_eq_true, List.map_cons, List.map_nil, go_sem, iv, bv, reduceCtorEq, ↓reduceIte, Nat.reduceEqDiff]
end Go.AM

/- Edges of a pair: bounds; their parts read out of a row. -/
namespace Go.AM
open Go Go.RowKit
end Go.AM

/- SameEdges; ref12.Area; both Box. -/
namespace Go.AM
open Go Go.RowKit
def se_st (d e : D) (i : Int) : St := mkS [(0, .d d), (1, .d e), (5, ai i)] []
def arQ (l : List Pt) : Nat → Int
  | 0 => 0
  | i + 1 => arQ l i + (l.getD i default).1 * (nxP l i).2 - (l.getD i default).2 * (nxP l i).1
def ra_st (d : D) (s i : Int) : St := mkS [(0, .d d), (3, ai s), (4, ai i)] []
def ptM (l : List Pt) (i : Nat) : Pt := if i < l.length then l.getD i default else l.getD 0 default
def mnI (a b : Int) : Int := if b < a then b else a
def mxI (a b : Int) : Int := if b > a then b else a
def bxL (l : List Pt) : Nat → Pt
  | 0 => l.getD 0 default
  | i + 1 => (mnI (bxL l i).1 (l.getD i default).1, mnI (bxL l i).2 (l.getD i default).2)
def bxH (l : List Pt) : Nat → Pt
  | 0 => l.getD 0 default
  | i + 1 => (mxI (bxH l i).1 (l.getD i default).1, mxI (bxH l i).2 (l.getD i default).2)
def bxP (x y : Int) : Obj := ⟨0, 0, [.d (iv x), .d (iv y)], false⟩
def cb_st (d : D) (a b e f n i : Int) : St := mkS [(2, .ptr [2] 0), (3, .ptr [3] 0), (4, .ptr [4] 0), (5, .ptr [5] 0), (14, .d d), (15, ai n), (16, ai i)] [([2], bxP 0 0), ([3], bxP 0 0), ([4], bxP a b), ([5], bxP e f)]
def cb_en (a b e f : Int) : St := mkS [(2, .ptr [2] 0), (3, .ptr [3] 0), (4, .ptr [4] 0), (5, .ptr [5] 0)] [([2], bxP 0 0), ([3], bxP 0 0), ([4], bxP a b), ([5], bxP e f)]
def bxr_st (d : D) (a b e f i : Int) : St := mkS [(0, .d d), (2, .ptr [2] 0), (3, .ptr [3] 0), (4, .ptr [4] 0), (5, .ptr [5] 0), (6, ai i)] [([2], bxP 0 0), ([3], bxP 0 0), ([4], bxP a b), ([5], bxP e f)]
variable [Its]
end Go.AM

/- Vectors of ch. 12; Has of both. Printed by mkcxv.py (out of CvD). -/
namespace Go.AM
open Go Go.RowKit
abbrev Vc := Rat × Rat
def encV (v : Vc) : D := .agg [.v (.bool (decide (v.1.num < 0))), dg (digs v.1.num.natAbs), .v (.bool false), dg (dd v.1.den), .v (.bool (decide (v.2.num < 0))), dg (digs v.2.num.natAbs), .v (.bool false), dg (dd v.2.den)]
def vcA (n : Int) : Int := arnd n 96 % 24 * 2 - 24 + arnd n 96 / 72
def vcB (n : Int) : Int := 2 + arnd n 96 / 48 % 2
def vcR (n : Int) : Rat := Rat.divInt (vcA n) (vcB n)
def dotR (d : Dr) (v : Vc) : Rat := (d.1 : Rat) * v.1 + (d.2.1 : Rat) * v.2
def SzV (K : Nat) (v : Vc) : Prop := sz v.1 ≤ K ∧ sz v.2 ≤ K
theorem SzV.mono {K L : Nat} {v : Vc} (h : SzV K v) (hk : K ≤ L) : SzV L v := ⟨Nat.le_trans h.1 hk, Nat.le_trans h.2 hk⟩
theorem NmD.i1 {d : Dr} (h : NmD d) : I64 d.1 := ⟨by have := h.1; omega, by have := h.1; omega⟩
theorem NmD.i2 {d : Dr} (h : NmD d) : I64 d.2.1 := ⟨by have := h.2.1; omega, by have := h.2.1; omega⟩
theorem NmD.i3 {d : Dr} (h : NmD d) : I64 d.2.2 := ⟨by have := h.2.2; omega, by have := h.2.2; omega⟩
theorem i64_1 : I64 1 := ⟨by omega, by omega⟩
theorem vc_b (n : Int) : (-24 ≤ vcA n ∧ vcA n ≤ 24) ∧ (2 ≤ vcB n ∧ vcB n ≤ 3) := by
  have h := arnd_b (n := n) (m := 96) (by omega)
  unfold vcA vcB
  omega
theorem vcR_sz (n : Int) : sz (vcR n) ≤ 3 := by
  have h := vc_b n
  exact sz_of ⟨by omega, by omega⟩ ⟨by omega, by omega⟩
theorem vcV_sz (x y : Int) : SzV 3 (vcR x, vcR y) := ⟨vcR_sz x, vcR_sz y⟩
theorem st8 (a b c d e f g h i j k l m n o p : A) : stcells 0 [a, b, c, d, e, f, g, h] [i, j, k, l, m, n, o, p] = some [a, b, c, d, e, f, g, h] := rfl
theorem ld8 (a b c d e f g h : D) : ldcells (some 8) 0 [.d a, .d b, .d c, .d d, .d e, .d f, .d g, .d h] = some (.d (.agg [a, b, c, d, e, f, g, h])) := rfl
theorem ld80 (a b c d e f g h : D) : ldcells (some 4) 0 [.d a, .d b, .d c, .d d, .d e, .d f, .d g, .d h] = some (.d (.agg [a, b, c, d])) := rfl
theorem ld84 (a b c d e f g h : D) : ldcells (some 4) 4 [.d a, .d b, .d c, .d d, .d e, .d f, .d g, .d h] = some (.d (.agg [e, f, g, h])) := rfl
theorem st4' (a b c d i j k l : A) : stcells 0 [a, b, c, d] [i, j, k, l] = some [a, b, c, d] := rfl
theorem ld4_4 (a b c d : D) : ldcells (some 4) 0 [.d a, .d b, .d c, .d d] = some (.d (.agg [a, b, c, d])) := rfl
def hsA (l : List Pt) (v : Vc) (i : Nat) : Rat := (((nxP l i).1 - (l.getD i default).1 : Int) : Rat) * (v.2 - (((l.getD i default).2 : Int) : Rat))
def hsB (l : List Pt) (v : Vc) (i : Nat) : Rat := (((nxP l i).2 - (l.getD i default).2 : Int) : Rat) * (v.1 - (((l.getD i default).1 : Int) : Rat))
def hsF (l : List Pt) (v : Vc) : Nat → Nat → Bool
  | 0, _ => true
  | j + 1, i => if decide (hsA l v i < hsB l v i) then false else hsF l v j (i + 1)
def hsP (l : List Pt) (v : Vc) : Bool := hsF l v l.length 0
def bxW (v : Vc) : Obj := ⟨0, 0, [.d (.v (.bool (decide (v.1.num < 0)))), .d (dg (digs v.1.num.natAbs)), .d (.v (.bool false)), .d (dg (dd v.1.den)), .d (.v (.bool (decide (v.2.num < 0)))), .d (dg (digs v.2.num.natAbs)), .d (.v (.bool false)), .d (dg (dd v.2.den))], false⟩
def hc_st (d : D) (v : Vc) (n i : Int) : St := mkS [(0, .d d), (3, .ptr [3] 0), (11, ai n), (12, ai i)] [([3], bxW v)]
def hr_st (d : D) (v : Vc) (i : Int) : St := mkS [(0, .d d), (3, .ptr [3] 0), (5, ai i)] [([3], bxW v)]
def hsO (t : Bool) : Option (Ex × St) := if t then some (.x 0, mkS [] []) else some (.r, mkS [(4, ab false)] [])
theorem sm_i64 {n : Int} (h : Sm n) : I64 n := ⟨by have := h; unfold Sm at this; omega, by have := h; unfold Sm at this; omega⟩
theorem sm_sub {a b : Int} (ha : Sm a) (hb : Sm b) : w64 (a - b) = a - b ∧ I64 (a - b) := by
  unfold Sm at *
  exact ⟨w64_id (by omega) (by omega), by omega, by omega⟩
variable [Its]
theorem Vec_spec {x y : Int} (hx : I64 x) (hy : I64 y) : callX G n_gantryref12_Vec [iv x, iv y] = some (.d (encV (vcR x, vcR y))) := by
  rw [callX_eq (cf := gantryref12_Vec) rfl]
  have g1 := around_spec (m := 96) hx (by omega)
  have g2 := around_spec (m := 96) hy (by omega)
  have bx := vc_b x
  have bz := vc_b y
  have g3 := rratOf_spec (n := vcA x) (d := vcB x) ⟨by omega, by omega⟩ ⟨by omega, by omega⟩
  have g4 := rratOf_spec (n := vcA y) (d := vcB y) ⟨by omega, by omega⟩ ⟨by omega, by omega⟩
  have e3 : Rat.divInt (vcA x) (vcB x) = vcR x := rfl
  have e4 : Rat.divInt (vcA y) (vcB y) = vcR y := rfl
  rw [e3] at g3
  rw [e4] at g4
  clear e3 e4
  generalize vcR x = rx at *
  generalize vcR y = ry at *
  have b1 := arnd_b (n := x) (m := 96) (by omega)
  have b2 := arnd_b (n := y) (m := 96) (by omega)
  unfold vcA vcB at *
  generalize arnd x 96 = u at *
  generalize arnd y 96 = v at *
  have tm : ∀ a : Int, 0 ≤ a → a.tmod 24 = a % 24 := fun a h => rem_pos h
  have t1 := rem_pos (a := u) (b := 24) b1.1
  have t2 := quo_pos (a := u) (b := 72) b1.1
  have t3 := quo_pos (a := u) (b := 48) b1.1
  have t4 := rem_pos (a := u / 48) (b := 2) (by omega)
  have s1 := rem_pos (a := v) (b := 24) b2.1
  have s2 := quo_pos (a := v) (b := 72) b2.1
  have s3 := quo_pos (a := v) (b := 48) b2.1
  have s4 := rem_pos (a := v / 48) (b := 2) (by omega)
  have f1 : w64 (u % 24 * 2) = u % 24 * 2 := w64_id (by omega) (by omega)
  have f2 : w64 (u % 24 * 2 - 24) = u % 24 * 2 - 24 := w64_id (by omega) (by omega)
  have f3 : w64 (u / 72) = u / 72 := w64_id (by omega) (by omega)
  have f4 : w64 (u % 24 * 2 - 24 + u / 72) = u % 24 * 2 - 24 + u / 72 := w64_id (by omega) (by omega)
  have f5 : w64 (u / 48) = u / 48 := w64_id (by omega) (by omega)
  have f6 : w64 (2 + u / 48 % 2) = 2 + u / 48 % 2 := w64_id (by omega) (by omega)
  have h1 : w64 (v % 24 * 2) = v % 24 * 2 := w64_id (by omega) (by omega)
  have h2 : w64 (v % 24 * 2 - 24) = v % 24 * 2 - 24 := w64_id (by omega) (by omega)
  have h3 : w64 (v / 72) = v / 72 := w64_id (by omega) (by omega)
  have h4 : w64 (v % 24 * 2 - 24 + v / 72) = v % 24 * 2 - 24 + v / 72 := w64_id (by omega) (by omega)
  have h5 : w64 (v / 48) = v / 48 := w64_id (by omega) (by omega)
  have h6 : w64 (2 + v / 48 % 2) = 2 + v / 48 % 2 := w64_id (by omega) (by omega)
  have z1 : ((24 : Int) = 0) = False := by simp
  have z2 : ((72 : Int) = 0) = False := by simp
  have z3 : ((48 : Int) = 0) = False := by simp
  have z4 : ((2 : Int) = 0) = False := by simp
  clear bx bz b1 b2
  simp only [encR, iv, bv] at g1 g2 g3 g4
  simp -implicitDefEqProofs (maxSteps := 10000000) only [gantryref12_Vec, encV, fillB, partsB, st8, ld8, dc_dg, g1, g2, g3, g4, t1, t2, t3, t4, s1, s2, s3, s4, f1, f2, f3, f4, f5, f6, h1, h2, h3, h4, h5, h6, z1, z2, z3, z4, cells_dg, one_dg', go_sem, iv, bv, reduceCtorEq, ↓reduceIte, Nat.reduceEqDiff]
section
variable {d : D} {l : List Pt} {v : Vc} {K : Nat}
theorem hc_step (hr : RwE cP d l) (hl : ∀ p ∈ l, SmP p) (hn : l.length ≤ 10) (hK : K ≤ 1000000) (hv : SzV K v) {i : Nat} (hi : i < l.length) :
    X G convex_Has_l0 (hc_st d v l.length i) = if decide (hsA l v i < hsB l v i) then some (.r, mkS [(4, ab false)] []) else some (.n, hc_st d v l.length ((i + 1 : Nat) : Int)) := by
  have e1 : decide ((i : Int) < (l.length : Int)) = true := lt_t (by omega)
  have e2 : w64 ((i : Int) + 1) = ((i + 1 : Nat) : Int) := by rw [w64_id (by omega) (by omega)]; rfl
  have x1 := hr.ixa cP_len hi
  have x2 := fun hp => ldE cP_len hp hi
  have g0 := cnext_spec hr hi (by omega)
  have pa := getD_all hl smP0 i
  have pb := nxP_sm hl i
  have f1 := sm_sub pb.1 pa.1
  have f2 := sm_sub pb.2 pa.2
  unfold hsA hsB
  generalize nxP l i = b at *
  generalize l.getD i default = a at *
  have o1 := ratOf_spec (sm_i64 pa.1) i64_1
  have o2 := ratOf_spec (sm_i64 pa.2) i64_1
  have o3 := ratOf_spec f1.2 i64_1
  have o4 := ratOf_spec f2.2 i64_1
  have n1 := sz_int (sm_i64 pa.1)
  have n2 := sz_int (sm_i64 pa.2)
  have n3 := sz_int f1.2
  have n4 := sz_int f2.2
  rw [divInt_one] at o1 o2 o3 o4
  have k1 := hv.1
  have k2 := hv.2
  have s1 := ratSub_spec (a := v.1) (b := (a.1 : Rat)) (by omega) (by omega)
  have s2 := ratSub_spec (a := v.2) (b := (a.2 : Rat)) (by omega) (by omega)
  have z1 := sz_sub (a := v.1) (b := (a.1 : Rat))
  have z2 := sz_sub (a := v.2) (b := (a.2 : Rat))
  have m1 := ratMul_spec (a := ((b.1 - a.1 : Int) : Rat)) (b := v.2 - (a.2 : Rat)) (by omega) (by omega)
  have m2 := ratMul_spec (a := ((b.2 - a.2 : Int) : Rat)) (b := v.1 - (a.1 : Rat)) (by omega) (by omega)
  have y1 := sz_mul (a := ((b.1 - a.1 : Int) : Rat)) (b := v.2 - (a.2 : Rat))
  have y2 := sz_mul (a := ((b.2 - a.2 : Int) : Rat)) (b := v.1 - (a.1 : Rat))
  have c1 := ratCompare_spec (a := ((b.1 - a.1 : Int) : Rat) * (v.2 - (a.2 : Rat))) (b := ((b.2 - a.2 : Int) : Rat) * (v.1 - (a.1 : Rat))) (by omega) (by omega)
  rw [← cmR_lt]
  generalize cmpR (((b.1 - a.1 : Int) : Rat) * (v.2 - (a.2 : Rat))) (((b.2 - a.2 : Int) : Rat) * (v.1 - (a.1 : Rat))) = c at *
  generalize ((b.1 - a.1 : Int) : Rat) * (v.2 - (a.2 : Rat)) = u1 at *
  generalize ((b.2 - a.2 : Int) : Rat) * (v.1 - (a.1 : Rat)) = u2 at *
  generalize v.1 - (a.1 : Rat) = u3 at *
  generalize v.2 - (a.2 : Rat) = u4 at *
  have w1 := f1.1
  have w2 := f2.1
  clear f1 f2 n1 n2 n3 n4 k1 k2 z1 z2 y1 y2 hv pa pb
  obtain ⟨ax, ay⟩ := a
  obtain ⟨bx, byy⟩ := b
  obtain ⟨v1, v2⟩ := v
  dsimp only at *
  obtain ⟨dx, hdx⟩ : ∃ z, bx - ax = z := ⟨_, rfl⟩
  obtain ⟨dy, hdy⟩ : ∃ z, byy - ay = z := ⟨_, rfl⟩
  rw [hdx] at o3 m1
  rw [hdy] at o4 m2
  have w1 : w64 (bx - ax) = dx := by rw [w1, hdx]
  have w2 : w64 (byy - ay) = dy := by rw [w2, hdy]
  clear hdx hdy
  generalize (ax : Rat) = rx at *
  generalize (ay : Rat) = ry at *
  generalize (dx : Rat) = rdx at *
  generalize (dy : Rat) = rdy at *
  simp only [encP, cP, encR, iv, bv] at x2 g0 o1 o2 o3 o4 s1 s2 m1 m2 c1
  by_cases hc : c < 0
  · have t1 : decide (c < 0) = true := lt_t hc
    simp -implicitDefEqProofs (maxSteps := 10000000) only [convex_Has_l0, hc_st, bxW, x1, x2, g0, o1, o2, o3, o4, s1, s2, m1, m2, c1, t1, w1, w2, e1, e2, st2p, ld2_0, ld2_1, st4', ld4_4, ld80, ld84, dc_dg, cells_dg, one_dg', go_sem, iv, bv, reduceCtorEq, ↓reduceIte, Nat.reduceEqDiff]
  · have t1 : decide (c < 0) = false := lt_f (by omega)
    simp -implicitDefEqProofs (maxSteps := 10000000) only [convex_Has_l0, hc_st, bxW, x1, x2, g0, o1, o2, o3, o4, s1, s2, m1, m2, c1, t1, w1, w2, e1, e2, st2p, ld2_0, ld2_1, st4', ld4_4, ld80, ld84, dc_dg, cells_dg, one_dg', go_sem, iv, bv, reduceCtorEq, ↓reduceIte, Nat.reduceEqDiff]
theorem hc_stop : X G convex_Has_l0 (hc_st d v l.length l.length) = some (.x 0, mkS [] []) := by
  have e1 : decide ((l.length : Int) < (l.length : Int)) = false := lt_f (by omega)
  simp -implicitDefEqProofs (maxSteps := 10000000) only [convex_Has_l0, hc_st, bxW, e1, go_sem, iv, bv, reduceCtorEq, ↓reduceIte, Nat.reduceEqDiff]
theorem hc_loop (hr : RwE cP d l) (hl : ∀ p ∈ l, SmP p) (hn : l.length ≤ 10) (hK : K ≤ 1000000) (hv : SzV K v) : ∀ (j i : Nat), i + j = l.length → X G (.loop convex_Has_l0) (hc_st d v l.length i) = hsO (hsF l v j i)
  | 0, i, h => by
    have : i = l.length := by omega
    subst this
    rw [X_loop, hc_stop]; rfl
  | j + 1, i, h => by
    rw [X_loop, hc_step hr hl hn hK hv (by omega), hsF]
    split
    · rfl
    · rw [Option.bind_some, if_pos rfl]
      exact hc_loop hr hl hn hK hv j (i + 1) (by omega)
theorem cHas_spec (hr : RwE cP d l) (hl : ∀ p ∈ l, SmP p) (hn : l.length ≤ 10) (hK : K ≤ 1000000) (hv : SzV K v) : callX G n_convex_Has [d, encV v] = some (.d (bv (hsP l v))) := by
  rw [callX_eq (cf := convex_Has) rfl]
  have ll := hr.len
  have g := hc_loop hr hl hn hK hv l.length 0 (by omega)
  have e : hsF l v l.length 0 = hsP l v := rfl
  rw [e] at g
  generalize hsP l v = t at *
  obtain ⟨v1, v2⟩ := v
  simp only [hc_st, bxW, hsO, nc0, go_sem] at g
  cases t
  · simp only [Bool.false_eq_true, if_false] at g
    simp -implicitDefEqProofs (maxSteps := 10000000) only [convex_Has, encV, g, ll, dc_dg, cells_dg, one_dg', go_sem, iv, bv, reduceCtorEq, ↓reduceIte, Nat.reduceEqDiff]
  · simp only [if_true] at g
    simp -implicitDefEqProofs (maxSteps := 10000000) only [convex_Has, encV, g, ll, dc_dg, cells_dg, one_dg', go_sem, iv, bv, reduceCtorEq, ↓reduceIte, Nat.reduceEqDiff]
end
end Go.AM

/- ref12.Has; SamePoints. -/
namespace Go.AM
open Go Go.RowKit
theorem sub_lt0 {a b : Rat} : decide (a - b < 0) = decide (a < b) := by
  refine decide_eq_decide.2 ?_
  constructor <;> intro h <;> grind
def sp_st (d e : D) (i : Int) : St := mkS [(0, .d d), (1, .d e), (5, ai i)] []
variable [Its]
section
variable {d : D} {l : List Pt} {v : Vc} {K : Nat}
theorem hq_step (hr : RwE cP d l) (hl : ∀ p ∈ l, SmP p) (hn : l.length ≤ 10) (hK : K ≤ 1000000) (hv : SzV K v) {i : Nat} (hi : i < l.length) :
    X G gantryref12_Has_l0 (hr_st d v i) = if decide (hsA l v i < hsB l v i) then some (.r, mkS [(4, ab false)] []) else some (.n, hr_st d v ((i + 1 : Nat) : Int)) := by
  have e1 : decide ((i : Int) < (l.length : Int)) = true := lt_t (by omega)
  have e2 : w64 ((i : Int) + 1) = ((i + 1 : Nat) : Int) := by rw [w64_id (by omega) (by omega)]; rfl
  have x1 := hr.ixa cP_len hi
  have ll := hr.len
  have x2 := fun hp => ldF (en := cP) (i := 0) cP_len hp hi (by omega)
  have x3 := fun hp => ldF (en := cP) (i := 1) cP_len hp hi (by omega)
  have g0 := Next_spec hr hi (by omega)
  have pa := getD_all hl smP0 i
  have pb := nxP_sm hl i
  have f1 := sm_sub pb.1 pa.1
  have f2 := sm_sub pb.2 pa.2
  unfold hsA hsB
  generalize nxP l i = b at *
  generalize l.getD i default = a at *
  have o1 := rratOf_spec (sm_i64 pa.1) i64_1
  have o2 := rratOf_spec (sm_i64 pa.2) i64_1
  have o3 := rratOf_spec f1.2 i64_1
  have o4 := rratOf_spec f2.2 i64_1
  have n1 := sz_int (sm_i64 pa.1)
  have n2 := sz_int (sm_i64 pa.2)
  have n3 := sz_int f1.2
  have n4 := sz_int f2.2
  rw [divInt_one] at o1 o2 o3 o4
  have k1 := hv.1
  have k2 := hv.2
  have s1 := rratSub_spec (a := v.1) (b := (a.1 : Rat)) (by omega) (by omega)
  have s2 := rratSub_spec (a := v.2) (b := (a.2 : Rat)) (by omega) (by omega)
  have z1 := sz_sub (a := v.1) (b := (a.1 : Rat))
  have z2 := sz_sub (a := v.2) (b := (a.2 : Rat))
  have m1 := rratMul_spec (a := ((b.1 - a.1 : Int) : Rat)) (b := v.2 - (a.2 : Rat)) (by omega) (by omega)
  have m2 := rratMul_spec (a := ((b.2 - a.2 : Int) : Rat)) (b := v.1 - (a.1 : Rat)) (by omega) (by omega)
  have y1 := sz_mul (a := ((b.1 - a.1 : Int) : Rat)) (b := v.2 - (a.2 : Rat))
  have y2 := sz_mul (a := ((b.2 - a.2 : Int) : Rat)) (b := v.1 - (a.1 : Rat))
  have c0 := rratSub_spec (a := ((b.1 - a.1 : Int) : Rat) * (v.2 - (a.2 : Rat))) (b := ((b.2 - a.2 : Int) : Rat) * (v.1 - (a.1 : Rat))) (by omega) (by omega)
  have y3 := sz_sub (a := ((b.1 - a.1 : Int) : Rat) * (v.2 - (a.2 : Rat))) (b := ((b.2 - a.2 : Int) : Rat) * (v.1 - (a.1 : Rat)))
  have c1 := rratSign_spec (a := ((b.1 - a.1 : Int) : Rat) * (v.2 - (a.2 : Rat)) - ((b.2 - a.2 : Int) : Rat) * (v.1 - (a.1 : Rat))) (by omega)
  rw [← sub_lt0, ← sign_lt]
  generalize ((b.1 - a.1 : Int) : Rat) * (v.2 - (a.2 : Rat)) - ((b.2 - a.2 : Int) : Rat) * (v.1 - (a.1 : Rat)) = u5 at *
  generalize ((b.1 - a.1 : Int) : Rat) * (v.2 - (a.2 : Rat)) = u1 at *
  generalize ((b.2 - a.2 : Int) : Rat) * (v.1 - (a.1 : Rat)) = u2 at *
  generalize v.1 - (a.1 : Rat) = u3 at *
  generalize v.2 - (a.2 : Rat) = u4 at *
  have w1 := f1.1
  have w2 := f2.1
  generalize Int.sign u5.num = c at *
  clear y3 f1 f2 n1 n2 n3 n4 k1 k2 z1 z2 y1 y2 hv pa pb
  obtain ⟨ax, ay⟩ := a
  obtain ⟨bx, byy⟩ := b
  obtain ⟨v1, v2⟩ := v
  dsimp only at *
  obtain ⟨dx, hdx⟩ : ∃ z, bx - ax = z := ⟨_, rfl⟩
  obtain ⟨dy, hdy⟩ : ∃ z, byy - ay = z := ⟨_, rfl⟩
  rw [hdx] at o3 m1
  rw [hdy] at o4 m2
  have w1 : w64 (bx - ax) = dx := by rw [w1, hdx]
  have w2 : w64 (byy - ay) = dy := by rw [w2, hdy]
  clear hdx hdy
  generalize (ax : Rat) = rx at *
  generalize (ay : Rat) = ry at *
  generalize (dx : Rat) = rdx at *
  generalize (dy : Rat) = rdy at *
  simp only [encP, cP, encR, List.drop_zero, List.getElem?_cons_succ, List.getElem?_cons_zero, Option.map_some, iv, bv] at x2 x3 g0 o1 o2 o3 o4 s1 s2 m1 m2 c0 c1
  by_cases hc : c < 0
  · have t1 : decide (c < 0) = true := lt_t hc
    simp -implicitDefEqProofs (maxSteps := 10000000) only [gantryref12_Has_l0, hr_st, bxW, ll, x1, x2, x3, g0, c0, o1, o2, o3, o4, s1, s2, m1, m2, c1, t1, w1, w2, e1, e2, st2p, ld2_0, ld2_1, st4', ld4_4, ld80, ld84, dc_dg, cells_dg, one_dg', go_sem, iv, bv, reduceCtorEq, ↓reduceIte, Nat.reduceEqDiff]
  · have t1 : decide (c < 0) = false := lt_f (by omega)
    simp -implicitDefEqProofs (maxSteps := 10000000) only [gantryref12_Has_l0, hr_st, bxW, ll, x1, x2, x3, g0, c0, o1, o2, o3, o4, s1, s2, m1, m2, c1, t1, w1, w2, e1, e2, st2p, ld2_0, ld2_1, st4', ld4_4, ld80, ld84, dc_dg, cells_dg, one_dg', go_sem, iv, bv, reduceCtorEq, ↓reduceIte, Nat.reduceEqDiff]
theorem hq_stop (hr : RwE cP d l) : X G gantryref12_Has_l0 (hr_st d v l.length) = some (.x 0, mkS [] []) := by
  have e1 : decide ((l.length : Int) < (l.length : Int)) = false := lt_f (by omega)
  simp -implicitDefEqProofs (maxSteps := 10000000) only [gantryref12_Has_l0, hr_st, bxW, hr.len, e1, go_sem, iv, bv, reduceCtorEq, ↓reduceIte, Nat.reduceEqDiff]
theorem hq_loop (hr : RwE cP d l) (hl : ∀ p ∈ l, SmP p) (hn : l.length ≤ 10) (hK : K ≤ 1000000) (hv : SzV K v) : ∀ (j i : Nat), i + j = l.length → X G (.loop gantryref12_Has_l0) (hr_st d v i) = hsO (hsF l v j i)
  | 0, i, h => by
    have : i = l.length := by omega
    subst this
    rw [X_loop, hq_stop hr]; rfl
  | j + 1, i, h => by
    rw [X_loop, hq_step hr hl hn hK hv (by omega), hsF]
    split
    · rfl
    · rw [Option.bind_some, if_pos rfl]
      exact hq_loop hr hl hn hK hv j (i + 1) (by omega)
theorem rHas_spec (hr : RwE cP d l) (hl : ∀ p ∈ l, SmP p) (hn : l.length ≤ 10) (hK : K ≤ 1000000) (hv : SzV K v) : callX G n_gantryref12_Has [d, encV v] = some (.d (bv (hsP l v))) := by
  rw [callX_eq (cf := gantryref12_Has) rfl]
  have ll := hr.len
  have g := hq_loop hr hl hn hK hv l.length 0 (by omega)
  have e : hsF l v l.length 0 = hsP l v := rfl
  rw [e] at g
  generalize hsP l v = t at *
  obtain ⟨v1, v2⟩ := v
  simp only [hr_st, bxW, hsO, nc0, go_sem] at g
  cases t
  · simp only [Bool.false_eq_true, if_false] at g
    simp -implicitDefEqProofs (maxSteps := 10000000) only [gantryref12_Has, encV, g, ll, dc_dg, cells_dg, one_dg', go_sem, iv, bv, reduceCtorEq, ↓reduceIte, Nat.reduceEqDiff]
  · simp only [if_true] at g
    simp -implicitDefEqProofs (maxSteps := 10000000) only [gantryref12_Has, encV, g, ll, dc_dg, cells_dg, one_dg', go_sem, iv, bv, reduceCtorEq, ↓reduceIte, Nat.reduceEqDiff]
end
theorem sp_go {l : List Pt} (hn : l.length ≤ 1000) {i : Nat} (hi : i < l.length) : X G gantryref12_SamePoints_l0 (sp_st (rowE cP l) (rowE cP l) i) = some (.n, sp_st (rowE cP l) (rowE cP l) ((i + 1 : Nat) : Int)) := by
  have e1 : decide ((i : Int) < (l.length : Int)) = true := lt_t (by omega)
  have e2 : w64 ((i : Int) + 1) = ((i + 1 : Nat) : Int) := by rw [w64_id (by omega) (by omega)]; rfl
  have ll : lenA (.d (rowE cP l)) = some l.length := rfl
  have x1 := RwE.ixa (d := rowE cP l) (l := l) cP_len (.inr rfl) hi
  have x2 := fun hp => ldE cP_len hp hi
  generalize l.getD i default = e at *
  obtain ⟨a, b⟩ := e
  simp only [cP, iv] at x2
  simp -implicitDefEqProofs (maxSteps := 10000000) only [gantryref12_SamePoints_l0, sp_st, ll, x1, x2, e1, e2, beq_self_eq_true, Bool.and_self, Bool.not_true, go_sem, iv, bv, reduceCtorEq, ↓reduceIte, Nat.reduceEqDiff]
theorem sp_stop {l : List Pt} : X G gantryref12_SamePoints_l0 (sp_st (rowE cP l) (rowE cP l) l.length) = some (.x 0, mkS [] []) := by
  have e1 : decide ((l.length : Int) < (l.length : Int)) = false := lt_f (by omega)
  have ll : lenA (.d (rowE cP l)) = some l.length := rfl
  simp -implicitDefEqProofs (maxSteps := 10000000) only [gantryref12_SamePoints_l0, sp_st, ll, e1, go_sem, iv, bv, reduceCtorEq, ↓reduceIte, Nat.reduceEqDiff]
theorem sp_loop {l : List Pt} (hn : l.length ≤ 1000) : ∀ (j i : Nat), i + j = l.length → X G (.loop gantryref12_SamePoints_l0) (sp_st (rowE cP l) (rowE cP l) i) = some (.x 0, mkS [] [])
  | 0, i, h => by
    have : i = l.length := by omega
    subst this
    rw [X_loop, sp_stop]; rfl
  | j + 1, i, h => by
    rw [X_loop, sp_go hn (by omega), Option.bind_some, if_pos rfl]
    exact sp_loop hn j (i + 1) (by omega)
theorem SameP_refl {l : List Pt} (hn : l.length ≤ 1000) : callX G n_gantryref12_SamePoints [rowE cP l, rowE cP l] = some (.d (bv true)) := by
  rw [callX_eq (cf := gantryref12_SamePoints) rfl]
  have g := sp_loop hn l.length 0 (by omega)
  have ll : lenA (.d (rowE cP l)) = some l.length := rfl
  have e1 : ((l.length : Int) != (l.length : Int)) = false := bne_f rfl
  simp only [sp_st, nc0, go_sem] at g
  simp -implicitDefEqProofs (maxSteps := 10000000) only [gantryref12_SamePoints, g, ll, e1, go_sem, iv, bv, reduceCtorEq, ↓reduceIte, Nat.reduceEqDiff]
end Go.AM

/- far, Left, cmp.Or, Sum$1, MinFunc. -/
namespace Go.AM
open Go Go.RowKit
def faI (p q : Pt) : Int := (p.1 - q.1) * (p.1 - q.1) + (p.2 - q.2) * (p.2 - q.2)
def orI (a b : Int) : Int := if a ≠ 0 then a else b
/-- Lower, or as low and more to the left. -/
def ltQ (p q : Pt) : Bool := decide (p.2 < q.2) || (decide (p.2 = q.2) && decide (p.1 < q.1))
theorem or_lt (p q : Pt) : decide (orI (cmpI p.2 q.2) (cmpI p.1 q.1) < 0) = ltQ p q := by
  unfold orI cmpI ltQ
  by_cases h1 : p.2 < q.2
  · simp [h1]
  · by_cases h2 : p.2 > q.2
    · have h3 : p.2 ≠ q.2 := by omega
      simp [h1, h2, h3]
    · have h3 : p.2 = q.2 := by omega
      by_cases h4 : p.1 < q.1
      · simp [h3, h4]
      · by_cases h5 : p.1 > q.1 <;> simp [h3, h4, h5]
theorem nc2 : ((2 : Nat) : Int) = 2 := rfl
theorem rep2_1 (a : D) : rep 2 [a] = [a, a] := rfl
def mnF (l : List Pt) : Nat → Pt
  | 0 => l.getD 0 default
  | i + 1 => if ltQ (l.getD (i + 1) default) (mnF l i) = true then l.getD (i + 1) default else mnF l i
def mn_st (d : D) (p : Pt) (i : Int) : St := mkS [(0, .d d), (1, .d (.fn n_convex_Sum_1 [])), (4, .ptr [4] 0), (5, .ptr [5] 0), (6, ai i)] [([4], ⟨0, 0, [.d (iv 0), .d (iv 0)], false⟩), ([5], ⟨0, 0, [.d (iv p.1), .d (iv p.2)], false⟩)]
def or_st (a b : Int) (i : Int) : St := mkS [(3, ai 0), (6, .d (.row 2 [iv a, iv b])), (7, ai 2), (8, ai i)] []
variable [Its]
theorem far_spec {p q : Pt} (hp : SmP p) (hq : SmP q) : callX G n_convex_far [encP p, encP q] = some (.d (iv (faI p q))) := by
  rw [callX_eq (cf := convex_far) rfl]
  obtain ⟨a1, a2⟩ := p
  obtain ⟨b1, b2⟩ := q
  obtain ⟨h1, h2⟩ := hp
  obtain ⟨h3, h4⟩ := hq
  simp only [Sm] at h1 h2 h3 h4
  unfold faI
  dsimp only
  obtain ⟨x, hx⟩ : ∃ x, a1 - b1 = x := ⟨_, rfl⟩
  obtain ⟨y, hy⟩ : ∃ x, a2 - b2 = x := ⟨_, rfl⟩
  have e1 : w64 (a1 - b1) = x := by rw [w64_id (by omega) (by omega), hx]
  have e2 : w64 (a2 - b2) = y := by rw [w64_id (by omega) (by omega), hy]
  have bb : ∀ u : Int, -200000000 ≤ u ∧ u ≤ 200000000 → -40000000000000000 ≤ u * u ∧ u * u ≤ 40000000000000000 := by
    intro u hu
    have h1 : (u * u).natAbs ≤ 200000000 * 200000000 := by
      rw [Int.natAbs_mul]
      exact Nat.mul_le_mul (by omega) (by omega)
    omega
  have b1' := bb x (by omega)
  have b2' := bb y (by omega)
  rw [hx, hy]
  clear hx hy bb
  obtain ⟨z, hz⟩ : ∃ z, x * x = z := ⟨_, rfl⟩
  obtain ⟨t, ht⟩ : ∃ z, y * y = z := ⟨_, rfl⟩
  rw [hz] at b1'
  rw [ht] at b2'
  have e3 : w64 (x * x) = z := by rw [hz, w64_id (by omega) (by omega)]
  have e4 : w64 (y * y) = t := by rw [ht, w64_id (by omega) (by omega)]
  obtain ⟨s, hs⟩ : ∃ s, z + t = s := ⟨_, rfl⟩
  have e5 : w64 (z + t) = s := by rw [w64_id (by omega) (by omega), hs]
  rw [hz, ht, hs]
  simp -implicitDefEqProofs (maxSteps := 10000000) only [convex_far, encP, cP, ld2_0, ld2_1, go_sem, iv, bv, e1, e2, e3, e4, e5, reduceCtorEq, ↓reduceIte, Nat.reduceEqDiff]
theorem Or_spec (a b : Int) : callX G n_cmp_Or_int [.row 2 [iv a, iv b]] = some (.d (iv (orI a b))) := by
  rw [callX_eq (cf := cmp_Or_int) rfl]
  have x0 : ∀ h : Hp, ixaA h 1 0 (.d (.row 2 [iv a, iv b])) = some (.d (.rp [iv a, iv b])) := fun _ => rfl
  have x1 : ∀ h : Hp, ixaA h 1 1 (.d (.row 2 [iv a, iv b])) = some (.d (.rp [iv b])) := fun _ => rfl
  have y0 : ∀ h : Hp, loadA h none (.d (.rp [iv a, iv b])) = some (.d (iv a)) := fun _ => rfl
  have y1 : ∀ h : Hp, loadA h none (.d (.rp [iv b])) = some (.d (iv b)) := fun _ => rfl
  have t0 : decide ((0 : Int) < 2) = true := rfl
  have t1 : decide ((1 : Int) < 2) = true := rfl
  have t2 : decide ((2 : Int) < 2) = false := rfl
  have w0 : w64 ((0 : Int) + 1) = 1 := w64_id (by omega) (by omega)
  have w1 : w64 ((1 : Int) + 1) = 2 := w64_id (by omega) (by omega)
  have ll : lenA (.d (.row 2 [iv a, iv b])) = some 2 := rfl
  simp only [iv] at x0 x1 y0 y1 ll
  by_cases ha : a = 0
  · subst ha
    have n0 : ((0 : Int) != 0) = false := rfl
    have g0 : X G cmp_Or_int_l0 (or_st 0 b 0) = some (.n, or_st 0 b 1) := by
      simp -implicitDefEqProofs (maxSteps := 10000000) only [cmp_Or_int_l0, or_st, x0, y0, t0, n0, w0, go_sem, iv, bv, reduceCtorEq, ↓reduceIte, Nat.reduceEqDiff]
    by_cases hb : b = 0
    · subst hb
      have g1 : X G cmp_Or_int_l0 (or_st 0 0 1) = some (.n, or_st 0 0 2) := by
        simp -implicitDefEqProofs (maxSteps := 10000000) only [cmp_Or_int_l0, or_st, x1, y1, t1, n0, w1, go_sem, iv, bv, reduceCtorEq, ↓reduceIte, Nat.reduceEqDiff]
      have g2 : X G cmp_Or_int_l0 (or_st 0 0 2) = some (.x 0, mkS [(3, ai 0)] []) := by
        simp -implicitDefEqProofs (maxSteps := 10000000) only [cmp_Or_int_l0, or_st, t2, go_sem, iv, bv, reduceCtorEq, ↓reduceIte, Nat.reduceEqDiff]
      have g : X G (.loop cmp_Or_int_l0) (or_st 0 0 0) = some (.x 0, mkS [(3, ai 0)] []) := by
        rw [X_loop, g0, Option.bind_some, if_pos rfl, X_loop, g1, Option.bind_some, if_pos rfl, X_loop, g2]; rfl
      simp only [or_st, go_sem, iv] at g
      have e : orI 0 0 = 0 := rfl
      rw [e]
      simp -implicitDefEqProofs (maxSteps := 10000000) only [cmp_Or_int, g, ll, nc0, nc2, go_sem, iv, bv, reduceCtorEq, ↓reduceIte, Nat.reduceEqDiff]
    · have n1 : (b != 0) = true := bne_t hb
      have g1 : X G cmp_Or_int_l0 (or_st 0 b 1) = some (.r, mkS [(2, ai b)] []) := by
        simp -implicitDefEqProofs (maxSteps := 10000000) only [cmp_Or_int_l0, or_st, x1, y1, t1, n1, w1, go_sem, iv, bv, reduceCtorEq, ↓reduceIte, Nat.reduceEqDiff]
      have g : X G (.loop cmp_Or_int_l0) (or_st 0 b 0) = some (.r, mkS [(2, ai b)] []) := by
        rw [X_loop, g0, Option.bind_some, if_pos rfl, X_loop, g1]; rfl
      simp only [or_st, go_sem, iv] at g
      have e : orI 0 b = b := rfl
      rw [e]
      simp -implicitDefEqProofs (maxSteps := 10000000) only [cmp_Or_int, g, ll, nc0, nc2, go_sem, iv, bv, reduceCtorEq, ↓reduceIte, Nat.reduceEqDiff]
  · have n1 : (a != 0) = true := bne_t ha
    have g1 : X G cmp_Or_int_l0 (or_st a b 0) = some (.r, mkS [(2, ai a)] []) := by
      simp -implicitDefEqProofs (maxSteps := 10000000) only [cmp_Or_int_l0, or_st, x0, y0, t0, n1, w0, go_sem, iv, bv, reduceCtorEq, ↓reduceIte, Nat.reduceEqDiff]
    have g : X G (.loop cmp_Or_int_l0) (or_st a b 0) = some (.r, mkS [(2, ai a)] []) := by
      rw [X_loop, g1]; rfl
    simp only [or_st, go_sem, iv] at g
    have e : orI a b = a := if_pos ha
    rw [e]
    simp -implicitDefEqProofs (maxSteps := 10000000) only [cmp_Or_int, g, ll, nc0, nc2, go_sem, iv, bv, reduceCtorEq, ↓reduceIte, Nat.reduceEqDiff]
theorem Sum1_spec (p q : Pt) : callX G n_convex_Sum_1 [encP p, encP q] = some (.d (iv (orI (cmpI p.2 q.2) (cmpI p.1 q.1)))) := by
  rw [callX_eq (cf := convex_Sum_1) rfl]
  have g1 := cCompare_spec p.1 q.1
  have g2 := cCompare_spec p.2 q.2
  have g3 := Or_spec (cmpI p.2 q.2) (cmpI p.1 q.1)
  generalize orI (cmpI p.2 q.2) (cmpI p.1 q.1) = z at *
  generalize cmpI p.2 q.2 = u at *
  generalize cmpI p.1 q.1 = v at *
  obtain ⟨p1, p2⟩ := p
  obtain ⟨q1, q2⟩ := q
  simp only [iv] at g1 g2 g3
  simp -implicitDefEqProofs (maxSteps := 10000000) only [convex_Sum_1, encP, cP, g1, g2, g3, ld2_0, ld2_1, fillB, partsB, oneI, rep2_1, go_sem, iv, bv, reduceCtorEq, ↓reduceIte, Nat.reduceEqDiff]
end Go.AM

/- slices.MinFunc by (Y, X); the sums of all corners. -/
namespace Go.AM
open Go Go.RowKit
theorem mnF_all {P : Pt → Prop} {l : List Pt} (h0 : ∀ i, P (l.getD i default)) : ∀ i, P (mnF l i)
  | 0 => h0 0
  | i + 1 => by
    rw [mnF]
    split
    · exact h0 _
    · exact mnF_all h0 i
def mn_en (p : Pt) : St := mkS [(4, .ptr [4] 0), (5, .ptr [5] 0)] [([4], ⟨0, 0, [.d (iv 0), .d (iv 0)], false⟩), ([5], ⟨0, 0, [.d (iv p.1), .d (iv p.2)], false⟩)]
/-- All sums of a corner of a and the negative of one of b. -/
def suR (p : Pt) (b : List Pt) : List Pt := b.map fun q => (p.1 - q.1, p.2 - q.2)
def suA (a b : List Pt) : List Pt := a.flatMap fun p => suR p b
variable [Its]
theorem mn_go {d : D} {l : List Pt} (hr : RwE cP d l) (hn : l.length ≤ 1000000) {p : Pt} {i : Nat} (hi : i < l.length) :
    X G slices_MinFunc_api_Point_api_Point_l0 (mn_st d p i) = some (.n, mn_st d (if ltQ (l.getD i default) p = true then l.getD i default else p) ((i + 1 : Nat) : Int)) := by
  have ll := hr.len
  have e1 : decide ((i : Int) < (l.length : Int)) = true := lt_t (by omega)
  have e2 : w64 ((i : Int) + 1) = ((i + 1 : Nat) : Int) := by rw [w64_id (by omega) (by omega)]; rfl
  have x1 := hr.ixa cP_len hi
  have x2 := fun hp => ldE cP_len hp hi
  have g := Sum1_spec (l.getD i default) p
  have e3 := or_lt (l.getD i default) p
  generalize orI (cmpI (l.getD i default).2 p.2) (cmpI (l.getD i default).1 p.1) = z at *
  generalize l.getD i default = q at *
  obtain ⟨qx, qy⟩ := q
  obtain ⟨px, py⟩ := p
  simp only [cP, encP, iv] at x2 g
  cases h : ltQ (qx, qy) (px, py)
  · rw [h] at e3
    simp -implicitDefEqProofs (maxSteps := 10000000) only [slices_MinFunc_api_Point_api_Point_l0, mn_st, g, st2p, ld2p, Bool.false_eq_true, if_false, List.cons_append, List.nil_append, List.append_nil, go_sem, iv, bv, e1, e2, e3, ll, x1, x2, reduceCtorEq, ↓reduceIte, Nat.reduceEqDiff]
  · rw [h] at e3
    simp -implicitDefEqProofs (maxSteps := 10000000) only [slices_MinFunc_api_Point_api_Point_l0, mn_st, g, st2p, ld2p, if_true, List.cons_append, List.nil_append, List.append_nil, go_sem, iv, bv, e1, e2, e3, ll, x1, x2, reduceCtorEq, ↓reduceIte, Nat.reduceEqDiff]
theorem mn_stop {d : D} {l : List Pt} (hr : RwE cP d l) {p : Pt} : X G slices_MinFunc_api_Point_api_Point_l0 (mn_st d p l.length) = some (.x 0, mn_en p) := by
  have ll := hr.len
  have e1 : decide ((l.length : Int) < (l.length : Int)) = false := lt_f (by omega)
  simp -implicitDefEqProofs (maxSteps := 10000000) only [slices_MinFunc_api_Point_api_Point_l0, mn_st, mn_en, go_sem, iv, bv, e1, ll, reduceCtorEq, ↓reduceIte, Nat.reduceEqDiff]
theorem mn_loop {d : D} {l : List Pt} (hr : RwE cP d l) (hn : l.length ≤ 1000000) : ∀ (j i : Nat), i + 1 + j = l.length → X G (.loop slices_MinFunc_api_Point_api_Point_l0) (mn_st d (mnF l i) ((i + 1 : Nat) : Int)) = some (.x 0, mn_en (mnF l (l.length - 1)))
  | 0, i, h => by
    have : i + 1 = l.length := by omega
    rw [this, ← this, Nat.add_sub_cancel]
    rw [X_loop, this, mn_stop hr]; rfl
  | j + 1, i, h => by
    rw [X_loop, mn_go hr hn (by omega), Option.bind_some, if_pos rfl]
    exact mn_loop hr hn j (i + 1) (by omega)
theorem MinF_spec {d : D} {l : List Pt} (hr : RwE cP d l) (h0 : 0 < l.length) (hn : l.length ≤ 1000000) : callX G n_slices_MinFunc_api_Point_api_Point [d, .fn n_convex_Sum_1 []] = some (.d (encP (mnF l (l.length - 1)))) := by
  rw [callX_eq (cf := slices_MinFunc_api_Point_api_Point) rfl]
  have ll := hr.len
  have e1 : decide ((l.length : Int) < 1) = false := lt_f (by omega)
  have x1 := hr.ixa (j := 0) cP_len h0
  have x2 := fun hp => ldE (j := 0) (l := l) cP_len hp h0
  have g := mn_loop hr hn (l.length - 1) 0 (by omega)
  have e0 : mnF l 0 = l.getD 0 default := rfl
  have e3 : ((0 + 1 : Nat) : Int) = 1 := rfl
  rw [e0, e3] at g
  simp only [nc0, List.drop_zero] at x1 x2
  generalize mnF l (l.length - 1) = z at *
  generalize l.getD 0 default = q at *
  obtain ⟨qx, qy⟩ := q
  obtain ⟨zx, zy⟩ := z
  simp only [cP, iv] at x2
  simp only [mn_st, mn_en, iv, go_sem] at g
  simp -implicitDefEqProofs (maxSteps := 10000000) only [slices_MinFunc_api_Point_api_Point, encP, cP, g, st2p, ld2p, go_sem, iv, bv, e1, ll, x1, x2, reduceCtorEq, ↓reduceIte, Nat.reduceEqDiff]
end Go.AM

/- convex.Sum's first loops: all sums. -/
namespace Go.AM
open Go Go.RowKit
def suO (p q : Pt) : Pt := (p.1 - q.1, p.2 - q.2)
def cu0_st (da db : D) (L : List Pt) (p : Pt) (n i m k : Int) : St := mkS [(1, .d db), (5, gAE 41 L), (7, .ptr [7] 0), (16, .d da), (17, ai n), (18, ai i), (22, .d db), (23, ai m), (24, ai k)] (([7], bxP p.1 p.2) :: gHE cP 2 41 L)
def cu1_st (da db : D) (L : List Pt) (n i : Int) : St := mkS [(1, .d db), (5, gAE 41 L), (16, .d da), (17, ai n), (18, ai i)] (gHE cP 2 41 L)
def cu1_en (L : List Pt) : St := mkS [(5, gAE 41 L)] (gHE cP 2 41 L)
variable [Its]
theorem cu0_go {da db : D} {b : List Pt} (hr : RwE cP db b) (hb : ∀ p ∈ b, SmP p) (hn : b.length ≤ 1000) {L : List Pt} (hL : L.length ≤ 1000) {p : Pt} (hp : SmP p) {n i : Int} {k : Nat} (hk : k < b.length) :
    X G convex_Sum_l0 (cu0_st da db L p n i b.length k) = some (.n, cu0_st da db (L ++ [suO p (b.getD k default)]) p n i b.length ((k + 1 : Nat) : Int)) := by
  have e1 : decide ((k : Int) < (b.length : Int)) = true := lt_t (by omega)
  have e2 : w64 ((k : Int) + 1) = ((k + 1 : Nat) : Int) := by rw [w64_id (by omega) (by omega)]; rfl
  have x1 := hr.ixa cP_len hk
  have x2 := fun hp => ldE cP_len hp hk
  have hq := getD_all hb smP0 k
  unfold suO
  generalize b.getD k default = q at *
  obtain ⟨x, y⟩ := q
  obtain ⟨p1, p2⟩ := p
  obtain ⟨h1, h2⟩ := hq
  obtain ⟨h3, h4⟩ := hp
  simp only [Sm] at h1 h2 h3 h4
  dsimp only
  obtain ⟨u, hu⟩ : ∃ u, p1 - x = u := ⟨_, rfl⟩
  obtain ⟨v, hv⟩ : ∃ v, p2 - y = v := ⟨_, rfl⟩
  have e3 : w64 (p1 - x) = u := by rw [w64_id (by omega) (by omega), hu]
  have e4 : w64 (p2 - y) = v := by rw [w64_id (by omega) (by omega), hv]
  simp only [cP, iv] at x2
  rw [hu, hv]
  by_cases h0 : L = []
  · subst h0
    have hb : (16 ≤ bound) = True := eq_true (by unfold bound; omega)
    have hb1 : (1 * 16 ≤ bound) = True := eq_true (by unfold bound; omega)
    have hq : ([(u, v)] : List Pt) ≠ [] := by simp
    simp -implicitDefEqProofs (maxSteps := 10000000) only [convex_Sum_l0, cu0_st, bxP, gAE_nil, gHE_nil, gAE_ne hq, gHE_ne hq, arE, flat1P, hupdO_none, st2p, ld2_0, ld2_1, fillB, partsB, List.nil_append, List.cons_append, List.length_nil, List.length_cons, Nat.zero_add, List.map_cons, List.map_nil, rep1_2, oneI, srcS, src, allD, hb, hb1, x1, x2, go_sem, iv, bv, e1, e2, e3, e4, reduceCtorEq, ↓reduceIte, Nat.reduceEqDiff]
  · have n3 := lenE cP_len L
    have n4 : ((L.length + 1) * 16 ≤ bound) = True := eq_true (by unfold bound; omega)
    simp -implicitDefEqProofs (maxSteps := 10000000) only [convex_Sum_l0, cu0_st, bxP, gAE_ne h0, gHE_ne h0, gAE_snoc, gHE_snoc, arE, cP_snoc, refsL_E, n3, n4, st2p, ld2_0, ld2_1, fillB, partsB, List.nil_append, List.cons_append, List.length_nil, List.length_cons, Nat.zero_add, List.map_cons, List.map_nil, List.all_cons, List.all_nil, rep1_2, oneI, srcS, src, allD, x1, x2, go_sem, iv, bv, e1, e2, e3, e4, reduceCtorEq, ↓reduceIte, Nat.reduceEqDiff]
theorem cu0_stop {da db : D} {b : List Pt} {L : List Pt} {p : Pt} {n i : Int} : X G convex_Sum_l0 (cu0_st da db L p n i b.length b.length) = some (.x 2, cu1_st da db L n i) := by
  have e1 : decide ((b.length : Int) < (b.length : Int)) = false := lt_f (by omega)
  by_cases h0 : L = []
  · subst h0
    simp -implicitDefEqProofs (maxSteps := 10000000) only [convex_Sum_l0, cu0_st, cu1_st, bxP, gAE_nil, gHE_nil, hupdO_none, go_sem, iv, bv, e1, reduceCtorEq, ↓reduceIte, Nat.reduceEqDiff]
  · simp -implicitDefEqProofs (maxSteps := 10000000) only [convex_Sum_l0, cu0_st, cu1_st, bxP, gAE_ne h0, gHE_ne h0, arE, refsL_E, go_sem, iv, bv, e1, reduceCtorEq, ↓reduceIte, Nat.reduceEqDiff]
theorem cu0_loop {da db : D} {b : List Pt} (hr : RwE cP db b) (hb : ∀ p ∈ b, SmP p) (hn : b.length ≤ 10) {p : Pt} (hp : SmP p) {n i : Int} : ∀ (j k : Nat) (L : List Pt), k + j = b.length → L.length + j ≤ 1000 →
    X G (.loop convex_Sum_l0) (cu0_st da db L p n i b.length k) = some (.x 2, cu1_st da db (L ++ suR p (b.drop k)) n i)
  | 0, k, L, h, hl => by
    have : k = b.length := by omega
    subst this
    rw [X_loop, cu0_stop, List.drop_length]
    simp [suR]
  | j + 1, k, L, h, hl => by
    have hk : k < b.length := by omega
    rw [X_loop, cu0_go hr hb (by omega) (by omega) hp hk, Option.bind_some, if_pos rfl, cu0_loop hr hb hn hp j (k + 1) _ (by omega) (by rw [List.length_append, List.length_singleton]; omega), drop_getD hk]
    simp [suR, suO]
theorem cu1_go {da db : D} {a b : List Pt} (hra : RwE cP da a) (hr : RwE cP db b) (ha : ∀ p ∈ a, SmP p) (hb : ∀ p ∈ b, SmP p) (hn : b.length ≤ 10) {L : List Pt} (hL : L.length ≤ 900) {i : Nat} (hi : i < a.length) (hna : a.length ≤ 1000) :
    X G convex_Sum_l1 (cu1_st da db L a.length i) = some (.n, cu1_st da db (L ++ suR (a.getD i default) b) a.length ((i + 1 : Nat) : Int)) := by
  have e1 : decide ((i : Int) < (a.length : Int)) = true := lt_t (by omega)
  have e2 : w64 ((i : Int) + 1) = ((i + 1 : Nat) : Int) := by rw [w64_id (by omega) (by omega)]; rfl
  have x1 := hra.ixa cP_len hi
  have x2 := fun hp => ldE cP_len hp hi
  have hp := getD_all ha smP0 i
  have g := cu0_loop (da := da) (n := (a.length : Int)) (i := (i : Int)) hr hb hn hp b.length 0 L (by omega) (by omega)
  rw [List.drop_zero] at g
  have ll := hr.len
  generalize a.getD i default = p at *
  generalize L ++ suR p b = M at *
  obtain ⟨p1, p2⟩ := p
  simp only [cP, iv] at x2
  by_cases h0 : L = []
  · subst h0
    by_cases h1 : M = []
    · subst h1
      simp only [cu0_st, cu1_st, bxP, gAE_nil, gHE_nil, hupdO_none, nc0, go_sem, iv] at g
      simp -implicitDefEqProofs (maxSteps := 10000000) only [convex_Sum_l1, cu1_st, gAE_nil, gHE_nil, hupdO_none, g, ll, x1, x2, st2p, go_sem, iv, bv, e1, e2, reduceCtorEq, ↓reduceIte, Nat.reduceEqDiff]
    · simp only [cu0_st, cu1_st, bxP, gAE_nil, gHE_nil, gAE_ne h1, gHE_ne h1, arE, hupdO_none, nc0, go_sem, iv] at g
      simp -implicitDefEqProofs (maxSteps := 10000000) only [convex_Sum_l1, cu1_st, gAE_nil, gHE_nil, gAE_ne h1, gHE_ne h1, arE, refsL_E, hupdO_none, g, ll, x1, x2, st2p, go_sem, iv, bv, e1, e2, reduceCtorEq, ↓reduceIte, Nat.reduceEqDiff]
  · by_cases h1 : M = []
    · subst h1
      simp only [cu0_st, cu1_st, bxP, gAE_nil, gHE_nil, gAE_ne h0, gHE_ne h0, arE, hupdO_none, nc0, go_sem, iv] at g
      simp -implicitDefEqProofs (maxSteps := 10000000) only [convex_Sum_l1, cu1_st, gAE_nil, gHE_nil, gAE_ne h0, gHE_ne h0, arE, refsL_E, hupdO_none, g, ll, x1, x2, st2p, go_sem, iv, bv, e1, e2, reduceCtorEq, ↓reduceIte, Nat.reduceEqDiff]
    · simp only [cu0_st, cu1_st, bxP, gAE_ne h0, gHE_ne h0, gAE_ne h1, gHE_ne h1, arE, nc0, go_sem, iv] at g
      simp -implicitDefEqProofs (maxSteps := 10000000) only [convex_Sum_l1, cu1_st, gAE_ne h0, gHE_ne h0, gAE_ne h1, gHE_ne h1, arE, refsL_E, g, ll, x1, x2, st2p, go_sem, iv, bv, e1, e2, reduceCtorEq, ↓reduceIte, Nat.reduceEqDiff]
theorem cu1_stop {da db : D} {a : List Pt} {L : List Pt} : X G convex_Sum_l1 (cu1_st da db L a.length a.length) = some (.x 0, cu1_en L) := by
  have e1 : decide ((a.length : Int) < (a.length : Int)) = false := lt_f (by omega)
  by_cases h0 : L = []
  · subst h0
    simp -implicitDefEqProofs (maxSteps := 10000000) only [convex_Sum_l1, cu1_st, cu1_en, gAE_nil, gHE_nil, hupdO_none, go_sem, iv, bv, e1, reduceCtorEq, ↓reduceIte, Nat.reduceEqDiff]
  · simp -implicitDefEqProofs (maxSteps := 10000000) only [convex_Sum_l1, cu1_st, cu1_en, gAE_ne h0, gHE_ne h0, arE, refsL_E, go_sem, iv, bv, e1, reduceCtorEq, ↓reduceIte, Nat.reduceEqDiff]
theorem cu1_loop {da db : D} {a b : List Pt} (hra : RwE cP da a) (hr : RwE cP db b) (ha : ∀ p ∈ a, SmP p) (hb : ∀ p ∈ b, SmP p) (hn : b.length ≤ 10) (hna : a.length ≤ 10) : ∀ (j i : Nat) (L : List Pt), i + j = a.length → L.length + j * 10 ≤ 900 →
    X G (.loop convex_Sum_l1) (cu1_st da db L a.length i) = some (.x 0, cu1_en (L ++ suA (a.drop i) b))
  | 0, i, L, h, hl => by
    have : i = a.length := by omega
    subst this
    rw [X_loop, cu1_stop, List.drop_length]
    simp [suA]
  | j + 1, i, L, h, hl => by
    have hi : i < a.length := by omega
    have hs : (suR (a.getD i default) b).length ≤ 10 := by unfold suR; rw [List.length_map]; exact hn
    rw [X_loop, cu1_go hra hr ha hb hn (by omega) hi (by omega), Option.bind_some, if_pos rfl, cu1_loop hra hr ha hb hn hna j (i + 1) _ (by omega) (by rw [List.length_append]; omega), drop_getD hi]
    simp [suA]
end Go.AM

/- The hulls of both, plain; they move with the shapes. -/
namespace Go.AM
open Go Go.RowKit
def bsS (last best p : Pt) : Pt := if decide (best = last) || decide (crI last best p < 0) || (decide (crI last best p = 0) && decide (faI last best < faI last p)) then p else best
def nxC (all : List Pt) (last : Pt) : Pt := all.foldl (bsS last) last
def hulC (all : List Pt) (first : Pt) : Nat → List Pt → Pt → Option (List Pt)
  | 0, _, _ => none
  | f + 1, out, last => if nxC all last = first then some out else hulC all first f (out ++ [nxC all last]) (nxC all last)
def okQ (last c p : Pt) : Bool := decide (0 < crI last c p) || (decide (crI last c p = 0) && decide (faI p last ≤ faI c last))
def nxR (all : List Pt) (last : Pt) : Pt := (all.find? fun c => decide (c ≠ last) && all.all (okQ last c)).getD last
def hulR (all : List Pt) (first : Pt) : Nat → List Pt → Pt → Option (List Pt)
  | 0, _, _ => none
  | f + 1, out, last => if nxR all last = first then some out else hulR all first f (out ++ [nxR all last]) (nxR all last)
/-- A side of the hull on the line of an edge. -/
def onE (a b x : List Pt) (d : Dr) (i : Nat) : Bool :=
  let u := sdx x i
  let v := sdy x i
  let t := if d.1 = 0 then (-u).tdiv d.2.1 else v.tdiv d.1
  decide (0 < t) && decide (v = t * d.1) && decide (-u = t * d.2.1) && decide (dotI d (x.getD i default) = moP d a + moP (tnD d) b)
def edgB (a b x : List Pt) : Bool :=
  ((uqS a b).all fun d => (List.range x.length).any fun i => onE a b x d i) && ((List.range x.length).all fun i => (uqS a b).any fun d => onE a b x d i)
def bas (c : Int) : List (List Pt) := (List.range 3).flatMap fun (k : Nat) => (List.range (if c = 2 ∨ c = 5 then 6 else 1)).map fun (m : Nat) => spB c (1 + (k : Int)) (1 + (m : Int))
theorem bas_mem {c k m : Int} (hc : 0 ≤ c ∧ c < 7) (hk : 1 ≤ k ∧ k < 4) (hm : 1 ≤ m ∧ m < 7) : ∃ e ∈ ([2, 3, 4, 5, 6] : List Int), spB c k m ∈ bas e := by
  have key : ∀ e : Int, (e = 2 ∨ e = 5) → spB e k m ∈ bas e := by
    intro e he
    unfold bas
    rw [if_pos he]
    refine List.mem_flatMap.2 ⟨(k - 1).toNat, List.mem_range.2 (by omega), List.mem_map.2 ⟨(m - 1).toNat, List.mem_range.2 (by omega), ?_⟩⟩
    rw [show 1 + (((k - 1).toNat : Nat) : Int) = k by omega, show 1 + (((m - 1).toNat : Nat) : Int) = m by omega]
  have key2 : ∀ e : Int, (e = 3 ∨ e = 4 ∨ e = 6) → spB e k 1 ∈ bas e := by
    intro e he
    unfold bas
    rw [if_neg (by omega)]
    refine List.mem_flatMap.2 ⟨(k - 1).toNat, List.mem_range.2 (by omega), List.mem_map.2 ⟨0, List.mem_range.2 (by omega), ?_⟩⟩
    rw [show 1 + (((k - 1).toNat : Nat) : Int) = k by omega]; rfl
  obtain h | h | h | h | h : (c = 0 ∨ c = 1 ∨ c = 2) ∨ c = 3 ∨ c = 4 ∨ c = 5 ∨ c = 6 := by omega
  · refine ⟨2, by simp, ?_⟩
    have e1 : spB c k m = spB 2 k m := by unfold spB; rw [if_pos h, if_pos (by omega)]
    rw [e1]; exact key 2 (.inl rfl)
  · subst h; exact ⟨3, by simp, key2 3 (.inl rfl)⟩
  · subst h; exact ⟨4, by simp, key2 4 (.inr (.inl rfl))⟩
  · subst h; exact ⟨5, by simp, key 5 (.inr rfl)⟩
  · subst h; exact ⟨6, by simp, key2 6 (.inr (.inr rfl))⟩
/-! Moved -/
theorem mvP_iff (x y : Int) (p q : Pt) : (mvP x y p = mvP x y q) ↔ p = q := by
  obtain ⟨a, b⟩ := p
  obtain ⟨c, d⟩ := q
  unfold mvP
  simp only [Prod.mk.injEq]
  omega
theorem faI_mv (x y : Int) (p q : Pt) : faI (mvP x y p) (mvP x y q) = faI p q := by
  unfold faI mvP
  dsimp only
  rw [show p.1 + x - (q.1 + x) = p.1 - q.1 by omega, show p.2 + y - (q.2 + y) = p.2 - q.2 by omega]
theorem ltQ_mv (x y : Int) (p q : Pt) : ltQ (mvP x y p) (mvP x y q) = ltQ p q := by
  unfold ltQ mvP
  dsimp only
  rw [show decide (p.2 + y < q.2 + y) = decide (p.2 < q.2) from decide_eq_decide.2 (by omega), show decide (p.2 + y = q.2 + y) = decide (p.2 = q.2) from decide_eq_decide.2 (by omega), show decide (p.1 + x < q.1 + x) = decide (p.1 < q.1) from decide_eq_decide.2 (by omega)]
theorem bsS_mv (x y : Int) (l b p : Pt) : bsS (mvP x y l) (mvP x y b) (mvP x y p) = mvP x y (bsS l b p) := by
  unfold bsS
  rw [crI_mv, faI_mv, faI_mv, show decide (mvP x y b = mvP x y l) = decide (b = l) from decide_eq_decide.2 (mvP_iff x y b l)]
  split <;> rfl
theorem fold_mv (x y : Int) (l : Pt) : ∀ (L : List Pt) (b : Pt), (L.map (mvP x y)).foldl (bsS (mvP x y l)) (mvP x y b) = mvP x y (L.foldl (bsS l) b)
  | [], b => rfl
  | p :: L, b => by
    rw [List.map_cons, List.foldl_cons, List.foldl_cons, bsS_mv, fold_mv x y l L]
theorem nxC_mv (x y : Int) (L : List Pt) (l : Pt) : nxC (L.map (mvP x y)) (mvP x y l) = mvP x y (nxC L l) := fold_mv x y l L l
theorem hulC_mv (x y : Int) (L : List Pt) (fs : Pt) : ∀ (f : Nat) (O : List Pt) (l : Pt), hulC (L.map (mvP x y)) (mvP x y fs) f (O.map (mvP x y)) (mvP x y l) = (hulC L fs f O l).map (List.map (mvP x y))
  | 0, _, _ => rfl
  | f + 1, O, l => by
    rw [hulC, hulC, nxC_mv]
    by_cases h : nxC L l = fs
    · rw [if_pos h, if_pos (by rw [h])]; rfl
    · rw [if_neg h, if_neg (fun e => h ((mvP_iff x y _ _).1 e)), ← hulC_mv x y L fs f, List.map_append]; rfl
theorem okQ_mv (x y : Int) (l c p : Pt) : okQ (mvP x y l) (mvP x y c) (mvP x y p) = okQ l c p := by unfold okQ; rw [crI_mv, faI_mv, faI_mv]
theorem all_mv (x y : Int) (l c : Pt) (L : List Pt) : (L.map (mvP x y)).all (okQ (mvP x y l) (mvP x y c)) = L.all (okQ l c) := by
  rw [List.all_map]
  congr 1
  funext p
  exact okQ_mv x y l c p
theorem nxR_mv (x y : Int) (L : List Pt) (l : Pt) : nxR (L.map (mvP x y)) (mvP x y l) = mvP x y (nxR L l) := by
  unfold nxR
  rw [List.find?_map]
  have e : (fun c => decide (c ≠ mvP x y l) && (L.map (mvP x y)).all (okQ (mvP x y l) c)) ∘ mvP x y = fun c => decide (c ≠ l) && L.all (okQ l c) := by
    funext c
    show (decide (mvP x y c ≠ mvP x y l) && (L.map (mvP x y)).all (okQ (mvP x y l) (mvP x y c))) = _
    rw [all_mv, show decide (mvP x y c ≠ mvP x y l) = decide (c ≠ l) from decide_eq_decide.2 (not_congr (mvP_iff x y c l))]
  rw [e]
  cases L.find? fun c => decide (c ≠ l) && L.all (okQ l c) <;> rfl
theorem hulR_mv (x y : Int) (L : List Pt) (fs : Pt) : ∀ (f : Nat) (O : List Pt) (l : Pt), hulR (L.map (mvP x y)) (mvP x y fs) f (O.map (mvP x y)) (mvP x y l) = (hulR L fs f O l).map (List.map (mvP x y))
  | 0, _, _ => rfl
  | f + 1, O, l => by
    rw [hulR, hulR, nxR_mv]
    by_cases h : nxR L l = fs
    · rw [if_pos h, if_pos (by rw [h])]; rfl
    · rw [if_neg h, if_neg (fun e => h ((mvP_iff x y _ _).1 e)), ← hulR_mv x y L fs f, List.map_append]; rfl
theorem suA_mv (x y u v : Int) (a b : List Pt) : suA (a.map (mvP x y)) (b.map (mvP u v)) = (suA a b).map (mvP (x - u) (y - v)) := by
  unfold suA
  rw [List.flatMap_map, List.map_flatMap]
  congr 1
  funext p
  unfold suR
  rw [List.map_map, List.map_map]
  congr 1
  funext q
  simp only [Function.comp, mvP]
  refine Prod.ext ?_ ?_ <;> dsimp only <;> omega
theorem mnF_mv (x y : Int) (L : List Pt) : ∀ i, i < L.length → mnF (L.map (mvP x y)) i = mvP x y (mnF L i)
  | 0, h => by rw [mnF, mnF, mv_getD _ _ h]
  | i + 1, h => by
    rw [mnF, mnF, mnF_mv x y L i (by omega), mv_getD _ _ h, ltQ_mv]
    split <;> rfl
/-! What the kernel has found of the base shapes, for the moved ones. -/
structure Hul (a b x : List Pt) : Prop where
  c : hulC (suA a b) (mnF (suA a b) ((suA a b).length - 1)) 17 [mnF (suA a b) ((suA a b).length - 1)] (mnF (suA a b) ((suA a b).length - 1)) = some x
  r : hulR (suA a b) (mnF (suA a b) ((suA a b).length - 1)) 17 [mnF (suA a b) ((suA a b).length - 1)] (mnF (suA a b) ((suA a b).length - 1)) = some x
  three : 3 ≤ x.length
  ten : x.length ≤ 10
  one : ∀ d ∈ uqS a b, ∃ i, i < x.length ∧ onE a b x d i = true
  two : ∀ i, i < x.length → ∃ d ∈ uqS a b, onE a b x d i = true
  le : x.length ≤ (suA a b).length
theorem uqS_mv (x y u v : Int) (a b : List Pt) : uqS (a.map (mvP x y)) (b.map (mvP u v)) = uqS a b := by
  unfold uqS; rw [drs_mv]
theorem sdx_mv (x y : Int) (l : List Pt) {i : Nat} (h : i < l.length) : sdx (l.map (mvP x y)) i = sdx l i := by
  unfold sdx
  rw [mv_nx _ _ h, mv_getD _ _ h]
  unfold mvP
  dsimp only
  omega
theorem sdy_mv (x y : Int) (l : List Pt) {i : Nat} (h : i < l.length) : sdy (l.map (mvP x y)) i = sdy l i := by
  unfold sdy
  rw [mv_nx _ _ h, mv_getD _ _ h]
  unfold mvP
  dsimp only
  omega
theorem onE_mv (x y u v : Int) {a b : List Pt} (ha : 0 < a.length) (hb : 0 < b.length) (X : List Pt) (d : Dr) {i : Nat} (h : i < X.length) : onE (a.map (mvP x y)) (b.map (mvP u v)) (X.map (mvP (x - u) (y - v))) d i = onE a b X d i := by
  unfold onE
  dsimp only
  rw [sdx_mv _ _ _ h, sdy_mv _ _ _ h, moP_mv d x y ha, moP_mv (tnD d) u v hb, mv_getD _ _ h]
  have e : decide (dotI d (mvP (x - u) (y - v) (X.getD i default)) = moP d a + (d.1 * x + d.2.1 * y) + (moP (tnD d) b + ((tnD d).1 * u + (tnD d).2.1 * v))) = decide (dotI d (X.getD i default) = moP d a + moP (tnD d) b) := by
    refine decide_eq_decide.2 ?_
    generalize X.getD i default = p
    unfold dotI mvP tnD
    dsimp only
    rw [Int.mul_add, Int.mul_add, Int.mul_sub, Int.mul_sub, Int.neg_mul, Int.neg_mul]
    omega
  rw [e]
theorem hul_mv (x y u v : Int) {a b X : List Pt} (ha : 0 < a.length) (hb : 0 < b.length) (h : Hul a b X) : Hul (a.map (mvP x y)) (b.map (mvP u v)) (X.map (mvP (x - u) (y - v))) := by
  have hn : 0 < (suA a b).length := by
    unfold suA
    obtain ⟨p, a, rfl⟩ := List.exists_cons_of_length_pos ha
    rw [List.flatMap_cons, List.length_append]
    unfold suR
    rw [List.length_map]
    omega
  have e := suA_mv x y u v a b
  have e1 : mnF (suA (a.map (mvP x y)) (b.map (mvP u v))) ((suA (a.map (mvP x y)) (b.map (mvP u v))).length - 1) = mvP (x - u) (y - v) (mnF (suA a b) ((suA a b).length - 1)) := by
    rw [e, List.length_map, mnF_mv _ _ _ _ (by omega)]
  refine ⟨?_, ?_, by rw [List.length_map]; exact h.three, by rw [List.length_map]; exact h.ten, ?_, ?_, by rw [e, List.length_map, List.length_map]; exact h.le⟩
  · rw [e1, e]
    have := hulC_mv (x - u) (y - v) (suA a b) (mnF (suA a b) ((suA a b).length - 1)) 17 [mnF (suA a b) ((suA a b).length - 1)] (mnF (suA a b) ((suA a b).length - 1))
    rw [h.c] at this
    exact this
  · rw [e1, e]
    have := hulR_mv (x - u) (y - v) (suA a b) (mnF (suA a b) ((suA a b).length - 1)) 17 [mnF (suA a b) ((suA a b).length - 1)] (mnF (suA a b) ((suA a b).length - 1))
    rw [h.r] at this
    exact this
  · intro d hd
    rw [uqS_mv] at hd
    obtain ⟨i, hi, e⟩ := h.one d hd
    exact ⟨i, by rw [List.length_map]; exact hi, by rw [onE_mv _ _ _ _ ha hb _ _ hi]; exact e⟩
  · intro i hi
    rw [List.length_map] at hi
    obtain ⟨d, hd, e⟩ := h.two i hi
    exact ⟨d, by rw [uqS_mv]; exact hd, by rw [onE_mv _ _ _ _ ha hb _ _ hi]; exact e⟩
end Go.AM

/- convex.Sum's inner loop: the next corner. -/
namespace Go.AM
open Go Go.RowKit
/-- The row of all sums, frozen. -/
def frO (AA : List Pt) : Obj := ⟨2, AA.length, (AA.flatMap cP).map .d, true⟩
def l2_st (AA : List Pt) (fs : Pt) (O : List Pt) (k : Nat) (last best : Pt) (n i : Int) : St := mkS [(5, .d (rowE cP AA)), (10, .ptr [10] 0), (11, .own [k] O.length), (12, .ptr [12] 0), (13, .ptr [13] 0), (55, .d (rowE cP AA)), (56, ai n), (57, ai i)] [([10], bxP fs.1 fs.2), ([12], bxP last.1 last.2), ([13], bxP best.1 best.2), ([41], frO AA), ([k], arE cP 2 O.length O)]
def l2_en (AA : List Pt) (fs : Pt) (O : List Pt) (k : Nat) (best : Pt) : St := mkS [(5, .d (rowE cP AA)), (10, .ptr [10] 0), (11, .own [k] O.length), (13, .ptr [13] 0)] [([10], bxP fs.1 fs.2), ([13], bxP best.1 best.2), ([41], frO AA), ([k], arE cP 2 O.length O)]
theorem eqP_iff (p q : Pt) : ((p.1 == q.1) && (p.2 == q.2)) = decide (p = q) := by
  obtain ⟨a, b⟩ := p
  obtain ⟨c, d⟩ := q
  simp only [Prod.mk.injEq]
  by_cases h1 : a = c <;> by_cases h2 : b = d <;> simp [h1, h2]
theorem hupdO_47_41 (o : Obj) : hupdO (hupd hp0 [47] o) [41] none = hupd hp0 [47] o := by
  funext j
  simp only [hupdO, hupd, hp0]
  by_cases h : j = [41]
  · subst h; rfl
  · rw [if_neg h]
theorem hupdO_96_41 (o : Obj) : hupdO (hupd hp0 [96] o) [41] none = hupd hp0 [96] o := by
  funext j
  simp only [hupdO, hupd, hp0]
  by_cases h : j = [41]
  · subst h; rfl
  · rw [if_neg h]
theorem hupdO_96_47 (o : Obj) : hupdO (hupd hp0 [96] o) [47] none = hupd hp0 [96] o := by
  funext j
  simp only [hupdO, hupd, hp0]
  by_cases h : j = [47]
  · subst h; rfl
  · rw [if_neg h]
theorem tup_b : A.bool? (.d (.v (.tuple #[]))) = none := rfl
variable [Its]
set_option maxHeartbeats 2000000 in
theorem l2_go47 {AA O : List Pt} {fs last best : Pt} (hA : ∀ p ∈ AA, SmP p) (hn : AA.length ≤ 1000) (hl : SmP last) (hb : SmP best) {i : Nat} (hi : i < AA.length) :
    X G convex_Sum_l2 (l2_st AA fs O 47 last best AA.length i) = some (.n, l2_st AA fs O 47 last (bsS last best (AA.getD i default)) AA.length ((i + 1 : Nat) : Int)) := by
  have hr : RwE cP (rowE cP AA) AA := .inr rfl
  have e1 : decide ((i : Int) < (AA.length : Int)) = true := lt_t (by omega)
  have e2 : w64 ((i : Int) + 1) = ((i + 1 : Nat) : Int) := by rw [w64_id (by omega) (by omega)]; rfl
  have x1 := hr.ixa cP_len hi
  have x2 := fun hp => ldE cP_len hp hi
  have hp := getD_all hA smP0 i
  generalize AA.getD i default = p at *
  have g1 := cross_spec hl hb hp
  have g2 := far_spec hl hp
  have g3 := far_spec hl hb
  have q := eqP_iff best last
  unfold bsS
  generalize crI last best p = c at *
  generalize faI last p = u at *
  generalize faI last best = v at *
  cases h0 : decide (best = last) with
  | true =>
    rw [h0] at q
    obtain ⟨l1, l2⟩ := last
    obtain ⟨b1, b2⟩ := best
    obtain ⟨p1, p2⟩ := p
    simp only [encP, cP, iv] at x2 g1 g2 g3
    simp -implicitDefEqProofs (maxSteps := 10000000) only [convex_Sum_l2, l2_st, bxP, frO, arE, refsL_E, hupdO_none, hupdO_47_41, hupdO_96_41, hupdO_96_47, tup_b, decide_false, x1, x2, q, e1, e2, st2p, ld2p, Bool.true_or, if_true, go_sem, iv, bv, reduceCtorEq, ↓reduceIte, Nat.reduceEqDiff]
  | false =>
    rw [h0] at q
    obtain ⟨l1, l2⟩ := last
    obtain ⟨b1, b2⟩ := best
    obtain ⟨p1, p2⟩ := p
    simp only [encP, cP, iv] at x2 g1 g2 g3
    by_cases h1 : c < 0
    · have t1 : decide (c < 0) = true := lt_t h1
      simp -implicitDefEqProofs (maxSteps := 10000000) only [convex_Sum_l2, l2_st, bxP, frO, arE, refsL_E, hupdO_none, hupdO_47_41, hupdO_96_41, hupdO_96_47, tup_b, decide_false, x1, x2, q, g1, t1, e1, e2, st2p, ld2p, Bool.true_or, Bool.false_or, if_true, go_sem, iv, bv, reduceCtorEq, ↓reduceIte, Nat.reduceEqDiff]
    · have t1 : decide (c < 0) = false := lt_f (by omega)
      by_cases h2 : c = 0
      · subst h2
        have t2 : ((0 : Int) == 0) = true := rfl
        by_cases h3 : v < u
        · have t3 : decide (u > v) = true := gt_t h3
          have t4 : decide (v < u) = true := lt_t h3
          simp -implicitDefEqProofs (maxSteps := 10000000) only [convex_Sum_l2, l2_st, bxP, frO, arE, refsL_E, hupdO_none, hupdO_47_41, hupdO_96_41, hupdO_96_47, tup_b, decide_false, x1, x2, q, g1, g2, g3, t1, t2, t3, t4, e1, e2, st2p, ld2p, decide_true, Bool.and_self, Bool.true_or, Bool.false_or, if_true, go_sem, iv, bv, reduceCtorEq, ↓reduceIte, Nat.reduceEqDiff]
        · have t3 : decide (u > v) = false := gt_f (by omega)
          have t4 : decide (v < u) = false := lt_f (by omega)
          simp -implicitDefEqProofs (maxSteps := 10000000) only [convex_Sum_l2, l2_st, bxP, frO, arE, refsL_E, hupdO_none, hupdO_47_41, hupdO_96_41, hupdO_96_47, tup_b, decide_false, x1, x2, q, g1, g2, g3, t1, t2, t3, t4, e1, e2, st2p, ld2p, decide_true, Bool.and_false, Bool.true_or, Bool.false_or, Bool.false_eq_true, if_false, go_sem, iv, bv, reduceCtorEq, ↓reduceIte, Nat.reduceEqDiff]
      · have t2 : (c == 0) = false := by simp [h2]
        have t3 : decide (c = 0) = false := decide_eq_false h2
        simp -implicitDefEqProofs (maxSteps := 10000000) only [convex_Sum_l2, l2_st, bxP, frO, arE, refsL_E, hupdO_none, hupdO_47_41, hupdO_96_41, hupdO_96_47, tup_b, decide_false, x1, x2, q, g1, t1, t2, t3, e1, e2, st2p, ld2p, Bool.false_and, Bool.true_or, Bool.false_or, Bool.false_eq_true, if_false, go_sem, iv, bv, reduceCtorEq, ↓reduceIte, Nat.reduceEqDiff]
theorem l2_stop47 {AA O : List Pt} {fs last best : Pt} {n : Nat} : X G convex_Sum_l2 (l2_st AA fs O 47 last best n n) = some (.x 6, l2_en AA fs O 47 best) := by
  have e1 : decide ((n : Int) < (n : Int)) = false := lt_f (by omega)
  simp -implicitDefEqProofs (maxSteps := 10000000) only [convex_Sum_l2, l2_st, l2_en, bxP, frO, arE, refsL_E, hupdO_none, hupdO_47_41, hupdO_96_41, hupdO_96_47, e1, go_sem, iv, bv, reduceCtorEq, ↓reduceIte, Nat.reduceEqDiff]
theorem l2_loop47 {AA O : List Pt} {fs last : Pt} (hA : ∀ p ∈ AA, SmP p) (hn : AA.length ≤ 1000) (hl : SmP last) : ∀ (j i : Nat) (best : Pt), SmP best → i + j = AA.length →
    X G (.loop convex_Sum_l2) (l2_st AA fs O 47 last best AA.length i) = some (.x 6, l2_en AA fs O 47 ((AA.drop i).foldl (bsS last) best))
  | 0, i, best, hb, h => by
    have : i = AA.length := by omega
    subst this
    rw [X_loop, l2_stop47, List.drop_length]
    rfl
  | j + 1, i, best, hb, h => by
    have hi : i < AA.length := by omega
    have hp := getD_all hA smP0 i
    rw [X_loop, l2_go47 hA hn hl hb hi, Option.bind_some, if_pos rfl, l2_loop47 hA hn hl j (i + 1) _ (by unfold bsS; split <;> assumption) (by omega), drop_getD hi, List.foldl_cons]
end Go.AM

/- convex.Sum. -/
namespace Go.AM
open Go Go.RowKit
def l3_st (AA : List Pt) (fs : Pt) (O : List Pt) : St := mkS [(5, .d (rowE cP AA)), (10, .ptr [10] 0), (11, .own [47] O.length)] [([10], bxP fs.1 fs.2), ([41], frO AA), ([47], arE cP 2 O.length O)]
def l3_en (O : List Pt) : St := mkS [(4, .own [47] O.length)] [([47], arE cP 2 O.length O)]
theorem smP_bs {last best p : Pt} (hb : SmP best) (hp : SmP p) : SmP (bsS last best p) := by unfold bsS; split <;> assumption
theorem smP_fold {last : Pt} : ∀ (l : List Pt) (b : Pt), SmP b → (∀ p ∈ l, SmP p) → SmP (l.foldl (bsS last) b)
  | [], b, hb, _ => hb
  | p :: l, b, hb, h => by
    rw [List.foldl_cons]
    exact smP_fold l _ (smP_bs hb (h p (List.mem_cons_self ..))) fun q hq => h q (List.mem_cons_of_mem _ hq)
theorem suA_sm {a b : List Pt} (ha : ∀ p ∈ a, -40000000 ≤ p.1 ∧ p.1 ≤ 40000000 ∧ -40000000 ≤ p.2 ∧ p.2 ≤ 40000000) (hb : ∀ p ∈ b, -40000000 ≤ p.1 ∧ p.1 ≤ 40000000 ∧ -40000000 ≤ p.2 ∧ p.2 ≤ 40000000) : ∀ p ∈ suA a b, SmP p := by
  intro p hp
  unfold suA at hp
  obtain ⟨q, hq, hp⟩ := List.mem_flatMap.1 hp
  unfold suR at hp
  obtain ⟨r, hr, rfl⟩ := List.mem_map.1 hp
  have := ha q hq
  have := hb r hr
  simp only [SmP, Sm]
  omega
theorem suA_len (a b : List Pt) : (suA a b).length = a.length * b.length := by
  unfold suA
  induction a with
  | nil => simp
  | cons p a ih =>
    rw [List.flatMap_cons, List.length_append, ih]
    unfold suR
    rw [List.length_map, List.length_cons, Nat.succ_mul]
    omega
variable [Its]
set_option maxHeartbeats 1000000 in
theorem l3_go {AA O : List Pt} {fs last : Pt} (hA : ∀ p ∈ AA, SmP p) (hn : AA.length ≤ 1000) (h0 : 0 < O.length) (hO : O.length ≤ 1000) (hl : SmP last) (e : O.getD (O.length - 1) default = last) :
    X G convex_Sum_l3 (l3_st AA fs O) = if nxC AA last = fs then some (.r, l3_en O) else some (.n, l3_st AA fs (O ++ [nxC AA last])) := by
  have hr : RwE cP (rowE cP AA) AA := .inr rfl
  have ll := hr.len
  have e1 : w64 ((O.length : Int) - 1) = ((O.length - 1 : Nat) : Int) := by rw [w64_id (by omega) (by omega)]; omega
  have b1 : (0 ≤ ((O.length - 1 : Nat) : Int)) = True := eq_true (by omega)
  have b2 : (((O.length - 1 : Nat) : Int) < (O.length : Int)) = True := eq_true (by omega)
  have x1 := ldO cP_len (l := O) (j := O.length - 1) (by omega)
  rw [e] at x1
  have g := l2_loop47 (O := O) (fs := fs) hA hn hl AA.length 0 last hl (by omega)
  rw [List.drop_zero] at g
  have en : AA.foldl (bsS last) last = nxC AA last := rfl
  rw [en] at g
  generalize nxC AA last = z at *
  have q := eqP_iff z fs
  have n3 := lenE cP_len O
  have n4 : ((O.length + 1) * 16 ≤ bound) = True := eq_true (by unfold bound; omega)
  have n5 : (O ++ [z]).length = O.length + 1 := by simp
  have n6 := cP_snoc O z.1 z.2
  obtain ⟨z1, z2⟩ := z
  obtain ⟨f1, f2⟩ := fs
  obtain ⟨t1, t2⟩ := last
  dsimp only at q n6
  simp only [cP, iv] at x1
  simp only [l2_st, l2_en, bxP, frO, arE, nc0, hupdO_none, hupdO_47_41, go_sem, iv] at g
  by_cases hz : (z1, z2) = (f1, f2)
  · have t : decide ((z1, z2) = (f1, f2)) = true := decide_eq_true hz
    rw [t] at q
    rw [if_pos hz]
    simp -implicitDefEqProofs (maxSteps := 10000000) only [convex_Sum_l3, l3_st, l3_en, bxP, frO, arE, g, ll, e1, b1, b2, x1, q, nc0, refsL_E, Int.toNat_natCast, hupdO_none, hupdO_47_41, st2p, ld2p, go_sem, iv, bv, reduceCtorEq, ↓reduceIte, Nat.reduceEqDiff]
  · have t : decide ((z1, z2) = (f1, f2)) = false := decide_eq_false hz
    rw [t] at q
    rw [if_neg hz]
    simp -implicitDefEqProofs (maxSteps := 10000000) only [convex_Sum_l3, l3_st, l3_en, bxP, frO, arE, g, ll, e1, b1, b2, x1, q, nc0, n3, n4, n5, n6, rep1_2, oneI, srcS, src, allD, List.all_cons, List.all_nil, List.nil_append, List.cons_append, List.length_nil, List.length_cons, Nat.zero_add, List.map_cons, List.map_nil, refsL_E, Int.toNat_natCast, hupdO_none, hupdO_47_41, st2p, ld2p, go_sem, iv, bv, reduceCtorEq, ↓reduceIte, Nat.reduceEqDiff]
theorem l3_loop {AA : List Pt} {fs : Pt} (hA : ∀ p ∈ AA, SmP p) (hn : AA.length ≤ 1000) {x : List Pt} : ∀ (f : Nat) (O : List Pt) (last : Pt), 0 < O.length → O.length + f ≤ 1000 → SmP last → O.getD (O.length - 1) default = last →
    hulC AA fs f O last = some x → X G (.loop convex_Sum_l3) (l3_st AA fs O) = some (.r, l3_en x)
  | 0, O, last, _, _, _, _, h => by cases h
  | f + 1, O, last, h0, hO, hl, e, h => by
    rw [X_loop, l3_go hA hn h0 (by omega) hl e]
    rw [hulC] at h
    by_cases hz : nxC AA last = fs
    · rw [if_pos hz] at h ⊢
      cases h
      rfl
    · rw [if_neg hz] at h ⊢
      rw [Option.bind_some, if_pos rfl]
      exact l3_loop hA hn f _ _ (by simp) (by rw [List.length_append, List.length_singleton]; omega) (smP_fold _ _ hl hA) (by simp [nxC]) h
theorem cSum_spec {da db : D} {a b x : List Pt} (hra : RwE cP da a) (hrb : RwE cP db b) (ha : ∀ p ∈ a, -40000000 ≤ p.1 ∧ p.1 ≤ 40000000 ∧ -40000000 ≤ p.2 ∧ p.2 ≤ 40000000) (hb : ∀ p ∈ b, -40000000 ≤ p.1 ∧ p.1 ≤ 40000000 ∧ -40000000 ≤ p.2 ∧ p.2 ≤ 40000000) (na : a.length ≤ 8) (nb : b.length ≤ 8) (h0 : 0 < a.length) (h1 : 0 < b.length)
    (h : hulC (suA a b) (mnF (suA a b) ((suA a b).length - 1)) 17 [mnF (suA a b) ((suA a b).length - 1)] (mnF (suA a b) ((suA a b).length - 1)) = some x) :
    callX G n_convex_Sum [da, db] = some (.own 2 x.length (x.flatMap cP)) := by
  rw [callX_eq (cf := convex_Sum) rfl]
  have hS := suA_sm ha hb
  have hl : (suA a b).length ≤ 64 ∧ 0 < (suA a b).length := by
    rw [suA_len]
    exact ⟨Nat.le_trans (Nat.mul_le_mul na nb) (by omega), Nat.mul_pos h0 h1⟩
  have sm : ∀ {l : List Pt}, (∀ p ∈ l, -40000000 ≤ p.1 ∧ p.1 ≤ 40000000 ∧ -40000000 ≤ p.2 ∧ p.2 ≤ 40000000) → ∀ p ∈ l, SmP p := fun h p hp => by have := h p hp; simp only [SmP, Sm]; omega
  have g0 := cu1_loop hra hrb (sm ha) (sm hb) (by omega) (by omega) a.length 0 [] (by omega) (by simp; omega)
  rw [List.drop_zero, List.nil_append] at g0
  have hne : suA a b ≠ [] := fun e => by rw [e] at hl; simp at hl
  have g1 := MinF_spec (d := rowE cP (suA a b)) (l := suA a b) (.inr rfl) hl.2 (by omega)
  have hf : SmP (mnF (suA a b) ((suA a b).length - 1)) := mnF_all (P := SmP) (fun i => getD_all hS smP0 i) _
  generalize suA a b = AA at *
  generalize mnF AA (AA.length - 1) = fs at *
  have g2 := l3_loop hS (by omega) 17 [fs] fs (by simp) (by simp) hf rfl h
  have ll := hra.len
  obtain ⟨f1, f2⟩ := fs
  simp only [cu1_st, cu1_en, gAE_nil, gHE_nil, gAE_ne hne, gHE_ne hne, arE, hupdO_none, nc0, go_sem, iv] at g0
  have n6 := flat1P f1 f2
  simp only [l3_st, l3_en, bxP, frO, arE, n6, rowE, List.length_singleton, List.map_cons, List.map_nil, hupdO_none, hupdO_47_41, go_sem, iv] at g2
  simp only [encP, cP, rowE, iv] at g1
  simp -implicitDefEqProofs (maxSteps := 10000000) only [convex_Sum, frzSt, frO, g0, g1, g2, ll, nc0, rowE, bxP, frO, arE, allD_E, refsL_E, rep1_2, fillB, partsB, oneI, srcS, src, allD, List.map_cons, List.map_nil, List.length_cons, List.length_nil, Nat.zero_add, Int.toNat_natCast, hupdO_none, hupdO_47_41, st2p, ld2p, go_sem, iv, bv, reduceCtorEq, ↓reduceIte, Nat.reduceEqDiff]
end Go.AM

/- ref12.Sum. -/
namespace Go.AM
open Go Go.RowKit
theorem ldO0 {l : List Pt} {j : Nat} (h : j < l.length) : ldcells none (j * 2) ((l.flatMap cP).map A.d) = some (.d (iv (l.getD j default).1)) := by
  show ((l.flatMap cP).map A.d)[j * 2]? = _
  have e : ((l.flatMap cP).map A.d).drop (j * 2) = ((l.drop j).flatMap cP).map A.d := by rw [← List.map_drop, flat_drop cP_len]
  have e2 : (((l.flatMap cP).map A.d).drop (j * 2))[0]? = ((l.flatMap cP).map A.d)[j * 2]? := by rw [List.getElem?_drop]; rfl
  rw [← e2, e, drop_getD h]
  rfl
theorem ldO1 {l : List Pt} {j : Nat} (h : j < l.length) : ldcells none (j * 2 + 1) ((l.flatMap cP).map A.d) = some (.d (iv (l.getD j default).2)) := by
  show ((l.flatMap cP).map A.d)[j * 2 + 1]? = _
  have e : ((l.flatMap cP).map A.d).drop (j * 2) = ((l.drop j).flatMap cP).map A.d := by rw [← List.map_drop, flat_drop cP_len]
  have e2 : (((l.flatMap cP).map A.d).drop (j * 2))[1]? = ((l.flatMap cP).map A.d)[j * 2 + 1]? := by rw [List.getElem?_drop]
  rw [← e2, e, drop_getD h]
  rfl
def r0_st (da db : D) (L : List Pt) (i k : Int) : St := mkS [(0, .d da), (1, .d db), (5, gAE 57 L), (6, ai i), (7, ai k)] (gHE cP 2 57 L)
def r1_st (da db : D) (L : List Pt) (i : Int) : St := mkS [(0, .d da), (1, .d db), (5, gAE 57 L), (6, ai i)] (gHE cP 2 57 L)
def r1_en (L : List Pt) : St := mkS [(5, gAE 57 L)] (gHE cP 2 57 L)
def r2_st (L : List Pt) (p : Pt) (i : Int) : St := mkS [(5, .own [57] L.length), (8, .ptr [8] 0), (9, ai i)] [([8], bxP p.1 p.2), ([57], arE cP 2 L.length L)]
def r2_en (L : List Pt) (p : Pt) : St := mkS [(5, .own [57] L.length), (8, .ptr [8] 0)] [([8], bxP p.1 p.2), ([57], arE cP 2 L.length L)]
def r3_st (L O : List Pt) (fs last : Pt) (i : Int) (b : Bool) (k : Int) : St := mkS [(5, .own [57] L.length), (8, .ptr [8] 0), (10, .own [100] O.length), (11, .ptr [11] 0), (12, ai i), (13, ab b), (14, ai k)] [([8], bxP fs.1 fs.2), ([11], bxP last.1 last.2), ([57], arE cP 2 L.length L), ([100], arE cP 2 O.length O)]
def r3_en (L O : List Pt) (fs last : Pt) (i : Int) (b : Bool) : St := mkS [(5, .own [57] L.length), (8, .ptr [8] 0), (10, .own [100] O.length), (11, .ptr [11] 0), (12, ai i), (13, ab b)] [([8], bxP fs.1 fs.2), ([11], bxP last.1 last.2), ([57], arE cP 2 L.length L), ([100], arE cP 2 O.length O)]
def r4_st (L O : List Pt) (fs last : Pt) (i : Int) : St := mkS [(5, .own [57] L.length), (8, .ptr [8] 0), (10, .own [100] O.length), (11, .ptr [11] 0), (12, ai i)] [([8], bxP fs.1 fs.2), ([11], bxP last.1 last.2), ([57], arE cP 2 L.length L), ([100], arE cP 2 O.length O)]
def r4_en (L O : List Pt) (fs last : Pt) : St := mkS [(5, .own [57] L.length), (8, .ptr [8] 0), (10, .own [100] O.length), (11, .ptr [11] 0)] [([8], bxP fs.1 fs.2), ([11], bxP last.1 last.2), ([57], arE cP 2 L.length L), ([100], arE cP 2 O.length O)]
def r5_st (L O : List Pt) (fs : Pt) : St := mkS [(5, .own [57] L.length), (8, .ptr [8] 0), (10, .own [100] O.length)] [([8], bxP fs.1 fs.2), ([57], arE cP 2 L.length L), ([100], arE cP 2 O.length O)]
def r5_en (O : List Pt) : St := mkS [(4, .own [100] O.length)] [([100], arE cP 2 O.length O)]
theorem hupdO_57_100 (o : Obj) : hupdO (hupd hp0 [57] o) [100] none = hupd hp0 [57] o := by
  funext j
  simp only [hupdO, hupd, hp0]
  by_cases h : j = [100]
  · subst h; rfl
  · rw [if_neg h]
theorem hupdO_100_210 (o : Obj) : hupdO (hupd hp0 [100] o) [210] none = hupd hp0 [100] o := by
  funext j
  simp only [hupdO, hupd, hp0]
  by_cases h : j = [210]
  · subst h; rfl
  · rw [if_neg h]
def mnR (l : List Pt) : Nat → Pt
  | 0 => l.getD 0 default
  | i + 1 => if ltQ (l.getD i default) (mnR l i) = true then l.getD i default else mnR l i
theorem mnR_F (l : List Pt) : ∀ i, mnR l (i + 1) = mnF l i
  | 0 => by
    show (if ltQ (l.getD 0 default) (l.getD 0 default) = true then l.getD 0 default else l.getD 0 default) = l.getD 0 default
    split <;> rfl
  | i + 1 => by
    rw [mnR, mnR_F l i]; rfl
theorem hulR_le {all : List Pt} {fs : Pt} {x : List Pt} : ∀ (f : Nat) (O : List Pt) (l : Pt), hulR all fs f O l = some x → O.length ≤ x.length
  | 0, _, _, h => by cases h
  | f + 1, O, l, h => by
    rw [hulR] at h
    split at h
    · cases h; exact Nat.le_refl _
    · have := hulR_le f _ _ h
      rw [List.length_append] at this
      omega
variable [Its]
theorem Left_spec {a b c : Pt} (ha : SmP a) (hb : SmP b) (hc : SmP c) : callX G n_gantryref12_Left [encP a, encP b, encP c] = some (.d (iv (crI a b c))) := by
  rw [callX_eq (cf := gantryref12_Left) rfl]
  obtain ⟨a1, a2⟩ := a
  obtain ⟨b1, b2⟩ := b
  obtain ⟨c1, c2⟩ := c
  obtain ⟨h1, h2⟩ := ha
  obtain ⟨h3, h4⟩ := hb
  obtain ⟨h5, h6⟩ := hc
  simp only [Sm] at h1 h2 h3 h4 h5 h6
  unfold crI
  dsimp only
  obtain ⟨x, hx⟩ : ∃ x, b1 - a1 = x := ⟨_, rfl⟩
  obtain ⟨y, hy⟩ : ∃ x, c2 - a2 = x := ⟨_, rfl⟩
  obtain ⟨z, hz⟩ : ∃ x, b2 - a2 = x := ⟨_, rfl⟩
  obtain ⟨t, ht⟩ : ∃ x, c1 - a1 = x := ⟨_, rfl⟩
  have e1 : w64 (b1 - a1) = x := by rw [w64_id (by omega) (by omega), hx]
  have e2 : w64 (c2 - a2) = y := by rw [w64_id (by omega) (by omega), hy]
  have e3 : w64 (b2 - a2) = z := by rw [w64_id (by omega) (by omega), hz]
  have e4 : w64 (c1 - a1) = t := by rw [w64_id (by omega) (by omega), ht]
  have bb : ∀ u v : Int, -200000000 ≤ u ∧ u ≤ 200000000 → -200000000 ≤ v ∧ v ≤ 200000000 → -40000000000000000 ≤ u * v ∧ u * v ≤ 40000000000000000 := by
    intro u v hu hv
    have h1 : (u * v).natAbs ≤ 200000000 * 200000000 := by
      rw [Int.natAbs_mul]
      exact Nat.mul_le_mul (by omega) (by omega)
    omega
  have m1 := bb x y (by omega) (by omega)
  have m2 := bb z t (by omega) (by omega)
  clear bb
  rw [hx, hy, hz, ht]
  have e5 : w64 (x * y) = x * y := w64_id (by omega) (by omega)
  have e6 : w64 (z * t) = z * t := w64_id (by omega) (by omega)
  have e7 : w64 (x * y - z * t) = x * y - z * t := w64_id (by omega) (by omega)
  simp -implicitDefEqProofs (maxSteps := 10000000) only [gantryref12_Left, encP, cP, ld2_0, ld2_1, go_sem, iv, bv, e1, e2, e3, e4, e5, e6, e7, reduceCtorEq, ↓reduceIte, Nat.reduceEqDiff]
theorem r0_go {da db : D} {a b : List Pt} (hra : RwE cP da a) (hr : RwE cP db b) (ha : ∀ p ∈ a, SmP p) (hb : ∀ p ∈ b, SmP p) (hn : b.length ≤ 1000) {L : List Pt} (hL : L.length ≤ 1000) {i k : Nat} (hi : i < a.length) (hk : k < b.length) :
    X G gantryref12_Sum_l0 (r0_st da db L i k) = some (.n, r0_st da db (L ++ [suO (a.getD i default) (b.getD k default)]) i ((k + 1 : Nat) : Int)) := by
  have e1 : decide ((k : Int) < (b.length : Int)) = true := lt_t (by omega)
  have e2 : w64 ((k : Int) + 1) = ((k + 1 : Nat) : Int) := by rw [w64_id (by omega) (by omega)]; rfl
  have ll := hr.len
  have x1 := hr.ixa cP_len hk
  have x2 := fun hp => ldF (en := cP) (i := 0) cP_len hp hk (by omega)
  have x3 := fun hp => ldF (en := cP) (i := 1) cP_len hp hk (by omega)
  have x4 := hra.ixa cP_len hi
  have x5 := fun hp => ldF (en := cP) (i := 0) cP_len hp hi (by omega)
  have x6 := fun hp => ldF (en := cP) (i := 1) cP_len hp hi (by omega)
  have hp := getD_all ha smP0 i
  have hq := getD_all hb smP0 k
  unfold suO
  generalize b.getD k default = q at *
  generalize a.getD i default = p at *
  obtain ⟨x, y⟩ := q
  obtain ⟨p1, p2⟩ := p
  obtain ⟨h1, h2⟩ := hq
  obtain ⟨h3, h4⟩ := hp
  simp only [Sm] at h1 h2 h3 h4
  dsimp only
  obtain ⟨u, hu⟩ : ∃ u, p1 - x = u := ⟨_, rfl⟩
  obtain ⟨v, hv⟩ : ∃ v, p2 - y = v := ⟨_, rfl⟩
  have e3 : w64 (p1 - x) = u := by rw [w64_id (by omega) (by omega), hu]
  have e4 : w64 (p2 - y) = v := by rw [w64_id (by omega) (by omega), hv]
  simp only [cP, List.drop_zero, List.getElem?_cons_succ, List.getElem?_cons_zero, Option.map_some, iv] at x2 x3 x5 x6
  rw [hu, hv]
  by_cases h0 : L = []
  · subst h0
    have hb : (16 ≤ bound) = True := eq_true (by unfold bound; omega)
    have hb1 : (1 * 16 ≤ bound) = True := eq_true (by unfold bound; omega)
    have hq : ([(u, v)] : List Pt) ≠ [] := by simp
    simp -implicitDefEqProofs (maxSteps := 10000000) only [gantryref12_Sum_l0, r0_st, ll, gAE_nil, gHE_nil, gAE_ne hq, gHE_ne hq, arE, flat1P, hupdO_none, st2p, ld2_0, ld2_1, fillB, partsB, List.nil_append, List.cons_append, List.length_nil, List.length_cons, Nat.zero_add, List.map_cons, List.map_nil, rep1_2, oneI, srcS, src, allD, hb, hb1, x1, x2, x3, x4, x5, x6, List.drop_zero, go_sem, iv, bv, e1, e2, e3, e4, reduceCtorEq, ↓reduceIte, Nat.reduceEqDiff]
  · have n3 := lenE cP_len L
    have n4 : ((L.length + 1) * 16 ≤ bound) = True := eq_true (by unfold bound; omega)
    simp -implicitDefEqProofs (maxSteps := 10000000) only [gantryref12_Sum_l0, r0_st, ll, gAE_ne h0, gHE_ne h0, gAE_snoc, gHE_snoc, arE, cP_snoc, refsL_E, n3, n4, st2p, ld2_0, ld2_1, fillB, partsB, List.nil_append, List.cons_append, List.length_nil, List.length_cons, Nat.zero_add, List.map_cons, List.map_nil, List.all_cons, List.all_nil, rep1_2, oneI, srcS, src, allD, x1, x2, x3, x4, x5, x6, List.drop_zero, go_sem, iv, bv, e1, e2, e3, e4, reduceCtorEq, ↓reduceIte, Nat.reduceEqDiff]
theorem r0_stop {da db : D} {b L : List Pt} (hr : RwE cP db b) {i : Int} : X G gantryref12_Sum_l0 (r0_st da db L i b.length) = some (.x 2, r1_st da db L i) := by
  have e1 : decide ((b.length : Int) < (b.length : Int)) = false := lt_f (by omega)
  have ll := hr.len
  by_cases h0 : L = []
  · subst h0
    simp -implicitDefEqProofs (maxSteps := 10000000) only [gantryref12_Sum_l0, r0_st, r1_st, ll, gAE_nil, gHE_nil, hupdO_none, go_sem, iv, bv, e1, reduceCtorEq, ↓reduceIte, Nat.reduceEqDiff]
  · simp -implicitDefEqProofs (maxSteps := 10000000) only [gantryref12_Sum_l0, r0_st, r1_st, ll, gAE_ne h0, gHE_ne h0, arE, refsL_E, go_sem, iv, bv, e1, reduceCtorEq, ↓reduceIte, Nat.reduceEqDiff]
theorem r0_loop {da db : D} {a b : List Pt} (hra : RwE cP da a) (hr : RwE cP db b) (ha : ∀ p ∈ a, SmP p) (hb : ∀ p ∈ b, SmP p) (hn : b.length ≤ 10) {i : Nat} (hi : i < a.length) : ∀ (j k : Nat) (L : List Pt), k + j = b.length → L.length + j ≤ 1000 →
    X G (.loop gantryref12_Sum_l0) (r0_st da db L i k) = some (.x 2, r1_st da db (L ++ suR (a.getD i default) (b.drop k)) i)
  | 0, k, L, h, hl => by
    have : k = b.length := by omega
    subst this
    rw [X_loop, r0_stop hr, List.drop_length]
    simp [suR]
  | j + 1, k, L, h, hl => by
    have hk : k < b.length := by omega
    rw [X_loop, r0_go hra hr ha hb (by omega) (by omega) hi hk, Option.bind_some, if_pos rfl, r0_loop hra hr ha hb hn hi j (k + 1) _ (by omega) (by rw [List.length_append, List.length_singleton]; omega), drop_getD hk]
    simp [suR, suO]
theorem r1_go {da db : D} {a b : List Pt} (hra : RwE cP da a) (hr : RwE cP db b) (ha : ∀ p ∈ a, SmP p) (hb : ∀ p ∈ b, SmP p) (hn : b.length ≤ 10) {L : List Pt} (hL : L.length ≤ 900) {i : Nat} (hi : i < a.length) (hna : a.length ≤ 1000) :
    X G gantryref12_Sum_l1 (r1_st da db L i) = some (.n, r1_st da db (L ++ suR (a.getD i default) b) ((i + 1 : Nat) : Int)) := by
  have e1 : decide ((i : Int) < (a.length : Int)) = true := lt_t (by omega)
  have e2 : w64 ((i : Int) + 1) = ((i + 1 : Nat) : Int) := by rw [w64_id (by omega) (by omega)]; rfl
  have ll := hra.len
  have g := r0_loop hra hr ha hb hn hi b.length 0 L (by omega) (by omega)
  rw [List.drop_zero] at g
  generalize L ++ suR (a.getD i default) b = M at *
  by_cases h0 : L = []
  · subst h0
    by_cases h1 : M = []
    · subst h1
      simp only [r0_st, r1_st, gAE_nil, gHE_nil, hupdO_none, nc0, go_sem, iv] at g
      simp -implicitDefEqProofs (maxSteps := 10000000) only [gantryref12_Sum_l1, r1_st, gAE_nil, gHE_nil, hupdO_none, g, ll, go_sem, iv, bv, e1, e2, reduceCtorEq, ↓reduceIte, Nat.reduceEqDiff]
    · simp only [r0_st, r1_st, gAE_nil, gHE_nil, gAE_ne h1, gHE_ne h1, arE, hupdO_none, nc0, go_sem, iv] at g
      simp -implicitDefEqProofs (maxSteps := 10000000) only [gantryref12_Sum_l1, r1_st, gAE_nil, gHE_nil, gAE_ne h1, gHE_ne h1, arE, refsL_E, hupdO_none, g, ll, go_sem, iv, bv, e1, e2, reduceCtorEq, ↓reduceIte, Nat.reduceEqDiff]
  · by_cases h1 : M = []
    · subst h1
      simp only [r0_st, r1_st, gAE_nil, gHE_nil, gAE_ne h0, gHE_ne h0, arE, hupdO_none, nc0, go_sem, iv] at g
      simp -implicitDefEqProofs (maxSteps := 10000000) only [gantryref12_Sum_l1, r1_st, gAE_nil, gHE_nil, gAE_ne h0, gHE_ne h0, arE, refsL_E, hupdO_none, g, ll, go_sem, iv, bv, e1, e2, reduceCtorEq, ↓reduceIte, Nat.reduceEqDiff]
    · simp only [r0_st, r1_st, gAE_ne h0, gHE_ne h0, gAE_ne h1, gHE_ne h1, arE, nc0, go_sem, iv] at g
      simp -implicitDefEqProofs (maxSteps := 10000000) only [gantryref12_Sum_l1, r1_st, gAE_ne h0, gHE_ne h0, gAE_ne h1, gHE_ne h1, arE, refsL_E, g, ll, go_sem, iv, bv, e1, e2, reduceCtorEq, ↓reduceIte, Nat.reduceEqDiff]
theorem r1_stop {da db : D} {a L : List Pt} (hr : RwE cP da a) : X G gantryref12_Sum_l1 (r1_st da db L a.length) = some (.x 0, r1_en L) := by
  have e1 : decide ((a.length : Int) < (a.length : Int)) = false := lt_f (by omega)
  have ll := hr.len
  by_cases h0 : L = []
  · subst h0
    simp -implicitDefEqProofs (maxSteps := 10000000) only [gantryref12_Sum_l1, r1_st, r1_en, ll, gAE_nil, gHE_nil, hupdO_none, go_sem, iv, bv, e1, reduceCtorEq, ↓reduceIte, Nat.reduceEqDiff]
  · simp -implicitDefEqProofs (maxSteps := 10000000) only [gantryref12_Sum_l1, r1_st, r1_en, ll, gAE_ne h0, gHE_ne h0, arE, refsL_E, go_sem, iv, bv, e1, reduceCtorEq, ↓reduceIte, Nat.reduceEqDiff]
theorem r1_loop {da db : D} {a b : List Pt} (hra : RwE cP da a) (hr : RwE cP db b) (ha : ∀ p ∈ a, SmP p) (hb : ∀ p ∈ b, SmP p) (hn : b.length ≤ 10) (hna : a.length ≤ 10) : ∀ (j i : Nat) (L : List Pt), i + j = a.length → L.length + j * 10 ≤ 900 →
    X G (.loop gantryref12_Sum_l1) (r1_st da db L i) = some (.x 0, r1_en (L ++ suA (a.drop i) b))
  | 0, i, L, h, hl => by
    have : i = a.length := by omega
    subst this
    rw [X_loop, r1_stop hra, List.drop_length]
    simp [suA]
  | j + 1, i, L, h, hl => by
    have hi : i < a.length := by omega
    have hs : (suR (a.getD i default) b).length ≤ 10 := by unfold suR; rw [List.length_map]; exact hn
    rw [X_loop, r1_go hra hr ha hb hn (by omega) hi (by omega), Option.bind_some, if_pos rfl, r1_loop hra hr ha hb hn hna j (i + 1) _ (by omega) (by rw [List.length_append]; omega), drop_getD hi]
    simp [suA]
theorem r2_go {L : List Pt} (hn : L.length ≤ 1000) {p : Pt} {i : Nat} (hi : i < L.length) : X G gantryref12_Sum_l2 (r2_st L p i) = some (.n, r2_st L (if ltQ (L.getD i default) p = true then L.getD i default else p) ((i + 1 : Nat) : Int)) := by
  have e1 : decide ((i : Int) < (L.length : Int)) = true := lt_t (by omega)
  have e2 : w64 ((i : Int) + 1) = ((i + 1 : Nat) : Int) := by rw [w64_id (by omega) (by omega)]; rfl
  have b1 : (0 ≤ (i : Int)) = True := eq_true (by omega)
  have b2 : ((i : Int) < (L.length : Int)) = True := eq_true (by omega)
  have x0 := ldO cP_len (l := L) (j := i) hi
  have x1 := ldO0 hi
  have x2 := ldO1 hi
  generalize L.getD i default = q at *
  obtain ⟨q1, q2⟩ := q
  obtain ⟨p1, p2⟩ := p
  simp only [cP, iv] at x0 x1 x2
  unfold ltQ
  dsimp only
  by_cases h1 : q2 < p2
  · have t1 : decide (q2 < p2) = true := lt_t h1
    rw [t1]
    simp -implicitDefEqProofs (maxSteps := 10000000) only [gantryref12_Sum_l2, Nat.add_zero, r2_st, bxP, arE, b1, b2, x0, x1, x2, t1, e1, e2, tup_b, decide_false, refsL_E, Int.toNat_natCast, st2p, ld2_0, ld2_1, Bool.true_or, if_true, go_sem, iv, bv, reduceCtorEq, ↓reduceIte, Nat.reduceEqDiff]
  · have t1 : decide (q2 < p2) = false := lt_f (by omega)
    rw [t1]
    by_cases h2 : q2 = p2
    · have t2 : (q2 == p2) = true := beq_iff_eq.2 h2
      have t3 : decide (q2 = p2) = true := decide_eq_true h2
      by_cases h3 : q1 < p1
      · have t4 : decide (q1 < p1) = true := lt_t h3
        simp -implicitDefEqProofs (maxSteps := 10000000) only [gantryref12_Sum_l2, Nat.add_zero, r2_st, bxP, arE, b1, b2, x0, x1, x2, t1, t2, t3, t4, e1, e2, tup_b, decide_false, decide_true, refsL_E, Int.toNat_natCast, st2p, ld2_0, ld2_1, Bool.and_self, Bool.false_or, if_true, go_sem, iv, bv, reduceCtorEq, ↓reduceIte, Nat.reduceEqDiff]
      · have t4 : decide (q1 < p1) = false := lt_f (by omega)
        simp -implicitDefEqProofs (maxSteps := 10000000) only [gantryref12_Sum_l2, Nat.add_zero, r2_st, bxP, arE, b1, b2, x0, x1, x2, t1, t2, t3, t4, e1, e2, tup_b, decide_false, decide_true, refsL_E, Int.toNat_natCast, st2p, ld2_0, ld2_1, Bool.and_false, Bool.false_or, Bool.false_eq_true, if_false, go_sem, iv, bv, reduceCtorEq, ↓reduceIte, Nat.reduceEqDiff]
    · have t2 : (q2 == p2) = false := beq_eq_false_iff_ne.2 h2
      have t3 : decide (q2 = p2) = false := decide_eq_false h2
      simp -implicitDefEqProofs (maxSteps := 10000000) only [gantryref12_Sum_l2, Nat.add_zero, r2_st, bxP, arE, b1, b2, x0, x1, x2, t1, t2, t3, e1, e2, tup_b, decide_false, decide_true, refsL_E, Int.toNat_natCast, st2p, ld2_0, ld2_1, Bool.false_and, Bool.or_self, Bool.false_or, Bool.false_eq_true, if_false, go_sem, iv, bv, reduceCtorEq, ↓reduceIte, Nat.reduceEqDiff]
theorem r2_stop {L : List Pt} {p : Pt} : X G gantryref12_Sum_l2 (r2_st L p L.length) = some (.x 4, r2_en L p) := by
  have e1 : decide ((L.length : Int) < (L.length : Int)) = false := lt_f (by omega)
  simp -implicitDefEqProofs (maxSteps := 10000000) only [gantryref12_Sum_l2, r2_st, r2_en, bxP, arE, e1, refsL_E, go_sem, iv, bv, reduceCtorEq, ↓reduceIte, Nat.reduceEqDiff]
theorem r2_loop {L : List Pt} (hn : L.length ≤ 1000) : ∀ (j i : Nat), i + j = L.length → X G (.loop gantryref12_Sum_l2) (r2_st L (mnR L i) i) = some (.x 4, r2_en L (mnR L L.length))
  | 0, i, h => by
    have : i = L.length := by omega
    subst this
    rw [X_loop, r2_stop]; rfl
  | j + 1, i, h => by
    rw [X_loop, r2_go hn (by omega), Option.bind_some, if_pos rfl]
    exact r2_loop hn j (i + 1) (by omega)
end Go.AM

