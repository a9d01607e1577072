/- Part 10 of the proof: a small machine, its soundness against the model, and what the program's functions compute on it. -/
import Derived.Test.YtfdelaplhpmneaaGreatM9
import Derived.Test.YtfdelaplhpmneaaGreatM3
import Derived.Test.YtfdelaplhpmneaaGreatM8
import Derived.Test.YtfdelaplhpmneaaGreatM7
import Derived.KernelRfl
set_option linter.unusedVariables false
set_option linter.unusedSimpArgs false
/- Rows and arrays of rationals. -/
namespace Go.AM
open Go Go.RowKit

def cRs : List Rat → List D
  | [] => []
  | q :: l => .v (.bool (decide (q.num < 0))) :: dg (digs q.num.natAbs) :: .v (.bool false) :: dg (dd q.den) :: cRs l
def rowR (l : List Rat) : D := .row l.length (cRs l)
theorem cRs_length : ∀ l : List Rat, (cRs l).length = l.length * 4
  | [] => rfl
  | q :: l => by simp only [cRs, List.length_cons, cRs_length l]; omega
theorem cRs_drop : ∀ (l : List Rat) (n : Nat), (cRs l).drop (n * 4) = cRs (l.drop n)
  | [], n => by simp [cRs]
  | q :: l, 0 => rfl
  | q :: l, n + 1 => by
    rw [show (n + 1) * 4 = n * 4 + 1 + 1 + 1 + 1 by omega, cRs]
    simp only [List.drop_succ_cons]
    exact cRs_drop l n
theorem cRs_take : ∀ (l : List Rat) (n : Nat), (cRs l).take (n * 4) = cRs (l.take n)
  | [], n => by simp [cRs]
  | q :: l, 0 => rfl
  | q :: l, n + 1 => by
    rw [show (n + 1) * 4 = n * 4 + 1 + 1 + 1 + 1 by omega, cRs]
    simp only [List.take_succ_cons, cRs_take l n, cRs]
theorem cRs_inj : ∀ {l m : List Rat}, cRs l = cRs m → l = m
  | [], [], _ => rfl
  | [], _ :: _, h => by simp [cRs] at h
  | _ :: _, [], h => by simp [cRs] at h
  | a :: l, b :: m, h => by
    simp only [cRs, List.cons.injEq, D.v.injEq, Value.bool.injEq, true_and] at h
    obtain ⟨h1, h2, h3, h4⟩ := h
    rw [rat_inj h1 h2 h3, cRs_inj h4]
/-- Reads these numbers, nil or not. -/
def RwR (d : D) (l : List Rat) : Prop := (d = .z true ∧ l = []) ∨ d = rowR l
theorem RwR.row (l : List Rat) : RwR (rowR l) l := .inr rfl
theorem RwR.nil : RwR (.z true) [] := .inl ⟨rfl, rfl⟩
theorem RwR.inj {d : D} {l m : List Rat} (h : RwR d l) (h' : RwR d m) : l = m := by
  rcases h with ⟨h1, h2⟩ | h1 <;> rcases h' with ⟨h3, h4⟩ | h3
  · rw [h2, h4]
  · rw [h1] at h3; cases h3
  · rw [h1] at h3; cases h3
  · rw [h1] at h3
    simp only [rowR, D.row.injEq] at h3
    exact cRs_inj h3.2
theorem RwR.len {d : D} {l : List Rat} (h : RwR d l) : lenA (.d d) = some l.length := by
  rcases h with ⟨rfl, rfl⟩ | rfl
  · rfl
  · rfl
theorem RwR.ixa {d : D} {l : List Rat} (hr : RwR d l) {j : Nat} (h1 : j < l.length) (h : Hp) : ixaA h 4 (j : Int) (.d d) = some (.d (.rp (cRs (l.drop j)))) := by
  rcases hr with ⟨rfl, rfl⟩ | rfl
  · simp at h1
  · simp only [ixaA, guardO, rowR]
    rw [if_pos ⟨by omega, by omega⟩, Int.toNat_natCast, cRs_drop]
theorem ldR (h : Hp) (l : List Rat) {j : Nat} (h1 : j < l.length) : loadA h (some 4) (.d (.rp (cRs (l.drop j)))) = some (.d (encR (l.getD j 0))) := by
  have e : l.drop j = l.getD j 0 :: l.drop (j + 1) := by
    rw [List.drop_eq_getElem_cons h1, List.getD_eq_getElem?_getD, List.getElem?_eq_getElem h1]; rfl
  rw [e]
  show guardO (4 ≤ (cRs (l.getD j 0 :: l.drop (j + 1))).length) (some (A.d (D.agg ((cRs (l.getD j 0 :: l.drop (j + 1))).take 4)))) = _
  exact if_pos (by rw [cRs_length, List.length_cons]; omega)
theorem RwR.src {d : D} {l : List Rat} (hr : RwR d l) (st : St) : src st (.d d) = some (l.length, cRs l) := by
  rcases hr with ⟨rfl, rfl⟩ | rfl
  · rfl
  · rfl
theorem RwR.srcS {d : D} {l : List Rat} (hr : RwR d l) (st : St) : srcS st (.d d) = some (l.length, cRs l) := by
  rcases hr with ⟨rfl, rfl⟩ | rfl
  · rfl
  · rfl
theorem refsL_dd (ks : List Key) : ∀ cs : List D, refsL ks (cs.map A.d) = true
  | [] => rfl
  | c :: cs => by rw [List.map_cons, refsL, refsL_dd ks cs]; rfl
/-- The cells of an array. -/
def cA (l : List Rat) : List A := (cRs l).map A.d
def arrR (n : Nat) (l : List Rat) : Obj := ⟨4, n, cA l, false⟩
attribute [go_sem] arrR
/-- What lies in a slot that grows from nothing. -/
def gA4 (k : Nat) (l : List Rat) : A := if l = [] then .d (.z true) else .own [k] l.length
def gH4 (k : Nat) (l : List Rat) : List (Key × Obj) := if l = [] then [] else [([k], arrR l.length l)]
theorem one_b (b : Bool) : (D.v (.bool b)).one = true := rfl
/-- The row that a slot's array becomes. -/
def dR (l : List Rat) : D := if l = [] then .z true else rowR l
theorem dR_ok (l : List Rat) : RwR (dR l) l := by
  unfold dR; split
  · rename_i h; exact .inl ⟨rfl, h⟩
  · exact .inr rfl
def SzL (K : Nat) (l : List Rat) : Prop := ∀ q ∈ l, sz q ≤ K
theorem SzL.getD {K : Nat} {l : List Rat} (h : SzL K l) (h1 : 1 ≤ K) (j : Nat) : sz (l.getD j 0) ≤ K := by
  by_cases hj : j < l.length
  · have : l.getD j 0 = l[j] := by rw [List.getD_eq_getElem?_getD, List.getElem?_eq_getElem hj]; rfl
    rw [this]; exact h _ (List.getElem_mem hj)
  · rw [List.getD_eq_getElem?_getD, List.getElem?_eq_none (by omega)]
    show sz 0 ≤ K
    rw [sz_zero]; exact h1
theorem SzL.mono {K L : Nat} {l : List Rat} (h : SzL K l) (hk : K ≤ L) : SzL L l := fun q hq => Nat.le_trans (h q hq) hk
end Go.AM

/- Rows of rationals; poly.Trim, slices.Clone, slices.Backward. -/
namespace Go.AM
open Go Go.RowKit

theorem cRs_one : ∀ l : List Rat, (cRs l).all D.one = true
  | [] => rfl
  | q :: l => by
    have h1 : ∀ m : List Int, (dg m).one = true := fun m => by cases m <;> rfl
    simp only [cRs, List.all_cons, cRs_one l, h1, Bool.and_true]
    rfl
theorem sgn0 (q : Rat) : (Int.sign q.num == 0) = decide (q = 0) := by
  by_cases h : q = 0
  · subst h; rfl
  · rw [decide_eq_false h]
    refine beq_f fun hc => h (Rat.num_eq_zero.1 (Int.sign_eq_zero_iff_zero.1 hc))

/-- The length without zeros at the end of the first n. -/
def cutR (l : List Rat) : Nat → Nat
  | 0 => 0
  | n + 1 => if l.getD n 0 = 0 then cutR l n else n + 1
def trimR (l : List Rat) : List Rat := l.take (cutR l l.length)
theorem cutR_le (l : List Rat) : ∀ n, cutR l n ≤ n
  | 0 => Nat.le_refl _
  | n + 1 => by
    rw [cutR]
    split
    · exact Nat.le_succ_of_le (cutR_le l n)
    · exact Nat.le_refl _
theorem trimR_len (l : List Rat) : (trimR l).length = cutR l l.length := by
  rw [trimR, List.length_take]
  have := cutR_le l l.length
  omega
theorem trimR_le (l : List Rat) : (trimR l).length ≤ l.length := by rw [trimR_len]; exact cutR_le _ _
theorem rep_0 (zs : List D) : rep 0 zs = [] := rfl
variable [Its]

/-- What Clone hands back of a row. -/
def clR (l : List Rat) : R := if false then .d (rowR l) else .own 4 l.length (cRs l)
theorem Clone_row {l : List Rat} (hl : l.length * 64 ≤ 140737488351232) : callX G n_slices_Clone_api_Poly_api_Rat [rowR l] = some (clR l) := by
  rw [callX_eq (cf := slices_Clone_api_Poly_api_Rat) rfl]
  have e1 := cRs_length l
  have e2 := cRs_one l
  have e3 : l.length * 64 ≤ bound := by unfold bound; omega
  unfold clR rowR
  generalize cRs l = cs at *
  simp -implicitDefEqProofs (maxSteps := 10000000) only [slices_Clone_api_Poly_api_Rat, isnA, appA, srcS, src, refsL_dd, allD_of_map, Nat.zero_add, rep_0, List.map_nil, List.length_nil, List.nil_append, go_sem, iv, bv, e1, e2, e3, reduceCtorEq, ↓reduceIte, Nat.reduceEqDiff]
theorem Clone_nil : callX G n_slices_Clone_api_Poly_api_Rat [.z true] = some (.d (.z true)) := by
  rw [callX_eq (cf := slices_Clone_api_Poly_api_Rat) rfl]
  simp -implicitDefEqProofs (maxSteps := 10000000) only [slices_Clone_api_Poly_api_Rat, isnA, go_sem, iv, bv, reduceCtorEq, ↓reduceIte, Nat.reduceEqDiff]

def tr_st (d : D) (n : Int) : St := mkS [(0, .d d), (3, ai n)] []
theorem tr_go {d : D} {l : List Rat} (hr : RwR d l) {n : Nat} (hn : n < l.length) (hl : l.length * 64 ≤ 140737488351232) (h0 : l.getD n 0 = 0) : X G poly_Trim_l0 (tr_st d ((n + 1 : Nat) : Int)) = some (.n, tr_st d (n : Int)) := by
  have e1 : decide (((n + 1 : Nat) : Int) > 0) = true := gt_t (by omega)
  have e2 : w64 (((n + 1 : Nat) : Int) - 1) = (n : Int) := by rw [w64_id (by omega) (by omega)]; omega
  have e3 := hr.ixa hn
  have e4 := fun h => ldR h l hn
  have g := ratSign_spec (l.getD n 0)
  have e5 : (Int.sign (l.getD n 0).num == 0) = true := by rw [sgn0]; exact decide_eq_true h0
  clear h0
  generalize ((n + 1 : Nat) : Int) = n1 at *
  generalize l.getD n 0 = q at *
  simp only [encR, iv] at e4 g
  simp -implicitDefEqProofs (maxSteps := 10000000) only [poly_Trim_l0, tr_st, go_sem, iv, bv, e1, e2, e3, e4, e5, g, reduceCtorEq, ↓reduceIte, Nat.reduceEqDiff]
theorem tr_stop {d : D} {l : List Rat} (hr : RwR d l) {n : Nat} (hn : n < l.length) (hl : l.length * 64 ≤ 140737488351232) (h0 : l.getD n 0 ≠ 0) : X G poly_Trim_l0 (tr_st d ((n + 1 : Nat) : Int)) = some (.x 0, tr_st d ((n + 1 : Nat) : Int)) := by
  have e1 : decide (((n + 1 : Nat) : Int) > 0) = true := gt_t (by omega)
  have e2 : w64 (((n + 1 : Nat) : Int) - 1) = (n : Int) := by rw [w64_id (by omega) (by omega)]; omega
  have e3 := hr.ixa hn
  have e4 := fun h => ldR h l hn
  have g := ratSign_spec (l.getD n 0)
  have e5 : (Int.sign (l.getD n 0).num == 0) = false := by rw [sgn0]; exact decide_eq_false h0
  clear h0
  generalize ((n + 1 : Nat) : Int) = n1 at *
  generalize l.getD n 0 = q at *
  simp only [encR, iv] at e4 g
  simp -implicitDefEqProofs (maxSteps := 10000000) only [poly_Trim_l0, tr_st, go_sem, iv, bv, e1, e2, e3, e4, e5, g, reduceCtorEq, ↓reduceIte, Nat.reduceEqDiff]
theorem tr_zero {d : D} : X G poly_Trim_l0 (tr_st d 0) = some (.x 0, tr_st d 0) := by
  have e1 : decide ((0 : Int) > 0) = false := rfl
  simp -implicitDefEqProofs (maxSteps := 10000000) only [poly_Trim_l0, tr_st, go_sem, iv, bv, e1, reduceCtorEq, ↓reduceIte, Nat.reduceEqDiff]
theorem tr_loop {d : D} {l : List Rat} (hr : RwR d l) (hl : l.length * 64 ≤ 140737488351232) : ∀ n : Nat, n ≤ l.length → X G (.loop poly_Trim_l0) (tr_st d (n : Int)) = some (.x 0, tr_st d (cutR l n : Nat))
  | 0, _ => by
    rw [X_loop]
    show (X G poly_Trim_l0 (tr_st d 0)).bind _ = _
    rw [tr_zero]; rfl
  | n + 1, hn => by
    rw [X_loop, cutR]
    by_cases h0 : l.getD n 0 = 0
    · rw [tr_go hr (by omega) hl h0, Option.bind_some, if_pos rfl, if_pos h0]
      exact tr_loop hr hl n (by omega)
    · rw [tr_stop hr (by omega) hl h0, if_neg h0]; rfl

theorem Trim_spec {d : D} {l : List Rat} (hr : RwR d l) (hl : l.length * 64 ≤ 140737488351232) : ∃ d', RwR d' (trimR l) ∧ callX G n_poly_Trim [d] = some (.d d') := by
  rw [callX_eq (cf := poly_Trim) rfl]
  have hl' := tr_loop hr hl l.length (Nat.le_refl _)
  have hc := cutR_le l l.length
  have ll := hr.len
  rcases hr with ⟨rfl, rfl⟩ | rfl
  · have g := Clone_nil
    simp only [tr_st, List.length_nil, cutR, go_sem] at hl'
    refine ⟨.z true, .inl ⟨rfl, rfl⟩, ?_⟩
    simp -implicitDefEqProofs (maxSteps := 10000000) only [poly_Trim, slcA, bnds, optI, go_sem, iv, bv, hl', g, ll, Int.le_refl, reduceCtorEq, ↓reduceIte, Nat.reduceEqDiff]
  · refine ⟨rowR (trimR l), .row _, ?_⟩
    have g := Clone_row (l := trimR l) (by have := trimR_le l; omega)
    have e1 : rowR (trimR l) = .row (cutR l l.length) ((cRs l).take (cutR l l.length * 4)) := by rw [rowR, trimR_len, trimR, cRs_take]
    rw [e1] at g ⊢
    unfold clR at g
    have e7 := trimR_len l
    have e8 : cRs (trimR l) = (cRs l).take (cutR l l.length * 4) := by rw [trimR, cRs_take]
    rw [e1, e7, e8] at g
    clear e1 e7 e8
    have e2 : (((0 : Int) ≤ 0 ∧ (0 : Int) ≤ (cutR l l.length : Nat) ∧ ((cutR l l.length : Nat) : Int) ≤ (l.length : Nat))) = True := eq_true ⟨by omega, by omega, by omega⟩
    have e3 : ((cutR l l.length : Nat) : Int).toNat = cutR l l.length := Int.toNat_natCast _
    have e5 : ((0 : Int) ≤ (cutR l l.length : Nat)) = True := eq_true (by omega)
    have e6 : (((cutR l l.length : Nat) : Int) ≤ (l.length : Nat)) = True := eq_true (by omega)
    unfold rowR at *
    generalize cutR l l.length = c at *
    generalize cRs l = cs at *
    simp only [tr_st, go_sem] at hl'
    simp -implicitDefEqProofs (maxSteps := 10000000) only [poly_Trim, slcA, bnds, optI, go_sem, iv, bv, hl', g, ll, e2, e3, e5, e6, Int.le_refl, and_self, reduceCtorEq, ↓reduceIte, Nat.reduceEqDiff]

theorem Backward_spec {d : D} {l : List Rat} (hr : RwR d l) : callX G n_slices_Backward_api_Poly_api_Rat [d] = some (.d (.fn n_slices_Backward_api_Poly_api_Rat_1 [.rp [d]])) := by
  rw [callX_eq (cf := slices_Backward_api_Poly_api_Rat) rfl]
  rcases hr with ⟨rfl, rfl⟩ | rfl
  · simp -implicitDefEqProofs (maxSteps := 10000000) only [slices_Backward_api_Poly_api_Rat, go_sem, snap, snapH, stcells, ldcells, iv, bv, reduceCtorEq, ↓reduceIte, Nat.reduceEqDiff]
  · unfold rowR
    generalize cRs l = cs
    simp -implicitDefEqProofs (maxSteps := 10000000) only [slices_Backward_api_Poly_api_Rat, go_sem, snap, snapH, stcells, ldcells, iv, bv, reduceCtorEq, ↓reduceIte, Nat.reduceEqDiff]
end Go.AM

/- slices.Backward: what its iterator yields; poly.Eval. -/
namespace Go.AM
open Go Go.RowKit Go.Proofs

def C.one1 : C → C
  | .seq a _ => a
  | .blk _ a => a
  | .loop a => a
  | c => c
def C.two2 : C → C
  | .seq _ b => b
  | c => c
/-- What comes: from the last one to the first. -/
def bkp (l : List Rat) : List (Int × Rat) := (List.range l.length).map fun i => (((l.length - 1 - i : Nat) : Int), l.getD (l.length - 1 - i) 0)
def bk1 (p : Int × Rat) : List D := [iv p.1, encR p.2]
def bkw (l : List Rat) : List (List D) := (bkp l).map bk1
theorem bkp_snd (l : List Rat) : (bkp l).map Prod.snd = l.reverse := by
  apply List.ext_getElem
  · simp [bkp]
  · intro i h1 h2
    simp only [bkp, List.map_map, List.getElem_map, List.getElem_range, Function.comp_apply, List.getElem_reverse]
    have h3 : i < l.length := by simpa [bkp] using h1
    rw [List.getD_eq_getElem?_getD, List.getElem?_eq_getElem (by omega)]; rfl
def bw_T : C := slices_Backward_api_Poly_api_Rat_1_l0.one1.one1
def bw_I : C := .seq (.keep [0, 1, 3] []) slices_Backward_api_Poly_api_Rat_1_l0.one1.two2.two2
def bw_pre : List O := [⟨some 11, .mov (.t 0), none⟩, ⟨some 12, .mov (.t 3), none⟩, ⟨some 13, .load none (.t 1), none⟩, ⟨some 14, .mov (.t 3), none⟩, ⟨some 15, .ixa 4 (.t 13) (.t 14), none⟩, ⟨some 16, .load (some 4) (.t 15), none⟩]
def bw_post : List O := [⟨some 18, .un .not (.t 17), none⟩]
theorem bw_shape : slices_Backward_api_Poly_api_Rat_1.body.er = .seq slices_Backward_api_Poly_api_Rat_1.body.one1.er (.blk 0 (.loop (.seq bw_T.er (.seq (.blk 1 (.seq (.reg ((bw_pre ++ ⟨some 17, .calv (.t 11) [.t 12, .t 16], none⟩ :: bw_post).map O.er) []) (.cond (.t 18) .ret .skip))) bw_I.er)))) := rfl
theorem bw_ld (h : Hp) (sz : Option Nat) (cs : List D) : loadA h sz (.d (.rp cs)) = ldrow sz cs := rfl

def bw_st (y : Nat) (d : D) (k : Int) : St := mkS [(0, .d (yv y)), (1, .d (.rp [d])), (3, ai k)] []
def bw_s0 (y : Nat) (d : D) (k : Int) : St := mkS [(0, .d (yv y)), (1, .d (.rp [d])), (3, ai k), (8, ab true)] []
def bw_s1 (y : Nat) (d : D) (k : Int) (rp q : List D) : St := ⟨upd (upd (upd (upd (upd (upd (bw_s0 y d k).fr 11 (.d (yv y))) 12 (ai k)) 13 (.d d)) 14 (ai k)) 15 (.d (.rp rp))) 16 (.d (.agg q)), (bw_s0 y d k).hp, []⟩
def bw_s2 (y : Nat) (d : D) (k : Int) (rp q : List D) (t : Bool) : St := ⟨upd (upd (bw_s1 y d k rp q).fr 17 (.d (.v (.bool t)))) 18 (.d (.v (.bool !t))), (bw_s1 y d k rp q).hp, []⟩
/-- A row of n elements of 4 cells each. -/
def Rw4 (d : D) (n : Nat) (cs : List D) : Prop := (d = .z true ∧ n = 0) ∨ (d = .row n cs ∧ cs.length = n * 4)
theorem Rw4.len {d : D} {n : Nat} {cs : List D} (h : Rw4 d n cs) : lenA (.d d) = some n := by
  rcases h with ⟨rfl, rfl⟩ | ⟨rfl, _⟩ <;> rfl
theorem Rw4.ixa {d : D} {n : Nat} {cs : List D} (hr : Rw4 d n cs) {j : Nat} (h1 : j < n) (h : Hp) : ixaA h 4 (j : Int) (.d d) = some (.d (.rp (cs.drop (j * 4)))) := by
  rcases hr with ⟨rfl, rfl⟩ | ⟨rfl, _⟩
  · omega
  · simp only [ixaA, guardO]
    rw [if_pos ⟨by omega, by omega⟩, Int.toNat_natCast]
theorem Rw4.ld {d : D} {n : Nat} {cs : List D} (hr : Rw4 d n cs) {j : Nat} (h1 : j < n) (h : Hp) : loadA h (some 4) (.d (.rp (cs.drop (j * 4)))) = some (.d (.agg ((cs.drop (j * 4)).take 4))) := by
  rcases hr with ⟨rfl, rfl⟩ | ⟨rfl, hl⟩
  · omega
  · show guardO (4 ≤ (cs.drop (j * 4)).length) (some (A.d (D.agg ((cs.drop (j * 4)).take 4)))) = _
    exact if_pos (by rw [List.length_drop]; omega)
/-- What comes of it. -/
def bk4 (n : Nat) (cs : List D) : List (List D) := (List.range n).map fun i => [iv ((n - 1 - i : Nat) : Int), .agg ((cs.drop ((n - 1 - i) * 4)).take 4)]
theorem bk4_len (n : Nat) (cs : List D) : (bk4 n cs).length = n := by simp [bk4]
theorem bk4_R (l : List Rat) : bk4 l.length (cRs l) = bkw l := by
  unfold bk4 bkw bkp
  rw [List.map_map]
  apply List.map_congr_left
  intro i hi
  have hi' := List.mem_range.1 hi
  have h1 : l.length - 1 - i < l.length := by omega
  rw [cRs_drop]
  have e : l.drop (l.length - 1 - i) = l.getD (l.length - 1 - i) 0 :: l.drop (l.length - 1 - i + 1) := by
    rw [List.drop_eq_getElem_cons h1, List.getD_eq_getElem?_getD, List.getElem?_eq_getElem h1]; rfl
  rw [e]
  rfl


section
variable [Its]
theorem bw_start {y : Nat} {d : D} {n : Nat} {cs : List D} (hr : Rw4 d n cs) (hl : n ≤ 140737488351232) : X G slices_Backward_api_Poly_api_Rat_1.body.one1 ⟨argF 0 [yv y, .rp [d]], hp0, []⟩ = some (.n, bw_st y d ((n : Int) - 1)) := by
  have e1 : w64 ((n : Int) - 1) = (n : Int) - 1 := w64_id (by omega) (by omega)
  have ll := hr.len
  simp -implicitDefEqProofs (maxSteps := 10000000) only [slices_Backward_api_Poly_api_Rat_1, C.one1, bw_st, argF, yv, bw_ld, List.head?_cons, ll, go_sem, stcells, ldcells, iv, bv, e1, reduceCtorEq, ↓reduceIte, Nat.reduceEqDiff]
theorem bw_more {y : Nat} {d : D} {j : Nat} : X G bw_T (bw_st y d (j : Int)) = some (.n, bw_s0 y d (j : Int)) := by
  have e1 : decide ((j : Int) ≥ 0) = true := decide_eq_true (by omega)
  simp -implicitDefEqProofs (maxSteps := 10000000) only [bw_T, slices_Backward_api_Poly_api_Rat_1_l0, C.one1, C.two2, bw_st, bw_s0, yv, e1, go_sem, stcells, ldcells, iv, bv, reduceCtorEq, ↓reduceIte, Nat.reduceEqDiff]
theorem bw_stop {y : Nat} {d : D} : X G bw_T (bw_st y d (-1)) = some (.x 0, mkS [] []) := by
  have e1 : decide ((-1 : Int) ≥ 0) = false := rfl
  simp -implicitDefEqProofs (maxSteps := 10000000) only [bw_T, slices_Backward_api_Poly_api_Rat_1_l0, C.one1, C.two2, bw_st, bw_s0, yv, e1, go_sem, stcells, ldcells, iv, bv, reduceCtorEq, ↓reduceIte, Nat.reduceEqDiff]
theorem bw_p1 {y : Nat} {d : D} {n : Nat} {cs : List D} (hr : Rw4 d n cs) {j : Nat} (hj : j < n) : exs (callX G) bw_pre (bw_s0 y d (j : Int)) = some (bw_s1 y d (j : Int) (cs.drop (j * 4)) ((cs.drop (j * 4)).take 4)) := by
  have e3 := hr.ixa hj
  have e4 := hr.ld hj
  generalize (cs.drop (j * 4)).take 4 = q at *
  generalize cs.drop (j * 4) = rp at *
  simp -implicitDefEqProofs (maxSteps := 10000000) only [bw_pre, bw_s0, bw_s1, encR, yv, go_sem, e3, e4, bw_ld, ldrow, List.head?_cons, stcells, ldcells, iv, bv, reduceCtorEq, ↓reduceIte, Nat.reduceEqDiff]
theorem bw_p2 {y : Nat} {d : D} {k : Int} {rp q : List D} {t : Bool} : exs (callX G) bw_post { bw_s1 y d k rp q with fr := upd (bw_s1 y d k rp q).fr 17 (.d (.v (.bool t))) } = some (bw_s2 y d k rp q t) := by
  simp -implicitDefEqProofs (maxSteps := 10000000) only [bw_post, bw_s0, bw_s1, bw_s2, encR, yv, go_sem, stcells, ldcells, iv, bv, reduceCtorEq, ↓reduceIte, Nat.reduceEqDiff]
theorem bw_inc {y : Nat} {d : D} {j : Nat} {rp q : List D} (hj : j ≤ 140737488351232) : X G bw_I (bw_s2 y d (j : Int) rp q true) = some (.n, bw_st y d ((j : Int) - 1)) := by
  have e1 : w64 ((j : Int) - 1) = (j : Int) - 1 := w64_id (by omega) (by omega)
  simp -implicitDefEqProofs (maxSteps := 10000000) only [bw_I, slices_Backward_api_Poly_api_Rat_1_l0, C.one1, C.two2, bw_st, bw_s0, bw_s1, bw_s2, encR, yv, go_sem, e1, stcells, ldcells, iv, bv, reduceCtorEq, ↓reduceIte, Nat.reduceEqDiff]

end

theorem bw_walk {d : D} {n : Nat} {cs : List D} (hr : Rw4 d n cs) (hl : n ≤ 140737488351232) {N n' y : Nat} {S : Nat → Prop} {w0 : World} {J Jx : Held} {ac : Act} {W : World} (hab : Abide w0 J) (habx : Abide w0 Jx) (hans : Answers Tryz.prog n' S w0 y J Jx (bk4 n cs))
    (hI : Inv S w0 N J ⟨argF 0 [yv y, .rp [d]], hp0, []⟩ 0 ac W) :
    WY Tryz.prog N (n' + 1) slices_Backward_api_Poly_api_Rat_1.body.er (fun e' a' W' => (∀ id, e' ≠ .x id) ∧ ((∃ st, Inv S w0 N J st (bk4 n cs).length a' W') ∨ ∃ st i, Inv S w0 N Jx st i a' W')) ac W := by
  letI := noIts
  have hE : EnvOk Tryz.prog G := env_ok0
  rw [bw_shape]
  refine WY.seq ?_
  refine Inv.code hE hab hI rfl (bw_start hr hl) ?_
  intro a1 W1 I1
  simp only [↓reduceIte]
  refine WY.blk ?_
  refine WY.loop (j := n) (fun j a' w' => ∃ i, i ≤ n ∧ j = n - i ∧ Inv S w0 N J (bw_st y d (((n - i : Nat) : Int) - 1)) i a' w') ⟨0, by omega, by omega, ?_⟩ ?_
  · rw [Nat.sub_zero]
    exact I1
  · rintro j a2 W2 ⟨i, hi, rfl, I2⟩
    refine WY.seq ?_
    by_cases hin : i < n
    · obtain ⟨k, hk⟩ : ∃ k, k = n - 1 - i := ⟨_, rfl⟩
      have ek : ((n - i : Nat) : Int) - 1 = (k : Int) := by omega
      rw [ek] at I2
      have hkl : k < n := by omega
      refine Inv.code hE hab I2 rfl bw_more ?_
      intro a3 W3 I3
      simp only [↓reduceIte]
      refine WY.seq (WY.blk (WY.seq ?_))
      refine Inv.yield hE hab habx hans I3 (pre := bw_pre) (post := bw_post) (d := 17) (ty := 11) (es := [.t 12, .t 16]) (s1 := bw_s1 y d (k : Int) (cs.drop (k * 4)) ((cs.drop (k * 4)).take 4)) (x := [iv (k : Int), .agg ((cs.drop (k * 4)).take 4)]) (rt := bw_s2 y d (k : Int) (cs.drop (k * 4)) ((cs.drop (k * 4)).take 4) true) (rf := bw_s2 y d (k : Int) (cs.drop (k * 4)) ((cs.drop (k * 4)).take 4) false) (bw_p1 hr hkl) rfl rfl ?_ bw_p2 bw_p2 ?_ ?_
      · rw [bk4, List.getElem?_map, List.getElem?_range hin, hk]; rfl
      · intro a4 W4 I4
        simp only [↓reduceIte]
        refine WY.cond (t := false) (I4.bool rfl) (fun h => by cases h) (fun _ => WY.skip ?_)
        simp only [↓reduceIte]
        refine Inv.code hE hab I4 rfl (bw_inc (by omega)) ?_
        intro a6 W6 I6
        simp only [↓reduceIte]
        refine ⟨n - (i + 1), by omega, i + 1, by omega, rfl, ?_⟩
        rw [show ((n - (i + 1) : Nat) : Int) - 1 = (k : Int) - 1 by omega]
        exact I6
      · intro a4 W4 I4
        simp only [↓reduceIte]
        refine WY.cond (t := true) (I4.bool rfl) (fun _ => WY.ret ?_) (fun h => by cases h)
        simp only [reduceCtorEq, ↓reduceIte]
        exact ⟨fun _ h => (by cases h), .inr ⟨_, _, I4⟩⟩
    · have : i = n := by omega
      subst this
      rw [Nat.sub_self] at I2
      refine Inv.code hE hab I2 rfl bw_stop ?_
      intro a3 W3 I3
      simp only [reduceCtorEq, ↓reduceIte]
      exact ⟨fun _ h => (by cases h), .inl ⟨_, by rw [bk4_len]; exact I3⟩⟩

theorem backward_ok {d : D} {n : Nat} {cs : List D} (hr : Rw4 d n cs) (hl : n ≤ 140737488351232) : ItOk Tryz.prog n_slices_Backward_api_Poly_api_Rat_1 [.rp [d]] (bk4 n cs) := by
  refine it_ok (Γ := @G noIts) env_ok0 (cf := slices_Backward_api_Poly_api_Rat_1) Tryz.func136 slices_Backward_api_Poly_api_Rat_1_c ?_ rfl rfl ?_
  · intro b hb
    have : (Tryz.f136.body.map okY) = some true := by kernel_rfl
    rw [hb] at this
    simpa using this
  · intro n' y S w0 J Jx ac W hab habx hans hI
    exact bw_walk hr hl hab habx hans hI

/-- What the iterator of Backward yields. -/
def itBack : List D → Option (List (List D))
  | [.rp [.z true]] => some []
  | [.rp [.row n cs]] => if cs.length = n * 4 ∧ n ≤ 140737488351232 then some (bk4 n cs) else none
  | _ => none
theorem itBack_ok {ds : List D} {xs : List (List D)} (h : itBack ds = some xs) : ItOk Tryz.prog n_slices_Backward_api_Poly_api_Rat_1 ds xs := by
  unfold itBack at h
  split at h
  · cases h
    exact backward_ok (n := 0) (cs := []) (.inl ⟨rfl, rfl⟩) (by omega)
  · split at h
    · rename_i hc
      cases h
      exact backward_ok (.inr ⟨rfl, hc.1⟩) hc.2
    · cases h
  · cases h
/-- What the seat's iterators yield, of Backward. -/
class ItsB [Its] : Prop where
  back : ∀ ds, Its.it n_slices_Backward_api_Poly_api_Rat_1 ds = itBack ds
theorem its_back [Its] [ItsB] {d : D} {l : List Rat} (h : RwR d l) (hl : l.length ≤ 140737488351232) : Its.it n_slices_Backward_api_Poly_api_Rat_1 [.rp [d]] = some (bkw l) := by
  rw [ItsB.back, ← bk4_R]
  rcases h with ⟨rfl, rfl⟩ | rfl
  · rfl
  · exact if_pos ⟨cRs_length l, hl⟩

/-- The value, by Horner's rule. -/
def evR (l : List Rat) (x : Rat) : Rat := l.foldr (fun a s => s * x + a) 0
theorem evR_cons (a : Rat) (l : List Rat) (x : Rat) : evR (a :: l) x = evR l x * x + a := rfl
theorem evR_bk (l : List Rat) (x : Rat) : (bkp l).foldl (fun s p => s * x + p.2) 0 = evR l x := by
  have h : ∀ (ps : List (Int × Rat)) (s : Rat), ps.foldl (fun s p => s * x + p.2) s = (ps.map Prod.snd).foldl (fun s a => s * x + a) s := by
    intro ps
    induction ps with
    | nil => intro s; rfl
    | cons p ps ih => intro s; exact ih _
  rw [h, bkp_snd, List.foldl_reverse]
  rfl
def ev_fr : Fr := frL [(3, .ptr [3] 0), (4, .ptr [4] 0), (5, .ptr [5] 0)]
def ev_hp (x s : Rat) : Hp := hpL [([3], boxR x), ([4], boxR0), ([5], boxR s)]
theorem evR_sz {x : Rat} {K : Nat} (hK : sz x ≤ K) : ∀ l : List Rat, (∀ q ∈ l, sz q ≤ K) → sz (evR l x) ≤ l.length * (2 * K + 1) + 1
  | [], _ => by rw [evR, List.foldr_nil, sz_zero]; omega
  | a :: l, h => by
    have ih := evR_sz hK l (fun q hq => h q (List.mem_cons_of_mem _ hq))
    have h2 := h a (List.mem_cons_self ..)
    have k1 := sz_mul (a := evR l x) (b := x)
    have k2 := sz_add (a := evR l x * x) (b := a)
    have h1 : (a :: l).length * (2 * K + 1) = l.length * (2 * K + 1) + (2 * K + 1) := by rw [List.length_cons, Nat.succ_mul]
    rw [evR_cons]; omega
variable [Its]

theorem ev_rounds {x : Rat} {K : Nat} (hK : sz x ≤ K) (hK2 : K ≤ 1000000000) : ∀ (ps : List (Int × Rat)) (s : Rat), (∀ p ∈ ps, sz p.2 ≤ K) → sz s + ps.length * (2 * K + 1) ≤ 50000000000 →
    rounds (X G) [10, 11] poly_Eval_a0 poly_Eval_b0 ev_fr [] (ps.map bk1) (ev_hp x s) = some (.n, ⟨ev_fr, ev_hp x (ps.foldl (fun s p => s * x + p.2) s), []⟩)
  | [], s, _, _ => rfl
  | p :: ps, s, hp, hs => by
    have h1 : (p :: ps).length * (2 * K + 1) = ps.length * (2 * K + 1) + (2 * K + 1) := by rw [List.length_cons, Nat.succ_mul]
    have h2 := hp p (List.mem_cons_self ..)
    have g1 := ratMul_spec (a := s) (b := x) (by omega) (by omega)
    have k1 := sz_mul (a := s) (b := x)
    have g2 := ratAdd_spec (a := s * x) (b := p.2) (by omega) (by omega)
    have k2 := sz_add (a := s * x) (b := p.2)
    have ih := ev_rounds hK hK2 ps (s * x + p.2) (fun q hq => hp q (List.mem_cons_of_mem _ hq)) (by omega)
    rw [List.map_cons, List.foldl_cons, ← ih]
    clear ih hp
    generalize s * x + p.2 = r at *
    generalize s * x = sx at *
    obtain ⟨k, q⟩ := p
    unfold bk1
    simp only at g2 ⊢
    generalize List.map _ ps = XS
    simp only [encR] at g1 g2
    simp -implicitDefEqProofs (maxSteps := 10000000) only [rounds, poly_Eval_a0, poly_Eval_b0, ev_fr, ev_hp, boxR, encR, boxR0, putL, go_sem, stcells, ldcells, iv, bv, g1, g2, reduceCtorEq, ↓reduceIte, Nat.reduceEqDiff]
theorem Eval_spec [ItsB] {d : D} {l : List Rat} {x : Rat} {K : Nat} (hr : RwR d l) (hK : sz x ≤ K) (hK2 : K ≤ 1000000000) (hl : ∀ q ∈ l, sz q ≤ K) (hn : l.length * (2 * K + 1) ≤ 40000000000) : callX G n_poly_Eval [d, encR x] = some (.d (encR (evR l x))) := by
  rw [callX_eq (cf := poly_Eval) rfl]
  have g1 := Backward_spec hr
  have hn' : l.length ≤ l.length * (2 * K + 1) := Nat.le_mul_of_pos_right _ (by omega)
  have hit : (G).it n_slices_Backward_api_Poly_api_Rat_1 [.rp [d]] = some (bkw l) := its_back hr (by omega)
  have hp : (bkp l).length = l.length := by simp [bkp]
  have hrd := ev_rounds hK hK2 (bkp l) 0 (fun p hp' => by
    have : p.2 ∈ (bkp l).map Prod.snd := List.mem_map_of_mem hp'
    rw [bkp_snd] at this
    exact hl _ (List.mem_reverse.1 this)) (by rw [hp, sz_zero]; omega)
  rw [evR_bk] at hrd
  have e1 : (bkp l).map bk1 = bkw l := rfl
  rw [e1] at hrd
  have hA : poly_Eval_a0.holds [[3], [4], [5]] = true := rfl
  have hB : poly_Eval_b0.holds [[3], [4], [5]] = true := rfl
  have e0 : boxR 0 = boxR0 := by
    have ez : decide ((0 : Rat).num < 0) = false := rfl
    have ez2 : dg (digs (0 : Rat).num.natAbs) = .z true := by rw [Rat.zero_num, show (0 : Int).natAbs = 0 from rfl, digs_zero]; rfl
    have ez3 : dg (dd (0 : Rat).den) = .z true := rfl
    rw [boxR, ez, ez2, ez3]; rfl
  rw [ev_hp, e0] at hrd
  clear hp e1 hn e0
  generalize bkw l = XS at *
  generalize evR l x = v at *
  simp only [ev_fr, ev_hp, boxR, boxR0, go_sem] at hrd
  simp -implicitDefEqProofs (maxSteps := 10000000) only [poly_Eval, X_rfn, plainF, hA, hB, hit, hrd, encR, go_sem, stcells, ldcells, iv, bv, g1, reduceCtorEq, ↓reduceIte, Nat.reduceEqDiff]
end Go.AM

/- The seat's iterators: Backward alone. -/
namespace Go.AM
open Go Go.RowKit Go.Proofs

instance itsP : Its := { it := fun f ds => if f = n_slices_Backward_api_Poly_api_Rat_1 then itBack ds else none }
instance itsBP : ItsB := ⟨fun _ => if_pos rfl⟩
theorem envP : EnvOk Tryz.prog G := env_ok fun f ds xs h => by
  have h' : (if f = n_slices_Backward_api_Poly_api_Rat_1 then itBack ds else none) = some xs := h
  split at h'
  · rename_i hf
    rw [hf]
    exact itBack_ok h'
  · cases h'
end Go.AM

/- Boxes of whole numbers, folded. -/
namespace Go.AM
open Go Go.RowKit

/-- A number's two cells. -/
def cI (x : Int) : List A := [.d (.v (.bool (decide (x < 0)))), .d (dg (digs x.natAbs))]
def bI (x : Int) : Obj := ⟨0, 0, cI x, false⟩
theorem one_encI (x : Int) : A.one (.d (encI x)) = false := rfl
theorem cells_encI (x : Int) : cellsOf (.d (encI x)) = cI x := rfl
theorem dc_encI (x : Int) : dcells (.d (encI x)) = some [.v (.bool (decide (x < 0))), dg (digs x.natAbs)] := rfl
theorem all_cI (x : Int) : (cI x).all A.one = true := by
  simp only [cI, List.all_cons, List.all_nil, one_bool, one_dg', Bool.and_self]
theorem len_cI (x : Int) : (cI x).length = 2 := rfl
theorem refs_cI (ks : List Key) (x : Int) : refsL ks (cI x) = true := rfl
theorem ld_cI (x : Int) : ldcells (some 2) 0 (cI x) = some (.d (encI x)) := rfl
theorem ld_cI0 (x : Int) : ldcells none 0 (cI x) = some (.d (.v (.bool (decide (x < 0))))) := rfl
theorem ld_cI1 (x : Int) : ldcells none 1 (cI x) = some (.d (dg (digs x.natAbs))) := rfl
theorem st_cI (x y : Int) : stcells 0 (cI x) (cI y) = some (cI x) := rfl
theorem st_cIn (x : Int) (u v : A) : stcells 0 (cI x) [u, v] = some (cI x) := rfl
theorem ad_cI (x : Int) : allD (cI x) = some [.v (.bool (decide (x < 0))), dg (digs x.natAbs)] := rfl
theorem ag_encI (x : Int) : aggA (.d (encI x)) = some [.v (.bool (decide (x < 0))), dg (digs x.natAbs)] := rfl
theorem zero_agg : D.agg [.v (.bool false), .z true] = encI 0 := by
  rw [encI, show (0 : Int).natAbs = 0 from rfl, digs_zero]; rfl
attribute [go_sem] one_encI cells_encI dc_encI all_cI len_cI refs_cI ld_cI ld_cI0 ld_cI1 st_cI st_cIn ad_cI ag_encI
end Go.AM

/- integer.Small, ref04.Small. -/
namespace Go.AM
open Go Go.RowKit

def au (u : Int) : A := .d (.v (.int .u64 u))
attribute [go_sem] au
theorem val_getD_drop (l : List Int) (i : Nat) (h : i < l.length) : val (l.drop i) = l.getD i 0 + 1000000000 * val (l.drop (i + 1)) := by
  rw [List.drop_eq_getElem_cons h, val]
  simp [List.getD, h]
theorem val_drop_le {l : List Int} (hd : Dig l) : ∀ i, val (l.drop i) ≤ val l
  | 0 => by rw [List.drop_zero]; exact Int.le_refl _
  | i + 1 => by
    have ih := val_drop_le hd i
    by_cases h : i < l.length
    · rw [val_getD_drop l i h] at ih
      have := hd.getD i
      have h2 := val_nonneg (hd.drop (i + 1))
      omega
    · have h3 := val_nonneg hd
      rw [List.drop_eq_nil_of_le (by omega)]
      exact h3
theorem ubt_ : A.bool? (.d (.v (.tuple #[]))) = none := rfl
def smb (x : Int) : Bool := decide (-9223372036854775808 ≤ x ∧ x < 9223372036854775808)
def smv (x : Int) : Int := if -9223372036854775808 ≤ x ∧ x < 9223372036854775808 then x else 0
theorem smb_t {x : Int} (h : I64 x) : smb x = true ∧ smv x = x := ⟨decide_eq_true h, if_pos h⟩
theorem smb_f {x : Int} (h : ¬ I64 x) : smb x = false ∧ smv x = 0 := ⟨decide_eq_false h, if_neg h⟩
variable [Its]

section
variable {x : Int} {l : List Int} (hl : digs x.natAbs = l)
def sm_st (x u i : Int) : St := mkS [(1, .ptr [1] 0), (4, au u), (5, ai i)] [([1], bI x)]
def sm_en (x u : Int) : St := mkS [(1, .ptr [1] 0), (4, au u)] [([1], bI x)]
end

end Go.AM

/- ref04.Small. -/
namespace Go.AM
open Go Go.RowKit

theorem sgn_gt {a : Int} : decide (Int.sign a > 0) = decide (0 < a) := by
  apply decide_eq_decide.2
  rcases Int.lt_trichotomy a 0 with h | h | h
  · rw [Int.sign_eq_neg_one_of_neg h]; omega
  · subst h; simp
  · rw [Int.sign_eq_one_of_pos h]; omega
theorem sgn_lt {a : Int} : decide (Int.sign a < 0) = decide (a < 0) := by
  apply decide_eq_decide.2
  rcases Int.lt_trichotomy a 0 with h | h | h
  · rw [Int.sign_eq_neg_one_of_neg h]; omega
  · subst h; simp
  · rw [Int.sign_eq_one_of_pos h]; omega
theorem sgn_le {a : Int} : decide (Int.sign a ≤ 0) = decide (a ≤ 0) := by
  apply decide_eq_decide.2
  rcases Int.lt_trichotomy a 0 with h | h | h
  · rw [Int.sign_eq_neg_one_of_neg h]; omega
  · subst h; simp
  · rw [Int.sign_eq_one_of_pos h]; omega
theorem sgn_eq {a : Int} : (Int.sign a == 0) = decide (a = 0) := by
  by_cases h : a = 0
  · subst h; rfl
  · rw [decide_eq_false h]
    refine beq_f fun h1 => h (Int.sign_eq_zero_iff_zero.1 h1)
variable [Its]
section
variable {x : Int} {l : List Int}
def rsm_st (x u i : Int) : St := mkS [(1, .ptr [1] 0), (4, ai u), (5, ai i)] [([1], bI x)]
def rsm_en (u : Int) : St := mkS [(4, ai u)] []
theorem rsm_stop (u : Int) : X G gantryref04_Small_l0 (rsm_st x u (-1)) = some (.x 0, rsm_en u) := by
  have e1 : decide ((-1 : Int) ≥ 0) = false := rfl
  simp -implicitDefEqProofs (maxSteps := 10000000) only [gantryref04_Small_l0, rsm_st, rsm_en, bI, e1, go_sem, reduceCtorEq, ↓reduceIte, Nat.reduceEqDiff, iv]
theorem rsm_go (hl : digs x.natAbs = l) (hx : I64 x) {i : Nat} (hi : i < l.length) (h3 : l.length ≤ 1000) : X G gantryref04_Small_l0 (rsm_st x (sgn (decide (x < 0)) (val (l.drop (i + 1)))) i) = some (.n, rsm_st x (sgn (decide (x < 0)) (val (l.drop i))) ((i : Int) - 1)) := by
  have hd : Dig l := hl ▸ digs_dig _
  have hv : val l = x.natAbs := hl ▸ val_digs _
  have e1 : decide ((i : Int) ≥ 0) = true := ge_t (by omega)
  have e2 : w64 ((i : Int) - 1) = (i : Int) - 1 := w64_id (by omega) (by omega)
  have x1 := (Rw.dg l).ixn hi
  have x2 := fun h => ldv h l hi
  have h0 := val_nonneg (hd.drop (i + 1))
  have h1 := hd.getD i
  have h2 := val_getD_drop l i hi
  have h4 := val_drop_le hd i
  have h5 : val (l.drop i) = val (l.drop (i + 1)) * 1000000000 + l.getD i 0 := by omega
  obtain ⟨h6, h7⟩ := hx
  rw [h5]
  generalize val (l.drop (i + 1)) = u at *
  generalize l.getD i 0 = d at *
  by_cases hs : x < 0
  · have s1 : decide (x < 0) = true := lt_t hs
    have e3 : w64 (-u * 1000000000) = -(u * 1000000000) := by rw [w64_id (by omega) (by omega)]; omega
    have e5 : w64 (-(u * 1000000000) - d) = -(u * 1000000000 + d) := by rw [w64_id (by omega) (by omega)]; omega
    simp -implicitDefEqProofs (maxSteps := 10000000) only [gantryref04_Small_l0, rsm_st, bI, sgn, hl, x1, x2, e1, e2, e3, e5, s1, go_sem, reduceCtorEq, ↓reduceIte, Nat.reduceEqDiff, iv]
  · have s1 : decide (x < 0) = false := lt_f hs
    have e3 : w64 (u * 1000000000) = u * 1000000000 := w64_id (by omega) (by omega)
    have e5 : w64 (u * 1000000000 + d) = u * 1000000000 + d := w64_id (by omega) (by omega)
    simp -implicitDefEqProofs (maxSteps := 10000000) only [gantryref04_Small_l0, rsm_st, bI, sgn, hl, x1, x2, e1, e2, e3, e5, s1, go_sem, reduceCtorEq, ↓reduceIte, Nat.reduceEqDiff, iv]
theorem rsm_loop (hl : digs x.natAbs = l) (hx : I64 x) (h3 : l.length ≤ 1000) : ∀ i : Nat, i ≤ l.length → X G (.loop gantryref04_Small_l0) (rsm_st x (sgn (decide (x < 0)) (val (l.drop i))) ((i : Int) - 1)) = some (.x 0, rsm_en x)
  | 0, _ => by
    have e : sgn (decide (x < 0)) (val (l.drop 0)) = x := by
      rw [List.drop_zero, show val l = x.natAbs from hl ▸ val_digs _]
      by_cases hs : x < 0
      · rw [lt_t hs]; simp only [sgn, if_true]; omega
      · rw [lt_f hs]; simp only [sgn, Bool.false_eq_true, if_false]; omega
    rw [X_loop, show ((0 : Nat) : Int) - 1 = -1 from rfl, rsm_stop, e]; rfl
  | i + 1, h => by
    rw [X_loop, show ((i + 1 : Nat) : Int) - 1 = (i : Int) by omega, rsm_go hl hx (by omega) h3, Option.bind_some, if_pos rfl]
    exact rsm_loop hl hx h3 i (by omega)
end
theorem rSmall_spec {x : Int} (hx : nd x ≤ 1000000000000) : callX G n_gantryref04_Small [encI x] = some (.d (.tup [iv (smv x), bv (smb x)])) := by
  rw [callX_eq (cf := gantryref04_Small) rfl]
  have g1 := rOf_spec (n := 9223372036854775807) ⟨by omega, by omega⟩
  have g2 := rOf_spec (n := -9223372036854775808) ⟨by omega, by omega⟩
  have g3 := rCompare_spec (x := x) (y := 9223372036854775807) hx (Nat.le_trans (nd_i64 ⟨by omega, by omega⟩) (by omega))
  have g4 := rCompare_spec (x := x) (y := -9223372036854775808) hx (Nat.le_trans (nd_i64 ⟨by omega, by omega⟩) (by omega))
  simp only [iv] at g1 g2 g3 g4
  have c1 := sgn_gt (a := x - 9223372036854775807)
  have c2 := sgn_lt (a := x - -9223372036854775808)
  generalize Int.sign (x - 9223372036854775807) = s1 at *
  generalize Int.sign (x - -9223372036854775808) = s2 at *
  by_cases h1 : 0 < x - 9223372036854775807
  · rw [gt_t h1] at c1
    obtain ⟨b1, b2⟩ := smb_f (x := x) (fun h => by have := h.2; omega)
    simp -implicitDefEqProofs (maxSteps := 10000000) only [gantryref04_Small, bI, g1, g2, g3, g4, c1, b1, b2, toDs, ubt_, go_sem, reduceCtorEq, ↓reduceIte, Nat.reduceEqDiff, iv, bv]
  rw [gt_f h1] at c1
  by_cases h2 : x - -9223372036854775808 < 0
  · rw [lt_t h2] at c2
    obtain ⟨b1, b2⟩ := smb_f (x := x) (fun h => by have := h.1; omega)
    simp -implicitDefEqProofs (maxSteps := 10000000) only [gantryref04_Small, bI, g1, g2, g3, g4, c1, c2, b1, b2, toDs, ubt_, go_sem, reduceCtorEq, ↓reduceIte, Nat.reduceEqDiff, iv, bv]
  rw [lt_f h2] at c2
  have hI : I64 x := ⟨by omega, by omega⟩
  obtain ⟨b1, b2⟩ := smb_t hI
  obtain ⟨l, hl⟩ : ∃ l, digs x.natAbs = l := ⟨_, rfl⟩
  have h3 : l.length ≤ 3 := by rw [← hl]; exact nd_i64 hI
  have ll := lenA_dg l
  have e2 : w64 ((l.length : Int) - 1) = (l.length : Int) - 1 := w64_id (by omega) (by omega)
  have hlp := rsm_loop hl hI (by omega) l.length (Nat.le_refl _)
  have e0 : sgn (decide (x < 0)) 0 = 0 := by cases decide (x < 0) <;> rfl
  rw [List.drop_length, val, e0] at hlp
  simp only [rsm_st, rsm_en, bI, go_sem] at hlp
  simp -implicitDefEqProofs (maxSteps := 10000000) only [gantryref04_Small, bI, g1, g2, g3, g4, c1, c2, b1, b2, hl, ll, e2, hlp, toDs, ubt_, go_sem, reduceCtorEq, ↓reduceIte, Nat.reduceEqDiff, iv, bv]
end Go.AM

/- Square roots of whole numbers: Newton's step, and halving. -/
namespace Go.AM

def IsRt (s x : Int) : Prop := 0 ≤ s ∧ s * s ≤ x ∧ x < (s + 1) * (s + 1)
theorem sq_mono {a b : Int} (ha : 0 ≤ a) (h : a ≤ b) : a * a ≤ b * b := Int.mul_le_mul h h ha (by omega)
theorem rt_le {s x t : Int} (h : IsRt s x) (ht : 0 ≤ t) (h2 : t * t ≤ x) : t ≤ s := by
  obtain ⟨h0, _, h1⟩ := h
  by_cases hc : t ≤ s
  · exact hc
  · have := sq_mono (a := s + 1) (b := t) (by omega) (by omega)
    omega
theorem rt_gt {s x t : Int} (h : IsRt s x) (ht : 0 ≤ t) (h2 : x < t * t) : s < t := by
  obtain ⟨h0, h1, _⟩ := h
  by_cases hc : s < t
  · exact hc
  · have := sq_mono (a := t) (b := s) (by omega) (by omega)
    omega
theorem rt_uniq {s t x : Int} (h : IsRt s x) (k : IsRt t x) : s = t := by
  have h1 := rt_le h k.1 k.2.1
  have h2 := rt_le k h.1 h.2.1
  omega
/-- Halving an interval around the root. -/
theorem half_lt {lo hi : Int} (h : lo + 1 < hi) : lo < (lo + hi) / 2 ∧ (lo + hi) / 2 < hi := by omega
end Go.AM

/- integer.Root, ref04.Root. -/
namespace Go.AM
open Go Go.RowKit

theorem nd_ediv2 {x r : Int} : nd (x / r) ≤ nd x := nd_mono (by
  rcases Int.lt_trichotomy r 0 with h | h | h
  · exact Int.natAbs_ediv_le_natAbs _ _
  · subst h; simp
  · exact Int.natAbs_ediv_le_natAbs _ _)
theorem nd_le_of {x y : Int} (h0 : 0 ≤ x) (h : x ≤ y) : nd x ≤ nd y := nd_mono (by omega)
theorem val_lead (m : Nat) : val (List.replicate m 0 ++ [1]) = (1000000000 : Int) ^ m := by
  rw [val_append, val_replicate, List.length_replicate]
  simp [val]
theorem dig_one (m : Nat) : Dig (List.replicate m 0 ++ [1]) := by
  rw [Dig.append]
  exact ⟨Dig.replicate m, fun d hd => by simp at hd; omega⟩
theorem two_ne : ((2 : Int) = 0) = False := by simp
variable [Its]
def rt_st (x r : Int) : St := mkS [(1, .ptr [1] 0), (2, .ptr [2] 0), (4, .ptr [4] 0)] [([1], bI x), ([2], ⟨0, 0, [.d (.v (.bool false)), .d (.z true)], false⟩), ([4], bI r)]
end Go.AM

/- ref04.Root. -/
namespace Go.AM
open Go Go.RowKit
theorem nd_1 : nd 1 ≤ 3 := nd_i64 ⟨by omega, by omega⟩
theorem nd_2 : nd 2 ≤ 3 := nd_i64 ⟨by omega, by omega⟩
variable [Its]
def rr_st (x lo hi : Int) : St := mkS [(1, .ptr [1] 0), (2, .ptr [2] 0), (4, .ptr [4] 0), (5, .ptr [5] 0), (6, .ptr [6] 0), (7, .ptr [7] 0)] [([1], bI x), ([2], box0), ([4], bI lo), ([5], bI hi), ([6], bI 1), ([7], bI 2)]
def rr_en (x lo : Int) : St := mkS [(1, .ptr [1] 0), (2, .ptr [2] 0), (4, .ptr [4] 0)] [([1], bI x), ([2], box0), ([4], bI lo)]
theorem rr_stop {x lo hi : Int} (h : ¬ lo + 1 < hi) (hk : nd lo ≤ 100000000000) (hk2 : nd hi ≤ 100000000000) : X G gantryref04_Root_l0 (rr_st x lo hi) = some (.x 0, rr_en x lo) := by
  have g1 := rAdd_spec (x := lo) (y := 1) (by omega) (Nat.le_trans nd_1 (by omega))
  have n1 := nd_add (x := lo) (y := 1) (k := 100000000000) hk (Nat.le_trans nd_1 (by omega))
  have g2 := rCompare_spec (x := lo + 1) (y := hi) (by omega) (by omega)
  have c := sgn_lt (a := lo + 1 - hi)
  rw [show decide (lo + 1 - hi < 0) = false from decide_eq_false (by omega)] at c
  generalize Int.sign (lo + 1 - hi) = s at *
  generalize lo + 1 = t at *
  simp only [iv] at g2
  simp -implicitDefEqProofs (maxSteps := 10000000) only [gantryref04_Root_l0, rr_st, rr_en, box0, bI, g1, g2, c, extA, go_sem, reduceCtorEq, ↓reduceIte, Nat.reduceEqDiff, iv]
theorem rr_go {x lo hi : Int} (h : lo + 1 < hi) (h0 : 0 ≤ lo) (hx : nd x ≤ 100000000000) (hk : nd lo ≤ 100000000000) (hk2 : nd hi ≤ 100000000000) :
    X G gantryref04_Root_l0 (rr_st x lo hi) = some (.n, if (lo + hi) / 2 * ((lo + hi) / 2) ≤ x then rr_st x ((lo + hi) / 2) hi else rr_st x lo ((lo + hi) / 2)) := by
  have g1 := rAdd_spec (x := lo) (y := 1) (by omega) (Nat.le_trans nd_1 (by omega))
  have n1 := nd_add (x := lo) (y := 1) (k := 100000000000) hk (Nat.le_trans nd_1 (by omega))
  have g2 := rCompare_spec (x := lo + 1) (y := hi) (by omega) (by omega)
  have c := sgn_lt (a := lo + 1 - hi)
  rw [show decide (lo + 1 - hi < 0) = true from decide_eq_true (by omega)] at c
  have g3 := rAdd_spec (x := lo) (y := hi) (by omega) (by omega)
  have n2 := nd_add (x := lo) (y := hi) (k := 100000000000) hk hk2
  have g4 := rDiv_spec (x := lo + hi) (y := 2) (by omega) (by omega) (Nat.le_trans nd_2 (by omega))
  have n3 := nd_ediv2 (x := lo + hi) (r := 2)
  generalize (lo + hi) % 2 = m2 at *
  obtain ⟨mid, hmid⟩ : ∃ mid, (lo + hi) / 2 = mid := ⟨_, rfl⟩
  rw [hmid] at g4 n3 ⊢
  have g5 := rMul_spec (x := mid) (y := mid) (by omega) (by omega)
  have n4 := nd_mul (x := mid) (y := mid)
  have g6 := rCompare_spec (x := mid * mid) (y := x) (by omega) (by omega)
  have d := sgn_le (a := mid * mid - x)
  simp only [iv] at g2 g6
  clear n1 n2 n3 n4 hmid
  generalize Int.sign (lo + 1 - hi) = s at *
  generalize Int.sign (mid * mid - x) = s2 at *
  generalize lo + 1 = t at *
  generalize lo + hi = u at *
  generalize mid * mid = mm at *
  by_cases hc : mm ≤ x
  · rw [show decide (mm - x ≤ 0) = true from decide_eq_true (by omega)] at d
    rw [if_pos hc]
    simp -implicitDefEqProofs (maxSteps := 10000000) only [gantryref04_Root_l0, rr_st, rr_en, box0, bI, g1, g2, g3, g4, g5, g6, c, d, extA, go_sem, reduceCtorEq, ↓reduceIte, Nat.reduceEqDiff, iv]
  · rw [show decide (mm - x ≤ 0) = false from decide_eq_false (by omega)] at d
    rw [if_neg hc]
    simp -implicitDefEqProofs (maxSteps := 10000000) only [gantryref04_Root_l0, rr_st, rr_en, box0, bI, g1, g2, g3, g4, g5, g6, c, d, extA, go_sem, reduceCtorEq, ↓reduceIte, Nat.reduceEqDiff, iv]
theorem rr_loop {x s : Int} (hx : nd x ≤ 100000000000) (hs : IsRt s x) : ∀ (n : Nat) (lo hi : Int), (hi - lo).toNat ≤ n → 0 ≤ lo → lo < hi → lo * lo ≤ x → x < hi * hi → nd hi ≤ 100000000000 → X G (.loop gantryref04_Root_l0) (rr_st x lo hi) = some (.x 0, rr_en x s)
  | n, lo, hi, hn, h0, h1, h2, h3, hk => by
    rw [X_loop]
    have hl : nd lo ≤ 100000000000 := Nat.le_trans (nd_le_of h0 (by omega)) hk
    by_cases h : lo + 1 < hi
    · obtain ⟨a, b⟩ := half_lt h
      rw [rr_go h h0 hx hl hk, Option.bind_some, if_pos rfl]
      generalize (lo + hi) / 2 = mid at *
      cases n with
      | zero => omega
      | succ n =>
        by_cases hc : mid * mid ≤ x
        · rw [if_pos hc]
          exact rr_loop hx hs n mid hi (by omega) (by omega) b hc h3 hk
        · rw [if_neg hc]
          exact rr_loop hx hs n lo mid (by omega) h0 a h2 (by omega) (Nat.le_trans (nd_le_of (by omega) (by omega)) hk)
    · have e : s = lo := rt_uniq hs ⟨h0, h2, by
        have : hi = lo + 1 := by omega
        rw [← this]; exact h3⟩
      subst e
      rw [rr_stop h hl hk]
      rfl
theorem rRoot_spec {x s : Int} (hx : nd x ≤ 10000000000) (h0 : 0 ≤ x) (hs : IsRt s x) : callX G n_gantryref04_Root [encI x] = some (.d (.tup [encI s, bv (decide (s * s = x))])) := by
  rw [callX_eq (cf := gantryref04_Root) rfl]
  obtain ⟨l, hl⟩ : ∃ l, digs x.natAbs = l := ⟨_, rfl⟩
  have ll := lenA_dg l
  have s1 : decide (x < 0) = false := lt_f (by omega)
  have hn : l.length ≤ 10000000000 := by rw [← hl]; exact hx
  obtain ⟨m, hm⟩ : ∃ m, l.length / 2 + 1 = m := ⟨_, rfl⟩
  have e2 : w64 ((l.length : Int).tdiv 2) = ((l.length / 2 : Nat) : Int) := by
    rw [quo_pos (by omega)]
    exact w64_id (by omega) (by omega)
  have e3 : w64 (((l.length / 2 : Nat) : Int) + 1) = (m : Int) := by
    rw [← hm]
    exact w64_id (by omega) (by omega)
  have e4 := bnd m (by omega)
  have o1 := normal_spec false (Rw.row (List.replicate m 0 ++ [1])) (by simp; omega) (dig_one m)
  rw [val_lead] at o1
  have hdr : (digs x.natAbs).length ≤ m + m := by rw [hl]; omega
  have hlt : x < (1000000000 : Int) ^ m * (1000000000 : Int) ^ m := by
    have h1 := lt_pow_nd x
    have h2 : x.natAbs < 1000000000 ^ (m + m) := Nat.lt_of_lt_of_le h1 (npow_mono hdr)
    rw [← Int.pow_add]
    have h4 : ((1000000000 ^ (m + m) : Nat) : Int) = (1000000000 : Int) ^ (m + m) := by simp
    rw [← h4]; omega
  have hk : nd ((1000000000 : Int) ^ m) ≤ m + 1 := nd_le (by
    have h4 : ((1000000000 : Int) ^ m).natAbs = 1000000000 ^ m := by rw [Int.natAbs_pow]; rfl
    rw [h4]
    exact Nat.pow_lt_pow_right (by omega) (by omega))
  have hlp := rr_loop (Nat.le_trans hx (by omega)) hs _ 0 ((1000000000 : Int) ^ m) (Nat.le_refl _) (by omega) (pow_pos' m) (by simpa using h0) hlt (by omega)
  have hss : sgn false ((1000000000 : Int) ^ m) = (1000000000 : Int) ^ m := rfl
  rw [hss] at o1
  have hsR : s < (1000000000 : Int) ^ m := rt_gt hs (Int.le_of_lt (pow_pos' m)) hlt
  generalize (1000000000 : Int) ^ m = R at *
  have ns : nd s ≤ 10000000000 := Nat.le_trans (nd_le_of hs.1 (Int.le_of_lt hsR)) (by omega)
  have g1 := rMul_spec (x := s) (y := s) (by omega) (by omega)
  have n2 := nd_mul (x := s) (y := s)
  have g2 := rCompare_spec (x := s * s) (y := x) (by omega) (by omega)
  have g3 := rOf_spec (n := 1) ⟨by omega, by omega⟩
  have g4 := rOf_spec (n := 2) ⟨by omega, by omega⟩
  have c := sgn_eq (a := s * s - x)
  have c2 : decide (s * s - x = 0) = decide (s * s = x) := decide_eq_decide.2 (by omega)
  rw [c2] at c
  clear hlt hsR
  generalize s * s = ss at *
  generalize Int.sign (ss - x) = sg at *
  simp only [iv, bv, rowI, List.length_append, List.length_replicate, List.length_cons, List.length_nil, List.map_append, List.map_cons, List.map_nil, Nat.zero_add] at o1 g2 g3 g4
  simp only [rr_st, rr_en, box0, bI, go_sem] at hlp
  have f1 := rep_I m
  have f2 := allD_I (List.replicate m 0)
  have f3 : (cellsI (List.replicate m 0)).length = m := by rw [cellsI_length, List.length_replicate]
  have f4 : (m + 1) * 8 ≤ bound := by simp only [bound]; omega
  have f5 : List.all [D.v (.int .i64 1)] D.one = true := rfl
  have z1 := zero_agg
  simp -implicitDefEqProofs (maxSteps := 10000000) only [gantryref04_Root, bI, hl, ll, s1, e2, e3, e4, two_ne, f1, f2, f3, f4, f5, o1, g1, g2, g3, g4, z1, hlp, c, src_row, toDs, go_sem, reduceCtorEq, ↓reduceIte, Nat.reduceEqDiff, iv, bv]
end Go.AM

/- Points, directions, edges: rows of them; ref12's small functions. -/
namespace Go.AM
open Go Go.RowKit

abbrev Pt := Int × Int
abbrev Dr := Int × Int × Int
abbrev Eg := Dr × Int
def cP (p : Pt) : List D := [iv p.1, iv p.2]
def cD (d : Dr) : List D := [iv d.1, iv d.2.1, iv d.2.2]
def cG (e : Eg) : List D := [iv e.1.1, iv e.1.2.1, iv e.1.2.2, iv e.2]
def encP (p : Pt) : D := .agg (cP p)
def encD (d : Dr) : D := .agg (cD d)
def encG (e : Eg) : D := .agg (cG e)
theorem cP_len (p : Pt) : (cP p).length = 2 := rfl
theorem cD_len (p : Dr) : (cD p).length = 3 := rfl
theorem cG_len (p : Eg) : (cG p).length = 4 := rfl

/-! ### Rows of things of es cells -/
section
variable {α : Type} {en : α → List D} {es : Nat}
def rowE (en : α → List D) (l : List α) : D := .row l.length (l.flatMap en)
def RwE (en : α → List D) (d : D) (l : List α) : Prop := (d = .z true ∧ l = []) ∨ d = rowE en l
def dE (en : α → List D) (l : List α) : D := if l = [] then .z true else rowE en l
theorem flat_len (hE : ∀ a, (en a).length = es) : ∀ l : List α, (l.flatMap en).length = l.length * es
  | [] => by simp
  | a :: l => by rw [List.flatMap_cons, List.length_append, hE, flat_len hE l, List.length_cons, Nat.succ_mul, Nat.add_comm]
theorem flat_drop (hE : ∀ a, (en a).length = es) : ∀ (l : List α) (j : Nat), (l.flatMap en).drop (j * es) = (l.drop j).flatMap en
  | l, 0 => by simp
  | [], j + 1 => by simp
  | a :: l, j + 1 => by
    rw [List.flatMap_cons, List.drop_succ_cons, ← flat_drop hE l j, Nat.succ_mul, Nat.add_comm, ← List.drop_drop]
    rw [List.drop_left' (hE a)]
theorem RwE.len {d : D} {l : List α} (h : RwE en d l) : lenA (.d d) = some l.length := by
  rcases h with ⟨rfl, rfl⟩ | rfl <;> rfl
theorem RwE.ixa (hE : ∀ a, (en a).length = es) {d : D} {l : List α} (hr : RwE en d l) {j : Nat} (h1 : j < l.length) (h : Hp) : ixaA h es (j : Int) (.d d) = some (.d (.rp ((l.drop j).flatMap en))) := by
  rcases hr with ⟨rfl, rfl⟩ | rfl
  · simp at h1
  · simp only [rowE, ixaA, guardO]
    rw [if_pos ⟨by omega, by omega⟩]
    simp only [Int.toNat_natCast]
    rw [flat_drop hE]
theorem drop_getD [Inhabited α]  {l : List α} {j : Nat} (h : j < l.length) : l.drop j = l.getD j default :: l.drop (j + 1) := by
  rw [List.drop_eq_getElem_cons h, List.getD_eq_getElem?_getD, List.getElem?_eq_getElem h, Option.getD_some]
theorem ldE [Inhabited α] (hE : ∀ a, (en a).length = es) (h : Hp) {l : List α} {j : Nat} (h1 : j < l.length) : loadA h (some es) (.d (.rp ((l.drop j).flatMap en))) = some (.d (.agg (en (l.getD j default)))) := by
  rw [drop_getD h1, List.flatMap_cons]
  simp only [loadA, ldrow, guardO]
  rw [if_pos (by rw [List.length_append, hE]; omega)]
  have : (en (l.getD j default) ++ (l.drop (j + 1)).flatMap en).take es = en (l.getD j default) := by
    rw [List.take_append_of_le_length (by rw [hE]; omega), List.take_of_length_le (by rw [hE]; omega)]
  rw [this]
theorem ldF [Inhabited α] (hE : ∀ a, (en a).length = es) (h : Hp) {l : List α} {j i : Nat} (h1 : j < l.length) (hi : i < es) : loadA h none (.d (.rp (((l.drop j).flatMap en).drop i))) = ((en (l.getD j default))[i]?).map .d := by
  rw [drop_getD h1, List.flatMap_cons]
  simp only [loadA, ldrow]
  rw [List.head?_drop, List.getElem?_append_left (by rw [hE]; exact hi)]
def gAE (k : Nat) (l : List α) : A := if l = [] then .d (.z true) else .own [k] l.length
def arE (en : α → List D) (es n : Nat) (l : List α) : Obj := ⟨es, n, (l.flatMap en).map .d, false⟩
def gHE (en : α → List D) (es k : Nat) (l : List α) : List (Key × Obj) := if l = [] then [] else [([k], arE en es l.length l)]
theorem gAE_nil (k : Nat) : gAE k ([] : List α) = .d (.z true) := rfl
theorem gHE_nil (k : Nat) : gHE en es k [] = [] := rfl
theorem gAE_ne {k : Nat} {l : List α} (h : l ≠ []) : gAE k l = .own [k] l.length := if_neg h
theorem gHE_ne {k : Nat} {l : List α} (h : l ≠ []) : gHE en es k l = [([k], arE en es l.length l)] := if_neg h
theorem gAE_snoc (k : Nat) (l : List α) (v : α) : gAE k (l ++ [v]) = .own [k] (l.length + 1) := by rw [gAE_ne (by simp)]; simp
theorem gHE_snoc (k : Nat) (l : List α) (v : α) : gHE en es k (l ++ [v]) = [([k], arE en es (l.length + 1) (l ++ [v]))] := by rw [gHE_ne (by simp)]; simp
theorem refsL_E (ks : List Key) : ∀ cs : List D, refsL ks (cs.map A.d) = true
  | [] => rfl
  | x :: r => by rw [List.map_cons, refsL, refsL_E ks r]; rfl
theorem allD_E (cs : List D) : allD (cs.map A.d) = some cs := allD_of_map cs
theorem lenE (hE : ∀ a, (en a).length = es) (l : List α) : ((l.flatMap en).map A.d).length = l.length * es := by rw [List.length_map, flat_len hE]
theorem ldO [Inhabited α] (hE : ∀ a, (en a).length = es) {l : List α} {j : Nat} (h1 : j < l.length) : ldcells (some es) (j * es) ((l.flatMap en).map A.d) = some (.d (.agg (en (l.getD j default)))) := by
  have h2 : j * es + es ≤ l.length * es := by rw [← Nat.succ_mul]; exact Nat.mul_le_mul_right _ h1
  simp only [ldcells, guardO]
  rw [if_pos (by rw [lenE hE]; exact h2), ← List.map_drop, flat_drop hE, ← List.map_take, allD_E, drop_getD h1, List.flatMap_cons, List.take_append_of_le_length (by rw [hE]; omega), List.take_of_length_le (by rw [hE]; omega)]
  rfl
/-- What a function hands back that made the row itself. -/
def rE (en : α → List D) (es : Nat) (l : List α) : R := if l = [] then .d (.z true) else .own es l.length (l.flatMap en)
theorem rE_ne {l : List α} (h : l ≠ []) : rE en es l = .own es l.length (l.flatMap en) := if_neg h
end
theorem cP_snoc (l : List Pt) (x y : Int) : (l.flatMap cP).map A.d ++ [.d (.v (.int .i64 x)), .d (.v (.int .i64 y))] = ((l ++ [(x, y)]).flatMap cP).map A.d := by simp [cP, iv]
theorem cD_snoc (l : List Dr) (x y z : Int) : (l.flatMap cD).map A.d ++ [.d (.v (.int .i64 x)), .d (.v (.int .i64 y)), .d (.v (.int .i64 z))] = ((l ++ [(x, y, z)]).flatMap cD).map A.d := by simp [cD, iv]
theorem cG_snoc (l : List Eg) (x y z t : Int) : (l.flatMap cG).map A.d ++ [.d (.v (.int .i64 x)), .d (.v (.int .i64 y)), .d (.v (.int .i64 z)), .d (.v (.int .i64 t))] = ((l ++ [((x, y, z), t)]).flatMap cG).map A.d := by simp [cG, iv]
theorem rep1_2 (a b : D) : rep 1 [a, b] = [a, b] := rfl
theorem rep1_3 (a b c : D) : rep 1 [a, b, c] = [a, b, c] := rfl
theorem rep1_4 (a b c d : D) : rep 1 [a, b, c, d] = [a, b, c, d] := rfl
theorem oneI (k : IntKind) (x : Int) : (D.v (.int k x)).one = true := rfl
theorem flat1P (x y : Int) : ([(x, y)] : List Pt).flatMap cP = [.v (.int .i64 x), .v (.int .i64 y)] := rfl
theorem flat1D (x y z : Int) : ([(x, y, z)] : List Dr).flatMap cD = [.v (.int .i64 x), .v (.int .i64 y), .v (.int .i64 z)] := rfl
theorem flat1G (x y z t : Int) : ([((x, y, z), t)] : List Eg).flatMap cG = [.v (.int .i64 x), .v (.int .i64 y), .v (.int .i64 z), .v (.int .i64 t)] := rfl

/-- Small numbers. -/
def Sm (n : Int) : Prop := -100000000 ≤ n ∧ n ≤ 100000000
def SmP (p : Pt) : Prop := Sm p.1 ∧ Sm p.2
def SmD (d : Dr) : Prop := Sm d.1 ∧ Sm d.2.1 ∧ Sm d.2.2

def dvr_st (a b : Int) : St := mkS [(0, ai a), (1, ai b)] []
def dvr_en (a : Int) : St := mkS [(0, ai a)] []
def nxP (l : List Pt) (i : Nat) : Pt := if i + 1 < l.length then l.getD (i + 1) default else l.getD 0 default
def dotI (d : Dr) (p : Pt) : Int := d.1 * p.1 + d.2.1 * p.2
theorem sm_mul {a b : Int} (ha : Sm a) (hb : Sm b) : -10000000000000000 ≤ a * b ∧ a * b ≤ 10000000000000000 := by
  simp only [Sm] at ha hb
  have h1 : (a * b).natAbs ≤ 100000000 * 100000000 := by
    rw [Int.natAbs_mul]
    exact Nat.mul_le_mul (by omega) (by omega)
  omega
theorem mx_max (a b : Int) : (if b > a then b else a) = max a b := by split <;> omega
def mstN (d : Dr) (l : List Pt) : Nat → Int
  | 0 => dotI d (l.getD 0 default)
  | i + 1 => max (mstN d l i) (dotI d (l.getD i default))
def moP (d : Dr) (l : List Pt) : Int := mstN d l l.length
theorem getD_all {α : Type} {p : α → Prop} {l : List α} {x : α} (h : ∀ q ∈ l, p q) (hx : p x) (i : Nat) : p (l.getD i x) := by
  rw [List.getD_eq_getElem?_getD]
  rcases Nat.lt_or_ge i l.length with h1 | h1
  · rw [List.getElem?_eq_getElem h1]; exact h _ (List.getElem_mem h1)
  · rw [List.getElem?_eq_none h1]; exact hx
theorem sm0 : Sm 0 := ⟨by omega, by omega⟩
theorem smP0 : SmP default := ⟨sm0, sm0⟩
def ms_st (d : D) (e : Dr) (o i : Int) : St := mkS [(0, .d d), (3, .ptr [3] 0), (5, ai o), (6, ai i)] [([3], ⟨0, 0, [.d (iv e.1), .d (iv e.2.1), .d (iv e.2.2)], false⟩)]
def ms_en (o : Int) : St := mkS [(5, ai o)] []
def g3 (dx dy h : Int) : Int := (Int.gcd (Int.gcd dx dy) h : Int)
def nrP (dx dy h : Int) : Dr := (dy.tdiv (g3 dx dy h), (-dx).tdiv (g3 dx dy h), h.tdiv (g3 dx dy h))
theorem tdiv_le (a : Int) {g : Int} (hg : 0 < g) : -(a.natAbs : Int) ≤ a.tdiv g ∧ a.tdiv g ≤ (a.natAbs : Int) := by
  have h1 : (a.tdiv g).natAbs ≤ a.natAbs := by rw [Int.natAbs_tdiv]; exact Nat.div_le_self _ _
  omega
theorem g3_pos (dx dy : Int) {h : Int} (hh : 0 < h) : 0 < g3 dx dy h := by
  unfold g3
  have := Int.gcd_pos_of_ne_zero_right ((Int.gcd dx dy : Nat) : Int) (b := h) (by omega)
  omega
theorem box3s (a b c : D) : stcells 0 [.d a, .d b, .d c] [.d (.v (.int .i64 0)), .d (.v (.int .i64 0)), .d (.v (.int .i64 0))] = some [.d a, .d b, .d c] := rfl
def mvP (tx ty : Int) (p : Pt) : Pt := (p.1 + tx, p.2 + ty)
def mv_st (d : D) (tx ty : Int) (L : List Pt) (i : Int) : St := mkS [(0, .d d), (1, ai tx), (2, ai ty), (7, gAE 32 L), (8, ai i)] (gHE cP 2 32 L)
def mv_en (L : List Pt) : St := mkS [(7, gAE 32 L)] (gHE cP 2 32 L)
def spB (c k m : Int) : List Pt :=
  if c = 0 ∨ c = 1 ∨ c = 2 then [(0, 0), (2 * k, 0), (2 * k, m), (0, m)]
  else if c = 3 then [(0, 0), (4 * k, 0), (0, 3 * k)]
  else if c = 4 then [(0, 0), (4 * k, -3 * k), (8 * k, 0), (4 * k, 3 * k)]
  else if c = 5 then [(0, 0), (8 * k, 0), (8 * k, m), (4 * k, m + 3 * k), (0, m)]
  else [(0, 0), (6 * k, 0), (3 * k, 4 * k)]
def spC (l : List Int) : Int := atr l 0 7
def spK (l : List Int) : Int := 1 + atr l 1 3
def spM (l : List Int) : Int := 1 + atr l 2 6
def spX (l : List Int) : Int := atr l 3 5 - 2
def spY (l : List Int) : Int := atr l 4 5 - 2
def spP (l : List Int) : List Pt := (spB (spC l) (spK l) (spM l)).map (mvP (spX l) (spY l))
theorem sh_b (l : List Int) : (0 ≤ spC l ∧ spC l < 7) ∧ (1 ≤ spK l ∧ spK l < 4) ∧ (1 ≤ spM l ∧ spM l < 7) ∧ (-2 ≤ spX l ∧ spX l < 3) ∧ (-2 ≤ spY l ∧ spY l < 3) := by
  have h1 := atr_b l 0 (m := 7) (by omega)
  have h2 := atr_b l 1 (m := 3) (by omega)
  have h3 := atr_b l 2 (m := 6) (by omega)
  have h4 := atr_b l 3 (m := 5) (by omega)
  have h5 := atr_b l 4 (m := 5) (by omega)
  unfold spC spK spM spX spY
  omega
variable [Its]
theorem size_spec {n : Int} (hn : -4000000000000000000 ≤ n ∧ n ≤ 4000000000000000000) : callX G n_gantryref12_size [iv n] = some (.d (iv (n.natAbs : Int))) := by
  rw [callX_eq (cf := gantryref12_size) rfl]
  have e1 : w64 (0 - n) = -n := by rw [w64_id (by omega) (by omega)]; omega
  have e2 : (if -n > n then -n else n) = ((n.natAbs : Nat) : Int) := by split <;> omega
  generalize ((n.natAbs : Nat) : Int) = z at *
  simp -implicitDefEqProofs (maxSteps := 10000000) only [gantryref12_size, foldV, mxV, go_sem, iv, bv, e1, e2, reduceCtorEq, ↓reduceIte, Nat.reduceEqDiff]

theorem dvr_loop : ∀ (n : Nat) (a b : Int), b.natAbs < n → 0 ≤ a → 0 ≤ b → X G (.loop gantryref12_divisor_l0) (dvr_st a b) = some (.x 0, dvr_en (Int.gcd a b : Int))
  | 0, a, b, h, _, _ => by omega
  | n + 1, a, b, h, ha, hb => by
    by_cases h0 : b = 0
    · subst h0
      have e1 : ((0 : Int) != 0) = false := rfl
      have e2 : ((Int.gcd a 0 : Nat) : Int) = a := by rw [Int.gcd_zero_right]; omega
      rw [e2]
      have g : X G gantryref12_divisor_l0 (dvr_st a 0) = some (.x 0, dvr_en a) := by
        simp -implicitDefEqProofs (maxSteps := 10000000) only [gantryref12_divisor_l0, dvr_st, dvr_en, go_sem, iv, bv, e1, reduceCtorEq, ↓reduceIte, Nat.reduceEqDiff]
      rw [X_loop, g]; rfl
    · have e1 : (b != 0) = true := by simpa using h0
      have e2 := eqz_f (b := b) h0
      have e3 := rem_pos (a := a) (b := b) ha
      have g : X G gantryref12_divisor_l0 (dvr_st a b) = some (.n, dvr_st b (a % b)) := by
        simp -implicitDefEqProofs (maxSteps := 10000000) only [gantryref12_divisor_l0, dvr_st, go_sem, iv, bv, e1, e2, e3, reduceCtorEq, ↓reduceIte, Nat.reduceEqDiff]
      have h1 := Int.emod_nonneg a h0
      have h2 := Int.emod_lt_of_pos a (b := b) (by omega)
      have ih := dvr_loop n b (a % b) (by omega) hb h1
      have e4 : Int.gcd b (a % b) = Int.gcd a b := by
        obtain ⟨u, rfl⟩ := Int.eq_ofNat_of_zero_le ha
        obtain ⟨v, rfl⟩ := Int.eq_ofNat_of_zero_le hb
        show Nat.gcd v _ = Nat.gcd u v
        rw [← Int.natCast_emod, Int.natAbs_natCast, Nat.gcd_comm v, ← Nat.gcd_rec v u |>.symm.trans (Nat.gcd_comm v u)]
      rw [X_loop, g, Option.bind_some, if_pos rfl, ih, e4]
theorem divisor_spec {a b : Int} (ha : 0 ≤ a) (hb : 0 ≤ b) : callX G n_gantryref12_divisor [iv a, iv b] = some (.d (iv (Int.gcd a b : Int))) := by
  rw [callX_eq (cf := gantryref12_divisor) rfl]
  have g := dvr_loop (b.natAbs + 1) a b (by omega) ha hb
  generalize ((Int.gcd a b : Nat) : Int) = z at *
  simp only [dvr_st, dvr_en, go_sem] at g
  simp -implicitDefEqProofs (maxSteps := 10000000) only [gantryref12_divisor, g, go_sem, iv, bv, reduceCtorEq, ↓reduceIte, Nat.reduceEqDiff]

theorem Turn_spec {d : Dr} (h : SmD d) : callX G n_gantryref12_Turn [encD d] = some (.d (encD (-d.1, -d.2.1, d.2.2))) := by
  rw [callX_eq (cf := gantryref12_Turn) rfl]
  obtain ⟨x, y, z⟩ := d
  obtain ⟨h1, h2, h3⟩ := h
  simp only [Sm] at h1 h2 h3
  have e1 : w64 (0 - x) = -x := by rw [w64_id (by omega) (by omega)]; omega
  have e2 : w64 (0 - y) = -y := by rw [w64_id (by omega) (by omega)]; omega
  simp -implicitDefEqProofs (maxSteps := 10000000) only [gantryref12_Turn, encD, cD, stcells, ldcells, go_sem, iv, bv, e1, e2, reduceCtorEq, ↓reduceIte, Nat.reduceEqDiff]

theorem Next_spec {d : D} {l : List Pt} (hr : RwE cP d l) {i : Nat} (hi : i < l.length) (hl : l.length ≤ 1000000) : callX G n_gantryref12_Next [d, iv (i : Int)] = some (.d (encP (nxP l i))) := by
  rw [callX_eq (cf := gantryref12_Next) rfl]
  have ll := hr.len
  have e1 : w64 ((i : Int) + 1) = ((i + 1 : Nat) : Int) := by rw [w64_id (by omega) (by omega)]; rfl
  unfold nxP
  by_cases h : i + 1 < l.length
  · have e2 : decide (((i + 1 : Nat) : Int) < (l.length : Int)) = true := lt_t (by omega)
    have x1 := hr.ixa cP_len h
    have x2 := fun hp => ldE cP_len hp h
    rw [if_pos h]
    generalize l.getD (i + 1) default = q at *
    obtain ⟨x, y⟩ := q
    simp only [cP, iv] at x2
    simp -implicitDefEqProofs (maxSteps := 10000000) only [gantryref12_Next, encP, cP, stcells, ldcells, go_sem, iv, bv, e1, e2, ll, x1, x2, reduceCtorEq, ↓reduceIte, Nat.reduceEqDiff]
  · have e2 : decide (((i + 1 : Nat) : Int) < (l.length : Int)) = false := lt_f (by omega)
    have x1 := hr.ixa (j := 0) cP_len (by omega)
    have x2 := fun hp => ldE (j := 0) (l := l) cP_len hp (by omega)
    simp only [nc0, List.drop_zero] at x1 x2
    rw [if_neg h]
    generalize l.getD 0 default = q at *
    obtain ⟨x, y⟩ := q
    simp only [cP, iv] at x2
    simp -implicitDefEqProofs (maxSteps := 10000000) only [gantryref12_Next, encP, cP, stcells, ldcells, go_sem, iv, bv, e1, e2, ll, x1, x2, reduceCtorEq, ↓reduceIte, Nat.reduceEqDiff]

theorem ms_go {d : D} {l : List Pt} {e : Dr} (hr : RwE cP d l) (hl : ∀ p ∈ l, SmP p) (he : SmD e) (hn : l.length ≤ 1000000) {o : Int} {i : Nat} (hi : i < l.length) : X G gantryref12_Most_l0 (ms_st d e o i) = some (.n, ms_st d e (max o (dotI e (l.getD i default))) ((i + 1 : Nat) : Int)) := by
  have ll := hr.len
  have e1 : decide ((i : Int) < (l.length : Int)) = true := lt_t (by omega)
  have e2 : w64 ((i : Int) + 1) = ((i + 1 : Nat) : Int) := by rw [w64_id (by omega) (by omega)]; rfl
  have x1 := hr.ixa cP_len hi
  have x2 := fun hp => ldF (i := 0) cP_len hp hi (by omega)
  have x3 := fun hp => ldF (i := 1) cP_len hp hi (by omega)
  have hp := getD_all hl smP0 i
  unfold dotI
  generalize l.getD i default = q at *
  obtain ⟨x, y⟩ := q
  obtain ⟨a, b, c⟩ := e
  obtain ⟨h1, h2, h3⟩ := he
  have m1 := sm_mul h1 hp.1
  have m2 := sm_mul h2 hp.2
  dsimp only at m1 m2 ⊢
  have e3 : w64 (a * x) = a * x := w64_id (by omega) (by omega)
  have e4 : w64 (b * y) = b * y := w64_id (by omega) (by omega)
  obtain ⟨s, hs⟩ : ∃ s, a * x + b * y = s := ⟨_, rfl⟩
  have e5 : w64 (a * x + b * y) = s := by rw [w64_id (by omega) (by omega), hs]
  have e6 := mx_max o s
  rw [hs]
  simp only [cP, iv, List.getElem?_cons_zero, List.getElem?_cons_succ, Option.map_some, List.drop_zero] at x2 x3
  simp -implicitDefEqProofs (maxSteps := 10000000) only [gantryref12_Most_l0, ms_st, foldV, mxV, stcells, ldcells, go_sem, iv, bv, e1, e2, e3, e4, e5, e6, ll, x1, x2, x3, reduceCtorEq, ↓reduceIte, Nat.reduceEqDiff]
theorem ms_stop {d : D} {l : List Pt} {e : Dr} (hr : RwE cP d l) {o : Int} : X G gantryref12_Most_l0 (ms_st d e o l.length) = some (.x 0, ms_en o) := by
  have ll := hr.len
  have e1 : decide ((l.length : Int) < (l.length : Int)) = false := lt_f (by omega)
  simp -implicitDefEqProofs (maxSteps := 10000000) only [gantryref12_Most_l0, ms_st, ms_en, go_sem, iv, bv, e1, ll, reduceCtorEq, ↓reduceIte, Nat.reduceEqDiff]
theorem ms_loop {d : D} {l : List Pt} {e : Dr} (hr : RwE cP d l) (hl : ∀ p ∈ l, SmP p) (he : SmD e) (hn : l.length ≤ 1000000) : ∀ (j i : Nat), i + j = l.length → X G (.loop gantryref12_Most_l0) (ms_st d e (mstN e l i) i) = some (.x 0, ms_en (moP e l))
  | 0, i, h => by
    have : i = l.length := by omega
    subst this
    rw [X_loop, ms_stop hr]; rfl
  | j + 1, i, h => by
    rw [X_loop, ms_go hr hl he hn (by omega), Option.bind_some, if_pos rfl]
    exact ms_loop hr hl he hn j (i + 1) (by omega)
theorem Most_spec {d : D} {l : List Pt} {e : Dr} (hr : RwE cP d l) (h0 : 0 < l.length) (hl : ∀ p ∈ l, SmP p) (he : SmD e) (hn : l.length ≤ 1000000) : callX G n_gantryref12_Most [d, encD e] = some (.d (iv (moP e l))) := by
  rw [callX_eq (cf := gantryref12_Most) rfl]
  have g := ms_loop hr hl he hn l.length 0 (by omega)
  have x1 := hr.ixa (j := 0) cP_len h0
  have x2 := fun hp => ldF (i := 0) (l := l) cP_len hp h0 (by omega)
  have x3 := fun hp => ldF (i := 1) (l := l) cP_len hp h0 (by omega)
  have hp := getD_all hl smP0 0
  simp only [mstN, dotI] at g
  generalize l.getD 0 default = q at *
  obtain ⟨x, y⟩ := q
  obtain ⟨a, b, c⟩ := e
  obtain ⟨h1, h2, h3⟩ := he
  have m1 := sm_mul h1 hp.1
  have m2 := sm_mul h2 hp.2
  dsimp only at m1 m2 g
  have e3 : w64 (a * x) = a * x := w64_id (by omega) (by omega)
  have e4 : w64 (b * y) = b * y := w64_id (by omega) (by omega)
  obtain ⟨s, hs⟩ : ∃ s, a * x + b * y = s := ⟨_, rfl⟩
  have e5 : w64 (a * x + b * y) = s := by rw [w64_id (by omega) (by omega), hs]
  rw [hs] at g
  simp only [cP, iv, List.getElem?_cons_zero, List.getElem?_cons_succ, Option.map_some, List.drop_zero] at x2 x3
  generalize moP (a, b, c) l = z at *
  simp only [nc0, List.drop_zero] at x1 x2 x3
  simp only [ms_st, ms_en, iv, go_sem] at g
  simp -implicitDefEqProofs (maxSteps := 10000000) only [gantryref12_Most, encD, cD, g, stcells, ldcells, go_sem, iv, bv, e3, e4, e5, x1, x2, x3, reduceCtorEq, ↓reduceIte, Nat.reduceEqDiff]

/-! ### Normals -/
theorem Norm_spec {a b : Pt} {h : Int} (ha : SmP a) (hb : SmP b) (hh : h * h = (b.1 - a.1) * (b.1 - a.1) + (b.2 - a.2) * (b.2 - a.2)) (h0 : 0 < h) : callX G n_gantryref12_Norm [encP a, encP b] = some (.d (.tup [encD (nrP (b.1 - a.1) (b.2 - a.2) h), bv true])) := by
  rw [callX_eq (cf := gantryref12_Norm) rfl]
  obtain ⟨ax, ay⟩ := a
  obtain ⟨bx, byy⟩ := b
  obtain ⟨h1, h2⟩ := ha
  obtain ⟨h3, h4⟩ := hb
  simp only [Sm] at h1 h2 h3 h4
  dsimp only at hh ⊢
  obtain ⟨dx, hdx⟩ : ∃ z, bx - ax = z := ⟨_, rfl⟩
  obtain ⟨dy, hdy⟩ : ∃ z, byy - ay = z := ⟨_, rfl⟩
  have e1 : w64 (bx - ax) = dx := by rw [w64_id (by omega) (by omega), hdx]
  have e2 : w64 (byy - ay) = dy := by rw [w64_id (by omega) (by omega), hdy]
  rw [hdx, hdy] at hh
  rw [hdx, hdy]
  have b1 : -200000000 ≤ dx ∧ dx ≤ 200000000 := by omega
  have b2 : -200000000 ≤ dy ∧ dy ≤ 200000000 := by omega
  clear hdx hdy h1 h2 h3 h4
  have sq : ∀ z : Int, -200000000 ≤ z ∧ z ≤ 200000000 → 0 ≤ z * z ∧ z * z ≤ 40000000000000000 := by
    intro z hz
    have h1 : (z * z).natAbs ≤ 200000000 * 200000000 := by
      rw [Int.natAbs_mul]
      exact Nat.mul_le_mul (by omega) (by omega)
    have h2 : 0 ≤ z * z := by
      rcases Int.le_total 0 z with h | h
      · exact Int.mul_nonneg h h
      · exact Int.mul_nonneg_of_nonpos_of_nonpos h h
    omega
  have q1 := sq dx b1
  have q2 := sq dy b2
  clear sq
  obtain ⟨p1, hp1⟩ : ∃ z, dx * dx = z := ⟨_, rfl⟩
  obtain ⟨p2, hp2⟩ : ∃ z, dy * dy = z := ⟨_, rfl⟩
  obtain ⟨s, hs⟩ : ∃ z, p1 + p2 = z := ⟨_, rfl⟩
  have e3 : w64 (dx * dx) = p1 := by rw [w64_id (by omega) (by omega), hp1]
  have e4 : w64 (dy * dy) = p2 := by rw [w64_id (by omega) (by omega), hp2]
  have e5 : w64 (p1 + p2) = s := by rw [w64_id (by omega) (by omega), hs]
  rw [hp1, hp2, hs] at hh
  have hh2 : h < 1000000000 := by
    apply Classical.byContradiction
    intro hc
    have := sq_mono (a := 1000000000) (b := h) (by omega) (by omega)
    omega
  have hI : I64 (s) := ⟨by omega, by omega⟩
  have hrt : IsRt h s := by
    refine ⟨by omega, by omega, ?_⟩
    have e : (h + 1) * (h + 1) = h * h + 2 * h + 1 := by grind
    omega
  have g1 := rOf_spec hI
  have g2 := rRoot_spec (x := s) (Nat.le_trans (nd_i64 hI) (by omega)) (by omega) hrt
  have hhI : I64 h := ⟨by omega, by omega⟩
  have g4 := rSmall_spec (x := h) (Nat.le_trans (nd_i64 hhI) (by omega))
  rw [(smb_t hhI).1, (smb_t hhI).2] at g4
  rw [decide_eq_true hh] at g2
  have g5 := size_spec (n := dx) (by omega)
  have g6 := size_spec (n := dy) (by omega)
  have g7 := divisor_spec (a := (dx.natAbs : Int)) (b := (dy.natAbs : Int)) (by omega) (by omega)
  have g8 := divisor_spec (a := (Int.gcd dx dy : Int)) (b := h) (by omega) (by omega)
  have e6 : Int.gcd (dx.natAbs : Int) (dy.natAbs : Int) = Int.gcd dx dy := by simp [Int.gcd]
  rw [e6] at g7
  have gp := g3_pos dx dy h0
  have e7 : (Int.gcd (Int.gcd dx dy) h : Int) = g3 dx dy h := rfl
  rw [e7] at g8
  unfold nrP
  obtain ⟨g, hg⟩ : ∃ g, g3 dx dy h = g := ⟨_, rfl⟩
  rw [hg] at g8 gp ⊢
  have e8 := eqz_f (b := g) (by omega)
  have e9 : w64 (0 - dx) = -dx := by rw [w64_id (by omega) (by omega)]; omega
  have t1 := tdiv_le dy gp
  have t2 := tdiv_le (-dx) gp
  have t3 := tdiv_le h gp
  have f1 : w64 (dy.tdiv g) = dy.tdiv g := w64_id (by omega) (by omega)
  have f2 : w64 ((-dx).tdiv g) = (-dx).tdiv g := w64_id (by omega) (by omega)
  have f3 : w64 (h.tdiv g) = h.tdiv g := w64_id (by omega) (by omega)
  have f4 : (h == 0) = false := beq_f (by omega)
  clear t1 t2 t3 q1 q2
  have u1 := dc_dg (digs h.natAbs)
  simp only [encI, iv, bv] at g1 g2 g4 g5 g6 g7 g8
  generalize digs h.natAbs = dh at *
  generalize decide (h < 0) = sh at *
  simp -implicitDefEqProofs (maxSteps := 10000000) only [gantryref12_Norm, toDs, encP, cP, encD, cD, box3s, stcells, ldcells, cells_dg, one_dg', u1, g1, g2, g4, g5, g6, g7, g8, e1, e2, e3, e4, e5, e8, e9, f1, f2, f3, f4, Bool.not_true, Bool.not_false, go_sem, iv, bv, reduceCtorEq, ↓reduceIte, Nat.reduceEqDiff]

/-! ### Moved shapes -/
theorem mv_go {d : D} {l : List Pt} {tx ty : Int} (hr : RwE cP d l) (hl : ∀ p ∈ l, SmP p) (hx : Sm tx) (hy : Sm ty) (hn : l.length ≤ 1000000) {L : List Pt} (hL : L.length ≤ 1000000) {i : Nat} (hi : i < l.length) :
    X G gantryref12_Move_l0 (mv_st d tx ty L i) = some (.n, mv_st d tx ty (L ++ [mvP tx ty (l.getD i default)]) ((i + 1 : Nat) : Int)) := by
  have ll := hr.len
  have e1 : decide ((i : Int) < (l.length : Int)) = true := lt_t (by omega)
  have e2 : w64 ((i : Int) + 1) = ((i + 1 : Nat) : Int) := by rw [w64_id (by omega) (by omega)]; rfl
  have x1 := hr.ixa cP_len hi
  have x2 := fun hp => ldF (i := 0) cP_len hp hi (by omega)
  have x3 := fun hp => ldF (i := 1) cP_len hp hi (by omega)
  have hp := getD_all hl smP0 i
  generalize l.getD i default = q at *
  obtain ⟨x, y⟩ := q
  obtain ⟨h1, h2⟩ := hp
  simp only [Sm] at h1 h2 hx hy
  obtain ⟨u, hu⟩ : ∃ u, x + tx = u := ⟨_, rfl⟩
  obtain ⟨v, hv⟩ : ∃ v, y + ty = v := ⟨_, rfl⟩
  have e3 : w64 (x + tx) = u := by rw [w64_id (by omega) (by omega), hu]
  have e4 : w64 (y + ty) = v := by rw [w64_id (by omega) (by omega), hv]
  simp only [cP, iv, List.getElem?_cons_zero, List.getElem?_cons_succ, Option.map_some, List.drop_zero] at x2 x3
  unfold mvP
  dsimp only
  rw [hu, hv]
  by_cases h0 : L = []
  · subst h0
    have hb : (16 ≤ bound) = True := eq_true (by unfold bound; omega)
    have hb1 : (1 * 16 ≤ bound) = True := eq_true (by unfold bound; omega)
    have hq : ([(u, v)] : List Pt) ≠ [] := by simp
    simp -implicitDefEqProofs (maxSteps := 10000000) only [gantryref12_Move_l0, mv_st, gAE_nil, gHE_nil, gAE_ne hq, gHE_ne hq, arE, flat1P, hupdO_none, List.nil_append, List.cons_append, List.length_nil, List.length_cons, Nat.zero_add, List.map_cons, List.map_nil, rep1_2, oneI, srcS, src, allD, hb, hb1, ll, x1, x2, x3, go_sem, iv, bv, e1, e2, e3, e4, reduceCtorEq, ↓reduceIte, Nat.reduceEqDiff]
  · have n3 := lenE cP_len L
    have n4 : ((L.length + 1) * 16 ≤ bound) = True := eq_true (by unfold bound; omega)
    simp -implicitDefEqProofs (maxSteps := 10000000) only [gantryref12_Move_l0, mv_st, gAE_ne h0, gHE_ne h0, gAE_snoc, gHE_snoc, arE, cP_snoc, refsL_E, n3, n4, List.nil_append, List.cons_append, List.length_nil, List.length_cons, Nat.zero_add, List.map_cons, List.map_nil, List.all_cons, List.all_nil, rep1_2, oneI, srcS, src, allD, ll, x1, x2, x3, go_sem, iv, bv, e1, e2, e3, e4, reduceCtorEq, ↓reduceIte, Nat.reduceEqDiff]
theorem mv_stop {d : D} {l : List Pt} {tx ty : Int} (hr : RwE cP d l) {L : List Pt} : X G gantryref12_Move_l0 (mv_st d tx ty L l.length) = some (.x 0, mv_en L) := by
  have ll := hr.len
  have e1 : decide ((l.length : Int) < (l.length : Int)) = false := lt_f (by omega)
  by_cases h0 : L = []
  · subst h0
    simp -implicitDefEqProofs (maxSteps := 10000000) only [gantryref12_Move_l0, mv_st, mv_en, gAE_nil, gHE_nil, hupdO_none, ll, go_sem, iv, bv, e1, reduceCtorEq, ↓reduceIte, Nat.reduceEqDiff]
  · simp -implicitDefEqProofs (maxSteps := 10000000) only [gantryref12_Move_l0, mv_st, mv_en, gAE_ne h0, gHE_ne h0, arE, refsL_E, ll, go_sem, iv, bv, e1, reduceCtorEq, ↓reduceIte, Nat.reduceEqDiff]
theorem mv_loop {d : D} {l : List Pt} {tx ty : Int} (hr : RwE cP d l) (hl : ∀ p ∈ l, SmP p) (hx : Sm tx) (hy : Sm ty) (hn : l.length ≤ 1000000) : ∀ (j i : Nat), i + j = l.length → X G (.loop gantryref12_Move_l0) (mv_st d tx ty ((l.take i).map (mvP tx ty)) i) = some (.x 0, mv_en (l.map (mvP tx ty)))
  | 0, i, h => by
    have : i = l.length := by omega
    subst this
    rw [X_loop, mv_stop hr, List.take_length]; rfl
  | j + 1, i, h => by
    have hi : i < l.length := by omega
    have ih := mv_loop hr hl hx hy hn j (i + 1) (by omega)
    have e : (l.take (i + 1)).map (mvP tx ty) = (l.take i).map (mvP tx ty) ++ [mvP tx ty (l.getD i default)] := by
      rw [List.take_add_one, List.map_append, List.getElem?_eq_getElem hi, List.getD_eq_getElem?_getD, List.getElem?_eq_getElem hi]
      rfl
    rw [e] at ih
    rw [X_loop, mv_go hr hl hx hy hn (by simp; omega) hi, Option.bind_some, if_pos rfl]
    exact ih
theorem Move_spec {d : D} {l : List Pt} {tx ty : Int} (hr : RwE cP d l) (hl : ∀ p ∈ l, SmP p) (hx : Sm tx) (hy : Sm ty) (hn : l.length ≤ 1000000) : callX G n_gantryref12_Move [d, iv tx, iv ty] = some (rE cP 2 (l.map (mvP tx ty))) := by
  rw [callX_eq (cf := gantryref12_Move) rfl]
  have g := mv_loop hr hl hx hy hn l.length 0 (by omega)
  simp only [List.take_zero, List.map_nil] at g
  generalize l.map (mvP tx ty) = L at *
  simp only [mv_st, mv_en, gAE_nil, gHE_nil, hupdO_none, go_sem, nc0, iv] at g
  by_cases h0 : L = []
  · subst h0
    simp only [gAE_nil, gHE_nil, hupdO_none, go_sem] at g
    simp -implicitDefEqProofs (maxSteps := 10000000) only [gantryref12_Move, rE, g, hupdO_none, go_sem, iv, bv, reduceCtorEq, ↓reduceIte, Nat.reduceEqDiff]
  · simp only [gAE_ne h0, gHE_ne h0, arE, go_sem] at g
    simp -implicitDefEqProofs (maxSteps := 10000000) only [gantryref12_Move, rE_ne h0, g, refsL_E, allD_E, hupdO_none, go_sem, iv, bv, reduceCtorEq, ↓reduceIte, Nat.reduceEqDiff]

/-! ### Shapes -/
end Go.AM

/- ref12.Shape and Sides. -/
namespace Go.AM
open Go Go.RowKit

theorem rep4_2 (a b : D) : rep 4 [a, b] = [a, b, a, b, a, b, a, b] := rfl
theorem rep3_2 (a b : D) : rep 3 [a, b] = [a, b, a, b, a, b] := rfl
theorem rep5_2 (a b : D) : rep 5 [a, b] = [a, b, a, b, a, b, a, b, a, b] := rfl
theorem spB_sm {c k m : Int} (hk : 1 ≤ k ∧ k < 4) (hm : 1 ≤ m ∧ m < 7) : ∀ p ∈ spB c k m, -9 ≤ p.1 ∧ p.1 ≤ 24 ∧ -9 ≤ p.2 ∧ p.2 ≤ 24 := by
  intro p hp
  unfold spB at hp
  split at hp
  · simp only [List.mem_cons, List.not_mem_nil, or_false] at hp
    rcases hp with rfl | rfl | rfl | rfl <;> (dsimp only; omega)
  split at hp
  · simp only [List.mem_cons, List.not_mem_nil, or_false] at hp
    rcases hp with rfl | rfl | rfl <;> (dsimp only; omega)
  split at hp
  · simp only [List.mem_cons, List.not_mem_nil, or_false] at hp
    rcases hp with rfl | rfl | rfl | rfl <;> (dsimp only; omega)
  split at hp
  · simp only [List.mem_cons, List.not_mem_nil, or_false] at hp
    rcases hp with rfl | rfl | rfl | rfl | rfl <;> (dsimp only; omega)
  · simp only [List.mem_cons, List.not_mem_nil, or_false] at hp
    rcases hp with rfl | rfl | rfl <;> (dsimp only; omega)
theorem spB_len (c k m : Int) : 3 ≤ (spB c k m).length ∧ (spB c k m).length ≤ 5 := by
  unfold spB
  repeat' split
  all_goals simp
variable [Its]

set_option maxHeartbeats 2000000 in
theorem Shape_spec {d : D} {l : List Int} (hr : Rw d l) (hl : ∀ n ∈ l, I64 n) : callX G n_gantryref12_Shape [d] = some (.d (rowE cP (spP l))) := by
  rw [callX_eq (cf := gantryref12_Shape) rfl]
  have g0 := at_spec (i := 0) (m := 7) hr hl (by omega)
  have g1 := at_spec (i := 1) (m := 3) hr hl (by omega)
  have g2 := at_spec (i := 2) (m := 6) hr hl (by omega)
  have g3 := at_spec (i := 3) (m := 5) hr hl (by omega)
  have g4 := at_spec (i := 4) (m := 5) hr hl (by omega)
  obtain ⟨bc, bk, bm, bx, by_⟩ := sh_b l
  have sb := spB_sm (c := spC l) bk bm
  unfold spP
  unfold spC spK spM spX spY at *
  obtain ⟨k, hk⟩ : ∃ k, 1 + atr l 1 3 = k := ⟨_, rfl⟩
  obtain ⟨m, hm⟩ : ∃ k, 1 + atr l 2 6 = k := ⟨_, rfl⟩
  obtain ⟨x, hx⟩ : ∃ k, atr l 3 5 - 2 = k := ⟨_, rfl⟩
  obtain ⟨y, hy⟩ : ∃ k, atr l 4 5 - 2 = k := ⟨_, rfl⟩
  obtain ⟨c, hc⟩ : ∃ k, atr l 0 7 = k := ⟨_, rfl⟩
  rw [hc] at g0 bc sb
  have e1 : w64 (1 + atr l 1 3) = k := by rw [w64_id (by omega) (by omega), hk]
  have e2 : w64 (1 + atr l 2 6) = m := by rw [w64_id (by omega) (by omega), hm]
  have e3 : w64 (atr l 3 5 - 2) = x := by rw [w64_id (by omega) (by omega), hx]
  have e4 : w64 (atr l 4 5 - 2) = y := by rw [w64_id (by omega) (by omega), hy]
  rw [hk] at bk sb
  rw [hm] at bm sb
  rw [hx] at bx
  rw [hy] at by_
  rw [hc, hk, hm, hx, hy]
  clear hk hm hx hy hc
  have hsm : ∀ p ∈ spB c k m, SmP p := fun p hp => by
    have := sb p hp
    exact ⟨⟨by omega, by omega⟩, ⟨by omega, by omega⟩⟩
  have hlen := spB_len c k m
  have hmv := fun d (hd : RwE cP d (spB c k m)) => Move_spec (tx := x) (ty := y) hd hsm ⟨by omega, by omega⟩ ⟨by omega, by omega⟩ (by omega)
  have hne : (spB c k m).map (mvP x y) ≠ [] := fun h => by
    have := congrArg List.length h
    simp only [List.length_map, List.length_nil] at this
    omega
  obtain ⟨L, hL⟩ : ∃ L, (spB c k m).map (mvP x y) = L := ⟨_, rfl⟩
  rw [hL] at hne ⊢
  have f1 : w64 (2 * k) = 2 * k := w64_id (by omega) (by omega)
  have f2 : w64 (4 * k) = 4 * k := w64_id (by omega) (by omega)
  have f3 : w64 (3 * k) = 3 * k := w64_id (by omega) (by omega)
  have f4 : w64 (8 * k) = 8 * k := w64_id (by omega) (by omega)
  have f5 : w64 (6 * k) = 6 * k := w64_id (by omega) (by omega)
  have f6 : w64 (-3 * k) = -3 * k := w64_id (by omega) (by omega)
  have f7 : w64 (m + 3 * k) = m + 3 * k := w64_id (by omega) (by omega)
  have cases : (c = 0 ∨ c = 1 ∨ c = 2) ∨ c = 3 ∨ c = 4 ∨ c = 5 ∨ c = 6 := by omega
  rcases cases with h | h | h | h | h
  · have hs : spB c k m = [(0, 0), (2 * k, 0), (2 * k, m), (0, m)] := by unfold spB; rw [if_pos h]
    have gm := hmv (rowE cP [(0, 0), (2 * k, 0), (2 * k, m), (0, m)]) (.inr (by rw [hs]))
    rw [hL, rE_ne hne] at gm
    simp only [rowE, cP, iv, List.flatMap_cons, List.flatMap_nil, List.cons_append, List.nil_append, List.append_nil, List.length_cons, List.length_nil, Nat.reduceAdd, Nat.zero_add] at gm g0 g1 g2 g3 g4
    rcases h with rfl | rfl | rfl
    · simp -implicitDefEqProofs (maxSteps := 10000000) only [gantryref12_Shape, rowE, g0, g1, g2, g3, g4, gm, e1, e2, e3, e4, f1, f2, f3, f4, f5, f6, f7, beq_self_eq_true, rep4_2, go_sem, iv, bv, reduceCtorEq, ↓reduceIte, Nat.reduceEqDiff]
    · have q0 : ((1 : Int) == 0) = false := rfl
      simp -implicitDefEqProofs (maxSteps := 10000000) only [gantryref12_Shape, rowE, g0, g1, g2, g3, g4, gm, e1, e2, e3, e4, f1, f2, f3, f4, f5, f6, f7, q0, beq_self_eq_true, rep4_2, go_sem, iv, bv, reduceCtorEq, ↓reduceIte, Nat.reduceEqDiff]
    · have q0 : ((2 : Int) == 0) = false := rfl
      have q1 : ((2 : Int) == 1) = false := rfl
      simp -implicitDefEqProofs (maxSteps := 10000000) only [gantryref12_Shape, rowE, g0, g1, g2, g3, g4, gm, e1, e2, e3, e4, f1, f2, f3, f4, f5, f6, f7, q0, q1, beq_self_eq_true, rep4_2, go_sem, iv, bv, reduceCtorEq, ↓reduceIte, Nat.reduceEqDiff]
  · subst h
    have hs : spB 3 k m = [(0, 0), (4 * k, 0), (0, 3 * k)] := rfl
    have gm := hmv (rowE cP [(0, 0), (4 * k, 0), (0, 3 * k)]) (.inr (by rw [hs]))
    rw [hL, rE_ne hne] at gm
    simp only [rowE, cP, iv, List.flatMap_cons, List.flatMap_nil, List.cons_append, List.nil_append, List.append_nil, List.length_cons, List.length_nil, Nat.reduceAdd, Nat.zero_add] at gm g0 g1 g2 g3 g4
    have q0 : ((3 : Int) == 0) = false := rfl
    have q1 : ((3 : Int) == 1) = false := rfl
    have q2 : ((3 : Int) == 2) = false := rfl
    simp -implicitDefEqProofs (maxSteps := 10000000) only [gantryref12_Shape, rowE, g0, g1, g2, g3, g4, gm, e1, e2, e3, e4, f1, f2, f3, f4, f5, f6, f7, q0, q1, q2, beq_self_eq_true, rep3_2, go_sem, iv, bv, reduceCtorEq, ↓reduceIte, Nat.reduceEqDiff]
  · subst h
    have hs : spB 4 k m = [(0, 0), (4 * k, -3 * k), (8 * k, 0), (4 * k, 3 * k)] := rfl
    have gm := hmv (rowE cP [(0, 0), (4 * k, -3 * k), (8 * k, 0), (4 * k, 3 * k)]) (.inr (by rw [hs]))
    rw [hL, rE_ne hne] at gm
    simp only [rowE, cP, iv, List.flatMap_cons, List.flatMap_nil, List.cons_append, List.nil_append, List.append_nil, List.length_cons, List.length_nil, Nat.reduceAdd, Nat.zero_add] at gm g0 g1 g2 g3 g4
    have q0 : ((4 : Int) == 0) = false := rfl
    have q1 : ((4 : Int) == 1) = false := rfl
    have q2 : ((4 : Int) == 2) = false := rfl
    have q3 : ((4 : Int) == 3) = false := rfl
    simp -implicitDefEqProofs (maxSteps := 10000000) only [gantryref12_Shape, rowE, g0, g1, g2, g3, g4, gm, e1, e2, e3, e4, f1, f2, f3, f4, f5, f6, f7, q0, q1, q2, q3, beq_self_eq_true, rep4_2, go_sem, iv, bv, reduceCtorEq, ↓reduceIte, Nat.reduceEqDiff]
  · subst h
    have hs : spB 5 k m = [(0, 0), (8 * k, 0), (8 * k, m), (4 * k, m + 3 * k), (0, m)] := rfl
    have gm := hmv (rowE cP [(0, 0), (8 * k, 0), (8 * k, m), (4 * k, m + 3 * k), (0, m)]) (.inr (by rw [hs]))
    rw [hL, rE_ne hne] at gm
    simp only [rowE, cP, iv, List.flatMap_cons, List.flatMap_nil, List.cons_append, List.nil_append, List.append_nil, List.length_cons, List.length_nil, Nat.reduceAdd, Nat.zero_add] at gm g0 g1 g2 g3 g4
    have q0 : ((5 : Int) == 0) = false := rfl
    have q1 : ((5 : Int) == 1) = false := rfl
    have q2 : ((5 : Int) == 2) = false := rfl
    have q3 : ((5 : Int) == 3) = false := rfl
    have q4 : ((5 : Int) == 4) = false := rfl
    simp -implicitDefEqProofs (maxSteps := 10000000) only [gantryref12_Shape, rowE, g0, g1, g2, g3, g4, gm, e1, e2, e3, e4, f1, f2, f3, f4, f5, f6, f7, q0, q1, q2, q3, q4, beq_self_eq_true, rep5_2, go_sem, iv, bv, reduceCtorEq, ↓reduceIte, Nat.reduceEqDiff]
  · subst h
    have hs : spB 6 k m = [(0, 0), (6 * k, 0), (3 * k, 4 * k)] := rfl
    have gm := hmv (rowE cP [(0, 0), (6 * k, 0), (3 * k, 4 * k)]) (.inr (by rw [hs]))
    rw [hL, rE_ne hne] at gm
    simp only [rowE, cP, iv, List.flatMap_cons, List.flatMap_nil, List.cons_append, List.nil_append, List.append_nil, List.length_cons, List.length_nil, Nat.reduceAdd, Nat.zero_add] at gm g0 g1 g2 g3 g4
    have q0 : ((6 : Int) == 0) = false := rfl
    have q1 : ((6 : Int) == 1) = false := rfl
    have q2 : ((6 : Int) == 2) = false := rfl
    have q3 : ((6 : Int) == 3) = false := rfl
    have q4 : ((6 : Int) == 4) = false := rfl
    have q5 : ((6 : Int) == 5) = false := rfl
    simp -implicitDefEqProofs (maxSteps := 10000000) only [gantryref12_Shape, rowE, g0, g1, g2, g3, g4, gm, e1, e2, e3, e4, f1, f2, f3, f4, f5, f6, f7, q0, q1, q2, q3, q4, q5, beq_self_eq_true, rep3_2, go_sem, iv, bv, reduceCtorEq, ↓reduceIte, Nat.reduceEqDiff]
end Go.AM

/- ref12.Sides. -/
namespace Go.AM
open Go Go.RowKit

def sqF : Nat → Nat → Nat
  | 0, _ => 0
  | f + 1, n => if f * f = n then f else sqF f n
def sqI (n : Int) : Int := (sqF 60 n.toNat : Nat)
def sdx (l : List Pt) (i : Nat) : Int := (nxP l i).1 - (l.getD i default).1
def sdy (l : List Pt) (i : Nat) : Int := (nxP l i).2 - (l.getD i default).2
def sdh (l : List Pt) (i : Nat) : Int := sqI (sdx l i * sdx l i + sdy l i * sdy l i)
def sdN (l : List Pt) (i : Nat) : Dr := nrP (sdx l i) (sdy l i) (sdh l i)
def tnD (d : Dr) : Dr := (-d.1, -d.2.1, d.2.2)
/-- A direction as the shapes' sides have them. -/
def NmD (d : Dr) : Prop := (-100 ≤ d.1 ∧ d.1 ≤ 100) ∧ (-100 ≤ d.2.1 ∧ d.2.1 ≤ 100) ∧ (1 ≤ d.2.2 ∧ d.2.2 ≤ 100)
theorem NmD.sm {d : Dr} (h : NmD d) : SmD d := ⟨⟨by have := h.1; omega, by have := h.1; omega⟩, ⟨by have := h.2.1; omega, by have := h.2.1; omega⟩, ⟨by have := h.2.2; omega, by have := h.2.2; omega⟩⟩
theorem NmD.tn {d : Dr} (h : NmD d) : NmD (tnD d) := by
  obtain ⟨h1, h2, h3⟩ := h
  unfold NmD tnD
  dsimp only
  omega
structure GdS (l : List Pt) : Prop where
  pos : 0 < l.length
  le : l.length ≤ 10
  sm : ∀ p ∈ l, SmP p
  sq : ∀ i, i < l.length → sdh l i * sdh l i = sdx l i * sdx l i + sdy l i * sdy l i ∧ 0 < sdh l i
  nm : ∀ i, i < l.length → NmD (sdN l i)
def chkS (l : List Pt) : Bool := (List.range l.length).all fun i => decide (sdh l i * sdh l i = sdx l i * sdx l i + sdy l i * sdy l i) && decide (0 < sdh l i) &&
  decide (-100 ≤ (sdN l i).1) && decide ((sdN l i).1 ≤ 100) && decide (-100 ≤ (sdN l i).2.1) && decide ((sdN l i).2.1 ≤ 100) && decide (1 ≤ (sdN l i).2.2) && decide ((sdN l i).2.2 ≤ 100)
theorem chk_all : ((List.range 7).all fun c => (List.range 3).all fun k => (List.range 6).all fun m => chkS (spB (c : Int) (1 + (k : Int)) (1 + (m : Int)))) = true := by kernel_rfl
theorem mv_getD (tx ty : Int) {l : List Pt} {i : Nat} (h : i < l.length) : (l.map (mvP tx ty)).getD i default = mvP tx ty (l.getD i default) := by
  rw [List.getD_eq_getElem?_getD, List.getD_eq_getElem?_getD, List.getElem?_map, List.getElem?_eq_getElem h]; rfl
theorem mv_nx (tx ty : Int) {l : List Pt} {i : Nat} (h : i < l.length) : nxP (l.map (mvP tx ty)) i = mvP tx ty (nxP l i) := by
  unfold nxP
  rw [List.length_map]
  split
  · rw [mv_getD _ _ (by omega)]
  · rw [mv_getD _ _ (by omega)]
theorem mv_sdx (tx ty : Int) {l : List Pt} {i : Nat} (h : i < l.length) : sdx (l.map (mvP tx ty)) i = sdx l i := by
  unfold sdx
  rw [mv_nx _ _ h, mv_getD _ _ h]
  unfold mvP
  dsimp only
  omega
theorem mv_sdy (tx ty : Int) {l : List Pt} {i : Nat} (h : i < l.length) : sdy (l.map (mvP tx ty)) i = sdy l i := by
  unfold sdy
  rw [mv_nx _ _ h, mv_getD _ _ h]
  unfold mvP
  dsimp only
  omega
theorem mv_sdh (tx ty : Int) {l : List Pt} {i : Nat} (h : i < l.length) : sdh (l.map (mvP tx ty)) i = sdh l i := by unfold sdh; rw [mv_sdx _ _ h, mv_sdy _ _ h]
theorem mv_sdN (tx ty : Int) {l : List Pt} {i : Nat} (h : i < l.length) : sdN (l.map (mvP tx ty)) i = sdN l i := by unfold sdN; rw [mv_sdx _ _ h, mv_sdy _ _ h, mv_sdh _ _ h]
theorem spB_chk {c k m : Int} (hc : 0 ≤ c ∧ c < 7) (hk : 1 ≤ k ∧ k < 4) (hm : 1 ≤ m ∧ m < 7) : chkS (spB c k m) = true := by
  have h := chk_all
  rw [List.all_eq_true] at h
  have h1 := h c.toNat (List.mem_range.2 (by omega))
  rw [List.all_eq_true] at h1
  have h2 := h1 (k - 1).toNat (List.mem_range.2 (by omega))
  rw [List.all_eq_true] at h2
  have h3 := h2 (m - 1).toNat (List.mem_range.2 (by omega))
  rwa [show ((c.toNat : Nat) : Int) = c by omega, show 1 + (((k - 1).toNat : Nat) : Int) = k by omega, show 1 + (((m - 1).toNat : Nat) : Int) = m by omega] at h3
theorem gd_mv {c k m x y : Int} (hc : 0 ≤ c ∧ c < 7) (hk : 1 ≤ k ∧ k < 4) (hm : 1 ≤ m ∧ m < 7) (hx : -10000000 ≤ x ∧ x ≤ 10000000) (hy : -10000000 ≤ y ∧ y ≤ 10000000) : GdS ((spB c k m).map (mvP x y)) := by
  have hl := spB_len c k m
  have hch := spB_chk hc hk hm
  unfold chkS at hch
  rw [List.all_eq_true] at hch
  have hb := spB_sm (c := c) hk hm
  refine ⟨by rw [List.length_map]; omega, by rw [List.length_map]; omega, ?_, fun i hi => ?_, fun i hi => ?_⟩
  · intro p hp
    obtain ⟨q, hq, rfl⟩ := List.mem_map.1 hp
    have := hb q hq
    unfold mvP
    exact ⟨⟨by dsimp only; omega, by dsimp only; omega⟩, ⟨by dsimp only; omega, by dsimp only; omega⟩⟩
  all_goals
    rw [List.length_map] at hi
    have h1 := hch i (List.mem_range.2 hi)
    simp only [Bool.and_eq_true, decide_eq_true_eq] at h1
    obtain ⟨⟨⟨⟨⟨⟨⟨h1, h2⟩, h3⟩, h4⟩, h5⟩, h6⟩, h7⟩, h8⟩ := h1
  · rw [mv_sdh _ _ hi, mv_sdx _ _ hi, mv_sdy _ _ hi]; exact ⟨h1, h2⟩
  · rw [mv_sdN _ _ hi]; exact ⟨⟨h3, h4⟩, ⟨h5, h6⟩, ⟨h7, h8⟩⟩
theorem gd_sh (l : List Int) : GdS (spP l) := by
  obtain ⟨h1, h2, h3, h4, h5⟩ := sh_b l
  exact gd_mv h1 h2 h3 ⟨by omega, by omega⟩ ⟨by omega, by omega⟩

def drA (a : List Pt) (n : Nat) : List Dr := (List.range n).map (sdN a)
def drB (b : List Pt) (n : Nat) : List Dr := (List.range n).map fun i => tnD (sdN b i)
def drs (a b : List Pt) : List Dr := drA a a.length ++ drB b b.length
def eqDr (a b : Dr) : Bool := (a.1 == b.1) && ((a.2.1 == b.2.1) && (a.2.2 == b.2.2))
def frI (ds : List Dr) (i : Nat) : Nat → Bool
  | 0 => true
  | k + 1 => frI ds i k && !(eqDr (ds.getD k default) (ds.getD i default))
def edP (a b : List Pt) (d : Dr) : Eg := (d, moP d a + moP (tnD d) b)
def sdO (a b : List Pt) (ds : List Dr) : Nat → List Eg
  | 0 => []
  | i + 1 => if frI ds i i then sdO a b ds i ++ [edP a b (ds.getD i default)] else sdO a b ds i
def sdP (a b : List Pt) : List Eg := sdO a b (drs a b) (drs a b).length
theorem eqD3 (a b c a' b' c' : Int) : eqD [.v (.int .i64 a), .v (.int .i64 b), .v (.int .i64 c)] [.v (.int .i64 a'), .v (.int .i64 b'), .v (.int .i64 c')] = some ((a == a') && ((b == b') && (c == c'))) := by simp [eqD]
theorem drA_len (a : List Pt) (n : Nat) : (drA a n).length = n := by simp [drA]
theorem drB_len (a : List Pt) (n : Nat) : (drB a n).length = n := by simp [drB]
theorem drA_succ (a : List Pt) (n : Nat) : drA a (n + 1) = drA a n ++ [sdN a n] := by unfold drA; rw [List.range_succ, List.map_append]; rfl
theorem drB_succ (a : List Pt) (n : Nat) : drB a (n + 1) = drB a n ++ [tnD (sdN a n)] := by unfold drB; rw [List.range_succ, List.map_append]; rfl
theorem drs_len (a b : List Pt) : (drs a b).length = a.length + b.length := by unfold drs; rw [List.length_append, drA_len, drB_len]
theorem drs_nm {a b : List Pt} (ha : GdS a) (hb : GdS b) : ∀ d ∈ drs a b, NmD d := by
  intro d hd
  rcases List.mem_append.1 hd with h | h
  · obtain ⟨i, hi, rfl⟩ := List.mem_map.1 h
    exact ha.nm i (List.mem_range.1 hi)
  · obtain ⟨i, hi, rfl⟩ := List.mem_map.1 h
    exact (hb.nm i (List.mem_range.1 hi)).tn
theorem sdO_len (a b : List Pt) (ds : List Dr) : ∀ i, (sdO a b ds i).length ≤ i
  | 0 => by simp [sdO]
  | i + 1 => by
    have := sdO_len a b ds i
    rw [sdO]
    split
    · rw [List.length_append]; simp; omega
    · omega
theorem mstN_b {d : Dr} {l : List Pt} (hd : NmD d) (hl : ∀ p ∈ l, SmP p) : ∀ i, -20000000000000000 ≤ mstN d l i ∧ mstN d l i ≤ 20000000000000000 := by
  have h : ∀ i, -20000000000000000 ≤ dotI d (l.getD i default) ∧ dotI d (l.getD i default) ≤ 20000000000000000 := by
    intro i
    have hp := getD_all hl smP0 i
    have h1 := sm_mul hd.sm.1 hp.1
    have h2 := sm_mul hd.sm.2.1 hp.2
    unfold dotI
    omega
  intro i
  induction i with
  | zero => exact h 0
  | succ i ih =>
    have := h i
    rw [mstN]
    omega
def sd0_st (da db : D) (L : List Dr) (i : Int) : St := mkS [(0, .d da), (1, .d db), (5, gAE 36 L), (6, ai i)] (gHE cD 3 36 L)
def sd0_en (da db : D) (L : List Dr) : St := mkS [(0, .d da), (1, .d db), (5, gAE 36 L)] (gHE cD 3 36 L)
def sd1_st (da db : D) (L : List Dr) (i : Int) : St := mkS [(0, .d da), (1, .d db), (5, .own [36] L.length), (9, ai i)] [([36], arE cD 3 L.length L)]
def sd1_en (da db : D) (L : List Dr) : St := mkS [(0, .d da), (1, .d db), (5, .own [36] L.length)] [([36], arE cD 3 L.length L)]
def sd2_st (da db : D) (L : List Dr) (O : List Eg) (i : Int) (f : Bool) (k : Int) : St := mkS [(0, .d da), (1, .d db), (5, .own [36] L.length), (12, gAE 104 O), (13, ai i), (14, ab f), (15, ai k)] (([36], arE cD 3 L.length L) :: gHE cG 4 104 O)
def sd2_en (da db : D) (L : List Dr) (O : List Eg) (i : Int) (f : Bool) : St := mkS [(0, .d da), (1, .d db), (5, .own [36] L.length), (12, gAE 104 O), (13, ai i), (14, ab f)] (([36], arE cD 3 L.length L) :: gHE cG 4 104 O)
def sd3_st (da db : D) (L : List Dr) (O : List Eg) (i : Int) : St := mkS [(0, .d da), (1, .d db), (5, .own [36] L.length), (12, gAE 104 O), (13, ai i)] (([36], arE cD 3 L.length L) :: gHE cG 4 104 O)
def sd3_en (O : List Eg) : St := mkS [(12, gAE 104 O)] (gHE cG 4 104 O)
theorem bnd3 {n : Nat} (h : n ≤ 1000) : ((n + 1) * 24 ≤ bound) = True := eq_true (by unfold bound; omega)
theorem bnd4 {n : Nat} (h : n ≤ 1000) : ((n + 1) * 32 ≤ bound) = True := eq_true (by unfold bound; omega)
theorem b24 : (24 ≤ bound) = True := eq_true (by unfold bound; omega)
theorem b24' : (1 * 24 ≤ bound) = True := eq_true (by unfold bound; omega)
theorem b32 : (32 ≤ bound) = True := eq_true (by unfold bound; omega)
theorem b32' : (1 * 32 ≤ bound) = True := eq_true (by unfold bound; omega)

theorem hup58 (x : Obj) : hupdO (hupd hp0 [104] x) [58] none = hupd hp0 [104] x := by
  funext j
  simp only [hupdO, hupd]
  split
  · rename_i h
    subst h
    simp [hp0]
  · rfl

theorem sdP_ne {a b : List Pt} (ha : GdS a) : sdP a b ≠ [] := by
  unfold sdP
  have h1 : 0 < (drs a b).length := by rw [drs_len]; have := ha.pos; omega
  have key : ∀ n, 0 < n → sdO a b (drs a b) n ≠ [] := by
    intro n
    induction n with
    | zero => intro h; omega
    | succ n ih =>
      intro _
      rw [sdO]
      by_cases hn : 0 < n
      · split
        · simp
        · exact ih hn
      · have : n = 0 := by omega
        subst this
        simp [frI]
  exact key _ h1
variable [Its]
theorem sd0_go {da db : D} {a : List Pt} (hr : RwE cP da a) (ha : GdS a) {L : List Dr} (hL : L.length ≤ 1000) {i : Nat} (hi : i < a.length) : X G gantryref12_Sides_l0 (sd0_st da db L i) = some (.n, sd0_st da db (L ++ [sdN a i]) ((i + 1 : Nat) : Int)) := by
  have hle := ha.le
  have ll := hr.len
  have e1 : decide ((i : Int) < (a.length : Int)) = true := lt_t (by omega)
  have e2 : w64 ((i : Int) + 1) = ((i + 1 : Nat) : Int) := by rw [w64_id (by omega) (by omega)]; rfl
  have x1 := hr.ixa cP_len hi
  have x2 := fun hp => ldE cP_len hp hi
  have g1 := Next_spec hr hi (by omega)
  have hp := getD_all ha.sm smP0 i
  have hn : SmP (nxP a i) := by unfold nxP; split <;> exact getD_all ha.sm smP0 _
  have g2 := Norm_spec (h := sdh a i) hp hn (ha.sq i hi).1 (ha.sq i hi).2
  have e3 : nrP ((nxP a i).1 - (a.getD i default).1) ((nxP a i).2 - (a.getD i default).2) (sdh a i) = sdN a i := rfl
  rw [e3] at g2
  simp only [encP, cP, encD, cD, iv, bv] at x2 g1 g2
  generalize (nxP a i).1 = n1 at *
  generalize (nxP a i).2 = n2 at *
  generalize (a.getD i default).1 = p1 at *
  generalize (a.getD i default).2 = p2 at *
  clear e3 hp hn
  generalize sdN a i = v at *
  obtain ⟨u1, u2, u3⟩ := v
  dsimp only at g2
  by_cases h0 : L = []
  · subst h0
    have hq : ([(u1, u2, u3)] : List Dr) ≠ [] := by simp
    simp -implicitDefEqProofs (maxSteps := 10000000) only [gantryref12_Sides_l0, sd0_st, gAE_nil, gHE_nil, gAE_ne hq, gHE_ne hq, arE, flat1D, hupdO_none, List.nil_append, List.cons_append, List.length_nil, List.length_cons, Nat.zero_add, List.map_cons, List.map_nil, rep1_3, oneI, srcS, src, allD, stcells, ldcells, b24, b24', ll, x1, x2, g1, g2, go_sem, iv, bv, e1, e2, reduceCtorEq, ↓reduceIte, Nat.reduceEqDiff]
  · have n3 := lenE cD_len L
    have n4 := bnd3 hL
    simp -implicitDefEqProofs (maxSteps := 10000000) only [gantryref12_Sides_l0, sd0_st, hupdO_none, gAE_ne h0, gHE_ne h0, gAE_snoc, gHE_snoc, arE, cD_snoc, refsL_E, n3, n4, List.nil_append, List.cons_append, List.length_nil, List.length_cons, Nat.zero_add, List.map_cons, List.map_nil, List.all_cons, List.all_nil, rep1_3, oneI, srcS, src, allD, box3s, ldcells, ll, x1, x2, g1, g2, go_sem, iv, bv, e1, e2, reduceCtorEq, ↓reduceIte, Nat.reduceEqDiff]
theorem sd0_stop {da db : D} {a : List Pt} (hr : RwE cP da a) {L : List Dr} : X G gantryref12_Sides_l0 (sd0_st da db L a.length) = some (.x 0, sd0_en da db L) := by
  have ll := hr.len
  have e1 : decide ((a.length : Int) < (a.length : Int)) = false := lt_f (by omega)
  by_cases h0 : L = []
  · subst h0
    simp -implicitDefEqProofs (maxSteps := 10000000) only [gantryref12_Sides_l0, sd0_st, sd0_en, gAE_nil, gHE_nil, hupdO_none, ll, go_sem, iv, bv, e1, reduceCtorEq, ↓reduceIte, Nat.reduceEqDiff]
  · simp -implicitDefEqProofs (maxSteps := 10000000) only [gantryref12_Sides_l0, sd0_st, sd0_en, gAE_ne h0, gHE_ne h0, hupdO_none, arE, refsL_E, ll, go_sem, iv, bv, e1, reduceCtorEq, ↓reduceIte, Nat.reduceEqDiff]
theorem sd0_loop {da db : D} {a : List Pt} (hr : RwE cP da a) (ha : GdS a) : ∀ (j i : Nat), i + j = a.length → X G (.loop gantryref12_Sides_l0) (sd0_st da db (drA a i) i) = some (.x 0, sd0_en da db (drA a a.length))
  | 0, i, h => by
    have : i = a.length := by omega
    subst this
    rw [X_loop, sd0_stop hr]; rfl
  | j + 1, i, h => by
    have ih := sd0_loop (db := db) hr ha j (i + 1) (by omega)
    rw [drA_succ] at ih
    rw [X_loop, sd0_go hr ha (by rw [drA_len]; have := ha.le; omega) (by omega), Option.bind_some, if_pos rfl]
    exact ih
theorem sd1_go {da db : D} {b : List Pt} (hr : RwE cP db b) (hb : GdS b) {L : List Dr} (h0 : L ≠ []) (hL : L.length ≤ 1000) {i : Nat} (hi : i < b.length) : X G gantryref12_Sides_l1 (sd1_st da db L i) = some (.n, sd1_st da db (L ++ [tnD (sdN b i)]) ((i + 1 : Nat) : Int)) := by
  have hle := hb.le
  have ll := hr.len
  have e1 : decide ((i : Int) < (b.length : Int)) = true := lt_t (by omega)
  have e2 : w64 ((i : Int) + 1) = ((i + 1 : Nat) : Int) := by rw [w64_id (by omega) (by omega)]; rfl
  have x1 := hr.ixa cP_len hi
  have x2 := fun hp => ldE cP_len hp hi
  have g1 := Next_spec hr hi (by omega)
  have hp := getD_all hb.sm smP0 i
  have hn : SmP (nxP b i) := by unfold nxP; split <;> exact getD_all hb.sm smP0 _
  have g2 := Norm_spec (h := sdh b i) hp hn (hb.sq i hi).1 (hb.sq i hi).2
  have e3 : nrP ((nxP b i).1 - (b.getD i default).1) ((nxP b i).2 - (b.getD i default).2) (sdh b i) = sdN b i := rfl
  rw [e3] at g2
  have g3 := Turn_spec (hb.nm i hi).sm
  simp only [encP, cP, encD, cD, iv, bv] at x2 g1 g2 g3
  generalize (nxP b i).1 = n1 at *
  generalize (nxP b i).2 = n2 at *
  generalize (b.getD i default).1 = p1 at *
  generalize (b.getD i default).2 = p2 at *
  clear e3 hp hn
  generalize sdN b i = v at *
  obtain ⟨u1, u2, u3⟩ := v
  dsimp only at g2 g3
  unfold tnD
  dsimp only
  generalize -u1 = v1 at *
  generalize -u2 = v2 at *
  have n3 := lenE cD_len L
  have n4 := bnd3 hL
  have n5 : (L ++ [(v1, v2, u3)]).length = L.length + 1 := by simp
  simp -implicitDefEqProofs (maxSteps := 10000000) only [gantryref12_Sides_l1, sd1_st, hupdO_none, arE, n5, cD_snoc, refsL_E, n3, n4, List.nil_append, List.cons_append, List.length_nil, List.length_cons, Nat.zero_add, List.map_cons, List.map_nil, List.all_cons, List.all_nil, rep1_3, oneI, srcS, src, allD, box3s, ldcells, ll, x1, x2, g1, g2, g3, go_sem, iv, bv, e1, e2, reduceCtorEq, ↓reduceIte, Nat.reduceEqDiff]
theorem sd1_stop {da db : D} {b : List Pt} (hr : RwE cP db b) {L : List Dr} : X G gantryref12_Sides_l1 (sd1_st da db L b.length) = some (.x 2, sd1_en da db L) := by
  have ll := hr.len
  have e1 : decide ((b.length : Int) < (b.length : Int)) = false := lt_f (by omega)
  simp -implicitDefEqProofs (maxSteps := 10000000) only [gantryref12_Sides_l1, sd1_st, sd1_en, hupdO_none, arE, refsL_E, ll, go_sem, iv, bv, e1, reduceCtorEq, ↓reduceIte, Nat.reduceEqDiff]
theorem sd1_loop {da db : D} {b : List Pt} {L0 : List Dr} (hr : RwE cP db b) (hb : GdS b) (h0 : L0 ≠ []) (hL : L0.length ≤ 100) : ∀ (j i : Nat), i + j = b.length → X G (.loop gantryref12_Sides_l1) (sd1_st da db (L0 ++ drB b i) i) = some (.x 2, sd1_en da db (L0 ++ drB b b.length))
  | 0, i, h => by
    have : i = b.length := by omega
    subst this
    rw [X_loop, sd1_stop hr]; rfl
  | j + 1, i, h => by
    have ih := sd1_loop (da := da) hr hb h0 hL j (i + 1) (by omega)
    rw [drB_succ, ← List.append_assoc] at ih
    rw [X_loop, sd1_go hr hb (by simp [h0]) (by rw [List.length_append, drB_len]; have := hb.le; omega) (by omega), Option.bind_some, if_pos rfl]
    exact ih
theorem sd2_go {da db : D} {L : List Dr} {O : List Eg} (hL : L.length ≤ 1000) {i k : Nat} {f : Bool} (hi : i < L.length) (hk : k < i) : X G gantryref12_Sides_l2 (sd2_st da db L O i f k) = some (.n, sd2_st da db L O i (f && !(eqDr (L.getD k default) (L.getD i default))) ((k + 1 : Nat) : Int)) := by
  have e1 : decide ((k : Int) < (i : Int)) = true := lt_t (by omega)
  have e2 : w64 ((k : Int) + 1) = ((k + 1 : Nat) : Int) := by rw [w64_id (by omega) (by omega)]; rfl
  have b1 : (0 ≤ (k : Int)) = True := eq_true (by omega)
  have b2 : ((k : Int) < (L.length : Int)) = True := eq_true (by omega)
  have b3 : (0 ≤ (i : Int)) = True := eq_true (by omega)
  have b4 : ((i : Int) < (L.length : Int)) = True := eq_true (by omega)
  have x1 := ldO cD_len (l := L) (j := k) (by omega)
  have x2 := ldO cD_len (l := L) (j := i) hi
  unfold eqDr
  generalize L.getD k default = p at *
  generalize L.getD i default = q at *
  obtain ⟨p1, p2, p3⟩ := p
  obtain ⟨q1, q2, q3⟩ := q
  simp only [cD, iv] at x1 x2
  have e3 := eqD3 p1 p2 p3 q1 q2 q3
  dsimp only
  obtain ⟨t, ht⟩ : ∃ t, ((p1 == q1) && ((p2 == q2) && (p3 == q3))) = t := ⟨_, rfl⟩
  rw [ht] at e3 ⊢
  by_cases h0 : O = []
  · subst h0
    cases f <;> cases t <;> simp -implicitDefEqProofs (maxSteps := 10000000) only [gantryref12_Sides_l2, sd2_st, gAE_nil, gHE_nil, hupdO_none, hup58, arE, refsL_E, Int.toNat_natCast, x1, x2, e3, ht, b1, b2, b3, b4, Bool.not_true, Bool.not_false, Bool.and_false, Bool.and_true, go_sem, iv, bv, e1, e2, reduceCtorEq, ↓reduceIte, Nat.reduceEqDiff]
  · cases f <;> cases t <;> simp -implicitDefEqProofs (maxSteps := 10000000) only [gantryref12_Sides_l2, sd2_st, gAE_ne h0, gHE_ne h0, hupdO_none, hup58, arE, refsL_E, Int.toNat_natCast, x1, x2, e3, ht, b1, b2, b3, b4, Bool.not_true, Bool.not_false, Bool.and_false, Bool.and_true, go_sem, iv, bv, e1, e2, reduceCtorEq, ↓reduceIte, Nat.reduceEqDiff]
theorem sd2_stop {da db : D} {L : List Dr} {O : List Eg} {i : Nat} {f : Bool} : X G gantryref12_Sides_l2 (sd2_st da db L O i f i) = some (.x 6, sd2_en da db L O i f) := by
  have e1 : decide ((i : Int) < (i : Int)) = false := lt_f (by omega)
  by_cases h0 : O = []
  · subst h0
    simp -implicitDefEqProofs (maxSteps := 10000000) only [gantryref12_Sides_l2, sd2_st, sd2_en, gAE_nil, gHE_nil, hupdO_none, hup58, arE, refsL_E, go_sem, iv, bv, e1, reduceCtorEq, ↓reduceIte, Nat.reduceEqDiff]
  · simp -implicitDefEqProofs (maxSteps := 10000000) only [gantryref12_Sides_l2, sd2_st, sd2_en, gAE_ne h0, gHE_ne h0, hupdO_none, hup58, arE, refsL_E, go_sem, iv, bv, e1, reduceCtorEq, ↓reduceIte, Nat.reduceEqDiff]
theorem sd2_loop {da db : D} {L : List Dr} {O : List Eg} (hL : L.length ≤ 1000) {i : Nat} (hi : i < L.length) : ∀ (j k : Nat), k + j = i → X G (.loop gantryref12_Sides_l2) (sd2_st da db L O i (frI L i k) k) = some (.x 6, sd2_en da db L O i (frI L i i))
  | 0, k, h => by
    have : k = i := by omega
    subst this
    rw [X_loop, sd2_stop]; rfl
  | j + 1, k, h => by
    rw [X_loop, sd2_go hL hi (by omega), Option.bind_some, if_pos rfl]
    exact sd2_loop hL hi j (k + 1) (by omega)
theorem sd3_go {da db : D} {a b : List Pt} (hra : RwE cP da a) (hrb : RwE cP db b) (ha : GdS a) (hb : GdS b) {L : List Dr} (hLn : ∀ d ∈ L, NmD d) {O : List Eg} (hL : L.length ≤ 1000) (hO : O.length ≤ 1000) {i : Nat} (hi : i < L.length) :
    X G gantryref12_Sides_l3 (sd3_st da db L O i) = some (.n, sd3_st da db L (if frI L i i then O ++ [edP a b (L.getD i default)] else O) ((i + 1 : Nat) : Int)) := by
  have e1 : decide ((i : Int) < (L.length : Int)) = true := lt_t (by omega)
  have e2 : w64 ((i : Int) + 1) = ((i + 1 : Nat) : Int) := by rw [w64_id (by omega) (by omega)]; rfl
  have b3 : (0 ≤ (i : Int)) = True := eq_true (by omega)
  have b4 : ((i : Int) < (L.length : Int)) = True := eq_true (by omega)
  have gl := sd2_loop (da := da) (db := db) (O := O) hL hi i 0 (by omega)
  have ef : frI L i 0 = true := rfl
  rw [ef] at gl
  generalize frI L i i = f at *
  have x2 := ldO cD_len (l := L) (j := i) hi
  have hd : NmD (L.getD i default) := by rw [List.getD_eq_getElem?_getD, List.getElem?_eq_getElem hi]; exact hLn _ (List.getElem_mem hi)
  have g1 := Most_spec hra ha.pos ha.sm hd.sm (by have := ha.le; omega)
  have g2 := Turn_spec hd.sm
  have g3 := Most_spec hrb hb.pos hb.sm hd.tn.sm (by have := hb.le; omega)
  have m1 : -20000000000000000 ≤ moP (L.getD i default) a ∧ moP (L.getD i default) a ≤ 20000000000000000 := mstN_b hd ha.sm _
  have m2 : -20000000000000000 ≤ moP (tnD (L.getD i default)) b ∧ moP (tnD (L.getD i default)) b ≤ 20000000000000000 := mstN_b hd.tn hb.sm _
  unfold edP
  obtain ⟨z, hz⟩ : ∃ z, moP (L.getD i default) a + moP (tnD (L.getD i default)) b = z := ⟨_, rfl⟩
  have e3 : w64 (moP (L.getD i default) a + moP (tnD (L.getD i default)) b) = z := by rw [w64_id (by omega) (by omega), hz]
  rw [hz]
  clear hz
  generalize moP (L.getD i default) a = z1 at *
  generalize moP (tnD (L.getD i default)) b = z2 at *
  clear hd hLn
  generalize L.getD i default = p at *
  obtain ⟨p1, p2, p3⟩ := p
  simp only [encD, cD, tnD, iv] at x2 g1 g2 g3
  generalize -p1 = v1 at *
  generalize -p2 = v2 at *
  simp only [sd2_st, sd2_en, nc0] at gl
  cases f with
  | false =>
    rw [if_neg (by simp)]
    by_cases h0 : O = []
    · subst h0
      simp only [gAE_nil, gHE_nil, arE, go_sem] at gl
      simp -implicitDefEqProofs (maxSteps := 10000000) only [gantryref12_Sides_l3, sd3_st, gl, gAE_nil, gHE_nil, hupdO_none, hup58, arE, refsL_E, go_sem, iv, bv, e1, e2, reduceCtorEq, ↓reduceIte, Nat.reduceEqDiff]
    · simp only [gAE_ne h0, gHE_ne h0, arE, go_sem] at gl
      simp -implicitDefEqProofs (maxSteps := 10000000) only [gantryref12_Sides_l3, sd3_st, gl, gAE_ne h0, gHE_ne h0, hupdO_none, hup58, arE, refsL_E, go_sem, iv, bv, e1, e2, reduceCtorEq, ↓reduceIte, Nat.reduceEqDiff]
  | true =>
    rw [if_pos rfl]
    by_cases h0 : O = []
    · subst h0
      have hq : ([((p1, p2, p3), z)] : List Eg) ≠ [] := by simp
      simp only [gAE_nil, gHE_nil, arE, go_sem] at gl
      simp -implicitDefEqProofs (maxSteps := 10000000) only [gantryref12_Sides_l3, sd3_st, gl, gAE_nil, gHE_nil, gAE_ne hq, gHE_ne hq, flat1G, hupdO_none, hup58, arE, refsL_E, Int.toNat_natCast, b3, b4, x2, g1, g2, g3, e3, b32, b32', rep1_4, oneI, srcS, src, allD, List.nil_append, List.cons_append, List.append_nil, List.length_nil, List.length_cons, Nat.zero_add, List.map_cons, List.map_nil, List.all_cons, List.all_nil, fillB, partsB, go_sem, iv, bv, e1, e2, reduceCtorEq, ↓reduceIte, Nat.reduceEqDiff]
    · have n3 := lenE cG_len O
      have n4 := bnd4 hO
      simp only [gAE_ne h0, gHE_ne h0, arE, go_sem] at gl
      simp -implicitDefEqProofs (maxSteps := 10000000) only [gantryref12_Sides_l3, sd3_st, gl, gAE_ne h0, gHE_ne h0, gAE_snoc, gHE_snoc, cG_snoc, hupdO_none, hup58, arE, refsL_E, n3, n4, Int.toNat_natCast, b3, b4, x2, g1, g2, g3, e3, rep1_4, oneI, srcS, src, allD, List.nil_append, List.cons_append, List.append_nil, List.length_nil, List.length_cons, Nat.zero_add, List.map_cons, List.map_nil, List.all_cons, List.all_nil, fillB, partsB, go_sem, iv, bv, e1, e2, reduceCtorEq, ↓reduceIte, Nat.reduceEqDiff]
theorem sd3_stop {da db : D} {L : List Dr} {O : List Eg} : X G gantryref12_Sides_l3 (sd3_st da db L O L.length) = some (.x 4, sd3_en O) := by
  have e1 : decide ((L.length : Int) < (L.length : Int)) = false := lt_f (by omega)
  by_cases h0 : O = []
  · subst h0
    simp -implicitDefEqProofs (maxSteps := 10000000) only [gantryref12_Sides_l3, sd3_st, sd3_en, gAE_nil, gHE_nil, hupdO_none, hup58, arE, refsL_E, go_sem, iv, bv, e1, reduceCtorEq, ↓reduceIte, Nat.reduceEqDiff]
  · simp -implicitDefEqProofs (maxSteps := 10000000) only [gantryref12_Sides_l3, sd3_st, sd3_en, gAE_ne h0, gHE_ne h0, hupdO_none, hup58, arE, refsL_E, go_sem, iv, bv, e1, reduceCtorEq, ↓reduceIte, Nat.reduceEqDiff]
theorem sd3_loop {da db : D} {a b : List Pt} (hra : RwE cP da a) (hrb : RwE cP db b) (ha : GdS a) (hb : GdS b) {L : List Dr} (hLn : ∀ d ∈ L, NmD d) (hL : L.length ≤ 1000) : ∀ (j i : Nat), i + j = L.length → X G (.loop gantryref12_Sides_l3) (sd3_st da db L (sdO a b L i) i) = some (.x 4, sd3_en (sdO a b L L.length))
  | 0, i, h => by
    have : i = L.length := by omega
    subst this
    rw [X_loop, sd3_stop]; rfl
  | j + 1, i, h => by
    rw [X_loop, sd3_go hra hrb ha hb hLn hL (by have := sdO_len a b L i; omega) (by omega), Option.bind_some, if_pos rfl]
    exact sd3_loop hra hrb ha hb hLn hL j (i + 1) (by omega)
theorem Sides_spec {da db : D} {a b : List Pt} (hra : RwE cP da a) (hrb : RwE cP db b) (ha : GdS a) (hb : GdS b) : callX G n_gantryref12_Sides [da, db] = some (.own 4 (sdP a b).length ((sdP a b).flatMap cG)) := by
  rw [callX_eq (cf := gantryref12_Sides) rfl]
  have hna : drA a a.length ≠ [] := fun h => by
    have h1 := drA_len a a.length
    rw [h] at h1
    have := ha.pos
    simp at h1
    omega
  have g0 := sd0_loop (db := db) hra ha a.length 0 (by omega)
  have g1 := sd1_loop (da := da) (L0 := drA a a.length) hrb hb hna (by rw [drA_len]; have := ha.le; omega) b.length 0 (by omega)
  have g2 := sd3_loop hra hrb ha hb (drs_nm ha hb) (by rw [drs_len]; have := ha.le; have := hb.le; omega) (drs a b).length 0 (by omega)
  have hne := sdP_ne (b := b) ha
  have e0 : drA a 0 = [] := rfl
  have e1 : drA a a.length ++ drB b 0 = drA a a.length := List.append_nil _
  have e2 : drA a a.length ++ drB b b.length = drs a b := rfl
  have e3 : sdO a b (drs a b) 0 = [] := rfl
  have e4 : sdO a b (drs a b) (drs a b).length = sdP a b := rfl
  rw [e0] at g0
  rw [e1, e2] at g1
  rw [e3, e4] at g2
  generalize drs a b = L at *
  generalize drA a a.length = L0 at *
  generalize sdP a b = O at *
  simp only [sd0_st, sd0_en, gAE_nil, gHE_nil, gAE_ne hna, gHE_ne hna, arE, hupdO_none, go_sem, nc0, iv] at g0
  simp only [sd1_st, sd1_en, arE, hupdO_none, go_sem, nc0, iv] at g1
  simp only [sd3_st, sd3_en, gAE_nil, gHE_nil, gAE_ne hne, gHE_ne hne, arE, hupdO_none, go_sem, nc0, iv] at g2
  simp -implicitDefEqProofs (maxSteps := 10000000) only [gantryref12_Sides, g0, g1, g2, refsL_E, allD_E, hupdO_none, hup58, go_sem, iv, bv, reduceCtorEq, ↓reduceIte, Nat.reduceEqDiff]
end Go.AM

/- law13.lives: the parts, by the kernel. -/
namespace Go.AM
open Go Go.RowKit
def zI (n : Int) : List D := [.v (.bool (decide (n < 0))), if n = 0 then .z true else .row 1 [iv n.natAbs], .v (.bool false), .z true]
def vI (x y : Int) : D := .agg (zI x ++ zI y)
def edc : List D := [iv 0, iv (-1), iv 1, iv 2, iv 1, iv 0, iv 1, iv 2, iv 0, iv 1, iv 1, iv 2, iv (-1), iv 0, iv 1, iv 2]
def eds : D := .row 4 edc
def sqD : D := .row 4 [iv 0, iv 0, iv 2, iv 0, iv 2, iv 2, iv 0, iv 2]
def sqL : List Pt := [(0, 0), (2, 0), (2, 2), (0, 2)]
theorem sq_gd : GdS sqL := by
  have h : chkS sqL = true := by kernel_rfl
  unfold chkS at h
  rw [List.all_eq_true] at h
  refine ⟨by decide, by decide, ?_, fun i hi => ?_, fun i hi => ?_⟩
  · intro p hp
    unfold sqL at hp
    simp only [List.mem_cons, List.not_mem_nil, or_false] at hp
    rcases hp with rfl | rfl | rfl | rfl <;> exact ⟨⟨by decide, by decide⟩, ⟨by decide, by decide⟩⟩
  all_goals
    have h1 := h i (List.mem_range.2 hi)
    simp only [Bool.and_eq_true, decide_eq_true_eq] at h1
    obtain ⟨⟨⟨⟨⟨⟨⟨h1, h2⟩, h3⟩, h4⟩, h5⟩, h6⟩, h7⟩, h8⟩ := h1
  · exact ⟨h1, h2⟩
  · exact ⟨⟨h3, h4⟩, ⟨h5, h6⟩, ⟨h7, h8⟩⟩
theorem k0 : callX G n_gantryref12_Sides [sqD, sqD] = some (.own 4 4 edc) := by
  have h := Sides_spec (da := sqD) (db := sqD) (a := sqL) (b := sqL) (.inr rfl) (.inr rfl) sq_gd sq_gd
  rw [h]
  have e : sdP sqL sqL = [((0, -1, 1), 2), ((1, 0, 1), 2), ((0, 1, 1), 2), ((-1, 0, 1), 2)] := by kernel_rfl
  rw [e]
  rfl
theorem k1 : callX G n_gap_Gap [.agg [iv 0, iv 1, iv 1, iv 2], vI 1 5] = some (.d (.agg (zI 3))) := callX_some.2 ⟨80, by kernel_rfl⟩
theorem k2 : callX G n_gantryref05_Same [.agg (zI 3), .agg (zI 3)] = some (.d (bv true)) := callX_some.2 ⟨80, by kernel_rfl⟩
theorem k3 : callX G n_gap_Meet [eds, vI 1 1] = some (.d (bv true)) := callX_some.2 ⟨60, by kernel_rfl⟩
theorem k4 : callX G n_gap_Meet [eds, vI 2 0] = some (.d (bv false)) := callX_some.2 ⟨60, by kernel_rfl⟩
theorem k5 : callX G n_gap_Best [eds, vI 0 3, vI 5 1] = some (.d (iv 2)) := callX_some.2 ⟨60, by kernel_rfl⟩
theorem kv (x y : Int) (h : (x, y) ∈ [(1, 5), (1, 1), (2, 0), (0, 0), (0, 3), (0, -2), (5, -2), (5, 1), (1, 2), (1, 0), (1, -1), (0, 1), (2, 2), (-1, -2), (0, -1)]) : callX G n_gantrylaw13_vec [iv x, iv y] = some (.d (vI x y)) := by
  simp only [List.mem_cons, List.not_mem_nil, or_false, Prod.mk.injEq] at h
  rcases h with ⟨rfl, rfl⟩ | ⟨rfl, rfl⟩ | ⟨rfl, rfl⟩ | ⟨rfl, rfl⟩ | ⟨rfl, rfl⟩ | ⟨rfl, rfl⟩ | ⟨rfl, rfl⟩ | ⟨rfl, rfl⟩ | ⟨rfl, rfl⟩ | ⟨rfl, rfl⟩ | ⟨rfl, rfl⟩ | ⟨rfl, rfl⟩ | ⟨rfl, rfl⟩ | ⟨rfl, rfl⟩ | ⟨rfl, rfl⟩ <;> exact callX_some.2 ⟨60, by kernel_rfl⟩
theorem kOf : callX G n_gantryref05_Of [iv 3, iv 1] = some (.d (.agg (zI 3))) := callX_some.2 ⟨60, by kernel_rfl⟩
end Go.AM

/- law13.lives: Free and Contact, by the kernel. -/
namespace Go.AM
open Go Go.RowKit
theorem f1 : callX G n_gap_Free [eds, vI 0 3, vI 0 (-2), vI 0 0] = some (.d (iv (-1))) := callX_some.2 ⟨80, by kernel_rfl⟩
theorem f2 : callX G n_gap_Free [eds, vI 0 3, vI 5 (-2), vI 0 0] = some (.d (iv (-1))) := callX_some.2 ⟨80, by kernel_rfl⟩
theorem f3 : callX G n_gap_Free [eds, vI 0 3, vI 0 (-1), vI 0 0] = some (.d (iv 2)) := callX_some.2 ⟨80, by kernel_rfl⟩
theorem c1 : callX G n_gap_Contact [eds, vI 1 2, vI 1 0] = some (.d (iv 2)) := callX_some.2 ⟨80, by kernel_rfl⟩
theorem c2 : callX G n_gap_Contact [eds, vI 1 2, vI 1 (-1)] = some (.d (iv 2)) := callX_some.2 ⟨80, by kernel_rfl⟩
theorem c3 : callX G n_gap_Contact [eds, vI 1 2, vI 0 1] = some (.d (iv (-1))) := callX_some.2 ⟨80, by kernel_rfl⟩
theorem c4 : callX G n_gap_Contact [eds, vI 2 2, vI (-1) (-2)] = some (.d (iv 1)) := callX_some.2 ⟨80, by kernel_rfl⟩
end Go.AM

/- Polynomials as lists: values, and that values tell them apart. -/
namespace Go.AM
open Go Go.RowKit

def sumR (f : Nat → Rat) : Nat → Rat
  | 0 => 0
  | n + 1 => sumR f n + f n
theorem sumR_congr {f g : Nat → Rat} : ∀ n, (∀ k, k < n → f k = g k) → sumR f n = sumR g n
  | 0, _ => rfl
  | n + 1, h => by rw [sumR, sumR, sumR_congr n (fun k hk => h k (by omega)), h n (by omega)]
theorem sumR_more {f : Nat → Rat} {n : Nat} : ∀ d, (∀ k, n ≤ k → k < n + d → f k = 0) → sumR f (n + d) = sumR f n
  | 0, _ => rfl
  | d + 1, h => by
    show sumR f (n + d) + f (n + d) = _
    rw [sumR_more d (fun k h1 h2 => h k h1 (by omega)), h (n + d) (by omega) (by omega), Rat.add_zero]
theorem sumR_ge {f : Nat → Rat} {n m : Nat} (hm : n ≤ m) (h : ∀ k, n ≤ k → f k = 0) : sumR f m = sumR f n := by
  obtain ⟨d, rfl⟩ : ∃ d, m = n + d := ⟨m - n, by omega⟩
  exact sumR_more d (fun k h1 _ => h k h1)

theorem getD_out {l : List Rat} {k : Nat} (h : l.length ≤ k) : l.getD k 0 = 0 := by
  rw [List.getD_eq_getElem?_getD, List.getElem?_eq_none h]; rfl
theorem getD_trim (l : List Rat) (k : Nat) : (trimR l).getD k 0 = l.getD k 0 := by
  have hc : ∀ n, n ≤ l.length → ∀ k, cutR l n ≤ k → k < n → l.getD k 0 = 0 := by
    intro n
    induction n with
    | zero => intro _ k _ h; omega
    | succ n ih =>
      intro hn k h1 h2
      rw [cutR] at h1
      split at h1
      · rename_i h0
        by_cases hk : k = n
        · rw [hk]; exact h0
        · exact ih (by omega) k h1 (by omega)
      · omega
  have hl := cutR_le l l.length
  by_cases h1 : k < cutR l l.length
  · rw [trimR, List.getD_eq_getElem?_getD, List.getElem?_take_of_lt h1, ← List.getD_eq_getElem?_getD]
  · rw [getD_out (by rw [trimR_len]; omega)]
    by_cases h2 : k < l.length
    · exact (hc l.length (Nat.le_refl _) k (by omega) h2).symm
    · exact (getD_out (by omega)).symm
/-- Without a zero at the end. -/
def Trm (l : List Rat) : Prop := ∀ n, l.length = n + 1 → l.getD n 0 ≠ 0
theorem evR_snoc (a x : Rat) : ∀ l : List Rat, evR (l ++ [a]) x = evR l x + a * x ^ l.length
  | [] => by
    show evR [] x * x + a = evR [] x + a * x ^ 0
    rw [Rat.pow_zero]
    have : evR [] x = 0 := rfl
    rw [this]; grind
  | b :: l => by
    show evR (l ++ [a]) x * x + b = evR l x * x + b + a * x ^ (l.length + 1)
    rw [evR_snoc a x l, Rat.pow_succ]
    generalize evR l x = v; generalize x ^ l.length = p; grind
theorem evR_sum0 (x : Rat) (l : List Rat) : evR l x = sumR (fun k => l.getD k 0 * x ^ k) l.length := by
  have h : ∀ n, n ≤ l.length → evR (l.take n) x = sumR (fun k => l.getD k 0 * x ^ k) n := by
    intro n
    induction n with
    | zero => intro _; rfl
    | succ n ih =>
      intro hn
      have e : l.take (n + 1) = l.take n ++ [l.getD n 0] := by
        rw [List.take_add_one]
        simp [List.getD, (by omega : n < l.length)]
      rw [e, evR_snoc, ih (by omega), sumR, List.length_take, Nat.min_eq_left (by omega)]
  have := h l.length (Nat.le_refl _)
  rwa [List.take_length] at this
theorem evR_sum (x : Rat) {l : List Rat} {n : Nat} (h : l.length ≤ n) : evR l x = sumR (fun k => l.getD k 0 * x ^ k) n := by
  rw [evR_sum0]
  exact (sumR_ge h (fun k hk => by rw [getD_out hk, Rat.zero_mul])).symm
theorem evR_trim (l : List Rat) (x : Rat) : evR (trimR l) x = evR l x := by
  rw [evR_sum x (trimR_le l), evR_sum0 x l]
  exact sumR_congr _ fun k _ => by rw [getD_trim]
theorem evR_nil (x : Rat) : evR [] x = 0 := rfl

/-! ### Dividing by x - r -/
def syn : List Rat → Rat → List Rat
  | [], _ => []
  | [_], _ => []
  | _ :: b :: l, r => evR (b :: l) r :: syn (b :: l) r
theorem syn_len : ∀ (l : List Rat) (r : Rat), (syn l r).length = l.length - 1
  | [], _ => rfl
  | [_], _ => rfl
  | a :: b :: l, r => by rw [syn, List.length_cons, syn_len (b :: l) r]; simp
def difR (l m : List Rat) : List Rat := (List.range (max l.length m.length)).map fun k => l.getD k 0 - m.getD k 0
/-! ### Products -/
def conv (l m : List Rat) (k : Nat) : Rat := sumR (fun i => l.getD i 0 * m.getD (k - i) 0) (k + 1)
def muP (l m : List Rat) : List Rat := trimR ((List.range (l.length + m.length - 1)).map (conv l m))
end Go.AM

/- Arrays of rationals; poly.at, made, Add, Scale, Derive. -/
namespace Go.AM
open Go Go.RowKit

theorem SzL.trim {K : Nat} {l : List Rat} (h : SzL K l) : SzL K (trimR l) := fun q hq => h q (List.mem_of_mem_take hq)
theorem SzL.map {K : Nat} {n : Nat} {e : Nat → Rat} (h : ∀ k, k < n → sz (e k) ≤ K) : SzL K ((List.range n).map e) := by
  intro q hq
  obtain ⟨k, hk, rfl⟩ := List.mem_map.1 hq
  exact h k (List.mem_range.1 hk)
def adP (l m : List Rat) : List Rat := trimR ((List.range (max l.length m.length)).map fun k => l.getD k 0 + m.getD k 0)
def sbP (l m : List Rat) : List Rat := trimR ((List.range (max l.length m.length)).map fun k => l.getD k 0 - m.getD k 0)
def scP (l : List Rat) (a : Rat) : List Rat := trimR ((List.range l.length).map fun k => l.getD k 0 * a)
def deP (l : List Rat) : List Rat := trimR ((List.range (l.length - 1)).map fun k => l.getD (k + 1) 0 * ((k + 1 : Nat) : Int))
variable [Its]

def md_st (f : Nat) (caps : List D) (l : List Rat) (n i : Int) : St := mkS [(1, .d (.fn f caps)), (5, gA4 17 l), (8, ai n), (9, ai i)] (gH4 17 l)
def md_en (l : List Rat) : St := mkS [(5, gA4 17 l)] (gH4 17 l)
end Go.AM

/- Polynomials: the values of sums, products with numbers, derivatives, shifts. -/
namespace Go.AM
open Go Go.RowKit

/-! ### The derivative -/
def der : List Rat → Rat → Rat
  | [], _ => 0
  | _ :: l, x => evR l x + x * der l x
/-! ### Shifts -/
def tay : Nat → List Rat → Rat → List Rat
  | 0, _, _ => []
  | n + 1, l, a => evR l a :: tay n (syn l a) a
def shP (l : List Rat) (a : Rat) : List Rat := trimR (tay l.length l a)
end Go.AM

/- poly.Mul. -/
namespace Go.AM
open Go Go.RowKit

theorem RwR.cell {d : D} {l : List Rat} (h : RwR d l) : cellsOf (.d d) = [.d d] := by rcases h with ⟨rfl, _⟩ | rfl <;> rfl
section
variable (p q : List Rat) (k : Nat)
def mu_f (i : Nat) : Rat := p.getD i 0 * q.getD (k - i) 0
def mu_lo : Nat := k + 1 - q.length
def mu_hi : Nat := max (mu_lo q k) (min (k + 1) p.length)
end
def m1_st (dp dq : D) (k i : Int) (s : Rat) : St := mkS [(0, ai k), (1, .d (.rp [dq])), (2, .d (.rp [dp])), (4, .ptr [4] 0), (5, .ptr [5] 0), (6, ai i)] [([4], boxR0), ([5], boxR s)]
def m1_en (s : Rat) : St := mkS [(4, .ptr [4] 0), (5, .ptr [5] 0)] [([4], boxR0), ([5], boxR s)]
variable [Its]

section
variable {dp dq : D} {p q : List Rat} {k : Nat} {K : Nat}
end
end Go.AM

/- How great the coefficients are: a common denominator and a bound of the numerators. -/
namespace Go.AM
open Go Go.RowKit

def BB : Nat := 1000000000
theorem BB_pos (n : Nat) : 0 < BB ^ n := Nat.pow_pos (by decide)
theorem BB_mono {n m : Nat} (h : n ≤ m) : BB ^ n ≤ BB ^ m := Nat.pow_le_pow_right (by decide) h
def cN (n : Nat) : Rat := ((n : Int) : Rat)
theorem cN_mul (n m : Nat) : cN (n * m) = cN n * cN m := by unfold cN; rw [Int.natCast_mul, Rat.intCast_mul]
theorem cN_ne {n : Nat} (h : 0 < n) : cN n ≠ 0 := by
  unfold cN
  intro h0
  have h1 : ((n : Int) : Rat) = ((0 : Int) : Rat) := h0
  rw [Rat.intCast_inj] at h1
  omega
/-- D times it is an integer of at most X. -/
def Hq (D X : Nat) (q : Rat) : Prop := ∃ m : Int, q * cN D = (m : Rat) ∧ m.natAbs ≤ X
theorem Hq.zero (D X : Nat) : Hq D X 0 := ⟨0, by rw [Rat.zero_mul]; rfl, by simp⟩
theorem Hq.le {D X Y : Nat} {q : Rat} (h : Hq D X q) (hX : X ≤ Y) : Hq D Y q := by
  obtain ⟨m, h1, h2⟩ := h
  exact ⟨m, h1, by omega⟩
theorem Hq.add {D X Y : Nat} {q p : Rat} (h : Hq D X q) (h' : Hq D Y p) : Hq D (X + Y) (q + p) := by
  obtain ⟨m, h1, h2⟩ := h
  obtain ⟨n, h3, h4⟩ := h'
  exact ⟨m + n, by rw [Rat.add_mul, h1, h3, Rat.intCast_add], by omega⟩
theorem Hq.neg {D X : Nat} {q : Rat} (h : Hq D X q) : Hq D X (-q) := by
  obtain ⟨m, h1, h2⟩ := h
  exact ⟨-m, by rw [Rat.neg_mul, h1, Rat.intCast_neg], by omega⟩
theorem Hq.sub {D X Y : Nat} {q p : Rat} (h : Hq D X q) (h' : Hq D Y p) : Hq D (X + Y) (q - p) := by
  rw [Rat.sub_eq_add_neg]; exact h.add h'.neg
theorem Hq.mul {D E X Y : Nat} {q p : Rat} (h : Hq D X q) (h' : Hq E Y p) : Hq (D * E) (X * Y) (q * p) := by
  obtain ⟨m, h1, h2⟩ := h
  obtain ⟨n, h3, h4⟩ := h'
  refine ⟨m * n, ?_, by rw [Int.natAbs_mul]; exact Nat.mul_le_mul h2 h4⟩
  rw [cN_mul, Rat.intCast_mul, ← h1, ← h3]
  generalize cN D = u; generalize cN E = v; grind
theorem Hq.lift {D X : Nat} {q : Rat} (h : Hq D X q) (E : Nat) : Hq (D * E) (X * E) q := by
  obtain ⟨m, h1, h2⟩ := h
  refine ⟨m * E, ?_, by rw [Int.natAbs_mul]; exact Nat.mul_le_mul h2 (by omega)⟩
  rw [cN_mul, Rat.intCast_mul, ← h1, Rat.mul_assoc]; rfl
theorem Hq.lift' {D X : Nat} {q : Rat} (h : Hq D X q) (E : Nat) : Hq (E * D) (E * X) q := by
  rw [Nat.mul_comm E, Nat.mul_comm E]; exact h.lift E
theorem Hq.int (n : Int) : Hq 1 n.natAbs (n : Rat) := ⟨n, Rat.mul_one _, Nat.le_refl _⟩
theorem Hq.sz {D X d h : Nat} {q : Rat} (hD : 0 < D) (hDd : D ≤ BB ^ d) (hX : X ≤ BB ^ h) (H : Hq D X q) : sz q ≤ max d h + 1 := by
  obtain ⟨m, h1, h2⟩ := H
  have e : q = Rat.divInt m (D : Int) := by
    rw [Rat.divInt_eq_div, Rat.div_def, ← h1, Rat.mul_assoc]
    show q = q * (cN D * (cN D)⁻¹)
    rw [Rat.mul_inv_cancel _ (cN_ne hD), Rat.mul_one]
  rw [e]
  have hb : ∀ n, BB ^ n < 1000000000 ^ (n + 1) := fun n => by
    rw [Nat.pow_succ]
    have := BB_pos n
    show BB ^ n < BB ^ n * 1000000000
    omega
  refine sz_divInt (by omega) (Nat.le_trans (nd_le (k := h + 1) ?_) (by omega)) (Nat.le_trans (nd_le (k := d + 1) ?_) (by omega))
  · exact Nat.lt_of_le_of_lt (Nat.le_trans h2 hX) (hb h)
  · exact Nat.lt_of_le_of_lt (by rw [Int.natAbs_natCast]; exact hDd) (hb d)

/-- A common denominator of at most d digits, numerators of at most h. -/
def HL (d h : Nat) (l : List Rat) : Prop := ∃ D : Nat, 0 < D ∧ D ≤ BB ^ d ∧ ∀ q ∈ l, Hq D (BB ^ h) q
def H1 (d h : Nat) (q : Rat) : Prop := ∃ D : Nat, 0 < D ∧ D ≤ BB ^ d ∧ Hq D (BB ^ h) q
theorem HL.sz {d h : Nat} {l : List Rat} (H : HL d h l) : SzL (max d h + 1) l := by
  obtain ⟨D, h1, h2, h3⟩ := H
  exact fun q hq => (h3 q hq).sz h1 h2 (Nat.le_refl _)
theorem H1.sz {d h : Nat} {q : Rat} (H : H1 d h q) : sz q ≤ max d h + 1 := by
  obtain ⟨D, h1, h2, h3⟩ := H
  exact h3.sz h1 h2 (Nat.le_refl _)
theorem HL.mono {d h d' h' : Nat} {l : List Rat} (H : HL d h l) (hd : d ≤ d') (hh : h ≤ h') : HL d' h' l := by
  obtain ⟨D, h1, h2, h3⟩ := H
  exact ⟨D, h1, Nat.le_trans h2 (BB_mono hd), fun q hq => (h3 q hq).le (BB_mono hh)⟩
theorem HL.nil (d h : Nat) : HL d h [] := ⟨1, by omega, BB_pos d, fun q hq => by simp at hq⟩
theorem HL.trim {d h : Nat} {l : List Rat} (H : HL d h l) : HL d h (trimR l) := by
  obtain ⟨D, h1, h2, h3⟩ := H
  exact ⟨D, h1, h2, fun q hq => h3 q (List.mem_of_mem_take hq)⟩
theorem HL.one {d h : Nat} {q : Rat} (H : H1 d h q) : HL d h [q] := by
  obtain ⟨D, h1, h2, h3⟩ := H
  exact ⟨D, h1, h2, fun p hp => by rw [List.mem_singleton.1 hp]; exact h3⟩
theorem Hq.getD {D X : Nat} {l : List Rat} (H : ∀ q ∈ l, Hq D X q) (k : Nat) : Hq D X (l.getD k 0) := by
  by_cases hk : k < l.length
  · have : l.getD k 0 = l[k] := by rw [List.getD_eq_getElem?_getD, List.getElem?_eq_getElem hk]; rfl
    rw [this]; exact H _ (List.getElem_mem hk)
  · rw [getD_out (by omega)]; exact Hq.zero D X
theorem HL.getD {d h : Nat} {l : List Rat} (H : HL d h l) (k : Nat) : H1 d h (l.getD k 0) := by
  obtain ⟨D, h1, h2, h3⟩ := H
  exact ⟨D, h1, h2, Hq.getD h3 k⟩
theorem HL.made {D X n : Nat} {e : Nat → Rat} {d h : Nat} (hD : 0 < D) (hd : D ≤ BB ^ d) (hX : X ≤ BB ^ h) (H : ∀ k, k < n → Hq D X (e k)) : HL d h (trimR ((List.range n).map e)) :=
  HL.trim ⟨D, hD, hd, fun q hq => by
    obtain ⟨k, hk, rfl⟩ := List.mem_map.1 hq
    exact (H k (List.mem_range.1 hk)).le hX⟩
theorem two_BB {a b n : Nat} (h1 : a ≤ BB ^ n) (h2 : b ≤ BB ^ n) : a + b ≤ BB ^ (n + 1) := by
  rw [Nat.pow_succ]
  have : BB ^ n * 2 ≤ BB ^ n * BB := Nat.mul_le_mul_left _ (by decide)
  omega
theorem mul_BB {a b n m : Nat} (h1 : a ≤ BB ^ n) (h2 : b ≤ BB ^ m) : a * b ≤ BB ^ (n + m) := by
  rw [Nat.pow_add]; exact Nat.mul_le_mul h1 h2
theorem HL.ad {d1 h1 d2 h2 : Nat} {l m : List Rat} (H : HL d1 h1 l) (H' : HL d2 h2 m) : HL (d1 + d2) (max (h1 + d2) (h2 + d1) + 1) (adP l m) := by
  obtain ⟨D, a1, a2, a3⟩ := H
  obtain ⟨E, b1, b2, b3⟩ := H'
  refine HL.made (D := D * E) (X := BB ^ h1 * E + D * BB ^ h2) (Nat.mul_pos a1 b1) (mul_BB a2 b2) (two_BB ?_ ?_) (fun k _ => ((Hq.getD a3 k).lift E).add ((Hq.getD b3 k).lift' D))
  · exact Nat.le_trans (mul_BB (Nat.le_refl _) b2) (BB_mono (by omega))
  · exact Nat.le_trans (mul_BB a2 (Nat.le_refl _)) (BB_mono (by omega))
theorem HL.sb {d1 h1 d2 h2 : Nat} {l m : List Rat} (H : HL d1 h1 l) (H' : HL d2 h2 m) : HL (d1 + d2) (max (h1 + d2) (h2 + d1) + 1) (sbP l m) := by
  obtain ⟨D, a1, a2, a3⟩ := H
  obtain ⟨E, b1, b2, b3⟩ := H'
  refine HL.made (D := D * E) (X := BB ^ h1 * E + D * BB ^ h2) (Nat.mul_pos a1 b1) (mul_BB a2 b2) (two_BB ?_ ?_) (fun k _ => ((Hq.getD a3 k).lift E).sub ((Hq.getD b3 k).lift' D))
  · exact Nat.le_trans (mul_BB (Nat.le_refl _) b2) (BB_mono (by omega))
  · exact Nat.le_trans (mul_BB a2 (Nat.le_refl _)) (BB_mono (by omega))
/-- The values in the middle of Horner's rule. -/
theorem Hq.ev {D X E Y : Nat} {x : Rat} (hx : Hq E Y x) (hE : 0 < E) : ∀ {l : List Rat}, (∀ q ∈ l, Hq D X q) → Hq (D * E ^ l.length) (X * (E + Y) ^ l.length) (evR l x)
  | [], _ => by rw [evR_nil]; exact Hq.zero _ _
  | a :: l, h => by
    have ih := Hq.ev hx hE (l := l) (fun q hq => h q (List.mem_cons_of_mem _ hq))
    have h1 := (h a (List.mem_cons_self ..)).lift (E ^ (l.length + 1))
    have h2 := ih.mul hx
    rw [evR_cons, List.length_cons]
    have e : D * E ^ l.length * E = D * E ^ (l.length + 1) := by rw [Nat.pow_succ, Nat.mul_assoc]
    rw [e] at h2
    refine (h2.add h1).le ?_
    have e1 : X * (E + Y) ^ (l.length + 1) = X * (E + Y) ^ l.length * Y + X * (E + Y) ^ l.length * E := by
      rw [Nat.pow_succ, ← Nat.mul_assoc, Nat.mul_add, Nat.add_comm]
    rw [e1]
    have e2 : X * E ^ (l.length + 1) ≤ X * (E + Y) ^ l.length * E := by
      rw [Nat.pow_succ, ← Nat.mul_assoc]
      exact Nat.mul_le_mul_right _ (Nat.mul_le_mul_left _ (Nat.pow_le_pow_left (by omega) _))
    omega
end Go.AM

/- poly.Shift. -/
namespace Go.AM
open Go Go.RowKit

/-- Horner's rule, from the end down to j. -/
def hst (l : List Rat) (a : Rat) (j : Nat) : List Rat := l.take j ++ (evR (l.drop j) a :: syn (l.drop j) a)
theorem hst_len {l : List Rat} {a : Rat} {j : Nat} (h : j < l.length) : (hst l a j).length = l.length := by
  rw [hst, List.length_append, List.length_cons, syn_len, List.length_take, List.length_drop]; omega
/-- After i rounds. -/
def pas (l : List Rat) (a : Rat) : Nat → List Rat
  | 0 => l
  | i + 1 => hst (pas l a i) a i
theorem pas_len {l : List Rat} {a : Rat} : ∀ i, i ≤ l.length → (pas l a i).length = l.length
  | 0, _ => rfl
  | i + 1, h => by
    have ih := pas_len (l := l) (a := a) i (by omega)
    rw [pas, hst_len (by omega), ih]
def synI (l : List Rat) (a : Rat) : Nat → List Rat
  | 0 => l
  | i + 1 => syn (synI l a i) a
def sh_st (a : Rat) (L : List Rat) (n i : Int) (N : Nat) : St := mkS [(3, .ptr [3] 0), (5, .own [9] N), (11, ai n), (12, ai i)] [([3], boxR a), ([9], arrR N L)]
def si_st (a : Rat) (L : List Rat) (n i k : Int) (N : Nat) : St := mkS [(3, .ptr [3] 0), (5, .own [9] N), (6, ai i), (7, ai k), (11, ai n), (12, ai i)] [([3], boxR a), ([9], arrR N L)]
def sh_en (L : List Rat) (N : Nat) : St := mkS [(5, .own [9] N)] [([9], arrR N L)]
variable [Its]

end Go.AM

/- poly.Div. -/
namespace Go.AM
open Go Go.RowKit

/-- Less f times q, from k on, the first i of them. -/
def dvI (R q : List Rat) (k : Nat) (f : Rat) : Nat → List Rat
  | 0 => R
  | i + 1 => (dvI R q k f i).set (k + i) ((dvI R q k f i).getD (k + i) 0 - f * q.getD i 0)
def dvF (R q : List Rat) (k : Nat) : Rat := R.getD (k + q.length - 1) 0 / q.getD (q.length - 1) 0
/-- Rest and quotient: m steps are left. -/
def dvO (q : List Rat) : Nat → List Rat → List Rat → List Rat × List Rat
  | 0, R, O => (R, O)
  | k + 1, R, O => dvO q k (dvI R q k (dvF R q k) q.length) (O.set k (dvF R q k))
/-- Small enough all the way. -/
def dvG (K : Nat) (q : List Rat) : Nat → List Rat → Prop
  | 0, R => True
  | k + 1, R => SzL K R ∧ dvG K q k (dvI R q k (dvF R q k) q.length)
def dvN (p q : List Rat) : Nat := p.length + 1 - q.length
def quoP (p q : List Rat) : List Rat := if q = [] then [] else trimR (dvO q (dvN p q) p (List.replicate (dvN p q) 0)).2
def remP (p q : List Rat) : List Rat := if q = [] then [] else trimR (dvO q (dvN p q) p (List.replicate (dvN p q) 0)).1
def dv_st (dq : D) (R O : List Rat) (k : Int) (n m : Nat) : St := mkS [(1, .d dq), (6, .own [16] n), (7, .own [24] m), (8, ai k)] [([16], arrR n R), ([24], arrR m O)]
def di_st (dq : D) (R O : List Rat) (k i : Int) (f : Rat) (n m lq : Nat) : St := mkS [(1, .d dq), (6, .own [16] n), (7, .own [24] m), (8, ai k), (9, .ptr [9] 0), (53, .d dq), (54, ai lq), (55, ai i)] [([9], boxR f), ([16], arrR n R), ([24], arrR m O)]
def dv_en (R O : List Rat) (n m : Nat) : St := mkS [(6, .own [16] n), (7, .own [24] m)] [([16], arrR n R), ([24], arrR m O)]
variable [Its]

section
variable {dq : D} {q : List Rat} {n m : Nat} {K : Nat}
end
end Go.AM

/- poly.monic, Gcd, Free; closed inputs. -/
namespace Go.AM
open Go Go.RowKit

def mnP (l : List Rat) : List Rat := if l = [] then [] else scP l (1 / l.getD (l.length - 1) 0)
def gcP : Nat → List Rat → List Rat → List Rat
  | 0, a, _ => a
  | n + 1, a, b => if b = [] then a else gcP n b (mnP (remP a b))
def gcdP (p q : List Rat) : List Rat := gcP (q.length + 1) (mnP p) (mnP q)
def frP (p : List Rat) : List Rat := mnP (quoP p (gcdP p (deP p)))
/-- Small enough all the way. -/
def gcG (K : Nat) : Nat → List Rat → List Rat → Prop
  | 0, _, b => b = []
  | n + 1, a, b => b = [] ∨ (SzL K b ∧ dvG K b (dvN a b) a ∧ SzL K (remP a b) ∧ gcG K n b (mnP (remP a b)))

/-! ### Closed inputs: all of them of one digit -/
def sm1 (q : Rat) : Bool := decide (q.num.natAbs < 1000000000) && decide (q.den < 1000000000)
def smL (l : List Rat) : Bool := l.all sm1
def dvB (q : List Rat) : Nat → List Rat → Bool
  | 0, _ => true
  | k + 1, R => smL R && dvB q k (dvI R q k (dvF R q k) q.length)
def gcB : Nat → List Rat → List Rat → Bool
  | 0, _, b => decide (b = [])
  | n + 1, a, b => decide (b = []) || (smL b && dvB b (dvN a b) a && smL (remP a b) && gcB n b (mnP (remP a b)))
def shB (l : List Rat) (a : Rat) : Bool := (List.range l.length).all fun i => (List.range l.length).all fun j => smL (hst (pas l a i) a j)
variable [Its]

theorem rone1_spec : callX G n_rat_Of [iv 1, iv 1] = some (.d (encR 1)) := by
  have g := ratOf_spec (n := 1) (d := 1) ⟨by omega, by omega⟩ ⟨by omega, by omega⟩
  have e : Rat.divInt 1 1 = 1 := divInt_one 1
  rw [e] at g; exact g
def gc_st (da db : D) : St := mkS [(0, .d da), (1, .d db)] []
def gc_en (da : D) : St := mkS [(0, .d da)] []
end Go.AM

