/- Part 11 of the proof: a small machine, its soundness against the model, and what the program's functions compute on it. -/
import Derived.Test.YtfdelaplhpmneaaGreatM10
import Derived.KernelRfl
import Derived.Test.YtfdelaplhpmneaaGreatRows
import Derived.Test.YtfdelaplhpmneaaGreatM5
import Derived.WalkKit
import Derived.ProofKit
import Derived.OpenShut
import Derived.ShutString
import Derived.ChangeOld
import Derived.Below
import Derived.SizedLaws
set_option linter.unusedVariables false
set_option linter.unusedSimpArgs false
/- The hulls of both over natural numbers: quick for the kernel. -/
namespace Go.AM
open Go Go.RowKit
abbrev Nt := Nat × Nat
def ofN (p : Nt) : Pt := ((p.1 : Int), (p.2 : Int))
def toN (p : Pt) : Nt := ((p.1 + 100).toNat, (p.2 + 100).toNat)
def cpN (a b c : Nt) : Nat := Nat.add (Nat.add (Nat.mul b.1 c.2) (Nat.mul b.2 a.1)) (Nat.mul a.2 c.1)
def cmN (a b c : Nt) : Nat := Nat.add (Nat.add (Nat.mul b.1 a.2) (Nat.mul a.1 c.2)) (Nat.mul b.2 c.1)
def dfN (x y : Nat) : Nat := Nat.add (Nat.sub x y) (Nat.sub y x)
def faN (p q : Nt) : Nat := Nat.add (Nat.mul (dfN p.1 q.1) (dfN p.1 q.1)) (Nat.mul (dfN p.2 q.2) (dfN p.2 q.2))
def eqN (p q : Nt) : Bool := and (Nat.beq p.1 q.1) (Nat.beq p.2 q.2)
noncomputable def iteB {α : Type} (b : Bool) (x y : α) : α := Bool.rec y x b
noncomputable def frcN {α : Type} (n : Nat) (f : Nat → α) : α := Nat.rec (f 0) (fun k _ => f (Nat.succ k)) n
noncomputable def frcT {α : Type} (p : Nt) (f : Nt → α) : α := frcN p.1 fun x => frcN p.2 fun y => f (x, y)
noncomputable def frcM {α : Type} (l : List Nt) (f : List Nt → α) : α := List.rec (motive := fun _ => (List Nt → α) → α) (fun f => f []) (fun p _ ih f => frcT p fun p => ih fun l => f (p :: l)) l f
noncomputable def bsN (last best p : Nt) : Nt := iteB (eqN best last) p (iteB (Nat.ble (cmN last best p) (cpN last best p)) (iteB (and (Nat.beq (cmN last best p) (cpN last best p)) (Nat.ble (Nat.succ (faN last best)) (faN last p))) p best) p)
noncomputable def nxN (all : List Nt) (last : Nt) : Nt := all.foldl (bsN last) last
noncomputable def hulCN (all : List Nt) (first : Nt) : Nat → List Nt → Nt → Option (List Nt)
 | 0, _, _ => none
 | f + 1, out, last => frcT (nxN all last) fun z => iteB (eqN z first) (some out) (hulCN all first f (out ++ [z]) z)
def okN (last c p : Nt) : Bool := or (Nat.ble (Nat.succ (cmN last c p)) (cpN last c p)) (and (Nat.beq (cmN last c p) (cpN last c p)) (Nat.ble (faN p last) (faN c last)))
noncomputable def allN (last c : Nt) (l : List Nt) : Bool := List.rec (motive := fun _ => Bool) true (fun p _ ih => iteB (okN last c p) ih false) l
noncomputable def fndN (all : List Nt) (last : Nt) (l : List Nt) : Nt := List.rec (motive := fun _ => Nt) last (fun c _ ih => iteB (eqN c last) ih (iteB (allN last c all) c ih)) l
noncomputable def hulRN (all : List Nt) (first : Nt) : Nat → List Nt → Nt → Option (List Nt)
 | 0, _, _ => none
 | f + 1, out, last => frcT (fndN all last all) fun z => iteB (eqN z first) (some out) (hulRN all first f (out ++ [z]) z)
def ltN (p q : Nt) : Bool := or (Nat.ble (Nat.succ p.2) q.2) (and (Nat.beq p.2 q.2) (Nat.ble (Nat.succ p.1) q.1))
noncomputable def mnN (l : List Nt) (p : Nt) : Nt := l.foldl (fun p q => iteB (ltN q p) q p) p
def bkN (n : Nt) : Pt := ((n.1 : Int) - 100, (n.2 : Int) - 100)
noncomputable def hulB (a b : List Pt) : Bool :=
 frcM ((suA a b).map toN) fun all => frcT (mnN all (all.headD (0, 0))) fun first =>
 match hulCN all first 17 [first] first, hulRN all first 17 [first] first with
 | some x, some y => decide (x = y) && Nat.ble 3 x.length && Nat.ble x.length 10 && Nat.ble x.length all.length && edgB a b (x.map bkN) && ((suA a b).all fun p => decide (-100 ≤ p.1) && decide (-100 ≤ p.2)) && !((suA a b).isEmpty)
 | _, _ => false
noncomputable def hulA (c e : Int) : Bool := (bas c).all fun a => (bas e).all fun b => hulB a b
theorem frcN_eq {α : Type} (n : Nat) (f : Nat → α) : frcN n f = f n := by cases n <;> rfl
theorem QnB {α : Type} (p : Nt) (f : Nt → α) : frcT p f = f p := by unfold frcT; rw [frcN_eq, frcN_eq]
theorem frcM_eq {α : Type} : ∀ (l : List Nt) (f : List Nt → α), frcM l f = f l
 | [], f => rfl
 | p :: l, f => by
  show (frcT p fun p => frcM l fun l => f (p :: l)) = _
  rw [QnB, frcM_eq l]
theorem Qgb {α : Type} (b : Bool) (x y : α) : iteB b x y = if b = true then x else y := by cases b <;> rfl
theorem ofN_inj (p q : Nt) : ofN p = ofN q ↔ p = q := by
 obtain ⟨a, b⟩ := p
 obtain ⟨c, d⟩ := q
 unfold ofN
 simp only [Prod.mk.injEq]
 omega
theorem nbeq (a b : Nat) : Nat.beq a b = true ↔ a = b := ⟨Nat.eq_of_beq_eq_true, fun h => h ▸ Nat.beq_refl _⟩
theorem Qnd (p q : Nt) : eqN p q = decide (ofN p = ofN q) := by
 obtain ⟨a, b⟩ := p
 obtain ⟨c, d⟩ := q
 rw [Bool.eq_iff_iff, decide_eq_true_iff, ofN_inj]
 unfold eqN
 show (Nat.beq a c && Nat.beq b d) = true ↔ _
 rw [Bool.and_eq_true, nbeq, nbeq, Prod.mk.injEq]
theorem cr_N (a b c : Nt) : crI (ofN a) (ofN b) (ofN c) = (cpN a b c : Int) - (cmN a b c : Int) := by
 unfold crI ofN
 have e1 : cpN a b c = b.1 * c.2 + b.2 * a.1 + a.2 * c.1 := rfl
 have e2 : cmN a b c = b.1 * a.2 + a.1 * c.2 + b.2 * c.1 := rfl
 rw [e1, e2]
 push_cast
 generalize (a.1 : Int) = a1
 generalize (a.2 : Int) = a2
 generalize (b.1 : Int) = b1
 generalize (b.2 : Int) = b2
 generalize (c.1 : Int) = c1
 generalize (c.2 : Int) = c2
 grind
theorem df_sq (x y : Nat) : ((x : Int) - (y : Int)) * ((x : Int) - (y : Int)) = ((dfN x y * dfN x y : Nat) : Int) := by
 have e : dfN x y = (x - y) + (y - x) := rfl
 rw [e, Int.natCast_mul]
 rcases Nat.le_total x y with h | h
 ·have e1 : (((x - y) + (y - x) : Nat) : Int) = -((x : Int) - (y : Int)) := by omega
  rw [e1, Int.neg_mul_neg]
 ·have e1 : (((x - y) + (y - x) : Nat) : Int) = ((x : Int) - (y : Int)) := by omega
  rw [e1]
theorem fa_N (p q : Nt) : faI (ofN p) (ofN q) = (faN p q : Int) := by
 unfold faI ofN
 dsimp only
 rw [df_sq, df_sq]
 have e : faN p q = dfN p.1 q.1 * dfN p.1 q.1 + dfN p.2 q.2 * dfN p.2 q.2 := rfl
 rw [e, Int.natCast_add]
theorem Qqj (a b : Nat) : Nat.ble (Nat.succ a) b = decide (a < b) := by
 rw [Bool.eq_iff_iff, decide_eq_true_iff, Nat.ble_eq]
 exact Iff.rfl
theorem ble_le (a b : Nat) : Nat.ble a b = decide (a ≤ b) := by rw [Bool.eq_iff_iff, decide_eq_true_iff, Nat.ble_eq]
theorem beq_eq (a b : Nat) : Nat.beq a b = decide (a = b) := by rw [Bool.eq_iff_iff, decide_eq_true_iff, nbeq]
theorem bs_N (l b p : Nt) : bsS (ofN l) (ofN b) (ofN p) = ofN (bsN l b p) := by
 unfold bsS bsN
 rw [cr_N, fa_N, fa_N, Qnd, ble_le, Qqj, beq_eq, Qgb, Qgb, Qgb]
 generalize cpN l b p = u
 generalize cmN l b p = v
 generalize faN l b = s
 generalize faN l p = t
 by_cases h0 : ofN b = ofN l
 ·simp only [h0, decide_true, Bool.true_or, if_true]
 ·simp only [h0, decide_false, Bool.false_or, Bool.false_eq_true, if_false]
  by_cases h1 : v ≤ u
  ·have h2 : ¬ ((u : Int) - (v : Int) < 0) := by omega
   simp only [h1, h2, decide_true, decide_false, Bool.false_or, if_true]
   by_cases h3 : v = u
   ·have h4 : (u : Int) - (v : Int) = 0 := by omega
    by_cases h5 : s < t
    ·have h6 : (s : Int) < (t : Int) := by omega
     have e : (decide (v = u)).and (decide (s < t)) = true := by simp [h3, h5]
     rw [e]
     simp only [h4, h6, decide_true, Bool.and_self, if_true]
    ·have h6 : ¬ (s : Int) < (t : Int) := by omega
     have e : (decide (v = u)).and (decide (s < t)) = false := by simp [h5]
     rw [e]
     simp only [h6, decide_false, Bool.and_false, Bool.false_eq_true, if_false]
   ·have h4 : ¬ (u : Int) - (v : Int) = 0 := by omega
    have e : (decide (v = u)).and (decide (s < t)) = false := by simp [h3]
    rw [e]
    simp only [h4, decide_false, Bool.false_and, Bool.false_eq_true, if_false]
  ·have h2 : (u : Int) - (v : Int) < 0 := by omega
   simp only [h1, h2, decide_true, decide_false, Bool.true_or, if_true, Bool.false_eq_true, if_false]
theorem fold_N (l : Nt) : ∀ (L : List Nt) (b : Nt), (L.map ofN).foldl (bsS (ofN l)) (ofN b) = ofN (L.foldl (bsN l) b)
 | [], b => rfl
 | p :: L, b => by rw [List.map_cons, List.foldl_cons, List.foldl_cons, bs_N, fold_N l L]
theorem hulC_N (L : List Nt) (fs : Nt) : ∀ (f : Nat) (O : List Nt) (l : Nt), hulC (L.map ofN) (ofN fs) f (O.map ofN) (ofN l) = (hulCN L fs f O l).map (List.map ofN)
 | 0, _, _ => rfl
 | f + 1, O, l => by
  have e : nxC (L.map ofN) (ofN l) = ofN (nxN L l) := fold_N l L l
  rw [hulC, hulCN, e, QnB, Qgb, Qnd]
  by_cases h : ofN (nxN L l) = ofN fs
  ·rw [if_pos h, if_pos (decide_eq_true h)]; rfl
  ·rw [if_neg h, if_neg (by rw [decide_eq_false h]; simp), ← hulC_N L fs f, List.map_append]; rfl
theorem ok_N (l c p : Nt) : okQ (ofN l) (ofN c) (ofN p) = okN l c p := by
 unfold okQ okN
 rw [cr_N, fa_N, fa_N, Qqj, ble_le, beq_eq]
 generalize cpN l c p = u
 generalize cmN l c p = v
 generalize faN p l = s
 generalize faN c l = t
 show _ = (decide (v < u) || (decide (v = u) && decide (s ≤ t)))
 rw [show decide (0 < (u : Int) - (v : Int)) = decide (v < u) from decide_eq_decide.2 (by omega), show decide ((u : Int) - (v : Int) = 0) = decide (v = u) from decide_eq_decide.2 (by omega), show decide ((s : Int) ≤ (t : Int)) = decide (s ≤ t) from decide_eq_decide.2 (by omega)]
theorem all_N (l c : Nt) : ∀ L : List Nt, (L.map ofN).all (okQ (ofN l) (ofN c)) = allN l c L
 | [] => rfl
 | p :: L => by
  show _ = iteB (okN l c p) (allN l c L) false
  rw [List.map_cons, List.all_cons, ok_N, all_N l c L, Qgb]
  cases okN l c p <;> rfl
theorem fnd_N (all : List Nt) (l : Nt) : ∀ L : List Nt, ((L.map ofN).find? fun c => decide (c ≠ ofN l) && (all.map ofN).all (okQ (ofN l) c)).getD (ofN l) = ofN (fndN all l L)
 | [] => rfl
 | c :: L => by
  show _ = ofN (iteB (eqN c l) (fndN all l L) (iteB (allN l c all) c (fndN all l L)))
  rw [List.map_cons, List.find?_cons, all_N, Qnd, Qgb, Qgb]
  by_cases h : ofN c = ofN l
  ·have e1 : decide (ofN c ≠ ofN l) = false := by simp [h]
   rw [e1, Bool.false_and, if_pos (decide_eq_true h)]
   exact fnd_N all l L
  ·have e1 : decide (ofN c ≠ ofN l) = true := by simp [h]
   rw [e1, Bool.true_and, if_neg (by rw [decide_eq_false h]; simp)]
   cases allN l c all
   ·exact fnd_N all l L
   ·rfl
theorem hulR_N (L : List Nt) (fs : Nt) : ∀ (f : Nat) (O : List Nt) (l : Nt), hulR (L.map ofN) (ofN fs) f (O.map ofN) (ofN l) = (hulRN L fs f O l).map (List.map ofN)
 | 0, _, _ => rfl
 | f + 1, O, l => by
  have e : nxR (L.map ofN) (ofN l) = ofN (fndN L l L) := fnd_N L l L
  rw [hulR, hulRN, e, QnB, Qgb, Qnd]
  by_cases h : ofN (fndN L l L) = ofN fs
  ·rw [if_pos h, if_pos (decide_eq_true h)]; rfl
  ·rw [if_neg h, if_neg (by rw [decide_eq_false h]; simp), ← hulR_N L fs f, List.map_append]; rfl
theorem lt_N (p q : Nt) : ltQ (ofN p) (ofN q) = ltN p q := by
 unfold ltQ ltN ofN
 rw [Qqj, Qqj, beq_eq]
 show _ = (decide (p.2 < q.2) || (decide (p.2 = q.2) && decide (p.1 < q.1)))
 dsimp only
 rw [show decide ((p.2 : Int) < (q.2 : Int)) = decide (p.2 < q.2) from decide_eq_decide.2 (by omega), show decide ((p.2 : Int) = (q.2 : Int)) = decide (p.2 = q.2) from decide_eq_decide.2 (by omega), show decide ((p.1 : Int) < (q.1 : Int)) = decide (p.1 < q.1) from decide_eq_decide.2 (by omega)]
theorem QqR (l : List Pt) : ∀ i, i ≤ l.length → mnR l i = (l.take i).foldl (fun p q => if ltQ q p = true then q else p) (l.getD 0 default)
 | 0, h => rfl
 | i + 1, h => by
  have e : l.take (i + 1) = l.take i ++ [l.getD i default] := by
   rw [List.take_add_one, List.getD_eq_getElem?_getD, List.getElem?_eq_getElem (show i < l.length by omega)]; rfl
  rw [mnR, e, List.foldl_append, ← QqR l i (by omega)]; rfl
theorem mn_N : ∀ (L : List Nt) (p : Nt), (L.map ofN).foldl (fun p q => if ltQ q p = true then q else p) (ofN p) = ofN (mnN L p)
 | [], p => rfl
 | q :: L, p => by
  have e : mnN (q :: L) p = mnN L (iteB (ltN q p) q p) := rfl
  rw [List.map_cons, List.foldl_cons, lt_N, e, ← mn_N L, Qgb]
  cases ltN q p <;> rfl
theorem to_of {p : Pt} (h : -100 ≤ p.1 ∧ -100 ≤ p.2) : ofN (toN p) = mvP 100 100 p := by
 unfold ofN toN mvP
 refine Prod.ext ?_ ?_ <;> dsimp only <;> omega
theorem bk_of (n : Nt) : mvP 100 100 (bkN n) = ofN n := by
 unfold mvP bkN ofN
 refine Prod.ext ?_ ?_ <;> dsimp only <;> omega
theorem Ql7 {x y : Int} : ∀ {l m : List Pt}, l.map (mvP x y) = m.map (mvP x y) → l = m
 | [], [], _ => rfl
 | [], _ :: _, h => by simp at h
 | _ :: _, [], h => by simp at h
 | p :: l, q :: m, h => by
  rw [List.map_cons, List.map_cons, List.cons.injEq] at h
  rw [(QlQ x y p q).1 h.1, Ql7 h.2]
theorem hul_of {a b : List Pt} (h : hulB a b = true) : ∃ x, Hul a b x := by
  unfold hulB at h
  rw [frcM_eq, QnB] at h
  split at h
  · rename_i x y h1 h2
    simp only [Bool.and_eq_true, decide_eq_true_eq, Nat.ble_eq, Bool.not_eq_true'] at h
    obtain ⟨⟨⟨⟨⟨⟨rfl, h3⟩, h4⟩, h6⟩, h5⟩, h7⟩, h8⟩ := h
    have hne : 0 < (suA a b).length := by
      cases e : suA a b with
      | nil => rw [e] at h8; simp at h8
      | cons p l => simp
    have eL : ((suA a b).map toN).map ofN = (suA a b).map (mvP 100 100) := by
      rw [List.map_map]
      refine List.map_congr_left fun p hp => ?_
      have := List.all_eq_true.1 h7 p hp
      simp only [Bool.and_eq_true, decide_eq_true_eq] at this
      exact to_of this
    have em : ofN (mnN ((suA a b).map toN) (((suA a b).map toN).headD (0, 0))) = mvP 100 100 (mnF (suA a b) ((suA a b).length - 1)) := by
      have e1 := mnR_F ((suA a b).map (mvP 100 100)) ((suA a b).length - 1)
      rw [Nat.sub_add_cancel hne, mnF_mv _ _ _ _ (by omega)] at e1
      rw [← e1, ← mn_N, eL, QqR _ _ (by simp), List.take_of_length_le (by simp)]
      congr 1
      rw [← eL]
      cases e : (suA a b).map toN with
      | nil => rw [← List.length_map toN, e] at hne; simp at hne
      | cons p l => rfl
    have hc := hulC_N ((suA a b).map toN) (mnN ((suA a b).map toN) (((suA a b).map toN).headD (0, 0))) 17 [mnN ((suA a b).map toN) (((suA a b).map toN).headD (0, 0))] (mnN ((suA a b).map toN) (((suA a b).map toN).headD (0, 0)))
    have hr := hulR_N ((suA a b).map toN) (mnN ((suA a b).map toN) (((suA a b).map toN).headD (0, 0))) 17 [mnN ((suA a b).map toN) (((suA a b).map toN).headD (0, 0))] (mnN ((suA a b).map toN) (((suA a b).map toN).headD (0, 0)))
    rw [h1] at hc
    rw [h2] at hr
    rw [List.map_singleton, em, eL] at hc hr
    have mc := Qpy 100 100 (suA a b) (mnF (suA a b) ((suA a b).length - 1)) 17 [mnF (suA a b) ((suA a b).length - 1)] (mnF (suA a b) ((suA a b).length - 1))
    have mr := Qp0 100 100 (suA a b) (mnF (suA a b) ((suA a b).length - 1)) 17 [mnF (suA a b) ((suA a b).length - 1)] (mnF (suA a b) ((suA a b).length - 1))
    rw [List.map_singleton, hc] at mc
    rw [List.map_singleton, hr] at mr
    have ex : x.map ofN = (x.map bkN).map (mvP 100 100) := by
      rw [List.map_map]
      exact List.map_congr_left fun n _ => (bk_of n).symm
    rw [Option.map_some, ex] at mc mr
    have key : ∀ o : Option (List Pt), some ((x.map bkN).map (mvP 100 100)) = o.map (List.map (mvP 100 100)) → o = some (x.map bkN) := by
      intro o ho
      cases o with
      | none => cases ho
      | some z =>
        rw [Option.map_some, Option.some.injEq] at ho
        rw [Ql7 ho]
    unfold edgB at h5
    rw [Bool.and_eq_true, List.all_eq_true, List.all_eq_true] at h5
    rw [List.length_map] at h6
    refine ⟨x.map bkN, key _ mc, key _ mr, by rw [List.length_map]; exact h3, by rw [List.length_map]; exact h4, fun d hd => ?_, fun i hi => ?_, by rw [List.length_map]; exact h6⟩
    · obtain ⟨i, hi, e⟩ := List.any_eq_true.1 (h5.1 d hd)
      exact ⟨i, List.mem_range.1 hi, e⟩
    · obtain ⟨d, hd, e⟩ := List.any_eq_true.1 (h5.2 i (List.mem_range.2 hi))
      exact ⟨d, hd, e⟩
  · cases h
end Go.AM

/- The hulls of all Qkh of base shapes, by the kernel (part 1). -/
namespace Go.AM
open Go Go.RowKit
theorem hul_22 : hulA 2 2 = true := by kernel_rfl
theorem hul_23 : hulA 2 3 = true := by kernel_rfl
theorem hul_24 : hulA 2 4 = true := by kernel_rfl
theorem hul_26 : hulA 2 6 = true := by kernel_rfl
end Go.AM

/- The hulls of all Qkh of base shapes, by the kernel (part 2). -/
namespace Go.AM
open Go Go.RowKit
theorem hul_25 : hulA 2 5 = true := by kernel_rfl
theorem hul_32 : hulA 3 2 = true := by kernel_rfl
theorem hul_33 : hulA 3 3 = true := by kernel_rfl
theorem hul_34 : hulA 3 4 = true := by kernel_rfl
theorem hul_36 : hulA 3 6 = true := by kernel_rfl
theorem hul_42 : hulA 4 2 = true := by kernel_rfl
theorem hul_43 : hulA 4 3 = true := by kernel_rfl
theorem hul_44 : hulA 4 4 = true := by kernel_rfl
theorem hul_46 : hulA 4 6 = true := by kernel_rfl
end Go.AM

/- The hulls of all Qkh of base shapes, by the kernel (part 3). -/
namespace Go.AM
open Go Go.RowKit
theorem hul_52 : hulA 5 2 = true := by kernel_rfl
theorem hul_62 : hulA 6 2 = true := by kernel_rfl
theorem hul_63 : hulA 6 3 = true := by kernel_rfl
theorem hul_64 : hulA 6 4 = true := by kernel_rfl
theorem hul_66 : hulA 6 6 = true := by kernel_rfl
theorem hul_35 : hulA 3 5 = true := by kernel_rfl
theorem hul_53 : hulA 5 3 = true := by kernel_rfl
end Go.AM

/- The hulls of all Qkh of base shapes, by the kernel (part 4). -/
namespace Go.AM
open Go Go.RowKit
theorem hul_55 : hulA 5 5 = true := by kernel_rfl
theorem hul_45 : hulA 4 5 = true := by kernel_rfl
theorem hul_54 : hulA 5 4 = true := by kernel_rfl
theorem hul_56 : hulA 5 6 = true := by kernel_rfl
theorem hul_65 : hulA 6 5 = true := by kernel_rfl
end Go.AM

/- Supports, plain: the directions of the shapes; a point of a shape is no further along them than Most. -/
namespace Go.AM
open Go Go.RowKit
theorem mst_ge (d : Dr) (l : List Pt) : ∀ k i, i < k → dotI d (l.getD i default) ≤ mstN d l k
 | 0, i, h => by omega
 | k + 1, i, h => by
  rw [mstN]
  by_cases hk : i = k
  ·subst hk; omega
  ·have := mst_ge d l k i (by omega)
   omega
end Go.AM

/- The hulls of all Qkh of shapes. -/
namespace Go.AM
open Go Go.RowKit
theorem hul_bas {e f : Int} (he : e ∈ ([2, 3, 4, 5, 6] : List Int)) (hf : f ∈ ([2, 3, 4, 5, 6] : List Int)) : hulA e f = true := by
 simp only [List.mem_cons, List.not_mem_nil, or_false] at he hf
 rcases he with rfl | rfl | rfl | rfl | rfl <;> rcases hf with rfl | rfl | rfl | rfl | rfl
 ·exact hul_22
 ·exact hul_23
 ·exact hul_24
 ·exact hul_25
 ·exact hul_26
 ·exact hul_32
 ·exact hul_33
 ·exact hul_34
 ·exact hul_35
 ·exact hul_36
 ·exact hul_42
 ·exact hul_43
 ·exact hul_44
 ·exact hul_45
 ·exact hul_46
 ·exact hul_52
 ·exact hul_53
 ·exact hul_54
 ·exact hul_55
 ·exact hul_56
 ·exact hul_62
 ·exact hul_63
 ·exact hul_64
 ·exact hul_65
 ·exact hul_66
theorem Qnw {P : Pt → Prop} {all : List Pt} {fs : Pt} (hA : ∀ p ∈ all, P p) {x : List Pt} : ∀ (f : Nat) (O : List Pt) (l : Pt), (∀ p ∈ O, P p) → P l → hulC all fs f O l = some x → ∀ p ∈ x, P p
  | 0, _, _, _, _, h => by cases h
  | f + 1, O, l, hO, hl, h => by
    have hz : P (nxC all l) := by
      have : ∀ (L : List Pt) (b : Pt), (∀ p ∈ L, P p) → P b → P (L.foldl (bsS l) b) := by
        intro L
        induction L with
        | nil => intro b _ hb; exact hb
        | cons p L ih =>
          intro b hL hb
          rw [List.foldl_cons]
          refine ih _ (fun q hq => hL q (List.mem_cons_of_mem _ hq)) ?_
          unfold bsS
          split
          · exact hL p (List.mem_cons_self ..)
          · exact hb
      exact this all l hA hl
    rw [hulC] at h
    split at h
    · cases h; exact hO
    · refine Qnw hA f _ _ ?_ hz h
      intro p hp
      rcases List.mem_append.1 hp with hp | hp
      · exact hO p hp
      · rw [List.mem_singleton.1 hp]; exact hz
theorem Qhb (l : List Int) : ∀ p ∈ spP l, -40 ≤ p.1 ∧ p.1 ≤ 40 ∧ -40 ≤ p.2 ∧ p.2 ≤ 40 := by
 intro p hp
 obtain ⟨h1, h2, h3, h4, h5⟩ := sh_b l
 obtain ⟨q, hq, rfl⟩ := List.mem_map.1 hp
 have := spB_sm (c := spC l) h2 h3 q hq
 unfold mvP
 dsimp only
 omega
theorem hul_sh (l m : List Int) : ∃ x, Hul (spP l) (spP m) x ∧ ∀ p ∈ x, -80 ≤ p.1 ∧ p.1 ≤ 80 ∧ -80 ≤ p.2 ∧ p.2 ≤ 80 := by
 obtain ⟨h1, h2, h3, h4, h5⟩ := sh_b l
 obtain ⟨k1, k2, k3, k4, k5⟩ := sh_b m
 obtain ⟨e, he, ma⟩ := bas_mem h1 h2 h3
 obtain ⟨f, hf, mb⟩ := bas_mem k1 k2 k3
 have h := hul_bas he hf
 unfold hulA at h
 rw [List.all_eq_true] at h
 have h := h _ ma
 rw [List.all_eq_true] at h
 obtain ⟨x, hx⟩ := hul_of (h _ mb)
 have la := Qne (spC l) (spK l) (spM l)
 have lb := Qne (spC m) (spK m) (spM m)
 have := hul_mv (spX l) (spY l) (spX m) (spY m) (by omega) (by omega) hx
 refine ⟨_, this, ?_⟩
 have hA : ∀ p ∈ suA (spP l) (spP m), -80 ≤ p.1 ∧ p.1 ≤ 80 ∧ -80 ≤ p.2 ∧ p.2 ≤ 80 := by
  intro p hp
  unfold suA at hp
  obtain ⟨q, hq, hp⟩ := List.mem_flatMap.1 hp
  unfold suR at hp
  obtain ⟨r, hr, rfl⟩ := List.mem_map.1 hp
  have := Qhb l q hq
  have := Qhb m r hr
  dsimp only
  omega
 have hne : 0 < (suA (spP l) (spP m)).length := by
  have e : 0 < (spP l).length := by unfold spP; rw [List.length_map]; omega
  have e2 : 0 < (spP m).length := by unfold spP; rw [List.length_map]; omega
  rw [QmZ]
  exact Nat.mul_pos e e2
 have hd : ∀ i, (fun p : Pt => -80 ≤ p.1 ∧ p.1 ≤ 80 ∧ -80 ≤ p.2 ∧ p.2 ≤ 80) ((suA (spP l) (spP m)).getD i default) := fun i => by
  by_cases hi : i < (suA (spP l) (spP m)).length
  ·exact hA _ (by rw [List.getD_eq_getElem?_getD, List.getElem?_eq_getElem hi]; exact List.getElem_mem hi)
  ·rw [List.getD_eq_getElem?_getD, List.getElem?_eq_none (by omega)]
   exact ⟨by decide, by decide, by decide, by decide⟩
 have hf0 := QnJ (P := fun p : Pt => -80 ≤ p.1 ∧ p.1 ≤ 80 ∧ -80 ≤ p.2 ∧ p.2 ≤ 80) hd ((suA (spP l) (spP m)).length - 1)
 exact Qnw (P := fun p : Pt => -80 ≤ p.1 ∧ p.1 ≤ 80 ∧ -80 ≤ p.2 ∧ p.2 ≤ 80) hA 17 _ _ (fun p hp => by rw [List.mem_singleton.1 hp]; exact hf0) hf0 this.c
theorem hul_in {a b x : List Pt} (h : Hul a b x) {v : Vc} : hsP x v = true ↔ ∀ d ∈ uqS a b, dotR d v ≤ ((moP d a + moP (tnD d) b : Int) : Rat) := by
 have key : ∀ i d, i < x.length → onE a b x d i = true → (hsB x v i ≤ hsA x v i ↔ dotR d v ≤ ((moP d a + moP (tnD d) b : Int) : Rat)) := by
  intro i d hi he
  unfold onE at he
  dsimp only at he
  generalize (if d.1 = 0 then (-(sdx x i)).tdiv d.2.1 else (sdy x i).tdiv d.1) = t at he
  simp only [Bool.and_eq_true, decide_eq_true_eq] at he
  obtain ⟨⟨⟨h0, h1⟩, h2⟩, h3⟩ := he
  rw [← h3]
  have e1 : (nxP x i).1 - (x.getD i default).1 = sdx x i := rfl
  have e2 : (nxP x i).2 - (x.getD i default).2 = sdy x i := rfl
  unfold hsA hsB dotR dotI
  rw [e1, e2, h1, show sdx x i = -(t * d.2.1) by omega]
  generalize x.getD i default = p
  obtain ⟨n1, n2, n3⟩ := d
  obtain ⟨p1, p2⟩ := p
  obtain ⟨v1, v2⟩ := v
  dsimp only
  have ht : (0 : Rat) < (t : Rat) := by exact_mod_cast h0
  push_cast
  generalize (t : Rat) = T at *
  generalize (n1 : Rat) = N1
  generalize (n2 : Rat) = N2
  generalize (p1 : Rat) = P1
  generalize (p2 : Rat) = P2
  constructor
  ·intro h
   have h4 : T * (N1 * v1 + N2 * v2) ≤ T * (N1 * P1 + N2 * P2) := by grind
   exact Rat.le_of_mul_le_mul_left h4 ht
  ·intro h
   have h4 : T * (N1 * v1 + N2 * v2) ≤ T * (N1 * P1 + N2 * P2) := Rat.mul_le_mul_of_nonneg_left h (Rat.le_of_lt ht)
   grind
 constructor
 ·intro hh d hd
  obtain ⟨i, hi, he⟩ := h.one d hd
  exact (key i d hi he).1 (hsP_at hh hi)
 ·intro hh
  have : ∀ j i, i + j = x.length → hsF x v j i = true := by
   intro j
   induction j with
   | zero => intro i _; rfl
   | succ j ih =>
    intro i hi
    obtain ⟨d, hd, he⟩ := h.two i (by omega)
    have := (key i d (by omega) he).2 (hh d hd)
    rw [hsF, if_neg (by rw [decide_eq_false (Rat.not_lt.2 this)]; simp)]
    exact ih (i + 1) (by omega)
  exact this x.length 0 (by omega)
end Go.AM

namespace Go.AM
open Go Go.RowKit
def QkK (O : List Eg) (x : List Pt) (r v w : Vc) (k i : Int) : St := mkS [(9, .d (rowE cG O)), (10, .d (rowE cP x)), (11, .ptr [11] 0), (12, .ptr [12] 0), (13, .ptr [13] 0), (14, ai k), (15, ai i)] [([11], bxV r), ([12], bxV v), ([13], bxV w)]
def QoG (O : List Eg) (x : List Pt) (r v : Vc) : St := mkS [(9, .d (rowE cG O)), (10, .d (rowE cP x)), (11, .ptr [11] 0), (12, .ptr [12] 0)] [([11], bxV r), ([12], bxV v)]
theorem st8k (a b c d e f g h i j k l m n o p : A) : Qaf 0 [a, b, c, d, e, f, g, h] [i, j, k, l, m, n, o, p] = some [a, b, c, d, e, f, g, h] := rfl
theorem i64_4 : I64 4 := ⟨by omega, by omega⟩
theorem div4_b {i : Nat} (h : i ≤ 4) : 0 ≤ Rat.divInt i 4 ∧ Rat.divInt i 4 ≤ 1 := by
 match i, h with
 | 0, _ => exact ⟨by decide, by decide⟩
 | 1, _ => exact ⟨by decide, by decide⟩
 | 2, _ => exact ⟨by decide, by decide⟩
 | 3, _ => exact ⟨by decide, by decide⟩
 | 4, _ => exact ⟨by decide, by decide⟩
theorem gk_go {O : List Eg} {x : List Pt} {r v w : Vc} (hO : ∀ e ∈ O, AtE e) (hn : O.length ≤ 1000) (hr : SzV 3 r) (hv : SzV 3 v) (hw : SzV 3 w) {k : Nat} (hk : k < O.length) (hS : staG (alP (O.getD k default) r v w) = true) {i : Nat} (hi : i ≤ 4) :
    X G QaF (QkK O x r v w k i) = some (.n, QkK O x r v w k ((i + 1 : Nat) : Int)) := by
  have e1 : decide ((i : Int) ≤ 4) = true := decide_eq_true (by omega)
  have e2 : w64 ((i : Int) + 1) = ((i + 1 : Nat) : Int) := by rw [Qac (by omega) (by omega)]; rfl
  have e3 : decide ((k : Int) ≥ 0) = true := decide_eq_true (by omega)
  have ll : lenA (.d (rowE cG O)) = some O.length := rfl
  have x1 := RwE.ixa (d := rowE cG O) (l := O) Qeb (.inr rfl) hk
  have x2 := fun hp => ldE Qeb hp hk
  have hs := div4_b hi
  have i1 : I64 (i : Int) := ⟨by omega, by omega⟩
  have o1 := Qb9 i1 i64_4
  have o2 := Qb9 Qeg Qob
  have z1 := QnM i1 i64_4
  have z2 := QnM Qeg Qob
  have he := atE0 hO hk
  have pos := sta_nn (p := alP (O.getD k default) r v w) (Nat.le_trans (Qih _) (by simp [alL])) (QqL _) hS hs.1 hs.2
  rw [← gp_po] at pos
  clear hS hs i1
  have m1 := QcE (a := Rat.divInt i 4) (b := Rat.divInt i 4) (by omega) (by omega)
  have z3 := Qe6 (a := Rat.divInt i 4) (b := Rat.divInt i 4)
  have m2 := QcE (a := Rat.divInt i 4 * Rat.divInt i 4) (b := Rat.divInt 1 2) (by omega) (by omega)
  have z4 := Qe6 (a := Rat.divInt i 4 * Rat.divInt i 4) (b := Rat.divInt 1 2)
  have t1 := QfI (K := 30) (k := Rat.divInt i 4) (by omega) (by omega) (hv.mono (by omega))
  have t2 := QfI (K := 30) (k := Rat.divInt i 4 * Rat.divInt i 4 * Rat.divInt 1 2) (by omega) (by omega) (hw.mono (by omega))
  have y1 := Qh5 (L := 12) (k := Rat.divInt i 4) (by omega) hv
  have y2 := Qh5 (L := 12) (k := Rat.divInt i 4 * Rat.divInt i 4 * Rat.divInt 1 2) (by omega) hw
  have p1 := QeE (K := 30) (by omega) (y1.mono (by omega)) (y2.mono (by omega))
  have y3 := QiQ y1 y2
  have p2 := QeE (K := 100) (by omega) (hr.mono (by omega)) (y3.mono (by omega))
  have y4 := QiQ hr y3
  have ep : plV r (plV (tmV (Rat.divInt i 4) v) (tmV (Rat.divInt i 4 * Rat.divInt i 4 * Rat.divInt 1 2) w)) = poV r v w (Rat.divInt i 4) := rfl
  rw [ep] at p2 y4
  have g1 := QkJ (d := rowE cG O) (K := 100) (.inr rfl) hn (by omega) hO (y4.mono (by omega))
  have mf : meG O (poV r v w (Rat.divInt i 4)) = false := by
    rw [Bool.eq_false_iff]
    intro h
    rw [QmX] at h
    exact absurd pos (Rat.not_le.2 (h _ (egm hk)))
  rw [mf] at g1
  have g2 := Qdq (K := 100) (by omega) he (y4.mono (by omega))
  have g3 := QaQ (gpR (O.getD k default) (poV r v w (Rat.divInt i 4)))
  have tn : decide (Int.sign (gpR (O.getD k default) (poV r v w (Rat.divInt i 4))).num < 0) = false := by rw [QnG]; exact decide_eq_false (Rat.not_lt.2 pos)
  clear z1 z2 z3 z4 y1 y2 y3 y4 ep mf pos hr hv hw he hO
  generalize gpR (O.getD k default) (poV r v w (Rat.divInt i 4)) = gq at *
  generalize poV r v w (Rat.divInt i 4) = p at *
  generalize plV (tmV (Rat.divInt i 4) v) (tmV (Rat.divInt i 4 * Rat.divInt i 4 * Rat.divInt 1 2) w) = p3 at *
  generalize tmV (Rat.divInt i 4) v = p4 at *
  generalize tmV (Rat.divInt i 4 * Rat.divInt i 4 * Rat.divInt 1 2) w = p5 at *
  generalize Rat.divInt i 4 * Rat.divInt i 4 * Rat.divInt 1 2 = q1 at *
  generalize Rat.divInt i 4 * Rat.divInt i 4 = q2 at *
  generalize Rat.divInt i 4 = q3 at *
  generalize Rat.divInt 1 2 = q4 at *
  generalize Int.sign gq.num = sg at *
  generalize O.getD k default = e at *
  obtain ⟨⟨a1, b1, c1⟩, d1⟩ := e
  obtain ⟨rx, ry⟩ := r
  obtain ⟨vx, vy⟩ := v
  obtain ⟨wx, wy⟩ := w
  obtain ⟨px, py⟩ := p
  obtain ⟨px3, py3⟩ := p3
  obtain ⟨px4, py4⟩ := p4
  obtain ⟨px5, py5⟩ := p5
  simp only [encG, cG, encV, encR, iv, bv] at x2 o1 o2 m1 m2 t1 t2 p1 p2 g1 g2 g3
  simp -implicitDefEqProofs (maxSteps := 10000000) only [QaF, QkK, bxV, e1, e2, e3, ll, x1, x2, o1, o2, m1, m2, t1, t2, p1, p2, g1, g2, g3, tn, st4', QdR, st8k, ld8, Qaq, QaA, QbT, decide_true, decide_false, tupG, Qaa, go_sem, iv, bv, reduceCtorEq, ↓reduceIte, Nat.reduceEqDiff]
theorem gk_stop {O : List Eg} {x : List Pt} {r v w : Vc} {k : Int} : X G QaF (QkK O x r v w k ((5 : Nat) : Int)) = some (.x 0, QoG O x r v) := by
 have e1 : decide (((5 : Nat) : Int) ≤ 4) = false := decide_eq_false (by omega)
 simp -implicitDefEqProofs (maxSteps := 10000000) only [QaF, QkK, QoG, bxV, e1, Qaq, QaA, QbT, decide_true, decide_false, tupG, Qaa, go_sem, iv, bv, reduceCtorEq, ↓reduceIte, Nat.reduceEqDiff]
theorem gk_none {O : List Eg} {x : List Pt} {r v w : Vc} : X G QaF (QkK O x r v w (-1) 0) = some (.x 0, QoG O x r v) := by
 have e1 : decide ((0 : Int) ≤ 4) = true := rfl
 have e2 : decide ((-1 : Int) ≥ 0) = false := decide_eq_false (by omega)
 simp -implicitDefEqProofs (maxSteps := 10000000) only [QaF, QkK, QoG, bxV, e1, e2, Qaq, QaA, QbT, decide_true, decide_false, tupG, Qaa, go_sem, iv, bv, reduceCtorEq, ↓reduceIte, Nat.reduceEqDiff]
theorem gk_loop {O : List Eg} {x : List Pt} {r v w : Vc} (hO : ∀ e ∈ O, AtE e) (hn : O.length ≤ 1000) (hr : SzV 3 r) (hv : SzV 3 v) (hw : SzV 3 w) {k : Nat} (hk : k < O.length) (hS : staG (alP (O.getD k default) r v w) = true) : ∀ (j i : Nat), i + j = 5 →
    X G (.loop QaF) (QkK O x r v w k i) = some (.x 0, QoG O x r v)
  | 0, i, h => by
    have : i = 5 := by omega
    subst this
    rw [Qah, gk_stop]; rfl
  | j + 1, i, h => by
    rw [Qah, gk_go hO hn hr hv hw hk hS (by omega), Option.bind_some, if_pos rfl]
    exact gk_loop hO hn hr hv hw hk hS j (i + 1) (by omega)
theorem gk_all {O : List Eg} {x : List Pt} {r v w : Vc} (hO : ∀ e ∈ O, AtE e) (hn : O.length ≤ 1000) (hr : SzV 3 r) (hv : SzV 3 v) (hw : SzV 3 w) {k : Int} (hk : k = -1 ∨ ∃ n : Nat, n < O.length ∧ k = (n : Int) ∧ staG (alP (O.getD n default) r v w) = true) :
    X G (.loop QaF) (QkK O x r v w k 0) = some (.x 0, QoG O x r v) := by
  rcases hk with rfl | ⟨n, h1, rfl, h3⟩
  · have := gk_none (O := O) (x := x) (r := r) (v := v) (w := w)
    rw [Qah, this]; rfl
  · exact gk_loop hO hn hr hv hw h1 h3 5 0 (by omega)
theorem in_of {a b x : List Pt} (h : Hul a b x) (hO : ∀ e ∈ sdP a b, AtE e) {r : Vc} (hm : meG (sdP a b) r = true) : hsP x r = true := by
 rw [hul_in h]
 rw [QmX] at hm
 intro d hd
 have he : edP a b d ∈ sdP a b := by rw [sdP_uq]; exact List.mem_map.2 ⟨d, hd, rfl⟩
 have := hm _ he
 exact ((gp_le (hO _ he).1 r).1).1 (Rat.le_of_lt this)
theorem be_of {O : List Eg} {r v : Vc} : beG O r v = -1 ∨ ∃ k : Nat, k < O.length ∧ beG O r v = (k : Int) ∧ 0 ≤ gpR (O.getD k default) r := by
 unfold beG
 rcases QrI (fun e => (gpR e v, decide (0 ≤ gpR e r))) O O.length with ⟨h1, _⟩ | ⟨k, h1, h2, h3⟩
 ·exact .inl h1
 ·exact .inr ⟨k, h1, h2, of_decide_eq_true h3⟩
end Go.AM
namespace Go.Proofs.YtfdelaplhpmneaaGreat.Pure
open Go Go.AM
set_option maxHeartbeats 1000000 in
theorem GapKeeps (e0 : D) (l0 : List Int) (hd0 : Dg e0 l0) (hwf0 : ∀ n ∈ l0, (Lit.int .i64 n).wf = true) (hlen0 : l0.length * 8 ≤ 140737488351232) (e1 : D) (l1 : List Int) (hd1 : Dg e1 l1) (hwf1 : ∀ n ∈ l1, (Lit.int .i64 n).wf = true) (hlen1 : l1.length * 8 ≤ 140737488351232) (e2 : D) (l2 : List Int) (hd2 : Dg e2 l2) (hwf2 : ∀ n ∈ l2, (Lit.int .i64 n).wf = true) (hlen2 : l2.length * 8 ≤ 140737488351232) : Qaj G Qgp [e0, e1, e2] = some (.d (bv true)) := by
 have w2 : ∀ n ∈ l2, I64 n := fun n hn => Qgu (hwf2 n hn)
 have g0 := QeU (QfV hd0) (fun n hn => Qgu (hwf0 n hn))
 have g1 := QeU (QfV hd1) (fun n hn => Qgu (hwf1 n hn))
 have ga := QrT l0
 have gb := QrT l1
 obtain ⟨x, hx, hs⟩ := hul_sh l0 l1
 have ba : ∀ p ∈ spP l0, -40000000 ≤ p.1 ∧ p.1 ≤ 40000000 ∧ -40000000 ≤ p.2 ∧ p.2 ≤ 40000000 := fun p hp => by have := Qhb l0 p hp; omega
 have bb : ∀ p ∈ spP l1, -40000000 ≤ p.1 ∧ p.1 ≤ 40000000 ∧ -40000000 ≤ p.2 ∧ p.2 ≤ 40000000 := fun p hp => by have := Qhb l1 p hp; omega
 have la := (Qrr l0).1.hi
 have lb := (Qrr l1).1.hi
 have g2 := QkQ (da := rowE cP (spP l0)) (db := rowE cP (spP l1)) (.inr rfl) (.inr rfl) ga gb
 have g3 := QnW (da := rowE cP (spP l0)) (db := rowE cP (spP l1)) (.inr rfl) (.inr rfl) ba bb la lb ga.pos gb.pos hx.c
 have hsm : ∀ p ∈ x, SmP p := fun p hp => by have := hs p hp; simp only [SmP, Sm]; omega
 have a0 := Qc6 (i := 0) (m := 96) (QfV hd2) w2 (by omega)
 have a1 := Qc6 (i := 1) (m := 96) (QfV hd2) w2 (by omega)
 have a2 := Qc6 (i := 2) (m := 96) (QfV hd2) w2 (by omega)
 have a3 := Qc6 (i := 3) (m := 96) (QfV hd2) w2 (by omega)
 have a4 := Qc6 (i := 4) (m := 96) (QfV hd2) w2 (by omega)
 have a5 := Qc6 (i := 5) (m := 96) (QfV hd2) w2 (by omega)
 have v0 := Qgc (QiK l2 0) (QiK l2 1)
 have v1 := Qgc (QiK l2 2) (QiK l2 3)
 have v2 := Qgc (QiK l2 4) (QiK l2 5)
 have s0 := Qlb (atr l2 0 96) (atr l2 1 96)
 have s1 := Qlb (atr l2 2 96) (atr l2 3 96)
 have s2 := Qlb (atr l2 4 96) (atr l2 5 96)
 have hO := sdP_at ga gb
 have hn := Qp4 ga gb
 have hin := fun r hm => in_of hx hO (r := r) hm
 generalize (vcR (atr l2 0 96), vcR (atr l2 1 96)) = r at *
 generalize (vcR (atr l2 2 96), vcR (atr l2 3 96)) = v at *
 generalize (vcR (atr l2 4 96), vcR (atr l2 5 96)) = w at *
 have x3 := hx.three
 have x10 := hx.ten
 clear hx hs
 generalize sdP (spP l0) (spP l1) = O at *
 have f1 := QpD (d := rowE cG O) (O := O) (r := r) (v := v) (a := w) (.inr rfl) (by omega) (by omega) hO s0 s1 s2
 have f2 : fiE (fun e => staG (alP e r v w)) O O.length 0 = -1 ∨ ∃ n : Nat, n < O.length ∧ fiE (fun e => staG (alP e r v w)) O O.length 0 = (n : Int) ∧ staG (alP (O.getD n default) r v w) = true := by
  rcases fiE_at (fun e => staG (alP e r v w)) O O.length 0 (by omega) with ⟨h1, _⟩ | ⟨k, _, h2, h3, h4⟩
  ·exact .inl h1
  ·exact .inr ⟨k, h2, h3, h4⟩
 generalize fiE (fun e => staG (alP e r v w)) O O.length 0 = k at *
 have gl := gk_all (x := x) hO (by omega) s0 s1 s2 f2
 have kb : -1 ≤ k ∧ k < O.length := by rcases f2 with h | ⟨n, h1, h2, _⟩ <;> omega
 have t1 : decide (k ≥ (O.length : Int)) = false := decide_eq_false (by omega)
 have t2 : decide (k < -1) = false := lt_f (by omega)
 have t3 : decide ((x.length : Int) < 3) = false := lt_f (by omega)
 have m1 := QkJ (d := rowE cG O) (.inr rfl) (by omega) (by omega) hO s0
 have p1 := QeE (K := 30) (by omega) (s0.mono (by omega)) (s1.mono (by omega))
 have pz := QiQ s0 s1
 have b1 := Best_spec (d := rowE cG O) (K := 30) (.inr rfl) (by omega) (by omega) hO (s0.mono (by omega)) (pz.mono (by omega))
 have hb := meG_beG O r (plV r v)
 have bo := be_of (O := O) (r := r) (v := plV r v)
 have hh := QnU (d := rowE cP x) (K := 30) (.inr rfl) hsm x10 (by omega) (s0.mono (by omega))
 have hi2 := hin r
 have lx : lenA (.d (rowE cP x)) = some x.length := rfl
 have lO : lenA (.d (rowE cG O)) = some O.length := rfl
 have lv := QpT
 rw [Qae (cf := gantrylaw13_GapKeeps) rfl]
 clear f2 kb hin ga gb ba bb la lb x3 x10 hsm hn pz hd2 w2 hwf2 hlen2
 generalize hsP x r = hs at *
 generalize hm : meG O r = m at *
 rcases bo with bo | ⟨n, hn, bo, gp⟩
 ·rw [bo] at b1 hb
  have hb : m = true := by rw [hb]; rfl
  subst hb
  obtain rfl := hi2 rfl
  clear hm s0 s1 s2 hO
  generalize plV r v = pv at *
  obtain ⟨rx, ry⟩ := r
  obtain ⟨vx, vy⟩ := v
  obtain ⟨wx, wy⟩ := w
  obtain ⟨px, py⟩ := pv
  have t4 : ((-1 : Int) == -1) = true := rfl
  have t5 : decide ((-1 : Int) < 0) = true := rfl
  simp only [QkK, QoG, bxV, rowE, nc0, go_sem] at gl
  simp only [encV, rowE, iv, bv] at g0 g1 g2 g3 a0 a1 a2 a3 a4 a5 v0 v1 v2 lv f1 m1 p1 b1 hh lx lO
  simp -implicitDefEqProofs (maxSteps := 10000000) only [gantrylaw13_GapKeeps, gl, g0, g1, g2, g3, a0, a1, a2, a3, a4, a5, v0, v1, v2, lv, f1, m1, p1, b1, hh, t1, t2, t3, t4, t5, lx, lO, List.map_cons, List.map_nil, beq_self_eq_true, Bool.not_true, Bool.not_false, decide_true, decide_false, tupG, Qaa, st8k, ld8, Qaq, QaA, QbT, go_sem, iv, bv, reduceCtorEq, ↓reduceIte, Nat.reduceEqDiff]
 ·rw [bo] at b1 hb
  have hb : m = false := by rw [hb]; exact decide_eq_false (by omega)
  subst hb
  have he := hO _ (egm hn)
  have x1 := RwE.ixa (d := rowE cG O) (l := O) Qeb (.inr rfl) hn
  have x2 := fun hp => ldE Qeb hp hn
  have q1 := Qdq (K := 100) (by omega) he (s0.mono (by omega))
  have q2 := QaQ (gpR (O.getD n default) r)
  have t6 : decide (Int.sign (gpR (O.getD n default) r).num ≥ 0) = true := by rw [Qk5]; exact decide_eq_true gp
  have t4 : ((n : Int) == -1) = false := QdJ (by omega)
  have t5 : decide ((n : Int) < 0) = false := lt_f (by omega)
  have t7 : decide ((n : Int) < (O.length : Int)) = true := lt_t (by omega)
  clear hm s0 s1 s2 hO he gp bo hi2
  generalize gpR (O.getD n default) r = gq at *
  generalize Int.sign gq.num = sg at *
  generalize O.getD n default = e at *
  generalize plV r v = pv at *
  obtain ⟨⟨c1, c2, c3⟩, c4⟩ := e
  obtain ⟨rx, ry⟩ := r
  obtain ⟨vx, vy⟩ := v
  obtain ⟨wx, wy⟩ := w
  obtain ⟨px, py⟩ := pv
  simp only [QkK, QoG, bxV, rowE, nc0, go_sem] at gl
  simp only [encG, cG, encV, encR, rowE, iv, bv] at x1 x2 g0 g1 g2 g3 a0 a1 a2 a3 a4 a5 v0 v1 v2 lv f1 m1 p1 b1 hh lx lO q1 q2
  simp -implicitDefEqProofs (maxSteps := 10000000) only [gantrylaw13_GapKeeps, gl, g0, g1, g2, g3, a0, a1, a2, a3, a4, a5, v0, v1, v2, lv, f1, m1, p1, b1, hh, t1, t2, t3, t4, t5, t6, t7, x1, x2, q1, q2, lx, lO, List.map_cons, List.map_nil, beq_self_eq_true, Bool.not_true, Bool.not_false, decide_true, decide_false, tupG, Qaa, st8k, ld8, Qaq, QaA, QbT, go_sem, iv, bv, reduceCtorEq, ↓reduceIte, Nat.reduceEqDiff]
end Go.Proofs.YtfdelaplhpmneaaGreat.Pure

/- ref13.Touch: a point of the hull's boundary. -/
namespace Go.AM
open Go Go.RowKit
def ptV (p : Pt) : Vc := ((p.1 : Rat), (p.2 : Rat))
def miV (a b : Vc) : Vc := plV a (tmV (-1) b)
def tcI (n : Int) (L : Nat) : Nat := (n.tmod (L : Int)).natAbs
def tcV (x : List Pt) (n k : Int) : Vc := plV (ptV (x.getD (tcI n x.length) default)) (tmV (Rat.divInt (k.tmod 4).natAbs 4) (miV (ptV (nxP x (tcI n x.length))) (ptV (x.getD (tcI n x.length) default))))
theorem QmF (n : Int) {L : Nat} (h : 0 < L) : tcI n L < L := by
 unfold tcI
 rw [Int.natAbs_tmod]
 exact Nat.mod_lt _ (by omega)
theorem mnF_mem {l : List Pt} : ∀ i, i < l.length → mnF l i ∈ l
 | 0, h => by
  rw [mnF, List.getD_eq_getElem?_getD, List.getElem?_eq_getElem h]; exact List.getElem_mem h
 | i + 1, h => by
  rw [mnF]
  split
  ·rw [List.getD_eq_getElem?_getD, List.getElem?_eq_getElem h]; exact List.getElem_mem h
  ·exact mnF_mem i (by omega)
theorem hul_mem {a b x : List Pt} (h : Hul a b x) (ha : 0 < a.length) (hb : 0 < b.length) : ∀ p ∈ x, p ∈ suA a b := by
 have hn : 0 < (suA a b).length := by rw [QmZ]; exact Nat.mul_pos ha hb
 have hf := mnF_mem (l := suA a b) ((suA a b).length - 1) (by omega)
 exact Qnw (P := fun p => p ∈ suA a b) (fun p hp => hp) 17 _ _ (fun p hp => by rw [List.mem_singleton.1 hp]; exact hf) hf h.c
theorem mo_ge (d : Dr) {l : List Pt} {p : Pt} (h : p ∈ l) : dotI d p ≤ moP d l := by
 obtain ⟨i, hi, rfl⟩ := List.getElem_of_mem h
 have := mst_ge d l l.length i hi
 rwa [List.getD_eq_getElem?_getD, List.getElem?_eq_getElem hi] at this
theorem hul_le {a b x : List Pt} (h : Hul a b x) (ha : 0 < a.length) (hb : 0 < b.length) {p : Pt} (hp : p ∈ x) (d : Dr) : dotI d p ≤ moP d a + moP (tnD d) b := by
 have := hul_mem h ha hb p hp
 unfold suA at this
 obtain ⟨q, hq, h2⟩ := List.mem_flatMap.1 this
 unfold suR at h2
 obtain ⟨r, hr, rfl⟩ := List.mem_map.1 h2
 have h1 := mo_ge d hq
 have h3 := mo_ge (tnD d) hr
 unfold dotI tnD at *
 dsimp only at *
 rw [Int.mul_sub, Int.mul_sub]
 rw [Int.neg_mul, Int.neg_mul] at h3
 omega
theorem div4_tm (k : Int) : 0 ≤ Rat.divInt ((k.tmod 4).natAbs : Int) 4 ∧ Rat.divInt ((k.tmod 4).natAbs : Int) 4 ≤ 1 := by
 have : (k.tmod 4).natAbs < 4 := by
  have := QmF k (L := 4) (by omega)
  unfold tcI at this
  exact this
 exact div4_b (by omega)
theorem dot_tc {x : List Pt} (n k : Int) (d : Dr) : dotR d (tcV x n k) = (1 - Rat.divInt ((k.tmod 4).natAbs : Int) 4) * (dotI d (x.getD (tcI n x.length) default) : Rat) + Rat.divInt ((k.tmod 4).natAbs : Int) 4 * (dotI d (nxP x (tcI n x.length)) : Rat) := by
 unfold tcV dotR plV tmV miV plV tmV ptV dotI
 generalize x.getD (tcI n x.length) default = p
 generalize nxP x (tcI n x.length) = q
 generalize Rat.divInt ((k.tmod 4).natAbs : Int) 4 = s
 obtain ⟨p1, p2⟩ := p
 obtain ⟨q1, q2⟩ := q
 obtain ⟨d1, d2, d3⟩ := d
 dsimp only
 push_cast
 grind
theorem QpM {x : List Pt} {i : Nat} (h : i < x.length) : nxP x i ∈ x := by
 unfold nxP
 split
 ·rename_i h1
  rw [List.getD_eq_getElem?_getD, List.getElem?_eq_getElem h1]; exact List.getElem_mem h1
 ·rw [List.getD_eq_getElem?_getD, List.getElem?_eq_getElem (show 0 < x.length by omega)]; exact List.getElem_mem _
theorem ptm {l : List Pt} {i : Nat} (h : i < l.length) : l.getD i default ∈ l := by rw [List.getD_eq_getElem?_getD, List.getElem?_eq_getElem h]; exact List.getElem_mem h
theorem tc_on {a b x : List Pt} (h : Hul a b x) (ha : 0 < a.length) (hb : 0 < b.length) (hO : ∀ e ∈ sdP a b, AtE e) (n k : Int) :
    hsP x (tcV x n k) = true ∧ (∀ e ∈ sdP a b, gpR e (tcV x n k) ≤ 0) ∧ ∃ e ∈ sdP a b, gpR e (tcV x n k) = 0 := by
  have hi := QmF n (L := x.length) (by have := h.three; omega)
  obtain ⟨s0, s1⟩ := div4_tm k
  have hle : ∀ d : Dr, dotR d (tcV x n k) ≤ ((moP d a + moP (tnD d) b : Int) : Rat) := by
    intro d
    rw [dot_tc]
    have h1 : ((dotI d (x.getD (tcI n x.length) default) : Int) : Rat) ≤ ((moP d a + moP (tnD d) b : Int) : Rat) := Rat.intCast_le_intCast.2 (hul_le h ha hb (ptm hi) d)
    have h2 : ((dotI d (nxP x (tcI n x.length)) : Int) : Rat) ≤ ((moP d a + moP (tnD d) b : Int) : Rat) := Rat.intCast_le_intCast.2 (hul_le h ha hb (QpM hi) d)
    generalize Rat.divInt ((k.tmod 4).natAbs : Int) 4 = s at *
    generalize ((dotI d (x.getD (tcI n x.length) default) : Int) : Rat) = u at *
    generalize ((dotI d (nxP x (tcI n x.length)) : Int) : Rat) = v at *
    generalize ((moP d a + moP (tnD d) b : Int) : Rat) = w at *
    have k1 : 0 ≤ (1 - s) * (w - u) := Rat.mul_nonneg (by grind) (by grind)
    have k2 : 0 ≤ s * (w - v) := Rat.mul_nonneg s0 (by grind)
    grind
  refine ⟨(hul_in h).2 fun d _ => hle d, ?_, ?_⟩
  · intro e he
    have h0 := hO e he
    rw [sdP_uq] at he
    obtain ⟨d, hd, rfl⟩ := List.mem_map.1 he
    exact ((gp_le h0.1 _).1).2 (hle d)
  · obtain ⟨d, hd, ho⟩ := h.two _ hi
    have he : edP a b d ∈ sdP a b := by rw [sdP_uq]; exact List.mem_map.2 ⟨d, hd, rfl⟩
    refine ⟨_, he, ((gp_le (hO _ he).1 _).2).2 ?_⟩
    show dotR d (tcV x n k) = ((moP d a + moP (tnD d) b : Int) : Rat)
    unfold onE at ho
    dsimp only at ho
    generalize (if d.1 = 0 then (-(sdx x (tcI n x.length))).tdiv d.2.1 else (sdy x (tcI n x.length)).tdiv d.1) = t at ho
    simp only [Bool.and_eq_true, decide_eq_true_eq] at ho
    obtain ⟨⟨⟨_, h1⟩, h2⟩, h3⟩ := ho
    have h4 : dotI d (nxP x (tcI n x.length)) = dotI d (x.getD (tcI n x.length) default) := by
      unfold sdx at h2
      unfold sdy at h1
      unfold dotI
      generalize x.getD (tcI n x.length) default = p at *
      generalize nxP x (tcI n x.length) = q at *
      have e1 : q.1 = p.1 - t * d.2.1 := by omega
      have e2 : q.2 = p.2 + t * d.1 := by omega
      rw [e1, e2]
      grind
    rw [dot_tc, h4, h3]
    grind
theorem pt_sz {p : Pt} (h : -80 ≤ p.1 ∧ p.1 ≤ 80 ∧ -80 ≤ p.2 ∧ p.2 ≤ 80) : SzV 3 (ptV p) := ⟨Qdl ⟨by omega, by omega⟩, Qdl ⟨by omega, by omega⟩⟩
theorem tc_sz {x : List Pt} (hx : ∀ p ∈ x, -80 ≤ p.1 ∧ p.1 ≤ 80 ∧ -80 ≤ p.2 ∧ p.2 ≤ 80) (h0 : 0 < x.length) (n k : Int) : SzV 30 (tcV x n k) := by
 have hi := QmF n h0
 have z1 := pt_sz (hx _ (ptm hi))
 have z2 := pt_sz (hx _ (QpM hi))
 have i1 : I64 ((k.tmod 4).natAbs : Int) := ⟨by omega, by have := QmF k (L := 4) (by omega); unfold tcI at this; have e : ((4 : Nat) : Int) = 4 := rfl; rw [e] at this; omega⟩
 have z3 := QnM i1 i64_4
 have z4 : sz (-1) ≤ 3 := Qdl (n := -1) ⟨by omega, by omega⟩
 exact (QiQ z1 (Qh5 z3 (QiQ z2 (Qh5 z4 z1)))).mono (by omega)
variable [Its]
theorem Qsp {a b : Vc} {K : Nat} (hK : K ≤ 1000000) (hK1 : 3 ≤ K) (ha : SzV K a) (hb : SzV K b) : Qaj G Qe1 [encV a, encV b] = some (.d (encV (miV a b))) := by
 rw [Qae (cf := gantryref13_Minus) rfl]
 have i1 : I64 (-1) := ⟨by omega, by omega⟩
 have o1 := QbF i1 Qeg
 rw [QcR] at o1
 have z4 : sz (((-1 : Int)) : Rat) ≤ 3 := Qdl i1
 have g1 := QfI (k := (((-1 : Int)) : Rat)) (K := K) (by omega) (by omega) hb
 have g2 := QeE (K := K + K) (by omega) (ha.mono (by omega)) ((Qh5 (L := K) (by omega) hb).mono (Nat.le_refl _) : SzV (K + K) (tmV (((-1 : Int)) : Rat) b))
 have e : plV a (tmV (((-1 : Int)) : Rat) b) = miV a b := rfl
 rw [e] at g2
 generalize miV a b = r at *
 generalize tmV (((-1 : Int)) : Rat) b = t at *
 generalize (((-1 : Int)) : Rat) = q at *
 clear ha hb
 obtain ⟨a1, a2⟩ := a
 obtain ⟨b1, b2⟩ := b
 obtain ⟨r1, r2⟩ := r
 obtain ⟨t1, t2⟩ := t
 simp only [encV, encR, iv, bv] at o1 g1 g2
 simp -implicitDefEqProofs (maxSteps := 10000000) only [gantryref13_Minus, encV, st8k, ld8, QbT, o1, g1, g2, Qaq, QaA, Qaa, go_sem, iv, bv, reduceCtorEq, ↓reduceIte, Nat.reduceEqDiff]
set_option maxHeartbeats 1000000 in
theorem QrW        {da db : D} {x : List Pt} {n k : Int} (hn : I64 n) (hk : I64 k) (g : Qaj   G Qeq               [da, db] = some (.own 2 x.length (x.flatMap cP))) (hx : ∀ p ∈ x, -80 ≤ p.1 ∧ p.1 ≤ 80 ∧ -80 ≤ p.2 ∧ p.2 ≤ 80) (h0 : 0 < x.length) (h1 : x.length ≤ 1000) :
    Qaj G QeY [da, db, iv n, iv k] = some (.d (encV (tcV x n k))) := by
  rw [Qae (cf := gantryref13_Touch) rfl]
  have hi := QmF n h0
  have hj := QmF k (L := 4) (by omega)
  have b1 := hx _ (ptm hi)
  have b2 := hx _ (QpM hi)
  have z1 := pt_sz b1
  have z2 := pt_sz b2
  have i1 : I64 ((tcI k 4 : Nat) : Int) := ⟨by omega, by omega⟩
  have z3 := QnM i1 i64_4
  have o1 := QbF (n := (x.getD (tcI n x.length) default).1) (d := 1) ⟨by omega, by omega⟩ Qeg
  have o2 := QbF (n := (x.getD (tcI n x.length) default).2) (d := 1) ⟨by omega, by omega⟩ Qeg
  have o3 := QbF (n := (nxP x (tcI n x.length)).1) (d := 1) ⟨by omega, by omega⟩ Qeg
  have o4 := QbF (n := (nxP x (tcI n x.length)).2) (d := 1) ⟨by omega, by omega⟩ Qeg
  have o5 := QbF i1 i64_4
  rw [QcR] at o1 o2 o3 o4
  have g1 := Qsp (K := 3) (by omega) (by omega) z2 z1
  have z4 : sz (-1) ≤ 3 := Qdl (n := -1) ⟨by omega, by omega⟩
  have z5 : SzV 10 (miV (ptV (nxP x (tcI n x.length))) (ptV (x.getD (tcI n x.length) default))) := (QiQ z2 (Qh5 z4 z1)).mono (by omega)
  have g2 := QfI (k := Rat.divInt ((tcI k 4 : Nat) : Int) 4) (K := 10) (by omega) (by omega) z5
  have g3 := QeE (K := 20) (by omega) (z1.mono (by omega)) ((Qh5 z3 z5).mono (by omega))
  have e : plV (ptV (x.getD (tcI n x.length) default)) (tmV (Rat.divInt ((tcI k 4 : Nat) : Int) 4) (miV (ptV (nxP x (tcI n x.length))) (ptV (x.getD (tcI n x.length) default)))) = tcV x n k := rfl
  rw [e] at g3
  have g4 := QlI (d := rowE cP x) (l := x) (.inr rfl) hi (by omega)
  have x1 := RwE.ixa (d := rowE cP x) (l := x) QaJ (.inr rfl) hi
  have x2 := fun hp => ldF (en := cP) (i := 0) QaJ hp hi (by omega)
  have x3 := fun hp => ldF (en := cP) (i := 1) QaJ hp hi (by omega)
  have ll : lenA (.d (rowE cP x)) = some x.length := rfl
  have t1 : decide ((x.length : Int) > 0) = true := decide_eq_true (by omega)
  have t2 : ((x.length : Int) = 0) = False := eq_false (by omega)
  have t3 : ((4 : Int) = 0) = False := by simp
  obtain ⟨m, em⟩ : ∃ m, n.tmod (x.length : Int) = m := ⟨_, rfl⟩
  obtain ⟨m2, em2⟩ : ∃ m, k.tmod 4 = m := ⟨_, rfl⟩
  have ei : ((tcI n x.length : Nat) : Int) = (m.natAbs : Int) := by unfold tcI; rw [em]
  have ei2 : ((tcI k 4 : Nat) : Int) = (m2.natAbs : Int) := by unfold tcI; rw [show k.tmod ((4 : Nat) : Int) = m2 from em2]
  have hm : -1000 ≤ m ∧ m ≤ 1000 := by omega
  have hm2 : -1000 ≤ m2 ∧ m2 ≤ 1000 := by omega
  generalize tcV x n k = r at *
  clear e z1 z2 z3 z4 z5 b1 b2 hx i1 hi hj
  generalize tmV (Rat.divInt ((tcI k 4 : Nat) : Int) 4) (miV (ptV (nxP x (tcI n x.length))) (ptV (x.getD (tcI n x.length) default))) = w at *
  generalize miV (ptV (nxP x (tcI n x.length))) (ptV (x.getD (tcI n x.length) default)) = w2 at *
  unfold ptV at *
  generalize Rat.divInt ((tcI k 4 : Nat) : Int) 4 = s at *
  generalize nxP x (tcI n x.length) = q at *
  generalize x.getD (tcI n x.length) default = p at *
  generalize ((tcI n x.length : Nat) : Int) = ti at *
  generalize ((tcI k 4 : Nat) : Int) = tj at *
  obtain ⟨p1, p2⟩ := p
  obtain ⟨q1, q2⟩ := q
  dsimp only at *
  generalize (p1 : Rat) = rp1 at *
  generalize (p2 : Rat) = rp2 at *
  generalize (q1 : Rat) = rq1 at *
  generalize (q2 : Rat) = rq2 at *
  obtain ⟨r1, r2⟩ := r
  obtain ⟨w1, w2'⟩ := w
  obtain ⟨u1, u2⟩ := w2
  simp only [encP, cP, rowE, List.drop_zero, List.getElem?_cons_succ, List.getElem?_cons_zero, Option.map_some, encV, encR, iv, bv] at g x1 x2 x3 g1 g2 g3 g4 o1 o2 o3 o4 o5 ll
  by_cases c1 : m < 0
  · have d1 : decide (m < 0) = true := lt_t c1
    have n1 : w64 (0 - m) = ti := by rw [Qac (by omega) (by omega)]; omega
    by_cases c2 : m2 < 0
    · have d2 : decide (m2 < 0) = true := lt_t c2
      have n2 : w64 (0 - m2) = tj := by rw [Qac (by omega) (by omega)]; omega
      simp -implicitDefEqProofs (maxSteps := 10000000) only [gantryref13_Touch, g, x1, x2, x3, g1, g2, g3, g4, o1, o2, o3, o4, o5, ll, t1, t2, t3, em, em2, d1, d2, n1, n2, encV, List.drop_zero, QcG, Qbl, st2p, Qfc, Qfe, st8k, ld8, QbT, Qaq, QaA, Qaa, go_sem, iv, bv, reduceCtorEq, ↓reduceIte, Nat.reduceEqDiff]
    · have d2 : decide (m2 < 0) = false := lt_f (by omega)
      obtain rfl : m2 = tj := by omega
      simp -implicitDefEqProofs (maxSteps := 10000000) only [gantryref13_Touch, g, x1, x2, x3, g1, g2, g3, g4, o1, o2, o3, o4, o5, ll, t1, t2, t3, em, em2, d1, d2, n1, encV, List.drop_zero, QcG, Qbl, st2p, Qfc, Qfe, st8k, ld8, QbT, Qaq, QaA, Qaa, go_sem, iv, bv, reduceCtorEq, ↓reduceIte, Nat.reduceEqDiff]
  · have d1 : decide (m < 0) = false := lt_f (by omega)
    obtain rfl : m = ti := by omega
    by_cases c2 : m2 < 0
    · have d2 : decide (m2 < 0) = true := lt_t c2
      have n2 : w64 (0 - m2) = tj := by rw [Qac (by omega) (by omega)]; omega
      simp -implicitDefEqProofs (maxSteps := 10000000) only [gantryref13_Touch, g, x1, x2, x3, g1, g2, g3, g4, o1, o2, o3, o4, o5, ll, t1, t2, t3, em, em2, d1, d2, n2, encV, List.drop_zero, QcG, Qbl, st2p, Qfc, Qfe, st8k, ld8, QbT, Qaq, QaA, Qaa, go_sem, iv, bv, reduceCtorEq, ↓reduceIte, Nat.reduceEqDiff]
    · have d2 : decide (m2 < 0) = false := lt_f (by omega)
      obtain rfl : m2 = tj := by omega
      simp -implicitDefEqProofs (maxSteps := 10000000) only [gantryref13_Touch, g, x1, x2, x3, g1, g2, g3, g4, o1, o2, o3, o4, o5, ll, t1, t2, t3, em, em2, d1, d2, encV, List.drop_zero, QcG, Qbl, st2p, Qfc, Qfe, st8k, ld8, QbT, Qaq, QaA, Qaa, go_sem, iv, bv, reduceCtorEq, ↓reduceIte, Nat.reduceEqDiff]
end Go.AM

namespace Go.AM
open Go Go.RowKit
def Qnm (O : List Eg) (r v : Vc) (k : Int) (f : Bool) (i : Int) : St := mkS [(13, .d (rowE cG O)), (14, .ptr [14] 0), (15, .ptr [15] 0), (16, ai k), (17, ab f), (18, ai i)] [([14], bxV r), ([15], bxV v)]
def gt_en (O : List Eg) (r : Vc) (k : Int) (f : Bool) : St := mkS [(13, .d (rowE cG O)), (14, .ptr [14] 0), (16, ai k), (17, ab f)] [([14], bxV r)]
def opG (O : List Eg) (r v : Vc) : Nat → Bool
 | 0 => false
 | i + 1 => opG O r v i || (decide (gpR (O.getD i default) r = 0) && decide (0 < rtR (O.getD i default).1 v))
theorem opG_any {O : List Eg} {r v : Vc} (hle : ∀ e ∈ O, gpR e r ≤ 0) : ∀ i, i ≤ O.length → opG O r v i = (O.take i).any (opB r v)
 | 0, _ => rfl
 | i + 1, h => by
  have e : O.take (i + 1) = O.take i ++ [O.getD i default] := by
   rw [List.take_add_one, List.getD_eq_getElem?_getD, List.getElem?_eq_getElem (show i < O.length by omega)]; rfl
  rw [opG, opG_any hle i (by omega), e, List.any_append, List.any_cons, List.any_nil, Bool.or_false]
  congr 1
  unfold opB
  rw [decide_eq_false (Rat.not_lt.2 (hle _ (egm (show i < O.length by omega)))), Bool.false_or]
theorem gt_go {O : List Eg} {r v : Vc} {k : Int} {f : Bool} (hO : ∀ e ∈ O, AtE e) (hn : O.length ≤ 1000) (hr : SzV 30 r) (hv : SzV 3 v) {i : Nat} (hi : i < O.length) (hle : gpR (O.getD i default) r ≤ 0) :
    X G QaR (Qnm O r v k f i) = some (.n, Qnm O r v k (f || (decide (gpR (O.getD i default) r = 0) && decide (0 < rtR (O.getD i default).1 v))) ((i + 1 : Nat) : Int)) := by
  have e1 : decide ((i : Int) < (O.length : Int)) = true := lt_t (by omega)
  have e2 : w64 ((i : Int) + 1) = ((i + 1 : Nat) : Int) := by rw [Qac (by omega) (by omega)]; rfl
  have ll : lenA (.d (rowE cG O)) = some O.length := rfl
  have x1 := RwE.ixa (d := rowE cG O) (l := O) Qeb (.inr rfl) hi
  have x2 := fun hp => ldE Qeb hp hi
  have he := hO _ (egm hi)
  generalize O.getD i default = e at *
  have g1 := Qdq (by omega) he hr
  have g2 := QaQ (gpR e r)
  have g3 := Qix (by omega) he hv
  have g4 := QaQ (rtR e.1 v)
  have t1 : decide (Int.sign (gpR e r).num > 0) = false := by rw [QlN]; exact decide_eq_false (Rat.not_lt.2 hle)
  have t2 := Qky (x := gpR e r)
  have t3 := QlN (x := rtR e.1 v)
  generalize decide (gpR e r = 0) = b2 at *
  generalize decide (0 < rtR e.1 v) = b3 at *
  generalize rtR e.1 v = q2 at *
  clear hle
  generalize gpR e r = q at *
  generalize Int.sign q.num = s at *
  generalize Int.sign q2.num = s2 at *
  clear he hr hv hO
  obtain ⟨⟨a1, c1, d1⟩, f1⟩ := e
  obtain ⟨rx, ry⟩ := r
  obtain ⟨vx, vy⟩ := v
  simp only [encG, cG, encV, encR, iv, bv] at x2 g1 g2 g3 g4
  cases f
  · cases b2
    all_goals simp -implicitDefEqProofs (maxSteps := 10000000) only [QaR, Qnm, bxV, e1, e2, ll, x1, x2, g1, g2, g3, g4, t1, t2, t3, ld8, Qaq, QaA, QbT, decide_true, decide_false, tupG, Bool.false_or, Bool.true_and, Bool.false_and, Qaa, go_sem, iv, bv, reduceCtorEq, ↓reduceIte, Nat.reduceEqDiff]
  · simp -implicitDefEqProofs (maxSteps := 10000000) only [QaR, Qnm, bxV, e1, e2, ll, x1, x2, g1, g2, t1, ld8, Qaq, QaA, QbT, decide_true, decide_false, tupG, Bool.true_or, Qaa, go_sem, iv, bv, reduceCtorEq, ↓reduceIte, Nat.reduceEqDiff]
theorem gt_stop {O : List Eg} {r v : Vc} {k : Int} {f : Bool} : X G QaR (Qnm O r v k f O.length) = some (.x 0, gt_en O r k f) := by
 have e1 : decide ((O.length : Int) < (O.length : Int)) = false := lt_f (by omega)
 have ll : lenA (.d (rowE cG O)) = some O.length := rfl
 simp -implicitDefEqProofs (maxSteps := 10000000) only [QaR, Qnm, gt_en, bxV, e1, ll, Qaq, QaA, QbT, Qaa, go_sem, iv, bv, reduceCtorEq, ↓reduceIte, Nat.reduceEqDiff]
theorem gt_loop {O : List Eg} {r v : Vc} {k : Int} (hO : ∀ e ∈ O, AtE e) (hn : O.length ≤ 1000) (hr : SzV 30 r) (hv : SzV 3 v) (hle : ∀ e ∈ O, gpR e r ≤ 0) : ∀ (j i : Nat), i + j = O.length →
    X G (.loop QaR) (Qnm O r v k (opG O r v i) i) = some (.x 0, gt_en O r k (opG O r v O.length))
  | 0, i, h => by
    have : i = O.length := by omega
    subst this
    rw [Qah, gt_stop]; rfl
  | j + 1, i, h => by
    rw [Qah, gt_go hO hn hr hv (by omega) (hle _ (egm (by omega))), Option.bind_some, if_pos rfl]
    exact gt_loop hO hn hr hv hle j (i + 1) (by omega)
theorem fbT : (false == true) = false := rfl
theorem bfT : (false == false) = true := rfl
theorem bTf : (true == false) = false := rfl
theorem co_of {O : List Eg} {r v : Vc} (h0 : ∃ e ∈ O, gpR e r = 0) : (O.any (opB r v) = true ∧ coG O r v = -1) ∨ (O.any (opB r v) = false ∧ ∃ k : Nat, k < O.length ∧ coG O r v = (k : Int) ∧ gpR (O.getD k default) r = 0) := by
 unfold coG
 cases h : O.any (opB r v) with
 | true => exact .inl ⟨rfl, rfl⟩
 | false =>
  refine .inr ⟨rfl, ?_⟩
  rw [if_neg (by simp)]
  rcases QrI (fun e => (rtR e.1 v, decide (gpR e r = 0))) O O.length with ⟨h1, h2⟩ | ⟨k, h1, h2, h3⟩
  ·obtain ⟨e, he, hz⟩ := h0
   obtain ⟨i, hi, rfl⟩ := List.getElem_of_mem he
   have := h2 i hi
   rw [List.getD_eq_getElem?_getD, List.getElem?_eq_getElem hi, Option.getD_some, decide_eq_false_iff_not] at this
   exact absurd hz this
  ·exact ⟨k, h1, h2, of_decide_eq_true h3⟩
end Go.AM
namespace Go.Proofs.YtfdelaplhpmneaaGreat.Pure
open Go Go.AM
set_option maxHeartbeats 1000000 in
theorem GapTouches (e0 : D) (l0 : List Int) (hd0 : Dg e0 l0) (hwf0 : ∀ n ∈ l0, (Lit.int .i64 n).wf = true) (hlen0 : l0.length * 8 ≤ 140737488351232) (e1 : D) (l1 : List Int) (hd1 : Dg e1 l1) (hwf1 : ∀ n ∈ l1, (Lit.int .i64 n).wf = true) (hlen1 : l1.length * 8 ≤ 140737488351232) (a2 : Int) (w2 : (Lit.int .i64 a2).wf = true) (a3 : Int) (w3 : (Lit.int .i64 a3).wf = true) (e4 : D) (l4 : List Int) (hd4 : Dg e4 l4) (hwf4 : ∀ n ∈ l4, (Lit.int .i64 n).wf = true) (hlen4 : l4.length * 8 ≤ 140737488351232) : Qaj G QfL [e0, e1, iv a2, iv a3, e4] = some (.d (bv true)) := by
 have w4 : ∀ n ∈ l4, I64 n := fun n hn => Qgu (hwf4 n hn)
 have g0 := QeU (QfV hd0) (fun n hn => Qgu (hwf0 n hn))
 have g1 := QeU (QfV hd1) (fun n hn => Qgu (hwf1 n hn))
 have ga := QrT l0
 have gb := QrT l1
 obtain ⟨x, hx, hs⟩ := hul_sh l0 l1
 have ba : ∀ p ∈ spP l0, -40000000 ≤ p.1 ∧ p.1 ≤ 40000000 ∧ -40000000 ≤ p.2 ∧ p.2 ≤ 40000000 := fun p hp => by have := Qhb l0 p hp; omega
 have bb : ∀ p ∈ spP l1, -40000000 ≤ p.1 ∧ p.1 ≤ 40000000 ∧ -40000000 ≤ p.2 ∧ p.2 ≤ 40000000 := fun p hp => by have := Qhb l1 p hp; omega
 have la := (Qrr l0).1.hi
 have lb := (Qrr l1).1.hi
 have g2 := QkQ (da := rowE cP (spP l0)) (db := rowE cP (spP l1)) (.inr rfl) (.inr rfl) ga gb
 have g3 := QnW (da := rowE cP (spP l0)) (db := rowE cP (spP l1)) (.inr rfl) (.inr rfl) ba bb la lb ga.pos gb.pos hx.c
 have g4 := rSum_spec (da := rowE cP (spP l0)) (db := rowE cP (spP l1)) (.inr rfl) (.inr rfl) ba bb la lb ga.pos gb.pos hx.r hx.le
 have x3 := hx.three
 have g5 := QrW (Qgu w2) (Qgu w3) g4 hs (by omega) (by have := hx.ten; omega)
 have hsm : ∀ p ∈ x, SmP p := fun p hp => by have := hs p hp; simp only [SmP, Sm]; omega
 have a0 := Qc6 (i := 0) (m := 96) (QfV hd4) w4 (by omega)
 have a1 := Qc6 (i := 1) (m := 96) (QfV hd4) w4 (by omega)
 have v0 := Qgc (QiK l4 0) (QiK l4 1)
 have s0 := Qlb (atr l4 0 96) (atr l4 1 96)
 have hO := sdP_at ga gb
 have hn := Qp4 ga gb
 obtain ⟨hH, hle, hz⟩ := tc_on hx ga.pos gb.pos hO a2 a3
 have sr := tc_sz hs (by omega) a2 a3
 generalize (vcR (atr l4 0 96), vcR (atr l4 1 96)) = v at *
 generalize tcV x a2 a3 = r at *
 have x10 := hx.ten
 clear hx hs
 generalize sdP (spP l0) (spP l1) = O at *
 have m1 := QkJ (d := rowE cG O) (.inr rfl) (by omega) (by omega) hO sr
 have mf : meG O r = false := by
  rw [Bool.eq_false_iff]
  intro h
  rw [QmX] at h
  obtain ⟨e, he, h0⟩ := hz
  have := h e he
  rw [h0] at this
  exact absurd this Rat.lt_irrefl
 rw [mf] at m1
 have c1 := Cont_spec (d := rowE cG O) (K := 30) (.inr rfl) (by omega) (by omega) hO sr (s0.mono (by omega))
 have hh := QnU (d := rowE cP x) (K := 30) (.inr rfl) hsm x10 (by omega) sr
 rw [hH] at hh
 have co := co_of (v := v) hz
 have gl := gt_loop (k := coG O r v) hO (by omega) sr s0 hle O.length 0 (by omega)
 have eo := opG_any (v := v) hle O.length (Nat.le_refl _)
 rw [List.take_length] at eo
 rw [eo] at gl
 have eo0 : opG O r v 0 = false := rfl
 rw [eo0] at gl
 have lO : lenA (.d (rowE cG O)) = some O.length := rfl
 have lv := QpT
 rw [Qae (cf := gantrylaw13_GapTouches) rfl]
 clear eo eo0 mf hle hz hH g4 hsm x10 x3 ba bb la lb ga gb
 rcases co with ⟨h1, h2⟩ | ⟨h1, k, hk, h2, h3⟩
 ·rw [h2] at c1 gl
  rw [h1] at gl
  clear h1 h2 sr s0 hO
  have t1 : decide ((-1 : Int) ≥ (O.length : Int)) = false := decide_eq_false (by omega)
  have t2 : decide ((-1 : Int) < -1) = false := rfl
  have t3 : decide ((-1 : Int) ≥ 0) = false := rfl
  obtain ⟨rx, ry⟩ := r
  obtain ⟨vx, vy⟩ := v
  simp only [Qnm, gt_en, bxV, rowE, nc0, go_sem] at gl
  simp only [encV, rowE, iv, bv] at g0 g1 g2 g3 g5 a0 a1 v0 m1 c1 hh lv lO
  simp -implicitDefEqProofs (maxSteps := 10000000) only [gantrylaw13_GapTouches, gl, g0, g1, g2, g3, g5, a0, a1, v0, m1, c1, hh, lv, lO, t1, t2, t3, List.map_cons, List.map_nil, beq_self_eq_true, Bool.not_true, Bool.not_false, decide_true, decide_false, tupG, bfT, fbT, Qaa, st8k, ld8, Qaq, QaA, QbT, go_sem, iv, bv, reduceCtorEq, ↓reduceIte, Nat.reduceEqDiff]
 ·rw [h2] at c1 gl
  rw [h1] at gl
  have he := hO _ (egm hk)
  have x1 := RwE.ixa (d := rowE cG O) (l := O) Qeb (.inr rfl) hk
  have x2 := fun hp => ldE Qeb hp hk
  have q1 := Qdq (K := 100) (by omega) he (sr.mono (by omega))
  have q2 := QaQ (gpR (O.getD k default) r)
  have t6 : (Int.sign (gpR (O.getD k default) r).num != 0) = false := by
   have := Qky (x := gpR (O.getD k default) r)
   rw [decide_eq_true h3] at this
   rw [bne, this]; rfl
  clear h1 h2 h3 sr s0 hO he
  have t1 : decide ((k : Int) ≥ (O.length : Int)) = false := decide_eq_false (by omega)
  have t2 : decide ((k : Int) < -1) = false := lt_f (by omega)
  have t3 : decide ((k : Int) ≥ 0) = true := decide_eq_true (by omega)
  generalize gpR (O.getD k default) r = gq at *
  generalize Int.sign gq.num = sg at *
  generalize O.getD k default = e at *
  obtain ⟨⟨c1', c2', c3'⟩, c4'⟩ := e
  obtain ⟨rx, ry⟩ := r
  obtain ⟨vx, vy⟩ := v
  simp only [Qnm, gt_en, bxV, rowE, nc0, go_sem] at gl
  simp only [encG, cG, encV, encR, rowE, iv, bv] at g0 g1 g2 g3 g5 a0 a1 v0 m1 c1 hh lv lO x1 x2 q1 q2
  simp -implicitDefEqProofs (maxSteps := 10000000) only [gantrylaw13_GapTouches, gl, g0, g1, g2, g3, g5, a0, a1, v0, m1, c1, hh, lv, lO, t1, t2, t3, t6, x1, x2, q1, q2, List.map_cons, List.map_nil, beq_self_eq_true, Bool.not_true, Bool.not_false, decide_true, decide_false, tupG, bfT, fbT, bTf, Qaa, st8k, ld8, Qaq, QaA, QbT, go_sem, iv, bv, reduceCtorEq, ↓reduceIte, Nat.reduceEqDiff]
end Go.Proofs.YtfdelaplhpmneaaGreat.Pure

/- The row of GapTouches, out of its Pure. Printed by row.py. -/
namespace Go.Proofs.YtfdelaplhpmneaaGreat.gapTouches
open Go.ChangeShapes Go.WideShapes Go.ChangeAt Go.RowKit Go.AM
theorem own : ownKnob Tryz.prog.godebug = none := by kernel_rfl
theorem laidOut : laidOutB Tryz.prog = true := by kernel_rfl
set_option maxRecDepth 100000 in
theorem lifted (os : Os) (started : os.Started) (H : Type) (enc : TypeId × Value → H) :
    ReturnsInHanded {} Tryz.checked os 7 .any (Rows.gapTouchesSpec.pre6 enc Tryz.prog Tryz.f7 Rows.gapTouchesRow.domain false) (Rows.gapTouchesSpec.post enc Tryz.prog Tryz.f7 false true false false) := by
  refine returnsInHanded_of_change_sized (C := Tryz.checked) own started (by kernel_rfl) Tryz.func7
    (ChangeSpec.witness6 (enc := enc) (C := Tryz.checked) false ⟨#[], #[.slice none 0 0, .slice none 0 0, .int .i64 0, .int .i64 0, .slice none 0 0], []⟩ 8 (by kernel_rfl) (by kernel_rfl) (by kernel_rfl) (by kernel_rfl)) ?_
  intro W base args ds gs before hval0 hW hcnd hsz0 _
  have hsz : (DataW.weightsEach Tryz.prog (Tryz.f7.params.toList ++ Rows.gapTouchesSpec.plain.varTypes Tryz.prog) (ds ++ gs)).all (· ≤ reachBytes) = true := hsz0
  have hval : ∀ (j : Nat) t v, Tryz.f7.params[j]? = some t → args[j]? = some v → Value.okWide Tryz.prog W .any base t v := hval0
  have hW' := hW
  obtain ⟨p, q, hA0, hV, rfl, hfz, hnd⟩ := hW
  have hA : DataW.TrodAll enc Tryz.prog W 0 (fun _ => true) true Tryz.f7.params.toList args.toList ds p := hA0
  rw [Tryz.params7] at hA hval hsz
  obtain ⟨v0, vs0, d0, ds0, p0, q0, hargs, rfl, rfl, h0, r0⟩ := trodAll_cons hA
  obtain ⟨v1, vs1, d1, ds1, p1, q1, rfl, rfl, rfl, h1, r1⟩ := trodAll_cons r0
  obtain ⟨v2, vs2, d2, ds2, p2, q2, rfl, rfl, rfl, h2, r2⟩ := trodAll_cons r1
  obtain ⟨v3, vs3, d3, ds3, p3, q3, rfl, rfl, rfl, h3, r3⟩ := trodAll_cons r2
  obtain ⟨v4, vs4, d4, ds4, p4, q4, rfl, rfl, rfl, h4, r4⟩ := trodAll_cons r3
  obtain ⟨rfl, rfl, rfl⟩ := trodAll_nil r4
  obtain rfl : args = #[v0, v1, v2, v3, v4] := by cases args; simp_all
  obtain ⟨rfl, rfl⟩ := trodVars_none hV
  obtain ⟨a0, len0, cap0, rfl⟩ := okWide_slice Tryz.underlying22 (hval 0 22 v0 rfl rfl)
  have k0 := h0
  have lt0 : ∀ x ∈ p0, x.block < W.heap.size := by obtain ⟨m, hm⟩ := k0; exact DataW.trod_lt m _ _ _ hm
  obtain ⟨z0, w0, y0⟩ : ∃ zs, ((a0 = none ∧ len0 = 0 ∧ cap0 = 0 ∧ zs = []) ∨ ∃ x, a0 = some x ∧ len0 ≤ cap0 ∧ cap0 ≤ maxLen ∧ zs.length = cap0 ∧ (∀ i, i < zs.length → W.cell? (x.add i) = some (.int .i64 (zs.getD i 0))) ∧ ∀ n ∈ zs, (Lit.int .i64 n).wf = true) ∧ len0 * 8 ≤ 140737488351232 := by
    obtain ⟨fuel, hf⟩ := h0
    rcases open_ints Tryz.underlying22 Tryz.underlying3 (by kernel_rfl) hf with ⟨hcs, _⟩ | ⟨x, l, c, zs, hcs, _, hl, hm, hz, hx, hcell, hwz⟩
    · simp [Value.cells] at hcs
      obtain ⟨rfl, rfl, rfl⟩ := hcs
      exact ⟨[], .inl ⟨rfl, rfl, rfl, rfl⟩, by simp⟩
    · simp [Value.cells] at hcs
      obtain ⟨rfl, rfl, rfl⟩ := hcs
      refine ⟨zs, .inr ⟨_, rfl, hl, hm, by simpa using hz, hcell, hwz⟩, ?_⟩
      simp only [Prod.mk.injEq] at hx
      have hd := hx.1
      have z := sized_slice hsz (j := 0) (t := 22) rfl (by rw [hd]; rfl) Tryz.underlying22
      have hb : Tryz.prog.bytesOf 3 = 8 := by kernel_rfl
      rw [hb] at z
      have hr : reachBytes ≤ 140737488351232 := by decide
      have hz' : zs.length = cap0 := by simpa using hz
      simp only [lits, List.length_map, List.length_take, List.length_drop] at z
      omega
  obtain ⟨e0, l0, hd0, hrep0, hlen0, hwf0⟩ := Qps w0
  obtain ⟨a1, len1, cap1, rfl⟩ := okWide_slice Tryz.underlying22 (hval 1 22 v1 rfl rfl)
  have k1 := h1
  have lt1 : ∀ x ∈ p1, x.block < W.heap.size := by obtain ⟨m, hm⟩ := k1; exact DataW.trod_lt m _ _ _ hm
  obtain ⟨z1, w1, y1⟩ : ∃ zs, ((a1 = none ∧ len1 = 0 ∧ cap1 = 0 ∧ zs = []) ∨ ∃ x, a1 = some x ∧ len1 ≤ cap1 ∧ cap1 ≤ maxLen ∧ zs.length = cap1 ∧ (∀ i, i < zs.length → W.cell? (x.add i) = some (.int .i64 (zs.getD i 0))) ∧ ∀ n ∈ zs, (Lit.int .i64 n).wf = true) ∧ len1 * 8 ≤ 140737488351232 := by
    obtain ⟨fuel, hf⟩ := h1
    rcases open_ints Tryz.underlying22 Tryz.underlying3 (by kernel_rfl) hf with ⟨hcs, _⟩ | ⟨x, l, c, zs, hcs, _, hl, hm, hz, hx, hcell, hwz⟩
    · simp [Value.cells] at hcs
      obtain ⟨rfl, rfl, rfl⟩ := hcs
      exact ⟨[], .inl ⟨rfl, rfl, rfl, rfl⟩, by simp⟩
    · simp [Value.cells] at hcs
      obtain ⟨rfl, rfl, rfl⟩ := hcs
      refine ⟨zs, .inr ⟨_, rfl, hl, hm, by simpa using hz, hcell, hwz⟩, ?_⟩
      simp only [Prod.mk.injEq] at hx
      have hd := hx.1
      have z := sized_slice hsz (j := 1) (t := 22) rfl (by rw [hd]; rfl) Tryz.underlying22
      have hb : Tryz.prog.bytesOf 3 = 8 := by kernel_rfl
      rw [hb] at z
      have hr : reachBytes ≤ 140737488351232 := by decide
      have hz' : zs.length = cap1 := by simpa using hz
      simp only [lits, List.length_map, List.length_take, List.length_drop] at z
      omega
  obtain ⟨e1, l1, hd1, hrep1, hlen1, hwf1⟩ := Qps w1
  obtain ⟨a2, rfl, rfl, rfl, w2⟩ := open_int Tryz.underlying3 (hval 2 3 v2 rfl rfl) h2
  obtain ⟨a3, rfl, rfl, rfl, w3⟩ := open_int Tryz.underlying3 (hval 3 3 v3 rfl rfl) h3
  obtain ⟨a4, len4, cap4, rfl⟩ := okWide_slice Tryz.underlying22 (hval 4 22 v4 rfl rfl)
  have k4 := h4
  have lt4 : ∀ x ∈ p4, x.block < W.heap.size := by obtain ⟨m, hm⟩ := k4; exact DataW.trod_lt m _ _ _ hm
  obtain ⟨z4, w4, y4⟩ : ∃ zs, ((a4 = none ∧ len4 = 0 ∧ cap4 = 0 ∧ zs = []) ∨ ∃ x, a4 = some x ∧ len4 ≤ cap4 ∧ cap4 ≤ maxLen ∧ zs.length = cap4 ∧ (∀ i, i < zs.length → W.cell? (x.add i) = some (.int .i64 (zs.getD i 0))) ∧ ∀ n ∈ zs, (Lit.int .i64 n).wf = true) ∧ len4 * 8 ≤ 140737488351232 := by
    obtain ⟨fuel, hf⟩ := h4
    rcases open_ints Tryz.underlying22 Tryz.underlying3 (by kernel_rfl) hf with ⟨hcs, _⟩ | ⟨x, l, c, zs, hcs, _, hl, hm, hz, hx, hcell, hwz⟩
    · simp [Value.cells] at hcs
      obtain ⟨rfl, rfl, rfl⟩ := hcs
      exact ⟨[], .inl ⟨rfl, rfl, rfl, rfl⟩, by simp⟩
    · simp [Value.cells] at hcs
      obtain ⟨rfl, rfl, rfl⟩ := hcs
      refine ⟨zs, .inr ⟨_, rfl, hl, hm, by simpa using hz, hcell, hwz⟩, ?_⟩
      simp only [Prod.mk.injEq] at hx
      have hd := hx.1
      have z := sized_slice hsz (j := 4) (t := 22) rfl (by rw [hd]; rfl) Tryz.underlying22
      have hb : Tryz.prog.bytesOf 3 = 8 := by kernel_rfl
      rw [hb] at z
      have hr : reachBytes ≤ 140737488351232 := by decide
      have hz' : zs.length = cap4 := by simpa using hz
      simp only [lits, List.length_map, List.length_take, List.length_drop] at z
      omega
  obtain ⟨e4, l4, hd4, hrep4, hlen4, hwf4⟩ := Qps w4
  clear hA0 hval0 hsz0 hsz
  refine (law_walk envP (f := 7) (ds := [e0, e1, (iv a2), (iv a3), e4]) (vs := [.slice a0 len0 cap0, .slice a1 len1 cap1, .int .i64 a2, .int .i64 a3, .slice a4 len4 cap4]) (w := W) (Qod rfl W) (RepL.cons _ _ _ _ hrep0 (RepL.cons _ _ _ _ hrep1 (RepL.cons _ _ _ _ (RepD.v _) (RepL.cons _ _ _ _ (RepD.v _) (RepL.cons _ _ _ _ hrep4 RepL.nil))))) (Pure.GapTouches e0 l0 hd0 hwf0 (by rw [hlen0]; exact y0) e1 l1 hd1 hwf1 (by rw [hlen1]; exact y1) a2 w2 a3 w3 e4 l4 hd4 hwf4 (by rw [hlen4]; exact y4))).mono fun e W' ⟨he, bel⟩ => ?_
  subst he
  exact ⟨_, rfl, _, _, _, [], _, [], hW', trodAll_mk1 (shut_bool Tryz.underlying4 _), (trodAll_cons_mk (Below.trod laidOut (by kernel_rfl) (of_decide_eq_true (by kernel_rfl)) k0 bel lt0) (trodAll_cons_mk (Below.trod laidOut (by kernel_rfl) (of_decide_eq_true (by kernel_rfl)) k1 bel lt1) (trodAll_cons_mk (shut_int Tryz.underlying3 w2) (trodAll_cons_mk (shut_int Tryz.underlying3 w3) (trodAll_cons_mk (Below.trod laidOut (by kernel_rfl) (of_decide_eq_true (by kernel_rfl)) k4 bel lt4) trodAll_mk0))))), rfl, bel.frame _, fun h => by cases h⟩
theorem over : Rows.gapTouchesRow.holds Tryz.pinned (OpenSpec.ofChange Rows.gapTouchesSpec) :=
 OpenClaim.holds_of_wide 7 Tryz.f7 rfl rfl rfl rfl rfl rfl rfl ⟨rfl, rfl, rfl, rfl, rfl⟩ rfl rfl rfl rfl rfl (by kernel_rfl) Tryz.func7 (by kernel_rfl)
  (of_decide_eq_true (by kernel_rfl)) (by unfold Func.isWrapper; first | (rw [if_pos (by decide +kernel)]; kernel_rfl) | (rw [if_neg (by decide +kernel)]; exact ⟨rfl, rfl⟩))
  (fun os started H enc _ => lifted os started H enc)
theorem proved : Rows.GapTouchesSaid := over
end Go.Proofs.YtfdelaplhpmneaaGreat.gapTouches
namespace Go.Proofs.YtfdelaplhpmneaaGreat
theorem gapTouches_holds : Rows.GapTouchesSaid := gapTouches.proved
end Go.Proofs.YtfdelaplhpmneaaGreat


