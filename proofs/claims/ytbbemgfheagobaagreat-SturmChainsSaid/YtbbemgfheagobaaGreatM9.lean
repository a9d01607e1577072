/- Part 9 of the proof: a small machine, its soundness against the model, and what the program's functions compute on it. -/
import Derived.Test.YtbbemgfheagobaaGreatM8
import Derived.Test.YtbbemgfheagobaaGreatM7
import Derived.Test.YtbbemgfheagobaaGreatM3
set_option linter.unusedVariables false
set_option linter.unusedSimpArgs false
/- ref07: Changes, counted, Middle, halved. -/
namespace Go.AM
open Go Go.RowKit
def RwC (d : D) (ps : List (List Rat)) : Prop := ∃ ds : List D, ds.length = ps.length ∧ (∀ i, i < ps.length → RwR (ds.getD i (.z true)) (ps.getD i [])) ∧ (d = .row ds.length ds ∨ (d = .z true ∧ ds = []))
theorem RwC.len {d : D} {ps : List (List Rat)} (h : RwC d ps) : lenA (.d d) = some ps.length := by
 obtain ⟨ds, h1, _, rfl | ⟨rfl, rfl⟩⟩ := h
 ·rw [← h1]; rfl
 ·rw [← h1]; rfl
theorem RwC.nil : RwC (.z true) [] := ⟨[], rfl, fun i h => by simp at h, .inr ⟨rfl, rfl⟩⟩
theorem RwC.at {d : D} {ps : List (List Rat)} (h : RwC d ps) {i : Nat} (hi : i < ps.length) : ∃ x r, RwR x (ps.getD i []) ∧ (∀ hp, ixaA hp 1 (i : Int) (.d d) = some (.d (.rp r))) ∧ ∀ hp, Qcu hp none (.d (.rp r)) = some (.d x) := by
 obtain ⟨ds, h1, h2, rfl | ⟨rfl, rfl⟩⟩ := h
 ·refine ⟨ds.getD i (.z true), ds.drop i, h2 i hi, fun hp => ?_, fun hp => ?_⟩
  ·simp only [ixaA, guardO]
   rw [if_pos ⟨by omega, by omega⟩]
   simp
  ·rw [List.drop_eq_getElem_cons (show i < ds.length by omega)]
   simp only [Qcu, Qkq]
   rw [List.getD_eq_getElem?_getD, List.getElem?_eq_getElem (show i < ds.length by omega)]
   rfl
 ·rw [← h1] at hi; simp at hi
def sgn1 (p : List Rat) (x : Rat) : Int := Int.sign (evR p x).num
def sgs (ps : List (List Rat)) (x : Rat) : List Int := (ps.map fun p => sgn1 p x).filter fun s => decide (s ≠ 0)
def chN (S : List Int) : Nat → Nat
 | 0 => 0
 | i + 1 => chN S i + (if 1 ≤ i ∧ S.getD i 0 ≠ S.getD (i - 1) 0 then 1 else 0)
def chg (ps : List (List Rat)) (x : Rat) : Nat := chN (sgs ps x) (sgs ps x).length
def cnt (ps : List (List Rat)) (lo hi : Rat) : Int := if hi ≤ lo then 0 else (chg ps lo : Int) - (chg ps hi : Int)
def mid (lo hi : Rat) : Rat := (lo + hi) * Rat.divInt 1 2
def hal (ps : List (List Rat)) (l : Rat × Rat) : Rat × Rat := if cnt ps l.1 (mid l.1 l.2) = 1 then (l.1, mid l.1 l.2) else (mid l.1 l.2, l.2)
theorem QqR (ps : List (List Rat)) (x : Rat) {i : Nat} (hi : i < ps.length) : sgs (ps.take (i + 1)) x = if sgn1 (ps.getD i []) x ≠ 0 then sgs (ps.take i) x ++ [sgn1 (ps.getD i []) x] else sgs (ps.take i) x := by
 have e : ps.take (i + 1) = ps.take i ++ [ps.getD i []] := by
  rw [List.take_add_one, List.getD_eq_getElem?_getD, List.getElem?_eq_getElem hi]; rfl
 unfold sgs
 rw [e, List.map_append, List.filter_append, List.map_cons, List.map_nil]
 generalize ps.getD i [] = p
 by_cases h : sgn1 p x = 0
 ·rw [if_neg (by simp [h]), List.filter_cons_of_neg (by simp [h]), List.filter_nil, List.append_nil]
 ·rw [if_pos h, List.filter_cons_of_pos (by simp [h]), List.filter_nil]
theorem QoE (ps : List (List Rat)) (x : Rat) : (sgs ps x).length ≤ ps.length := by
 unfold sgs
 exact Nat.le_trans (List.length_filter_le _ _) (by simp)
theorem Qo2 (S : List Int) : ∀ i, chN S i ≤ i
 | 0 => Nat.le_refl _
 | i + 1 => by
  rw [chN]
  have := Qo2 S i
  split <;> omega
theorem Qql {lo hi : Rat} {K L : Nat} (h1 : sz lo ≤ K) (h2 : sz hi ≤ L) : sz (mid lo hi) ≤ K + L + 5 := by
 unfold mid
 have z1 := Qky (a := lo) (b := hi)
 have z2 := QgQ (a := lo + hi) (b := Rat.divInt 1 2)
 have z3 := sz_of (n := 1) (d := 2) ⟨by omega, by omega⟩ ⟨by omega, by omega⟩
 omega
def QkP (d : D) (x : Rat) (S : List Int) (i : Int) : St := mkS [(0, .d d), (3, .ptr [3] 0), (5, gA 28 S), (6, ai i)] (([3], boxR x) :: gH 28 S)
def Qr7 (S : List Int) : St := mkS [(5, gA 28 S)] (gH 28 S)
def Qlr (S : List Int) (n i : Int) : St := mkS [(5, gA 28 S), (8, ai n), (9, ai i)] (gH 28 S)
theorem ldI1 {S : List Int} {i : Nat} (h : i < S.length) : Qab none i (Qbr S) = some (.d (.v (.int .i64 (S.getD i 0)))) := by
 show (Qbr S)[i]? = _
 unfold Qbr
 rw [List.getElem?_map, List.getElem?_eq_getElem h, List.getD_eq_getElem?_getD, List.getElem?_eq_getElem h]
 rfl
theorem st4q (a b c d i j k l : A) : Qac 0 [a, b, c, d] [i, j, k, l] = some [a, b, c, d] := rfl
theorem ld4q (a b c d : D) : Qab (some 4) 0 [.d a, .d b, .d c, .d d] = some (.d (.agg [a, b, c, d])) := rfl
variable [Its]
section
variable {d : D} {ps : List (List Rat)} {x : Rat} {K : Nat}
theorem c7_stop (hr : RwC d ps) {S : List Int} : X G Qaw (QkP d x S ps.length) = some (.x 0, Qr7 S) := by
 have e1 : decide ((ps.length : Int) < (ps.length : Int)) = false := lt_f (by omega)
 have ll := hr.len
 by_cases hS0 : S = []
 ·subst hS0
  simp -implicitDefEqProofs (maxSteps:=9^8) only [Qaw, QkP, Qr7, boxR, QdP, QdL, Qaa, ll, e1, go_sem, iv, bv, reduceCtorEq, ↓reduceIte, Nat.reduceEqDiff]
 ·simp -implicitDefEqProofs (maxSteps:=9^8) only [Qaw, QkP, Qr7, boxR, Qg2 hS0, QgU hS0, arrI, Qal, Qaa, ll, e1, go_sem, iv, bv, reduceCtorEq, ↓reduceIte, Nat.reduceEqDiff]
theorem n7_go {S : List Int} (hS : S.length ≤ 1000) {n : Nat} (hn : n ≤ 1000) {i : Nat} (h1 : 1 ≤ i) (hi : i < S.length) : X G QaD (Qlr S n i) = some (.n, Qlr S ((n + (if 1 ≤ i ∧ S.getD i 0 ≠ S.getD (i - 1) 0 then 1 else 0) : Nat) : Int) ((i + 1 : Nat) : Int)) := by
 have hS0 : S ≠ [] := fun h => by rw [h] at hi; simp at hi
 have e1 : decide ((i : Int) < (S.length : Int)) = true := lt_t (by omega)
 have e2 : w64 ((i : Int) + 1) = ((i + 1 : Nat) : Int) := by rw [Qae (by omega) (by omega)]; rfl
 have e3 : w64 ((i : Int) - 1) = ((i - 1 : Nat) : Int) := by rw [Qae (by omega) (by omega)]; omega
 have e4 : w64 ((n : Int) + 1) = ((n + 1 : Nat) : Int) := by rw [Qae (by omega) (by omega)]; rfl
 have b1 : (0 ≤ (i : Int)) = True := eq_true (by omega)
 have b2 : ((i : Int) < (S.length : Int)) = True := eq_true (by omega)
 have b3 : (0 ≤ ((i - 1 : Nat) : Int)) = True := eq_true (by omega)
 have b4 : (((i - 1 : Nat) : Int) < (S.length : Int)) = True := eq_true (by omega)
 have x1 := ldI1 (S := S) hi
 have x2 := ldI1 (S := S) (i := i - 1) (by omega)
 generalize S.getD i 0 = u at *
 generalize S.getD (i - 1) 0 = v at *
 by_cases h : u = v
 ·have t : (u != v) = false := QoM h
  rw [if_neg (by simp [h])]
  simp -implicitDefEqProofs (maxSteps:=9^8) only [QaD, Qlr, Qg2 hS0, QgU hS0, arrI, Qal, Qaa, x1, x2, t, e1, e2, e3, b1, b2, b3, b4, Nat.mul_one, Nat.add_zero, Int.toNat_natCast, go_sem, iv, bv, reduceCtorEq, ↓reduceIte, Nat.reduceEqDiff]
 ·have t : (u != v) = true := QpI h
  rw [if_pos ⟨h1, h⟩]
  simp -implicitDefEqProofs (maxSteps:=9^8) only [QaD, Qlr, Qg2 hS0, QgU hS0, arrI, Qal, Qaa, x1, x2, t, e1, e2, e3, e4, b1, b2, b3, b4, Nat.mul_one, Int.toNat_natCast, go_sem, iv, bv, reduceCtorEq, ↓reduceIte, Nat.reduceEqDiff]
theorem n7_stop {S : List Int} {n i : Int} (h : (S.length : Int) ≤ i) : X G QaD (Qlr S n i) = some (.x 2, mkS [(8, ai n)] []) := by
 have e1 : decide (i < (S.length : Int)) = false := lt_f (by omega)
 by_cases hS0 : S = []
 ·subst hS0
  have e1 : decide (i < 0) = false := e1
  simp -implicitDefEqProofs (maxSteps:=9^8) only [QaD, Qlr, QdP, QdL, Qaa, e1, go_sem, iv, bv, reduceCtorEq, ↓reduceIte, Nat.reduceEqDiff]
 ·simp -implicitDefEqProofs (maxSteps:=9^8) only [QaD, Qlr, Qg2 hS0, QgU hS0, arrI, Qal, Qaa, e1, go_sem, iv, bv, reduceCtorEq, ↓reduceIte, Nat.reduceEqDiff]
theorem n7_loop {S : List Int} (hS : S.length ≤ 1000) : ∀ (j i : Nat), 1 ≤ i → i + j = S.length → X G (.loop QaD) (Qlr S (chN S i) i) = some (.x 2, mkS [(8, ai (chN S S.length))] [])
 | 0, i, h1, h => by
  have : i = S.length := by omega
  subst this
  rw [Qah, n7_stop (Int.le_refl _)]; rfl
 | j + 1, i, h1, h => by
  have := Qo2 S i
  rw [Qah, n7_go hS (by omega) h1 (by omega), Option.bind_some, if_pos rfl]
  exact n7_loop hS j (i + 1) (by omega) (by omega)
end
end Go.AM

/- ref07: halved, within (of at most one), Chain. -/
namespace Go.AM
open Go Go.RowKit
def c2R (l : Rat × Rat) : List D := [.v (.bool (decide (l.1.num < 0))), dg (digs l.1.num.natAbs), .v (.bool false), dg (dd l.1.den), .v (.bool (decide (l.2.num < 0))), dg (digs l.2.num.natAbs), .v (.bool false), dg (dd l.2.den)]
def enc2 (l : Rat × Rat) : D := .agg (c2R l)
theorem st8q (a b c d e f g h i j k l m n o p : A) : Qac 0 [a, b, c, d, e, f, g, h] [i, j, k, l, m, n, o, p] = some [a, b, c, d, e, f, g, h] := rfl
theorem ld8q (a b c d e f g h : D) : Qab (some 8) 0 [.d a, .d b, .d c, .d d, .d e, .d f, .d g, .d h] = some (.d (.agg [a, b, c, d, e, f, g, h])) := rfl
theorem Qr4 (a b c d e f g h : D) : Qab (some 4) 0 [.d a, .d b, .d c, .d d, .d e, .d f, .d g, .d h] = some (.d (.agg [a, b, c, d])) := rfl
theorem Qsu (a b c d e f g h : D) : Qab (some 4) 4 [.d a, .d b, .d c, .d d, .d e, .d f, .d g, .d h] = some (.d (.agg [e, f, g, h])) := rfl
theorem RwR.one {d : D} {l : List Rat} (h : RwR d l) : A.one (.d d) = true := by rcases h with ⟨rfl, _⟩ | rfl <;> rfl
theorem RwR.cells {d : D} {l : List Rat} (h : RwR d l) : Qaz (.d d) = [.d d] := by rcases h with ⟨rfl, _⟩ | rfl <;> rfl
theorem RwR.dc {d : D} {l : List Rat} (h : RwR d l) : d.one = true := by rcases h with ⟨rfl, _⟩ | rfl <;> rfl
theorem RwR.dcl {d : D} {l : List Rat} (h : RwR d l) : Qcm (.d d) = some [d] := by rcases h with ⟨rfl, _⟩ | rfl <;> rfl
noncomputable def chL : Nat → List Rat → List Rat → List (List Rat)
 | 0, _, _ => []
 | n + 1, a, b => if b = [] then [] else b :: chL n b (scP (remP a b) (-1))
noncomputable def chP (p : List Rat) : List (List Rat) := if p = [] then [] else frP p :: chL p.length (frP p) (deP (frP p))
def ChOk (K : Nat) : Nat → List Rat → List Rat → Prop
 | 0, _, b => b = []
 | n + 1, a, b => b = [] ∨ (Trm b ∧ b.length ≤ 90 ∧ HL K K b ∧ SzL K b ∧ dvG K b (dvN a b) a ∧ SzL K (remP a b) ∧ ChOk K n b (scP (remP a b) (-1)))
def Dls (ds : List D) (ps : List (List Rat)) : Prop := ds.length = ps.length ∧ ∀ i, i < ps.length → RwR (ds.getD i (.z true)) (ps.getD i [])
theorem Dls.nil : Dls [] [] := ⟨rfl, fun i h => by simp at h⟩
theorem Dls.cons {d : D} {p : List Rat} {ds : List D} {ps : List (List Rat)} (h : RwR d p) (H : Dls ds ps) : Dls (d :: ds) (p :: ps) := by
 refine ⟨by simp [H.1], fun i hi => ?_⟩
 cases i with
 | zero => exact h
 | succ i => simpa using H.2 i (by simpa using hi)
theorem Dls.rwc {ds : List D} {ps : List (List Rat)} (h : Dls ds ps) : RwC (.row ds.length ds) ps := ⟨ds, h.1, h.2, .inl rfl⟩
def QpG (da db : D) (ds : List D) : St := mkS [(3, .d da), (4, .own [14] ds.length), (5, .d db)] [([14], ⟨1, ds.length, ds.map .d, false⟩)]
def h7_en (ds : List D) : St := mkS [(4, .own [14] ds.length)] [([14], ⟨1, ds.length, ds.map .d, false⟩)]
theorem QiZ (ks : List Key) : ∀ ds : List D, Qdi ks (ds.map A.d) = true
 | [] => rfl
 | x :: r => by rw [List.map_cons, Qdi, QiZ ks r]; rfl
theorem i64_m1 : I64 (-1) := ⟨by omega, by omega⟩
theorem sz_m1 : sz (-1) ≤ 3 := Qmk (n := -1) i64_m1
variable [Its]
section
variable {d : D} {ps : List (List Rat)} {K : Nat}
theorem h7_go {da db : D} {a b : List Rat} {ds : List D} (ha : RwR da a) (hb : RwR db b) (ta : Trm a) (tb : Trm b) (na : a.length ≤ 90) (hne : b ≠ []) (nb : b.length ≤ 90) (Hb : HL K K b) (sb : SzL K b) (hg : dvG K b (dvN a b) a) (sr : SzL K (remP a b)) (hK1 : 3 ≤ K) (hK : K ≤ 200000000) (hd0 : 0 < ds.length) (hds : ds.length ≤ 1000) :
    ∃ d', RwR d' (scP (remP a b) (-1)) ∧ X G Qbx (QpG da db ds) = some (.n, QpG db d' (ds ++ [db])) := by
  obtain ⟨d1, d2, h1, h2, g1⟩ := Qj9 ha hb ta tb na Hb sb (by omega) hK hK hK hg
  have o1 := Qdc i64_m1 (d := 1) ⟨by omega, by omega⟩
  rw [Qci, show (((-1 : Int)) : Rat) = -1 from rfl] at o1
  obtain ⟨d', h3, g2⟩ := QhN (a := -1) h2 sr (Nat.le_trans sz_m1 hK1) (by omega) (by omega) (by have := Qhl a b; omega)
  refine ⟨d', h3, ?_⟩
  have lb := hb.len
  have e1 : decide ((b.length : Int) > 0) = true := decide_eq_true (by have := List.length_pos_iff.2 hne; omega)
  have k1 := hb.one
  have k2 := hb.dcl
  have k3 := hb.dc
  have n4 : ((ds.length + 1) * 24 ≤ bound) = True := eq_true (by unfold bound; omega)
  have n5 : (ds ++ [db]).length = ds.length + 1 := by simp
  have n6 : (ds.map A.d) ++ [A.d db] = (ds ++ [db]).map A.d := by simp
  have r1 : rep 1 [db] = [db] := rfl
  generalize (-1 : Rat) = m1 at *
  clear h1 h2 h3 hg sr Hb sb ta tb ha hb
  simp only [encR, iv] at o1 g1 g2
  simp -implicitDefEqProofs (maxSteps:=9^8) only [Qbx, QpG, lb, e1, k1, k2, k3, n4, n5, n6, r1, o1, g1, g2, QiZ, List.length_map, Nat.mul_one, srcS, src, allD, QeP, Qcn, List.all_cons, List.all_nil, Bool.and_self, Qaa, go_sem, iv, bv, reduceCtorEq, ↓reduceIte, Nat.reduceEqDiff]
theorem h7_stop {da db : D} {ds : List D} (hb : RwR db []) : X G Qbx (QpG da db ds) = some (.x 0, h7_en ds) := by
 have lb := hb.len
 simp only [List.length_nil] at lb
 have e1 : decide ((0 : Int) > 0) = false := rfl
 simp -implicitDefEqProofs (maxSteps:=9^8) only [Qbx, QpG, h7_en, lb, e1, QiZ, Qaa, go_sem, iv, bv, reduceCtorEq, ↓reduceIte, Nat.reduceEqDiff]
theorem h7_loop (hK1 : 3 ≤ K) (hK : K ≤ 200000000) : ∀ (n : Nat) (a b : List Rat) (da db : D) (ds : List D), RwR da a → RwR db b → Trm a → a.length ≤ 90 → ChOk K n a b → 0 < ds.length → ds.length + n ≤ 1000 →
    ∃ es, Dls es (chL n a b) ∧ X G (.loop Qbx) (QpG da db ds) = some (.x 0, h7_en (ds ++ es))
  | 0, a, b, da, db, ds, ha, hb, ta, na, hc, h0, hl => by
    have hc : b = [] := hc
    subst hc
    exact ⟨[], Dls.nil, by rw [Qah, h7_stop hb, List.append_nil]; rfl⟩
  | n + 1, a, b, da, db, ds, ha, hb, ta, na, hc, h0, hl => by
    by_cases hb0 : b = []
    · subst hb0
      rw [chL, if_pos rfl]
      exact ⟨[], Dls.nil, by rw [Qah, h7_stop hb, List.append_nil]; rfl⟩
    · rcases hc with hc | ⟨c1, c2, c3, c4, c5, c6, c7⟩
      · exact absurd hc hb0
      · obtain ⟨d', h', hx⟩ := h7_go ha hb ta c1 na hb0 c2 c3 c4 c5 c6 hK1 hK h0 (ds := ds) (by omega)
        obtain ⟨es, he, hl2⟩ := h7_loop hK1 hK n b _ db d' (ds ++ [db]) hb h' c1 c2 c7 (by simp) (by rw [List.length_append, List.length_singleton]; omega)
        refine ⟨db :: es, ?_, ?_⟩
        · rw [chL, if_neg hb0]
          exact Dls.cons hb he
        · rw [Qah, hx, Option.bind_some, if_pos rfl, hl2, List.append_assoc]; rfl
theorem QpC         {dp : D} {p : List Rat} (hp : RwR dp p) (hp0 : p ≠ []) (np : p.length ≤ 90) (hF : ∃ d', RwR d' (frP p) ∧ Qai   G Qem                [dp] = some (.d d')) (tf : Trm (frP p)) (nf : (frP p).length ≤ 90) (sf : SzL K (frP p)) (hc : ChOk K p.length (frP p) (deP (frP p))) (hK1 : 3 ≤ K) (hK : K ≤ 200000000) :
    ∃ ds, Dls ds (chP p) ∧ Qai G QcL [dp] = some (.own 1 ds.length ds) := by
  rw [Qad (cf := QcC) rfl]
  obtain ⟨da, ha, g1⟩ := hF
  obtain ⟨db, hb, g2⟩ := Qjq ha sf (by omega) (by omega) (by omega)
  obtain ⟨es, he, g3⟩ := h7_loop hK1 hK p.length (frP p) (deP (frP p)) da db [da] ha hb tf nf hc (by simp) (by simp; omega)
  refine ⟨da :: es, ?_, ?_⟩
  · unfold chP
    rw [if_neg hp0]
    exact Dls.cons ha he
  · have lp := hp.len
    have e1 : ((p.length : Int) == 0) = false := QcG (by have := List.length_pos_iff.2 hp0; omega)
    have k1 := ha.one
    have k2 := ha.dcl
    have k3 := ha.dc
    have n5 : ([da] ++ es).length = es.length + 1 := by simp
    have n6 : ([da] ++ es) = da :: es := rfl
    have r1 : rep 1 [da] = [da] := rfl
    have n7 : allD (es.map A.d) = some es := Qd1 _
    have n8 : (24 ≤ bound) = True := eq_true (by unfold bound; omega)
    have n9 : (1 * 24 ≤ bound) = True := eq_true (by unfold bound; omega)
    rw [n6] at g3
    simp only [QpG, h7_en, List.length_singleton, List.length_cons, List.map_cons, List.map_nil, go_sem] at g3
    clear he hc tf nf sf ha hb hp
    simp -implicitDefEqProofs (maxSteps:=9^8) only [QcC, lp, e1, g1, g2, g3, k1, k2, k3, r1, n7, n8, n9, QiZ, Qdi, List.length_map, List.length_cons, List.map_cons, List.map_nil, Nat.mul_one, srcS, src, allD, QeP, Qcn, List.all_cons, List.all_nil, Bool.and_self, Qaa, go_sem, iv, bv, reduceCtorEq, ↓reduceIte, Nat.reduceEqDiff]
end
end Go.AM

/- Comparisons of rationals, as decisions. -/
namespace Go.AM
open Go Go.RowKit
theorem cmpR_ge {a b : Rat} : decide (cmpR a b ≥ 0) = decide (b ≤ a) := by
 have h := cmpR_lt (a := a) (b := b)
 rw [Bool.eq_iff_iff, decide_eq_true_iff, decide_eq_true_iff]
 constructor
 ·intro h1
  exact Rat.not_lt.1 fun h2 => by have := h.2 h2; omega
 ·intro h1
  exact Int.not_lt.1 fun h2 => Rat.not_lt.2 h1 (h.1 h2)
theorem QnC {a b : Rat} : decide (cmpR a b > 0) = decide (b < a) := by
 have h := cmpR_le (a := a) (b := b)
 rw [Bool.eq_iff_iff, decide_eq_true_iff, decide_eq_true_iff]
 constructor
 ·intro h1
  exact Rat.not_le.1 fun h2 => by have := h.2 h2; omega
 ·intro h1
  exact Int.not_le.1 fun h2 => Rat.not_le.2 h1 (h.1 h2)
end Go.AM

/- sturm: next, Chain, Changes, counted, Count, middle. -/
namespace Go.AM
open Go Go.RowKit
theorem dvG_nil {K : Nat} {R : List Rat} (h : SzL K R) : ∀ n, dvG K [] n R
 | 0 => trivial
 | n + 1 => ⟨h, by
  have e : dvI R [] n (dvF R [] n) ([] : List Rat).length = R := rfl
  rw [e]
  exact dvG_nil h n⟩
theorem rem_nil (a : List Rat) : remP a [] = [] := if_pos rfl
noncomputable def chM : Nat → List Rat → List Rat → List (List Rat)
 | 0, _, _ => []
 | n + 1, a, b => if a = [] then [] else a :: chM n b (scP (remP a b) (-1))
theorem chM_L : ∀ (n : Nat) (a b : List Rat), chM (n + 1) a b = if a = [] then [] else a :: chL n a b
 | 0, a, b => rfl
 | n + 1, a, b => by
  rw [chM, chM_L n b, chL]
def Qop (da db : D) (ds : List D) : St := mkS [(3, if ds = [] then .d (.z true) else .own [20] ds.length), (4, .d da), (5, .d db)] (if ds = [] then [] else [([20], ⟨1, ds.length, ds.map .d, false⟩)])
def Qsw (ds : List D) : St := mkS [(3, if ds = [] then .d (.z true) else .own [20] ds.length)] (if ds = [] then [] else [([20], ⟨1, ds.length, ds.map .d, false⟩)])
theorem QrA (da db : D) : Qop da db [] = mkS [(3, .d (.z true)), (4, .d da), (5, .d db)] [] := rfl
theorem o7_ne (da db : D) {ds : List D} (h : ds ≠ []) : Qop da db ds = mkS [(3, .own [20] ds.length), (4, .d da), (5, .d db)] [([20], ⟨1, ds.length, ds.map .d, false⟩)] := by
 unfold Qop
 rw [if_neg h, if_neg h]
theorem Qoq : Qsw [] = mkS [(3, .d (.z true))] [] := rfl
theorem Qrr {ds : List D} (h : ds ≠ []) : Qsw ds = mkS [(3, .own [20] ds.length)] [([20], ⟨1, ds.length, ds.map .d, false⟩)] := by
 unfold Qsw
 rw [if_neg h, if_neg h]
theorem ne_snoc (ds : List D) (d : D) : ds ++ [d] ≠ [] := by simp
def lstS (S : List Int) : Int := S.getD (S.length - 1) 0
def QoK (d : D) (x : Rat) (S : List Int) (n i : Int) : St := mkS [(3, .ptr [3] 0), (5, ai (chN S S.length)), (6, ai (lstS S)), (10, .d d), (11, ai n), (12, ai i)] [([3], boxR x)]
theorem chN_pre (S : List Int) (s : Int) : ∀ i, i ≤ S.length → chN (S ++ [s]) i = chN S i
  | 0, _ => rfl
  | i + 1, h => by
    rw [chN, chN, chN_pre S s i (by omega)]
    have e1 : (S ++ [s]).getD i 0 = S.getD i 0 := by
      rw [List.getD_eq_getElem?_getD, List.getD_eq_getElem?_getD, List.getElem?_append_left (by omega)]
    by_cases h0 : 1 ≤ i
    · have e2 : (S ++ [s]).getD (i - 1) 0 = S.getD (i - 1) 0 := by
        rw [List.getD_eq_getElem?_getD, List.getD_eq_getElem?_getD, List.getElem?_append_left (by omega)]
      rw [e1, e2]
    · rw [if_neg (fun h => h0 h.1), if_neg (fun h => h0 h.1)]
theorem chN_snoc (S : List Int) (s : Int) : chN (S ++ [s]) (S ++ [s]).length = chN S S.length + (if S ≠ [] ∧ s ≠ lstS S then 1 else 0) := by
 rw [List.length_append, List.length_singleton, chN, chN_pre S s _ (Nat.le_refl _)]
 have e1 : (S ++ [s]).getD S.length 0 = s := by
  rw [List.getD_eq_getElem?_getD, List.getElem?_append_right (Nat.le_refl _), Nat.sub_self]; rfl
 rw [e1]
 by_cases h : S = []
 ·subst h
  rw [if_neg (by simp), if_neg (fun h => h.1 rfl)]
 ·have hl : 0 < S.length := List.length_pos_iff.2 h
  have e2 : (S ++ [s]).getD (S.length - 1) 0 = lstS S := by
   unfold lstS
   rw [List.getD_eq_getElem?_getD, List.getD_eq_getElem?_getD, List.getElem?_append_left (by omega)]
  rw [e2]
  by_cases h2 : s = lstS S
  ·rw [if_neg (fun h => h.2 h2), if_neg (fun h => h.2 h2)]
  ·rw [if_pos ⟨by omega, h2⟩, if_pos ⟨h, h2⟩]
theorem lst_snoc (S : List Int) (s : Int) : lstS (S ++ [s]) = s := by
 unfold lstS
 rw [List.length_append, List.length_singleton, Nat.add_sub_cancel, List.getD_eq_getElem?_getD, List.getElem?_append_right (Nat.le_refl _), Nat.sub_self]; rfl
theorem sgn_pm (p : List Rat) (x : Rat) (h : sgn1 p x ≠ 0) : sgn1 p x = 1 ∨ sgn1 p x = -1 := by
 unfold sgn1 at *
 rcases Int.lt_trichotomy (evR p x).num 0 with k | k | k
 ·exact .inr (Int.sign_eq_neg_one_of_neg k)
 ·rw [k] at h; exact absurd rfl h
 ·exact .inl (Int.sign_eq_one_of_pos k)
theorem sgs_pm (ps : List (List Rat)) (x : Rat) : ∀ s ∈ sgs ps x, s = 1 ∨ s = -1 := by
 intro s hs
 unfold sgs at hs
 obtain ⟨h1, h2⟩ := List.mem_filter.1 hs
 obtain ⟨p, _, rfl⟩ := List.mem_map.1 h1
 exact sgn_pm p x (of_decide_eq_true h2)
theorem lst_pm {S : List Int} (h : ∀ s ∈ S, s = 1 ∨ s = -1) : (S = [] ∧ lstS S = 0) ∨ (S ≠ [] ∧ (lstS S = 1 ∨ lstS S = -1)) := by
 by_cases h0 : S = []
 ·exact .inl ⟨h0, by rw [h0]; rfl⟩
 ·have hl : 0 < S.length := List.length_pos_iff.2 h0
  refine .inr ⟨h0, h _ ?_⟩
  unfold lstS
  rw [List.getD_eq_getElem?_getD, List.getElem?_eq_getElem (show S.length - 1 < S.length by omega)]
  exact List.getElem_mem _
variable [Its]
theorem Qsx        {da db : D} {a b : List Rat} {K : Nat} (ha : RwR da a) (hb : RwR db b) (na : a.length ≤ 1000) (nb : b.length ≤ 1000) (sb : SzL K b) (hg : dvG K b (dvN a b) a) (sr : SzL K (remP a b)) (hK1 : 3 ≤ K) (hK : K ≤ 1000000000) :
    ∃ d', RwR d' (scP (remP a b) (-1)) ∧ Qai G Qku [da, db] = some (.d d') := by
  rw [Qad (cf := Qkh) rfl]
  obtain ⟨d1, d2, h1, h2, g1⟩ := QfL ha hb (by omega) (by omega) sb (by omega) hK hg
  have o1 := QfM i64_m1 (d := 1) ⟨by omega, by omega⟩
  rw [Qci, show (((-1 : Int)) : Rat) = -1 from rfl] at o1
  obtain ⟨d', h3, g2⟩ := Qkt (a := -1) h2 sr (Nat.le_trans sz_m1 hK1) (by omega) (by omega) (by have := Qhl a b; omega)
  refine ⟨d', h3, ?_⟩
  generalize (-1 : Rat) = m1 at *
  clear h1 h2 h3 sb hg sr ha hb
  simp only [encR, iv] at o1 g2
  simp -implicitDefEqProofs (maxSteps:=9^8) only [Qkh, o1, g1, g2, go_sem, iv, bv, reduceCtorEq, ↓reduceIte, Nat.reduceEqDiff]
section
variable {K : Nat}
theorem o7_go {da db : D} {a b : List Rat} {ds : List D} (ha : RwR da a) (hb : RwR db b) (na : a.length ≤ 90) (hne : a ≠ []) (nb : b.length ≤ 90) (sb : SzL K b) (hg : dvG K b (dvN a b) a) (sr : SzL K (remP a b)) (hK1 : 3 ≤ K) (hK : K ≤ 1000000000) (hds : ds.length ≤ 1000) :
    ∃ d', RwR d' (scP (remP a b) (-1)) ∧ X G QbM (Qop da db ds) = some (.n, Qop db d' (ds ++ [da])) := by
  obtain ⟨d', h3, g⟩ := Qsx ha hb (by omega) (by omega) sb hg sr hK1 (by omega)
  refine ⟨d', h3, ?_⟩
  have la := ha.len
  have e1 : decide ((a.length : Int) > 0) = true := decide_eq_true (by have := List.length_pos_iff.2 hne; omega)
  have k2 := ha.dcl
  have k3 := ha.dc
  have r1 : rep 1 [da] = [da] := rfl
  rw [o7_ne db d' (ne_snoc ds da)]
  clear h3 hg sr sb ha hb
  by_cases h0 : ds = []
  · subst h0
    rw [QrA]
    have b0 : (24 ≤ bound) = True := eq_true (by unfold bound; omega)
    have b1 : (1 * 24 ≤ bound) = True := eq_true (by unfold bound; omega)
    simp -implicitDefEqProofs (maxSteps:=9^8) only [QbM, la, e1, k2, k3, r1, b0, b1, g, List.length_cons, List.length_nil, Nat.zero_add, List.map_cons, List.map_nil, Nat.mul_one, srcS, src, allD, QeP, Qcn, Qdi, List.all_cons, List.all_nil, Bool.and_self, Qaa, go_sem, iv, bv, reduceCtorEq, ↓reduceIte, Nat.reduceEqDiff]
  · rw [o7_ne da db h0]
    have n4 : ((ds.length + 1) * 24 ≤ bound) = True := eq_true (by unfold bound; omega)
    have n5 : (ds ++ [da]).length = ds.length + 1 := by simp
    have n6 : (ds.map A.d) ++ [A.d da] = (ds ++ [da]).map A.d := by simp
    simp -implicitDefEqProofs (maxSteps:=9^8) only [QbM, la, e1, k2, k3, n4, n5, n6, r1, g, QiZ, List.length_map, Nat.mul_one, srcS, src, allD, QeP, Qcn, List.all_cons, List.all_nil, Bool.and_self, Qaa, go_sem, iv, bv, reduceCtorEq, ↓reduceIte, Nat.reduceEqDiff]
theorem Qph {da db : D} {ds : List D} (ha : RwR da []) : X G QbM (Qop da db ds) = some (.x 0, Qsw ds) := by
 have la := ha.len
 simp only [List.length_nil] at la
 have e1 : decide ((0 : Int) > 0) = false := rfl
 by_cases h0 : ds = []
 ·subst h0
  rw [QrA, Qoq]
  simp -implicitDefEqProofs (maxSteps:=9^8) only [QbM, la, e1, Qaa, go_sem, iv, bv, reduceCtorEq, ↓reduceIte, Nat.reduceEqDiff]
 ·rw [o7_ne da db h0, Qrr h0]
  simp -implicitDefEqProofs (maxSteps:=9^8) only [QbM, la, e1, QiZ, Qaa, go_sem, iv, bv, reduceCtorEq, ↓reduceIte, Nat.reduceEqDiff]
theorem o7_loop (hK1 : 3 ≤ K) (hK : K ≤ 1000000000) : ∀ (n : Nat) (a b : List Rat) (da db : D) (ds : List D), RwR da a → RwR db b → SzL K a → a.length ≤ 90 → ChOk K n a b → ds.length + n ≤ 900 →
    ∃ es, Dls es (chM (n + 1) a b) ∧ X G (.loop QbM) (Qop da db ds) = some (.x 0, Qsw (ds ++ es))
  | n, a, b, da, db, ds, ha, hb, sa, na, hc, hl => by
    by_cases ha0 : a = []
    · subst ha0
      rw [chM, if_pos rfl]
      exact ⟨[], Dls.nil, by rw [Qah, Qph ha, List.append_nil]; rfl⟩
    · by_cases hb0 : b = []
      · subst hb0
        obtain ⟨d', h', hx⟩ := o7_go ha hb na ha0 (by simp) (fun q hq => by simp at hq) (dvG_nil sa _) (by rw [rem_nil]; exact fun q hq => by simp at hq) hK1 hK (ds := ds) (by omega)
        refine ⟨[da], ?_, ?_⟩
        · have e : chM (n + 1) a [] = [a] := by
            rw [chM_L, if_neg ha0]
            cases n with
            | zero => rfl
            | succ n => rw [chL, if_pos rfl]
          rw [e]
          exact Dls.cons ha Dls.nil
        · rw [Qah, hx, Option.bind_some, if_pos rfl, Qah, Qph hb]; rfl
      · cases n with
        | zero => exact absurd hc hb0
        | succ n =>
          rcases hc with hc | ⟨c1, c2, c3, c4, c5, c6, c7⟩
          · exact absurd hc hb0
          · obtain ⟨d', h', hx⟩ := o7_go ha hb na ha0 c2 c4 c5 c6 hK1 hK (ds := ds) (by omega)
            obtain ⟨es, he, hl2⟩ := o7_loop hK1 hK n b _ db d' (ds ++ [da]) hb h' c4 c2 c7 (by rw [List.length_append, List.length_singleton]; omega)
            refine ⟨da :: es, ?_, ?_⟩
            · rw [chM, if_neg ha0]
              exact Dls.cons ha he
            · rw [Qah, hx, Option.bind_some, if_pos rfl, hl2, List.append_assoc]; rfl
theorem QiF         {dp : D} {p : List Rat} (hp0 : p ≠ []) (np : p.length ≤ 90) (hF : ∃ d', RwR d' (frP p) ∧ Qai   G Qct         [dp] = some (.d d')) (hf0 : frP p ≠ []) (nf : (frP p).length ≤ 90) (sf : SzL K (frP p)) (hc : ChOk K p.length (frP p) (deP (frP p))) (hK1 : 3 ≤ K) (hK : K ≤ 1000000000) :
    ∃ ds, Dls ds (chP p) ∧ Qai G QbK [dp] = some (.own 1 ds.length ds) := by
  rw [Qad (cf := QfW) rfl]
  obtain ⟨da, ha, g1⟩ := hF
  obtain ⟨db, hb, g2⟩ := Qhz ha sf (by omega) (by omega) (by omega)
  obtain ⟨es, he, g3⟩ := o7_loop hK1 hK p.length (frP p) (deP (frP p)) da db [] ha hb sf nf hc (by simp; omega)
  have ec : chM (p.length + 1) (frP p) (deP (frP p)) = chP p := by
    rw [chM_L, if_neg hf0]
    unfold chP
    rw [if_neg hp0]
  rw [ec] at he
  refine ⟨es, he, ?_⟩
  have hes : es ≠ [] := fun h => by
    have h1 := he.1
    rw [h] at h1
    unfold chP at h1
    rw [if_neg hp0] at h1
    simp at h1
  have n7 : allD (es.map A.d) = some es := Qd1 _
  rw [QrA, List.nil_append, Qrr hes] at g3
  simp only [go_sem] at g3
  clear he hc sf ha hb
  simp -implicitDefEqProofs (maxSteps:=9^8) only [QfW, g1, g2, g3, n7, QiZ, Qaa, go_sem, iv, bv, reduceCtorEq, ↓reduceIte, Nat.reduceEqDiff]
end
section
variable {d : D} {ps : List (List Rat)} {x : Rat} {K : Nat}
theorem d7_go [ItsB] (hr : RwC d ps) (hn : ps.length ≤ 1000) (hs : ∀ p ∈ ps, SzL K p ∧ p.length * (2 * K + 1) ≤ 40000000000) (hx : sz x ≤ K) (hK : K ≤ 1000000000) {i : Nat} (hi : i < ps.length) :
    X G QbC (QoK d x (sgs (ps.take i) x) ps.length i) = some (.n, QoK d x (sgs (ps.take (i + 1)) x) ps.length ((i + 1 : Nat) : Int)) := by
  have e1 : decide ((i : Int) < (ps.length : Int)) = true := lt_t (by omega)
  have e2 : w64 ((i : Int) + 1) = ((i + 1 : Nat) : Int) := by rw [Qae (by omega) (by omega)]; rfl
  obtain ⟨y, r, hy, x1, x2⟩ := hr.at hi
  have hp := hs (ps.getD i []) (by rw [List.getD_eq_getElem?_getD, List.getElem?_eq_getElem hi]; exact List.getElem_mem hi)
  have hlen := QoE (ps.take i) x
  rw [List.length_take] at hlen
  have hpm := lst_pm (sgs_pm (ps.take i) x)
  have hcl := Qo2 (sgs (ps.take i) x) (sgs (ps.take i) x).length
  have sn := sgn_pm (ps.getD i []) x
  rw [QqR ps x hi]
  generalize ps.getD i [] = p at *
  generalize sgs (ps.take i) x = S at *
  have g1 := Qou hy hx (by omega) hp.1 hp.2
  have g2 := Qdj (evR p x)
  have es : Int.sign (evR p x).num = sgn1 p x := rfl
  rw [es] at g2
  clear es hs hp hx hr
  generalize sgn1 p x = s at *
  generalize evR p x = v at *
  simp only [encR, iv] at g1 g2
  by_cases h0 : s = 0
  · have t : (s != 0) = false := QoM h0
    rw [if_neg (by simp [h0])]
    generalize chN S S.length = n at *
    generalize lstS S = l at *
    simp -implicitDefEqProofs (maxSteps:=9^8) only [QbC, QoK, boxR, x1, x2, g1, g2, t, e1, e2, ld4q, Qaa, go_sem, iv, bv, reduceCtorEq, ↓reduceIte, Nat.reduceEqDiff]
  · have t : (s != 0) = true := QpI h0
    have sn := sn h0
    rw [if_pos h0]
    unfold QoK
    rw [chN_snoc, lst_snoc]
    generalize chN S S.length = n at *
    have en : w64 (0 - lstS S) = -(lstS S) := by rw [Qae (by omega) (by omega)]; omega
    by_cases hc : S ≠ [] ∧ s ≠ lstS S
    · have t2 : (s == -(lstS S)) = true := by
        rw [beq_iff_eq]
        rcases hpm with ⟨h1, _⟩ | ⟨_, h1⟩
        · exact absurd h1 hc.1
        · have := hc.2
          omega
      have e4 : w64 ((n : Int) + 1) = ((n + 1 : Nat) : Int) := by rw [Qae (by omega) (by omega)]; rfl
      rw [if_pos hc]
      generalize lstS S = l at *
      simp -implicitDefEqProofs (maxSteps:=9^8) only [QbC, boxR, x1, x2, g1, g2, t, t2, en, e1, e2, e4, ld4q, Qaa, go_sem, iv, bv, reduceCtorEq, ↓reduceIte, Nat.reduceEqDiff]
    · have t2 : (s == -(lstS S)) = false := by
        refine QcG ?_
        rcases hpm with ⟨_, h1⟩ | ⟨h2, h1⟩
        · omega
        · have : s = lstS S := Classical.byContradiction fun h => hc ⟨h2, h⟩
          omega
      rw [if_neg hc, Nat.add_zero]
      generalize lstS S = l at *
      simp -implicitDefEqProofs (maxSteps:=9^8) only [QbC, boxR, x1, x2, g1, g2, t, t2, en, e1, e2, ld4q, Qaa, go_sem, iv, bv, reduceCtorEq, ↓reduceIte, Nat.reduceEqDiff]
theorem d7_stop {S : List Int} {n : Nat} : X G QbC (QoK d x S n n) = some (.x 0, mkS [(5, ai (chN S S.length))] []) := by
 have e1 : decide ((n : Int) < (n : Int)) = false := lt_f (by omega)
 simp -implicitDefEqProofs (maxSteps:=9^8) only [QbC, QoK, boxR, e1, Qaa, go_sem, iv, bv, reduceCtorEq, ↓reduceIte, Nat.reduceEqDiff]
theorem d7_loop [ItsB] (hr : RwC d ps) (hn : ps.length ≤ 1000) (hs : ∀ p ∈ ps, SzL K p ∧ p.length * (2 * K + 1) ≤ 40000000000) (hx : sz x ≤ K) (hK : K ≤ 1000000000) : ∀ (j i : Nat), i + j = ps.length →
    X G (.loop QbC) (QoK d x (sgs (ps.take i) x) ps.length i) = some (.x 0, mkS [(5, ai (chg ps x))] [])
  | 0, i, h => by
    have : i = ps.length := by omega
    subst this
    rw [Qah, d7_stop, List.take_length]; rfl
  | j + 1, i, h => by
    rw [Qah, d7_go hr hn hs hx hK (by omega), Option.bind_some, if_pos rfl]
    exact d7_loop hr hn hs hx hK j (i + 1) (by omega)
theorem QdK [ItsB] (hr : RwC d ps) (hn : ps.length ≤ 1000) (hs : ∀ p ∈ ps, SzL K p ∧ p.length * (2 * K + 1) ≤ 40000000000) (hx : sz x ≤ K) (hK : K ≤ 1000000000) : Qai G Qdl [d, encR x] = some (.d (iv (chg ps x))) := by
 rw [Qad (cf := Qhu) rfl]
 have g := d7_loop hr hn hs hx hK ps.length 0 (by omega)
 have ll := hr.len
 have e0 : sgs (ps.take 0) x = [] := rfl
 have e1 : ((chN [] 0 : Nat) : Int) = 0 := rfl
 have e2 : lstS [] = 0 := rfl
 rw [e0] at g
 generalize chg ps x = c at *
 simp only [QoK, boxR, e1, e2, nc0, go_sem] at g
 simp -implicitDefEqProofs (maxSteps:=9^8) only [Qhu, encR, g, ll, Qaa, go_sem, iv, bv, reduceCtorEq, ↓reduceIte, Nat.reduceEqDiff]
theorem QiE [ItsB] (hr : RwC d ps) (hn : ps.length ≤ 1000) (hs : ∀ p ∈ ps, SzL K p ∧ p.length * (2 * K + 1) ≤ 40000000000) {lo hi : Rat} (h1 : sz lo ≤ K) (h2 : sz hi ≤ K) (hK : K ≤ 1000000000) : Qai G Qf6 [d, encR lo, encR hi] = some (.d (iv (cnt ps lo hi))) := by
 rw [Qad (cf := QfI) rfl]
 have g0 := Qet (a := lo) (b := hi) (by omega) (by omega)
 have g1 := QdK hr hn hs h1 hK
 have g2 := QdK hr hn hs h2 hK
 have c1 : chg ps lo ≤ 1000 := Nat.le_trans (Qo2 _ _) (Nat.le_trans (QoE ps lo) hn)
 have c2 : chg ps hi ≤ 1000 := Nat.le_trans (Qo2 _ _) (Nat.le_trans (QoE ps hi) hn)
 have t0 := cmpR_ge (a := lo) (b := hi)
 unfold cnt
 generalize chg ps lo = a at *
 generalize chg ps hi = b at *
 obtain ⟨z, hz⟩ : ∃ z, (a : Int) - (b : Int) = z := ⟨_, rfl⟩
 have e : w64 ((a : Int) - (b : Int)) = z := by rw [Qae (by omega) (by omega), hz]
 rw [hz]
 generalize cmpR lo hi = c at *
 simp only [encR, iv] at g0 g1 g2
 by_cases h : hi ≤ lo
 ·rw [if_pos h]
  rw [decide_eq_true h] at t0
  simp -implicitDefEqProofs (maxSteps:=9^8) only [QfI, encR, g0, t0, ld4q, Qaa, go_sem, iv, bv, reduceCtorEq, ↓reduceIte, Nat.reduceEqDiff]
 ·rw [if_neg h]
  rw [decide_eq_false h] at t0
  simp -implicitDefEqProofs (maxSteps:=9^8) only [QfI, encR, g0, g1, g2, t0, e, ld4q, Qaa, go_sem, iv, bv, reduceCtorEq, ↓reduceIte, Nat.reduceEqDiff]
end
theorem Qkx          [ItsB] {dp : D} {p : List Rat} {K : Nat} (hC : ∃ ds, Dls ds (chP p) ∧ Qai   G QbK           [dp] = some (.own 1 ds.length ds)) (hn : (chP p).length ≤ 1000) (hs : ∀ q ∈ chP p, SzL K q ∧ q.length * (2 * K + 1) ≤ 40000000000) {lo hi : Rat} (h1 : sz lo ≤ K) (h2 : sz hi ≤ K) (hK : K ≤ 1000000000) :
    Qai G QcJ [dp, encR lo, encR hi] = some (.d (iv (cnt (chP p) lo hi))) := by
  rw [Qad (cf := Qi2) rfl]
  obtain ⟨ds, hd, g1⟩ := hC
  have g2 := QiE hd.rwc hn hs h1 h2 hK
  generalize cnt (chP p) lo hi = c at *
  simp only [encR, iv] at g2
  simp -implicitDefEqProofs (maxSteps:=9^8) only [Qi2, encR, g1, g2, ld4q, Qaa, go_sem, iv, bv, reduceCtorEq, ↓reduceIte, Nat.reduceEqDiff]
theorem QlD {l : Rat × Rat} (h1 : sz l.1 ≤ 1000000000) (h2 : sz l.2 ≤ 1000000000) : Qai G QgB [enc2 l] = some (.d (encR (mid l.1 l.2))) := by
 rw [Qad (cf := Qh4) rfl]
 have g1 := Qf0 (a := l.1) (b := l.2) (by omega) (by omega)
 have g2 := QfM (n := 1) (d := 2) ⟨by omega, by omega⟩ ⟨by omega, by omega⟩
 have z1 := Qky (a := l.1) (b := l.2)
 have z3 := sz_of (n := 1) (d := 2) ⟨by omega, by omega⟩ ⟨by omega, by omega⟩
 have g3 := Qd4 (a := l.1 + l.2) (b := Rat.divInt 1 2) (by omega) (by omega)
 unfold mid
 generalize (l.1 + l.2) * Rat.divInt 1 2 = r at *
 generalize l.1 + l.2 = s at *
 generalize Rat.divInt 1 2 = t at *
 obtain ⟨lo, hi⟩ := l
 simp only [encR, iv] at g1 g2 g3
 simp -implicitDefEqProofs (maxSteps:=9^8) only [Qh4, enc2, c2R, encR, g1, g2, g3, st4q, ld4q, st8q, Qr4, Qsu, Qaa, go_sem, iv, bv, reduceCtorEq, ↓reduceIte, Nat.reduceEqDiff]
theorem Qhp [ItsB] {d : D} {p : List Rat} {x : Rat} {K : Nat} (hr : RwR d p) (hx : sz x ≤ K) (hK : K ≤ 1000000) (sp : SzL K p) (np : p.length ≤ 100) : Qai G QfO [encR x, .rp [d]] = some (.d (bv (decide (evR p x < 0)))) := by
 rw [Qad (cf := Qg8) rfl]
 have zb : p.length * (2 * K + 1) ≤ 100 * (2 * 1000000 + 1) := Nat.mul_le_mul np (by omega)
 have g1 := Qou hr hx (by omega) sp (by omega)
 have g2 := Qdj (evR p x)
 rw [← QpZ]
 generalize evR p x = v at *
 generalize Int.sign v.num = s at *
 simp only [encR, iv] at g1 g2
 simp -implicitDefEqProofs (maxSteps:=9^8) only [Qg8, encR, QkF, g1, g2, ld4q, Qaa, go_sem, iv, bv, reduceCtorEq, ↓reduceIte, Nat.reduceEqDiff]
end Go.AM

/- sturm.Stays, sturm.odd, ref07.Same, law07.num: walked in general. -/
namespace Go.AM
open Go Go.RowKit
def Ql2 (a b : D) : St := mkS [(3, .d a), (4, .d b)] []
def Qjo (dp : D) (z x : Rat) (n i : Int) : St := mkS [(4, .ptr [4] 0), (7, .d (.fn QfO [.rp [dp]])), (10, .ptr [10] 0), (50, ai n), (51, ai i)] [([4], boxR z), ([10], boxR x)]
def Qlp (d e : D) (i : Int) : St := mkS [(0, .d d), (1, .d e), (5, ai i)] []
theorem rep1_4S (a b c d : D) : rep 1 [a, b, c, d] = [a, b, c, d] := rfl
theorem tupS : A.bool? (.d (.v (.tuple #[]))) = none := rfl
section
variable [Its]
theorem Qfe {n : Int} (hn : I64 n) : Qai G QaG [iv n] = some (.d (encR (n : Rat))) := by
 rw [Qad (cf := Qf9) rfl]
 have o := Qdc (n := n) (d := 1) hn ⟨by omega, by omega⟩
 rw [Qci] at o
 generalize (n : Rat) = q at *
 simp only [encR, iv] at o
 simp -implicitDefEqProofs (maxSteps:=9^8) only [Qf9, encR, o, st4q, ld4q, Qab, Qaa, go_sem, iv, bv, reduceCtorEq, ↓reduceIte, Nat.reduceEqDiff]
theorem odg_stop {d1 d2 : D} {r : List Rat} (hr : RwR d2 r) (h : r.length ≤ 1) : X G Qea (Ql2 d1 d2) = some (.x 0, mkS [(3, .d d1)] []) := by
 have l := hr.len
 have e : decide ((r.length : Int) > 1) = false := decide_eq_false (by omega)
 simp -implicitDefEqProofs (maxSteps:=9^8) only [Qea, Ql2, l, e, go_sem, iv, bv, reduceCtorEq, ↓reduceIte, Nat.reduceEqDiff]
theorem odg_go {d1 d2 a1 a2 a2' a3 a4 a5 a5' a6 a7 a7' : D} {r : List Rat} (h2 : RwR d2 r) (n1 : 1 < r.length)
    (g1 : Qai G Qct [d2] = some (.d a1)) (g2 : Qai G Qc1 [d2, a1] = some (.d (.tup [a2, a2']))) (g3 : Qai G Qct [a2] = some (.d a3)) (g4 : Qai G Qif [a1, a3] = some (.d a4))
    (g5 : Qai G Qc1 [a1, a4] = some (.d (.tup [a5, a5']))) (g6 : Qai G Qkg [d1, a5] = some (.d a6)) (g7 : Qai G Qc1 [a2, a3] = some (.d (.tup [a7, a7']))) : X G Qea (Ql2 d1 d2) = some (.n, Ql2 a6 a7) := by
  have l := h2.len
  have e : decide ((r.length : Int) > 1) = true := decide_eq_true (by omega)
  simp -implicitDefEqProofs (maxSteps:=9^8) only [Qea, Ql2, l, e, g1, g2, g3, g4, g5, g6, g7, go_sem, iv, bv, reduceCtorEq, ↓reduceIte, Nat.reduceEqDiff]
theorem odg_end {dp d1 : D} (h : X G (.loop Qea) (Ql2 (rowR [1]) dp) = some (.x 0, mkS [(3, .d d1)] [])) : Qai G Qg6 [dp] = some (.d d1) := by
 rw [Qad (cf := QlT) rfl]
 have o := QfM (n := 1) (d := 1) ⟨by omega, by omega⟩ ⟨by omega, by omega⟩
 rw [Qci, show ((1 : Int) : Rat) = 1 from rfl] at o
 have ea : rowR [1] = .row 1 [.v (.bool (decide ((1 : Rat).num < 0))), dg (digs (1 : Rat).num.natAbs), .v (.bool false), dg (dd (1 : Rat).den)] := rfl
 rw [ea] at h
 generalize (1 : Rat) = q at *
 simp only [encR, iv] at o
 simp only [Ql2, go_sem] at h
 simp -implicitDefEqProofs (maxSteps:=9^8) only [QlT, encR, o, h, rep1_4S, QeP, Qcn, Qaa, go_sem, iv, bv, reduceCtorEq, ↓reduceIte, Nat.reduceEqDiff]
theorem s7s_stop {dp : D} {z x : Rat} {n : Nat} : X G Qb3 (Qjo dp z x n n) = some (.x 0, mkS [] []) := by
 have e1 : decide ((n : Int) < (n : Int)) = false := lt_f (by omega)
 simp -implicitDefEqProofs (maxSteps:=9^8) only [Qb3, Qjo, boxR, e1, Qaa, go_sem, iv, bv, reduceCtorEq, ↓reduceIte, Nat.reduceEqDiff]
/-! Same -/
theorem sm7_go {d e : D} {ps : List (List Rat)} (hd : RwC d ps) (he : RwC e ps) (hn : ps.length ≤ 1000) (hs : ∀ p ∈ ps, SzL 100000000000 p ∧ p.length ≤ 1000) {i : Nat} (hi : i < ps.length) : X G QbD (Qlp d e i) = some (.n, Qlp d e ((i + 1 : Nat) : Int)) := by
 have e1 : decide ((i : Int) < (ps.length : Int)) = true := lt_t (by omega)
 have e2 : w64 ((i : Int) + 1) = ((i + 1 : Nat) : Int) := by rw [Qae (by omega) (by omega)]; rfl
 have ll := hd.len
 obtain ⟨x, rx, hx, x1, x2⟩ := hd.at hi
 obtain ⟨y, ry, hy, y1, y2⟩ := he.at hi
 have hp := hs (ps.getD i []) (by rw [List.getD_eq_getElem?_getD, List.getElem?_eq_getElem hi]; exact List.getElem_mem hi)
 have g := s6_refl hx hy hp.1 (by omega)
 simp only [bv] at g
 simp -implicitDefEqProofs (maxSteps:=9^8) only [QbD, Qlp, ll, x1, x2, y1, y2, g, e1, e2, go_sem, iv, bv, reduceCtorEq, ↓reduceIte, Nat.reduceEqDiff]
theorem sm7_stop {d e : D} {ps : List (List Rat)} (hd : RwC d ps) : X G QbD (Qlp d e ps.length) = some (.x 0, mkS [] []) := by
 have e1 : decide ((ps.length : Int) < (ps.length : Int)) = false := lt_f (by omega)
 have ll := hd.len
 simp -implicitDefEqProofs (maxSteps:=9^8) only [QbD, Qlp, ll, e1, go_sem, iv, bv, reduceCtorEq, ↓reduceIte, Nat.reduceEqDiff]
theorem Qq4 {d e : D} {ps : List (List Rat)} (hd : RwC d ps) (he : RwC e ps) (hn : ps.length ≤ 1000) (hs : ∀ p ∈ ps, SzL 100000000000 p ∧ p.length ≤ 1000) : ∀ (j i : Nat), i + j = ps.length → X G (.loop QbD) (Qlp d e i) = some (.x 0, mkS [] [])
 | 0, i, h => by
  have : i = ps.length := by omega
  subst this
  rw [Qah, sm7_stop hd]; rfl
 | j + 1, i, h => by
  rw [Qah, sm7_go hd he hn hs (by omega), Option.bind_some, if_pos rfl]
  exact Qq4 hd he hn hs j (i + 1) (by omega)
theorem QjR {d e : D} {ps : List (List Rat)} (hd : RwC d ps) (he : RwC e ps) (hn : ps.length ≤ 1000) (hs : ∀ p ∈ ps, SzL 100000000000 p ∧ p.length ≤ 1000) : Qai G Qek [d, e] = some (.d (bv true)) := by
 rw [Qad (cf := Qfv) rfl]
 have g := Qq4 hd he hn hs ps.length 0 (by omega)
 have l1 := hd.len
 have l2 := he.len
 have t : ((ps.length : Int) != (ps.length : Int)) = false := QoM rfl
 simp only [Qlp, nc0, go_sem] at g
 simp -implicitDefEqProofs (maxSteps:=9^8) only [Qfv, l1, l2, t, g, go_sem, iv, bv, reduceCtorEq, ↓reduceIte, Nat.reduceEqDiff]
end
section
variable [Its] [ItsB] {dp : D} {p : List Rat} {K : Nat}
theorem Qq5    (hr : RwR dp p) (sp : SzL K p) (np : p.length ≤ 100) (hK : K ≤ 1000000) {z x : Rat} (hz : sz z ≤ 100) (hx : sz x ≤ 100) (h205 : 205 ≤ K) {n i : Nat} (hi : i < n) (hn : n ≤ 100) :
    X G Qb3 (Qjo dp z x n i) = if evR p (mid z x) < 0 then some (.r, mkS [(6, ab false)] []) else some (.n, Qjo dp z (mid z x) n ((i + 1 : Nat) : Int)) := by
  have e1 : decide ((i : Int) < (n : Int)) = true := lt_t (by omega)
  have e2 : w64 ((i : Int) + 1) = ((i + 1 : Nat) : Int) := by rw [Qae (by omega) (by omega)]; rfl
  have g1 := QlD (l := (z, x)) (by dsimp only; omega) (by dsimp only; omega)
  have zm := Qql hz hx
  have g2 := Qhp hr (x := mid z x) (K := K) (by omega) (by omega) sp (by omega)
  clear sp hz hx zm hr
  dsimp only at g1
  generalize mid z x = m at *
  generalize evR p m = v at *
  simp only [encR, enc2, c2R, iv] at g1 g2
  by_cases h : v < 0
  · rw [decide_eq_true h] at g2
    rw [if_pos h]
    simp -implicitDefEqProofs (maxSteps:=9^8) only [Qb3, Qjo, boxR, g1, g2, e1, e2, QeP, Qcn, st4q, ld4q, st8q, Qr4, Qsu, Qaa, go_sem, iv, bv, reduceCtorEq, ↓reduceIte, Nat.reduceEqDiff]
  · rw [decide_eq_false h] at g2
    rw [if_neg h]
    simp -implicitDefEqProofs (maxSteps:=9^8) only [Qb3, Qjo, boxR, g1, g2, e1, e2, QeP, Qcn, st4q, ld4q, st8q, Qr4, Qsu, Qaa, go_sem, iv, bv, reduceCtorEq, ↓reduceIte, Nat.reduceEqDiff]
theorem QrP (hr : RwR dp p) (sp : SzL K p) (np : p.length ≤ 100) (hK : K ≤ 1000000) (hp0 : p ≠ []) {lo hi : Rat} (hl : lo ≤ hi) (z1 : sz lo ≤ K) (z2 : sz hi ≤ K) (h : evR p lo < 0) : Qai G Qds [dp, encR lo, encR hi] = some (.d (bv false)) := by
 rw [Qad (cf := Qgf) rfl]
 have g := Qet (a := lo) (b := hi) (by omega) (by omega)
 have t := QnC (a := lo) (b := hi)
 rw [decide_eq_false (Rat.not_lt.2 hl)] at t
 have hl := hr.len
 have c1 := hr.one
 have c2 := hr.cells
 have c3 := hr.dc
 have c4 := hr.dcl
 have g0 := Qhp hr (x := lo) z1 hK sp np
 rw [decide_eq_true h] at g0
 have t2 : ((p.length : Int) == 0) = false := QcG (by have := List.length_pos_iff.2 hp0; omega)
 clear sp hr h
 generalize cmpR lo hi = c at *
 simp only [encR, iv] at g g0
 simp -implicitDefEqProofs (maxSteps:=9^8) only [Qgf, encR, g, g0, t, hl, t2, c1, c2, c3, c4, toDs, allD, snap, QcU, Qab, Qac, ld4q, decide_true, decide_false, tupS, Qaa, go_sem, iv, bv, reduceCtorEq, ↓reduceIte, Nat.reduceEqDiff]
theorem QpU         (hr : RwR dp p) (sp : SzL K p) (np : p.length ≤ 100) (hK : K ≤ 1000000) (hp0 : p ≠ []) {lo hi : Rat} (hl : lo ≤ hi) (z1 : sz lo ≤ K) (z2 : sz hi ≤ K) (h0 : 0 ≤ evR p lo) (h1 : 0 ≤ evR p hi)
    {dg : D} (g2 : Qai G Qg6 [dp] = some (.d dg)) (g3 : Qai G QcJ [dg, encR lo, encR hi] = some (.d (iv 0))) (lp : X G (.loop Qb3) (Qjo dp lo hi p.length 0) = some (.x 0, mkS [] [])) : Qai G Qds [dp, encR lo, encR hi] = some (.d (bv true)) := by
  rw [Qad (cf := Qgf) rfl]
  have g := Qet (a := lo) (b := hi) (by omega) (by omega)
  have t := QnC (a := lo) (b := hi)
  rw [decide_eq_false (Rat.not_lt.2 hl)] at t
  have hl := hr.len
  have c1 := hr.one
  have c2 := hr.cells
  have c3 := hr.dc
  have c4 := hr.dcl
  have g0 := Qhp hr (x := lo) z1 hK sp np
  have g1 := Qhp hr (x := hi) z2 hK sp np
  rw [decide_eq_false (Rat.not_lt.2 h0)] at g0
  rw [decide_eq_false (Rat.not_lt.2 h1)] at g1
  have t2 : ((p.length : Int) == 0) = false := QcG (by have := List.length_pos_iff.2 hp0; omega)
  have d1 : decide ((0 : Int) > 0) = false := rfl
  clear sp hr h0 h1
  generalize cmpR lo hi = c at *
  simp only [encR, iv] at g g0 g1 g3
  simp only [Qjo, boxR, go_sem] at lp
  simp -implicitDefEqProofs (maxSteps:=9^8) only [Qgf, encR, g, g0, g1, g2, g3, d1, lp, t, hl, t2, c1, c2, c3, c4, toDs, allD, snap, QcU, Qab, Qac, st4q, ld4q, decide_true, decide_false, tupS, Qaa, go_sem, iv, bv, reduceCtorEq, ↓reduceIte, Nat.reduceEqDiff]
end
end Go.AM

/- Divisors of polynomials: the common divisor is a combination, the part without squares. -/
namespace Go.AM
open Go Go.RowKit

def Dv (q p : List Rat) : Prop := ∃ s : List Rat, ∀ x, evR p x = evR s x * evR q x
theorem Qpz (c x : Rat) : evR [c] x = c := by
 show (0 : Rat) * x + c = c
 rw [Rat.zero_mul, Rat.zero_add]
theorem Dv.refl (p : List Rat) : Dv p p := ⟨[1], fun x => by rw [Qpz, Rat.one_mul]⟩
theorem Dv.nil (p : List Rat) : Dv p [] := ⟨[], fun x => by rw [Qca, Rat.zero_mul]⟩
theorem Dv.one (p : List Rat) : Dv [1] p := ⟨p, fun x => by rw [Qpz, Rat.mul_one]⟩
theorem Dv.trans {a b c : List Rat} (h : Dv a b) (k : Dv b c) : Dv a c := by
 obtain ⟨s, hs⟩ := h
 obtain ⟨t, ht⟩ := k
 exact ⟨muP t s, fun x => by rw [QjB, ht, hs, Rat.mul_assoc]⟩
theorem Dv.comb {q a b c u v : List Rat} (h : Dv q a) (k : Dv q b) (hc : ∀ x, evR c x = evR u x * evR a x + evR v x * evR b x) : Dv q c := by
 obtain ⟨s, hs⟩ := h
 obtain ⟨t, ht⟩ := k
 refine ⟨adP (muP u s) (muP v t), fun x => ?_⟩
 rw [ev_ad, QjB, QjB, hc, hs, ht]
 generalize evR u x = a1; generalize evR v x = a2; generalize evR s x = a3; generalize evR t x = a4; generalize evR q x = a5
 grind
theorem Qpw {l : List Rat} (hl : Trm l) (h : ∀ x, evR l x = 0) : l = [] := Qdn hl Qhi (fun x => by rw [h, Qca])
theorem mul_len {a b : List Rat} (ha : Trm a) (hb : Trm b) (na : a ≠ []) (nb : b ≠ []) : (muP a b).length = a.length + b.length - 1 := by
 have h1 := List.length_pos_iff.2 na
 have h2 := List.length_pos_iff.2 nb
 have h3 : (muP a b).getD (a.length - 1 + (b.length - 1)) 0 ≠ 0 := by
  rw [mu_getD, Qqm h1 h2]
  intro h0
  rcases Rat.mul_eq_zero.1 h0 with h4 | h4
  ·exact QdY ha na h4
  ·exact QdY hb nb h4
 have := Qlt h3
 have := QmC a b
 omega
theorem Qpp {p : List Rat} (tp : Trm p) (h : Dv [] p) : p = [] := by
 obtain ⟨s, hs⟩ := h
 exact Qpw tp fun x => by rw [hs, Qca, Rat.mul_zero]
theorem dv_fac {q p : List Rat} (tq : Trm q) (tp : Trm p) (np : p ≠ []) (h : Dv q p) : ∃ s, Trm s ∧ s ≠ [] ∧ q ≠ [] ∧ p = muP s q ∧ p.length = s.length + q.length - 1 := by
 have nq : q ≠ [] := fun h0 => np (Qpp tp (h0 ▸ h))
 obtain ⟨s, hs⟩ := h
 have e : p = muP (QaK s) q := Qdn tp (QkI _ _) fun x => by rw [hs, QjB, Qb1]
 have ns : QaK s ≠ [] := fun h0 => np (Qpw tp fun x => by rw [hs, ← Qb1 s, h0, Qca, Rat.zero_mul])
 exact ⟨QaK s, Qbc _, ns, nq, e, by rw [e]; exact mul_len (Qbc _) tq ns nq⟩
theorem dv_len {q p : List Rat} (tq : Trm q) (tp : Trm p) (np : p ≠ []) (h : Dv q p) : q.length ≤ p.length := by
 obtain ⟨s, _, ns, _, _, hl⟩ := dv_fac tq tp np h
 have := List.length_pos_iff.2 ns
 omega
theorem QoA {q p : List Rat} (tq : Trm q) (nq : q ≠ []) (h : Dv q p) : remP p q = [] ∧ ∀ x, evR p x = evR (quoP p q) x * evR q x := by
 obtain ⟨h1, h2, h3, h4⟩ := QnL (p := p) tq nq
 obtain ⟨s, hs⟩ := h
 have hr : remP p q = [] := (div_uniq tq nq h3 (Qbc s) h4 Qhi h2 (by simp) (fun x => by rw [← h1, Qb1, hs, Qca, Rat.add_zero])).2
 exact ⟨hr, fun x => by rw [h1, hr, Qca, Rat.add_zero]⟩

def Mo (l : List Rat) : Prop := l = [] ∨ l.getD (l.length - 1) 0 = 1
theorem trm_one : Trm [1] := fun n h => by
 have : n = 0 := by simpa using h.symm
 subst this
 show (1 : Rat) ≠ 0
 decide
theorem mo_mn {l : List Rat} (tl : Trm l) : Mo (mnP l) := by
 by_cases h : l = []
 ·subst h; exact .inl rfl
 ·refine .inr ?_
  rw [Qh6 tl, mn_getD h, Rat.div_def, Rat.one_mul, Rat.mul_inv_cancel _ (QdY tl h)]
theorem ev_mn {l : List Rat} (h : l ≠ []) (x : Rat) : evR (mnP l) x = evR l x * (1 / l.getD (l.length - 1) 0) := by rw [mnP, if_neg h, ev_sc]
theorem dv_mn {l : List Rat} : Dv l (mnP l) := by
 by_cases h : l = []
 ·subst h; exact Dv.nil _
 ·exact ⟨[1 / l.getD (l.length - 1) 0], fun x => by rw [ev_mn h, Qpz, Rat.mul_comm]⟩
theorem mn_dv {l : List Rat} (tl : Trm l) : Dv (mnP l) l := by
 by_cases h : l = []
 ·subst h; exact Dv.nil _
 ·refine ⟨[l.getD (l.length - 1) 0], fun x => ?_⟩
  have h1 := QdY tl h
  rw [ev_mn h, Qpz]
  generalize l.getD (l.length - 1) 0 = c at *
  rw [Rat.div_def, Rat.one_mul, Rat.mul_comm (evR l x), ← Rat.mul_assoc, Rat.mul_inv_cancel _ h1, Rat.one_mul]
theorem mn_ne {l : List Rat} (tl : Trm l) (h : l ≠ []) : mnP l ≠ [] := fun h0 => h (by
 have := Qh6 tl
 rw [h0] at this
 exact List.length_eq_zero_iff.1 this.symm)
theorem mo_len1 {a : List Rat} (ma : Mo a) (h : a.length = 1) : a = [1] := by
  obtain ⟨c, rfl⟩ : ∃ c, a = [c] := List.length_eq_one_iff.1 h
  rcases ma with h1 | h1
  · cases h1
  · have : c = 1 := h1
    rw [this]

/-! ### The common divisor -/
theorem gc_bez : ∀ (n : Nat) (a b : List Rat), Trm a → Trm b → b.length < n → (∃ u v, ∀ x, evR (gcP n a b) x = evR u x * evR a x + evR v x * evR b x) ∧ Dv (gcP n a b) a ∧ Dv (gcP n a b) b
 | 0, _, _, _, _, h => by omega
 | n + 1, a, b, ta, tb, h => by
  rw [gcP]
  by_cases hb : b = []
  ·rw [if_pos hb]
   subst hb
   exact ⟨⟨[1], [], fun x => by rw [Qpz, Qca, Rat.one_mul, Rat.zero_mul, Rat.add_zero]⟩, Dv.refl _, Dv.nil _⟩
  ·rw [if_neg hb]
   obtain ⟨q1, q2, q3, q4⟩ := QnL (p := a) tb hb
   have hp := List.length_pos_iff.2 hb
   obtain ⟨⟨u, v, i1⟩, i2, i3⟩ := gc_bez n b (mnP (remP a b)) tb (QhQ _) (by have := Qh6 q4; omega)
   generalize gcP n b (mnP (remP a b)) = g at *
   have i4 : Dv g (remP a b) := i3.trans (mn_dv q4)
   obtain ⟨s, hs⟩ := dv_mn (l := remP a b)
   refine ⟨⟨muP v s, sbP u (muP (muP v s) (quoP a b)), fun x => ?_⟩, i2.comb i4 (u := quoP a b) (v := [1]) (fun x => by rw [Qpz, Rat.one_mul]; exact q1 x), i2⟩
   rw [i1, hs, ev_sb, QjB, QjB, QjB, q1]
   generalize evR u x = a1; generalize evR v x = a2; generalize evR s x = a3; generalize evR b x = a4; generalize evR (quoP a b) x = a5; generalize evR (remP a b) x = a6
   grind
theorem trm_gcP : ∀ (n : Nat) (a b : List Rat), Trm a → Trm b → Trm (gcP n a b)
 | 0, _, _, ha, _ => ha
 | n + 1, a, b, ha, hb => by
  rw [gcP]
  split
  ·exact ha
  ·exact trm_gcP n b _ hb (QhQ _)
theorem mo_gcP : ∀ (n : Nat) (a b : List Rat), Mo a → Mo b → Mo (gcP n a b)
 | 0, _, _, ha, _ => ha
 | n + 1, a, b, ha, hb => by
  rw [gcP]
  split
  ·exact ha
  ·exact mo_gcP n b _ hb (mo_mn (trm_dv _ _))
section
variable {p q : List Rat}
theorem gcd_bez (tp : Trm p) (tq : Trm q) : (∃ u v, ∀ x, evR (gcdP p q) x = evR u x * evR p x + evR v x * evR q x) ∧ Dv (gcdP p q) p ∧ Dv (gcdP p q) q := by
 obtain ⟨⟨u, v, h1⟩, h2, h3⟩ := gc_bez (q.length + 1) (mnP p) (mnP q) (QhQ _) (QhQ _) (by have := Qh6 tq; omega)
 obtain ⟨s, hs⟩ := dv_mn (l := p)
 obtain ⟨t, ht⟩ := dv_mn (l := q)
 refine ⟨⟨muP u s, muP v t, fun x => ?_⟩, h2.trans (mn_dv tp), h3.trans (mn_dv tq)⟩
 show evR (gcP _ _ _) x = _
 rw [h1, hs, ht, QjB, QjB, Rat.mul_assoc, Rat.mul_assoc]
theorem Qm2 : Trm (gcdP p q) := trm_gcP _ _ _ (QhQ _) (QhQ _)
theorem mo_gcd (tp : Trm p) (tq : Trm q) : Mo (gcdP p q) := mo_gcP _ _ _ (mo_mn tp) (mo_mn tq)
theorem gcd_ne (tp : Trm p) (tq : Trm q) (h : p ≠ [] ∨ q ≠ []) : gcdP p q ≠ [] := fun h0 => by
 obtain ⟨_, k2, k3⟩ := gcd_bez tp tq
 rw [h0] at k2 k3
 rcases h with h | h
 ·exact h (Qpp tp k2)
 ·exact h (Qpp tq k3)
theorem gcd_nil : gcdP [] [] = [] := rfl
theorem QmX (a b : List Rat) : Trm (quoP a b) := by
 unfold quoP
 split
 ·exact Qhi
 ·exact Qbc _
end

/-! ### The part without squares -/
section
variable {p : List Rat}
theorem Qn1 (tp : Trm p) (np : p ≠ []) : gcdP p (deP p) ≠ [] ∧ (∀ x, evR p x = evR (quoP p (gcdP p (deP p))) x * evR (gcdP p (deP p)) x) ∧ quoP p (gcdP p (deP p)) ≠ [] := by
 have ng := gcd_ne tp (Qh1 p) (.inl np)
 obtain ⟨_, k2, _⟩ := gcd_bez tp (Qh1 p)
 have e := (QoA Qm2 ng k2).2
 exact ⟨ng, e, fun h0 => np (Qpw tp fun x => by rw [e, h0, Qca, Rat.zero_mul])⟩
theorem frP_ne (tp : Trm p) (np : p ≠ []) : frP p ≠ [] := mn_ne (QmX _ _) (Qn1 tp np).2.2
theorem QqG (p : List Rat) : Trm (frP p) := QhQ _
theorem frP_dv (tp : Trm p) (np : p ≠ []) : Dv (frP p) p :=
 (mn_dv (QmX _ _)).trans ⟨gcdP p (deP p), fun x => by rw [(Qn1 tp np).2.1, Rat.mul_comm]⟩
end
end Go.AM

/- Chains of polynomials of at most the second degree; plain. -/
namespace Go.AM
open Go Go.RowKit
theorem trm1 {a : Rat} (h : a ≠ 0) : Trm [a] := fun n hn => by
 obtain rfl : n = 0 := by simp at hn; omega
 exact h
theorem trm2 {a b : Rat} (h : b ≠ 0) : Trm [a, b] := fun n hn => by
 obtain rfl : n = 1 := by simp at hn; omega
 exact h
/-! Constants and lines -/
/-! Squares -/
/-! Changes -/
end Go.AM

/- ref07.Free, Chain at polynomials of at most the second degree: sizes. Halving. -/
namespace Go.AM
open Go Go.RowKit
theorem QqB {K : Nat} : ∀ {l : List Rat}, SzL K l → HL (l.length * K) (l.length * K) l
 | [], _ => HL.nil _ _
 | a :: l, h => by
  obtain ⟨D, h1, h2, h3⟩ := QqB (l := l) fun q hq => h q (List.mem_cons_of_mem _ hq)
  obtain ⟨E, k1, k2, k3⟩ := Qry (h a (List.mem_cons_self ..))
  have e : (a :: l).length * K = K + l.length * K := by rw [List.length_cons, Nat.succ_mul]; omega
  rw [e]
  refine ⟨E * D, Nat.mul_pos k1 h1, QcT k2 h2, fun q hq => ?_⟩
  rcases List.mem_cons.1 hq with rfl | hq
  ·exact (k3.lift D).le (QcT (Nat.le_refl _) h2)
  ·exact ((h3 q hq).lift' E).le (QcT k2 (Nat.le_refl _))
theorem hl3 {K : Nat} {l : List Rat} (h : SzL K l) (hl : l.length ≤ 3) : HL (3 * K) (3 * K) l :=
 (QqB h).mono (Nat.mul_le_mul_right _ hl) (Nat.mul_le_mul_right _ hl)
theorem hl21 {l : List Rat} (h : SzL 7000 l) (hl : l.length ≤ 3) : HL 21000 21000 l := by
 obtain ⟨K, hK⟩ : ∃ K, K = 7000 := ⟨_, rfl⟩
 rw [← hK] at h
 have := hl3 h hl
 exact this.mono (by omega) (by omega)
theorem dv_ok {a b : List Rat} (ha : SzL 7000 a) (hb : SzL 7000 b) (na : a.length ≤ 3) (nb : b.length ≤ 3) (tb : Trm b) : dvG 800000 b (dvN a b) a ∧ HL 800000 800000 (quoP a b) ∧ SzL 800000 (remP a b) := by
 have hm : dvN a b ≤ 4 := by unfold dvN; omega
 have h1 : dvN a b * 21000 ≤ 4 * 21000 := Nat.mul_le_mul_right _ hm
 have h2 : dvN a b * (21000 + 1) ≤ 4 * (21000 + 1) := Nat.mul_le_mul_right _ hm
 have Ha := hl21 ha na
 have Hb := hl21 hb nb
 obtain ⟨x, y, z⟩ := Qoi (K := 800000) Ha Hb tb (by omega)
 exact ⟨x, z.mono (by omega) (by omega), y.sz.mono (by omega)⟩
theorem ch_done (K n : Nat) (a : List Rat) : ChOk K n a [] := by cases n with
 | zero => exact rfl
 | succ n => exact .inl rfl
theorem Qqk {n : Nat} {a b : List Rat} (ha : SzL 7000 a) (hb : SzL 7000 b) (na : a.length ≤ 3) (nb : b.length ≤ 3) (tb : Trm b) (h : ChOk 800000 n b (scP (remP a b) (-1))) : ChOk 800000 (n + 1) a b := by
 obtain ⟨h1, _, h3⟩ := dv_ok ha hb na nb tb
 exact .inr ⟨tb, by omega, (hl21 hb nb).mono (by omega) (by omega), hb.mono (by omega), h1, h3, h⟩
/-! Halving -/
def hf : Rat := Rat.divInt 1 2
end Go.AM

/- The seat's iterators: Backward alone. -/
namespace Go.AM
open Go Go.RowKit Go.Proofs

instance itsP : Its := { it := fun f ds => if f = Qag then Qks ds else none }
instance itsBP : ItsB := ⟨fun _ => if_pos rfl⟩
theorem envP : EnvOk Tryz.prog G := env_ok fun f ds xs h => by
  have h' : (if f = Qag then Qks ds else none) = some xs := h
  split at h'
  · rename_i hf
    rw [hf]
    exact QoZ h'
  · cases h'
end Go.AM

/- Iterators whose closures call themselves: a region's operations one by one; calls that yield. -/
namespace Go.AM
open Go Go.RowKit

section
variable {P : Program}
theorem QpW {n m l : Nat} {args : Array Value} {W : World} {R : Ending → World → Prop} (h : YieldAt Fence.wide n P l args W R) : YieldAt Fence.wide m P l args W R := by
 obtain ⟨fn, t, a, b, h1, h2⟩ := h
 exact ⟨fn, t, a, b, h1, h2.1, fun c cs _ => h2.2 c cs (room_wide _)⟩
theorem Qo6 {n l : Nat} {args : Array Value} {W : World} {R R' : Ending → World → Prop} (h : YieldAt Fence.wide n P l args W R) (hr : ∀ e w, R e w → R' e w) : YieldAt Fence.wide n P l args W R' := by
 obtain ⟨fn, t, a, b, h1, h2⟩ := h
 exact ⟨fn, t, a, b, h1, h2.mono hr⟩
theorem Qlg {n m : Nat} {f : FuncId} {args : Array Value} {W : World} {R : Ending → World → Prop} (h : CallsIn Fence.wide n P f args W R) : CallsIn Fence.wide m P f args W R :=
 callsIn_wide.2 (callsIn_wide.1 h)
theorem Answers.any {n m : Nat} {S : Nat → Prop} {w0 : World} {l : Nat} {J Jx : Held} {xs : List (List D)} (h : Answers P n S w0 l J Jx xs) : Answers P m S w0 l J Jx xs :=
 fun i x L V W args hx hj hr => QpW (h i x L V W args hx hj hr)
end

section
variable {S : Nat → Prop} {w0 : World} {N n : Nat} {J Jx : Held} {st s : St} {i : Nat} {a a' : Act} {W W' : World} {P : Program} {Γ : Env}
variable {ops : Array Oper} {os : List O} {R : Ex → Act → World → Prop} {k len : Nat}

def WO (P : Program) (n : Nat) (ops : Array Oper) (R : Ex → Act → World → Prop) (k len : Nat) (a : Act) (W : World) : Prop := wpOpsIn Fence.wide (n + 1) P ops (toQ R) (List.range' k len) a W
theorem QoB (h : R .n a W) : WO P n ops R k 0 a W := h
theorem Qj5     (hE : EnvOk P Γ) (hab : QgJ   w0 J) (hO : Ops P N ops os) (h : Inv S w0 N J st i a W) {B : List O} (hB : ∀ j o, B[j]? = some o → os[k + j]? = some o) (hx : exs (Qai   Γ) B st = some s)
    (hK : ∀ a' W', Inv S w0 N J s i a' W' → WO P n ops R (k + B.length) len a' W') : WO P n ops R k (B.length + len) a W := by
  obtain ⟨m, L, h⟩ := h
  unfold WO
  have hap := @List.range'_append_1 k B.length len
  rw [← hap]
  refine Qkj (wd := ⟨W, Live m st.hp, fun _ => none, fun _ => False⟩) (fun f ds r h => (QiW hE h).at (Qiv Qk6 _ _)) wide_ok hO _ h.rel (by rw [← QmB B k st hB]; exact hx) ?_
  intro m1 a1 W1 R1
  exact hK a1 W1 ⟨m1, L, h.next hab R1⟩
theorem Qrd      {o : Oper} {c : Call} {ty f : Nat} {us : List Value} (hoo : ops[k]? = some o) (hop : o.op = .call c) (hce : c.callee = .value (.tmp ty)) (hwant : Region.wanted o (yielded ops a.tmps) = true) (hv : a.eval (.tmp ty) = .func (.func f) #[] us.toArray)
    (hf : ∃ fn, P.funcs[f]? = some fn ∧ fn.body.isSome = true ∧ fn.name ≠ "runtime.NumGoroutine")
    (hcall : CallsIn Fence.wide 0 P f (c.args.toList.map a.eval ++ us).toArray W fun e W' => ∃ v, e = .returned v ∧ WO P n ops R (k + 1) len (a.put o.dst v) W') : WO P n ops R k (len + 1) a W := by
  obtain ⟨fn, hfn, hb, hn⟩ := hf
  unfold WO
  rw [List.range'_succ, wpOpsIn_cons]
  unfold wpOpIn
  simp only [hoo, hwant, if_true]
  have hargs' : c.args.map a.eval = (c.args.toList.map a.eval).toArray := by apply Array.ext'; simp
  have hexec : (execOp a.eval o).run P W = .ok (.enter f (c.args.toList.map a.eval ++ us).toArray) W := by
    simp only [execOp, hop, resolve, hce, hv, Deferred.ofValue, Sem.run_bind, Sem.run_pure, Result.andThen_ok, invoke, hargs']
    rw [Qe3 hfn hb hn]
    congr 2
    simp
  refine ⟨fun f _ => trivial, ?_⟩
  rw [Oper.semAt_eq _ _ _ (fun c' h => by rw [hop] at h; cases h), hexec, Oper.uponIn_enter]
  refine ⟨fun h => (by cases h), ?_⟩
  refine (Qlg hcall).mono ?_
  rintro e W2 ⟨v, rfl, h⟩
  exact h

def OwesY (P : Program) (S : Nat → Prop) (w0 : World) (J Jx : Held) (f i mm : Nat) (ds : List D) : Prop :=
 ∀ (L V : Nat → Prop) (W : World) (args : List Value), J i L V W → (∀ b, V b → w0.heap.size ≤ b ∧ b < W.heap.size) → (∀ b, L b → b < W.heap.size) → w0.heap.size ≤ W.heap.size →
  RepL (fun b => (S b ∨ w0.heap.size ≤ b) ∧ b < W.heap.size ∧ ¬ V b ∧ ¬ L b) W ds args →
  CallsIn Fence.wide 0 P f args.toArray W fun e W' => ∃ L', Foot L W W' ∧ (∀ b, L' b → b < W.heap.size → L b) ∧ (∀ b, L' b → b < W'.heap.size) ∧
   ((e = .returned (.bool true) ∧ J (i + mm) L' V W') ∨ (e = .returned (.bool false) ∧ ∃ i', Jx i' L' V W'))

theorem Inv1.after {m : Key → Nat} {L L' : Nat → Prop} {J' : Held} {j : Nat} (h : Inv1 S w0 N J st i a W m L) (f1 : Foot L W W') (f2 : ∀ b, L' b → b < W.heap.size → L b) (f3 : ∀ b, L' b → b < W'.heap.size) (hj : J' j L' (Live m st.hp) W') : Inv1 S w0 N J' st j a W' m L' := by
 have hsz : W.heap.size ≤ W'.heap.size := f1.size
 have R2 : Rel (fun b => (S b ∨ w0.heap.size ≤ b) ∧ ¬ L' b) N ⟨W', Live m st.hp, fun _ => none, fun _ => False⟩ m st a W' :=
  h.rel.move rfl hsz (fun b hb hs => ⟨hs.1, fun hl => hs.2 (f2 b hl hb)⟩) (fun b cs T fz hs hh => by rw [f1.block b (Qcz hh) hs.2]; exact hh)
   (fun b hb => ⟨.inr (by have := h.sz; omega), fun hl => by have := f3 b hl; omega⟩) (Foot.refl _ _) (fun k o ho hz => .inl ⟨k, o, ho, hz, rfl⟩) ⟨[], (show Inv S w0 N J st i a W from ⟨m, L, h⟩).nodefer, List.nodup_nil, by simp⟩ (fun k b hb => by cases hb)
 exact ⟨R2, hj, f3, h.ge, Nat.le_trans h.sz hsz⟩

theorem Qqg     (hO : Ops P N ops os) {d : Option Nat} {ty : Nat} {es : List E} {g : Option (Nat × Bool)} (ho : os[k]? = some ⟨d, .calv (.t ty) es, g⟩) :
    ∃ o c, ops[k]? = some o ∧ o.op = .call c ∧ c.callee = .value (.tmp ty) ∧ mapO QaA c.args.toList = some es ∧ o.dst = d ∧ QpM ops o.guard = some g := by
  have hk : k < os.length := (List.getElem?_eq_some_iff.1 ho).1
  have hk2 : k < ops.size := by rw [← hO.len]; exact hk
  obtain ⟨o2, g2, gc, gd, gg⟩ := hO.at_ k ops[k] (by simp [hk2])
  rw [ho] at g2
  cases g2
  obtain ⟨c, u, k1, k2, k3, k4⟩ := Qib gc
  cases u with
  | tmp u => simp only [QaA, Option.some.injEq, E.t.injEq] at k3; subst k3; exact ⟨ops[k], c, by simp [hk2], k1, k2, k4, gd.symm, gg⟩
  | _ => simp [QaA] at k3

theorem Qj4 {m : Key → Nat} {hp : Hp} {T : Nat → Prop} {w : World} : ∀ (xs : List D) (vs : List Value), RepAL m hp T w (xs.map A.d) vs → RepL T w xs vs
 | [], vs, hv => by cases hv; exact .nil
 | y :: ys, vs, hv => by
  cases hv with
  | cons _ _ v vs hy ht => exact .cons _ _ _ _ (QgM hy) (Qj4 ys vs ht)

theorem wo_call (hE : EnvOk P Γ) (hab : QgJ   w0 J) (habx : QgJ   w0 Jx) (hO : Ops P N ops os) (h : Inv S w0 N J st i a W) {d ty f mm : Nat} {es : List E} {g : Option (Nat × Bool)} {x caps : List D}
    (ho : os[k]? = some ⟨some d, .calv (.t ty) es, g⟩) (hg : QcM st g = some true) (h2 : st.fr ty = some (.d (.fn f caps))) (h3 : allE st es = some (x.map .d))
    (hf : ∃ fn, P.funcs[f]? = some fn ∧ fn.body.isSome = true ∧ fn.name ≠ "runtime.NumGoroutine") (hcon : OwesY P S w0 J Jx f i mm (x ++ caps))
    (hKt : ∀ a' W', Inv S w0 N J { st with fr := upd st.fr d (.d (.v (.bool true))) } (i + mm) a' W' → WO P n ops R (k + 1) len a' W')
    (hKf : ∀ i' a' W', Inv S w0 N Jx { st with fr := upd st.fr d (.d (.v (.bool false))) } i' a' W' → WO P n ops R (k + 1) len a' W') : WO P n ops R k (len + 1) a W := by
  obtain ⟨o, c, hoo, hop, hce, hargs, hd, hgg⟩ := Qqg hO ho
  have hdN : d < N := hO.lt _ (List.mem_of_getElem? ho) d rfl
  obtain ⟨m, L, h⟩ := h
  have hv := h.rel.fr ty _ h2
  obtain ⟨us, hus, hrc⟩ : ∃ us : List Value, a.eval (.tmp ty) = .func (.func f) #[] us.toArray ∧ RepL (Im (fun b => (S b ∨ w0.heap.size ≤ b) ∧ ¬ L b) m st.hp W) W caps us := by
    have := QgM hv
    generalize hz : a.tmps.getD ty undef = z at this
    cases this with
    | fn _ _ vs hl => exact ⟨vs, hz, hl⟩
  obtain ⟨hrep, _⟩ := Qe0 h.rel hargs h3
  have hra := Qj4 _ _ hrep
  refine Qrd hoo hop hce (QeG h.rel hgg rfl hg) hus hf ?_
  refine (hcon L (Live m st.hp) W _ h.j (fun b hb => ⟨h.ge b hb, ?_⟩) h.lt h.sz ((hra.append hrc).mono (fun b hb => ⟨hb.1.1, hb.2.1, hb.2.2, hb.1.2⟩) (fun _ _ => rfl))).mono ?_
  · obtain ⟨k, o, ho, hf, rfl⟩ := hb
    exact h.rel.lt ho
  rintro e W2 ⟨L', f1, f2, f3, f4⟩
  have go : ∀ (t : Bool) (J' : Held) (j : Nat), J' j L' (Live m st.hp) W2 → (∀ a' W', Inv S w0 N J' { st with fr := upd st.fr d (.d (.v (.bool t))) } j a' W' → WO P n ops R (k + 1) len a' W') → WO P n ops R (k + 1) len (a.put o.dst (.bool t)) W2 := by
    intro t J' j hj hK
    have I2 := h.after f1 f2 f3 hj
    have R3 := I2.rel.put (dst := some d) (y := .d (.v (.bool t))) (v := .bool t) (fun d' hd' => by cases hd'; exact hdN) (.d _ _ (.v _)) trivial
    rw [hd]
    exact hK _ _ ⟨m, L', R3, hj, f3, I2.ge, I2.sz⟩
  rcases f4 with ⟨rfl, hj⟩ | ⟨rfl, i', hj⟩
  · exact ⟨_, rfl, go true J _ hj hKt⟩
  · exact ⟨_, rfl, go false Jx i' hj (hKf i')⟩

theorem Qov {d : Option Nat} {ty k0 : Nat} {es : List E} {g : Option (Nat × Bool)} (hk : os[k0]? = some ⟨d, .calv (.t ty) es, g⟩) (h : ∀ ops, Ops P N ops os → WO P n ops R 0 os.length a W) : WY P N (n + 1) (.reg (os.map O.er) []) R a W := by
  refine Qns (by simp only [QfG, ne_eq, reduceCtorEq, not_false_eq_true]) fun hw code ho hns hc => ?_
  cases code <;> first | exact absurd rfl (hns _) | (obtain ⟨_, _, _, _, h'⟩ := Qen hc; cases h') | skip
  case region id ops draw =>
    simp only [QaO, Option.bind_eq_some_iff] at hc
    obtain ⟨os', hos, hc⟩ := hc
    have hos' : os' = os.map O.er := by
      split at hc
      · split at hc
        · simp only [Option.map_eq_some_iff, C.reg.injEq] at hc
          obtain ⟨_, _, rfl, _⟩ := hc; rfl
        · cases hc
      · simp only [Option.some.injEq, C.reg.injEq] at hc; exact hc.1
    subst hos'
    have hO := Qmx (N := N) hos (by simpa only [C.within] using hw)
    obtain ⟨o, c, hoo, hop, hcal, _, _, _⟩ := Qqg hO hk
    have hdraw : draw = false := by
      cases draw with
      | false => rfl
      | true =>
        simp only [okY, Bool.not_true, Bool.false_or, List.all_eq_true] at ho
        have := ho o (Array.mem_toList_iff.2 (Array.mem_of_getElem? hoo))
        rw [hop] at this
        simp only [hcal] at this
        cases this
    subst hdraw
    refine wpIn_region ?_
    have h1 := h ops hO
    rw [hO.len] at h1
    rw [List.range_eq_range']
    exact h1
  all_goals simp [QaO, Option.bind_eq_some_iff] at hc
end

/-! ### Seen from the callee -/
def Under (W : World) (L0 V0 : Nat → Prop) (J : Held) : Held := fun i L V W' => J i L (fun b => V b ∨ V0 b) W' ∧ Foot L0 W W' ∧ (∀ b, L b → b < W.heap.size → L0 b) ∧ (∀ b, L b → b < W'.heap.size) ∧ (∀ b, V b → W.heap.size ≤ b)
def SIn (S : Nat → Prop) (w0 W : World) (L0 V0 : Nat → Prop) (b : Nat) : Prop := (S b ∨ w0.heap.size ≤ b) ∧ b < W.heap.size ∧ ¬ V0 b ∧ ¬ L0 b
section
variable {S : Nat → Prop} {w0 W : World} {L0 V0 : Nat → Prop} {J Jx : Held} {P : Program} {n l : Nat} {xs : List (List D)}
theorem Under.abide (hab : QgJ w0 J) (hV0 : ∀ b, V0 b → w0.heap.size ≤ b ∧ b < W.heap.size) (hsz : w0.heap.size ≤ W.heap.size) : QgJ W (Under W L0 V0 J) := by
 rintro i L V V' W1 W2 ⟨h1, h2, h3, h4, h5⟩ hf hv1 hv2
 have z1 : W.heap.size ≤ W1.heap.size := h2.size
 have z2 : W1.heap.size ≤ W2.heap.size := hf.size
 refine ⟨hab i L _ _ W1 W2 h1 (hf.mono fun b _ hb => .inl hb) ?_ ?_, ?_, h3, fun b hb => Nat.lt_of_lt_of_le (h4 b hb) z2, fun b hb => (hv2 b hb).1⟩
 ·rintro b (hb | hb) hlt
  ·exact .inl (hv1 b hb hlt)
  ·exact .inr hb
 ·rintro b (hb | hb)
  ·exact ⟨by have := (hv2 b hb).1; omega, (hv2 b hb).2⟩
  ·have := hV0 b hb
   exact ⟨this.1, by omega⟩
 ·exact h2.trans hf (fun b hb => .inr (h5 b hb))
theorem Under.answers (hans : Answers P n S w0 l J Jx xs) (hV0 : ∀ b, V0 b → w0.heap.size ≤ b ∧ b < W.heap.size) (hsz : w0.heap.size ≤ W.heap.size) : Answers P n (SIn S w0 W L0 V0) W l (Under W L0 V0 J) (Under W L0 V0 Jx) xs := by
 rintro i x L V W1 args hx ⟨h1, h2, h3, h4, h5⟩ hr
 have z1 : W.heap.size ≤ W1.heap.size := h2.size
 refine Qo6 (hans i x L _ W1 args hx h1 (hr.mono (fun b hb => ?_) (fun _ _ => rfl))) ?_
 ·obtain ⟨hb1, hb2, hb3, hb4⟩ := hb
  rcases hb1 with hb1 | hb1
  ·exact ⟨hb1.1, hb2, fun h => h.elim hb3 hb1.2.2.1, hb4⟩
  ·exact ⟨.inr (by omega), hb2, fun h => h.elim hb3 (fun h => by have := (hV0 b h).2; omega), hb4⟩
 ·rintro e W2 ⟨L', f1, f2, f3, f4⟩
  have g : ∀ (J' : Held), J' (i + 1) L' (fun b => V b ∨ V0 b) W2 → Under W L0 V0 J' (i + 1) L' V W2 := fun J' hj =>
   ⟨hj, h2.trans f1 (fun b hb => if hlt : b < W.heap.size then .inl (h3 b hb hlt) else .inr (by omega)), fun b hb hlt => h3 b (f2 b hb (by omega)) hlt, f3, h5⟩
  refine ⟨L', f1, f2, f3, ?_⟩
  rcases f4 with ⟨rfl, hj⟩ | ⟨rfl, hj⟩
  ·exact .inl ⟨rfl, g J hj⟩
  ·exact .inr ⟨rfl, g Jx hj⟩
end
section
variable {P : Program} {Γ : Env}
theorem owes_ok (hE : EnvOk P Γ) {f : Nat} {cf : CF} {fn : Func} {ds : List D} {xs : List (List D)} {n l i mm : Nat} {S : Nat → Prop} {w0 : World} {J Jx : Held} (hf : P.funcs[f]? = some fn) (hc : QjD   P fn = some cf.er) (hok : ∀ b, fn.body = some b → okY b = true) (hnp : cf.np = ds.length)
    (hab : QgJ w0 J) (habx : QgJ w0 Jx) (hans : Answers P n S w0 l J Jx xs)
    (hwalk : ∀ (S : Nat → Prop) (w0 : World) (J Jx : Held) (a : Act) (W : World), QgJ w0 J → QgJ w0 Jx → Answers P n S w0 l J Jx xs → Inv S w0 fn.ntmps J ⟨argF 0 ds, hp0, []⟩ i a W →
      WY P fn.ntmps (n + 1) cf.body.er (fun e a' W' => (∀ id, e ≠ .x id) ∧ ((∃ st, resL st cf.res = some [.d (.v (.bool true))] ∧ Inv S w0 fn.ntmps J st (i + mm) a' W') ∨ ∃ st i', resL st cf.res = some [.d (.v (.bool false))] ∧ Inv S w0 fn.ntmps Jx st i' a' W')) a W) : OwesY P S w0 J Jx f i mm ds := by
  simp only [QjD, Option.bind_eq_some_iff] at hc
  obtain ⟨body, hb, c, hcc, hc⟩ := hc
  split at hc
  · rename_i hchk
    simp only [Bool.and_eq_true, decide_eq_true_eq, bne_iff_ne, ne_eq] at hchk
    obtain ⟨⟨hw, hsz⟩, hname⟩ := hchk
    simp only [Option.map_eq_some_iff] at hc
    obtain ⟨rs, hrs, hcf'⟩ := hc
    have e1 : cf.np = fn.params.size + fn.nfree := (congrArg CF.np hcf').symm
    have e2 : c = cf.body.er := congrArg CF.body hcf'
    have e3 : rs = cf.res := congrArg CF.res hcf'
    subst e2
    rw [e3] at hrs
    intro L V W vs hj hV0 hL0 hsz0 hrep
    have hvl : vs.length = ds.length := hrep.length.symm
    have hN : ((vs.toArray : Array Value) ++ Array.replicate (fn.ntmps - (vs.toArray : Array Value).size) undef).size = fn.ntmps := by simp; omega
    refine Qlg (callsIn_of_wp (n := n + 1) (F := Fence.wide) hf hb trivial ?_)
    have hR : Inv (SIn S w0 W L V) W fn.ntmps (Under W L V J) ⟨argF 0 ds, hp0, []⟩ i { tmps := (vs.toArray : Array Value) ++ Array.replicate (fn.ntmps - (vs.toArray : Array Value).size) undef, defers := [] } W := by
      have hSm : ∀ b, ((S b ∨ w0.heap.size ≤ b) ∧ b < W.heap.size ∧ ¬ V b ∧ ¬ L b) → Im (fun b => (SIn S w0 W L V b ∨ W.heap.size ≤ b) ∧ ¬ L b) (fun _ => 0) hp0 W b := fun b hb => ⟨⟨.inl hb, hb.2.2.2⟩, hb.2.1, fun ⟨_, _, h, _⟩ => by simp [hp0] at h⟩
      have hV : (fun b => Live (fun _ => 0) hp0 b ∨ V b) = V := by
        funext b; exact propext ⟨fun h => h.elim (fun ⟨_, _, h, _⟩ => by simp [hp0] at h) id, .inr⟩
      refine ⟨fun _ => 0, L, ⟨⟨fun i x hx => ?_, fun _ _ h => by simp [hp0] at h, fun _ _ _ _ h => by simp [hp0] at h, fun i x hx => ?_, fun _ _ _ h => by simp [hp0] at h, fun _ _ h => by simp [hp0] at h, fun _ _ h => by simp [hp0] at h, Foot.refl _ _, Marks.nil _ _ _, hN, fun b hb => ⟨.inr hb, fun hl => by have := hL0 b hl; omega⟩, fun _ _ h => by cases h⟩, ?_, hL0, fun b ⟨_, _, h, _⟩ => by simp [hp0] at h, Nat.le_refl _⟩⟩
      · obtain ⟨_, d, hd, rfl⟩ := Qg9 ds 0 i x hx
        obtain ⟨v, hv, hdv⟩ := hrep.get i d (by simpa using hd)
        have : ((vs.toArray : Array Value) ++ Array.replicate (fn.ntmps - (vs.toArray : Array Value).size) undef).getD i undef = v := by
          have hil : i < vs.length := (List.getElem?_eq_some_iff.1 hv).1
          rw [Array.getD_eq_getD_getElem?, Array.getElem?_append_left (by simpa using hil)]
          simp [hv]
        rw [this]
        exact .d _ _ (hdv.mono hSm (fun _ _ => rfl))
      · obtain ⟨_, d, _, rfl⟩ := Qg9 ds 0 i x hx
        trivial
      · refine ⟨?_, Foot.refl _ _, fun b hb _ => hb, hL0, fun b ⟨_, _, h, _⟩ => by simp [hp0] at h⟩
        show J i L (fun b => Live (fun _ => 0) hp0 b ∨ V b) W
        rw [hV]; exact hj
    refine wpIn_mono (hwalk _ W _ _ _ W (Under.abide hab hV0 hsz0) (Under.abide habx hV0 hsz0) (Under.answers hans hV0 hsz0) hR hw body (hok body hb) hcc) ?_
    intro e a' W' hq
    have key : ∀ (t : Bool) (J' : Held) (j : Nat) (st : St), QgJ w0 J' → resL st cf.res = some [.d (.v (.bool t))] → Inv (SIn S w0 W L V) W fn.ntmps (Under W L V J') st j a' W' → a'.defers = [] ∧ (results fn a'.tmps).run P W' = .ok (.bool t) W' ∧ ∃ L', Foot L W W' ∧ (∀ b, L' b → b < W.heap.size → L b) ∧ (∀ b, L' b → b < W'.heap.size) ∧ J' j L' V W' := by
      intro t J' j st hab' hr hI
      refine ⟨hI.nodefer, ?_, ?_⟩
      · obtain ⟨m, L', hI⟩ := hI
        obtain ⟨us, k1, k2, _⟩ := Qio hI.rel hrs hr
        cases k2 with
        | cons _ _ v vs' hv ht =>
          cases ht
          have := Qfb hv
          subst this
          exact Qhs k1
      · obtain ⟨m, L', hI⟩ := hI
        obtain ⟨h1, h2, h3, h4, h5⟩ := hI.j
        exact ⟨L', h2, h3, h4, hab' j L' _ _ W' W' h1 (Foot.refl _ _) (fun b hb _ => .inr hb) (fun b hb => ⟨(hV0 b hb).1, Nat.lt_of_lt_of_le (hV0 b hb).2 h2.size⟩)⟩
    have fin : ((∃ st, resL st cf.res = some [.d (.v (.bool true))] ∧ Inv (SIn S w0 W L V) W fn.ntmps (Under W L V J) st (i + mm) a' W') ∨ ∃ st i', resL st cf.res = some [.d (.v (.bool false))] ∧ Inv (SIn S w0 W L V) W fn.ntmps (Under W L V Jx) st i' a' W') →
        a'.defers = [] ∧ ∃ v, (results fn a'.tmps).run P W' = .ok v W' ∧ ∃ L', Foot L W W' ∧ (∀ b, L' b → b < W.heap.size → L b) ∧ (∀ b, L' b → b < W'.heap.size) ∧ ((Ending.returned v = .returned (.bool true) ∧ J (i + mm) L' V W') ∨ (Ending.returned v = .returned (.bool false) ∧ ∃ i', Jx i' L' V W')) := by
      rintro (⟨st, hr, hI⟩ | ⟨st, i', hr, hI⟩)
      · obtain ⟨h1, h2, L', h3, h4, h5, h6⟩ := key true J _ st hab hr hI
        exact ⟨h1, _, h2, L', h3, h4, h5, .inl ⟨rfl, h6⟩⟩
      · obtain ⟨h1, h2, L', h3, h4, h5, h6⟩ := key false Jx _ st habx hr hI
        exact ⟨h1, _, h2, L', h3, h4, h5, .inr ⟨rfl, i', h6⟩⟩
    cases e with
    | normal => exact fin hq.2
    | ret => exact fin hq.2
    | exit id => exact absurd rfl (hq.1 id)
    | _ => exact hq.elim
  · cases hc
end
end Go.AM

/- sturm.zeros' closure that calls itself. -/
namespace Go.AM
open Go Go.RowKit Go.Proofs
def C.fst7 : C → C
 | .seq a _ => a
 | .blk _ a => a
 | .loop a => a
 | c => c
def C.snd7 : C → C
 | .seq _ b => b
 | c => c
def wtZ (K : Nat) (ps : List (List Rat)) : Nat → Rat × Rat → Option (List (Rat × Rat))
  | 0, _ => none
  | n + 1, l => if sz l.1 ≤ K ∧ sz l.2 ≤ K then
      if cnt ps l.1 l.2 = 0 then some [] else if cnt ps l.1 l.2 = 1 then some [l]
      else (wtZ K ps n (l.1, mid l.1 l.2)).bind fun a => (wtZ K ps n (mid l.1 l.2, l.2)).map (a ++ ·)
    else none
def zr_A : C := sturm_zeros_1_1.body.fst7
def zr_B : C := sturm_zeros_1_1.body.snd7.fst7.fst7
def zr_blk : C := sturm_zeros_1_1.body.snd7.fst7.snd7.fst7.fst7
def zr_C : C := zr_blk.fst7
def Qk2 : C := zr_blk.snd7
def zr_D : C := match Qk2 with | .cond _ a _ => a.fst7 | c => c
def zr_E : C := match Qk2 with | .cond _ _ b => b.fst7 | c => c
def zr_M : C := sturm_zeros_1_1.body.snd7.snd7.fst7
def zr_Y1 : List O := [⟨some 17, .load none (.t 2), none⟩, ⟨some 18, .load (some 8) (.t 4), none⟩]
def zr_Y2 : List O := [⟨some 5, .mov (.t 19), none⟩]
def zr_V1 : List O := [⟨some 22, .load none (.t 3), none⟩, ⟨some 23, .fad 0 (.t 4), none⟩, ⟨some 24, .load (some 4) (.t 23), none⟩, ⟨some 25, .load (some 4) (.t 6), none⟩,
 ⟨some 26, .build [.v (.bool false), .z true, .v (.bool false), .z true, .v (.bool false), .z true, .v (.bool false), .z true] [(0, 4, (.t 24)), (4, 4, (.t 25))], none⟩]
def Qpi : List O := [⟨some 28, .mov (.t 27), none⟩, ⟨some 29, .load none (.t 3), some (28, true)⟩, ⟨some 30, .load (some 4) (.t 6), some (28, true)⟩, ⟨some 31, .fad 4 (.t 4), some (28, true)⟩, ⟨some 32, .load (some 4) (.t 31), some (28, true)⟩,
 ⟨some 33, .build [.v (.bool false), .z true, .v (.bool false), .z true, .v (.bool false), .z true, .v (.bool false), .z true] [(0, 4, (.t 30)), (4, 4, (.t 32))], some (28, true)⟩]
def Qn4 : List O := [⟨some 35, .pick (.t 28) (.t 34) (.c (.v (.bool false))), none⟩, ⟨some 5, .mov (.t 35), none⟩]
def zr_V : List O := zr_V1 ++ ⟨some 27, .calv (.t 22) [.t 26], none⟩ :: (Qpi ++ ⟨some 34, .calv (.t 29) [.t 33], some (28, true)⟩ :: Qn4)
theorem zr_shape : sturm_zeros_1_1.body.er = .seq zr_A.er (.seq (.seq zr_B.er (.blk 0 (.seq zr_C.er (.cond (.t 13) (.seq zr_D.er .ret) (.seq zr_E.er (.cond (.t 15) (.seq (.reg ((zr_Y1 ++ ⟨some 19, .calv (.t 17) [.t 18], none⟩ :: zr_Y2).map O.er) []) .ret) .skip)))))) (.seq zr_M.er (.seq (.reg (zr_V.map O.er) []) .ret))) := rfl
def vpre (dc : D) (y : Nat) : List D := [.rp [dc], .rp [yv y]]
def bxZ (l : Rat × Rat) : Obj := ⟨0, 0, (c2R l).map .d, false⟩
def Qp8 (dc : D) (y : Nat) (l : Rat × Rat) : List D := [enc2 l, .rp [dc], .rp [yv y], .rc Qao (vpre dc y)]
section
variable [Its] {dc : D} {y : Nat} {l : Rat × Rat} {ps : List (List Rat)}
def zr_s1 (dc : D) (y : Nat) (l : Rat × Rat) : St := mkS [(1, .d (.rp [dc])), (2, .d (.rp [yv y])), (3, .d (.rc Qao (vpre dc y))), (4, .ptr [4] 0)] [([4], bxZ l)]
def zr_s2 (dc : D) (y : Nat) (l : Rat × Rat) (n : Int) : St := mkS [(2, .d (.rp [yv y])), (3, .d (.rc Qao (vpre dc y))), (4, .ptr [4] 0), (12, ai n)] [([4], bxZ l)]
def Qso (dc : D) (y : Nat) (l : Rat × Rat) (n : Int) (b : Bool) : St := mkS [(2, .d (.rp [yv y])), (3, .d (.rc Qao (vpre dc y))), (4, .ptr [4] 0), (12, ai n), (13, ab b)] [([4], bxZ l)]
def Qno (dc : D) (y : Nat) (l : Rat × Rat) (b : Bool) : St := mkS [(2, .d (.rp [yv y])), (3, .d (.rc Qao (vpre dc y))), (4, .ptr [4] 0), (15, ab b)] [([4], bxZ l)]
def Qme (dc : D) (y : Nat) (l : Rat × Rat) (m : Rat) : St := mkS [(3, .d (.rc Qao (vpre dc y))), (4, .ptr [4] 0), (6, .ptr [6] 0)] [([4], bxZ l), ([6], boxR m)]
theorem zr_a : X G zr_A ⟨argF 0 (Qp8 dc y l), hp0, []⟩ = some (.n, zr_s1 dc y l) := by
 obtain ⟨lo, hi⟩ := l
 simp -implicitDefEqProofs (maxSteps:=9^8) only [zr_A, sturm_zeros_1_1, C.fst7, Qp8, zr_s1, bxZ, enc2, c2R, argF, yv, go_sem, iv, bv, reduceCtorEq, ↓reduceIte, Nat.reduceEqDiff]
theorem zr_b [ItsB] (hr : RwC dc ps) (hn : ps.length ≤ 1000) {K : Nat} (hs : ∀ p ∈ ps, SzL K p ∧ p.length * (2 * K + 1) ≤ 40000000000) (h1 : sz l.1 ≤ K) (h2 : sz l.2 ≤ K) (hK : K ≤ 1000000000) : X G zr_B (zr_s1 dc y l) = some (.n, zr_s2 dc y l (cnt ps l.1 l.2)) := by
 have g := QiE hr hn hs h1 h2 hK
 generalize cnt ps l.1 l.2 = c at *
 obtain ⟨lo, hi⟩ := l
 simp only [encR, iv] at g
 simp -implicitDefEqProofs (maxSteps:=9^8) only [zr_B, sturm_zeros_1_1, C.fst7, C.snd7, zr_s1, zr_s2, bxZ, c2R, yv, g, QkF, Qr4, Qsu, List.map_cons, List.map_nil, go_sem, iv, bv, reduceCtorEq, ↓reduceIte, Nat.reduceEqDiff]
theorem zr_c {n : Int} : X G zr_C (zr_s2 dc y l n) = some (.n, Qso dc y l n (n == 0)) := by
 obtain ⟨lo, hi⟩ := l
 simp -implicitDefEqProofs (maxSteps:=9^8) only [zr_C, zr_blk, sturm_zeros_1_1, C.fst7, C.snd7, zr_s2, Qso, bxZ, c2R, yv, List.map_cons, List.map_nil, go_sem, iv, bv, reduceCtorEq, ↓reduceIte, Nat.reduceEqDiff]
theorem zr_d {n : Int} : X G zr_D (Qso dc y l n true) = some (.n, mkS [(5, ab true)] []) := by
 obtain ⟨lo, hi⟩ := l
 simp -implicitDefEqProofs (maxSteps:=9^8) only [zr_D, Qk2, zr_blk, sturm_zeros_1_1, C.fst7, C.snd7, Qso, bxZ, c2R, yv, Qaa, List.map_cons, List.map_nil, go_sem, iv, bv, reduceCtorEq, ↓reduceIte, Nat.reduceEqDiff]
theorem zr_e {n : Int} : X G zr_E (Qso dc y l n false) = some (.n, Qno dc y l (n == 1)) := by
 obtain ⟨lo, hi⟩ := l
 simp -implicitDefEqProofs (maxSteps:=9^8) only [zr_E, Qk2, zr_blk, sturm_zeros_1_1, C.fst7, C.snd7, Qso, Qno, bxZ, c2R, yv, Qaa, List.map_cons, List.map_nil, go_sem, iv, bv, reduceCtorEq, ↓reduceIte, Nat.reduceEqDiff]
theorem zr_m (h1 : sz l.1 ≤ 1000000000) (h2 : sz l.2 ≤ 1000000000) : X G (.seq (.keep [3, 4] [[4]]) zr_M) (Qno dc y l false) = some (.n, Qme dc y l (mid l.1 l.2)) := by
 have g := QlD h1 h2
 generalize mid l.1 l.2 = m at *
 obtain ⟨lo, hi⟩ := l
 simp only [encR, enc2, c2R, iv] at g
 simp -implicitDefEqProofs (maxSteps:=9^8) only [zr_M, sturm_zeros_1_1, C.fst7, C.snd7, Qno, Qme, bxZ, boxR, c2R, yv, g, st4q, ld8q, Qaa, List.map_cons, List.map_nil, go_sem, iv, bv, reduceCtorEq, ↓reduceIte, Nat.reduceEqDiff]
def zr_fn (dc : D) (y : Nat) : D := .fn Qao (vpre dc y ++ [.rc Qao (vpre dc y)])
def QpH (dc : D) (y : Nat) (l : Rat × Rat) (m : Rat) : St := ⟨upd (upd (upd (upd (upd (Qme dc y l m).fr 22 (.d (zr_fn dc y))) 23 (.ptr [4] 0)) 24 (.d (encR l.1))) 25 (.d (encR m))) 26 (.d (enc2 (l.1, m))), (Qme dc y l m).hp, []⟩
def Qsr (dc : D) (y : Nat) (l : Rat × Rat) (m : Rat) (t : Bool) : St := { QpH dc y l m with fr := upd (QpH dc y l m).fr 27 (.d (.v (.bool t))) }
def zr_s7 (dc : D) (y : Nat) (l : Rat × Rat) (m : Rat) : St := ⟨upd (upd (upd (upd (upd (upd (Qsr dc y l m true).fr 28 (.d (.v (.bool true)))) 29 (.d (zr_fn dc y))) 30 (.d (encR m))) 31 (.ptr [4] 4)) 32 (.d (encR l.2))) 33 (.d (enc2 (m, l.2))), (Qme dc y l m).hp, []⟩
def zr_t7 (dc : D) (y : Nat) (l : Rat × Rat) (m : Rat) (t : Bool) : St := { zr_s7 dc y l m with fr := upd (zr_s7 dc y l m).fr 34 (.d (.v (.bool t))) }
def Qo7 (dc : D) (y : Nat) (l : Rat × Rat) : St := ⟨upd (upd (Qno dc y l true).fr 17 (.d (yv y))) 18 (.d (enc2 l)), (Qno dc y l true).hp, []⟩
theorem zr_py : exs (Qai G) zr_Y1 (Qno dc y l true) = some (Qo7 dc y l) := by
 obtain ⟨lo, hi⟩ := l
 simp -implicitDefEqProofs (maxSteps:=9^8) only [zr_Y1, Qo7, Qno, bxZ, enc2, c2R, yv, QkF, ld8q, List.map_cons, List.map_nil, go_sem, iv, bv, reduceCtorEq, ↓reduceIte, Nat.reduceEqDiff]
theorem zr_qy (t : Bool) : exs (Qai G) zr_Y2 { Qo7 dc y l with fr := upd (Qo7 dc y l).fr 19 (.d (.v (.bool t))) } = some ⟨upd (upd (Qo7 dc y l).fr 19 (.d (.v (.bool t)))) 5 (.d (.v (.bool t))), (Qo7 dc y l).hp, []⟩ := by
 obtain ⟨lo, hi⟩ := l
 simp -implicitDefEqProofs (maxSteps:=9^8) only [zr_Y2, Qo7, Qno, bxZ, enc2, c2R, yv, List.map_cons, List.map_nil, go_sem, iv, bv, reduceCtorEq, ↓reduceIte, Nat.reduceEqDiff]
theorem zr_v1 {m : Rat} : exs (Qai G) zr_V1 (Qme dc y l m) = some (QpH dc y l m) := by
 obtain ⟨lo, hi⟩ := l
 simp -implicitDefEqProofs (maxSteps:=9^8) only [zr_V1, Qme, QpH, zr_fn, bxZ, boxR, enc2, encR, c2R, yv, Qm3, ld4q, Qr4, Qsu, QeP, Qcn, List.map_cons, List.map_nil, go_sem, iv, bv, reduceCtorEq, ↓reduceIte, Nat.reduceEqDiff]
theorem zr_v2 {m : Rat} : exs (Qai G) Qpi (Qsr dc y l m true) = some (zr_s7 dc y l m) := by
 obtain ⟨lo, hi⟩ := l
 simp -implicitDefEqProofs (maxSteps:=9^8) only [Qpi, Qsr, Qme, QpH, zr_s7, zr_fn, bxZ, boxR, enc2, encR, c2R, yv, Qm3, ld4q, Qr4, Qsu, QeP, Qcn, List.map_cons, List.map_nil, go_sem, iv, bv, reduceCtorEq, ↓reduceIte, Nat.reduceEqDiff]
theorem zr_v3 {m : Rat} (t : Bool) : ∃ s, exs (Qai G) Qn4 (zr_t7 dc y l m t) = some s ∧ resL s sturm_zeros_1_1.res = some [.d (.v (.bool t))] := by
 obtain ⟨lo, hi⟩ := l
 refine ⟨_, by
  simp -implicitDefEqProofs (maxSteps:=9^8) only [Qn4, zr_t7, Qsr, Qme, QpH, zr_s7, bxZ, boxR, c2R, List.map_cons, List.map_nil, go_sem, iv, bv, reduceCtorEq, ↓reduceIte, Nat.reduceEqDiff]
  rfl, rfl⟩
theorem zr_vf {m : Rat} : ∃ s, exs (Qai G) (Qpi ++ ⟨some 34, .calv (.t 29) [.t 33], some (28, true)⟩ :: Qn4) (Qsr dc y l m false) = some s ∧ resL s sturm_zeros_1_1.res = some [.d (.v (.bool false))] := by
 obtain ⟨lo, hi⟩ := l
 refine ⟨_, by
  simp -implicitDefEqProofs (maxSteps:=9^8) only [Qpi, Qn4, Qsr, Qme, QpH, bxZ, boxR, c2R, List.cons_append, List.nil_append, List.map_cons, List.map_nil, go_sem, iv, bv, reduceCtorEq, ↓reduceIte, Nat.reduceEqDiff]
  rfl, rfl⟩
end
end Go.AM

/- sturm.zeros' closure that calls itself: what a call owes. -/
namespace Go.AM
open Go Go.RowKit Go.Proofs
theorem vis_okY : ∀ b, Tryz.f111.body = some b → okY b = true := by
 intro b hb
 have : (Tryz.f111.body.map okY) = some true := by kernel_rfl
 rw [hb] at this
 simpa using this
theorem vis_fn : ∃ fn, Tryz.prog.funcs[Qao]? = some fn ∧ fn.body.isSome = true ∧ fn.name ≠ "runtime.NumGoroutine" := ⟨_, Tryz.func111, by kernel_rfl, by
 have : (Tryz.f111.name == "runtime.NumGoroutine") = false := by kernel_rfl
 exact fun h => by rw [h] at this; simp at this⟩
theorem zr_len : zr_V.length = zr_V1.length + 10 := rfl
theorem vis_ok {dc : D} {ps : List (List Rat)} {xs : List (List D)} {y n : Nat} {K : Nat} (hr : RwC dc ps) (hn : ps.length ≤ 1000) (hs : ∀ p ∈ ps, SzL K p ∧ p.length * (2 * K + 1) ≤ 40000000000) (hK : K ≤ 1000000000) : ∀ (k : Nat) (l : Rat × Rat) (r : List (Rat × Rat)) (i : Nat) (S : Nat → Prop) (w0 : World) (J Jx : Held),
    wtZ K ps k l = some r → (∀ j q, r[j]? = some q → xs[i + j]? = some [enc2 q]) → QgJ w0 J → QgJ w0 Jx → Answers Tryz.prog n S w0 y J Jx xs → OwesY Tryz.prog S w0 J Jx Qao i r.length (Qp8 dc y l)
  | 0, l, r, i, S, w0, J, Jx, hw, _, _, _, _ => by cases hw
  | k + 1, l, r, i, S, w0, J, Jx, hw, hx, hab, habx, hans => by
    rw [wtZ] at hw
    split at hw
    · rename_i hz
      refine owes_ok envP Tryz.func111 QgW vis_okY rfl hab habx hans ?_
      intro S w0 J Jx a W hab habx hans hI
      have hE : EnvOk Tryz.prog G := envP
      rw [zr_shape]
      refine WY.seq ?_
      refine Inv.code hE hab hI rfl rfl zr_a ?_
      intro a1 W1 I1
      simp only [↓reduceIte]
      refine WY.seq (WY.seq ?_)
      refine Inv.code hE hab I1 rfl rfl (zr_b hr hn hs hz.1 hz.2 hK) ?_
      intro a2 W2 I2
      simp only [↓reduceIte]
      refine WY.blk (WY.seq ?_)
      refine Inv.code hE hab I2 rfl rfl zr_c ?_
      intro a3 W3 I3
      simp only [↓reduceIte]
      refine WY.cond (t := cnt ps l.1 l.2 == 0) (I3.bool rfl) (fun ht => ?_) (fun ht => ?_)
      · rw [ht] at I3
        have h0 : cnt ps l.1 l.2 = 0 := by simpa using ht
        rw [if_pos h0] at hw
        cases hw
        refine WY.seq (Inv.code hE hab I3 rfl rfl zr_d ?_)
        intro a4 W4 I4
        simp only [↓reduceIte]
        refine WY.ret ?_
        simp only [reduceCtorEq, ↓reduceIte]
        exact ⟨fun _ h => (by cases h), .inl ⟨_, rfl, I4⟩⟩
      · rw [ht] at I3
        have h0 : cnt ps l.1 l.2 ≠ 0 := by simpa using ht
        rw [if_neg h0] at hw
        refine WY.seq (Inv.code hE hab I3 rfl rfl zr_e ?_)
        intro a4 W4 I4
        simp only [↓reduceIte]
        refine WY.cond (t := cnt ps l.1 l.2 == 1) (I4.bool rfl) (fun ht1 => ?_) (fun ht1 => ?_)
        · rw [ht1] at I4
          have h1 : cnt ps l.1 l.2 = 1 := by simpa using ht1
          rw [if_pos h1] at hw
          cases hw
          refine WY.seq ?_
          refine Inv.yield hE hab habx hans I4 (pre := zr_Y1) (post := zr_Y2) (d := 19) (ty := 17) (es := [.t 18]) (s1 := Qo7 dc y l) (x := [enc2 l]) zr_py rfl rfl (by have := hx 0 l rfl; simpa using this) (zr_qy true) (zr_qy false) ?_ ?_
          · intro a5 W5 I5
            simp only [↓reduceIte]
            refine WY.ret ?_
            simp only [reduceCtorEq, ↓reduceIte]
            exact ⟨fun _ h => (by cases h), .inl ⟨_, rfl, I5⟩⟩
          · intro a5 W5 I5
            simp only [↓reduceIte]
            refine WY.ret ?_
            simp only [reduceCtorEq, ↓reduceIte]
            exact ⟨fun _ h => (by cases h), .inr ⟨_, _, rfl, I5⟩⟩
        · rw [ht1] at I4
          have h1 : cnt ps l.1 l.2 ≠ 1 := by simpa using ht1
          rw [if_neg h1] at hw
          simp only [Option.bind_eq_some_iff, Option.map_eq_some_iff] at hw
          obtain ⟨r1, hw1, r2, hw2, rfl⟩ := hw
          refine WY.skip ?_
          simp only [reduceCtorEq, ↓reduceIte]
          refine WY.seq (Inv.code hE hab I4 (c := .seq (.keep [3, 4] [[4]]) zr_M) rfl rfl (zr_m (by omega) (by omega)) ?_)
          intro a5 W5 I5
          simp only [↓reduceIte]
          have hfin : ∀ {t : Bool} {J' : Held} {s : St} {j : Nat} {a' : Act} {W' : World}, resL s sturm_zeros_1_1.res = some [.d (.v (.bool t))] → Inv S w0 Tryz.f111.ntmps J' s j a' W' →
              ((t = true ∧ J' = J ∧ j = i + (r1 ++ r2).length) ∨ (t = false ∧ J' = Jx)) → WY Tryz.prog Tryz.f111.ntmps (n + 1) .ret (fun e a' W' => (∀ id, e ≠ .x id) ∧ ((∃ st, resL st sturm_zeros_1_1.res = some [.d (.v (.bool true))] ∧ Inv S w0 Tryz.f111.ntmps J st (i + (r1 ++ r2).length) a' W') ∨ ∃ st i', resL st sturm_zeros_1_1.res = some [.d (.v (.bool false))] ∧ Inv S w0 Tryz.f111.ntmps Jx st i' a' W')) a' W' := by
            intro t J' s j a' W' hres hI' hc
            refine WY.ret ⟨fun _ h => (by cases h), ?_⟩
            rcases hc with ⟨rfl, rfl, rfl⟩ | ⟨rfl, rfl⟩
            · exact .inl ⟨_, hres, hI'⟩
            · exact .inr ⟨_, _, hres, hI'⟩
          refine WY.seq (Qov (os := zr_V) (k0 := 5) rfl fun ops hO => ?_)
          rw [zr_len]
          have hx1 : ∀ j q, r1[j]? = some q → xs[i + j]? = some [enc2 q] := fun j q hq => hx j q (by rw [List.getElem?_append_left (List.getElem?_eq_some_iff.1 hq).1]; exact hq)
          have hx2 : ∀ j q, r2[j]? = some q → xs[i + r1.length + j]? = some [enc2 q] := fun j q hq => by
            have := hx (r1.length + j) q (by rw [List.getElem?_append_right (by omega)]; simpa using hq)
            rwa [← Nat.add_assoc] at this
          refine Qj5 hE hab hO I5 (B := zr_V1) (fun j o hj => by
            rw [Nat.zero_add, zr_V, List.getElem?_append_left (List.getElem?_eq_some_iff.1 hj).1]; exact hj) zr_v1 ?_
          intro a6 W6 I6
          refine wo_call hE hab habx hO I6 (k := 5) (len := 9) (d := 27) (ty := 22) (es := [.t 26]) (g := none) (x := [enc2 (l.1, mid l.1 l.2)]) (caps := vpre dc y ++ [.rc Qao (vpre dc y)]) rfl rfl rfl rfl vis_fn
            (vis_ok hr hn hs hK k _ r1 i S w0 J Jx hw1 hx1 hab habx hans) ?_ ?_
          · intro a7 W7 I7
            refine Qj5 hE hab hO I7 (k := 6) (len := 3) (B := Qpi) (fun j o hj => ?_) zr_v2 ?_
            · have hj6 : j < 6 := (List.getElem?_eq_some_iff.1 hj).1
              rw [← hj]
              match j, hj6 with
              | 0, _ => rfl
              | 1, _ => rfl
              | 2, _ => rfl
              | 3, _ => rfl
              | 4, _ => rfl
              | 5, _ => rfl
            intro a8 W8 I8
            refine wo_call hE hab habx hO I8 (k := 12) (len := 2) (d := 34) (ty := 29) (es := [.t 33]) (g := some (28, true)) (x := [enc2 (mid l.1 l.2, l.2)]) (caps := vpre dc y ++ [.rc Qao (vpre dc y)]) rfl rfl rfl rfl vis_fn
              (vis_ok hr hn hs hK k _ r2 (i + r1.length) S w0 J Jx hw2 hx2 hab habx hans) ?_ ?_
            · intro a9 W9 I9
              obtain ⟨s, h1, h2⟩ := zr_v3 (dc := dc) (y := y) (l := l) (m := mid l.1 l.2) true
              refine Qj5 hE hab hO I9 (k := 13) (len := 0) (B := Qn4) (fun j o hj => ?_) h1 ?_
              · have hj6 : j < 2 := (List.getElem?_eq_some_iff.1 hj).1
                rw [← hj]
                match j, hj6 with
                | 0, _ => rfl
                | 1, _ => rfl
              intro a10 W10 I10
              refine QoB ?_
              simp only [↓reduceIte]
              exact hfin h2 I10 (.inl ⟨rfl, rfl, by rw [List.length_append, Nat.add_assoc]⟩)
            · intro i' a9 W9 I9
              obtain ⟨s, h1, h2⟩ := zr_v3 (dc := dc) (y := y) (l := l) (m := mid l.1 l.2) false
              refine Qj5 hE habx hO I9 (k := 13) (len := 0) (B := Qn4) (fun j o hj => ?_) h1 ?_
              · have hj6 : j < 2 := (List.getElem?_eq_some_iff.1 hj).1
                rw [← hj]
                match j, hj6 with
                | 0, _ => rfl
                | 1, _ => rfl
              intro a10 W10 I10
              refine QoB ?_
              simp only [↓reduceIte]
              exact hfin h2 I10 (.inr ⟨rfl, rfl⟩)
          · intro i' a7 W7 I7
            obtain ⟨s, h1, h2⟩ := zr_vf (dc := dc) (y := y) (l := l) (m := mid l.1 l.2)
            refine Qj5 hE habx hO I7 (k := 6) (len := 0) (B := Qpi ++ ⟨some 34, .calv (.t 29) [.t 33], some (28, true)⟩ :: Qn4) (fun j o hj => ?_) h1 ?_
            · have hj6 : j < 9 := (List.getElem?_eq_some_iff.1 hj).1
              rw [← hj]
              match j, hj6 with
              | 0, _ => rfl
              | 1, _ => rfl
              | 2, _ => rfl
              | 3, _ => rfl
              | 4, _ => rfl
              | 5, _ => rfl
              | 6, _ => rfl
              | 7, _ => rfl
              | 8, _ => rfl
            intro a8 W8 I8
            refine QoB ?_
            simp only [↓reduceIte]
            exact hfin h2 I8 (.inr ⟨rfl, rfl⟩)
    · cases hw
end Go.AM

/- sturm.zeros' iterator: what it yields. -/
namespace Go.AM
open Go Go.RowKit Go.Proofs
def zo_A : C := sturm_zeros_1.body.fst7
def zo_B : C := sturm_zeros_1.body.snd7.fst7
def zo_C : C := .reg [⟨some 5, .mkfn Qao [.t 1, .t 3, .t 4] false, none⟩, ⟨none, .store 1 (.t 4) (.t 5), none⟩] []
def zo_D1 : List O := [⟨some 6, .load none (.t 4), none⟩, ⟨some 7, .load (some 8) (.t 2), none⟩]
def zo_D : List O := zo_D1 ++ [⟨some 8, .calv (.t 6) [.t 7], none⟩]
theorem zo_shape : sturm_zeros_1.body.er = .seq zo_A.er (.seq zo_B.er (.seq zo_C.er (.reg (zo_D.map O.er) []))) := rfl
def Qol (dc : D) : A := .fn Qao [.d (.rp [dc]), .ptr [3] 0, .ptr [4] 0]
def Qcx (dc : D) (l : Rat × Rat) : List D := [.rp [dc], .rp (c2R l)]
theorem yc_c (y : Nat) : Qaz (.d (.v (.func (.yield y) #[] #[]))) = [.d (.v (.func (.yield y) #[] #[]))] := rfl
theorem yc_o (y : Nat) : A.one (.d (.v (.func (.yield y) #[] #[]))) = true := rfl
theorem nf_c : Qaz (.d (.v .nilFunc)) = [.d (.v .nilFunc)] := rfl
theorem nf_o : A.one (.d (.v .nilFunc)) = true := rfl
theorem fc_c (f : Nat) (xs : List A) : Qaz (.fn f xs) = [.fn f xs] := rfl
theorem fc_o (f : Nat) (xs : List A) : A.one (.fn f xs) = true := rfl
theorem loadA_rp7 (h : Hp) (sz : Option Nat) (cs : List D) : Qcu h sz (.d (.rp cs)) = Qkq sz cs := rfl
section
variable [Its] {dc : D} {y : Nat} {l : Rat × Rat}
def zo_s1 (dc : D) (y : Nat) (l : Rat × Rat) : St := mkS [(1, .d (.rp [dc])), (2, .d (.rp (c2R l))), (3, .ptr [3] 0)] [([3], ⟨0, 0, [.d (yv y)], false⟩)]
def QpN (dc : D) (y : Nat) (l : Rat × Rat) : St := mkS [(1, .d (.rp [dc])), (2, .d (.rp (c2R l))), (3, .ptr [3] 0), (4, .ptr [4] 0)] [([3], ⟨0, 0, [.d (yv y)], false⟩), ([4], ⟨0, 0, [.d (.v .nilFunc)], false⟩)]
def Qsa (dc : D) (y : Nat) (l : Rat × Rat) : St := ⟨upd (QpN dc y l).fr 5 (Qol dc), hupd (QpN dc y l).hp [4] ⟨0, 0, [Qol dc], false⟩, []⟩
def QsJ (dc : D) (y : Nat) (l : Rat × Rat) : St := ⟨upd (upd (Qsa dc y l).fr 6 (Qol dc)) 7 (.d (enc2 l)), (Qsa dc y l).hp, []⟩
theorem zo_a : X G zo_A ⟨argF 0 (yv y :: Qcx dc l), hp0, []⟩ = some (.n, zo_s1 dc y l) := by
 obtain ⟨lo, hi⟩ := l
 simp -implicitDefEqProofs (maxSteps:=9^8) only [zo_A, sturm_zeros_1, C.fst7, C.snd7, Qcx, zo_s1, c2R, argF, yv, yc_c, yc_o, Qdi, refs, List.all_cons, List.all_nil, Bool.and_true, go_sem, iv, bv, reduceCtorEq, ↓reduceIte, Nat.reduceEqDiff]
theorem zo_b : X G zo_B (zo_s1 dc y l) = some (.n, QpN dc y l) := by
 obtain ⟨lo, hi⟩ := l
 simp -implicitDefEqProofs (maxSteps:=9^8) only [zo_B, sturm_zeros_1, C.fst7, C.snd7, zo_s1, QpN, c2R, yv, yc_c, yc_o, nf_c, nf_o, fc_c, fc_o, Qdi, refs, List.all_cons, List.all_nil, Bool.and_true, List.map_cons, List.map_nil, go_sem, iv, bv, reduceCtorEq, ↓reduceIte, Nat.reduceEqDiff]
theorem zo_c : X G zo_C (QpN dc y l) = some (.n, Qsa dc y l) := by
 obtain ⟨lo, hi⟩ := l
 simp -implicitDefEqProofs (maxSteps:=9^8) only [zo_C, QpN, Qsa, Qol, c2R, yv, allD, Qaz, Qac, yc_c, yc_o, nf_c, nf_o, fc_c, fc_o, Qdi, refs, List.all_cons, List.all_nil, Bool.and_true, List.map_cons, List.map_nil, go_sem, iv, bv, reduceCtorEq, ↓reduceIte, Nat.reduceEqDiff]
theorem zo_d : exs (Qai G) zo_D1 (Qsa dc y l) = some (QsJ dc y l) := by
 obtain ⟨lo, hi⟩ := l
 simp -implicitDefEqProofs (maxSteps:=9^8) only [zo_D1, QpN, Qsa, QsJ, Qol, enc2, c2R, yv, Qab, loadA_rp7, yc_c, yc_o, nf_c, nf_o, fc_c, fc_o, Qdi, refs, List.all_cons, List.all_nil, Bool.and_true, List.map_cons, List.map_nil, go_sem, iv, bv, reduceCtorEq, ↓reduceIte, Nat.reduceEqDiff]
end
end Go.AM

/- sturm.zeros' iterator: what it owes. -/
namespace Go.AM
open Go Go.RowKit Go.Proofs
theorem zo_okY : ∀ b, Tryz.f110.body = some b → okY b = true := by
 intro b hb
 have : (Tryz.f110.body.map okY) = some true := by kernel_rfl
 rw [hb] at this
 simpa using this
theorem rep_fn3 {m : Key → Nat} {hp : Hp} {T : Nat → Prop} {w : World} {f : Nat} {x1 x2 x3 : A} {z : Value} (h : RepA m hp T w (.fn f [x1, x2, x3]) z) : ∃ q1 q2 q3, z = .func (.func f) #[] [q1, q2, q3].toArray ∧ RepA m hp T w x1 q1 ∧ RepA m hp T w x2 q2 ∧ RepA m hp T w x3 q3 := by
 cases h with
 | fn _ _ vs hl =>
  cases hl with
  | cons _ _ q1 _ h1 t =>
   cases t with
   | cons _ _ q2 _ h2 t =>
    cases t with
    | cons _ _ q3 _ h3 t =>
     cases t
     exact ⟨q1, q2, q3, rfl, h1, h2, h3⟩
theorem Qnr {m : Key → Nat} {hp : Hp} {T : Nat → Prop} {w : World} {k : Key} {off : Nat} {o : Obj} {v : Value} (h : RepA m hp T w (.ptr k off) v) (ho : hp k = some o) : v = .pointer (some ⟨m k, off, none⟩) := by
 cases h with
 | ptr _ _ _ _ hv => exact hv o ho
theorem QmL {w : World} {b : Nat} {cs : Array Value} {T : TypeId} {fz : Nat × Nat} {v : Value} (h : w.heap[b]? = some (Go.Obj.cells cs T fz)) (hv : cs[0]? = some v) : w.cell? ⟨b, 0, none⟩ = some v := by
 rw [Lib.cell_of_heap h]; exact hv
theorem Inv.empty {S : Nat → Prop} {w0 W W' : World} {N : Nat} {J J' : Held} {st : St} {i j : Nat} {a : Act} {m : Key → Nat} {L L' : Nat → Prop} (h : Inv1 S w0 N J st i a W m L) (f1 : Foot L W W') (f3 : ∀ b, L' b → b < W'.heap.size) (hj : J' j L' (fun _ => False) W') (dst : Option Nat) (v : Value) : Inv S w0 N J' ⟨fr0, hp0, []⟩ j (a.put dst v) W' := by
 have hV : (fun b => Live m hp0 b) = fun _ => False := by
  funext b; exact propext ⟨fun ⟨_, _, h, _⟩ => by simp [hp0] at h, False.elim⟩
 have hnd : (a.put dst v).defers = [] := by
  have := (show Inv S w0 N J st i a W from ⟨m, L, h⟩).nodefer
  cases dst <;> exact this
 have hts : (a.put dst v).tmps.size = N := by
  have := h.rel.ts
  cases dst with
  | none => exact this
  | some d => simpa [Act.put] using this
 refine ⟨m, L', ⟨⟨fun _ _ hx => (by cases hx), fun _ _ h => (by cases h), fun _ _ _ _ h => (by cases h), fun _ _ h => (by cases h), fun _ _ _ h => (by cases h), fun _ _ h => (by cases h), fun _ _ h => (by cases h), Foot.refl _ _, (by rw [hnd]; exact Marks.nil _ _ _), hts, fun b hb => ⟨.inr (by have := h.sz; have := f1.size; omega), fun hl => by have := f3 b hl; omega⟩, fun _ _ h => (by cases h)⟩, ?_, f3, fun b ⟨_, _, h, _⟩ => (by cases h), Nat.le_trans h.sz f1.size⟩⟩
 show J' j L' (fun b => Live m hp0 b) W'
 rw [hV]; exact hj
theorem zeros_it {dc : D} {ps : List (List Rat)} {l : Rat × Rat} {r : List (Rat × Rat)} {K k : Nat} (hr : RwC dc ps) (hn : ps.length ≤ 1000) (hs : ∀ p ∈ ps, SzL K p ∧ p.length * (2 * K + 1) ≤ 40000000000) (hK : K ≤ 1000000000) (hw : wtZ K ps k l = some r) : ItOk Tryz.prog QaB (Qcx dc l) (r.map fun q => [enc2 q]) := by
 refine it_ok envP Tryz.func110 QhT zo_okY rfl rfl ?_
 intro n y S w0 J Jx a W hab habx hans hI
 have hE : EnvOk Tryz.prog G := envP
 rw [zo_shape]
 refine WY.seq (Inv.code hE hab hI rfl rfl zo_a ?_)
 intro a1 W1 I1
 simp only [↓reduceIte]
 refine WY.seq (Inv.code hE hab I1 rfl rfl zo_b ?_)
 intro a2 W2 I2
 simp only [↓reduceIte]
 refine WY.seq (Inv.code hE hab I2 rfl rfl zo_c ?_)
 intro a3 W3 I3
 simp only [↓reduceIte]
 refine Qov (os := zo_D) (k0 := 2) rfl fun ops hO => ?_
 refine Qj5 hE hab hO I3 (B := zo_D1) (len := 1) (fun j o hj => by
  rw [Nat.zero_add, zo_D, List.getElem?_append_left (List.getElem?_eq_some_iff.1 hj).1]; exact hj) zo_d ?_
 rintro a4 W4 ⟨m, L, h⟩
 obtain ⟨o, c, hoo, hop, hce, hargs, hd, hgg⟩ := Qqg hO (k := 2) (show zo_D[2]? = some ⟨some 8, .calv (.t 6) [.t 7], none⟩ from rfl)
 obtain ⟨q1, q3, q4, hz, h1, h3, h4⟩ := rep_fn3 (h.rel.fr 6 (Qol dc) rfl)
 have ho3 : (QsJ dc y l).hp [3] = some ⟨0, 0, [.d (yv y)], false⟩ := rfl
 have ho4 : (QsJ dc y l).hp [4] = some ⟨0, 0, [Qol dc], false⟩ := rfl
 obtain ⟨cs3, T3, z3, O3⟩ := h.rel.obj [3] _ ho3
 obtain ⟨cs4, T4, z4, O4⟩ := h.rel.obj [4] _ ho4
 obtain ⟨v3, c3, r3⟩ := O3.rep 0 (.d (yv y)) rfl
 obtain ⟨v4, c4, r4⟩ := O4.rep 0 (Qol dc) rfl
 obtain ⟨p1, p3, p4, hp, g1, g3, g4⟩ := rep_fn3 r4
 have e3 := Qnr h3 ho3
 have e4 := Qnr h4 ho4
 have e3' := Qnr g3 ho3
 have e4' := Qnr g4 ho4
 have ev : v3 = .func (.yield y) #[] #[] := Qfb r3
 subst e3 e4 e3' e4' ev hp
 obtain ⟨hrep, _⟩ := Qe0 h.rel hargs (show allE (QsJ dc y l) [.t 7] = some ([enc2 l].map .d) from rfl)
 have hra := Qj4 _ _ hrep
 have hm : ∀ b, Im (fun b => (S b ∨ w0.heap.size ≤ b) ∧ ¬ L b) m (QsJ dc y l).hp W4 b → ((S b ∨ w0.heap.size ≤ b) ∧ b < W4.heap.size ∧ ¬ (fun _ => False) b ∧ ¬ L b) := fun b hb => ⟨hb.1.1, hb.2.1, id, hb.1.2⟩
 have s3 := h.rel.ge [3] _ ho3
 have s4 := h.rel.ge [4] _ ho4
 have t3 := h.rel.lt ho3
 have t4 := h.rel.lt ho4
 have cy : RepD (fun b => (S b ∨ w0.heap.size ≤ b) ∧ b < W4.heap.size ∧ ¬ (fun _ => False) b ∧ ¬ L b) W4 (.rp [yv y]) (.pointer (some ⟨m [3], 0, none⟩)) := by
  refine .rp [yv y] ⟨m [3], 0, none⟩ [.func (.yield y) #[] #[]] ⟨s3.1, t3, id, s3.2⟩ (.cons _ _ _ _ (.v _) .nil) ?_
  intro j v hj
  match j with
  | 0 => cases hj; exact QmL O3.at_ c3
  | j + 1 => cases hj
 have cv : RepD (fun b => (S b ∨ w0.heap.size ≤ b) ∧ b < W4.heap.size ∧ ¬ (fun _ => False) b ∧ ¬ L b) W4 (.rc Qao (vpre dc y)) (.pointer (some ⟨m [4], 0, none⟩)) :=
  .rc Qao (vpre dc y) ⟨m [4], 0, none⟩ [p1, .pointer (some ⟨m [3], 0, none⟩)] ⟨s4.1, t4, id, s4.2⟩ (.cons _ _ _ _ ((QgM g1).mono (w' := W4) hm (fun _ _ => rfl)) (.cons _ _ _ _ cy .nil)) (QmL O4.at_ c4)
 have hra' := hra.mono (w' := W4) hm (fun _ _ => rfl)
 have hd1 := (QgM h1).mono (w' := W4) hm (fun _ _ => rfl)
 have hrl := hra'.append (RepL.cons _ _ _ _ hd1 (RepL.cons _ _ _ _ cy (RepL.cons _ _ _ _ cv RepL.nil)))
 have hJ : J 0 L (fun _ => False) W4 := hab 0 L _ _ W4 W4 h.j (Foot.refl _ _) (fun _ hb => hb.elim) (fun _ hb => hb.elim)
 have O := vis_ok hr hn hs hK k l r 0 S w0 J Jx hw (fun j q hq => by rw [Nat.zero_add, List.getElem?_map, hq]; rfl) hab habx hans L (fun _ => False) W4 _ hJ (fun _ hb => hb.elim) h.lt h.sz hrl
 refine Qrd (len := 0) hoo hop hce (QeG h.rel hgg rfl rfl) hz vis_fn (O.mono ?_)
 rintro e W5 ⟨L', f1, f2, f3, f4⟩
 have hlen : (r.map fun q => [enc2 q]).length = r.length := List.length_map ..
 rcases f4 with ⟨rfl, hj⟩ | ⟨rfl, i', hj⟩
 ·refine ⟨_, rfl, QoB ⟨fun _ h => (by cases h), .inl ⟨⟨fr0, hp0, []⟩, ?_⟩⟩⟩
  rw [hlen]
  rw [Nat.zero_add] at hj
  exact Inv.empty h f1 f3 hj _ _
 ·exact ⟨_, rfl, QoB ⟨fun _ h => (by cases h), .inr ⟨⟨fr0, hp0, []⟩, i', Inv.empty h f1 f3 hj _ _⟩⟩⟩
end Go.AM

/- The seat's iterators: Backward and sturm.zeros. -/
namespace Go.AM
open Go Go.RowKit Go.Proofs
theorem RwC.inj {d : D} {ps qs : List (List Rat)} (h : RwC d ps) (h' : RwC d qs) : ps = qs := by
  obtain ⟨ds, h1, h2, h3⟩ := h
  obtain ⟨es, k1, k2, k3⟩ := h'
  have e : ds = es := by
    rcases h3 with rfl | ⟨rfl, rfl⟩
    · rcases k3 with k3 | ⟨k3, _⟩
      · simp only [D.row.injEq] at k3; exact k3.2
      · cases k3
    · rcases k3 with k3 | ⟨_, rfl⟩
      · cases k3
      · rfl
  subst e
  refine List.ext_getElem (by omega) fun i hi hj => ?_
  have := (h2 i hi).inj (k2 i hj)
  simpa [List.getD_eq_getElem?_getD, List.getElem?_eq_getElem hi, List.getElem?_eq_getElem hj] using this
theorem c2R_inj {l m : Rat × Rat} (h : c2R l = c2R m) : l = m := by
 obtain ⟨a, b⟩ := l
 obtain ⟨c, d⟩ := m
 simp only [c2R, List.cons.injEq, D.v.injEq, Value.bool.injEq, true_and, and_true] at h
 obtain ⟨h1, h2, h3, h4, h5, h6⟩ := h
 rw [Qpl h1 h2 h3, Qpl h4 h5 h6]
theorem Qnd {K : Nat} {ps : List (List Rat)} : ∀ (k k' : Nat) (l : Rat × Rat) (r r' : List (Rat × Rat)), wtZ K ps k l = some r → wtZ K ps k' l = some r' → r = r'
 | 0, _, _, _, _, h, _ => by cases h
 | k + 1, 0, _, _, _, _, h => by cases h
 | k + 1, k' + 1, l, r, r', h, h' => by
  rw [wtZ] at h h'
  by_cases hz : sz l.1 ≤ K ∧ sz l.2 ≤ K
  ·rw [if_pos hz] at h h'
   by_cases h0 : cnt ps l.1 l.2 = 0
   ·rw [if_pos h0] at h h'; cases h; cases h'; rfl
   ·rw [if_neg h0] at h h'
    by_cases h1 : cnt ps l.1 l.2 = 1
    ·rw [if_pos h1] at h h'; cases h; cases h'; rfl
    ·rw [if_neg h1] at h h'
     simp only [Option.bind_eq_some_iff, Option.map_eq_some_iff] at h h'
     obtain ⟨a, a1, b, b1, rfl⟩ := h
     obtain ⟨a', a1', b', b1', rfl⟩ := h'
     rw [Qnd k k' _ a a' a1 a1', Qnd k k' _ b b' b1 b1']
  ·rw [if_neg hz] at h; cases h
def KZ : Nat := 1000000000
def ZOk (ds : List D) (xs : List (List D)) : Prop := ∃ dc ps l r k, ds = Qcx dc l ∧ RwC dc ps ∧ ps.length ≤ 1000 ∧ (∀ p ∈ ps, SzL KZ p ∧ p.length * (2 * KZ + 1) ≤ 40000000000) ∧ wtZ KZ ps k l = some r ∧ xs = r.map fun q => [enc2 q]
theorem ZOk.uniq {ds : List D} {xs ys : List (List D)} (h : ZOk ds xs) (h' : ZOk ds ys) : xs = ys := by
 obtain ⟨dc, ps, l, r, k, e, h1, _, _, h2, rfl⟩ := h
 obtain ⟨dc', ps', l', r', k', e', h1', _, _, h2', rfl⟩ := h'
 rw [e] at e'
 simp only [Qcx, List.cons.injEq, D.rp.injEq, and_true] at e'
 obtain ⟨rfl, e2⟩ := e'
 have := c2R_inj e2
 subst this
 have := h1.inj h1'
 subst this
 rw [Qnd k k' l r r' h2 h2']
open Classical in
noncomputable abbrev itsZ : Its := { it := fun f ds => if f = Qag then Qks ds else if f = QaB then (if h : ∃ xs, ZOk ds xs then some (Classical.choose h) else none) else none }
theorem itsBZ : @ItsB itsZ := @ItsB.mk itsZ fun _ => if_pos rfl
open Classical in
theorem itsZ_at {dc : D} {ps : List (List Rat)} {l : Rat × Rat} {r : List (Rat × Rat)} {k : Nat} (h1 : RwC dc ps) (h2 : ps.length ≤ 1000) (h3 : ∀ p ∈ ps, SzL KZ p ∧ p.length * (2 * KZ + 1) ≤ 40000000000) (h4 : wtZ KZ ps k l = some r) : (@G itsZ).it QaB (Qcx dc l) = some (r.map fun q => [enc2 q]) := by
 have ho : ZOk (Qcx dc l) (r.map fun q => [enc2 q]) := ⟨dc, ps, l, r, k, rfl, h1, h2, h3, h4, rfl⟩
 have hex : ∃ xs, ZOk (Qcx dc l) xs := ⟨_, ho⟩
 show (if QaB = Qag then Qks (Qcx dc l) else if QaB = QaB then (if h : ∃ xs, ZOk (Qcx dc l) xs then some (Classical.choose h) else none) else none) = _
 rw [if_neg (by decide), if_pos rfl, dif_pos hex]
 exact congrArg some ((Classical.choose_spec hex).uniq ho)
open Classical in
theorem envZ : EnvOk Tryz.prog (@G itsZ) := @env_ok itsZ (fun f ds xs h => by
  have h' : (if f = Qag then Qks ds else if f = QaB then (if h : ∃ xs, ZOk ds xs then some (Classical.choose h) else none) else none) = some xs := h
  split at h'
  · rename_i hf
    rw [hf]
    exact QoZ h'
  · split at h'
    · rename_i hf
      split at h'
      · rename_i hex
        cases h'
        obtain ⟨dc, ps, l, r, k, e, h1, h2, h3, h4, h5⟩ := Classical.choose_spec hex
        rw [hf, h5, e]
        exact zeros_it h1 h2 h3 (by unfold KZ; omega) h4
      · cases h'
    · cases h') (fun _ _ => rfl)
end Go.AM

/- slices.Collect over sturm.zeros; sturm.zeros; sturm.Isolate. -/
namespace Go.AM
open Go Go.RowKit Go.Proofs
def cAs : List (Rat × Rat) → List D
 | [] => []
 | l :: r => c2R l ++ cAs r
def rowA (r : List (Rat × Rat)) : D := .row r.length (cAs r)
theorem cAs_len : ∀ r, (cAs r).length = r.length * 8
 | [] => rfl
 | l :: r => by rw [cAs, List.length_append, cAs_len r, List.length_cons]; simp [c2R]; omega
theorem cAs_app : ∀ r s, cAs (r ++ s) = cAs r ++ cAs s
 | [], s => rfl
 | l :: r, s => by rw [List.cons_append, cAs, cAs, cAs_app r s, List.append_assoc]
theorem c2R_one (l : Rat × Rat) : (c2R l).all D.one = true := by
 simp only [c2R, List.all_cons, List.all_nil, Bool.and_true, Bool.and_eq_true]
 exact ⟨rfl, Qix _, rfl, Qix _, rfl, Qix _, rfl, Qix _⟩
def gHs (r : List (Rat × Rat)) : List (Key × Obj) := if r = [] then [([2], ⟨0, 0, [.d (.z true)], false⟩)] else [([2], ⟨0, 0, [.own [11] r.length], false⟩), ([11], ⟨8, r.length, (cAs r).map .d, false⟩)]
def QnX : Fr := frL [(2, .ptr [2] 0)]
theorem rep1_8A (a b c d e f g h : D) : rep 1 [a, b, c, d, e, f, g, h] = [a, b, c, d, e, f, g, h] := rfl
theorem ldn1 (a : A) : Qab none 0 [a] = some a := rfl
theorem stn1 (a b : A) : Qac 0 [b] [a] = some [b] := rfl
theorem own_c (k : Key) (n : Nat) : Qaz (.own k n) = [.own k n] := rfl
theorem own_o (k : Key) (n : Nat) : A.one (.own k n) = true := rfl
theorem Qnt (ks : List Key) : ∀ r : List D, Qdi ks (r.map A.d) = true
 | [] => rfl
 | x :: r => by simp only [List.map_cons, Qdi, refs, Qnt ks r, Bool.and_self]
variable [Its]
theorem as_round (q : Rat × Rat) (r : List (Rat × Rat)) (hr : r.length ≤ 100000) (xs : List (List D)) :
    Qde (X G) [7] slices_AppendSeq_2_api_Rat_2_api_Rat_a0 slices_AppendSeq_2_api_Rat_2_api_Rat_b0 QnX [] ([enc2 q] :: xs) (hpL (gHs r)) = Qde (X G) [7] slices_AppendSeq_2_api_Rat_2_api_Rat_a0 slices_AppendSeq_2_api_Rat_2_api_Rat_b0 QnX [] xs (hpL (gHs (r ++ [q]))) := by
  have e0 : gHs (r ++ [q]) = [([2], ⟨0, 0, [.own [11] (r.length + 1)], false⟩), ([11], ⟨8, r.length + 1, ((cAs r ++ c2R q).map .d), false⟩)] := by
    unfold gHs
    rw [if_neg (by simp), List.length_append, List.length_singleton, cAs_app]
    simp only [cAs, List.append_nil]
  rw [e0]
  have o1 := c2R_one q
  have n8 : (c2R q).length = 8 := rfl
  have nr := cAs_len r
  by_cases h0 : r = []
  · subst h0
    have hb : (128 ≤ bound) = True := eq_true (by unfold bound; omega)
    have hb1 : (1 * 128 ≤ bound) = True := eq_true (by unfold bound; omega)
    obtain ⟨lo, hi⟩ := q
    simp only [c2R] at o1 n8
    simp -implicitDefEqProofs (maxSteps:=9^8) only [Qde, slices_AppendSeq_2_api_Rat_2_api_Rat_a0, slices_AppendSeq_2_api_Rat_2_api_Rat_b0, QnX, gHs, enc2, c2R, cAs, hb, hb1, o1, n8, putL, rep1_8A, st8q, ld8q, ldn1, stn1, own_c, own_o, Qnt, Qaa, srcS, src, allD, List.map_cons, List.map_nil, List.length_nil, Nat.zero_add, List.nil_append, go_sem, iv, bv, reduceCtorEq, ↓reduceIte, Nat.reduceEqDiff]
  · have e1 : gHs r = [([2], ⟨0, 0, [.own [11] r.length], false⟩), ([11], ⟨8, r.length, (cAs r).map .d, false⟩)] := if_neg h0
    rw [e1]
    have n3 : ((cAs r).map A.d).length = r.length * 8 := by rw [List.length_map, nr]
    have n4 : ((r.length + 1) * 128 ≤ bound) = True := eq_true (by unfold bound; omega)
    have n5 : (cAs r).map A.d ++ (c2R q).map A.d = (cAs r ++ c2R q).map A.d := (List.map_append ..).symm
    obtain ⟨lo, hi⟩ := q
    simp only [c2R, List.map_cons, List.map_nil] at o1 n8 n5
    simp -implicitDefEqProofs (maxSteps:=9^8) only [Qde, slices_AppendSeq_2_api_Rat_2_api_Rat_a0, slices_AppendSeq_2_api_Rat_2_api_Rat_b0, QnX, enc2, c2R, n3, n4, n5, o1, n8, putL, rep1_8A, st8q, ld8q, ldn1, stn1, own_c, own_o, Qnt, Qaa, srcS, src, allD, List.map_cons, List.map_nil, go_sem, iv, bv, reduceCtorEq, ↓reduceIte, Nat.reduceEqDiff]
end Go.AM

/- sturm.Bound, ref07.Bound. -/
namespace Go.AM
open Go Go.RowKit
def abR (q : Rat) : Rat := if q < 0 then -q else q
def bdQ (p : List Rat) (i : Nat) : Rat := p.getD i 0 / p.getD (p.length - 1) 0
def bdF (p : List Rat) : Nat → Rat
 | 0 => 0
 | i + 1 => if bdF p i < abR (bdQ p i) then abR (bdQ p i) else bdF p i
def bdR (p : List Rat) : Rat := bdF p (p.length - 1) + 1
theorem abR_sz (q : Rat) : sz (abR q) = sz q := by
 unfold abR
 split
 ·exact sz_neg q
 ·rfl
theorem bdQ_sz {p : List Rat} {K : Nat} (sp : SzL K p) (hK : 1 ≤ K) (i : Nat) : sz (bdQ p i) ≤ 2 * K := by
 unfold bdQ
 have h1 := sp.getD hK i
 have h2 := sp.getD hK (p.length - 1)
 have h3 := Qmt (a := p.getD i 0) (b := p.getD (p.length - 1) 0)
 omega
theorem QmU {p : List Rat} {K : Nat} (sp : SzL K p) (hK : 1 ≤ K) : ∀ i, sz (bdF p i) ≤ 2 * K
 | 0 => by rw [bdF, QhW]; omega
 | i + 1 => by
  rw [bdF]
  split
  ·rw [abR_sz]; exact bdQ_sz sp hK i
  ·exact QmU sp hK i
def boxZ : Obj := ⟨0, 0, [.d (.v (.bool false)), .d (.z true), .d (.v (.bool false)), .d (.z true)], false⟩
def QlS (d : D) (mo : Rat) (n i : Int) : St := mkS [(0, .d d), (2, .ptr [2] 0), (3, .ptr [3] 0), (8, ai n), (9, ai i)] [([2], boxZ), ([3], boxR mo)]
def Qm5 (mo : Rat) : St := mkS [(2, .ptr [2] 0), (3, .ptr [3] 0)] [([2], boxZ), ([3], boxR mo)]
def Ql7 (d : D) (mo : Rat) (i : Int) : St := mkS [(0, .d d), (2, .ptr [2] 0), (3, .ptr [3] 0), (4, ai i)] [([2], boxZ), ([3], boxR mo)]
theorem boxR_0 : boxR 0 = boxZ := by
 have ez : decide ((0 : Rat).num < 0) = false := rfl
 have ez2 : dg (digs (0 : Rat).num.natAbs) = .z true := by rw [Rat.zero_num, show (0 : Int).natAbs = 0 from rfl, Qav]; rfl
 have ez3 : dg (dd (0 : Rat).den) = .z true := rfl
 rw [boxR, ez, ez2, ez3]; rfl
section
variable [Its] {d : D} {p : List Rat} {K : Nat}
theorem bs_go (hr : RwR d p) (np : p.length ≤ 1000) (sp : SzL K p) (hK1 : 1 ≤ K) (hK : K ≤ 10000000000) {i : Nat} (hi : i + 1 < p.length) {mo : Rat} (hm : sz mo ≤ 2 * K) :
    X G Qbs (QlS d mo ((p.length - 1 : Nat) : Int) i) = some (.n, QlS d (if mo < abR (bdQ p i) then abR (bdQ p i) else mo) ((p.length - 1 : Nat) : Int) ((i + 1 : Nat) : Int)) := by
  have e1 : decide ((i : Int) < ((p.length - 1 : Nat) : Int)) = true := lt_t (by omega)
  have e2 : w64 ((p.length : Int) - 1) = ((p.length - 1 : Nat) : Int) := by rw [Qae (by omega) (by omega)]; omega
  have e3 : w64 ((i : Int) + 1) = ((i + 1 : Nat) : Int) := by rw [Qae (by omega) (by omega)]; rfl
  have ll := hr.len
  have hl : p.length - 1 < p.length := by omega
  have x1 := hr.ixa hl
  have y1 := fun h => ldR h p hl
  have x2 := hr.ixa (show i < p.length by omega)
  have y2 := fun h => ldR h p (show i < p.length by omega)
  have s1 := sp.getD hK1 (p.length - 1)
  have s2 := sp.getD hK1 i
  have g1 := QiQ (a := p.getD i 0) (b := p.getD (p.length - 1) 0) (by omega) (by omega)
  have sq := bdQ_sz sp hK1 i
  unfold bdQ at sq
  unfold bdQ
  generalize p.getD i 0 / p.getD (p.length - 1) 0 = q at *
  generalize p.getD (p.length - 1) 0 = u at *
  generalize p.getD i 0 = v at *
  generalize cRs (p.drop (p.length - 1)) = cs at *
  generalize cRs (p.drop i) = ct at *
  generalize ((p.length - 1 : Nat) : Int) = n at *
  have g2 := Qdj q
  have t2 := QpZ (x := q)
  generalize Int.sign q.num = sg at *
  have g3 := QiM q
  have sa := abR_sz q
  have g4 := Qet (a := abR q) (b := mo) (by omega) (by omega)
  have t4 := QnC (a := abR q) (b := mo)
  generalize cmpR (abR q) mo = c at *
  clear s1 s2 sq hm sp hr sa
  unfold abR at *
  by_cases k : q < 0
  · rw [decide_eq_true k] at t2
    rw [if_pos k] at *
    generalize -q = nq at *
    simp only [encR, iv] at g1 g2 g3 g4 y1 y2
    by_cases k2 : mo < nq
    · rw [decide_eq_true k2] at t4
      rw [if_pos k2]
      simp -implicitDefEqProofs (maxSteps:=9^8) only [Qbs, QlS, boxZ, boxR, ll, x1, x2, y1, y2, e1, e2, e3, g1, g2, g3, g4, t2, t4, st4q, ld4q, Qaa, go_sem, iv, bv, reduceCtorEq, ↓reduceIte, Nat.reduceEqDiff]
    · rw [decide_eq_false k2] at t4
      rw [if_neg k2]
      simp -implicitDefEqProofs (maxSteps:=9^8) only [Qbs, QlS, boxZ, boxR, ll, x1, x2, y1, y2, e1, e2, e3, g1, g2, g3, g4, t2, t4, st4q, ld4q, Qaa, go_sem, iv, bv, reduceCtorEq, ↓reduceIte, Nat.reduceEqDiff]
  · rw [decide_eq_false k] at t2
    rw [if_neg k] at *
    simp only [encR, iv] at g1 g2 g3 g4 y1 y2
    by_cases k2 : mo < q
    · rw [decide_eq_true k2] at t4
      rw [if_pos k2]
      simp -implicitDefEqProofs (maxSteps:=9^8) only [Qbs, QlS, boxZ, boxR, ll, x1, x2, y1, y2, e1, e2, e3, g1, g2, g4, t2, t4, st4q, ld4q, Qaa, go_sem, iv, bv, reduceCtorEq, ↓reduceIte, Nat.reduceEqDiff]
    · rw [decide_eq_false k2] at t4
      rw [if_neg k2]
      simp -implicitDefEqProofs (maxSteps:=9^8) only [Qbs, QlS, boxZ, boxR, ll, x1, x2, y1, y2, e1, e2, e3, g1, g2, g4, t2, t4, st4q, ld4q, Qaa, go_sem, iv, bv, reduceCtorEq, ↓reduceIte, Nat.reduceEqDiff]
theorem bs_stop {mo : Rat} {n i : Int} (h : n ≤ i) : X G Qbs (QlS d mo n i) = some (.x 0, Qm5 mo) := by
 have e1 : decide (i < n) = false := lt_f (by omega)
 simp -implicitDefEqProofs (maxSteps:=9^8) only [Qbs, QlS, Qm5, boxZ, boxR, e1, Qaa, go_sem, iv, bv, reduceCtorEq, ↓reduceIte, Nat.reduceEqDiff]
theorem bs_loop (hr : RwR d p) (np : p.length ≤ 1000) (sp : SzL K p) (hK1 : 1 ≤ K) (hK : K ≤ 10000000000) : ∀ (j i : Nat), i + j = p.length - 1 → X G (.loop Qbs) (QlS d (bdF p i) ((p.length - 1 : Nat) : Int) i) = some (.x 0, Qm5 (bdF p (p.length - 1)))
 | 0, i, h => by
  have : i = p.length - 1 := by omega
  subst this
  rw [Qah, bs_stop (Int.le_refl _)]; rfl
 | j + 1, i, h => by
  rw [Qah, bs_go hr np sp hK1 hK (by omega) (QmU sp hK1 i), Option.bind_some, if_pos rfl]
  exact bs_loop hr np sp hK1 hK j (i + 1) (by omega)
theorem Qi1 (hr : RwR d p) (np : p.length ≤ 1000) (sp : SzL K p) (hK1 : 1 ≤ K) (hK : K ≤ 10000000000) : Qai G QcP [d] = some (.d (encR (bdR p))) := by
 rw [Qad (cf := QiU) rfl]
 have ll := hr.len
 have sf := QmU sp hK1 (p.length - 1)
 have o := QfM (n := 1) (d := 1) ⟨by omega, by omega⟩ ⟨by omega, by omega⟩
 rw [Qci, show ((1 : Int) : Rat) = 1 from rfl] at o
 have g := Qf0 (a := bdF p (p.length - 1)) (b := 1) (by omega) (by rw [QhG]; omega)
 have hl : X G (.loop Qbs) (QlS d 0 (w64 ((p.length : Int) - 1)) 0) = some (.x 0, Qm5 (bdF p (p.length - 1))) := by
  by_cases h : p.length = 0
  ·have e : w64 ((p.length : Int) - 1) = -1 := by rw [Qae (by omega) (by omega)]; omega
   rw [e, h, Qah, bs_stop (by omega)]; rfl
  ·have e : w64 ((p.length : Int) - 1) = ((p.length - 1 : Nat) : Int) := by rw [Qae (by omega) (by omega)]; omega
   rw [e]
   exact bs_loop hr np sp hK1 hK (p.length - 1) 0 (by omega)
 unfold bdR
 generalize bdF p (p.length - 1) = r at *
 rw [QlS, boxR_0] at hl
 generalize r + 1 = s at *
 obtain ⟨n, hn⟩ : ∃ n, w64 ((p.length : Int) - 1) = n := ⟨_, rfl⟩
 rw [hn] at hl
 generalize (1 : Rat) = one at *
 simp only [encR, iv] at o g
 simp only [Qm5, boxZ, boxR, go_sem] at hl
 simp -implicitDefEqProofs (maxSteps:=9^8) only [QiU, encR, ll, hn, hl, o, g, st4q, ld4q, Qab, Qaa, go_sem, iv, bv, reduceCtorEq, ↓reduceIte, Nat.reduceEqDiff]
end
end Go.AM

/- slices.AppendSeq, Collect over sturm.zeros; sturm.zeros; sturm.Isolate. -/
namespace Go.AM
open Go Go.RowKit Go.Proofs
def resA7 (r : List (Rat × Rat)) : D := if r = [] then .z true else rowA r
theorem gHs_nil : gHs [] = [([2], ⟨0, 0, [.d (.z true)], false⟩)] := rfl
theorem gHs_ne {r : List (Rat × Rat)} (h : r ≠ []) : gHs r = [([2], ⟨0, 0, [.own [11] r.length], false⟩), ([11], ⟨8, r.length, (cAs r).map .d, false⟩)] := if_neg h
variable [Its]
theorem Qos       : ∀ (xs r : List (Rat × Rat)), r.length + xs.length ≤ 100000 →
    Qde (X G) [7] slices_AppendSeq_2_api_Rat_2_api_Rat_a0 slices_AppendSeq_2_api_Rat_2_api_Rat_b0 QnX [] (xs.map fun q => [enc2 q]) (hpL (gHs r)) = some (.n, ⟨QnX, hpL (gHs (r ++ xs)), []⟩)
  | [], r, _ => by rw [List.append_nil]; rfl
  | q :: xs, r, h => by
    rw [List.map_cons, as_round q r (by simp at h; omega), Qos xs (r ++ [q]) (by simp at h ⊢; omega), List.append_assoc]; rfl
section
variable {dc : D} {l : Rat × Rat} {r : List (Rat × Rat)}
theorem Qmd            (hit : (G).it QaB             (Qcx     dc l) = some (r.map fun q => [enc2 q])) (hr : r.length ≤ 100000) :
    Qai G QbP [.z true, .fn QaB (Qcx dc l)] = some (if r = [] then .d (.z true) else .own 8 r.length (cAs r)) := by
  rw [Qad (cf := QaP) rfl]
  have hrd := Qos r [] (by simpa using hr)
  rw [List.nil_append, gHs_nil] at hrd
  have hA : slices_AppendSeq_2_api_Rat_2_api_Rat_a0.holds [[2]] = true := rfl
  have hB : slices_AppendSeq_2_api_Rat_2_api_Rat_b0.holds [[2]] = true := rfl
  have n7 : allD ((cAs r).map A.d) = some (cAs r) := Qd1 _
  generalize (r.map fun q => [enc2 q]) = XS at *
  generalize Qcx dc l = za at *
  by_cases h : r = []
  · subst h
    rw [gHs_nil] at hrd
    rw [if_pos rfl]
    simp only [QnX, go_sem] at hrd
    simp -implicitDefEqProofs (maxSteps:=9^8) only [QaP, X_rfn, QkN, hA, hB, hit, hrd, ldn1, stn1, Qaa, go_sem, iv, bv, reduceCtorEq, ↓reduceIte, Nat.reduceEqDiff]
  · rw [gHs_ne h] at hrd
    rw [if_neg h]
    simp only [QnX, go_sem] at hrd
    simp -implicitDefEqProofs (maxSteps:=9^8) only [QaP, X_rfn, QkN, hA, hB, hit, hrd, n7, ldn1, stn1, Qnt, own_c, own_o, Qaa, go_sem, iv, bv, reduceCtorEq, ↓reduceIte, Nat.reduceEqDiff]
theorem Qo1          (hit : (G).it QaB             (Qcx     dc l) = some (r.map fun q => [enc2 q])) (hr : r.length ≤ 100000) :
    Qai G QdE [.fn QaB (Qcx dc l)] = some (.d (resA7 r)) := by
  rw [Qad (cf := QbX) rfl]
  have g := Qmd hit hr
  unfold resA7 rowA
  by_cases h : r = []
  · rw [if_pos h] at *
    simp -implicitDefEqProofs (maxSteps:=9^8) only [QbX, g, Qaa, go_sem, iv, bv, reduceCtorEq, ↓reduceIte, Nat.reduceEqDiff]
  · rw [if_neg h] at *
    simp -implicitDefEqProofs (maxSteps:=9^8) only [QbX, g, Qaa, go_sem, iv, bv, reduceCtorEq, ↓reduceIte, Nat.reduceEqDiff]
theorem Qst {ds : List D} : Qai G Qjz [.row ds.length ds, enc2 l] = some (.d (.fn QaB (Qcx (.row ds.length ds) l))) := by
 rw [Qad (cf := QiI) rfl]
 obtain ⟨lo, hi⟩ := l
 simp -implicitDefEqProofs (maxSteps:=9^8) only [QiI, Qcx, enc2, c2R, toDs, allD, snap, QcU, nf_c, nf_o, Qac, Qab, Qaa, go_sem, iv, bv, reduceCtorEq, ↓reduceIte, Nat.reduceEqDiff]
end
theorem Qo8          {dp : D} {p : List Rat} {b : Rat} {r : List (Rat × Rat)} (hp : RwR dp p) (hp0 : p ≠ []) (np : p.length ≤ 17) (hB : Qai   G QcP           [dp] = some (.d (encR b))) (hC : ∃ ds, Dls ds (chP p) ∧ Qai   G QbK           [dp] = some (.own 1 ds.length ds))
    (hit : ∀ ds, Dls ds (chP p) → (G).it QaB (Qcx (.row ds.length ds) (-b, b)) = some (r.map fun q => [enc2 q])) (hr : r.length ≤ 100000) : Qai G Qgb [dp] = some (.d (.tup [resA7 r, iv 0])) := by
  rw [Qad (cf := Qhb) rfl]
  obtain ⟨ds, hd, g1⟩ := hC
  have g2 := Qst (l := (-b, b)) (ds := ds)
  have g3 := Qo1 (hit ds hd) hr
  have g4 := QiM b
  have ll := hp.len
  have e1 : ((p.length : Int) == 0) = false := QcG (by have := List.length_pos_iff.2 hp0; omega)
  have e2 : decide ((p.length : Int) > 17) = false := decide_eq_false (by omega)
  generalize Qcx (.row ds.length ds) (-b, b) = za at *
  generalize resA7 r = ra at *
  clear hit hd hp hp0 np
  generalize -b = nb at *
  simp only [encR, enc2, c2R, iv] at hB g2 g4
  simp -implicitDefEqProofs (maxSteps:=9^8) only [Qhb, toDs, allD, g1, g2, g3, g4, hB, ll, e1, e2, st4q, ld4q, QeP, Qcn, Qaa, go_sem, iv, bv, reduceCtorEq, ↓reduceIte, Nat.reduceEqDiff]
end Go.AM

/- law07.lives. -/
namespace Go.AM
open Go Go.RowKit Go.Proofs
class ItsZ [Its] : Prop where
 zer : ∀ {dc : D} {ps : List (List Rat)} {l : Rat × Rat} {r : List (Rat × Rat)} {k : Nat}, RwC dc ps → ps.length ≤ 1000 → (∀ p ∈ ps, SzL KZ p ∧ p.length * (2 * KZ + 1) ≤ 40000000000) → wtZ KZ ps k l = some r → (G).it QaB (Qcx dc l) = some (r.map fun q => [enc2 q])
def lp7 : List Rat := [2, -3, 0, 1]
def lc7 : List (List Rat) := [[-2, 1, 1], [1, 2], [9 / 4]]
theorem l7_de : deP lp7 = [-3, 0, 3] := by kernel_rfl
theorem l7_g : gcdP lp7 [-3, 0, 3] = [-1, 1] := by kernel_rfl
theorem l7_q : quoP lp7 [-1, 1] = [-2, 1, 1] := by kernel_rfl
theorem l7_f : frP lp7 = [-2, 1, 1] := by kernel_rfl
theorem l7_c : chP lp7 = lc7 := by kernel_rfl
theorem l7_b : bdR lp7 = 4 := by kernel_rfl
theorem l7_n1 : cnt lc7 (-3) 3 = 2 := by kernel_rfl
theorem l7_n2 : cnt lc7 (-2) 1 = 1 := by kernel_rfl
theorem l7_n3 : cnt lc7 1 5 = 0 := by kernel_rfl
theorem l7_i0 : cnt lc7 (-4) 4 = 2 := by kernel_rfl
theorem l7_i1 : cnt lc7 (-4) 0 = 1 := by kernel_rfl
theorem l7_i2 : cnt lc7 0 4 = 1 := by kernel_rfl
theorem l7_m : mid (-4) 4 = 0 := by kernel_rfl
theorem l7_dv : dvB [-1, 1] (dvN lp7 [-1, 1]) lp7 = true := by kernel_rfl
theorem l7_gb : gcB 4 (mnP lp7) (mnP [-3, 0, 3]) = true := by kernel_rfl
theorem l7_sp : smL lp7 = true := by kernel_rfl
theorem l7_s1 : smL [-3, 0, 3] = true := by kernel_rfl
theorem Qr8 : smL [-1, 1] = true := by kernel_rfl
theorem QrS : smL [-2, 1, 1] = true := by kernel_rfl
theorem l7_s4 : smL [1, 2] = true := by kernel_rfl
theorem l7_s5 : smL [9 / 4] = true := by kernel_rfl
theorem l7_r1 : remP [-2, 1, 1] [1, 2] = [-9 / 4] := by kernel_rfl
theorem l7_r2 : remP [1, 2] [9 / 4] = [] := by kernel_rfl
theorem l7_sc : scP [-9 / 4] (-1) = [9 / 4] := by kernel_rfl
theorem l7_d2 : deP [-2, 1, 1] = [1, 2] := by kernel_rfl
theorem sm7 {l : List Rat} (h : smL l = true) : SzL 7000 l := (QbR h).mono (by omega)
theorem sz_i {n : Int} (h : I64 n) : sz ((n : Int) : Rat) ≤ 3 := Qmk h
theorem l7_ch : ChOk 800000 lp7.length (frP lp7) (deP (frP lp7)) := by
 rw [l7_f, l7_d2]
 refine Qqk (sm7 QrS) (sm7 l7_s4) (by simp) (by simp) (trm2 (by decide)) ?_
 rw [l7_r1, l7_sc]
 refine Qqk (sm7 l7_s4) (sm7 l7_s5) (by simp) (by simp) (trm1 (by decide +kernel)) ?_
 rw [l7_r2]
 exact ch_done _ _ _
theorem l7_hs {K : Nat} (hK : 1 ≤ K) (hK2 : K ≤ 1000000000) : ∀ q ∈ lc7, SzL K q ∧ q.length * (2 * K + 1) ≤ 40000000000 := by
 intro q hq
 have h3 : q.length ≤ 3 := by
  rcases List.mem_cons.1 hq with rfl | hq
  ·simp
  ·rcases List.mem_cons.1 hq with rfl | hq
   ·simp
   ·rw [List.mem_singleton.1 hq]; simp
 have h4 : q.length * (2 * K + 1) ≤ 3 * (2 * K + 1) := Nat.mul_le_mul_right _ h3
 refine ⟨?_, by omega⟩
 rcases List.mem_cons.1 hq with rfl | hq
 ·exact (QbR QrS).mono hK
 ·rcases List.mem_cons.1 hq with rfl | hq
  ·exact (QbR l7_s4).mono hK
  ·rw [List.mem_singleton.1 hq]; exact (QbR l7_s5).mono hK
theorem z_m4 : sz (-4 : Rat) ≤ 3 := sz_i (n := -4) ⟨by omega, by omega⟩
theorem z_4 : sz (4 : Rat) ≤ 3 := sz_i (n := 4) ⟨by omega, by omega⟩
theorem z_0 : sz (0 : Rat) ≤ 3 := by rw [QhW]; omega
theorem l7_w1 : wtZ KZ lc7 1 (-4, 0) = some [(-4, 0)] := by
 have k : 3 ≤ KZ := by unfold KZ; omega
 have a := z_m4
 have c := z_0
 rw [wtZ]
 dsimp only
 rw [if_pos ⟨by omega, by omega⟩, l7_i1]
 rfl
theorem l7_w2 : wtZ KZ lc7 1 (0, 4) = some [(0, 4)] := by
 have k : 3 ≤ KZ := by unfold KZ; omega
 have b := z_4
 have c := z_0
 rw [wtZ]
 dsimp only
 rw [if_pos ⟨by omega, by omega⟩, l7_i2]
 rfl
theorem l7_wt : wtZ KZ lc7 2 (-4, 4) = some [(-4, 0), (0, 4)] := by
 have k : 3 ≤ KZ := by unfold KZ; omega
 have a := z_m4
 have b := z_4
 rw [wtZ]
 dsimp only
 rw [if_pos ⟨by omega, by omega⟩, l7_i0, if_neg (by decide), if_neg (by decide), l7_m, l7_w1, l7_w2]
 rfl
section
variable [Its]
theorem of7_p : Qai G QbA [iv 1, .row 4 [iv 2, iv (-3), iv 0, iv 1]] = some (.d (rowR lp7)) := callX_some.2 ⟨60, by kernel_rfl⟩
theorem of7_1 : Qai G QbA [iv 1, .row 3 [iv (-2), iv 1, iv 1]] = some (.d (rowR [-2, 1, 1])) := callX_some.2 ⟨60, by kernel_rfl⟩
theorem of7_2 : Qai G QbA [iv 1, .row 2 [iv 1, iv 2]] = some (.d (rowR [1, 2])) := callX_some.2 ⟨60, by kernel_rfl⟩
theorem of7_3 : Qai G QbA [iv 4, .row 1 [iv 9]] = some (.d (rowR [9 / 4])) := callX_some.2 ⟨60, by kernel_rfl⟩
theorem l7_free : ∃ d', RwR d' (frP lp7) ∧ Qai G Qct [rowR lp7] = some (.d d') := by
 have h := Qge (K := 1) (RwR.row lp7) (by decide) (by omega) (by omega) (QbR l7_sp)
 rw [l7_de, l7_g, l7_q] at h
 exact h (QbR l7_s1) (Qoz l7_gb) (by simp) (QbR Qr8) (QkC l7_dv) (QbR QrS)
theorem Qm4 : ∃ ds, Dls ds (chP lp7) ∧ Qai G QbK [rowR lp7] = some (.own 1 ds.length ds) :=
 QiF (K := 800000) (by decide) (by decide) l7_free (by rw [l7_f]; simp) (by rw [l7_f]; simp) (by rw [l7_f]; exact (QbR QrS).mono (by omega)) l7_ch (by omega) (by omega)
theorem Qnw [ItsB] {lo hi : Rat} (h1 : sz lo ≤ 3) (h2 : sz hi ≤ 3) : Qai G QcJ [rowR lp7, encR lo, encR hi] = some (.d (iv (cnt lc7 lo hi))) := by
 have h := Qkx (K := 3) Qm4 (lo := lo) (hi := hi) (by rw [l7_c]; decide) (by rw [l7_c]; exact l7_hs (by omega) (by omega)) h1 h2 (by omega)
 rw [l7_c] at h
 exact h
theorem l7_isol [ItsZ] : Qai G Qgb [rowR lp7] = some (.d (.tup [rowA [(-4, 0), (0, 4)], iv 0])) := by
 have hB := Qi1 (K := 1) (RwR.row lp7) (by decide) (QbR l7_sp) (by omega) (by omega)
 rw [l7_b] at hB
 exact Qo8 (b := 4) (r := [(-4, 0), (0, 4)]) (RwR.row lp7) (by decide) (by decide) hB Qm4 (fun ds hd => ItsZ.zer (k := 2) hd.rwc (by rw [l7_c]; decide) (by rw [l7_c]; exact l7_hs (by unfold KZ; omega) (by unfold KZ; omega)) (by rw [l7_c]; exact l7_wt)) (by simp)
end
end Go.AM

