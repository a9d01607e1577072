/- Part 9 of the proof: a small machine, its soundness against the model, and what the program's functions compute on it. -/
import Derived.Test.YtfdelaplhpmneaaGreatM8
import Derived.Test.YtfdelaplhpmneaaGreatM3
import Derived.Test.YtfdelaplhpmneaaGreatM7
import Derived.KernelRfl
set_option linter.unusedVariables false
set_option linter.unusedSimpArgs false
/- Rows of rationals; poly.Trim, slices.Clone, slices.Backward. -/
namespace Go.AM
open Go Go.RowKit

theorem cRs_one : ∀ l : List Rat, (cRs l).all D.one = true
 | [] => rfl
 | q :: l => by
  have h1 : ∀ m : List Int, (dg m).one = true := fun m => by cases m <;> rfl
  simp only [cRs, List.all_cons, cRs_one l, h1, Bool.and_true]
  rfl
theorem sgn0 (q : Rat) : (Int.sign q.num == 0) = decide (q = 0) := by
 by_cases h : q = 0
 ·subst h; rfl
 ·rw [decide_eq_false h]
  refine QdJ fun hc => h (Rat.num_eq_zero.1 (Int.sign_eq_zero_iff_zero.1 hc))

def cutR (l : List Rat) : Nat → Nat
 | 0 => 0
 | n + 1 => if l.getD n 0 = 0 then cutR l n else n + 1
def QeA (l : List Rat) : List Rat := l.take (cutR l l.length)
theorem Qjv (l : List Rat) : ∀ n, cutR l n ≤ n
 | 0 => Nat.le_refl _
 | n + 1 => by
  rw [cutR]
  split
  ·exact Nat.le_succ_of_le (Qjv l n)
  ·exact Nat.le_refl _
theorem Qe9 (l : List Rat) : (QeA l).length = cutR l l.length := by
 rw [QeA, List.length_take]
 have := Qjv l l.length
 omega
theorem Qih (l : List Rat) : (QeA l).length ≤ l.length := by rw [Qe9]; exact Qjv _ _
theorem rep_0 (zs : List D) : rep 0 zs = [] := rfl
variable [Its]

def clR (l : List Rat) : R := if false then .d (rowR l) else .own 4 l.length (cRs l)
theorem Clone_row {l : List Rat} (hl : l.length * 64 ≤ 140737488351232) : Qaj G Qb0 [rowR l] = some (clR l) := by
 rw [Qae (cf := slices_Clone_api_Poly_api_Rat) rfl]
 have e1 := QfT l
 have e2 := cRs_one l
 have e3 : l.length * 64 ≤ bound := by unfold bound; omega
 unfold clR rowR
 generalize cRs l = cs at *
 simp -implicitDefEqProofs (maxSteps := 10000000) only [slices_Clone_api_Poly_api_Rat, isnA, appA, srcS, src, Qrz, Qk0, Nat.zero_add, rep_0, List.map_nil, List.length_nil, List.nil_append, go_sem, iv, bv, e1, e2, e3, reduceCtorEq, ↓reduceIte, Nat.reduceEqDiff]
theorem Clone_nil : Qaj G Qb0 [.z true] = some (.d (.z true)) := by
 rw [Qae (cf := slices_Clone_api_Poly_api_Rat) rfl]
 simp -implicitDefEqProofs (maxSteps := 10000000) only [slices_Clone_api_Poly_api_Rat, isnA, go_sem, iv, bv, reduceCtorEq, ↓reduceIte, Nat.reduceEqDiff]

def Qiw (d : D) (n : Int) : St := mkS [(0, .d d), (3, ai n)] []
theorem tr_go {d : D} {l : List Rat} (hr : RwR d l) {n : Nat} (hn : n < l.length) (hl : l.length * 64 ≤ 140737488351232) (h0 : l.getD n 0 = 0) : X G Qcw (Qiw d ((n + 1 : Nat) : Int)) = some (.n, Qiw d (n : Int)) := by
 have e1 : decide (((n + 1 : Nat) : Int) > 0) = true := gt_t (by omega)
 have e2 : w64 (((n + 1 : Nat) : Int) - 1) = (n : Int) := by rw [Qac (by omega) (by omega)]; omega
 have e3 := hr.ixa hn
 have e4 := fun h => ldR h l hn
 have g := QaQ (l.getD n 0)
 have e5 : (Int.sign (l.getD n 0).num == 0) = true := by rw [sgn0]; exact decide_eq_true h0
 clear h0
 generalize ((n + 1 : Nat) : Int) = n1 at *
 generalize l.getD n 0 = q at *
 simp only [encR, iv] at e4 g
 simp -implicitDefEqProofs (maxSteps := 10000000) only [Qcw, Qiw, go_sem, iv, bv, e1, e2, e3, e4, e5, g, reduceCtorEq, ↓reduceIte, Nat.reduceEqDiff]
theorem tr_stop {d : D} {l : List Rat} (hr : RwR d l) {n : Nat} (hn : n < l.length) (hl : l.length * 64 ≤ 140737488351232) (h0 : l.getD n 0 ≠ 0) : X G Qcw (Qiw d ((n + 1 : Nat) : Int)) = some (.x 0, Qiw d ((n + 1 : Nat) : Int)) := by
 have e1 : decide (((n + 1 : Nat) : Int) > 0) = true := gt_t (by omega)
 have e2 : w64 (((n + 1 : Nat) : Int) - 1) = (n : Int) := by rw [Qac (by omega) (by omega)]; omega
 have e3 := hr.ixa hn
 have e4 := fun h => ldR h l hn
 have g := QaQ (l.getD n 0)
 have e5 : (Int.sign (l.getD n 0).num == 0) = false := by rw [sgn0]; exact decide_eq_false h0
 clear h0
 generalize ((n + 1 : Nat) : Int) = n1 at *
 generalize l.getD n 0 = q at *
 simp only [encR, iv] at e4 g
 simp -implicitDefEqProofs (maxSteps := 10000000) only [Qcw, Qiw, go_sem, iv, bv, e1, e2, e3, e4, e5, g, reduceCtorEq, ↓reduceIte, Nat.reduceEqDiff]
theorem tr_zero {d : D} : X G Qcw (Qiw d 0) = some (.x 0, Qiw d 0) := by
 have e1 : decide ((0 : Int) > 0) = false := rfl
 simp -implicitDefEqProofs (maxSteps := 10000000) only [Qcw, Qiw, go_sem, iv, bv, e1, reduceCtorEq, ↓reduceIte, Nat.reduceEqDiff]
theorem tr_loop {d : D} {l : List Rat} (hr : RwR d l) (hl : l.length * 64 ≤ 140737488351232) : ∀ n : Nat, n ≤ l.length → X G (.loop Qcw) (Qiw d (n : Int)) = some (.x 0, Qiw d (cutR l n : Nat))
 | 0, _ => by
  rw [Qah]
  show (X G Qcw (Qiw d 0)).bind _ = _
  rw [tr_zero]; rfl
 | n + 1, hn => by
  rw [Qah, cutR]
  by_cases h0 : l.getD n 0 = 0
  ·rw [tr_go hr (by omega) hl h0, Option.bind_some, if_pos rfl, if_pos h0]
   exact tr_loop hr hl n (by omega)
  ·rw [tr_stop hr (by omega) hl h0, if_neg h0]; rfl

theorem Trim_spec {d : D} {l : List Rat} (hr : RwR d l) (hl : l.length * 64 ≤ 140737488351232) : ∃ d', RwR d' (QeA l) ∧ Qaj G Qk3 [d] = some (.d d') := by
 rw [Qae (cf := poly_Trim) rfl]
 have hl' := tr_loop hr hl l.length (Nat.le_refl _)
 have hc := Qjv l l.length
 have ll := hr.len
 rcases hr with ⟨rfl, rfl⟩ | rfl
 ·have g := Clone_nil
  simp only [Qiw, List.length_nil, cutR, go_sem] at hl'
  refine ⟨.z true, .inl ⟨rfl, rfl⟩, ?_⟩
  simp -implicitDefEqProofs (maxSteps := 10000000) only [poly_Trim, slcA, bnds, optI, go_sem, iv, bv, hl', g, ll, Int.le_refl, reduceCtorEq, ↓reduceIte, Nat.reduceEqDiff]
 ·refine ⟨rowR (QeA l), .row _, ?_⟩
  have g := Clone_row (l := QeA l) (by have := Qih l; omega)
  have e1 : rowR (QeA l) = .row (cutR l l.length) ((cRs l).take (cutR l l.length * 4)) := by rw [rowR, Qe9, QeA, Qkv]
  rw [e1] at g ⊢
  unfold clR at g
  have e7 := Qe9 l
  have e8 : cRs (QeA l) = (cRs l).take (cutR l l.length * 4) := by rw [QeA, Qkv]
  rw [e1, e7, e8] at g
  clear e1 e7 e8
  have e2 : (((0 : Int) ≤ 0 ∧ (0 : Int) ≤ (cutR l l.length : Nat) ∧ ((cutR l l.length : Nat) : Int) ≤ (l.length : Nat))) = True := eq_true ⟨by omega, by omega, by omega⟩
  have e3 : ((cutR l l.length : Nat) : Int).toNat = cutR l l.length := Int.toNat_natCast _
  have e5 : ((0 : Int) ≤ (cutR l l.length : Nat)) = True := eq_true (by omega)
  have e6 : (((cutR l l.length : Nat) : Int) ≤ (l.length : Nat)) = True := eq_true (by omega)
  unfold rowR at *
  generalize cutR l l.length = c at *
  generalize cRs l = cs at *
  simp only [Qiw, go_sem] at hl'
  simp -implicitDefEqProofs (maxSteps := 10000000) only [poly_Trim, slcA, bnds, optI, go_sem, iv, bv, hl', g, ll, e2, e3, e5, e6, Int.le_refl, and_self, reduceCtorEq, ↓reduceIte, Nat.reduceEqDiff]

theorem QnQ {d : D} {l : List Rat} (hr : RwR d l) : Qaj G Qcq [d] = some (.d (.fn Qal [.rp [d]])) := by
 rw [Qae (cf := slices_Backward_api_Poly_api_Rat) rfl]
 rcases hr with ⟨rfl, rfl⟩ | rfl
 ·simp -implicitDefEqProofs (maxSteps := 10000000) only [slices_Backward_api_Poly_api_Rat, go_sem, snap, Qcy, Qaf, Qab, iv, bv, reduceCtorEq, ↓reduceIte, Nat.reduceEqDiff]
 ·unfold rowR
  generalize cRs l = cs
  simp -implicitDefEqProofs (maxSteps := 10000000) only [slices_Backward_api_Poly_api_Rat, go_sem, snap, Qcy, Qaf, Qab, iv, bv, reduceCtorEq, ↓reduceIte, Nat.reduceEqDiff]
end Go.AM

/- slices.Backward: what its iterator yields; poly.Eval. -/
namespace Go.AM
open Go Go.RowKit Go.Proofs

def C.one1 : C → C
 | .seq a _ => a
 | .blk _ a => a
 | .loop a => a
 | c => c
def C.two2 : C → C
 | .seq _ b => b
 | c => c
def bkp (l : List Rat) : List (Int × Rat) := (List.range l.length).map fun i => (((l.length - 1 - i : Nat) : Int), l.getD (l.length - 1 - i) 0)
def bk1 (p : Int × Rat) : List D := [iv p.1, encR p.2]
def bkw (l : List Rat) : List (List D) := (bkp l).map bk1
theorem bkp_snd (l : List Rat) : (bkp l).map Prod.snd = l.reverse := by
 apply List.ext_getElem
 ·simp [bkp]
 ·intro i h1 h2
  simp only [bkp, List.map_map, List.getElem_map, List.getElem_range, Function.comp_apply, List.getElem_reverse]
  have h3 : i < l.length := by simpa [bkp] using h1
  rw [List.getD_eq_getElem?_getD, List.getElem?_eq_getElem (by omega)]; rfl
def bw_T : C := slices_Backward_api_Poly_api_Rat_1_l0.one1.one1
def bw_I : C := .seq (.keep [0, 1, 3] []) slices_Backward_api_Poly_api_Rat_1_l0.one1.two2.two2
def QrM : List O := [⟨some 11, .mov (.t 0), none⟩, ⟨some 12, .mov (.t 3), none⟩, ⟨some 13, .load none (.t 1), none⟩, ⟨some 14, .mov (.t 3), none⟩, ⟨some 15, .ixa 4 (.t 13) (.t 14), none⟩, ⟨some 16, .load (some 4) (.t 15), none⟩]
def Qnr : List O := [⟨some 18, .un .not (.t 17), none⟩]
theorem bw_shape : slices_Backward_api_Poly_api_Rat_1.body.er = .seq slices_Backward_api_Poly_api_Rat_1.body.one1.er (.blk 0 (.loop (.seq bw_T.er (.seq (.blk 1 (.seq (.reg ((QrM ++ ⟨some 17, .calv (.t 11) [.t 12, .t 16], none⟩ :: Qnr).map O.er) []) (.cond (.t 18) .ret .skip))) bw_I.er)))) := rfl
theorem bw_ld (h : Hp) (sz : Option Nat) (cs : List D) : QcF h sz (.d (.rp cs)) = Qja sz cs := rfl

def QnP (y : Nat) (d : D) (k : Int) : St := mkS [(0, .d (yv y)), (1, .d (.rp [d])), (3, ai k)] []
def Qm4 (y : Nat) (d : D) (k : Int) : St := mkS [(0, .d (yv y)), (1, .d (.rp [d])), (3, ai k), (8, ab true)] []
def Qm1 (y : Nat) (d : D) (k : Int) (rp q : List D) : St := ⟨upd (upd (upd (upd (upd (upd (Qm4 y d k).fr 11 (.d (yv y))) 12 (ai k)) 13 (.d d)) 14 (ai k)) 15 (.d (.rp rp))) 16 (.d (.agg q)), (Qm4 y d k).hp, []⟩
def Qso (y : Nat) (d : D) (k : Int) (rp q : List D) (t : Bool) : St := ⟨upd (upd (Qm1 y d k rp q).fr 17 (.d (.v (.bool t)))) 18 (.d (.v (.bool !t))), (Qm1 y d k rp q).hp, []⟩
def Rw4 (d : D) (n : Nat) (cs : List D) : Prop := (d = .z true ∧ n = 0) ∨ (d = .row n cs ∧ cs.length = n * 4)
theorem Rw4.len {d : D} {n : Nat} {cs : List D} (h : Rw4 d n cs) : lenA (.d d) = some n := by
 rcases h with ⟨rfl, rfl⟩ | ⟨rfl, _⟩ <;> rfl
theorem Rw4.ixa {d : D} {n : Nat} {cs : List D} (hr : Rw4 d n cs) {j : Nat} (h1 : j < n) (h : Hp) : ixaA h 4 (j : Int) (.d d) = some (.d (.rp (cs.drop (j * 4)))) := by
 rcases hr with ⟨rfl, rfl⟩ | ⟨rfl, _⟩
 ·omega
 ·simp only [ixaA, guardO]
  rw [if_pos ⟨by omega, by omega⟩, Int.toNat_natCast]
theorem Rw4.ld {d : D} {n : Nat} {cs : List D} (hr : Rw4 d n cs) {j : Nat} (h1 : j < n) (h : Hp) : QcF h (some 4) (.d (.rp (cs.drop (j * 4)))) = some (.d (.agg ((cs.drop (j * 4)).take 4))) := by
 rcases hr with ⟨rfl, rfl⟩ | ⟨rfl, hl⟩
 ·omega
 ·show guardO (4 ≤ (cs.drop (j * 4)).length) (some (A.d (D.agg ((cs.drop (j * 4)).take 4)))) = _
  exact if_pos (by rw [List.length_drop]; omega)
def bk4 (n : Nat) (cs : List D) : List (List D) := (List.range n).map fun i => [iv ((n - 1 - i : Nat) : Int), .agg ((cs.drop ((n - 1 - i) * 4)).take 4)]
theorem bk4_len (n : Nat) (cs : List D) : (bk4 n cs).length = n := by simp [bk4]
theorem bk4_R (l : List Rat) : bk4 l.length (cRs l) = bkw l := by
 unfold bk4 bkw bkp
 rw [List.map_map]
 apply List.map_congr_left
 intro i hi
 have hi' := List.mem_range.1 hi
 have h1 : l.length - 1 - i < l.length := by omega
 rw [Qm2]
 have e : l.drop (l.length - 1 - i) = l.getD (l.length - 1 - i) 0 :: l.drop (l.length - 1 - i + 1) := by
  rw [List.drop_eq_getElem_cons h1, List.getD_eq_getElem?_getD, List.getElem?_eq_getElem h1]; rfl
 rw [e]
 rfl


section
variable [Its]
theorem bw_start {y : Nat} {d : D} {n : Nat} {cs : List D} (hr : Rw4 d n cs) (hl : n ≤ 140737488351232) : X G slices_Backward_api_Poly_api_Rat_1.body.one1 ⟨argF 0 [yv y, .rp [d]], hp0, []⟩ = some (.n, QnP y d ((n : Int) - 1)) := by
 have e1 : w64 ((n : Int) - 1) = (n : Int) - 1 := Qac (by omega) (by omega)
 have ll := hr.len
 simp -implicitDefEqProofs (maxSteps := 10000000) only [slices_Backward_api_Poly_api_Rat_1, C.one1, QnP, argF, yv, bw_ld, List.head?_cons, ll, go_sem, Qaf, Qab, iv, bv, e1, reduceCtorEq, ↓reduceIte, Nat.reduceEqDiff]
theorem bw_more {y : Nat} {d : D} {j : Nat} : X G bw_T (QnP y d (j : Int)) = some (.n, Qm4 y d (j : Int)) := by
 have e1 : decide ((j : Int) ≥ 0) = true := decide_eq_true (by omega)
 simp -implicitDefEqProofs (maxSteps := 10000000) only [bw_T, slices_Backward_api_Poly_api_Rat_1_l0, C.one1, C.two2, QnP, Qm4, yv, e1, go_sem, Qaf, Qab, iv, bv, reduceCtorEq, ↓reduceIte, Nat.reduceEqDiff]
theorem bw_stop {y : Nat} {d : D} : X G bw_T (QnP y d (-1)) = some (.x 0, mkS [] []) := by
 have e1 : decide ((-1 : Int) ≥ 0) = false := rfl
 simp -implicitDefEqProofs (maxSteps := 10000000) only [bw_T, slices_Backward_api_Poly_api_Rat_1_l0, C.one1, C.two2, QnP, Qm4, yv, e1, go_sem, Qaf, Qab, iv, bv, reduceCtorEq, ↓reduceIte, Nat.reduceEqDiff]
theorem bw_p1 {y : Nat} {d : D} {n : Nat} {cs : List D} (hr : Rw4 d n cs) {j : Nat} (hj : j < n) : exs (Qaj G) QrM (Qm4 y d (j : Int)) = some (Qm1 y d (j : Int) (cs.drop (j * 4)) ((cs.drop (j * 4)).take 4)) := by
 have e3 := hr.ixa hj
 have e4 := hr.ld hj
 generalize (cs.drop (j * 4)).take 4 = q at *
 generalize cs.drop (j * 4) = rp at *
 simp -implicitDefEqProofs (maxSteps := 10000000) only [QrM, Qm4, Qm1, encR, yv, go_sem, e3, e4, bw_ld, Qja, List.head?_cons, Qaf, Qab, iv, bv, reduceCtorEq, ↓reduceIte, Nat.reduceEqDiff]
theorem bw_p2 {y : Nat} {d : D} {k : Int} {rp q : List D} {t : Bool} : exs (Qaj G) Qnr { Qm1 y d k rp q with fr := upd (Qm1 y d k rp q).fr 17 (.d (.v (.bool t))) } = some (Qso y d k rp q t) := by
 simp -implicitDefEqProofs (maxSteps := 10000000) only [Qnr, Qm4, Qm1, Qso, encR, yv, go_sem, Qaf, Qab, iv, bv, reduceCtorEq, ↓reduceIte, Nat.reduceEqDiff]
theorem bw_inc {y : Nat} {d : D} {j : Nat} {rp q : List D} (hj : j ≤ 140737488351232) : X G bw_I (Qso y d (j : Int) rp q true) = some (.n, QnP y d ((j : Int) - 1)) := by
 have e1 : w64 ((j : Int) - 1) = (j : Int) - 1 := Qac (by omega) (by omega)
 simp -implicitDefEqProofs (maxSteps := 10000000) only [bw_I, slices_Backward_api_Poly_api_Rat_1_l0, C.one1, C.two2, QnP, Qm4, Qm1, Qso, encR, yv, go_sem, e1, Qaf, Qab, iv, bv, reduceCtorEq, ↓reduceIte, Nat.reduceEqDiff]

end

theorem bw_walk {d : D} {n : Nat} {cs : List D} (hr : Rw4 d n cs) (hl : n ≤ 140737488351232) {N n' y : Nat} {S : Nat → Prop} {w0 : World} {J Jx : Held} {ac : Act} {W : World} (hab : QnK   w0 J) (habx : QnK   w0 Jx) (hans : QpJ     Tryz.prog n' S w0 y J Jx (bk4 n cs))
    (hI : Inv S w0 N J ⟨argF 0 [yv y, .rp [d]], hp0, []⟩ 0 ac W) :
    WY Tryz.prog N (n' + 1) slices_Backward_api_Poly_api_Rat_1.body.er (fun e' a' W' => (∀ id, e' ≠ .x id) ∧ ((∃ st, Inv S w0 N J st (bk4 n cs).length a' W') ∨ ∃ st i, Inv S w0 N Jx st i a' W')) ac W := by
  letI := noIts
  have hE : EnvOk Tryz.prog G := env_ok0
  rw [bw_shape]
  refine WY.seq ?_
  refine Inv.code hE hab hI rfl rfl (bw_start hr hl) ?_
  intro a1 W1 I1
  simp only [↓reduceIte]
  refine WY.blk ?_
  refine WY.loop (j := n) (fun j a' w' => ∃ i, i ≤ n ∧ j = n - i ∧ Inv S w0 N J (QnP y d (((n - i : Nat) : Int) - 1)) i a' w') ⟨0, by omega, by omega, ?_⟩ ?_
  · rw [Nat.sub_zero]
    exact I1
  · rintro j a2 W2 ⟨i, hi, rfl, I2⟩
    refine WY.seq ?_
    by_cases hin : i < n
    · obtain ⟨k, hk⟩ : ∃ k, k = n - 1 - i := ⟨_, rfl⟩
      have ek : ((n - i : Nat) : Int) - 1 = (k : Int) := by omega
      rw [ek] at I2
      have hkl : k < n := by omega
      refine Inv.code hE hab I2 rfl rfl bw_more ?_
      intro a3 W3 I3
      simp only [↓reduceIte]
      refine WY.seq (WY.blk (WY.seq ?_))
      refine Inv.yield hE hab habx hans I3 (pre := QrM) (post := Qnr) (d := 17) (ty := 11) (es := [.t 12, .t 16]) (s1 := Qm1 y d (k : Int) (cs.drop (k * 4)) ((cs.drop (k * 4)).take 4)) (x := [iv (k : Int), .agg ((cs.drop (k * 4)).take 4)]) (rt := Qso y d (k : Int) (cs.drop (k * 4)) ((cs.drop (k * 4)).take 4) true) (rf := Qso y d (k : Int) (cs.drop (k * 4)) ((cs.drop (k * 4)).take 4) false) (bw_p1 hr hkl) rfl rfl ?_ bw_p2 bw_p2 ?_ ?_
      · rw [bk4, List.getElem?_map, List.getElem?_range hin, hk]; rfl
      · intro a4 W4 I4
        simp only [↓reduceIte]
        refine WY.cond (t := false) (I4.bool rfl) (fun h => by cases h) (fun _ => WY.skip ?_)
        simp only [↓reduceIte]
        refine Inv.code hE hab I4 rfl rfl (bw_inc (by omega)) ?_
        intro a6 W6 I6
        simp only [↓reduceIte]
        refine ⟨n - (i + 1), by omega, i + 1, by omega, rfl, ?_⟩
        rw [show ((n - (i + 1) : Nat) : Int) - 1 = (k : Int) - 1 by omega]
        exact I6
      · intro a4 W4 I4
        simp only [↓reduceIte]
        refine WY.cond (t := true) (I4.bool rfl) (fun _ => WY.ret ?_) (fun h => by cases h)
        simp only [reduceCtorEq, ↓reduceIte]
        exact ⟨fun _ h => (by cases h), .inr ⟨_, _, I4⟩⟩
    · have : i = n := by omega
      subst this
      rw [Nat.sub_self] at I2
      refine Inv.code hE hab I2 rfl rfl bw_stop ?_
      intro a3 W3 I3
      simp only [reduceCtorEq, ↓reduceIte]
      exact ⟨fun _ h => (by cases h), .inl ⟨_, by rw [bk4_len]; exact I3⟩⟩

theorem QlC {d : D} {n : Nat} {cs : List D} (hr : Rw4 d n cs) (hl : n ≤ 140737488351232) : ItOk Tryz.prog Qal [.rp [d]] (bk4 n cs) := by
 refine it_ok (Γ := @G noIts) env_ok0 (cf := slices_Backward_api_Poly_api_Rat_1) Tryz.func136 Qcg ?_ rfl rfl ?_
 ·intro b hb
  have : (Tryz.f136.body.map okY) = some true := by kernel_rfl
  rw [hb] at this
  simpa using this
 ·intro n' y S w0 J Jx ac W hab habx hans hI
  exact bw_walk hr hl hab habx hans hI

def QnZ : List D → Option (List (List D))
 | [.rp [.z true]] => some []
 | [.rp [.row n cs]] => if cs.length = n * 4 ∧ n ≤ 140737488351232 then some (bk4 n cs) else none
 | _ => none
theorem itBack_ok {ds : List D} {xs : List (List D)} (h : QnZ ds = some xs) : ItOk Tryz.prog Qal ds xs := by
  unfold QnZ at h
  split at h
  · cases h
    exact QlC (n := 0) (cs := []) (.inl ⟨rfl, rfl⟩) (by omega)
  · split at h
    · rename_i hc
      cases h
      exact QlC (.inr ⟨rfl, hc.1⟩) hc.2
    · cases h
  · cases h
class ItsB [Its] : Prop where
 back : ∀ ds, Its.it Qal ds = QnZ ds
theorem its_back [Its] [ItsB] {d : D} {l : List Rat} (h : RwR d l) (hl : l.length ≤ 140737488351232) : Its.it Qal [.rp [d]] = some (bkw l) := by
 rw [ItsB.back, ← bk4_R]
 rcases h with ⟨rfl, rfl⟩ | rfl
 ·rfl
 ·exact if_pos ⟨QfT l, hl⟩

def evR (l : List Rat) (x : Rat) : Rat := l.foldr (fun a s => s * x + a) 0
theorem Qnz (a : Rat) (l : List Rat) (x : Rat) : evR (a :: l) x = evR l x * x + a := rfl
theorem evR_bk (l : List Rat) (x : Rat) : (bkp l).foldl (fun s p => s * x + p.2) 0 = evR l x := by
 have h : ∀ (ps : List (Int × Rat)) (s : Rat), ps.foldl (fun s p => s * x + p.2) s = (ps.map Prod.snd).foldl (fun s a => s * x + a) s := by
  intro ps
  induction ps with
  | nil => intro s; rfl
  | cons p ps ih => intro s; exact ih _
 rw [h, bkp_snd, List.foldl_reverse]
 rfl
def ev_fr : Fr := frL [(3, .ptr [3] 0), (4, .ptr [4] 0), (5, .ptr [5] 0)]
def ev_hp (x s : Rat) : Hp := hpL [([3], boxR x), ([4], boxR0), ([5], boxR s)]
theorem evR_sz {x : Rat} {K : Nat} (hK : sz x ≤ K) : ∀ l : List Rat, (∀ q ∈ l, sz q ≤ K) → sz (evR l x) ≤ l.length * (2 * K + 1) + 1
 | [], _ => by rw [evR, List.foldr_nil, Qjg]; omega
 | a :: l, h => by
  have ih := evR_sz hK l (fun q hq => h q (List.mem_cons_of_mem _ hq))
  have h2 := h a (List.mem_cons_self ..)
  have k1 := Qe6 (a := evR l x) (b := x)
  have k2 := Qlu (a := evR l x * x) (b := a)
  have h1 : (a :: l).length * (2 * K + 1) = l.length * (2 * K + 1) + (2 * K + 1) := by rw [List.length_cons, Nat.succ_mul]
  rw [Qnz]; omega
variable [Its]

theorem Qpc       {x : Rat} {K : Nat} (hK : sz x ≤ K) (hK2 : K ≤ 1000000000) : ∀ (ps : List (Int × Rat)) (s : Rat), (∀ p ∈ ps, sz p.2 ≤ K) → sz s + ps.length * (2 * K + 1) ≤ 50000000000 →
    Qei (X G) [10, 11] poly_Eval_a0 poly_Eval_b0 ev_fr [] (ps.map bk1) (ev_hp x s) = some (.n, ⟨ev_fr, ev_hp x (ps.foldl (fun s p => s * x + p.2) s), []⟩)
  | [], s, _, _ => rfl
  | p :: ps, s, hp, hs => by
    have h1 : (p :: ps).length * (2 * K + 1) = ps.length * (2 * K + 1) + (2 * K + 1) := by rw [List.length_cons, Nat.succ_mul]
    have h2 := hp p (List.mem_cons_self ..)
    have g1 := QcE (a := s) (b := x) (by omega) (by omega)
    have k1 := Qe6 (a := s) (b := x)
    have g2 := Qf7 (a := s * x) (b := p.2) (by omega) (by omega)
    have k2 := Qlu (a := s * x) (b := p.2)
    have ih := Qpc hK hK2 ps (s * x + p.2) (fun q hq => hp q (List.mem_cons_of_mem _ hq)) (by omega)
    rw [List.map_cons, List.foldl_cons, ← ih]
    clear ih hp
    generalize s * x + p.2 = r at *
    generalize s * x = sx at *
    obtain ⟨k, q⟩ := p
    unfold bk1
    simp only at g2 ⊢
    generalize List.map _ ps = XS
    simp only [encR] at g1 g2
    simp -implicitDefEqProofs (maxSteps := 10000000) only [Qei, poly_Eval_a0, poly_Eval_b0, ev_fr, ev_hp, boxR, encR, boxR0, putL, go_sem, Qaf, Qab, iv, bv, g1, g2, reduceCtorEq, ↓reduceIte, Nat.reduceEqDiff]
theorem Qh7 [ItsB] {d : D} {l : List Rat} {x : Rat} {K : Nat} (hr : RwR d l) (hK : sz x ≤ K) (hK2 : K ≤ 1000000000) (hl : ∀ q ∈ l, sz q ≤ K) (hn : l.length * (2 * K + 1) ≤ 40000000000) : Qaj G QdL [d, encR x] = some (.d (encR (evR l x))) := by
 rw [Qae (cf := poly_Eval) rfl]
 have g1 := QnQ hr
 have hn' : l.length ≤ l.length * (2 * K + 1) := Nat.le_mul_of_pos_right _ (by omega)
 have hit : (G).it Qal [.rp [d]] = some (bkw l) := its_back hr (by omega)
 have hp : (bkp l).length = l.length := by simp [bkp]
 have hrd := Qpc hK hK2 (bkp l) 0 (fun p hp' => by
  have : p.2 ∈ (bkp l).map Prod.snd := List.mem_map_of_mem hp'
  rw [bkp_snd] at this
  exact hl _ (List.mem_reverse.1 this)) (by rw [hp, Qjg]; omega)
 rw [evR_bk] at hrd
 have e1 : (bkp l).map bk1 = bkw l := rfl
 rw [e1] at hrd
 have hA : poly_Eval_a0.holds [[3], [4], [5]] = true := rfl
 have hB : poly_Eval_b0.holds [[3], [4], [5]] = true := rfl
 have e0 : boxR 0 = boxR0 := by
  have ez : decide ((0 : Rat).num < 0) = false := rfl
  have ez2 : dg (digs (0 : Rat).num.natAbs) = .z true := by rw [Rat.zero_num, show (0 : Int).natAbs = 0 from rfl, QaH]; rfl
  have ez3 : dg (dd (0 : Rat).den) = .z true := rfl
  rw [boxR, ez, ez2, ez3]; rfl
 rw [ev_hp, e0] at hrd
 clear hp e1 hn e0
 generalize bkw l = XS at *
 generalize evR l x = v at *
 simp only [ev_fr, ev_hp, boxR, boxR0, go_sem] at hrd
 simp -implicitDefEqProofs (maxSteps := 10000000) only [poly_Eval, X_rfn, QmC, hA, hB, hit, hrd, encR, go_sem, Qaf, Qab, iv, bv, g1, reduceCtorEq, ↓reduceIte, Nat.reduceEqDiff]
end Go.AM

/- Polynomials as lists: values, and that values tell them apart. -/
namespace Go.AM
open Go Go.RowKit

def sumR (f : Nat → Rat) : Nat → Rat
 | 0 => 0
 | n + 1 => sumR f n + f n
theorem Qmv {f g : Nat → Rat} : ∀ n, (∀ k, k < n → f k = g k) → sumR f n = sumR g n
 | 0, _ => rfl
 | n + 1, h => by rw [sumR, sumR, Qmv n (fun k hk => h k (by omega)), h n (by omega)]
theorem Qo8 {f : Nat → Rat} {n : Nat} : ∀ d, (∀ k, n ≤ k → k < n + d → f k = 0) → sumR f (n + d) = sumR f n
 | 0, _ => rfl
 | d + 1, h => by
  show sumR f (n + d) + f (n + d) = _
  rw [Qo8 d (fun k h1 h2 => h k h1 (by omega)), h (n + d) (by omega) (by omega), Rat.add_zero]
theorem sumR_ge {f : Nat → Rat} {n m : Nat} (hm : n ≤ m) (h : ∀ k, n ≤ k → f k = 0) : sumR f m = sumR f n := by
 obtain ⟨d, rfl⟩ : ∃ d, m = n + d := ⟨m - n, by omega⟩
 exact Qo8 d (fun k h1 _ => h k h1)

theorem Qkt {l : List Rat} {k : Nat} (h : l.length ≤ k) : l.getD k 0 = 0 := by
 rw [List.getD_eq_getElem?_getD, List.getElem?_eq_none h]; rfl
theorem Qo0 (l : List Rat) (k : Nat) : (QeA l).getD k 0 = l.getD k 0 := by
 have hc : ∀ n, n ≤ l.length → ∀ k, cutR l n ≤ k → k < n → l.getD k 0 = 0 := by
  intro n
  induction n with
  | zero => intro _ k _ h; omega
  | succ n ih =>
   intro hn k h1 h2
   rw [cutR] at h1
   split at h1
   ·rename_i h0
    by_cases hk : k = n
    ·rw [hk]; exact h0
    ·exact ih (by omega) k h1 (by omega)
   ·omega
 have hl := Qjv l l.length
 by_cases h1 : k < cutR l l.length
 ·rw [QeA, List.getD_eq_getElem?_getD, List.getElem?_take_of_lt h1, ← List.getD_eq_getElem?_getD]
 ·rw [Qkt (by rw [Qe9]; omega)]
  by_cases h2 : k < l.length
  ·exact (hc l.length (Nat.le_refl _) k (by omega) h2).symm
  ·exact (Qkt (by omega)).symm
def Trm (l : List Rat) : Prop := ∀ n, l.length = n + 1 → l.getD n 0 ≠ 0
theorem QqL (l : List Rat) : Trm (QeA l) := by
 have hc : ∀ n, ∀ m, cutR l n = m + 1 → l.getD m 0 ≠ 0 := by
  intro n
  induction n with
  | zero => intro m h; simp [cutR] at h
  | succ n ih =>
   intro m h
   rw [cutR] at h
   split at h
   ·exact ih m h
   ·rename_i h0
    have : m = n := by omega
    rw [this]; exact h0
 intro n h
 rw [Qo0]
 exact hc _ n (by rw [← Qe9]; exact h)
theorem Qq7 (a x : Rat) : ∀ l : List Rat, evR (l ++ [a]) x = evR l x + a * x ^ l.length
 | [] => by
  show evR [] x * x + a = evR [] x + a * x ^ 0
  rw [Rat.pow_zero]
  have : evR [] x = 0 := rfl
  rw [this]; grind
 | b :: l => by
  show evR (l ++ [a]) x * x + b = evR l x * x + b + a * x ^ (l.length + 1)
  rw [Qq7 a x l, Rat.pow_succ]
  generalize evR l x = v; generalize x ^ l.length = p; grind
theorem Qrp (x : Rat) (l : List Rat) : evR l x = sumR (fun k => l.getD k 0 * x ^ k) l.length := by
 have h : ∀ n, n ≤ l.length → evR (l.take n) x = sumR (fun k => l.getD k 0 * x ^ k) n := by
  intro n
  induction n with
  | zero => intro _; rfl
  | succ n ih =>
   intro hn
   have e : l.take (n + 1) = l.take n ++ [l.getD n 0] := by
    rw [List.take_add_one]
    simp [List.getD, (by omega : n < l.length)]
   rw [e, Qq7, ih (by omega), sumR, List.length_take, Nat.min_eq_left (by omega)]
 have := h l.length (Nat.le_refl _)
 rwa [List.take_length] at this
theorem evR_sum (x : Rat) {l : List Rat} {n : Nat} (h : l.length ≤ n) : evR l x = sumR (fun k => l.getD k 0 * x ^ k) n := by
 rw [Qrp]
 exact (sumR_ge h (fun k hk => by rw [Qkt hk, Rat.zero_mul])).symm
theorem QnF (l : List Rat) (x : Rat) : evR (QeA l) x = evR l x := by
 rw [evR_sum x (Qih l), Qrp x l]
 exact Qmv _ fun k _ => by rw [Qo0]
theorem QnN (x : Rat) : evR [] x = 0 := rfl

/-! ### Dividing by x - r -/
def syn : List Rat → Rat → List Rat
 | [], _ => []
 | [_], _ => []
 | _ :: b :: l, r => evR (b :: l) r :: syn (b :: l) r
theorem syn_len : ∀ (l : List Rat) (r : Rat), (syn l r).length = l.length - 1
 | [], _ => rfl
 | [_], _ => rfl
 | a :: b :: l, r => by rw [syn, List.length_cons, syn_len (b :: l) r]; simp
/-! ### Products -/
def conv (l m : List Rat) (k : Nat) : Rat := sumR (fun i => l.getD i 0 * m.getD (k - i) 0) (k + 1)
end Go.AM

/- Arrays of rationals; poly.at, made, Add, Scale, Derive. -/
namespace Go.AM
open Go Go.RowKit

theorem SzL.trim {K : Nat} {l : List Rat} (h : SzL K l) : SzL K (QeA l) := fun q hq => h q (List.mem_of_mem_take hq)
theorem SzL.map {K : Nat} {n : Nat} {e : Nat → Rat} (h : ∀ k, k < n → sz (e k) ≤ K) : SzL K ((List.range n).map e) := by
 intro q hq
 obtain ⟨k, hk, rfl⟩ := List.mem_map.1 hq
 exact h k (List.mem_range.1 hk)
def adP (l m : List Rat) : List Rat := QeA ((List.range (max l.length m.length)).map fun k => l.getD k 0 + m.getD k 0)
def sbP (l m : List Rat) : List Rat := QeA ((List.range (max l.length m.length)).map fun k => l.getD k 0 - m.getD k 0)
variable [Its]

end Go.AM

/- Polynomials: the values of sums, products with numbers, derivatives, shifts. -/
namespace Go.AM
open Go Go.RowKit

/-! ### The derivative -/
/-! ### Shifts -/
end Go.AM

/- poly.Mul. -/
namespace Go.AM
open Go Go.RowKit

theorem RwR.cell {d : D} {l : List Rat} (h : RwR d l) : QaT (.d d) = [.d d] := by rcases h with ⟨rfl, _⟩ | rfl <;> rfl
theorem RwR.onec {d : D} {l : List Rat} (h : RwR d l) : A.one (.d d) = true := by rcases h with ⟨rfl, _⟩ | rfl <;> rfl
section
variable (p q : List Rat) (k : Nat)
end
variable [Its]

section
variable {dp dq : D} {p q : List Rat} {k : Nat} {K : Nat}
end
end Go.AM

/- How great the coefficients are: a common denominator and a bound of the numerators. -/
namespace Go.AM
open Go Go.RowKit

def BB : Nat := 1000000000
theorem BB_pos (n : Nat) : 0 < BB ^ n := Nat.pow_pos (by decide)
theorem QfC {n m : Nat} (h : n ≤ m) : BB ^ n ≤ BB ^ m := Nat.pow_le_pow_right (by decide) h
def cN (n : Nat) : Rat := ((n : Int) : Rat)
theorem cN_mul (n m : Nat) : cN (n * m) = cN n * cN m := by unfold cN; rw [Int.natCast_mul, Rat.intCast_mul]
theorem cN_ne {n : Nat} (h : 0 < n) : cN n ≠ 0 := by
 unfold cN
 intro h0
 have h1 : ((n : Int) : Rat) = ((0 : Int) : Rat) := h0
 rw [Rat.intCast_inj] at h1
 omega
def Hq (D X : Nat) (q : Rat) : Prop := ∃ m : Int, q * cN D = (m : Rat) ∧ m.natAbs ≤ X
theorem Hq.zero (D X : Nat) : Hq D X 0 := ⟨0, by rw [Rat.zero_mul]; rfl, by simp⟩
theorem Hq.le {D X Y : Nat} {q : Rat} (h : Hq D X q) (hX : X ≤ Y) : Hq D Y q := by
 obtain ⟨m, h1, h2⟩ := h
 exact ⟨m, h1, by omega⟩
theorem Hq.add {D X Y : Nat} {q p : Rat} (h : Hq D X q) (h' : Hq D Y p) : Hq D (X + Y) (q + p) := by
 obtain ⟨m, h1, h2⟩ := h
 obtain ⟨n, h3, h4⟩ := h'
 exact ⟨m + n, by rw [Rat.add_mul, h1, h3, Rat.intCast_add], by omega⟩
theorem Hq.neg {D X : Nat} {q : Rat} (h : Hq D X q) : Hq D X (-q) := by
 obtain ⟨m, h1, h2⟩ := h
 exact ⟨-m, by rw [Rat.neg_mul, h1, Rat.intCast_neg], by omega⟩
theorem Hq.sub {D X Y : Nat} {q p : Rat} (h : Hq D X q) (h' : Hq D Y p) : Hq D (X + Y) (q - p) := by
 rw [Rat.sub_eq_add_neg]; exact h.add h'.neg
theorem Hq.mul {D E X Y : Nat} {q p : Rat} (h : Hq D X q) (h' : Hq E Y p) : Hq (D * E) (X * Y) (q * p) := by
 obtain ⟨m, h1, h2⟩ := h
 obtain ⟨n, h3, h4⟩ := h'
 refine ⟨m * n, ?_, by rw [Int.natAbs_mul]; exact Nat.mul_le_mul h2 h4⟩
 rw [cN_mul, Rat.intCast_mul, ← h1, ← h3]
 generalize cN D = u; generalize cN E = v; grind
theorem Hq.lift {D X : Nat} {q : Rat} (h : Hq D X q) (E : Nat) : Hq (D * E) (X * E) q := by
 obtain ⟨m, h1, h2⟩ := h
 refine ⟨m * E, ?_, by rw [Int.natAbs_mul]; exact Nat.mul_le_mul h2 (by omega)⟩
 rw [cN_mul, Rat.intCast_mul, ← h1, Rat.mul_assoc]; rfl
theorem Hq.lift' {D X : Nat} {q : Rat} (h : Hq D X q) (E : Nat) : Hq (E * D) (E * X) q := by
 rw [Nat.mul_comm E, Nat.mul_comm E]; exact h.lift E
theorem Hq.int (n : Int) : Hq 1 n.natAbs (n : Rat) := ⟨n, Rat.mul_one _, Nat.le_refl _⟩
theorem Hq.sz {D X d h : Nat} {q : Rat} (hD : 0 < D) (hDd : D ≤ BB ^ d) (hX : X ≤ BB ^ h) (H : Hq D X q) : sz q ≤ max d h + 1 := by
 obtain ⟨m, h1, h2⟩ := H
 have e : q = Rat.divInt m (D : Int) := by
  rw [Rat.divInt_eq_div, Rat.div_def, ← h1, Rat.mul_assoc]
  show q = q * (cN D * (cN D)⁻¹)
  rw [Rat.mul_inv_cancel _ (cN_ne hD), Rat.mul_one]
 rw [e]
 have hb : ∀ n, BB ^ n < 1000000000 ^ (n + 1) := fun n => by
  rw [Nat.pow_succ]
  have := BB_pos n
  show BB ^ n < BB ^ n * 1000000000
  omega
 refine QeF (by omega) (Nat.le_trans (QoY (k := h + 1) ?_) (by omega)) (Nat.le_trans (QoY (k := d + 1) ?_) (by omega))
 ·exact Nat.lt_of_le_of_lt (Nat.le_trans h2 hX) (hb h)
 ·exact Nat.lt_of_le_of_lt (by rw [Int.natAbs_natCast]; exact hDd) (hb d)

def HL (d h : Nat) (l : List Rat) : Prop := ∃ D : Nat, 0 < D ∧ D ≤ BB ^ d ∧ ∀ q ∈ l, Hq D (BB ^ h) q
def H1 (d h : Nat) (q : Rat) : Prop := ∃ D : Nat, 0 < D ∧ D ≤ BB ^ d ∧ Hq D (BB ^ h) q
theorem HL.sz {d h : Nat} {l : List Rat} (H : HL d h l) : SzL (max d h + 1) l := by
 obtain ⟨D, h1, h2, h3⟩ := H
 exact fun q hq => (h3 q hq).sz h1 h2 (Nat.le_refl _)
theorem H1.sz {d h : Nat} {q : Rat} (H : H1 d h q) : sz q ≤ max d h + 1 := by
 obtain ⟨D, h1, h2, h3⟩ := H
 exact h3.sz h1 h2 (Nat.le_refl _)
theorem HL.mono {d h d' h' : Nat} {l : List Rat} (H : HL d h l) (hd : d ≤ d') (hh : h ≤ h') : HL d' h' l := by
 obtain ⟨D, h1, h2, h3⟩ := H
 exact ⟨D, h1, Nat.le_trans h2 (QfC hd), fun q hq => (h3 q hq).le (QfC hh)⟩
theorem HL.nil (d h : Nat) : HL d h [] := ⟨1, by omega, BB_pos d, fun q hq => by simp at hq⟩
theorem HL.trim {d h : Nat} {l : List Rat} (H : HL d h l) : HL d h (QeA l) := by
 obtain ⟨D, h1, h2, h3⟩ := H
 exact ⟨D, h1, h2, fun q hq => h3 q (List.mem_of_mem_take hq)⟩
theorem HL.one {d h : Nat} {q : Rat} (H : H1 d h q) : HL d h [q] := by
 obtain ⟨D, h1, h2, h3⟩ := H
 exact ⟨D, h1, h2, fun p hp => by rw [List.mem_singleton.1 hp]; exact h3⟩
theorem Hq.getD {D X : Nat} {l : List Rat} (H : ∀ q ∈ l, Hq D X q) (k : Nat) : Hq D X (l.getD k 0) := by
 by_cases hk : k < l.length
 ·have : l.getD k 0 = l[k] := by rw [List.getD_eq_getElem?_getD, List.getElem?_eq_getElem hk]; rfl
  rw [this]; exact H _ (List.getElem_mem hk)
 ·rw [Qkt (by omega)]; exact Hq.zero D X
theorem HL.getD {d h : Nat} {l : List Rat} (H : HL d h l) (k : Nat) : H1 d h (l.getD k 0) := by
 obtain ⟨D, h1, h2, h3⟩ := H
 exact ⟨D, h1, h2, Hq.getD h3 k⟩
theorem HL.made {D X n : Nat} {e : Nat → Rat} {d h : Nat} (hD : 0 < D) (hd : D ≤ BB ^ d) (hX : X ≤ BB ^ h) (H : ∀ k, k < n → Hq D X (e k)) : HL d h (QeA ((List.range n).map e)) :=
 HL.trim ⟨D, hD, hd, fun q hq => by
  obtain ⟨k, hk, rfl⟩ := List.mem_map.1 hq
  exact (H k (List.mem_range.1 hk)).le hX⟩
theorem two_BB {a b n : Nat} (h1 : a ≤ BB ^ n) (h2 : b ≤ BB ^ n) : a + b ≤ BB ^ (n + 1) := by
 rw [Nat.pow_succ]
 have : BB ^ n * 2 ≤ BB ^ n * BB := Nat.mul_le_mul_left _ (by decide)
 omega
theorem Qgk {a b n m : Nat} (h1 : a ≤ BB ^ n) (h2 : b ≤ BB ^ m) : a * b ≤ BB ^ (n + m) := by
 rw [Nat.pow_add]; exact Nat.mul_le_mul h1 h2
theorem HL.ad {d1 h1 d2 h2 : Nat} {l m : List Rat} (H : HL d1 h1 l) (H' : HL d2 h2 m) : HL (d1 + d2) (max (h1 + d2) (h2 + d1) + 1) (adP l m) := by
 obtain ⟨D, a1, a2, a3⟩ := H
 obtain ⟨E, b1, b2, b3⟩ := H'
 refine HL.made (D := D * E) (X := BB ^ h1 * E + D * BB ^ h2) (Nat.mul_pos a1 b1) (Qgk a2 b2) (two_BB ?_ ?_) (fun k _ => ((Hq.getD a3 k).lift E).add ((Hq.getD b3 k).lift' D))
 ·exact Nat.le_trans (Qgk (Nat.le_refl _) b2) (QfC (by omega))
 ·exact Nat.le_trans (Qgk a2 (Nat.le_refl _)) (QfC (by omega))
theorem HL.sb {d1 h1 d2 h2 : Nat} {l m : List Rat} (H : HL d1 h1 l) (H' : HL d2 h2 m) : HL (d1 + d2) (max (h1 + d2) (h2 + d1) + 1) (sbP l m) := by
 obtain ⟨D, a1, a2, a3⟩ := H
 obtain ⟨E, b1, b2, b3⟩ := H'
 refine HL.made (D := D * E) (X := BB ^ h1 * E + D * BB ^ h2) (Nat.mul_pos a1 b1) (Qgk a2 b2) (two_BB ?_ ?_) (fun k _ => ((Hq.getD a3 k).lift E).sub ((Hq.getD b3 k).lift' D))
 ·exact Nat.le_trans (Qgk (Nat.le_refl _) b2) (QfC (by omega))
 ·exact Nat.le_trans (Qgk a2 (Nat.le_refl _)) (QfC (by omega))
theorem Hq.ev {D X E Y : Nat} {x : Rat} (hx : Hq E Y x) (hE : 0 < E) : ∀ {l : List Rat}, (∀ q ∈ l, Hq D X q) → Hq (D * E ^ l.length) (X * (E + Y) ^ l.length) (evR l x)
 | [], _ => by rw [QnN]; exact Hq.zero _ _
 | a :: l, h => by
  have ih := Hq.ev hx hE (l := l) (fun q hq => h q (List.mem_cons_of_mem _ hq))
  have h1 := (h a (List.mem_cons_self ..)).lift (E ^ (l.length + 1))
  have h2 := ih.mul hx
  rw [Qnz, List.length_cons]
  have e : D * E ^ l.length * E = D * E ^ (l.length + 1) := by rw [Nat.pow_succ, Nat.mul_assoc]
  rw [e] at h2
  refine (h2.add h1).le ?_
  have e1 : X * (E + Y) ^ (l.length + 1) = X * (E + Y) ^ l.length * Y + X * (E + Y) ^ l.length * E := by
   rw [Nat.pow_succ, ← Nat.mul_assoc, Nat.mul_add, Nat.add_comm]
  rw [e1]
  have e2 : X * E ^ (l.length + 1) ≤ X * (E + Y) ^ l.length * E := by
   rw [Nat.pow_succ, ← Nat.mul_assoc]
   exact Nat.mul_le_mul_right _ (Nat.mul_le_mul_left _ (Nat.pow_le_pow_left (by omega) _))
  omega
end Go.AM

/- poly.Shift. -/
namespace Go.AM
open Go Go.RowKit

def hst (l : List Rat) (a : Rat) (j : Nat) : List Rat := l.take j ++ (evR (l.drop j) a :: syn (l.drop j) a)
theorem hst_len {l : List Rat} {a : Rat} {j : Nat} (h : j < l.length) : (hst l a j).length = l.length := by
 rw [hst, List.length_append, List.length_cons, syn_len, List.length_take, List.length_drop]; omega
def pas (l : List Rat) (a : Rat) : Nat → List Rat
 | 0 => l
 | i + 1 => hst (pas l a i) a i
theorem QpN {l : List Rat} {a : Rat} : ∀ i, i ≤ l.length → (pas l a i).length = l.length
 | 0, _ => rfl
 | i + 1, h => by
  have ih := QpN (l := l) (a := a) i (by omega)
  rw [pas, hst_len (by omega), ih]
variable [Its]

end Go.AM

/- poly.Div. -/
namespace Go.AM
open Go Go.RowKit

variable [Its]

section
variable {dq : D} {q : List Rat} {n m : Nat} {K : Nat}
end
end Go.AM

/- poly.monic, Gcd, Free; closed inputs. -/
namespace Go.AM
open Go Go.RowKit

/-! ### QaW inputs: all of them of one digit -/
variable [Its]

theorem QsG : Qaj G QcI [iv 1, iv 1] = some (.d (encR 1)) := by
 have g := Qb9 (n := 1) (d := 1) ⟨by omega, by omega⟩ ⟨by omega, by omega⟩
 have e : Rat.divInt 1 1 = 1 := QcR 1
 rw [e] at g; exact g
end Go.AM

/- ref04.Same at equal numbers. -/
namespace Go.AM
open Go Go.RowKit

def bx2 (b : Bool) (l : List Int) : Obj := ⟨0, 0, [.d (.v (.bool b)), .d (dg l)], false⟩
theorem bself (b : Bool) : (b == b) = true := by cases b <;> rfl
variable [Its]

def Qpt (b : Bool) (l : List Int) (i : Int) : St := mkS [(2, .ptr [2] 0), (3, .ptr [3] 0), (5, ai i)] [([2], bx2 b l), ([3], bx2 b l)]
theorem s4_go {b : Bool} {l : List Int} (hl : l.length ≤ 1000000000000) {i : Nat} (hi : i < l.length) : X G QbX (Qpt b l i) = some (.n, Qpt b l ((i + 1 : Nat) : Int)) := by
 have e1 : decide ((i : Int) < (l.length : Int)) = true := lt_t (by omega)
 have e2 : w64 ((i : Int) + 1) = ((i + 1 : Nat) : Int) := by rw [Qac (by omega) (by omega)]; rfl
 have x1 := (Rw.dg l).ixn hi
 have x2 := fun h => ldv h l hi
 have e3 : (l.getD i 0 != l.getD i 0) = false := bne_self_eq_false _
 simp -implicitDefEqProofs (maxSteps := 10000000) only [QbX, Qpt, bx2, x1, x2, e1, e2, e3, go_sem, Qaf, Qab, iv, bv, reduceCtorEq, ↓reduceIte, Nat.reduceEqDiff]
theorem s4_stop {b : Bool} {l : List Int} : X G QbX (Qpt b l (l.length : Nat)) = some (.x 0, mkS [] []) := by
 have e1 : decide ((l.length : Int) < (l.length : Int)) = false := lt_f (by omega)
 simp -implicitDefEqProofs (maxSteps := 10000000) only [QbX, Qpt, bx2, e1, go_sem, Qaf, Qab, iv, bv, reduceCtorEq, ↓reduceIte, Nat.reduceEqDiff]
theorem s4_loop {b : Bool} {l : List Int} (hl : l.length ≤ 1000000000000) : ∀ j i : Nat, i + j = l.length → X G (.loop QbX) (Qpt b l i) = some (.x 0, mkS [] [])
 | 0, i, h => by
  have : i = l.length := by omega
  subst this
  rw [Qah, s4_stop]; rfl
 | j + 1, i, h => by
  rw [Qah, s4_go hl (by omega), Option.bind_some, if_pos rfl]
  exact s4_loop hl j (i + 1) (by omega)
theorem s4_refl {b : Bool} {l : List Int} (hl : l.length ≤ 1000000000000) : Qaj G Qee [.agg [.v (.bool b), dg l], .agg [.v (.bool b), dg l]] = some (.d (bv true)) := by
 rw [Qae (cf := gantryref04_Same) rfl]
 have h := s4_loop (b := b) hl l.length 0 (by omega)
 have e1 : ((l.length : Int) != (l.length : Int)) = false := bne_self_eq_false _
 have e2 := bself b
 simp only [Qpt, bx2, go_sem, nc0] at h
 simp -implicitDefEqProofs (maxSteps := 10000000) only [gantryref04_Same, h, e1, e2, go_sem, Qaf, Qab, iv, bv, reduceCtorEq, ↓reduceIte, Nat.reduceEqDiff]
end Go.AM

/- Equality: ref04, ref05, ref06.Same, rat.Same at equal numbers. -/
namespace Go.AM
open Go Go.RowKit

variable [Its]
theorem s5_refl {a : Rat} (ha : sz a ≤ 100000000000) : Qaj G Qcv [encR a, encR a] = some (.d (bv true)) := by
 rw [Qae (cf := gantryref05_Same) rfl]
 have h1 : (digs a.num.natAbs).length ≤ 1000000000000 := by have := QcW ha; unfold nd at this; omega
 have h2 : (dd a.den).length ≤ 1000000000000 := by
  have := Qc8 ha
  unfold nd at this
  rw [Int.natAbs_natCast] at this
  unfold dd
  split
  ·simp
  ·omega
 have g1 := s4_refl (b := decide (a.num < 0)) h1
 have g2 := s4_refl (b := false) h2
 clear h1 h2 ha
 unfold encR
 generalize digs a.num.natAbs = l1 at *
 generalize dd a.den = l2 at *
 generalize decide (a.num < 0) = b at *
 simp only [bv] at g1 g2
 simp -implicitDefEqProofs (maxSteps := 10000000) only [gantryref05_Same, g1, g2, go_sem, Qaf, Qab, iv, bv, reduceCtorEq, ↓reduceIte, Nat.reduceEqDiff]
def QpU (d d' : D) (i : Int) : St := mkS [(0, .d d), (1, .d d'), (5, ai i)] []
theorem s6_go {d d' : D} {l : List Rat} (h1 : RwR d l) (h2 : RwR d' l) (sl : SzL 100000000000 l) (hl : l.length ≤ 1000000000000) {i : Nat} (hi : i < l.length) : X G QbZ (QpU d d' i) = some (.n, QpU d d' ((i + 1 : Nat) : Int)) := by
 have e1 : decide ((i : Int) < (l.length : Int)) = true := lt_t (by omega)
 have e2 : w64 ((i : Int) + 1) = ((i + 1 : Nat) : Int) := by rw [Qac (by omega) (by omega)]; rfl
 have ll := h1.len
 have x1 := h1.ixa hi
 have x2 := h2.ixa hi
 have y1 := fun h => ldR h l hi
 have g := s5_refl (a := l.getD i 0) (sl.getD (by omega) i)
 generalize l.getD i 0 = q at *
 generalize cRs (l.drop i) = cs at *
 simp only [encR, bv] at y1 g
 simp -implicitDefEqProofs (maxSteps := 10000000) only [QbZ, QpU, ll, x1, x2, y1, e1, e2, g, go_sem, iv, bv, reduceCtorEq, ↓reduceIte, Nat.reduceEqDiff]
theorem s6_stop {d d' : D} {l : List Rat} (h1 : RwR d l) : X G QbZ (QpU d d' (l.length : Nat)) = some (.x 0, mkS [] []) := by
 have e1 : decide ((l.length : Int) < (l.length : Int)) = false := lt_f (by omega)
 have ll := h1.len
 simp -implicitDefEqProofs (maxSteps := 10000000) only [QbZ, QpU, ll, e1, go_sem, iv, bv, reduceCtorEq, ↓reduceIte, Nat.reduceEqDiff]
theorem s6_loop {d d' : D} {l : List Rat} (h1 : RwR d l) (h2 : RwR d' l) (sl : SzL 100000000000 l) (hl : l.length ≤ 1000000000000) : ∀ j i : Nat, i + j = l.length → X G (.loop QbZ) (QpU d d' i) = some (.x 0, mkS [] [])
 | 0, i, h => by
  have : i = l.length := by omega
  subst this
  rw [Qah, s6_stop h1]; rfl
 | j + 1, i, h => by
  rw [Qah, s6_go h1 h2 sl hl (by omega), Option.bind_some, if_pos rfl]
  exact s6_loop h1 h2 sl hl j (i + 1) (by omega)
theorem s6_refl {d d' : D} {l : List Rat} (h1 : RwR d l) (h2 : RwR d' l) (sl : SzL 100000000000 l) (hl : l.length ≤ 1000000000000) : Qaj G Qd2 [d, d'] = some (.d (bv true)) := by
 rw [Qae (cf := gantryref06_Same) rfl]
 have h := s6_loop h1 h2 sl hl l.length 0 (by omega)
 have e1 : ((l.length : Int) != (l.length : Int)) = false := bne_self_eq_false _
 have ll := h1.len
 have ll2 := h2.len
 simp only [QpU, go_sem, nc0] at h
 simp -implicitDefEqProofs (maxSteps := 10000000) only [gantryref06_Same, h, ll, ll2, e1, go_sem, iv, bv, reduceCtorEq, ↓reduceIte, Nat.reduceEqDiff]
theorem s6_same {d d' : D} {l m : List Rat} (h1 : RwR d l) (h2 : RwR d' m) (h : l = m) (sl : SzL 100000000000 l) (hl : l.length ≤ 1000000000000) : Qaj G Qd2 [d, d'] = some (.d (bv true)) := by
 subst h; exact s6_refl h1 h2 sl hl

/-! ### rat.Same -/
def Qln (d d' : D) (n i : Int) : St := mkS [(0, .d d), (1, .d d'), (12, ai n), (13, ai i)] []
theorem eqi_go {l : List Int} (hl : l.length ≤ 1000000000000) {i : Nat} (hi : i < l.length) : X G Qbi (Qln (dg l) (dg l) (l.length : Nat) i) = some (.n, Qln (dg l) (dg l) (l.length : Nat) ((i + 1 : Nat) : Int)) := by
 have e1 : decide ((i : Int) < (l.length : Int)) = true := lt_t (by omega)
 have e2 : w64 ((i : Int) + 1) = ((i + 1 : Nat) : Int) := by rw [Qac (by omega) (by omega)]; rfl
 have x1 := (Rw.dg l).ixn hi
 have x2 := fun h => ldv h l hi
 have e3 : (l.getD i 0 != l.getD i 0) = false := bne_self_eq_false _
 simp -implicitDefEqProofs (maxSteps := 10000000) only [Qbi, Qln, x1, x2, e1, e2, e3, go_sem, iv, bv, reduceCtorEq, ↓reduceIte, Nat.reduceEqDiff]
theorem eqi_stop {l : List Int} : X G Qbi (Qln (dg l) (dg l) (l.length : Nat) (l.length : Nat)) = some (.x 0, mkS [] []) := by
 have e1 : decide ((l.length : Int) < (l.length : Int)) = false := lt_f (by omega)
 simp -implicitDefEqProofs (maxSteps := 10000000) only [Qbi, Qln, e1, go_sem, iv, bv, reduceCtorEq, ↓reduceIte, Nat.reduceEqDiff]
theorem QqW {l : List Int} (hl : l.length ≤ 1000000000000) : ∀ j i : Nat, i + j = l.length → X G (.loop Qbi) (Qln (dg l) (dg l) (l.length : Nat) i) = some (.x 0, mkS [] [])
 | 0, i, h => by
  have : i = l.length := by omega
  subst this
  rw [Qah, eqi_stop]; rfl
 | j + 1, i, h => by
  rw [Qah, eqi_go hl (by omega), Option.bind_some, if_pos rfl]
  exact QqW hl j (i + 1) (by omega)
theorem eqi_refl {l : List Int} (hl : l.length ≤ 1000000000000) : Qaj G Qeh [dg l, dg l] = some (.d (bv true)) := by
 rw [Qae (cf := slices_Equal_int_int) rfl]
 have h := QqW hl l.length 0 (by omega)
 have e1 : ((l.length : Int) != (l.length : Int)) = false := bne_self_eq_false _
 simp only [Qln, go_sem, nc0] at h
 simp -implicitDefEqProofs (maxSteps := 10000000) only [slices_Equal_int_int, h, e1, go_sem, iv, bv, reduceCtorEq, ↓reduceIte, Nat.reduceEqDiff]
theorem Qre {b : Bool} {l : List Int} (hl : l.length ≤ 1000000000000) : Qaj G QjS [.agg [.v (.bool b), dg l], .agg [.v (.bool b), dg l]] = some (.d (bv true)) := by
 rw [Qae (cf := rat_Same_1) rfl]
 have g := eqi_refl hl
 have e2 := bself b
 simp only [bv] at g
 simp -implicitDefEqProofs (maxSteps := 10000000) only [rat_Same_1, g, e2, go_sem, Qaf, Qab, iv, bv, reduceCtorEq, ↓reduceIte, Nat.reduceEqDiff]
theorem Qp8 {a : Rat} (ha : sz a ≤ 100000000000) : Qaj G Qhe [encR a, encR a] = some (.d (bv true)) := by
 rw [Qae (cf := rat_Same) rfl]
 have h1 : (digs a.num.natAbs).length ≤ 1000000000000 := by have := QcW ha; unfold nd at this; omega
 have h2 : (dd a.den).length ≤ 1000000000000 := by
  have := Qc8 ha
  unfold nd at this
  rw [Int.natAbs_natCast] at this
  unfold dd
  split
  ·simp
  ·omega
 have g1 := Qre (b := decide (a.num < 0)) h1
 have g2 := Qre (b := false) h2
 clear h1 h2 ha
 unfold encR
 generalize digs a.num.natAbs = l1 at *
 generalize dd a.den = l2 at *
 generalize decide (a.num < 0) = b at *
 simp only [bv] at g1 g2
 simp -implicitDefEqProofs (maxSteps := 10000000) only [rat_Same, g1, g2, List.append_nil, go_sem, Qaf, Qab, iv, bv, reduceCtorEq, ↓reduceIte, Nat.reduceEqDiff]
end Go.AM

/- ref06: Trim, Small, Mul. -/
namespace Go.AM
open Go Go.RowKit

variable [Its]

/-! ### Trim -/
def Qfr (d : D) (n : Int) : St := mkS [(0, .d d), (3, ai n)] []
theorem rtr_go {d : D} {l : List Rat} (hr : RwR d l) {n : Nat} (hn : n < l.length) (hl : l.length * 64 ≤ 140737488351232) (sl : SzL 100000000000 l) (h0 : l.getD n 0 = 0) : X G Qa2 (Qfr d ((n + 1 : Nat) : Int)) = some (.n, Qfr d (n : Int)) := by
 have e1 : decide (((n + 1 : Nat) : Int) > 0) = true := gt_t (by omega)
 have e2 : w64 (((n + 1 : Nat) : Int) - 1) = (n : Int) := by rw [Qac (by omega) (by omega)]; omega
 have e6 : (if (0 : Int) > (n : Int) then (0 : Int) else (n : Int)) = (n : Int) := if_neg (by omega)
 have e3 := hr.ixa hn
 have e4 := fun h => ldR h l hn
 have g := Qin (a := l.getD n 0) (sl.getD (by omega) n)
 have e5 : (Int.sign (l.getD n 0).num == 0) = true := by rw [sgn0]; exact decide_eq_true h0
 clear h0
 generalize ((n + 1 : Nat) : Int) = n1 at *
 generalize l.getD n 0 = q at *
 simp only [encR, iv] at e4 g
 simp -implicitDefEqProofs (maxSteps := 10000000) only [Qa2, Qfr, QiZ, mxV, e6, go_sem, iv, bv, e1, e2, e3, e4, e5, g, reduceCtorEq, ↓reduceIte, Nat.reduceEqDiff]
theorem rtr_stop {d : D} {l : List Rat} (hr : RwR d l) {n : Nat} (hn : n < l.length) (hl : l.length * 64 ≤ 140737488351232) (sl : SzL 100000000000 l) (h0 : l.getD n 0 ≠ 0) : X G Qa2 (Qfr d ((n + 1 : Nat) : Int)) = some (.x 0, Qfr d ((n + 1 : Nat) : Int)) := by
 have e1 : decide (((n + 1 : Nat) : Int) > 0) = true := gt_t (by omega)
 have e2 : w64 (((n + 1 : Nat) : Int) - 1) = (n : Int) := by rw [Qac (by omega) (by omega)]; omega
 have e6 : (if (0 : Int) > (n : Int) then (0 : Int) else (n : Int)) = (n : Int) := if_neg (by omega)
 have e3 := hr.ixa hn
 have e4 := fun h => ldR h l hn
 have g := Qin (a := l.getD n 0) (sl.getD (by omega) n)
 have e5 : (Int.sign (l.getD n 0).num == 0) = false := by rw [sgn0]; exact decide_eq_false h0
 clear h0
 generalize ((n + 1 : Nat) : Int) = n1 at *
 generalize l.getD n 0 = q at *
 simp only [encR, iv] at e4 g
 simp -implicitDefEqProofs (maxSteps := 10000000) only [Qa2, Qfr, QiZ, mxV, e6, go_sem, iv, bv, e1, e2, e3, e4, e5, g, reduceCtorEq, ↓reduceIte, Nat.reduceEqDiff]
theorem rtr_zero {d : D} : X G Qa2 (Qfr d 0) = some (.x 0, Qfr d 0) := by
 have e1 : decide ((0 : Int) > 0) = false := rfl
 simp -implicitDefEqProofs (maxSteps := 10000000) only [Qa2, Qfr, go_sem, iv, bv, e1, reduceCtorEq, ↓reduceIte, Nat.reduceEqDiff]
theorem Qru {d : D} {l : List Rat} (hr : RwR d l) (hl : l.length * 64 ≤ 140737488351232) (sl : SzL 100000000000 l) : ∀ n : Nat, n ≤ l.length → X G (.loop Qa2) (Qfr d (n : Int)) = some (.x 0, Qfr d (cutR l n : Nat))
 | 0, _ => by
  rw [Qah]
  show (X G Qa2 (Qfr d 0)).bind _ = _
  rw [rtr_zero]; rfl
 | n + 1, hn => by
  rw [Qah, cutR]
  by_cases h0 : l.getD n 0 = 0
  ·rw [rtr_go hr (by omega) hl sl h0, Option.bind_some, if_pos rfl, if_pos h0]
   exact Qru hr hl sl n (by omega)
  ·rw [rtr_stop hr (by omega) hl sl h0, if_neg h0]; rfl
theorem QsH {d : D} {l : List Rat} (hr : RwR d l) (hl : l.length * 64 ≤ 140737488351232) (sl : SzL 100000000000 l) : ∃ d', RwR d' (QeA l) ∧ Qaj G Qfm [d] = some (.d d') := by
 rw [Qae (cf := gantryref06_Trim) rfl]
 have hl' := Qru hr hl sl l.length (Nat.le_refl _)
 have hc := Qjv l l.length
 have ll := hr.len
 rcases hr with ⟨rfl, rfl⟩ | rfl
 ·simp only [Qfr, List.length_nil, cutR, go_sem] at hl'
  refine ⟨.z true, .inl ⟨rfl, rfl⟩, ?_⟩
  have b0 : (0 * 64 ≤ bound) = True := eq_true (by decide)
  simp -implicitDefEqProofs (maxSteps := 10000000) only [gantryref06_Trim, slcA, bnds, optI, srcS, src, b0, List.length_nil, Nat.zero_mul, Nat.zero_le, go_sem, iv, bv, hl', ll, Int.le_refl, reduceCtorEq, ↓reduceIte, Nat.reduceEqDiff]
 ·refine ⟨dR (QeA l), dR_ok _, ?_⟩
  have e1 : rowR (QeA l) = .row (cutR l l.length) ((cRs l).take (cutR l l.length * 4)) := by rw [rowR, Qe9, QeA, Qkv]
  have e0 : dR (QeA l) = if cutR l l.length = 0 then .z true else .row (cutR l l.length) ((cRs l).take (cutR l l.length * 4)) := by
   rw [dR, e1]
   have := Qe9 l
   by_cases h : QeA l = []
   ·rw [if_pos h, if_pos (by rw [← this, h]; rfl)]
   ·rw [if_neg h, if_neg (fun h' => h (List.eq_nil_of_length_eq_zero (by omega)))]
  rw [e0]
  have e2 : (((0 : Int) ≤ 0 ∧ (0 : Int) ≤ (cutR l l.length : Nat) ∧ ((cutR l l.length : Nat) : Int) ≤ (l.length : Nat))) = True := eq_true ⟨by omega, by omega, by omega⟩
  have e3 : ((cutR l l.length : Nat) : Int).toNat = cutR l l.length := Int.toNat_natCast _
  have e5 : ((0 : Int) ≤ (cutR l l.length : Nat)) = True := eq_true (by omega)
  have e6 : (((cutR l l.length : Nat) : Int) ≤ (l.length : Nat)) = True := eq_true (by omega)
  have e7 : (cutR l l.length * 64 ≤ bound) = True := eq_true (by unfold bound; omega)
  have e8 : ((cRs l).take (cutR l l.length * 4)).length = cutR l l.length * 4 := by rw [List.length_take, QfT]; omega
  clear e0 e1
  unfold rowR at *
  generalize cutR l l.length = c at *
  generalize cRs l = cs at *
  simp only [Qfr, go_sem] at hl'
  by_cases h0 : c = 0
  ·subst h0
   simp only [Nat.zero_mul, List.take_zero] at e8 ⊢
   have b0 : (0 * 64 ≤ bound) = True := eq_true (by decide)
   have b1 : ((0 : Int) ≤ (l.length : Int)) = True := eq_true (by omega)
   simp -implicitDefEqProofs (maxSteps := 10000000) only [gantryref06_Trim, b1, slcA, bnds, optI, srcS, src, b0, List.length_nil, List.take_zero, Nat.zero_mul, Nat.zero_le, go_sem, iv, bv, hl', ll, e2, e3, e5, e6, Int.le_refl, and_self, reduceCtorEq, ↓reduceIte, Nat.reduceEqDiff]
  ·simp -implicitDefEqProofs (maxSteps := 10000000) only [gantryref06_Trim, slcA, bnds, optI, srcS, src, h0, e7, e8, go_sem, iv, bv, hl', ll, e2, e3, e5, e6, Int.le_refl, and_self, reduceCtorEq, ↓reduceIte, Nat.reduceEqDiff]

/-! ### Mul -/
section
variable {dp dq : D} {p q : List Rat} {n : Nat}
variable {D E XX YY d h K : Nat}
end
end Go.AM

/- ref06.Poly. -/
namespace Go.AM
open Go Go.RowKit

theorem H1.neg {d h : Nat} {q : Rat} (H : H1 d h q) : H1 d h (-q) := by
 obtain ⟨D, h1, h2, h3⟩ := H
 exact ⟨D, h1, h2, h3.neg⟩
theorem H1.one : H1 0 0 1 := ⟨1, by omega, by simp [BB], ⟨1, Rat.mul_one _, by simp⟩⟩
theorem HL.cons {d1 h1 d2 h2 : Nat} {a : Rat} {l : List Rat} (H : H1 d1 h1 a) (H' : HL d2 h2 l) : HL (d1 + d2) (max (h1 + d2) (h2 + d1)) (a :: l) := by
 obtain ⟨D, a1, a2, a3⟩ := H
 obtain ⟨E, b1, b2, b3⟩ := H'
 refine ⟨D * E, Nat.mul_pos a1 b1, Qgk a2 b2, fun q hq => ?_⟩
 rcases List.mem_cons.1 hq with rfl | hq
 ·exact (a3.lift E).le (Nat.le_trans (Qgk (Nat.le_refl _) b2) (QfC (by omega)))
 ·exact ((b3 q hq).lift' D).le (Nat.le_trans (Qgk a2 (Nat.le_refl _)) (QfC (by omega)))
variable [Its]

section
variable {e0 : D} {l : List Int}
end
end Go.AM

/- How great the coefficients of a shift are. -/
namespace Go.AM
open Go Go.RowKit

theorem evR_dropL (l : List Rat) (x : Rat) {k : Nat} (h : k < l.length) : evR (l.drop k) x = evR (l.drop (k + 1)) x * x + l.getD k 0 := by
 have e : l.drop k = l.getD k 0 :: l.drop (k + 1) := by
  rw [List.drop_eq_getElem_cons h, List.getD_eq_getElem?_getD, List.getElem?_eq_getElem h]; rfl
 rw [e, Qnz]
theorem Qri (a : Rat) : ∀ (s : List Rat) (i : Nat), s ≠ [] → (evR s a :: syn s a).getD i 0 = evR (s.drop i) a
 | [], _, h => absurd rfl h
 | [x], 0, _ => rfl
 | [x], i + 1, _ => by
  rw [syn]
  show (0 : Rat) = evR ([].drop i) a
  rw [List.drop_nil, QnN]
 | x :: b :: l, 0, _ => rfl
 | x :: b :: l, i + 1, _ => by
  rw [syn]
  show (evR (b :: l) a :: syn (b :: l) a).getD i 0 = evR ((b :: l).drop i) a
  exact Qri a (b :: l) i (by simp)
theorem hst_getD {l : List Rat} {a : Rat} {j : Nat} (hj : j < l.length) (t : Nat) : (hst l a j).getD t 0 = if t < j then l.getD t 0 else evR (l.drop t) a := by
  have hT : (l.take j).length = j := by rw [List.length_take]; omega
  unfold hst
  by_cases h : t < j
  · rw [if_pos h, List.getD_eq_getElem?_getD, List.getElem?_append_left (by omega), List.getElem?_take_of_lt h, ← List.getD_eq_getElem?_getD]
  · rw [if_neg h, List.getD_eq_getElem?_getD, List.getElem?_append_right (by omega), ← List.getD_eq_getElem?_getD, hT, Qri      a _ _ (by
      intro h0; have := congrArg List.length h0; rw [List.length_drop] at this; simp at this; omega), List.drop_drop, show j + (t - j) = t by omega]
def WS (D v n H : Nat) (l : List Rat) : Prop := ∀ k, k ≤ n → Hq (D * v ^ (n - k)) H (l.getD k 0)
theorem WS.suffix {D v n H U : Nat} {l : List Rat} {a : Rat} (h : WS D v n H l) (ha : Hq v U a) (hl : l.length ≤ n) : ∀ j t : Nat, t + j = n → Hq (D * v ^ (n - t)) (H * (1 + U) ^ j) (evR (l.drop t) a)
 | 0, t, ht => by
  rw [List.drop_of_length_le (by omega), QnN]; exact Hq.zero _ _
 | j + 1, t, ht => by
  by_cases h1 : t < l.length
  ·have ih := WS.suffix h ha hl j (t + 1) (by omega)
   have h2 := ih.mul ha
   have h3 := h t (by omega)
   have e : D * v ^ (n - (t + 1)) * v = D * v ^ (n - t) := by
    rw [show n - t = (n - (t + 1)) + 1 by omega, Nat.pow_succ, Nat.mul_assoc]
   rw [e] at h2
   rw [evR_dropL l a h1]
   refine (h2.add h3).le ?_
   have e1 : H * (1 + U) ^ (j + 1) = H * (1 + U) ^ j * U + H * (1 + U) ^ j := by
    rw [Nat.pow_succ, ← Nat.mul_assoc, Nat.mul_add, Nat.mul_one, Nat.add_comm]
   rw [e1]
   have : H ≤ H * (1 + U) ^ j := Nat.le_mul_of_pos_right _ (Nat.pow_pos (by omega))
   omega
  ·rw [List.drop_of_length_le (by omega), QnN]; exact Hq.zero _ _
theorem WS.hst {D v n H U : Nat} {l : List Rat} {a : Rat} (h : WS D v n H l) (ha : Hq v U a) (hl : l.length ≤ n) {j : Nat} (hj : j < l.length) : WS D v n (H * (1 + U) ^ n) (hst l a j) := fun k hk => by
 rw [hst_getD hj]
 split
 ·exact (h k hk).le (Nat.le_mul_of_pos_right _ (Nat.pow_pos (by omega)))
 ·exact (h.suffix ha hl (n - k) k (by omega)).le (Nat.mul_le_mul_left _ (Nat.pow_le_pow_right (by omega) (by omega)))
theorem WS.pas {D v n H U : Nat} {l : List Rat} {a : Rat} (h : WS D v n H l) (ha : Hq v U a) (hl : l.length ≤ n) : ∀ i, i ≤ l.length → WS D v n (H * ((1 + U) ^ n) ^ i) (pas l a i)
 | 0, _ => by rw [Nat.pow_zero, Nat.mul_one]; exact h
 | i + 1, hi => by
  have ih := WS.pas h ha hl i (by omega)
  have := ih.hst ha (by rw [QpN i (by omega)]; exact hl) (j := i) (by rw [QpN i (by omega)]; omega)
  rw [Nat.mul_assoc, ← Nat.pow_succ] at this
  exact this
end Go.AM

/- Small helps for the laws of ref06.Poly's polynomials. -/
namespace Go.AM
open Go Go.RowKit Go.Proofs
theorem H1.add {d1 h1 d2 h2 : Nat} {a b : Rat} (H : H1 d1 h1 a) (H' : H1 d2 h2 b) : H1 (d1 + d2) (max (h1 + d2) (h2 + d1) + 1) (a + b) := by
 obtain ⟨D, a1, a2, a3⟩ := H
 obtain ⟨E, b1, b2, b3⟩ := H'
 refine ⟨D * E, Nat.mul_pos a1 b1, Qgk a2 b2, ((a3.lift E).add (b3.lift' D)).le (two_BB ?_ ?_)⟩
 ·exact Nat.le_trans (Qgk (Nat.le_refl _) b2) (QfC (by omega))
 ·exact Nat.le_trans (Qgk a2 (Nat.le_refl _)) (QfC (by omega))
variable [Its]
theorem evalP [ItsB] {d : D} {l : List Rat} {x : Rat} (h1 : RwR d l) (s1 : SzL 10000 l) (n1 : l.length ≤ 1000) (hx : sz x ≤ 10000) : Qaj G QdL [d, encR x] = some (.d (encR (evR l x))) ∧ sz (evR l x) ≤ 100000000 := by
 have hb := Nat.mul_le_mul_right (2 * 10000 + 1) n1
 refine ⟨Qh7 h1 hx (by omega) s1 (Nat.le_trans hb (by decide)), ?_⟩
 exact Nat.le_trans (evR_sz (K := 10000) hx l s1) (Nat.le_trans (Nat.add_le_add_right hb 1) (by decide))
end Go.AM

/- Vectors; ref12.Vec, Dot; ref13 and gap: small functions. -/
namespace Go.AM
open Go Go.RowKit

abbrev Vc := Rat × Rat
def encV (v : Vc) : D := .agg [.v (.bool (decide (v.1.num < 0))), dg (digs v.1.num.natAbs), .v (.bool false), dg (dd v.1.den), .v (.bool (decide (v.2.num < 0))), dg (digs v.2.num.natAbs), .v (.bool false), dg (dd v.2.den)]
def vcA (n : Int) : Int := arnd n 96 % 24 * 2 - 24 + arnd n 96 / 72
def vcB (n : Int) : Int := 2 + arnd n 96 / 48 % 2
def vcR (n : Int) : Rat := Rat.divInt (vcA n) (vcB n)
def dotR (d : Dr) (v : Vc) : Rat := (d.1 : Rat) * v.1 + (d.2.1 : Rat) * v.2
def rtR (d : Dr) (v : Vc) : Rat := dotR d v / (d.2.2 : Rat)
def gpR (e : Eg) (v : Vc) : Rat := (dotR e.1 v - (e.2 : Rat)) / (e.1.2.2 : Rat)
def plV (a b : Vc) : Vc := (a.1 + b.1, a.2 + b.2)
def tmV (k : Rat) (a : Vc) : Vc := (k * a.1, k * a.2)
def SzV (K : Nat) (v : Vc) : Prop := sz v.1 ≤ K ∧ sz v.2 ≤ K
theorem SzV.mono {K L : Nat} {v : Vc} (h : SzV K v) (hk : K ≤ L) : SzV L v := ⟨Nat.le_trans h.1 hk, Nat.le_trans h.2 hk⟩
def AtE (e : Eg) : Prop := NmD e.1 ∧ I64 e.2
theorem NmD.i1 {d : Dr} (h : NmD d) : I64 d.1 := ⟨by have := h.1; omega, by have := h.1; omega⟩
theorem NmD.i2 {d : Dr} (h : NmD d) : I64 d.2.1 := ⟨by have := h.2.1; omega, by have := h.2.1; omega⟩
theorem NmD.i3 {d : Dr} (h : NmD d) : I64 d.2.2 := ⟨by have := h.2.2; omega, by have := h.2.2; omega⟩
theorem Qeg : I64 1 := ⟨by omega, by omega⟩
theorem Qlw {d : Dr} {v : Vc} {K : Nat} (hd : NmD d) (hv : SzV K v) : sz (dotR d v) ≤ 2 * K + 7 := by
 have h1 := Qdl hd.i1
 have h2 := Qdl hd.i2
 have h3 := Qe6 (a := (d.1 : Rat)) (b := v.1)
 have h4 := Qe6 (a := (d.2.1 : Rat)) (b := v.2)
 have h5 := Qlu (a := (d.1 : Rat) * v.1) (b := (d.2.1 : Rat) * v.2)
 have := hv.1
 have := hv.2
 unfold dotR
 omega
theorem QkX {d : Dr} {v : Vc} {K : Nat} (hd : NmD d) (hv : SzV K v) : sz (rtR d v) ≤ 2 * K + 10 := by
 have h1 := Qlw hd hv
 have h2 := Qdl hd.i3
 have h3 := Qry (a := dotR d v) (b := (d.2.2 : Rat))
 unfold rtR
 omega
theorem QqS {e : Eg} {v : Vc} {K : Nat} (he : AtE e) (hv : SzV K v) : sz (gpR e v) ≤ 2 * K + 14 := by
 have h1 := Qlw he.1 hv
 have h2 := Qdl he.1.i3
 have h3 := Qdl he.2
 have h4 := QrH (a := dotR e.1 v) (b := (e.2 : Rat))
 have h5 := Qry (a := dotR e.1 v - (e.2 : Rat)) (b := (e.1.2.2 : Rat))
 unfold gpR
 omega
theorem QiQ {a b : Vc} {K L : Nat} (ha : SzV K a) (hb : SzV L b) : SzV (K + L + 1) (plV a b) := by
 have h1 := Qlu (a := a.1) (b := b.1)
 have h2 := Qlu (a := a.2) (b := b.2)
 have := ha.1; have := ha.2; have := hb.1; have := hb.2
 constructor <;> (unfold plV; dsimp only; omega)
theorem Qh5 {k : Rat} {a : Vc} {K L : Nat} (hk : sz k ≤ L) (ha : SzV K a) : SzV (K + L) (tmV k a) := by
 have h1 := Qe6 (a := k) (b := a.1)
 have h2 := Qe6 (a := k) (b := a.2)
 have := ha.1; have := ha.2
 constructor <;> (unfold tmV; dsimp only; omega)
theorem vc_b (n : Int) : (-24 ≤ vcA n ∧ vcA n ≤ 24) ∧ (2 ≤ vcB n ∧ vcB n ≤ 3) := by
 have h := QrK (n := n) (m := 96) (by omega)
 unfold vcA vcB
 omega
theorem vcR_sz (n : Int) : sz (vcR n) ≤ 3 := by
 have h := vc_b n
 exact QnM ⟨by omega, by omega⟩ ⟨by omega, by omega⟩
theorem Qlb (x y : Int) : SzV 3 (vcR x, vcR y) := ⟨vcR_sz x, vcR_sz y⟩
theorem st8 (a b c d e f g h i j k l m n o p : A) : Qaf 0 [a, b, c, d, e, f, g, h] [i, j, k, l, m, n, o, p] = some [a, b, c, d, e, f, g, h] := rfl
theorem ld8 (a b c d e f g h : D) : Qab (some 8) 0 [.d a, .d b, .d c, .d d, .d e, .d f, .d g, .d h] = some (.d (.agg [a, b, c, d, e, f, g, h])) := rfl
theorem ld80 (a b c d e f g h : D) : Qab (some 4) 0 [.d a, .d b, .d c, .d d, .d e, .d f, .d g, .d h] = some (.d (.agg [a, b, c, d])) := rfl
theorem ld84 (a b c d e f g h : D) : Qab (some 4) 4 [.d a, .d b, .d c, .d d, .d e, .d f, .d g, .d h] = some (.d (.agg [e, f, g, h])) := rfl
theorem st4' (a b c d i j k l : A) : Qaf 0 [a, b, c, d] [i, j, k, l] = some [a, b, c, d] := rfl
theorem ld3_0 (a b c : D) : Qab none 0 [.d a, .d b, .d c] = some (.d a) := rfl
theorem ld3_1 (a b c : D) : Qab none 1 [.d a, .d b, .d c] = some (.d b) := rfl
theorem ld3_2 (a b c : D) : Qab none 2 [.d a, .d b, .d c] = some (.d c) := rfl
theorem QpH (a b c d : D) : Qab (some 3) 0 [.d a, .d b, .d c, .d d] = some (.d (.agg [a, b, c])) := rfl
theorem QdR (a b c d : D) : Qab (some 4) 0 [.d a, .d b, .d c, .d d] = some (.d (.agg [a, b, c, d])) := rfl
theorem ld4_n2 (a b c d : D) : Qab none 2 [.d a, .d b, .d c, .d d] = some (.d c) := rfl
theorem ld4_n3 (a b c d : D) : Qab none 3 [.d a, .d b, .d c, .d d] = some (.d d) := rfl
theorem rep3_4 (a b c d : D) : rep 3 [a, b, c, d] = [a, b, c, d, a, b, c, d, a, b, c, d] := rfl

theorem gp_alt (e : Eg) (v : Vc) : rtR e.1 v - Rat.divInt e.2 e.1.2.2 = gpR e v := by
 unfold rtR gpR
 rw [Rat.divInt_eq_div, Rat.div_def, Rat.div_def, Rat.div_def]
 generalize dotR e.1 v = p
 generalize ((e.1.2.2 : Int) : Rat)⁻¹ = q
 generalize ((e.2 : Int) : Rat) = r
 grind
theorem QmY (q : Rat) : q * Rat.divInt 1 2 = q / 2 := by
 rw [Rat.divInt_eq_div, Rat.div_def, Rat.div_def]
 congr 1
 rw [show ((1 : Int) : Rat) = 1 from rfl, Rat.one_mul]
 rfl
def alL (e : Eg) (r v a : Vc) : List Rat := [gpR e r, rtR e.1 v, rtR e.1 a / 2]
def alP (e : Eg) (r v a : Vc) : List Rat := QeA (alL e r v a)
theorem Qob : I64 2 := ⟨by omega, by omega⟩
theorem Qqh {e : Eg} {r v a : Vc} {K : Nat} (he : AtE e) (hr : SzV K r) (hv : SzV K v) (ha : SzV K a) : SzL (2 * K + 14) (alL e r v a) := by
 intro q hq
 have h1 := QqS he hr
 have h2 := QkX he.1 hv
 have h3 := QkX he.1 ha
 have h4 := Qry (a := rtR e.1 a) (b := 2)
 have h5 := sz_two
 unfold alL at hq
 simp only [List.mem_cons, List.not_mem_nil, or_false] at hq
 rcases hq with rfl | rfl | rfl <;> omega
variable [Its]
theorem Qgc {x y : Int} (hx : I64 x) (hy : I64 y) : Qaj G QbG [iv x, iv y] = some (.d (encV (vcR x, vcR y))) := by
 rw [Qae (cf := gantryref12_Vec) rfl]
 have g1 := QhK (m := 96) hx (by omega)
 have g2 := QhK (m := 96) hy (by omega)
 have bx := vc_b x
 have bz := vc_b y
 have g3 := QbF (n := vcA x) (d := vcB x) ⟨by omega, by omega⟩ ⟨by omega, by omega⟩
 have g4 := QbF (n := vcA y) (d := vcB y) ⟨by omega, by omega⟩ ⟨by omega, by omega⟩
 have e3 : Rat.divInt (vcA x) (vcB x) = vcR x := rfl
 have e4 : Rat.divInt (vcA y) (vcB y) = vcR y := rfl
 rw [e3] at g3
 rw [e4] at g4
 clear e3 e4
 generalize vcR x = rx at *
 generalize vcR y = ry at *
 have b1 := QrK (n := x) (m := 96) (by omega)
 have b2 := QrK (n := y) (m := 96) (by omega)
 unfold vcA vcB at *
 generalize arnd x 96 = u at *
 generalize arnd y 96 = v at *
 have tm : ∀ a : Int, 0 ≤ a → a.tmod 24 = a % 24 := fun a h => QcT h
 have t1 := QcT (a := u) (b := 24) b1.1
 have t2 := Qdi (a := u) (b := 72) b1.1
 have t3 := Qdi (a := u) (b := 48) b1.1
 have t4 := QcT (a := u / 48) (b := 2) (by omega)
 have s1 := QcT (a := v) (b := 24) b2.1
 have s2 := Qdi (a := v) (b := 72) b2.1
 have s3 := Qdi (a := v) (b := 48) b2.1
 have s4 := QcT (a := v / 48) (b := 2) (by omega)
 have f1 : w64 (u % 24 * 2) = u % 24 * 2 := Qac (by omega) (by omega)
 have f2 : w64 (u % 24 * 2 - 24) = u % 24 * 2 - 24 := Qac (by omega) (by omega)
 have f3 : w64 (u / 72) = u / 72 := Qac (by omega) (by omega)
 have f4 : w64 (u % 24 * 2 - 24 + u / 72) = u % 24 * 2 - 24 + u / 72 := Qac (by omega) (by omega)
 have f5 : w64 (u / 48) = u / 48 := Qac (by omega) (by omega)
 have f6 : w64 (2 + u / 48 % 2) = 2 + u / 48 % 2 := Qac (by omega) (by omega)
 have h1 : w64 (v % 24 * 2) = v % 24 * 2 := Qac (by omega) (by omega)
 have h2 : w64 (v % 24 * 2 - 24) = v % 24 * 2 - 24 := Qac (by omega) (by omega)
 have h3 : w64 (v / 72) = v / 72 := Qac (by omega) (by omega)
 have h4 : w64 (v % 24 * 2 - 24 + v / 72) = v % 24 * 2 - 24 + v / 72 := Qac (by omega) (by omega)
 have h5 : w64 (v / 48) = v / 48 := Qac (by omega) (by omega)
 have h6 : w64 (2 + v / 48 % 2) = 2 + v / 48 % 2 := Qac (by omega) (by omega)
 have z1 : ((24 : Int) = 0) = False := by simp
 have z2 : ((72 : Int) = 0) = False := by simp
 have z3 : ((48 : Int) = 0) = False := by simp
 have z4 : ((2 : Int) = 0) = False := by simp
 clear bx bz b1 b2
 simp only [encR, iv, bv] at g1 g2 g3 g4
 simp -implicitDefEqProofs (maxSteps := 10000000) only [gantryref12_Vec, encV, QcG, Qbl, st8, ld8, QbT, g1, g2, g3, g4, t1, t2, t3, t4, s1, s2, s3, s4, f1, f2, f3, f4, f5, f6, h1, h2, h3, h4, h5, h6, z1, z2, z3, z4, Qaq, QaA, go_sem, iv, bv, reduceCtorEq, ↓reduceIte, Nat.reduceEqDiff]
theorem QeE {a b : Vc} {K : Nat} (hK : K ≤ 100000000000) (ha : SzV K a) (hb : SzV K b) : Qaj G QaV [encV a, encV b] = some (.d (encV (plV a b))) := by
 rw [Qae (cf := gantryref13_Plus) rfl]
 obtain ⟨x, y⟩ := a
 obtain ⟨z, t⟩ := b
 have g1 := Qfh (a := x) (b := z) (by have := ha.1; dsimp only at this; omega) (by have := hb.1; dsimp only at this; omega)
 have g2 := Qfh (a := y) (b := t) (by have := ha.2; dsimp only at this; omega) (by have := hb.2; dsimp only at this; omega)
 unfold plV
 dsimp only
 generalize x + z = u at *
 generalize y + t = v at *
 simp only [encR, iv, bv] at g1 g2
 simp -implicitDefEqProofs (maxSteps := 10000000) only [gantryref13_Plus, encV, QcG, Qbl, st8, ld8, ld80, ld84, QbT, g1, g2, Qaq, QaA, go_sem, iv, bv, reduceCtorEq, ↓reduceIte, Nat.reduceEqDiff]
theorem QfI {k : Rat} {a : Vc} {K : Nat} (hK : K ≤ 100000000000) (hk : sz k ≤ K) (ha : SzV K a) : Qaj G Qb3 [encR k, encV a] = some (.d (encV (tmV k a))) := by
 rw [Qae (cf := gantryref13_Times) rfl]
 obtain ⟨x, y⟩ := a
 have g1 := Qfu (a := k) (b := x) (by omega) (by have := ha.1; dsimp only at this; omega)
 have g2 := Qfu (a := k) (b := y) (by omega) (by have := ha.2; dsimp only at this; omega)
 unfold tmV
 dsimp only
 generalize k * x = u at *
 generalize k * y = v at *
 simp only [encR, iv, bv] at g1 g2
 simp -implicitDefEqProofs (maxSteps := 10000000) only [gantryref13_Times, encV, encR, QcG, Qbl, st8, ld8, ld80, ld84, QdR, QbT, g1, g2, Qaq, QaA, go_sem, iv, bv, reduceCtorEq, ↓reduceIte, Nat.reduceEqDiff]
theorem Qml {d : Dr} {v : Vc} {K : Nat} (hK : K ≤ 1000000000) (hd : NmD d) (hv : SzV K v) : Qaj G Qev [encD d, encV v] = some (.d (encR (dotR d v))) := by
 rw [Qae (cf := gantryref12_Dot) rfl]
 have g1 := QbF hd.i1 Qeg
 have g2 := QbF hd.i2 Qeg
 rw [QcR] at g1 g2
 have n1 := Qdl hd.i1
 have n2 := Qdl hd.i2
 have k1 := hv.1
 have k2 := hv.2
 have g3 := Qfu (a := (d.1 : Rat)) (b := v.1) (by omega) (by omega)
 have g4 := Qfu (a := (d.2.1 : Rat)) (b := v.2) (by omega) (by omega)
 have h3 := Qe6 (a := (d.1 : Rat)) (b := v.1)
 have h4 := Qe6 (a := (d.2.1 : Rat)) (b := v.2)
 have g5 := Qfh (a := (d.1 : Rat) * v.1) (b := (d.2.1 : Rat) * v.2) (by omega) (by omega)
 have e : (d.1 : Rat) * v.1 + (d.2.1 : Rat) * v.2 = dotR d v := rfl
 rw [e] at g5
 generalize dotR d v = r at *
 generalize (d.1 : Rat) * v.1 = u1 at *
 generalize (d.2.1 : Rat) * v.2 = u2 at *
 clear n1 n2 h3 h4 k1 k2 e hv
 generalize (d.1 : Rat) = c1 at *
 generalize (d.2.1 : Rat) = c2 at *
 obtain ⟨x, y⟩ := v
 obtain ⟨a, b, c⟩ := d
 simp only [encR, iv, bv] at g1 g2 g3 g4 g5
 simp -implicitDefEqProofs (maxSteps := 10000000) only [gantryref12_Dot, encD, cD, encV, encR, st4', QdR, ld80, ld84, ld3_0, ld3_1, QbT, g1, g2, g3, g4, g5, Qaq, QaA, go_sem, iv, bv, reduceCtorEq, ↓reduceIte, Nat.reduceEqDiff]
theorem Qix {e : Eg} {v : Vc} {K : Nat} (hK : K ≤ 1000000000) (he : AtE e) (hv : SzV K v) : Qaj G QcD [encG e, encV v] = some (.d (encR (rtR e.1 v))) := by
 rw [Qae (cf := gantryref13_Rate) rfl]
 have g1 := Qml hK he.1 hv
 have g2 := QbF he.1.i3 Qeg
 rw [QcR] at g2
 have n1 := Qdl he.1.i3
 have n2 := Qlw he.1 hv
 have g3 := QgX (a := dotR e.1 v) (b := (e.1.2.2 : Rat)) (by omega) (by omega)
 have ee : dotR e.1 v / (e.1.2.2 : Rat) = rtR e.1 v := rfl
 rw [ee] at g3
 generalize rtR e.1 v = r at *
 generalize dotR e.1 v = s at *
 clear n1 n2 ee he hv
 generalize (e.1.2.2 : Rat) = c1 at *
 obtain ⟨x, y⟩ := v
 obtain ⟨⟨a, b, c⟩, t⟩ := e
 simp only [encD, cD, encV, encR, iv, bv] at g1 g2 g3
 simp -implicitDefEqProofs (maxSteps := 10000000) only [gantryref13_Rate, encG, cG, encV, encR, st4', QdR, ld8, QpH, ld4_n2, Nat.zero_add, QbT, g1, g2, g3, Qaq, QaA, go_sem, iv, bv, reduceCtorEq, ↓reduceIte, Nat.reduceEqDiff]
theorem QoW {e : Eg} {v : Vc} {K : Nat} (hK : K ≤ 1000000000) (he : AtE e) (hv : SzV K v) : Qaj G Qem [encG e, encV v] = some (.d (encR (gpR e v))) := by
 rw [Qae (cf := gantryref13_Gap) rfl]
 have g1 := Qml hK he.1 hv
 have g2 := QbF he.1.i3 Qeg
 have g4 := QbF he.2 Qeg
 rw [QcR] at g2 g4
 have n1 := Qdl he.1.i3
 have n2 := Qlw he.1 hv
 have n3 := Qdl he.2
 have n4 := QrH (a := dotR e.1 v) (b := (e.2 : Rat))
 have g5 := QoN (a := dotR e.1 v) (b := (e.2 : Rat)) (by omega) (by omega)
 have g3 := QgX (a := dotR e.1 v - (e.2 : Rat)) (b := (e.1.2.2 : Rat)) (by omega) (by omega)
 have ee : (dotR e.1 v - (e.2 : Rat)) / (e.1.2.2 : Rat) = gpR e v := rfl
 rw [ee] at g3
 generalize gpR e v = r at *
 generalize dotR e.1 v - (e.2 : Rat) = q at *
 generalize dotR e.1 v = s at *
 clear n1 n2 n3 n4 ee he hv
 generalize (e.1.2.2 : Rat) = c1 at *
 generalize (e.2 : Rat) = c2 at *
 obtain ⟨x, y⟩ := v
 obtain ⟨⟨a, b, c⟩, t⟩ := e
 simp only [encD, cD, encV, encR, iv, bv] at g1 g2 g3 g4 g5
 simp -implicitDefEqProofs (maxSteps := 10000000) only [gantryref13_Gap, encG, cG, encV, encR, st4', QdR, ld8, QpH, ld4_n2, ld4_n3, Nat.zero_add, QbT, g1, g2, g3, g4, g5, Qaq, QaA, go_sem, iv, bv, reduceCtorEq, ↓reduceIte, Nat.reduceEqDiff]
theorem QgB {d : Dr} {v : Vc} {K : Nat} (hK : K ≤ 1000000000) (hd : NmD d) (hv : SzV K v) : Qaj G QeV [encD d, encV v] = some (.d (encR (rtR d v))) := by
 rw [Qae (cf := gap_rate) rfl]
 have g1 := Qb9 hd.i1 Qeg
 have g2 := Qb9 hd.i2 Qeg
 have g6 := Qb9 hd.i3 Qeg
 rw [QcR] at g1 g2 g6
 have n1 := Qdl hd.i1
 have n2 := Qdl hd.i2
 have n3 := Qdl hd.i3
 have n4 := Qlw hd hv
 have k1 := hv.1
 have k2 := hv.2
 have g3 := QcE (a := (d.1 : Rat)) (b := v.1) (by omega) (by omega)
 have g4 := QcE (a := (d.2.1 : Rat)) (b := v.2) (by omega) (by omega)
 have h3 := Qe6 (a := (d.1 : Rat)) (b := v.1)
 have h4 := Qe6 (a := (d.2.1 : Rat)) (b := v.2)
 have g5 := Qf7 (a := (d.1 : Rat) * v.1) (b := (d.2.1 : Rat) * v.2) (by omega) (by omega)
 have e : (d.1 : Rat) * v.1 + (d.2.1 : Rat) * v.2 = dotR d v := rfl
 rw [e] at g5
 have g7 := QkP (a := dotR d v) (b := (d.2.2 : Rat)) (by omega) (by omega)
 have ee : dotR d v / (d.2.2 : Rat) = rtR d v := rfl
 rw [ee] at g7
 generalize rtR d v = r at *
 generalize dotR d v = s at *
 generalize (d.1 : Rat) * v.1 = u1 at *
 generalize (d.2.1 : Rat) * v.2 = u2 at *
 clear n1 n2 n3 n4 h3 h4 k1 k2 e ee hv
 generalize (d.1 : Rat) = c1 at *
 generalize (d.2.1 : Rat) = c2 at *
 generalize (d.2.2 : Rat) = c3 at *
 obtain ⟨x, y⟩ := v
 obtain ⟨a, b, c⟩ := d
 simp only [encR, iv, bv] at g1 g2 g3 g4 g5 g6 g7
 simp -implicitDefEqProofs (maxSteps := 10000000) only [gap_rate, encD, cD, encV, encR, st4', QdR, ld80, ld84, ld3_0, ld3_1, ld3_2, QbT, g1, g2, g3, g4, g5, g6, g7, Qaq, QaA, go_sem, iv, bv, reduceCtorEq, ↓reduceIte, Nat.reduceEqDiff]
theorem Qdq {e : Eg} {v : Vc} {K : Nat} (hK : K ≤ 1000000000) (he : AtE e) (hv : SzV K v) : Qaj G QbV [encG e, encV v] = some (.d (encR (gpR e v))) := by
 rw [Qae (cf := gap_Gap) rfl]
 have g1 := QgB hK he.1 hv
 have g2 := Qb9 he.2 he.1.i3
 have n1 := QnM he.2 he.1.i3
 have n2 := QkX he.1 hv
 have g3 := QhD (a := rtR e.1 v) (b := Rat.divInt e.2 e.1.2.2) (by omega) (by omega)
 rw [gp_alt] at g3
 generalize gpR e v = r at *
 generalize rtR e.1 v = s at *
 clear n1 n2 he hv
 generalize Rat.divInt e.2 e.1.2.2 = c1 at *
 obtain ⟨x, y⟩ := v
 obtain ⟨⟨a, b, c⟩, t⟩ := e
 simp only [encD, cD, encV, encR, iv, bv] at g1 g2 g3
 simp -implicitDefEqProofs (maxSteps := 10000000) only [gap_Gap, encG, cG, encV, encR, st4', QdR, ld8, QpH, ld4_n2, ld4_n3, Nat.zero_add, QbT, g1, g2, g3, Qaq, QaA, go_sem, iv, bv, reduceCtorEq, ↓reduceIte, Nat.reduceEqDiff]
theorem QpX {e : Eg} {r v a : Vc} {K : Nat} (hK : K ≤ 1000000000) (he : AtE e) (hr : SzV K r) (hv : SzV K v) (ha : SzV K a) : ∃ d, RwR d (alP e r v a) ∧ Qaj G QeZ [encG e, encV r, encV v, encV a] = some (.d d) := by
 rw [Qae (cf := gantryref13_Along) rfl]
 have g1 := QoW hK he hr
 have g2 := Qix hK he hv
 have g3 := Qix hK he ha
 have g4 := QbF Qob Qeg
 rw [QcR, show ((2 : Int) : Rat) = 2 from rfl] at g4
 have n1 := QkX he.1 ha
 have n2 := sz_two
 have g5 := QgX (a := rtR e.1 a) (b := 2) (by omega) (by omega)
 have hs := Qqh he hr hv ha
 obtain ⟨d', hd', g6⟩ := QsH (d := rowR (alL e r v a)) (l := alL e r v a) (.inr rfl) (by simp [alL]) (hs.mono (by omega))
 refine ⟨d', hd', ?_⟩
 unfold alL at g6
 clear hd' hs n1 n2
 generalize rtR e.1 a / 2 = q3 at *
 generalize rtR e.1 a = q4 at *
 generalize rtR e.1 v = q2 at *
 generalize gpR e r = q1 at *
 generalize (2 : Rat) = tw at *
 clear he hr hv ha
 obtain ⟨⟨a1, b1, c1⟩, t1⟩ := e
 obtain ⟨x1, y1⟩ := r
 obtain ⟨x2, y2⟩ := v
 obtain ⟨x3, y3⟩ := a
 simp only [encG, cG, encV, encR, rowR, cRs, List.cons_append, List.nil_append, List.length_cons, List.length_nil, Nat.zero_add, Nat.reduceAdd, iv, bv] at g1 g2 g3 g4 g5 g6
 simp -implicitDefEqProofs (maxSteps := 10000000) only [gantryref13_Along, encG, cG, encV, QdR, ld8, rep3_4, QbT, g1, g2, g3, g4, g5, g6, Qaq, QaA, go_sem, iv, bv, reduceCtorEq, ↓reduceIte, Nat.reduceEqDiff]
theorem QmH {e : Eg} {r v a : Vc} {K : Nat} (hK : K ≤ 1000000000) (he : AtE e) (hr : SzV K r) (hv : SzV K v) (ha : SzV K a) : ∃ d, RwR d (alP e r v a) ∧ Qaj G QhL [encG e, encV r, encV v, encV a] = some (.d d) := by
 rw [Qae (cf := gap_Along) rfl]
 have g1 := Qdq hK he hr
 have g2 := QgB hK he.1 hv
 have g3 := QgB hK he.1 ha
 have g4 := Qb9 Qeg Qob
 have n1 := QkX he.1 ha
 have n2 := QnM Qeg Qob
 have g5 := QcE (a := rtR e.1 a) (b := Rat.divInt 1 2) (by omega) (by omega)
 rw [QmY] at g5
 have hs := Qqh he hr hv ha
 obtain ⟨d', hd', g6⟩ := Trim_spec (d := rowR (alL e r v a)) (l := alL e r v a) (.inr rfl) (by simp [alL])
 refine ⟨d', hd', ?_⟩
 unfold alL at g6
 clear hd' hs n1 n2
 generalize rtR e.1 a / 2 = q3 at *
 generalize rtR e.1 a = q4 at *
 generalize rtR e.1 v = q2 at *
 generalize gpR e r = q1 at *
 generalize Rat.divInt 1 2 = tw at *
 clear he hr hv ha
 obtain ⟨⟨a1, b1, c1⟩, t1⟩ := e
 obtain ⟨x1, y1⟩ := r
 obtain ⟨x2, y2⟩ := v
 obtain ⟨x3, y3⟩ := a
 simp only [encG, cG, encD, cD, encV, encR, rowR, cRs, List.cons_append, List.nil_append, List.length_cons, List.length_nil, Nat.zero_add, Nat.reduceAdd, iv, bv] at g1 g2 g3 g4 g5 g6
 simp -implicitDefEqProofs (maxSteps := 10000000) only [gap_Along, encG, cG, encV, QpH, QdR, ld8, rep3_4, QbT, g1, g2, g3, g4, g5, g6, Qaq, QaA, go_sem, iv, bv, reduceCtorEq, ↓reduceIte, Nat.reduceEqDiff]
end Go.AM

/- convex: the small functions; Most. -/
namespace Go.AM
open Go Go.RowKit

def crI (a b c : Pt) : Int := (b.1 - a.1) * (c.2 - a.2) - (b.2 - a.2) * (c.1 - a.1)
def cmpI (a b : Int) : Int := if a < b then -1 else if a > b then 1 else 0
def mxF (d : Dr) (l : List Pt) : Nat → Pt
 | 0 => l.getD 0 default
 | i + 1 => if dotI d (l.getD (i + 1) default) > dotI d (mxF d l i) then l.getD (i + 1) default else mxF d l i
theorem mxF_dot (d : Dr) (l : List Pt) : ∀ i, dotI d (mxF d l i) = mstN d l (i + 1)
 | 0 => by simp only [mxF, mstN]; omega
 | i + 1 => by
  have ih := mxF_dot d l i
  rw [mstN, ← ih, mxF]
  split <;> omega
theorem cmp_gt (a b : Int) : decide (cmpI a b > 0) = decide (a > b) := by
 unfold cmpI
 split
 ·rw [decide_eq_false (by omega), decide_eq_false (by omega)]
 ·split
  ·rw [decide_eq_true (by omega), decide_eq_true (by omega)]
  ·rw [decide_eq_false (by omega), decide_eq_false (by omega)]
theorem st2p (a b c d : A) : Qaf 0 [a, b] [c, d] = some [a, b] := rfl
theorem ld2p (a b : D) : Qab (some 2) 0 [.d a, .d b] = some (.d (.agg [a, b])) := rfl
theorem Qfc (a b : D) : Qab none 0 [.d a, .d b] = some (.d a) := rfl
theorem Qfe (a b : D) : Qab none 1 [.d a, .d b] = some (.d b) := rfl
theorem ld3p (a b c : D) : Qab (some 3) 0 [.d a, .d b, .d c] = some (.d (.agg [a, b, c])) := rfl
theorem ld3n0 (a b c : D) : Qab none 0 [.d a, .d b, .d c] = some (.d a) := rfl
theorem ld3n1 (a b c : D) : Qab none 1 [.d a, .d b, .d c] = some (.d b) := rfl
theorem ldrp3 (h : Hp) (a b c : D) : QcF h (some 3) (.d (.rp [a, b, c])) = some (.d (.agg [a, b, c])) := rfl

theorem mxF_sm {d : Dr} {l : List Pt} (hl : ∀ p ∈ l, SmP p) : ∀ i, SmP (mxF d l i)
 | 0 => Qbg hl smP0 _
 | i + 1 => by
  rw [mxF]
  split
  ·exact Qbg hl smP0 _
  ·exact mxF_sm hl i
variable [Its]
theorem QjC {d : D} {l : List Pt} (hr : RwE cP d l) {i : Nat} (hi : i < l.length) (hl : l.length ≤ 1000000) : Qaj G QeN [d, iv (i : Int)] = some (.d (encP (nxP l i))) := by
 rw [Qae (cf := convex_next) rfl]
 have ll := hr.len
 have e1 : w64 ((i : Int) + 1) = ((i + 1 : Nat) : Int) := by rw [Qac (by omega) (by omega)]; rfl
 have e2 := QiB (b := (l.length : Int)) (by omega)
 have e3 : (((i + 1 : Nat) : Int)).tmod (l.length : Int) = (((i + 1) % l.length : Nat) : Int) := by rw [QcT (by omega)]; omega
 have hj : (i + 1) % l.length < l.length := Nat.mod_lt _ (by omega)
 have x1 := hr.ixa QaJ hj
 have x2 := fun hp => ldE QaJ hp hj
 have ee : l.getD ((i + 1) % l.length) default = nxP l i := by
  unfold nxP
  split
  ·rw [Nat.mod_eq_of_lt (by assumption)]
  ·have : i + 1 = l.length := by omega
   rw [this, Nat.mod_self]
 rw [ee] at x2
 generalize nxP l i = q at *
 obtain ⟨x, y⟩ := q
 simp only [cP, iv] at x2
 simp -implicitDefEqProofs (maxSteps := 10000000) only [convex_next, encP, cP, st2p, ld2p, go_sem, iv, bv, e1, e2, e3, ll, x1, x2, reduceCtorEq, ↓reduceIte, Nat.reduceEqDiff]
theorem Qsa {a b c : Pt} (ha : SmP a) (hb : SmP b) (hc : SmP c) : Qaj G QfB [encP a, encP b, encP c] = some (.d (iv (crI a b c))) := by
 rw [Qae (cf := convex_cross) rfl]
 obtain ⟨a1, a2⟩ := a
 obtain ⟨b1, b2⟩ := b
 obtain ⟨c1, c2⟩ := c
 obtain ⟨h1, h2⟩ := ha
 obtain ⟨h3, h4⟩ := hb
 obtain ⟨h5, h6⟩ := hc
 simp only [Sm] at h1 h2 h3 h4 h5 h6
 unfold crI
 dsimp only
 obtain ⟨x, hx⟩ : ∃ x, b1 - a1 = x := ⟨_, rfl⟩
 obtain ⟨y, hy⟩ : ∃ x, c2 - a2 = x := ⟨_, rfl⟩
 obtain ⟨z, hz⟩ : ∃ x, b2 - a2 = x := ⟨_, rfl⟩
 obtain ⟨t, ht⟩ : ∃ x, c1 - a1 = x := ⟨_, rfl⟩
 have e1 : w64 (b1 - a1) = x := by rw [Qac (by omega) (by omega), hx]
 have e2 : w64 (c2 - a2) = y := by rw [Qac (by omega) (by omega), hy]
 have e3 : w64 (b2 - a2) = z := by rw [Qac (by omega) (by omega), hz]
 have e4 : w64 (c1 - a1) = t := by rw [Qac (by omega) (by omega), ht]
 have bb : ∀ u v : Int, -200000000 ≤ u ∧ u ≤ 200000000 → -200000000 ≤ v ∧ v ≤ 200000000 → -40000000000000000 ≤ u * v ∧ u * v ≤ 40000000000000000 := by
  intro u v hu hv
  have h1 : (u * v).natAbs ≤ 200000000 * 200000000 := by
   rw [Int.natAbs_mul]
   exact Nat.mul_le_mul (by omega) (by omega)
  omega
 have m1 := bb x y (by omega) (by omega)
 have m2 := bb z t (by omega) (by omega)
 clear bb
 rw [hx, hy, hz, ht]
 have e5 : w64 (x * y) = x * y := Qac (by omega) (by omega)
 have e6 : w64 (z * t) = z * t := Qac (by omega) (by omega)
 have e7 : w64 (x * y - z * t) = x * y - z * t := Qac (by omega) (by omega)
 simp -implicitDefEqProofs (maxSteps := 10000000) only [convex_cross, encP, cP, Qfc, Qfe, go_sem, iv, bv, e1, e2, e3, e4, e5, e6, e7, reduceCtorEq, ↓reduceIte, Nat.reduceEqDiff]
theorem QkE {d : Dr} (h : SmD d) : Qaj G QcP [encD d] = some (.d (encD (tnD d))) := by
 rw [Qae (cf := convex_turned) rfl]
 obtain ⟨x, y, z⟩ := d
 obtain ⟨h1, h2, h3⟩ := h
 simp only [Sm] at h1 h2 h3
 have e1 : w64 (0 - x) = -x := by rw [Qac (by omega) (by omega)]; omega
 have e2 : w64 (0 - y) = -y := by rw [Qac (by omega) (by omega)]; omega
 simp -implicitDefEqProofs (maxSteps := 10000000) only [convex_turned, tnD, encD, cD, Qaf, Qab, go_sem, iv, bv, e1, e2, reduceCtorEq, ↓reduceIte, Nat.reduceEqDiff]
def Qle (a b : Int) : St := mkS [(0, ai a), (1, ai b)] []
def Qrs (a : Int) : St := mkS [(0, ai a)] []
theorem QqF : ∀ (n : Nat) (a b : Int), b.natAbs < n → (-4000000000000000000 ≤ a ∧ a ≤ 4000000000000000000) → (-4000000000000000000 ≤ b ∧ b ≤ 4000000000000000000) → ∃ z, z.natAbs = Int.gcd a b ∧ (-4000000000000000000 ≤ z ∧ z ≤ 4000000000000000000) ∧ X G (.loop Qdp) (Qle a b) = some (.x 0, Qrs z)
 | 0, a, b, h, _, _ => by omega
 | n + 1, a, b, h, ha, hb => by
  by_cases h0 : b = 0
  ·subst h0
   have e1 : ((0 : Int) != 0) = false := rfl
   have g : X G Qdp (Qle a 0) = some (.x 0, Qrs a) := by
    simp -implicitDefEqProofs (maxSteps := 10000000) only [Qdp, Qle, Qrs, go_sem, iv, bv, e1, reduceCtorEq, ↓reduceIte, Nat.reduceEqDiff]
   exact ⟨a, by rw [Int.gcd_zero_right], ha, by rw [Qah, g]; rfl⟩
  ·have e1 : (b != 0) = true := by simpa using h0
   have e2 := QiB (b := b) h0
   have g : X G Qdp (Qle a b) = some (.n, Qle b (a.tmod b)) := by
    simp -implicitDefEqProofs (maxSteps := 10000000) only [Qdp, Qle, go_sem, iv, bv, e1, e2, reduceCtorEq, ↓reduceIte, Nat.reduceEqDiff]
   have h1 : (a.tmod b).natAbs < b.natAbs := by rw [Int.natAbs_tmod]; exact Nat.mod_lt _ (by omega)
   obtain ⟨z, z1, z2, z3⟩ := QqF n b (a.tmod b) (by omega) hb (by omega)
   refine ⟨z, ?_, z2, by rw [Qah, g, Option.bind_some, if_pos rfl]; exact z3⟩
   rw [z1]
   show Nat.gcd _ _ = Nat.gcd _ _
   rw [Int.natAbs_tmod, Nat.gcd_comm a.natAbs, Nat.gcd_comm b.natAbs (a.natAbs % b.natAbs)]
   exact (Nat.gcd_rec b.natAbs a.natAbs).symm
theorem Qor {a b : Int} (ha : -4000000000000000000 ≤ a ∧ a ≤ 4000000000000000000) (hb : -4000000000000000000 ≤ b ∧ b ≤ 4000000000000000000) : Qaj G QgU [iv a, iv b] = some (.d (iv (Int.gcd a b : Int))) := by
 rw [Qae (cf := convex_gcd) rfl]
 obtain ⟨z, z1, z2, g⟩ := QqF (b.natAbs + 1) a b (by omega) ha hb
 have e1 : w64 (0 - z) = -z := by rw [Qac (by omega) (by omega)]; omega
 have e2 : (if -z > z then -z else z) = ((Int.gcd a b : Nat) : Int) := by rw [← z1]; split <;> omega
 generalize ((Int.gcd a b : Nat) : Int) = q at *
 simp only [Qle, Qrs, go_sem] at g
 simp -implicitDefEqProofs (maxSteps := 10000000) only [convex_gcd, QiZ, mxV, g, e1, e2, go_sem, iv, bv, reduceCtorEq, ↓reduceIte, Nat.reduceEqDiff]
theorem Qnb {d : Dr} {p : Pt} (hd : SmD d) (hp : SmP p) : Qaj G Qfp [encD d, encP p] = some (.d (iv (dotI d p))) := by
 rw [Qae (cf := convex_dot) rfl]
 obtain ⟨a, b, c⟩ := d
 obtain ⟨x, y⟩ := p
 obtain ⟨h1, h2, h3⟩ := hd
 have m1 := Qj7 h1 hp.1
 have m2 := Qj7 h2 hp.2
 unfold dotI
 dsimp only at m1 m2 ⊢
 have e3 : w64 (a * x) = a * x := Qac (by omega) (by omega)
 have e4 : w64 (b * y) = b * y := Qac (by omega) (by omega)
 have e5 : w64 (a * x + b * y) = a * x + b * y := Qac (by omega) (by omega)
 simp -implicitDefEqProofs (maxSteps := 10000000) only [convex_dot, encD, cD, encP, cP, Qfc, Qfe, ld3n0, ld3n1, go_sem, iv, bv, e3, e4, e5, reduceCtorEq, ↓reduceIte, Nat.reduceEqDiff]
theorem Qqw (x : Int) : Qaj G QdZ [iv x] = some (.d (bv false)) := by
 rw [Qae (cf := cmp_isNaN_int) rfl]
 have e : (x != x) = false := by simp
 simp -implicitDefEqProofs (maxSteps := 10000000) only [cmp_isNaN_int, go_sem, iv, bv, e, reduceCtorEq, ↓reduceIte, Nat.reduceEqDiff]
theorem Qf0 (a b : Int) : Qaj G Qb2 [iv a, iv b] = some (.d (iv (cmpI a b))) := by
 rw [Qae (cf := cmp_Compare_int) rfl]
 have g1 := Qqw a
 have g2 := Qqw b
 simp only [iv, bv] at g1 g2
 unfold cmpI
 by_cases h : a < b
 ·have e1 : decide (a < b) = true := decide_eq_true h
  rw [if_pos h]
  simp -implicitDefEqProofs (maxSteps := 10000000) only [cmp_Compare_int, g1, g2, go_sem, iv, bv, e1, reduceCtorEq, ↓reduceIte, Nat.reduceEqDiff]
 ·have e1 : decide (a < b) = false := decide_eq_false h
  rw [if_neg h]
  by_cases h2 : a > b
  ·have e2 : decide (a > b) = true := decide_eq_true h2
   rw [if_pos h2]
   simp -implicitDefEqProofs (maxSteps := 10000000) only [cmp_Compare_int, g1, g2, go_sem, iv, bv, e1, e2, reduceCtorEq, ↓reduceIte, Nat.reduceEqDiff]
  ·have e2 : decide (a > b) = false := decide_eq_false h2
   rw [if_neg h2]
   simp -implicitDefEqProofs (maxSteps := 10000000) only [cmp_Compare_int, g1, g2, go_sem, iv, bv, e1, e2, reduceCtorEq, ↓reduceIte, Nat.reduceEqDiff]
theorem QrP {d : Dr} {p q : Pt} (hd : SmD d) (hp : SmP p) (hq : SmP q) : Qaj G QdS [encP p, encP q, .rp (cD d)] = some (.d (iv (cmpI (dotI d p) (dotI d q)))) := by
 rw [Qae (cf := convex_Most_1) rfl]
 have g1 := Qnb hd hp
 have g2 := Qnb hd hq
 have g3 := Qf0 (dotI d p) (dotI d q)
 generalize cmpI (dotI d p) (dotI d q) = z at *
 generalize dotI d p = u at *
 generalize dotI d q = v at *
 obtain ⟨a, b, c⟩ := d
 obtain ⟨p1, p2⟩ := p
 obtain ⟨q1, q2⟩ := q
 simp only [encD, cD, encP, cP, iv] at g1 g2 g3
 simp -implicitDefEqProofs (maxSteps := 10000000) only [convex_Most_1, encD, cD, encP, cP, g1, g2, g3, ldrp3, ld2p, go_sem, iv, bv, reduceCtorEq, ↓reduceIte, Nat.reduceEqDiff]
def QnS (d : D) (e : Dr) (p : Pt) (i : Int) : St := mkS [(0, .d d), (1, .d (.fn QdS [.rp (cD e)])), (4, .ptr [4] 0), (5, .ptr [5] 0), (6, ai i)] [([4], ⟨0, 0, [.d (iv 0), .d (iv 0)], false⟩), ([5], ⟨0, 0, [.d (iv p.1), .d (iv p.2)], false⟩)]
def mf_en (p : Pt) : St := mkS [(4, .ptr [4] 0), (5, .ptr [5] 0)] [([4], ⟨0, 0, [.d (iv 0), .d (iv 0)], false⟩), ([5], ⟨0, 0, [.d (iv p.1), .d (iv p.2)], false⟩)]
theorem mf_go {d : D} {l : List Pt} {e : Dr} (hr : RwE cP d l) (hl : ∀ p ∈ l, SmP p) (he : SmD e) (hn : l.length ≤ 1000000) {p : Pt} (hp : SmP p) {i : Nat} (hi : i < l.length) :
    X G Qax (QnS d e p i) = some (.n, QnS d e (if dotI e (l.getD i default) > dotI e p then l.getD i default else p) ((i + 1 : Nat) : Int)) := by
  have ll := hr.len
  have e1 : decide ((i : Int) < (l.length : Int)) = true := lt_t (by omega)
  have e2 : w64 ((i : Int) + 1) = ((i + 1 : Nat) : Int) := by rw [Qac (by omega) (by omega)]; rfl
  have x1 := hr.ixa QaJ hi
  have x2 := fun hp => ldE QaJ hp hi
  have hq := Qbg hl smP0 i
  have g := QrP he hq hp
  have e3 := cmp_gt (dotI e (l.getD i default)) (dotI e p)
  generalize cmpI (dotI e (l.getD i default)) (dotI e p) = z at *
  generalize l.getD i default = q at *
  obtain ⟨qx, qy⟩ := q
  obtain ⟨px, py⟩ := p
  obtain ⟨a, b, c⟩ := e
  simp only [cP, cD, encP, iv] at x2 g
  by_cases h : dotI (a, b, c) (qx, qy) > dotI (a, b, c) (px, py)
  · rw [decide_eq_true h] at e3
    rw [if_pos h]
    simp -implicitDefEqProofs (maxSteps := 10000000) only [Qax, QnS, cD, g, st2p, ld2p, List.cons_append, List.nil_append, go_sem, iv, bv, e1, e2, e3, ll, x1, x2, reduceCtorEq, ↓reduceIte, Nat.reduceEqDiff]
  · rw [decide_eq_false h] at e3
    rw [if_neg h]
    simp -implicitDefEqProofs (maxSteps := 10000000) only [Qax, QnS, cD, g, st2p, ld2p, List.cons_append, List.nil_append, go_sem, iv, bv, e1, e2, e3, ll, x1, x2, reduceCtorEq, ↓reduceIte, Nat.reduceEqDiff]
theorem mf_stop {d : D} {l : List Pt} {e : Dr} (hr : RwE cP d l) {p : Pt} : X G Qax (QnS d e p l.length) = some (.x 0, mf_en p) := by
 have ll := hr.len
 have e1 : decide ((l.length : Int) < (l.length : Int)) = false := lt_f (by omega)
 simp -implicitDefEqProofs (maxSteps := 10000000) only [Qax, QnS, mf_en, go_sem, iv, bv, e1, ll, reduceCtorEq, ↓reduceIte, Nat.reduceEqDiff]
theorem mf_loop {d : D} {l : List Pt} {e : Dr} (hr : RwE cP d l) (hl : ∀ p ∈ l, SmP p) (he : SmD e) (hn : l.length ≤ 1000000) : ∀ (j i : Nat), i + 1 + j = l.length → X G (.loop Qax) (QnS d e (mxF e l i) ((i + 1 : Nat) : Int)) = some (.x 0, mf_en (mxF e l (l.length - 1)))
 | 0, i, h => by
  have : i + 1 = l.length := by omega
  rw [this, ← this, Nat.add_sub_cancel]
  rw [Qah, this, mf_stop hr]; rfl
 | j + 1, i, h => by
  rw [Qah, mf_go hr hl he hn (mxF_sm hl i) (by omega), Option.bind_some, if_pos rfl]
  exact mf_loop hr hl he hn j (i + 1) (by omega)
theorem Qmp {d : D} {l : List Pt} {e : Dr} (hr : RwE cP d l) (h0 : 0 < l.length) (hl : ∀ p ∈ l, SmP p) (he : SmD e) (hn : l.length ≤ 1000000) : Qaj G Qcd [d, encD e] = some (.d (iv (moP e l))) := by
 have gm : Qaj G Qci [d, .fn QdS [.rp (cD e)]] = some (.d (encP (mxF e l (l.length - 1)))) := by
  rw [Qae (cf := slices_MaxFunc_api_Point_api_Point) rfl]
  have ll := hr.len
  have e1 : decide ((l.length : Int) < 1) = false := lt_f (by omega)
  have x1 := hr.ixa (j := 0) QaJ h0
  have x2 := fun hp => ldE (j := 0) (l := l) QaJ hp h0
  have g := mf_loop hr hl he hn (l.length - 1) 0 (by omega)
  have e0 : mxF e l 0 = l.getD 0 default := rfl
  have e3 : ((0 + 1 : Nat) : Int) = 1 := rfl
  rw [e0, e3] at g
  simp only [nc0, List.drop_zero] at x1 x2
  generalize mxF e l (l.length - 1) = z at *
  generalize l.getD 0 default = q at *
  obtain ⟨qx, qy⟩ := q
  obtain ⟨zx, zy⟩ := z
  simp only [cP, iv] at x2
  simp only [QnS, mf_en, iv, go_sem] at g
  simp -implicitDefEqProofs (maxSteps := 10000000) only [slices_MaxFunc_api_Point_api_Point, encP, cP, g, st2p, ld2p, go_sem, iv, bv, e1, ll, x1, x2, reduceCtorEq, ↓reduceIte, Nat.reduceEqDiff]
 rw [Qae (cf := convex_Most) rfl]
 have hz := mxF_sm (d := e) hl (l.length - 1)
 have g2 := Qnb he hz
 rw [mxF_dot, show l.length - 1 + 1 = l.length by omega] at g2
 have e4 : mstN e l l.length = moP e l := rfl
 rw [e4] at g2
 generalize moP e l = r at *
 generalize mxF e l (l.length - 1) = z at *
 obtain ⟨zx, zy⟩ := z
 obtain ⟨a, b, c⟩ := e
 simp only [encD, cD, encP, cP, iv] at gm g2
 simp -implicitDefEqProofs (maxSteps := 10000000) only [convex_Most, encD, cD, encP, cP, gm, g2, ld3p, snap, Qcy, allD, go_sem, iv, bv, reduceCtorEq, ↓reduceIte, Nat.reduceEqDiff]
end Go.AM

/- convex: Norm; searching rows of edges. -/
namespace Go.AM
open Go Go.RowKit

section
variable {α : Type} {en : α → List D} {es : Nat}
theorem RwE.cell {d : D} {l : List α} (h : RwE en d l) : QaT (.d d) = [.d d] := by rcases h with ⟨rfl, _⟩ | rfl <;> rfl
theorem RwE.onec {d : D} {l : List α} (h : RwE en d l) : A.one (.d d) = true := by rcases h with ⟨rfl, _⟩ | rfl <;> rfl
end
def fiE (p : Eg → Bool) (O : List Eg) : Nat → Nat → Int
 | 0, _ => -1
 | j + 1, i => if p (O.getD i default) then (i : Int) else fiE p O j (i + 1)
theorem fiE_any (p : Eg → Bool) (O : List Eg) : ∀ j i : Nat, i + j = O.length → (decide (fiE p O j i ≥ 0) = (O.drop i).any p)
 | 0, i, h => by rw [List.drop_eq_nil_of_le (by omega)]; rfl
 | j + 1, i, h => by
  have hi : i < O.length := by omega
  rw [QcQ hi, List.any_cons, fiE]
  cases hp : p (O.getD i default) with
  | true => simp
  | false => simp only [Bool.false_eq_true, if_false, Bool.false_or]; exact fiE_any p O j (i + 1) (by omega)
variable [Its]
theorem Qmz {a b : Pt} {h : Int} (ha : SmP a) (hb : SmP b) (hh : h * h = (b.1 - a.1) * (b.1 - a.1) + (b.2 - a.2) * (b.2 - a.2)) (h0 : 0 < h) : Qaj G Qf2 [encP a, encP b] = some (.d (.tup [encD (nrP (b.1 - a.1) (b.2 - a.2) h), bv true])) := by
 rw [Qae (cf := convex_Norm) rfl]
 obtain ⟨ax, ay⟩ := a
 obtain ⟨bx, byy⟩ := b
 obtain ⟨h1, h2⟩ := ha
 obtain ⟨h3, h4⟩ := hb
 simp only [Sm] at h1 h2 h3 h4
 dsimp only at hh ⊢
 obtain ⟨dx, hdx⟩ : ∃ z, bx - ax = z := ⟨_, rfl⟩
 obtain ⟨dy, hdy⟩ : ∃ z, byy - ay = z := ⟨_, rfl⟩
 have e1 : w64 (bx - ax) = dx := by rw [Qac (by omega) (by omega), hdx]
 have e2 : w64 (byy - ay) = dy := by rw [Qac (by omega) (by omega), hdy]
 rw [hdx, hdy] at hh
 rw [hdx, hdy]
 have b1 : -200000000 ≤ dx ∧ dx ≤ 200000000 := by omega
 have b2 : -200000000 ≤ dy ∧ dy ≤ 200000000 := by omega
 clear hdx hdy h1 h2 h3 h4
 have sq : ∀ z : Int, -200000000 ≤ z ∧ z ≤ 200000000 → 0 ≤ z * z ∧ z * z ≤ 40000000000000000 := by
  intro z hz
  have h1 : (z * z).natAbs ≤ 200000000 * 200000000 := by
   rw [Int.natAbs_mul]
   exact Nat.mul_le_mul (by omega) (by omega)
  have h2 : 0 ≤ z * z := by
   rcases Int.le_total 0 z with h | h
   ·exact Int.mul_nonneg h h
   ·exact Int.mul_nonneg_of_nonpos_of_nonpos h h
  omega
 have q1 := sq dx b1
 have q2 := sq dy b2
 clear sq
 obtain ⟨p1, hp1⟩ : ∃ z, dx * dx = z := ⟨_, rfl⟩
 obtain ⟨p2, hp2⟩ : ∃ z, dy * dy = z := ⟨_, rfl⟩
 obtain ⟨s, hs⟩ : ∃ z, p1 + p2 = z := ⟨_, rfl⟩
 have e3 : w64 (dx * dx) = p1 := by rw [Qac (by omega) (by omega), hp1]
 have e4 : w64 (dy * dy) = p2 := by rw [Qac (by omega) (by omega), hp2]
 have e5 : w64 (p1 + p2) = s := by rw [Qac (by omega) (by omega), hs]
 rw [hp1, hp2, hs] at hh
 have hh2 : h < 1000000000 := by
  apply Classical.byContradiction
  intro hc
  have := Qlj (a := 1000000000) (b := h) (by omega) (by omega)
  omega
 have hI : I64 (s) := ⟨by omega, by omega⟩
 have hrt : IsRt h s := by
  refine ⟨by omega, by omega, ?_⟩
  have e : (h + 1) * (h + 1) = h * h + 2 * h + 1 := by grind
  omega
 have g1 := QhO hI
 have g2 := Root_spec (x := s) (Nat.le_trans (Qdg hI) (by omega)) (by omega) hrt
 have hhI : I64 h := ⟨by omega, by omega⟩
 have g4 := QoM (x := h) (Nat.le_trans (Qdg hhI) (by omega))
 rw [(QmN hhI).1, (QmN hhI).2] at g4
 rw [decide_eq_true hh] at g2
 have g7 := Qor (a := dx) (b := dy) (by omega) (by omega)
 have g8 := Qor (a := (Int.gcd dx dy : Int)) (b := h) (by
  have h1 : Int.gcd dx dy ≤ 200000000 := by
   by_cases hz : dx = 0
   ·subst hz; rw [Int.gcd_zero_left]; omega
   ·have := Nat.le_of_dvd (by omega) (Int.gcd_dvd_natAbs_left dx dy); omega
  omega) (by omega)
 have gp := g3_pos dx dy h0
 have e7 : (Int.gcd (Int.gcd dx dy) h : Int) = g3 dx dy h := rfl
 rw [e7] at g8
 unfold nrP
 obtain ⟨g, hg⟩ : ∃ g, g3 dx dy h = g := ⟨_, rfl⟩
 rw [hg] at g8 gp ⊢
 have e8 := QiB (b := g) (by omega)
 have e9 : w64 (0 - dx) = -dx := by rw [Qac (by omega) (by omega)]; omega
 have t1 := QjI dy gp
 have t2 := QjI (-dx) gp
 have t3 := QjI h gp
 have f1 : w64 (dy.tdiv g) = dy.tdiv g := Qac (by omega) (by omega)
 have f2 : w64 ((-dx).tdiv g) = (-dx).tdiv g := Qac (by omega) (by omega)
 have f3 : w64 (h.tdiv g) = h.tdiv g := Qac (by omega) (by omega)
 have f4 : (h == 0) = false := QdJ (by omega)
 clear t1 t2 t3 q1 q2
 have u1 := QbT (digs h.natAbs)
 simp only [encI, iv, bv] at g1 g2 g4 g7 g8
 generalize digs h.natAbs = dh at *
 generalize decide (h < 0) = sh at *
 simp -implicitDefEqProofs (maxSteps := 10000000) only [convex_Norm, toDs, encP, cP, encD, cD, QlZ, Qaf, Qab, Qaq, QaA, u1, g1, g2, g4, g7, g8, e1, e2, e3, e4, e5, e8, e9, f1, f2, f3, f4, Bool.not_true, Bool.not_false, go_sem, iv, bv, reduceCtorEq, ↓reduceIte, Nat.reduceEqDiff]


/-! ### Searching -/
section
variable {d : D} {O : List Eg} {f : Nat} {caps : List D} {p : Eg → Bool}
def QiE (d : D) (f : Nat) (caps : List D) (n i : Int) : St := mkS [(0, .d d), (1, .d (.fn f caps)), (7, ai n), (8, ai i)] []
theorem ixE_no (hr : RwE cG d O) (hn : O.length ≤ 1000000) {i : Nat} (hi : i < O.length) (hf : Qaj G f (encG (O.getD i default) :: caps) = some (.d (bv false))) : X G Qao (QiE d f caps O.length i) = some (.n, QiE d f caps O.length ((i + 1 : Nat) : Int)) := by
 have e1 : decide ((i : Int) < (O.length : Int)) = true := lt_t (by omega)
 have e2 : w64 ((i : Int) + 1) = ((i + 1 : Nat) : Int) := by rw [Qac (by omega) (by omega)]; rfl
 have x1 := hr.ixa Qeb hi
 have x2 := fun hp => ldE Qeb hp hi
 generalize O.getD i default = e at *
 obtain ⟨⟨a, b, c⟩, t⟩ := e
 simp only [encG, cG, iv, bv] at hf x2
 simp -implicitDefEqProofs (maxSteps := 10000000) only [Qao, QiE, x1, x2, e1, e2, hf, List.cons_append, List.nil_append, go_sem, iv, bv, reduceCtorEq, ↓reduceIte, Nat.reduceEqDiff]
theorem ixE_yes (hr : RwE cG d O) (hn : O.length ≤ 1000000) {i : Nat} (hi : i < O.length) (hf : Qaj G f (encG (O.getD i default) :: caps) = some (.d (bv true))) : X G Qao (QiE d f caps O.length i) = some (.r, mkS [(4, ai i)] []) := by
 have e1 : decide ((i : Int) < (O.length : Int)) = true := lt_t (by omega)
 have x1 := hr.ixa Qeb hi
 have x2 := fun hp => ldE Qeb hp hi
 generalize O.getD i default = e at *
 obtain ⟨⟨a, b, c⟩, t⟩ := e
 simp only [encG, cG, iv, bv] at hf x2
 simp -implicitDefEqProofs (maxSteps := 10000000) only [Qao, QiE, x1, x2, e1, hf, List.cons_append, List.nil_append, go_sem, iv, bv, reduceCtorEq, ↓reduceIte, Nat.reduceEqDiff]
theorem ixE_stop : X G Qao (QiE d f caps O.length O.length) = some (.x 0, mkS [] []) := by
 have e1 : decide ((O.length : Int) < (O.length : Int)) = false := lt_f (by omega)
 simp -implicitDefEqProofs (maxSteps := 10000000) only [Qao, QiE, e1, go_sem, iv, bv, reduceCtorEq, ↓reduceIte, Nat.reduceEqDiff]
theorem QqZ      (hr : RwE cG d O) (hn : O.length ≤ 1000000) (hf : ∀ i, i < O.length → Qaj   G f (encG (O.getD i default) :: caps) = some (.d (bv (p (O.getD i default))))) : ∀ j i : Nat, i + j = O.length →
    X G (.loop Qao) (QiE d f caps O.length i) = (if fiE p O j i = -1 then some (.x 0, mkS [] []) else some (.r, mkS [(4, ai (fiE p O j i))] []))
  | 0, i, h => by
    have : i = O.length := by omega
    subst this
    rw [Qah, ixE_stop]; rfl
  | j + 1, i, h => by
    have hi : i < O.length := by omega
    have hh := hf i hi
    rw [fiE]
    cases hp : p (O.getD i default) with
    | true =>
      rw [hp] at hh
      rw [Qah, ixE_yes hr hn hi hh, if_pos rfl, if_neg (by omega)]; rfl
    | false =>
      rw [hp] at hh
      simp only [Bool.false_eq_true, if_false]
      rw [Qah, ixE_no hr hn hi hh, Option.bind_some, if_pos rfl]
      exact QqZ hr hn hf j (i + 1) (by omega)
theorem QlO (hr : RwE cG d O) (hn : O.length ≤ 1000000) (hf : ∀ i, i < O.length → Qaj G f (encG (O.getD i default) :: caps) = some (.d (bv (p (O.getD i default))))) : Qaj G QbB [d, .fn f caps] = some (.d (iv (fiE p O O.length 0))) := by
 rw [Qae (cf := slices_IndexFunc_api_Edge_api_Edge) rfl]
 have ll := hr.len
 have h := QqZ hr hn hf O.length 0 (by omega)
 simp only [QiE, go_sem, nc0] at h
 generalize fiE p O O.length 0 = z at *
 by_cases hz : z = -1
 ·subst hz
  simp only [if_true] at h
  simp -implicitDefEqProofs (maxSteps := 10000000) only [slices_IndexFunc_api_Edge_api_Edge, h, ll, go_sem, iv, bv, reduceCtorEq, ↓reduceIte, Nat.reduceEqDiff]
 ·rw [if_neg hz] at h
  simp -implicitDefEqProofs (maxSteps := 10000000) only [slices_IndexFunc_api_Edge_api_Edge, h, ll, go_sem, iv, bv, reduceCtorEq, ↓reduceIte, Nat.reduceEqDiff]
end
theorem Qjl {d : D} {O : List Eg} {f : Nat} {caps : List D} {p : Eg → Bool} (hr : RwE cG d O) (hn : O.length ≤ 1000000) (hf : ∀ i, i < O.length → Qaj G f (encG (O.getD i default) :: caps) = some (.d (bv (p (O.getD i default))))) : Qaj G Qas [d, .fn f caps] = some (.d (bv (O.any p))) := by
 rw [Qae (cf := slices_ContainsFunc_api_Edge_api_Edge) rfl]
 have g := QlO hr hn hf
 have e1 := fiE_any p O O.length 0 (by omega)
 rw [List.drop_zero] at e1
 generalize fiE p O O.length 0 = z at *
 generalize O.any p = t at *
 simp only [iv] at g
 simp -implicitDefEqProofs (maxSteps := 10000000) only [slices_ContainsFunc_api_Edge_api_Edge, g, e1, go_sem, iv, bv, reduceCtorEq, ↓reduceIte, Nat.reduceEqDiff]
theorem Qn9 (e : Eg) (d : Dr) : Qaj G QcB [encG e, .rp (cD d)] = some (.d (bv (eqDr e.1 d))) := by
 rw [Qae (cf := convex_Sides_1_1) rfl]
 obtain ⟨⟨a, b, c⟩, t⟩ := e
 obtain ⟨x, y, z⟩ := d
 have e3 := eqD3 a b c x y z
 unfold eqDr
 dsimp only
 obtain ⟨q, hq⟩ : ∃ q, ((a == x) && ((b == y) && (c == z))) = q := ⟨_, rfl⟩
 rw [hq] at e3 ⊢
 have l1 : ∀ h : Hp, Qab (some 3) 0 [.d (iv a), .d (iv b), .d (iv c), .d (iv t)] = some (.d (.agg [iv a, iv b, iv c])) := fun _ => rfl
 have l2 := l1 hp0
 simp only [iv] at l2
 simp -implicitDefEqProofs (maxSteps := 10000000) only [convex_Sides_1_1, encG, cG, cD, e3, hq, l2, ldrp3, go_sem, iv, bv, reduceCtorEq, ↓reduceIte, Nat.reduceEqDiff]
end Go.AM

/- gap: Stays, Free, Meet, greatest, Best, Contact. -/
namespace Go.AM
open Go Go.RowKit
def veR (p : List Rat) : Rat := -(p.getD 1 0) / (p.getD 2 0 * 2)
def staG (p : List Rat) : Bool :=
 if decide (evR p 0 < 0) || decide (evR p 1 < 0) then false
 else if decide (p.length < 3) || decide (p.getD 2 0 < 0) then true
 else decide (veR p ≤ 0) || decide (1 ≤ veR p) || decide (0 ≤ evR p (veR p))
theorem sign_le {x : Rat} : decide (Int.sign x.num ≤ 0) = decide (x ≤ 0) := by
 have h := QlN (x := x)
 rw [Bool.eq_iff_iff, decide_eq_true_iff, decide_eq_true_iff] at *
 constructor
 ·intro h1
  exact Rat.not_lt.1 fun h2 => by have := h.2 h2; omega
 ·intro h1
  exact Int.not_lt.1 fun h2 => Rat.not_lt.2 h1 (h.1 h2)
theorem cmpR_ge {a b : Rat} : decide (cmpR a b ≥ 0) = decide (b ≤ a) := by
 have h := cmpR_lt (a := a) (b := b)
 rw [Bool.eq_iff_iff, decide_eq_true_iff, decide_eq_true_iff]
 constructor
 ·intro h1
  exact Rat.not_lt.1 fun h2 => by have := h.2 h2; omega
 ·intro h1
  exact Int.not_lt.1 fun h2 => Rat.not_lt.2 h1 (h.1 h2)
theorem cmpR_gt {a b : Rat} : decide (cmpR a b > 0) = decide (b < a) := by
 have h := cmpR_le (a := a) (b := b)
 rw [Bool.eq_iff_iff, decide_eq_true_iff, decide_eq_true_iff]
 constructor
 ·intro h1
  exact Rat.not_le.1 fun h2 => by have := h.2 h2; omega
 ·intro h1
  exact Int.not_le.1 fun h2 => Rat.not_le.2 h1 (h.1 h2)
theorem tupG : A.bool? (.d (.v (.tuple #[]))) = none := rfl
theorem box4g (a b c d : D) : Qaf 0 [.d a, .d b, .d c, .d d] [.d (.v (.int .i64 0)), .d (.v (.int .i64 0)), .d (.v (.int .i64 0)), .d (.v (.int .i64 0))] = some [.d a, .d b, .d c, .d d] := rfl
theorem Qky {x : Rat} : (Int.sign x.num == 0) = decide (x = 0) := by
 rw [Bool.eq_iff_iff, beq_iff_eq, decide_eq_true_iff, Int.sign_eq_zero_iff_zero]
 exact Rat.num_eq_zero
def grS (f : Eg → Rat × Bool) (O : List Eg) : Nat → Int × Rat
 | 0 => (-1, 0)
 | i + 1 => if (f (O.getD i default)).2 && (decide ((grS f O i).1 < 0) || decide ((grS f O i).2 < (f (O.getD i default)).1)) then ((i : Int), (f (O.getD i default)).1) else grS f O i
def bxR4 (q : Rat) : Obj := ⟨0, 0, [.d (.v (.bool (decide (q.num < 0)))), .d (dg (digs q.num.natAbs)), .d (.v (.bool false)), .d (dg (dd q.den))], false⟩
def Qhr (d : D) (f : Nat) (caps : List D) (b : Int) (q : Rat) (n i : Int) : St := mkS [(1, .d (.fn f caps)), (5, ai b), (6, .ptr [6] 0), (11, .d d), (12, ai n), (13, ai i)] [([6], bxR4 q)]
theorem grS_sz {f : Eg → Rat × Bool} {O : List Eg} {K : Nat} (hK : 1 ≤ K) (h : ∀ i, i < O.length → sz (f (O.getD i default)).1 ≤ K) : ∀ i, i ≤ O.length → sz (grS f O i).2 ≤ K
 | 0, _ => by rw [grS, Qjg]; exact hK
 | i + 1, hi => by
  rw [grS]
  split
  ·exact h i (by omega)
  ·exact grS_sz hK h i (by omega)
theorem ixp2 {d : D} {l : List Rat} (hr : RwR d l) (h : 2 < l.length) (hp : Hp) : ixaA hp 4 2 (.d d) = some (.d (.rp (cRs (l.drop 2)))) := hr.ixa (j := 2) h hp
theorem ixp1 {d : D} {l : List Rat} (hr : RwR d l) (h : 1 < l.length) (hp : Hp) : ixaA hp 4 1 (.d d) = some (.d (.rp (cRs (l.drop 1)))) := hr.ixa (j := 1) h hp
theorem ldV8 (hp : Hp) (a b c d e f g h : D) : QcF hp (some 8) (.d (.rp [a, b, c, d, e, f, g, h])) = some (.d (.agg [a, b, c, d, e, f, g, h])) := rfl
def cV (v : Vc) : List D := [.v (.bool (decide (v.1.num < 0))), dg (digs v.1.num.natAbs), .v (.bool false), dg (dd v.1.den), .v (.bool (decide (v.2.num < 0))), dg (digs v.2.num.natAbs), .v (.bool false), dg (dd v.2.den)]
theorem i64_2' : I64 2 := ⟨by omega, by omega⟩
theorem egm {l : List Eg} {i : Nat} (h : i < l.length) : l.getD i default ∈ l := by rw [List.getD_eq_getElem?_getD, List.getElem?_eq_getElem h]; exact List.getElem_mem h
section
variable [Its]
theorem QpQ [ItsB] {d : D} {p : List Rat} {K : Nat} (hr : RwR d p) (sp : SzL K p) (hK1 : 3 ≤ K) (hK : K ≤ 100000000) (hl : p.length ≤ 3) (ht : Trm p) : Qaj G Qls [d] = some (.d (bv (staG p))) := by
 rw [Qae (cf := gap_Stays) rfl]
 have sl : ∀ q ∈ p, sz q ≤ 3 * K := fun q hq => by have := sp q hq; omega
 have s0 : sz 0 ≤ 3 * K := by rw [Qjg]; omega
 have s1 : sz 1 ≤ 3 * K := by rw [sz_one_]; omega
 have hb : p.length * (2 * (3 * K) + 1) ≤ 3 * (2 * (3 * K) + 1) := Nat.mul_le_mul_right _ hl
 have g0 := Qh7 hr s0 (by omega) sl (by omega)
 have g1 := Qh7 hr s1 (by omega) sl (by omega)
 have o1 := Qb9 Qeg Qeg
 rw [QcR, show ((1 : Int) : Rat) = 1 from rfl] at o1
 have h0 := QaQ (evR p 0)
 have h1 := QaQ (evR p 1)
 have t0 := QnG (x := evR p 0)
 have t1 := QnG (x := evR p 1)
 have ll := hr.len
 unfold staG
 rw [Qd3] at g0
 have tc : decide (cmpR (veR p) 1 ≥ 0) = decide (1 ≤ veR p) := cmpR_ge
 by_cases h3 : 2 < p.length
 ·have hlen : p.length = 3 := by omega
  have nz : p.getD 2 0 ≠ 0 := ht 2 hlen
  have x1 := ixp1 hr (by omega)
  have x2 := ixp2 hr h3
  have y1 := fun hp => ldR hp p (j := 1) (by omega)
  have y2 := fun hp => ldR hp p (j := 2) (by omega)
  have z1 := sp.getD (by omega) 1
  have z2 := sp.getD (by omega) 2
  have o2 := Qb9 i64_2' Qeg
  rw [QcR, show ((2 : Int) : Rat) = 2 from rfl] at o2
  have n1 := Qlc (p.getD 1 0)
  have k2 := sz_two
  have n2 := QcE (a := p.getD 2 0) (b := 2) (by omega) (by omega)
  have k3 := Qe6 (a := p.getD 2 0) (b := 2)
  have k4 := Qq3 (p.getD 1 0)
  have n3 := QkP (a := -(p.getD 1 0)) (b := p.getD 2 0 * 2) (by omega) (by omega)
  have k5 := Qry (a := -(p.getD 1 0)) (b := p.getD 2 0 * 2)
  have ev : -(p.getD 1 0) / (p.getD 2 0 * 2) = veR p := rfl
  rw [ev] at n3 k5
  have g3 := Qh7 (x := veR p) (K := 3 * K) hr (by omega) (by omega) sl (by omega)
  have h2 := QaQ (p.getD 2 0)
  have t2 := QnG (x := p.getD 2 0)
  have h4 := QaQ (veR p)
  have t4 := sign_le (x := veR p)
  have h5 := Qfa (a := veR p) (b := 1) (by omega) (by omega)
  have h6 := QaQ (evR p (veR p))
  have t6 := Qk5 (x := evR p (veR p))
  have tl : decide (((p.length : Nat) : Int) < 3) = false := lt_f (by omega)
  have tl2 : decide (p.length < 3) = false := decide_eq_false (by omega)
  rw [tl2]
  clear ev k2 k3 k4 k5 z1 z2 nz hlen h3 hb sl sp hr s0 s1 tl2
  generalize decide (evR p 0 < 0) = b0 at *
  generalize decide (evR p 1 < 0) = b1 at *
  generalize decide (p.getD 2 0 < 0) = b2 at *
  generalize decide (veR p ≤ 0) = b4 at *
  generalize decide (1 ≤ veR p) = b5 at *
  generalize decide (0 ≤ evR p (veR p)) = b6 at *
  generalize cmpR (veR p) 1 = c5 at *
  generalize evR p (veR p) = r6 at *
  generalize veR p = r4 at *
  generalize evR p 0 = r0 at *
  generalize evR p 1 = r1 at *
  generalize p.getD 2 0 * 2 = r7 at *
  generalize p.getD 2 0 = r8 at *
  generalize -(p.getD 1 0) = r9 at *
  generalize p.getD 1 0 = r10 at *
  simp only [encR, iv, bv] at *
  cases b0 with
  | true => simp -implicitDefEqProofs (maxSteps := 10000000) only [gap_Stays, o1, g0, h0, t0, st4', QdR, QbT, Qaq, QaA, decide_true, decide_false, tupG, QcG, Qbl, Bool.true_or, if_true, Qaa, go_sem, iv, bv, reduceCtorEq, ↓reduceIte, Nat.reduceEqDiff]
  | false =>
   cases b1 with
   | true => simp -implicitDefEqProofs (maxSteps := 10000000) only [gap_Stays, o1, g0, g1, h0, h1, t0, t1, st4', QdR, QbT, Qaq, QaA, decide_true, decide_false, tupG, QcG, Qbl, Bool.false_or, if_true, Qaa, go_sem, iv, bv, reduceCtorEq, ↓reduceIte, Nat.reduceEqDiff]
   | false =>
    cases b2 with
    | true => simp -implicitDefEqProofs (maxSteps := 10000000) only [gap_Stays, o1, g0, g1, h0, h1, h2, t0, t1, t2, tl, ll, x2, y2, st4', QdR, QbT, Qaq, QaA, decide_true, decide_false, tupG, QcG, Qbl, Bool.false_or, Bool.or_self, Bool.false_eq_true, if_false, if_true, Qaa, go_sem, iv, bv, reduceCtorEq, ↓reduceIte, Nat.reduceEqDiff]
    | false =>
     cases b4 with
     | true => simp -implicitDefEqProofs (maxSteps := 10000000) only [gap_Stays, o1, o2, g0, g1, h0, h1, h2, h4, t0, t1, t2, t4, tl, ll, x1, x2, y1, y2, n1, n2, n3, st4', QdR, QbT, Qaq, QaA, decide_true, decide_false, tupG, QcG, Qbl, Bool.true_or, Bool.false_or, Bool.or_self, Bool.false_eq_true, if_false, if_true, Qaa, go_sem, iv, bv, reduceCtorEq, ↓reduceIte, Nat.reduceEqDiff]
     | false =>
      cases b5 with
      | true => simp -implicitDefEqProofs (maxSteps := 10000000) only [gap_Stays, o1, o2, g0, g1, h0, h1, h2, h4, h5, t0, t1, t2, t4, tc, tl, ll, x1, x2, y1, y2, n1, n2, n3, st4', QdR, QbT, Qaq, QaA, decide_true, decide_false, tupG, QcG, Qbl, Bool.true_or, Bool.false_or, Bool.or_self, Bool.false_eq_true, if_false, if_true, Qaa, go_sem, iv, bv, reduceCtorEq, ↓reduceIte, Nat.reduceEqDiff]
      | false => simp -implicitDefEqProofs (maxSteps := 10000000) only [gap_Stays, o1, o2, g0, g1, g3, h0, h1, h2, h4, h5, h6, t0, t1, t2, t4, t6, tc, tl, ll, x1, x2, y1, y2, n1, n2, n3, st4', QdR, QbT, Qaq, QaA, decide_true, decide_false, tupG, QcG, Qbl, Bool.true_or, Bool.false_or, Bool.or_self, Bool.false_eq_true, if_false, if_true, Qaa, go_sem, iv, bv, reduceCtorEq, ↓reduceIte, Nat.reduceEqDiff]
 ·have tl : decide (((p.length : Nat) : Int) < 3) = true := lt_t (by omega)
  have tl2 : decide (p.length < 3) = true := decide_eq_true (by omega)
  rw [tl2]
  clear hb sl sp hr s0 s1 tl2 tc
  generalize decide (evR p 0 < 0) = b0 at *
  generalize decide (evR p 1 < 0) = b1 at *
  generalize evR p 0 = r0 at *
  generalize evR p 1 = r1 at *
  simp only [encR, iv, bv] at *
  cases b0 with
  | true => simp -implicitDefEqProofs (maxSteps := 10000000) only [gap_Stays, o1, g0, h0, t0, st4', QdR, QbT, Qaq, QaA, decide_true, decide_false, tupG, QcG, Qbl, Bool.true_or, if_true, Qaa, go_sem, iv, bv, reduceCtorEq, ↓reduceIte, Nat.reduceEqDiff]
  | false =>
   cases b1 with
   | true => simp -implicitDefEqProofs (maxSteps := 10000000) only [gap_Stays, o1, g0, g1, h0, h1, t0, t1, st4', QdR, QbT, Qaq, QaA, decide_true, decide_false, tupG, QcG, Qbl, Bool.false_or, if_true, Qaa, go_sem, iv, bv, reduceCtorEq, ↓reduceIte, Nat.reduceEqDiff]
   | false => simp -implicitDefEqProofs (maxSteps := 10000000) only [gap_Stays, o1, g0, g1, h0, h1, t0, t1, tl, ll, st4', QdR, QbT, Qaq, QaA, decide_true, decide_false, tupG, QcG, Qbl, Bool.true_or, Bool.false_or, Bool.or_self, Bool.false_eq_true, if_false, if_true, Qaa, go_sem, iv, bv, reduceCtorEq, ↓reduceIte, Nat.reduceEqDiff]
theorem Qr7 [ItsB] {e : Eg} {r v a : Vc} {K : Nat} (hK : K ≤ 10000000) (he : AtE e) (hr : SzV K r) (hv : SzV K v) (ha : SzV K a) : Qaj G QgA [encG e, .rp (cV r), .rp (cV v), .rp (cV a)] = some (.d (bv (staG (alP e r v a)))) := by
 rw [Qae (cf := gap_Free_1) rfl]
 obtain ⟨d', hd', g1⟩ := QmH (by omega) he hr hv ha
 have hs := (Qqh he hr hv ha).trim
 have hln : (alP e r v a).length ≤ 3 := Nat.le_trans (Qih _) (by simp [alL])
 have g2 := QpQ hd' (hs.mono (L := 2 * K + 14) (by omega)) (by omega) (by omega) hln (QqL _)
 generalize staG (alP e r v a) = t at *
 clear hs hln hd' he hr hv ha
 obtain ⟨⟨a1, b1, c1⟩, t1⟩ := e
 obtain ⟨x1, y1⟩ := r
 obtain ⟨x2, y2⟩ := v
 obtain ⟨x3, y3⟩ := a
 simp only [encG, cG, encV, iv, bv] at g1 g2
 simp -implicitDefEqProofs (maxSteps := 10000000) only [gap_Free_1, encG, cG, cV, ldV8, g1, g2, QdR, QbT, Qaq, QaA, go_sem, iv, bv, reduceCtorEq, ↓reduceIte, Nat.reduceEqDiff]
theorem QpD [ItsB] {d : D} {O : List Eg} {r v a : Vc} {K : Nat} (hO : RwE cG d O) (hn : O.length ≤ 1000) (hK : K ≤ 10000000) (he : ∀ e ∈ O, AtE e) (hr : SzV K r) (hv : SzV K v) (ha : SzV K a) : Qaj G QdO [d, encV r, encV v, encV a] = some (.d (iv (fiE (fun e => staG (alP e r v a)) O O.length 0))) := by
 rw [Qae (cf := gap_Free) rfl]
 have g := QlO (f := QgA) (caps := [.rp (cV r), .rp (cV v), .rp (cV a)]) (p := fun e => staG (alP e r v a)) hO (by omega) (fun i hi => Qr7 hK (he _ (egm hi)) hr hv ha)
 generalize fiE _ O O.length 0 = z at *
 clear hr hv ha
 obtain ⟨x1, y1⟩ := r
 obtain ⟨x2, y2⟩ := v
 obtain ⟨x3, y3⟩ := a
 simp only [cV, iv] at g
 simp -implicitDefEqProofs (maxSteps := 10000000) only [gap_Free, encV, g, QbT, Qaq, QaA, toDs, allD, snap, Qcy, go_sem, iv, bv, reduceCtorEq, ↓reduceIte, Nat.reduceEqDiff]
theorem Qsr {e : Eg} {r : Vc} {K : Nat} (hK : K ≤ 10000000) (he : AtE e) (hr : SzV K r) : Qaj G Qgy [encG e, .rp (cV r)] = some (.d (bv (decide (0 ≤ gpR e r)))) := by
 rw [Qae (cf := gap_Meet_1) rfl]
 have g1 := Qdq (by omega) he hr
 have g2 := QaQ (gpR e r)
 rw [← Qk5]
 generalize gpR e r = q at *
 generalize Int.sign q.num = s at *
 clear he hr
 obtain ⟨⟨a1, b1, c1⟩, t1⟩ := e
 obtain ⟨x1, y1⟩ := r
 simp only [encG, cG, encV, encR, iv, bv] at g1 g2
 simp -implicitDefEqProofs (maxSteps := 10000000) only [gap_Meet_1, encG, cG, cV, ldV8, g1, g2, QdR, QbT, Qaq, QaA, go_sem, iv, bv, reduceCtorEq, ↓reduceIte, Nat.reduceEqDiff]
def meG (O : List Eg) (r : Vc) : Bool := !(O.any fun e => decide (0 ≤ gpR e r))
theorem QkJ {d : D} {O : List Eg} {r : Vc} {K : Nat} (hO : RwE cG d O) (hn : O.length ≤ 1000) (hK : K ≤ 10000000) (he : ∀ e ∈ O, AtE e) (hr : SzV K r) : Qaj G Qdu [d, encV r] = some (.d (bv (meG O r))) := by
 rw [Qae (cf := gap_Meet) rfl]
 have g := Qjl (f := Qgy) (caps := [.rp (cV r)]) (p := fun e => decide (0 ≤ gpR e r)) hO (by omega) (fun i hi => Qsr hK (he _ (egm hi)) hr)
 unfold meG
 generalize O.any _ = z at *
 clear hr
 obtain ⟨x1, y1⟩ := r
 simp only [cV, iv, bv] at g
 simp -implicitDefEqProofs (maxSteps := 10000000) only [gap_Meet, encV, g, QbT, Qaq, QaA, toDs, allD, snap, Qcy, go_sem, iv, bv, reduceCtorEq, ↓reduceIte, Nat.reduceEqDiff]
section
variable {d : D} {O : List Eg} {f : Nat} {caps : List D} {F : Eg → Rat × Bool} {K : Nat}
theorem grt_go (hr : RwE cG d O) (hn : O.length ≤ 1000) (hK : K ≤ 10000000000) (hf : ∀ i, i < O.length → Qaj   G f (encG (O.getD i default) :: caps) = some (.d (.tup [encR (F (O.getD i default)).1, bv (F (O.getD i default)).2])) ∧ sz (F (O.getD i default)).1 ≤ K) {b : Int} {q : Rat} (hq : sz q ≤ K) {i : Nat} (hi : i < O.length) :
    X G QaL (Qhr d f caps b q O.length i) = some (.n, if (F (O.getD i default)).2 && (decide (b < 0) || decide (q < (F (O.getD i default)).1)) then Qhr d f caps i (F (O.getD i default)).1 O.length ((i + 1 : Nat) : Int) else Qhr d f caps b q O.length ((i + 1 : Nat) : Int)) := by
  have e1 : decide ((i : Int) < (O.length : Int)) = true := lt_t (by omega)
  have e2 : w64 ((i : Int) + 1) = ((i + 1 : Nat) : Int) := by rw [Qac (by omega) (by omega)]; rfl
  have x1 := hr.ixa Qeb hi
  have x2 := fun hp => ldE Qeb hp hi
  obtain ⟨g, hz⟩ := hf i hi
  clear hf
  generalize O.getD i default = e at *
  have c1 := Qfa (a := (F e).1) (b := q) (by omega) (by omega)
  have c2 := cmpR_gt (a := (F e).1) (b := q)
  generalize (F e).2 = h at *
  generalize (F e).1 = y at *
  generalize decide (q < y) = u at *
  generalize cmpR y q = c at *
  clear hz hq
  obtain ⟨⟨e1', e2', e3'⟩, e4'⟩ := e
  simp only [encG, cG, encR, iv, bv] at x2 g c1
  cases h with
  | false =>
    simp -implicitDefEqProofs (maxSteps := 10000000) only [QaL, Qhr, bxR4, e1, e2, x1, x2, g, st4', QdR, box4g, List.cons_append, List.nil_append, QbT, Qaq, QaA, decide_true, decide_false, tupG, Bool.false_and, Bool.false_eq_true, if_false, Qaa, go_sem, iv, bv, reduceCtorEq, ↓reduceIte, Nat.reduceEqDiff]
  | true =>
    by_cases hb : b < 0
    · have t1 : decide (b < 0) = true := lt_t hb
      simp -implicitDefEqProofs (maxSteps := 10000000) only [QaL, Qhr, bxR4, e1, e2, t1, x1, x2, g, st4', QdR, box4g, List.cons_append, List.nil_append, QbT, Qaq, QaA, decide_true, decide_false, tupG, Bool.true_or, Bool.and_self, Bool.true_and, if_true, Qaa, go_sem, iv, bv, reduceCtorEq, ↓reduceIte, Nat.reduceEqDiff]
    · have t1 : decide (b < 0) = false := lt_f (by omega)
      cases u
      all_goals simp -implicitDefEqProofs (maxSteps := 10000000) only [QaL, Qhr, bxR4, e1, e2, t1, x1, x2, g, c1, c2, st4', QdR, box4g, List.cons_append, List.nil_append, QbT, Qaq, QaA, decide_true, decide_false, tupG, Bool.false_or, Bool.and_self, Bool.true_and, Bool.and_false, Bool.false_eq_true, if_false, if_true, Qaa, go_sem, iv, bv, reduceCtorEq, ↓reduceIte, Nat.reduceEqDiff]
theorem grt_stop {b : Int} {q : Rat} : X G QaL (Qhr d f caps b q O.length O.length) = some (.x 0, mkS [(5, ai b)] []) := by
 have e1 : decide ((O.length : Int) < (O.length : Int)) = false := lt_f (by omega)
 simp -implicitDefEqProofs (maxSteps := 10000000) only [QaL, Qhr, bxR4, e1, QbT, Qaq, QaA, Qaa, go_sem, iv, bv, reduceCtorEq, ↓reduceIte, Nat.reduceEqDiff]
theorem Qrm      (hr : RwE cG d O) (hn : O.length ≤ 1000) (hK1 : 1 ≤ K) (hK : K ≤ 10000000000) (hf : ∀ i, i < O.length → Qaj   G f (encG (O.getD i default) :: caps) = some (.d (.tup [encR (F (O.getD i default)).1, bv (F (O.getD i default)).2])) ∧ sz (F (O.getD i default)).1 ≤ K) : ∀ (j i : Nat), i + j = O.length →
    X G (.loop QaL) (Qhr d f caps (grS F O i).1 (grS F O i).2 O.length i) = some (.x 0, mkS [(5, ai (grS F O O.length).1)] [])
  | 0, i, h => by
    have : i = O.length := by omega
    subst this
    rw [Qah, grt_stop]; rfl
  | j + 1, i, h => by
    have ih := Qrm hr hn hK1 hK hf j (i + 1) (by omega)
    rw [Qah, grt_go hr hn hK hf (grS_sz hK1 (fun i hi => (hf i hi).2) i (by omega)) (by omega), Option.bind_some, if_pos rfl, ← ih, grS]
    split <;> rfl
theorem Qmk        (hr : RwE cG d O) (hn : O.length ≤ 1000) (hK1 : 1 ≤ K) (hK : K ≤ 10000000000) (hf : ∀ i, i < O.length → Qaj   G f (encG (O.getD i default) :: caps) = some (.d (.tup [encR (F (O.getD i default)).1, bv (F (O.getD i default)).2])) ∧ sz (F (O.getD i default)).1 ≤ K) :
    Qaj G QcY [d, .fn f caps] = some (.d (iv (grS F O O.length).1)) := by
  rw [Qae (cf := gap_greatest_api_Edge) rfl]
  have ll := hr.len
  have g := Qrm hr hn hK1 hK hf O.length 0 (by omega)
  have e0 : grS F O 0 = (-1, 0) := rfl
  have e1 : bxR4 0 = ⟨0, 0, [.d (.v (.bool false)), .d (.z true), .d (.v (.bool false)), .d (.z true)], false⟩ := by
    have := Qd3
    simp only [encR, D.agg.injEq, List.cons.injEq] at this
    obtain ⟨h1, h2, h3, h4, _⟩ := this
    unfold bxR4
    rw [h1, h2, h4]
  rw [e0] at g
  simp only [Qhr, e1, nc0, go_sem] at g
  generalize (grS F O O.length).1 = z at *
  simp -implicitDefEqProofs (maxSteps := 10000000) only [gap_greatest_api_Edge, g, ll, Qaa, go_sem, iv, bv, reduceCtorEq, ↓reduceIte, Nat.reduceEqDiff]
end
theorem QsF {e : Eg} {r v : Vc} {K : Nat} (hK : K ≤ 10000000) (he : AtE e) (hr : SzV K r) (hv : SzV K v) : Qaj G QgH [encG e, .rp (cV v), .rp (cV r)] = some (.d (.tup [encR (gpR e v), bv (decide (0 ≤ gpR e r))])) := by
 rw [Qae (cf := gap_Best_1) rfl]
 have g1 := Qdq (by omega) he hr
 have g3 := Qdq (by omega) he hv
 have g2 := QaQ (gpR e r)
 rw [← Qk5]
 generalize gpR e v = q2 at *
 generalize gpR e r = q at *
 generalize Int.sign q.num = s at *
 clear he hr hv
 obtain ⟨⟨a1, b1, c1⟩, t1⟩ := e
 obtain ⟨x1, y1⟩ := r
 obtain ⟨x2, y2⟩ := v
 simp only [encG, cG, encV, encR, iv, bv] at g1 g2 g3
 simp -implicitDefEqProofs (maxSteps := 10000000) only [gap_Best_1, encG, cG, cV, encR, ldV8, g1, g2, g3, QdR, st4', QbT, Qaq, QaA, allD, toDs, go_sem, iv, bv, reduceCtorEq, ↓reduceIte, Nat.reduceEqDiff]
def beG (O : List Eg) (r v : Vc) : Int := (grS (fun e => (gpR e v, decide (0 ≤ gpR e r))) O O.length).1
theorem Best_spec {d : D} {O : List Eg} {r v : Vc} {K : Nat} (hO : RwE cG d O) (hn : O.length ≤ 1000) (hK : K ≤ 10000000) (he : ∀ e ∈ O, AtE e) (hr : SzV K r) (hv : SzV K v) : Qaj G QfH [d, encV r, encV v] = some (.d (iv (beG O r v))) := by
 rw [Qae (cf := gap_Best) rfl]
 have g := Qmk (f := QgH) (caps := [.rp (cV v), .rp (cV r)]) (F := fun e => (gpR e v, decide (0 ≤ gpR e r))) (K := 2 * K + 14) hO hn (by omega) (by omega) (fun i hi => ⟨QsF hK (he _ (egm hi)) hr hv, QqS (he _ (egm hi)) hv⟩)
 have e : (grS (fun e => (gpR e v, decide (0 ≤ gpR e r))) O O.length).1 = beG O r v := rfl
 rw [e] at g
 generalize beG O r v = z at *
 clear hr hv e
 obtain ⟨x1, y1⟩ := r
 obtain ⟨x2, y2⟩ := v
 simp only [cV, iv] at g
 simp -implicitDefEqProofs (maxSteps := 10000000) only [gap_Best, encV, g, QbT, Qaq, QaA, toDs, allD, snap, Qcy, go_sem, iv, bv, reduceCtorEq, ↓reduceIte, Nat.reduceEqDiff]
def opB (r v : Vc) (e : Eg) : Bool := decide (0 < gpR e r) || (decide (gpR e r = 0) && decide (0 < rtR e.1 v))
theorem QsI {e : Eg} {r v : Vc} {K : Nat} (hK : K ≤ 10000000) (he : AtE e) (hr : SzV K r) (hv : SzV K v) : Qaj G Qe7 [encG e, .rp (cV r), .rp (cV v)] = some (.d (bv (opB r v e))) := by
  rw [Qae (cf := gap_Contact_1) rfl]
  have g1 := Qdq (by omega) he hr
  have g3 := QgB (by omega) he.1 hv
  have g2 := QaQ (gpR e r)
  have g4 := QaQ (rtR e.1 v)
  have t1 := QlN (x := gpR e r)
  have t2 := Qky (x := gpR e r)
  have t3 := QlN (x := rtR e.1 v)
  unfold opB
  generalize decide (0 < gpR e r) = b1 at *
  generalize decide (gpR e r = 0) = b2 at *
  generalize decide (0 < rtR e.1 v) = b3 at *
  generalize rtR e.1 v = q2 at *
  generalize gpR e r = q at *
  generalize Int.sign q.num = s at *
  generalize Int.sign q2.num = s2 at *
  clear he hr hv
  obtain ⟨⟨a1, c1, d1⟩, f1⟩ := e
  obtain ⟨x1, y1⟩ := r
  obtain ⟨x2, y2⟩ := v
  simp only [encG, cG, encD, cD, encV, encR, iv, bv] at g1 g2 g3 g4
  cases b1
  · cases b2
    all_goals simp -implicitDefEqProofs (maxSteps := 10000000) only [gap_Contact_1, encG, cG, cV, ldV8, g1, g2, g3, g4, t1, t2, t3, QdR, QpH, st4', QbT, Qaq, QaA, decide_true, decide_false, tupG, Bool.false_or, Bool.true_and, Bool.false_and, go_sem, iv, bv, reduceCtorEq, ↓reduceIte, Nat.reduceEqDiff]
  · simp -implicitDefEqProofs (maxSteps := 10000000) only [gap_Contact_1, encG, cG, cV, ldV8, g1, g2, t1, QdR, QpH, st4', QbT, Qaq, QaA, decide_true, decide_false, tupG, Bool.true_or, go_sem, iv, bv, reduceCtorEq, ↓reduceIte, Nat.reduceEqDiff]
theorem Qr3 {e : Eg} {r v : Vc} {K : Nat} (hK : K ≤ 10000000) (he : AtE e) (hr : SzV K r) (hv : SzV K v) : Qaj G Qfb [encG e, .rp (cV v), .rp (cV r)] = some (.d (.tup [encR (rtR e.1 v), bv (decide (gpR e r = 0))])) := by
 rw [Qae (cf := gap_Contact_2) rfl]
 have g1 := Qdq (by omega) he hr
 have g3 := QgB (by omega) he.1 hv
 have g2 := QaQ (gpR e r)
 rw [← Qky]
 generalize rtR e.1 v = q2 at *
 generalize gpR e r = q at *
 generalize Int.sign q.num = s at *
 clear he hr hv
 obtain ⟨⟨a1, b1, c1⟩, t1⟩ := e
 obtain ⟨x1, y1⟩ := r
 obtain ⟨x2, y2⟩ := v
 simp only [encG, cG, encD, cD, encV, encR, iv, bv] at g1 g2 g3
 simp -implicitDefEqProofs (maxSteps := 10000000) only [gap_Contact_2, encG, cG, cV, encR, ldV8, g1, g2, g3, QdR, QpH, st4', QbT, Qaq, QaA, allD, toDs, go_sem, iv, bv, reduceCtorEq, ↓reduceIte, Nat.reduceEqDiff]
def coG (O : List Eg) (r v : Vc) : Int := if O.any (opB r v) then -1 else (grS (fun e => (rtR e.1 v, decide (gpR e r = 0))) O O.length).1
theorem Cont_spec {d : D} {O : List Eg} {r v : Vc} {K : Nat} (hO : RwE cG d O) (hn : O.length ≤ 1000) (hK : K ≤ 10000000) (he : ∀ e ∈ O, AtE e) (hr : SzV K r) (hv : SzV K v) : Qaj G Qb8 [d, encV r, encV v] = some (.d (iv (coG O r v))) := by
 rw [Qae (cf := gap_Contact) rfl]
 have g0 := Qjl (f := Qe7) (caps := [.rp (cV r), .rp (cV v)]) (p := opB r v) hO (by omega) (fun i hi => QsI hK (he _ (egm hi)) hr hv)
 have g := Qmk (f := Qfb) (caps := [.rp (cV v), .rp (cV r)]) (F := fun e => (rtR e.1 v, decide (gpR e r = 0))) (K := 2 * K + 14) hO hn (by omega) (by omega) (fun i hi => ⟨Qr3 hK (he _ (egm hi)) hr hv, Nat.le_trans (QkX (he _ (egm hi)).1 hv) (by omega)⟩)
 unfold coG
 generalize (grS _ O O.length).1 = z at *
 generalize O.any (opB r v) = t at *
 clear hr hv
 obtain ⟨x1, y1⟩ := r
 obtain ⟨x2, y2⟩ := v
 simp only [cV, iv, bv] at g g0
 cases t
 ·simp -implicitDefEqProofs (maxSteps := 10000000) only [gap_Contact, encV, g, g0, QbT, Qaq, QaA, toDs, allD, snap, Qcy, Bool.false_eq_true, if_false, go_sem, iv, bv, reduceCtorEq, ↓reduceIte, Nat.reduceEqDiff]
 ·simp -implicitDefEqProofs (maxSteps := 10000000) only [gap_Contact, encV, g0, QbT, Qaq, QaA, toDs, allD, snap, Qcy, if_true, go_sem, iv, bv, reduceCtorEq, ↓reduceIte, Nat.reduceEqDiff]
end
end Go.AM

/- The seat's iterators: Backward alone. -/
namespace Go.AM
open Go Go.RowKit Go.Proofs

instance itsP : Its := { it := fun f ds => if f = Qal then QnZ ds else none }
instance itsBP : ItsB := ⟨fun _ => if_pos rfl⟩
theorem envP : EnvOk Tryz.prog G := env_ok fun f ds xs h => by
  have h' : (if f = Qal then QnZ ds else none) = some xs := h
  split at h'
  · rename_i hf
    rw [hf]
    exact itBack_ok h'
  · cases h'
end Go.AM

/- law13.lives: the parts, by the kernel. -/
namespace Go.AM
open Go Go.RowKit
def zI (n : Int) : List D := [.v (.bool (decide (n < 0))), if n = 0 then .z true else .row 1 [iv n.natAbs], .v (.bool false), .z true]
def vI (x y : Int) : D := .agg (zI x ++ zI y)
def edc : List D := [iv 0, iv (-1), iv 1, iv 2, iv 1, iv 0, iv 1, iv 2, iv 0, iv 1, iv 1, iv 2, iv (-1), iv 0, iv 1, iv 2]
def eds : D := .row 4 edc
def sqD : D := .row 4 [iv 0, iv 0, iv 2, iv 0, iv 2, iv 2, iv 0, iv 2]
def sqL : List Pt := [(0, 0), (2, 0), (2, 2), (0, 2)]
theorem sq_gd : GdS sqL := by
 have h : chkS sqL = true := by kernel_rfl
 unfold chkS at h
 rw [List.all_eq_true] at h
 refine ⟨by decide, by decide, ?_, fun i hi => ?_, fun i hi => ?_⟩
 ·intro p hp
  unfold sqL at hp
  simp only [List.mem_cons, List.not_mem_nil, or_false] at hp
  rcases hp with rfl | rfl | rfl | rfl <;> exact ⟨⟨by decide, by decide⟩, ⟨by decide, by decide⟩⟩
 all_goals
  have h1 := h i (List.mem_range.2 hi)
  simp only [Bool.and_eq_true, decide_eq_true_eq] at h1
  obtain ⟨⟨⟨⟨⟨⟨⟨h1, h2⟩, h3⟩, h4⟩, h5⟩, h6⟩, h7⟩, h8⟩ := h1
 ·exact ⟨h1, h2⟩
 ·exact ⟨⟨h3, h4⟩, ⟨h5, h6⟩, ⟨h7, h8⟩⟩
theorem k0 : Qaj G Qc3 [sqD, sqD] = some (.own 4 4 edc) := by
 have h := Ql5 (da := sqD) (db := sqD) (a := sqL) (b := sqL) (.inr rfl) (.inr rfl) sq_gd sq_gd
 rw [h]
 have e : sdP sqL sqL = [((0, -1, 1), 2), ((1, 0, 1), 2), ((0, 1, 1), 2), ((-1, 0, 1), 2)] := by kernel_rfl
 rw [e]
 rfl
theorem k1 : Qaj G QbV [.agg [iv 0, iv 1, iv 1, iv 2], vI 1 5] = some (.d (.agg (zI 3))) := callX_some.2 ⟨80, by kernel_rfl⟩
theorem k2 : Qaj G Qcv [.agg (zI 3), .agg (zI 3)] = some (.d (bv true)) := callX_some.2 ⟨80, by kernel_rfl⟩
theorem k3 : Qaj G Qdu [eds, vI 1 1] = some (.d (bv true)) := callX_some.2 ⟨60, by kernel_rfl⟩
theorem k4 : Qaj G Qdu [eds, vI 2 0] = some (.d (bv false)) := callX_some.2 ⟨60, by kernel_rfl⟩
theorem k5 : Qaj G QfH [eds, vI 0 3, vI 5 1] = some (.d (iv 2)) := callX_some.2 ⟨60, by kernel_rfl⟩
theorem kv (x y : Int) (h : (x, y) ∈ [(1, 5), (1, 1), (2, 0), (0, 0), (0, 3), (0, -2), (5, -2), (5, 1), (1, 2), (1, 0), (1, -1), (0, 1), (2, 2), (-1, -2), (0, -1)]) : Qaj G Qan [iv x, iv y] = some (.d (vI x y)) := by
 simp only [List.mem_cons, List.not_mem_nil, or_false, Prod.mk.injEq] at h
 rcases h with ⟨rfl, rfl⟩ | ⟨rfl, rfl⟩ | ⟨rfl, rfl⟩ | ⟨rfl, rfl⟩ | ⟨rfl, rfl⟩ | ⟨rfl, rfl⟩ | ⟨rfl, rfl⟩ | ⟨rfl, rfl⟩ | ⟨rfl, rfl⟩ | ⟨rfl, rfl⟩ | ⟨rfl, rfl⟩ | ⟨rfl, rfl⟩ | ⟨rfl, rfl⟩ | ⟨rfl, rfl⟩ | ⟨rfl, rfl⟩ <;> exact callX_some.2 ⟨60, by kernel_rfl⟩
theorem kOf : Qaj G Qav [iv 3, iv 1] = some (.d (.agg (zI 3))) := callX_some.2 ⟨60, by kernel_rfl⟩
end Go.AM

/- law13.lives: Free and Contact, by the kernel. -/
namespace Go.AM
open Go Go.RowKit
theorem f1 : Qaj G QdO [eds, vI 0 3, vI 0 (-2), vI 0 0] = some (.d (iv (-1))) := callX_some.2 ⟨80, by kernel_rfl⟩
theorem f2 : Qaj G QdO [eds, vI 0 3, vI 5 (-2), vI 0 0] = some (.d (iv (-1))) := callX_some.2 ⟨80, by kernel_rfl⟩
theorem f3 : Qaj G QdO [eds, vI 0 3, vI 0 (-1), vI 0 0] = some (.d (iv 2)) := callX_some.2 ⟨80, by kernel_rfl⟩
theorem c1 : Qaj G Qb8 [eds, vI 1 2, vI 1 0] = some (.d (iv 2)) := callX_some.2 ⟨80, by kernel_rfl⟩
theorem c2 : Qaj G Qb8 [eds, vI 1 2, vI 1 (-1)] = some (.d (iv 2)) := callX_some.2 ⟨80, by kernel_rfl⟩
theorem c3 : Qaj G Qb8 [eds, vI 1 2, vI 0 1] = some (.d (iv (-1))) := callX_some.2 ⟨80, by kernel_rfl⟩
theorem c4 : Qaj G Qb8 [eds, vI 2 2, vI (-1) (-2)] = some (.d (iv 1)) := callX_some.2 ⟨80, by kernel_rfl⟩
end Go.AM

/- law13.lives. -/
namespace Go.AM
open Go Go.RowKit
theorem z0 : zI 0 = [.v (.bool false), .z true, .v (.bool false), .z true] := rfl
set_option maxHeartbeats 4000000 in
theorem QpT : Qaj G Qc4 [] = some (.d (bv true)) := by
 rw [Qae (cf := gantrylaw13_lives) rfl]
 have v1 := kv 1 5 (by simp)
 have v2 := kv 1 1 (by simp)
 have v3 := kv 2 0 (by simp)
 have v4 := kv 0 0 (by simp)
 have v5 := kv 0 3 (by simp)
 have v6 := kv 0 (-2) (by simp)
 have v7 := kv 5 (-2) (by simp)
 have v8 := kv 5 1 (by simp)
 have v9 := kv 1 2 (by simp)
 have v10 := kv 1 0 (by simp)
 have v11 := kv 1 (-1) (by simp)
 have v12 := kv 0 1 (by simp)
 have v13 := kv 2 2 (by simp)
 have v14 := kv (-1) (-2) (by simp)
 have v15 := kv 0 (-1) (by simp)
 have k0 := k0; have k1 := k1; have k2 := k2; have k3 := k3; have k4 := k4; have k5 := k5; have kOf := kOf
 have f1 := f1; have f2 := f2; have f3 := f3; have c1 := c1; have c2 := c2; have c3 := c3; have c4 := c4
 have e0 : vI 0 0 = .agg [.v (.bool false), .z true, .v (.bool false), .z true, .v (.bool false), .z true, .v (.bool false), .z true] := rfl
 rw [e0] at v4 f1 f2 f3
 have e1 : D.agg (zI 3) = .agg [.v (.bool false), .row 1 [iv 3], .v (.bool false), .z true] := rfl
 have x1 : ∀ h : Hp, ixaA h 4 2 (.d eds) = some (.d (.rp [iv 0, iv 1, iv 1, iv 2, iv (-1), iv 0, iv 1, iv 2])) := fun _ => rfl
 have x2 : ∀ h : Hp, QcF h (some 4) (.d (.rp [iv 0, iv 1, iv 1, iv 2, iv (-1), iv 0, iv 1, iv 2])) = some (.d (.agg [iv 0, iv 1, iv 1, iv 2])) := fun _ => rfl
 simp only [eds, edc, iv, bv, sqD] at x1 x2 v1 v2 v3 v4 v5 v6 v7 v8 v9 v10 v11 v12 v13 v14 v15 k0 k1 k2 k3 k4 k5 kOf f1 f2 f3 c1 c2 c3 c4
 simp -implicitDefEqProofs (maxSteps := 10000000) only [gantrylaw13_lives, v1, v2, v3, v4, v5, v6, v7, v8, v9, v10, v11, v12, v13, v14, v15, k0, k1, k2, k3, k4, k5, kOf, f1, f2, f3, c1, c2, c3, c4, QoO, st8, ld8, QcG, Qbl, x1, x2, one_b, oneI, Bool.not_true, Bool.not_false, beq_self_eq_true, List.map_cons, List.map_nil, go_sem, iv, bv, reduceCtorEq, ↓reduceIte, Nat.reduceEqDiff]
end Go.AM

