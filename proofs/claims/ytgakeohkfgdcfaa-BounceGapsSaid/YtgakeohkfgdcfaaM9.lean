/- Part 9 of the proof: a small machine, its soundness against the model, and what the program's functions compute on it. -/
import Derived.Test.YtgakeohkfgdcfaaM8
import Derived.Test.YtgakeohkfgdcfaaM3
import Derived.Test.YtgakeohkfgdcfaaRows
import Derived.Test.YtgakeohkfgdcfaaM6
import Derived.WalkKit
import Derived.ProofKit
import Derived.OpenShut
import Derived.ShutString
import Derived.ChangeOld
import Derived.Below
import Derived.SizedLaws
set_option linter.unusedVariables false
set_option linter.unusedSimpArgs false
/- slices.Backward: what its iterator yields; poly.Eval. -/
namespace Go.AM
open Go Go.RowKit Go.Proofs

def C.one1 : C → C
  | .seq a _ => a
  | .blk _ a => a
  | .loop a => a
  | c => c
def C.two2 : C → C
  | .seq _ b => b
  | c => c
/-- What comes: from the last one to the first. -/
def bkp (l : List Rat) : List (Int × Rat) := (List.range l.length).map fun i => (((l.length - 1 - i : Nat) : Int), l.getD (l.length - 1 - i) 0)
def bk1 (p : Int × Rat) : List D := [iv p.1, encR p.2]
def bkw (l : List Rat) : List (List D) := (bkp l).map bk1
theorem bkw_len (l : List Rat) : (bkw l).length = l.length := by simp [bkw, bkp]
theorem bkp_snd (l : List Rat) : (bkp l).map Prod.snd = l.reverse := by
  apply List.ext_getElem
  · simp [bkp]
  · intro i h1 h2
    simp only [bkp, List.map_map, List.getElem_map, List.getElem_range, Function.comp_apply, List.getElem_reverse]
    have h3 : i < l.length := by simpa [bkp] using h1
    rw [List.getD_eq_getElem?_getD, List.getElem?_eq_getElem (by omega)]; rfl
def bw_T : C := slices_Backward_api_Poly_api_Rat_1_l0.one1.one1
def bw_I : C := .seq (.keep [0, 1, 3] []) slices_Backward_api_Poly_api_Rat_1_l0.one1.two2.two2
def bw_pre : List O := [⟨some 11, .mov (.t 0), none⟩, ⟨some 12, .mov (.t 3), none⟩, ⟨some 13, .load none (.t 1), none⟩, ⟨some 14, .mov (.t 3), none⟩, ⟨some 15, .ixa 4 (.t 13) (.t 14), none⟩, ⟨some 16, .load (some 4) (.t 15), none⟩]
def bw_post : List O := [⟨some 18, .un .not (.t 17), none⟩]
theorem bw_shape : slices_Backward_api_Poly_api_Rat_1.body.er = .seq slices_Backward_api_Poly_api_Rat_1.body.one1.er (.blk 0 (.loop (.seq bw_T.er (.seq (.blk 1 (.seq (.reg ((bw_pre ++ ⟨some 17, .calv (.t 11) [.t 12, .t 16], none⟩ :: bw_post).map O.er) []) (.cond (.t 18) .ret .skip))) bw_I.er)))) := rfl
theorem bw_ld (h : Hp) (sz : Option Nat) (cs : List D) : loadA h sz (.d (.rp cs)) = ldrow sz cs := rfl

def bw_st (y : Nat) (d : D) (k : Int) : St := mkS [(0, .d (yv y)), (1, .d (.rp [d])), (3, ai k)] []
def bw_s0 (y : Nat) (d : D) (k : Int) : St := mkS [(0, .d (yv y)), (1, .d (.rp [d])), (3, ai k), (8, ab true)] []
def bw_s1 (y : Nat) (d : D) (k : Int) (rp : List D) (q : Rat) : St := ⟨upd (upd (upd (upd (upd (upd (bw_s0 y d k).fr 11 (.d (yv y))) 12 (ai k)) 13 (.d d)) 14 (ai k)) 15 (.d (.rp rp))) 16 (.d (encR q)), (bw_s0 y d k).hp, []⟩
def bw_s2 (y : Nat) (d : D) (k : Int) (rp : List D) (q : Rat) (t : Bool) : St := ⟨upd (upd (bw_s1 y d k rp q).fr 17 (.d (.v (.bool t)))) 18 (.d (.v (.bool !t))), (bw_s1 y d k rp q).hp, []⟩
section
variable [Its]
theorem bw_start {y : Nat} {d : D} {l : List Rat} (hr : RwR d l) (hl : l.length ≤ 140737488351232) : X G slices_Backward_api_Poly_api_Rat_1.body.one1 ⟨argF 0 [yv y, .rp [d]], hp0, []⟩ = some (.n, bw_st y d ((l.length : Int) - 1)) := by
  have e1 : w64 ((l.length : Int) - 1) = (l.length : Int) - 1 := w64_id (by omega) (by omega)
  have ll := hr.len
  simp -implicitDefEqProofs (maxSteps := 10000000) only [slices_Backward_api_Poly_api_Rat_1, C.one1, bw_st, argF, yv, bw_ld, List.head?_cons, ll, go_sem, stcells, ldcells, iv, bv, e1, reduceCtorEq, ↓reduceIte, Nat.reduceEqDiff]
theorem bw_more {y : Nat} {d : D} {j : Nat} : X G bw_T (bw_st y d (j : Int)) = some (.n, bw_s0 y d (j : Int)) := by
  have e1 : decide ((j : Int) ≥ 0) = true := decide_eq_true (by omega)
  simp -implicitDefEqProofs (maxSteps := 10000000) only [bw_T, slices_Backward_api_Poly_api_Rat_1_l0, C.one1, C.two2, bw_st, bw_s0, yv, e1, go_sem, stcells, ldcells, iv, bv, reduceCtorEq, ↓reduceIte, Nat.reduceEqDiff]
theorem bw_stop {y : Nat} {d : D} : X G bw_T (bw_st y d (-1)) = some (.x 0, mkS [] []) := by
  have e1 : decide ((-1 : Int) ≥ 0) = false := rfl
  simp -implicitDefEqProofs (maxSteps := 10000000) only [bw_T, slices_Backward_api_Poly_api_Rat_1_l0, C.one1, C.two2, bw_st, bw_s0, yv, e1, go_sem, stcells, ldcells, iv, bv, reduceCtorEq, ↓reduceIte, Nat.reduceEqDiff]
theorem bw_p1 {y : Nat} {d : D} {l : List Rat} (hr : RwR d l) {j : Nat} (hj : j < l.length) : exs (callX G) bw_pre (bw_s0 y d (j : Int)) = some (bw_s1 y d (j : Int) (cRs (l.drop j)) (l.getD j 0)) := by
  have e3 := hr.ixa hj
  have e4 := fun h => ldR h l hj
  generalize l.getD j 0 = q at *
  generalize cRs (l.drop j) = cs at *
  simp only [encR] at e4
  simp -implicitDefEqProofs (maxSteps := 10000000) only [bw_pre, bw_s0, bw_s1, encR, yv, go_sem, e3, e4, bw_ld, ldrow, List.head?_cons, stcells, ldcells, iv, bv, reduceCtorEq, ↓reduceIte, Nat.reduceEqDiff]
theorem bw_p2 {y : Nat} {d : D} {k : Int} {rp : List D} {q : Rat} {t : Bool} : exs (callX G) bw_post { bw_s1 y d k rp q with fr := upd (bw_s1 y d k rp q).fr 17 (.d (.v (.bool t))) } = some (bw_s2 y d k rp q t) := by
  simp -implicitDefEqProofs (maxSteps := 10000000) only [bw_post, bw_s0, bw_s1, bw_s2, encR, yv, go_sem, stcells, ldcells, iv, bv, reduceCtorEq, ↓reduceIte, Nat.reduceEqDiff]
theorem bw_inc {y : Nat} {d : D} {j : Nat} {rp : List D} {q : Rat} (hj : j ≤ 140737488351232) : X G bw_I (bw_s2 y d (j : Int) rp q true) = some (.n, bw_st y d ((j : Int) - 1)) := by
  have e1 : w64 ((j : Int) - 1) = (j : Int) - 1 := w64_id (by omega) (by omega)
  simp -implicitDefEqProofs (maxSteps := 10000000) only [bw_I, slices_Backward_api_Poly_api_Rat_1_l0, C.one1, C.two2, bw_st, bw_s0, bw_s1, bw_s2, encR, yv, go_sem, e1, stcells, ldcells, iv, bv, reduceCtorEq, ↓reduceIte, Nat.reduceEqDiff]

end

theorem bw_walk {d : D} {l : List Rat} (hr : RwR d l) (hl : l.length ≤ 140737488351232) {N n' y : Nat} {S : Nat → Prop} {w0 : World} {J Jx : Held} {ac : Act} {W : World} (hab : Abide w0 J) (habx : Abide w0 Jx) (hans : Answers Try.prog n' S w0 y J Jx (bkw l))
    (hI : Inv S w0 N J ⟨argF 0 [yv y, .rp [d]], hp0, []⟩ 0 ac W) :
    WY Try.prog N (n' + 1) slices_Backward_api_Poly_api_Rat_1.body.er (fun e' a' W' => (∀ id, e' ≠ .x id) ∧ ((∃ st, Inv S w0 N J st (bkw l).length a' W') ∨ ∃ st i, Inv S w0 N Jx st i a' W')) ac W := by
  letI := noIts
  have hE : EnvOk Try.prog G := env_ok0
  rw [bw_shape]
  refine WY.seq ?_
  refine Inv.code hE hab hI rfl (bw_start hr hl) ?_
  intro a1 W1 I1
  simp only [↓reduceIte]
  refine WY.blk ?_
  refine WY.loop (j := l.length) (fun j a' w' => ∃ i, i ≤ l.length ∧ j = l.length - i ∧ Inv S w0 N J (bw_st y d (((l.length - i : Nat) : Int) - 1)) i a' w') ⟨0, by omega, by omega, ?_⟩ ?_
  · rw [Nat.sub_zero]
    exact I1
  · rintro j a2 W2 ⟨i, hi, rfl, I2⟩
    refine WY.seq ?_
    by_cases hin : i < l.length
    · obtain ⟨k, hk⟩ : ∃ k, k = l.length - 1 - i := ⟨_, rfl⟩
      have ek : ((l.length - i : Nat) : Int) - 1 = (k : Int) := by omega
      rw [ek] at I2
      have hkl : k < l.length := by omega
      refine Inv.code hE hab I2 rfl bw_more ?_
      intro a3 W3 I3
      simp only [↓reduceIte]
      refine WY.seq (WY.blk (WY.seq ?_))
      refine Inv.yield hE hab habx hans I3 (pre := bw_pre) (post := bw_post) (d := 17) (ty := 11) (es := [.t 12, .t 16]) (s1 := bw_s1 y d (k : Int) (cRs (l.drop k)) (l.getD k 0)) (x := bk1 ((k : Int), l.getD k 0)) (rt := bw_s2 y d (k : Int) (cRs (l.drop k)) (l.getD k 0) true) (rf := bw_s2 y d (k : Int) (cRs (l.drop k)) (l.getD k 0) false) (bw_p1 hr hkl) rfl rfl ?_ bw_p2 bw_p2 ?_ ?_
      · rw [bkw, bkp, List.map_map, List.getElem?_map, List.getElem?_range hin, hk]; rfl
      · intro a4 W4 I4
        simp only [↓reduceIte]
        refine WY.cond (t := false) (I4.bool rfl) (fun h => by cases h) (fun _ => WY.skip ?_)
        simp only [↓reduceIte]
        refine Inv.code hE hab I4 rfl (bw_inc (by omega)) ?_
        intro a6 W6 I6
        simp only [↓reduceIte]
        refine ⟨l.length - (i + 1), by omega, i + 1, by omega, rfl, ?_⟩
        rw [show ((l.length - (i + 1) : Nat) : Int) - 1 = (k : Int) - 1 by omega]
        exact I6
      · intro a4 W4 I4
        simp only [↓reduceIte]
        refine WY.cond (t := true) (I4.bool rfl) (fun _ => WY.ret ?_) (fun h => by cases h)
        simp only [reduceCtorEq, ↓reduceIte]
        exact ⟨fun _ h => (by cases h), .inr ⟨_, _, I4⟩⟩
    · have : i = l.length := by omega
      subst this
      rw [Nat.sub_self] at I2
      refine Inv.code hE hab I2 rfl bw_stop ?_
      intro a3 W3 I3
      simp only [reduceCtorEq, ↓reduceIte]
      exact ⟨fun _ h => (by cases h), .inl ⟨_, by rw [bkw_len]; exact I3⟩⟩

theorem backward_ok {d : D} {l : List Rat} (hr : RwR d l) (hl : l.length ≤ 140737488351232) : ItOk Try.prog n_slices_Backward_api_Poly_api_Rat_1 [.rp [d]] (bkw l) := by
  refine it_ok (Γ := @G noIts) env_ok0 (cf := slices_Backward_api_Poly_api_Rat_1) Try.func89 slices_Backward_api_Poly_api_Rat_1_c ?_ rfl rfl ?_
  · intro b hb
    have : (Try.f89.body.map okY) = some true := by kernel_rfl
    rw [hb] at this
    simpa using this
  · intro n' y S w0 J Jx ac W hab habx hans hI
    exact bw_walk hr hl hab habx hans hI

/-- What the seat's iterators yield, of Backward. -/
class ItsB [Its] : Prop where
  back : ∀ {d : D} {l : List Rat}, RwR d l → l.length ≤ 140737488351232 → Its.it n_slices_Backward_api_Poly_api_Rat_1 [.rp [d]] = some (bkw l)

/-- The value, by Horner's rule. -/
def evR (l : List Rat) (x : Rat) : Rat := l.foldr (fun a s => s * x + a) 0
theorem evR_cons (a : Rat) (l : List Rat) (x : Rat) : evR (a :: l) x = evR l x * x + a := rfl
theorem evR_bk (l : List Rat) (x : Rat) : (bkp l).foldl (fun s p => s * x + p.2) 0 = evR l x := by
  have h : ∀ (ps : List (Int × Rat)) (s : Rat), ps.foldl (fun s p => s * x + p.2) s = (ps.map Prod.snd).foldl (fun s a => s * x + a) s := by
    intro ps
    induction ps with
    | nil => intro s; rfl
    | cons p ps ih => intro s; exact ih _
  rw [h, bkp_snd, List.foldl_reverse]
  rfl
def ev_fr : Fr := frL [(3, .ptr [3] 0), (4, .ptr [4] 0), (5, .ptr [5] 0)]
def ev_hp (x s : Rat) : Hp := hpL [([3], boxR x), ([4], boxR0), ([5], boxR s)]
theorem evR_sz {x : Rat} {K : Nat} (hK : sz x ≤ K) : ∀ l : List Rat, (∀ q ∈ l, sz q ≤ K) → sz (evR l x) ≤ l.length * (2 * K + 1) + 1
  | [], _ => by rw [evR, List.foldr_nil, sz_zero]; omega
  | a :: l, h => by
    have ih := evR_sz hK l (fun q hq => h q (List.mem_cons_of_mem _ hq))
    have h2 := h a (List.mem_cons_self ..)
    have k1 := sz_mul (a := evR l x) (b := x)
    have k2 := sz_add (a := evR l x * x) (b := a)
    have h1 : (a :: l).length * (2 * K + 1) = l.length * (2 * K + 1) + (2 * K + 1) := by rw [List.length_cons, Nat.succ_mul]
    rw [evR_cons]; omega
variable [Its]

theorem ev_rounds {x : Rat} {K : Nat} (hK : sz x ≤ K) (hK2 : K ≤ 1000000000) : ∀ (ps : List (Int × Rat)) (s : Rat), (∀ p ∈ ps, sz p.2 ≤ K) → sz s + ps.length * (2 * K + 1) ≤ 50000000000 →
    rounds (X G) [10, 11] poly_Eval_a0 poly_Eval_b0 ev_fr [] (ps.map bk1) (ev_hp x s) = some (.n, ⟨ev_fr, ev_hp x (ps.foldl (fun s p => s * x + p.2) s), []⟩)
  | [], s, _, _ => rfl
  | p :: ps, s, hp, hs => by
    have h1 : (p :: ps).length * (2 * K + 1) = ps.length * (2 * K + 1) + (2 * K + 1) := by rw [List.length_cons, Nat.succ_mul]
    have h2 := hp p (List.mem_cons_self ..)
    have g1 := ratMul_spec (a := s) (b := x) (by omega) (by omega)
    have k1 := sz_mul (a := s) (b := x)
    have g2 := ratAdd_spec (a := s * x) (b := p.2) (by omega) (by omega)
    have k2 := sz_add (a := s * x) (b := p.2)
    have ih := ev_rounds hK hK2 ps (s * x + p.2) (fun q hq => hp q (List.mem_cons_of_mem _ hq)) (by omega)
    rw [List.map_cons, List.foldl_cons, ← ih]
    clear ih hp
    generalize s * x + p.2 = r at *
    generalize s * x = sx at *
    obtain ⟨k, q⟩ := p
    unfold bk1
    simp only at g2 ⊢
    generalize List.map _ ps = XS
    simp only [encR] at g1 g2
    simp -implicitDefEqProofs (maxSteps := 10000000) only [rounds, poly_Eval_a0, poly_Eval_b0, ev_fr, ev_hp, boxR, encR, boxR0, putL, go_sem, stcells, ldcells, iv, bv, g1, g2, reduceCtorEq, ↓reduceIte, Nat.reduceEqDiff]
theorem Eval_spec [ItsB] {d : D} {l : List Rat} {x : Rat} {K : Nat} (hr : RwR d l) (hK : sz x ≤ K) (hK2 : K ≤ 1000000000) (hl : ∀ q ∈ l, sz q ≤ K) (hn : l.length * (2 * K + 1) ≤ 40000000000) : callX G n_poly_Eval [d, encR x] = some (.d (encR (evR l x))) := by
  rw [callX_eq (cf := poly_Eval) rfl]
  have g1 := Backward_spec hr
  have hn' : l.length ≤ l.length * (2 * K + 1) := Nat.le_mul_of_pos_right _ (by omega)
  have hit : (G).it n_slices_Backward_api_Poly_api_Rat_1 [.rp [d]] = some (bkw l) := ItsB.back hr (by omega)
  have hp : (bkp l).length = l.length := by simp [bkp]
  have hrd := ev_rounds hK hK2 (bkp l) 0 (fun p hp' => by
    have : p.2 ∈ (bkp l).map Prod.snd := List.mem_map_of_mem hp'
    rw [bkp_snd] at this
    exact hl _ (List.mem_reverse.1 this)) (by rw [hp, sz_zero]; omega)
  rw [evR_bk] at hrd
  have e1 : (bkp l).map bk1 = bkw l := rfl
  rw [e1] at hrd
  have hA : poly_Eval_a0.holds [[3], [4], [5]] = true := rfl
  have hB : poly_Eval_b0.holds [[3], [4], [5]] = true := rfl
  have e0 : boxR 0 = boxR0 := by
    have ez : decide ((0 : Rat).num < 0) = false := rfl
    have ez2 : dg (digs (0 : Rat).num.natAbs) = .z true := by rw [Rat.zero_num, show (0 : Int).natAbs = 0 from rfl, digs_zero]; rfl
    have ez3 : dg (dd (0 : Rat).den) = .z true := rfl
    rw [boxR, ez, ez2, ez3]; rfl
  rw [ev_hp, e0] at hrd
  clear hp e1 hn e0
  generalize bkw l = XS at *
  generalize evR l x = v at *
  simp only [ev_fr, ev_hp, boxR, boxR0, go_sem] at hrd
  simp -implicitDefEqProofs (maxSteps := 10000000) only [poly_Eval, X_rfn, plainF, hA, hB, hit, hrd, encR, go_sem, stcells, ldcells, iv, bv, g1, reduceCtorEq, ↓reduceIte, Nat.reduceEqDiff]
end Go.AM

/- The flights of a series: what comes, and the pieces of the iterator. -/
namespace Go.AM
open Go Go.RowKit

def cS (u a e : Rat) : List D := [.v (.bool (decide (u.num < 0))), dg (digs u.num.natAbs), .v (.bool false), dg (dd u.den), .v (.bool (decide (a.num < 0))), dg (digs a.num.natAbs), .v (.bool false), dg (dd a.den), .v (.bool (decide (e.num < 0))), dg (digs e.num.natAbs), .v (.bool false), dg (dd e.den)]
theorem cS_inj {u a e u' a' e' : Rat} (h : cS u a e = cS u' a' e') : u = u' ∧ a = a' ∧ e = e' := by
  simp only [cS, List.cons.injEq, D.v.injEq, Value.bool.injEq, true_and, and_true] at h
  obtain ⟨h1, h2, h3, h4, h5, h6, h7, h8, h9⟩ := h
  exact ⟨rat_inj h1 h2 h3, rat_inj h4 h5 h6, rat_inj h7 h8 h9⟩
/-- A flight: its number, start, duration, speed. -/
def encF (k : Int) (s l v : Rat) : D := .agg [.v (.int .i64 k), .v (.bool (decide (s.num < 0))), dg (digs s.num.natAbs), .v (.bool false), dg (dd s.den), .v (.bool (decide (l.num < 0))), dg (digs l.num.natAbs), .v (.bool false), dg (dd l.den), .v (.bool (decide (v.num < 0))), dg (digs v.num.natAbs), .v (.bool false), dg (dd v.den)]
def boxF (k : Int) (s l v : Rat) : Obj := ⟨0, 0, [.d (.v (.int .i64 k)), .d (.v (.bool (decide (s.num < 0)))), .d (dg (digs s.num.natAbs)), .d (.v (.bool false)), .d (dg (dd s.den)), .d (.v (.bool (decide (l.num < 0)))), .d (dg (digs l.num.natAbs)), .d (.v (.bool false)), .d (dg (dd l.den)), .d (.v (.bool (decide (v.num < 0)))), .d (dg (digs v.num.natAbs)), .d (.v (.bool false)), .d (dg (dd v.den))], false⟩
def durK (u a e : Rat) (k : Nat) : Rat := (u + u) / a * e ^ k
def spdK (u e : Rat) (k : Nat) : Rat := u * e ^ k
def staK (u a e : Rat) : Nat → Rat
  | 0 => 0
  | k + 1 => staK u a e k + durK u a e k
theorem durK_sz {u a e : Rat} (h : SzS u a e) {k : Nat} (hk : k ≤ 64) : sz (durK u a e k) ≤ 700000000 := by
  obtain ⟨h1, h2, h3⟩ := h
  have k1 := sz_add (a := u) (b := u)
  have k2 := sz_div (a := u + u) (b := a)
  have k3 := sz_mul (a := (u + u) / a) (b := e ^ k)
  have k4 := pow_sz h3 hk
  unfold durK; omega
theorem spdK_sz {u a e : Rat} (h : SzS u a e) {k : Nat} (hk : k ≤ 64) : sz (spdK u e k) ≤ 700000000 := by
  obtain ⟨h1, h2, h3⟩ := h
  have k3 := sz_mul (a := u) (b := e ^ k)
  have k4 := pow_sz h3 hk
  unfold spdK; omega
theorem staK_sz {u a e : Rat} (h : SzS u a e) : ∀ k : Nat, k ≤ 65 → sz (staK u a e k) ≤ k * 700000001 + 1
  | 0, _ => by rw [staK, sz_zero]; omega
  | k + 1, hk => by
    have h1 := staK_sz h k (by omega)
    have h2 := durK_sz h (k := k) (by omega)
    have h3 := sz_add (a := staK u a e k) (b := durK u a e k)
    rw [staK]; omega
theorem durK_succ (u a e : Rat) (k : Nat) : durK u a e (k + 1) = durK u a e k * e := by rw [durK, durK, Rat.pow_succ, Rat.mul_assoc]
theorem spdK_succ (u e : Rat) (k : Nat) : spdK u e (k + 1) = spdK u e k * e := by rw [spdK, spdK, Rat.pow_succ, Rat.mul_assoc]
variable [Its]

theorem flights_spec {u a e : Rat} {n : Int} : callX G n_bounce_Series_flights [encS u a e, iv n] = some (.d (.fn n_bounce_Series_flights_1 [.rp (cS u a e), .rp [iv n]])) := by
  rw [callX_eq (cf := bounce_Series_flights) rfl]
  simp -implicitDefEqProofs (maxSteps := 10000000) only [bounce_Series_flights, encS, cS, go_sem, snap, snapH, stcells, ldcells, iv, bv, reduceCtorEq, ↓reduceIte, Nat.reduceEqDiff]

def fl_st (l : Nat) (n : Int) (u a e : Rat) (k : Int) (s d v : Rat) : St := mkS [(0, .d (yv l)), (1, .d (.rp (cS u a e))), (2, .d (.rp [iv n])), (4, .ptr [4] 0)] [([4], boxF k s d v)]
def fl_ar (l : Nat) (n : Int) (u a e : Rat) : St := mkS [(0, .d (yv l)), (1, .d (.rp (cS u a e))), (2, .d (.rp [iv n]))] []
end Go.AM

/- The flights of a series: the iterator's walk. -/
namespace Go.AM
open Go Go.RowKit

def C.fst : C → C
  | .seq a _ => a
  | .blk _ a => a
  | .loop a => a
  | c => c
def C.snd : C → C
  | .seq _ b => b
  | c => c
def fl_T : C := bounce_Series_flights_1_l0.fst.fst
def fl_R : C := bounce_Series_flights_1_l0.fst.snd.fst.fst.fst.snd
def fl_I : C := bounce_Series_flights_1_l0.fst.snd.snd
def fl_pre : List O := [⟨some 21, .mov (.t 0), none⟩, ⟨some 22, .load (some 13) (.t 4), none⟩]
def fl_post : List O := [⟨some 24, .un .not (.t 23), none⟩]
theorem fl_shape : bounce_Series_flights_1.body.er = .seq bounce_Series_flights_1.body.fst.er (.blk 0 (.loop (.seq fl_T.er (.seq (.blk 1 (.seq (.seq (.reg ((fl_pre ++ ⟨some 23, .calv (.t 21) [.t 22], none⟩ :: fl_post).map O.er) []) (.cond (.t 24) .ret .skip)) (C.seq (.keep [0, 1, 2, 4] [[4]]) fl_R).er)) fl_I.er)))) := rfl
theorem loadA_rp (h : Hp) (sz : Option Nat) (cs : List D) : loadA h sz (.d (.rp cs)) = ldrow sz cs := rfl
variable [Its]
variable {l : Nat} {n : Int} {u a e : Rat}

def fl_s0 (l : Nat) (n : Int) (u a e : Rat) (k : Int) (s d v : Rat) : St := mkS [(0, .d (yv l)), (1, .d (.rp (cS u a e))), (2, .d (.rp [iv n])), (4, .ptr [4] 0), (16, ab true)] [([4], boxF k s d v)]
def fl_s1 (l : Nat) (n : Int) (u a e : Rat) (k : Int) (s d v : Rat) : St := ⟨upd (upd (fl_s0 l n u a e k s d v).fr 21 (.d (yv l))) 22 (.d (encF k s d v)), (fl_s0 l n u a e k s d v).hp, []⟩
def fl_s2 (l : Nat) (n : Int) (u a e : Rat) (k : Int) (s d v : Rat) (t : Bool) : St := ⟨upd (upd (fl_s1 l n u a e k s d v).fr 23 (.d (.v (.bool t)))) 24 (.d (.v (.bool !t))), (fl_s1 l n u a e k s d v).hp, []⟩

theorem fl_start (h : SzS u a e) : X G bounce_Series_flights_1.body.fst ⟨argF 0 [yv l, .rp (cS u a e), .rp [iv n]], hp0, []⟩ = some (.n, fl_st l n u a e 0 0 ((u + u) / a) u) := by
  obtain ⟨h1, h2, h3⟩ := h
  have g := double_spec (u := u) (a := a) (by omega) (by omega)
  have z := encR_zero
  generalize (u + u) / a = q at *
  have ez : decide ((0 : Rat).num < 0) = false := rfl
  have ez2 : dg (digs (0 : Rat).num.natAbs) = .z true := by rw [Rat.zero_num, show (0 : Int).natAbs = 0 from rfl, digs_zero]; rfl
  have ez3 : dg (dd (0 : Rat).den) = .z true := rfl
  simp only [encR] at g
  simp -implicitDefEqProofs (maxSteps := 10000000) only [bounce_Series_flights_1, C.fst, fl_st, cS, boxF, argF, yv, ez, ez2, ez3, go_sem, loadA_rp, List.head?_cons, stcells, ldcells, iv, bv, g, reduceCtorEq, ↓reduceIte, Nat.reduceEqDiff]

theorem fl_more {k : Nat} {s d v : Rat} (h : (k : Int) ≤ n) : X G fl_T (fl_st l n u a e k s d v) = some (.n, fl_s0 l n u a e k s d v) := by
  have e1 : decide ((k : Int) ≤ n) = true := decide_eq_true h
  simp -implicitDefEqProofs (maxSteps := 10000000) only [fl_T, bounce_Series_flights_1_l0, C.fst, C.snd, fl_st, fl_s0, cS, boxF, yv, e1, go_sem, loadA_rp, List.head?_cons, stcells, ldcells, iv, bv, reduceCtorEq, ↓reduceIte, Nat.reduceEqDiff]

theorem fl_stop {k : Nat} {s d v : Rat} (h : ¬ (k : Int) ≤ n) : X G fl_T (fl_st l n u a e k s d v) = some (.x 0, mkS [] []) := by
  have e1 : decide ((k : Int) ≤ n) = false := decide_eq_false h
  simp -implicitDefEqProofs (maxSteps := 10000000) only [fl_T, bounce_Series_flights_1_l0, C.fst, C.snd, fl_st, fl_s0, cS, boxF, yv, e1, go_sem, loadA_rp, List.head?_cons, stcells, ldcells, iv, bv, reduceCtorEq, ↓reduceIte, Nat.reduceEqDiff]

theorem fl_p1 {k : Int} {s d v : Rat} : exs (callX G) fl_pre (fl_s0 l n u a e k s d v) = some (fl_s1 l n u a e k s d v) := by
  simp -implicitDefEqProofs (maxSteps := 10000000) only [fl_pre, fl_s0, fl_s1, encF, cS, boxF, yv, go_sem, loadA_rp, List.head?_cons, stcells, ldcells, iv, bv, reduceCtorEq, ↓reduceIte, Nat.reduceEqDiff]
theorem fl_p2 {k : Int} {s d v : Rat} {t : Bool} : exs (callX G) fl_post { fl_s1 l n u a e k s d v with fr := upd (fl_s1 l n u a e k s d v).fr 23 (.d (.v (.bool t))) } = some (fl_s2 l n u a e k s d v t) := by
  simp -implicitDefEqProofs (maxSteps := 10000000) only [fl_post, fl_s0, fl_s1, fl_s2, encF, cS, boxF, yv, go_sem, loadA_rp, List.head?_cons, stcells, ldcells, iv, bv, reduceCtorEq, ↓reduceIte, Nat.reduceEqDiff]

theorem fl_rest {k : Int} {s d v : Rat} (hs : sz s ≤ 100000000000) (hd : sz d ≤ 1000000000) (hv : sz v ≤ 1000000000) (he : sz e ≤ 10000000) : X G (C.seq (.keep [0, 1, 2, 4] [[4]]) fl_R) (fl_s2 l n u a e k s d v true) = some (.n, fl_st l n u a e k (s + d) (d * e) (v * e)) := by
  have g1 := ratAdd_spec (a := s) (b := d) hs (by omega)
  have g2 := ratMul_spec (a := v) (b := e) (by omega) (by omega)
  have g3 := ratMul_spec (a := d) (b := e) (by omega) (by omega)
  generalize s + d = s' at *
  generalize d * e = d' at *
  generalize v * e = v' at *
  simp only [encR] at g1 g2 g3
  simp -implicitDefEqProofs (maxSteps := 10000000) only [fl_R, bounce_Series_flights_1_l0, C.fst, C.snd, fl_st, fl_s0, fl_s1, fl_s2, encF, cS, boxF, yv, go_sem, loadA_rp, List.head?_cons, stcells, ldcells, iv, bv, g1, g2, g3, reduceCtorEq, ↓reduceIte, Nat.reduceEqDiff]

theorem fl_inc {k : Nat} {s d v : Rat} (h : k ≤ 64) : X G fl_I (fl_st l n u a e k s d v) = some (.n, fl_st l n u a e ((k + 1 : Nat) : Int) s d v) := by
  have e1 : w64 ((k : Int) + 1) = ((k + 1 : Nat) : Int) := by rw [w64_id (by omega) (by omega)]; rfl
  simp -implicitDefEqProofs (maxSteps := 10000000) only [fl_I, bounce_Series_flights_1_l0, C.fst, C.snd, fl_st, cS, boxF, yv, e1, go_sem, loadA_rp, List.head?_cons, stcells, ldcells, iv, bv, reduceCtorEq, ↓reduceIte, Nat.reduceEqDiff]
end Go.AM

/- The flights of a series: what the iterator yields. -/
namespace Go.AM
open Go Go.RowKit Go.Proofs

def flsK (u a e : Rat) (k : Nat) : List D := [encF k (staK u a e k) (durK u a e k) (spdK u e k)]
def fls (u a e : Rat) (n : Nat) : List (List D) := (List.range (n + 1)).map (flsK u a e)
theorem fls_len (u a e : Rat) (n : Nat) : (fls u a e n).length = n + 1 := by simp [fls]

theorem fl_walk {u a e : Rat} {n : Nat} (h : SzS u a e) (hn : n ≤ 64) {N n' l : Nat} {S : Nat → Prop} {w0 : World} {J Jx : Held} {ac : Act} {W : World} (hab : Abide w0 J) (habx : Abide w0 Jx) (hans : Answers Try.prog n' S w0 l J Jx (fls u a e n))
    (hI : Inv S w0 N J ⟨argF 0 [yv l, .rp (cS u a e), .rp [iv n]], hp0, []⟩ 0 ac W) :
    WY Try.prog N (n' + 1) bounce_Series_flights_1.body.er (fun e' a' W' => (∀ id, e' ≠ .x id) ∧ ((∃ st, Inv S w0 N J st (fls u a e n).length a' W') ∨ ∃ st i, Inv S w0 N Jx st i a' W')) ac W := by
  letI := noIts
  have hE : EnvOk Try.prog G := env_ok0
  rw [fl_shape]
  refine WY.seq ?_
  refine Inv.code hE hab hI rfl (fl_start h) ?_
  intro a1 W1 I1
  simp only [↓reduceIte]
  refine WY.blk ?_
  refine WY.loop (j := n + 1) (fun j a' w' => ∃ k, k ≤ n + 1 ∧ j = n + 1 - k ∧ Inv S w0 N J (fl_st l n u a e k (staK u a e k) (durK u a e k) (spdK u e k)) k a' w') ⟨0, by omega, by omega, ?_⟩ ?_
  · have e1 : durK u a e 0 = (u + u) / a := by rw [durK, Rat.pow_zero, Rat.mul_one]
    have e2 : spdK u e 0 = u := by rw [spdK, Rat.pow_zero, Rat.mul_one]
    rw [e1, e2]
    exact I1
  · rintro j a2 W2 ⟨k, hk, rfl, I2⟩
    refine WY.seq ?_
    by_cases hkn : k ≤ n
    · have hk64 : k ≤ 64 := by omega
      refine Inv.code hE hab I2 rfl (fl_more (by omega)) ?_
      intro a3 W3 I3
      simp only [↓reduceIte]
      refine WY.seq (WY.blk (WY.seq (WY.seq ?_)))
      refine Inv.yield hE hab habx hans I3 (pre := fl_pre) (post := fl_post) (d := 23) (ty := 21) (es := [.t 22]) (s1 := fl_s1 l n u a e k (staK u a e k) (durK u a e k) (spdK u e k)) (x := flsK u a e k) (rt := fl_s2 l n u a e k (staK u a e k) (durK u a e k) (spdK u e k) true) (rf := fl_s2 l n u a e k (staK u a e k) (durK u a e k) (spdK u e k) false) fl_p1 rfl rfl ?_ fl_p2 fl_p2 ?_ ?_
      · rw [fls, List.getElem?_map, List.getElem?_range (by omega)]; rfl
      · intro a4 W4 I4
        simp only [↓reduceIte]
        refine WY.cond (t := false) (I4.bool rfl) (fun h => by cases h) (fun _ => WY.skip ?_)
        simp only [↓reduceIte]
        refine Inv.code hE hab I4 rfl (fl_rest (Nat.le_trans (staK_sz h k (by omega)) (by omega)) (Nat.le_trans (durK_sz h hk64) (by omega)) (Nat.le_trans (spdK_sz h hk64) (by omega)) h.2.2) ?_
        intro a5 W5 I5
        simp only [reduceCtorEq, ↓reduceIte]
        refine Inv.code hE hab I5 rfl (fl_inc hk64) ?_
        intro a6 W6 I6
        simp only [↓reduceIte]
        refine ⟨n + 1 - (k + 1), by omega, k + 1, by omega, rfl, ?_⟩
        rw [staK, durK_succ, spdK_succ]
        exact I6
      · intro a4 W4 I4
        simp only [↓reduceIte]
        refine WY.cond (t := true) (I4.bool rfl) (fun _ => WY.ret ?_) (fun h => by cases h)
        simp only [reduceCtorEq, ↓reduceIte]
        exact ⟨fun _ h => (by cases h), .inr ⟨_, _, I4⟩⟩
    · refine Inv.code hE hab I2 rfl (fl_stop (by omega)) ?_
      intro a3 W3 I3
      simp only [reduceCtorEq, ↓reduceIte]
      have : k = n + 1 := by omega
      subst this
      exact ⟨fun _ h => (by cases h), .inl ⟨_, by rw [fls_len]; exact I3⟩⟩

theorem flights_ok {u a e : Rat} {n : Nat} (h : SzS u a e) (hn : n ≤ 64) : ItOk Try.prog n_bounce_Series_flights_1 [.rp (cS u a e), .rp [iv n]] (fls u a e n) := by
  refine it_ok (Γ := @G noIts) env_ok0 (cf := bounce_Series_flights_1) Try.func75 bounce_Series_flights_1_c ?_ rfl rfl ?_
  · intro b hb
    have : (Try.f75.body.map okY) = some true := by kernel_rfl
    rw [hb] at this
    simpa using this
  · intro n' l S w0 J Jx ac W hab habx hans hI
    exact fl_walk h hn hab habx hans hI
end Go.AM

/- The seat's iterators; bounce.Flight. -/
namespace Go.AM
open Go Go.RowKit Go.Proofs

def YFl (f : Nat) (ds : List D) (xs : List (List D)) : Prop := ∃ u a e n, SzS u a e ∧ n ≤ 64 ∧ f = n_bounce_Series_flights_1 ∧ ds = [.rp (cS u a e), .rp [iv (n : Nat)]] ∧ xs = fls u a e n
def YBw (f : Nat) (ds : List D) (xs : List (List D)) : Prop := ∃ d l, RwR d l ∧ l.length ≤ 140737488351232 ∧ f = n_slices_Backward_api_Poly_api_Rat_1 ∧ ds = [.rp [d]] ∧ xs = bkw l
def Yields (f : Nat) (ds : List D) (xs : List (List D)) : Prop := YFl f ds xs ∨ YBw f ds xs
open Classical in
noncomputable instance its17 : Its := ⟨fun f ds => if h : ∃ xs, Yields f ds xs then some (Classical.choose h) else none⟩
open Classical in
theorem its_flights {u a e : Rat} {n : Nat} (h : SzS u a e) (hn : n ≤ 64) : Its.it n_bounce_Series_flights_1 [.rp (cS u a e), .rp [iv (n : Nat)]] = some (fls u a e n) := by
  have hex : ∃ xs, Yields n_bounce_Series_flights_1 [.rp (cS u a e), .rp [iv (n : Nat)]] xs := ⟨_, .inl ⟨u, a, e, n, h, hn, rfl, rfl, rfl⟩⟩
  show (if h : ∃ xs, Yields n_bounce_Series_flights_1 [.rp (cS u a e), .rp [iv (n : Nat)]] xs then some (Classical.choose h) else none) = _
  rw [dif_pos hex]
  rcases Classical.choose_spec hex with ⟨u', a', e', n', _, _, _, h2, h3⟩ | ⟨_, _, _, _, h2, _⟩
  · rw [h3]
    simp only [List.cons.injEq, D.rp.injEq, and_true] at h2
    obtain ⟨h4, h5⟩ := h2
    obtain ⟨rfl, rfl, rfl⟩ := cS_inj h4
    have := iv_inj h5
    have : n = n' := by omega
    rw [this]
  · exact absurd h2 (by decide)
open Classical in
instance itsB17 : ItsB := ⟨fun {d l} hr hl => by
  have hex : ∃ xs, Yields n_slices_Backward_api_Poly_api_Rat_1 [.rp [d]] xs := ⟨_, .inr ⟨d, l, hr, hl, rfl, rfl, rfl⟩⟩
  show (if h : ∃ xs, Yields n_slices_Backward_api_Poly_api_Rat_1 [.rp [d]] xs then some (Classical.choose h) else none) = _
  rw [dif_pos hex]
  rcases Classical.choose_spec hex with ⟨_, _, _, _, _, _, h2, _⟩ | ⟨d', l', hr', _, _, h2, h3⟩
  · exact absurd h2 (by decide)
  · rw [h3]
    simp only [List.cons.injEq, D.rp.injEq, and_true] at h2
    subst h2
    rw [hr.inj hr']⟩
open Classical in
theorem env17 : EnvOk Try.prog G := env_ok fun f ds xs h => by
  have h' : (if h : ∃ xs, Yields f ds xs then some (Classical.choose h) else none) = some xs := h
  split at h'
  · rename_i hex
    rcases Classical.choose_spec hex with ⟨u, a, e, n, h1, h2, h3, h4, h5⟩ | ⟨d, l, h1, h2, h3, h4, h5⟩
    · cases h'
      rw [h5, h4, h3]
      exact flights_ok h1 h2
    · cases h'
      rw [h5, h4, h3]
      exact backward_ok h1 h2
  · cases h'

def fc_fr : Fr := frL [(4, .ptr [4] 0), (5, .ptr [5] 0), (6, .ptr [6] 0), (7, .ptr [7] 0)]
def fc_hp (F : Obj) : Hp := hpL [([4], boxR0), ([5], boxR0), ([6], boxR0), ([7], F)]
theorem fc_round {k k' : Int} {s d v s' d' v' : Rat} {xs : List (List D)} : rounds (X G) [23] bounce_Flight_a0 bounce_Flight_b0 fc_fr [] ([encF k s d v] :: xs) (fc_hp (boxF k' s' d' v')) = rounds (X G) [23] bounce_Flight_a0 bounce_Flight_b0 fc_fr [] xs (fc_hp (boxF k s d v)) := by
  simp -implicitDefEqProofs (maxSteps := 10000000) only [rounds, bounce_Flight_a0, bounce_Flight_b0, fc_fr, fc_hp, boxF, encF, boxR0, putL, go_sem, stcells, ldcells, iv, bv, reduceCtorEq, ↓reduceIte, Nat.reduceEqDiff]
theorem fc_rounds {u a e : Rat} {n : Nat} : ∀ (j k : Nat) (F : Obj), (∃ k' s' d' v', F = boxF k' s' d' v') → rounds (X G) [23] bounce_Flight_a0 bounce_Flight_b0 fc_fr [] ((List.range' k (j + 1)).map (flsK u a e)) (fc_hp F) = some (.n, ⟨fc_fr, fc_hp (boxF ((k + j : Nat) : Int) (staK u a e (k + j)) (durK u a e (k + j)) (spdK u e (k + j))), []⟩)
  | 0, k, F, ⟨k', s', d', v', hF⟩ => by
    rw [hF]
    show rounds _ _ _ _ _ _ [[encF k _ _ _]] _ = _
    rw [fc_round]; rfl
  | j + 1, k, F, ⟨k', s', d', v', hF⟩ => by
    rw [hF, List.range'_succ, List.map_cons]
    have ih := fc_rounds (u := u) (a := a) (e := e) (n := n) j (k + 1) (boxF k (staK u a e k) (durK u a e k) (spdK u e k)) ⟨_, _, _, _, rfl⟩
    rw [show k + 1 + j = k + (j + 1) by omega] at ih
    show rounds _ _ _ _ _ _ ([encF k _ _ _] :: _) _ = _
    rw [fc_round]
    exact ih

theorem bFlight_spec {u a e : Rat} {n : Int} (h : SzS u a e) : callX G n_bounce_Flight [encS u a e, iv n] = some (.d (if okS u a e = true ∧ inS n = true then .tup [encR (staK u a e n.toNat), encR (durK u a e n.toNat), encR (spdK u e n.toNat)] else .tup [encR 0, encR 0, encR 0])) := by
  rw [callX_eq (cf := bounce_Flight) rfl]
  have g0 := bValid_spec h
  have g1 := within_spec n
  by_cases ho : okS u a e = true
  · rw [ho] at g0
    by_cases hi : inS n = true
    · rw [hi] at g1
      rw [if_pos ⟨ho, hi⟩]
      simp only [inS, Bool.and_eq_true, decide_eq_true_eq] at hi
      obtain ⟨m, rfl⟩ : ∃ m : Nat, n = (m : Int) := ⟨n.toNat, by omega⟩
      rw [Int.toNat_natCast]
      have g2 := flights_spec (u := u) (a := a) (e := e) (n := (m : Int))
      have hit : (G).it n_bounce_Series_flights_1 [.rp (cS u a e), .rp [iv (m : Nat)]] = some (fls u a e m) := its_flights h (by omega)
      have hl := fc_rounds (u := u) (a := a) (e := e) (n := m) m 0 (boxF 0 0 0 0) ⟨_, _, _, _, rfl⟩
      rw [← List.range_eq_range', Nat.zero_add] at hl
      have e0 : boxF 0 0 0 0 = ⟨0, 0, [.d (.v (.int .i64 0)), .d (.v (.bool false)), .d (.z true), .d (.v (.bool false)), .d (.z true), .d (.v (.bool false)), .d (.z true), .d (.v (.bool false)), .d (.z true), .d (.v (.bool false)), .d (.z true), .d (.v (.bool false)), .d (.z true)], false⟩ := by
        have ez : decide ((0 : Rat).num < 0) = false := rfl
        have ez2 : dg (digs (0 : Rat).num.natAbs) = .z true := by rw [Rat.zero_num, show (0 : Int).natAbs = 0 from rfl, digs_zero]; rfl
        have ez3 : dg (dd (0 : Rat).den) = .z true := rfl
        rw [boxF, ez, ez2, ez3]
      rw [e0] at hl
      have e1 : fls u a e m = (List.range (m + 1)).map (flsK u a e) := rfl
      rw [← e1] at hl
      have hA : bounce_Flight_a0.holds [[4], [5], [6], [7]] = true := rfl
      have hB : bounce_Flight_b0.holds [[4], [5], [6], [7]] = true := rfl
      generalize fls u a e m = XS at *
      generalize staK u a e m = s at *
      generalize durK u a e m = d at *
      generalize spdK u e m = v at *
      simp only [encR, encS, cS, bv, iv] at g0 g1 g2 hit
      simp only [fc_fr, fc_hp, boxF, boxR0, go_sem] at hl
      simp -implicitDefEqProofs (maxSteps := 10000000) only [bounce_Flight, X_rfn, plainF, hA, hB, hit, hl, encR, encS, toDs, apartS, ne_eq, not_false_eq_true, go_sem, stcells, ldcells, iv, bv, g0, g1, g2, reduceCtorEq, ↓reduceIte, Nat.reduceEqDiff]
    · rw [eq_false_of_ne_true hi] at g1
      rw [if_neg (fun h => hi h.2), encR_zero]
      simp only [encR, encS, bv, iv] at g0 g1
      simp -implicitDefEqProofs (maxSteps := 10000000) only [bounce_Flight, encR, encS, toDs, apartS, ne_eq, not_false_eq_true, go_sem, stcells, ldcells, iv, bv, g0, g1, reduceCtorEq, ↓reduceIte, Nat.reduceEqDiff]
  · rw [eq_false_of_ne_true ho] at g0
    rw [if_neg (fun h => ho h.1), encR_zero]
    simp only [encR, encS, bv, iv] at g0
    simp -implicitDefEqProofs (maxSteps := 10000000) only [bounce_Flight, encR, encS, toDs, apartS, ne_eq, not_false_eq_true, go_sem, stcells, ldcells, iv, bv, g0, reduceCtorEq, ↓reduceIte, Nat.reduceEqDiff]
end Go.AM

/- bounce.Loss, Height. -/
namespace Go.AM
open Go Go.RowKit Go.Proofs

theorem bLoss_spec {u a e : Rat} {n : Int} (h : SzS u a e) : callX G n_bounce_Loss [encS u a e, iv n] = some (.d (encR (if okS u a e = true ∧ inS n = true then u * u - spdK u e n.toNat * spdK u e n.toNat else 0))) := by
  rw [callX_eq (cf := bounce_Loss) rfl]
  have g0 := bValid_spec h
  have g1 := within_spec n
  by_cases ho : okS u a e = true
  · rw [ho] at g0
    by_cases hi : inS n = true
    · rw [hi] at g1
      rw [if_pos ⟨ho, hi⟩]
      simp only [inS, Bool.and_eq_true, decide_eq_true_eq] at hi
      obtain ⟨m, rfl⟩ : ∃ m : Nat, n = (m : Int) := ⟨n.toNat, by omega⟩
      rw [Int.toNat_natCast]
      have hs := spdK_sz h (k := m) (by omega)
      obtain ⟨h1, h2, h3⟩ := h
      have hp := pow_sz h3 (k := m) (by omega)
      have g2 := bone_spec
      have g3 := bPower_spec h3 (n := m) (by omega)
      have g4 := ratMul_spec (a := u) (b := e ^ m) (by omega) (by omega)
      have g5 := ratMul_spec (a := u) (b := u) (by omega) (by omega)
      have e1 : u * e ^ m = spdK u e m := rfl
      rw [e1] at g4
      clear e1
      have g6 := ratMul_spec (a := spdK u e m) (b := spdK u e m) (by omega) (by omega)
      have k1 := sz_mul (a := u) (b := u)
      have k2 := sz_mul (a := spdK u e m) (b := spdK u e m)
      have g7 := ratSub_spec (a := u * u) (b := spdK u e m * spdK u e m) (by omega) (by omega)
      clear k1 k2 hs
      generalize u * u - spdK u e m * spdK u e m = r at *
      generalize spdK u e m * spdK u e m = q at *
      generalize spdK u e m = s at *
      generalize e ^ m = p at *
      generalize u * u = uu at *
      generalize (1 : Rat) = one at *
      simp only [encR, encS, bv, iv] at g0 g1 g2 g3 g4 g5 g6 g7
      simp -implicitDefEqProofs (maxSteps := 10000000) only [bounce_Loss, encR, encS, go_sem, stcells, ldcells, iv, bv, g0, g1, g2, g3, g4, g5, g6, g7, reduceCtorEq, ↓reduceIte, Nat.reduceEqDiff]
    · rw [eq_false_of_ne_true hi] at g1
      rw [if_neg (fun h => hi h.2), encR_zero]
      simp only [encR, encS, bv, iv] at g0 g1
      simp -implicitDefEqProofs (maxSteps := 10000000) only [bounce_Loss, encR, encS, go_sem, stcells, ldcells, iv, bv, g0, g1, reduceCtorEq, ↓reduceIte, Nat.reduceEqDiff]
  · rw [eq_false_of_ne_true ho] at g0
    rw [if_neg (fun h => ho h.1), encR_zero]
    simp only [encR, encS, bv, iv] at g0
    simp -implicitDefEqProofs (maxSteps := 10000000) only [bounce_Loss, encR, encS, go_sem, stcells, ldcells, iv, bv, g0, reduceCtorEq, ↓reduceIte, Nat.reduceEqDiff]

/-! ### Height -/
def boxI1 (x : Int) : Obj := ⟨0, 0, [.d (.v (.int .i64 x))], false⟩
def boxS (u a e : Rat) : Obj := ⟨0, 0, (cS u a e).map A.d, false⟩
def fallK (u a e t : Rat) (k : Nat) : Rat := spdK u e k * (t - staK u a e k) - Rat.divInt 1 2 * (a * ((t - staK u a e k) * (t - staK u a e k)))
def bh_fr : Fr := frL [(3, .ptr [3] 0), (4, .ptr [4] 0), (6, .ptr [6] 0), (7, .ptr [7] 0), (8, .ptr [8] 0)]
def bh_hp (u a e t : Rat) (R : Obj) (k x : Int) : Hp := hpL [([3], boxS u a e), ([4], boxR t), ([6], R), ([7], boxI1 k), ([8], boxI1 x)]
def bh_hp2 (u a e t : Rat) (R : Obj) (k x : Int) : Hp := hpL [([6], R), ([7], boxI1 k), ([8], boxI1 x), ([3], boxS u a e), ([4], boxR t)]
theorem sz_half : sz (Rat.divInt 1 2) ≤ 3 := sz_divInt (by omega) (Nat.le_trans (Nat.le_of_eq nd_one) (by omega)) (nd_i64 ⟨by omega, by omega⟩)
theorem bh_sz {u a e t : Rat} (h : SzS u a e) (ht : sz t ≤ 100000000) {k : Nat} (hk : k ≤ 64) : sz (t - staK u a e k) ≤ 45000000000 := by
  have h1 := staK_sz h k (by omega)
  have h2 := sz_sub (a := t) (b := staK u a e k)
  have : k * 700000001 ≤ 64 * 700000001 := Nat.mul_le_mul_right _ hk
  omega
theorem bh_no {u a e t : Rat} (h : SzS u a e) (ht : sz t ≤ 100000000) {k : Nat} (hk : k ≤ 64) (hn : ¬ t - staK u a e k < durK u a e k) {xs : List (List D)} : rounds (X G) [38] bounce_Height_a0 bounce_Height_b0 bh_fr [] (flsK u a e k :: xs) (bh_hp u a e t boxR0 0 0) = rounds (X G) [38] bounce_Height_a0 bounce_Height_b0 bh_fr [] xs (bh_hp u a e t boxR0 0 0) := by
  have hs := bh_sz h ht hk
  have h1 := staK_sz h k (by omega)
  have h1' : k * 700000001 ≤ 64 * 700000001 := Nat.mul_le_mul_right _ hk
  have h2 := durK_sz h hk
  have g1 := ratSub_spec (a := t) (b := staK u a e k) (by omega) (by omega)
  have g2 := ratCompare_spec (a := t - staK u a e k) (b := durK u a e k) (by omega) (by omega)
  have e1 : (cmpR (t - staK u a e k) (durK u a e k) == -1) = false := beq_f (fun hc => hn (cmpR_lt.1 (by omega)))
  unfold flsK
  clear hn hs h1 h2
  generalize t - staK u a e k = r at *
  generalize staK u a e k = s at *
  generalize durK u a e k = d at *
  generalize spdK u e k = v at *
  generalize cmpR r d = c at *
  simp only [encR, encS, bv, iv] at g1 g2
  simp -implicitDefEqProofs (maxSteps := 10000000) only [rounds, bounce_Height_a0, bounce_Height_b0, bh_fr, bh_hp, boxS, cS, boxI1, boxR, encF, boxR0, putL, go_sem, stcells, ldcells, iv, bv, g1, g2, e1, reduceCtorEq, ↓reduceIte, Nat.reduceEqDiff]
theorem bh_yes {u a e t : Rat} (h : SzS u a e) (ht : sz t ≤ 100000000) {k : Nat} (hk : k ≤ 64) (hn : t - staK u a e k < durK u a e k) {xs : List (List D)} : rounds (X G) [38] bounce_Height_a0 bounce_Height_b0 bh_fr [] (flsK u a e k :: xs) (bh_hp u a e t boxR0 0 0) = some (.r, ⟨bh_fr, bh_hp2 u a e t (boxR (fallK u a e t k)) k 0, []⟩) := by
  have hs := bh_sz h ht hk
  have h1 := staK_sz h k (by omega)
  have h1' : k * 700000001 ≤ 64 * 700000001 := Nat.mul_le_mul_right _ hk
  have h2 := durK_sz h hk
  have h3 := spdK_sz h hk
  have g1 := ratSub_spec (a := t) (b := staK u a e k) (by omega) (by omega)
  have g2 := ratCompare_spec (a := t - staK u a e k) (b := durK u a e k) (by omega) (by omega)
  have e1 : (cmpR (t - staK u a e k) (durK u a e k) == -1) = true := by
    have h5 := cmpR_lt.2 hn
    apply beq_t
    unfold cmpR at h5 ⊢
    exact Int.sign_eq_neg_one_of_neg (Int.sign_neg_iff.1 h5)
  have g3 := ratOf_spec (n := 1) (d := 2) ⟨by omega, by omega⟩ ⟨by omega, by omega⟩
  unfold flsK fallK
  have k0 := sz_half
  clear hn h1 h2
  obtain ⟨q1, q2, q3⟩ := h
  generalize t - staK u a e k = r at *
  generalize staK u a e k = s at *
  generalize durK u a e k = d at *
  generalize spdK u e k = v at *
  generalize cmpR r d = c at *
  generalize Rat.divInt 1 2 = hf2 at *
  have g4 := ratMul_spec (a := r) (b := r) (by omega) (by omega)
  have k1 := sz_mul (a := r) (b := r)
  have g5 := ratMul_spec (a := a) (b := r * r) (by omega) (by omega)
  have k2 := sz_mul (a := a) (b := r * r)
  have g6 := ratMul_spec (a := hf2) (b := a * (r * r)) (by omega) (by omega)
  have k3 := sz_mul (a := hf2) (b := a * (r * r))
  have g7 := ratMul_spec (a := v) (b := r) (by omega) (by omega)
  have k4 := sz_mul (a := v) (b := r)
  have g8 := ratSub_spec (a := v * r) (b := hf2 * (a * (r * r))) (by omega) (by omega)
  generalize v * r - hf2 * (a * (r * r)) = z1 at *
  generalize v * r = z2 at *
  generalize hf2 * (a * (r * r)) = z3 at *
  generalize a * (r * r) = z4 at *
  generalize r * r = z5 at *
  simp only [encR, encS, bv, iv] at g1 g2 g3 g4 g5 g6 g7 g8
  simp -implicitDefEqProofs (maxSteps := 10000000) only [rounds, bounce_Height_a0, bounce_Height_b0, bh_fr, bh_hp, bh_hp2, boxS, cS, boxI1, boxR, encF, boxR0, putL, go_sem, stcells, ldcells, iv, bv, g1, g2, g3, g4, g5, g6, g7, g8, e1, apartS, ne_eq, not_false_eq_true, reduceCtorEq, ↓reduceIte, Nat.reduceEqDiff]
def hit (u a e t : Rat) (k : Nat) : Bool := decide (t - staK u a e k < durK u a e k)
theorem bh_rounds {u a e t : Rat} (h : SzS u a e) (ht : sz t ≤ 100000000) : ∀ (j k : Nat), k + j ≤ 65 → rounds (X G) [38] bounce_Height_a0 bounce_Height_b0 bh_fr [] ((List.range' k j).map (flsK u a e)) (bh_hp u a e t boxR0 0 0) =
    match (List.range' k j).find? (hit u a e t) with
    | some i => some (.r, ⟨bh_fr, bh_hp2 u a e t (boxR (fallK u a e t i)) i 0, []⟩)
    | none => some (.n, ⟨bh_fr, bh_hp u a e t boxR0 0 0, []⟩)
  | 0, k, _ => rfl
  | j + 1, k, hk => by
    rw [List.range'_succ, List.map_cons, List.find?_cons]
    by_cases hh : t - staK u a e k < durK u a e k
    · have e1 : hit u a e t k = true := decide_eq_true hh
      rw [bh_yes h ht (by omega) hh, e1]
    · have e1 : hit u a e t k = false := decide_eq_false hh
      rw [bh_no h ht (by omega) hh, e1]
      exact bh_rounds h ht j (k + 1) (by omega)

/-- What Height answers. -/
def hgt (u a e t : Rat) (most : Int) : Rat × Int × Int :=
  if okS u a e = true ∧ 0 ≤ t ∧ inS most = true then
    if limS u a e ≤ t then (0, 0, 5)
    else match (List.range (most.toNat + 1)).find? (hit u a e t) with
      | some i => (fallK u a e t i, i, 0)
      | none => (0, 0, 4)
  else (0, 0, 1)
def encH (p : Rat × Int × Int) : D := .tup [encR p.1, iv p.2.1, iv p.2.2]

theorem bHeight_spec {u a e t : Rat} {n : Int} (h : SzS u a e) (ht : sz t ≤ 100000000) : callX G n_bounce_Height [encS u a e, encR t, iv n] = some (.d (encH (hgt u a e t n))) := by
  rw [callX_eq (cf := bounce_Height) rfl]
  have g0 := bValid_spec h
  have g1 := within_spec n
  have g2 := ratSign_spec t
  have e2 := sign_lt (x := t)
  unfold hgt
  by_cases ho : okS u a e = true
  · rw [ho] at g0
    by_cases h0 : 0 ≤ t
    · rw [decide_eq_false (show ¬ t < 0 from fun hc => Rat.not_le.2 hc h0)] at e2
      by_cases hi : inS n = true
      · rw [hi] at g1
        rw [if_pos ⟨ho, h0, hi⟩]
        simp only [inS, Bool.and_eq_true, decide_eq_true_eq] at hi
        obtain ⟨m, rfl⟩ : ∃ m : Nat, n = (m : Int) := ⟨n.toNat, by omega⟩
        rw [Int.toNat_natCast]
        have g3 := bLimit_spec h
        rw [if_pos ho] at g3
        have k3 := (sz_lim h).2.2.2
        have g4 := ratCompare_spec (a := t) (b := limS u a e) (by omega) (by omega)
        have e4 := cmR_ge (a := t) (b := limS u a e)
        by_cases hl : limS u a e ≤ t
        · rw [if_pos hl, encH, encR_zero]
          rw [decide_eq_true hl] at e4
          generalize limS u a e = L at *
          simp only [encR, encS, bv, iv] at g0 g1 g2 g3 g4
          simp -implicitDefEqProofs (maxSteps := 10000000) only [bounce_Height, encR, encS, toDs, apartS, ne_eq, not_false_eq_true, go_sem, stcells, ldcells, iv, bv, g0, g1, g2, g3, g4, e2, e4, reduceCtorEq, ↓reduceIte, Nat.reduceEqDiff]
        · rw [if_neg hl]
          rw [decide_eq_false hl] at e4
          have g5 := flights_spec (u := u) (a := a) (e := e) (n := (m : Int))
          have hit' : (G).it n_bounce_Series_flights_1 [.rp (cS u a e), .rp [iv (m : Nat)]] = some (fls u a e m) := its_flights h (by omega)
          have hr := bh_rounds h ht (m + 1) 0 (by omega)
          rw [← List.range_eq_range'] at hr
          have e1 : fls u a e m = (List.range (m + 1)).map (flsK u a e) := rfl
          rw [← e1] at hr
          clear e1
          have hA : bounce_Height_a0.holds [[3], [4], [6], [7], [8]] = true := rfl
          have hB : bounce_Height_b0.holds [[3], [4], [6], [7], [8]] = true := rfl
          generalize fls u a e m = XS at *
          generalize limS u a e = L at *
          cases hf : (List.range (m + 1)).find? (hit u a e t) with
          | some i =>
            rw [hf] at hr
            rw [encH]
            dsimp only at hr ⊢
            generalize fallK u a e t i = z at *
            simp only [encR, encS, cS, bv, iv] at g0 g1 g2 g3 g4 g5 hit'
            simp only [bh_fr, bh_hp, bh_hp2, boxS, cS, List.map_cons, List.map_nil, boxI1, boxR, boxR0, go_sem] at hr
            simp -implicitDefEqProofs (maxSteps := 10000000) only [bounce_Height, X_rfn, plainF, hA, hB, hit', hr, encR, encS, toDs, apartS, ne_eq, not_false_eq_true, go_sem, stcells, ldcells, iv, bv, g0, g1, g2, g3, g4, g5, e2, e4, reduceCtorEq, ↓reduceIte, Nat.reduceEqDiff]
          | none =>
            rw [hf] at hr
            rw [encH, encR_zero]
            dsimp only at hr ⊢
            simp only [encR, encS, cS, bv, iv] at g0 g1 g2 g3 g4 g5 hit'
            simp only [bh_fr, bh_hp, bh_hp2, boxS, cS, List.map_cons, List.map_nil, boxI1, boxR, boxR0, go_sem] at hr
            simp -implicitDefEqProofs (maxSteps := 10000000) only [bounce_Height, X_rfn, plainF, hA, hB, hit', hr, encR, encS, toDs, apartS, ne_eq, not_false_eq_true, go_sem, stcells, ldcells, iv, bv, g0, g1, g2, g3, g4, g5, e2, e4, reduceCtorEq, ↓reduceIte, Nat.reduceEqDiff]
      · rw [eq_false_of_ne_true hi] at g1
        rw [if_neg (fun h => hi h.2.2), encH, encR_zero]
        simp only [encR, encS, bv, iv] at g0 g1 g2
        simp -implicitDefEqProofs (maxSteps := 10000000) only [bounce_Height, encR, encS, toDs, apartS, ne_eq, not_false_eq_true, go_sem, stcells, ldcells, iv, bv, g0, g1, g2, e2, reduceCtorEq, ↓reduceIte, Nat.reduceEqDiff]
    · rw [decide_eq_true (Rat.not_le.1 h0)] at e2
      rw [if_neg (fun h => h0 h.2.1), encH, encR_zero]
      simp only [encR, encS, bv, iv] at g0 g2
      simp -implicitDefEqProofs (maxSteps := 10000000) only [bounce_Height, encR, encS, toDs, apartS, ne_eq, not_false_eq_true, go_sem, stcells, ldcells, iv, bv, g0, g2, e2, reduceCtorEq, ↓reduceIte, Nat.reduceEqDiff]
  · rw [eq_false_of_ne_true ho] at g0
    rw [if_neg (fun h => ho h.1), encH, encR_zero]
    simp only [encR, encS, bv, iv] at g0
    simp -implicitDefEqProofs (maxSteps := 10000000) only [bounce_Height, encR, encS, toDs, apartS, ne_eq, not_false_eq_true, go_sem, stcells, ldcells, iv, bv, g0, reduceCtorEq, ↓reduceIte, Nat.reduceEqDiff]
end Go.AM

/- law17.lives. -/
namespace Go.AM
open Go Go.RowKit Go.Proofs

theorem liv_sz : SzS 2 1 (Rat.divInt 1 2) := ⟨Nat.le_trans sz_two (by omega), by rw [sz_one_]; omega, Nat.le_trans sz_half (by omega)⟩
theorem szi (n : Int) (h : I64 n) : sz (n : Rat) ≤ 100000000 := Nat.le_trans (sz_int h) (by omega)
theorem lives_spec : callX G n_gantrylaw17_lives [] = some (.d (bv true)) := by
  rw [callX_eq (cf := gantrylaw17_lives) rfl]
  have c1 : okS 2 1 (Rat.divInt 1 2) = true := by kernel_rfl
  have c2 : inS 1 = true := rfl
  have w : ∀ n : Int, I64 n → callX G n_gantrylaw17_whole [iv n] = some (.d (encR (n : Rat))) := fun n h => lwhole_spec h
  have w1 : callX G n_gantrylaw17_whole [iv 1] = some (.d (encR 1)) := w 1 ⟨by omega, by omega⟩
  have w2 : callX G n_gantrylaw17_whole [iv 2] = some (.d (encR 2)) := w 2 ⟨by omega, by omega⟩
  have w3 : callX G n_gantrylaw17_whole [iv 3] = some (.d (encR 3)) := w 3 ⟨by omega, by omega⟩
  have w4 : callX G n_gantrylaw17_whole [iv 4] = some (.d (encR 4)) := w 4 ⟨by omega, by omega⟩
  have w5 : callX G n_gantrylaw17_whole [iv 5] = some (.d (encR 5)) := w 5 ⟨by omega, by omega⟩
  have w7 : callX G n_gantrylaw17_whole [iv 7] = some (.d (encR 7)) := w 7 ⟨by omega, by omega⟩
  have w8 : callX G n_gantrylaw17_whole [iv 8] = some (.d (encR 8)) := w 8 ⟨by omega, by omega⟩
  have s1 : sz 1 ≤ 100000000 := szi 1 ⟨by omega, by omega⟩
  have s2 : sz 2 ≤ 100000000 := szi 2 ⟨by omega, by omega⟩
  have s3 : sz 3 ≤ 100000000 := szi 3 ⟨by omega, by omega⟩
  have s4 : sz 4 ≤ 100000000 := szi 4 ⟨by omega, by omega⟩
  have s5 : sz 5 ≤ 100000000 := szi 5 ⟨by omega, by omega⟩
  have s7 : sz 7 ≤ 100000000 := szi 7 ⟨by omega, by omega⟩
  have s8 : sz 8 ≤ 100000000 := szi 8 ⟨by omega, by omega⟩
  have sh := sz_half
  have o := rratOf_spec (n := 1) (d := 2) ⟨by omega, by omega⟩ ⟨by omega, by omega⟩
  have gF := bFlight_spec (n := 1) liv_sz
  rw [if_pos ⟨c1, c2⟩] at gF
  have t1 : (1 : Int).toNat = 1 := rfl
  rw [t1] at gF
  have f1 : staK 2 1 (Rat.divInt 1 2) 1 = 4 := by kernel_rfl
  have f2 : durK 2 1 (Rat.divInt 1 2) 1 = 2 := by kernel_rfl
  have f3 : spdK 2 (Rat.divInt 1 2) 1 = 1 := by kernel_rfl
  rw [f1, f2, f3] at gF
  have gH1 := bHeight_spec (n := 10) liv_sz s5
  have gH2 := bHeight_spec (n := 10) liv_sz s8
  have gH3 := bHeight_spec (n := 0) liv_sz s5
  have h1 : hgt 2 1 (Rat.divInt 1 2) 5 10 = (Rat.divInt 1 2, 1, 0) := by kernel_rfl
  have h2 : hgt 2 1 (Rat.divInt 1 2) 8 10 = (0, 0, 5) := by kernel_rfl
  have h3 : hgt 2 1 (Rat.divInt 1 2) 5 0 = (0, 0, 4) := by kernel_rfl
  rw [h1, encH] at gH1
  rw [h2, encH] at gH2
  rw [h3, encH] at gH3
  have gL := bLimit_spec liv_sz
  rw [if_pos c1] at gL
  have l1 : limS 2 1 (Rat.divInt 1 2) = 8 := by kernel_rfl
  rw [l1] at gL
  have gS := bLoss_spec (n := 1) liv_sz
  rw [if_pos ⟨c1, c2⟩, t1] at gS
  have l2 : (2 : Rat) * 2 - spdK 2 (Rat.divInt 1 2) 1 * spdK 2 (Rat.divInt 1 2) 1 = 3 := by kernel_rfl
  rw [l2] at gS
  have gE1 := bEnds_spec (t := 8) liv_sz (by omega)
  have gE2 := bEnds_spec (t := 7) liv_sz (by omega)
  have l3 : (okS 2 1 (Rat.divInt 1 2) && decide (limS 2 1 (Rat.divInt 1 2) ≤ 8)) = true := by kernel_rfl
  have l4 : (okS 2 1 (Rat.divInt 1 2) && decide (limS 2 1 (Rat.divInt 1 2) ≤ 7)) = false := by kernel_rfl
  rw [l3] at gE1
  rw [l4] at gE2
  have m8 := lsame_spec (a := 8) (b := 8) (by omega) (by omega)
  have m4 := lsame_spec (a := 4) (b := 4) (by omega) (by omega)
  have m2 := lsame_spec (a := 2) (b := 2) (by omega) (by omega)
  have m1 := lsame_spec (a := 1) (b := 1) (by omega) (by omega)
  have m3 := lsame_spec (a := 3) (b := 3) (by omega) (by omega)
  have mh := lsame_spec (a := Rat.divInt 1 2) (b := Rat.divInt 1 2) (by omega) (by omega)
  rw [decide_eq_true rfl] at m8 m4 m2 m1 m3 mh
  have i1 : ((1 : Int) == 1) = true := rfl
  have i0 : ((0 : Int) == 0) = true := rfl
  have i5 : ((5 : Int) == 5) = true := rfl
  have i4 : ((4 : Int) == 4) = true := rfl
  clear w c1 c2 s1 s2 s3 s4 s5 s7 s8 sh t1 f1 f2 f3 h1 h2 h3 l1 l2 l3 l4
  generalize Rat.divInt 1 2 = qh at *
  generalize (1 : Rat) = q1 at *
  generalize (2 : Rat) = q2 at *
  generalize (3 : Rat) = q3 at *
  generalize (4 : Rat) = q4 at *
  generalize (5 : Rat) = q5 at *
  generalize (7 : Rat) = q7 at *
  generalize (8 : Rat) = q8 at *
  generalize (0 : Rat) = q0 at *
  simp only [encR, encS, bv, iv] at w1 w2 w3 w4 w5 w7 w8 o gF gH1 gH2 gH3 gL gS gE1 gE2 m8 m4 m2 m1 m3 mh
  simp -implicitDefEqProofs (maxSteps := 10000000) only [gantrylaw17_lives, go_sem, stcells, ldcells, iv, bv, w1, w2, w3, w4, w5, w7, w8, o, gF, gH1, gH2, gH3, gL, gS, gE1, gE2, m8, m4, m2, m1, m3, mh, i1, i0, i5, i4, toDs, apartS, ne_eq, not_false_eq_true, reduceCtorEq, ↓reduceIte, Nat.reduceEqDiff]
end Go.AM

/- ref17: duration, Flight, Loss; law17.given; ref01.Around, At. -/
namespace Go.AM
open Go Go.RowKit Go.Proofs

def rdurK (u a e : Rat) (k : Nat) : Rat := (u + u) * e ^ k / a
theorem rDuration_spec {u a e : Rat} (h : SzS u a e) {m : Nat} (hm : m ≤ 64) : callX G n_gantryref17_duration [encS u a e, iv (m : Int)] = some (.d (encR (rdurK u a e m))) := by
  rw [callX_eq (cf := gantryref17_duration) rfl]
  obtain ⟨h1, h2, h3⟩ := h
  have g1 := rwhole_spec (n := 2) ⟨by omega, by omega⟩
  have e3 : ((2 : Int) : Rat) = 2 := rfl
  rw [e3] at g1
  have g2 := rratMul_spec (a := 2) (b := u) (by have := sz_two; omega) (by omega)
  rw [two_mul_] at g2
  have g3 := rPower_spec h3 hm
  have hp := pow_sz h3 hm
  have k1 := sz_add (a := u) (b := u)
  have g4 := rratMul_spec (a := u + u) (b := e ^ m) (by omega) (by omega)
  have k2 := sz_mul (a := u + u) (b := e ^ m)
  have g5 := rratDiv_spec (a := (u + u) * e ^ m) (b := a) (by omega) (by omega)
  have e1 : (u + u) * e ^ m / a = rdurK u a e m := rfl
  rw [e1] at g5
  clear e1 e3 hp k1 k2
  generalize rdurK u a e m = r at *
  generalize (u + u) * e ^ m = q at *
  generalize e ^ m = p at *
  generalize u + u = uu at *
  generalize (2 : Rat) = two at *
  simp only [encR, encS, bv, iv] at g1 g2 g3 g4 g5
  simp -implicitDefEqProofs (maxSteps := 10000000) only [gantryref17_duration, encR, encS, go_sem, stcells, ldcells, iv, bv, g1, g2, g3, g4, g5, reduceCtorEq, ↓reduceIte, Nat.reduceEqDiff]

theorem rdur_sz {u a e : Rat} (h : SzS u a e) {m : Nat} (hm : m ≤ 64) : sz (rdurK u a e m) ≤ 700000000 := by
  obtain ⟨h1, h2, h3⟩ := h
  have hp := pow_sz h3 hm
  have k1 := sz_add (a := u) (b := u)
  have k2 := sz_mul (a := u + u) (b := e ^ m)
  have k3 := sz_div (a := (u + u) * e ^ m) (b := a)
  unfold rdurK; omega

theorem rFlight_spec {u a e : Rat} {n : Int} (h : SzS u a e) : callX G n_gantryref17_Flight [encS u a e, iv n] = some (.d (if okS u a e = true ∧ inS n = true then .tup [encR (limS u a e - limS u a e * e ^ n.toNat), encR (rdurK u a e n.toNat), encR (spdK u e n.toNat)] else .tup [encR 0, encR 0, encR 0])) := by
  rw [callX_eq (cf := gantryref17_Flight) rfl]
  have g0 := rValid_spec h
  by_cases ho : okS u a e = true
  · rw [ho] at g0
    by_cases h0 : n < 0
    · have e1 : decide (n < 0) = true := decide_eq_true h0
      rw [if_neg (fun h => by have := h.2; simp only [inS, Bool.and_eq_true, decide_eq_true_eq] at this; omega), encR_zero]
      simp only [encR, encS, bv, iv] at g0
      simp -implicitDefEqProofs (maxSteps := 10000000) only [gantryref17_Flight, encR, encS, go_sem, stcells, ldcells, iv, bv, g0, e1, toDs, apartS, ne_eq, not_false_eq_true, reduceCtorEq, ↓reduceIte, Nat.reduceEqDiff]
    · have e1 : decide (n < 0) = false := decide_eq_false h0
      by_cases h64 : n > 64
      · have e2 : decide (n > 64) = true := decide_eq_true h64
        rw [if_neg (fun h => by have := h.2; simp only [inS, Bool.and_eq_true, decide_eq_true_eq] at this; omega), encR_zero]
        simp only [encR, encS, bv, iv] at g0
        simp -implicitDefEqProofs (maxSteps := 10000000) only [gantryref17_Flight, encR, encS, go_sem, stcells, ldcells, iv, bv, g0, e1, e2, toDs, apartS, ne_eq, not_false_eq_true, reduceCtorEq, ↓reduceIte, Nat.reduceEqDiff]
      · have e2 : decide (n > 64) = false := decide_eq_false h64
        have hi : inS n = true := by simp only [inS, Bool.and_eq_true, decide_eq_true_eq]; omega
        rw [if_pos ⟨ho, hi⟩]
        obtain ⟨m, rfl⟩ : ∃ m : Nat, n = (m : Int) := ⟨n.toNat, by omega⟩
        rw [Int.toNat_natCast]
        have hm : m ≤ 64 := by omega
        have g1 := rLimit_spec h
        rw [if_pos ho] at g1
        have g2 := rPower_spec h.2.2 hm
        have hp := pow_sz h.2.2 hm
        have kl := (sz_lim h).2.2.2
        have g3 := rratMul_spec (a := limS u a e) (b := e ^ m) (by omega) (by omega)
        have k3 := sz_mul (a := limS u a e) (b := e ^ m)
        have g4 := rratSub_spec (a := limS u a e) (b := limS u a e * e ^ m) (by omega) (by omega)
        have g5 := rDuration_spec h hm
        have g6 := rratMul_spec (a := u) (b := e ^ m) (by have := h.1; omega) (by omega)
        have e3 : u * e ^ m = spdK u e m := rfl
        rw [e3] at g6
        clear e3 kl k3 hp
        generalize limS u a e - limS u a e * e ^ m = z1 at *
        generalize limS u a e * e ^ m = z2 at *
        generalize limS u a e = L at *
        generalize rdurK u a e m = d at *
        generalize spdK u e m = v at *
        generalize e ^ m = p at *
        simp only [encR, encS, bv, iv] at g0 g1 g2 g3 g4 g5 g6
        simp -implicitDefEqProofs (maxSteps := 10000000) only [gantryref17_Flight, encR, encS, go_sem, stcells, ldcells, iv, bv, g0, e1, e2, g1, g2, g3, g4, g5, g6, toDs, apartS, ne_eq, not_false_eq_true, reduceCtorEq, ↓reduceIte, Nat.reduceEqDiff]
  · rw [eq_false_of_ne_true ho] at g0
    rw [if_neg (fun h => ho h.1), encR_zero]
    simp only [encR, encS, bv, iv] at g0
    simp -implicitDefEqProofs (maxSteps := 10000000) only [gantryref17_Flight, encR, encS, go_sem, stcells, ldcells, iv, bv, g0, toDs, apartS, ne_eq, not_false_eq_true, reduceCtorEq, ↓reduceIte, Nat.reduceEqDiff]

theorem rLoss_spec {u a e : Rat} {n : Int} (h : SzS u a e) : callX G n_gantryref17_Loss [encS u a e, iv n] = some (.d (encR (if okS u a e = true ∧ inS n = true then u * u - spdK u e n.toNat * spdK u e n.toNat else 0))) := by
  rw [callX_eq (cf := gantryref17_Loss) rfl]
  have g0 := rValid_spec h
  by_cases ho : okS u a e = true
  · rw [ho] at g0
    by_cases h0 : n < 0
    · have e1 : decide (n < 0) = true := decide_eq_true h0
      rw [if_neg (fun h => by have := h.2; simp only [inS, Bool.and_eq_true, decide_eq_true_eq] at this; omega), encR_zero]
      simp only [encR, encS, bv, iv] at g0
      simp -implicitDefEqProofs (maxSteps := 10000000) only [gantryref17_Loss, encR, encS, go_sem, stcells, ldcells, iv, bv, g0, e1, reduceCtorEq, ↓reduceIte, Nat.reduceEqDiff]
    · have e1 : decide (n < 0) = false := decide_eq_false h0
      by_cases h64 : n > 64
      · have e2 : decide (n > 64) = true := decide_eq_true h64
        rw [if_neg (fun h => by have := h.2; simp only [inS, Bool.and_eq_true, decide_eq_true_eq] at this; omega), encR_zero]
        simp only [encR, encS, bv, iv] at g0
        simp -implicitDefEqProofs (maxSteps := 10000000) only [gantryref17_Loss, encR, encS, go_sem, stcells, ldcells, iv, bv, g0, e1, e2, reduceCtorEq, ↓reduceIte, Nat.reduceEqDiff]
      · have e2 : decide (n > 64) = false := decide_eq_false h64
        have hi : inS n = true := by simp only [inS, Bool.and_eq_true, decide_eq_true_eq]; omega
        have g1 := rFlight_spec (n := n) h
        rw [if_pos ⟨ho, hi⟩] at g1 ⊢
        have hs := spdK_sz h (k := n.toNat) (by omega)
        obtain ⟨h1, h2, h3⟩ := h
        have g5 := rratMul_spec (a := u) (b := u) (by omega) (by omega)
        have g6 := rratMul_spec (a := spdK u e n.toNat) (b := spdK u e n.toNat) (by omega) (by omega)
        have k1 := sz_mul (a := u) (b := u)
        have k2 := sz_mul (a := spdK u e n.toNat) (b := spdK u e n.toNat)
        have g7 := rratSub_spec (a := u * u) (b := spdK u e n.toNat * spdK u e n.toNat) (by omega) (by omega)
        clear k1 k2 hs
        generalize limS u a e - limS u a e * e ^ n.toNat = z1 at *
        generalize rdurK u a e n.toNat = z2 at *
        generalize u * u - spdK u e n.toNat * spdK u e n.toNat = r at *
        generalize spdK u e n.toNat * spdK u e n.toNat = q at *
        generalize spdK u e n.toNat = s at *
        generalize u * u = uu at *
        simp only [encR, encS, bv, iv] at g0 g1 g5 g6 g7
        simp -implicitDefEqProofs (maxSteps := 10000000) only [gantryref17_Loss, encR, encS, go_sem, stcells, ldcells, iv, bv, g0, g1, e1, e2, g5, g6, g7, toDs, apartS, ne_eq, not_false_eq_true, reduceCtorEq, ↓reduceIte, Nat.reduceEqDiff]
  · rw [eq_false_of_ne_true ho] at g0
    rw [if_neg (fun h => ho h.1), encR_zero]
    simp only [encR, encS, bv, iv] at g0
    simp -implicitDefEqProofs (maxSteps := 10000000) only [gantryref17_Loss, encR, encS, go_sem, stcells, ldcells, iv, bv, g0, reduceCtorEq, ↓reduceIte, Nat.reduceEqDiff]

theorem given_spec (u a e : Rat) : callX G n_gantrylaw17_given [encS u a e] = some (.d (encS u a e)) := by
  rw [callX_eq (cf := gantrylaw17_given) rfl]
  simp -implicitDefEqProofs (maxSteps := 10000000) only [gantrylaw17_given, encR, encS, go_sem, stcells, ldcells, iv, bv, reduceCtorEq, ↓reduceIte, Nat.reduceEqDiff]

end Go.AM

/- ref17.Some, Time. -/
namespace Go.AM
open Go Go.RowKit Go.Proofs

def Sz3 (u a e : Rat) : Prop := sz u ≤ 3 ∧ sz a ≤ 3 ∧ sz e ≤ 3
theorem Sz3.big {u a e : Rat} (h : Sz3 u a e) : SzS u a e := ⟨by have := h.1; omega, by have := h.2.1; omega, by have := h.2.2; omega⟩
theorem some_spec {d : D} {l : List Int} (hr : Rw d l) (hl : ∀ n ∈ l, I64 n) : ∃ u a e, callX G n_gantryref17_Some [d] = some (.d (encS u a e)) ∧ Sz3 u a e := by
  have a0 := at_spec (i := 0) (m := 30) hr hl (by omega)
  have a1 := at_spec (i := 1) (m := 6) hr hl (by omega)
  have a2 := at_spec (i := 2) (m := 20) hr hl (by omega)
  have a3 := at_spec (i := 3) (m := 6) hr hl (by omega)
  have a4 := at_spec (i := 4) (m := 9) hr hl (by omega)
  have a6 := at_spec (i := 6) (m := 20) hr hl (by omega)
  have b0 := atr_b l 0 (m := 30) (by omega)
  have b1 := atr_b l 1 (m := 6) (by omega)
  have b2 := atr_b l 2 (m := 20) (by omega)
  have b3 := atr_b l 3 (m := 6) (by omega)
  have b4 := atr_b l 4 (m := 9) (by omega)
  have b6 := atr_b l 6 (m := 20) (by omega)
  generalize atr l 0 30 = x0 at *
  generalize atr l 1 6 = x1 at *
  generalize atr l 2 20 = x2 at *
  generalize atr l 3 6 = x3 at *
  generalize atr l 4 9 = x4 at *
  generalize atr l 6 20 = x6 at *
  have w1 : w64 (1 + x1) = 1 + x1 := w64_id (by omega) (by omega)
  have w2 : w64 (1 + x2) = 1 + x2 := w64_id (by omega) (by omega)
  have w3 : w64 (1 + x3) = 1 + x3 := w64_id (by omega) (by omega)
  have w4 : w64 (1 + x4) = 1 + x4 := w64_id (by omega) (by omega)
  have a5 := at_spec (i := 5) (m := 1 + x4) hr hl (by omega)
  have b5 := atr_b l 5 (m := 1 + x4) (by omega)
  generalize atr l 5 (1 + x4) = x5 at *
  have o1 := rratOf_spec (n := x0) (d := 1 + x1) ⟨by omega, by omega⟩ ⟨by omega, by omega⟩
  have o2 := rratOf_spec (n := 1 + x2) (d := 1 + x3) ⟨by omega, by omega⟩ ⟨by omega, by omega⟩
  have o3 := rratOf_spec (n := x5) (d := 1 + x4) ⟨by omega, by omega⟩ ⟨by omega, by omega⟩
  have s1 := sz_of (n := x0) (d := 1 + x1) ⟨by omega, by omega⟩ ⟨by omega, by omega⟩
  have s2 := sz_of (n := 1 + x2) (d := 1 + x3) ⟨by omega, by omega⟩ ⟨by omega, by omega⟩
  have s3 := sz_of (n := x5) (d := 1 + x4) ⟨by omega, by omega⟩ ⟨by omega, by omega⟩
  have o4 := rwhole_spec (n := 1) ⟨by omega, by omega⟩
  have s4 := sz_int (n := 1) ⟨by omega, by omega⟩
  have o5 := rratOf_spec (n := -1) (d := 3) ⟨by omega, by omega⟩ ⟨by omega, by omega⟩
  have s5 := sz_of (n := -1) (d := 3) ⟨by omega, by omega⟩ ⟨by omega, by omega⟩
  have o6 := rratOf_spec (n := -1) (d := 2) ⟨by omega, by omega⟩ ⟨by omega, by omega⟩
  have s6 := sz_of (n := -1) (d := 2) ⟨by omega, by omega⟩ ⟨by omega, by omega⟩
  generalize Rat.divInt x0 (1 + x1) = u at *
  generalize Rat.divInt (1 + x2) (1 + x3) = a at *
  generalize Rat.divInt x5 (1 + x4) = e at *
  generalize ((1 : Int) : Rat) = q1 at *
  generalize Rat.divInt (-1) 3 = q2 at *
  generalize Rat.divInt (-1) 2 = q3 at *
  simp only [encR, bv, iv] at a0 a1 a2 a3 a4 a5 a6 o1 o2 o3 o4 o5 o6
  rw [callX_eq (cf := gantryref17_Some) rfl]
  by_cases h1 : x6 = 1
  · have e1 : (x6 == 1) = true := beq_t h1
    refine ⟨u, a, q1, ?_, by omega, by omega, by omega⟩
    simp -implicitDefEqProofs (maxSteps := 10000000) only [gantryref17_Some, encS, go_sem, stcells, ldcells, iv, bv, a0, a1, a2, a3, a4, a5, a6, o1, o2, o3, o4, w1, w2, w3, w4, e1, reduceCtorEq, ↓reduceIte, Nat.reduceEqDiff]
  have e1 : (x6 == 1) = false := beq_f h1
  by_cases h2 : x6 = 2
  · have e2 : (x6 == 2) = true := beq_t h2
    refine ⟨q2, a, e, ?_, by omega, by omega, by omega⟩
    simp -implicitDefEqProofs (maxSteps := 10000000) only [gantryref17_Some, encS, go_sem, stcells, ldcells, iv, bv, a0, a1, a2, a3, a4, a5, a6, o1, o2, o3, o5, w1, w2, w3, w4, e1, e2, reduceCtorEq, ↓reduceIte, Nat.reduceEqDiff]
  have e2 : (x6 == 2) = false := beq_f h2
  by_cases h3 : x6 = 3
  · have e3 : (x6 == 3) = true := beq_t h3
    refine ⟨u, 0, e, ?_, by omega, by rw [sz_zero]; omega, by omega⟩
    have ez : decide ((0 : Rat).num < 0) = false := rfl
    have ez2 : dg (digs (0 : Rat).num.natAbs) = .z true := by rw [Rat.zero_num, show (0 : Int).natAbs = 0 from rfl, digs_zero]; rfl
    have ez3 : dg (dd (0 : Rat).den) = .z true := rfl
    simp -implicitDefEqProofs (maxSteps := 10000000) only [gantryref17_Some, encS, go_sem, stcells, ldcells, iv, bv, a0, a1, a2, a3, a4, a5, a6, o1, o2, o3, w1, w2, w3, w4, e1, e2, e3, ez, ez2, ez3, reduceCtorEq, ↓reduceIte, Nat.reduceEqDiff]
  have e3 : (x6 == 3) = false := beq_f h3
  by_cases h4 : x6 = 4
  · have e4 : (x6 == 4) = true := beq_t h4
    refine ⟨u, a, q3, ?_, by omega, by omega, by omega⟩
    simp -implicitDefEqProofs (maxSteps := 10000000) only [gantryref17_Some, encS, go_sem, stcells, ldcells, iv, bv, a0, a1, a2, a3, a4, a5, a6, o1, o2, o3, o6, w1, w2, w3, w4, e1, e2, e3, e4, reduceCtorEq, ↓reduceIte, Nat.reduceEqDiff]
  have e4 : (x6 == 4) = false := beq_f h4
  refine ⟨u, a, e, ?_, by omega, by omega, by omega⟩
  simp -implicitDefEqProofs (maxSteps := 10000000) only [gantryref17_Some, encS, go_sem, stcells, ldcells, iv, bv, a0, a1, a2, a3, a4, a5, a6, o1, o2, o3, w1, w2, w3, w4, e1, e2, e3, e4, reduceCtorEq, ↓reduceIte, Nat.reduceEqDiff]
end Go.AM

/- ref17.Time. -/
namespace Go.AM
open Go Go.RowKit Go.Proofs

theorem tdiv68 {n : Int} (hn : I64 n) : I64 (n.tdiv 68) ∧ w64 (n.tdiv 68) = n.tdiv 68 := by
  obtain ⟨h1, h2⟩ := hn
  have h : I64 (n.tdiv 68) := by
    by_cases h0 : 0 ≤ n
    · rw [Int.tdiv_eq_ediv_of_nonneg h0]; exact ⟨by omega, by omega⟩
    · have e : n.tdiv 68 = -((-n) / 68) := by
        rw [← Int.tdiv_eq_ediv_of_nonneg (by omega), Int.neg_tdiv, Int.neg_neg]
      rw [e]; exact ⟨by omega, by omega⟩
  exact ⟨h, w64_id h.1 h.2⟩
theorem lim3 {u a e : Rat} (h : Sz3 u a e) : sz (limS u a e) ≤ 20 ∧ ∀ k, k ≤ 64 → sz (limS u a e - limS u a e * e ^ k) ≤ 300 := by
  obtain ⟨h1, h2, h3⟩ := h
  have k1 := sz_add (a := u) (b := u)
  have k2 := sz_sub (a := 1) (b := e)
  rw [sz_one_] at k2
  have k3 := sz_mul (a := a) (b := 1 - e)
  have k4 := sz_div (a := u + u) (b := a * (1 - e))
  have hl : sz (limS u a e) ≤ 20 := by unfold limS; omega
  refine ⟨hl, fun k hk => ?_⟩
  have h5 := sz_pow e k
  have h6 : k * sz e ≤ 64 * 3 := Nat.mul_le_mul hk h3
  have h7 := sz_mul (a := limS u a e) (b := e ^ k)
  have h8 := sz_sub (a := limS u a e) (b := limS u a e * e ^ k)
  omega

theorem time_spec {u a e : Rat} {n : Int} (h3 : Sz3 u a e) (hn : I64 n) : ∃ t, callX G n_gantryref17_Time [encS u a e, iv n] = some (.d (encR t)) ∧ sz t ≤ 1000 := by
  have h := h3.big
  obtain ⟨l1, l2⟩ := lim3 h3
  have g1 := rLimit_spec h
  obtain ⟨L, hL⟩ : ∃ L, (if okS u a e = true then limS u a e else 0) = L := ⟨_, rfl⟩
  rw [hL] at g1
  have hLs : sz L ≤ 20 := by
    rw [← hL]; split
    · exact l1
    · rw [sz_zero]; omega
  have b1 := arnd_b (n := n) (m := 68) (by omega)
  have g2 := around_spec (n := n) (m := 68) hn (by omega)
  have g3 := rratOf_spec (n := arnd n 68) (d := 64) ⟨by omega, by omega⟩ ⟨by omega, by omega⟩
  have s3 := sz_of (n := arnd n 68) (d := 64) ⟨by omega, by omega⟩ ⟨by omega, by omega⟩
  have g4 := rratMul_spec (a := L) (b := Rat.divInt (arnd n 68) 64) (by omega) (by omega)
  have s4 := sz_mul (a := L) (b := Rat.divInt (arnd n 68) 64)
  obtain ⟨d1, d2⟩ := tdiv68 hn
  have g5 := around_spec (n := n.tdiv 68) (m := 9) d1 (by omega)
  have e0 := eqz_f (b := (68 : Int)) (by omega)
  obtain ⟨dv, hdv⟩ : ∃ dv, n.tdiv 68 = dv := ⟨_, rfl⟩
  have d2' : w64 (n.tdiv 68) = dv := by rw [d2, hdv]
  rw [hdv] at g5
  generalize arnd dv 9 = X at *
  generalize L * Rat.divInt (arnd n 68) 64 = p at *
  generalize Rat.divInt (arnd n 68) 64 = q at *
  generalize arnd n 68 = y at *
  rw [callX_eq (cf := gantryref17_Time) rfl]
  by_cases h1 : X = 1
  · have e1 : (X == 1) = true := beq_t h1
    have g6 := rratNeg_spec (a := p) (by omega)
    refine ⟨-p, ?_, by rw [sz_neg]; omega⟩
    generalize -p = np at *
    simp only [encR, encS, bv, iv] at g1 g2 g3 g4 g5 g6
    simp -implicitDefEqProofs (maxSteps := 10000000) only [gantryref17_Time, encR, encS, go_sem, stcells, ldcells, iv, bv, g1, g2, g3, g4, g5, g6, d2', e0, e1, reduceCtorEq, ↓reduceIte, Nat.reduceEqDiff]
  have e1 : (X == 1) = false := beq_f h1
  by_cases h2 : X = 2
  · have e2 : (X == 2) = true := beq_t h2
    have g6 := around_spec (n := n) (m := 5) hn (by omega)
    have b6 := arnd_b (n := n) (m := 5) (by omega)
    generalize arnd n 5 = k at *
    have g7 := rFlight_spec (n := k) h
    by_cases hc : okS u a e = true ∧ inS k = true
    · rw [if_pos hc] at g7
      refine ⟨_, ?_, Nat.le_trans (l2 k.toNat (by omega)) (by omega)⟩
      generalize limS u a e - limS u a e * e ^ k.toNat = z1 at *
      generalize rdurK u a e k.toNat = z2 at *
      generalize spdK u e k.toNat = z3 at *
      simp only [encR, encS, bv, iv] at g1 g2 g3 g4 g5 g6 g7
      simp -implicitDefEqProofs (maxSteps := 10000000) only [gantryref17_Time, encR, encS, go_sem, stcells, ldcells, iv, bv, g1, g2, g3, g4, g5, g6, g7, d2', e0, e1, e2, reduceCtorEq, ↓reduceIte, Nat.reduceEqDiff]
    · rw [if_neg hc] at g7
      refine ⟨0, ?_, by rw [sz_zero]; omega⟩
      generalize (0 : Rat) = z1 at *
      simp only [encR, encS, bv, iv] at g1 g2 g3 g4 g5 g6 g7
      simp -implicitDefEqProofs (maxSteps := 10000000) only [gantryref17_Time, encR, encS, go_sem, stcells, ldcells, iv, bv, g1, g2, g3, g4, g5, g6, g7, d2', e0, e1, e2, reduceCtorEq, ↓reduceIte, Nat.reduceEqDiff]
  have e2 : (X == 2) = false := beq_f h2
  refine ⟨p, ?_, by omega⟩
  simp only [encR, encS, bv, iv] at g1 g2 g3 g4 g5
  simp -implicitDefEqProofs (maxSteps := 10000000) only [gantryref17_Time, encR, encS, go_sem, stcells, ldcells, iv, bv, g1, g2, g3, g4, g5, d2', e0, e1, e2, reduceCtorEq, ↓reduceIte, Nat.reduceEqDiff]
end Go.AM

/- Flights, both ways. -/
namespace Go.AM
open Go Go.RowKit Go.Proofs

theorem dur_same (u a e : Rat) (k : Nat) : durK u a e k = rdurK u a e k := by
  unfold durK rdurK
  rw [Rat.div_def, Rat.div_def, Rat.mul_assoc, Rat.mul_comm a⁻¹, ← Rat.mul_assoc]
theorem lim_step {u a e : Rat} (ha : a ≠ 0) (he : 1 - e ≠ 0) : limS u a e * (1 - e) = (u + u) / a := by
  unfold limS
  rw [Rat.div_def, Rat.div_def, Rat.inv_mul_rev, Rat.mul_assoc, Rat.mul_assoc, Rat.mul_comm a⁻¹, ← Rat.mul_assoc (1 - e)⁻¹, Rat.inv_mul_cancel _ he, Rat.one_mul]
theorem sta_same {u a e : Rat} (ha : a ≠ 0) (he : 1 - e ≠ 0) : ∀ k : Nat, staK u a e k = limS u a e - limS u a e * e ^ k
  | 0 => by rw [staK, Rat.pow_zero, Rat.mul_one, Rat.sub_self]
  | k + 1 => by
    rw [staK, sta_same ha he k, durK, ← lim_step ha he, Rat.pow_succ]
    generalize limS u a e = L
    generalize e ^ k = p
    grind
theorem okS_ne {u a e : Rat} (h : okS u a e = true) : a ≠ 0 ∧ 1 - e ≠ 0 := by
  simp only [okS, Bool.and_eq_true, decide_eq_true_eq] at h
  refine ⟨fun h0 => by rw [h0] at h; exact Rat.lt_irrefl h.1.1.2, fun h0 => ?_⟩
  have h1 : e = 1 := by grind
  rw [h1] at h; exact Rat.lt_irrefl h.2
end Go.AM

/- Names for what comes out; ref17.Height. -/
namespace Go.AM
open Go Go.RowKit Go.Proofs

/-- Two numbers of which a law says that they are the same. -/
theorem sameX {a b : Rat} (h : a = b) (ha : sz a ≤ 100000000000) (hb : sz b ≤ 100000000000) : callX G n_gantrylaw17_same [encR a, encR b] = some (.d (bv true)) := by
  have g := lsame_spec ha hb
  rw [decide_eq_true h] at g
  exact g
def Sz9 (u a e : Rat) : Prop := sz u ≤ 9 ∧ sz a ≤ 9 ∧ sz e ≤ 9
theorem Sz3.nine {u a e : Rat} (h : Sz3 u a e) : Sz9 u a e := ⟨by have := h.1; omega, by have := h.2.1; omega, by have := h.2.2; omega⟩
theorem Sz9.big {u a e : Rat} (h : Sz9 u a e) : SzS u a e := ⟨by have := h.1; omega, by have := h.2.1; omega, by have := h.2.2; omega⟩
theorem lim9 {u a e : Rat} (h : Sz9 u a e) : sz (limS u a e) ≤ 100 ∧ ∀ k, k ≤ 64 → sz (limS u a e - limS u a e * e ^ k) ≤ 1000 ∧ sz (durK u a e k) ≤ 1000 ∧ sz (spdK u e k) ≤ 1000 := by
  obtain ⟨h1, h2, h3⟩ := h
  have k1 := sz_add (a := u) (b := u)
  have k2 := sz_sub (a := 1) (b := e)
  rw [sz_one_] at k2
  have k3 := sz_mul (a := a) (b := 1 - e)
  have k4 := sz_div (a := u + u) (b := a * (1 - e))
  have hl : sz (limS u a e) ≤ 100 := by unfold limS; omega
  refine ⟨hl, fun k hk => ?_⟩
  have h5 := sz_pow e k
  have h6 : k * sz e ≤ 64 * 9 := Nat.mul_le_mul hk h3
  have h7 := sz_mul (a := limS u a e) (b := e ^ k)
  have h8 := sz_sub (a := limS u a e) (b := limS u a e * e ^ k)
  refine ⟨by omega, ?_, ?_⟩
  · rw [dur_same]
    have h9 := sz_mul (a := u + u) (b := e ^ k)
    have h10 := sz_div (a := (u + u) * e ^ k) (b := a)
    unfold rdurK; omega
  · have h9 := sz_mul (a := u) (b := e ^ k)
    unfold spdK; omega
theorem limX {u a e : Rat} (h : Sz9 u a e) (ho : okS u a e = true) : ∃ L, L = limS u a e ∧ sz L ≤ 100 ∧ callX G n_bounce_Limit [encS u a e] = some (.d (encR L)) := by
  have g := bLimit_spec h.big
  rw [if_pos ho] at g
  exact ⟨_, rfl, (lim9 h).1, g⟩
theorem inS_nat {m : Nat} (hm : m ≤ 64) : inS (m : Int) = true := by simp only [inS, Bool.and_eq_true, decide_eq_true_eq]; omega
theorem flX {u a e : Rat} (h : Sz9 u a e) (ho : okS u a e = true) {m : Nat} (hm : m ≤ 64) : ∃ x y z, x = limS u a e - limS u a e * e ^ m ∧ y = (u + u) * e ^ m / a ∧ z = u * e ^ m ∧ sz x ≤ 1000 ∧ sz y ≤ 1000 ∧ sz z ≤ 1000 ∧ callX G n_bounce_Flight [encS u a e, iv (m : Int)] = some (.d (.tup [encR x, encR y, encR z])) := by
  have g := bFlight_spec (n := (m : Int)) h.big
  rw [if_pos ⟨ho, inS_nat hm⟩, Int.toNat_natCast] at g
  obtain ⟨ha, he⟩ := okS_ne ho
  obtain ⟨s1, s2, s3⟩ := (lim9 h).2 m hm
  rw [sta_same ha he] at g
  exact ⟨_, _, _, rfl, dur_same u a e m, rfl, s1, s2, s3, g⟩
theorem rFl {u a e : Rat} (h : SzS u a e) (ho : okS u a e = true) {k : Nat} (hk : k ≤ 64) : callX G n_gantryref17_Flight [encS u a e, iv (k : Int)] = some (.d (.tup [encR (staK u a e k), encR (durK u a e k), encR (spdK u e k)])) := by
  have g := rFlight_spec (n := (k : Int)) h
  rw [if_pos ⟨ho, inS_nat hk⟩, Int.toNat_natCast] at g
  obtain ⟨ha, he⟩ := okS_ne ho
  rw [sta_same ha he, dur_same]
  exact g
theorem half_div (q : Rat) : q / 2 = Rat.divInt 1 2 * q := by
  have e : (2 : Rat)⁻¹ = Rat.divInt 1 2 := by kernel_rfl
  rw [Rat.div_def, Rat.mul_comm, e]

def rh_st (u a e t : Rat) (n k : Int) : St := mkS [(2, ai n), (3, .ptr [3] 0), (4, .ptr [4] 0), (6, .ptr [6] 0), (9, ai k)] [([3], boxS u a e), ([4], boxR t), ([6], boxR0)]
def rh_en : St := mkS [(6, .ptr [6] 0)] [([6], boxR0)]
def rh_hit (q : Rat) (k : Int) : St := mkS [(6, .ptr [6] 0), (7, ai k), (8, ai 0)] [([6], boxR q)]
theorem rh_no {u a e t : Rat} (h : SzS u a e) (ho : okS u a e = true) (ht : sz t ≤ 100000000) {k n : Nat} (hk : k ≤ n) (hn : n ≤ 64) (hno : ¬ t - staK u a e k < durK u a e k) : X G gantryref17_Height_l0 (rh_st u a e t n k) = some (.n, rh_st u a e t n ((k + 1 : Nat) : Int)) := by
  have hs := bh_sz h ht (k := k) (by omega)
  have h1 := staK_sz h k (by omega)
  have h1' : k * 700000001 ≤ 64 * 700000001 := Nat.mul_le_mul_right _ (by omega)
  have h2 := durK_sz h (k := k) (by omega)
  have g1 := rratSub_spec (a := t) (b := staK u a e k) (by omega) (by omega)
  have g2 := rratCompare_spec (a := t - staK u a e k) (b := durK u a e k) (by omega) (by omega)
  have g3 := rFl h ho (k := k) (by omega)
  have e1 : decide (cmpR (t - staK u a e k) (durK u a e k) < 0) = false := by rw [cmR_lt]; exact decide_eq_false hno
  have e2 : decide ((k : Int) ≤ (n : Int)) = true := le_t (by omega)
  have e3 : w64 ((k : Int) + 1) = ((k + 1 : Nat) : Int) := by rw [w64_id (by omega) (by omega)]; rfl
  clear hno hs h1 h2
  generalize t - staK u a e k = r at *
  generalize staK u a e k = s at *
  generalize durK u a e k = d at *
  generalize spdK u e k = v at *
  generalize cmpR r d = c at *
  simp only [encR, encS, bv, iv] at g1 g2 g3
  simp -implicitDefEqProofs (maxSteps := 10000000) only [gantryref17_Height_l0, rh_st, boxS, cS, List.map_cons, List.map_nil, boxR, boxR0, go_sem, stcells, ldcells, iv, bv, g1, g2, g3, e1, e2, e3, toDs, apartS, ne_eq, not_false_eq_true, reduceCtorEq, ↓reduceIte, Nat.reduceEqDiff]
theorem rh_yes {u a e t : Rat} (h : SzS u a e) (ho : okS u a e = true) (ht : sz t ≤ 100000000) {k n : Nat} (hk : k ≤ n) (hn : n ≤ 64) (hno : t - staK u a e k < durK u a e k) : X G gantryref17_Height_l0 (rh_st u a e t n k) = some (.r, rh_hit (fallK u a e t k) k) := by
  have hs := bh_sz h ht (k := k) (by omega)
  have h1 := staK_sz h k (by omega)
  have h1' : k * 700000001 ≤ 64 * 700000001 := Nat.mul_le_mul_right _ (by omega)
  have h2 := durK_sz h (k := k) (by omega)
  have h3 := spdK_sz h (k := k) (by omega)
  have g1 := rratSub_spec (a := t) (b := staK u a e k) (by omega) (by omega)
  have g2 := rratCompare_spec (a := t - staK u a e k) (b := durK u a e k) (by omega) (by omega)
  have g3 := rFl h ho (k := k) (by omega)
  have e1 : decide (cmpR (t - staK u a e k) (durK u a e k) < 0) = true := by rw [cmR_lt]; exact decide_eq_true hno
  have e2 : decide ((k : Int) ≤ (n : Int)) = true := le_t (by omega)
  have e3 : w64 ((k : Int) + 1) = ((k + 1 : Nat) : Int) := by rw [w64_id (by omega) (by omega)]; rfl
  have w := rwhole_spec (n := 2) ⟨by omega, by omega⟩
  have e4 : ((2 : Int) : Rat) = 2 := rfl
  rw [e4] at w
  unfold fallK
  obtain ⟨q1, q2, q3⟩ := h
  clear hno h1 h2
  generalize t - staK u a e k = r at *
  generalize staK u a e k = s at *
  generalize durK u a e k = d at *
  generalize spdK u e k = v at *
  generalize cmpR r d = c at *
  have g4 := rratMul_spec (a := r) (b := r) (by omega) (by omega)
  have k1 := sz_mul (a := r) (b := r)
  have g5 := rratMul_spec (a := a) (b := r * r) (by omega) (by omega)
  have k2 := sz_mul (a := a) (b := r * r)
  have g6 := rratDiv_spec (a := a * (r * r)) (b := 2) (by omega) (by have := sz_two; omega)
  rw [half_div] at g6
  have k0 := sz_half
  have k3 := sz_mul (a := Rat.divInt 1 2) (b := a * (r * r))
  have g7 := rratMul_spec (a := v) (b := r) (by omega) (by omega)
  have k4 := sz_mul (a := v) (b := r)
  have g8 := rratSub_spec (a := v * r) (b := Rat.divInt 1 2 * (a * (r * r))) (by omega) (by omega)
  clear e4
  generalize v * r - Rat.divInt 1 2 * (a * (r * r)) = z1 at *
  generalize v * r = z2 at *
  generalize Rat.divInt 1 2 * (a * (r * r)) = z3 at *
  generalize a * (r * r) = z4 at *
  generalize r * r = z5 at *
  generalize (2 : Rat) = two at *
  simp only [encR, encS, bv, iv] at g1 g2 g3 g4 g5 g6 g7 g8 w
  simp -implicitDefEqProofs (maxSteps := 10000000) only [gantryref17_Height_l0, rh_st, rh_hit, boxS, cS, List.map_cons, List.map_nil, boxR, boxR0, go_sem, stcells, ldcells, iv, bv, g1, g2, g3, g4, g5, g6, g7, g8, w, e1, e2, e3, toDs, apartS, ne_eq, not_false_eq_true, reduceCtorEq, ↓reduceIte, Nat.reduceEqDiff]
theorem rh_stop {u a e t : Rat} {n k : Nat} (hk : n < k) : X G gantryref17_Height_l0 (rh_st u a e t n k) = some (.x 0, rh_en) := by
  have e2 : decide ((k : Int) ≤ (n : Int)) = false := le_f (by omega)
  simp -implicitDefEqProofs (maxSteps := 10000000) only [gantryref17_Height_l0, rh_st, rh_en, boxS, cS, List.map_cons, List.map_nil, boxR, boxR0, go_sem, stcells, ldcells, iv, bv, e2, reduceCtorEq, ↓reduceIte, Nat.reduceEqDiff]
theorem rh_loop {u a e t : Rat} (h : SzS u a e) (ho : okS u a e = true) (ht : sz t ≤ 100000000) {n : Nat} (hn : n ≤ 64) : ∀ (j k : Nat), k + j = n + 1 → X G (.loop gantryref17_Height_l0) (rh_st u a e t n k) =
    match (List.range' k j).find? (hit u a e t) with
    | some i => some (.r, rh_hit (fallK u a e t i) i)
    | none => some (.x 0, rh_en)
  | 0, k, hk => by
    rw [X_loop, rh_stop (by omega)]; rfl
  | j + 1, k, hk => by
    rw [List.range'_succ, List.find?_cons]
    by_cases hh : t - staK u a e k < durK u a e k
    · have e1 : hit u a e t k = true := decide_eq_true hh
      rw [X_loop, rh_yes h ho ht (by omega) hn hh, e1]; rfl
    · have e1 : hit u a e t k = false := decide_eq_false hh
      rw [X_loop, rh_no h ho ht (by omega) hn hh, e1, Option.bind_some, if_pos rfl]
      exact rh_loop h ho ht hn j (k + 1) (by omega)

theorem rHeight_spec {u a e t : Rat} {n : Int} (h : SzS u a e) (ht : sz t ≤ 100000000) : callX G n_gantryref17_Height [encS u a e, encR t, iv n] = some (.d (encH (hgt u a e t n))) := by
  rw [callX_eq (cf := gantryref17_Height) rfl]
  have g0 := rValid_spec h
  have g2 := rratSign_spec (a := t) (by omega)
  have e2 := sign_lt (x := t)
  unfold hgt
  by_cases ho : okS u a e = true
  · rw [ho] at g0
    by_cases h0 : 0 ≤ t
    · rw [decide_eq_false (show ¬ t < 0 from fun hc => Rat.not_le.2 hc h0)] at e2
      by_cases hn0 : n < 0
      · have e5 : decide (n < 0) = true := lt_t hn0
        rw [if_neg (fun h => by have := h.2.2; simp only [inS, Bool.and_eq_true, decide_eq_true_eq] at this; omega), encH, encR_zero]
        simp only [encR, encS, bv, iv] at g0 g2
        simp -implicitDefEqProofs (maxSteps := 10000000) only [gantryref17_Height, encR, encS, toDs, apartS, ne_eq, not_false_eq_true, go_sem, stcells, ldcells, iv, bv, g0, g2, e2, e5, reduceCtorEq, ↓reduceIte, Nat.reduceEqDiff]
      have e5 : decide (n < 0) = false := lt_f hn0
      by_cases hn1 : n > 64
      · have e6 : decide (n > 64) = true := gt_t hn1
        rw [if_neg (fun h => by have := h.2.2; simp only [inS, Bool.and_eq_true, decide_eq_true_eq] at this; omega), encH, encR_zero]
        simp only [encR, encS, bv, iv] at g0 g2
        simp -implicitDefEqProofs (maxSteps := 10000000) only [gantryref17_Height, encR, encS, toDs, apartS, ne_eq, not_false_eq_true, go_sem, stcells, ldcells, iv, bv, g0, g2, e2, e5, e6, reduceCtorEq, ↓reduceIte, Nat.reduceEqDiff]
      have e6 : decide (n > 64) = false := decide_eq_false hn1
      have hi : inS n = true := by simp only [inS, Bool.and_eq_true, decide_eq_true_eq]; omega
      rw [if_pos ⟨ho, h0, hi⟩]
      obtain ⟨m, rfl⟩ : ∃ m : Nat, n = (m : Int) := ⟨n.toNat, by omega⟩
      rw [Int.toNat_natCast]
      have g3 := rLimit_spec h
      rw [if_pos ho] at g3
      have k3 := (sz_lim h).2.2.2
      have g4 := rratCompare_spec (a := t) (b := limS u a e) (by omega) (by omega)
      have e4 := cmR_ge (a := t) (b := limS u a e)
      by_cases hl : limS u a e ≤ t
      · rw [if_pos hl, encH, encR_zero]
        rw [decide_eq_true hl] at e4
        generalize limS u a e = L at *
        simp only [encR, encS, bv, iv] at g0 g2 g3 g4
        simp -implicitDefEqProofs (maxSteps := 10000000) only [gantryref17_Height, encR, encS, toDs, apartS, ne_eq, not_false_eq_true, go_sem, stcells, ldcells, iv, bv, g0, g2, g3, g4, e2, e4, e5, e6, reduceCtorEq, ↓reduceIte, Nat.reduceEqDiff]
      · rw [if_neg hl]
        rw [decide_eq_false hl] at e4
        have hr := rh_loop h ho ht (n := m) (by omega) (m + 1) 0 (by omega)
        rw [← List.range_eq_range'] at hr
        generalize limS u a e = L at *
        cases hf : (List.range (m + 1)).find? (hit u a e t) with
        | some i =>
          rw [hf] at hr
          rw [encH]
          dsimp only at hr ⊢
          generalize fallK u a e t i = z at *
          simp only [encR, encS, bv, iv] at g0 g2 g3 g4
          simp only [rh_st, rh_hit, boxS, cS, List.map_cons, List.map_nil, boxR, boxR0, go_sem] at hr
          simp -implicitDefEqProofs (maxSteps := 10000000) only [gantryref17_Height, hr, encR, encS, toDs, apartS, ne_eq, not_false_eq_true, go_sem, stcells, ldcells, iv, bv, g0, g2, g3, g4, e2, e4, e5, e6, reduceCtorEq, ↓reduceIte, Nat.reduceEqDiff]
        | none =>
          rw [hf] at hr
          rw [encH, encR_zero]
          dsimp only at hr ⊢
          simp only [encR, encS, bv, iv] at g0 g2 g3 g4
          simp only [rh_st, rh_en, boxS, cS, List.map_cons, List.map_nil, boxR, boxR0, go_sem] at hr
          simp -implicitDefEqProofs (maxSteps := 10000000) only [gantryref17_Height, hr, encR, encS, toDs, apartS, ne_eq, not_false_eq_true, go_sem, stcells, ldcells, iv, bv, g0, g2, g3, g4, e2, e4, e5, e6, reduceCtorEq, ↓reduceIte, Nat.reduceEqDiff]
    · rw [decide_eq_true (Rat.not_le.1 h0)] at e2
      rw [if_neg (fun h => h0 h.2.1), encH, encR_zero]
      simp only [encR, encS, bv, iv] at g0 g2
      simp -implicitDefEqProofs (maxSteps := 10000000) only [gantryref17_Height, encR, encS, toDs, apartS, ne_eq, not_false_eq_true, go_sem, stcells, ldcells, iv, bv, g0, g2, e2, reduceCtorEq, ↓reduceIte, Nat.reduceEqDiff]
  · rw [eq_false_of_ne_true ho] at g0
    rw [if_neg (fun h => ho h.1), encH, encR_zero]
    simp only [encR, encS, bv, iv] at g0
    simp -implicitDefEqProofs (maxSteps := 10000000) only [gantryref17_Height, encR, encS, toDs, apartS, ne_eq, not_false_eq_true, go_sem, stcells, ldcells, iv, bv, g0, reduceCtorEq, ↓reduceIte, Nat.reduceEqDiff]
theorem hgt_sz {u a e t : Rat} (h : Sz9 u a e) (ht : sz t ≤ 3000) (n : Int) : sz (hgt u a e t n).1 ≤ 100000 := by
  have z : sz 0 ≤ 100000 := by rw [sz_zero]; omega
  unfold hgt
  split
  · rename_i hc
    split
    · exact z
    · split
      · rename_i i hf
        have hi := List.mem_of_find?_eq_some hf
        have hi2 := hc.2.2
        simp only [inS, Bool.and_eq_true, decide_eq_true_eq] at hi2
        have hk : i ≤ 64 := by have := List.mem_range.1 hi; omega
        obtain ⟨ha, he⟩ := okS_ne hc.1
        obtain ⟨s1, s2, s3⟩ := (lim9 h).2 i hk
        rw [← sta_same ha he] at s1
        show sz (fallK u a e t i) ≤ 100000
        unfold fallK
        obtain ⟨q1, q2, q3⟩ := h
        have k0 := sz_sub (a := t) (b := staK u a e i)
        generalize t - staK u a e i = r at *
        generalize spdK u e i = v at *
        have k1 := sz_mul (a := r) (b := r)
        have k2 := sz_mul (a := a) (b := r * r)
        have k5 := sz_half
        have k3 := sz_mul (a := Rat.divInt 1 2) (b := a * (r * r))
        have k4 := sz_mul (a := v) (b := r)
        have k6 := sz_sub (a := v * r) (b := Rat.divInt 1 2 * (a * (r * r)))
        omega
      · exact z
  · exact z
end Go.AM

namespace Go.AM
open Go Go.RowKit Go.Proofs

theorem okS_a {u a e : Rat} (h : okS u a e = true) : 0 ≤ u ∧ 0 < a ∧ 0 ≤ e ∧ e < 1 := by
  simp only [okS, Bool.and_eq_true, decide_eq_true_eq] at h
  exact ⟨h.1.1.1, h.1.1.2, h.1.2, h.2⟩
theorem pow_n0 {e : Rat} (h0 : 0 ≤ e) : ∀ n : Nat, 0 ≤ e ^ n
  | 0 => by rw [Rat.pow_zero]; decide
  | n + 1 => by rw [Rat.pow_succ]; exact Rat.mul_nonneg (pow_n0 h0 n) h0
theorem hgt_ok {u a e t : Rat} {n : Int} {z : Rat} {k : Int} (h : hgt u a e t n = (z, k, 0)) : okS u a e = true ∧ 0 ≤ t ∧ t < limS u a e ∧ inS n = true ∧ ∃ i : Nat, k = (i : Int) ∧ i ≤ n.toNat ∧ z = fallK u a e t i ∧ staK u a e i ≤ t ∧ t - staK u a e i < durK u a e i ∧ ∀ j, j < i → hit u a e t j = false := by
  unfold hgt at h
  split at h
  · rename_i hc
    split at h
    · simp at h
    · rename_i hl
      cases hf : (List.range (n.toNat + 1)).find? (hit u a e t) with
      | none => rw [hf] at h; simp at h
      | some i =>
        rw [hf] at h
        simp only [Prod.mk.injEq, and_true] at h
        obtain ⟨h1, h2⟩ := h
        rw [List.find?_range_eq_some] at hf
        obtain ⟨f1, f2, f3⟩ := hf
        have f3' : ∀ j, j < i → hit u a e t j = false := fun j hj => by simpa using f3 j hj
        refine ⟨hc.1, hc.2.1, Rat.not_le.1 hl, hc.2.2, i, h2.symm, ?_, h1.symm, ?_, of_decide_eq_true f1, f3'⟩
        · have := List.mem_range.1 f2; omega
        · cases i with
          | zero => rw [staK]; exact hc.2.1
          | succ m =>
            have h3 := of_decide_eq_false (f3' m (by omega))
            rw [staK]
            generalize staK u a e m = s at *
            generalize durK u a e m = d at *
            grind
  · simp at h
theorem dur_pow (u a e : Rat) (k : Nat) : durK (u * e) a e k = durK u a e (k + 1) := by
  unfold durK
  rw [Rat.pow_succ, Rat.div_def, Rat.div_def]
  generalize a⁻¹ = z
  generalize e ^ k = p
  grind
theorem spd_pow (u e : Rat) (k : Nat) : spdK (u * e) e k = spdK u e (k + 1) := by
  unfold spdK
  rw [Rat.pow_succ]
  generalize e ^ k = p
  grind
theorem sta_pow (u a e : Rat) : ∀ k : Nat, staK (u * e) a e k = staK u a e (k + 1) - durK u a e 0
  | 0 => by rw [staK, staK, staK]; generalize durK u a e 0 = d; grind
  | k + 1 => by
    rw [staK, sta_pow u a e k, dur_pow]
    show _ = staK u a e (k + 1) + durK u a e (k + 1) - _
    generalize staK u a e (k + 1) = s
    generalize durK u a e (k + 1) = d
    generalize durK u a e 0 = d0
    grind
theorem lim_e (u a e : Rat) : limS (u * e) a e = limS u a e * e := by
  unfold limS
  rw [Rat.div_def, Rat.div_def]
  generalize (a * (1 - e))⁻¹ = z
  grind
theorem dur0 (u a e : Rat) : durK u a e 0 = (u + u) / a := by rw [durK, Rat.pow_zero, Rat.mul_one]
theorem sta_mono {u a e : Rat} (ho : okS u a e = true) : ∀ k : Nat, durK u a e 0 ≤ staK u a e (k + 1)
  | 0 => by rw [staK, staK]; generalize durK u a e 0 = d; grind
  | k + 1 => by
    have ih := sta_mono ho k
    obtain ⟨h1, h2, h3, h4⟩ := okS_a ho
    have hd : 0 ≤ durK u a e (k + 1) := by
      unfold durK
      rw [Rat.div_def]
      exact Rat.mul_nonneg (Rat.mul_nonneg (by grind) (Rat.le_of_lt (Rat.inv_pos.2 h2))) (pow_n0 h3 _)
    show _ ≤ staK u a e (k + 1) + durK u a e (k + 1)
    generalize staK u a e (k + 1) = s at *
    generalize durK u a e (k + 1) = d at *
    generalize durK u a e 0 = d0 at *
    grind
theorem hgt_next {u a e t : Rat} {n : Int} {m : Nat} (ho : okS u a e = true) (hn : inS n = true) (hm : m + 1 ≤ n.toNat) (h2 : t < limS u a e) (h3 : staK u a e (m + 1) ≤ t) (h4 : t - staK u a e (m + 1) < durK u a e (m + 1)) (h5 : ∀ j, j < m + 1 → hit u a e t j = false) : hgt (u * e) a e (t - durK u a e 0) n = (fallK u a e t (m + 1), (m : Int), 0) := by
  obtain ⟨q1, q2, q3, q4⟩ := okS_a ho
  have ho' : okS (u * e) a e = true := by
    simp only [okS, Bool.and_eq_true, decide_eq_true_eq]
    exact ⟨⟨⟨Rat.mul_nonneg q1 q3, q2⟩, q3⟩, q4⟩
  have hd := sta_mono ho m
  have e1 : ∀ j, hit (u * e) a e (t - durK u a e 0) j = hit u a e t (j + 1) := fun j => by
    unfold hit
    apply decide_eq_decide.2
    rw [sta_pow, dur_pow]
    generalize staK u a e (j + 1) = s
    generalize durK u a e (j + 1) = d
    generalize durK u a e 0 = d0
    grind
  have e2 : (List.range (n.toNat + 1)).find? (hit (u * e) a e (t - durK u a e 0)) = some m := by
    rw [List.find?_range_eq_some]
    refine ⟨by rw [e1]; exact decide_eq_true h4, List.mem_range.2 (by omega), fun j hj => by rw [e1, h5 (j + 1) (by omega)]; rfl⟩
  have e3 : fallK (u * e) a e (t - durK u a e 0) m = fallK u a e t (m + 1) := by
    unfold fallK
    rw [sta_pow, spd_pow]
    generalize staK u a e (m + 1) = s
    generalize durK u a e 0 = d0
    have : t - d0 - (s - d0) = t - s := by grind
    rw [this]
  obtain ⟨ha, he⟩ := okS_ne ho
  have f1 : limS u a e * (1 - e) = (u + u) / a := lim_step ha he
  have c1 : 0 ≤ t - durK u a e 0 := by
    generalize durK u a e 0 = d0 at *
    generalize staK u a e (m + 1) = s at *
    grind
  have c2 : ¬ limS (u * e) a e ≤ t - durK u a e 0 := by
    rw [lim_e, dur0, ← f1]
    generalize limS u a e = L at *
    grind
  unfold hgt
  rw [if_pos ⟨ho', c1, hn⟩, if_neg c2, e2]
  show (fallK (u * e) a e (t - durK u a e 0) m, (m : Int), (0 : Int)) = _
  rw [e3]
/-- The gap: not negative, and 0 just at the beginning. -/
theorem fall_pos {u a e t : Rat} {k : Nat} (ho : okS u a e = true) (h1 : staK u a e k ≤ t) (h2 : t - staK u a e k < durK u a e k) : 0 ≤ fallK u a e t k ∧ (fallK u a e t k = 0 ↔ t - staK u a e k = 0) := by
  obtain ⟨q1, q2, q3, q4⟩ := okS_a ho
  unfold fallK
  have e1 : a * durK u a e k = spdK u e k + spdK u e k := by
    unfold durK spdK
    rw [Rat.div_def]
    have : a * a⁻¹ = 1 := Rat.mul_inv_cancel _ (okS_ne ho).1
    generalize a⁻¹ = z at *
    generalize e ^ k = p
    grind
  generalize staK u a e k = s0 at *
  obtain ⟨s, hs⟩ : ∃ s, t - s0 = s := ⟨_, rfl⟩
  rw [hs] at h2 ⊢
  have h0 : 0 ≤ s := by grind
  generalize durK u a e k = d at *
  generalize spdK u e k = v at *
  have hh : Rat.divInt 1 2 + Rat.divInt 1 2 = 1 := by kernel_rfl
  generalize Rat.divInt 1 2 = hf at *
  have e2 : a * s < a * d := Rat.mul_lt_mul_of_pos_left h2 q2
  have e3 : 0 < v - hf * (a * s) := by
    have e4 : hf * (a * d) = v := by rw [e1]; grind
    have hfp : 0 < hf := by grind
    have e5 := Rat.mul_lt_mul_of_pos_left e2 hfp
    grind
  have e6 : v * s - hf * (a * (s * s)) = (v - hf * (a * s)) * s := by grind
  rw [e6]
  refine ⟨Rat.mul_nonneg (Rat.le_of_lt e3) h0, fun hz => ?_, fun hz => by rw [hz, Rat.mul_zero]⟩
  rcases Rat.mul_eq_zero.1 hz with h | h
  · rw [h] at e3; exact absurd e3 (Rat.lt_irrefl)
  · exact h
theorem rep3c (a b c d : D) : rep 3 [a, b, c, d] = [a, b, c, d, a, b, c, d, a, b, c, d] := rfl
theorem trim3 {x y z : Rat} (h : z ≠ 0) : trimR [x, y, z] = [x, y, z] := by
  have : cutR [x, y, z] 3 = 3 := by
    show (if z = 0 then _ else _) = _
    rw [if_neg h]
  show List.take (cutR [x, y, z] 3) [x, y, z] = _
  rw [this]; rfl
end Go.AM
namespace Go.Proofs.Ytgakeohkfgdcfaa.Pure
open Go Go.AM
theorem BounceGaps (e0 : D) (l0 : List Int) (hd : Dg e0 l0) (hwf : ∀ n ∈ l0, (Lit.int .i64 n).wf = true) (hlen : l0.length * 8 ≤ 140737488351232) (a1 : Int) (w1 : (Lit.int .i64 a1).wf = true) : callX G 9 [e0, iv a1] = some (.d (bv true)) := by
  obtain ⟨u, a, e, g1, h3⟩ := some_spec (rw_dg hd) (fun n hn => i64_wf (hwf n hn))
  have h9 := h3.nine
  obtain ⟨t, g2, ht⟩ := time_spec (n := a1) h3 (i64_wf w1)
  have k1 := given_spec u a e
  have k10 := lives_spec
  have gH := bHeight_spec (n := 40) h9.big (t := t) (by omega)
  have hs := hgt_sz h9 (t := t) (by omega) 40
  rw [callX_eq (cf := gantrylaw17_BounceGaps) rfl]
  obtain ⟨p, hp⟩ : ∃ p, hgt u a e t 40 = p := ⟨_, rfl⟩
  rw [hp] at gH hs
  obtain ⟨z, kk, c⟩ := p
  simp only at hs
  by_cases hc : c = 0
  · subst hc
    obtain ⟨ho, ht0, hl, hn, i, rfl, hi, hz, hst, hdu, hno⟩ := hgt_ok hp
    have hi40 : i ≤ 40 := hi
    obtain ⟨ha, he⟩ := okS_ne ho
    obtain ⟨A, d, v, hA, hd', hv, sA, sd, sv, gF⟩ := flX h9 ho (m := i) (by omega)
    rw [← sta_same ha he] at hA
    have hd2 : d = durK u a e i := by rw [dur_same, hd']; rfl
    have hv2 : v = spdK u e i := hv
    clear hd' hv
    obtain ⟨q1, q2, q3⟩ := h9
    obtain ⟨s, hs', ss, gs⟩ := subX (a := t) (b := A) (by omega) (by omega)
    obtain ⟨hf, hhf, shf, ghf⟩ := rofX (n := 1) (d := 2) ⟨by omega, by omega⟩ ⟨by omega, by omega⟩
    obtain ⟨m1, hm1, sm1, gm1⟩ := mulX (a := hf) (b := a) (by omega) (by omega)
    have gneg := ratNeg_spec m1
    obtain ⟨nm, hnm⟩ : ∃ x, -m1 = x := ⟨_, rfl⟩
    rw [hnm] at gneg
    have snm : sz nm ≤ 12 := by rw [← hnm, sz_neg]; omega
    have hapos := (okS_a ho).2.1
    have hnz : nm ≠ 0 := by
      rw [← hnm, hm1, hhf]
      have e5 : Rat.divInt 1 2 + Rat.divInt 1 2 = 1 := by kernel_rfl
      generalize Rat.divInt 1 2 = h at *
      intro h0
      have : (h + h) * a = 0 := by grind
      rw [e5, Rat.one_mul] at this
      rw [this] at hapos
      exact Rat.lt_irrefl hapos
    obtain ⟨d', hr', gT⟩ := Trim_spec (RwR.row [0, v, nm]) (by simp only [List.length_cons, List.length_nil]; omega)
    rw [trim3 hnz] at hr'
    have hszl : ∀ q ∈ [0, v, nm], sz q ≤ 3000 := by
      intro q hq
      simp only [List.mem_cons, List.not_mem_nil, or_false] at hq
      rcases hq with rfl | rfl | rfl
      · rw [sz_zero]; omega
      · omega
      · omega
    have gE := Eval_spec (x := s) (K := 3000) hr' (by omega) (by omega) hszl (by simp only [List.length_cons, List.length_nil]; omega)
    have hEs := evR_sz (x := s) (K := 3000) (by omega) [0, v, nm] hszl
    have hEs' : sz (evR [0, v, nm] s) ≤ 20000 := Nat.le_trans hEs (by simp only [List.length_cons, List.length_nil]; omega)
    clear hEs
    have hEv : evR [0, v, nm] s = z := by
      rw [hz]
      show ((0 * s + nm) * s + v) * s + 0 = fallK u a e t i
      unfold fallK
      rw [← hnm, hm1, hhf, hv2, hs', hA]
      generalize t - staK u a e i = r
      generalize spdK u e i = w
      generalize Rat.divInt 1 2 = h
      grind
    rw [hEv] at gE hEs'
    have gz := ratSign_spec z
    have gss := ratSign_spec s
    have p0 := fall_pos ho hst hdu
    rw [← hz, ← hA, ← hs'] at p0
    have x1 : decide (Int.sign z.num < 0) = false := by rw [sign_lt]; exact decide_eq_false (Rat.not_lt.2 p0.1)
    obtain ⟨b0, hb0⟩ : ∃ b0, decide (z = 0) = b0 := ⟨_, rfl⟩
    have x2 : (Int.sign z.num == 0) = b0 := by rw [sgn0, hb0]
    have x3 : (Int.sign s.num == 0) = b0 := by rw [sgn0, ← hb0]; exact decide_eq_decide.2 p0.2.symm
    have x3' : (b0 == b0) = true := by cases b0 <;> rfl
    have s0 : 0 ≤ s := by rw [hs', hA]; generalize staK u a e i = q at *; grind
    have x4 : decide (Int.sign s.num < 0) = false := by rw [sign_lt]; exact decide_eq_false (Rat.not_lt.2 s0)
    obtain ⟨cc, hcc, gcc⟩ := cmpX (a := s) (b := d) (by omega) (by omega)
    have x5 : decide (cc ≥ 0) = false := by
      rw [hcc, cmR_ge]
      apply decide_eq_false
      rw [hd2, hs', hA]
      exact Rat.not_le.2 hdu
    have gS := sameX (a := z) (b := z) rfl (by omega) (by omega)
    have ne0 : ((0 : Int) != 0) = false := rfl
    have ez : decide ((0 : Rat).num < 0) = false := rfl
    have ez2 : dg (digs (0 : Rat).num.natAbs) = .z true := by rw [Rat.zero_num, show (0 : Int).natAbs = 0 from rfl, digs_zero]; rfl
    have ez3 : dg (dd (0 : Rat).den) = .z true := rfl
    simp only [rowR, cRs, ez, ez2, ez3, List.length_cons, List.length_nil, Nat.reduceAdd] at gT
    generalize Int.sign z.num = sz1 at *
    generalize Int.sign s.num = sz2 at *
    by_cases hi0 : i = 0
    · have hk0 : (i : Int) = 0 := by omega
      rw [hk0] at gH gF
      have x6 : ((0 : Int) == 0) = true := rfl
      clear hs hp hz hst hdu hno hA hd2 hv2 ss sA sd sv hhf shf hm1 sm1 snm hEs' hszl hEv p0 s0 hcc hs' hb0
      simp only [encS, encR, encH, bv, iv] at g1 g2 k1 k10 gH gF gs ghf gm1 gneg gE gz gss gcc gS
      simp -implicitDefEqProofs (maxSteps := 10000000) only [gantrylaw17_BounceGaps, go_sem, stcells, ldcells, iv, bv, g1, g2, k1, k10, gH, gF, gs, ghf, gm1, gneg, gT, gE, gz, gss, gcc, gS, x1, x2, x3, x3', x4, x5, x6, rep3c, ne0, toDs, apartS, ne_eq, not_false_eq_true, reduceCtorEq, ↓reduceIte, Nat.reduceEqDiff]
    · obtain ⟨m, rfl⟩ : ∃ m, i = m + 1 := ⟨i - 1, by omega⟩
      have x6 : (((m + 1 : Nat) : Int) == 0) = false := beq_f (by omega)
      obtain ⟨A0, d0, v0, hA0, hd0, hv0, sA0, sd0, sv0, gF0⟩ := flX (u := u) (a := a) (e := e) ⟨q1, q2, q3⟩ ho (m := 0) (by omega)
      have e00 : ((0 : Nat) : Int) = 0 := rfl
      rw [e00] at gF0
      obtain ⟨ue, hue, sue, gue⟩ := mulX (a := u) (b := e) (by omega) (by omega)
      obtain ⟨td, htd, std, gtd⟩ := subX (a := t) (b := d0) (by omega) (by omega)
      have hd0' : d0 = durK u a e 0 := by rw [dur_same, hd0]; rfl
      have h9y : Sz9 ue a e := ⟨by have := h3.1; have := h3.2.2; omega, q2, q3⟩
      have gH2 := bHeight_spec (n := 40) h9y.big (t := td) (by omega)
      have hnx := hgt_next (n := 40) (m := m) ho hn hi hl hst hdu hno
      rw [← hd0', ← htd, ← hue, ← hz] at hnx
      rw [hnx] at gH2
      have x7 : w64 (((m + 1 : Nat) : Int) - 1) = (m : Int) := by rw [w64_id (by omega) (by omega)]; omega
      have x8 : ((m : Int) == (m : Int)) = true := beq_t rfl
      have x9 : ((0 : Int) == 0) = true := rfl
      clear hs hp hz hst hdu hno hA hd2 hv2 ss sA sd sv hhf shf hm1 sm1 snm hEs' hszl hEv p0 s0 hcc hs' hb0 hA0 hd0 hv0 sA0 sd0 sv0 hue sue htd std hd0' hnx e00 hi hi40 hi0
      generalize ((m + 1 : Nat) : Int) = kk at *
      simp only [encS, encR, encH, bv, iv] at g1 g2 k1 k10 gH gF gs ghf gm1 gneg gE gz gss gcc gS gF0 gue gtd gH2
      simp -implicitDefEqProofs (maxSteps := 10000000) only [gantrylaw17_BounceGaps, go_sem, stcells, ldcells, iv, bv, g1, g2, k1, k10, gH, gF, gs, ghf, gm1, gneg, gT, gE, gz, gss, gcc, gS, gF0, gue, gtd, gH2, x1, x2, x3, x3', x4, x5, x6, x7, x8, x9, rep3c, ne0, toDs, apartS, ne_eq, not_false_eq_true, reduceCtorEq, ↓reduceIte, Nat.reduceEqDiff]
  · have ec : (c != 0) = true := by rw [bne, beq_f hc]; rfl
    simp only [encS, encR, encH, bv, iv] at g1 g2 k1 k10 gH
    simp -implicitDefEqProofs (maxSteps := 10000000) only [gantrylaw17_BounceGaps, go_sem, stcells, ldcells, iv, bv, g1, g2, k1, k10, gH, ec, toDs, apartS, ne_eq, not_false_eq_true, reduceCtorEq, ↓reduceIte, Nat.reduceEqDiff]
end Go.Proofs.Ytgakeohkfgdcfaa.Pure

/- The row of BounceGaps, out of its Pure. Printed by row.py. -/
namespace Go.Proofs.Ytgakeohkfgdcfaa.bounceGaps
open Go.ChangeShapes Go.WideShapes Go.ChangeAt Go.RowKit Go.AM
theorem own : ownKnob Try.prog.godebug = none := by kernel_rfl
theorem laidOut : laidOutB Try.prog = true := by kernel_rfl
set_option maxRecDepth 100000 in
theorem lifted (os : Os) (started : os.Started) (H : Type) (enc : TypeId × Value → H) :
    ReturnsInHanded {} Try.checked os 9 .any (Rows.bounceGapsSpec.pre6 enc Try.prog Try.f9 Rows.bounceGapsRow.domain false) (Rows.bounceGapsSpec.post enc Try.prog Try.f9 false true false false) := by
  refine returnsInHanded_of_change_sized (C := Try.checked) own started (by kernel_rfl) Try.func9
    (ChangeSpec.witness6 (enc := enc) (C := Try.checked) false ⟨#[], #[.slice none 0 0, .int .i64 0], []⟩ 8 (by kernel_rfl) (by kernel_rfl) (by kernel_rfl) (by kernel_rfl)) ?_
  intro W base args ds gs before hval0 hW hcnd hsz0 _
  have hsz : (DataW.weightsEach Try.prog (Try.f9.params.toList ++ Rows.bounceGapsSpec.plain.varTypes Try.prog) (ds ++ gs)).all (· ≤ reachBytes) = true := hsz0
  have hval : ∀ (j : Nat) t v, Try.f9.params[j]? = some t → args[j]? = some v → Value.okWide Try.prog W .any base t v := hval0
  have hW' := hW
  obtain ⟨p, q, hA0, hV, rfl, hfz, hnd⟩ := hW
  have hA : DataW.TrodAll enc Try.prog W 0 (fun _ => true) true Try.f9.params.toList args.toList ds p := hA0
  rw [Try.params9] at hA hval hsz
  obtain ⟨v0, vs0, d0, ds0, p0, q0, hargs, rfl, rfl, h0, r0⟩ := trodAll_cons hA
  obtain ⟨v1, vs1, d1, ds1, p1, q1, rfl, rfl, rfl, h1, r1⟩ := trodAll_cons r0
  obtain ⟨rfl, rfl, rfl⟩ := trodAll_nil r1
  obtain rfl : args = #[v0, v1] := by cases args; simp_all
  obtain ⟨rfl, rfl⟩ := trodVars_none hV
  obtain ⟨a0, len0, cap0, rfl⟩ := okWide_slice Try.underlying22 (hval 0 22 v0 rfl rfl)
  have k0 := h0
  have lt0 : ∀ x ∈ p0, x.block < W.heap.size := by obtain ⟨m, hm⟩ := k0; exact DataW.trod_lt m _ _ _ hm
  obtain ⟨z0, w0, y0⟩ : ∃ zs, ((a0 = none ∧ len0 = 0 ∧ cap0 = 0 ∧ zs = []) ∨ ∃ x, a0 = some x ∧ len0 ≤ cap0 ∧ cap0 ≤ maxLen ∧ zs.length = cap0 ∧ (∀ i, i < zs.length → W.cell? (x.add i) = some (.int .i64 (zs.getD i 0))) ∧ ∀ n ∈ zs, (Lit.int .i64 n).wf = true) ∧ len0 * 8 ≤ 140737488351232 := by
    obtain ⟨fuel, hf⟩ := h0
    rcases open_ints Try.underlying22 Try.underlying3 (by kernel_rfl) hf with ⟨hcs, _⟩ | ⟨x, l, c, zs, hcs, _, hl, hm, hz, hx, hcell, hwz⟩
    · simp [Value.cells] at hcs
      obtain ⟨rfl, rfl, rfl⟩ := hcs
      exact ⟨[], .inl ⟨rfl, rfl, rfl, rfl⟩, by simp⟩
    · simp [Value.cells] at hcs
      obtain ⟨rfl, rfl, rfl⟩ := hcs
      refine ⟨zs, .inr ⟨_, rfl, hl, hm, by simpa using hz, hcell, hwz⟩, ?_⟩
      simp only [Prod.mk.injEq] at hx
      have hd := hx.1
      have z := sized_slice hsz (j := 0) (t := 22) rfl (by rw [hd]; rfl) Try.underlying22
      have hb : Try.prog.bytesOf 3 = 8 := by kernel_rfl
      rw [hb] at z
      have hr : reachBytes ≤ 140737488351232 := by decide
      have hz' : zs.length = cap0 := by simpa using hz
      simp only [lits, List.length_map, List.length_take, List.length_drop] at z
      omega
  obtain ⟨e0, l0, hd0, hrep0, hlen0, hwf0⟩ := arg_row w0
  obtain ⟨a1, rfl, rfl, rfl, w1⟩ := open_int Try.underlying3 (hval 1 3 v1 rfl rfl) h1
  clear hA0 hval0 hsz0 hsz
  refine (law_walk env17 (f := 9) (ds := [e0, (iv a1)]) (vs := [.slice a0 len0 cap0, .int .i64 a1]) (w := W) (RepL.cons _ _ _ _ hrep0 (RepL.cons _ _ _ _ (RepD.v _) RepL.nil)) (Pure.BounceGaps e0 l0 hd0 hwf0 (by rw [hlen0]; exact y0) a1 w1)).mono fun e W' ⟨he, bel⟩ => ?_
  subst he
  exact ⟨_, rfl, _, _, _, [], _, [], hW', trodAll_mk1 (shut_bool Try.underlying4 _), (trodAll_cons_mk (Below.trod laidOut (by kernel_rfl) (of_decide_eq_true (by kernel_rfl)) k0 bel lt0) (trodAll_cons_mk (shut_int Try.underlying3 w1) trodAll_mk0)), rfl, bel.frame _, fun h => by cases h⟩
theorem over : Rows.bounceGapsRow.holds Try.pinned (OpenSpec.ofChange Rows.bounceGapsSpec) :=
  OpenClaim.holds_of_wide 9 Try.f9 rfl rfl rfl rfl rfl rfl rfl ⟨rfl, rfl, rfl, rfl, rfl⟩ rfl rfl rfl rfl rfl (by kernel_rfl) Try.func9 (by kernel_rfl)
    (of_decide_eq_true (by kernel_rfl)) (by unfold Func.isWrapper; first | (rw [if_pos (by decide +kernel)]; kernel_rfl) | (rw [if_neg (by decide +kernel)]; exact ⟨rfl, rfl⟩))
    (fun os started H enc _ => lifted os started H enc)
theorem proved : Rows.BounceGapsSaid := over
end Go.Proofs.Ytgakeohkfgdcfaa.bounceGaps
namespace Go.Proofs.Ytgakeohkfgdcfaa
theorem bounceGaps_holds : Rows.BounceGapsSaid := bounceGaps.proved
end Go.Proofs.Ytgakeohkfgdcfaa


