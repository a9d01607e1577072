/- Part 12 of the proof: a small machine, its soundness against the model, and what the program's functions compute on it. -/
import Derived.Test.YtahiegebcdeaoaaGreatDoorM11
import Derived.Lib.LaidTab
import Derived.LaidMore
import Derived.MakeChecks
import Derived.Test.YtahiegebcdeaoaaGreatDoorCards
import Derived.Test.YtahiegebcdeaoaaGreatDoorTie
import Derived.Test.YtahiegebcdeaoaaGreatDoorM8
import Derived.WalkKit
import Derived.ProofKit
import Derived.OpenShut
import Derived.ShutString
import Derived.ChangeOld
import Derived.Below
import Derived.SizedLaws
import Derived.Lay
import Derived.SevenTiedAt
import Derived.Stop.Joined
set_option linter.unusedVariables false
set_option linter.unusedSimpArgs false
namespace Go.AM
open Go Go.RowKit
theorem hupdO_nn (h : Hp) (k : Key) (hk : h k = none) : hupdO h k none = h := by
  funext k'
  unfold hupdO
  by_cases e : k' = k
  · subst e; simp_all
  · simp_all
variable [Its]
def r0_st (e0 e1 : D) (m : Int) (a : Rat) (x8 : Int) (x9 : Bool) (lx : List Rat) (i : Int) : St := mkS [(0, .d e0), (1, .d e1), (2, ai m), (7, .ptr [7] 0), (8, ai x8), (9, ab x9), (10, ai x8), (11, ab x9), (12, gA4 40 lx), (13, .d (.z true)), (14, ai i)] (([7], bR a) :: gH4 40 lx)
def r0_en (e1 : D) (m : Int) (a : Rat) (x8 : Int) (x9 : Bool) (lx : List Rat) : St := mkS [(1, .d e1), (2, ai m), (7, .ptr [7] 0), (8, ai x8), (9, ab x9), (10, ai x8), (11, ab x9), (12, gA4 40 lx), (13, .d (.z true))] (([7], bR a) :: gH4 40 lx)
theorem r0_go {e0 e1 : D} {m : Int} {a q : Rat} {x8 : Int} {x9 : Bool} {lx : List Rat} {n i : Nat} (hi : i < n) (hn : n ≤ 6) (hl : lx.length = i) (ga : callX G n_gantryref01_Around [iv m, iv 6] = some (.d (iv n))) (gq : callX G n_gantryref05_Number [e0, iv (2 * (i : Int))] = some (.d (encR q))) :
    X G gantrylaw05_RatRounds_l0 (r0_st e0 e1 m a x8 x9 lx i) = some (.n, r0_st e0 e1 m a x8 x9 (lx ++ [q]) ((i + 1 : Nat) : Int)) := by
  have e1 : decide ((i : Int) < (n : Int)) = true := lt_t (by omega)
  have e2 : w64 ((i : Int) + 1) = ((i + 1 : Nat) : Int) := by rw [w64_id (by omega) (by omega)]; rfl
  have e3 : w64 (2 * (i : Int)) = 2 * (i : Int) := w64_id (by omega) (by omega)
  have d1 := dgone (digs q.num.natAbs)
  have d2 := dgone (dd q.den)
  have hb : (64 ≤ bound) = True := eq_true (by unfold bound; omega)
  have hb1 : (1 * 64 ≤ bound) = True := eq_true (by unfold bound; omega)
  have ge : encR q = .agg [.v (.bool (decide (q.num < 0))), dg (digs q.num.natAbs), .v (.bool false), dg (dd q.den)] := rfl
  rw [ge] at gq
  simp only [iv] at ga gq
  by_cases h0 : lx = []
  · subst h0
    simp -implicitDefEqProofs (maxSteps := 10000000) only [gantrylaw05_RatRounds_l0, r0_st, bR, ga, gq, e1, e2, e3, gA4_nil, gH4_nil, hupdO_none, gA4_snoc, gH4_snoc, List.nil_append, List.cons_append, List.append_nil, List.length_nil, List.length_cons, Nat.zero_add, List.map_cons, List.map_nil, rep1c, gA4_one, gH4_one, cA_one, srcS, src, one_b, allD, hb, hb1, d1, d2, go_sem, reduceCtorEq, ↓reduceIte, Nat.reduceEqDiff, iv, bv]
  · have n3 : (cA lx).length = lx.length * 4 := cA_length lx
    have n4 : ((lx.length + 1) * 64 ≤ bound) = True := eq_true (by unfold bound; omega)
    simp -implicitDefEqProofs (maxSteps := 10000000) only [gantrylaw05_RatRounds_l0, r0_st, bR, ga, gq, e1, e2, e3, gA4_ne h0, gH4_ne h0, List.nil_append, List.cons_append, List.append_nil, List.length_nil, List.length_cons, Nat.zero_add, List.map_cons, List.map_nil, rep1c, cA_snoc, n3, n4, refsL_cA, hupdO_none, gA4_snoc, gH4_snoc, srcS, src, one_b, allD, d1, d2, go_sem, reduceCtorEq, ↓reduceIte, Nat.reduceEqDiff, iv, bv]
theorem r0_stop {e0 e1 : D} {m : Int} {a : Rat} {x8 : Int} {x9 : Bool} {lx : List Rat} {n : Nat} (ga : callX G n_gantryref01_Around [iv m, iv 6] = some (.d (iv n))) : X G gantrylaw05_RatRounds_l0 (r0_st e0 e1 m a x8 x9 lx n) = some (.x 0, r0_en e1 m a x8 x9 lx) := by
  have e1 : decide ((n : Int) < (n : Int)) = false := lt_f (by omega)
  simp only [iv] at ga
  by_cases h0 : lx = []
  · subst h0
    simp -implicitDefEqProofs (maxSteps := 10000000) only [gantrylaw05_RatRounds_l0, r0_st, r0_en, bR, ga, e1, gA4_nil, gH4_nil, hupdO_none, go_sem, reduceCtorEq, ↓reduceIte, Nat.reduceEqDiff, iv, bv]
  · simp -implicitDefEqProofs (maxSteps := 10000000) only [gantrylaw05_RatRounds_l0, r0_st, r0_en, bR, ga, e1, gA4_ne h0, gH4_ne h0, refsL_cA, hupdO_none, go_sem, reduceCtorEq, ↓reduceIte, Nat.reduceEqDiff, iv, bv]
theorem r0_loop {e0 e1 : D} {m : Int} {a : Rat} {x8 : Int} {x9 : Bool} {n : Nat} (hn : n ≤ 6) (ga : callX G n_gantryref01_Around [iv m, iv 6] = some (.d (iv n))) (hq : ∀ i : Nat, i < n → ∃ q : Rat, sz q ≤ 8 ∧ callX G n_gantryref05_Number [e0, iv (2 * (i : Int))] = some (.d (encR q))) :
    ∀ (j i : Nat) (lx : List Rat), i + j = n → lx.length = i → SzL 8 lx → ∃ l, SzL 8 l ∧ l.length = n ∧ X G (.loop gantrylaw05_RatRounds_l0) (r0_st e0 e1 m a x8 x9 lx i) = some (.x 0, r0_en e1 m a x8 x9 l)
  | 0, i, lx, h, hl, hs => by
    have : i = n := by omega
    subst this
    exact ⟨lx, hs, hl, by rw [X_loop, r0_stop ga]; rfl⟩
  | j + 1, i, lx, h, hl, hs => by
    obtain ⟨q, zq, gq⟩ := hq i (by omega)
    obtain ⟨l, h1, h2, h3⟩ := r0_loop (a := a) (x8 := x8) (x9 := x9) (e1 := e1) hn ga hq j (i + 1) (lx ++ [q]) (by omega) (by simp [hl]) (fun p hp => by
      rcases List.mem_append.1 hp with h | h
      · exact hs p h
      · rw [List.mem_singleton.1 h]; exact zq)
    exact ⟨l, h1, h2, by rw [X_loop, r0_go (by omega) hn hl ga gq, Option.bind_some, if_pos rfl]; exact h3⟩

def r1_st (e1 : D) (m : Int) (a : Rat) (x8 : Int) (x9 : Bool) (lx ly : List Rat) (i : Int) : St := mkS [(1, .d e1), (2, ai m), (7, .ptr [7] 0), (8, ai x8), (9, ab x9), (10, ai x8), (11, ab x9), (12, gA4 40 lx), (13, gA4 54 ly), (15, ai i)] (([7], bR a) :: (gH4 40 lx ++ gH4 54 ly))
def r1_en (a : Rat) (x8 : Int) (x9 : Bool) (lx ly : List Rat) : St := mkS [(7, .ptr [7] 0), (8, ai x8), (9, ab x9), (10, ai x8), (11, ab x9), (12, gA4 40 lx), (13, gA4 54 ly)] (([7], bR a) :: (gH4 40 lx ++ gH4 54 ly))
theorem r1_go {e1 : D} {m v : Int} {a q : Rat} {x8 : Int} {x9 : Bool} {lx ly : List Rat} {n i : Nat} (hi : i < n) (hn : n ≤ 6) (hl : ly.length = i) (hv : w64 (m.tdiv 6) = v) (ga : callX G n_gantryref01_Around [iv v, iv 6] = some (.d (iv n))) (gq : callX G n_gantryref05_Number [e1, iv (2 * (i : Int))] = some (.d (encR q))) :
    X G gantrylaw05_RatRounds_l1 (r1_st e1 m a x8 x9 lx ly i) = some (.n, r1_st e1 m a x8 x9 lx (ly ++ [q]) ((i + 1 : Nat) : Int)) := by
  have e1 : decide ((i : Int) < (n : Int)) = true := lt_t (by omega)
  have e2 : w64 ((i : Int) + 1) = ((i + 1 : Nat) : Int) := by rw [w64_id (by omega) (by omega)]; rfl
  have e3 : w64 (2 * (i : Int)) = 2 * (i : Int) := w64_id (by omega) (by omega)
  have six : ((6 : Int) = 0) = False := by simp
  have d1 := dgone (digs q.num.natAbs)
  have d2 := dgone (dd q.den)
  have hb : (64 ≤ bound) = True := eq_true (by unfold bound; omega)
  have hb1 : (1 * 64 ≤ bound) = True := eq_true (by unfold bound; omega)
  have ge : encR q = .agg [.v (.bool (decide (q.num < 0))), dg (digs q.num.natAbs), .v (.bool false), dg (dd q.den)] := rfl
  rw [ge] at gq
  simp only [iv] at ga gq
  by_cases hx : lx = []
  · subst hx
    by_cases h0 : ly = []
    · subst h0
      simp -implicitDefEqProofs (maxSteps := 10000000) only [gantrylaw05_RatRounds_l1, r1_st, bR, ga, gq, e1, e2, e3, hv, six, hupdO_nn, gA4_nil, gH4_nil, hupdO_none, gA4_snoc, gH4_snoc, List.nil_append, List.cons_append, List.append_nil, List.length_nil, List.length_cons, Nat.zero_add, List.map_cons, List.map_nil, rep1c, gA4_one, gH4_one, cA_one, srcS, src, one_b, allD, hb, hb1, d1, d2, go_sem, reduceCtorEq, ↓reduceIte, Nat.reduceEqDiff, iv, bv]
    · have n3 : (cA ly).length = ly.length * 4 := cA_length ly
      have n4 : ((ly.length + 1) * 64 ≤ bound) = True := eq_true (by unfold bound; omega)
      simp -implicitDefEqProofs (maxSteps := 10000000) only [gantrylaw05_RatRounds_l1, r1_st, bR, ga, gq, e1, e2, e3, hv, six, hupdO_nn, gA4_nil, gH4_nil, gA4_ne h0, gH4_ne h0, List.nil_append, List.cons_append, List.append_nil, List.length_nil, List.length_cons, Nat.zero_add, List.map_cons, List.map_nil, rep1c, cA_snoc, n3, n4, refsL_cA, hupdO_none, gA4_snoc, gH4_snoc, srcS, src, one_b, allD, d1, d2, go_sem, reduceCtorEq, ↓reduceIte, Nat.reduceEqDiff, iv, bv]
  · by_cases h0 : ly = []
    · subst h0
      simp -implicitDefEqProofs (maxSteps := 10000000) only [gantrylaw05_RatRounds_l1, r1_st, bR, ga, gq, e1, e2, e3, hv, six, hupdO_nn, gA4_ne hx, gH4_ne hx, refsL_cA, gA4_nil, gH4_nil, hupdO_none, gA4_snoc, gH4_snoc, List.nil_append, List.cons_append, List.append_nil, List.length_nil, List.length_cons, Nat.zero_add, List.map_cons, List.map_nil, rep1c, gA4_one, gH4_one, cA_one, srcS, src, one_b, allD, hb, hb1, d1, d2, go_sem, reduceCtorEq, ↓reduceIte, Nat.reduceEqDiff, iv, bv]
    · have n3 : (cA ly).length = ly.length * 4 := cA_length ly
      have n4 : ((ly.length + 1) * 64 ≤ bound) = True := eq_true (by unfold bound; omega)
      simp -implicitDefEqProofs (maxSteps := 10000000) only [gantrylaw05_RatRounds_l1, r1_st, bR, ga, gq, e1, e2, e3, hv, six, hupdO_nn, gA4_ne hx, gH4_ne hx, gA4_ne h0, gH4_ne h0, List.nil_append, List.cons_append, List.append_nil, List.length_nil, List.length_cons, Nat.zero_add, List.map_cons, List.map_nil, rep1c, cA_snoc, n3, n4, refsL_cA, hupdO_none, gA4_snoc, gH4_snoc, srcS, src, one_b, allD, d1, d2, go_sem, reduceCtorEq, ↓reduceIte, Nat.reduceEqDiff, iv, bv]
theorem r1_stop {e1 : D} {m v : Int} {a : Rat} {x8 : Int} {x9 : Bool} {lx ly : List Rat} {n : Nat} (hv : w64 (m.tdiv 6) = v) (ga : callX G n_gantryref01_Around [iv v, iv 6] = some (.d (iv n))) : X G gantrylaw05_RatRounds_l1 (r1_st e1 m a x8 x9 lx ly n) = some (.x 2, r1_en a x8 x9 lx ly) := by
  have e1 : decide ((n : Int) < (n : Int)) = false := lt_f (by omega)
  have six : ((6 : Int) = 0) = False := by simp
  simp only [iv] at ga
  by_cases hx : lx = []
  · subst hx
    by_cases h0 : ly = []
    · subst h0
      simp -implicitDefEqProofs (maxSteps := 10000000) only [gantrylaw05_RatRounds_l1, r1_st, r1_en, bR, ga, e1, hv, six, hupdO_nn, gA4_nil, gH4_nil, hupdO_none, List.nil_append, List.append_nil, go_sem, reduceCtorEq, ↓reduceIte, Nat.reduceEqDiff, iv, bv]
    · simp -implicitDefEqProofs (maxSteps := 10000000) only [gantrylaw05_RatRounds_l1, r1_st, r1_en, bR, ga, e1, hv, six, hupdO_nn, gA4_nil, gH4_nil, gA4_ne h0, gH4_ne h0, refsL_cA, hupdO_none, List.nil_append, List.append_nil, go_sem, reduceCtorEq, ↓reduceIte, Nat.reduceEqDiff, iv, bv]
  · by_cases h0 : ly = []
    · subst h0
      simp -implicitDefEqProofs (maxSteps := 10000000) only [gantrylaw05_RatRounds_l1, r1_st, r1_en, bR, ga, e1, hv, six, hupdO_nn, gA4_nil, gH4_nil, gA4_ne hx, gH4_ne hx, refsL_cA, hupdO_none, List.nil_append, List.append_nil, List.cons_append, go_sem, reduceCtorEq, ↓reduceIte, Nat.reduceEqDiff, iv, bv]
    · simp -implicitDefEqProofs (maxSteps := 10000000) only [gantrylaw05_RatRounds_l1, r1_st, r1_en, bR, ga, e1, hv, six, hupdO_nn, gA4_ne hx, gH4_ne hx, gA4_ne h0, gH4_ne h0, refsL_cA, hupdO_none, List.nil_append, List.append_nil, List.cons_append, go_sem, reduceCtorEq, ↓reduceIte, Nat.reduceEqDiff, iv, bv]
theorem r1_loop {e1 : D} {m v : Int} {a : Rat} {x8 : Int} {x9 : Bool} {lx : List Rat} {n : Nat} (hn : n ≤ 6) (hv : w64 (m.tdiv 6) = v) (ga : callX G n_gantryref01_Around [iv v, iv 6] = some (.d (iv n))) (hq : ∀ i : Nat, i < n → ∃ q : Rat, sz q ≤ 8 ∧ callX G n_gantryref05_Number [e1, iv (2 * (i : Int))] = some (.d (encR q))) :
    ∀ (j i : Nat) (ly : List Rat), i + j = n → ly.length = i → SzL 8 ly → ∃ l, SzL 8 l ∧ l.length = n ∧ X G (.loop gantrylaw05_RatRounds_l1) (r1_st e1 m a x8 x9 lx ly i) = some (.x 2, r1_en a x8 x9 lx l)
  | 0, i, ly, h, hl, hs => by
    have : i = n := by omega
    subst this
    exact ⟨ly, hs, hl, by rw [X_loop, r1_stop hv ga]; rfl⟩
  | j + 1, i, ly, h, hl, hs => by
    obtain ⟨q, zq, gq⟩ := hq i (by omega)
    obtain ⟨l, h1, h2, h3⟩ := r1_loop (a := a) (x8 := x8) (x9 := x9) (lx := lx) hn hv ga hq j (i + 1) (ly ++ [q]) (by omega) (by simp [hl]) (fun p hp => by
      rcases List.mem_append.1 hp with h | h
      · exact hs p h
      · rw [List.mem_singleton.1 h]; exact zq)
    exact ⟨l, h1, h2, by rw [X_loop, r1_go (by omega) hn hl hv ga gq, Option.bind_some, if_pos rfl]; exact h3⟩
end Go.AM
namespace Go.Proofs.YtahiegebcdeaoaaGreatDoor.Pure
open Go Go.AM
theorem RatRounds (e0 : D) (l0 : List Int) (hd0 : Dg e0 l0) (hwf0 : ∀ n ∈ l0, (Lit.int .i64 n).wf = true) (hlen0 : l0.length * 8 ≤ 140737488351232) (e1 : D) (l1 : List Int) (hd1 : Dg e1 l1) (hwf1 : ∀ n ∈ l1, (Lit.int .i64 n).wf = true) (hlen1 : l1.length * 8 ≤ 140737488351232) (a2 : Int) (w2 : (Lit.int .i64 a2).wf = true) : callX G 3 [e0, e1, iv a2] = some (.d (bv true)) := by
  obtain ⟨a, na, ga⟩ := rNumber5 (at_ := 0) (rw_dg hd0) (fun n hn => i64_wf (hwf0 n hn)) (by omega)
  have i2 := i64_wf w2
  have r1 := around_spec (m := 6) i2 (by omega)
  have b1 := arnd_b (n := a2) (m := 6) (by omega)
  obtain ⟨n1, hn1⟩ : ∃ n : Nat, arnd a2 6 = n := ⟨(arnd a2 6).toNat, by omega⟩
  rw [hn1] at r1 b1
  have i2' : -9223372036854775808 ≤ a2 ∧ a2 < 9223372036854775808 := i2
  have q2 : -9223372036854775808 ≤ a2.tdiv 6 ∧ a2.tdiv 6 < 9223372036854775808 := by
    have h1 : (a2.tdiv 6).natAbs = a2.natAbs / 6 := by rw [Int.natAbs_tdiv]; rfl
    omega
  obtain ⟨v, hv⟩ : ∃ v, a2.tdiv 6 = v := ⟨_, rfl⟩
  rw [hv] at q2
  have hv' : w64 (a2.tdiv 6) = v := by rw [hv]; exact w64_id q2.1 q2.2
  have r2 := around_spec (n := v) (m := 6) q2 (by omega)
  have b2 := arnd_b (n := v) (m := 6) (by omega)
  obtain ⟨n2, hn2⟩ : ∃ n : Nat, arnd v 6 = n := ⟨(arnd v 6).toNat, by omega⟩
  rw [hn2] at r2 b2
  have g1 := Whole5 (a := a) (by omega)
  have g2 := rWhole5 (a := a) (by omega)
  have f1 := Floor5 (a := a) (by omega)
  have f2 := rFloor5 (a := a) (by omega)
  have nf := nd_fl a
  have f3 := S4_refl (x := flR a) (by omega)
  have c1 := Ceil5 (a := a) (by omega)
  have c2 := rCeil5 (a := a) (by omega)
  have nc := nd_ce a
  have c3 := S4_refl (x := ceR a) (by omega)
  have kl := lives5
  have q3 : (whv a == whv a) = true := beq_self_eq_true _
  have q4 := bself (whb a)
  generalize whv a = x8 at *
  generalize whb a = x9 at *
  generalize flR a = fl at *
  generalize ceR a = ce at *
  obtain ⟨lx, sx, lenx, hx⟩ := r0_loop (e0 := e0) (e1 := e1) (a := a) (x8 := x8) (x9 := x9) (n := n1) (by omega) r1 (fun i hi => rNumber5 (rw_dg hd0) (fun n hn => i64_wf (hwf0 n hn)) (by omega)) n1 0 [] (by omega) rfl (fun q hq => by cases hq)
  obtain ⟨ly, sy, leny, hy⟩ := r1_loop (e1 := e1) (m := a2) (a := a) (x8 := x8) (x9 := x9) (lx := lx) (n := n2) (by omega) hv' r2 (fun i hi => rNumber5 (rw_dg hd1) (fun n hn => i64_wf (hwf1 n hn)) (by omega)) n2 0 [] (by omega) rfl (fun q hq => by cases hq)
  have d1 := Dot5 (dR_ok lx) (dR_ok ly) sx sy (by omega) (by omega) (by omega) (by omega)
  have d2 := rDot5 (dR_ok lx) (dR_ok ly) sx sy (by omega) (by omega) (by omega) (by omega)
  have zd := sz_dotR sx sy (by omega) (min lx.length ly.length)
  have hml : min lx.length ly.length ≤ 6 := by omega
  have d3 := sm5_refl (a := dotR lx ly (min lx.length ly.length)) (by omega)
  generalize dotR lx ly (min lx.length ly.length) = dt at *
  simp only [iv, bv] at ga g1 g2 f3 c3 d3 kl
  rw [callX_eq (cf := gantrylaw05_RatRounds) rfl]
  by_cases hx0 : lx = []
  · subst hx0
    by_cases hy0 : ly = []
    · subst hy0
      have e : dR [] = .z true := rfl
      rw [e] at d1 d2
      simp only [r0_st, r0_en, bR, gA4_nil, gH4_nil, List.nil_append, List.append_nil, go_sem, nc0] at hx
      simp only [r1_st, r1_en, bR, gA4_nil, gH4_nil, List.nil_append, List.append_nil, go_sem, nc0] at hy
      simp -implicitDefEqProofs (maxSteps := 10000000) only [gantrylaw05_RatRounds, frzSt, bR, bI, ga, g1, g2, f1, f2, f3, c1, c2, c3, d1, d2, d3, hx, hy, q3, q4, kl, hupdO_none, hupdO_nn, go_sem, reduceCtorEq, ↓reduceIte, Nat.reduceEqDiff, iv, bv]
    · have e : dR [] = .z true := rfl
      have e' : dR ly = rowR ly := if_neg hy0
      rw [e, e'] at d1 d2
      have fz := allD_cA ly
      simp only [rowR] at d1 d2
      simp only [r0_st, r0_en, bR, gA4_nil, gH4_nil, List.nil_append, List.append_nil, go_sem, nc0] at hx
      simp only [r1_st, r1_en, bR, gA4_nil, gH4_nil, gA4_ne hy0, gH4_ne hy0, List.nil_append, List.append_nil, go_sem, nc0] at hy
      simp -implicitDefEqProofs (maxSteps := 10000000) only [gantrylaw05_RatRounds, frzSt, bR, bI, ga, g1, g2, f1, f2, f3, c1, c2, c3, d1, d2, d3, hx, hy, q3, q4, kl, fz, refsL_cA, hupdO_none, hupdO_nn, go_sem, reduceCtorEq, ↓reduceIte, Nat.reduceEqDiff, iv, bv]
  · by_cases hy0 : ly = []
    · subst hy0
      have e : dR [] = .z true := rfl
      have e' : dR lx = rowR lx := if_neg hx0
      rw [e, e'] at d1 d2
      have fz := allD_cA lx
      simp only [rowR] at d1 d2
      simp only [r0_st, r0_en, bR, gA4_nil, gH4_nil, gA4_ne hx0, gH4_ne hx0, List.nil_append, List.append_nil, go_sem, nc0] at hx
      simp only [r1_st, r1_en, bR, gA4_nil, gH4_nil, gA4_ne hx0, gH4_ne hx0, List.nil_append, List.append_nil, go_sem, nc0] at hy
      simp -implicitDefEqProofs (maxSteps := 10000000) only [gantrylaw05_RatRounds, frzSt, bR, bI, ga, g1, g2, f1, f2, f3, c1, c2, c3, d1, d2, d3, hx, hy, q3, q4, kl, fz, refsL_cA, hupdO_none, hupdO_nn, go_sem, reduceCtorEq, ↓reduceIte, Nat.reduceEqDiff, iv, bv]
    · have e : dR lx = rowR lx := if_neg hx0
      have e' : dR ly = rowR ly := if_neg hy0
      rw [e, e'] at d1 d2
      have fz := allD_cA lx
      have fz' := allD_cA ly
      simp only [rowR] at d1 d2
      simp only [r0_st, r0_en, bR, gA4_nil, gH4_nil, gA4_ne hx0, gH4_ne hx0, List.nil_append, List.append_nil, go_sem, nc0] at hx
      simp only [r1_st, r1_en, bR, gA4_nil, gH4_nil, gA4_ne hx0, gH4_ne hx0, gA4_ne hy0, gH4_ne hy0, List.nil_append, List.append_nil, List.cons_append, go_sem, nc0] at hy
      simp -implicitDefEqProofs (maxSteps := 10000000) only [gantrylaw05_RatRounds, frzSt, bR, bI, ga, g1, g2, f1, f2, f3, c1, c2, c3, d1, d2, d3, hx, hy, q3, q4, kl, fz, fz', refsL_cA, hupdO_none, hupdO_nn, go_sem, reduceCtorEq, ↓reduceIte, Nat.reduceEqDiff, iv, bv]
end Go.Proofs.YtahiegebcdeaoaaGreatDoor.Pure

/- The table that the rows list, as the machine asks for it. -/
namespace Go.AM
open Go Go.Proofs Go.RowKit

theorem laidVars_get {P : Program} {w : World} {n : String} {d : DataW Unit} : ∀ {l : List (String × DataW Unit)} {ps : List MemPlace}, DataW.LaidVars P w l ps → (n, d) ∈ l →
    ∃ g t cs fuel p, P.globalNamed n = some g ∧ (P.globals[g]?).map (·.type) = some t ∧ w.var? P n = some cs ∧ DataW.trod (fun _ => ()) P w 0 (fun _ => true) false fuel t cs.toList = some (d, p)
  | [], _, _, h => by cases h
  | (m, e) :: r, ps, hL, h => by
    obtain ⟨g, t, cs, fuel, p, q, h1, h2, h3, h4, h5, _⟩ := hL
    rcases List.mem_cons.1 h with h' | h'
    · cases h'
      exact ⟨g, t, cs, fuel, p, h1, h2, h3, h4⟩
    · exact laidVars_get h5 h'
def chkT (P : Program) (g : Nat) : Bool :=
  match (P.globals[g]?).map (·.type) with
  | some t => (match P.underlying t with
    | some (.array 20 e) => (match P.underlying e with
      | some (.int .u64) => P.cellsOf e == 1 && P.cellsOf t == 20
      | _ => false)
    | _ => false)
  | none => false
theorem chkT_ok {P : Program} {g : Nat} (h : chkT P g = true) : ∃ t', (P.globals[g]?).map (·.type) = some t' ∧ ∃ e, P.underlying t' = some (.array 20 e) ∧ P.underlying e = some (.int .u64) ∧ P.cellsOf e = 1 ∧ P.cellsOf t' = 20 := by
  unfold chkT at h
  split at h
  · rename_i t ht
    split at h
    · rename_i e he
      split at h
      · rename_i hk
        simp only [Bool.and_eq_true, beq_iff_eq] at h
        exact ⟨t, ht, e, he, hk, h.1, h.2⟩
      · cases h
    · cases h
  · cases h
def tabDat : DataW Unit := Lib.tabData .u64 Lib.pow10Tab
theorem tabOk_laid {l : List (String × DataW Unit)} {w : World} (hL : laidMet Tryz.prog l w) (hm : ("internal/strconv.uint64pow10", tabDat) ∈ l) : TabOk w := by
  obtain ⟨ps, h, _⟩ := hL
  obtain ⟨g, t, cs, fuel, p, h1, h2, h3, h4⟩ := laidVars_get h hm
  have hg : Tryz.prog.globalNamed "internal/strconv.uint64pow10" = some 3 := by kernel_rfl
  obtain rfl : g = 3 := Option.some.inj (h1.symm.trans hg)
  have ht := chkT_ok (P := Tryz.prog) (g := 3) (by kernel_rfl)
  obtain ⟨t', ht, e, k1, k2, k3, k4⟩ := ht
  obtain rfl := Option.some.inj (ht.symm.trans h2)
  have hc := Lib.cells_of_tab k1 k2 k3 k4 h4
  unfold World.var? at h3
  rw [h1, Option.bind_some] at h3
  intro x hx
  have hx' : x = (3, (Lib.pow10Tab.map fun z => Value.int .u64 z).toArray) := by
    have : tabs = [(3, (Lib.pow10Tab.map fun z => Value.int .u64 z).toArray)] := by kernel_rfl
    rw [this] at hx
    exact List.mem_singleton.1 hx
  subst hx'
  cases ho : w.heap[3]? with
  | none => rw [ho] at h3; cases h3
  | some o =>
    rw [ho] at h3
    cases o with
    | cells cs' T fz =>
      simp only [Option.some.injEq] at h3
      subst h3
      refine ⟨(Array.getElem?_eq_some_iff.1 ho).1, T, fz, ?_⟩
      show some (Go.Obj.cells cs' T fz) = some (Go.Obj.cells (Lib.pow10Tab.map fun z => Value.int .u64 z).toArray T fz)
      rw [← hc]
    | _ => cases h3
end Go.AM

/- The row of RatRounds, out of its Pure. Printed by row.py. -/
namespace Go.Proofs.YtahiegebcdeaoaaGreatDoor.ratRounds
open Go.ChangeShapes Go.WideShapes Go.ChangeAt Go.RowKit Go.AM
theorem own : ownKnob Tryz.prog.godebug = none := by kernel_rfl
theorem laidOut : laidOutB Tryz.prog = true := by kernel_rfl
set_option maxRecDepth 100000 in
theorem lifted (os : Os) (started : os.Started) (H : Type) (enc : TypeId × Value → H) :
    ReturnsInHanded {} Tryz.checked os 3 .any (fun w args => (Rows.ratRoundsSpec.pre enc Tryz.prog Tryz.f3 Rows.ratRoundsRow.domain false w args ∧ laidMetH Tryz.prog Rows.ratRoundsRow.laid w) ∧ sizedMet enc Tryz.prog Tryz.f3 (OpenSpec.ofChange Rows.ratRoundsSpec) false w args)
      (Rows.ratRoundsSpec.post enc Tryz.prog Tryz.f3 false true false false) := by
  refine returnsInHanded_of_change_and (C := Tryz.checked) (X := fun w _ => laidMetH Tryz.prog Rows.ratRoundsRow.laid w) (fun _ _ _ hh h => h.of_heap hh) own started (by kernel_rfl) Tryz.func3
    (ChangeSpec.witness_shaped (enc := enc) (C := Tryz.checked) (os := os) (X := fun w _ => laidMetH Tryz.prog Rows.ratRoundsRow.laid w) false (World.laidAll Tryz.prog os Rows.ratRoundsRow.laid) #[.slice none 0 0, .slice none 0 0, .int .i64 0] 8 (World.laidAll_os _ _ _)
      (World.shaped_of_ZipB (by kernel_rfl) (by kernel_rfl)) (by kernel_rfl) (by kernel_rfl) (by kernel_rfl)
      (by rw [MakeChecks.laidMetH_plain _ _ _ (by kernel_rfl)]; exact laidMet_laidAll _ (by kernel_rfl) (by kernel_rfl))) ?_
  intro W base args ds gs before hval0 hW hcnd hsz0 hL _
  have hsz : (DataW.weightsEach Tryz.prog (Tryz.f3.params.toList ++ Rows.ratRoundsSpec.plain.varTypes Tryz.prog) (ds ++ gs)).all (· ≤ reachBytes) = true := hsz0
  have hval : ∀ (j : Nat) t v, Tryz.f3.params[j]? = some t → args[j]? = some v → Value.okWide Tryz.prog W .any base t v := hval0
  have hW' := hW
  obtain ⟨p, q, hA0, hV, rfl, hfz, hnd⟩ := hW
  have hA : DataW.TrodAll enc Tryz.prog W 0 (fun _ => true) true Tryz.f3.params.toList args.toList ds p := hA0
  rw [Tryz.params3] at hA hval hsz
  obtain ⟨v0, vs0, d0, ds0, p0, q0, hargs, rfl, rfl, h0, r0⟩ := trodAll_cons hA
  obtain ⟨v1, vs1, d1, ds1, p1, q1, rfl, rfl, rfl, h1, r1⟩ := trodAll_cons r0
  obtain ⟨v2, vs2, d2, ds2, p2, q2, rfl, rfl, rfl, h2, r2⟩ := trodAll_cons r1
  obtain ⟨rfl, rfl, rfl⟩ := trodAll_nil r2
  obtain rfl : args = #[v0, v1, v2] := by cases args; simp_all
  obtain ⟨rfl, rfl⟩ := trodVars_none hV
  obtain ⟨a0, len0, cap0, rfl⟩ := okWide_slice Tryz.underlying22 (hval 0 22 v0 rfl rfl)
  have k0 := h0
  have lt0 : ∀ x ∈ p0, x.block < W.heap.size := by obtain ⟨m, hm⟩ := k0; exact DataW.trod_lt m _ _ _ hm
  obtain ⟨z0, w0, y0⟩ : ∃ zs, ((a0 = none ∧ len0 = 0 ∧ cap0 = 0 ∧ zs = []) ∨ ∃ x, a0 = some x ∧ len0 ≤ cap0 ∧ cap0 ≤ maxLen ∧ zs.length = cap0 ∧ (∀ i, i < zs.length → W.cell? (x.add i) = some (.int .i64 (zs.getD i 0))) ∧ ∀ n ∈ zs, (Lit.int .i64 n).wf = true) ∧ len0 * 8 ≤ 140737488351232 := by
    obtain ⟨fuel, hf⟩ := h0
    rcases open_ints Tryz.underlying22 Tryz.underlying3 (by kernel_rfl) hf with ⟨hcs, _⟩ | ⟨x, l, c, zs, hcs, _, hl, hm, hz, hx, hcell, hwz⟩
    · simp [Value.cells] at hcs
      obtain ⟨rfl, rfl, rfl⟩ := hcs
      exact ⟨[], .inl ⟨rfl, rfl, rfl, rfl⟩, by simp⟩
    · simp [Value.cells] at hcs
      obtain ⟨rfl, rfl, rfl⟩ := hcs
      refine ⟨zs, .inr ⟨_, rfl, hl, hm, by simpa using hz, hcell, hwz⟩, ?_⟩
      simp only [Prod.mk.injEq] at hx
      have hd := hx.1
      have z := sized_slice hsz (j := 0) (t := 22) rfl (by rw [hd]; rfl) Tryz.underlying22
      have hb : Tryz.prog.bytesOf 3 = 8 := by kernel_rfl
      rw [hb] at z
      have hr : reachBytes ≤ 140737488351232 := by decide
      have hz' : zs.length = cap0 := by simpa using hz
      simp only [lits, List.length_map, List.length_take, List.length_drop] at z
      omega
  obtain ⟨e0, l0, hd0, hrep0, hlen0, hwf0⟩ := arg_row w0
  obtain ⟨a1, len1, cap1, rfl⟩ := okWide_slice Tryz.underlying22 (hval 1 22 v1 rfl rfl)
  have k1 := h1
  have lt1 : ∀ x ∈ p1, x.block < W.heap.size := by obtain ⟨m, hm⟩ := k1; exact DataW.trod_lt m _ _ _ hm
  obtain ⟨z1, w1, y1⟩ : ∃ zs, ((a1 = none ∧ len1 = 0 ∧ cap1 = 0 ∧ zs = []) ∨ ∃ x, a1 = some x ∧ len1 ≤ cap1 ∧ cap1 ≤ maxLen ∧ zs.length = cap1 ∧ (∀ i, i < zs.length → W.cell? (x.add i) = some (.int .i64 (zs.getD i 0))) ∧ ∀ n ∈ zs, (Lit.int .i64 n).wf = true) ∧ len1 * 8 ≤ 140737488351232 := by
    obtain ⟨fuel, hf⟩ := h1
    rcases open_ints Tryz.underlying22 Tryz.underlying3 (by kernel_rfl) hf with ⟨hcs, _⟩ | ⟨x, l, c, zs, hcs, _, hl, hm, hz, hx, hcell, hwz⟩
    · simp [Value.cells] at hcs
      obtain ⟨rfl, rfl, rfl⟩ := hcs
      exact ⟨[], .inl ⟨rfl, rfl, rfl, rfl⟩, by simp⟩
    · simp [Value.cells] at hcs
      obtain ⟨rfl, rfl, rfl⟩ := hcs
      refine ⟨zs, .inr ⟨_, rfl, hl, hm, by simpa using hz, hcell, hwz⟩, ?_⟩
      simp only [Prod.mk.injEq] at hx
      have hd := hx.1
      have z := sized_slice hsz (j := 1) (t := 22) rfl (by rw [hd]; rfl) Tryz.underlying22
      have hb : Tryz.prog.bytesOf 3 = 8 := by kernel_rfl
      rw [hb] at z
      have hr : reachBytes ≤ 140737488351232 := by decide
      have hz' : zs.length = cap1 := by simpa using hz
      simp only [lits, List.length_map, List.length_take, List.length_drop] at z
      omega
  obtain ⟨e1, l1, hd1, hrep1, hlen1, hwf1⟩ := arg_row w1
  obtain ⟨a2, rfl, rfl, rfl, w2⟩ := open_int Tryz.underlying3 (hval 2 3 v2 rfl rfl) h2
  clear hA0 hval0 hsz0 hsz
  refine (law_walk env5 (f := 3) (ds := [e0, e1, (iv a2)]) (vs := [.slice a0 len0 cap0, .slice a1 len1 cap1, .int .i64 a2]) (w := W) (tabOk_laid (by rw [← MakeChecks.laidMetH_plain _ _ _ (by kernel_rfl)]; exact hL) (List.mem_of_getElem? (i := 2) (by kernel_rfl))) (RepL.cons _ _ _ _ hrep0 (RepL.cons _ _ _ _ hrep1 (RepL.cons _ _ _ _ (RepD.v _) RepL.nil))) (Pure.RatRounds e0 l0 hd0 hwf0 (by rw [hlen0]; exact y0) e1 l1 hd1 hwf1 (by rw [hlen1]; exact y1) a2 w2)).mono fun e W' ⟨he, bel⟩ => ?_
  subst he
  exact ⟨_, rfl, _, _, _, [], _, [], hW', trodAll_mk1 (shut_bool Tryz.underlying4 _), (trodAll_cons_mk (Below.trod laidOut (by kernel_rfl) (of_decide_eq_true (by kernel_rfl)) k0 bel lt0) (trodAll_cons_mk (Below.trod laidOut (by kernel_rfl) (of_decide_eq_true (by kernel_rfl)) k1 bel lt1) (trodAll_cons_mk (shut_int Tryz.underlying3 w2) trodAll_mk0))), rfl, bel.frame _, fun h => by cases h⟩
theorem over : Rows.ratRoundsRow.holds Tryz.pinned (OpenSpec.ofChange Rows.ratRoundsSpec) :=
  OpenClaim.holds_of_wide 3 Tryz.f3 rfl rfl rfl rfl rfl rfl rfl ⟨rfl, rfl, rfl, rfl, rfl⟩ rfl rfl rfl rfl rfl (by kernel_rfl) Tryz.func3 (by kernel_rfl)
    (of_decide_eq_true (by kernel_rfl)) (by unfold Func.isWrapper; first | (rw [if_pos (by decide +kernel)]; kernel_rfl) | (rw [if_neg (by decide +kernel)]; exact ⟨rfl, rfl⟩))
    (fun os started H enc _ => lifted os started H enc)
theorem card : Rows.RatRoundsCardSaid :=
  Claim7.holds_tied_plain_at .later [] [.data, .data, .data, .data, .sentinel, .sentinel, .pinned] true (true, "0eaa30b5131dfbde3371f0b658c705f87615f6413c9645e69c91e9c5a2d876b8") true over (fun _ h => by cases h) (by kernel_rfl) (fun _ h => by cases h) ratRounds_row_tie rfl ⟨rfl, rfl⟩ (by kernel_rfl) rfl
    (fun f fn hf hfn => by
      obtain rfl : f = 3 := Option.some.inj ((show Tryz.prog.funcNamed "gantry/gantrylaw05.RatRounds" = some 3 by kernel_rfl).symm.trans hf) |>.symm
      obtain rfl : fn = Tryz.f3 := (Option.some.inj (Tryz.func3.symm.trans hfn)).symm
      exact ⟨by kernel_rfl, fun j t ht => by
        rw [Tryz.params3] at ht
        have hm : t ∈ [22, 22, 3] := by simpa using Array.mem_of_getElem? ht
        have hall : ([22, 22, 3].all fun u => !Tryz.prog.wantsStandIn u) = true := by kernel_rfl
        exact (show Tryz.prog.wantsStandIn t = false by simpa using List.all_eq_true.1 hall t hm)⟩)
    (by kernel_rfl)
end Go.Proofs.YtahiegebcdeaoaaGreatDoor.ratRounds
namespace Go.Proofs.YtahiegebcdeaoaaGreatDoor
theorem ratRounds_holds : Rows.RatRoundsCardSaid := ratRounds.card
end Go.Proofs.YtahiegebcdeaoaaGreatDoor


