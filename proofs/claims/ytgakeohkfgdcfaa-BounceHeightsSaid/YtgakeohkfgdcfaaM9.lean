/- Part 9 of the proof: a small machine, its soundness against the model, and what the program's functions compute on it. -/
import Derived.Test.YtgakeohkfgdcfaaM8
import Derived.Test.YtgakeohkfgdcfaaRows
import Derived.Test.YtgakeohkfgdcfaaM6
import Derived.WalkKit
import Derived.ProofKit
import Derived.OpenShut
import Derived.ShutString
import Derived.ChangeOld
import Derived.Below
import Derived.SizedLaws
set_option linter.unusedVariables false
set_option linter.unusedSimpArgs false
/- The seat's iterators; bounce.Flight. -/
namespace Go.AM
open Go Go.RowKit Go.Proofs

def Yields (f : Nat) (ds : List D) (xs : List (List D)) : Prop := ∃ u a e n, SzS u a e ∧ n ≤ 64 ∧ f = n_bounce_Series_flights_1 ∧ ds = [.rp (cS u a e), .rp [iv (n : Nat)]] ∧ xs = fls u a e n
open Classical in
noncomputable instance its17 : Its := ⟨fun f ds => if h : ∃ xs, Yields f ds xs then some (Classical.choose h) else none⟩
open Classical in
theorem its_flights {u a e : Rat} {n : Nat} (h : SzS u a e) (hn : n ≤ 64) : Its.it n_bounce_Series_flights_1 [.rp (cS u a e), .rp [iv (n : Nat)]] = some (fls u a e n) := by
  have hex : ∃ xs, Yields n_bounce_Series_flights_1 [.rp (cS u a e), .rp [iv (n : Nat)]] xs := ⟨_, u, a, e, n, h, hn, rfl, rfl, rfl⟩
  show (if h : ∃ xs, Yields n_bounce_Series_flights_1 [.rp (cS u a e), .rp [iv (n : Nat)]] xs then some (Classical.choose h) else none) = _
  rw [dif_pos hex]
  obtain ⟨u', a', e', n', _, _, _, h2, h3⟩ := Classical.choose_spec hex
  rw [h3]
  simp only [List.cons.injEq, D.rp.injEq, and_true] at h2
  obtain ⟨h4, h5⟩ := h2
  obtain ⟨rfl, rfl, rfl⟩ := cS_inj h4
  have := iv_inj h5
  have : n = n' := by omega
  rw [this]
open Classical in
theorem env17 : EnvOk Try.prog G := env_ok fun f ds xs h => by
  have h' : (if h : ∃ xs, Yields f ds xs then some (Classical.choose h) else none) = some xs := h
  split at h'
  · rename_i hex
    obtain ⟨u, a, e, n, h1, h2, h3, h4, h5⟩ := Classical.choose_spec hex
    cases h'
    rw [h5, h4, h3]
    exact flights_ok h1 h2
  · cases h'

def fc_fr : Fr := frL [(4, .ptr [4] 0), (5, .ptr [5] 0), (6, .ptr [6] 0), (7, .ptr [7] 0)]
def fc_hp (F : Obj) : Hp := hpL [([4], boxR0), ([5], boxR0), ([6], boxR0), ([7], F)]
theorem fc_round {k k' : Int} {s d v s' d' v' : Rat} {xs : List (List D)} : rounds (X G) [23] bounce_Flight_a0 bounce_Flight_b0 fc_fr [] ([encF k s d v] :: xs) (fc_hp (boxF k' s' d' v')) = rounds (X G) [23] bounce_Flight_a0 bounce_Flight_b0 fc_fr [] xs (fc_hp (boxF k s d v)) := by
  simp -implicitDefEqProofs (maxSteps := 10000000) only [rounds, bounce_Flight_a0, bounce_Flight_b0, fc_fr, fc_hp, boxF, encF, boxR0, putL, go_sem, stcells, ldcells, iv, bv, reduceCtorEq, ↓reduceIte, Nat.reduceEqDiff]
theorem fc_rounds {u a e : Rat} {n : Nat} : ∀ (j k : Nat) (F : Obj), (∃ k' s' d' v', F = boxF k' s' d' v') → rounds (X G) [23] bounce_Flight_a0 bounce_Flight_b0 fc_fr [] ((List.range' k (j + 1)).map (flsK u a e)) (fc_hp F) = some (.n, ⟨fc_fr, fc_hp (boxF ((k + j : Nat) : Int) (staK u a e (k + j)) (durK u a e (k + j)) (spdK u e (k + j))), []⟩)
  | 0, k, F, ⟨k', s', d', v', hF⟩ => by
    rw [hF]
    show rounds _ _ _ _ _ _ [[encF k _ _ _]] _ = _
    rw [fc_round]; rfl
  | j + 1, k, F, ⟨k', s', d', v', hF⟩ => by
    rw [hF, List.range'_succ, List.map_cons]
    have ih := fc_rounds (u := u) (a := a) (e := e) (n := n) j (k + 1) (boxF k (staK u a e k) (durK u a e k) (spdK u e k)) ⟨_, _, _, _, rfl⟩
    rw [show k + 1 + j = k + (j + 1) by omega] at ih
    show rounds _ _ _ _ _ _ ([encF k _ _ _] :: _) _ = _
    rw [fc_round]
    exact ih

theorem bFlight_spec {u a e : Rat} {n : Int} (h : SzS u a e) : callX G n_bounce_Flight [encS u a e, iv n] = some (.d (if okS u a e = true ∧ inS n = true then .tup [encR (staK u a e n.toNat), encR (durK u a e n.toNat), encR (spdK u e n.toNat)] else .tup [encR 0, encR 0, encR 0])) := by
  rw [callX_eq (cf := bounce_Flight) rfl]
  have g0 := bValid_spec h
  have g1 := within_spec n
  by_cases ho : okS u a e = true
  · rw [ho] at g0
    by_cases hi : inS n = true
    · rw [hi] at g1
      rw [if_pos ⟨ho, hi⟩]
      simp only [inS, Bool.and_eq_true, decide_eq_true_eq] at hi
      obtain ⟨m, rfl⟩ : ∃ m : Nat, n = (m : Int) := ⟨n.toNat, by omega⟩
      rw [Int.toNat_natCast]
      have g2 := flights_spec (u := u) (a := a) (e := e) (n := (m : Int))
      have hit : (G).it n_bounce_Series_flights_1 [.rp (cS u a e), .rp [iv (m : Nat)]] = some (fls u a e m) := its_flights h (by omega)
      have hl := fc_rounds (u := u) (a := a) (e := e) (n := m) m 0 (boxF 0 0 0 0) ⟨_, _, _, _, rfl⟩
      rw [← List.range_eq_range', Nat.zero_add] at hl
      have e0 : boxF 0 0 0 0 = ⟨0, 0, [.d (.v (.int .i64 0)), .d (.v (.bool false)), .d (.z true), .d (.v (.bool false)), .d (.z true), .d (.v (.bool false)), .d (.z true), .d (.v (.bool false)), .d (.z true), .d (.v (.bool false)), .d (.z true), .d (.v (.bool false)), .d (.z true)], false⟩ := by
        have ez : decide ((0 : Rat).num < 0) = false := rfl
        have ez2 : dg (digs (0 : Rat).num.natAbs) = .z true := by rw [Rat.zero_num, show (0 : Int).natAbs = 0 from rfl, digs_zero]; rfl
        have ez3 : dg (dd (0 : Rat).den) = .z true := rfl
        rw [boxF, ez, ez2, ez3]
      rw [e0] at hl
      have e1 : fls u a e m = (List.range (m + 1)).map (flsK u a e) := rfl
      rw [← e1] at hl
      have hA : bounce_Flight_a0.holds [[4], [5], [6], [7]] = true := rfl
      have hB : bounce_Flight_b0.holds [[4], [5], [6], [7]] = true := rfl
      generalize fls u a e m = XS at *
      generalize staK u a e m = s at *
      generalize durK u a e m = d at *
      generalize spdK u e m = v at *
      simp only [encR, encS, cS, bv, iv] at g0 g1 g2 hit
      simp only [fc_fr, fc_hp, boxF, boxR0, go_sem] at hl
      simp -implicitDefEqProofs (maxSteps := 10000000) only [bounce_Flight, X_rfn, plainF, hA, hB, hit, hl, encR, encS, toDs, apartS, ne_eq, not_false_eq_true, go_sem, stcells, ldcells, iv, bv, g0, g1, g2, reduceCtorEq, ↓reduceIte, Nat.reduceEqDiff]
    · rw [eq_false_of_ne_true hi] at g1
      rw [if_neg (fun h => hi h.2), encR_zero]
      simp only [encR, encS, bv, iv] at g0 g1
      simp -implicitDefEqProofs (maxSteps := 10000000) only [bounce_Flight, encR, encS, toDs, apartS, ne_eq, not_false_eq_true, go_sem, stcells, ldcells, iv, bv, g0, g1, reduceCtorEq, ↓reduceIte, Nat.reduceEqDiff]
  · rw [eq_false_of_ne_true ho] at g0
    rw [if_neg (fun h => ho h.1), encR_zero]
    simp only [encR, encS, bv, iv] at g0
    simp -implicitDefEqProofs (maxSteps := 10000000) only [bounce_Flight, encR, encS, toDs, apartS, ne_eq, not_false_eq_true, go_sem, stcells, ldcells, iv, bv, g0, reduceCtorEq, ↓reduceIte, Nat.reduceEqDiff]
end Go.AM

/- bounce.Loss, Height. -/
namespace Go.AM
open Go Go.RowKit Go.Proofs

theorem bLoss_spec {u a e : Rat} {n : Int} (h : SzS u a e) : callX G n_bounce_Loss [encS u a e, iv n] = some (.d (encR (if okS u a e = true ∧ inS n = true then u * u - spdK u e n.toNat * spdK u e n.toNat else 0))) := by
  rw [callX_eq (cf := bounce_Loss) rfl]
  have g0 := bValid_spec h
  have g1 := within_spec n
  by_cases ho : okS u a e = true
  · rw [ho] at g0
    by_cases hi : inS n = true
    · rw [hi] at g1
      rw [if_pos ⟨ho, hi⟩]
      simp only [inS, Bool.and_eq_true, decide_eq_true_eq] at hi
      obtain ⟨m, rfl⟩ : ∃ m : Nat, n = (m : Int) := ⟨n.toNat, by omega⟩
      rw [Int.toNat_natCast]
      have hs := spdK_sz h (k := m) (by omega)
      obtain ⟨h1, h2, h3⟩ := h
      have hp := pow_sz h3 (k := m) (by omega)
      have g2 := bone_spec
      have g3 := bPower_spec h3 (n := m) (by omega)
      have g4 := ratMul_spec (a := u) (b := e ^ m) (by omega) (by omega)
      have g5 := ratMul_spec (a := u) (b := u) (by omega) (by omega)
      have e1 : u * e ^ m = spdK u e m := rfl
      rw [e1] at g4
      clear e1
      have g6 := ratMul_spec (a := spdK u e m) (b := spdK u e m) (by omega) (by omega)
      have k1 := sz_mul (a := u) (b := u)
      have k2 := sz_mul (a := spdK u e m) (b := spdK u e m)
      have g7 := ratSub_spec (a := u * u) (b := spdK u e m * spdK u e m) (by omega) (by omega)
      clear k1 k2 hs
      generalize u * u - spdK u e m * spdK u e m = r at *
      generalize spdK u e m * spdK u e m = q at *
      generalize spdK u e m = s at *
      generalize e ^ m = p at *
      generalize u * u = uu at *
      generalize (1 : Rat) = one at *
      simp only [encR, encS, bv, iv] at g0 g1 g2 g3 g4 g5 g6 g7
      simp -implicitDefEqProofs (maxSteps := 10000000) only [bounce_Loss, encR, encS, go_sem, stcells, ldcells, iv, bv, g0, g1, g2, g3, g4, g5, g6, g7, reduceCtorEq, ↓reduceIte, Nat.reduceEqDiff]
    · rw [eq_false_of_ne_true hi] at g1
      rw [if_neg (fun h => hi h.2), encR_zero]
      simp only [encR, encS, bv, iv] at g0 g1
      simp -implicitDefEqProofs (maxSteps := 10000000) only [bounce_Loss, encR, encS, go_sem, stcells, ldcells, iv, bv, g0, g1, reduceCtorEq, ↓reduceIte, Nat.reduceEqDiff]
  · rw [eq_false_of_ne_true ho] at g0
    rw [if_neg (fun h => ho h.1), encR_zero]
    simp only [encR, encS, bv, iv] at g0
    simp -implicitDefEqProofs (maxSteps := 10000000) only [bounce_Loss, encR, encS, go_sem, stcells, ldcells, iv, bv, g0, reduceCtorEq, ↓reduceIte, Nat.reduceEqDiff]

/-! ### Height -/
def boxI1 (x : Int) : Obj := ⟨0, 0, [.d (.v (.int .i64 x))], false⟩
def boxS (u a e : Rat) : Obj := ⟨0, 0, (cS u a e).map A.d, false⟩
def fallK (u a e t : Rat) (k : Nat) : Rat := spdK u e k * (t - staK u a e k) - Rat.divInt 1 2 * (a * ((t - staK u a e k) * (t - staK u a e k)))
def bh_fr : Fr := frL [(3, .ptr [3] 0), (4, .ptr [4] 0), (6, .ptr [6] 0), (7, .ptr [7] 0), (8, .ptr [8] 0)]
def bh_hp (u a e t : Rat) (R : Obj) (k x : Int) : Hp := hpL [([3], boxS u a e), ([4], boxR t), ([6], R), ([7], boxI1 k), ([8], boxI1 x)]
def bh_hp2 (u a e t : Rat) (R : Obj) (k x : Int) : Hp := hpL [([6], R), ([7], boxI1 k), ([8], boxI1 x), ([3], boxS u a e), ([4], boxR t)]
theorem sz_half : sz (Rat.divInt 1 2) ≤ 3 := sz_divInt (by omega) (Nat.le_trans (Nat.le_of_eq nd_one) (by omega)) (nd_i64 ⟨by omega, by omega⟩)
theorem bh_sz {u a e t : Rat} (h : SzS u a e) (ht : sz t ≤ 100000000) {k : Nat} (hk : k ≤ 64) : sz (t - staK u a e k) ≤ 45000000000 := by
  have h1 := staK_sz h k (by omega)
  have h2 := sz_sub (a := t) (b := staK u a e k)
  have : k * 700000001 ≤ 64 * 700000001 := Nat.mul_le_mul_right _ hk
  omega
theorem bh_no {u a e t : Rat} (h : SzS u a e) (ht : sz t ≤ 100000000) {k : Nat} (hk : k ≤ 64) (hn : ¬ t - staK u a e k < durK u a e k) {xs : List (List D)} : rounds (X G) [38] bounce_Height_a0 bounce_Height_b0 bh_fr [] (flsK u a e k :: xs) (bh_hp u a e t boxR0 0 0) = rounds (X G) [38] bounce_Height_a0 bounce_Height_b0 bh_fr [] xs (bh_hp u a e t boxR0 0 0) := by
  have hs := bh_sz h ht hk
  have h1 := staK_sz h k (by omega)
  have h1' : k * 700000001 ≤ 64 * 700000001 := Nat.mul_le_mul_right _ hk
  have h2 := durK_sz h hk
  have g1 := ratSub_spec (a := t) (b := staK u a e k) (by omega) (by omega)
  have g2 := ratCompare_spec (a := t - staK u a e k) (b := durK u a e k) (by omega) (by omega)
  have e1 : (cmpR (t - staK u a e k) (durK u a e k) == -1) = false := beq_f (fun hc => hn (cmpR_lt.1 (by omega)))
  unfold flsK
  clear hn hs h1 h2
  generalize t - staK u a e k = r at *
  generalize staK u a e k = s at *
  generalize durK u a e k = d at *
  generalize spdK u e k = v at *
  generalize cmpR r d = c at *
  simp only [encR, encS, bv, iv] at g1 g2
  simp -implicitDefEqProofs (maxSteps := 10000000) only [rounds, bounce_Height_a0, bounce_Height_b0, bh_fr, bh_hp, boxS, cS, boxI1, boxR, encF, boxR0, putL, go_sem, stcells, ldcells, iv, bv, g1, g2, e1, reduceCtorEq, ↓reduceIte, Nat.reduceEqDiff]
theorem bh_yes {u a e t : Rat} (h : SzS u a e) (ht : sz t ≤ 100000000) {k : Nat} (hk : k ≤ 64) (hn : t - staK u a e k < durK u a e k) {xs : List (List D)} : rounds (X G) [38] bounce_Height_a0 bounce_Height_b0 bh_fr [] (flsK u a e k :: xs) (bh_hp u a e t boxR0 0 0) = some (.r, ⟨bh_fr, bh_hp2 u a e t (boxR (fallK u a e t k)) k 0, []⟩) := by
  have hs := bh_sz h ht hk
  have h1 := staK_sz h k (by omega)
  have h1' : k * 700000001 ≤ 64 * 700000001 := Nat.mul_le_mul_right _ hk
  have h2 := durK_sz h hk
  have h3 := spdK_sz h hk
  have g1 := ratSub_spec (a := t) (b := staK u a e k) (by omega) (by omega)
  have g2 := ratCompare_spec (a := t - staK u a e k) (b := durK u a e k) (by omega) (by omega)
  have e1 : (cmpR (t - staK u a e k) (durK u a e k) == -1) = true := by
    have h5 := cmpR_lt.2 hn
    apply beq_t
    unfold cmpR at h5 ⊢
    exact Int.sign_eq_neg_one_of_neg (Int.sign_neg_iff.1 h5)
  have g3 := ratOf_spec (n := 1) (d := 2) ⟨by omega, by omega⟩ ⟨by omega, by omega⟩
  unfold flsK fallK
  have k0 := sz_half
  clear hn h1 h2
  obtain ⟨q1, q2, q3⟩ := h
  generalize t - staK u a e k = r at *
  generalize staK u a e k = s at *
  generalize durK u a e k = d at *
  generalize spdK u e k = v at *
  generalize cmpR r d = c at *
  generalize Rat.divInt 1 2 = hf2 at *
  have g4 := ratMul_spec (a := r) (b := r) (by omega) (by omega)
  have k1 := sz_mul (a := r) (b := r)
  have g5 := ratMul_spec (a := a) (b := r * r) (by omega) (by omega)
  have k2 := sz_mul (a := a) (b := r * r)
  have g6 := ratMul_spec (a := hf2) (b := a * (r * r)) (by omega) (by omega)
  have k3 := sz_mul (a := hf2) (b := a * (r * r))
  have g7 := ratMul_spec (a := v) (b := r) (by omega) (by omega)
  have k4 := sz_mul (a := v) (b := r)
  have g8 := ratSub_spec (a := v * r) (b := hf2 * (a * (r * r))) (by omega) (by omega)
  generalize v * r - hf2 * (a * (r * r)) = z1 at *
  generalize v * r = z2 at *
  generalize hf2 * (a * (r * r)) = z3 at *
  generalize a * (r * r) = z4 at *
  generalize r * r = z5 at *
  simp only [encR, encS, bv, iv] at g1 g2 g3 g4 g5 g6 g7 g8
  simp -implicitDefEqProofs (maxSteps := 10000000) only [rounds, bounce_Height_a0, bounce_Height_b0, bh_fr, bh_hp, bh_hp2, boxS, cS, boxI1, boxR, encF, boxR0, putL, go_sem, stcells, ldcells, iv, bv, g1, g2, g3, g4, g5, g6, g7, g8, e1, apartS, ne_eq, not_false_eq_true, reduceCtorEq, ↓reduceIte, Nat.reduceEqDiff]
def hit (u a e t : Rat) (k : Nat) : Bool := decide (t - staK u a e k < durK u a e k)
theorem bh_rounds {u a e t : Rat} (h : SzS u a e) (ht : sz t ≤ 100000000) : ∀ (j k : Nat), k + j ≤ 65 → rounds (X G) [38] bounce_Height_a0 bounce_Height_b0 bh_fr [] ((List.range' k j).map (flsK u a e)) (bh_hp u a e t boxR0 0 0) =
    match (List.range' k j).find? (hit u a e t) with
    | some i => some (.r, ⟨bh_fr, bh_hp2 u a e t (boxR (fallK u a e t i)) i 0, []⟩)
    | none => some (.n, ⟨bh_fr, bh_hp u a e t boxR0 0 0, []⟩)
  | 0, k, _ => rfl
  | j + 1, k, hk => by
    rw [List.range'_succ, List.map_cons, List.find?_cons]
    by_cases hh : t - staK u a e k < durK u a e k
    · have e1 : hit u a e t k = true := decide_eq_true hh
      rw [bh_yes h ht (by omega) hh, e1]
    · have e1 : hit u a e t k = false := decide_eq_false hh
      rw [bh_no h ht (by omega) hh, e1]
      exact bh_rounds h ht j (k + 1) (by omega)

/-- What Height answers. -/
def hgt (u a e t : Rat) (most : Int) : Rat × Int × Int :=
  if okS u a e = true ∧ 0 ≤ t ∧ inS most = true then
    if limS u a e ≤ t then (0, 0, 5)
    else match (List.range (most.toNat + 1)).find? (hit u a e t) with
      | some i => (fallK u a e t i, i, 0)
      | none => (0, 0, 4)
  else (0, 0, 1)
def encH (p : Rat × Int × Int) : D := .tup [encR p.1, iv p.2.1, iv p.2.2]

theorem bHeight_spec {u a e t : Rat} {n : Int} (h : SzS u a e) (ht : sz t ≤ 100000000) : callX G n_bounce_Height [encS u a e, encR t, iv n] = some (.d (encH (hgt u a e t n))) := by
  rw [callX_eq (cf := bounce_Height) rfl]
  have g0 := bValid_spec h
  have g1 := within_spec n
  have g2 := ratSign_spec t
  have e2 := sign_lt (x := t)
  unfold hgt
  by_cases ho : okS u a e = true
  · rw [ho] at g0
    by_cases h0 : 0 ≤ t
    · rw [decide_eq_false (show ¬ t < 0 from fun hc => Rat.not_le.2 hc h0)] at e2
      by_cases hi : inS n = true
      · rw [hi] at g1
        rw [if_pos ⟨ho, h0, hi⟩]
        simp only [inS, Bool.and_eq_true, decide_eq_true_eq] at hi
        obtain ⟨m, rfl⟩ : ∃ m : Nat, n = (m : Int) := ⟨n.toNat, by omega⟩
        rw [Int.toNat_natCast]
        have g3 := bLimit_spec h
        rw [if_pos ho] at g3
        have k3 := (sz_lim h).2.2.2
        have g4 := ratCompare_spec (a := t) (b := limS u a e) (by omega) (by omega)
        have e4 := cmR_ge (a := t) (b := limS u a e)
        by_cases hl : limS u a e ≤ t
        · rw [if_pos hl, encH, encR_zero]
          rw [decide_eq_true hl] at e4
          generalize limS u a e = L at *
          simp only [encR, encS, bv, iv] at g0 g1 g2 g3 g4
          simp -implicitDefEqProofs (maxSteps := 10000000) only [bounce_Height, encR, encS, toDs, apartS, ne_eq, not_false_eq_true, go_sem, stcells, ldcells, iv, bv, g0, g1, g2, g3, g4, e2, e4, reduceCtorEq, ↓reduceIte, Nat.reduceEqDiff]
        · rw [if_neg hl]
          rw [decide_eq_false hl] at e4
          have g5 := flights_spec (u := u) (a := a) (e := e) (n := (m : Int))
          have hit' : (G).it n_bounce_Series_flights_1 [.rp (cS u a e), .rp [iv (m : Nat)]] = some (fls u a e m) := its_flights h (by omega)
          have hr := bh_rounds h ht (m + 1) 0 (by omega)
          rw [← List.range_eq_range'] at hr
          have e1 : fls u a e m = (List.range (m + 1)).map (flsK u a e) := rfl
          rw [← e1] at hr
          clear e1
          have hA : bounce_Height_a0.holds [[3], [4], [6], [7], [8]] = true := rfl
          have hB : bounce_Height_b0.holds [[3], [4], [6], [7], [8]] = true := rfl
          generalize fls u a e m = XS at *
          generalize limS u a e = L at *
          cases hf : (List.range (m + 1)).find? (hit u a e t) with
          | some i =>
            rw [hf] at hr
            rw [encH]
            dsimp only at hr ⊢
            generalize fallK u a e t i = z at *
            simp only [encR, encS, cS, bv, iv] at g0 g1 g2 g3 g4 g5 hit'
            simp only [bh_fr, bh_hp, bh_hp2, boxS, cS, List.map_cons, List.map_nil, boxI1, boxR, boxR0, go_sem] at hr
            simp -implicitDefEqProofs (maxSteps := 10000000) only [bounce_Height, X_rfn, plainF, hA, hB, hit', hr, encR, encS, toDs, apartS, ne_eq, not_false_eq_true, go_sem, stcells, ldcells, iv, bv, g0, g1, g2, g3, g4, g5, e2, e4, reduceCtorEq, ↓reduceIte, Nat.reduceEqDiff]
          | none =>
            rw [hf] at hr
            rw [encH, encR_zero]
            dsimp only at hr ⊢
            simp only [encR, encS, cS, bv, iv] at g0 g1 g2 g3 g4 g5 hit'
            simp only [bh_fr, bh_hp, bh_hp2, boxS, cS, List.map_cons, List.map_nil, boxI1, boxR, boxR0, go_sem] at hr
            simp -implicitDefEqProofs (maxSteps := 10000000) only [bounce_Height, X_rfn, plainF, hA, hB, hit', hr, encR, encS, toDs, apartS, ne_eq, not_false_eq_true, go_sem, stcells, ldcells, iv, bv, g0, g1, g2, g3, g4, g5, e2, e4, reduceCtorEq, ↓reduceIte, Nat.reduceEqDiff]
      · rw [eq_false_of_ne_true hi] at g1
        rw [if_neg (fun h => hi h.2.2), encH, encR_zero]
        simp only [encR, encS, bv, iv] at g0 g1 g2
        simp -implicitDefEqProofs (maxSteps := 10000000) only [bounce_Height, encR, encS, toDs, apartS, ne_eq, not_false_eq_true, go_sem, stcells, ldcells, iv, bv, g0, g1, g2, e2, reduceCtorEq, ↓reduceIte, Nat.reduceEqDiff]
    · rw [decide_eq_true (Rat.not_le.1 h0)] at e2
      rw [if_neg (fun h => h0 h.2.1), encH, encR_zero]
      simp only [encR, encS, bv, iv] at g0 g2
      simp -implicitDefEqProofs (maxSteps := 10000000) only [bounce_Height, encR, encS, toDs, apartS, ne_eq, not_false_eq_true, go_sem, stcells, ldcells, iv, bv, g0, g2, e2, reduceCtorEq, ↓reduceIte, Nat.reduceEqDiff]
  · rw [eq_false_of_ne_true ho] at g0
    rw [if_neg (fun h => ho h.1), encH, encR_zero]
    simp only [encR, encS, bv, iv] at g0
    simp -implicitDefEqProofs (maxSteps := 10000000) only [bounce_Height, encR, encS, toDs, apartS, ne_eq, not_false_eq_true, go_sem, stcells, ldcells, iv, bv, g0, reduceCtorEq, ↓reduceIte, Nat.reduceEqDiff]
end Go.AM

/- law17.lives. -/
namespace Go.AM
open Go Go.RowKit Go.Proofs

theorem liv_sz : SzS 2 1 (Rat.divInt 1 2) := ⟨Nat.le_trans sz_two (by omega), by rw [sz_one_]; omega, Nat.le_trans sz_half (by omega)⟩
theorem szi (n : Int) (h : I64 n) : sz (n : Rat) ≤ 100000000 := Nat.le_trans (sz_int h) (by omega)
theorem lives_spec : callX G n_gantrylaw17_lives [] = some (.d (bv true)) := by
  rw [callX_eq (cf := gantrylaw17_lives) rfl]
  have c1 : okS 2 1 (Rat.divInt 1 2) = true := by kernel_rfl
  have c2 : inS 1 = true := rfl
  have w : ∀ n : Int, I64 n → callX G n_gantrylaw17_whole [iv n] = some (.d (encR (n : Rat))) := fun n h => lwhole_spec h
  have w1 : callX G n_gantrylaw17_whole [iv 1] = some (.d (encR 1)) := w 1 ⟨by omega, by omega⟩
  have w2 : callX G n_gantrylaw17_whole [iv 2] = some (.d (encR 2)) := w 2 ⟨by omega, by omega⟩
  have w3 : callX G n_gantrylaw17_whole [iv 3] = some (.d (encR 3)) := w 3 ⟨by omega, by omega⟩
  have w4 : callX G n_gantrylaw17_whole [iv 4] = some (.d (encR 4)) := w 4 ⟨by omega, by omega⟩
  have w5 : callX G n_gantrylaw17_whole [iv 5] = some (.d (encR 5)) := w 5 ⟨by omega, by omega⟩
  have w7 : callX G n_gantrylaw17_whole [iv 7] = some (.d (encR 7)) := w 7 ⟨by omega, by omega⟩
  have w8 : callX G n_gantrylaw17_whole [iv 8] = some (.d (encR 8)) := w 8 ⟨by omega, by omega⟩
  have s1 : sz 1 ≤ 100000000 := szi 1 ⟨by omega, by omega⟩
  have s2 : sz 2 ≤ 100000000 := szi 2 ⟨by omega, by omega⟩
  have s3 : sz 3 ≤ 100000000 := szi 3 ⟨by omega, by omega⟩
  have s4 : sz 4 ≤ 100000000 := szi 4 ⟨by omega, by omega⟩
  have s5 : sz 5 ≤ 100000000 := szi 5 ⟨by omega, by omega⟩
  have s7 : sz 7 ≤ 100000000 := szi 7 ⟨by omega, by omega⟩
  have s8 : sz 8 ≤ 100000000 := szi 8 ⟨by omega, by omega⟩
  have sh := sz_half
  have o := rratOf_spec (n := 1) (d := 2) ⟨by omega, by omega⟩ ⟨by omega, by omega⟩
  have gF := bFlight_spec (n := 1) liv_sz
  rw [if_pos ⟨c1, c2⟩] at gF
  have t1 : (1 : Int).toNat = 1 := rfl
  rw [t1] at gF
  have f1 : staK 2 1 (Rat.divInt 1 2) 1 = 4 := by kernel_rfl
  have f2 : durK 2 1 (Rat.divInt 1 2) 1 = 2 := by kernel_rfl
  have f3 : spdK 2 (Rat.divInt 1 2) 1 = 1 := by kernel_rfl
  rw [f1, f2, f3] at gF
  have gH1 := bHeight_spec (n := 10) liv_sz s5
  have gH2 := bHeight_spec (n := 10) liv_sz s8
  have gH3 := bHeight_spec (n := 0) liv_sz s5
  have h1 : hgt 2 1 (Rat.divInt 1 2) 5 10 = (Rat.divInt 1 2, 1, 0) := by kernel_rfl
  have h2 : hgt 2 1 (Rat.divInt 1 2) 8 10 = (0, 0, 5) := by kernel_rfl
  have h3 : hgt 2 1 (Rat.divInt 1 2) 5 0 = (0, 0, 4) := by kernel_rfl
  rw [h1, encH] at gH1
  rw [h2, encH] at gH2
  rw [h3, encH] at gH3
  have gL := bLimit_spec liv_sz
  rw [if_pos c1] at gL
  have l1 : limS 2 1 (Rat.divInt 1 2) = 8 := by kernel_rfl
  rw [l1] at gL
  have gS := bLoss_spec (n := 1) liv_sz
  rw [if_pos ⟨c1, c2⟩, t1] at gS
  have l2 : (2 : Rat) * 2 - spdK 2 (Rat.divInt 1 2) 1 * spdK 2 (Rat.divInt 1 2) 1 = 3 := by kernel_rfl
  rw [l2] at gS
  have gE1 := bEnds_spec (t := 8) liv_sz (by omega)
  have gE2 := bEnds_spec (t := 7) liv_sz (by omega)
  have l3 : (okS 2 1 (Rat.divInt 1 2) && decide (limS 2 1 (Rat.divInt 1 2) ≤ 8)) = true := by kernel_rfl
  have l4 : (okS 2 1 (Rat.divInt 1 2) && decide (limS 2 1 (Rat.divInt 1 2) ≤ 7)) = false := by kernel_rfl
  rw [l3] at gE1
  rw [l4] at gE2
  have m8 := lsame_spec (a := 8) (b := 8) (by omega) (by omega)
  have m4 := lsame_spec (a := 4) (b := 4) (by omega) (by omega)
  have m2 := lsame_spec (a := 2) (b := 2) (by omega) (by omega)
  have m1 := lsame_spec (a := 1) (b := 1) (by omega) (by omega)
  have m3 := lsame_spec (a := 3) (b := 3) (by omega) (by omega)
  have mh := lsame_spec (a := Rat.divInt 1 2) (b := Rat.divInt 1 2) (by omega) (by omega)
  rw [decide_eq_true rfl] at m8 m4 m2 m1 m3 mh
  have i1 : ((1 : Int) == 1) = true := rfl
  have i0 : ((0 : Int) == 0) = true := rfl
  have i5 : ((5 : Int) == 5) = true := rfl
  have i4 : ((4 : Int) == 4) = true := rfl
  clear w c1 c2 s1 s2 s3 s4 s5 s7 s8 sh t1 f1 f2 f3 h1 h2 h3 l1 l2 l3 l4
  generalize Rat.divInt 1 2 = qh at *
  generalize (1 : Rat) = q1 at *
  generalize (2 : Rat) = q2 at *
  generalize (3 : Rat) = q3 at *
  generalize (4 : Rat) = q4 at *
  generalize (5 : Rat) = q5 at *
  generalize (7 : Rat) = q7 at *
  generalize (8 : Rat) = q8 at *
  generalize (0 : Rat) = q0 at *
  simp only [encR, encS, bv, iv] at w1 w2 w3 w4 w5 w7 w8 o gF gH1 gH2 gH3 gL gS gE1 gE2 m8 m4 m2 m1 m3 mh
  simp -implicitDefEqProofs (maxSteps := 10000000) only [gantrylaw17_lives, go_sem, stcells, ldcells, iv, bv, w1, w2, w3, w4, w5, w7, w8, o, gF, gH1, gH2, gH3, gL, gS, gE1, gE2, m8, m4, m2, m1, m3, mh, i1, i0, i5, i4, toDs, apartS, ne_eq, not_false_eq_true, reduceCtorEq, ↓reduceIte, Nat.reduceEqDiff]
end Go.AM

/- ref17: duration, Flight, Loss; law17.given; ref01.Around, At. -/
namespace Go.AM
open Go Go.RowKit Go.Proofs

def rdurK (u a e : Rat) (k : Nat) : Rat := (u + u) * e ^ k / a
theorem rDuration_spec {u a e : Rat} (h : SzS u a e) {m : Nat} (hm : m ≤ 64) : callX G n_gantryref17_duration [encS u a e, iv (m : Int)] = some (.d (encR (rdurK u a e m))) := by
  rw [callX_eq (cf := gantryref17_duration) rfl]
  obtain ⟨h1, h2, h3⟩ := h
  have g1 := rwhole_spec (n := 2) ⟨by omega, by omega⟩
  have e3 : ((2 : Int) : Rat) = 2 := rfl
  rw [e3] at g1
  have g2 := rratMul_spec (a := 2) (b := u) (by have := sz_two; omega) (by omega)
  rw [two_mul_] at g2
  have g3 := rPower_spec h3 hm
  have hp := pow_sz h3 hm
  have k1 := sz_add (a := u) (b := u)
  have g4 := rratMul_spec (a := u + u) (b := e ^ m) (by omega) (by omega)
  have k2 := sz_mul (a := u + u) (b := e ^ m)
  have g5 := rratDiv_spec (a := (u + u) * e ^ m) (b := a) (by omega) (by omega)
  have e1 : (u + u) * e ^ m / a = rdurK u a e m := rfl
  rw [e1] at g5
  clear e1 e3 hp k1 k2
  generalize rdurK u a e m = r at *
  generalize (u + u) * e ^ m = q at *
  generalize e ^ m = p at *
  generalize u + u = uu at *
  generalize (2 : Rat) = two at *
  simp only [encR, encS, bv, iv] at g1 g2 g3 g4 g5
  simp -implicitDefEqProofs (maxSteps := 10000000) only [gantryref17_duration, encR, encS, go_sem, stcells, ldcells, iv, bv, g1, g2, g3, g4, g5, reduceCtorEq, ↓reduceIte, Nat.reduceEqDiff]

theorem rdur_sz {u a e : Rat} (h : SzS u a e) {m : Nat} (hm : m ≤ 64) : sz (rdurK u a e m) ≤ 700000000 := by
  obtain ⟨h1, h2, h3⟩ := h
  have hp := pow_sz h3 hm
  have k1 := sz_add (a := u) (b := u)
  have k2 := sz_mul (a := u + u) (b := e ^ m)
  have k3 := sz_div (a := (u + u) * e ^ m) (b := a)
  unfold rdurK; omega

theorem rFlight_spec {u a e : Rat} {n : Int} (h : SzS u a e) : callX G n_gantryref17_Flight [encS u a e, iv n] = some (.d (if okS u a e = true ∧ inS n = true then .tup [encR (limS u a e - limS u a e * e ^ n.toNat), encR (rdurK u a e n.toNat), encR (spdK u e n.toNat)] else .tup [encR 0, encR 0, encR 0])) := by
  rw [callX_eq (cf := gantryref17_Flight) rfl]
  have g0 := rValid_spec h
  by_cases ho : okS u a e = true
  · rw [ho] at g0
    by_cases h0 : n < 0
    · have e1 : decide (n < 0) = true := decide_eq_true h0
      rw [if_neg (fun h => by have := h.2; simp only [inS, Bool.and_eq_true, decide_eq_true_eq] at this; omega), encR_zero]
      simp only [encR, encS, bv, iv] at g0
      simp -implicitDefEqProofs (maxSteps := 10000000) only [gantryref17_Flight, encR, encS, go_sem, stcells, ldcells, iv, bv, g0, e1, toDs, apartS, ne_eq, not_false_eq_true, reduceCtorEq, ↓reduceIte, Nat.reduceEqDiff]
    · have e1 : decide (n < 0) = false := decide_eq_false h0
      by_cases h64 : n > 64
      · have e2 : decide (n > 64) = true := decide_eq_true h64
        rw [if_neg (fun h => by have := h.2; simp only [inS, Bool.and_eq_true, decide_eq_true_eq] at this; omega), encR_zero]
        simp only [encR, encS, bv, iv] at g0
        simp -implicitDefEqProofs (maxSteps := 10000000) only [gantryref17_Flight, encR, encS, go_sem, stcells, ldcells, iv, bv, g0, e1, e2, toDs, apartS, ne_eq, not_false_eq_true, reduceCtorEq, ↓reduceIte, Nat.reduceEqDiff]
      · have e2 : decide (n > 64) = false := decide_eq_false h64
        have hi : inS n = true := by simp only [inS, Bool.and_eq_true, decide_eq_true_eq]; omega
        rw [if_pos ⟨ho, hi⟩]
        obtain ⟨m, rfl⟩ : ∃ m : Nat, n = (m : Int) := ⟨n.toNat, by omega⟩
        rw [Int.toNat_natCast]
        have hm : m ≤ 64 := by omega
        have g1 := rLimit_spec h
        rw [if_pos ho] at g1
        have g2 := rPower_spec h.2.2 hm
        have hp := pow_sz h.2.2 hm
        have kl := (sz_lim h).2.2.2
        have g3 := rratMul_spec (a := limS u a e) (b := e ^ m) (by omega) (by omega)
        have k3 := sz_mul (a := limS u a e) (b := e ^ m)
        have g4 := rratSub_spec (a := limS u a e) (b := limS u a e * e ^ m) (by omega) (by omega)
        have g5 := rDuration_spec h hm
        have g6 := rratMul_spec (a := u) (b := e ^ m) (by have := h.1; omega) (by omega)
        have e3 : u * e ^ m = spdK u e m := rfl
        rw [e3] at g6
        clear e3 kl k3 hp
        generalize limS u a e - limS u a e * e ^ m = z1 at *
        generalize limS u a e * e ^ m = z2 at *
        generalize limS u a e = L at *
        generalize rdurK u a e m = d at *
        generalize spdK u e m = v at *
        generalize e ^ m = p at *
        simp only [encR, encS, bv, iv] at g0 g1 g2 g3 g4 g5 g6
        simp -implicitDefEqProofs (maxSteps := 10000000) only [gantryref17_Flight, encR, encS, go_sem, stcells, ldcells, iv, bv, g0, e1, e2, g1, g2, g3, g4, g5, g6, toDs, apartS, ne_eq, not_false_eq_true, reduceCtorEq, ↓reduceIte, Nat.reduceEqDiff]
  · rw [eq_false_of_ne_true ho] at g0
    rw [if_neg (fun h => ho h.1), encR_zero]
    simp only [encR, encS, bv, iv] at g0
    simp -implicitDefEqProofs (maxSteps := 10000000) only [gantryref17_Flight, encR, encS, go_sem, stcells, ldcells, iv, bv, g0, toDs, apartS, ne_eq, not_false_eq_true, reduceCtorEq, ↓reduceIte, Nat.reduceEqDiff]

theorem rLoss_spec {u a e : Rat} {n : Int} (h : SzS u a e) : callX G n_gantryref17_Loss [encS u a e, iv n] = some (.d (encR (if okS u a e = true ∧ inS n = true then u * u - spdK u e n.toNat * spdK u e n.toNat else 0))) := by
  rw [callX_eq (cf := gantryref17_Loss) rfl]
  have g0 := rValid_spec h
  by_cases ho : okS u a e = true
  · rw [ho] at g0
    by_cases h0 : n < 0
    · have e1 : decide (n < 0) = true := decide_eq_true h0
      rw [if_neg (fun h => by have := h.2; simp only [inS, Bool.and_eq_true, decide_eq_true_eq] at this; omega), encR_zero]
      simp only [encR, encS, bv, iv] at g0
      simp -implicitDefEqProofs (maxSteps := 10000000) only [gantryref17_Loss, encR, encS, go_sem, stcells, ldcells, iv, bv, g0, e1, reduceCtorEq, ↓reduceIte, Nat.reduceEqDiff]
    · have e1 : decide (n < 0) = false := decide_eq_false h0
      by_cases h64 : n > 64
      · have e2 : decide (n > 64) = true := decide_eq_true h64
        rw [if_neg (fun h => by have := h.2; simp only [inS, Bool.and_eq_true, decide_eq_true_eq] at this; omega), encR_zero]
        simp only [encR, encS, bv, iv] at g0
        simp -implicitDefEqProofs (maxSteps := 10000000) only [gantryref17_Loss, encR, encS, go_sem, stcells, ldcells, iv, bv, g0, e1, e2, reduceCtorEq, ↓reduceIte, Nat.reduceEqDiff]
      · have e2 : decide (n > 64) = false := decide_eq_false h64
        have hi : inS n = true := by simp only [inS, Bool.and_eq_true, decide_eq_true_eq]; omega
        have g1 := rFlight_spec (n := n) h
        rw [if_pos ⟨ho, hi⟩] at g1 ⊢
        have hs := spdK_sz h (k := n.toNat) (by omega)
        obtain ⟨h1, h2, h3⟩ := h
        have g5 := rratMul_spec (a := u) (b := u) (by omega) (by omega)
        have g6 := rratMul_spec (a := spdK u e n.toNat) (b := spdK u e n.toNat) (by omega) (by omega)
        have k1 := sz_mul (a := u) (b := u)
        have k2 := sz_mul (a := spdK u e n.toNat) (b := spdK u e n.toNat)
        have g7 := rratSub_spec (a := u * u) (b := spdK u e n.toNat * spdK u e n.toNat) (by omega) (by omega)
        clear k1 k2 hs
        generalize limS u a e - limS u a e * e ^ n.toNat = z1 at *
        generalize rdurK u a e n.toNat = z2 at *
        generalize u * u - spdK u e n.toNat * spdK u e n.toNat = r at *
        generalize spdK u e n.toNat * spdK u e n.toNat = q at *
        generalize spdK u e n.toNat = s at *
        generalize u * u = uu at *
        simp only [encR, encS, bv, iv] at g0 g1 g5 g6 g7
        simp -implicitDefEqProofs (maxSteps := 10000000) only [gantryref17_Loss, encR, encS, go_sem, stcells, ldcells, iv, bv, g0, g1, e1, e2, g5, g6, g7, toDs, apartS, ne_eq, not_false_eq_true, reduceCtorEq, ↓reduceIte, Nat.reduceEqDiff]
  · rw [eq_false_of_ne_true ho] at g0
    rw [if_neg (fun h => ho h.1), encR_zero]
    simp only [encR, encS, bv, iv] at g0
    simp -implicitDefEqProofs (maxSteps := 10000000) only [gantryref17_Loss, encR, encS, go_sem, stcells, ldcells, iv, bv, g0, reduceCtorEq, ↓reduceIte, Nat.reduceEqDiff]

theorem given_spec (u a e : Rat) : callX G n_gantrylaw17_given [encS u a e] = some (.d (encS u a e)) := by
  rw [callX_eq (cf := gantrylaw17_given) rfl]
  simp -implicitDefEqProofs (maxSteps := 10000000) only [gantrylaw17_given, encR, encS, go_sem, stcells, ldcells, iv, bv, reduceCtorEq, ↓reduceIte, Nat.reduceEqDiff]

def arnd (n m : Int) : Int := (if n < 0 then -(n + 1) else n) % m
theorem arnd_b {n m : Int} (hm : 0 < m) : 0 ≤ arnd n m ∧ arnd n m < m := ⟨Int.emod_nonneg _ (by omega), Int.emod_lt_of_pos _ hm⟩
theorem around_spec {n m : Int} (hn : I64 n) (hm : 0 < m) : callX G n_gantryref01_Around [iv n, iv m] = some (.d (iv (arnd n m))) := by
  rw [callX_eq (cf := gantryref01_Around) rfl]
  obtain ⟨h1, h2⟩ := hn
  have e2 := eqz_f (b := m) (by omega)
  unfold arnd
  by_cases h : n < 0
  · have e1 : decide (n < 0) = true := decide_eq_true h
    have e3 : w64 (n + 1) = n + 1 := w64_id (by omega) (by omega)
    have e4 : w64 (0 - (n + 1)) = -(n + 1) := by rw [w64_id (by omega) (by omega)]; omega
    have e5 := rem_pos (a := -(n + 1)) (b := m) (by omega)
    rw [if_pos h]
    simp -implicitDefEqProofs (maxSteps := 10000000) only [gantryref01_Around, go_sem, iv, bv, e1, e2, e3, e4, e5, reduceCtorEq, ↓reduceIte, Nat.reduceEqDiff]
  · have e1 : decide (n < 0) = false := decide_eq_false h
    have e5 := rem_pos (a := n) (b := m) (by omega)
    rw [if_neg h]
    simp -implicitDefEqProofs (maxSteps := 10000000) only [gantryref01_Around, go_sem, iv, bv, e1, e2, e5, reduceCtorEq, ↓reduceIte, Nat.reduceEqDiff]
def atr (l : List Int) (i m : Int) : Int := if i < 0 ∨ i ≥ l.length then 0 else arnd (l.getD i.toNat 0) m
theorem at_spec {d : D} {l : List Int} {i m : Int} (hr : Rw d l) (hl : ∀ n ∈ l, I64 n) (hm : 0 < m) : callX G n_gantryref01_At [d, iv i, iv m] = some (.d (iv (atr l i m))) := by
  rw [callX_eq (cf := gantryref01_At) rfl]
  have ll := hr.len
  unfold atr
  by_cases h : i < 0
  · have e1 : decide (i < 0) = true := decide_eq_true h
    rw [if_pos (.inl h)]
    simp -implicitDefEqProofs (maxSteps := 10000000) only [gantryref01_At, go_sem, iv, bv, e1, reduceCtorEq, ↓reduceIte, Nat.reduceEqDiff]
  · have e1 : decide (i < 0) = false := decide_eq_false h
    by_cases h2 : i ≥ l.length
    · have e2 : decide (i ≥ (l.length : Int)) = true := decide_eq_true h2
      rw [if_pos (.inr h2)]
      simp -implicitDefEqProofs (maxSteps := 10000000) only [gantryref01_At, go_sem, iv, bv, e1, e2, ll, reduceCtorEq, ↓reduceIte, Nat.reduceEqDiff]
    · have e2 : decide (i ≥ (l.length : Int)) = false := decide_eq_false h2
      rw [if_neg (by omega)]
      obtain ⟨j, rfl⟩ : ∃ j : Nat, i = (j : Int) := ⟨i.toNat, by omega⟩
      rw [Int.toNat_natCast]
      have hj : j < l.length := by omega
      have e3 := hr.ixn (j := j) hj
      have e4 := fun hp => ldv hp l (j := j) hj
      have hb : I64 (l.getD j 0) := hl _ (by rw [List.getD_eq_getElem?_getD, List.getElem?_eq_getElem hj]; exact List.getElem_mem hj)
      have g := around_spec hb hm
      simp only [iv] at g
      simp -implicitDefEqProofs (maxSteps := 10000000) only [gantryref01_At, go_sem, iv, bv, e1, e2, e3, e4, ll, g, reduceCtorEq, ↓reduceIte, Nat.reduceEqDiff]
end Go.AM

/- ref17.Some, Time. -/
namespace Go.AM
open Go Go.RowKit Go.Proofs

def Sz3 (u a e : Rat) : Prop := sz u ≤ 3 ∧ sz a ≤ 3 ∧ sz e ≤ 3
theorem Sz3.big {u a e : Rat} (h : Sz3 u a e) : SzS u a e := ⟨by have := h.1; omega, by have := h.2.1; omega, by have := h.2.2; omega⟩
theorem sz_of {n d : Int} (hn : I64 n) (hd : I64 d) : sz (Rat.divInt n d) ≤ 3 := sz_divInt (by omega) (nd_i64 hn) (nd_i64 hd)
theorem atr_b (l : List Int) (i : Int) {m : Int} (hm : 0 < m) : 0 ≤ atr l i m ∧ atr l i m < m := by
  unfold atr
  split
  · omega
  · exact arnd_b hm

theorem some_spec {d : D} {l : List Int} (hr : Rw d l) (hl : ∀ n ∈ l, I64 n) : ∃ u a e, callX G n_gantryref17_Some [d] = some (.d (encS u a e)) ∧ Sz3 u a e := by
  have a0 := at_spec (i := 0) (m := 30) hr hl (by omega)
  have a1 := at_spec (i := 1) (m := 6) hr hl (by omega)
  have a2 := at_spec (i := 2) (m := 20) hr hl (by omega)
  have a3 := at_spec (i := 3) (m := 6) hr hl (by omega)
  have a4 := at_spec (i := 4) (m := 9) hr hl (by omega)
  have a6 := at_spec (i := 6) (m := 20) hr hl (by omega)
  have b0 := atr_b l 0 (m := 30) (by omega)
  have b1 := atr_b l 1 (m := 6) (by omega)
  have b2 := atr_b l 2 (m := 20) (by omega)
  have b3 := atr_b l 3 (m := 6) (by omega)
  have b4 := atr_b l 4 (m := 9) (by omega)
  have b6 := atr_b l 6 (m := 20) (by omega)
  generalize atr l 0 30 = x0 at *
  generalize atr l 1 6 = x1 at *
  generalize atr l 2 20 = x2 at *
  generalize atr l 3 6 = x3 at *
  generalize atr l 4 9 = x4 at *
  generalize atr l 6 20 = x6 at *
  have w1 : w64 (1 + x1) = 1 + x1 := w64_id (by omega) (by omega)
  have w2 : w64 (1 + x2) = 1 + x2 := w64_id (by omega) (by omega)
  have w3 : w64 (1 + x3) = 1 + x3 := w64_id (by omega) (by omega)
  have w4 : w64 (1 + x4) = 1 + x4 := w64_id (by omega) (by omega)
  have a5 := at_spec (i := 5) (m := 1 + x4) hr hl (by omega)
  have b5 := atr_b l 5 (m := 1 + x4) (by omega)
  generalize atr l 5 (1 + x4) = x5 at *
  have o1 := rratOf_spec (n := x0) (d := 1 + x1) ⟨by omega, by omega⟩ ⟨by omega, by omega⟩
  have o2 := rratOf_spec (n := 1 + x2) (d := 1 + x3) ⟨by omega, by omega⟩ ⟨by omega, by omega⟩
  have o3 := rratOf_spec (n := x5) (d := 1 + x4) ⟨by omega, by omega⟩ ⟨by omega, by omega⟩
  have s1 := sz_of (n := x0) (d := 1 + x1) ⟨by omega, by omega⟩ ⟨by omega, by omega⟩
  have s2 := sz_of (n := 1 + x2) (d := 1 + x3) ⟨by omega, by omega⟩ ⟨by omega, by omega⟩
  have s3 := sz_of (n := x5) (d := 1 + x4) ⟨by omega, by omega⟩ ⟨by omega, by omega⟩
  have o4 := rwhole_spec (n := 1) ⟨by omega, by omega⟩
  have s4 := sz_int (n := 1) ⟨by omega, by omega⟩
  have o5 := rratOf_spec (n := -1) (d := 3) ⟨by omega, by omega⟩ ⟨by omega, by omega⟩
  have s5 := sz_of (n := -1) (d := 3) ⟨by omega, by omega⟩ ⟨by omega, by omega⟩
  have o6 := rratOf_spec (n := -1) (d := 2) ⟨by omega, by omega⟩ ⟨by omega, by omega⟩
  have s6 := sz_of (n := -1) (d := 2) ⟨by omega, by omega⟩ ⟨by omega, by omega⟩
  generalize Rat.divInt x0 (1 + x1) = u at *
  generalize Rat.divInt (1 + x2) (1 + x3) = a at *
  generalize Rat.divInt x5 (1 + x4) = e at *
  generalize ((1 : Int) : Rat) = q1 at *
  generalize Rat.divInt (-1) 3 = q2 at *
  generalize Rat.divInt (-1) 2 = q3 at *
  simp only [encR, bv, iv] at a0 a1 a2 a3 a4 a5 a6 o1 o2 o3 o4 o5 o6
  rw [callX_eq (cf := gantryref17_Some) rfl]
  by_cases h1 : x6 = 1
  · have e1 : (x6 == 1) = true := beq_t h1
    refine ⟨u, a, q1, ?_, by omega, by omega, by omega⟩
    simp -implicitDefEqProofs (maxSteps := 10000000) only [gantryref17_Some, encS, go_sem, stcells, ldcells, iv, bv, a0, a1, a2, a3, a4, a5, a6, o1, o2, o3, o4, w1, w2, w3, w4, e1, reduceCtorEq, ↓reduceIte, Nat.reduceEqDiff]
  have e1 : (x6 == 1) = false := beq_f h1
  by_cases h2 : x6 = 2
  · have e2 : (x6 == 2) = true := beq_t h2
    refine ⟨q2, a, e, ?_, by omega, by omega, by omega⟩
    simp -implicitDefEqProofs (maxSteps := 10000000) only [gantryref17_Some, encS, go_sem, stcells, ldcells, iv, bv, a0, a1, a2, a3, a4, a5, a6, o1, o2, o3, o5, w1, w2, w3, w4, e1, e2, reduceCtorEq, ↓reduceIte, Nat.reduceEqDiff]
  have e2 : (x6 == 2) = false := beq_f h2
  by_cases h3 : x6 = 3
  · have e3 : (x6 == 3) = true := beq_t h3
    refine ⟨u, 0, e, ?_, by omega, by rw [sz_zero]; omega, by omega⟩
    have ez : decide ((0 : Rat).num < 0) = false := rfl
    have ez2 : dg (digs (0 : Rat).num.natAbs) = .z true := by rw [Rat.zero_num, show (0 : Int).natAbs = 0 from rfl, digs_zero]; rfl
    have ez3 : dg (dd (0 : Rat).den) = .z true := rfl
    simp -implicitDefEqProofs (maxSteps := 10000000) only [gantryref17_Some, encS, go_sem, stcells, ldcells, iv, bv, a0, a1, a2, a3, a4, a5, a6, o1, o2, o3, w1, w2, w3, w4, e1, e2, e3, ez, ez2, ez3, reduceCtorEq, ↓reduceIte, Nat.reduceEqDiff]
  have e3 : (x6 == 3) = false := beq_f h3
  by_cases h4 : x6 = 4
  · have e4 : (x6 == 4) = true := beq_t h4
    refine ⟨u, a, q3, ?_, by omega, by omega, by omega⟩
    simp -implicitDefEqProofs (maxSteps := 10000000) only [gantryref17_Some, encS, go_sem, stcells, ldcells, iv, bv, a0, a1, a2, a3, a4, a5, a6, o1, o2, o3, o6, w1, w2, w3, w4, e1, e2, e3, e4, reduceCtorEq, ↓reduceIte, Nat.reduceEqDiff]
  have e4 : (x6 == 4) = false := beq_f h4
  refine ⟨u, a, e, ?_, by omega, by omega, by omega⟩
  simp -implicitDefEqProofs (maxSteps := 10000000) only [gantryref17_Some, encS, go_sem, stcells, ldcells, iv, bv, a0, a1, a2, a3, a4, a5, a6, o1, o2, o3, w1, w2, w3, w4, e1, e2, e3, e4, reduceCtorEq, ↓reduceIte, Nat.reduceEqDiff]
end Go.AM

/- ref17.Time. -/
namespace Go.AM
open Go Go.RowKit Go.Proofs

theorem tdiv68 {n : Int} (hn : I64 n) : I64 (n.tdiv 68) ∧ w64 (n.tdiv 68) = n.tdiv 68 := by
  obtain ⟨h1, h2⟩ := hn
  have h : I64 (n.tdiv 68) := by
    by_cases h0 : 0 ≤ n
    · rw [Int.tdiv_eq_ediv_of_nonneg h0]; exact ⟨by omega, by omega⟩
    · have e : n.tdiv 68 = -((-n) / 68) := by
        rw [← Int.tdiv_eq_ediv_of_nonneg (by omega), Int.neg_tdiv, Int.neg_neg]
      rw [e]; exact ⟨by omega, by omega⟩
  exact ⟨h, w64_id h.1 h.2⟩
theorem lim3 {u a e : Rat} (h : Sz3 u a e) : sz (limS u a e) ≤ 20 ∧ ∀ k, k ≤ 64 → sz (limS u a e - limS u a e * e ^ k) ≤ 300 := by
  obtain ⟨h1, h2, h3⟩ := h
  have k1 := sz_add (a := u) (b := u)
  have k2 := sz_sub (a := 1) (b := e)
  rw [sz_one_] at k2
  have k3 := sz_mul (a := a) (b := 1 - e)
  have k4 := sz_div (a := u + u) (b := a * (1 - e))
  have hl : sz (limS u a e) ≤ 20 := by unfold limS; omega
  refine ⟨hl, fun k hk => ?_⟩
  have h5 := sz_pow e k
  have h6 : k * sz e ≤ 64 * 3 := Nat.mul_le_mul hk h3
  have h7 := sz_mul (a := limS u a e) (b := e ^ k)
  have h8 := sz_sub (a := limS u a e) (b := limS u a e * e ^ k)
  omega

theorem time_spec {u a e : Rat} {n : Int} (h3 : Sz3 u a e) (hn : I64 n) : ∃ t, callX G n_gantryref17_Time [encS u a e, iv n] = some (.d (encR t)) ∧ sz t ≤ 1000 := by
  have h := h3.big
  obtain ⟨l1, l2⟩ := lim3 h3
  have g1 := rLimit_spec h
  obtain ⟨L, hL⟩ : ∃ L, (if okS u a e = true then limS u a e else 0) = L := ⟨_, rfl⟩
  rw [hL] at g1
  have hLs : sz L ≤ 20 := by
    rw [← hL]; split
    · exact l1
    · rw [sz_zero]; omega
  have b1 := arnd_b (n := n) (m := 68) (by omega)
  have g2 := around_spec (n := n) (m := 68) hn (by omega)
  have g3 := rratOf_spec (n := arnd n 68) (d := 64) ⟨by omega, by omega⟩ ⟨by omega, by omega⟩
  have s3 := sz_of (n := arnd n 68) (d := 64) ⟨by omega, by omega⟩ ⟨by omega, by omega⟩
  have g4 := rratMul_spec (a := L) (b := Rat.divInt (arnd n 68) 64) (by omega) (by omega)
  have s4 := sz_mul (a := L) (b := Rat.divInt (arnd n 68) 64)
  obtain ⟨d1, d2⟩ := tdiv68 hn
  have g5 := around_spec (n := n.tdiv 68) (m := 9) d1 (by omega)
  have e0 := eqz_f (b := (68 : Int)) (by omega)
  obtain ⟨dv, hdv⟩ : ∃ dv, n.tdiv 68 = dv := ⟨_, rfl⟩
  have d2' : w64 (n.tdiv 68) = dv := by rw [d2, hdv]
  rw [hdv] at g5
  generalize arnd dv 9 = X at *
  generalize L * Rat.divInt (arnd n 68) 64 = p at *
  generalize Rat.divInt (arnd n 68) 64 = q at *
  generalize arnd n 68 = y at *
  rw [callX_eq (cf := gantryref17_Time) rfl]
  by_cases h1 : X = 1
  · have e1 : (X == 1) = true := beq_t h1
    have g6 := rratNeg_spec (a := p) (by omega)
    refine ⟨-p, ?_, by rw [sz_neg]; omega⟩
    generalize -p = np at *
    simp only [encR, encS, bv, iv] at g1 g2 g3 g4 g5 g6
    simp -implicitDefEqProofs (maxSteps := 10000000) only [gantryref17_Time, encR, encS, go_sem, stcells, ldcells, iv, bv, g1, g2, g3, g4, g5, g6, d2', e0, e1, reduceCtorEq, ↓reduceIte, Nat.reduceEqDiff]
  have e1 : (X == 1) = false := beq_f h1
  by_cases h2 : X = 2
  · have e2 : (X == 2) = true := beq_t h2
    have g6 := around_spec (n := n) (m := 5) hn (by omega)
    have b6 := arnd_b (n := n) (m := 5) (by omega)
    generalize arnd n 5 = k at *
    have g7 := rFlight_spec (n := k) h
    by_cases hc : okS u a e = true ∧ inS k = true
    · rw [if_pos hc] at g7
      refine ⟨_, ?_, Nat.le_trans (l2 k.toNat (by omega)) (by omega)⟩
      generalize limS u a e - limS u a e * e ^ k.toNat = z1 at *
      generalize rdurK u a e k.toNat = z2 at *
      generalize spdK u e k.toNat = z3 at *
      simp only [encR, encS, bv, iv] at g1 g2 g3 g4 g5 g6 g7
      simp -implicitDefEqProofs (maxSteps := 10000000) only [gantryref17_Time, encR, encS, go_sem, stcells, ldcells, iv, bv, g1, g2, g3, g4, g5, g6, g7, d2', e0, e1, e2, reduceCtorEq, ↓reduceIte, Nat.reduceEqDiff]
    · rw [if_neg hc] at g7
      refine ⟨0, ?_, by rw [sz_zero]; omega⟩
      generalize (0 : Rat) = z1 at *
      simp only [encR, encS, bv, iv] at g1 g2 g3 g4 g5 g6 g7
      simp -implicitDefEqProofs (maxSteps := 10000000) only [gantryref17_Time, encR, encS, go_sem, stcells, ldcells, iv, bv, g1, g2, g3, g4, g5, g6, g7, d2', e0, e1, e2, reduceCtorEq, ↓reduceIte, Nat.reduceEqDiff]
  have e2 : (X == 2) = false := beq_f h2
  refine ⟨p, ?_, by omega⟩
  simp only [encR, encS, bv, iv] at g1 g2 g3 g4 g5
  simp -implicitDefEqProofs (maxSteps := 10000000) only [gantryref17_Time, encR, encS, go_sem, stcells, ldcells, iv, bv, g1, g2, g3, g4, g5, d2', e0, e1, e2, reduceCtorEq, ↓reduceIte, Nat.reduceEqDiff]
end Go.AM

/- Flights, both ways. -/
namespace Go.AM
open Go Go.RowKit Go.Proofs

theorem dur_same (u a e : Rat) (k : Nat) : durK u a e k = rdurK u a e k := by
  unfold durK rdurK
  rw [Rat.div_def, Rat.div_def, Rat.mul_assoc, Rat.mul_comm a⁻¹, ← Rat.mul_assoc]
theorem lim_step {u a e : Rat} (ha : a ≠ 0) (he : 1 - e ≠ 0) : limS u a e * (1 - e) = (u + u) / a := by
  unfold limS
  rw [Rat.div_def, Rat.div_def, Rat.inv_mul_rev, Rat.mul_assoc, Rat.mul_assoc, Rat.mul_comm a⁻¹, ← Rat.mul_assoc (1 - e)⁻¹, Rat.inv_mul_cancel _ he, Rat.one_mul]
theorem sta_same {u a e : Rat} (ha : a ≠ 0) (he : 1 - e ≠ 0) : ∀ k : Nat, staK u a e k = limS u a e - limS u a e * e ^ k
  | 0 => by rw [staK, Rat.pow_zero, Rat.mul_one, Rat.sub_self]
  | k + 1 => by
    rw [staK, sta_same ha he k, durK, ← lim_step ha he, Rat.pow_succ]
    generalize limS u a e = L
    generalize e ^ k = p
    grind
theorem okS_ne {u a e : Rat} (h : okS u a e = true) : a ≠ 0 ∧ 1 - e ≠ 0 := by
  simp only [okS, Bool.and_eq_true, decide_eq_true_eq] at h
  refine ⟨fun h0 => by rw [h0] at h; exact Rat.lt_irrefl h.1.1.2, fun h0 => ?_⟩
  have h1 : e = 1 := by grind
  rw [h1] at h; exact Rat.lt_irrefl h.2
theorem i64_wf {n : Int} (h : (Lit.int .i64 n).wf = true) : I64 n := by
  simp only [Lit.wf, Bool.and_eq_true, decide_eq_true_eq] at h
  have h1 : IntKind.min .i64 = -9223372036854775808 := by decide
  have h2 : IntKind.max .i64 = 9223372036854775807 := by decide
  rw [h1, h2] at h
  exact ⟨by omega, by omega⟩
theorem rw_dg {d : D} {l : List Int} (h : Dg d l) : Rw d l := by
  rcases h with ⟨rfl, rfl⟩ | h
  · exact .inl rfl
  · exact .inr h
end Go.AM

/- Names for what comes out; ref17.Height. -/
namespace Go.AM
open Go Go.RowKit Go.Proofs

theorem addX {a b : Rat} (ha : sz a ≤ 100000000000) (hb : sz b ≤ 100000000000) : ∃ c, c = a + b ∧ sz c ≤ sz a + sz b + 1 ∧ callX G n_rat_Add [encR a, encR b] = some (.d (encR c)) := ⟨_, rfl, sz_add, ratAdd_spec ha hb⟩
theorem subX {a b : Rat} (ha : sz a ≤ 100000000000) (hb : sz b ≤ 100000000000) : ∃ c, c = a - b ∧ sz c ≤ sz a + sz b + 1 ∧ callX G n_rat_Sub [encR a, encR b] = some (.d (encR c)) := ⟨_, rfl, sz_sub, ratSub_spec ha hb⟩
theorem mulX {a b : Rat} (ha : sz a ≤ 100000000000) (hb : sz b ≤ 100000000000) : ∃ c, c = a * b ∧ sz c ≤ sz a + sz b ∧ callX G n_rat_Mul [encR a, encR b] = some (.d (encR c)) := ⟨_, rfl, sz_mul, ratMul_spec ha hb⟩
theorem raddX {a b : Rat} (ha : sz a ≤ 100000000000) (hb : sz b ≤ 100000000000) : ∃ c, c = a + b ∧ sz c ≤ sz a + sz b + 1 ∧ callX G n_gantryref05_Add [encR a, encR b] = some (.d (encR c)) := ⟨_, rfl, sz_add, rratAdd_spec ha hb⟩
theorem rsubX {a b : Rat} (ha : sz a ≤ 100000000000) (hb : sz b ≤ 100000000000) : ∃ c, c = a - b ∧ sz c ≤ sz a + sz b + 1 ∧ callX G n_gantryref05_Sub [encR a, encR b] = some (.d (encR c)) := ⟨_, rfl, sz_sub, rratSub_spec ha hb⟩
theorem rmulX {a b : Rat} (ha : sz a ≤ 100000000000) (hb : sz b ≤ 100000000000) : ∃ c, c = a * b ∧ sz c ≤ sz a + sz b ∧ callX G n_gantryref05_Mul [encR a, encR b] = some (.d (encR c)) := ⟨_, rfl, sz_mul, rratMul_spec ha hb⟩
theorem rofX {n d : Int} (hn : I64 n) (hd : I64 d) : ∃ c, c = Rat.divInt n d ∧ sz c ≤ 3 ∧ callX G n_gantryref05_Of [iv n, iv d] = some (.d (encR c)) := ⟨_, rfl, sz_of hn hd, rratOf_spec hn hd⟩
/-- Two numbers of which a law says that they are the same. -/
theorem sameX {a b : Rat} (h : a = b) (ha : sz a ≤ 100000000000) (hb : sz b ≤ 100000000000) : callX G n_gantrylaw17_same [encR a, encR b] = some (.d (bv true)) := by
  have g := lsame_spec ha hb
  rw [decide_eq_true h] at g
  exact g
theorem cmpX {a b : Rat} (ha : sz a ≤ 100000000000) (hb : sz b ≤ 100000000000) : ∃ c, c = cmpR a b ∧ callX G n_rat_Compare [encR a, encR b] = some (.d (iv c)) := ⟨_, rfl, ratCompare_spec ha hb⟩
def Sz9 (u a e : Rat) : Prop := sz u ≤ 9 ∧ sz a ≤ 9 ∧ sz e ≤ 9
theorem Sz3.nine {u a e : Rat} (h : Sz3 u a e) : Sz9 u a e := ⟨by have := h.1; omega, by have := h.2.1; omega, by have := h.2.2; omega⟩
theorem Sz9.big {u a e : Rat} (h : Sz9 u a e) : SzS u a e := ⟨by have := h.1; omega, by have := h.2.1; omega, by have := h.2.2; omega⟩
theorem lim9 {u a e : Rat} (h : Sz9 u a e) : sz (limS u a e) ≤ 100 ∧ ∀ k, k ≤ 64 → sz (limS u a e - limS u a e * e ^ k) ≤ 1000 ∧ sz (durK u a e k) ≤ 1000 ∧ sz (spdK u e k) ≤ 1000 := by
  obtain ⟨h1, h2, h3⟩ := h
  have k1 := sz_add (a := u) (b := u)
  have k2 := sz_sub (a := 1) (b := e)
  rw [sz_one_] at k2
  have k3 := sz_mul (a := a) (b := 1 - e)
  have k4 := sz_div (a := u + u) (b := a * (1 - e))
  have hl : sz (limS u a e) ≤ 100 := by unfold limS; omega
  refine ⟨hl, fun k hk => ?_⟩
  have h5 := sz_pow e k
  have h6 : k * sz e ≤ 64 * 9 := Nat.mul_le_mul hk h3
  have h7 := sz_mul (a := limS u a e) (b := e ^ k)
  have h8 := sz_sub (a := limS u a e) (b := limS u a e * e ^ k)
  refine ⟨by omega, ?_, ?_⟩
  · rw [dur_same]
    have h9 := sz_mul (a := u + u) (b := e ^ k)
    have h10 := sz_div (a := (u + u) * e ^ k) (b := a)
    unfold rdurK; omega
  · have h9 := sz_mul (a := u) (b := e ^ k)
    unfold spdK; omega
theorem limX {u a e : Rat} (h : Sz9 u a e) (ho : okS u a e = true) : ∃ L, L = limS u a e ∧ sz L ≤ 100 ∧ callX G n_bounce_Limit [encS u a e] = some (.d (encR L)) := by
  have g := bLimit_spec h.big
  rw [if_pos ho] at g
  exact ⟨_, rfl, (lim9 h).1, g⟩
theorem inS_nat {m : Nat} (hm : m ≤ 64) : inS (m : Int) = true := by simp only [inS, Bool.and_eq_true, decide_eq_true_eq]; omega
theorem flX {u a e : Rat} (h : Sz9 u a e) (ho : okS u a e = true) {m : Nat} (hm : m ≤ 64) : ∃ x y z, x = limS u a e - limS u a e * e ^ m ∧ y = (u + u) * e ^ m / a ∧ z = u * e ^ m ∧ sz x ≤ 1000 ∧ sz y ≤ 1000 ∧ sz z ≤ 1000 ∧ callX G n_bounce_Flight [encS u a e, iv (m : Int)] = some (.d (.tup [encR x, encR y, encR z])) := by
  have g := bFlight_spec (n := (m : Int)) h.big
  rw [if_pos ⟨ho, inS_nat hm⟩, Int.toNat_natCast] at g
  obtain ⟨ha, he⟩ := okS_ne ho
  obtain ⟨s1, s2, s3⟩ := (lim9 h).2 m hm
  rw [sta_same ha he] at g
  exact ⟨_, _, _, rfl, dur_same u a e m, rfl, s1, s2, s3, g⟩
theorem rFl {u a e : Rat} (h : SzS u a e) (ho : okS u a e = true) {k : Nat} (hk : k ≤ 64) : callX G n_gantryref17_Flight [encS u a e, iv (k : Int)] = some (.d (.tup [encR (staK u a e k), encR (durK u a e k), encR (spdK u e k)])) := by
  have g := rFlight_spec (n := (k : Int)) h
  rw [if_pos ⟨ho, inS_nat hk⟩, Int.toNat_natCast] at g
  obtain ⟨ha, he⟩ := okS_ne ho
  rw [sta_same ha he, dur_same]
  exact g
theorem half_div (q : Rat) : q / 2 = Rat.divInt 1 2 * q := by
  have e : (2 : Rat)⁻¹ = Rat.divInt 1 2 := by kernel_rfl
  rw [Rat.div_def, Rat.mul_comm, e]

def rh_st (u a e t : Rat) (n k : Int) : St := mkS [(2, ai n), (3, .ptr [3] 0), (4, .ptr [4] 0), (6, .ptr [6] 0), (9, ai k)] [([3], boxS u a e), ([4], boxR t), ([6], boxR0)]
def rh_en : St := mkS [(6, .ptr [6] 0)] [([6], boxR0)]
def rh_hit (q : Rat) (k : Int) : St := mkS [(6, .ptr [6] 0), (7, ai k), (8, ai 0)] [([6], boxR q)]
theorem rh_no {u a e t : Rat} (h : SzS u a e) (ho : okS u a e = true) (ht : sz t ≤ 100000000) {k n : Nat} (hk : k ≤ n) (hn : n ≤ 64) (hno : ¬ t - staK u a e k < durK u a e k) : X G gantryref17_Height_l0 (rh_st u a e t n k) = some (.n, rh_st u a e t n ((k + 1 : Nat) : Int)) := by
  have hs := bh_sz h ht (k := k) (by omega)
  have h1 := staK_sz h k (by omega)
  have h1' : k * 700000001 ≤ 64 * 700000001 := Nat.mul_le_mul_right _ (by omega)
  have h2 := durK_sz h (k := k) (by omega)
  have g1 := rratSub_spec (a := t) (b := staK u a e k) (by omega) (by omega)
  have g2 := rratCompare_spec (a := t - staK u a e k) (b := durK u a e k) (by omega) (by omega)
  have g3 := rFl h ho (k := k) (by omega)
  have e1 : decide (cmpR (t - staK u a e k) (durK u a e k) < 0) = false := by rw [cmR_lt]; exact decide_eq_false hno
  have e2 : decide ((k : Int) ≤ (n : Int)) = true := le_t (by omega)
  have e3 : w64 ((k : Int) + 1) = ((k + 1 : Nat) : Int) := by rw [w64_id (by omega) (by omega)]; rfl
  clear hno hs h1 h2
  generalize t - staK u a e k = r at *
  generalize staK u a e k = s at *
  generalize durK u a e k = d at *
  generalize spdK u e k = v at *
  generalize cmpR r d = c at *
  simp only [encR, encS, bv, iv] at g1 g2 g3
  simp -implicitDefEqProofs (maxSteps := 10000000) only [gantryref17_Height_l0, rh_st, boxS, cS, List.map_cons, List.map_nil, boxR, boxR0, go_sem, stcells, ldcells, iv, bv, g1, g2, g3, e1, e2, e3, toDs, apartS, ne_eq, not_false_eq_true, reduceCtorEq, ↓reduceIte, Nat.reduceEqDiff]
theorem rh_yes {u a e t : Rat} (h : SzS u a e) (ho : okS u a e = true) (ht : sz t ≤ 100000000) {k n : Nat} (hk : k ≤ n) (hn : n ≤ 64) (hno : t - staK u a e k < durK u a e k) : X G gantryref17_Height_l0 (rh_st u a e t n k) = some (.r, rh_hit (fallK u a e t k) k) := by
  have hs := bh_sz h ht (k := k) (by omega)
  have h1 := staK_sz h k (by omega)
  have h1' : k * 700000001 ≤ 64 * 700000001 := Nat.mul_le_mul_right _ (by omega)
  have h2 := durK_sz h (k := k) (by omega)
  have h3 := spdK_sz h (k := k) (by omega)
  have g1 := rratSub_spec (a := t) (b := staK u a e k) (by omega) (by omega)
  have g2 := rratCompare_spec (a := t - staK u a e k) (b := durK u a e k) (by omega) (by omega)
  have g3 := rFl h ho (k := k) (by omega)
  have e1 : decide (cmpR (t - staK u a e k) (durK u a e k) < 0) = true := by rw [cmR_lt]; exact decide_eq_true hno
  have e2 : decide ((k : Int) ≤ (n : Int)) = true := le_t (by omega)
  have e3 : w64 ((k : Int) + 1) = ((k + 1 : Nat) : Int) := by rw [w64_id (by omega) (by omega)]; rfl
  have w := rwhole_spec (n := 2) ⟨by omega, by omega⟩
  have e4 : ((2 : Int) : Rat) = 2 := rfl
  rw [e4] at w
  unfold fallK
  obtain ⟨q1, q2, q3⟩ := h
  clear hno h1 h2
  generalize t - staK u a e k = r at *
  generalize staK u a e k = s at *
  generalize durK u a e k = d at *
  generalize spdK u e k = v at *
  generalize cmpR r d = c at *
  have g4 := rratMul_spec (a := r) (b := r) (by omega) (by omega)
  have k1 := sz_mul (a := r) (b := r)
  have g5 := rratMul_spec (a := a) (b := r * r) (by omega) (by omega)
  have k2 := sz_mul (a := a) (b := r * r)
  have g6 := rratDiv_spec (a := a * (r * r)) (b := 2) (by omega) (by have := sz_two; omega)
  rw [half_div] at g6
  have k0 := sz_half
  have k3 := sz_mul (a := Rat.divInt 1 2) (b := a * (r * r))
  have g7 := rratMul_spec (a := v) (b := r) (by omega) (by omega)
  have k4 := sz_mul (a := v) (b := r)
  have g8 := rratSub_spec (a := v * r) (b := Rat.divInt 1 2 * (a * (r * r))) (by omega) (by omega)
  clear e4
  generalize v * r - Rat.divInt 1 2 * (a * (r * r)) = z1 at *
  generalize v * r = z2 at *
  generalize Rat.divInt 1 2 * (a * (r * r)) = z3 at *
  generalize a * (r * r) = z4 at *
  generalize r * r = z5 at *
  generalize (2 : Rat) = two at *
  simp only [encR, encS, bv, iv] at g1 g2 g3 g4 g5 g6 g7 g8 w
  simp -implicitDefEqProofs (maxSteps := 10000000) only [gantryref17_Height_l0, rh_st, rh_hit, boxS, cS, List.map_cons, List.map_nil, boxR, boxR0, go_sem, stcells, ldcells, iv, bv, g1, g2, g3, g4, g5, g6, g7, g8, w, e1, e2, e3, toDs, apartS, ne_eq, not_false_eq_true, reduceCtorEq, ↓reduceIte, Nat.reduceEqDiff]
theorem rh_stop {u a e t : Rat} {n k : Nat} (hk : n < k) : X G gantryref17_Height_l0 (rh_st u a e t n k) = some (.x 0, rh_en) := by
  have e2 : decide ((k : Int) ≤ (n : Int)) = false := le_f (by omega)
  simp -implicitDefEqProofs (maxSteps := 10000000) only [gantryref17_Height_l0, rh_st, rh_en, boxS, cS, List.map_cons, List.map_nil, boxR, boxR0, go_sem, stcells, ldcells, iv, bv, e2, reduceCtorEq, ↓reduceIte, Nat.reduceEqDiff]
theorem rh_loop {u a e t : Rat} (h : SzS u a e) (ho : okS u a e = true) (ht : sz t ≤ 100000000) {n : Nat} (hn : n ≤ 64) : ∀ (j k : Nat), k + j = n + 1 → X G (.loop gantryref17_Height_l0) (rh_st u a e t n k) =
    match (List.range' k j).find? (hit u a e t) with
    | some i => some (.r, rh_hit (fallK u a e t i) i)
    | none => some (.x 0, rh_en)
  | 0, k, hk => by
    rw [X_loop, rh_stop (by omega)]; rfl
  | j + 1, k, hk => by
    rw [List.range'_succ, List.find?_cons]
    by_cases hh : t - staK u a e k < durK u a e k
    · have e1 : hit u a e t k = true := decide_eq_true hh
      rw [X_loop, rh_yes h ho ht (by omega) hn hh, e1]; rfl
    · have e1 : hit u a e t k = false := decide_eq_false hh
      rw [X_loop, rh_no h ho ht (by omega) hn hh, e1, Option.bind_some, if_pos rfl]
      exact rh_loop h ho ht hn j (k + 1) (by omega)

theorem rHeight_spec {u a e t : Rat} {n : Int} (h : SzS u a e) (ht : sz t ≤ 100000000) : callX G n_gantryref17_Height [encS u a e, encR t, iv n] = some (.d (encH (hgt u a e t n))) := by
  rw [callX_eq (cf := gantryref17_Height) rfl]
  have g0 := rValid_spec h
  have g2 := rratSign_spec (a := t) (by omega)
  have e2 := sign_lt (x := t)
  unfold hgt
  by_cases ho : okS u a e = true
  · rw [ho] at g0
    by_cases h0 : 0 ≤ t
    · rw [decide_eq_false (show ¬ t < 0 from fun hc => Rat.not_le.2 hc h0)] at e2
      by_cases hn0 : n < 0
      · have e5 : decide (n < 0) = true := lt_t hn0
        rw [if_neg (fun h => by have := h.2.2; simp only [inS, Bool.and_eq_true, decide_eq_true_eq] at this; omega), encH, encR_zero]
        simp only [encR, encS, bv, iv] at g0 g2
        simp -implicitDefEqProofs (maxSteps := 10000000) only [gantryref17_Height, encR, encS, toDs, apartS, ne_eq, not_false_eq_true, go_sem, stcells, ldcells, iv, bv, g0, g2, e2, e5, reduceCtorEq, ↓reduceIte, Nat.reduceEqDiff]
      have e5 : decide (n < 0) = false := lt_f hn0
      by_cases hn1 : n > 64
      · have e6 : decide (n > 64) = true := gt_t hn1
        rw [if_neg (fun h => by have := h.2.2; simp only [inS, Bool.and_eq_true, decide_eq_true_eq] at this; omega), encH, encR_zero]
        simp only [encR, encS, bv, iv] at g0 g2
        simp -implicitDefEqProofs (maxSteps := 10000000) only [gantryref17_Height, encR, encS, toDs, apartS, ne_eq, not_false_eq_true, go_sem, stcells, ldcells, iv, bv, g0, g2, e2, e5, e6, reduceCtorEq, ↓reduceIte, Nat.reduceEqDiff]
      have e6 : decide (n > 64) = false := decide_eq_false hn1
      have hi : inS n = true := by simp only [inS, Bool.and_eq_true, decide_eq_true_eq]; omega
      rw [if_pos ⟨ho, h0, hi⟩]
      obtain ⟨m, rfl⟩ : ∃ m : Nat, n = (m : Int) := ⟨n.toNat, by omega⟩
      rw [Int.toNat_natCast]
      have g3 := rLimit_spec h
      rw [if_pos ho] at g3
      have k3 := (sz_lim h).2.2.2
      have g4 := rratCompare_spec (a := t) (b := limS u a e) (by omega) (by omega)
      have e4 := cmR_ge (a := t) (b := limS u a e)
      by_cases hl : limS u a e ≤ t
      · rw [if_pos hl, encH, encR_zero]
        rw [decide_eq_true hl] at e4
        generalize limS u a e = L at *
        simp only [encR, encS, bv, iv] at g0 g2 g3 g4
        simp -implicitDefEqProofs (maxSteps := 10000000) only [gantryref17_Height, encR, encS, toDs, apartS, ne_eq, not_false_eq_true, go_sem, stcells, ldcells, iv, bv, g0, g2, g3, g4, e2, e4, e5, e6, reduceCtorEq, ↓reduceIte, Nat.reduceEqDiff]
      · rw [if_neg hl]
        rw [decide_eq_false hl] at e4
        have hr := rh_loop h ho ht (n := m) (by omega) (m + 1) 0 (by omega)
        rw [← List.range_eq_range'] at hr
        generalize limS u a e = L at *
        cases hf : (List.range (m + 1)).find? (hit u a e t) with
        | some i =>
          rw [hf] at hr
          rw [encH]
          dsimp only at hr ⊢
          generalize fallK u a e t i = z at *
          simp only [encR, encS, bv, iv] at g0 g2 g3 g4
          simp only [rh_st, rh_hit, boxS, cS, List.map_cons, List.map_nil, boxR, boxR0, go_sem] at hr
          simp -implicitDefEqProofs (maxSteps := 10000000) only [gantryref17_Height, hr, encR, encS, toDs, apartS, ne_eq, not_false_eq_true, go_sem, stcells, ldcells, iv, bv, g0, g2, g3, g4, e2, e4, e5, e6, reduceCtorEq, ↓reduceIte, Nat.reduceEqDiff]
        | none =>
          rw [hf] at hr
          rw [encH, encR_zero]
          dsimp only at hr ⊢
          simp only [encR, encS, bv, iv] at g0 g2 g3 g4
          simp only [rh_st, rh_en, boxS, cS, List.map_cons, List.map_nil, boxR, boxR0, go_sem] at hr
          simp -implicitDefEqProofs (maxSteps := 10000000) only [gantryref17_Height, hr, encR, encS, toDs, apartS, ne_eq, not_false_eq_true, go_sem, stcells, ldcells, iv, bv, g0, g2, g3, g4, e2, e4, e5, e6, reduceCtorEq, ↓reduceIte, Nat.reduceEqDiff]
    · rw [decide_eq_true (Rat.not_le.1 h0)] at e2
      rw [if_neg (fun h => h0 h.2.1), encH, encR_zero]
      simp only [encR, encS, bv, iv] at g0 g2
      simp -implicitDefEqProofs (maxSteps := 10000000) only [gantryref17_Height, encR, encS, toDs, apartS, ne_eq, not_false_eq_true, go_sem, stcells, ldcells, iv, bv, g0, g2, e2, reduceCtorEq, ↓reduceIte, Nat.reduceEqDiff]
  · rw [eq_false_of_ne_true ho] at g0
    rw [if_neg (fun h => ho h.1), encH, encR_zero]
    simp only [encR, encS, bv, iv] at g0
    simp -implicitDefEqProofs (maxSteps := 10000000) only [gantryref17_Height, encR, encS, toDs, apartS, ne_eq, not_false_eq_true, go_sem, stcells, ldcells, iv, bv, g0, reduceCtorEq, ↓reduceIte, Nat.reduceEqDiff]
theorem hgt_sz {u a e t : Rat} (h : Sz9 u a e) (ht : sz t ≤ 3000) (n : Int) : sz (hgt u a e t n).1 ≤ 100000 := by
  have z : sz 0 ≤ 100000 := by rw [sz_zero]; omega
  unfold hgt
  split
  · rename_i hc
    split
    · exact z
    · split
      · rename_i i hf
        have hi := List.mem_of_find?_eq_some hf
        have hi2 := hc.2.2
        simp only [inS, Bool.and_eq_true, decide_eq_true_eq] at hi2
        have hk : i ≤ 64 := by have := List.mem_range.1 hi; omega
        obtain ⟨ha, he⟩ := okS_ne hc.1
        obtain ⟨s1, s2, s3⟩ := (lim9 h).2 i hk
        rw [← sta_same ha he] at s1
        show sz (fallK u a e t i) ≤ 100000
        unfold fallK
        obtain ⟨q1, q2, q3⟩ := h
        have k0 := sz_sub (a := t) (b := staK u a e i)
        generalize t - staK u a e i = r at *
        generalize spdK u e i = v at *
        have k1 := sz_mul (a := r) (b := r)
        have k2 := sz_mul (a := a) (b := r * r)
        have k5 := sz_half
        have k3 := sz_mul (a := Rat.divInt 1 2) (b := a * (r * r))
        have k4 := sz_mul (a := v) (b := r)
        have k6 := sz_sub (a := v * r) (b := Rat.divInt 1 2 * (a * (r * r)))
        omega
      · exact z
  · exact z
end Go.AM

namespace Go.AM
open Go Go.RowKit Go.Proofs

def bq_st (u a e t : Rat) (l : List Int) (i : Int) : St := mkS [(7, .ptr [7] 0), (8, .ptr [8] 0), (9, .d (rowI l)), (10, ai i)] [([7], boxS u a e), ([8], boxR t)]
theorem bq_go {u a e t : Rat} (h : Sz9 u a e) (ht : sz t ≤ 1000) {l : List Int} (hl : l.length = 3) {i : Nat} (hi : i < 3) : X G gantrylaw17_BounceHeights_l0 (bq_st u a e t l i) = some (.n, bq_st u a e t l ((i + 1 : Nat) : Int)) := by
  have e1 : decide ((i : Int) < 3) = true := lt_t (by omega)
  have e2 := (Rw.row l).ixn (j := i) (by omega)
  have e3 := fun hp => ldv hp l (j := i) (by omega)
  have e4 : w64 ((i : Int) + 1) = ((i + 1 : Nat) : Int) := by rw [w64_id (by omega) (by omega)]; rfl
  have g1 := given_spec u a e
  have g2 := bHeight_spec (n := l.getD i 0) h.big (t := t) (by omega)
  have g3 := rHeight_spec (n := l.getD i 0) h.big (t := t) (by omega)
  have hs := hgt_sz h (t := t) (by omega) (l.getD i 0)
  generalize hgt u a e t (l.getD i 0) = p at *
  obtain ⟨z, k, c⟩ := p
  simp only at hs
  have g4 := sameX (a := z) (b := z) rfl (by omega) (by omega)
  have q1 : (k != k) = false := bne_self_eq_false k
  have q2 : (c != c) = false := bne_self_eq_false c
  have q3 : (k == k) = true := beq_t rfl
  have q4 : (c == c) = true := beq_t rfl
  clear hs
  simp only [encR, encS, encH, bv, iv] at g1 g2 g3 g4
  simp -implicitDefEqProofs (maxSteps := 10000000) only [gantrylaw17_BounceHeights_l0, bq_st, boxS, cS, List.map_cons, List.map_nil, boxR, go_sem, stcells, ldcells, iv, bv, e1, e2, e3, e4, g1, g2, g3, g4, q1, q2, q3, q4, toDs, apartS, ne_eq, not_false_eq_true, reduceCtorEq, ↓reduceIte, Nat.reduceEqDiff]
theorem bq_stop {u a e t : Rat} {l : List Int} : X G gantrylaw17_BounceHeights_l0 (bq_st u a e t l ((3 : Nat) : Int)) = some (.x 0, mkS [] []) := by
  have e1 : decide (((3 : Nat) : Int) < 3) = false := rfl
  simp -implicitDefEqProofs (maxSteps := 10000000) only [gantrylaw17_BounceHeights_l0, bq_st, boxS, cS, List.map_cons, List.map_nil, boxR, go_sem, stcells, ldcells, iv, bv, e1, reduceCtorEq, ↓reduceIte, Nat.reduceEqDiff]
theorem bq_loop {u a e t : Rat} (h : Sz9 u a e) (ht : sz t ≤ 1000) {l : List Int} (hl : l.length = 3) : X G (.loop gantrylaw17_BounceHeights_l0) (bq_st u a e t l 0) = some (.x 0, mkS [] []) := by
  have s0 := bq_go h ht hl (i := 0) (by omega)
  have s1 := bq_go h ht hl (i := 1) (by omega)
  have s2 := bq_go h ht hl (i := 2) (by omega)
  rw [X_loop]
  show ((X G gantrylaw17_BounceHeights_l0 (bq_st u a e t l ((0 : Nat) : Int))).bind _) = _
  rw [s0, Option.bind_some, if_pos rfl, X_loop, s1, Option.bind_some, if_pos rfl, X_loop, s2, Option.bind_some, if_pos rfl, X_loop, bq_stop]
  rfl
end Go.AM
namespace Go.Proofs.Ytgakeohkfgdcfaa.Pure
open Go Go.AM
theorem BounceHeights (e0 : D) (l0 : List Int) (hd : Dg e0 l0) (hwf : ∀ n ∈ l0, (Lit.int .i64 n).wf = true) (hlen : l0.length * 8 ≤ 140737488351232) (a1 : Int) (w1 : (Lit.int .i64 a1).wf = true) (a2 : Int) (w2 : (Lit.int .i64 a2).wf = true) : callX G 5 [e0, iv a1, iv a2] = some (.d (bv true)) := by
  obtain ⟨u, a, e, g1, h3⟩ := some_spec (rw_dg hd) (fun n hn => i64_wf (hwf n hn))
  obtain ⟨t, g2, ht⟩ := time_spec (n := a1) h3 (i64_wf w1)
  have i2 := i64_wf w2
  have g3 := around_spec (n := a2) (m := 5) i2 (by omega)
  have hl := bq_loop h3.nine ht (l := [30, arnd a2 5, a2]) rfl
  generalize arnd a2 5 = x at *
  have k10 := lives_spec
  rw [callX_eq (cf := gantrylaw17_BounceHeights) rfl]
  simp only [encS, encR, bv, iv] at g1 g2 g3 k10
  simp only [bq_st, boxS, cS, boxR, rowI, List.map_cons, List.map_nil, iv, go_sem] at hl
  simp -implicitDefEqProofs (maxSteps := 10000000) only [gantrylaw17_BounceHeights, go_sem, stcells, ldcells, iv, bv, g1, g2, g3, hl, k10, reduceCtorEq, ↓reduceIte, Nat.reduceEqDiff]
end Go.Proofs.Ytgakeohkfgdcfaa.Pure

/- The row of BounceHeights, out of its Pure. Printed by row.py. -/
namespace Go.Proofs.Ytgakeohkfgdcfaa.bounceHeights
open Go.ChangeShapes Go.WideShapes Go.ChangeAt Go.RowKit Go.AM
theorem own : ownKnob Try.prog.godebug = none := by kernel_rfl
theorem laidOut : laidOutB Try.prog = true := by kernel_rfl
set_option maxRecDepth 100000 in
theorem lifted (os : Os) (started : os.Started) (H : Type) (enc : TypeId × Value → H) :
    ReturnsInHanded {} Try.checked os 5 .any (Rows.bounceHeightsSpec.pre6 enc Try.prog Try.f5 Rows.bounceHeightsRow.domain false) (Rows.bounceHeightsSpec.post enc Try.prog Try.f5 false true false false) := by
  refine returnsInHanded_of_change_sized (C := Try.checked) own started (by kernel_rfl) Try.func5
    (ChangeSpec.witness6 (enc := enc) (C := Try.checked) false ⟨#[], #[.slice none 0 0, .int .i64 0, .int .i64 0], []⟩ 8 (by kernel_rfl) (by kernel_rfl) (by kernel_rfl) (by kernel_rfl)) ?_
  intro W base args ds gs before hval0 hW hcnd hsz0 _
  have hsz : (DataW.weightsEach Try.prog (Try.f5.params.toList ++ Rows.bounceHeightsSpec.plain.varTypes Try.prog) (ds ++ gs)).all (· ≤ reachBytes) = true := hsz0
  have hval : ∀ (j : Nat) t v, Try.f5.params[j]? = some t → args[j]? = some v → Value.okWide Try.prog W .any base t v := hval0
  have hW' := hW
  obtain ⟨p, q, hA0, hV, rfl, hfz, hnd⟩ := hW
  have hA : DataW.TrodAll enc Try.prog W 0 (fun _ => true) true Try.f5.params.toList args.toList ds p := hA0
  rw [Try.params5] at hA hval hsz
  obtain ⟨v0, vs0, d0, ds0, p0, q0, hargs, rfl, rfl, h0, r0⟩ := trodAll_cons hA
  obtain ⟨v1, vs1, d1, ds1, p1, q1, rfl, rfl, rfl, h1, r1⟩ := trodAll_cons r0
  obtain ⟨v2, vs2, d2, ds2, p2, q2, rfl, rfl, rfl, h2, r2⟩ := trodAll_cons r1
  obtain ⟨rfl, rfl, rfl⟩ := trodAll_nil r2
  obtain rfl : args = #[v0, v1, v2] := by cases args; simp_all
  obtain ⟨rfl, rfl⟩ := trodVars_none hV
  obtain ⟨a0, len0, cap0, rfl⟩ := okWide_slice Try.underlying22 (hval 0 22 v0 rfl rfl)
  have k0 := h0
  have lt0 : ∀ x ∈ p0, x.block < W.heap.size := by obtain ⟨m, hm⟩ := k0; exact DataW.trod_lt m _ _ _ hm
  obtain ⟨z0, w0, y0⟩ : ∃ zs, ((a0 = none ∧ len0 = 0 ∧ cap0 = 0 ∧ zs = []) ∨ ∃ x, a0 = some x ∧ len0 ≤ cap0 ∧ cap0 ≤ maxLen ∧ zs.length = cap0 ∧ (∀ i, i < zs.length → W.cell? (x.add i) = some (.int .i64 (zs.getD i 0))) ∧ ∀ n ∈ zs, (Lit.int .i64 n).wf = true) ∧ len0 * 8 ≤ 140737488351232 := by
    obtain ⟨fuel, hf⟩ := h0
    rcases open_ints Try.underlying22 Try.underlying3 (by kernel_rfl) hf with ⟨hcs, _⟩ | ⟨x, l, c, zs, hcs, _, hl, hm, hz, hx, hcell, hwz⟩
    · simp [Value.cells] at hcs
      obtain ⟨rfl, rfl, rfl⟩ := hcs
      exact ⟨[], .inl ⟨rfl, rfl, rfl, rfl⟩, by simp⟩
    · simp [Value.cells] at hcs
      obtain ⟨rfl, rfl, rfl⟩ := hcs
      refine ⟨zs, .inr ⟨_, rfl, hl, hm, by simpa using hz, hcell, hwz⟩, ?_⟩
      simp only [Prod.mk.injEq] at hx
      have hd := hx.1
      have z := sized_slice hsz (j := 0) (t := 22) rfl (by rw [hd]; rfl) Try.underlying22
      have hb : Try.prog.bytesOf 3 = 8 := by kernel_rfl
      rw [hb] at z
      have hr : reachBytes ≤ 140737488351232 := by decide
      have hz' : zs.length = cap0 := by simpa using hz
      simp only [lits, List.length_map, List.length_take, List.length_drop] at z
      omega
  obtain ⟨e0, l0, hd0, hrep0, hlen0, hwf0⟩ := arg_row w0
  obtain ⟨a1, rfl, rfl, rfl, w1⟩ := open_int Try.underlying3 (hval 1 3 v1 rfl rfl) h1
  obtain ⟨a2, rfl, rfl, rfl, w2⟩ := open_int Try.underlying3 (hval 2 3 v2 rfl rfl) h2
  clear hA0 hval0 hsz0 hsz
  refine (law_walk env17 (f := 5) (ds := [e0, (iv a1), (iv a2)]) (vs := [.slice a0 len0 cap0, .int .i64 a1, .int .i64 a2]) (w := W) (RepL.cons _ _ _ _ hrep0 (RepL.cons _ _ _ _ (RepD.v _) (RepL.cons _ _ _ _ (RepD.v _) RepL.nil))) (Pure.BounceHeights e0 l0 hd0 hwf0 (by rw [hlen0]; exact y0) a1 w1 a2 w2)).mono fun e W' ⟨he, bel⟩ => ?_
  subst he
  exact ⟨_, rfl, _, _, _, [], _, [], hW', trodAll_mk1 (shut_bool Try.underlying4 _), (trodAll_cons_mk (Below.trod laidOut (by kernel_rfl) (of_decide_eq_true (by kernel_rfl)) k0 bel lt0) (trodAll_cons_mk (shut_int Try.underlying3 w1) (trodAll_cons_mk (shut_int Try.underlying3 w2) trodAll_mk0))), rfl, bel.frame _, fun h => by cases h⟩
theorem over : Rows.bounceHeightsRow.holds Try.pinned (OpenSpec.ofChange Rows.bounceHeightsSpec) :=
  OpenClaim.holds_of_wide 5 Try.f5 rfl rfl rfl rfl rfl rfl rfl ⟨rfl, rfl, rfl, rfl, rfl⟩ rfl rfl rfl rfl rfl (by kernel_rfl) Try.func5 (by kernel_rfl)
    (of_decide_eq_true (by kernel_rfl)) (by unfold Func.isWrapper; first | (rw [if_pos (by decide +kernel)]; kernel_rfl) | (rw [if_neg (by decide +kernel)]; exact ⟨rfl, rfl⟩))
    (fun os started H enc _ => lifted os started H enc)
theorem proved : Rows.BounceHeightsSaid := over
end Go.Proofs.Ytgakeohkfgdcfaa.bounceHeights
namespace Go.Proofs.Ytgakeohkfgdcfaa
theorem bounceHeights_holds : Rows.BounceHeightsSaid := bounceHeights.proved
end Go.Proofs.Ytgakeohkfgdcfaa


