/- Part 11 of the proof: a small machine, its soundness against the model, and what the program's functions compute on it. -/
import Derived.Test.YthhdbchmjfdgmaaGreatM10
import Derived.Test.YthhdbchmjfdgmaaGreatRows
import Derived.Test.YthhdbchmjfdgmaaGreatM6
import Derived.WalkKit
import Derived.ProofKit
import Derived.OpenShut
import Derived.ShutString
import Derived.ChangeOld
import Derived.Below
import Derived.SizedLaws
set_option linter.unusedVariables false
set_option linter.unusedSimpArgs false
namespace Go.AM
open Go Go.RowKit Go.Proofs

def pc_st (a : Rat) (L : D) (i : Int) : St := mkS [(9, .ptr [9] 0), (10, .d L), (11, ai i)] [([9], boxR a)]
theorem pc_go {a : Rat} {L du dv : D} {u v : List Rat} {rest : List D} {i : Nat} (hi : i < 5) (hx : ∀ hp, ixaA hp 1 (i : Int) (.d L) = some (.d (.rp rest))) (hy : ∀ hp, loadA hp none (.d (.rp rest)) = some (.d (.row 2 [du, dv]))) (hL : lenA (.d L) = some 5)
    (hu : RwR du u) (Hu : HL 10 16 u) (nu : u.length ≤ 10) (hv : RwR dv v) (Hv : HL 20 26 v) (nv : v.length ≤ 10) (Ha : H1 1 1 a) : X G gantrylaw06_PolyComputes_l0 (pc_st a L i) = some (.n, pc_st a L ((i + 1 : Nat) : Int)) := by
  have n5 : ((5 : Nat) : Int) = 5 := rfl
  have e1 : decide ((i : Int) < 5) = true := lt_t (by omega)
  have e3 : w64 ((i : Int) + 1) = ((i + 1 : Nat) : Int) := by rw [w64_id (by omega) (by omega)]; rfl
  have f0 : ∀ h : Hp, ixaA h 1 0 (.d (.row 2 [du, dv])) = some (.d (.rp [du, dv])) := fun h => rfl
  have f1 : ∀ h : Hp, ixaA h 1 1 (.d (.row 2 [du, dv])) = some (.d (.rp [dv])) := fun h => rfl
  have l0 : ∀ h : Hp, loadA h none (.d (.rp [du, dv])) = some (.d du) := fun h => rfl
  have l1 : ∀ h : Hp, loadA h none (.d (.rp [dv])) = some (.d dv) := fun h => rfl
  have su := Hu.szK (by omega) (by omega)
  have sv := Hv.szK (by omega) (by omega)
  have sa := Ha.sz
  have hBB : BB = 1000000000 := rfl
  obtain ⟨d1, t1, g1⟩ := addP hu hv su sv (by omega) (by omega)
  obtain ⟨d2, t2, g2⟩ := r6Add_spec hu hv su sv (by omega) (by omega) (by omega) (by omega)
  have n1 := len_ad u v
  have s1 := s6_refl t1 t2 ((Hu.ad Hv).szB (by omega) (by omega)) (by omega)
  obtain ⟨d3, t3, g3⟩ := subP hu hv su sv (by omega) (by omega)
  obtain ⟨d4, t4, g4⟩ := r6Sub_spec hu hv su sv (by omega) (by omega) (by omega) (by omega)
  have n3 := len_sb u v
  have s2 := s6_refl t3 t4 ((Hu.sb Hv).szB (by omega) (by omega)) (by omega)
  obtain ⟨d5, t5, g5⟩ := mulP hu hv su sv (by omega) (by omega)
  obtain ⟨d6, t6, g6⟩ := r6Mul_spec hu hv Hu Hv (by omega) (by omega) (by omega) (by omega)
  have n5' := len_mu u v
  have s3 := s6_refl t5 t6 ((Hu.mu Hv (by omega)).szB (by omega) (by omega)) (by omega)
  obtain ⟨d7, t7, g7⟩ := Scale_spec_P (a := a) hu su (by omega) (by omega) (by omega) (by omega)
  obtain ⟨d8, t8, g8⟩ := r6Scale_spec (a := a) hu su (by omega) (by omega) (by omega) (by omega)
  have n7 := len_sc u a
  have s4 := s6_refl t7 t8 ((Hu.sc Ha).szB (by omega) (by omega)) (by omega)
  obtain ⟨g9, z9⟩ := evalP hu su (by omega) (x := a) (by omega)
  have g10 := r6Eval_spec (x := a) hu su (by omega) (by omega) (by omega) (by omega)
  have s5 := s5_refl (a := evR u a) (by omega)
  obtain ⟨d11, t11, g11⟩ := Derive_spec_P hu su (by omega) (by omega) (by omega)
  obtain ⟨d12, t12, g12⟩ := r6Derive_spec hu su (by omega) (by omega) (by omega)
  have n11 := len_de u
  have s6 := s6_refl t11 t12 ((Hu.de (by omega)).szB (by omega) (by omega)) (by omega)
  obtain ⟨S1, S2⟩ := shift_sz (n := 10) Hu Ha nu
  obtain ⟨d13, t13, g13⟩ := Shift_spec_P (a := a) hu (by omega) (K := 10000) (by omega) (by omega) (fun i j hi hj => (S1 i j hi hj).mono (by omega))
  obtain ⟨d14, t14, g14⟩ := r6Shift_spec (a := a) hu Hu nu Ha
  have n13 := len_sh u a
  have s7 := s6_refl t13 t14 (S2.szB (by omega) (by omega)) (by omega)
  clear S1 S2 Hu Hv Ha su sv sa hBB n1 n3 n5' n7 z9 n11 n13 t1 t2 t3 t4 t5 t6 t7 t8 t11 t12 t13 t14 hu hv nu nv
  generalize evR u a = x at *
  simp only [encR, iv, bv] at g7 g8 g9 g10 g13 g14 s1 s2 s3 s4 s5 s6 s7
  simp -implicitDefEqProofs (maxSteps := 10000000) only [gantrylaw06_PolyComputes_l0, pc_st, boxR, hx, hy, hL, n5, f0, f1, l0, l1, e1, e3, g1, g2, s1, g3, g4, s2, g5, g6, s3, g7, g8, s4, g9, g10, s5, g11, g12, s6, g13, g14, s7, go_sem, stcells, ldcells, iv, bv, reduceCtorEq, ↓reduceIte, Nat.reduceEqDiff]
theorem pc_stop {a : Rat} {L : D} (hL : lenA (.d L) = some 5) : X G gantrylaw06_PolyComputes_l0 (pc_st a L ((5 : Nat) : Int)) = some (.x 0, mkS [] []) := by
  have n5 : ((5 : Nat) : Int) = 5 := rfl
  have e1 : decide ((5 : Int) < 5) = false := rfl
  simp -implicitDefEqProofs (maxSteps := 10000000) only [gantrylaw06_PolyComputes_l0, pc_st, boxR, hL, n5, e1, go_sem, stcells, ldcells, iv, bv, reduceCtorEq, ↓reduceIte, Nat.reduceEqDiff]
theorem rep2z (a : D) : rep 2 [a] = [a, a] := rfl
theorem rep5z (a : D) : rep 5 [a] = [a, a, a, a, a] := rfl
theorem rowR_one (l : List Rat) : D.one (rowR l) = true := rfl
end Go.AM
namespace Go.Proofs.YthhdbchmjfdgmaaGreat.Pure
open Go Go.AM
theorem PolyComputes (e0 : D) (l0 : List Int) (hd0 : Dg e0 l0) (hwf0 : ∀ n ∈ l0, (Lit.int .i64 n).wf = true) (hlen0 : l0.length * 8 ≤ 140737488351232) (e1 : D) (l1 : List Int) (hd1 : Dg e1 l1) (hwf1 : ∀ n ∈ l1, (Lit.int .i64 n).wf = true) (hlen1 : l1.length * 8 ≤ 140737488351232) (a2 : Int) (w2 : (Lit.int .i64 a2).wf = true) : callX G 4 [e0, e1, iv a2] = some (.d (bv true)) := by
  obtain ⟨dp, p, hp, tp, Hp, np, gp⟩ := Poly_spec (rw_dg hd0) (fun n hn => i64_wf (hwf0 n hn))
  obtain ⟨dq, q, hq, tq, Hq, nq, gq⟩ := Poly_spec (rw_dg hd1) (fun n hn => i64_wf (hwf1 n hn))
  have ga := Small_spec (i64_wf w2)
  have Ha := smR_H a2
  generalize smR a2 = a at *
  have o := rratOf_spec (n := -1) (d := 1) ⟨by omega, by omega⟩ ⟨by omega, by omega⟩
  rw [divInt_one] at o
  have sp := Hp.szK (by omega) (by omega)
  have so := sz_int (n := -1) ⟨by omega, by omega⟩
  obtain ⟨ds, hs, gs⟩ := r6Scale_spec (a := (((-1 : Int) : Int) : Rat)) hp sp (by omega) (by omega) (by omega) (by omega)
  have Hs := Hp.sc neg1_H
  have ns := len_sc p (((-1 : Int) : Int) : Rat)
  have Hn : HL 10 16 [] := HL.nil _ _
  obtain ⟨L, hLd⟩ : ∃ L, D.row 5 [.row 2 [dp, dq], .row 2 [dq, dp], .row 2 [dp, .z true], .row 2 [.z true, dq], .row 2 [dp, ds]] = L := ⟨_, rfl⟩
  have hL5 : lenA (.d L) = some 5 := by rw [← hLd]; rfl
  have s0 := pc_go (a := a) (L := L) (i := 0) (by omega) (fun hp => by rw [← hLd]; rfl) (fun hp => rfl) hL5 hp Hp np hq (Hq.mono (by omega) (by omega)) nq Ha
  have s1 := pc_go (a := a) (L := L) (i := 1) (by omega) (fun hp => by rw [← hLd]; rfl) (fun hp => rfl) hL5 hq Hq nq hp (Hp.mono (by omega) (by omega)) np Ha
  have s2 := pc_go (a := a) (L := L) (i := 2) (by omega) (fun hp => by rw [← hLd]; rfl) (fun hp => rfl) hL5 hp Hp np RwR.nil (Hn.mono (by omega) (by omega)) (by simp) Ha
  have s3 := pc_go (a := a) (L := L) (i := 3) (by omega) (fun hp => by rw [← hLd]; rfl) (fun hp => rfl) hL5 RwR.nil Hn (by simp) hq (Hq.mono (by omega) (by omega)) nq Ha
  have s4 := pc_go (a := a) (L := L) (i := 4) (by omega) (fun hp => by rw [← hLd]; rfl) (fun hp => rfl) hL5 hp Hp np hs (Hs.mono (by omega) (by omega)) (by omega) Ha
  have hl : X G (.loop gantrylaw06_PolyComputes_l0) (pc_st a L ((0 : Nat) : Int)) = some (.x 0, mkS [] []) := by
    rw [X_loop, s0, Option.bind_some, if_pos rfl, X_loop, s1, Option.bind_some, if_pos rfl, X_loop, s2, Option.bind_some, if_pos rfl, X_loop, s3, Option.bind_some, if_pos rfl, X_loop, s4, Option.bind_some, if_pos rfl, X_loop, pc_stop hL5]
    rfl
  have k10 := lives_spec
  have z0 : ((0 : Nat) : Int) = 0 := rfl
  rw [z0, ← hLd] at hl
  have c1 : dcells (.d dp) = some [dp] := by rcases hp with ⟨rfl, _⟩ | rfl <;> rfl
  have c2 : dcells (.d dq) = some [dq] := by rcases hq with ⟨rfl, _⟩ | rfl <;> rfl
  have c3 : dcells (.d ds) = some [ds] := by rcases hs with ⟨rfl, _⟩ | rfl <;> rfl
  rw [callX_eq (cf := gantrylaw06_PolyComputes) rfl]
  clear s0 s1 s2 s3 s4 hLd hL5 Hp Hq Hs Hn Ha sp so ns
  generalize (((-1 : Int) : Int) : Rat) = r at *
  simp only [encR, iv, bv] at gp gq ga o gs k10
  simp only [pc_st, boxR, go_sem] at hl
  simp -implicitDefEqProofs (maxSteps := 10000000) only [gantrylaw06_PolyComputes, gp, gq, ga, o, gs, hl, c1, c2, c3, rep2z, rep5z, k10, go_sem, stcells, ldcells, iv, bv, reduceCtorEq, ↓reduceIte, Nat.reduceEqDiff]
end Go.Proofs.YthhdbchmjfdgmaaGreat.Pure

/- The row of PolyComputes, out of its Pure. Printed by row.py. -/
namespace Go.Proofs.YthhdbchmjfdgmaaGreat.polyComputes
open Go.ChangeShapes Go.WideShapes Go.ChangeAt Go.RowKit Go.AM
theorem own : ownKnob Tryz.prog.godebug = none := by kernel_rfl
theorem laidOut : laidOutB Tryz.prog = true := by kernel_rfl
set_option maxRecDepth 100000 in
theorem lifted (os : Os) (started : os.Started) (H : Type) (enc : TypeId × Value → H) :
    ReturnsInHanded {} Tryz.checked os 4 .any (Rows.polyComputesSpec.pre6 enc Tryz.prog Tryz.f4 Rows.polyComputesRow.domain false) (Rows.polyComputesSpec.post enc Tryz.prog Tryz.f4 false true false false) := by
  refine returnsInHanded_of_change_sized (C := Tryz.checked) own started (by kernel_rfl) Tryz.func4
    (ChangeSpec.witness6 (enc := enc) (C := Tryz.checked) false ⟨#[], #[.slice none 0 0, .slice none 0 0, .int .i64 0], []⟩ 8 (by kernel_rfl) (by kernel_rfl) (by kernel_rfl) (by kernel_rfl)) ?_
  intro W base args ds gs before hval0 hW hcnd hsz0 _
  have hsz : (DataW.weightsEach Tryz.prog (Tryz.f4.params.toList ++ Rows.polyComputesSpec.plain.varTypes Tryz.prog) (ds ++ gs)).all (· ≤ reachBytes) = true := hsz0
  have hval : ∀ (j : Nat) t v, Tryz.f4.params[j]? = some t → args[j]? = some v → Value.okWide Tryz.prog W .any base t v := hval0
  have hW' := hW
  obtain ⟨p, q, hA0, hV, rfl, hfz, hnd⟩ := hW
  have hA : DataW.TrodAll enc Tryz.prog W 0 (fun _ => true) true Tryz.f4.params.toList args.toList ds p := hA0
  rw [Tryz.params4] at hA hval hsz
  obtain ⟨v0, vs0, d0, ds0, p0, q0, hargs, rfl, rfl, h0, r0⟩ := trodAll_cons hA
  obtain ⟨v1, vs1, d1, ds1, p1, q1, rfl, rfl, rfl, h1, r1⟩ := trodAll_cons r0
  obtain ⟨v2, vs2, d2, ds2, p2, q2, rfl, rfl, rfl, h2, r2⟩ := trodAll_cons r1
  obtain ⟨rfl, rfl, rfl⟩ := trodAll_nil r2
  obtain rfl : args = #[v0, v1, v2] := by cases args; simp_all
  obtain ⟨rfl, rfl⟩ := trodVars_none hV
  obtain ⟨a0, len0, cap0, rfl⟩ := okWide_slice Tryz.underlying22 (hval 0 22 v0 rfl rfl)
  have k0 := h0
  have lt0 : ∀ x ∈ p0, x.block < W.heap.size := by obtain ⟨m, hm⟩ := k0; exact DataW.trod_lt m _ _ _ hm
  obtain ⟨z0, w0, y0⟩ : ∃ zs, ((a0 = none ∧ len0 = 0 ∧ cap0 = 0 ∧ zs = []) ∨ ∃ x, a0 = some x ∧ len0 ≤ cap0 ∧ cap0 ≤ maxLen ∧ zs.length = cap0 ∧ (∀ i, i < zs.length → W.cell? (x.add i) = some (.int .i64 (zs.getD i 0))) ∧ ∀ n ∈ zs, (Lit.int .i64 n).wf = true) ∧ len0 * 8 ≤ 140737488351232 := by
    obtain ⟨fuel, hf⟩ := h0
    rcases open_ints Tryz.underlying22 Tryz.underlying3 (by kernel_rfl) hf with ⟨hcs, _⟩ | ⟨x, l, c, zs, hcs, _, hl, hm, hz, hx, hcell, hwz⟩
    · simp [Value.cells] at hcs
      obtain ⟨rfl, rfl, rfl⟩ := hcs
      exact ⟨[], .inl ⟨rfl, rfl, rfl, rfl⟩, by simp⟩
    · simp [Value.cells] at hcs
      obtain ⟨rfl, rfl, rfl⟩ := hcs
      refine ⟨zs, .inr ⟨_, rfl, hl, hm, by simpa using hz, hcell, hwz⟩, ?_⟩
      simp only [Prod.mk.injEq] at hx
      have hd := hx.1
      have z := sized_slice hsz (j := 0) (t := 22) rfl (by rw [hd]; rfl) Tryz.underlying22
      have hb : Tryz.prog.bytesOf 3 = 8 := by kernel_rfl
      rw [hb] at z
      have hr : reachBytes ≤ 140737488351232 := by decide
      have hz' : zs.length = cap0 := by simpa using hz
      simp only [lits, List.length_map, List.length_take, List.length_drop] at z
      omega
  obtain ⟨e0, l0, hd0, hrep0, hlen0, hwf0⟩ := arg_row w0
  obtain ⟨a1, len1, cap1, rfl⟩ := okWide_slice Tryz.underlying22 (hval 1 22 v1 rfl rfl)
  have k1 := h1
  have lt1 : ∀ x ∈ p1, x.block < W.heap.size := by obtain ⟨m, hm⟩ := k1; exact DataW.trod_lt m _ _ _ hm
  obtain ⟨z1, w1, y1⟩ : ∃ zs, ((a1 = none ∧ len1 = 0 ∧ cap1 = 0 ∧ zs = []) ∨ ∃ x, a1 = some x ∧ len1 ≤ cap1 ∧ cap1 ≤ maxLen ∧ zs.length = cap1 ∧ (∀ i, i < zs.length → W.cell? (x.add i) = some (.int .i64 (zs.getD i 0))) ∧ ∀ n ∈ zs, (Lit.int .i64 n).wf = true) ∧ len1 * 8 ≤ 140737488351232 := by
    obtain ⟨fuel, hf⟩ := h1
    rcases open_ints Tryz.underlying22 Tryz.underlying3 (by kernel_rfl) hf with ⟨hcs, _⟩ | ⟨x, l, c, zs, hcs, _, hl, hm, hz, hx, hcell, hwz⟩
    · simp [Value.cells] at hcs
      obtain ⟨rfl, rfl, rfl⟩ := hcs
      exact ⟨[], .inl ⟨rfl, rfl, rfl, rfl⟩, by simp⟩
    · simp [Value.cells] at hcs
      obtain ⟨rfl, rfl, rfl⟩ := hcs
      refine ⟨zs, .inr ⟨_, rfl, hl, hm, by simpa using hz, hcell, hwz⟩, ?_⟩
      simp only [Prod.mk.injEq] at hx
      have hd := hx.1
      have z := sized_slice hsz (j := 1) (t := 22) rfl (by rw [hd]; rfl) Tryz.underlying22
      have hb : Tryz.prog.bytesOf 3 = 8 := by kernel_rfl
      rw [hb] at z
      have hr : reachBytes ≤ 140737488351232 := by decide
      have hz' : zs.length = cap1 := by simpa using hz
      simp only [lits, List.length_map, List.length_take, List.length_drop] at z
      omega
  obtain ⟨e1, l1, hd1, hrep1, hlen1, hwf1⟩ := arg_row w1
  obtain ⟨a2, rfl, rfl, rfl, w2⟩ := open_int Tryz.underlying3 (hval 2 3 v2 rfl rfl) h2
  clear hA0 hval0 hsz0 hsz
  refine (law_walk envP (f := 4) (ds := [e0, e1, (iv a2)]) (vs := [.slice a0 len0 cap0, .slice a1 len1 cap1, .int .i64 a2]) (w := W) (RepL.cons _ _ _ _ hrep0 (RepL.cons _ _ _ _ hrep1 (RepL.cons _ _ _ _ (RepD.v _) RepL.nil))) (Pure.PolyComputes e0 l0 hd0 hwf0 (by rw [hlen0]; exact y0) e1 l1 hd1 hwf1 (by rw [hlen1]; exact y1) a2 w2)).mono fun e W' ⟨he, bel⟩ => ?_
  subst he
  exact ⟨_, rfl, _, _, _, [], _, [], hW', trodAll_mk1 (shut_bool Tryz.underlying4 _), (trodAll_cons_mk (Below.trod laidOut (by kernel_rfl) (of_decide_eq_true (by kernel_rfl)) k0 bel lt0) (trodAll_cons_mk (Below.trod laidOut (by kernel_rfl) (of_decide_eq_true (by kernel_rfl)) k1 bel lt1) (trodAll_cons_mk (shut_int Tryz.underlying3 w2) trodAll_mk0))), rfl, bel.frame _, fun h => by cases h⟩
theorem over : Rows.polyComputesRow.holds Tryz.pinned (OpenSpec.ofChange Rows.polyComputesSpec) :=
  OpenClaim.holds_of_wide 4 Tryz.f4 rfl rfl rfl rfl rfl rfl rfl ⟨rfl, rfl, rfl, rfl, rfl⟩ rfl rfl rfl rfl rfl (by kernel_rfl) Tryz.func4 (by kernel_rfl)
    (of_decide_eq_true (by kernel_rfl)) (by unfold Func.isWrapper; first | (rw [if_pos (by decide +kernel)]; kernel_rfl) | (rw [if_neg (by decide +kernel)]; exact ⟨rfl, rfl⟩))
    (fun os started H enc _ => lifted os started H enc)
theorem proved : Rows.PolyComputesSaid := over
end Go.Proofs.YthhdbchmjfdgmaaGreat.polyComputes
namespace Go.Proofs.YthhdbchmjfdgmaaGreat
theorem polyComputes_holds : Rows.PolyComputesSaid := polyComputes.proved
end Go.Proofs.YthhdbchmjfdgmaaGreat


