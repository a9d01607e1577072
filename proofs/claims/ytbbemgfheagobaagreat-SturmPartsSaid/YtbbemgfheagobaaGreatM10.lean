/- Part 10 of the proof: a small machine, its soundness against the model, and what the program's functions compute on it. -/
import Derived.Test.YtbbemgfheagobaaGreatM9
import Derived.Test.YtbbemgfheagobaaGreatM8
import Derived.Test.YtbbemgfheagobaaGreatM7
import Derived.Test.YtbbemgfheagobaaGreatRows
import Derived.Test.YtbbemgfheagobaaGreatM4
import Derived.WalkKit
import Derived.ProofKit
import Derived.OpenShut
import Derived.ShutString
import Derived.ChangeOld
import Derived.Below
import Derived.SizedLaws
set_option linter.unusedVariables false
set_option linter.unusedSimpArgs false
/- ref07.Made: one round, the loop, the function. -/
namespace Go.AM
open Go Go.RowKit
noncomputable def mdR (s : List Rat × List Rat) (z : Rat) : List Rat × List Rat := (muP s.1 (QaS [-z, 1]), insZ s.2 z)
theorem QiK (l : List D) (a b c e : D) : allD (l.map A.d ++ [.d a, .d b, .d c, .d e]) = some (l ++ [a, b, c, e]) := by
 have h : l.map A.d ++ [.d a, .d b, .d c, .d e] = (l ++ [a, b, c, e]).map A.d := by simp
 rw [h, Qd6]
theorem QoO (ks : List Key) (l : List D) (a b c e : D) : Qc7 ks (l.map A.d ++ [.d a, .d b, .d c, .d e]) = true := by
 have h : l.map A.d ++ [.d a, .d b, .d c, .d e] = (l ++ [a, b, c, e]).map A.d := by simp
 rw [h, QfP]
theorem len_app4 (l : List D) (a b c e : A) (k : Nat) (h : l.length = k * 4) : ((l.map A.d ++ [a, b, c, e]).length = (k + 1) * 4) = True := eq_true (by rw [List.length_append, List.length_map, h]; simp only [List.length_cons, List.length_nil]; omega)
theorem ins_row (A B : List Rat) (z : Rat) (n : Nat) (h : n = A.length + 1 + B.length) : RwR (.row n (cRs A ++ [.v (.bool (decide (z.num < 0))), dg (digs z.num.natAbs), .v (.bool false), dg (dd z.den)] ++ cRs B)) (A ++ z :: B) := by
 right
 have e : A ++ z :: B = A ++ [z] ++ B := by simp
 rw [e, rowR, QhX, QhX, h]
 congr 1
 simp only [List.length_append, List.length_cons, List.length_nil]
variable [Its]
section
variable {d dp dz : D} {w : Int} {zs l : List Rat} {p : List Rat} {z : Rat}
theorem md_round {lI : List Int} (hr : Rw d lI) (hz : RwR dz zs) (nz : zs.length ≤ 1000) (sz1 : SzL 1000 zs) {i : Nat} (hi : i < lI.length) (hi4 : i < 4) (hx : I64 (lI.getD i 0)) (e : smR (lI.getD i 0) = z) (hp : RwR dp p) (Hp : HL 100 100 p) (np : p.length ≤ 100) :
    ∃ d' dz', RwR d' (muP p (QaS [-z, 1])) ∧ RwR dz' (insZ zs z) ∧ X G Qaw (mdo d w dp dz i) = some (.n, mdo d w d' dz' ((i + 1 : Nat) : Int)) := by
  have Hz : H1 1 1 z := by rw [← e]; exact Qn4 _
  have hs : sz z ≤ 2 := Hz.sz
  have F2 : HL 1 1 [-z, 1] := (HL.cons Hz.neg (HL.one H1.one)).mono (by omega) (by omega)
  obtain ⟨d1, r1, g1⟩ := QdC (RwR.row [-z, 1]) (by simp only [List.length_cons, List.length_nil]; omega) (F2.sz.mono (by omega))
  have n1 : (QaS [-z, 1]).length ≤ 2 := Qcs _
  obtain ⟨d', r2, g2⟩ := QhU hp r1 Hp F2.trim (by omega) (by omega) (by omega) (by omega)
  have g3 := Qj1 (a := z) (by omega)
  have o := QpJ
  have gS := Qe5 hx
  rw [e] at gS
  have e1 : decide ((i : Int) < (lI.length : Int)) = true := lt_t (by omega)
  have e2 : decide ((i : Int) < 4) = true := lt_t (by omega)
  have e3 : w64 ((i : Int) + 1) = ((i + 1 : Nat) : Int) := by rw [Qaf (by omega) (by omega)]; rfl
  have lI' := hr.len
  have y1 := hr.ixn hi
  have y2 := fun h => ldv h lI hi
  have g0 := mk_loop (d := d) (w := w) (dp := d') hz nz sz1 (z := z) (by omega) (i := i) zs.length 0 (by omega)
  rw [List.drop_zero, Nat.zero_add] at g0
  have ll := hz.len
  obtain ⟨m, hm⟩ : ∃ m : Int, (zs.length : Int) - 1 = m := ⟨_, rfl⟩
  have e5 : w64 ((zs.length : Int) - 1) = m := by rw [Qaf (by omega) (by omega), hm]
  have z0 : ((0 : Nat) : Int) = 0 := rfl
  rw [z0] at g0
  have kle := kZ_le zs z
  have s1 := sz1.getD (by omega) (kZ zs z)
  have gC := Qg9 (a := zs.getD (kZ zs z) 0) (b := z) (by omega) (by omega)
  have tt := cmpR_eq (a := zs.getD (kZ zs z) 0) (b := z)
  have hx1 : kZ zs z < zs.length → ∀ h, ixaA h 4 ((kZ zs z : Nat) : Int) (.d dz) = some (.d (.rp (cRs (zs.drop (kZ zs z))))) := fun hk => hz.ixa hk
  have hx2 : kZ zs z < zs.length → ∀ h, Qci h (some 4) (.d (.rp (cRs (zs.drop (kZ zs z))))) = some (.d (encR (zs.getD (kZ zs z) 0))) := fun hk h => ldR h zs hk
  have hA : (zs.take (kZ zs z)).length = kZ zs z := by rw [List.length_take]; omega
  have hB : (zs.drop (kZ zs z)).length = zs.length - kZ zs z := List.length_drop
  have T1 : (cRs zs).take (kZ zs z * 4) = cRs (zs.take (kZ zs z)) := QiN _ _
  have T2 : ((cRs zs).drop (kZ zs z * 4)).take ((zs.length - kZ zs z) * 4) = cRs (zs.drop (kZ zs z)) := by
    rw [Qi5, ← hB, ← QcX]; exact List.take_length
  unfold insZ
  refine ⟨d', ?_⟩
  have q1 := QlV (digs z.num.natAbs)
  have q2 := QlV (dd z.den)
  have b4 : (4 = 1 * 4) = True := eq_true rfl
  have b64 : (1 * 64 ≤ bound) = True := eq_true (by unfold bound; omega)
  have b0 : (0 ≤ bound) = True := eq_true (by omega)
  generalize kZ zs z = k at *
  generalize zs.getD k 0 = u at *
  generalize cmpR u z = c at *
  generalize lI.getD i 0 = x at *
  clear Hz F2 Hp e hp sz1 s1
  simp only [rowR, cRs, List.length_cons, List.length_nil, Nat.reduceAdd] at g1
  have e6 : decide ((k : Int) < (zs.length : Int)) = decide (k < zs.length) := by simp
  by_cases hk : k < zs.length ∧ u = z
  · rw [if_pos hk]
    refine ⟨dz, r2, hz, ?_⟩
    have x1 := hx1 hk.1
    have x2 := hx2 hk.1
    have t1 : (c == 0) = true := Qie (tt.2 hk.2)
    rw [decide_eq_true hk.1] at e6
    have e4 : (if m < (k : Int) then m else (k : Int)) = (k : Int) := if_neg (by omega)
    clear tt T1 T2 hA hB r1 r2 n1
    generalize -z = nz' at *
    generalize (1 : Rat) = one at *
    generalize cRs (zs.drop k) = cs at *
    simp only [encR, iv] at gC x2 g3 o gS
    simp only [kst, boxR, go_sem] at g0
    simp -implicitDefEqProofs (maxSteps:=9^8) only [Qaw, mdo, mnV, Qey, lI', y1, y2, ll, x1, x2, g0, g1, g2, g3, gS, gC, o, e1, e2, e3, e4, e5, e6, t1, QlM, st4q, ld4q, Qac, go_sem, iv, bv, reduceCtorEq, ↓reduceIte, Nat.reduceEqDiff]
  · rw [if_neg hk]
    have ir := ins_row (zs.take k) (zs.drop k) z
    have qqB := Qpz (zs.drop k)
    have lA := QcX (zs.take k)
    have lB := QcX (zs.drop k)
    rw [hA] at lA
    rw [hB] at lB
    have he4 : k < zs.length → (if m < (k : Int) then m else (k : Int)) = (k : Int) := fun h => if_neg (by omega)
    have ht1 : k < zs.length → (c == 0) = false := fun h => Qcy (fun h2 => hk ⟨h, tt.1 h2⟩)
    clear tt hk
    have hz2 : (dz = .z true ∧ zs = []) ∨ dz = .row zs.length (cRs zs) := hz
    clear hz
    rcases hz2 with ⟨hz2, hz3⟩ | hz2
    · subst hz2
      subst hz3
      have hk0 : k = 0 := by simpa using kle
      subst hk0
      simp only [List.length_nil] at e5 e6 ll
      refine ⟨_, r2, ir (1 + 0) rfl, ?_⟩
      clear r1 r2 n1 ir hx1 hx2 he4 ht1 T1 T2 hA hB lA lB qqB
      have e6 : decide ((0 : Int) < 0) = false := rfl
      generalize -z = nz' at *
      generalize (1 : Rat) = one at *
      simp only [encR, iv] at gC g3 o gS
      simp only [kst, boxR, z0, go_sem] at g0
      simp -implicitDefEqProofs (maxSteps:=9^8) only [Qaw, mdo, lI', y1, y2, ll, g0, g1, g2, g3, gS, o, e1, e2, e3, e6, b4, b64, b0, z0, q1, q2, Qia, decide_false, Bool.false_eq_true, if_false, List.take_nil, List.drop_nil, cRs, Qc7, List.all_nil, List.all_cons, Bool.and_self, List.append_nil, List.nil_append, Nat.zero_le, Int.le_refl, and_self, if_true, src, srcS, allD, Qbh, ne_eq, not_true, not_false_eq_true, Nat.le_refl, Nat.add_zero, Qel, Qcd, Qkk, QlM, st4q, ld4q, Qac, go_sem, iv, bv, reduceCtorEq, ↓reduceIte, Nat.reduceEqDiff]
    · subst hz2
      have c1 : ((0 : Int) ≤ (k : Int)) = True := eq_true (by omega)
      have c2 : ((k : Int) ≤ (zs.length : Int)) = True := eq_true (by omega)
      have c3 : (k * 64 ≤ bound) = True := eq_true (by unfold bound; omega)
      have c4 : ((cRs (zs.take k)).length = k * 4) = True := eq_true lA
      have c5 : ((cRs (zs.drop k)).length = (zs.length - k) * 4) = True := eq_true lB
      have c6 : ((k + 1 + (zs.length - k)) * 64 ≤ bound) = True := eq_true (by unfold bound; omega)
      have c7 : ((1 + (zs.length - k)) * 64 ≤ bound) = True := eq_true (by unfold bound; omega)
      have c8 : ((k + 1) * 64 ≤ bound) = True := eq_true (by unfold bound; omega)
      have c9 : ((cRs (zs.take k)).length + (0 + 1 + 1 + 1 + 1) = (k + 1) * 4) = True := eq_true (by rw [lA]; omega)
      have c10 : ((List.map A.d (cRs (zs.take k))).length = k * 4) = True := eq_true (by rw [List.length_map]; exact lA)
      have c11 := fun a b c e => len_app4 (cRs (zs.take k)) a b c e k lA
      have qqA := QbX [[77]] (zs.take k)
      by_cases hk0 : k = 0
      · subst hk0
        have hA0 : zs.take 0 = [] := rfl
        rw [hA0] at *
        refine ⟨_, r2, ir (1 + (zs.length - 0)) (by rw [hB]; rfl), ?_⟩
        by_cases hn : 0 < zs.length
        · have x1 := hx1 hn
          have x2 := hx2 hn
          have e4 := he4 hn
          have t1 := ht1 hn
          rw [decide_eq_true hn] at e6
          clear hx1 hx2 he4 ht1
          clear r1 r2 n1 ir hA hB lA lB
          generalize cRs (zs.drop 0) = cb at *
          generalize cRs zs = cz at *
          generalize zs.length = n at *
          generalize -z = nz' at *
          generalize (1 : Rat) = one at *
          simp only [z0, Nat.zero_mul, List.drop_zero, List.take_zero, Nat.sub_zero] at T1 T2 c1 c2 c3 c4 c5 c6 c7 c8 c9 e6 x1 x2 e4 t1 g0
          simp only [encR, iv] at gC x2 g3 o gS
          simp only [kst, boxR, go_sem] at g0
          simp -implicitDefEqProofs (maxSteps:=9^8) only [Qaw, mdo, mnV, Qey, lI', y1, y2, ll, x1, x2, gC, e4, t1, g0, g1, g2, g3, gS, o, e1, e2, e3, e5, e6, b4, b64, b0, z0, q1, q2, T2, c1, c2, c3, c4, c5, c6, c7, c8, c9, qqA, qqB, Qia, decide_false, Bool.false_eq_true, if_false, cRs, Qc7, List.all_nil, List.all_cons, Bool.and_self, List.append_nil, List.nil_append, Nat.zero_le, Int.le_refl, and_self, if_true, src, srcS, allD, QiK, Qbh, ne_eq, not_true, not_false_eq_true, Nat.le_refl, Nat.add_zero, Qel, Qcd, QfP, Qkk, QlM, st4q, ld4q, Qac, go_sem, iv, bv, reduceCtorEq, ↓reduceIte, Nat.reduceEqDiff]
        · rw [decide_eq_false hn] at e6
          clear hx1 hx2 he4 ht1
          clear r1 r2 n1 ir hA hB lA lB
          generalize cRs (zs.drop 0) = cb at *
          generalize cRs zs = cz at *
          generalize zs.length = n at *
          generalize -z = nz' at *
          generalize (1 : Rat) = one at *
          simp only [z0, Nat.zero_mul, List.drop_zero, List.take_zero, Nat.sub_zero] at T1 T2 c1 c2 c3 c4 c5 c6 c7 c8 c9 e6 g0
          simp only [encR, iv] at gC g3 o gS
          simp only [kst, boxR, go_sem] at g0
          simp -implicitDefEqProofs (maxSteps:=9^8) only [Qaw, mdo, mnV, Qey, lI', y1, y2, ll, g0, g1, g2, g3, gS, o, e1, e2, e3, e5, e6, b4, b64, b0, z0, q1, q2, T2, c1, c2, c3, c4, c5, c6, c7, c8, c9, qqA, qqB, Qia, decide_false, Bool.false_eq_true, if_false, cRs, Qc7, List.all_nil, List.all_cons, Bool.and_self, List.append_nil, List.nil_append, Nat.zero_le, Int.le_refl, and_self, if_true, src, srcS, allD, QiK, Qbh, ne_eq, not_true, not_false_eq_true, Nat.le_refl, Nat.add_zero, Qel, Qcd, QfP, Qkk, QlM, st4q, ld4q, Qac, go_sem, iv, bv, reduceCtorEq, ↓reduceIte, Nat.reduceEqDiff]
      · have hk1 : (k = 0) = False := eq_false hk0
        refine ⟨_, r2, ir (k + 1 + (zs.length - k)) (by rw [hA, hB]), ?_⟩
        by_cases hn : k < zs.length
        · have x1 := hx1 hn
          have x2 := hx2 hn
          have e4 := he4 hn
          have t1 := ht1 hn
          rw [decide_eq_true hn] at e6
          clear hx1 hx2 he4 ht1
          clear r1 r2 n1 ir hA hB lA lB
          generalize cRs (zs.drop k) = cb at *
          generalize cRs (zs.take k) = ca at *
          generalize cRs zs = cz at *
          generalize zs.length = n at *
          generalize -z = nz' at *
          generalize (1 : Rat) = one at *
          simp only [encR, iv] at gC x2 g3 o gS
          simp only [kst, boxR, go_sem] at g0
          simp -implicitDefEqProofs (maxSteps:=9^8) only [Qaw, mdo, mnV, Qey, lI', y1, y2, ll, x1, x2, gC, e4, t1, g0, g1, g2, g3, gS, o, e1, e2, e3, e5, e6, b4, b64, b0, z0, q1, q2, T1, T2, c1, c2, c3, c4, c5, c6, c7, c8, c9, c10, c11, qqA, hk1, QrW, QoO, qqB, Qia, decide_false, Bool.false_eq_true, if_false, cRs, Qc7, List.all_nil, List.all_cons, Bool.and_self, List.append_nil, List.nil_append, Nat.zero_le, Int.le_refl, and_self, if_true, src, srcS, allD, QiK, Qbh, ne_eq, not_true, not_false_eq_true, Nat.le_refl, Nat.add_zero, Qel, Qcd, QfP, Qkk, QlM, st4q, ld4q, Qac, go_sem, iv, bv, reduceCtorEq, ↓reduceIte, Nat.reduceEqDiff]
        · rw [decide_eq_false hn] at e6
          clear hx1 hx2 he4 ht1
          clear r1 r2 n1 ir hA hB lA lB
          generalize cRs (zs.drop k) = cb at *
          generalize cRs (zs.take k) = ca at *
          generalize cRs zs = cz at *
          generalize zs.length = n at *
          generalize -z = nz' at *
          generalize (1 : Rat) = one at *
          simp only [encR, iv] at gC g3 o gS
          simp only [kst, boxR, go_sem] at g0
          simp -implicitDefEqProofs (maxSteps:=9^8) only [Qaw, mdo, mnV, Qey, lI', y1, y2, ll, g0, g1, g2, g3, gS, o, e1, e2, e3, e5, e6, b4, b64, b0, z0, q1, q2, T1, T2, c1, c2, c3, c4, c5, c6, c7, c8, c9, c10, c11, qqA, hk1, QrW, QoO, qqB, Qia, decide_false, Bool.false_eq_true, if_false, cRs, Qc7, List.all_nil, List.all_cons, Bool.and_self, List.append_nil, List.nil_append, Nat.zero_le, Int.le_refl, and_self, if_true, src, srcS, allD, QiK, Qbh, ne_eq, not_true, not_false_eq_true, Nat.le_refl, Nat.add_zero, Qel, Qcd, QfP, Qkk, QlM, st4q, ld4q, Qac, go_sem, iv, bv, reduceCtorEq, ↓reduceIte, Nat.reduceEqDiff]
end
end Go.AM

/- ref07.Made. -/
namespace Go.AM
open Go Go.RowKit
noncomputable def mdF (L : List Int) (s : List Rat × List Rat) : List Rat × List Rat := (L.map smR).foldl mdR s
noncomputable def md0 : List Rat := QaS [Rat.divInt 2 3]
noncomputable def mdP (L : List Int) (w : Int) : List Rat := if w.tmod 2 ≠ 0 then muP (mdF (L.take 4) (md0, [])).1 (QaS [1, 0, 1]) else (mdF (L.take 4) (md0, [])).1
noncomputable def mdZ (L : List Int) : List Rat := (mdF (L.take 4) (md0, [])).2
structure MdI (i : Nat) (s : List Rat × List Rat) : Prop where
 H : HL (1 + i) (1 + 2 * i) s.1
 t : Trm s.1
 n : s.1.length ≤ i + 1
 m : s.2.length ≤ i
 z : ∀ q ∈ s.2, ∃ k, q = smR k
theorem MdI.step {i : Nat} {s : List Rat × List Rat} (M : MdI i s) (hi : i ≤ 10) (x : Int) : MdI (i + 1) (mdR s (smR x)) := by
 have hBB : BB = 1000000000 := rfl
 have F2 : HL 1 1 [-smR x, 1] := (HL.cons (Qn4 x).neg (HL.one H1.one)).mono (by omega) (by omega)
 have n1 : (QaS [-smR x, 1]).length ≤ 2 := Qcs _
 have nm := M.n
 refine ⟨(M.H.mu F2.trim (by omega)).mono (by omega) (by omega), Qd1 _ _, ?_, ?_, ?_⟩
 ·have := Ql0 s.1 (QaS [-smR x, 1])
  show (muP s.1 (QaS [-smR x, 1])).length ≤ _
  omega
 ·have := insZ_len s.2 (smR x)
  have := M.m
  show (insZ s.2 (smR x)).length ≤ _
  omega
 ·intro q hq
  rcases insZ_mem hq with h | h
  ·exact M.z q h
  ·exact ⟨x, h⟩
theorem md0_H : HL 1 1 [Rat.divInt 2 3] := HL.one ⟨(3 : Int).natAbs, by decide, by rw [Nat.pow_one]; decide, (Hq.div (n := 2) (d := 3) (by omega)).le (by rw [Nat.pow_one]; decide)⟩
theorem MdI.zero : MdI 0 (md0, []) := ⟨md0_H.trim.mono (by omega) (by omega), Qbr _, Qcs _, Nat.le_refl _, fun q h => by simp at h⟩
theorem MdI.fold : ∀ (L : List Int) {i : Nat} {s : List Rat × List Rat}, MdI i s → i + L.length ≤ 10 → MdI (i + L.length) (mdF L s)
 | [], i, s, M, h => M
 | x :: L, i, s, M, h => by
  rw [List.length_cons] at h
  have := MdI.fold L (M.step (by omega) x) (by omega)
  rw [List.length_cons, show i + (L.length + 1) = i + 1 + L.length by omega]
  exact this
theorem wild_H : HL 0 1 [1, 0, 1] := by
 refine ⟨1, by omega, by simp, fun q hq => ?_⟩
 have hBB : BB = 1000000000 := rfl
 have h1 : Hq 1 (BB ^ 1) 1 := by
  have := (Hq.div (n := 1) (d := 1) (by omega)).le (show (1 : Int).natAbs ≤ BB ^ 1 by rw [Nat.pow_one]; decide)
  rwa [Qc3] at this
 have h0 : Hq 1 (BB ^ 1) 0 := by
  have := (Hq.div (n := 0) (d := 1) (by omega)).le (show (0 : Int).natAbs ≤ BB ^ 1 by simp)
  rwa [Qc3] at this
 simp only [List.mem_cons, List.not_mem_nil, or_false] at hq
 rcases hq with rfl | rfl | rfl
 ·exact h1
 ·exact h0
 ·exact h1
theorem mdP_ok (L : List Int) (w : Int) : HL 5 11 (mdP L w) ∧ Trm (mdP L w) ∧ (mdP L w).length ≤ 7 := by
 have hBB : BB = 1000000000 := rfl
 have l4 : (L.take 4).length ≤ 4 := List.length_take_le _ _
 have M := MdI.fold (L.take 4) MdI.zero (by omega)
 have n1 : (QaS [(1 : Rat), 0, 1]).length ≤ 3 := Qcs _
 have n := M.n
 unfold mdP
 split
 ·refine ⟨(M.H.mu wild_H.trim (by omega)).mono (by omega) (by omega), Qd1 _ _, ?_⟩
  have := Ql0 (mdF (L.take 4) (md0, [])).1 (QaS [1, 0, 1])
  omega
 ·exact ⟨M.H.mono (by omega) (by omega), M.t, by omega⟩
variable [Its]
section
variable {d dp dz : D} {w : Int} {zs : List Rat} {p : List Rat} {lI : List Int}
theorem mde_stop (hr : Rw d lI) {i : Nat} (h : i = min lI.length 4) : X G Qaw (mdo d w dp dz i) = some (.x 0, mde w dp dz) := by
 have ll := hr.len
 by_cases hl : lI.length ≤ i
 ·have e1 : decide ((i : Int) < (lI.length : Int)) = false := lt_f (by omega)
  simp -implicitDefEqProofs (maxSteps:=9^8) only [Qaw, mdo, mde, ll, e1, Qia, decide_false, Bool.false_eq_true, if_false, Qac, go_sem, iv, bv, reduceCtorEq, ↓reduceIte, Nat.reduceEqDiff]
 ·have e1 : decide ((i : Int) < (lI.length : Int)) = true := lt_t (by omega)
  have e2 : decide ((i : Int) < 4) = false := lt_f (by omega)
  simp -implicitDefEqProofs (maxSteps:=9^8) only [Qaw, mdo, mde, ll, e1, e2, Qac, go_sem, iv, bv, reduceCtorEq, ↓reduceIte, Nat.reduceEqDiff]
theorem QqY      (hr : Rw d lI) (hl : ∀ n ∈ lI, I64 n) : ∀ (j i : Nat) (p zs : List Rat) (dp dz : D), i + j = min lI.length 4 → MdI i (p, zs) → RwR dp p → RwR dz zs →
    ∃ dp' dz', RwR dp' (mdF ((lI.drop i).take j) (p, zs)).1 ∧ RwR dz' (mdF ((lI.drop i).take j) (p, zs)).2 ∧ X G (.loop Qaw) (mdo d w dp dz i) = some (.x 0, mde w dp' dz')
  | 0, i, p, zs, dp, dz, h, M, hp, hz => ⟨dp, dz, hp, hz, by rw [Qak, mde_stop hr (by omega)]; rfl⟩
  | j + 1, i, p, zs, dp, dz, h, M, hp, hz => by
    have hi : i < lI.length := by omega
    have hn : p.length ≤ i + 1 := M.n
    have hm : zs.length ≤ i := M.m
    have sz1 : SzL 1000 zs := fun q hq => by
      obtain ⟨k, rfl⟩ := M.z q hq
      exact Nat.le_trans (smR_sz k) (by omega)
    obtain ⟨d1, d2, r1, r2, g⟩ := md_round (w := w) hr hz (by omega) sz1 hi (by omega) (hl _ (by rw [List.getD_eq_getElem?_getD, List.getElem?_eq_getElem hi]; exact List.getElem_mem hi)) rfl hp (M.H.mono (by omega) (by omega)) (by omega)
    have e : lI.drop i = lI.getD i 0 :: lI.drop (i + 1) := by
      rw [List.drop_eq_getElem_cons hi, List.getD_eq_getElem?_getD, List.getElem?_eq_getElem hi]; rfl
    obtain ⟨d3, d4, r3, r4, g2⟩ := QqY hr hl j (i + 1) _ _ d1 d2 (by omega) (M.step (by omega) (lI.getD i 0)) r1 r2
    refine ⟨d3, d4, ?_, ?_, ?_⟩
    · rw [e, List.take_succ_cons]; exact r3
    · rw [e, List.take_succ_cons]; exact r4
    · rw [Qak, g, Option.bind_some, if_pos rfl]; exact g2
theorem Made_spec (hr : Rw d lI) (hl : ∀ n ∈ lI, I64 n) (hw : I64 w) : ∃ dp dz, RwR dp (mdP lI w) ∧ RwR dz (mdZ lI) ∧ Qaj G QfG [d, iv w] = some (.d (.tup [dp, dz])) := by
 rw [Qad (cf := Qds) rfl]
 have o := Qd7 (n := 2) (d := 3) ⟨by omega, by omega⟩ ⟨by omega, by omega⟩
 obtain ⟨d0, r0, g0⟩ := QdC (RwR.row [Rat.divInt 2 3]) (by simp only [List.length_cons, List.length_nil]; omega) (md0_H.sz.mono (by omega))
 obtain ⟨dp, dz, r1, r2, g⟩ := QqY (w := w) hr hl (min lI.length 4) 0 md0 [] d0 (.z true) (by omega) MdI.zero r0 .nil
 have et : (lI.drop 0).take (min lI.length 4) = lI.take 4 := by
  rw [List.drop_zero]
  by_cases h : lI.length ≤ 4
  ·rw [Nat.min_eq_left h, List.take_length, List.take_of_length_le h]
  ·rw [Nat.min_eq_right (by omega)]
 rw [et] at r1 r2
 have l4 : (lI.take 4).length ≤ 4 := List.length_take_le _ _
 have M := MdI.fold (lI.take 4) MdI.zero (by omega)
 have n1 : (mdF (lI.take 4) (md0, [])).1.length ≤ 5 := Nat.le_trans M.n (by omega)
 have ow := QpJ
 obtain ⟨d1, r3, g3⟩ := QdC (RwR.row [(1 : Rat), 0, 1]) (by simp only [List.length_cons, List.length_nil]; omega) (wild_H.sz.mono (by omega))
 have n2 : (QaS [(1 : Rat), 0, 1]).length ≤ 3 := Qcs _
 obtain ⟨d2, r4, g4⟩ := QhU r1 r3 M.H wild_H.trim (by omega) (by omega) (by omega) (by omega)
 unfold mdP mdZ
 have z0 : ((0 : Nat) : Int) = 0 := rfl
 rw [z0] at g
 have w1 : w64 (w.tmod 2) = w.tmod 2 := by
  have := Int.tmod_lt_of_pos w (b := 2) (by omega)
  have := Int.lt_tmod_of_pos w (b := 2) (by omega)
  exact Qaf (by omega) (by omega)
 have ez : encR 0 = .agg [.v (.bool false), .z true, .v (.bool false), .z true] := by
  have ez : decide ((0 : Rat).num < 0) = false := rfl
  have ez2 : dg (digs (0 : Rat).num.natAbs) = .z true := by rw [Rat.zero_num, show (0 : Int).natAbs = 0 from rfl, Qay]; rfl
  have ez3 : dg (dd (0 : Rat).den) = .z true := rfl
  rw [encR, ez, ez2, ez3]
 have ez' := ez
 simp only [encR, D.agg.injEq, List.cons.injEq, and_true] at ez'
 clear M r0 n1 n2
 have t20 : ((2 : Int) = 0) = False := eq_false (by decide)
 by_cases h : w.tmod 2 = 0
 ·rw [if_neg (by simp [h])]
  refine ⟨dp, dz, r1, r2, ?_⟩
  have t : (w.tmod 2 != 0) = false := QrF h
  clear r1 r2 r3 r4 g3 g4
  simp only [rowR, cRs, List.length_cons, List.length_nil, Nat.reduceAdd] at g0
  generalize Rat.divInt 2 3 = q at *
  simp only [encR, iv] at o
  simp only [mdo, mde, go_sem] at g
  simp -implicitDefEqProofs (maxSteps:=9^8) only [Qds, o, g0, g, w1, t, t20, toDs, Qkk, Qac, go_sem, iv, bv, reduceCtorEq, ↓reduceIte, Nat.reduceEqDiff]
 ·rw [if_pos h]
  refine ⟨d2, dz, r4, r2, ?_⟩
  have t : (w.tmod 2 != 0) = true := Qsc h
  clear r1 r2 r3 r4
  simp only [rowR, cRs, List.length_cons, List.length_nil, Nat.reduceAdd, ez'] at g0 g3
  generalize Rat.divInt 2 3 = q at *
  generalize (1 : Rat) = one at *
  simp only [encR, iv] at o ow
  simp only [mdo, mde, go_sem] at g
  simp -implicitDefEqProofs (maxSteps:=9^8) only [Qds, o, ow, g0, g, g3, g4, w1, t, t20, toDs, Qkk, QoK, Qac, go_sem, iv, bv, reduceCtorEq, ↓reduceIte, Nat.reduceEqDiff]
end
end Go.AM

/- Sturm, plain: bounds of polynomials on an interval; lists of signs. -/
namespace Go.AM
open Go Go.RowKit
def Ab (x C : Rat) : Prop := -C ≤ x ∧ x ≤ C
theorem Ab.mul {x y A B : Rat} (h : Ab x A) (k : Ab y B) : Ab (x * y) (A * B) := by
 obtain ⟨h1, h2⟩ := h
 obtain ⟨k1, k2⟩ := k
 have p1 := Rat.mul_nonneg (a := A - x) (b := B + y) (by grind) (by grind)
 have p2 := Rat.mul_nonneg (a := A + x) (b := B - y) (by grind) (by grind)
 have p3 := Rat.mul_nonneg (a := A - x) (b := B - y) (by grind) (by grind)
 have p4 := Rat.mul_nonneg (a := A + x) (b := B + y) (by grind) (by grind)
 constructor <;> grind
theorem Ab.add {x y A B : Rat} (h : Ab x A) (k : Ab y B) : Ab (x + y) (A + B) := by
 obtain ⟨h1, h2⟩ := h
 obtain ⟨k1, k2⟩ := k
 constructor <;> grind
theorem Ab.nn {x A : Rat} (h : Ab x A) : 0 ≤ A := by
 obtain ⟨h1, h2⟩ := h
 grind
theorem Ab.mono {x A B : Rat} (h : Ab x A) (k : A ≤ B) : Ab x B := by
 obtain ⟨h1, h2⟩ := h
 constructor <;> grind
theorem Ab.zero : Ab 0 0 := by constructor <;> grind
theorem Qls (a : Rat) : ∃ A, Ab a A := by
 by_cases h : 0 ≤ a
 ·exact ⟨a, by constructor <;> grind⟩
 ·exact ⟨-a, by constructor <;> grind⟩
theorem ab_pos {x : Rat} (h : 0 ≤ x) : Ab x x := by constructor <;> grind
theorem QnF (R : Rat) : ∀ l : List Rat, ∃ C, 0 ≤ C ∧ ∀ x, Ab x R → Ab (evR l x) C
 | [] => ⟨0, by grind, fun x h => Ab.zero⟩
 | a :: l => by
  obtain ⟨C, c0, hC⟩ := QnF R l
  obtain ⟨A, hA⟩ := Qls a
  by_cases hR : 0 ≤ R
  ·refine ⟨C * R + A, ?_, fun x h => ((hC x h).mul h).add hA⟩
   have := Rat.mul_nonneg c0 hR
   have := hA.nn
   grind
  ·exact ⟨0, by grind, fun x h => absurd h.nn hR⟩
theorem Qmi (R : Rat) : ∀ l : List Rat, ∃ C, 0 ≤ C ∧ ∀ x y, Ab x R → Ab y R → x ≤ y → Ab (evR l y - evR l x) (C * (y - x))
 | [] => ⟨0, by grind, fun x y h k hxy => by rw [QaG, QaG]; constructor <;> grind⟩
 | a :: l => by
  obtain ⟨B, b0, hB⟩ := QnF R l
  obtain ⟨C, c0, hC⟩ := Qmi R l
  by_cases hR : 0 ≤ R
  ·refine ⟨B + R * C, ?_, fun x y h k hxy => ?_⟩
   ·have := Rat.mul_nonneg hR c0
    grind
   ·have h1 := (hB y k).mul (ab_pos (x := y - x) (by grind))
    have h2 := h.mul (hC x y h k hxy)
    have h3 := h1.add h2
    have e1 : evR (a :: l) y - evR (a :: l) x = evR l y * (y - x) + x * (evR l y - evR l x) := by rw [Qas, Qas]; grind
    have e2 : (B + R * C) * (y - x) = B * (y - x) + R * (C * (y - x)) := by grind
    rw [e1, e2]; exact h3
  ·exact ⟨0, by grind, fun x y h => absurd h.nn hR⟩
theorem ev_ta2 (R : Rat) : ∀ l : List Rat, ∃ C, 0 ≤ C ∧ ∀ x y, Ab x R → Ab y R → x ≤ y → Ab (evR l y - evR l x - der l x * (y - x)) (C * ((y - x) * (y - x)))
 | [] => ⟨0, by grind, fun x y h k hxy => by rw [QaG, QaG, show der [] x = 0 from rfl]; constructor <;> grind⟩
 | a :: l => by
  obtain ⟨B, b0, hB⟩ := Qmi R l
  obtain ⟨C, c0, hC⟩ := ev_ta2 R l
  by_cases hR : 0 ≤ R
  ·refine ⟨B + R * C, ?_, fun x y h k hxy => ?_⟩
   ·have := Rat.mul_nonneg hR c0
    grind
   ·have h1 := (ab_pos (x := y - x) (by grind)).mul (hB x y h k hxy)
    have h2 := h.mul (hC x y h k hxy)
    have h3 := h1.add h2
    have ed : der (a :: l) x = evR l x + x * der l x := rfl
    have e1 : evR (a :: l) y - evR (a :: l) x - der (a :: l) x * (y - x) = (y - x) * (evR l y - evR l x) + x * (evR l y - evR l x - der l x * (y - x)) := by rw [Qas, Qas, ed]; grind
    have e2 : (B + R * C) * ((y - x) * (y - x)) = (y - x) * (B * (y - x)) + R * (C * ((y - x) * (y - x))) := by grind
    rw [e1, e2]; exact h3
  ·exact ⟨0, by grind, fun x y h => absurd h.nn hR⟩

/-! ### Signs -/
def sgQ (x : Rat) : Int := Int.sign x.num
theorem QnP {x : Rat} (h : 0 < x) : sgQ x = 1 := Int.sign_eq_one_of_pos (by
 have := Rat.num_nonneg.2 (Rat.le_of_lt h)
 have h2 : x.num ≠ 0 := fun h0 => by
  have := Rat.num_eq_zero.1 h0
  grind
 omega)
theorem sgQ_0 : sgQ 0 = 0 := rfl
theorem Qot {x : Rat} (h : x < 0) : sgQ x = -1 := Int.sign_eq_neg_one_of_neg (by
 have h2 : ¬ 0 ≤ x.num := fun h0 => by
  have := Rat.num_nonneg.1 h0
  grind
 omega)
theorem Qdk (x : Rat) : (0 < x ∧ sgQ x = 1) ∨ (x = 0 ∧ sgQ x = 0) ∨ (x < 0 ∧ sgQ x = -1) := by
 by_cases h : 0 < x
 ·exact .inl ⟨h, QnP h⟩
 ·by_cases h2 : x < 0
  ·exact .inr (.inr ⟨h2, Qot h2⟩)
  ·have : x = 0 := by grind
   exact .inr (.inl ⟨this, by rw [this]; rfl⟩)
def chs : Int → List Int → Nat
 | _, [] => 0
 | s, t :: L => if t = 0 then chs s L else if t = s then chs s L else 1 + chs t L
theorem QmJ : ∀ (s : Int) (L : List Int), chs s (L.filter fun t => decide (t ≠ 0)) = chs s L
 | _, [] => rfl
 | s, t :: L => by
  by_cases h : t = 0
  ·rw [List.filter_cons_of_neg (by simp [h]), chs, if_pos h]
   exact QmJ s L
  ·rw [List.filter_cons_of_pos (by simp [h]), chs, chs, if_neg h, if_neg h, QmJ s L, QmJ t L]
theorem Qq8 (s t : Int) (L : List Int) : ∀ i, chN (s :: t :: L) (i + 2) = (if t ≠ s then 1 else 0) + chN (t :: L) (i + 1)
 | 0 => by
  show chN (s :: t :: L) 0 + _ + _ = _ + (chN (t :: L) 0 + _)
  simp [chN]
 | i + 1 => by
  show chN (s :: t :: L) (i + 2) + (if 1 ≤ i + 2 ∧ (s :: t :: L).getD (i + 2) 0 ≠ (s :: t :: L).getD (i + 2 - 1) 0 then 1 else 0) = _ + (chN (t :: L) (i + 1) + (if 1 ≤ i + 1 ∧ (t :: L).getD (i + 1) 0 ≠ (t :: L).getD (i + 1 - 1) 0 then 1 else 0))
  have e1 : (s :: t :: L).getD (i + 2) 0 = (t :: L).getD (i + 1) 0 := rfl
  have e2 : (s :: t :: L).getD (i + 2 - 1) 0 = (t :: L).getD (i + 1 - 1) 0 := rfl
  rw [Qq8 s t L i, e1, e2, ← Nat.add_assoc]
  congr 1
  by_cases h : (t :: L).getD (i + 1) 0 ≠ (t :: L).getD (i + 1 - 1) 0
  ·rw [if_pos ⟨by omega, h⟩, if_pos ⟨by omega, h⟩]
  ·rw [if_neg (fun k => h k.2), if_neg (fun k => h k.2)]
theorem chN_chs : ∀ (L : List Int) (s : Int), (∀ t ∈ L, t ≠ 0) → chN (s :: L) (s :: L).length = chs s L
 | [], s, h => by simp [chN, chs]
 | t :: L, s, h => by
  have ih := chN_chs L t fun u hu => h u (List.mem_cons_of_mem _ hu)
  have h0 := h t List.mem_cons_self
  rw [List.length_cons, List.length_cons, Qq8]
  rw [List.length_cons] at ih
  rw [ih, chs, if_neg h0]
  by_cases k : t = s
  ·rw [if_neg (by simp [k]), if_pos k, k, Nat.zero_add]
  ·rw [if_pos k, if_neg k]
def sgL (ps : List (List Rat)) (x : Rat) : List Int := ps.map fun p => sgQ (evR p x)
theorem QhJ (p : List Rat) (ps : List (List Rat)) (x : Rat) (h : evR p x ≠ 0) : chg (p :: ps) x = chs (sgQ (evR p x)) (sgL ps x) := by
 unfold chg sgs
 have h0 : sgn1 p x ≠ 0 := by
  rcases Qdk (evR p x) with h1 | h1 | h1
  ·show sgQ (evR p x) ≠ 0; omega
  ·exact absurd h1.1 h
  ·show sgQ (evR p x) ≠ 0; omega
 rw [List.map_cons, List.filter_cons_of_pos (by simp [h0])]
 rw [chN_chs _ _ (fun t ht => by have := (List.mem_filter.1 ht).2; simpa using this)]
 exact QmJ _ _
theorem chg_skip (p : List Rat) (ps : List (List Rat)) (x : Rat) (h : evR p x = 0) : chg (p :: ps) x = chg ps x := by
 unfold chg sgs
 have h0 : sgn1 p x = 0 := by
  show sgQ (evR p x) = 0
  rw [h]; rfl
 rw [List.map_cons, List.filter_cons_of_neg (by simp [h0])]
inductive Rl : Int → List Int → List Int → Prop
 | nil (s : Int) : Rl s [] []
 | big {s t : Int} {L M : List Int} : t ≠ 0 → Rl t L M → Rl s (t :: L) (t :: M)
 | sml {s a b : Int} {L M : List Int} : s ≠ 0 → (a = 0 ∨ a = s ∨ a = -s) → (b = 0 ∨ b = s ∨ b = -s) → Rl (-s) L M → Rl s (a :: -s :: L) (b :: -s :: M)
theorem chs_sml {s a : Int} (L : List Int) (hs : s ≠ 0) (ha : a = 0 ∨ a = s ∨ a = -s) : chs s (a :: -s :: L) = 1 + chs (-s) L := by
 have h1 : -s ≠ 0 := by omega
 have h2 : -s ≠ s := by omega
 rw [chs]
 rcases ha with rfl | rfl | rfl
 ·rw [if_pos rfl, chs, if_neg h1, if_neg h2]
 ·rw [if_neg hs, if_pos rfl, chs, if_neg h1, if_neg h2]
 ·rw [if_neg h1, if_neg h2, chs, if_neg h1, if_pos rfl]
theorem Rl.eq {s : Int} {L M : List Int} (h : Rl s L M) : chs s L = chs s M := by
 induction h with
 | nil s => rfl
 | big h0 _ ih => rw [chs, chs, if_neg h0, if_neg h0, ih]; split <;> simp_all
 | sml h0 ha hb _ ih => rw [chs_sml _ h0 ha, chs_sml _ h0 hb, ih]
end Go.AM

/- Sturm, plain: a chain on small intervals. -/
namespace Go.AM
open Go Go.RowKit
theorem QgC {C η : Rat} (hC : 0 ≤ C) (h : 0 < η) : ∃ δ, 0 < δ ∧ C * δ ≤ η := by
 have e : (C + 1) * (η * (C + 1)⁻¹) = η := by
  have := Rat.mul_inv_cancel (C + 1) (by grind)
  grind
 generalize η * (C + 1)⁻¹ = δ at e
 have hd : 0 < δ := by
  by_cases k : 0 < δ
  ·exact k
  ·have := Rat.mul_nonneg (a := C + 1) (b := -δ) (by grind) (by grind)
   grind
 exact ⟨δ, hd, by grind⟩
theorem Qhf {a b : Rat} (ha : 0 < a) (hb : 0 < b) : ∃ c, 0 < c ∧ c ≤ a ∧ c ≤ b := by
 by_cases h : a ≤ b
 ·exact ⟨a, ha, by grind, h⟩
 ·exact ⟨b, hb, by grind, by grind⟩
theorem QhM {C x y : Rat} (hC : 0 ≤ C) (h : x ≤ y) : C * x ≤ C * y := Rat.mul_le_mul_of_nonneg_left h hC
theorem Qiv {u v η : Rat} (h0 : 0 ≤ η) (h : ¬ Ab u η) (k : Ab (v - u) η) : sgQ v = sgQ u ∧ u ≠ 0 := by
  obtain ⟨k1, k2⟩ := k
  by_cases h1 : u > η
  · rw [QnP (x := u) (by grind), QnP (x := v) (by grind)]
    exact ⟨rfl, by grind⟩
  · have h2 : u < -η := by
      by_cases h2 : -η ≤ u
      · exact absurd ⟨h2, by grind⟩ h
      · grind
    rw [Qot (x := u) (by grind), Qot (x := v) (by grind)]
    exact ⟨rfl, by grind⟩
theorem sg_opp {u c B : Rat} (hu : Ab u B) (hc : ¬ Ab c B) : sgQ (u - c) = -sgQ c ∧ u - c ≠ 0 := by
  obtain ⟨u1, u2⟩ := hu
  by_cases h1 : c > B
  · rw [QnP (x := c) (by grind), Qot (x := u - c) (by grind)]
    exact ⟨rfl, by grind⟩
  · have h2 : c < -B := by
      by_cases h2 : -B ≤ c
      · exact absurd ⟨h2, by grind⟩ hc
      · grind
    rw [Qot (x := c) (by grind), QnP (x := u - c) (by grind)]
    exact ⟨rfl, by grind⟩
theorem Qro {x : Rat} (h : x ≠ 0) : sgQ x ≠ 0 := by
 rcases Qdk x with k | k | k
 ·omega
 ·exact absurd k.1 h
 ·omega
theorem QoN {x y : Rat} (h : x ≠ 0) : sgQ y = 0 ∨ sgQ y = sgQ x ∨ sgQ y = -sgQ x := by
 rcases Qdk x with k | k | k
 ·rcases Qdk y with l | l | l <;> omega
 ·exact absurd k.1 h
 ·rcases Qdk y with l | l | l <;> omega
def nx (L : List (List Rat)) (x : Rat) : Rat := match L with
 | [] => 0
 | c :: _ => evR c x
def StOk : List Rat → List (List Rat) → Prop
 | a, [] => ∃ e, e ≠ 0 ∧ ∀ x, evR a x = e
 | a, b :: L => (∃ q, ∀ x, evR a x = evR q x * evR b x - nx L x) ∧ StOk b L
def Loc (R : Rat) (a : List Rat) (L : List (List Rat)) : Prop :=
 ∃ η0, 0 < η0 ∧ ∃ β, 0 < β ∧ ∀ η, 0 < η → η ≤ η0 → ∃ δ, 0 < δ ∧ ∀ x y, Ab x R → Ab y R → x ≤ y → y - x ≤ δ →
  (¬ Ab (evR a x) η → Ab (evR a y - evR a x) η ∧ Rl (sgQ (evR a x)) (sgL L x) (sgL L y)) ∧
  (Ab (evR a x) η → ∃ b L', L = b :: L' ∧ ¬ Ab (evR b x) β ∧ Ab (evR b y - evR b x) β ∧ Rl (sgQ (evR b x)) (sgL L' x) (sgL L' y))
theorem loc (R : Rat) : ∀ (L : List (List Rat)) (a : List Rat), StOk a L → Loc R a L
  | [], a, ⟨e, e0, he⟩ => by
    have hη : ∃ η0, 0 < η0 ∧ ¬ Ab e η0 := by
      by_cases h : 0 < e
      · exact ⟨e * (1/2), by grind, fun k => by have := k.2; grind⟩
      · exact ⟨-e * (1/2), by grind, fun k => by have := k.1; grind⟩
    obtain ⟨η0, h0, h1⟩ := hη
    refine ⟨η0, h0, 1, by decide, fun η p1 p2 => ⟨1, by decide, fun x y hx hy hxy hd => ⟨fun h => ⟨?_, Rl.nil _⟩, fun h => ?_⟩⟩⟩
    · rw [he, he]; constructor <;> grind
    · rw [he] at h; exact absurd (h.mono p2) h1
  | b :: L, a, ⟨⟨q, hq⟩, hb⟩ => by
    obtain ⟨η0, p0, β, pβ, hloc⟩ := loc R L b hb
    obtain ⟨Q, q0, hQ⟩ := QnF R q
    -- how small b may be
    obtain ⟨ρ, r0, hρ⟩ := QgC (C := Q) (η := β * (1/2)) q0 (by grind)
    obtain ⟨ηb, b0, b1, b2⟩ := Qhf p0 r0
    obtain ⟨δb, d0, hδ⟩ := hloc ηb b0 b1
    obtain ⟨La, l0, hL⟩ := Qmi R a
    have hQb : Q * ηb ≤ β * (1/2) := by have := QhM q0 b2; grind
    refine ⟨β * (1/2), by grind, ηb, b0, fun η e0 e1 => ?_⟩
    obtain ⟨δ1, f0, f1⟩ := QgC (C := La) (η := η) l0 e0
    obtain ⟨δ, g0, g1, g2⟩ := Qhf d0 f0
    refine ⟨δ, g0, fun x y hx hy hxy hd => ?_⟩
    obtain ⟨A, B⟩ := hδ x y hx hy hxy (by grind)
    have hlip : Ab (evR a y - evR a x) η := (hL x y hx hy hxy).mono (by have := QhM l0 (show y - x ≤ δ1 by grind); grind)
    have small : Ab (evR b x) ηb → Ab (evR q x * evR b x) (β * (1/2)) := fun h => ((hQ x hx).mul h).mono hQb
    refine ⟨fun h => ⟨hlip, ?_⟩, fun h => ?_⟩
    · obtain ⟨s1, s2⟩ := Qiv (by grind) h hlip
      by_cases hbs : Ab (evR b x) ηb
      · obtain ⟨c, L', rfl, c1, c2, c3⟩ := B hbs
        have hax := hq x
        simp only [nx] at hax
        obtain ⟨o1, o2⟩ := sg_opp (small hbs) (c := evR c x) (fun k => c1 (k.mono (by grind)))
        rw [← hax] at o1 o2
        obtain ⟨t1, t2⟩ := Qiv (by grind) c1 c2
        have e : sgQ (evR c x) = -sgQ (evR a x) := by omega
        show Rl _ (sgQ (evR b x) :: sgQ (evR c x) :: sgL L' x) (sgQ (evR b y) :: sgQ (evR c y) :: sgL L' y)
        rw [t1]
        rw [e] at c3 ⊢
        exact Rl.sml (Qro o2) (QoN o2) (QoN o2) c3
      · obtain ⟨c1, c2⟩ := A hbs
        obtain ⟨t1, t2⟩ := Qiv (by grind) hbs c1
        show Rl _ (sgQ (evR b x) :: sgL L x) (sgQ (evR b y) :: sgL L y)
        rw [t1]
        exact Rl.big (Qro t2) c2
    · have hbig : ¬ Ab (evR b x) ηb := by
        intro hbs
        obtain ⟨c, L', rfl, c1, c2, c3⟩ := B hbs
        have hax := hq x
        simp only [nx] at hax
        have k1 := small hbs
        refine c1 ?_
        have e : evR c x = evR q x * evR b x - evR a x := by grind
        obtain ⟨u1, u2⟩ := k1
        obtain ⟨v1, v2⟩ := h
        constructor <;> grind
      obtain ⟨c1, c2⟩ := A hbig
      exact ⟨b, L, rfl, hbig, c1, c2⟩
end Go.AM

/- Sturm, plain: f beside its derivative; the zeros in an interval. -/
namespace Go.AM
open Go Go.RowKit
def Lcl (f : List Rat) (cs : List (List Rat)) (x y : Rat) : Prop :=
 (chg cs x = chg cs y ∧ ∀ u, x ≤ u → u ≤ y → evR f u ≠ 0 ∧ sgQ (evR f u) = sgQ (evR f x)) ∨
 ∃ (s : Rat) (k : Nat), (s = 1 ∨ s = -1) ∧ (∀ u v, x ≤ u → u < v → v ≤ y → s * evR f u < s * evR f v) ∧ chg cs x = k + (if s * evR f x < 0 then 1 else 0) ∧ chg cs y = k + (if s * evR f y < 0 then 1 else 0)
theorem Qrq {f d : List Rat} {L : List (List Rat)} {x s : Rat} (hs : s = 1 ∨ s = -1) (hd : 0 < s * evR d x) : chg (f :: d :: L) x = chs (sgQ (evR d x)) (sgL L x) + (if s * evR f x < 0 then 1 else 0) := by
 have hd0 : evR d x ≠ 0 := fun h => by rw [h] at hd; grind
 by_cases hf : evR f x = 0
 ·rw [chg_skip _ _ _ hf, QhJ _ _ _ hd0, hf, if_neg (by grind), Nat.add_zero]
 ·rw [QhJ _ _ _ hf]
  show chs _ (sgQ (evR d x) :: sgL L x) = _
  rw [chs, if_neg (Qro hd0)]
  generalize evR d x = b at *
  generalize evR f x = a at *
  rcases hs with rfl | rfl
  ·rw [QnP (x := b) (by grind)]
   by_cases h : a < 0
   ·rw [Qot h, if_neg (by decide), if_pos (by grind)]; omega
   ·rw [QnP (x := a) (by grind), if_pos rfl, if_neg (by grind)]; omega
  ·rw [Qot (x := b) (by grind)]
   by_cases h : 0 < a
   ·rw [QnP h, if_neg (by decide), if_pos (by grind)]; omega
   ·rw [Qot (x := a) (by grind), if_pos rfl, if_neg (by grind)]; omega
theorem lcl (R : Rat) {f d : List Rat} {L : List (List Rat)} (h : StOk f (d :: L)) (hd : ∀ x, evR d x = der f x) : ∃ δ, 0 < δ ∧ ∀ x y, Ab x R → Ab y R → x ≤ y → y - x ≤ δ → Lcl f (f :: d :: L) x y := by
 obtain ⟨η, h0, β, hβ, H⟩ := loc R (d :: L) f h
 obtain ⟨δ0, d0, H⟩ := H η h0 Rat.le_refl
 obtain ⟨Lf, lf0, hLf⟩ := Qmi R f
 obtain ⟨Ld, ld0, hLd⟩ := Qmi R d
 obtain ⟨C, c0, hC⟩ := ev_ta2 R f
 obtain ⟨δ1, k1, m1⟩ := QgC lf0 h0
 obtain ⟨δ2, k2, m2⟩ := QgC (η := β * (1/4)) ld0 (by grind)
 obtain ⟨δ3, k3, m3⟩ := QgC (η := β * (1/4)) c0 (by grind)
 obtain ⟨δ4, k4, n1, n2⟩ := Qhf d0 k1
 obtain ⟨δ5, k5, n3, n4⟩ := Qhf k2 k3
 obtain ⟨δ, k, n5, n6⟩ := Qhf k4 k5
 refine ⟨δ, k, fun x y hx hy hxy hδ => ?_⟩
 have hab : ∀ u, x ≤ u → u ≤ y → Ab u R := fun u h1 h2 => ⟨by have := hx.1; grind, by have := hy.2; grind⟩
 obtain ⟨A, B⟩ := H x y hx hy hxy (by grind)
 by_cases hs : Ab (evR f x) η
 ·right
  obtain ⟨b, L', e, b1, b2, b3⟩ := B hs
  simp only [List.cons.injEq] at e
  obtain ⟨rfl, rfl⟩ := e
  obtain ⟨s1, s2⟩ := Qiv (by grind) b1 b2
  have key : ∃ s : Rat, (s = 1 ∨ s = -1) ∧ β < s * evR d x ∧ 0 < s * evR d y := by
   rcases Qdk (evR d x) with c | c | c
   ·refine ⟨1, .inl rfl, ?_, ?_⟩
    ·by_cases q : β < evR d x
     ·grind
     ·exact absurd ⟨by grind, by grind⟩ b1
    ·rw [c.2] at s1
     rcases Qdk (evR d y) with e | e | e
     ·grind
     ·omega
     ·omega
   ·exact absurd c.1 s2
   ·refine ⟨-1, .inr rfl, ?_, ?_⟩
    ·by_cases q : evR d x < -β
     ·grind
     ·exact absurd ⟨by grind, by grind⟩ b1
    ·rw [c.2] at s1
     rcases Qdk (evR d y) with e | e | e
     ·omega
     ·omega
     ·grind
  obtain ⟨s, hs1, t1, t2⟩ := key
  refine ⟨s, chs (sgQ (evR d x)) (sgL L x), hs1, ?_, Qrq hs1 (by grind), ?_⟩
  ·intro u v h1 h2 h3
   have au := hab u h1 (by grind)
   have av := hab v (by grind) h3
   have p1 := hLd x u hx au h1
   have p2 := hC u v au av (by grind)
   rw [← hd] at p2
   have p3 : Ld * (u - x) ≤ β * (1/4) := by have := QhM ld0 (show u - x ≤ δ2 by grind); grind
   have p4 : C * (v - u) ≤ β * (1/4) := by have := QhM c0 (show v - u ≤ δ3 by grind); grind
   have p1' := p1.mono p3
   have p5 : C * ((v - u) * (v - u)) ≤ β * (1/4) * (v - u) := by
    have := Rat.mul_le_mul_of_nonneg_right p4 (show 0 ≤ v - u by grind)
    grind
   have p2' := p2.mono p5
   have hv : 0 < v - u := by grind
   generalize hw : v - u = w at *
   -- s * f' u >= 3/4 beta
   have p6 : β * (3/4) ≤ s * evR d u := by
    obtain ⟨i1, i2⟩ := p1'
    rcases hs1 with rfl | rfl <;> grind
   have p7 := Rat.mul_le_mul_of_nonneg_right p6 (show 0 ≤ w by grind)
   obtain ⟨i1, i2⟩ := p2'
   have p8 : 0 < β * w := Rat.mul_pos hβ hv
   rcases hs1 with rfl | rfl <;> grind
  ·rw [Qrq hs1 (by grind), s1, b3.eq]
 ·left
  obtain ⟨a1, a2⟩ := A hs
  obtain ⟨s1, s2⟩ := Qiv (by grind) hs a1
  have hu : ∀ u, x ≤ u → u ≤ y → sgQ (evR f u) = sgQ (evR f x) := fun u h1 h2 => (Qiv (by grind) hs ((hLf x u hx (hab u h1 h2) h1).mono (by have := QhM lf0 (show u - x ≤ δ1 by grind); grind))).1
  have hne : ∀ u, x ≤ u → u ≤ y → evR f u ≠ 0 := fun u h1 h2 h3 => by
   have := hu u h1 h2
   rw [h3, sgQ_0] at this
   exact Qro s2 this.symm
  refine ⟨?_, fun u h1 h2 => ⟨hne u h1 h2, hu u h1 h2⟩⟩
  rw [QhJ _ _ _ s2, QhJ _ _ _ (hne y hxy Rat.le_refl), s1, a2.eq]
structure Zrs (f : List Rat) (zs : List Rat) : Prop where
 z : ∀ u, evR f u = 0 ↔ u ∈ zs
 i : ∀ u v, u < v → evR f u * evR f v < 0 → ∃ z ∈ zs, u < z ∧ z < v
 s : zs.Pairwise (· < ·)
def nz (zs : List Rat) (x y : Rat) : Nat := (zs.filter fun z => decide (x < z ∧ z ≤ y)).length
theorem QpI {zs : List Rat} {x y : Rat} (h : ∀ z ∈ zs, ¬ (x < z ∧ z ≤ y)) : nz zs x y = 0 := by
 unfold nz
 rw [List.filter_eq_nil_iff.2 (fun z hz => by simpa using h z hz)]; rfl
theorem nz_one {zs : List Rat} {x y : Rat} (hs : zs.Pairwise (· < ·)) {z : Rat} (hz : z ∈ zs) (h : x < z ∧ z ≤ y) (hu : ∀ w ∈ zs, x < w → w ≤ y → w = z) : nz zs x y = 1 := by
 unfold nz
 have hp := hs.filter (p := fun z => decide (x < z ∧ z ≤ y))
 have hm : ∀ w ∈ zs.filter (fun z => decide (x < z ∧ z ≤ y)), w = z := fun w hw => by
  obtain ⟨h1, h2⟩ := List.mem_filter.1 hw
  have h3 := of_decide_eq_true h2
  exact hu w h1 h3.1 h3.2
 have hin : z ∈ zs.filter (fun z => decide (x < z ∧ z ≤ y)) := List.mem_filter.2 ⟨hz, decide_eq_true h⟩
 generalize zs.filter (fun z => decide (x < z ∧ z ≤ y)) = l at *
 match l with
 | [] => simp at hin
 | [a] => rfl
 | a :: b :: l =>
  have h1 := hm a (by simp)
  have h2 := hm b (by simp)
  have h3 := List.rel_of_pairwise_cons hp (a' := b) (by simp)
  rw [h1, h2] at h3
  exact absurd h3 Rat.lt_irrefl
theorem nz_add (zs : List Rat) {x y z : Rat} (h1 : x ≤ y) (h2 : y ≤ z) : nz zs x y + nz zs y z = nz zs x z := by
 unfold nz
 induction zs with
 | nil => rfl
 | cons a l ih =>
  by_cases p : x < a ∧ a ≤ y
  ·rw [List.filter_cons_of_pos (by simpa using p), List.filter_cons_of_neg (p := fun c => decide (y < c ∧ c ≤ z)) (by simp; intro; grind), List.filter_cons_of_pos (p := fun c => decide (x < c ∧ c ≤ z)) (by simp; grind), List.length_cons, List.length_cons]
   omega
  ·by_cases q : y < a ∧ a ≤ z
   ·rw [List.filter_cons_of_neg (by simpa using p), List.filter_cons_of_pos (p := fun c => decide (y < c ∧ c ≤ z)) (by simpa using q), List.filter_cons_of_pos (p := fun c => decide (x < c ∧ c ≤ z)) (by simp; grind), List.length_cons, List.length_cons]
    omega
   ·rw [List.filter_cons_of_neg (by simpa using p), List.filter_cons_of_neg (p := fun c => decide (y < c ∧ c ≤ z)) (by simpa using q), List.filter_cons_of_neg (p := fun c => decide (x < c ∧ c ≤ z)) (by simp; intro; grind)]
    exact ih
theorem lcl_nz {f : List Rat} {cs : List (List Rat)} {x y : Rat} {zs : List Rat} (Z : Zrs f zs) (hxy : x ≤ y) (h : Lcl f cs x y) : chg cs x = chg cs y + nz zs x y := by
  rcases h with ⟨h1, h2⟩ | ⟨s, k, hs, mono, e1, e2⟩
  · rw [QpI fun z hz h => (h2 z (by grind) h.2).1 ((Z.z z).2 hz), h1]; rfl
  · rw [e1, e2]
    by_cases hx : s * evR f x < 0
    · by_cases hy : s * evR f y < 0
      · rw [if_pos hx, if_pos hy, QpI fun z hz h => ?_]
        have hz0 := (Z.z z).2 hz
        by_cases e : z = y
        · rw [← e, hz0] at hy; grind
        · have := mono z y (by grind) (by grind) Rat.le_refl
          rw [hz0] at this; grind
      · rw [if_pos hx, if_neg hy]
        have ex : ∃ z ∈ zs, x < z ∧ z ≤ y := by
          by_cases h0 : evR f y = 0
          · refine ⟨y, (Z.z y).1 h0, ?_, Rat.le_refl⟩
            by_cases e : x = y
            · rw [e, h0] at hx; grind
            · grind
          · have hlt : x < y := by
              by_cases e : x = y
              · rw [e] at hx; exact absurd hx hy
              · grind
            obtain ⟨z, hz, h1, h2⟩ := Z.i x y hlt (by
              have p1 : 0 < -(s * evR f x) := by grind
              have p2 : 0 < s * evR f y := by rcases hs with rfl | rfl <;> grind
              have := Rat.mul_pos p1 p2
              rcases hs with rfl | rfl <;> grind)
            exact ⟨z, hz, h1, by grind⟩
        obtain ⟨z, hz, h1, h2⟩ := ex
        rw [nz_one Z.s hz ⟨h1, h2⟩ fun w hw w1 w2 => ?_]
        have z0 := (Z.z z).2 hz
        have w0 := (Z.z w).2 hw
        by_cases c : w < z
        · have := mono w z (by grind) c h2
          rw [z0, w0] at this; grind
        · by_cases c2 : z < w
          · have := mono z w (by grind) c2 w2
            rw [z0, w0] at this; grind
          · grind
    · rw [if_neg hx]
      rw [QpI fun z hz h => by
        have hz0 := (Z.z z).2 hz
        have := mono x z Rat.le_refl h.1 h.2
        rw [hz0] at this; grind]
      have : ¬ s * evR f y < 0 := fun hy => by
        by_cases e : x = y
        · rw [← e] at hy; exact hx hy
        · have := mono x y Rat.le_refl (by grind) Rat.le_refl
          grind
      rw [if_neg this]
theorem sturm_n {f d : List Rat} {L : List (List Rat)} {zs : List Rat} (Z : Zrs f zs) {R δ : Rat} (hδ : 0 < δ) (H : ∀ x y, Ab x R → Ab y R → x ≤ y → y - x ≤ δ → Lcl f (f :: d :: L) x y) :
    ∀ (n : Nat) (lo hi : Rat), Ab lo R → Ab hi R → lo ≤ hi → hi - lo ≤ ((n : Int) : Rat) * δ → chg (f :: d :: L) lo = chg (f :: d :: L) hi + nz zs lo hi
  | 0, lo, hi, h1, h2, h3, h4 => lcl_nz Z h3 (H lo hi h1 h2 h3 (by grind))
  | n + 1, lo, hi, h1, h2, h3, h4 => by
    by_cases h : hi - lo ≤ δ
    · exact lcl_nz Z h3 (H lo hi h1 h2 h3 h)
    · have hm : Ab (lo + δ) R := ⟨by have := h1.1; grind, by have := h2.2; grind⟩
      have i1 := lcl_nz Z (show lo ≤ lo + δ by grind) (H lo (lo + δ) h1 hm (by grind) (by grind))
      have i2 := sturm_n Z hδ H n (lo + δ) hi hm h2 (by grind) (by grind)
      have := nz_add zs (x := lo) (y := lo + δ) (z := hi) (by grind) (by grind)
      omega
theorem arch (a δ : Rat) (hδ : 0 < δ) : ∃ n : Nat, a ≤ ((n : Int) : Rat) * δ := by
 have h1 := Rat.le_ceil (x := a * δ⁻¹)
 have h2 : a = a * δ⁻¹ * δ := by rw [Rat.mul_assoc, Rat.inv_mul_cancel _ (by grind), Rat.mul_one]
 refine ⟨(a * δ⁻¹).ceil.toNat, ?_⟩
 have h3 : a * δ⁻¹ ≤ (((a * δ⁻¹).ceil.toNat : Int) : Rat) := Rat.le_trans h1 (Rat.intCast_le_intCast.2 (Int.self_le_toNat _))
 have := Rat.mul_le_mul_of_nonneg_right h3 (Rat.le_of_lt hδ)
 grind
theorem sturm {f d : List Rat} {L : List (List Rat)} {zs : List Rat} (h : StOk f (d :: L)) (hd : ∀ x, evR d x = der f x) (Z : Zrs f zs) {lo hi : Rat} (hl : lo ≤ hi) : chg (f :: d :: L) lo = chg (f :: d :: L) hi + nz zs lo hi := by
 obtain ⟨A, hA⟩ := Qls lo
 obtain ⟨B, hB⟩ := Qls hi
 have a0 := hA.nn
 have b0 := hB.nn
 obtain ⟨δ, hδ, H⟩ := lcl (A + B) h hd
 obtain ⟨n, hn⟩ := arch (hi - lo) δ hδ
 exact sturm_n Z hδ H n lo hi (hA.mono (by grind)) (hB.mono (by grind)) hl hn
end Go.AM

/- Sturm, plain: the chain of a polynomial; its zeros. -/
namespace Go.AM
open Go Go.RowKit
theorem con_len {a u : List Rat} (ta : Trm a) (h : ∀ x, evR u x * evR a x = 1) : ∃ e, e ≠ 0 ∧ ∀ x, evR a x = e := by
 have hd : Dv a [1] := ⟨u, fun x => by rw [QbC, h]⟩
 have hl := Qdl ta Qjx (by simp) hd
 match a, hl with
 | [], _ => have := h 0; rw [QaG] at this; grind
 | [c], _ => exact ⟨c, fun h0 => by have := h 0; rw [QbC, h0] at this; grind, fun x => QbC c x⟩
theorem nx_chL (n : Nat) (a b : List Rat) (x : Rat) (hn : b.length ≤ n) : nx (chL n a b) x = evR b x := by
 match n, hn with
 | 0, hn =>
  have : b = [] := List.eq_nil_of_length_eq_zero (by omega)
  subst this
  rfl
 | n + 1, hn =>
  rw [chL]
  by_cases h : b = []
  ·rw [if_pos h, h]; rfl
  ·rw [if_neg h]; rfl
theorem chL_ok : ∀ (n : Nat) (a b : List Rat), Trm a → Trm b → b.length ≤ n → (∃ u v, ∀ x, evR u x * evR a x + evR v x * evR b x = 1) → StOk a (chL n a b)
 | 0, a, b, ta, tb, hn, ⟨u, v, h⟩ => by
  have : b = [] := List.eq_nil_of_length_eq_zero (by omega)
  subst this
  exact con_len (u := u) ta fun x => by have := h x; rw [QaG] at this; grind
 | n + 1, a, b, ta, tb, hn, ⟨u, v, h⟩ => by
  rw [chL]
  by_cases hb : b = []
  ·rw [if_pos hb]
   subst hb
   exact con_len (u := u) ta fun x => by have := h x; rw [QaG] at this; grind
  ·rw [if_neg hb]
   obtain ⟨q1, q2, _, _⟩ := QjD (p := a) tb hb
   have hl := List.length_pos_iff.2 hb
   have hr := len_sc (remP a b) (-1)
   refine ⟨⟨quoP a b, fun x => ?_⟩, ?_⟩
   ·rw [nx_chL n b _ x (by omega), Qh1, q1]; grind
   ·refine chL_ok n b _ tb (trm_sc _ _) (by omega) ⟨adP (muP u (quoP a b)) v, scP u (-1), fun x => ?_⟩
    have := h x
    rw [q1] at this
    rw [Qkl, Qaq, Qh1, Qh1]
    grind
theorem chP_ok {p : List Rat} (tp : Trm p) (p0 : p ≠ []) : StOk (frP p) (chL p.length (frP p) (deP (frP p))) := by
 have tf := Qdd p
 have fl := Qdl tf tp p0 (Qd2 tp p0)
 have nd := Qgz tf
 obtain ⟨⟨u, v, h⟩, _, _⟩ := Qcu tf (Qbe (frP p))
 rw [QkG tp p0] at h
 exact chL_ok _ _ _ tf (Qbe _) (by omega) ⟨u, v, fun x => by rw [← h, QbC]⟩
theorem der_pw (π : List Rat) (x : Rat) : ∀ j : Nat, der (pwP π (j + 1)) x = (((j + 1 : Nat) : Int) : Rat) * evR (pwP π j) x * der π x
 | 0 => by
  show der (muP [1] π) x = _
  rw [Qi0]
  show der [1] x * _ + evR [1] x * der π x = _ * evR [1] x * _
  have : der [1] x = 0 := by show evR [] x + x * der [] x = 0; rw [QaG]; show 0 + x * 0 = 0; grind
  rw [this, QbC]; grind
 | j + 1 => by
  show der (muP (pwP π (j + 1)) π) x = _
  rw [Qi0, der_pw π x j, show pwP π (j + 1) = muP (pwP π j) π from rfl, Qaq]
  generalize evR (pwP π j) x = a; generalize evR π x = b; generalize der π x = c
  grind
theorem QdI (u x : Rat) : evR [-u, 1] x = x - u := by rw [Qas, QbC]; grind
theorem Qjr (u : Rat) : Trm [-u, 1] := fun n h => by
 simp only [List.length_cons, List.length_nil] at h
 have : n = 1 := by omega
 subst this
 show (1 : Rat) ≠ 0
 decide
theorem dv_lin {p : List Rat} {u : Rat} : Dv [-u, 1] p ↔ evR p u = 0 := by
 constructor
 ·rintro ⟨s, h⟩
  rw [h, QdI]; grind
 ·intro h
  exact ⟨syn p u, fun x => by rw [QdI, Qgb p u x, h]; grind⟩
theorem irr_lin (u : Rat) : Irr [-u, 1] := by
 refine ⟨Qjr u, by simp, fun d td hd => ?_⟩
 have h := Qdl td (Qjr u) (by simp) hd
 have h0 : d ≠ [] := fun h0 => by
  rw [h0] at hd
  have := Qii (Qjr u) hd
  simp at this
 have := List.length_pos_iff.2 h0
 simp only [List.length_cons, List.length_nil] at h ⊢
 omega
theorem fr_root {p : List Rat} (tp : Trm p) (p0 : p ≠ []) (u : Rat) : evR (frP p) u = 0 ↔ evR p u = 0 := by
 constructor
 ·intro h
  obtain ⟨s, hs⟩ := Qd2 tp p0
  rw [hs, h]; grind
 ·intro h
  obtain ⟨ng, e, nF⟩ := QhA tp p0
  obtain ⟨_, _, d2⟩ := Qcu tp (Qbe p)
  obtain ⟨s, hs⟩ := QmW (Qd3 p (gcdP p (deP p)))
  have tg : Trm (gcdP p (deP p)) := Qde
  apply Classical.byContradiction
  intro hf
  have hmn : evR (mnP (quoP p (gcdP p (deP p)))) u ≠ 0 := hf
  have hq : evR (quoP p (gcdP p (deP p))) u ≠ 0 := fun h0 => hmn (by rw [ev_mn nF, h0]; grind)
  generalize quoP p (gcdP p (deP p)) = q at *
  generalize gcdP p (deP p) = g at *
  have hg : evR g u = 0 := by
   have := e u
   rw [h] at this
   rcases Rat.mul_eq_zero.1 this.symm with k | k
   ·exact absurd k hq
   ·exact k
  obtain ⟨k, w, tw, nw, hw⟩ := QmH (irr_lin u) g.length g (Nat.le_refl _) tg ng
  have hwu : evR w u ≠ 0 := fun h0 => nw (dv_lin.2 h0)
  match k, hw with
  | 0, hw =>
   rw [hw] at hg
   have : evR (pwP [-u, 1] 0) u = 1 := QbC 1 u
   rw [this] at hg
   exact hwu (by grind)
  | j + 1, hw =>
   obtain ⟨t, ht⟩ := d2
   have h1 : ∀ x, evR p x = evR (muP (pwP [-u, 1] (j + 1)) (muP q w)) x := fun x => by
    rw [e, hw, Qaq, Qaq]; grind
   have h2 : ∀ x, evR (adP (scP (muP q w) (((j + 1 : Nat) : Int) : Rat)) (muP (adP (deP (muP q w)) (scP (muP t w) (-1))) [-u, 1])) x * evR (pwP [-u, 1] j) x = evR [] x * evR (pwP [-u, 1] j) x := fun x => by
    have a1 := ht x
    rw [Qf1, Qhq h1, Qi0, der_pw, hw] at a1
    have a2 : der [-u, 1] x = 1 := by
     show evR [1] x + x * (evR [] x + x * 0) = 1
     rw [QbC, QaG]; grind
    simp only [a2, pwP, Qaq, QdI] at a1
    simp only [Qkl, Qh1, Qaq, Qf1, QdI, QaG]
    generalize evR q x = q' at *
    generalize evR w x = w' at *
    generalize der (muP q w) x = m' at *
    generalize evR (pwP [-u, 1] j) x = c at *
    generalize evR t x = t' at *
    generalize (((j + 1 : Nat) : Int) : Rat) = r at *
    grind
   have h3 := Qfp (pw_ne (Qjr u) (by simp) j) h2 u
   rw [Qkl, Qh1, Qaq, Qaq, QdI, QaG] at h3
   have h4 : evR q u * evR w u ≠ 0 := fun h0 => by
    rcases Rat.mul_eq_zero.1 h0 with k | k
    ·exact hq k
    ·exact hwu k
   have h5 : (((j + 1 : Nat) : Int) : Rat) ≠ 0 := fun h0 => by
    have : ((j + 1 : Nat) : Int) = 0 := by exact_mod_cast h0
    omega
   have h6 : evR q u * evR w u * (((j + 1 : Nat) : Int) : Rat) = 0 := by grind
   rcases Rat.mul_eq_zero.1 h6 with k | k
   ·exact h4 k
   ·exact h5 k
end Go.AM

/- Sturm, plain: polynomials that split; the bound of the zeros. -/
namespace Go.AM
open Go Go.RowKit
def Gd (m : List Rat) : Prop := ∀ f, Dv f m → ∀ u v, u < v → evR f u * evR f v < 0 → ∃ z, evR f z = 0 ∧ u < z ∧ z < v
theorem gd_lin {m n : List Rat} {z : Rat} (h : Gd m) (hn : ∀ x, evR n x = evR m x * (x - z)) : Gd n := by
  intro f ⟨s, hs⟩ u v huv hf
  by_cases hz : evR f z = 0
  · by_cases hb : u < z ∧ z < v
    · exact ⟨z, hz, hb⟩
    · have ef : ∀ x, evR f x = (x - z) * evR (syn f z) x := fun x => by rw [Qgb f z x, hz]; grind
      have hd : Dv (syn f z) m := by
        refine ⟨s, fun x => ?_⟩
        refine Qfp (c := [-z, 1]) (a := m) (b := muP s (syn f z)) ⟨z + 1, by rw [QdI]; grind⟩ (fun x => ?_) x |>.trans (Qaq _ _ _)
        have := hs x
        rw [hn, ef] at this
        rw [QdI, Qaq, this]; grind
      have hf' : evR (syn f z) u * evR (syn f z) v < 0 := by
        rw [ef u, ef v] at hf
        have h0 : 0 ≤ (u - z) * (v - z) := by
          by_cases c : u < z
          · have := Rat.mul_nonneg (a := z - u) (b := z - v) (by grind) (by grind)
            grind
          · exact Rat.mul_nonneg (by grind) (by grind)
        generalize evR (syn f z) u = a at *
        generalize evR (syn f z) v = b at *
        by_cases c : a * b < 0
        · exact c
        · have := Rat.mul_nonneg h0 (show 0 ≤ a * b by grind)
          grind
      obtain ⟨w, w1, w2, w3⟩ := h _ hd u v huv hf'
      exact ⟨w, by rw [ef, w1]; grind, w2, w3⟩
  · have hs0 : evR s z = 0 := by
      have := hs z
      rw [hn] at this
      have e : evR s z * evR f z = 0 := by grind
      rcases Rat.mul_eq_zero.1 e with k | k
      · exact k
      · exact absurd k hz
    have hd : Dv f m := by
      refine ⟨syn s z, fun x => ?_⟩
      refine Qfp (c := [-z, 1]) (a := m) (b := muP (syn s z) f) ⟨z + 1, by rw [QdI]; grind⟩ (fun x => ?_) x |>.trans (Qaq _ _ _)
      have := hs x
      rw [hn, Qgb s z x, hs0] at this
      rw [QdI, Qaq, this]; grind
    exact h f hd u v huv hf
theorem gd_con {m : List Rat} {e : Rat} (e0 : e ≠ 0) (h : ∀ x, evR m x = e) : Gd m := by
 intro f ⟨s, hs⟩ u v huv hf
 exfalso
 have hd : Dv (QaS f) [1] := ⟨scP s e⁻¹, fun x => by
  rw [QbC, Qh1, Qa0]
  have := hs x
  rw [h] at this
  have := Rat.mul_inv_cancel e e0
  grind⟩
 have hl := Qdl (Qbr f) Qjx (by simp) hd
 have ef : ∀ x, evR f x = evR (QaS f) x := fun x => (Qa0 f x).symm
 rw [ef u, ef v] at hf
 match hfl : QaS f, (show (QaS f).length ≤ 1 from hl) with
 | [], _ => rw [hfl, QaG, QaG] at hf; grind
 | [c], _ =>
  rw [hfl, QbC, QbC] at hf
  by_cases hc : 0 ≤ c
  ·have := Rat.mul_nonneg hc hc; grind
  ·have := Rat.mul_nonneg (a := -c) (b := -c) (by grind) (by grind); grind
theorem QiT (x : Rat) : 0 ≤ x * x := by
 by_cases hc : 0 ≤ x
 ·exact Rat.mul_nonneg hc hc
 ·have := Rat.mul_nonneg (a := -x) (b := -x) (by grind) (by grind); grind
theorem gd_wild {m : List Rat} {e : Rat} (e0 : e ≠ 0) (h : ∀ x, evR m x = e * (x * x + 1)) : Gd m := by
 intro f hf
 obtain ⟨s, hs⟩ := hf
 intro u v huv hf
 exfalso
 have tm : Dv (QaS f) (QaS [e, 0, e]) := ⟨s, fun x => by
  rw [Qa0, Qa0, ← hs, h, Qas, Qas, QbC]; grind⟩
 have ef : ∀ x, evR f x = evR (QaS f) x := fun x => (Qa0 f x).symm
 have hnz : ∀ x, evR f x ≠ 0 := fun x hx => by
  have := hs x
  rw [h, hx] at this
  have h1 := QiT x
  have h2 : e * (x * x + 1) = 0 := by grind
  rcases Rat.mul_eq_zero.1 h2 with k | k
  ·exact e0 k
  ·grind
 have ne : QaS [e, 0, e] ≠ [] := fun h0 => by
  have := Qa0 [e, 0, e] 0
  rw [h0, QaG, Qas, Qas, QbC] at this
  grind
 have hl := Qdl (Qbr f) (Qbr _) ne tm
 have h3 : (QaS [e, 0, e]).length ≤ 3 := Qcs _
 have h2 := tm
 obtain ⟨t, ht⟩ := tm
 have hnz' : ∀ x, evR (QaS f) x ≠ 0 := fun x => by rw [← ef]; exact hnz x
 have tf := Qbr f
 rw [ef u, ef v] at hf
 match hfl : QaS f, (show (QaS f).length ≤ 3 by omega) with
 | [], _ => rw [hfl] at hnz'; exact hnz' 0 (QaG 0)
 | [c], _ =>
  rw [hfl, QbC, QbC] at hf
  have := QiT c
  grind
 | [a, b], _ =>
  rw [hfl] at hnz' tf
  have hb : b ≠ 0 := by
   have := tf 1 (by simp)
   simpa using this
  refine hnz' (-a * b⁻¹) ?_
  rw [Qas, QbC]
  have := Rat.mul_inv_cancel b hb
  grind
 | [a, b, c], _ =>
  -- then it is a multiple of the whole
  rw [hfl] at hf hnz' tf ht
  obtain ⟨s', ts', ns', _, es, ls⟩ := Qh7 (q := [a, b, c]) tf (Qbr _) ne (by rw [← hfl]; exact h2)
  simp only [List.length_cons, List.length_nil] at ls
  have l1 := List.length_pos_iff.2 ns'
  have l2 : s'.length = 1 := by omega
  match s', l2 with
  | [k], _ =>
   have ek : ∀ x, k * evR [a, b, c] x = e * (x * x + 1) := fun x => by
    have : evR (QaS [e, 0, e]) x = evR (muP [k] [a, b, c]) x := by rw [es]
    rw [Qa0, Qaq, QbC, Qas, Qas, QbC] at this
    grind
   have q1 := ek u
   have q2 := ek v
   have p1 := QiT u
   have p2 := QiT v
   have p3 := Rat.mul_nonneg (a := u * u + 1) (b := v * v + 1) (by grind) (by grind)
   have p4 := Rat.mul_nonneg (QiT e) p3
   generalize evR [a, b, c] u = A at *
   generalize evR [a, b, c] v = B at *
   have p5 := Rat.mul_nonneg (QiT k) (show 0 ≤ -(A * B) by grind)
   have p6 : k * k * (A * B) = e * e * ((u * u + 1) * (v * v + 1)) := by
    have : k * k * (A * B) = (k * A) * (k * B) := by grind
    rw [this, q1, q2]; grind
   have k0 : k ≠ 0 := fun h0 => by
    rw [h0] at q1
    have h2 : e * (u * u + 1) = 0 := by grind
    rcases Rat.mul_eq_zero.1 h2 with k | k
    ·exact e0 k
    ·grind
   have p7 : k * k * (A * B) = 0 := by grind
   rcases Rat.mul_eq_zero.1 p7 with r | r
   ·rcases Rat.mul_eq_zero.1 r with r | r <;> exact k0 r
   ·grind
end Go.AM

/- Free parts, plain: what they are; a sharper size of the greatest divisor. -/
namespace Go.AM
open Go Go.RowKit
theorem irr_der {π : List Rat} (h : Irr π) : ¬ Dv π (deP π) := fun hd => by
 have l1 := Qgz h.1
 have h3 := h.2.1
 have nd : deP π ≠ [] := fun h0 => by rw [h0] at l1; simp only [List.length_nil] at l1; omega
 have := Qdl h.1 (Qbe π) nd hd
 omega
theorem irr_con {π : List Rat} (h : Irr π) {e : Rat} (e0 : e ≠ 0) {m : List Rat} (hm : ∀ x, evR m x = e) : ¬ Dv π m := fun ⟨s, hs⟩ => by
 have hd : Dv π [1] := ⟨scP s e⁻¹, fun x => by
  have := hs x
  rw [hm] at this
  have := Rat.mul_inv_cancel e e0
  rw [QbC, Qh1]; grind⟩
 have := Qdl h.1 Qjx (by simp) hd
 have := h.2.1
 simp only [List.length_cons, List.length_nil] at *
 omega
theorem fr_irr {p π : List Rat} (tp : Trm p) (p0 : p ≠ []) (hI : Irr π) (h : Dv π p) : Dv π (frP p) := by
 obtain ⟨ng, e, nF⟩ := QhA tp p0
 obtain ⟨_, _, d2⟩ := Qcu tp (Qbe p)
 have tg : Trm (gcdP p (deP p)) := Qde
 have tq := Qd3 p (gcdP p (deP p))
 suffices hq : Dv π (quoP p (gcdP p (deP p))) from hq.trans Qp3
 generalize quoP p (gcdP p (deP p)) = q at *
 generalize gcdP p (deP p) = g at *
 apply Classical.byContradiction
 intro hn
 have hg : Dv π g := by
  have : Dv π (muP q g) := by
   obtain ⟨s, hs⟩ := h
   exact ⟨s, fun x => by rw [Qaq, ← e, hs]⟩
  rcases Qdp hI tq this with k | k
  ·exact absurd k hn
  ·exact k
 obtain ⟨k, w, tw, nw, hw⟩ := QmH hI g.length g (Nat.le_refl _) tg ng
 match k, hw with
 | 0, hw =>
  refine nw ?_
  obtain ⟨s, hs⟩ := hg
  exact ⟨s, fun x => by
   have h1 := hw x
   have : evR (pwP π 0) x = 1 := QbC 1 x
   rw [this] at h1
   rw [← hs x, h1]; grind⟩
 | j + 1, hw =>
  obtain ⟨t, ht⟩ := d2
  have h1 : ∀ x, evR p x = evR (muP (pwP π (j + 1)) (muP q w)) x := fun x => by
   rw [e, hw, Qaq, Qaq]; grind
  have h5 : (((j + 1 : Nat) : Int) : Rat) ≠ 0 := fun h0 => by
   have : ((j + 1 : Nat) : Int) = 0 := by exact_mod_cast h0
   omega
  have h2 : ∀ x, evR (scP (muP (muP q w) (deP π)) (((j + 1 : Nat) : Int) : Rat)) x * evR (pwP π j) x = evR (muP (adP (muP t w) (scP (deP (muP q w)) (-1))) π) x * evR (pwP π j) x := fun x => by
   have a1 := ht x
   rw [Qf1, Qhq h1, Qi0, der_pw, hw] at a1
   simp only [pwP, Qaq] at a1
   simp only [Qkl, Qh1, Qaq, Qf1]
   generalize evR q x = q' at *
   generalize evR w x = w' at *
   generalize der (muP q w) x = m' at *
   generalize evR (pwP π j) x = c at *
   generalize evR t x = t' at *
   generalize evR π x = b at *
   generalize der π x = b' at *
   generalize (((j + 1 : Nat) : Int) : Rat) = r at *
   grind
  have h3 := Qfp (pw_ne hI.1 (irr_ne hI) j) h2
  have hd : Dv π (muP (muP q w) (deP π)) := by
   refine ⟨scP (adP (muP t w) (scP (deP (muP q w)) (-1))) ((((j + 1 : Nat) : Int) : Rat)⁻¹), fun x => ?_⟩
   have a := h3 x
   have b := Rat.mul_inv_cancel _ h5
   rw [Qh1, Qaq _ π] at a
   rw [Qh1]
   generalize (((j + 1 : Nat) : Int) : Rat) = r at *
   generalize evR (muP (muP q w) (deP π)) x = A at *
   generalize evR (adP (muP t w) (scP (deP (muP q w)) (-1))) x = B at *
   grind
  rcases Qdp hI (Qd1 _ _) hd with k | k
  ·rcases Qdp hI tq k with k | k
   ·exact hn k
   ·exact nw k
  ·exact irr_der hI k
theorem sqf_no {f π w : List Rat} (tf : Trm f) (hf : gcdP f (deP f) = [1]) (hI : Irr π) (h : ∀ x, evR f x = evR w x * evR π x * evR π x) : False := by
 obtain ⟨⟨u, v, hb⟩, _, _⟩ := Qcu tf (Qbe f)
 rw [hf] at hb
 have hp : ∀ x, evR f x = evR (muP (muP w π) π) x := fun x => by rw [h, Qaq, Qaq]
 refine irr_con hI (e := 1) (by decide) (m := [1]) (fun x => QbC 1 x) ⟨adP (muP u (muP w π)) (muP v (adP (deP (muP w π)) (muP w (deP π)))), fun x => ?_⟩
 have h1 := hb x
 rw [Qf1, Qhq hp, Qi0, h] at h1
 rw [h1]
 simp only [Qkl, Qaq, Qf1]
 grind
theorem sqf_dv {f F : List Rat} (tf : Trm f) (f0 : f ≠ []) (tF : Trm F) (hf : gcdP f (deP f) = [1]) (h : ∀ π, Irr π → Dv π f → Dv π F) : Dv f F := by
 obtain ⟨⟨u, v, hb⟩, d1, d2⟩ := Qcu tf tF
 have td : Trm (gcdP f F) := Qde
 obtain ⟨e, te, ne, nd, ef, _⟩ := Qh7 td tf f0 d1
 have hev : ∀ x, evR f x = evR e x * evR (gcdP f F) x := fun x => by
  have : evR f x = evR (muP e (gcdP f F)) x := by rw [← ef]
  rw [this, Qaq]
 by_cases h2 : 2 ≤ e.length
 ·exfalso
  obtain ⟨π, hI, hπ⟩ := QoU _ _ (Nat.le_refl _) te h2
  obtain ⟨s, hs⟩ := hπ
  have hpf : Dv π f := ⟨muP s (gcdP f F), fun x => by rw [hev, hs, Qaq]; grind⟩
  obtain ⟨a, ha⟩ := hpf
  obtain ⟨b, hb2⟩ := h π hI ⟨a, ha⟩
  have hpd : Dv π (gcdP f F) := ⟨adP (muP u a) (muP v b), fun x => by rw [hb, ha, hb2, Qkl, Qaq, Qaq]; grind⟩
  obtain ⟨c, hc⟩ := hpd
  exact sqf_no tf hf hI (w := muP s c) fun x => by rw [hev, hs, hc, Qaq]; grind
 ·have hl := List.length_pos_iff.2 ne
  match e, (show e.length = 1 by omega) with
  | [k], _ =>
   have k0 : k ≠ 0 := te 0 rfl
   obtain ⟨t, ht⟩ := d2
   refine ⟨scP t k⁻¹, fun x => ?_⟩
   have := Rat.mul_inv_cancel k k0
   rw [ht, Qh1, hev, QbC]; grind
theorem fr_is {f r : List Rat} (tf : Trm f) (f0 : f ≠ []) (mf : Mo f) (hf : gcdP f (deP f) = [1]) (tr : Trm r) (r0 : r ≠ []) (h1 : Dv f r) (h2 : ∀ π, Irr π → Dv π r → Dv π f) : frP r = f := by
 have hF := QkG tr r0
 have nF := Qg8 tr r0
 have tF := Qdd r
 refine Qk0 tF tf (QnA (Qd3 _ _)) mf ?_ ?_
 ·exact sqf_dv tF nF tf hF fun π hI hd => h2 π hI (hd.trans (Qd2 tr r0))
 ·exact sqf_dv tf f0 tF hf fun π hI hd => fr_irr tr r0 hI (hd.trans h1)
theorem Qp7 {K : Nat} : ∀ (n s : Nat) (a b : List Rat), HL s s a → HL s s b → Trm b → b ≠ [] → b.length < n → (s + 1) * (dvN a b + 1) * 3 ^ b.length ≤ K * 3 ^ (gcP n a b).length → HL K K (gcP n a b)
  | 0, _, _, b, _, _, _, _, h, _ => by omega
  | n + 1, s, a, b, Ha, Hb, tb, hb, hn, hK => by
    have hlb : 0 < b.length := List.length_pos_iff.2 hb
    rw [gcP, if_neg hb] at hK ⊢
    obtain ⟨_, q2, _, _⟩ := QjD (p := a) tb hb
    have hr := QeU (remP a b)
    have he2 : dvN a b * (s + 1) = s * dvN a b + dvN a b := by rw [Nat.mul_add, Nat.mul_one, Nat.mul_comm]
    have he3 : dvN a b * s = s * dvN a b := Nat.mul_comm _ _
    by_cases hr0 : mnP (remP a b) = []
    · have e : gcP n b (mnP (remP a b)) = b := by
        obtain ⟨m, rfl⟩ : ∃ m, n = m + 1 := ⟨n - 1, by omega⟩
        rw [gcP, if_pos hr0]
      rw [e] at hK ⊢
      have h3 : 0 < 3 ^ b.length := Nat.pow_pos (by decide)
      have hs : (s + 1) * (dvN a b + 1) ≤ K := Nat.le_of_mul_le_mul_right hK h3
      have : s + 1 ≤ (s + 1) * (dvN a b + 1) := Nat.le_mul_of_pos_right _ (by omega)
      exact Hb.mono (by omega) (by omega)
    · obtain ⟨_, g2, _⟩ := Qkb (K := (s + dvN a b * (s + 1)) + s + 1) Ha Hb tb (by rw [he2, he3]; omega)
      have g3 := Qh2 g2 (trm_dv a b)
      have e1 : s + dvN a b * (s + 1) + 1 = (s + 1) * (dvN a b + 1) := by
        rw [he2, Nat.mul_add (s + 1), Nat.add_mul s 1, Nat.mul_one, Nat.one_mul]; omega
      refine Qp7 (K := K) n (s + dvN a b * (s + 1)) b (mnP (remP a b)) (Hb.mono (by omega) (by omega)) g3 (Qfg _) hr0 (by omega) ?_
      rw [e1]
      refine Nat.le_trans ?_ hK
      rw [Nat.mul_assoc]
      refine Nat.mul_le_mul_left _ (Nat.le_trans (Nat.le_of_eq ?_) (QiM (a := (mnP (remP a b)).length) (b := b.length) (by omega)))
      congr 1
      unfold dvN; omega
end Go.AM

/- Squares, plain: what sturm.odd meets at k q^2. -/
namespace Go.AM
open Go Go.RowKit
theorem mo_mu {a b : List Rat} (ta : Trm a) (tb : Trm b) (na : a ≠ []) (nb : b ≠ []) (ma : Mo a) (mb : Mo b) : Mo (muP a b) := by
 have h1 := List.length_pos_iff.2 na
 have h2 := List.length_pos_iff.2 nb
 right
 rw [QjC ta tb na nb, show a.length + b.length - 1 - 1 = a.length - 1 + (b.length - 1) by omega, QmQ, QkL h1 h2, ma.resolve_left na, mb.resolve_left nb, Rat.mul_one]
theorem mu_ne {a b : List Rat} (ta : Trm a) (tb : Trm b) (na : a ≠ []) (nb : b ≠ []) : muP a b ≠ [] := fun h => by
 have := QjC ta tb na nb
 have h1 := List.length_pos_iff.2 na
 have h2 := List.length_pos_iff.2 nb
 rw [h] at this
 simp only [List.length_nil] at this
 omega
section
variable {q : List Rat} {k : Rat}
end
end Go.AM

/- sturm.odd: its loop's end. -/
namespace Go.AM
open Go Go.RowKit
variable [Its]
end Go.AM

/- sturm.odd at k q^2: the answer is 1. -/
namespace Go.AM
open Go Go.RowKit
theorem gc_sharp2 {q : List Rat} {s : Nat} (tq : Trm q) (H : HL s s q) (h2 : 2 ≤ q.length) (n9 : q.length ≤ 40) : HL ((s + 2) * 3 ^ q.length / 3 ^ (gcdP q (deP q)).length + 1) ((s + 2) * 3 ^ q.length / 3 ^ (gcdP q (deP q)).length + 1) (gcdP q (deP q)) := by
 have l1 := QeK tq
 have l2 := QeK (Qbe q)
 have ld := Qgz tq
 have hne : mnP (deP q) ≠ [] := fun h0 => by rw [h0] at l2; simp only [List.length_nil] at l2; omega
 have hd : HL (s + 1) (s + 1) (deP q) := (H.de (by have : BB = 1000000000 := rfl; omega)).mono (by omega) (by omega)
 refine Qp7 ((deP q).length + 1) (s + 1) (mnP q) (mnP (deP q)) ((Qh2 H tq).mono (by omega) (by omega)) (Qh2 hd (Qbe q)) (Qfg _) hne (by omega) ?_
 have h3 : (dvN (mnP q) (mnP (deP q)) + 1) * 3 ^ (mnP (deP q)).length = 3 ^ q.length := by
  have e : dvN (mnP q) (mnP (deP q)) + 1 = 3 := by unfold dvN; omega
  rw [e, l2, ld, show q.length = (q.length - 1) + 1 by omega, Nat.pow_succ, Nat.add_sub_cancel, Nat.mul_comm]
 rw [Nat.mul_assoc, h3]
 show (s + 2) * 3 ^ q.length ≤ ((s + 2) * 3 ^ q.length / 3 ^ (gcdP q (deP q)).length + 1) * 3 ^ (gcdP q (deP q)).length
 generalize (s + 2) * 3 ^ q.length = A
 have hp : 0 < 3 ^ (gcdP q (deP q)).length := Nat.pow_pos (by decide)
 generalize 3 ^ (gcdP q (deP q)).length = B at *
 have := Nat.div_add_mod A B
 have := Nat.mod_lt A hp
 rw [Nat.add_mul, Nat.one_mul, Nat.mul_comm]
 omega
variable [Its]
section
variable {d : D} {r : List Rat}
theorem pFreeB {s N Kg : Nat} (hr : RwR d r) (tr : Trm r) (r0 : r ≠ []) (H : HL s s r) (hN : r.length ≤ N) (N9 : N ≤ 40) (hK : (s + 2) * 3 ^ N ≤ Kg) (hB : s + N * (Kg + 1) + Kg + 1 ≤ 900000000) : ∃ d', RwR d' (frP r) ∧ Qaj G Qb8 [d] = some (.d d') := by
 have l1 := QeK tr
 have l2 := QeK (Qbe r)
 have ld := Qgz tr
 have hp := List.length_pos_iff.2 r0
 have h31 : 1 ≤ 3 ^ N := Nat.one_le_pow _ _ (by decide)
 have hs : s + 2 ≤ Kg := Nat.le_trans (Nat.le_mul_of_pos_right _ h31) hK
 have hd : HL (s + 1) (s + 1) (deP r) := (H.de (by have : BB = 1000000000 := rfl; omega)).mono (by omega) (by omega)
 have h2 : (s + 1 + 1) * (dvN (mnP r) (mnP (deP r)) + 1) * 3 ^ (mnP (deP r)).length ≤ Kg := by
  refine Nat.le_trans ?_ hK
  rw [Nat.mul_assoc]
  refine Nat.mul_le_mul_left _ ?_
  have h3 : (dvN (mnP r) (mnP (deP r)) + 1) * 3 ^ (mnP (deP r)).length = 3 ^ r.length := by
   have e : dvN (mnP r) (mnP (deP r)) + 1 = 3 := by unfold dvN; omega
   rw [e, l2, ld, show r.length = (r.length - 1) + 1 by omega, Nat.pow_succ, Nat.add_sub_cancel, Nat.mul_comm]
  rw [h3]
  exact Nat.pow_le_pow_right (by decide) hN
 obtain ⟨g1, _, Hg⟩ := QqI (K := Kg) ((deP r).length + 1) (s + 1) (mnP r) (mnP (deP r)) ((Qh2 H tr).mono (by omega) (by omega)) (Qh2 hd (Qbe r)) (Qfg _) (by omega) h2
 have Hg : HL Kg Kg (gcdP r (deP r)) := Hg
 have ng := Qjb tr (Qbe r) (.inl r0)
 have hl := List.length_pos_iff.2 ng
 have gl := QqJ (M := N) (b := deP r) hN (by have := Qoq r; omega)
 have hm : dvN r (gcdP r (deP r)) ≤ N := by unfold dvN; omega
 have k1 : dvN r (gcdP r (deP r)) * Kg ≤ N * Kg := Nat.mul_le_mul_right _ hm
 have k2 : dvN r (gcdP r (deP r)) * (Kg + 1) ≤ N * (Kg + 1) := Nat.mul_le_mul_right _ hm
 have k3 : N * (Kg + 1) = N * Kg + N := Nat.mul_succ _ _
 obtain ⟨x, _, z⟩ := Qkb (K := 900000000) H Hg Qde (by omega)
 exact Qfr hr (by omega) (K := 900000001) (by omega) (by omega) (H.sz.mono (by omega)) (hd.sz.mono (by omega)) (Qng (by omega) _ _ _ g1) (by omega) (Hg.sz.mono (by omega)) (QkM (by omega) _ _ x) (z.sz.mono (by omega))
end
end Go.AM

/- sturm.odd at a general polynomial: what it answers divides the free part; sizes. -/
namespace Go.AM
open Go Go.RowKit
theorem sqf_gcd {a f : List Rat} (ta : Trm a) (a0 : a ≠ []) (tf : Trm f) (hf : gcdP f (deP f) = [1]) (h : Dv a f) : gcdP a (deP a) = [1] := by
 obtain ⟨_, d1, d2⟩ := Qcu ta (Qbe a)
 have td : Trm (gcdP a (deP a)) := Qde
 have md := Qjf ta (Qbe a)
 have nd := Qjb ta (Qbe a) (.inl a0)
 by_cases h2 : 2 ≤ (gcdP a (deP a)).length
 ·exfalso
  obtain ⟨π, hI, hπ⟩ := QoU _ _ (Nat.le_refl _) td h2
  obtain ⟨w, tw, nw, _, ew, _⟩ := Qh7 hI.1 ta a0 (hπ.trans d1)
  obtain ⟨t, ht⟩ := hπ.trans d2
  have hev : ∀ x, evR a x = evR w x * evR π x := fun x => by rw [ew, Qaq]
  have hd : Dv π (muP w (deP π)) := ⟨sbP t (deP w), fun x => by
   have e1 := ht x
   have e2 : evR (deP a) x = der w x * evR π x + evR w x * der π x := by
    rw [Qf1, Qhq (m := muP w π) (fun x => by rw [Qaq, hev]), Qi0]
   rw [e2] at e1
   rw [Qaq, QmC, Qf1, Qf1]
   grind⟩
  rcases Qdp hI tw hd with k | k
  ·obtain ⟨c, hc⟩ := k
   obtain ⟨s, hs⟩ := h
   exact sqf_no tf hf hI (w := muP s c) fun x => by rw [hs, hev, hc, Qaq]; grind
  ·exact irr_der hI k
 ·have hl := List.length_pos_iff.2 nd
  exact Qgc md (by omega)
section
variable {g : List Rat} {k : Rat}
end
end Go.AM

/- Sturm, plain: changes along chains, piece by piece; the zeros of a product. -/
namespace Go.AM
open Go Go.RowKit
theorem Qme (R : Rat) {p : List Rat} (tp : Trm p) (p0 : p ≠ []) : ∃ δ, 0 < δ ∧ ∀ x y, Ab x R → Ab y R → x ≤ y → y - x ≤ δ → Lcl (frP p) (chP p) x y := by
 have ok := chP_ok tp p0
 rw [chP, if_neg p0]
 obtain ⟨n, hn⟩ : ∃ n, p.length = n + 1 := ⟨p.length - 1, by have := List.length_pos_iff.2 p0; omega⟩
 rw [hn, chL] at ok ⊢
 by_cases hb : deP (frP p) = []
 ·rw [if_pos hb] at ok ⊢
  obtain ⟨e, e0, he⟩ := ok
  refine ⟨1, by decide, fun x y _ _ _ _ => .inl ⟨?_, fun u _ _ => ⟨by rw [he]; exact e0, by rw [he, he]⟩⟩⟩
  rw [QhJ _ _ _ (by rw [he]; exact e0), QhJ _ _ _ (by rw [he]; exact e0)]
  rw [he, he]; rfl
 ·rw [if_neg hb] at ok ⊢
  exact lcl R ok (fun x => Qf1 _ _)
section
variable {f : List Rat} {cs : List (List Rat)} {x y : Rat}
theorem Qqe {a b : Rat} (h : sgQ a = sgQ b) (hb : b ≠ 0) : 0 < a * b := by
 rcases Qdk a with ⟨p, e⟩ | ⟨p, e⟩ | ⟨p, e⟩ <;> rcases Qdk b with ⟨q, e'⟩ | ⟨q, e'⟩ | ⟨q, e'⟩
 ·exact Rat.mul_pos p q
 ·exact absurd q hb
 ·omega
 ·omega
 ·exact absurd q hb
 ·omega
 ·omega
 ·exact absurd q hb
 ·have := Rat.mul_pos (a := -a) (b := -b) (by grind) (by grind); grind
theorem Lcl.one_of (h : Lcl f cs x y) {z : Rat} (h1 : x < z) (h2 : z ≤ y) (hz : evR f z = 0) : chg cs x = chg cs y + 1 := by
 rcases h with ⟨_, h⟩ | ⟨s, k, hs, mono, e1, e2⟩
 ·exact absurd hz (h z (Rat.le_of_lt h1) h2).1
 ·have a := mono x z Rat.le_refl h1 h2
  rw [hz] at a
  have hx : s * evR f x < 0 := by grind
  have hy : ¬ s * evR f y < 0 := fun hy => by
   by_cases c : z = y
   ·rw [← c, hz] at hy; grind
   ·have := mono z y (Rat.le_of_lt h1) (by grind) Rat.le_refl
    rw [hz] at this; grind
  rw [e1, e2, if_pos hx, if_neg hy]
theorem Lcl.one_chg (h : Lcl f cs x y) (hxy : x ≤ y) (hf : evR f x * evR f y < 0) : chg cs x = chg cs y + 1 := by
  rcases h with ⟨_, h⟩ | ⟨s, k, hs, mono, e1, e2⟩
  · have a := (h y hxy Rat.le_refl).2
    have b := (h x Rat.le_refl hxy).1
    have := Qqe a b
    grind
  · have hne : x ≠ y := fun h0 => by
      rw [h0] at hf
      have := QiT (evR f y)
      grind
    have a := mono x y Rat.le_refl (by grind) Rat.le_refl
    generalize evR f x = u at *
    generalize evR f y = v at *
    have hx : s * u < 0 := Classical.byContradiction fun h0 => by
      have p1 : 0 ≤ s * u := by grind
      have p2 : 0 ≤ s * v := by grind
      have := Rat.mul_nonneg p1 p2
      rcases hs with rfl | rfl <;> grind
    have hy : ¬ s * v < 0 := fun h0 => by
      have := Rat.mul_pos (a := -(s * u)) (b := -(s * v)) (by grind) (by grind)
      rcases hs with rfl | rfl <;> grind
    rw [e1, e2, if_pos hx, if_neg hy]
theorem Lcl.zero_of (h : Lcl f cs x y) (hf : 0 < evR f x * evR f y) : chg cs x = chg cs y := by
  rcases h with ⟨h, _⟩ | ⟨s, k, hs, mono, e1, e2⟩
  · exact h
  · generalize evR f x = u at *
    generalize evR f y = v at *
    rw [e1, e2]
    by_cases hx : s * u < 0
    · have : s * v < 0 := Classical.byContradiction fun h0 => by
        have := Rat.mul_nonneg (a := -(s * u)) (b := s * v) (by grind) (by grind)
        rcases hs with rfl | rfl <;> grind
      rw [if_pos hx, if_pos this]
    · have : ¬ s * v < 0 := fun h0 => by
        have := Rat.mul_nonneg (a := s * u) (b := -(s * v)) (by grind) (by grind)
        rcases hs with rfl | rfl <;> grind
      rw [if_neg hx, if_neg this]
theorem Lcl.cases (h : Lcl f cs x y) (hxy : x ≤ y) : chg cs x = chg cs y ∨ (chg cs x = chg cs y + 1 ∧ x < y ∧ evR f x ≠ 0 ∧ (evR f y = 0 ∨ evR f x * evR f y < 0)) := by
 rcases h with ⟨h, _⟩ | ⟨s, k, hs, mono, e1, e2⟩
 ·exact .inl h
 ·by_cases hx : s * evR f x < 0
  ·by_cases hy : s * evR f y < 0
   ·left; rw [e1, e2, if_pos hx, if_pos hy]
   ·right
    have hne : x ≠ y := fun h0 => by rw [h0] at hx; exact hy hx
    refine ⟨by rw [e1, e2, if_pos hx, if_neg hy], by grind, fun h0 => by rw [h0] at hx; grind, ?_⟩
    by_cases h0 : evR f y = 0
    ·exact .inl h0
    ·right
     generalize evR f x = u at *
     generalize evR f y = v at *
     have : 0 < s * v := by
      rcases hs with rfl | rfl <;> grind
     have := Rat.mul_pos (a := -(s * u)) (b := s * v) (by grind) this
     rcases hs with rfl | rfl <;> grind
  ·left
   have : ¬ s * evR f y < 0 := fun hy => by
    by_cases c : x = y
    ·rw [c] at hx; exact hx hy
    ·have := mono x y Rat.le_refl (by grind) Rat.le_refl
     grind
   rw [e1, e2, if_neg hx, if_neg this]
end
theorem steps {P : Rat → Rat → Prop} (tr : ∀ x y z, x ≤ y → y ≤ z → P x y → P y z → P x z) {R δ : Rat} (hδ : 0 < δ) (H : ∀ x y, Ab x R → Ab y R → x ≤ y → y - x ≤ δ → P x y) :
    ∀ (n : Nat) (lo hi : Rat), Ab lo R → Ab hi R → lo ≤ hi → hi - lo ≤ ((n : Int) : Rat) * δ → P lo hi
  | 0, lo, hi, h1, h2, h3, h4 => H lo hi h1 h2 h3 (by grind)
  | n + 1, lo, hi, h1, h2, h3, h4 => by
    by_cases h : hi - lo ≤ δ
    · exact H lo hi h1 h2 h3 h
    · have hm : Ab (lo + δ) R := ⟨by have := h1.1; grind, by have := h2.2; grind⟩
      exact tr lo (lo + δ) hi (by grind) (by grind) (H lo (lo + δ) h1 hm (by grind) (by grind)) (steps tr hδ H n (lo + δ) hi hm h2 (by grind) (by grind))
theorem Qn6 {P : Rat → Rat → Prop} (tr : ∀ x y z, x ≤ y → y ≤ z → P x y → P y z → P x z) (H : ∀ R, ∃ δ, 0 < δ ∧ ∀ x y, Ab x R → Ab y R → x ≤ y → y - x ≤ δ → P x y) {lo hi : Rat} (hl : lo ≤ hi) : P lo hi := by
 obtain ⟨A, hA⟩ := Qls lo
 obtain ⟨B, hB⟩ := Qls hi
 have a0 := hA.nn
 have b0 := hB.nn
 obtain ⟨δ, hδ, h⟩ := H (A + B)
 obtain ⟨n, hn⟩ := arch (hi - lo) δ hδ
 exact steps tr hδ h n lo hi (hA.mono (by grind)) (hB.mono (by grind)) hl hn
section
variable {p : List Rat} {lo hi : Rat}
end
section
variable {p q F h : List Rat}
theorem QrM {csF cp cq : List (List Rat)} {f fq : List Rat} {x y : Rat} (hF : ∀ x, evR F x = evR f x * evR h x) (hq : Dv h fq) (gd : Gd fq) (LF : Lcl F csF x y) (Lp : Lcl f cp x y) (Lq : Lcl fq cq x y) (hxy : x ≤ y) : chg csF x + chg cp y + chg cq y ≤ chg csF y + chg cp x + chg cq x := by
  obtain ⟨s, hs⟩ := id hq
  have hz : ∀ z, evR h z = 0 → evR fq z = 0 := fun z h0 => by rw [hs, h0]; grind
  have cP := Lp.cases hxy
  have cQ := Lq.cases hxy
  rcases LF.cases hxy with e | ⟨e, hlt, f0, hc⟩
  · omega
  · have key : chg cp x = chg cp y + 1 ∨ chg cq x = chg cq y + 1 := by
      rcases hc with hc | hc
      · rw [hF] at hc
        rcases Rat.mul_eq_zero.1 hc with k | k
        · exact .inl (Lp.one_of hlt Rat.le_refl k)
        · exact .inr (Lq.one_of hlt Rat.le_refl (hz _ k))
      · rw [hF, hF] at hc
        by_cases c : evR f x * evR f y < 0
        · exact .inl (Lp.one_chg hxy c)
        · have c2 : evR h x * evR h y < 0 := by
            generalize evR f x = a at *
            generalize evR f y = b at *
            generalize evR h x = c' at *
            generalize evR h y = d at *
            refine Classical.byContradiction fun h0 => ?_
            have := Rat.mul_nonneg (a := a * b) (b := c' * d) (by grind) (by grind)
            grind
          obtain ⟨z, z0, z1, z2⟩ := gd h hq x y hlt c2
          exact .inr (Lq.one_of z1 (Rat.le_of_lt z2) (hz _ z0))
    omega
theorem parts_le {f fq : List Rat} (tp : Trm p) (p0 : p ≠ []) (tq : Trm q) (q0 : q ≠ []) (tr : Trm F) (r0 : F ≠ []) (hF : ∀ x, evR (frP F) x = evR (frP p) x * evR h x) (hq : Dv h (frP q)) (gd : Gd (frP q)) {lo hi : Rat} (hl : lo ≤ hi) : chg (chP F) lo + chg (chP p) hi + chg (chP q) hi ≤ chg (chP F) hi + chg (chP p) lo + chg (chP q) lo := by
 refine Qn6 (P := fun x y => chg (chP F) x + chg (chP p) y + chg (chP q) y ≤ chg (chP F) y + chg (chP p) x + chg (chP q) x) (fun x y z a b h k => by omega) (fun R => ?_) hl
 obtain ⟨δ1, h1, k1⟩ := Qme R tp p0
 obtain ⟨δ2, h2, k2⟩ := Qme R tq q0
 obtain ⟨δ3, h3, k3⟩ := Qme R tr r0
 obtain ⟨δ4, h4, m1, m2⟩ := Qhf h1 h2
 obtain ⟨δ, h5, m3, m4⟩ := Qhf h3 h4
 exact ⟨δ, h5, fun x y hx hy hxy hd => QrM hF hq gd (k3 x y hx hy hxy (by grind)) (k1 x y hx hy hxy (by grind)) (k2 x y hx hy hxy (by grind)) hxy⟩
theorem Qqp {csF cp cq : List (List Rat)} {f fq : List Rat} {x y : Rat} (hF : ∀ x, evR F x = evR f x * evR fq x) (LF : Lcl F csF x y) (Lp : Lcl f cp x y) (Lq : Lcl fq cq x y) (hxy : x ≤ y) (hs : 0 < evR f x * evR f y) : chg csF x + chg cp y + chg cq y = chg csF y + chg cp x + chg cq x := by
  have ep := Lp.zero_of hs
  have fx : evR f x ≠ 0 := fun h0 => by rw [h0] at hs; grind
  have fy : evR f y ≠ 0 := fun h0 => by rw [h0] at hs; grind
  have key : chg csF x + chg cq y = chg csF y + chg cq x := by
    rcases Lq.cases hxy with e | ⟨e, hlt, q0, hc⟩
    · rcases LF.cases hxy with e' | ⟨e', hlt, f0, hc⟩
      · omega
      · have : chg cq x = chg cq y + 1 := by
          rcases hc with hc | hc
          · rw [hF] at hc
            exact Lq.one_of hlt Rat.le_refl ((Rat.mul_eq_zero.1 hc).resolve_left fy)
          · rw [hF, hF] at hc
            refine Lq.one_chg hxy ?_
            generalize evR f x = a at *
            generalize evR f y = b at *
            generalize evR fq x = c' at *
            generalize evR fq y = d at *
            refine Classical.byContradiction fun h0 => ?_
            have := Rat.mul_nonneg (a := a * b) (b := c' * d) (by grind) (by grind)
            grind
        omega
    · have : chg csF x = chg csF y + 1 := by
        rcases hc with hc | hc
        · exact LF.one_of hlt Rat.le_refl (by rw [hF, hc]; grind)
        · refine LF.one_chg hxy ?_
          rw [hF, hF]
          have := Rat.mul_pos hs (b := -(evR fq x * evR fq y)) (by grind)
          grind
      omega
  omega
theorem near_ex (R : Rat) (f : List Rat) {η : Rat} (hη : 0 < η) : ∃ δ, 0 < δ ∧ ∀ x y, Ab x R → Ab y R → x ≤ y → y - x ≤ δ → ¬ Ab (evR f x) η → 0 < evR f x * evR f y := by
 obtain ⟨C, c0, hC⟩ := Qmi R f
 obtain ⟨δ, d0, hd⟩ := QgC c0 hη
 refine ⟨δ, d0, fun x y hx hy hxy hl hn => ?_⟩
 have h1 := hC x y hx hy hxy
 have h2 := Qiv (Rat.le_of_lt hη) hn (h1.mono (by have := QhM c0 hl; grind))
 have := Qqe h2.1 h2.2
 grind
theorem parts_eq (tp : Trm p) (p0 : p ≠ []) (tq : Trm q) (q0 : q ≠ []) (tr : Trm F) (r0 : F ≠ []) (hF : ∀ x, evR (frP F) x = evR (frP p) x * evR (frP q) x) (cop : ∃ u v, ∀ x, evR u x * evR (frP p) x + evR v x * evR (frP q) x = 1) {lo hi : Rat} (hl : lo ≤ hi) : chg (chP F) lo + chg (chP p) hi + chg (chP q) hi = chg (chP F) hi + chg (chP p) lo + chg (chP q) lo := by
 refine Qn6 (P := fun x y => chg (chP F) x + chg (chP p) y + chg (chP q) y = chg (chP F) y + chg (chP p) x + chg (chP q) x) (fun x y z a b h k => by omega) (fun R => ?_) hl
 obtain ⟨u, v, hb⟩ := cop
 obtain ⟨A, a0, hA⟩ := QnF R u
 obtain ⟨B, b0, hB⟩ := QnF R v
 obtain ⟨η, e0, he⟩ := QgC (C := A + B) (η := 1/2) (by grind) (by decide +kernel)
 obtain ⟨δ1, h1, k1⟩ := Qme R tp p0
 obtain ⟨δ2, h2, k2⟩ := Qme R tq q0
 obtain ⟨δ3, h3, k3⟩ := Qme R tr r0
 obtain ⟨δ6, h6, k6⟩ := near_ex R (frP p) e0
 obtain ⟨δ7, h7, k7⟩ := near_ex R (frP q) e0
 obtain ⟨δ4, h4, m1, m2⟩ := Qhf h1 h2
 obtain ⟨δ8, h8, m5, m6⟩ := Qhf h6 h7
 obtain ⟨δ9, h9, m7, m8⟩ := Qhf h3 h4
 obtain ⟨δ, h5, m3, m4⟩ := Qhf h8 h9
 refine ⟨δ, h5, fun x y hx hy hxy hd => ?_⟩
 have LF := k3 x y hx hy hxy (by grind)
 have Lp := k1 x y hx hy hxy (by grind)
 have Lq := k2 x y hx hy hxy (by grind)
 by_cases c1 : Ab (evR (frP p) x) η
 ·by_cases c2 : Ab (evR (frP q) x) η
  ·exfalso
   have t1 := (hA x hx).mul c1
   have t2 := (hB x hx).mul c2
   have t3 := t1.add t2
   rw [hb x] at t3
   have t4 := t3.2
   have : A * η + B * η = (A + B) * η := by grind
   grind
  ·have := Qqp (F := frP F) (f := frP q) (fq := frP p) (fun x => by rw [hF, Rat.mul_comm]) LF Lq Lp hxy (k7 x y hx hy hxy (by grind) c2)
   omega
 ·exact Qqp hF LF Lp Lq hxy (k6 x y hx hy hxy (by grind) c1)
end
section
variable {p q : List Rat}
theorem gd_dv {m f : List Rat} (h : Gd m) (hf : Dv f m) : Gd f := fun g hg => h g (hg.trans hf)
theorem Qqv {π : List Rat} (h : Irr π) : ¬ Dv π [1] := irr_con h (e := 1) (by decide) fun x => QbC 1 x
theorem dv_mu2 {a b c d : List Rat} (h : Dv a b) (k : Dv c d) : Dv (muP a c) (muP b d) := by
 obtain ⟨s, hs⟩ := h
 obtain ⟨t, ht⟩ := k
 exact ⟨muP s t, fun x => by rw [Qaq, Qaq, Qaq, hs, ht]; grind⟩
theorem Qp9 {q a : List Rat} (h : Dv q a) (b : List Rat) : Dv q (muP a b) := by
 obtain ⟨s, hs⟩ := h
 exact ⟨muP s b, fun x => by rw [Qaq, Qaq, hs]; grind⟩
theorem fr_mul (tp : Trm p) (p0 : p ≠ []) (tq : Trm q) (q0 : q ≠ []) : ∃ h, Trm h ∧ h ≠ [] ∧ Mo h ∧ Dv h (frP q) ∧ frP (muP p q) = muP (frP p) h ∧ (gcdP (frP p) (frP q) = [1] → h = frP q) := by
 have tf := Qdd p
 have tg := Qdd q
 have f0 := Qg8 tp p0
 have g0 := Qg8 tq q0
 have sf := QkG tp p0
 have sg := QkG tq q0
 have mf : Mo (frP p) := QnA (Qd3 _ _)
 have mg : Mo (frP q) := QnA (Qd3 _ _)
 have df := Qd2 tp p0
 have dg := Qd2 tq q0
 have I1 : ∀ π, Irr π → Dv π p → Dv π (frP p) := fun π a b => fr_irr tp p0 a b
 have I2 : ∀ π, Irr π → Dv π q → Dv π (frP q) := fun π a b => fr_irr tq q0 a b
 generalize frP p = f at *
 generalize frP q = g at *
 obtain ⟨⟨u, v, hb⟩, d1, d2⟩ := Qcu tf tg
 have td : Trm (gcdP f g) := Qde
 have nd := Qjb tf tg (.inl f0)
 obtain ⟨h', th', h0', _, eg, _⟩ := Qh7 td tg g0 d2
 have ev : ∀ x, evR g x = evR h' x * evR (gcdP f g) x := fun x => by
  have : evR g x = evR (muP h' (gcdP f g)) x := by rw [← eg]
  rw [this, Qaq]
 have hh := QmW th'
 have hd : Dv (mnP h') g := hh.trans ⟨gcdP f g, fun x => by rw [ev, Rat.mul_comm]⟩
 have th := Qfg h'
 have h0 := mn_ne th' h0'
 have mh := QnA th'
 have sh := sqf_gcd th h0 tg sg hd
 have hI : ∀ π, Irr π → Dv π (mnP h') → ¬ Dv π f := fun π hI a b => by
  have c : Dv π (gcdP f g) := b.comb (a.trans hd) hb
  obtain ⟨s, hs⟩ := a.trans hh
  obtain ⟨t, ht⟩ := c
  exact sqf_no tg sg hI (w := muP s t) fun x => by rw [ev, hs, ht, Qaq]; grind
 have e : frP (muP p q) = muP f (mnP h') := by
  have tm := Qd1 f (mnP h')
  have m0 := mu_ne tf th f0 h0
  refine fr_is tm m0 (mo_mu tf th f0 h0 mf mh) ?_ (Qd1 p q) (mu_ne tp tq p0 q0) (dv_mu2 df (hd.trans dg)) fun π a b => ?_
  ·obtain ⟨_, k1, k2⟩ := Qcu tm (Qbe (muP f (mnP h')))
   have tk : Trm (gcdP (muP f (mnP h')) (deP (muP f (mnP h')))) := Qde
   have nk := Qjb tm (Qbe (muP f (mnP h'))) (.inl m0)
   have mk := Qjf tm (Qbe (muP f (mnP h')))
   by_cases l2 : 2 ≤ (gcdP (muP f (mnP h')) (deP (muP f (mnP h')))).length
   ·exfalso
    obtain ⟨π, hπ, hk⟩ := QoU _ _ (Nat.le_refl _) tk l2
    obtain ⟨t, ht⟩ := hk.trans k2
    have ed : ∀ x, evR (deP (muP f (mnP h'))) x = evR (deP f) x * evR (mnP h') x + evR f x * evR (deP (mnP h')) x := fun x => by rw [Qf1, Qi0, Qf1, Qf1]
    rcases Qdp hπ tf (hk.trans k1) with a | a
    ·obtain ⟨s, hs⟩ := id a
     have : Dv π (muP (deP f) (mnP h')) := ⟨sbP t (muP s (deP (mnP h'))), fun x => by
      have := ht x
      rw [ed, hs] at this
      rw [Qaq, QmC, Qaq]; grind⟩
     rcases Qdp hπ (Qbe f) this with b | b
     ·obtain ⟨⟨u', v', hb'⟩, _, _⟩ := Qcu tf (Qbe f)
      rw [sf] at hb'
      exact Qqv hπ (a.comb b hb')
     ·exact hI π hπ b a
    ·obtain ⟨s, hs⟩ := id a
     have : Dv π (muP f (deP (mnP h'))) := ⟨sbP t (muP s (deP f)), fun x => by
      have := ht x
      rw [ed, hs] at this
      rw [Qaq, QmC, Qaq]; grind⟩
     rcases Qdp hπ tf this with b | b
     ·exact hI π hπ a b
     ·obtain ⟨⟨u', v', hb'⟩, _, _⟩ := Qcu th (Qbe (mnP h'))
      rw [sh] at hb'
      exact Qqv hπ (a.comb b hb')
   ·have := List.length_pos_iff.2 nk
    exact Qgc mk (by omega)
  ·rcases Qdp a tp b with c | c
   ·exact Qp9 (I1 π a c) _
   ·have c2 := I2 π a c
    obtain ⟨s, hs⟩ := c2
    have : Dv π (muP h' (gcdP f g)) := ⟨s, fun x => by rw [Qaq, ← ev, hs]⟩
    rcases Qdp a th' this with b' | b'
    ·exact (b'.trans Qp3).mul_l f
    ·exact Qp9 (b'.trans d1) _
 refine ⟨mnP h', th, h0, mh, hd, e, fun h1 => ?_⟩
 refine Qk0 th tg mh mg hd ?_
 rw [h1] at ev
 exact (show Dv g h' from ⟨[1], fun x => by rw [QbC, ev, QbC]; grind⟩).trans Qp3
theorem cop_fr (tp : Trm p) (p0 : p ≠ []) (tq : Trm q) (q0 : q ≠ []) (h : (gcdP p q).length = 1) : gcdP (frP p) (frP q) = [1] := by
 have e := Qgc (Qjf tp tq) h
 obtain ⟨⟨u, v, hb⟩, _, _⟩ := Qcu tp tq
 rw [e] at hb
 obtain ⟨s, hs⟩ := Qd2 tp p0
 obtain ⟨t, ht⟩ := Qd2 tq q0
 exact gcd_is (Qdd p) (Qdd q) Qjx mo_one (Dv.one _) (Dv.one _) (u := muP u s) (v := muP v t) fun x => by rw [hb, hs, ht, Qaq, Qaq]; grind
theorem chg_parts (tp : Trm p) (p0 : p ≠ []) (tq : Trm q) (q0 : q ≠ []) (gd : Gd q) {lo hi : Rat} (hl : lo ≤ hi) : chg (chP (muP p q)) lo + chg (chP p) hi + chg (chP q) hi ≤ chg (chP (muP p q)) hi + chg (chP p) lo + chg (chP q) lo ∧ ((gcdP p q).length = 1 → chg (chP (muP p q)) lo + chg (chP p) hi + chg (chP q) hi = chg (chP (muP p q)) hi + chg (chP p) lo + chg (chP q) lo) := by
 obtain ⟨h, th, h0, mh, hd, e, hc⟩ := fr_mul tp p0 tq q0
 refine ⟨parts_le (f := frP p) (fq := frP q) tp p0 tq q0 (Qd1 p q) (mu_ne tp tq p0 q0) (h := h) (fun x => by rw [e, Qaq]) hd (gd_dv gd (Qd2 tq q0)) hl, fun hg => ?_⟩
 have h1 := cop_fr tp p0 tq q0 hg
 have := hc h1
 subst this
 obtain ⟨⟨u, v, hb⟩, _, _⟩ := Qcu (Qdd p) (Qdd q)
 rw [h1] at hb
 exact parts_eq tp p0 tq q0 (Qd1 p q) (mu_ne tp tq p0 q0) (fun x => by rw [e, Qaq]) ⟨u, v, fun x => by rw [← hb, QbC]⟩ hl
end
end Go.AM

/- ref07.Made, plain: its zeros; the bound of the zeros. -/
namespace Go.AM
open Go Go.RowKit
/-! ### Made -/
theorem kZ_take : ∀ (l : List Rat) (z : Rat), ∀ a ∈ l.take (kZ l z), a < z
 | [], z, a, h => by simp at h
 | b :: l, z, a, h => by
  rw [kZ] at h
  by_cases k : b < z
  ·rw [if_pos k, List.take_succ_cons] at h
   rcases List.mem_cons.1 h with rfl | h
   ·exact k
   ·exact kZ_take l z a h
  ·rw [if_neg k] at h; simp at h
theorem kZ_drop : ∀ (l : List Rat) (z : Rat), l.Pairwise (· < ·) → ∀ a ∈ l.drop (kZ l z), z ≤ a
 | [], z, _, a, h => by simp at h
 | b :: l, z, hp, a, h => by
  rw [kZ] at h
  by_cases k : b < z
  ·rw [if_pos k, List.drop_succ_cons] at h
   exact kZ_drop l z (List.Pairwise.of_cons hp) a h
  ·rw [if_neg k, List.drop_zero] at h
   rcases List.mem_cons.1 h with rfl | h
   ·grind
   ·have := List.rel_of_pairwise_cons hp h
    grind
theorem kZ_at : ∀ (l : List Rat) (z : Rat), l.Pairwise (· < ·) → z ∈ l → kZ l z < l.length ∧ l.getD (kZ l z) 0 = z
 | [], z, _, h => by simp at h
 | b :: l, z, hp, h => by
  rw [kZ]
  rcases List.mem_cons.1 h with rfl | h
  ·rw [if_neg Rat.lt_irrefl]; exact ⟨by simp, rfl⟩
  ·have h1 := List.rel_of_pairwise_cons hp h
   rw [if_pos h1]
   obtain ⟨i1, i2⟩ := kZ_at l z (List.Pairwise.of_cons hp) h
   exact ⟨by rw [List.length_cons]; omega, by rw [List.getD_cons_succ]; exact i2⟩
theorem insZ_iff {zs : List Rat} {z : Rat} (u : Rat) : u ∈ insZ zs z ↔ u ∈ zs ∨ u = z := by
 unfold insZ
 by_cases h : kZ zs z < zs.length ∧ zs.getD (kZ zs z) 0 = z
 ·rw [if_pos h]
  constructor
  ·exact .inl
  ·rintro (k | rfl)
   ·exact k
   ·obtain ⟨h1, h2⟩ := h
    rw [List.getD_eq_getElem?_getD, List.getElem?_eq_getElem h1] at h2
    have h3 : zs[kZ zs u] = u := h2
    have := List.getElem_mem h1
    rw [h3] at this
    exact this
 ·rw [if_neg h]
  constructor
  ·intro k
   rcases List.mem_append.1 k with k | k
   ·exact .inl (List.mem_of_mem_take k)
   ·rcases List.mem_cons.1 k with k | k
    ·exact .inr k
    ·exact .inl (List.mem_of_mem_drop k)
  ·rintro (k | rfl)
   ·rw [← List.take_append_drop (kZ zs z) zs] at k
    rcases List.mem_append.1 k with k | k
    ·exact List.mem_append.2 (.inl k)
    ·exact List.mem_append.2 (.inr (List.mem_cons_of_mem _ k))
   ·exact List.mem_append.2 (.inr List.mem_cons_self)
theorem insZ_sort {zs : List Rat} {z : Rat} (hs : zs.Pairwise (· < ·)) : (insZ zs z).Pairwise (· < ·) := by
 unfold insZ
 by_cases h : kZ zs z < zs.length ∧ zs.getD (kZ zs z) 0 = z
 ·rw [if_pos h]; exact hs
 ·rw [if_neg h]
  have hn : z ∉ zs := fun k => h (kZ_at zs z hs k)
  have ht := hs
  rw [← List.take_append_drop (kZ zs z) zs] at ht
  obtain ⟨t1, t2, t3⟩ := List.pairwise_append.1 ht
  refine List.pairwise_append.2 ⟨t1, List.pairwise_cons.2 ⟨fun a ha => ?_, t2⟩, fun a ha b hb => ?_⟩
  ·have h1 := kZ_drop zs z hs a ha
   have h2 : a ≠ z := fun e => hn (e ▸ List.mem_of_mem_drop ha)
   grind
  ·rcases List.mem_cons.1 hb with rfl | hb
   ·exact kZ_take zs _ a ha
   ·exact t3 a ha b hb
structure Md (s : List Rat × List Rat) : Prop where
 z : ∀ u, evR s.1 u = 0 ↔ u ∈ s.2
 o : s.2.Pairwise (· < ·)
 p : ∃ L : List Rat, ∀ x, evR s.1 x = L.foldl (fun a z => a * (x - z)) (2/3)
theorem Md.zero : Md (md0, []) := by
 have h0 : ∀ x, evR md0 x = 2/3 := fun x => by
  have : Rat.divInt 2 3 = 2/3 := by decide +kernel
  unfold md0
  rw [Qa0, QbC, this]
 refine ⟨fun u => ?_, List.Pairwise.nil, ⟨[], h0⟩⟩
 show evR md0 u = 0 ↔ u ∈ []
 rw [h0]
 constructor
 ·intro h; grind
 ·intro h; simp at h
theorem Md.step {s : List Rat × List Rat} (M : Md s) (z : Rat) : Md (mdR s z) := by
 have he : ∀ x, evR (mdR s z).1 x = evR s.1 x * (x - z) := fun x => by
  show evR (muP s.1 (QaS [-z, 1])) x = _
  rw [Qaq, Qa0, QdI]
 refine ⟨fun u => ?_, insZ_sort M.o, ?_⟩
 ·rw [he]
  show _ ↔ u ∈ insZ s.2 z
  rw [insZ_iff, ← M.z u]
  constructor
  ·intro h
   rcases Rat.mul_eq_zero.1 h with k | k
   ·exact .inl k
   ·exact .inr (by grind)
  ·rintro (h | h)
   ·rw [h]; grind
   ·rw [h]; grind
 ·obtain ⟨L, hL⟩ := M.p
  exact ⟨L ++ [z], fun x => by rw [he, hL, List.foldl_append]; rfl⟩
theorem Md.fold : ∀ (L : List Int) {s : List Rat × List Rat}, Md s → Md (mdF L s)
 | [], s, M => M
 | x :: L, s, M => Md.fold L (M.step (smR x))
theorem Qk8 {c : List Rat} (hc : Gd c) : ∀ (L : List Rat) (m : List Rat), (∀ x, evR m x = L.foldr (fun z a => a * (x - z)) (evR c x)) → Gd m
 | [], m, h => fun f hf => hc f (by obtain ⟨s, hs⟩ := hf; exact ⟨s, fun x => by rw [← hs, h]; rfl⟩)
 | z :: L, m, h => by
  have hex : ∃ n : List Rat, ∀ x, evR n x = L.foldr (fun z a => a * (x - z)) (evR c x) := by
   clear h
   induction L with
   | nil => exact ⟨c, fun x => rfl⟩
   | cons b L ih =>
    obtain ⟨n, hn⟩ := ih
    exact ⟨muP n [-b, 1], fun x => by rw [Qaq, QdI, hn]; rfl⟩
  obtain ⟨n, hn⟩ := hex
  exact gd_lin (Qk8 hc L n hn) (z := z) fun x => by rw [h, hn]; rfl
theorem QkT (x e : Rat) (L : List Rat) : L.foldl (fun a z => a * (x - z)) e = L.reverse.foldr (fun z a => a * (x - z)) e := by
 rw [List.foldr_reverse]
theorem Qlq (x e k : Rat) : ∀ L : List Rat, L.foldr (fun z a => a * (x - z)) e * k = L.foldr (fun z a => a * (x - z)) (e * k)
 | [] => rfl
 | z :: L => by
  rw [List.foldr_cons, List.foldr_cons, ← Qlq x e k L]; grind
theorem made_zrs (L : List Int) (w : Int) : mdP L w ≠ [] ∧ Zrs (frP (mdP L w)) (mdZ L) := by
  have M := Md.fold (L.take 4) Md.zero
  obtain ⟨_, tp, _⟩ := mdP_ok L w
  obtain ⟨LL, hLL⟩ := M.p
  have hz := M.z
  have hs := M.o
  have hev : ∃ e : Rat → Rat, (∀ x, evR (mdP L w) x = evR (mdF (L.take 4) (md0, [])).1 x * e x) ∧ (∀ x, 0 < e x) ∧ Gd (mdP L w) := by
    unfold mdP
    by_cases h : w.tmod 2 ≠ 0
    · rw [if_pos h]
      refine ⟨fun x => x * x + 1, fun x => ?_, fun x => by have := QiT x; grind, ?_⟩
      · rw [Qaq, Qa0, Qas, Qas, QbC]; grind
      · refine Qk8 (c := [2/3, 0, 2/3]) (gd_wild (e := 2/3) (by decide +kernel) (fun x => by rw [Qas, Qas, QbC]; grind)) LL.reverse _ fun x => ?_
        rw [Qaq, Qa0, hLL, QkT, Qlq]
        congr 1
        rw [Qas, Qas, QbC, Qas, Qas, QbC]; grind
    · rw [if_neg h]
      refine ⟨fun x => 1, fun x => by grind, fun x => by grind, ?_⟩
      refine Qk8 (c := [2/3]) (gd_con (e := 2/3) (by decide +kernel) (fun x => QbC _ _)) LL.reverse _ fun x => ?_
      rw [hLL, QkT, QbC]
  obtain ⟨e, he, hpos, hg⟩ := hev
  have hroot : ∀ u, evR (mdP L w) u = 0 ↔ u ∈ mdZ L := fun u => by
    rw [he]
    show _ ↔ u ∈ (mdF (L.take 4) (md0, [])).2
    rw [← hz u]
    have := hpos u
    constructor
    · intro h
      rcases Rat.mul_eq_zero.1 h with k | k
      · exact k
      · grind
    · intro h; rw [h]; grind
  have p0 : mdP L w ≠ [] := fun h0 => by
    -- more zeros than members
    have hall : ∀ u, u ∈ mdZ L := fun u => (hroot u).1 (by rw [h0, QaG])
    have hfin : ∀ zs : List Rat, ∃ B, ∀ z ∈ zs, z < B := by
      intro zs
      induction zs with
      | nil => exact ⟨0, fun z hz => by simp at hz⟩
      | cons a l ih =>
        obtain ⟨B, hB⟩ := ih
        by_cases h : a < B
        · exact ⟨B, fun z hz => by
            rcases List.mem_cons.1 hz with rfl | hz
            · exact h
            · exact hB z hz⟩
        · refine ⟨a + 1, fun z hz => ?_⟩
          rcases List.mem_cons.1 hz with rfl | hz
          · grind
          · have := hB z hz; grind
    obtain ⟨B, hB⟩ := hfin (mdZ L)
    exact absurd (hB B (hall B)) Rat.lt_irrefl
  refine ⟨p0, fun u => by rw [fr_root tp p0]; exact hroot u, fun u v huv hf => ?_, hs⟩
  obtain ⟨z, h1, h2⟩ := hg _ (Qd2 tp p0) u v huv hf
  exact ⟨z, (hroot z).1 ((fr_root tp p0 z).1 h1), h2⟩
end Go.AM

/- Sizes: monic divisors of what splits; the free part of a product; sturm.Count. -/
namespace Go.AM
open Go Go.RowKit
def Smd (k : Nat) (m : List Rat) : Prop := ∀ d, Trm d → Mo d → d ≠ [] → Dv d m → HL k k d ∧ d.length ≤ k + 1
theorem Smd.mono {k l : Nat} {m : List Rat} (h : Smd k m) (hk : k ≤ l) : Smd l m := fun d a b c e => ⟨(h d a b c e).1.mono hk hk, by have := (h d a b c e).2; omega⟩
theorem Smd.congr {k : Nat} {m n : List Rat} (h : Smd k m) (e : ∀ x, evR n x = evR m x) : Smd k n := fun d a b c ⟨s, hs⟩ => h d a b c ⟨s, fun x => by rw [← e, hs]⟩
theorem smd_lin {m n : List Rat} {z : Rat} {k : Nat} (h : Smd k m) (hn : ∀ x, evR n x = evR m x * (x - z)) (hz : H1 1 1 z) (hk : k ≤ 1000) : Smd (k + 2) n := by
  have hBB : BB = 1000000000 := rfl
  intro d td md d0 ⟨s, hs⟩
  by_cases c : evR d z = 0
  · obtain ⟨s', ts', ns', _, es, ls⟩ := Qh7 (Qjr z) td d0 (dv_lin.2 c)
    have ed : ∀ x, evR d x = evR s' x * (x - z) := fun x => by
      have : evR d x = evR (muP s' [-z, 1]) x := by rw [← es]
      rw [this, Qaq, QdI]
    have te := Qfg s'
    have ne := mn_ne ts' ns'
    have me := QnA ts'
    have e1 : d = muP (mnP s') [-z, 1] := by
      refine Qk0 td (Qd1 _ _) md (mo_mu te (Qjr z) ne (by simp) me (.inr rfl)) ?_ ?_
      · obtain ⟨t, ht⟩ := Qp3 (l := s')
        exact ⟨t, fun x => by rw [Qaq, ht, ed, QdI]; grind⟩
      · obtain ⟨t, ht⟩ := QmW ts'
        exact ⟨t, fun x => by rw [Qaq, ed, ht, QdI]; grind⟩
    have hd : Dv (mnP s') m := (QmW ts').trans ⟨s, fun x => by
      refine Qfp (c := [-z, 1]) (a := m) (b := muP s s') ⟨z + 1, by rw [QdI]; grind⟩ (fun x => ?_) x |>.trans (Qaq _ _ _)
      have := hs x
      rw [hn, ed] at this
      rw [QdI, Qaq, this]; grind⟩
    obtain ⟨H, hl⟩ := h _ te me ne hd
    have F2 : HL 1 1 [-z, 1] := (HL.cons hz.neg (HL.one H1.one)).mono (by omega) (by omega)
    have l1 := Ql0 (mnP s') [-z, 1]
    simp only [List.length_cons, List.length_nil] at l1
    rw [e1]
    exact ⟨(H.mu F2 (by simp only [List.length_cons, List.length_nil]; omega)).mono (by omega) (by omega), by omega⟩
  · suffices hd : Dv d m by
      obtain ⟨a, b⟩ := h d td md d0 hd
      exact ⟨a.mono (by omega) (by omega), by omega⟩
    have hs0 : evR s z = 0 := by
      have := hs z
      rw [hn] at this
      have e : evR s z * evR d z = 0 := by grind
      exact (Rat.mul_eq_zero.1 e).resolve_right c
    refine ⟨syn s z, fun x => ?_⟩
    refine Qfp (c := [-z, 1]) (a := m) (b := muP (syn s z) d) ⟨z + 1, by rw [QdI]; grind⟩ (fun x => ?_) x |>.trans (Qaq _ _ _)
    have := hs x
    rw [hn, Qgb s z x, hs0] at this
    rw [QdI, Qaq, this]; grind
theorem smd_con {m : List Rat} {e : Rat} (e0 : e ≠ 0) (h : ∀ x, evR m x = e) : Smd 0 m := by
 intro d td md d0 ⟨s, hs⟩
 have hd : Dv d [1] := ⟨scP s e⁻¹, fun x => by
  have := hs x
  rw [h] at this
  have := Rat.mul_inv_cancel e e0
  rw [QbC, Qh1]; grind⟩
 have hl := Qdl td Qjx (by simp) hd
 have := List.length_pos_iff.2 d0
 simp only [List.length_cons, List.length_nil] at hl
 rw [Qgc md (by omega)]
 exact ⟨HL.one H1.one, by simp⟩
theorem wild_ev (x : Rat) : evR [1, 0, 1] x = x * x + 1 := by rw [Qas, Qas, QbC]; grind
theorem QnB : Trm [1, 0, 1] := fun n h => by
 simp only [List.length_cons, List.length_nil] at h
 have : n = 2 := by omega
 subst this
 show (1 : Rat) ≠ 0
 decide
theorem smd_wild {m : List Rat} {e : Rat} (e0 : e ≠ 0) (h : ∀ x, evR m x = e * (x * x + 1)) : Smd 2 m := by
 intro d td md d0 ⟨s, hs⟩
 have hd : Dv d [1, 0, 1] := ⟨scP s e⁻¹, fun x => by
  have := hs x
  rw [h] at this
  have := Rat.mul_inv_cancel e e0
  rw [wild_ev, Qh1]; grind⟩
 have hl := Qdl td QnB (by simp) hd
 have lp := List.length_pos_iff.2 d0
 simp only [List.length_cons, List.length_nil] at hl
 refine ⟨?_, by omega⟩
 by_cases l1 : d.length = 1
 ·rw [Qgc md l1]
  exact (HL.one H1.one).mono (by omega) (by omega)
 by_cases l2 : d.length = 2
 ·exfalso
  match d, l2 with
  | [a, b], _ =>
   have hb : b ≠ 0 := by
    have := td 1 (by simp)
    simpa using this
   obtain ⟨t, ht⟩ := hd
   have h1 := ht (-a * b⁻¹)
   have h2 : evR [a, b] (-a * b⁻¹) = 0 := by
    rw [Qas, QbC]
    have := Rat.mul_inv_cancel b hb
    grind
   rw [h2, wild_ev] at h1
   have := QiT (-a * b⁻¹)
   grind
 ·have l3 : d.length = 3 := by omega
  have hb := Qqu td QnB (by simp) hd (by rw [l3]; rfl)
  rw [Qk0 td QnB md (.inr rfl) hd hb]
  exact wild_H.mono (by omega) (by omega)
theorem mdF_ev : ∀ (L : List Int) (s : List Rat × List Rat) (x : Rat), evR (mdF L s).1 x = (L.map smR).foldl (fun a z => a * (x - z)) (evR s.1 x)
 | [], s, x => rfl
 | k :: L, s, x => by
  have he : evR (mdR s (smR k)).1 x = evR s.1 x * (x - smR k) := by
   show evR (muP s.1 (QaS [-smR k, 1])) x = _
   rw [Qaq, Qa0, QdI]
  have := mdF_ev L (mdR s (smR k)) x
  rw [he] at this
  exact this
theorem Qnk {c : List Rat} {k : Nat} (hc : Smd k c) : ∀ (L : List Rat), (∀ z ∈ L, H1 1 1 z) → L.length + k ≤ 100 → ∀ (m : List Rat), (∀ x, evR m x = L.foldr (fun z a => a * (x - z)) (evR c x)) → Smd (k + 2 * L.length) m
 | [], _, _, m, h => (hc.congr fun x => by rw [h]; rfl).mono (by omega)
 | z :: L, hL, hn, m, h => by
  rw [List.length_cons] at hn
  have hex : ∃ n : List Rat, ∀ x, evR n x = L.foldr (fun z a => a * (x - z)) (evR c x) := by
   clear h hn hL
   induction L with
   | nil => exact ⟨c, fun x => rfl⟩
   | cons b L ih =>
    obtain ⟨n, hn⟩ := ih
    exact ⟨muP n [-b, 1], fun x => by rw [Qaq, QdI, hn]; rfl⟩
  obtain ⟨n, hn'⟩ := hex
  exact (smd_lin (Qnk hc L (fun w hw => hL w (List.mem_cons_of_mem _ hw)) (by omega) n hn') (z := z) (fun x => by rw [h, hn']; rfl) (hL z (List.mem_cons_self ..)) (by omega)).mono (by rw [List.length_cons]; omega)
theorem made_smd (L : List Int) (w : Int) : Smd 10 (mdP L w) ∧ Gd (mdP L w) := by
 have h0 : ∀ x, evR md0 x = 2/3 := fun x => by
  have : Rat.divInt 2 3 = 2/3 := by decide +kernel
  unfold md0
  rw [Qa0, QbC, this]
 have hev : ∀ x, evR (mdF (L.take 4) (md0, [])).1 x = (((L.take 4).map smR).reverse).foldr (fun z a => a * (x - z)) (2/3) := fun x => by
  rw [mdF_ev, QkT, h0]
 have l4 : ((L.take 4).map smR).reverse.length ≤ 4 := by
  rw [List.length_reverse, List.length_map]; exact List.length_take_le _ _
 have hH : ∀ z ∈ ((L.take 4).map smR).reverse, H1 1 1 z := fun z hz => by
  obtain ⟨k, _, rfl⟩ := List.mem_map.1 (List.mem_reverse.1 hz)
  exact Qn4 k
 generalize ((L.take 4).map smR).reverse = R at *
 unfold mdP
 by_cases h : w.tmod 2 ≠ 0
 ·rw [if_pos h]
  have e : ∀ x, evR (muP (mdF (L.take 4) (md0, [])).1 (QaS [1, 0, 1])) x = R.foldr (fun z a => a * (x - z)) (evR [2/3, 0, 2/3] x) := fun x => by
   rw [Qaq, Qa0, hev, Qlq]
   congr 1
   rw [Qas, Qas, QbC, Qas, Qas, QbC]; grind
  have hc : ∀ x, evR [(2 : Rat)/3, 0, 2/3] x = 2/3 * (x * x + 1) := fun x => by rw [Qas, Qas, QbC]; grind
  exact ⟨(Qnk (smd_wild (e := 2/3) (by decide +kernel) hc) R hH (by omega) _ e).mono (by omega), Qk8 (gd_wild (e := 2/3) (by decide +kernel) hc) R _ e⟩
 ·rw [if_neg h]
  have e : ∀ x, evR (mdF (L.take 4) (md0, [])).1 x = R.foldr (fun z a => a * (x - z)) (evR [2/3] x) := fun x => by rw [hev, QbC]
  exact ⟨(Qnk (smd_con (e := 2/3) (by decide +kernel) (fun x => QbC _ x)) R hH (by omega) _ e).mono (by omega), Qk8 (gd_con (e := 2/3) (by decide +kernel) (fun x => QbC _ x)) R _ e⟩
section
variable {p q : List Rat}
theorem fr_small (tp : Trm p) (p0 : p ≠ []) (H : HL 1 1 p) (np : p.length ≤ 6) : HL 1 1 (frP p) ∨ (HL 1500 1500 (frP p) ∧ (frP p).length ≤ 5) := by
 have ng := Qjb tp (Qbe p) (.inl p0)
 have hl := List.length_pos_iff.2 ng
 have hp := List.length_pos_iff.2 p0
 by_cases l1 : (gcdP p (deP p)).length = 1
 ·left
  have e : gcdP p (deP p) = [1] := Qgc (Qjf tp (Qbe p)) l1
  unfold frP
  rw [e, quo_17 p tp]
  exact Qh2 H tp
 ·right
  have d1 := Qdl Qde tp p0 (Qcu tp (Qbe p)).2.1
  have Hg := gc_sharp2 tp H (by omega) (by omega)
  have h3 : 3 ^ 2 ≤ 3 ^ (gcdP p (deP p)).length := Nat.pow_le_pow_right (by decide) (by omega)
  have h4 : 3 ^ p.length ≤ 3 ^ 6 := Nat.pow_le_pow_right (by decide) np
  have t1 : (1 + 2) * 3 ^ p.length / 3 ^ (gcdP p (deP p)).length + 1 ≤ 244 := by
   have : (1 + 2) * 3 ^ p.length / 3 ^ (gcdP p (deP p)).length ≤ 2187 / 9 := Nat.le_trans (Nat.div_le_div_right (by omega)) (Nat.div_le_div_left h3 (by decide))
   omega
  have Hg := Hg.mono t1 t1
  have hm : dvN p (gcdP p (deP p)) ≤ 5 := by unfold dvN; omega
  have m1 : dvN p (gcdP p (deP p)) * 244 ≤ 5 * 244 := Nat.mul_le_mul_right _ hm
  have m2 : dvN p (gcdP p (deP p)) * (244 + 1) ≤ 5 * (244 + 1) := Nat.mul_le_mul_right _ hm
  obtain ⟨_, _, z⟩ := Qkb (K := 20000) H Hg Qde (by omega)
  have k1 := QeU (quoP p (gcdP p (deP p)))
  have k2 := QkB p (gcdP p (deP p))
  refine ⟨?_, ?_⟩
  ·unfold frP
   exact (Qh2 z (Qd3 _ _)).mono (by omega) (by omega)
  ·unfold frP
   unfold dvN at k2
   omega
theorem chF {s N K : Nat} (tp : Trm p) (p0 : p ≠ []) (H : HL s s (frP p)) (hN : (frP p).length ≤ N) (N9 : N ≤ 40) (hK : (s + 2) * 3 ^ N ≤ K) : ChOk K p.length (frP p) (deP (frP p)) ∧ ∀ q ∈ chP p, SzL K q ∧ q.length ≤ N := by
 have hBB : BB = 1000000000 := rfl
 have nd := Qgz (Qdd p)
 have pl := List.length_pos_iff.2 p0
 have fl := Qdl (Qdd p) tp p0 (Qd2 tp p0)
 have fpos := List.length_pos_iff.2 (Qg8 tp p0)
 have h31 : 1 ≤ 3 ^ N := Nat.one_le_pow _ _ (by decide)
 have hs : s + 2 ≤ K := Nat.le_trans (Nat.le_mul_of_pos_right _ h31) hK
 have k : ChOk K p.length (frP p) (deP (frP p)) ∧ ∀ q ∈ chL p.length (frP p) (deP (frP p)), SzL K q ∧ q.length ≤ (deP (frP p)).length := by
  refine Qq9 p.length (s + 1) (frP p) (deP (frP p)) (H.mono (by omega) (by omega)) ((H.de (by omega)).mono (by omega) (by omega)) (Qbe _) (by omega) (by omega) ?_
  rw [Nat.mul_assoc]
  refine Nat.le_trans (Nat.mul_le_mul_left _ ?_) hK
  have h3 : (dvN (frP p) (deP (frP p)) + 1) * 3 ^ (deP (frP p)).length = 3 ^ (frP p).length := by
   have e : dvN (frP p) (deP (frP p)) + 1 = 3 := by unfold dvN; omega
   rw [e, nd, show (frP p).length = ((frP p).length - 1) + 1 by omega, Nat.pow_succ, Nat.add_sub_cancel, Nat.mul_comm]
  rw [h3]
  exact Nat.pow_le_pow_right (by decide) hN
 refine ⟨k.1, fun q hq => ?_⟩
 rw [chP, if_neg p0] at hq
 rcases List.mem_cons.1 hq with rfl | hq
 ·exact ⟨H.sz.mono (by omega), hN⟩
 ·exact ⟨(k.2 q hq).1, by have := (k.2 q hq).2; omega⟩
theorem Qrb {p : List Rat} : (chP p).length ≤ p.length + 1 := by
 unfold chP
 split
 ·simp
 ·rw [List.length_cons]; have := QpM p.length (frP p) (deP (frP p)); omega
end
section
variable [Its] [ItsB] {dp : D} {p q : List Rat}
theorem Qo8 {s N r M Kg : Nat} (hp : RwR dp p) (tp : Trm p) (p0 : p ≠ []) (H : HL s s p) (hN : p.length ≤ N) (N9 : N ≤ 40) (hKg : (s + 2) * 3 ^ N ≤ Kg) (hB : s + N * (Kg + 1) + Kg + 1 ≤ 900000000) (HF : HL r r (frP p)) (hM : (frP p).length ≤ M) (M9 : M ≤ 40) (hK : (r + 2) * 3 ^ M ≤ 490000000) {lo hi : Rat} (h1 : sz lo ≤ 100000) (h2 : sz hi ≤ 100000) : Qaj G Qau [dp, encR lo, encR hi] = some (.d (iv (cnt (chP p) lo hi))) := by
 obtain ⟨c1, c2⟩ := chF tp p0 HF hM M9 hK
 have cl := Qrb (p := p)
 have h31 : 1 ≤ 3 ^ M := Nat.one_le_pow _ _ (by decide)
 have hr : r + 2 ≤ 490000000 := Nat.le_trans (Nat.le_mul_of_pos_right _ h31) hK
 refine QfN (K := 490000000) (QgY (K := 490000000) p0 (by omega) (pFreeB hp tp p0 H hN N9 hKg hB) (Qg8 tp p0) (by omega) (HF.sz.mono (by omega)) c1 (by omega) (by omega)) (by omega) (fun q hq => ⟨(c2 q hq).1, ?_⟩) (by omega) (by omega) (by omega)
 have := (c2 q hq).2
 exact Nat.le_trans (Nat.mul_le_mul_right _ (show q.length ≤ 40 by omega)) (by decide)
end
end Go.AM

namespace Go.Proofs.YtbbemgfheagobaaGreat.Pure
open Go Go.AM
theorem chg_cap {p : List Rat} (h : p.length ≤ 20) (x : Rat) : chg (chP p) x ≤ 1000 := by
 have := Qrb (p := p)
 exact Nat.le_trans (Qo2 _ _) (Nat.le_trans (Qqa _ x) (by omega))
theorem Qhi {ps : List (List Rat)} {x y : Rat} (h : x ≤ y) : cnt ps x y = (chg ps x : Int) - (chg ps y : Int) := by
 unfold cnt
 by_cases c : y ≤ x
 ·have : x = y := by grind
  rw [if_pos c, this]; omega
 ·rw [if_neg c]
theorem chP_0 : chP [] = [] := if_pos rfl
theorem cnt_0 (x y : Rat) : cnt (chP []) x y = 0 := by
 rw [chP_0]
 unfold cnt
 split
 ·rfl
 ·have c1 : ∀ z, chg [] z = 0 := fun z => rfl
  rw [c1, c1]; rfl
def QoR (dp dq dl : D) (a b c : Rat) (i : Int) : St := mkS [(11, .d dp), (12, .d dq), (14, .ptr [14] 0), (15, .ptr [15] 0), (16, .ptr [16] 0), (17, .d dl), (18, ai i)] [([14], boxR a), ([15], boxR b), ([16], boxR c)]
def sp_en (dp dq : D) (a c : Rat) : St := mkS [(11, .d dp), (12, .d dq), (14, .ptr [14] 0), (16, .ptr [16] 0)] [([14], boxR a), ([16], boxR c)]
section
variable {dp dq dl : D} {ps : List (List Rat)} {a b c : Rat}
theorem sp_stop {p q : List Rat} (h1 : RwR dp p) (h2 : RwR dq q) : X G QaV (QoR dp dq dl a b c 2) = some (.x 0, sp_en dp dq a c) := by
 have e1 : decide ((2 : Int) < 2) = false := rfl
 simp -implicitDefEqProofs (maxSteps:=9^8) only [QaV, QoR, sp_en, boxR, e1, Qac, go_sem, iv, bv, reduceCtorEq, ↓reduceIte, Nat.reduceEqDiff]
theorem sp_go (hl : RwC dl ps) (n2 : ps.length = 2) {i : Nat} (hi : i < ps.length)
    (hc : ∀ d, RwR d (ps.getD i []) → ∃ x y z : Int, w64 (x + y) = z ∧ Qaj G Qau [d, encR a, encR b] = some (.d (iv x)) ∧ Qaj G Qau [d, encR b, encR c] = some (.d (iv y)) ∧ Qaj G Qau [d, encR a, encR c] = some (.d (iv z))) :
    X G QaV (QoR dp dq dl a b c i) = some (.n, QoR dp dq dl a b c ((i + 1 : Nat) : Int)) := by
  have e1 : decide ((i : Int) < 2) = true := lt_t (by omega)
  have e2 : w64 ((i : Int) + 1) = ((i + 1 : Nat) : Int) := by rw [Qaf (by omega) (by omega)]; rfl
  obtain ⟨d, r, hp, x1, x2⟩ := hl.at hi
  obtain ⟨x, y, z, w, g1, g2, g3⟩ := hc d hp
  have t : (z != z) = false := QrF rfl
  clear hc hp
  simp only [encR, iv] at g1 g2 g3
  simp -implicitDefEqProofs (maxSteps:=9^8) only [QaV, QoR, boxR, x1, x2, e1, e2, w, g1, g2, g3, t, ld4q, Qac, go_sem, iv, bv, reduceCtorEq, ↓reduceIte, Nat.reduceEqDiff]
end
theorem Qry {ps : List (List Rat)} {a b c : Rat} (h1 : a ≤ b) (h2 : b ≤ c) (hb : ∀ x, chg ps x ≤ 1000) : w64 (cnt ps a b + cnt ps b c) = cnt ps a c := by
 rw [Qhi h1, Qhi h2, Qhi (show a ≤ c by grind)]
 have := hb a
 have := hb b
 have := hb c
 rw [Qaf (by omega) (by omega)]
 omega
theorem SturmParts (e0 : D) (l0 : List Int) (hd0 : Dg e0 l0) (hwf0 : ∀ n ∈ l0, (Lit.int .i64 n).wf = true) (hlen0 : l0.length * 8 ≤ 140737488351232) (e1 : D) (l1 : List Int) (hd1 : Dg e1 l1) (hwf1 : ∀ n ∈ l1, (Lit.int .i64 n).wf = true) (hlen1 : l1.length * 8 ≤ 140737488351232) (a2 : Int) (w2 : (Lit.int .i64 a2).wf = true) (a3 : Int) (w3 : (Lit.int .i64 a3).wf = true) (a4 : Int) (w4 : (Lit.int .i64 a4).wf = true) : Qaj G 5 [e0, e1, iv a2, iv a3, iv a4] = some (.d (bv true)) := by
 obtain ⟨dp, p, hp, tp, Hp, np, gp⟩ := QrD (rw_dg hd0) (fun n hn => QlW (hwf0 n hn))
 obtain ⟨dq, dz, hq, hz, gq⟩ := Made_spec (w := a4) (rw_dg hd1) (fun n hn => QlW (hwf1 n hn)) (QlW w4)
 obtain ⟨Hq', tq, nq⟩ := mdP_ok l1 a4
 obtain ⟨q0, _⟩ := made_zrs l1 a4
 obtain ⟨Sm, gd⟩ := made_smd l1 a4
 generalize mdP l1 a4 = q at *
 have g2 := Qe5 (QlW w2)
 have z2 := smR_sz a2
 generalize smR a2 = a at *
 -- the steps
 have hs : ∀ n : Int, I64 n → ∃ (k : Int) (s : Rat), 0 ≤ s ∧ sz s ≤ 3 ∧ Qaj G Qbw [iv n, iv 30] = some (.d (iv k)) ∧ Qaj G Qax [iv k, iv 4] = some (.d (encR s)) := by
  intro n hn
  have hb := Qom (n := n) (m := 30) (by omega)
  have h1 := Qij (n := n) (m := 30) hn (by omega)
  have h2 := Qd7 (n := arnd n 30) (d := 4) ⟨by omega, by omega⟩ ⟨by omega, by omega⟩
  refine ⟨arnd n 30, Rat.divInt (arnd n 30) 4, ?_, ?_, h1, h2⟩
  ·exact Rat.divInt_nonneg hb.1 (by omega)
  ·exact QdO (by omega) (Nat.le_trans (QlS (k := 1) (by omega)) (by omega)) (Nat.le_trans (QlS (k := 1) (by omega)) (by omega))
 obtain ⟨k3, s3, n3, z3, r3, o3⟩ := hs a3 (QlW w3)
 obtain ⟨k4, s4, n4, z4, r4, o4⟩ := hs a4 (QlW w4)
 clear hs
 have g3 := Qhn (a := a) (b := s3) (by omega) (by omega)
 have y3 := Qlb (a := a) (b := s3)
 have g4 := Qhn (a := a + s3) (b := s4) (by omega) (by omega)
 have y4 := Qlb (a := a + s3) (b := s4)
 have ab : a ≤ a + s3 := by grind
 have bc : a + s3 ≤ a + s3 + s4 := by grind
 generalize a + s3 = b at *
 generalize b + s4 = c at *
 have ac : a ≤ c := by grind
 have zb : sz b ≤ 100 := by omega
 have zc : sz c ≤ 100 := by omega
 -- the counts of p, of q
 have Cp : ∀ (d : D) {lo hi : Rat}, RwR d p → sz lo ≤ 100 → sz hi ≤ 100 → Qaj G Qau [d, encR lo, encR hi] = some (.d (iv (cnt (chP p) lo hi))) := fun d lo hi hd h1 h2 =>
  sCount6 hd (Hp.mono (by omega) (by omega)) tp np (by omega) (by omega)
 have fq : HL 10 10 (frP q) ∧ (frP q).length ≤ 7 := ⟨(Sm _ (Qdd q) (QnA (Qd3 _ _)) (Qg8 tq q0) (Qd2 tq q0)).1, Nat.le_trans (Qdl (Qdd q) tq q0 (Qd2 tq q0)) nq⟩
 have Cq : ∀ (d : D) {lo hi : Rat}, RwR d q → sz lo ≤ 100 → sz hi ≤ 100 → Qaj G Qau [d, encR lo, encR hi] = some (.d (iv (cnt (chP q) lo hi))) := fun d lo hi hd h1 h2 =>
  Qo8 (s := 11) (N := 7) (r := 10) (M := 7) (Kg := 28431) hd tq q0 (Hq'.mono (by omega) (by omega)) nq (by omega) (by decide) (by omega) fq.1 fq.2 (by omega) (by decide) (by omega) (by omega)
 have bp := chg_cap (p := p) (by omega)
 have bq := chg_cap (p := q) (by omega)
 have hl : RwC (.row 2 [dp, dq]) [p, q] := by
  refine ⟨[dp, dq], rfl, ?_, .inl rfl⟩
  intro i hi
  match i, hi with
  | 0, _ => exact hp
  | 1, _ => exact hq
 have L0 := sp_go (dp := dp) (dq := dq) (a := a) (b := b) (c := c) hl rfl (i := 0) (by simp) (fun d hd => ⟨_, _, _, Qry ab bc bp, Cp d hd (by omega) zb, Cp d hd zb zc, Cp d hd (by omega) zc⟩)
 have L1 := sp_go (dp := dp) (dq := dq) (a := a) (b := b) (c := c) hl rfl (i := 1) (by simp) (fun d hd => ⟨_, _, _, Qry ab bc bq, Cq d hd (by omega) zb, Cq d hd zb zc, Cq d hd (by omega) zc⟩)
 have L2 := sp_stop (dl := .row 2 [dp, dq]) (a := a) (b := b) (c := c) hp hq
 have L : X G (.loop QaV) (QoR dp dq (.row 2 [dp, dq]) a b c 0) = some (.x 0, sp_en dp dq a c) := by
  rw [show (0 : Int) = ((0 : Nat) : Int) from rfl, Qak, L0, Option.bind_some, if_pos rfl, Qak, L1, Option.bind_some, if_pos rfl, Qak, show ((1 + 1 : Nat) : Int) = 2 from rfl, L2]; rfl
 clear L0 L1 L2 hl
 -- the product
 obtain ⟨dm, hm, gm⟩ := Ql1 (K := 20) hp hq (Hp.sz.mono (by omega)) (Hq'.sz.mono (by omega)) (by omega) (by omega)
 have P1 := Cp dp hp (lo := a) (hi := c) (by omega) zc
 have P2 := Cq dq hq (lo := a) (hi := c) (by omega) zc
 have sum : w64 (cnt (chP p) a c + cnt (chP q) a c) = cnt (chP p) a c + cnt (chP q) a c := by
  rw [Qhi ac, Qhi ac]
  have := bp a; have := bp c; have := bq a; have := bq c
  exact Qaf (by omega) (by omega)
 have lv := lives7
 have d1 := hp.dc
 have d2 := hq.dc
 have k1 := hp.dcl
 have k2 := hq.dcl
 have rr2 : rep 2 [D.z true] = [.z true, .z true] := rfl
 have lp := hp.len
 by_cases p0 : p = []
 ·have e0 : muP p q = [] := by rw [p0]; exact QjB (Qd1 _ _) fun x => by rw [Qaq, QaG]; grind
  rw [e0] at hm
  have P3 := sCount6 hm (HL.nil _ _) Qg3 (by simp) (lo := a) (hi := c) (by omega) (by omega)
  rw [cnt_0] at P3
  have t1 : ((p.length : Int) == 0) = true := Qie (by rw [p0]; rfl)
  have t2 : ((0 : Int) == 0) = true := rfl
  rw [Qad (cf := Qbc) rfl]
  clear Cp Cq fq bp bq Sm gd hm hz Hp Hq' tp tq
  generalize cnt (chP p) a c = x1 at *
  generalize cnt (chP q) a c = x2 at *
  generalize x1 + x2 = x12 at *
  simp only [encR, iv, bv] at gq g2 r3 o3 r4 o4 g3 g4 P1 P2 P3 lv
  simp only [QoR, sp_en, boxR, go_sem] at L
  simp -implicitDefEqProofs (maxSteps:=9^8) only [Qbc, encR, k1, k2, rr2, Qel, Qcd, QnL, gp, gq, g2, r3, o3, r4, o4, g3, g4, gm, L, P1, P2, P3, sum, lp, t1, t2, lv, d1, d2, st4q, ld4q, Qia, Qac, go_sem, iv, bv, reduceCtorEq, ↓reduceIte, Nat.reduceEqDiff]
 ·have lm := QjC tp tq p0 q0
  have Hm := Hp.mu Hq' (by have : BB = 1000000000 := rfl; omega)
  obtain ⟨h, th, h0, mh, hd, eF, _⟩ := fr_mul tp p0 tq q0
  obtain ⟨Hh, nh⟩ := Sm h th mh h0 (hd.trans (Qd2 tq q0))
  have nh := Nat.le_trans (Qdl th (Qdd q) (Qg8 tq q0) hd) fq.2
  have lF := QjC (Qdd p) th (Qg8 tp p0) h0
  rw [← eF] at lF
  have lfp := Qdl (Qdd p) tp p0 (Qd2 tp p0)
  have m0 := mu_ne tp tq p0 q0
  have P3 : Qaj G Qau [dm, encR a, encR c] = some (.d (iv (cnt (chP (muP p q)) a c))) := by
   have hBB : BB = 1000000000 := rfl
   rcases fr_small tp p0 Hp np with F | ⟨F, l5⟩
   ·have HF := F.mu Hh (by omega)
    rw [← eF] at HF
    exact Qo8 (s := 13) (N := 12) (r := 12) (M := 12) (Kg := 7971615) hm (Qd1 _ _) m0 (Hm.mono (by omega) (by omega)) (by omega) (by omega) (by decide) (by omega) (HF.mono (by omega) (by omega)) (by omega) (by omega) (by decide) (by omega) (by omega)
   ·have HF := F.mu Hh (by omega)
    rw [← eF] at HF
    exact Qo8 (s := 13) (N := 12) (r := 1511) (M := 11) (Kg := 7971615) hm (Qd1 _ _) m0 (Hm.mono (by omega) (by omega)) (by omega) (by omega) (by decide) (by omega) (HF.mono (by omega) (by omega)) (by omega) (by omega) (by decide) (by omega) (by omega)
  obtain ⟨K1, K2⟩ := chg_parts tp p0 tq q0 gd ac
  have K3 : cnt (chP (muP p q)) a c ≤ cnt (chP p) a c + cnt (chP q) a c := by
   rw [Qhi ac, Qhi ac, Qhi ac]; omega
  have K4 : (gcdP p q).length = 1 → cnt (chP (muP p q)) a c = cnt (chP p) a c + cnt (chP q) a c := fun h => by
   have := K2 h
   rw [Qhi ac, Qhi ac, Qhi ac]; omega
  obtain ⟨G1, _, G3⟩ := gz7 (N := 7) (K := 100000) (Hp.mono (show 1 ≤ 11 by omega) (show 1 ≤ 11 by omega)) (Hq'.mono (show 5 ≤ 11 by omega) (Nat.le_refl _)) tp tq (by omega) nq (by decide)
  obtain ⟨dg, hg, gg⟩ := QjH (K := 100000) hp hq (by omega) (by omega) (by omega) (by omega) (Hp.sz.mono (by omega)) (Hq'.sz.mono (by omega)) G1
  have lg := hg.len
  have t1 : ((p.length : Int) == 0) = false := Qcy (by have := List.length_pos_iff.2 p0; omega)
  rw [Qad (cf := Qbc) rfl]
  clear Cp Cq fq bp bq Sm gd hm hz Hp Hq' tp tq K1 K2 G1 G3 eF lF Hm Hh hd th mh h0 hg
  generalize cnt (chP (muP p q)) a c = x3 at *
  generalize cnt (chP p) a c = x1 at *
  generalize cnt (chP q) a c = x2 at *
  generalize (gcdP p q).length = n at *
  obtain ⟨x12, hx⟩ : ∃ z, x1 + x2 = z := ⟨_, rfl⟩
  rw [hx] at K3 K4
  have sum := sum.trans hx
  have t2 : decide (x3 ≤ x12) = true := decide_eq_true K3
  simp only [encR, iv, bv] at gq g2 r3 o3 r4 o4 g3 g4 P1 P2 P3 lv
  simp only [QoR, sp_en, boxR, go_sem] at L
  by_cases c1 : n = 1
  ·have t3 : ((n : Int) != 1) = false := QrF (by omega)
   have t4 : (x3 == x12) = true := Qie (K4 c1)
   simp -implicitDefEqProofs (maxSteps:=9^8) only [Qbc, encR, k1, k2, rr2, Qel, Qcd, QnL, gp, gq, g2, r3, o3, r4, o4, g3, g4, gm, gg, lg, L, P1, P2, P3, sum, lp, t1, t2, t3, t4, lv, d1, d2, st4q, ld4q, Qia, Qac, go_sem, iv, bv, reduceCtorEq, ↓reduceIte, Nat.reduceEqDiff]
  ·have t3 : ((n : Int) != 1) = true := Qsc (by omega)
   simp -implicitDefEqProofs (maxSteps:=9^8) only [Qbc, encR, k1, k2, rr2, Qel, Qcd, QnL, gp, gq, g2, r3, o3, r4, o4, g3, g4, gm, gg, lg, L, P1, P2, P3, sum, lp, t1, t2, t3, lv, d1, d2, st4q, ld4q, Qia, Qac, go_sem, iv, bv, reduceCtorEq, ↓reduceIte, Nat.reduceEqDiff]
end Go.Proofs.YtbbemgfheagobaaGreat.Pure

/- The row of SturmParts, out of its Pure. Printed by row.py. -/
namespace Go.Proofs.YtbbemgfheagobaaGreat.sturmParts
open Go.ChangeShapes Go.WideShapes Go.ChangeAt Go.RowKit Go.AM
theorem own : ownKnob Tryz.prog.godebug = none := by kernel_rfl
theorem laidOut : laidOutB Tryz.prog = true := by kernel_rfl
set_option maxRecDepth 100000 in
theorem lifted (os : Os) (started : os.Started) (H : Type) (enc : TypeId × Value → H) :
    ReturnsInHanded {} Tryz.checked os 5 .any (Rows.sturmPartsSpec.pre6 enc Tryz.prog Tryz.f5 Rows.sturmPartsRow.domain false) (Rows.sturmPartsSpec.post enc Tryz.prog Tryz.f5 false true false false) := by
  refine returnsInHanded_of_change_sized (C := Tryz.checked) own started (by kernel_rfl) Tryz.func5
    (ChangeSpec.witness6 (enc := enc) (C := Tryz.checked) false ⟨#[], #[.slice none 0 0, .slice none 0 0, .int .i64 0, .int .i64 0, .int .i64 0], []⟩ 8 (by kernel_rfl) (by kernel_rfl) (by kernel_rfl) (by kernel_rfl)) ?_
  intro W base args ds gs before hval0 hW hcnd hsz0 _
  have hsz : (DataW.weightsEach Tryz.prog (Tryz.f5.params.toList ++ Rows.sturmPartsSpec.plain.varTypes Tryz.prog) (ds ++ gs)).all (· ≤ reachBytes) = true := hsz0
  have hval : ∀ (j : Nat) t v, Tryz.f5.params[j]? = some t → args[j]? = some v → Value.okWide Tryz.prog W .any base t v := hval0
  have hW' := hW
  obtain ⟨p, q, hA0, hV, rfl, hfz, hnd⟩ := hW
  have hA : DataW.TrodAll enc Tryz.prog W 0 (fun _ => true) true Tryz.f5.params.toList args.toList ds p := hA0
  rw [Tryz.params5] at hA hval hsz
  obtain ⟨v0, vs0, d0, ds0, p0, q0, hargs, rfl, rfl, h0, r0⟩ := trodAll_cons hA
  obtain ⟨v1, vs1, d1, ds1, p1, q1, rfl, rfl, rfl, h1, r1⟩ := trodAll_cons r0
  obtain ⟨v2, vs2, d2, ds2, p2, q2, rfl, rfl, rfl, h2, r2⟩ := trodAll_cons r1
  obtain ⟨v3, vs3, d3, ds3, p3, q3, rfl, rfl, rfl, h3, r3⟩ := trodAll_cons r2
  obtain ⟨v4, vs4, d4, ds4, p4, q4, rfl, rfl, rfl, h4, r4⟩ := trodAll_cons r3
  obtain ⟨rfl, rfl, rfl⟩ := trodAll_nil r4
  obtain rfl : args = #[v0, v1, v2, v3, v4] := by cases args; simp_all
  obtain ⟨rfl, rfl⟩ := trodVars_none hV
  obtain ⟨a0, len0, cap0, rfl⟩ := okWide_slice Tryz.underlying22 (hval 0 22 v0 rfl rfl)
  have k0 := h0
  have lt0 : ∀ x ∈ p0, x.block < W.heap.size := by obtain ⟨m, hm⟩ := k0; exact DataW.trod_lt m _ _ _ hm
  obtain ⟨z0, w0, y0⟩ : ∃ zs, ((a0 = none ∧ len0 = 0 ∧ cap0 = 0 ∧ zs = []) ∨ ∃ x, a0 = some x ∧ len0 ≤ cap0 ∧ cap0 ≤ maxLen ∧ zs.length = cap0 ∧ (∀ i, i < zs.length → W.cell? (x.add i) = some (.int .i64 (zs.getD i 0))) ∧ ∀ n ∈ zs, (Lit.int .i64 n).wf = true) ∧ len0 * 8 ≤ 140737488351232 := by
    obtain ⟨fuel, hf⟩ := h0
    rcases open_ints Tryz.underlying22 Tryz.underlying3 (by kernel_rfl) hf with ⟨hcs, _⟩ | ⟨x, l, c, zs, hcs, _, hl, hm, hz, hx, hcell, hwz⟩
    · simp [Value.cells] at hcs
      obtain ⟨rfl, rfl, rfl⟩ := hcs
      exact ⟨[], .inl ⟨rfl, rfl, rfl, rfl⟩, by simp⟩
    · simp [Value.cells] at hcs
      obtain ⟨rfl, rfl, rfl⟩ := hcs
      refine ⟨zs, .inr ⟨_, rfl, hl, hm, by simpa using hz, hcell, hwz⟩, ?_⟩
      simp only [Prod.mk.injEq] at hx
      have hd := hx.1
      have z := sized_slice hsz (j := 0) (t := 22) rfl (by rw [hd]; rfl) Tryz.underlying22
      have hb : Tryz.prog.bytesOf 3 = 8 := by kernel_rfl
      rw [hb] at z
      have hr : reachBytes ≤ 140737488351232 := by decide
      have hz' : zs.length = cap0 := by simpa using hz
      simp only [lits, List.length_map, List.length_take, List.length_drop] at z
      omega
  obtain ⟨e0, l0, hd0, hrep0, hlen0, hwf0⟩ := arg_row w0
  obtain ⟨a1, len1, cap1, rfl⟩ := okWide_slice Tryz.underlying22 (hval 1 22 v1 rfl rfl)
  have k1 := h1
  have lt1 : ∀ x ∈ p1, x.block < W.heap.size := by obtain ⟨m, hm⟩ := k1; exact DataW.trod_lt m _ _ _ hm
  obtain ⟨z1, w1, y1⟩ : ∃ zs, ((a1 = none ∧ len1 = 0 ∧ cap1 = 0 ∧ zs = []) ∨ ∃ x, a1 = some x ∧ len1 ≤ cap1 ∧ cap1 ≤ maxLen ∧ zs.length = cap1 ∧ (∀ i, i < zs.length → W.cell? (x.add i) = some (.int .i64 (zs.getD i 0))) ∧ ∀ n ∈ zs, (Lit.int .i64 n).wf = true) ∧ len1 * 8 ≤ 140737488351232 := by
    obtain ⟨fuel, hf⟩ := h1
    rcases open_ints Tryz.underlying22 Tryz.underlying3 (by kernel_rfl) hf with ⟨hcs, _⟩ | ⟨x, l, c, zs, hcs, _, hl, hm, hz, hx, hcell, hwz⟩
    · simp [Value.cells] at hcs
      obtain ⟨rfl, rfl, rfl⟩ := hcs
      exact ⟨[], .inl ⟨rfl, rfl, rfl, rfl⟩, by simp⟩
    · simp [Value.cells] at hcs
      obtain ⟨rfl, rfl, rfl⟩ := hcs
      refine ⟨zs, .inr ⟨_, rfl, hl, hm, by simpa using hz, hcell, hwz⟩, ?_⟩
      simp only [Prod.mk.injEq] at hx
      have hd := hx.1
      have z := sized_slice hsz (j := 1) (t := 22) rfl (by rw [hd]; rfl) Tryz.underlying22
      have hb : Tryz.prog.bytesOf 3 = 8 := by kernel_rfl
      rw [hb] at z
      have hr : reachBytes ≤ 140737488351232 := by decide
      have hz' : zs.length = cap1 := by simpa using hz
      simp only [lits, List.length_map, List.length_take, List.length_drop] at z
      omega
  obtain ⟨e1, l1, hd1, hrep1, hlen1, hwf1⟩ := arg_row w1
  obtain ⟨a2, rfl, rfl, rfl, w2⟩ := open_int Tryz.underlying3 (hval 2 3 v2 rfl rfl) h2
  obtain ⟨a3, rfl, rfl, rfl, w3⟩ := open_int Tryz.underlying3 (hval 3 3 v3 rfl rfl) h3
  obtain ⟨a4, rfl, rfl, rfl, w4⟩ := open_int Tryz.underlying3 (hval 4 3 v4 rfl rfl) h4
  clear hA0 hval0 hsz0 hsz
  refine (law_walk envQ (f := 5) (ds := [e0, e1, (iv a2), (iv a3), (iv a4)]) (vs := [.slice a0 len0 cap0, .slice a1 len1 cap1, .int .i64 a2, .int .i64 a3, .int .i64 a4]) (w := W) (Qok rfl W) (RepL.cons _ _ _ _ hrep0 (RepL.cons _ _ _ _ hrep1 (RepL.cons _ _ _ _ (RepD.v _) (RepL.cons _ _ _ _ (RepD.v _) (RepL.cons _ _ _ _ (RepD.v _) RepL.nil))))) (Pure.SturmParts e0 l0 hd0 hwf0 (by rw [hlen0]; exact y0) e1 l1 hd1 hwf1 (by rw [hlen1]; exact y1) a2 w2 a3 w3 a4 w4)).mono fun e W' ⟨he, bel⟩ => ?_
  subst he
  exact ⟨_, rfl, _, _, _, [], _, [], hW', trodAll_mk1 (shut_bool Tryz.underlying4 _), (trodAll_cons_mk (Below.trod laidOut (by kernel_rfl) (of_decide_eq_true (by kernel_rfl)) k0 bel lt0) (trodAll_cons_mk (Below.trod laidOut (by kernel_rfl) (of_decide_eq_true (by kernel_rfl)) k1 bel lt1) (trodAll_cons_mk (shut_int Tryz.underlying3 w2) (trodAll_cons_mk (shut_int Tryz.underlying3 w3) (trodAll_cons_mk (shut_int Tryz.underlying3 w4) trodAll_mk0))))), rfl, bel.frame _, fun h => by cases h⟩
theorem over : Rows.sturmPartsRow.holds Tryz.pinned (OpenSpec.ofChange Rows.sturmPartsSpec) :=
 OpenClaim.holds_of_wide 5 Tryz.f5 rfl rfl rfl rfl rfl rfl rfl ⟨rfl, rfl, rfl, rfl, rfl⟩ rfl rfl rfl rfl rfl (by kernel_rfl) Tryz.func5 (by kernel_rfl)
  (of_decide_eq_true (by kernel_rfl)) (by unfold Func.isWrapper; first | (rw [if_pos (by decide +kernel)]; kernel_rfl) | (rw [if_neg (by decide +kernel)]; exact ⟨rfl, rfl⟩))
  (fun os started H enc _ => lifted os started H enc)
theorem proved : Rows.SturmPartsSaid := over
end Go.Proofs.YtbbemgfheagobaaGreat.sturmParts
namespace Go.Proofs.YtbbemgfheagobaaGreat
theorem sturmParts_holds : Rows.SturmPartsSaid := sturmParts.proved
end Go.Proofs.YtbbemgfheagobaaGreat


