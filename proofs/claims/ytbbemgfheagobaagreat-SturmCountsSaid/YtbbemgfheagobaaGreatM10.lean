/- Part 10 of the proof: a small machine, its soundness against the model, and what the program's functions compute on it. -/
import Derived.Test.YtbbemgfheagobaaGreatM9
import Derived.Test.YtbbemgfheagobaaGreatM8
import Derived.Test.YtbbemgfheagobaaGreatM7
import Derived.Test.YtbbemgfheagobaaGreatRows
import Derived.Test.YtbbemgfheagobaaGreatM4
import Derived.WalkKit
import Derived.ProofKit
import Derived.OpenShut
import Derived.ShutString
import Derived.ChangeOld
import Derived.Below
import Derived.SizedLaws
set_option linter.unusedVariables false
set_option linter.unusedSimpArgs false
/- ref07.Made, plain: its zeros; the bound of the zeros. -/
namespace Go.AM
open Go Go.RowKit
def Ge (x c : Rat) : Prop := c ≤ x ∨ x ≤ -c
theorem bd_tail {c M z : Rat} (hc : 0 ≤ c) (hM : 0 ≤ M) (hz : Ge z (1 + M)) : ∀ (l : List Rat), (∀ a ∈ l, Ab a (M * c)) → ∀ t, Ge t c → Ge (evR (l ++ [t]) z) c
 | [], _, t, ht => by rw [List.nil_append, Qct]; exact ht
 | a :: l, h, t, ht => by
  have ih := bd_tail hc hM hz l (fun b hb => h b (List.mem_cons_of_mem _ hb)) t ht
  rw [List.cons_append, QaG]
  obtain ⟨a1, a2⟩ := h a List.mem_cons_self
  generalize evR (l ++ [t]) z = y at *
  rcases ih with k | k
  ·rcases hz with q | q
   ·have := Rat.mul_nonneg (a := y - c) (b := z) (by grind) (by grind)
    have := Rat.mul_nonneg (a := c) (b := z - (1 + M)) hc (by grind)
    left; grind
   ·have := Rat.mul_nonneg (a := y - c) (b := -z) (by grind) (by grind)
    have := Rat.mul_nonneg (a := c) (b := -z - (1 + M)) hc (by grind)
    right; grind
  ·rcases hz with q | q
   ·have := Rat.mul_nonneg (a := -y - c) (b := z) (by grind) (by grind)
    have := Rat.mul_nonneg (a := c) (b := z - (1 + M)) hc (by grind)
    right; grind
   ·have := Rat.mul_nonneg (a := -y - c) (b := -z) (by grind) (by grind)
    have := Rat.mul_nonneg (a := c) (b := -z - (1 + M)) hc (by grind)
    left; grind
theorem bdF_nn (p : List Rat) : ∀ i, 0 ≤ bdF p i
 | 0 => Rat.le_refl
 | i + 1 => by
  rw [bdF]
  have := bdF_nn p i
  split <;> grind
theorem QpK (p : List Rat) : ∀ i j, j < i → abR (bdQ p j) ≤ bdF p i
 | 0, j, h => by omega
 | i + 1, j, h => by
  rw [bdF]
  by_cases e : j = i
  ·subst e; split <;> grind
  ·have := QpK p i j (by omega)
   split <;> grind
theorem ab_abR (q : Rat) : Ab q (abR q) := by
 unfold abR Ab
 split <;> constructor <;> grind
theorem bd_zero {p : List Rat} (tp : Trm p) (p0 : p ≠ []) {z : Rat} (hz : evR p z = 0) : -bdR p < z ∧ z < bdR p := by
 have hl := List.length_pos_iff.2 p0
 have hc := tp (p.length - 1) (by omega)
 generalize hcc : p.getD (p.length - 1) 0 = c at hc
 have hM := bdF_nn p (p.length - 1)
 have e : p = p.take (p.length - 1) ++ [c] := by
  have h1 : p = p.take (p.length - 1) ++ p.drop (p.length - 1) := (List.take_append_drop _ _).symm
  have h2 : p.drop (p.length - 1) = [c] := by
   rw [List.drop_eq_getElem_cons (show p.length - 1 < p.length by omega), List.drop_eq_nil_of_le (by omega), ← hcc, List.getD_eq_getElem?_getD, List.getElem?_eq_getElem (show p.length - 1 < p.length by omega)]; rfl
  rw [h2] at h1; exact h1
 have hin : ∀ a ∈ p.take (p.length - 1), Ab a (bdF p (p.length - 1) * abR c) := by
  intro a ha
  obtain ⟨i, hi, rfl⟩ := List.mem_iff_getElem.1 ha
  rw [List.length_take] at hi
  have hm := QpK p (p.length - 1) i (by omega)
  have hq : (p.take (p.length - 1))[i] = bdQ p i * c := by
   rw [List.getElem_take]
   unfold bdQ
   rw [hcc, List.getD_eq_getElem?_getD, List.getElem?_eq_getElem (show i < p.length by omega), Rat.div_def, Rat.mul_assoc, Rat.inv_mul_cancel _ hc, Rat.mul_one]; rfl
  rw [hq]
  exact ((ab_abR _).mono hm).mul (ab_abR c)
 have hcn : 0 ≤ abR c := (ab_abR c).nn
 have hcp : 0 < abR c := by unfold abR; split <;> grind
 have hgc : Ge c (abR c) := by unfold Ge abR; split <;> grind
 have key : ¬ Ge z (1 + bdF p (p.length - 1)) := fun h => by
  have := bd_tail hcn hM h _ hin c hgc
  rw [← e, hz] at this
  rcases this with k | k <;> grind
 unfold bdR
 generalize bdF p (p.length - 1) = M at *
 constructor
 ·by_cases k : -(M + 1) < z
  ·exact k
  ·exact absurd (.inr (by grind)) key
 ·by_cases k : z < M + 1
  ·exact k
  ·exact absurd (.inl (by grind)) key

/-! ### Made -/
theorem kZ_take : ∀ (l : List Rat) (z : Rat), ∀ a ∈ l.take (kZ l z), a < z
 | [], z, a, h => by simp at h
 | b :: l, z, a, h => by
  rw [kZ] at h
  by_cases k : b < z
  ·rw [if_pos k, List.take_succ_cons] at h
   rcases List.mem_cons.1 h with rfl | h
   ·exact k
   ·exact kZ_take l z a h
  ·rw [if_neg k] at h; simp at h
theorem kZ_drop : ∀ (l : List Rat) (z : Rat), l.Pairwise (· < ·) → ∀ a ∈ l.drop (kZ l z), z ≤ a
 | [], z, _, a, h => by simp at h
 | b :: l, z, hp, a, h => by
  rw [kZ] at h
  by_cases k : b < z
  ·rw [if_pos k, List.drop_succ_cons] at h
   exact kZ_drop l z (List.Pairwise.of_cons hp) a h
  ·rw [if_neg k, List.drop_zero] at h
   rcases List.mem_cons.1 h with rfl | h
   ·grind
   ·have := List.rel_of_pairwise_cons hp h
    grind
theorem kZ_at : ∀ (l : List Rat) (z : Rat), l.Pairwise (· < ·) → z ∈ l → kZ l z < l.length ∧ l.getD (kZ l z) 0 = z
 | [], z, _, h => by simp at h
 | b :: l, z, hp, h => by
  rw [kZ]
  rcases List.mem_cons.1 h with rfl | h
  ·rw [if_neg Rat.lt_irrefl]; exact ⟨by simp, rfl⟩
  ·have h1 := List.rel_of_pairwise_cons hp h
   rw [if_pos h1]
   obtain ⟨i1, i2⟩ := kZ_at l z (List.Pairwise.of_cons hp) h
   exact ⟨by rw [List.length_cons]; omega, by rw [List.getD_cons_succ]; exact i2⟩
theorem insZ_iff {zs : List Rat} {z : Rat} (u : Rat) : u ∈ insZ zs z ↔ u ∈ zs ∨ u = z := by
 unfold insZ
 by_cases h : kZ zs z < zs.length ∧ zs.getD (kZ zs z) 0 = z
 ·rw [if_pos h]
  constructor
  ·exact .inl
  ·rintro (k | rfl)
   ·exact k
   ·obtain ⟨h1, h2⟩ := h
    rw [List.getD_eq_getElem?_getD, List.getElem?_eq_getElem h1] at h2
    have h3 : zs[kZ zs u] = u := h2
    have := List.getElem_mem h1
    rw [h3] at this
    exact this
 ·rw [if_neg h]
  constructor
  ·intro k
   rcases List.mem_append.1 k with k | k
   ·exact .inl (List.mem_of_mem_take k)
   ·rcases List.mem_cons.1 k with k | k
    ·exact .inr k
    ·exact .inl (List.mem_of_mem_drop k)
  ·rintro (k | rfl)
   ·rw [← List.take_append_drop (kZ zs z) zs] at k
    rcases List.mem_append.1 k with k | k
    ·exact List.mem_append.2 (.inl k)
    ·exact List.mem_append.2 (.inr (List.mem_cons_of_mem _ k))
   ·exact List.mem_append.2 (.inr List.mem_cons_self)
theorem insZ_sort {zs : List Rat} {z : Rat} (hs : zs.Pairwise (· < ·)) : (insZ zs z).Pairwise (· < ·) := by
 unfold insZ
 by_cases h : kZ zs z < zs.length ∧ zs.getD (kZ zs z) 0 = z
 ·rw [if_pos h]; exact hs
 ·rw [if_neg h]
  have hn : z ∉ zs := fun k => h (kZ_at zs z hs k)
  have ht := hs
  rw [← List.take_append_drop (kZ zs z) zs] at ht
  obtain ⟨t1, t2, t3⟩ := List.pairwise_append.1 ht
  refine List.pairwise_append.2 ⟨t1, List.pairwise_cons.2 ⟨fun a ha => ?_, t2⟩, fun a ha b hb => ?_⟩
  ·have h1 := kZ_drop zs z hs a ha
   have h2 : a ≠ z := fun e => hn (e ▸ List.mem_of_mem_drop ha)
   grind
  ·rcases List.mem_cons.1 hb with rfl | hb
   ·exact kZ_take zs _ a ha
   ·exact t3 a ha b hb
structure Md (s : List Rat × List Rat) : Prop where
 z : ∀ u, evR s.1 u = 0 ↔ u ∈ s.2
 o : s.2.Pairwise (· < ·)
 p : ∃ L : List Rat, ∀ x, evR s.1 x = L.foldl (fun a z => a * (x - z)) (2/3)
theorem Md.zero : Md (md0, []) := by
 have h0 : ∀ x, evR md0 x = 2/3 := fun x => by
  have : Rat.divInt 2 3 = 2/3 := by decide +kernel
  unfold md0
  rw [Qbl, Qct, this]
 refine ⟨fun u => ?_, List.Pairwise.nil, ⟨[], h0⟩⟩
 show evR md0 u = 0 ↔ u ∈ []
 rw [h0]
 constructor
 ·intro h; grind
 ·intro h; simp at h
theorem Md.step {s : List Rat × List Rat} (M : Md s) (z : Rat) : Md (mdR s z) := by
 have he : ∀ x, evR (mdR s z).1 x = evR s.1 x * (x - z) := fun x => by
  show evR (muP s.1 (Qa2 [-z, 1])) x = _
  rw [Qbb, Qbl, Qg5]
 refine ⟨fun u => ?_, insZ_sort M.o, ?_⟩
 ·rw [he]
  show _ ↔ u ∈ insZ s.2 z
  rw [insZ_iff, ← M.z u]
  constructor
  ·intro h
   rcases Rat.mul_eq_zero.1 h with k | k
   ·exact .inl k
   ·exact .inr (by grind)
  ·rintro (h | h)
   ·rw [h]; grind
   ·rw [h]; grind
 ·obtain ⟨L, hL⟩ := M.p
  exact ⟨L ++ [z], fun x => by rw [he, hL, List.foldl_append]; rfl⟩
theorem Md.fold : ∀ (L : List Int) {s : List Rat × List Rat}, Md s → Md (mdF L s)
 | [], s, M => M
 | x :: L, s, M => Md.fold L (M.step (smR x))
theorem QoY {c : List Rat} (hc : Gd c) : ∀ (L : List Rat) (m : List Rat), (∀ x, evR m x = L.foldr (fun z a => a * (x - z)) (evR c x)) → Gd m
 | [], m, h => fun f hf => hc f (by obtain ⟨s, hs⟩ := hf; exact ⟨s, fun x => by rw [← hs, h]; rfl⟩)
 | z :: L, m, h => by
  have hex : ∃ n : List Rat, ∀ x, evR n x = L.foldr (fun z a => a * (x - z)) (evR c x) := by
   clear h
   induction L with
   | nil => exact ⟨c, fun x => rfl⟩
   | cons b L ih =>
    obtain ⟨n, hn⟩ := ih
    exact ⟨muP n [-b, 1], fun x => by rw [Qbb, Qg5, hn]; rfl⟩
  obtain ⟨n, hn⟩ := hex
  exact gd_lin (QoY hc L n hn) (z := z) fun x => by rw [h, hn]; rfl
theorem Qok (x e : Rat) (L : List Rat) : L.foldl (fun a z => a * (x - z)) e = L.reverse.foldr (fun z a => a * (x - z)) e := by
 rw [List.foldr_reverse]
theorem QnR (x e k : Rat) : ∀ L : List Rat, L.foldr (fun z a => a * (x - z)) e * k = L.foldr (fun z a => a * (x - z)) (e * k)
 | [] => rfl
 | z :: L => by
  rw [List.foldr_cons, List.foldr_cons, ← QnR x e k L]; grind
theorem Qqv (L : List Int) (w : Int) : mdP L w ≠ [] ∧ Zrs (frP (mdP L w)) (mdZ L) := by
  have M := Md.fold (L.take 4) Md.zero
  obtain ⟨_, tp, _⟩ := mdP_ok L w
  obtain ⟨LL, hLL⟩ := M.p
  have hz := M.z
  have hs := M.o
  have hev : ∃ e : Rat → Rat, (∀ x, evR (mdP L w) x = evR (mdF (L.take 4) (md0, [])).1 x * e x) ∧ (∀ x, 0 < e x) ∧ Gd (mdP L w) := by
    unfold mdP
    by_cases h : w.tmod 2 ≠ 0
    · rw [if_pos h]
      refine ⟨fun x => x * x + 1, fun x => ?_, fun x => by have := Qk3 x; grind, ?_⟩
      · rw [Qbb, Qbl, QaG, QaG, Qct]; grind
      · refine QoY (c := [2/3, 0, 2/3]) (gd_wild (e := 2/3) (by decide +kernel) (fun x => by rw [QaG, QaG, Qct]; grind)) LL.reverse _ fun x => ?_
        rw [Qbb, Qbl, hLL, Qok, QnR]
        congr 1
        rw [QaG, QaG, Qct, QaG, QaG, Qct]; grind
    · rw [if_neg h]
      refine ⟨fun x => 1, fun x => by grind, fun x => by grind, ?_⟩
      refine QoY (c := [2/3]) (gd_con (e := 2/3) (by decide +kernel) (fun x => Qct _ _)) LL.reverse _ fun x => ?_
      rw [hLL, Qok, Qct]
  obtain ⟨e, he, hpos, hg⟩ := hev
  have hroot : ∀ u, evR (mdP L w) u = 0 ↔ u ∈ mdZ L := fun u => by
    rw [he]
    show _ ↔ u ∈ (mdF (L.take 4) (md0, [])).2
    rw [← hz u]
    have := hpos u
    constructor
    · intro h
      rcases Rat.mul_eq_zero.1 h with k | k
      · exact k
      · grind
    · intro h; rw [h]; grind
  have p0 : mdP L w ≠ [] := fun h0 => by
    -- more zeros than members
    have hall : ∀ u, u ∈ mdZ L := fun u => (hroot u).1 (by rw [h0, QaF])
    have hfin : ∀ zs : List Rat, ∃ B, ∀ z ∈ zs, z < B := by
      intro zs
      induction zs with
      | nil => exact ⟨0, fun z hz => by simp at hz⟩
      | cons a l ih =>
        obtain ⟨B, hB⟩ := ih
        by_cases h : a < B
        · exact ⟨B, fun z hz => by
            rcases List.mem_cons.1 hz with rfl | hz
            · exact h
            · exact hB z hz⟩
        · refine ⟨a + 1, fun z hz => ?_⟩
          rcases List.mem_cons.1 hz with rfl | hz
          · grind
          · have := hB z hz; grind
    obtain ⟨B, hB⟩ := hfin (mdZ L)
    exact absurd (hB B (hall B)) Rat.lt_irrefl
  refine ⟨p0, fun u => by rw [QmR tp p0]; exact hroot u, fun u v huv hf => ?_, hs⟩
  obtain ⟨z, h1, h2⟩ := hg _ (Qjt tp p0) u v huv hf
  exact ⟨z, (hroot z).1 ((QmR tp p0 z).1 h1), h2⟩
end Go.AM

/- ref06.Eval and ref07.Changes, counted at great coefficients; ref07.Bound. -/
namespace Go.AM
open Go Go.RowKit
variable [Its]
section
variable {d : D} {l : List Rat} {K : Nat}
end
section
variable {d : D} {ps : List (List Rat)} {x : Rat} {K : Nat}
end
section
variable {d : D} {p : List Rat} {K : Nat}
end
end Go.AM

/- Chains by both packages: sizes. -/
namespace Go.AM
open Go Go.RowKit
structure Fit (s N Kg Kq K : Nat) (p : List Rat) : Prop where
 H : HL s s p
 t : Trm p
 n : p.length ≤ N
 N9 : 1 ≤ N ∧ N ≤ 40
 g : (s + 2) * 3 ^ N ≤ Kg
 q : s + N * (Kg + 1) + Kg + 1 ≤ Kq
 f : (Kq + 2) * 3 ^ (N - 1) ≤ K
 l : (s + 2) * 3 ^ N ≤ K ∧ s + 2 ≤ Kg ∧ Kg ≤ Kq ∧ Kq + 2 ≤ K ∧ K ≤ 200000000
section
variable {s N Kg Kq K : Nat} {p : List Rat}
theorem Fit.d (F : Fit s N Kg Kq K p) : HL (s + 1) (s + 1) (deP p) := (F.H.de (by have := F.n; have := F.N9; have : BB = 1000000000 := rfl; omega)).mono (by omega) (by omega)
theorem Fit.gcd (F : Fit s N Kg Kq K p) (p0 : p ≠ []) : gcG Kg ((deP p).length + 1) (mnP p) (mnP (deP p)) ∧ gcH Kg ((deP p).length + 1) (mnP p) (mnP (deP p)) ∧ HL Kg Kg (gcdP p (deP p)) := by
 have l1 := QgX F.t
 have l2 := QgX (Qc8 p)
 have ld := QkC F.t
 have hp := List.length_pos_iff.2 p0
 have hn := F.n
 have h2 : (s + 1 + 1) * (dvN (mnP p) (mnP (deP p)) + 1) * 3 ^ (mnP (deP p)).length ≤ Kg := by
  refine Nat.le_trans ?_ F.g
  rw [Nat.mul_assoc]
  refine Nat.mul_le_mul_left _ ?_
  have h3 : (dvN (mnP p) (mnP (deP p)) + 1) * 3 ^ (mnP (deP p)).length = 3 ^ p.length := by
   have e : dvN (mnP p) (mnP (deP p)) + 1 = 3 := by unfold dvN; omega
   rw [e, l2, ld, show p.length = (p.length - 1) + 1 by omega, Nat.pow_succ, Nat.add_sub_cancel, Nat.mul_comm]
  rw [h3]
  exact Nat.pow_le_pow_right (by decide) hn
 exact gc_pot (K := Kg) ((deP p).length + 1) (s + 1) (mnP p) (mnP (deP p)) ((Qm0 F.H F.t).mono (by omega) (by omega)) (Qm0 F.d (Qc8 p)) (QhC _) (by omega) h2
theorem Fit.quo (F : Fit s N Kg Kq K p) (p0 : p ≠ []) : HL Kq Kq (quoP p (gcdP p (deP p))) ∧ dvG Kq (gcdP p (deP p)) (dvN p (gcdP p (deP p))) p ∧ (HL s s (frP p) ∨ (frP p).length ≤ N - 1) := by
 obtain ⟨_, _, Hg⟩ := F.gcd p0
 have ng := Qqf F.t (Qc8 p) (.inl p0)
 have hl := List.length_pos_iff.2 ng
 have hn := F.n
 have hq := F.q
 have hm : dvN p (gcdP p (deP p)) ≤ N := by unfold dvN; omega
 have h1 : dvN p (gcdP p (deP p)) * Kg ≤ N * Kg := Nat.mul_le_mul_right _ hm
 have h2 : dvN p (gcdP p (deP p)) * (Kg + 1) ≤ N * (Kg + 1) := Nat.mul_le_mul_right _ hm
 have h3 : N * (Kg + 1) = N * Kg + N := Nat.mul_succ _ _
 obtain ⟨x, _, z⟩ := QnW (K := Kq) F.H Hg QhP (by omega)
 refine ⟨z.mono (by omega) (by omega), x, ?_⟩
 by_cases l1 : (gcdP p (deP p)).length = 1
 ·left
  have e : gcdP p (deP p) = [1] := Qmr (QqC F.t (Qc8 p)) l1
  unfold frP
  rw [e, quo_17 p F.t]
  exact Qm0 F.H F.t
 ·right
  unfold frP
  have k1 := QfQ (quoP p (gcdP p (deP p)))
  have k2 := QmB p (gcdP p (deP p))
  unfold dvN at k2
  omega
theorem Fit.free (F : Fit s N Kg Kq K p) (p0 : p ≠ []) : HL Kq Kq (frP p) ∧ (frP p).length ≤ N := by
 obtain ⟨a, _, _⟩ := F.quo p0
 exact ⟨Qm0 a (QhG _ _), Nat.le_trans (QgG (Qic p) F.t p0 (Qjt F.t p0)) F.n⟩
theorem Fit.chain (F : Fit s N Kg Kq K p) (p0 : p ≠ []) : ChOk K p.length (frP p) (deP (frP p)) ∧ ∀ q ∈ chP p, SzL K q ∧ q.length ≤ N := by
 have hBB : BB = 1000000000 := rfl
 obtain ⟨Q, nf⟩ := F.free p0
 obtain ⟨_, _, F2⟩ := F.quo p0
 have nd := QkC (Qic p)
 have pl := List.length_pos_iff.2 p0
 have fl := QgG (Qic p) F.t p0 (Qjt F.t p0)
 have fpos := List.length_pos_iff.2 (Qlz F.t p0)
 have l := F.l
 have N9 := F.N9
 have key : ∀ r M, HL r r (frP p) → HL r r (deP (frP p)) → (frP p).length ≤ M → (r + 1) * 3 ^ M ≤ K → ChOk K p.length (frP p) (deP (frP p)) ∧ ∀ q ∈ chL p.length (frP p) (deP (frP p)), SzL K q ∧ q.length ≤ (deP (frP p)).length := by
  intro r M h1 h2 hM hK
  refine ch_pot p.length r (frP p) (deP (frP p)) h1 h2 (Qc8 _) (by omega) (by omega) ?_
  rw [Nat.mul_assoc]
  refine Nat.le_trans (Nat.mul_le_mul_left _ ?_) hK
  have h3 : (dvN (frP p) (deP (frP p)) + 1) * 3 ^ (deP (frP p)).length = 3 ^ (frP p).length := by
   have e : dvN (frP p) (deP (frP p)) + 1 = 3 := by unfold dvN; omega
   rw [e, nd, show (frP p).length = ((frP p).length - 1) + 1 by omega, Nat.pow_succ, Nat.add_sub_cancel, Nat.mul_comm]
  rw [h3]
  exact Nat.pow_le_pow_right (by decide) hM
 have k : ChOk K p.length (frP p) (deP (frP p)) ∧ ∀ q ∈ chL p.length (frP p) (deP (frP p)), SzL K q ∧ q.length ≤ (deP (frP p)).length := by
  rcases F2 with F2 | F2
  ·exact key (s + 1) N (F2.mono (by omega) (by omega)) ((F2.de (by omega)).mono (by omega) (by omega)) nf l.1
  ·exact key (Kq + 1) (N - 1) (Q.mono (by omega) (by omega)) ((Q.de (by omega)).mono (by omega) (by omega)) F2 F.f
 refine ⟨k.1, fun q hq => ?_⟩
 rw [chP, if_neg p0] at hq
 rcases List.mem_cons.1 hq with rfl | hq
 ·exact ⟨Q.sz.mono (by omega), nf⟩
 ·exact ⟨(k.2 q hq).1, by have := (k.2 q hq).2; omega⟩
theorem Fit.clen (F : Fit s N Kg Kq K p) : (chP p).length ≤ N + 1 := by
 have := F.n
 unfold chP
 split
 ·simp
 ·rw [List.length_cons]; have := Qpe p.length (frP p) (deP (frP p)); omega
end
section
variable [Its] {s N Kg Kq K : Nat} {dp : D} {p : List Rat}
theorem Fit.sChain (F : Fit s N Kg Kq K p) (hp : RwR dp p) (p0 : p ≠ []) : ∃ ds, Dls ds (chP p) ∧ Qaj G Qbd [dp] = some (.own 1 ds.length ds) := by
 have hn := F.n
 have N9 := F.N9
 have l := F.l
 have gl := Qqc (M := N) (b := deP p) hn (by have := Qnm p; omega)
 obtain ⟨g1, _, Hg⟩ := F.gcd p0
 obtain ⟨z, x, _⟩ := F.quo p0
 obtain ⟨Q, nf⟩ := F.free p0
 have fr := Qe1 hp (by omega) (K := Kq + 1) (by omega) (by omega) (F.H.sz.mono (by omega)) (F.d.sz.mono (by omega)) (Ql1 (by omega) _ _ _ g1) (by omega) (Hg.sz.mono (by omega)) (QjX (by omega) _ _ x) (z.sz.mono (by omega))
 exact Qgk (K := K) p0 (by omega) fr (Qlz F.t p0) (by omega) (Q.sz.mono (by omega)) (F.chain p0).1 (by omega) (by omega)
end
end Go.AM

/- law07.SturmChains: one round. -/
namespace Go.AM
open Go Go.RowKit
variable [Its]
section
variable {dl : D} {ps : List (List Rat)} {a : Rat} {K : Nat}
variable [ItsB]
end
end Go.AM

/- law07.SturmCounts: the loop over the zeros; what is counted. -/
namespace Go.AM
open Go Go.RowKit
theorem nz_snoc {zs : List Rat} {i : Nat} (hi : i < zs.length) (lo hi' : Rat) : nz (zs.take (i + 1)) lo hi' = nz (zs.take i) lo hi' + (if lo < zs.getD i 0 ∧ zs.getD i 0 ≤ hi' then 1 else 0) := by
 have e : zs.take (i + 1) = zs.take i ++ [zs.getD i 0] := by
  rw [List.take_add_one, List.getD_eq_getElem?_getD, List.getElem?_eq_getElem hi]; rfl
 unfold nz
 rw [e, List.filter_append, List.length_append]
 by_cases h : lo < zs.getD i 0 ∧ zs.getD i 0 ≤ hi'
 ·rw [if_pos h, List.filter_cons_of_pos (by simpa using h)]; rfl
 ·rw [if_neg h, List.filter_cons_of_neg (by simpa using h)]; rfl
theorem nz_le (zs : List Rat) (x y : Rat) : nz zs x y ≤ zs.length := List.length_filter_le _ _
theorem nz_all {zs : List Rat} {x y : Rat} (h : ∀ z ∈ zs, x < z ∧ z ≤ y) : nz zs x y = zs.length := by
 unfold nz
 rw [List.filter_eq_self.2 (fun z hz => by simpa using h z hz)]
def Qik (dp dz : D) (lo hi b : Rat) (n i : Int) : St := mkS [(9, .d dp), (10, .d dz), (11, .ptr [11] 0), (12, .ptr [12] 0), (13, ai n), (14, .ptr [14] 0), (15, ai i)] [([11], boxR lo), ([12], boxR hi), ([14], boxR b)]
def Qmg (dp dz : D) (lo hi b : Rat) (n : Int) : St := mkS [(9, .d dp), (10, .d dz), (11, .ptr [11] 0), (12, .ptr [12] 0), (13, ai n), (14, .ptr [14] 0)] [([11], boxR lo), ([12], boxR hi), ([14], boxR b)]
variable [Its]
section
variable {dp dz : D} {zs : List Rat} {lo hi b : Rat}
theorem cs_go (hz : RwR dz zs) (nz4 : zs.length ≤ 1000) (sz1 : SzL 1000 zs) (hlo : sz lo ≤ 1000) (hhi : sz hi ≤ 1000) (hb : sz b ≤ 1000) (hin : ∀ z ∈ zs, -b < z ∧ z < b) {i : Nat} (hi' : i < zs.length) :
    X G Qar (Qik dp dz lo hi b (nz (zs.take i) lo hi) i) = some (.n, Qik dp dz lo hi b (nz (zs.take (i + 1)) lo hi) ((i + 1 : Nat) : Int)) := by
  have e1 : decide ((i : Int) < (zs.length : Int)) = true := lt_t (by omega)
  have e2 : w64 ((i : Int) + 1) = ((i + 1 : Nat) : Int) := by rw [Qaf (by omega) (by omega)]; rfl
  have ll := hz.len
  have x1 := hz.ixa hi'
  have x2 := fun h => ldR h zs hi'
  have s1 := sz1.getD (by omega) i
  have hm := hin (zs.getD i 0) (by rw [List.getD_eq_getElem?_getD, List.getElem?_eq_getElem hi']; exact List.getElem_mem hi')
  have hn := nz_le (zs.take i) lo hi
  rw [List.length_take] at hn
  rw [nz_snoc hi']
  generalize nz (zs.take i) lo hi = n at *
  have e3 : w64 ((n : Int) + 1) = ((n + 1 : Nat) : Int) := by rw [Qaf (by omega) (by omega)]; rfl
  have g1 := QbR (a := zs.getD i 0) (b := lo) (by omega) (by omega)
  have g2 := QbR (a := zs.getD i 0) (b := hi) (by omega) (by omega)
  have g3 := QbR (a := zs.getD i 0) (b := b) (by omega) (by omega)
  have g4 := QgT (a := b) (by omega)
  have sn := Qm5 b
  have g5 := QbR (a := zs.getD i 0) (b := -b) (by omega) (by omega)
  have t1 := QiR (a := zs.getD i 0) (b := lo)
  have t2 := QiR (a := zs.getD i 0) (b := hi)
  have t3 : decide (cmpR (zs.getD i 0) b ≥ 0) = false := decide_eq_false (fun h => by
    have := (cmpR_lt (a := zs.getD i 0) (b := b)).2 hm.2; omega)
  have t5 : decide (cmpR (zs.getD i 0) (-b) ≤ 0) = false := decide_eq_false (fun h => by
    have h2 := QiR (a := zs.getD i 0) (b := -b)
    rw [decide_eq_true hm.1] at h2
    have := of_decide_eq_true h2
    omega)
  have t2' : decide (cmpR (zs.getD i 0) hi ≤ 0) = decide (zs.getD i 0 ≤ hi) := by
    by_cases k : hi < zs.getD i 0
    · rw [decide_eq_true k] at t2
      have := of_decide_eq_true t2
      rw [decide_eq_false (by omega), decide_eq_false (by grind)]
    · rw [decide_eq_false k] at t2
      have := of_decide_eq_false t2
      rw [decide_eq_true (by omega), decide_eq_true (by grind)]
  clear t2
  generalize zs.getD i 0 = z at *
  generalize cRs (zs.drop i) = cs at *
  generalize cmpR z lo = c1 at *
  generalize cmpR z hi = c2 at *
  generalize cmpR z b = c3 at *
  generalize -b = nb at *
  generalize cmpR z nb = c5 at *
  clear hin hm s1 sn
  simp only [encR, iv] at x2 g1 g2 g3 g4 g5
  by_cases k1 : lo < z
  · rw [decide_eq_true k1] at t1
    by_cases k2 : z ≤ hi
    · rw [decide_eq_true k2] at t2'
      rw [if_pos ⟨k1, k2⟩]
      simp -implicitDefEqProofs (maxSteps:=9^8) only [Qar, Qik, boxR, ll, x1, x2, g1, g2, g3, g4, g5, t1, t2', t3, t5, e1, e2, e3, ld4q, Qac, go_sem, iv, bv, reduceCtorEq, ↓reduceIte, Nat.reduceEqDiff]
    · rw [decide_eq_false k2] at t2'
      rw [if_neg (fun h => k2 h.2), Nat.add_zero]
      simp -implicitDefEqProofs (maxSteps:=9^8) only [Qar, Qik, boxR, ll, x1, x2, g1, g2, g3, g4, g5, t1, t2', t3, t5, e1, e2, e3, ld4q, Qac, go_sem, iv, bv, reduceCtorEq, ↓reduceIte, Nat.reduceEqDiff]
  · rw [decide_eq_false k1] at t1
    rw [if_neg (fun h => k1 h.1), Nat.add_zero]
    simp -implicitDefEqProofs (maxSteps:=9^8) only [Qar, Qik, boxR, ll, x1, x2, g1, g3, g4, g5, t1, t3, t5, e1, e2, e3, ld4q, QdP, decide_false, Bool.false_eq_true, if_false, Qac, go_sem, iv, bv, reduceCtorEq, ↓reduceIte, Nat.reduceEqDiff]
theorem cs_stop (hz : RwR dz zs) {n : Int} : X G Qar (Qik dp dz lo hi b n zs.length) = some (.x 0, Qmg dp dz lo hi b n) := by
 have e1 : decide ((zs.length : Int) < (zs.length : Int)) = false := lt_f (by omega)
 have ll := hz.len
 simp -implicitDefEqProofs (maxSteps:=9^8) only [Qar, Qik, Qmg, boxR, ll, e1, Qac, go_sem, iv, bv, reduceCtorEq, ↓reduceIte, Nat.reduceEqDiff]
theorem cs_loop (hz : RwR dz zs) (nz4 : zs.length ≤ 1000) (sz1 : SzL 1000 zs) (hlo : sz lo ≤ 1000) (hhi : sz hi ≤ 1000) (hb : sz b ≤ 1000) (hin : ∀ z ∈ zs, -b < z ∧ z < b) : ∀ (j i : Nat), i + j = zs.length →
    X G (.loop Qar) (Qik dp dz lo hi b (nz (zs.take i) lo hi) i) = some (.x 0, Qmg dp dz lo hi b (nz zs lo hi))
  | 0, i, h => by
    have : i = zs.length := by omega
    subst this
    rw [Qak, cs_stop hz, List.take_length]; rfl
  | j + 1, i, h => by
    rw [Qak, cs_go hz nz4 sz1 hlo hhi hb hin (by omega), Option.bind_some, if_pos rfl]
    exact cs_loop hz nz4 sz1 hlo hhi hb hin j (i + 1) (by omega)
end
end Go.AM

namespace Go.Proofs.YtbbemgfheagobaaGreat.Pure
open Go Go.AM
structure Fin7 (dp dz : D) (zs : List Rat) (b lo hi : Rat) : Prop where
 l : X G (.loop Qar) (Qik dp dz lo hi b 0 0) = some (.x 0, Qmg dp dz lo hi b (nz zs lo hi))
 c : Qaj G QaE [encR lo, encR hi] = some (.d (iv (cmpR lo hi)))
 n : Qaj G QaY [dp, encR lo, encR hi] = some (.d (iv (nz zs lo hi)))
 z : Qaj G QaY [.z true, encR lo, encR hi] = some (.d (iv 0))
 a : ∃ (ds : List D) (u v : Nat), Qaj G Qbd [dp] = some (.own 1 ds.length ds) ∧ Qaj G Qb1 [.row ds.length ds, encR lo] = some (.d (iv u)) ∧ Qaj G Qb1 [.row ds.length ds, encR hi] = some (.d (iv v)) ∧ w64 ((u : Int) - (v : Int)) = (u : Int) - (v : Int) ∧ (cmpR lo hi < 0 → (u : Int) - (v : Int) = (nz zs lo hi : Int))
theorem fin7 {L : List Int} {w : Int} {dp dz : D} (hp : RwR dp (mdP L w)) (hz : RwR dz (mdZ L)) {lo hi : Rat} (h1 : sz lo ≤ 100) (h2 : sz hi ≤ 100) : Fin7 dp dz (mdZ L) (bdR (mdP L w)) lo hi := by
 obtain ⟨Hp, tp, np⟩ := mdP_ok L w
 obtain ⟨p0, Z⟩ := Qqv L w
 have M := MdI.fold (L.take 4) MdI.zero (by have : (L.take 4).length ≤ 4 := List.length_take_le _ _; omega)
 have l4 : (L.take 4).length ≤ 4 := List.length_take_le _ _
 have nz4 : (mdZ L).length ≤ 4 := Nat.le_trans M.m (by omega)
 have sz1 : SzL 1000 (mdZ L) := fun q hq => by
  obtain ⟨k, rfl⟩ := M.z q hq
  exact Nat.le_trans (Qog k) (by omega)
 have hroot : ∀ z ∈ mdZ L, evR (mdP L w) z = 0 := fun z hz => (QmR tp p0 z).1 ((Z.z z).2 hz)
 have hin : ∀ z ∈ mdZ L, -bdR (mdP L w) < z ∧ z < bdR (mdP L w) := fun z hz => bd_zero tp p0 (hroot z hz)
 have sb : sz (bdR (mdP L w)) ≤ 1000 := by
  have s1 := Qnr (p := mdP L w) (K := 13) (Hp.sz.mono (by omega)) (by omega) ((mdP L w).length - 1)
  have s2 := QkI (a := bdF (mdP L w) ((mdP L w).length - 1)) (b := 1)
  have s3 := Qkp
  unfold bdR; omega
 have F : Fit 11 7 28431 230000 200000000 (mdP L w) := ⟨Hp.mono (by omega) (by omega), tp, np, ⟨by omega, by omega⟩, by decide, by omega, by decide, ⟨by decide, by omega, by omega, by omega, by omega⟩⟩
 have hC := F.sChain hp p0
 have hc := (F.chain p0).2
 have cl := F.clen
 have hs : ∀ q ∈ chP (mdP L w), SzL 200000000 q ∧ q.length * (2 * 200000000 + 1) ≤ 40000000000 := fun q hq => ⟨(hc q hq).1, Nat.le_trans (Nat.mul_le_mul_right _ (hc q hq).2) (by decide)⟩
 have ecnt : ∀ x y, cnt (chP (mdP L w)) x y = (nz (mdZ L) x y : Int) := fun x y => by
  unfold cnt
  by_cases h : y ≤ x
  ·rw [if_pos h, QmF fun z hz h2 => by grind]; rfl
  ·rw [if_neg h, chg_chP tp p0 Z (show x ≤ y by grind)]; omega
 have hcnt := Qfn hC (by omega) hs (lo := lo) (hi := hi) (by omega) (by omega) (by omega)
 rw [ecnt] at hcnt
 have hnil := sCount6 (dp := .z true) (p := []) .nil (HL.nil _ _) Qf9 (by simp) (lo := lo) (hi := hi) (by omega) (by omega)
 have e0 : cnt (chP []) lo hi = 0 := by
  have : chP [] = [] := if_pos rfl
  rw [this]
  unfold cnt
  split
  ·rfl
  ·show ((chg [] lo : Int) - (chg [] hi : Int)) = 0
   have c1 : chg [] lo = 0 := rfl
   have c2 : chg [] hi = 0 := rfl
   rw [c1, c2]; rfl
 rw [e0] at hnil
 refine ⟨?_, QbR (by omega) (by omega), hcnt, hnil, ?_⟩
 ·exact cs_loop hz (by omega) sz1 (by omega) (by omega) sb hin (mdZ L).length 0 (by omega)
 ·obtain ⟨ds, hd, g⟩ := hC
  have g1 := Qec (K := 200000000) (x := lo) hd.rwc (by omega) hs (by omega) (by omega)
  have g2 := Qec (K := 200000000) (x := hi) hd.rwc (by omega) hs (by omega) (by omega)
  have c1 : chg (chP (mdP L w)) lo ≤ 1000 := Nat.le_trans (QlB _ _) (Nat.le_trans (QnJ _ lo) (by omega))
  have c2 : chg (chP (mdP L w)) hi ≤ 1000 := Nat.le_trans (QlB _ _) (Nat.le_trans (QnJ _ hi) (by omega))
  refine ⟨ds, _, _, g, g1, g2, Qaf (by omega) (by omega), fun h => ?_⟩
  have h3 := cmpR_lt.1 h
  rw [chg_chP tp p0 Z (show lo ≤ hi by grind)]; omega
set_option maxHeartbeats 2000000 in
theorem SturmCounts (e0 : D) (l0 : List Int) (hd0 : Dg e0 l0) (hwf0 : ∀ n ∈ l0, (Lit.int .i64 n).wf = true) (hlen0 : l0.length * 8 ≤ 140737488351232) (a1 : Int) (w1 : (Lit.int .i64 a1).wf = true) (a2 : Int) (w2 : (Lit.int .i64 a2).wf = true) (a3 : Int) (w3 : (Lit.int .i64 a3).wf = true) : Qaj G 4 [e0, iv a1, iv a2, iv a3] = some (.d (bv true)) := by
 obtain ⟨dp, dz, hp, hz, gq⟩ := Made_spec (w := a1) (rw_dg hd0) (fun n hn => Qlu (hwf0 n hn)) (Qlu w1)
 have M := MdI.fold (l0.take 4) MdI.zero (by have : (l0.take 4).length ≤ 4 := List.length_take_le _ _; omega)
 have l4 : (l0.take 4).length ≤ 4 := List.length_take_le _ _
 have nz4 : (mdZ l0).length ≤ 4 := Nat.le_trans M.m (by omega)
 have hsm : ∀ q ∈ mdZ l0, sz q ≤ 2 := fun q hq => by
  obtain ⟨k, rfl⟩ := M.z q hq
  exact Qog k
 obtain ⟨Hp, tp, np⟩ := mdP_ok l0 a1
 obtain ⟨p0, Z⟩ := Qqv l0 a1
 have hroot : ∀ z ∈ mdZ l0, evR (mdP l0 a1) z = 0 := fun z hz => (QmR tp p0 z).1 ((Z.z z).2 hz)
 have hin : ∀ z ∈ mdZ l0, -bdR (mdP l0 a1) < z ∧ z < bdR (mdP l0 a1) := fun z hz => bd_zero tp p0 (hroot z hz)
 have sb : sz (bdR (mdP l0 a1)) ≤ 50 := by
  have s1 := Qnr (p := mdP l0 a1) (K := 13) (Hp.sz.mono (by omega)) (by omega) ((mdP l0 a1).length - 1)
  have s2 := QkI (a := bdF (mdP l0 a1) ((mdP l0 a1).length - 1)) (b := 1)
  have s3 := Qkp
  unfold bdR; omega
 have g2 := Qjf (Qlu w2)
 have g3 := Qjf (Qlu w3)
 have z2 := Qog a2
 have z3 := Qog a3
 have gB := QhK hp (by omega) (K := 13) (Hp.sz.mono (by omega)) (by omega) (by omega)
 have gN := QgT (a := bdR (mdP l0 a1)) (by omega)
 have snb := Qm5 (bdR (mdP l0 a1))
 have FB := (fin7 hp hz (w := a1) (lo := -bdR (mdP l0 a1)) (hi := bdR (mdP l0 a1)) (by omega) (by omega)).n
 rw [nz_all fun z hz => ⟨(hin z hz).1, Rat.le_of_lt (hin z hz).2⟩] at FB
 have F := fun (lo hi : Rat) (h1 : sz lo ≤ 100) (h2 : sz hi ≤ 100) => fin7 hp hz (w := a1) (lo := lo) (hi := hi) h1 h2
 have ll := hz.len
 have lv := lives7
 -- the ends of the interval
 have m3 : w64 (a1.tmod 3) = a1.tmod 3 := by
  have := Int.tmod_lt_of_pos a1 (b := 3) (by omega)
  have := Int.lt_tmod_of_pos a1 (b := 3) (by omega)
  exact Qaf (by omega) (by omega)
 have m5 : w64 (a1.tmod 5) = a1.tmod 5 := by
  have := Int.tmod_lt_of_pos a1 (b := 5) (by omega)
  have := Int.lt_tmod_of_pos a1 (b := 5) (by omega)
  exact Qaf (by omega) (by omega)
 have t30 : ((3 : Int) = 0) = False := eq_false (by decide)
 have t50 : ((5 : Int) = 0) = False := eq_false (by decide)
 have hA : ∀ n : Int, I64 n → 0 < (mdZ l0).length → ∃ (q : Rat) (j : Int) (r : List D), sz q ≤ 2 ∧ Qaj G QbT [iv n, iv ((mdZ l0).length : Int)] = some (.d (iv j)) ∧ (∀ h, ixaA h 4 j (.d dz) = some (.d (.rp r))) ∧ ∀ h, Qcd h (some 4) (.d (.rp r)) = some (.d (encR q)) := by
  intro n hn h0
  have hb := arnd_b (n := n) (m := ((mdZ l0).length : Int)) (by omega)
  have hs := QkA (m := ((mdZ l0).length : Int)) hn (by omega)
  obtain ⟨j, hj⟩ : ∃ j : Nat, arnd n ((mdZ l0).length : Int) = (j : Int) := ⟨(arnd n ((mdZ l0).length : Int)).toNat, by omega⟩
  rw [hj] at hb hs
  have hj' : j < (mdZ l0).length := by omega
  exact ⟨(mdZ l0).getD j 0, j, _, hsm _ (by rw [List.getD_eq_getElem?_getD, List.getElem?_eq_getElem hj']; exact List.getElem_mem hj'), hs, hz.ixa hj', fun h => ldR h _ hj'⟩
 have hA2 := hA a2 (Qlu w2)
 have hA3 := hA a3 (Qlu w3)
 clear hA hroot hin M l4 hsm Hp tp np p0 Z hp hz snb
 have nz4' : (mdZ l0).length ≤ 1000 := by omega
 have hle := fun lo hi => nz_le (mdZ l0) lo hi
 generalize bdR (mdP l0 a1) = b at *
 generalize mdZ l0 = zs at *
 generalize mdP l0 a1 = p at *
 generalize smR a2 = q2 at *
 generalize smR a3 = q3 at *
 generalize -b = nb at *
 have e7 : ((zs.length : Int) == (zs.length : Int)) = true := beq_self_eq_true _
 have e8 : ((0 : Int) == 0) = true := rfl
 rw [Qad (cf := Qan) rfl]
 by_cases h0 : zs.length = 0
 ·have d1 : decide ((zs.length : Int) > 0) = false := decide_eq_false (by omega)
  obtain ⟨F1, F2, F3, F4, ds, u, v, F5, F6, F7, F8, F9⟩ := F q2 q3 (by omega) (by omega)
  have hn := hle q2 q3
  generalize nz zs q2 q3 = n at *
  generalize cmpR q2 q3 = c at *
  have e6 : ((n : Int) == (n : Int)) = true := beq_self_eq_true _
  clear F hle hA2 hA3
  simp only [encR, iv, bv] at gq g2 g3 gB gN FB F2 F3 F4 F5 F6 F7 lv 
  simp only [Qik, Qmg, boxR, go_sem] at F1
  by_cases hc : c < 0
  ·have tc : decide (c < 0) = true := lt_t hc
   have e5 : ((u : Int) - (v : Int) != (n : Int)) = false := Qh7 (F9 hc)
   have F8 := F8.trans (F9 hc)
   have e9 : ((n : Int) != (n : Int)) = false := Qh7 rfl
   simp -implicitDefEqProofs (maxSteps:=9^8) only [Qan, encR, gq, g2, g3, gB, gN, FB, F1, F2, F3, F4, F5, F6, F7, F8, e9, lv, ll, d1, m3, m5, t30, t50, e6, e7, e8, tc, st4q, ld4q, QdP, decide_false, Bool.false_eq_true, if_false, Qac, go_sem, iv, bv, reduceCtorEq, ↓reduceIte, Nat.reduceEqDiff]
  ·have tc : decide (c < 0) = false := lt_f hc
   simp -implicitDefEqProofs (maxSteps:=9^8) only [Qan, encR, gq, g2, g3, gB, gN, FB, F1, F2, F3, F4, lv, ll, d1, m3, m5, t30, t50, e6, e7, e8, tc, st4q, ld4q, QdP, decide_false, Bool.false_eq_true, if_false, Qac, go_sem, iv, bv, reduceCtorEq, ↓reduceIte, Nat.reduceEqDiff]
 ·have d1 : decide ((zs.length : Int) > 0) = true := decide_eq_true (by omega)
  obtain ⟨q4, j4, r4, s4, a4, x4, y4⟩ := hA2 (by omega)
  obtain ⟨q5, j5, r5, s5, a5, x5, y5⟩ := hA3 (by omega)
  by_cases c3 : a1.tmod 3 = 0
  ·have d3 : (a1.tmod 3 == 0) = true := QiS c3
   by_cases c5 : a1.tmod 5 = 0
   ·have d5 : (a1.tmod 5 == 0) = true := QiS c5
    obtain ⟨F1, F2, F3, F4, ds, u, v, F5, F6, F7, F8, F9⟩ := F q4 q5 (by omega) (by omega)
    have hn := hle q4 q5
    generalize nz zs q4 q5 = n at *
    generalize cmpR q4 q5 = c at *
    have e6 : ((n : Int) == (n : Int)) = true := beq_self_eq_true _
    clear F hle hA2 hA3
    simp only [encR, iv, bv] at gq g2 g3 gB gN FB F2 F3 F4 F5 F6 F7 lv a4 y4 a5 y5
    simp only [Qik, Qmg, boxR, go_sem] at F1
    by_cases hc : c < 0
    ·have tc : decide (c < 0) = true := lt_t hc
     have e5 : ((u : Int) - (v : Int) != (n : Int)) = false := Qh7 (F9 hc)
     have F8 := F8.trans (F9 hc)
     have e9 : ((n : Int) != (n : Int)) = false := Qh7 rfl
     simp -implicitDefEqProofs (maxSteps:=9^8) only [Qan, encR, gq, g2, g3, gB, gN, FB, F1, F2, F3, F4, F5, F6, F7, F8, e9, lv, ll, d1, m3, m5, t30, t50, e6, e7, e8, d3, d5, a4, x4, y4, a5, x5, y5, tc, st4q, ld4q, QdP, decide_false, Bool.false_eq_true, if_false, Qac, go_sem, iv, bv, reduceCtorEq, ↓reduceIte, Nat.reduceEqDiff]
    ·have tc : decide (c < 0) = false := lt_f hc
     simp -implicitDefEqProofs (maxSteps:=9^8) only [Qan, encR, gq, g2, g3, gB, gN, FB, F1, F2, F3, F4, lv, ll, d1, m3, m5, t30, t50, e6, e7, e8, d3, d5, a4, x4, y4, a5, x5, y5, tc, st4q, ld4q, QdP, decide_false, Bool.false_eq_true, if_false, Qac, go_sem, iv, bv, reduceCtorEq, ↓reduceIte, Nat.reduceEqDiff]
   ·have d5 : (a1.tmod 5 == 0) = false := Qcu c5
    obtain ⟨F1, F2, F3, F4, ds, u, v, F5, F6, F7, F8, F9⟩ := F q4 q3 (by omega) (by omega)
    have hn := hle q4 q3
    generalize nz zs q4 q3 = n at *
    generalize cmpR q4 q3 = c at *
    have e6 : ((n : Int) == (n : Int)) = true := beq_self_eq_true _
    clear F hle hA2 hA3
    simp only [encR, iv, bv] at gq g2 g3 gB gN FB F2 F3 F4 F5 F6 F7 lv a4 y4 a5 y5
    simp only [Qik, Qmg, boxR, go_sem] at F1
    by_cases hc : c < 0
    ·have tc : decide (c < 0) = true := lt_t hc
     have e5 : ((u : Int) - (v : Int) != (n : Int)) = false := Qh7 (F9 hc)
     have F8 := F8.trans (F9 hc)
     have e9 : ((n : Int) != (n : Int)) = false := Qh7 rfl
     simp -implicitDefEqProofs (maxSteps:=9^8) only [Qan, encR, gq, g2, g3, gB, gN, FB, F1, F2, F3, F4, F5, F6, F7, F8, e9, lv, ll, d1, m3, m5, t30, t50, e6, e7, e8, d3, d5, a4, x4, y4, a5, x5, y5, tc, st4q, ld4q, QdP, decide_false, Bool.false_eq_true, if_false, Qac, go_sem, iv, bv, reduceCtorEq, ↓reduceIte, Nat.reduceEqDiff]
    ·have tc : decide (c < 0) = false := lt_f hc
     simp -implicitDefEqProofs (maxSteps:=9^8) only [Qan, encR, gq, g2, g3, gB, gN, FB, F1, F2, F3, F4, lv, ll, d1, m3, m5, t30, t50, e6, e7, e8, d3, d5, a4, x4, y4, a5, x5, y5, tc, st4q, ld4q, QdP, decide_false, Bool.false_eq_true, if_false, Qac, go_sem, iv, bv, reduceCtorEq, ↓reduceIte, Nat.reduceEqDiff]
  ·have d3 : (a1.tmod 3 == 0) = false := Qcu c3
   by_cases c5 : a1.tmod 5 = 0
   ·have d5 : (a1.tmod 5 == 0) = true := QiS c5
    obtain ⟨F1, F2, F3, F4, ds, u, v, F5, F6, F7, F8, F9⟩ := F q2 q5 (by omega) (by omega)
    have hn := hle q2 q5
    generalize nz zs q2 q5 = n at *
    generalize cmpR q2 q5 = c at *
    have e6 : ((n : Int) == (n : Int)) = true := beq_self_eq_true _
    clear F hle hA2 hA3
    simp only [encR, iv, bv] at gq g2 g3 gB gN FB F2 F3 F4 F5 F6 F7 lv a4 y4 a5 y5
    simp only [Qik, Qmg, boxR, go_sem] at F1
    by_cases hc : c < 0
    ·have tc : decide (c < 0) = true := lt_t hc
     have e5 : ((u : Int) - (v : Int) != (n : Int)) = false := Qh7 (F9 hc)
     have F8 := F8.trans (F9 hc)
     have e9 : ((n : Int) != (n : Int)) = false := Qh7 rfl
     simp -implicitDefEqProofs (maxSteps:=9^8) only [Qan, encR, gq, g2, g3, gB, gN, FB, F1, F2, F3, F4, F5, F6, F7, F8, e9, lv, ll, d1, m3, m5, t30, t50, e6, e7, e8, d3, d5, a4, x4, y4, a5, x5, y5, tc, st4q, ld4q, QdP, decide_false, Bool.false_eq_true, if_false, Qac, go_sem, iv, bv, reduceCtorEq, ↓reduceIte, Nat.reduceEqDiff]
    ·have tc : decide (c < 0) = false := lt_f hc
     simp -implicitDefEqProofs (maxSteps:=9^8) only [Qan, encR, gq, g2, g3, gB, gN, FB, F1, F2, F3, F4, lv, ll, d1, m3, m5, t30, t50, e6, e7, e8, d3, d5, a4, x4, y4, a5, x5, y5, tc, st4q, ld4q, QdP, decide_false, Bool.false_eq_true, if_false, Qac, go_sem, iv, bv, reduceCtorEq, ↓reduceIte, Nat.reduceEqDiff]
   ·have d5 : (a1.tmod 5 == 0) = false := Qcu c5
    obtain ⟨F1, F2, F3, F4, ds, u, v, F5, F6, F7, F8, F9⟩ := F q2 q3 (by omega) (by omega)
    have hn := hle q2 q3
    generalize nz zs q2 q3 = n at *
    generalize cmpR q2 q3 = c at *
    have e6 : ((n : Int) == (n : Int)) = true := beq_self_eq_true _
    clear F hle hA2 hA3
    simp only [encR, iv, bv] at gq g2 g3 gB gN FB F2 F3 F4 F5 F6 F7 lv a4 y4 a5 y5
    simp only [Qik, Qmg, boxR, go_sem] at F1
    by_cases hc : c < 0
    ·have tc : decide (c < 0) = true := lt_t hc
     have e5 : ((u : Int) - (v : Int) != (n : Int)) = false := Qh7 (F9 hc)
     have F8 := F8.trans (F9 hc)
     have e9 : ((n : Int) != (n : Int)) = false := Qh7 rfl
     simp -implicitDefEqProofs (maxSteps:=9^8) only [Qan, encR, gq, g2, g3, gB, gN, FB, F1, F2, F3, F4, F5, F6, F7, F8, e9, lv, ll, d1, m3, m5, t30, t50, e6, e7, e8, d3, d5, a4, x4, y4, a5, x5, y5, tc, st4q, ld4q, QdP, decide_false, Bool.false_eq_true, if_false, Qac, go_sem, iv, bv, reduceCtorEq, ↓reduceIte, Nat.reduceEqDiff]
    ·have tc : decide (c < 0) = false := lt_f hc
     simp -implicitDefEqProofs (maxSteps:=9^8) only [Qan, encR, gq, g2, g3, gB, gN, FB, F1, F2, F3, F4, lv, ll, d1, m3, m5, t30, t50, e6, e7, e8, d3, d5, a4, x4, y4, a5, x5, y5, tc, st4q, ld4q, QdP, decide_false, Bool.false_eq_true, if_false, Qac, go_sem, iv, bv, reduceCtorEq, ↓reduceIte, Nat.reduceEqDiff]
end Go.Proofs.YtbbemgfheagobaaGreat.Pure

/- The row of SturmCounts, out of its Pure. Printed by row.py. -/
namespace Go.Proofs.YtbbemgfheagobaaGreat.sturmCounts
open Go.ChangeShapes Go.WideShapes Go.ChangeAt Go.RowKit Go.AM
theorem own : ownKnob Tryz.prog.godebug = none := by kernel_rfl
theorem laidOut : laidOutB Tryz.prog = true := by kernel_rfl
set_option maxRecDepth 100000 in
theorem lifted (os : Os) (started : os.Started) (H : Type) (enc : TypeId × Value → H) :
    ReturnsInHanded {} Tryz.checked os 4 .any (Rows.sturmCountsSpec.pre6 enc Tryz.prog Tryz.f4 Rows.sturmCountsRow.domain false) (Rows.sturmCountsSpec.post enc Tryz.prog Tryz.f4 false true false false) := by
  refine returnsInHanded_of_change_sized (C := Tryz.checked) own started (by kernel_rfl) Tryz.func4
    (ChangeSpec.witness6 (enc := enc) (C := Tryz.checked) false ⟨#[], #[.slice none 0 0, .int .i64 0, .int .i64 0, .int .i64 0], []⟩ 8 (by kernel_rfl) (by kernel_rfl) (by kernel_rfl) (by kernel_rfl)) ?_
  intro W base args ds gs before hval0 hW hcnd hsz0 _
  have hsz : (DataW.weightsEach Tryz.prog (Tryz.f4.params.toList ++ Rows.sturmCountsSpec.plain.varTypes Tryz.prog) (ds ++ gs)).all (· ≤ reachBytes) = true := hsz0
  have hval : ∀ (j : Nat) t v, Tryz.f4.params[j]? = some t → args[j]? = some v → Value.okWide Tryz.prog W .any base t v := hval0
  have hW' := hW
  obtain ⟨p, q, hA0, hV, rfl, hfz, hnd⟩ := hW
  have hA : DataW.TrodAll enc Tryz.prog W 0 (fun _ => true) true Tryz.f4.params.toList args.toList ds p := hA0
  rw [Tryz.params4] at hA hval hsz
  obtain ⟨v0, vs0, d0, ds0, p0, q0, hargs, rfl, rfl, h0, r0⟩ := trodAll_cons hA
  obtain ⟨v1, vs1, d1, ds1, p1, q1, rfl, rfl, rfl, h1, r1⟩ := trodAll_cons r0
  obtain ⟨v2, vs2, d2, ds2, p2, q2, rfl, rfl, rfl, h2, r2⟩ := trodAll_cons r1
  obtain ⟨v3, vs3, d3, ds3, p3, q3, rfl, rfl, rfl, h3, r3⟩ := trodAll_cons r2
  obtain ⟨rfl, rfl, rfl⟩ := trodAll_nil r3
  obtain rfl : args = #[v0, v1, v2, v3] := by cases args; simp_all
  obtain ⟨rfl, rfl⟩ := trodVars_none hV
  obtain ⟨a0, len0, cap0, rfl⟩ := okWide_slice Tryz.underlying22 (hval 0 22 v0 rfl rfl)
  have k0 := h0
  have lt0 : ∀ x ∈ p0, x.block < W.heap.size := by obtain ⟨m, hm⟩ := k0; exact DataW.trod_lt m _ _ _ hm
  obtain ⟨z0, w0, y0⟩ : ∃ zs, ((a0 = none ∧ len0 = 0 ∧ cap0 = 0 ∧ zs = []) ∨ ∃ x, a0 = some x ∧ len0 ≤ cap0 ∧ cap0 ≤ maxLen ∧ zs.length = cap0 ∧ (∀ i, i < zs.length → W.cell? (x.add i) = some (.int .i64 (zs.getD i 0))) ∧ ∀ n ∈ zs, (Lit.int .i64 n).wf = true) ∧ len0 * 8 ≤ 140737488351232 := by
    obtain ⟨fuel, hf⟩ := h0
    rcases open_ints Tryz.underlying22 Tryz.underlying3 (by kernel_rfl) hf with ⟨hcs, _⟩ | ⟨x, l, c, zs, hcs, _, hl, hm, hz, hx, hcell, hwz⟩
    · simp [Value.cells] at hcs
      obtain ⟨rfl, rfl, rfl⟩ := hcs
      exact ⟨[], .inl ⟨rfl, rfl, rfl, rfl⟩, by simp⟩
    · simp [Value.cells] at hcs
      obtain ⟨rfl, rfl, rfl⟩ := hcs
      refine ⟨zs, .inr ⟨_, rfl, hl, hm, by simpa using hz, hcell, hwz⟩, ?_⟩
      simp only [Prod.mk.injEq] at hx
      have hd := hx.1
      have z := sized_slice hsz (j := 0) (t := 22) rfl (by rw [hd]; rfl) Tryz.underlying22
      have hb : Tryz.prog.bytesOf 3 = 8 := by kernel_rfl
      rw [hb] at z
      have hr : reachBytes ≤ 140737488351232 := by decide
      have hz' : zs.length = cap0 := by simpa using hz
      simp only [lits, List.length_map, List.length_take, List.length_drop] at z
      omega
  obtain ⟨e0, l0, hd0, hrep0, hlen0, hwf0⟩ := arg_row w0
  obtain ⟨a1, rfl, rfl, rfl, w1⟩ := open_int Tryz.underlying3 (hval 1 3 v1 rfl rfl) h1
  obtain ⟨a2, rfl, rfl, rfl, w2⟩ := open_int Tryz.underlying3 (hval 2 3 v2 rfl rfl) h2
  obtain ⟨a3, rfl, rfl, rfl, w3⟩ := open_int Tryz.underlying3 (hval 3 3 v3 rfl rfl) h3
  clear hA0 hval0 hsz0 hsz
  refine (law_walk envQ (f := 4) (ds := [e0, (iv a1), (iv a2), (iv a3)]) (vs := [.slice a0 len0 cap0, .int .i64 a1, .int .i64 a2, .int .i64 a3]) (w := W) (Qnt rfl W) (RepL.cons _ _ _ _ hrep0 (RepL.cons _ _ _ _ (RepD.v _) (RepL.cons _ _ _ _ (RepD.v _) (RepL.cons _ _ _ _ (RepD.v _) RepL.nil)))) (Pure.SturmCounts e0 l0 hd0 hwf0 (by rw [hlen0]; exact y0) a1 w1 a2 w2 a3 w3)).mono fun e W' ⟨he, bel⟩ => ?_
  subst he
  exact ⟨_, rfl, _, _, _, [], _, [], hW', trodAll_mk1 (shut_bool Tryz.underlying4 _), (trodAll_cons_mk (Below.trod laidOut (by kernel_rfl) (of_decide_eq_true (by kernel_rfl)) k0 bel lt0) (trodAll_cons_mk (shut_int Tryz.underlying3 w1) (trodAll_cons_mk (shut_int Tryz.underlying3 w2) (trodAll_cons_mk (shut_int Tryz.underlying3 w3) trodAll_mk0)))), rfl, bel.frame _, fun h => by cases h⟩
theorem over : Rows.sturmCountsRow.holds Tryz.pinned (OpenSpec.ofChange Rows.sturmCountsSpec) :=
 OpenClaim.holds_of_wide 4 Tryz.f4 rfl rfl rfl rfl rfl rfl rfl ⟨rfl, rfl, rfl, rfl, rfl⟩ rfl rfl rfl rfl rfl (by kernel_rfl) Tryz.func4 (by kernel_rfl)
  (of_decide_eq_true (by kernel_rfl)) (by unfold Func.isWrapper; first | (rw [if_pos (by decide +kernel)]; kernel_rfl) | (rw [if_neg (by decide +kernel)]; exact ⟨rfl, rfl⟩))
  (fun os started H enc _ => lifted os started H enc)
theorem proved : Rows.SturmCountsSaid := over
end Go.Proofs.YtbbemgfheagobaaGreat.sturmCounts
namespace Go.Proofs.YtbbemgfheagobaaGreat
theorem sturmCounts_holds : Rows.SturmCountsSaid := sturmCounts.proved
end Go.Proofs.YtbbemgfheagobaaGreat


