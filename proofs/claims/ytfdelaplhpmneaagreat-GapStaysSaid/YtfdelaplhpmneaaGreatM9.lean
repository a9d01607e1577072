/- Part 9 of the proof: a small machine, its soundness against the model, and what the program's functions compute on it. -/
import Derived.Test.YtfdelaplhpmneaaGreatM8
import Derived.Test.YtfdelaplhpmneaaGreatM7
import Derived.KernelRfl
set_option linter.unusedVariables false
set_option linter.unusedSimpArgs false
/- ref04.Root. -/
namespace Go.AM
open Go Go.RowKit
theorem nd_1 : nd 1 ≤ 3 := Qej ⟨by omega, by omega⟩
theorem nd_2 : nd 2 ≤ 3 := Qej ⟨by omega, by omega⟩
variable [Its]
def Qoc (x lo hi : Int) : St := mkS [(1, .ptr [1] 0), (2, .ptr [2] 0), (4, .ptr [4] 0), (5, .ptr [5] 0), (6, .ptr [6] 0), (7, .ptr [7] 0)] [([1], bI x), ([2], box0), ([4], bI lo), ([5], bI hi), ([6], bI 1), ([7], bI 2)]
def QsR (x lo : Int) : St := mkS [(1, .ptr [1] 0), (2, .ptr [2] 0), (4, .ptr [4] 0)] [([1], bI x), ([2], box0), ([4], bI lo)]
theorem rr_stop {x lo hi : Int} (h : ¬ lo + 1 < hi) (hk : nd lo ≤ 100000000000) (hk2 : nd hi ≤ 100000000000) : X G Qbp (Qoc x lo hi) = some (.x 0, QsR x lo) := by
 have g1 := Qh1 (x := lo) (y := 1) (by omega) (Nat.le_trans nd_1 (by omega))
 have n1 := Qm5 (x := lo) (y := 1) (k := 100000000000) hk (Nat.le_trans nd_1 (by omega))
 have g2 := Qcw (x := lo + 1) (y := hi) (by omega) (by omega)
 have c := sgn_lt (a := lo + 1 - hi)
 rw [show decide (lo + 1 - hi < 0) = false from decide_eq_false (by omega)] at c
 generalize Int.sign (lo + 1 - hi) = s at *
 generalize lo + 1 = t at *
 simp only [iv] at g2
 simp -implicitDefEqProofs (maxSteps:=9^8) only [Qbp, Qoc, QsR, box0, bI, g1, g2, c, extA, go_sem, reduceCtorEq, ↓reduceIte, Nat.reduceEqDiff, iv]
theorem rr_go {x lo hi : Int} (h : lo + 1 < hi) (h0 : 0 ≤ lo) (hx : nd x ≤ 100000000000) (hk : nd lo ≤ 100000000000) (hk2 : nd hi ≤ 100000000000) :
    X G Qbp (Qoc x lo hi) = some (.n, if (lo + hi) / 2 * ((lo + hi) / 2) ≤ x then Qoc x ((lo + hi) / 2) hi else Qoc x lo ((lo + hi) / 2)) := by
  have g1 := Qh1 (x := lo) (y := 1) (by omega) (Nat.le_trans nd_1 (by omega))
  have n1 := Qm5 (x := lo) (y := 1) (k := 100000000000) hk (Nat.le_trans nd_1 (by omega))
  have g2 := Qcw (x := lo + 1) (y := hi) (by omega) (by omega)
  have c := sgn_lt (a := lo + 1 - hi)
  rw [show decide (lo + 1 - hi < 0) = true from decide_eq_true (by omega)] at c
  have g3 := Qh1 (x := lo) (y := hi) (by omega) (by omega)
  have n2 := Qm5 (x := lo) (y := hi) (k := 100000000000) hk hk2
  have g4 := Qjq (x := lo + hi) (y := 2) (by omega) (by omega) (Nat.le_trans nd_2 (by omega))
  have n3 := nd_ediv2 (x := lo + hi) (r := 2)
  generalize (lo + hi) % 2 = m2 at *
  obtain ⟨mid, hmid⟩ : ∃ mid, (lo + hi) / 2 = mid := ⟨_, rfl⟩
  rw [hmid] at g4 n3 ⊢
  have g5 := Qc3 (x := mid) (y := mid) (by omega) (by omega)
  have n4 := QcR (x := mid) (y := mid)
  have g6 := Qcw (x := mid * mid) (y := x) (by omega) (by omega)
  have d := sgn_le (a := mid * mid - x)
  simp only [iv] at g2 g6
  clear n1 n2 n3 n4 hmid
  generalize Int.sign (lo + 1 - hi) = s at *
  generalize Int.sign (mid * mid - x) = s2 at *
  generalize lo + 1 = t at *
  generalize lo + hi = u at *
  generalize mid * mid = mm at *
  by_cases hc : mm ≤ x
  · rw [show decide (mm - x ≤ 0) = true from decide_eq_true (by omega)] at d
    rw [if_pos hc]
    simp -implicitDefEqProofs (maxSteps:=9^8) only [Qbp, Qoc, QsR, box0, bI, g1, g2, g3, g4, g5, g6, c, d, extA, go_sem, reduceCtorEq, ↓reduceIte, Nat.reduceEqDiff, iv]
  · rw [show decide (mm - x ≤ 0) = false from decide_eq_false (by omega)] at d
    rw [if_neg hc]
    simp -implicitDefEqProofs (maxSteps:=9^8) only [Qbp, Qoc, QsR, box0, bI, g1, g2, g3, g4, g5, g6, c, d, extA, go_sem, reduceCtorEq, ↓reduceIte, Nat.reduceEqDiff, iv]
theorem QqV {x s : Int} (hx : nd x ≤ 100000000000) (hs : IsRt s x) : ∀ (n : Nat) (lo hi : Int), (hi - lo).toNat ≤ n → 0 ≤ lo → lo < hi → lo * lo ≤ x → x < hi * hi → nd hi ≤ 100000000000 → X G (.loop Qbp) (Qoc x lo hi) = some (.x 0, QsR x s)
  | n, lo, hi, hn, h0, h1, h2, h3, hk => by
    rw [Qag]
    have hl : nd lo ≤ 100000000000 := Nat.le_trans (Qog h0 (by omega)) hk
    by_cases h : lo + 1 < hi
    · obtain ⟨a, b⟩ := half_lt h
      rw [rr_go h h0 hx hl hk, Option.bind_some, if_pos rfl]
      generalize (lo + hi) / 2 = mid at *
      cases n with
      | zero => omega
      | succ n =>
        by_cases hc : mid * mid ≤ x
        · rw [if_pos hc]
          exact QqV hx hs n mid hi (by omega) (by omega) b hc h3 hk
        · rw [if_neg hc]
          exact QqV hx hs n lo mid (by omega) h0 a h2 (by omega) (Nat.le_trans (Qog (by omega) (by omega)) hk)
    · have e : s = lo := rt_uniq hs ⟨h0, h2, by
        have : hi = lo + 1 := by omega
        rw [← this]; exact h3⟩
      subst e
      rw [rr_stop h hl hk]
      rfl
theorem Qs3 {x s : Int} (hx : nd x ≤ 10000000000) (h0 : 0 ≤ x) (hs : IsRt s x) : Qaj G QgW [encI x] = some (.d (.tup [encI s, bv (decide (s * s = x))])) := by
 rw [Qad (cf := QfM) rfl]
 obtain ⟨l, hl⟩ : ∃ l, digs x.natAbs = l := ⟨_, rfl⟩
 have ll := QaK l
 have s1 : decide (x < 0) = false := lt_f (by omega)
 have hn : l.length ≤ 10000000000 := by rw [← hl]; exact hx
 obtain ⟨m, hm⟩ : ∃ m, l.length / 2 + 1 = m := ⟨_, rfl⟩
 have e2 : w64 ((l.length : Int).tdiv 2) = ((l.length / 2 : Nat) : Int) := by
  rw [QeY (by omega)]
  exact Qae (by omega) (by omega)
 have e3 : w64 (((l.length / 2 : Nat) : Int) + 1) = (m : Int) := by
  rw [← hm]
  exact Qae (by omega) (by omega)
 have e4 := bnd m (by omega)
 have o1 := Qbe false (Rw.row (List.replicate m 0 ++ [1])) (by simp; omega) (dig_one m)
 rw [val_lead] at o1
 have hdr : (digs x.natAbs).length ≤ m + m := by rw [hl]; omega
 have hlt : x < (1000000000 : Int) ^ m * (1000000000 : Int) ^ m := by
  have h1 := Qdn x
  have h2 : x.natAbs < 1000000000 ^ (m + m) := Nat.lt_of_lt_of_le h1 (Qlt hdr)
  rw [← Int.pow_add]
  have h4 : ((1000000000 ^ (m + m) : Nat) : Int) = (1000000000 : Int) ^ (m + m) := by simp
  rw [← h4]; omega
 have hk : nd ((1000000000 : Int) ^ m) ≤ m + 1 := QqA (by
  have h4 : ((1000000000 : Int) ^ m).natAbs = 1000000000 ^ m := by rw [Int.natAbs_pow]; rfl
  rw [h4]
  exact Nat.pow_lt_pow_right (by omega) (by omega))
 have hlp := QqV (Nat.le_trans hx (by omega)) hs _ 0 ((1000000000 : Int) ^ m) (Nat.le_refl _) (by omega) (Qcu m) (by simpa using h0) hlt (by omega)
 have hss : sgn false ((1000000000 : Int) ^ m) = (1000000000 : Int) ^ m := rfl
 rw [hss] at o1
 have hsR : s < (1000000000 : Int) ^ m := rt_gt hs (Int.le_of_lt (Qcu m)) hlt
 generalize (1000000000 : Int) ^ m = R at *
 have ns : nd s ≤ 10000000000 := Nat.le_trans (Qog hs.1 (Int.le_of_lt hsR)) (by omega)
 have g1 := Qc3 (x := s) (y := s) (by omega) (by omega)
 have n2 := QcR (x := s) (y := s)
 have g2 := Qcw (x := s * s) (y := x) (by omega) (by omega)
 have g3 := Qd5 (n := 1) ⟨by omega, by omega⟩
 have g4 := Qd5 (n := 2) ⟨by omega, by omega⟩
 have c := sgn_eq (a := s * s - x)
 have c2 : decide (s * s - x = 0) = decide (s * s = x) := decide_eq_decide.2 (by omega)
 rw [c2] at c
 clear hlt hsR
 generalize s * s = ss at *
 generalize Int.sign (ss - x) = sg at *
 simp only [iv, bv, rowI, List.length_append, List.length_replicate, List.length_cons, List.length_nil, List.map_append, List.map_cons, List.map_nil, Nat.zero_add] at o1 g2 g3 g4
 simp only [Qoc, QsR, box0, bI, go_sem] at hlp
 have f1 := Qjm m
 have f2 := QbM (List.replicate m 0)
 have f3 : (Qbt (List.replicate m 0)).length = m := by rw [Qah, List.length_replicate]
 have f4 : (m + 1) * 8 ≤ bound := by simp only [bound]; omega
 have f5 : List.all [D.v (.int .i64 1)] D.one = true := rfl
 have z1 := zero_agg
 simp -implicitDefEqProofs (maxSteps:=9^8) only [QfM, bI, hl, ll, s1, e2, e3, e4, two_ne, f1, f2, f3, f4, f5, o1, g1, g2, g3, g4, z1, hlp, c, QeX, toDs, go_sem, reduceCtorEq, ↓reduceIte, Nat.reduceEqDiff, iv, bv]
end Go.AM

/- Points, directions, edges: rows of them; ref12's small functions. -/
namespace Go.AM
open Go Go.RowKit

abbrev Pt := Int × Int
abbrev Dr := Int × Int × Int
abbrev Eg := Dr × Int
def cP (p : Pt) : List D := [iv p.1, iv p.2]
def cD (d : Dr) : List D := [iv d.1, iv d.2.1, iv d.2.2]
def cG (e : Eg) : List D := [iv e.1.1, iv e.1.2.1, iv e.1.2.2, iv e.2]
def encP (p : Pt) : D := .agg (cP p)
def encD (d : Dr) : D := .agg (cD d)
theorem QgV (p : Pt) : (cP p).length = 2 := rfl
theorem Qo6 (p : Dr) : (cD p).length = 3 := rfl
theorem cG_len (p : Eg) : (cG p).length = 4 := rfl

/-! ### Rows of things of es cells -/
section
variable {α : Type} {en : α → List D} {es : Nat}
def rowE (en : α → List D) (l : List α) : D := .row l.length (l.flatMap en)
def RwE (en : α → List D) (d : D) (l : List α) : Prop := (d = .z true ∧ l = []) ∨ d = rowE en l
theorem QrX (hE : ∀ a, (en a).length = es) : ∀ l : List α, (l.flatMap en).length = l.length * es
 | [] => by simp
 | a :: l => by rw [List.flatMap_cons, List.length_append, hE, QrX hE l, List.length_cons, Nat.succ_mul, Nat.add_comm]
theorem Ql8 (hE : ∀ a, (en a).length = es) : ∀ (l : List α) (j : Nat), (l.flatMap en).drop (j * es) = (l.drop j).flatMap en
 | l, 0 => by simp
 | [], j + 1 => by simp
 | a :: l, j + 1 => by
  rw [List.flatMap_cons, List.drop_succ_cons, ← Ql8 hE l j, Nat.succ_mul, Nat.add_comm, ← List.drop_drop]
  rw [List.drop_left' (hE a)]
theorem RwE.len {d : D} {l : List α} (h : RwE en d l) : lenA (.d d) = some l.length := by
 rcases h with ⟨rfl, rfl⟩ | rfl <;> rfl
theorem RwE.ixa (hE : ∀ a, (en a).length = es) {d : D} {l : List α} (hr : RwE en d l) {j : Nat} (h1 : j < l.length) (h : Hp) : ixaA h es (j : Int) (.d d) = some (.d (.rp ((l.drop j).flatMap en))) := by
 rcases hr with ⟨rfl, rfl⟩ | rfl
 ·simp at h1
 ·simp only [rowE, ixaA, guardO]
  rw [if_pos ⟨by omega, by omega⟩]
  simp only [Int.toNat_natCast]
  rw [Ql8 hE]
theorem QlF [Inhabited α]  {l : List α} {j : Nat} (h : j < l.length) : l.drop j = l.getD j default :: l.drop (j + 1) := by
 rw [List.drop_eq_getElem_cons h, List.getD_eq_getElem?_getD, List.getElem?_eq_getElem h, Option.getD_some]
theorem ldE [Inhabited α] (hE : ∀ a, (en a).length = es) (h : Hp) {l : List α} {j : Nat} (h1 : j < l.length) : Qcy h (some es) (.d (.rp ((l.drop j).flatMap en))) = some (.d (.agg (en (l.getD j default)))) := by
 rw [QlF h1, List.flatMap_cons]
 simp only [Qcy, Qj7, guardO]
 rw [if_pos (by rw [List.length_append, hE]; omega)]
 have : (en (l.getD j default) ++ (l.drop (j + 1)).flatMap en).take es = en (l.getD j default) := by
  rw [List.take_append_of_le_length (by rw [hE]; omega), List.take_of_length_le (by rw [hE]; omega)]
 rw [this]
theorem ldF [Inhabited α] (hE : ∀ a, (en a).length = es) (h : Hp) {l : List α} {j i : Nat} (h1 : j < l.length) (hi : i < es) : Qcy h none (.d (.rp (((l.drop j).flatMap en).drop i))) = ((en (l.getD j default))[i]?).map .d := by
 rw [QlF h1, List.flatMap_cons]
 simp only [Qcy, Qj7]
 rw [List.head?_drop, List.getElem?_append_left (by rw [hE]; exact hi)]
def gAE (k : Nat) (l : List α) : A := if l = [] then .d (.z true) else .own [k] l.length
def arE (en : α → List D) (es n : Nat) (l : List α) : Obj := ⟨es, n, (l.flatMap en).map .d, false⟩
def gHE (en : α → List D) (es k : Nat) (l : List α) : List (Key × Obj) := if l = [] then [] else [([k], arE en es l.length l)]
theorem Qgh (k : Nat) : gAE k ([] : List α) = .d (.z true) := rfl
theorem QgC (k : Nat) : gHE en es k [] = [] := rfl
theorem QgF {k : Nat} {l : List α} (h : l ≠ []) : gAE k l = .own [k] l.length := if_neg h
theorem QgS {k : Nat} {l : List α} (h : l ≠ []) : gHE en es k l = [([k], arE en es l.length l)] := if_neg h
theorem Qsk (k : Nat) (l : List α) (v : α) : gAE k (l ++ [v]) = .own [k] (l.length + 1) := by rw [QgF (by simp)]; simp
theorem Qry (k : Nat) (l : List α) (v : α) : gHE en es k (l ++ [v]) = [([k], arE en es (l.length + 1) (l ++ [v]))] := by rw [QgS (by simp)]; simp
theorem QdO (ks : List Key) : ∀ cs : List D, Qfu ks (cs.map A.d) = true
 | [] => rfl
 | x :: r => by rw [List.map_cons, Qfu, QdO ks r]; rfl
theorem allD_E (cs : List D) : allD (cs.map A.d) = some cs := QeQ cs
theorem lenE (hE : ∀ a, (en a).length = es) (l : List α) : ((l.flatMap en).map A.d).length = l.length * es := by rw [List.length_map, QrX hE]
theorem ldO [Inhabited α] (hE : ∀ a, (en a).length = es) {l : List α} {j : Nat} (h1 : j < l.length) : Qab (some es) (j * es) ((l.flatMap en).map A.d) = some (.d (.agg (en (l.getD j default)))) := by
 have h2 : j * es + es ≤ l.length * es := by rw [← Nat.succ_mul]; exact Nat.mul_le_mul_right _ h1
 simp only [Qab, guardO]
 rw [if_pos (by rw [lenE hE]; exact h2), ← List.map_drop, Ql8 hE, ← List.map_take, allD_E, QlF h1, List.flatMap_cons, List.take_append_of_le_length (by rw [hE]; omega), List.take_of_length_le (by rw [hE]; omega)]
 rfl
end
theorem cD_snoc (l : List Dr) (x y z : Int) : (l.flatMap cD).map A.d ++ [.d (.v (.int .i64 x)), .d (.v (.int .i64 y)), .d (.v (.int .i64 z))] = ((l ++ [(x, y, z)]).flatMap cD).map A.d := by simp [cD, iv]
theorem cG_snoc (l : List Eg) (x y z t : Int) : (l.flatMap cG).map A.d ++ [.d (.v (.int .i64 x)), .d (.v (.int .i64 y)), .d (.v (.int .i64 z)), .d (.v (.int .i64 t))] = ((l ++ [((x, y, z), t)]).flatMap cG).map A.d := by simp [cG, iv]
theorem rep1_3 (a b c : D) : rep 1 [a, b, c] = [a, b, c] := rfl
theorem rep1_4 (a b c d : D) : rep 1 [a, b, c, d] = [a, b, c, d] := rfl
theorem oneI (k : IntKind) (x : Int) : (D.v (.int k x)).one = true := rfl
theorem flat1D (x y z : Int) : ([(x, y, z)] : List Dr).flatMap cD = [.v (.int .i64 x), .v (.int .i64 y), .v (.int .i64 z)] := rfl
theorem flat1G (x y z t : Int) : ([((x, y, z), t)] : List Eg).flatMap cG = [.v (.int .i64 x), .v (.int .i64 y), .v (.int .i64 z), .v (.int .i64 t)] := rfl

def Sm (n : Int) : Prop := -100000000 ≤ n ∧ n ≤ 100000000
def SmP (p : Pt) : Prop := Sm p.1 ∧ Sm p.2
def SmD (d : Dr) : Prop := Sm d.1 ∧ Sm d.2.1 ∧ Sm d.2.2

def Qmg (a b : Int) : St := mkS [(0, ai a), (1, ai b)] []
def Qq4 (a : Int) : St := mkS [(0, ai a)] []
def nxP (l : List Pt) (i : Nat) : Pt := if i + 1 < l.length then l.getD (i + 1) default else l.getD 0 default
def dotI (d : Dr) (p : Pt) : Int := d.1 * p.1 + d.2.1 * p.2
theorem Qnr {a b : Int} (ha : Sm a) (hb : Sm b) : -10000000000000000 ≤ a * b ∧ a * b ≤ 10000000000000000 := by
 simp only [Sm] at ha hb
 have h1 : (a * b).natAbs ≤ 100000000 * 100000000 := by
  rw [Int.natAbs_mul]
  exact Nat.mul_le_mul (by omega) (by omega)
 omega
theorem mx_max (a b : Int) : (if b > a then b else a) = max a b := by split <;> omega
def mstN (d : Dr) (l : List Pt) : Nat → Int
 | 0 => dotI d (l.getD 0 default)
 | i + 1 => max (mstN d l i) (dotI d (l.getD i default))
def moP (d : Dr) (l : List Pt) : Int := mstN d l l.length
theorem Qho {α : Type} {p : α → Prop} {l : List α} {x : α} (h : ∀ q ∈ l, p q) (hx : p x) (i : Nat) : p (l.getD i x) := by
 rw [List.getD_eq_getElem?_getD]
 rcases Nat.lt_or_ge i l.length with h1 | h1
 ·rw [List.getElem?_eq_getElem h1]; exact h _ (List.getElem_mem h1)
 ·rw [List.getElem?_eq_none h1]; exact hx
theorem sm0 : Sm 0 := ⟨by omega, by omega⟩
theorem smP0 : SmP default := ⟨sm0, sm0⟩
def QqZ (d : D) (e : Dr) (o i : Int) : St := mkS [(0, .d d), (3, .ptr [3] 0), (5, ai o), (6, ai i)] [([3], ⟨0, 0, [.d (iv e.1), .d (iv e.2.1), .d (iv e.2.2)], false⟩)]
def ms_en (o : Int) : St := mkS [(5, ai o)] []
def g3 (dx dy h : Int) : Int := (Int.gcd (Int.gcd dx dy) h : Int)
def nrP (dx dy h : Int) : Dr := (dy.tdiv (g3 dx dy h), (-dx).tdiv (g3 dx dy h), h.tdiv (g3 dx dy h))
theorem Qqg (a : Int) {g : Int} (hg : 0 < g) : -(a.natAbs : Int) ≤ a.tdiv g ∧ a.tdiv g ≤ (a.natAbs : Int) := by
 have h1 : (a.tdiv g).natAbs ≤ a.natAbs := by rw [Int.natAbs_tdiv]; exact Nat.div_le_self _ _
 omega
theorem g3_pos (dx dy : Int) {h : Int} (hh : 0 < h) : 0 < g3 dx dy h := by
 unfold g3
 have := Int.gcd_pos_of_ne_zero_right ((Int.gcd dx dy : Nat) : Int) (b := h) (by omega)
 omega
theorem box3s (a b c : D) : Qac 0 [.d a, .d b, .d c] [.d (.v (.int .i64 0)), .d (.v (.int .i64 0)), .d (.v (.int .i64 0))] = some [.d a, .d b, .d c] := rfl
variable [Its]
theorem Qpm {n : Int} (hn : -4000000000000000000 ≤ n ∧ n ≤ 4000000000000000000) : Qaj G QeJ [iv n] = some (.d (iv (n.natAbs : Int))) := by
 rw [Qad (cf := QfI) rfl]
 have e1 : w64 (0 - n) = -n := by rw [Qae (by omega) (by omega)]; omega
 have e2 : (if -n > n then -n else n) = ((n.natAbs : Nat) : Int) := by split <;> omega
 generalize ((n.natAbs : Nat) : Int) = z at *
 simp -implicitDefEqProofs (maxSteps:=9^8) only [QfI, Qga, mxV, go_sem, iv, bv, e1, e2, reduceCtorEq, ↓reduceIte, Nat.reduceEqDiff]

theorem Qr8 : ∀ (n : Nat) (a b : Int), b.natAbs < n → 0 ≤ a → 0 ≤ b → X G (.loop Qbk) (Qmg a b) = some (.x 0, Qq4 (Int.gcd a b : Int))
 | 0, a, b, h, _, _ => by omega
 | n + 1, a, b, h, ha, hb => by
  by_cases h0 : b = 0
  ·subst h0
   have e1 : ((0 : Int) != 0) = false := rfl
   have e2 : ((Int.gcd a 0 : Nat) : Int) = a := by rw [Int.gcd_zero_right]; omega
   rw [e2]
   have g : X G Qbk (Qmg a 0) = some (.x 0, Qq4 a) := by
    simp -implicitDefEqProofs (maxSteps:=9^8) only [Qbk, Qmg, Qq4, go_sem, iv, bv, e1, reduceCtorEq, ↓reduceIte, Nat.reduceEqDiff]
   rw [Qag, g]; rfl
  ·have e1 : (b != 0) = true := by simpa using h0
   have e2 := QkF (b := b) h0
   have e3 := QdM (a := a) (b := b) ha
   have g : X G Qbk (Qmg a b) = some (.n, Qmg b (a % b)) := by
    simp -implicitDefEqProofs (maxSteps:=9^8) only [Qbk, Qmg, go_sem, iv, bv, e1, e2, e3, reduceCtorEq, ↓reduceIte, Nat.reduceEqDiff]
   have h1 := Int.emod_nonneg a h0
   have h2 := Int.emod_lt_of_pos a (b := b) (by omega)
   have ih := Qr8 n b (a % b) (by omega) hb h1
   have e4 : Int.gcd b (a % b) = Int.gcd a b := by
    obtain ⟨u, rfl⟩ := Int.eq_ofNat_of_zero_le ha
    obtain ⟨v, rfl⟩ := Int.eq_ofNat_of_zero_le hb
    show Nat.gcd v _ = Nat.gcd u v
    rw [← Int.natCast_emod, Int.natAbs_natCast, Nat.gcd_comm v, ← Nat.gcd_rec v u |>.symm.trans (Nat.gcd_comm v u)]
   rw [Qag, g, Option.bind_some, if_pos rfl, ih, e4]
theorem Qk0 {a b : Int} (ha : 0 ≤ a) (hb : 0 ≤ b) : Qaj G Qdm [iv a, iv b] = some (.d (iv (Int.gcd a b : Int))) := by
 rw [Qad (cf := Qd9) rfl]
 have g := Qr8 (b.natAbs + 1) a b (by omega) ha hb
 generalize ((Int.gcd a b : Nat) : Int) = z at *
 simp only [Qmg, Qq4, go_sem] at g
 simp -implicitDefEqProofs (maxSteps:=9^8) only [Qd9, g, go_sem, iv, bv, reduceCtorEq, ↓reduceIte, Nat.reduceEqDiff]

theorem Qo9 {d : Dr} (h : SmD d) : Qaj G QeC [encD d] = some (.d (encD (-d.1, -d.2.1, d.2.2))) := by
 rw [Qad (cf := QfS) rfl]
 obtain ⟨x, y, z⟩ := d
 obtain ⟨h1, h2, h3⟩ := h
 simp only [Sm] at h1 h2 h3
 have e1 : w64 (0 - x) = -x := by rw [Qae (by omega) (by omega)]; omega
 have e2 : w64 (0 - y) = -y := by rw [Qae (by omega) (by omega)]; omega
 simp -implicitDefEqProofs (maxSteps:=9^8) only [QfS, encD, cD, Qac, Qab, go_sem, iv, bv, e1, e2, reduceCtorEq, ↓reduceIte, Nat.reduceEqDiff]

theorem Qpt {d : D} {l : List Pt} (hr : RwE cP d l) {i : Nat} (hi : i < l.length) (hl : l.length ≤ 1000000) : Qaj G QeG [d, iv (i : Int)] = some (.d (encP (nxP l i))) := by
 rw [Qad (cf := Qd1) rfl]
 have ll := hr.len
 have e1 : w64 ((i : Int) + 1) = ((i + 1 : Nat) : Int) := by rw [Qae (by omega) (by omega)]; rfl
 unfold nxP
 by_cases h : i + 1 < l.length
 ·have e2 : decide (((i + 1 : Nat) : Int) < (l.length : Int)) = true := lt_t (by omega)
  have x1 := hr.ixa QgV h
  have x2 := fun hp => ldE QgV hp h
  rw [if_pos h]
  generalize l.getD (i + 1) default = q at *
  obtain ⟨x, y⟩ := q
  simp only [cP, iv] at x2
  simp -implicitDefEqProofs (maxSteps:=9^8) only [Qd1, encP, cP, Qac, Qab, go_sem, iv, bv, e1, e2, ll, x1, x2, reduceCtorEq, ↓reduceIte, Nat.reduceEqDiff]
 ·have e2 : decide (((i + 1 : Nat) : Int) < (l.length : Int)) = false := lt_f (by omega)
  have x1 := hr.ixa (j := 0) QgV (by omega)
  have x2 := fun hp => ldE (j := 0) (l := l) QgV hp (by omega)
  simp only [nc0, List.drop_zero] at x1 x2
  rw [if_neg h]
  generalize l.getD 0 default = q at *
  obtain ⟨x, y⟩ := q
  simp only [cP, iv] at x2
  simp -implicitDefEqProofs (maxSteps:=9^8) only [Qd1, encP, cP, Qac, Qab, go_sem, iv, bv, e1, e2, ll, x1, x2, reduceCtorEq, ↓reduceIte, Nat.reduceEqDiff]

theorem ms_go {d : D} {l : List Pt} {e : Dr} (hr : RwE cP d l) (hl : ∀ p ∈ l, SmP p) (he : SmD e) (hn : l.length ≤ 1000000) {o : Int} {i : Nat} (hi : i < l.length) : X G QbI (QqZ d e o i) = some (.n, QqZ d e (max o (dotI e (l.getD i default))) ((i + 1 : Nat) : Int)) := by
 have ll := hr.len
 have e1 : decide ((i : Int) < (l.length : Int)) = true := lt_t (by omega)
 have e2 : w64 ((i : Int) + 1) = ((i + 1 : Nat) : Int) := by rw [Qae (by omega) (by omega)]; rfl
 have x1 := hr.ixa QgV hi
 have x2 := fun hp => ldF (i := 0) QgV hp hi (by omega)
 have x3 := fun hp => ldF (i := 1) QgV hp hi (by omega)
 have hp := Qho hl smP0 i
 unfold dotI
 generalize l.getD i default = q at *
 obtain ⟨x, y⟩ := q
 obtain ⟨a, b, c⟩ := e
 obtain ⟨h1, h2, h3⟩ := he
 have m1 := Qnr h1 hp.1
 have m2 := Qnr h2 hp.2
 dsimp only at m1 m2 ⊢
 have e3 : w64 (a * x) = a * x := Qae (by omega) (by omega)
 have e4 : w64 (b * y) = b * y := Qae (by omega) (by omega)
 obtain ⟨s, hs⟩ : ∃ s, a * x + b * y = s := ⟨_, rfl⟩
 have e5 : w64 (a * x + b * y) = s := by rw [Qae (by omega) (by omega), hs]
 have e6 := mx_max o s
 rw [hs]
 simp only [cP, iv, List.getElem?_cons_zero, List.getElem?_cons_succ, Option.map_some, List.drop_zero] at x2 x3
 simp -implicitDefEqProofs (maxSteps:=9^8) only [QbI, QqZ, Qga, mxV, Qac, Qab, go_sem, iv, bv, e1, e2, e3, e4, e5, e6, ll, x1, x2, x3, reduceCtorEq, ↓reduceIte, Nat.reduceEqDiff]
theorem ms_stop {d : D} {l : List Pt} {e : Dr} (hr : RwE cP d l) {o : Int} : X G QbI (QqZ d e o l.length) = some (.x 0, ms_en o) := by
 have ll := hr.len
 have e1 : decide ((l.length : Int) < (l.length : Int)) = false := lt_f (by omega)
 simp -implicitDefEqProofs (maxSteps:=9^8) only [QbI, QqZ, ms_en, go_sem, iv, bv, e1, ll, reduceCtorEq, ↓reduceIte, Nat.reduceEqDiff]
theorem ms_loop {d : D} {l : List Pt} {e : Dr} (hr : RwE cP d l) (hl : ∀ p ∈ l, SmP p) (he : SmD e) (hn : l.length ≤ 1000000) : ∀ (j i : Nat), i + j = l.length → X G (.loop QbI) (QqZ d e (mstN e l i) i) = some (.x 0, ms_en (moP e l))
 | 0, i, h => by
  have : i = l.length := by omega
  subst this
  rw [Qag, ms_stop hr]; rfl
 | j + 1, i, h => by
  rw [Qag, ms_go hr hl he hn (by omega), Option.bind_some, if_pos rfl]
  exact ms_loop hr hl he hn j (i + 1) (by omega)
theorem QpE {d : D} {l : List Pt} {e : Dr} (hr : RwE cP d l) (h0 : 0 < l.length) (hl : ∀ p ∈ l, SmP p) (he : SmD e) (hn : l.length ≤ 1000000) : Qaj G QeK [d, encD e] = some (.d (iv (moP e l))) := by
 rw [Qad (cf := QfG) rfl]
 have g := ms_loop hr hl he hn l.length 0 (by omega)
 have x1 := hr.ixa (j := 0) QgV h0
 have x2 := fun hp => ldF (i := 0) (l := l) QgV hp h0 (by omega)
 have x3 := fun hp => ldF (i := 1) (l := l) QgV hp h0 (by omega)
 have hp := Qho hl smP0 0
 simp only [mstN, dotI] at g
 generalize l.getD 0 default = q at *
 obtain ⟨x, y⟩ := q
 obtain ⟨a, b, c⟩ := e
 obtain ⟨h1, h2, h3⟩ := he
 have m1 := Qnr h1 hp.1
 have m2 := Qnr h2 hp.2
 dsimp only at m1 m2 g
 have e3 : w64 (a * x) = a * x := Qae (by omega) (by omega)
 have e4 : w64 (b * y) = b * y := Qae (by omega) (by omega)
 obtain ⟨s, hs⟩ : ∃ s, a * x + b * y = s := ⟨_, rfl⟩
 have e5 : w64 (a * x + b * y) = s := by rw [Qae (by omega) (by omega), hs]
 rw [hs] at g
 simp only [cP, iv, List.getElem?_cons_zero, List.getElem?_cons_succ, Option.map_some, List.drop_zero] at x2 x3
 generalize moP (a, b, c) l = z at *
 simp only [nc0, List.drop_zero] at x1 x2 x3
 simp only [QqZ, ms_en, iv, go_sem] at g
 simp -implicitDefEqProofs (maxSteps:=9^8) only [QfG, encD, cD, g, Qac, Qab, go_sem, iv, bv, e3, e4, e5, x1, x2, x3, reduceCtorEq, ↓reduceIte, Nat.reduceEqDiff]

/-! ### Normals -/
theorem QoH {a b : Pt} {h : Int} (ha : SmP a) (hb : SmP b) (hh : h * h = (b.1 - a.1) * (b.1 - a.1) + (b.2 - a.2) * (b.2 - a.2)) (h0 : 0 < h) : Qaj G Qey [encP a, encP b] = some (.d (.tup [encD (nrP (b.1 - a.1) (b.2 - a.2) h), bv true])) := by
 rw [Qad (cf := QfR) rfl]
 obtain ⟨ax, ay⟩ := a
 obtain ⟨bx, byy⟩ := b
 obtain ⟨h1, h2⟩ := ha
 obtain ⟨h3, h4⟩ := hb
 simp only [Sm] at h1 h2 h3 h4
 dsimp only at hh ⊢
 obtain ⟨dx, hdx⟩ : ∃ z, bx - ax = z := ⟨_, rfl⟩
 obtain ⟨dy, hdy⟩ : ∃ z, byy - ay = z := ⟨_, rfl⟩
 have e1 : w64 (bx - ax) = dx := by rw [Qae (by omega) (by omega), hdx]
 have e2 : w64 (byy - ay) = dy := by rw [Qae (by omega) (by omega), hdy]
 rw [hdx, hdy] at hh
 rw [hdx, hdy]
 have b1 : -200000000 ≤ dx ∧ dx ≤ 200000000 := by omega
 have b2 : -200000000 ≤ dy ∧ dy ≤ 200000000 := by omega
 clear hdx hdy h1 h2 h3 h4
 have sq : ∀ z : Int, -200000000 ≤ z ∧ z ≤ 200000000 → 0 ≤ z * z ∧ z * z ≤ 40000000000000000 := by
  intro z hz
  have h1 : (z * z).natAbs ≤ 200000000 * 200000000 := by
   rw [Int.natAbs_mul]
   exact Nat.mul_le_mul (by omega) (by omega)
  have h2 : 0 ≤ z * z := by
   rcases Int.le_total 0 z with h | h
   ·exact Int.mul_nonneg h h
   ·exact Int.mul_nonneg_of_nonpos_of_nonpos h h
  omega
 have q1 := sq dx b1
 have q2 := sq dy b2
 clear sq
 obtain ⟨p1, hp1⟩ : ∃ z, dx * dx = z := ⟨_, rfl⟩
 obtain ⟨p2, hp2⟩ : ∃ z, dy * dy = z := ⟨_, rfl⟩
 obtain ⟨s, hs⟩ : ∃ z, p1 + p2 = z := ⟨_, rfl⟩
 have e3 : w64 (dx * dx) = p1 := by rw [Qae (by omega) (by omega), hp1]
 have e4 : w64 (dy * dy) = p2 := by rw [Qae (by omega) (by omega), hp2]
 have e5 : w64 (p1 + p2) = s := by rw [Qae (by omega) (by omega), hs]
 rw [hp1, hp2, hs] at hh
 have hh2 : h < 1000000000 := by
  apply Classical.byContradiction
  intro hc
  have := QqF (a := 1000000000) (b := h) (by omega) (by omega)
  omega
 have hI : I64 (s) := ⟨by omega, by omega⟩
 have hrt : IsRt h s := by
  refine ⟨by omega, by omega, ?_⟩
  have e : (h + 1) * (h + 1) = h * h + 2 * h + 1 := by grind
  omega
 have g1 := Qd5 hI
 have g2 := Qs3 (x := s) (Nat.le_trans (Qej hI) (by omega)) (by omega) hrt
 have hhI : I64 h := ⟨by omega, by omega⟩
 have g4 := QqX (x := h) (Nat.le_trans (Qej hhI) (by omega))
 rw [(smb_t hhI).1, (smb_t hhI).2] at g4
 rw [decide_eq_true hh] at g2
 have g5 := Qpm (n := dx) (by omega)
 have g6 := Qpm (n := dy) (by omega)
 have g7 := Qk0 (a := (dx.natAbs : Int)) (b := (dy.natAbs : Int)) (by omega) (by omega)
 have g8 := Qk0 (a := (Int.gcd dx dy : Int)) (b := h) (by omega) (by omega)
 have e6 : Int.gcd (dx.natAbs : Int) (dy.natAbs : Int) = Int.gcd dx dy := by simp [Int.gcd]
 rw [e6] at g7
 have gp := g3_pos dx dy h0
 have e7 : (Int.gcd (Int.gcd dx dy) h : Int) = g3 dx dy h := rfl
 rw [e7] at g8
 unfold nrP
 obtain ⟨g, hg⟩ : ∃ g, g3 dx dy h = g := ⟨_, rfl⟩
 rw [hg] at g8 gp ⊢
 have e8 := QkF (b := g) (by omega)
 have e9 : w64 (0 - dx) = -dx := by rw [Qae (by omega) (by omega)]; omega
 have t1 := Qqg dy gp
 have t2 := Qqg (-dx) gp
 have t3 := Qqg h gp
 have f1 : w64 (dy.tdiv g) = dy.tdiv g := Qae (by omega) (by omega)
 have f2 : w64 ((-dx).tdiv g) = (-dx).tdiv g := Qae (by omega) (by omega)
 have f3 : w64 (h.tdiv g) = h.tdiv g := Qae (by omega) (by omega)
 have f4 : (h == 0) = false := QcD (by omega)
 clear t1 t2 t3 q1 q2
 have u1 := dc_dg (digs h.natAbs)
 simp only [encI, iv, bv] at g1 g2 g4 g5 g6 g7 g8
 generalize digs h.natAbs = dh at *
 generalize decide (h < 0) = sh at *
 simp -implicitDefEqProofs (maxSteps:=9^8) only [QfR, toDs, encP, cP, encD, cD, box3s, Qac, Qab, u1, g1, g2, g4, g5, g6, g7, g8, e1, e2, e3, e4, e5, e8, e9, f1, f2, f3, f4, Bool.not_true, Bool.not_false, go_sem, iv, bv, reduceCtorEq, ↓reduceIte, Nat.reduceEqDiff]

/-! ### Moved shapes -/
/-! ### Shapes -/
end Go.AM

/- ref07: Changes, counted, Middle, halved. -/
namespace Go.AM
open Go Go.RowKit
def RwC (d : D) (ps : List (List Rat)) : Prop := ∃ ds : List D, ds.length = ps.length ∧ (∀ i, i < ps.length → RwR (ds.getD i (.z true)) (ps.getD i [])) ∧ (d = .row ds.length ds ∨ (d = .z true ∧ ds = []))
theorem RwC.len {d : D} {ps : List (List Rat)} (h : RwC d ps) : lenA (.d d) = some ps.length := by
 obtain ⟨ds, h1, _, rfl | ⟨rfl, rfl⟩⟩ := h
 ·rw [← h1]; rfl
 ·rw [← h1]; rfl
theorem RwC.nil : RwC (.z true) [] := ⟨[], rfl, fun i h => by simp at h, .inr ⟨rfl, rfl⟩⟩
theorem RwC.at {d : D} {ps : List (List Rat)} (h : RwC d ps) {i : Nat} (hi : i < ps.length) : ∃ x r, RwR x (ps.getD i []) ∧ (∀ hp, ixaA hp 1 (i : Int) (.d d) = some (.d (.rp r))) ∧ ∀ hp, Qcy hp none (.d (.rp r)) = some (.d x) := by
 obtain ⟨ds, h1, h2, rfl | ⟨rfl, rfl⟩⟩ := h
 ·refine ⟨ds.getD i (.z true), ds.drop i, h2 i hi, fun hp => ?_, fun hp => ?_⟩
  ·simp only [ixaA, guardO]
   rw [if_pos ⟨by omega, by omega⟩]
   simp
  ·rw [List.drop_eq_getElem_cons (show i < ds.length by omega)]
   simp only [Qcy, Qj7]
   rw [List.getD_eq_getElem?_getD, List.getElem?_eq_getElem (show i < ds.length by omega)]
   rfl
 ·rw [← h1] at hi; simp at hi
def sgn1 (p : List Rat) (x : Rat) : Int := Int.sign (evR p x).num
def sgs (ps : List (List Rat)) (x : Rat) : List Int := (ps.map fun p => sgn1 p x).filter fun s => decide (s ≠ 0)
def chN (S : List Int) : Nat → Nat
 | 0 => 0
 | i + 1 => chN S i + (if 1 ≤ i ∧ S.getD i 0 ≠ S.getD (i - 1) 0 then 1 else 0)
def chg (ps : List (List Rat)) (x : Rat) : Nat := chN (sgs ps x) (sgs ps x).length
def cnt (ps : List (List Rat)) (lo hi : Rat) : Int := if hi ≤ lo then 0 else (chg ps lo : Int) - (chg ps hi : Int)
def mid (lo hi : Rat) : Rat := (lo + hi) * Rat.divInt 1 2
def hal (ps : List (List Rat)) (l : Rat × Rat) : Rat × Rat := if cnt ps l.1 (mid l.1 l.2) = 1 then (l.1, mid l.1 l.2) else (mid l.1 l.2, l.2)
theorem QrL (ps : List (List Rat)) (x : Rat) {i : Nat} (hi : i < ps.length) : sgs (ps.take (i + 1)) x = if sgn1 (ps.getD i []) x ≠ 0 then sgs (ps.take i) x ++ [sgn1 (ps.getD i []) x] else sgs (ps.take i) x := by
 have e : ps.take (i + 1) = ps.take i ++ [ps.getD i []] := by
  rw [List.take_add_one, List.getD_eq_getElem?_getD, List.getElem?_eq_getElem hi]; rfl
 unfold sgs
 rw [e, List.map_append, List.filter_append, List.map_cons, List.map_nil]
 generalize ps.getD i [] = p
 by_cases h : sgn1 p x = 0
 ·rw [if_neg (by simp [h]), List.filter_cons_of_neg (by simp [h]), List.filter_nil, List.append_nil]
 ·rw [if_pos h, List.filter_cons_of_pos (by simp [h]), List.filter_nil]
theorem Qj9 (ps : List (List Rat)) (x : Rat) : (sgs ps x).length ≤ ps.length := by
 unfold sgs
 exact Nat.le_trans (List.length_filter_le _ _) (by simp)
theorem Qjw (S : List Int) : ∀ i, chN S i ≤ i
 | 0 => Nat.le_refl _
 | i + 1 => by
  rw [chN]
  have := Qjw S i
  split <;> omega
theorem mid_sz {lo hi : Rat} {K L : Nat} (h1 : sz lo ≤ K) (h2 : sz hi ≤ L) : sz (mid lo hi) ≤ K + L + 5 := by
 unfold mid
 have z1 := QkK (a := lo) (b := hi)
 have z2 := Qez (a := lo + hi) (b := Rat.divInt 1 2)
 have z3 := sz_of (n := 1) (d := 2) ⟨by omega, by omega⟩ ⟨by omega, by omega⟩
 omega
def Qk9 (d : D) (x : Rat) (S : List Int) (i : Int) : St := mkS [(0, .d d), (3, .ptr [3] 0), (5, gA 28 S), (6, ai i)] (([3], boxR x) :: gH 28 S)
def QsQ (S : List Int) : St := mkS [(5, gA 28 S)] (gH 28 S)
def Qlv (S : List Int) (n i : Int) : St := mkS [(5, gA 28 S), (8, ai n), (9, ai i)] (gH 28 S)
theorem ldI1 {S : List Int} {i : Nat} (h : i < S.length) : Qab none i (Qbt S) = some (.d (.v (.int .i64 (S.getD i 0)))) := by
 show (Qbt S)[i]? = _
 unfold Qbt
 rw [List.getElem?_map, List.getElem?_eq_getElem h, List.getD_eq_getElem?_getD, List.getElem?_eq_getElem h]
 rfl
theorem st4q (a b c d i j k l : A) : Qac 0 [a, b, c, d] [i, j, k, l] = some [a, b, c, d] := rfl
theorem ld4q (a b c d : D) : Qab (some 4) 0 [.d a, .d b, .d c, .d d] = some (.d (.agg [a, b, c, d])) := rfl
variable [Its]
section
variable {d : D} {ps : List (List Rat)} {x : Rat} {K : Nat}
theorem c7_go (hr : RwC d ps) (hn : ps.length ≤ 1000) (hs : ∀ p ∈ ps, SzL K p ∧ p.length ≤ 1000) (hx : sz x ≤ K) (hK1 : 1 ≤ K) (hK : K ≤ 10000) {S : List Int} (hS : S.length ≤ 1000) {i : Nat} (hi : i < ps.length) :
    X G Qax (Qk9 d x S i) = some (.n, Qk9 d x (if sgn1 (ps.getD i []) x ≠ 0 then S ++ [sgn1 (ps.getD i []) x] else S) ((i + 1 : Nat) : Int)) := by
  have e1 : decide ((i : Int) < (ps.length : Int)) = true := lt_t (by omega)
  have e2 : w64 ((i : Int) + 1) = ((i + 1 : Nat) : Int) := by rw [Qae (by omega) (by omega)]; rfl
  have ll := hr.len
  obtain ⟨y, r, hy, x1, x2⟩ := hr.at hi
  have hp := hs (ps.getD i []) (by rw [List.getD_eq_getElem?_getD, List.getElem?_eq_getElem hi]; exact List.getElem_mem hi)
  generalize ps.getD i [] = p at *
  have g1 := Qds hy hp.1 hK1 hK hp.2 hx
  have z := QjU (x := x) (K := K) hx p (fun q hq => hp.1 q hq)
  have zb : p.length * (2 * K + 1) ≤ 1000 * (2 * 10000 + 1) := Nat.mul_le_mul hp.2 (by omega)
  have g2 := QbP (a := evR p x) (by omega)
  have es : Int.sign (evR p x).num = sgn1 p x := rfl
  rw [es] at g2
  have n4 := Qle (l := S) (by omega)
  clear z zb es hs hp hx
  generalize sgn1 p x = s at *
  generalize evR p x = v at *
  simp only [encR, iv] at g1 g2
  by_cases h0 : s = 0
  · have t : (s != 0) = false := bne_f h0
    rw [if_neg (by simp [h0])]
    by_cases hS0 : S = []
    · subst hS0
      simp -implicitDefEqProofs (maxSteps:=9^8) only [Qax, Qk9, boxR, QdY, QdX, Qaa, ll, x1, x2, g1, g2, t, e1, e2, ld4q, go_sem, iv, bv, reduceCtorEq, ↓reduceIte, Nat.reduceEqDiff]
    · simp -implicitDefEqProofs (maxSteps:=9^8) only [Qax, Qk9, boxR, Qg8 hS0, Qhe hS0, arrI, Qal, Qaa, ll, x1, x2, g1, g2, t, e1, e2, ld4q, go_sem, iv, bv, reduceCtorEq, ↓reduceIte, Nat.reduceEqDiff]
  · have t : (s != 0) = true := Qta h0
    rw [if_pos h0]
    by_cases hS0 : S = []
    · subst hS0
      have b0 := QjG
      simp -implicitDefEqProofs (maxSteps:=9^8) only [Qax, Qk9, boxR, QdY, QdX, List.nil_append, Qm3, Qnc, arrI, Qf8, Qaa, ll, x1, x2, g1, g2, t, e1, e2, b0, ld4q, all_one, Qjm, srcS, src, go_sem, iv, bv, reduceCtorEq, ↓reduceIte, Nat.reduceEqDiff]
    · simp -implicitDefEqProofs (maxSteps:=9^8) only [Qax, Qk9, boxR, Qg8 hS0, Qhe hS0, Qi4, Qi8, arrI, Qfe, Qah, Qal, Qaa, ll, x1, x2, g1, g2, t, e1, e2, n4, ld4q, all_one, Qjm, srcS, src, go_sem, iv, bv, reduceCtorEq, ↓reduceIte, Nat.reduceEqDiff]
theorem c7_stop (hr : RwC d ps) {S : List Int} : X G Qax (Qk9 d x S ps.length) = some (.x 0, QsQ S) := by
 have e1 : decide ((ps.length : Int) < (ps.length : Int)) = false := lt_f (by omega)
 have ll := hr.len
 by_cases hS0 : S = []
 ·subst hS0
  simp -implicitDefEqProofs (maxSteps:=9^8) only [Qax, Qk9, QsQ, boxR, QdY, QdX, Qaa, ll, e1, go_sem, iv, bv, reduceCtorEq, ↓reduceIte, Nat.reduceEqDiff]
 ·simp -implicitDefEqProofs (maxSteps:=9^8) only [Qax, Qk9, QsQ, boxR, Qg8 hS0, Qhe hS0, arrI, Qal, Qaa, ll, e1, go_sem, iv, bv, reduceCtorEq, ↓reduceIte, Nat.reduceEqDiff]
theorem c7_loop (hr : RwC d ps) (hn : ps.length ≤ 1000) (hs : ∀ p ∈ ps, SzL K p ∧ p.length ≤ 1000) (hx : sz x ≤ K) (hK1 : 1 ≤ K) (hK : K ≤ 10000) : ∀ (j i : Nat), i + j = ps.length →
    X G (.loop Qax) (Qk9 d x (sgs (ps.take i) x) i) = some (.x 0, QsQ (sgs ps x))
  | 0, i, h => by
    have : i = ps.length := by omega
    subst this
    rw [Qag, c7_stop hr, List.take_length]; rfl
  | j + 1, i, h => by
    have ih := c7_loop hr hn hs hx hK1 hK j (i + 1) (by omega)
    have hl := Qj9 (ps.take i) x
    rw [List.length_take] at hl
    rw [Qag, c7_go hr hn hs hx hK1 hK (by omega) (by omega), Option.bind_some, if_pos rfl, ← ih, QrL ps x (by omega)]
theorem n7_go {S : List Int} (hS : S.length ≤ 1000) {n : Nat} (hn : n ≤ 1000) {i : Nat} (h1 : 1 ≤ i) (hi : i < S.length) : X G QaE (Qlv S n i) = some (.n, Qlv S ((n + (if 1 ≤ i ∧ S.getD i 0 ≠ S.getD (i - 1) 0 then 1 else 0) : Nat) : Int) ((i + 1 : Nat) : Int)) := by
 have hS0 : S ≠ [] := fun h => by rw [h] at hi; simp at hi
 have e1 : decide ((i : Int) < (S.length : Int)) = true := lt_t (by omega)
 have e2 : w64 ((i : Int) + 1) = ((i + 1 : Nat) : Int) := by rw [Qae (by omega) (by omega)]; rfl
 have e3 : w64 ((i : Int) - 1) = ((i - 1 : Nat) : Int) := by rw [Qae (by omega) (by omega)]; omega
 have e4 : w64 ((n : Int) + 1) = ((n + 1 : Nat) : Int) := by rw [Qae (by omega) (by omega)]; rfl
 have b1 : (0 ≤ (i : Int)) = True := eq_true (by omega)
 have b2 : ((i : Int) < (S.length : Int)) = True := eq_true (by omega)
 have b3 : (0 ≤ ((i - 1 : Nat) : Int)) = True := eq_true (by omega)
 have b4 : (((i - 1 : Nat) : Int) < (S.length : Int)) = True := eq_true (by omega)
 have x1 := ldI1 (S := S) hi
 have x2 := ldI1 (S := S) (i := i - 1) (by omega)
 generalize S.getD i 0 = u at *
 generalize S.getD (i - 1) 0 = v at *
 by_cases h : u = v
 ·have t : (u != v) = false := bne_f h
  rw [if_neg (by simp [h])]
  simp -implicitDefEqProofs (maxSteps:=9^8) only [QaE, Qlv, Qg8 hS0, Qhe hS0, arrI, Qal, Qaa, x1, x2, t, e1, e2, e3, b1, b2, b3, b4, Nat.mul_one, Nat.add_zero, Int.toNat_natCast, go_sem, iv, bv, reduceCtorEq, ↓reduceIte, Nat.reduceEqDiff]
 ·have t : (u != v) = true := Qta h
  rw [if_pos ⟨h1, h⟩]
  simp -implicitDefEqProofs (maxSteps:=9^8) only [QaE, Qlv, Qg8 hS0, Qhe hS0, arrI, Qal, Qaa, x1, x2, t, e1, e2, e3, e4, b1, b2, b3, b4, Nat.mul_one, Int.toNat_natCast, go_sem, iv, bv, reduceCtorEq, ↓reduceIte, Nat.reduceEqDiff]
theorem n7_stop {S : List Int} {n i : Int} (h : (S.length : Int) ≤ i) : X G QaE (Qlv S n i) = some (.x 2, mkS [(8, ai n)] []) := by
 have e1 : decide (i < (S.length : Int)) = false := lt_f (by omega)
 by_cases hS0 : S = []
 ·subst hS0
  have e1 : decide (i < 0) = false := e1
  simp -implicitDefEqProofs (maxSteps:=9^8) only [QaE, Qlv, QdY, QdX, Qaa, e1, go_sem, iv, bv, reduceCtorEq, ↓reduceIte, Nat.reduceEqDiff]
 ·simp -implicitDefEqProofs (maxSteps:=9^8) only [QaE, Qlv, Qg8 hS0, Qhe hS0, arrI, Qal, Qaa, e1, go_sem, iv, bv, reduceCtorEq, ↓reduceIte, Nat.reduceEqDiff]
theorem n7_loop {S : List Int} (hS : S.length ≤ 1000) : ∀ (j i : Nat), 1 ≤ i → i + j = S.length → X G (.loop QaE) (Qlv S (chN S i) i) = some (.x 2, mkS [(8, ai (chN S S.length))] [])
 | 0, i, h1, h => by
  have : i = S.length := by omega
  subst this
  rw [Qag, n7_stop (Int.le_refl _)]; rfl
 | j + 1, i, h1, h => by
  have := Qjw S i
  rw [Qag, n7_go hS (by omega) h1 (by omega), Option.bind_some, if_pos rfl]
  exact n7_loop hS j (i + 1) (by omega) (by omega)
theorem Qjz (hr : RwC d ps) (hn : ps.length ≤ 1000) (hs : ∀ p ∈ ps, SzL K p ∧ p.length ≤ 1000) (hx : sz x ≤ K) (hK1 : 1 ≤ K) (hK : K ≤ 10000) : Qaj G Qdz [d, encR x] = some (.d (iv (chg ps x))) := by
 rw [Qad (cf := QcU) rfl]
 have g0 := c7_loop hr hn hs hx hK1 hK ps.length 0 (by omega)
 have hl := Qj9 ps x
 have e0 : sgs (ps.take 0) x = [] := rfl
 rw [e0] at g0
 have g1 : X G (.loop QaE) (Qlv (sgs ps x) 0 1) = some (.x 2, mkS [(8, ai (chg ps x))] []) := by
  unfold chg
  by_cases h : sgs ps x = []
  ·rw [h]
   rw [Qag, n7_stop (by simp)]; rfl
  ·have hp : 0 < (sgs ps x).length := List.length_pos_iff.2 h
   exact n7_loop (S := sgs ps x) (by omega) ((sgs ps x).length - 1) 1 (by omega) (by omega)
 generalize chg ps x = c at *
 generalize sgs ps x = S at *
 by_cases hS0 : S = []
 ·subst hS0
  simp only [Qk9, QsQ, boxR, QdY, QdX, Qaa, nc0, go_sem, iv] at g0
  simp only [Qlv, QdY, QdX, Qaa, nc0, go_sem, iv] at g1
  simp -implicitDefEqProofs (maxSteps:=9^8) only [QcU, encR, g0, g1, Qaa, go_sem, iv, bv, reduceCtorEq, ↓reduceIte, Nat.reduceEqDiff]
 ·simp only [Qk9, QsQ, boxR, QdY, QdX, Qg8 hS0, Qhe hS0, arrI, Qaa, nc0, go_sem, iv] at g0
  simp only [Qlv, Qg8 hS0, Qhe hS0, arrI, Qaa, nc0, go_sem, iv] at g1
  simp -implicitDefEqProofs (maxSteps:=9^8) only [QcU, encR, g0, g1, Qaa, Qal, go_sem, iv, bv, reduceCtorEq, ↓reduceIte, Nat.reduceEqDiff]
theorem QcW (hr : RwC d ps) (hn : ps.length ≤ 1000) (hs : ∀ p ∈ ps, SzL K p ∧ p.length ≤ 1000) {lo hi : Rat} (h1 : sz lo ≤ K) (h2 : sz hi ≤ K) (hK1 : 1 ≤ K) (hK : K ≤ 10000) : Qaj G QbT [d, encR lo, encR hi] = some (.d (iv (cnt ps lo hi))) := by
 rw [Qad (cf := QcZ) rfl]
 have g0 := Qco (a := lo) (b := hi) (by omega) (by omega)
 have g1 := Qjz hr hn hs h1 hK1 hK
 have g2 := Qjz hr hn hs h2 hK1 hK
 have c1 : chg ps lo ≤ 1000 := Nat.le_trans (Qjw _ _) (Nat.le_trans (Qj9 ps lo) hn)
 have c2 : chg ps hi ≤ 1000 := Nat.le_trans (Qjw _ _) (Nat.le_trans (Qj9 ps hi) hn)
 have t0 : decide (cmpR lo hi ≥ 0) = decide (hi ≤ lo) := by
  have h := cmpR_lt (a := lo) (b := hi)
  rw [Bool.eq_iff_iff, decide_eq_true_iff, decide_eq_true_iff]
  constructor
  ·intro h1
   exact Rat.not_lt.1 fun h2 => by have := h.2 h2; omega
  ·intro h1
   exact Int.not_lt.1 fun h2 => Rat.not_lt.2 h1 (h.1 h2)
 unfold cnt
 generalize chg ps lo = a at *
 generalize chg ps hi = b at *
 obtain ⟨z, hz⟩ : ∃ z, (a : Int) - (b : Int) = z := ⟨_, rfl⟩
 have e : w64 ((a : Int) - (b : Int)) = z := by rw [Qae (by omega) (by omega), hz]
 rw [hz]
 generalize cmpR lo hi = c at *
 simp only [encR, iv] at g0 g1 g2
 by_cases h : hi ≤ lo
 ·rw [if_pos h]
  rw [decide_eq_true h] at t0
  simp -implicitDefEqProofs (maxSteps:=9^8) only [QcZ, encR, g0, t0, ld4q, Qaa, go_sem, iv, bv, reduceCtorEq, ↓reduceIte, Nat.reduceEqDiff]
 ·rw [if_neg h]
  rw [decide_eq_false h] at t0
  simp -implicitDefEqProofs (maxSteps:=9^8) only [QcZ, encR, g0, g1, g2, t0, e, ld4q, Qaa, go_sem, iv, bv, reduceCtorEq, ↓reduceIte, Nat.reduceEqDiff]
end
theorem Qpq {lo hi : Rat} (h1 : sz lo ≤ 1000000000) (h2 : sz hi ≤ 1000000000) : Qaj G QdL [encR lo, encR hi] = some (.d (encR (mid lo hi))) := by
 rw [Qad (cf := Qer) rfl]
 have g1 := QgQ (a := lo) (b := hi) (by omega) (by omega)
 have g2 := QcY (n := 1) (d := 2) ⟨by omega, by omega⟩ ⟨by omega, by omega⟩
 have z1 := QkK (a := lo) (b := hi)
 have z3 := sz_of (n := 1) (d := 2) ⟨by omega, by omega⟩ ⟨by omega, by omega⟩
 have g3 := Qeh (a := lo + hi) (b := Rat.divInt 1 2) (by omega) (by omega)
 unfold mid
 generalize (lo + hi) * Rat.divInt 1 2 = r at *
 generalize lo + hi = s at *
 generalize Rat.divInt 1 2 = t at *
 simp only [encR, iv] at g1 g2 g3
 simp -implicitDefEqProofs (maxSteps:=9^8) only [Qer, encR, g1, g2, g3, st4q, ld4q, Qaa, go_sem, iv, bv, reduceCtorEq, ↓reduceIte, Nat.reduceEqDiff]
end Go.AM

/- ref07: halved, within (of at most one), Chain. -/
namespace Go.AM
open Go Go.RowKit
def c2R (l : Rat × Rat) : List D := [.v (.bool (decide (l.1.num < 0))), dg (digs l.1.num.natAbs), .v (.bool false), dg (dd l.1.den), .v (.bool (decide (l.2.num < 0))), dg (digs l.2.num.natAbs), .v (.bool false), dg (dd l.2.den)]
def enc2 (l : Rat × Rat) : D := .agg (c2R l)
theorem st8q (a b c d e f g h i j k l m n o p : A) : Qac 0 [a, b, c, d, e, f, g, h] [i, j, k, l, m, n, o, p] = some [a, b, c, d, e, f, g, h] := rfl
theorem ld8q (a b c d e f g h : D) : Qab (some 8) 0 [.d a, .d b, .d c, .d d, .d e, .d f, .d g, .d h] = some (.d (.agg [a, b, c, d, e, f, g, h])) := rfl
theorem QmA (a b c d e f g h : D) : Qab (some 4) 0 [.d a, .d b, .d c, .d d, .d e, .d f, .d g, .d h] = some (.d (.agg [a, b, c, d])) := rfl
theorem QmD (a b c d e f g h : D) : Qab (some 4) 4 [.d a, .d b, .d c, .d d, .d e, .d f, .d g, .d h] = some (.d (.agg [e, f, g, h])) := rfl
theorem rep1_8 (a b c d e f g h : D) : rep 1 [a, b, c, d, e, f, g, h] = [a, b, c, d, e, f, g, h] := rfl
theorem RwR.one {d : D} {l : List Rat} (h : RwR d l) : A.one (.d d) = true := by rcases h with ⟨rfl, _⟩ | rfl <;> rfl
theorem RwR.cells {d : D} {l : List Rat} (h : RwR d l) : QaJ (.d d) = [.d d] := by rcases h with ⟨rfl, _⟩ | rfl <;> rfl
theorem RwR.dc {d : D} {l : List Rat} (h : RwR d l) : d.one = true := by rcases h with ⟨rfl, _⟩ | rfl <;> rfl
theorem RwR.dcl {d : D} {l : List Rat} (h : RwR d l) : QcS (.d d) = some [d] := by rcases h with ⟨rfl, _⟩ | rfl <;> rfl
noncomputable def chL : Nat → List Rat → List Rat → List (List Rat)
 | 0, _, _ => []
 | n + 1, a, b => if b = [] then [] else b :: chL n b (scP (remP a b) (-1))
noncomputable def chP (p : List Rat) : List (List Rat) := if p = [] then [] else frP p :: chL p.length (frP p) (deP (frP p))
def ChOk (K : Nat) : Nat → List Rat → List Rat → Prop
 | 0, _, b => b = []
 | n + 1, a, b => b = [] ∨ (Trm b ∧ b.length ≤ 90 ∧ HL K K b ∧ SzL K b ∧ dvG K b (dvN a b) a ∧ SzL K (remP a b) ∧ ChOk K n b (scP (remP a b) (-1)))
def Dls (ds : List D) (ps : List (List Rat)) : Prop := ds.length = ps.length ∧ ∀ i, i < ps.length → RwR (ds.getD i (.z true)) (ps.getD i [])
theorem Dls.nil : Dls [] [] := ⟨rfl, fun i h => by simp at h⟩
theorem Dls.cons {d : D} {p : List Rat} {ds : List D} {ps : List (List Rat)} (h : RwR d p) (H : Dls ds ps) : Dls (d :: ds) (p :: ps) := by
 refine ⟨by simp [H.1], fun i hi => ?_⟩
 cases i with
 | zero => exact h
 | succ i => simpa using H.2 i (by simpa using hi)
theorem Dls.rwc {ds : List D} {ps : List (List Rat)} (h : Dls ds ps) : RwC (.row ds.length ds) ps := ⟨ds, h.1, h.2, .inl rfl⟩
def Qqv (da db : D) (ds : List D) : St := mkS [(3, .d da), (4, .own [14] ds.length), (5, .d db)] [([14], ⟨1, ds.length, ds.map .d, false⟩)]
def h7_en (ds : List D) : St := mkS [(4, .own [14] ds.length)] [([14], ⟨1, ds.length, ds.map .d, false⟩)]
theorem QiX (ks : List Key) : ∀ ds : List D, Qfu ks (ds.map A.d) = true
 | [] => rfl
 | x :: r => by rw [List.map_cons, Qfu, QiX ks r]; rfl
theorem Qq8 : I64 (-1) := ⟨by omega, by omega⟩
theorem sz_m1 : sz (-1) ≤ 3 := QlU (n := -1) Qq8
variable [Its]
section
variable {d : D} {ps : List (List Rat)} {K : Nat}
theorem Qo3          (hr : RwC d ps) (hn : ps.length ≤ 1000) (hs : ∀ p ∈ ps, SzL K p ∧ p.length ≤ 1000) {l : Rat × Rat} (h1 : sz l.1 ≤ K) (h2 : sz l.2 ≤ K) (h3 : sz (mid l.1 l.2) ≤ K) (hK1 : 1 ≤ K) (hK : K ≤ 10000) :
    Qaj G QfX [d, enc2 l] = some (.d (enc2 (hal ps l))) := by
  rw [Qad (cf := Qdh) rfl]
  have g1 := Qpq (lo := l.1) (hi := l.2) (by omega) (by omega)
  have g2 := QcW hr hn hs h1 h3 hK1 hK
  unfold hal
  generalize mid l.1 l.2 = m at *
  generalize cnt ps l.1 m = c at *
  obtain ⟨lo, hi⟩ := l
  simp only [encR, iv] at g1 g2
  by_cases hc : c = 1
  · have t : (c == 1) = true := beq_iff_eq.2 hc
    rw [if_pos hc]
    simp -implicitDefEqProofs (maxSteps:=9^8) only [Qdh, enc2, c2R, g1, g2, t, st4q, ld4q, st8q, ld8q, QmA, QmD, Qdk, QbC, Qaa, go_sem, iv, bv, reduceCtorEq, ↓reduceIte, Nat.reduceEqDiff]
  · have t : (c == 1) = false := QcD hc
    rw [if_neg hc]
    simp -implicitDefEqProofs (maxSteps:=9^8) only [Qdh, enc2, c2R, g1, g2, t, st4q, ld4q, st8q, ld8q, QmA, QmD, Qdk, QbC, Qaa, go_sem, iv, bv, reduceCtorEq, ↓reduceIte, Nat.reduceEqDiff]
theorem QkI          (hr : RwC d ps) (hn : ps.length ≤ 1000) (hs : ∀ p ∈ ps, SzL K p ∧ p.length ≤ 1000) {lo hi : Rat} (h1 : sz lo ≤ K) (h2 : sz hi ≤ K) (hK1 : 1 ≤ K) (hK : K ≤ 10000) (hc : cnt ps lo hi = 0) :
    Qaj G Qa0 [d, encR lo, encR hi] = some (.d (.z true)) := by
  rw [Qad (cf := Qcv) rfl]
  have g := QcW hr hn hs h1 h2 hK1 hK
  rw [hc] at g
  have t : ((0 : Int) == 0) = true := rfl
  simp only [encR, iv] at g
  simp -implicitDefEqProofs (maxSteps:=9^8) only [Qcv, encR, g, t, ld4q, Qaa, go_sem, iv, bv, reduceCtorEq, ↓reduceIte, Nat.reduceEqDiff]
theorem QqI         (hr : RwC d ps) (hn : ps.length ≤ 1000) (hs : ∀ p ∈ ps, SzL K p ∧ p.length ≤ 1000) {lo hi : Rat} (h1 : sz lo ≤ K) (h2 : sz hi ≤ K) (hK1 : 1 ≤ K) (hK : K ≤ 10000) (hc : cnt ps lo hi = 1) :
    Qaj G Qa0 [d, encR lo, encR hi] = some (.own 8 1 (c2R (lo, hi))) := by
  rw [Qad (cf := Qcv) rfl]
  have g := QcW hr hn hs h1 h2 hK1 hK
  rw [hc] at g
  have t : ((1 : Int) == 0) = false := rfl
  have t2 : ((1 : Int) == 1) = true := rfl
  simp only [encR, iv] at g
  simp -implicitDefEqProofs (maxSteps:=9^8) only [Qcv, encR, c2R, g, t, t2, ld4q, Qdk, QbC, rep1_8, srcS, src, allD, Qfu, Qaa, go_sem, iv, bv, reduceCtorEq, ↓reduceIte, Nat.reduceEqDiff]
theorem h7_go {da db : D} {a b : List Rat} {ds : List D} (ha : RwR da a) (hb : RwR db b) (ta : Trm a) (tb : Trm b) (na : a.length ≤ 90) (hne : b ≠ []) (nb : b.length ≤ 90) (Hb : HL K K b) (sb : SzL K b) (hg : dvG K b (dvN a b) a) (sr : SzL K (remP a b)) (hK1 : 3 ≤ K) (hK : K ≤ 200000000) (hd0 : 0 < ds.length) (hds : ds.length ≤ 1000) :
    ∃ d', RwR d' (scP (remP a b) (-1)) ∧ X G QbB (Qqv da db ds) = some (.n, Qqv db d' (ds ++ [db])) := by
  obtain ⟨d1, d2, h1, h2, g1⟩ := Qkd ha hb ta tb na Hb sb (by omega) hK hK hK hg
  have o1 := QcY Qq8 (d := 1) ⟨by omega, by omega⟩
  rw [Qcd, show (((-1 : Int)) : Rat) = -1 from rfl] at o1
  obtain ⟨d', h3, g2⟩ := QgL (a := -1) h2 sr (Nat.le_trans sz_m1 hK1) (by omega) (by omega) (by have := QhH a b; omega)
  refine ⟨d', h3, ?_⟩
  have lb := hb.len
  have e1 : decide ((b.length : Int) > 0) = true := decide_eq_true (by have := List.length_pos_iff.2 hne; omega)
  have k1 := hb.one
  have k2 := hb.dcl
  have k3 := hb.dc
  have n4 : ((ds.length + 1) * 24 ≤ bound) = True := eq_true (by unfold bound; omega)
  have n5 : (ds ++ [db]).length = ds.length + 1 := by simp
  have n6 : (ds.map A.d) ++ [A.d db] = (ds ++ [db]).map A.d := by simp
  have r1 : rep 1 [db] = [db] := rfl
  generalize (-1 : Rat) = m1 at *
  clear h1 h2 h3 hg sr Hb sb ta tb ha hb
  simp only [encR, iv] at o1 g1 g2
  simp -implicitDefEqProofs (maxSteps:=9^8) only [QbB, Qqv, lb, e1, k1, k2, k3, n4, n5, n6, r1, o1, g1, g2, QiX, List.length_map, Nat.mul_one, srcS, src, allD, Qdk, QbC, List.all_cons, List.all_nil, Bool.and_self, Qaa, go_sem, iv, bv, reduceCtorEq, ↓reduceIte, Nat.reduceEqDiff]
theorem h7_stop {da db : D} {ds : List D} (hb : RwR db []) : X G QbB (Qqv da db ds) = some (.x 0, h7_en ds) := by
 have lb := hb.len
 simp only [List.length_nil] at lb
 have e1 : decide ((0 : Int) > 0) = false := rfl
 simp -implicitDefEqProofs (maxSteps:=9^8) only [QbB, Qqv, h7_en, lb, e1, QiX, Qaa, go_sem, iv, bv, reduceCtorEq, ↓reduceIte, Nat.reduceEqDiff]
theorem h7_loop (hK1 : 3 ≤ K) (hK : K ≤ 200000000) : ∀ (n : Nat) (a b : List Rat) (da db : D) (ds : List D), RwR da a → RwR db b → Trm a → a.length ≤ 90 → ChOk K n a b → 0 < ds.length → ds.length + n ≤ 1000 →
    ∃ es, Dls es (chL n a b) ∧ X G (.loop QbB) (Qqv da db ds) = some (.x 0, h7_en (ds ++ es))
  | 0, a, b, da, db, ds, ha, hb, ta, na, hc, h0, hl => by
    have hc : b = [] := hc
    subst hc
    exact ⟨[], Dls.nil, by rw [Qag, h7_stop hb, List.append_nil]; rfl⟩
  | n + 1, a, b, da, db, ds, ha, hb, ta, na, hc, h0, hl => by
    by_cases hb0 : b = []
    · subst hb0
      rw [chL, if_pos rfl]
      exact ⟨[], Dls.nil, by rw [Qag, h7_stop hb, List.append_nil]; rfl⟩
    · rcases hc with hc | ⟨c1, c2, c3, c4, c5, c6, c7⟩
      · exact absurd hc hb0
      · obtain ⟨d', h', hx⟩ := h7_go ha hb ta c1 na hb0 c2 c3 c4 c5 c6 hK1 hK h0 (ds := ds) (by omega)
        obtain ⟨es, he, hl2⟩ := h7_loop hK1 hK n b _ db d' (ds ++ [db]) hb h' c1 c2 c7 (by simp) (by rw [List.length_append, List.length_singleton]; omega)
        refine ⟨db :: es, ?_, ?_⟩
        · rw [chL, if_neg hb0]
          exact Dls.cons hb he
        · rw [Qag, hx, Option.bind_some, if_pos rfl, hl2, List.append_assoc]; rfl
theorem Qqn         {dp : D} {p : List Rat} (hp : RwR dp p) (hp0 : p ≠ []) (np : p.length ≤ 90) (hF : ∃ d', RwR d' (frP p) ∧ Qaj   G Qdj                [dp] = some (.d d')) (tf : Trm (frP p)) (nf : (frP p).length ≤ 90) (sf : SzL K (frP p)) (hc : ChOk K p.length (frP p) (deP (frP p))) (hK1 : 3 ≤ K) (hK : K ≤ 200000000) :
    ∃ ds, Dls ds (chP p) ∧ Qaj G Qci [dp] = some (.own 1 ds.length ds) := by
  rw [Qad (cf := Qfj) rfl]
  obtain ⟨da, ha, g1⟩ := hF
  obtain ⟨db, hb, g2⟩ := Qf4 ha sf (by omega) (by omega) (by omega)
  obtain ⟨es, he, g3⟩ := h7_loop hK1 hK p.length (frP p) (deP (frP p)) da db [da] ha hb tf nf hc (by simp) (by simp; omega)
  refine ⟨da :: es, ?_, ?_⟩
  · unfold chP
    rw [if_neg hp0]
    exact Dls.cons ha he
  · have lp := hp.len
    have e1 : ((p.length : Int) == 0) = false := QcD (by have := List.length_pos_iff.2 hp0; omega)
    have k1 := ha.one
    have k2 := ha.dcl
    have k3 := ha.dc
    have n5 : ([da] ++ es).length = es.length + 1 := by simp
    have n6 : ([da] ++ es) = da :: es := rfl
    have r1 : rep 1 [da] = [da] := rfl
    have n7 : allD (es.map A.d) = some es := QeQ _
    have n8 : (24 ≤ bound) = True := eq_true (by unfold bound; omega)
    have n9 : (1 * 24 ≤ bound) = True := eq_true (by unfold bound; omega)
    rw [n6] at g3
    simp only [Qqv, h7_en, List.length_singleton, List.length_cons, List.map_cons, List.map_nil, go_sem] at g3
    clear he hc tf nf sf ha hb hp
    simp -implicitDefEqProofs (maxSteps:=9^8) only [Qfj, lp, e1, g1, g2, g3, k1, k2, k3, r1, n7, n8, n9, QiX, Qfu, List.length_map, List.length_cons, List.map_cons, List.map_nil, Nat.mul_one, srcS, src, allD, Qdk, QbC, List.all_cons, List.all_nil, Bool.and_self, Qaa, go_sem, iv, bv, reduceCtorEq, ↓reduceIte, Nat.reduceEqDiff]
end
end Go.AM

/- Divisors of polynomials: the common divisor is a combination, the part without squares. -/
namespace Go.AM
open Go Go.RowKit

def Dv (q p : List Rat) : Prop := ∃ s : List Rat, ∀ x, evR p x = evR s x * evR q x
theorem QsN (c x : Rat) : evR [c] x = c := by
 show (0 : Rat) * x + c = c
 rw [Rat.zero_mul, Rat.zero_add]
theorem Dv.refl (p : List Rat) : Dv p p := ⟨[1], fun x => by rw [QsN, Rat.one_mul]⟩
theorem Dv.nil (p : List Rat) : Dv p [] := ⟨[], fun x => by rw [Qa7, Rat.zero_mul]⟩
theorem Dv.one (p : List Rat) : Dv [1] p := ⟨p, fun x => by rw [QsN, Rat.mul_one]⟩
theorem Dv.trans {a b c : List Rat} (h : Dv a b) (k : Dv b c) : Dv a c := by
 obtain ⟨s, hs⟩ := h
 obtain ⟨t, ht⟩ := k
 exact ⟨muP t s, fun x => by rw [QjH, ht, hs, Rat.mul_assoc]⟩
theorem Dv.comb {q a b c u v : List Rat} (h : Dv q a) (k : Dv q b) (hc : ∀ x, evR c x = evR u x * evR a x + evR v x * evR b x) : Dv q c := by
 obtain ⟨s, hs⟩ := h
 obtain ⟨t, ht⟩ := k
 refine ⟨adP (muP u s) (muP v t), fun x => ?_⟩
 rw [ev_ad, QjH, QjH, hc, hs, ht]
 generalize evR u x = a1; generalize evR v x = a2; generalize evR s x = a3; generalize evR t x = a4; generalize evR q x = a5
 grind
theorem ev0_nil {l : List Rat} (hl : Trm l) (h : ∀ x, evR l x = 0) : l = [] := Qd3 hl Qdc (fun x => by rw [h, Qa7])
theorem dv_zero {p : List Rat} (tp : Trm p) (h : Dv [] p) : p = [] := by
 obtain ⟨s, hs⟩ := h
 exact ev0_nil tp fun x => by rw [hs, Qa7, Rat.mul_zero]
theorem rem_of_dv {q p : List Rat} (tq : Trm q) (nq : q ≠ []) (h : Dv q p) : remP p q = [] ∧ ∀ x, evR p x = evR (quoP p q) x * evR q x := by
 obtain ⟨h1, h2, h3, h4⟩ := QnQ (p := p) tq nq
 obtain ⟨s, hs⟩ := h
 have hr : remP p q = [] := (Qsr tq nq h3 (QbO s) h4 Qdc h2 (by simp) (fun x => by rw [← h1, Qcs, hs, Qa7, Rat.add_zero])).2
 exact ⟨hr, fun x => by rw [h1, hr, Qa7, Rat.add_zero]⟩

theorem ev_mn {l : List Rat} (h : l ≠ []) (x : Rat) : evR (mnP l) x = evR l x * (1 / l.getD (l.length - 1) 0) := by rw [mnP, if_neg h, ev_sc]
theorem dv_mn {l : List Rat} : Dv l (mnP l) := by
 by_cases h : l = []
 ·subst h; exact Dv.nil _
 ·exact ⟨[1 / l.getD (l.length - 1) 0], fun x => by rw [ev_mn h, QsN, Rat.mul_comm]⟩
theorem mn_dv {l : List Rat} (tl : Trm l) : Dv (mnP l) l := by
 by_cases h : l = []
 ·subst h; exact Dv.nil _
 ·refine ⟨[l.getD (l.length - 1) 0], fun x => ?_⟩
  have h1 := Qf2 tl h
  rw [ev_mn h, QsN]
  generalize l.getD (l.length - 1) 0 = c at *
  rw [Rat.div_def, Rat.one_mul, Rat.mul_comm (evR l x), ← Rat.mul_assoc, Rat.mul_inv_cancel _ h1, Rat.one_mul]
theorem mn_ne {l : List Rat} (tl : Trm l) (h : l ≠ []) : mnP l ≠ [] := fun h0 => h (by
 have := Qji tl
 rw [h0] at this
 exact List.length_eq_zero_iff.1 this.symm)
/-! ### The common divisor -/
theorem gc_bez : ∀ (n : Nat) (a b : List Rat), Trm a → Trm b → b.length < n → (∃ u v, ∀ x, evR (gcP n a b) x = evR u x * evR a x + evR v x * evR b x) ∧ Dv (gcP n a b) a ∧ Dv (gcP n a b) b
 | 0, _, _, _, _, h => by omega
 | n + 1, a, b, ta, tb, h => by
  rw [gcP]
  by_cases hb : b = []
  ·rw [if_pos hb]
   subst hb
   exact ⟨⟨[1], [], fun x => by rw [QsN, Qa7, Rat.one_mul, Rat.zero_mul, Rat.add_zero]⟩, Dv.refl _, Dv.nil _⟩
  ·rw [if_neg hb]
   obtain ⟨q1, q2, q3, q4⟩ := QnQ (p := a) tb hb
   have hp := List.length_pos_iff.2 hb
   obtain ⟨⟨u, v, i1⟩, i2, i3⟩ := gc_bez n b (mnP (remP a b)) tb (QgK _) (by have := Qji q4; omega)
   generalize gcP n b (mnP (remP a b)) = g at *
   have i4 : Dv g (remP a b) := i3.trans (mn_dv q4)
   obtain ⟨s, hs⟩ := dv_mn (l := remP a b)
   refine ⟨⟨muP v s, sbP u (muP (muP v s) (quoP a b)), fun x => ?_⟩, i2.comb i4 (u := quoP a b) (v := [1]) (fun x => by rw [QsN, Rat.one_mul]; exact q1 x), i2⟩
   rw [i1, hs, ev_sb, QjH, QjH, QjH, q1]
   generalize evR u x = a1; generalize evR v x = a2; generalize evR s x = a3; generalize evR b x = a4; generalize evR (quoP a b) x = a5; generalize evR (remP a b) x = a6
   grind
theorem trm_gcP : ∀ (n : Nat) (a b : List Rat), Trm a → Trm b → Trm (gcP n a b)
 | 0, _, _, ha, _ => ha
 | n + 1, a, b, ha, hb => by
  rw [gcP]
  split
  ·exact ha
  ·exact trm_gcP n b _ hb (QgK _)
section
variable {p q : List Rat}
theorem gcd_bez (tp : Trm p) (tq : Trm q) : (∃ u v, ∀ x, evR (gcdP p q) x = evR u x * evR p x + evR v x * evR q x) ∧ Dv (gcdP p q) p ∧ Dv (gcdP p q) q := by
 obtain ⟨⟨u, v, h1⟩, h2, h3⟩ := gc_bez (q.length + 1) (mnP p) (mnP q) (QgK _) (QgK _) (by have := Qji tq; omega)
 obtain ⟨s, hs⟩ := dv_mn (l := p)
 obtain ⟨t, ht⟩ := dv_mn (l := q)
 refine ⟨⟨muP u s, muP v t, fun x => ?_⟩, h2.trans (mn_dv tp), h3.trans (mn_dv tq)⟩
 show evR (gcP _ _ _) x = _
 rw [h1, hs, ht, QjH, QjH, Rat.mul_assoc, Rat.mul_assoc]
theorem Qof : Trm (gcdP p q) := trm_gcP _ _ _ (QgK _) (QgK _)
theorem gcd_ne (tp : Trm p) (tq : Trm q) (h : p ≠ [] ∨ q ≠ []) : gcdP p q ≠ [] := fun h0 => by
 obtain ⟨_, k2, k3⟩ := gcd_bez tp tq
 rw [h0] at k2 k3
 rcases h with h | h
 ·exact h (dv_zero tp k2)
 ·exact h (dv_zero tq k3)
theorem trm_quo (a b : List Rat) : Trm (quoP a b) := by
 unfold quoP
 split
 ·exact Qdc
 ·exact QbO _
end

/-! ### The part without squares -/
section
variable {p : List Rat}
theorem frP_parts (tp : Trm p) (np : p ≠ []) : gcdP p (deP p) ≠ [] ∧ (∀ x, evR p x = evR (quoP p (gcdP p (deP p))) x * evR (gcdP p (deP p)) x) ∧ quoP p (gcdP p (deP p)) ≠ [] := by
 have ng := gcd_ne tp (Qlw p) (.inl np)
 obtain ⟨_, k2, _⟩ := gcd_bez tp (Qlw p)
 have e := (rem_of_dv Qof ng k2).2
 exact ⟨ng, e, fun h0 => np (ev0_nil tp fun x => by rw [e, h0, Qa7, Rat.zero_mul])⟩
theorem frP_ne (tp : Trm p) (np : p ≠ []) : frP p ≠ [] := mn_ne (trm_quo _ _) (frP_parts tp np).2.2
theorem trm_fr (p : List Rat) : Trm (frP p) := QgK _
theorem half2 : (1 / 2 : Rat) * 2 = 1 := by decide +kernel
end
end Go.AM

/- Chains of polynomials of at most the second degree; plain. -/
namespace Go.AM
open Go Go.RowKit
theorem trm1 {a : Rat} (h : a ≠ 0) : Trm [a] := fun n hn => by
 obtain rfl : n = 0 := by simp at hn; omega
 exact h
theorem trm2 {a b : Rat} (h : b ≠ 0) : Trm [a, b] := fun n hn => by
 obtain rfl : n = 1 := by simp at hn; omega
 exact h
theorem trm3 {a b c : Rat} (h : c ≠ 0) : Trm [a, b, c] := fun n hn => by
 obtain rfl : n = 2 := by simp at hn; omega
 exact h
theorem ev_1 (a x : Rat) : evR [a] x = a := by simp only [evR, List.foldr]; grind
theorem ev_2 (a b x : Rat) : evR [a, b] x = a + b * x := by simp only [evR, List.foldr]; grind
theorem ev_3 (a b c x : Rat) : evR [a, b, c] x = a + b * x + c * (x * x) := by simp only [evR, List.foldr]; grind
theorem Qic {p q a r : List Rat} (tq : Trm q) (hq : q ≠ []) (ta : Trm a) (tr : Trm r) (hr : r.length ≤ q.length - 1) (h : ∀ x, evR p x = evR a x * evR q x + evR r x) : quoP p q = a ∧ remP p q = r := by
 obtain ⟨h1, h2, h3, h4⟩ := QnQ (p := p) tq hq
 exact Qsr tq hq h3 ta h4 tr h2 hr fun x => by rw [← h1, h]
theorem Qka {p : List Rat} (tp : Trm p) : quoP p [1] = p ∧ remP p [1] = [] := Qic (trm1 (by decide)) (by simp) tp Qdc (by simp) fun x => by rw [ev_1, Qa7]; grind
theorem Qhu {p : List Rat} (tp : Trm p) {u : Rat} (hu : u ≠ 0) : remP p [u] = [] := by
 have e : ∀ x, evR (scP p u⁻¹) x * evR [u] x = evR p x := fun x => by
  rw [ev_sc, ev_1, Rat.mul_assoc, Rat.inv_mul_cancel _ hu, Rat.mul_one]
 exact (Qic (a := scP p u⁻¹) (trm1 hu) (by simp) (Qsj _ _) Qdc (by simp) fun x => by rw [e, Qa7, Rat.add_zero]).2
theorem Qne (a : Rat) : scP [] a = [] := rfl
theorem QmL : mnP [] = [] := if_pos rfl
theorem mn_1 {a : Rat} (h : a ≠ 0) : mnP [a] = [1] := by
 refine Qh3 (QgK _) (trm1 (by decide)) fun k => ?_
 rw [Qoa (by simp)]
 match k with
 | 0 => simp only [List.getD_cons_zero, List.length_singleton, Nat.sub_self]; rw [Rat.div_def, Rat.one_mul, Rat.mul_inv_cancel _ h]
 | k + 1 => simp
theorem mn_2 {a b : Rat} (h : b ≠ 0) : mnP [a, b] = [a / b, 1] := by
 refine Qh3 (QgK _) (trm2 (by decide)) fun k => ?_
 rw [Qoa (by simp)]
 have e : [a, b].getD ([a, b].length - 1) 0 = b := rfl
 rw [e]
 match k with
 | 0 => simp only [List.getD_cons_zero]; rw [Rat.div_def, Rat.div_def, Rat.one_mul]
 | 1 => simp only [List.getD_cons_zero, List.getD_cons_succ]; rw [Rat.div_def, Rat.one_mul, Rat.mul_inv_cancel _ h]
 | k + 2 => simp
theorem mn_3 {a b c : Rat} (h : c ≠ 0) : mnP [a, b, c] = [a / c, b / c, 1] := by
 refine Qh3 (QgK _) (trm3 (by decide)) fun k => ?_
 rw [Qoa (by simp)]
 have e : [a, b, c].getD ([a, b, c].length - 1) 0 = c := rfl
 rw [e]
 match k with
 | 0 => simp only [List.getD_cons_zero]; rw [Rat.div_def, Rat.div_def, Rat.one_mul]
 | 1 => simp only [List.getD_cons_zero, List.getD_cons_succ]; rw [Rat.div_def, Rat.div_def, Rat.one_mul]
 | 2 => simp only [List.getD_cons_zero, List.getD_cons_succ]; rw [Rat.div_def, Rat.one_mul, Rat.mul_inv_cancel _ h]
 | k + 3 => simp
theorem de_1 (a : Rat) : deP [a] = [] := rfl
theorem QnN : (2 : Rat) ≠ 0 := by decide
theorem half_ne : (1 / 2 : Rat) ≠ 0 := by decide +kernel
theorem de_2 {a b : Rat} (h : b ≠ 0) : deP [a, b] = [b] := by
 refine Qh3 (Qlw _) (trm1 h) fun k => ?_
 rw [QnP]
 match k with
 | 0 =>
  simp only [List.getD_cons_zero, List.getD_cons_succ]
  rw [show (((0 + 1 : Nat) : Int) : Rat) = 1 from rfl, Rat.mul_one]
 | k + 1 => simp
theorem de_3 {a b c : Rat} (h : c ≠ 0) : deP [a, b, c] = [b, c * 2] := by
 refine Qh3 (Qlw _) (trm2 (fun e => (Rat.mul_eq_zero.1 e).elim h QnN)) fun k => ?_
 rw [QnP]
 match k with
 | 0 =>
  simp only [List.getD_cons_zero, List.getD_cons_succ]
  rw [show (((0 + 1 : Nat) : Int) : Rat) = 1 from rfl, Rat.mul_one]
 | 1 => rfl
 | k + 2 => simp
/-! Constants and lines -/
theorem QlZ (n : Nat) (a : List Rat) : gcP (n + 1) a [] = a := by rw [gcP, if_pos rfl]
theorem QmN (n : Nat) (a : List Rat) {b : List Rat} (h : b ≠ []) : gcP (n + 1) a b = gcP n b (mnP (remP a b)) := by rw [gcP, if_neg h]
theorem gcd_1 {u : Rat} (h : u ≠ 0) : gcdP [u] (deP [u]) = [1] := by
 unfold gcdP
 rw [de_1, mn_1 h, QmL]; rfl
theorem fr_1 {u : Rat} (h : u ≠ 0) : frP [u] = [1] := by
 unfold frP
 rw [gcd_1 h, (Qka (trm1 h)).1, mn_1 h]
theorem ch_1 {u : Rat} (h : u ≠ 0) : chP [u] = [[1]] := by
 unfold chP
 rw [if_neg (by simp), fr_1 h, de_1]; rfl
theorem gcd_2 {u v : Rat} (h : v ≠ 0) : gcdP [u, v] (deP [u, v]) = [1] := by
 unfold gcdP
 rw [de_2 h, mn_2 h, mn_1 h]
 show gcP 2 [u / v, 1] [1] = [1]
 rw [QmN _ _ (by simp), Qhu (trm2 (by decide)) (by decide), QmL, QlZ]
theorem fr_2 {u v : Rat} (h : v ≠ 0) : frP [u, v] = [u / v, 1] := by
 unfold frP
 rw [gcd_2 h, (Qka (trm2 h)).1, mn_2 h]
theorem ch_2 {u v : Rat} (h : v ≠ 0) : chP [u, v] = [[u / v, 1], [1]] := by
 unfold chP
 rw [if_neg (by simp), fr_2 h, de_2 (by decide)]
 show [u / v, 1] :: chL 2 [u / v, 1] [1] = _
 rw [chL, if_neg (by simp), Qhu (trm2 (by decide)) (by decide), Qne, chL, if_pos rfl]
/-! Squares -/
theorem Qno (x : Rat) : 0 ≤ x * x := by
 rcases Rat.le_total (a := 0) (b := x) with h | h
 ·exact Rat.mul_nonneg h h
 ·have := Rat.mul_nonneg (a := -x) (b := -x) (by grind) (by grind)
  grind
def qz (b c : Rat) : Rat := -b / (c * 2)
def qw (a b c : Rat) : Rat := a / c - qz b c * qz b c
theorem c2_ne {c : Rat} (hc : c ≠ 0) : c * 2 ≠ 0 := fun e => (Rat.mul_eq_zero.1 e).elim hc QnN
theorem qz_b {b c : Rat} (hc : c ≠ 0) : b / c = -(2 * qz b c) := by
 have h1 : qz b c * (c * 2) = -b := by unfold qz; exact Rat.div_mul_cancel (c2_ne hc)
 have h2 : b / c * c = b := Rat.div_mul_cancel hc
 have h3 : (b / c + 2 * qz b c) * c = 0 := by grind
 rcases Rat.mul_eq_zero.1 h3 with h3 | h3
 ·grind
 ·exact absurd h3 hc
theorem qz_d {b c : Rat} : b / (c * 2) = -(qz b c) := by unfold qz; rw [Rat.div_def, Rat.div_def]; grind
theorem QiO {a b c : Rat} (hc : c ≠ 0) (x : Rat) : evR [a / c, b / c, 1] x = (x - qz b c) * (x - qz b c) + qw a b c := by
 rw [ev_3, qz_b (b := b) hc]
 unfold qw
 grind
theorem m2_rem {a b c : Rat} (hc : c ≠ 0) (hw : qw a b c ≠ 0) : remP [a / c, b / c, 1] [-(qz b c), 1] = [qw a b c] :=
 (Qic (a := [-(qz b c), 1]) (trm2 (by decide)) (by simp) (trm2 (by decide)) (trm1 hw) (by simp) fun x => by rw [QiO hc, ev_2, ev_1]; grind).2
theorem m2_rem0 {a b c : Rat} (hc : c ≠ 0) (hw : qw a b c = 0) : remP [a / c, b / c, 1] [-(qz b c), 1] = [] :=
 (Qic (a := [-(qz b c), 1]) (trm2 (by decide)) (by simp) (trm2 (by decide)) Qdc (by simp) fun x => by rw [QiO hc, ev_2, Qa7, hw]; grind).2
theorem gcd_3 {a b c : Rat} (hc : c ≠ 0) (hw : qw a b c ≠ 0) : gcdP [a, b, c] (deP [a, b, c]) = [1] := by
 unfold gcdP
 rw [de_3 hc, mn_3 hc, mn_2 (c2_ne hc), qz_d]
 show gcP 3 _ _ = _
 rw [QmN _ _ (by simp), m2_rem hc hw, mn_1 hw, QmN _ _ (by simp), Qhu (trm2 (by decide)) (by decide), QmL, QlZ]
theorem gcd_30 {a b c : Rat} (hc : c ≠ 0) (hw : qw a b c = 0) : gcdP [a, b, c] (deP [a, b, c]) = [-(qz b c), 1] := by
 unfold gcdP
 rw [de_3 hc, mn_3 hc, mn_2 (c2_ne hc), qz_d]
 show gcP 3 _ _ = _
 rw [QmN _ _ (by simp), m2_rem0 hc hw, QmL, QlZ]
theorem fr_3 {a b c : Rat} (hc : c ≠ 0) (hw : qw a b c ≠ 0) : frP [a, b, c] = [a / c, b / c, 1] := by
 unfold frP
 rw [gcd_3 hc hw, (Qka (trm3 hc)).1, mn_3 hc]
theorem fr_30 {a b c : Rat} (hc : c ≠ 0) (hw : qw a b c = 0) : frP [a, b, c] = [-(qz b c), 1] := by
 unfold frP
 rw [gcd_30 hc hw]
 have : quoP [a, b, c] [-(qz b c), 1] = [-(qz b c) * c, c] := by
  refine (Qic (r := []) (trm2 (by decide)) (by simp) (trm2 hc) Qdc (by simp) fun x => ?_).1
  have h := QiO (a := a) (b := b) hc x
  rw [hw, ev_3] at h
  have h1 : a / c * c = a := Rat.div_mul_cancel hc
  have h2 : b / c * c = b := Rat.div_mul_cancel hc
  rw [ev_3, ev_2, ev_2, Qa7]
  have : a + b * x + c * (x * x) = (a / c + b / c * x + 1 * (x * x)) * c := by grind
  rw [this, h]
  grind
 rw [this, mn_2 hc]
 congr 1
 have : -(qz b c) * c / c = -(qz b c) := by rw [Rat.div_def, Rat.mul_assoc, Rat.mul_inv_cancel _ hc, Rat.mul_one]
 exact this
theorem de_m2 {a b c : Rat} (hc : c ≠ 0) : deP [a / c, b / c, 1] = [-(2 * qz b c), 2] := by
 rw [de_3 (by decide), qz_b (b := b) hc, Rat.one_mul]
theorem m2_rem2 {a b c : Rat} (hc : c ≠ 0) (hw : qw a b c ≠ 0) : remP [a / c, b / c, 1] [-(2 * qz b c), 2] = [qw a b c] :=
 (Qic (a := [-(qz b c) * (1 / 2), 1 / 2]) (trm2 (by decide)) (by simp) (trm2 half_ne) (trm1 hw) (by simp) fun x => by
  rw [QiO hc, ev_2, ev_2, ev_1]
  have h : (1 / 2 : Rat) * 2 = 1 := half2
  generalize (1 / 2 : Rat) = t at *
  grind).2
theorem sc_m1 {u : Rat} (h : u ≠ 0) : scP [u] (-1) = [-u] := by
 refine Qh3 (Qsj _ _) (trm1 (fun e => h (by grind))) fun k => ?_
 rw [sc_getD]
 match k with
 | 0 => simp only [List.getD_cons_zero]; grind
 | k + 1 => simp
theorem ch_3 {a b c : Rat} (hc : c ≠ 0) (hw : qw a b c ≠ 0) : chP [a, b, c] = [[a / c, b / c, 1], [-(2 * qz b c), 2], [-(qw a b c)]] := by
 unfold chP
 have hm : -(qw a b c) ≠ 0 := fun e => hw (by grind)
 rw [if_neg (by simp), fr_3 hc hw, de_m2 hc]
 show [a / c, b / c, 1] :: chL 3 _ _ = _
 rw [chL, if_neg (by simp), m2_rem2 hc hw, sc_m1 hw, chL, if_neg (by simp), Qhu (trm2 (by decide)) hm, Qne, chL, if_pos rfl]
theorem ch_30 {a b c : Rat} (hc : c ≠ 0) (hw : qw a b c = 0) : chP [a, b, c] = [[-(qz b c), 1], [1]] := by
 unfold chP
 rw [if_neg (by simp), fr_30 hc hw, de_2 (by decide)]
 show [-(qz b c), 1] :: chL 3 _ _ = _
 rw [chL, if_neg (by simp), Qhu (trm2 (by decide)) (by decide), Qne, chL, if_pos rfl]
/-! Changes -/
def chS (s : List Int) : Nat := chN (s.filter fun s => decide (s ≠ 0)) (s.filter fun s => decide (s ≠ 0)).length
theorem Qs8 (ps : List (List Rat)) (x : Rat) : chg ps x = chS (ps.map fun p => sgn1 p x) := rfl
theorem QhV {p : List Rat} {x : Rat} (h : 0 < evR p x) : sgn1 p x = 1 := by
 have h1 := sign_gt (x := evR p x)
 rw [decide_eq_true h, decide_eq_true_iff] at h1
 unfold sgn1
 rcases Int.lt_trichotomy (evR p x).num 0 with k | k | k
 ·rw [Int.sign_eq_neg_one_of_neg k] at h1; omega
 ·rw [k] at h1; exact absurd h1 (by decide)
 ·exact Int.sign_eq_one_of_pos k
theorem Qkx {p : List Rat} {x : Rat} (h : evR p x < 0) : sgn1 p x = -1 := by
 have h1 := QfV (x := evR p x)
 rw [decide_eq_true h, decide_eq_true_iff] at h1
 unfold sgn1
 rcases Int.lt_trichotomy (evR p x).num 0 with k | k | k
 ·exact Int.sign_eq_neg_one_of_neg k
 ·rw [k] at h1; exact absurd h1 (by decide)
 ·rw [Int.sign_eq_one_of_pos k] at h1; omega
theorem Qmt {p : List Rat} {x : Rat} (h : evR p x = 0) : sgn1 p x = 0 := by unfold sgn1; rw [h]; rfl
theorem chg_con (x : Rat) : chg [[1]] x = 0 := by
 rw [Qs8]
 simp only [List.map_cons, List.map_nil]
 rw [QhV (by rw [ev_1]; decide)]
 rfl
theorem QpT (lo hi : Rat) : cnt [[1]] lo hi = 0 := by
 unfold cnt
 rw [chg_con, chg_con]
 split <;> rfl
theorem chg_lin (z x : Rat) : chg [[-z, 1], [1]] x = if x < z then 1 else 0 := by
 rw [Qs8]
 simp only [List.map_cons, List.map_nil]
 rw [QhV (p := [1]) (by rw [ev_1]; decide)]
 by_cases h : x < z
 ·rw [Qkx (by rw [ev_2]; grind), if_pos h]; rfl
 ·rw [if_neg h]
  by_cases h2 : x = z
  ·rw [Qmt (by rw [ev_2]; grind)]; rfl
  ·rw [QhV (by rw [ev_2]; grind)]; rfl
theorem Qqy (z : Rat) {lo hi : Rat} (h : lo < hi) : cnt [[-z, 1], [1]] lo hi = if lo < z ∧ z ≤ hi then 1 else 0 := by
 unfold cnt
 rw [if_neg (Rat.not_le.2 h), chg_lin, chg_lin]
 by_cases h1 : lo < z
 ·by_cases h2 : z ≤ hi
  ·rw [if_pos h1, if_neg (Rat.not_lt.2 h2), if_pos ⟨h1, h2⟩]; rfl
  ·rw [if_pos h1, if_pos (Rat.not_le.1 h2), if_neg (fun h => h2 h.2)]; rfl
 ·have h3 : ¬ hi < z := fun h2 => h1 (by grind)
  rw [if_neg h1, if_neg h3, if_neg (fun h => h1 h.1)]; rfl
theorem cnt_sq {a b c : Rat} (hc : c ≠ 0) {lo hi : Rat} (h1 : lo < qz b c) (h2 : qz b c ≤ hi) :
    (0 < qw a b c → cnt [[a / c, b / c, 1], [-(2 * qz b c), 2], [-(qw a b c)]] lo hi = 0) ∧
    (qw a b c < 0 → (0 < cnt [[a / c, b / c, 1], [-(2 * qz b c), 2], [-(qw a b c)]] lo hi ∧ (0 < evR [a / c, b / c, 1] lo ∨ 0 ≤ evR [a / c, b / c, 1] hi)) ∨
      (cnt [[a / c, b / c, 1], [-(2 * qz b c), 2], [-(qw a b c)]] lo hi = 0 ∧ evR [a / c, b / c, 1] hi < 0)) := by
  have hlt : lo < hi := by grind
  have e1 : ∀ x, evR [-(2 * qz b c), 2] x = 2 * (x - qz b c) := fun x => by rw [ev_2]; grind
  have l2 : sgn1 [-(2 * qz b c), 2] lo = -1 := Qkx (by rw [e1]; grind)
  unfold cnt
  rw [if_neg (Rat.not_le.2 hlt), Qs8, Qs8]
  simp only [List.map_cons, List.map_nil]
  rw [l2]
  constructor
  · intro hw
    have p1 : ∀ x, sgn1 [a / c, b / c, 1] x = 1 := fun x => QhV (by rw [QiO hc]; have := Qno (x - qz b c); grind)
    have p3 : ∀ x, sgn1 [-(qw a b c)] x = -1 := fun x => Qkx (by rw [ev_1]; grind)
    rw [p1, p1, p3, p3]
    by_cases h3 : qz b c = hi
    · rw [Qmt (p := [-(2 * qz b c), 2]) (by rw [e1]; grind)]; rfl
    · rw [QhV (p := [-(2 * qz b c), 2]) (by rw [e1]; grind)]; rfl
  · intro hw
    have p3 : ∀ x, sgn1 [-(qw a b c)] x = 1 := fun x => QhV (by rw [ev_1]; grind)
    rw [p3, p3]
    by_cases h3 : qz b c = hi
    · have hv : evR [a / c, b / c, 1] hi < 0 := by rw [QiO hc, ← h3]; grind
      rw [Qmt (p := [-(2 * qz b c), 2]) (by rw [e1]; grind), Qkx hv]
      by_cases k : 0 < evR [a / c, b / c, 1] lo
      · rw [QhV k]; exact .inl ⟨by decide, .inl k⟩
      · by_cases k2 : evR [a / c, b / c, 1] lo = 0
        · rw [Qmt k2]; exact .inr ⟨by decide, hv⟩
        · rw [Qkx (by grind)]; exact .inr ⟨by decide, hv⟩
    · rw [QhV (p := [-(2 * qz b c), 2]) (by rw [e1]; grind)]
      by_cases k3 : evR [a / c, b / c, 1] hi < 0
      · rw [Qkx k3]
        by_cases k : 0 < evR [a / c, b / c, 1] lo
        · rw [QhV k]; exact .inl ⟨by decide, .inl k⟩
        · by_cases k2 : evR [a / c, b / c, 1] lo = 0
          · rw [Qmt k2]; exact .inr ⟨by decide, k3⟩
          · rw [Qkx (by grind)]; exact .inr ⟨by decide, k3⟩
      · left
        have k4 : 0 ≤ evR [a / c, b / c, 1] hi := Rat.not_lt.1 k3
        refine ⟨?_, .inr k4⟩
        have : sgn1 [a / c, b / c, 1] hi = 1 ∨ sgn1 [a / c, b / c, 1] hi = 0 := by
          by_cases k5 : evR [a / c, b / c, 1] hi = 0
          · exact .inr (Qmt k5)
          · exact .inl (QhV (by grind))
        have t : sgn1 [a / c, b / c, 1] lo = 1 ∨ sgn1 [a / c, b / c, 1] lo = 0 ∨ sgn1 [a / c, b / c, 1] lo = -1 := by
          by_cases k : 0 < evR [a / c, b / c, 1] lo
          · exact .inl (QhV k)
          · by_cases k2 : evR [a / c, b / c, 1] lo = 0
            · exact .inr (.inl (Qmt k2))
            · exact .inr (.inr (Qkx (by grind)))
        rcases this with e | e <;> rcases t with f | f | f <;> rw [e, f] <;> decide
end Go.AM

/- ref07.Free, Chain at polynomials of at most the second degree: sizes. Halving. -/
namespace Go.AM
open Go Go.RowKit
theorem Qoq {K : Nat} : ∀ {l : List Rat}, SzL K l → HL (l.length * K) (l.length * K) l
 | [], _ => HL.nil _ _
 | a :: l, h => by
  obtain ⟨D, h1, h2, h3⟩ := Qoq (l := l) fun q hq => h q (List.mem_cons_of_mem _ hq)
  obtain ⟨E, k1, k2, k3⟩ := Qn2 (h a (List.mem_cons_self ..))
  have e : (a :: l).length * K = K + l.length * K := by rw [List.length_cons, Nat.succ_mul]; omega
  rw [e]
  refine ⟨E * D, Nat.mul_pos k1 h1, Qc4 k2 h2, fun q hq => ?_⟩
  rcases List.mem_cons.1 hq with rfl | hq
  ·exact (k3.lift D).le (Qc4 (Nat.le_refl _) h2)
  ·exact ((h3 q hq).lift' E).le (Qc4 k2 (Nat.le_refl _))
theorem hl3 {K : Nat} {l : List Rat} (h : SzL K l) (hl : l.length ≤ 3) : HL (3 * K) (3 * K) l :=
 (Qoq h).mono (Nat.mul_le_mul_right _ hl) (Nat.mul_le_mul_right _ hl)
theorem hl21 {l : List Rat} (h : SzL 7000 l) (hl : l.length ≤ 3) : HL 21000 21000 l := by
 obtain ⟨K, hK⟩ : ∃ K, K = 7000 := ⟨_, rfl⟩
 rw [← hK] at h
 have := hl3 h hl
 exact this.mono (by omega) (by omega)
theorem dv_ok {a b : List Rat} (ha : SzL 7000 a) (hb : SzL 7000 b) (na : a.length ≤ 3) (nb : b.length ≤ 3) (tb : Trm b) : dvG 800000 b (dvN a b) a ∧ HL 800000 800000 (quoP a b) ∧ SzL 800000 (remP a b) := by
 have hm : dvN a b ≤ 4 := by unfold dvN; omega
 have h1 : dvN a b * 21000 ≤ 4 * 21000 := Nat.mul_le_mul_right _ hm
 have h2 : dvN a b * (21000 + 1) ≤ 4 * (21000 + 1) := Nat.mul_le_mul_right _ hm
 have Ha := hl21 ha na
 have Hb := hl21 hb nb
 obtain ⟨x, y, z⟩ := QrC (K := 800000) Ha Hb tb (by omega)
 exact ⟨x, z.mono (by omega) (by omega), y.sz.mono (by omega)⟩
theorem gc_ok {p : List Rat} (hp : SzL 1000 p) (tp : Trm p) (np : p.length ≤ 3) : gcG 140000 ((deP p).length + 1) (mnP p) (mnP (deP p)) ∧ gcH 140000 ((deP p).length + 1) (mnP p) (mnP (deP p)) ∧ HL 140000 140000 (gcdP p (deP p)) := by
 have l1 := Qji tp
 have l2 := Qji (Qlw p)
 have l3 := de_lenE tp
 have H := hl3 hp np
 have Hd := H.de (by have : BB = 1000000000 := rfl; omega)
 refine gc_pot (K := 140000) ((deP p).length + 1) 3001 (mnP p) (mnP (deP p)) ((mn_HL H tp).mono (by omega) (by omega)) ((mn_HL Hd (Qlw p)).mono (by omega) (by omega)) (QgK _) (by omega) ?_
 have h1 : dvN (mnP p) (mnP (deP p)) + 1 ≤ 5 := by unfold dvN; omega
 have h2 : 3 ^ (mnP (deP p)).length ≤ 3 ^ 2 := Nat.pow_le_pow_right (by omega) (by omega)
 exact Nat.le_trans (Nat.mul_le_mul (Nat.mul_le_mul_left _ h1) h2) (by decide)
theorem QpX {p : List Rat} (np : p.length ≤ 3) : (gcdP p (deP p)).length ≤ 3 := by
 have go : ∀ (n : Nat) (a b : List Rat), a.length ≤ 3 → b.length ≤ 3 → (gcP n a b).length ≤ 3 := by
  intro n
  induction n with
  | zero => intro a b ha hb; exact ha
  | succ n ih =>
   intro a b ha hb
   rw [gcP]
   split
   ·exact ha
   ·exact ih b _ hb (Nat.le_trans (Qgb _) (Nat.le_trans (QhH a b) ha))
 exact go _ _ _ (Nat.le_trans (Qgb p) np) (Nat.le_trans (Qgb _) (Nat.le_trans (QmS p) (by omega)))
theorem Qdp {K : Nat} {a : Rat} (h : sz a ≤ K) : SzL K [a] := fun q hq => by rw [List.mem_singleton.1 hq]; exact h
theorem Qg2 {K : Nat} {a b : Rat} (h : sz a ≤ K) (h2 : sz b ≤ K) : SzL K [a, b] := fun q hq => by
 rcases List.mem_cons.1 hq with rfl | hq
 ·exact h
 ·exact Qdp h2 q hq
theorem QqE {K : Nat} {a b c : Rat} (h : sz a ≤ K) (h2 : sz b ≤ K) (h3 : sz c ≤ K) : SzL K [a, b, c] := fun q hq => by
 rcases List.mem_cons.1 hq with rfl | hq
 ·exact h
 ·exact Qg2 h2 h3 q hq
theorem qz_sz {b c : Rat} {k : Nat} (hb : sz b ≤ k) (hc : sz c ≤ k) : sz (qz b c) ≤ 2 * k + 3 := by
 unfold qz
 have h1 := QfA (a := -b) (b := c * 2)
 have h2 := Qez (a := c) (b := 2)
 have h3 := QpL b
 have h4 := sz_two
 omega
theorem qw_sz {a b c : Rat} {k : Nat} (ha : sz a ≤ k) (hb : sz b ≤ k) (hc : sz c ≤ k) : sz (qw a b c) ≤ 6 * k + 7 := by
 unfold qw
 have h1 := QfA (a := a) (b := c)
 have h2 := Qez (a := qz b c) (b := qz b c)
 have h3 := qz_sz hb hc
 have h4 := sz_sub (a := a / c) (b := qz b c * qz b c)
 omega
theorem in2 {a b : Rat} {K : Nat} (h : SzL K [a, b]) : sz a ≤ K ∧ sz b ≤ K := ⟨h a (List.mem_cons_self ..), h b (by simp)⟩
theorem in3 {a b c : Rat} {K : Nat} (h : SzL K [a, b, c]) : sz a ≤ K ∧ sz b ≤ K ∧ sz c ≤ K := ⟨h a (List.mem_cons_self ..), h b (by simp), h c (by simp)⟩
theorem QnO (K n : Nat) (a : List Rat) : ChOk K n a [] := by cases n with
 | zero => exact rfl
 | succ n => exact .inl rfl
theorem Qos {n : Nat} {a b : List Rat} (ha : SzL 7000 a) (hb : SzL 7000 b) (na : a.length ≤ 3) (nb : b.length ≤ 3) (tb : Trm b) (h : ChOk 800000 n b (scP (remP a b) (-1))) : ChOk 800000 (n + 1) a b := by
 obtain ⟨h1, _, h3⟩ := dv_ok ha hb na nb tb
 exact .inr ⟨tb, by omega, (hl21 hb nb).mono (by omega) (by omega), hb.mono (by omega), h1, h3, h⟩
theorem neg_ne {u : Rat} (h : u ≠ 0) : -u ≠ 0 := fun e => h (by grind)
theorem sz_n {u : Rat} {K : Nat} (h : sz u ≤ K) : sz (-u) ≤ K := by rw [QpL]; exact h
theorem Qob {p : List Rat} (hp : SzL 1000 p) (tp : Trm p) (np : p.length ≤ 3) (hp0 : p ≠ []) : SzL 7000 (frP p) ∧ (frP p).length ≤ 3 ∧ ChOk 800000 p.length (frP p) (deP (frP p)) ∧ ∀ q ∈ chP p, SzL 7000 q ∧ q.length ≤ 1000 := by
 have z1 : sz 1 ≤ 7000 := by rw [QcO]; omega
 match p, np, hp0, hp, tp with
 | [u], _, _, hp, tp =>
  have hu : u ≠ 0 := tp 0 rfl
  rw [fr_1 hu, ch_1 hu, de_1]
  refine ⟨Qdp z1, by simp, QnO _ _ _, fun q hq => ?_⟩
  rw [List.mem_singleton.1 hq]; exact ⟨Qdp z1, by simp⟩
 | [u, v], _, _, hp, tp =>
  have hv : v ≠ 0 := tp 1 rfl
  obtain ⟨k1, k2⟩ := in2 hp
  have k3 := QfA (a := u) (b := v)
  rw [fr_2 hv, ch_2 hv, de_2 (by decide)]
  have s1 : SzL 7000 [u / v, 1] := Qg2 (by omega) z1
  refine ⟨s1, by simp, Qos s1 (Qdp z1) (by simp) (by simp) (trm1 (by decide)) (by rw [Qhu (trm2 (by decide)) (by decide), Qne]; exact QnO _ _ _), fun q hq => ?_⟩
  rcases List.mem_cons.1 hq with rfl | hq
  ·exact ⟨s1, by simp⟩
  ·rw [List.mem_singleton.1 hq]; exact ⟨Qdp z1, by simp⟩
 | [a, b, c], _, _, hp, tp =>
  have hc : c ≠ 0 := tp 2 rfl
  obtain ⟨k1, k2, k3⟩ := in3 hp
  have k4 := qz_sz k2 k3
  have k5 := qw_sz k1 k2 k3
  by_cases hw : qw a b c = 0
  ·rw [fr_30 hc hw, ch_30 hc hw, de_2 (by decide)]
   have s1 : SzL 7000 [-(qz b c), 1] := Qg2 (sz_n (by omega)) z1
   refine ⟨s1, by simp, Qos s1 (Qdp z1) (by simp) (by simp) (trm1 (by decide)) (by rw [Qhu (trm2 (by decide)) (by decide), Qne]; exact QnO _ _ _), fun q hq => ?_⟩
   rcases List.mem_cons.1 hq with rfl | hq
   ·exact ⟨s1, by simp⟩
   ·rw [List.mem_singleton.1 hq]; exact ⟨Qdp z1, by simp⟩
  ·rw [fr_3 hc hw, ch_3 hc hw, de_m2 hc]
   have k6 := QfA (a := a) (b := c)
   have k7 := QfA (a := b) (b := c)
   have k8 := Qez (a := 2) (b := qz b c)
   have k9 := sz_two
   have s1 : SzL 7000 [a / c, b / c, 1] := QqE (by omega) (by omega) z1
   have s2 : SzL 7000 [-(2 * qz b c), 2] := Qg2 (sz_n (by omega)) (by omega)
   have s3 : SzL 7000 [-(qw a b c)] := Qdp (sz_n (by omega))
   refine ⟨s1, by simp, Qos s1 s2 (by simp) (by simp) (trm2 QnN) (by
    rw [m2_rem2 hc hw, sc_m1 hw]
    exact Qos s2 s3 (by simp) (by simp) (trm1 (neg_ne hw)) (by rw [Qhu (trm2 QnN) (neg_ne hw), Qne]; exact QnO _ _ _)), fun q hq => ?_⟩
   rcases List.mem_cons.1 hq with rfl | hq
   ·exact ⟨s1, by simp⟩
   ·rcases List.mem_cons.1 hq with rfl | hq
    ·exact ⟨s2, by simp⟩
    ·rw [List.mem_singleton.1 hq]; exact ⟨s3, by simp⟩
/-! Halving -/
def hf : Rat := Rat.divInt 1 2
theorem Qpp : hf * 2 = 1 := by decide +kernel
theorem hf_pos : (0 : Rat) < hf := by decide +kernel
theorem hf_pow (n : Nat) : hf ^ n * (((2 ^ n : Nat) : Int) : Rat) = 1 := by
 induction n with
 | zero => rw [Rat.pow_zero, Rat.one_mul]; rfl
 | succ n ih =>
  have e : (((2 ^ (n + 1) : Nat) : Int) : Rat) = (((2 ^ n : Nat) : Int) : Rat) * 2 := by
   rw [Nat.pow_succ]; push_cast; rfl
  have h2 := Qpp
  rw [Rat.pow_succ, e]
  generalize hf ^ n = x at *
  generalize (((2 ^ n : Nat) : Int) : Rat) = y at *
  have : x * hf * (y * 2) = (x * y) * (hf * 2) := by grind
  rw [this, ih, h2, Rat.mul_one]
theorem QnZ (n : Nat) : (0 : Rat) < hf ^ n := by
 induction n with
 | zero => rw [Rat.pow_zero]; decide
 | succ n ih => rw [Rat.pow_succ]; exact Rat.mul_pos ih hf_pos
noncomputable def itH (ps : List (List Rat)) : Nat → Rat × Rat
 | 0 => (0, 1)
 | n + 1 => hal ps (itH ps n)
theorem Qpy {z : Rat} (h0 : 0 < z) (h1 : z ≤ 1) : ∀ n, ∃ j : Nat, j < 2 ^ n ∧ itH [[-z, 1], [1]] n = (((j : Int) : Rat) * hf ^ n, (((j + 1 : Nat) : Int) : Rat) * hf ^ n) ∧ ((j : Int) : Rat) * hf ^ n < z ∧ z ≤ (((j + 1 : Nat) : Int) : Rat) * hf ^ n
 | 0 => ⟨0, by simp, by rw [itH, Rat.pow_zero, Rat.mul_one, Rat.mul_one]; rfl, by rw [Rat.pow_zero]; simpa using h0, by rw [Rat.pow_zero]; simpa using h1⟩
 | n + 1 => by
  obtain ⟨j, hj, e, k1, k2⟩ := Qpy h0 h1 n
  have hm : mid (((j : Int) : Rat) * hf ^ n) ((((j + 1 : Nat) : Int) : Rat) * hf ^ n) = (((2 * j + 1 : Nat) : Int) : Rat) * hf ^ (n + 1) := by
   unfold mid
   rw [show Rat.divInt 1 2 = hf from rfl, Rat.pow_succ]
   push_cast
   grind
  have e1 : ((j : Int) : Rat) * hf ^ n = (((2 * j : Nat) : Int) : Rat) * hf ^ (n + 1) := by
   rw [Rat.pow_succ]
   have h2 := Qpp
   push_cast
   generalize hf ^ n = x
   grind
  have e2 : (((j + 1 : Nat) : Int) : Rat) * hf ^ n = (((2 * j + 1 + 1 : Nat) : Int) : Rat) * hf ^ (n + 1) := by
   rw [Rat.pow_succ]
   have h2 := Qpp
   push_cast
   generalize hf ^ n = x
   grind
  have hp := QnZ (n + 1)
  have hlt : ((j : Int) : Rat) * hf ^ n < (((2 * j + 1 : Nat) : Int) : Rat) * hf ^ (n + 1) := by
   rw [e1]
   push_cast
   grind
  rw [itH, e]
  unfold hal
  dsimp only
  rw [hm, Qqy z hlt]
  by_cases hz : z ≤ (((2 * j + 1 : Nat) : Int) : Rat) * hf ^ (n + 1)
  ·rw [if_pos (if_pos ⟨k1, hz⟩)]
   refine ⟨2 * j, by rw [Nat.pow_succ]; omega, by rw [e1], by rw [← e1]; exact k1, hz⟩
  ·rw [if_neg (by rw [if_neg (fun h => hz h.2)]; decide)]
   refine ⟨2 * j + 1, by rw [Nat.pow_succ]; omega, by rw [e2], Rat.not_le.1 hz, by rw [← e2]; exact k2⟩
theorem two_B (n : Nat) : 2 ^ n ≤ BB ^ (n / 29 + 1) := by
 have h1 : n ≤ 29 * (n / 29 + 1) := by omega
 refine Nat.le_trans (Nat.pow_le_pow_right (by omega) h1) ?_
 rw [Nat.pow_mul]
 exact Nat.pow_le_pow_left (by decide) _
theorem dy_sz {n j : Nat} (h : j ≤ 2 ^ n) : sz (((j : Int) : Rat) * hf ^ n) ≤ n / 29 + 2 := by
 have h2 := two_B n
 have H : Hq (2 ^ n) (2 ^ n) (((j : Int) : Rat) * hf ^ n) := ⟨(j : Int), by
  unfold cN
  rw [Rat.mul_assoc, hf_pow, Rat.mul_one], by omega⟩
 have := Hq.sz (Nat.pow_pos (by omega)) h2 h2 H
 omega
theorem it_sz {z : Rat} (h0 : 0 < z) (h1 : z ≤ 1) (n : Nat) : sz (itH [[-z, 1], [1]] n).1 ≤ n / 29 + 2 ∧ sz (itH [[-z, 1], [1]] n).2 ≤ n / 29 + 2 := by
 obtain ⟨j, hj, e, _, _⟩ := Qpy h0 h1 n
 rw [e]
 exact ⟨dy_sz (by omega), dy_sz (by omega)⟩
theorem it_mid {z : Rat} (h0 : 0 < z) (h1 : z ≤ 1) (n : Nat) : sz (mid (itH [[-z, 1], [1]] n).1 (itH [[-z, 1], [1]] n).2) ≤ n / 29 + 3 := by
 obtain ⟨j, hj, e, _, _⟩ := Qpy h0 h1 n
 have hm : mid (((j : Int) : Rat) * hf ^ n) ((((j + 1 : Nat) : Int) : Rat) * hf ^ n) = (((2 * j + 1 : Nat) : Int) : Rat) * hf ^ (n + 1) := by
  unfold mid
  rw [show Rat.divInt 1 2 = hf from rfl, Rat.pow_succ]
  push_cast
  grind
 rw [e]
 dsimp only
 rw [hm]
 have := dy_sz (n := n + 1) (j := 2 * j + 1) (by rw [Nat.pow_succ]; omega)
 omega
theorem it_small {w : Rat} {S n : Nat} (hw : w < 0) (hs : sz w ≤ S) (hn : 15 * S + 1 ≤ n) : hf ^ n * hf ^ n < -w := by
 obtain ⟨D, h1, h2, m, h3, _⟩ := Qn2 hs
 have hD : ((D : Int) : Rat) < (((2 ^ n : Nat) : Int) : Rat) * (((2 ^ n : Nat) : Int) : Rat) := by
  have h4 : BB ^ S < 2 ^ n * 2 ^ n := by
   have a1 : BB ^ S ≤ (4 ^ 15) ^ S := Nat.pow_le_pow_left (by decide) _
   have a2 : (4 ^ 15) ^ S < 4 ^ n := by
    rw [← Nat.pow_mul]
    exact Nat.pow_lt_pow_right (by omega) (by omega)
   have a3 : 2 ^ n * 2 ^ n = 4 ^ n := by rw [← Nat.mul_pow]
   omega
  have : D < 2 ^ n * 2 ^ n := by omega
  exact_mod_cast this
 have hm : m < 0 := by
  have hDp : (0 : Rat) < cN D := by unfold cN; exact_mod_cast h1
  have : w * cN D < 0 := by
   have := Rat.mul_pos (a := -w) (b := cN D) (by grind) hDp
   grind
  rw [h3] at this
  exact_mod_cast this
 have hm1 : (1 : Rat) ≤ -w * cN D := by
  have h5 : -w * cN D = -(m : Rat) := by rw [← h3]; grind
  rw [h5]
  have h6 : (1 : Int) ≤ -m := by omega
  have : ((1 : Int) : Rat) ≤ ((-m : Int) : Rat) := Rat.intCast_le_intCast.2 h6
  rw [Rat.intCast_neg] at this
  exact this
 refine Rat.not_le.1 fun hle => ?_
 have p := hf_pow n
 have hp := QnZ n
 unfold cN at hm1
 generalize ((D : Int) : Rat) = d at *
 generalize (((2 ^ n : Nat) : Int) : Rat) = T at *
 generalize hf ^ n = x at *
 have hd : 0 ≤ d := by
  refine Rat.not_lt.1 fun h => ?_
  have := Rat.mul_nonneg (a := -w) (b := -d) (by grind) (by grind)
  grind
 have k1 : 0 ≤ (x * x + w) * d := Rat.mul_nonneg (by grind) hd
 have k2 : 0 < x * x * (T * T - d) := Rat.mul_pos (Rat.mul_pos hp hp) (by grind)
 have k3 : x * x * (T * T) = (x * T) * (x * T) := by grind
 rw [p] at k3
 grind
end Go.AM

/- ref12.Shape and Sides. -/
namespace Go.AM
open Go Go.RowKit

theorem rep4_2 (a b : D) : rep 4 [a, b] = [a, b, a, b, a, b, a, b] := rfl
variable [Its]

end Go.AM

/- ref12.Sides. -/
namespace Go.AM
open Go Go.RowKit

def sqF : Nat → Nat → Nat
 | 0, _ => 0
 | f + 1, n => if f * f = n then f else sqF f n
def sqI (n : Int) : Int := (sqF 60 n.toNat : Nat)
def sdx (l : List Pt) (i : Nat) : Int := (nxP l i).1 - (l.getD i default).1
def sdy (l : List Pt) (i : Nat) : Int := (nxP l i).2 - (l.getD i default).2
def sdh (l : List Pt) (i : Nat) : Int := sqI (sdx l i * sdx l i + sdy l i * sdy l i)
def sdN (l : List Pt) (i : Nat) : Dr := nrP (sdx l i) (sdy l i) (sdh l i)
def tnD (d : Dr) : Dr := (-d.1, -d.2.1, d.2.2)
def NmD (d : Dr) : Prop := (-100 ≤ d.1 ∧ d.1 ≤ 100) ∧ (-100 ≤ d.2.1 ∧ d.2.1 ≤ 100) ∧ (1 ≤ d.2.2 ∧ d.2.2 ≤ 100)
theorem NmD.sm {d : Dr} (h : NmD d) : SmD d := ⟨⟨by have := h.1; omega, by have := h.1; omega⟩, ⟨by have := h.2.1; omega, by have := h.2.1; omega⟩, ⟨by have := h.2.2; omega, by have := h.2.2; omega⟩⟩
theorem NmD.tn {d : Dr} (h : NmD d) : NmD (tnD d) := by
 obtain ⟨h1, h2, h3⟩ := h
 unfold NmD tnD
 dsimp only
 omega
structure GdS (l : List Pt) : Prop where
 pos : 0 < l.length
 le : l.length ≤ 10
 sm : ∀ p ∈ l, SmP p
 sq : ∀ i, i < l.length → sdh l i * sdh l i = sdx l i * sdx l i + sdy l i * sdy l i ∧ 0 < sdh l i
 nm : ∀ i, i < l.length → NmD (sdN l i)
def chkS (l : List Pt) : Bool := (List.range l.length).all fun i => decide (sdh l i * sdh l i = sdx l i * sdx l i + sdy l i * sdy l i) && decide (0 < sdh l i) &&
 decide (-100 ≤ (sdN l i).1) && decide ((sdN l i).1 ≤ 100) && decide (-100 ≤ (sdN l i).2.1) && decide ((sdN l i).2.1 ≤ 100) && decide (1 ≤ (sdN l i).2.2) && decide ((sdN l i).2.2 ≤ 100)
def drA (a : List Pt) (n : Nat) : List Dr := (List.range n).map (sdN a)
def drB (b : List Pt) (n : Nat) : List Dr := (List.range n).map fun i => tnD (sdN b i)
def drs (a b : List Pt) : List Dr := drA a a.length ++ drB b b.length
def eqDr (a b : Dr) : Bool := (a.1 == b.1) && ((a.2.1 == b.2.1) && (a.2.2 == b.2.2))
def frI (ds : List Dr) (i : Nat) : Nat → Bool
 | 0 => true
 | k + 1 => frI ds i k && !(eqDr (ds.getD k default) (ds.getD i default))
def edP (a b : List Pt) (d : Dr) : Eg := (d, moP d a + moP (tnD d) b)
def sdO (a b : List Pt) (ds : List Dr) : Nat → List Eg
 | 0 => []
 | i + 1 => if frI ds i i then sdO a b ds i ++ [edP a b (ds.getD i default)] else sdO a b ds i
def sdP (a b : List Pt) : List Eg := sdO a b (drs a b) (drs a b).length
theorem eqD3 (a b c a' b' c' : Int) : eqD [.v (.int .i64 a), .v (.int .i64 b), .v (.int .i64 c)] [.v (.int .i64 a'), .v (.int .i64 b'), .v (.int .i64 c')] = some ((a == a') && ((b == b') && (c == c'))) := by simp [eqD]
theorem QnA (a : List Pt) (n : Nat) : (drA a n).length = n := by simp [drA]
theorem drB_len (a : List Pt) (n : Nat) : (drB a n).length = n := by simp [drB]
theorem drA_succ (a : List Pt) (n : Nat) : drA a (n + 1) = drA a n ++ [sdN a n] := by unfold drA; rw [List.range_succ, List.map_append]; rfl
theorem drB_succ (a : List Pt) (n : Nat) : drB a (n + 1) = drB a n ++ [tnD (sdN a n)] := by unfold drB; rw [List.range_succ, List.map_append]; rfl
theorem drs_len (a b : List Pt) : (drs a b).length = a.length + b.length := by unfold drs; rw [List.length_append, QnA, drB_len]
theorem drs_nm {a b : List Pt} (ha : GdS a) (hb : GdS b) : ∀ d ∈ drs a b, NmD d := by
 intro d hd
 rcases List.mem_append.1 hd with h | h
 ·obtain ⟨i, hi, rfl⟩ := List.mem_map.1 h
  exact ha.nm i (List.mem_range.1 hi)
 ·obtain ⟨i, hi, rfl⟩ := List.mem_map.1 h
  exact (hb.nm i (List.mem_range.1 hi)).tn
theorem sdO_len (a b : List Pt) (ds : List Dr) : ∀ i, (sdO a b ds i).length ≤ i
 | 0 => by simp [sdO]
 | i + 1 => by
  have := sdO_len a b ds i
  rw [sdO]
  split
  ·rw [List.length_append]; simp; omega
  ·omega
theorem mstN_b {d : Dr} {l : List Pt} (hd : NmD d) (hl : ∀ p ∈ l, SmP p) : ∀ i, -20000000000000000 ≤ mstN d l i ∧ mstN d l i ≤ 20000000000000000 := by
 have h : ∀ i, -20000000000000000 ≤ dotI d (l.getD i default) ∧ dotI d (l.getD i default) ≤ 20000000000000000 := by
  intro i
  have hp := Qho hl smP0 i
  have h1 := Qnr hd.sm.1 hp.1
  have h2 := Qnr hd.sm.2.1 hp.2
  unfold dotI
  omega
 intro i
 induction i with
 | zero => exact h 0
 | succ i ih =>
  have := h i
  rw [mstN]
  omega
def QjQ (da db : D) (L : List Dr) (i : Int) : St := mkS [(0, .d da), (1, .d db), (5, gAE 36 L), (6, ai i)] (gHE cD 3 36 L)
def QoX (da db : D) (L : List Dr) : St := mkS [(0, .d da), (1, .d db), (5, gAE 36 L)] (gHE cD 3 36 L)
def Qmd (da db : D) (L : List Dr) (i : Int) : St := mkS [(0, .d da), (1, .d db), (5, .own [36] L.length), (9, ai i)] [([36], arE cD 3 L.length L)]
def Qrm (da db : D) (L : List Dr) : St := mkS [(0, .d da), (1, .d db), (5, .own [36] L.length)] [([36], arE cD 3 L.length L)]
def QjV (da db : D) (L : List Dr) (O : List Eg) (i : Int) (f : Bool) (k : Int) : St := mkS [(0, .d da), (1, .d db), (5, .own [36] L.length), (12, gAE 104 O), (13, ai i), (14, ab f), (15, ai k)] (([36], arE cD 3 L.length L) :: gHE cG 4 104 O)
def QoN (da db : D) (L : List Dr) (O : List Eg) (i : Int) (f : Bool) : St := mkS [(0, .d da), (1, .d db), (5, .own [36] L.length), (12, gAE 104 O), (13, ai i), (14, ab f)] (([36], arE cD 3 L.length L) :: gHE cG 4 104 O)
def Qh5 (da db : D) (L : List Dr) (O : List Eg) (i : Int) : St := mkS [(0, .d da), (1, .d db), (5, .own [36] L.length), (12, gAE 104 O), (13, ai i)] (([36], arE cD 3 L.length L) :: gHE cG 4 104 O)
def QpI (O : List Eg) : St := mkS [(12, gAE 104 O)] (gHE cG 4 104 O)
theorem bnd3 {n : Nat} (h : n ≤ 1000) : ((n + 1) * 24 ≤ bound) = True := eq_true (by unfold bound; omega)
theorem bnd4 {n : Nat} (h : n ≤ 1000) : ((n + 1) * 32 ≤ bound) = True := eq_true (by unfold bound; omega)
theorem b24 : (24 ≤ bound) = True := eq_true (by unfold bound; omega)
theorem b24' : (1 * 24 ≤ bound) = True := eq_true (by unfold bound; omega)
theorem b32 : (32 ≤ bound) = True := eq_true (by unfold bound; omega)
theorem b32' : (1 * 32 ≤ bound) = True := eq_true (by unfold bound; omega)

theorem Ql5 (x : Obj) : QbV (hupd hp0 [104] x) [58] none = hupd hp0 [104] x := by
 funext j
 simp only [QbV, hupd]
 split
 ·rename_i h
  subst h
  simp [hp0]
 ·rfl

theorem sdP_ne {a b : List Pt} (ha : GdS a) : sdP a b ≠ [] := by
 unfold sdP
 have h1 : 0 < (drs a b).length := by rw [drs_len]; have := ha.pos; omega
 have key : ∀ n, 0 < n → sdO a b (drs a b) n ≠ [] := by
  intro n
  induction n with
  | zero => intro h; omega
  | succ n ih =>
   intro _
   rw [sdO]
   by_cases hn : 0 < n
   ·split
    ·simp
    ·exact ih hn
   ·have : n = 0 := by omega
    subst this
    simp [frI]
 exact key _ h1
variable [Its]
theorem sd0_go {da db : D} {a : List Pt} (hr : RwE cP da a) (ha : GdS a) {L : List Dr} (hL : L.length ≤ 1000) {i : Nat} (hi : i < a.length) : X G Qa1 (QjQ da db L i) = some (.n, QjQ da db (L ++ [sdN a i]) ((i + 1 : Nat) : Int)) := by
 have hle := ha.le
 have ll := hr.len
 have e1 : decide ((i : Int) < (a.length : Int)) = true := lt_t (by omega)
 have e2 : w64 ((i : Int) + 1) = ((i + 1 : Nat) : Int) := by rw [Qae (by omega) (by omega)]; rfl
 have x1 := hr.ixa QgV hi
 have x2 := fun hp => ldE QgV hp hi
 have g1 := Qpt hr hi (by omega)
 have hp := Qho ha.sm smP0 i
 have hn : SmP (nxP a i) := by unfold nxP; split <;> exact Qho ha.sm smP0 _
 have g2 := QoH (h := sdh a i) hp hn (ha.sq i hi).1 (ha.sq i hi).2
 have e3 : nrP ((nxP a i).1 - (a.getD i default).1) ((nxP a i).2 - (a.getD i default).2) (sdh a i) = sdN a i := rfl
 rw [e3] at g2
 simp only [encP, cP, encD, cD, iv, bv] at x2 g1 g2
 generalize (nxP a i).1 = n1 at *
 generalize (nxP a i).2 = n2 at *
 generalize (a.getD i default).1 = p1 at *
 generalize (a.getD i default).2 = p2 at *
 clear e3 hp hn
 generalize sdN a i = v at *
 obtain ⟨u1, u2, u3⟩ := v
 dsimp only at g2
 by_cases h0 : L = []
 ·subst h0
  have hq : ([(u1, u2, u3)] : List Dr) ≠ [] := by simp
  simp -implicitDefEqProofs (maxSteps:=9^8) only [Qa1, QjQ, Qgh, QgC, QgF hq, QgS hq, arE, flat1D, Qaa, List.nil_append, List.cons_append, List.length_nil, List.length_cons, Nat.zero_add, List.map_cons, List.map_nil, rep1_3, oneI, srcS, src, allD, Qac, Qab, b24, b24', ll, x1, x2, g1, g2, go_sem, iv, bv, e1, e2, reduceCtorEq, ↓reduceIte, Nat.reduceEqDiff]
 ·have n3 := lenE Qo6 L
  have n4 := bnd3 hL
  simp -implicitDefEqProofs (maxSteps:=9^8) only [Qa1, QjQ, Qaa, QgF h0, QgS h0, Qsk, Qry, arE, cD_snoc, QdO, n3, n4, List.nil_append, List.cons_append, List.length_nil, List.length_cons, Nat.zero_add, List.map_cons, List.map_nil, List.all_cons, List.all_nil, rep1_3, oneI, srcS, src, allD, box3s, Qab, ll, x1, x2, g1, g2, go_sem, iv, bv, e1, e2, reduceCtorEq, ↓reduceIte, Nat.reduceEqDiff]
theorem sd0_stop {da db : D} {a : List Pt} (hr : RwE cP da a) {L : List Dr} : X G Qa1 (QjQ da db L a.length) = some (.x 0, QoX da db L) := by
 have ll := hr.len
 have e1 : decide ((a.length : Int) < (a.length : Int)) = false := lt_f (by omega)
 by_cases h0 : L = []
 ·subst h0
  simp -implicitDefEqProofs (maxSteps:=9^8) only [Qa1, QjQ, QoX, Qgh, QgC, Qaa, ll, go_sem, iv, bv, e1, reduceCtorEq, ↓reduceIte, Nat.reduceEqDiff]
 ·simp -implicitDefEqProofs (maxSteps:=9^8) only [Qa1, QjQ, QoX, QgF h0, QgS h0, Qaa, arE, QdO, ll, go_sem, iv, bv, e1, reduceCtorEq, ↓reduceIte, Nat.reduceEqDiff]
theorem Qq7 {da db : D} {a : List Pt} (hr : RwE cP da a) (ha : GdS a) : ∀ (j i : Nat), i + j = a.length → X G (.loop Qa1) (QjQ da db (drA a i) i) = some (.x 0, QoX da db (drA a a.length))
 | 0, i, h => by
  have : i = a.length := by omega
  subst this
  rw [Qag, sd0_stop hr]; rfl
 | j + 1, i, h => by
  have ih := Qq7 (db := db) hr ha j (i + 1) (by omega)
  rw [drA_succ] at ih
  rw [Qag, sd0_go hr ha (by rw [QnA]; have := ha.le; omega) (by omega), Option.bind_some, if_pos rfl]
  exact ih
theorem sd1_go {da db : D} {b : List Pt} (hr : RwE cP db b) (hb : GdS b) {L : List Dr} (h0 : L ≠ []) (hL : L.length ≤ 1000) {i : Nat} (hi : i < b.length) : X G QbA (Qmd da db L i) = some (.n, Qmd da db (L ++ [tnD (sdN b i)]) ((i + 1 : Nat) : Int)) := by
 have hle := hb.le
 have ll := hr.len
 have e1 : decide ((i : Int) < (b.length : Int)) = true := lt_t (by omega)
 have e2 : w64 ((i : Int) + 1) = ((i + 1 : Nat) : Int) := by rw [Qae (by omega) (by omega)]; rfl
 have x1 := hr.ixa QgV hi
 have x2 := fun hp => ldE QgV hp hi
 have g1 := Qpt hr hi (by omega)
 have hp := Qho hb.sm smP0 i
 have hn : SmP (nxP b i) := by unfold nxP; split <;> exact Qho hb.sm smP0 _
 have g2 := QoH (h := sdh b i) hp hn (hb.sq i hi).1 (hb.sq i hi).2
 have e3 : nrP ((nxP b i).1 - (b.getD i default).1) ((nxP b i).2 - (b.getD i default).2) (sdh b i) = sdN b i := rfl
 rw [e3] at g2
 have g3 := Qo9 (hb.nm i hi).sm
 simp only [encP, cP, encD, cD, iv, bv] at x2 g1 g2 g3
 generalize (nxP b i).1 = n1 at *
 generalize (nxP b i).2 = n2 at *
 generalize (b.getD i default).1 = p1 at *
 generalize (b.getD i default).2 = p2 at *
 clear e3 hp hn
 generalize sdN b i = v at *
 obtain ⟨u1, u2, u3⟩ := v
 dsimp only at g2 g3
 unfold tnD
 dsimp only
 generalize -u1 = v1 at *
 generalize -u2 = v2 at *
 have n3 := lenE Qo6 L
 have n4 := bnd3 hL
 have n5 : (L ++ [(v1, v2, u3)]).length = L.length + 1 := by simp
 simp -implicitDefEqProofs (maxSteps:=9^8) only [QbA, Qmd, Qaa, arE, n5, cD_snoc, QdO, n3, n4, List.nil_append, List.cons_append, List.length_nil, List.length_cons, Nat.zero_add, List.map_cons, List.map_nil, List.all_cons, List.all_nil, rep1_3, oneI, srcS, src, allD, box3s, Qab, ll, x1, x2, g1, g2, g3, go_sem, iv, bv, e1, e2, reduceCtorEq, ↓reduceIte, Nat.reduceEqDiff]
theorem sd1_stop {da db : D} {b : List Pt} (hr : RwE cP db b) {L : List Dr} : X G QbA (Qmd da db L b.length) = some (.x 2, Qrm da db L) := by
 have ll := hr.len
 have e1 : decide ((b.length : Int) < (b.length : Int)) = false := lt_f (by omega)
 simp -implicitDefEqProofs (maxSteps:=9^8) only [QbA, Qmd, Qrm, Qaa, arE, QdO, ll, go_sem, iv, bv, e1, reduceCtorEq, ↓reduceIte, Nat.reduceEqDiff]
theorem QrG {da db : D} {b : List Pt} {L0 : List Dr} (hr : RwE cP db b) (hb : GdS b) (h0 : L0 ≠ []) (hL : L0.length ≤ 100) : ∀ (j i : Nat), i + j = b.length → X G (.loop QbA) (Qmd da db (L0 ++ drB b i) i) = some (.x 2, Qrm da db (L0 ++ drB b b.length))
 | 0, i, h => by
  have : i = b.length := by omega
  subst this
  rw [Qag, sd1_stop hr]; rfl
 | j + 1, i, h => by
  have ih := QrG (da := da) hr hb h0 hL j (i + 1) (by omega)
  rw [drB_succ, ← List.append_assoc] at ih
  rw [Qag, sd1_go hr hb (by simp [h0]) (by rw [List.length_append, drB_len]; have := hb.le; omega) (by omega), Option.bind_some, if_pos rfl]
  exact ih
theorem sd2_go {da db : D} {L : List Dr} {O : List Eg} (hL : L.length ≤ 1000) {i k : Nat} {f : Bool} (hi : i < L.length) (hk : k < i) : X G Qa3 (QjV da db L O i f k) = some (.n, QjV da db L O i (f && !(eqDr (L.getD k default) (L.getD i default))) ((k + 1 : Nat) : Int)) := by
  have e1 : decide ((k : Int) < (i : Int)) = true := lt_t (by omega)
  have e2 : w64 ((k : Int) + 1) = ((k + 1 : Nat) : Int) := by rw [Qae (by omega) (by omega)]; rfl
  have b1 : (0 ≤ (k : Int)) = True := eq_true (by omega)
  have b2 : ((k : Int) < (L.length : Int)) = True := eq_true (by omega)
  have b3 : (0 ≤ (i : Int)) = True := eq_true (by omega)
  have b4 : ((i : Int) < (L.length : Int)) = True := eq_true (by omega)
  have x1 := ldO Qo6 (l := L) (j := k) (by omega)
  have x2 := ldO Qo6 (l := L) (j := i) hi
  unfold eqDr
  generalize L.getD k default = p at *
  generalize L.getD i default = q at *
  obtain ⟨p1, p2, p3⟩ := p
  obtain ⟨q1, q2, q3⟩ := q
  simp only [cD, iv] at x1 x2
  have e3 := eqD3 p1 p2 p3 q1 q2 q3
  dsimp only
  obtain ⟨t, ht⟩ : ∃ t, ((p1 == q1) && ((p2 == q2) && (p3 == q3))) = t := ⟨_, rfl⟩
  rw [ht] at e3 ⊢
  by_cases h0 : O = []
  · subst h0
    cases f <;> cases t <;> simp -implicitDefEqProofs (maxSteps:=9^8) only [Qa3, QjV, Qgh, QgC, Qaa, Ql5, arE, QdO, Int.toNat_natCast, x1, x2, e3, ht, b1, b2, b3, b4, Bool.not_true, Bool.not_false, Bool.and_false, Bool.and_true, go_sem, iv, bv, e1, e2, reduceCtorEq, ↓reduceIte, Nat.reduceEqDiff]
  · cases f <;> cases t <;> simp -implicitDefEqProofs (maxSteps:=9^8) only [Qa3, QjV, QgF h0, QgS h0, Qaa, Ql5, arE, QdO, Int.toNat_natCast, x1, x2, e3, ht, b1, b2, b3, b4, Bool.not_true, Bool.not_false, Bool.and_false, Bool.and_true, go_sem, iv, bv, e1, e2, reduceCtorEq, ↓reduceIte, Nat.reduceEqDiff]
theorem sd2_stop {da db : D} {L : List Dr} {O : List Eg} {i : Nat} {f : Bool} : X G Qa3 (QjV da db L O i f i) = some (.x 6, QoN da db L O i f) := by
 have e1 : decide ((i : Int) < (i : Int)) = false := lt_f (by omega)
 by_cases h0 : O = []
 ·subst h0
  simp -implicitDefEqProofs (maxSteps:=9^8) only [Qa3, QjV, QoN, Qgh, QgC, Qaa, Ql5, arE, QdO, go_sem, iv, bv, e1, reduceCtorEq, ↓reduceIte, Nat.reduceEqDiff]
 ·simp -implicitDefEqProofs (maxSteps:=9^8) only [Qa3, QjV, QoN, QgF h0, QgS h0, Qaa, Ql5, arE, QdO, go_sem, iv, bv, e1, reduceCtorEq, ↓reduceIte, Nat.reduceEqDiff]
theorem QrE {da db : D} {L : List Dr} {O : List Eg} (hL : L.length ≤ 1000) {i : Nat} (hi : i < L.length) : ∀ (j k : Nat), k + j = i → X G (.loop Qa3) (QjV da db L O i (frI L i k) k) = some (.x 6, QoN da db L O i (frI L i i))
 | 0, k, h => by
  have : k = i := by omega
  subst this
  rw [Qag, sd2_stop]; rfl
 | j + 1, k, h => by
  rw [Qag, sd2_go hL hi (by omega), Option.bind_some, if_pos rfl]
  exact QrE hL hi j (k + 1) (by omega)
theorem sd3_go {da db : D} {a b : List Pt} (hra : RwE cP da a) (hrb : RwE cP db b) (ha : GdS a) (hb : GdS b) {L : List Dr} (hLn : ∀ d ∈ L, NmD d) {O : List Eg} (hL : L.length ≤ 1000) (hO : O.length ≤ 1000) {i : Nat} (hi : i < L.length) :
    X G QaF (Qh5 da db L O i) = some (.n, Qh5 da db L (if frI L i i then O ++ [edP a b (L.getD i default)] else O) ((i + 1 : Nat) : Int)) := by
  have e1 : decide ((i : Int) < (L.length : Int)) = true := lt_t (by omega)
  have e2 : w64 ((i : Int) + 1) = ((i + 1 : Nat) : Int) := by rw [Qae (by omega) (by omega)]; rfl
  have b3 : (0 ≤ (i : Int)) = True := eq_true (by omega)
  have b4 : ((i : Int) < (L.length : Int)) = True := eq_true (by omega)
  have gl := QrE (da := da) (db := db) (O := O) hL hi i 0 (by omega)
  have ef : frI L i 0 = true := rfl
  rw [ef] at gl
  generalize frI L i i = f at *
  have x2 := ldO Qo6 (l := L) (j := i) hi
  have hd : NmD (L.getD i default) := by rw [List.getD_eq_getElem?_getD, List.getElem?_eq_getElem hi]; exact hLn _ (List.getElem_mem hi)
  have g1 := QpE hra ha.pos ha.sm hd.sm (by have := ha.le; omega)
  have g2 := Qo9 hd.sm
  have g3 := QpE hrb hb.pos hb.sm hd.tn.sm (by have := hb.le; omega)
  have m1 : -20000000000000000 ≤ moP (L.getD i default) a ∧ moP (L.getD i default) a ≤ 20000000000000000 := mstN_b hd ha.sm _
  have m2 : -20000000000000000 ≤ moP (tnD (L.getD i default)) b ∧ moP (tnD (L.getD i default)) b ≤ 20000000000000000 := mstN_b hd.tn hb.sm _
  unfold edP
  obtain ⟨z, hz⟩ : ∃ z, moP (L.getD i default) a + moP (tnD (L.getD i default)) b = z := ⟨_, rfl⟩
  have e3 : w64 (moP (L.getD i default) a + moP (tnD (L.getD i default)) b) = z := by rw [Qae (by omega) (by omega), hz]
  rw [hz]
  clear hz
  generalize moP (L.getD i default) a = z1 at *
  generalize moP (tnD (L.getD i default)) b = z2 at *
  clear hd hLn
  generalize L.getD i default = p at *
  obtain ⟨p1, p2, p3⟩ := p
  simp only [encD, cD, tnD, iv] at x2 g1 g2 g3
  generalize -p1 = v1 at *
  generalize -p2 = v2 at *
  simp only [QjV, QoN, nc0] at gl
  cases f with
  | false =>
    rw [if_neg (by simp)]
    by_cases h0 : O = []
    · subst h0
      simp only [Qgh, QgC, arE, go_sem] at gl
      simp -implicitDefEqProofs (maxSteps:=9^8) only [QaF, Qh5, gl, Qgh, QgC, Qaa, Ql5, arE, QdO, go_sem, iv, bv, e1, e2, reduceCtorEq, ↓reduceIte, Nat.reduceEqDiff]
    · simp only [QgF h0, QgS h0, arE, go_sem] at gl
      simp -implicitDefEqProofs (maxSteps:=9^8) only [QaF, Qh5, gl, QgF h0, QgS h0, Qaa, Ql5, arE, QdO, go_sem, iv, bv, e1, e2, reduceCtorEq, ↓reduceIte, Nat.reduceEqDiff]
  | true =>
    rw [if_pos rfl]
    by_cases h0 : O = []
    · subst h0
      have hq : ([((p1, p2, p3), z)] : List Eg) ≠ [] := by simp
      simp only [Qgh, QgC, arE, go_sem] at gl
      simp -implicitDefEqProofs (maxSteps:=9^8) only [QaF, Qh5, gl, Qgh, QgC, QgF hq, QgS hq, flat1G, Qaa, Ql5, arE, QdO, Int.toNat_natCast, b3, b4, x2, g1, g2, g3, e3, b32, b32', rep1_4, oneI, srcS, src, allD, List.nil_append, List.cons_append, List.append_nil, List.length_nil, List.length_cons, Nat.zero_add, List.map_cons, List.map_nil, List.all_cons, List.all_nil, Qdk, QbC, go_sem, iv, bv, e1, e2, reduceCtorEq, ↓reduceIte, Nat.reduceEqDiff]
    · have n3 := lenE cG_len O
      have n4 := bnd4 hO
      simp only [QgF h0, QgS h0, arE, go_sem] at gl
      simp -implicitDefEqProofs (maxSteps:=9^8) only [QaF, Qh5, gl, QgF h0, QgS h0, Qsk, Qry, cG_snoc, Qaa, Ql5, arE, QdO, n3, n4, Int.toNat_natCast, b3, b4, x2, g1, g2, g3, e3, rep1_4, oneI, srcS, src, allD, List.nil_append, List.cons_append, List.append_nil, List.length_nil, List.length_cons, Nat.zero_add, List.map_cons, List.map_nil, List.all_cons, List.all_nil, Qdk, QbC, go_sem, iv, bv, e1, e2, reduceCtorEq, ↓reduceIte, Nat.reduceEqDiff]
theorem sd3_stop {da db : D} {L : List Dr} {O : List Eg} : X G QaF (Qh5 da db L O L.length) = some (.x 4, QpI O) := by
 have e1 : decide ((L.length : Int) < (L.length : Int)) = false := lt_f (by omega)
 by_cases h0 : O = []
 ·subst h0
  simp -implicitDefEqProofs (maxSteps:=9^8) only [QaF, Qh5, QpI, Qgh, QgC, Qaa, Ql5, arE, QdO, go_sem, iv, bv, e1, reduceCtorEq, ↓reduceIte, Nat.reduceEqDiff]
 ·simp -implicitDefEqProofs (maxSteps:=9^8) only [QaF, Qh5, QpI, QgF h0, QgS h0, Qaa, Ql5, arE, QdO, go_sem, iv, bv, e1, reduceCtorEq, ↓reduceIte, Nat.reduceEqDiff]
theorem Qrg {da db : D} {a b : List Pt} (hra : RwE cP da a) (hrb : RwE cP db b) (ha : GdS a) (hb : GdS b) {L : List Dr} (hLn : ∀ d ∈ L, NmD d) (hL : L.length ≤ 1000) : ∀ (j i : Nat), i + j = L.length → X G (.loop QaF) (Qh5 da db L (sdO a b L i) i) = some (.x 4, QpI (sdO a b L L.length))
 | 0, i, h => by
  have : i = L.length := by omega
  subst this
  rw [Qag, sd3_stop]; rfl
 | j + 1, i, h => by
  rw [Qag, sd3_go hra hrb ha hb hLn hL (by have := sdO_len a b L i; omega) (by omega), Option.bind_some, if_pos rfl]
  exact Qrg hra hrb ha hb hLn hL j (i + 1) (by omega)
theorem QsO {da db : D} {a b : List Pt} (hra : RwE cP da a) (hrb : RwE cP db b) (ha : GdS a) (hb : GdS b) : Qaj G Qd8 [da, db] = some (.own 4 (sdP a b).length ((sdP a b).flatMap cG)) := by
 rw [Qad (cf := QeS) rfl]
 have hna : drA a a.length ≠ [] := fun h => by
  have h1 := QnA a a.length
  rw [h] at h1
  have := ha.pos
  simp at h1
  omega
 have g0 := Qq7 (db := db) hra ha a.length 0 (by omega)
 have g1 := QrG (da := da) (L0 := drA a a.length) hrb hb hna (by rw [QnA]; have := ha.le; omega) b.length 0 (by omega)
 have g2 := Qrg hra hrb ha hb (drs_nm ha hb) (by rw [drs_len]; have := ha.le; have := hb.le; omega) (drs a b).length 0 (by omega)
 have hne := sdP_ne (b := b) ha
 have e0 : drA a 0 = [] := rfl
 have e1 : drA a a.length ++ drB b 0 = drA a a.length := List.append_nil _
 have e2 : drA a a.length ++ drB b b.length = drs a b := rfl
 have e3 : sdO a b (drs a b) 0 = [] := rfl
 have e4 : sdO a b (drs a b) (drs a b).length = sdP a b := rfl
 rw [e0] at g0
 rw [e1, e2] at g1
 rw [e3, e4] at g2
 generalize drs a b = L at *
 generalize drA a a.length = L0 at *
 generalize sdP a b = O at *
 simp only [QjQ, QoX, Qgh, QgC, QgF hna, QgS hna, arE, Qaa, go_sem, nc0, iv] at g0
 simp only [Qmd, Qrm, arE, Qaa, go_sem, nc0, iv] at g1
 simp only [Qh5, QpI, Qgh, QgC, QgF hne, QgS hne, arE, Qaa, go_sem, nc0, iv] at g2
 simp -implicitDefEqProofs (maxSteps:=9^8) only [QeS, g0, g1, g2, QdO, allD_E, Qaa, Ql5, go_sem, iv, bv, reduceCtorEq, ↓reduceIte, Nat.reduceEqDiff]
end Go.AM

/- Vectors; ref12.Vec, Dot; ref13 and gap: small functions. -/
namespace Go.AM
open Go Go.RowKit

abbrev Vc := Rat × Rat
def SzV (K : Nat) (v : Vc) : Prop := sz v.1 ≤ K ∧ sz v.2 ≤ K
theorem SzV.mono {K L : Nat} {v : Vc} (h : SzV K v) (hk : K ≤ L) : SzV L v := ⟨Nat.le_trans h.1 hk, Nat.le_trans h.2 hk⟩
theorem NmD.i1 {d : Dr} (h : NmD d) : I64 d.1 := ⟨by have := h.1; omega, by have := h.1; omega⟩
theorem NmD.i2 {d : Dr} (h : NmD d) : I64 d.2.1 := ⟨by have := h.2.1; omega, by have := h.2.1; omega⟩
theorem NmD.i3 {d : Dr} (h : NmD d) : I64 d.2.2 := ⟨by have := h.2.2; omega, by have := h.2.2; omega⟩
theorem i64_1 : I64 1 := ⟨by omega, by omega⟩
theorem st8 (a b c d e f g h i j k l m n o p : A) : Qac 0 [a, b, c, d, e, f, g, h] [i, j, k, l, m, n, o, p] = some [a, b, c, d, e, f, g, h] := rfl
theorem ld8 (a b c d e f g h : D) : Qab (some 8) 0 [.d a, .d b, .d c, .d d, .d e, .d f, .d g, .d h] = some (.d (.agg [a, b, c, d, e, f, g, h])) := rfl
theorem st4' (a b c d i j k l : A) : Qac 0 [a, b, c, d] [i, j, k, l] = some [a, b, c, d] := rfl
theorem QnC (a b c d : D) : Qab (some 4) 0 [.d a, .d b, .d c, .d d] = some (.d (.agg [a, b, c, d])) := rfl
variable [Its]
end Go.AM

/- convex: the small functions; Most. -/
namespace Go.AM
open Go Go.RowKit

variable [Its]
end Go.AM

/- convex: Norm; searching rows of edges. -/
namespace Go.AM
open Go Go.RowKit

section
variable {α : Type} {en : α → List D} {es : Nat}
theorem RwE.cell {d : D} {l : List α} (h : RwE en d l) : QaJ (.d d) = [.d d] := by rcases h with ⟨rfl, _⟩ | rfl <;> rfl
theorem RwE.onec {d : D} {l : List α} (h : RwE en d l) : A.one (.d d) = true := by rcases h with ⟨rfl, _⟩ | rfl <;> rfl
end
variable [Its]
/-! ### Searching -/
section
variable {d : D} {O : List Eg} {f : Nat} {caps : List D} {p : Eg → Bool}
end
end Go.AM

/- gap: Stays, Free, Meet, greatest, Best, Contact. -/
namespace Go.AM
open Go Go.RowKit
def veR (p : List Rat) : Rat := -(p.getD 1 0) / (p.getD 2 0 * 2)
def staG (p : List Rat) : Bool :=
 if decide (evR p 0 < 0) || decide (evR p 1 < 0) then false
 else if decide (p.length < 3) || decide (p.getD 2 0 < 0) then true
 else decide (veR p ≤ 0) || decide (1 ≤ veR p) || decide (0 ≤ evR p (veR p))
theorem sign_le {x : Rat} : decide (Int.sign x.num ≤ 0) = decide (x ≤ 0) := by
 have h := sign_gt (x := x)
 rw [Bool.eq_iff_iff, decide_eq_true_iff, decide_eq_true_iff] at *
 constructor
 ·intro h1
  exact Rat.not_lt.1 fun h2 => by have := h.2 h2; omega
 ·intro h1
  exact Int.not_lt.1 fun h2 => Rat.not_lt.2 h1 (h.1 h2)
theorem cmpR_ge {a b : Rat} : decide (cmpR a b ≥ 0) = decide (b ≤ a) := by
 have h := cmpR_lt (a := a) (b := b)
 rw [Bool.eq_iff_iff, decide_eq_true_iff, decide_eq_true_iff]
 constructor
 ·intro h1
  exact Rat.not_lt.1 fun h2 => by have := h.2 h2; omega
 ·intro h1
  exact Int.not_lt.1 fun h2 => Rat.not_lt.2 h1 (h.1 h2)
theorem cmpR_gt {a b : Rat} : decide (cmpR a b > 0) = decide (b < a) := by
 have h := cmpR_le (a := a) (b := b)
 rw [Bool.eq_iff_iff, decide_eq_true_iff, decide_eq_true_iff]
 constructor
 ·intro h1
  exact Rat.not_le.1 fun h2 => by have := h.2 h2; omega
 ·intro h1
  exact Int.not_le.1 fun h2 => Rat.not_le.2 h1 (h.1 h2)
theorem tupG : A.bool? (.d (.v (.tuple #[]))) = none := rfl
theorem sign_eq0 {x : Rat} : (Int.sign x.num == 0) = decide (x = 0) := by
 rw [Bool.eq_iff_iff, beq_iff_eq, decide_eq_true_iff, Int.sign_eq_zero_iff_zero]
 exact Rat.num_eq_zero
theorem ixp2 {d : D} {l : List Rat} (hr : RwR d l) (h : 2 < l.length) (hp : Hp) : ixaA hp 4 2 (.d d) = some (.d (.rp (cRs (l.drop 2)))) := hr.ixa (j := 2) h hp
theorem ixp1 {d : D} {l : List Rat} (hr : RwR d l) (h : 1 < l.length) (hp : Hp) : ixaA hp 4 1 (.d d) = some (.d (.rp (cRs (l.drop 1)))) := hr.ixa (j := 1) h hp
theorem i64_2' : I64 2 := ⟨by omega, by omega⟩
section
variable [Its]
theorem Qqp [ItsB] {d : D} {p : List Rat} {K : Nat} (hr : RwR d p) (sp : SzL K p) (hK1 : 3 ≤ K) (hK : K ≤ 100000000) (hl : p.length ≤ 3) (ht : Trm p) : Qaj G Qi5 [d] = some (.d (bv (staG p))) := by
 rw [Qad (cf := Qdy) rfl]
 have sl : ∀ q ∈ p, sz q ≤ 3 * K := fun q hq => by have := sp q hq; omega
 have s0 : sz 0 ≤ 3 * K := by rw [Qc1]; omega
 have s1 : sz 1 ≤ 3 * K := by rw [QcO]; omega
 have hb : p.length * (2 * (3 * K) + 1) ≤ 3 * (2 * (3 * K) + 1) := Nat.mul_le_mul_right _ hl
 have g0 := Qha hr s0 (by omega) sl (by omega)
 have g1 := Qha hr s1 (by omega) sl (by omega)
 have o1 := Qei i64_1 i64_1
 rw [Qcd, show ((1 : Int) : Rat) = 1 from rfl] at o1
 have h0 := QbD (evR p 0)
 have h1 := QbD (evR p 1)
 have t0 := QfV (x := evR p 0)
 have t1 := QfV (x := evR p 1)
 have ll := hr.len
 unfold staG
 rw [Qdx] at g0
 have tc : decide (cmpR (veR p) 1 ≥ 0) = decide (1 ≤ veR p) := cmpR_ge
 by_cases h3 : 2 < p.length
 ·have hlen : p.length = 3 := by omega
  have nz : p.getD 2 0 ≠ 0 := ht 2 hlen
  have x1 := ixp1 hr (by omega)
  have x2 := ixp2 hr h3
  have y1 := fun hp => ldR hp p (j := 1) (by omega)
  have y2 := fun hp => ldR hp p (j := 2) (by omega)
  have z1 := sp.getD (by omega) 1
  have z2 := sp.getD (by omega) 2
  have o2 := Qei i64_2' i64_1
  rw [Qcd, show ((2 : Int) : Rat) = 2 from rfl] at o2
  have n1 := Qmn (p.getD 1 0)
  have k2 := sz_two
  have n2 := Qdr (a := p.getD 2 0) (b := 2) (by omega) (by omega)
  have k3 := Qez (a := p.getD 2 0) (b := 2)
  have k4 := QpL (p.getD 1 0)
  have n3 := Qjk (a := -(p.getD 1 0)) (b := p.getD 2 0 * 2) (by omega) (by omega)
  have k5 := QfA (a := -(p.getD 1 0)) (b := p.getD 2 0 * 2)
  have ev : -(p.getD 1 0) / (p.getD 2 0 * 2) = veR p := rfl
  rw [ev] at n3 k5
  have g3 := Qha (x := veR p) (K := 3 * K) hr (by omega) (by omega) sl (by omega)
  have h2 := QbD (p.getD 2 0)
  have t2 := QfV (x := p.getD 2 0)
  have h4 := QbD (veR p)
  have t4 := sign_le (x := veR p)
  have h5 := Qen (a := veR p) (b := 1) (by omega) (by omega)
  have h6 := QbD (evR p (veR p))
  have t6 := sign_ge (x := evR p (veR p))
  have tl : decide (((p.length : Nat) : Int) < 3) = false := lt_f (by omega)
  have tl2 : decide (p.length < 3) = false := decide_eq_false (by omega)
  rw [tl2]
  clear ev k2 k3 k4 k5 z1 z2 nz hlen h3 hb sl sp hr s0 s1 tl2
  generalize decide (evR p 0 < 0) = b0 at *
  generalize decide (evR p 1 < 0) = b1 at *
  generalize decide (p.getD 2 0 < 0) = b2 at *
  generalize decide (veR p ≤ 0) = b4 at *
  generalize decide (1 ≤ veR p) = b5 at *
  generalize decide (0 ≤ evR p (veR p)) = b6 at *
  generalize cmpR (veR p) 1 = c5 at *
  generalize evR p (veR p) = r6 at *
  generalize veR p = r4 at *
  generalize evR p 0 = r0 at *
  generalize evR p 1 = r1 at *
  generalize p.getD 2 0 * 2 = r7 at *
  generalize p.getD 2 0 = r8 at *
  generalize -(p.getD 1 0) = r9 at *
  generalize p.getD 1 0 = r10 at *
  simp only [encR, iv, bv] at *
  cases b0 with
  | true => simp -implicitDefEqProofs (maxSteps:=9^8) only [Qdy, o1, g0, h0, t0, st4', QnC, decide_true, decide_false, tupG, Qdk, QbC, Bool.true_or, if_true, Qaa, go_sem, iv, bv, reduceCtorEq, ↓reduceIte, Nat.reduceEqDiff]
  | false =>
   cases b1 with
   | true => simp -implicitDefEqProofs (maxSteps:=9^8) only [Qdy, o1, g0, g1, h0, h1, t0, t1, st4', QnC, decide_true, decide_false, tupG, Qdk, QbC, Bool.false_or, if_true, Qaa, go_sem, iv, bv, reduceCtorEq, ↓reduceIte, Nat.reduceEqDiff]
   | false =>
    cases b2 with
    | true => simp -implicitDefEqProofs (maxSteps:=9^8) only [Qdy, o1, g0, g1, h0, h1, h2, t0, t1, t2, tl, ll, x2, y2, st4', QnC, decide_true, decide_false, tupG, Qdk, QbC, Bool.false_or, Bool.or_self, Bool.false_eq_true, if_false, if_true, Qaa, go_sem, iv, bv, reduceCtorEq, ↓reduceIte, Nat.reduceEqDiff]
    | false =>
     cases b4 with
     | true => simp -implicitDefEqProofs (maxSteps:=9^8) only [Qdy, o1, o2, g0, g1, h0, h1, h2, h4, t0, t1, t2, t4, tl, ll, x1, x2, y1, y2, n1, n2, n3, st4', QnC, decide_true, decide_false, tupG, Qdk, QbC, Bool.true_or, Bool.false_or, Bool.or_self, Bool.false_eq_true, if_false, if_true, Qaa, go_sem, iv, bv, reduceCtorEq, ↓reduceIte, Nat.reduceEqDiff]
     | false =>
      cases b5 with
      | true => simp -implicitDefEqProofs (maxSteps:=9^8) only [Qdy, o1, o2, g0, g1, h0, h1, h2, h4, h5, t0, t1, t2, t4, tc, tl, ll, x1, x2, y1, y2, n1, n2, n3, st4', QnC, decide_true, decide_false, tupG, Qdk, QbC, Bool.true_or, Bool.false_or, Bool.or_self, Bool.false_eq_true, if_false, if_true, Qaa, go_sem, iv, bv, reduceCtorEq, ↓reduceIte, Nat.reduceEqDiff]
      | false => simp -implicitDefEqProofs (maxSteps:=9^8) only [Qdy, o1, o2, g0, g1, g3, h0, h1, h2, h4, h5, h6, t0, t1, t2, t4, t6, tc, tl, ll, x1, x2, y1, y2, n1, n2, n3, st4', QnC, decide_true, decide_false, tupG, Qdk, QbC, Bool.true_or, Bool.false_or, Bool.or_self, Bool.false_eq_true, if_false, if_true, Qaa, go_sem, iv, bv, reduceCtorEq, ↓reduceIte, Nat.reduceEqDiff]
 ·have tl : decide (((p.length : Nat) : Int) < 3) = true := lt_t (by omega)
  have tl2 : decide (p.length < 3) = true := decide_eq_true (by omega)
  rw [tl2]
  clear hb sl sp hr s0 s1 tl2 tc
  generalize decide (evR p 0 < 0) = b0 at *
  generalize decide (evR p 1 < 0) = b1 at *
  generalize evR p 0 = r0 at *
  generalize evR p 1 = r1 at *
  simp only [encR, iv, bv] at *
  cases b0 with
  | true => simp -implicitDefEqProofs (maxSteps:=9^8) only [Qdy, o1, g0, h0, t0, st4', QnC, decide_true, decide_false, tupG, Qdk, QbC, Bool.true_or, if_true, Qaa, go_sem, iv, bv, reduceCtorEq, ↓reduceIte, Nat.reduceEqDiff]
  | false =>
   cases b1 with
   | true => simp -implicitDefEqProofs (maxSteps:=9^8) only [Qdy, o1, g0, g1, h0, h1, t0, t1, st4', QnC, decide_true, decide_false, tupG, Qdk, QbC, Bool.false_or, if_true, Qaa, go_sem, iv, bv, reduceCtorEq, ↓reduceIte, Nat.reduceEqDiff]
   | false => simp -implicitDefEqProofs (maxSteps:=9^8) only [Qdy, o1, g0, g1, h0, h1, t0, t1, tl, ll, st4', QnC, decide_true, decide_false, tupG, Qdk, QbC, Bool.true_or, Bool.false_or, Bool.or_self, Bool.false_eq_true, if_false, if_true, Qaa, go_sem, iv, bv, reduceCtorEq, ↓reduceIte, Nat.reduceEqDiff]
section
variable {d : D} {O : List Eg} {f : Nat} {caps : List D} {F : Eg → Rat × Bool} {K : Nat}
end
end
end Go.AM

/- The seat's iterators: Backward alone. -/
namespace Go.AM
open Go Go.RowKit Go.Proofs

instance itsP : Its := { it := fun f ds => if f = Qak then QpN ds else none }
instance itsBP : ItsB := ⟨fun _ => if_pos rfl⟩
theorem envP : EnvOk Tryz.prog G := env_ok fun f ds xs h => by
  have h' : (if f = Qak then QpN ds else none) = some xs := h
  split at h'
  · rename_i hf
    rw [hf]
    exact itBack_ok h'
  · cases h'
end Go.AM

/- law13.lives: the parts, by the kernel. -/
namespace Go.AM
open Go Go.RowKit
def zI (n : Int) : List D := [.v (.bool (decide (n < 0))), if n = 0 then .z true else .row 1 [iv n.natAbs], .v (.bool false), .z true]
def vI (x y : Int) : D := .agg (zI x ++ zI y)
def edc : List D := [iv 0, iv (-1), iv 1, iv 2, iv 1, iv 0, iv 1, iv 2, iv 0, iv 1, iv 1, iv 2, iv (-1), iv 0, iv 1, iv 2]
def eds : D := .row 4 edc
def sqD : D := .row 4 [iv 0, iv 0, iv 2, iv 0, iv 2, iv 2, iv 0, iv 2]
def sqL : List Pt := [(0, 0), (2, 0), (2, 2), (0, 2)]
theorem sq_gd : GdS sqL := by
 have h : chkS sqL = true := by kernel_rfl
 unfold chkS at h
 rw [List.all_eq_true] at h
 refine ⟨by decide, by decide, ?_, fun i hi => ?_, fun i hi => ?_⟩
 ·intro p hp
  unfold sqL at hp
  simp only [List.mem_cons, List.not_mem_nil, or_false] at hp
  rcases hp with rfl | rfl | rfl | rfl <;> exact ⟨⟨by decide, by decide⟩, ⟨by decide, by decide⟩⟩
 all_goals
  have h1 := h i (List.mem_range.2 hi)
  simp only [Bool.and_eq_true, decide_eq_true_eq] at h1
  obtain ⟨⟨⟨⟨⟨⟨⟨h1, h2⟩, h3⟩, h4⟩, h5⟩, h6⟩, h7⟩, h8⟩ := h1
 ·exact ⟨h1, h2⟩
 ·exact ⟨⟨h3, h4⟩, ⟨h5, h6⟩, ⟨h7, h8⟩⟩
theorem k0 : Qaj G Qd8 [sqD, sqD] = some (.own 4 4 edc) := by
 have h := QsO (da := sqD) (db := sqD) (a := sqL) (b := sqL) (.inr rfl) (.inr rfl) sq_gd sq_gd
 rw [h]
 have e : sdP sqL sqL = [((0, -1, 1), 2), ((1, 0, 1), 2), ((0, 1, 1), 2), ((-1, 0, 1), 2)] := by kernel_rfl
 rw [e]
 rfl
theorem k1 : Qaj G QfF [.agg [iv 0, iv 1, iv 1, iv 2], vI 1 5] = some (.d (.agg (zI 3))) := callX_some.2 ⟨80, by kernel_rfl⟩
theorem k2 : Qaj G QgJ [.agg (zI 3), .agg (zI 3)] = some (.d (bv true)) := callX_some.2 ⟨80, by kernel_rfl⟩
theorem k3 : Qaj G QiJ [eds, vI 1 1] = some (.d (bv true)) := callX_some.2 ⟨60, by kernel_rfl⟩
theorem k4 : Qaj G QiJ [eds, vI 2 0] = some (.d (bv false)) := callX_some.2 ⟨60, by kernel_rfl⟩
theorem k5 : Qaj G QmY [eds, vI 0 3, vI 5 1] = some (.d (iv 2)) := callX_some.2 ⟨60, by kernel_rfl⟩
theorem kv (x y : Int) (h : (x, y) ∈ [(1, 5), (1, 1), (2, 0), (0, 0), (0, 3), (0, -2), (5, -2), (5, 1), (1, 2), (1, 0), (1, -1), (0, 1), (2, 2), (-1, -2), (0, -1)]) : Qaj G Qan [iv x, iv y] = some (.d (vI x y)) := by
 simp only [List.mem_cons, List.not_mem_nil, or_false, Prod.mk.injEq] at h
 rcases h with ⟨rfl, rfl⟩ | ⟨rfl, rfl⟩ | ⟨rfl, rfl⟩ | ⟨rfl, rfl⟩ | ⟨rfl, rfl⟩ | ⟨rfl, rfl⟩ | ⟨rfl, rfl⟩ | ⟨rfl, rfl⟩ | ⟨rfl, rfl⟩ | ⟨rfl, rfl⟩ | ⟨rfl, rfl⟩ | ⟨rfl, rfl⟩ | ⟨rfl, rfl⟩ | ⟨rfl, rfl⟩ | ⟨rfl, rfl⟩ <;> exact callX_some.2 ⟨60, by kernel_rfl⟩
theorem kOf : Qaj G Qas [iv 3, iv 1] = some (.d (.agg (zI 3))) := callX_some.2 ⟨60, by kernel_rfl⟩
end Go.AM

/- law13.lives: Free and Contact, by the kernel. -/
namespace Go.AM
open Go Go.RowKit
theorem f1 : Qaj G Qf5 [eds, vI 0 3, vI 0 (-2), vI 0 0] = some (.d (iv (-1))) := callX_some.2 ⟨80, by kernel_rfl⟩
theorem f2 : Qaj G Qf5 [eds, vI 0 3, vI 5 (-2), vI 0 0] = some (.d (iv (-1))) := callX_some.2 ⟨80, by kernel_rfl⟩
theorem f3 : Qaj G Qf5 [eds, vI 0 3, vI 0 (-1), vI 0 0] = some (.d (iv 2)) := callX_some.2 ⟨80, by kernel_rfl⟩
theorem c1 : Qaj G Qcx [eds, vI 1 2, vI 1 0] = some (.d (iv 2)) := callX_some.2 ⟨80, by kernel_rfl⟩
theorem c2 : Qaj G Qcx [eds, vI 1 2, vI 1 (-1)] = some (.d (iv 2)) := callX_some.2 ⟨80, by kernel_rfl⟩
theorem c3 : Qaj G Qcx [eds, vI 1 2, vI 0 1] = some (.d (iv (-1))) := callX_some.2 ⟨80, by kernel_rfl⟩
theorem c4 : Qaj G Qcx [eds, vI 2 2, vI (-1) (-2)] = some (.d (iv 1)) := callX_some.2 ⟨80, by kernel_rfl⟩
end Go.AM

/- law13.lives. -/
namespace Go.AM
open Go Go.RowKit
theorem z0 : zI 0 = [.v (.bool false), .z true, .v (.bool false), .z true] := rfl
set_option maxHeartbeats 4000000 in
theorem lives13 : Qaj G Qgv [] = some (.d (bv true)) := by
 rw [Qad (cf := QeZ) rfl]
 have v1 := kv 1 5 (by simp)
 have v2 := kv 1 1 (by simp)
 have v3 := kv 2 0 (by simp)
 have v4 := kv 0 0 (by simp)
 have v5 := kv 0 3 (by simp)
 have v6 := kv 0 (-2) (by simp)
 have v7 := kv 5 (-2) (by simp)
 have v8 := kv 5 1 (by simp)
 have v9 := kv 1 2 (by simp)
 have v10 := kv 1 0 (by simp)
 have v11 := kv 1 (-1) (by simp)
 have v12 := kv 0 1 (by simp)
 have v13 := kv 2 2 (by simp)
 have v14 := kv (-1) (-2) (by simp)
 have v15 := kv 0 (-1) (by simp)
 have k0 := k0; have k1 := k1; have k2 := k2; have k3 := k3; have k4 := k4; have k5 := k5; have kOf := kOf
 have f1 := f1; have f2 := f2; have f3 := f3; have c1 := c1; have c2 := c2; have c3 := c3; have c4 := c4
 have e0 : vI 0 0 = .agg [.v (.bool false), .z true, .v (.bool false), .z true, .v (.bool false), .z true, .v (.bool false), .z true] := rfl
 rw [e0] at v4 f1 f2 f3
 have e1 : D.agg (zI 3) = .agg [.v (.bool false), .row 1 [iv 3], .v (.bool false), .z true] := rfl
 have x1 : ∀ h : Hp, ixaA h 4 2 (.d eds) = some (.d (.rp [iv 0, iv 1, iv 1, iv 2, iv (-1), iv 0, iv 1, iv 2])) := fun _ => rfl
 have x2 : ∀ h : Hp, Qcy h (some 4) (.d (.rp [iv 0, iv 1, iv 1, iv 2, iv (-1), iv 0, iv 1, iv 2])) = some (.d (.agg [iv 0, iv 1, iv 1, iv 2])) := fun _ => rfl
 simp only [eds, edc, iv, bv, sqD] at x1 x2 v1 v2 v3 v4 v5 v6 v7 v8 v9 v10 v11 v12 v13 v14 v15 k0 k1 k2 k3 k4 k5 kOf f1 f2 f3 c1 c2 c3 c4
 simp -implicitDefEqProofs (maxSteps:=9^8) only [QeZ, v1, v2, v3, v4, v5, v6, v7, v8, v9, v10, v11, v12, v13, v14, v15, k0, k1, k2, k3, k4, k5, kOf, f1, f2, f3, c1, c2, c3, c4, rep4_2, st8, ld8, Qdk, QbC, x1, x2, QkE, oneI, Bool.not_true, Bool.not_false, beq_self_eq_true, List.map_cons, List.map_nil, go_sem, iv, bv, reduceCtorEq, ↓reduceIte, Nat.reduceEqDiff]
end Go.AM

namespace Go.AM
open Go Go.RowKit

def bxV (v : Vc) : Obj := ⟨0, 0, [.d (.v (.bool (decide (v.1.num < 0)))), .d (dg (digs v.1.num.natAbs)), .d (.v (.bool false)), .d (dg (dd v.1.den)), .d (.v (.bool (decide (v.2.num < 0)))), .d (dg (digs v.2.num.natAbs)), .d (.v (.bool false)), .d (dg (dd v.2.den))], false⟩
end Go.AM
namespace Go.Proofs.YtfdelaplhpmneaaGreat.Pure
open Go Go.AM
end Go.Proofs.YtfdelaplhpmneaaGreat.Pure

/- What gap's answers mean: plain. -/
namespace Go.AM
open Go Go.RowKit
theorem ev3 {p : List Rat} (h : p.length ≤ 3) (s : Rat) : evR p s = p.getD 0 0 + p.getD 1 0 * s + p.getD 2 0 * (s * s) := by
 match p, h with
 | [], _ => simp only [evR, List.foldr, List.getD_nil]; grind
 | [a], _ => simp only [evR, List.foldr, List.getD_cons_zero, List.getD_cons_succ, List.getD_nil]; grind
 | [a, b], _ => simp only [evR, List.foldr, List.getD_cons_zero, List.getD_cons_succ, List.getD_nil]; grind
 | [a, b, c], _ => simp only [evR, List.foldr, List.getD_cons_zero, List.getD_cons_succ, List.getD_nil]; grind
theorem qd_line {a b c s : Rat} (h0 : 0 ≤ a) (h1 : 0 ≤ a + b + c) (hc : c ≤ 0) (hs : 0 ≤ s) (hs1 : s ≤ 1) : 0 ≤ a + b * s + c * (s * s) := by
 have k1 : 0 ≤ (1 - s) * a := Rat.mul_nonneg (by grind) h0
 have k2 : 0 ≤ s * (a + b + c) := Rat.mul_nonneg hs h1
 have k3 : 0 ≤ (-c) * (s * (1 - s)) := Rat.mul_nonneg (by grind) (Rat.mul_nonneg hs (by grind))
 grind
theorem qd_left {a b c s : Rat} (h0 : 0 ≤ a) (hc : 0 < c) (hb : 0 ≤ b) (hs : 0 ≤ s) : 0 ≤ a + b * s + c * (s * s) := by
 have k1 : 0 ≤ b * s := Rat.mul_nonneg hb hs
 have k3 : 0 ≤ c * (s * s) := Rat.mul_nonneg (Rat.le_of_lt hc) (Rat.mul_nonneg hs hs)
 grind
theorem qd_right {a b c s : Rat} (h1 : 0 ≤ a + b + c) (hc : 0 < c) (hb : 2 * c ≤ -b) (hs1 : s ≤ 1) : 0 ≤ a + b * s + c * (s * s) := by
 have k1 : 0 ≤ (1 - s) * (-b - 2 * c) := Rat.mul_nonneg (by grind) (by grind)
 have k3 : 0 ≤ c * ((1 - s) * (1 - s)) := Rat.mul_nonneg (Rat.le_of_lt hc) (Rat.mul_nonneg (by grind) (by grind))
 grind
theorem sq_nn (x : Rat) : 0 ≤ x * x := by
 rcases Rat.le_total (a := 0) (b := x) with h | h
 ·exact Rat.mul_nonneg h h
 ·have := Rat.mul_nonneg (a := -x) (b := -x) (by grind) (by grind)
  grind
theorem qd_top {a b c s t : Rat} (hc : 0 < c) (ht : t * (c * 2) = -b) (hv : 0 ≤ a + b * t + c * (t * t)) : 0 ≤ a + b * s + c * (s * s) := by
 have k3 : 0 ≤ c * ((s - t) * (s - t)) := Rat.mul_nonneg (Rat.le_of_lt hc) (sq_nn _)
 have e : a + b * s + c * (s * s) = (a + b * t + c * (t * t)) + c * ((s - t) * (s - t)) := by
  have hb : b = -(t * (c * 2)) := by grind
  rw [hb]
  grind
 rw [e]
 grind
theorem ve_mul {p : List Rat} (h : p.getD 2 0 ≠ 0) : veR p * (p.getD 2 0 * 2) = -(p.getD 1 0) := by
 unfold veR
 exact Rat.div_mul_cancel (fun h0 => h (by exact (Rat.mul_eq_zero.1 h0).resolve_right (by decide)))
theorem sta_nn {p : List Rat} (hl : p.length ≤ 3) (ht : Trm p) (h : staG p = true) {s : Rat} (hs : 0 ≤ s) (hs1 : s ≤ 1) : 0 ≤ evR p s := by
 have e0 := ev3 hl 0
 have e1 := ev3 hl 1
 rw [ev3 hl s]
 unfold staG at h
 by_cases h1 : evR p 0 < 0
 ·simp [h1] at h
 by_cases h2 : evR p 1 < 0
 ·simp [h2] at h
 have h1 := Rat.not_lt.1 h1
 have h2 := Rat.not_lt.1 h2
 rw [e0] at h1
 rw [e1] at h2
 rw [if_neg (by rw [Bool.or_eq_true, decide_eq_true_iff, decide_eq_true_iff]; rintro (h | h) <;> grind)] at h
 have f0 : 0 ≤ p.getD 0 0 := by grind
 have f1 : 0 ≤ p.getD 0 0 + p.getD 1 0 + p.getD 2 0 := by grind
 by_cases h3 : p.length < 3
 ·have z : p.getD 2 0 = 0 := by rw [List.getD_eq_getElem?_getD, List.getElem?_eq_none (by omega)]; rfl
  exact qd_line f0 f1 (by rw [z]; exact Rat.le_refl) hs hs1
 by_cases h4 : p.getD 2 0 < 0
 ·exact qd_line f0 f1 (Rat.le_of_lt h4) hs hs1
 have nz : p.getD 2 0 ≠ 0 := ht 2 (by omega)
 have hc : 0 < p.getD 2 0 := Rat.lt_of_le_of_ne (Rat.not_lt.1 h4) (fun e => nz e.symm)
 have hv := ve_mul nz
 rw [if_neg (by rw [Bool.or_eq_true, decide_eq_true_iff, decide_eq_true_iff]; exact fun h => h.elim h3 h4)] at h
 rw [Bool.or_eq_true, Bool.or_eq_true, decide_eq_true_iff, decide_eq_true_iff, decide_eq_true_iff] at h
 have hp : 0 < p.getD 2 0 * 2 := by grind
 rcases h with (h | h) | h
 ·have : 0 ≤ (-(veR p)) * (p.getD 2 0 * 2) := Rat.mul_nonneg (by grind) (Rat.le_of_lt hp)
  exact qd_left f0 hc (by grind) hs
 ·have : 0 ≤ (veR p - 1) * (p.getD 2 0 * 2) := Rat.mul_nonneg (by grind) (Rat.le_of_lt hp)
  exact qd_right f1 hc (by grind) hs1
 ·rw [ev3 hl] at h
  exact qd_top hc hv h
end Go.AM

