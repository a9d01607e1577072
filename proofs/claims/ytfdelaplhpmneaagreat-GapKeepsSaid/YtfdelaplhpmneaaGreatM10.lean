/- Part 10 of the proof: a small machine, its soundness against the model, and what the program's functions compute on it. -/
import Derived.Test.YtfdelaplhpmneaaGreatM9
import Derived.Test.YtfdelaplhpmneaaGreatM3
import Derived.Test.YtfdelaplhpmneaaGreatM8
set_option linter.unusedVariables false
set_option linter.unusedSimpArgs false
/- ref12.Sides. -/
namespace Go.AM
open Go Go.RowKit

def sqF : Nat → Nat → Nat
  | 0, _ => 0
  | f + 1, n => if f * f = n then f else sqF f n
def sqI (n : Int) : Int := (sqF 60 n.toNat : Nat)
def sdx (l : List Pt) (i : Nat) : Int := (nxP l i).1 - (l.getD i default).1
def sdy (l : List Pt) (i : Nat) : Int := (nxP l i).2 - (l.getD i default).2
def sdh (l : List Pt) (i : Nat) : Int := sqI (sdx l i * sdx l i + sdy l i * sdy l i)
def sdN (l : List Pt) (i : Nat) : Dr := nrP (sdx l i) (sdy l i) (sdh l i)
def tnD (d : Dr) : Dr := (-d.1, -d.2.1, d.2.2)
/-- A direction as the shapes' sides have them. -/
def NmD (d : Dr) : Prop := (-100 ≤ d.1 ∧ d.1 ≤ 100) ∧ (-100 ≤ d.2.1 ∧ d.2.1 ≤ 100) ∧ (1 ≤ d.2.2 ∧ d.2.2 ≤ 100)
theorem NmD.sm {d : Dr} (h : NmD d) : SmD d := ⟨⟨by have := h.1; omega, by have := h.1; omega⟩, ⟨by have := h.2.1; omega, by have := h.2.1; omega⟩, ⟨by have := h.2.2; omega, by have := h.2.2; omega⟩⟩
theorem NmD.tn {d : Dr} (h : NmD d) : NmD (tnD d) := by
  obtain ⟨h1, h2, h3⟩ := h
  unfold NmD tnD
  dsimp only
  omega
structure GdS (l : List Pt) : Prop where
  pos : 0 < l.length
  le : l.length ≤ 10
  sm : ∀ p ∈ l, SmP p
  sq : ∀ i, i < l.length → sdh l i * sdh l i = sdx l i * sdx l i + sdy l i * sdy l i ∧ 0 < sdh l i
  nm : ∀ i, i < l.length → NmD (sdN l i)
def chkS (l : List Pt) : Bool := (List.range l.length).all fun i => decide (sdh l i * sdh l i = sdx l i * sdx l i + sdy l i * sdy l i) && decide (0 < sdh l i) &&
  decide (-100 ≤ (sdN l i).1) && decide ((sdN l i).1 ≤ 100) && decide (-100 ≤ (sdN l i).2.1) && decide ((sdN l i).2.1 ≤ 100) && decide (1 ≤ (sdN l i).2.2) && decide ((sdN l i).2.2 ≤ 100)
theorem chk_all : ((List.range 7).all fun c => (List.range 3).all fun k => (List.range 6).all fun m => chkS (spB (c : Int) (1 + (k : Int)) (1 + (m : Int)))) = true := by kernel_rfl
theorem Qey (tx ty : Int) {l : List Pt} {i : Nat} (h : i < l.length) : (l.map (mvP tx ty)).getD i default = mvP tx ty (l.getD i default) := by
  rw [List.getD_eq_getElem?_getD, List.getD_eq_getElem?_getD, List.getElem?_map, List.getElem?_eq_getElem h]; rfl
theorem mv_nx (tx ty : Int) {l : List Pt} {i : Nat} (h : i < l.length) : nxP (l.map (mvP tx ty)) i = mvP tx ty (nxP l i) := by
  unfold nxP
  rw [List.length_map]
  split
  · rw [Qey _ _ (by omega)]
  · rw [Qey _ _ (by omega)]
theorem mv_sdx (tx ty : Int) {l : List Pt} {i : Nat} (h : i < l.length) : sdx (l.map (mvP tx ty)) i = sdx l i := by
  unfold sdx
  rw [mv_nx _ _ h, Qey _ _ h]
  unfold mvP
  dsimp only
  omega
theorem mv_sdy (tx ty : Int) {l : List Pt} {i : Nat} (h : i < l.length) : sdy (l.map (mvP tx ty)) i = sdy l i := by
  unfold sdy
  rw [mv_nx _ _ h, Qey _ _ h]
  unfold mvP
  dsimp only
  omega
theorem mv_sdh (tx ty : Int) {l : List Pt} {i : Nat} (h : i < l.length) : sdh (l.map (mvP tx ty)) i = sdh l i := by unfold sdh; rw [mv_sdx _ _ h, mv_sdy _ _ h]
theorem QlX (tx ty : Int) {l : List Pt} {i : Nat} (h : i < l.length) : sdN (l.map (mvP tx ty)) i = sdN l i := by unfold sdN; rw [mv_sdx _ _ h, mv_sdy _ _ h, mv_sdh _ _ h]
theorem spB_chk {c k m : Int} (hc : 0 ≤ c ∧ c < 7) (hk : 1 ≤ k ∧ k < 4) (hm : 1 ≤ m ∧ m < 7) : chkS (spB c k m) = true := by
  have h := chk_all
  rw [List.all_eq_true] at h
  have h1 := h c.toNat (List.mem_range.2 (by omega))
  rw [List.all_eq_true] at h1
  have h2 := h1 (k - 1).toNat (List.mem_range.2 (by omega))
  rw [List.all_eq_true] at h2
  have h3 := h2 (m - 1).toNat (List.mem_range.2 (by omega))
  rwa [show ((c.toNat : Nat) : Int) = c by omega, show 1 + (((k - 1).toNat : Nat) : Int) = k by omega, show 1 + (((m - 1).toNat : Nat) : Int) = m by omega] at h3
theorem gd_mv {c k m x y : Int} (hc : 0 ≤ c ∧ c < 7) (hk : 1 ≤ k ∧ k < 4) (hm : 1 ≤ m ∧ m < 7) (hx : -10000000 ≤ x ∧ x ≤ 10000000) (hy : -10000000 ≤ y ∧ y ≤ 10000000) : GdS ((spB c k m).map (mvP x y)) := by
  have hl := QmZ c k m
  have hch := spB_chk hc hk hm
  unfold chkS at hch
  rw [List.all_eq_true] at hch
  have hb := spB_sm (c := c) hk hm
  refine ⟨by rw [List.length_map]; omega, by rw [List.length_map]; omega, ?_, fun i hi => ?_, fun i hi => ?_⟩
  · intro p hp
    obtain ⟨q, hq, rfl⟩ := List.mem_map.1 hp
    have := hb q hq
    unfold mvP
    exact ⟨⟨by dsimp only; omega, by dsimp only; omega⟩, ⟨by dsimp only; omega, by dsimp only; omega⟩⟩
  all_goals
    rw [List.length_map] at hi
    have h1 := hch i (List.mem_range.2 hi)
    simp only [Bool.and_eq_true, decide_eq_true_eq] at h1
    obtain ⟨⟨⟨⟨⟨⟨⟨h1, h2⟩, h3⟩, h4⟩, h5⟩, h6⟩, h7⟩, h8⟩ := h1
  · rw [mv_sdh _ _ hi, mv_sdx _ _ hi, mv_sdy _ _ hi]; exact ⟨h1, h2⟩
  · rw [QlX _ _ hi]; exact ⟨⟨h3, h4⟩, ⟨h5, h6⟩, ⟨h7, h8⟩⟩
theorem gd_sh (l : List Int) : GdS (spP l) := by
  obtain ⟨h1, h2, h3, h4, h5⟩ := sh_b l
  exact gd_mv h1 h2 h3 ⟨by omega, by omega⟩ ⟨by omega, by omega⟩

def drA (a : List Pt) (n : Nat) : List Dr := (List.range n).map (sdN a)
def drB (b : List Pt) (n : Nat) : List Dr := (List.range n).map fun i => tnD (sdN b i)
def drs (a b : List Pt) : List Dr := drA a a.length ++ drB b b.length
def eqDr (a b : Dr) : Bool := (a.1 == b.1) && ((a.2.1 == b.2.1) && (a.2.2 == b.2.2))
def frI (ds : List Dr) (i : Nat) : Nat → Bool
  | 0 => true
  | k + 1 => frI ds i k && !(eqDr (ds.getD k default) (ds.getD i default))
def edP (a b : List Pt) (d : Dr) : Eg := (d, moP d a + moP (tnD d) b)
def sdO (a b : List Pt) (ds : List Dr) : Nat → List Eg
  | 0 => []
  | i + 1 => if frI ds i i then sdO a b ds i ++ [edP a b (ds.getD i default)] else sdO a b ds i
def sdP (a b : List Pt) : List Eg := sdO a b (drs a b) (drs a b).length
theorem eqD3 (a b c a' b' c' : Int) : eqD [.v (.int .i64 a), .v (.int .i64 b), .v (.int .i64 c)] [.v (.int .i64 a'), .v (.int .i64 b'), .v (.int .i64 c')] = some ((a == a') && ((b == b') && (c == c'))) := by simp [eqD]
theorem Qhg (a : List Pt) (n : Nat) : (drA a n).length = n := by simp [drA]
theorem drB_len (a : List Pt) (n : Nat) : (drB a n).length = n := by simp [drB]
theorem drA_succ (a : List Pt) (n : Nat) : drA a (n + 1) = drA a n ++ [sdN a n] := by unfold drA; rw [List.range_succ, List.map_append]; rfl
theorem drB_succ (a : List Pt) (n : Nat) : drB a (n + 1) = drB a n ++ [tnD (sdN a n)] := by unfold drB; rw [List.range_succ, List.map_append]; rfl
theorem QiI (a b : List Pt) : (drs a b).length = a.length + b.length := by unfold drs; rw [List.length_append, Qhg, drB_len]
theorem drs_nm {a b : List Pt} (ha : GdS a) (hb : GdS b) : ∀ d ∈ drs a b, NmD d := by
  intro d hd
  rcases List.mem_append.1 hd with h | h
  · obtain ⟨i, hi, rfl⟩ := List.mem_map.1 h
    exact ha.nm i (List.mem_range.1 hi)
  · obtain ⟨i, hi, rfl⟩ := List.mem_map.1 h
    exact (hb.nm i (List.mem_range.1 hi)).tn
theorem Qkk (a b : List Pt) (ds : List Dr) : ∀ i, (sdO a b ds i).length ≤ i
  | 0 => by simp [sdO]
  | i + 1 => by
    have := Qkk a b ds i
    rw [sdO]
    split
    · rw [List.length_append]; simp; omega
    · omega
theorem QlU {d : Dr} {l : List Pt} (hd : NmD d) (hl : ∀ p ∈ l, SmP p) : ∀ i, -20000000000000000 ≤ mstN d l i ∧ mstN d l i ≤ 20000000000000000 := by
  have h : ∀ i, -20000000000000000 ≤ dotI d (l.getD i default) ∧ dotI d (l.getD i default) ≤ 20000000000000000 := by
    intro i
    have hp := QbE hl smP0 i
    have h1 := Qjx hd.sm.1 hp.1
    have h2 := Qjx hd.sm.2.1 hp.2
    unfold dotI
    omega
  intro i
  induction i with
  | zero => exact h 0
  | succ i ih =>
    have := h i
    rw [mstN]
    omega
def Qh0 (da db : D) (L : List Dr) (i : Int) : St := mkS [(0, .d da), (1, .d db), (5, gAE 36 L), (6, ai i)] (gHE cD 3 36 L)
def QoB (da db : D) (L : List Dr) : St := mkS [(0, .d da), (1, .d db), (5, gAE 36 L)] (gHE cD 3 36 L)
def QkC (da db : D) (L : List Dr) (i : Int) : St := mkS [(0, .d da), (1, .d db), (5, .own [36] L.length), (9, ai i)] [([36], arE cD 3 L.length L)]
def QqH (da db : D) (L : List Dr) : St := mkS [(0, .d da), (1, .d db), (5, .own [36] L.length)] [([36], arE cD 3 L.length L)]
def QhD (da db : D) (L : List Dr) (O : List Eg) (i : Int) (f : Bool) (k : Int) : St := mkS [(0, .d da), (1, .d db), (5, .own [36] L.length), (12, gAE 104 O), (13, ai i), (14, ab f), (15, ai k)] (([36], arE cD 3 L.length L) :: gHE cG 4 104 O)
def Qow (da db : D) (L : List Dr) (O : List Eg) (i : Int) (f : Bool) : St := mkS [(0, .d da), (1, .d db), (5, .own [36] L.length), (12, gAE 104 O), (13, ai i), (14, ab f)] (([36], arE cD 3 L.length L) :: gHE cG 4 104 O)
def Qgf (da db : D) (L : List Dr) (O : List Eg) (i : Int) : St := mkS [(0, .d da), (1, .d db), (5, .own [36] L.length), (12, gAE 104 O), (13, ai i)] (([36], arE cD 3 L.length L) :: gHE cG 4 104 O)
def QoM (O : List Eg) : St := mkS [(12, gAE 104 O)] (gHE cG 4 104 O)
theorem bnd3 {n : Nat} (h : n ≤ 1000) : ((n + 1) * 24 ≤ bound) = True := eq_true (by unfold bound; omega)
theorem bnd4 {n : Nat} (h : n ≤ 1000) : ((n + 1) * 32 ≤ bound) = True := eq_true (by unfold bound; omega)
theorem b24 : (24 ≤ bound) = True := eq_true (by unfold bound; omega)
theorem b24' : (1 * 24 ≤ bound) = True := eq_true (by unfold bound; omega)
theorem b32 : (32 ≤ bound) = True := eq_true (by unfold bound; omega)
theorem b32' : (1 * 32 ≤ bound) = True := eq_true (by unfold bound; omega)

theorem Qlj (x : Obj) : QbH (hupd hp0 [104] x) [58] none = hupd hp0 [104] x := by
  funext j
  simp only [QbH, hupd]
  split
  · rename_i h
    subst h
    simp [hp0]
  · rfl

theorem sdP_ne {a b : List Pt} (ha : GdS a) : sdP a b ≠ [] := by
  unfold sdP
  have h1 : 0 < (drs a b).length := by rw [QiI]; have := ha.pos; omega
  have key : ∀ n, 0 < n → sdO a b (drs a b) n ≠ [] := by
    intro n
    induction n with
    | zero => intro h; omega
    | succ n ih =>
      intro _
      rw [sdO]
      by_cases hn : 0 < n
      · split
        · simp
        · exact ih hn
      · have : n = 0 := by omega
        subst this
        simp [frI]
  exact key _ h1
variable [Its]
theorem sd0_go {da db : D} {a : List Pt} (hr : RwE cP da a) (ha : GdS a) {L : List Dr} (hL : L.length ≤ 1000) {i : Nat} (hi : i < a.length) : X G QaZ (Qh0 da db L i) = some (.n, Qh0 da db (L ++ [sdN a i]) ((i + 1 : Nat) : Int)) := by
  have hle := ha.le
  have ll := hr.len
  have e1 : decide ((i : Int) < (a.length : Int)) = true := lt_t (by omega)
  have e2 : w64 ((i : Int) + 1) = ((i + 1 : Nat) : Int) := by rw [Qac (by omega) (by omega)]; rfl
  have x1 := hr.ixa Qbk hi
  have x2 := fun hp => ldE Qbk hp hi
  have g1 := Qoe hr hi (by omega)
  have hp := QbE ha.sm smP0 i
  have hn : SmP (nxP a i) := by unfold nxP; split <;> exact QbE ha.sm smP0 _
  have g2 := QnK (h := sdh a i) hp hn (ha.sq i hi).1 (ha.sq i hi).2
  have e3 : nrP ((nxP a i).1 - (a.getD i default).1) ((nxP a i).2 - (a.getD i default).2) (sdh a i) = sdN a i := rfl
  rw [e3] at g2
  simp only [encP, cP, encD, cD, iv, bv] at x2 g1 g2
  generalize (nxP a i).1 = n1 at *
  generalize (nxP a i).2 = n2 at *
  generalize (a.getD i default).1 = p1 at *
  generalize (a.getD i default).2 = p2 at *
  clear e3 hp hn
  generalize sdN a i = v at *
  obtain ⟨u1, u2, u3⟩ := v
  dsimp only at g2
  by_cases h0 : L = []
  · subst h0
    have hq : ([(u1, u2, u3)] : List Dr) ≠ [] := by simp
    simp -implicitDefEqProofs (maxSteps := 10000000) only [QaZ, Qh0, QbW, QbX, Qb9 hq, Qcd hq, arE, flat1D, Qad, List.nil_append, List.cons_append, List.length_nil, List.length_cons, Nat.zero_add, List.map_cons, List.map_nil, rep1_3, oneI, srcS, src, allD, Qae, Qaa, b24, b24', ll, x1, x2, g1, g2, go_sem, iv, bv, e1, e2, reduceCtorEq, ↓reduceIte, Nat.reduceEqDiff]
  · have n3 := lenE QoV L
    have n4 := bnd3 hL
    simp -implicitDefEqProofs (maxSteps := 10000000) only [QaZ, Qh0, Qad, Qb9 h0, Qcd h0, QjX, Qj7, arE, cD_snoc, QaO, n3, n4, List.nil_append, List.cons_append, List.length_nil, List.length_cons, Nat.zero_add, List.map_cons, List.map_nil, List.all_cons, List.all_nil, rep1_3, oneI, srcS, src, allD, QlA, Qaa, ll, x1, x2, g1, g2, go_sem, iv, bv, e1, e2, reduceCtorEq, ↓reduceIte, Nat.reduceEqDiff]
theorem sd0_stop {da db : D} {a : List Pt} (hr : RwE cP da a) {L : List Dr} : X G QaZ (Qh0 da db L a.length) = some (.x 0, QoB da db L) := by
  have ll := hr.len
  have e1 : decide ((a.length : Int) < (a.length : Int)) = false := lt_f (by omega)
  by_cases h0 : L = []
  · subst h0
    simp -implicitDefEqProofs (maxSteps := 10000000) only [QaZ, Qh0, QoB, QbW, QbX, Qad, ll, go_sem, iv, bv, e1, reduceCtorEq, ↓reduceIte, Nat.reduceEqDiff]
  · simp -implicitDefEqProofs (maxSteps := 10000000) only [QaZ, Qh0, QoB, Qb9 h0, Qcd h0, Qad, arE, QaO, ll, go_sem, iv, bv, e1, reduceCtorEq, ↓reduceIte, Nat.reduceEqDiff]
theorem QqX {da db : D} {a : List Pt} (hr : RwE cP da a) (ha : GdS a) : ∀ (j i : Nat), i + j = a.length → X G (.loop QaZ) (Qh0 da db (drA a i) i) = some (.x 0, QoB da db (drA a a.length))
  | 0, i, h => by
    have : i = a.length := by omega
    subst this
    rw [Qak, sd0_stop hr]; rfl
  | j + 1, i, h => by
    have ih := QqX (db := db) hr ha j (i + 1) (by omega)
    rw [drA_succ] at ih
    rw [Qak, sd0_go hr ha (by rw [Qhg]; have := ha.le; omega) (by omega), Option.bind_some, if_pos rfl]
    exact ih
theorem sd1_go {da db : D} {b : List Pt} (hr : RwE cP db b) (hb : GdS b) {L : List Dr} (h0 : L ≠ []) (hL : L.length ≤ 1000) {i : Nat} (hi : i < b.length) : X G QbC (QkC da db L i) = some (.n, QkC da db (L ++ [tnD (sdN b i)]) ((i + 1 : Nat) : Int)) := by
  have hle := hb.le
  have ll := hr.len
  have e1 : decide ((i : Int) < (b.length : Int)) = true := lt_t (by omega)
  have e2 : w64 ((i : Int) + 1) = ((i + 1 : Nat) : Int) := by rw [Qac (by omega) (by omega)]; rfl
  have x1 := hr.ixa Qbk hi
  have x2 := fun hp => ldE Qbk hp hi
  have g1 := Qoe hr hi (by omega)
  have hp := QbE hb.sm smP0 i
  have hn : SmP (nxP b i) := by unfold nxP; split <;> exact QbE hb.sm smP0 _
  have g2 := QnK (h := sdh b i) hp hn (hb.sq i hi).1 (hb.sq i hi).2
  have e3 : nrP ((nxP b i).1 - (b.getD i default).1) ((nxP b i).2 - (b.getD i default).2) (sdh b i) = sdN b i := rfl
  rw [e3] at g2
  have g3 := Qol (hb.nm i hi).sm
  simp only [encP, cP, encD, cD, iv, bv] at x2 g1 g2 g3
  generalize (nxP b i).1 = n1 at *
  generalize (nxP b i).2 = n2 at *
  generalize (b.getD i default).1 = p1 at *
  generalize (b.getD i default).2 = p2 at *
  clear e3 hp hn
  generalize sdN b i = v at *
  obtain ⟨u1, u2, u3⟩ := v
  dsimp only at g2 g3
  unfold tnD
  dsimp only
  generalize -u1 = v1 at *
  generalize -u2 = v2 at *
  have n3 := lenE QoV L
  have n4 := bnd3 hL
  have n5 : (L ++ [(v1, v2, u3)]).length = L.length + 1 := by simp
  simp -implicitDefEqProofs (maxSteps := 10000000) only [QbC, QkC, Qad, arE, n5, cD_snoc, QaO, n3, n4, List.nil_append, List.cons_append, List.length_nil, List.length_cons, Nat.zero_add, List.map_cons, List.map_nil, List.all_cons, List.all_nil, rep1_3, oneI, srcS, src, allD, QlA, Qaa, ll, x1, x2, g1, g2, g3, go_sem, iv, bv, e1, e2, reduceCtorEq, ↓reduceIte, Nat.reduceEqDiff]
theorem sd1_stop {da db : D} {b : List Pt} (hr : RwE cP db b) {L : List Dr} : X G QbC (QkC da db L b.length) = some (.x 2, QqH da db L) := by
  have ll := hr.len
  have e1 : decide ((b.length : Int) < (b.length : Int)) = false := lt_f (by omega)
  simp -implicitDefEqProofs (maxSteps := 10000000) only [QbC, QkC, QqH, Qad, arE, QaO, ll, go_sem, iv, bv, e1, reduceCtorEq, ↓reduceIte, Nat.reduceEqDiff]
theorem Qq3 {da db : D} {b : List Pt} {L0 : List Dr} (hr : RwE cP db b) (hb : GdS b) (h0 : L0 ≠ []) (hL : L0.length ≤ 100) : ∀ (j i : Nat), i + j = b.length → X G (.loop QbC) (QkC da db (L0 ++ drB b i) i) = some (.x 2, QqH da db (L0 ++ drB b b.length))
  | 0, i, h => by
    have : i = b.length := by omega
    subst this
    rw [Qak, sd1_stop hr]; rfl
  | j + 1, i, h => by
    have ih := Qq3 (da := da) hr hb h0 hL j (i + 1) (by omega)
    rw [drB_succ, ← List.append_assoc] at ih
    rw [Qak, sd1_go hr hb (by simp [h0]) (by rw [List.length_append, drB_len]; have := hb.le; omega) (by omega), Option.bind_some, if_pos rfl]
    exact ih
theorem sd2_go {da db : D} {L : List Dr} {O : List Eg} (hL : L.length ≤ 1000) {i k : Nat} {f : Bool} (hi : i < L.length) (hk : k < i) : X G Qa0 (QhD da db L O i f k) = some (.n, QhD da db L O i (f && !(eqDr (L.getD k default) (L.getD i default))) ((k + 1 : Nat) : Int)) := by
  have e1 : decide ((k : Int) < (i : Int)) = true := lt_t (by omega)
  have e2 : w64 ((k : Int) + 1) = ((k + 1 : Nat) : Int) := by rw [Qac (by omega) (by omega)]; rfl
  have b1 : (0 ≤ (k : Int)) = True := eq_true (by omega)
  have b2 : ((k : Int) < (L.length : Int)) = True := eq_true (by omega)
  have b3 : (0 ≤ (i : Int)) = True := eq_true (by omega)
  have b4 : ((i : Int) < (L.length : Int)) = True := eq_true (by omega)
  have x1 := ldO QoV (l := L) (j := k) (by omega)
  have x2 := ldO QoV (l := L) (j := i) hi
  unfold eqDr
  generalize L.getD k default = p at *
  generalize L.getD i default = q at *
  obtain ⟨p1, p2, p3⟩ := p
  obtain ⟨q1, q2, q3⟩ := q
  simp only [cD, iv] at x1 x2
  have e3 := eqD3 p1 p2 p3 q1 q2 q3
  dsimp only
  obtain ⟨t, ht⟩ : ∃ t, ((p1 == q1) && ((p2 == q2) && (p3 == q3))) = t := ⟨_, rfl⟩
  rw [ht] at e3 ⊢
  by_cases h0 : O = []
  · subst h0
    cases f <;> cases t <;> simp -implicitDefEqProofs (maxSteps := 10000000) only [Qa0, QhD, QbW, QbX, Qad, Qlj, arE, QaO, Int.toNat_natCast, x1, x2, e3, ht, b1, b2, b3, b4, Bool.not_true, Bool.not_false, Bool.and_false, Bool.and_true, go_sem, iv, bv, e1, e2, reduceCtorEq, ↓reduceIte, Nat.reduceEqDiff]
  · cases f <;> cases t <;> simp -implicitDefEqProofs (maxSteps := 10000000) only [Qa0, QhD, Qb9 h0, Qcd h0, Qad, Qlj, arE, QaO, Int.toNat_natCast, x1, x2, e3, ht, b1, b2, b3, b4, Bool.not_true, Bool.not_false, Bool.and_false, Bool.and_true, go_sem, iv, bv, e1, e2, reduceCtorEq, ↓reduceIte, Nat.reduceEqDiff]
theorem sd2_stop {da db : D} {L : List Dr} {O : List Eg} {i : Nat} {f : Bool} : X G Qa0 (QhD da db L O i f i) = some (.x 6, Qow da db L O i f) := by
  have e1 : decide ((i : Int) < (i : Int)) = false := lt_f (by omega)
  by_cases h0 : O = []
  · subst h0
    simp -implicitDefEqProofs (maxSteps := 10000000) only [Qa0, QhD, Qow, QbW, QbX, Qad, Qlj, arE, QaO, go_sem, iv, bv, e1, reduceCtorEq, ↓reduceIte, Nat.reduceEqDiff]
  · simp -implicitDefEqProofs (maxSteps := 10000000) only [Qa0, QhD, Qow, Qb9 h0, Qcd h0, Qad, Qlj, arE, QaO, go_sem, iv, bv, e1, reduceCtorEq, ↓reduceIte, Nat.reduceEqDiff]
theorem QqY {da db : D} {L : List Dr} {O : List Eg} (hL : L.length ≤ 1000) {i : Nat} (hi : i < L.length) : ∀ (j k : Nat), k + j = i → X G (.loop Qa0) (QhD da db L O i (frI L i k) k) = some (.x 6, Qow da db L O i (frI L i i))
  | 0, k, h => by
    have : k = i := by omega
    subst this
    rw [Qak, sd2_stop]; rfl
  | j + 1, k, h => by
    rw [Qak, sd2_go hL hi (by omega), Option.bind_some, if_pos rfl]
    exact QqY hL hi j (k + 1) (by omega)
theorem sd3_go {da db : D} {a b : List Pt} (hra : RwE cP da a) (hrb : RwE cP db b) (ha : GdS a) (hb : GdS b) {L : List Dr} (hLn : ∀ d ∈ L, NmD d) {O : List Eg} (hL : L.length ≤ 1000) (hO : O.length ≤ 1000) {i : Nat} (hi : i < L.length) :
    X G QaJ (Qgf da db L O i) = some (.n, Qgf da db L (if frI L i i then O ++ [edP a b (L.getD i default)] else O) ((i + 1 : Nat) : Int)) := by
  have e1 : decide ((i : Int) < (L.length : Int)) = true := lt_t (by omega)
  have e2 : w64 ((i : Int) + 1) = ((i + 1 : Nat) : Int) := by rw [Qac (by omega) (by omega)]; rfl
  have b3 : (0 ≤ (i : Int)) = True := eq_true (by omega)
  have b4 : ((i : Int) < (L.length : Int)) = True := eq_true (by omega)
  have gl := QqY (da := da) (db := db) (O := O) hL hi i 0 (by omega)
  have ef : frI L i 0 = true := rfl
  rw [ef] at gl
  generalize frI L i i = f at *
  have x2 := ldO QoV (l := L) (j := i) hi
  have hd : NmD (L.getD i default) := by rw [List.getD_eq_getElem?_getD, List.getElem?_eq_getElem hi]; exact hLn _ (List.getElem_mem hi)
  have g1 := Qnv hra ha.pos ha.sm hd.sm (by have := ha.le; omega)
  have g2 := Qol hd.sm
  have g3 := Qnv hrb hb.pos hb.sm hd.tn.sm (by have := hb.le; omega)
  have m1 : -20000000000000000 ≤ moP (L.getD i default) a ∧ moP (L.getD i default) a ≤ 20000000000000000 := QlU hd ha.sm _
  have m2 : -20000000000000000 ≤ moP (tnD (L.getD i default)) b ∧ moP (tnD (L.getD i default)) b ≤ 20000000000000000 := QlU hd.tn hb.sm _
  unfold edP
  obtain ⟨z, hz⟩ : ∃ z, moP (L.getD i default) a + moP (tnD (L.getD i default)) b = z := ⟨_, rfl⟩
  have e3 : w64 (moP (L.getD i default) a + moP (tnD (L.getD i default)) b) = z := by rw [Qac (by omega) (by omega), hz]
  rw [hz]
  clear hz
  generalize moP (L.getD i default) a = z1 at *
  generalize moP (tnD (L.getD i default)) b = z2 at *
  clear hd hLn
  generalize L.getD i default = p at *
  obtain ⟨p1, p2, p3⟩ := p
  simp only [encD, cD, tnD, iv] at x2 g1 g2 g3
  generalize -p1 = v1 at *
  generalize -p2 = v2 at *
  simp only [QhD, Qow, nc0] at gl
  cases f with
  | false =>
    rw [if_neg (by simp)]
    by_cases h0 : O = []
    · subst h0
      simp only [QbW, QbX, arE, go_sem] at gl
      simp -implicitDefEqProofs (maxSteps := 10000000) only [QaJ, Qgf, gl, QbW, QbX, Qad, Qlj, arE, QaO, go_sem, iv, bv, e1, e2, reduceCtorEq, ↓reduceIte, Nat.reduceEqDiff]
    · simp only [Qb9 h0, Qcd h0, arE, go_sem] at gl
      simp -implicitDefEqProofs (maxSteps := 10000000) only [QaJ, Qgf, gl, Qb9 h0, Qcd h0, Qad, Qlj, arE, QaO, go_sem, iv, bv, e1, e2, reduceCtorEq, ↓reduceIte, Nat.reduceEqDiff]
  | true =>
    rw [if_pos rfl]
    by_cases h0 : O = []
    · subst h0
      have hq : ([((p1, p2, p3), z)] : List Eg) ≠ [] := by simp
      simp only [QbW, QbX, arE, go_sem] at gl
      simp -implicitDefEqProofs (maxSteps := 10000000) only [QaJ, Qgf, gl, QbW, QbX, Qb9 hq, Qcd hq, flat1G, Qad, Qlj, arE, QaO, Int.toNat_natCast, b3, b4, x2, g1, g2, g3, e3, b32, b32', Qjz, oneI, srcS, src, allD, List.nil_append, List.cons_append, List.append_nil, List.length_nil, List.length_cons, Nat.zero_add, List.map_cons, List.map_nil, List.all_cons, List.all_nil, Qc5, QbD, go_sem, iv, bv, e1, e2, reduceCtorEq, ↓reduceIte, Nat.reduceEqDiff]
    · have n3 := lenE QeT O
      have n4 := bnd4 hO
      simp only [Qb9 h0, Qcd h0, arE, go_sem] at gl
      simp -implicitDefEqProofs (maxSteps := 10000000) only [QaJ, Qgf, gl, Qb9 h0, Qcd h0, QjX, Qj7, QpC, Qad, Qlj, arE, QaO, n3, n4, Int.toNat_natCast, b3, b4, x2, g1, g2, g3, e3, Qjz, oneI, srcS, src, allD, List.nil_append, List.cons_append, List.append_nil, List.length_nil, List.length_cons, Nat.zero_add, List.map_cons, List.map_nil, List.all_cons, List.all_nil, Qc5, QbD, go_sem, iv, bv, e1, e2, reduceCtorEq, ↓reduceIte, Nat.reduceEqDiff]
theorem sd3_stop {da db : D} {L : List Dr} {O : List Eg} : X G QaJ (Qgf da db L O L.length) = some (.x 4, QoM O) := by
  have e1 : decide ((L.length : Int) < (L.length : Int)) = false := lt_f (by omega)
  by_cases h0 : O = []
  · subst h0
    simp -implicitDefEqProofs (maxSteps := 10000000) only [QaJ, Qgf, QoM, QbW, QbX, Qad, Qlj, arE, QaO, go_sem, iv, bv, e1, reduceCtorEq, ↓reduceIte, Nat.reduceEqDiff]
  · simp -implicitDefEqProofs (maxSteps := 10000000) only [QaJ, Qgf, QoM, Qb9 h0, Qcd h0, Qad, Qlj, arE, QaO, go_sem, iv, bv, e1, reduceCtorEq, ↓reduceIte, Nat.reduceEqDiff]
theorem Qq6 {da db : D} {a b : List Pt} (hra : RwE cP da a) (hrb : RwE cP db b) (ha : GdS a) (hb : GdS b) {L : List Dr} (hLn : ∀ d ∈ L, NmD d) (hL : L.length ≤ 1000) : ∀ (j i : Nat), i + j = L.length → X G (.loop QaJ) (Qgf da db L (sdO a b L i) i) = some (.x 4, QoM (sdO a b L L.length))
  | 0, i, h => by
    have : i = L.length := by omega
    subst this
    rw [Qak, sd3_stop]; rfl
  | j + 1, i, h => by
    rw [Qak, sd3_go hra hrb ha hb hLn hL (by have := Qkk a b L i; omega) (by omega), Option.bind_some, if_pos rfl]
    exact Qq6 hra hrb ha hb hLn hL j (i + 1) (by omega)
theorem Ql6 {da db : D} {a b : List Pt} (hra : RwE cP da a) (hrb : RwE cP db b) (ha : GdS a) (hb : GdS b) : Qaj G QcS [da, db] = some (.own 4 (sdP a b).length ((sdP a b).flatMap cG)) := by
  rw [Qaf (cf := gantryref12_Sides) rfl]
  have hna : drA a a.length ≠ [] := fun h => by
    have h1 := Qhg a a.length
    rw [h] at h1
    have := ha.pos
    simp at h1
    omega
  have g0 := QqX (db := db) hra ha a.length 0 (by omega)
  have g1 := Qq3 (da := da) (L0 := drA a a.length) hrb hb hna (by rw [Qhg]; have := ha.le; omega) b.length 0 (by omega)
  have g2 := Qq6 hra hrb ha hb (drs_nm ha hb) (by rw [QiI]; have := ha.le; have := hb.le; omega) (drs a b).length 0 (by omega)
  have hne := sdP_ne (b := b) ha
  have e0 : drA a 0 = [] := rfl
  have e1 : drA a a.length ++ drB b 0 = drA a a.length := List.append_nil _
  have e2 : drA a a.length ++ drB b b.length = drs a b := rfl
  have e3 : sdO a b (drs a b) 0 = [] := rfl
  have e4 : sdO a b (drs a b) (drs a b).length = sdP a b := rfl
  rw [e0] at g0
  rw [e1, e2] at g1
  rw [e3, e4] at g2
  generalize drs a b = L at *
  generalize drA a a.length = L0 at *
  generalize sdP a b = O at *
  simp only [Qh0, QoB, QbW, QbX, Qb9 hna, Qcd hna, arE, Qad, go_sem, nc0, iv] at g0
  simp only [QkC, QqH, arE, Qad, go_sem, nc0, iv] at g1
  simp only [Qgf, QoM, QbW, QbX, Qb9 hne, Qcd hne, arE, Qad, go_sem, nc0, iv] at g2
  simp -implicitDefEqProofs (maxSteps := 10000000) only [gantryref12_Sides, g0, g1, g2, QaO, Qh2, Qad, Qlj, go_sem, iv, bv, reduceCtorEq, ↓reduceIte, Nat.reduceEqDiff]
end Go.AM

/- Rows and arrays of rationals. -/
namespace Go.AM
open Go Go.RowKit

def cRs : List Rat → List D
  | [] => []
  | q :: l => .v (.bool (decide (q.num < 0))) :: dg (digs q.num.natAbs) :: .v (.bool false) :: dg (dd q.den) :: cRs l
def rowR (l : List Rat) : D := .row l.length (cRs l)
theorem QfC : ∀ l : List Rat, (cRs l).length = l.length * 4
  | [] => rfl
  | q :: l => by simp only [cRs, List.length_cons, QfC l]; omega
theorem QmM : ∀ (l : List Rat) (n : Nat), (cRs l).drop (n * 4) = cRs (l.drop n)
  | [], n => by simp [cRs]
  | q :: l, 0 => rfl
  | q :: l, n + 1 => by
    rw [show (n + 1) * 4 = n * 4 + 1 + 1 + 1 + 1 by omega, cRs]
    simp only [List.drop_succ_cons]
    exact QmM l n
theorem Qj6 : ∀ (l : List Rat) (n : Nat), (cRs l).take (n * 4) = cRs (l.take n)
  | [], n => by simp [cRs]
  | q :: l, 0 => rfl
  | q :: l, n + 1 => by
    rw [show (n + 1) * 4 = n * 4 + 1 + 1 + 1 + 1 by omega, cRs]
    simp only [List.take_succ_cons, Qj6 l n, cRs]
theorem cRs_inj : ∀ {l m : List Rat}, cRs l = cRs m → l = m
  | [], [], _ => rfl
  | [], _ :: _, h => by simp [cRs] at h
  | _ :: _, [], h => by simp [cRs] at h
  | a :: l, b :: m, h => by
    simp only [cRs, List.cons.injEq, D.v.injEq, Value.bool.injEq, true_and] at h
    obtain ⟨h1, h2, h3, h4⟩ := h
    rw [rat_inj h1 h2 h3, cRs_inj h4]
/-- Reads these numbers, nil or not. -/
def RwR (d : D) (l : List Rat) : Prop := (d = .z true ∧ l = []) ∨ d = rowR l
theorem RwR.row (l : List Rat) : RwR (rowR l) l := .inr rfl
theorem RwR.nil : RwR (.z true) [] := .inl ⟨rfl, rfl⟩
theorem RwR.inj {d : D} {l m : List Rat} (h : RwR d l) (h' : RwR d m) : l = m := by
  rcases h with ⟨h1, h2⟩ | h1 <;> rcases h' with ⟨h3, h4⟩ | h3
  · rw [h2, h4]
  · rw [h1] at h3; cases h3
  · rw [h1] at h3; cases h3
  · rw [h1] at h3
    simp only [rowR, D.row.injEq] at h3
    exact cRs_inj h3.2
theorem RwR.len {d : D} {l : List Rat} (h : RwR d l) : lenA (.d d) = some l.length := by
  rcases h with ⟨rfl, rfl⟩ | rfl
  · rfl
  · rfl
theorem RwR.ixa {d : D} {l : List Rat} (hr : RwR d l) {j : Nat} (h1 : j < l.length) (h : Hp) : ixaA h 4 (j : Int) (.d d) = some (.d (.rp (cRs (l.drop j)))) := by
  rcases hr with ⟨rfl, rfl⟩ | rfl
  · simp at h1
  · simp only [ixaA, guardO, rowR]
    rw [if_pos ⟨by omega, by omega⟩, Int.toNat_natCast, QmM]
theorem ldR (h : Hp) (l : List Rat) {j : Nat} (h1 : j < l.length) : Qcs h (some 4) (.d (.rp (cRs (l.drop j)))) = some (.d (encR (l.getD j 0))) := by
  have e : l.drop j = l.getD j 0 :: l.drop (j + 1) := by
    rw [List.drop_eq_getElem_cons h1, List.getD_eq_getElem?_getD, List.getElem?_eq_getElem h1]; rfl
  rw [e]
  show guardO (4 ≤ (cRs (l.getD j 0 :: l.drop (j + 1))).length) (some (A.d (D.agg ((cRs (l.getD j 0 :: l.drop (j + 1))).take 4)))) = _
  exact if_pos (by rw [QfC, List.length_cons]; omega)
theorem RwR.src {d : D} {l : List Rat} (hr : RwR d l) (st : St) : src st (.d d) = some (l.length, cRs l) := by
  rcases hr with ⟨rfl, rfl⟩ | rfl
  · rfl
  · rfl
theorem RwR.srcS {d : D} {l : List Rat} (hr : RwR d l) (st : St) : srcS st (.d d) = some (l.length, cRs l) := by
  rcases hr with ⟨rfl, rfl⟩ | rfl
  · rfl
  · rfl
theorem QqN (ks : List Key) : ∀ cs : List D, Qfu ks (cs.map A.d) = true
  | [] => rfl
  | c :: cs => by rw [List.map_cons, Qfu, QqN ks cs]; rfl
/-- The cells of an array. -/
def cA (l : List Rat) : List A := (cRs l).map A.d
def arrR (n : Nat) (l : List Rat) : Obj := ⟨4, n, cA l, false⟩
attribute [go_sem] arrR
theorem one_b (b : Bool) : (D.v (.bool b)).one = true := rfl
/-- The row that a slot's array becomes. -/
def dR (l : List Rat) : D := if l = [] then .z true else rowR l
theorem dR_ok (l : List Rat) : RwR (dR l) l := by
  unfold dR; split
  · rename_i h; exact .inl ⟨rfl, h⟩
  · exact .inr rfl
def SzL (K : Nat) (l : List Rat) : Prop := ∀ q ∈ l, sz q ≤ K
theorem SzL.getD {K : Nat} {l : List Rat} (h : SzL K l) (h1 : 1 ≤ K) (j : Nat) : sz (l.getD j 0) ≤ K := by
  by_cases hj : j < l.length
  · have : l.getD j 0 = l[j] := by rw [List.getD_eq_getElem?_getD, List.getElem?_eq_getElem hj]; rfl
    rw [this]; exact h _ (List.getElem_mem hj)
  · rw [List.getD_eq_getElem?_getD, List.getElem?_eq_none (by omega)]
    show sz 0 ≤ K
    rw [Qiz]; exact h1
theorem SzL.mono {K L : Nat} {l : List Rat} (h : SzL K l) (hk : K ≤ L) : SzL L l := fun q hq => Nat.le_trans (h q hq) hk
end Go.AM

/- Rows of rationals; poly.Trim, slices.Clone, slices.Backward. -/
namespace Go.AM
open Go Go.RowKit

theorem cRs_one : ∀ l : List Rat, (cRs l).all D.one = true
  | [] => rfl
  | q :: l => by
    have h1 : ∀ m : List Int, (dg m).one = true := fun m => by cases m <;> rfl
    simp only [cRs, List.all_cons, cRs_one l, h1, Bool.and_true]
    rfl
theorem sgn0 (q : Rat) : (Int.sign q.num == 0) = decide (q = 0) := by
  by_cases h : q = 0
  · subst h; rfl
  · rw [decide_eq_false h]
    refine Qdz fun hc => h (Rat.num_eq_zero.1 (Int.sign_eq_zero_iff_zero.1 hc))

/-- The length without zeros at the end of the first n. -/
def cutR (l : List Rat) : Nat → Nat
  | 0 => 0
  | n + 1 => if l.getD n 0 = 0 then cutR l n else n + 1
def Qep (l : List Rat) : List Rat := l.take (cutR l l.length)
theorem QiD (l : List Rat) : ∀ n, cutR l n ≤ n
  | 0 => Nat.le_refl _
  | n + 1 => by
    rw [cutR]
    split
    · exact Nat.le_succ_of_le (QiD l n)
    · exact Nat.le_refl _
theorem QeU (l : List Rat) : (Qep l).length = cutR l l.length := by
  rw [Qep, List.length_take]
  have := QiD l l.length
  omega
theorem QhI (l : List Rat) : (Qep l).length ≤ l.length := by rw [QeU]; exact QiD _ _
theorem rep_0 (zs : List D) : rep 0 zs = [] := rfl
variable [Its]

/-- What Clone hands back of a row. -/
def clR (l : List Rat) : R := if false then .d (rowR l) else .own 4 l.length (cRs l)
theorem Clone_row {l : List Rat} (hl : l.length * 64 ≤ 140737488351232) : Qaj G QbM [rowR l] = some (clR l) := by
  rw [Qaf (cf := slices_Clone_api_Poly_api_Rat) rfl]
  have e1 := QfC l
  have e2 := cRs_one l
  have e3 : l.length * 64 ≤ bound := by unfold bound; omega
  unfold clR rowR
  generalize cRs l = cs at *
  simp -implicitDefEqProofs (maxSteps := 10000000) only [slices_Clone_api_Poly_api_Rat, isnA, appA, srcS, src, QqN, Qlg, Nat.zero_add, rep_0, List.map_nil, List.length_nil, List.nil_append, go_sem, iv, bv, e1, e2, e3, reduceCtorEq, ↓reduceIte, Nat.reduceEqDiff]
theorem Clone_nil : Qaj G QbM [.z true] = some (.d (.z true)) := by
  rw [Qaf (cf := slices_Clone_api_Poly_api_Rat) rfl]
  simp -implicitDefEqProofs (maxSteps := 10000000) only [slices_Clone_api_Poly_api_Rat, isnA, go_sem, iv, bv, reduceCtorEq, ↓reduceIte, Nat.reduceEqDiff]

def Qh7 (d : D) (n : Int) : St := mkS [(0, .d d), (3, ai n)] []
theorem tr_go {d : D} {l : List Rat} (hr : RwR d l) {n : Nat} (hn : n < l.length) (hl : l.length * 64 ≤ 140737488351232) (h0 : l.getD n 0 = 0) : X G Qcr (Qh7 d ((n + 1 : Nat) : Int)) = some (.n, Qh7 d (n : Int)) := by
  have e1 : decide (((n + 1 : Nat) : Int) > 0) = true := gt_t (by omega)
  have e2 : w64 (((n + 1 : Nat) : Int) - 1) = (n : Int) := by rw [Qac (by omega) (by omega)]; omega
  have e3 := hr.ixa hn
  have e4 := fun h => ldR h l hn
  have g := Qbs (l.getD n 0)
  have e5 : (Int.sign (l.getD n 0).num == 0) = true := by rw [sgn0]; exact decide_eq_true h0
  clear h0
  generalize ((n + 1 : Nat) : Int) = n1 at *
  generalize l.getD n 0 = q at *
  simp only [encR, iv] at e4 g
  simp -implicitDefEqProofs (maxSteps := 10000000) only [Qcr, Qh7, go_sem, iv, bv, e1, e2, e3, e4, e5, g, reduceCtorEq, ↓reduceIte, Nat.reduceEqDiff]
theorem tr_stop {d : D} {l : List Rat} (hr : RwR d l) {n : Nat} (hn : n < l.length) (hl : l.length * 64 ≤ 140737488351232) (h0 : l.getD n 0 ≠ 0) : X G Qcr (Qh7 d ((n + 1 : Nat) : Int)) = some (.x 0, Qh7 d ((n + 1 : Nat) : Int)) := by
  have e1 : decide (((n + 1 : Nat) : Int) > 0) = true := gt_t (by omega)
  have e2 : w64 (((n + 1 : Nat) : Int) - 1) = (n : Int) := by rw [Qac (by omega) (by omega)]; omega
  have e3 := hr.ixa hn
  have e4 := fun h => ldR h l hn
  have g := Qbs (l.getD n 0)
  have e5 : (Int.sign (l.getD n 0).num == 0) = false := by rw [sgn0]; exact decide_eq_false h0
  clear h0
  generalize ((n + 1 : Nat) : Int) = n1 at *
  generalize l.getD n 0 = q at *
  simp only [encR, iv] at e4 g
  simp -implicitDefEqProofs (maxSteps := 10000000) only [Qcr, Qh7, go_sem, iv, bv, e1, e2, e3, e4, e5, g, reduceCtorEq, ↓reduceIte, Nat.reduceEqDiff]
theorem tr_zero {d : D} : X G Qcr (Qh7 d 0) = some (.x 0, Qh7 d 0) := by
  have e1 : decide ((0 : Int) > 0) = false := rfl
  simp -implicitDefEqProofs (maxSteps := 10000000) only [Qcr, Qh7, go_sem, iv, bv, e1, reduceCtorEq, ↓reduceIte, Nat.reduceEqDiff]
theorem tr_loop {d : D} {l : List Rat} (hr : RwR d l) (hl : l.length * 64 ≤ 140737488351232) : ∀ n : Nat, n ≤ l.length → X G (.loop Qcr) (Qh7 d (n : Int)) = some (.x 0, Qh7 d (cutR l n : Nat))
  | 0, _ => by
    rw [Qak]
    show (X G Qcr (Qh7 d 0)).bind _ = _
    rw [tr_zero]; rfl
  | n + 1, hn => by
    rw [Qak, cutR]
    by_cases h0 : l.getD n 0 = 0
    · rw [tr_go hr (by omega) hl h0, Option.bind_some, if_pos rfl, if_pos h0]
      exact tr_loop hr hl n (by omega)
    · rw [tr_stop hr (by omega) hl h0, if_neg h0]; rfl

theorem Trim_spec {d : D} {l : List Rat} (hr : RwR d l) (hl : l.length * 64 ≤ 140737488351232) : ∃ d', RwR d' (Qep l) ∧ Qaj G Qki [d] = some (.d d') := by
  rw [Qaf (cf := poly_Trim) rfl]
  have hl' := tr_loop hr hl l.length (Nat.le_refl _)
  have hc := QiD l l.length
  have ll := hr.len
  rcases hr with ⟨rfl, rfl⟩ | rfl
  · have g := Clone_nil
    simp only [Qh7, List.length_nil, cutR, go_sem] at hl'
    refine ⟨.z true, .inl ⟨rfl, rfl⟩, ?_⟩
    simp -implicitDefEqProofs (maxSteps := 10000000) only [poly_Trim, slcA, bnds, optI, go_sem, iv, bv, hl', g, ll, Int.le_refl, reduceCtorEq, ↓reduceIte, Nat.reduceEqDiff]
  · refine ⟨rowR (Qep l), .row _, ?_⟩
    have g := Clone_row (l := Qep l) (by have := QhI l; omega)
    have e1 : rowR (Qep l) = .row (cutR l l.length) ((cRs l).take (cutR l l.length * 4)) := by rw [rowR, QeU, Qep, Qj6]
    rw [e1] at g ⊢
    unfold clR at g
    have e7 := QeU l
    have e8 : cRs (Qep l) = (cRs l).take (cutR l l.length * 4) := by rw [Qep, Qj6]
    rw [e1, e7, e8] at g
    clear e1 e7 e8
    have e2 : (((0 : Int) ≤ 0 ∧ (0 : Int) ≤ (cutR l l.length : Nat) ∧ ((cutR l l.length : Nat) : Int) ≤ (l.length : Nat))) = True := eq_true ⟨by omega, by omega, by omega⟩
    have e3 : ((cutR l l.length : Nat) : Int).toNat = cutR l l.length := Int.toNat_natCast _
    have e5 : ((0 : Int) ≤ (cutR l l.length : Nat)) = True := eq_true (by omega)
    have e6 : (((cutR l l.length : Nat) : Int) ≤ (l.length : Nat)) = True := eq_true (by omega)
    unfold rowR at *
    generalize cutR l l.length = c at *
    generalize cRs l = cs at *
    simp only [Qh7, go_sem] at hl'
    simp -implicitDefEqProofs (maxSteps := 10000000) only [poly_Trim, slcA, bnds, optI, go_sem, iv, bv, hl', g, ll, e2, e3, e5, e6, Int.le_refl, and_self, reduceCtorEq, ↓reduceIte, Nat.reduceEqDiff]

theorem QmK {d : D} {l : List Rat} (hr : RwR d l) : Qaj G Qcg [d] = some (.d (.fn Qal [.rp [d]])) := by
  rw [Qaf (cf := slices_Backward_api_Poly_api_Rat) rfl]
  rcases hr with ⟨rfl, rfl⟩ | rfl
  · simp -implicitDefEqProofs (maxSteps := 10000000) only [slices_Backward_api_Poly_api_Rat, go_sem, snap, Qcv, Qae, Qaa, iv, bv, reduceCtorEq, ↓reduceIte, Nat.reduceEqDiff]
  · unfold rowR
    generalize cRs l = cs
    simp -implicitDefEqProofs (maxSteps := 10000000) only [slices_Backward_api_Poly_api_Rat, go_sem, snap, Qcv, Qae, Qaa, iv, bv, reduceCtorEq, ↓reduceIte, Nat.reduceEqDiff]
end Go.AM

/- slices.Backward: what its iterator yields; poly.Eval. -/
namespace Go.AM
open Go Go.RowKit Go.Proofs

def C.one1 : C → C
  | .seq a _ => a
  | .blk _ a => a
  | .loop a => a
  | c => c
def C.two2 : C → C
  | .seq _ b => b
  | c => c
/-- What comes: from the last one to the first. -/
def bkp (l : List Rat) : List (Int × Rat) := (List.range l.length).map fun i => (((l.length - 1 - i : Nat) : Int), l.getD (l.length - 1 - i) 0)
def bk1 (p : Int × Rat) : List D := [iv p.1, encR p.2]
def bkw (l : List Rat) : List (List D) := (bkp l).map bk1
theorem bkp_snd (l : List Rat) : (bkp l).map Prod.snd = l.reverse := by
  apply List.ext_getElem
  · simp [bkp]
  · intro i h1 h2
    simp only [bkp, List.map_map, List.getElem_map, List.getElem_range, Function.comp_apply, List.getElem_reverse]
    have h3 : i < l.length := by simpa [bkp] using h1
    rw [List.getD_eq_getElem?_getD, List.getElem?_eq_getElem (by omega)]; rfl
def bw_T : C := slices_Backward_api_Poly_api_Rat_1_l0.one1.one1
def bw_I : C := .seq (.keep [0, 1, 3] []) slices_Backward_api_Poly_api_Rat_1_l0.one1.two2.two2
def Qrh : List O := [⟨some 11, .mov (.t 0), none⟩, ⟨some 12, .mov (.t 3), none⟩, ⟨some 13, .load none (.t 1), none⟩, ⟨some 14, .mov (.t 3), none⟩, ⟨some 15, .ixa 4 (.t 13) (.t 14), none⟩, ⟨some 16, .load (some 4) (.t 15), none⟩]
def Qnk : List O := [⟨some 18, .un .not (.t 17), none⟩]
theorem bw_shape : slices_Backward_api_Poly_api_Rat_1.body.er = .seq slices_Backward_api_Poly_api_Rat_1.body.one1.er (.blk 0 (.loop (.seq bw_T.er (.seq (.blk 1 (.seq (.reg ((Qrh ++ ⟨some 17, .calv (.t 11) [.t 12, .t 16], none⟩ :: Qnk).map O.er) []) (.cond (.t 18) .ret .skip))) bw_I.er)))) := rfl
theorem bw_ld (h : Hp) (sz : Option Nat) (cs : List D) : Qcs h sz (.d (.rp cs)) = QiN sz cs := rfl

def Qmz (y : Nat) (d : D) (k : Int) : St := mkS [(0, .d (yv y)), (1, .d (.rp [d])), (3, ai k)] []
def QmI (y : Nat) (d : D) (k : Int) : St := mkS [(0, .d (yv y)), (1, .d (.rp [d])), (3, ai k), (8, ab true)] []
def QmU (y : Nat) (d : D) (k : Int) (rp q : List D) : St := ⟨upd (upd (upd (upd (upd (upd (QmI y d k).fr 11 (.d (yv y))) 12 (ai k)) 13 (.d d)) 14 (ai k)) 15 (.d (.rp rp))) 16 (.d (.agg q)), (QmI y d k).hp, []⟩
def Qsd (y : Nat) (d : D) (k : Int) (rp q : List D) (t : Bool) : St := ⟨upd (upd (QmU y d k rp q).fr 17 (.d (.v (.bool t)))) 18 (.d (.v (.bool !t))), (QmU y d k rp q).hp, []⟩
/-- A row of n elements of 4 cells each. -/
def Rw4 (d : D) (n : Nat) (cs : List D) : Prop := (d = .z true ∧ n = 0) ∨ (d = .row n cs ∧ cs.length = n * 4)
theorem Rw4.len {d : D} {n : Nat} {cs : List D} (h : Rw4 d n cs) : lenA (.d d) = some n := by
  rcases h with ⟨rfl, rfl⟩ | ⟨rfl, _⟩ <;> rfl
theorem Rw4.ixa {d : D} {n : Nat} {cs : List D} (hr : Rw4 d n cs) {j : Nat} (h1 : j < n) (h : Hp) : ixaA h 4 (j : Int) (.d d) = some (.d (.rp (cs.drop (j * 4)))) := by
  rcases hr with ⟨rfl, rfl⟩ | ⟨rfl, _⟩
  · omega
  · simp only [ixaA, guardO]
    rw [if_pos ⟨by omega, by omega⟩, Int.toNat_natCast]
theorem Rw4.ld {d : D} {n : Nat} {cs : List D} (hr : Rw4 d n cs) {j : Nat} (h1 : j < n) (h : Hp) : Qcs h (some 4) (.d (.rp (cs.drop (j * 4)))) = some (.d (.agg ((cs.drop (j * 4)).take 4))) := by
  rcases hr with ⟨rfl, rfl⟩ | ⟨rfl, hl⟩
  · omega
  · show guardO (4 ≤ (cs.drop (j * 4)).length) (some (A.d (D.agg ((cs.drop (j * 4)).take 4)))) = _
    exact if_pos (by rw [List.length_drop]; omega)
/-- What comes of it. -/
def bk4 (n : Nat) (cs : List D) : List (List D) := (List.range n).map fun i => [iv ((n - 1 - i : Nat) : Int), .agg ((cs.drop ((n - 1 - i) * 4)).take 4)]
theorem bk4_len (n : Nat) (cs : List D) : (bk4 n cs).length = n := by simp [bk4]
theorem bk4_R (l : List Rat) : bk4 l.length (cRs l) = bkw l := by
  unfold bk4 bkw bkp
  rw [List.map_map]
  apply List.map_congr_left
  intro i hi
  have hi' := List.mem_range.1 hi
  have h1 : l.length - 1 - i < l.length := by omega
  rw [QmM]
  have e : l.drop (l.length - 1 - i) = l.getD (l.length - 1 - i) 0 :: l.drop (l.length - 1 - i + 1) := by
    rw [List.drop_eq_getElem_cons h1, List.getD_eq_getElem?_getD, List.getElem?_eq_getElem h1]; rfl
  rw [e]
  rfl


section
variable [Its]
theorem bw_start {y : Nat} {d : D} {n : Nat} {cs : List D} (hr : Rw4 d n cs) (hl : n ≤ 140737488351232) : X G slices_Backward_api_Poly_api_Rat_1.body.one1 ⟨argF 0 [yv y, .rp [d]], hp0, []⟩ = some (.n, Qmz y d ((n : Int) - 1)) := by
  have e1 : w64 ((n : Int) - 1) = (n : Int) - 1 := Qac (by omega) (by omega)
  have ll := hr.len
  simp -implicitDefEqProofs (maxSteps := 10000000) only [slices_Backward_api_Poly_api_Rat_1, C.one1, Qmz, argF, yv, bw_ld, List.head?_cons, ll, go_sem, Qae, Qaa, iv, bv, e1, reduceCtorEq, ↓reduceIte, Nat.reduceEqDiff]
theorem bw_more {y : Nat} {d : D} {j : Nat} : X G bw_T (Qmz y d (j : Int)) = some (.n, QmI y d (j : Int)) := by
  have e1 : decide ((j : Int) ≥ 0) = true := decide_eq_true (by omega)
  simp -implicitDefEqProofs (maxSteps := 10000000) only [bw_T, slices_Backward_api_Poly_api_Rat_1_l0, C.one1, C.two2, Qmz, QmI, yv, e1, go_sem, Qae, Qaa, iv, bv, reduceCtorEq, ↓reduceIte, Nat.reduceEqDiff]
theorem bw_stop {y : Nat} {d : D} : X G bw_T (Qmz y d (-1)) = some (.x 0, mkS [] []) := by
  have e1 : decide ((-1 : Int) ≥ 0) = false := rfl
  simp -implicitDefEqProofs (maxSteps := 10000000) only [bw_T, slices_Backward_api_Poly_api_Rat_1_l0, C.one1, C.two2, Qmz, QmI, yv, e1, go_sem, Qae, Qaa, iv, bv, reduceCtorEq, ↓reduceIte, Nat.reduceEqDiff]
theorem bw_p1 {y : Nat} {d : D} {n : Nat} {cs : List D} (hr : Rw4 d n cs) {j : Nat} (hj : j < n) : exs (Qaj G) Qrh (QmI y d (j : Int)) = some (QmU y d (j : Int) (cs.drop (j * 4)) ((cs.drop (j * 4)).take 4)) := by
  have e3 := hr.ixa hj
  have e4 := hr.ld hj
  generalize (cs.drop (j * 4)).take 4 = q at *
  generalize cs.drop (j * 4) = rp at *
  simp -implicitDefEqProofs (maxSteps := 10000000) only [Qrh, QmI, QmU, encR, yv, go_sem, e3, e4, bw_ld, QiN, List.head?_cons, Qae, Qaa, iv, bv, reduceCtorEq, ↓reduceIte, Nat.reduceEqDiff]
theorem bw_p2 {y : Nat} {d : D} {k : Int} {rp q : List D} {t : Bool} : exs (Qaj G) Qnk { QmU y d k rp q with fr := upd (QmU y d k rp q).fr 17 (.d (.v (.bool t))) } = some (Qsd y d k rp q t) := by
  simp -implicitDefEqProofs (maxSteps := 10000000) only [Qnk, QmI, QmU, Qsd, encR, yv, go_sem, Qae, Qaa, iv, bv, reduceCtorEq, ↓reduceIte, Nat.reduceEqDiff]
theorem bw_inc {y : Nat} {d : D} {j : Nat} {rp q : List D} (hj : j ≤ 140737488351232) : X G bw_I (Qsd y d (j : Int) rp q true) = some (.n, Qmz y d ((j : Int) - 1)) := by
  have e1 : w64 ((j : Int) - 1) = (j : Int) - 1 := Qac (by omega) (by omega)
  simp -implicitDefEqProofs (maxSteps := 10000000) only [bw_I, slices_Backward_api_Poly_api_Rat_1_l0, C.one1, C.two2, Qmz, QmI, QmU, Qsd, encR, yv, go_sem, e1, Qae, Qaa, iv, bv, reduceCtorEq, ↓reduceIte, Nat.reduceEqDiff]

end

theorem bw_walk {d : D} {n : Nat} {cs : List D} (hr : Rw4 d n cs) (hl : n ≤ 140737488351232) {N n' y : Nat} {S : Nat → Prop} {w0 : World} {J Jx : Held} {ac : Act} {W : World} (hab : Qnd   w0 J) (habx : Qnd   w0 Jx) (hans : QpT     Tryz.prog n' S w0 y J Jx (bk4 n cs))
    (hI : Inv S w0 N J ⟨argF 0 [yv y, .rp [d]], hp0, []⟩ 0 ac W) :
    WY Tryz.prog N (n' + 1) slices_Backward_api_Poly_api_Rat_1.body.er (fun e' a' W' => (∀ id, e' ≠ .x id) ∧ ((∃ st, Inv S w0 N J st (bk4 n cs).length a' W') ∨ ∃ st i, Inv S w0 N Jx st i a' W')) ac W := by
  letI := noIts
  have hE : EnvOk Tryz.prog G := env_ok0
  rw [bw_shape]
  refine WY.seq ?_
  refine Inv.code hE hab hI rfl rfl (bw_start hr hl) ?_
  intro a1 W1 I1
  simp only [↓reduceIte]
  refine WY.blk ?_
  refine WY.loop (j := n) (fun j a' w' => ∃ i, i ≤ n ∧ j = n - i ∧ Inv S w0 N J (Qmz y d (((n - i : Nat) : Int) - 1)) i a' w') ⟨0, by omega, by omega, ?_⟩ ?_
  · rw [Nat.sub_zero]
    exact I1
  · rintro j a2 W2 ⟨i, hi, rfl, I2⟩
    refine WY.seq ?_
    by_cases hin : i < n
    · obtain ⟨k, hk⟩ : ∃ k, k = n - 1 - i := ⟨_, rfl⟩
      have ek : ((n - i : Nat) : Int) - 1 = (k : Int) := by omega
      rw [ek] at I2
      have hkl : k < n := by omega
      refine Inv.code hE hab I2 rfl rfl bw_more ?_
      intro a3 W3 I3
      simp only [↓reduceIte]
      refine WY.seq (WY.blk (WY.seq ?_))
      refine Inv.yield hE hab habx hans I3 (pre := Qrh) (post := Qnk) (d := 17) (ty := 11) (es := [.t 12, .t 16]) (s1 := QmU y d (k : Int) (cs.drop (k * 4)) ((cs.drop (k * 4)).take 4)) (x := [iv (k : Int), .agg ((cs.drop (k * 4)).take 4)]) (rt := Qsd y d (k : Int) (cs.drop (k * 4)) ((cs.drop (k * 4)).take 4) true) (rf := Qsd y d (k : Int) (cs.drop (k * 4)) ((cs.drop (k * 4)).take 4) false) (bw_p1 hr hkl) rfl rfl ?_ bw_p2 bw_p2 ?_ ?_
      · rw [bk4, List.getElem?_map, List.getElem?_range hin, hk]; rfl
      · intro a4 W4 I4
        simp only [↓reduceIte]
        refine WY.cond (t := false) (I4.bool rfl) (fun h => by cases h) (fun _ => WY.skip ?_)
        simp only [↓reduceIte]
        refine Inv.code hE hab I4 rfl rfl (bw_inc (by omega)) ?_
        intro a6 W6 I6
        simp only [↓reduceIte]
        refine ⟨n - (i + 1), by omega, i + 1, by omega, rfl, ?_⟩
        rw [show ((n - (i + 1) : Nat) : Int) - 1 = (k : Int) - 1 by omega]
        exact I6
      · intro a4 W4 I4
        simp only [↓reduceIte]
        refine WY.cond (t := true) (I4.bool rfl) (fun _ => WY.ret ?_) (fun h => by cases h)
        simp only [reduceCtorEq, ↓reduceIte]
        exact ⟨fun _ h => (by cases h), .inr ⟨_, _, I4⟩⟩
    · have : i = n := by omega
      subst this
      rw [Nat.sub_self] at I2
      refine Inv.code hE hab I2 rfl rfl bw_stop ?_
      intro a3 W3 I3
      simp only [reduceCtorEq, ↓reduceIte]
      exact ⟨fun _ h => (by cases h), .inl ⟨_, by rw [bk4_len]; exact I3⟩⟩

theorem Qkb {d : D} {n : Nat} {cs : List D} (hr : Rw4 d n cs) (hl : n ≤ 140737488351232) : ItOk Tryz.prog Qal [.rp [d]] (bk4 n cs) := by
  refine it_ok (Γ := @G noIts) env_ok0 (cf := slices_Backward_api_Poly_api_Rat_1) Tryz.func136 Qb5 ?_ rfl rfl ?_
  · intro b hb
    have : (Tryz.f136.body.map okY) = some true := by kernel_rfl
    rw [hb] at this
    simpa using this
  · intro n' y S w0 J Jx ac W hab habx hans hI
    exact bw_walk hr hl hab habx hans hI

/-- What the iterator of Backward yields. -/
def QoD : List D → Option (List (List D))
  | [.rp [.z true]] => some []
  | [.rp [.row n cs]] => if cs.length = n * 4 ∧ n ≤ 140737488351232 then some (bk4 n cs) else none
  | _ => none
theorem itBack_ok {ds : List D} {xs : List (List D)} (h : QoD ds = some xs) : ItOk Tryz.prog Qal ds xs := by
  unfold QoD at h
  split at h
  · cases h
    exact Qkb (n := 0) (cs := []) (.inl ⟨rfl, rfl⟩) (by omega)
  · split at h
    · rename_i hc
      cases h
      exact Qkb (.inr ⟨rfl, hc.1⟩) hc.2
    · cases h
  · cases h
/-- What the seat's iterators yield, of Backward. -/
class ItsB [Its] : Prop where
  back : ∀ ds, Its.it Qal ds = QoD ds
theorem its_back [Its] [ItsB] {d : D} {l : List Rat} (h : RwR d l) (hl : l.length ≤ 140737488351232) : Its.it Qal [.rp [d]] = some (bkw l) := by
  rw [ItsB.back, ← bk4_R]
  rcases h with ⟨rfl, rfl⟩ | rfl
  · rfl
  · exact if_pos ⟨QfC l, hl⟩

/-- The value, by Horner's rule. -/
def evR (l : List Rat) (x : Rat) : Rat := l.foldr (fun a s => s * x + a) 0
theorem Qno (a : Rat) (l : List Rat) (x : Rat) : evR (a :: l) x = evR l x * x + a := rfl
theorem evR_bk (l : List Rat) (x : Rat) : (bkp l).foldl (fun s p => s * x + p.2) 0 = evR l x := by
  have h : ∀ (ps : List (Int × Rat)) (s : Rat), ps.foldl (fun s p => s * x + p.2) s = (ps.map Prod.snd).foldl (fun s a => s * x + a) s := by
    intro ps
    induction ps with
    | nil => intro s; rfl
    | cons p ps ih => intro s; exact ih _
  rw [h, bkp_snd, List.foldl_reverse]
  rfl
def ev_fr : Fr := frL [(3, .ptr [3] 0), (4, .ptr [4] 0), (5, .ptr [5] 0)]
def ev_hp (x s : Rat) : Hp := hpL [([3], boxR x), ([4], boxR0), ([5], boxR s)]
theorem evR_sz {x : Rat} {K : Nat} (hK : sz x ≤ K) : ∀ l : List Rat, (∀ q ∈ l, sz q ≤ K) → sz (evR l x) ≤ l.length * (2 * K + 1) + 1
  | [], _ => by rw [evR, List.foldr_nil, Qiz]; omega
  | a :: l, h => by
    have ih := evR_sz hK l (fun q hq => h q (List.mem_cons_of_mem _ hq))
    have h2 := h a (List.mem_cons_self ..)
    have k1 := QeM (a := evR l x) (b := x)
    have k2 := Qkz (a := evR l x * x) (b := a)
    have h1 : (a :: l).length * (2 * K + 1) = l.length * (2 * K + 1) + (2 * K + 1) := by rw [List.length_cons, Nat.succ_mul]
    rw [Qno]; omega
variable [Its]

theorem QnU       {x : Rat} {K : Nat} (hK : sz x ≤ K) (hK2 : K ≤ 1000000000) : ∀ (ps : List (Int × Rat)) (s : Rat), (∀ p ∈ ps, sz p.2 ≤ K) → sz s + ps.length * (2 * K + 1) ≤ 50000000000 →
    rounds (X G) [10, 11] poly_Eval_a0 poly_Eval_b0 ev_fr [] (ps.map bk1) (ev_hp x s) = some (.n, ⟨ev_fr, ev_hp x (ps.foldl (fun s p => s * x + p.2) s), []⟩)
  | [], s, _, _ => rfl
  | p :: ps, s, hp, hs => by
    have h1 : (p :: ps).length * (2 * K + 1) = ps.length * (2 * K + 1) + (2 * K + 1) := by rw [List.length_cons, Nat.succ_mul]
    have h2 := hp p (List.mem_cons_self ..)
    have g1 := Qct (a := s) (b := x) (by omega) (by omega)
    have k1 := QeM (a := s) (b := x)
    have g2 := QfG (a := s * x) (b := p.2) (by omega) (by omega)
    have k2 := Qkz (a := s * x) (b := p.2)
    have ih := QnU hK hK2 ps (s * x + p.2) (fun q hq => hp q (List.mem_cons_of_mem _ hq)) (by omega)
    rw [List.map_cons, List.foldl_cons, ← ih]
    clear ih hp
    generalize s * x + p.2 = r at *
    generalize s * x = sx at *
    obtain ⟨k, q⟩ := p
    unfold bk1
    simp only at g2 ⊢
    generalize List.map _ ps = XS
    simp only [encR] at g1 g2
    simp -implicitDefEqProofs (maxSteps := 10000000) only [rounds, poly_Eval_a0, poly_Eval_b0, ev_fr, ev_hp, boxR, encR, boxR0, putL, go_sem, Qae, Qaa, iv, bv, g1, g2, reduceCtorEq, ↓reduceIte, Nat.reduceEqDiff]
theorem QhB [ItsB] {d : D} {l : List Rat} {x : Rat} {K : Nat} (hr : RwR d l) (hK : sz x ≤ K) (hK2 : K ≤ 1000000000) (hl : ∀ q ∈ l, sz q ≤ K) (hn : l.length * (2 * K + 1) ≤ 40000000000) : Qaj G Qdx [d, encR x] = some (.d (encR (evR l x))) := by
  rw [Qaf (cf := poly_Eval) rfl]
  have g1 := QmK hr
  have hn' : l.length ≤ l.length * (2 * K + 1) := Nat.le_mul_of_pos_right _ (by omega)
  have hit : (G).it Qal [.rp [d]] = some (bkw l) := its_back hr (by omega)
  have hp : (bkp l).length = l.length := by simp [bkp]
  have hrd := QnU hK hK2 (bkp l) 0 (fun p hp' => by
    have : p.2 ∈ (bkp l).map Prod.snd := List.mem_map_of_mem hp'
    rw [bkp_snd] at this
    exact hl _ (List.mem_reverse.1 this)) (by rw [hp, Qiz]; omega)
  rw [evR_bk] at hrd
  have e1 : (bkp l).map bk1 = bkw l := rfl
  rw [e1] at hrd
  have hA : poly_Eval_a0.holds [[3], [4], [5]] = true := rfl
  have hB : poly_Eval_b0.holds [[3], [4], [5]] = true := rfl
  have e0 : boxR 0 = boxR0 := by
    have ez : decide ((0 : Rat).num < 0) = false := rfl
    have ez2 : dg (digs (0 : Rat).num.natAbs) = .z true := by rw [Rat.zero_num, show (0 : Int).natAbs = 0 from rfl, QaD]; rfl
    have ez3 : dg (dd (0 : Rat).den) = .z true := rfl
    rw [boxR, ez, ez2, ez3]; rfl
  rw [ev_hp, e0] at hrd
  clear hp e1 hn e0
  generalize bkw l = XS at *
  generalize evR l x = v at *
  simp only [ev_fr, ev_hp, boxR, boxR0, go_sem] at hrd
  simp -implicitDefEqProofs (maxSteps := 10000000) only [poly_Eval, X_rfn, QlN, hA, hB, hit, hrd, encR, go_sem, Qae, Qaa, iv, bv, g1, reduceCtorEq, ↓reduceIte, Nat.reduceEqDiff]
end Go.AM

/- Polynomials as lists: values, and that values tell them apart. -/
namespace Go.AM
open Go Go.RowKit

def sumR (f : Nat → Rat) : Nat → Rat
  | 0 => 0
  | n + 1 => sumR f n + f n
theorem Ql8 {f g : Nat → Rat} : ∀ n, (∀ k, k < n → f k = g k) → sumR f n = sumR g n
  | 0, _ => rfl
  | n + 1, h => by rw [sumR, sumR, Ql8 n (fun k hk => h k (by omega)), h n (by omega)]
theorem QoX {f : Nat → Rat} {n : Nat} : ∀ d, (∀ k, n ≤ k → k < n + d → f k = 0) → sumR f (n + d) = sumR f n
  | 0, _ => rfl
  | d + 1, h => by
    show sumR f (n + d) + f (n + d) = _
    rw [QoX d (fun k h1 h2 => h k h1 (by omega)), h (n + d) (by omega) (by omega), Rat.add_zero]
theorem sumR_ge {f : Nat → Rat} {n m : Nat} (hm : n ≤ m) (h : ∀ k, n ≤ k → f k = 0) : sumR f m = sumR f n := by
  obtain ⟨d, rfl⟩ : ∃ d, m = n + d := ⟨m - n, by omega⟩
  exact QoX d (fun k h1 _ => h k h1)

theorem Qj8 {l : List Rat} {k : Nat} (h : l.length ≤ k) : l.getD k 0 = 0 := by
  rw [List.getD_eq_getElem?_getD, List.getElem?_eq_none h]; rfl
theorem QnR (l : List Rat) (k : Nat) : (Qep l).getD k 0 = l.getD k 0 := by
  have hc : ∀ n, n ≤ l.length → ∀ k, cutR l n ≤ k → k < n → l.getD k 0 = 0 := by
    intro n
    induction n with
    | zero => intro _ k _ h; omega
    | succ n ih =>
      intro hn k h1 h2
      rw [cutR] at h1
      split at h1
      · rename_i h0
        by_cases hk : k = n
        · rw [hk]; exact h0
        · exact ih (by omega) k h1 (by omega)
      · omega
  have hl := QiD l l.length
  by_cases h1 : k < cutR l l.length
  · rw [Qep, List.getD_eq_getElem?_getD, List.getElem?_take_of_lt h1, ← List.getD_eq_getElem?_getD]
  · rw [Qj8 (by rw [QeU]; omega)]
    by_cases h2 : k < l.length
    · exact (hc l.length (Nat.le_refl _) k (by omega) h2).symm
    · exact (Qj8 (by omega)).symm
/-- Without a zero at the end. -/
def Trm (l : List Rat) : Prop := ∀ n, l.length = n + 1 → l.getD n 0 ≠ 0
theorem Qqj (l : List Rat) : Trm (Qep l) := by
  have hc : ∀ n, ∀ m, cutR l n = m + 1 → l.getD m 0 ≠ 0 := by
    intro n
    induction n with
    | zero => intro m h; simp [cutR] at h
    | succ n ih =>
      intro m h
      rw [cutR] at h
      split at h
      · exact ih m h
      · rename_i h0
        have : m = n := by omega
        rw [this]; exact h0
  intro n h
  rw [QnR]
  exact hc _ n (by rw [← QeU]; exact h)
theorem Qqy (a x : Rat) : ∀ l : List Rat, evR (l ++ [a]) x = evR l x + a * x ^ l.length
  | [] => by
    show evR [] x * x + a = evR [] x + a * x ^ 0
    rw [Rat.pow_zero]
    have : evR [] x = 0 := rfl
    rw [this]; grind
  | b :: l => by
    show evR (l ++ [a]) x * x + b = evR l x * x + b + a * x ^ (l.length + 1)
    rw [Qqy a x l, Rat.pow_succ]
    generalize evR l x = v; generalize x ^ l.length = p; grind
theorem Qqw (x : Rat) (l : List Rat) : evR l x = sumR (fun k => l.getD k 0 * x ^ k) l.length := by
  have h : ∀ n, n ≤ l.length → evR (l.take n) x = sumR (fun k => l.getD k 0 * x ^ k) n := by
    intro n
    induction n with
    | zero => intro _; rfl
    | succ n ih =>
      intro hn
      have e : l.take (n + 1) = l.take n ++ [l.getD n 0] := by
        rw [List.take_add_one]
        simp [List.getD, (by omega : n < l.length)]
      rw [e, Qqy, ih (by omega), sumR, List.length_take, Nat.min_eq_left (by omega)]
  have := h l.length (Nat.le_refl _)
  rwa [List.take_length] at this
theorem evR_sum (x : Rat) {l : List Rat} {n : Nat} (h : l.length ≤ n) : evR l x = sumR (fun k => l.getD k 0 * x ^ k) n := by
  rw [Qqw]
  exact (sumR_ge h (fun k hk => by rw [Qj8 hk, Rat.zero_mul])).symm
theorem QmH (l : List Rat) (x : Rat) : evR (Qep l) x = evR l x := by
  rw [evR_sum x (QhI l), Qqw x l]
  exact Ql8 _ fun k _ => by rw [QnR]
theorem Qm6 (x : Rat) : evR [] x = 0 := rfl

/-! ### Dividing by x - r -/
def syn : List Rat → Rat → List Rat
  | [], _ => []
  | [_], _ => []
  | _ :: b :: l, r => evR (b :: l) r :: syn (b :: l) r
theorem syn_len : ∀ (l : List Rat) (r : Rat), (syn l r).length = l.length - 1
  | [], _ => rfl
  | [_], _ => rfl
  | a :: b :: l, r => by rw [syn, List.length_cons, syn_len (b :: l) r]; simp
/-! ### Products -/
def conv (l m : List Rat) (k : Nat) : Rat := sumR (fun i => l.getD i 0 * m.getD (k - i) 0) (k + 1)
end Go.AM

/- Arrays of rationals; poly.at, made, Add, Scale, Derive. -/
namespace Go.AM
open Go Go.RowKit

theorem SzL.trim {K : Nat} {l : List Rat} (h : SzL K l) : SzL K (Qep l) := fun q hq => h q (List.mem_of_mem_take hq)
theorem SzL.map {K : Nat} {n : Nat} {e : Nat → Rat} (h : ∀ k, k < n → sz (e k) ≤ K) : SzL K ((List.range n).map e) := by
  intro q hq
  obtain ⟨k, hk, rfl⟩ := List.mem_map.1 hq
  exact h k (List.mem_range.1 hk)
def adP (l m : List Rat) : List Rat := Qep ((List.range (max l.length m.length)).map fun k => l.getD k 0 + m.getD k 0)
def sbP (l m : List Rat) : List Rat := Qep ((List.range (max l.length m.length)).map fun k => l.getD k 0 - m.getD k 0)
variable [Its]

end Go.AM

/- Polynomials: the values of sums, products with numbers, derivatives, shifts. -/
namespace Go.AM
open Go Go.RowKit

/-! ### The derivative -/
/-! ### Shifts -/
end Go.AM

/- poly.Mul. -/
namespace Go.AM
open Go Go.RowKit

theorem RwR.cell {d : D} {l : List Rat} (h : RwR d l) : QaQ (.d d) = [.d d] := by rcases h with ⟨rfl, _⟩ | rfl <;> rfl
theorem RwR.onec {d : D} {l : List Rat} (h : RwR d l) : A.one (.d d) = true := by rcases h with ⟨rfl, _⟩ | rfl <;> rfl
section
variable (p q : List Rat) (k : Nat)
end
variable [Its]

section
variable {dp dq : D} {p q : List Rat} {k : Nat} {K : Nat}
end
end Go.AM

/- How great the coefficients are: a common denominator and a bound of the numerators. -/
namespace Go.AM
open Go Go.RowKit

def BB : Nat := 1000000000
theorem BB_pos (n : Nat) : 0 < BB ^ n := Nat.pow_pos (by decide)
theorem Qfm {n m : Nat} (h : n ≤ m) : BB ^ n ≤ BB ^ m := Nat.pow_le_pow_right (by decide) h
def cN (n : Nat) : Rat := ((n : Int) : Rat)
theorem cN_mul (n m : Nat) : cN (n * m) = cN n * cN m := by unfold cN; rw [Int.natCast_mul, Rat.intCast_mul]
theorem cN_ne {n : Nat} (h : 0 < n) : cN n ≠ 0 := by
  unfold cN
  intro h0
  have h1 : ((n : Int) : Rat) = ((0 : Int) : Rat) := h0
  rw [Rat.intCast_inj] at h1
  omega
/-- D times it is an integer of at most X. -/
def Hq (D X : Nat) (q : Rat) : Prop := ∃ m : Int, q * cN D = (m : Rat) ∧ m.natAbs ≤ X
theorem Hq.zero (D X : Nat) : Hq D X 0 := ⟨0, by rw [Rat.zero_mul]; rfl, by simp⟩
theorem Hq.le {D X Y : Nat} {q : Rat} (h : Hq D X q) (hX : X ≤ Y) : Hq D Y q := by
  obtain ⟨m, h1, h2⟩ := h
  exact ⟨m, h1, by omega⟩
theorem Hq.add {D X Y : Nat} {q p : Rat} (h : Hq D X q) (h' : Hq D Y p) : Hq D (X + Y) (q + p) := by
  obtain ⟨m, h1, h2⟩ := h
  obtain ⟨n, h3, h4⟩ := h'
  exact ⟨m + n, by rw [Rat.add_mul, h1, h3, Rat.intCast_add], by omega⟩
theorem Hq.neg {D X : Nat} {q : Rat} (h : Hq D X q) : Hq D X (-q) := by
  obtain ⟨m, h1, h2⟩ := h
  exact ⟨-m, by rw [Rat.neg_mul, h1, Rat.intCast_neg], by omega⟩
theorem Hq.sub {D X Y : Nat} {q p : Rat} (h : Hq D X q) (h' : Hq D Y p) : Hq D (X + Y) (q - p) := by
  rw [Rat.sub_eq_add_neg]; exact h.add h'.neg
theorem Hq.mul {D E X Y : Nat} {q p : Rat} (h : Hq D X q) (h' : Hq E Y p) : Hq (D * E) (X * Y) (q * p) := by
  obtain ⟨m, h1, h2⟩ := h
  obtain ⟨n, h3, h4⟩ := h'
  refine ⟨m * n, ?_, by rw [Int.natAbs_mul]; exact Nat.mul_le_mul h2 h4⟩
  rw [cN_mul, Rat.intCast_mul, ← h1, ← h3]
  generalize cN D = u; generalize cN E = v; grind
theorem Hq.lift {D X : Nat} {q : Rat} (h : Hq D X q) (E : Nat) : Hq (D * E) (X * E) q := by
  obtain ⟨m, h1, h2⟩ := h
  refine ⟨m * E, ?_, by rw [Int.natAbs_mul]; exact Nat.mul_le_mul h2 (by omega)⟩
  rw [cN_mul, Rat.intCast_mul, ← h1, Rat.mul_assoc]; rfl
theorem Hq.lift' {D X : Nat} {q : Rat} (h : Hq D X q) (E : Nat) : Hq (E * D) (E * X) q := by
  rw [Nat.mul_comm E, Nat.mul_comm E]; exact h.lift E
theorem Hq.int (n : Int) : Hq 1 n.natAbs (n : Rat) := ⟨n, Rat.mul_one _, Nat.le_refl _⟩
theorem Hq.sz {D X d h : Nat} {q : Rat} (hD : 0 < D) (hDd : D ≤ BB ^ d) (hX : X ≤ BB ^ h) (H : Hq D X q) : sz q ≤ max d h + 1 := by
  obtain ⟨m, h1, h2⟩ := H
  have e : q = Rat.divInt m (D : Int) := by
    rw [Rat.divInt_eq_div, Rat.div_def, ← h1, Rat.mul_assoc]
    show q = q * (cN D * (cN D)⁻¹)
    rw [Rat.mul_inv_cancel _ (cN_ne hD), Rat.mul_one]
  rw [e]
  have hb : ∀ n, BB ^ n < 1000000000 ^ (n + 1) := fun n => by
    rw [Nat.pow_succ]
    have := BB_pos n
    show BB ^ n < BB ^ n * 1000000000
    omega
  refine Qer (by omega) (Nat.le_trans (Qok (k := h + 1) ?_) (by omega)) (Nat.le_trans (Qok (k := d + 1) ?_) (by omega))
  · exact Nat.lt_of_le_of_lt (Nat.le_trans h2 hX) (hb h)
  · exact Nat.lt_of_le_of_lt (by rw [Int.natAbs_natCast]; exact hDd) (hb d)

/-- A common denominator of at most d digits, numerators of at most h. -/
def HL (d h : Nat) (l : List Rat) : Prop := ∃ D : Nat, 0 < D ∧ D ≤ BB ^ d ∧ ∀ q ∈ l, Hq D (BB ^ h) q
def H1 (d h : Nat) (q : Rat) : Prop := ∃ D : Nat, 0 < D ∧ D ≤ BB ^ d ∧ Hq D (BB ^ h) q
theorem HL.sz {d h : Nat} {l : List Rat} (H : HL d h l) : SzL (max d h + 1) l := by
  obtain ⟨D, h1, h2, h3⟩ := H
  exact fun q hq => (h3 q hq).sz h1 h2 (Nat.le_refl _)
theorem H1.sz {d h : Nat} {q : Rat} (H : H1 d h q) : sz q ≤ max d h + 1 := by
  obtain ⟨D, h1, h2, h3⟩ := H
  exact h3.sz h1 h2 (Nat.le_refl _)
theorem HL.mono {d h d' h' : Nat} {l : List Rat} (H : HL d h l) (hd : d ≤ d') (hh : h ≤ h') : HL d' h' l := by
  obtain ⟨D, h1, h2, h3⟩ := H
  exact ⟨D, h1, Nat.le_trans h2 (Qfm hd), fun q hq => (h3 q hq).le (Qfm hh)⟩
theorem HL.nil (d h : Nat) : HL d h [] := ⟨1, by omega, BB_pos d, fun q hq => by simp at hq⟩
theorem HL.trim {d h : Nat} {l : List Rat} (H : HL d h l) : HL d h (Qep l) := by
  obtain ⟨D, h1, h2, h3⟩ := H
  exact ⟨D, h1, h2, fun q hq => h3 q (List.mem_of_mem_take hq)⟩
theorem HL.one {d h : Nat} {q : Rat} (H : H1 d h q) : HL d h [q] := by
  obtain ⟨D, h1, h2, h3⟩ := H
  exact ⟨D, h1, h2, fun p hp => by rw [List.mem_singleton.1 hp]; exact h3⟩
theorem Hq.getD {D X : Nat} {l : List Rat} (H : ∀ q ∈ l, Hq D X q) (k : Nat) : Hq D X (l.getD k 0) := by
  by_cases hk : k < l.length
  · have : l.getD k 0 = l[k] := by rw [List.getD_eq_getElem?_getD, List.getElem?_eq_getElem hk]; rfl
    rw [this]; exact H _ (List.getElem_mem hk)
  · rw [Qj8 (by omega)]; exact Hq.zero D X
theorem HL.getD {d h : Nat} {l : List Rat} (H : HL d h l) (k : Nat) : H1 d h (l.getD k 0) := by
  obtain ⟨D, h1, h2, h3⟩ := H
  exact ⟨D, h1, h2, Hq.getD h3 k⟩
theorem HL.made {D X n : Nat} {e : Nat → Rat} {d h : Nat} (hD : 0 < D) (hd : D ≤ BB ^ d) (hX : X ≤ BB ^ h) (H : ∀ k, k < n → Hq D X (e k)) : HL d h (Qep ((List.range n).map e)) :=
  HL.trim ⟨D, hD, hd, fun q hq => by
    obtain ⟨k, hk, rfl⟩ := List.mem_map.1 hq
    exact (H k (List.mem_range.1 hk)).le hX⟩
theorem two_BB {a b n : Nat} (h1 : a ≤ BB ^ n) (h2 : b ≤ BB ^ n) : a + b ≤ BB ^ (n + 1) := by
  rw [Nat.pow_succ]
  have : BB ^ n * 2 ≤ BB ^ n * BB := Nat.mul_le_mul_left _ (by decide)
  omega
theorem QfZ {a b n m : Nat} (h1 : a ≤ BB ^ n) (h2 : b ≤ BB ^ m) : a * b ≤ BB ^ (n + m) := by
  rw [Nat.pow_add]; exact Nat.mul_le_mul h1 h2
theorem HL.ad {d1 h1 d2 h2 : Nat} {l m : List Rat} (H : HL d1 h1 l) (H' : HL d2 h2 m) : HL (d1 + d2) (max (h1 + d2) (h2 + d1) + 1) (adP l m) := by
  obtain ⟨D, a1, a2, a3⟩ := H
  obtain ⟨E, b1, b2, b3⟩ := H'
  refine HL.made (D := D * E) (X := BB ^ h1 * E + D * BB ^ h2) (Nat.mul_pos a1 b1) (QfZ a2 b2) (two_BB ?_ ?_) (fun k _ => ((Hq.getD a3 k).lift E).add ((Hq.getD b3 k).lift' D))
  · exact Nat.le_trans (QfZ (Nat.le_refl _) b2) (Qfm (by omega))
  · exact Nat.le_trans (QfZ a2 (Nat.le_refl _)) (Qfm (by omega))
theorem HL.sb {d1 h1 d2 h2 : Nat} {l m : List Rat} (H : HL d1 h1 l) (H' : HL d2 h2 m) : HL (d1 + d2) (max (h1 + d2) (h2 + d1) + 1) (sbP l m) := by
  obtain ⟨D, a1, a2, a3⟩ := H
  obtain ⟨E, b1, b2, b3⟩ := H'
  refine HL.made (D := D * E) (X := BB ^ h1 * E + D * BB ^ h2) (Nat.mul_pos a1 b1) (QfZ a2 b2) (two_BB ?_ ?_) (fun k _ => ((Hq.getD a3 k).lift E).sub ((Hq.getD b3 k).lift' D))
  · exact Nat.le_trans (QfZ (Nat.le_refl _) b2) (Qfm (by omega))
  · exact Nat.le_trans (QfZ a2 (Nat.le_refl _)) (Qfm (by omega))
/-- The values in the middle of Horner's rule. -/
theorem Hq.ev {D X E Y : Nat} {x : Rat} (hx : Hq E Y x) (hE : 0 < E) : ∀ {l : List Rat}, (∀ q ∈ l, Hq D X q) → Hq (D * E ^ l.length) (X * (E + Y) ^ l.length) (evR l x)
  | [], _ => by rw [Qm6]; exact Hq.zero _ _
  | a :: l, h => by
    have ih := Hq.ev hx hE (l := l) (fun q hq => h q (List.mem_cons_of_mem _ hq))
    have h1 := (h a (List.mem_cons_self ..)).lift (E ^ (l.length + 1))
    have h2 := ih.mul hx
    rw [Qno, List.length_cons]
    have e : D * E ^ l.length * E = D * E ^ (l.length + 1) := by rw [Nat.pow_succ, Nat.mul_assoc]
    rw [e] at h2
    refine (h2.add h1).le ?_
    have e1 : X * (E + Y) ^ (l.length + 1) = X * (E + Y) ^ l.length * Y + X * (E + Y) ^ l.length * E := by
      rw [Nat.pow_succ, ← Nat.mul_assoc, Nat.mul_add, Nat.add_comm]
    rw [e1]
    have e2 : X * E ^ (l.length + 1) ≤ X * (E + Y) ^ l.length * E := by
      rw [Nat.pow_succ, ← Nat.mul_assoc]
      exact Nat.mul_le_mul_right _ (Nat.mul_le_mul_left _ (Nat.pow_le_pow_left (by omega) _))
    omega
end Go.AM

/- poly.Shift. -/
namespace Go.AM
open Go Go.RowKit

/-- Horner's rule, from the end down to j. -/
def hst (l : List Rat) (a : Rat) (j : Nat) : List Rat := l.take j ++ (evR (l.drop j) a :: syn (l.drop j) a)
theorem hst_len {l : List Rat} {a : Rat} {j : Nat} (h : j < l.length) : (hst l a j).length = l.length := by
  rw [hst, List.length_append, List.length_cons, syn_len, List.length_take, List.length_drop]; omega
/-- After i rounds. -/
def pas (l : List Rat) (a : Rat) : Nat → List Rat
  | 0 => l
  | i + 1 => hst (pas l a i) a i
theorem QpA {l : List Rat} {a : Rat} : ∀ i, i ≤ l.length → (pas l a i).length = l.length
  | 0, _ => rfl
  | i + 1, h => by
    have ih := QpA (l := l) (a := a) i (by omega)
    rw [pas, hst_len (by omega), ih]
variable [Its]

end Go.AM

/- poly.Div. -/
namespace Go.AM
open Go Go.RowKit

variable [Its]

section
variable {dq : D} {q : List Rat} {n m : Nat} {K : Nat}
end
end Go.AM

/- poly.monic, Gcd, Free; closed inputs. -/
namespace Go.AM
open Go Go.RowKit

/-! ### QaP inputs: all of them of one digit -/
variable [Its]

theorem Qsh : Qaj G Qcy [iv 1, iv 1] = some (.d (encR 1)) := by
  have g := QbU (n := 1) (d := 1) ⟨by omega, by omega⟩ ⟨by omega, by omega⟩
  have e : Rat.divInt 1 1 = 1 := Qdc 1
  rw [e] at g; exact g
end Go.AM

/- ref04.Same at equal numbers. -/
namespace Go.AM
open Go Go.RowKit

def bx2 (b : Bool) (l : List Int) : Obj := ⟨0, 0, [.d (.v (.bool b)), .d (dg l)], false⟩
theorem bself (b : Bool) : (b == b) = true := by cases b <;> rfl
variable [Its]

def QpS (b : Bool) (l : List Int) (i : Int) : St := mkS [(2, .ptr [2] 0), (3, .ptr [3] 0), (5, ai i)] [([2], bx2 b l), ([3], bx2 b l)]
theorem s4_go {b : Bool} {l : List Int} (hl : l.length ≤ 1000000000000) {i : Nat} (hi : i < l.length) : X G QbK (QpS b l i) = some (.n, QpS b l ((i + 1 : Nat) : Int)) := by
  have e1 : decide ((i : Int) < (l.length : Int)) = true := lt_t (by omega)
  have e2 : w64 ((i : Int) + 1) = ((i + 1 : Nat) : Int) := by rw [Qac (by omega) (by omega)]; rfl
  have x1 := (Rw.dg l).ixn hi
  have x2 := fun h => ldv h l hi
  have e3 : (l.getD i 0 != l.getD i 0) = false := bne_self_eq_false _
  simp -implicitDefEqProofs (maxSteps := 10000000) only [QbK, QpS, bx2, x1, x2, e1, e2, e3, go_sem, Qae, Qaa, iv, bv, reduceCtorEq, ↓reduceIte, Nat.reduceEqDiff]
theorem s4_stop {b : Bool} {l : List Int} : X G QbK (QpS b l (l.length : Nat)) = some (.x 0, mkS [] []) := by
  have e1 : decide ((l.length : Int) < (l.length : Int)) = false := lt_f (by omega)
  simp -implicitDefEqProofs (maxSteps := 10000000) only [QbK, QpS, bx2, e1, go_sem, Qae, Qaa, iv, bv, reduceCtorEq, ↓reduceIte, Nat.reduceEqDiff]
theorem s4_loop {b : Bool} {l : List Int} (hl : l.length ≤ 1000000000000) : ∀ j i : Nat, i + j = l.length → X G (.loop QbK) (QpS b l i) = some (.x 0, mkS [] [])
  | 0, i, h => by
    have : i = l.length := by omega
    subst this
    rw [Qak, s4_stop]; rfl
  | j + 1, i, h => by
    rw [Qak, s4_go hl (by omega), Option.bind_some, if_pos rfl]
    exact s4_loop hl j (i + 1) (by omega)
theorem s4_refl {b : Bool} {l : List Int} (hl : l.length ≤ 1000000000000) : Qaj G QdZ [.agg [.v (.bool b), dg l], .agg [.v (.bool b), dg l]] = some (.d (bv true)) := by
  rw [Qaf (cf := gantryref04_Same) rfl]
  have h := s4_loop (b := b) hl l.length 0 (by omega)
  have e1 : ((l.length : Int) != (l.length : Int)) = false := bne_self_eq_false _
  have e2 := bself b
  simp only [QpS, bx2, go_sem, nc0] at h
  simp -implicitDefEqProofs (maxSteps := 10000000) only [gantryref04_Same, h, e1, e2, go_sem, Qae, Qaa, iv, bv, reduceCtorEq, ↓reduceIte, Nat.reduceEqDiff]
end Go.AM

/- Equality: ref04, ref05, ref06.Same, rat.Same at equal numbers. -/
namespace Go.AM
open Go Go.RowKit

variable [Its]
theorem s5_refl {a : Rat} (ha : sz a ≤ 100000000000) : Qaj G Qcn [encR a, encR a] = some (.d (bv true)) := by
  rw [Qaf (cf := gantryref05_Same) rfl]
  have h1 : (digs a.num.natAbs).length ≤ 1000000000000 := by have := QcK ha; unfold nd at this; omega
  have h2 : (dd a.den).length ≤ 1000000000000 := by
    have := QcV ha
    unfold nd at this
    rw [Int.natAbs_natCast] at this
    unfold dd
    split
    · simp
    · omega
  have g1 := s4_refl (b := decide (a.num < 0)) h1
  have g2 := s4_refl (b := false) h2
  clear h1 h2 ha
  unfold encR
  generalize digs a.num.natAbs = l1 at *
  generalize dd a.den = l2 at *
  generalize decide (a.num < 0) = b at *
  simp only [bv] at g1 g2
  simp -implicitDefEqProofs (maxSteps := 10000000) only [gantryref05_Same, g1, g2, go_sem, Qae, Qaa, iv, bv, reduceCtorEq, ↓reduceIte, Nat.reduceEqDiff]
def Qpv (d d' : D) (i : Int) : St := mkS [(0, .d d), (1, .d d'), (5, ai i)] []
theorem s6_go {d d' : D} {l : List Rat} (h1 : RwR d l) (h2 : RwR d' l) (sl : SzL 100000000000 l) (hl : l.length ≤ 1000000000000) {i : Nat} (hi : i < l.length) : X G QbI (Qpv d d' i) = some (.n, Qpv d d' ((i + 1 : Nat) : Int)) := by
  have e1 : decide ((i : Int) < (l.length : Int)) = true := lt_t (by omega)
  have e2 : w64 ((i : Int) + 1) = ((i + 1 : Nat) : Int) := by rw [Qac (by omega) (by omega)]; rfl
  have ll := h1.len
  have x1 := h1.ixa hi
  have x2 := h2.ixa hi
  have y1 := fun h => ldR h l hi
  have g := s5_refl (a := l.getD i 0) (sl.getD (by omega) i)
  generalize l.getD i 0 = q at *
  generalize cRs (l.drop i) = cs at *
  simp only [encR, bv] at y1 g
  simp -implicitDefEqProofs (maxSteps := 10000000) only [QbI, Qpv, ll, x1, x2, y1, e1, e2, g, go_sem, iv, bv, reduceCtorEq, ↓reduceIte, Nat.reduceEqDiff]
theorem s6_stop {d d' : D} {l : List Rat} (h1 : RwR d l) : X G QbI (Qpv d d' (l.length : Nat)) = some (.x 0, mkS [] []) := by
  have e1 : decide ((l.length : Int) < (l.length : Int)) = false := lt_f (by omega)
  have ll := h1.len
  simp -implicitDefEqProofs (maxSteps := 10000000) only [QbI, Qpv, ll, e1, go_sem, iv, bv, reduceCtorEq, ↓reduceIte, Nat.reduceEqDiff]
theorem s6_loop {d d' : D} {l : List Rat} (h1 : RwR d l) (h2 : RwR d' l) (sl : SzL 100000000000 l) (hl : l.length ≤ 1000000000000) : ∀ j i : Nat, i + j = l.length → X G (.loop QbI) (Qpv d d' i) = some (.x 0, mkS [] [])
  | 0, i, h => by
    have : i = l.length := by omega
    subst this
    rw [Qak, s6_stop h1]; rfl
  | j + 1, i, h => by
    rw [Qak, s6_go h1 h2 sl hl (by omega), Option.bind_some, if_pos rfl]
    exact s6_loop h1 h2 sl hl j (i + 1) (by omega)
theorem s6_refl {d d' : D} {l : List Rat} (h1 : RwR d l) (h2 : RwR d' l) (sl : SzL 100000000000 l) (hl : l.length ≤ 1000000000000) : Qaj G QdS [d, d'] = some (.d (bv true)) := by
  rw [Qaf (cf := gantryref06_Same) rfl]
  have h := s6_loop h1 h2 sl hl l.length 0 (by omega)
  have e1 : ((l.length : Int) != (l.length : Int)) = false := bne_self_eq_false _
  have ll := h1.len
  have ll2 := h2.len
  simp only [Qpv, go_sem, nc0] at h
  simp -implicitDefEqProofs (maxSteps := 10000000) only [gantryref06_Same, h, ll, ll2, e1, go_sem, iv, bv, reduceCtorEq, ↓reduceIte, Nat.reduceEqDiff]
theorem s6_same {d d' : D} {l m : List Rat} (h1 : RwR d l) (h2 : RwR d' m) (h : l = m) (sl : SzL 100000000000 l) (hl : l.length ≤ 1000000000000) : Qaj G QdS [d, d'] = some (.d (bv true)) := by
  subst h; exact s6_refl h1 h2 sl hl

/-! ### rat.Same -/
def Qla (d d' : D) (n i : Int) : St := mkS [(0, .d d), (1, .d d'), (12, ai n), (13, ai i)] []
theorem eqi_go {l : List Int} (hl : l.length ≤ 1000000000000) {i : Nat} (hi : i < l.length) : X G Qa8 (Qla (dg l) (dg l) (l.length : Nat) i) = some (.n, Qla (dg l) (dg l) (l.length : Nat) ((i + 1 : Nat) : Int)) := by
  have e1 : decide ((i : Int) < (l.length : Int)) = true := lt_t (by omega)
  have e2 : w64 ((i : Int) + 1) = ((i + 1 : Nat) : Int) := by rw [Qac (by omega) (by omega)]; rfl
  have x1 := (Rw.dg l).ixn hi
  have x2 := fun h => ldv h l hi
  have e3 : (l.getD i 0 != l.getD i 0) = false := bne_self_eq_false _
  simp -implicitDefEqProofs (maxSteps := 10000000) only [Qa8, Qla, x1, x2, e1, e2, e3, go_sem, iv, bv, reduceCtorEq, ↓reduceIte, Nat.reduceEqDiff]
theorem eqi_stop {l : List Int} : X G Qa8 (Qla (dg l) (dg l) (l.length : Nat) (l.length : Nat)) = some (.x 0, mkS [] []) := by
  have e1 : decide ((l.length : Int) < (l.length : Int)) = false := lt_f (by omega)
  simp -implicitDefEqProofs (maxSteps := 10000000) only [Qa8, Qla, e1, go_sem, iv, bv, reduceCtorEq, ↓reduceIte, Nat.reduceEqDiff]
theorem QrF {l : List Int} (hl : l.length ≤ 1000000000000) : ∀ j i : Nat, i + j = l.length → X G (.loop Qa8) (Qla (dg l) (dg l) (l.length : Nat) i) = some (.x 0, mkS [] [])
  | 0, i, h => by
    have : i = l.length := by omega
    subst this
    rw [Qak, eqi_stop]; rfl
  | j + 1, i, h => by
    rw [Qak, eqi_go hl (by omega), Option.bind_some, if_pos rfl]
    exact QrF hl j (i + 1) (by omega)
theorem eqi_refl {l : List Int} (hl : l.length ≤ 1000000000000) : Qaj G Qd5 [dg l, dg l] = some (.d (bv true)) := by
  rw [Qaf (cf := slices_Equal_int_int) rfl]
  have h := QrF hl l.length 0 (by omega)
  have e1 : ((l.length : Int) != (l.length : Int)) = false := bne_self_eq_false _
  simp only [Qla, go_sem, nc0] at h
  simp -implicitDefEqProofs (maxSteps := 10000000) only [slices_Equal_int_int, h, e1, go_sem, iv, bv, reduceCtorEq, ↓reduceIte, Nat.reduceEqDiff]
theorem QqL {b : Bool} {l : List Int} (hl : l.length ≤ 1000000000000) : Qaj G Qju [.agg [.v (.bool b), dg l], .agg [.v (.bool b), dg l]] = some (.d (bv true)) := by
  rw [Qaf (cf := rat_Same_1) rfl]
  have g := eqi_refl hl
  have e2 := bself b
  simp only [bv] at g
  simp -implicitDefEqProofs (maxSteps := 10000000) only [rat_Same_1, g, e2, go_sem, Qae, Qaa, iv, bv, reduceCtorEq, ↓reduceIte, Nat.reduceEqDiff]
theorem QpL {a : Rat} (ha : sz a ≤ 100000000000) : Qaj G QgP [encR a, encR a] = some (.d (bv true)) := by
  rw [Qaf (cf := rat_Same) rfl]
  have h1 : (digs a.num.natAbs).length ≤ 1000000000000 := by have := QcK ha; unfold nd at this; omega
  have h2 : (dd a.den).length ≤ 1000000000000 := by
    have := QcV ha
    unfold nd at this
    rw [Int.natAbs_natCast] at this
    unfold dd
    split
    · simp
    · omega
  have g1 := QqL (b := decide (a.num < 0)) h1
  have g2 := QqL (b := false) h2
  clear h1 h2 ha
  unfold encR
  generalize digs a.num.natAbs = l1 at *
  generalize dd a.den = l2 at *
  generalize decide (a.num < 0) = b at *
  simp only [bv] at g1 g2
  simp -implicitDefEqProofs (maxSteps := 10000000) only [rat_Same, g1, g2, List.append_nil, go_sem, Qae, Qaa, iv, bv, reduceCtorEq, ↓reduceIte, Nat.reduceEqDiff]
end Go.AM

/- ref06: Trim, Small, Mul. -/
namespace Go.AM
open Go Go.RowKit

variable [Its]

/-! ### Trim -/
def Qfa (d : D) (n : Int) : St := mkS [(0, .d d), (3, ai n)] []
theorem rtr_go {d : D} {l : List Rat} (hr : RwR d l) {n : Nat} (hn : n < l.length) (hl : l.length * 64 ≤ 140737488351232) (sl : SzL 100000000000 l) (h0 : l.getD n 0 = 0) : X G QaV (Qfa d ((n + 1 : Nat) : Int)) = some (.n, Qfa d (n : Int)) := by
  have e1 : decide (((n + 1 : Nat) : Int) > 0) = true := gt_t (by omega)
  have e2 : w64 (((n + 1 : Nat) : Int) - 1) = (n : Int) := by rw [Qac (by omega) (by omega)]; omega
  have e6 : (if (0 : Int) > (n : Int) then (0 : Int) else (n : Int)) = (n : Int) := if_neg (by omega)
  have e3 := hr.ixa hn
  have e4 := fun h => ldR h l hn
  have g := Qij (a := l.getD n 0) (sl.getD (by omega) n)
  have e5 : (Int.sign (l.getD n 0).num == 0) = true := by rw [sgn0]; exact decide_eq_true h0
  clear h0
  generalize ((n + 1 : Nat) : Int) = n1 at *
  generalize l.getD n 0 = q at *
  simp only [encR, iv] at e4 g
  simp -implicitDefEqProofs (maxSteps := 10000000) only [QaV, Qfa, QhC, mxV, e6, go_sem, iv, bv, e1, e2, e3, e4, e5, g, reduceCtorEq, ↓reduceIte, Nat.reduceEqDiff]
theorem rtr_stop {d : D} {l : List Rat} (hr : RwR d l) {n : Nat} (hn : n < l.length) (hl : l.length * 64 ≤ 140737488351232) (sl : SzL 100000000000 l) (h0 : l.getD n 0 ≠ 0) : X G QaV (Qfa d ((n + 1 : Nat) : Int)) = some (.x 0, Qfa d ((n + 1 : Nat) : Int)) := by
  have e1 : decide (((n + 1 : Nat) : Int) > 0) = true := gt_t (by omega)
  have e2 : w64 (((n + 1 : Nat) : Int) - 1) = (n : Int) := by rw [Qac (by omega) (by omega)]; omega
  have e6 : (if (0 : Int) > (n : Int) then (0 : Int) else (n : Int)) = (n : Int) := if_neg (by omega)
  have e3 := hr.ixa hn
  have e4 := fun h => ldR h l hn
  have g := Qij (a := l.getD n 0) (sl.getD (by omega) n)
  have e5 : (Int.sign (l.getD n 0).num == 0) = false := by rw [sgn0]; exact decide_eq_false h0
  clear h0
  generalize ((n + 1 : Nat) : Int) = n1 at *
  generalize l.getD n 0 = q at *
  simp only [encR, iv] at e4 g
  simp -implicitDefEqProofs (maxSteps := 10000000) only [QaV, Qfa, QhC, mxV, e6, go_sem, iv, bv, e1, e2, e3, e4, e5, g, reduceCtorEq, ↓reduceIte, Nat.reduceEqDiff]
theorem rtr_zero {d : D} : X G QaV (Qfa d 0) = some (.x 0, Qfa d 0) := by
  have e1 : decide ((0 : Int) > 0) = false := rfl
  simp -implicitDefEqProofs (maxSteps := 10000000) only [QaV, Qfa, go_sem, iv, bv, e1, reduceCtorEq, ↓reduceIte, Nat.reduceEqDiff]
theorem QqD {d : D} {l : List Rat} (hr : RwR d l) (hl : l.length * 64 ≤ 140737488351232) (sl : SzL 100000000000 l) : ∀ n : Nat, n ≤ l.length → X G (.loop QaV) (Qfa d (n : Int)) = some (.x 0, Qfa d (cutR l n : Nat))
  | 0, _ => by
    rw [Qak]
    show (X G QaV (Qfa d 0)).bind _ = _
    rw [rtr_zero]; rfl
  | n + 1, hn => by
    rw [Qak, cutR]
    by_cases h0 : l.getD n 0 = 0
    · rw [rtr_go hr (by omega) hl sl h0, Option.bind_some, if_pos rfl, if_pos h0]
      exact QqD hr hl sl n (by omega)
    · rw [rtr_stop hr (by omega) hl sl h0, if_neg h0]; rfl
theorem Qr2 {d : D} {l : List Rat} (hr : RwR d l) (hl : l.length * 64 ≤ 140737488351232) (sl : SzL 100000000000 l) : ∃ d', RwR d' (Qep l) ∧ Qaj G Qfb [d] = some (.d d') := by
  rw [Qaf (cf := gantryref06_Trim) rfl]
  have hl' := QqD hr hl sl l.length (Nat.le_refl _)
  have hc := QiD l l.length
  have ll := hr.len
  rcases hr with ⟨rfl, rfl⟩ | rfl
  · simp only [Qfa, List.length_nil, cutR, go_sem] at hl'
    refine ⟨.z true, .inl ⟨rfl, rfl⟩, ?_⟩
    have b0 : (0 * 64 ≤ bound) = True := eq_true (by decide)
    simp -implicitDefEqProofs (maxSteps := 10000000) only [gantryref06_Trim, slcA, bnds, optI, srcS, src, b0, List.length_nil, Nat.zero_mul, Nat.zero_le, go_sem, iv, bv, hl', ll, Int.le_refl, reduceCtorEq, ↓reduceIte, Nat.reduceEqDiff]
  · refine ⟨dR (Qep l), dR_ok _, ?_⟩
    have e1 : rowR (Qep l) = .row (cutR l l.length) ((cRs l).take (cutR l l.length * 4)) := by rw [rowR, QeU, Qep, Qj6]
    have e0 : dR (Qep l) = if cutR l l.length = 0 then .z true else .row (cutR l l.length) ((cRs l).take (cutR l l.length * 4)) := by
      rw [dR, e1]
      have := QeU l
      by_cases h : Qep l = []
      · rw [if_pos h, if_pos (by rw [← this, h]; rfl)]
      · rw [if_neg h, if_neg (fun h' => h (List.eq_nil_of_length_eq_zero (by omega)))]
    rw [e0]
    have e2 : (((0 : Int) ≤ 0 ∧ (0 : Int) ≤ (cutR l l.length : Nat) ∧ ((cutR l l.length : Nat) : Int) ≤ (l.length : Nat))) = True := eq_true ⟨by omega, by omega, by omega⟩
    have e3 : ((cutR l l.length : Nat) : Int).toNat = cutR l l.length := Int.toNat_natCast _
    have e5 : ((0 : Int) ≤ (cutR l l.length : Nat)) = True := eq_true (by omega)
    have e6 : (((cutR l l.length : Nat) : Int) ≤ (l.length : Nat)) = True := eq_true (by omega)
    have e7 : (cutR l l.length * 64 ≤ bound) = True := eq_true (by unfold bound; omega)
    have e8 : ((cRs l).take (cutR l l.length * 4)).length = cutR l l.length * 4 := by rw [List.length_take, QfC]; omega
    clear e0 e1
    unfold rowR at *
    generalize cutR l l.length = c at *
    generalize cRs l = cs at *
    simp only [Qfa, go_sem] at hl'
    by_cases h0 : c = 0
    · subst h0
      simp only [Nat.zero_mul, List.take_zero] at e8 ⊢
      have b0 : (0 * 64 ≤ bound) = True := eq_true (by decide)
      have b1 : ((0 : Int) ≤ (l.length : Int)) = True := eq_true (by omega)
      simp -implicitDefEqProofs (maxSteps := 10000000) only [gantryref06_Trim, b1, slcA, bnds, optI, srcS, src, b0, List.length_nil, List.take_zero, Nat.zero_mul, Nat.zero_le, go_sem, iv, bv, hl', ll, e2, e3, e5, e6, Int.le_refl, and_self, reduceCtorEq, ↓reduceIte, Nat.reduceEqDiff]
    · simp -implicitDefEqProofs (maxSteps := 10000000) only [gantryref06_Trim, slcA, bnds, optI, srcS, src, h0, e7, e8, go_sem, iv, bv, hl', ll, e2, e3, e5, e6, Int.le_refl, and_self, reduceCtorEq, ↓reduceIte, Nat.reduceEqDiff]

/-! ### Mul -/
section
variable {dp dq : D} {p q : List Rat} {n : Nat}
variable {D E XX YY d h K : Nat}
end
end Go.AM

/- ref06.Poly. -/
namespace Go.AM
open Go Go.RowKit

theorem H1.neg {d h : Nat} {q : Rat} (H : H1 d h q) : H1 d h (-q) := by
  obtain ⟨D, h1, h2, h3⟩ := H
  exact ⟨D, h1, h2, h3.neg⟩
theorem H1.one : H1 0 0 1 := ⟨1, by omega, by simp [BB], ⟨1, Rat.mul_one _, by simp⟩⟩
theorem HL.cons {d1 h1 d2 h2 : Nat} {a : Rat} {l : List Rat} (H : H1 d1 h1 a) (H' : HL d2 h2 l) : HL (d1 + d2) (max (h1 + d2) (h2 + d1)) (a :: l) := by
  obtain ⟨D, a1, a2, a3⟩ := H
  obtain ⟨E, b1, b2, b3⟩ := H'
  refine ⟨D * E, Nat.mul_pos a1 b1, QfZ a2 b2, fun q hq => ?_⟩
  rcases List.mem_cons.1 hq with rfl | hq
  · exact (a3.lift E).le (Nat.le_trans (QfZ (Nat.le_refl _) b2) (Qfm (by omega)))
  · exact ((b3 q hq).lift' D).le (Nat.le_trans (QfZ a2 (Nat.le_refl _)) (Qfm (by omega)))
variable [Its]

section
variable {e0 : D} {l : List Int}
end
end Go.AM

/- How great the coefficients of a shift are. -/
namespace Go.AM
open Go Go.RowKit

theorem evR_dropL (l : List Rat) (x : Rat) {k : Nat} (h : k < l.length) : evR (l.drop k) x = evR (l.drop (k + 1)) x * x + l.getD k 0 := by
  have e : l.drop k = l.getD k 0 :: l.drop (k + 1) := by
    rw [List.drop_eq_getElem_cons h, List.getD_eq_getElem?_getD, List.getElem?_eq_getElem h]; rfl
  rw [e, Qno]
theorem Qq2 (a : Rat) : ∀ (s : List Rat) (i : Nat), s ≠ [] → (evR s a :: syn s a).getD i 0 = evR (s.drop i) a
  | [], _, h => absurd rfl h
  | [x], 0, _ => rfl
  | [x], i + 1, _ => by
    rw [syn]
    show (0 : Rat) = evR ([].drop i) a
    rw [List.drop_nil, Qm6]
  | x :: b :: l, 0, _ => rfl
  | x :: b :: l, i + 1, _ => by
    rw [syn]
    show (evR (b :: l) a :: syn (b :: l) a).getD i 0 = evR ((b :: l).drop i) a
    exact Qq2 a (b :: l) i (by simp)
theorem hst_getD {l : List Rat} {a : Rat} {j : Nat} (hj : j < l.length) (t : Nat) : (hst l a j).getD t 0 = if t < j then l.getD t 0 else evR (l.drop t) a := by
  have hT : (l.take j).length = j := by rw [List.length_take]; omega
  unfold hst
  by_cases h : t < j
  · rw [if_pos h, List.getD_eq_getElem?_getD, List.getElem?_append_left (by omega), List.getElem?_take_of_lt h, ← List.getD_eq_getElem?_getD]
  · rw [if_neg h, List.getD_eq_getElem?_getD, List.getElem?_append_right (by omega), ← List.getD_eq_getElem?_getD, hT, Qq2      a _ _ (by
      intro h0; have := congrArg List.length h0; rw [List.length_drop] at this; simp at this; omega), List.drop_drop, show j + (t - j) = t by omega]
/-- Each place has its own power of v below. -/
def WS (D v n H : Nat) (l : List Rat) : Prop := ∀ k, k ≤ n → Hq (D * v ^ (n - k)) H (l.getD k 0)
theorem WS.suffix {D v n H U : Nat} {l : List Rat} {a : Rat} (h : WS D v n H l) (ha : Hq v U a) (hl : l.length ≤ n) : ∀ j t : Nat, t + j = n → Hq (D * v ^ (n - t)) (H * (1 + U) ^ j) (evR (l.drop t) a)
  | 0, t, ht => by
    rw [List.drop_of_length_le (by omega), Qm6]; exact Hq.zero _ _
  | j + 1, t, ht => by
    by_cases h1 : t < l.length
    · have ih := WS.suffix h ha hl j (t + 1) (by omega)
      have h2 := ih.mul ha
      have h3 := h t (by omega)
      have e : D * v ^ (n - (t + 1)) * v = D * v ^ (n - t) := by
        rw [show n - t = (n - (t + 1)) + 1 by omega, Nat.pow_succ, Nat.mul_assoc]
      rw [e] at h2
      rw [evR_dropL l a h1]
      refine (h2.add h3).le ?_
      have e1 : H * (1 + U) ^ (j + 1) = H * (1 + U) ^ j * U + H * (1 + U) ^ j := by
        rw [Nat.pow_succ, ← Nat.mul_assoc, Nat.mul_add, Nat.mul_one, Nat.add_comm]
      rw [e1]
      have : H ≤ H * (1 + U) ^ j := Nat.le_mul_of_pos_right _ (Nat.pow_pos (by omega))
      omega
    · rw [List.drop_of_length_le (by omega), Qm6]; exact Hq.zero _ _
theorem WS.hst {D v n H U : Nat} {l : List Rat} {a : Rat} (h : WS D v n H l) (ha : Hq v U a) (hl : l.length ≤ n) {j : Nat} (hj : j < l.length) : WS D v n (H * (1 + U) ^ n) (hst l a j) := fun k hk => by
  rw [hst_getD hj]
  split
  · exact (h k hk).le (Nat.le_mul_of_pos_right _ (Nat.pow_pos (by omega)))
  · exact (h.suffix ha hl (n - k) k (by omega)).le (Nat.mul_le_mul_left _ (Nat.pow_le_pow_right (by omega) (by omega)))
theorem WS.pas {D v n H U : Nat} {l : List Rat} {a : Rat} (h : WS D v n H l) (ha : Hq v U a) (hl : l.length ≤ n) : ∀ i, i ≤ l.length → WS D v n (H * ((1 + U) ^ n) ^ i) (pas l a i)
  | 0, _ => by rw [Nat.pow_zero, Nat.mul_one]; exact h
  | i + 1, hi => by
    have ih := WS.pas h ha hl i (by omega)
    have := ih.hst ha (by rw [QpA i (by omega)]; exact hl) (j := i) (by rw [QpA i (by omega)]; omega)
    rw [Nat.mul_assoc, ← Nat.pow_succ] at this
    exact this
end Go.AM

/- Small helps for the laws of ref06.Poly's polynomials. -/
namespace Go.AM
open Go Go.RowKit Go.Proofs
theorem H1.add {d1 h1 d2 h2 : Nat} {a b : Rat} (H : H1 d1 h1 a) (H' : H1 d2 h2 b) : H1 (d1 + d2) (max (h1 + d2) (h2 + d1) + 1) (a + b) := by
  obtain ⟨D, a1, a2, a3⟩ := H
  obtain ⟨E, b1, b2, b3⟩ := H'
  refine ⟨D * E, Nat.mul_pos a1 b1, QfZ a2 b2, ((a3.lift E).add (b3.lift' D)).le (two_BB ?_ ?_)⟩
  · exact Nat.le_trans (QfZ (Nat.le_refl _) b2) (Qfm (by omega))
  · exact Nat.le_trans (QfZ a2 (Nat.le_refl _)) (Qfm (by omega))
variable [Its]
theorem evalP [ItsB] {d : D} {l : List Rat} {x : Rat} (h1 : RwR d l) (s1 : SzL 10000 l) (n1 : l.length ≤ 1000) (hx : sz x ≤ 10000) : Qaj G Qdx [d, encR x] = some (.d (encR (evR l x))) ∧ sz (evR l x) ≤ 100000000 := by
  have hb := Nat.mul_le_mul_right (2 * 10000 + 1) n1
  refine ⟨QhB h1 hx (by omega) s1 (Nat.le_trans hb (by decide)), ?_⟩
  exact Nat.le_trans (evR_sz (K := 10000) hx l s1) (Nat.le_trans (Nat.add_le_add_right hb 1) (by decide))
end Go.AM

/- Vectors; ref12.Vec, Dot; ref13 and gap: small functions. -/
namespace Go.AM
open Go Go.RowKit

abbrev Vc := Rat × Rat
def encV (v : Vc) : D := .agg [.v (.bool (decide (v.1.num < 0))), dg (digs v.1.num.natAbs), .v (.bool false), dg (dd v.1.den), .v (.bool (decide (v.2.num < 0))), dg (digs v.2.num.natAbs), .v (.bool false), dg (dd v.2.den)]
def vcA (n : Int) : Int := arnd n 96 % 24 * 2 - 24 + arnd n 96 / 72
def vcB (n : Int) : Int := 2 + arnd n 96 / 48 % 2
def vcR (n : Int) : Rat := Rat.divInt (vcA n) (vcB n)
def dotR (d : Dr) (v : Vc) : Rat := (d.1 : Rat) * v.1 + (d.2.1 : Rat) * v.2
def rtR (d : Dr) (v : Vc) : Rat := dotR d v / (d.2.2 : Rat)
def gpR (e : Eg) (v : Vc) : Rat := (dotR e.1 v - (e.2 : Rat)) / (e.1.2.2 : Rat)
def plV (a b : Vc) : Vc := (a.1 + b.1, a.2 + b.2)
def tmV (k : Rat) (a : Vc) : Vc := (k * a.1, k * a.2)
def SzV (K : Nat) (v : Vc) : Prop := sz v.1 ≤ K ∧ sz v.2 ≤ K
theorem SzV.mono {K L : Nat} {v : Vc} (h : SzV K v) (hk : K ≤ L) : SzV L v := ⟨Nat.le_trans h.1 hk, Nat.le_trans h.2 hk⟩
def AtE (e : Eg) : Prop := NmD e.1 ∧ I64 e.2
theorem NmD.i1 {d : Dr} (h : NmD d) : I64 d.1 := ⟨by have := h.1; omega, by have := h.1; omega⟩
theorem NmD.i2 {d : Dr} (h : NmD d) : I64 d.2.1 := ⟨by have := h.2.1; omega, by have := h.2.1; omega⟩
theorem NmD.i3 {d : Dr} (h : NmD d) : I64 d.2.2 := ⟨by have := h.2.2; omega, by have := h.2.2; omega⟩
theorem QeV : I64 1 := ⟨by omega, by omega⟩
theorem QkX {d : Dr} {v : Vc} {K : Nat} (hd : NmD d) (hv : SzV K v) : sz (dotR d v) ≤ 2 * K + 7 := by
  have h1 := Qd4 hd.i1
  have h2 := Qd4 hd.i2
  have h3 := QeM (a := (d.1 : Rat)) (b := v.1)
  have h4 := QeM (a := (d.2.1 : Rat)) (b := v.2)
  have h5 := Qkz (a := (d.1 : Rat) * v.1) (b := (d.2.1 : Rat) * v.2)
  have := hv.1
  have := hv.2
  unfold dotR
  omega
theorem QlH {d : Dr} {v : Vc} {K : Nat} (hd : NmD d) (hv : SzV K v) : sz (rtR d v) ≤ 2 * K + 10 := by
  have h1 := QkX hd hv
  have h2 := Qd4 hd.i3
  have h3 := Qq4 (a := dotR d v) (b := (d.2.2 : Rat))
  unfold rtR
  omega
theorem Qra {e : Eg} {v : Vc} {K : Nat} (he : AtE e) (hv : SzV K v) : sz (gpR e v) ≤ 2 * K + 14 := by
  have h1 := QkX he.1 hv
  have h2 := Qd4 he.1.i3
  have h3 := Qd4 he.2
  have h4 := QqU (a := dotR e.1 v) (b := (e.2 : Rat))
  have h5 := Qq4 (a := dotR e.1 v - (e.2 : Rat)) (b := (e.1.2.2 : Rat))
  unfold gpR
  omega
theorem QlG {a b : Vc} {K L : Nat} (ha : SzV K a) (hb : SzV L b) : SzV (K + L + 1) (plV a b) := by
  have h1 := Qkz (a := a.1) (b := b.1)
  have h2 := Qkz (a := a.2) (b := b.2)
  have := ha.1; have := ha.2; have := hb.1; have := hb.2
  constructor <;> (unfold plV; dsimp only; omega)
theorem QqZ {k : Rat} {a : Vc} {K L : Nat} (hk : sz k ≤ L) (ha : SzV K a) : SzV (K + L) (tmV k a) := by
  have h1 := QeM (a := k) (b := a.1)
  have h2 := QeM (a := k) (b := a.2)
  have := ha.1; have := ha.2
  constructor <;> (unfold tmV; dsimp only; omega)
theorem vc_b (n : Int) : (-24 ≤ vcA n ∧ vcA n ≤ 24) ∧ (2 ≤ vcB n ∧ vcB n ≤ 3) := by
  have h := Qqt (n := n) (m := 96) (by omega)
  unfold vcA vcB
  omega
theorem vcR_sz (n : Int) : sz (vcR n) ≤ 3 := by
  have h := vc_b n
  exact QpZ ⟨by omega, by omega⟩ ⟨by omega, by omega⟩
theorem Ql5 (x y : Int) : SzV 3 (vcR x, vcR y) := ⟨vcR_sz x, vcR_sz y⟩
theorem st8 (a b c d e f g h i j k l m n o p : A) : Qae 0 [a, b, c, d, e, f, g, h] [i, j, k, l, m, n, o, p] = some [a, b, c, d, e, f, g, h] := rfl
theorem ld8 (a b c d e f g h : D) : Qaa (some 8) 0 [.d a, .d b, .d c, .d d, .d e, .d f, .d g, .d h] = some (.d (.agg [a, b, c, d, e, f, g, h])) := rfl
theorem ld80 (a b c d e f g h : D) : Qaa (some 4) 0 [.d a, .d b, .d c, .d d, .d e, .d f, .d g, .d h] = some (.d (.agg [a, b, c, d])) := rfl
theorem ld84 (a b c d e f g h : D) : Qaa (some 4) 4 [.d a, .d b, .d c, .d d, .d e, .d f, .d g, .d h] = some (.d (.agg [e, f, g, h])) := rfl
theorem st4' (a b c d i j k l : A) : Qae 0 [a, b, c, d] [i, j, k, l] = some [a, b, c, d] := rfl
theorem ld3_0 (a b c : D) : Qaa none 0 [.d a, .d b, .d c] = some (.d a) := rfl
theorem ld3_1 (a b c : D) : Qaa none 1 [.d a, .d b, .d c] = some (.d b) := rfl
theorem ld3_2 (a b c : D) : Qaa none 2 [.d a, .d b, .d c] = some (.d c) := rfl
theorem ld4_3 (a b c d : D) : Qaa (some 3) 0 [.d a, .d b, .d c, .d d] = some (.d (.agg [a, b, c])) := rfl
theorem Qei (a b c d : D) : Qaa (some 4) 0 [.d a, .d b, .d c, .d d] = some (.d (.agg [a, b, c, d])) := rfl
theorem ld4_n2 (a b c d : D) : Qaa none 2 [.d a, .d b, .d c, .d d] = some (.d c) := rfl
theorem ld4_n3 (a b c d : D) : Qaa none 3 [.d a, .d b, .d c, .d d] = some (.d d) := rfl
theorem rep3_4 (a b c d : D) : rep 3 [a, b, c, d] = [a, b, c, d, a, b, c, d, a, b, c, d] := rfl

theorem gp_alt (e : Eg) (v : Vc) : rtR e.1 v - Rat.divInt e.2 e.1.2.2 = gpR e v := by
  unfold rtR gpR
  rw [Rat.divInt_eq_div, Rat.div_def, Rat.div_def, Rat.div_def]
  generalize dotR e.1 v = p
  generalize ((e.1.2.2 : Int) : Rat)⁻¹ = q
  generalize ((e.2 : Int) : Rat) = r
  grind
theorem QmO (q : Rat) : q * Rat.divInt 1 2 = q / 2 := by
  rw [Rat.divInt_eq_div, Rat.div_def, Rat.div_def]
  congr 1
  rw [show ((1 : Int) : Rat) = 1 from rfl, Rat.one_mul]
  rfl
def alL (e : Eg) (r v a : Vc) : List Rat := [gpR e r, rtR e.1 v, rtR e.1 a / 2]
def alP (e : Eg) (r v a : Vc) : List Rat := Qep (alL e r v a)
theorem Qob : I64 2 := ⟨by omega, by omega⟩
theorem Qq9 {e : Eg} {r v a : Vc} {K : Nat} (he : AtE e) (hr : SzV K r) (hv : SzV K v) (ha : SzV K a) : SzL (2 * K + 14) (alL e r v a) := by
  intro q hq
  have h1 := Qra he hr
  have h2 := QlH he.1 hv
  have h3 := QlH he.1 ha
  have h4 := Qq4 (a := rtR e.1 a) (b := 2)
  have h5 := sz_two
  unfold alL at hq
  simp only [List.mem_cons, List.not_mem_nil, or_false] at hq
  rcases hq with rfl | rfl | rfl <;> omega
variable [Its]
theorem QgL {x y : Int} (hx : I64 x) (hy : I64 y) : Qaj G QbJ [iv x, iv y] = some (.d (encV (vcR x, vcR y))) := by
  rw [Qaf (cf := gantryref12_Vec) rfl]
  have g1 := Qg9 (m := 96) hx (by omega)
  have g2 := Qg9 (m := 96) hy (by omega)
  have bx := vc_b x
  have bz := vc_b y
  have g3 := QcT (n := vcA x) (d := vcB x) ⟨by omega, by omega⟩ ⟨by omega, by omega⟩
  have g4 := QcT (n := vcA y) (d := vcB y) ⟨by omega, by omega⟩ ⟨by omega, by omega⟩
  have e3 : Rat.divInt (vcA x) (vcB x) = vcR x := rfl
  have e4 : Rat.divInt (vcA y) (vcB y) = vcR y := rfl
  rw [e3] at g3
  rw [e4] at g4
  clear e3 e4
  generalize vcR x = rx at *
  generalize vcR y = ry at *
  have b1 := Qqt (n := x) (m := 96) (by omega)
  have b2 := Qqt (n := y) (m := 96) (by omega)
  unfold vcA vcB at *
  generalize arnd x 96 = u at *
  generalize arnd y 96 = v at *
  have tm : ∀ a : Int, 0 ≤ a → a.tmod 24 = a % 24 := fun a h => QcF h
  have t1 := QcF (a := u) (b := 24) b1.1
  have t2 := Qc7 (a := u) (b := 72) b1.1
  have t3 := Qc7 (a := u) (b := 48) b1.1
  have t4 := QcF (a := u / 48) (b := 2) (by omega)
  have s1 := QcF (a := v) (b := 24) b2.1
  have s2 := Qc7 (a := v) (b := 72) b2.1
  have s3 := Qc7 (a := v) (b := 48) b2.1
  have s4 := QcF (a := v / 48) (b := 2) (by omega)
  have f1 : w64 (u % 24 * 2) = u % 24 * 2 := Qac (by omega) (by omega)
  have f2 : w64 (u % 24 * 2 - 24) = u % 24 * 2 - 24 := Qac (by omega) (by omega)
  have f3 : w64 (u / 72) = u / 72 := Qac (by omega) (by omega)
  have f4 : w64 (u % 24 * 2 - 24 + u / 72) = u % 24 * 2 - 24 + u / 72 := Qac (by omega) (by omega)
  have f5 : w64 (u / 48) = u / 48 := Qac (by omega) (by omega)
  have f6 : w64 (2 + u / 48 % 2) = 2 + u / 48 % 2 := Qac (by omega) (by omega)
  have h1 : w64 (v % 24 * 2) = v % 24 * 2 := Qac (by omega) (by omega)
  have h2 : w64 (v % 24 * 2 - 24) = v % 24 * 2 - 24 := Qac (by omega) (by omega)
  have h3 : w64 (v / 72) = v / 72 := Qac (by omega) (by omega)
  have h4 : w64 (v % 24 * 2 - 24 + v / 72) = v % 24 * 2 - 24 + v / 72 := Qac (by omega) (by omega)
  have h5 : w64 (v / 48) = v / 48 := Qac (by omega) (by omega)
  have h6 : w64 (2 + v / 48 % 2) = 2 + v / 48 % 2 := Qac (by omega) (by omega)
  have z1 : ((24 : Int) = 0) = False := by simp
  have z2 : ((72 : Int) = 0) = False := by simp
  have z3 : ((48 : Int) = 0) = False := by simp
  have z4 : ((2 : Int) = 0) = False := by simp
  clear bx bz b1 b2
  simp only [encR, iv, bv] at g1 g2 g3 g4
  simp -implicitDefEqProofs (maxSteps := 10000000) only [gantryref12_Vec, encV, Qc5, QbD, st8, ld8, Qcu, g1, g2, g3, g4, t1, t2, t3, t4, s1, s2, s3, s4, f1, f2, f3, f4, f5, f6, h1, h2, h3, h4, h5, h6, z1, z2, z3, z4, Qaz, QaL, go_sem, iv, bv, reduceCtorEq, ↓reduceIte, Nat.reduceEqDiff]
theorem Qft {a b : Vc} {K : Nat} (hK : K ≤ 100000000000) (ha : SzV K a) (hb : SzV K b) : Qaj G Qbf [encV a, encV b] = some (.d (encV (plV a b))) := by
  rw [Qaf (cf := gantryref13_Plus) rfl]
  obtain ⟨x, y⟩ := a
  obtain ⟨z, t⟩ := b
  have g1 := Qfc (a := x) (b := z) (by have := ha.1; dsimp only at this; omega) (by have := hb.1; dsimp only at this; omega)
  have g2 := Qfc (a := y) (b := t) (by have := ha.2; dsimp only at this; omega) (by have := hb.2; dsimp only at this; omega)
  unfold plV
  dsimp only
  generalize x + z = u at *
  generalize y + t = v at *
  simp only [encR, iv, bv] at g1 g2
  simp -implicitDefEqProofs (maxSteps := 10000000) only [gantryref13_Plus, encV, Qc5, QbD, st8, ld8, ld80, ld84, Qcu, g1, g2, Qaz, QaL, go_sem, iv, bv, reduceCtorEq, ↓reduceIte, Nat.reduceEqDiff]
theorem Qjg {k : Rat} {a : Vc} {K : Nat} (hK : K ≤ 100000000000) (hk : sz k ≤ K) (ha : SzV K a) : Qaj G QcR [encR k, encV a] = some (.d (encV (tmV k a))) := by
  rw [Qaf (cf := gantryref13_Times) rfl]
  obtain ⟨x, y⟩ := a
  have g1 := Qe1 (a := k) (b := x) (by omega) (by have := ha.1; dsimp only at this; omega)
  have g2 := Qe1 (a := k) (b := y) (by omega) (by have := ha.2; dsimp only at this; omega)
  unfold tmV
  dsimp only
  generalize k * x = u at *
  generalize k * y = v at *
  simp only [encR, iv, bv] at g1 g2
  simp -implicitDefEqProofs (maxSteps := 10000000) only [gantryref13_Times, encV, encR, Qc5, QbD, st8, ld8, ld80, ld84, Qei, Qcu, g1, g2, Qaz, QaL, go_sem, iv, bv, reduceCtorEq, ↓reduceIte, Nat.reduceEqDiff]
theorem QlM {d : Dr} {v : Vc} {K : Nat} (hK : K ≤ 1000000000) (hd : NmD d) (hv : SzV K v) : Qaj G Qea [encD d, encV v] = some (.d (encR (dotR d v))) := by
  rw [Qaf (cf := gantryref12_Dot) rfl]
  have g1 := QcT hd.i1 QeV
  have g2 := QcT hd.i2 QeV
  rw [Qdc] at g1 g2
  have n1 := Qd4 hd.i1
  have n2 := Qd4 hd.i2
  have k1 := hv.1
  have k2 := hv.2
  have g3 := Qe1 (a := (d.1 : Rat)) (b := v.1) (by omega) (by omega)
  have g4 := Qe1 (a := (d.2.1 : Rat)) (b := v.2) (by omega) (by omega)
  have h3 := QeM (a := (d.1 : Rat)) (b := v.1)
  have h4 := QeM (a := (d.2.1 : Rat)) (b := v.2)
  have g5 := Qfc (a := (d.1 : Rat) * v.1) (b := (d.2.1 : Rat) * v.2) (by omega) (by omega)
  have e : (d.1 : Rat) * v.1 + (d.2.1 : Rat) * v.2 = dotR d v := rfl
  rw [e] at g5
  generalize dotR d v = r at *
  generalize (d.1 : Rat) * v.1 = u1 at *
  generalize (d.2.1 : Rat) * v.2 = u2 at *
  clear n1 n2 h3 h4 k1 k2 e hv
  generalize (d.1 : Rat) = c1 at *
  generalize (d.2.1 : Rat) = c2 at *
  obtain ⟨x, y⟩ := v
  obtain ⟨a, b, c⟩ := d
  simp only [encR, iv, bv] at g1 g2 g3 g4 g5
  simp -implicitDefEqProofs (maxSteps := 10000000) only [gantryref12_Dot, encD, cD, encV, encR, st4', Qei, ld80, ld84, ld3_0, ld3_1, Qcu, g1, g2, g3, g4, g5, Qaz, QaL, go_sem, iv, bv, reduceCtorEq, ↓reduceIte, Nat.reduceEqDiff]
theorem Qkv {e : Eg} {v : Vc} {K : Nat} (hK : K ≤ 1000000000) (he : AtE e) (hv : SzV K v) : Qaj G Qc3 [encG e, encV v] = some (.d (encR (rtR e.1 v))) := by
  rw [Qaf (cf := gantryref13_Rate) rfl]
  have g1 := QlM hK he.1 hv
  have g2 := QcT he.1.i3 QeV
  rw [Qdc] at g2
  have n1 := Qd4 he.1.i3
  have n2 := QkX he.1 hv
  have g3 := Qgk (a := dotR e.1 v) (b := (e.1.2.2 : Rat)) (by omega) (by omega)
  have ee : dotR e.1 v / (e.1.2.2 : Rat) = rtR e.1 v := rfl
  rw [ee] at g3
  generalize rtR e.1 v = r at *
  generalize dotR e.1 v = s at *
  clear n1 n2 ee he hv
  generalize (e.1.2.2 : Rat) = c1 at *
  obtain ⟨x, y⟩ := v
  obtain ⟨⟨a, b, c⟩, t⟩ := e
  simp only [encD, cD, encV, encR, iv, bv] at g1 g2 g3
  simp -implicitDefEqProofs (maxSteps := 10000000) only [gantryref13_Rate, encG, cG, encV, encR, st4', Qei, ld8, ld4_3, ld4_n2, Nat.zero_add, Qcu, g1, g2, g3, Qaz, QaL, go_sem, iv, bv, reduceCtorEq, ↓reduceIte, Nat.reduceEqDiff]
theorem Qo2 {e : Eg} {v : Vc} {K : Nat} (hK : K ≤ 1000000000) (he : AtE e) (hv : SzV K v) : Qaj G Qeb [encG e, encV v] = some (.d (encR (gpR e v))) := by
  rw [Qaf (cf := gantryref13_Gap) rfl]
  have g1 := QlM hK he.1 hv
  have g2 := QcT he.1.i3 QeV
  have g4 := QcT he.2 QeV
  rw [Qdc] at g2 g4
  have n1 := Qd4 he.1.i3
  have n2 := QkX he.1 hv
  have n3 := Qd4 he.2
  have n4 := QqU (a := dotR e.1 v) (b := (e.2 : Rat))
  have g5 := QnF (a := dotR e.1 v) (b := (e.2 : Rat)) (by omega) (by omega)
  have g3 := Qgk (a := dotR e.1 v - (e.2 : Rat)) (b := (e.1.2.2 : Rat)) (by omega) (by omega)
  have ee : (dotR e.1 v - (e.2 : Rat)) / (e.1.2.2 : Rat) = gpR e v := rfl
  rw [ee] at g3
  generalize gpR e v = r at *
  generalize dotR e.1 v - (e.2 : Rat) = q at *
  generalize dotR e.1 v = s at *
  clear n1 n2 n3 n4 ee he hv
  generalize (e.1.2.2 : Rat) = c1 at *
  generalize (e.2 : Rat) = c2 at *
  obtain ⟨x, y⟩ := v
  obtain ⟨⟨a, b, c⟩, t⟩ := e
  simp only [encD, cD, encV, encR, iv, bv] at g1 g2 g3 g4 g5
  simp -implicitDefEqProofs (maxSteps := 10000000) only [gantryref13_Gap, encG, cG, encV, encR, st4', Qei, ld8, ld4_3, ld4_n2, ld4_n3, Nat.zero_add, Qcu, g1, g2, g3, g4, g5, Qaz, QaL, go_sem, iv, bv, reduceCtorEq, ↓reduceIte, Nat.reduceEqDiff]
theorem QkW {d : Dr} {v : Vc} {K : Nat} (hK : K ≤ 1000000000) (hd : NmD d) (hv : SzV K v) : Qaj G QeJ [encD d, encV v] = some (.d (encR (rtR d v))) := by
  rw [Qaf (cf := gap_rate) rfl]
  have g1 := QbU hd.i1 QeV
  have g2 := QbU hd.i2 QeV
  have g6 := QbU hd.i3 QeV
  rw [Qdc] at g1 g2 g6
  have n1 := Qd4 hd.i1
  have n2 := Qd4 hd.i2
  have n3 := Qd4 hd.i3
  have n4 := QkX hd hv
  have k1 := hv.1
  have k2 := hv.2
  have g3 := Qct (a := (d.1 : Rat)) (b := v.1) (by omega) (by omega)
  have g4 := Qct (a := (d.2.1 : Rat)) (b := v.2) (by omega) (by omega)
  have h3 := QeM (a := (d.1 : Rat)) (b := v.1)
  have h4 := QeM (a := (d.2.1 : Rat)) (b := v.2)
  have g5 := QfG (a := (d.1 : Rat) * v.1) (b := (d.2.1 : Rat) * v.2) (by omega) (by omega)
  have e : (d.1 : Rat) * v.1 + (d.2.1 : Rat) * v.2 = dotR d v := rfl
  rw [e] at g5
  have g7 := Qky (a := dotR d v) (b := (d.2.2 : Rat)) (by omega) (by omega)
  have ee : dotR d v / (d.2.2 : Rat) = rtR d v := rfl
  rw [ee] at g7
  generalize rtR d v = r at *
  generalize dotR d v = s at *
  generalize (d.1 : Rat) * v.1 = u1 at *
  generalize (d.2.1 : Rat) * v.2 = u2 at *
  clear n1 n2 n3 n4 h3 h4 k1 k2 e ee hv
  generalize (d.1 : Rat) = c1 at *
  generalize (d.2.1 : Rat) = c2 at *
  generalize (d.2.2 : Rat) = c3 at *
  obtain ⟨x, y⟩ := v
  obtain ⟨a, b, c⟩ := d
  simp only [encR, iv, bv] at g1 g2 g3 g4 g5 g6 g7
  simp -implicitDefEqProofs (maxSteps := 10000000) only [gap_rate, encD, cD, encV, encR, st4', Qei, ld80, ld84, ld3_0, ld3_1, ld3_2, Qcu, g1, g2, g3, g4, g5, g6, g7, Qaz, QaL, go_sem, iv, bv, reduceCtorEq, ↓reduceIte, Nat.reduceEqDiff]
theorem QeF {e : Eg} {v : Vc} {K : Nat} (hK : K ≤ 1000000000) (he : AtE e) (hv : SzV K v) : Qaj G QbY [encG e, encV v] = some (.d (encR (gpR e v))) := by
  rw [Qaf (cf := gap_Gap) rfl]
  have g1 := QkW hK he.1 hv
  have g2 := QbU he.2 he.1.i3
  have n1 := QpZ he.2 he.1.i3
  have n2 := QlH he.1 hv
  have g3 := Qg8 (a := rtR e.1 v) (b := Rat.divInt e.2 e.1.2.2) (by omega) (by omega)
  rw [gp_alt] at g3
  generalize gpR e v = r at *
  generalize rtR e.1 v = s at *
  clear n1 n2 he hv
  generalize Rat.divInt e.2 e.1.2.2 = c1 at *
  obtain ⟨x, y⟩ := v
  obtain ⟨⟨a, b, c⟩, t⟩ := e
  simp only [encD, cD, encV, encR, iv, bv] at g1 g2 g3
  simp -implicitDefEqProofs (maxSteps := 10000000) only [gap_Gap, encG, cG, encV, encR, st4', Qei, ld8, ld4_3, ld4_n2, ld4_n3, Nat.zero_add, Qcu, g1, g2, g3, Qaz, QaL, go_sem, iv, bv, reduceCtorEq, ↓reduceIte, Nat.reduceEqDiff]
theorem QpE {e : Eg} {r v a : Vc} {K : Nat} (hK : K ≤ 1000000000) (he : AtE e) (hr : SzV K r) (hv : SzV K v) (ha : SzV K a) : ∃ d, RwR d (alP e r v a) ∧ Qaj G QeX [encG e, encV r, encV v, encV a] = some (.d d) := by
  rw [Qaf (cf := gantryref13_Along) rfl]
  have g1 := Qo2 hK he hr
  have g2 := Qkv hK he hv
  have g3 := Qkv hK he ha
  have g4 := QcT Qob QeV
  rw [Qdc, show ((2 : Int) : Rat) = 2 from rfl] at g4
  have n1 := QlH he.1 ha
  have n2 := sz_two
  have g5 := Qgk (a := rtR e.1 a) (b := 2) (by omega) (by omega)
  have hs := Qq9 he hr hv ha
  obtain ⟨d', hd', g6⟩ := Qr2 (d := rowR (alL e r v a)) (l := alL e r v a) (.inr rfl) (by simp [alL]) (hs.mono (by omega))
  refine ⟨d', hd', ?_⟩
  unfold alL at g6
  clear hd' hs n1 n2
  generalize rtR e.1 a / 2 = q3 at *
  generalize rtR e.1 a = q4 at *
  generalize rtR e.1 v = q2 at *
  generalize gpR e r = q1 at *
  generalize (2 : Rat) = tw at *
  clear he hr hv ha
  obtain ⟨⟨a1, b1, c1⟩, t1⟩ := e
  obtain ⟨x1, y1⟩ := r
  obtain ⟨x2, y2⟩ := v
  obtain ⟨x3, y3⟩ := a
  simp only [encG, cG, encV, encR, rowR, cRs, List.cons_append, List.nil_append, List.length_cons, List.length_nil, Nat.zero_add, Nat.reduceAdd, iv, bv] at g1 g2 g3 g4 g5 g6
  simp -implicitDefEqProofs (maxSteps := 10000000) only [gantryref13_Along, encG, cG, encV, Qei, ld8, rep3_4, Qcu, g1, g2, g3, g4, g5, g6, Qaz, QaL, go_sem, iv, bv, reduceCtorEq, ↓reduceIte, Nat.reduceEqDiff]
theorem Qmo {e : Eg} {r v a : Vc} {K : Nat} (hK : K ≤ 1000000000) (he : AtE e) (hr : SzV K r) (hv : SzV K v) (ha : SzV K a) : ∃ d, RwR d (alP e r v a) ∧ Qaj G Qhc [encG e, encV r, encV v, encV a] = some (.d d) := by
  rw [Qaf (cf := gap_Along) rfl]
  have g1 := QeF hK he hr
  have g2 := QkW hK he.1 hv
  have g3 := QkW hK he.1 ha
  have g4 := QbU QeV Qob
  have n1 := QlH he.1 ha
  have n2 := QpZ QeV Qob
  have g5 := Qct (a := rtR e.1 a) (b := Rat.divInt 1 2) (by omega) (by omega)
  rw [QmO] at g5
  have hs := Qq9 he hr hv ha
  obtain ⟨d', hd', g6⟩ := Trim_spec (d := rowR (alL e r v a)) (l := alL e r v a) (.inr rfl) (by simp [alL])
  refine ⟨d', hd', ?_⟩
  unfold alL at g6
  clear hd' hs n1 n2
  generalize rtR e.1 a / 2 = q3 at *
  generalize rtR e.1 a = q4 at *
  generalize rtR e.1 v = q2 at *
  generalize gpR e r = q1 at *
  generalize Rat.divInt 1 2 = tw at *
  clear he hr hv ha
  obtain ⟨⟨a1, b1, c1⟩, t1⟩ := e
  obtain ⟨x1, y1⟩ := r
  obtain ⟨x2, y2⟩ := v
  obtain ⟨x3, y3⟩ := a
  simp only [encG, cG, encD, cD, encV, encR, rowR, cRs, List.cons_append, List.nil_append, List.length_cons, List.length_nil, Nat.zero_add, Nat.reduceAdd, iv, bv] at g1 g2 g3 g4 g5 g6
  simp -implicitDefEqProofs (maxSteps := 10000000) only [gap_Along, encG, cG, encV, ld4_3, Qei, ld8, rep3_4, Qcu, g1, g2, g3, g4, g5, g6, Qaz, QaL, go_sem, iv, bv, reduceCtorEq, ↓reduceIte, Nat.reduceEqDiff]
end Go.AM

/- convex: the small functions; Most. -/
namespace Go.AM
open Go Go.RowKit

def crI (a b c : Pt) : Int := (b.1 - a.1) * (c.2 - a.2) - (b.2 - a.2) * (c.1 - a.1)
def cmpI (a b : Int) : Int := if a < b then -1 else if a > b then 1 else 0
def mxF (d : Dr) (l : List Pt) : Nat → Pt
  | 0 => l.getD 0 default
  | i + 1 => if dotI d (l.getD (i + 1) default) > dotI d (mxF d l i) then l.getD (i + 1) default else mxF d l i
theorem mxF_dot (d : Dr) (l : List Pt) : ∀ i, dotI d (mxF d l i) = mstN d l (i + 1)
  | 0 => by simp only [mxF, mstN]; omega
  | i + 1 => by
    have ih := mxF_dot d l i
    rw [mstN, ← ih, mxF]
    split <;> omega
theorem cmp_gt (a b : Int) : decide (cmpI a b > 0) = decide (a > b) := by
  unfold cmpI
  split
  · rw [decide_eq_false (by omega), decide_eq_false (by omega)]
  · split
    · rw [decide_eq_true (by omega), decide_eq_true (by omega)]
    · rw [decide_eq_false (by omega), decide_eq_false (by omega)]
theorem st2p (a b c d : A) : Qae 0 [a, b] [c, d] = some [a, b] := rfl
theorem ld2p (a b : D) : Qaa (some 2) 0 [.d a, .d b] = some (.d (.agg [a, b])) := rfl
theorem QoE (a b : D) : Qaa none 0 [.d a, .d b] = some (.d a) := rfl
theorem QnE (a b : D) : Qaa none 1 [.d a, .d b] = some (.d b) := rfl
theorem ld3p (a b c : D) : Qaa (some 3) 0 [.d a, .d b, .d c] = some (.d (.agg [a, b, c])) := rfl
theorem ld3n0 (a b c : D) : Qaa none 0 [.d a, .d b, .d c] = some (.d a) := rfl
theorem ld3n1 (a b c : D) : Qaa none 1 [.d a, .d b, .d c] = some (.d b) := rfl
theorem ldrp3 (h : Hp) (a b c : D) : Qcs h (some 3) (.d (.rp [a, b, c])) = some (.d (.agg [a, b, c])) := rfl

theorem mxF_sm {d : Dr} {l : List Pt} (hl : ∀ p ∈ l, SmP p) : ∀ i, SmP (mxF d l i)
  | 0 => QbE hl smP0 _
  | i + 1 => by
    rw [mxF]
    split
    · exact QbE hl smP0 _
    · exact mxF_sm hl i
variable [Its]
theorem Qjc {d : D} {l : List Pt} (hr : RwE cP d l) {i : Nat} (hi : i < l.length) (hl : l.length ≤ 1000000) : Qaj G QeH [d, iv (i : Int)] = some (.d (encP (nxP l i))) := by
  rw [Qaf (cf := convex_next) rfl]
  have ll := hr.len
  have e1 : w64 ((i : Int) + 1) = ((i + 1 : Nat) : Int) := by rw [Qac (by omega) (by omega)]; rfl
  have e2 := Qix (b := (l.length : Int)) (by omega)
  have e3 : (((i + 1 : Nat) : Int)).tmod (l.length : Int) = (((i + 1) % l.length : Nat) : Int) := by rw [QcF (by omega)]; omega
  have hj : (i + 1) % l.length < l.length := Nat.mod_lt _ (by omega)
  have x1 := hr.ixa Qbk hj
  have x2 := fun hp => ldE Qbk hp hj
  have ee : l.getD ((i + 1) % l.length) default = nxP l i := by
    unfold nxP
    split
    · rw [Nat.mod_eq_of_lt (by assumption)]
    · have : i + 1 = l.length := by omega
      rw [this, Nat.mod_self]
  rw [ee] at x2
  generalize nxP l i = q at *
  obtain ⟨x, y⟩ := q
  simp only [cP, iv] at x2
  simp -implicitDefEqProofs (maxSteps := 10000000) only [convex_next, encP, cP, st2p, ld2p, go_sem, iv, bv, e1, e2, e3, ll, x1, x2, reduceCtorEq, ↓reduceIte, Nat.reduceEqDiff]
theorem Qr7 {a b c : Pt} (ha : SmP a) (hb : SmP b) (hc : SmP c) : Qaj G Qfk [encP a, encP b, encP c] = some (.d (iv (crI a b c))) := by
  rw [Qaf (cf := convex_cross) rfl]
  obtain ⟨a1, a2⟩ := a
  obtain ⟨b1, b2⟩ := b
  obtain ⟨c1, c2⟩ := c
  obtain ⟨h1, h2⟩ := ha
  obtain ⟨h3, h4⟩ := hb
  obtain ⟨h5, h6⟩ := hc
  simp only [Sm] at h1 h2 h3 h4 h5 h6
  unfold crI
  dsimp only
  obtain ⟨x, hx⟩ : ∃ x, b1 - a1 = x := ⟨_, rfl⟩
  obtain ⟨y, hy⟩ : ∃ x, c2 - a2 = x := ⟨_, rfl⟩
  obtain ⟨z, hz⟩ : ∃ x, b2 - a2 = x := ⟨_, rfl⟩
  obtain ⟨t, ht⟩ : ∃ x, c1 - a1 = x := ⟨_, rfl⟩
  have e1 : w64 (b1 - a1) = x := by rw [Qac (by omega) (by omega), hx]
  have e2 : w64 (c2 - a2) = y := by rw [Qac (by omega) (by omega), hy]
  have e3 : w64 (b2 - a2) = z := by rw [Qac (by omega) (by omega), hz]
  have e4 : w64 (c1 - a1) = t := by rw [Qac (by omega) (by omega), ht]
  have bb : ∀ u v : Int, -200000000 ≤ u ∧ u ≤ 200000000 → -200000000 ≤ v ∧ v ≤ 200000000 → -40000000000000000 ≤ u * v ∧ u * v ≤ 40000000000000000 := by
    intro u v hu hv
    have h1 : (u * v).natAbs ≤ 200000000 * 200000000 := by
      rw [Int.natAbs_mul]
      exact Nat.mul_le_mul (by omega) (by omega)
    omega
  have m1 := bb x y (by omega) (by omega)
  have m2 := bb z t (by omega) (by omega)
  clear bb
  rw [hx, hy, hz, ht]
  have e5 : w64 (x * y) = x * y := Qac (by omega) (by omega)
  have e6 : w64 (z * t) = z * t := Qac (by omega) (by omega)
  have e7 : w64 (x * y - z * t) = x * y - z * t := Qac (by omega) (by omega)
  simp -implicitDefEqProofs (maxSteps := 10000000) only [convex_cross, encP, cP, QoE, QnE, go_sem, iv, bv, e1, e2, e3, e4, e5, e6, e7, reduceCtorEq, ↓reduceIte, Nat.reduceEqDiff]
theorem Qkd {d : Dr} (h : SmD d) : Qaj G QcG [encD d] = some (.d (encD (tnD d))) := by
  rw [Qaf (cf := convex_turned) rfl]
  obtain ⟨x, y, z⟩ := d
  obtain ⟨h1, h2, h3⟩ := h
  simp only [Sm] at h1 h2 h3
  have e1 : w64 (0 - x) = -x := by rw [Qac (by omega) (by omega)]; omega
  have e2 : w64 (0 - y) = -y := by rw [Qac (by omega) (by omega)]; omega
  simp -implicitDefEqProofs (maxSteps := 10000000) only [convex_turned, tnD, encD, cD, Qae, Qaa, go_sem, iv, bv, e1, e2, reduceCtorEq, ↓reduceIte, Nat.reduceEqDiff]
def Qlp (a b : Int) : St := mkS [(0, ai a), (1, ai b)] []
def Qrw (a : Int) : St := mkS [(0, ai a)] []
theorem Qrx : ∀ (n : Nat) (a b : Int), b.natAbs < n → (-4000000000000000000 ≤ a ∧ a ≤ 4000000000000000000) → (-4000000000000000000 ≤ b ∧ b ≤ 4000000000000000000) → ∃ z, z.natAbs = Int.gcd a b ∧ (-4000000000000000000 ≤ z ∧ z ≤ 4000000000000000000) ∧ X G (.loop Qdh) (Qlp a b) = some (.x 0, Qrw z)
  | 0, a, b, h, _, _ => by omega
  | n + 1, a, b, h, ha, hb => by
    by_cases h0 : b = 0
    · subst h0
      have e1 : ((0 : Int) != 0) = false := rfl
      have g : X G Qdh (Qlp a 0) = some (.x 0, Qrw a) := by
        simp -implicitDefEqProofs (maxSteps := 10000000) only [Qdh, Qlp, Qrw, go_sem, iv, bv, e1, reduceCtorEq, ↓reduceIte, Nat.reduceEqDiff]
      exact ⟨a, by rw [Int.gcd_zero_right], ha, by rw [Qak, g]; rfl⟩
    · have e1 : (b != 0) = true := by simpa using h0
      have e2 := Qix (b := b) h0
      have g : X G Qdh (Qlp a b) = some (.n, Qlp b (a.tmod b)) := by
        simp -implicitDefEqProofs (maxSteps := 10000000) only [Qdh, Qlp, go_sem, iv, bv, e1, e2, reduceCtorEq, ↓reduceIte, Nat.reduceEqDiff]
      have h1 : (a.tmod b).natAbs < b.natAbs := by rw [Int.natAbs_tmod]; exact Nat.mod_lt _ (by omega)
      obtain ⟨z, z1, z2, z3⟩ := Qrx n b (a.tmod b) (by omega) hb (by omega)
      refine ⟨z, ?_, z2, by rw [Qak, g, Option.bind_some, if_pos rfl]; exact z3⟩
      rw [z1]
      show Nat.gcd _ _ = Nat.gcd _ _
      rw [Int.natAbs_tmod, Nat.gcd_comm a.natAbs, Nat.gcd_comm b.natAbs (a.natAbs % b.natAbs)]
      exact (Nat.gcd_rec b.natAbs a.natAbs).symm
theorem QnO {a b : Int} (ha : -4000000000000000000 ≤ a ∧ a ≤ 4000000000000000000) (hb : -4000000000000000000 ≤ b ∧ b ≤ 4000000000000000000) : Qaj G Qgu [iv a, iv b] = some (.d (iv (Int.gcd a b : Int))) := by
  rw [Qaf (cf := convex_gcd) rfl]
  obtain ⟨z, z1, z2, g⟩ := Qrx (b.natAbs + 1) a b (by omega) ha hb
  have e1 : w64 (0 - z) = -z := by rw [Qac (by omega) (by omega)]; omega
  have e2 : (if -z > z then -z else z) = ((Int.gcd a b : Nat) : Int) := by rw [← z1]; split <;> omega
  generalize ((Int.gcd a b : Nat) : Int) = q at *
  simp only [Qlp, Qrw, go_sem] at g
  simp -implicitDefEqProofs (maxSteps := 10000000) only [convex_gcd, QhC, mxV, g, e1, e2, go_sem, iv, bv, reduceCtorEq, ↓reduceIte, Nat.reduceEqDiff]
theorem QmV {d : Dr} {p : Pt} (hd : SmD d) (hp : SmP p) : Qaj G Qff [encD d, encP p] = some (.d (iv (dotI d p))) := by
  rw [Qaf (cf := convex_dot) rfl]
  obtain ⟨a, b, c⟩ := d
  obtain ⟨x, y⟩ := p
  obtain ⟨h1, h2, h3⟩ := hd
  have m1 := Qjx h1 hp.1
  have m2 := Qjx h2 hp.2
  unfold dotI
  dsimp only at m1 m2 ⊢
  have e3 : w64 (a * x) = a * x := Qac (by omega) (by omega)
  have e4 : w64 (b * y) = b * y := Qac (by omega) (by omega)
  have e5 : w64 (a * x + b * y) = a * x + b * y := Qac (by omega) (by omega)
  simp -implicitDefEqProofs (maxSteps := 10000000) only [convex_dot, encD, cD, encP, cP, QoE, QnE, ld3n0, ld3n1, go_sem, iv, bv, e3, e4, e5, reduceCtorEq, ↓reduceIte, Nat.reduceEqDiff]
theorem Qro (x : Int) : Qaj G QdI [iv x] = some (.d (bv false)) := by
  rw [Qaf (cf := cmp_isNaN_int) rfl]
  have e : (x != x) = false := by simp
  simp -implicitDefEqProofs (maxSteps := 10000000) only [cmp_isNaN_int, go_sem, iv, bv, e, reduceCtorEq, ↓reduceIte, Nat.reduceEqDiff]
theorem QfN (a b : Int) : Qaj G QbO [iv a, iv b] = some (.d (iv (cmpI a b))) := by
  rw [Qaf (cf := cmp_Compare_int) rfl]
  have g1 := Qro a
  have g2 := Qro b
  simp only [iv, bv] at g1 g2
  unfold cmpI
  by_cases h : a < b
  · have e1 : decide (a < b) = true := decide_eq_true h
    rw [if_pos h]
    simp -implicitDefEqProofs (maxSteps := 10000000) only [cmp_Compare_int, g1, g2, go_sem, iv, bv, e1, reduceCtorEq, ↓reduceIte, Nat.reduceEqDiff]
  · have e1 : decide (a < b) = false := decide_eq_false h
    rw [if_neg h]
    by_cases h2 : a > b
    · have e2 : decide (a > b) = true := decide_eq_true h2
      rw [if_pos h2]
      simp -implicitDefEqProofs (maxSteps := 10000000) only [cmp_Compare_int, g1, g2, go_sem, iv, bv, e1, e2, reduceCtorEq, ↓reduceIte, Nat.reduceEqDiff]
    · have e2 : decide (a > b) = false := decide_eq_false h2
      rw [if_neg h2]
      simp -implicitDefEqProofs (maxSteps := 10000000) only [cmp_Compare_int, g1, g2, go_sem, iv, bv, e1, e2, reduceCtorEq, ↓reduceIte, Nat.reduceEqDiff]
theorem QrO {d : Dr} {p q : Pt} (hd : SmD d) (hp : SmP p) (hq : SmP q) : Qaj G QdT [encP p, encP q, .rp (cD d)] = some (.d (iv (cmpI (dotI d p) (dotI d q)))) := by
  rw [Qaf (cf := convex_Most_1) rfl]
  have g1 := QmV hd hp
  have g2 := QmV hd hq
  have g3 := QfN (dotI d p) (dotI d q)
  generalize cmpI (dotI d p) (dotI d q) = z at *
  generalize dotI d p = u at *
  generalize dotI d q = v at *
  obtain ⟨a, b, c⟩ := d
  obtain ⟨p1, p2⟩ := p
  obtain ⟨q1, q2⟩ := q
  simp only [encD, cD, encP, cP, iv] at g1 g2 g3
  simp -implicitDefEqProofs (maxSteps := 10000000) only [convex_Most_1, encD, cD, encP, cP, g1, g2, g3, ldrp3, ld2p, go_sem, iv, bv, reduceCtorEq, ↓reduceIte, Nat.reduceEqDiff]
def Qod (d : D) (e : Dr) (p : Pt) (i : Int) : St := mkS [(0, .d d), (1, .d (.fn QdT [.rp (cD e)])), (4, .ptr [4] 0), (5, .ptr [5] 0), (6, ai i)] [([4], ⟨0, 0, [.d (iv 0), .d (iv 0)], false⟩), ([5], ⟨0, 0, [.d (iv p.1), .d (iv p.2)], false⟩)]
def mf_en (p : Pt) : St := mkS [(4, .ptr [4] 0), (5, .ptr [5] 0)] [([4], ⟨0, 0, [.d (iv 0), .d (iv 0)], false⟩), ([5], ⟨0, 0, [.d (iv p.1), .d (iv p.2)], false⟩)]
theorem mf_go {d : D} {l : List Pt} {e : Dr} (hr : RwE cP d l) (hl : ∀ p ∈ l, SmP p) (he : SmD e) (hn : l.length ≤ 1000000) {p : Pt} (hp : SmP p) {i : Nat} (hi : i < l.length) :
    X G Qau (Qod d e p i) = some (.n, Qod d e (if dotI e (l.getD i default) > dotI e p then l.getD i default else p) ((i + 1 : Nat) : Int)) := by
  have ll := hr.len
  have e1 : decide ((i : Int) < (l.length : Int)) = true := lt_t (by omega)
  have e2 : w64 ((i : Int) + 1) = ((i + 1 : Nat) : Int) := by rw [Qac (by omega) (by omega)]; rfl
  have x1 := hr.ixa Qbk hi
  have x2 := fun hp => ldE Qbk hp hi
  have hq := QbE hl smP0 i
  have g := QrO he hq hp
  have e3 := cmp_gt (dotI e (l.getD i default)) (dotI e p)
  generalize cmpI (dotI e (l.getD i default)) (dotI e p) = z at *
  generalize l.getD i default = q at *
  obtain ⟨qx, qy⟩ := q
  obtain ⟨px, py⟩ := p
  obtain ⟨a, b, c⟩ := e
  simp only [cP, cD, encP, iv] at x2 g
  by_cases h : dotI (a, b, c) (qx, qy) > dotI (a, b, c) (px, py)
  · rw [decide_eq_true h] at e3
    rw [if_pos h]
    simp -implicitDefEqProofs (maxSteps := 10000000) only [Qau, Qod, cD, g, st2p, ld2p, List.cons_append, List.nil_append, go_sem, iv, bv, e1, e2, e3, ll, x1, x2, reduceCtorEq, ↓reduceIte, Nat.reduceEqDiff]
  · rw [decide_eq_false h] at e3
    rw [if_neg h]
    simp -implicitDefEqProofs (maxSteps := 10000000) only [Qau, Qod, cD, g, st2p, ld2p, List.cons_append, List.nil_append, go_sem, iv, bv, e1, e2, e3, ll, x1, x2, reduceCtorEq, ↓reduceIte, Nat.reduceEqDiff]
theorem mf_stop {d : D} {l : List Pt} {e : Dr} (hr : RwE cP d l) {p : Pt} : X G Qau (Qod d e p l.length) = some (.x 0, mf_en p) := by
  have ll := hr.len
  have e1 : decide ((l.length : Int) < (l.length : Int)) = false := lt_f (by omega)
  simp -implicitDefEqProofs (maxSteps := 10000000) only [Qau, Qod, mf_en, go_sem, iv, bv, e1, ll, reduceCtorEq, ↓reduceIte, Nat.reduceEqDiff]
theorem mf_loop {d : D} {l : List Pt} {e : Dr} (hr : RwE cP d l) (hl : ∀ p ∈ l, SmP p) (he : SmD e) (hn : l.length ≤ 1000000) : ∀ (j i : Nat), i + 1 + j = l.length → X G (.loop Qau) (Qod d e (mxF e l i) ((i + 1 : Nat) : Int)) = some (.x 0, mf_en (mxF e l (l.length - 1)))
  | 0, i, h => by
    have : i + 1 = l.length := by omega
    rw [this, ← this, Nat.add_sub_cancel]
    rw [Qak, this, mf_stop hr]; rfl
  | j + 1, i, h => by
    rw [Qak, mf_go hr hl he hn (mxF_sm hl i) (by omega), Option.bind_some, if_pos rfl]
    exact mf_loop hr hl he hn j (i + 1) (by omega)
theorem Qme {d : D} {l : List Pt} {e : Dr} (hr : RwE cP d l) (h0 : 0 < l.length) (hl : ∀ p ∈ l, SmP p) (he : SmD e) (hn : l.length ≤ 1000000) : Qaj G Qb0 [d, encD e] = some (.d (iv (moP e l))) := by
  have gm : Qaj G Qb3 [d, .fn QdT [.rp (cD e)]] = some (.d (encP (mxF e l (l.length - 1)))) := by
    rw [Qaf (cf := slices_MaxFunc_api_Point_api_Point) rfl]
    have ll := hr.len
    have e1 : decide ((l.length : Int) < 1) = false := lt_f (by omega)
    have x1 := hr.ixa (j := 0) Qbk h0
    have x2 := fun hp => ldE (j := 0) (l := l) Qbk hp h0
    have g := mf_loop hr hl he hn (l.length - 1) 0 (by omega)
    have e0 : mxF e l 0 = l.getD 0 default := rfl
    have e3 : ((0 + 1 : Nat) : Int) = 1 := rfl
    rw [e0, e3] at g
    simp only [nc0, List.drop_zero] at x1 x2
    generalize mxF e l (l.length - 1) = z at *
    generalize l.getD 0 default = q at *
    obtain ⟨qx, qy⟩ := q
    obtain ⟨zx, zy⟩ := z
    simp only [cP, iv] at x2
    simp only [Qod, mf_en, iv, go_sem] at g
    simp -implicitDefEqProofs (maxSteps := 10000000) only [slices_MaxFunc_api_Point_api_Point, encP, cP, g, st2p, ld2p, go_sem, iv, bv, e1, ll, x1, x2, reduceCtorEq, ↓reduceIte, Nat.reduceEqDiff]
  rw [Qaf (cf := convex_Most) rfl]
  have hz := mxF_sm (d := e) hl (l.length - 1)
  have g2 := QmV he hz
  rw [mxF_dot, show l.length - 1 + 1 = l.length by omega] at g2
  have e4 : mstN e l l.length = moP e l := rfl
  rw [e4] at g2
  generalize moP e l = r at *
  generalize mxF e l (l.length - 1) = z at *
  obtain ⟨zx, zy⟩ := z
  obtain ⟨a, b, c⟩ := e
  simp only [encD, cD, encP, cP, iv] at gm g2
  simp -implicitDefEqProofs (maxSteps := 10000000) only [convex_Most, encD, cD, encP, cP, gm, g2, ld3p, snap, Qcv, allD, go_sem, iv, bv, reduceCtorEq, ↓reduceIte, Nat.reduceEqDiff]
end Go.AM

/- convex: Norm; searching rows of edges. -/
namespace Go.AM
open Go Go.RowKit

section
variable {α : Type} {en : α → List D} {es : Nat}
theorem RwE.cell {d : D} {l : List α} (h : RwE en d l) : QaQ (.d d) = [.d d] := by rcases h with ⟨rfl, _⟩ | rfl <;> rfl
theorem RwE.onec {d : D} {l : List α} (h : RwE en d l) : A.one (.d d) = true := by rcases h with ⟨rfl, _⟩ | rfl <;> rfl
end
def fiE (p : Eg → Bool) (O : List Eg) : Nat → Nat → Int
  | 0, _ => -1
  | j + 1, i => if p (O.getD i default) then (i : Int) else fiE p O j (i + 1)
theorem fiE_any (p : Eg → Bool) (O : List Eg) : ∀ j i : Nat, i + j = O.length → (decide (fiE p O j i ≥ 0) = (O.drop i).any p)
  | 0, i, h => by rw [List.drop_eq_nil_of_le (by omega)]; rfl
  | j + 1, i, h => by
    have hi : i < O.length := by omega
    rw [QeW hi, List.any_cons, fiE]
    cases hp : p (O.getD i default) with
    | true => simp
    | false => simp only [Bool.false_eq_true, if_false, Bool.false_or]; exact fiE_any p O j (i + 1) (by omega)
variable [Its]
theorem Ql9 {a b : Pt} {h : Int} (ha : SmP a) (hb : SmP b) (hh : h * h = (b.1 - a.1) * (b.1 - a.1) + (b.2 - a.2) * (b.2 - a.2)) (h0 : 0 < h) : Qaj G QfJ [encP a, encP b] = some (.d (.tup [encD (nrP (b.1 - a.1) (b.2 - a.2) h), bv true])) := by
  rw [Qaf (cf := convex_Norm) rfl]
  obtain ⟨ax, ay⟩ := a
  obtain ⟨bx, byy⟩ := b
  obtain ⟨h1, h2⟩ := ha
  obtain ⟨h3, h4⟩ := hb
  simp only [Sm] at h1 h2 h3 h4
  dsimp only at hh ⊢
  obtain ⟨dx, hdx⟩ : ∃ z, bx - ax = z := ⟨_, rfl⟩
  obtain ⟨dy, hdy⟩ : ∃ z, byy - ay = z := ⟨_, rfl⟩
  have e1 : w64 (bx - ax) = dx := by rw [Qac (by omega) (by omega), hdx]
  have e2 : w64 (byy - ay) = dy := by rw [Qac (by omega) (by omega), hdy]
  rw [hdx, hdy] at hh
  rw [hdx, hdy]
  have b1 : -200000000 ≤ dx ∧ dx ≤ 200000000 := by omega
  have b2 : -200000000 ≤ dy ∧ dy ≤ 200000000 := by omega
  clear hdx hdy h1 h2 h3 h4
  have sq : ∀ z : Int, -200000000 ≤ z ∧ z ≤ 200000000 → 0 ≤ z * z ∧ z * z ≤ 40000000000000000 := by
    intro z hz
    have h1 : (z * z).natAbs ≤ 200000000 * 200000000 := by
      rw [Int.natAbs_mul]
      exact Nat.mul_le_mul (by omega) (by omega)
    have h2 : 0 ≤ z * z := by
      rcases Int.le_total 0 z with h | h
      · exact Int.mul_nonneg h h
      · exact Int.mul_nonneg_of_nonpos_of_nonpos h h
    omega
  have q1 := sq dx b1
  have q2 := sq dy b2
  clear sq
  obtain ⟨p1, hp1⟩ : ∃ z, dx * dx = z := ⟨_, rfl⟩
  obtain ⟨p2, hp2⟩ : ∃ z, dy * dy = z := ⟨_, rfl⟩
  obtain ⟨s, hs⟩ : ∃ z, p1 + p2 = z := ⟨_, rfl⟩
  have e3 : w64 (dx * dx) = p1 := by rw [Qac (by omega) (by omega), hp1]
  have e4 : w64 (dy * dy) = p2 := by rw [Qac (by omega) (by omega), hp2]
  have e5 : w64 (p1 + p2) = s := by rw [Qac (by omega) (by omega), hs]
  rw [hp1, hp2, hs] at hh
  have hh2 : h < 1000000000 := by
    apply Classical.byContradiction
    intro hc
    have := Qk5 (a := 1000000000) (b := h) (by omega) (by omega)
    omega
  have hI : I64 (s) := ⟨by omega, by omega⟩
  have hrt : IsRt h s := by
    refine ⟨by omega, by omega, ?_⟩
    have e : (h + 1) * (h + 1) = h * h + 2 * h + 1 := by grind
    omega
  have g1 := Qg5 hI
  have g2 := Root_spec (x := s) (Nat.le_trans (Qc2 hI) (by omega)) (by omega) hrt
  have hhI : I64 h := ⟨by omega, by omega⟩
  have g4 := Qnz (x := h) (Nat.le_trans (Qc2 hhI) (by omega))
  rw [(QmF hhI).1, (QmF hhI).2] at g4
  rw [decide_eq_true hh] at g2
  have g7 := QnO (a := dx) (b := dy) (by omega) (by omega)
  have g8 := QnO (a := (Int.gcd dx dy : Int)) (b := h) (by
    have h1 : Int.gcd dx dy ≤ 200000000 := by
      by_cases hz : dx = 0
      · subst hz; rw [Int.gcd_zero_left]; omega
      · have := Nat.le_of_dvd (by omega) (Int.gcd_dvd_natAbs_left dx dy); omega
    omega) (by omega)
  have gp := g3_pos dx dy h0
  have e7 : (Int.gcd (Int.gcd dx dy) h : Int) = g3 dx dy h := rfl
  rw [e7] at g8
  unfold nrP
  obtain ⟨g, hg⟩ : ∃ g, g3 dx dy h = g := ⟨_, rfl⟩
  rw [hg] at g8 gp ⊢
  have e8 := Qix (b := g) (by omega)
  have e9 : w64 (0 - dx) = -dx := by rw [Qac (by omega) (by omega)]; omega
  have t1 := QiY dy gp
  have t2 := QiY (-dx) gp
  have t3 := QiY h gp
  have f1 : w64 (dy.tdiv g) = dy.tdiv g := Qac (by omega) (by omega)
  have f2 : w64 ((-dx).tdiv g) = (-dx).tdiv g := Qac (by omega) (by omega)
  have f3 : w64 (h.tdiv g) = h.tdiv g := Qac (by omega) (by omega)
  have f4 : (h == 0) = false := Qdz (by omega)
  clear t1 t2 t3 q1 q2
  have u1 := Qcu (digs h.natAbs)
  simp only [encI, iv, bv] at g1 g2 g4 g7 g8
  generalize digs h.natAbs = dh at *
  generalize decide (h < 0) = sh at *
  simp -implicitDefEqProofs (maxSteps := 10000000) only [convex_Norm, toDs, encP, cP, encD, cD, QlA, Qae, Qaa, Qaz, QaL, u1, g1, g2, g4, g7, g8, e1, e2, e3, e4, e5, e8, e9, f1, f2, f3, f4, Bool.not_true, Bool.not_false, go_sem, iv, bv, reduceCtorEq, ↓reduceIte, Nat.reduceEqDiff]


/-! ### Searching -/
section
variable {d : D} {O : List Eg} {f : Nat} {caps : List D} {p : Eg → Bool}
def Qin (d : D) (f : Nat) (caps : List D) (n i : Int) : St := mkS [(0, .d d), (1, .d (.fn f caps)), (7, ai n), (8, ai i)] []
theorem ixE_no (hr : RwE cG d O) (hn : O.length ≤ 1000000) {i : Nat} (hi : i < O.length) (hf : Qaj G f (encG (O.getD i default) :: caps) = some (.d (bv false))) : X G Qao (Qin d f caps O.length i) = some (.n, Qin d f caps O.length ((i + 1 : Nat) : Int)) := by
  have e1 : decide ((i : Int) < (O.length : Int)) = true := lt_t (by omega)
  have e2 : w64 ((i : Int) + 1) = ((i + 1 : Nat) : Int) := by rw [Qac (by omega) (by omega)]; rfl
  have x1 := hr.ixa QeT hi
  have x2 := fun hp => ldE QeT hp hi
  generalize O.getD i default = e at *
  obtain ⟨⟨a, b, c⟩, t⟩ := e
  simp only [encG, cG, iv, bv] at hf x2
  simp -implicitDefEqProofs (maxSteps := 10000000) only [Qao, Qin, x1, x2, e1, e2, hf, List.cons_append, List.nil_append, go_sem, iv, bv, reduceCtorEq, ↓reduceIte, Nat.reduceEqDiff]
theorem ixE_yes (hr : RwE cG d O) (hn : O.length ≤ 1000000) {i : Nat} (hi : i < O.length) (hf : Qaj G f (encG (O.getD i default) :: caps) = some (.d (bv true))) : X G Qao (Qin d f caps O.length i) = some (.r, mkS [(4, ai i)] []) := by
  have e1 : decide ((i : Int) < (O.length : Int)) = true := lt_t (by omega)
  have x1 := hr.ixa QeT hi
  have x2 := fun hp => ldE QeT hp hi
  generalize O.getD i default = e at *
  obtain ⟨⟨a, b, c⟩, t⟩ := e
  simp only [encG, cG, iv, bv] at hf x2
  simp -implicitDefEqProofs (maxSteps := 10000000) only [Qao, Qin, x1, x2, e1, hf, List.cons_append, List.nil_append, go_sem, iv, bv, reduceCtorEq, ↓reduceIte, Nat.reduceEqDiff]
theorem ixE_stop : X G Qao (Qin d f caps O.length O.length) = some (.x 0, mkS [] []) := by
  have e1 : decide ((O.length : Int) < (O.length : Int)) = false := lt_f (by omega)
  simp -implicitDefEqProofs (maxSteps := 10000000) only [Qao, Qin, e1, go_sem, iv, bv, reduceCtorEq, ↓reduceIte, Nat.reduceEqDiff]
/-- The place of the first that has it, from i on; -1 if none has. -/
theorem Qqi      (hr : RwE cG d O) (hn : O.length ≤ 1000000) (hf : ∀ i, i < O.length → Qaj   G f (encG (O.getD i default) :: caps) = some (.d (bv (p (O.getD i default))))) : ∀ j i : Nat, i + j = O.length →
    X G (.loop Qao) (Qin d f caps O.length i) = (if fiE p O j i = -1 then some (.x 0, mkS [] []) else some (.r, mkS [(4, ai (fiE p O j i))] []))
  | 0, i, h => by
    have : i = O.length := by omega
    subst this
    rw [Qak, ixE_stop]; rfl
  | j + 1, i, h => by
    have hi : i < O.length := by omega
    have hh := hf i hi
    rw [fiE]
    cases hp : p (O.getD i default) with
    | true =>
      rw [hp] at hh
      rw [Qak, ixE_yes hr hn hi hh, if_pos rfl, if_neg (by omega)]; rfl
    | false =>
      rw [hp] at hh
      simp only [Bool.false_eq_true, if_false]
      rw [Qak, ixE_no hr hn hi hh, Option.bind_some, if_pos rfl]
      exact Qqi hr hn hf j (i + 1) (by omega)
theorem Qkh (hr : RwE cG d O) (hn : O.length ≤ 1000000) (hf : ∀ i, i < O.length → Qaj G f (encG (O.getD i default) :: caps) = some (.d (bv (p (O.getD i default))))) : Qaj G Qbl [d, .fn f caps] = some (.d (iv (fiE p O O.length 0))) := by
  rw [Qaf (cf := slices_IndexFunc_api_Edge_api_Edge) rfl]
  have ll := hr.len
  have h := Qqi hr hn hf O.length 0 (by omega)
  simp only [Qin, go_sem, nc0] at h
  generalize fiE p O O.length 0 = z at *
  by_cases hz : z = -1
  · subst hz
    simp only [if_true] at h
    simp -implicitDefEqProofs (maxSteps := 10000000) only [slices_IndexFunc_api_Edge_api_Edge, h, ll, go_sem, iv, bv, reduceCtorEq, ↓reduceIte, Nat.reduceEqDiff]
  · rw [if_neg hz] at h
    simp -implicitDefEqProofs (maxSteps := 10000000) only [slices_IndexFunc_api_Edge_api_Edge, h, ll, go_sem, iv, bv, reduceCtorEq, ↓reduceIte, Nat.reduceEqDiff]
end
theorem QlI {d : D} {O : List Eg} {f : Nat} {caps : List D} {p : Eg → Bool} (hr : RwE cG d O) (hn : O.length ≤ 1000000) (hf : ∀ i, i < O.length → Qaj G f (encG (O.getD i default) :: caps) = some (.d (bv (p (O.getD i default))))) : Qaj G Qaq [d, .fn f caps] = some (.d (bv (O.any p))) := by
  rw [Qaf (cf := slices_ContainsFunc_api_Edge_api_Edge) rfl]
  have g := Qkh hr hn hf
  have e1 := fiE_any p O O.length 0 (by omega)
  rw [List.drop_zero] at e1
  generalize fiE p O O.length 0 = z at *
  generalize O.any p = t at *
  simp only [iv] at g
  simp -implicitDefEqProofs (maxSteps := 10000000) only [slices_ContainsFunc_api_Edge_api_Edge, g, e1, go_sem, iv, bv, reduceCtorEq, ↓reduceIte, Nat.reduceEqDiff]
theorem Qo5 (e : Eg) (d : Dr) : Qaj G Qck [encG e, .rp (cD d)] = some (.d (bv (eqDr e.1 d))) := by
  rw [Qaf (cf := convex_Sides_1_1) rfl]
  obtain ⟨⟨a, b, c⟩, t⟩ := e
  obtain ⟨x, y, z⟩ := d
  have e3 := eqD3 a b c x y z
  unfold eqDr
  dsimp only
  obtain ⟨q, hq⟩ : ∃ q, ((a == x) && ((b == y) && (c == z))) = q := ⟨_, rfl⟩
  rw [hq] at e3 ⊢
  have l1 : ∀ h : Hp, Qaa (some 3) 0 [.d (iv a), .d (iv b), .d (iv c), .d (iv t)] = some (.d (.agg [iv a, iv b, iv c])) := fun _ => rfl
  have l2 := l1 hp0
  simp only [iv] at l2
  simp -implicitDefEqProofs (maxSteps := 10000000) only [convex_Sides_1_1, encG, cG, cD, e3, hq, l2, ldrp3, go_sem, iv, bv, reduceCtorEq, ↓reduceIte, Nat.reduceEqDiff]
end Go.AM

