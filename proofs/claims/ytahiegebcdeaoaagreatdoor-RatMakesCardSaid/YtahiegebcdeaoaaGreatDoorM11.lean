/- Part 11 of the proof: a small machine, its soundness against the model, and what the program's functions compute on it. -/
import Derived.Test.YtahiegebcdeaoaaGreatDoorProg
import Derived.WalkKit
import Derived.BigCall
import Derived.Below
import Derived.Lib.AppendIntMem
import Derived.Lib.OthersKept
import Derived.Laws.EntriesVeiled
import Derived.Deep.RegionHeld3
import Derived.Laws.ResultCell
import Derived.Laws.Rows
import Derived.KernelRfl
import Derived.Shelf.Strings.BuilderK
import Derived.Shelf.Strings.Repeat
import Derived.Shelf.LaysM
import Derived.Shelf.Strconv.Itoa3
import Derived.Shelf.Strings.SlTrimAscii
import Derived.Shelf.Strings.Search2
import Derived.Shelf.Strconv.Atoi
import Derived.Shelf.Strings.Builder1
import Derived.Shelf.Strings.AsciiSet
import Derived.Shelf.Spec.SlicesGrow
import Derived.Lib.CutLaws
import Derived.Lib.AtoiErrMem
set_option linter.unusedVariables false
set_option linter.unusedSimpArgs false
/- rat.Between, by hand: the closure that calls itself. -/
namespace Go.Proofs
open Go.RowKit

abbrev qv (a0 : Bool) (a1 : Value) (a2 : Bool) (a3 : Value) : Value := .agg #[.bool a0, a1, .bool a2, a3]
abbrev clos (n : Nat) : Value := .func (.func 100) #[] #[.pointer (some ⟨n, 0, none⟩)]
abbrev Sl : Type := Option Addr × Nat × Nat
abbrev slv (s : Sl) : Value := .slice s.1 s.2.1 s.2.2
structure Bxs (n : Nat) (a0 : Bool) (a1 : Value) (a2 : Bool) (a3 : Value) (b0 : Bool) (b1 : Value) (b2 : Bool) (b3 : Value) (W : World) : Prop where
  h0 : W.heap[n]? = some (.cells #[.bool a0, a1, .bool a2, a3] 26 (0, 0))
  h1 : W.heap[n + 1]? = some (.cells #[.bool b0, b1, .bool b2, b3] 26 (0, 0))
  h2 : W.heap[n + 1 + 1]? = some (.cells #[.bool false, .slice none 0 0, .bool false, .slice none 0 0] 26 (0, 0))
  h3 : W.heap[n + 1 + 1 + 1]? = some (.cells #[clos (n + 1 + 1 + 1)] 63 (0, 0))
theorem heapLt {w : World} {b : Nat} {o : Obj} (h : w.heap[b]? = some o) : b < w.heap.size := (Array.getElem?_eq_some_iff.1 h).1
theorem Bxs.keep {n a0 a1 a2 a3 b0 b1 b2 b3} {W W' : World} (h : Bxs n a0 a1 a2 a3 b0 b1 b2 b3 W) (hb : Below W.heap.size W W') : Bxs n a0 a1 a2 a3 b0 b1 b2 b3 W' :=
  ⟨(hb.block _ (heapLt h.h0)).trans h.h0, (hb.block _ (heapLt h.h1)).trans h.h1, (hb.block _ (heapLt h.h2)).trans h.h2, (hb.block _ (heapLt h.h3)).trans h.h3⟩
theorem Bxs.drew {n a0 a1 a2 a3 b0 b1 b2 b3} {W : World} (h : Bxs n a0 a1 a2 a3 b0 b1 b2 b3 W) : Bxs n a0 a1 a2 a3 b0 b1 b2 b3 W.drew := ⟨h.h0, h.h1, h.h2, h.h3⟩
theorem Bxs.lo {n a0 a1 a2 a3 b0 b1 b2 b3} {W : World} (h : Bxs n a0 a1 a2 a3 b0 b1 b2 b3 W) : W.cell? ⟨n, 0, none⟩ = some (.bool a0) ∧ W.cell? ⟨n, 1, none⟩ = some a1 ∧ W.cell? ⟨n, 2, none⟩ = some (.bool a2) ∧ W.cell? ⟨n, 3, none⟩ = some a3 := by
  refine ⟨?_, ?_, ?_, ?_⟩ <;> (rw [Lib.cell_of_heap h.h0]; rfl)
theorem Bxs.hi {n a0 a1 a2 a3 b0 b1 b2 b3} {W : World} (h : Bxs n a0 a1 a2 a3 b0 b1 b2 b3 W) : W.cell? ⟨n + 1, 0, none⟩ = some (.bool b0) ∧ W.cell? ⟨n + 1, 1, none⟩ = some b1 ∧ W.cell? ⟨n + 1, 2, none⟩ = some (.bool b2) ∧ W.cell? ⟨n + 1, 3, none⟩ = some b3 := by
  refine ⟨?_, ?_, ?_, ?_⟩ <;> (rw [Lib.cell_of_heap h.h1]; rfl)
theorem Bxs.res {n a0 a1 a2 a3 b0 b1 b2 b3} {W : World} (h : Bxs n a0 a1 a2 a3 b0 b1 b2 b3 W) : W.cell? ⟨n + 1 + 1, 0, none⟩ = some (.bool false) ∧ W.cell? ⟨n + 1 + 1, 1, none⟩ = some (.slice none 0 0) ∧ W.cell? ⟨n + 1 + 1, 2, none⟩ = some (.bool false) ∧ W.cell? ⟨n + 1 + 1, 3, none⟩ = some (.slice none 0 0) := by
  refine ⟨?_, ?_, ?_, ?_⟩ <;> (rw [Lib.cell_of_heap h.h2]; rfl)
theorem Bxs.fr {n a0 a1 a2 a3 b0 b1 b2 b3} {W : World} (h : Bxs n a0 a1 a2 a3 b0 b1 b2 b3 W) : W.frozen? ⟨n + 1 + 1, 0, none⟩ = false ∧ W.frozen? ⟨n + 1 + 1, 1, none⟩ = false ∧ W.frozen? ⟨n + 1 + 1, 2, none⟩ = false ∧ W.frozen? ⟨n + 1 + 1, 3, none⟩ = false :=
  ⟨Lib.frozen_of_heap h.h2 _, Lib.frozen_of_heap h.h2 _, Lib.frozen_of_heap h.h2 _, Lib.frozen_of_heap h.h2 _⟩
theorem Bxs.cl {n a0 a1 a2 a3 b0 b1 b2 b3} {W : World} (h : Bxs n a0 a1 a2 a3 b0 b1 b2 b3 W) : W.cell? ⟨n + 1 + 1 + 1, 0, none⟩ = some (clos (n + 1 + 1 + 1)) := by rw [Lib.cell_of_heap h.h3]; rfl

abbrev w5 (w : World) (a0 : Bool) (a1 : Value) (a2 : Bool) (a3 : Value) (b0 : Bool) (b1 : Value) (b2 : Bool) (b3 : Value) : World :=
  (((w.alloc (Obj.cells #[.bool a0, a1, .bool a2, a3] 26)).alloc (Obj.cells #[.bool b0, b1, .bool b2, b3] 26)).alloc (Obj.cells #[.bool false, .slice none 0 0, .bool false, .slice none 0 0] 26)).alloc (Obj.cells #[.func (.func 100) #[] #[.pointer (some ⟨w.heap.size + 1 + 1 + 1, 0, none⟩)]] 63)
theorem pushA (W : World) (o : Obj) : (W.alloc o).heap[W.heap.size]? = some o := Array.getElem?_push_size
theorem pushO (W : World) (o : Obj) {b : Nat} (h : b < W.heap.size) : (W.alloc o).heap[b]? = W.heap[b]? := Lib.alloc_old W o b h
theorem pushS (W : World) (o : Obj) : (W.alloc o).heap.size = W.heap.size + 1 := by simp
theorem w5_ok {w a0 a1 a2 a3 b0 b1 b2 b3} : Bxs w.heap.size a0 a1 a2 a3 b0 b1 b2 b3 (w5 w a0 a1 a2 a3 b0 b1 b2 b3) := by
  refine ⟨?_, ?_, ?_, ?_⟩
  · rw [pushO _ _ (by simp only [pushS]; omega), pushO _ _ (by simp only [pushS]; omega), pushO _ _ (by simp only [pushS]; omega)]
    exact pushA _ _
  · rw [pushO _ _ (by simp only [pushS]; omega), pushO _ _ (by simp only [pushS]; omega)]
    have := pushA (w.alloc (Obj.cells #[.bool a0, a1, .bool a2, a3] 26)) (Obj.cells #[.bool b0, b1, .bool b2, b3] 26)
    rwa [pushS] at this
  · rw [pushO _ _ (by simp only [pushS]; omega)]
    have := pushA ((w.alloc (Obj.cells #[.bool a0, a1, .bool a2, a3] 26)).alloc (Obj.cells #[.bool b0, b1, .bool b2, b3] 26)) (Obj.cells #[.bool false, .slice none 0 0, .bool false, .slice none 0 0] 26)
    rwa [pushS, pushS] at this
  · have := pushA (((w.alloc (Obj.cells #[.bool a0, a1, .bool a2, a3] 26)).alloc (Obj.cells #[.bool b0, b1, .bool b2, b3] 26)).alloc (Obj.cells #[.bool false, .slice none 0 0, .bool false, .slice none 0 0] 26)) (Obj.cells #[clos (w.heap.size + 1 + 1 + 1)] 63)
    rwa [pushS, pushS, pushS] at this
theorem w5_below {w a0 a1 a2 a3 b0 b1 b2 b3} : Below w.heap.size w (w5 w a0 a1 a2 a3 b0 b1 b2 b3) :=
  ((((Below.refl _ w).alloc (Nat.le_refl _) _).alloc (by simp) _).alloc (by simp; omega) _).alloc (by simp; omega) _

abbrev set4 (W : World) (b : Nat) (v0 v1 v2 v3 : Value) : World := (((W.setCell ⟨b, 0, none⟩ v0).setCell ⟨b, 1, none⟩ v1).setCell ⟨b, 2, none⟩ v2).setCell ⟨b, 3, none⟩ v3
theorem setA {W : World} {b off : Nat} {v : Value} {cs : Array Value} {T : TypeId} {fz : Nat × Nat} (h : W.heap[b]? = some (.cells cs T fz)) : (W.setCell ⟨b, off, none⟩ v).heap[b]? = some (.cells (cs.setIfInBounds off v) T fz) := by
  show (Array.modify _ _ _)[b]? = _
  rw [Array.getElem?_modify, if_pos rfl, h]
  obtain ⟨x, y⟩ := fz
  rfl
theorem setO {W : World} {a : Addr} {v : Value} {b : Nat} (h : b ≠ a.block) : (W.setCell a v).heap[b]? = W.heap[b]? := by
  show (Array.modify _ _ _)[b]? = _
  rw [Array.getElem?_modify, if_neg (fun e => h e.symm)]
theorem setS {W : World} {a : Addr} {v : Value} : (W.setCell a v).heap.size = W.heap.size := by
  show (Array.modify _ _ _).size = _
  rw [Array.size_modify]
theorem set4_at {W : World} {b : Nat} {x0 x1 x2 x3 v0 v1 v2 v3 : Value} {T : TypeId} {fz : Nat × Nat} (h : W.heap[b]? = some (.cells #[x0, x1, x2, x3] T fz)) : (set4 W b v0 v1 v2 v3).heap[b]? = some (.cells #[v0, v1, v2, v3] T fz) := setA (setA (setA (setA h)))
theorem set4_o {W : World} {b k : Nat} {v0 v1 v2 v3 : Value} (h : k ≠ b) : (set4 W b v0 v1 v2 v3).heap[k]? = W.heap[k]? := by
  unfold set4
  rw [setO h, setO h, setO h, setO h]
theorem set4_size {W : World} {b : Nat} {v0 v1 v2 v3 : Value} : (set4 W b v0 v1 v2 v3).heap.size = W.heap.size := by
  unfold set4
  rw [setS, setS, setS, setS]
theorem set4_below {a W : World} {B b : Nat} {v0 v1 v2 v3 : Value} (h : Below B a W) (hb : B ≤ b) : Below B a (set4 W b v0 v1 v2 v3) :=
  (((h.setCell (p := ⟨b, 0, none⟩) hb v0).setCell (p := ⟨b, 1, none⟩) hb v1).setCell (p := ⟨b, 2, none⟩) hb v2).setCell (p := ⟨b, 3, none⟩) hb v3
set_option maxHeartbeats 4000000 in
theorem fin4 {n : Nat} {W : World} {a : Act} {v0 v1 v2 v3 : Value} {x0 x1 x2 x3 : Value} {e : Int} {R : Ending → World → Prop} (h2 : W.heap[n + 1 + 1]? = some (.cells #[x0, x1, x2, x3] 26 (0, 0))) (ha4 : a.tmps.getD 4 undef = .pointer (some ⟨n + 1 + 1, 0, none⟩)) (ha5 : a.tmps.getD 5 undef = .int .i64 e) (hd : a.defers = [])
    (hR : R (.returned (.tuple #[.agg #[v0, v1, v2, v3], .int .i64 e])) (set4 W (n + 1 + 1) v0 v1 v2 v3)) : bodyPost Tryz.prog Tryz.f47 R .ret a (set4 W (n + 1 + 1) v0 v1 v2 v3) := by
  refine bodyPost_ret (v := .tuple #[.agg #[v0, v1, v2, v3], .int .i64 e]) ?_ hd hR
  have hl := run_loadVar_row (P := Tryz.prog) (set4 W (n + 1 + 1) v0 v1 v2 v3) (n + 1 + 1) 26 26 #[v0, v1, v2, v3] (0, 0) _ (set4_at h2) Tryz.underlying26 rfl (by kernel_rfl)
  rw [results_cell_tmp rfl, ha4, ha5]
  simp only [asAddr, Sem.run_pure, Result.andThen, hl]
theorem reach {n a0 a1 a2 a3 b0 b1 b2 b3} {W : World} (h : Bxs n a0 a1 a2 a3 b0 b1 b2 b3 W) : n + 1 + 1 < W.heap.size := heapLt h.h2
theorem Bxs.s {n a0 a1 a2 a3 b0 b1 b2 b3} {W : World} (h : Bxs n a0 a1 a2 a3 b0 b1 b2 b3 W) : W.cell? ⟨n, 0, none⟩ = some (.bool a0) ∧ W.cell? ⟨n, 1, none⟩ = some (a1) ∧ W.cell? ⟨n, 2, none⟩ = some (.bool a2) ∧ W.cell? ⟨n, 3, none⟩ = some (a3) ∧ W.cell? ⟨n + 1, 0, none⟩ = some (.bool b0) ∧ W.cell? ⟨n + 1, 1, none⟩ = some (b1) ∧ W.cell? ⟨n + 1, 2, none⟩ = some (.bool b2) ∧ W.cell? ⟨n + 1, 3, none⟩ = some (b3) ∧ W.cell? ⟨n + 1 + 1 + 1, 0, none⟩ = some (.func (.func 100) #[] #[.pointer (some ⟨n + 1 + 1 + 1, 0, none⟩)]) :=
  ⟨h.lo.1, h.lo.2.1, h.lo.2.2.1, h.lo.2.2.2, h.hi.1, h.hi.2.1, h.hi.2.2.1, h.hi.2.2.2, h.cl⟩
theorem cellO {W : World} {b k i : Nat} {v0 v1 v2 v3 : Value} (h : k ≠ b) : (set4 W b v0 v1 v2 v3).cell? ⟨k, i, none⟩ = W.cell? ⟨k, i, none⟩ := World.cell?_of_block (w := W) (a := ⟨k, i, none⟩) (set4_o h)
theorem Bxs.s4 {n a0 a1 a2 a3 b0 b1 b2 b3} {W : World} {v0 v1 v2 v3 : Value} (h : Bxs n a0 a1 a2 a3 b0 b1 b2 b3 W) : (set4 W (n + 1 + 1) v0 v1 v2 v3).cell? ⟨n, 0, none⟩ = some (.bool a0) ∧ (set4 W (n + 1 + 1) v0 v1 v2 v3).cell? ⟨n, 1, none⟩ = some (a1) ∧ (set4 W (n + 1 + 1) v0 v1 v2 v3).cell? ⟨n, 2, none⟩ = some (.bool a2) ∧ (set4 W (n + 1 + 1) v0 v1 v2 v3).cell? ⟨n, 3, none⟩ = some (a3) ∧ (set4 W (n + 1 + 1) v0 v1 v2 v3).cell? ⟨n + 1, 0, none⟩ = some (.bool b0) ∧ (set4 W (n + 1 + 1) v0 v1 v2 v3).cell? ⟨n + 1, 1, none⟩ = some (b1) ∧ (set4 W (n + 1 + 1) v0 v1 v2 v3).cell? ⟨n + 1, 2, none⟩ = some (.bool b2) ∧ (set4 W (n + 1 + 1) v0 v1 v2 v3).cell? ⟨n + 1, 3, none⟩ = some (b3) ∧ (set4 W (n + 1 + 1) v0 v1 v2 v3).cell? ⟨n + 1 + 1 + 1, 0, none⟩ = some (.func (.func 100) #[] #[.pointer (some ⟨n + 1 + 1 + 1, 0, none⟩)]) := by
  have e0 : n ≠ n + 1 + 1 := by omega
  have e1 : n + 1 ≠ n + 1 + 1 := by omega
  have e2 : n + 1 + 1 + 1 ≠ n + 1 + 1 := by omega
  rw [cellO e0, cellO e0, cellO e0, cellO e0, cellO e1, cellO e1, cellO e1, cellO e1, cellO e2]
  exact h.s
/-- What comes back, and where it stands. -/
def Back (w : World) (e : Int) (Q : World → Bool → Sl → Bool → Sl → Prop) (x : Ending) (w' : World) : Prop :=
  ∃ r0 r1 r2 r3 W', x = .returned (.tuple #[.agg #[.bool r0, .slice r1.1 r1.2.1 r1.2.2, .bool r2, .slice r3.1 r3.2.1 r3.2.2], .int .i64 e]) ∧ Below w.heap.size w w' ∧ Q W' r0 r1 r2 r3 ∧ W'.heap.size = w'.heap.size ∧ ∀ b, b ≠ w.heap.size + 1 + 1 → w'.heap[b]? = W'.heap[b]?

set_option maxHeartbeats 4000000 in
set_option maxRecDepth 1000000 in
theorem btw_err (a0 a2 b0 b2 : Bool) (a1 a3 b1 b3 : Value) (w : World) (c : Int) (hc : 0 < c)
    (hC : ∀ W, Below w.heap.size w W → Calls Tryz.prog 52 #[.agg #[.bool a0, a1, .bool a2, a3], .agg #[.bool b0, b1, .bool b2, b3]] W fun e w' => e = .returned (.int .i64 c) ∧ Below W.heap.size W w') :
    Calls Tryz.prog 47 #[.agg #[.bool a0, a1, .bool a2, a3], .agg #[.bool b0, b1, .bool b2, b3]] w fun e w' => Back w 1 (fun _ r0 r1 r2 r3 => r0 = false ∧ r1 = (none, 0, 0) ∧ r2 = false ∧ r3 = (none, 0, 0)) e w' := by
  have hB := w5_below (w := w) (a0 := a0) (a1 := a1) (a2 := a2) (a3 := a3) (b0 := b0) (b1 := b1) (b2 := b2) (b3 := b3)
  have hX := w5_ok (w := w) (a0 := a0) (a1 := a1) (a2 := a2) (a3 := a3) (b0 := b0) (b1 := b1) (b2 := b2) (b3 := b3)
  have e1 : decide (c > 0) = true := decide_eq_true hc
  go_enter Tryz.func47, Tryz.ntmps47
  go_wp2_with (go_at_call 52; refine (hC _ hB).mono ?_)
  first | (intro e w1 he k1; subst he) | (rintro e w1 ⟨rfl, k1⟩)
  have hz : (w5 w a0 a1 a2 a3 b0 b1 b2 b3).heap.size = w.heap.size + 1 + 1 + 1 + 1 := by simp only [w5, pushS]
  have k1' : Below (w5 w a0 a1 a2 a3 b0 b1 b2 b3).heap.size (w5 w a0 a1 a2 a3 b0 b1 b2 b3) w1 := by first | exact k1 | (rw [hz]; exact k1)
  clear k1 hz
  have X1 := hX.keep k1'
  have B1 : Below w.heap.size w w1 := hB.trans (k1'.mono hB.size)
  obtain ⟨r0, r1, r2, r3⟩ := X1.res
  obtain ⟨f0, f1, f2, f3⟩ := X1.fr
  go_wp2
  (try simp only [Exit.inBlock, Exit.then])
  refine fin4 X1.h2 rfl rfl rfl ?_
  exact ⟨false, (none, 0, 0), false, (none, 0, 0), w1, rfl, set4_below B1 (by omega), ⟨rfl, rfl, rfl, rfl⟩, set4_size.symm, fun b hb => set4_o hb⟩
set_option maxHeartbeats 4000000 in
set_option maxRecDepth 1000000 in
theorem btw_zero (a0 a2 b0 b2 : Bool) (a1 a3 b1 b3 : Value) (w : World) (c sa sb : Int) (hc : ¬ 0 < c) (ha : ¬ 0 < sa) (hb : ¬ sb < 0)
    (hC : ∀ W, Below w.heap.size w W → Calls Tryz.prog 52 #[.agg #[.bool a0, a1, .bool a2, a3], .agg #[.bool b0, b1, .bool b2, b3]] W fun e w' => e = .returned (.int .i64 c) ∧ Below W.heap.size W w')
    (hSa : ∀ W, Below w.heap.size w W → Calls Tryz.prog 56 #[.agg #[.bool a0, a1, .bool a2, a3]] W fun e w' => e = .returned (.int .i64 sa) ∧ Below W.heap.size W w')
    (hSb : ∀ W, Below w.heap.size w W → Calls Tryz.prog 56 #[.agg #[.bool b0, b1, .bool b2, b3]] W fun e w' => e = .returned (.int .i64 sb) ∧ Below W.heap.size W w') :
    Calls Tryz.prog 47 #[.agg #[.bool a0, a1, .bool a2, a3], .agg #[.bool b0, b1, .bool b2, b3]] w fun e w' => Back w 0 (fun _ r0 r1 r2 r3 => r0 = false ∧ r1 = (none, 0, 0) ∧ r2 = false ∧ r3 = (none, 0, 0)) e w' := by
  have hB := w5_below (w := w) (a0 := a0) (a1 := a1) (a2 := a2) (a3 := a3) (b0 := b0) (b1 := b1) (b2 := b2) (b3 := b3)
  have hX := w5_ok (w := w) (a0 := a0) (a1 := a1) (a2 := a2) (a3 := a3) (b0 := b0) (b1 := b1) (b2 := b2) (b3 := b3)
  have e1 : decide (c > 0) = false := decide_eq_false hc
  have e2 : decide (sa > 0) = false := decide_eq_false ha
  have e3 : decide (sb < 0) = false := decide_eq_false hb
  go_enter Tryz.func47, Tryz.ntmps47
  go_wp2_with (go_at_call 52; refine (hC _ hB).mono ?_)
  first | (intro e w1 he k1; subst he) | (rintro e w1 ⟨rfl, k1⟩)
  have hz : (w5 w a0 a1 a2 a3 b0 b1 b2 b3).heap.size = w.heap.size + 1 + 1 + 1 + 1 := by simp only [w5, pushS]
  have k1' : Below (w5 w a0 a1 a2 a3 b0 b1 b2 b3).heap.size (w5 w a0 a1 a2 a3 b0 b1 b2 b3) w1 := by first | exact k1 | (rw [hz]; exact k1)
  clear k1 hz
  have X1 := hX.keep k1'
  have B1 : Below w.heap.size w w1 := hB.trans (k1'.mono hB.size)
  obtain ⟨l0, l1, l2, l3⟩ := X1.lo
  go_wp2_with (go_at_call 56; refine (hSa _ B1).mono ?_)
  first | (intro e w2 he k2; subst he) | (rintro e w2 ⟨rfl, k2⟩)
  have X2 := X1.keep k2
  have B2 : Below w.heap.size w w2 := B1.trans (k2.mono B1.size)
  obtain ⟨i0, i1, i2, i3⟩ := X2.hi
  go_wp2_with (go_at_call 56; refine (hSb _ B2).mono ?_)
  first | (intro e w3 he k3; subst he) | (rintro e w3 ⟨rfl, k3⟩)
  have X3 := X2.keep k3
  have B3 : Below w.heap.size w w3 := B2.trans (k3.mono B2.size)
  obtain ⟨r0, r1, r2, r3⟩ := X3.res
  obtain ⟨f0, f1, f2, f3⟩ := X3.fr
  go_wp2
  (try simp only [Exit.inBlock, Exit.then])
  refine fin4 X3.h2 rfl rfl rfl ?_
  exact ⟨false, (none, 0, 0), false, (none, 0, 0), w3, rfl, set4_below B3 (by omega), ⟨rfl, rfl, rfl, rfl⟩, set4_size.symm, fun b hb => set4_o hb⟩
set_option maxHeartbeats 4000000 in
set_option maxRecDepth 1000000 in
theorem btw_pos (a0 a2 b0 b2 : Bool) (a1 a3 b1 b3 : Value) (w : World) (c sa : Int) (hc : ¬ 0 < c) (ha : 0 < sa) (Q : World → Bool → Sl → Bool → Sl → Prop)
    (hC : ∀ W, Below w.heap.size w W → Calls Tryz.prog 52 #[.agg #[.bool a0, a1, .bool a2, a3], .agg #[.bool b0, b1, .bool b2, b3]] W fun e w' => e = .returned (.int .i64 c) ∧ Below W.heap.size W w')
    (hSa : ∀ W, Below w.heap.size w W → Calls Tryz.prog 56 #[.agg #[.bool a0, a1, .bool a2, a3]] W fun e w' => e = .returned (.int .i64 sa) ∧ Below W.heap.size W w')
    (hL : ∀ W, Below w.heap.size w W → Bxs w.heap.size a0 a1 a2 a3 b0 b1 b2 b3 W → Calls Tryz.prog 100 #[.agg #[.bool a0, a1, .bool a2, a3], .agg #[.bool b0, b1, .bool b2, b3], .pointer (some ⟨w.heap.size + 1 + 1 + 1, 0, none⟩)] W fun e w' => ∃ r0 r1 r2 r3, e = .returned (.agg #[.bool r0, .slice r1.1 r1.2.1 r1.2.2, .bool r2, .slice r3.1 r3.2.1 r3.2.2]) ∧ Below W.heap.size W w' ∧ Q w' r0 r1 r2 r3) :
    Calls Tryz.prog 47 #[.agg #[.bool a0, a1, .bool a2, a3], .agg #[.bool b0, b1, .bool b2, b3]] w fun e w' => Back w 0 Q e w' := by
  have hB := w5_below (w := w) (a0 := a0) (a1 := a1) (a2 := a2) (a3 := a3) (b0 := b0) (b1 := b1) (b2 := b2) (b3 := b3)
  have hX := w5_ok (w := w) (a0 := a0) (a1 := a1) (a2 := a2) (a3 := a3) (b0 := b0) (b1 := b1) (b2 := b2) (b3 := b3)
  have e1 : decide (c > 0) = false := decide_eq_false hc
  have e2 : decide (sa > 0) = true := decide_eq_true ha
  go_enter Tryz.func47, Tryz.ntmps47
  go_wp2_with (go_at_call 52; refine (hC _ hB).mono ?_)
  first | (intro e w1 he k1; subst he) | (rintro e w1 ⟨rfl, k1⟩)
  have hz : (w5 w a0 a1 a2 a3 b0 b1 b2 b3).heap.size = w.heap.size + 1 + 1 + 1 + 1 := by simp only [w5, pushS]
  have k1' : Below (w5 w a0 a1 a2 a3 b0 b1 b2 b3).heap.size (w5 w a0 a1 a2 a3 b0 b1 b2 b3) w1 := by first | exact k1 | (rw [hz]; exact k1)
  clear k1 hz
  have X1 := hX.keep k1'
  have B1 : Below w.heap.size w w1 := hB.trans (k1'.mono hB.size)
  obtain ⟨l0, l1, l2, l3⟩ := X1.lo
  go_wp2_with (go_at_call 56; refine (hSa _ B1).mono ?_)
  first | (intro e w2 he k2; subst he) | (rintro e w2 ⟨rfl, k2⟩)
  have X2 := X1.keep k2
  have B2 : Below w.heap.size w w2 := B1.trans (k2.mono B1.size)
  obtain ⟨m0, m1, m2, m3⟩ := X2.lo
  obtain ⟨i0, i1, i2, i3⟩ := X2.hi
  have cl := X2.cl
  go_wp2_with (go_at_call 100; refine (hL _ B2 X2).mono ?_)
  first | (intro e w3 u0 u1 u2 u3 he k3 q3; subst he) | (rintro e w3 ⟨u0, u1, u2, u3, rfl, k3, q3⟩)
  have X3 := X2.keep k3
  have B3 : Below w.heap.size w w3 := B2.trans (k3.mono B2.size)
  obtain ⟨r0, r1, r2, r3⟩ := X3.res
  obtain ⟨f0, f1, f2, f3⟩ := X3.fr
  go_wp2
  (try simp only [Exit.inBlock, Exit.then])
  refine fin4 X3.h2 rfl rfl rfl ?_
  exact ⟨u0, u1, u2, u3, w3, rfl, set4_below B3 (by omega), q3, set4_size.symm, fun b hb => set4_o hb⟩
set_option maxHeartbeats 4000000 in
set_option maxRecDepth 1000000 in
theorem btw_neg (a0 a2 b0 b2 : Bool) (a1 a3 b1 b3 : Value) (w : World) (c sa sb : Int) (hc : ¬ 0 < c) (ha : ¬ 0 < sa) (hb : sb < 0) (Q1 Q2 Q3 Q4 : World → Bool → Sl → Bool → Sl → Prop)
    (hC : ∀ W, Below w.heap.size w W → Calls Tryz.prog 52 #[.agg #[.bool a0, a1, .bool a2, a3], .agg #[.bool b0, b1, .bool b2, b3]] W fun e w' => e = .returned (.int .i64 c) ∧ Below W.heap.size W w')
    (hSa : ∀ W, Below w.heap.size w W → Calls Tryz.prog 56 #[.agg #[.bool a0, a1, .bool a2, a3]] W fun e w' => e = .returned (.int .i64 sa) ∧ Below W.heap.size W w')
    (hSb : ∀ W, Below w.heap.size w W → Calls Tryz.prog 56 #[.agg #[.bool b0, b1, .bool b2, b3]] W fun e w' => e = .returned (.int .i64 sb) ∧ Below W.heap.size W w')
    (K1 : ∀ W W' r0 r1 r2 r3, Q1 W r0 r1 r2 r3 → Below W.heap.size W W' → Q1 W' r0 r1 r2 r3)
    (N1 : ∀ W, Below w.heap.size w W → Bxs w.heap.size a0 a1 a2 a3 b0 b1 b2 b3 W → Calls Tryz.prog 61 #[.agg #[.bool b0, b1, .bool b2, b3]] W fun e w' => ∃ r0 r1 r2 r3, e = .returned (.agg #[.bool r0, .slice r1.1 r1.2.1 r1.2.2, .bool r2, .slice r3.1 r3.2.1 r3.2.2]) ∧ Below W.heap.size W w' ∧ Q1 w' r0 r1 r2 r3)
    (N2 : ∀ W, Below w.heap.size w W → Bxs w.heap.size a0 a1 a2 a3 b0 b1 b2 b3 W → Calls Tryz.prog 61 #[.agg #[.bool a0, a1, .bool a2, a3]] W fun e w' => ∃ r0 r1 r2 r3, e = .returned (.agg #[.bool r0, .slice r1.1 r1.2.1 r1.2.2, .bool r2, .slice r3.1 r3.2.1 r3.2.2]) ∧ Below W.heap.size W w' ∧ Q2 w' r0 r1 r2 r3)
    (hL : ∀ W r0 r1 r2 r3 s0 s1 s2 s3, Below w.heap.size w W → Bxs w.heap.size a0 a1 a2 a3 b0 b1 b2 b3 W → Q1 W r0 r1 r2 r3 → Q2 W s0 s1 s2 s3 → Calls Tryz.prog 100 #[.agg #[.bool r0, .slice r1.1 r1.2.1 r1.2.2, .bool r2, .slice r3.1 r3.2.1 r3.2.2], .agg #[.bool s0, .slice s1.1 s1.2.1 s1.2.2, .bool s2, .slice s3.1 s3.2.1 s3.2.2], .pointer (some ⟨w.heap.size + 1 + 1 + 1, 0, none⟩)] W fun e w' => ∃ r0 r1 r2 r3, e = .returned (.agg #[.bool r0, .slice r1.1 r1.2.1 r1.2.2, .bool r2, .slice r3.1 r3.2.1 r3.2.2]) ∧ Below W.heap.size W w' ∧ Q3 w' r0 r1 r2 r3)
    (N3 : ∀ W r0 r1 r2 r3, Below w.heap.size w W → Bxs w.heap.size a0 a1 a2 a3 b0 b1 b2 b3 W → Q3 W r0 r1 r2 r3 → Calls Tryz.prog 61 #[.agg #[.bool r0, .slice r1.1 r1.2.1 r1.2.2, .bool r2, .slice r3.1 r3.2.1 r3.2.2]] W fun e w' => ∃ r0 r1 r2 r3, e = .returned (.agg #[.bool r0, .slice r1.1 r1.2.1 r1.2.2, .bool r2, .slice r3.1 r3.2.1 r3.2.2]) ∧ Below W.heap.size W w' ∧ Q4 w' r0 r1 r2 r3) :
    Calls Tryz.prog 47 #[.agg #[.bool a0, a1, .bool a2, a3], .agg #[.bool b0, b1, .bool b2, b3]] w fun e w' => Back w 0 Q4 e w' := by
  have hB := w5_below (w := w) (a0 := a0) (a1 := a1) (a2 := a2) (a3 := a3) (b0 := b0) (b1 := b1) (b2 := b2) (b3 := b3)
  have hX := w5_ok (w := w) (a0 := a0) (a1 := a1) (a2 := a2) (a3 := a3) (b0 := b0) (b1 := b1) (b2 := b2) (b3 := b3)
  have e1 : decide (c > 0) = false := decide_eq_false hc
  have e2 : decide (sa > 0) = false := decide_eq_false ha
  have e3 : decide (sb < 0) = true := decide_eq_true hb
  go_enter Tryz.func47, Tryz.ntmps47
  go_wp2_with (go_at_call 52; refine (hC _ hB).mono ?_)
  first | (intro e w1 he k1; subst he) | (rintro e w1 ⟨rfl, k1⟩)
  have hz : (w5 w a0 a1 a2 a3 b0 b1 b2 b3).heap.size = w.heap.size + 1 + 1 + 1 + 1 := by simp only [w5, pushS]
  have k1' : Below (w5 w a0 a1 a2 a3 b0 b1 b2 b3).heap.size (w5 w a0 a1 a2 a3 b0 b1 b2 b3) w1 := by first | exact k1 | (rw [hz]; exact k1)
  clear k1 hz
  have X1 := hX.keep k1'
  have B1 : Below w.heap.size w w1 := hB.trans (k1'.mono hB.size)
  obtain ⟨l0, l1, l2, l3⟩ := X1.lo
  go_wp2_with (go_at_call 56; refine (hSa _ B1).mono ?_)
  first | (intro e w2 he k2; subst he) | (rintro e w2 ⟨rfl, k2⟩)
  have X2 := X1.keep k2
  have B2 : Below w.heap.size w w2 := B1.trans (k2.mono B1.size)
  obtain ⟨i0, i1, i2, i3⟩ := X2.hi
  go_wp2_with (go_at_call 56; refine (hSb _ B2).mono ?_)
  first | (intro e w3 he k3; subst he) | (rintro e w3 ⟨rfl, k3⟩)
  have X3 := X2.keep k3
  have B3 : Below w.heap.size w w3 := B2.trans (k3.mono B2.size)
  go_wp2
  have X3d := X3.drew
  have B3d := B3.drew
  go_region_held3 (fun W' => W'.cell? ⟨w.heap.size, 0, none⟩ = some (.bool a0) ∧ W'.cell? ⟨w.heap.size, 1, none⟩ = some (a1) ∧ W'.cell? ⟨w.heap.size, 2, none⟩ = some (.bool a2) ∧ W'.cell? ⟨w.heap.size, 3, none⟩ = some (a3) ∧ W'.cell? ⟨w.heap.size + 1, 0, none⟩ = some (.bool b0) ∧ W'.cell? ⟨w.heap.size + 1, 1, none⟩ = some (b1) ∧ W'.cell? ⟨w.heap.size + 1, 2, none⟩ = some (.bool b2) ∧ W'.cell? ⟨w.heap.size + 1, 3, none⟩ = some (b3) ∧ W'.cell? ⟨w.heap.size + 1 + 1 + 1, 0, none⟩ = some (.func (.func 100) #[] #[.pointer (some ⟨w.heap.size + 1 + 1 + 1, 0, none⟩)]))
    (first | exact X3d.s | exact X4.s | exact X5.s | exact X6.s | exact X7.s | exact X7.s4)
    (first
    | (go_at_call 100; refine (hL _ _ _ _ _ _ _ _ _ B5 X5 (K1 _ _ _ _ _ _ q1 k5) q2).mono ?_; rintro e w6 ⟨t0, t1, t2, t3, rfl, k6, q3⟩; have X6 := X5.keep k6; have B6 := B5.trans (k6.mono B5.size))
    | (go_at_call 61; refine (N1 _ B3d X3d).mono ?_; rintro e w4 ⟨r0, r1, r2, r3, rfl, k4, q1⟩; have X4 := X3d.keep k4; have B4 := B3d.trans (k4.mono B3d.size))
    | (go_at_call 61; refine (N2 _ B4 X4).mono ?_; rintro e w5 ⟨s0, s1, s2, s3, rfl, k5, q2⟩; have X5 := X4.keep k5; have B5 := B4.trans (k5.mono B4.size))
    | (go_at_call 61; refine (N3 _ _ _ _ _ B6 X6 q3).mono ?_; rintro e w7 ⟨u0, u1, u2, u3, rfl, k7, q4⟩; have X7 := X6.keep k7; have B7 := B6.trans (k7.mono B6.size); obtain ⟨z0, z1, z2, z3⟩ := X7.res; obtain ⟨f0, f1, f2, f3⟩ := X7.fr))
  go_wp2
  (try simp only [Exit.inBlock, Exit.then])
  refine fin4 X7.h2 rfl rfl rfl ?_
  exact ⟨u0, u1, u2, u3, w7, rfl, set4_below B7 (by omega), q4, set4_size.symm, fun b hb => set4_o hb⟩
end Go.Proofs

/-
  DERIVED: THE SHELF's CONTRACTS AT THIS DUMP, IN PLAIN WORDS (tools/lay-plain.mjs out of 'TryzS5.lean', which tools/lay-shelf.mjs wrote): THE SAME DECLARATIONS UNDER THE SAME NAMES: 'import', 'namespace', 'open', 'def', 'theorem' AND NOTHING ELSE: no command of the shelf's: FOR A HAND-IN. Each laying: the table of numbers ('.._ren') and one theorem, a field a fact of the dump's own or the kernel's comparison; each contract: ONE APPLICATION.
-/
namespace Go.Proofs
open Go.Shelf
def Tryz.lays169_ren : Go.Shelf.Ren := ⟨fun | 169 => 120 | n => n, fun | 70 => 96 | 9 => 9 | 0 => 0 | 72 => 98 | 37 => 38 | 127 => 126 | 3 => 3 | 5 => 5 | n => n, fun | n => n⟩
theorem Tryz.lays169 : Go.Proofs.Lays.n169 Tryz.prog Tryz.lays169_ren := {
  mixed := by kernel_rfl
  f169 := Tryz.func120.trans (congrArg some (by kernel_rfl))
  t0 := Tryz.underlying0
  a0 := Tryz.isAgg0
  z0 := Tryz.sizeOf0
  v0 := Tryz.zeroValue0
  t3 := Tryz.underlying3
  a3 := Tryz.isAgg3
  z3 := Tryz.sizeOf3
  v3 := Tryz.zeroValue3
  t9 := Tryz.underlying9
  a9 := Tryz.isAgg9
  z9 := Tryz.sizeOf9
  v9 := Tryz.zeroValue9
  t37 := Tryz.underlying38
  a37 := Tryz.isAgg38
  z37 := Tryz.sizeOf38
  v37 := Tryz.zeroValue38
  t70 := Tryz.underlying96
  a70 := Tryz.isAgg96
  z70 := Tryz.sizeOf96
  v70 := Tryz.zeroValue96
  t72 := Tryz.underlying98
  a72 := Tryz.isAgg98
  z72 := Tryz.sizeOf98
  v72 := Tryz.zeroValue98
  t127 := Tryz.underlying126
  a127 := Tryz.isAgg126
  z127 := Tryz.sizeOf126
  v127 := Tryz.zeroValue126 }
theorem Tryz.Builder_Extra_169 : Builder.Extra Tryz.prog Tryz.lays169_ren := {
  sizeBuilder := by kernel_rfl
  liesBuilder := by kernel_rfl
  t5 := Tryz.underlying5
  a5 := Tryz.isAgg5
  z5 := Tryz.sizeOf5
  v5 := Tryz.zeroValue5
  infoByte := by kernel_rfl
  cellsByte := by kernel_rfl
  sizeByte := by kernel_rfl
  neB5 := by decide }
def Tryz.lays160_ren : Go.Shelf.Ren := ⟨fun | 160 => 124 | 232 => 152 | 231 => 151 | 227 => 153 | 234 => 155 | 233 => 154 | 236 => 157 | 235 => 156 | 228 => 178 | 271 => 181 | 151 => 180 | 197 => 179 | 120 => 199 | 152 => 198 | 260 => 197 | 137 => 208 | 119 => 209 | 224 => 176 | 225 => 175 | 217 => 174 | 266 => 195 | n => n, fun | 9 => 9 | 4 => 4 | 3 => 3 | 5 => 5 | 117 => 131 | 116 => 130 | 0 => 0 | 124 => 134 | 21 => 21 | 105 => 153 | 46 => 120 | 119 => 179 | 139 => 182 | 138 => 181 | n => n, fun | 3 => 4 | 4 => 5 | n => n⟩
theorem Tryz.lays160 : Go.Proofs.Lays.n160 Tryz.prog Tryz.lays160_ren := {
  mixed := by kernel_rfl
  f119 := Tryz.func209.trans (congrArg some (by kernel_rfl))
  f120 := Tryz.func199.trans (congrArg some (by kernel_rfl))
  f137 := Tryz.func208.trans (congrArg some (by kernel_rfl))
  f151 := Tryz.func180.trans (congrArg some (by kernel_rfl))
  f152 := Tryz.func198.trans (congrArg some (by kernel_rfl))
  f160 := Tryz.func124.trans (congrArg some (by kernel_rfl))
  f197 := Tryz.func179.trans (congrArg some (by kernel_rfl))
  f217 := Tryz.func174.trans (congrArg some (by kernel_rfl))
  f224 := Tryz.func176.trans (congrArg some (by kernel_rfl))
  f225 := Tryz.func175.trans (congrArg some (by kernel_rfl))
  f227 := Tryz.func153.trans (congrArg some (by kernel_rfl))
  f228 := Tryz.func178.trans (congrArg some (by kernel_rfl))
  f231 := Tryz.func151.trans (congrArg some (by kernel_rfl))
  f232 := Tryz.func152.trans (congrArg some (by kernel_rfl))
  f233 := Tryz.func154.trans (congrArg some (by kernel_rfl))
  f234 := Tryz.func155.trans (congrArg some (by kernel_rfl))
  f235 := Tryz.func156.trans (congrArg some (by kernel_rfl))
  f236 := Tryz.func157.trans (congrArg some (by kernel_rfl))
  f260 := Tryz.func197.trans (congrArg some (by kernel_rfl))
  f266 := Tryz.func195.trans (congrArg some (by kernel_rfl))
  f271 := Tryz.func181.trans (congrArg some (by kernel_rfl))
  t0 := Tryz.underlying0
  a0 := Tryz.isAgg0
  z0 := Tryz.sizeOf0
  v0 := Tryz.zeroValue0
  t3 := Tryz.underlying3
  a3 := Tryz.isAgg3
  z3 := Tryz.sizeOf3
  v3 := Tryz.zeroValue3
  t4 := Tryz.underlying4
  a4 := Tryz.isAgg4
  z4 := Tryz.sizeOf4
  v4 := Tryz.zeroValue4
  t5 := Tryz.underlying5
  a5 := Tryz.isAgg5
  z5 := Tryz.sizeOf5
  v5 := Tryz.zeroValue5
  t9 := Tryz.underlying9
  a9 := Tryz.isAgg9
  z9 := Tryz.sizeOf9
  v9 := Tryz.zeroValue9
  t21 := Tryz.underlying21
  a21 := Tryz.isAgg21
  z21 := Tryz.sizeOf21
  v21 := Tryz.zeroValue21
  t46 := Tryz.underlying120
  a46 := Tryz.isAgg120
  z46 := Tryz.sizeOf120
  v46 := Tryz.zeroValue120
  t105 := Tryz.underlying153
  a105 := Tryz.isAgg153
  z105 := Tryz.sizeOf153
  v105 := Tryz.zeroValue153
  t116 := Tryz.underlying130
  a116 := Tryz.isAgg130
  z116 := Tryz.sizeOf130
  t117 := Tryz.underlying131
  a117 := Tryz.isAgg131
  z117 := Tryz.sizeOf131
  v117 := Tryz.zeroValue131
  t119 := Tryz.underlying179
  a119 := Tryz.isAgg179
  z119 := Tryz.sizeOf179
  t124 := Tryz.underlying134
  a124 := Tryz.isAgg134
  z124 := Tryz.sizeOf134
  v124 := Tryz.zeroValue134
  t138 := Tryz.underlying181
  a138 := Tryz.isAgg181
  z138 := Tryz.sizeOf181
  v138 := Tryz.zeroValue181
  t139 := Tryz.underlying182
  a139 := Tryz.isAgg182
  z139 := Tryz.sizeOf182
  v139 := Tryz.zeroValue182
  g3 := by kernel_rfl
  g4 := by kernel_rfl }
def Tryz.lays172_ren : Go.Shelf.Ren := ⟨fun | 172 => 125 | 244 => 158 | 245 => 159 | 247 => 182 | 279 => 183 | 280 => 184 | 281 => 185 | 282 => 186 | 287 => 200 | 316 => 201 | 171 => 118 | 205 => 202 | 321 => 210 | 322 => 211 | 243 => 144 | 246 => 169 | 283 => 190 | 284 => 191 | 285 => 192 | 286 => 193 | 129 => 204 | 317 => 203 | 318 => 205 | 319 => 206 | 320 => 207 | 337 => 212 | 338 => 213 | n => n, fun | 9 => 9 | 3 => 3 | 75 => 100 | 76 => 102 | 4 => 4 | 5 => 5 | 167 => 156 | 37 => 38 | 0 => 0 | 85 => 157 | 2 => 2 | 168 => 159 | 53 => 90 | 175 => 169 | 46 => 120 | 210 => 173 | 127 => 126 | 145 => 188 | 143 => 186 | 21 => 21 | 171 => 162 | 173 => 165 | 212 => 176 | 51 => 145 | 20 => 20 | 213 => 177 | 232 => 190 | 233 => 191 | 80 => 105 | n => n, fun | 15 => 1 | 16 => 2 | 17 => 3 | 18 => 6 | 19 => 7 | n => n⟩
theorem Tryz.lays172 : Go.Proofs.Lays.n172 Tryz.prog Tryz.lays172_ren := {
  mixed := by kernel_rfl
  f129 := Tryz.func204.trans (congrArg some (by kernel_rfl))
  f171 := Tryz.func118.trans (congrArg some (by kernel_rfl))
  f172 := Tryz.func125.trans (congrArg some (by kernel_rfl))
  f205 := Tryz.func202.trans (congrArg some (by kernel_rfl))
  f243 := Tryz.func144.trans (congrArg some (by kernel_rfl))
  f244 := Tryz.func158.trans (congrArg some (by kernel_rfl))
  f245 := Tryz.func159.trans (congrArg some (by kernel_rfl))
  f246 := Tryz.func169.trans (congrArg some (by kernel_rfl))
  f247 := Tryz.func182.trans (congrArg some (by kernel_rfl))
  f279 := Tryz.func183.trans (congrArg some (by kernel_rfl))
  f280 := Tryz.func184.trans (congrArg some (by kernel_rfl))
  f281 := Tryz.func185.trans (congrArg some (by kernel_rfl))
  f282 := Tryz.func186.trans (congrArg some (by kernel_rfl))
  f283 := Tryz.func190.trans (congrArg some (by kernel_rfl))
  f284 := Tryz.func191.trans (congrArg some (by kernel_rfl))
  f285 := Tryz.func192.trans (congrArg some (by kernel_rfl))
  f286 := Tryz.func193.trans (congrArg some (by kernel_rfl))
  f287 := Tryz.func200.trans (congrArg some (by kernel_rfl))
  f316 := Tryz.func201.trans (congrArg some (by kernel_rfl))
  f317 := Tryz.func203.trans (congrArg some (by kernel_rfl))
  f318 := Tryz.func205.trans (congrArg some (by kernel_rfl))
  f319 := Tryz.func206.trans (congrArg some (by kernel_rfl))
  f320 := Tryz.func207.trans (congrArg some (by kernel_rfl))
  f321 := Tryz.func210.trans (congrArg some (by kernel_rfl))
  f322 := Tryz.func211.trans (congrArg some (by kernel_rfl))
  f337 := Tryz.func212.trans (congrArg some (by kernel_rfl))
  f338 := Tryz.func213.trans (congrArg some (by kernel_rfl))
  t0 := Tryz.underlying0
  a0 := Tryz.isAgg0
  z0 := Tryz.sizeOf0
  v0 := Tryz.zeroValue0
  t2 := Tryz.underlying2
  a2 := Tryz.isAgg2
  z2 := Tryz.sizeOf2
  v2 := Tryz.zeroValue2
  t3 := Tryz.underlying3
  a3 := Tryz.isAgg3
  z3 := Tryz.sizeOf3
  v3 := Tryz.zeroValue3
  t4 := Tryz.underlying4
  a4 := Tryz.isAgg4
  z4 := Tryz.sizeOf4
  v4 := Tryz.zeroValue4
  t5 := Tryz.underlying5
  a5 := Tryz.isAgg5
  z5 := Tryz.sizeOf5
  v5 := Tryz.zeroValue5
  t9 := Tryz.underlying9
  a9 := Tryz.isAgg9
  z9 := Tryz.sizeOf9
  v9 := Tryz.zeroValue9
  t20 := Tryz.underlying20
  a20 := Tryz.isAgg20
  z20 := Tryz.sizeOf20
  v20 := Tryz.zeroValue20
  t21 := Tryz.underlying21
  a21 := Tryz.isAgg21
  z21 := Tryz.sizeOf21
  v21 := Tryz.zeroValue21
  t37 := Tryz.underlying38
  a37 := Tryz.isAgg38
  z37 := Tryz.sizeOf38
  v37 := Tryz.zeroValue38
  t46 := Tryz.underlying120
  a46 := Tryz.isAgg120
  z46 := Tryz.sizeOf120
  v46 := Tryz.zeroValue120
  t51 := Tryz.underlying145
  a51 := Tryz.isAgg145
  z51 := Tryz.sizeOf145
  v51 := Tryz.zeroValue145
  t53 := Tryz.underlying90
  a53 := Tryz.isAgg90
  z53 := Tryz.sizeOf90
  v53 := Tryz.zeroValue90
  t75 := Tryz.underlying100
  a75 := Tryz.isAgg100
  z75 := Tryz.sizeOf100
  v75 := Tryz.zeroValue100
  t76 := Tryz.underlying102
  a76 := Tryz.isAgg102
  z76 := Tryz.sizeOf102
  v76 := Tryz.zeroValue102
  t85 := Tryz.underlying157
  a85 := Tryz.isAgg157
  z85 := Tryz.sizeOf157
  v85 := Tryz.zeroValue157
  t127 := Tryz.underlying126
  a127 := Tryz.isAgg126
  z127 := Tryz.sizeOf126
  v127 := Tryz.zeroValue126
  t143 := Tryz.underlying186
  a143 := Tryz.isAgg186
  z143 := Tryz.sizeOf186
  v143 := Tryz.zeroValue186
  t145 := Tryz.underlying188
  a145 := Tryz.isAgg188
  z145 := Tryz.sizeOf188
  v145 := Tryz.zeroValue188
  t167 := Tryz.underlying156
  a167 := Tryz.isAgg156
  z167 := Tryz.sizeOf156
  v167 := Tryz.zeroValue156
  t168 := Tryz.underlying159
  a168 := Tryz.isAgg159
  z168 := Tryz.sizeOf159
  v168 := Tryz.zeroValue159
  t171 := Tryz.underlying162
  a171 := Tryz.isAgg162
  z171 := Tryz.sizeOf162
  v171 := Tryz.zeroValue162
  t173 := Tryz.underlying165
  a173 := Tryz.isAgg165
  z173 := Tryz.sizeOf165
  v173 := Tryz.zeroValue165
  t175 := Tryz.underlying169
  a175 := Tryz.isAgg169
  z175 := Tryz.sizeOf169
  v175 := Tryz.zeroValue169
  t210 := Tryz.underlying173
  a210 := Tryz.isAgg173
  z210 := Tryz.sizeOf173
  v210 := Tryz.zeroValue173
  t212 := Tryz.underlying176
  a212 := Tryz.isAgg176
  z212 := Tryz.sizeOf176
  v212 := Tryz.zeroValue176
  t213 := Tryz.underlying177
  a213 := Tryz.isAgg177
  z213 := Tryz.sizeOf177
  t232 := Tryz.underlying190
  a232 := Tryz.isAgg190
  z232 := Tryz.sizeOf190
  v232 := Tryz.zeroValue190
  t233 := Tryz.underlying191
  a233 := Tryz.isAgg191
  z233 := Tryz.sizeOf191
  v233 := Tryz.zeroValue191
  g15 := by kernel_rfl
  g16 := by kernel_rfl
  g17 := by kernel_rfl
  g18 := by kernel_rfl
  g19 := by kernel_rfl }
def Tryz.laysM171_ren : Go.Shelf.Ren := ⟨fun | 171 => 118 | 243 => 144 | 246 => 169 | 283 => 190 | 284 => 191 | 285 => 192 | 286 => 193 | 129 => 204 | 317 => 203 | 318 => 205 | 319 => 206 | 320 => 207 | 337 => 212 | 338 => 213 | n => n, fun | 3 => 3 | 9 => 9 | 2 => 2 | 4 => 4 | 171 => 162 | 0 => 0 | 53 => 90 | 37 => 38 | 5 => 5 | 173 => 165 | 212 => 176 | 51 => 145 | 20 => 20 | 213 => 177 | 46 => 120 | 232 => 190 | 233 => 191 | n => n, fun | 17 => 3 | 18 => 6 | 19 => 7 | n => n⟩
theorem Tryz.laysM171 : Go.Proofs.LaysM.n171 Tryz.prog Tryz.laysM171_ren := {
  mixed := by kernel_rfl
  f129 := Tryz.func204.trans (congrArg some (by kernel_rfl))
  f171 := Tryz.func118.trans (congrArg some (by kernel_rfl))
  f243 := Tryz.func144.trans (congrArg some (by kernel_rfl))
  f246 := Tryz.func169.trans (congrArg some (by kernel_rfl))
  f283 := Tryz.func190.trans (congrArg some (by kernel_rfl))
  f284 := Tryz.func191.trans (congrArg some (by kernel_rfl))
  f285 := Tryz.func192.trans (congrArg some (by kernel_rfl))
  f286 := Tryz.func193.trans (congrArg some (by kernel_rfl))
  f317 := Tryz.func203.trans (congrArg some (by kernel_rfl))
  f318 := Tryz.func205.trans (congrArg some (by kernel_rfl))
  f319 := Tryz.func206.trans (congrArg some (by kernel_rfl))
  f320 := Tryz.func207.trans (congrArg some (by kernel_rfl))
  f337 := Tryz.func212.trans (congrArg some (by kernel_rfl))
  f338 := Tryz.func213.trans (congrArg some (by kernel_rfl))
  t0 := Tryz.underlying0
  a0 := Tryz.isAgg0
  z0 := Tryz.sizeOf0
  v0 := Tryz.zeroValue0
  t2 := Tryz.underlying2
  a2 := Tryz.isAgg2
  z2 := Tryz.sizeOf2
  v2 := Tryz.zeroValue2
  t3 := Tryz.underlying3
  a3 := Tryz.isAgg3
  z3 := Tryz.sizeOf3
  v3 := Tryz.zeroValue3
  t4 := Tryz.underlying4
  a4 := Tryz.isAgg4
  z4 := Tryz.sizeOf4
  v4 := Tryz.zeroValue4
  t5 := Tryz.underlying5
  a5 := Tryz.isAgg5
  z5 := Tryz.sizeOf5
  v5 := Tryz.zeroValue5
  t9 := Tryz.underlying9
  a9 := Tryz.isAgg9
  z9 := Tryz.sizeOf9
  v9 := Tryz.zeroValue9
  t20 := Tryz.underlying20
  a20 := Tryz.isAgg20
  z20 := Tryz.sizeOf20
  v20 := Tryz.zeroValue20
  t37 := Tryz.underlying38
  a37 := Tryz.isAgg38
  z37 := Tryz.sizeOf38
  v37 := Tryz.zeroValue38
  t46 := Tryz.underlying120
  a46 := Tryz.isAgg120
  z46 := Tryz.sizeOf120
  v46 := Tryz.zeroValue120
  t51 := Tryz.underlying145
  a51 := Tryz.isAgg145
  z51 := Tryz.sizeOf145
  v51 := Tryz.zeroValue145
  t53 := Tryz.underlying90
  a53 := Tryz.isAgg90
  z53 := Tryz.sizeOf90
  v53 := Tryz.zeroValue90
  t171 := Tryz.underlying162
  a171 := Tryz.isAgg162
  z171 := Tryz.sizeOf162
  v171 := Tryz.zeroValue162
  t173 := Tryz.underlying165
  a173 := Tryz.isAgg165
  z173 := Tryz.sizeOf165
  v173 := Tryz.zeroValue165
  t212 := Tryz.underlying176
  a212 := Tryz.isAgg176
  z212 := Tryz.sizeOf176
  v212 := Tryz.zeroValue176
  t213 := Tryz.underlying177
  a213 := Tryz.isAgg177
  z213 := Tryz.sizeOf177
  t232 := Tryz.underlying190
  a232 := Tryz.isAgg190
  z232 := Tryz.sizeOf190
  v232 := Tryz.zeroValue190
  t233 := Tryz.underlying191
  a233 := Tryz.isAgg191
  z233 := Tryz.sizeOf191
  v233 := Tryz.zeroValue191
  g17 := by kernel_rfl
  g18 := by kernel_rfl
  g19 := by kernel_rfl
  i0 := by kernel_rfl
  i2 := by kernel_rfl
  i3 := by kernel_rfl
  i4 := by kernel_rfl
  i5 := by kernel_rfl
  i9 := by kernel_rfl
  i20 := by kernel_rfl
  i37 := by kernel_rfl
  i46 := by kernel_rfl
  i51 := by kernel_rfl
  i53 := by kernel_rfl
  i171 := by kernel_rfl
  i173 := by kernel_rfl
  i212 := by kernel_rfl
  i232 := by kernel_rfl
  i233 := by kernel_rfl
  m17 := by kernel_rfl
  m18 := by kernel_rfl
  m19 := by kernel_rfl }
def Tryz.lays219_ren : Go.Shelf.Ren := ⟨fun | 219 => 149 | 217 => 174 | 225 => 175 | 224 => 176 | 267 => 177 | 266 => 195 | 314 => 196 | n => n, fun | 9 => 9 | 3 => 3 | 4 => 4 | 5 => 5 | 46 => 120 | 146 => 146 | 51 => 145 | n => n, fun | 1 => 0 | n => n⟩
theorem Tryz.lays219 : Go.Proofs.Lays.n219 Tryz.prog Tryz.lays219_ren := {
  mixed := by kernel_rfl
  f217 := Tryz.func174.trans (congrArg some (by kernel_rfl))
  f219 := Tryz.func149.trans (congrArg some (by kernel_rfl))
  f224 := Tryz.func176.trans (congrArg some (by kernel_rfl))
  f225 := Tryz.func175.trans (congrArg some (by kernel_rfl))
  f266 := Tryz.func195.trans (congrArg some (by kernel_rfl))
  f267 := Tryz.func177.trans (congrArg some (by kernel_rfl))
  f314 := Tryz.func196.trans (congrArg some (by kernel_rfl))
  t3 := Tryz.underlying3
  a3 := Tryz.isAgg3
  z3 := Tryz.sizeOf3
  v3 := Tryz.zeroValue3
  t4 := Tryz.underlying4
  a4 := Tryz.isAgg4
  z4 := Tryz.sizeOf4
  v4 := Tryz.zeroValue4
  t5 := Tryz.underlying5
  a5 := Tryz.isAgg5
  z5 := Tryz.sizeOf5
  v5 := Tryz.zeroValue5
  t9 := Tryz.underlying9
  a9 := Tryz.isAgg9
  z9 := Tryz.sizeOf9
  v9 := Tryz.zeroValue9
  t46 := Tryz.underlying120
  a46 := Tryz.isAgg120
  z46 := Tryz.sizeOf120
  v46 := Tryz.zeroValue120
  t51 := Tryz.underlying145
  a51 := Tryz.isAgg145
  z51 := Tryz.sizeOf145
  v51 := Tryz.zeroValue145
  t146 := Tryz.underlying146
  a146 := Tryz.isAgg146
  z146 := Tryz.sizeOf146
  v146 := Tryz.zeroValue146
  g1 := by kernel_rfl }
def Tryz.lays105_ren : Go.Shelf.Ren := ⟨fun | 105 => 119 | 212 => 145 | 99 => 146 | 165 => 147 | 166 => 117 | 170 => 148 | 169 => 120 | 263 => 170 | 264 => 171 | 206 => 172 | 240 => 143 | 241 => 173 | 276 => 168 | 277 => 194 | n => n, fun | 9 => 9 | 3 => 3 | 4 => 4 | 20 => 20 | 0 => 0 | 46 => 120 | 109 => 121 | 5 => 5 | 72 => 98 | 76 => 102 | 51 => 145 | 146 => 146 | 53 => 90 | 148 => 148 | 70 => 96 | 37 => 38 | 75 => 100 | 127 => 126 | 164 => 142 | 80 => 105 | n => n, fun | n => n⟩
theorem Tryz.lays105 : Go.Proofs.Lays.n105 Tryz.prog Tryz.lays105_ren := {
  mixed := by kernel_rfl
  f99 := Tryz.func146.trans (congrArg some (by kernel_rfl))
  f105 := Tryz.func119.trans (congrArg some (by kernel_rfl))
  f165 := Tryz.func147.trans (congrArg some (by kernel_rfl))
  f166 := Tryz.func117.trans (congrArg some (by kernel_rfl))
  f169 := Tryz.func120.trans (congrArg some (by kernel_rfl))
  f170 := Tryz.func148.trans (congrArg some (by kernel_rfl))
  f206 := Tryz.func172.trans (congrArg some (by kernel_rfl))
  f212 := Tryz.func145.trans (congrArg some (by kernel_rfl))
  f240 := Tryz.func143.trans (congrArg some (by kernel_rfl))
  f241 := Tryz.func173.trans (congrArg some (by kernel_rfl))
  f263 := Tryz.func170.trans (congrArg some (by kernel_rfl))
  f264 := Tryz.func171.trans (congrArg some (by kernel_rfl))
  f276 := Tryz.func168.trans (congrArg some (by kernel_rfl))
  f277 := Tryz.func194.trans (congrArg some (by kernel_rfl))
  t0 := Tryz.underlying0
  a0 := Tryz.isAgg0
  z0 := Tryz.sizeOf0
  v0 := Tryz.zeroValue0
  t3 := Tryz.underlying3
  a3 := Tryz.isAgg3
  z3 := Tryz.sizeOf3
  v3 := Tryz.zeroValue3
  t4 := Tryz.underlying4
  a4 := Tryz.isAgg4
  z4 := Tryz.sizeOf4
  v4 := Tryz.zeroValue4
  t5 := Tryz.underlying5
  a5 := Tryz.isAgg5
  z5 := Tryz.sizeOf5
  v5 := Tryz.zeroValue5
  t9 := Tryz.underlying9
  a9 := Tryz.isAgg9
  z9 := Tryz.sizeOf9
  v9 := Tryz.zeroValue9
  t20 := Tryz.underlying20
  a20 := Tryz.isAgg20
  z20 := Tryz.sizeOf20
  v20 := Tryz.zeroValue20
  t37 := Tryz.underlying38
  a37 := Tryz.isAgg38
  z37 := Tryz.sizeOf38
  v37 := Tryz.zeroValue38
  t46 := Tryz.underlying120
  a46 := Tryz.isAgg120
  z46 := Tryz.sizeOf120
  v46 := Tryz.zeroValue120
  t51 := Tryz.underlying145
  a51 := Tryz.isAgg145
  z51 := Tryz.sizeOf145
  v51 := Tryz.zeroValue145
  t53 := Tryz.underlying90
  a53 := Tryz.isAgg90
  z53 := Tryz.sizeOf90
  v53 := Tryz.zeroValue90
  t70 := Tryz.underlying96
  a70 := Tryz.isAgg96
  z70 := Tryz.sizeOf96
  v70 := Tryz.zeroValue96
  t72 := Tryz.underlying98
  a72 := Tryz.isAgg98
  z72 := Tryz.sizeOf98
  v72 := Tryz.zeroValue98
  t75 := Tryz.underlying100
  a75 := Tryz.isAgg100
  z75 := Tryz.sizeOf100
  v75 := Tryz.zeroValue100
  t76 := Tryz.underlying102
  a76 := Tryz.isAgg102
  z76 := Tryz.sizeOf102
  v76 := Tryz.zeroValue102
  t109 := Tryz.underlying121
  a109 := Tryz.isAgg121
  z109 := Tryz.sizeOf121
  v109 := Tryz.zeroValue121
  t127 := Tryz.underlying126
  a127 := Tryz.isAgg126
  z127 := Tryz.sizeOf126
  v127 := Tryz.zeroValue126
  t146 := Tryz.underlying146
  a146 := Tryz.isAgg146
  z146 := Tryz.sizeOf146
  v146 := Tryz.zeroValue146
  t148 := Tryz.underlying148
  a148 := Tryz.isAgg148
  z148 := Tryz.sizeOf148
  v148 := Tryz.zeroValue148
  t164 := Tryz.underlying142
  a164 := Tryz.isAgg142
  z164 := Tryz.sizeOf142
  v164 := Tryz.zeroValue142 }
theorem Tryz.Builder_Extra_105 : Builder.Extra Tryz.prog Tryz.lays105_ren := {
  sizeBuilder := by kernel_rfl
  liesBuilder := by kernel_rfl
  t5 := Tryz.underlying5
  a5 := Tryz.isAgg5
  z5 := Tryz.sizeOf5
  v5 := Tryz.zeroValue5
  infoByte := by kernel_rfl
  cellsByte := by kernel_rfl
  sizeByte := by kernel_rfl
  neB5 := by decide }
def Tryz.growB_ren : Go.Shelf.Ren := ⟨fun | 4 => 126 | n => n, fun | 22 => 38 | 25 => 5 | 3 => 3 | 4 => 4 | 9 => 9 | 20 => 20 | 0 => 0 | n => n, fun | n => n⟩
theorem Tryz.growB : Go.Proofs.Lays8.n4 Tryz.prog Tryz.growB_ren := {
  mixed := by kernel_rfl
  f4 := ⟨Tryz.f126.name, by decide, Tryz.func126.trans (congrArg some (by kernel_rfl))⟩
  t0 := Tryz.underlying0
  a0 := Tryz.isAgg0
  z0 := Tryz.sizeOf0
  v0 := Tryz.zeroValue0
  t3 := Tryz.underlying3
  a3 := Tryz.isAgg3
  z3 := Tryz.sizeOf3
  v3 := Tryz.zeroValue3
  t4 := Tryz.underlying4
  a4 := Tryz.isAgg4
  z4 := Tryz.sizeOf4
  v4 := Tryz.zeroValue4
  t9 := Tryz.underlying9
  a9 := Tryz.isAgg9
  z9 := Tryz.sizeOf9
  v9 := Tryz.zeroValue9
  t20 := Tryz.underlying20
  a20 := Tryz.isAgg20
  z20 := Tryz.sizeOf20
  v20 := Tryz.zeroValue20
  t22 := Tryz.underlying38
  a22 := Tryz.isAgg38
  z22 := Tryz.sizeOf38
  v22 := Tryz.zeroValue38 }
end Go.Proofs

/- integer.Text of any sign, strings.Cut at one byte, strconv.Atoi. -/
namespace Go.Proofs
open Go.Shelf Go.RowKit

theorem bldBelowF {T e : TypeId} {B b : Nat} {p : Value} {bs : List Value} {W W' : World} (h : Lib.BuilderAtF T e B b p bs W) (hb : Below W.heap.size W W') : Lib.BuilderAtF T e B b p bs W' := by
  have hlt := h.lt
  obtain ⟨hB, v, hv, hown, hne⟩ := h
  exact ⟨hB, v, (hb.block b hlt).trans hv, hown.kept (row := none) ⟨hb.os, hb.tape, hb.output, hb.size, fun k hk _ => hb.block k hk⟩ (Classical.em _), hne⟩
theorem bldBelow {T e : TypeId} {B b : Nat} {bs : List Value} {W W' : World} (h : Lib.IsBuilderF T e B b bs W) (hb : Below W.heap.size W W') : Lib.IsBuilderF T e B b bs W' :=
  h.elim (fun x => .inl (bldBelowF x hb)) (fun x => .inr (bldBelowF x hb))
theorem belowGrow (w : World) (k : Nat) (os : Array Obj) : Below w.heap.size w (Sort.grow (w.drewN k) os) := Lib.below_grow _ w (Nat.le_refl _) k os
theorem Tryz.lays166x : Lays.n166 Tryz.prog Tryz.lays105_ren := { Tryz.lays105 with }

theorem itoaC (n : Int) (h0 : -9223372036854775808 ≤ n) (h1 : n ≤ 9223372036854775807) (w : World) (htab : Lib.TabIs Tryz.prog w "internal/strconv.uint64pow10" .u64 Lib.pow10Tab) :
    Calls Tryz.prog 118 #[.int .i64 n] w fun e w' => e = .returned (.string ⟨(Lib.itoa n).toArray⟩) ∧ ∃ k os, w' = Sort.grow (w.drewN k) os := Any.strconv_Itoa Tryz.laysM171 n h0 h1 w htab
theorem repeatC (s : ByteArray) (c : Nat) (w : World) (hc : c ≤ 9223372036854775807) (hlen : s.size * c ≤ 140737488355328) :
    Calls Tryz.prog 119 #[.string s, .int .i64 c] w fun e w' => e = .returned (.string ⟨(Lib.repeatL s.data.toList c).toArray⟩) ∧ Below w.heap.size w w' := Any.strings_Repeat Tryz.lays105 Tryz.Builder_Extra_105 s c w hc hlen
theorem stringC (B b : Nat) (l : List UInt8) (w : World) (h : Lib.IsBuilderF 98 5 B b (Lib.byteCells l) w) (hBw : B ≤ w.heap.size) :
    Calls Tryz.prog 120 #[.pointer (some ⟨b, 0, none⟩)] w fun e w' => e = .returned (.string ⟨l.toArray⟩) ∧ (Lib.IsBuilderF 98 5 B b (Lib.byteCells l) w' ∧ Below B w w' ∧ Lib.OthersKept 5 (some b) w w') := Any.Builder_String_any_k Tryz.lays169 Tryz.Builder_Extra_169 B b l w h hBw
theorem writeStr (B b : Nat) (bs : List Value) (t : ByteArray) (w : World) (h : Lib.IsBuilderF 98 5 B b bs w) (hlen : bs.length + t.size ≤ 140737488355328) (hBw : B ≤ w.heap.size) :
    Calls Tryz.prog 117 #[.pointer (some ⟨b, 0, none⟩), .string t] w fun e w' => e = .returned (.tuple #[.int .i64 t.size, .nilIface]) ∧ (Lib.BuilderAtF 98 5 B b (.pointer (some ⟨b, 0, none⟩)) (bs ++ Lib.strCells t) w' ∧ Below B w w' ∧ Lib.OthersKept 5 (some b) w w') :=
  Any.Builder_WriteString_k Tryz.lays166x Tryz.Builder_Extra_105 B b bs t w h hlen hBw

def Tryz.lays167x_ren : Go.Shelf.Ren := ⟨fun | 167 => 116 | n => Tryz.lays105_ren.f n, Tryz.lays105_ren.t, Tryz.lays105_ren.g⟩
theorem Tryz.lays167x : Lays.n167 Tryz.prog Tryz.lays167x_ren := { Tryz.lays105 with
  f167 := Tryz.func116.trans (congrArg some (by kernel_rfl)) }
theorem Tryz.Builder_Extra_167x : Builder.Extra Tryz.prog Tryz.lays167x_ren := {
  sizeBuilder := by kernel_rfl
  liesBuilder := by kernel_rfl
  t5 := Tryz.underlying5
  a5 := Tryz.isAgg5
  z5 := Tryz.sizeOf5
  v5 := Tryz.zeroValue5
  infoByte := by kernel_rfl
  cellsByte := by kernel_rfl
  sizeByte := by kernel_rfl
  neB5 := by decide }
theorem writeB (B b : Nat) (bs : List Value) (c : Int) (w : World) (h : Lib.IsBuilderF 98 5 B b bs w) (hlen : bs.length + 1 ≤ 140737488355328) (hBw : B ≤ w.heap.size) :
    Calls Tryz.prog 116 #[.pointer (some ⟨b, 0, none⟩), .int .u8 c] w fun e w' => e = .returned .nilIface ∧ (Lib.BuilderAtF 98 5 B b (.pointer (some ⟨b, 0, none⟩)) (bs ++ [.int .u8 c]) w' ∧ Below B w w' ∧ Lib.OthersKept 5 (some b) w w') :=
  Any.Builder_WriteByte_k Tryz.lays167x Tryz.Builder_Extra_167x B b bs c w h hlen hBw
theorem atoiC (s : ByteArray) (n : Int) (hl : s.size ≤ 18) (h : Lib.atoi s.data.toList = some n) (w : World) :
    Calls Tryz.prog 125 #[.string s] w fun e w' => e = .returned (.tuple #[.int .i64 n, .nilIface]) ∧ Below w.heap.size w w' :=
  (Any.strconv_Atoi Tryz.lays172 s n hl h w).mono (by rintro e w' ⟨rfl, t, rfl⟩; exact ⟨rfl, Lib.bytesWorld_below _ _ _⟩)
/-- A digit's nine places. -/
def pad9 (d : Int) : List UInt8 := Lib.repeatL [48] (9 - (Lib.itoa d).length) ++ Lib.itoa d
/-- The digits below the j-th. -/
def restL (f : Nat → Int) : Nat → List UInt8
  | 0 => []
  | j + 1 => pad9 (f j) ++ restL f j
theorem nDig_le : ∀ (k u : Nat), u < 10 ^ (k + 1) → Lib.nDigits u ≤ k + 1
  | 0, u, h => by rw [Lib.nDigits_small (by simpa using h)]; exact Nat.le_refl _
  | k + 1, u, h => by
    by_cases h1 : u < 10
    · rw [Lib.nDigits_small h1]; omega
    · rw [Lib.nDigits_big h1]
      have := nDig_le k (u / 10) (by rw [Nat.pow_succ] at h; omega)
      omega
theorem itoa_len {d : Int} (h : 0 ≤ d ∧ d < 1000000000) : (Lib.itoa d).length ≤ 9 := by
  unfold Lib.itoa
  rw [if_neg (by omega), Lib.decDigits_length]
  exact nDig_le 8 _ (by have : (10 : Nat) ^ (8 + 1) = 1000000000 := by decide
                        omega)
theorem pad9_len {d : Int} (h : 0 ≤ d ∧ d < 1000000000) : (pad9 d).length = 9 := by
  have := itoa_len h
  unfold pad9
  rw [List.length_append, Lib.repeatL_length]
  simp; omega

theorem restL_len {f : Nat → Int} (hd : ∀ i, 0 ≤ f i ∧ f i < 1000000000) : ∀ j, (restL f j).length = 9 * j
  | 0 => rfl
  | j + 1 => by rw [restL, List.length_append, pad9_len (hd j), restL_len hd j]; omega
theorem bld_sz {T e : TypeId} {B b : Nat} {bs : List Value} {W : World} (h : Lib.IsBuilderF T e B b bs W) : b < W.heap.size := h.elim (fun x => x.lt) (fun x => x.lt)

set_option maxHeartbeats 4000000 in
set_option maxRecDepth 1000000 in
theorem text_walk (f : Nat → Int) (n : Nat) (T : List UInt8) (hT : Lib.itoa (f n) ++ restL f n = T) (hn : n ≤ 1000000000) (hd : ∀ i, 0 ≤ f i ∧ f i < 1000000000) (ad : Addr) (cap : Nat) (w : World) (hc : ∀ i, i ≤ n → w.cell? (ad.add i) = some (.int .i64 (f i))) (hbw : ad.block < w.heap.size)
    (htab : Lib.TabBelow Tryz.prog w.heap.size w "internal/strconv.uint64pow10" .u64 Lib.pow10Tab) :
    Calls Tryz.prog 76 #[.agg #[.bool false, .slice (some ad) ((n + 1 : Nat)) cap]] w fun e w' => e = .returned (.string ⟨T.toArray⟩) ∧ Below w.heap.size w w' := by
  have cellB : ∀ W, Below w.heap.size w W → ∀ i, i ≤ n → W.cell? (ad.add i) = some (.int .i64 (f i)) := fun W hb i hi => by
    rw [World.cell?_of_block (w := w) (by
      have e : (ad.add i).block = ad.block := by unfold Addr.add; split <;> rfl
      rw [e]; exact hb.block _ hbw)]
    exact hc i hi
  have A1 : ∀ o1 o2, Below w.heap.size w ((w.alloc o1).alloc o2) := fun o1 o2 => ((Below.refl _ w).alloc (Nat.le_refl _) _).alloc (by simp) _
  have c1 : ∀ o1 o2, ((w.alloc o1).alloc o2).cell? (ad.add n) = some (.int .i64 (f n)) := fun o1 o2 => cellB _ (A1 o1 o2) _ (Nat.le_refl _)
  have hfn := hd n
  go_enter Tryz.func76, Tryz.ntmps76
  go_wp2_with (go_at_call 118; refine (itoaC (f n) (by omega) (by omega) _ ((htab.on (A1 _ _)).here)).mono ?_)
  rintro e w1 ⟨rfl, k, os, hw1⟩
  have I1 : Lib.IsBuilderF 98 5 (w.heap.size + 1) (w.heap.size + 1) [] w1 := by
    rw [hw1]
    refine bldBelow ?_ (belowGrow _ _ _)
    have := Lib.IsBuilderF.of (Lib.fresh_isBuilder 98 5 (w.alloc (Obj.cells #[.bool false, .slice (some ad) (n + 1) cap] 24)))
    simpa using this
  have B1 : Below w.heap.size w w1 := (A1 _ _).trans (by rw [hw1]; exact (belowGrow _ k os).mono (by simp; omega))
  have D1 : w1.cell? ⟨w.heap.size, 1, none⟩ = some (.slice (some ad) (n + 1) cap) := by
    have hb : w1.heap[w.heap.size]? = some (Obj.cells #[.bool false, .slice (some ad) (n + 1) cap] 24) := by
      rw [hw1, Lib.heap_grow_old _ _ _ _ (by simp; omega), Lib.alloc_old (w.alloc _) _ _ (by simp)]
      exact Array.getElem?_push_size
    rw [Lib.cell_of_heap hb]; rfl
  have hlen0 := itoa_len hfn
  have hz1 := bld_sz I1
  have hs0 : (⟨(Lib.itoa (f n)).toArray⟩ : ByteArray).size = (Lib.itoa (f n)).length := by
    show (Lib.itoa (f n)).toArray.size = _
    simp
  have hs1 : ([] : List Value).length + (⟨(Lib.itoa (f n)).toArray⟩ : ByteArray).size ≤ 140737488355328 := by rw [hs0, List.length_nil]; omega
  clear hw1
  go_wp2_with (go_at_call 117; refine (writeStr (w.heap.size + 1) (w.heap.size + 1) [] ⟨(Lib.itoa (f n)).toArray⟩ w1 I1 hs1 (by omega)).mono ?_)
  rintro e w2 ⟨rfl, I2, b2, -⟩
  have D2 : w2.cell? ⟨w.heap.size, 1, none⟩ = some (.slice (some ad) (n + 1) cap) := by
    rw [World.cell?_of_block (w := w1) (b2.block _ (Nat.lt_succ_self _))]; exact D1
  have B2 : Below w.heap.size w w2 := B1.trans (b2.mono (Nat.le_succ _))
  have hTl : T.length ≤ 9 + 9 * n := by rw [← hT, List.length_append, restL_len hd]; omega
  go_wp2
  go_loopw [4] (fun i wr => ∃ (j : Nat) (acc : List UInt8), i = .int .i64 ((j : Int) - 1) ∧ j ≤ n ∧ Lib.IsBuilderF 98 5 (w.heap.size + 1) (w.heap.size + 1) (Lib.byteCells acc) wr ∧ Below (w.heap.size + 1) w2 wr ∧ acc ++ restL f j = T) (fun i _ => (intOf i + 1).toNat)
  case atStart =>
    refine ⟨n, Lib.itoa (f n), by congr 1; omega, Nat.le_refl _, Or.inr ?_, Below.refl _ _, hT⟩
    exact I2
  case round =>
    obtain ⟨j, acc, rfl, hj, hI, hb, hacc⟩ := hrel
    have hB3 : Below w.heap.size w wr := B2.trans (hb.mono (Nat.le_succ _))
    have hzr := bld_sz hI
    have hal : acc.length ≤ T.length := by rw [← hacc, List.length_append]; omega
    by_cases hj0 : j = 0
    · subst hj0
      rw [restL, List.append_nil] at hacc
      subst hacc
      have e0 : decide (((0 : Nat) : Int) - 1 ≥ 0) = false := rfl
      go_wp2_with (go_at_call 120; refine (stringC (w.heap.size + 1) (w.heap.size + 1) acc wr hI (by omega)).mono ?_)
      rintro e W1 ⟨rfl, _, b3, _⟩
      go_wp2
      go_ret
      exact ⟨rfl, hB3.trans (b3.mono (Nat.le_succ _))⟩
    · obtain ⟨i, rfl⟩ : ∃ i, j = i + 1 := ⟨j - 1, by omega⟩
      have e1 : ((i + 1 : Nat) : Int) - 1 = (i : Int) := by omega
      rw [e1]
      have hfi := hd i
      have hli := itoa_len hfi
      have Dr : wr.cell? ⟨w.heap.size, 1, none⟩ = some (.slice (some ad) (n + 1) cap) := by
        rw [World.cell?_of_block (w := w2) (hb.block _ (Nat.lt_succ_self _))]; exact D2
      have Cr := cellB wr hB3 i (by omega)
      have hi1 : i < n + 1 := by omega
      go_wp2_with (go_at_call 118; refine (itoaC (f i) (by omega) (by omega) wr ((htab.on hB3).here)).mono ?_)
      rintro e w3 ⟨rfl, k3, os3, hw3⟩
      have hb3 : Below wr.heap.size wr w3 := by rw [hw3]; exact belowGrow _ _ _
      clear hw3
      have I3 := bldBelow hI hb3
      have e9 : (9 : Int) - ((Lib.itoa (f i)).length : Int) = ((9 - (Lib.itoa (f i)).length : Nat) : Int) := by omega
      have hr1 : (⟨#[48]⟩ : ByteArray).size * (9 - (Lib.itoa (f i)).length) ≤ 140737488355328 := by
        show 1 * (9 - (Lib.itoa (f i)).length) ≤ _
        omega
      go_wp2_with (go_at_call 119; refine (repeatC ⟨#[48]⟩ (9 - (Lib.itoa (f i)).length) w3 (by omega) hr1).mono ?_)
      intro e w4 he b4
      subst he
      have I4 := bldBelow I3 b4
      have hz4 := bld_sz I4
      obtain ⟨sA, hA⟩ : ∃ sA : ByteArray, (⟨(Lib.repeatL [48] (9 - (Lib.itoa (f i)).length)).toArray⟩ : ByteArray) = sA := ⟨_, rfl⟩
      obtain ⟨sB, hB⟩ : ∃ sB : ByteArray, (⟨(Lib.itoa (f i)).toArray⟩ : ByteArray) = sB := ⟨_, rfl⟩
      have hA1 : sA.size = 9 - (Lib.itoa (f i)).length := by
        rw [← hA]
        show (Lib.repeatL [48] (9 - (Lib.itoa (f i)).length)).toArray.size = _
        rw [List.size_toArray, Lib.repeatL_length]; simp
      have hB1 : sB.size = (Lib.itoa (f i)).length := by
        rw [← hB]
        show (Lib.itoa (f i)).toArray.size = _
        simp
      have hS : (sA ++ sB).size = 9 := by rw [ByteArray.size_append, hA1, hB1]; omega
      have hcells : Lib.byteCells acc ++ Lib.strCells (sA ++ sB) = Lib.byteCells (acc ++ pad9 (f i)) := by
        rw [Lib.byteCells_append, Lib.strCells_eq, ← hA, ← hB, pad9]
        congr 2
      rw [hA, hB]
      have hw5 : (Lib.byteCells acc).length + (sA ++ sB).size ≤ 140737488355328 := by rw [Lib.byteCells_length, hS]; omega
      have W5 := writeStr (w.heap.size + 1) (w.heap.size + 1) (Lib.byteCells acc) (sA ++ sB) w4 I4 hw5 (by omega)
      rw [hcells] at W5
      clear hA hB hcells hw5
      go_wp2_with (go_at_call 117; refine W5.mono ?_)
      rintro e w5 ⟨rfl, I5, b5, -⟩
      go_wp2
      go_roundw
      case rel =>
        have h1 : w3.heap.size ≤ w4.heap.size := b4.size
        have h2 : wr.heap.size ≤ w3.heap.size := hb3.size
        exact ⟨i, acc ++ pad9 (f i), by go_num, by omega, Or.inr I5, hb.trans ((hb3.mono (by omega)).trans ((b4.mono (by omega)).trans b5)), by rw [List.append_assoc]; exact hacc⟩
      case measure => simp [intOf]
set_option maxHeartbeats 4000000 in
set_option maxRecDepth 1000000 in
theorem text_walkN (f : Nat → Int) (n : Nat) (T : List UInt8) (hT : 45 :: (Lib.itoa (f n) ++ restL f n) = T) (hn : n ≤ 1000000000) (hd : ∀ i, 0 ≤ f i ∧ f i < 1000000000) (ad : Addr) (cap : Nat) (w : World) (hc : ∀ i, i ≤ n → w.cell? (ad.add i) = some (.int .i64 (f i))) (hbw : ad.block < w.heap.size)
    (htab : Lib.TabBelow Tryz.prog w.heap.size w "internal/strconv.uint64pow10" .u64 Lib.pow10Tab) :
    Calls Tryz.prog 76 #[.agg #[.bool true, .slice (some ad) ((n + 1 : Nat)) cap]] w fun e w' => e = .returned (.string ⟨T.toArray⟩) ∧ Below w.heap.size w w' := by
  have cellB : ∀ W, Below w.heap.size w W → ∀ i, i ≤ n → W.cell? (ad.add i) = some (.int .i64 (f i)) := fun W hb i hi => by
    rw [World.cell?_of_block (w := w) (by
      have e : (ad.add i).block = ad.block := by unfold Addr.add; split <;> rfl
      rw [e]; exact hb.block _ hbw)]
    exact hc i hi
  have A1 : ∀ o1 o2, Below w.heap.size w ((w.alloc o1).alloc o2) := fun o1 o2 => ((Below.refl _ w).alloc (Nat.le_refl _) _).alloc (by simp) _
  have c1 : ∀ o1 o2, ((w.alloc o1).alloc o2).cell? (ad.add n) = some (.int .i64 (f n)) := fun o1 o2 => cellB _ (A1 o1 o2) _ (Nat.le_refl _)
  have hfn := hd n
  go_enter Tryz.func76, Tryz.ntmps76
  have IA : Lib.IsBuilderF 98 5 (w.heap.size + 1) (w.heap.size + 1) [] ((w.alloc (Obj.cells #[.bool true, .slice (some ad) (n + 1) cap] 24)).alloc (Obj.cells #[.pointer none, .slice none 0 0] 98)) := by
    have := Lib.IsBuilderF.of (Lib.fresh_isBuilder 98 5 (w.alloc (Obj.cells #[.bool true, .slice (some ad) (n + 1) cap] 24)))
    simpa using this
  go_wp2_with (go_at_call 116; refine (writeB (w.heap.size + 1) (w.heap.size + 1) [] 45 _ IA (by decide) (by simp)).mono ?_)
  rintro e w0 ⟨rfl, I0, b0, -⟩
  have B0 : Below w.heap.size w w0 := (A1 _ _).trans (b0.mono (Nat.le_succ _))
  have D0 : w0.cell? ⟨w.heap.size, 1, none⟩ = some (.slice (some ad) (n + 1) cap) := by
    rw [World.cell?_of_block (w := (w.alloc (Obj.cells #[.bool true, .slice (some ad) (n + 1) cap] 24)).alloc (Obj.cells #[.pointer none, .slice none 0 0] 98)) (b0.block _ (Nat.lt_succ_self _))]
    have hb : ((w.alloc (Obj.cells #[.bool true, .slice (some ad) (n + 1) cap] 24)).alloc (Obj.cells #[.pointer none, .slice none 0 0] 98)).heap[w.heap.size]? = some (Obj.cells #[.bool true, .slice (some ad) (n + 1) cap] 24) := by
      rw [Lib.alloc_old (w.alloc _) _ _ (by simp)]
      exact Array.getElem?_push_size
    rw [Lib.cell_of_heap hb]; rfl
  have c0 := cellB _ B0 n (Nat.le_refl _)
  have hz0 : w.heap.size < w0.heap.size := by
    have h1 := b0.size
    simp at h1
    omega
  go_wp2_with (go_at_call 118; refine (itoaC (f n) (by omega) (by omega) _ ((htab.on B0).here)).mono ?_)
  rintro e w1 ⟨rfl, k, os, hw1⟩
  have b1 : Below w0.heap.size w0 w1 := by rw [hw1]; exact belowGrow _ _ _
  have I1 : Lib.IsBuilderF 98 5 (w.heap.size + 1) (w.heap.size + 1) (Lib.byteCells [45]) w1 := bldBelow (Or.inr I0) b1
  have B1 : Below w.heap.size w w1 := B0.trans (b1.mono B0.size)
  have D1 : w1.cell? ⟨w.heap.size, 1, none⟩ = some (.slice (some ad) (n + 1) cap) := by
    rw [World.cell?_of_block (w := w0) (b1.block _ hz0)]
    exact D0
  have hlen0 := itoa_len hfn
  have hz1 := bld_sz I1
  have hs0 : (⟨(Lib.itoa (f n)).toArray⟩ : ByteArray).size = (Lib.itoa (f n)).length := by
    show (Lib.itoa (f n)).toArray.size = _
    simp
  have hs1 : (Lib.byteCells [45]).length + (⟨(Lib.itoa (f n)).toArray⟩ : ByteArray).size ≤ 140737488355328 := by rw [hs0, Lib.byteCells_length]; simp only [List.length_cons, List.length_nil]; omega
  clear hw1
  go_wp2_with (go_at_call 117; refine (writeStr (w.heap.size + 1) (w.heap.size + 1) (Lib.byteCells [45]) ⟨(Lib.itoa (f n)).toArray⟩ w1 I1 hs1 (by omega)).mono ?_)
  rintro e w2 ⟨rfl, I2, b2, -⟩
  have D2 : w2.cell? ⟨w.heap.size, 1, none⟩ = some (.slice (some ad) (n + 1) cap) := by
    rw [World.cell?_of_block (w := w1) (b2.block _ (Nat.lt_succ_self _))]; exact D1
  have B2 : Below w.heap.size w w2 := B1.trans (b2.mono (Nat.le_succ _))
  have hTl : T.length ≤ 10 + 9 * n := by rw [← hT, List.length_cons, List.length_append, restL_len hd]; omega
  go_wp2
  go_loopw [4] (fun i wr => ∃ (j : Nat) (acc : List UInt8), i = .int .i64 ((j : Int) - 1) ∧ j ≤ n ∧ Lib.IsBuilderF 98 5 (w.heap.size + 1) (w.heap.size + 1) (Lib.byteCells acc) wr ∧ Below (w.heap.size + 1) w2 wr ∧ acc ++ restL f j = T) (fun i _ => (intOf i + 1).toNat)
  case atStart =>
    refine ⟨n, 45 :: Lib.itoa (f n), by congr 1; omega, Nat.le_refl _, Or.inr ?_, Below.refl _ _, hT⟩
    have e45 : Lib.byteCells (45 :: Lib.itoa (f n)) = Lib.byteCells [45] ++ Lib.strCells ⟨(Lib.itoa (f n)).toArray⟩ := by
      rw [show (45 :: Lib.itoa (f n)) = [45] ++ Lib.itoa (f n) from rfl, Lib.byteCells_append, Lib.strCells_eq]
    rw [e45]
    exact I2
  case round =>
    obtain ⟨j, acc, rfl, hj, hI, hb, hacc⟩ := hrel
    have hB3 : Below w.heap.size w wr := B2.trans (hb.mono (Nat.le_succ _))
    have hzr := bld_sz hI
    have hal : acc.length ≤ T.length := by rw [← hacc, List.length_append]; omega
    by_cases hj0 : j = 0
    · subst hj0
      rw [restL, List.append_nil] at hacc
      subst hacc
      have e0 : decide (((0 : Nat) : Int) - 1 ≥ 0) = false := rfl
      go_wp2_with (go_at_call 120; refine (stringC (w.heap.size + 1) (w.heap.size + 1) acc wr hI (by omega)).mono ?_)
      rintro e W1 ⟨rfl, _, b3, _⟩
      go_wp2
      go_ret
      exact ⟨rfl, hB3.trans (b3.mono (Nat.le_succ _))⟩
    · obtain ⟨i, rfl⟩ : ∃ i, j = i + 1 := ⟨j - 1, by omega⟩
      have e1 : ((i + 1 : Nat) : Int) - 1 = (i : Int) := by omega
      rw [e1]
      have hfi := hd i
      have hli := itoa_len hfi
      have Dr : wr.cell? ⟨w.heap.size, 1, none⟩ = some (.slice (some ad) (n + 1) cap) := by
        rw [World.cell?_of_block (w := w2) (hb.block _ (Nat.lt_succ_self _))]; exact D2
      have Cr := cellB wr hB3 i (by omega)
      have hi1 : i < n + 1 := by omega
      go_wp2_with (go_at_call 118; refine (itoaC (f i) (by omega) (by omega) wr ((htab.on hB3).here)).mono ?_)
      rintro e w3 ⟨rfl, k3, os3, hw3⟩
      have hb3 : Below wr.heap.size wr w3 := by rw [hw3]; exact belowGrow _ _ _
      clear hw3
      have I3 := bldBelow hI hb3
      have e9 : (9 : Int) - ((Lib.itoa (f i)).length : Int) = ((9 - (Lib.itoa (f i)).length : Nat) : Int) := by omega
      have hr1 : (⟨#[48]⟩ : ByteArray).size * (9 - (Lib.itoa (f i)).length) ≤ 140737488355328 := by
        show 1 * (9 - (Lib.itoa (f i)).length) ≤ _
        omega
      go_wp2_with (go_at_call 119; refine (repeatC ⟨#[48]⟩ (9 - (Lib.itoa (f i)).length) w3 (by omega) hr1).mono ?_)
      intro e w4 he b4
      subst he
      have I4 := bldBelow I3 b4
      have hz4 := bld_sz I4
      obtain ⟨sA, hA⟩ : ∃ sA : ByteArray, (⟨(Lib.repeatL [48] (9 - (Lib.itoa (f i)).length)).toArray⟩ : ByteArray) = sA := ⟨_, rfl⟩
      obtain ⟨sB, hB⟩ : ∃ sB : ByteArray, (⟨(Lib.itoa (f i)).toArray⟩ : ByteArray) = sB := ⟨_, rfl⟩
      have hA1 : sA.size = 9 - (Lib.itoa (f i)).length := by
        rw [← hA]
        show (Lib.repeatL [48] (9 - (Lib.itoa (f i)).length)).toArray.size = _
        rw [List.size_toArray, Lib.repeatL_length]; simp
      have hB1 : sB.size = (Lib.itoa (f i)).length := by
        rw [← hB]
        show (Lib.itoa (f i)).toArray.size = _
        simp
      have hS : (sA ++ sB).size = 9 := by rw [ByteArray.size_append, hA1, hB1]; omega
      have hcells : Lib.byteCells acc ++ Lib.strCells (sA ++ sB) = Lib.byteCells (acc ++ pad9 (f i)) := by
        rw [Lib.byteCells_append, Lib.strCells_eq, ← hA, ← hB, pad9]
        congr 2
      rw [hA, hB]
      have hw5 : (Lib.byteCells acc).length + (sA ++ sB).size ≤ 140737488355328 := by rw [Lib.byteCells_length, hS]; omega
      have W5 := writeStr (w.heap.size + 1) (w.heap.size + 1) (Lib.byteCells acc) (sA ++ sB) w4 I4 hw5 (by omega)
      rw [hcells] at W5
      clear hA hB hcells hw5
      go_wp2_with (go_at_call 117; refine W5.mono ?_)
      rintro e w5 ⟨rfl, I5, b5, -⟩
      go_wp2
      go_roundw
      case rel =>
        have h1 : w3.heap.size ≤ w4.heap.size := b4.size
        have h2 : wr.heap.size ≤ w3.heap.size := hb3.size
        exact ⟨i, acc ++ pad9 (f i), by go_num, by omega, Or.inr I5, hb.trans ((hb3.mono (by omega)).trans ((b4.mono (by omega)).trans b5)), by rw [List.append_assoc]; exact hacc⟩
      case measure => simp [intOf]

/-- What strings.Cut answers at '/'. -/
def cutL : List UInt8 → List UInt8 × List UInt8 × Bool
  | [] => ([], [], false)
  | b :: l => if b == 47 then ([], l, true) else (b :: (cutL l).1, (cutL l).2.1, (cutL l).2.2)
theorem cutL_at : ∀ l : List UInt8, (Lib.indexByte l 47 = -1 ∧ cutL l = (l, [], false)) ∨ ∃ i : Nat, Lib.indexByte l 47 = i ∧ i + 1 ≤ l.length ∧ cutL l = (l.take i, l.drop (i + 1), true)
  | [] => .inl ⟨rfl, rfl⟩
  | b :: l => by
    unfold Lib.indexByte cutL
    by_cases h : (b == 47) = true
    · rw [if_pos h, if_pos h]
      exact .inr ⟨0, rfl, by simp, by simp⟩
    · rw [if_neg h, if_neg h]
      rcases cutL_at l with ⟨h1, h2⟩ | ⟨i, h1, h2, h3⟩
      · left
        rw [h1, h2]
        exact ⟨rfl, rfl⟩
      · right
        refine ⟨i + 1, ?_, by simp; omega, ?_⟩
        · rw [h1, if_neg (by simp)]; omega
        · rw [h3]; simp
theorem cut_arr (s : ByteArray) : (Lib.indexByte s.data.toList 47 = -1 ∧ (⟨(cutL s.data.toList).1.toArray⟩ : ByteArray) = s ∧ (⟨(cutL s.data.toList).2.1.toArray⟩ : ByteArray) = ByteArray.empty ∧ (cutL s.data.toList).2.2 = false) ∨
    ∃ i : Nat, Lib.indexByte s.data.toList 47 = i ∧ i + 1 ≤ s.size ∧ (⟨(cutL s.data.toList).1.toArray⟩ : ByteArray) = s.extract 0 i ∧ (⟨(cutL s.data.toList).2.1.toArray⟩ : ByteArray) = s.extract (i + 1) s.size ∧ (cutL s.data.toList).2.2 = true := by
  rcases cutL_at s.data.toList with ⟨h1, h2⟩ | ⟨i, h1, h2, h3⟩
  · left
    rw [h2]
    exact ⟨h1, Lib.mk_data s, rfl, rfl⟩
  · right
    rw [← Lib.size_eq] at h2
    rw [h3]
    refine ⟨i, h1, h2, ?_, ?_, rfl⟩
    · rw [Lib.extract_eq]; simp
    · have ht : List.take (s.size - (i + 1)) (List.drop (i + 1) s.data.toList) = List.drop (i + 1) s.data.toList := List.take_of_length_le (by rw [List.length_drop, ← Lib.size_eq]; exact Nat.le_refl _)
      rw [Lib.extract_eq, ht]

set_option maxHeartbeats 4000000 in
set_option maxRecDepth 1000000 in
theorem cutOne (s : ByteArray) (hs : s.size < 4294967281) (w : World) :
    Calls Tryz.prog 122 #[.string s, .string ⟨#[47]⟩] w fun e w' => e = .returned (.tuple #[.string ⟨(cutL s.data.toList).1.toArray⟩, .string ⟨(cutL s.data.toList).2.1.toArray⟩, .bool (cutL s.data.toList).2.2]) ∧ Below w.heap.size w w' := by
  have hgo := cut_arr s
  have mixed : Tryz.prog.follows .mixedOrders = true := Tryz.lays219.mixed
  rcases hgo with ⟨hix, e1, e2, e3⟩ | ⟨i, hix, hroom, e1, e2, e3⟩
  · rw [e1, e2, e3]
    go_enter Tryz.func122, Tryz.ntmps122
    go_wp2_with (go_at_call 149; refine (Any.stringslite_Index_one Tryz.lays219 s 47 w).mono ?_; rintro e w' ⟨rfl, rfl⟩; rw [hix])
    go_ret3
    exact ⟨rfl, Below.refl _ _⟩
  · rw [e1, e2, e3]
    have c1 : (0 : Int) ≤ ↑i := by omega
    have c2 : (↑i : Int) ≤ ↑s.size := by omega
    have c3 : (0 : Int) ≤ ↑i + 1 := by omega
    have c4 : (↑i + 1 : Int) ≤ ↑s.size := by omega
    go_enter Tryz.func122, Tryz.ntmps122
    go_wp2_with (go_at_call 149; refine (Any.stringslite_Index_one Tryz.lays219 s 47 w).mono ?_; rintro e w' ⟨rfl, rfl⟩; rw [hix])
    go_region_o
    go_wp2
    go_ret3
    exact ⟨rfl, (Below.refl _ _).drew⟩
set_option maxHeartbeats 4000000 in
set_option maxRecDepth 1000000 in
theorem cutC (s : ByteArray) (hs : s.size < 4294967281) (w : World) :
    Calls Tryz.prog 80 #[.string s, .string ⟨#[47]⟩] w fun e w' => e = .returned (.tuple #[.string ⟨(cutL s.data.toList).1.toArray⟩, .string ⟨(cutL s.data.toList).2.1.toArray⟩, .bool (cutL s.data.toList).2.2]) ∧ Below w.heap.size w w' := by
  have mixed : Tryz.prog.follows .mixedOrders = true := Tryz.lays219.mixed
  go_enter Tryz.func80, Tryz.ntmps80
  go_wp2_with (go_at_call 122; refine (cutOne s hs _).mono ?_)
  rintro e w' ⟨rfl, hb⟩
  go_wp2
  go_ret3
  exact ⟨rfl, hb⟩
set_option maxHeartbeats 4000000 in
set_option maxRecDepth 1000000 in
theorem text0 (b : Bool) (cap : Nat) (a : Option Addr) (w : World) : Calls Tryz.prog 76 #[.agg #[.bool b, .slice a 0 cap]] w fun e w' => e = .returned (.string ⟨#[48]⟩) ∧ Below w.heap.size w w' := by
  have A1 : ∀ o1, Below w.heap.size w (w.alloc o1) := fun o1 => (Below.refl _ w).alloc (Nat.le_refl _) _
  go_enter Tryz.func76, Tryz.ntmps76
  go_wp2
  go_ret
  exact ⟨rfl, A1 _⟩
theorem growC (n : Nat) (h0 : 0 < n) (hn : n ≤ 1000000000000) (w : World) :
    Calls Tryz.prog 126 #[.slice none 0 0, .int .i64 n] w fun e w' => ∃ (cap : Nat) (cells : Array Value), e = .returned (.slice (some ⟨w.heap.size, 0, none⟩) 0 cap) ∧ w' = w.drew.alloc (.cells cells 5) ∧ cap ≤ cells.size := by
  obtain ⟨i0, hi, hz0, hz1, hz2⟩ := info_parts (P := Tryz.prog) (e := 5) (z := .int .u8 0) (size := 1) (bytes := 1) Tryz.Builder_Extra_105.infoByte
  have h := Any8.slices_Grow_grow Tryz.growB i0 (.int .u8 0) hi hz0 (by omega) none 0 0 n [] w (by omega) (by omega) (by rw [hz2]; omega) (by omega) (by simp) (fun _ => rfl) (fun _ h => by cases h)
  refine h.mono ?_
  rintro e w' ⟨rfl, rfl⟩
  refine ⟨_, _, rfl, rfl, ?_⟩
  have hg := grownCap_ge w (0 + n) 0 (Tryz.growB_ren.t 25)
  have hz : ∀ k, (Builtin.zeroCells (Value.cells (.int .u8 0)) k).size = k := fun k => by simp [Builtin.zeroCells, Value.cells]
  rw [Array.size_append, Array.size_append, hz, hz]
  simp
  omega
end Go.Proofs

