/- Part 3 of the proof: a small machine, its soundness against the model, and what the program's functions compute on it. -/
import Derived.Test.YtecihganhcapoaaGreatDoorM2
import Derived.RangeFuncLeaves
import Derived.Test.YtecihganhcapoaaGreatDoorM0
set_option linter.unusedVariables false
set_option linter.unusedSimpArgs false
/- Loops over functions, part 2: the statement. -/
namespace Go.AM
open Go Go.RowKit

theorem FOk.inRound {F : Fence} (h : FOk F) (l : Nat) : FOk (F.inRound l) := ⟨h.fn, h.dep, fun hc => h.call hc⟩

def Ex.out : Ex → Exit
  | .n => .normal
  | .x id => .exit id
  | .r => .ret

def exC : Ex → Option Code
  | .n => none
  | .r => some .ret
  | .x id => some (.exit id)

/-- A piece of code is sound for what the evaluator says. -/
def Runs (P : Program) (N : Nat) (f : C → St → Option (Ex × St)) (ks : List Key) (c : C) (code : Code) : Prop :=
  ∀ (F : Fence), FOk F → ∀ (n : Nat) (S0 : Nat → Prop) (w0 : Wd) (Q : Exit → Act → World → Prop) (m : Key → Nat) (st : St) (a : Act) (w : World) (e : Ex) (s : St), (∀ k b, w0.mb k = some b → k ∈ ks) → TabAt w0.lk w0.w → f c st = some (e, s) → Rel S0 N w0 m st a w →
    (∀ m' a' w', Rel S0 N w0 m' s a' w' → Q e.out a' w') → code.wpIn F n P Q a w

structure Mid (S0 : Nat → Prop) (N : Nat) (w0 : Wd) (W1 : World) (fr : Fr) (px : Key) (tmps : Array Value) (df : List Deferred) (l : Nat) (ob : Go.Obj) (L V : Nat → Prop) (W : World) (m : Key → Nat) (hp : Hp) : Prop where
  rel : Rel (fun b => S0 b ∧ ¬ V b) N ⟨W, Live m hp, fun _ => none, fun _ => True⟩ m ⟨fr, hp, px⟩ { tmps := tmps, defers := [] } W
  hL : L = fun b => Live m hp b ∨ b = l
  lv : ∀ k o, hp k = some o → o.fz = false → w0.lk (m k) ∨ w0.w.heap.size ≤ m k
  bel : Foot w0.lk w0.w W
  mks : Marks (fun b => S0 b ∧ b < W1.heap.size) w0 df W
  ob : W.heap[l]? = some ob
  vr : ∀ b, V b → W1.heap.size ≤ b ∧ b < W.heap.size
  sz : W1.heap.size ≤ W.heap.size

section
variable {S0 : Nat → Prop} {N : Nat} {w0 : Wd} {W1 : World} {fr : Fr} {px : Key} {tmps : Array Value} {df : List Deferred} {l : Nat} {ob : Go.Obj} {L V V' : Nat → Prop} {W W' : World} {m : Key → Nat} {hp : Hp}

theorem Mid.step (hl : l < W1.heap.size) (hw0 : w0.w.heap.size ≤ W1.heap.size) (h : Mid S0 N w0 W1 fr px tmps df l ob L V W m hp) (hf : Foot V W W') (h1 : ∀ b, V' b → b < W.heap.size → V b) (h2 : ∀ b, V' b → W1.heap.size ≤ b ∧ b < W'.heap.size) :
    Mid S0 N w0 W1 fr px tmps df l ob L V' W' m hp := by
  have hnv : ∀ b, b < W1.heap.size → ¬ V b := fun b hb hv => by have := (h.vr b hv).1; omega
  have hsz := hf.size
  refine ⟨h.rel.move rfl hsz (fun b hb hs => ⟨hs.1, fun hv => hs.2 (h1 b hv hb)⟩) (fun b cs T fz hs hh => by rw [hf.block b (heap_lt hh) hs.2]; exact hh)
    (fun b hb => ⟨(h.rel.un b (Nat.le_trans hsz hb)).1, fun hv => by have := (h2 b hv).2; omega⟩) (Foot.refl _ _) (fun k o ho hz => .inl ⟨k, o, ho, hz, rfl⟩) (Marks.nil _ _ _) (fun k b hb => by cases hb),
    h.hL, h.lv, h.bel.more hf.os hf.tape hf.output hsz (fun b hb hn => hf.block b hb fun hv => hn (.inr (by have := (h.vr b hv).1; omega))), ?_, ?_, h2, Nat.le_trans h.sz hsz⟩
  · exact h.mks.step fun b hb hd => by rw [hf.block b (heap_lt hd) (hnv b hb.2)]; exact hd
  · rw [hf.block l (heap_lt h.ob) (hnv l hl)]; exact h.ob

/-- The loop's record is turned. -/
theorem foot_put {lk : Nat → Prop} {w w' : World} {b : Nat} {o : Go.Obj} (h : Foot lk w w') (hb : lk b ∨ w.heap.size ≤ b) : Foot lk w (w'.putObj b o) :=
  h.more rfl rfl rfl (by simp) fun k hk hn => World.putObj_heap_other (fun e => hn (e ▸ hb))
theorem put_cells {w : World} {l : Nat} {r r' : Loop} (h : w.heap[l]? = some (.loop r)) : ∀ (b : Nat) (cs : Array Value) (T : TypeId) (fz : Nat × Nat), w.heap[b]? = some (Go.Obj.cells cs T fz) → (w.putObj l (.loop r')).heap[b]? = some (Go.Obj.cells cs T fz) := by
  intro b cs T fz hb
  rw [World.putObj_heap_other]
  · exact hb
  · rintro rfl; rw [h] at hb; cases hb
theorem put_marks {S : Nat → Prop} {w1 : Wd} {df : List Deferred} {w : World} {l : Nat} {r r' : Loop} (h : w.heap[l]? = some (.loop r)) (hm : Marks S w1 df w) : Marks S w1 df (w.putObj l (.loop r')) :=
  hm.step fun b _ hd => by
    rw [World.putObj_heap_other]
    · exact hd
    · rintro rfl; rw [h] at hd; cases hd
end

section
variable {S0 : Nat → Prop} {N : Nat} {w0 : Wd} {m : Key → Nat} {st : St} {a : Act} {w : World} {P : Program}

/-- One round. -/
theorem round_sound {W1 : World} {fr : Fr} {px : Key} {tmps : Array Value} {df : List Deferred} {l n : Nat} {L V : Nat → Prop} {W : World} {hp : Hp} {rec : LoopState → Option Code → Loop} {ps : Array Nat} {ca cb : Code} {f : C → St → Option (Ex × St)} {asg body : C} {ks : List Key} {vs : List Nat} {fn : FuncId}
    (hT : TabAt w0.lk w0.w) (hl : l < W1.heap.size) (hw0 : w0.w.heap.size ≤ l) (hrec : ∀ s p, rec s p = { state := s, pending := p, fn := fn, tmps := tmps, params := ps, assign := ca, body := cb, defers := (rec .ready none).defers })
    (hps : ∀ p ∈ ps.toList, p < N) (hA : Runs P N f ks asg ca) (hB : Runs P N f ks body cb) (hpl : ∀ i x, fr i = some x → Plain x ∧ refs ks x = true)
    (h : Mid S0 N w0 W1 fr px tmps df l (.loop (rec .ready none)) L V W m hp) {x : List D} {args : List Value} (hargs : RepL (Im (fun b => S0 b ∧ ¬ V b) m hp W) W x args) {p q : Ex × St}
    (h1 : x.length = ps.toList.length) (h2 : f asg ⟨putL fr ps.toList x, hp, px⟩ = some p) (h3 : p.1 = .n) (h4 : f body p.2 = some q) :
    YieldAt Fence.wide n P l args.toArray W fun e W' => ∃ L', Foot L W W' ∧ (∀ b, L' b → b < W.heap.size → L b) ∧ (∀ b, L' b → b < W'.heap.size) ∧
      ∃ m', Mid S0 N w0 W1 fr px tmps df l (.loop (rec (if q.1 = .n then .ready else .done) (exC q.1))) L' V W' m' q.2.hp ∧ e = .returned (.bool (decide (q.1 = .n))) := by
  have hal : args.length = ps.toList.length := by rw [← hargs.length]; exact h1
  have hy := run_yield (P := P) (args := args.toArray) h.ob (by rw [hrec]; simpa using hal)
  refine ⟨_, _, _, _, hy, ?_⟩
  rw [hrec]
  dsimp only
  have htm : (ps.zip args.toArray).foldl (fun tmps (t, a) => tmps.setIfInBounds t a) tmps = tmpsL ps.toList args tmps := by
    rw [← tmpsL_fold, ← Array.foldl_toList, Array.toList_zip]
  rw [htm]
  have hts := h.rel.ts
  obtain ⟨mb, hmbd⟩ : ∃ mb, mb = mbOf m hp ks := ⟨_, rfl⟩
  have hWn : ¬ Live m hp l := by
    rintro ⟨k, o, ho, hf, hm⟩
    obtain ⟨cs, T, fz, ho⟩ := h.rel.obj k o ho
    have hat := ho.at_
    rw [hm, h.ob] at hat; cases hat
  -- the frame that waits
  have R0 : Rel (fun b => S0 b ∧ ¬ V b) N ⟨W, Live m hp, mb, fun _ => True⟩ m ⟨fr, hp, px⟩ { tmps := tmps, defers := [] } W :=
    h.rel.move rfl (Nat.le_refl _) (fun _ _ h => h) (fun _ _ _ _ _ h => h) h.rel.un (Foot.refl _ _) (fun k o ho hz => .inl ⟨k, o, ho, hz, rfl⟩) (Marks.nil _ _ _) (fun k b hb => by
      subst hmbd
      obtain ⟨_, g1, g2⟩ := mbOf_some hb
      exact ⟨g1, g2⟩)
  have RA : Rel (fun b => S0 b ∧ ¬ V b) N ⟨W, Live m hp, mb, fun _ => True⟩ m ⟨putL fr ps.toList x, hp, px⟩ { tmps := tmpsL ps.toList args tmps, defers := [] } W :=
    R0.reframe (by rw [tmpsL_size]; exact hts) (Marks.nil _ _ _) (putL_rep ps.toList x args fr tmps (fun p hp => by rw [hts]; exact hps p hp) hargs (fun i y hy => ⟨R0.fr i y hy, R0.clf i y hy⟩))
  have hmks : ∀ k b, mb k = some b → k ∈ ks := fun k b hb => by subst hmbd; exact (mbOf_some hb).1
  have tA : TabAt (Live m hp) W := ⟨hT.here h.bel, fun t ht ⟨k, o, ho, hf, hm⟩ => by
    rcases h.lv k o ho hf with g | g
    · exact hT.2 t ht (hm ▸ g)
    · have := (hT.1 t ht).1; omega⟩
  refine roundIn_of_wpIn trivial (hA _ (wide_ok.inRound l) _ _ _ _ m _ _ W p.1 p.2 hmks tA h2 RA ?_)
  intro m1 a1 w1 R1
  rw [h3]
  -- the record becomes busy
  have hbel1 := R1.bel
  have hw1l : w1.heap[l]? = some (.loop (rec .ready none)) := by rw [hbel1.block l (heap_lt h.ob) hWn]; exact h.ob
  refine ⟨_, run_beginRound hw1l (by rw [hrec]), ?_⟩
  obtain ⟨w2, hw2⟩ : ∃ w2, w1.putObj l (.loop { rec .ready none with state := .busy }) = w2 := ⟨_, rfl⟩
  rw [hw2]
  have hsz2 : w2.heap.size = w1.heap.size := by rw [← hw2]; simp
  have hw2l : w2.heap[l]? = some (.loop { rec .ready none with state := .busy }) := by rw [← hw2]; exact World.putObj_heap_same (heap_lt hw1l)
  have hc12 : ∀ (b : Nat) (cs : Array Value) (T : TypeId) (fz : Nat × Nat), w1.heap[b]? = some (Go.Obj.cells cs T fz) → w2.heap[b]? = some (Go.Obj.cells cs T fz) := by rw [← hw2]; exact put_cells hw1l
  have ho12 : ∀ b, b ≠ l → w2.heap[b]? = w1.heap[b]? := fun b hb => by rw [← hw2]; exact World.putObj_heap_other hb
  have hsW1 : W.heap.size ≤ w1.heap.size := hbel1.size
  have hlW := heap_lt h.ob
  have hmb1 : ∀ k b, mb k = some b → (∃ o, p.2.hp k = some o ∧ o.es = 0) ∧ m1 k = b := R1.mb
  have hlv1 : ∀ b, Live m1 p.2.hp b → Live m hp b ∨ W.heap.size ≤ b := by
    rintro b ⟨k, o, ho, hf, rfl⟩
    exact R1.lv k o ho hf
  -- the body
  have hdf1 : Marks (fun b => S0 b ∧ ¬ V b) ⟨w2, fun b => Live m1 p.2.hp b ∨ W.heap.size ≤ b, mb, fun _ => True⟩ a1.defers w2 := by
    obtain ⟨Ds, g1, hnd, g2⟩ := R1.df
    refine ⟨Ds, g1, hnd, fun b hb => ?_⟩
    obtain ⟨k1, k2, k3⟩ := g2 b hb
    exact ⟨k1, trivial, by rw [ho12 b (by rintro rfl; rw [hw1l] at k3; cases k3)]; exact k3⟩
  have RB : Rel (fun b => S0 b ∧ ¬ V b) N ⟨w2, fun b => Live m1 p.2.hp b ∨ W.heap.size ≤ b, mb, fun _ => True⟩ m1 p.2 a1 w2 :=
    R1.move rfl (by omega) (fun _ _ h => h) (fun b cs T fz _ hh => hc12 b cs T fz hh) (fun b hb => R1.un b (by omega)) (Foot.refl _ _) (fun k o ho hz => .inl (.inl ⟨k, o, ho, hz, rfl⟩)) hdf1 hmb1
  have tB : TabAt (fun b => Live m1 p.2.hp b ∨ W.heap.size ≤ b) w2 := ⟨fun t ht => by
    obtain ⟨g1, T, fz, g2⟩ := tA.here R1.bel t ht
    have := (hT.1 t ht).1
    exact ⟨by rw [hsz2]; exact g1, T, fz, (ho12 t.1 (by omega)).trans g2⟩, fun t ht hl => by
    have h0 := (tA.1 t ht).1
    rcases hl with hl | hl
    · rcases hlv1 _ hl with g | g
      · exact tA.2 t ht g
      · omega
    · omega⟩
  refine hB _ (wide_ok.inRound l) _ _ _ _ m1 p.2 a1 w2 q.1 q.2 hmks tB h4 RB ?_
  intro m2 a2 w3 R2
  have hbel2 := R2.bel
  have hsW2 : w2.heap.size ≤ w3.heap.size := hbel2.size
  have hw2n : ¬ (Live m1 p.2.hp l ∨ W.heap.size ≤ l) := by
    rintro (⟨k, o, ho, hf, hm⟩ | hh)
    · obtain ⟨cs, T, fz, ho⟩ := R1.obj k o ho
      have hat := ho.at_
      rw [hm, hw1l] at hat; cases hat
    · omega
  have hw3l : w3.heap[l]? = some (.loop { rec .ready none with state := .busy }) := by rw [hbel2.block l (heap_lt hw2l) hw2n]; exact hw2l
  have hlv2 : ∀ b, Live m2 q.2.hp b → Live m hp b ∨ W.heap.size ≤ b := by
    rintro b ⟨k, o, ho, hf, rfl⟩
    rcases R2.lv k o ho hf with (hh | hh) | hh
    · exact hlv1 _ hh
    · exact .inr hh
    · dsimp only at hh; exact .inr (by omega)
  have hkeep : ∀ b, b < W.heap.size → ¬ Live m hp b → b ≠ l → w3.heap[b]? = W.heap[b]? := by
    intro b hb hn hne
    rw [hbel2.block b (by dsimp only; omega) (by
      rintro (hh | hh)
      · rcases hlv1 b hh with hh | hh
        · exact hn hh
        · omega
      · omega), ho12 b hne]
    exact hbel1.block b hb hn
  have S2 : ∀ i y, fr i = some y → RepA m2 q.2.hp (Im (fun b => S0 b ∧ ¬ V b) m2 q.2.hp w3) w3 y (tmps.getD i undef) ∧ Closed q.2.hp y := fun i y hy =>
    susp (ks := ks) R0 (by omega) (fun b cs T fz hb hn hh => by
      rw [hkeep b hb hn (by rintro rfl; rw [h.ob] at hh; cases hh)]; exact hh) (fun k o ho hf => hlv2 _ ⟨k, o, ho, hf, rfl⟩) (fun k o hk ho he => by subst hmbd; exact mbOf_box hk ho he) R2 (hpl i y hy).1 (hpl i y hy).2 (R0.fr i y hy) (R0.clf i y hy)
  -- the record is ready again, or done
  have fin : ∀ jump : Option Code, jump = exC q.1 → ∃ v w', (Instr.endRound l jump).run P w3 = .ok v w' ∧ ∃ L', Foot L W w' ∧ (∀ b, L' b → b < W.heap.size → L b) ∧ (∀ b, L' b → b < w'.heap.size) ∧
      ∃ m', Mid S0 N w0 W1 fr px tmps df l (.loop (rec (if q.1 = .n then .ready else .done) (exC q.1))) L' V w' m' q.2.hp ∧ Ending.returned v = .returned (.bool (decide (q.1 = .n))) := by
    rintro jump rfl
    obtain ⟨w4, hw4⟩ : ∃ w4, w3.putObj l (.loop { { rec .ready none with state := .busy } with state := if (exC q.1).isNone then .ready else .done, pending := exC q.1 }) = w4 := ⟨_, rfl⟩
    have hrn : Instr.endRound l (exC q.1) = Instr.endRound l (exC q.1) := rfl
    have hsz4 : w4.heap.size = w3.heap.size := by rw [← hw4]; simp
    have ho34 : ∀ b, b ≠ l → w4.heap[b]? = w3.heap[b]? := fun b hb => by rw [← hw4]; exact World.putObj_heap_other hb
    have hc34 : ∀ (b : Nat) (cs : Array Value) (T : TypeId) (fz : Nat × Nat), w3.heap[b]? = some (Go.Obj.cells cs T fz) → w4.heap[b]? = some (Go.Obj.cells cs T fz) := by rw [← hw4]; exact put_cells hw3l
    have hnone : (exC q.1).isNone = decide (q.1 = .n) := by cases q.1 <;> simp [exC]
    have hw4l : w4.heap[l]? = some (.loop (rec (if q.1 = .n then .ready else .done) (exC q.1))) := by
      rw [← hw4, World.putObj_heap_same (heap_lt hw3l), hnone]
      rw [hrec (if q.1 = .n then .ready else .done)]
      rw [hrec .ready none]
      by_cases hq : q.1 = .n <;> simp [hq]
    have hfoot : Foot L W w4 := by
      refine ⟨?_, ?_, ?_, by omega, fun b hb hn => ?_⟩
      · rw [← hw4]; exact hbel2.os.trans (by dsimp only; rw [← hw2]; exact hbel1.os)
      · rw [← hw4]; exact hbel2.tape.trans (by dsimp only; rw [← hw2]; exact hbel1.tape)
      · rw [← hw4]; exact hbel2.output.trans (by dsimp only; rw [← hw2]; exact hbel1.output)
      · rw [h.hL] at hn
        rw [ho34 b (fun e => hn (.inr e)), hkeep b hb (fun e => hn (.inl e)) (fun e => hn (.inr e))]
    have hlo : ∀ b, Live m hp b → w0.lk b ∨ w0.w.heap.size ≤ b := by
      rintro b ⟨k, o, ho, hf, rfl⟩
      exact h.lv k o ho hf
    have hW0 : w0.w.heap.size ≤ W.heap.size := h.bel.size
    have RE : Rel (fun b => S0 b ∧ ¬ V b) N ⟨w4, Live m2 q.2.hp, fun _ => none, fun _ => True⟩ m2 ⟨fr, q.2.hp, px⟩ { tmps := tmps, defers := [] } w4 :=
      (R2.reframe (a' := { tmps := tmps, defers := [] }) hts (Marks.nil _ _ _) S2).move rfl (by omega) (fun _ _ h => h) (fun b cs T fz _ hh => hc34 b cs T fz hh) (fun b hb => R2.un b (by omega)) (Foot.refl _ _) (fun k o ho hz => .inl ⟨k, o, ho, hz, rfl⟩) (Marks.nil _ _ _) (fun k b hb => by cases hb)
    refine ⟨_, w4, by rw [← hw4]; exact run_endRound (exC q.1) hw3l, fun b => Live m2 q.2.hp b ∨ b = l, hfoot, ?_, ?_, m2, ⟨RE, rfl, ?_, ?_, ?_, hw4l, fun b hb => ?_, ?_⟩, by rw [hnone]⟩
    · rintro b (hb | hb) hlt
      · rw [h.hL]
        rcases hlv2 b hb with hh | hh
        · exact .inl hh
        · omega
      · rw [h.hL]; exact .inr hb
    · rintro b (hb | hb)
      · obtain ⟨k, o, ho, hf, rfl⟩ := hb
        have := R2.lt ho
        omega
      · omega
    · intro k o ho hf
      rcases hlv2 _ ⟨k, o, ho, hf, rfl⟩ with hh | hh
      · exact hlo _ hh
      · exact .inr (by omega)
    · refine h.bel.more hfoot.os hfoot.tape hfoot.output hfoot.size fun b hb hn => hfoot.block b hb ?_
      rw [h.hL]
      rintro (hh | hh)
      · exact hn (hlo b hh)
      · exact hn (.inr (by omega))
    · refine h.mks.step fun b hb hd => ?_
      have hbl : b ≠ l := by rintro rfl; rw [h.ob] at hd; cases hd
      rw [ho34 b hbl, hkeep b (heap_lt hd) ?_ hbl]
      · exact hd
      · rintro ⟨k, o, ho, hf, hm⟩
        obtain ⟨cs, T, fz, ho⟩ := h.rel.obj k o ho
        have hat := ho.at_
        rw [hm, hd] at hat; cases hat
    · have := h.vr b hb

      omega
    · have := h.sz

      omega
  cases hq : q.1 with
  | n =>
    obtain ⟨v, w', g1, g2⟩ := fin none (by rw [hq]; rfl)
    rw [hq] at g2
    exact ⟨v, w', g1, g2⟩
  | r =>
    obtain ⟨v, w', g1, g2⟩ := fin (some .ret) (by rw [hq]; rfl)
    rw [hq] at g2
    exact ⟨v, w', g1, g2⟩
  | x id =>
    obtain ⟨v, w', g1, g2⟩ := fin (some (.exit id)) (by rw [hq]; rfl)
    rw [hq] at g2
    exact ⟨v, w', g1, g2⟩
end
end Go.AM

/- Loops over functions, part 3: the statement. -/
namespace Go.AM
open Go Go.RowKit

section
variable {S0 : Nat → Prop} {N : Nat} {w0 : Wd} {m : Key → Nat} {st : St} {a : Act} {w : World} {P : Program}

theorem keepSt_plain {vs : List Nat} {ks : List Key} {s : St} (hk : keepSt st vs ks = some s) (hpl : plainF s.fr vs = true) : s.px = st.px ∧ ∀ i x, s.fr i = some x → Plain x ∧ refs ks x = true := by
  unfold keepSt at hk
  obtain ⟨⟨h1, h2⟩, hk⟩ := guardO_some hk
  simp only [Option.some.injEq] at hk
  subst hk
  refine ⟨rfl, fun i x hx => ⟨plainF_keep hpl i x hx, ?_⟩⟩
  by_cases hi : i ∈ vs
  · have hx' : st.fr i = some x := by rw [← (keepF_at st.fr vs i).1 hi]; exact hx
    exact keepRefs_at h1 i hi x hx'
  · have := (keepF_at st.fr vs i).2 hi
    dsimp only at hx
    rw [this] at hx; cases hx

theorem rfn_sound {n : Nat} {Q : Exit → Act → World → Prop} {gf : Nat} {caps : List D} {xs : List (List D)} {g : Operand} {ps : Array Nat} {ca cb : Code} {x : E} {v : A} {f : C → St → Option (Ex × St)} {asg body : C} {vs : List Nat} {ks : List Key} {e : Ex} {s s' : St}
    (hT : TabAt w0.lk w0.w) (hR : Rel S0 N w0 m st a w) (hmb : ∀ k, w0.mb k = none) (hdn : w0.dn w.heap.size) (hx : compE g = some x) (hv : x.ev st = some v) (hfn : fnA v = some (gf, caps)) (hit : ItOk P gf caps xs) (hk : keepSt st vs ks = some s) (hpl : plainF s.fr vs = true)
    (hps : ∀ p ∈ ps.toList, p < N) (hA : Runs P N f ks asg ca) (hB : Runs P N f ks body cb)
    (hr : rounds f ps.toList asg body s.fr s.px xs s.hp = some (e, s'))
    (hK : ∀ m' a' w', Rel S0 N w0 m' s' a' w' → Q e.out a' w') : (Code.rangeFunc g ps ca cb).wpIn Fence.wide n P Q a w := by
  obtain ⟨hpx, hfrp⟩ := keepSt_plain hk hpl
  obtain rfl := fnA_some hfn
  have hev := rep_d (hR.ev hx hv)
  generalize hgv : a.eval g = gv at hev
  cases hev with
  | fn _ _ vls hcaps =>
  have hS := hR.keep (fun k b hb => by rw [hmb] at hb; cases hb) hk
  -- what the closure holds, behind the forgetting
  have hcaps2 : RepL (Im S0 m st.hp w) w caps vls := hcaps
  have hlive : ∀ b, Live m s.hp b → Live m st.hp b := by
    rintro b ⟨k, o, ho, hf, hm⟩
    unfold keepSt at hk
    obtain ⟨_, hk⟩ := guardO_some hk
    simp only [Option.some.injEq] at hk
    subst hk
    dsimp only at ho
    by_cases hi : k ∈ ks
    · rw [(keepH_at st.hp ks k).1 hi] at ho; exact ⟨k, o, ho, hf, hm⟩
    · rw [(keepH_at st.hp ks k).2 hi] at ho; cases ho
  refine wpIn_rangeFunc ?_
  intro fn hfnF
  obtain ⟨rec, hrec⟩ : ∃ rec : LoopState → Option Code → Loop, rec = fun st pe => { state := st, pending := pe, fn, tmps := a.tmps, params := ps, assign := ca, body := cb, defers := w.heap.size } := ⟨_, rfl⟩
  obtain ⟨W1, hW1⟩ : ∃ W1, (w.alloc (.deferred (some []))).alloc (.loop (rec .ready none)) = W1 := ⟨_, rfl⟩
  have hsz1 : W1.heap.size = w.heap.size + 2 := by rw [← hW1]; simp
  have hL1 : W1.heap[w.heap.size + 1]? = some (.loop (rec .ready none)) := by
    rw [← hW1]; have := World.alloc_heap_new (w.alloc (.deferred (some []))) (.loop (rec .ready none)); rwa [World.size_alloc] at this
  have hD1 : W1.heap[w.heap.size]? = some (.deferred (some [])) := by
    rw [← hW1]; exact (Below.heap_alloc _ _ _ (by simp)).trans (World.alloc_heap_new w _)
  have hold : ∀ b, b < w.heap.size → W1.heap[b]? = w.heap[b]? := by
    intro b hb
    rw [← hW1, Below.heap_alloc _ _ _ (by simp; omega), Below.heap_alloc _ _ _ hb]
  obtain ⟨⟨gfn, hgf, hgb, hgn⟩, hit⟩ := hit
  refine ⟨w.heap.size + 1, [{ target := .collected w.heap.size, args := #[] }], W1, { target := .fn (.func gf) vls.toArray, args := #[.func (.yield (w.heap.size + 1)) #[] #[]] }, W1, gf,
    #[.func (.yield (w.heap.size + 1)) #[] #[]] ++ vls.toArray, W1, ?_, ?_, fun _ _ => trivial, ?_, fun h => (by cases h), ?_⟩
  · rw [← hW1, hrec]; exact run_enterLoop_outer _ _ _ _ _
  · simp only [resolve, hgv]
    simp [go_sem]
  · simp [invoke, go_sem, callFunc_run hgf hgb hgn]
  -- the start
  have hfoot1 : Foot w0.lk w0.w W1 := hR.bel.more (by rw [← hW1]; rfl) (by rw [← hW1]; rfl) (by rw [← hW1]; rfl) (by omega) fun b hb _ => hold b hb
  have hun1 : ∀ b, w.heap.size ≤ b → S0 b := hR.un
  have hmarks1 : Marks (fun b => S0 b ∧ b < W1.heap.size) w0 ({ target := .collected w.heap.size, args := #[] } :: a.defers) W1 := by
    obtain ⟨Ds, g1, hnd, g2⟩ := hR.df
    refine ⟨w.heap.size :: Ds, by rw [g1]; rfl, List.nodup_cons.2 ⟨fun hm => by have := heap_lt (g2 _ hm).2.2; omega, hnd⟩, ?_⟩
    intro b hb
    rcases List.mem_cons.1 hb with rfl | hb
    · exact ⟨⟨hun1 _ (Nat.le_refl _), by omega⟩, hdn, hD1⟩
    · obtain ⟨k1, k2, k3⟩ := g2 b hb
      have := heap_lt k3
      exact ⟨⟨k1, by omega⟩, k2, by rw [hold b this]; exact k3⟩
  have hMid : Mid S0 N w0 W1 s.fr s.px a.tmps ({ target := .collected w.heap.size, args := #[] } :: a.defers) (w.heap.size + 1) (.loop (rec .ready none)) (fun b => Live m s.hp b ∨ b = w.heap.size + 1) (fun _ => False) W1 m s.hp := by
    refine ⟨?_, rfl, hS.lv, hfoot1, hmarks1, hL1, fun _ h => h.elim, Nat.le_refl _⟩
    have : Rel (fun b => S0 b ∧ ¬ False) N ⟨W1, Live m s.hp, fun _ => none, fun _ => True⟩ m s { tmps := a.tmps, defers := [] } W1 :=
      hS.move (a' := { tmps := a.tmps, defers := [] }) rfl (by omega) (fun _ _ h => ⟨h, fun h => h⟩) (fun b cs T fz _ hh => by rw [hold b (heap_lt hh)]; exact hh) (fun b hb => ⟨hun1 b (by omega), fun h => h⟩) (Foot.refl _ _) (fun k o ho hz => .inl ⟨k, o, ho, hz, rfl⟩) (Marks.nil _ _ _) (fun k b hb => by cases hb)
    exact this
  have hlW : w.heap.size + 1 < W1.heap.size := by omega
  have hw0l : w0.w.heap.size ≤ w.heap.size + 1 := Nat.le_succ_of_le hR.bel.size
  have key := hit (n - 2) (fun b => Im S0 m st.hp w b) (fun b => Live m s.hp b ∨ b = w.heap.size + 1) W1 vls
    (hcaps2.mono (fun _ h => h) (fun b hb => hold b hb.2.1))
    (fun b hb => ⟨by have := hb.2.1; omega, by
      rintro (h | h)
      · exact hb.2.2 (hlive b h)
      · have := hb.2.1; omega⟩)
    (by
      rintro b (⟨k, o, ho, _, rfl⟩ | rfl)
      · have := hS.lt ho; omega
      · omega) (w.heap.size + 1)
    (fun i L V W => ∃ m' hp', Mid S0 N w0 W1 s.fr s.px a.tmps ({ target := .collected w.heap.size, args := #[] } :: a.defers) (w.heap.size + 1) (.loop (rec .ready none)) L V W m' hp' ∧ rounds f ps.toList asg body s.fr s.px (xs.drop i) hp' = some (e, s'))
    (fun i L V W => ∃ m' hp' c, Mid S0 N w0 W1 s.fr s.px a.tmps ({ target := .collected w.heap.size, args := #[] } :: a.defers) (w.heap.size + 1) (.loop (rec .done (some c))) L V W m' hp' ∧ exC e = some c ∧ s' = ⟨s.fr, hp', s.px⟩)
    (fun i L V V' W W' ⟨m', hp', h1, h2⟩ hf g1 g2 => ⟨m', hp', h1.step hlW (by omega) hf g1 g2, h2⟩)
    (fun i L V V' W W' ⟨m', hp', c, h1, h2⟩ hf g1 g2 => ⟨m', hp', c, h1.step hlW (by omega) hf g1 g2, h2⟩)
    ?_ ⟨m, s.hp, hMid, hr⟩
  · refine callsIn_wide.2 ((callsIn_wide.1 key).mono ?_)
    rintro ed w3 ⟨⟨v, rfl⟩, i, L, V, (⟨rfl, m', hp', hM, hrr⟩ | ⟨m', hp', c, hM, hc, rfl⟩)⟩
    · -- all have come
      rw [List.drop_length] at hrr
      simp only [rounds, Option.some.injEq, Prod.mk.injEq] at hrr
      obtain ⟨rfl, rfl⟩ := hrr
      have hpend : (rec .ready none).pending = none := by rw [hrec]
      refine ⟨none, w3.putObj (w.heap.size + 1) (.loop { rec .ready none with state := .exhausted }), (run_endLoop (P := P) hM.ob (by rw [hrec]; simp)).trans (congrArg (Result.ok · _) hpend), ?_⟩
      refine hK m' _ _ ?_
      exact hM.rel.move (a' := { a with defers := { target := .collected w.heap.size, args := #[] } :: a.defers }) rfl (by simp) (fun _ _ h => h.1) (fun b cs T fz _ hh => put_cells hM.ob b cs T fz hh) (fun b hb => hun1 b (by have := hM.sz; simp at hb; omega))
        (foot_put hM.bel (.inr hw0l)) hM.lv (by
          obtain ⟨Ds, g1, hnd, g2⟩ := put_marks (r' := { rec .ready none with state := .exhausted }) hM.ob hM.mks
          exact ⟨Ds, g1, hnd, fun b hb => ⟨(g2 b hb).1.1, (g2 b hb).2.1, (g2 b hb).2.2⟩⟩) (fun k b hb => by rw [hmb] at hb; cases hb)
    · -- a round has left
      have hrel : ∀ w4, (hM.ob = hM.ob) → w3.putObj (w.heap.size + 1) (.loop { rec .done (some c) with state := .exhausted }) = w4 → Rel S0 N w0 m' ⟨s.fr, hp', s.px⟩ { a with defers := { target := .collected w.heap.size, args := #[] } :: a.defers } w4 := by
        rintro w4 _ rfl
        exact hM.rel.move (a' := { a with defers := { target := .collected w.heap.size, args := #[] } :: a.defers }) rfl (by simp) (fun _ _ h => h.1) (fun b cs T fz _ hh => put_cells hM.ob b cs T fz hh) (fun b hb => hun1 b (by have := hM.sz; simp at hb; omega))
          (foot_put hM.bel (.inr hw0l)) hM.lv (by
            obtain ⟨Ds, g1, hnd, g2⟩ := put_marks (r' := { rec .done (some c) with state := .exhausted }) hM.ob hM.mks
            exact ⟨Ds, g1, hnd, fun b hb => ⟨(g2 b hb).1.1, (g2 b hb).2.1, (g2 b hb).2.2⟩⟩) (fun k b hb => by rw [hmb] at hb; cases hb)
      have hpend : (rec .done (some c)).pending = some c := by rw [hrec]
      refine ⟨some c, w3.putObj (w.heap.size + 1) (.loop { rec .done (some c) with state := .exhausted }), (run_endLoop (P := P) hM.ob (by rw [hrec]; simp)).trans (congrArg (Result.ok · _) hpend), ?_⟩
      cases e with
      | n => cases hc
      | r => cases hc; exact wpIn_ret (hK m' _ _ (hrel _ rfl rfl))
      | x id => cases hc; exact wpIn_exit (hK m' _ _ (hrel _ rfl rfl))
  · -- a round
    rintro i x L V W args hxi ⟨m', hp', hM, hrr⟩ hargs
    have hdrop : xs.drop i = x :: xs.drop (i + 1) := by
      obtain ⟨hi, rfl⟩ := List.getElem?_eq_some_iff.1 hxi
      exact List.drop_eq_getElem_cons hi
    rw [hdrop] at hrr
    simp only [rounds] at hrr
    obtain ⟨h1, hrr⟩ := guardO_some hrr
    simp only [Option.bind_eq_some_iff] at hrr
    obtain ⟨p, h2, hrr⟩ := hrr
    obtain ⟨h3, hrr⟩ := guardO_some hrr
    simp only [Option.bind_eq_some_iff] at hrr
    obtain ⟨q, h4, hrr⟩ := hrr
    have hargs2 : RepL (Im (fun b => S0 b ∧ ¬ V b) m' hp' W) W x args := by
      refine hargs.mono ?_ (fun _ _ => rfl)
      rintro b ⟨hb1, hb2, hb3, hb4⟩
      refine ⟨⟨?_, hb3⟩, hb2, fun hl => hb4 ?_⟩
      · rcases hb1 with hb1 | hb1
        · exact hb1.1
        · exact hun1 b (by omega)
      · rw [hM.hL]; exact .inl hl
    have := round_sound hT (P := P) (fn := fn) (vs := vs) hlW hw0l (by intro s p; rw [hrec]) hps hA hB hfrp hM hargs2 h1 h2 h3 h4 (n := n - 2)
    obtain ⟨fn', tm', as', bo', hy', hR'⟩ := this
    refine ⟨fn', tm', as', bo', hy', hR'.mono ?_⟩
    rintro ed W' ⟨L', g1, g2, g3, m2, hM2, rfl⟩
    refine ⟨L', g1, g2, g3, ?_⟩
    by_cases hq : q.1 = .n
    · rw [if_pos hq] at hrr
      rw [if_pos hq, hq] at hM2
      exact .inl ⟨by simp [hq], m2, q.2.hp, hM2, hrr⟩
    · rw [if_neg hq] at hrr
      rw [if_neg hq] at hM2
      simp only [Option.some.injEq, Prod.mk.injEq] at hrr
      obtain ⟨rfl, rfl⟩ := hrr
      cases hc : exC q.1 with
      | none => cases hq2 : q.1 <;> simp [exC, hq2] at hc hq
      | some c =>
        rw [hc] at hM2
        exact .inr ⟨by simp [hq], m2, q.2.hp, c, hM2, rfl, rfl⟩
end
end Go.AM

/- Part 18: functions. -/
namespace Go.AM
open Go Go.RowKit

def resS (tmps : Array Value) : ResultVar → Sem Value
  | .tmp t => pure (tmps.getD t undef)
  | .cell q t => do loadVar t (← asAddr (tmps.getD q undef))
theorem results_eq (fn : Func) (tmps : Array Value) : results fn tmps = (do
    let vs ← fn.results.mapM (resS tmps)
    pure (if h : vs.size = 1 then vs[0] else .tuple vs)) := rfl

section
variable {S0 : Nat → Prop} {N : Nat} {w0 : Wd} {m : Key → Nat} {st : St} {a : Act} {w : World} {P : Program}

theorem resL_sound (hR : Rel S0 N w0 m st a w) : ∀ {l : List ResultVar} {rs : List RV} {as : List A}, mapO (compR P) l = some rs → resL st rs = some as →
    ∃ vs : List Value, (l.mapM (resS a.tmps)).run P w = .ok vs w ∧ RepAL m st.hp (Im S0 m st.hp w) w as vs ∧ refPL (IsBox st.hp) (IsArr st.hp) as
  | [], rs, as, h, hr => by
    simp only [mapO, Option.some.injEq] at h
    subst h
    simp only [resL, Option.some.injEq] at hr
    subst hr
    exact ⟨[], rfl, .nil, trivial⟩
  | x :: l, rs, as, h, hr => by
    simp only [mapO, Option.bind_eq_some_iff, Option.map_eq_some_iff] at h
    obtain ⟨r, hx, rs', hrs, rfl⟩ := h
    simp only [resL, Option.bind_eq_some_iff, Option.map_eq_some_iff] at hr
    obtain ⟨y, hy, as', has, rfl⟩ := hr
    obtain ⟨vs, h1, h2, h3⟩ := resL_sound hR hrs has
    cases x with
    | tmp t =>
      simp only [compR, Option.some.injEq] at hx
      subst hx
      simp only [resV] at hy
      refine ⟨a.tmps.getD t undef :: vs, ?_, .cons _ _ _ _ (hR.fr t y hy) h2, hR.clf t y hy, h3⟩
      simp only [List.mapM_cons, resS, Sem.run_bind, Sem.run_pure, Result.andThen_ok, h1]
    | cell q t =>
      simp only [compR, Option.map_eq_some_iff] at hx
      obtain ⟨sz, hsz, rfl⟩ := hx
      simp only [resV, Option.bind_eq_some_iff] at hy
      obtain ⟨z, hz, hy⟩ := hy
      have hld : loadA st.hp sz z = some y := by
        cases z with
        | ptr k o => exact hy
        | d x => cases x <;> first | exact hy | cases hy
        | _ => cases hy
      obtain ⟨u, g1, g2, g3⟩ := load_sound (P := P) hR hsz (hR.fr q z hz) hld
      have hptr : ∃ ad, a.tmps.getD q undef = .pointer (some ad) := by
        have hrep := hR.fr q z hz
        cases z with
        | ptr k o => cases hrep with | ptr _ _ _ hs _ => exact hs
        | d x =>
          cases x with
          | rp cs =>
            have := rep_d hrep
            generalize a.tmps.getD q undef = v at this
            cases this with
            | rp _ ad _ _ _ _ => exact ⟨ad, rfl⟩
          | _ => cases hy
        | _ => cases hy
      obtain ⟨ad, had⟩ := hptr
      rw [had] at g1
      have hl : (loadVar t ad).run P w = .ok u w := by
        simpa [Instr.loadAt, Instr.sureAddr] using g1
      refine ⟨u :: vs, ?_, .cons _ _ _ _ g2 h2, g3, h3⟩
      have hasA : (asAddr (.pointer (some ad))).run P w = .ok ad w := rfl
      simp only [List.mapM_cons, resS, Sem.run_bind, Sem.run_pure, Result.andThen_ok, had, hasA, hl, h1]

def oneOr : List Value → Value
  | [v] => v
  | vs => .tuple vs.toArray

theorem results_run {fn : Func} {tmps : Array Value} {vs : List Value} (h : (fn.results.toList.mapM (resS tmps)).run P w = .ok vs w) :
    (results fn tmps).run P w = .ok (oneOr vs) w := by
  rw [results_eq, ← Array.toArray_toList (xs := fn.results), List.mapM_toArray]
  simp only [Sem.run_map, Sem.run_bind, h, Result.andThen_ok, Sem.run_pure]
  match vs with
  | [] => rfl
  | [v] => rfl
  | v :: u :: r => rfl

/-- The cells of an array of one's own, at the end. -/
theorem own_end (hR : Rel S0 N w0 m st a w) {q : Key} {n : Nat} {o : Obj} {v : Value} {cs : List D} (hk : st.hp q = some o) (hn : o.n = n) (hcs : allD o.cs = some cs) (hy : RepA m st.hp (Im S0 m st.hp w) w (.own q n) v) :
    ∃ (cap : Nat) (cells : Array Value) (T : TypeId) (fz : Nat × Nat) (us : List Value), v = .slice (some ⟨m q, 0, none⟩) n cap ∧ n ≤ cap ∧ w.heap[m q]? = some (Go.Obj.cells cells T fz) ∧ cap * o.es ≤ cells.size ∧ (∀ i, i < cells.size → ¬ (fz.1 ≤ i ∧ i < fz.2)) ∧
      RepL (Im S0 m st.hp w) w cs us ∧ (∀ (i : Nat) (v : Value), us[i]? = some v → cells[i]? = some v) ∧ cs.length ≤ cells.size := by
  cases hy with
  | own _ _ _ _ hq =>
    obtain ⟨cap, cells, T, fz, rfl, hc, hat, hsz⟩ := hq o hk hn
    obtain ⟨cells', T', fz', ho⟩ := hR.obj q o hk
    rw [ho.at_] at hat
    cases hat
    have hmap := allD_map hcs
    obtain ⟨us, g1, g2⟩ := cells_data ho 0 cs 0 (fun j d hj => by rw [hmap]; simp [hj])
    exact ⟨cap, cells, T, fz, us, rfl, hc, ho.at_, hsz, ho.free, g1, fun i v hv => by simpa using g2 i v hv, by have := ho.size; rw [hmap] at this; simpa using this⟩

theorem toDs_rep (hR : Rel S0 N w0 m st a w) : ∀ {as : List A} {vs : List Value} {ds : List D}, RepAL m st.hp (Im S0 m st.hp w) w as vs → toDs st as = some ds →
    RepL (fun c => S0 c ∧ c < w.heap.size) w ds vs
  | [], vs, ds, h, hd => by
    cases h
    simp only [toDs, Option.some.injEq] at hd
    subst hd; exact .nil
  | x :: as, vs, ds, h, hd => by
    cases h with
    | cons _ _ v vs hx ht =>
      simp only [toDs, Option.bind_eq_some_iff, Option.map_eq_some_iff] at hd
      obtain ⟨d, h1, ds', h2, rfl⟩ := hd
      have hsub : ∀ c, Im S0 m st.hp w c → S0 c ∧ c < w.heap.size := fun c hc => ⟨hc.1, hc.2.1⟩
      refine .cons _ _ _ _ ?_ (toDs_rep hR ht h2)
      cases x with
      | d y =>
        simp only [toD, Option.some.injEq] at h1
        subst h1
        exact (rep_d hx).mono hsub (fun _ _ => rfl)
      | own q n =>
        simp only [toD, Option.bind_eq_some_iff] at h1
        obtain ⟨o, hk, h1⟩ := h1
        obtain ⟨hn, h1⟩ := guardO_some h1
        simp only [Option.map_eq_some_iff] at h1
        obtain ⟨cs, hcs, rfl⟩ := h1
        obtain ⟨cap, cells, T, fz, us, rfl, hc, hat, hsz, hfr, g1, g2, _⟩ := own_end hR hk hn hcs hx
        exact .row _ _ _ _ us hc ⟨hR.ge q o hk, hR.lt hk⟩ (g1.mono hsub (fun _ _ => rfl)) (fun j u hj => by rw [cell_of_row hat]; simpa using g2 j u hj)
      | ptr k o => simp [toD] at h1
      | ep k n o => simp [toD] at h1
      | tup xs => simp [toD] at h1
      | fn f xs => simp [toD] at h1

/-- What a function hands back at its end. -/
theorem end_sound (hR : Rel S0 N w0 m st a w) {fn : Func} {rs : List RV} (hrs : mapO (compR P) fn.results.toList = some rs) {r : R} (he : ending st rs = some r) {S : Nat → Prop} (hb : S0 = fun b => S b ∨ w0.w.heap.size ≤ b) (hlk : ∀ b, ¬ w0.lk b) :
    ∃ v, (results fn a.tmps).run P w = .ok v w ∧ RetOk S w0.w w r v := by
  unfold ending at he
  simp only [Option.bind_eq_some_iff] at he
  obtain ⟨as, has, he⟩ := he
  obtain ⟨vs, h1, h2, h3⟩ := resL_sound hR hrs has
  have hrun := results_run h1
  have hsub : ∀ c, Im S0 m st.hp w c → Ext S w0.w w c := fun c hc => ⟨by have := hc.1; rw [hb] at this; exact this, hc.2.1⟩
  have hext : ∀ c, (S0 c ∧ c < w.heap.size) → Ext S w0.w w c := fun c hc => ⟨by have := hc.1; rw [hb] at this; exact this, hc.2⟩
  split at he
  · rename_i q n
    cases h2 with
    | cons _ _ v us hx ht =>
      cases ht
      simp only [Option.bind_eq_some_iff] at he
      obtain ⟨o, hk, he⟩ := he
      obtain ⟨hn, he⟩ := guardO_some he
      simp only [Option.map_eq_some_iff] at he
      obtain ⟨cs, hcs, rfl⟩ := he
      refine ⟨v, hrun, ?_⟩
      cases hf : o.fz with
      | true =>
        simp only [if_true]
        exact (frozen_rep hR hk hn hf hcs hx).mono hsub (fun _ _ => rfl)
      | false =>
        simp only [Bool.false_eq_true, if_false]
        obtain ⟨cap, cells, T, fz, us, rfl, hc, hat, hsz, hfr, g1, g2, g3⟩ := own_end hR hk hn hcs hx
        obtain ⟨o2, ho2, hes, _⟩ := h3.1
        rw [hk] at ho2
        cases ho2
        refine ⟨hes, m q, cap, cells, T, fz, us, ?_, rfl, hc, hat, hsz, hfr, g1.mono (fun c hc => ⟨hsub c hc, ?_⟩) (fun _ _ => rfl), g2, g3⟩
        · exact (hR.lv q o hk hf).resolve_left (hlk _)
        · rintro rfl
          exact hc.2.2 ⟨q, o, hk, hf, rfl⟩
  · rename_i x
    cases h2 with
    | cons _ _ v us hx ht =>
      cases ht
      simp only [Option.some.injEq] at he
      subst he
      exact ⟨v, hrun, (rep_d hx).mono hsub (fun _ _ => rfl)⟩
  · rename_i hn1 hn2
    simp only [Option.map_eq_some_iff] at he
    obtain ⟨ds, hds, rfl⟩ := he
    have htr := (toDs_rep hR h2 hds).mono hext (fun _ _ => rfl)
    match vs, h2, hrun, htr with
    | [], h2, hrun, htr => exact ⟨_, hrun, RepD.tup _ _ htr⟩
    | v :: u :: r, h2, hrun, htr => exact ⟨_, hrun, RepD.tup _ _ htr⟩
    | [v], h2, hrun, htr =>
      exfalso
      cases h2 with
      | cons x xs _ _ hx ht =>
        cases ht
        cases x with
        | d y => exact hn2 y rfl
        | own q n => exact hn1 q n rfl
        | _ => simp [toDs, toD] at hds
end

/-- The marks are taken, one by one. -/
theorem leaves_of_rel {S0 : Nat → Prop} {N : Nat} {w0 : Wd} {m : Key → Nat} {st : St} {P : Program} {fn : Func} {tmps : Array Value} {R : Ending → World → Prop} (hdn : ∀ b : Nat, w0.dn b → w0.w.heap.size ≤ b)
    (hend : ∀ a w, a.tmps = tmps → Rel S0 N w0 m st a w → ∃ v, (results fn tmps).run P w = .ok v w ∧ R (.returned v) w) : ∀ (df : List Deferred) (a : Act) (w : World), a.defers = df → a.tmps = tmps → Rel S0 N w0 m st a w → LeavesInM Fence.wide 0 P fn tmps R df .returning w
  | [], a, w, _, ht, hR => hend a w ht hR
  | d :: df, a, w, hd, ht, hR => by
    obtain ⟨Ds, g1, hnd, g2⟩ := hR.df
    rw [hd] at g1
    cases Ds with
    | nil => cases g1
    | cons D Ds =>
      simp only [List.map_cons, List.cons.injEq] at g1
      obtain ⟨rfl, rfl⟩ := g1
      obtain ⟨hn1, hn2⟩ := List.nodup_cons.1 hnd
      obtain ⟨k1, k2, k3⟩ := g2 D (List.mem_cons_self ..)
      refine ⟨by simp, .inl ⟨D, w.putObj D (.deferred none), rfl, run_takeDeferred k3, ?_⟩⟩
      refine leaves_of_rel hdn hend _ { a with defers := Ds.map (fun b => { target := .collected b, args := #[] }) } _ rfl ht ?_
      refine hR.move rfl (by simp) (fun _ _ h => h) (fun b cs T fz _ hh => ?_) (fun b hb => hR.un b (by simpa using hb)) (foot_put hR.bel (.inr (hdn _ k2))) hR.lv ⟨Ds, rfl, hn2, fun b hb => ?_⟩ hR.mb
      · rw [World.putObj_heap_other]
        · exact hh
        · rintro rfl; rw [k3] at hh; cases hh
      · obtain ⟨j1, j2, j3⟩ := g2 b (List.mem_cons_of_mem _ hb)
        refine ⟨j1, j2, ?_⟩
        rw [World.putObj_heap_other]
        · exact j3
        · rintro rfl; exact hn1 hb

section
variable {N n : Nat} {P : Program}
/-- In the order of the text, and on. -/
theorem list_on {S0 : Nat → Prop} {wd : Wd} {F : Fence} {cl : Cl} {Q : Exit → Act → World → Prop} (hcl : ∀ f ds r, cl f ds = some r → CallOkW wd P f ds r) (hF : FOk F) {ops : Array Oper} {os : List O} (hO : Ops P N ops os) {fin : St} {rest : List Nat} : ∀ (l : List Nat) {m : Key → Nat} {st : St} {a : Act} {w : World},
    Rel S0 N wd m st a w → exsI cl os l st = some fin → (∀ m' a' w', Rel S0 N wd m' fin a' w' → wpOpsIn F n P ops Q rest a' w') → wpOpsIn F n P ops Q (l ++ rest) a w
  | [], m, st, a, w, hR, h, hK => by
    simp only [exsI, Option.some.injEq] at h
    subst h
    exact hK m a w hR
  | i :: l, m, st, a, w, hR, h, hK => by
    simp only [exsI, Option.bind_eq_some_iff] at h
    obtain ⟨o, ho, s, h1, h2⟩ := h
    rw [List.cons_append, wpOpsIn_cons]
    exact step_sound hcl hF hO hR ho h1 fun m' a' w' hR' => list_on hcl hF hO l hR' h2 hK

theorem calv_inv {P : Program} {op : Op} {x : E} {es : List E} (h : compI P op = some (.calv x es)) : ∃ c u, op = .call c ∧ c.callee = .value u ∧ compE u = some x ∧ mapO compE c.args.toList = some es := by
  cases op
  case call c =>
    refine ⟨c, ?_⟩
    simp only [compI] at h
    generalize hc : c.callee = ce at h
    cases ce with
    | value u =>
      have h' : ((compE u).bind fun x => (mapO compE c.args.toList).map fun xs => I.calv x xs) = some (.calv x es) ∨ ∃ f q, (.call f q false : I) = .calv x es := by
        cases u with
        | func f =>
          simp only [Option.bind_eq_some_iff, Option.map_eq_some_iff] at h
          obtain ⟨_, _, q, _, h⟩ := h
          exact .inr ⟨f, q, h⟩
        | _ => exact .inl h
      rcases h' with h' | ⟨_, _, h'⟩
      · simp only [Option.bind_eq_some_iff, Option.map_eq_some_iff, I.calv.injEq] at h'
        obtain ⟨x', hx, q, hq, rfl, rfl⟩ := h'
        exact ⟨u, rfl, rfl, hx, hq⟩
      · cases h'
    | builtin b =>
      exfalso
      cases b <;> simp only [Option.map_eq_some_iff, reduceCtorEq, and_false, exists_false] at h
      all_goals ((split at h) <;> try (cases h; done))
      all_goals ((try split at h) <;> simp only [Option.bind_eq_some_iff, Option.map_eq_some_iff, reduceCtorEq, and_false, exists_false] at h)
      all_goals (obtain ⟨_, _, h⟩ := h; (try split at h) <;> simp only [Option.bind_eq_some_iff, Option.map_eq_some_iff, reduceCtorEq, and_false, exists_false] at h)
    | _ => cases h
  all_goals (exfalso; simp only [compI, Option.bind_eq_some_iff, Option.map_eq_some_iff, reduceCtorEq, and_false, exists_false, Option.some.injEq] at h)
  case makeFunc f _ _ => cases f <;> first | (cases h; done) | (simp only [] at h; split at h <;> simp at h)
  all_goals (repeat' (first | (cases h; done) | (obtain ⟨_, _, h⟩ := h) | (split at h) | (simp only [Option.bind_eq_some_iff, Option.map_eq_some_iff, reduceCtorEq, and_false, exists_false, Option.some.injEq] at h)))
theorem exs_at {cl : Cl} {os : List O} : ∀ (l : List O) (i : Nat) (st : St), (∀ j o, l[j]? = some o → os[i + j]? = some o) → exs cl l st = exsI cl os (List.range' i l.length) st
  | [], i, st, _ => rfl
  | o :: l, i, st, h => by
    have h0 : os[i]? = some o := h 0 o rfl
    rw [List.length_cons, List.range'_succ]
    simp only [exs, exsI, h0, Option.bind_some]
    refine congrArg _ (funext fun s => ?_)
    exact exs_at l (i + 1) s fun j o hj => by rw [show i + 1 + j = i + (j + 1) by omega]; exact h (j + 1) o (by simpa using hj)

end
end Go.AM

/- A call that shares the caller's boxes, part 1: into the callee's frame and back. -/
namespace Go.AM
open Go Go.RowKit

theorem joinH_at (h hp : Hp) : ∀ (l : List Key) (k : Key), (k ∈ l → joinH h hp l k = hp k) ∧ (k ∉ l → joinH h hp l k = h k)
  | [], k => ⟨by simp, fun _ => rfl⟩
  | q :: r, k => by
    obtain ⟨h1, h2⟩ := joinH_at h hp r k
    simp only [joinH, hupdO]
    by_cases e : k = q
    · subst e; simp
    · simp only [e, if_false, List.mem_cons, false_or]
      exact ⟨h1, h2⟩
theorem argFA_get : ∀ (as : List A) (i : Nat), (∀ j x, argFA i as j = some x → i ≤ j ∧ as[j - i]? = some x)
  | [], i, j, x, h => by simp [argFA, fr0] at h
  | d :: r, i, j, x, h => by
    simp only [argFA, upd, updO] at h
    split at h
    · rename_i e
      subst e
      cases h
      exact ⟨Nat.le_refl _, by simp⟩
    · rename_i e
      obtain ⟨h1, h2⟩ := argFA_get r (i + 1) j x h
      refine ⟨by omega, ?_⟩
      rw [show j - i = (j - (i + 1)) + 1 by omega]
      simpa using h2
theorem RepAL.get {m : Key → Nat} {hp : Hp} {S : Nat → Prop} {w : World} : ∀ {xs : List A} {vs : List Value}, RepAL m hp S w xs vs → ∀ (j : Nat) (x : A), xs[j]? = some x → ∃ v, vs[j]? = some v ∧ RepA m hp S w x v
  | _, _, .nil, j, x, h => by simp at h
  | _, _, .cons y cs v vs h t, 0, x, hj => by
    simp at hj
    subst hj
    exact ⟨v, by simp, h⟩
  | _, _, .cons y cs v vs h t, j + 1, x, hj => by
    simp at hj
    obtain ⟨u, h1, h2⟩ := t.get j x hj
    exact ⟨u, by simpa using h1, h2⟩
theorem RepAL.len {m : Key → Nat} {hp : Hp} {S : Nat → Prop} {w : World} : ∀ {xs : List A} {vs : List Value}, RepAL m hp S w xs vs → xs.length = vs.length
  | _, _, .nil => rfl
  | _, _, .cons _ _ _ _ _ t => by simp [t.len]
theorem RepAL.app {m : Key → Nat} {hp : Hp} {S : Nat → Prop} {w : World} : ∀ {xs ys : List A} {vs us : List Value}, RepAL m hp S w xs vs → RepAL m hp S w ys us → RepAL m hp S w (xs ++ ys) (vs ++ us)
  | _, _, _, _, .nil, k => k
  | _, _, _, _, .cons x cs v vs h t, k => .cons x _ v _ h (t.app k)
theorem refPL_app {p : Key → Prop} {q : Key → Nat → Prop} : ∀ {xs ys : List A}, refPL p q xs → refPL p q ys → refPL p q (xs ++ ys)
  | [], _, _, k => k
  | _ :: _, _, h, k => ⟨h.1, refPL_app h.2 k⟩

/-- Blocks that are put aside. -/
def Asd (m : Key → Nat) (hp : Hp) (ak : List Key) (b : Nat) : Prop := ∃ k o, k ∈ ak ∧ hp k = some o ∧ m k = b
def inlWd (m : Key → Nat) (hp2 : Hp) (ks : List Key) (W : World) : Wd := ⟨W, Live m hp2, mbOf m hp2 ks, fun b => W.heap.size ≤ b⟩

section
variable {S0 : Nat → Prop} {N : Nat} {w0 : Wd} {m : Key → Nat} {s1 s2 : St} {a : Act} {W : World} {vs : List Nat} {ks ak : List Key}

structure InlIs (s1 s2 : St) (vs : List Nat) (ks ak : List Key) : Prop where
  wait : ∀ i x, s2.fr i = some x → i ∈ vs ∧ s1.fr i = some x ∧ waitO ks ak (some x) = true
  heap : ∀ k o, s2.hp k = some o → k ∈ ks ∧ s1.hp k = some o
  all : ∀ k, k ∈ ks → s2.hp k = s1.hp k
  refs : ∀ k o, s2.hp k = some o → refsL ks o.cs = true
  asd : ∀ k o, k ∈ ak → s1.hp k = some o → o.fz = false ∧ 0 < o.es ∧ ∃ ds, allD o.cs = some ds
  dis : ∀ k, k ∈ ak → k ∉ ks
  px : s2.px = s1.px
theorem inlSt_is (h : inlSt s1 vs ks ak = some s2) : InlIs s1 s2 vs ks ak := by
  unfold inlSt at h
  obtain ⟨⟨h1, h2, h3⟩, h⟩ := guardO_some h
  simp only [Option.some.injEq] at h
  subst h
  rw [List.all_eq_true] at h1 h3
  have hh : ∀ k o, keepH s1.hp ks k = some o → k ∈ ks ∧ s1.hp k = some o := by
    intro k o ho
    by_cases hi : k ∈ ks
    · rw [(keepH_at s1.hp ks k).1 hi] at ho; exact ⟨hi, ho⟩
    · rw [(keepH_at s1.hp ks k).2 hi] at ho; cases ho
  refine ⟨fun i x hx => ?_, hh, fun k hk => (keepH_at s1.hp ks k).1 hk, fun k o ho => ?_, fun k o hk ho => ?_, fun k hk hk2 => ?_, rfl⟩
  · dsimp only at hx
    by_cases hi : i ∈ vs
    · rw [(keepF_at s1.fr vs i).1 hi] at hx
      have := h1 i hi
      rw [hx] at this
      exact ⟨hi, hx, this⟩
    · rw [(keepF_at s1.fr vs i).2 hi] at hx; cases hx
  · obtain ⟨hk, ho⟩ := hh k o ho
    exact keepRefsH_at h2 k hk o ho
  · have := h3 k hk
    rw [Bool.and_eq_true, ho] at this
    have h4 := this.1
    simp only [asideO, Bool.and_eq_true, Bool.not_eq_true', decide_eq_true_eq] at h4
    exact ⟨h4.1.1, h4.1.2, Option.isSome_iff_exists.1 h4.2⟩
  · have := h3 k hk
    rw [Bool.and_eq_true] at this
    have h4 := this.2
    rw [isIn_mem.2 hk2] at h4
    cases h4

/-- The callee's frame. -/
theorem inl_enter (hR : Rel S0 N w0 m s1 a W) (hi : InlIs s1 s2 vs ks ak) {as : List A} {vals : List Value} (hrep : RepAL m s1.hp (Im S0 m s1.hp W) W as vals) (hcl : refPL (IsBox s1.hp) (IsArr s1.hp) as) (hrf : refsL ks as = true)
    {n1 : Nat} (hn : vals.length ≤ n1) {px : Key} :
    Rel (fun b => S0 b ∧ ¬ Asd m s1.hp ak b) n1 (inlWd m s2.hp ks W) m ⟨argFA 0 as, s2.hp, px⟩ { tmps := vals.toArray ++ Array.replicate (n1 - vals.toArray.size) undef, defers := [] } W := by
  have hB : ∀ k, k ∈ ks ∧ IsBox s1.hp k → IsBox s2.hp k := fun k ⟨hk, o, ho, he⟩ => ⟨o, by rw [hi.all k hk]; exact ho, he⟩
  have hA : ∀ k n, k ∈ ks ∧ IsArr s1.hp k n → IsArr s2.hp k n := fun k n ⟨hk, o, ho, he⟩ => ⟨o, by rw [hi.all k hk]; exact ho, he⟩
  have hlive : ∀ b, Live m s2.hp b → Live m s1.hp b := fun b ⟨k, o, ho, hf, hm⟩ => ⟨k, o, (hi.heap k o ho).2, hf, hm⟩
  have hasd : ∀ b, Asd m s1.hp ak b → Live m s1.hp b := fun b ⟨k, o, hk, ho, hm⟩ => ⟨k, o, ho, (hi.asd k o hk ho).1, hm⟩
  have hIm : ∀ b, Im S0 m s1.hp W b → Im (fun b => S0 b ∧ ¬ Asd m s1.hp ak b) m s2.hp W b := fun b hb => ⟨⟨hb.1, fun h => hb.2.2 (hasd b h)⟩, hb.2.1, fun h => hb.2.2 (hlive b h)⟩
  have hP : ∀ q, IsBox s2.hp q → SameP m m s1.hp s2.hp q := fun q ⟨oq, hq, _⟩ _ _ => ⟨⟨oq, (hi.heap q oq hq).2⟩, rfl⟩
  have hQ : ∀ q n, IsArr s2.hp q n → SameQ m m s1.hp s2.hp W W q n :=
    fun q n _ o2 ho2 hn2 => ⟨o2, (hi.heap q o2 ho2).2, rfl, rfl, hn2, fun cs' T' fz' hc => ⟨cs', fz', hc, rfl⟩⟩
  have hcl2 : refPL (IsBox s2.hp) (IsArr s2.hp) as := refPL_mono hB hA (refPL_and (refsL_refPL hrf) hcl)
  have hclo : ∀ k o x, s2.hp k = some o → x ∈ o.cs → Closed s2.hp x := by
    intro k o x ho hx
    exact refP_mono hB hA (refP_and (refPL_of_mem (refsL_refPL (hi.refs k o ho)) x hx) (hR.clh k o x (hi.heap k o ho).2 hx))
  refine ⟨fun i x hx => ?_, fun k o ho => ?_, fun k k' o o' h1 h2 he => hR.inj k k' o o' (hi.heap _ _ h1).2 (hi.heap _ _ h2).2 he, fun i x hx => ?_, hclo, fun k o ho => ⟨hR.ge k o (hi.heap k o ho).2, ?_⟩, fun k o ho hf => .inl ⟨k, o, ho, hf, rfl⟩, Foot.refl _ _, Marks.nil _ _ _, ?_, fun b hb => ⟨hR.un b hb, ?_⟩, fun k b hb => ?_⟩
  · obtain ⟨_, hj⟩ := argFA_get as 0 i x hx
    obtain ⟨v, hv, hxv⟩ := hrep.get (i - 0) x hj
    rw [Nat.sub_zero] at hv
    have : (vals.toArray ++ Array.replicate (n1 - vals.toArray.size) undef).getD i undef = v := by
      have hil : i < vals.length := (List.getElem?_eq_some_iff.1 hv).1
      rw [Array.getD_eq_getD_getElem?, Array.getElem?_append_left (by simpa using hil)]
      simp [hv]
    rw [this]
    exact hxv.mono hIm (fun _ _ => rfl) _ _ (refP_mono hP hQ (refPL_of_mem hcl2 x (List.mem_of_getElem? hj)))
  · obtain ⟨cs', T', fz', hr⟩ := hR.obj k o (hi.heap k o ho).2
    refine ⟨cs', T', fz', hr.at_, hr.size, hr.free, fun i x hx => ?_⟩
    obtain ⟨v, hv, hx'⟩ := hr.rep i x hx
    exact ⟨v, hv, hx'.mono hIm (fun _ _ => rfl) _ _ (refP_mono hP hQ (hclo k o x ho (List.mem_of_getElem? hx)))⟩
  · obtain ⟨_, hj⟩ := argFA_get as 0 i x hx
    exact refPL_of_mem hcl2 x (List.mem_of_getElem? hj)
  · rintro ⟨q, oq, hq, hoq, hm⟩
    have := hR.inj q k oq o hoq (hi.heap k o ho).2 hm
    subst this
    exact hi.dis q hq (hi.heap q o ho).1
  · simp; omega
  · rintro ⟨q, oq, hq, hoq, hm⟩
    have h1 := hR.lt hoq
    have h2 : W.heap.size ≤ b := hb
    omega
  · obtain ⟨_, g1, g2⟩ := mbOf_some hb
    exact ⟨g1, g2⟩

/-- And back. -/
theorem inl_leave (hR : Rel S0 N w0 m s1 a W) (hi : InlIs s1 s2 vs ks ak) (hmb : ∀ k b, w0.mb k = some b → k ∈ ks) {n1 : Nat} {m3 : Key → Nat} {s3 : St} {a3 : Act} {W3 : World}
    (R3 : Rel (fun b => S0 b ∧ ¬ Asd m s1.hp ak b) n1 (inlWd m s2.hp ks W) m3 s3 a3 W3) (hgone : ∀ k, k ∈ ak → s3.hp k = none) :
    ∃ m4, Rel S0 N w0 m4 ⟨s2.fr, joinH s3.hp s1.hp ak, s1.px⟩ a W3 ∧ ∀ (x : A) (v : Value), RepA m3 s3.hp (Im (fun b => S0 b ∧ ¬ Asd m s1.hp ak b) m3 s3.hp W3) W3 x v → Closed s3.hp x → RepA m4 (joinH s3.hp s1.hp ak) (Im S0 m4 (joinH s3.hp s1.hp ak) W3) W3 x v ∧ Closed (joinH s3.hp s1.hp ak) x := by
  classical
  obtain ⟨hj, hhj⟩ : ∃ hj, hj = joinH s3.hp s1.hp ak := ⟨_, rfl⟩
  have hja : ∀ k, k ∈ ak → hj k = s1.hp k := fun k hk => by rw [hhj]; exact (joinH_at s3.hp s1.hp ak k).1 hk
  have hjn : ∀ k, k ∉ ak → hj k = s3.hp k := fun k hk => by rw [hhj]; exact (joinH_at s3.hp s1.hp ak k).2 hk
  have h3n : ∀ k o, s3.hp k = some o → k ∉ ak := fun k o ho hk => by rw [hgone k hk] at ho; cases ho
  obtain ⟨m4, hm4⟩ : ∃ m4 : Key → Nat, m4 = fun k => if k ∈ ak then m k else m3 k := ⟨_, rfl⟩
  have m4a : ∀ k, k ∈ ak → m4 k = m k := fun k hk => by rw [hm4]; exact if_pos hk
  have m4n : ∀ k, k ∉ ak → m4 k = m3 k := fun k hk => by rw [hm4]; exact if_neg hk
  rw [← hhj]
  have hsz : W.heap.size ≤ W3.heap.size := R3.bel.size
  have hlv2 : ∀ b, Live m s2.hp b → Live m s1.hp b := fun b ⟨k, o, ho, hf, hm⟩ => ⟨k, o, (hi.heap k o ho).2, hf, hm⟩
  have hblk : ∀ b, b < W.heap.size → ¬ Live m s2.hp b → W3.heap[b]? = W.heap[b]? := fun b hb hn => R3.bel.block b hb hn
  have hlive4 : ∀ b, Live m4 hj b → Live m s1.hp b ∨ W.heap.size ≤ b := by
    rintro b ⟨k, o, ho, hf, hm⟩
    by_cases hk : k ∈ ak
    · rw [hja k hk] at ho
      rw [m4a k hk] at hm
      exact .inl ⟨k, o, ho, hf, hm⟩
    · rw [hjn k hk] at ho
      rw [m4n k hk] at hm
      rcases R3.lv k o ho hf with h | h
      · rw [hm] at h; exact .inl (hlv2 b h)
      · rw [hm] at h; exact .inr h
  have hIm1 : ∀ b, Im S0 m s1.hp W b → Im S0 m4 hj W3 b := fun b hb => ⟨hb.1, Nat.lt_of_lt_of_le hb.2.1 hsz, fun h => by
    rcases hlive4 b h with h | h
    · exact hb.2.2 h
    · have := hb.2.1; omega⟩
  have hw1 : ∀ b, Im S0 m s1.hp W b → W3.heap[b]? = W.heap[b]? := fun b hb => hblk b hb.2.1 fun h => hb.2.2 (hlv2 b h)
  have hIm3 : ∀ b, Im (fun b => S0 b ∧ ¬ Asd m s1.hp ak b) m3 s3.hp W3 b → Im S0 m4 hj W3 b := by
    rintro b ⟨⟨h1, h2⟩, h3, h4⟩
    refine ⟨h1, h3, ?_⟩
    rintro ⟨k, o, ho, hf, hm⟩
    by_cases hk : k ∈ ak
    · rw [hja k hk] at ho
      rw [m4a k hk] at hm
      exact h2 ⟨k, o, hk, ho, hm⟩
    · rw [hjn k hk] at ho
      rw [m4n k hk] at hm
      exact h4 ⟨k, o, ho, hf, hm⟩
  have hP3 : ∀ q, IsBox s3.hp q → SameP m3 m4 s3.hp hj q := fun q ⟨oq, hq, _⟩ o' _ => ⟨⟨oq, hq⟩, m4n q (h3n q oq hq)⟩
  have hQ3 : ∀ q n, IsArr s3.hp q n → SameQ m3 m4 s3.hp hj W3 W3 q n := fun q n ⟨oq, hq, _⟩ o2 ho2 hn2 => by
    have hk := h3n q oq hq
    rw [hjn q hk] at ho2
    exact ⟨o2, ho2, m4n q hk, rfl, hn2, fun cs' T' fz' hc => ⟨cs', fz', hc, rfl⟩⟩
  have hB3 : ∀ q, IsBox s3.hp q → IsBox hj q := fun q ⟨oq, hq, he⟩ => ⟨oq, by rw [hjn q (h3n q oq hq)]; exact hq, he⟩
  have hA3 : ∀ q n, IsArr s3.hp q n → IsArr hj q n := fun q n ⟨oq, hq, he⟩ => ⟨oq, by rw [hjn q (h3n q oq hq)]; exact hq, he⟩
  have res : ∀ (x : A) (v : Value), RepA m3 s3.hp (Im (fun b => S0 b ∧ ¬ Asd m s1.hp ak b) m3 s3.hp W3) W3 x v → Closed s3.hp x → RepA m4 hj (Im S0 m4 hj W3) W3 x v ∧ Closed hj x :=
    fun x v hx hc => ⟨hx.mono hIm3 (fun _ _ => rfl) _ _ (refP_mono hP3 hQ3 hc), refP_mono hB3 hA3 hc⟩
  have hmbk : ∀ k o, k ∈ ks → s1.hp k = some o → o.es = 0 → (∃ o', s3.hp k = some o' ∧ o'.es = 0) ∧ m3 k = m k := fun k o hk ho he =>
    R3.mb k (m k) (mbOf_box hk (by rw [hi.all k hk]; exact ho) he)
  have aside_blk : ∀ k o, k ∈ ak → s1.hp k = some o → W3.heap[m k]? = W.heap[m k]? := by
    intro k o hk ho
    refine hblk _ (hR.lt ho) ?_
    rintro ⟨q, oq, hq, _, hm⟩
    obtain ⟨hqk, hq1⟩ := hi.heap q oq hq
    have := hR.inj q k oq o hq1 ho hm
    subst this
    exact hi.dis q hk hqk
  -- the slots that wait
  have hfr : ∀ i x, s2.fr i = some x → RepA m4 hj (Im S0 m4 hj W3) W3 x (a.tmps.getD i undef) ∧ Closed hj x := by
    intro i x hx
    obtain ⟨_, h1, h2⟩ := hi.wait i x hx
    have hr := hR.fr i x h1
    have hc := hR.clf i x h1
    cases x with
    | d y => exact ⟨.d _ _ ((rep_d hr).mono hIm1 hw1), trivial⟩
    | ptr k off =>
      have hk : k ∈ ks := isIn_mem.1 h2
      obtain ⟨o, ho, he⟩ := hc
      obtain ⟨⟨o', ho', he'⟩, hm⟩ := hmbk k o hk ho he
      have hka := h3n k o' ho'
      refine ⟨?_, o', by rw [hjn k hka]; exact ho', he'⟩
      cases hr with
      | ptr _ _ _ hs hv => exact .ptr k off _ hs fun _ _ => by rw [m4n k hka, hm]; exact hv o ho
    | own k n =>
      have hk : k ∈ ak := isIn_mem.1 h2
      obtain ⟨o, ho, he, hle⟩ := hc
      refine ⟨?_, o, by rw [hja k hk]; exact ho, he, hle⟩
      cases hr with
      | own _ _ _ hs hv =>
        refine .own k n _ hs fun o' ho' hn => ?_
        rw [hja k hk, ho] at ho'
        cases ho'
        obtain ⟨cap, cs, T, fz, e1, e2, e3, e4⟩ := hv o ho hn
        exact ⟨cap, cs, T, fz, by rw [m4a k hk]; exact e1, e2, by rw [m4a k hk, aside_blk k o hk ho]; exact e3, e4⟩
    | fn f xs =>
      have hcap : ∀ (xs : List A) (us : List Value), xs.all (capO ks) = true → RepAL m s1.hp (Im S0 m s1.hp W) W xs us → refPL (IsBox s1.hp) (IsArr s1.hp) xs → RepAL m4 hj (Im S0 m4 hj W3) W3 xs us ∧ refPL (IsBox hj) (IsArr hj) xs := by
        intro xs
        induction xs with
        | nil => intro us _ hu _; cases hu; exact ⟨.nil, trivial⟩
        | cons y ys ih =>
          intro us ha hu hcl
          simp only [List.all_cons, Bool.and_eq_true] at ha
          cases hu with
          | cons _ _ v vs hy ht =>
            obtain ⟨i1, i2⟩ := ih vs ha.2 ht hcl.2
            have hh : RepA m4 hj (Im S0 m4 hj W3) W3 y v ∧ Closed hj y := by
              cases y with
              | d z => exact ⟨.d _ _ ((rep_d hy).mono hIm1 hw1), trivial⟩
              | ptr k off =>
                have hk : k ∈ ks := isIn_mem.1 ha.1
                obtain ⟨o, ho, he⟩ := hcl.1
                obtain ⟨⟨o', ho', he'⟩, hm⟩ := hmbk k o hk ho he
                have hka := h3n k o' ho'
                refine ⟨?_, o', by rw [hjn k hka]; exact ho', he'⟩
                cases hy with
                | ptr _ _ _ hs hv => exact .ptr k off _ hs fun _ _ => by rw [m4n k hka, hm]; exact hv o ho
              | _ => cases ha.1
            exact ⟨.cons _ _ _ _ hh.1 i1, hh.2, i2⟩
      generalize a.tmps.getD i undef = u at hr
      cases hr with
      | fn _ _ us hl =>
        obtain ⟨i1, i2⟩ := hcap xs us h2 hl hc
        exact ⟨.fn f xs us i1, i2⟩
    | _ => cases h2
  refine ⟨m4, ⟨fun i x hx => (hfr i x hx).1, fun k o ho => ?_, fun k k' o o' h1 h2 he => ?_, fun i x hx => (hfr i x hx).2, fun k o x ho hx => ?_, fun k o ho => ?_, fun k o ho hf => ?_, ?_, ?_, hR.ts, fun b hb => hR.un b (Nat.le_trans hsz hb), fun k b hb => ?_⟩, res⟩
  · dsimp only at ho
    by_cases hk : k ∈ ak
    · rw [hja k hk] at ho
      obtain ⟨_, _, ds, hds⟩ := hi.asd k o hk ho
      obtain ⟨cs, T, fz, hr⟩ := hR.obj k o ho
      refine ⟨cs, T, fz, by rw [m4a k hk, aside_blk k o hk ho]; exact hr.at_, hr.size, hr.free, fun i x hx => ?_⟩
      obtain ⟨v, hv, hx'⟩ := hr.rep i x hx
      obtain ⟨d, rfl⟩ : ∃ d, x = .d d := by
        have := allD_map hds
        rw [this, List.getElem?_map, Option.map_eq_some_iff] at hx
        obtain ⟨d, _, rfl⟩ := hx
        exact ⟨d, rfl⟩
      exact ⟨v, hv, .d _ _ ((rep_d hx').mono hIm1 hw1)⟩
    · rw [hjn k hk] at ho
      obtain ⟨cs, T, fz, hr⟩ := R3.obj k o ho
      refine ⟨cs, T, fz, by rw [m4n k hk]; exact hr.at_, hr.size, hr.free, fun i x hx => ?_⟩
      obtain ⟨v, hv, hx'⟩ := hr.rep i x hx
      exact ⟨v, hv, (res x v hx' (R3.clh k o x ho (List.mem_of_getElem? hx))).1⟩
  · dsimp only at h1 h2
    by_cases hk : k ∈ ak <;> by_cases hk' : k' ∈ ak
    · rw [hja k hk] at h1; rw [hja k' hk'] at h2; rw [m4a k hk, m4a k' hk'] at he
      exact hR.inj k k' o o' h1 h2 he
    · rw [hja k hk] at h1; rw [hjn k' hk'] at h2; rw [m4a k hk, m4n k' hk'] at he
      exact absurd ⟨k, o, hk, h1, he⟩ (R3.ge k' o' h2).2
    · rw [hjn k hk] at h1; rw [hja k' hk'] at h2; rw [m4n k hk, m4a k' hk'] at he
      exact absurd ⟨k', o', hk', h2, he.symm⟩ (R3.ge k o h1).2
    · rw [hjn k hk] at h1; rw [hjn k' hk'] at h2; rw [m4n k hk, m4n k' hk'] at he
      exact R3.inj k k' o o' h1 h2 he
  · dsimp only at ho
    by_cases hk : k ∈ ak
    · rw [hja k hk] at ho
      obtain ⟨_, _, ds, hds⟩ := hi.asd k o hk ho
      rw [allD_map hds] at hx
      obtain ⟨d, _, rfl⟩ := List.mem_map.1 hx
      trivial
    · rw [hjn k hk] at ho
      exact refP_mono hB3 hA3 (R3.clh k o x ho hx)
  · dsimp only at ho
    by_cases hk : k ∈ ak
    · rw [hja k hk] at ho; rw [m4a k hk]; exact hR.ge k o ho
    · rw [hjn k hk] at ho; rw [m4n k hk]; exact (R3.ge k o ho).1
  · rcases hlive4 (m4 k) ⟨k, o, ho, hf, rfl⟩ with ⟨q, oq, hq, hfq, hm⟩ | h
    · rw [← hm]; exact hR.lv q oq hq hfq
    · exact .inr (Nat.le_trans hR.bel.size h)
  · refine hR.bel.trans R3.bel ?_
    rintro b ⟨q, oq, hq, hfq, hm⟩
    rw [← hm]
    exact hR.lv q oq (hi.heap q oq hq).2 hfq
  · refine hR.df.step fun b hb hd => ?_
    rw [hblk b (heap_lt hd) ?_]
    · exact hd
    · rintro ⟨q, oq, hq, _, hm⟩
      obtain ⟨cs, T, fz, hr⟩ := hR.obj q oq (hi.heap q oq hq).2
      have hat := hr.at_
      rw [hm, hd] at hat
      cases hat
  · obtain ⟨⟨o, ho, he⟩, hm⟩ := hR.mb k b hb
    have hk := hmb k b hb
    obtain ⟨⟨o', ho', he'⟩, hm3⟩ := hmbk k o hk ho he
    have hka := h3n k o' ho'
    exact ⟨⟨o', by dsimp only; rw [hjn k hka]; exact ho', he'⟩, by rw [m4n k hka, hm3]; exact hm⟩
end
end Go.AM

/- A call that shares the caller's boxes, part 2: its region. -/
namespace Go.AM
open Go Go.RowKit

/-- Where the order is drawn, no function value is called, and none of these functions. -/
def okI (L : List Nat) : Code → Bool
  | .region _ ops draw => !draw || ops.toList.all fun o => match o.op with
    | .call c => match c.callee with
      | .value (.func f) => !L.contains f
      | .value _ => false
      | _ => true
    | _ => true
  | .seq a b => okI L a && okI L b
  | .cond _ a b => okI L a && okI L b
  | .block _ c | .loop c | .scope c => okI L c
  | .rangeFunc _ _ a b => okI L a && okI L b
  | _ => true
theorem okI_strip (L : List Nat) : ∀ c : Code, okI L (strip c) = okI L c
  | .scope c => by simp only [strip, okI]; exact okI_strip L c
  | .skip | .region .. | .seq .. | .cond .. | .block .. | .loop _ | .exit _ | .goto _ | .label _ | .ret | .refuse _ | .rangeFunc .. => rfl

theorem call_inv {P : Program} {op : Op} {f : Nat} {es : List E} {b : Bool} (h : compI P op = some (.call f es b)) : ∃ c, op = .call c ∧ c.callee = .value (.func f) ∧ (∃ fn, P.funcs[f]? = some fn ∧ fn.body.isSome = true ∧ fn.name ≠ "runtime.NumGoroutine") ∧ mapO compE c.args.toList = some es := by
  cases op
  case call c =>
    refine ⟨c, ?_⟩
    simp only [compI] at h
    generalize hc : c.callee = ce at h
    cases ce with
    | value u =>
      cases u with
      | func g =>
        simp only [Option.bind_eq_some_iff, Option.map_eq_some_iff, I.call.injEq] at h
        obtain ⟨_, ⟨fn, hf, hchk⟩, q, hq, rfl, rfl, rfl⟩ := h
        split at hchk
        · rename_i hb
          simp only [Bool.and_eq_true, bne_iff_ne, ne_eq] at hb
          exact ⟨rfl, rfl, ⟨fn, hf, hb.1, hb.2⟩, hq⟩
        · cases hchk
      | _ => simp only [Option.bind_eq_some_iff, Option.map_eq_some_iff, reduceCtorEq, and_false, exists_false] at h
    | builtin b =>
      exfalso
      cases b <;> simp only [Option.map_eq_some_iff, reduceCtorEq, and_false, exists_false] at h
      all_goals ((split at h) <;> try (cases h; done))
      all_goals ((try split at h) <;> simp only [Option.bind_eq_some_iff, Option.map_eq_some_iff, reduceCtorEq, and_false, exists_false] at h)
      all_goals (obtain ⟨_, _, h⟩ := h; (try split at h) <;> simp only [Option.bind_eq_some_iff, Option.map_eq_some_iff, reduceCtorEq, and_false, exists_false] at h)
    | _ => cases h
  all_goals (exfalso; simp only [compI, Option.bind_eq_some_iff, Option.map_eq_some_iff, reduceCtorEq, and_false, exists_false, Option.some.injEq] at h)
  case makeFunc f _ _ => cases f <;> first | (cases h; done) | (simp only [] at h; split at h <;> simp at h)
  all_goals (repeat' (first | (cases h; done) | (obtain ⟨_, _, h⟩ := h) | (split at h) | (simp only [Option.bind_eq_some_iff, Option.map_eq_some_iff, reduceCtorEq, and_false, exists_false, Option.some.injEq] at h)))

section
variable {S0 : Nat → Prop} {N : Nat} {w0 : Wd} {m : Key → Nat} {st : St} {a : Act} {w : World} {P : Program}
variable {F : Fence} {n : Nat} {Q : Exit → Act → World → Prop} {cl : Cl}

theorem calA_rep {hp : Hp} {S : Nat → Prop} {y : A} {v : Value} {f : Nat} {caps : List A} (h : RepA m hp S w y v) (hq : calA y = some (f, caps)) (hc : Closed hp y) : ∃ us : List Value, v = .func (.func f) #[] us.toArray ∧ RepAL m hp S w caps us ∧ refPL (IsBox hp) (IsArr hp) caps := by
  cases h with
  | d x _ h =>
    cases h with
    | fn g cs vs hl =>
      simp only [calA, Option.some.injEq, Prod.mk.injEq] at hq
      obtain ⟨rfl, rfl⟩ := hq
      refine ⟨vs, rfl, ?_, ?_⟩
      · have key : ∀ (xs : List D) (us : List Value), RepL S w xs us → RepAL m hp S w (xs.map A.d) us := by
          intro xs
          induction xs with
          | nil => intro us hu; cases hu; exact .nil
          | cons x xs ih =>
            intro us hu
            cases hu with
            | cons _ _ v vs hx ht => exact .cons _ _ _ _ (.d _ _ hx) (ih vs ht)
        exact key _ _ hl
      · exact refPL_mem fun x hx => by
          obtain ⟨d, _, rfl⟩ := List.mem_map.1 hx
          trivial
    | _ => simp [calA] at hq
  | fn g xs us h =>
    simp only [calA, Option.some.injEq, Prod.mk.injEq] at hq
    obtain ⟨rfl, rfl⟩ := hq
    exact ⟨us, rfl, h, hc⟩
  | _ => simp [calA] at hq

theorem inl_region (hcl : ∀ f ds r, cl f ds = some r → CallOkW w0 P f ds r) (hF : FOk F) {id : Nat} {ops : Array Oper} {pre post : List O} {dst : Option Nat} {x : E} {es : List E} {f np : Nat} {rs : List RV}
    (hos : mapO (compOp P ops) ops.toList = some ((pre ++ ⟨dst, callI x es, none⟩ :: post).map O.er)) (hlt : ((pre ++ (⟨dst, callI x es, none⟩ : O) :: post).map O.er).all (O.within N) = true)
    {vs : List Nat} {ks ak : List Key} (hmb : ∀ k b, w0.mb k = some b → k ∈ ks) (hT : TabAt w0.lk w0.w) (hR : Rel S0 N w0 m st a w) {s1 s2 : St} {av : A} {caps as : List A}
    (h1 : exs cl pre st = some s1) (hx : x.ev s1 = some av) (hq : calA av = some (f, caps)) (has : allE s1 es = some as) (hnp : (as ++ caps).length = np) (hrf : refsL ks (as ++ caps) = true) (hin : inlSt s1 vs ks ak = some s2)
    {fn1 : Func} {body : Code} (hf : P.funcs[f]? = some fn1) (hb : fn1.body = some body) (hnm : fn1.name ≠ "runtime.NumGoroutine") (hN1 : np ≤ fn1.ntmps) (hrs : mapO (compR P) fn1.results.toList = some rs)
    {p : Ex × St} (hB : ∀ (S1 : Nat → Prop) (w1 : Wd) (m1 : Key → Nat) (a1 : Act) (W1 : World) (Q1 : Exit → Act → World → Prop), (∀ k b, w1.mb k = some b → k ∈ ks) → TabAt w1.lk w1.w → Rel S1 fn1.ntmps w1 m1 ⟨argFA 0 (as ++ caps), s2.hp, 0 :: s2.px⟩ a1 W1 →
      (∀ m' a' w', Rel S1 fn1.ntmps w1 m' p.2 a' w' → Q1 p.1.out a' w') → body.wpIn Fence.wide 0 P Q1 a1 W1)
    (hfin : p.1.fin = true) (hgone : (ak.all fun k => goneO (p.2.hp k)) = true) {rv : List A} (hrv : resL p.2 rs = some rv) {fin : St} (hpost : exs cl post ⟨putO s2.fr dst (resA rv), joinH p.2.hp s1.hp ak, s2.px⟩ = some fin)
    (hK : ∀ m' a' w', Rel S0 N w0 m' fin a' w' → Q .normal a' w') : (Code.region id ops false).wpIn F n P Q a w := by
  have hO := ops_of (N := N) hos hlt
  have hlen := hO.len
  simp only [List.length_append, List.length_cons] at hlen
  have hi : pre.length < ops.size := by omega
  obtain ⟨o, hoo⟩ : ∃ o, ops[pre.length]? = some o := ⟨ops[pre.length], by simp [hi]⟩
  obtain ⟨o2, g2, gc, gd, gg⟩ := hO.at_ pre.length o hoo
  have : (pre ++ (⟨dst, callI x es, none⟩ : O) :: post)[pre.length]? = some ⟨dst, callI x es, none⟩ := by simp
  rw [this] at g2
  cases g2
  dsimp only at gc gd gg
  have hdN : ∀ d, dst = some d → d < N := fun d hd => hO.lt ⟨dst, callI x es, none⟩ (by simp) d hd
  have e1 : exsI cl (pre ++ (⟨dst, callI x es, none⟩ : O) :: post) (List.range' 0 pre.length) st = some s1 := by
    rw [← exs_at pre 0 st fun j o hj => by
      have hlt := (List.getElem?_eq_some_iff.1 hj).1
      rw [Nat.zero_add, List.getElem?_append_left hlt]; exact hj]
    exact h1
  have e2 : ∀ s r, exs cl post s = some r → exsI cl (pre ++ (⟨dst, callI x es, none⟩ : O) :: post) (List.range' (pre.length + 1) post.length) s = some r := by
    intro s r hs
    rw [← exs_at post (pre.length + 1) s fun j o hj => by
      rw [List.getElem?_append_right (by omega), show pre.length + 1 + j - pre.length = j + 1 by omega]; simpa using hj]
    exact hs
  have hrange : List.range ops.size = List.range' 0 pre.length ++ pre.length :: (List.range' (pre.length + 1) post.length ++ []) := by
    have hap := @List.range'_append_1 0 pre.length (post.length + 1)
    rw [Nat.zero_add] at hap
    rw [List.append_nil, ← List.range'_succ, List.range_eq_range', ← hlen]
    exact hap.symm
  refine wpIn_region ?_
  rw [hrange]
  refine list_on hcl hF hO _ hR e1 ?_
  intro m1 a1 W1 R1
  rw [wpOpsIn_cons]
  unfold wpOpIn
  simp only [hoo]
  rw [guard_sound R1 gg rfl (b := true) (by simp [wantedO])]
  simp only [if_true]
  have hnb : fn1.body.isSome = true := by rw [hb]; rfl
  -- the callee and its arguments
  obtain ⟨c, hop, us, hargs, hcaps, hcapc, hexec⟩ : ∃ c, o.op = .call c ∧ ∃ us : List Value, mapO compE c.args.toList = some es ∧ RepAL m1 s1.hp (Im S0 m1 s1.hp W1) W1 caps us ∧ refPL (IsBox s1.hp) (IsArr s1.hp) caps ∧
      (execOp a1.eval o).run P W1 = .ok (.enter f (c.args.toList.map a1.eval ++ us).toArray) W1 := by
    have dyn : ∀ c u, o.op = .call c → c.callee = .value u → compE u = some x → mapO compE c.args.toList = some es → ∃ c, o.op = .call c ∧ ∃ us : List Value, mapO compE c.args.toList = some es ∧ RepAL m1 s1.hp (Im S0 m1 s1.hp W1) W1 caps us ∧ refPL (IsBox s1.hp) (IsArr s1.hp) caps ∧
      (execOp a1.eval o).run P W1 = .ok (.enter f (c.args.toList.map a1.eval ++ us).toArray) W1 := by
      intro c u hop hce hxu hma
      obtain ⟨us, hv, k1, k2⟩ := calA_rep (R1.ev hxu hx) hq (E.ev_keys R1 hx)
      refine ⟨c, hop, us, hma, k1, k2, ?_⟩
      have hargsA : c.args.map a1.eval = (c.args.toList.map a1.eval).toArray := by apply Array.ext'; simp
      simp only [execOp, hop, resolve, hce, hv, Deferred.ofValue, Sem.run_bind, Sem.run_pure, Result.andThen_ok, invoke, hargsA]
      rw [callFunc_run hf hnb hnm]
      congr 2
      simp
    cases x with
    | f g =>
      have gc' : compI P o.op = some (.call g es false) := gc
      obtain ⟨c, k1, k2, _, k4⟩ := call_inv gc'
      exact dyn c (.func g) k1 k2 rfl k4
    | t g =>
      obtain ⟨c, u, k1, k2, k3, k4⟩ := calv_inv (x := .t g) (es := es) gc
      exact dyn c u k1 k2 k3 k4
    | c g =>
      obtain ⟨c, u, k1, k2, k3, k4⟩ := calv_inv (x := .c g) (es := es) gc
      exact dyn c u k1 k2 k3 k4
  obtain ⟨hrep, hcl'⟩ := allE_rep R1 hargs has
  refine ⟨fun f _ => hF.fn f, ?_⟩
  rw [Oper.semAt_eq _ _ _ (fun c' h => by rw [hop] at h; cases h), hexec, Oper.uponIn_enter]
  refine ⟨fun h => (by rw [hF.dep] at h; cases h), hF.call ?_⟩
  have hi := inlSt_is hin
  have hrepA := hrep.app hcaps
  have hvl : (c.args.toList.map a1.eval ++ us).length = np := by rw [← hrepA.len, hnp]
  have RC := inl_enter (px := 0 :: s2.px) R1 hi hrepA (refPL_app hcl' hcapc) hrf (n1 := fn1.ntmps) (by omega)
  have tA : TabAt (inlWd m1 s2.hp ks W1).lk (inlWd m1 s2.hp ks W1).w := by
    refine ⟨hT.here R1.bel, ?_⟩
    rintro t ht ⟨k, o, ho, hfz, hm⟩
    rcases R1.lv k o (hi.heap k o ho).2 hfz with g | g
    · exact hT.2 t ht (hm ▸ g)
    · have := (hT.1 t ht).1; omega
  have hgone' : ∀ k, k ∈ ak → p.2.hp k = none := by
    intro k hk
    have := List.all_eq_true.1 hgone k hk
    cases hh : p.2.hp k with
    | none => rfl
    | some o => rw [hh] at this; cases this
  have key : Calls P f (c.args.toList.map a1.eval ++ us).toArray W1 (fun e w' => ∃ v m4, e = .returned v ∧ Rel S0 N w0 m4 ⟨s2.fr, joinH p.2.hp s1.hp ak, s1.px⟩ a1 w' ∧ RepA m4 (joinH p.2.hp s1.hp ak) (Im S0 m4 (joinH p.2.hp s1.hp ak) w') w' (resA rv) v ∧ Closed (joinH p.2.hp s1.hp ak) (resA rv)) := by
    refine callsIn_wide.1 (callsIn_of_wp_marks (n := 0) (F := Fence.wide) hf hb trivial ?_)
    refine hB _ (inlWd m1 s2.hp ks W1) m1 _ W1 _ (fun k b hb => (mbOf_some hb).1) tA RC ?_
    intro m' a' w' hR'
    have fin : LeavesInM Fence.wide 0 P fn1 a'.tmps (fun e w' => ∃ v m4, e = .returned v ∧ Rel S0 N w0 m4 ⟨s2.fr, joinH p.2.hp s1.hp ak, s1.px⟩ a1 w' ∧ RepA m4 (joinH p.2.hp s1.hp ak) (Im S0 m4 (joinH p.2.hp s1.hp ak) w') w' (resA rv) v ∧ Closed (joinH p.2.hp s1.hp ak) (resA rv)) a'.defers .returning w' →
        bodyPostM Fence.wide 0 P fn1 (fun e w' => ∃ v m4, e = .returned v ∧ Rel S0 N w0 m4 ⟨s2.fr, joinH p.2.hp s1.hp ak, s1.px⟩ a1 w' ∧ RepA m4 (joinH p.2.hp s1.hp ak) (Im S0 m4 (joinH p.2.hp s1.hp ak) w') w' (resA rv) v ∧ Closed (joinH p.2.hp s1.hp ak) (resA rv)) p.1.out a' w' := by
      intro h1
      cases hp1 : p.1 with
      | x id => rw [hp1] at hfin; cases hfin
      | n => exact h1
      | r => exact h1
    refine fin ?_
    refine leaves_of_rel (fn := fn1) (P := P) (fun b h => h) (fun a2 w2 ht R2 => ?_) a'.defers a' w' rfl rfl hR'
    obtain ⟨vs', k1, k2, k3⟩ := resL_sound R2 hrs hrv
    rw [ht] at k1
    obtain ⟨m4, R4, res⟩ := inl_leave R1 hi hmb R2 hgone'
    refine ⟨_, results_run k1, oneOr vs', m4, rfl, R4, ?_⟩
    refine res (resA rv) (oneOr vs') ?_ ?_
    · cases k2 with
      | nil => exact .tup _ _ .nil
      | cons y ys v us' hy ht' =>
        cases ht' with
        | nil => exact hy
        | cons y2 ys2 v2 us2 hy2 ht2 => exact .tup _ _ (.cons _ _ _ _ hy (.cons _ _ _ _ hy2 ht2))
    · match rv, k3 with
      | [], k3 => exact k3
      | [y], k3 => exact k3.1
      | y :: z :: r, k3 => exact k3
  refine key.mono ?_
  rintro e w' ⟨v, m4, rfl, R4, k1, k2⟩
  have R5 := R4.put (dst := dst) hdN k1 k2
  rw [gd] at R5
  have hpx := hi.px
  rw [hpx] at hpost
  rw [gd] at hpost
  refine list_on hcl hF hO _ R5 (e2 _ _ hpost) ?_
  intro m6 a6 w6 R6
  exact hK m6 a6 w6 R6
end
end Go.AM

/- Part 17: code, and functions. -/
namespace Go.AM
open Go Go.RowKit

theorem Ex.out_noGoto {Q : Exit → Act → World → Prop} {e : Ex} {a : Act} {w : World} (h : Q e.out a w) : Exit.noGoto Q e.out a w := by cases e <;> exact h

/-- The text's code never compiles to a remark. -/
theorem compC_ne (P : Program) : ∀ c : Code, (∀ vs ks, compC1 P c ≠ some (.keep vs ks)) ∧ ∀ v, compC1 P c ≠ some (.frz v)
  | .scope c => by
    constructor
    · intro vs ks h
      exact (compC_ne P c).1 vs ks (compC_inv (show compC P c = _ from h) (by simp [failC]))
    · intro v h
      exact (compC_ne P c).2 v (compC_inv (show compC P c = _ from h) (by simp [failC]))
  | .skip | .exit _ | .goto _ | .label _ | .ret | .refuse _ => by simp [compC1]
  | .rangeFunc f ps x y => by
    constructor
    · intro vs ks h
      simp only [compC1, Option.bind_eq_some_iff] at h
      obtain ⟨_, _, _, _, _, _, h⟩ := h
      split at h <;> cases h
    · intro v h
      simp only [compC1, Option.bind_eq_some_iff] at h
      obtain ⟨_, _, _, _, _, _, h⟩ := h
      split at h <;> cases h
  | .region id ops draw => by
    constructor
    · intro vs ks h
      simp only [compC1, Option.bind_eq_some_iff] at h
      obtain ⟨os, _, h⟩ := h
      split at h
      · split at h
        · simp at h
        · cases h
      · simp at h
    · intro v h
      simp only [compC1, Option.bind_eq_some_iff] at h
      obtain ⟨os, _, h⟩ := h
      split at h
      · split at h
        · simp at h
        · cases h
      · simp at h
  | .seq a b => by constructor <;> intros <;> simp [compC1, Option.bind_eq_some_iff]
  | .cond x a b => by constructor <;> intros <;> simp [compC1, Option.bind_eq_some_iff]
  | .block id c => by constructor <;> intros <;> simp [compC1, Option.bind_eq_some_iff]
  | .loop c => by constructor <;> intros <;> simp [compC1, Option.bind_eq_some_iff]

theorem er_seq (x y : C) : (∃ vs ks, y = .keep vs ks ∧ (C.seq x y).er = x.er) ∨ (∃ vs ks, x = .keep vs ks ∧ (C.seq x y).er = y.er) ∨ (∃ v, y = .frz v ∧ (C.seq x y).er = x.er) ∨ (∃ v, x = .frz v ∧ (C.seq x y).er = y.er) ∨ (C.seq x y).er = .seq x.er y.er := by
  cases y <;> first
    | exact .inl ⟨_, _, rfl, rfl⟩
    | (cases x <;> first
        | exact .inr (.inl ⟨_, _, rfl, rfl⟩)
        | exact .inr (.inr (.inl ⟨_, rfl, rfl⟩))
        | exact .inr (.inr (.inr (.inl ⟨_, rfl, rfl⟩)))
        | exact .inr (.inr (.inr (.inr rfl))))

section
variable {S0 : Nat → Prop} {N : Nat} {w0 : Wd} {P : Program} {F : Fence} {n : Nat} {cl : Cl} {it : It}

theorem fail_run : ∀ (c : C), c.er = failC → ∀ (j : Nat) (st : St), run it cl j c st = none
  | _, _, 0, _ => rfl
  | .cond x y z, h, j + 1, st => by
    simp only [C.er, failC, C.cond.injEq] at h
    obtain ⟨rfl, _, _⟩ := h
    rfl
  | .seq x y, h, j + 1, st => by
    rcases er_seq x y with ⟨vs, ks, rfl, he⟩ | ⟨vs, ks, rfl, he⟩ | ⟨v, rfl, he⟩ | ⟨v, rfl, he⟩ | he
    · rw [he] at h
      simp only [run, fail_run x h j st, Option.bind_none]
    · rw [he] at h
      simp only [run]
      cases hq : run it cl j (.keep vs ks) st with
      | none => rfl
      | some p =>
        obtain ⟨e, s⟩ := p
        have : e = .n := by
          cases j with
          | zero => cases hq
          | succ j =>
            simp only [run, Option.map_eq_some_iff, Prod.mk.injEq] at hq
            obtain ⟨_, _, h1, _⟩ := hq
            exact h1.symm
        subst this
        simp only [Option.bind_some, if_true, fail_run y h j s]
    · rw [he] at h
      simp only [run, fail_run x h j st, Option.bind_none]
    · rw [he] at h
      simp only [run]
      cases hq : run it cl j (.frz v) st with
      | none => rfl
      | some p =>
        obtain ⟨e, s⟩ := p
        have : e = .n := by
          cases j with
          | zero => cases hq
          | succ j =>
            simp only [run, Option.map_eq_some_iff, Prod.mk.injEq] at hq
            obtain ⟨_, _, h1, _⟩ := hq
            exact h1.symm
        subst this
        simp only [Option.bind_some, if_true, fail_run y h j s]
    · rw [he] at h; simp only [failC, reduceCtorEq] at h
  | .skip, h, _ + 1, _ | .reg .., h, _ + 1, _ | .blk .., h, _ + 1, _ | .loop _, h, _ + 1, _ | .exit _, h, _ + 1, _ | .ret, h, _ + 1, _ | .keep .., h, _ + 1, _ | .frz _, h, _ + 1, _ | .rfn .., h, _ + 1, _ | .inl .., h, _ + 1, _ => by simp only [C.er, failC, reduceCtorEq] at h
/-- What is owed of a piece of code for j rounds. -/
def Mode (F : Fence) (w0 : Wd) (ks : List Key) (c : C) : Prop := (∀ k b, w0.mb k = some b → k ∈ ks) ∧ (c.holds ks = true ∨ (F = Fence.wide ∧ (∀ k, w0.mb k = none) ∧ (∀ b, w0.w.heap.size ≤ b → w0.dn b))) ∧ TabAt w0.lk w0.w
/-- The bodies that stand in the text are the callees'. -/
def InlN (P : Program) (L : List Nat) (f : Nat) (cb : C) (rs : List RV) (np : Nat) : Prop := f ∈ L ∧ ∃ fn b, P.funcs[f]? = some fn ∧ fn.body = some b ∧ okI L b = true ∧ compF P fn = some ⟨np, cb.er, rs⟩
def InlOk (P : Program) (L : List Nat) : C → Prop
  | .seq a b => InlOk P L a ∧ InlOk P L b
  | .cond _ a b => InlOk P L a ∧ InlOk P L b
  | .blk _ c | .loop c => InlOk P L c
  | .rfn _ _ a b _ _ => InlOk P L a ∧ InlOk P L b
  | .inl _ _ _ _ f cb rs np _ _ _ _ => InlN P L f cb rs np ∧ InlOk P L cb
  | _ => True
def IM (P : Program) (L : List Nat) (c : C) (code : Code) : Prop := InlOk P L c ∧ (L = [] ∨ okI L code = true)
def C.noInl : C → Bool
  | .seq a b => a.noInl && b.noInl
  | .cond _ a b => a.noInl && b.noInl
  | .blk _ c | .loop c => c.noInl
  | .rfn _ _ a b _ _ => a.noInl && b.noInl
  | .inl .. => false
  | _ => true
theorem noInl_ok {P : Program} {L : List Nat} : ∀ {c : C}, c.noInl = true → InlOk P L c
  | .seq a b, h => by simp only [C.noInl, Bool.and_eq_true] at h; exact ⟨noInl_ok h.1, noInl_ok h.2⟩
  | .cond _ a b, h => by simp only [C.noInl, Bool.and_eq_true] at h; exact ⟨noInl_ok h.1, noInl_ok h.2⟩
  | .blk _ c, h => noInl_ok (c := c) h
  | .loop c, h => noInl_ok (c := c) h
  | .rfn _ _ a b _ _, h => by simp only [C.noInl, Bool.and_eq_true] at h; exact ⟨noInl_ok h.1, noInl_ok h.2⟩
  | .inl .., h => by cases h
  | .skip, _ | .reg .., _ | .exit _, _ | .ret, _ | .keep .., _ | .frz _, _ => trivial
def Owes (P : Program) (it : It) (cl : Cl) (j : Nat) : Prop :=
  ∀ (N : Nat) (F : Fence), FOk F → ∀ (n : Nat) (S0 : Nat → Prop) (w0 : Wd) (ks : List Key) (L : List Nat) (c : C) (code : Code) (Q : Exit → Act → World → Prop) (m : Key → Nat) (st : St) (a : Act) (w : World) (e : Ex) (s : St), Mode F w0 ks c → IM P L c code → compC P code = some c.er → c.er.within N = true → run it cl j c st = some (e, s) → Rel S0 N w0 m st a w →
    (∀ m' a' w', Rel S0 N w0 m' s a' w' → Q e.out a' w') → code.wpIn F n P Q a w
theorem Mode.left {F : Fence} {w0 : Wd} {ks : List Key} {c d e : C} (h : Mode F w0 ks c) (hc : c.holds ks = (d.holds ks && e.holds ks)) : Mode F w0 ks d :=
  ⟨h.1, h.2.1.elim (fun g => .inl (by rw [hc, Bool.and_eq_true] at g; exact g.1)) .inr, h.2.2⟩
theorem Mode.right {F : Fence} {w0 : Wd} {ks : List Key} {c d e : C} (h : Mode F w0 ks c) (hc : c.holds ks = (d.holds ks && e.holds ks)) : Mode F w0 ks e :=
  ⟨h.1, h.2.1.elim (fun g => .inl (by rw [hc, Bool.and_eq_true] at g; exact g.2)) .inr, h.2.2⟩
theorem Mode.keep {F : Fence} {w0 : Wd} {ks ks' : List Key} {vs : List Nat} (h : Mode F w0 ks (.keep vs ks')) : ∀ k b, w0.mb k = some b → k ∈ ks' := by
  intro k b hb
  rcases h.2.1 with g | g
  · simp only [C.holds, List.all_eq_true] at g
    exact isIn_mem.1 (g k (h.1 k b hb))
  · rw [g.2.1] at hb; cases hb

theorem code_sound (hmix : P.follows .mixedOrders = true) (hcl : ∀ f ds r, cl f ds = some r → CallOk P f ds r) (hit : ∀ f ds xs, it f ds = some xs → ItOk P f ds xs) : ∀ j, Owes P it cl j := by
  intro j
  induction j using Nat.strongRecOn with
  | _ j ih =>
  cases j with
  | zero => intro N F hF n S0 w0 ks L c code Q m st a w e s _ _ _ _ h; simp [run] at h
  | succ j =>
  have ihj : Owes P it cl j := ih j (Nat.lt_succ_self j)
  intro N F hF n S0 w0 ks L c code Q m st a w e s hmd him hc hlt hrun hR hK
  -- the scopes around
  refine wpIn_strip code ?_
  rw [← compC_strip] at hc
  have hnf : c.er ≠ failC := fun h => by rw [fail_run c h] at hrun; cases hrun
  have hc0 := hc
  replace hc := compC_inv hc hnf
  have hns := strip_ne code
  replace him : IM P L c (strip code) := ⟨him.1, by rw [okI_strip]; exact him.2⟩
  generalize strip code = code at hc hc0 hns him
  replace hK : ∀ m' a' w', Rel S0 N w0 m' s a' w' → Exit.noGoto Q e.out a' w' := fun m' a' w' h => Ex.out_noGoto (hK m' a' w' h)
  generalize Exit.noGoto Q = Q at hK
  cases c with
  | skip =>
    simp only [run, Option.some.injEq, Prod.mk.injEq] at hrun
    obtain ⟨rfl, rfl⟩ := hrun
    cases code <;> simp only [compC1, C.er, Option.some.injEq, reduceCtorEq, Option.bind_eq_some_iff, Option.map_eq_some_iff, and_false, exists_false] at hc
    case skip => exact wpIn_skip (hK m a w hR)
    case label l => exact wpIn_label (hK m a w hR)
    case scope d => exact absurd rfl (hns d)
    case rangeFunc => first | (obtain ⟨_, _, _, _, _, _, hc⟩ := hc; split at hc <;> simp at hc) | (simp only [compC1, Option.bind_eq_some_iff] at hc; obtain ⟨_, _, _, _, _, _, hc⟩ := hc; split at hc <;> simp at hc)
    case region id ops draw =>
      obtain ⟨os, _, hc⟩ := hc
      split at hc
      · split at hc
        · simp at hc
        · cases hc
      · simp at hc
  | reg os ck =>
    simp only [run, Option.bind_eq_some_iff] at hrun
    obtain ⟨fin, he, hrun⟩ := hrun
    obtain ⟨hck, hrun⟩ := guardO_some hrun
    simp only [Option.some.injEq, Prod.mk.injEq] at hrun
    obtain ⟨rfl, rfl⟩ := hrun
    cases code <;> simp only [C.er] at hc
    case region id ops draw => exact region_sound hmix (fun f ds r h => (hcl f ds r h).at hmd.2.2) hF hc (by simpa only [C.er, C.within] using hlt) hR he hck hK
    case scope d => exact absurd rfl (hns d)
    case rangeFunc => first | (obtain ⟨_, _, _, _, _, _, hc⟩ := hc; split at hc <;> simp at hc) | (simp only [compC1, Option.bind_eq_some_iff] at hc; obtain ⟨_, _, _, _, _, _, hc⟩ := hc; split at hc <;> simp at hc)
    all_goals simp [compC1, Option.bind_eq_some_iff] at hc
  | seq x y =>
    have seqC : ∀ u v, Mode F w0 ks u → Mode F w0 ks v → InlOk P L u → InlOk P L v → compC1 P code = some (C.seq u.er v.er) → (C.seq u.er v.er).within N = true → run it cl (j + 1) (.seq u v) st = some (e, s) → code.wpIn F n P Q a w := by
      intro u v md1 md2 im1 im2 hc1 hlt1 hrun1
      have him2 := him.2
      simp only [run, Option.bind_eq_some_iff] at hrun1
      obtain ⟨⟨e1, s1⟩, h1, hrun1⟩ := hrun1
      simp only [C.within, Bool.and_eq_true] at hlt1
      cases code <;> simp only [compC1, reduceCtorEq, Option.bind_eq_some_iff, Option.map_eq_some_iff, and_false, exists_false, Option.some.injEq, C.seq.injEq] at hc1
      case seq ca cb =>
        obtain ⟨x', hx, y', hy, rfl, rfl⟩ := hc1
        have oka : L = [] ∨ okI L ca = true := him2.imp id fun h => by simp only [okI, Bool.and_eq_true] at h; exact h.1
        have okb : L = [] ∨ okI L cb = true := him2.imp id fun h => by simp only [okI, Bool.and_eq_true] at h; exact h.2
        refine wpIn_seq (ihj N F hF n S0 w0 ks L u ca _ m st a w e1 s1 md1 ⟨im1, oka⟩ hx hlt1.1 h1 hR fun m' a' w' hR' => ?_)
        cases e1 with
        | n =>
          simp only [if_true] at hrun1
          exact ihj N F hF n S0 w0 ks L v cb Q m' s1 a' w' e s md2 ⟨im2, okb⟩ hy hlt1.2 hrun1 hR' hK
        | x id =>
          simp only [reduceCtorEq, if_false, Option.some.injEq, Prod.mk.injEq] at hrun1
          obtain ⟨rfl, rfl⟩ := hrun1
          exact hK m' a' w' hR'
        | r =>
          simp only [reduceCtorEq, if_false, Option.some.injEq, Prod.mk.injEq] at hrun1
          obtain ⟨rfl, rfl⟩ := hrun1
          exact hK m' a' w' hR'
      case scope d => exact absurd rfl (hns d)
      case rangeFunc => obtain ⟨_, _, _, _, _, _, hc1⟩ := hc1; split at hc1 <;> simp at hc1
      case region id ops draw =>
        obtain ⟨os, _, hc1⟩ := hc1
        split at hc1
        · split at hc1
          · simp at hc1
          · cases hc1
        · simp at hc1
    -- a remark behind
    have behind : ∀ (x y : C), Mode F w0 ks x → InlOk P L x → (∀ (m' : Key → Nat) (s1 : St) (a' : Act) (w' : World) (e : Ex) (s : St), Rel S0 N w0 m' s1 a' w' → run it cl j y s1 = some (e, s) → e = .n ∧ Rel S0 N w0 m' s a' w') → compC P code = some x.er → x.er.within N = true → run it cl (j + 1) (.seq x y) st = some (e, s) → code.wpIn F n P Q a w := by
      intro x y md im hy hc hlt hrun
      simp only [run, Option.bind_eq_some_iff] at hrun
      obtain ⟨⟨e1, s1⟩, h1, hrun⟩ := hrun
      refine ihj N F hF n S0 w0 ks L x code Q m st a w e1 s1 md ⟨im, him.2⟩ hc hlt h1 hR fun m' a' w' hR' => ?_
      cases e1 with
      | n =>
        simp only [if_true] at hrun
        obtain ⟨rfl, hR2⟩ := hy m' s1 a' w' e s hR' hrun
        exact hK m' a' w' hR2
      | x id =>
        simp only [reduceCtorEq, if_false, Option.some.injEq, Prod.mk.injEq] at hrun
        obtain ⟨rfl, rfl⟩ := hrun
        exact hK m' a' w' hR'
      | r =>
        simp only [reduceCtorEq, if_false, Option.some.injEq, Prod.mk.injEq] at hrun
        obtain ⟨rfl, rfl⟩ := hrun
        exact hK m' a' w' hR'
    have inFront : ∀ (x y : C), Mode F w0 ks y → InlOk P L y → (∀ (m' : Key → Nat) (s1 : St) (a' : Act) (w' : World) (e : Ex) (s : St), Rel S0 N w0 m' s1 a' w' → run it cl j x s1 = some (e, s) → e = .n ∧ Rel S0 N w0 m' s a' w') → compC P code = some y.er → y.er.within N = true → run it cl (j + 1) (.seq x y) st = some (e, s) → code.wpIn F n P Q a w := by
      intro x y md im hx hc hlt hrun
      simp only [run, Option.bind_eq_some_iff] at hrun
      obtain ⟨⟨e1, s1⟩, h1, hrun⟩ := hrun
      obtain ⟨rfl, hR2⟩ := hx m st a w e1 s1 hR h1
      simp only [if_true] at hrun
      exact ihj N F hF n S0 w0 ks L y code Q m s1 a w e s md ⟨im, him.2⟩ hc hlt hrun hR2 hK
    have hkeep : ∀ vs ks', Mode F w0 ks (.keep vs ks') → ∀ (m' : Key → Nat) (s1 : St) (a' : Act) (w' : World) (e : Ex) (s : St), Rel S0 N w0 m' s1 a' w' → run it cl j (.keep vs ks') s1 = some (e, s) → e = .n ∧ Rel S0 N w0 m' s a' w' := by
      intro vs ks' md m' s1 a' w' e s hR' h
      cases j with
      | zero => simp [run] at h
      | succ j =>
        simp only [run, Option.map_eq_some_iff, Prod.mk.injEq] at h
        obtain ⟨s2, h2, rfl, rfl⟩ := h
        exact ⟨rfl, hR'.keep md.keep h2⟩
    have hfrz : ∀ v (m' : Key → Nat) (s1 : St) (a' : Act) (w' : World) (e : Ex) (s : St), Rel S0 N w0 m' s1 a' w' → run it cl j (.frz v) s1 = some (e, s) → e = .n ∧ Rel S0 N w0 m' s a' w' := by
      intro v m' s1 a' w' e s hR' h
      cases j with
      | zero => simp [run] at h
      | succ j =>
        simp only [run, Option.map_eq_some_iff, Prod.mk.injEq] at h
        obtain ⟨s2, h2, rfl, rfl⟩ := h
        exact ⟨rfl, hR'.frz h2⟩
    rcases er_seq x y with ⟨vs, ks', rfl, he⟩ | ⟨vs, ks', rfl, he⟩ | ⟨v, rfl, he⟩ | ⟨v, rfl, he⟩ | he <;> rw [he] at hc hc0 hlt
    · exact behind _ _ (hmd.left rfl) him.1.1 (hkeep _ _ (hmd.right rfl)) hc0 hlt hrun
    · exact inFront _ _ (hmd.right rfl) him.1.2 (hkeep _ _ (hmd.left rfl)) hc0 hlt hrun
    · exact behind _ _ (hmd.left rfl) him.1.1 (hfrz _) hc0 hlt hrun
    · exact inFront _ _ (hmd.right rfl) him.1.2 (hfrz _) hc0 hlt hrun
    · exact seqC _ _ (hmd.left rfl) (hmd.right rfl) him.1.1 him.1.2 hc hlt hrun
  | cond x y z =>
    simp only [run, Option.bind_eq_some_iff] at hrun
    obtain ⟨v, hv, t, ht, hrun⟩ := hrun
    simp only [C.er, C.within, Bool.and_eq_true] at hlt
    cases code <;> simp only [compC1, C.er, reduceCtorEq, Option.bind_eq_some_iff, Option.map_eq_some_iff, and_false, exists_false, Option.some.injEq, C.cond.injEq] at hc
    case cond co ca cb =>
      obtain ⟨e', he, x', hx, y', hy, rfl, rfl, rfl⟩ := hc
      obtain rfl := bool?_some ht
      have hev := rep_v (hR.ev he hv)
      refine wpIn_cond hev ?_
      cases t with
      | true => exact ihj N F hF n S0 w0 ks L y ca Q m st a w e s (hmd.left rfl) ⟨him.1.1, him.2.imp id fun h => by simp only [okI, Bool.and_eq_true] at h; exact h.1⟩ hx hlt.1 (by simpa using hrun) hR hK
      | false => exact ihj N F hF n S0 w0 ks L z cb Q m st a w e s (hmd.right rfl) ⟨him.1.2, him.2.imp id fun h => by simp only [okI, Bool.and_eq_true] at h; exact h.2⟩ hy hlt.2 (by simpa using hrun) hR hK
    case scope d => exact absurd rfl (hns d)
    case rangeFunc => first | (obtain ⟨_, _, _, _, _, _, hc⟩ := hc; split at hc <;> simp at hc) | (simp only [compC1, Option.bind_eq_some_iff] at hc; obtain ⟨_, _, _, _, _, _, hc⟩ := hc; split at hc <;> simp at hc)
    case region id ops draw =>
      obtain ⟨os, _, hc⟩ := hc
      split at hc
      · split at hc
        · simp at hc
        · cases hc
      · simp at hc
  | blk id c =>
    simp only [run, Option.map_eq_some_iff] at hrun
    obtain ⟨⟨e1, s1⟩, h1, hrun⟩ := hrun
    simp only [C.er, C.within] at hlt
    cases code <;> simp only [compC1, C.er, reduceCtorEq, Option.bind_eq_some_iff, Option.map_eq_some_iff, and_false, exists_false, Option.some.injEq, C.blk.injEq] at hc
    case block id' c' =>
      obtain ⟨x', hx, rfl, rfl⟩ := hc
      refine wpIn_block (ihj N F hF n S0 w0 ks L c c' _ m st a w e1 s1 hmd ⟨him.1, him.2.imp id fun h => by simpa only [okI] using h⟩ hx hlt h1 hR fun m' a' w' hR' => ?_)
      cases e1 with
      | n =>
        simp only [reduceCtorEq, if_false, Prod.mk.injEq] at hrun
        obtain ⟨rfl, rfl⟩ := hrun
        exact hK m' a' w' hR'
      | x i =>
        simp only [Ex.x.injEq] at hrun
        simp only [Ex.out, Exit.inBlock]
        split at hrun
        · rename_i hi
          simp only [Prod.mk.injEq] at hrun
          obtain ⟨rfl, rfl⟩ := hrun
          rw [if_pos hi]
          exact hK m' a' w' hR'
        · rename_i hi
          simp only [Prod.mk.injEq] at hrun
          obtain ⟨rfl, rfl⟩ := hrun
          rw [if_neg hi]
          exact hK m' a' w' hR'
      | r =>
        simp only [reduceCtorEq, if_false, Prod.mk.injEq] at hrun
        obtain ⟨rfl, rfl⟩ := hrun
        exact hK m' a' w' hR'
    case scope d => exact absurd rfl (hns d)
    case rangeFunc => first | (obtain ⟨_, _, _, _, _, _, hc⟩ := hc; split at hc <;> simp at hc) | (simp only [compC1, Option.bind_eq_some_iff] at hc; obtain ⟨_, _, _, _, _, _, hc⟩ := hc; split at hc <;> simp at hc)
    case region id ops draw =>
      obtain ⟨os, _, hc⟩ := hc
      split at hc
      · split at hc
        · simp at hc
        · cases hc
      · simp at hc
  | loop c =>
    simp only [C.er, C.within] at hlt
    cases code <;> simp only [compC1, C.er, reduceCtorEq, Option.bind_eq_some_iff, Option.map_eq_some_iff, and_false, exists_false, Option.some.injEq, C.loop.injEq] at hc
    case loop c' =>
      obtain ⟨x', hx, rfl⟩ := hc
      refine wpIn_loop_n (fun i a w => i ≤ j + 1 ∧ ∃ m st, Rel S0 N w0 m st a w ∧ run it cl i (.loop c) st = some (e, s)) (j := j + 1) ⟨Nat.le_refl _, m, st, hR, hrun⟩ ?_
      rintro i a w ⟨hi, m, st, hR, hrun⟩
      cases i with
      | zero => simp [run] at hrun
      | succ i =>
        simp only [run, Option.bind_eq_some_iff] at hrun
        obtain ⟨⟨e1, s1⟩, h1, hrun⟩ := hrun
        refine ih i (by omega) N F hF n S0 w0 ks L c c' _ m st a w e1 s1 hmd ⟨him.1, him.2.imp id fun h => by simpa only [okI] using h⟩ hx hlt h1 hR fun m' a' w' hR' => ?_
        cases e1 with
        | n =>
          simp only [if_true] at hrun
          exact ⟨i, Nat.lt_succ_self i, by omega, m', s1, hR', hrun⟩
        | x id =>
          simp only [reduceCtorEq, if_false, Option.some.injEq, Prod.mk.injEq] at hrun
          obtain ⟨rfl, rfl⟩ := hrun
          exact hK m' a' w' hR'
        | r =>
          simp only [reduceCtorEq, if_false, Option.some.injEq, Prod.mk.injEq] at hrun
          obtain ⟨rfl, rfl⟩ := hrun
          exact hK m' a' w' hR'
    case scope d => exact absurd rfl (hns d)
    case rangeFunc => first | (obtain ⟨_, _, _, _, _, _, hc⟩ := hc; split at hc <;> simp at hc) | (simp only [compC1, Option.bind_eq_some_iff] at hc; obtain ⟨_, _, _, _, _, _, hc⟩ := hc; split at hc <;> simp at hc)
    case region id ops draw =>
      obtain ⟨os, _, hc⟩ := hc
      split at hc
      · split at hc
        · simp at hc
        · cases hc
      · simp at hc
  | exit id =>
    simp only [run, Option.some.injEq, Prod.mk.injEq] at hrun
    obtain ⟨rfl, rfl⟩ := hrun
    cases code <;> simp only [compC1, C.er, reduceCtorEq, Option.bind_eq_some_iff, Option.map_eq_some_iff, and_false, exists_false, Option.some.injEq, C.exit.injEq] at hc
    case exit id' => subst hc; exact wpIn_exit (hK m a w hR)
    case scope d => exact absurd rfl (hns d)
    case rangeFunc => first | (obtain ⟨_, _, _, _, _, _, hc⟩ := hc; split at hc <;> simp at hc) | (simp only [compC1, Option.bind_eq_some_iff] at hc; obtain ⟨_, _, _, _, _, _, hc⟩ := hc; split at hc <;> simp at hc)
    case region id ops draw =>
      obtain ⟨os, _, hc⟩ := hc
      split at hc
      · split at hc
        · simp at hc
        · cases hc
      · simp at hc
  | ret =>
    simp only [run, Option.some.injEq, Prod.mk.injEq] at hrun
    obtain ⟨rfl, rfl⟩ := hrun
    cases code <;> simp only [compC1, C.er, reduceCtorEq, Option.bind_eq_some_iff, Option.map_eq_some_iff, and_false, exists_false, Option.some.injEq] at hc
    case ret => exact wpIn_ret (hK m a w hR)
    case scope d => exact absurd rfl (hns d)
    case rangeFunc => first | (obtain ⟨_, _, _, _, _, _, hc⟩ := hc; split at hc <;> simp at hc) | (simp only [compC1, Option.bind_eq_some_iff] at hc; obtain ⟨_, _, _, _, _, _, hc⟩ := hc; split at hc <;> simp at hc)
    case region id ops draw =>
      obtain ⟨os, _, hc⟩ := hc
      split at hc
      · split at hc
        · simp at hc
        · cases hc
      · simp at hc
  | rfn x ps u v vs ks' =>
    simp only [run, Option.bind_eq_some_iff] at hrun
    obtain ⟨y, hy, ⟨gf, caps⟩, hfn, xs, hxs, s1, hks, hrun⟩ := hrun
    obtain ⟨hg, hrun⟩ := guardO_some hrun
    simp only [Bool.and_eq_true] at hg
    obtain ⟨⟨hpl, hu⟩, hv⟩ := hg
    obtain ⟨hwide, hmbn, hdn⟩ : F = Fence.wide ∧ (∀ k, w0.mb k = none) ∧ (∀ b, w0.w.heap.size ≤ b → w0.dn b) := by
      rcases hmd.2.1 with g | g
      · cases g
      · exact g
    subst hwide
    cases code <;> simp only [compC1, C.er, reduceCtorEq, Option.bind_eq_some_iff, Option.map_eq_some_iff, and_false, exists_false, Option.some.injEq] at hc
    case rangeFunc g ps' ca cb =>
      obtain ⟨x', hx, cu, hcu, cv, hcv, hc⟩ := hc
      split at hc
      · simp only [Option.some.injEq, C.rfn.injEq, and_true] at hc
        obtain ⟨rfl, rfl, rfl, rfl⟩ := hc
        simp only [C.er, C.within, Bool.and_eq_true, List.all_eq_true, decide_eq_true_eq] at hlt
        refine rfn_sound (f := run it cl j) (asg := u) (body := v) (ks := ks') hmd.2.2 hR hmbn (hdn _ hR.bel.size) hx hy hfn (hit _ _ _ hxs) hks hpl (fun p hp => hlt.1.1 p hp) ?_ ?_ hrun hK
        · intro F' hF' n' S0' w0' Q' m' st' a' w' e' s' hk' hT' hr' hR' hK'
          exact ihj N F' hF' n' S0' w0' ks' L u ca Q' m' st' a' w' e' s' ⟨hk', .inl hu, hT'⟩ ⟨him.1.1, him.2.imp id fun h => by simp only [okI, Bool.and_eq_true] at h; exact h.1⟩ hcu hlt.1.2 hr' hR' hK'
        · intro F' hF' n' S0' w0' Q' m' st' a' w' e' s' hk' hT' hr' hR' hK'
          exact ihj N F' hF' n' S0' w0' ks' L v cb Q' m' st' a' w' e' s' ⟨hk', .inl hv, hT'⟩ ⟨him.1.2, him.2.imp id fun h => by simp only [okI, Bool.and_eq_true] at h; exact h.2⟩ hcv hlt.2 hr' hR' hK'
      · cases hc
    case scope d => exact absurd rfl (hns d)
    case region id ops draw =>
      obtain ⟨os, _, hc⟩ := hc
      split at hc
      · split at hc
        · simp at hc
        · cases hc
      · simp at hc
  | inl pre dst x es f cb rs np post vs ks' ak =>
    simp only [run, Option.bind_eq_some_iff] at hrun
    obtain ⟨s1, h1, av, hx, ⟨f', caps⟩, hq, as, has, hrun⟩ := hrun
    obtain ⟨⟨hff, hnp, hrf, hcb⟩, hrun2⟩ := guardO_some hrun
    clear hrun
    dsimp only at hff hnp hrf hrun2
    subst hff
    simp only [Option.bind_eq_some_iff] at hrun2
    obtain ⟨s2, hin, p, hpr, hrun3⟩ := hrun2
    obtain ⟨⟨hfin, hgone⟩, hrun4⟩ := guardO_some hrun3
    clear hrun3
    simp only [Option.bind_eq_some_iff, Option.map_eq_some_iff, Prod.mk.injEq] at hrun4
    obtain ⟨rv, hrv, fin, hpost, rfl, rfl⟩ := hrun4
    obtain ⟨⟨hfL, fn1, body, hf, hbd, hokb, hcf⟩, himcb⟩ := him.1
    have hLne : L ≠ [] := fun h => by rw [h] at hfL; cases hfL
    have hokc := him.2.resolve_left hLne
    simp only [compF, Option.bind_eq_some_iff] at hcf
    obtain ⟨b', hb', c', hcc', hcf⟩ := hcf
    rw [hbd] at hb'
    cases hb'
    split at hcf
    · rename_i hchk
      simp only [Bool.and_eq_true, decide_eq_true_eq, bne_iff_ne, ne_eq] at hchk
      obtain ⟨⟨hw1, hsz1⟩, hname1⟩ := hchk
      simp only [Option.map_eq_some_iff, CF.mk.injEq] at hcf
      obtain ⟨rs', hrs', hnp', hc'e, hrs''⟩ := hcf
      subst hrs''
      have hc'e' : c' = cb.er := hc'e
      subst hc'e'
      cases code <;> simp only [C.er] at hc
      case region id ops draw =>
        simp only [compC1, Option.bind_eq_some_iff] at hc
        obtain ⟨os', hos, hc⟩ := hc
        have hosE : os' = (pre ++ (⟨dst, callI x es, none⟩ : O) :: post).map O.er := by
          split at hc
          · split at hc
            · simp only [Option.map_eq_some_iff, C.reg.injEq] at hc
              obtain ⟨_, _, e1, _⟩ := hc; exact e1
            · cases hc
          · simp only [Option.some.injEq, C.reg.injEq] at hc; exact hc.1
        subst hosE
        have hlt' : ((pre ++ (⟨dst, callI x es, none⟩ : O) :: post).map O.er).all (O.within N) = true := by simpa only [C.er, C.within] using hlt
        have hdraw : draw = false := by
          cases draw with
          | false => rfl
          | true =>
            exfalso
            simp only [okI, Bool.not_true, Bool.false_or, List.all_eq_true] at hokc
            have hO := ops_of (N := N) hos hlt'
            have hlen := hO.len
            simp only [List.length_append, List.length_cons] at hlen
            have hi : pre.length < ops.size := by omega
            obtain ⟨o, hoo⟩ : ∃ o, ops[pre.length]? = some o := ⟨ops[pre.length], by simp [hi]⟩
            obtain ⟨o2, g2, gc, _, _⟩ := hO.at_ pre.length o hoo
            have : (pre ++ (⟨dst, callI x es, none⟩ : O) :: post)[pre.length]? = some ⟨dst, callI x es, none⟩ := by simp
            rw [this] at g2
            cases g2
            have hmem := hokc o (Array.mem_toList_iff.2 (Array.mem_of_getElem? hoo))
            have clos : ∀ c u, o.op = .call c → c.callee = .value u → compE u = some x → False := by
              intro c u hop hce hxu
              rw [hop] at hmem
              simp only [hce] at hmem
              cases u with
              | func g =>
                simp only [compE, Option.some.injEq] at hxu
                subst hxu
                simp only [E.ev, Option.some.injEq] at hx
                subst hx
                simp only [calA, List.map_nil, Option.some.injEq, Prod.mk.injEq] at hq
                obtain ⟨rfl, rfl⟩ := hq
                simp only [Bool.not_eq_true'] at hmem
                rw [List.contains_iff_mem.2 hfL] at hmem
                cases hmem
              | _ => cases hmem
            cases x with
            | f g =>
              obtain ⟨c, k1, k2, _, _⟩ := call_inv (f := g) (es := es) (b := false) gc
              exact clos c (.func g) k1 k2 rfl
            | t g =>
              obtain ⟨c, u, k1, k2, k3, _⟩ := calv_inv (x := .t g) (es := es) gc
              exact clos c u k1 k2 k3
            | c g =>
              obtain ⟨c, u, k1, k2, k3, _⟩ := calv_inv (x := .c g) (es := es) gc
              exact clos c u k1 k2 k3
        subst hdraw
        have hmbk : ∀ k b, w0.mb k = some b → k ∈ ks' := by
          intro k b hb
          rcases hmd.2.1 with g | g
          · simp only [C.holds, List.all_eq_true] at g
            exact isIn_mem.1 (g k (hmd.1 k b hb))
          · rw [g.2.1] at hb; cases hb
        refine inl_region (fun f ds r h => (hcl f ds r h).at hmd.2.2) hF hos hlt' hmbk hmd.2.2 hR h1 hx hq has hnp hrf hin hf hbd hname1 (by omega) hrs' ?_ hfin hgone hrv hpost hK
        intro S1 w1 m1 a1 W1 Q1 hk1 hT1 R1 hK1
        exact ihj fn1.ntmps Fence.wide wide_ok 0 S1 w1 ks' L cb body Q1 m1 _ a1 W1 p.1 p.2 ⟨hk1, .inl hcb, hT1⟩ ⟨himcb, .inr hokb⟩ hcc' hw1 hpr R1 hK1
      case scope d => exact absurd rfl (hns d)
      case rangeFunc => first | (obtain ⟨_, _, _, _, _, _, hc⟩ := hc; split at hc <;> simp at hc) | (simp only [compC1, Option.bind_eq_some_iff] at hc; obtain ⟨_, _, _, _, _, _, hc⟩ := hc; split at hc <;> simp at hc)
      all_goals simp [compC1, Option.bind_eq_some_iff] at hc
    · cases hcf
  | keep vs ks => exact absurd hc ((compC_ne P code).1 vs ks)
  | frz v => exact absurd hc ((compC_ne P code).2 v)
end
end Go.AM

/- Part 18: functions. -/
namespace Go.AM
open Go Go.RowKit

/-- The seat's functions, and their small texts. -/
structure EnvOk (P : Program) (Γ : Env) : Prop where
  mix : P.follows .mixedOrders = true
  ft : ∀ f cf, Γ.ft f = some cf → ∃ fn L, P.funcs[f]? = some fn ∧ compF P fn = some cf.er ∧ InlOk P L cf.body ∧ (L = [] ∨ ∀ b, fn.body = some b → okI L b = true)
  orc : ∀ f ds r, Γ.ft f = none → Γ.orc f ds = some r → CallOk P f ds r
  it : ∀ f ds xs, Γ.it f ds = some xs → ItOk P f ds xs

theorem argF_get : ∀ (ds : List D) (i : Nat), (∀ j x, argF i ds j = some x → i ≤ j ∧ ∃ d, ds[j - i]? = some d ∧ x = .d d)
  | [], i, j, x, h => by simp [argF, fr0] at h
  | d :: r, i, j, x, h => by
    simp only [argF, upd, updO] at h
    split at h
    · rename_i e
      subst e
      cases h
      exact ⟨Nat.le_refl _, d, by simp, rfl⟩
    · rename_i e
      obtain ⟨h1, d', h2, h3⟩ := argF_get r (i + 1) j x h
      refine ⟨by omega, d', ?_, h3⟩
      rw [show j - i = (j - (i + 1)) + 1 by omega]
      simpa using h2

theorem call_sound {P : Program} {Γ : Env} (hE : EnvOk P Γ) : ∀ (k f : Nat) (ds : List D) (r : R), callN Γ k f ds = some r → CallOk P f ds r
  | 0, f, ds, r, h => by
    simp only [callN] at h
    split at h
    · exact hE.orc f ds r ‹_› h
    · cases h
  | k + 1, f, ds, r, h => by
    simp only [callN] at h
    split at h
    · exact hE.orc f ds r ‹_› h
    · rename_i cf hcf
      obtain ⟨hnp, h⟩ := guardO_some h
      simp only [Option.bind_eq_some_iff] at h
      obtain ⟨⟨e, s⟩, hrun, h⟩ := h
      obtain ⟨fn, L, hf, hc, him, hokL⟩ := hE.ft f cf hcf
      simp only [compF, Option.bind_eq_some_iff] at hc
      obtain ⟨body, hb, c, hcc, hc⟩ := hc
      split at hc
      · rename_i hchk
        simp only [Bool.and_eq_true, decide_eq_true_eq, bne_iff_ne, ne_eq] at hchk
        obtain ⟨⟨hw, hsz⟩, hname⟩ := hchk
        simp only [Option.map_eq_some_iff] at hc
        obtain ⟨rs, hrs, hcf'⟩ := hc
        have e1 : cf.np = fn.params.size + fn.nfree := (congrArg CF.np hcf').symm
        have e2 : c = cf.body.er := congrArg CF.body hcf'
        have e3 : rs = cf.res := congrArg CF.res hcf'
        subst e2 e3
        refine ⟨⟨fn, hf, by rw [hb]; rfl, hname⟩, fun S w vs hT hrep hlt => ?_⟩
        have hvl : vs.length = fn.params.size + fn.nfree := by rw [← hrep.length, hnp, e1]
        have hN : (vs.toArray ++ Array.replicate (fn.ntmps - vs.toArray.size) undef).size = fn.ntmps := by simp; omega
        have hR : Rel (fun b => S b ∨ w.heap.size ≤ b) fn.ntmps ⟨w, fun _ => False, fun _ => none, fun b => w.heap.size ≤ b⟩ (fun _ => 0) ⟨argF 0 ds, hp0, []⟩ { tmps := vs.toArray ++ Array.replicate (fn.ntmps - vs.toArray.size) undef, defers := [] } w := by
          have hSm : ∀ b, S b → Im (fun b => S b ∨ w.heap.size ≤ b) (fun _ => 0) hp0 w b := fun b hb => ⟨.inl hb, hlt b hb, fun ⟨_, _, h, _⟩ => by simp [hp0] at h⟩
          refine ⟨fun i x hx => ?_, fun _ _ h => by simp [hp0] at h, fun _ _ _ _ h => by simp [hp0] at h, fun i x hx => ?_, fun _ _ _ h => by simp [hp0] at h, fun _ _ h => by simp [hp0] at h, fun _ _ h => by simp [hp0] at h, Foot.refl _ _, Marks.nil _ _ _, hN, fun b hb => .inr hb, fun _ _ h => by cases h⟩
          · obtain ⟨_, d, hd, rfl⟩ := argF_get ds 0 i x hx
            obtain ⟨v, hv, hdv⟩ := hrep.get i d (by simpa using hd)
            have : (vs.toArray ++ Array.replicate (fn.ntmps - vs.toArray.size) undef).getD i undef = v := by
              have hil : i < vs.length := (List.getElem?_eq_some_iff.1 hv).1
              rw [Array.getD_eq_getD_getElem?, Array.getElem?_append_left (by simpa using hil)]
              simp [hv]
            rw [this]
            exact .d _ _ (hdv.mono hSm (fun _ _ => rfl))
          · obtain ⟨_, d, _, rfl⟩ := argF_get ds 0 i x hx
            trivial
        refine callsIn_wide.1 (callsIn_of_wp_marks (n := 0) (F := Fence.wide) hf hb trivial ?_)
        refine code_sound hE.mix (fun f ds r h => call_sound hE k f ds r h) hE.it k fn.ntmps Fence.wide wide_ok 0 _ ⟨w, fun _ => False, fun _ => none, fun b => w.heap.size ≤ b⟩ [] L cf.body body _ (fun _ => 0) _ _ w e s ⟨fun _ _ h => (by cases h), .inr ⟨rfl, fun _ => rfl, fun _ h => h⟩, hT, fun _ _ h => h⟩ ⟨him, hokL.imp id fun h => h body hb⟩ hcc hw hrun hR ?_
        intro m' a' w' hR'
        have fin : LeavesInM Fence.wide 0 P fn a'.tmps (fun e w' => ∃ v, e = .returned v ∧ Below w.heap.size w w' ∧ RetOk S w w' r v) a'.defers .returning w' → bodyPostM Fence.wide 0 P fn (fun e w' => ∃ v, e = .returned v ∧ Below w.heap.size w w' ∧ RetOk S w w' r v) e.out a' w' := by
          intro h1
          cases e with
          | x id => cases h
          | n => exact h1
          | r => exact h1
        refine fin ?_
        have hend : ending s cf.res = some r := by
          cases e with
          | x id => cases h
          | n => exact h
          | r => exact h
        refine leaves_of_rel (fn := fn) (P := P) (fun b h => h) (fun a2 w2 ht R2 => ?_) a'.defers a' w' rfl rfl hR'
        obtain ⟨v, g1, g2⟩ := end_sound (P := P) (S := S) R2 hrs hend rfl (fun _ h => h)
        rw [ht] at g1
        exact ⟨v, g1, v, rfl, R2.bel.below, g2⟩
      · cases hc

theorem callX_sound {P : Program} {Γ : Env} (hE : EnvOk P Γ) {f : Nat} {ds : List D} {r : R} (h : callX Γ f ds = some r) : CallOk P f ds r := by
  obtain ⟨k, hk⟩ := callX_some.1 h
  exact call_sound hE k f ds r hk
end Go.AM

/- Part 19: a law's call. -/
namespace Go.AM
open Go Go.RowKit

def iv (x : Int) : D := .v (.int .i64 x)
def bv (b : Bool) : D := .v (.bool b)
/-- A row of numbers, whether or not it is nil. -/
def Dg (d : D) (l : List Int) : Prop := (d = .z true ∧ l = []) ∨ d = .row l.length (l.map iv)

/-- A row of the machine's, as an argument. -/
theorem arg_row {w : World} {a : Option Addr} {len cap : Nat} {zs : List Int}
    (h : (a = none ∧ len = 0 ∧ cap = 0 ∧ zs = []) ∨ ∃ x, a = some x ∧ len ≤ cap ∧ cap ≤ maxLen ∧ zs.length = cap ∧ (∀ i, i < zs.length → w.cell? (x.add i) = some (.int .i64 (zs.getD i 0))) ∧ ∀ n ∈ zs, (Lit.int .i64 n).wf = true) :
    ∃ d l, Dg d l ∧ RepD (fun b => b < w.heap.size) w d (.slice a len cap) ∧ l.length = len ∧ ∀ n ∈ l, (Lit.int .i64 n).wf = true := by
  rcases h with ⟨rfl, rfl, rfl, rfl⟩ | ⟨x, rfl, h1, h2, h3, h4, h5⟩
  · exact ⟨.z true, [], .inl ⟨rfl, rfl⟩, .zt, rfl, by simp⟩
  · have hlen : (zs.take len).length = len := by simp; omega
    refine ⟨.row (zs.take len).length ((zs.take len).map iv), zs.take len, .inr rfl, ?_, hlen, fun n hn => h5 n (List.mem_of_mem_take hn)⟩
    rw [hlen]
    by_cases h0 : len = 0
    · subst h0
      simpa using RepD.row0 x cap
    · have hblk : x.block < w.heap.size := by
        have := h4 0 (by omega)
        rw [World.cell?] at this
        rcases Nat.lt_or_ge x.block w.heap.size with h' | h'
        · exact h'
        · have hb : (x.add 0).block = x.block := Addr.add_block x 0
          rw [hb, Array.getElem?_eq_none h'] at this
          cases this
      have hl : ∀ l : List Int, RepL (fun b => b < w.heap.size) w (l.map iv) (l.map fun n => Value.int .i64 n) := by
        intro l
        induction l with
        | nil => exact .nil
        | cons n r ih => exact .cons _ _ _ _ (.v _) ih
      refine .row len _ x cap _ h1 hblk (hl _) fun j v hj => ?_
      simp only [List.getElem?_map, Option.map_eq_some_iff] at hj
      obtain ⟨n, hn, rfl⟩ := hj
      have hjl : j < zs.length := by
        have := (List.getElem?_eq_some_iff.1 hn).1
        simp at this; omega
      rw [h4 j hjl]
      rw [List.getElem?_take] at hn
      split at hn
      · rw [List.getD, hn]; rfl
      · cases hn

theorem law_walk {P : Program} {Γ : Env} (hE : EnvOk P Γ) {f : Nat} {ds : List D} {vs : List Value} {w : World} (hT : TabOk w) (hrep : RepL (fun b => b < w.heap.size) w ds vs) (h : callX Γ f ds = some (.d (bv true))) :
    Calls P f vs.toArray w fun e w' => e = .returned (.bool true) ∧ Below w.heap.size w w' := by
  refine ((callX_sound hE h).2 _ w vs hT hrep (fun _ h => h)).mono ?_
  rintro e w' ⟨v, rfl, hb, hr⟩
  have hr' : RepD _ w' (.v (.bool true)) v := hr
  cases hr' with
  | v => exact ⟨rfl, hb⟩
end Go.AM

