/- Part 3 of the proof: a small machine, its soundness against the model, and what the program's functions compute on it. -/
import Derived.Test.YtahiegebcdeaoaaGreatDoorM2
import Derived.RangeFuncLeaves
import Derived.Test.YtahiegebcdeaoaaGreatDoorM0
set_option linter.unusedVariables false
set_option linter.unusedSimpArgs false
/- Part 18: functions. -/
namespace Go.AM
open Go Go.RowKit

def resS (tmps : Array Value) : ResultVar → Sem Value
  | .tmp t => pure (tmps.getD t undef)
  | .cell q t => do loadVar t (← asAddr (tmps.getD q undef))
theorem results_eq (fn : Func) (tmps : Array Value) : results fn tmps = (do
    let vs ← fn.results.mapM (resS tmps)
    pure (if h : vs.size = 1 then vs[0] else .tuple vs)) := rfl

section
variable {S0 : Nat → Prop} {N : Nat} {w0 : Wd} {m : Key → Nat} {st : St} {a : Act} {w : World} {P : Program}

theorem resL_sound (hR : Rel S0 N w0 m st a w) : ∀ {l : List ResultVar} {rs : List RV} {as : List A}, mapO (compR P) l = some rs → resL st rs = some as →
    ∃ vs : List Value, (l.mapM (resS a.tmps)).run P w = .ok vs w ∧ RepAL m st.hp (Im S0 m st.hp w) w as vs ∧ refPL (IsBox st.hp) (IsArr st.hp) as
  | [], rs, as, h, hr => by
    simp only [mapO, Option.some.injEq] at h
    subst h
    simp only [resL, Option.some.injEq] at hr
    subst hr
    exact ⟨[], rfl, .nil, trivial⟩
  | x :: l, rs, as, h, hr => by
    simp only [mapO, Option.bind_eq_some_iff, Option.map_eq_some_iff] at h
    obtain ⟨r, hx, rs', hrs, rfl⟩ := h
    simp only [resL, Option.bind_eq_some_iff, Option.map_eq_some_iff] at hr
    obtain ⟨y, hy, as', has, rfl⟩ := hr
    obtain ⟨vs, h1, h2, h3⟩ := resL_sound hR hrs has
    cases x with
    | tmp t =>
      simp only [compR, Option.some.injEq] at hx
      subst hx
      simp only [resV] at hy
      refine ⟨a.tmps.getD t undef :: vs, ?_, .cons _ _ _ _ (hR.fr t y hy) h2, hR.clf t y hy, h3⟩
      simp only [List.mapM_cons, resS, Sem.run_bind, Sem.run_pure, Result.andThen_ok, h1]
    | cell q t =>
      simp only [compR, Option.map_eq_some_iff] at hx
      obtain ⟨sz, hsz, rfl⟩ := hx
      simp only [resV, Option.bind_eq_some_iff] at hy
      obtain ⟨z, hz, hy⟩ := hy
      have hld : loadA st.hp sz z = some y := by
        cases z with
        | ptr k o => exact hy
        | d x => cases x <;> first | exact hy | cases hy
        | _ => cases hy
      obtain ⟨u, g1, g2, g3⟩ := load_sound (P := P) hR hsz (hR.fr q z hz) hld
      have hptr : ∃ ad, a.tmps.getD q undef = .pointer (some ad) := by
        have hrep := hR.fr q z hz
        cases z with
        | ptr k o => cases hrep with | ptr _ _ _ hs _ => exact hs
        | d x =>
          cases x with
          | rp cs =>
            have := rep_d hrep
            generalize a.tmps.getD q undef = v at this
            cases this with
            | rp _ ad _ _ _ _ => exact ⟨ad, rfl⟩
          | _ => cases hy
        | _ => cases hy
      obtain ⟨ad, had⟩ := hptr
      rw [had] at g1
      have hl : (loadVar t ad).run P w = .ok u w := by
        simpa [Instr.loadAt, Instr.sureAddr] using g1
      refine ⟨u :: vs, ?_, .cons _ _ _ _ g2 h2, g3, h3⟩
      have hasA : (asAddr (.pointer (some ad))).run P w = .ok ad w := rfl
      simp only [List.mapM_cons, resS, Sem.run_bind, Sem.run_pure, Result.andThen_ok, had, hasA, hl, h1]

def oneOr : List Value → Value
  | [v] => v
  | vs => .tuple vs.toArray

theorem results_run {fn : Func} {tmps : Array Value} {vs : List Value} (h : (fn.results.toList.mapM (resS tmps)).run P w = .ok vs w) :
    (results fn tmps).run P w = .ok (oneOr vs) w := by
  rw [results_eq, ← Array.toArray_toList (xs := fn.results), List.mapM_toArray]
  simp only [Sem.run_map, Sem.run_bind, h, Result.andThen_ok, Sem.run_pure]
  match vs with
  | [] => rfl
  | [v] => rfl
  | v :: u :: r => rfl

/-- The cells of an array of one's own, at the end. -/
theorem own_end (hR : Rel S0 N w0 m st a w) {q : Key} {n : Nat} {o : Obj} {v : Value} {cs : List D} (hk : st.hp q = some o) (hn : o.n = n) (hcs : allD o.cs = some cs) (hy : RepA m st.hp (Im S0 m st.hp w) w (.own q n) v) :
    ∃ (cap : Nat) (cells : Array Value) (T : TypeId) (fz : Nat × Nat) (us : List Value), v = .slice (some ⟨m q, 0, none⟩) n cap ∧ n ≤ cap ∧ w.heap[m q]? = some (Go.Obj.cells cells T fz) ∧ cap * o.es ≤ cells.size ∧ (∀ i, i < cells.size → ¬ (fz.1 ≤ i ∧ i < fz.2)) ∧
      RepL (Im S0 m st.hp w) w cs us ∧ (∀ (i : Nat) (v : Value), us[i]? = some v → cells[i]? = some v) ∧ cs.length ≤ cells.size := by
  cases hy with
  | own _ _ _ _ hq =>
    obtain ⟨cap, cells, T, fz, rfl, hc, hat, hsz⟩ := hq o hk hn
    obtain ⟨cells', T', fz', ho⟩ := hR.obj q o hk
    rw [ho.at_] at hat
    cases hat
    have hmap := allD_map hcs
    obtain ⟨us, g1, g2⟩ := cells_data ho 0 cs 0 (fun j d hj => by rw [hmap]; simp [hj])
    exact ⟨cap, cells, T, fz, us, rfl, hc, ho.at_, hsz, ho.free, g1, fun i v hv => by simpa using g2 i v hv, by have := ho.size; rw [hmap] at this; simpa using this⟩

theorem toDs_rep (hR : Rel S0 N w0 m st a w) : ∀ {as : List A} {vs : List Value} {ds : List D}, RepAL m st.hp (Im S0 m st.hp w) w as vs → toDs st as = some ds →
    RepL (fun c => S0 c ∧ c < w.heap.size) w ds vs
  | [], vs, ds, h, hd => by
    cases h
    simp only [toDs, Option.some.injEq] at hd
    subst hd; exact .nil
  | x :: as, vs, ds, h, hd => by
    cases h with
    | cons _ _ v vs hx ht =>
      simp only [toDs, Option.bind_eq_some_iff, Option.map_eq_some_iff] at hd
      obtain ⟨d, h1, ds', h2, rfl⟩ := hd
      have hsub : ∀ c, Im S0 m st.hp w c → S0 c ∧ c < w.heap.size := fun c hc => ⟨hc.1, hc.2.1⟩
      refine .cons _ _ _ _ ?_ (toDs_rep hR ht h2)
      cases x with
      | d y =>
        simp only [toD, Option.some.injEq] at h1
        subst h1
        exact (rep_d hx).mono hsub (fun _ _ => rfl)
      | own q n =>
        simp only [toD, Option.bind_eq_some_iff] at h1
        obtain ⟨o, hk, h1⟩ := h1
        obtain ⟨hn, h1⟩ := guardO_some h1
        simp only [Option.map_eq_some_iff] at h1
        obtain ⟨cs, hcs, rfl⟩ := h1
        obtain ⟨cap, cells, T, fz, us, rfl, hc, hat, hsz, hfr, g1, g2, _⟩ := own_end hR hk hn hcs hx
        exact .row _ _ _ _ us hc ⟨hR.ge q o hk, hR.lt hk⟩ (g1.mono hsub (fun _ _ => rfl)) (fun j u hj => by rw [cell_of_row hat]; simpa using g2 j u hj)
      | ptr k o => simp [toD] at h1
      | ep k n o => simp [toD] at h1
      | tup xs => simp [toD] at h1
      | fn f xs => simp [toD] at h1

/-- What a function hands back at its end. -/
theorem end_sound (hR : Rel S0 N w0 m st a w) {fn : Func} {rs : List RV} (hrs : mapO (compR P) fn.results.toList = some rs) {r : R} (he : ending st rs = some r) {S : Nat → Prop} (hb : S0 = fun b => S b ∨ w0.w.heap.size ≤ b) (hlk : ∀ b, ¬ w0.lk b) :
    ∃ v, (results fn a.tmps).run P w = .ok v w ∧ RetOk S w0.w w r v := by
  unfold ending at he
  simp only [Option.bind_eq_some_iff] at he
  obtain ⟨as, has, he⟩ := he
  obtain ⟨vs, h1, h2, h3⟩ := resL_sound hR hrs has
  have hrun := results_run h1
  have hsub : ∀ c, Im S0 m st.hp w c → Ext S w0.w w c := fun c hc => ⟨by have := hc.1; rw [hb] at this; exact this, hc.2.1⟩
  have hext : ∀ c, (S0 c ∧ c < w.heap.size) → Ext S w0.w w c := fun c hc => ⟨by have := hc.1; rw [hb] at this; exact this, hc.2⟩
  split at he
  · rename_i q n
    cases h2 with
    | cons _ _ v us hx ht =>
      cases ht
      simp only [Option.bind_eq_some_iff] at he
      obtain ⟨o, hk, he⟩ := he
      obtain ⟨hn, he⟩ := guardO_some he
      simp only [Option.map_eq_some_iff] at he
      obtain ⟨cs, hcs, rfl⟩ := he
      refine ⟨v, hrun, ?_⟩
      cases hf : o.fz with
      | true =>
        simp only [if_true]
        exact (frozen_rep hR hk hn hf hcs hx).mono hsub (fun _ _ => rfl)
      | false =>
        simp only [Bool.false_eq_true, if_false]
        obtain ⟨cap, cells, T, fz, us, rfl, hc, hat, hsz, hfr, g1, g2, g3⟩ := own_end hR hk hn hcs hx
        obtain ⟨o2, ho2, hes, _⟩ := h3.1
        rw [hk] at ho2
        cases ho2
        refine ⟨hes, m q, cap, cells, T, fz, us, ?_, rfl, hc, hat, hsz, hfr, g1.mono (fun c hc => ⟨hsub c hc, ?_⟩) (fun _ _ => rfl), g2, g3⟩
        · exact (hR.lv q o hk hf).resolve_left (hlk _)
        · rintro rfl
          exact hc.2.2 ⟨q, o, hk, hf, rfl⟩
  · rename_i x
    cases h2 with
    | cons _ _ v us hx ht =>
      cases ht
      simp only [Option.some.injEq] at he
      subst he
      exact ⟨v, hrun, (rep_d hx).mono hsub (fun _ _ => rfl)⟩
  · rename_i hn1 hn2
    simp only [Option.map_eq_some_iff] at he
    obtain ⟨ds, hds, rfl⟩ := he
    have htr := (toDs_rep hR h2 hds).mono hext (fun _ _ => rfl)
    match vs, h2, hrun, htr with
    | [], h2, hrun, htr => exact ⟨_, hrun, RepD.tup _ _ htr⟩
    | v :: u :: r, h2, hrun, htr => exact ⟨_, hrun, RepD.tup _ _ htr⟩
    | [v], h2, hrun, htr =>
      exfalso
      cases h2 with
      | cons x xs _ _ hx ht =>
        cases ht
        cases x with
        | d y => exact hn2 y rfl
        | own q n => exact hn1 q n rfl
        | _ => simp [toDs, toD] at hds
end

/-- The marks are taken, one by one. -/
theorem leaves_of_rel {S0 : Nat → Prop} {N : Nat} {w0 : Wd} {m : Key → Nat} {st : St} {P : Program} {fn : Func} {tmps : Array Value} {R : Ending → World → Prop} (hdn : ∀ b : Nat, w0.dn b → w0.w.heap.size ≤ b)
    (hend : ∀ a w, a.tmps = tmps → Rel S0 N w0 m st a w → ∃ v, (results fn tmps).run P w = .ok v w ∧ R (.returned v) w) : ∀ (df : List Deferred) (a : Act) (w : World), a.defers = df → a.tmps = tmps → Rel S0 N w0 m st a w → LeavesInM Fence.wide 0 P fn tmps R df .returning w
  | [], a, w, _, ht, hR => hend a w ht hR
  | d :: df, a, w, hd, ht, hR => by
    obtain ⟨Ds, g1, hnd, g2⟩ := hR.df
    rw [hd] at g1
    cases Ds with
    | nil => cases g1
    | cons D Ds =>
      simp only [List.map_cons, List.cons.injEq] at g1
      obtain ⟨rfl, rfl⟩ := g1
      obtain ⟨hn1, hn2⟩ := List.nodup_cons.1 hnd
      obtain ⟨k1, k2, k3⟩ := g2 D (List.mem_cons_self ..)
      refine ⟨by simp, .inl ⟨D, w.putObj D (.deferred none), rfl, run_takeDeferred k3, ?_⟩⟩
      refine leaves_of_rel hdn hend _ { a with defers := Ds.map (fun b => { target := .collected b, args := #[] }) } _ rfl ht ?_
      refine hR.move rfl (by simp) (fun _ _ h => h) (fun b cs T fz _ hh => ?_) (fun b hb => hR.un b (by simpa using hb)) (foot_put hR.bel (.inr (hdn _ k2))) hR.lv ⟨Ds, rfl, hn2, fun b hb => ?_⟩ hR.mb
      · rw [World.putObj_heap_other]
        · exact hh
        · rintro rfl; rw [k3] at hh; cases hh
      · obtain ⟨j1, j2, j3⟩ := g2 b (List.mem_cons_of_mem _ hb)
        refine ⟨j1, j2, ?_⟩
        rw [World.putObj_heap_other]
        · exact j3
        · rintro rfl; exact hn1 hb

/-- The seat's functions, and their small texts. -/
structure EnvOk (P : Program) (Γ : Env) : Prop where
  mix : P.follows .mixedOrders = true
  ft : ∀ f cf, Γ.ft f = some cf → ∃ fn, P.funcs[f]? = some fn ∧ compF P fn = some cf.er
  orc : ∀ f ds r, Γ.ft f = none → Γ.orc f ds = some r → CallOk P f ds r
  it : ∀ f ds xs, Γ.it f ds = some xs → ItOk P f ds xs

theorem argF_get : ∀ (ds : List D) (i : Nat), (∀ j x, argF i ds j = some x → i ≤ j ∧ ∃ d, ds[j - i]? = some d ∧ x = .d d)
  | [], i, j, x, h => by simp [argF, fr0] at h
  | d :: r, i, j, x, h => by
    simp only [argF, upd, updO] at h
    split at h
    · rename_i e
      subst e
      cases h
      exact ⟨Nat.le_refl _, d, by simp, rfl⟩
    · rename_i e
      obtain ⟨h1, d', h2, h3⟩ := argF_get r (i + 1) j x h
      refine ⟨by omega, d', ?_, h3⟩
      rw [show j - i = (j - (i + 1)) + 1 by omega]
      simpa using h2

theorem call_sound {P : Program} {Γ : Env} (hE : EnvOk P Γ) : ∀ (k f : Nat) (ds : List D) (r : R), callN Γ k f ds = some r → CallOk P f ds r
  | 0, f, ds, r, h => by
    simp only [callN] at h
    split at h
    · exact hE.orc f ds r ‹_› h
    · cases h
  | k + 1, f, ds, r, h => by
    simp only [callN] at h
    split at h
    · exact hE.orc f ds r ‹_› h
    · rename_i cf hcf
      obtain ⟨hnp, h⟩ := guardO_some h
      simp only [Option.bind_eq_some_iff] at h
      obtain ⟨⟨e, s⟩, hrun, h⟩ := h
      obtain ⟨fn, hf, hc⟩ := hE.ft f cf hcf
      simp only [compF, Option.bind_eq_some_iff] at hc
      obtain ⟨body, hb, c, hcc, hc⟩ := hc
      split at hc
      · rename_i hchk
        simp only [Bool.and_eq_true, decide_eq_true_eq, bne_iff_ne, ne_eq] at hchk
        obtain ⟨⟨hw, hsz⟩, hname⟩ := hchk
        simp only [Option.map_eq_some_iff] at hc
        obtain ⟨rs, hrs, hcf'⟩ := hc
        have e1 : cf.np = fn.params.size + fn.nfree := (congrArg CF.np hcf').symm
        have e2 : c = cf.body.er := congrArg CF.body hcf'
        have e3 : rs = cf.res := congrArg CF.res hcf'
        subst e2 e3
        refine ⟨⟨fn, hf, by rw [hb]; rfl, hname⟩, fun S w vs hT hrep hlt => ?_⟩
        have hvl : vs.length = fn.params.size + fn.nfree := by rw [← hrep.length, hnp, e1]
        have hN : (vs.toArray ++ Array.replicate (fn.ntmps - vs.toArray.size) undef).size = fn.ntmps := by simp; omega
        have hR : Rel (fun b => S b ∨ w.heap.size ≤ b) fn.ntmps ⟨w, fun _ => False, fun _ => none, fun b => w.heap.size ≤ b⟩ (fun _ => 0) ⟨argF 0 ds, hp0, []⟩ { tmps := vs.toArray ++ Array.replicate (fn.ntmps - vs.toArray.size) undef, defers := [] } w := by
          have hSm : ∀ b, S b → Im (fun b => S b ∨ w.heap.size ≤ b) (fun _ => 0) hp0 w b := fun b hb => ⟨.inl hb, hlt b hb, fun ⟨_, _, h, _⟩ => by simp [hp0] at h⟩
          refine ⟨fun i x hx => ?_, fun _ _ h => by simp [hp0] at h, fun _ _ _ _ h => by simp [hp0] at h, fun i x hx => ?_, fun _ _ _ h => by simp [hp0] at h, fun _ _ h => by simp [hp0] at h, fun _ _ h => by simp [hp0] at h, Foot.refl _ _, Marks.nil _ _ _, hN, fun b hb => .inr hb, fun _ _ h => by cases h⟩
          · obtain ⟨_, d, hd, rfl⟩ := argF_get ds 0 i x hx
            obtain ⟨v, hv, hdv⟩ := hrep.get i d (by simpa using hd)
            have : (vs.toArray ++ Array.replicate (fn.ntmps - vs.toArray.size) undef).getD i undef = v := by
              have hil : i < vs.length := (List.getElem?_eq_some_iff.1 hv).1
              rw [Array.getD_eq_getD_getElem?, Array.getElem?_append_left (by simpa using hil)]
              simp [hv]
            rw [this]
            exact .d _ _ (hdv.mono hSm (fun _ _ => rfl))
          · obtain ⟨_, d, _, rfl⟩ := argF_get ds 0 i x hx
            trivial
        refine callsIn_wide.1 (callsIn_of_wp_marks (n := 0) (F := Fence.wide) hf hb trivial ?_)
        refine code_sound hE.mix (fun f ds r h => call_sound hE k f ds r h) hE.it k Fence.wide wide_ok 0 _ ⟨w, fun _ => False, fun _ => none, fun b => w.heap.size ≤ b⟩ [] cf.body body _ (fun _ => 0) _ _ w e s ⟨fun _ _ h => (by cases h), .inr ⟨rfl, fun _ => rfl, fun _ h => h⟩, hT, fun _ _ h => h⟩ hcc hw hrun hR ?_
        intro m' a' w' hR'
        have fin : LeavesInM Fence.wide 0 P fn a'.tmps (fun e w' => ∃ v, e = .returned v ∧ Below w.heap.size w w' ∧ RetOk S w w' r v) a'.defers .returning w' → bodyPostM Fence.wide 0 P fn (fun e w' => ∃ v, e = .returned v ∧ Below w.heap.size w w' ∧ RetOk S w w' r v) e.out a' w' := by
          intro h1
          cases e with
          | x id => cases h
          | n => exact h1
          | r => exact h1
        refine fin ?_
        have hend : ending s cf.res = some r := by
          cases e with
          | x id => cases h
          | n => exact h
          | r => exact h
        refine leaves_of_rel (fn := fn) (P := P) (fun b h => h) (fun a2 w2 ht R2 => ?_) a'.defers a' w' rfl rfl hR'
        obtain ⟨v, g1, g2⟩ := end_sound (P := P) (S := S) R2 hrs hend rfl (fun _ h => h)
        rw [ht] at g1
        exact ⟨v, g1, v, rfl, R2.bel.below, g2⟩
      · cases hc

theorem callX_sound {P : Program} {Γ : Env} (hE : EnvOk P Γ) {f : Nat} {ds : List D} {r : R} (h : callX Γ f ds = some r) : CallOk P f ds r := by
  obtain ⟨k, hk⟩ := callX_some.1 h
  exact call_sound hE k f ds r hk
end Go.AM

/- Part 19: a law's call. -/
namespace Go.AM
open Go Go.RowKit

def iv (x : Int) : D := .v (.int .i64 x)
def bv (b : Bool) : D := .v (.bool b)
/-- A row of numbers, whether or not it is nil. -/
def Dg (d : D) (l : List Int) : Prop := (d = .z true ∧ l = []) ∨ d = .row l.length (l.map iv)

/-- A row of the machine's, as an argument. -/
theorem arg_row {w : World} {a : Option Addr} {len cap : Nat} {zs : List Int}
    (h : (a = none ∧ len = 0 ∧ cap = 0 ∧ zs = []) ∨ ∃ x, a = some x ∧ len ≤ cap ∧ cap ≤ maxLen ∧ zs.length = cap ∧ (∀ i, i < zs.length → w.cell? (x.add i) = some (.int .i64 (zs.getD i 0))) ∧ ∀ n ∈ zs, (Lit.int .i64 n).wf = true) :
    ∃ d l, Dg d l ∧ RepD (fun b => b < w.heap.size) w d (.slice a len cap) ∧ l.length = len ∧ ∀ n ∈ l, (Lit.int .i64 n).wf = true := by
  rcases h with ⟨rfl, rfl, rfl, rfl⟩ | ⟨x, rfl, h1, h2, h3, h4, h5⟩
  · exact ⟨.z true, [], .inl ⟨rfl, rfl⟩, .zt, rfl, by simp⟩
  · have hlen : (zs.take len).length = len := by simp; omega
    refine ⟨.row (zs.take len).length ((zs.take len).map iv), zs.take len, .inr rfl, ?_, hlen, fun n hn => h5 n (List.mem_of_mem_take hn)⟩
    rw [hlen]
    by_cases h0 : len = 0
    · subst h0
      simpa using RepD.row0 x cap
    · have hblk : x.block < w.heap.size := by
        have := h4 0 (by omega)
        rw [World.cell?] at this
        rcases Nat.lt_or_ge x.block w.heap.size with h' | h'
        · exact h'
        · have hb : (x.add 0).block = x.block := Addr.add_block x 0
          rw [hb, Array.getElem?_eq_none h'] at this
          cases this
      have hl : ∀ l : List Int, RepL (fun b => b < w.heap.size) w (l.map iv) (l.map fun n => Value.int .i64 n) := by
        intro l
        induction l with
        | nil => exact .nil
        | cons n r ih => exact .cons _ _ _ _ (.v _) ih
      refine .row len _ x cap _ h1 hblk (hl _) fun j v hj => ?_
      simp only [List.getElem?_map, Option.map_eq_some_iff] at hj
      obtain ⟨n, hn, rfl⟩ := hj
      have hjl : j < zs.length := by
        have := (List.getElem?_eq_some_iff.1 hn).1
        simp at this; omega
      rw [h4 j hjl]
      rw [List.getElem?_take] at hn
      split at hn
      · rw [List.getD, hn]; rfl
      · cases hn

theorem law_walk {P : Program} {Γ : Env} (hE : EnvOk P Γ) {f : Nat} {ds : List D} {vs : List Value} {w : World} (hT : TabOk w) (hrep : RepL (fun b => b < w.heap.size) w ds vs) (h : callX Γ f ds = some (.d (bv true))) :
    Calls P f vs.toArray w fun e w' => e = .returned (.bool true) ∧ Below w.heap.size w w' := by
  refine ((callX_sound hE h).2 _ w vs hT hrep (fun _ h => h)).mono ?_
  rintro e w' ⟨v, rfl, hb, hr⟩
  have hr' : RepD _ w' (.v (.bool true)) v := hr
  cases hr' with
  | v => exact ⟨rfl, hb⟩
end Go.AM

