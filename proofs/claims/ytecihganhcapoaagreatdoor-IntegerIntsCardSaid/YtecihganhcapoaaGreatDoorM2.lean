/- Part 2 of the proof: a small machine, its soundness against the model, and what the program's functions compute on it. -/
import Derived.Test.YtecihganhcapoaaGreatDoorM1
import Derived.OrdersIn
import Derived.Scope
import Derived.RangeFuncSeq
set_option linter.unusedVariables false
set_option linter.unusedSimpArgs false
/- Part 10: calls and builtins; all operations. -/
namespace Go.AM
open Go Go.RowKit

section
variable {S0 : Nat → Prop} {N : Nat} {w0 : Wd} {m : Key → Nat} {st : St} {a : Act} {w : World} {P : Program}
variable {F : Fence} {n : Nat} {o : Oper} {K : Act → World → Prop} {Q : Exit → Act → World → Prop} {x : A} {h' : Hp} {k : Key} {cl : Cl}

theorem enter_ok (hF : FOk F) (hR : Rel S0 N w0 m st a w) {f : Nat} {args : List Value} (hnd : ∀ c, o.op ≠ .defer c) (hr : (execOp a.eval o).run P w = .ok (.enter f args.toArray) w)
    {ds : List D} {b ad : Bool} {r : R} (h1 : RepL (fun c => S0 c ∧ c < w.heap.size) w ds args) (h2 : b = true → RepL (Im S0 m st.hp w) w ds args)
    (hok : CallOkW w0 P f ds r) (hret : retA k st.hp ad b r = some (x, h')) (hK : Post S0 N w0 st h' a x o.dst K) : o.wpIn F n P a w K Q := by
  refine ⟨fun f _ => hF.fn f, ?_⟩
  rw [Oper.semAt_eq _ _ _ hnd, hr, Oper.uponIn_enter]
  refine ⟨fun h => (by rw [hF.dep] at h; cases h), hF.call ?_⟩
  have main : ∀ S : Nat → Prop, (b = true → S = Im S0 m st.hp w) → (∀ c, S c → c < w.heap.size) → RepL S w ds args →
      Calls P f args.toArray w (fun
        | .returned v, w'' => K (a.put o.dst v) w''
        | .panicked chain, w'' => Q (.panic chain) a w''
        | .outgrown, _ => LetsOut Q) := by
    intro S hS hlt hrep
    refine (hok.2 S w args hR.bel hrep hlt).mono ?_
    rintro e w' ⟨v, rfl, hbel, hro⟩
    obtain ⟨m', g1, g2, g3⟩ := ret_sound hR hret hbel ⟨S, hS, hro⟩
    exact hK m' v w' g1 g2 g3
  cases b with
  | true => exact main _ (fun _ => rfl) (fun c hc => hc.2.1) (h2 rfl)
  | false => exact main _ (fun h => by cases h) (fun c hc => hc.2) h1

theorem callFunc_run {f : Nat} {fn : Func} (hf : P.funcs[f]? = some fn) (hb : fn.body.isSome = true) (hn : fn.name ≠ "runtime.NumGoroutine") (args : Array Value) : (callFunc f args).run P w = .ok (.enter f args) w := by
  have hb' : fn.body ≠ none := by intro h; rw [h] at hb; cases hb
  simp [callFunc, hf, hn, hb']

theorem call_ok (hcl : ∀ f ds r, cl f ds = some r → CallOkW w0 P f ds r) (hF : FOk F) (hR : Rel S0 N w0 m st a w) {c : Call} {u : Operand} (hop : o.op = .call c) (hc : c.callee = .value u) {i : I} (hi : compI P o.op = some i.er) (ha : act cl k st i = some (x, h')) (hK : Post S0 N w0 st h' a x o.dst K) : o.wpIn F n P a w K Q := by
  have hargs : c.args.map a.eval = (c.args.toList.map a.eval).toArray := by apply Array.ext'; simp
  have dyn : ((compE u).bind fun x => (mapO compE c.args.toList).map fun xs => I.calv x xs) = some i.er → o.wpIn F n P a w K Q := by
    intro hi
    simp only [Option.bind_eq_some_iff, Option.map_eq_some_iff] at hi
    obtain ⟨u', hu, q, hq, h2⟩ := hi
    obtain rfl := er_bare rfl h2.symm
    simp only [act, Option.bind_eq_some_iff] at ha
    obtain ⟨y, hy, ⟨f, caps⟩, hfn, as, has, ⟨ds, b⟩, hds, r, hr, hret⟩ := ha
    obtain rfl := fnA_some hfn
    obtain ⟨hrep, hcl'⟩ := allE_rep hR hq has
    obtain ⟨h1, h2⟩ := argsD_rep hR hrep hds
    have hfr := rep_d (hR.ev hu hy)
    generalize hv : a.eval u = v at hfr
    cases hfr with
    | fn _ _ vs hcaps =>
      have hok := hcl _ _ _ hr
      obtain ⟨fn, hf, hb, hnm⟩ := hok.1
      refine enter_ok hF hR (f := f) (args := c.args.toList.map a.eval ++ vs) (fun c h => by rw [hop] at h; cases h) ?_ (h1.append (hcaps.mono (fun c hc => ⟨hc.1, hc.2.1⟩) (fun _ _ => rfl))) (fun hb => (h2 hb).append hcaps) hok hret hK
      simp only [execOp, hop, resolve, hc, hv, Deferred.ofValue, Sem.run_bind, Sem.run_pure, Result.andThen_ok, invoke, hargs]
      rw [callFunc_run hf hb hnm]
      congr 2
      simp
  rw [hop] at hi
  simp only [compI, hc] at hi
  cases u with
  | func f =>
    simp only [Option.bind_eq_some_iff, Option.map_eq_some_iff] at hi
    obtain ⟨_, ⟨fn, hf, hchk⟩, q, hq, h2⟩ := hi
    obtain ⟨ad, rfl⟩ := er_call h2.symm
    simp only [act, Option.bind_eq_some_iff] at ha
    obtain ⟨as, has, ⟨ds, b⟩, hds, r, hr, hret⟩ := ha
    obtain ⟨hrep, hcl'⟩ := allE_rep hR hq has
    obtain ⟨h1, h2⟩ := argsD_rep hR hrep hds
    have hok := hcl _ _ _ hr
    obtain ⟨fn, hf, hb, hnm⟩ := hok.1
    refine enter_ok hF hR (f := f) (args := c.args.toList.map a.eval) (fun c h => by rw [hop] at h; cases h) ?_ h1 h2 hok hret hK
    have hev : a.eval (.func f) = .func (.func f) #[] #[] := rfl
    simp only [execOp, hop, resolve, hc, hev, Deferred.ofValue, Sem.run_bind, Sem.run_pure, Result.andThen_ok, invoke, hargs]
    rw [callFunc_run hf hb hnm]
    congr 2
    simp
  | tmp t => exact dyn hi
  | const v => exact dyn hi
  | global g => exact dyn hi

theorem exec_builtin {c : Call} {b : Builtin} (hop : o.op = .call c) (hc : c.callee = .builtin b) {v : Value} {w' : World} {args : Array Value} (hargs : c.args.map a.eval = args)
    (h : ∀ cs, (builtin b c.argTypes o.type cs args).run P w = .ok (.value v) w') : (execOp a.eval o).run P w = .ok (.value v) w' := by
  simp only [execOp, hop, resolve, hc, Sem.run_bind, Sem.run_pure, Result.andThen_ok, invoke, hargs, h]

theorem toList_one {α : Type} {l : Array α} {x : α} (h : l.toList = [x]) : l = #[x] := by apply Array.ext'; simpa using h
theorem toList_two {α : Type} {l : Array α} {x y : α} (h : l.toList = [x, y]) : l = #[x, y] := by apply Array.ext'; simpa using h

theorem foldM_mx (f : Value → Value → Option Value) (g : Value → Value → Sem Value) (hfg : ∀ x y z, f x y = some z → (g x y).run P w = .ok z w) (hR : Rel S0 N w0 m st a w) : ∀ (r : List A) (vs : List Value) (x v : Value),
    RepAL m st.hp (Im S0 m st.hp w) w r vs → foldV f x r = some v → (vs.foldlM g x).run P w = .ok v w
  | [], vs, x, v, h, hf => by
    cases h
    simp only [foldV, Option.some.injEq] at hf
    subst hf
    rfl
  | y :: r, vs, x, v, h, hf => by
    cases h with
    | cons _ _ u us hx ht =>
      unfold foldV at hf
      split at hf
      · rename_i e; cases e
      · rename_i e
        cases e
        simp only [Option.bind_eq_some_iff] at hf
        obtain ⟨z, hz, hf⟩ := hf
        have hu := rep_v hx
        subst hu
        simp only [List.foldlM_cons, Sem.run_bind, hfg _ _ _ hz, Result.andThen_ok]
        exact foldM_mx f g hfg hR r us z v ht hf
      · cases hf

/-- copy. -/
theorem cpy_sound (hR : Rel S0 N w0 m st a w) {t u e : TypeId} {i : TypeInfo} (ht : P.underlying t = some (.slice e)) (hi : P.info? e = some i) {y z : A} {vy vz : Value} {c r : Nat} {ys : List D}
    (hy : RepA m st.hp (Im S0 m st.hp w) w y vy) (hz : RepA m st.hp (Im S0 m st.hp w) w z vz) (hsrc : src st z = some (c, ys)) (hst1 : ∀ s, vz = .string s → i.size = 1)
    (hcp : cpyA st.hp i.size c ys y = some (r, h')) (ty : TypeId) :
    ∃ (m' : Key → Nat) (w' : World), (Builtin.copy_ #[t, u] ty #[vy, vz]).run P w = .ok (.int .i64 r) w' ∧ Rel S0 N w0 m' { st with hp := h' } a w' := by
  obtain ⟨hlen, vs, hvs, hfirst⟩ := src_sound (P := P) hR hz hsrc
  have hor : i.size = 1 ∨ ∀ s, vz ≠ .string s := by
    by_cases h : ∃ s, vz = .string s
    · obtain ⟨s, hs⟩ := h; exact .inl (hst1 s hs)
    · exact .inr fun s hs => h ⟨s, hs⟩
  have zcase : ∀ (b : Bool) (ad : Option Addr), vy = .slice ad 0 0 → y = .d (.z b) → ∃ (m' : Key → Nat) (w' : World), (Builtin.copy_ #[t, u] ty #[vy, vz]).run P w = .ok (.int .i64 r) w' ∧ Rel S0 N w0 m' { st with hp := h' } a w' := by
    intro b ad hv hyz
    subst hyz
    simp only [cpyA] at hcp
    obtain ⟨hl, hcp⟩ := guardO_some hcp
    simp only [Option.some.injEq, Prod.mk.injEq] at hcp
    obtain ⟨rfl, rfl⟩ := hcp
    have hf := hfirst i.size 0 w rfl hl (Nat.zero_le _) hor
    simp only [Nat.zero_mul, List.take_zero] at hf
    refine ⟨m, w, ?_, hR⟩
    subst hv
    have hmin : Nat.min c 0 = 0 := Nat.min_zero c
    cases ad <;> simp [Builtin.copy_, run_underlying ht, run_sizeOf hi, hlen, hmin, hf, goInt, storeCells]
  cases hy with
  | d y _ h =>
    cases h with
    | zt => exact zcase true none rfl rfl
    | zf ad => exact zcase false ad rfl rfl
    | _ => simp [cpyA] at hcp
  | own q n _ hsh h =>
    simp only [cpyA, Option.bind_eq_some_iff] at hcp
    obtain ⟨o, hk, hcp⟩ := hcp
    obtain ⟨⟨hn, hfz, hes, hcl, hl, hone⟩, hcp⟩ := guardO_some hcp
    simp only [Option.some.injEq, Prod.mk.injEq] at hcp
    obtain ⟨rfl, rfl⟩ := hcp
    obtain ⟨cap, cells, T, fr, rfl, hncap, hat, hsz⟩ := h o hk hn
    obtain ⟨cells', T', fr', ho⟩ := hR.obj q o hk
    rw [ho.at_] at hat
    cases hat
    subst hn
    rw [hes] at hsz
    have hvl : vs.length = c * i.size := by rw [← hvs.length, hl]
    have hmin : Nat.min c o.n = min c o.n := rfl
    have hf := hfirst i.size (min c o.n) w rfl hl (Nat.min_le_left _ _) hor
    have hvone : ∀ v ∈ vs.take (min c o.n * i.size), v.oneCell' = true := fun v hv => list_one hvs hone v (List.mem_of_mem_take hv)
    have hle1 : min c o.n * i.size ≤ c * i.size := Nat.mul_le_mul_right _ (Nat.min_le_left _ _)
    have hle2 : min c o.n * i.size ≤ o.n * i.size := Nat.mul_le_mul_right _ (Nat.min_le_right _ _)
    have hle3 : o.n * i.size ≤ cap * i.size := Nat.mul_le_mul_right _ hncap
    have htl : (vs.take (min c o.n * i.size)).length = min c o.n * i.size := by simp; omega
    have hfits : 0 + 0 + (vs.take (min c o.n * i.size)).length ≤ cells.size := by omega
    have hst := run_storeCells_fz P (m q) 0 T fr (vs.take (min c o.n * i.size)) 0 cells w ho.at_ (fun k' _ h2 => ho.free k' (by omega)) hfits hvone
    have hseg := seg_get cells.toList (vs.take (min c o.n * i.size)) (0 + 0) (by simpa using hfits)
    have hsl : (cells.toList.take (0 + 0) ++ vs.take (min c o.n * i.size) ++ cells.toList.drop (0 + 0 + (vs.take (min c o.n * i.size)).length)).length = cells.size := by simp; omega
    have hor2 : (min o.n c) = min c o.n := Nat.min_comm _ _
    refine ⟨mset m q (m q), _, ?_, hR.change (b := m q) (o' := { o with cs := (ys.take (min c o.n * i.size)).map .d ++ o.cs.drop (min c o.n * i.size) }) hk rfl (Nat.le_refl _) hfz (.inl rfl)
      (w' := w.setRow (m q) (cells.toList.take (0 + 0) ++ vs.take (min c o.n * i.size) ++ cells.toList.drop (0 + 0 + (vs.take (min c o.n * i.size)).length)).toArray)
      (setRow_heap w _ cells _ T fr ho.at_) (fun d _ hd => setRow_heap_ne w _ _ d hd) (fun _ _ cs3 T3 fz3 h3 => by rw [ho.at_] at h3; cases h3; exact ⟨rfl, by rw [List.size_toArray, hsl]⟩)
      (Nat.le_of_eq (setRow_size w _ _).symm) rfl rfl rfl ?_ (fun j hj => by rw [List.size_toArray, hsl] at hj; exact ho.free j hj) ?_ ?_⟩
    · simp only [Builtin.copy_, List.getElem?_toArray]
      simp [run_underlying ht, run_sizeOf hi, hlen, hmin, hf, goInt, hst]
    · have := ho.size
      rw [List.size_toArray, hsl]
      simp; omega
    · intro j x hj
      have hyl : (ys.take (min c o.n * i.size)).length = min c o.n * i.size := by simp; omega
      by_cases hjl : j < min c o.n * i.size
      · rw [List.getElem?_append_left (by simpa using (by omega))] at hj
        simp only [List.getElem?_map, Option.map_eq_some_iff] at hj
        obtain ⟨d, hd, rfl⟩ := hj
        obtain ⟨v, g1, g2⟩ := (hvs.take (min c o.n * i.size)).get j d hd
        refine ⟨v, ?_, .d _ _ g2⟩
        rw [List.getElem?_toArray, hseg, if_neg (by omega), if_pos (by omega), show j - (0 + 0) = j by omega]
        exact g1
      · rw [List.getElem?_append_right (by simp; omega)] at hj
        simp only [List.length_map, hyl, List.getElem?_drop] at hj
        rw [show min c o.n * i.size + (j - min c o.n * i.size) = j by omega] at hj
        obtain ⟨v, g1, g2⟩ := ho.rep j x hj
        refine ⟨v, ?_, g2⟩
        rw [List.getElem?_toArray, hseg, if_neg (by omega), if_neg (by omega)]
        simpa using g1
    · intro x hx
      rcases List.mem_append.1 hx with hx | hx
      · obtain ⟨d, _, rfl⟩ := List.mem_map.1 hx; trivial
      · exact hR.clh q o x hk (List.mem_of_mem_drop hx)
  | ptr k o _ _ h => simp [cpyA] at hcp
  | ep k n o _ _ h => simp [cpyA] at hcp
  | tup xs vs h => simp [cpyA] at hcp
  | fn f xs vs h => simp [cpyA] at hcp

theorem blt_ok (hF : FOk F) (hR : Rel S0 N w0 m st a w) {c : Call} {b : Builtin} (hop : o.op = .call c) (hc : c.callee = .builtin b) {i : I} (hi : compI P o.op = some i.er) (ha : act cl k st i = some (x, h')) (hK : Post S0 N w0 st h' a x o.dst K) : o.wpIn F n P a w K Q := by
  have hnd : ∀ d, o.op ≠ .defer d := fun d h => by rw [hop] at h; cases h
  rw [hop] at hi
  simp only [compI, hc] at hi
  cases b <;> simp only [reduceCtorEq] at hi
  case len =>
    split at hi
    · rename_i x' t hx ht
      have hx := toList_one hx
      have ht := toList_one ht
      split at hi
      · rename_i hs
        simp only [Option.map_eq_some_iff] at hi
        obtain ⟨u', hu, h2⟩ := hi
        obtain rfl := er_bare rfl h2.symm
        simp only [act, Option.bind_eq_some_iff, Option.map_eq_some_iff, Prod.mk.injEq] at ha
        obtain ⟨y, hy, s, hss, rfl, rfl⟩ := ha
        obtain rfl := strA_some hss
        have hue := rep_v (hR.ev hu hy)
        refine pure_ok hF hR hnd (v := .int .i64 s.size) (exec_builtin hop hc (args := #[.string s]) (by rw [hx]; simp [hue]) ?_) (.d _ _ (.v _)) trivial rfl hK
        intro cs
        simp [builtin, Builtin.len_, ht, run_underlying hs, goInt]
      · rename_i e hs
        simp only [Option.map_eq_some_iff] at hi
        obtain ⟨u', hu, h2⟩ := hi
        obtain rfl := er_bare rfl h2.symm
        simp only [act, Option.bind_eq_some_iff, Option.map_eq_some_iff, Prod.mk.injEq] at ha
        obtain ⟨y, hy, q, hq, rfl, rfl⟩ := ha
        have h3 := len_sound (P := P) hs (hR.ev hu hy) hq o.type
        refine pure_ok hF hR hnd (v := .int .i64 (Int.ofNat q)) (exec_builtin hop hc (args := #[a.eval x']) (by rw [hx]; simp) ?_) (.d _ _ (.v _)) trivial rfl hK
        intro cs
        simp [builtin, ht, h3]
      · cases hi
    · cases hi
  case append =>
    split at hi
    · rename_i x' y' t u hx ht
      have hx := toList_two hx
      have ht := toList_two ht
      simp only [Option.bind_eq_some_iff] at hi
      obtain ⟨⟨es, by_, zs⟩, hel, hi⟩ := hi
      obtain ⟨e, inf, zv, hut, hinf, hzv, rfl, rfl, rfl, hpos, hzs, hbp⟩ := elemI_some hel
      have main : ((∃ e', P.underlying u = some (.slice e')) ∨ P.underlying u = some .string) → ((compE x').bind fun x => (compE y').map fun y => I.app inf.size inf.bytes x y false) = some i.er → o.wpIn F n P a w K Q := by
        intro hu hi
        simp only [Option.bind_eq_some_iff, Option.map_eq_some_iff] at hi
        obtain ⟨p, hp, q, hq, h2⟩ := hi
        obtain ⟨fz, rfl⟩ := er_app h2.symm
        simp only [act, Option.bind_eq_some_iff] at ha
        obtain ⟨y, hy, z, hz, ⟨cc, ys⟩, hsr, happ⟩ := ha
        have hzr := hR.ev hq hz
        have hsrc : src st z = some (cc, ys) ∧ ∀ s, a.eval y' = .string s → inf.size = 1 := by
          split at hsr
          · rename_i h1; exact ⟨hsr, fun _ _ => h1⟩
          · obtain ⟨h1, h2⟩ := srcS_some hzr hsr
            exact ⟨h1, fun s hs => absurd hs (h2 s)⟩
        obtain ⟨m', v, w', h3, h4, h5, h6⟩ := app_sound (P := P) hR hut hu hinf hzv hbp hpos hzs (hR.ev hp hy) (E.ev_keys hR hy) hzr hsrc.1 hsrc.2 happ o.type
        refine wpIn_value hF hnd (exec_builtin hop hc (args := #[a.eval x', a.eval y']) (by rw [hx]; simp) ?_) (hK m' v w' h4 h5 h6)
        intro cs
        simp [builtin, ht, h3]
      split at hi
      · exact main (.inl ⟨_, ‹_›⟩) hi
      · exact main (.inr ‹_›) hi
      · cases hi
    · cases hi
  case max =>
    simp only [Option.map_eq_some_iff] at hi
    obtain ⟨q, hq, h2⟩ := hi
    obtain rfl := er_bare rfl h2.symm
    simp only [act, Option.bind_eq_some_iff] at ha
    obtain ⟨as, has, ha⟩ := ha
    obtain ⟨hrep, hclas⟩ := allE_rep hR hq has
    split at ha
    · rename_i x' r
      simp only [Option.map_eq_some_iff, Prod.mk.injEq] at ha
      obtain ⟨v, hv, rfl, rfl⟩ := ha
      generalize hvs : c.args.toList.map a.eval = vs at hrep
      cases hrep with
      | cons _ _ u us hx ht =>
        have hu := rep_v hx
        subst hu
        have h3 := foldM_mx (P := P) mxV Builtin.max2 (fun x y z h => by
          unfold mxV at h
          split at h
          · cases h; simp [Builtin.max2]
          · cases h) hR r us u v ht hv
        have hargs : c.args.map a.eval = (u :: us).toArray := by
          rw [← hvs]; apply Array.ext'; simp
        refine pure_ok hF hR hnd (v := v) (exec_builtin hop hc hargs ?_) (.d _ _ (.v _)) trivial rfl hK
        intro cs
        simp [builtin, Builtin.max_, h3]
    · cases ha
  case min =>
    simp only [Option.map_eq_some_iff] at hi
    obtain ⟨q, hq, h2⟩ := hi
    obtain rfl := er_bare rfl h2.symm
    simp only [act, Option.bind_eq_some_iff] at ha
    obtain ⟨as, has, ha⟩ := ha
    obtain ⟨hrep, hclas⟩ := allE_rep hR hq has
    split at ha
    · rename_i x' r
      simp only [Option.map_eq_some_iff, Prod.mk.injEq] at ha
      obtain ⟨v, hv, rfl, rfl⟩ := ha
      generalize hvs : c.args.toList.map a.eval = vs at hrep
      cases hrep with
      | cons _ _ u us hx ht =>
        have hu := rep_v hx
        subst hu
        have h3 := foldM_mx (P := P) mnV Builtin.min2 (fun x y z h => by
          unfold mnV at h
          split at h
          · cases h; simp [Builtin.min2]
          · cases h) hR r us u v ht hv
        have hargs : c.args.map a.eval = (u :: us).toArray := by
          rw [← hvs]; apply Array.ext'; simp
        refine pure_ok hF hR hnd (v := v) (exec_builtin hop hc hargs ?_) (.d _ _ (.v _)) trivial rfl hK
        intro cs
        simp [builtin, Builtin.min_, h3]
    · cases ha
  case copy =>
    split at hi
    · rename_i x' y' t u hx ht
      have hx := toList_two hx
      have ht := toList_two ht
      simp only [Option.bind_eq_some_iff, Option.map_eq_some_iff] at hi
      obtain ⟨⟨es, by_, zs⟩, hel, p, hp, q, hq, h2⟩ := hi
      obtain ⟨e, inf, zv, hut, hinf, hzv, rfl, rfl, rfl, hpos, hzs, hbp⟩ := elemI_some hel
      obtain rfl := er_bare rfl h2.symm
      simp only [act, Option.bind_eq_some_iff, Option.map_eq_some_iff, Prod.mk.injEq] at ha
      obtain ⟨y, hy, z, hz, ⟨cc, ys⟩, hsr, ⟨r, h2'⟩, hcp, rfl, rfl⟩ := ha
      have hzr := hR.ev hq hz
      have hsrc : src st z = some (cc, ys) ∧ ∀ s, a.eval y' = .string s → inf.size = 1 := by
        split at hsr
        · rename_i h1; exact ⟨hsr, fun _ _ => h1⟩
        · obtain ⟨h1, h2⟩ := srcS_some hzr hsr
          exact ⟨h1, fun s hs => absurd hs (h2 s)⟩
      obtain ⟨m', w', h3, h4⟩ := cpy_sound (P := P) (u := u) hR hut hinf (hR.ev hp hy) hzr hsrc.1 hsrc.2 hcp o.type
      refine wpIn_value hF hnd (v := .int .i64 r) (w' := w') (exec_builtin hop hc (args := #[a.eval x', a.eval y']) (by rw [hx]; simp) ?_) (hK m' _ w' h4 (.d _ _ (.v _)) trivial)
      intro cs
      simp [builtin, ht, h3]
    · cases hi

/-- Every operation. -/
theorem op_sound (hcl : ∀ f ds r, cl f ds = some r → CallOkW w0 P f ds r) (hF : FOk F) (hR : Rel S0 N w0 m st a w) {i : I} (hi : compI P o.op = some i.er) (ha : act cl k st i = some (x, h')) (hK : Post S0 N w0 st h' a x o.dst K) : o.wpIn F n P a w K Q := by
  cases hop : o.op with
  | move e => exact mov_ok hF hR (.inl hop) hi ha hK
  | assign e => exact mov_ok hF hR (.inr hop) hi ha hK
  | pick c u v => exact pick_ok hF hR hop hi ha hK
  | alloc e => exact alloc_ok hF hR hop hi ha hK
  | box e u => exact box_ok hF hR hop hi ha hK
  | build t ps => exact build_ok hF hR hop hi ha hK
  | buildSlice t l ps => exact lit_ok hF hR hop hi ha hK
  | load t u => exact load_ok hF hR hop hi ha hK
  | store t p u => exact store_ok hF hR hop hi ha hK
  | binOp op t u v t' => exact bin_ok hF hR hop hi ha hK
  | unOp op t u => exact un_ok hF hR hop hi ha hK
  | convert s d u => exact conv_ok hF hR hop hi ha hK
  | makeFunc f c d => exact mkfn_ok hF hR hop hi ha hK
  | makeSlice t l c => exact mksl_ok hF hR hop hi ha hK
  | slice t u lo hi' mx => exact slc_ok hF hR hop hi ha hK
  | fieldAddr t u f => exact fad_ok hF hR hop hi ha hK
  | field t u f => exact fld_ok hF hR hop hi ha hK
  | indexAddr t u j => exact ixa_ok hF hR hop hi ha hK
  | index t u j => exact ixs_ok hF hR hop hi ha hK
  | extract u j => exact ext_ok hF hR hop hi ha hK
  | call c =>
    cases hc : c.callee with
    | value u => exact call_ok hcl hF hR hop hc hi ha hK
    | builtin b => exact blt_ok hF hR hop hc hi ha hK
    | invoke r nm => rw [hop] at hi; simp only [compI, hc, reduceCtorEq] at hi
  | _ => rw [hop] at hi; simp [compI] at hi
end
end Go.AM

/- Part 11: two operations that may come in either order. -/
namespace Go.AM
open Go Go.RowKit

section
variable {cl : Cl} {k : Key}

/-! ### What an operation reads of the frame -/
theorem ev_congr {st st' : St} {e : E} (h : ∀ t, t ∈ e.tmps → st'.fr t = st.fr t) : e.ev st' = e.ev st := by
  cases e with
  | t n => exact h n (by simp [E.tmps])
  | c x => rfl
  | f n => rfl
theorem allE_congr {st st' : St} : ∀ {l : List E}, (∀ t, t ∈ l.flatMap (·.tmps) → st'.fr t = st.fr t) → allE st' l = allE st l
  | [], _ => rfl
  | e :: r, h => by
    simp only [List.flatMap_cons, List.mem_append] at h
    simp only [allE, ev_congr (fun t ht => h t (.inl ht)), allE_congr (fun t ht => h t (.inr ht))]
theorem partsD_congr {st st' : St} : ∀ {l : List (Nat × E)}, (∀ t, t ∈ l.flatMap (·.2.tmps) → st'.fr t = st.fr t) → partsD st' l = partsD st l
  | [], _ => rfl
  | (i, e) :: r, h => by
    simp only [List.flatMap_cons, List.mem_append] at h
    simp only [partsD, ev_congr (fun t ht => h t (.inl ht)), partsD_congr (fun t ht => h t (.inr ht))]
theorem partsB_congr {st st' : St} : ∀ {l : List (Nat × Nat × E)}, (∀ t, t ∈ l.flatMap (·.2.2.tmps) → st'.fr t = st.fr t) → partsB st' l = partsB st l
  | [], _ => rfl
  | (i, j, e) :: r, h => by
    simp only [List.flatMap_cons, List.mem_append] at h
    simp only [partsB, ev_congr (fun t ht => h t (.inl ht)), partsB_congr (fun t ht => h t (.inr ht))]
theorem optI_congr {st st' : St} {d : Int} {e : Option E} (h : ∀ t, t ∈ oE e → st'.fr t = st.fr t) : optI st' d e = optI st d e := by
  cases e with
  | none => rfl
  | some e => simp only [optI, ev_congr h]
theorem bnds_congr {st st' : St} {n : Nat} {a b c : Option E} (h1 : ∀ t, t ∈ oE a → st'.fr t = st.fr t) (h2 : ∀ t, t ∈ oE b → st'.fr t = st.fr t) (h3 : ∀ t, t ∈ oE c → st'.fr t = st.fr t) : bnds st' n a b c = bnds st n a b c := by
  unfold bnds
  rw [optI_congr h1, optI_congr h2]
  cases c with
  | none => rfl
  | some e => simp only [ev_congr h3]
theorem slcA_congr {st st' : St} {es : Nat} {a b c : Option E} {x : A} (h1 : ∀ t, t ∈ oE a → st'.fr t = st.fr t) (h2 : ∀ t, t ∈ oE b → st'.fr t = st.fr t) (h3 : ∀ t, t ∈ oE c → st'.fr t = st.fr t) : slcA st' es a b c x = slcA st es a b c x := by
  unfold slcA
  split <;> simp only [bnds_congr h1 h2 h3]
theorem src_congr {st st' : St} (hh : st'.hp = st.hp) (x : A) : src st' x = src st x := by
  unfold src; rw [hh]
theorem srcS_congr {st st' : St} (hh : st'.hp = st.hp) (x : A) : srcS st' x = srcS st x := by
  unfold srcS; simp only [src_congr hh]
theorem argsD_congr {st st' : St} (hh : st'.hp = st.hp) : ∀ l : List A, argsD st' l = argsD st l
  | [] => rfl
  | x :: r => by
    have : argD st' x = argD st x := by unfold argD; rw [hh]
    simp only [argsD, this, argsD_congr hh r]
theorem snap_congr {st st' : St} (hh : st'.hp = st.hp) : ∀ l : List A, snap st' l = snap st l
  | [] => rfl
  | x :: r => by
    have ih := snap_congr hh r
    cases x with
    | ptr q o => cases o <;> simp only [snap, hh, ih]
    | _ => simp only [snap, ih]

theorem act_congr {st st' : St} {i : I} (h : ∀ t, t ∈ i.reads → st'.fr t = st.fr t) (hh : st'.hp = st.hp) : act cl k st' i = act cl k st i := by
  cases i <;> simp only [I.reads, List.mem_append] at h <;> simp only [act, hh, src_congr hh, srcS_congr hh, argsD_congr hh, snap_congr hh]
  case mov x => rw [ev_congr h]
  case pick c a b => rw [ev_congr fun t ht => h t (.inl (.inl ht)), ev_congr fun t ht => h t (.inl (.inr ht)), ev_congr fun t ht => h t (.inr ht)]
  case box x => rw [ev_congr h]
  case build zs ps => rw [partsB_congr h]
  case lit es n zs ps fz => rw [partsD_congr h]
  case load sz x => rw [ev_congr h]
  case store sz a x => rw [ev_congr fun t ht => h t (.inl ht), ev_congr fun t ht => h t (.inr ht)]
  case bin op a x => rw [ev_congr fun t ht => h t (.inl ht), ev_congr fun t ht => h t (.inr ht)]
  case binb op a x => rw [ev_congr fun t ht => h t (.inl ht), ev_congr fun t ht => h t (.inr ht)]
  case eqs n op a x => rw [ev_congr fun t ht => h t (.inl ht), ev_congr fun t ht => h t (.inr ht)]
  case un op x => rw [ev_congr h]
  case conv c x => rw [ev_congr h]
  case mkfn f xs sn => rw [allE_congr h]
  case mksl es by_ zs a x => rw [ev_congr fun t ht => h t (.inl ht), ev_congr fun t ht => h t (.inr ht)]
  case slc es x a b c =>
    rw [ev_congr fun t ht => h t (.inl (.inl (.inl ht)))]
    simp only [slcA_congr (fun t ht => h t (.inl (.inl (.inr ht)))) (fun t ht => h t (.inl (.inr ht))) (fun t ht => h t (.inr ht))]
  case sls x a b =>
    rw [ev_congr fun t ht => h t (.inl (.inl ht))]
    simp only [bnds_congr (c := none) (fun t ht => h t (.inl (.inr ht))) (fun t ht => h t (.inr ht)) (fun t ht => by simp [oE] at ht)]
  case fad off x => rw [ev_congr h]
  case fld off sz x => rw [ev_congr h]
  case ixa es a x => rw [ev_congr fun t ht => h t (.inl ht), ev_congr fun t ht => h t (.inr ht)]
  case ixs a x => rw [ev_congr fun t ht => h t (.inl ht), ev_congr fun t ht => h t (.inr ht)]
  case ext x i => rw [ev_congr h]
  case call f xs ad => rw [allE_congr h]
  case calv x xs => rw [ev_congr fun t ht => h t (.inl ht), allE_congr fun t ht => h t (.inr ht)]
  case len x => rw [ev_congr h]
  case lns x => rw [ev_congr h]
  case isn n x => rw [ev_congr h]
  case app es by_ a x fz => rw [ev_congr fun t ht => h t (.inl ht), ev_congr fun t ht => h t (.inr ht)]
  case cpy es a x => rw [ev_congr fun t ht => h t (.inl ht), ev_congr fun t ht => h t (.inr ht)]
  case mx xs => rw [allE_congr h]
  case mn xs => rw [allE_congr h]

/-! ### The heap under it changed -/
def withH (st : St) (h : Hp) : St := { st with hp := h }
theorem ev_withH (st : St) (h : Hp) (e : E) : e.ev (withH st h) = e.ev st := ev_congr fun _ _ => rfl
theorem allE_withH (st : St) (h : Hp) (l : List E) : allE (withH st h) l = allE st l := allE_congr fun _ _ => rfl
theorem partsD_withH (st : St) (h : Hp) (l : List (Nat × E)) : partsD (withH st h) l = partsD st l := partsD_congr fun _ _ => rfl
theorem partsB_withH (st : St) (h : Hp) (l : List (Nat × Nat × E)) : partsB (withH st h) l = partsB st l := partsB_congr fun _ _ => rfl
theorem bnds_withH (st : St) (h : Hp) (n : Nat) (a b c : Option E) : bnds (withH st h) n a b c = bnds st n a b c := bnds_congr (fun _ _ => rfl) (fun _ _ => rfl) fun _ _ => rfl
theorem slcA_withH (st : St) (h : Hp) (n : Nat) (a b c : Option E) (x : A) : slcA (withH st h) n a b c x = slcA st n a b c x := slcA_congr (fun _ _ => rfl) (fun _ _ => rfl) fun _ _ => rfl

/-- An operation that looks at no heap. -/
theorem act0 {st : St} {i : I} (hc : i.class = 0) {x : A} {h1 : Hp} (ha : act cl k st i = some (x, h1)) : h1 = st.hp ∧ ∀ h', act cl k (withH st h') i = some (x, h') := by
  cases i <;> simp [I.class] at hc <;> simp only [act, ev_withH, allE_withH, partsB_withH, bnds_withH] at ha ⊢ <;> (try simp only [Option.map_eq_some_iff, Option.bind_eq_some_iff, Prod.mk.injEq] at ha ⊢)
  case mov x => obtain ⟨y, hy, rfl, rfl⟩ := ha; exact ⟨rfl, fun h' => ⟨_, hy, rfl, rfl⟩⟩
  case pick c a b => obtain ⟨y, hy, t, ht, z, hz, rfl, rfl⟩ := ha; exact ⟨rfl, fun h' => ⟨_, hy, _, ht, _, hz, rfl, rfl⟩⟩
  case build zs ps => obtain ⟨y, hy, t, ht, rfl, rfl⟩ := ha; exact ⟨rfl, fun h' => ⟨_, hy, _, ht, rfl, rfl⟩⟩
  case bin op a b => obtain ⟨y, hy, z, hz, u, hu, v, hv, r, hr, rfl, rfl⟩ := ha; exact ⟨rfl, fun h' => ⟨_, hy, _, hz, _, hu, _, hv, _, hr, rfl, rfl⟩⟩
  case binb op a b => obtain ⟨y, hy, z, hz, u, hu, v, hv, rfl, rfl⟩ := ha; exact ⟨rfl, fun h' => ⟨_, hy, _, hz, _, hu, _, hv, rfl, rfl⟩⟩
  case eqs n op a b =>
    obtain ⟨y, hy, z, hz, u, hu, v, hv, ha⟩ := ha
    obtain ⟨hl, ha⟩ := guardO_some ha
    simp only [Option.map_eq_some_iff, Prod.mk.injEq] at ha
    obtain ⟨r, hr, rfl, rfl⟩ := ha
    exact ⟨rfl, fun h' => ⟨_, hy, _, hz, _, hu, _, hv, by rw [guardO, if_pos hl, hr]; rfl⟩⟩
  case un op a => obtain ⟨y, hy, z, hz, u, hu, rfl, rfl⟩ := ha; exact ⟨rfl, fun h' => ⟨_, hy, _, hz, _, hu, rfl, rfl⟩⟩
  case sls x lo hi => obtain ⟨y, hy, z, hz, u, hu, rfl, rfl⟩ := ha; exact ⟨rfl, fun h' => ⟨_, hy, _, hz, _, hu, rfl, rfl⟩⟩
  case fad off x => obtain ⟨y, hy, z, hz, rfl, rfl⟩ := ha; exact ⟨rfl, fun h' => ⟨_, hy, _, hz, rfl, rfl⟩⟩
  case fld off sz x => obtain ⟨y, hy, z, hz, u, hu, rfl, rfl⟩ := ha; exact ⟨rfl, fun h' => ⟨_, hy, _, hz, _, hu, rfl, rfl⟩⟩
  case ixs a b =>
    obtain ⟨y, hy, z, hz, u, hu, v, hv, hg⟩ := ha
    obtain ⟨hg1, hg2⟩ := guardO_some hg
    simp only [Option.some.injEq, Prod.mk.injEq] at hg2
    obtain ⟨rfl, rfl⟩ := hg2
    exact ⟨rfl, fun h' => ⟨_, hy, _, hz, _, hu, _, hv, by simp only [guardO, hg1, and_self, if_true]; rfl⟩⟩
  case ext x j => obtain ⟨y, hy, z, hz, rfl, rfl⟩ := ha; exact ⟨rfl, fun h' => ⟨_, hy, _, hz, rfl, rfl⟩⟩
  case len x => obtain ⟨y, hy, z, hz, rfl, rfl⟩ := ha; exact ⟨rfl, fun h' => ⟨_, hy, _, hz, rfl, rfl⟩⟩
  case lns x => obtain ⟨y, hy, z, hz, rfl, rfl⟩ := ha; exact ⟨rfl, fun h' => ⟨_, hy, _, hz, rfl, rfl⟩⟩
  case isn n x => obtain ⟨y, hy, z, hz, rfl, rfl⟩ := ha; exact ⟨rfl, fun h' => ⟨_, hy, _, hz, rfl, rfl⟩⟩
  case mx xs =>
    obtain ⟨as, has, ha⟩ := ha
    split at ha
    · rename_i u r
      simp only [Option.map_eq_some_iff, Prod.mk.injEq] at ha
      obtain ⟨v, hv, rfl, rfl⟩ := ha
      exact ⟨rfl, fun h' => ⟨_, has, by simp [hv]; rfl⟩⟩
    · cases ha
  case mn xs =>
    obtain ⟨as, has, ha⟩ := ha
    split at ha
    · rename_i u r
      simp only [Option.map_eq_some_iff, Prod.mk.injEq] at ha
      obtain ⟨v, hv, rfl, rfl⟩ := ha
      exact ⟨rfl, fun h' => ⟨_, has, by simp [hv]; rfl⟩⟩
    · cases ha
end
end Go.AM

/- Part 12: they may come in either order. -/
namespace Go.AM
open Go Go.RowKit

def extH (h : Hp) (k : Key) : Option Obj → Hp
  | none => h
  | some o => hupd h k o
/-- The heaps agree where the value refers to. -/
def agreeA (h h' : Hp) : A → Prop := refP (fun q => h' q = h q) (fun q _ => h' q = h q)
def agreeL (h h' : Hp) : List A → Prop := refPL (fun q => h' q = h q) (fun q _ => h' q = h q)
section
variable {cl : Cl} {k : Key}

theorem loadA_agree {h h' : Hp} {sz : Option Nat} {y : A} (ha : agreeA h h' y) : loadA h' sz y = loadA h sz y := by
  cases y with
  | ptr q o => simp only [loadA, show h' q = h q from ha]
  | ep q n o => simp only [loadA, show h' q = h q from ha]
  | d x => cases x <;> rfl
  | _ => rfl
theorem ixaA_agree {h h' : Hp} {es : Nat} {j : Int} {y : A} (ha : agreeA h h' y) : ixaA h' es j y = ixaA h es j y := by
  cases y with
  | own q n => simp only [ixaA, show h' q = h q from ha]
  | d x => cases x <;> rfl
  | _ => rfl
theorem src_agree {st : St} {h' : Hp} {y : A} (ha : agreeA st.hp h' y) : src (withH st h') y = src st y := by
  cases y with
  | own q n => simp only [src, withH, show h' q = st.hp q from ha]
  | d x =>
    cases x with
    | v u => cases u <;> rfl
    | _ => rfl
  | _ => rfl
theorem srcS_agree {st : St} {h' : Hp} {y : A} (ha : agreeA st.hp h' y) : srcS (withH st h') y = srcS st y := by
  cases y with
  | d x => cases x <;> first | rfl | exact src_agree ha
  | _ => exact src_agree ha
theorem argsD_agree {st : St} {h' : Hp} : ∀ {l : List A}, agreeL st.hp h' l → argsD (withH st h') l = argsD st l
  | [], _ => rfl
  | x :: r, ha => by
    have : argD (withH st h') x = argD st x := by
      have h1 : agreeA st.hp h' x := ha.1
      cases x with
      | own q n => simp only [argD, withH, show h' q = st.hp q from h1]
      | _ => rfl
    simp only [argsD, this, argsD_agree ha.2]
theorem mkA_made {h h1 : Hp} {fz : Bool} {es n : Nat} {cs : List D} {x : A} (hm : mkA k h fz es n cs = some (x, h1)) (h' : Hp) :
    ∃ ob : Option Obj, h1 = extH h k ob ∧ (ob ≠ none → h k = none) ∧ ((ob ≠ none → h' k = none) → mkA k h' fz es n cs = some (x, extH h' k ob)) := by
  unfold mkA at hm ⊢
  cases fz with
  | true =>
    simp only [if_true, Option.some.injEq, Prod.mk.injEq] at hm
    obtain ⟨rfl, rfl⟩ := hm
    exact ⟨none, rfl, by simp, fun _ => rfl⟩
  | false =>
    simp only [Bool.false_eq_true, if_false] at hm
    obtain ⟨h0, hm⟩ := guardO_some hm
    simp only [Option.some.injEq, Prod.mk.injEq] at hm
    obtain ⟨rfl, rfl⟩ := hm
    refine ⟨some ⟨es, n, cs.map .d, false⟩, rfl, fun _ => by simpa using h0, fun hk => ?_⟩
    have := hk (by simp)
    simp [guardO, this, extH]
theorem retA_made {h h1 : Hp} {ad fz : Bool} {r : R} {x : A} (hm : retA k h ad fz r = some (x, h1)) (h' : Hp) :
    ∃ ob : Option Obj, h1 = extH h k ob ∧ (ob ≠ none → h k = none) ∧ ((ob ≠ none → h' k = none) → retA k h' ad fz r = some (x, extH h' k ob)) := by
  cases r with
  | d y =>
    simp only [retA] at hm ⊢
    obtain ⟨h0, hm⟩ := guardO_some hm
    simp only [Option.some.injEq, Prod.mk.injEq] at hm
    obtain ⟨rfl, rfl⟩ := hm
    exact ⟨none, rfl, by simp, fun _ => by simp only [guardO, h0, if_true, extH]⟩
  | own es n cs =>
    simp only [retA] at hm ⊢
    obtain ⟨h0, hm⟩ := guardO_some hm
    obtain ⟨ob, g1, g2, g3⟩ := mkA_made hm h'
    exact ⟨ob, g1, g2, fun hk => by simp only [guardO, h0, if_true]; exact g3 hk⟩

theorem ev_agree {st : St} {h' : Hp} {e : E} {v : A} (hv : e.ev st = some v) (hag : ∀ t, t ∈ e.tmps → ∀ v, st.fr t = some v → agreeA st.hp h' v) : agreeA st.hp h' v := by
  cases e with
  | t n => exact hag n (by simp [E.tmps]) v hv
  | c x => simp only [E.ev, Option.some.injEq] at hv; subst hv; trivial
  | f n => simp only [E.ev, Option.some.injEq] at hv; subst hv; trivial
theorem allE_agree {st : St} {h' : Hp} : ∀ {l : List E} {vs : List A}, allE st l = some vs → (∀ t, t ∈ l.flatMap (·.tmps) → ∀ v, st.fr t = some v → agreeA st.hp h' v) → agreeL st.hp h' vs
  | [], vs, hv, _ => by simp only [allE, Option.some.injEq] at hv; subst hv; trivial
  | e :: r, vs, hv, hag => by
    simp only [allE, Option.bind_eq_some_iff, Option.map_eq_some_iff] at hv
    obtain ⟨y, hy, as, has, rfl⟩ := hv
    simp only [List.flatMap_cons, List.mem_append] at hag
    exact ⟨ev_agree hy (fun t ht => hag t (.inl ht)), allE_agree has (fun t ht => hag t (.inr ht))⟩

/-- An operation that looks at the heap, or lays one new object. -/
theorem act1 {st : St} {i : I} (hc : i.class = 1) {x : A} {h1 : Hp} (ha : act cl k st i = some (x, h1)) {h' : Hp} (hag : ∀ t, t ∈ i.reads → ∀ v, st.fr t = some v → agreeA st.hp h' v) :
    ∃ ob : Option Obj, h1 = extH st.hp k ob ∧ (ob ≠ none → st.hp k = none) ∧ ((ob ≠ none → h' k = none) → act cl k (withH st h') i = some (x, extH h' k ob)) := by
  have hw : (withH st h').hp = h' := rfl
  cases i <;> simp [I.class] at hc <;> simp only [I.reads, List.mem_append] at hag <;> simp only [act, ev_withH, allE_withH, partsD_withH, slcA_withH, hw] at ha ⊢
  case new zs =>
    obtain ⟨h0, ha⟩ := guardO_some ha
    simp only [Option.some.injEq, Prod.mk.injEq] at ha
    obtain ⟨rfl, rfl⟩ := ha
    refine ⟨some _, rfl, fun _ => by simpa using h0, fun hk => ?_⟩
    have := hk (by simp)
    simp [guardO, this, extH]
  case box u =>
    simp only [Option.bind_eq_some_iff] at ha ⊢
    obtain ⟨y, hy, ha⟩ := ha
    obtain ⟨⟨h0, h2⟩, ha⟩ := guardO_some ha
    simp only [Option.some.injEq, Prod.mk.injEq] at ha
    obtain ⟨rfl, rfl⟩ := ha
    refine ⟨some _, rfl, fun _ => by simpa using h0, fun hk => ⟨y, hy, ?_⟩⟩
    have := hk (by simp)
    simp only [guardO, this, h2, Option.isNone_none, and_self, if_true, extH]
  case lit es n zs ps fz =>
    simp only [Option.bind_eq_some_iff] at ha ⊢
    obtain ⟨q, hq, ds, hds, ha⟩ := ha
    obtain ⟨ob, g1, g2, g3⟩ := mkA_made ha h'
    exact ⟨ob, g1, g2, fun hk => ⟨q, hq, ds, hds, g3 hk⟩⟩
  case load sz u =>
    simp only [Option.bind_eq_some_iff, Option.map_eq_some_iff, Prod.mk.injEq] at ha ⊢
    obtain ⟨y, hy, z, hz, rfl, rfl⟩ := ha
    exact ⟨none, rfl, by simp, fun _ => ⟨y, hy, z, by rw [loadA_agree (ev_agree hy hag)]; exact hz, rfl, rfl⟩⟩
  case conv c u =>
    simp only [Option.bind_eq_some_iff] at ha ⊢
    obtain ⟨y, hy, ha⟩ := ha
    cases c with
    | int kd =>
      simp only [Option.map_eq_some_iff, Prod.mk.injEq] at ha ⊢
      obtain ⟨j, hj, rfl, rfl⟩ := ha
      exact ⟨none, rfl, by simp, fun _ => ⟨y, hy, j, hj, rfl, rfl⟩⟩
    | b2s =>
      simp only [Option.bind_eq_some_iff] at ha ⊢
      obtain ⟨p, hp, ha⟩ := ha
      obtain ⟨h0, ha⟩ := guardO_some ha
      simp only [Option.map_eq_some_iff, Prod.mk.injEq] at ha
      obtain ⟨bs, hb, rfl, rfl⟩ := ha
      refine ⟨none, rfl, by simp, fun _ => ⟨y, hy, p, by rw [srcS_agree (ev_agree hy hag)]; exact hp, ?_⟩⟩
      simp only [guardO, h0, if_true, hb, Option.map_some, extH]
    | s2b fz =>
      simp only [Option.bind_eq_some_iff] at ha ⊢
      obtain ⟨p, hp, ha⟩ := ha
      obtain ⟨ob, g1, g2, g3⟩ := mkA_made ha h'
      exact ⟨ob, g1, g2, fun hk => ⟨y, hy, p, hp, g3 hk⟩⟩
    | id => cases ha
  case mksl es by_ zs u v =>
    simp only [Option.bind_eq_some_iff] at ha ⊢
    obtain ⟨y, hy, z, hz, j, hj, q, hq, ha⟩ := ha
    obtain ⟨h0, ha⟩ := guardO_some ha
    obtain ⟨ob, g1, g2, g3⟩ := mkA_made ha h'
    exact ⟨ob, g1, g2, fun hk => ⟨y, hy, z, hz, j, hj, q, hq, by rw [guardO, if_pos h0]; exact g3 hk⟩⟩
  case slc es u lo hi mx =>
    simp only [Option.bind_eq_some_iff, Option.map_eq_some_iff, Prod.mk.injEq] at ha ⊢
    obtain ⟨y, hy, z, hz, rfl, rfl⟩ := ha
    exact ⟨none, rfl, by simp, fun _ => ⟨y, hy, z, hz, rfl, rfl⟩⟩
  case ixa es u v =>
    simp only [Option.bind_eq_some_iff, Option.map_eq_some_iff, Prod.mk.injEq] at ha ⊢
    obtain ⟨y, hy, z, hz, j, hj, r, hr, rfl, rfl⟩ := ha
    exact ⟨none, rfl, by simp, fun _ => ⟨y, hy, z, hz, j, hj, r, by rw [ixaA_agree (ev_agree hy fun t ht => hag t (.inl ht))]; exact hr, rfl, rfl⟩⟩
  case call f xs ad =>
    simp only [Option.bind_eq_some_iff] at ha ⊢
    obtain ⟨as, has, p, hp, r, hr, ha⟩ := ha
    obtain ⟨ob, g1, g2, g3⟩ := retA_made ha h'
    exact ⟨ob, g1, g2, fun hk => ⟨as, has, p, by rw [argsD_agree (allE_agree has hag)]; exact hp, r, hr, g3 hk⟩⟩
  case calv u xs =>
    simp only [Option.bind_eq_some_iff] at ha ⊢
    obtain ⟨y, hy, q, hq, as, has, p, hp, r, hr, ha⟩ := ha
    obtain ⟨ob, g1, g2, g3⟩ := retA_made ha h'
    exact ⟨ob, g1, g2, fun hk => ⟨y, hy, q, hq, as, has, p, by rw [argsD_agree (allE_agree has fun t ht => hag t (.inr ht))]; exact hp, r, hr, g3 hk⟩⟩

/-! ### Two in either order -/
theorem extH_of {h : Hp} {k q : Key} {ob : Option Obj} (h0 : ob ≠ none → h k = none) (hq : h q ≠ none) : extH h k ob q = h q := by
  cases ob with
  | none => rfl
  | some o =>
    have := h0 (by simp)
    simp only [extH, hupd, hupdO]
    split
    · rename_i e; subst e; exact absurd this hq
    · rfl
theorem extH_none {h : Hp} {k q : Key} {ob : Option Obj} (h0 : extH h k ob q = none) : h q = none ∧ (ob ≠ none → q ≠ k) := by
  cases ob with
  | none => exact ⟨h0, by simp⟩
  | some o =>
    simp only [extH, hupd, hupdO] at h0
    split at h0
    · cases h0
    · rename_i e; exact ⟨h0, fun _ => e⟩
theorem extH_none_of {h : Hp} {k q : Key} {ob : Option Obj} (h0 : h q = none) (hne : ob ≠ none → q ≠ k) : extH h k ob q = none := by
  cases ob with
  | none => exact h0
  | some o =>
    have := hne (by simp)
    simp only [extH, hupd, hupdO, this, if_false]; exact h0
theorem extH_comm {h : Hp} {k q : Key} {ob ob' : Option Obj} (hne : ob ≠ none → ob' ≠ none → k ≠ q) : extH (extH h k ob) q ob' = extH (extH h q ob') k ob := by
  cases ob with
  | none => rfl
  | some o =>
    cases ob' with
    | none => rfl
    | some o' =>
      have := hne (by simp) (by simp)
      funext j
      simp only [extH, hupd, hupdO]
      by_cases h1 : j = k <;> by_cases h2 : j = q
      · subst h1; exact absurd h2 this
      · simp [h1, h2, this]
      · simp [h1, h2, Ne.symm this]
      · simp [h1, h2]
theorem putO_comm {f : Fr} {d e : Option Nat} {x y : A} (h : ∀ a, d = some a → e ≠ some a) : putO (putO f d x) e y = putO (putO f e y) d x := by
  cases d with
  | none => rfl
  | some a =>
    cases e with
    | none => rfl
    | some b =>
      have hab : b ≠ a := fun hb => h a rfl (by rw [hb])
      funext j
      simp only [putO, upd, updO]
      by_cases h1 : j = a <;> by_cases h2 : j = b
      · subst h1; exact absurd h2.symm hab
      · simp [h1, h2, Ne.symm hab]
      · simp [h1, h2, hab]
      · simp [h1, h2]
theorem putO_fr {f : Fr} {d : Option Nat} {x : A} {t : Nat} (h : d ≠ some t) : putO f d x t = f t := by
  cases d with
  | none => rfl
  | some a =>
    have : t ≠ a := fun e => h (by rw [e])
    simp [putO, upd, updO, this]

/-- Closed: every slot refers to what is there. -/
def ClF (st : St) : Prop := ∀ i x, st.fr i = some x → Closed st.hp x
theorem agree_of_closed {h h' : Hp} (hh : ∀ q, h q ≠ none → h' q = h q) {x : A} (hc : Closed h x) : agreeA h h' x :=
  refP_mono (fun q ⟨o, ho, _⟩ => hh q (by rw [ho]; simp)) (fun q n ⟨o, ho, _⟩ => hh q (by rw [ho]; simp)) hc
theorem agree_back {h h' : Hp} (hh : ∀ q, h q ≠ none → h' q = h q) {x : A} (hc : Closed h x) : agreeA h' h x :=
  refP_mono (fun q ⟨o, ho, _⟩ => (hh q (by rw [ho]; simp)).symm) (fun q n ⟨o, ho, _⟩ => (hh q (by rw [ho]; simp)).symm) hc

theorem wanted_congr {st st' : St} {g : Option (Nat × Bool)} (h : ∀ t b, g = some (t, b) → st'.fr t = st.fr t) : wantedO st' g = wantedO st g := by
  cases g with
  | none => rfl
  | some p => obtain ⟨t, b⟩ := p; simp only [wantedO, h t b rfl]

theorem ldcells_apart {sz : Option Nat} {o p t : Nat} {cs cs' new : List A} {z : A} (hst : stcells p new cs = some cs') (ht : new.length = t) (hap : o + sz.getD 1 ≤ p ∨ p + t ≤ o) (h : ldcells sz o cs = some z) : ldcells sz o cs' = some z := by
  subst ht
  unfold stcells at hst
  obtain ⟨hle, hst⟩ := guardO_some hst
  simp only [Option.some.injEq] at hst
  have hget : ∀ j, j < o + sz.getD 1 → o ≤ j → cs'[j]? = cs[j]? := by
    intro j h1 h2
    rw [← hst, seg_get cs new p hle]
    by_cases h3 : j < p
    · rw [if_pos h3]
    · rw [if_neg h3, if_neg (by omega)]
  have hlen : cs'.length = cs.length := by rw [← hst]; simp; omega
  cases sz with
  | none =>
    simp only [ldcells] at h ⊢
    rw [hget o (by simp) (Nat.le_refl _)]; exact h
  | some s =>
    simp only [ldcells] at h ⊢
    obtain ⟨h0, h⟩ := guardO_some h
    have heq : (cs'.drop o).take s = (cs.drop o).take s := by
      apply List.ext_getElem?
      intro j
      simp only [List.getElem?_take, List.getElem?_drop]
      split
      · exact hget _ (by simp; omega) (by omega)
      · rfl
    rw [guardO, if_pos (by omega), heq]; exact h
end
end Go.AM

/- Part 13: the swap of two operations, and one brought to the front. -/
namespace Go.AM
open Go Go.RowKit

section
variable {cl : Cl}

theorem exO_some {st s : St} {o : O} (h : exO cl st o = some s) :
    (wantedO st o.g = some true ∧ ∃ x h1, act cl ((o.dst.getD 0) :: st.px) st o.i = some (x, h1) ∧ s = { st with fr := putO st.fr o.dst x, hp := h1 }) ∨
    (wantedO st o.g = some false ∧ s = { st with fr := putO st.fr o.dst undefA }) := by
  unfold exO at h
  simp only [Option.bind_eq_some_iff] at h
  obtain ⟨w, hw, h⟩ := h
  cases w with
  | true =>
    simp only [if_true, Option.map_eq_some_iff] at h
    obtain ⟨⟨x, h1⟩, ha, rfl⟩ := h
    exact .inl ⟨hw, x, h1, ha, rfl⟩
  | false =>
    simp only [Bool.false_eq_true, if_false, Option.some.injEq] at h
    exact .inr ⟨hw, h.symm⟩
theorem exO_true {st : St} {o : O} {x : A} {h1 : Hp} (hw : wantedO st o.g = some true) (ha : act cl ((o.dst.getD 0) :: st.px) st o.i = some (x, h1)) : exO cl st o = some { st with fr := putO st.fr o.dst x, hp := h1 } := by
  simp [exO, hw, ha]
theorem exO_false {st : St} {o : O} (hw : wantedO st o.g = some false) : exO cl st o = some { st with fr := putO st.fr o.dst undefA } := by
  simp [exO, hw]

theorem act_put {st : St} {d : Option Nat} {x : A} {h : Hp} {i : I} {k : Key} (hr : ∀ a, d = some a → a ∉ i.reads) : act cl k { st with fr := putO st.fr d x, hp := h } i = act cl k (withH st h) i :=
  act_congr (fun t ht => putO_fr (fun e => hr t e ht)) rfl

/-- What is asked of two that change places: the first looks there, the second writes elsewhere. -/
def LsOk (st : St) (x y : O) : Prop := ∀ q, q ∈ storesOf x y → apartS st q = true

theorem loadA_same {h h' : Hp} (hs : ∀ k, (h' k).map (fun o => (o.n, o.cs)) = (h k).map (fun o => (o.n, o.cs))) (sz : Option Nat) (a : A) : loadA h' sz a = loadA h sz a := by
  cases a with
  | ptr k off =>
    have := hs k
    simp only [loadA]
    cases h1 : h' k <;> cases h2 : h k <;> simp only [h1, h2, Option.map_some, Option.map_none, reduceCtorEq, Option.some.injEq, Prod.mk.injEq] at this
    · rfl
    · simp only [Option.bind_some, this.2]
  | ep k n off =>
    have := hs k
    simp only [loadA]
    cases h1 : h' k <;> cases h2 : h k <;> simp only [h1, h2, Option.map_some, Option.map_none, reduceCtorEq, Option.some.injEq, Prod.mk.injEq] at this
    · rfl
    · simp only [Option.bind_some, this.2, this.1]
  | d x => cases x <;> rfl
  | _ => rfl
theorem snapH_same : ∀ (l : List A) (h : Hp) (k : Key), (snapH h l k).map (fun o => (o.n, o.cs)) = (h k).map (fun o => (o.n, o.cs))
  | [], h, k => rfl
  | a :: r, h, k => by
    have stay : ∀ h' : Hp, snapH h' r k = snapH h' r k := fun _ => rfl
    cases a with
    | ptr q off =>
      cases off with
      | zero =>
        simp only [snapH]
        rw [snapH_same r]
        cases hq : h q with
        | none => rfl
        | some o =>
          simp only [hupd, hupdO]
          split
          · rename_i e; subst e; rw [hq]; rfl
          · rfl
      | succ n => simp only [snapH]; exact snapH_same r h k
    | _ => simp only [snapH]; exact snapH_same r h k
theorem ixaA_store {h h2 : Hp} {v w : A} (hs : storeA h v w = some h2) (es : Nat) (j : Int) (a : A) : ixaA h2 es j a = ixaA h es j a := by
  have key : ∀ k, (h2 k).map (fun o => o.n) = (h k).map (fun o => o.n) := by
    intro k
    cases w <;> simp only [storeA, reduceCtorEq, Option.bind_eq_some_iff] at hs
    · obtain ⟨o, ho, hs⟩ := hs
      obtain ⟨_, hs⟩ := guardO_some hs
      simp only [Option.map_eq_some_iff] at hs
      obtain ⟨cs, _, rfl⟩ := hs
      simp only [hupd, hupdO]
      split
      · rename_i e; subst e; rw [ho]; rfl
      · rfl
    · obtain ⟨o, ho, hs⟩ := hs
      obtain ⟨_, hs⟩ := guardO_some hs
      simp only [Option.bind_eq_some_iff, Option.map_eq_some_iff] at hs
      obtain ⟨_, _, cs, _, rfl⟩ := hs
      simp only [hupd, hupdO]
      split
      · rename_i e; subst e; rw [ho]; rfl
      · rfl
  cases a with
  | own q n =>
    have := key q
    simp only [ixaA]
    cases h1 : h2 q <;> cases h3 : h q <;> simp only [h1, h3, Option.map_some, Option.map_none, reduceCtorEq, Option.some.injEq] at this
    · rfl
    · simp only [Option.bind_some, this]
  | d x => cases x <;> rfl
  | _ => rfl
theorem hupd_comm {h : Hp} {k q : Key} {o : Obj} {oby : Option Obj} (hne : oby ≠ none → q ≠ k) : hupd (extH h q oby) k o = extH (hupd h k o) q oby := by
  cases oby with
  | none => rfl
  | some o' =>
    have := hne (by simp)
    funext j
    simp only [extH, hupd, hupdO]
    by_cases h1 : j = k <;> by_cases h2 : j = q
    · subst h1; exact absurd h2.symm this
    · simp [h1, h2, Ne.symm this]
    · simp [h1, h2, this]
    · simp [h1, h2]
/-- An append beside an object that is new. -/
theorem appA_ext {k : Key} {h hx : Hp} {fz : Bool} {es by_ m : Nat} {ys : List D} {a u : A} (hes : es ≠ 0) (ha : appA k h fz es by_ m ys a = some (u, hx)) :
    (∀ q ob, h q = some ob → ob.es = 0 → hx q = h q) ∧ (∀ q, hx q = none → h q = none) ∧ (∀ ky oby, (oby ≠ none → hx ky = none) → appA k (extH h ky oby) fz es by_ m ys a = some (u, extH hx ky oby)) := by
  cases a with
  | d x =>
    cases x <;> simp only [appA, reduceCtorEq] at ha
    rename_i b
    obtain ⟨hg, ha⟩ := guardO_some ha
    by_cases hm : m = 0
    · rw [if_pos hm] at ha
      simp only [Option.some.injEq, Prod.mk.injEq] at ha
      obtain ⟨rfl, rfl⟩ := ha
      exact ⟨fun _ _ _ _ => rfl, fun _ h => h, fun ky oby _ => by simp only [appA, guardO]; rw [if_pos hg, if_pos hm]⟩
    · rw [if_neg hm] at ha
      unfold mkA at ha
      by_cases hf : fz = true
      · rw [if_pos hf] at ha
        simp only [Option.some.injEq, Prod.mk.injEq] at ha
        obtain ⟨rfl, rfl⟩ := ha
        exact ⟨fun _ _ _ _ => rfl, fun _ h => h, fun ky oby _ => by simp only [appA, mkA, guardO]; rw [if_pos hg, if_neg hm, if_pos hf]⟩
      · rw [if_neg hf] at ha
        obtain ⟨hk, ha⟩ := guardO_some ha
        simp only [Option.some.injEq, Prod.mk.injEq] at ha
        obtain ⟨rfl, rfl⟩ := ha
        have hk' : h k = none := by simpa using hk
        refine ⟨fun q ob hq _ => ?_, fun q hq => ?_, fun ky oby hne => ?_⟩
        · have : q ≠ k := fun e => by rw [e, hk'] at hq; cases hq
          simp [hupd, hupdO, this]
        · simp only [hupd, hupdO] at hq
          split at hq
          · cases hq
          · exact hq
        · have hne' : oby ≠ none → ky ≠ k := fun e1 e2 => by
            have := hne e1
            simp [hupd, hupdO, e2] at this
          have hn : extH h ky oby k = none := extH_none_of hk' fun e => (hne' e).symm
          simp only [appA, mkA, guardO]
          rw [if_pos hg, if_neg hm, if_neg hf, hn, if_pos Option.isNone_none, hupd_comm hne']
  | own q n =>
    simp only [appA, Option.bind_eq_some_iff] at ha
    obtain ⟨o, ho, ha⟩ := ha
    obtain ⟨hg, ha⟩ := guardO_some ha
    have key : ∀ o' : Obj, hx = hupd h q o' → (∀ q' ob, h q' = some ob → ob.es = 0 → hx q' = h q') ∧ (∀ q', hx q' = none → h q' = none) ∧ (∀ ky oby, (oby ≠ none → hx ky = none) → extH h ky oby q = some o ∧ hupd (extH h ky oby) q o' = extH hx ky oby) := by
      rintro o' rfl
      refine ⟨fun q' ob hq he => ?_, fun q' hq => ?_, fun ky oby hne => ?_⟩
      · have : q' ≠ q := fun e => by rw [e, ho] at hq; cases hq; exact hes (hg.2.2.1 ▸ he)
        simp [hupd, hupdO, this]
      · simp only [hupd, hupdO] at hq
        split at hq
        · cases hq
        · exact hq
      · have hne' : oby ≠ none → ky ≠ q := fun e1 e2 => by
          have := hne e1
          simp [hupd, hupdO, e2] at this
        refine ⟨?_, hupd_comm hne'⟩
        cases oby with
        | none => exact ho
        | some o2 =>
          have := hne' (by simp)
          simp only [extH, hupd, hupdO, Ne.symm this, if_false]; exact ho
    by_cases hf : fz = true
    · rw [if_pos hf] at ha
      simp only [Option.map_eq_some_iff, Prod.mk.injEq] at ha
      obtain ⟨cs, hcs, rfl, rfl⟩ := ha
      obtain ⟨k1, k2, k3⟩ := key _ rfl
      refine ⟨k1, k2, fun ky oby hne => ?_⟩
      obtain ⟨e1, e2⟩ := k3 ky oby hne
      simp only [appA, e1, Option.bind_some, guardO]
      rw [if_pos hg, if_pos hf, hcs, Option.map_some, e2]
    · rw [if_neg hf] at ha
      simp only [Option.some.injEq, Prod.mk.injEq] at ha
      obtain ⟨rfl, rfl⟩ := ha
      obtain ⟨k1, k2, k3⟩ := key _ rfl
      refine ⟨k1, k2, fun ky oby hne => ?_⟩
      obtain ⟨e1, e2⟩ := k3 ky oby hne
      simp only [appA, e1, Option.bind_some, guardO]
      rw [if_pos hg, if_neg hf, e2]
  | _ => simp [appA] at ha
theorem swap {st s1 s2 : St} {x y : O} (hcl : ClF st) (hc : commO x y = true) (hls : LsOk st x y) (h1 : exO cl st x = some s1) (h2 : exO cl s1 y = some s2) :
    ∃ s1', exO cl st y = some s1' ∧ exO cl s1' x = some s2 := by
  simp only [commO, Bool.and_eq_true] at hc
  obtain ⟨⟨c1, c2⟩, c3⟩ := hc
  have hxy : ∀ a, x.dst = some a → a ∉ y.reads ∧ y.dst ≠ some a := by
    intro a ha
    rw [ha] at c1
    simp only [Bool.and_eq_true, Bool.not_eq_true', bne_iff_ne, ne_eq] at c1
    exact ⟨fun hm => (by have := List.contains_iff_mem.2 hm; rw [this] at c1; cases c1.1), c1.2⟩
  have hyx : ∀ a, y.dst = some a → a ∉ x.reads := by
    intro a ha
    rw [ha] at c2
    simp only [Bool.not_eq_true'] at c2
    exact fun hm => by have := List.contains_iff_mem.2 hm; rw [this] at c2; cases c2
  have hxi : ∀ a, y.dst = some a → a ∉ x.i.reads := fun a ha hm => hyx a ha (List.mem_append_left _ hm)
  have hyi : ∀ a, x.dst = some a → a ∉ y.i.reads := fun a ha hm => (hxy a ha).1 (List.mem_append_left _ hm)
  have hxg : ∀ (fr : Fr) (h : Hp) (v : A), wantedO { st with fr := putO st.fr y.dst v, hp := h } x.g = wantedO st x.g := fun fr h v => by
    refine wanted_congr fun t b hg => ?_
    show putO st.fr y.dst v t = st.fr t
    exact putO_fr fun e => hyx t e (by simp [O.reads, hg])
  have hyg : ∀ (h : Hp) (v : A), wantedO { st with fr := putO st.fr x.dst v, hp := h } y.g = wantedO st y.g := fun h v => by
    refine wanted_congr fun t b hg => ?_
    show putO st.fr x.dst v t = st.fr t
    exact putO_fr fun e => (hxy t e).1 (by simp [O.reads, hg])
  have hput : ∀ u v : A, putO (putO st.fr x.dst u) y.dst v = putO (putO st.fr y.dst v) x.dst u := fun u v => putO_comm fun a ha => (hxy a ha).2
  rcases exO_some h1 with ⟨wx, u, hx, ax, rfl⟩ | ⟨wx, rfl⟩
  · rcases exO_some h2 with ⟨wy, v, hy, ay, rfl⟩ | ⟨wy, rfl⟩
    · rw [hyg] at wy
      rw [act_put hyi] at ay
      have core : ∃ hy', act cl ((y.dst.getD 0) :: st.px) st y.i = some (v, hy') ∧ act cl ((x.dst.getD 0) :: st.px) (withH st hy') x.i = some (u, hy) := by
        have hself : withH st st.hp = st := rfl
        simp only [Bool.or_eq_true, beq_iff_eq, Bool.and_eq_true] at c3
        rcases c3 with ((((((c | c) | ⟨ca, cb⟩) | ⟨⟨⟨ca, cb⟩, cg1⟩, cg2⟩) | ⟨ca, cb⟩) | ⟨ca, cb⟩) | ⟨ca, cb⟩) | ⟨ca, cb⟩
        · obtain ⟨rfl, g⟩ := act0 c ax
          exact ⟨hy, ay, g hy⟩
        · obtain ⟨rfl, g⟩ := act0 c ay
          refine ⟨st.hp, ?_, ax⟩
          have := g st.hp
          exact this
        · have hsub : ∀ q, st.hp q ≠ none → hx q = st.hp q := by
            obtain ⟨ob, e1, e2, _⟩ := act1 (h' := st.hp) ca ax (fun t _ v hv => refP_mono (fun _ _ => rfl) (fun _ _ _ => rfl) (hcl t v hv))
            intro q hq
            rw [e1]; exact extH_of e2 hq
          obtain ⟨oby, b1, b2, b3⟩ := act1 (st := withH st hx) (h' := st.hp) cb ay (fun t _ v hv => agree_back hsub (hcl t v hv))
          have b2' : oby ≠ none → hx (y.dst.getD 0 :: st.px) = none := b2
          have hxn : ∀ q, hx q = none → st.hp q = none := fun q hq => by
            cases hh : st.hp q with
            | none => rfl
            | some o => rw [hsub q (by rw [hh]; simp), hh] at hq; cases hq
          have ay' := b3 fun hne => hxn _ (b2' hne)
          have ay'' : act cl (y.dst.getD 0 :: st.px) st y.i = some (v, extH st.hp (y.dst.getD 0 :: st.px) oby) := ay'
          refine ⟨_, ay'', ?_⟩
          have hsub2 : ∀ q, st.hp q ≠ none → extH st.hp (y.dst.getD 0 :: st.px) oby q = st.hp q := fun q hq => extH_of (fun hne => hxn _ (b2' hne)) hq
          obtain ⟨obx, a1, a2, a3⟩ := act1 (h' := extH st.hp (y.dst.getD 0 :: st.px) oby) ca ax (fun t _ v hv => agree_of_closed hsub2 (hcl t v hv))
          have hne : obx ≠ none → oby ≠ none → x.dst.getD 0 :: st.px ≠ y.dst.getD 0 :: st.px := by
            intro n1 n2
            have := b2' n2
            rw [a1] at this
            exact fun e => (extH_none this).2 n1 e.symm
          have := a3 fun n1 => extH_none_of (a2 n1) fun n2 => hne n1 n2
          rw [this]
          have b1' : hy = extH hx (y.dst.getD 0 :: st.px) oby := b1
          rw [b1', a1]
          congr 2
          exact (extH_comm hne).symm
        · -- a load ahead of a store
          obtain ⟨od, oi, og⟩ := x
          obtain ⟨od', oi', og'⟩ := y
          dsimp only at *
          cases oi <;> simp [isLoadT] at ca
          rename_i sz e
          cases e <;> simp [isLoadT] at ca
          rename_i tp
          cases oi' <;> simp [I.class] at cb
          rename_i sy ea ev
          have hap := hls (.t tp, sz.getD 1, ea, sy) (by simp [storesOf])
          simp only [act, Option.bind_eq_some_iff, Option.map_eq_some_iff, Prod.mk.injEq] at ax
          obtain ⟨pv, hpv, z, hz, rfl, rfl⟩ := ax
          rw [hself] at ay
          refine ⟨hy, ay, ?_⟩
          simp only [act, Option.bind_eq_some_iff] at ay
          obtain ⟨av, hav, w, hw, ay⟩ := ay
          obtain ⟨⟨hsz, hone⟩, ay⟩ := guardO_some ay
          simp only [Option.map_eq_some_iff, Prod.mk.injEq] at ay
          obtain ⟨hy2, hst, rfl, rfl⟩ := ay
          simp only [apartS, hpv, hav] at hap
          have hnd : ∀ x, av ≠ .d x := fun x e => by rw [e] at hst; simp [storeA] at hst
          rcases (show (∃ cs, pv = .d (.rp cs)) ∨ ∃ q o, pv = .ptr q o by
            cases pv with
            | ptr q o => exact .inr ⟨_, _, rfl⟩
            | d x => cases x <;> first | exact .inl ⟨_, rfl⟩ | (cases av <;> first | exact absurd rfl (hnd _) | (simp at hap))
            | _ => simp at hap) with ⟨cs, rfl⟩ | ⟨q, o, rfl⟩
          · simp only [act, ev_withH, hpv, Option.bind_some]
            rw [show loadA (withH st hy2).hp sz (.d (.rp cs)) = loadA st.hp sz (.d (.rp cs)) from rfl, hz]
            rfl
          obtain ⟨q', o', rfl⟩ : ∃ q o, av = .ptr q o := by cases av <;> first | exact ⟨_, _, rfl⟩ | (simp at hap)
          simp only [Bool.or_eq_true, decide_eq_true_eq] at hap
          simp only [act, ev_withH, hpv, Option.bind_some]
          simp only [loadA, storeA, Option.bind_eq_some_iff] at hz hst
          obtain ⟨ob, hob, hst⟩ := hst
          obtain ⟨hfz, hst⟩ := guardO_some hst
          simp only [Option.map_eq_some_iff] at hst
          obtain ⟨cs, hcs, rfl⟩ := hst
          obtain ⟨ob2, hob2, hld⟩ := hz
          simp only [loadA, withH]
          by_cases hq : q = q'
          · subst hq
            rw [hob] at hob2
            cases hob2
            have := ldcells_apart hcs hsz (by rcases hap with (h | h) | h; · exact absurd rfl h
                                              · exact .inl h
                                              · exact .inr h) hld
            simp [hupd, hupdO, this]
          · simp [hupd, hupdO, hq, hob2, hld]
        · -- a load ahead of a closure's making
          obtain ⟨od, oi, og⟩ := x
          obtain ⟨od', oi', og'⟩ := y
          dsimp only at *
          cases oi <;> simp [isLoadT] at ca
          rename_i sz e
          cases oi' <;> simp [isMk] at cb
          rename_i f caps sn
          simp only [act, Option.bind_eq_some_iff, Option.map_eq_some_iff, Prod.mk.injEq] at ax
          obtain ⟨pv, hpv, z, hz, rfl, rfl⟩ := ax
          rw [hself] at ay
          refine ⟨hy, ay, ?_⟩
          have hsame : ∀ k, (hy k).map (fun o => (o.n, o.cs)) = (st.hp k).map (fun o => (o.n, o.cs)) := by
            simp only [act, Option.bind_eq_some_iff] at ay
            obtain ⟨as, has, ay⟩ := ay
            split at ay
            · simp only [Option.map_eq_some_iff, Prod.mk.injEq] at ay
              obtain ⟨ds, hds, _, rfl⟩ := ay
              exact snapH_same as st.hp
            · split at ay <;> (simp only [Option.some.injEq, Prod.mk.injEq] at ay; obtain ⟨_, rfl⟩ := ay; exact fun _ => rfl)
          simp only [act, ev_withH, hpv, Option.bind_some]
          rw [show (withH st hy).hp = hy from rfl, loadA_same hsame, hz]
          rfl
        · -- an element's address ahead of a store
          obtain ⟨od, oi, og⟩ := x
          obtain ⟨od', oi', og'⟩ := y
          dsimp only at *
          cases oi <;> simp [isIxa] at ca
          rename_i es ex ei
          cases oi' <;> simp [I.class] at cb
          rename_i sy ea ev
          simp only [act, Option.bind_eq_some_iff, Option.map_eq_some_iff, Prod.mk.injEq] at ax
          obtain ⟨pv, hpv, jv, hjv, j, hj, z, hz, rfl, rfl⟩ := ax
          rw [hself] at ay
          refine ⟨hy, ay, ?_⟩
          simp only [act, Option.bind_eq_some_iff] at ay
          obtain ⟨av, hav, w, hw, ay⟩ := ay
          obtain ⟨_, ay⟩ := guardO_some ay
          simp only [Option.map_eq_some_iff, Prod.mk.injEq] at ay
          obtain ⟨hy2, hst, rfl, rfl⟩ := ay
          simp only [act, ev_withH, hpv, hjv, hj, Option.bind_some]
          rw [show (withH st hy2).hp = hy2 from rfl, ixaA_store hst, hz]
          rfl
        · -- an append ahead of what looks at data and boxes
          obtain ⟨od, oi, og⟩ := x
          obtain ⟨od', oi', og'⟩ := y
          dsimp only at *
          cases oi <;> simp [isApp] at ca
          rename_i es by_ ea eb fz
          have hrd : ∀ t, t ∈ oi'.reads → ∀ v, st.fr t = some v → (∃ x, v = .d x) ∨ ∃ q o, v = .ptr q o := by
            intro t ht v hv
            have := hls (.t t, 0, .t t, 0) (by
              simp only [storesOf, cb, beq_self_eq_true, if_true, List.mem_map]
              exact ⟨t, ht, rfl⟩)
            simp only [apartS, E.ev, hv] at this
            cases v with
            | d x => exact .inl ⟨x, rfl⟩
            | ptr q o => exact .inr ⟨q, o, rfl⟩
            | _ => simp at this
          simp only [act, Option.bind_eq_some_iff] at ax
          obtain ⟨av, hav, bv, hbv, p, hp, ax⟩ := ax
          obtain ⟨f1, f2, f3⟩ := appA_ext ca ax
          have hag : ∀ t, t ∈ oi'.reads → ∀ v, (withH st hx).fr t = some v → agreeA (withH st hx).hp st.hp v := by
            intro t ht v hv
            rcases hrd t ht v hv with ⟨x, rfl⟩ | ⟨q, o, rfl⟩
            · trivial
            · obtain ⟨ob, ho, he⟩ := hcl t _ hv
              exact (f1 q ob ho he).symm
          obtain ⟨oby, b1, b2, b3⟩ := act1 (st := withH st hx) (h' := st.hp) cb ay hag
          have b2' : oby ≠ none → hx (od'.getD 0 :: st.px) = none := b2
          have ay' := b3 fun hne => f2 _ (b2' hne)
          have ay'' : act cl (od'.getD 0 :: st.px) st oi' = some (v, extH st.hp (od'.getD 0 :: st.px) oby) := ay'
          refine ⟨_, ay'', ?_⟩
          have hsub2 : ∀ q, st.hp q ≠ none → extH st.hp (od'.getD 0 :: st.px) oby q = st.hp q := fun q hq => extH_of (fun hne => f2 _ (b2' hne)) hq
          have hcb : Closed st.hp bv := by
            cases eb with
            | t n => exact hcl n bv hbv
            | c x => simp only [E.ev, Option.some.injEq] at hbv; subst hbv; trivial
            | f n => simp only [E.ev, Option.some.injEq] at hbv; subst hbv; trivial
          have hagb := agree_of_closed hsub2 hcb
          simp only [act, ev_withH, hav, hbv, Option.bind_some, src_agree hagb, srcS_agree hagb, hp]
          rw [show (withH st (extH st.hp (od'.getD 0 :: st.px) oby)).hp = extH st.hp (od'.getD 0 :: st.px) oby from rfl, f3 _ _ b2', b1]
          rfl
        · -- a load ahead of an append
          obtain ⟨od, oi, og⟩ := x
          obtain ⟨od', oi', og'⟩ := y
          dsimp only at *
          cases oi <;> simp [isLoadT] at ca
          rename_i sz e
          cases e <;> simp [isLoadT] at ca
          rename_i tp
          cases oi' <;> simp [isApp] at cb
          rename_i es by_ ea eb fz
          have hap := hls (.t tp, 0, .t tp, 0) (by simp [storesOf])
          simp only [act, Option.bind_eq_some_iff, Option.map_eq_some_iff, Prod.mk.injEq] at ax
          obtain ⟨pv, hpv, z, hz, rfl, rfl⟩ := ax
          rw [hself] at ay
          refine ⟨hy, ay, ?_⟩
          simp only [act, Option.bind_eq_some_iff] at ay
          obtain ⟨av, hav, bv, hbv, p, hp, ay⟩ := ay
          obtain ⟨f1, f2, f3⟩ := appA_ext cb ay
          simp only [apartS, hpv] at hap
          simp only [act, ev_withH, hpv, Option.bind_some]
          have : loadA hy sz pv = loadA st.hp sz pv := by
            cases pv with
            | d x => cases x <;> rfl
            | ptr q o =>
              obtain ⟨ob, ho, he⟩ := hcl tp _ hpv
              simp only [loadA, f1 q ob ho he]
            | _ => simp at hap
          rw [show (withH st hy).hp = hy from rfl, this, hz]
          rfl
      obtain ⟨hy', g1, g2⟩ := core
      refine ⟨_, exO_true wy g1, ?_⟩
      have := exO_true (cl := cl) (st := { st with fr := putO st.fr y.dst v, hp := hy' }) (o := x) (x := u) (h1 := hy) (by rw [hxg st.fr]; exact wx) (by rw [act_put hxi]; exact g2)
      rw [this]
      simp only [hput]
    · rw [hyg] at wy
      refine ⟨_, exO_false wy, ?_⟩
      have := exO_true (cl := cl) (st := { st with fr := putO st.fr y.dst undefA }) (o := x) (x := u) (h1 := hx) (by rw [show ({ st with fr := putO st.fr y.dst undefA } : St) = { st with fr := putO st.fr y.dst undefA, hp := st.hp } from rfl, hxg st.fr]; exact wx)
        (by rw [show ({ st with fr := putO st.fr y.dst undefA } : St) = { st with fr := putO st.fr y.dst undefA, hp := st.hp } from rfl, act_put hxi]; exact ax)
      rw [this]
      simp only [hput]
  · rcases exO_some h2 with ⟨wy, v, hy, ay, rfl⟩ | ⟨wy, rfl⟩
    · rw [show ({ st with fr := putO st.fr x.dst undefA } : St) = { st with fr := putO st.fr x.dst undefA, hp := st.hp } from rfl, hyg] at wy
      rw [show ({ st with fr := putO st.fr x.dst undefA } : St) = { st with fr := putO st.fr x.dst undefA, hp := st.hp } from rfl, act_put hyi] at ay
      refine ⟨_, exO_true wy ay, ?_⟩
      have := exO_false (cl := cl) (st := { st with fr := putO st.fr y.dst v, hp := hy }) (o := x) (by rw [hxg st.fr]; exact wx)
      rw [this]
      simp only [hput]
    · rw [show ({ st with fr := putO st.fr x.dst undefA } : St) = { st with fr := putO st.fr x.dst undefA, hp := st.hp } from rfl, hyg] at wy
      refine ⟨_, exO_false wy, ?_⟩
      have := exO_false (cl := cl) (st := { st with fr := putO st.fr y.dst undefA }) (o := x) (by rw [show ({ st with fr := putO st.fr y.dst undefA } : St) = { st with fr := putO st.fr y.dst undefA, hp := st.hp } from rfl, hxg st.fr]; exact wx)
      rw [this]
      simp only [hput]

/-! ### A list of places -/
def exsI (cl : Cl) (os : List O) : List Nat → St → Option St
  | [], st => some st
  | i :: l, st => (os[i]?).bind fun o => (exO cl st o).bind (exsI cl os l)

theorem exs_range (os : List O) : ∀ (l : List O) (i : Nat) (st : St), os.drop i = l → exs cl l st = exsI cl os (List.range' i l.length) st
  | [], i, st, _ => rfl
  | o :: l, i, st, h => by
    have h0 : os[i]? = some o := by
      have : (os.drop i)[0]? = some o := by rw [h]; rfl
      simpa using this
    have h1 : os.drop (i + 1) = l := by
      have : (os.drop i).drop 1 = l := by rw [h]; rfl
      rwa [List.drop_drop] at this
    simp only [exs, List.length_cons, List.range'_succ, exsI, h0, Option.bind_some]
    congr 1
    funext s
    exact exs_range os l (i + 1) s h1

theorem exO_fr {st s : St} {o : O} (h : exO cl st o = some s) {t : Nat} (ht : o.dst ≠ some t) : s.fr t = st.fr t := by
  rcases exO_some h with ⟨_, x, h1, _, rfl⟩ | ⟨_, rfl⟩ <;> exact putO_fr ht
theorem exsI_fr {os : List O} {t : Nat} : ∀ {l : List Nat} {st s : St}, exsI cl os l st = some s → (∀ p, p ∈ l → ∀ o, os[p]? = some o → o.dst ≠ some t) → s.fr t = st.fr t
  | [], st, s, h, _ => by simp only [exsI, Option.some.injEq] at h; subst h; rfl
  | i :: l, st, s, h, hq => by
    simp only [exsI, Option.bind_eq_some_iff] at h
    obtain ⟨o, ho, s1, h1, h2⟩ := h
    rw [exsI_fr h2 (fun p hp => hq p (List.mem_cons_of_mem _ hp)), exO_fr h1 (hq i (List.mem_cons_self ..) o ho)]

/-- What the check has found about two places. -/
def Pair (os : List O) (fin : St) (rem : List Nat) (i j : Nat) : Prop :=
  ∀ x y, os[i]? = some x → os[j]? = some y → commO x y = true ∧ ∀ q, q ∈ storesOf x y → apartS fin q = true ∧ ∀ t, t ∈ q.1.tmps ++ q.2.2.1.tmps → ∀ p, p ∈ rem → i ≤ p → ∀ o, os[p]? = some o → o.dst ≠ some t

theorem apartS_congr {st st' : St} {q : E × Nat × E × Nat} (h : ∀ t, t ∈ q.1.tmps ++ q.2.2.1.tmps → st'.fr t = st.fr t) : apartS st' q = apartS st q := by
  obtain ⟨a, s, b, t⟩ := q
  simp only [List.mem_append] at h
  simp only [apartS, ev_congr fun t ht => h t (.inl ht), ev_congr fun t ht => h t (.inr ht)]

/-- One place comes to the front. -/
theorem bubble {os : List O} {fin : St} (Good : St → Prop) (hgc : ∀ st, Good st → ClF st) (hgs : ∀ st o s, Good st → o ∈ os → exO cl st o = some s → Good s) (j : Nat) (l2 rem : List Nat) :
    ∀ (l1 : List Nat) (st : St), Good st → (∀ p, p ∈ l1 ++ j :: l2 → p ∈ rem) → List.Pairwise (· < ·) (l1 ++ j :: l2) → (∀ i, i ∈ l1 → Pair os fin rem i j) → exsI cl os (l1 ++ j :: l2) st = some fin → exsI cl os (j :: (l1 ++ l2)) st = some fin
  | [], st, _, _, _, _, h => h
  | i :: l1, st, hg, hrem, hs, hp, h => by
    rw [List.cons_append, exsI] at h
    simp only [Option.bind_eq_some_iff] at h
    obtain ⟨x, hx, s1, h1, h2⟩ := h
    have hg1 := hgs st x s1 hg (List.mem_of_getElem? hx) h1
    rw [List.cons_append, List.pairwise_cons] at hs
    have h3 := bubble Good hgc hgs j l2 rem l1 s1 hg1 (fun p hp => hrem p (List.mem_cons_of_mem _ hp)) hs.2 (fun i hi => hp i (List.mem_cons_of_mem _ hi)) h2
    rw [exsI] at h3
    simp only [Option.bind_eq_some_iff] at h3
    obtain ⟨y, hy, s2, h4, h5⟩ := h3
    obtain ⟨hc, hq⟩ := hp i (List.mem_cons_self ..) x y hx hy
    have hls : LsOk st x y := by
      intro q hqm
      obtain ⟨ha, hw⟩ := hq q hqm
      rw [← ha]
      apply Eq.symm
      apply apartS_congr
      intro t ht
      have hfin : exsI cl os (i :: (l1 ++ j :: l2)) st = some fin := by rw [exsI, hx]; simp only [Option.bind_some, h1]; exact h2
      refine exsI_fr hfin fun p hpm o ho => hw t ht p (hrem p (by simpa using hpm)) ?_ o ho
      rcases List.mem_cons.1 hpm with e | hpm
      · omega
      · exact Nat.le_of_lt (hs.1 p hpm)
    obtain ⟨s1', g1, g2⟩ := swap (hgc st hg) hc hls h1 h4
    rw [exsI, hy]
    simp only [Option.bind_some, g1, List.cons_append, exsI, hx, g2]
    exact h5
end
end Go.AM

/- Part 14: regions. -/
namespace Go.AM
open Go Go.RowKit

theorem mapO_length {α β : Type} {f : α → Option β} : ∀ {l : List α} {q : List β}, mapO f l = some q → q.length = l.length
  | [], q, h => by simp only [mapO, Option.some.injEq] at h; subst h; rfl
  | x :: l, q, h => by
    simp only [mapO, Option.bind_eq_some_iff, Option.map_eq_some_iff] at h
    obtain ⟨y, hy, q', hq, rfl⟩ := h
    simp [mapO_length hq]
theorem mapO_get {α β : Type} {f : α → Option β} : ∀ {l : List α} {q : List β} (_ : mapO f l = some q) (i : Nat) (x : α), l[i]? = some x → ∃ y, q[i]? = some y ∧ f x = some y
  | [], q, h, i, x, hx => by simp at hx
  | u :: l, q, h, i, x, hx => by
    simp only [mapO, Option.bind_eq_some_iff, Option.map_eq_some_iff] at h
    obtain ⟨y, hy, q', hq, rfl⟩ := h
    cases i with
    | zero => simp at hx; subst hx; exact ⟨y, by simp, hy⟩
    | succ i => simpa using mapO_get hq i x (by simpa using hx)

section
variable {S0 : Nat → Prop} {N : Nat} {w0 : Wd} {m : Key → Nat} {st : St} {a : Act} {w : World} {P : Program}
variable {F : Fence} {n : Nat} {K : Act → World → Prop} {Q : Exit → Act → World → Prop} {cl : Cl}

/-- The text's operations and the small language's. -/
structure Ops (P : Program) (N : Nat) (ops : Array Oper) (os : List O) : Prop where
  len : os.length = ops.size
  at_ : ∀ (i : Nat) (o : Oper), ops[i]? = some o → ∃ o' : O, os[i]? = some o' ∧ compI P o.op = some o'.i.er ∧ o'.dst = o.dst ∧ compG ops o.guard = some o'.g
  lt : ∀ o' : O, o' ∈ os → ∀ d, o'.dst = some d → d < N

theorem ops_of {ops : Array Oper} {os : List O} (h : mapO (compOp P ops) ops.toList = some (os.map O.er)) (hlt : (os.map O.er).all (O.within N) = true) : Ops P N ops os := by
  refine ⟨by simpa using mapO_length h, fun i o ho => ?_, fun o' ho' d hd => ?_⟩
  · obtain ⟨y, hy, hc⟩ := mapO_get h i o (by simpa using ho)
    simp only [List.getElem?_map, Option.map_eq_some_iff] at hy
    obtain ⟨o', ho', rfl⟩ := hy
    simp only [compOp, Option.bind_eq_some_iff, Option.map_eq_some_iff] at hc
    obtain ⟨i', hi', g, hg, he⟩ := hc
    have e1 : o'.er = ⟨o.dst, i', g⟩ := he.symm
    refine ⟨o', ho', ?_, ?_, ?_⟩
    · rw [hi']; exact congrArg (fun q => some q.i) e1.symm
    · exact congrArg O.dst e1
    · rw [hg]; exact congrArg (fun q => some q.g) e1.symm
  · have := List.all_eq_true.1 hlt o'.er (List.mem_map.2 ⟨o', ho', rfl⟩)
    have e1 : o'.er.dst = o'.dst := rfl
    simp only [O.within, e1, hd] at this
    simpa using this

theorem guard_sound (hR : Rel S0 N w0 m st a w) {ops : Array Oper} {g0 : Option (Nat × Bool)} {g : Option (Nat × Bool)} (hg : compG ops g0 = some g) {o : Oper} (ho : o.guard = g0) {b : Bool} (hw : wantedO st g = some b) : Region.wanted o (yielded ops a.tmps) = b := by
  cases g0 with
  | none =>
    simp only [compG, Option.some.injEq] at hg
    subst hg
    simp only [wantedO, Option.some.injEq] at hw
    subst hw
    simp [Region.wanted, ho]
  | some p =>
    obtain ⟨j, want⟩ := p
    simp only [compG, Option.map_eq_some_iff] at hg
    obtain ⟨t, ht, rfl⟩ := hg
    simp only [wantedO, Option.map_eq_some_iff] at hw
    obtain ⟨y, hy, rfl⟩ := hw
    have hrep := hR.fr t y hy
    simp only [Region.wanted, ho, yielded, ht, Option.bind_some]
    by_cases hyb : ∃ b, y.bool? = some b
    · obtain ⟨b, hb⟩ := hyb
      obtain rfl := bool?_some hb
      have hv := rep_v hrep
      have hget : a.tmps[t]? = some (.bool b) := by
        rw [Array.getD_eq_getD_getElem?] at hv
        cases hq : a.tmps[t]? with
        | none => rw [hq] at hv; simp [undef_eq] at hv
        | some u => rw [hq] at hv; simp at hv; rw [hv]
      simp only [hget, A.bool?]
      rw [Bool.eq_iff_iff]
      simp
    · have hnb : y.bool? = none := by
        cases h : y.bool? with
        | none => rfl
        | some b => exact absurd ⟨b, h⟩ hyb
      have hnot : ∀ b, a.tmps[t]? ≠ some (.bool b) := by
        intro b hq
        have : a.tmps.getD t undef = .bool b := by rw [Array.getD_eq_getD_getElem?, hq]; rfl
        rw [this] at hrep
        cases hrep with
        | d y _ h => cases h; simp [A.bool?] at hnb
        | own q l _ hs h => obtain ⟨_, _, hh⟩ := hs; cases hh
        | ptr k o _ hs h => obtain ⟨_, hh⟩ := hs; cases hh
        | ep k n o _ hs h => obtain ⟨_, hh⟩ := hs; cases hh
      simp only [hnb]
      rw [Bool.eq_iff_iff]
      simp only [reduceCtorEq, decide_false, Bool.false_eq_true, iff_false, beq_iff_eq]

/-- One operation of a region. -/
theorem step_sound (hcl : ∀ f ds r, cl f ds = some r → CallOkW w0 P f ds r) (hF : FOk F) {ops : Array Oper} {os : List O} (hO : Ops P N ops os) (hR : Rel S0 N w0 m st a w) {i : Nat} {o' : O} {s : St} (ho : os[i]? = some o') (he : exO cl st o' = some s)
    (hK : ∀ m' a' w', Rel S0 N w0 m' s a' w' → K a' w') : wpOpIn F n P ops Q i K a w := by
  unfold wpOpIn
  have hi : i < ops.size := by rw [← hO.len]; exact (List.getElem?_eq_some_iff.1 ho).1
  obtain ⟨o, hoo⟩ : ∃ o, ops[i]? = some o := ⟨ops[i], by simp [hi]⟩
  obtain ⟨o2, h2, hc, hd, hg⟩ := hO.at_ i o hoo
  rw [ho] at h2
  cases h2
  have hlt : ∀ d, o.dst = some d → d < N := fun d h => hO.lt o' (List.mem_of_getElem? ho) d (by rw [hd]; exact h)
  simp only [hoo]
  rcases exO_some he with ⟨hw, x, h1, ha, rfl⟩ | ⟨hw, rfl⟩
  · rw [guard_sound hR hg rfl hw]
    simp only [if_true]
    refine op_sound hcl hF hR hc ha ?_
    intro m' v w' g1 g2 g3
    refine hK m' _ w' ?_
    have := g1.put (dst := o.dst) hlt g2 g3
    rw [← hd] at this
    rw [hd] at this
    rw [hd]
    exact this
  · rw [guard_sound hR hg rfl hw]
    simp only [Bool.false_eq_true, if_false]
    refine ⟨fun f _ => hF.fn f, hK m _ w ?_⟩
    rw [hd]
    exact hR.put hlt (.d _ _ (.v _)) trivial

/-- A wide fence lets nothing out. -/
theorem wp_some {o : Oper} (h : o.wpIn Fence.wide n P a w K (fun _ _ _ => False)) : ∃ a' w', K a' w' := by
  obtain ⟨_, h⟩ := h
  generalize (o.semAt Fence.wide.round a.eval).run P w = r at h
  cases r with
  | ok x w' =>
    cases x <;> simp only [Oper.uponIn] at h
    case value v => exact ⟨_, _, h⟩
    case skip => exact ⟨_, _, h⟩
    case defer d => exact ⟨_, _, h⟩
    case enter f args =>
      obtain ⟨_, _, h⟩ := h
      obtain ⟨e, w2, fr, hR, _⟩ := h [] (room_wide _)
      cases e with
      | returned v => exact ⟨_, _, hR⟩
      | panicked c => exact hR.elim
      | outgrown => obtain ⟨_, _, hh⟩ := hR; exact hh.elim
    case row row args =>
      obtain ⟨_, h⟩ := h
      obtain ⟨v, w2, hR, _⟩ := h default [] (room_wide _)
      exact ⟨_, _, hR⟩
    case round l f t as b =>
      obtain ⟨_, _, h⟩ := h
      obtain ⟨e, w2, hR, _⟩ := h default [] (room_wide _)
      cases e with
      | returned v => exact ⟨_, _, hR⟩
      | panicked c => exact hR.elim
      | outgrown => obtain ⟨_, _, hh⟩ := hR; exact hh.elim
  | halt x w' => cases x <;> simp only [Oper.uponIn] at h

theorem wpOp_some {ops : Array Oper} {i : Nat} (h : wpOpIn Fence.wide n P ops (fun _ _ _ => False) i K a w) : ∃ a' w', K a' w' := by
  unfold wpOpIn at h
  split at h
  · exact ⟨_, _, h⟩
  · split at h
    · exact wp_some h
    · exact ⟨_, _, h.2⟩

/-- In the order of the text. -/
theorem list_sound (hcl : ∀ f ds r, cl f ds = some r → CallOkW w0 P f ds r) (hF : FOk F) {ops : Array Oper} {os : List O} (hO : Ops P N ops os) {fin : St} : ∀ (l : List Nat) {m : Key → Nat} {st : St} {a : Act} {w : World},
    Rel S0 N w0 m st a w → exsI cl os l st = some fin → (∀ m' a' w', Rel S0 N w0 m' fin a' w' → Q .normal a' w') → wpOpsIn F n P ops Q l a w
  | [], m, st, a, w, hR, h, hK => by
    simp only [exsI, Option.some.injEq] at h
    subst h
    exact hK m a w hR
  | i :: l, m, st, a, w, hR, h, hK => by
    simp only [exsI, Option.bind_eq_some_iff] at h
    obtain ⟨o, ho, s, h1, h2⟩ := h
    rw [wpOpsIn_cons]
    exact step_sound hcl hF hO hR ho h1 fun m' a' w' hR' => list_sound hcl hF hO l hR' h2 hK

/-! ### What comes ahead of what -/
theorem testBit_fold (acc : List Nat) (p : Nat) : ∀ (l : List Nat) (s : Nat), (l.foldl (fun s i => s ||| 2 ^ i ||| acc.getD i 0) s).testBit p = true → s.testBit p = true ∨ ∃ d, d ∈ l ∧ (p = d ∨ (acc.getD d 0).testBit p = true)
  | [], s, h => .inl h
  | d :: l, s, h => by
    simp only [List.foldl_cons] at h
    rcases testBit_fold acc p l _ h with h | ⟨e, he, h⟩
    · simp only [Nat.testBit_or, Bool.or_eq_true] at h
      rcases h with (h | h) | h
      · exact .inl h
      · refine .inr ⟨d, by simp, .inl ?_⟩
        rw [Nat.testBit_two_pow] at h
        have h : d = p := by simpa using h
        exact h.symm
      · exact .inr ⟨d, by simp, .inr h⟩
    · exact .inr ⟨e, by simp [he], h⟩

theorem ancs_old : ∀ (l : List Oper) (acc : List Nat) (i : Nat), i < acc.length → (ancs l acc).getD i 0 = acc.getD i 0
  | [], acc, i, h => rfl
  | o :: l, acc, i, h => by
    rw [ancs, ancs_old l _ i (by simp; omega)]
    simp [List.getD, List.getElem?_append_left h]

theorem ancs_spec : ∀ (l : List Oper) (acc : List Nat) (j : Nat) (o : Oper) (p : Nat), l[j]? = some o → ((ancs l acc).getD (acc.length + j) 0).testBit p = true →
    ∃ d, d ∈ direct o ∧ (p = d ∨ (d < acc.length + j ∧ ((ancs l acc).getD d 0).testBit p = true))
  | [], acc, j, o, p, hj, h => by simp at hj
  | u :: l, acc, 0, o, p, hj, h => by
    simp at hj
    subst hj
    simp only [Nat.add_zero] at h ⊢
    rw [ancs, ancs_old _ _ _ (by simp)] at h
    have : (acc ++ [(direct u).foldl (fun s i => s ||| 2 ^ i ||| acc.getD i 0) 0]).getD acc.length 0 = (direct u).foldl (fun s i => s ||| 2 ^ i ||| acc.getD i 0) 0 := by simp [List.getD]
    rw [this] at h
    rcases testBit_fold acc p _ _ h with h | ⟨d, hd, h⟩
    · simp at h
    · refine ⟨d, hd, h.imp id fun h => ?_⟩
      have hlt : d < acc.length := by
        rcases Nat.lt_or_ge d acc.length with h' | h'
        · exact h'
        · rw [List.getD, List.getElem?_eq_none h'] at h; simp at h
      refine ⟨hlt, ?_⟩
      rw [ancs, ancs_old _ _ _ (by simp; omega)]
      simpa [List.getD, List.getElem?_append_left hlt] using h
  | u :: l, acc, j + 1, o, p, hj, h => by
    rw [ancs] at h ⊢
    have := ancs_spec l (acc ++ [(direct u).foldl (fun s i => s ||| 2 ^ i ||| acc.getD i 0) 0]) j o p (by simpa using hj) (by
      rw [show (acc ++ [(direct u).foldl (fun s i => s ||| 2 ^ i ||| acc.getD i 0) 0]).length + j = acc.length + (j + 1) by simp; omega]; exact h)
    rw [show (acc ++ [(direct u).foldl (fun s i => s ||| 2 ^ i ||| acc.getD i 0) 0]).length + j = acc.length + (j + 1) by simp; omega] at this
    exact this

theorem ahead_spec : ∀ (l : List Oper) (i : Nat), ahead i l = true → ∀ (j : Nat) (o : Oper), l[j]? = some o → ∀ d, d ∈ direct o → d < i + j
  | [], i, h, j, o, hj, d, hd => by simp at hj
  | u :: l, i, h, 0, o, hj, d, hd => by
    simp at hj
    subst hj
    simp only [ahead, Bool.and_eq_true, List.all_eq_true, decide_eq_true_eq] at h
    exact h.1 d hd
  | u :: l, i, h, j + 1, o, hj, d, hd => by
    simp only [ahead, Bool.and_eq_true] at h
    have := ahead_spec l (i + 1) h.2 j o (by simpa using hj) d hd
    omega

/-! ### What the check has found -/
theorem quiet_spec {mk : Nat} {ts : List Nat} : ∀ {l : List O} {p : Nat}, quiet mk ts p l = true → ∀ (j : Nat) (o : O), l[j]? = some o → mk.testBit (p + j) = false → ∀ t, t ∈ ts → o.dst ≠ some t
  | [], p, h, j, o, hj, _, t, ht => by simp at hj
  | z :: l, p, h, 0, o, hj, hm, t, ht => by
    simp at hj
    subst hj
    simp only [quiet, Bool.and_eq_true, Bool.or_eq_true] at h
    rw [Nat.add_zero] at hm
    rw [hm] at h
    intro hd
    rw [hd] at h
    simp at h
    exact h.1 ht
  | z :: l, p, h, j + 1, o, hj, hm, t, ht => by
    simp only [quiet, Bool.and_eq_true] at h
    exact quiet_spec h.2 j o (by simpa using hj) (by rw [show p + 1 + j = p + (j + 1) by omega]; exact hm) t ht

theorem pairOne_spec {an : List Nat} {i : Nat} {x : O} {all : List O} : ∀ {l : List O} {j : Nat} {ck : List (E × Nat × E × Nat)}, pairOne an i x all j l = some ck → ∀ (q : Nat) (y : O), l[q]? = some y → (an.getD (j + q) 0).testBit i = false →
    commO x y = true ∧ ∀ z, z ∈ storesOf x y → z ∈ ck ∧ quiet (an.getD (j + q) 0) (z.1.tmps ++ z.2.2.1.tmps) i all = true
  | [], j, ck, h, q, y, hq, _ => by simp at hq
  | u :: l, j, ck, h, 0, y, hq, hm => by
    simp at hq
    subst hq
    rw [Nat.add_zero] at hm ⊢
    simp only [pairOne, hm, Bool.false_eq_true, if_false] at h
    split at h
    · rename_i hc
      simp only [Bool.and_eq_true, List.all_eq_true] at hc
      simp only [Option.map_eq_some_iff] at h
      obtain ⟨ck', _, rfl⟩ := h
      exact ⟨hc.1, fun z hz => ⟨List.mem_append_left _ hz, hc.2 z hz⟩⟩
    · cases h
  | u :: l, j, ck, h, q + 1, y, hq, hm => by
    have hq' : l[q]? = some y := by simpa using hq
    rw [show j + (q + 1) = j + 1 + q by omega] at hm ⊢
    simp only [pairOne] at h
    split at h
    · exact pairOne_spec h q y hq' hm
    · split at h
      · simp only [Option.map_eq_some_iff] at h
        obtain ⟨ck', h', rfl⟩ := h
        obtain ⟨g1, g2⟩ := pairOne_spec h' q y hq' hm
        exact ⟨g1, fun z hz => ⟨List.mem_append_right _ (g2 z hz).1, (g2 z hz).2⟩⟩
      · cases h

theorem pairs_spec {an : List Nat} : ∀ {l : List O} {i : Nat} {ck : List (E × Nat × E × Nat)}, pairs an i l = some ck → ∀ (p q : Nat) (x y : O), p < q → l[p]? = some x → l[q]? = some y → (an.getD (i + q) 0).testBit (i + p) = false →
    commO x y = true ∧ ∀ z, z ∈ storesOf x y → z ∈ ck ∧ ∀ t, t ∈ z.1.tmps ++ z.2.2.1.tmps → ∀ (r : Nat) (o : O), p ≤ r → l[r]? = some o → (an.getD (i + q) 0).testBit (i + r) = false → o.dst ≠ some t
  | [], i, ck, h, p, q, x, y, hpq, hp, hq, hm => by simp at hp
  | u :: l, i, ck, h, 0, q, x, y, hpq, hp, hq, hm => by
    simp only [pairs, Option.bind_eq_some_iff, Option.map_eq_some_iff] at h
    obtain ⟨c1, h1, c2, h2, rfl⟩ := h
    simp at hp
    subst hp
    obtain ⟨q, rfl⟩ : ∃ q', q = q' + 1 := ⟨q - 1, by omega⟩
    rw [Nat.add_zero] at hm
    rw [show i + (q + 1) = i + 1 + q by omega] at hm ⊢
    obtain ⟨g1, g2⟩ := pairOne_spec h1 q y (by simpa using hq) hm
    refine ⟨g1, fun z hz => ⟨List.mem_append_left _ (g2 z hz).1, fun t ht r o hr ho hmr => ?_⟩⟩
    exact quiet_spec (g2 z hz).2 r o ho hmr t ht
  | u :: l, i, ck, h, p + 1, q, x, y, hpq, hp, hq, hm => by
    simp only [pairs, Option.bind_eq_some_iff, Option.map_eq_some_iff] at h
    obtain ⟨c1, h1, c2, h2, rfl⟩ := h
    obtain ⟨q, rfl⟩ : ∃ q', q = q' + 1 := ⟨q - 1, by omega⟩
    rw [show i + (q + 1) = i + 1 + q by omega, show i + (p + 1) = i + 1 + p by omega] at hm
    obtain ⟨g1, g2⟩ := pairs_spec h2 p q x y (by omega) (by simpa using hp) (by simpa using hq) hm
    refine ⟨g1, fun z hz => ⟨List.mem_append_right _ (g2 z hz).1, fun t ht r o hr ho hmr => ?_⟩⟩
    obtain ⟨r, rfl⟩ : ∃ r', r = r' + 1 := ⟨r - 1, by omega⟩
    exact (g2 z hz).2 t ht r o (by omega) (by simpa using ho) (by rw [show i + (q + 1) = i + 1 + q by omega, show i + (r + 1) = i + 1 + r by omega] at hmr; exact hmr)
end
end Go.AM

/- Part 15: regions whose order is drawn. -/
namespace Go.AM
open Go Go.RowKit

theorem er_class (i : I) : i.er.class = i.class := by cases i <;> first | rfl | (rename_i c x; cases c <;> rfl)
theorem er_reads (i : I) : i.er.reads = i.reads := by cases i <;> first | rfl | (rename_i c x; cases c <;> rfl)
theorem er_isLoadT (i : I) : isLoadT i.er = isLoadT i := by cases i <;> first | rfl | (rename_i c x; cases c <;> rfl)
theorem er_isMk (i : I) : isMk i.er = isMk i := by cases i <;> first | rfl | (rename_i c x; cases c <;> rfl)
theorem er_isIxa (i : I) : isIxa i.er = isIxa i := by cases i <;> first | rfl | (rename_i c x; cases c <;> rfl)
theorem er_isApp (i : I) : isApp i.er = isApp i := by cases i <;> first | rfl | (rename_i c x; cases c <;> rfl)
theorem er_commO (x y : O) : commO x.er y.er = commO x y := by
  simp only [commO, O.er, O.reads, er_class, er_reads, er_isLoadT, er_isMk, er_isIxa, er_isApp]
theorem er_storesOf (x y : O) : storesOf x.er y.er = storesOf x y := by
  obtain ⟨d, i, g⟩ := x
  obtain ⟨d', i', g'⟩ := y
  simp only [storesOf, O.er]
  cases i <;> first
    | (simp only [I.er, er_class, er_reads]; done)
    | (cases i' <;> first | rfl | (rename_i c x; cases c <;> rfl))
    | (rename_i c x; cases c <;> rfl)

section
variable {S0 : Nat → Prop} {N : Nat} {w0 : Wd} {m : Key → Nat} {st : St} {a : Act} {w : World} {P : Program}
variable {F : Fence} {n : Nat} {K : Act → World → Prop} {Q : Exit → Act → World → Prop} {cl : Cl}

def remOf (k : Nat) (listed : Array Bool) : List Nat := (List.range k).filter fun i => !listed.getD i true

theorem mem_rem {k : Nat} {listed : Array Bool} {i : Nat} : i ∈ remOf k listed ↔ i < k ∧ listed.getD i true = false := by
  simp [remOf]
theorem rem_sorted (k : Nat) (listed : Array Bool) : List.Pairwise (· < ·) (remOf k listed) := by
  unfold remOf
  exact List.Pairwise.sublist (List.filter_sublist ..) List.pairwise_lt_range

/-- Everything that must come ahead of a place that may come up has come. -/
theorem anc_listed {ops : Array Oper} {listed : Array Bool} (hsz : listed.size = ops.size) (hclosed : ∀ (i : Nat) (o : Oper), ops[i]? = some o → listed.getD i true = true → ∀ d, d ∈ direct o → listed.getD d false = true) :
    ∀ (k i : Nat), i < k → ∀ (o : Oper), ops[i]? = some o → (∀ d, d ∈ direct o → listed.getD d false = true) → ∀ p, ((ancs ops.toList []).getD i 0).testBit p = true → listed.getD p true = true
  | 0, i, hi, _, _, _, _, _ => by omega
  | k + 1, i, hi, o, ho, hd, p, hp => by
    have hp' : ((ancs ops.toList []).getD (([] : List Nat).length + i) 0).testBit p = true := by simpa using hp
    obtain ⟨d, hdm, h⟩ := ancs_spec ops.toList [] i o p (by simpa using ho) hp'
    have hl := hd d hdm
    have hlt : d < ops.size := by
      rw [← hsz]
      rcases Nat.lt_or_ge d listed.size with h' | h'
      · exact h'
      · rw [Array.getD_eq_getD_getElem?, Array.getElem?_eq_none h'] at hl; cases hl
    have hl' : listed.getD d true = true := by
      rw [Array.getD_eq_getD_getElem?] at hl ⊢
      have : d < listed.size := by omega
      simp only [Array.getElem?_eq_getElem this, Option.getD_some] at hl ⊢
      exact hl
    rcases h with rfl | ⟨h1, h2⟩
    · exact hl'
    · have h1' : d < i := by simpa using h1
      obtain ⟨od, hod⟩ : ∃ od, ops[d]? = some od := ⟨ops[d], by simp [hlt]⟩
      exact anc_listed hsz hclosed k d (by omega) od hod (hclosed d od hod hl') p h2

theorem any_sound (hcl : ∀ f ds r, cl f ds = some r → CallOkW w0 P f ds r) (hF : FOk F) {ops : Array Oper} {os : List O} (hO : Ops P N ops os) {ck : List (E × Nat × E × Nat)} (hah : ahead 0 ops.toList = true)
    (hpr : pairs (ancs ops.toList []) 0 (os.map O.er) = some ck) {fin : St} (hck : ck.all (apartS fin) = true) (hK : ∀ m' a' w', Rel S0 N w0 m' fin a' w' → Q .normal a' w') :
    ∀ (fuel : Nat) (listed : Array Bool) {m : Key → Nat} {st : St} {a : Act} {w : World}, Rel S0 N w0 m st a w → listed.size = ops.size → (remOf ops.size listed).length ≤ fuel →
      (∀ (i : Nat) (o : Oper), ops[i]? = some o → listed.getD i true = true → ∀ d, d ∈ direct o → listed.getD d false = true) →
      exsI cl os (remOf ops.size listed) st = some fin → wpAnyIn F n P .any ops Q fuel listed a w := by
  -- a place that may come up
  have hready : ∀ (listed : Array Bool) (i : Nat), i ∈ Region.ready .any ops listed ↔ i ∈ remOf ops.size listed ∧ ∃ o, ops[i]? = some o ∧ ∀ d, d ∈ direct o → listed.getD d false = true := by
    intro listed i
    simp only [Region.ready, List.mem_filter, List.mem_range, Bool.and_eq_true, Bool.not_eq_true', mem_rem]
    constructor
    · rintro ⟨h1, h2, h3⟩
      refine ⟨⟨h1, h2⟩, ops[i], by simp [h1], fun d hd => ?_⟩
      simp only [h1, Array.getElem?_eq_getElem, Option.map_some, Option.getD_some, Array.all_eq_true_iff_forall_mem, Bool.or_eq_true, Bool.not_eq_true'] at h3
      simp only [direct, List.mem_map, List.mem_filter] at hd
      obtain ⟨e, ⟨he, hb⟩, rfl⟩ := hd
      rcases h3 e (by simpa using he) with h | h
      · rw [hb] at h; cases h
      · exact h
    · rintro ⟨⟨h1, h2⟩, o, ho, h3⟩
      refine ⟨h1, h2, ?_⟩
      simp only [ho, Option.map_some, Option.getD_some, Array.all_eq_true_iff_forall_mem, Bool.or_eq_true, Bool.not_eq_true']
      intro e he
      cases hb : Region.binds .any e with
      | false => exact .inl rfl
      | true => exact .inr (h3 e.on (List.mem_map.2 ⟨e, List.mem_filter.2 ⟨by simpa using he, hb⟩, rfl⟩))
  have hnone : ∀ (listed : Array Bool), listed.size = ops.size → Region.ready .any ops listed = [] → remOf ops.size listed = [] := by
    intro listed hsz hr
    cases hrem : remOf ops.size listed with
    | nil => rfl
    | cons i r =>
      have hi : i ∈ remOf ops.size listed := by rw [hrem]; simp
      obtain ⟨h1, h2⟩ := mem_rem.1 hi
      have hsorted := rem_sorted ops.size listed
      rw [hrem, List.pairwise_cons] at hsorted
      have : i ∈ Region.ready .any ops listed := by
        refine (hready listed i).2 ⟨hi, ops[i], by simp [h1], fun d hd => ?_⟩
        have hlt := ahead_spec ops.toList 0 hah i ops[i] (by simp [h1]) d hd
        have hd2 : d < listed.size := by omega
        cases hl : listed.getD d false with
        | true => rfl
        | false =>
          have hm : d ∈ remOf ops.size listed := mem_rem.2 ⟨by omega, by
            rw [Array.getD_eq_getD_getElem?] at hl ⊢
            simp only [Array.getElem?_eq_getElem hd2, Option.getD_some] at hl ⊢
            exact hl⟩
          rw [hrem] at hm
          rcases List.mem_cons.1 hm with e | hm
          · omega
          · have := hsorted.1 d hm; omega
      rw [hr] at this
      cases this
  intro fuel
  induction fuel with
  | zero =>
    intro listed m st a w hR hsz hlen hclosed hex
    have h0 : remOf ops.size listed = [] := List.eq_nil_of_length_eq_zero (by omega)
    rw [h0] at hex
    simp only [exsI, Option.some.injEq] at hex
    subst hex
    refine ⟨?_, hK m a w hR⟩
    cases hr : Region.ready .any ops listed with
    | nil => rfl
    | cons i r =>
      have := ((hready listed i).1 (by rw [hr]; simp)).1
      rw [h0] at this
      cases this
  | succ fuel ih =>
    intro listed m st a w hR hsz hlen hclosed hex
    refine ⟨fun hr => ?_, fun i hi => ?_⟩
    · rw [hnone listed hsz hr] at hex
      simp only [exsI, Option.some.injEq] at hex
      subst hex
      exact hK m a w hR
    · obtain ⟨hirem, o, ho, hdir⟩ := (hready listed i).1 hi
      obtain ⟨hilt, hil⟩ := mem_rem.1 hirem
      obtain ⟨l1, l2, hsplit⟩ := List.append_of_mem hirem
      have hsorted := rem_sorted ops.size listed
      have hlt1 : ∀ p, p ∈ l1 → p < i := by
        intro p hp
        rw [hsplit, List.pairwise_append] at hsorted
        exact hsorted.2.2 p hp i (by simp)
      have hanc : ∀ p, p ∈ remOf ops.size listed → ((ancs ops.toList []).getD i 0).testBit p = false := by
        intro p hp
        cases hb : ((ancs ops.toList []).getD i 0).testBit p with
        | false => rfl
        | true =>
          have := anc_listed hsz hclosed (i + 1) i (by omega) o ho hdir p hb
          rw [(mem_rem.1 hp).2] at this
          cases this
      have hpair : ∀ p, p ∈ l1 → Pair os fin (remOf ops.size listed) p i := by
        intro p hp x y hx hy
        have hprem : p ∈ remOf ops.size listed := by rw [hsplit]; exact List.mem_append_left _ hp
        obtain ⟨g1, g2⟩ := pairs_spec hpr p i x.er y.er (hlt1 p hp) (by simp [hx]) (by simp [hy]) (by simpa using hanc p hprem)
        rw [er_commO] at g1
        refine ⟨g1, fun q hq => ?_⟩
        rw [er_storesOf] at g2
        obtain ⟨h1, h2⟩ := g2 q hq
        refine ⟨List.all_eq_true.1 hck q h1, fun t ht r hr hpr' o2 ho2 => ?_⟩
        have := h2 t ht r o2.er hpr' (by simp [ho2]) (by simpa using hanc r hr)
        exact this
      have hbub := bubble (cl := cl) (os := os) (fin := fin) (fun s => ∃ m a w, Rel S0 N w0 m s a w) (fun s ⟨m, a, w, h⟩ => h.clf) (fun s o' s' ⟨m, a, w, h⟩ hmem he => by
        obtain ⟨j, hj⟩ := List.mem_iff_getElem?.1 hmem
        have := step_sound (n := 0) (Q := fun _ _ _ => False) (K := fun a' w' => ∃ m', Rel S0 N w0 m' s' a' w') hcl wide_ok hO h hj he (fun m' a' w' h => ⟨m', h⟩)
        obtain ⟨a', w', m', h'⟩ := wpOp_some this
        exact ⟨m', a', w', h'⟩) i l2 (remOf ops.size listed) l1 st ⟨m, a, w, hR⟩ (fun p hp => by rw [hsplit]; exact hp) (by rw [← hsplit]; exact hsorted) hpair (by rw [← hsplit]; exact hex)
      rw [exsI] at hbub
      simp only [Option.bind_eq_some_iff] at hbub
      obtain ⟨o', ho', s, h1, h2⟩ := hbub
      refine step_sound hcl hF hO hR ho' h1 fun m' a' w' hR' => ?_
      have hrem' : remOf ops.size (listed.setIfInBounds i true) = l1 ++ l2 := by
        have e1 : remOf ops.size (listed.setIfInBounds i true) = (remOf ops.size listed).filter (fun p => p != i) := by
          simp only [remOf, List.filter_filter]
          apply List.filter_congr
          intro p hp
          have hp' : p < listed.size := by rw [hsz]; simpa using hp
          simp only [Array.getD_eq_getD_getElem?, Array.getElem?_setIfInBounds]
          by_cases e : i = p
          · subst e; simp [hp']
          · simp [e, Ne.symm e]
        rw [e1, hsplit, List.filter_append, List.filter_cons]
        simp only [bne_self_eq_false, Bool.false_eq_true, if_false]
        rw [hsplit, List.pairwise_append, List.pairwise_cons] at hsorted
        rw [List.filter_eq_self.2, List.filter_eq_self.2]
        · intro p hp
          have := hsorted.2.1.1 p hp
          simp; omega
        · intro p hp
          have := hlt1 p hp
          simp; omega
      refine ih (listed.setIfInBounds i true) hR' (by simpa using hsz) ?_ ?_ ?_
      · rw [hrem']
        rw [hsplit] at hlen
        simp at hlen ⊢
        omega
      · intro j oj hoj hl d hd
        have hjlt : j < listed.size := by rw [hsz]; exact (Array.getElem?_eq_some_iff.1 hoj).1
        have mono : listed.getD d false = true → (listed.setIfInBounds i true).getD d false = true := by
          intro h
          simp only [Array.getD_eq_getD_getElem?, Array.getElem?_setIfInBounds] at h ⊢
          by_cases e : i = d
          · subst e
            by_cases e2 : i < listed.size
            · simp [e2]
            · simp [Array.getElem?_eq_none (by omega : listed.size ≤ i)] at h
          · simpa [e] using h
        by_cases e : i = j
        · subst e
          rw [ho] at hoj
          cases hoj
          exact mono (hdir d hd)
        · refine mono (hclosed j oj hoj ?_ d hd)
          simpa [Array.getD_eq_getD_getElem?, Array.getElem?_setIfInBounds, e] using hl
      · rw [hrem']; exact h2

/-- A region. -/
theorem region_sound (hmix : P.follows .mixedOrders = true) (hcl : ∀ f ds r, cl f ds = some r → CallOkW w0 P f ds r) (hF : FOk F) {id : Nat} {ops : Array Oper} {draw : Bool} {os : List O} {ck : List (E × Nat × E × Nat)}
    (hc : compC1 P (.region id ops draw) = some (.reg (os.map O.er) ck)) (hlt : (os.map O.er).all (O.within N) = true) (hR : Rel S0 N w0 m st a w) {fin : St}
    (he : exs cl os st = some fin) (hck : ck.all (apartS fin) = true) (hK : ∀ m' a' w', Rel S0 N w0 m' fin a' w' → Q .normal a' w') : (Code.region id ops draw).wpIn F n P Q a w := by
  simp only [compC1, Option.bind_eq_some_iff] at hc
  obtain ⟨os', hos, hc⟩ := hc
  have hle : os.length = ops.size → exsI cl os (List.range ops.size) st = some fin := by
    intro h
    rw [exs_range os os 0 st rfl] at he
    rw [← h, List.range_eq_range']; exact he
  cases draw with
  | false =>
    simp only [Bool.false_eq_true, if_false, Option.some.injEq, C.reg.injEq] at hc
    obtain ⟨rfl, rfl⟩ := hc
    have hO := ops_of hos hlt
    exact wpIn_region (list_sound hcl hF hO _ hR (hle hO.len) hK)
  | true =>
    simp only [if_true] at hc
    split at hc
    · rename_i hah
      simp only [Option.map_eq_some_iff, C.reg.injEq] at hc
      obtain ⟨ck', hp, rfl, rfl⟩ := hc
      have hO := ops_of hos hlt
      have hR' : Rel S0 N w0 m st a { w with drawn := w.drawn + 1 } :=
        hR.world (hR.bel.more rfl rfl rfl (Nat.le_refl _) fun _ _ _ => rfl) (Nat.le_refl _) (fun _ _ _ => rfl)
      have hrem : remOf ops.size (Array.replicate ops.size false) = List.range ops.size := by
        unfold remOf
        rw [List.filter_eq_self.2]
        intro i hi
        have : i < ops.size := by simpa using hi
        simp [Array.getD_eq_getD_getElem?, this]
      refine wpIn_region_any hmix (any_sound hcl hF hO hah hp hck hK ops.size _ hR' (by simp) (by rw [hrem]; simp) ?_ (by rw [hrem]; exact hle hO.len))
      intro i o ho hl
      have : i < ops.size := (Array.getElem?_eq_some_iff.1 ho).1
      simp [Array.getD_eq_getD_getElem?, this] at hl
    · cases hc
end
end Go.AM

/- Part 16: code. -/
namespace Go.AM
open Go Go.RowKit

/-! ### Forgetting -/
theorem isIn_mem {k : Key} {ks : List Key} : k.isIn ks = true ↔ k ∈ ks := by
  simp [Key.isIn]
mutual
theorem refs_refP {ks : List Key} : ∀ {x : A}, refs ks x = true → refP (· ∈ ks) (fun k _ => k ∈ ks) x
  | .d _, _ => trivial
  | .own k n, h => by simp only [refs] at h; exact isIn_mem.1 h
  | .ptr k n, h => by simp only [refs] at h; exact isIn_mem.1 h
  | .ep k n o, h => by simp only [refs] at h; exact isIn_mem.1 h
  | .tup xs, h => refsL_refPL (xs := xs) (by simpa only [refs] using h)
  | .fn f xs, h => refsL_refPL (xs := xs) (by simpa only [refs] using h)
theorem refsL_refPL {ks : List Key} : ∀ {xs : List A}, refsL ks xs = true → refPL (· ∈ ks) (fun k _ => k ∈ ks) xs
  | [], _ => trivial
  | x :: r, h => by
    simp only [refsL, Bool.and_eq_true] at h
    exact ⟨refs_refP h.1, refsL_refPL h.2⟩
end
mutual
theorem refP_and {p p' : Key → Prop} {q q' : Key → Nat → Prop} : ∀ {x : A}, refP p q x → refP p' q' x → refP (fun k => p k ∧ p' k) (fun k n => q k n ∧ q' k n) x
  | .d _, _, _ => trivial
  | .own k n, h, h' => ⟨h, h'⟩
  | .ptr k _, h, h' => ⟨h, h'⟩
  | .ep k n _, h, h' => ⟨h, h'⟩
  | .tup xs, h, h' => refPL_and (xs := xs) h h'
  | .fn _ xs, h, h' => refPL_and (xs := xs) h h'
theorem refPL_and {p p' : Key → Prop} {q q' : Key → Nat → Prop} : ∀ {xs : List A}, refPL p q xs → refPL p' q' xs → refPL (fun k => p k ∧ p' k) (fun k n => q k n ∧ q' k n) xs
  | [], _, _ => trivial
  | _ :: _, h, h' => ⟨refP_and h.1 h'.1, refPL_and h.2 h'.2⟩
end
theorem keepF_at (fr : Fr) : ∀ (vs : List Nat) (i : Nat), (i ∈ vs → keepF fr vs i = fr i) ∧ (i ∉ vs → keepF fr vs i = none)
  | [], i => ⟨by simp, fun _ => rfl⟩
  | v :: vs, i => by
    obtain ⟨h1, h2⟩ := keepF_at fr vs i
    simp only [keepF, updO]
    by_cases e : i = v
    · subst e; simp
    · simp only [e, if_false, List.mem_cons, false_or]
      exact ⟨h1, h2⟩
theorem keepH_at (hp : Hp) : ∀ (ks : List Key) (k : Key), (k ∈ ks → keepH hp ks k = hp k) ∧ (k ∉ ks → keepH hp ks k = none)
  | [], k => ⟨by simp, fun _ => rfl⟩
  | q :: ks, k => by
    obtain ⟨h1, h2⟩ := keepH_at hp ks k
    simp only [keepH, hupdO]
    by_cases e : k = q
    · subst e; simp
    · simp only [e, if_false, List.mem_cons, false_or]
      exact ⟨h1, h2⟩
theorem keepRefs_at {fr : Fr} {ks : List Key} : ∀ {vs : List Nat}, keepRefs fr ks vs = true → ∀ i ∈ vs, ∀ x, fr i = some x → refs ks x = true
  | [], _, i, hi, _, _ => by cases hi
  | v :: vs, h, i, hi, x, hx => by
    simp only [keepRefs, Bool.and_eq_true] at h
    rcases List.mem_cons.1 hi with rfl | hi
    · have := h.1; rw [hx] at this; exact this
    · exact keepRefs_at h.2 i hi x hx
theorem keepRefsH_at {hp : Hp} {ks : List Key} : ∀ {l : List Key}, keepRefsH hp ks l = true → ∀ k ∈ l, ∀ o, hp k = some o → refsL ks o.cs = true
  | [], _, i, hi, _, _ => by cases hi
  | v :: vs, h, i, hi, o, ho => by
    simp only [keepRefsH, Bool.and_eq_true] at h
    rcases List.mem_cons.1 hi with rfl | hi
    · have := h.1; rw [ho] at this; exact this
    · exact keepRefsH_at h.2 i hi o ho

section
variable {S0 : Nat → Prop} {N : Nat} {w0 : Wd} {m : Key → Nat} {st : St} {a : Act} {w : World} {P : Program}

theorem Rel.keep (h : Rel S0 N w0 m st a w) {vs : List Nat} {ks : List Key} {s : St} (hmb : ∀ k b, w0.mb k = some b → k ∈ ks) (hk : keepSt st vs ks = some s) : Rel S0 N w0 m s a w := by
  unfold keepSt at hk
  obtain ⟨⟨h1, h2⟩, hk⟩ := guardO_some hk
  simp only [Option.some.injEq] at hk
  subst hk
  have hB : ∀ k, k ∈ ks ∧ IsBox st.hp k → IsBox (keepH st.hp ks) k := fun k ⟨hk, o, ho, he⟩ => ⟨o, by rw [(keepH_at st.hp ks k).1 hk]; exact ho, he⟩
  have hA : ∀ k n, k ∈ ks ∧ IsArr st.hp k n → IsArr (keepH st.hp ks) k n := fun k n ⟨hk, o, ho, he⟩ => ⟨o, by rw [(keepH_at st.hp ks k).1 hk]; exact ho, he⟩
  have hf : ∀ i x, keepF st.fr vs i = some x → i ∈ vs ∧ st.fr i = some x := by
    intro i x hx
    by_cases hi : i ∈ vs
    · rw [(keepF_at st.fr vs i).1 hi] at hx; exact ⟨hi, hx⟩
    · rw [(keepF_at st.fr vs i).2 hi] at hx; cases hx
  have hh : ∀ k o, keepH st.hp ks k = some o → k ∈ ks ∧ st.hp k = some o := by
    intro k o ho
    by_cases hi : k ∈ ks
    · rw [(keepH_at st.hp ks k).1 hi] at ho; exact ⟨hi, ho⟩
    · rw [(keepH_at st.hp ks k).2 hi] at ho; cases ho
  refine h.forget (fun i x hx => (hf i x hx).2) (fun k o ho => (hh k o ho).2) (fun k b hb => (keepH_at st.hp ks k).1 (hmb k b hb)) ?_ ?_
  · intro i x hx
    obtain ⟨hi, hx⟩ := hf i x hx
    exact refP_mono hB hA (refP_and (refs_refP (keepRefs_at h1 i hi x hx)) (h.clf i x hx))
  · intro k o x ho hx
    obtain ⟨hk, ho⟩ := hh k o ho
    have h3 := refPL_of_mem (refsL_refPL (keepRefsH_at h2 k hk o ho)) x hx
    exact refP_mono hB hA (refP_and h3 (h.clh k o x ho hx))

theorem Rel.reslot (h : Rel S0 N w0 m st a w) {v : Nat} {x : A} (hx : RepA m st.hp (Im S0 m st.hp w) w x (a.tmps.getD v undef)) (hc : Closed st.hp x) : Rel S0 N w0 m { st with fr := upd st.fr v x } a w := by
  refine ⟨fun i y hy => ?_, h.obj, h.inj, fun i y hy => ?_, h.clh, h.ge, h.lv, h.bel, h.df, h.ts, h.un, h.mb⟩
  · simp only [upd, updO] at hy
    split at hy
    · rename_i e; subst e; cases hy; exact hx
    · exact h.fr i y hy
  · simp only [upd, updO] at hy
    split at hy
    · cases hy; exact hc
    · exact h.clf i y hy

/-- A frozen array, read as data. -/
theorem frozen_rep (hR : Rel S0 N w0 m st a w) {q : Key} {n : Nat} {o : Obj} {v : Value} {cs : List D} (hk : st.hp q = some o) (hn : o.n = n) (hf : o.fz = true) (hcs : allD o.cs = some cs) (hy : RepA m st.hp (Im S0 m st.hp w) w (.own q n) v) :
    RepD (Im S0 m st.hp w) w (.row n cs) v := by
  cases hy with
  | own _ _ _ _ hq =>
    obtain ⟨cap, cells, T, fz, rfl, hc, hat, hsz⟩ := hq o hk hn
    obtain ⟨cells', T', fz', ho⟩ := hR.obj q o hk
    have hmap := allD_map hcs
    obtain ⟨us, g1, g2⟩ := cells_data ho 0 cs 0 (fun j d hj => by rw [hmap]; simp [hj])
    refine .row _ _ _ _ us hc ⟨hR.ge q o hk, hR.lt hk, ?_⟩ g1 (fun j u hj => by
      rw [cell_of_row ho.at_]
      simpa using g2 j u hj)
    rintro ⟨p, op, hp, hpf, hpm⟩
    have := hR.inj p q op o hp hk hpm
    subst this
    rw [hk] at hp
    cases hp
    rw [hf] at hpf
    cases hpf

theorem Rel.frz (h : Rel S0 N w0 m st a w) {v : Nat} {s : St} (hk : frzSt st v = some s) : Rel S0 N w0 m s a w := by
  unfold frzSt at hk
  simp only [Option.bind_eq_some_iff] at hk
  obtain ⟨x, hx, hk⟩ := hk
  split at hk
  · rename_i q n
    simp only [Option.bind_eq_some_iff] at hk
    obtain ⟨o, ho, hk⟩ := hk
    obtain ⟨hn, hk⟩ := guardO_some hk
    simp only [Option.map_eq_some_iff] at hk
    obtain ⟨cs, hcs, rfl⟩ := hk
    have h1 := h.freeze ho
    have hat : hupd st.hp q { o with fz := true } q = some { o with fz := true } := by simp [hupd, hupdO]
    exact h1.reslot (.d _ _ (frozen_rep h1 hat hn rfl hcs (h1.fr v _ hx))) trivial
  · cases hk; exact h
  · cases hk
end

/-! ### Scopes -/
def strip : Code → Code
  | .scope c => strip c
  | c => c
theorem compC_strip (P : Program) : ∀ c : Code, compC P (strip c) = compC P c
  | .scope c => by simp only [strip, compC]; exact compC_strip P c
  | .skip | .region .. | .seq .. | .cond .. | .block .. | .loop _ | .exit _ | .goto _ | .label _ | .ret | .refuse _ | .rangeFunc .. => rfl
theorem strip_ne : ∀ (c d : Code), strip c ≠ .scope d
  | .scope c, d => strip_ne c d
  | .skip, _ | .region .., _ | .seq .., _ | .cond .., _ | .block .., _ | .loop _, _ | .exit _, _ | .goto _, _ | .label _, _ | .ret, _ | .refuse _, _ | .rangeFunc .., _ => by simp [strip]

section
variable {P : Program} {F : Fence} {n : Nat} {Q : Exit → Act → World → Prop}

theorem stepR_scope {b : Frame} {a : Act} {k : List Item} {cs : List Frame} {w : World} {c : Code} : step P (lone (b.atR a (.code (.scope c) :: k)) cs w) = .next (lone (b.atR a (.code c :: .inScope c :: k)) cs w) :=
  step_lone_go (by simp [stepG, stepG.exec, Frame.atR])
theorem stepR_inScope {b : Frame} {a : Act} {k : List Item} {cs : List Frame} {w : World} {c : Code} : step P (lone (b.atR a (.inScope c :: k)) cs w) = .next (lone (b.atR a k) cs w) :=
  step_lone_go (by simp [stepG, stepG.exec, Frame.atR])

theorem wpIn_scope {c : Code} {a : Act} {w : World} (h : c.wpIn F n P (Exit.noGoto Q) a w) : (Code.scope c).wpIn F n P Q a w := by
  intro b k cs hro hb hr
  have h0 : (lone (b.atR a (.code (.scope c) :: k)) cs w).fenced P F := fenced_calm hb hr rfl
  obtain ⟨e, a₁, w₁, hq, harr⟩ := h b (.inScope c :: k) cs hro hb hr
  cases e with
  | normal => exact ⟨.normal, a₁, w₁, hq, .head h0 stepR_scope (StepsIn.trans harr (.one (fenced_calm hb hr rfl) stepR_inScope))⟩
  | exit id =>
    have hx : exitTo id (.inScope c :: k) = exitTo id k := by simp [exitTo]
    exact ⟨.exit id, a₁, w₁, hq, fun k' hk => .head h0 stepR_scope (harr.1 k' (by rw [hx]; exact hk)),
      fun hr' hk => let ⟨k₁, h1, h2⟩ := harr.2 hr' (by rw [hx]; exact hk); ⟨k₁, h1, .head h0 stepR_scope h2⟩⟩
  | goto l => exact hq.elim
  | ret => exact ⟨_, a₁, w₁, hq, .of_steps (.one h0 stepR_scope) harr⟩
  | panic ch => exact ⟨_, a₁, w₁, hq, .of_steps (.one h0 stepR_scope) harr⟩
  | outgrown => exact ⟨_, a₁, w₁, hq, .of_steps (.one h0 stepR_scope) harr⟩

theorem noGoto_imp {e : Exit} {a : Act} {w : World} (h : Exit.noGoto Q e a w) : Q e a w := by
  cases e <;> first | exact h | exact h.elim
theorem noGoto_twice {e : Exit} {a : Act} {w : World} (h : Exit.noGoto Q e a w) : Exit.noGoto (Exit.noGoto Q) e a w := by
  cases e <;> first | exact h | exact h.elim

theorem wpIn_strip : ∀ (c : Code) {Q : Exit → Act → World → Prop} {a : Act} {w : World}, (strip c).wpIn F n P (Exit.noGoto Q) a w → c.wpIn F n P Q a w
  | .scope c, Q, a, w, h => wpIn_scope (wpIn_strip c (wpIn_mono h fun _ _ _ => noGoto_twice))
  | .skip, _, _, _, h | .region .., _, _, _, h | .seq .., _, _, _, h | .cond .., _, _, _, h | .block .., _, _, _, h | .loop _, _, _, _, h | .exit _, _, _, _, h | .goto _, _, _, _, h | .label _, _, _, _, h | .ret, _, _, _, h | .refuse _, _, _, _, h | .rangeFunc .., _, _, _, h => wpIn_mono h fun _ _ _ => noGoto_imp

/-- A loop, by a number that falls. -/
theorem wpIn_loop_n {c : Code} (R : Nat → Act → World → Prop) {j : Nat} {a : Act} {w : World} (h₀ : R j a w)
    (round : ∀ j a w, R j a w → c.wpIn F n P (Exit.then (fun a' w' => ∃ j', j' < j ∧ R j' a' w') Q) a w) : (Code.loop c).wpIn F n P Q a w := by
  intro b k cs hro hb hr
  have key : ∀ j a w, R j a w →
      ∃ e a' w', Q e a' w' ∧ ArrivesIn (Machine.fenced P F) P (lone (b.atR a (.code c :: .inLoop c :: k)) cs w) b k cs e a' w' := by
    intro j
    induction j using Nat.strongRecOn with
    | _ j ih =>
      intro a w hI
      obtain ⟨e, a₁, w₁, hq, harr⟩ := round j a w hI b (.inLoop c :: k) cs hro hb hr
      cases e with
      | normal =>
        obtain ⟨j', hlt, hI₁⟩ := hq
        obtain ⟨e₂, a₂, w₂, hq₂, harr₂⟩ := ih j' hlt a₁ w₁ hI₁
        exact ⟨e₂, a₂, w₂, hq₂, .of_steps (StepsIn.trans harr (.one (fenced_calm hb hr rfl) stepR_inLoop)) harr₂⟩
      | exit id => exact ⟨_, a₁, w₁, hq, .pass (x := .inLoop c) rfl (fun _ _ => .inl (by simp)) harr⟩
      | goto l => exact ⟨_, a₁, w₁, hq, .pass (x := .inLoop c) rfl (fun _ _ => .inl (by simp)) harr⟩
      | ret => exact ⟨_, a₁, w₁, hq, .pass (x := .inLoop c) rfl (fun _ _ => .inl (by simp)) harr⟩
      | panic ch => exact ⟨_, a₁, w₁, hq, .pass (x := .inLoop c) rfl (fun _ _ => .inl (by simp)) harr⟩
      | outgrown => exact ⟨_, a₁, w₁, hq, .pass (x := .inLoop c) rfl (fun _ _ => .inl (by simp)) harr⟩
  obtain ⟨e, a', w', hq, harr⟩ := key _ a w h₀
  exact ⟨e, a', w', hq, .of_steps (.one (fenced_calm hb hr rfl) stepR_loop) harr⟩
end
end Go.AM

/- Loops over functions, part 1: moving a relation from world to world; the rounds' frame; what an iterator owes. -/
namespace Go.AM
open Go Go.RowKit

theorem cell_cells {w : World} {p : Addr} {v : Value} (h : w.cell? p = some v) : ∃ cs T fz, w.heap[p.block]? = some (Go.Obj.cells cs T fz) := by
  unfold World.cell? at h
  cases ho : w.heap[p.block]? with
  | none => simp [ho] at h
  | some o => cases o <;> first | exact ⟨_, _, _, rfl⟩ | simp [ho] at h

mutual
theorem RepD.mono2 {S S' : Nat → Prop} {w w' : World} (hS : ∀ b, S b → S' b) (hw : ∀ p v, S p.block → w.cell? p = some v → w'.cell? p = some v) : ∀ {x : D} {v : Value}, RepD S w x v → RepD S' w' x v
  | _, _, .v x => .v x
  | _, _, .zt => .zt
  | _, _, .zf a => .zf a
  | _, _, .row n cs ad cap vs h1 h2 h3 h4 => .row n cs ad cap vs h1 (hS _ h2) (RepL.mono2 hS hw h3) (fun j v hj => hw _ _ (by rw [Addr.add_block]; exact h2) (h4 j v hj))
  | _, _, .row0 a cap => .row0 a cap
  | _, _, .agg cs vs h => .agg cs vs (RepL.mono2 hS hw h)
  | _, _, .tup cs vs h => .tup cs vs (RepL.mono2 hS hw h)
  | _, _, .fn f cs vs h => .fn f cs vs (RepL.mono2 hS hw h)
  | _, _, .rp cs ad vs h2 h3 h4 => .rp cs ad vs (hS _ h2) (RepL.mono2 hS hw h3) (fun j v hj => hw _ _ (by rw [Addr.add_block]; exact h2) (h4 j v hj))
  | _, _, .rc f pre ad vs h2 h3 h4 => .rc f pre ad vs (hS _ h2) (RepL.mono2 hS hw h3) (hw _ _ h2 h4)
theorem RepL.mono2 {S S' : Nat → Prop} {w w' : World} (hS : ∀ b, S b → S' b) (hw : ∀ p v, S p.block → w.cell? p = some v → w'.cell? p = some v) : ∀ {xs : List D} {vs : List Value}, RepL S w xs vs → RepL S' w' xs vs
  | _, _, .nil => .nil
  | _, _, .cons x cs v vs h t => .cons x cs v vs (RepD.mono2 hS hw h) (RepL.mono2 hS hw t)
end

mutual
theorem RepA.mono2 {m : Key → Nat} {hp : Hp} {S S' : Nat → Prop} {w w' : World} (hS : ∀ b, S b → S' b) (hw : ∀ p v, S p.block → w.cell? p = some v → w'.cell? p = some v)
    (hk : ∀ k o cs T fz, hp k = some o → w.heap[m k]? = some (Go.Obj.cells cs T fz) → w'.heap[m k]? = some (Go.Obj.cells cs T fz)) : ∀ (x : A) (v : Value), RepA m hp S w x v → RepA m hp S' w' x v
  | .d x, v, h => by
      cases h with
      | d _ _ h => exact .d x v (h.mono2 hS hw)
  | .own k n, v, h => by
      cases h with
      | own _ _ _ hs h =>
        exact .own k n v hs fun o ho hn => let ⟨cap, cs, T, fz, h1, h2, h3, h4⟩ := h o ho hn; ⟨cap, cs, T, fz, h1, h2, hk k o cs T fz ho h3, h4⟩
  | .ptr k off, v, h => by
      cases h with
      | ptr _ _ _ hs h => exact .ptr k off v hs h
  | .ep k n off, v, h => by
      cases h with
      | ep _ _ _ _ hs h => exact .ep k n off v hs h
  | .tup xs, v, h => by
      cases h with
      | tup _ vs h => exact .tup xs vs (RepAL.mono2 hS hw hk xs vs h)
  | .fn f xs, v, h => by
      cases h with
      | fn _ _ vs h => exact .fn f xs vs (RepAL.mono2 hS hw hk xs vs h)
theorem RepAL.mono2 {m : Key → Nat} {hp : Hp} {S S' : Nat → Prop} {w w' : World} (hS : ∀ b, S b → S' b) (hw : ∀ p v, S p.block → w.cell? p = some v → w'.cell? p = some v)
    (hk : ∀ k o cs T fz, hp k = some o → w.heap[m k]? = some (Go.Obj.cells cs T fz) → w'.heap[m k]? = some (Go.Obj.cells cs T fz)) : ∀ (xs : List A) (vs : List Value), RepAL m hp S w xs vs → RepAL m hp S' w' xs vs
  | [], vs, h => by
      cases h with
      | nil => exact .nil
  | x :: xs, vs, h => by
      cases h with
      | cons _ _ v vs h t => exact .cons x xs v vs (RepA.mono2 hS hw hk x v h) (RepAL.mono2 hS hw hk xs vs t)
end

section
variable {S0 : Nat → Prop} {N : Nat} {w0 : Wd} {m : Key → Nat} {st : St} {a : Act} {w : World} {P : Program}

theorem im_cells {S S' : Nat → Prop} {m : Key → Nat} {hp : Hp} {w w' : World} (hc : ∀ b cs T fz, S b → w.heap[b]? = some (Go.Obj.cells cs T fz) → w'.heap[b]? = some (Go.Obj.cells cs T fz)) :
    ∀ p v, S p.block → w.cell? p = some v → w'.cell? p = some v := by
  intro p v hp hv
  obtain ⟨cs, T, fz, h⟩ := cell_cells hv
  rw [cell_same (w := w) (by rw [hc _ _ _ _ hp h, h])]
  exact hv

theorem Rel.move (h : Rel S0 N w0 m st a w) {S' : Nat → Prop} {w0' : Wd} {a' : Act} {w' : World} (htm : a'.tmps = a.tmps) (hsz : w.heap.size ≤ w'.heap.size)
    (hS : ∀ b, b < w.heap.size → S0 b → S' b)
    (hc : ∀ b cs T fz, S0 b → w.heap[b]? = some (Go.Obj.cells cs T fz) → w'.heap[b]? = some (Go.Obj.cells cs T fz))
    (un' : ∀ b, w'.heap.size ≤ b → S' b) (bel' : Foot w0'.lk w0'.w w') (lv' : ∀ k o, st.hp k = some o → o.fz = false → w0'.lk (m k) ∨ w0'.w.heap.size ≤ m k) (df' : Marks S' w0' a'.defers w')
    (mb' : ∀ k b, w0'.mb k = some b → (∃ o, st.hp k = some o ∧ o.es = 0) ∧ m k = b) : Rel S' N w0' m st a' w' := by
  have hIm : ∀ b, Im S0 m st.hp w b → Im S' m st.hp w' b := fun b hb => ⟨hS b hb.2.1 hb.1, Nat.lt_of_lt_of_le hb.2.1 hsz, hb.2.2⟩
  have hw : ∀ p v, Im S0 m st.hp w p.block → w.cell? p = some v → w'.cell? p = some v :=
    im_cells (S := Im S0 m st.hp w) (S' := S') (m := m) (hp := st.hp) fun b cs T fz hb hh => hc b cs T fz hb.1 hh
  have hk : ∀ k o cs T fz, st.hp k = some o → w.heap[m k]? = some (Go.Obj.cells cs T fz) → w'.heap[m k]? = some (Go.Obj.cells cs T fz) := fun k o cs T fz ho hh => hc _ cs T fz (h.ge k o ho) hh
  refine ⟨fun i x hx => by rw [htm]; exact (h.fr i x hx).mono2 hIm hw hk _ _, ?_, h.inj, h.clf, h.clh, fun k o ho => hS _ (h.lt ho) (h.ge k o ho), lv', bel', df', by rw [htm]; exact h.ts, un', mb'⟩
  intro k o ho
  obtain ⟨cs, T, fz, hr⟩ := h.obj k o ho
  refine ⟨cs, T, fz, hk k o _ _ _ ho hr.at_, hr.size, hr.free, fun i x hx => ?_⟩
  obtain ⟨v, hv, hx'⟩ := hr.rep i x hx
  exact ⟨v, hv, hx'.mono2 hIm hw hk _ _⟩

theorem Rel.reframe (h : Rel S0 N w0 m st a w) {fr : Fr} {px : Key} {a' : Act} (hts : a'.tmps.size = N) (hdf : Marks S0 w0 a'.defers w)
    (hf : ∀ i x, fr i = some x → RepA m st.hp (Im S0 m st.hp w) w x (a'.tmps.getD i undef) ∧ Closed st.hp x) : Rel S0 N w0 m ⟨fr, st.hp, px⟩ a' w :=
  ⟨fun i x hx => (hf i x hx).1, h.obj, h.inj, fun i x hx => (hf i x hx).2, h.clh, h.ge, h.lv, h.bel, hdf, hts, h.un, h.mb⟩

def tmpsL : List Nat → List Value → Array Value → Array Value
  | p :: ps, v :: vs, t => tmpsL ps vs (t.setIfInBounds p v)
  | _, _, t => t
theorem tmpsL_fold : ∀ (ps : List Nat) (vs : List Value) (t : Array Value), (ps.zip vs).foldl (fun t (p, v) => t.setIfInBounds p v) t = tmpsL ps vs t
  | [], vs, t => by simp [tmpsL]
  | p :: ps, [], t => by simp [tmpsL]
  | p :: ps, v :: vs, t => by simp only [List.zip_cons_cons, List.foldl_cons, tmpsL]; exact tmpsL_fold ps vs _
theorem tmpsL_size : ∀ (ps : List Nat) (vs : List Value) (t : Array Value), (tmpsL ps vs t).size = t.size
  | [], vs, t => by simp [tmpsL]
  | p :: ps, [], t => by simp [tmpsL]
  | p :: ps, v :: vs, t => by rw [tmpsL, tmpsL_size, Array.size_setIfInBounds]
theorem putL_rep {hp : Hp} {S : Nat → Prop} : ∀ (ps : List Nat) (xs : List D) (vs : List Value) (fr : Fr) (t : Array Value), (∀ p ∈ ps, p < t.size) → RepL S w xs vs → (∀ i x, fr i = some x → RepA m hp S w x (t.getD i undef) ∧ Closed hp x) →
    ∀ i x, putL fr ps xs i = some x → RepA m hp S w x ((tmpsL ps vs t).getD i undef) ∧ Closed hp x
  | [], xs, vs, fr, t, _, _, hf, i, x, hx => by simp only [putL] at hx; simpa [tmpsL] using hf i x hx
  | p :: ps, _, _, fr, t, hp', .nil, hf, i, x, hx => by simp only [putL] at hx; simpa [tmpsL] using hf i x hx
  | p :: ps, _, _, fr, t, hp', .cons y ys v vs h hr, hf, i, x, hx => by
    refine putL_rep ps ys vs (upd fr p (.d y)) (t.setIfInBounds p v) (fun q hq => by rw [Array.size_setIfInBounds]; exact hp' q (List.mem_cons_of_mem _ hq)) hr ?_ i x hx
    intro j z hz
    simp only [upd, updO] at hz
    rw [getD_set _ _ _ _ (hp' p (List.mem_cons_self ..))]
    split at hz
    · rename_i e
      rw [if_pos e]
      cases hz
      exact ⟨.d _ _ h, trivial⟩
    · rename_i e
      rw [if_neg e]
      exact hf j z hz

/-- Where the boxes of these keys are. -/
def mbOf (m : Key → Nat) (hp : Hp) (ks : List Key) (k : Key) : Option Nat :=
  if k.isIn ks then (match hp k with | some o => if o.es = 0 then some (m k) else none | none => none) else none
theorem mbOf_some {m : Key → Nat} {hp : Hp} {ks : List Key} {k : Key} {b : Nat} (h : mbOf m hp ks k = some b) : k ∈ ks ∧ (∃ o, hp k = some o ∧ o.es = 0) ∧ m k = b := by
  unfold mbOf at h
  split at h
  · rename_i hk
    split at h
    · rename_i o ho
      split at h
      · rename_i he
        cases h
        exact ⟨isIn_mem.1 hk, ⟨o, ho, he⟩, rfl⟩
      · cases h
    · cases h
  · cases h
theorem mbOf_box {m : Key → Nat} {hp : Hp} {ks : List Key} {k : Key} {o : Obj} (hk : k ∈ ks) (ho : hp k = some o) (he : o.es = 0) : mbOf m hp ks k = some (m k) := by
  unfold mbOf
  rw [if_pos (isIn_mem.2 hk), ho]
  simp [he]

def Plain : A → Prop
  | .d _ | .ptr _ _ => True
  | _ => False

/-- A frame that waits, while other code runs. -/
theorem susp {S : Nat → Prop} {m m' : Key → Nat} {st st' : St} {a a' : Act} {w w' : World} {wa wb : Wd} {ks : List Key} (h : Rel S N wa m st a w) (hsz : w.heap.size ≤ w'.heap.size)
    (hft : ∀ b cs T fz, b < w.heap.size → ¬ Live m st.hp b → w.heap[b]? = some (Go.Obj.cells cs T fz) → w'.heap[b]? = some (Go.Obj.cells cs T fz))
    (hlv : ∀ k o, st'.hp k = some o → o.fz = false → Live m st.hp (m' k) ∨ w.heap.size ≤ m' k)
    (hmb : ∀ k o, k ∈ ks → st.hp k = some o → o.es = 0 → wb.mb k = some (m k)) (h' : Rel S N wb m' st' a' w') {x : A} {v : Value} (hp : Plain x) (hks : refs ks x = true) (hx : RepA m st.hp (Im S m st.hp w) w x v) (hc : Closed st.hp x) :
    RepA m' st'.hp (Im S m' st'.hp w') w' x v ∧ Closed st'.hp x := by
  cases x with
  | d y =>
    refine ⟨.d _ _ ((rep_d hx).mono2 (fun b hb => ⟨hb.1, Nat.lt_of_lt_of_le hb.2.1 hsz, ?_⟩) (im_cells (S := Im S m st.hp w) (S' := S) (m := m) (hp := st.hp) fun b cs T fz hb hh => hft b cs T fz hb.2.1 hb.2.2 hh)), trivial⟩
    rintro ⟨k, o, ho, hf, rfl⟩
    rcases hlv k o ho hf with h1 | h1
    · exact hb.2.2 h1
    · have := hb.2.1; omega
  | ptr k off =>
    obtain ⟨o, ho, he⟩ := hc
    have hk : k ∈ ks := isIn_mem.1 (by simpa only [refs] using hks)
    obtain ⟨⟨o', ho', he'⟩, hm⟩ := h'.mb k (m k) (hmb k o hk ho he)
    refine ⟨?_, o', ho', he'⟩
    cases hx with
    | ptr _ _ _ hs hv => exact .ptr k off v hs fun _ _ => by rw [hm]; exact hv o ho
  | _ => exact hp.elim

theorem plainF_keep {fr : Fr} {vs : List Nat} (h : plainF (keepF fr vs) vs = true) : ∀ i x, keepF fr vs i = some x → Plain x := by
  intro i x hx
  by_cases hi : i ∈ vs
  · have := List.all_eq_true.1 h i hi
    rw [hx] at this
    cases x <;> first | trivial | cases this
  · rw [(keepF_at fr vs i).2 hi] at hx; cases hx
end

/-- What an iterator owes that yields these. -/
def ItOk (P : Program) (f : Nat) (ds : List D) (xs : List (List D)) : Prop :=
  (∃ fn, P.funcs[f]? = some fn ∧ fn.body.isSome = true ∧ fn.name ≠ "runtime.NumGoroutine") ∧ ∀ (n : Nat) (S L0 : Nat → Prop) (w : World) (vs : List Value), RepL S w ds vs → (∀ b, S b → b < w.heap.size ∧ ¬ L0 b) →
  (∀ b, L0 b → b < w.heap.size) → ∀ (l : Nat) (J Jx : Nat → (Nat → Prop) → (Nat → Prop) → World → Prop),
    (∀ i L V V' W W', J i L V W → Foot V W W' → (∀ b, V' b → b < W.heap.size → V b) → (∀ b, V' b → w.heap.size ≤ b ∧ b < W'.heap.size) → J i L V' W') →
    (∀ i L V V' W W', Jx i L V W → Foot V W W' → (∀ b, V' b → b < W.heap.size → V b) → (∀ b, V' b → w.heap.size ≤ b ∧ b < W'.heap.size) → Jx i L V' W') →
    (∀ i x L V W (args : List Value), xs[i]? = some x → J i L V W → RepL (fun b => (S b ∨ w.heap.size ≤ b) ∧ b < W.heap.size ∧ ¬ V b ∧ ¬ L b) W x args →
      YieldAt Fence.wide n P l args.toArray W fun e W' => ∃ L', Foot L W W' ∧ (∀ b, L' b → b < W.heap.size → L b) ∧ (∀ b, L' b → b < W'.heap.size) ∧
        ((e = .returned (.bool true) ∧ J (i + 1) L' V W') ∨ (e = .returned (.bool false) ∧ Jx (i + 1) L' V W'))) →
    J 0 L0 (fun _ => False) w →
    CallsIn Fence.wide (n + 1) P f (#[.func (.yield l) #[] #[]] ++ vs.toArray) w fun e W' => (∃ v, e = .returned v) ∧ ∃ i L V, (i = xs.length ∧ J i L V W') ∨ Jx i L V W'
end Go.AM

