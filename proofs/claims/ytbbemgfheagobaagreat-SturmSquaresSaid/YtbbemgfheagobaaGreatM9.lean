/- Part 9 of the proof: a small machine, its soundness against the model, and what the program's functions compute on it. -/
import Derived.Test.YtbbemgfheagobaaGreatM3
import Derived.Test.YtbbemgfheagobaaGreatM8
import Derived.Test.YtbbemgfheagobaaGreatM7
set_option linter.unusedVariables false
set_option linter.unusedSimpArgs false
/- Iterators whose closures call themselves: a region's operations one by one; calls that yield. -/
namespace Go.AM
open Go Go.RowKit

section
variable {P : Program}
theorem Qpf {n m l : Nat} {args : Array Value} {W : World} {R : Ending → World → Prop} (h : YieldAt Fence.wide n P l args W R) : YieldAt Fence.wide m P l args W R := by
 obtain ⟨fn, t, a, b, h1, h2⟩ := h
 exact ⟨fn, t, a, b, h1, h2.1, fun c cs _ => h2.2 c cs (room_wide _)⟩
theorem Qog {n l : Nat} {args : Array Value} {W : World} {R R' : Ending → World → Prop} (h : YieldAt Fence.wide n P l args W R) (hr : ∀ e w, R e w → R' e w) : YieldAt Fence.wide n P l args W R' := by
 obtain ⟨fn, t, a, b, h1, h2⟩ := h
 exact ⟨fn, t, a, b, h1, h2.mono hr⟩
theorem QkK {n m : Nat} {f : FuncId} {args : Array Value} {W : World} {R : Ending → World → Prop} (h : CallsIn Fence.wide n P f args W R) : CallsIn Fence.wide m P f args W R :=
 callsIn_wide.2 (callsIn_wide.1 h)
theorem Answers.any {n m : Nat} {S : Nat → Prop} {w0 : World} {l : Nat} {J Jx : Held} {xs : List (List D)} (h : Answers P n S w0 l J Jx xs) : Answers P m S w0 l J Jx xs :=
 fun i x L V W args hx hj hr => Qpf (h i x L V W args hx hj hr)
end

section
variable {S : Nat → Prop} {w0 : World} {N n : Nat} {J Jx : Held} {st s : St} {i : Nat} {a a' : Act} {W W' : World} {P : Program} {Γ : Env}
variable {ops : Array Oper} {os : List O} {R : Ex → Act → World → Prop} {k len : Nat}

def WO (P : Program) (n : Nat) (ops : Array Oper) (R : Ex → Act → World → Prop) (k len : Nat) (a : Act) (W : World) : Prop := wpOpsIn Fence.wide (n + 1) P ops (toQ R) (List.range' k len) a W
theorem Qnu (h : R .n a W) : WO P n ops R k 0 a W := h
theorem QjM     (hE : EnvOk P Γ) (hab : QfW   w0 J) (hO : Ops P N ops os) (h : Inv S w0 N J st i a W) {B : List O} (hB : ∀ j o, B[j]? = some o → os[k + j]? = some o) (hx : exs (Qah   Γ) B st = some s)
    (hK : ∀ a' W', Inv S w0 N J s i a' W' → WO P n ops R (k + B.length) len a' W') : WO P n ops R k (B.length + len) a W := by
  obtain ⟨m, L, h⟩ := h
  unfold WO
  have hap := @List.range'_append_1 k B.length len
  rw [← hap]
  refine QjD (wd := ⟨W, Live m st.hp, fun _ => none, fun _ => False⟩) (fun f ds r h => (Qik hE h).at (QhL QkA _ _)) wide_ok hO _ h.rel (by rw [← Qmn B k st hB]; exact hx) ?_
  intro m1 a1 W1 R1
  exact hK a1 W1 ⟨m1, L, h.next hab R1⟩
theorem QqV      {o : Oper} {c : Call} {ty f : Nat} {us : List Value} (hoo : ops[k]? = some o) (hop : o.op = .call c) (hce : c.callee = .value (.tmp ty)) (hwant : Region.wanted o (yielded ops a.tmps) = true) (hv : a.eval (.tmp ty) = .func (.func f) #[] us.toArray)
    (hf : ∃ fn, P.funcs[f]? = some fn ∧ fn.body.isSome = true ∧ fn.name ≠ "runtime.NumGoroutine")
    (hcall : CallsIn Fence.wide 0 P f (c.args.toList.map a.eval ++ us).toArray W fun e W' => ∃ v, e = .returned v ∧ WO P n ops R (k + 1) len (a.put o.dst v) W') : WO P n ops R k (len + 1) a W := by
  obtain ⟨fn, hfn, hb, hn⟩ := hf
  unfold WO
  rw [List.range'_succ, wpOpsIn_cons]
  unfold wpOpIn
  simp only [hoo, hwant, if_true]
  have hargs' : c.args.map a.eval = (c.args.toList.map a.eval).toArray := by apply Array.ext'; simp
  have hexec : (execOp a.eval o).run P W = .ok (.enter f (c.args.toList.map a.eval ++ us).toArray) W := by
    simp only [execOp, hop, resolve, hce, hv, Deferred.ofValue, Sem.run_bind, Sem.run_pure, Result.andThen_ok, invoke, hargs']
    rw [Qet hfn hb hn]
    congr 2
    simp
  refine ⟨fun f _ => trivial, ?_⟩
  rw [Oper.semAt_eq _ _ _ (fun c' h => by rw [hop] at h; cases h), hexec, Oper.uponIn_enter]
  refine ⟨fun h => (by cases h), ?_⟩
  refine (QkK hcall).mono ?_
  rintro e W2 ⟨v, rfl, h⟩
  exact h

def OwesY (P : Program) (S : Nat → Prop) (w0 : World) (J Jx : Held) (f i mm : Nat) (ds : List D) : Prop :=
 ∀ (L V : Nat → Prop) (W : World) (args : List Value), J i L V W → (∀ b, V b → w0.heap.size ≤ b ∧ b < W.heap.size) → (∀ b, L b → b < W.heap.size) → w0.heap.size ≤ W.heap.size →
  RepL (fun b => (S b ∨ w0.heap.size ≤ b) ∧ b < W.heap.size ∧ ¬ V b ∧ ¬ L b) W ds args →
  CallsIn Fence.wide 0 P f args.toArray W fun e W' => ∃ L', Foot L W W' ∧ (∀ b, L' b → b < W.heap.size → L b) ∧ (∀ b, L' b → b < W'.heap.size) ∧
   ((e = .returned (.bool true) ∧ J (i + mm) L' V W') ∨ (e = .returned (.bool false) ∧ ∃ i', Jx i' L' V W'))

theorem Inv1.after {m : Key → Nat} {L L' : Nat → Prop} {J' : Held} {j : Nat} (h : Inv1 S w0 N J st i a W m L) (f1 : Foot L W W') (f2 : ∀ b, L' b → b < W.heap.size → L b) (f3 : ∀ b, L' b → b < W'.heap.size) (hj : J' j L' (Live m st.hp) W') : Inv1 S w0 N J' st j a W' m L' := by
 have hsz : W.heap.size ≤ W'.heap.size := f1.size
 have R2 : Rel (fun b => (S b ∨ w0.heap.size ≤ b) ∧ ¬ L' b) N ⟨W', Live m st.hp, fun _ => none, fun _ => False⟩ m st a W' :=
  h.rel.move rfl hsz (fun b hb hs => ⟨hs.1, fun hl => hs.2 (f2 b hl hb)⟩) (fun b cs T fz hs hh => by rw [f1.block b (Qck hh) hs.2]; exact hh)
   (fun b hb => ⟨.inr (by have := h.sz; omega), fun hl => by have := f3 b hl; omega⟩) (Foot.refl _ _) (fun k o ho hz => .inl ⟨k, o, ho, hz, rfl⟩) ⟨[], (show Inv S w0 N J st i a W from ⟨m, L, h⟩).nodefer, List.nodup_nil, by simp⟩ (fun k b hb => by cases hb)
 exact ⟨R2, hj, f3, h.ge, Nat.le_trans h.sz hsz⟩

theorem QpF     (hO : Ops P N ops os) {d : Option Nat} {ty : Nat} {es : List E} {g : Option (Nat × Bool)} (ho : os[k]? = some ⟨d, .calv (.t ty) es, g⟩) :
    ∃ o c, ops[k]? = some o ∧ o.op = .call c ∧ c.callee = .value (.tmp ty) ∧ mapO Qaw c.args.toList = some es ∧ o.dst = d ∧ Qo6 ops o.guard = some g := by
  have hk : k < os.length := (List.getElem?_eq_some_iff.1 ho).1
  have hk2 : k < ops.size := by rw [← hO.len]; exact hk
  obtain ⟨o2, g2, gc, gd, gg⟩ := hO.at_ k ops[k] (by simp [hk2])
  rw [ho] at g2
  cases g2
  obtain ⟨c, u, k1, k2, k3, k4⟩ := QhN gc
  cases u with
  | tmp u => simp only [Qaw, Option.some.injEq, E.t.injEq] at k3; subst k3; exact ⟨ops[k], c, by simp [hk2], k1, k2, k4, gd.symm, gg⟩
  | _ => simp [Qaw] at k3

theorem Qjf {m : Key → Nat} {hp : Hp} {T : Nat → Prop} {w : World} : ∀ (xs : List D) (vs : List Value), RepAL m hp T w (xs.map A.d) vs → RepL T w xs vs
 | [], vs, hv => by cases hv; exact .nil
 | y :: ys, vs, hv => by
  cases hv with
  | cons _ _ v vs hy ht => exact .cons _ _ _ _ (Qf5 hy) (Qjf ys vs ht)

theorem wo_call (hE : EnvOk P Γ) (hab : QfW   w0 J) (habx : QfW   w0 Jx) (hO : Ops P N ops os) (h : Inv S w0 N J st i a W) {d ty f mm : Nat} {es : List E} {g : Option (Nat × Bool)} {x caps : List D}
    (ho : os[k]? = some ⟨some d, .calv (.t ty) es, g⟩) (hg : Qcv st g = some true) (h2 : st.fr ty = some (.d (.fn f caps))) (h3 : allE st es = some (x.map .d))
    (hf : ∃ fn, P.funcs[f]? = some fn ∧ fn.body.isSome = true ∧ fn.name ≠ "runtime.NumGoroutine") (hcon : OwesY P S w0 J Jx f i mm (x ++ caps))
    (hKt : ∀ a' W', Inv S w0 N J { st with fr := upd st.fr d (.d (.v (.bool true))) } (i + mm) a' W' → WO P n ops R (k + 1) len a' W')
    (hKf : ∀ i' a' W', Inv S w0 N Jx { st with fr := upd st.fr d (.d (.v (.bool false))) } i' a' W' → WO P n ops R (k + 1) len a' W') : WO P n ops R k (len + 1) a W := by
  obtain ⟨o, c, hoo, hop, hce, hargs, hd, hgg⟩ := QpF hO ho
  have hdN : d < N := hO.lt _ (List.mem_of_getElem? ho) d rfl
  obtain ⟨m, L, h⟩ := h
  have hv := h.rel.fr ty _ h2
  obtain ⟨us, hus, hrc⟩ : ∃ us : List Value, a.eval (.tmp ty) = .func (.func f) #[] us.toArray ∧ RepL (Im (fun b => (S b ∨ w0.heap.size ≤ b) ∧ ¬ L b) m st.hp W) W caps us := by
    have := Qf5 hv
    generalize hz : a.tmps.getD ty undef = z at this
    cases this with
    | fn _ _ vs hl => exact ⟨vs, hz, hl⟩
  obtain ⟨hrep, _⟩ := Qer h.rel hargs h3
  have hra := Qjf _ _ hrep
  refine QqV hoo hop hce (Qd2 h.rel hgg rfl hg) hus hf ?_
  refine (hcon L (Live m st.hp) W _ h.j (fun b hb => ⟨h.ge b hb, ?_⟩) h.lt h.sz ((hra.append hrc).mono (fun b hb => ⟨hb.1.1, hb.2.1, hb.2.2, hb.1.2⟩) (fun _ _ => rfl))).mono ?_
  · obtain ⟨k, o, ho, hf, rfl⟩ := hb
    exact h.rel.lt ho
  rintro e W2 ⟨L', f1, f2, f3, f4⟩
  have go : ∀ (t : Bool) (J' : Held) (j : Nat), J' j L' (Live m st.hp) W2 → (∀ a' W', Inv S w0 N J' { st with fr := upd st.fr d (.d (.v (.bool t))) } j a' W' → WO P n ops R (k + 1) len a' W') → WO P n ops R (k + 1) len (a.put o.dst (.bool t)) W2 := by
    intro t J' j hj hK
    have I2 := h.after f1 f2 f3 hj
    have R3 := I2.rel.put (dst := some d) (y := .d (.v (.bool t))) (v := .bool t) (fun d' hd' => by cases hd'; exact hdN) (.d _ _ (.v _)) trivial
    rw [hd]
    exact hK _ _ ⟨m, L', R3, hj, f3, I2.ge, I2.sz⟩
  rcases f4 with ⟨rfl, hj⟩ | ⟨rfl, i', hj⟩
  · exact ⟨_, rfl, go true J _ hj hKt⟩
  · exact ⟨_, rfl, go false Jx i' hj (hKf i')⟩

theorem Qoo {d : Option Nat} {ty k0 : Nat} {es : List E} {g : Option (Nat × Bool)} (hk : os[k0]? = some ⟨d, .calv (.t ty) es, g⟩) (h : ∀ ops, Ops P N ops os → WO P n ops R 0 os.length a W) : WY P N (n + 1) (.reg (os.map O.er) []) R a W := by
  refine Qm6 (by simp only [QeY, ne_eq, reduceCtorEq, not_false_eq_true]) fun hw code ho hns hc => ?_
  cases code <;> first | exact absurd rfl (hns _) | (obtain ⟨_, _, _, _, h'⟩ := QdQ hc; cases h') | skip
  case region id ops draw =>
    simp only [QaG, Option.bind_eq_some_iff] at hc
    obtain ⟨os', hos, hc⟩ := hc
    have hos' : os' = os.map O.er := by
      split at hc
      · split at hc
        · simp only [Option.map_eq_some_iff, C.reg.injEq] at hc
          obtain ⟨_, _, rfl, _⟩ := hc; rfl
        · cases hc
      · simp only [Option.some.injEq, C.reg.injEq] at hc; exact hc.1
    subst hos'
    have hO := QlZ (N := N) hos (by simpa only [C.within] using hw)
    obtain ⟨o, c, hoo, hop, hcal, _, _, _⟩ := QpF hO hk
    have hdraw : draw = false := by
      cases draw with
      | false => rfl
      | true =>
        simp only [okY, Bool.not_true, Bool.false_or, List.all_eq_true] at ho
        have := ho o (Array.mem_toList_iff.2 (Array.mem_of_getElem? hoo))
        rw [hop] at this
        simp only [hcal] at this
        cases this
    subst hdraw
    refine wpIn_region ?_
    have h1 := h ops hO
    rw [hO.len] at h1
    rw [List.range_eq_range']
    exact h1
  all_goals simp [QaG, Option.bind_eq_some_iff] at hc
end

/-! ### Seen from the callee -/
def Under (W : World) (L0 V0 : Nat → Prop) (J : Held) : Held := fun i L V W' => J i L (fun b => V b ∨ V0 b) W' ∧ Foot L0 W W' ∧ (∀ b, L b → b < W.heap.size → L0 b) ∧ (∀ b, L b → b < W'.heap.size) ∧ (∀ b, V b → W.heap.size ≤ b)
def SIn (S : Nat → Prop) (w0 W : World) (L0 V0 : Nat → Prop) (b : Nat) : Prop := (S b ∨ w0.heap.size ≤ b) ∧ b < W.heap.size ∧ ¬ V0 b ∧ ¬ L0 b
section
variable {S : Nat → Prop} {w0 W : World} {L0 V0 : Nat → Prop} {J Jx : Held} {P : Program} {n l : Nat} {xs : List (List D)}
theorem Under.abide (hab : QfW w0 J) (hV0 : ∀ b, V0 b → w0.heap.size ≤ b ∧ b < W.heap.size) (hsz : w0.heap.size ≤ W.heap.size) : QfW W (Under W L0 V0 J) := by
 rintro i L V V' W1 W2 ⟨h1, h2, h3, h4, h5⟩ hf hv1 hv2
 have z1 : W.heap.size ≤ W1.heap.size := h2.size
 have z2 : W1.heap.size ≤ W2.heap.size := hf.size
 refine ⟨hab i L _ _ W1 W2 h1 (hf.mono fun b _ hb => .inl hb) ?_ ?_, ?_, h3, fun b hb => Nat.lt_of_lt_of_le (h4 b hb) z2, fun b hb => (hv2 b hb).1⟩
 ·rintro b (hb | hb) hlt
  ·exact .inl (hv1 b hb hlt)
  ·exact .inr hb
 ·rintro b (hb | hb)
  ·exact ⟨by have := (hv2 b hb).1; omega, (hv2 b hb).2⟩
  ·have := hV0 b hb
   exact ⟨this.1, by omega⟩
 ·exact h2.trans hf (fun b hb => .inr (h5 b hb))
theorem Under.answers (hans : Answers P n S w0 l J Jx xs) (hV0 : ∀ b, V0 b → w0.heap.size ≤ b ∧ b < W.heap.size) (hsz : w0.heap.size ≤ W.heap.size) : Answers P n (SIn S w0 W L0 V0) W l (Under W L0 V0 J) (Under W L0 V0 Jx) xs := by
 rintro i x L V W1 args hx ⟨h1, h2, h3, h4, h5⟩ hr
 have z1 : W.heap.size ≤ W1.heap.size := h2.size
 refine Qog (hans i x L _ W1 args hx h1 (hr.mono (fun b hb => ?_) (fun _ _ => rfl))) ?_
 ·obtain ⟨hb1, hb2, hb3, hb4⟩ := hb
  rcases hb1 with hb1 | hb1
  ·exact ⟨hb1.1, hb2, fun h => h.elim hb3 hb1.2.2.1, hb4⟩
  ·exact ⟨.inr (by omega), hb2, fun h => h.elim hb3 (fun h => by have := (hV0 b h).2; omega), hb4⟩
 ·rintro e W2 ⟨L', f1, f2, f3, f4⟩
  have g : ∀ (J' : Held), J' (i + 1) L' (fun b => V b ∨ V0 b) W2 → Under W L0 V0 J' (i + 1) L' V W2 := fun J' hj =>
   ⟨hj, h2.trans f1 (fun b hb => if hlt : b < W.heap.size then .inl (h3 b hb hlt) else .inr (by omega)), fun b hb hlt => h3 b (f2 b hb (by omega)) hlt, f3, h5⟩
  refine ⟨L', f1, f2, f3, ?_⟩
  rcases f4 with ⟨rfl, hj⟩ | ⟨rfl, hj⟩
  ·exact .inl ⟨rfl, g J hj⟩
  ·exact .inr ⟨rfl, g Jx hj⟩
end
section
variable {P : Program} {Γ : Env}
theorem owes_ok (hE : EnvOk P Γ) {f : Nat} {cf : CF} {fn : Func} {ds : List D} {xs : List (List D)} {n l i mm : Nat} {S : Nat → Prop} {w0 : World} {J Jx : Held} (hf : P.funcs[f]? = some fn) (hc : QiU   P fn = some cf.er) (hok : ∀ b, fn.body = some b → okY b = true) (hnp : cf.np = ds.length)
    (hab : QfW w0 J) (habx : QfW w0 Jx) (hans : Answers P n S w0 l J Jx xs)
    (hwalk : ∀ (S : Nat → Prop) (w0 : World) (J Jx : Held) (a : Act) (W : World), QfW w0 J → QfW w0 Jx → Answers P n S w0 l J Jx xs → Inv S w0 fn.ntmps J ⟨argF 0 ds, hp0, []⟩ i a W →
      WY P fn.ntmps (n + 1) cf.body.er (fun e a' W' => (∀ id, e ≠ .x id) ∧ ((∃ st, resL st cf.res = some [.d (.v (.bool true))] ∧ Inv S w0 fn.ntmps J st (i + mm) a' W') ∨ ∃ st i', resL st cf.res = some [.d (.v (.bool false))] ∧ Inv S w0 fn.ntmps Jx st i' a' W')) a W) : OwesY P S w0 J Jx f i mm ds := by
  simp only [QiU, Option.bind_eq_some_iff] at hc
  obtain ⟨body, hb, c, hcc, hc⟩ := hc
  split at hc
  · rename_i hchk
    simp only [Bool.and_eq_true, decide_eq_true_eq, bne_iff_ne, ne_eq] at hchk
    obtain ⟨⟨hw, hsz⟩, hname⟩ := hchk
    simp only [Option.map_eq_some_iff] at hc
    obtain ⟨rs, hrs, hcf'⟩ := hc
    have e1 : cf.np = fn.params.size + fn.nfree := (congrArg CF.np hcf').symm
    have e2 : c = cf.body.er := congrArg CF.body hcf'
    have e3 : rs = cf.res := congrArg CF.res hcf'
    subst e2
    rw [e3] at hrs
    intro L V W vs hj hV0 hL0 hsz0 hrep
    have hvl : vs.length = ds.length := hrep.length.symm
    have hN : ((vs.toArray : Array Value) ++ Array.replicate (fn.ntmps - (vs.toArray : Array Value).size) undef).size = fn.ntmps := by simp; omega
    refine QkK (callsIn_of_wp (n := n + 1) (F := Fence.wide) hf hb trivial ?_)
    have hR : Inv (SIn S w0 W L V) W fn.ntmps (Under W L V J) ⟨argF 0 ds, hp0, []⟩ i { tmps := (vs.toArray : Array Value) ++ Array.replicate (fn.ntmps - (vs.toArray : Array Value).size) undef, defers := [] } W := by
      have hSm : ∀ b, ((S b ∨ w0.heap.size ≤ b) ∧ b < W.heap.size ∧ ¬ V b ∧ ¬ L b) → Im (fun b => (SIn S w0 W L V b ∨ W.heap.size ≤ b) ∧ ¬ L b) (fun _ => 0) hp0 W b := fun b hb => ⟨⟨.inl hb, hb.2.2.2⟩, hb.2.1, fun ⟨_, _, h, _⟩ => by simp [hp0] at h⟩
      have hV : (fun b => Live (fun _ => 0) hp0 b ∨ V b) = V := by
        funext b; exact propext ⟨fun h => h.elim (fun ⟨_, _, h, _⟩ => by simp [hp0] at h) id, .inr⟩
      refine ⟨fun _ => 0, L, ⟨⟨fun i x hx => ?_, fun _ _ h => by simp [hp0] at h, fun _ _ _ _ h => by simp [hp0] at h, fun i x hx => ?_, fun _ _ _ h => by simp [hp0] at h, fun _ _ h => by simp [hp0] at h, fun _ _ h => by simp [hp0] at h, Foot.refl _ _, Marks.nil _ _ _, hN, fun b hb => ⟨.inr hb, fun hl => by have := hL0 b hl; omega⟩, fun _ _ h => by cases h⟩, ?_, hL0, fun b ⟨_, _, h, _⟩ => by simp [hp0] at h, Nat.le_refl _⟩⟩
      · obtain ⟨_, d, hd, rfl⟩ := QgF ds 0 i x hx
        obtain ⟨v, hv, hdv⟩ := hrep.get i d (by simpa using hd)
        have : ((vs.toArray : Array Value) ++ Array.replicate (fn.ntmps - (vs.toArray : Array Value).size) undef).getD i undef = v := by
          have hil : i < vs.length := (List.getElem?_eq_some_iff.1 hv).1
          rw [Array.getD_eq_getD_getElem?, Array.getElem?_append_left (by simpa using hil)]
          simp [hv]
        rw [this]
        exact .d _ _ (hdv.mono hSm (fun _ _ => rfl))
      · obtain ⟨_, d, _, rfl⟩ := QgF ds 0 i x hx
        trivial
      · refine ⟨?_, Foot.refl _ _, fun b hb _ => hb, hL0, fun b ⟨_, _, h, _⟩ => by simp [hp0] at h⟩
        show J i L (fun b => Live (fun _ => 0) hp0 b ∨ V b) W
        rw [hV]; exact hj
    refine wpIn_mono (hwalk _ W _ _ _ W (Under.abide hab hV0 hsz0) (Under.abide habx hV0 hsz0) (Under.answers hans hV0 hsz0) hR hw body (hok body hb) hcc) ?_
    intro e a' W' hq
    have key : ∀ (t : Bool) (J' : Held) (j : Nat) (st : St), QfW w0 J' → resL st cf.res = some [.d (.v (.bool t))] → Inv (SIn S w0 W L V) W fn.ntmps (Under W L V J') st j a' W' → a'.defers = [] ∧ (results fn a'.tmps).run P W' = .ok (.bool t) W' ∧ ∃ L', Foot L W W' ∧ (∀ b, L' b → b < W.heap.size → L b) ∧ (∀ b, L' b → b < W'.heap.size) ∧ J' j L' V W' := by
      intro t J' j st hab' hr hI
      refine ⟨hI.nodefer, ?_, ?_⟩
      · obtain ⟨m, L', hI⟩ := hI
        obtain ⟨us, k1, k2, _⟩ := QhT hI.rel hrs hr
        cases k2 with
        | cons _ _ v vs' hv ht =>
          cases ht
          have := QeB hv
          subst this
          exact QgW k1
      · obtain ⟨m, L', hI⟩ := hI
        obtain ⟨h1, h2, h3, h4, h5⟩ := hI.j
        exact ⟨L', h2, h3, h4, hab' j L' _ _ W' W' h1 (Foot.refl _ _) (fun b hb _ => .inr hb) (fun b hb => ⟨(hV0 b hb).1, Nat.lt_of_lt_of_le (hV0 b hb).2 h2.size⟩)⟩
    have fin : ((∃ st, resL st cf.res = some [.d (.v (.bool true))] ∧ Inv (SIn S w0 W L V) W fn.ntmps (Under W L V J) st (i + mm) a' W') ∨ ∃ st i', resL st cf.res = some [.d (.v (.bool false))] ∧ Inv (SIn S w0 W L V) W fn.ntmps (Under W L V Jx) st i' a' W') →
        a'.defers = [] ∧ ∃ v, (results fn a'.tmps).run P W' = .ok v W' ∧ ∃ L', Foot L W W' ∧ (∀ b, L' b → b < W.heap.size → L b) ∧ (∀ b, L' b → b < W'.heap.size) ∧ ((Ending.returned v = .returned (.bool true) ∧ J (i + mm) L' V W') ∨ (Ending.returned v = .returned (.bool false) ∧ ∃ i', Jx i' L' V W')) := by
      rintro (⟨st, hr, hI⟩ | ⟨st, i', hr, hI⟩)
      · obtain ⟨h1, h2, L', h3, h4, h5, h6⟩ := key true J _ st hab hr hI
        exact ⟨h1, _, h2, L', h3, h4, h5, .inl ⟨rfl, h6⟩⟩
      · obtain ⟨h1, h2, L', h3, h4, h5, h6⟩ := key false Jx _ st habx hr hI
        exact ⟨h1, _, h2, L', h3, h4, h5, .inr ⟨rfl, i', h6⟩⟩
    cases e with
    | normal => exact fin hq.2
    | ret => exact fin hq.2
    | exit id => exact absurd rfl (hq.1 id)
    | _ => exact hq.elim
  · cases hc
end
end Go.AM

/- sturm.zeros' closure that calls itself. -/
namespace Go.AM
open Go Go.RowKit Go.Proofs
def C.fst7 : C → C
 | .seq a _ => a
 | .blk _ a => a
 | .loop a => a
 | c => c
def C.snd7 : C → C
 | .seq _ b => b
 | c => c
def wtZ (K : Nat) (ps : List (List Rat)) : Nat → Rat × Rat → Option (List (Rat × Rat))
  | 0, _ => none
  | n + 1, l => if sz l.1 ≤ K ∧ sz l.2 ≤ K then
      if cnt ps l.1 l.2 = 0 then some [] else if cnt ps l.1 l.2 = 1 then some [l]
      else (wtZ K ps n (l.1, mid l.1 l.2)).bind fun a => (wtZ K ps n (mid l.1 l.2, l.2)).map (a ++ ·)
    else none
def zr_A : C := sturm_zeros_1_1.body.fst7
def zr_B : C := sturm_zeros_1_1.body.snd7.fst7.fst7
def zr_blk : C := sturm_zeros_1_1.body.snd7.fst7.snd7.fst7.fst7
def zr_C : C := zr_blk.fst7
def Qkz : C := zr_blk.snd7
def zr_D : C := match Qkz with | .cond _ a _ => a.fst7 | c => c
def zr_E : C := match Qkz with | .cond _ _ b => b.fst7 | c => c
def zr_M : C := sturm_zeros_1_1.body.snd7.snd7.fst7
def zr_Y1 : List O := [⟨some 17, .load none (.t 2), none⟩, ⟨some 18, .load (some 8) (.t 4), none⟩]
def zr_Y2 : List O := [⟨some 5, .mov (.t 19), none⟩]
def zr_V1 : List O := [⟨some 22, .load none (.t 3), none⟩, ⟨some 23, .fad 0 (.t 4), none⟩, ⟨some 24, .load (some 4) (.t 23), none⟩, ⟨some 25, .load (some 4) (.t 6), none⟩,
 ⟨some 26, .build [.v (.bool false), .z true, .v (.bool false), .z true, .v (.bool false), .z true, .v (.bool false), .z true] [(0, 4, (.t 24)), (4, 4, (.t 25))], none⟩]
def QpC : List O := [⟨some 28, .mov (.t 27), none⟩, ⟨some 29, .load none (.t 3), some (28, true)⟩, ⟨some 30, .load (some 4) (.t 6), some (28, true)⟩, ⟨some 31, .fad 4 (.t 4), some (28, true)⟩, ⟨some 32, .load (some 4) (.t 31), some (28, true)⟩,
 ⟨some 33, .build [.v (.bool false), .z true, .v (.bool false), .z true, .v (.bool false), .z true, .v (.bool false), .z true] [(0, 4, (.t 30)), (4, 4, (.t 32))], some (28, true)⟩]
def Qob : List O := [⟨some 35, .pick (.t 28) (.t 34) (.c (.v (.bool false))), none⟩, ⟨some 5, .mov (.t 35), none⟩]
def zr_V : List O := zr_V1 ++ ⟨some 27, .calv (.t 22) [.t 26], none⟩ :: (QpC ++ ⟨some 34, .calv (.t 29) [.t 33], some (28, true)⟩ :: Qob)
theorem zr_shape : sturm_zeros_1_1.body.er = .seq zr_A.er (.seq (.seq zr_B.er (.blk 0 (.seq zr_C.er (.cond (.t 13) (.seq zr_D.er .ret) (.seq zr_E.er (.cond (.t 15) (.seq (.reg ((zr_Y1 ++ ⟨some 19, .calv (.t 17) [.t 18], none⟩ :: zr_Y2).map O.er) []) .ret) .skip)))))) (.seq zr_M.er (.seq (.reg (zr_V.map O.er) []) .ret))) := rfl
def vpre (dc : D) (y : Nat) : List D := [.rp [dc], .rp [yv y]]
def bxZ (l : Rat × Rat) : Obj := ⟨0, 0, (c2R l).map .d, false⟩
def Qpn (dc : D) (y : Nat) (l : Rat × Rat) : List D := [enc2 l, .rp [dc], .rp [yv y], .rc Qao (vpre dc y)]
section
variable [Its] {dc : D} {y : Nat} {l : Rat × Rat} {ps : List (List Rat)}
def zr_s1 (dc : D) (y : Nat) (l : Rat × Rat) : St := mkS [(1, .d (.rp [dc])), (2, .d (.rp [yv y])), (3, .d (.rc Qao (vpre dc y))), (4, .ptr [4] 0)] [([4], bxZ l)]
def zr_s2 (dc : D) (y : Nat) (l : Rat × Rat) (n : Int) : St := mkS [(2, .d (.rp [yv y])), (3, .d (.rc Qao (vpre dc y))), (4, .ptr [4] 0), (12, ai n)] [([4], bxZ l)]
def QrM (dc : D) (y : Nat) (l : Rat × Rat) (n : Int) (b : Bool) : St := mkS [(2, .d (.rp [yv y])), (3, .d (.rc Qao (vpre dc y))), (4, .ptr [4] 0), (12, ai n), (13, ab b)] [([4], bxZ l)]
def QmT (dc : D) (y : Nat) (l : Rat × Rat) (b : Bool) : St := mkS [(2, .d (.rp [yv y])), (3, .d (.rc Qao (vpre dc y))), (4, .ptr [4] 0), (15, ab b)] [([4], bxZ l)]
def QlF (dc : D) (y : Nat) (l : Rat × Rat) (m : Rat) : St := mkS [(3, .d (.rc Qao (vpre dc y))), (4, .ptr [4] 0), (6, .ptr [6] 0)] [([4], bxZ l), ([6], boxR m)]
theorem zr_a : X G zr_A ⟨argF 0 (Qpn dc y l), hp0, []⟩ = some (.n, zr_s1 dc y l) := by
 obtain ⟨lo, hi⟩ := l
 simp -implicitDefEqProofs (maxSteps:=9^8) only [zr_A, sturm_zeros_1_1, C.fst7, Qpn, zr_s1, bxZ, enc2, c2R, argF, yv, go_sem, iv, bv, reduceCtorEq, ↓reduceIte, Nat.reduceEqDiff]
theorem zr_b [ItsB] (hr : RwC dc ps) (hn : ps.length ≤ 1000) {K : Nat} (hs : ∀ p ∈ ps, SzL K p ∧ p.length * (2 * K + 1) ≤ 40000000000) (h1 : sz l.1 ≤ K) (h2 : sz l.2 ≤ K) (hK : K ≤ 1000000000) : X G zr_B (zr_s1 dc y l) = some (.n, zr_s2 dc y l (cnt ps l.1 l.2)) := by
 have g := QfY hr hn hs h1 h2 hK
 generalize cnt ps l.1 l.2 = c at *
 obtain ⟨lo, hi⟩ := l
 simp only [encR, iv] at g
 simp -implicitDefEqProofs (maxSteps:=9^8) only [zr_B, sturm_zeros_1_1, C.fst7, C.snd7, zr_s1, zr_s2, bxZ, c2R, yv, g, Qj8, QrC, QrF, List.map_cons, List.map_nil, go_sem, iv, bv, reduceCtorEq, ↓reduceIte, Nat.reduceEqDiff]
theorem zr_c {n : Int} : X G zr_C (zr_s2 dc y l n) = some (.n, QrM dc y l n (n == 0)) := by
 obtain ⟨lo, hi⟩ := l
 simp -implicitDefEqProofs (maxSteps:=9^8) only [zr_C, zr_blk, sturm_zeros_1_1, C.fst7, C.snd7, zr_s2, QrM, bxZ, c2R, yv, List.map_cons, List.map_nil, go_sem, iv, bv, reduceCtorEq, ↓reduceIte, Nat.reduceEqDiff]
theorem zr_d {n : Int} : X G zr_D (QrM dc y l n true) = some (.n, mkS [(5, ab true)] []) := by
 obtain ⟨lo, hi⟩ := l
 simp -implicitDefEqProofs (maxSteps:=9^8) only [zr_D, Qkz, zr_blk, sturm_zeros_1_1, C.fst7, C.snd7, QrM, bxZ, c2R, yv, Qac, List.map_cons, List.map_nil, go_sem, iv, bv, reduceCtorEq, ↓reduceIte, Nat.reduceEqDiff]
theorem zr_e {n : Int} : X G zr_E (QrM dc y l n false) = some (.n, QmT dc y l (n == 1)) := by
 obtain ⟨lo, hi⟩ := l
 simp -implicitDefEqProofs (maxSteps:=9^8) only [zr_E, Qkz, zr_blk, sturm_zeros_1_1, C.fst7, C.snd7, QrM, QmT, bxZ, c2R, yv, Qac, List.map_cons, List.map_nil, go_sem, iv, bv, reduceCtorEq, ↓reduceIte, Nat.reduceEqDiff]
theorem zr_m (h1 : sz l.1 ≤ 1000000000) (h2 : sz l.2 ≤ 1000000000) : X G (.seq (.keep [3, 4] [[4]]) zr_M) (QmT dc y l false) = some (.n, QlF dc y l (mid l.1 l.2)) := by
 have g := QkG h1 h2
 generalize mid l.1 l.2 = m at *
 obtain ⟨lo, hi⟩ := l
 simp only [encR, enc2, c2R, iv] at g
 simp -implicitDefEqProofs (maxSteps:=9^8) only [zr_M, sturm_zeros_1_1, C.fst7, C.snd7, QmT, QlF, bxZ, boxR, c2R, yv, g, st4q, ld8q, Qac, List.map_cons, List.map_nil, go_sem, iv, bv, reduceCtorEq, ↓reduceIte, Nat.reduceEqDiff]
def zr_fn (dc : D) (y : Nat) : D := .fn Qao (vpre dc y ++ [.rc Qao (vpre dc y)])
def Qpp (dc : D) (y : Nat) (l : Rat × Rat) (m : Rat) : St := ⟨upd (upd (upd (upd (upd (QlF dc y l m).fr 22 (.d (zr_fn dc y))) 23 (.ptr [4] 0)) 24 (.d (encR l.1))) 25 (.d (encR m))) 26 (.d (enc2 (l.1, m))), (QlF dc y l m).hp, []⟩
def Qrx (dc : D) (y : Nat) (l : Rat × Rat) (m : Rat) (t : Bool) : St := { Qpp dc y l m with fr := upd (Qpp dc y l m).fr 27 (.d (.v (.bool t))) }
def zr_s7 (dc : D) (y : Nat) (l : Rat × Rat) (m : Rat) : St := ⟨upd (upd (upd (upd (upd (upd (Qrx dc y l m true).fr 28 (.d (.v (.bool true)))) 29 (.d (zr_fn dc y))) 30 (.d (encR m))) 31 (.ptr [4] 4)) 32 (.d (encR l.2))) 33 (.d (enc2 (m, l.2))), (QlF dc y l m).hp, []⟩
def zr_t7 (dc : D) (y : Nat) (l : Rat × Rat) (m : Rat) (t : Bool) : St := { zr_s7 dc y l m with fr := upd (zr_s7 dc y l m).fr 34 (.d (.v (.bool t))) }
def Qn7 (dc : D) (y : Nat) (l : Rat × Rat) : St := ⟨upd (upd (QmT dc y l true).fr 17 (.d (yv y))) 18 (.d (enc2 l)), (QmT dc y l true).hp, []⟩
theorem zr_py : exs (Qah G) zr_Y1 (QmT dc y l true) = some (Qn7 dc y l) := by
 obtain ⟨lo, hi⟩ := l
 simp -implicitDefEqProofs (maxSteps:=9^8) only [zr_Y1, Qn7, QmT, bxZ, enc2, c2R, yv, Qj8, ld8q, List.map_cons, List.map_nil, go_sem, iv, bv, reduceCtorEq, ↓reduceIte, Nat.reduceEqDiff]
theorem zr_qy (t : Bool) : exs (Qah G) zr_Y2 { Qn7 dc y l with fr := upd (Qn7 dc y l).fr 19 (.d (.v (.bool t))) } = some ⟨upd (upd (Qn7 dc y l).fr 19 (.d (.v (.bool t)))) 5 (.d (.v (.bool t))), (Qn7 dc y l).hp, []⟩ := by
 obtain ⟨lo, hi⟩ := l
 simp -implicitDefEqProofs (maxSteps:=9^8) only [zr_Y2, Qn7, QmT, bxZ, enc2, c2R, yv, List.map_cons, List.map_nil, go_sem, iv, bv, reduceCtorEq, ↓reduceIte, Nat.reduceEqDiff]
theorem zr_v1 {m : Rat} : exs (Qah G) zr_V1 (QlF dc y l m) = some (Qpp dc y l m) := by
 obtain ⟨lo, hi⟩ := l
 simp -implicitDefEqProofs (maxSteps:=9^8) only [zr_V1, QlF, Qpp, zr_fn, bxZ, boxR, enc2, encR, c2R, yv, Qng, ld4q, QrC, QrF, Qf9, Qc7, List.map_cons, List.map_nil, go_sem, iv, bv, reduceCtorEq, ↓reduceIte, Nat.reduceEqDiff]
theorem zr_v2 {m : Rat} : exs (Qah G) QpC (Qrx dc y l m true) = some (zr_s7 dc y l m) := by
 obtain ⟨lo, hi⟩ := l
 simp -implicitDefEqProofs (maxSteps:=9^8) only [QpC, Qrx, QlF, Qpp, zr_s7, zr_fn, bxZ, boxR, enc2, encR, c2R, yv, Qng, ld4q, QrC, QrF, Qf9, Qc7, List.map_cons, List.map_nil, go_sem, iv, bv, reduceCtorEq, ↓reduceIte, Nat.reduceEqDiff]
theorem zr_v3 {m : Rat} (t : Bool) : ∃ s, exs (Qah G) Qob (zr_t7 dc y l m t) = some s ∧ resL s sturm_zeros_1_1.res = some [.d (.v (.bool t))] := by
 obtain ⟨lo, hi⟩ := l
 refine ⟨_, by
  simp -implicitDefEqProofs (maxSteps:=9^8) only [Qob, zr_t7, Qrx, QlF, Qpp, zr_s7, bxZ, boxR, c2R, List.map_cons, List.map_nil, go_sem, iv, bv, reduceCtorEq, ↓reduceIte, Nat.reduceEqDiff]
  rfl, rfl⟩
theorem zr_vf {m : Rat} : ∃ s, exs (Qah G) (QpC ++ ⟨some 34, .calv (.t 29) [.t 33], some (28, true)⟩ :: Qob) (Qrx dc y l m false) = some s ∧ resL s sturm_zeros_1_1.res = some [.d (.v (.bool false))] := by
 obtain ⟨lo, hi⟩ := l
 refine ⟨_, by
  simp -implicitDefEqProofs (maxSteps:=9^8) only [QpC, Qob, Qrx, QlF, Qpp, bxZ, boxR, c2R, List.cons_append, List.nil_append, List.map_cons, List.map_nil, go_sem, iv, bv, reduceCtorEq, ↓reduceIte, Nat.reduceEqDiff]
  rfl, rfl⟩
end
end Go.AM

/- sturm.zeros' closure that calls itself: what a call owes. -/
namespace Go.AM
open Go Go.RowKit Go.Proofs
theorem vis_okY : ∀ b, Tryz.f111.body = some b → okY b = true := by
 intro b hb
 have : (Tryz.f111.body.map okY) = some true := by kernel_rfl
 rw [hb] at this
 simpa using this
theorem vis_fn : ∃ fn, Tryz.prog.funcs[Qao]? = some fn ∧ fn.body.isSome = true ∧ fn.name ≠ "runtime.NumGoroutine" := ⟨_, Tryz.func111, by kernel_rfl, by
 have : (Tryz.f111.name == "runtime.NumGoroutine") = false := by kernel_rfl
 exact fun h => by rw [h] at this; simp at this⟩
theorem zr_len : zr_V.length = zr_V1.length + 10 := rfl
theorem vis_ok {dc : D} {ps : List (List Rat)} {xs : List (List D)} {y n : Nat} {K : Nat} (hr : RwC dc ps) (hn : ps.length ≤ 1000) (hs : ∀ p ∈ ps, SzL K p ∧ p.length * (2 * K + 1) ≤ 40000000000) (hK : K ≤ 1000000000) : ∀ (k : Nat) (l : Rat × Rat) (r : List (Rat × Rat)) (i : Nat) (S : Nat → Prop) (w0 : World) (J Jx : Held),
    wtZ K ps k l = some r → (∀ j q, r[j]? = some q → xs[i + j]? = some [enc2 q]) → QfW w0 J → QfW w0 Jx → Answers Tryz.prog n S w0 y J Jx xs → OwesY Tryz.prog S w0 J Jx Qao i r.length (Qpn dc y l)
  | 0, l, r, i, S, w0, J, Jx, hw, _, _, _, _ => by cases hw
  | k + 1, l, r, i, S, w0, J, Jx, hw, hx, hab, habx, hans => by
    rw [wtZ] at hw
    split at hw
    · rename_i hz
      refine owes_ok envP Tryz.func111 Qgo vis_okY rfl hab habx hans ?_
      intro S w0 J Jx a W hab habx hans hI
      have hE : EnvOk Tryz.prog G := envP
      rw [zr_shape]
      refine WY.seq ?_
      refine Inv.code hE hab hI rfl rfl zr_a ?_
      intro a1 W1 I1
      simp only [↓reduceIte]
      refine WY.seq (WY.seq ?_)
      refine Inv.code hE hab I1 rfl rfl (zr_b hr hn hs hz.1 hz.2 hK) ?_
      intro a2 W2 I2
      simp only [↓reduceIte]
      refine WY.blk (WY.seq ?_)
      refine Inv.code hE hab I2 rfl rfl zr_c ?_
      intro a3 W3 I3
      simp only [↓reduceIte]
      refine WY.cond (t := cnt ps l.1 l.2 == 0) (I3.bool rfl) (fun ht => ?_) (fun ht => ?_)
      · rw [ht] at I3
        have h0 : cnt ps l.1 l.2 = 0 := by simpa using ht
        rw [if_pos h0] at hw
        cases hw
        refine WY.seq (Inv.code hE hab I3 rfl rfl zr_d ?_)
        intro a4 W4 I4
        simp only [↓reduceIte]
        refine WY.ret ?_
        simp only [reduceCtorEq, ↓reduceIte]
        exact ⟨fun _ h => (by cases h), .inl ⟨_, rfl, I4⟩⟩
      · rw [ht] at I3
        have h0 : cnt ps l.1 l.2 ≠ 0 := by simpa using ht
        rw [if_neg h0] at hw
        refine WY.seq (Inv.code hE hab I3 rfl rfl zr_e ?_)
        intro a4 W4 I4
        simp only [↓reduceIte]
        refine WY.cond (t := cnt ps l.1 l.2 == 1) (I4.bool rfl) (fun ht1 => ?_) (fun ht1 => ?_)
        · rw [ht1] at I4
          have h1 : cnt ps l.1 l.2 = 1 := by simpa using ht1
          rw [if_pos h1] at hw
          cases hw
          refine WY.seq ?_
          refine Inv.yield hE hab habx hans I4 (pre := zr_Y1) (post := zr_Y2) (d := 19) (ty := 17) (es := [.t 18]) (s1 := Qn7 dc y l) (x := [enc2 l]) zr_py rfl rfl (by have := hx 0 l rfl; simpa using this) (zr_qy true) (zr_qy false) ?_ ?_
          · intro a5 W5 I5
            simp only [↓reduceIte]
            refine WY.ret ?_
            simp only [reduceCtorEq, ↓reduceIte]
            exact ⟨fun _ h => (by cases h), .inl ⟨_, rfl, I5⟩⟩
          · intro a5 W5 I5
            simp only [↓reduceIte]
            refine WY.ret ?_
            simp only [reduceCtorEq, ↓reduceIte]
            exact ⟨fun _ h => (by cases h), .inr ⟨_, _, rfl, I5⟩⟩
        · rw [ht1] at I4
          have h1 : cnt ps l.1 l.2 ≠ 1 := by simpa using ht1
          rw [if_neg h1] at hw
          simp only [Option.bind_eq_some_iff, Option.map_eq_some_iff] at hw
          obtain ⟨r1, hw1, r2, hw2, rfl⟩ := hw
          refine WY.skip ?_
          simp only [reduceCtorEq, ↓reduceIte]
          refine WY.seq (Inv.code hE hab I4 (c := .seq (.keep [3, 4] [[4]]) zr_M) rfl rfl (zr_m (by omega) (by omega)) ?_)
          intro a5 W5 I5
          simp only [↓reduceIte]
          have hfin : ∀ {t : Bool} {J' : Held} {s : St} {j : Nat} {a' : Act} {W' : World}, resL s sturm_zeros_1_1.res = some [.d (.v (.bool t))] → Inv S w0 Tryz.f111.ntmps J' s j a' W' →
              ((t = true ∧ J' = J ∧ j = i + (r1 ++ r2).length) ∨ (t = false ∧ J' = Jx)) → WY Tryz.prog Tryz.f111.ntmps (n + 1) .ret (fun e a' W' => (∀ id, e ≠ .x id) ∧ ((∃ st, resL st sturm_zeros_1_1.res = some [.d (.v (.bool true))] ∧ Inv S w0 Tryz.f111.ntmps J st (i + (r1 ++ r2).length) a' W') ∨ ∃ st i', resL st sturm_zeros_1_1.res = some [.d (.v (.bool false))] ∧ Inv S w0 Tryz.f111.ntmps Jx st i' a' W')) a' W' := by
            intro t J' s j a' W' hres hI' hc
            refine WY.ret ⟨fun _ h => (by cases h), ?_⟩
            rcases hc with ⟨rfl, rfl, rfl⟩ | ⟨rfl, rfl⟩
            · exact .inl ⟨_, hres, hI'⟩
            · exact .inr ⟨_, _, hres, hI'⟩
          refine WY.seq (Qoo (os := zr_V) (k0 := 5) rfl fun ops hO => ?_)
          rw [zr_len]
          have hx1 : ∀ j q, r1[j]? = some q → xs[i + j]? = some [enc2 q] := fun j q hq => hx j q (by rw [List.getElem?_append_left (List.getElem?_eq_some_iff.1 hq).1]; exact hq)
          have hx2 : ∀ j q, r2[j]? = some q → xs[i + r1.length + j]? = some [enc2 q] := fun j q hq => by
            have := hx (r1.length + j) q (by rw [List.getElem?_append_right (by omega)]; simpa using hq)
            rwa [← Nat.add_assoc] at this
          refine QjM hE hab hO I5 (B := zr_V1) (fun j o hj => by
            rw [Nat.zero_add, zr_V, List.getElem?_append_left (List.getElem?_eq_some_iff.1 hj).1]; exact hj) zr_v1 ?_
          intro a6 W6 I6
          refine wo_call hE hab habx hO I6 (k := 5) (len := 9) (d := 27) (ty := 22) (es := [.t 26]) (g := none) (x := [enc2 (l.1, mid l.1 l.2)]) (caps := vpre dc y ++ [.rc Qao (vpre dc y)]) rfl rfl rfl rfl vis_fn
            (vis_ok hr hn hs hK k _ r1 i S w0 J Jx hw1 hx1 hab habx hans) ?_ ?_
          · intro a7 W7 I7
            refine QjM hE hab hO I7 (k := 6) (len := 3) (B := QpC) (fun j o hj => ?_) zr_v2 ?_
            · have hj6 : j < 6 := (List.getElem?_eq_some_iff.1 hj).1
              rw [← hj]
              match j, hj6 with
              | 0, _ => rfl
              | 1, _ => rfl
              | 2, _ => rfl
              | 3, _ => rfl
              | 4, _ => rfl
              | 5, _ => rfl
            intro a8 W8 I8
            refine wo_call hE hab habx hO I8 (k := 12) (len := 2) (d := 34) (ty := 29) (es := [.t 33]) (g := some (28, true)) (x := [enc2 (mid l.1 l.2, l.2)]) (caps := vpre dc y ++ [.rc Qao (vpre dc y)]) rfl rfl rfl rfl vis_fn
              (vis_ok hr hn hs hK k _ r2 (i + r1.length) S w0 J Jx hw2 hx2 hab habx hans) ?_ ?_
            · intro a9 W9 I9
              obtain ⟨s, h1, h2⟩ := zr_v3 (dc := dc) (y := y) (l := l) (m := mid l.1 l.2) true
              refine QjM hE hab hO I9 (k := 13) (len := 0) (B := Qob) (fun j o hj => ?_) h1 ?_
              · have hj6 : j < 2 := (List.getElem?_eq_some_iff.1 hj).1
                rw [← hj]
                match j, hj6 with
                | 0, _ => rfl
                | 1, _ => rfl
              intro a10 W10 I10
              refine Qnu ?_
              simp only [↓reduceIte]
              exact hfin h2 I10 (.inl ⟨rfl, rfl, by rw [List.length_append, Nat.add_assoc]⟩)
            · intro i' a9 W9 I9
              obtain ⟨s, h1, h2⟩ := zr_v3 (dc := dc) (y := y) (l := l) (m := mid l.1 l.2) false
              refine QjM hE habx hO I9 (k := 13) (len := 0) (B := Qob) (fun j o hj => ?_) h1 ?_
              · have hj6 : j < 2 := (List.getElem?_eq_some_iff.1 hj).1
                rw [← hj]
                match j, hj6 with
                | 0, _ => rfl
                | 1, _ => rfl
              intro a10 W10 I10
              refine Qnu ?_
              simp only [↓reduceIte]
              exact hfin h2 I10 (.inr ⟨rfl, rfl⟩)
          · intro i' a7 W7 I7
            obtain ⟨s, h1, h2⟩ := zr_vf (dc := dc) (y := y) (l := l) (m := mid l.1 l.2)
            refine QjM hE habx hO I7 (k := 6) (len := 0) (B := QpC ++ ⟨some 34, .calv (.t 29) [.t 33], some (28, true)⟩ :: Qob) (fun j o hj => ?_) h1 ?_
            · have hj6 : j < 9 := (List.getElem?_eq_some_iff.1 hj).1
              rw [← hj]
              match j, hj6 with
              | 0, _ => rfl
              | 1, _ => rfl
              | 2, _ => rfl
              | 3, _ => rfl
              | 4, _ => rfl
              | 5, _ => rfl
              | 6, _ => rfl
              | 7, _ => rfl
              | 8, _ => rfl
            intro a8 W8 I8
            refine Qnu ?_
            simp only [↓reduceIte]
            exact hfin h2 I8 (.inr ⟨rfl, rfl⟩)
    · cases hw
end Go.AM

/- sturm.zeros' iterator: what it yields. -/
namespace Go.AM
open Go Go.RowKit Go.Proofs
def zo_A : C := sturm_zeros_1.body.fst7
def zo_B : C := sturm_zeros_1.body.snd7.fst7
def zo_C : C := .reg [⟨some 5, .mkfn Qao [.t 1, .t 3, .t 4] false, none⟩, ⟨none, .store 1 (.t 4) (.t 5), none⟩] []
def zo_D1 : List O := [⟨some 6, .load none (.t 4), none⟩, ⟨some 7, .load (some 8) (.t 2), none⟩]
def zo_D : List O := zo_D1 ++ [⟨some 8, .calv (.t 6) [.t 7], none⟩]
theorem zo_shape : sturm_zeros_1.body.er = .seq zo_A.er (.seq zo_B.er (.seq zo_C.er (.reg (zo_D.map O.er) []))) := rfl
def QoE (dc : D) : A := .fn Qao [.d (.rp [dc]), .ptr [3] 0, .ptr [4] 0]
def Qcn (dc : D) (l : Rat × Rat) : List D := [.rp [dc], .rp (c2R l)]
theorem yc_c (y : Nat) : Qax (.d (.v (.func (.yield y) #[] #[]))) = [.d (.v (.func (.yield y) #[] #[]))] := rfl
theorem yc_o (y : Nat) : A.one (.d (.v (.func (.yield y) #[] #[]))) = true := rfl
theorem nf_c : Qax (.d (.v .nilFunc)) = [.d (.v .nilFunc)] := rfl
theorem nf_o : A.one (.d (.v .nilFunc)) = true := rfl
theorem fc_c (f : Nat) (xs : List A) : Qax (.fn f xs) = [.fn f xs] := rfl
theorem fc_o (f : Nat) (xs : List A) : A.one (.fn f xs) = true := rfl
theorem loadA_rp7 (h : Hp) (sz : Option Nat) (cs : List D) : Qcj h sz (.d (.rp cs)) = Qjg sz cs := rfl
section
variable [Its] {dc : D} {y : Nat} {l : Rat × Rat}
def zo_s1 (dc : D) (y : Nat) (l : Rat × Rat) : St := mkS [(1, .d (.rp [dc])), (2, .d (.rp (c2R l))), (3, .ptr [3] 0)] [([3], ⟨0, 0, [.d (yv y)], false⟩)]
def QpL (dc : D) (y : Nat) (l : Rat × Rat) : St := mkS [(1, .d (.rp [dc])), (2, .d (.rp (c2R l))), (3, .ptr [3] 0), (4, .ptr [4] 0)] [([3], ⟨0, 0, [.d (yv y)], false⟩), ([4], ⟨0, 0, [.d (.v .nilFunc)], false⟩)]
def QrN (dc : D) (y : Nat) (l : Rat × Rat) : St := ⟨upd (QpL dc y l).fr 5 (QoE dc), hupd (QpL dc y l).hp [4] ⟨0, 0, [QoE dc], false⟩, []⟩
def QrU (dc : D) (y : Nat) (l : Rat × Rat) : St := ⟨upd (upd (QrN dc y l).fr 6 (QoE dc)) 7 (.d (enc2 l)), (QrN dc y l).hp, []⟩
theorem zo_a : X G zo_A ⟨argF 0 (yv y :: Qcn dc l), hp0, []⟩ = some (.n, zo_s1 dc y l) := by
 obtain ⟨lo, hi⟩ := l
 simp -implicitDefEqProofs (maxSteps:=9^8) only [zo_A, sturm_zeros_1, C.fst7, C.snd7, Qcn, zo_s1, c2R, argF, yv, yc_c, yc_o, QdU, refs, List.all_cons, List.all_nil, Bool.and_true, go_sem, iv, bv, reduceCtorEq, ↓reduceIte, Nat.reduceEqDiff]
theorem zo_b : X G zo_B (zo_s1 dc y l) = some (.n, QpL dc y l) := by
 obtain ⟨lo, hi⟩ := l
 simp -implicitDefEqProofs (maxSteps:=9^8) only [zo_B, sturm_zeros_1, C.fst7, C.snd7, zo_s1, QpL, c2R, yv, yc_c, yc_o, nf_c, nf_o, fc_c, fc_o, QdU, refs, List.all_cons, List.all_nil, Bool.and_true, List.map_cons, List.map_nil, go_sem, iv, bv, reduceCtorEq, ↓reduceIte, Nat.reduceEqDiff]
theorem zo_c : X G zo_C (QpL dc y l) = some (.n, QrN dc y l) := by
 obtain ⟨lo, hi⟩ := l
 simp -implicitDefEqProofs (maxSteps:=9^8) only [zo_C, QpL, QrN, QoE, c2R, yv, allD, Qax, Qab, yc_c, yc_o, nf_c, nf_o, fc_c, fc_o, QdU, refs, List.all_cons, List.all_nil, Bool.and_true, List.map_cons, List.map_nil, go_sem, iv, bv, reduceCtorEq, ↓reduceIte, Nat.reduceEqDiff]
theorem zo_d : exs (Qah G) zo_D1 (QrN dc y l) = some (QrU dc y l) := by
 obtain ⟨lo, hi⟩ := l
 simp -implicitDefEqProofs (maxSteps:=9^8) only [zo_D1, QpL, QrN, QrU, QoE, enc2, c2R, yv, Qaa, loadA_rp7, yc_c, yc_o, nf_c, nf_o, fc_c, fc_o, QdU, refs, List.all_cons, List.all_nil, Bool.and_true, List.map_cons, List.map_nil, go_sem, iv, bv, reduceCtorEq, ↓reduceIte, Nat.reduceEqDiff]
end
end Go.AM

/- sturm.zeros' iterator: what it owes. -/
namespace Go.AM
open Go Go.RowKit Go.Proofs
theorem zo_okY : ∀ b, Tryz.f110.body = some b → okY b = true := by
 intro b hb
 have : (Tryz.f110.body.map okY) = some true := by kernel_rfl
 rw [hb] at this
 simpa using this
theorem rep_fn3 {m : Key → Nat} {hp : Hp} {T : Nat → Prop} {w : World} {f : Nat} {x1 x2 x3 : A} {z : Value} (h : RepA m hp T w (.fn f [x1, x2, x3]) z) : ∃ q1 q2 q3, z = .func (.func f) #[] [q1, q2, q3].toArray ∧ RepA m hp T w x1 q1 ∧ RepA m hp T w x2 q2 ∧ RepA m hp T w x3 q3 := by
 cases h with
 | fn _ _ vs hl =>
  cases hl with
  | cons _ _ q1 _ h1 t =>
   cases t with
   | cons _ _ q2 _ h2 t =>
    cases t with
    | cons _ _ q3 _ h3 t =>
     cases t
     exact ⟨q1, q2, q3, rfl, h1, h2, h3⟩
theorem Qna {m : Key → Nat} {hp : Hp} {T : Nat → Prop} {w : World} {k : Key} {off : Nat} {o : Obj} {v : Value} (h : RepA m hp T w (.ptr k off) v) (ho : hp k = some o) : v = .pointer (some ⟨m k, off, none⟩) := by
 cases h with
 | ptr _ _ _ _ hv => exact hv o ho
theorem Qmc {w : World} {b : Nat} {cs : Array Value} {T : TypeId} {fz : Nat × Nat} {v : Value} (h : w.heap[b]? = some (Go.Obj.cells cs T fz)) (hv : cs[0]? = some v) : w.cell? ⟨b, 0, none⟩ = some v := by
 rw [Lib.cell_of_heap h]; exact hv
theorem Inv.empty {S : Nat → Prop} {w0 W W' : World} {N : Nat} {J J' : Held} {st : St} {i j : Nat} {a : Act} {m : Key → Nat} {L L' : Nat → Prop} (h : Inv1 S w0 N J st i a W m L) (f1 : Foot L W W') (f3 : ∀ b, L' b → b < W'.heap.size) (hj : J' j L' (fun _ => False) W') (dst : Option Nat) (v : Value) : Inv S w0 N J' ⟨fr0, hp0, []⟩ j (a.put dst v) W' := by
 have hV : (fun b => Live m hp0 b) = fun _ => False := by
  funext b; exact propext ⟨fun ⟨_, _, h, _⟩ => by simp [hp0] at h, False.elim⟩
 have hnd : (a.put dst v).defers = [] := by
  have := (show Inv S w0 N J st i a W from ⟨m, L, h⟩).nodefer
  cases dst <;> exact this
 have hts : (a.put dst v).tmps.size = N := by
  have := h.rel.ts
  cases dst with
  | none => exact this
  | some d => simpa [Act.put] using this
 refine ⟨m, L', ⟨⟨fun _ _ hx => (by cases hx), fun _ _ h => (by cases h), fun _ _ _ _ h => (by cases h), fun _ _ h => (by cases h), fun _ _ _ h => (by cases h), fun _ _ h => (by cases h), fun _ _ h => (by cases h), Foot.refl _ _, (by rw [hnd]; exact Marks.nil _ _ _), hts, fun b hb => ⟨.inr (by have := h.sz; have := f1.size; omega), fun hl => by have := f3 b hl; omega⟩, fun _ _ h => (by cases h)⟩, ?_, f3, fun b ⟨_, _, h, _⟩ => (by cases h), Nat.le_trans h.sz f1.size⟩⟩
 show J' j L' (fun b => Live m hp0 b) W'
 rw [hV]; exact hj
theorem zeros_it {dc : D} {ps : List (List Rat)} {l : Rat × Rat} {r : List (Rat × Rat)} {K k : Nat} (hr : RwC dc ps) (hn : ps.length ≤ 1000) (hs : ∀ p ∈ ps, SzL K p ∧ p.length * (2 * K + 1) ≤ 40000000000) (hK : K ≤ 1000000000) (hw : wtZ K ps k l = some r) : ItOk Tryz.prog Qaz (Qcn dc l) (r.map fun q => [enc2 q]) := by
 refine it_ok envP Tryz.func110 Qhd zo_okY rfl rfl ?_
 intro n y S w0 J Jx a W hab habx hans hI
 have hE : EnvOk Tryz.prog G := envP
 rw [zo_shape]
 refine WY.seq (Inv.code hE hab hI rfl rfl zo_a ?_)
 intro a1 W1 I1
 simp only [↓reduceIte]
 refine WY.seq (Inv.code hE hab I1 rfl rfl zo_b ?_)
 intro a2 W2 I2
 simp only [↓reduceIte]
 refine WY.seq (Inv.code hE hab I2 rfl rfl zo_c ?_)
 intro a3 W3 I3
 simp only [↓reduceIte]
 refine Qoo (os := zo_D) (k0 := 2) rfl fun ops hO => ?_
 refine QjM hE hab hO I3 (B := zo_D1) (len := 1) (fun j o hj => by
  rw [Nat.zero_add, zo_D, List.getElem?_append_left (List.getElem?_eq_some_iff.1 hj).1]; exact hj) zo_d ?_
 rintro a4 W4 ⟨m, L, h⟩
 obtain ⟨o, c, hoo, hop, hce, hargs, hd, hgg⟩ := QpF hO (k := 2) (show zo_D[2]? = some ⟨some 8, .calv (.t 6) [.t 7], none⟩ from rfl)
 obtain ⟨q1, q3, q4, hz, h1, h3, h4⟩ := rep_fn3 (h.rel.fr 6 (QoE dc) rfl)
 have ho3 : (QrU dc y l).hp [3] = some ⟨0, 0, [.d (yv y)], false⟩ := rfl
 have ho4 : (QrU dc y l).hp [4] = some ⟨0, 0, [QoE dc], false⟩ := rfl
 obtain ⟨cs3, T3, z3, O3⟩ := h.rel.obj [3] _ ho3
 obtain ⟨cs4, T4, z4, O4⟩ := h.rel.obj [4] _ ho4
 obtain ⟨v3, c3, r3⟩ := O3.rep 0 (.d (yv y)) rfl
 obtain ⟨v4, c4, r4⟩ := O4.rep 0 (QoE dc) rfl
 obtain ⟨p1, p3, p4, hp, g1, g3, g4⟩ := rep_fn3 r4
 have e3 := Qna h3 ho3
 have e4 := Qna h4 ho4
 have e3' := Qna g3 ho3
 have e4' := Qna g4 ho4
 have ev : v3 = .func (.yield y) #[] #[] := QeB r3
 subst e3 e4 e3' e4' ev hp
 obtain ⟨hrep, _⟩ := Qer h.rel hargs (show allE (QrU dc y l) [.t 7] = some ([enc2 l].map .d) from rfl)
 have hra := Qjf _ _ hrep
 have hm : ∀ b, Im (fun b => (S b ∨ w0.heap.size ≤ b) ∧ ¬ L b) m (QrU dc y l).hp W4 b → ((S b ∨ w0.heap.size ≤ b) ∧ b < W4.heap.size ∧ ¬ (fun _ => False) b ∧ ¬ L b) := fun b hb => ⟨hb.1.1, hb.2.1, id, hb.1.2⟩
 have s3 := h.rel.ge [3] _ ho3
 have s4 := h.rel.ge [4] _ ho4
 have t3 := h.rel.lt ho3
 have t4 := h.rel.lt ho4
 have cy : RepD (fun b => (S b ∨ w0.heap.size ≤ b) ∧ b < W4.heap.size ∧ ¬ (fun _ => False) b ∧ ¬ L b) W4 (.rp [yv y]) (.pointer (some ⟨m [3], 0, none⟩)) := by
  refine .rp [yv y] ⟨m [3], 0, none⟩ [.func (.yield y) #[] #[]] ⟨s3.1, t3, id, s3.2⟩ (.cons _ _ _ _ (.v _) .nil) ?_
  intro j v hj
  match j with
  | 0 => cases hj; exact Qmc O3.at_ c3
  | j + 1 => cases hj
 have cv : RepD (fun b => (S b ∨ w0.heap.size ≤ b) ∧ b < W4.heap.size ∧ ¬ (fun _ => False) b ∧ ¬ L b) W4 (.rc Qao (vpre dc y)) (.pointer (some ⟨m [4], 0, none⟩)) :=
  .rc Qao (vpre dc y) ⟨m [4], 0, none⟩ [p1, .pointer (some ⟨m [3], 0, none⟩)] ⟨s4.1, t4, id, s4.2⟩ (.cons _ _ _ _ ((Qf5 g1).mono (w' := W4) hm (fun _ _ => rfl)) (.cons _ _ _ _ cy .nil)) (Qmc O4.at_ c4)
 have hra' := hra.mono (w' := W4) hm (fun _ _ => rfl)
 have hd1 := (Qf5 h1).mono (w' := W4) hm (fun _ _ => rfl)
 have hrl := hra'.append (RepL.cons _ _ _ _ hd1 (RepL.cons _ _ _ _ cy (RepL.cons _ _ _ _ cv RepL.nil)))
 have hJ : J 0 L (fun _ => False) W4 := hab 0 L _ _ W4 W4 h.j (Foot.refl _ _) (fun _ hb => hb.elim) (fun _ hb => hb.elim)
 have O := vis_ok hr hn hs hK k l r 0 S w0 J Jx hw (fun j q hq => by rw [Nat.zero_add, List.getElem?_map, hq]; rfl) hab habx hans L (fun _ => False) W4 _ hJ (fun _ hb => hb.elim) h.lt h.sz hrl
 refine QqV (len := 0) hoo hop hce (Qd2 h.rel hgg rfl rfl) hz vis_fn (O.mono ?_)
 rintro e W5 ⟨L', f1, f2, f3, f4⟩
 have hlen : (r.map fun q => [enc2 q]).length = r.length := List.length_map ..
 rcases f4 with ⟨rfl, hj⟩ | ⟨rfl, i', hj⟩
 ·refine ⟨_, rfl, Qnu ⟨fun _ h => (by cases h), .inl ⟨⟨fr0, hp0, []⟩, ?_⟩⟩⟩
  rw [hlen]
  rw [Nat.zero_add] at hj
  exact Inv.empty h f1 f3 hj _ _
 ·exact ⟨_, rfl, Qnu ⟨fun _ h => (by cases h), .inr ⟨⟨fr0, hp0, []⟩, i', Inv.empty h f1 f3 hj _ _⟩⟩⟩
end Go.AM

/- The seat's iterators: Backward and sturm.zeros. -/
namespace Go.AM
open Go Go.RowKit Go.Proofs
theorem RwC.inj {d : D} {ps qs : List (List Rat)} (h : RwC d ps) (h' : RwC d qs) : ps = qs := by
  obtain ⟨ds, h1, h2, h3⟩ := h
  obtain ⟨es, k1, k2, k3⟩ := h'
  have e : ds = es := by
    rcases h3 with rfl | ⟨rfl, rfl⟩
    · rcases k3 with k3 | ⟨k3, _⟩
      · simp only [D.row.injEq] at k3; exact k3.2
      · cases k3
    · rcases k3 with k3 | ⟨_, rfl⟩
      · cases k3
      · rfl
  subst e
  refine List.ext_getElem (by omega) fun i hi hj => ?_
  have := (h2 i hi).inj (k2 i hj)
  simpa [List.getD_eq_getElem?_getD, List.getElem?_eq_getElem hi, List.getElem?_eq_getElem hj] using this
theorem c2R_inj {l m : Rat × Rat} (h : c2R l = c2R m) : l = m := by
 obtain ⟨a, b⟩ := l
 obtain ⟨c, d⟩ := m
 simp only [c2R, List.cons.injEq, D.v.injEq, Value.bool.injEq, true_and, and_true] at h
 obtain ⟨h1, h2, h3, h4, h5, h6⟩ := h
 rw [Qpd h1 h2 h3, Qpd h4 h5 h6]
theorem QmJ {K : Nat} {ps : List (List Rat)} : ∀ (k k' : Nat) (l : Rat × Rat) (r r' : List (Rat × Rat)), wtZ K ps k l = some r → wtZ K ps k' l = some r' → r = r'
 | 0, _, _, _, _, h, _ => by cases h
 | k + 1, 0, _, _, _, _, h => by cases h
 | k + 1, k' + 1, l, r, r', h, h' => by
  rw [wtZ] at h h'
  by_cases hz : sz l.1 ≤ K ∧ sz l.2 ≤ K
  ·rw [if_pos hz] at h h'
   by_cases h0 : cnt ps l.1 l.2 = 0
   ·rw [if_pos h0] at h h'; cases h; cases h'; rfl
   ·rw [if_neg h0] at h h'
    by_cases h1 : cnt ps l.1 l.2 = 1
    ·rw [if_pos h1] at h h'; cases h; cases h'; rfl
    ·rw [if_neg h1] at h h'
     simp only [Option.bind_eq_some_iff, Option.map_eq_some_iff] at h h'
     obtain ⟨a, a1, b, b1, rfl⟩ := h
     obtain ⟨a', a1', b', b1', rfl⟩ := h'
     rw [QmJ k k' _ a a' a1 a1', QmJ k k' _ b b' b1 b1']
  ·rw [if_neg hz] at h; cases h
def KZ : Nat := 1000000000
def ZOk (ds : List D) (xs : List (List D)) : Prop := ∃ dc ps l r k, ds = Qcn dc l ∧ RwC dc ps ∧ ps.length ≤ 1000 ∧ (∀ p ∈ ps, SzL KZ p ∧ p.length * (2 * KZ + 1) ≤ 40000000000) ∧ wtZ KZ ps k l = some r ∧ xs = r.map fun q => [enc2 q]
theorem ZOk.uniq {ds : List D} {xs ys : List (List D)} (h : ZOk ds xs) (h' : ZOk ds ys) : xs = ys := by
 obtain ⟨dc, ps, l, r, k, e, h1, _, _, h2, rfl⟩ := h
 obtain ⟨dc', ps', l', r', k', e', h1', _, _, h2', rfl⟩ := h'
 rw [e] at e'
 simp only [Qcn, List.cons.injEq, D.rp.injEq, and_true] at e'
 obtain ⟨rfl, e2⟩ := e'
 have := c2R_inj e2
 subst this
 have := h1.inj h1'
 subst this
 rw [QmJ k k' l r r' h2 h2']
open Classical in
noncomputable abbrev itsZ : Its := { it := fun f ds => if f = Qag then Qj7 ds else if f = Qaz then (if h : ∃ xs, ZOk ds xs then some (Classical.choose h) else none) else none }
theorem itsBZ : @ItsB itsZ := @ItsB.mk itsZ fun _ => if_pos rfl
open Classical in
theorem itsZ_at {dc : D} {ps : List (List Rat)} {l : Rat × Rat} {r : List (Rat × Rat)} {k : Nat} (h1 : RwC dc ps) (h2 : ps.length ≤ 1000) (h3 : ∀ p ∈ ps, SzL KZ p ∧ p.length * (2 * KZ + 1) ≤ 40000000000) (h4 : wtZ KZ ps k l = some r) : (@G itsZ).it Qaz (Qcn dc l) = some (r.map fun q => [enc2 q]) := by
 have ho : ZOk (Qcn dc l) (r.map fun q => [enc2 q]) := ⟨dc, ps, l, r, k, rfl, h1, h2, h3, h4, rfl⟩
 have hex : ∃ xs, ZOk (Qcn dc l) xs := ⟨_, ho⟩
 show (if Qaz = Qag then Qj7 (Qcn dc l) else if Qaz = Qaz then (if h : ∃ xs, ZOk (Qcn dc l) xs then some (Classical.choose h) else none) else none) = _
 rw [if_neg (by decide), if_pos rfl, dif_pos hex]
 exact congrArg some ((Classical.choose_spec hex).uniq ho)
open Classical in
theorem envZ : EnvOk Tryz.prog (@G itsZ) := @env_ok itsZ (fun f ds xs h => by
  have h' : (if f = Qag then Qj7 ds else if f = Qaz then (if h : ∃ xs, ZOk ds xs then some (Classical.choose h) else none) else none) = some xs := h
  split at h'
  · rename_i hf
    rw [hf]
    exact Qow h'
  · split at h'
    · rename_i hf
      split at h'
      · rename_i hex
        cases h'
        obtain ⟨dc, ps, l, r, k, e, h1, h2, h3, h4, h5⟩ := Classical.choose_spec hex
        rw [hf, h5, e]
        exact zeros_it h1 h2 h3 (by unfold KZ; omega) h4
      · cases h'
    · cases h') (fun _ _ => rfl)
end Go.AM

/- slices.Collect over sturm.zeros; sturm.zeros; sturm.Isolate. -/
namespace Go.AM
open Go Go.RowKit Go.Proofs
def cAs : List (Rat × Rat) → List D
 | [] => []
 | l :: r => c2R l ++ cAs r
def rowA (r : List (Rat × Rat)) : D := .row r.length (cAs r)
theorem cAs_len : ∀ r, (cAs r).length = r.length * 8
 | [] => rfl
 | l :: r => by rw [cAs, List.length_append, cAs_len r, List.length_cons]; simp [c2R]; omega
theorem cAs_app : ∀ r s, cAs (r ++ s) = cAs r ++ cAs s
 | [], s => rfl
 | l :: r, s => by rw [List.cons_append, cAs, cAs, cAs_app r s, List.append_assoc]
theorem c2R_one (l : Rat × Rat) : (c2R l).all D.one = true := by
 simp only [c2R, List.all_cons, List.all_nil, Bool.and_true, Bool.and_eq_true]
 exact ⟨rfl, QnH _, rfl, QnH _, rfl, QnH _, rfl, QnH _⟩
def gHs (r : List (Rat × Rat)) : List (Key × Obj) := if r = [] then [([2], ⟨0, 0, [.d (.z true)], false⟩)] else [([2], ⟨0, 0, [.own [11] r.length], false⟩), ([11], ⟨8, r.length, (cAs r).map .d, false⟩)]
def Qou : Fr := frL [(2, .ptr [2] 0)]
theorem rep1_8A (a b c d e f g h : D) : rep 1 [a, b, c, d, e, f, g, h] = [a, b, c, d, e, f, g, h] := rfl
theorem ldn1 (a : A) : Qaa none 0 [a] = some a := rfl
theorem stn1 (a b : A) : Qab 0 [b] [a] = some [b] := rfl
theorem own_c (k : Key) (n : Nat) : Qax (.own k n) = [.own k n] := rfl
theorem own_o (k : Key) (n : Nat) : A.one (.own k n) = true := rfl
theorem Qm9 (ks : List Key) : ∀ r : List D, QdU ks (r.map A.d) = true
 | [] => rfl
 | x :: r => by simp only [List.map_cons, QdU, refs, Qm9 ks r, Bool.and_self]
variable [Its]
theorem as_round (q : Rat × Rat) (r : List (Rat × Rat)) (hr : r.length ≤ 100000) (xs : List (List D)) :
    QcM (X G) [7] slices_AppendSeq_2_api_Rat_2_api_Rat_a0 slices_AppendSeq_2_api_Rat_2_api_Rat_b0 Qou [] ([enc2 q] :: xs) (hpL (gHs r)) = QcM (X G) [7] slices_AppendSeq_2_api_Rat_2_api_Rat_a0 slices_AppendSeq_2_api_Rat_2_api_Rat_b0 Qou [] xs (hpL (gHs (r ++ [q]))) := by
  have e0 : gHs (r ++ [q]) = [([2], ⟨0, 0, [.own [11] (r.length + 1)], false⟩), ([11], ⟨8, r.length + 1, ((cAs r ++ c2R q).map .d), false⟩)] := by
    unfold gHs
    rw [if_neg (by simp), List.length_append, List.length_singleton, cAs_app]
    simp only [cAs, List.append_nil]
  rw [e0]
  have o1 := c2R_one q
  have n8 : (c2R q).length = 8 := rfl
  have nr := cAs_len r
  by_cases h0 : r = []
  · subst h0
    have hb : (128 ≤ bound) = True := eq_true (by unfold bound; omega)
    have hb1 : (1 * 128 ≤ bound) = True := eq_true (by unfold bound; omega)
    obtain ⟨lo, hi⟩ := q
    simp only [c2R] at o1 n8
    simp -implicitDefEqProofs (maxSteps:=9^8) only [QcM, slices_AppendSeq_2_api_Rat_2_api_Rat_a0, slices_AppendSeq_2_api_Rat_2_api_Rat_b0, Qou, gHs, enc2, c2R, cAs, hb, hb1, o1, n8, putL, rep1_8A, st8q, ld8q, ldn1, stn1, own_c, own_o, Qm9, Qac, srcS, src, allD, List.map_cons, List.map_nil, List.length_nil, Nat.zero_add, List.nil_append, go_sem, iv, bv, reduceCtorEq, ↓reduceIte, Nat.reduceEqDiff]
  · have e1 : gHs r = [([2], ⟨0, 0, [.own [11] r.length], false⟩), ([11], ⟨8, r.length, (cAs r).map .d, false⟩)] := if_neg h0
    rw [e1]
    have n3 : ((cAs r).map A.d).length = r.length * 8 := by rw [List.length_map, nr]
    have n4 : ((r.length + 1) * 128 ≤ bound) = True := eq_true (by unfold bound; omega)
    have n5 : (cAs r).map A.d ++ (c2R q).map A.d = (cAs r ++ c2R q).map A.d := (List.map_append ..).symm
    obtain ⟨lo, hi⟩ := q
    simp only [c2R, List.map_cons, List.map_nil] at o1 n8 n5
    simp -implicitDefEqProofs (maxSteps:=9^8) only [QcM, slices_AppendSeq_2_api_Rat_2_api_Rat_a0, slices_AppendSeq_2_api_Rat_2_api_Rat_b0, Qou, enc2, c2R, n3, n4, n5, o1, n8, putL, rep1_8A, st8q, ld8q, ldn1, stn1, own_c, own_o, Qm9, Qac, srcS, src, allD, List.map_cons, List.map_nil, go_sem, iv, bv, reduceCtorEq, ↓reduceIte, Nat.reduceEqDiff]
end Go.AM

/- sturm.Bound, ref07.Bound. -/
namespace Go.AM
open Go Go.RowKit
def abR (q : Rat) : Rat := if q < 0 then -q else q
def bdQ (p : List Rat) (i : Nat) : Rat := p.getD i 0 / p.getD (p.length - 1) 0
def bdF (p : List Rat) : Nat → Rat
 | 0 => 0
 | i + 1 => if bdF p i < abR (bdQ p i) then abR (bdQ p i) else bdF p i
def bdR (p : List Rat) : Rat := bdF p (p.length - 1) + 1
theorem abR_sz (q : Rat) : sz (abR q) = sz q := by
 unfold abR
 split
 ·exact sz_neg q
 ·rfl
theorem bdQ_sz {p : List Rat} {K : Nat} (sp : SzL K p) (hK : 1 ≤ K) (i : Nat) : sz (bdQ p i) ≤ 2 * K := by
 unfold bdQ
 have h1 := sp.getD hK i
 have h2 := sp.getD hK (p.length - 1)
 have h3 := sz_div (a := p.getD i 0) (b := p.getD (p.length - 1) 0)
 omega
theorem bdF_sz {p : List Rat} {K : Nat} (sp : SzL K p) (hK : 1 ≤ K) : ∀ i, sz (bdF p i) ≤ 2 * K
 | 0 => by rw [bdF, QjB]; omega
 | i + 1 => by
  rw [bdF]
  split
  ·rw [abR_sz]; exact bdQ_sz sp hK i
  ·exact bdF_sz sp hK i
def boxZ : Obj := ⟨0, 0, [.d (.v (.bool false)), .d (.z true), .d (.v (.bool false)), .d (.z true)], false⟩
def Qli (d : D) (mo : Rat) (n i : Int) : St := mkS [(0, .d d), (2, .ptr [2] 0), (3, .ptr [3] 0), (8, ai n), (9, ai i)] [([2], boxZ), ([3], boxR mo)]
def bs_en (mo : Rat) : St := mkS [(2, .ptr [2] 0), (3, .ptr [3] 0)] [([2], boxZ), ([3], boxR mo)]
theorem boxR_0 : boxR 0 = boxZ := by
 have ez : decide ((0 : Rat).num < 0) = false := rfl
 have ez2 : dg (digs (0 : Rat).num.natAbs) = .z true := by rw [Rat.zero_num, show (0 : Int).natAbs = 0 from rfl, Qau]; rfl
 have ez3 : dg (dd (0 : Rat).den) = .z true := rfl
 rw [boxR, ez, ez2, ez3]; rfl
section
variable [Its] {d : D} {p : List Rat} {K : Nat}
theorem bs_go (hr : RwR d p) (np : p.length ≤ 1000) (sp : SzL K p) (hK1 : 1 ≤ K) (hK : K ≤ 10000000000) {i : Nat} (hi : i + 1 < p.length) {mo : Rat} (hm : sz mo ≤ 2 * K) :
    X G Qbl (Qli d mo ((p.length - 1 : Nat) : Int) i) = some (.n, Qli d (if mo < abR (bdQ p i) then abR (bdQ p i) else mo) ((p.length - 1 : Nat) : Int) ((i + 1 : Nat) : Int)) := by
  have e1 : decide ((i : Int) < ((p.length - 1 : Nat) : Int)) = true := lt_t (by omega)
  have e2 : w64 ((p.length : Int) - 1) = ((p.length - 1 : Nat) : Int) := by rw [Qaf (by omega) (by omega)]; omega
  have e3 : w64 ((i : Int) + 1) = ((i + 1 : Nat) : Int) := by rw [Qaf (by omega) (by omega)]; rfl
  have ll := hr.len
  have hl : p.length - 1 < p.length := by omega
  have x1 := hr.ixa hl
  have y1 := fun h => ldR h p hl
  have x2 := hr.ixa (show i < p.length by omega)
  have y2 := fun h => ldR h p (show i < p.length by omega)
  have s1 := sp.getD hK1 (p.length - 1)
  have s2 := sp.getD hK1 i
  have g1 := Qim (a := p.getD i 0) (b := p.getD (p.length - 1) 0) (by omega) (by omega)
  have sq := bdQ_sz sp hK1 i
  unfold bdQ at sq
  unfold bdQ
  generalize p.getD i 0 / p.getD (p.length - 1) 0 = q at *
  generalize p.getD (p.length - 1) 0 = u at *
  generalize p.getD i 0 = v at *
  generalize cRs (p.drop (p.length - 1)) = cs at *
  generalize cRs (p.drop i) = ct at *
  generalize ((p.length - 1 : Nat) : Int) = n at *
  have g2 := Qcp q
  have t2 := sign_lt (x := q)
  generalize Int.sign q.num = sg at *
  have g3 := Qin q
  have sa := abR_sz q
  have g4 := QcP (a := abR q) (b := mo) (by omega) (by omega)
  have t4 := Qk7 (a := abR q) (b := mo)
  generalize cmpR (abR q) mo = c at *
  clear s1 s2 sq hm sp hr sa
  unfold abR at *
  by_cases k : q < 0
  · rw [decide_eq_true k] at t2
    rw [if_pos k] at *
    generalize -q = nq at *
    simp only [encR, iv] at g1 g2 g3 g4 y1 y2
    by_cases k2 : mo < nq
    · rw [decide_eq_true k2] at t4
      rw [if_pos k2]
      simp -implicitDefEqProofs (maxSteps:=9^8) only [Qbl, Qli, boxZ, boxR, ll, x1, x2, y1, y2, e1, e2, e3, g1, g2, g3, g4, t2, t4, st4q, ld4q, Qac, go_sem, iv, bv, reduceCtorEq, ↓reduceIte, Nat.reduceEqDiff]
    · rw [decide_eq_false k2] at t4
      rw [if_neg k2]
      simp -implicitDefEqProofs (maxSteps:=9^8) only [Qbl, Qli, boxZ, boxR, ll, x1, x2, y1, y2, e1, e2, e3, g1, g2, g3, g4, t2, t4, st4q, ld4q, Qac, go_sem, iv, bv, reduceCtorEq, ↓reduceIte, Nat.reduceEqDiff]
  · rw [decide_eq_false k] at t2
    rw [if_neg k] at *
    simp only [encR, iv] at g1 g2 g3 g4 y1 y2
    by_cases k2 : mo < q
    · rw [decide_eq_true k2] at t4
      rw [if_pos k2]
      simp -implicitDefEqProofs (maxSteps:=9^8) only [Qbl, Qli, boxZ, boxR, ll, x1, x2, y1, y2, e1, e2, e3, g1, g2, g4, t2, t4, st4q, ld4q, Qac, go_sem, iv, bv, reduceCtorEq, ↓reduceIte, Nat.reduceEqDiff]
    · rw [decide_eq_false k2] at t4
      rw [if_neg k2]
      simp -implicitDefEqProofs (maxSteps:=9^8) only [Qbl, Qli, boxZ, boxR, ll, x1, x2, y1, y2, e1, e2, e3, g1, g2, g4, t2, t4, st4q, ld4q, Qac, go_sem, iv, bv, reduceCtorEq, ↓reduceIte, Nat.reduceEqDiff]
theorem bs_stop {mo : Rat} {n i : Int} (h : n ≤ i) : X G Qbl (Qli d mo n i) = some (.x 0, bs_en mo) := by
 have e1 : decide (i < n) = false := lt_f (by omega)
 simp -implicitDefEqProofs (maxSteps:=9^8) only [Qbl, Qli, bs_en, boxZ, boxR, e1, Qac, go_sem, iv, bv, reduceCtorEq, ↓reduceIte, Nat.reduceEqDiff]
theorem bs_loop (hr : RwR d p) (np : p.length ≤ 1000) (sp : SzL K p) (hK1 : 1 ≤ K) (hK : K ≤ 10000000000) : ∀ (j i : Nat), i + j = p.length - 1 → X G (.loop Qbl) (Qli d (bdF p i) ((p.length - 1 : Nat) : Int) i) = some (.x 0, bs_en (bdF p (p.length - 1)))
 | 0, i, h => by
  have : i = p.length - 1 := by omega
  subst this
  rw [Qak, bs_stop (Int.le_refl _)]; rfl
 | j + 1, i, h => by
  rw [Qak, bs_go hr np sp hK1 hK (by omega) (bdF_sz sp hK1 i), Option.bind_some, if_pos rfl]
  exact bs_loop hr np sp hK1 hK j (i + 1) (by omega)
theorem Qlm (hr : RwR d p) (np : p.length ≤ 1000) (sp : SzL K p) (hK1 : 1 ≤ K) (hK : K ≤ 10000000000) : Qah G Qe1 [d] = some (.d (encR (bdR p))) := by
 rw [Qad (cf := Qib) rfl]
 have ll := hr.len
 have sf := bdF_sz sp hK1 (p.length - 1)
 have o := Qea (n := 1) (d := 1) ⟨by omega, by omega⟩ ⟨by omega, by omega⟩
 rw [Qdy, show ((1 : Int) : Rat) = 1 from rfl] at o
 have g := Qfr (a := bdF p (p.length - 1)) (b := 1) (by omega) (by rw [QjJ]; omega)
 have hl : X G (.loop Qbl) (Qli d 0 (w64 ((p.length : Int) - 1)) 0) = some (.x 0, bs_en (bdF p (p.length - 1))) := by
  by_cases h : p.length = 0
  ·have e : w64 ((p.length : Int) - 1) = -1 := by rw [Qaf (by omega) (by omega)]; omega
   rw [e, h, Qak, bs_stop (by omega)]; rfl
  ·have e : w64 ((p.length : Int) - 1) = ((p.length - 1 : Nat) : Int) := by rw [Qaf (by omega) (by omega)]; omega
   rw [e]
   exact bs_loop hr np sp hK1 hK (p.length - 1) 0 (by omega)
 unfold bdR
 generalize bdF p (p.length - 1) = r at *
 rw [Qli, boxR_0] at hl
 generalize r + 1 = s at *
 obtain ⟨n, hn⟩ : ∃ n, w64 ((p.length : Int) - 1) = n := ⟨_, rfl⟩
 rw [hn] at hl
 generalize (1 : Rat) = one at *
 simp only [encR, iv] at o g
 simp only [bs_en, boxZ, boxR, go_sem] at hl
 simp -implicitDefEqProofs (maxSteps:=9^8) only [Qib, encR, ll, hn, hl, o, g, st4q, ld4q, Qaa, Qac, go_sem, iv, bv, reduceCtorEq, ↓reduceIte, Nat.reduceEqDiff]
end
end Go.AM

/- slices.AppendSeq, Collect over sturm.zeros; sturm.zeros; sturm.Isolate. -/
namespace Go.AM
open Go Go.RowKit Go.Proofs
def resA7 (r : List (Rat × Rat)) : D := if r = [] then .z true else rowA r
theorem gHs_nil : gHs [] = [([2], ⟨0, 0, [.d (.z true)], false⟩)] := rfl
theorem gHs_ne {r : List (Rat × Rat)} (h : r ≠ []) : gHs r = [([2], ⟨0, 0, [.own [11] r.length], false⟩), ([11], ⟨8, r.length, (cAs r).map .d, false⟩)] := if_neg h
variable [Its]
theorem QoC       : ∀ (xs r : List (Rat × Rat)), r.length + xs.length ≤ 100000 →
    QcM (X G) [7] slices_AppendSeq_2_api_Rat_2_api_Rat_a0 slices_AppendSeq_2_api_Rat_2_api_Rat_b0 Qou [] (xs.map fun q => [enc2 q]) (hpL (gHs r)) = some (.n, ⟨Qou, hpL (gHs (r ++ xs)), []⟩)
  | [], r, _ => by rw [List.append_nil]; rfl
  | q :: xs, r, h => by
    rw [List.map_cons, as_round q r (by simp at h; omega), QoC xs (r ++ [q]) (by simp at h ⊢; omega), List.append_assoc]; rfl
section
variable {dc : D} {l : Rat × Rat} {r : List (Rat × Rat)}
theorem QlH            (hit : (G).it Qaz             (Qcn     dc l) = some (r.map fun q => [enc2 q])) (hr : r.length ≤ 100000) :
    Qah G QbT [.z true, .fn Qaz (Qcn dc l)] = some (if r = [] then .d (.z true) else .own 8 r.length (cAs r)) := by
  rw [Qad (cf := QaI) rfl]
  have hrd := QoC r [] (by simpa using hr)
  rw [List.nil_append, gHs_nil] at hrd
  have hA : slices_AppendSeq_2_api_Rat_2_api_Rat_a0.holds [[2]] = true := rfl
  have hB : slices_AppendSeq_2_api_Rat_2_api_Rat_b0.holds [[2]] = true := rfl
  have n7 : allD ((cAs r).map A.d) = some (cAs r) := Qfj _
  generalize (r.map fun q => [enc2 q]) = XS at *
  generalize Qcn dc l = za at *
  by_cases h : r = []
  · subst h
    rw [gHs_nil] at hrd
    rw [if_pos rfl]
    simp only [Qou, go_sem] at hrd
    simp -implicitDefEqProofs (maxSteps:=9^8) only [QaI, X_rfn, QjT, hA, hB, hit, hrd, ldn1, stn1, Qac, go_sem, iv, bv, reduceCtorEq, ↓reduceIte, Nat.reduceEqDiff]
  · rw [gHs_ne h] at hrd
    rw [if_neg h]
    simp only [Qou, go_sem] at hrd
    simp -implicitDefEqProofs (maxSteps:=9^8) only [QaI, X_rfn, QjT, hA, hB, hit, hrd, n7, ldn1, stn1, Qm9, own_c, own_o, Qac, go_sem, iv, bv, reduceCtorEq, ↓reduceIte, Nat.reduceEqDiff]
theorem Qoz          (hit : (G).it Qaz             (Qcn     dc l) = some (r.map fun q => [enc2 q])) (hr : r.length ≤ 100000) :
    Qah G Qc8 [.fn Qaz (Qcn dc l)] = some (.d (resA7 r)) := by
  rw [Qad (cf := QbQ) rfl]
  have g := QlH hit hr
  unfold resA7 rowA
  by_cases h : r = []
  · rw [if_pos h] at *
    simp -implicitDefEqProofs (maxSteps:=9^8) only [QbQ, g, Qac, go_sem, iv, bv, reduceCtorEq, ↓reduceIte, Nat.reduceEqDiff]
  · rw [if_neg h] at *
    simp -implicitDefEqProofs (maxSteps:=9^8) only [QbQ, g, Qac, go_sem, iv, bv, reduceCtorEq, ↓reduceIte, Nat.reduceEqDiff]
theorem Qrt {ds : List D} : Qah G QiD [.row ds.length ds, enc2 l] = some (.d (.fn Qaz (Qcn (.row ds.length ds) l))) := by
 rw [Qad (cf := Qh4) rfl]
 obtain ⟨lo, hi⟩ := l
 simp -implicitDefEqProofs (maxSteps:=9^8) only [Qh4, Qcn, enc2, c2R, toDs, allD, snap, Qb3, nf_c, nf_o, Qab, Qaa, Qac, go_sem, iv, bv, reduceCtorEq, ↓reduceIte, Nat.reduceEqDiff]
end
theorem QoF          {dp : D} {p : List Rat} {b : Rat} {r : List (Rat × Rat)} (hp : RwR dp p) (hp0 : p ≠ []) (np : p.length ≤ 17) (hB : Qah   G Qe1           [dp] = some (.d (encR b))) (hC : ∃ ds, Dls ds (chP p) ∧ Qah   G QbW           [dp] = some (.own 1 ds.length ds))
    (hit : ∀ ds, Dls ds (chP p) → (G).it Qaz (Qcn (.row ds.length ds) (-b, b)) = some (r.map fun q => [enc2 q])) (hr : r.length ≤ 100000) : Qah G Qfb [dp] = some (.d (.tup [resA7 r, iv 0])) := by
  rw [Qad (cf := QgR) rfl]
  obtain ⟨ds, hd, g1⟩ := hC
  have g2 := Qrt (l := (-b, b)) (ds := ds)
  have g3 := Qoz (hit ds hd) hr
  have g4 := Qin b
  have ll := hp.len
  have e1 : ((p.length : Int) == 0) = false := Qco (by have := List.length_pos_iff.2 hp0; omega)
  have e2 : decide ((p.length : Int) > 17) = false := decide_eq_false (by omega)
  generalize Qcn (.row ds.length ds) (-b, b) = za at *
  generalize resA7 r = ra at *
  clear hit hd hp hp0 np
  generalize -b = nb at *
  simp only [encR, enc2, c2R, iv] at hB g2 g4
  simp -implicitDefEqProofs (maxSteps:=9^8) only [QgR, toDs, allD, g1, g2, g3, g4, hB, ll, e1, e2, st4q, ld4q, Qf9, Qc7, Qac, go_sem, iv, bv, reduceCtorEq, ↓reduceIte, Nat.reduceEqDiff]
end Go.AM

/- law07.lives. -/
namespace Go.AM
open Go Go.RowKit Go.Proofs
class ItsZ [Its] : Prop where
 zer : ∀ {dc : D} {ps : List (List Rat)} {l : Rat × Rat} {r : List (Rat × Rat)} {k : Nat}, RwC dc ps → ps.length ≤ 1000 → (∀ p ∈ ps, SzL KZ p ∧ p.length * (2 * KZ + 1) ≤ 40000000000) → wtZ KZ ps k l = some r → (G).it Qaz (Qcn dc l) = some (r.map fun q => [enc2 q])
def lp7 : List Rat := [2, -3, 0, 1]
def lc7 : List (List Rat) := [[-2, 1, 1], [1, 2], [9 / 4]]
theorem l7_de : deP lp7 = [-3, 0, 3] := by kernel_rfl
theorem l7_g : gcdP lp7 [-3, 0, 3] = [-1, 1] := by kernel_rfl
theorem l7_q : quoP lp7 [-1, 1] = [-2, 1, 1] := by kernel_rfl
theorem l7_f : frP lp7 = [-2, 1, 1] := by kernel_rfl
theorem l7_c : chP lp7 = lc7 := by kernel_rfl
theorem l7_b : bdR lp7 = 4 := by kernel_rfl
theorem l7_n1 : cnt lc7 (-3) 3 = 2 := by kernel_rfl
theorem l7_n2 : cnt lc7 (-2) 1 = 1 := by kernel_rfl
theorem l7_n3 : cnt lc7 1 5 = 0 := by kernel_rfl
theorem l7_i0 : cnt lc7 (-4) 4 = 2 := by kernel_rfl
theorem l7_i1 : cnt lc7 (-4) 0 = 1 := by kernel_rfl
theorem l7_i2 : cnt lc7 0 4 = 1 := by kernel_rfl
theorem l7_m : mid (-4) 4 = 0 := by kernel_rfl
theorem l7_dv : dvB [-1, 1] (dvN lp7 [-1, 1]) lp7 = true := by kernel_rfl
theorem l7_gb : gcB 4 (mnP lp7) (mnP [-3, 0, 3]) = true := by kernel_rfl
theorem l7_sp : smL lp7 = true := by kernel_rfl
theorem l7_s1 : smL [-3, 0, 3] = true := by kernel_rfl
theorem Qsh : smL [-1, 1] = true := by kernel_rfl
theorem Qsb : smL [-2, 1, 1] = true := by kernel_rfl
theorem l7_s4 : smL [1, 2] = true := by kernel_rfl
theorem l7_s5 : smL [9 / 4] = true := by kernel_rfl
theorem l7_r1 : remP [-2, 1, 1] [1, 2] = [-9 / 4] := by kernel_rfl
theorem l7_r2 : remP [1, 2] [9 / 4] = [] := by kernel_rfl
theorem l7_sc : scP [-9 / 4] (-1) = [9 / 4] := by kernel_rfl
theorem l7_d2 : deP [-2, 1, 1] = [1, 2] := by kernel_rfl
theorem sm7 {l : List Rat} (h : smL l = true) : SzL 7000 l := (QbN h).mono (by omega)
theorem sz_i {n : Int} (h : I64 n) : sz ((n : Int) : Rat) ≤ 3 := sz_int h
theorem l7_ch : ChOk 800000 lp7.length (frP lp7) (deP (frP lp7)) := by
 rw [l7_f, l7_d2]
 refine Qps (sm7 Qsb) (sm7 l7_s4) (by simp) (by simp) (trm2 (by decide)) ?_
 rw [l7_r1, l7_sc]
 refine Qps (sm7 l7_s4) (sm7 l7_s5) (by simp) (by simp) (trm1 (by decide +kernel)) ?_
 rw [l7_r2]
 exact ch_done _ _ _
theorem l7_hs {K : Nat} (hK : 1 ≤ K) (hK2 : K ≤ 1000000000) : ∀ q ∈ lc7, SzL K q ∧ q.length * (2 * K + 1) ≤ 40000000000 := by
 intro q hq
 have h3 : q.length ≤ 3 := by
  rcases List.mem_cons.1 hq with rfl | hq
  ·simp
  ·rcases List.mem_cons.1 hq with rfl | hq
   ·simp
   ·rw [List.mem_singleton.1 hq]; simp
 have h4 : q.length * (2 * K + 1) ≤ 3 * (2 * K + 1) := Nat.mul_le_mul_right _ h3
 refine ⟨?_, by omega⟩
 rcases List.mem_cons.1 hq with rfl | hq
 ·exact (QbN Qsb).mono hK
 ·rcases List.mem_cons.1 hq with rfl | hq
  ·exact (QbN l7_s4).mono hK
  ·rw [List.mem_singleton.1 hq]; exact (QbN l7_s5).mono hK
theorem z_m4 : sz (-4 : Rat) ≤ 3 := sz_i (n := -4) ⟨by omega, by omega⟩
theorem z_4 : sz (4 : Rat) ≤ 3 := sz_i (n := 4) ⟨by omega, by omega⟩
theorem z_0 : sz (0 : Rat) ≤ 3 := by rw [QjB]; omega
theorem l7_w1 : wtZ KZ lc7 1 (-4, 0) = some [(-4, 0)] := by
 have k : 3 ≤ KZ := by unfold KZ; omega
 have a := z_m4
 have c := z_0
 rw [wtZ]
 dsimp only
 rw [if_pos ⟨by omega, by omega⟩, l7_i1]
 rfl
theorem l7_w2 : wtZ KZ lc7 1 (0, 4) = some [(0, 4)] := by
 have k : 3 ≤ KZ := by unfold KZ; omega
 have b := z_4
 have c := z_0
 rw [wtZ]
 dsimp only
 rw [if_pos ⟨by omega, by omega⟩, l7_i2]
 rfl
theorem l7_wt : wtZ KZ lc7 2 (-4, 4) = some [(-4, 0), (0, 4)] := by
 have k : 3 ≤ KZ := by unfold KZ; omega
 have a := z_m4
 have b := z_4
 rw [wtZ]
 dsimp only
 rw [if_pos ⟨by omega, by omega⟩, l7_i0, if_neg (by decide), if_neg (by decide), l7_m, l7_w1, l7_w2]
 rfl
section
variable [Its]
theorem of7_p : Qah G Qbv [iv 1, .row 4 [iv 2, iv (-3), iv 0, iv 1]] = some (.d (rowR lp7)) := callX_some.2 ⟨60, by kernel_rfl⟩
theorem of7_1 : Qah G Qbv [iv 1, .row 3 [iv (-2), iv 1, iv 1]] = some (.d (rowR [-2, 1, 1])) := callX_some.2 ⟨60, by kernel_rfl⟩
theorem of7_2 : Qah G Qbv [iv 1, .row 2 [iv 1, iv 2]] = some (.d (rowR [1, 2])) := callX_some.2 ⟨60, by kernel_rfl⟩
theorem of7_3 : Qah G Qbv [iv 4, .row 1 [iv 9]] = some (.d (rowR [9 / 4])) := callX_some.2 ⟨60, by kernel_rfl⟩
theorem l7_free : ∃ d', RwR d' (frP lp7) ∧ Qah G QbB [rowR lp7] = some (.d d') := by
 have h := Qeg (K := 1) (RwR.row lp7) (by decide) (by omega) (by omega) (QbN l7_sp)
 rw [l7_de, l7_g, l7_q] at h
 exact h (QbN l7_s1) (Qn4 l7_gb) (by simp) (QbN Qsh) (QjS l7_dv) (QbN Qsb)
theorem QmA : ∃ ds, Dls ds (chP lp7) ∧ Qah G QbW [rowR lp7] = some (.own 1 ds.length ds) :=
 Qgy (K := 800000) (by decide) (by decide) l7_free (by rw [l7_f]; simp) (by rw [l7_f]; simp) (by rw [l7_f]; exact (QbN Qsb).mono (by omega)) l7_ch (by omega) (by omega)
theorem QmS [ItsB] {lo hi : Rat} (h1 : sz lo ≤ 3) (h2 : sz hi ≤ 3) : Qah G Qbq [rowR lp7, encR lo, encR hi] = some (.d (iv (cnt lc7 lo hi))) := by
 have h := QfJ (K := 3) QmA (lo := lo) (hi := hi) (by rw [l7_c]; decide) (by rw [l7_c]; exact l7_hs (by omega) (by omega)) h1 h2 (by omega)
 rw [l7_c] at h
 exact h
theorem l7_isol [ItsZ] : Qah G Qfb [rowR lp7] = some (.d (.tup [rowA [(-4, 0), (0, 4)], iv 0])) := by
 have hB := Qlm (K := 1) (RwR.row lp7) (by decide) (QbN l7_sp) (by omega) (by omega)
 rw [l7_b] at hB
 exact QoF (b := 4) (r := [(-4, 0), (0, 4)]) (RwR.row lp7) (by decide) (by decide) hB QmA (fun ds hd => ItsZ.zer (k := 2) hd.rwc (by rw [l7_c]; decide) (by rw [l7_c]; exact l7_hs (by unfold KZ; omega) (by unfold KZ; omega)) (by rw [l7_c]; exact l7_wt)) (by simp)
end
end Go.AM

/- law07.lives, the end. -/
namespace Go.AM
open Go Go.RowKit Go.Proofs
theorem l8_e1 : evR lp7 (-3) = -16 := by kernel_rfl
theorem l8_e2 : evR lp7 (-2) = 0 := by kernel_rfl
theorem l8_e3 : evR lp7 9 = 704 := by kernel_rfl
theorem l8_m1 : mid (-2) 9 = 7 / 2 := by kernel_rfl
theorem l8_m2 : mid (-2) (7 / 2) = 3 / 4 := by kernel_rfl
theorem l8_m3 : mid (-2) (3 / 4) = -5 / 8 := by kernel_rfl
theorem l8_m4 : mid (-2) (-5 / 8) = -21 / 16 := by kernel_rfl
theorem l8_v1 : ¬ evR lp7 (7 / 2) < 0 := by decide +kernel
theorem l8_v2 : ¬ evR lp7 (3 / 4) < 0 := by decide +kernel
theorem l8_v3 : ¬ evR lp7 (-5 / 8) < 0 := by decide +kernel
theorem l8_v4 : ¬ evR lp7 (-21 / 16) < 0 := by decide +kernel
theorem l8_q1 : quoP lp7 [-2, 1, 1] = [-1, 1] := by kernel_rfl
theorem l8_d1 : dvB [-2, 1, 1] (dvN lp7 [-2, 1, 1]) lp7 = true := by kernel_rfl
theorem l8_de : deP [-1, 1] = [1] := by kernel_rfl
theorem l8_g : gcdP [-1, 1] [1] = [1] := by kernel_rfl
theorem l8_gb : gcB 2 (mnP [-1, 1]) (mnP [1]) = true := by kernel_rfl
theorem l8_q2 : quoP [-1, 1] [1] = [-1, 1] := by kernel_rfl
theorem l8_d2 : dvB [1] (dvN [-1, 1] [1]) [-1, 1] = true := by kernel_rfl
theorem l8_f2 : frP [-1, 1] = [-1, 1] := by kernel_rfl
theorem l8_g2 : gcdP [-2, 1, 1] [-1, 1] = [-1, 1] := by kernel_rfl
theorem l8_gb2 : gcB 3 (mnP [-2, 1, 1]) (mnP [-1, 1]) = true := by kernel_rfl
theorem l8_q3 : quoP [-2, 1, 1] [-1, 1] = [2, 1] := by kernel_rfl
theorem l8_d3 : dvB [-1, 1] (dvN [-2, 1, 1] [-1, 1]) [-2, 1, 1] = true := by kernel_rfl
theorem l8_mu : muP [1] [2, 1] = [2, 1] := by kernel_rfl
theorem l8_q4 : quoP [-1, 1] [-1, 1] = [1] := by kernel_rfl
theorem l8_d4 : dvB [-1, 1] (dvN [-1, 1] [-1, 1]) [-1, 1] = true := by kernel_rfl
theorem Qpl : smL [1] = true := by kernel_rfl
theorem Qr3 : smL [2, 1] = true := by kernel_rfl
theorem l8_de3 : deP [2, 1] = [1] := by kernel_rfl
theorem l8_g3 : gcdP [2, 1] [1] = [1] := by kernel_rfl
theorem l8_gb3 : gcB 2 (mnP [2, 1]) (mnP [1]) = true := by kernel_rfl
theorem l8_q5 : quoP [2, 1] [1] = [2, 1] := by kernel_rfl
theorem l8_d5 : dvB [1] (dvN [2, 1] [1]) [2, 1] = true := by kernel_rfl
theorem l8_f3 : frP [2, 1] = [2, 1] := by kernel_rfl
theorem l8_c3 : chP [2, 1] = [[2, 1], [1]] := by kernel_rfl
theorem l8_r3 : remP [2, 1] [1] = [] := by kernel_rfl
theorem l8_n : cnt [[2, 1], [1]] (-2) 9 = 0 := by kernel_rfl
theorem l8_ch : ChOk 800000 ([2, 1] : List Rat).length (frP [2, 1]) (deP (frP [2, 1])) := by
 rw [l8_f3, l8_de3]
 refine Qps (sm7 Qr3) (sm7 Qpl) (by simp) (by simp) (trm1 (by decide)) ?_
 rw [l8_r3]
 exact ch_done _ _ _
theorem l8_hs : ∀ q ∈ ([[2, 1], [1]] : List (List Rat)), SzL 3 q ∧ q.length * (2 * 3 + 1) ≤ 40000000000 := by
 intro q hq
 rcases List.mem_cons.1 hq with rfl | hq
 ·exact ⟨(QbN Qr3).mono (by omega), by simp⟩
 ·rw [List.mem_singleton.1 hq]; exact ⟨(QbN Qpl).mono (by omega), by simp⟩
theorem z_m2 : sz (-2 : Rat) ≤ 3 := sz_i (n := -2) ⟨by omega, by omega⟩
theorem z_m3 : sz (-3 : Rat) ≤ 3 := sz_i (n := -3) ⟨by omega, by omega⟩
theorem z_3 : sz (3 : Rat) ≤ 3 := sz_i (n := 3) ⟨by omega, by omega⟩
theorem z_1 : sz (1 : Rat) ≤ 3 := sz_i (n := 1) ⟨by omega, by omega⟩
theorem z_5 : sz (5 : Rat) ≤ 3 := sz_i (n := 5) ⟨by omega, by omega⟩
theorem z_9 : sz (9 : Rat) ≤ 3 := sz_i (n := 9) ⟨by omega, by omega⟩
theorem rep4L (a : D) : rep 4 [a] = [a, a, a, a] := rfl
theorem rep3L (a : D) : rep 3 [a] = [a, a, a] := rfl
theorem rep2L (a : D) : rep 2 [a] = [a, a] := rfl
theorem rep1L (a : D) : rep 1 [a] = [a] := rfl
theorem l8_sm : ∀ q ∈ lc7, SzL 100000000000 q ∧ q.length ≤ 1000 := by
 intro q hq
 refine ⟨(l7_hs (K := 1) (by omega) (by omega) q hq).1.mono (by omega), ?_⟩
 rcases List.mem_cons.1 hq with rfl | hq
 ·simp
 ·rcases List.mem_cons.1 hq with rfl | hq
  ·simp
  ·rw [List.mem_singleton.1 hq]; simp
section
variable [Its]
theorem l8_odd : ∃ d', RwR d' [2, 1] ∧ Qah G Qcr [rowR lp7] = some (.d d') := by
 have P := RwR.row lp7
 obtain ⟨a1, h1, g1⟩ := l7_free
 rw [l7_f] at h1
 obtain ⟨a2, a2', h2, _, g2⟩ := QdX (K := 1) P h1 (by decide) (by simp) (QbN Qsb) (by omega) (by omega) (QjS l8_d1)
 rw [l8_q1] at h2
 have hf := Qeg (K := 1) h2 (by simp) (by omega) (by omega) (QbN Qsh)
 rw [l8_de, l8_g, l8_q2, l8_f2] at hf
 obtain ⟨a3, h3, g3⟩ := hf (QbN Qpl) (Qn4 l8_gb) (by simp) (QbN Qpl) (QjS l8_d2) (QbN Qsh)
 obtain ⟨a4, h4, g4⟩ := QhF (K := 1) h1 h3 (by simp) (by simp) (by omega) (by omega) (QbN Qsb) (QbN Qsh) (Qn4 l8_gb2)
 rw [l8_g2] at h4
 obtain ⟨a5, a5', h5, _, g5⟩ := QdX (K := 1) h1 h4 (by simp) (by simp) (QbN Qsh) (by omega) (by omega) (QjS l8_d3)
 rw [l8_q3] at h5
 obtain ⟨a6, h6, g6⟩ := Qhz (K := 1) (RwR.row [1]) h5 (QbN Qpl) (QbN Qr3) (by omega) (by simp)
 rw [l8_mu] at h6
 obtain ⟨a7, a7', h7, _, g7⟩ := QdX (K := 1) h2 h3 (by simp) (by simp) (QbN Qsh) (by omega) (by omega) (QjS l8_d4)
 rw [l8_q4] at h7
 have hx := odg_go (d1 := rowR [1]) P (by decide) g1 g2 g3 g4 g5 g6 g7
 exact ⟨a6, h6, odg_end (by rw [Qak, hx, Option.bind_some, if_pos rfl, Qak, odg_stop h7 (by simp)]; rfl)⟩
theorem l8_free {d : D} (h : RwR d [2, 1]) : ∃ d', RwR d' (frP [2, 1]) ∧ Qah G QbB [d] = some (.d d') := by
 have hf := Qeg (K := 1) h (by simp) (by omega) (by omega) (QbN Qr3)
 rw [l8_de3, l8_g3, l8_q5] at hf
 exact hf (QbN Qpl) (Qn4 l8_gb3) (by simp) (QbN Qpl) (QjS l8_d5) (QbN Qr3)
theorem l8_low [ItsB] : Qah G QaZ [rowR lp7, encR (-3), encR 0] = some (.d (bv false)) :=
 QlN (K := 300) (RwR.row lp7) ((QbN l7_sp).mono (by omega)) (by decide) (by omega) (by decide) (by decide) (Nat.le_trans z_m3 (by omega)) (Nat.le_trans z_0 (by omega)) (by rw [l8_e1]; decide)
theorem l8_stay [ItsB] : Qah G QaZ [rowR lp7, encR (-2), encR 9] = some (.d (bv true)) := by
 obtain ⟨dg, h, g⟩ := l8_odd
 have P := RwR.row lp7
 have c := QfJ (K := 3) (Qgy (K := 800000) (by simp) (by simp) (l8_free h) (by rw [l8_f3]; simp) (by rw [l8_f3]; simp) (by rw [l8_f3]; exact (QbN Qr3).mono (by omega)) l8_ch (by omega) (by omega)) (lo := -2) (hi := 9) (by rw [l8_c3]; simp) (by rw [l8_c3]; exact l8_hs) z_m2 z_9 (by omega)
 rw [l8_c3, l8_n] at c
 have sp : SzL 300 lp7 := (QbN l7_sp).mono (by omega)
 have z2 : sz (-2 : Rat) ≤ 100 := Nat.le_trans z_m2 (by omega)
 have z9 : sz (9 : Rat) ≤ 3 := z_9
 have k1 := Qn0 z_m2 z_9
 rw [l8_m1] at k1
 have k2 := Qn0 z_m2 k1
 rw [l8_m2] at k2
 have k3 := Qn0 z_m2 k2
 rw [l8_m3] at k3
 have r0 := QoA P sp (by decide) (by omega) z2 (x := 9) (by omega) (by omega) (n := 4) (i := 0) (by omega) (by omega)
 have r1 := QoA P sp (by decide) (by omega) z2 (x := 7 / 2) (by omega) (by omega) (n := 4) (i := 1) (by omega) (by omega)
 have r2 := QoA P sp (by decide) (by omega) z2 (x := 3 / 4) (by omega) (by omega) (n := 4) (i := 2) (by omega) (by omega)
 have r3 := QoA P sp (by decide) (by omega) z2 (x := -5 / 8) (by omega) (by omega) (n := 4) (i := 3) (by omega) (by omega)
 rw [l8_m1, if_neg l8_v1] at r0
 rw [l8_m2, if_neg l8_v2] at r1
 rw [l8_m3, if_neg l8_v3] at r2
 rw [l8_m4, if_neg l8_v4] at r3
 refine Qlw (K := 300) P sp (by decide) (by omega) (by decide) (by decide) (Nat.le_trans z_m2 (by omega)) (Nat.le_trans z_9 (by omega)) (by rw [l8_e2]; exact Rat.le_refl) (by rw [l8_e3]; decide) g c ?_
 show X G (.loop Qa9) (QeX (rowR lp7) (-2) 9 ((4 : Nat) : Int) ((0 : Nat) : Int)) = _
 rw [Qak, r0, Option.bind_some, if_pos rfl, Qak, r1, Option.bind_some, if_pos rfl, Qak, r2, Option.bind_some, if_pos rfl, Qak, r3, Option.bind_some, if_pos rfl, Qak, Qqc]
 rfl
theorem lives7 [ItsB] [ItsZ] : Qah G Qfy [] = some (.d (bv true)) := by
 rw [Qad (cf := Qef) rfl]
 have f0 := of7_p
 have f1 := of7_1
 have f2 := of7_2
 have f3 := of7_3
 have nm3 := QdP (n := -3) ⟨by omega, by omega⟩
 have n3 := QdP (n := 3) ⟨by omega, by omega⟩
 have nm2 := QdP (n := -2) ⟨by omega, by omega⟩
 have n1 := QdP (n := 1) ⟨by omega, by omega⟩
 have n5 := QdP (n := 5) ⟨by omega, by omega⟩
 have n4 := QdP (n := 4) ⟨by omega, by omega⟩
 have n9 := QdP (n := 9) ⟨by omega, by omega⟩
 have n0 := QdP (n := 0) ⟨by omega, by omega⟩
 rw [show (((-3 : Int)) : Rat) = -3 from rfl] at nm3
 rw [show (((3 : Int)) : Rat) = 3 from rfl] at n3
 rw [show (((-2 : Int)) : Rat) = -2 from rfl] at nm2
 rw [show (((1 : Int)) : Rat) = 1 from rfl] at n1
 rw [show (((5 : Int)) : Rat) = 5 from rfl] at n5
 rw [show (((4 : Int)) : Rat) = 4 from rfl] at n4
 rw [show (((9 : Int)) : Rat) = 9 from rfl] at n9
 rw [show (((0 : Int)) : Rat) = 0 from rfl] at n0
 have c1 := QmS z_m3 z_3
 have c2 := QmS z_m2 z_1
 have c3 := QmS z_1 z_5
 rw [l7_n1] at c1
 rw [l7_n2] at c2
 rw [l7_n3] at c3
 have is := l7_isol
 obtain ⟨ds, hd, gc⟩ := QmA
 have gb := Qlm (K := 1) (RwR.row lp7) (by decide) (QbN l7_sp) (by omega) (by omega)
 rw [l7_b] at gb
 have hL : RwC (.row 3 [rowR [-2, 1, 1], rowR [1, 2], rowR [9 / 4]]) (chP lp7) := by
  rw [l7_c]
  refine ⟨[rowR [-2, 1, 1], rowR [1, 2], rowR [9 / 4]], rfl, fun i hi => ?_, .inl rfl⟩
  match i, hi with
  | 0, _ => exact RwR.row _
  | 1, _ => exact RwR.row _
  | 2, _ => exact RwR.row _
 have gs := Qr8 hd.rwc hL (by rw [l7_c]; decide) (by rw [l7_c]; exact l8_sm)
 have g5 := s5_refl (a := 4) (Nat.le_trans z_4 (by omega))
 have st := l8_stay
 have sl := l8_low
 have t2 : ((2 : Int) == 2) = true := rfl
 have t2n : (((2 : Nat) : Int) == 2) = true := rfl
 have t1 : ((1 : Int) == 1) = true := rfl
 have t0 : ((0 : Int) == 0) = true := rfl
 have hl : lenA (.d (rowA [(-4, 0), (0, 4)])) = some 2 := rfl
 have k1 : Qce (.d (rowR [-2, 1, 1])) = some [rowR [-2, 1, 1]] := rfl
 have k2 : Qce (.d (rowR [1, 2])) = some [rowR [1, 2]] := rfl
 have k3 : Qce (.d (rowR [9 / 4])) = some [rowR [9 / 4]] := rfl
 clear hL hd
 generalize rowA [(-4, 0), (0, 4)] = ra at *
 generalize rowR lp7 = p at *
 generalize rowR [-2, 1, 1] = p1 at *
 generalize rowR [1, 2] = p2 at *
 generalize rowR [9 / 4] = p3 at *
 generalize (-3 : Rat) = rm3 at *
 generalize (3 : Rat) = r3 at *
 generalize (-2 : Rat) = rm2 at *
 generalize (1 : Rat) = r1 at *
 generalize (5 : Rat) = r5 at *
 generalize (4 : Rat) = r4 at *
 generalize (9 : Rat) = r9 at *
 generalize (0 : Rat) = r0 at *
 simp only [encR, iv, bv] at f0 f1 f2 f3 nm3 n3 nm2 n1 n5 n4 n9 n0 c1 c2 c3 is gb gs g5 st sl
 simp -implicitDefEqProofs (maxSteps:=9^8) only [Qef, f0, f1, f2, f3, nm3, n3, nm2, n1, n5, n4, n9, n0, c1, c2, c3, is, gc, gb, gs, g5, st, sl, t2, t2n, t1, t0, hl, k1, k2, k3, rep4L, rep3L, rep2L, rep1L, toDs, allD, go_sem, iv, bv, reduceCtorEq, ↓reduceIte, Nat.reduceEqDiff]
end
end Go.AM

/- Chains of polynomials of at most the fifth degree: sizes. sturm.Count. -/
namespace Go.AM
open Go Go.RowKit
theorem H1.m1 : H1 0 0 (-1) := H1.one.neg
theorem sc_HL {d h : Nat} {l : List Rat} (H : HL d h l) : HL d h (scP l (-1)) := (H.sc H1.m1).mono (by omega) (by omega)
theorem ch_pot {K : Nat} : ∀ (n s : Nat) (a b : List Rat), HL s s a → HL s s b → Trm b → b.length < n → b.length ≤ 90 → (s + 1) * (dvN a b + 1) * 3 ^ b.length ≤ K → ChOk K n a b ∧ ∀ q ∈ chL n a b, SzL K q ∧ q.length ≤ b.length
 | 0, _, _, b, _, _, _, h, _, _ => by omega
 | n + 1, s, a, b, Ha, Hb, tb, hn, h90, hK => by
  have h3 : 1 ≤ 3 ^ b.length := Nat.one_le_pow _ _ (by decide)
  have hs : s + 1 ≤ K := Nat.le_trans (Nat.le_trans (Nat.le_mul_of_pos_right (s + 1) (by omega)) (Nat.le_mul_of_pos_right _ h3)) hK
  by_cases hb : b = []
  ·subst hb
   refine ⟨.inl rfl, ?_⟩
   rw [chL, if_pos rfl]
   exact fun q hq => by simp at hq
  ·have hlb : 0 < b.length := List.length_pos_iff.2 hb
   obtain ⟨_, q2, _, _⟩ := Qjv (p := a) tb hb
   have h33 : 3 * ((s + 1) * (dvN a b + 1)) ≤ K := by
    refine Nat.le_trans ?_ hK
    rw [Nat.mul_comm 3]
    refine Nat.mul_le_mul_left _ ?_
    obtain ⟨k, hk⟩ : ∃ k, b.length = k + 1 := ⟨b.length - 1, by omega⟩
    rw [hk, Nat.pow_succ]
    have : 1 ≤ 3 ^ k := Nat.one_le_pow _ _ (by decide)
    omega
   have hr := QnD (remP a b) (-1)
   have h3' : ((s + 1) * (dvN a b + 1)) * (dvN b (scP (remP a b) (-1)) + 1) * 3 ^ (scP (remP a b) (-1)).length ≤ K := by
    refine Nat.le_trans ?_ hK
    rw [Nat.mul_assoc]
    refine Nat.mul_le_mul_left _ (Nat.le_trans (Nat.le_of_eq ?_) (QiW (a := (scP (remP a b) (-1)).length) (b := b.length) (by omega)))
    congr 1
    unfold dvN; omega
   have he : (s + 1) * (dvN a b + 1) = s * dvN a b + dvN a b + s + 1 := by rw [Nat.mul_add, Nat.add_mul, Nat.mul_one, Nat.one_mul]; omega
   have he2 : dvN a b * (s + 1) = s * dvN a b + dvN a b := by rw [Nat.mul_add, Nat.mul_one, Nat.mul_comm]
   have he3 : dvN a b * s = s * dvN a b := Nat.mul_comm _ _
   obtain ⟨g1, g2, _⟩ := Qht (K := K) Ha Hb tb (by rw [he2, he3]; omega)
   have hsz := g2.sz
   have g3 := sc_HL g2
   have e1 : s + dvN a b * (s + 1) + 1 = (s + 1) * (dvN a b + 1) := by omega
   obtain ⟨i1, i2⟩ := ch_pot (K := K) n (s + dvN a b * (s + 1)) b (scP (remP a b) (-1)) (Hb.mono (by omega) (by omega)) (g3.mono (by omega) (by omega)) (Qg6 _ _) (by omega) (by omega) (by rw [e1]; exact h3')
   refine ⟨.inr ⟨tb, h90, Hb.mono (by omega) (by omega), Hb.sz.mono (by omega), g1, hsz.mono (by omega), i1⟩, ?_⟩
   rw [chL, if_neg hb]
   intro q hq
   rcases List.mem_cons.1 hq with rfl | hq
   ·exact ⟨Hb.sz.mono (by omega), Nat.le_refl _⟩
   ·exact ⟨(i2 q hq).1, by have := (i2 q hq).2; omega⟩
theorem gz7 {N d s e K : Nat} {a b : List Rat} (Ha : HL d s a) (Hb : HL e s b) (ta : Trm a) (tb : Trm b) (na : a.length ≤ N) (nb : b.length ≤ N) (hK : (s + 1) * 3 ^ (N + 1) ≤ K) : gcG K (b.length + 1) (mnP a) (mnP b) ∧ gcH K (b.length + 1) (mnP a) (mnP b) ∧ HL K K (gcdP a b) := by
 have l1 := Qdp ta
 have l2 := Qdp tb
 have h0 := QiW (a := (mnP b).length) (b := N + 1) (by omega)
 have h1 : dvN (mnP a) (mnP b) + 1 ≤ N + 1 + 2 - (mnP b).length := by unfold dvN; omega
 have h2 : (s + 1) * (dvN (mnP a) (mnP b) + 1) * 3 ^ (mnP b).length ≤ K := by
  rw [Nat.mul_assoc]
  exact Nat.le_trans (Nat.mul_le_mul_left _ (Nat.le_trans (Nat.mul_le_mul_right _ h1) h0)) hK
 exact Qra (K := K) (b.length + 1) s (mnP a) (mnP b) (Qil Ha ta) (Qil Hb tb) (QeW _) (by omega) h2
theorem Qq4 {a b : List Rat} {M : Nat} (ha : a.length ≤ M) (hb : b.length ≤ M) : (gcdP a b).length ≤ M := by
 have go : ∀ (n : Nat) (a b : List Rat), a.length ≤ M → b.length ≤ M → (gcP n a b).length ≤ M := by
  intro n
  induction n with
  | zero => intro a b ha hb; exact ha
  | succ n ih =>
   intro a b ha hb
   rw [gcP]
   split
   ·exact ha
   ·exact ih b _ hb (Nat.le_trans (Qf8 _) (Nat.le_trans (Qky a b) ha))
 exact go _ _ _ (Nat.le_trans (Qf8 a) ha) (Nat.le_trans (Qf8 b) hb)
theorem Qnb : frP [] = [] := by
 unfold frP
 have : quoP [] (gcdP [] (deP [])) = [] := if_pos (show gcdP [] (deP []) = [] from gcd_nil)
 rw [this]
 exact if_pos rfl
theorem quo_17 (p : List Rat) (tp : Trm p) : quoP p [1] = p := by
 obtain ⟨_, h⟩ := Qla (q := [1]) Qd1 (by simp) (Dv.one p)
 exact Qc3 (Qf7 _ _) tp fun x => by rw [h, Qei, Rat.mul_one]
theorem fr_two {p : List Rat} (H : HL 120 120 p) (tp : Trm p) (np : p.length ≤ 6) : HL 2200000 2200000 (quoP p (gcdP p (deP p))) ∧ dvG 2200000 (gcdP p (deP p)) (dvN p (gcdP p (deP p))) p ∧ (HL 120 120 (frP p) ∨ (frP p).length ≤ 5) := by
 have hBB : BB = 1000000000 := rfl
 have Hd := H.de (by omega)
 have nd := Qon p
 obtain ⟨_, _, Hg⟩ := gz7 (N := 6) (K := 268000) (H.mono (Nat.le_refl _) (show 120 ≤ 121 by omega)) Hd tp (Qbf p) np (by omega) (by decide)
 have tg : Trm (gcdP p (deP p)) := QcO
 have hm : dvN p (gcdP p (deP p)) ≤ 7 := by unfold dvN; omega
 have h1 : dvN p (gcdP p (deP p)) * 268000 ≤ 7 * 268000 := Nat.mul_le_mul_right _ hm
 have h2 : dvN p (gcdP p (deP p)) * (268000 + 1) ≤ 7 * (268000 + 1) := Nat.mul_le_mul_right _ hm
 obtain ⟨x, _, z⟩ := Qht (K := 2200000) H Hg tg (by omega)
 refine ⟨z.mono (by omega) (by omega), x, ?_⟩
 by_cases p0 : p = []
 ·right; rw [p0, Qnb]; simp
 have ng := QnT tp (Qbf p) (.inl p0)
 have hl := List.length_pos_iff.2 ng
 by_cases l1 : (gcdP p (deP p)).length = 1
 ·left
  have e : gcdP p (deP p) = [1] := Qii (Qmk tp (Qbf p)) l1
  unfold frP
  rw [e, quo_17 p tp]
  exact Qil H tp
 ·right
  unfold frP
  have k1 := Qf8 (quoP p (gcdP p (deP p)))
  have k2 := QpY p (gcdP p (deP p))
  unfold dvN at k2
  omega
theorem fr_HL {p : List Rat} (H : HL 120 120 p) (tp : Trm p) (np : p.length ≤ 6) : HL 2200000 2200000 (frP p) ∧ (frP p).length ≤ 6 := by
 obtain ⟨a, _, _⟩ := fr_two H tp np
 refine ⟨Qil a (Qf7 _ _), ?_⟩
 by_cases p0 : p = []
 ·rw [p0, Qnb]; simp
 ·exact Nat.le_trans (Qdg (QdL p) tp p0 (Qir tp p0)) np
theorem chain6 {p : List Rat} (H : HL 120 120 p) (tp : Trm p) (np : p.length ≤ 6) : ChOk 600000000 p.length (frP p) (deP (frP p)) ∧ ∀ q ∈ chP p, SzL 600000000 q ∧ q.length ≤ 6 := by
 have hBB : BB = 1000000000 := rfl
 obtain ⟨F, nf⟩ := fr_HL H tp np
 obtain ⟨_, _, F2⟩ := fr_two H tp np
 by_cases p0 : p = []
 ·subst p0
  rw [Qnb]
  exact ⟨rfl, fun q hq => by rw [chP, if_pos rfl] at hq; simp at hq⟩
 have nd := Qek (QdL p)
 have pl := List.length_pos_iff.2 p0
 have fl := Qdg (QdL p) tp p0 (Qir tp p0)
 have fpos := List.length_pos_iff.2 (QfQ tp p0)
 have key : ∀ s M, HL s s (frP p) → HL s s (deP (frP p)) → (frP p).length ≤ M → (s + 1) * 3 ^ M ≤ 600000000 → ChOk 600000000 p.length (frP p) (deP (frP p)) ∧ ∀ q ∈ chL p.length (frP p) (deP (frP p)), SzL 600000000 q ∧ q.length ≤ (deP (frP p)).length := by
  intro s M h1 h2 hM hK
  refine ch_pot p.length s (frP p) (deP (frP p)) h1 h2 (Qbf _) (by omega) (by omega) ?_
  rw [Nat.mul_assoc]
  refine Nat.le_trans (Nat.mul_le_mul_left _ (Nat.le_trans (Nat.mul_le_mul_right _ ?_) (QiW (a := (deP (frP p)).length) (b := M) (by omega)))) hK
  unfold dvN; omega
 have k : ChOk 600000000 p.length (frP p) (deP (frP p)) ∧ ∀ q ∈ chL p.length (frP p) (deP (frP p)), SzL 600000000 q ∧ q.length ≤ (deP (frP p)).length := by
  rcases F2 with F2 | F2
  ·exact key 121 6 (F2.mono (by omega) (by omega)) ((F2.de (by omega)).mono (by omega) (by omega)) nf (by decide)
  ·exact key 2200001 5 (F.mono (by omega) (by omega)) ((F.de (by omega)).mono (by omega) (by omega)) F2 (by decide)
 refine ⟨k.1, fun q hq => ?_⟩
 rw [chP, if_neg p0] at hq
 rcases List.mem_cons.1 hq with rfl | hq
 ·exact ⟨F.sz.mono (by omega), nf⟩
 ·exact ⟨(k.2 q hq).1, by have := (k.2 q hq).2; omega⟩
theorem Qpg : ∀ (n : Nat) (a b : List Rat), (chL n a b).length ≤ n
 | 0, _, _ => Nat.le_refl _
 | n + 1, a, b => by
  rw [chL]
  split
  ·simp
  ·rw [List.length_cons]; have := Qpg n b (scP (remP a b) (-1)); omega
theorem chP_len {p : List Rat} (np : p.length ≤ 6) : (chP p).length ≤ 7 := by
 unfold chP
 split
 ·simp
 ·rw [List.length_cons]; have := Qpg p.length (frP p) (deP (frP p)); omega
theorem hs6 {p : List Rat} (H : HL 120 120 p) (tp : Trm p) (np : p.length ≤ 6) : ∀ q ∈ chP p, SzL 600000000 q ∧ q.length * (2 * 600000000 + 1) ≤ 40000000000 := fun q hq => by
 obtain ⟨a, b⟩ := (chain6 H tp np).2 q hq
 exact ⟨a, Nat.le_trans (Nat.mul_le_mul_right _ b) (by decide)⟩
section
variable [Its] {dp : D} {p : List Rat}
theorem free6 (hp : RwR dp p) (H : HL 120 120 p) (tp : Trm p) (np : p.length ≤ 6) : ∃ d', RwR d' (frP p) ∧ Qah G QbB [dp] = some (.d d') := by
 have hBB : BB = 1000000000 := rfl
 have Hd := H.de (by omega)
 have nd := Qon p
 obtain ⟨g1, _, Hg⟩ := gz7 (N := 6) (K := 268000) (H.mono (Nat.le_refl _) (show 120 ≤ 121 by omega)) Hd tp (Qbf p) np (by omega) (by decide)
 obtain ⟨z, x, _⟩ := fr_two H tp np
 have gl := Qq4 (M := 6) np (show (deP p).length ≤ 6 by omega)
 exact Qeg hp (by omega) (K := 2200001) (by omega) (by omega) (H.sz.mono (by omega)) (Hd.sz.mono (by omega)) (Qkt (by omega) _ _ _ g1) (by omega) (Hg.sz.mono (by omega)) (QhB (by omega) _ _ x) (z.sz.mono (by omega))
theorem sChain6 (hp : RwR dp p) (H : HL 120 120 p) (tp : Trm p) (np : p.length ≤ 6) (p0 : p ≠ []) : ∃ ds, Dls ds (chP p) ∧ Qah G QbW [dp] = some (.own 1 ds.length ds) := by
 obtain ⟨F, nf⟩ := fr_HL H tp np
 exact Qgy (K := 600000000) p0 (by omega) (free6 hp H tp np) (QfQ tp p0) (by omega) (F.sz.mono (by omega)) (chain6 H tp np).1 (by omega) (by omega)
theorem QrO (hp : RwR dp []) : Qah G QbW [dp] = some (.d (.z true)) := by
 rw [Qad (cf := Qe9) rfl]
 obtain ⟨da, ha, g1⟩ := free6 hp (HL.nil _ _) Qeh (by simp)
 rw [Qnb] at ha
 obtain ⟨db, hb, g2⟩ := Qgw (K := 1) ha (fun q hq => by simp at hq) (by omega) (by omega) (by simp)
 have g3 : X G (.loop QbG) (Qoj da db []) = some (.x 0, QrQ []) := by rw [Qak, QoQ ha]; rfl
 rw [QqN, QnM] at g3
 simp only [go_sem] at g3
 clear ha hb
 simp -implicitDefEqProofs (maxSteps:=9^8) only [Qe9, g1, g2, g3, Qac, go_sem, iv, bv, reduceCtorEq, ↓reduceIte, Nat.reduceEqDiff]
theorem sCount6 [ItsB] (hp : RwR dp p) (H : HL 120 120 p) (tp : Trm p) (np : p.length ≤ 6) {lo hi : Rat} (h1 : sz lo ≤ 1000) (h2 : sz hi ≤ 1000) : Qah G Qbq [dp, encR lo, encR hi] = some (.d (iv (cnt (chP p) lo hi))) := by
 by_cases p0 : p = []
 ·subst p0
  rw [Qad (cf := Qfm) rfl]
  have g1 := QrO hp
  have ec : chP [] = [] := if_pos rfl
  rw [ec]
  have g2 := QfY (K := 1000) RwC.nil (by simp) (fun p hp => by simp at hp) h1 h2 (by omega)
  generalize cnt [] lo hi = c at *
  simp only [encR, iv] at g2
  simp -implicitDefEqProofs (maxSteps:=9^8) only [Qfm, encR, g1, g2, ld4q, Qac, go_sem, iv, bv, reduceCtorEq, ↓reduceIte, Nat.reduceEqDiff]
 ·exact QfJ (sChain6 hp H tp np p0) (by have := chP_len np; omega) (hs6 H tp np) (Nat.le_trans h1 (by omega)) (Nat.le_trans h2 (by omega)) (by omega)
end
end Go.AM

/- Chains, shifted and scaled. -/
namespace Go.AM
open Go Go.RowKit
section
variable {p : List Rat} {f : Rat}
theorem Qk9 (tp : Trm p) (hf : f ≠ 0) : (scP p f).length = p.length := by
 have h1 := QnD p f
 have h2 := QnD (scP p f) (1 / f)
 have e : scP (scP p f) (1 / f) = p := Qm4 (Qg6 _ _) tp fun k => by
  rw [QpN, QpN]
  have h : 1 / f * f = 1 := Rat.div_mul_cancel hf
  generalize 1 / f = i at *
  grind
 rw [e] at h2
 omega
end
section
variable {d : Rat}
end
end Go.AM

/- The seat's iterators, as instances. -/
namespace Go.AM
open Go Go.RowKit Go.Proofs
noncomputable instance (priority := 2000) iZ : Its := itsZ
instance iZB : ItsB := itsBZ
instance iZZ : ItsZ := ⟨fun a b c d => itsZ_at a b c d⟩
theorem envQ : EnvOk Tryz.prog G := envZ
end Go.AM

/- Sturm, plain: bounds of polynomials on an interval; lists of signs. -/
namespace Go.AM
open Go Go.RowKit
def Ab (x C : Rat) : Prop := -C ≤ x ∧ x ≤ C
theorem Ab.mul {x y A B : Rat} (h : Ab x A) (k : Ab y B) : Ab (x * y) (A * B) := by
 obtain ⟨h1, h2⟩ := h
 obtain ⟨k1, k2⟩ := k
 have p1 := Rat.mul_nonneg (a := A - x) (b := B + y) (by grind) (by grind)
 have p2 := Rat.mul_nonneg (a := A + x) (b := B - y) (by grind) (by grind)
 have p3 := Rat.mul_nonneg (a := A - x) (b := B - y) (by grind) (by grind)
 have p4 := Rat.mul_nonneg (a := A + x) (b := B + y) (by grind) (by grind)
 constructor <;> grind
theorem Ab.add {x y A B : Rat} (h : Ab x A) (k : Ab y B) : Ab (x + y) (A + B) := by
 obtain ⟨h1, h2⟩ := h
 obtain ⟨k1, k2⟩ := k
 constructor <;> grind
theorem Ab.nn {x A : Rat} (h : Ab x A) : 0 ≤ A := by
 obtain ⟨h1, h2⟩ := h
 grind
theorem Ab.mono {x A B : Rat} (h : Ab x A) (k : A ≤ B) : Ab x B := by
 obtain ⟨h1, h2⟩ := h
 constructor <;> grind
theorem Ab.zero : Ab 0 0 := by constructor <;> grind
theorem QoT (a : Rat) : ∃ A, Ab a A := by
 by_cases h : 0 ≤ a
 ·exact ⟨a, by constructor <;> grind⟩
 ·exact ⟨-a, by constructor <;> grind⟩
theorem ab_pos {x : Rat} (h : 0 ≤ x) : Ab x x := by constructor <;> grind
theorem ev_bd2 (R : Rat) : ∀ l : List Rat, ∃ C, 0 ≤ C ∧ ∀ x, Ab x R → Ab (evR l x) C
 | [] => ⟨0, by grind, fun x h => Ab.zero⟩
 | a :: l => by
  obtain ⟨C, c0, hC⟩ := ev_bd2 R l
  obtain ⟨A, hA⟩ := QoT a
  by_cases hR : 0 ≤ R
  ·refine ⟨C * R + A, ?_, fun x h => ((hC x h).mul h).add hA⟩
   have := Rat.mul_nonneg c0 hR
   have := hA.nn
   grind
  ·exact ⟨0, by grind, fun x h => absurd h.nn hR⟩
theorem Qnv (R : Rat) : ∀ l : List Rat, ∃ C, 0 ≤ C ∧ ∀ x y, Ab x R → Ab y R → x ≤ y → Ab (evR l y - evR l x) (C * (y - x))
 | [] => ⟨0, by grind, fun x y h k hxy => by rw [QaD, QaD]; constructor <;> grind⟩
 | a :: l => by
  obtain ⟨B, b0, hB⟩ := ev_bd2 R l
  obtain ⟨C, c0, hC⟩ := Qnv R l
  by_cases hR : 0 ≤ R
  ·refine ⟨B + R * C, ?_, fun x y h k hxy => ?_⟩
   ·have := Rat.mul_nonneg hR c0
    grind
   ·have h1 := (hB y k).mul (ab_pos (x := y - x) (by grind))
    have h2 := h.mul (hC x y h k hxy)
    have h3 := h1.add h2
    have e1 : evR (a :: l) y - evR (a :: l) x = evR l y * (y - x) + x * (evR l y - evR l x) := by rw [Qb8, Qb8]; grind
    have e2 : (B + R * C) * (y - x) = B * (y - x) + R * (C * (y - x)) := by grind
    rw [e1, e2]; exact h3
  ·exact ⟨0, by grind, fun x y h => absurd h.nn hR⟩
theorem ev_ta2 (R : Rat) : ∀ l : List Rat, ∃ C, 0 ≤ C ∧ ∀ x y, Ab x R → Ab y R → x ≤ y → Ab (evR l y - evR l x - der l x * (y - x)) (C * ((y - x) * (y - x)))
 | [] => ⟨0, by grind, fun x y h k hxy => by rw [QaD, QaD, show der [] x = 0 from rfl]; constructor <;> grind⟩
 | a :: l => by
  obtain ⟨B, b0, hB⟩ := Qnv R l
  obtain ⟨C, c0, hC⟩ := ev_ta2 R l
  by_cases hR : 0 ≤ R
  ·refine ⟨B + R * C, ?_, fun x y h k hxy => ?_⟩
   ·have := Rat.mul_nonneg hR c0
    grind
   ·have h1 := (ab_pos (x := y - x) (by grind)).mul (hB x y h k hxy)
    have h2 := h.mul (hC x y h k hxy)
    have h3 := h1.add h2
    have ed : der (a :: l) x = evR l x + x * der l x := rfl
    have e1 : evR (a :: l) y - evR (a :: l) x - der (a :: l) x * (y - x) = (y - x) * (evR l y - evR l x) + x * (evR l y - evR l x - der l x * (y - x)) := by rw [Qb8, Qb8, ed]; grind
    have e2 : (B + R * C) * ((y - x) * (y - x)) = (y - x) * (B * (y - x)) + R * (C * ((y - x) * (y - x))) := by grind
    rw [e1, e2]; exact h3
  ·exact ⟨0, by grind, fun x y h => absurd h.nn hR⟩

/-! ### Signs -/
def sgQ (x : Rat) : Int := Int.sign x.num
theorem Qnr {x : Rat} (h : 0 < x) : sgQ x = 1 := Int.sign_eq_one_of_pos (by
 have := Rat.num_nonneg.2 (Rat.le_of_lt h)
 have h2 : x.num ≠ 0 := fun h0 => by
  have := Rat.num_eq_zero.1 h0
  grind
 omega)
theorem sgQ_0 : sgQ 0 = 0 := rfl
theorem Qn3 {x : Rat} (h : x < 0) : sgQ x = -1 := Int.sign_eq_neg_one_of_neg (by
 have h2 : ¬ 0 ≤ x.num := fun h0 => by
  have := Rat.num_nonneg.1 h0
  grind
 omega)
theorem Qev (x : Rat) : (0 < x ∧ sgQ x = 1) ∨ (x = 0 ∧ sgQ x = 0) ∨ (x < 0 ∧ sgQ x = -1) := by
 by_cases h : 0 < x
 ·exact .inl ⟨h, Qnr h⟩
 ·by_cases h2 : x < 0
  ·exact .inr (.inr ⟨h2, Qn3 h2⟩)
  ·have : x = 0 := by grind
   exact .inr (.inl ⟨this, by rw [this]; rfl⟩)
def chs : Int → List Int → Nat
 | _, [] => 0
 | s, t :: L => if t = 0 then chs s L else if t = s then chs s L else 1 + chs t L
theorem Qmy : ∀ (s : Int) (L : List Int), chs s (L.filter fun t => decide (t ≠ 0)) = chs s L
 | _, [] => rfl
 | s, t :: L => by
  by_cases h : t = 0
  ·rw [List.filter_cons_of_neg (by simp [h]), chs, if_pos h]
   exact Qmy s L
  ·rw [List.filter_cons_of_pos (by simp [h]), chs, chs, if_neg h, if_neg h, Qmy s L, Qmy t L]
theorem QpU (s t : Int) (L : List Int) : ∀ i, chN (s :: t :: L) (i + 2) = (if t ≠ s then 1 else 0) + chN (t :: L) (i + 1)
 | 0 => by
  show chN (s :: t :: L) 0 + _ + _ = _ + (chN (t :: L) 0 + _)
  simp [chN]
 | i + 1 => by
  show chN (s :: t :: L) (i + 2) + (if 1 ≤ i + 2 ∧ (s :: t :: L).getD (i + 2) 0 ≠ (s :: t :: L).getD (i + 2 - 1) 0 then 1 else 0) = _ + (chN (t :: L) (i + 1) + (if 1 ≤ i + 1 ∧ (t :: L).getD (i + 1) 0 ≠ (t :: L).getD (i + 1 - 1) 0 then 1 else 0))
  have e1 : (s :: t :: L).getD (i + 2) 0 = (t :: L).getD (i + 1) 0 := rfl
  have e2 : (s :: t :: L).getD (i + 2 - 1) 0 = (t :: L).getD (i + 1 - 1) 0 := rfl
  rw [QpU s t L i, e1, e2, ← Nat.add_assoc]
  congr 1
  by_cases h : (t :: L).getD (i + 1) 0 ≠ (t :: L).getD (i + 1 - 1) 0
  ·rw [if_pos ⟨by omega, h⟩, if_pos ⟨by omega, h⟩]
  ·rw [if_neg (fun k => h k.2), if_neg (fun k => h k.2)]
theorem chN_chs : ∀ (L : List Int) (s : Int), (∀ t ∈ L, t ≠ 0) → chN (s :: L) (s :: L).length = chs s L
 | [], s, h => by simp [chN, chs]
 | t :: L, s, h => by
  have ih := chN_chs L t fun u hu => h u (List.mem_cons_of_mem _ hu)
  have h0 := h t List.mem_cons_self
  rw [List.length_cons, List.length_cons, QpU]
  rw [List.length_cons] at ih
  rw [ih, chs, if_neg h0]
  by_cases k : t = s
  ·rw [if_neg (by simp [k]), if_pos k, k, Nat.zero_add]
  ·rw [if_pos k, if_neg k]
def sgL (ps : List (List Rat)) (x : Rat) : List Int := ps.map fun p => sgQ (evR p x)
theorem Qit (p : List Rat) (ps : List (List Rat)) (x : Rat) (h : evR p x ≠ 0) : chg (p :: ps) x = chs (sgQ (evR p x)) (sgL ps x) := by
 unfold chg sgs
 have h0 : sgn1 p x ≠ 0 := by
  rcases Qev (evR p x) with h1 | h1 | h1
  ·show sgQ (evR p x) ≠ 0; omega
  ·exact absurd h1.1 h
  ·show sgQ (evR p x) ≠ 0; omega
 rw [List.map_cons, List.filter_cons_of_pos (by simp [h0])]
 rw [chN_chs _ _ (fun t ht => by have := (List.mem_filter.1 ht).2; simpa using this)]
 exact Qmy _ _
theorem chg_skip (p : List Rat) (ps : List (List Rat)) (x : Rat) (h : evR p x = 0) : chg (p :: ps) x = chg ps x := by
 unfold chg sgs
 have h0 : sgn1 p x = 0 := by
  show sgQ (evR p x) = 0
  rw [h]; rfl
 rw [List.map_cons, List.filter_cons_of_neg (by simp [h0])]
inductive Rl : Int → List Int → List Int → Prop
 | nil (s : Int) : Rl s [] []
 | big {s t : Int} {L M : List Int} : t ≠ 0 → Rl t L M → Rl s (t :: L) (t :: M)
 | sml {s a b : Int} {L M : List Int} : s ≠ 0 → (a = 0 ∨ a = s ∨ a = -s) → (b = 0 ∨ b = s ∨ b = -s) → Rl (-s) L M → Rl s (a :: -s :: L) (b :: -s :: M)
theorem chs_sml {s a : Int} (L : List Int) (hs : s ≠ 0) (ha : a = 0 ∨ a = s ∨ a = -s) : chs s (a :: -s :: L) = 1 + chs (-s) L := by
 have h1 : -s ≠ 0 := by omega
 have h2 : -s ≠ s := by omega
 rw [chs]
 rcases ha with rfl | rfl | rfl
 ·rw [if_pos rfl, chs, if_neg h1, if_neg h2]
 ·rw [if_neg hs, if_pos rfl, chs, if_neg h1, if_neg h2]
 ·rw [if_neg h1, if_neg h2, chs, if_neg h1, if_pos rfl]
theorem Rl.eq {s : Int} {L M : List Int} (h : Rl s L M) : chs s L = chs s M := by
 induction h with
 | nil s => rfl
 | big h0 _ ih => rw [chs, chs, if_neg h0, if_neg h0, ih]; split <;> simp_all
 | sml h0 ha hb _ ih => rw [chs_sml _ h0 ha, chs_sml _ h0 hb, ih]
end Go.AM

/- Sturm, plain: a chain on small intervals. -/
namespace Go.AM
open Go Go.RowKit
theorem QiQ {C η : Rat} (hC : 0 ≤ C) (h : 0 < η) : ∃ δ, 0 < δ ∧ C * δ ≤ η := by
 have e : (C + 1) * (η * (C + 1)⁻¹) = η := by
  have := Rat.mul_inv_cancel (C + 1) (by grind)
  grind
 generalize η * (C + 1)⁻¹ = δ at e
 have hd : 0 < δ := by
  by_cases k : 0 < δ
  ·exact k
  ·have := Rat.mul_nonneg (a := C + 1) (b := -δ) (by grind) (by grind)
   grind
 exact ⟨δ, hd, by grind⟩
theorem QnP {a b : Rat} (ha : 0 < a) (hb : 0 < b) : ∃ c, 0 < c ∧ c ≤ a ∧ c ≤ b := by
 by_cases h : a ≤ b
 ·exact ⟨a, ha, by grind, h⟩
 ·exact ⟨b, hb, by grind, by grind⟩
theorem Qiv {C x y : Rat} (hC : 0 ≤ C) (h : x ≤ y) : C * x ≤ C * y := Rat.mul_le_mul_of_nonneg_left h hC
theorem Qjl {u v η : Rat} (h0 : 0 ≤ η) (h : ¬ Ab u η) (k : Ab (v - u) η) : sgQ v = sgQ u ∧ u ≠ 0 := by
  obtain ⟨k1, k2⟩ := k
  by_cases h1 : u > η
  · rw [Qnr (x := u) (by grind), Qnr (x := v) (by grind)]
    exact ⟨rfl, by grind⟩
  · have h2 : u < -η := by
      by_cases h2 : -η ≤ u
      · exact absurd ⟨h2, by grind⟩ h
      · grind
    rw [Qn3 (x := u) (by grind), Qn3 (x := v) (by grind)]
    exact ⟨rfl, by grind⟩
theorem sg_opp {u c B : Rat} (hu : Ab u B) (hc : ¬ Ab c B) : sgQ (u - c) = -sgQ c ∧ u - c ≠ 0 := by
  obtain ⟨u1, u2⟩ := hu
  by_cases h1 : c > B
  · rw [Qnr (x := c) (by grind), Qn3 (x := u - c) (by grind)]
    exact ⟨rfl, by grind⟩
  · have h2 : c < -B := by
      by_cases h2 : -B ≤ c
      · exact absurd ⟨h2, by grind⟩ hc
      · grind
    rw [Qn3 (x := c) (by grind), Qnr (x := u - c) (by grind)]
    exact ⟨rfl, by grind⟩
theorem Qqu {x : Rat} (h : x ≠ 0) : sgQ x ≠ 0 := by
 rcases Qev x with k | k | k
 ·omega
 ·exact absurd k.1 h
 ·omega
theorem Qn5 {x y : Rat} (h : x ≠ 0) : sgQ y = 0 ∨ sgQ y = sgQ x ∨ sgQ y = -sgQ x := by
 rcases Qev x with k | k | k
 ·rcases Qev y with l | l | l <;> omega
 ·exact absurd k.1 h
 ·rcases Qev y with l | l | l <;> omega
def nx (L : List (List Rat)) (x : Rat) : Rat := match L with
 | [] => 0
 | c :: _ => evR c x
def StOk : List Rat → List (List Rat) → Prop
 | a, [] => ∃ e, e ≠ 0 ∧ ∀ x, evR a x = e
 | a, b :: L => (∃ q, ∀ x, evR a x = evR q x * evR b x - nx L x) ∧ StOk b L
def Loc (R : Rat) (a : List Rat) (L : List (List Rat)) : Prop :=
 ∃ η0, 0 < η0 ∧ ∃ β, 0 < β ∧ ∀ η, 0 < η → η ≤ η0 → ∃ δ, 0 < δ ∧ ∀ x y, Ab x R → Ab y R → x ≤ y → y - x ≤ δ →
  (¬ Ab (evR a x) η → Ab (evR a y - evR a x) η ∧ Rl (sgQ (evR a x)) (sgL L x) (sgL L y)) ∧
  (Ab (evR a x) η → ∃ b L', L = b :: L' ∧ ¬ Ab (evR b x) β ∧ Ab (evR b y - evR b x) β ∧ Rl (sgQ (evR b x)) (sgL L' x) (sgL L' y))
theorem loc (R : Rat) : ∀ (L : List (List Rat)) (a : List Rat), StOk a L → Loc R a L
  | [], a, ⟨e, e0, he⟩ => by
    have hη : ∃ η0, 0 < η0 ∧ ¬ Ab e η0 := by
      by_cases h : 0 < e
      · exact ⟨e * (1/2), by grind, fun k => by have := k.2; grind⟩
      · exact ⟨-e * (1/2), by grind, fun k => by have := k.1; grind⟩
    obtain ⟨η0, h0, h1⟩ := hη
    refine ⟨η0, h0, 1, by decide, fun η p1 p2 => ⟨1, by decide, fun x y hx hy hxy hd => ⟨fun h => ⟨?_, Rl.nil _⟩, fun h => ?_⟩⟩⟩
    · rw [he, he]; constructor <;> grind
    · rw [he] at h; exact absurd (h.mono p2) h1
  | b :: L, a, ⟨⟨q, hq⟩, hb⟩ => by
    obtain ⟨η0, p0, β, pβ, hloc⟩ := loc R L b hb
    obtain ⟨Q, q0, hQ⟩ := ev_bd2 R q
    -- how small b may be
    obtain ⟨ρ, r0, hρ⟩ := QiQ (C := Q) (η := β * (1/2)) q0 (by grind)
    obtain ⟨ηb, b0, b1, b2⟩ := QnP p0 r0
    obtain ⟨δb, d0, hδ⟩ := hloc ηb b0 b1
    obtain ⟨La, l0, hL⟩ := Qnv R a
    have hQb : Q * ηb ≤ β * (1/2) := by have := Qiv q0 b2; grind
    refine ⟨β * (1/2), by grind, ηb, b0, fun η e0 e1 => ?_⟩
    obtain ⟨δ1, f0, f1⟩ := QiQ (C := La) (η := η) l0 e0
    obtain ⟨δ, g0, g1, g2⟩ := QnP d0 f0
    refine ⟨δ, g0, fun x y hx hy hxy hd => ?_⟩
    obtain ⟨A, B⟩ := hδ x y hx hy hxy (by grind)
    have hlip : Ab (evR a y - evR a x) η := (hL x y hx hy hxy).mono (by have := Qiv l0 (show y - x ≤ δ1 by grind); grind)
    have small : Ab (evR b x) ηb → Ab (evR q x * evR b x) (β * (1/2)) := fun h => ((hQ x hx).mul h).mono hQb
    refine ⟨fun h => ⟨hlip, ?_⟩, fun h => ?_⟩
    · obtain ⟨s1, s2⟩ := Qjl (by grind) h hlip
      by_cases hbs : Ab (evR b x) ηb
      · obtain ⟨c, L', rfl, c1, c2, c3⟩ := B hbs
        have hax := hq x
        simp only [nx] at hax
        obtain ⟨o1, o2⟩ := sg_opp (small hbs) (c := evR c x) (fun k => c1 (k.mono (by grind)))
        rw [← hax] at o1 o2
        obtain ⟨t1, t2⟩ := Qjl (by grind) c1 c2
        have e : sgQ (evR c x) = -sgQ (evR a x) := by omega
        show Rl _ (sgQ (evR b x) :: sgQ (evR c x) :: sgL L' x) (sgQ (evR b y) :: sgQ (evR c y) :: sgL L' y)
        rw [t1]
        rw [e] at c3 ⊢
        exact Rl.sml (Qqu o2) (Qn5 o2) (Qn5 o2) c3
      · obtain ⟨c1, c2⟩ := A hbs
        obtain ⟨t1, t2⟩ := Qjl (by grind) hbs c1
        show Rl _ (sgQ (evR b x) :: sgL L x) (sgQ (evR b y) :: sgL L y)
        rw [t1]
        exact Rl.big (Qqu t2) c2
    · have hbig : ¬ Ab (evR b x) ηb := by
        intro hbs
        obtain ⟨c, L', rfl, c1, c2, c3⟩ := B hbs
        have hax := hq x
        simp only [nx] at hax
        have k1 := small hbs
        refine c1 ?_
        have e : evR c x = evR q x * evR b x - evR a x := by grind
        obtain ⟨u1, u2⟩ := k1
        obtain ⟨v1, v2⟩ := h
        constructor <;> grind
      obtain ⟨c1, c2⟩ := A hbig
      exact ⟨b, L, rfl, hbig, c1, c2⟩
end Go.AM

/- Sturm, plain: f beside its derivative; the zeros in an interval. -/
namespace Go.AM
open Go Go.RowKit
def Lcl (f : List Rat) (cs : List (List Rat)) (x y : Rat) : Prop :=
 (chg cs x = chg cs y ∧ ∀ u, x ≤ u → u ≤ y → evR f u ≠ 0 ∧ sgQ (evR f u) = sgQ (evR f x)) ∨
 ∃ (s : Rat) (k : Nat), (s = 1 ∨ s = -1) ∧ (∀ u v, x ≤ u → u < v → v ≤ y → s * evR f u < s * evR f v) ∧ chg cs x = k + (if s * evR f x < 0 then 1 else 0) ∧ chg cs y = k + (if s * evR f y < 0 then 1 else 0)
theorem Qp1 {f d : List Rat} {L : List (List Rat)} {x s : Rat} (hs : s = 1 ∨ s = -1) (hd : 0 < s * evR d x) : chg (f :: d :: L) x = chs (sgQ (evR d x)) (sgL L x) + (if s * evR f x < 0 then 1 else 0) := by
 have hd0 : evR d x ≠ 0 := fun h => by rw [h] at hd; grind
 by_cases hf : evR f x = 0
 ·rw [chg_skip _ _ _ hf, Qit _ _ _ hd0, hf, if_neg (by grind), Nat.add_zero]
 ·rw [Qit _ _ _ hf]
  show chs _ (sgQ (evR d x) :: sgL L x) = _
  rw [chs, if_neg (Qqu hd0)]
  generalize evR d x = b at *
  generalize evR f x = a at *
  rcases hs with rfl | rfl
  ·rw [Qnr (x := b) (by grind)]
   by_cases h : a < 0
   ·rw [Qn3 h, if_neg (by decide), if_pos (by grind)]; omega
   ·rw [Qnr (x := a) (by grind), if_pos rfl, if_neg (by grind)]; omega
  ·rw [Qn3 (x := b) (by grind)]
   by_cases h : 0 < a
   ·rw [Qnr h, if_neg (by decide), if_pos (by grind)]; omega
   ·rw [Qn3 (x := a) (by grind), if_pos rfl, if_neg (by grind)]; omega
theorem lcl (R : Rat) {f d : List Rat} {L : List (List Rat)} (h : StOk f (d :: L)) (hd : ∀ x, evR d x = der f x) : ∃ δ, 0 < δ ∧ ∀ x y, Ab x R → Ab y R → x ≤ y → y - x ≤ δ → Lcl f (f :: d :: L) x y := by
 obtain ⟨η, h0, β, hβ, H⟩ := loc R (d :: L) f h
 obtain ⟨δ0, d0, H⟩ := H η h0 Rat.le_refl
 obtain ⟨Lf, lf0, hLf⟩ := Qnv R f
 obtain ⟨Ld, ld0, hLd⟩ := Qnv R d
 obtain ⟨C, c0, hC⟩ := ev_ta2 R f
 obtain ⟨δ1, k1, m1⟩ := QiQ lf0 h0
 obtain ⟨δ2, k2, m2⟩ := QiQ (η := β * (1/4)) ld0 (by grind)
 obtain ⟨δ3, k3, m3⟩ := QiQ (η := β * (1/4)) c0 (by grind)
 obtain ⟨δ4, k4, n1, n2⟩ := QnP d0 k1
 obtain ⟨δ5, k5, n3, n4⟩ := QnP k2 k3
 obtain ⟨δ, k, n5, n6⟩ := QnP k4 k5
 refine ⟨δ, k, fun x y hx hy hxy hδ => ?_⟩
 have hab : ∀ u, x ≤ u → u ≤ y → Ab u R := fun u h1 h2 => ⟨by have := hx.1; grind, by have := hy.2; grind⟩
 obtain ⟨A, B⟩ := H x y hx hy hxy (by grind)
 by_cases hs : Ab (evR f x) η
 ·right
  obtain ⟨b, L', e, b1, b2, b3⟩ := B hs
  simp only [List.cons.injEq] at e
  obtain ⟨rfl, rfl⟩ := e
  obtain ⟨s1, s2⟩ := Qjl (by grind) b1 b2
  have key : ∃ s : Rat, (s = 1 ∨ s = -1) ∧ β < s * evR d x ∧ 0 < s * evR d y := by
   rcases Qev (evR d x) with c | c | c
   ·refine ⟨1, .inl rfl, ?_, ?_⟩
    ·by_cases q : β < evR d x
     ·grind
     ·exact absurd ⟨by grind, by grind⟩ b1
    ·rw [c.2] at s1
     rcases Qev (evR d y) with e | e | e
     ·grind
     ·omega
     ·omega
   ·exact absurd c.1 s2
   ·refine ⟨-1, .inr rfl, ?_, ?_⟩
    ·by_cases q : evR d x < -β
     ·grind
     ·exact absurd ⟨by grind, by grind⟩ b1
    ·rw [c.2] at s1
     rcases Qev (evR d y) with e | e | e
     ·omega
     ·omega
     ·grind
  obtain ⟨s, hs1, t1, t2⟩ := key
  refine ⟨s, chs (sgQ (evR d x)) (sgL L x), hs1, ?_, Qp1 hs1 (by grind), ?_⟩
  ·intro u v h1 h2 h3
   have au := hab u h1 (by grind)
   have av := hab v (by grind) h3
   have p1 := hLd x u hx au h1
   have p2 := hC u v au av (by grind)
   rw [← hd] at p2
   have p3 : Ld * (u - x) ≤ β * (1/4) := by have := Qiv ld0 (show u - x ≤ δ2 by grind); grind
   have p4 : C * (v - u) ≤ β * (1/4) := by have := Qiv c0 (show v - u ≤ δ3 by grind); grind
   have p1' := p1.mono p3
   have p5 : C * ((v - u) * (v - u)) ≤ β * (1/4) * (v - u) := by
    have := Rat.mul_le_mul_of_nonneg_right p4 (show 0 ≤ v - u by grind)
    grind
   have p2' := p2.mono p5
   have hv : 0 < v - u := by grind
   generalize hw : v - u = w at *
   -- s * f' u >= 3/4 beta
   have p6 : β * (3/4) ≤ s * evR d u := by
    obtain ⟨i1, i2⟩ := p1'
    rcases hs1 with rfl | rfl <;> grind
   have p7 := Rat.mul_le_mul_of_nonneg_right p6 (show 0 ≤ w by grind)
   obtain ⟨i1, i2⟩ := p2'
   have p8 : 0 < β * w := Rat.mul_pos hβ hv
   rcases hs1 with rfl | rfl <;> grind
  ·rw [Qp1 hs1 (by grind), s1, b3.eq]
 ·left
  obtain ⟨a1, a2⟩ := A hs
  obtain ⟨s1, s2⟩ := Qjl (by grind) hs a1
  have hu : ∀ u, x ≤ u → u ≤ y → sgQ (evR f u) = sgQ (evR f x) := fun u h1 h2 => (Qjl (by grind) hs ((hLf x u hx (hab u h1 h2) h1).mono (by have := Qiv lf0 (show u - x ≤ δ1 by grind); grind))).1
  have hne : ∀ u, x ≤ u → u ≤ y → evR f u ≠ 0 := fun u h1 h2 h3 => by
   have := hu u h1 h2
   rw [h3, sgQ_0] at this
   exact Qqu s2 this.symm
  refine ⟨?_, fun u h1 h2 => ⟨hne u h1 h2, hu u h1 h2⟩⟩
  rw [Qit _ _ _ s2, Qit _ _ _ (hne y hxy Rat.le_refl), s1, a2.eq]
structure Zrs (f : List Rat) (zs : List Rat) : Prop where
 z : ∀ u, evR f u = 0 ↔ u ∈ zs
 i : ∀ u v, u < v → evR f u * evR f v < 0 → ∃ z ∈ zs, u < z ∧ z < v
 s : zs.Pairwise (· < ·)
def nz (zs : List Rat) (x y : Rat) : Nat := (zs.filter fun z => decide (x < z ∧ z ≤ y)).length
theorem Qpm {zs : List Rat} {x y : Rat} (h : ∀ z ∈ zs, ¬ (x < z ∧ z ≤ y)) : nz zs x y = 0 := by
 unfold nz
 rw [List.filter_eq_nil_iff.2 (fun z hz => by simpa using h z hz)]; rfl
theorem nz_one {zs : List Rat} {x y : Rat} (hs : zs.Pairwise (· < ·)) {z : Rat} (hz : z ∈ zs) (h : x < z ∧ z ≤ y) (hu : ∀ w ∈ zs, x < w → w ≤ y → w = z) : nz zs x y = 1 := by
 unfold nz
 have hp := hs.filter (p := fun z => decide (x < z ∧ z ≤ y))
 have hm : ∀ w ∈ zs.filter (fun z => decide (x < z ∧ z ≤ y)), w = z := fun w hw => by
  obtain ⟨h1, h2⟩ := List.mem_filter.1 hw
  have h3 := of_decide_eq_true h2
  exact hu w h1 h3.1 h3.2
 have hin : z ∈ zs.filter (fun z => decide (x < z ∧ z ≤ y)) := List.mem_filter.2 ⟨hz, decide_eq_true h⟩
 generalize zs.filter (fun z => decide (x < z ∧ z ≤ y)) = l at *
 match l with
 | [] => simp at hin
 | [a] => rfl
 | a :: b :: l =>
  have h1 := hm a (by simp)
  have h2 := hm b (by simp)
  have h3 := List.rel_of_pairwise_cons hp (a' := b) (by simp)
  rw [h1, h2] at h3
  exact absurd h3 Rat.lt_irrefl
theorem nz_add (zs : List Rat) {x y z : Rat} (h1 : x ≤ y) (h2 : y ≤ z) : nz zs x y + nz zs y z = nz zs x z := by
 unfold nz
 induction zs with
 | nil => rfl
 | cons a l ih =>
  by_cases p : x < a ∧ a ≤ y
  ·rw [List.filter_cons_of_pos (by simpa using p), List.filter_cons_of_neg (p := fun c => decide (y < c ∧ c ≤ z)) (by simp; intro; grind), List.filter_cons_of_pos (p := fun c => decide (x < c ∧ c ≤ z)) (by simp; grind), List.length_cons, List.length_cons]
   omega
  ·by_cases q : y < a ∧ a ≤ z
   ·rw [List.filter_cons_of_neg (by simpa using p), List.filter_cons_of_pos (p := fun c => decide (y < c ∧ c ≤ z)) (by simpa using q), List.filter_cons_of_pos (p := fun c => decide (x < c ∧ c ≤ z)) (by simp; grind), List.length_cons, List.length_cons]
    omega
   ·rw [List.filter_cons_of_neg (by simpa using p), List.filter_cons_of_neg (p := fun c => decide (y < c ∧ c ≤ z)) (by simpa using q), List.filter_cons_of_neg (p := fun c => decide (x < c ∧ c ≤ z)) (by simp; intro; grind)]
    exact ih
theorem lcl_nz {f : List Rat} {cs : List (List Rat)} {x y : Rat} {zs : List Rat} (Z : Zrs f zs) (hxy : x ≤ y) (h : Lcl f cs x y) : chg cs x = chg cs y + nz zs x y := by
  rcases h with ⟨h1, h2⟩ | ⟨s, k, hs, mono, e1, e2⟩
  · rw [Qpm fun z hz h => (h2 z (by grind) h.2).1 ((Z.z z).2 hz), h1]; rfl
  · rw [e1, e2]
    by_cases hx : s * evR f x < 0
    · by_cases hy : s * evR f y < 0
      · rw [if_pos hx, if_pos hy, Qpm fun z hz h => ?_]
        have hz0 := (Z.z z).2 hz
        by_cases e : z = y
        · rw [← e, hz0] at hy; grind
        · have := mono z y (by grind) (by grind) Rat.le_refl
          rw [hz0] at this; grind
      · rw [if_pos hx, if_neg hy]
        have ex : ∃ z ∈ zs, x < z ∧ z ≤ y := by
          by_cases h0 : evR f y = 0
          · refine ⟨y, (Z.z y).1 h0, ?_, Rat.le_refl⟩
            by_cases e : x = y
            · rw [e, h0] at hx; grind
            · grind
          · have hlt : x < y := by
              by_cases e : x = y
              · rw [e] at hx; exact absurd hx hy
              · grind
            obtain ⟨z, hz, h1, h2⟩ := Z.i x y hlt (by
              have p1 : 0 < -(s * evR f x) := by grind
              have p2 : 0 < s * evR f y := by rcases hs with rfl | rfl <;> grind
              have := Rat.mul_pos p1 p2
              rcases hs with rfl | rfl <;> grind)
            exact ⟨z, hz, h1, by grind⟩
        obtain ⟨z, hz, h1, h2⟩ := ex
        rw [nz_one Z.s hz ⟨h1, h2⟩ fun w hw w1 w2 => ?_]
        have z0 := (Z.z z).2 hz
        have w0 := (Z.z w).2 hw
        by_cases c : w < z
        · have := mono w z (by grind) c h2
          rw [z0, w0] at this; grind
        · by_cases c2 : z < w
          · have := mono z w (by grind) c2 w2
            rw [z0, w0] at this; grind
          · grind
    · rw [if_neg hx]
      rw [Qpm fun z hz h => by
        have hz0 := (Z.z z).2 hz
        have := mono x z Rat.le_refl h.1 h.2
        rw [hz0] at this; grind]
      have : ¬ s * evR f y < 0 := fun hy => by
        by_cases e : x = y
        · rw [← e] at hy; exact hx hy
        · have := mono x y Rat.le_refl (by grind) Rat.le_refl
          grind
      rw [if_neg this]
theorem sturm_n {f d : List Rat} {L : List (List Rat)} {zs : List Rat} (Z : Zrs f zs) {R δ : Rat} (hδ : 0 < δ) (H : ∀ x y, Ab x R → Ab y R → x ≤ y → y - x ≤ δ → Lcl f (f :: d :: L) x y) :
    ∀ (n : Nat) (lo hi : Rat), Ab lo R → Ab hi R → lo ≤ hi → hi - lo ≤ ((n : Int) : Rat) * δ → chg (f :: d :: L) lo = chg (f :: d :: L) hi + nz zs lo hi
  | 0, lo, hi, h1, h2, h3, h4 => lcl_nz Z h3 (H lo hi h1 h2 h3 (by grind))
  | n + 1, lo, hi, h1, h2, h3, h4 => by
    by_cases h : hi - lo ≤ δ
    · exact lcl_nz Z h3 (H lo hi h1 h2 h3 h)
    · have hm : Ab (lo + δ) R := ⟨by have := h1.1; grind, by have := h2.2; grind⟩
      have i1 := lcl_nz Z (show lo ≤ lo + δ by grind) (H lo (lo + δ) h1 hm (by grind) (by grind))
      have i2 := sturm_n Z hδ H n (lo + δ) hi hm h2 (by grind) (by grind)
      have := nz_add zs (x := lo) (y := lo + δ) (z := hi) (by grind) (by grind)
      omega
theorem arch (a δ : Rat) (hδ : 0 < δ) : ∃ n : Nat, a ≤ ((n : Int) : Rat) * δ := by
 have h1 := Rat.le_ceil (x := a * δ⁻¹)
 have h2 : a = a * δ⁻¹ * δ := by rw [Rat.mul_assoc, Rat.inv_mul_cancel _ (by grind), Rat.mul_one]
 refine ⟨(a * δ⁻¹).ceil.toNat, ?_⟩
 have h3 : a * δ⁻¹ ≤ (((a * δ⁻¹).ceil.toNat : Int) : Rat) := Rat.le_trans h1 (Rat.intCast_le_intCast.2 (Int.self_le_toNat _))
 have := Rat.mul_le_mul_of_nonneg_right h3 (Rat.le_of_lt hδ)
 grind
theorem sturm {f d : List Rat} {L : List (List Rat)} {zs : List Rat} (h : StOk f (d :: L)) (hd : ∀ x, evR d x = der f x) (Z : Zrs f zs) {lo hi : Rat} (hl : lo ≤ hi) : chg (f :: d :: L) lo = chg (f :: d :: L) hi + nz zs lo hi := by
 obtain ⟨A, hA⟩ := QoT lo
 obtain ⟨B, hB⟩ := QoT hi
 have a0 := hA.nn
 have b0 := hB.nn
 obtain ⟨δ, hδ, H⟩ := lcl (A + B) h hd
 obtain ⟨n, hn⟩ := arch (hi - lo) δ hδ
 exact sturm_n Z hδ H n lo hi (hA.mono (by grind)) (hB.mono (by grind)) hl hn
end Go.AM

/- Sturm, plain: the chain of a polynomial; its zeros. -/
namespace Go.AM
open Go Go.RowKit
theorem der_pw (π : List Rat) (x : Rat) : ∀ j : Nat, der (pwP π (j + 1)) x = (((j + 1 : Nat) : Int) : Rat) * evR (pwP π j) x * der π x
 | 0 => by
  show der (muP [1] π) x = _
  rw [Qlf]
  show der [1] x * _ + evR [1] x * der π x = _ * evR [1] x * _
  have : der [1] x = 0 := by show evR [] x + x * der [] x = 0; rw [QaD]; show 0 + x * 0 = 0; grind
  rw [this, Qei]; grind
 | j + 1 => by
  show der (muP (pwP π (j + 1)) π) x = _
  rw [Qlf, der_pw π x j, show pwP π (j + 1) = muP (pwP π j) π from rfl, QaF]
  generalize evR (pwP π j) x = a; generalize evR π x = b; generalize der π x = c
  grind
end Go.AM

/- Free parts, plain: what they are; a sharper size of the greatest divisor. -/
namespace Go.AM
open Go Go.RowKit
theorem irr_der {π : List Rat} (h : Irr π) : ¬ Dv π (deP π) := fun hd => by
 have l1 := Qek h.1
 have h3 := h.2.1
 have nd : deP π ≠ [] := fun h0 => by rw [h0] at l1; simp only [List.length_nil] at l1; omega
 have := Qdg h.1 (Qbf π) nd hd
 omega
theorem irr_con {π : List Rat} (h : Irr π) {e : Rat} (e0 : e ≠ 0) {m : List Rat} (hm : ∀ x, evR m x = e) : ¬ Dv π m := fun ⟨s, hs⟩ => by
 have hd : Dv π [1] := ⟨scP s e⁻¹, fun x => by
  have := hs x
  rw [hm] at this
  have := Rat.mul_inv_cancel e e0
  rw [Qei, Qgm]; grind⟩
 have := Qdg h.1 Qd1 (by simp) hd
 have := h.2.1
 simp only [List.length_cons, List.length_nil] at *
 omega
theorem QpT {p π : List Rat} (tp : Trm p) (p0 : p ≠ []) (hI : Irr π) (h : Dv π p) : Dv π (frP p) := by
 obtain ⟨ng, e, nF⟩ := Qhh tp p0
 obtain ⟨_, _, d2⟩ := QcE tp (Qbf p)
 have tg : Trm (gcdP p (deP p)) := QcO
 have tq := Qf7 p (gcdP p (deP p))
 suffices hq : Dv π (quoP p (gcdP p (deP p))) from hq.trans dv_mn
 generalize quoP p (gcdP p (deP p)) = q at *
 generalize gcdP p (deP p) = g at *
 apply Classical.byContradiction
 intro hn
 have hg : Dv π g := by
  have : Dv π (muP q g) := by
   obtain ⟨s, hs⟩ := h
   exact ⟨s, fun x => by rw [QaF, ← e, hs]⟩
  rcases Qgg hI tq this with k | k
  ·exact absurd k hn
  ·exact k
 obtain ⟨k, w, tw, nw, hw⟩ := Qpj hI g.length g (Nat.le_refl _) tg ng
 match k, hw with
 | 0, hw =>
  refine nw ?_
  obtain ⟨s, hs⟩ := hg
  exact ⟨s, fun x => by
   have h1 := hw x
   have : evR (pwP π 0) x = 1 := Qei 1 x
   rw [this] at h1
   rw [← hs x, h1]; grind⟩
 | j + 1, hw =>
  obtain ⟨t, ht⟩ := d2
  have h1 : ∀ x, evR p x = evR (muP (pwP π (j + 1)) (muP q w)) x := fun x => by
   rw [e, hw, QaF, QaF]; grind
  have h5 : (((j + 1 : Nat) : Int) : Rat) ≠ 0 := fun h0 => by
   have : ((j + 1 : Nat) : Int) = 0 := by exact_mod_cast h0
   omega
  have h2 : ∀ x, evR (scP (muP (muP q w) (deP π)) (((j + 1 : Nat) : Int) : Rat)) x * evR (pwP π j) x = evR (muP (adP (muP t w) (scP (deP (muP q w)) (-1))) π) x * evR (pwP π j) x := fun x => by
   have a1 := ht x
   rw [Qh9, QiC h1, Qlf, der_pw, hw] at a1
   simp only [pwP, QaF] at a1
   simp only [Qnh, Qgm, QaF, Qh9]
   generalize evR q x = q' at *
   generalize evR w x = w' at *
   generalize der (muP q w) x = m' at *
   generalize evR (pwP π j) x = c at *
   generalize evR t x = t' at *
   generalize evR π x = b at *
   generalize der π x = b' at *
   generalize (((j + 1 : Nat) : Int) : Rat) = r at *
   grind
  have h3 := Qov (pw_ne hI.1 (irr_ne hI) j) h2
  have hd : Dv π (muP (muP q w) (deP π)) := by
   refine ⟨scP (adP (muP t w) (scP (deP (muP q w)) (-1))) ((((j + 1 : Nat) : Int) : Rat)⁻¹), fun x => ?_⟩
   have a := h3 x
   have b := Rat.mul_inv_cancel _ h5
   rw [Qgm, QaF _ π] at a
   rw [Qgm]
   generalize (((j + 1 : Nat) : Int) : Rat) = r at *
   generalize evR (muP (muP q w) (deP π)) x = A at *
   generalize evR (adP (muP t w) (scP (deP (muP q w)) (-1))) x = B at *
   grind
  rcases Qgg hI (Qdx _ _) hd with k | k
  ·rcases Qgg hI tq k with k | k
   ·exact hn k
   ·exact nw k
  ·exact irr_der hI k
theorem sqf_no {f π w : List Rat} (tf : Trm f) (hf : gcdP f (deP f) = [1]) (hI : Irr π) (h : ∀ x, evR f x = evR w x * evR π x * evR π x) : False := by
 obtain ⟨⟨u, v, hb⟩, _, _⟩ := QcE tf (Qbf f)
 rw [hf] at hb
 have hp : ∀ x, evR f x = evR (muP (muP w π) π) x := fun x => by rw [h, QaF, QaF]
 refine irr_con hI (e := 1) (by decide) (m := [1]) (fun x => Qei 1 x) ⟨adP (muP u (muP w π)) (muP v (adP (deP (muP w π)) (muP w (deP π)))), fun x => ?_⟩
 have h1 := hb x
 rw [Qh9, QiC hp, Qlf, h] at h1
 rw [h1]
 simp only [Qnh, QaF, Qh9]
 grind
theorem sqf_dv {f F : List Rat} (tf : Trm f) (f0 : f ≠ []) (tF : Trm F) (hf : gcdP f (deP f) = [1]) (h : ∀ π, Irr π → Dv π f → Dv π F) : Dv f F := by
 obtain ⟨⟨u, v, hb⟩, d1, d2⟩ := QcE tf tF
 have td : Trm (gcdP f F) := QcO
 obtain ⟨e, te, ne, nd, ef, _⟩ := QkX td tf f0 d1
 have hev : ∀ x, evR f x = evR e x * evR (gcdP f F) x := fun x => by
  have : evR f x = evR (muP e (gcdP f F)) x := by rw [← ef]
  rw [this, QaF]
 by_cases h2 : 2 ≤ e.length
 ·exfalso
  obtain ⟨π, hI, hπ⟩ := Qrg _ _ (Nat.le_refl _) te h2
  obtain ⟨s, hs⟩ := hπ
  have hpf : Dv π f := ⟨muP s (gcdP f F), fun x => by rw [hev, hs, QaF]; grind⟩
  obtain ⟨a, ha⟩ := hpf
  obtain ⟨b, hb2⟩ := h π hI ⟨a, ha⟩
  have hpd : Dv π (gcdP f F) := ⟨adP (muP u a) (muP v b), fun x => by rw [hb, ha, hb2, Qnh, QaF, QaF]; grind⟩
  obtain ⟨c, hc⟩ := hpd
  exact sqf_no tf hf hI (w := muP s c) fun x => by rw [hev, hs, hc, QaF]; grind
 ·have hl := List.length_pos_iff.2 ne
  match e, (show e.length = 1 by omega) with
  | [k], _ =>
   have k0 : k ≠ 0 := te 0 rfl
   obtain ⟨t, ht⟩ := d2
   refine ⟨scP t k⁻¹, fun x => ?_⟩
   have := Rat.mul_inv_cancel k k0
   rw [ht, Qgm, hev, Qei]; grind
theorem fr_is {f r : List Rat} (tf : Trm f) (f0 : f ≠ []) (mf : Mo f) (hf : gcdP f (deP f) = [1]) (tr : Trm r) (r0 : r ≠ []) (h1 : Dv f r) (h2 : ∀ π, Irr π → Dv π r → Dv π f) : frP r = f := by
 have hF := Qkk tr r0
 have nF := QfQ tr r0
 have tF := QdL r
 refine QoV tF tf (QoX (Qf7 _ _)) mf ?_ ?_
 ·exact sqf_dv tF nF tf hF fun π hI hd => h2 π hI (hd.trans (Qir tr r0))
 ·exact sqf_dv tf f0 tF hf fun π hI hd => QpT tr r0 hI (hd.trans h1)
theorem QqW {K : Nat} : ∀ (n s : Nat) (a b : List Rat), HL s s a → HL s s b → Trm b → b ≠ [] → b.length < n → (s + 1) * (dvN a b + 1) * 3 ^ b.length ≤ K * 3 ^ (gcP n a b).length → HL K K (gcP n a b)
  | 0, _, _, b, _, _, _, _, h, _ => by omega
  | n + 1, s, a, b, Ha, Hb, tb, hb, hn, hK => by
    have hlb : 0 < b.length := List.length_pos_iff.2 hb
    rw [gcP, if_neg hb] at hK ⊢
    obtain ⟨_, q2, _, _⟩ := Qjv (p := a) tb hb
    have hr := Qf8 (remP a b)
    have he2 : dvN a b * (s + 1) = s * dvN a b + dvN a b := by rw [Nat.mul_add, Nat.mul_one, Nat.mul_comm]
    have he3 : dvN a b * s = s * dvN a b := Nat.mul_comm _ _
    by_cases hr0 : mnP (remP a b) = []
    · have e : gcP n b (mnP (remP a b)) = b := by
        obtain ⟨m, rfl⟩ : ∃ m, n = m + 1 := ⟨n - 1, by omega⟩
        rw [gcP, if_pos hr0]
      rw [e] at hK ⊢
      have h3 : 0 < 3 ^ b.length := Nat.pow_pos (by decide)
      have hs : (s + 1) * (dvN a b + 1) ≤ K := Nat.le_of_mul_le_mul_right hK h3
      have : s + 1 ≤ (s + 1) * (dvN a b + 1) := Nat.le_mul_of_pos_right _ (by omega)
      exact Hb.mono (by omega) (by omega)
    · obtain ⟨_, g2, _⟩ := Qht (K := (s + dvN a b * (s + 1)) + s + 1) Ha Hb tb (by rw [he2, he3]; omega)
      have g3 := Qil g2 (trm_dv a b)
      have e1 : s + dvN a b * (s + 1) + 1 = (s + 1) * (dvN a b + 1) := by
        rw [he2, Nat.mul_add (s + 1), Nat.add_mul s 1, Nat.mul_one, Nat.one_mul]; omega
      refine QqW (K := K) n (s + dvN a b * (s + 1)) b (mnP (remP a b)) (Hb.mono (by omega) (by omega)) g3 (QeW _) hr0 (by omega) ?_
      rw [e1]
      refine Nat.le_trans ?_ hK
      rw [Nat.mul_assoc]
      refine Nat.mul_le_mul_left _ (Nat.le_trans (Nat.le_of_eq ?_) (QiW (a := (mnP (remP a b)).length) (b := b.length) (by omega)))
      congr 1
      unfold dvN; omega
end Go.AM

/- Squares, plain: what sturm.odd meets at k q^2. -/
namespace Go.AM
open Go Go.RowKit
theorem mo_mu {a b : List Rat} (ta : Trm a) (tb : Trm b) (na : a ≠ []) (nb : b ≠ []) (ma : Mo a) (mb : Mo b) : Mo (muP a b) := by
 have h1 := List.length_pos_iff.2 na
 have h2 := List.length_pos_iff.2 nb
 right
 rw [Qio ta tb na nb, show a.length + b.length - 1 - 1 = a.length - 1 + (b.length - 1) by omega, Qlq, Qja h1 h2, ma.resolve_left na, mb.resolve_left nb, Rat.mul_one]
theorem mu_ne {a b : List Rat} (ta : Trm a) (tb : Trm b) (na : a ≠ []) (nb : b ≠ []) : muP a b ≠ [] := fun h => by
 have := Qio ta tb na nb
 have h1 := List.length_pos_iff.2 na
 have h2 := List.length_pos_iff.2 nb
 rw [h] at this
 simp only [List.length_nil] at this
 omega
theorem Qrw {a : List Rat} {k : Rat} (ta : Trm a) (na : a ≠ []) (hk : k ≠ 0) : scP a k ≠ [] := fun h => by
 obtain ⟨x, hx⟩ := ev_ne ta na
 have : evR (scP a k) x = 0 := by rw [h, QaD]
 rw [Qgm] at this
 rcases Rat.mul_eq_zero.1 this with c | c
 ·first
  | exact hx c
  | exact hk c
 ·first
  | exact hk c
  | exact hx c
theorem Qml {q : List Rat} (tq : Trm q) (q0 : q ≠ []) (mq : Mo q) : q = muP (frP q) (gcdP q (deP q)) ∧ Mo (frP q) ∧ Mo (gcdP q (deP q)) ∧ gcdP q (deP q) ≠ [] := by
 obtain ⟨ng, e, nF⟩ := Qhh tq q0
 have mg := Qmk tq (Qbf q)
 have mf : Mo (frP q) := QoX (Qf7 _ _)
 have tg : Trm (gcdP q (deP q)) := QcO
 refine ⟨?_, mf, mg, ng⟩
 refine QoV tq (Qdx _ _) mq (mo_mu (QdL q) tg (QfQ tq q0) ng mf mg) ?_ ?_
 ·obtain ⟨s, hs⟩ : Dv (quoP q (gcdP q (deP q))) (frP q) := dv_mn
  exact ⟨s, fun x => by rw [QaF, hs, e]; grind⟩
 ·obtain ⟨s, hs⟩ : Dv (frP q) (quoP q (gcdP q (deP q))) := QrS (Qf7 _ _)
  exact ⟨s, fun x => by rw [QaF, e, hs]; grind⟩
theorem irr_sc {π a : List Rat} {k : Rat} (hk : k ≠ 0) (h : Dv π (scP a k)) : Dv π a := by
 obtain ⟨s, hs⟩ := h
 refine ⟨scP s k⁻¹, fun x => ?_⟩
 have := Rat.mul_inv_cancel k hk
 have h2 := hs x
 rw [Qgm] at h2 ⊢
 generalize evR a x = A at *; generalize evR s x = S at *; generalize evR π x = P at *
 grind
section
variable {q : List Rat} {k : Rat}
theorem sq_fr (tq : Trm q) (q0 : q ≠ []) (mq : Mo q) (hk : k ≠ 0) {b : List Rat} (tb : Trm b) (b0 : b ≠ []) (hb : Dv b q) : frP (scP (muP q b) k) = frP q := by
 obtain ⟨_, mf, _, _⟩ := Qml tq q0 mq
 refine fr_is (QdL q) (QfQ tq q0) mf (Qkk tq q0) (Qg6 _ _) (Qrw (Qdx _ _) (mu_ne tq tb q0 b0) hk) ?_ ?_
 ·obtain ⟨s, hs⟩ := Qir tq q0
  exact ⟨scP (muP s b) k, fun x => by rw [Qgm, QaF, hs, Qgm, QaF]; grind⟩
 ·intro π hI hd
  rcases Qgg hI tq (irr_sc hk hd) with h | h
  ·exact QpT tq q0 hI h
  ·exact QpT tq q0 hI (h.trans hb)
theorem sq_quo (tq : Trm q) (q0 : q ≠ []) (mq : Mo q) {b : List Rat} : quoP (scP (muP q b) k) (frP q) = scP (muP b (gcdP q (deP q))) k := by
 obtain ⟨e, mf, mg, ng⟩ := Qml tq q0 mq
 refine (QpX (r := []) (QdL q) (QfQ tq q0) (Qg6 _ _) Qeh (by simp) fun x => ?_).1
 have h : evR q x = evR (frP q) x * evR (gcdP q (deP q)) x := by
  have : evR q x = evR (muP (frP q) (gcdP q (deP q))) x := by rw [← e]
  rw [this, QaF]
 rw [Qgm, QaF, Qgm, QaF, QaD, h]
 grind
theorem gcd_same {f : List Rat} (tf : Trm f) (f0 : f ≠ []) (mf : Mo f) : gcdP f f = f := by
 refine gcd_is tf tf tf mf (Dv.refl f) (Dv.refl f) (u := [1]) (v := []) fun x => ?_
 rw [Qei, QaD]; grind
theorem quo_same {f : List Rat} (tf : Trm f) (f0 : f ≠ []) : quoP f f = [1] :=
 (QpX (r := []) tf f0 Qd1 Qeh (by simp) fun x => by rw [Qei, QaD]; grind).1
theorem mu_11 : muP [1] [1] = [(1 : Rat)] := Qc3 (Qdx _ _) Qd1 fun x => by rw [QaF, Qei]; grind
end
end Go.AM

/- sturm.odd: its loop's end. -/
namespace Go.AM
open Go Go.RowKit
def QmB (a b : D) : St := mkS [(3, .d a), (4, .d b)] []
variable [Its]
theorem od_stop {d1 d2 : D} {r : List Rat} (hr : RwR d2 r) (h : r.length ≤ 1) : X G Qbh (QmB d1 d2) = some (.x 0, mkS [(3, .d d1)] []) := by
 have l := hr.len
 have e : decide ((r.length : Int) > 1) = false := decide_eq_false (by omega)
 simp -implicitDefEqProofs (maxSteps:=9^8) only [Qbh, QmB, l, e, go_sem, iv, bv, reduceCtorEq, ↓reduceIte, Nat.reduceEqDiff]
theorem odd_end {dp d1 : D} {g : List Rat} (h : X G (.loop Qbh) (QmB (rowR [1]) dp) = some (.x 0, mkS [(3, .d d1)] [])) : Qah G Qcr [dp] = some (.d d1) := by
 rw [Qad (cf := Qha) rfl]
 have o := Qea (n := 1) (d := 1) ⟨by omega, by omega⟩ ⟨by omega, by omega⟩
 rw [Qdy, show ((1 : Int) : Rat) = 1 from rfl] at o
 have ea : rowR [1] = .row 1 [.v (.bool (decide ((1 : Rat).num < 0))), dg (digs (1 : Rat).num.natAbs), .v (.bool false), dg (dd (1 : Rat).den)] := rfl
 rw [ea] at h
 generalize (1 : Rat) = q at *
 simp only [encR, iv] at o
 simp only [QmB, go_sem] at h
 simp -implicitDefEqProofs (maxSteps:=9^8) only [Qha, encR, o, h, rep1_4, Qf9, Qc7, Qac, go_sem, iv, bv, reduceCtorEq, ↓reduceIte, Nat.reduceEqDiff]
end Go.AM

