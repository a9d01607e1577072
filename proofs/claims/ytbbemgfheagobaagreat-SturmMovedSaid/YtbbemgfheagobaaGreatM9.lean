/- Part 9 of the proof: a small machine, its soundness against the model, and what the program's functions compute on it. -/
import Derived.Test.YtbbemgfheagobaaGreatM3
import Derived.Test.YtbbemgfheagobaaGreatM8
import Derived.Test.YtbbemgfheagobaaGreatRows
import Derived.Test.YtbbemgfheagobaaGreatM4
import Derived.WalkKit
import Derived.ProofKit
import Derived.OpenShut
import Derived.ShutString
import Derived.ChangeOld
import Derived.Below
import Derived.SizedLaws
set_option linter.unusedVariables false
set_option linter.unusedSimpArgs false
/- Iterators whose closures call themselves: a region's operations one by one; calls that yield. -/
namespace Go.AM
open Go Go.RowKit

section
variable {P : Program}
theorem Qo0 {n m l : Nat} {args : Array Value} {W : World} {R : Ending → World → Prop} (h : YieldAt Fence.wide n P l args W R) : YieldAt Fence.wide m P l args W R := by
 obtain ⟨fn, t, a, b, h1, h2⟩ := h
 exact ⟨fn, t, a, b, h1, h2.1, fun c cs _ => h2.2 c cs (room_wide _)⟩
theorem QnS {n l : Nat} {args : Array Value} {W : World} {R R' : Ending → World → Prop} (h : YieldAt Fence.wide n P l args W R) (hr : ∀ e w, R e w → R' e w) : YieldAt Fence.wide n P l args W R' := by
 obtain ⟨fn, t, a, b, h1, h2⟩ := h
 exact ⟨fn, t, a, b, h1, h2.mono hr⟩
theorem Qko {n m : Nat} {f : FuncId} {args : Array Value} {W : World} {R : Ending → World → Prop} (h : CallsIn Fence.wide n P f args W R) : CallsIn Fence.wide m P f args W R :=
 callsIn_wide.2 (callsIn_wide.1 h)
theorem Answers.any {n m : Nat} {S : Nat → Prop} {w0 : World} {l : Nat} {J Jx : Held} {xs : List (List D)} (h : Answers P n S w0 l J Jx xs) : Answers P m S w0 l J Jx xs :=
 fun i x L V W args hx hj hr => Qo0 (h i x L V W args hx hj hr)
end

section
variable {S : Nat → Prop} {w0 : World} {N n : Nat} {J Jx : Held} {st s : St} {i : Nat} {a a' : Act} {W W' : World} {P : Program} {Γ : Env}
variable {ops : Array Oper} {os : List O} {R : Ex → Act → World → Prop} {k len : Nat}

def WO (P : Program) (n : Nat) (ops : Array Oper) (R : Ex → Act → World → Prop) (k len : Nat) (a : Act) (W : World) : Prop := wpOpsIn Fence.wide (n + 1) P ops (toQ R) (List.range' k len) a W
theorem Qnl (h : R .n a W) : WO P n ops R k 0 a W := h
theorem Qi6     (hE : EnvOk P Γ) (hab : QfF   w0 J) (hO : Ops P N ops os) (h : Inv S w0 N J st i a W) {B : List O} (hB : ∀ j o, B[j]? = some o → os[k + j]? = some o) (hx : exs (Qaj   Γ) B st = some s)
    (hK : ∀ a' W', Inv S w0 N J s i a' W' → WO P n ops R (k + B.length) len a' W') : WO P n ops R k (B.length + len) a W := by
  obtain ⟨m, L, h⟩ := h
  unfold WO
  have hap := @List.range'_append_1 k B.length len
  rw [← hap]
  refine QiY (wd := ⟨W, Live m st.hp, fun _ => none, fun _ => False⟩) (fun f ds r h => (QhN hE h).at (Qhb Qj2 _ _)) wide_ok hO _ h.rel (by rw [← QlL B k st hB]; exact hx) ?_
  intro m1 a1 W1 R1
  exact hK a1 W1 ⟨m1, L, h.next hab R1⟩
theorem QpD      {o : Oper} {c : Call} {ty f : Nat} {us : List Value} (hoo : ops[k]? = some o) (hop : o.op = .call c) (hce : c.callee = .value (.tmp ty)) (hwant : Region.wanted o (yielded ops a.tmps) = true) (hv : a.eval (.tmp ty) = .func (.func f) #[] us.toArray)
    (hf : ∃ fn, P.funcs[f]? = some fn ∧ fn.body.isSome = true ∧ fn.name ≠ "runtime.NumGoroutine")
    (hcall : CallsIn Fence.wide 0 P f (c.args.toList.map a.eval ++ us).toArray W fun e W' => ∃ v, e = .returned v ∧ WO P n ops R (k + 1) len (a.put o.dst v) W') : WO P n ops R k (len + 1) a W := by
  obtain ⟨fn, hfn, hb, hn⟩ := hf
  unfold WO
  rw [List.range'_succ, wpOpsIn_cons]
  unfold wpOpIn
  simp only [hoo, hwant, if_true]
  have hargs' : c.args.map a.eval = (c.args.toList.map a.eval).toArray := by apply Array.ext'; simp
  have hexec : (execOp a.eval o).run P W = .ok (.enter f (c.args.toList.map a.eval ++ us).toArray) W := by
    simp only [execOp, hop, resolve, hce, hv, Deferred.ofValue, Sem.run_bind, Sem.run_pure, Result.andThen_ok, invoke, hargs']
    rw [Qeo hfn hb hn]
    congr 2
    simp
  refine ⟨fun f _ => trivial, ?_⟩
  rw [Oper.semAt_eq _ _ _ (fun c' h => by rw [hop] at h; cases h), hexec, Oper.uponIn_enter]
  refine ⟨fun h => (by cases h), ?_⟩
  refine (Qko hcall).mono ?_
  rintro e W2 ⟨v, rfl, h⟩
  exact h

def OwesY (P : Program) (S : Nat → Prop) (w0 : World) (J Jx : Held) (f i mm : Nat) (ds : List D) : Prop :=
 ∀ (L V : Nat → Prop) (W : World) (args : List Value), J i L V W → (∀ b, V b → w0.heap.size ≤ b ∧ b < W.heap.size) → (∀ b, L b → b < W.heap.size) → w0.heap.size ≤ W.heap.size →
  RepL (fun b => (S b ∨ w0.heap.size ≤ b) ∧ b < W.heap.size ∧ ¬ V b ∧ ¬ L b) W ds args →
  CallsIn Fence.wide 0 P f args.toArray W fun e W' => ∃ L', Foot L W W' ∧ (∀ b, L' b → b < W.heap.size → L b) ∧ (∀ b, L' b → b < W'.heap.size) ∧
   ((e = .returned (.bool true) ∧ J (i + mm) L' V W') ∨ (e = .returned (.bool false) ∧ ∃ i', Jx i' L' V W'))

theorem Inv1.after {m : Key → Nat} {L L' : Nat → Prop} {J' : Held} {j : Nat} (h : Inv1 S w0 N J st i a W m L) (f1 : Foot L W W') (f2 : ∀ b, L' b → b < W.heap.size → L b) (f3 : ∀ b, L' b → b < W'.heap.size) (hj : J' j L' (Live m st.hp) W') : Inv1 S w0 N J' st j a W' m L' := by
 have hsz : W.heap.size ≤ W'.heap.size := f1.size
 have R2 : Rel (fun b => (S b ∨ w0.heap.size ≤ b) ∧ ¬ L' b) N ⟨W', Live m st.hp, fun _ => none, fun _ => False⟩ m st a W' :=
  h.rel.move rfl hsz (fun b hb hs => ⟨hs.1, fun hl => hs.2 (f2 b hl hb)⟩) (fun b cs T fz hs hh => by rw [f1.block b (Qcc hh) hs.2]; exact hh)
   (fun b hb => ⟨.inr (by have := h.sz; omega), fun hl => by have := f3 b hl; omega⟩) (Foot.refl _ _) (fun k o ho hz => .inl ⟨k, o, ho, hz, rfl⟩) ⟨[], (show Inv S w0 N J st i a W from ⟨m, L, h⟩).nodefer, List.nodup_nil, by simp⟩ (fun k b hb => by cases hb)
 exact ⟨R2, hj, f3, h.ge, Nat.le_trans h.sz hsz⟩

theorem Qoy     (hO : Ops P N ops os) {d : Option Nat} {ty : Nat} {es : List E} {g : Option (Nat × Bool)} (ho : os[k]? = some ⟨d, .calv (.t ty) es, g⟩) :
    ∃ o c, ops[k]? = some o ∧ o.op = .call c ∧ c.callee = .value (.tmp ty) ∧ mapO Qaw c.args.toList = some es ∧ o.dst = d ∧ QoK ops o.guard = some g := by
  have hk : k < os.length := (List.getElem?_eq_some_iff.1 ho).1
  have hk2 : k < ops.size := by rw [← hO.len]; exact hk
  obtain ⟨o2, g2, gc, gd, gg⟩ := hO.at_ k ops[k] (by simp [hk2])
  rw [ho] at g2
  cases g2
  obtain ⟨c, u, k1, k2, k3, k4⟩ := Qhk gc
  cases u with
  | tmp u => simp only [Qaw, Option.some.injEq, E.t.injEq] at k3; subst k3; exact ⟨ops[k], c, by simp [hk2], k1, k2, k4, gd.symm, gg⟩
  | _ => simp [Qaw] at k3

theorem QiZ {m : Key → Nat} {hp : Hp} {T : Nat → Prop} {w : World} : ∀ (xs : List D) (vs : List Value), RepAL m hp T w (xs.map A.d) vs → RepL T w xs vs
 | [], vs, hv => by cases hv; exact .nil
 | y :: ys, vs, hv => by
  cases hv with
  | cons _ _ v vs hy ht => exact .cons _ _ _ _ (QfJ hy) (QiZ ys vs ht)

theorem wo_call (hE : EnvOk P Γ) (hab : QfF   w0 J) (habx : QfF   w0 Jx) (hO : Ops P N ops os) (h : Inv S w0 N J st i a W) {d ty f mm : Nat} {es : List E} {g : Option (Nat × Bool)} {x caps : List D}
    (ho : os[k]? = some ⟨some d, .calv (.t ty) es, g⟩) (hg : Qcj st g = some true) (h2 : st.fr ty = some (.d (.fn f caps))) (h3 : allE st es = some (x.map .d))
    (hf : ∃ fn, P.funcs[f]? = some fn ∧ fn.body.isSome = true ∧ fn.name ≠ "runtime.NumGoroutine") (hcon : OwesY P S w0 J Jx f i mm (x ++ caps))
    (hKt : ∀ a' W', Inv S w0 N J { st with fr := upd st.fr d (.d (.v (.bool true))) } (i + mm) a' W' → WO P n ops R (k + 1) len a' W')
    (hKf : ∀ i' a' W', Inv S w0 N Jx { st with fr := upd st.fr d (.d (.v (.bool false))) } i' a' W' → WO P n ops R (k + 1) len a' W') : WO P n ops R k (len + 1) a W := by
  obtain ⟨o, c, hoo, hop, hce, hargs, hd, hgg⟩ := Qoy hO ho
  have hdN : d < N := hO.lt _ (List.mem_of_getElem? ho) d rfl
  obtain ⟨m, L, h⟩ := h
  have hv := h.rel.fr ty _ h2
  obtain ⟨us, hus, hrc⟩ : ∃ us : List Value, a.eval (.tmp ty) = .func (.func f) #[] us.toArray ∧ RepL (Im (fun b => (S b ∨ w0.heap.size ≤ b) ∧ ¬ L b) m st.hp W) W caps us := by
    have := QfJ hv
    generalize hz : a.tmps.getD ty undef = z at this
    cases this with
    | fn _ _ vs hl => exact ⟨vs, hz, hl⟩
  obtain ⟨hrep, _⟩ := Qd7 h.rel hargs h3
  have hra := QiZ _ _ hrep
  refine QpD hoo hop hce (QdZ h.rel hgg rfl hg) hus hf ?_
  refine (hcon L (Live m st.hp) W _ h.j (fun b hb => ⟨h.ge b hb, ?_⟩) h.lt h.sz ((hra.append hrc).mono (fun b hb => ⟨hb.1.1, hb.2.1, hb.2.2, hb.1.2⟩) (fun _ _ => rfl))).mono ?_
  · obtain ⟨k, o, ho, hf, rfl⟩ := hb
    exact h.rel.lt ho
  rintro e W2 ⟨L', f1, f2, f3, f4⟩
  have go : ∀ (t : Bool) (J' : Held) (j : Nat), J' j L' (Live m st.hp) W2 → (∀ a' W', Inv S w0 N J' { st with fr := upd st.fr d (.d (.v (.bool t))) } j a' W' → WO P n ops R (k + 1) len a' W') → WO P n ops R (k + 1) len (a.put o.dst (.bool t)) W2 := by
    intro t J' j hj hK
    have I2 := h.after f1 f2 f3 hj
    have R3 := I2.rel.put (dst := some d) (y := .d (.v (.bool t))) (v := .bool t) (fun d' hd' => by cases hd'; exact hdN) (.d _ _ (.v _)) trivial
    rw [hd]
    exact hK _ _ ⟨m, L', R3, hj, f3, I2.ge, I2.sz⟩
  rcases f4 with ⟨rfl, hj⟩ | ⟨rfl, i', hj⟩
  · exact ⟨_, rfl, go true J _ hj hKt⟩
  · exact ⟨_, rfl, go false Jx i' hj (hKf i')⟩

theorem QnL {d : Option Nat} {ty k0 : Nat} {es : List E} {g : Option (Nat × Bool)} (hk : os[k0]? = some ⟨d, .calv (.t ty) es, g⟩) (h : ∀ ops, Ops P N ops os → WO P n ops R 0 os.length a W) : WY P N (n + 1) (.reg (os.map O.er) []) R a W := by
  refine Ql8 (by simp only [QeK, ne_eq, reduceCtorEq, not_false_eq_true]) fun hw code ho hns hc => ?_
  cases code <;> first | exact absurd rfl (hns _) | (obtain ⟨_, _, _, _, h'⟩ := Qds hc; cases h') | skip
  case region id ops draw =>
    simp only [QaD, Option.bind_eq_some_iff] at hc
    obtain ⟨os', hos, hc⟩ := hc
    have hos' : os' = os.map O.er := by
      split at hc
      · split at hc
        · simp only [Option.map_eq_some_iff, C.reg.injEq] at hc
          obtain ⟨_, _, rfl, _⟩ := hc; rfl
        · cases hc
      · simp only [Option.some.injEq, C.reg.injEq] at hc; exact hc.1
    subst hos'
    have hO := QlM (N := N) hos (by simpa only [C.within] using hw)
    obtain ⟨o, c, hoo, hop, hcal, _, _, _⟩ := Qoy hO hk
    have hdraw : draw = false := by
      cases draw with
      | false => rfl
      | true =>
        simp only [okY, Bool.not_true, Bool.false_or, List.all_eq_true] at ho
        have := ho o (Array.mem_toList_iff.2 (Array.mem_of_getElem? hoo))
        rw [hop] at this
        simp only [hcal] at this
        cases this
    subst hdraw
    refine wpIn_region ?_
    have h1 := h ops hO
    rw [hO.len] at h1
    rw [List.range_eq_range']
    exact h1
  all_goals simp [QaD, Option.bind_eq_some_iff] at hc
end

/-! ### Seen from the callee -/
def Under (W : World) (L0 V0 : Nat → Prop) (J : Held) : Held := fun i L V W' => J i L (fun b => V b ∨ V0 b) W' ∧ Foot L0 W W' ∧ (∀ b, L b → b < W.heap.size → L0 b) ∧ (∀ b, L b → b < W'.heap.size) ∧ (∀ b, V b → W.heap.size ≤ b)
def SIn (S : Nat → Prop) (w0 W : World) (L0 V0 : Nat → Prop) (b : Nat) : Prop := (S b ∨ w0.heap.size ≤ b) ∧ b < W.heap.size ∧ ¬ V0 b ∧ ¬ L0 b
section
variable {S : Nat → Prop} {w0 W : World} {L0 V0 : Nat → Prop} {J Jx : Held} {P : Program} {n l : Nat} {xs : List (List D)}
theorem Under.abide (hab : QfF w0 J) (hV0 : ∀ b, V0 b → w0.heap.size ≤ b ∧ b < W.heap.size) (hsz : w0.heap.size ≤ W.heap.size) : QfF W (Under W L0 V0 J) := by
 rintro i L V V' W1 W2 ⟨h1, h2, h3, h4, h5⟩ hf hv1 hv2
 have z1 : W.heap.size ≤ W1.heap.size := h2.size
 have z2 : W1.heap.size ≤ W2.heap.size := hf.size
 refine ⟨hab i L _ _ W1 W2 h1 (hf.mono fun b _ hb => .inl hb) ?_ ?_, ?_, h3, fun b hb => Nat.lt_of_lt_of_le (h4 b hb) z2, fun b hb => (hv2 b hb).1⟩
 ·rintro b (hb | hb) hlt
  ·exact .inl (hv1 b hb hlt)
  ·exact .inr hb
 ·rintro b (hb | hb)
  ·exact ⟨by have := (hv2 b hb).1; omega, (hv2 b hb).2⟩
  ·have := hV0 b hb
   exact ⟨this.1, by omega⟩
 ·exact h2.trans hf (fun b hb => .inr (h5 b hb))
theorem Under.answers (hans : Answers P n S w0 l J Jx xs) (hV0 : ∀ b, V0 b → w0.heap.size ≤ b ∧ b < W.heap.size) (hsz : w0.heap.size ≤ W.heap.size) : Answers P n (SIn S w0 W L0 V0) W l (Under W L0 V0 J) (Under W L0 V0 Jx) xs := by
 rintro i x L V W1 args hx ⟨h1, h2, h3, h4, h5⟩ hr
 have z1 : W.heap.size ≤ W1.heap.size := h2.size
 refine QnS (hans i x L _ W1 args hx h1 (hr.mono (fun b hb => ?_) (fun _ _ => rfl))) ?_
 ·obtain ⟨hb1, hb2, hb3, hb4⟩ := hb
  rcases hb1 with hb1 | hb1
  ·exact ⟨hb1.1, hb2, fun h => h.elim hb3 hb1.2.2.1, hb4⟩
  ·exact ⟨.inr (by omega), hb2, fun h => h.elim hb3 (fun h => by have := (hV0 b h).2; omega), hb4⟩
 ·rintro e W2 ⟨L', f1, f2, f3, f4⟩
  have g : ∀ (J' : Held), J' (i + 1) L' (fun b => V b ∨ V0 b) W2 → Under W L0 V0 J' (i + 1) L' V W2 := fun J' hj =>
   ⟨hj, h2.trans f1 (fun b hb => if hlt : b < W.heap.size then .inl (h3 b hb hlt) else .inr (by omega)), fun b hb hlt => h3 b (f2 b hb (by omega)) hlt, f3, h5⟩
  refine ⟨L', f1, f2, f3, ?_⟩
  rcases f4 with ⟨rfl, hj⟩ | ⟨rfl, hj⟩
  ·exact .inl ⟨rfl, g J hj⟩
  ·exact .inr ⟨rfl, g Jx hj⟩
end
section
variable {P : Program} {Γ : Env}
theorem owes_ok (hE : EnvOk P Γ) {f : Nat} {cf : CF} {fn : Func} {ds : List D} {xs : List (List D)} {n l i mm : Nat} {S : Nat → Prop} {w0 : World} {J Jx : Held} (hf : P.funcs[f]? = some fn) (hc : Qih   P fn = some cf.er) (hok : ∀ b, fn.body = some b → okY b = true) (hnp : cf.np = ds.length)
    (hab : QfF w0 J) (habx : QfF w0 Jx) (hans : Answers P n S w0 l J Jx xs)
    (hwalk : ∀ (S : Nat → Prop) (w0 : World) (J Jx : Held) (a : Act) (W : World), QfF w0 J → QfF w0 Jx → Answers P n S w0 l J Jx xs → Inv S w0 fn.ntmps J ⟨argF 0 ds, hp0, []⟩ i a W →
      WY P fn.ntmps (n + 1) cf.body.er (fun e a' W' => (∀ id, e ≠ .x id) ∧ ((∃ st, resL st cf.res = some [.d (.v (.bool true))] ∧ Inv S w0 fn.ntmps J st (i + mm) a' W') ∨ ∃ st i', resL st cf.res = some [.d (.v (.bool false))] ∧ Inv S w0 fn.ntmps Jx st i' a' W')) a W) : OwesY P S w0 J Jx f i mm ds := by
  simp only [Qih, Option.bind_eq_some_iff] at hc
  obtain ⟨body, hb, c, hcc, hc⟩ := hc
  split at hc
  · rename_i hchk
    simp only [Bool.and_eq_true, decide_eq_true_eq, bne_iff_ne, ne_eq] at hchk
    obtain ⟨⟨hw, hsz⟩, hname⟩ := hchk
    simp only [Option.map_eq_some_iff] at hc
    obtain ⟨rs, hrs, hcf'⟩ := hc
    have e1 : cf.np = fn.params.size + fn.nfree := (congrArg CF.np hcf').symm
    have e2 : c = cf.body.er := congrArg CF.body hcf'
    have e3 : rs = cf.res := congrArg CF.res hcf'
    subst e2
    rw [e3] at hrs
    intro L V W vs hj hV0 hL0 hsz0 hrep
    have hvl : vs.length = ds.length := hrep.length.symm
    have hN : ((vs.toArray : Array Value) ++ Array.replicate (fn.ntmps - (vs.toArray : Array Value).size) undef).size = fn.ntmps := by simp; omega
    refine Qko (callsIn_of_wp (n := n + 1) (F := Fence.wide) hf hb trivial ?_)
    have hR : Inv (SIn S w0 W L V) W fn.ntmps (Under W L V J) ⟨argF 0 ds, hp0, []⟩ i { tmps := (vs.toArray : Array Value) ++ Array.replicate (fn.ntmps - (vs.toArray : Array Value).size) undef, defers := [] } W := by
      have hSm : ∀ b, ((S b ∨ w0.heap.size ≤ b) ∧ b < W.heap.size ∧ ¬ V b ∧ ¬ L b) → Im (fun b => (SIn S w0 W L V b ∨ W.heap.size ≤ b) ∧ ¬ L b) (fun _ => 0) hp0 W b := fun b hb => ⟨⟨.inl hb, hb.2.2.2⟩, hb.2.1, fun ⟨_, _, h, _⟩ => by simp [hp0] at h⟩
      have hV : (fun b => Live (fun _ => 0) hp0 b ∨ V b) = V := by
        funext b; exact propext ⟨fun h => h.elim (fun ⟨_, _, h, _⟩ => by simp [hp0] at h) id, .inr⟩
      refine ⟨fun _ => 0, L, ⟨⟨fun i x hx => ?_, fun _ _ h => by simp [hp0] at h, fun _ _ _ _ h => by simp [hp0] at h, fun i x hx => ?_, fun _ _ _ h => by simp [hp0] at h, fun _ _ h => by simp [hp0] at h, fun _ _ h => by simp [hp0] at h, Foot.refl _ _, Marks.nil _ _ _, hN, fun b hb => ⟨.inr hb, fun hl => by have := hL0 b hl; omega⟩, fun _ _ h => by cases h⟩, ?_, hL0, fun b ⟨_, _, h, _⟩ => by simp [hp0] at h, Nat.le_refl _⟩⟩
      · obtain ⟨_, d, hd, rfl⟩ := Qf7 ds 0 i x hx
        obtain ⟨v, hv, hdv⟩ := hrep.get i d (by simpa using hd)
        have : ((vs.toArray : Array Value) ++ Array.replicate (fn.ntmps - (vs.toArray : Array Value).size) undef).getD i undef = v := by
          have hil : i < vs.length := (List.getElem?_eq_some_iff.1 hv).1
          rw [Array.getD_eq_getD_getElem?, Array.getElem?_append_left (by simpa using hil)]
          simp [hv]
        rw [this]
        exact .d _ _ (hdv.mono hSm (fun _ _ => rfl))
      · obtain ⟨_, d, _, rfl⟩ := Qf7 ds 0 i x hx
        trivial
      · refine ⟨?_, Foot.refl _ _, fun b hb _ => hb, hL0, fun b ⟨_, _, h, _⟩ => by simp [hp0] at h⟩
        show J i L (fun b => Live (fun _ => 0) hp0 b ∨ V b) W
        rw [hV]; exact hj
    refine wpIn_mono (hwalk _ W _ _ _ W (Under.abide hab hV0 hsz0) (Under.abide habx hV0 hsz0) (Under.answers hans hV0 hsz0) hR hw body (hok body hb) hcc) ?_
    intro e a' W' hq
    have key : ∀ (t : Bool) (J' : Held) (j : Nat) (st : St), QfF w0 J' → resL st cf.res = some [.d (.v (.bool t))] → Inv (SIn S w0 W L V) W fn.ntmps (Under W L V J') st j a' W' → a'.defers = [] ∧ (results fn a'.tmps).run P W' = .ok (.bool t) W' ∧ ∃ L', Foot L W W' ∧ (∀ b, L' b → b < W.heap.size → L b) ∧ (∀ b, L' b → b < W'.heap.size) ∧ J' j L' V W' := by
      intro t J' j st hab' hr hI
      refine ⟨hI.nodefer, ?_, ?_⟩
      · obtain ⟨m, L', hI⟩ := hI
        obtain ⟨us, k1, k2, _⟩ := Qhn hI.rel hrs hr
        cases k2 with
        | cons _ _ v vs' hv ht =>
          cases ht
          have := Qei hv
          subst this
          exact Qgp k1
      · obtain ⟨m, L', hI⟩ := hI
        obtain ⟨h1, h2, h3, h4, h5⟩ := hI.j
        exact ⟨L', h2, h3, h4, hab' j L' _ _ W' W' h1 (Foot.refl _ _) (fun b hb _ => .inr hb) (fun b hb => ⟨(hV0 b hb).1, Nat.lt_of_lt_of_le (hV0 b hb).2 h2.size⟩)⟩
    have fin : ((∃ st, resL st cf.res = some [.d (.v (.bool true))] ∧ Inv (SIn S w0 W L V) W fn.ntmps (Under W L V J) st (i + mm) a' W') ∨ ∃ st i', resL st cf.res = some [.d (.v (.bool false))] ∧ Inv (SIn S w0 W L V) W fn.ntmps (Under W L V Jx) st i' a' W') →
        a'.defers = [] ∧ ∃ v, (results fn a'.tmps).run P W' = .ok v W' ∧ ∃ L', Foot L W W' ∧ (∀ b, L' b → b < W.heap.size → L b) ∧ (∀ b, L' b → b < W'.heap.size) ∧ ((Ending.returned v = .returned (.bool true) ∧ J (i + mm) L' V W') ∨ (Ending.returned v = .returned (.bool false) ∧ ∃ i', Jx i' L' V W')) := by
      rintro (⟨st, hr, hI⟩ | ⟨st, i', hr, hI⟩)
      · obtain ⟨h1, h2, L', h3, h4, h5, h6⟩ := key true J _ st hab hr hI
        exact ⟨h1, _, h2, L', h3, h4, h5, .inl ⟨rfl, h6⟩⟩
      · obtain ⟨h1, h2, L', h3, h4, h5, h6⟩ := key false Jx _ st habx hr hI
        exact ⟨h1, _, h2, L', h3, h4, h5, .inr ⟨rfl, i', h6⟩⟩
    cases e with
    | normal => exact fin hq.2
    | ret => exact fin hq.2
    | exit id => exact absurd rfl (hq.1 id)
    | _ => exact hq.elim
  · cases hc
end
end Go.AM

/- sturm.zeros' closure that calls itself. -/
namespace Go.AM
open Go Go.RowKit Go.Proofs
def C.fst7 : C → C
 | .seq a _ => a
 | .blk _ a => a
 | .loop a => a
 | c => c
def C.snd7 : C → C
 | .seq _ b => b
 | c => c
def wtZ (K : Nat) (ps : List (List Rat)) : Nat → Rat × Rat → Option (List (Rat × Rat))
  | 0, _ => none
  | n + 1, l => if sz l.1 ≤ K ∧ sz l.2 ≤ K then
      if cnt ps l.1 l.2 = 0 then some [] else if cnt ps l.1 l.2 = 1 then some [l]
      else (wtZ K ps n (l.1, mid l.1 l.2)).bind fun a => (wtZ K ps n (mid l.1 l.2, l.2)).map (a ++ ·)
    else none
def zr_A : C := sturm_zeros_1_1.body.fst7
def zr_B : C := sturm_zeros_1_1.body.snd7.fst7.fst7
def zr_blk : C := sturm_zeros_1_1.body.snd7.fst7.snd7.fst7.fst7
def zr_C : C := zr_blk.fst7
def QjR : C := zr_blk.snd7
def zr_D : C := match QjR with | .cond _ a _ => a.fst7 | c => c
def zr_E : C := match QjR with | .cond _ _ b => b.fst7 | c => c
def zr_M : C := sturm_zeros_1_1.body.snd7.snd7.fst7
def zr_Y1 : List O := [⟨some 17, .load none (.t 2), none⟩, ⟨some 18, .load (some 8) (.t 4), none⟩]
def zr_Y2 : List O := [⟨some 5, .mov (.t 19), none⟩]
def zr_V1 : List O := [⟨some 22, .load none (.t 3), none⟩, ⟨some 23, .fad 0 (.t 4), none⟩, ⟨some 24, .load (some 4) (.t 23), none⟩, ⟨some 25, .load (some 4) (.t 6), none⟩,
 ⟨some 26, .build [.v (.bool false), .z true, .v (.bool false), .z true, .v (.bool false), .z true, .v (.bool false), .z true] [(0, 4, (.t 24)), (4, 4, (.t 25))], none⟩]
def Qof : List O := [⟨some 28, .mov (.t 27), none⟩, ⟨some 29, .load none (.t 3), some (28, true)⟩, ⟨some 30, .load (some 4) (.t 6), some (28, true)⟩, ⟨some 31, .fad 4 (.t 4), some (28, true)⟩, ⟨some 32, .load (some 4) (.t 31), some (28, true)⟩,
 ⟨some 33, .build [.v (.bool false), .z true, .v (.bool false), .z true, .v (.bool false), .z true, .v (.bool false), .z true] [(0, 4, (.t 30)), (4, 4, (.t 32))], some (28, true)⟩]
def Qnc : List O := [⟨some 35, .pick (.t 28) (.t 34) (.c (.v (.bool false))), none⟩, ⟨some 5, .mov (.t 35), none⟩]
def zr_V : List O := zr_V1 ++ ⟨some 27, .calv (.t 22) [.t 26], none⟩ :: (Qof ++ ⟨some 34, .calv (.t 29) [.t 33], some (28, true)⟩ :: Qnc)
theorem zr_shape : sturm_zeros_1_1.body.er = .seq zr_A.er (.seq (.seq zr_B.er (.blk 0 (.seq zr_C.er (.cond (.t 13) (.seq zr_D.er .ret) (.seq zr_E.er (.cond (.t 15) (.seq (.reg ((zr_Y1 ++ ⟨some 19, .calv (.t 17) [.t 18], none⟩ :: zr_Y2).map O.er) []) .ret) .skip)))))) (.seq zr_M.er (.seq (.reg (zr_V.map O.er) []) .ret))) := rfl
def vpre (dc : D) (y : Nat) : List D := [.rp [dc], .rp [yv y]]
def bxZ (l : Rat × Rat) : Obj := ⟨0, 0, (c2R l).map .d, false⟩
def QoU (dc : D) (y : Nat) (l : Rat × Rat) : List D := [enc2 l, .rp [dc], .rp [yv y], .rc Qao (vpre dc y)]
section
variable [Its] {dc : D} {y : Nat} {l : Rat × Rat} {ps : List (List Rat)}
def zr_s1 (dc : D) (y : Nat) (l : Rat × Rat) : St := mkS [(1, .d (.rp [dc])), (2, .d (.rp [yv y])), (3, .d (.rc Qao (vpre dc y))), (4, .ptr [4] 0)] [([4], bxZ l)]
def zr_s2 (dc : D) (y : Nat) (l : Rat × Rat) (n : Int) : St := mkS [(2, .d (.rp [yv y])), (3, .d (.rc Qao (vpre dc y))), (4, .ptr [4] 0), (12, ai n)] [([4], bxZ l)]
def Qrv (dc : D) (y : Nat) (l : Rat × Rat) (n : Int) (b : Bool) : St := mkS [(2, .d (.rp [yv y])), (3, .d (.rc Qao (vpre dc y))), (4, .ptr [4] 0), (12, ai n), (13, ab b)] [([4], bxZ l)]
def Qma (dc : D) (y : Nat) (l : Rat × Rat) (b : Bool) : St := mkS [(2, .d (.rp [yv y])), (3, .d (.rc Qao (vpre dc y))), (4, .ptr [4] 0), (15, ab b)] [([4], bxZ l)]
def Qlk (dc : D) (y : Nat) (l : Rat × Rat) (m : Rat) : St := mkS [(3, .d (.rc Qao (vpre dc y))), (4, .ptr [4] 0), (6, .ptr [6] 0)] [([4], bxZ l), ([6], boxR m)]
theorem zr_a : X G zr_A ⟨argF 0 (QoU dc y l), hp0, []⟩ = some (.n, zr_s1 dc y l) := by
 obtain ⟨lo, hi⟩ := l
 simp -implicitDefEqProofs (maxSteps:=9^8) only [zr_A, sturm_zeros_1_1, C.fst7, QoU, zr_s1, bxZ, enc2, c2R, argF, yv, go_sem, iv, bv, reduceCtorEq, ↓reduceIte, Nat.reduceEqDiff]
theorem zr_b [ItsB] (hr : RwC dc ps) (hn : ps.length ≤ 1000) {K : Nat} (hs : ∀ p ∈ ps, SzL K p ∧ p.length * (2 * K + 1) ≤ 40000000000) (h1 : sz l.1 ≤ K) (h2 : sz l.2 ≤ K) (hK : K ≤ 1000000000) : X G zr_B (zr_s1 dc y l) = some (.n, zr_s2 dc y l (cnt ps l.1 l.2)) := by
 have g := QfB hr hn hs h1 h2 hK
 generalize cnt ps l.1 l.2 = c at *
 obtain ⟨lo, hi⟩ := l
 simp only [encR, iv] at g
 simp -implicitDefEqProofs (maxSteps:=9^8) only [zr_B, sturm_zeros_1_1, C.fst7, C.snd7, zr_s1, zr_s2, bxZ, c2R, yv, g, Qjl, QqV, Qra, List.map_cons, List.map_nil, go_sem, iv, bv, reduceCtorEq, ↓reduceIte, Nat.reduceEqDiff]
theorem zr_c {n : Int} : X G zr_C (zr_s2 dc y l n) = some (.n, Qrv dc y l n (n == 0)) := by
 obtain ⟨lo, hi⟩ := l
 simp -implicitDefEqProofs (maxSteps:=9^8) only [zr_C, zr_blk, sturm_zeros_1_1, C.fst7, C.snd7, zr_s2, Qrv, bxZ, c2R, yv, List.map_cons, List.map_nil, go_sem, iv, bv, reduceCtorEq, ↓reduceIte, Nat.reduceEqDiff]
theorem zr_d {n : Int} : X G zr_D (Qrv dc y l n true) = some (.n, mkS [(5, ab true)] []) := by
 obtain ⟨lo, hi⟩ := l
 simp -implicitDefEqProofs (maxSteps:=9^8) only [zr_D, QjR, zr_blk, sturm_zeros_1_1, C.fst7, C.snd7, Qrv, bxZ, c2R, yv, Qad, List.map_cons, List.map_nil, go_sem, iv, bv, reduceCtorEq, ↓reduceIte, Nat.reduceEqDiff]
theorem zr_e {n : Int} : X G zr_E (Qrv dc y l n false) = some (.n, Qma dc y l (n == 1)) := by
 obtain ⟨lo, hi⟩ := l
 simp -implicitDefEqProofs (maxSteps:=9^8) only [zr_E, QjR, zr_blk, sturm_zeros_1_1, C.fst7, C.snd7, Qrv, Qma, bxZ, c2R, yv, Qad, List.map_cons, List.map_nil, go_sem, iv, bv, reduceCtorEq, ↓reduceIte, Nat.reduceEqDiff]
theorem zr_m (h1 : sz l.1 ≤ 1000000000) (h2 : sz l.2 ≤ 1000000000) : X G (.seq (.keep [3, 4] [[4]]) zr_M) (Qma dc y l false) = some (.n, Qlk dc y l (mid l.1 l.2)) := by
 have g := Qk7 h1 h2
 generalize mid l.1 l.2 = m at *
 obtain ⟨lo, hi⟩ := l
 simp only [encR, enc2, c2R, iv] at g
 simp -implicitDefEqProofs (maxSteps:=9^8) only [zr_M, sturm_zeros_1_1, C.fst7, C.snd7, Qma, Qlk, bxZ, boxR, c2R, yv, g, st4q, ld8q, Qad, List.map_cons, List.map_nil, go_sem, iv, bv, reduceCtorEq, ↓reduceIte, Nat.reduceEqDiff]
def zr_fn (dc : D) (y : Nat) : D := .fn Qao (vpre dc y ++ [.rc Qao (vpre dc y)])
def Qot (dc : D) (y : Nat) (l : Rat × Rat) (m : Rat) : St := ⟨upd (upd (upd (upd (upd (Qlk dc y l m).fr 22 (.d (zr_fn dc y))) 23 (.ptr [4] 0)) 24 (.d (encR l.1))) 25 (.d (encR m))) 26 (.d (enc2 (l.1, m))), (Qlk dc y l m).hp, []⟩
def QqM (dc : D) (y : Nat) (l : Rat × Rat) (m : Rat) (t : Bool) : St := { Qot dc y l m with fr := upd (Qot dc y l m).fr 27 (.d (.v (.bool t))) }
def zr_s7 (dc : D) (y : Nat) (l : Rat × Rat) (m : Rat) : St := ⟨upd (upd (upd (upd (upd (upd (QqM dc y l m true).fr 28 (.d (.v (.bool true)))) 29 (.d (zr_fn dc y))) 30 (.d (encR m))) 31 (.ptr [4] 4)) 32 (.d (encR l.2))) 33 (.d (enc2 (m, l.2))), (Qlk dc y l m).hp, []⟩
def zr_t7 (dc : D) (y : Nat) (l : Rat × Rat) (m : Rat) (t : Bool) : St := { zr_s7 dc y l m with fr := upd (zr_s7 dc y l m).fr 34 (.d (.v (.bool t))) }
def Qna (dc : D) (y : Nat) (l : Rat × Rat) : St := ⟨upd (upd (Qma dc y l true).fr 17 (.d (yv y))) 18 (.d (enc2 l)), (Qma dc y l true).hp, []⟩
theorem zr_py : exs (Qaj G) zr_Y1 (Qma dc y l true) = some (Qna dc y l) := by
 obtain ⟨lo, hi⟩ := l
 simp -implicitDefEqProofs (maxSteps:=9^8) only [zr_Y1, Qna, Qma, bxZ, enc2, c2R, yv, Qjl, ld8q, List.map_cons, List.map_nil, go_sem, iv, bv, reduceCtorEq, ↓reduceIte, Nat.reduceEqDiff]
theorem zr_qy (t : Bool) : exs (Qaj G) zr_Y2 { Qna dc y l with fr := upd (Qna dc y l).fr 19 (.d (.v (.bool t))) } = some ⟨upd (upd (Qna dc y l).fr 19 (.d (.v (.bool t)))) 5 (.d (.v (.bool t))), (Qna dc y l).hp, []⟩ := by
 obtain ⟨lo, hi⟩ := l
 simp -implicitDefEqProofs (maxSteps:=9^8) only [zr_Y2, Qna, Qma, bxZ, enc2, c2R, yv, List.map_cons, List.map_nil, go_sem, iv, bv, reduceCtorEq, ↓reduceIte, Nat.reduceEqDiff]
theorem zr_v1 {m : Rat} : exs (Qaj G) zr_V1 (Qlk dc y l m) = some (Qot dc y l m) := by
 obtain ⟨lo, hi⟩ := l
 simp -implicitDefEqProofs (maxSteps:=9^8) only [zr_V1, Qlk, Qot, zr_fn, bxZ, boxR, enc2, encR, c2R, yv, Qmp, ld4q, QqV, Qra, Qga, Qc5, List.map_cons, List.map_nil, go_sem, iv, bv, reduceCtorEq, ↓reduceIte, Nat.reduceEqDiff]
theorem zr_v2 {m : Rat} : exs (Qaj G) Qof (QqM dc y l m true) = some (zr_s7 dc y l m) := by
 obtain ⟨lo, hi⟩ := l
 simp -implicitDefEqProofs (maxSteps:=9^8) only [Qof, QqM, Qlk, Qot, zr_s7, zr_fn, bxZ, boxR, enc2, encR, c2R, yv, Qmp, ld4q, QqV, Qra, Qga, Qc5, List.map_cons, List.map_nil, go_sem, iv, bv, reduceCtorEq, ↓reduceIte, Nat.reduceEqDiff]
theorem zr_v3 {m : Rat} (t : Bool) : ∃ s, exs (Qaj G) Qnc (zr_t7 dc y l m t) = some s ∧ resL s sturm_zeros_1_1.res = some [.d (.v (.bool t))] := by
 obtain ⟨lo, hi⟩ := l
 refine ⟨_, by
  simp -implicitDefEqProofs (maxSteps:=9^8) only [Qnc, zr_t7, QqM, Qlk, Qot, zr_s7, bxZ, boxR, c2R, List.map_cons, List.map_nil, go_sem, iv, bv, reduceCtorEq, ↓reduceIte, Nat.reduceEqDiff]
  rfl, rfl⟩
theorem zr_vf {m : Rat} : ∃ s, exs (Qaj G) (Qof ++ ⟨some 34, .calv (.t 29) [.t 33], some (28, true)⟩ :: Qnc) (QqM dc y l m false) = some s ∧ resL s sturm_zeros_1_1.res = some [.d (.v (.bool false))] := by
 obtain ⟨lo, hi⟩ := l
 refine ⟨_, by
  simp -implicitDefEqProofs (maxSteps:=9^8) only [Qof, Qnc, QqM, Qlk, Qot, bxZ, boxR, c2R, List.cons_append, List.nil_append, List.map_cons, List.map_nil, go_sem, iv, bv, reduceCtorEq, ↓reduceIte, Nat.reduceEqDiff]
  rfl, rfl⟩
end
end Go.AM

/- sturm.zeros' closure that calls itself: what a call owes. -/
namespace Go.AM
open Go Go.RowKit Go.Proofs
theorem vis_okY : ∀ b, Tryz.f111.body = some b → okY b = true := by
 intro b hb
 have : (Tryz.f111.body.map okY) = some true := by kernel_rfl
 rw [hb] at this
 simpa using this
theorem vis_fn : ∃ fn, Tryz.prog.funcs[Qao]? = some fn ∧ fn.body.isSome = true ∧ fn.name ≠ "runtime.NumGoroutine" := ⟨_, Tryz.func111, by kernel_rfl, by
 have : (Tryz.f111.name == "runtime.NumGoroutine") = false := by kernel_rfl
 exact fun h => by rw [h] at this; simp at this⟩
theorem zr_len : zr_V.length = zr_V1.length + 10 := rfl
theorem vis_ok {dc : D} {ps : List (List Rat)} {xs : List (List D)} {y n : Nat} {K : Nat} (hr : RwC dc ps) (hn : ps.length ≤ 1000) (hs : ∀ p ∈ ps, SzL K p ∧ p.length * (2 * K + 1) ≤ 40000000000) (hK : K ≤ 1000000000) : ∀ (k : Nat) (l : Rat × Rat) (r : List (Rat × Rat)) (i : Nat) (S : Nat → Prop) (w0 : World) (J Jx : Held),
    wtZ K ps k l = some r → (∀ j q, r[j]? = some q → xs[i + j]? = some [enc2 q]) → QfF w0 J → QfF w0 Jx → Answers Tryz.prog n S w0 y J Jx xs → OwesY Tryz.prog S w0 J Jx Qao i r.length (QoU dc y l)
  | 0, l, r, i, S, w0, J, Jx, hw, _, _, _, _ => by cases hw
  | k + 1, l, r, i, S, w0, J, Jx, hw, hx, hab, habx, hans => by
    rw [wtZ] at hw
    split at hw
    · rename_i hz
      refine owes_ok envP Tryz.func111 QfO vis_okY rfl hab habx hans ?_
      intro S w0 J Jx a W hab habx hans hI
      have hE : EnvOk Tryz.prog G := envP
      rw [zr_shape]
      refine WY.seq ?_
      refine Inv.code hE hab hI rfl rfl zr_a ?_
      intro a1 W1 I1
      simp only [↓reduceIte]
      refine WY.seq (WY.seq ?_)
      refine Inv.code hE hab I1 rfl rfl (zr_b hr hn hs hz.1 hz.2 hK) ?_
      intro a2 W2 I2
      simp only [↓reduceIte]
      refine WY.blk (WY.seq ?_)
      refine Inv.code hE hab I2 rfl rfl zr_c ?_
      intro a3 W3 I3
      simp only [↓reduceIte]
      refine WY.cond (t := cnt ps l.1 l.2 == 0) (I3.bool rfl) (fun ht => ?_) (fun ht => ?_)
      · rw [ht] at I3
        have h0 : cnt ps l.1 l.2 = 0 := by simpa using ht
        rw [if_pos h0] at hw
        cases hw
        refine WY.seq (Inv.code hE hab I3 rfl rfl zr_d ?_)
        intro a4 W4 I4
        simp only [↓reduceIte]
        refine WY.ret ?_
        simp only [reduceCtorEq, ↓reduceIte]
        exact ⟨fun _ h => (by cases h), .inl ⟨_, rfl, I4⟩⟩
      · rw [ht] at I3
        have h0 : cnt ps l.1 l.2 ≠ 0 := by simpa using ht
        rw [if_neg h0] at hw
        refine WY.seq (Inv.code hE hab I3 rfl rfl zr_e ?_)
        intro a4 W4 I4
        simp only [↓reduceIte]
        refine WY.cond (t := cnt ps l.1 l.2 == 1) (I4.bool rfl) (fun ht1 => ?_) (fun ht1 => ?_)
        · rw [ht1] at I4
          have h1 : cnt ps l.1 l.2 = 1 := by simpa using ht1
          rw [if_pos h1] at hw
          cases hw
          refine WY.seq ?_
          refine Inv.yield hE hab habx hans I4 (pre := zr_Y1) (post := zr_Y2) (d := 19) (ty := 17) (es := [.t 18]) (s1 := Qna dc y l) (x := [enc2 l]) zr_py rfl rfl (by have := hx 0 l rfl; simpa using this) (zr_qy true) (zr_qy false) ?_ ?_
          · intro a5 W5 I5
            simp only [↓reduceIte]
            refine WY.ret ?_
            simp only [reduceCtorEq, ↓reduceIte]
            exact ⟨fun _ h => (by cases h), .inl ⟨_, rfl, I5⟩⟩
          · intro a5 W5 I5
            simp only [↓reduceIte]
            refine WY.ret ?_
            simp only [reduceCtorEq, ↓reduceIte]
            exact ⟨fun _ h => (by cases h), .inr ⟨_, _, rfl, I5⟩⟩
        · rw [ht1] at I4
          have h1 : cnt ps l.1 l.2 ≠ 1 := by simpa using ht1
          rw [if_neg h1] at hw
          simp only [Option.bind_eq_some_iff, Option.map_eq_some_iff] at hw
          obtain ⟨r1, hw1, r2, hw2, rfl⟩ := hw
          refine WY.skip ?_
          simp only [reduceCtorEq, ↓reduceIte]
          refine WY.seq (Inv.code hE hab I4 (c := .seq (.keep [3, 4] [[4]]) zr_M) rfl rfl (zr_m (by omega) (by omega)) ?_)
          intro a5 W5 I5
          simp only [↓reduceIte]
          have hfin : ∀ {t : Bool} {J' : Held} {s : St} {j : Nat} {a' : Act} {W' : World}, resL s sturm_zeros_1_1.res = some [.d (.v (.bool t))] → Inv S w0 Tryz.f111.ntmps J' s j a' W' →
              ((t = true ∧ J' = J ∧ j = i + (r1 ++ r2).length) ∨ (t = false ∧ J' = Jx)) → WY Tryz.prog Tryz.f111.ntmps (n + 1) .ret (fun e a' W' => (∀ id, e ≠ .x id) ∧ ((∃ st, resL st sturm_zeros_1_1.res = some [.d (.v (.bool true))] ∧ Inv S w0 Tryz.f111.ntmps J st (i + (r1 ++ r2).length) a' W') ∨ ∃ st i', resL st sturm_zeros_1_1.res = some [.d (.v (.bool false))] ∧ Inv S w0 Tryz.f111.ntmps Jx st i' a' W')) a' W' := by
            intro t J' s j a' W' hres hI' hc
            refine WY.ret ⟨fun _ h => (by cases h), ?_⟩
            rcases hc with ⟨rfl, rfl, rfl⟩ | ⟨rfl, rfl⟩
            · exact .inl ⟨_, hres, hI'⟩
            · exact .inr ⟨_, _, hres, hI'⟩
          refine WY.seq (QnL (os := zr_V) (k0 := 5) rfl fun ops hO => ?_)
          rw [zr_len]
          have hx1 : ∀ j q, r1[j]? = some q → xs[i + j]? = some [enc2 q] := fun j q hq => hx j q (by rw [List.getElem?_append_left (List.getElem?_eq_some_iff.1 hq).1]; exact hq)
          have hx2 : ∀ j q, r2[j]? = some q → xs[i + r1.length + j]? = some [enc2 q] := fun j q hq => by
            have := hx (r1.length + j) q (by rw [List.getElem?_append_right (by omega)]; simpa using hq)
            rwa [← Nat.add_assoc] at this
          refine Qi6 hE hab hO I5 (B := zr_V1) (fun j o hj => by
            rw [Nat.zero_add, zr_V, List.getElem?_append_left (List.getElem?_eq_some_iff.1 hj).1]; exact hj) zr_v1 ?_
          intro a6 W6 I6
          refine wo_call hE hab habx hO I6 (k := 5) (len := 9) (d := 27) (ty := 22) (es := [.t 26]) (g := none) (x := [enc2 (l.1, mid l.1 l.2)]) (caps := vpre dc y ++ [.rc Qao (vpre dc y)]) rfl rfl rfl rfl vis_fn
            (vis_ok hr hn hs hK k _ r1 i S w0 J Jx hw1 hx1 hab habx hans) ?_ ?_
          · intro a7 W7 I7
            refine Qi6 hE hab hO I7 (k := 6) (len := 3) (B := Qof) (fun j o hj => ?_) zr_v2 ?_
            · have hj6 : j < 6 := (List.getElem?_eq_some_iff.1 hj).1
              rw [← hj]
              match j, hj6 with
              | 0, _ => rfl
              | 1, _ => rfl
              | 2, _ => rfl
              | 3, _ => rfl
              | 4, _ => rfl
              | 5, _ => rfl
            intro a8 W8 I8
            refine wo_call hE hab habx hO I8 (k := 12) (len := 2) (d := 34) (ty := 29) (es := [.t 33]) (g := some (28, true)) (x := [enc2 (mid l.1 l.2, l.2)]) (caps := vpre dc y ++ [.rc Qao (vpre dc y)]) rfl rfl rfl rfl vis_fn
              (vis_ok hr hn hs hK k _ r2 (i + r1.length) S w0 J Jx hw2 hx2 hab habx hans) ?_ ?_
            · intro a9 W9 I9
              obtain ⟨s, h1, h2⟩ := zr_v3 (dc := dc) (y := y) (l := l) (m := mid l.1 l.2) true
              refine Qi6 hE hab hO I9 (k := 13) (len := 0) (B := Qnc) (fun j o hj => ?_) h1 ?_
              · have hj6 : j < 2 := (List.getElem?_eq_some_iff.1 hj).1
                rw [← hj]
                match j, hj6 with
                | 0, _ => rfl
                | 1, _ => rfl
              intro a10 W10 I10
              refine Qnl ?_
              simp only [↓reduceIte]
              exact hfin h2 I10 (.inl ⟨rfl, rfl, by rw [List.length_append, Nat.add_assoc]⟩)
            · intro i' a9 W9 I9
              obtain ⟨s, h1, h2⟩ := zr_v3 (dc := dc) (y := y) (l := l) (m := mid l.1 l.2) false
              refine Qi6 hE habx hO I9 (k := 13) (len := 0) (B := Qnc) (fun j o hj => ?_) h1 ?_
              · have hj6 : j < 2 := (List.getElem?_eq_some_iff.1 hj).1
                rw [← hj]
                match j, hj6 with
                | 0, _ => rfl
                | 1, _ => rfl
              intro a10 W10 I10
              refine Qnl ?_
              simp only [↓reduceIte]
              exact hfin h2 I10 (.inr ⟨rfl, rfl⟩)
          · intro i' a7 W7 I7
            obtain ⟨s, h1, h2⟩ := zr_vf (dc := dc) (y := y) (l := l) (m := mid l.1 l.2)
            refine Qi6 hE habx hO I7 (k := 6) (len := 0) (B := Qof ++ ⟨some 34, .calv (.t 29) [.t 33], some (28, true)⟩ :: Qnc) (fun j o hj => ?_) h1 ?_
            · have hj6 : j < 9 := (List.getElem?_eq_some_iff.1 hj).1
              rw [← hj]
              match j, hj6 with
              | 0, _ => rfl
              | 1, _ => rfl
              | 2, _ => rfl
              | 3, _ => rfl
              | 4, _ => rfl
              | 5, _ => rfl
              | 6, _ => rfl
              | 7, _ => rfl
              | 8, _ => rfl
            intro a8 W8 I8
            refine Qnl ?_
            simp only [↓reduceIte]
            exact hfin h2 I8 (.inr ⟨rfl, rfl⟩)
    · cases hw
end Go.AM

/- sturm.zeros' iterator: what it yields. -/
namespace Go.AM
open Go Go.RowKit Go.Proofs
def zo_A : C := sturm_zeros_1.body.fst7
def zo_B : C := sturm_zeros_1.body.snd7.fst7
def zo_C : C := .reg [⟨some 5, .mkfn Qao [.t 1, .t 3, .t 4] false, none⟩, ⟨none, .store 1 (.t 4) (.t 5), none⟩] []
def zo_D1 : List O := [⟨some 6, .load none (.t 4), none⟩, ⟨some 7, .load (some 8) (.t 2), none⟩]
def zo_D : List O := zo_D1 ++ [⟨some 8, .calv (.t 6) [.t 7], none⟩]
theorem zo_shape : sturm_zeros_1.body.er = .seq zo_A.er (.seq zo_B.er (.seq zo_C.er (.reg (zo_D.map O.er) []))) := rfl
def QnZ (dc : D) : A := .fn Qao [.d (.rp [dc]), .ptr [3] 0, .ptr [4] 0]
def Qcf (dc : D) (l : Rat × Rat) : List D := [.rp [dc], .rp (c2R l)]
theorem yc_c (y : Nat) : Qav (.d (.v (.func (.yield y) #[] #[]))) = [.d (.v (.func (.yield y) #[] #[]))] := rfl
theorem yc_o (y : Nat) : A.one (.d (.v (.func (.yield y) #[] #[]))) = true := rfl
theorem nf_c : Qav (.d (.v .nilFunc)) = [.d (.v .nilFunc)] := rfl
theorem nf_o : A.one (.d (.v .nilFunc)) = true := rfl
theorem fc_c (f : Nat) (xs : List A) : Qav (.fn f xs) = [.fn f xs] := rfl
theorem fc_o (f : Nat) (xs : List A) : A.one (.fn f xs) = true := rfl
theorem loadA_rp7 (h : Hp) (sz : Option Nat) (cs : List D) : Qcp h sz (.d (.rp cs)) = Qjd sz cs := rfl
section
variable [Its] {dc : D} {y : Nat} {l : Rat × Rat}
def zo_s1 (dc : D) (y : Nat) (l : Rat × Rat) : St := mkS [(1, .d (.rp [dc])), (2, .d (.rp (c2R l))), (3, .ptr [3] 0)] [([3], ⟨0, 0, [.d (yv y)], false⟩)]
def QoT (dc : D) (y : Nat) (l : Rat × Rat) : St := mkS [(1, .d (.rp [dc])), (2, .d (.rp (c2R l))), (3, .ptr [3] 0), (4, .ptr [4] 0)] [([3], ⟨0, 0, [.d (yv y)], false⟩), ([4], ⟨0, 0, [.d (.v .nilFunc)], false⟩)]
def QqH (dc : D) (y : Nat) (l : Rat × Rat) : St := ⟨upd (QoT dc y l).fr 5 (QnZ dc), hupd (QoT dc y l).hp [4] ⟨0, 0, [QnZ dc], false⟩, []⟩
def Qq3 (dc : D) (y : Nat) (l : Rat × Rat) : St := ⟨upd (upd (QqH dc y l).fr 6 (QnZ dc)) 7 (.d (enc2 l)), (QqH dc y l).hp, []⟩
theorem zo_a : X G zo_A ⟨argF 0 (yv y :: Qcf dc l), hp0, []⟩ = some (.n, zo_s1 dc y l) := by
 obtain ⟨lo, hi⟩ := l
 simp -implicitDefEqProofs (maxSteps:=9^8) only [zo_A, sturm_zeros_1, C.fst7, C.snd7, Qcf, zo_s1, c2R, argF, yv, yc_c, yc_o, QdG, refs, List.all_cons, List.all_nil, Bool.and_true, go_sem, iv, bv, reduceCtorEq, ↓reduceIte, Nat.reduceEqDiff]
theorem zo_b : X G zo_B (zo_s1 dc y l) = some (.n, QoT dc y l) := by
 obtain ⟨lo, hi⟩ := l
 simp -implicitDefEqProofs (maxSteps:=9^8) only [zo_B, sturm_zeros_1, C.fst7, C.snd7, zo_s1, QoT, c2R, yv, yc_c, yc_o, nf_c, nf_o, fc_c, fc_o, QdG, refs, List.all_cons, List.all_nil, Bool.and_true, List.map_cons, List.map_nil, go_sem, iv, bv, reduceCtorEq, ↓reduceIte, Nat.reduceEqDiff]
theorem zo_c : X G zo_C (QoT dc y l) = some (.n, QqH dc y l) := by
 obtain ⟨lo, hi⟩ := l
 simp -implicitDefEqProofs (maxSteps:=9^8) only [zo_C, QoT, QqH, QnZ, c2R, yv, allD, Qav, Qab, yc_c, yc_o, nf_c, nf_o, fc_c, fc_o, QdG, refs, List.all_cons, List.all_nil, Bool.and_true, List.map_cons, List.map_nil, go_sem, iv, bv, reduceCtorEq, ↓reduceIte, Nat.reduceEqDiff]
theorem zo_d : exs (Qaj G) zo_D1 (QqH dc y l) = some (Qq3 dc y l) := by
 obtain ⟨lo, hi⟩ := l
 simp -implicitDefEqProofs (maxSteps:=9^8) only [zo_D1, QoT, QqH, Qq3, QnZ, enc2, c2R, yv, Qaa, loadA_rp7, yc_c, yc_o, nf_c, nf_o, fc_c, fc_o, QdG, refs, List.all_cons, List.all_nil, Bool.and_true, List.map_cons, List.map_nil, go_sem, iv, bv, reduceCtorEq, ↓reduceIte, Nat.reduceEqDiff]
end
end Go.AM

/- sturm.zeros' iterator: what it owes. -/
namespace Go.AM
open Go Go.RowKit Go.Proofs
theorem zo_okY : ∀ b, Tryz.f110.body = some b → okY b = true := by
 intro b hb
 have : (Tryz.f110.body.map okY) = some true := by kernel_rfl
 rw [hb] at this
 simpa using this
theorem rep_fn3 {m : Key → Nat} {hp : Hp} {T : Nat → Prop} {w : World} {f : Nat} {x1 x2 x3 : A} {z : Value} (h : RepA m hp T w (.fn f [x1, x2, x3]) z) : ∃ q1 q2 q3, z = .func (.func f) #[] [q1, q2, q3].toArray ∧ RepA m hp T w x1 q1 ∧ RepA m hp T w x2 q2 ∧ RepA m hp T w x3 q3 := by
 cases h with
 | fn _ _ vs hl =>
  cases hl with
  | cons _ _ q1 _ h1 t =>
   cases t with
   | cons _ _ q2 _ h2 t =>
    cases t with
    | cons _ _ q3 _ h3 t =>
     cases t
     exact ⟨q1, q2, q3, rfl, h1, h2, h3⟩
theorem QmN {m : Key → Nat} {hp : Hp} {T : Nat → Prop} {w : World} {k : Key} {off : Nat} {o : Obj} {v : Value} (h : RepA m hp T w (.ptr k off) v) (ho : hp k = some o) : v = .pointer (some ⟨m k, off, none⟩) := by
 cases h with
 | ptr _ _ _ _ hv => exact hv o ho
theorem Qlq {w : World} {b : Nat} {cs : Array Value} {T : TypeId} {fz : Nat × Nat} {v : Value} (h : w.heap[b]? = some (Go.Obj.cells cs T fz)) (hv : cs[0]? = some v) : w.cell? ⟨b, 0, none⟩ = some v := by
 rw [Lib.cell_of_heap h]; exact hv
theorem Inv.empty {S : Nat → Prop} {w0 W W' : World} {N : Nat} {J J' : Held} {st : St} {i j : Nat} {a : Act} {m : Key → Nat} {L L' : Nat → Prop} (h : Inv1 S w0 N J st i a W m L) (f1 : Foot L W W') (f3 : ∀ b, L' b → b < W'.heap.size) (hj : J' j L' (fun _ => False) W') (dst : Option Nat) (v : Value) : Inv S w0 N J' ⟨fr0, hp0, []⟩ j (a.put dst v) W' := by
 have hV : (fun b => Live m hp0 b) = fun _ => False := by
  funext b; exact propext ⟨fun ⟨_, _, h, _⟩ => by simp [hp0] at h, False.elim⟩
 have hnd : (a.put dst v).defers = [] := by
  have := (show Inv S w0 N J st i a W from ⟨m, L, h⟩).nodefer
  cases dst <;> exact this
 have hts : (a.put dst v).tmps.size = N := by
  have := h.rel.ts
  cases dst with
  | none => exact this
  | some d => simpa [Act.put] using this
 refine ⟨m, L', ⟨⟨fun _ _ hx => (by cases hx), fun _ _ h => (by cases h), fun _ _ _ _ h => (by cases h), fun _ _ h => (by cases h), fun _ _ _ h => (by cases h), fun _ _ h => (by cases h), fun _ _ h => (by cases h), Foot.refl _ _, (by rw [hnd]; exact Marks.nil _ _ _), hts, fun b hb => ⟨.inr (by have := h.sz; have := f1.size; omega), fun hl => by have := f3 b hl; omega⟩, fun _ _ h => (by cases h)⟩, ?_, f3, fun b ⟨_, _, h, _⟩ => (by cases h), Nat.le_trans h.sz f1.size⟩⟩
 show J' j L' (fun b => Live m hp0 b) W'
 rw [hV]; exact hj
theorem zeros_it {dc : D} {ps : List (List Rat)} {l : Rat × Rat} {r : List (Rat × Rat)} {K k : Nat} (hr : RwC dc ps) (hn : ps.length ≤ 1000) (hs : ∀ p ∈ ps, SzL K p ∧ p.length * (2 * K + 1) ≤ 40000000000) (hK : K ≤ 1000000000) (hw : wtZ K ps k l = some r) : ItOk Tryz.prog Qax (Qcf dc l) (r.map fun q => [enc2 q]) := by
 refine it_ok envP Tryz.func110 QgV zo_okY rfl rfl ?_
 intro n y S w0 J Jx a W hab habx hans hI
 have hE : EnvOk Tryz.prog G := envP
 rw [zo_shape]
 refine WY.seq (Inv.code hE hab hI rfl rfl zo_a ?_)
 intro a1 W1 I1
 simp only [↓reduceIte]
 refine WY.seq (Inv.code hE hab I1 rfl rfl zo_b ?_)
 intro a2 W2 I2
 simp only [↓reduceIte]
 refine WY.seq (Inv.code hE hab I2 rfl rfl zo_c ?_)
 intro a3 W3 I3
 simp only [↓reduceIte]
 refine QnL (os := zo_D) (k0 := 2) rfl fun ops hO => ?_
 refine Qi6 hE hab hO I3 (B := zo_D1) (len := 1) (fun j o hj => by
  rw [Nat.zero_add, zo_D, List.getElem?_append_left (List.getElem?_eq_some_iff.1 hj).1]; exact hj) zo_d ?_
 rintro a4 W4 ⟨m, L, h⟩
 obtain ⟨o, c, hoo, hop, hce, hargs, hd, hgg⟩ := Qoy hO (k := 2) (show zo_D[2]? = some ⟨some 8, .calv (.t 6) [.t 7], none⟩ from rfl)
 obtain ⟨q1, q3, q4, hz, h1, h3, h4⟩ := rep_fn3 (h.rel.fr 6 (QnZ dc) rfl)
 have ho3 : (Qq3 dc y l).hp [3] = some ⟨0, 0, [.d (yv y)], false⟩ := rfl
 have ho4 : (Qq3 dc y l).hp [4] = some ⟨0, 0, [QnZ dc], false⟩ := rfl
 obtain ⟨cs3, T3, z3, O3⟩ := h.rel.obj [3] _ ho3
 obtain ⟨cs4, T4, z4, O4⟩ := h.rel.obj [4] _ ho4
 obtain ⟨v3, c3, r3⟩ := O3.rep 0 (.d (yv y)) rfl
 obtain ⟨v4, c4, r4⟩ := O4.rep 0 (QnZ dc) rfl
 obtain ⟨p1, p3, p4, hp, g1, g3, g4⟩ := rep_fn3 r4
 have e3 := QmN h3 ho3
 have e4 := QmN h4 ho4
 have e3' := QmN g3 ho3
 have e4' := QmN g4 ho4
 have ev : v3 = .func (.yield y) #[] #[] := Qei r3
 subst e3 e4 e3' e4' ev hp
 obtain ⟨hrep, _⟩ := Qd7 h.rel hargs (show allE (Qq3 dc y l) [.t 7] = some ([enc2 l].map .d) from rfl)
 have hra := QiZ _ _ hrep
 have hm : ∀ b, Im (fun b => (S b ∨ w0.heap.size ≤ b) ∧ ¬ L b) m (Qq3 dc y l).hp W4 b → ((S b ∨ w0.heap.size ≤ b) ∧ b < W4.heap.size ∧ ¬ (fun _ => False) b ∧ ¬ L b) := fun b hb => ⟨hb.1.1, hb.2.1, id, hb.1.2⟩
 have s3 := h.rel.ge [3] _ ho3
 have s4 := h.rel.ge [4] _ ho4
 have t3 := h.rel.lt ho3
 have t4 := h.rel.lt ho4
 have cy : RepD (fun b => (S b ∨ w0.heap.size ≤ b) ∧ b < W4.heap.size ∧ ¬ (fun _ => False) b ∧ ¬ L b) W4 (.rp [yv y]) (.pointer (some ⟨m [3], 0, none⟩)) := by
  refine .rp [yv y] ⟨m [3], 0, none⟩ [.func (.yield y) #[] #[]] ⟨s3.1, t3, id, s3.2⟩ (.cons _ _ _ _ (.v _) .nil) ?_
  intro j v hj
  match j with
  | 0 => cases hj; exact Qlq O3.at_ c3
  | j + 1 => cases hj
 have cv : RepD (fun b => (S b ∨ w0.heap.size ≤ b) ∧ b < W4.heap.size ∧ ¬ (fun _ => False) b ∧ ¬ L b) W4 (.rc Qao (vpre dc y)) (.pointer (some ⟨m [4], 0, none⟩)) :=
  .rc Qao (vpre dc y) ⟨m [4], 0, none⟩ [p1, .pointer (some ⟨m [3], 0, none⟩)] ⟨s4.1, t4, id, s4.2⟩ (.cons _ _ _ _ ((QfJ g1).mono (w' := W4) hm (fun _ _ => rfl)) (.cons _ _ _ _ cy .nil)) (Qlq O4.at_ c4)
 have hra' := hra.mono (w' := W4) hm (fun _ _ => rfl)
 have hd1 := (QfJ h1).mono (w' := W4) hm (fun _ _ => rfl)
 have hrl := hra'.append (RepL.cons _ _ _ _ hd1 (RepL.cons _ _ _ _ cy (RepL.cons _ _ _ _ cv RepL.nil)))
 have hJ : J 0 L (fun _ => False) W4 := hab 0 L _ _ W4 W4 h.j (Foot.refl _ _) (fun _ hb => hb.elim) (fun _ hb => hb.elim)
 have O := vis_ok hr hn hs hK k l r 0 S w0 J Jx hw (fun j q hq => by rw [Nat.zero_add, List.getElem?_map, hq]; rfl) hab habx hans L (fun _ => False) W4 _ hJ (fun _ hb => hb.elim) h.lt h.sz hrl
 refine QpD (len := 0) hoo hop hce (QdZ h.rel hgg rfl rfl) hz vis_fn (O.mono ?_)
 rintro e W5 ⟨L', f1, f2, f3, f4⟩
 have hlen : (r.map fun q => [enc2 q]).length = r.length := List.length_map ..
 rcases f4 with ⟨rfl, hj⟩ | ⟨rfl, i', hj⟩
 ·refine ⟨_, rfl, Qnl ⟨fun _ h => (by cases h), .inl ⟨⟨fr0, hp0, []⟩, ?_⟩⟩⟩
  rw [hlen]
  rw [Nat.zero_add] at hj
  exact Inv.empty h f1 f3 hj _ _
 ·exact ⟨_, rfl, Qnl ⟨fun _ h => (by cases h), .inr ⟨⟨fr0, hp0, []⟩, i', Inv.empty h f1 f3 hj _ _⟩⟩⟩
end Go.AM

/- The seat's iterators: Backward and sturm.zeros. -/
namespace Go.AM
open Go Go.RowKit Go.Proofs
theorem RwC.inj {d : D} {ps qs : List (List Rat)} (h : RwC d ps) (h' : RwC d qs) : ps = qs := by
  obtain ⟨ds, h1, h2, h3⟩ := h
  obtain ⟨es, k1, k2, k3⟩ := h'
  have e : ds = es := by
    rcases h3 with rfl | ⟨rfl, rfl⟩
    · rcases k3 with k3 | ⟨k3, _⟩
      · simp only [D.row.injEq] at k3; exact k3.2
      · cases k3
    · rcases k3 with k3 | ⟨_, rfl⟩
      · cases k3
      · rfl
  subst e
  refine List.ext_getElem (by omega) fun i hi hj => ?_
  have := (h2 i hi).inj (k2 i hj)
  simpa [List.getD_eq_getElem?_getD, List.getElem?_eq_getElem hi, List.getElem?_eq_getElem hj] using this
theorem c2R_inj {l m : Rat × Rat} (h : c2R l = c2R m) : l = m := by
 obtain ⟨a, b⟩ := l
 obtain ⟨c, d⟩ := m
 simp only [c2R, List.cons.injEq, D.v.injEq, Value.bool.injEq, true_and, and_true] at h
 obtain ⟨h1, h2, h3, h4, h5, h6⟩ := h
 rw [QoD h1 h2 h3, QoD h4 h5 h6]
theorem QmG {K : Nat} {ps : List (List Rat)} : ∀ (k k' : Nat) (l : Rat × Rat) (r r' : List (Rat × Rat)), wtZ K ps k l = some r → wtZ K ps k' l = some r' → r = r'
 | 0, _, _, _, _, h, _ => by cases h
 | k + 1, 0, _, _, _, _, h => by cases h
 | k + 1, k' + 1, l, r, r', h, h' => by
  rw [wtZ] at h h'
  by_cases hz : sz l.1 ≤ K ∧ sz l.2 ≤ K
  ·rw [if_pos hz] at h h'
   by_cases h0 : cnt ps l.1 l.2 = 0
   ·rw [if_pos h0] at h h'; cases h; cases h'; rfl
   ·rw [if_neg h0] at h h'
    by_cases h1 : cnt ps l.1 l.2 = 1
    ·rw [if_pos h1] at h h'; cases h; cases h'; rfl
    ·rw [if_neg h1] at h h'
     simp only [Option.bind_eq_some_iff, Option.map_eq_some_iff] at h h'
     obtain ⟨a, a1, b, b1, rfl⟩ := h
     obtain ⟨a', a1', b', b1', rfl⟩ := h'
     rw [QmG k k' _ a a' a1 a1', QmG k k' _ b b' b1 b1']
  ·rw [if_neg hz] at h; cases h
def KZ : Nat := 1000000000
def ZOk (ds : List D) (xs : List (List D)) : Prop := ∃ dc ps l r k, ds = Qcf dc l ∧ RwC dc ps ∧ ps.length ≤ 1000 ∧ (∀ p ∈ ps, SzL KZ p ∧ p.length * (2 * KZ + 1) ≤ 40000000000) ∧ wtZ KZ ps k l = some r ∧ xs = r.map fun q => [enc2 q]
theorem ZOk.uniq {ds : List D} {xs ys : List (List D)} (h : ZOk ds xs) (h' : ZOk ds ys) : xs = ys := by
 obtain ⟨dc, ps, l, r, k, e, h1, _, _, h2, rfl⟩ := h
 obtain ⟨dc', ps', l', r', k', e', h1', _, _, h2', rfl⟩ := h'
 rw [e] at e'
 simp only [Qcf, List.cons.injEq, D.rp.injEq, and_true] at e'
 obtain ⟨rfl, e2⟩ := e'
 have := c2R_inj e2
 subst this
 have := h1.inj h1'
 subst this
 rw [QmG k k' l r r' h2 h2']
open Classical in
noncomputable abbrev itsZ : Its := { it := fun f ds => if f = Qag then Qjx ds else if f = Qax then (if h : ∃ xs, ZOk ds xs then some (Classical.choose h) else none) else none }
theorem itsBZ : @ItsB itsZ := @ItsB.mk itsZ fun _ => if_pos rfl
open Classical in
theorem itsZ_at {dc : D} {ps : List (List Rat)} {l : Rat × Rat} {r : List (Rat × Rat)} {k : Nat} (h1 : RwC dc ps) (h2 : ps.length ≤ 1000) (h3 : ∀ p ∈ ps, SzL KZ p ∧ p.length * (2 * KZ + 1) ≤ 40000000000) (h4 : wtZ KZ ps k l = some r) : (@G itsZ).it Qax (Qcf dc l) = some (r.map fun q => [enc2 q]) := by
 have ho : ZOk (Qcf dc l) (r.map fun q => [enc2 q]) := ⟨dc, ps, l, r, k, rfl, h1, h2, h3, h4, rfl⟩
 have hex : ∃ xs, ZOk (Qcf dc l) xs := ⟨_, ho⟩
 show (if Qax = Qag then Qjx (Qcf dc l) else if Qax = Qax then (if h : ∃ xs, ZOk (Qcf dc l) xs then some (Classical.choose h) else none) else none) = _
 rw [if_neg (by decide), if_pos rfl, dif_pos hex]
 exact congrArg some ((Classical.choose_spec hex).uniq ho)
open Classical in
theorem envZ : EnvOk Tryz.prog (@G itsZ) := @env_ok itsZ (fun f ds xs h => by
  have h' : (if f = Qag then Qjx ds else if f = Qax then (if h : ∃ xs, ZOk ds xs then some (Classical.choose h) else none) else none) = some xs := h
  split at h'
  · rename_i hf
    rw [hf]
    exact Qoa h'
  · split at h'
    · rename_i hf
      split at h'
      · rename_i hex
        cases h'
        obtain ⟨dc, ps, l, r, k, e, h1, h2, h3, h4, h5⟩ := Classical.choose_spec hex
        rw [hf, h5, e]
        exact zeros_it h1 h2 h3 (by unfold KZ; omega) h4
      · cases h'
    · cases h') (fun _ _ => rfl)
end Go.AM

/- slices.Collect over sturm.zeros; sturm.zeros; sturm.Isolate. -/
namespace Go.AM
open Go Go.RowKit Go.Proofs
def cAs : List (Rat × Rat) → List D
 | [] => []
 | l :: r => c2R l ++ cAs r
def rowA (r : List (Rat × Rat)) : D := .row r.length (cAs r)
theorem cAs_len : ∀ r, (cAs r).length = r.length * 8
 | [] => rfl
 | l :: r => by rw [cAs, List.length_append, cAs_len r, List.length_cons]; simp [c2R]; omega
theorem cAs_app : ∀ r s, cAs (r ++ s) = cAs r ++ cAs s
 | [], s => rfl
 | l :: r, s => by rw [List.cons_append, cAs, cAs, cAs_app r s, List.append_assoc]
theorem c2R_one (l : Rat × Rat) : (c2R l).all D.one = true := by
 simp only [c2R, List.all_cons, List.all_nil, Bool.and_true, Bool.and_eq_true]
 exact ⟨rfl, Qnf _, rfl, Qnf _, rfl, Qnf _, rfl, Qnf _⟩
def gHs (r : List (Rat × Rat)) : List (Key × Obj) := if r = [] then [([2], ⟨0, 0, [.d (.z true)], false⟩)] else [([2], ⟨0, 0, [.own [11] r.length], false⟩), ([11], ⟨8, r.length, (cAs r).map .d, false⟩)]
def QnU : Fr := frL [(2, .ptr [2] 0)]
theorem rep1_8A (a b c d e f g h : D) : rep 1 [a, b, c, d, e, f, g, h] = [a, b, c, d, e, f, g, h] := rfl
theorem ldn1 (a : A) : Qaa none 0 [a] = some a := rfl
theorem stn1 (a b : A) : Qab 0 [b] [a] = some [b] := rfl
theorem own_c (k : Key) (n : Nat) : Qav (.own k n) = [.own k n] := rfl
theorem own_o (k : Key) (n : Nat) : A.one (.own k n) = true := rfl
theorem Qmj (ks : List Key) : ∀ r : List D, QdG ks (r.map A.d) = true
 | [] => rfl
 | x :: r => by simp only [List.map_cons, QdG, refs, Qmj ks r, Bool.and_self]
variable [Its]
theorem as_round (q : Rat × Rat) (r : List (Rat × Rat)) (hr : r.length ≤ 100000) (xs : List (List D)) :
    QcH (X G) [7] slices_AppendSeq_2_api_Rat_2_api_Rat_a0 slices_AppendSeq_2_api_Rat_2_api_Rat_b0 QnU [] ([enc2 q] :: xs) (hpL (gHs r)) = QcH (X G) [7] slices_AppendSeq_2_api_Rat_2_api_Rat_a0 slices_AppendSeq_2_api_Rat_2_api_Rat_b0 QnU [] xs (hpL (gHs (r ++ [q]))) := by
  have e0 : gHs (r ++ [q]) = [([2], ⟨0, 0, [.own [11] (r.length + 1)], false⟩), ([11], ⟨8, r.length + 1, ((cAs r ++ c2R q).map .d), false⟩)] := by
    unfold gHs
    rw [if_neg (by simp), List.length_append, List.length_singleton, cAs_app]
    simp only [cAs, List.append_nil]
  rw [e0]
  have o1 := c2R_one q
  have n8 : (c2R q).length = 8 := rfl
  have nr := cAs_len r
  by_cases h0 : r = []
  · subst h0
    have hb : (128 ≤ bound) = True := eq_true (by unfold bound; omega)
    have hb1 : (1 * 128 ≤ bound) = True := eq_true (by unfold bound; omega)
    obtain ⟨lo, hi⟩ := q
    simp only [c2R] at o1 n8
    simp -implicitDefEqProofs (maxSteps:=9^8) only [QcH, slices_AppendSeq_2_api_Rat_2_api_Rat_a0, slices_AppendSeq_2_api_Rat_2_api_Rat_b0, QnU, gHs, enc2, c2R, cAs, hb, hb1, o1, n8, putL, rep1_8A, st8q, ld8q, ldn1, stn1, own_c, own_o, Qmj, Qad, srcS, src, allD, List.map_cons, List.map_nil, List.length_nil, Nat.zero_add, List.nil_append, go_sem, iv, bv, reduceCtorEq, ↓reduceIte, Nat.reduceEqDiff]
  · have e1 : gHs r = [([2], ⟨0, 0, [.own [11] r.length], false⟩), ([11], ⟨8, r.length, (cAs r).map .d, false⟩)] := if_neg h0
    rw [e1]
    have n3 : ((cAs r).map A.d).length = r.length * 8 := by rw [List.length_map, nr]
    have n4 : ((r.length + 1) * 128 ≤ bound) = True := eq_true (by unfold bound; omega)
    have n5 : (cAs r).map A.d ++ (c2R q).map A.d = (cAs r ++ c2R q).map A.d := (List.map_append ..).symm
    obtain ⟨lo, hi⟩ := q
    simp only [c2R, List.map_cons, List.map_nil] at o1 n8 n5
    simp -implicitDefEqProofs (maxSteps:=9^8) only [QcH, slices_AppendSeq_2_api_Rat_2_api_Rat_a0, slices_AppendSeq_2_api_Rat_2_api_Rat_b0, QnU, enc2, c2R, n3, n4, n5, o1, n8, putL, rep1_8A, st8q, ld8q, ldn1, stn1, own_c, own_o, Qmj, Qad, srcS, src, allD, List.map_cons, List.map_nil, go_sem, iv, bv, reduceCtorEq, ↓reduceIte, Nat.reduceEqDiff]
end Go.AM

/- sturm.Bound, ref07.Bound. -/
namespace Go.AM
open Go Go.RowKit
def abR (q : Rat) : Rat := if q < 0 then -q else q
def bdQ (p : List Rat) (i : Nat) : Rat := p.getD i 0 / p.getD (p.length - 1) 0
def bdF (p : List Rat) : Nat → Rat
 | 0 => 0
 | i + 1 => if bdF p i < abR (bdQ p i) then abR (bdQ p i) else bdF p i
def bdR (p : List Rat) : Rat := bdF p (p.length - 1) + 1
theorem abR_sz (q : Rat) : sz (abR q) = sz q := by
 unfold abR
 split
 ·exact Qp8 q
 ·rfl
theorem bdQ_sz {p : List Rat} {K : Nat} (sp : SzL K p) (hK : 1 ≤ K) (i : Nat) : sz (bdQ p i) ≤ 2 * K := by
 unfold bdQ
 have h1 := sp.getD hK i
 have h2 := sp.getD hK (p.length - 1)
 have h3 := sz_div (a := p.getD i 0) (b := p.getD (p.length - 1) 0)
 omega
theorem bdF_sz {p : List Rat} {K : Nat} (sp : SzL K p) (hK : 1 ≤ K) : ∀ i, sz (bdF p i) ≤ 2 * K
 | 0 => by rw [bdF, Qkc]; omega
 | i + 1 => by
  rw [bdF]
  split
  ·rw [abR_sz]; exact bdQ_sz sp hK i
  ·exact bdF_sz sp hK i
def boxZ : Obj := ⟨0, 0, [.d (.v (.bool false)), .d (.z true), .d (.v (.bool false)), .d (.z true)], false⟩
def Qkg (d : D) (mo : Rat) (n i : Int) : St := mkS [(0, .d d), (2, .ptr [2] 0), (3, .ptr [3] 0), (8, ai n), (9, ai i)] [([2], boxZ), ([3], boxR mo)]
def bs_en (mo : Rat) : St := mkS [(2, .ptr [2] 0), (3, .ptr [3] 0)] [([2], boxZ), ([3], boxR mo)]
theorem boxR_0 : boxR 0 = boxZ := by
 have ez : decide ((0 : Rat).num < 0) = false := rfl
 have ez2 : dg (digs (0 : Rat).num.natAbs) = .z true := by rw [Rat.zero_num, show (0 : Int).natAbs = 0 from rfl, Qat]; rfl
 have ez3 : dg (dd (0 : Rat).den) = .z true := rfl
 rw [boxR, ez, ez2, ez3]; rfl
section
variable [Its] {d : D} {p : List Rat} {K : Nat}
theorem bs_go (hr : RwR d p) (np : p.length ≤ 1000) (sp : SzL K p) (hK1 : 1 ≤ K) (hK : K ≤ 10000000000) {i : Nat} (hi : i + 1 < p.length) {mo : Rat} (hm : sz mo ≤ 2 * K) :
    X G Qba (Qkg d mo ((p.length - 1 : Nat) : Int) i) = some (.n, Qkg d (if mo < abR (bdQ p i) then abR (bdQ p i) else mo) ((p.length - 1 : Nat) : Int) ((i + 1 : Nat) : Int)) := by
  have e1 : decide ((i : Int) < ((p.length - 1 : Nat) : Int)) = true := lt_t (by omega)
  have e2 : w64 ((p.length : Int) - 1) = ((p.length - 1 : Nat) : Int) := by rw [Qaf (by omega) (by omega)]; omega
  have e3 : w64 ((i : Int) + 1) = ((i + 1 : Nat) : Int) := by rw [Qaf (by omega) (by omega)]; rfl
  have ll := hr.len
  have hl : p.length - 1 < p.length := by omega
  have x1 := hr.ixa hl
  have y1 := fun h => ldR h p hl
  have x2 := hr.ixa (show i < p.length by omega)
  have y2 := fun h => ldR h p (show i < p.length by omega)
  have s1 := sp.getD hK1 (p.length - 1)
  have s2 := sp.getD hK1 i
  have g1 := QhW (a := p.getD i 0) (b := p.getD (p.length - 1) 0) (by omega) (by omega)
  have sq := bdQ_sz sp hK1 i
  unfold bdQ at sq
  unfold bdQ
  generalize p.getD i 0 / p.getD (p.length - 1) 0 = q at *
  generalize p.getD (p.length - 1) 0 = u at *
  generalize p.getD i 0 = v at *
  generalize cRs (p.drop (p.length - 1)) = cs at *
  generalize cRs (p.drop i) = ct at *
  generalize ((p.length - 1 : Nat) : Int) = n at *
  have g2 := QcK q
  have t2 := sign_lt (x := q)
  generalize Int.sign q.num = sg at *
  have g3 := QhF q
  have sa := abR_sz q
  have g4 := QdD (a := abR q) (b := mo) (by omega) (by omega)
  have t4 := Qo2 (a := abR q) (b := mo)
  generalize cmpR (abR q) mo = c at *
  clear s1 s2 sq hm sp hr sa
  unfold abR at *
  by_cases k : q < 0
  · rw [decide_eq_true k] at t2
    rw [if_pos k] at *
    generalize -q = nq at *
    simp only [encR, iv] at g1 g2 g3 g4 y1 y2
    by_cases k2 : mo < nq
    · rw [decide_eq_true k2] at t4
      rw [if_pos k2]
      simp -implicitDefEqProofs (maxSteps:=9^8) only [Qba, Qkg, boxZ, boxR, ll, x1, x2, y1, y2, e1, e2, e3, g1, g2, g3, g4, t2, t4, st4q, ld4q, Qad, go_sem, iv, bv, reduceCtorEq, ↓reduceIte, Nat.reduceEqDiff]
    · rw [decide_eq_false k2] at t4
      rw [if_neg k2]
      simp -implicitDefEqProofs (maxSteps:=9^8) only [Qba, Qkg, boxZ, boxR, ll, x1, x2, y1, y2, e1, e2, e3, g1, g2, g3, g4, t2, t4, st4q, ld4q, Qad, go_sem, iv, bv, reduceCtorEq, ↓reduceIte, Nat.reduceEqDiff]
  · rw [decide_eq_false k] at t2
    rw [if_neg k] at *
    simp only [encR, iv] at g1 g2 g3 g4 y1 y2
    by_cases k2 : mo < q
    · rw [decide_eq_true k2] at t4
      rw [if_pos k2]
      simp -implicitDefEqProofs (maxSteps:=9^8) only [Qba, Qkg, boxZ, boxR, ll, x1, x2, y1, y2, e1, e2, e3, g1, g2, g4, t2, t4, st4q, ld4q, Qad, go_sem, iv, bv, reduceCtorEq, ↓reduceIte, Nat.reduceEqDiff]
    · rw [decide_eq_false k2] at t4
      rw [if_neg k2]
      simp -implicitDefEqProofs (maxSteps:=9^8) only [Qba, Qkg, boxZ, boxR, ll, x1, x2, y1, y2, e1, e2, e3, g1, g2, g4, t2, t4, st4q, ld4q, Qad, go_sem, iv, bv, reduceCtorEq, ↓reduceIte, Nat.reduceEqDiff]
theorem bs_stop {mo : Rat} {n i : Int} (h : n ≤ i) : X G Qba (Qkg d mo n i) = some (.x 0, bs_en mo) := by
 have e1 : decide (i < n) = false := lt_f (by omega)
 simp -implicitDefEqProofs (maxSteps:=9^8) only [Qba, Qkg, bs_en, boxZ, boxR, e1, Qad, go_sem, iv, bv, reduceCtorEq, ↓reduceIte, Nat.reduceEqDiff]
theorem bs_loop (hr : RwR d p) (np : p.length ≤ 1000) (sp : SzL K p) (hK1 : 1 ≤ K) (hK : K ≤ 10000000000) : ∀ (j i : Nat), i + j = p.length - 1 → X G (.loop Qba) (Qkg d (bdF p i) ((p.length - 1 : Nat) : Int) i) = some (.x 0, bs_en (bdF p (p.length - 1)))
 | 0, i, h => by
  have : i = p.length - 1 := by omega
  subst this
  rw [Qak, bs_stop (Int.le_refl _)]; rfl
 | j + 1, i, h => by
  rw [Qak, bs_go hr np sp hK1 hK (by omega) (bdF_sz sp hK1 i), Option.bind_some, if_pos rfl]
  exact bs_loop hr np sp hK1 hK j (i + 1) (by omega)
theorem QkO (hr : RwR d p) (np : p.length ≤ 1000) (sp : SzL K p) (hK1 : 1 ≤ K) (hK : K ≤ 10000000000) : Qaj G QeF [d] = some (.d (encR (bdR p))) := by
 rw [Qac (cf := QhD) rfl]
 have ll := hr.len
 have sf := bdF_sz sp hK1 (p.length - 1)
 have o := QeN (n := 1) (d := 1) ⟨by omega, by omega⟩ ⟨by omega, by omega⟩
 rw [QdU, show ((1 : Int) : Rat) = 1 from rfl] at o
 have g := Qd1 (a := bdF p (p.length - 1)) (b := 1) (by omega) (by rw [Qov]; omega)
 have hl : X G (.loop Qba) (Qkg d 0 (w64 ((p.length : Int) - 1)) 0) = some (.x 0, bs_en (bdF p (p.length - 1))) := by
  by_cases h : p.length = 0
  ·have e : w64 ((p.length : Int) - 1) = -1 := by rw [Qaf (by omega) (by omega)]; omega
   rw [e, h, Qak, bs_stop (by omega)]; rfl
  ·have e : w64 ((p.length : Int) - 1) = ((p.length - 1 : Nat) : Int) := by rw [Qaf (by omega) (by omega)]; omega
   rw [e]
   exact bs_loop hr np sp hK1 hK (p.length - 1) 0 (by omega)
 unfold bdR
 generalize bdF p (p.length - 1) = r at *
 rw [Qkg, boxR_0] at hl
 generalize r + 1 = s at *
 obtain ⟨n, hn⟩ : ∃ n, w64 ((p.length : Int) - 1) = n := ⟨_, rfl⟩
 rw [hn] at hl
 generalize (1 : Rat) = one at *
 simp only [encR, iv] at o g
 simp only [bs_en, boxZ, boxR, go_sem] at hl
 simp -implicitDefEqProofs (maxSteps:=9^8) only [QhD, encR, ll, hn, hl, o, g, st4q, ld4q, Qaa, Qad, go_sem, iv, bv, reduceCtorEq, ↓reduceIte, Nat.reduceEqDiff]
end
end Go.AM

/- slices.AppendSeq, Collect over sturm.zeros; sturm.zeros; sturm.Isolate. -/
namespace Go.AM
open Go Go.RowKit Go.Proofs
def resA7 (r : List (Rat × Rat)) : D := if r = [] then .z true else rowA r
theorem gHs_nil : gHs [] = [([2], ⟨0, 0, [.d (.z true)], false⟩)] := rfl
theorem gHs_ne {r : List (Rat × Rat)} (h : r ≠ []) : gHs r = [([2], ⟨0, 0, [.own [11] r.length], false⟩), ([11], ⟨8, r.length, (cAs r).map .d, false⟩)] := if_neg h
variable [Its]
theorem Qn5       : ∀ (xs r : List (Rat × Rat)), r.length + xs.length ≤ 100000 →
    QcH (X G) [7] slices_AppendSeq_2_api_Rat_2_api_Rat_a0 slices_AppendSeq_2_api_Rat_2_api_Rat_b0 QnU [] (xs.map fun q => [enc2 q]) (hpL (gHs r)) = some (.n, ⟨QnU, hpL (gHs (r ++ xs)), []⟩)
  | [], r, _ => by rw [List.append_nil]; rfl
  | q :: xs, r, h => by
    rw [List.map_cons, as_round q r (by simp at h; omega), Qn5 xs (r ++ [q]) (by simp at h ⊢; omega), List.append_assoc]; rfl
section
variable {dc : D} {l : Rat × Rat} {r : List (Rat × Rat)}
theorem Qll            (hit : (G).it Qax             (Qcf     dc l) = some (r.map fun q => [enc2 q])) (hr : r.length ≤ 100000) :
    Qaj G QbF [.z true, .fn Qax (Qcf dc l)] = some (if r = [] then .d (.z true) else .own 8 r.length (cAs r)) := by
  rw [Qac (cf := QaG) rfl]
  have hrd := Qn5 r [] (by simpa using hr)
  rw [List.nil_append, gHs_nil] at hrd
  have hA : slices_AppendSeq_2_api_Rat_2_api_Rat_a0.holds [[2]] = true := rfl
  have hB : slices_AppendSeq_2_api_Rat_2_api_Rat_b0.holds [[2]] = true := rfl
  have n7 : allD ((cAs r).map A.d) = some (cAs r) := Qfa _
  generalize (r.map fun q => [enc2 q]) = XS at *
  generalize Qcf dc l = za at *
  by_cases h : r = []
  · subst h
    rw [gHs_nil] at hrd
    rw [if_pos rfl]
    simp only [QnU, go_sem] at hrd
    simp -implicitDefEqProofs (maxSteps:=9^8) only [QaG, X_rfn, Qjy, hA, hB, hit, hrd, ldn1, stn1, Qad, go_sem, iv, bv, reduceCtorEq, ↓reduceIte, Nat.reduceEqDiff]
  · rw [gHs_ne h] at hrd
    rw [if_neg h]
    simp only [QnU, go_sem] at hrd
    simp -implicitDefEqProofs (maxSteps:=9^8) only [QaG, X_rfn, Qjy, hA, hB, hit, hrd, n7, ldn1, stn1, Qmj, own_c, own_o, Qad, go_sem, iv, bv, reduceCtorEq, ↓reduceIte, Nat.reduceEqDiff]
theorem Qn4          (hit : (G).it Qax             (Qcf     dc l) = some (r.map fun q => [enc2 q])) (hr : r.length ≤ 100000) :
    Qaj G QcY [.fn Qax (Qcf dc l)] = some (.d (resA7 r)) := by
  rw [Qac (cf := QbG) rfl]
  have g := Qll hit hr
  unfold resA7 rowA
  by_cases h : r = []
  · rw [if_pos h] at *
    simp -implicitDefEqProofs (maxSteps:=9^8) only [QbG, g, Qad, go_sem, iv, bv, reduceCtorEq, ↓reduceIte, Nat.reduceEqDiff]
  · rw [if_neg h] at *
    simp -implicitDefEqProofs (maxSteps:=9^8) only [QbG, g, Qad, go_sem, iv, bv, reduceCtorEq, ↓reduceIte, Nat.reduceEqDiff]
theorem Qrr {ds : List D} : Qaj G Qii [.row ds.length ds, enc2 l] = some (.d (.fn Qax (Qcf (.row ds.length ds) l))) := by
 rw [Qac (cf := QhJ) rfl]
 obtain ⟨lo, hi⟩ := l
 simp -implicitDefEqProofs (maxSteps:=9^8) only [QhJ, Qcf, enc2, c2R, toDs, allD, snap, Qcn, nf_c, nf_o, Qab, Qaa, Qad, go_sem, iv, bv, reduceCtorEq, ↓reduceIte, Nat.reduceEqDiff]
end
theorem QnF          {dp : D} {p : List Rat} {b : Rat} {r : List (Rat × Rat)} (hp : RwR dp p) (hp0 : p ≠ []) (np : p.length ≤ 17) (hB : Qaj   G QeF           [dp] = some (.d (encR b))) (hC : ∃ ds, Dls ds (chP p) ∧ Qaj   G QbM           [dp] = some (.own 1 ds.length ds))
    (hit : ∀ ds, Dls ds (chP p) → (G).it Qax (Qcf (.row ds.length ds) (-b, b)) = some (r.map fun q => [enc2 q])) (hr : r.length ≤ 100000) : Qaj G Qfe [dp] = some (.d (.tup [resA7 r, iv 0])) := by
  rw [Qac (cf := QgC) rfl]
  obtain ⟨ds, hd, g1⟩ := hC
  have g2 := Qrr (l := (-b, b)) (ds := ds)
  have g3 := Qn4 (hit ds hd) hr
  have g4 := QhF b
  have ll := hp.len
  have e1 : ((p.length : Int) == 0) = false := QcB (by have := List.length_pos_iff.2 hp0; omega)
  have e2 : decide ((p.length : Int) > 17) = false := decide_eq_false (by omega)
  generalize Qcf (.row ds.length ds) (-b, b) = za at *
  generalize resA7 r = ra at *
  clear hit hd hp hp0 np
  generalize -b = nb at *
  simp only [encR, enc2, c2R, iv] at hB g2 g4
  simp -implicitDefEqProofs (maxSteps:=9^8) only [QgC, toDs, allD, g1, g2, g3, g4, hB, ll, e1, e2, st4q, ld4q, Qga, Qc5, Qad, go_sem, iv, bv, reduceCtorEq, ↓reduceIte, Nat.reduceEqDiff]
end Go.AM

/- law07.lives. -/
namespace Go.AM
open Go Go.RowKit Go.Proofs
class ItsZ [Its] : Prop where
 zer : ∀ {dc : D} {ps : List (List Rat)} {l : Rat × Rat} {r : List (Rat × Rat)} {k : Nat}, RwC dc ps → ps.length ≤ 1000 → (∀ p ∈ ps, SzL KZ p ∧ p.length * (2 * KZ + 1) ≤ 40000000000) → wtZ KZ ps k l = some r → (G).it Qax (Qcf dc l) = some (r.map fun q => [enc2 q])
def lp7 : List Rat := [2, -3, 0, 1]
def lc7 : List (List Rat) := [[-2, 1, 1], [1, 2], [9 / 4]]
theorem l7_de : deP lp7 = [-3, 0, 3] := by kernel_rfl
theorem l7_g : gcdP lp7 [-3, 0, 3] = [-1, 1] := by kernel_rfl
theorem l7_q : quoP lp7 [-1, 1] = [-2, 1, 1] := by kernel_rfl
theorem l7_f : frP lp7 = [-2, 1, 1] := by kernel_rfl
theorem l7_c : chP lp7 = lc7 := by kernel_rfl
theorem l7_b : bdR lp7 = 4 := by kernel_rfl
theorem l7_n1 : cnt lc7 (-3) 3 = 2 := by kernel_rfl
theorem l7_n2 : cnt lc7 (-2) 1 = 1 := by kernel_rfl
theorem l7_n3 : cnt lc7 1 5 = 0 := by kernel_rfl
theorem l7_i0 : cnt lc7 (-4) 4 = 2 := by kernel_rfl
theorem l7_i1 : cnt lc7 (-4) 0 = 1 := by kernel_rfl
theorem l7_i2 : cnt lc7 0 4 = 1 := by kernel_rfl
theorem l7_m : mid (-4) 4 = 0 := by kernel_rfl
theorem l7_dv : dvB [-1, 1] (dvN lp7 [-1, 1]) lp7 = true := by kernel_rfl
theorem l7_gb : gcB 4 (mnP lp7) (mnP [-3, 0, 3]) = true := by kernel_rfl
theorem l7_sp : smL lp7 = true := by kernel_rfl
theorem l7_s1 : smL [-3, 0, 3] = true := by kernel_rfl
theorem Qrk : smL [-1, 1] = true := by kernel_rfl
theorem Qrf : smL [-2, 1, 1] = true := by kernel_rfl
theorem l7_s4 : smL [1, 2] = true := by kernel_rfl
theorem l7_s5 : smL [9 / 4] = true := by kernel_rfl
theorem l7_r1 : remP [-2, 1, 1] [1, 2] = [-9 / 4] := by kernel_rfl
theorem l7_r2 : remP [1, 2] [9 / 4] = [] := by kernel_rfl
theorem l7_sc : scP [-9 / 4] (-1) = [9 / 4] := by kernel_rfl
theorem l7_d2 : deP [-2, 1, 1] = [1, 2] := by kernel_rfl
theorem sm7 {l : List Rat} (h : smL l = true) : SzL 7000 l := (QbE h).mono (by omega)
theorem sz_i {n : Int} (h : I64 n) : sz ((n : Int) : Rat) ≤ 3 := sz_int h
theorem l7_ch : ChOk 800000 lp7.length (frP lp7) (deP (frP lp7)) := by
 rw [l7_f, l7_d2]
 refine Qpa (sm7 Qrf) (sm7 l7_s4) (by simp) (by simp) (trm2 (by decide)) ?_
 rw [l7_r1, l7_sc]
 refine Qpa (sm7 l7_s4) (sm7 l7_s5) (by simp) (by simp) (trm1 (by decide +kernel)) ?_
 rw [l7_r2]
 exact ch_done _ _ _
theorem l7_hs {K : Nat} (hK : 1 ≤ K) (hK2 : K ≤ 1000000000) : ∀ q ∈ lc7, SzL K q ∧ q.length * (2 * K + 1) ≤ 40000000000 := by
 intro q hq
 have h3 : q.length ≤ 3 := by
  rcases List.mem_cons.1 hq with rfl | hq
  ·simp
  ·rcases List.mem_cons.1 hq with rfl | hq
   ·simp
   ·rw [List.mem_singleton.1 hq]; simp
 have h4 : q.length * (2 * K + 1) ≤ 3 * (2 * K + 1) := Nat.mul_le_mul_right _ h3
 refine ⟨?_, by omega⟩
 rcases List.mem_cons.1 hq with rfl | hq
 ·exact (QbE Qrf).mono hK
 ·rcases List.mem_cons.1 hq with rfl | hq
  ·exact (QbE l7_s4).mono hK
  ·rw [List.mem_singleton.1 hq]; exact (QbE l7_s5).mono hK
theorem z_m4 : sz (-4 : Rat) ≤ 3 := sz_i (n := -4) ⟨by omega, by omega⟩
theorem z_4 : sz (4 : Rat) ≤ 3 := sz_i (n := 4) ⟨by omega, by omega⟩
theorem z_0 : sz (0 : Rat) ≤ 3 := by rw [Qkc]; omega
theorem l7_w1 : wtZ KZ lc7 1 (-4, 0) = some [(-4, 0)] := by
 have k : 3 ≤ KZ := by unfold KZ; omega
 have a := z_m4
 have c := z_0
 rw [wtZ]
 dsimp only
 rw [if_pos ⟨by omega, by omega⟩, l7_i1]
 rfl
theorem l7_w2 : wtZ KZ lc7 1 (0, 4) = some [(0, 4)] := by
 have k : 3 ≤ KZ := by unfold KZ; omega
 have b := z_4
 have c := z_0
 rw [wtZ]
 dsimp only
 rw [if_pos ⟨by omega, by omega⟩, l7_i2]
 rfl
theorem l7_wt : wtZ KZ lc7 2 (-4, 4) = some [(-4, 0), (0, 4)] := by
 have k : 3 ≤ KZ := by unfold KZ; omega
 have a := z_m4
 have b := z_4
 rw [wtZ]
 dsimp only
 rw [if_pos ⟨by omega, by omega⟩, l7_i0, if_neg (by decide), if_neg (by decide), l7_m, l7_w1, l7_w2]
 rfl
section
variable [Its]
theorem of7_p : Qaj G Qbk [iv 1, .row 4 [iv 2, iv (-3), iv 0, iv 1]] = some (.d (rowR lp7)) := callX_some.2 ⟨60, by kernel_rfl⟩
theorem of7_1 : Qaj G Qbk [iv 1, .row 3 [iv (-2), iv 1, iv 1]] = some (.d (rowR [-2, 1, 1])) := callX_some.2 ⟨60, by kernel_rfl⟩
theorem of7_2 : Qaj G Qbk [iv 1, .row 2 [iv 1, iv 2]] = some (.d (rowR [1, 2])) := callX_some.2 ⟨60, by kernel_rfl⟩
theorem of7_3 : Qaj G Qbk [iv 4, .row 1 [iv 9]] = some (.d (rowR [9 / 4])) := callX_some.2 ⟨60, by kernel_rfl⟩
theorem l7_free : ∃ d', RwR d' (frP lp7) ∧ Qaj G Qb8 [rowR lp7] = some (.d d') := by
 have h := QgH (K := 1) (RwR.row lp7) (by decide) (by omega) (by omega) (QbE l7_sp)
 rw [l7_de, l7_g, l7_q] at h
 exact h (QbE l7_s1) (QnA l7_gb) (by simp) (QbE Qrk) (Qjj l7_dv) (QbE Qrf)
theorem QmK : ∃ ds, Dls ds (chP lp7) ∧ Qaj G QbM [rowR lp7] = some (.own 1 ds.length ds) :=
 QhI (K := 800000) (by decide) (by decide) l7_free (by rw [l7_f]; simp) (by rw [l7_f]; simp) (by rw [l7_f]; exact (QbE Qrf).mono (by omega)) l7_ch (by omega) (by omega)
theorem Qmm [ItsB] {lo hi : Rat} (h1 : sz lo ≤ 3) (h2 : sz hi ≤ 3) : Qaj G Qbf [rowR lp7, encR lo, encR hi] = some (.d (iv (cnt lc7 lo hi))) := by
 have h := QgY (K := 3) QmK (lo := lo) (hi := hi) (by rw [l7_c]; decide) (by rw [l7_c]; exact l7_hs (by omega) (by omega)) h1 h2 (by omega)
 rw [l7_c] at h
 exact h
theorem l7_isol [ItsZ] : Qaj G Qfe [rowR lp7] = some (.d (.tup [rowA [(-4, 0), (0, 4)], iv 0])) := by
 have hB := QkO (K := 1) (RwR.row lp7) (by decide) (QbE l7_sp) (by omega) (by omega)
 rw [l7_b] at hB
 exact QnF (b := 4) (r := [(-4, 0), (0, 4)]) (RwR.row lp7) (by decide) (by decide) hB QmK (fun ds hd => ItsZ.zer (k := 2) hd.rwc (by rw [l7_c]; decide) (by rw [l7_c]; exact l7_hs (by unfold KZ; omega) (by unfold KZ; omega)) (by rw [l7_c]; exact l7_wt)) (by simp)
end
end Go.AM

/- law07.lives, the end. -/
namespace Go.AM
open Go Go.RowKit Go.Proofs
theorem l8_e1 : evR lp7 (-3) = -16 := by kernel_rfl
theorem l8_e2 : evR lp7 (-2) = 0 := by kernel_rfl
theorem l8_e3 : evR lp7 9 = 704 := by kernel_rfl
theorem l8_m1 : mid (-2) 9 = 7 / 2 := by kernel_rfl
theorem l8_m2 : mid (-2) (7 / 2) = 3 / 4 := by kernel_rfl
theorem l8_m3 : mid (-2) (3 / 4) = -5 / 8 := by kernel_rfl
theorem l8_m4 : mid (-2) (-5 / 8) = -21 / 16 := by kernel_rfl
theorem l8_v1 : ¬ evR lp7 (7 / 2) < 0 := by decide +kernel
theorem l8_v2 : ¬ evR lp7 (3 / 4) < 0 := by decide +kernel
theorem l8_v3 : ¬ evR lp7 (-5 / 8) < 0 := by decide +kernel
theorem l8_v4 : ¬ evR lp7 (-21 / 16) < 0 := by decide +kernel
theorem l8_q1 : quoP lp7 [-2, 1, 1] = [-1, 1] := by kernel_rfl
theorem l8_d1 : dvB [-2, 1, 1] (dvN lp7 [-2, 1, 1]) lp7 = true := by kernel_rfl
theorem l8_de : deP [-1, 1] = [1] := by kernel_rfl
theorem l8_g : gcdP [-1, 1] [1] = [1] := by kernel_rfl
theorem l8_gb : gcB 2 (mnP [-1, 1]) (mnP [1]) = true := by kernel_rfl
theorem l8_q2 : quoP [-1, 1] [1] = [-1, 1] := by kernel_rfl
theorem l8_d2 : dvB [1] (dvN [-1, 1] [1]) [-1, 1] = true := by kernel_rfl
theorem l8_f2 : frP [-1, 1] = [-1, 1] := by kernel_rfl
theorem l8_g2 : gcdP [-2, 1, 1] [-1, 1] = [-1, 1] := by kernel_rfl
theorem l8_gb2 : gcB 3 (mnP [-2, 1, 1]) (mnP [-1, 1]) = true := by kernel_rfl
theorem l8_q3 : quoP [-2, 1, 1] [-1, 1] = [2, 1] := by kernel_rfl
theorem l8_d3 : dvB [-1, 1] (dvN [-2, 1, 1] [-1, 1]) [-2, 1, 1] = true := by kernel_rfl
theorem l8_mu : muP [1] [2, 1] = [2, 1] := by kernel_rfl
theorem l8_q4 : quoP [-1, 1] [-1, 1] = [1] := by kernel_rfl
theorem l8_d4 : dvB [-1, 1] (dvN [-1, 1] [-1, 1]) [-1, 1] = true := by kernel_rfl
theorem Qo8 : smL [1] = true := by kernel_rfl
theorem QqT : smL [2, 1] = true := by kernel_rfl
theorem l8_de3 : deP [2, 1] = [1] := by kernel_rfl
theorem l8_g3 : gcdP [2, 1] [1] = [1] := by kernel_rfl
theorem l8_gb3 : gcB 2 (mnP [2, 1]) (mnP [1]) = true := by kernel_rfl
theorem l8_q5 : quoP [2, 1] [1] = [2, 1] := by kernel_rfl
theorem l8_d5 : dvB [1] (dvN [2, 1] [1]) [2, 1] = true := by kernel_rfl
theorem l8_f3 : frP [2, 1] = [2, 1] := by kernel_rfl
theorem l8_c3 : chP [2, 1] = [[2, 1], [1]] := by kernel_rfl
theorem l8_r3 : remP [2, 1] [1] = [] := by kernel_rfl
theorem l8_n : cnt [[2, 1], [1]] (-2) 9 = 0 := by kernel_rfl
theorem l8_ch : ChOk 800000 ([2, 1] : List Rat).length (frP [2, 1]) (deP (frP [2, 1])) := by
 rw [l8_f3, l8_de3]
 refine Qpa (sm7 QqT) (sm7 Qo8) (by simp) (by simp) (trm1 (by decide)) ?_
 rw [l8_r3]
 exact ch_done _ _ _
theorem l8_hs : ∀ q ∈ ([[2, 1], [1]] : List (List Rat)), SzL 3 q ∧ q.length * (2 * 3 + 1) ≤ 40000000000 := by
 intro q hq
 rcases List.mem_cons.1 hq with rfl | hq
 ·exact ⟨(QbE QqT).mono (by omega), by simp⟩
 ·rw [List.mem_singleton.1 hq]; exact ⟨(QbE Qo8).mono (by omega), by simp⟩
theorem z_m2 : sz (-2 : Rat) ≤ 3 := sz_i (n := -2) ⟨by omega, by omega⟩
theorem z_m3 : sz (-3 : Rat) ≤ 3 := sz_i (n := -3) ⟨by omega, by omega⟩
theorem z_3 : sz (3 : Rat) ≤ 3 := sz_i (n := 3) ⟨by omega, by omega⟩
theorem z_1 : sz (1 : Rat) ≤ 3 := sz_i (n := 1) ⟨by omega, by omega⟩
theorem z_5 : sz (5 : Rat) ≤ 3 := sz_i (n := 5) ⟨by omega, by omega⟩
theorem z_9 : sz (9 : Rat) ≤ 3 := sz_i (n := 9) ⟨by omega, by omega⟩
theorem rep4L (a : D) : rep 4 [a] = [a, a, a, a] := rfl
theorem rep3L (a : D) : rep 3 [a] = [a, a, a] := rfl
theorem rep2L (a : D) : rep 2 [a] = [a, a] := rfl
theorem rep1L (a : D) : rep 1 [a] = [a] := rfl
theorem l8_sm : ∀ q ∈ lc7, SzL 100000000000 q ∧ q.length ≤ 1000 := by
 intro q hq
 refine ⟨(l7_hs (K := 1) (by omega) (by omega) q hq).1.mono (by omega), ?_⟩
 rcases List.mem_cons.1 hq with rfl | hq
 ·simp
 ·rcases List.mem_cons.1 hq with rfl | hq
  ·simp
  ·rw [List.mem_singleton.1 hq]; simp
section
variable [Its]
theorem l8_odd : ∃ d', RwR d' [2, 1] ∧ Qaj G Qgs [rowR lp7] = some (.d d') := by
 have P := RwR.row lp7
 obtain ⟨a1, h1, g1⟩ := l7_free
 rw [l7_f] at h1
 obtain ⟨a2, a2', h2, _, g2⟩ := QeO (K := 1) P h1 (by decide) (by simp) (QbE Qrf) (by omega) (by omega) (Qjj l8_d1)
 rw [l8_q1] at h2
 have hf := QgH (K := 1) h2 (by simp) (by omega) (by omega) (QbE Qrk)
 rw [l8_de, l8_g, l8_q2, l8_f2] at hf
 obtain ⟨a3, h3, g3⟩ := hf (QbE Qo8) (QnA l8_gb) (by simp) (QbE Qo8) (Qjj l8_d2) (QbE Qrk)
 obtain ⟨a4, h4, g4⟩ := QlA (K := 1) h1 h3 (by simp) (by simp) (by omega) (by omega) (QbE Qrf) (QbE Qrk) (QnA l8_gb2)
 rw [l8_g2] at h4
 obtain ⟨a5, a5', h5, _, g5⟩ := QeO (K := 1) h1 h4 (by simp) (by simp) (QbE Qrk) (by omega) (by omega) (Qjj l8_d3)
 rw [l8_q3] at h5
 obtain ⟨a6, h6, g6⟩ := QqJ (K := 1) (RwR.row [1]) h5 (QbE Qo8) (QbE QqT) (by omega) (by simp)
 rw [l8_mu] at h6
 obtain ⟨a7, a7', h7, _, g7⟩ := QeO (K := 1) h2 h3 (by simp) (by simp) (QbE Qrk) (by omega) (by omega) (Qjj l8_d4)
 rw [l8_q4] at h7
 have hx := odg_go (d1 := rowR [1]) P (by decide) g1 g2 g3 g4 g5 g6 g7
 exact ⟨a6, h6, odg_end (by rw [Qak, hx, Option.bind_some, if_pos rfl, Qak, odg_stop h7 (by simp)]; rfl)⟩
theorem l8_free {d : D} (h : RwR d [2, 1]) : ∃ d', RwR d' (frP [2, 1]) ∧ Qaj G Qb8 [d] = some (.d d') := by
 have hf := QgH (K := 1) h (by simp) (by omega) (by omega) (QbE QqT)
 rw [l8_de3, l8_g3, l8_q5] at hf
 exact hf (QbE Qo8) (QnA l8_gb3) (by simp) (QbE Qo8) (Qjj l8_d5) (QbE QqT)
theorem l8_low [ItsB] : Qaj G QcW [rowR lp7, encR (-3), encR 0] = some (.d (bv false)) :=
 Qrg (K := 300) (RwR.row lp7) ((QbE l7_sp).mono (by omega)) (by decide) (by omega) (by decide) (by decide) (Nat.le_trans z_m3 (by omega)) (Nat.le_trans z_0 (by omega)) (by rw [l8_e1]; decide)
theorem l8_stay [ItsB] : Qaj G QcW [rowR lp7, encR (-2), encR 9] = some (.d (bv true)) := by
 obtain ⟨dg, h, g⟩ := l8_odd
 have P := RwR.row lp7
 have c := QgY (K := 3) (QhI (K := 800000) (by simp) (by simp) (l8_free h) (by rw [l8_f3]; simp) (by rw [l8_f3]; simp) (by rw [l8_f3]; exact (QbE QqT).mono (by omega)) l8_ch (by omega) (by omega)) (lo := -2) (hi := 9) (by rw [l8_c3]; simp) (by rw [l8_c3]; exact l8_hs) z_m2 z_9 (by omega)
 rw [l8_c3, l8_n] at c
 have sp : SzL 300 lp7 := (QbE l7_sp).mono (by omega)
 have z2 : sz (-2 : Rat) ≤ 100 := Nat.le_trans z_m2 (by omega)
 have z9 : sz (9 : Rat) ≤ 3 := z_9
 have k1 := Qqj z_m2 z_9
 rw [l8_m1] at k1
 have k2 := Qqj z_m2 k1
 rw [l8_m2] at k2
 have k3 := Qqj z_m2 k2
 rw [l8_m3] at k3
 have r0 := Qqn P sp (by decide) (by omega) z2 (x := 9) (by omega) (by omega) (n := 4) (i := 0) (by omega) (by omega)
 have r1 := Qqn P sp (by decide) (by omega) z2 (x := 7 / 2) (by omega) (by omega) (n := 4) (i := 1) (by omega) (by omega)
 have r2 := Qqn P sp (by decide) (by omega) z2 (x := 3 / 4) (by omega) (by omega) (n := 4) (i := 2) (by omega) (by omega)
 have r3 := Qqn P sp (by decide) (by omega) z2 (x := -5 / 8) (by omega) (by omega) (n := 4) (i := 3) (by omega) (by omega)
 rw [l8_m1, if_neg l8_v1] at r0
 rw [l8_m2, if_neg l8_v2] at r1
 rw [l8_m3, if_neg l8_v3] at r2
 rw [l8_m4, if_neg l8_v4] at r3
 refine Qor (K := 300) P sp (by decide) (by omega) (by decide) (by decide) (Nat.le_trans z_m2 (by omega)) (Nat.le_trans z_9 (by omega)) (by rw [l8_e2]; exact Rat.le_refl) (by rw [l8_e3]; decide) g c ?_
 show X G (.loop QbQ) (Qia (rowR lp7) (-2) 9 ((4 : Nat) : Int) ((0 : Nat) : Int)) = _
 rw [Qak, r0, Option.bind_some, if_pos rfl, Qak, r1, Option.bind_some, if_pos rfl, Qak, r2, Option.bind_some, if_pos rfl, Qak, r3, Option.bind_some, if_pos rfl, Qak, s7s_stop]
 rfl
theorem lives7 [ItsB] [ItsZ] : Qaj G Qe3 [] = some (.d (bv true)) := by
 rw [Qac (cf := QdM) rfl]
 have f0 := of7_p
 have f1 := of7_1
 have f2 := of7_2
 have f3 := of7_3
 have nm3 := Qee (n := -3) ⟨by omega, by omega⟩
 have n3 := Qee (n := 3) ⟨by omega, by omega⟩
 have nm2 := Qee (n := -2) ⟨by omega, by omega⟩
 have n1 := Qee (n := 1) ⟨by omega, by omega⟩
 have n5 := Qee (n := 5) ⟨by omega, by omega⟩
 have n4 := Qee (n := 4) ⟨by omega, by omega⟩
 have n9 := Qee (n := 9) ⟨by omega, by omega⟩
 have n0 := Qee (n := 0) ⟨by omega, by omega⟩
 rw [show (((-3 : Int)) : Rat) = -3 from rfl] at nm3
 rw [show (((3 : Int)) : Rat) = 3 from rfl] at n3
 rw [show (((-2 : Int)) : Rat) = -2 from rfl] at nm2
 rw [show (((1 : Int)) : Rat) = 1 from rfl] at n1
 rw [show (((5 : Int)) : Rat) = 5 from rfl] at n5
 rw [show (((4 : Int)) : Rat) = 4 from rfl] at n4
 rw [show (((9 : Int)) : Rat) = 9 from rfl] at n9
 rw [show (((0 : Int)) : Rat) = 0 from rfl] at n0
 have c1 := Qmm z_m3 z_3
 have c2 := Qmm z_m2 z_1
 have c3 := Qmm z_1 z_5
 rw [l7_n1] at c1
 rw [l7_n2] at c2
 rw [l7_n3] at c3
 have is := l7_isol
 obtain ⟨ds, hd, gc⟩ := QmK
 have gb := QkO (K := 1) (RwR.row lp7) (by decide) (QbE l7_sp) (by omega) (by omega)
 rw [l7_b] at gb
 have hL : RwC (.row 3 [rowR [-2, 1, 1], rowR [1, 2], rowR [9 / 4]]) (chP lp7) := by
  rw [l7_c]
  refine ⟨[rowR [-2, 1, 1], rowR [1, 2], rowR [9 / 4]], rfl, fun i hi => ?_, .inl rfl⟩
  match i, hi with
  | 0, _ => exact RwR.row _
  | 1, _ => exact RwR.row _
  | 2, _ => exact RwR.row _
 have gs := QqL hd.rwc hL (by rw [l7_c]; decide) (by rw [l7_c]; exact l8_sm)
 have g5 := s5_refl (a := 4) (Nat.le_trans z_4 (by omega))
 have st := l8_stay
 have sl := l8_low
 have t2 : ((2 : Int) == 2) = true := rfl
 have t2n : (((2 : Nat) : Int) == 2) = true := rfl
 have t1 : ((1 : Int) == 1) = true := rfl
 have t0 : ((0 : Int) == 0) = true := rfl
 have hl : lenA (.d (rowA [(-4, 0), (0, 4)])) = some 2 := rfl
 have k1 : Qb4 (.d (rowR [-2, 1, 1])) = some [rowR [-2, 1, 1]] := rfl
 have k2 : Qb4 (.d (rowR [1, 2])) = some [rowR [1, 2]] := rfl
 have k3 : Qb4 (.d (rowR [9 / 4])) = some [rowR [9 / 4]] := rfl
 clear hL hd
 generalize rowA [(-4, 0), (0, 4)] = ra at *
 generalize rowR lp7 = p at *
 generalize rowR [-2, 1, 1] = p1 at *
 generalize rowR [1, 2] = p2 at *
 generalize rowR [9 / 4] = p3 at *
 generalize (-3 : Rat) = rm3 at *
 generalize (3 : Rat) = r3 at *
 generalize (-2 : Rat) = rm2 at *
 generalize (1 : Rat) = r1 at *
 generalize (5 : Rat) = r5 at *
 generalize (4 : Rat) = r4 at *
 generalize (9 : Rat) = r9 at *
 generalize (0 : Rat) = r0 at *
 simp only [encR, iv, bv] at f0 f1 f2 f3 nm3 n3 nm2 n1 n5 n4 n9 n0 c1 c2 c3 is gb gs g5 st sl
 simp -implicitDefEqProofs (maxSteps:=9^8) only [QdM, f0, f1, f2, f3, nm3, n3, nm2, n1, n5, n4, n9, n0, c1, c2, c3, is, gc, gb, gs, g5, st, sl, t2, t2n, t1, t0, hl, k1, k2, k3, rep4L, rep3L, rep2L, rep1L, toDs, allD, go_sem, iv, bv, reduceCtorEq, ↓reduceIte, Nat.reduceEqDiff]
end
end Go.AM

/- Chains of polynomials of at most the fifth degree: sizes. sturm.Count. -/
namespace Go.AM
open Go Go.RowKit
theorem H1.m1 : H1 0 0 (-1) := H1.one.neg
theorem sc_HL {d h : Nat} {l : List Rat} (H : HL d h l) : HL d h (scP l (-1)) := (H.sc H1.m1).mono (by omega) (by omega)
theorem ch_pot {K : Nat} : ∀ (n s : Nat) (a b : List Rat), HL s s a → HL s s b → Trm b → b.length < n → b.length ≤ 90 → (s + 1) * (dvN a b + 1) * 3 ^ b.length ≤ K → ChOk K n a b ∧ ∀ q ∈ chL n a b, SzL K q ∧ q.length ≤ b.length
 | 0, _, _, b, _, _, _, h, _, _ => by omega
 | n + 1, s, a, b, Ha, Hb, tb, hn, h90, hK => by
  have h3 : 1 ≤ 3 ^ b.length := Nat.one_le_pow _ _ (by decide)
  have hs : s + 1 ≤ K := Nat.le_trans (Nat.le_trans (Nat.le_mul_of_pos_right (s + 1) (by omega)) (Nat.le_mul_of_pos_right _ h3)) hK
  by_cases hb : b = []
  ·subst hb
   refine ⟨.inl rfl, ?_⟩
   rw [chL, if_pos rfl]
   exact fun q hq => by simp at hq
  ·have hlb : 0 < b.length := List.length_pos_iff.2 hb
   obtain ⟨_, q2, _, _⟩ := Qjf (p := a) tb hb
   have h33 : 3 * ((s + 1) * (dvN a b + 1)) ≤ K := by
    refine Nat.le_trans ?_ hK
    rw [Nat.mul_comm 3]
    refine Nat.mul_le_mul_left _ ?_
    obtain ⟨k, hk⟩ : ∃ k, b.length = k + 1 := ⟨b.length - 1, by omega⟩
    rw [hk, Nat.pow_succ]
    have : 1 ≤ 3 ^ k := Nat.one_le_pow _ _ (by decide)
    omega
   have hr := QnH (remP a b) (-1)
   have h3' : ((s + 1) * (dvN a b + 1)) * (dvN b (scP (remP a b) (-1)) + 1) * 3 ^ (scP (remP a b) (-1)).length ≤ K := by
    refine Nat.le_trans ?_ hK
    rw [Nat.mul_assoc]
    refine Nat.mul_le_mul_left _ (Nat.le_trans (Nat.le_of_eq ?_) (QjT (a := (scP (remP a b) (-1)).length) (b := b.length) (by omega)))
    congr 1
    unfold dvN; omega
   have he : (s + 1) * (dvN a b + 1) = s * dvN a b + dvN a b + s + 1 := by rw [Nat.mul_add, Nat.add_mul, Nat.mul_one, Nat.one_mul]; omega
   have he2 : dvN a b * (s + 1) = s * dvN a b + dvN a b := by rw [Nat.mul_add, Nat.mul_one, Nat.mul_comm]
   have he3 : dvN a b * s = s * dvN a b := Nat.mul_comm _ _
   obtain ⟨g1, g2, _⟩ := Qpk (K := K) Ha Hb tb (by rw [he2, he3]; omega)
   have hsz := g2.sz
   have g3 := sc_HL g2
   have e1 : s + dvN a b * (s + 1) + 1 = (s + 1) * (dvN a b + 1) := by omega
   obtain ⟨i1, i2⟩ := ch_pot (K := K) n (s + dvN a b * (s + 1)) b (scP (remP a b) (-1)) (Hb.mono (by omega) (by omega)) (g3.mono (by omega) (by omega)) (QiB _ _) (by omega) (by omega) (by rw [e1]; exact h3')
   refine ⟨.inr ⟨tb, h90, Hb.mono (by omega) (by omega), Hb.sz.mono (by omega), g1, hsz.mono (by omega), i1⟩, ?_⟩
   rw [chL, if_neg hb]
   intro q hq
   rcases List.mem_cons.1 hq with rfl | hq
   ·exact ⟨Hb.sz.mono (by omega), Nat.le_refl _⟩
   ·exact ⟨(i2 q hq).1, by have := (i2 q hq).2; omega⟩
theorem gz7 {N d s e K : Nat} {a b : List Rat} (Ha : HL d s a) (Hb : HL e s b) (ta : Trm a) (tb : Trm b) (na : a.length ≤ N) (nb : b.length ≤ N) (hK : (s + 1) * 3 ^ (N + 1) ≤ K) : gcG K (b.length + 1) (mnP a) (mnP b) ∧ gcH K (b.length + 1) (mnP a) (mnP b) ∧ HL K K (gcdP a b) := by
 have l1 := QiU ta
 have l2 := QiU tb
 have h0 := QjT (a := (mnP b).length) (b := N + 1) (by omega)
 have h1 : dvN (mnP a) (mnP b) + 1 ≤ N + 1 + 2 - (mnP b).length := by unfold dvN; omega
 have h2 : (s + 1) * (dvN (mnP a) (mnP b) + 1) * 3 ^ (mnP b).length ≤ K := by
  rw [Nat.mul_assoc]
  exact Nat.le_trans (Nat.mul_le_mul_left _ (Nat.le_trans (Nat.mul_le_mul_right _ h1) h0)) hK
 exact gc_pot (K := K) (b.length + 1) s (mnP a) (mnP b) (mn_HL Ha ta) (mn_HL Hb tb) (QgS _) (by omega) h2
theorem gcd_len7 {a b : List Rat} {M : Nat} (ha : a.length ≤ M) (hb : b.length ≤ M) : (gcdP a b).length ≤ M := by
 have go : ∀ (n : Nat) (a b : List Rat), a.length ≤ M → b.length ≤ M → (gcP n a b).length ≤ M := by
  intro n
  induction n with
  | zero => intro a b ha hb; exact ha
  | succ n ih =>
   intro a b ha hb
   rw [gcP]
   split
   ·exact ha
   ·exact ih b _ hb (Nat.le_trans (Qgw _) (Nat.le_trans (Qj6 a b) ha))
 exact go _ _ _ (Nat.le_trans (Qgw a) ha) (Nat.le_trans (Qgw b) hb)
theorem Ql5 : frP [] = [] := by
 unfold frP
 have : quoP [] (gcdP [] (deP [])) = [] := if_pos (show gcdP [] (deP []) = [] from gcd_nil)
 rw [this]
 exact if_pos rfl
theorem quo_17 (p : List Rat) (tp : Trm p) : quoP p [1] = p := by
 obtain ⟨_, h⟩ := Qiq (q := [1]) trm_one (by simp) (Dv.one p)
 exact Qcv (QgM _ _) tp fun x => by rw [h, QiN, Rat.mul_one]
theorem fr_two {p : List Rat} (H : HL 120 120 p) (tp : Trm p) (np : p.length ≤ 6) : HL 2200000 2200000 (quoP p (gcdP p (deP p))) ∧ dvG 2200000 (gcdP p (deP p)) (dvN p (gcdP p (deP p))) p ∧ (HL 120 120 (frP p) ∨ (frP p).length ≤ 5) := by
 have hBB : BB = 1000000000 := rfl
 have Hd := H.de (by omega)
 have nd := QpK p
 obtain ⟨_, _, Hg⟩ := gz7 (N := 6) (K := 268000) (H.mono (Nat.le_refl _) (show 120 ≤ 121 by omega)) Hd tp (Qep p) np (by omega) (by decide)
 have tg : Trm (gcdP p (deP p)) := QhL
 have hm : dvN p (gcdP p (deP p)) ≤ 7 := by unfold dvN; omega
 have h1 : dvN p (gcdP p (deP p)) * 268000 ≤ 7 * 268000 := Nat.mul_le_mul_right _ hm
 have h2 : dvN p (gcdP p (deP p)) * (268000 + 1) ≤ 7 * (268000 + 1) := Nat.mul_le_mul_right _ hm
 obtain ⟨x, _, z⟩ := Qpk (K := 2200000) H Hg tg (by omega)
 refine ⟨z.mono (by omega) (by omega), x, ?_⟩
 by_cases p0 : p = []
 ·right; rw [p0, Ql5]; simp
 have ng := gcd_ne tp (Qep p) (.inl p0)
 have hl := List.length_pos_iff.2 ng
 by_cases l1 : (gcdP p (deP p)).length = 1
 ·left
  have e : gcdP p (deP p) = [1] := mo_len1 (QpB tp (Qep p)) l1
  unfold frP
  rw [e, quo_17 p tp]
  exact mn_HL H tp
 ·right
  unfold frP
  have k1 := Qgw (quoP p (gcdP p (deP p)))
  have k2 := Qqe p (gcdP p (deP p))
  unfold dvN at k2
  omega
theorem fr_HL {p : List Rat} (H : HL 120 120 p) (tp : Trm p) (np : p.length ≤ 6) : HL 2200000 2200000 (frP p) ∧ (frP p).length ≤ 6 := by
 obtain ⟨a, _, _⟩ := fr_two H tp np
 refine ⟨mn_HL a (QgM _ _), ?_⟩
 by_cases p0 : p = []
 ·rw [p0, Ql5]; simp
 ·exact Nat.le_trans (dv_len (trm_fr p) tp p0 (frP_dv tp p0)) np
theorem chain6 {p : List Rat} (H : HL 120 120 p) (tp : Trm p) (np : p.length ≤ 6) : ChOk 600000000 p.length (frP p) (deP (frP p)) ∧ ∀ q ∈ chP p, SzL 600000000 q ∧ q.length ≤ 6 := by
 have hBB : BB = 1000000000 := rfl
 obtain ⟨F, nf⟩ := fr_HL H tp np
 obtain ⟨_, _, F2⟩ := fr_two H tp np
 by_cases p0 : p = []
 ·subst p0
  rw [Ql5]
  exact ⟨rfl, fun q hq => by rw [chP, if_pos rfl] at hq; simp at hq⟩
 have nd := de_lenE (trm_fr p)
 have pl := List.length_pos_iff.2 p0
 have fl := dv_len (trm_fr p) tp p0 (frP_dv tp p0)
 have fpos := List.length_pos_iff.2 (frP_ne tp p0)
 have key : ∀ s M, HL s s (frP p) → HL s s (deP (frP p)) → (frP p).length ≤ M → (s + 1) * 3 ^ M ≤ 600000000 → ChOk 600000000 p.length (frP p) (deP (frP p)) ∧ ∀ q ∈ chL p.length (frP p) (deP (frP p)), SzL 600000000 q ∧ q.length ≤ (deP (frP p)).length := by
  intro s M h1 h2 hM hK
  refine ch_pot p.length s (frP p) (deP (frP p)) h1 h2 (Qep _) (by omega) (by omega) ?_
  rw [Nat.mul_assoc]
  refine Nat.le_trans (Nat.mul_le_mul_left _ (Nat.le_trans (Nat.mul_le_mul_right _ ?_) (QjT (a := (deP (frP p)).length) (b := M) (by omega)))) hK
  unfold dvN; omega
 have k : ChOk 600000000 p.length (frP p) (deP (frP p)) ∧ ∀ q ∈ chL p.length (frP p) (deP (frP p)), SzL 600000000 q ∧ q.length ≤ (deP (frP p)).length := by
  rcases F2 with F2 | F2
  ·exact key 121 6 (F2.mono (by omega) (by omega)) ((F2.de (by omega)).mono (by omega) (by omega)) nf (by decide)
  ·exact key 2200001 5 (F.mono (by omega) (by omega)) ((F.de (by omega)).mono (by omega) (by omega)) F2 (by decide)
 refine ⟨k.1, fun q hq => ?_⟩
 rw [chP, if_neg p0] at hq
 rcases List.mem_cons.1 hq with rfl | hq
 ·exact ⟨F.sz.mono (by omega), nf⟩
 ·exact ⟨(k.2 q hq).1, by have := (k.2 q hq).2; omega⟩
theorem chL_len : ∀ (n : Nat) (a b : List Rat), (chL n a b).length ≤ n
 | 0, _, _ => Nat.le_refl _
 | n + 1, a, b => by
  rw [chL]
  split
  ·simp
  ·rw [List.length_cons]; have := chL_len n b (scP (remP a b) (-1)); omega
theorem chP_len {p : List Rat} (np : p.length ≤ 6) : (chP p).length ≤ 7 := by
 unfold chP
 split
 ·simp
 ·rw [List.length_cons]; have := chL_len p.length (frP p) (deP (frP p)); omega
theorem hs6 {p : List Rat} (H : HL 120 120 p) (tp : Trm p) (np : p.length ≤ 6) : ∀ q ∈ chP p, SzL 600000000 q ∧ q.length * (2 * 600000000 + 1) ≤ 40000000000 := fun q hq => by
 obtain ⟨a, b⟩ := (chain6 H tp np).2 q hq
 exact ⟨a, Nat.le_trans (Nat.mul_le_mul_right _ b) (by decide)⟩
section
variable [Its] {dp : D} {p : List Rat}
theorem free6 (hp : RwR dp p) (H : HL 120 120 p) (tp : Trm p) (np : p.length ≤ 6) : ∃ d', RwR d' (frP p) ∧ Qaj G Qb8 [dp] = some (.d d') := by
 have hBB : BB = 1000000000 := rfl
 have Hd := H.de (by omega)
 have nd := QpK p
 obtain ⟨g1, _, Hg⟩ := gz7 (N := 6) (K := 268000) (H.mono (Nat.le_refl _) (show 120 ≤ 121 by omega)) Hd tp (Qep p) np (by omega) (by decide)
 obtain ⟨z, x, _⟩ := fr_two H tp np
 have gl := gcd_len7 (M := 6) np (show (deP p).length ≤ 6 by omega)
 exact QgH hp (by omega) (K := 2200001) (by omega) (by omega) (H.sz.mono (by omega)) (Hd.sz.mono (by omega)) (Qpd (by omega) _ _ _ g1) (by omega) (Hg.sz.mono (by omega)) (Qmt (by omega) _ _ x) (z.sz.mono (by omega))
theorem sChain6 (hp : RwR dp p) (H : HL 120 120 p) (tp : Trm p) (np : p.length ≤ 6) (p0 : p ≠ []) : ∃ ds, Dls ds (chP p) ∧ Qaj G QbM [dp] = some (.own 1 ds.length ds) := by
 obtain ⟨F, nf⟩ := fr_HL H tp np
 exact QhI (K := 600000000) p0 (by omega) (free6 hp H tp np) (frP_ne tp p0) (by omega) (F.sz.mono (by omega)) (chain6 H tp np).1 (by omega) (by omega)
theorem QqR (hp : RwR dp []) : Qaj G QbM [dp] = some (.d (.z true)) := by
 rw [Qac (cf := QeU) rfl]
 obtain ⟨da, ha, g1⟩ := free6 hp (HL.nil _ _) Qg4 (by simp)
 rw [Ql5] at ha
 obtain ⟨db, hb, g2⟩ := Qf5 (K := 1) ha (fun q hq => by simp at hq) (by omega) (by omega) (by simp)
 have g3 : X G (.loop Qbz) (Qm9 da db []) = some (.x 0, Qq6 []) := by rw [Qak, Qo6 ha]; rfl
 rw [Qp0, QnE] at g3
 simp only [go_sem] at g3
 clear ha hb
 simp -implicitDefEqProofs (maxSteps:=9^8) only [QeU, g1, g2, g3, Qad, go_sem, iv, bv, reduceCtorEq, ↓reduceIte, Nat.reduceEqDiff]
theorem QoC [ItsB] (hp : RwR dp p) (H : HL 120 120 p) (tp : Trm p) (np : p.length ≤ 6) {lo hi : Rat} (h1 : sz lo ≤ 1000) (h2 : sz hi ≤ 1000) : Qaj G Qbf [dp, encR lo, encR hi] = some (.d (iv (cnt (chP p) lo hi))) := by
 by_cases p0 : p = []
 ·subst p0
  rw [Qac (cf := QeZ) rfl]
  have g1 := QqR hp
  have ec : chP [] = [] := if_pos rfl
  rw [ec]
  have g2 := QfB (K := 1000) RwC.nil (by simp) (fun p hp => by simp at hp) h1 h2 (by omega)
  generalize cnt [] lo hi = c at *
  simp only [encR, iv] at g2
  simp -implicitDefEqProofs (maxSteps:=9^8) only [QeZ, encR, g1, g2, ld4q, Qad, go_sem, iv, bv, reduceCtorEq, ↓reduceIte, Nat.reduceEqDiff]
 ·exact QgY (sChain6 hp H tp np p0) (by have := chP_len np; omega) (hs6 H tp np) (Nat.le_trans h1 (by omega)) (Nat.le_trans h2 (by omega)) (by omega)
end
end Go.AM

/- Chains, shifted and scaled. -/
namespace Go.AM
open Go Go.RowKit
section
variable {p : List Rat} {f : Rat}
theorem de_sc7 (p : List Rat) (f : Rat) : deP (scP p f) = scP (deP p) f := QmB (Qep _) (QiB _ _) fun k => by
 rw [Qky, QkP, QkP, Qky, Rat.mul_assoc, Rat.mul_assoc, Rat.mul_comm f]
theorem dv_sc (p : List Rat) (f : Rat) : Dv p (scP p f) := ⟨[f], fun x => by rw [Qid, QiN, Rat.mul_comm]⟩
theorem gcd_sc (tp : Trm p) (hf : f ≠ 0) : gcdP (scP p f) (deP (scP p f)) = gcdP p (deP p) := by
 obtain ⟨⟨u, v, k1⟩, k2, k3⟩ := QhP tp (Qep p)
 refine gcd_is (QiB _ _) (Qep _) QhL (QpB tp (Qep p)) (k2.trans (dv_sc _ _)) (by rw [de_sc7]; exact k3.trans (dv_sc _ _)) (u := scP u (1 / f)) (v := scP v (1 / f)) fun x => ?_
 rw [k1, de_sc7, Qid, Qid, Qid, Qid]
 have h : 1 / f * f = 1 := Rat.div_mul_cancel hf
 generalize 1 / f = i at *
 grind
theorem fr_sc (tp : Trm p) (hf : f ≠ 0) : frP (scP p f) = frP p := by
 by_cases p0 : p = []
 ·subst p0; rfl
 obtain ⟨ng, e, nq⟩ := Qiu tp p0
 obtain ⟨_, k2, _⟩ := QhP tp (Qep p)
 unfold frP
 rw [gcd_sc tp hf]
 have tg : Trm (gcdP p (deP p)) := QhL
 generalize gcdP p (deP p) = g at *
 obtain ⟨_, e2⟩ := Qiq tg ng (k2.trans (dv_sc p f))
 have eq : ∀ x, evR (quoP (scP p f) g) x = evR (scP (quoP p g) f) x := QnM (ev_ne tg ng) fun x => by
  rw [← e2, Qid, Qid, e]
  generalize evR (quoP p g) x = a; generalize evR g x = b
  grind
 refine mn_eqv (QgM _ _) (QgM _ _) ⟨[1 / f], fun x => ?_⟩ ⟨[f], fun x => ?_⟩
 ·rw [QiN, eq, Qid]
  have h : 1 / f * f = 1 := Rat.div_mul_cancel hf
  generalize 1 / f = i at *
  generalize evR (quoP p g) x = a at *
  grind
 ·rw [QiN, eq, Qid, Rat.mul_comm]
theorem len_scE (tp : Trm p) (hf : f ≠ 0) : (scP p f).length = p.length := by
 have h1 := QnH p f
 have h2 := QnH (scP p f) (1 / f)
 have e : scP (scP p f) (1 / f) = p := QmB (QiB _ _) tp fun k => by
  rw [QkP, QkP]
  have h : 1 / f * f = 1 := Rat.div_mul_cancel hf
  generalize 1 / f = i at *
  grind
 rw [e] at h2
 omega
theorem ch_sc (tp : Trm p) (hf : f ≠ 0) : chP (scP p f) = chP p := by
 unfold chP
 have hl := len_scE tp hf
 by_cases p0 : p = []
 ·subst p0; rfl
 ·have : scP p f ≠ [] := fun h => p0 (List.eq_nil_of_length_eq_zero (by rw [h] at hl; exact hl.symm))
  rw [if_neg p0, if_neg this, fr_sc tp hf, hl]
end
section
variable {d : Rat}
theorem sh_inv {p : List Rat} (tp : Trm p) : shP (shP p d) (-d) = p := Qcv (QeD _ _) tp fun x => by
 rw [QdF, QdF]
 congr 1
 grind
theorem QkB {p : List Rat} (tp : Trm p) : (shP p d).length = p.length := by
 have h1 := QnT p d
 have h2 := QnT (shP p d) (-d)
 rw [sh_inv tp] at h2
 omega
theorem Qin : shP [] d = [] := List.eq_nil_of_length_eq_zero (by have := QnT [] d; simpa using this)
theorem QdY {p : List Rat} (tp : Trm p) : shP p d = [] ↔ p = [] := by
 constructor
 ·intro h
  have := QkB (d := d) tp
  rw [h] at this
  exact List.eq_nil_of_length_eq_zero this.symm
 ·rintro rfl; exact Qin
theorem de_sh (p : List Rat) : deP (shP p d) = shP (deP p) d := Qcv (Qep _) (QeD _ _) fun x => by rw [ev_de, der_sh, QdF, ev_de]
theorem Dv.sh {a b : List Rat} (h : Dv a b) : Dv (shP a d) (shP b d) := by
 obtain ⟨s, hs⟩ := h
 exact ⟨shP s d, fun x => by rw [QdF, QdF, QdF, hs]⟩
theorem sh_lc : ∀ (n : Nat) (p : List Rat), p.length = n + 1 → Trm p → (shP p d).getD n 0 = p.getD n 0
 | 0, p, hp, tp => by
  obtain ⟨c, rfl⟩ : ∃ c, p = [c] := List.length_eq_one_iff.1 hp
  have : shP [c] d = [c] := Qcv (QeD _ _) tp fun x => by rw [QdF, QiN, QiN]
  rw [this]
 | n + 1, p, hp, tp => by
  have h1 := de_lenE tp
  have ih := sh_lc n (deP p) (by omega) (Qep p)
  rw [← de_sh, Qky, Qky] at ih
  have hne : (((n + 1 : Nat) : Int) : Rat) ≠ 0 := by
   intro h
   have : ((n + 1 : Nat) : Int) = 0 := by exact_mod_cast h
   omega
  generalize (((n + 1 : Nat) : Int) : Rat) = k at *
  have : ((shP p d).getD (n + 1) 0 - p.getD (n + 1) 0) * k = 0 := by grind
  rcases Rat.mul_eq_zero.1 this with h | h
  ·grind
  ·exact absurd h hne
theorem mo_sh {g : List Rat} (tg : Trm g) (h : Mo g) : Mo (shP g d) := by
 rcases h with rfl | h
 ·exact .inl Qin
 ·by_cases g0 : g = []
  ·subst g0; exact .inl Qin
  ·have hl := List.length_pos_iff.2 g0
   right
   rw [QkB tg, sh_lc (g.length - 1) g (by omega) tg, h]
theorem gcd_sh {a b : List Rat} (ta : Trm a) (tb : Trm b) : gcdP (shP a d) (shP b d) = shP (gcdP a b) d := by
 obtain ⟨⟨u, v, k1⟩, k2, k3⟩ := QhP ta tb
 exact gcd_is (QeD _ _) (QeD _ _) (QeD _ _) (mo_sh QhL (QpB ta tb)) k2.sh k3.sh (u := shP u d) (v := shP v d) fun x => by rw [QdF, QdF, QdF, QdF, QdF, k1]
theorem mn_sh {l : List Rat} (tl : Trm l) : mnP (shP l d) = shP (mnP l) d := by
 by_cases l0 : l = []
 ·subst l0; rw [Qin]; exact (by rw [show mnP [] = [] from if_pos rfl, Qin])
 ·have hl := List.length_pos_iff.2 l0
  have h1 : shP l d ≠ [] := fun h => l0 ((QdY tl).1 h)
  unfold mnP
  rw [if_neg l0, if_neg h1, QkB tl, sh_lc (l.length - 1) l (by omega) tl]
  exact Qcv (QiB _ _) (QeD _ _) fun x => by rw [Qid, QdF, QdF, Qid]
theorem fr_sh {p : List Rat} (tp : Trm p) : frP (shP p d) = shP (frP p) d := by
 by_cases p0 : p = []
 ·subst p0
  have e : frP [] = [] := by
   unfold frP
   have : quoP [] (gcdP [] (deP [])) = [] := if_pos (show gcdP [] (deP []) = [] from gcd_nil)
   rw [this]
   exact if_pos rfl
  rw [Qin, e, Qin]
 obtain ⟨ng, e, nq⟩ := Qiu tp p0
 obtain ⟨_, k2, _⟩ := QhP tp (Qep p)
 unfold frP
 rw [de_sh, gcd_sh tp (Qep p)]
 have tg : Trm (gcdP p (deP p)) := QhL
 generalize gcdP p (deP p) = g at *
 have ng' : shP g d ≠ [] := fun h => ng ((QdY tg).1 h)
 obtain ⟨_, e2⟩ := Qiq (QeD g d) ng' (k2.sh (d := d))
 have eq : quoP (shP p d) (shP g d) = shP (quoP p g) d := Qcv (QgM _ _) (QeD _ _) (QnM (ev_ne (QeD g d) ng') fun x => by
  rw [← e2, QdF, QdF, QdF, e])
 rw [eq, mn_sh (QgM _ _)]
theorem rem_sh {a b : List Rat} (tb : Trm b) : remP (shP a d) (shP b d) = shP (remP a b) d := by
 by_cases b0 : b = []
 ·subst b0
  rw [Qin]
  rw [show remP (shP a d) [] = [] from if_pos rfl, show remP a [] = [] from if_pos rfl, Qin]
 have b0' : shP b d ≠ [] := fun h => b0 ((QdY tb).1 h)
 obtain ⟨h1, h2, h3, h4⟩ := Qjf (p := a) tb b0
 obtain ⟨k1, k2, k3, k4⟩ := Qjf (p := shP a d) (QeD b d) b0'
 have hl := QkB (d := d) tb
 have hl2 := QnT (remP a b) d
 exact (Qqo (QeD b d) b0' k3 (QeD (quoP a b) d) k4 (QeD _ _) k2 (by omega) (fun x => by rw [← k1, QdF, QdF, QdF, QdF, h1])).2
theorem sc_sh (r : List Rat) (c : Rat) : scP (shP r d) c = shP (scP r c) d := Qcv (QiB _ _) (QeD _ _) fun x => by rw [Qid, QdF, QdF, Qid]
theorem chL_sh : ∀ (n : Nat) (a b : List Rat), Trm b → chL n (shP a d) (shP b d) = (chL n a b).map fun q => shP q d
 | 0, _, _, _ => rfl
 | n + 1, a, b, tb => by
  rw [chL, chL]
  by_cases b0 : b = []
  ·rw [if_pos b0, if_pos ((QdY tb).2 b0)]; rfl
  ·rw [if_neg b0, if_neg (fun h => b0 ((QdY tb).1 h)), rem_sh tb, sc_sh, chL_sh n b _ (QiB _ _)]
   rfl
theorem ch_sh {p : List Rat} (tp : Trm p) : chP (shP p d) = (chP p).map fun q => shP q d := by
 unfold chP
 by_cases p0 : p = []
 ·rw [if_pos p0, if_pos ((QdY tp).2 p0)]; rfl
 ·rw [if_neg p0, if_neg (fun h => p0 ((QdY tp).1 h)), fr_sh tp, de_sh, QkB tp, chL_sh _ _ _ (Qep _)]
  rfl
theorem chg_sh (ps : List (List Rat)) (x : Rat) : chg (ps.map fun q => shP q d) (x - d) = chg ps x := by
 unfold chg sgs
 rw [List.map_map]
 have : ((fun p => sgn1 p (x - d)) ∘ fun q => shP q d) = fun p => sgn1 p x := by
  funext q
  show sgn1 (shP q d) (x - d) = sgn1 q x
  unfold sgn1
  rw [QdF]
  have e : x - d + d = x := by grind
  rw [e]
 rw [this]
theorem cnt_sh (ps : List (List Rat)) (lo hi : Rat) : cnt (ps.map fun q => shP q d) (lo - d) (hi - d) = cnt ps lo hi := by
 unfold cnt
 rw [chg_sh, chg_sh]
 by_cases h : hi ≤ lo
 ·rw [if_pos h, if_pos (by grind)]
 ·rw [if_neg h, if_neg (by grind)]
end
end Go.AM

/- The seat's iterators, as instances. -/
namespace Go.AM
open Go Go.RowKit Go.Proofs
noncomputable instance (priority := 2000) iZ : Its := itsZ
instance iZB : ItsB := itsBZ
instance iZZ : ItsZ := ⟨fun a b c d => itsZ_at a b c d⟩
theorem envQ : EnvOk Tryz.prog G := envZ
end Go.AM

namespace Go.Proofs.YtbbemgfheagobaaGreat.Pure
open Go Go.AM
theorem SturmMoved (e0 : D) (l0 : List Int) (hd0 : Dg e0 l0) (hwf0 : ∀ n ∈ l0, (Lit.int .i64 n).wf = true) (hlen0 : l0.length * 8 ≤ 140737488351232) (a1 : Int) (w1 : (Lit.int .i64 a1).wf = true) (a2 : Int) (w2 : (Lit.int .i64 a2).wf = true) (a3 : Int) (w3 : (Lit.int .i64 a3).wf = true) (a4 : Int) (w4 : (Lit.int .i64 a4).wf = true) : Qaj G 8 [e0, iv a1, iv a2, iv a3, iv a4] = some (.d (bv true)) := by
 obtain ⟨dp, p, hp, tp, Hp, np, gp⟩ := Poly_spec (rw_dg hd0) (fun n hn => QmT (hwf0 n hn))
 have g1 := Qdf (QmT w1)
 have g2 := Qdf (QmT w2)
 have g3 := Qdf (QmT w3)
 have g4 := Qdf (QmT w4)
 have z1 := Qnv a1
 have z2 := Qnv a2
 have z3 := Qnv a3
 have z4 := Qnv a4
 have H1' := QoZ a1
 have H2' := QoZ a2
 generalize smR a1 = d at *
 generalize smR a2 = f at *
 generalize smR a3 = lo at *
 generalize smR a4 = hi at *
 have c0 := QoC hp (Hp.mono (by omega) (by omega)) tp np (lo := lo) (hi := hi) (by omega) (by omega)
 obtain ⟨S1, S2⟩ := shift_sz (n := 6) Hp H1' np
 obtain ⟨ds, hs, gs⟩ := QnV (a := d) hp (by omega) (K := 10000) (by omega) (by omega) (fun i j hi hj => (S1 i j hi hj).mono (by omega))
 have ls := QnT p d
 have b1 := QjE (a := lo) (b := d) (by omega) (by omega)
 have b2 := QjE (a := hi) (b := d) (by omega) (by omega)
 have y1 := sz_sub (a := lo) (b := d)
 have y2 := sz_sub (a := hi) (b := d)
 have c1 := QoC hs (S2.mono (by omega) (by omega)) (QeD _ _) (by omega) (lo := lo - d) (hi := hi - d) (by omega) (by omega)
 rw [ch_sh tp, cnt_sh] at c1
 have sg := Qgf (a := f) (by omega)
 have t := sign_eq0 (x := f)
 obtain ⟨dc, hc, gc⟩ := Qg1 (a := f) (K := 100) hp (Hp.sz.mono (by omega)) (by omega) (by omega) (by omega) (by omega)
 have Hc := Hp.sc H2'
 have lc := QnH p f
 have c2 := QoC hc (Hc.mono (by omega) (by omega)) (QiB _ _) (by omega) (lo := lo) (hi := hi) (by omega) (by omega)
 have c2' : f ≠ 0 → cnt (chP (scP p f)) lo hi = cnt (chP p) lo hi := fun h => by rw [ch_sc tp h]
 have lv := lives7
 generalize cnt (chP (scP p f)) lo hi = n2 at *
 generalize cnt (chP p) lo hi = n at *
 have e1 : (n != n) = false := bne_f rfl
 rw [Qac (cf := QbY) rfl]
 clear S1 S2 Hc Hp H1' H2' hp hs hc tp ls lc y1 y2
 generalize Int.sign f.num = s at *
 by_cases hf : f = 0
 ·rw [decide_eq_true hf] at t
  clear c2' hf
  generalize lo - d = lod at *
  generalize hi - d = hid at *
  simp only [encR, iv, bv] at g1 g2 g3 g4 c0 gs b1 b2 c1 sg gc c2 lv
  simp -implicitDefEqProofs (maxSteps:=9^8) only [QbY, gp, g1, g2, g3, g4, c0, gs, b1, b2, c1, sg, t, gc, c2, lv, e1, st4q, ld4q, Qad, go_sem, iv, bv, reduceCtorEq, ↓reduceIte, Nat.reduceEqDiff]
 ·rw [decide_eq_false hf] at t
  have c2' := c2' hf
  subst c2'
  have e2 : (n2 == n2) = true := beq_self_eq_true n2
  generalize lo - d = lod at *
  generalize hi - d = hid at *
  simp only [encR, iv, bv] at g1 g2 g3 g4 c0 gs b1 b2 c1 sg gc c2 lv
  simp -implicitDefEqProofs (maxSteps:=9^8) only [QbY, gp, g1, g2, g3, g4, c0, gs, b1, b2, c1, sg, t, gc, c2, lv, e1, e2, st4q, ld4q, Qad, go_sem, iv, bv, reduceCtorEq, ↓reduceIte, Nat.reduceEqDiff]
end Go.Proofs.YtbbemgfheagobaaGreat.Pure

/- The row of SturmMoved, out of its Pure. Printed by row.py. -/
namespace Go.Proofs.YtbbemgfheagobaaGreat.sturmMoved
open Go.ChangeShapes Go.WideShapes Go.ChangeAt Go.RowKit Go.AM
theorem own : ownKnob Tryz.prog.godebug = none := by kernel_rfl
theorem laidOut : laidOutB Tryz.prog = true := by kernel_rfl
set_option maxRecDepth 100000 in
theorem lifted (os : Os) (started : os.Started) (H : Type) (enc : TypeId × Value → H) :
    ReturnsInHanded {} Tryz.checked os 8 .any (Rows.sturmMovedSpec.pre6 enc Tryz.prog Tryz.f8 Rows.sturmMovedRow.domain false) (Rows.sturmMovedSpec.post enc Tryz.prog Tryz.f8 false true false false) := by
  refine returnsInHanded_of_change_sized (C := Tryz.checked) own started (by kernel_rfl) Tryz.func8
    (ChangeSpec.witness6 (enc := enc) (C := Tryz.checked) false ⟨#[], #[.slice none 0 0, .int .i64 0, .int .i64 0, .int .i64 0, .int .i64 0], []⟩ 8 (by kernel_rfl) (by kernel_rfl) (by kernel_rfl) (by kernel_rfl)) ?_
  intro W base args ds gs before hval0 hW hcnd hsz0 _
  have hsz : (DataW.weightsEach Tryz.prog (Tryz.f8.params.toList ++ Rows.sturmMovedSpec.plain.varTypes Tryz.prog) (ds ++ gs)).all (· ≤ reachBytes) = true := hsz0
  have hval : ∀ (j : Nat) t v, Tryz.f8.params[j]? = some t → args[j]? = some v → Value.okWide Tryz.prog W .any base t v := hval0
  have hW' := hW
  obtain ⟨p, q, hA0, hV, rfl, hfz, hnd⟩ := hW
  have hA : DataW.TrodAll enc Tryz.prog W 0 (fun _ => true) true Tryz.f8.params.toList args.toList ds p := hA0
  rw [Tryz.params8] at hA hval hsz
  obtain ⟨v0, vs0, d0, ds0, p0, q0, hargs, rfl, rfl, h0, r0⟩ := trodAll_cons hA
  obtain ⟨v1, vs1, d1, ds1, p1, q1, rfl, rfl, rfl, h1, r1⟩ := trodAll_cons r0
  obtain ⟨v2, vs2, d2, ds2, p2, q2, rfl, rfl, rfl, h2, r2⟩ := trodAll_cons r1
  obtain ⟨v3, vs3, d3, ds3, p3, q3, rfl, rfl, rfl, h3, r3⟩ := trodAll_cons r2
  obtain ⟨v4, vs4, d4, ds4, p4, q4, rfl, rfl, rfl, h4, r4⟩ := trodAll_cons r3
  obtain ⟨rfl, rfl, rfl⟩ := trodAll_nil r4
  obtain rfl : args = #[v0, v1, v2, v3, v4] := by cases args; simp_all
  obtain ⟨rfl, rfl⟩ := trodVars_none hV
  obtain ⟨a0, len0, cap0, rfl⟩ := okWide_slice Tryz.underlying22 (hval 0 22 v0 rfl rfl)
  have k0 := h0
  have lt0 : ∀ x ∈ p0, x.block < W.heap.size := by obtain ⟨m, hm⟩ := k0; exact DataW.trod_lt m _ _ _ hm
  obtain ⟨z0, w0, y0⟩ : ∃ zs, ((a0 = none ∧ len0 = 0 ∧ cap0 = 0 ∧ zs = []) ∨ ∃ x, a0 = some x ∧ len0 ≤ cap0 ∧ cap0 ≤ maxLen ∧ zs.length = cap0 ∧ (∀ i, i < zs.length → W.cell? (x.add i) = some (.int .i64 (zs.getD i 0))) ∧ ∀ n ∈ zs, (Lit.int .i64 n).wf = true) ∧ len0 * 8 ≤ 140737488351232 := by
    obtain ⟨fuel, hf⟩ := h0
    rcases open_ints Tryz.underlying22 Tryz.underlying3 (by kernel_rfl) hf with ⟨hcs, _⟩ | ⟨x, l, c, zs, hcs, _, hl, hm, hz, hx, hcell, hwz⟩
    · simp [Value.cells] at hcs
      obtain ⟨rfl, rfl, rfl⟩ := hcs
      exact ⟨[], .inl ⟨rfl, rfl, rfl, rfl⟩, by simp⟩
    · simp [Value.cells] at hcs
      obtain ⟨rfl, rfl, rfl⟩ := hcs
      refine ⟨zs, .inr ⟨_, rfl, hl, hm, by simpa using hz, hcell, hwz⟩, ?_⟩
      simp only [Prod.mk.injEq] at hx
      have hd := hx.1
      have z := sized_slice hsz (j := 0) (t := 22) rfl (by rw [hd]; rfl) Tryz.underlying22
      have hb : Tryz.prog.bytesOf 3 = 8 := by kernel_rfl
      rw [hb] at z
      have hr : reachBytes ≤ 140737488351232 := by decide
      have hz' : zs.length = cap0 := by simpa using hz
      simp only [lits, List.length_map, List.length_take, List.length_drop] at z
      omega
  obtain ⟨e0, l0, hd0, hrep0, hlen0, hwf0⟩ := arg_row w0
  obtain ⟨a1, rfl, rfl, rfl, w1⟩ := open_int Tryz.underlying3 (hval 1 3 v1 rfl rfl) h1
  obtain ⟨a2, rfl, rfl, rfl, w2⟩ := open_int Tryz.underlying3 (hval 2 3 v2 rfl rfl) h2
  obtain ⟨a3, rfl, rfl, rfl, w3⟩ := open_int Tryz.underlying3 (hval 3 3 v3 rfl rfl) h3
  obtain ⟨a4, rfl, rfl, rfl, w4⟩ := open_int Tryz.underlying3 (hval 4 3 v4 rfl rfl) h4
  clear hA0 hval0 hsz0 hsz
  refine (law_walk envQ (f := 8) (ds := [e0, (iv a1), (iv a2), (iv a3), (iv a4)]) (vs := [.slice a0 len0 cap0, .int .i64 a1, .int .i64 a2, .int .i64 a3, .int .i64 a4]) (w := W) (QnW rfl W) (RepL.cons _ _ _ _ hrep0 (RepL.cons _ _ _ _ (RepD.v _) (RepL.cons _ _ _ _ (RepD.v _) (RepL.cons _ _ _ _ (RepD.v _) (RepL.cons _ _ _ _ (RepD.v _) RepL.nil))))) (Pure.SturmMoved e0 l0 hd0 hwf0 (by rw [hlen0]; exact y0) a1 w1 a2 w2 a3 w3 a4 w4)).mono fun e W' ⟨he, bel⟩ => ?_
  subst he
  exact ⟨_, rfl, _, _, _, [], _, [], hW', trodAll_mk1 (shut_bool Tryz.underlying4 _), (trodAll_cons_mk (Below.trod laidOut (by kernel_rfl) (of_decide_eq_true (by kernel_rfl)) k0 bel lt0) (trodAll_cons_mk (shut_int Tryz.underlying3 w1) (trodAll_cons_mk (shut_int Tryz.underlying3 w2) (trodAll_cons_mk (shut_int Tryz.underlying3 w3) (trodAll_cons_mk (shut_int Tryz.underlying3 w4) trodAll_mk0))))), rfl, bel.frame _, fun h => by cases h⟩
theorem over : Rows.sturmMovedRow.holds Tryz.pinned (OpenSpec.ofChange Rows.sturmMovedSpec) :=
 OpenClaim.holds_of_wide 8 Tryz.f8 rfl rfl rfl rfl rfl rfl rfl ⟨rfl, rfl, rfl, rfl, rfl⟩ rfl rfl rfl rfl rfl (by kernel_rfl) Tryz.func8 (by kernel_rfl)
  (of_decide_eq_true (by kernel_rfl)) (by unfold Func.isWrapper; first | (rw [if_pos (by decide +kernel)]; kernel_rfl) | (rw [if_neg (by decide +kernel)]; exact ⟨rfl, rfl⟩))
  (fun os started H enc _ => lifted os started H enc)
theorem proved : Rows.SturmMovedSaid := over
end Go.Proofs.YtbbemgfheagobaaGreat.sturmMoved
namespace Go.Proofs.YtbbemgfheagobaaGreat
theorem sturmMoved_holds : Rows.SturmMovedSaid := sturmMoved.proved
end Go.Proofs.YtbbemgfheagobaaGreat


