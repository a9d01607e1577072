/- Part 3 of the proof: a small machine, its soundness against the model, and what the program's functions compute on it. -/
import Derived.Test.YthhdbchmjfdgmaaGreatM2
import Derived.RangeFuncLeaves
import Derived.Test.YthhdbchmjfdgmaaGreatM0
set_option linter.unusedVariables false
set_option linter.unusedSimpArgs false
/- Part 18: functions. -/
namespace Go.AM
open Go Go.RowKit

def resS (tmps:Array Value):ResultVar→Sem Value
 | .tmp t=>pure (tmps.getD t undef)
 | .cell q t=>do loadVar t (← asAddr (tmps.getD q undef))
theorem Qr5        (fn:Func) (tmps:Array Value):results fn tmps=(do
    let vs ← fn.results.mapM (resS tmps)
    pure (if h:vs.size=1 then vs[0] else .tuple vs)):=rfl

section
variable {S0:Nat→Prop} {N:Nat} {w0:Wd} {m:Key→Nat} {st:St} {a:Act} {w:World} {P:Program}

theorem QjZ        (hR:Rel S0 N w0 m st a w):∀ {l:List ResultVar} {rs:List RV} {as:List A},mapO (QrV   P) l=some rs→resL st rs=some as →
    ∃ vs:List Value,(l.mapM (resS a.tmps)).run P w=.ok vs w∧RepAL m st.hp (Im S0 m st.hp w) w as vs∧Qe9 (QdW st.hp) (QdT st.hp) as
  | [],rs,as,h,hr=>by
    simp only [mapO,Option.some.injEq] at h
    subst h
    simp only [resL,Option.some.injEq] at hr
    subst hr
    exact ⟨[],rfl,.nil,trivial⟩
  | x :: l,rs,as,h,hr=>by
    simp only [mapO,Option.bind_eq_some_iff,Option.map_eq_some_iff] at h
    obtain ⟨r,hx,rs',hrs,rfl⟩:=h
    simp only [resL,Option.bind_eq_some_iff,Option.map_eq_some_iff] at hr
    obtain ⟨y,hy,as',has,rfl⟩:=hr
    obtain ⟨vs,h1,h2,h3⟩:=QjZ hR hrs has
    cases x with
    | tmp t =>
      simp only [QrV,Option.some.injEq] at hx
      subst hx
      simp only [resV] at hy
      refine ⟨a.tmps.getD t undef :: vs, ?_,.cons _ _ _ _ (hR.fr t y hy) h2,hR.clf t y hy,h3⟩
      simp only [List.mapM_cons,resS,Sem.run_bind,Sem.run_pure,Result.andThen_ok,h1]
    | cell q t =>
      simp only [QrV,Option.map_eq_some_iff] at hx
      obtain ⟨sz,hsz,rfl⟩:=hx
      simp only [resV,Option.bind_eq_some_iff] at hy
      obtain ⟨z,hz,hy⟩:=hy
      have hld:Qco st.hp sz z=some y:=by
        cases z with
        | ptr k o=>exact hy
        | d x=>cases x<;>first | exact hy | cases hy
        | _=>cases hy
      obtain ⟨u,g1,g2,g3⟩:=Qmb (P:=P) hR hsz (hR.fr q z hz) hld
      have hptr:∃ ad,a.tmps.getD q undef=.pointer (some ad):=by
        have hrep:=hR.fr q z hz
        cases z with
        | ptr k o=>cases hrep with | ptr _ _ _ hs _=>exact hs
        | d x =>
          cases x with
          | rp cs =>
            have:=QhI hrep
            generalize a.tmps.getD q undef=v at this
            cases this with
            | rp _ ad _ _ _ _=>exact ⟨ad,rfl⟩
          | _=>cases hy
        | _=>cases hy
      obtain ⟨ad,had⟩:=hptr
      rw [had] at g1
      have hl:(loadVar t ad).run P w=.ok u w:=by
        simpa [Instr.loadAt,Instr.sureAddr] using g1
      refine ⟨u :: vs, ?_,.cons _ _ _ _ g2 h2,g3,h3⟩
      have hasA:(asAddr (.pointer (some ad))).run P w=.ok ad w:=rfl
      simp only [List.mapM_cons,resS,Sem.run_bind,Sem.run_pure,Result.andThen_ok,had,hasA,hl,h1]

def oneOr:List Value→Value
 | [v]=>v
 | vs=>.tuple vs.toArray

theorem QiE         {fn:Func} {tmps:Array Value} {vs:List Value} (h:(fn.results.toList.mapM (resS tmps)).run P w=.ok vs w) :
    (results fn tmps).run P w=.ok (oneOr vs) w:=by
  rw [Qr5,← Array.toArray_toList (xs:=fn.results),List.mapM_toArray]
  simp only [Sem.run_map,Sem.run_bind,h,Result.andThen_ok,Sem.run_pure]
  match vs with
  | []=>rfl
  | [v]=>rfl
  | v :: u :: r=>rfl

theorem own_end (hR:Rel S0 N w0 m st a w) {q:Key} {n:Nat} {o:Obj} {v:Value} {cs:List D} (hk:st.hp q=some o) (hn:o.n=n) (hcs:allD o.cs=some cs) (hy:RepA m st.hp (Im S0 m st.hp w) w (.own q n) v) :
    ∃ (cap:Nat) (cells:Array Value) (T:TypeId) (fz:Nat×Nat) (us:List Value),v=.slice (some ⟨m q,0,none⟩) n cap∧n≤cap∧w.heap[m q]?=some (Go.Obj.cells cells T fz)∧cap*o.es≤cells.size∧(∀ i,i<cells.size→¬ (fz.1≤i∧i<fz.2)) ∧
      RepL (Im S0 m st.hp w) w cs us∧(∀ (i:Nat) (v:Value),us[i]?=some v→cells[i]?=some v)∧cs.length≤cells.size:=by
  cases hy with
  | own _ _ _ _ hq =>
    obtain ⟨cap,cells,T,fz,rfl,hc,hat,hsz⟩:=hq o hk hn
    obtain ⟨cells',T',fz',ho⟩:=hR.obj q o hk
    rw [ho.at_] at hat
    cases hat
    have hmap:=Qe1 hcs
    obtain ⟨us,g1,g2⟩:=Qee ho 0 cs 0 (fun j d hj=>by rw [hmap];simp [hj])
    exact ⟨cap,cells,T,fz,us,rfl,hc,ho.at_,hsz,ho.free,g1,fun i v hv=>by simpa using g2 i v hv,by have:=ho.size;rw [hmap] at this;simpa using this⟩

theorem QqE      (hR:Rel S0 N w0 m st a w):∀ {as:List A} {vs:List Value} {ds:List D},RepAL m st.hp (Im S0 m st.hp w) w as vs→toDs st as=some ds →
    RepL (fun c=>S0 c∧c<w.heap.size) w ds vs
  | [],vs,ds,h,hd=>by
    cases h
    simp only [toDs,Option.some.injEq] at hd
    subst hd;exact .nil
  | x :: as,vs,ds,h,hd=>by
    cases h with
    | cons _ _ v vs hx ht =>
      simp only [toDs,Option.bind_eq_some_iff,Option.map_eq_some_iff] at hd
      obtain ⟨d,h1,ds',h2,rfl⟩:=hd
      have hsub:∀ c,Im S0 m st.hp w c→S0 c∧c<w.heap.size:=fun c hc=>⟨hc.1,hc.2.1⟩
      refine .cons _ _ _ _ ?_ (QqE hR ht h2)
      cases x with
      | d y =>
        simp only [toD,Option.some.injEq] at h1
        subst h1
        exact (QhI hx).mono hsub (fun _ _=>rfl)
      | own q n =>
        simp only [toD,Option.bind_eq_some_iff] at h1
        obtain ⟨o,hk,h1⟩:=h1
        obtain ⟨hn,h1⟩:=Qaf h1
        simp only [Option.map_eq_some_iff] at h1
        obtain ⟨cs,hcs,rfl⟩:=h1
        obtain ⟨cap,cells,T,fz,us,rfl,hc,hat,hsz,hfr,g1,g2,_⟩:=own_end hR hk hn hcs hx
        exact .row _ _ _ _ us hc ⟨hR.ge q o hk,hR.lt hk⟩ (g1.mono hsub (fun _ _=>rfl)) (fun j u hj=>by rw [Qch hat];simpa using g2 j u hj)
      | ptr k o=>simp [toD] at h1
      | ep k n o=>simp [toD] at h1
      | tup xs=>simp [toD] at h1
      | fn f xs=>simp [toD] at h1

theorem end_sound (hR:Rel S0 N w0 m st a w) {fn:Func} {rs:List RV} (hrs:mapO (QrV   P) fn.results.toList=some rs) {r:R} (he:Qmx    st rs=some r) {S:Nat→Prop} (hb:S0=fun b=>S b∨w0.w.heap.size≤b) (hlk:∀ b,¬ w0.lk b) :
    ∃ v,(results fn a.tmps).run P w=.ok v w∧Qsi S w0.w w r v:=by
  unfold Qmx at he
  simp only [Option.bind_eq_some_iff] at he
  obtain ⟨as,has,he⟩:=he
  obtain ⟨vs,h1,h2,h3⟩:=QjZ hR hrs has
  have hrun:=QiE h1
  have hsub:∀ c,Im S0 m st.hp w c→Ext S w0.w w c:=fun c hc=>⟨by have:=hc.1;rw [hb] at this;exact this,hc.2.1⟩
  have hext:∀ c,(S0 c∧c<w.heap.size)→Ext S w0.w w c:=fun c hc=>⟨by have:=hc.1;rw [hb] at this;exact this,hc.2⟩
  split at he
  · rename_i q n
    cases h2 with
    | cons _ _ v us hx ht =>
      cases ht
      simp only [Option.bind_eq_some_iff] at he
      obtain ⟨o,hk,he⟩:=he
      obtain ⟨hn,he⟩:=Qaf he
      simp only [Option.map_eq_some_iff] at he
      obtain ⟨cs,hcs,rfl⟩:=he
      refine ⟨v,hrun, ?_⟩
      cases hf:o.fz with
      | true =>
        simp only [if_true]
        exact (QmN hR hk hn hf hcs hx).mono hsub (fun _ _=>rfl)
      | false =>
        simp only [Bool.false_eq_true,if_false]
        obtain ⟨cap,cells,T,fz,us,rfl,hc,hat,hsz,hfr,g1,g2,g3⟩:=own_end hR hk hn hcs hx
        obtain ⟨o2,ho2,hes,_⟩:=h3.1
        rw [hk] at ho2
        cases ho2
        refine ⟨hes,m q,cap,cells,T,fz,us, ?_,rfl,hc,hat,hsz,hfr,g1.mono (fun c hc=>⟨hsub c hc, ?_⟩) (fun _ _=>rfl),g2,g3⟩
        · exact (hR.lv q o hk hf).resolve_left (hlk _)
        · rintro rfl
          exact hc.2.2 ⟨q,o,hk,hf,rfl⟩
  · rename_i x
    cases h2 with
    | cons _ _ v us hx ht =>
      cases ht
      simp only [Option.some.injEq] at he
      subst he
      exact ⟨v,hrun,(QhI hx).mono hsub (fun _ _=>rfl)⟩
  · rename_i hn1 hn2
    simp only [Option.map_eq_some_iff] at he
    obtain ⟨ds,hds,rfl⟩:=he
    have htr:=(QqE hR h2 hds).mono hext (fun _ _=>rfl)
    match vs,h2,hrun,htr with
    | [],h2,hrun,htr=>exact ⟨_,hrun,RepD.tup _ _ htr⟩
    | v :: u :: r,h2,hrun,htr=>exact ⟨_,hrun,RepD.tup _ _ htr⟩
    | [v],h2,hrun,htr =>
      exfalso
      cases h2 with
      | cons x xs _ _ hx ht =>
        cases ht
        cases x with
        | d y=>exact hn2 y rfl
        | own q n=>exact hn1 q n rfl
        | _=>simp [toDs,toD] at hds
end

theorem Qg0           {S0:Nat→Prop} {N:Nat} {w0:Wd} {m:Key→Nat} {st:St} {P:Program} {fn:Func} {tmps:Array Value} {R:Ending→World→Prop} (hdn:∀ b:Nat,w0.dn b→w0.w.heap.size≤b)
    (hend:∀ a w,a.tmps=tmps→Rel S0 N w0 m st a w→∃ v,(results fn tmps).run P w=.ok v w∧R (.returned v) w):∀ (df:List Deferred) (a:Act) (w:World),a.defers=df→a.tmps=tmps→Rel S0 N w0 m st a w→LeavesInM Fence.wide 0 P fn tmps R df .returning w
  | [],a,w,_,ht,hR=>hend a w ht hR
  | d :: df,a,w,hd,ht,hR=>by
    obtain ⟨Ds,g1,hnd,g2⟩:=hR.df
    rw [hd] at g1
    cases Ds with
    | nil=>cases g1
    | cons D Ds =>
      simp only [List.map_cons,List.cons.injEq] at g1
      obtain ⟨rfl,rfl⟩:=g1
      obtain ⟨hn1,hn2⟩:=List.nodup_cons.1 hnd
      obtain ⟨k1,k2,k3⟩:=g2 D (List.mem_cons_self ..)
      refine ⟨by simp,.inl ⟨D,w.putObj D (.deferred none),rfl,run_takeDeferred k3, ?_⟩⟩
      refine Qg0 hdn hend _ { a with defers:=Ds.map (fun b=>{ target:=.collected b,args:=#[] }) } _ rfl ht ?_
      refine hR.move rfl (by simp) (fun _ _ h=>h) (fun b cs T fz _ hh=>?_) (fun b hb=>hR.un b (by simpa using hb)) (Qm8 hR.bel (.inr (hdn _ k2))) hR.lv ⟨Ds,rfl,hn2,fun b hb=>?_⟩ hR.mb
      · rw [World.putObj_heap_other]
        · exact hh
        · rintro rfl;rw [k3] at hh;cases hh
      · obtain ⟨j1,j2,j3⟩:=g2 b (List.mem_cons_of_mem _ hb)
        refine ⟨j1,j2, ?_⟩
        rw [World.putObj_heap_other]
        · exact j3
        · rintro rfl;exact hn1 hb

section
variable {N n:Nat} {P:Program}
theorem QlG     {S0:Nat→Prop} {wd:Wd} {F:Fence} {cl:Cl} {Q:Exit→Act→World→Prop} (hcl:∀ f ds r,cl f ds=some r→Qgy     wd P f ds r) (hF:FOk F) {ops:Array Oper} {os:List O} (hO:Ops P N ops os) {fin:St} {rest:List Nat}:∀ (l:List Nat) {m:Key→Nat} {st:St} {a:Act} {w:World},
    Rel S0 N wd m st a w→exsI cl os l st=some fin→(∀ m' a' w',Rel S0 N wd m' fin a' w'→wpOpsIn F n P ops Q rest a' w')→wpOpsIn F n P ops Q (l++rest) a w
  | [],m,st,a,w,hR,h,hK=>by
    simp only [exsI,Option.some.injEq] at h
    subst h
    exact hK m a w hR
  | i :: l,m,st,a,w,hR,h,hK=>by
    simp only [exsI,Option.bind_eq_some_iff] at h
    obtain ⟨o,ho,s,h1,h2⟩:=h
    rw [List.cons_append,wpOpsIn_cons]
    exact QhV hcl hF hO hR ho h1 fun m' a' w' hR'=>QlG hcl hF hO l hR' h2 hK

theorem QiP {P:Program} {op:Op} {x:E} {es:List E} (h:QbY P op=some (.calv x es)):∃ c u,op=.call c∧c.callee=.value u∧QaH u=some x∧mapO QaH c.args.toList=some es:=by
  cases op
  case call c =>
    refine ⟨c, ?_⟩
    simp only [QbY] at h
    generalize hc:c.callee=ce at h
    cases ce with
    | value u =>
      have h':((QaH u).bind fun x=>(mapO QaH c.args.toList).map fun xs=>I.calv x xs)=some (.calv x es)∨∃ f q,(.call f q false:I)=.calv x es:=by
        cases u with
        | func f =>
          simp only [Option.bind_eq_some_iff,Option.map_eq_some_iff] at h
          obtain ⟨_,_,q,_,h⟩:=h
          exact .inr ⟨f,q,h⟩
        | _=>exact .inl h
      rcases h' with h' | ⟨_,_,h'⟩
      · simp only [Option.bind_eq_some_iff,Option.map_eq_some_iff,I.calv.injEq] at h'
        obtain ⟨x',hx,q,hq,rfl,rfl⟩:=h'
        exact ⟨u,rfl,rfl,hx,hq⟩
      · cases h'
    | builtin b =>
      exfalso
      cases b<;>simp only [Option.map_eq_some_iff,reduceCtorEq,and_false,exists_false] at h
      all_goals ((split at h)<;>try (cases h;done))
      all_goals ((try split at h)<;>simp only [Option.bind_eq_some_iff,Option.map_eq_some_iff,reduceCtorEq,and_false,exists_false] at h)
      all_goals (obtain ⟨_,_,h⟩:=h;(try split at h)<;>simp only [Option.bind_eq_some_iff,Option.map_eq_some_iff,reduceCtorEq,and_false,exists_false] at h)
    | _=>cases h
  all_goals (exfalso;simp only [QbY,Option.bind_eq_some_iff,Option.map_eq_some_iff,reduceCtorEq,and_false,exists_false,Option.some.injEq] at h)
  case makeFunc f _ _=>cases f<;>first | (cases h;done) | (simp only [] at h;split at h<;>simp at h)
  all_goals (repeat' (first | (cases h;done) | (obtain ⟨_,_,h⟩:=h) | (split at h) | (simp only [Option.bind_eq_some_iff,Option.map_eq_some_iff,reduceCtorEq,and_false,exists_false,Option.some.injEq] at h)))
theorem QoK {cl:Cl} {os:List O}:∀ (l:List O) (i:Nat) (st:St),(∀ j o,l[j]?=some o→os[i+j]?=some o)→exs cl l st=exsI cl os (List.range' i l.length) st
 | [],i,st,_=>rfl
 | o :: l,i,st,h=>by
  have h0:os[i]?=some o:=h 0 o rfl
  rw [List.length_cons,List.range'_succ]
  simp only [exs,exsI,h0,Option.bind_some]
  refine congrArg _ (funext fun s=>?_)
  exact QoK l (i+1) s fun j o hj=>by rw [show i+1+j=i+(j+1) by omega];exact h (j+1) o (by simpa using hj)

end
end Go.AM

/- A call that shares the caller's boxes, part 1: into the callee's frame and back. -/
namespace Go.AM
open Go Go.RowKit

theorem QnQ (h hp:Hp):∀ (l:List Key) (k:Key),(k∈l→Qfl h hp l k=hp k)∧(k ∉ l→Qfl h hp l k=h k)
 | [],k=>⟨by simp,fun _=>rfl⟩
 | q :: r,k=>by
  obtain ⟨h1,h2⟩:=QnQ h hp r k
  simp only [Qfl,Qbw]
  by_cases e:k=q
  ·subst e;simp
  ·simp only [e,if_false,List.mem_cons,false_or]
   exact ⟨h1,h2⟩
theorem QlJ:∀ (as:List A) (i:Nat),(∀ j x,Qnm i as j=some x→i≤j∧as[j-i]?=some x)
 | [],i,j,x,h=>by simp [Qnm,fr0] at h
 | d :: r,i,j,x,h=>by
  simp only [Qnm,upd,updO] at h
  split at h
  ·rename_i e
   subst e
   cases h
   exact ⟨Nat.le_refl _,by simp⟩
  ·rename_i e
   obtain ⟨h1,h2⟩:=QlJ r (i+1) j x h
   refine ⟨by omega, ?_⟩
   rw [show j-i=(j-(i+1))+1 by omega]
   simpa using h2
theorem RepAL.get {m:Key→Nat} {hp:Hp} {S:Nat→Prop} {w:World}:∀ {xs:List A} {vs:List Value},RepAL m hp S w xs vs→∀ (j:Nat) (x:A),xs[j]?=some x→∃ v,vs[j]?=some v∧RepA m hp S w x v
 | _,_,.nil,j,x,h=>by simp at h
 | _,_,.cons y cs v vs h t,0,x,hj=>by
  simp at hj
  subst hj
  exact ⟨v,by simp,h⟩
 | _,_,.cons y cs v vs h t,j+1,x,hj=>by
  simp at hj
  obtain ⟨u,h1,h2⟩:=t.get j x hj
  exact ⟨u,by simpa using h1,h2⟩
theorem RepAL.len {m:Key→Nat} {hp:Hp} {S:Nat→Prop} {w:World}:∀ {xs:List A} {vs:List Value},RepAL m hp S w xs vs→xs.length=vs.length
 | _,_,.nil=>rfl
 | _,_,.cons _ _ _ _ _ t=>by simp [t.len]
theorem RepAL.app {m:Key→Nat} {hp:Hp} {S:Nat→Prop} {w:World}:∀ {xs ys:List A} {vs us:List Value},RepAL m hp S w xs vs→RepAL m hp S w ys us→RepAL m hp S w (xs++ys) (vs++us)
 | _,_,_,_,.nil,k=>k
 | _,_,_,_,.cons x cs v vs h t,k=>.cons x _ v _ h (t.app k)
theorem Qow {p:Key→Prop} {q:Key→Nat→Prop}:∀ {xs ys:List A},Qe9 p q xs→Qe9 p q ys→Qe9 p q (xs++ys)
 | [],_,_,k=>k
 | _ :: _,_,h,k=>⟨h.1,Qow h.2 k⟩

def Asd (m:Key→Nat) (hp:Hp) (ak:List Key) (b:Nat):Prop:=∃ k o,k∈ak∧hp k=some o∧m k=b
def inlWd (m:Key→Nat) (hp2:Hp) (ks:List Key) (W:World):Wd:=⟨W,Live m hp2,mbOf m hp2 ks,fun b=>W.heap.size≤b⟩

section
variable {S0:Nat→Prop} {N:Nat} {w0:Wd} {m:Key→Nat} {s1 s2:St} {a:Act} {W:World} {vs:List Nat} {ks ak:List Key}

structure InlIs (s1 s2:St) (vs:List Nat) (ks ak:List Key):Prop where
 wait:∀ i x,s2.fr i=some x→i∈vs∧s1.fr i=some x∧waitO ks ak (some x)=true
 heap:∀ k o,s2.hp k=some o→k∈ks∧s1.hp k=some o
 all:∀ k,k∈ks→s2.hp k=s1.hp k
 refs:∀ k o,s2.hp k=some o→Qdg ks o.cs=true
 asd:∀ k o,k∈ak→s1.hp k=some o→o.fz=false∧0<o.es∧∃ ds,allD o.cs=some ds
 dis:∀ k,k∈ak→k ∉ ks
 px:s2.px=s1.px
theorem inlSt_is (h:Qr7 s1 vs ks ak=some s2):InlIs s1 s2 vs ks ak:=by
 unfold Qr7 at h
 obtain ⟨⟨h1,h2,h3⟩,h⟩:=Qaf h
 simp only [Option.some.injEq] at h
 subst h
 rw [List.all_eq_true] at h1 h3
 have hh:∀ k o,Qla s1.hp ks k=some o→k∈ks∧s1.hp k=some o:=by
  intro k o ho
  by_cases hi:k∈ks
  ·rw [(Qes s1.hp ks k).1 hi] at ho;exact ⟨hi,ho⟩
  ·rw [(Qes s1.hp ks k).2 hi] at ho;cases ho
 refine ⟨fun i x hx=>?_,hh,fun k hk=>(Qes s1.hp ks k).1 hk,fun k o ho=>?_,fun k o hk ho=>?_,fun k hk hk2=>?_,rfl⟩
 ·dsimp only at hx
  by_cases hi:i∈vs
  ·rw [(Qgh s1.fr vs i).1 hi] at hx
   have:=h1 i hi
   rw [hx] at this
   exact ⟨hi,hx,this⟩
  ·rw [(Qgh s1.fr vs i).2 hi] at hx;cases hx
 ·obtain ⟨hk,ho⟩:=hh k o ho
  exact QhD h2 k hk o ho
 ·have:=h3 k hk
  rw [Bool.and_eq_true,ho] at this
  have h4:=this.1
  simp only [asideO,Bool.and_eq_true,Bool.not_eq_true',decide_eq_true_eq] at h4
  exact ⟨h4.1.1,h4.1.2,Option.isSome_iff_exists.1 h4.2⟩
 ·have:=h3 k hk
  rw [Bool.and_eq_true] at this
  have h4:=this.2
  rw [isIn_mem.2 hk2] at h4
  cases h4

theorem inl_enter (hR:Rel S0 N w0 m s1 a W) (hi:InlIs s1 s2 vs ks ak) {as:List A} {vals:List Value} (hrep:RepAL m s1.hp (Im S0 m s1.hp W) W as vals) (hcl:Qe9   (QdW   s1.hp) (QdT   s1.hp) as) (hrf:Qdg   ks as=true)
    {n1:Nat} (hn:vals.length≤n1) {px:Key} :
    Rel (fun b=>S0 b∧¬ Asd m s1.hp ak b) n1 (inlWd m s2.hp ks W) m ⟨Qnm 0 as,s2.hp,px⟩ { tmps:=vals.toArray++Array.replicate (n1-vals.toArray.size) undef,defers:=[] } W:=by
  have hB:∀ k,k∈ks∧QdW s1.hp k→QdW s2.hp k:=fun k ⟨hk,o,ho,he⟩=>⟨o,by rw [hi.all k hk];exact ho,he⟩
  have hA:∀ k n,k∈ks∧QdT s1.hp k n→QdT s2.hp k n:=fun k n ⟨hk,o,ho,he⟩=>⟨o,by rw [hi.all k hk];exact ho,he⟩
  have hlive:∀ b,Live m s2.hp b→Live m s1.hp b:=fun b ⟨k,o,ho,hf,hm⟩=>⟨k,o,(hi.heap k o ho).2,hf,hm⟩
  have hasd:∀ b,Asd m s1.hp ak b→Live m s1.hp b:=fun b ⟨k,o,hk,ho,hm⟩=>⟨k,o,ho,(hi.asd k o hk ho).1,hm⟩
  have hIm:∀ b,Im S0 m s1.hp W b→Im (fun b=>S0 b∧¬ Asd m s1.hp ak b) m s2.hp W b:=fun b hb=>⟨⟨hb.1,fun h=>hb.2.2 (hasd b h)⟩,hb.2.1,fun h=>hb.2.2 (hlive b h)⟩
  have hP:∀ q,QdW s2.hp q→Ql0 m m s1.hp s2.hp q:=fun q ⟨oq,hq,_⟩ _ _=>⟨⟨oq,(hi.heap q oq hq).2⟩,rfl⟩
  have hQ:∀ q n,QdT s2.hp q n→Ql7 m m s1.hp s2.hp W W q n :=
    fun q n _ o2 ho2 hn2=>⟨o2,(hi.heap q o2 ho2).2,rfl,rfl,hn2,fun cs' T' fz' hc=>⟨cs',fz',hc,rfl⟩⟩
  have hcl2:Qe9 (QdW s2.hp) (QdT s2.hp) as:=Qh5 hB hA (QiX (QeZ hrf) hcl)
  have hclo:∀ k o x,s2.hp k=some o→x∈o.cs→QaS s2.hp x:=by
    intro k o x ho hx
    exact Qaw hB hA (QkF (Qe5 (QeZ (hi.refs k o ho)) x hx) (hR.clh k o x (hi.heap k o ho).2 hx))
  refine ⟨fun i x hx=>?_,fun k o ho=>?_,fun k k' o o' h1 h2 he=>hR.inj k k' o o' (hi.heap _ _ h1).2 (hi.heap _ _ h2).2 he,fun i x hx=>?_,hclo,fun k o ho=>⟨hR.ge k o (hi.heap k o ho).2, ?_⟩,fun k o ho hf=>.inl ⟨k,o,ho,hf,rfl⟩,Foot.refl _ _,Marks.nil _ _ _, ?_,fun b hb=>⟨hR.un b hb, ?_⟩,fun k b hb=>?_⟩
  · obtain ⟨_,hj⟩:=QlJ as 0 i x hx
    obtain ⟨v,hv,hxv⟩:=hrep.get (i-0) x hj
    rw [Nat.sub_zero] at hv
    have:(vals.toArray++Array.replicate (n1-vals.toArray.size) undef).getD i undef=v:=by
      have hil:i<vals.length:=(List.getElem?_eq_some_iff.1 hv).1
      rw [Array.getD_eq_getD_getElem?,Array.getElem?_append_left (by simpa using hil)]
      simp [hv]
    rw [this]
    exact hxv.mono hIm (fun _ _=>rfl) _ _ (Qaw hP hQ (Qe5 hcl2 x (List.mem_of_getElem? hj)))
  · obtain ⟨cs',T',fz',hr⟩:=hR.obj k o (hi.heap k o ho).2
    refine ⟨cs',T',fz',hr.at_,hr.size,hr.free,fun i x hx=>?_⟩
    obtain ⟨v,hv,hx'⟩:=hr.rep i x hx
    exact ⟨v,hv,hx'.mono hIm (fun _ _=>rfl) _ _ (Qaw hP hQ (hclo k o x ho (List.mem_of_getElem? hx)))⟩
  · obtain ⟨_,hj⟩:=QlJ as 0 i x hx
    exact Qe5 hcl2 x (List.mem_of_getElem? hj)
  · rintro ⟨q,oq,hq,hoq,hm⟩
    have:=hR.inj q k oq o hoq (hi.heap k o ho).2 hm
    subst this
    exact hi.dis q hq (hi.heap q o ho).1
  · simp;omega
  · rintro ⟨q,oq,hq,hoq,hm⟩
    have h1:=hR.lt hoq
    have h2:W.heap.size≤b:=hb
    omega
  · obtain ⟨_,g1,g2⟩:=Qi0 hb
    exact ⟨g1,g2⟩

theorem inl_leave (hR:Rel S0 N w0 m s1 a W) (hi:InlIs s1 s2 vs ks ak) (hmb:∀ k b,w0.mb k=some b→k∈ks) {n1:Nat} {m3:Key→Nat} {s3:St} {a3:Act} {W3:World}
    (R3:Rel (fun b=>S0 b∧¬ Asd m s1.hp ak b) n1 (inlWd m s2.hp ks W) m3 s3 a3 W3) (hgone:∀ k,k∈ak→s3.hp k=none) :
    ∃ m4,Rel S0 N w0 m4 ⟨s2.fr,Qfl s3.hp s1.hp ak,s1.px⟩ a W3∧∀ (x:A) (v:Value),RepA m3 s3.hp (Im (fun b=>S0 b∧¬ Asd m s1.hp ak b) m3 s3.hp W3) W3 x v→QaS s3.hp x→RepA m4 (Qfl s3.hp s1.hp ak) (Im S0 m4 (Qfl s3.hp s1.hp ak) W3) W3 x v∧QaS (Qfl s3.hp s1.hp ak) x:=by
  classical
  obtain ⟨hj,hhj⟩:∃ hj,hj=Qfl s3.hp s1.hp ak:=⟨_,rfl⟩
  have hja:∀ k,k∈ak→hj k=s1.hp k:=fun k hk=>by rw [hhj];exact (QnQ s3.hp s1.hp ak k).1 hk
  have hjn:∀ k,k ∉ ak→hj k=s3.hp k:=fun k hk=>by rw [hhj];exact (QnQ s3.hp s1.hp ak k).2 hk
  have h3n:∀ k o,s3.hp k=some o→k ∉ ak:=fun k o ho hk=>by rw [hgone k hk] at ho;cases ho
  obtain ⟨m4,hm4⟩:∃ m4:Key→Nat,m4=fun k=>if k∈ak then m k else m3 k:=⟨_,rfl⟩
  have m4a:∀ k,k∈ak→m4 k=m k:=fun k hk=>by rw [hm4];exact if_pos hk
  have m4n:∀ k,k ∉ ak→m4 k=m3 k:=fun k hk=>by rw [hm4];exact if_neg hk
  rw [← hhj]
  have hsz:W.heap.size≤W3.heap.size:=R3.bel.size
  have hlv2:∀ b,Live m s2.hp b→Live m s1.hp b:=fun b ⟨k,o,ho,hf,hm⟩=>⟨k,o,(hi.heap k o ho).2,hf,hm⟩
  have hblk:∀ b,b<W.heap.size→¬ Live m s2.hp b→W3.heap[b]?=W.heap[b]?:=fun b hb hn=>R3.bel.block b hb hn
  have hlive4:∀ b,Live m4 hj b→Live m s1.hp b∨W.heap.size≤b:=by
    rintro b ⟨k,o,ho,hf,hm⟩
    by_cases hk:k∈ak
    · rw [hja k hk] at ho
      rw [m4a k hk] at hm
      exact .inl ⟨k,o,ho,hf,hm⟩
    · rw [hjn k hk] at ho
      rw [m4n k hk] at hm
      rcases R3.lv k o ho hf with h | h
      · rw [hm] at h;exact .inl (hlv2 b h)
      · rw [hm] at h;exact .inr h
  have hIm1:∀ b,Im S0 m s1.hp W b→Im S0 m4 hj W3 b:=fun b hb=>⟨hb.1,Nat.lt_of_lt_of_le hb.2.1 hsz,fun h=>by
    rcases hlive4 b h with h | h
    · exact hb.2.2 h
    · have:=hb.2.1;omega⟩
  have hw1:∀ b,Im S0 m s1.hp W b→W3.heap[b]?=W.heap[b]?:=fun b hb=>hblk b hb.2.1 fun h=>hb.2.2 (hlv2 b h)
  have hIm3:∀ b,Im (fun b=>S0 b∧¬ Asd m s1.hp ak b) m3 s3.hp W3 b→Im S0 m4 hj W3 b:=by
    rintro b ⟨⟨h1,h2⟩,h3,h4⟩
    refine ⟨h1,h3, ?_⟩
    rintro ⟨k,o,ho,hf,hm⟩
    by_cases hk:k∈ak
    · rw [hja k hk] at ho
      rw [m4a k hk] at hm
      exact h2 ⟨k,o,hk,ho,hm⟩
    · rw [hjn k hk] at ho
      rw [m4n k hk] at hm
      exact h4 ⟨k,o,ho,hf,hm⟩
  have hP3:∀ q,QdW s3.hp q→Ql0 m3 m4 s3.hp hj q:=fun q ⟨oq,hq,_⟩ o' _=>⟨⟨oq,hq⟩,m4n q (h3n q oq hq)⟩
  have hQ3:∀ q n,QdT s3.hp q n→Ql7 m3 m4 s3.hp hj W3 W3 q n:=fun q n ⟨oq,hq,_⟩ o2 ho2 hn2=>by
    have hk:=h3n q oq hq
    rw [hjn q hk] at ho2
    exact ⟨o2,ho2,m4n q hk,rfl,hn2,fun cs' T' fz' hc=>⟨cs',fz',hc,rfl⟩⟩
  have hB3:∀ q,QdW s3.hp q→QdW hj q:=fun q ⟨oq,hq,he⟩=>⟨oq,by rw [hjn q (h3n q oq hq)];exact hq,he⟩
  have hA3:∀ q n,QdT s3.hp q n→QdT hj q n:=fun q n ⟨oq,hq,he⟩=>⟨oq,by rw [hjn q (h3n q oq hq)];exact hq,he⟩
  have res:∀ (x:A) (v:Value),RepA m3 s3.hp (Im (fun b=>S0 b∧¬ Asd m s1.hp ak b) m3 s3.hp W3) W3 x v→QaS s3.hp x→RepA m4 hj (Im S0 m4 hj W3) W3 x v∧QaS hj x :=
    fun x v hx hc=>⟨hx.mono hIm3 (fun _ _=>rfl) _ _ (Qaw hP3 hQ3 hc),Qaw hB3 hA3 hc⟩
  have hmbk:∀ k o,k∈ks→s1.hp k=some o→o.es=0→(∃ o',s3.hp k=some o'∧o'.es=0)∧m3 k=m k:=fun k o hk ho he =>
    R3.mb k (m k) (Qqg hk (by rw [hi.all k hk];exact ho) he)
  have aside_blk:∀ k o,k∈ak→s1.hp k=some o→W3.heap[m k]?=W.heap[m k]?:=by
    intro k o hk ho
    refine hblk _ (hR.lt ho) ?_
    rintro ⟨q,oq,hq,_,hm⟩
    obtain ⟨hqk,hq1⟩:=hi.heap q oq hq
    have:=hR.inj q k oq o hq1 ho hm
    subst this
    exact hi.dis q hk hqk
  -- the slots that wait
  have hfr:∀ i x,s2.fr i=some x→RepA m4 hj (Im S0 m4 hj W3) W3 x (a.tmps.getD i undef)∧QaS hj x:=by
    intro i x hx
    obtain ⟨_,h1,h2⟩:=hi.wait i x hx
    have hr:=hR.fr i x h1
    have hc:=hR.clf i x h1
    cases x with
    | d y=>exact ⟨.d _ _ ((QhI hr).mono hIm1 hw1),trivial⟩
    | ptr k off =>
      have hk:k∈ks:=isIn_mem.1 h2
      obtain ⟨o,ho,he⟩:=hc
      obtain ⟨⟨o',ho',he'⟩,hm⟩:=hmbk k o hk ho he
      have hka:=h3n k o' ho'
      refine ⟨?_,o',by rw [hjn k hka];exact ho',he'⟩
      cases hr with
      | ptr _ _ _ hs hv=>exact .ptr k off _ hs fun _ _=>by rw [m4n k hka,hm];exact hv o ho
    | own k n =>
      have hk:k∈ak:=isIn_mem.1 h2
      obtain ⟨o,ho,he,hle⟩:=hc
      refine ⟨?_,o,by rw [hja k hk];exact ho,he,hle⟩
      cases hr with
      | own _ _ _ hs hv =>
        refine .own k n _ hs fun o' ho' hn=>?_
        rw [hja k hk,ho] at ho'
        cases ho'
        obtain ⟨cap,cs,T,fz,e1,e2,e3,e4⟩:=hv o ho hn
        exact ⟨cap,cs,T,fz,by rw [m4a k hk];exact e1,e2,by rw [m4a k hk,aside_blk k o hk ho];exact e3,e4⟩
    | fn f xs =>
      have hcap:∀ (xs:List A) (us:List Value),xs.all (capO ks)=true→RepAL m s1.hp (Im S0 m s1.hp W) W xs us→Qe9 (QdW s1.hp) (QdT s1.hp) xs→RepAL m4 hj (Im S0 m4 hj W3) W3 xs us∧Qe9 (QdW hj) (QdT hj) xs:=by
        intro xs
        induction xs with
        | nil=>intro us _ hu _;cases hu;exact ⟨.nil,trivial⟩
        | cons y ys ih =>
          intro us ha hu hcl
          simp only [List.all_cons,Bool.and_eq_true] at ha
          cases hu with
          | cons _ _ v vs hy ht =>
            obtain ⟨i1,i2⟩:=ih vs ha.2 ht hcl.2
            have hh:RepA m4 hj (Im S0 m4 hj W3) W3 y v∧QaS hj y:=by
              cases y with
              | d z=>exact ⟨.d _ _ ((QhI hy).mono hIm1 hw1),trivial⟩
              | ptr k off =>
                have hk:k∈ks:=isIn_mem.1 ha.1
                obtain ⟨o,ho,he⟩:=hcl.1
                obtain ⟨⟨o',ho',he'⟩,hm⟩:=hmbk k o hk ho he
                have hka:=h3n k o' ho'
                refine ⟨?_,o',by rw [hjn k hka];exact ho',he'⟩
                cases hy with
                | ptr _ _ _ hs hv=>exact .ptr k off _ hs fun _ _=>by rw [m4n k hka,hm];exact hv o ho
              | _=>cases ha.1
            exact ⟨.cons _ _ _ _ hh.1 i1,hh.2,i2⟩
      generalize a.tmps.getD i undef=u at hr
      cases hr with
      | fn _ _ us hl =>
        obtain ⟨i1,i2⟩:=hcap xs us h2 hl hc
        exact ⟨.fn f xs us i1,i2⟩
    | _=>cases h2
  refine ⟨m4,⟨fun i x hx=>(hfr i x hx).1,fun k o ho=>?_,fun k k' o o' h1 h2 he=>?_,fun i x hx=>(hfr i x hx).2,fun k o x ho hx=>?_,fun k o ho=>?_,fun k o ho hf=>?_, ?_, ?_,hR.ts,fun b hb=>hR.un b (Nat.le_trans hsz hb),fun k b hb=>?_⟩,res⟩
  · dsimp only at ho
    by_cases hk:k∈ak
    · rw [hja k hk] at ho
      obtain ⟨_,_,ds,hds⟩:=hi.asd k o hk ho
      obtain ⟨cs,T,fz,hr⟩:=hR.obj k o ho
      refine ⟨cs,T,fz,by rw [m4a k hk,aside_blk k o hk ho];exact hr.at_,hr.size,hr.free,fun i x hx=>?_⟩
      obtain ⟨v,hv,hx'⟩:=hr.rep i x hx
      obtain ⟨d,rfl⟩:∃ d,x=.d d:=by
        have:=Qe1 hds
        rw [this,List.getElem?_map,Option.map_eq_some_iff] at hx
        obtain ⟨d,_,rfl⟩:=hx
        exact ⟨d,rfl⟩
      exact ⟨v,hv,.d _ _ ((QhI hx').mono hIm1 hw1)⟩
    · rw [hjn k hk] at ho
      obtain ⟨cs,T,fz,hr⟩:=R3.obj k o ho
      refine ⟨cs,T,fz,by rw [m4n k hk];exact hr.at_,hr.size,hr.free,fun i x hx=>?_⟩
      obtain ⟨v,hv,hx'⟩:=hr.rep i x hx
      exact ⟨v,hv,(res x v hx' (R3.clh k o x ho (List.mem_of_getElem? hx))).1⟩
  · dsimp only at h1 h2
    by_cases hk:k∈ak<;>by_cases hk':k'∈ak
    · rw [hja k hk] at h1;rw [hja k' hk'] at h2;rw [m4a k hk,m4a k' hk'] at he
      exact hR.inj k k' o o' h1 h2 he
    · rw [hja k hk] at h1;rw [hjn k' hk'] at h2;rw [m4a k hk,m4n k' hk'] at he
      exact absurd ⟨k,o,hk,h1,he⟩ (R3.ge k' o' h2).2
    · rw [hjn k hk] at h1;rw [hja k' hk'] at h2;rw [m4n k hk,m4a k' hk'] at he
      exact absurd ⟨k',o',hk',h2,he.symm⟩ (R3.ge k o h1).2
    · rw [hjn k hk] at h1;rw [hjn k' hk'] at h2;rw [m4n k hk,m4n k' hk'] at he
      exact R3.inj k k' o o' h1 h2 he
  · dsimp only at ho
    by_cases hk:k∈ak
    · rw [hja k hk] at ho
      obtain ⟨_,_,ds,hds⟩:=hi.asd k o hk ho
      rw [Qe1 hds] at hx
      obtain ⟨d,_,rfl⟩:=List.mem_map.1 hx
      trivial
    · rw [hjn k hk] at ho
      exact Qaw hB3 hA3 (R3.clh k o x ho hx)
  · dsimp only at ho
    by_cases hk:k∈ak
    · rw [hja k hk] at ho;rw [m4a k hk];exact hR.ge k o ho
    · rw [hjn k hk] at ho;rw [m4n k hk];exact (R3.ge k o ho).1
  · rcases hlive4 (m4 k) ⟨k,o,ho,hf,rfl⟩ with ⟨q,oq,hq,hfq,hm⟩ | h
    · rw [← hm];exact hR.lv q oq hq hfq
    · exact .inr (Nat.le_trans hR.bel.size h)
  · refine hR.bel.trans R3.bel ?_
    rintro b ⟨q,oq,hq,hfq,hm⟩
    rw [← hm]
    exact hR.lv q oq (hi.heap q oq hq).2 hfq
  · refine hR.df.step fun b hb hd=>?_
    rw [hblk b (Qc2 hd) ?_]
    · exact hd
    · rintro ⟨q,oq,hq,_,hm⟩
      obtain ⟨cs,T,fz,hr⟩:=hR.obj q oq (hi.heap q oq hq).2
      have hat:=hr.at_
      rw [hm,hd] at hat
      cases hat
  · obtain ⟨⟨o,ho,he⟩,hm⟩:=hR.mb k b hb
    have hk:=hmb k b hb
    obtain ⟨⟨o',ho',he'⟩,hm3⟩:=hmbk k o hk ho he
    have hka:=h3n k o' ho'
    exact ⟨⟨o',by dsimp only;rw [hjn k hka];exact ho',he'⟩,by rw [m4n k hka,hm3];exact hm⟩
end
end Go.AM

/- A call that shares the caller's boxes, part 2: its region. -/
namespace Go.AM
open Go Go.RowKit

def okI (L:List Nat):Code→Bool
 | .region _ ops draw=>!draw||ops.toList.all fun o=>match o.op with
  | .call c=>match c.callee with
   | .value (.func f)=>!L.contains f
   | .value _=>false
   | _=>true
  | _=>true
 | .seq a b=>okI L a&&okI L b
 | .cond _ a b=>okI L a&&okI L b
 | .block _ c | .loop c | .scope c=>okI L c
 | .rangeFunc _ _ a b=>okI L a&&okI L b
 | _=>true
theorem Qom (L:List Nat):∀ c:Code,okI L (Qj5 c)=okI L c
 | .scope c=>by simp only [Qj5,okI];exact Qom L c
 | .skip | .region .. | .seq .. | .cond .. | .block .. | .loop _ | .exit _ | .goto _ | .label _ | .ret | .refuse _ | .rangeFunc ..=>rfl

theorem QqU {P:Program} {op:Op} {f:Nat} {es:List E} {b:Bool} (h:QbY P op=some (.call f es b)):∃ c,op=.call c∧c.callee=.value (.func f)∧(∃ fn,P.funcs[f]?=some fn∧fn.body.isSome=true∧fn.name ≠ "runtime.NumGoroutine")∧mapO QaH c.args.toList=some es:=by
  cases op
  case call c =>
    refine ⟨c, ?_⟩
    simp only [QbY] at h
    generalize hc:c.callee=ce at h
    cases ce with
    | value u =>
      cases u with
      | func g =>
        simp only [Option.bind_eq_some_iff,Option.map_eq_some_iff,I.call.injEq] at h
        obtain ⟨_,⟨fn,hf,hchk⟩,q,hq,rfl,rfl,rfl⟩:=h
        split at hchk
        · rename_i hb
          simp only [Bool.and_eq_true,bne_iff_ne,ne_eq] at hb
          exact ⟨rfl,rfl,⟨fn,hf,hb.1,hb.2⟩,hq⟩
        · cases hchk
      | _=>simp only [Option.bind_eq_some_iff,Option.map_eq_some_iff,reduceCtorEq,and_false,exists_false] at h
    | builtin b =>
      exfalso
      cases b<;>simp only [Option.map_eq_some_iff,reduceCtorEq,and_false,exists_false] at h
      all_goals ((split at h)<;>try (cases h;done))
      all_goals ((try split at h)<;>simp only [Option.bind_eq_some_iff,Option.map_eq_some_iff,reduceCtorEq,and_false,exists_false] at h)
      all_goals (obtain ⟨_,_,h⟩:=h;(try split at h)<;>simp only [Option.bind_eq_some_iff,Option.map_eq_some_iff,reduceCtorEq,and_false,exists_false] at h)
    | _=>cases h
  all_goals (exfalso;simp only [QbY,Option.bind_eq_some_iff,Option.map_eq_some_iff,reduceCtorEq,and_false,exists_false,Option.some.injEq] at h)
  case makeFunc f _ _=>cases f<;>first | (cases h;done) | (simp only [] at h;split at h<;>simp at h)
  all_goals (repeat' (first | (cases h;done) | (obtain ⟨_,_,h⟩:=h) | (split at h) | (simp only [Option.bind_eq_some_iff,Option.map_eq_some_iff,reduceCtorEq,and_false,exists_false,Option.some.injEq] at h)))

section
variable {S0:Nat→Prop} {N:Nat} {w0:Wd} {m:Key→Nat} {st:St} {a:Act} {w:World} {P:Program}
variable {F:Fence} {n:Nat} {Q:Exit→Act→World→Prop} {cl:Cl}

theorem calA_rep {hp:Hp} {S:Nat→Prop} {y:A} {v:Value} {f:Nat} {caps:List A} (h:RepA m hp S w y v) (hq:calA y=some (f,caps)) (hc:QaS hp y):∃ us:List Value,v=.func (.func f) #[] us.toArray∧RepAL m hp S w caps us∧Qe9 (QdW hp) (QdT hp) caps:=by
  cases h with
  | d x _ h =>
    cases h with
    | fn g cs vs hl =>
      simp only [calA,Option.some.injEq,Prod.mk.injEq] at hq
      obtain ⟨rfl,rfl⟩:=hq
      refine ⟨vs,rfl, ?_, ?_⟩
      · have key : ∀ (xs : List D) (us : List Value), RepL S w xs us → RepAL m hp S w (xs.map A.d) us := by
          intro xs
          induction xs with
          | nil=>intro us hu;cases hu;exact .nil
          | cons x xs ih =>
            intro us hu
            cases hu with
            | cons _ _ v vs hx ht=>exact .cons _ _ _ _ (.d _ _ hx) (ih vs ht)
        exact key _ _ hl
      · exact Qn1       fun x hx => by
          obtain ⟨d,_,rfl⟩:=List.mem_map.1 hx
          trivial
    | _=>simp [calA] at hq
  | fn g xs us h =>
    simp only [calA,Option.some.injEq,Prod.mk.injEq] at hq
    obtain ⟨rfl,rfl⟩:=hq
    exact ⟨us,rfl,h,hc⟩
  | _=>simp [calA] at hq

theorem Qr4        (hcl:∀ f ds r,cl f ds=some r→Qgy     w0 P f ds r) (hF:FOk F) {id:Nat} {ops:Array Oper} {pre post:List O} {dst:Option Nat} {x:E} {es:List E} {f np:Nat} {rs:List RV}
    (hos:mapO (QoP P ops) ops.toList=some ((pre++⟨dst,QkC x es,none⟩ :: post).map O.er)) (hlt:((pre++(⟨dst,QkC x es,none⟩:O) :: post).map O.er).all (O.within N)=true)
    {vs:List Nat} {ks ak:List Key} (hmb:∀ k b,w0.mb k=some b→k∈ks) (hT:TabAt w0.lk w0.w) (hR:Rel S0 N w0 m st a w) {s1 s2:St} {av:A} {caps as:List A}
    (h1:exs cl pre st=some s1) (hx:x.ev s1=some av) (hq:calA av=some (f,caps)) (has:allE s1 es=some as) (hnp:(as++caps).length=np) (hrf:Qdg ks (as++caps)=true) (hin:Qr7 s1 vs ks ak=some s2)
    {fn1:Func} {body:Code} (hf:P.funcs[f]?=some fn1) (hb:fn1.body=some body) (hnm:fn1.name ≠ "runtime.NumGoroutine") (hN1:np≤fn1.ntmps) (hrs:mapO (QrV P) fn1.results.toList=some rs)
    {p:Ex×St} (hB:∀ (S1:Nat→Prop) (w1:Wd) (m1:Key→Nat) (a1:Act) (W1:World) (Q1:Exit→Act→World→Prop),(∀ k b,w1.mb k=some b→k∈ks)→TabAt w1.lk w1.w→Rel S1 fn1.ntmps w1 m1 ⟨Qnm 0 (as++caps),s2.hp,0 :: s2.px⟩ a1 W1 →
      (∀ m' a' w',Rel S1 fn1.ntmps w1 m' p.2 a' w'→Q1 p.1.out a' w')→body.wpIn Fence.wide 0 P Q1 a1 W1)
    (hfin:p.1.fin=true) (hgone:(ak.all fun k=>goneO (p.2.hp k))=true) {rv:List A} (hrv:resL p.2 rs=some rv) {fin:St} (hpost:exs cl post ⟨putO s2.fr dst (resA rv),Qfl p.2.hp s1.hp ak,s2.px⟩=some fin)
    (hK:∀ m' a' w',Rel S0 N w0 m' fin a' w'→Q .normal a' w'):(Code.region id ops false).wpIn F n P Q a w:=by
  have hO:=Qok (N:=N) hos hlt
  have hlen:=hO.len
  simp only [List.length_append,List.length_cons] at hlen
  have hi:pre.length<ops.size:=by omega
  obtain ⟨o,hoo⟩:∃ o,ops[pre.length]?=some o:=⟨ops[pre.length],by simp [hi]⟩
  obtain ⟨o2,g2,gc,gd,gg⟩:=hO.at_ pre.length o hoo
  have:(pre++(⟨dst,QkC x es,none⟩:O) :: post)[pre.length]?=some ⟨dst,QkC x es,none⟩:=by simp
  rw [this] at g2
  cases g2
  dsimp only at gc gd gg
  have hdN:∀ d,dst=some d→d<N:=fun d hd=>hO.lt ⟨dst,QkC x es,none⟩ (by simp) d hd
  have e1:exsI cl (pre++(⟨dst,QkC x es,none⟩:O) :: post) (List.range' 0 pre.length) st=some s1:=by
    rw [← QoK pre 0 st fun j o hj=>by
      have hlt:=(List.getElem?_eq_some_iff.1 hj).1
      rw [Nat.zero_add,List.getElem?_append_left hlt];exact hj]
    exact h1
  have e2:∀ s r,exs cl post s=some r→exsI cl (pre++(⟨dst,QkC x es,none⟩:O) :: post) (List.range' (pre.length+1) post.length) s=some r:=by
    intro s r hs
    rw [← QoK post (pre.length+1) s fun j o hj=>by
      rw [List.getElem?_append_right (by omega),show pre.length+1+j-pre.length=j+1 by omega];simpa using hj]
    exact hs
  have hrange:List.range ops.size=List.range' 0 pre.length++pre.length :: (List.range' (pre.length+1) post.length++[]):=by
    have hap:=@List.range'_append_1 0 pre.length (post.length+1)
    rw [Nat.zero_add] at hap
    rw [List.append_nil,← List.range'_succ,List.range_eq_range',← hlen]
    exact hap.symm
  refine wpIn_region ?_
  rw [hrange]
  refine QlG hcl hF hO _ hR e1 ?_
  intro m1 a1 W1 R1
  rw [wpOpsIn_cons]
  unfold wpOpIn
  simp only [hoo]
  rw [QgU R1 gg rfl (b:=true) (by simp [Qdi])]
  simp only [if_true]
  have hnb:fn1.body.isSome=true:=by rw [hb];rfl
  -- the callee and its arguments
  obtain ⟨c, hop, us, hargs, hcaps, hcapc, hexec⟩ : ∃ c, o.op = .call c ∧ ∃ us : List Value, mapO QaH   c.args.toList = some es ∧ RepAL m1 s1.hp (Im S0 m1 s1.hp W1) W1 caps us ∧ Qe9   (QdW   s1.hp) (QdT   s1.hp) caps ∧
      (execOp a1.eval o).run P W1=.ok (.enter f (c.args.toList.map a1.eval++us).toArray) W1:=by
    have dyn:∀ c u,o.op=.call c→c.callee=.value u→QaH u=some x→mapO QaH c.args.toList=some es→∃ c,o.op=.call c∧∃ us:List Value,mapO QaH c.args.toList=some es∧RepAL m1 s1.hp (Im S0 m1 s1.hp W1) W1 caps us∧Qe9 (QdW s1.hp) (QdT s1.hp) caps ∧
      (execOp a1.eval o).run P W1=.ok (.enter f (c.args.toList.map a1.eval++us).toArray) W1:=by
      intro c u hop hce hxu hma
      obtain ⟨us,hv,k1,k2⟩:=calA_rep (R1.ev hxu hx) hq (E.ev_keys R1 hx)
      refine ⟨c,hop,us,hma,k1,k2, ?_⟩
      have hargsA:c.args.map a1.eval=(c.args.toList.map a1.eval).toArray:=by apply Array.ext';simp
      simp only [execOp,hop,resolve,hce,hv,Deferred.ofValue,Sem.run_bind,Sem.run_pure,Result.andThen_ok,invoke,hargsA]
      rw [Qgl hf hnb hnm]
      congr 2
      simp
    cases x with
    | f g =>
      have gc':QbY P o.op=some (.call g es false):=gc
      obtain ⟨c,k1,k2,_,k4⟩:=QqU gc'
      exact dyn c (.func g) k1 k2 rfl k4
    | t g =>
      obtain ⟨c,u,k1,k2,k3,k4⟩:=QiP (x:=.t g) (es:=es) gc
      exact dyn c u k1 k2 k3 k4
    | c g =>
      obtain ⟨c,u,k1,k2,k3,k4⟩:=QiP (x:=.c g) (es:=es) gc
      exact dyn c u k1 k2 k3 k4
  obtain ⟨hrep,hcl'⟩:=Qgd R1 hargs has
  refine ⟨fun f _=>hF.fn f, ?_⟩
  rw [Oper.semAt_eq _ _ _ (fun c' h=>by rw [hop] at h;cases h),hexec,Oper.uponIn_enter]
  refine ⟨fun h=>(by rw [hF.dep] at h;cases h),hF.call ?_⟩
  have hi:=inlSt_is hin
  have hrepA:=hrep.app hcaps
  have hvl:(c.args.toList.map a1.eval++us).length=np:=by rw [← hrepA.len,hnp]
  have RC:=inl_enter (px:=0 :: s2.px) R1 hi hrepA (Qow hcl' hcapc) hrf (n1:=fn1.ntmps) (by omega)
  have tA:TabAt (inlWd m1 s2.hp ks W1).lk (inlWd m1 s2.hp ks W1).w:=by
    refine ⟨hT.here R1.bel, ?_⟩
    rintro t ht ⟨k,o,ho,hfz,hm⟩
    rcases R1.lv k o (hi.heap k o ho).2 hfz with g | g
    · exact hT.2 t ht (hm ▸ g)
    · have:=(hT.1 t ht).1;omega
  have hgone':∀ k,k∈ak→p.2.hp k=none:=by
    intro k hk
    have:=List.all_eq_true.1 hgone k hk
    cases hh:p.2.hp k with
    | none=>rfl
    | some o=>rw [hh] at this;cases this
  have key:Calls P f (c.args.toList.map a1.eval++us).toArray W1 (fun e w'=>∃ v m4,e=.returned v∧Rel S0 N w0 m4 ⟨s2.fr,Qfl p.2.hp s1.hp ak,s1.px⟩ a1 w'∧RepA m4 (Qfl p.2.hp s1.hp ak) (Im S0 m4 (Qfl p.2.hp s1.hp ak) w') w' (resA rv) v∧QaS (Qfl p.2.hp s1.hp ak) (resA rv)):=by
    refine callsIn_wide.1 (callsIn_of_wp_marks (n:=0) (F:=Fence.wide) hf hb trivial ?_)
    refine hB _ (inlWd m1 s2.hp ks W1) m1 _ W1 _ (fun k b hb=>(Qi0 hb).1) tA RC ?_
    intro m' a' w' hR'
    have fin : LeavesInM Fence.wide 0 P fn1 a'.tmps (fun e w' => ∃ v m4, e = .returned v ∧ Rel S0 N w0 m4 ⟨s2.fr, Qfl   p.2.hp s1.hp ak, s1.px⟩ a1 w' ∧ RepA m4 (Qfl   p.2.hp s1.hp ak) (Im S0 m4 (Qfl   p.2.hp s1.hp ak) w') w' (resA rv) v ∧ QaS    (Qfl   p.2.hp s1.hp ak) (resA rv)) a'.defers .returning w' →
        bodyPostM Fence.wide 0 P fn1 (fun e w'=>∃ v m4,e=.returned v∧Rel S0 N w0 m4 ⟨s2.fr,Qfl p.2.hp s1.hp ak,s1.px⟩ a1 w'∧RepA m4 (Qfl p.2.hp s1.hp ak) (Im S0 m4 (Qfl p.2.hp s1.hp ak) w') w' (resA rv) v∧QaS (Qfl p.2.hp s1.hp ak) (resA rv)) p.1.out a' w':=by
      intro h1
      cases hp1:p.1 with
      | x id=>rw [hp1] at hfin;cases hfin
      | n=>exact h1
      | r=>exact h1
    refine fin ?_
    refine Qg0 (fn:=fn1) (P:=P) (fun b h=>h) (fun a2 w2 ht R2=>?_) a'.defers a' w' rfl rfl hR'
    obtain ⟨vs',k1,k2,k3⟩:=QjZ R2 hrs hrv
    rw [ht] at k1
    obtain ⟨m4,R4,res⟩:=inl_leave R1 hi hmb R2 hgone'
    refine ⟨_,QiE k1,oneOr vs',m4,rfl,R4, ?_⟩
    refine res (resA rv) (oneOr vs') ?_ ?_
    · cases k2 with
      | nil=>exact .tup _ _ .nil
      | cons y ys v us' hy ht' =>
        cases ht' with
        | nil=>exact hy
        | cons y2 ys2 v2 us2 hy2 ht2=>exact .tup _ _ (.cons _ _ _ _ hy (.cons _ _ _ _ hy2 ht2))
    · match rv,k3 with
      | [],k3=>exact k3
      | [y],k3=>exact k3.1
      | y :: z :: r,k3=>exact k3
  refine key.mono ?_
  rintro e w' ⟨v,m4,rfl,R4,k1,k2⟩
  have R5:=R4.put (dst:=dst) hdN k1 k2
  rw [gd] at R5
  have hpx:=hi.px
  rw [hpx] at hpost
  rw [gd] at hpost
  refine QlG hcl hF hO _ R5 (e2 _ _ hpost) ?_
  intro m6 a6 w6 R6
  exact hK m6 a6 w6 R6
end
end Go.AM

/- Part 17: code, and functions. -/
namespace Go.AM
open Go Go.RowKit

theorem Ex.out_noGoto {Q:Exit→Act→World→Prop} {e:Ex} {a:Act} {w:World} (h:Q e.out a w):Exit.noGoto Q e.out a w:=by cases e<;>exact h

theorem QkO (P:Program):∀ c:Code,(∀ vs ks,QaX P c≠some (.keep vs ks))∧∀ v,QaX P c≠some (.frz v)
  | .scope c=>by
    constructor
    · intro vs ks h
      exact (QkO P c).1 vs ks (Qjo (show Qen P c=_ from h) (by simp [QfI]))
    · intro v h
      exact (QkO P c).2 v (Qjo (show Qen P c=_ from h) (by simp [QfI]))
  | .skip | .exit _ | .goto _ | .label _ | .ret | .refuse _=>by simp [QaX]
  | .rangeFunc f ps x y=>by
    constructor
    · intro vs ks h
      simp only [QaX,Option.bind_eq_some_iff] at h
      obtain ⟨_,_,_,_,_,_,h⟩:=h
      split at h<;>cases h
    · intro v h
      simp only [QaX,Option.bind_eq_some_iff] at h
      obtain ⟨_,_,_,_,_,_,h⟩:=h
      split at h<;>cases h
  | .region id ops draw=>by
    constructor
    · intro vs ks h
      simp only [QaX,Option.bind_eq_some_iff] at h
      obtain ⟨os,_,h⟩:=h
      split at h
      · split at h
        · simp at h
        · cases h
      · simp at h
    · intro v h
      simp only [QaX,Option.bind_eq_some_iff] at h
      obtain ⟨os,_,h⟩:=h
      split at h
      · split at h
        · simp at h
        · cases h
      · simp at h
  | .seq a b=>by constructor<;>intros<;>simp [QaX,Option.bind_eq_some_iff]
  | .cond x a b=>by constructor<;>intros<;>simp [QaX,Option.bind_eq_some_iff]
  | .block id c=>by constructor<;>intros<;>simp [QaX,Option.bind_eq_some_iff]
  | .loop c=>by constructor<;>intros<;>simp [QaX,Option.bind_eq_some_iff]

theorem er_seq (x y:C):(∃ vs ks,y=.keep vs ks∧(C.seq x y).er=x.er)∨(∃ vs ks,x=.keep vs ks∧(C.seq x y).er=y.er)∨(∃ v,y=.frz v∧(C.seq x y).er=x.er)∨(∃ v,x=.frz v∧(C.seq x y).er=y.er)∨(C.seq x y).er=.seq x.er y.er:=by
  cases y<;>first
    | exact .inl ⟨_,_,rfl,rfl⟩
    | (cases x <;> first
        | exact .inr (.inl ⟨_,_,rfl,rfl⟩)
        | exact .inr (.inr (.inl ⟨_,rfl,rfl⟩))
        | exact .inr (.inr (.inr (.inl ⟨_,rfl,rfl⟩)))
        | exact .inr (.inr (.inr (.inr rfl))))

section
variable {S0:Nat→Prop} {N:Nat} {w0:Wd} {P:Program} {F:Fence} {n:Nat} {cl:Cl} {it:It}

theorem QiZ:∀ (c:C),c.er=QfI→∀ (j:Nat) (st:St),run it cl j c st=none
 | _,_,0,_=>rfl
 | .cond x y z,h,j+1,st=>by
  simp only [C.er,QfI,C.cond.injEq] at h
  obtain ⟨rfl,_,_⟩:=h
  rfl
 | .seq x y,h,j+1,st=>by
  rcases er_seq x y with ⟨vs,ks,rfl,he⟩ | ⟨vs,ks,rfl,he⟩ | ⟨v,rfl,he⟩ | ⟨v,rfl,he⟩ | he
  ·rw [he] at h
   simp only [run,QiZ x h j st,Option.bind_none]
  ·rw [he] at h
   simp only [run]
   cases hq:run it cl j (.keep vs ks) st with
   | none=>rfl
   | some p =>
    obtain ⟨e,s⟩:=p
    have:e=.n:=by
     cases j with
     | zero=>cases hq
     | succ j =>
      simp only [run,Option.map_eq_some_iff,Prod.mk.injEq] at hq
      obtain ⟨_,_,h1,_⟩:=hq
      exact h1.symm
    subst this
    simp only [Option.bind_some,if_true,QiZ y h j s]
  ·rw [he] at h
   simp only [run,QiZ x h j st,Option.bind_none]
  ·rw [he] at h
   simp only [run]
   cases hq:run it cl j (.frz v) st with
   | none=>rfl
   | some p =>
    obtain ⟨e,s⟩:=p
    have:e=.n:=by
     cases j with
     | zero=>cases hq
     | succ j =>
      simp only [run,Option.map_eq_some_iff,Prod.mk.injEq] at hq
      obtain ⟨_,_,h1,_⟩:=hq
      exact h1.symm
    subst this
    simp only [Option.bind_some,if_true,QiZ y h j s]
  ·rw [he] at h;simp only [QfI,reduceCtorEq] at h
 | .skip,h,_+1,_ | .reg ..,h,_+1,_ | .blk ..,h,_+1,_ | .loop _,h,_+1,_ | .exit _,h,_+1,_ | .ret,h,_+1,_ | .keep ..,h,_+1,_ | .frz _,h,_+1,_ | .rfn ..,h,_+1,_ | .inl ..,h,_+1,_=>by simp only [C.er,QfI,reduceCtorEq] at h
def Mode (F:Fence) (w0:Wd) (ks:List Key) (c:C):Prop:=(∀ k b,w0.mb k=some b→k∈ks)∧(c.holds ks=true∨(F=Fence.wide∧(∀ k,w0.mb k=none)∧(∀ b,w0.w.heap.size≤b→w0.dn b)))∧TabAt w0.lk w0.w
def InlN (P:Program) (L:List Nat) (f:Nat) (cb:C) (rs:List RV) (np:Nat):Prop:=f∈L∧∃ fn b,P.funcs[f]?=some fn∧fn.body=some b∧okI L b=true∧QlH P fn=some ⟨np,cb.er,rs⟩
def Qhq (P:Program) (L:List Nat):C→Prop
 | .seq a b=>Qhq P L a∧Qhq P L b
 | .cond _ a b=>Qhq P L a∧Qhq P L b
 | .blk _ c | .loop c=>Qhq P L c
 | .rfn _ _ a b _ _=>Qhq P L a∧Qhq P L b
 | .inl _ _ _ _ f cb rs np _ _ _ _=>InlN P L f cb rs np∧Qhq P L cb
 | _=>True
def IM (P:Program) (L:List Nat) (c:C) (code:Code):Prop:=Qhq P L c∧(L=[]∨okI L code=true)
def C.noInl:C→Bool
 | .seq a b=>a.noInl&&b.noInl
 | .cond _ a b=>a.noInl&&b.noInl
 | .blk _ c | .loop c=>c.noInl
 | .rfn _ _ a b _ _=>a.noInl&&b.noInl
 | .inl ..=>false
 | _=>true
theorem QdD {P:Program} {L:List Nat}:∀ {c:C},c.noInl=true→Qhq P L c
 | .seq a b,h=>by simp only [C.noInl,Bool.and_eq_true] at h;exact ⟨QdD h.1,QdD h.2⟩
 | .cond _ a b,h=>by simp only [C.noInl,Bool.and_eq_true] at h;exact ⟨QdD h.1,QdD h.2⟩
 | .blk _ c,h=>QdD (c:=c) h
 | .loop c,h=>QdD (c:=c) h
 | .rfn _ _ a b _ _,h=>by simp only [C.noInl,Bool.and_eq_true] at h;exact ⟨QdD h.1,QdD h.2⟩
 | .inl ..,h=>by cases h
 | .skip,_ | .reg ..,_ | .exit _,_ | .ret,_ | .keep ..,_ | .frz _,_=>trivial
def Owes (P:Program) (it:It) (cl:Cl) (j:Nat):Prop :=
 ∀ (N:Nat) (F:Fence),FOk F→∀ (n:Nat) (S0:Nat→Prop) (w0:Wd) (ks:List Key) (L:List Nat) (c:C) (code:Code) (Q:Exit→Act→World→Prop) (m:Key→Nat) (st:St) (a:Act) (w:World) (e:Ex) (s:St),Mode F w0 ks c→IM P L c code→Qen P code=some c.er→c.er.within N=true→run it cl j c st=some (e,s)→Rel S0 N w0 m st a w →
  (∀ m' a' w',Rel S0 N w0 m' s a' w'→Q e.out a' w')→code.wpIn F n P Q a w
theorem Mode.left {F:Fence} {w0:Wd} {ks:List Key} {c d e:C} (h:Mode F w0 ks c) (hc:c.holds ks=(d.holds ks&&e.holds ks)):Mode F w0 ks d :=
 ⟨h.1,h.2.1.elim (fun g=>.inl (by rw [hc,Bool.and_eq_true] at g;exact g.1)) .inr,h.2.2⟩
theorem Mode.right {F:Fence} {w0:Wd} {ks:List Key} {c d e:C} (h:Mode F w0 ks c) (hc:c.holds ks=(d.holds ks&&e.holds ks)):Mode F w0 ks e :=
 ⟨h.1,h.2.1.elim (fun g=>.inl (by rw [hc,Bool.and_eq_true] at g;exact g.2)) .inr,h.2.2⟩
theorem Mode.keep {F:Fence} {w0:Wd} {ks ks':List Key} {vs:List Nat} (h:Mode F w0 ks (.keep vs ks')):∀ k b,w0.mb k=some b→k∈ks':=by
 intro k b hb
 rcases h.2.1 with g | g
 ·simp only [C.holds,List.all_eq_true] at g
  exact isIn_mem.1 (g k (h.1 k b hb))
 ·rw [g.2.1] at hb;cases hb

theorem QmI (hmix:P.follows .mixedOrders=true) (hcl:∀ f ds r,cl f ds=some r→CallOk P f ds r) (hit:∀ f ds xs,it f ds=some xs→ItOk P f ds xs):∀ j,Owes P it cl j:=by
  intro j
  induction j using Nat.strongRecOn with
  | _ j ih =>
  cases j with
  | zero=>intro N F hF n S0 w0 ks L c code Q m st a w e s _ _ _ _ h;simp [run] at h
  | succ j =>
  have ihj:Owes P it cl j:=ih j (Nat.lt_succ_self j)
  intro N F hF n S0 w0 ks L c code Q m st a w e s hmd him hc hlt hrun hR hK
  -- the scopes around
  refine QjO code ?_
  rw [← Qiu] at hc
  have hnf:c.er≠QfI:=fun h=>by rw [QiZ c h] at hrun;cases hrun
  have hc0:=hc
  replace hc:=Qjo hc hnf
  have hns:=QnL code
  replace him:IM P L c (Qj5 code):=⟨him.1,by rw [Qom];exact him.2⟩
  generalize Qj5 code=code at hc hc0 hns him
  replace hK:∀ m' a' w',Rel S0 N w0 m' s a' w'→Exit.noGoto Q e.out a' w':=fun m' a' w' h=>Ex.out_noGoto (hK m' a' w' h)
  generalize Exit.noGoto Q=Q at hK
  cases c with
  | skip =>
    simp only [run,Option.some.injEq,Prod.mk.injEq] at hrun
    obtain ⟨rfl,rfl⟩:=hrun
    cases code<;>simp only [QaX,C.er,Option.some.injEq,reduceCtorEq,Option.bind_eq_some_iff,Option.map_eq_some_iff,and_false,exists_false] at hc
    case skip=>exact wpIn_skip (hK m a w hR)
    case label l=>exact wpIn_label (hK m a w hR)
    case scope d=>exact absurd rfl (hns d)
    case rangeFunc=>first | (obtain ⟨_,_,_,_,_,_,hc⟩:=hc;split at hc<;>simp at hc) | (simp only [QaX,Option.bind_eq_some_iff] at hc;obtain ⟨_,_,_,_,_,_,hc⟩:=hc;split at hc<;>simp at hc)
    case region id ops draw =>
      obtain ⟨os,_,hc⟩:=hc
      split at hc
      · split at hc
        · simp at hc
        · cases hc
      · simp at hc
  | reg os ck =>
    simp only [run,Option.bind_eq_some_iff] at hrun
    obtain ⟨fin,he,hrun⟩:=hrun
    obtain ⟨hck,hrun⟩:=Qaf hrun
    simp only [Option.some.injEq,Prod.mk.injEq] at hrun
    obtain ⟨rfl,rfl⟩:=hrun
    cases code<;>simp only [C.er] at hc
    case region id ops draw=>exact Qpb hmix (fun f ds r h=>(hcl f ds r h).at hmd.2.2) hF hc (by simpa only [C.er,C.within] using hlt) hR he hck hK
    case scope d=>exact absurd rfl (hns d)
    case rangeFunc=>first | (obtain ⟨_,_,_,_,_,_,hc⟩:=hc;split at hc<;>simp at hc) | (simp only [QaX,Option.bind_eq_some_iff] at hc;obtain ⟨_,_,_,_,_,_,hc⟩:=hc;split at hc<;>simp at hc)
    all_goals simp [QaX,Option.bind_eq_some_iff] at hc
  | seq x y =>
    have seqC:∀ u v,Mode F w0 ks u→Mode F w0 ks v→Qhq P L u→Qhq P L v→QaX P code=some (C.seq u.er v.er)→(C.seq u.er v.er).within N=true→run it cl (j+1) (.seq u v) st=some (e,s)→code.wpIn F n P Q a w:=by
      intro u v md1 md2 im1 im2 hc1 hlt1 hrun1
      have him2:=him.2
      simp only [run,Option.bind_eq_some_iff] at hrun1
      obtain ⟨⟨e1,s1⟩,h1,hrun1⟩:=hrun1
      simp only [C.within,Bool.and_eq_true] at hlt1
      cases code<;>simp only [QaX,reduceCtorEq,Option.bind_eq_some_iff,Option.map_eq_some_iff,and_false,exists_false,Option.some.injEq,C.seq.injEq] at hc1
      case seq ca cb =>
        obtain ⟨x',hx,y',hy,rfl,rfl⟩:=hc1
        have oka:L=[]∨okI L ca=true:=him2.imp id fun h=>by simp only [okI,Bool.and_eq_true] at h;exact h.1
        have okb:L=[]∨okI L cb=true:=him2.imp id fun h=>by simp only [okI,Bool.and_eq_true] at h;exact h.2
        refine wpIn_seq (ihj N F hF n S0 w0 ks L u ca _ m st a w e1 s1 md1 ⟨im1,oka⟩ hx hlt1.1 h1 hR fun m' a' w' hR'=>?_)
        cases e1 with
        | n =>
          simp only [if_true] at hrun1
          exact ihj N F hF n S0 w0 ks L v cb Q m' s1 a' w' e s md2 ⟨im2,okb⟩ hy hlt1.2 hrun1 hR' hK
        | x id =>
          simp only [reduceCtorEq,if_false,Option.some.injEq,Prod.mk.injEq] at hrun1
          obtain ⟨rfl,rfl⟩:=hrun1
          exact hK m' a' w' hR'
        | r =>
          simp only [reduceCtorEq,if_false,Option.some.injEq,Prod.mk.injEq] at hrun1
          obtain ⟨rfl,rfl⟩:=hrun1
          exact hK m' a' w' hR'
      case scope d=>exact absurd rfl (hns d)
      case rangeFunc=>obtain ⟨_,_,_,_,_,_,hc1⟩:=hc1;split at hc1<;>simp at hc1
      case region id ops draw =>
        obtain ⟨os,_,hc1⟩:=hc1
        split at hc1
        · split at hc1
          · simp at hc1
          · cases hc1
        · simp at hc1
    -- a remark behind
    have behind:∀ (x y:C),Mode F w0 ks x→Qhq P L x→(∀ (m':Key→Nat) (s1:St) (a':Act) (w':World) (e:Ex) (s:St),Rel S0 N w0 m' s1 a' w'→run it cl j y s1=some (e,s)→e=.n∧Rel S0 N w0 m' s a' w')→Qen P code=some x.er→x.er.within N=true→run it cl (j+1) (.seq x y) st=some (e,s)→code.wpIn F n P Q a w:=by
      intro x y md im hy hc hlt hrun
      simp only [run,Option.bind_eq_some_iff] at hrun
      obtain ⟨⟨e1,s1⟩,h1,hrun⟩:=hrun
      refine ihj N F hF n S0 w0 ks L x code Q m st a w e1 s1 md ⟨im,him.2⟩ hc hlt h1 hR fun m' a' w' hR'=>?_
      cases e1 with
      | n =>
        simp only [if_true] at hrun
        obtain ⟨rfl,hR2⟩:=hy m' s1 a' w' e s hR' hrun
        exact hK m' a' w' hR2
      | x id =>
        simp only [reduceCtorEq,if_false,Option.some.injEq,Prod.mk.injEq] at hrun
        obtain ⟨rfl,rfl⟩:=hrun
        exact hK m' a' w' hR'
      | r =>
        simp only [reduceCtorEq,if_false,Option.some.injEq,Prod.mk.injEq] at hrun
        obtain ⟨rfl,rfl⟩:=hrun
        exact hK m' a' w' hR'
    have inFront:∀ (x y:C),Mode F w0 ks y→Qhq P L y→(∀ (m':Key→Nat) (s1:St) (a':Act) (w':World) (e:Ex) (s:St),Rel S0 N w0 m' s1 a' w'→run it cl j x s1=some (e,s)→e=.n∧Rel S0 N w0 m' s a' w')→Qen P code=some y.er→y.er.within N=true→run it cl (j+1) (.seq x y) st=some (e,s)→code.wpIn F n P Q a w:=by
      intro x y md im hx hc hlt hrun
      simp only [run,Option.bind_eq_some_iff] at hrun
      obtain ⟨⟨e1,s1⟩,h1,hrun⟩:=hrun
      obtain ⟨rfl,hR2⟩:=hx m st a w e1 s1 hR h1
      simp only [if_true] at hrun
      exact ihj N F hF n S0 w0 ks L y code Q m s1 a w e s md ⟨im,him.2⟩ hc hlt hrun hR2 hK
    have hkeep:∀ vs ks',Mode F w0 ks (.keep vs ks')→∀ (m':Key→Nat) (s1:St) (a':Act) (w':World) (e:Ex) (s:St),Rel S0 N w0 m' s1 a' w'→run it cl j (.keep vs ks') s1=some (e,s)→e=.n∧Rel S0 N w0 m' s a' w':=by
      intro vs ks' md m' s1 a' w' e s hR' h
      cases j with
      | zero=>simp [run] at h
      | succ j =>
        simp only [run,Option.map_eq_some_iff,Prod.mk.injEq] at h
        obtain ⟨s2,h2,rfl,rfl⟩:=h
        exact ⟨rfl,hR'.keep md.keep h2⟩
    have hfrz:∀ v (m':Key→Nat) (s1:St) (a':Act) (w':World) (e:Ex) (s:St),Rel S0 N w0 m' s1 a' w'→run it cl j (.frz v) s1=some (e,s)→e=.n∧Rel S0 N w0 m' s a' w':=by
      intro v m' s1 a' w' e s hR' h
      cases j with
      | zero=>simp [run] at h
      | succ j =>
        simp only [run,Option.map_eq_some_iff,Prod.mk.injEq] at h
        obtain ⟨s2,h2,rfl,rfl⟩:=h
        exact ⟨rfl,hR'.frz h2⟩
    rcases er_seq x y with ⟨vs,ks',rfl,he⟩ | ⟨vs,ks',rfl,he⟩ | ⟨v,rfl,he⟩ | ⟨v,rfl,he⟩ | he<;>rw [he] at hc hc0 hlt
    · exact behind _ _ (hmd.left rfl) him.1.1 (hkeep _ _ (hmd.right rfl)) hc0 hlt hrun
    · exact inFront _ _ (hmd.right rfl) him.1.2 (hkeep _ _ (hmd.left rfl)) hc0 hlt hrun
    · exact behind _ _ (hmd.left rfl) him.1.1 (hfrz _) hc0 hlt hrun
    · exact inFront _ _ (hmd.right rfl) him.1.2 (hfrz _) hc0 hlt hrun
    · exact seqC _ _ (hmd.left rfl) (hmd.right rfl) him.1.1 him.1.2 hc hlt hrun
  | cond x y z =>
    simp only [run,Option.bind_eq_some_iff] at hrun
    obtain ⟨v,hv,t,ht,hrun⟩:=hrun
    simp only [C.er,C.within,Bool.and_eq_true] at hlt
    cases code<;>simp only [QaX,C.er,reduceCtorEq,Option.bind_eq_some_iff,Option.map_eq_some_iff,and_false,exists_false,Option.some.injEq,C.cond.injEq] at hc
    case cond co ca cb =>
      obtain ⟨e',he,x',hx,y',hy,rfl,rfl,rfl⟩:=hc
      obtain rfl:=bool?_some ht
      have hev:=QfB (hR.ev he hv)
      refine wpIn_cond hev ?_
      cases t with
      | true=>exact ihj N F hF n S0 w0 ks L y ca Q m st a w e s (hmd.left rfl) ⟨him.1.1,him.2.imp id fun h=>by simp only [okI,Bool.and_eq_true] at h;exact h.1⟩ hx hlt.1 (by simpa using hrun) hR hK
      | false=>exact ihj N F hF n S0 w0 ks L z cb Q m st a w e s (hmd.right rfl) ⟨him.1.2,him.2.imp id fun h=>by simp only [okI,Bool.and_eq_true] at h;exact h.2⟩ hy hlt.2 (by simpa using hrun) hR hK
    case scope d=>exact absurd rfl (hns d)
    case rangeFunc=>first | (obtain ⟨_,_,_,_,_,_,hc⟩:=hc;split at hc<;>simp at hc) | (simp only [QaX,Option.bind_eq_some_iff] at hc;obtain ⟨_,_,_,_,_,_,hc⟩:=hc;split at hc<;>simp at hc)
    case region id ops draw =>
      obtain ⟨os,_,hc⟩:=hc
      split at hc
      · split at hc
        · simp at hc
        · cases hc
      · simp at hc
  | blk id c =>
    simp only [run,Option.map_eq_some_iff] at hrun
    obtain ⟨⟨e1,s1⟩,h1,hrun⟩:=hrun
    simp only [C.er,C.within] at hlt
    cases code<;>simp only [QaX,C.er,reduceCtorEq,Option.bind_eq_some_iff,Option.map_eq_some_iff,and_false,exists_false,Option.some.injEq,C.blk.injEq] at hc
    case block id' c' =>
      obtain ⟨x',hx,rfl,rfl⟩:=hc
      refine wpIn_block (ihj N F hF n S0 w0 ks L c c' _ m st a w e1 s1 hmd ⟨him.1,him.2.imp id fun h=>by simpa only [okI] using h⟩ hx hlt h1 hR fun m' a' w' hR'=>?_)
      cases e1 with
      | n =>
        simp only [reduceCtorEq,if_false,Prod.mk.injEq] at hrun
        obtain ⟨rfl,rfl⟩:=hrun
        exact hK m' a' w' hR'
      | x i =>
        simp only [Ex.x.injEq] at hrun
        simp only [Ex.out,Exit.inBlock]
        split at hrun
        · rename_i hi
          simp only [Prod.mk.injEq] at hrun
          obtain ⟨rfl,rfl⟩:=hrun
          rw [if_pos hi]
          exact hK m' a' w' hR'
        · rename_i hi
          simp only [Prod.mk.injEq] at hrun
          obtain ⟨rfl,rfl⟩:=hrun
          rw [if_neg hi]
          exact hK m' a' w' hR'
      | r =>
        simp only [reduceCtorEq,if_false,Prod.mk.injEq] at hrun
        obtain ⟨rfl,rfl⟩:=hrun
        exact hK m' a' w' hR'
    case scope d=>exact absurd rfl (hns d)
    case rangeFunc=>first | (obtain ⟨_,_,_,_,_,_,hc⟩:=hc;split at hc<;>simp at hc) | (simp only [QaX,Option.bind_eq_some_iff] at hc;obtain ⟨_,_,_,_,_,_,hc⟩:=hc;split at hc<;>simp at hc)
    case region id ops draw =>
      obtain ⟨os,_,hc⟩:=hc
      split at hc
      · split at hc
        · simp at hc
        · cases hc
      · simp at hc
  | loop c =>
    simp only [C.er,C.within] at hlt
    cases code<;>simp only [QaX,C.er,reduceCtorEq,Option.bind_eq_some_iff,Option.map_eq_some_iff,and_false,exists_false,Option.some.injEq,C.loop.injEq] at hc
    case loop c' =>
      obtain ⟨x',hx,rfl⟩:=hc
      refine QlW (fun i a w=>i≤j+1∧∃ m st,Rel S0 N w0 m st a w∧run it cl i (.loop c) st=some (e,s)) (j:=j+1) ⟨Nat.le_refl _,m,st,hR,hrun⟩ ?_
      rintro i a w ⟨hi,m,st,hR,hrun⟩
      cases i with
      | zero=>simp [run] at hrun
      | succ i =>
        simp only [run,Option.bind_eq_some_iff] at hrun
        obtain ⟨⟨e1,s1⟩,h1,hrun⟩:=hrun
        refine ih i (by omega) N F hF n S0 w0 ks L c c' _ m st a w e1 s1 hmd ⟨him.1,him.2.imp id fun h=>by simpa only [okI] using h⟩ hx hlt h1 hR fun m' a' w' hR'=>?_
        cases e1 with
        | n =>
          simp only [if_true] at hrun
          exact ⟨i,Nat.lt_succ_self i,by omega,m',s1,hR',hrun⟩
        | x id =>
          simp only [reduceCtorEq,if_false,Option.some.injEq,Prod.mk.injEq] at hrun
          obtain ⟨rfl,rfl⟩:=hrun
          exact hK m' a' w' hR'
        | r =>
          simp only [reduceCtorEq,if_false,Option.some.injEq,Prod.mk.injEq] at hrun
          obtain ⟨rfl,rfl⟩:=hrun
          exact hK m' a' w' hR'
    case scope d=>exact absurd rfl (hns d)
    case rangeFunc=>first | (obtain ⟨_,_,_,_,_,_,hc⟩:=hc;split at hc<;>simp at hc) | (simp only [QaX,Option.bind_eq_some_iff] at hc;obtain ⟨_,_,_,_,_,_,hc⟩:=hc;split at hc<;>simp at hc)
    case region id ops draw =>
      obtain ⟨os,_,hc⟩:=hc
      split at hc
      · split at hc
        · simp at hc
        · cases hc
      · simp at hc
  | exit id =>
    simp only [run,Option.some.injEq,Prod.mk.injEq] at hrun
    obtain ⟨rfl,rfl⟩:=hrun
    cases code<;>simp only [QaX,C.er,reduceCtorEq,Option.bind_eq_some_iff,Option.map_eq_some_iff,and_false,exists_false,Option.some.injEq,C.exit.injEq] at hc
    case exit id'=>subst hc;exact wpIn_exit (hK m a w hR)
    case scope d=>exact absurd rfl (hns d)
    case rangeFunc=>first | (obtain ⟨_,_,_,_,_,_,hc⟩:=hc;split at hc<;>simp at hc) | (simp only [QaX,Option.bind_eq_some_iff] at hc;obtain ⟨_,_,_,_,_,_,hc⟩:=hc;split at hc<;>simp at hc)
    case region id ops draw =>
      obtain ⟨os,_,hc⟩:=hc
      split at hc
      · split at hc
        · simp at hc
        · cases hc
      · simp at hc
  | ret =>
    simp only [run,Option.some.injEq,Prod.mk.injEq] at hrun
    obtain ⟨rfl,rfl⟩:=hrun
    cases code<;>simp only [QaX,C.er,reduceCtorEq,Option.bind_eq_some_iff,Option.map_eq_some_iff,and_false,exists_false,Option.some.injEq] at hc
    case ret=>exact wpIn_ret (hK m a w hR)
    case scope d=>exact absurd rfl (hns d)
    case rangeFunc=>first | (obtain ⟨_,_,_,_,_,_,hc⟩:=hc;split at hc<;>simp at hc) | (simp only [QaX,Option.bind_eq_some_iff] at hc;obtain ⟨_,_,_,_,_,_,hc⟩:=hc;split at hc<;>simp at hc)
    case region id ops draw =>
      obtain ⟨os,_,hc⟩:=hc
      split at hc
      · split at hc
        · simp at hc
        · cases hc
      · simp at hc
  | rfn x ps u v vs ks' =>
    simp only [run,Option.bind_eq_some_iff] at hrun
    obtain ⟨y,hy,⟨gf,caps⟩,hfn,xs,hxs,s1,hks,hrun⟩:=hrun
    obtain ⟨hg,hrun⟩:=Qaf hrun
    simp only [Bool.and_eq_true] at hg
    obtain ⟨⟨hpl,hu⟩,hv⟩:=hg
    obtain ⟨hwide,hmbn,hdn⟩:F=Fence.wide∧(∀ k,w0.mb k=none)∧(∀ b,w0.w.heap.size≤b→w0.dn b):=by
      rcases hmd.2.1 with g | g
      · cases g
      · exact g
    subst hwide
    cases code<;>simp only [QaX,C.er,reduceCtorEq,Option.bind_eq_some_iff,Option.map_eq_some_iff,and_false,exists_false,Option.some.injEq] at hc
    case rangeFunc g ps' ca cb =>
      obtain ⟨x',hx,cu,hcu,cv,hcv,hc⟩:=hc
      split at hc
      · simp only [Option.some.injEq,C.rfn.injEq,and_true] at hc
        obtain ⟨rfl,rfl,rfl,rfl⟩:=hc
        simp only [C.er,C.within,Bool.and_eq_true,List.all_eq_true,decide_eq_true_eq] at hlt
        refine rfn_sound (f:=run it cl j) (asg:=u) (body:=v) (ks:=ks') hmd.2.2 hR hmbn (hdn _ hR.bel.size) hx hy hfn (hit _ _ _ hxs) hks hpl (fun p hp=>hlt.1.1 p hp) ?_ ?_ hrun hK
        · intro F' hF' n' S0' w0' Q' m' st' a' w' e' s' hk' hT' hr' hR' hK'
          exact ihj N F' hF' n' S0' w0' ks' L u ca Q' m' st' a' w' e' s' ⟨hk',.inl hu,hT'⟩ ⟨him.1.1,him.2.imp id fun h=>by simp only [okI,Bool.and_eq_true] at h;exact h.1⟩ hcu hlt.1.2 hr' hR' hK'
        · intro F' hF' n' S0' w0' Q' m' st' a' w' e' s' hk' hT' hr' hR' hK'
          exact ihj N F' hF' n' S0' w0' ks' L v cb Q' m' st' a' w' e' s' ⟨hk',.inl hv,hT'⟩ ⟨him.1.2,him.2.imp id fun h=>by simp only [okI,Bool.and_eq_true] at h;exact h.2⟩ hcv hlt.2 hr' hR' hK'
      · cases hc
    case scope d=>exact absurd rfl (hns d)
    case region id ops draw =>
      obtain ⟨os,_,hc⟩:=hc
      split at hc
      · split at hc
        · simp at hc
        · cases hc
      · simp at hc
  | inl pre dst x es f cb rs np post vs ks' ak =>
    simp only [run,Option.bind_eq_some_iff] at hrun
    obtain ⟨s1,h1,av,hx,⟨f',caps⟩,hq,as,has,hrun⟩:=hrun
    obtain ⟨⟨hff,hnp,hrf,hcb⟩,hrun2⟩:=Qaf hrun
    clear hrun
    dsimp only at hff hnp hrf hrun2
    subst hff
    simp only [Option.bind_eq_some_iff] at hrun2
    obtain ⟨s2,hin,p,hpr,hrun3⟩:=hrun2
    obtain ⟨⟨hfin,hgone⟩,hrun4⟩:=Qaf hrun3
    clear hrun3
    simp only [Option.bind_eq_some_iff,Option.map_eq_some_iff,Prod.mk.injEq] at hrun4
    obtain ⟨rv,hrv,fin,hpost,rfl,rfl⟩:=hrun4
    obtain ⟨⟨hfL,fn1,body,hf,hbd,hokb,hcf⟩,himcb⟩:=him.1
    have hLne:L≠[]:=fun h=>by rw [h] at hfL;cases hfL
    have hokc:=him.2.resolve_left hLne
    simp only [QlH,Option.bind_eq_some_iff] at hcf
    obtain ⟨b',hb',c',hcc',hcf⟩:=hcf
    rw [hbd] at hb'
    cases hb'
    split at hcf
    · rename_i hchk
      simp only [Bool.and_eq_true,decide_eq_true_eq,bne_iff_ne,ne_eq] at hchk
      obtain ⟨⟨hw1,hsz1⟩,hname1⟩:=hchk
      simp only [Option.map_eq_some_iff,CF.mk.injEq] at hcf
      obtain ⟨rs',hrs',hnp',hc'e,hrs''⟩:=hcf
      subst hrs''
      have hc'e':c'=cb.er:=hc'e
      subst hc'e'
      cases code<;>simp only [C.er] at hc
      case region id ops draw =>
        simp only [QaX,Option.bind_eq_some_iff] at hc
        obtain ⟨os',hos,hc⟩:=hc
        have hosE:os'=(pre++(⟨dst,QkC x es,none⟩:O) :: post).map O.er:=by
          split at hc
          · split at hc
            · simp only [Option.map_eq_some_iff,C.reg.injEq] at hc
              obtain ⟨_,_,e1,_⟩:=hc;exact e1
            · cases hc
          · simp only [Option.some.injEq,C.reg.injEq] at hc;exact hc.1
        subst hosE
        have hlt':((pre++(⟨dst,QkC x es,none⟩:O) :: post).map O.er).all (O.within N)=true:=by simpa only [C.er,C.within] using hlt
        have hdraw:draw=false:=by
          cases draw with
          | false=>rfl
          | true =>
            exfalso
            simp only [okI,Bool.not_true,Bool.false_or,List.all_eq_true] at hokc
            have hO:=Qok (N:=N) hos hlt'
            have hlen:=hO.len
            simp only [List.length_append,List.length_cons] at hlen
            have hi:pre.length<ops.size:=by omega
            obtain ⟨o,hoo⟩:∃ o,ops[pre.length]?=some o:=⟨ops[pre.length],by simp [hi]⟩
            obtain ⟨o2,g2,gc,_,_⟩:=hO.at_ pre.length o hoo
            have:(pre++(⟨dst,QkC x es,none⟩:O) :: post)[pre.length]?=some ⟨dst,QkC x es,none⟩:=by simp
            rw [this] at g2
            cases g2
            have hmem:=hokc o (Array.mem_toList_iff.2 (Array.mem_of_getElem? hoo))
            have clos:∀ c u,o.op=.call c→c.callee=.value u→QaH u=some x→False:=by
              intro c u hop hce hxu
              rw [hop] at hmem
              simp only [hce] at hmem
              cases u with
              | func g =>
                simp only [QaH,Option.some.injEq] at hxu
                subst hxu
                simp only [E.ev,Option.some.injEq] at hx
                subst hx
                simp only [calA,List.map_nil,Option.some.injEq,Prod.mk.injEq] at hq
                obtain ⟨rfl,rfl⟩:=hq
                simp only [Bool.not_eq_true'] at hmem
                rw [List.contains_iff_mem.2 hfL] at hmem
                cases hmem
              | _=>cases hmem
            cases x with
            | f g =>
              obtain ⟨c,k1,k2,_,_⟩:=QqU (f:=g) (es:=es) (b:=false) gc
              exact clos c (.func g) k1 k2 rfl
            | t g =>
              obtain ⟨c,u,k1,k2,k3,_⟩:=QiP (x:=.t g) (es:=es) gc
              exact clos c u k1 k2 k3
            | c g =>
              obtain ⟨c,u,k1,k2,k3,_⟩:=QiP (x:=.c g) (es:=es) gc
              exact clos c u k1 k2 k3
        subst hdraw
        have hmbk:∀ k b,w0.mb k=some b→k∈ks':=by
          intro k b hb
          rcases hmd.2.1 with g | g
          · simp only [C.holds,List.all_eq_true] at g
            exact isIn_mem.1 (g k (hmd.1 k b hb))
          · rw [g.2.1] at hb;cases hb
        refine Qr4 (fun f ds r h=>(hcl f ds r h).at hmd.2.2) hF hos hlt' hmbk hmd.2.2 hR h1 hx hq has hnp hrf hin hf hbd hname1 (by omega) hrs' ?_ hfin hgone hrv hpost hK
        intro S1 w1 m1 a1 W1 Q1 hk1 hT1 R1 hK1
        exact ihj fn1.ntmps Fence.wide wide_ok 0 S1 w1 ks' L cb body Q1 m1 _ a1 W1 p.1 p.2 ⟨hk1,.inl hcb,hT1⟩ ⟨himcb,.inr hokb⟩ hcc' hw1 hpr R1 hK1
      case scope d=>exact absurd rfl (hns d)
      case rangeFunc=>first | (obtain ⟨_,_,_,_,_,_,hc⟩:=hc;split at hc<;>simp at hc) | (simp only [QaX,Option.bind_eq_some_iff] at hc;obtain ⟨_,_,_,_,_,_,hc⟩:=hc;split at hc<;>simp at hc)
      all_goals simp [QaX,Option.bind_eq_some_iff] at hc
    · cases hcf
  | keep vs ks=>exact absurd hc ((QkO P code).1 vs ks)
  | frz v=>exact absurd hc ((QkO P code).2 v)
end
end Go.AM

/- Part 18: functions. -/
namespace Go.AM
open Go Go.RowKit

structure EnvOk (P:Program) (Γ:Env):Prop where
 mix:P.follows .mixedOrders=true
 ft:∀ f cf,Γ.ft f=some cf→∃ fn L,P.funcs[f]?=some fn∧QlH P fn=some cf.er∧Qhq P L cf.body∧(L=[]∨∀ b,fn.body=some b→okI L b=true)
 orc:∀ f ds r,Γ.ft f=none→Γ.orc f ds=some r→CallOk P f ds r
 it:∀ f ds xs,Γ.it f ds=some xs→ItOk P f ds xs

theorem Qi4:∀ (ds:List D) (i:Nat),(∀ j x,argF i ds j=some x→i≤j∧∃ d,ds[j-i]?=some d∧x=.d d)
 | [],i,j,x,h=>by simp [argF,fr0] at h
 | d :: r,i,j,x,h=>by
  simp only [argF,upd,updO] at h
  split at h
  ·rename_i e
   subst e
   cases h
   exact ⟨Nat.le_refl _,d,by simp,rfl⟩
  ·rename_i e
   obtain ⟨h1,d',h2,h3⟩:=Qi4 r (i+1) j x h
   refine ⟨by omega,d', ?_,h3⟩
   rw [show j-i=(j-(i+1))+1 by omega]
   simpa using h2

theorem QjK {P:Program} {Γ:Env} (hE:EnvOk P Γ):∀ (k f:Nat) (ds:List D) (r:R),QdO Γ k f ds=some r→CallOk P f ds r
  | 0,f,ds,r,h=>by
    simp only [QdO] at h
    split at h
    · exact hE.orc f ds r ‹_› h
    · cases h
  | k+1,f,ds,r,h=>by
    simp only [QdO] at h
    split at h
    · exact hE.orc f ds r ‹_› h
    · rename_i cf hcf
      obtain ⟨hnp,h⟩:=Qaf h
      simp only [Option.bind_eq_some_iff] at h
      obtain ⟨⟨e,s⟩,hrun,h⟩:=h
      obtain ⟨fn,L,hf,hc,him,hokL⟩:=hE.ft f cf hcf
      simp only [QlH,Option.bind_eq_some_iff] at hc
      obtain ⟨body,hb,c,hcc,hc⟩:=hc
      split at hc
      · rename_i hchk
        simp only [Bool.and_eq_true,decide_eq_true_eq,bne_iff_ne,ne_eq] at hchk
        obtain ⟨⟨hw,hsz⟩,hname⟩:=hchk
        simp only [Option.map_eq_some_iff] at hc
        obtain ⟨rs,hrs,hcf'⟩:=hc
        have e1:cf.np=fn.params.size+fn.nfree:=(congrArg CF.np hcf').symm
        have e2:c=cf.body.er:=congrArg CF.body hcf'
        have e3:rs=cf.res:=congrArg CF.res hcf'
        subst e2 e3
        refine ⟨⟨fn,hf,by rw [hb];rfl,hname⟩,fun S w vs hT hrep hlt=>?_⟩
        have hvl:vs.length=fn.params.size+fn.nfree:=by rw [← hrep.length,hnp,e1]
        have hN:(vs.toArray++Array.replicate (fn.ntmps-vs.toArray.size) undef).size=fn.ntmps:=by simp;omega
        have hR:Rel (fun b=>S b∨w.heap.size≤b) fn.ntmps ⟨w,fun _=>False,fun _=>none,fun b=>w.heap.size≤b⟩ (fun _=>0) ⟨argF 0 ds,hp0,[]⟩ { tmps:=vs.toArray++Array.replicate (fn.ntmps-vs.toArray.size) undef,defers:=[] } w:=by
          have hSm:∀ b,S b→Im (fun b=>S b∨w.heap.size≤b) (fun _=>0) hp0 w b:=fun b hb=>⟨.inl hb,hlt b hb,fun ⟨_,_,h,_⟩=>by simp [hp0] at h⟩
          refine ⟨fun i x hx=>?_,fun _ _ h=>by simp [hp0] at h,fun _ _ _ _ h=>by simp [hp0] at h,fun i x hx=>?_,fun _ _ _ h=>by simp [hp0] at h,fun _ _ h=>by simp [hp0] at h,fun _ _ h=>by simp [hp0] at h,Foot.refl _ _,Marks.nil _ _ _,hN,fun b hb=>.inr hb,fun _ _ h=>by cases h⟩
          · obtain ⟨_,d,hd,rfl⟩:=Qi4 ds 0 i x hx
            obtain ⟨v,hv,hdv⟩:=hrep.get i d (by simpa using hd)
            have:(vs.toArray++Array.replicate (fn.ntmps-vs.toArray.size) undef).getD i undef=v:=by
              have hil:i<vs.length:=(List.getElem?_eq_some_iff.1 hv).1
              rw [Array.getD_eq_getD_getElem?,Array.getElem?_append_left (by simpa using hil)]
              simp [hv]
            rw [this]
            exact .d _ _ (hdv.mono hSm (fun _ _=>rfl))
          · obtain ⟨_,d,_,rfl⟩:=Qi4 ds 0 i x hx
            trivial
        refine callsIn_wide.1 (callsIn_of_wp_marks (n:=0) (F:=Fence.wide) hf hb trivial ?_)
        refine QmI hE.mix (fun f ds r h=>QjK hE k f ds r h) hE.it k fn.ntmps Fence.wide wide_ok 0 _ ⟨w,fun _=>False,fun _=>none,fun b=>w.heap.size≤b⟩ [] L cf.body body _ (fun _=>0) _ _ w e s ⟨fun _ _ h=>(by cases h),.inr ⟨rfl,fun _=>rfl,fun _ h=>h⟩,hT,fun _ _ h=>h⟩ ⟨him,hokL.imp id fun h=>h body hb⟩ hcc hw hrun hR ?_
        intro m' a' w' hR'
        have fin:LeavesInM Fence.wide 0 P fn a'.tmps (fun e w'=>∃ v,e=.returned v∧Below w.heap.size w w'∧Qsi S w w' r v) a'.defers .returning w'→bodyPostM Fence.wide 0 P fn (fun e w'=>∃ v,e=.returned v∧Below w.heap.size w w'∧Qsi S w w' r v) e.out a' w':=by
          intro h1
          cases e with
          | x id=>cases h
          | n=>exact h1
          | r=>exact h1
        refine fin ?_
        have hend:Qmx s cf.res=some r:=by
          cases e with
          | x id=>cases h
          | n=>exact h
          | r=>exact h
        refine Qg0 (fn:=fn) (P:=P) (fun b h=>h) (fun a2 w2 ht R2=>?_) a'.defers a' w' rfl rfl hR'
        obtain ⟨v,g1,g2⟩:=end_sound (P:=P) (S:=S) R2 hrs hend rfl (fun _ h=>h)
        rw [ht] at g1
        exact ⟨v,g1,v,rfl,R2.bel.below,g2⟩
      · cases hc

theorem QlP {P:Program} {Γ:Env} (hE:EnvOk P Γ) {f:Nat} {ds:List D} {r:R} (h:Qah Γ f ds=some r):CallOk P f ds r:=by
 obtain ⟨k,hk⟩:=callX_some.1 h
 exact QjK hE k f ds r hk
end Go.AM

/- Part 19: a law's call. -/
namespace Go.AM
open Go Go.RowKit

def iv (x:Int):D:=.v (.int .i64 x)
def bv (b:Bool):D:=.v (.bool b)
def Dg (d:D) (l:List Int):Prop:=(d=.z true∧l=[])∨d=.row l.length (l.map iv)

theorem arg_row {w:World} {a:Option Addr} {len cap:Nat} {zs:List Int}
    (h:(a=none∧len=0∧cap=0∧zs=[])∨∃ x,a=some x∧len≤cap∧cap≤maxLen∧zs.length=cap∧(∀ i,i<zs.length→w.cell? (x.add i)=some (.int .i64 (zs.getD i 0)))∧∀ n∈zs,(Lit.int .i64 n).wf=true) :
    ∃ d l,Dg d l∧RepD (fun b=>b<w.heap.size) w d (.slice a len cap)∧l.length=len∧∀ n∈l,(Lit.int .i64 n).wf=true:=by
  rcases h with ⟨rfl,rfl,rfl,rfl⟩ | ⟨x,rfl,h1,h2,h3,h4,h5⟩
  · exact ⟨.z true,[],.inl ⟨rfl,rfl⟩,.zt,rfl,by simp⟩
  · have hlen:(zs.take len).length=len:=by simp;omega
    refine ⟨.row (zs.take len).length ((zs.take len).map iv),zs.take len,.inr rfl, ?_,hlen,fun n hn=>h5 n (List.mem_of_mem_take hn)⟩
    rw [hlen]
    by_cases h0:len=0
    · subst h0
      simpa using RepD.row0 x cap
    · have hblk : x.block < w.heap.size := by
        have:=h4 0 (by omega)
        rw [World.cell?] at this
        rcases Nat.lt_or_ge x.block w.heap.size with h' | h'
        · exact h'
        · have hb:(x.add 0).block=x.block:=Addr.add_block x 0
          rw [hb,Array.getElem?_eq_none h'] at this
          cases this
      have hl:∀ l:List Int,RepL (fun b=>b<w.heap.size) w (l.map iv) (l.map fun n=>Value.int .i64 n):=by
        intro l
        induction l with
        | nil=>exact .nil
        | cons n r ih=>exact .cons _ _ _ _ (.v _) ih
      refine .row len _ x cap _ h1 hblk (hl _) fun j v hj=>?_
      simp only [List.getElem?_map,Option.map_eq_some_iff] at hj
      obtain ⟨n,hn,rfl⟩:=hj
      have hjl:j<zs.length:=by
        have:=(List.getElem?_eq_some_iff.1 hn).1
        simp at this;omega
      rw [h4 j hjl]
      rw [List.getElem?_take] at hn
      split at hn
      · rw [List.getD,hn];rfl
      · cases hn

theorem law_walk {P:Program} {Γ:Env} (hE:EnvOk P Γ) {f:Nat} {ds:List D} {vs:List Value} {w:World} (hT:TabOk w) (hrep:RepL (fun b=>b<w.heap.size) w ds vs) (h:Qah   Γ f ds=some (.d (bv true))) :
    Calls P f vs.toArray w fun e w'=>e=.returned (.bool true)∧Below w.heap.size w w':=by
  refine ((QlP hE h).2 _ w vs hT hrep (fun _ h=>h)).mono ?_
  rintro e w' ⟨v,rfl,hb,hr⟩
  have hr':RepD _ w' (.v (.bool true)) v:=hr
  cases hr' with
  | v=>exact ⟨rfl,hb⟩
end Go.AM

/- Iterators: a walk of their code, piece by piece, over what the caller keeps. -/
namespace Go.AM
open Go Go.RowKit

def toQ (R:Ex→Act→World→Prop):Exit→Act→World→Prop
 | .normal=>R .n
 | .exit id=>R (.x id)
 | .ret=>R .r
 | _=>fun _ _=>False

section
variable {P:Program} {N n:Nat}

theorem toQ_out (R:Ex→Act→World→Prop) (e:Ex):toQ R e.out=R e:=by cases e<;>rfl
theorem toQ_mono {R R':Ex→Act→World→Prop} (h:∀ e a w,R e a w→R' e a w):∀ e a w,toQ R e a w→toQ R' e a w:=by
 intro e a w hq
 cases e<;>first | exact h _ _ _ hq | exact hq
theorem QrX {R:Ex→Act→World→Prop}:∀ e a w,toQ R e a w→Exit.noGoto (toQ R) e a w:=by
 intro e a w hq
 cases e<;>first | exact hq | exact hq.elim

def okY:Code→Bool
 | .region _ ops draw=>!draw||ops.toList.all fun o=>match o.op with
  | .call c=>match c.callee with
   | .value (.tmp _)=>false
   | _=>true
  | _=>true
 | .seq a b=>okY a&&okY b
 | .cond _ a b=>okY a&&okY b
 | .block _ c | .loop c | .scope c=>okY c
 | _=>true
theorem QoA:∀ c:Code,okY (Qj5 c)=okY c
 | .scope c=>by simp only [Qj5,okY];exact QoA c
 | .skip | .region .. | .seq .. | .cond .. | .block .. | .loop _ | .exit _ | .goto _ | .label _ | .ret | .refuse _ | .rangeFunc ..=>rfl

def WY (P:Program) (N n:Nat) (c:C) (R:Ex→Act→World→Prop) (a:Act) (w:World):Prop :=
 c.within N=true→∀ code,okY code=true→Qen P code=some c→code.wpIn Fence.wide n P (toQ R) a w

theorem WY.mono {c:C} {R R':Ex→Act→World→Prop} {a:Act} {w:World} (h:WY P N n c R a w) (hr:∀ e a w,R e a w→R' e a w):WY P N n c R' a w :=
 fun hw code ho hc=>wpIn_mono (h hw code ho hc) (toQ_mono hr)

theorem Qoe {c:C} {R:Ex→Act→World→Prop} {a:Act} {w:World} (hf:c≠QfI) (h:c.within N=true→∀ code,okY code=true→(∀ d,code≠.scope d)→QaX P code=some c→code.wpIn Fence.wide n P (toQ R) a w):WY P N n c R a w:=by
 intro hw code ho hc
 refine QjO code (wpIn_mono (h hw (Qj5 code) (by rw [QoA];exact ho) (QnL code) (Qjo (by rw [Qiu];exact hc) hf)) QrX)

theorem QeY {c:C} {id:Nat} {ops:Array Oper} {draw:Bool} (h:QaX P (.region id ops draw)=some c):∃ os ck,c=.reg os ck:=by
  simp only [QaX,Option.bind_eq_some_iff] at h
  obtain ⟨os,_,h⟩:=h
  split at h
  · split at h
    · simp only [Option.map_eq_some_iff] at h
      obtain ⟨ck,_,rfl⟩:=h
      exact ⟨_,_,rfl⟩
    · cases h
  · cases h;exact ⟨_,_,rfl⟩
theorem Qfe {c:C} {f:Operand} {ps:Array Nat} {x y:Code} (h:QaX P (.rangeFunc f ps x y)=some c):∃ e qs u v,c=.rfn e qs u v [] []:=by
  simp only [QaX,Option.bind_eq_some_iff] at h
  obtain ⟨e,_,u,_,v,_,h⟩:=h
  split at h
  · cases h;exact ⟨_,_,_,_,rfl⟩
  · cases h

theorem WY.seq {x y:C} {R:Ex→Act→World→Prop} {a:Act} {w:World} (h:WY P N n x (fun e a w=>if e=.n then WY P N n y R a w else R e a w) a w):WY P N n (.seq x y) R a w:=by
 refine Qoe (by simp only [QfI,ne_eq,reduceCtorEq,not_false_eq_true]) fun hw code ho hns hc=>?_
 simp only [C.within,Bool.and_eq_true] at hw
 cases code<;>first | exact absurd rfl (hns _) | (obtain ⟨_,_,h'⟩:=QeY hc;cases h') | (obtain ⟨_,_,_,_,h'⟩:=Qfe hc;cases h') | skip
 case seq ca cb =>
  simp only [QaX,Option.bind_eq_some_iff,Option.map_eq_some_iff,C.seq.injEq] at hc
  obtain ⟨x',hx,y',hy,rfl,rfl⟩:=hc
  simp only [okY,Bool.and_eq_true] at ho
  refine wpIn_seq (wpIn_mono (h hw.1 ca ho.1 hx) ?_)
  intro e a w hq
  cases e with
  | normal=>exact (show WY P N n y' R a w by simpa only [toQ,if_true] using hq) hw.2 cb ho.2 hy
  | exit id=>simp only [toQ,reduceCtorEq,if_false] at hq;exact hq
  | ret=>simp only [toQ,reduceCtorEq,if_false] at hq;exact hq
  | _=>exact hq
 all_goals simp [QaX,Option.bind_eq_some_iff] at hc

theorem WY.cond {x:E} {c d:C} {R:Ex→Act→World→Prop} {a:Act} {w:World} {t:Bool} (hx:∀ op,QaH op=some x→a.eval op=.bool t) (h1:t=true→WY P N n c R a w) (h2:t=false→WY P N n d R a w):WY P N n (.cond x c d) R a w:=by
 refine Qoe (fun hq=>by
  simp only [QfI,C.cond.injEq] at hq
  have:=hx (.const (.int .i64 7)) (by rw [hq.1];rfl)
  cases this) fun hw code ho hns hc=>?_
 simp only [C.within,Bool.and_eq_true] at hw
 cases code<;>first | exact absurd rfl (hns _) | (obtain ⟨_,_,h'⟩:=QeY hc;cases h') | (obtain ⟨_,_,_,_,h'⟩:=Qfe hc;cases h') | skip
 case cond co ca cb =>
  simp only [QaX,Option.bind_eq_some_iff,Option.map_eq_some_iff,C.cond.injEq] at hc
  obtain ⟨e',he,x',hx',y',hy,rfl,rfl,rfl⟩:=hc
  simp only [okY,Bool.and_eq_true] at ho
  refine wpIn_cond_split (hx co he) (fun ht=>h1 ht hw.1 ca ho.1 hx') (fun ht=>h2 ht hw.2 cb ho.2 hy)
 all_goals simp [QaX,Option.bind_eq_some_iff] at hc

theorem WY.blk {id:Nat} {c:C} {R:Ex→Act→World→Prop} {a:Act} {w:World} (h:WY P N n c (fun e a w=>if e=.x id then R .n a w else R e a w) a w):WY P N n (.blk id c) R a w:=by
 refine Qoe (by simp only [QfI,ne_eq,reduceCtorEq,not_false_eq_true]) fun hw code ho hns hc=>?_
 simp only [C.within] at hw
 cases code<;>first | exact absurd rfl (hns _) | (obtain ⟨_,_,h'⟩:=QeY hc;cases h') | (obtain ⟨_,_,_,_,h'⟩:=Qfe hc;cases h') | skip
 case block id' c' =>
  simp only [QaX,Option.map_eq_some_iff,C.blk.injEq] at hc
  obtain ⟨x',hx,rfl,rfl⟩:=hc
  refine wpIn_block (wpIn_mono (h hw c' (by simpa only [okY] using ho) hx) ?_)
  intro e a w hq
  cases e with
  | normal=>simp only [toQ,reduceCtorEq,if_false] at hq;exact hq
  | exit i =>
   simp only [Exit.inBlock]
   simp only [toQ,Ex.x.injEq] at hq
   split
   ·rename_i hi;rw [if_pos hi] at hq;exact hq
   ·rename_i hi;rw [if_neg hi] at hq;exact hq
  | ret=>simp only [toQ,reduceCtorEq,if_false] at hq;exact hq
  | _=>exact hq
 all_goals simp [QaX,Option.bind_eq_some_iff] at hc

theorem WY.loop {c:C} {R:Ex→Act→World→Prop} (I:Nat→Act→World→Prop) {j:Nat} {a:Act} {w:World} (h0:I j a w)
    (h:∀ j a w,I j a w→WY P N n c (fun e a w=>if e=.n then ∃ j',j'<j∧I j' a w else R e a w) a w):WY P N n (.loop c) R a w:=by
  refine Qoe (by simp only [QfI,ne_eq,reduceCtorEq,not_false_eq_true]) fun hw code ho hns hc=>?_
  simp only [C.within] at hw
  cases code<;>first | exact absurd rfl (hns _) | (obtain ⟨_,_,h'⟩:=QeY hc;cases h') | (obtain ⟨_,_,_,_,h'⟩:=Qfe hc;cases h') | skip
  case loop c' =>
    simp only [QaX,Option.map_eq_some_iff,C.loop.injEq] at hc
    obtain ⟨x',hx,rfl⟩:=hc
    refine QlW I h0 fun j a w hI=>wpIn_mono (h j a w hI hw c' (by simpa only [okY] using ho) hx) ?_
    intro e a w hq
    cases e with
    | normal=>simp only [toQ,if_true] at hq;exact hq
    | exit id=>simp only [toQ,reduceCtorEq,if_false] at hq;exact hq
    | ret=>simp only [toQ,reduceCtorEq,if_false] at hq;exact hq
    | _=>exact hq
  all_goals simp [QaX,Option.bind_eq_some_iff] at hc

theorem WY.ret {R:Ex→Act→World→Prop} {a:Act} {w:World} (h:R .r a w):WY P N n .ret R a w:=by
 refine Qoe (by simp only [QfI,ne_eq,reduceCtorEq,not_false_eq_true]) fun hw code ho hns hc=>?_
 cases code<;>first | exact absurd rfl (hns _) | (obtain ⟨_,_,h'⟩:=QeY hc;cases h') | (obtain ⟨_,_,_,_,h'⟩:=Qfe hc;cases h') | skip
 case ret=>exact wpIn_ret h
 all_goals simp [QaX,Option.bind_eq_some_iff] at hc
theorem WY.exit {R:Ex→Act→World→Prop} {id:Nat} {a:Act} {w:World} (h:R (.x id) a w):WY P N n (.exit id) R a w:=by
 refine Qoe (by simp only [QfI,ne_eq,reduceCtorEq,not_false_eq_true]) fun hw code ho hns hc=>?_
 cases code<;>first | exact absurd rfl (hns _) | (obtain ⟨_,_,h'⟩:=QeY hc;cases h') | (obtain ⟨_,_,_,_,h'⟩:=Qfe hc;cases h') | skip
 case exit id'=>simp only [QaX,Option.some.injEq,C.exit.injEq] at hc;subst hc;exact wpIn_exit h
 all_goals simp [QaX,Option.bind_eq_some_iff] at hc
theorem WY.skip {R:Ex→Act→World→Prop} {a:Act} {w:World} (h:R .n a w):WY P N n .skip R a w:=by
 refine Qoe (by simp only [QfI,ne_eq,reduceCtorEq,not_false_eq_true]) fun hw code ho hns hc=>?_
 cases code<;>first | exact absurd rfl (hns _) | (obtain ⟨_,_,h'⟩:=QeY hc;cases h') | (obtain ⟨_,_,_,_,h'⟩:=Qfe hc;cases h') | skip
 case skip=>exact wpIn_skip h
 case label l=>exact wpIn_label h
 all_goals simp [QaX,Option.bind_eq_some_iff] at hc
end

/-! ### What the iterator keeps -/
abbrev Held:=Nat→(Nat→Prop)→(Nat→Prop)→World→Prop
theorem QnV:tabs=[]:=rfl
def Qm1 (w0:World) (J:Held):Prop:=∀ i L V V' W W',J i L V W→Foot V W W'→(∀ b,V' b→b<W.heap.size→V b)→(∀ b,V' b→w0.heap.size≤b∧b<W'.heap.size)→J i L V' W'

structure Inv1 (S:Nat→Prop) (w0:World) (N:Nat) (J:Held) (st:St) (i:Nat) (a:Act) (W:World) (m:Key→Nat) (L:Nat→Prop):Prop where
 rel:Rel (fun b=>(S b∨w0.heap.size≤b)∧¬ L b) N ⟨W,Live m st.hp,fun _=>none,fun _=>False⟩ m st a W
 j:J i L (Live m st.hp) W
 lt:∀ b,L b→b<W.heap.size
 ge:∀ b,Live m st.hp b→w0.heap.size≤b
 sz:w0.heap.size≤W.heap.size
def Inv (S:Nat→Prop) (w0:World) (N:Nat) (J:Held) (st:St) (i:Nat) (a:Act) (W:World):Prop:=∃ m L,Inv1 S w0 N J st i a W m L

section
variable {S:Nat→Prop} {w0:World} {N n:Nat} {J Jx:Held} {st s:St} {i:Nat} {a a':Act} {W W':World} {P:Program} {Γ:Env}

theorem Inv1.next (hab:Qm1 w0 J) {m m':Key→Nat} {L:Nat→Prop} (h:Inv1 S w0 N J st i a W m L) (hR:Rel (fun b=>(S b∨w0.heap.size≤b)∧¬ L b) N ⟨W,Live m st.hp,fun _=>none,fun _=>False⟩ m' s a' W'):Inv1 S w0 N J s i a' W' m' L:=by
 have hb:=hR.bel
 have hsz:W.heap.size≤W'.heap.size:=hb.size
 have hlv:∀ b,Live m' s.hp b→Live m st.hp b∨W.heap.size≤b:=by
  rintro b ⟨k,o,ho,hf,rfl⟩;exact hR.lv k o ho hf
 have hge:∀ b,Live m' s.hp b→w0.heap.size≤b:=fun b hl=>by
  rcases hlv b hl with g | g
  ·exact h.ge b g
  ·have:=h.sz;omega
 refine ⟨hR.move rfl (Nat.le_refl _) (fun _ _ h=>h) (fun _ _ _ _ _ h=>h) hR.un (Foot.refl _ _) (fun k o ho hz=>.inl ⟨k,o,ho,hz,rfl⟩) hR.df (fun k b hb=>by cases hb),
  hab i L _ _ W W' h.j hb (fun b hl hlt=>?_) (fun b hl=>⟨hge b hl, ?_⟩),fun b hl=>Nat.lt_of_lt_of_le (h.lt b hl) hsz,hge,Nat.le_trans h.sz hsz⟩
 ·rcases hlv b hl with g | g
  ·exact g
  ·omega
 ·obtain ⟨k,o,ho,hf,rfl⟩:=hl
  exact hR.lt ho

theorem Inv.code (hE:EnvOk P Γ) (hab:Qm1 w0 J) (h:Inv S w0 N J st i a W) {c:C} (hh:c.holds []=true) (hni:c.noInl=true:=by rfl) {e:Ex} (hx:X Γ c st=some (e,s)) {R:Ex→Act→World→Prop} (hK:∀ a' W',Inv S w0 N J s i a' W'→R e a' W'):WY P N n c.er R a W:=by
 intro hw code _ hc
 obtain ⟨m,L,h⟩:=h
 obtain ⟨k,hk⟩:=X_some.1 hx
 refine QmI hE.mix (fun f ds r h=>QjK hE k f ds r h) hE.it k N Fence.wide wide_ok n _ _ [] [] c code (toQ R) m st a W e s ⟨fun _ _ hb=>(by cases hb),.inl hh,QjE QnV _ _⟩ ⟨QdD hni,.inl rfl⟩ hc hw hk h.rel ?_
 intro m' a' W' hR'
 rw [toQ_out]
 exact hK a' W' ⟨m',L,h.next hab hR'⟩

theorem Inv.bool (h:Inv S w0 N J st i a W) {x:E} {t:Bool} (hx:x.ev st=some (.d (.v (.bool t)))):∀ op,QaH op=some x→a.eval op=.bool t:=by
 intro op ho
 obtain ⟨m,L,h⟩:=h
 exact QfB (h.rel.ev ho hx)

theorem Inv.nodefer (h:Inv S w0 N J st i a W):a.defers=[]:=by
 obtain ⟨m,L,h⟩:=h
 obtain ⟨Ds,g1,_,g2⟩:=h.rel.df
 cases Ds with
 | nil=>exact g1
 | cons D Ds=>exact (g2 D (List.mem_cons_self ..)).2.1.elim

def yv (l:Nat):D:=.v (.func (.yield l) #[] #[])

def QpC (P:Program) (n:Nat) (S:Nat→Prop) (w0:World) (l:Nat) (J Jx:Held) (xs:List (List D)):Prop :=
  ∀ i x L V W (args : List Value), xs[i]? = some x → J i L V W → RepL (fun b => (S b ∨ w0.heap.size ≤ b) ∧ b < W.heap.size ∧ ¬ V b ∧ ¬ L b) W x args →
      YieldAt Fence.wide n P l args.toArray W fun e W'=>∃ L',Foot L W W'∧(∀ b,L' b→b<W.heap.size→L b)∧(∀ b,L' b→b<W'.heap.size) ∧
        ((e=.returned (.bool true)∧J (i+1) L' V W')∨(e=.returned (.bool false)∧Jx (i+1) L' V W'))

theorem Inv.yield (hE:EnvOk P Γ) (hab:Qm1   w0 J) (habx:Qm1   w0 Jx) {l:Nat} {xs:List (List D)} (hans:QpC     P n S w0 l J Jx xs) (h:Inv S w0 N J st i a W)
    {pre post:List O} {d ty:Nat} {es:List E} {s1:St} {x:List D} {rt rf:St}
    (h1:exs (Qah Γ) pre st=some s1) (h2:s1.fr ty=some (.d (yv l))) (h3:allE s1 es=some (x.map .d)) (hx:xs[i]?=some x)
    (ht:exs (Qah Γ) post { s1 with fr:=upd s1.fr d (.d (.v (.bool true))) }=some rt) (hf:exs (Qah Γ) post { s1 with fr:=upd s1.fr d (.d (.v (.bool false))) }=some rf)
    {R:Ex→Act→World→Prop} (hKt:∀ a' W',Inv S w0 N J rt (i+1) a' W'→R .n a' W') (hKf:∀ a' W',Inv S w0 N Jx rf (i+1) a' W'→R .n a' W') :
    WY P N (n+1) (.reg ((pre++⟨some d,.calv (.t ty) es,none⟩ :: post).map O.er) []) R a W:=by
  refine Qoe (by simp only [QfI,ne_eq,reduceCtorEq,not_false_eq_true]) fun hw code ho hns hc=>?_
  cases code<;>first | exact absurd rfl (hns _) | (obtain ⟨_,_,_,_,h'⟩:=Qfe hc;cases h') | skip
  case region id ops draw =>
    simp only [QaX,Option.bind_eq_some_iff] at hc
    obtain ⟨os',hos,hc⟩:=hc
    have hos':os'=(pre++⟨some d,.calv (.t ty) es,none⟩ :: post).map O.er:=by
      split at hc
      · split at hc
        · simp only [Option.map_eq_some_iff,C.reg.injEq] at hc
          obtain ⟨_,_,rfl,_⟩:=hc;rfl
        · cases hc
      · simp only [Option.some.injEq,C.reg.injEq] at hc;exact hc.1
    subst hos'
    have hO:=Qok (N:=N) hos (by simpa only [C.within] using hw)
    have hlen:=hO.len
    simp only [List.length_append,List.length_cons] at hlen
    -- the operation
    have hi:pre.length<ops.size:=by omega
    obtain ⟨o,hoo⟩:∃ o,ops[pre.length]?=some o:=⟨ops[pre.length],by simp [hi]⟩
    obtain ⟨o2,g2,gc,gd,gg⟩:=hO.at_ pre.length o hoo
    have:(pre++(⟨some d,.calv (.t ty) es,none⟩:O) :: post)[pre.length]?=some ⟨some d,.calv (.t ty) es,none⟩:=by simp
    rw [this] at g2
    cases g2
    have hdN:d<N:=hO.lt ⟨some d,.calv (.t ty) es,none⟩ (by simp) d rfl
    have hgn:o.guard=none:=by
      cases hg:o.guard with
      | none=>rfl
      | some p =>
        obtain ⟨pj,pb⟩:=p
        exfalso
        rw [hg] at gg;simp only [QsB] at gg
        cases hq:(ops[pj]?).bind (·.dst)<;>rw [hq] at gg<;>cases gg
    have hcall:∃ c u,o.op=.call c∧c.callee=.value (.tmp u)∧u=ty∧mapO QaH c.args.toList=some es:=by
      obtain ⟨c,u,k1,k2,k3,k4⟩:=QiP gc
      cases u with
      | tmp u=>simp only [QaH,Option.some.injEq,E.t.injEq] at k3;exact ⟨c,u,k1,k2,k3,k4⟩
      | _=>simp [QaH] at k3
    obtain ⟨c,u,hop,hcal,rfl,hargs⟩:=hcall
    have hdraw:draw=false:=by
      cases draw with
      | false=>rfl
      | true =>
        simp only [okY,Bool.not_true,Bool.false_or,List.all_eq_true] at ho
        have:=ho o (Array.mem_toList_iff.2 (Array.mem_of_getElem? hoo))
        rw [hop] at this
        simp only [hcal] at this
        cases this
    subst hdraw
    obtain ⟨m,L,h⟩:=h
    have hcl:∀ f ds r,Qah Γ f ds=some r→CallOk P f ds r:=fun f ds r h=>QlP hE h
    have e1:exsI (Qah Γ) (pre++(⟨some d,.calv (.t u) es,none⟩:O) :: post) (List.range' 0 pre.length) st=some s1:=by
      rw [← QoK pre 0 st fun j o hj=>by
        have hlt:=(List.getElem?_eq_some_iff.1 hj).1
        rw [Nat.zero_add,List.getElem?_append_left hlt];exact hj]
      exact h1
    have e2:∀ s r,exs (Qah Γ) post s=some r→exsI (Qah Γ) (pre++(⟨some d,.calv (.t u) es,none⟩:O) :: post) (List.range' (pre.length+1) post.length) s=some r:=by
      intro s r hs
      rw [← QoK post (pre.length+1) s fun j o hj=>by
        rw [List.getElem?_append_right (by omega),show pre.length+1+j-pre.length=j+1 by omega];simpa using hj]
      exact hs
    have hrange:List.range ops.size=List.range' 0 pre.length++pre.length :: (List.range' (pre.length+1) post.length++[]):=by
      have hap:=@List.range'_append_1 0 pre.length (post.length+1)
      rw [Nat.zero_add] at hap
      rw [List.append_nil,← List.range'_succ,List.range_eq_range',← hlen]
      exact hap.symm
    refine wpIn_region ?_
    rw [hrange]
    refine QlG (wd:=⟨W,Live m st.hp,fun _=>none,fun _=>False⟩) (fun f ds r h=>(hcl f ds r h).at (QjE QnV _ _)) wide_ok hO _ h.rel e1 ?_
    intro m1 a1 W1 R1
    have I1:=h.next hab R1
    rw [wpOpsIn_cons]
    unfold wpOpIn
    simp only [hoo]
    rw [QgU R1 gg rfl (b:=true) (by simp [Qdi])]
    simp only [if_true]
    have hyv:a1.eval (.tmp u)=.func (.yield l) #[] #[]:=QfB (R1.fr u _ h2)
    obtain ⟨hrep,_⟩:=Qgd R1 hargs h3
    have hargsv:RepL (Im (fun b=>(S b∨w0.heap.size≤b)∧¬ L b) m1 s1.hp W1) W1 x (c.args.toList.map a1.eval):=by
      have key:∀ (xs:List D) (vs:List Value),RepAL m1 s1.hp (Im (fun b=>(S b∨w0.heap.size≤b)∧¬ L b) m1 s1.hp W1) W1 (xs.map A.d) vs→RepL (Im (fun b=>(S b∨w0.heap.size≤b)∧¬ L b) m1 s1.hp W1) W1 xs vs:=by
        intro xs
        induction xs with
        | nil=>intro vs hv;cases hv;exact .nil
        | cons y ys ih =>
          intro vs hv
          cases hv with
          | cons _ _ v vs hy ht=>exact .cons _ _ _ _ (QhI hy) (ih vs ht)
      exact key _ _ hrep
    obtain ⟨fn',tm',as',bo',hy,hR⟩:=hans i x L (Live m1 s1.hp) W1 _ hx I1.j (hargsv.mono (fun b hb=>⟨hb.1.1,hb.2.1,hb.2.2,hb.1.2⟩) (fun _ _=>rfl))
    have hargs':c.args.map a1.eval=(c.args.toList.map a1.eval).toArray:=by apply Array.ext';simp
    have hexec:(execOp a1.eval o).run P W1=.ok (.round l fn' tm' as' bo') W1:=by
      simp only [execOp,hop,resolve,hcal,hyv,Deferred.ofValue,Sem.run_bind,Sem.run_pure,Result.andThen_ok,invoke,hargs']
      simpa using hy
    refine ⟨fun f _=>trivial, ?_⟩
    rw [Oper.semAt_eq _ _ _ (fun c' h=>by rw [hop] at h;cases h),hexec,Oper.uponIn_round]
    refine ⟨fun h=>(by cases h), ?_⟩
    rw [Nat.add_sub_cancel]
    refine hR.mono ?_
    rintro e W2 ⟨L',f1,f2,f3,f4⟩
    have hsz12:W1.heap.size≤W2.heap.size:=f1.size
    have R2:Rel (fun b=>(S b∨w0.heap.size≤b)∧¬ L' b) N ⟨W2,Live m1 s1.hp,fun _=>none,fun _=>False⟩ m1 s1 a1 W2 :=
      I1.rel.move rfl hsz12 (fun b hb hs=>⟨hs.1,fun hl=>hs.2 (f2 b hl hb)⟩) (fun b cs T fz hs hh=>by rw [f1.block b (Qc2 hh) hs.2];exact hh)
        (fun b hb=>⟨.inr (by have:=I1.sz;omega),fun hl=>by have:=f3 b hl;omega⟩) (Foot.refl _ _) (fun k o ho hz=>.inl ⟨k,o,ho,hz,rfl⟩) ⟨[],(show Inv S w0 N J s1 i a1 W1 from ⟨m1,L,I1⟩).nodefer,List.nodup_nil,by simp⟩ (fun k b hb=>by cases hb)
    have go : ∀ (t : Bool) (J' : Held) (r : St), Qm1   w0 J' → J' (i + 1) L' (Live m1 s1.hp) W2 → exs (Qah   Γ) post { s1 with fr := upd s1.fr d (.d (.v (.bool t))) } = some r → (∀ a' W', Inv S w0 N J' r (i + 1) a' W' → R .n a' W') →
        wpOpsIn Fence.wide (n+1) P ops (toQ R) (List.range' (pre.length+1) post.length++[]) (a1.put o.dst (.bool t)) W2:=by
      intro t J' r hab' hj hr hK
      have R3:=R2.put (dst:=o.dst) (y:=.d (.v (.bool t))) (v:=.bool t) (fun d' hd'=>by rw [← gd] at hd';cases hd';exact hdN) (.d _ _ (.v _)) trivial
      rw [← gd] at R3
      have I3:Inv1 S w0 N J' { s1 with fr:=upd s1.fr d (.d (.v (.bool t))) } (i+1) (a1.put (some d) (.bool t)) W2 m1 L' :=
        ⟨R3,hj,f3,I1.ge,Nat.le_trans I1.sz hsz12⟩
      rw [← gd]
      refine QlG (wd:=⟨W2,Live m1 s1.hp,fun _=>none,fun _=>False⟩) (fun f ds r h=>(hcl f ds r h).at (QjE QnV _ _)) wide_ok hO _ R3 (e2 _ _ hr) ?_
      intro m4 a4 W4 R4
      exact hK a4 W4 ⟨m4,L',I3.next hab' R4⟩
    rcases f4 with ⟨rfl,hj⟩ | ⟨rfl,hj⟩
    · exact go true J rt hab hj ht hKt
    · exact go false Jx rf habx hj hf hKf
  all_goals simp [QaX,Option.bind_eq_some_iff] at hc
end
end Go.AM

/- Iterators: what an iterator owes, out of its walk. -/
namespace Go.AM
open Go Go.RowKit

section
variable {P:Program} {Γ:Env}

theorem it_ok (hE:EnvOk P Γ) {f:Nat} {cf:CF} {fn:Func} {ds:List D} {xs:List (List D)} (hf:P.funcs[f]?=some fn) (hc:QlH   P fn=some cf.er) (hok:∀ b,fn.body=some b→okY b=true) (hnp:cf.np=1+ds.length) (hres:cf.res=[])
    (hwalk:∀ (n l:Nat) (S:Nat→Prop) (w0:World) (J Jx:Held) (a:Act) (W:World),Qm1 w0 J→Qm1 w0 Jx→QpC P n S w0 l J Jx xs→Inv S w0 fn.ntmps J ⟨argF 0 (yv l :: ds),hp0,[]⟩ 0 a W →
      WY P fn.ntmps (n+1) cf.body.er (fun e a' W'=>(∀ id,e≠.x id)∧((∃ st,Inv S w0 fn.ntmps J st xs.length a' W')∨∃ st i,Inv S w0 fn.ntmps Jx st i a' W')) a W):ItOk P f ds xs:=by
  simp only [QlH,Option.bind_eq_some_iff] at hc
  obtain ⟨body,hb,c,hcc,hc⟩:=hc
  split at hc
  · rename_i hchk
    simp only [Bool.and_eq_true,decide_eq_true_eq,bne_iff_ne,ne_eq] at hchk
    obtain ⟨⟨hw,hsz⟩,hname⟩:=hchk
    simp only [Option.map_eq_some_iff] at hc
    obtain ⟨rs,hrs,hcf'⟩:=hc
    have e1:cf.np=fn.params.size+fn.nfree:=(congrArg CF.np hcf').symm
    have e2:c=cf.body.er:=congrArg CF.body hcf'
    have e3:rs=cf.res:=congrArg CF.res hcf'
    subst e2
    rw [e3,hres] at hrs
    refine ⟨⟨fn,hf,by rw [hb];rfl,hname⟩,fun n S L0 w vs hrep hlt hL0 l J Jx hJ hJx hans h0=>?_⟩
    have hvl:vs.length=ds.length:=hrep.length.symm
    have hN:((#[.func (.yield l) #[] #[]]++vs.toArray:Array Value)++Array.replicate (fn.ntmps-(#[.func (.yield l) #[] #[]]++vs.toArray:Array Value).size) undef).size=fn.ntmps:=by simp;omega
    refine callsIn_of_wp (n:=n+1) (F:=Fence.wide) hf hb trivial ?_
    have hrep':RepL S w (yv l :: ds) (.func (.yield l) #[] #[] :: vs):=.cons _ _ _ _ (.v _) hrep
    have hR:Inv S w fn.ntmps J ⟨argF 0 (yv l :: ds),hp0,[]⟩ 0 { tmps:=(#[.func (.yield l) #[] #[]]++vs.toArray:Array Value)++Array.replicate (fn.ntmps-(#[.func (.yield l) #[] #[]]++vs.toArray:Array Value).size) undef,defers:=[] } w:=by
      have hSm:∀ b,S b→Im (fun b=>(S b∨w.heap.size≤b)∧¬ L0 b) (fun _=>0) hp0 w b:=fun b hb=>⟨⟨.inl hb,(hlt b hb).2⟩,(hlt b hb).1,fun ⟨_,_,h,_⟩=>by simp [hp0] at h⟩
      have hV:(fun b=>Live (fun _=>0) hp0 b)=fun _=>False:=by
        funext b;exact propext ⟨fun ⟨_,_,h,_⟩=>by simp [hp0] at h,False.elim⟩
      refine ⟨fun _=>0,L0,⟨⟨fun i x hx=>?_,fun _ _ h=>by simp [hp0] at h,fun _ _ _ _ h=>by simp [hp0] at h,fun i x hx=>?_,fun _ _ _ h=>by simp [hp0] at h,fun _ _ h=>by simp [hp0] at h,fun _ _ h=>by simp [hp0] at h,Foot.refl _ _,Marks.nil _ _ _,hN,fun b hb=>⟨.inr hb,fun hl=>by have:=hL0 b hl;omega⟩,fun _ _ h=>by cases h⟩, ?_,hL0,fun b ⟨_,_,h,_⟩=>by simp [hp0] at h,Nat.le_refl _⟩⟩
      · obtain ⟨_,d,hd,rfl⟩:=Qi4 (yv l :: ds) 0 i x hx
        obtain ⟨v,hv,hdv⟩:=hrep'.get i d (by simpa using hd)
        have:((#[.func (.yield l) #[] #[]]++vs.toArray:Array Value)++Array.replicate (fn.ntmps-(#[.func (.yield l) #[] #[]]++vs.toArray:Array Value).size) undef).getD i undef=v:=by
          have e:(#[.func (.yield l) #[] #[]]++vs.toArray:Array Value)=(Value.func (.yield l) #[] #[] :: vs).toArray:=by simp
          have hil:i<(Value.func (.yield l) #[] #[] :: vs).length:=(List.getElem?_eq_some_iff.1 hv).1
          rw [e,Array.getD_eq_getD_getElem?,Array.getElem?_append_left (by simpa using hil)]
          simp [hv]
        rw [this]
        exact .d _ _ (hdv.mono hSm (fun _ _=>rfl))
      · obtain ⟨_,d,_,rfl⟩:=Qi4 (yv l :: ds) 0 i x hx
        trivial
      · show J 0 L0 (fun b=>Live (fun _=>0) hp0 b) w
        rw [hV];exact h0
    refine wpIn_mono (hwalk n l S w J Jx _ w hJ hJx hans hR hw body (hok body hb) hcc) ?_
    have hresE:∀ (tm:Array Value) (w':World),(results fn tm).run P w'=.ok (.tuple #[]) w':=by
      intro tm w'
      have hr0:fn.results.toList=[]:=by
        cases hrl:fn.results.toList with
        | nil=>rfl
        | cons r rl=>rw [hrl] at hrs;simp [mapO,Option.bind_eq_some_iff,Option.map_eq_some_iff] at hrs
      exact QiE (vs:=[]) (by rw [hr0];rfl)
    intro e a' W' hq
    have fin:(((∃ st,Inv S w fn.ntmps J st xs.length a' W')∨∃ st i,Inv S w fn.ntmps Jx st i a' W'))→a'.defers=[]∧∃ v,(results fn a'.tmps).run P W'=.ok v W'∧((∃ v',Ending.returned v=.returned v')∧∃ i L V,(i=xs.length∧J i L V W')∨Jx i L V W'):=by
      rintro (⟨st,hI⟩ | ⟨st,i,hI⟩)
      · refine ⟨hI.nodefer,_,hresE _ _,⟨_,rfl⟩, ?_⟩
        obtain ⟨m,L,hI⟩:=hI
        exact ⟨_,L,_,.inl ⟨rfl,hI.j⟩⟩
      · refine ⟨hI.nodefer,_,hresE _ _,⟨_,rfl⟩, ?_⟩
        obtain ⟨m,L,hI⟩:=hI
        exact ⟨_,L,_,.inr hI.j⟩
    cases e with
    | normal=>exact fin hq.2
    | ret=>exact fin hq.2
    | exit id=>exact absurd rfl (hq.1 id)
    | _=>exact hq.elim
  · cases hc
end
end Go.AM

