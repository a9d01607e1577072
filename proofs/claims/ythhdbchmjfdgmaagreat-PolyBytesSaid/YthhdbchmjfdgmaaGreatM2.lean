/- Part 2 of the proof: a small machine, its soundness against the model, and what the program's functions compute on it. -/
import Derived.Test.YthhdbchmjfdgmaaGreatM1
import Derived.OrdersIn
import Derived.Scope
import Derived.RangeFuncSeq
set_option linter.unusedVariables false
set_option linter.unusedSimpArgs false
/- Part 11: two operations that may come in either order. -/
namespace Go.AM
open Go Go.RowKit

section
variable {cl:Cl} {k:Key}

/-! ### What an operation reads of the frame -/
theorem Qax {st st':St} {e:E} (h:∀ t,t∈e.tmps→st'.fr t=st.fr t):e.ev st'=e.ev st:=by
 cases e with
 | t n=>exact h n (by simp [E.tmps])
 | c x=>rfl
 | f n=>rfl
theorem QeD {st st':St}:∀ {l:List E},(∀ t,t∈l.flatMap (·.tmps)→st'.fr t=st.fr t)→allE st' l=allE st l
 | [],_=>rfl
 | e :: r,h=>by
  simp only [List.flatMap_cons,List.mem_append] at h
  simp only [allE,Qax (fun t ht=>h t (.inl ht)),QeD (fun t ht=>h t (.inr ht))]
theorem Qhs {st st':St}:∀ {l:List (Nat×E)},(∀ t,t∈l.flatMap (·.2.tmps)→st'.fr t=st.fr t)→QgR st' l=QgR st l
 | [],_=>rfl
 | (i,e) :: r,h=>by
  simp only [List.flatMap_cons,List.mem_append] at h
  simp only [QgR,Qax (fun t ht=>h t (.inl ht)),Qhs (fun t ht=>h t (.inr ht))]
theorem QhQ {st st':St}:∀ {l:List (Nat×Nat×E)},(∀ t,t∈l.flatMap (·.2.2.tmps)→st'.fr t=st.fr t)→QbA st' l=QbA st l
 | [],_=>rfl
 | (i,j,e) :: r,h=>by
  simp only [List.flatMap_cons,List.mem_append] at h
  simp only [QbA,Qax (fun t ht=>h t (.inl ht)),QhQ (fun t ht=>h t (.inr ht))]
theorem Qml {st st':St} {d:Int} {e:Option E} (h:∀ t,t∈oE e→st'.fr t=st.fr t):optI st' d e=optI st d e:=by
 cases e with
 | none=>rfl
 | some e=>simp only [optI,Qax h]
theorem Qj0 {st st':St} {n:Nat} {a b c:Option E} (h1:∀ t,t∈oE a→st'.fr t=st.fr t) (h2:∀ t,t∈oE b→st'.fr t=st.fr t) (h3:∀ t,t∈oE c→st'.fr t=st.fr t):bnds st' n a b c=bnds st n a b c:=by
 unfold bnds
 rw [Qml h1,Qml h2]
 cases c with
 | none=>rfl
 | some e=>simp only [Qax h3]
theorem Qmi {st st':St} {es:Nat} {a b c:Option E} {x:A} (h1:∀ t,t∈oE a→st'.fr t=st.fr t) (h2:∀ t,t∈oE b→st'.fr t=st.fr t) (h3:∀ t,t∈oE c→st'.fr t=st.fr t):slcA st' es a b c x=slcA st es a b c x:=by
 unfold slcA
 split<;>simp only [Qj0 h1 h2 h3]
theorem QoD {st st':St} (hh:st'.hp=st.hp) (x:A):src st' x=src st x:=by
 unfold src;rw [hh]
theorem Qsz {st st':St} (hh:st'.hp=st.hp) (x:A):srcS st' x=srcS st x:=by
 unfold srcS;simp only [QoD hh]
theorem Qk7 {st st':St} (hh:st'.hp=st.hp):∀ l:List A,QiD st' l=QiD st l
 | []=>rfl
 | x :: r=>by
  have:argD st' x=argD st x:=by unfold argD;rw [hh]
  simp only [QiD,this,Qk7 hh r]
theorem Qmj {st st':St} (hh:st'.hp=st.hp):∀ l:List A,snap st' l=snap st l
 | []=>rfl
 | x :: r=>by
  have ih:=Qmj hh r
  cases x with
  | ptr q o=>cases o<;>simp only [snap,hh,ih]
  | _=>simp only [snap,ih]

theorem act_congr {st st':St} {i:I} (h:∀ t,t∈i.reads→st'.fr t=st.fr t) (hh:st'.hp=st.hp):act cl k st' i=act cl k st i:=by
 cases i<;>simp only [I.reads,List.mem_append] at h<;>simp only [act,hh,QoD hh,Qsz hh,Qk7 hh,Qmj hh]
 case mov x=>rw [Qax h]
 case pick c a b=>rw [Qax fun t ht=>h t (.inl (.inl ht)),Qax fun t ht=>h t (.inl (.inr ht)),Qax fun t ht=>h t (.inr ht)]
 case box x=>rw [Qax h]
 case build zs ps=>rw [QhQ h]
 case lit es n zs ps fz=>rw [Qhs h]
 case load sz x=>rw [Qax h]
 case store sz a x=>rw [Qax fun t ht=>h t (.inl ht),Qax fun t ht=>h t (.inr ht)]
 case bin op a x=>rw [Qax fun t ht=>h t (.inl ht),Qax fun t ht=>h t (.inr ht)]
 case binb op a x=>rw [Qax fun t ht=>h t (.inl ht),Qax fun t ht=>h t (.inr ht)]
 case eqs n op a x=>rw [Qax fun t ht=>h t (.inl ht),Qax fun t ht=>h t (.inr ht)]
 case un op x=>rw [Qax h]
 case conv c x=>rw [Qax h]
 case mkfn f xs sn=>rw [QeD h]
 case mksl es by_ zs a x=>rw [Qax fun t ht=>h t (.inl ht),Qax fun t ht=>h t (.inr ht)]
 case slc es x a b c =>
  rw [Qax fun t ht=>h t (.inl (.inl (.inl ht)))]
  simp only [Qmi (fun t ht=>h t (.inl (.inl (.inr ht)))) (fun t ht=>h t (.inl (.inr ht))) (fun t ht=>h t (.inr ht))]
 case sls x a b =>
  rw [Qax fun t ht=>h t (.inl (.inl ht))]
  simp only [Qj0 (c:=none) (fun t ht=>h t (.inl (.inr ht))) (fun t ht=>h t (.inr ht)) (fun t ht=>by simp [oE] at ht)]
 case fad off x=>rw [Qax h]
 case fld off sz x=>rw [Qax h]
 case ixa es a x=>rw [Qax fun t ht=>h t (.inl ht),Qax fun t ht=>h t (.inr ht)]
 case ixs a x=>rw [Qax fun t ht=>h t (.inl ht),Qax fun t ht=>h t (.inr ht)]
 case ext x i=>rw [Qax h]
 case call f xs ad=>rw [QeD h]
 case calv x xs=>rw [Qax fun t ht=>h t (.inl ht),QeD fun t ht=>h t (.inr ht)]
 case len x=>rw [Qax h]
 case lns x=>rw [Qax h]
 case isn n x=>rw [Qax h]
 case app es by_ a x fz=>rw [Qax fun t ht=>h t (.inl ht),Qax fun t ht=>h t (.inr ht)]
 case cpy es a x=>rw [Qax fun t ht=>h t (.inl ht),Qax fun t ht=>h t (.inr ht)]
 case mx xs=>rw [QeD h]
 case mn xs=>rw [QeD h]

/-! ### The heap under it changed -/
def Qeu (st:St) (h:Hp):St:={ st with hp:=h }
theorem Qge (st:St) (h:Hp) (e:E):e.ev (Qeu st h)=e.ev st:=Qax fun _ _=>rfl
theorem Qmk (st:St) (h:Hp) (l:List E):allE (Qeu st h) l=allE st l:=QeD fun _ _=>rfl
theorem QoV (st:St) (h:Hp) (l:List (Nat×E)):QgR (Qeu st h) l=QgR st l:=Qhs fun _ _=>rfl
theorem Qn4 (st:St) (h:Hp) (l:List (Nat×Nat×E)):QbA (Qeu st h) l=QbA st l:=QhQ fun _ _=>rfl
theorem Qst (st:St) (h:Hp) (n:Nat) (a b c:Option E):bnds (Qeu st h) n a b c=bnds st n a b c:=Qj0 (fun _ _=>rfl) (fun _ _=>rfl) fun _ _=>rfl
theorem Qr1 (st:St) (h:Hp) (n:Nat) (a b c:Option E) (x:A):slcA (Qeu st h) n a b c x=slcA st n a b c x:=Qmi (fun _ _=>rfl) (fun _ _=>rfl) fun _ _=>rfl

theorem act0 {st:St} {i:I} (hc:i.class=0) {x:A} {h1:Hp} (ha:act cl k st i=some (x,h1)):h1=st.hp∧∀ h',act cl k (Qeu st h') i=some (x,h'):=by
  cases i<;>simp [I.class] at hc<;>simp only [act,Qge,Qmk,Qn4,Qst] at ha ⊢<;>(try simp only [Option.map_eq_some_iff,Option.bind_eq_some_iff,Prod.mk.injEq] at ha ⊢)
  case mov x=>obtain ⟨y,hy,rfl,rfl⟩:=ha;exact ⟨rfl,fun h'=>⟨_,hy,rfl,rfl⟩⟩
  case pick c a b=>obtain ⟨y,hy,t,ht,z,hz,rfl,rfl⟩:=ha;exact ⟨rfl,fun h'=>⟨_,hy,_,ht,_,hz,rfl,rfl⟩⟩
  case build zs ps=>obtain ⟨y,hy,t,ht,rfl,rfl⟩:=ha;exact ⟨rfl,fun h'=>⟨_,hy,_,ht,rfl,rfl⟩⟩
  case bin op a b=>obtain ⟨y,hy,z,hz,u,hu,v,hv,r,hr,rfl,rfl⟩:=ha;exact ⟨rfl,fun h'=>⟨_,hy,_,hz,_,hu,_,hv,_,hr,rfl,rfl⟩⟩
  case binb op a b=>obtain ⟨y,hy,z,hz,u,hu,v,hv,rfl,rfl⟩:=ha;exact ⟨rfl,fun h'=>⟨_,hy,_,hz,_,hu,_,hv,rfl,rfl⟩⟩
  case eqs n op a b =>
    obtain ⟨y,hy,z,hz,u,hu,v,hv,ha⟩:=ha
    obtain ⟨hl,ha⟩:=Qaf ha
    simp only [Option.map_eq_some_iff,Prod.mk.injEq] at ha
    obtain ⟨r,hr,rfl,rfl⟩:=ha
    exact ⟨rfl,fun h'=>⟨_,hy,_,hz,_,hu,_,hv,by rw [guardO,if_pos hl,hr];rfl⟩⟩
  case un op a=>obtain ⟨y,hy,z,hz,u,hu,rfl,rfl⟩:=ha;exact ⟨rfl,fun h'=>⟨_,hy,_,hz,_,hu,rfl,rfl⟩⟩
  case sls x lo hi=>obtain ⟨y,hy,z,hz,u,hu,rfl,rfl⟩:=ha;exact ⟨rfl,fun h'=>⟨_,hy,_,hz,_,hu,rfl,rfl⟩⟩
  case fad off x=>obtain ⟨y,hy,z,hz,rfl,rfl⟩:=ha;exact ⟨rfl,fun h'=>⟨_,hy,_,hz,rfl,rfl⟩⟩
  case fld off sz x=>obtain ⟨y,hy,z,hz,u,hu,rfl,rfl⟩:=ha;exact ⟨rfl,fun h'=>⟨_,hy,_,hz,_,hu,rfl,rfl⟩⟩
  case ixs a b =>
    obtain ⟨y,hy,z,hz,u,hu,v,hv,hg⟩:=ha
    obtain ⟨hg1,hg2⟩:=Qaf hg
    simp only [Option.some.injEq,Prod.mk.injEq] at hg2
    obtain ⟨rfl,rfl⟩:=hg2
    exact ⟨rfl,fun h'=>⟨_,hy,_,hz,_,hu,_,hv,by simp only [guardO,hg1,and_self,if_true];rfl⟩⟩
  case ext x j=>obtain ⟨y,hy,z,hz,rfl,rfl⟩:=ha;exact ⟨rfl,fun h'=>⟨_,hy,_,hz,rfl,rfl⟩⟩
  case len x=>obtain ⟨y,hy,z,hz,rfl,rfl⟩:=ha;exact ⟨rfl,fun h'=>⟨_,hy,_,hz,rfl,rfl⟩⟩
  case lns x=>obtain ⟨y,hy,z,hz,rfl,rfl⟩:=ha;exact ⟨rfl,fun h'=>⟨_,hy,_,hz,rfl,rfl⟩⟩
  case isn n x=>obtain ⟨y,hy,z,hz,rfl,rfl⟩:=ha;exact ⟨rfl,fun h'=>⟨_,hy,_,hz,rfl,rfl⟩⟩
  case mx xs =>
    obtain ⟨as,has,ha⟩:=ha
    split at ha
    · rename_i u r
      simp only [Option.map_eq_some_iff,Prod.mk.injEq] at ha
      obtain ⟨v,hv,rfl,rfl⟩:=ha
      exact ⟨rfl,fun h'=>⟨_,has,by simp [hv];rfl⟩⟩
    · cases ha
  case mn xs =>
    obtain ⟨as,has,ha⟩:=ha
    split at ha
    · rename_i u r
      simp only [Option.map_eq_some_iff,Prod.mk.injEq] at ha
      obtain ⟨v,hv,rfl,rfl⟩:=ha
      exact ⟨rfl,fun h'=>⟨_,has,by simp [hv];rfl⟩⟩
    · cases ha
end
end Go.AM

/- Part 12: they may come in either order. -/
namespace Go.AM
open Go Go.RowKit

def extH (h:Hp) (k:Key):Option Obj→Hp
 | none=>h
 | some o=>hupd h k o
def Qho (h h':Hp):A→Prop:=refP (fun q=>h' q=h q) (fun q _=>h' q=h q)
def agreeL (h h':Hp):List A→Prop:=Qe9 (fun q=>h' q=h q) (fun q _=>h' q=h q)
section
variable {cl:Cl} {k:Key}

theorem QpJ {h h':Hp} {sz:Option Nat} {y:A} (ha:Qho h h' y):Qco h' sz y=Qco h sz y:=by
 cases y with
 | ptr q o=>simp only [Qco,show h' q=h q from ha]
 | ep q n o=>simp only [Qco,show h' q=h q from ha]
 | d x=>cases x<;>rfl
 | _=>rfl
theorem Qsl {h h':Hp} {es:Nat} {j:Int} {y:A} (ha:Qho h h' y):ixaA h' es j y=ixaA h es j y:=by
 cases y with
 | own q n=>simp only [ixaA,show h' q=h q from ha]
 | d x=>cases x<;>rfl
 | _=>rfl
theorem Qlk {st:St} {h':Hp} {y:A} (ha:Qho st.hp h' y):src (Qeu st h') y=src st y:=by
 cases y with
 | own q n=>simp only [src,Qeu,show h' q=st.hp q from ha]
 | d x =>
  cases x with
  | v u=>cases u<;>rfl
  | _=>rfl
 | _=>rfl
theorem Qms {st:St} {h':Hp} {y:A} (ha:Qho st.hp h' y):srcS (Qeu st h') y=srcS st y:=by
 cases y with
 | d x=>cases x<;>first | rfl | exact Qlk ha
 | _=>exact Qlk ha
theorem QiG {st:St} {h':Hp}:∀ {l:List A},agreeL st.hp h' l→QiD (Qeu st h') l=QiD st l
 | [],_=>rfl
 | x :: r,ha=>by
  have:argD (Qeu st h') x=argD st x:=by
   have h1:Qho st.hp h' x:=ha.1
   cases x with
   | own q n=>simp only [argD,Qeu,show h' q=st.hp q from h1]
   | _=>rfl
  simp only [QiD,this,QiG ha.2]
theorem QkS      {h h1:Hp} {fz:Bool} {es n:Nat} {cs:List D} {x:A} (hm:mkA k h fz es n cs=some (x,h1)) (h':Hp) :
    ∃ ob:Option Obj,h1=extH h k ob∧(ob≠none→h k=none)∧((ob≠none→h' k=none)→mkA k h' fz es n cs=some (x,extH h' k ob)):=by
  unfold mkA at hm ⊢
  cases fz with
  | true =>
    simp only [if_true,Option.some.injEq,Prod.mk.injEq] at hm
    obtain ⟨rfl,rfl⟩:=hm
    exact ⟨none,rfl,by simp,fun _=>rfl⟩
  | false =>
    simp only [Bool.false_eq_true,if_false] at hm
    obtain ⟨h0,hm⟩:=Qaf hm
    simp only [Option.some.injEq,Prod.mk.injEq] at hm
    obtain ⟨rfl,rfl⟩:=hm
    refine ⟨some ⟨es,n,cs.map .d,false⟩,rfl,fun _=>by simpa using h0,fun hk=>?_⟩
    have:=hk (by simp)
    simp [guardO,this,extH]
theorem Qop       {h h1:Hp} {ad fz:Bool} {r:R} {x:A} (hm:retA k h ad fz r=some (x,h1)) (h':Hp) :
    ∃ ob:Option Obj,h1=extH h k ob∧(ob≠none→h k=none)∧((ob≠none→h' k=none)→retA k h' ad fz r=some (x,extH h' k ob)):=by
  cases r with
  | d y =>
    simp only [retA] at hm ⊢
    obtain ⟨h0,hm⟩:=Qaf hm
    simp only [Option.some.injEq,Prod.mk.injEq] at hm
    obtain ⟨rfl,rfl⟩:=hm
    exact ⟨none,rfl,by simp,fun _=>by simp only [guardO,h0,if_true,extH]⟩
  | own es n cs =>
    simp only [retA] at hm ⊢
    obtain ⟨h0,hm⟩:=Qaf hm
    obtain ⟨ob,g1,g2,g3⟩:=QkS hm h'
    exact ⟨ob,g1,g2,fun hk=>by simp only [guardO,h0,if_true];exact g3 hk⟩

theorem QkU {st:St} {h':Hp} {e:E} {v:A} (hv:e.ev st=some v) (hag:∀ t,t∈e.tmps→∀ v,st.fr t=some v→Qho st.hp h' v):Qho st.hp h' v:=by
 cases e with
 | t n=>exact hag n (by simp [E.tmps]) v hv
 | c x=>simp only [E.ev,Option.some.injEq] at hv;subst hv;trivial
 | f n=>simp only [E.ev,Option.some.injEq] at hv;subst hv;trivial
theorem QjC {st:St} {h':Hp}:∀ {l:List E} {vs:List A},allE st l=some vs→(∀ t,t∈l.flatMap (·.tmps)→∀ v,st.fr t=some v→Qho st.hp h' v)→agreeL st.hp h' vs
 | [],vs,hv,_=>by simp only [allE,Option.some.injEq] at hv;subst hv;trivial
 | e :: r,vs,hv,hag=>by
  simp only [allE,Option.bind_eq_some_iff,Option.map_eq_some_iff] at hv
  obtain ⟨y,hy,as,has,rfl⟩:=hv
  simp only [List.flatMap_cons,List.mem_append] at hag
  exact ⟨QkU hy (fun t ht=>hag t (.inl ht)),QjC has (fun t ht=>hag t (.inr ht))⟩

theorem act1 {st:St} {i:I} (hc:i.class=1) {x:A} {h1:Hp} (ha:act cl k st i=some (x,h1)) {h':Hp} (hag:∀ t,t∈i.reads→∀ v,st.fr t=some v→Qho    st.hp h' v) :
    ∃ ob:Option Obj,h1=extH st.hp k ob∧(ob≠none→st.hp k=none)∧((ob≠none→h' k=none)→act cl k (Qeu st h') i=some (x,extH h' k ob)):=by
  have hw:(Qeu st h').hp=h':=rfl
  cases i<;>simp [I.class] at hc<;>simp only [I.reads,List.mem_append] at hag<;>simp only [act,Qge,Qmk,QoV,Qr1,hw] at ha ⊢
  case new zs =>
    obtain ⟨h0,ha⟩:=Qaf ha
    simp only [Option.some.injEq,Prod.mk.injEq] at ha
    obtain ⟨rfl,rfl⟩:=ha
    refine ⟨some _,rfl,fun _=>by simpa using h0,fun hk=>?_⟩
    have:=hk (by simp)
    simp [guardO,this,extH]
  case box u =>
    simp only [Option.bind_eq_some_iff] at ha ⊢
    obtain ⟨y,hy,ha⟩:=ha
    obtain ⟨⟨h0,h2⟩,ha⟩:=Qaf ha
    simp only [Option.some.injEq,Prod.mk.injEq] at ha
    obtain ⟨rfl,rfl⟩:=ha
    refine ⟨some _,rfl,fun _=>by simpa using h0,fun hk=>⟨y,hy, ?_⟩⟩
    have:=hk (by simp)
    simp only [guardO,this,h2,Option.isNone_none,and_self,if_true,extH]
  case lit es n zs ps fz =>
    simp only [Option.bind_eq_some_iff] at ha ⊢
    obtain ⟨q,hq,ds,hds,ha⟩:=ha
    obtain ⟨ob,g1,g2,g3⟩:=QkS ha h'
    exact ⟨ob,g1,g2,fun hk=>⟨q,hq,ds,hds,g3 hk⟩⟩
  case load sz u =>
    simp only [Option.bind_eq_some_iff,Option.map_eq_some_iff,Prod.mk.injEq] at ha ⊢
    obtain ⟨y,hy,z,hz,rfl,rfl⟩:=ha
    exact ⟨none,rfl,by simp,fun _=>⟨y,hy,z,by rw [QpJ (QkU hy hag)];exact hz,rfl,rfl⟩⟩
  case conv c u =>
    simp only [Option.bind_eq_some_iff] at ha ⊢
    obtain ⟨y,hy,ha⟩:=ha
    cases c with
    | int kd =>
      simp only [Option.map_eq_some_iff,Prod.mk.injEq] at ha ⊢
      obtain ⟨j,hj,rfl,rfl⟩:=ha
      exact ⟨none,rfl,by simp,fun _=>⟨y,hy,j,hj,rfl,rfl⟩⟩
    | b2s =>
      simp only [Option.bind_eq_some_iff] at ha ⊢
      obtain ⟨p,hp,ha⟩:=ha
      obtain ⟨h0,ha⟩:=Qaf ha
      simp only [Option.map_eq_some_iff,Prod.mk.injEq] at ha
      obtain ⟨bs,hb,rfl,rfl⟩:=ha
      refine ⟨none,rfl,by simp,fun _=>⟨y,hy,p,by rw [Qms (QkU hy hag)];exact hp, ?_⟩⟩
      simp only [guardO,h0,if_true,hb,Option.map_some,extH]
    | s2b fz =>
      simp only [Option.bind_eq_some_iff] at ha ⊢
      obtain ⟨p,hp,ha⟩:=ha
      obtain ⟨ob,g1,g2,g3⟩:=QkS ha h'
      exact ⟨ob,g1,g2,fun hk=>⟨y,hy,p,hp,g3 hk⟩⟩
    | id=>cases ha
  case mksl es by_ zs u v =>
    simp only [Option.bind_eq_some_iff] at ha ⊢
    obtain ⟨y,hy,z,hz,j,hj,q,hq,ha⟩:=ha
    obtain ⟨h0,ha⟩:=Qaf ha
    obtain ⟨ob,g1,g2,g3⟩:=QkS ha h'
    exact ⟨ob,g1,g2,fun hk=>⟨y,hy,z,hz,j,hj,q,hq,by rw [guardO,if_pos h0];exact g3 hk⟩⟩
  case slc es u lo hi mx =>
    simp only [Option.bind_eq_some_iff,Option.map_eq_some_iff,Prod.mk.injEq] at ha ⊢
    obtain ⟨y,hy,z,hz,rfl,rfl⟩:=ha
    exact ⟨none,rfl,by simp,fun _=>⟨y,hy,z,hz,rfl,rfl⟩⟩
  case ixa es u v =>
    simp only [Option.bind_eq_some_iff,Option.map_eq_some_iff,Prod.mk.injEq] at ha ⊢
    obtain ⟨y,hy,z,hz,j,hj,r,hr,rfl,rfl⟩:=ha
    exact ⟨none,rfl,by simp,fun _=>⟨y,hy,z,hz,j,hj,r,by rw [Qsl (QkU hy fun t ht=>hag t (.inl ht))];exact hr,rfl,rfl⟩⟩
  case call f xs ad =>
    simp only [Option.bind_eq_some_iff] at ha ⊢
    obtain ⟨as,has,p,hp,r,hr,ha⟩:=ha
    obtain ⟨ob,g1,g2,g3⟩:=Qop ha h'
    exact ⟨ob,g1,g2,fun hk=>⟨as,has,p,by rw [QiG (QjC has hag)];exact hp,r,hr,g3 hk⟩⟩
  case calv u xs =>
    simp only [Option.bind_eq_some_iff] at ha ⊢
    obtain ⟨y,hy,q,hq,as,has,p,hp,r,hr,ha⟩:=ha
    obtain ⟨ob,g1,g2,g3⟩:=Qop ha h'
    exact ⟨ob,g1,g2,fun hk=>⟨y,hy,q,hq,as,has,p,by rw [QiG (QjC has fun t ht=>hag t (.inr ht))];exact hp,r,hr,g3 hk⟩⟩

/-! ### Two in either order -/
theorem Qpt {h:Hp} {k q:Key} {ob:Option Obj} (h0:ob≠none→h k=none) (hq:h q≠none):extH h k ob q=h q:=by
 cases ob with
 | none=>rfl
 | some o =>
  have:=h0 (by simp)
  simp only [extH,hupd,Qbw]
  split
  ·rename_i e;subst e;exact absurd this hq
  ·rfl
theorem extH_none {h:Hp} {k q:Key} {ob:Option Obj} (h0:extH h k ob q=none):h q=none∧(ob≠none→q≠k):=by
  cases ob with
  | none=>exact ⟨h0,by simp⟩
  | some o =>
    simp only [extH,hupd,Qbw] at h0
    split at h0
    · cases h0
    · rename_i e;exact ⟨h0,fun _=>e⟩
theorem Qkt {h:Hp} {k q:Key} {ob:Option Obj} (h0:h q=none) (hne:ob≠none→q≠k):extH h k ob q=none:=by
 cases ob with
 | none=>exact h0
 | some o =>
  have:=hne (by simp)
  simp only [extH,hupd,Qbw,this,if_false];exact h0
theorem extH_comm {h:Hp} {k q:Key} {ob ob':Option Obj} (hne:ob≠none→ob'≠none→k≠q):extH (extH h k ob) q ob'=extH (extH h q ob') k ob:=by
 cases ob with
 | none=>rfl
 | some o =>
  cases ob' with
  | none=>rfl
  | some o' =>
   have:=hne (by simp) (by simp)
   funext j
   simp only [extH,hupd,Qbw]
   by_cases h1:j=k<;>by_cases h2:j=q
   ·subst h1;exact absurd h2 this
   ·simp [h1,h2,this]
   ·simp [h1,h2,Ne.symm this]
   ·simp [h1,h2]
theorem putO_comm {f:Fr} {d e:Option Nat} {x y:A} (h:∀ a,d=some a→e≠some a):putO (putO f d x) e y=putO (putO f e y) d x:=by
 cases d with
 | none=>rfl
 | some a =>
  cases e with
  | none=>rfl
  | some b =>
   have hab:b≠a:=fun hb=>h a rfl (by rw [hb])
   funext j
   simp only [putO,upd,updO]
   by_cases h1:j=a<;>by_cases h2:j=b
   ·subst h1;exact absurd h2.symm hab
   ·simp [h1,h2,Ne.symm hab]
   ·simp [h1,h2,hab]
   ·simp [h1,h2]
theorem QnA {f:Fr} {d:Option Nat} {x:A} {t:Nat} (h:d≠some t):putO f d x t=f t:=by
 cases d with
 | none=>rfl
 | some a =>
  have:t≠a:=fun e=>h (by rw [e])
  simp [putO,upd,updO,this]

def ClF (st:St):Prop:=∀ i x,st.fr i=some x→QaS st.hp x
theorem QhP {h h':Hp} (hh:∀ q,h q≠none→h' q=h q) {x:A} (hc:QaS h x):Qho h h' x :=
 Qaw (fun q ⟨o,ho,_⟩=>hh q (by rw [ho];simp)) (fun q n ⟨o,ho,_⟩=>hh q (by rw [ho];simp)) hc
theorem QsA {h h':Hp} (hh:∀ q,h q≠none→h' q=h q) {x:A} (hc:QaS h x):Qho h' h x :=
 Qaw (fun q ⟨o,ho,_⟩=>(hh q (by rw [ho];simp)).symm) (fun q n ⟨o,ho,_⟩=>(hh q (by rw [ho];simp)).symm) hc

theorem Qkb {st st':St} {g:Option (Nat×Bool)} (h:∀ t b,g=some (t,b)→st'.fr t=st.fr t):Qdi st' g=Qdi st g:=by
 cases g with
 | none=>rfl
 | some p=>obtain ⟨t,b⟩:=p;simp only [Qdi,h t b rfl]

theorem Qm2 {sz:Option Nat} {o p t:Nat} {cs cs' new:List A} {z:A} (hst:Qac p new cs=some cs') (ht:new.length=t) (hap:o+sz.getD 1≤p∨p+t≤o) (h:Qab sz o cs=some z):Qab sz o cs'=some z:=by
 subst ht
 unfold Qac at hst
 obtain ⟨hle,hst⟩:=Qaf hst
 simp only [Option.some.injEq] at hst
 have hget:∀ j,j<o+sz.getD 1→o≤j→cs'[j]?=cs[j]?:=by
  intro j h1 h2
  rw [← hst,QjH cs new p hle]
  by_cases h3:j<p
  ·rw [if_pos h3]
  ·rw [if_neg h3,if_neg (by omega)]
 have hlen:cs'.length=cs.length:=by rw [← hst];simp;omega
 cases sz with
 | none =>
  simp only [Qab] at h ⊢
  rw [hget o (by simp) (Nat.le_refl _)];exact h
 | some s =>
  simp only [Qab] at h ⊢
  obtain ⟨h0,h⟩:=Qaf h
  have heq:(cs'.drop o).take s=(cs.drop o).take s:=by
   apply List.ext_getElem?
   intro j
   simp only [List.getElem?_take,List.getElem?_drop]
   split
   ·exact hget _ (by simp;omega) (by omega)
   ·rfl
  rw [guardO,if_pos (by omega),heq];exact h
end
end Go.AM

/- Part 13: the swap of two operations, and one brought to the front. -/
namespace Go.AM
open Go Go.RowKit

section
variable {cl:Cl}

theorem QiR      {st s:St} {o:O} (h:exO cl st o=some s) :
    (Qdi st o.g=some true∧∃ x h1,act cl ((o.dst.getD 0) :: st.px) st o.i=some (x,h1)∧s={ st with fr:=putO st.fr o.dst x,hp:=h1 }) ∨
    (Qdi st o.g=some false∧s={ st with fr:=putO st.fr o.dst Qep }):=by
  unfold exO at h
  simp only [Option.bind_eq_some_iff] at h
  obtain ⟨w,hw,h⟩:=h
  cases w with
  | true =>
    simp only [if_true,Option.map_eq_some_iff] at h
    obtain ⟨⟨x,h1⟩,ha,rfl⟩:=h
    exact .inl ⟨hw,x,h1,ha,rfl⟩
  | false =>
    simp only [Bool.false_eq_true,if_false,Option.some.injEq] at h
    exact .inr ⟨hw,h.symm⟩
theorem QkJ {st:St} {o:O} {x:A} {h1:Hp} (hw:Qdi st o.g=some true) (ha:act cl ((o.dst.getD 0) :: st.px) st o.i=some (x,h1)):exO cl st o=some { st with fr:=putO st.fr o.dst x,hp:=h1 }:=by
 simp [exO,hw,ha]
theorem Qjv {st:St} {o:O} (hw:Qdi st o.g=some false):exO cl st o=some { st with fr:=putO st.fr o.dst Qep }:=by
 simp [exO,hw]

theorem Qnv {st:St} {d:Option Nat} {x:A} {h:Hp} {i:I} {k:Key} (hr:∀ a,d=some a→a ∉ i.reads):act cl k { st with fr:=putO st.fr d x,hp:=h } i=act cl k (Qeu st h) i :=
 act_congr (fun t ht=>QnA (fun e=>hr t e ht)) rfl

def LsOk (st:St) (x y:O):Prop:=∀ q,q∈Qd5 x y→QbF st q=true

theorem QrS {h h':Hp} (hs:∀ k,(h' k).map (fun o=>(o.n,o.cs))=(h k).map (fun o=>(o.n,o.cs))) (sz:Option Nat) (a:A):Qco h' sz a=Qco h sz a:=by
 cases a with
 | ptr k off =>
  have:=hs k
  simp only [Qco]
  cases h1:h' k<;>cases h2:h k<;>simp only [h1,h2,Option.map_some,Option.map_none,reduceCtorEq,Option.some.injEq,Prod.mk.injEq] at this
  ·rfl
  ·simp only [Option.bind_some,this.2]
 | ep k n off =>
  have:=hs k
  simp only [Qco]
  cases h1:h' k<;>cases h2:h k<;>simp only [h1,h2,Option.map_some,Option.map_none,reduceCtorEq,Option.some.injEq,Prod.mk.injEq] at this
  ·rfl
  ·simp only [Option.bind_some,this.2,this.1]
 | d x=>cases x<;>rfl
 | _=>rfl
theorem Qh9:∀ (l:List A) (h:Hp) (k:Key),(Qdq h l k).map (fun o=>(o.n,o.cs))=(h k).map (fun o=>(o.n,o.cs))
 | [],h,k=>rfl
 | a :: r,h,k=>by
  have stay:∀ h':Hp,Qdq h' r k=Qdq h' r k:=fun _=>rfl
  cases a with
  | ptr q off =>
   cases off with
   | zero =>
    simp only [Qdq]
    rw [Qh9 r]
    cases hq:h q with
    | none=>rfl
    | some o =>
     simp only [hupd,Qbw]
     split
     ·rename_i e;subst e;rw [hq];rfl
     ·rfl
   | succ n=>simp only [Qdq];exact Qh9 r h k
  | _=>simp only [Qdq];exact Qh9 r h k
theorem QrU {h h2:Hp} {v w:A} (hs:Qgo h v w=some h2) (es:Nat) (j:Int) (a:A):ixaA h2 es j a=ixaA h es j a:=by
 have key:∀ k,(h2 k).map (fun o=>o.n)=(h k).map (fun o=>o.n):=by
  intro k
  cases w<;>simp only [Qgo,reduceCtorEq,Option.bind_eq_some_iff] at hs
  ·obtain ⟨o,ho,hs⟩:=hs
   obtain ⟨_,hs⟩:=Qaf hs
   simp only [Option.map_eq_some_iff] at hs
   obtain ⟨cs,_,rfl⟩:=hs
   simp only [hupd,Qbw]
   split
   ·rename_i e;subst e;rw [ho];rfl
   ·rfl
  ·obtain ⟨o,ho,hs⟩:=hs
   obtain ⟨_,hs⟩:=Qaf hs
   simp only [Option.bind_eq_some_iff,Option.map_eq_some_iff] at hs
   obtain ⟨_,_,cs,_,rfl⟩:=hs
   simp only [hupd,Qbw]
   split
   ·rename_i e;subst e;rw [ho];rfl
   ·rfl
 cases a with
 | own q n =>
  have:=key q
  simp only [ixaA]
  cases h1:h2 q<;>cases h3:h q<;>simp only [h1,h3,Option.map_some,Option.map_none,reduceCtorEq,Option.some.injEq] at this
  ·rfl
  ·simp only [Option.bind_some,this]
 | d x=>cases x<;>rfl
 | _=>rfl
theorem Qoa {h:Hp} {k q:Key} {o:Obj} {oby:Option Obj} (hne:oby≠none→q≠k):hupd (extH h q oby) k o=extH (hupd h k o) q oby:=by
 cases oby with
 | none=>rfl
 | some o' =>
  have:=hne (by simp)
  funext j
  simp only [extH,hupd,Qbw]
  by_cases h1:j=k<;>by_cases h2:j=q
  ·subst h1;exact absurd h2.symm this
  ·simp [h1,h2,Ne.symm this]
  ·simp [h1,h2,this]
  ·simp [h1,h2]
theorem Qqj      {k:Key} {h hx:Hp} {fz:Bool} {es by_ m:Nat} {ys:List D} {a u:A} (hes:es≠0) (ha:appA k h fz es by_ m ys a=some (u,hx)) :
    (∀ q ob,h q=some ob→ob.es=0→hx q=h q)∧(∀ q,hx q=none→h q=none)∧(∀ ky oby,(oby≠none→hx ky=none)→appA k (extH h ky oby) fz es by_ m ys a=some (u,extH hx ky oby)):=by
  cases a with
  | d x =>
    cases x<;>simp only [appA,reduceCtorEq] at ha
    rename_i b
    obtain ⟨hg,ha⟩:=Qaf ha
    by_cases hm:m=0
    · rw [if_pos hm] at ha
      simp only [Option.some.injEq,Prod.mk.injEq] at ha
      obtain ⟨rfl,rfl⟩:=ha
      exact ⟨fun _ _ _ _=>rfl,fun _ h=>h,fun ky oby _=>by simp only [appA,guardO];rw [if_pos hg,if_pos hm]⟩
    · rw [if_neg hm] at ha
      unfold mkA at ha
      by_cases hf:fz=true
      · rw [if_pos hf] at ha
        simp only [Option.some.injEq,Prod.mk.injEq] at ha
        obtain ⟨rfl,rfl⟩:=ha
        exact ⟨fun _ _ _ _=>rfl,fun _ h=>h,fun ky oby _=>by simp only [appA,mkA,guardO];rw [if_pos hg,if_neg hm,if_pos hf]⟩
      · rw [if_neg hf] at ha
        obtain ⟨hk,ha⟩:=Qaf ha
        simp only [Option.some.injEq,Prod.mk.injEq] at ha
        obtain ⟨rfl,rfl⟩:=ha
        have hk':h k=none:=by simpa using hk
        refine ⟨fun q ob hq _=>?_,fun q hq=>?_,fun ky oby hne=>?_⟩
        · have:q≠k:=fun e=>by rw [e,hk'] at hq;cases hq
          simp [hupd,Qbw,this]
        · simp only [hupd,Qbw] at hq
          split at hq
          · cases hq
          · exact hq
        · have hne' : oby ≠ none → ky ≠ k := fun e1 e2 => by
            have:=hne e1
            simp [hupd,Qbw,e2] at this
          have hn:extH h ky oby k=none:=Qkt hk' fun e=>(hne' e).symm
          simp only [appA,mkA,guardO]
          rw [if_pos hg,if_neg hm,if_neg hf,hn,if_pos Option.isNone_none,Qoa hne']
  | own q n =>
    simp only [appA,Option.bind_eq_some_iff] at ha
    obtain ⟨o,ho,ha⟩:=ha
    obtain ⟨hg,ha⟩:=Qaf ha
    have key:∀ o':Obj,hx=hupd h q o'→(∀ q' ob,h q'=some ob→ob.es=0→hx q'=h q')∧(∀ q',hx q'=none→h q'=none)∧(∀ ky oby,(oby≠none→hx ky=none)→extH h ky oby q=some o∧hupd (extH h ky oby) q o'=extH hx ky oby):=by
      rintro o' rfl
      refine ⟨fun q' ob hq he=>?_,fun q' hq=>?_,fun ky oby hne=>?_⟩
      · have:q'≠q:=fun e=>by rw [e,ho] at hq;cases hq;exact hes (hg.2.2.1 ▸ he)
        simp [hupd,Qbw,this]
      · simp only [hupd,Qbw] at hq
        split at hq
        · cases hq
        · exact hq
      · have hne' : oby ≠ none → ky ≠ q := fun e1 e2 => by
          have:=hne e1
          simp [hupd,Qbw,e2] at this
        refine ⟨?_,Qoa hne'⟩
        cases oby with
        | none=>exact ho
        | some o2 =>
          have:=hne' (by simp)
          simp only [extH,hupd,Qbw,Ne.symm this,if_false];exact ho
    by_cases hf:fz=true
    · rw [if_pos hf] at ha
      simp only [Option.map_eq_some_iff,Prod.mk.injEq] at ha
      obtain ⟨cs,hcs,rfl,rfl⟩:=ha
      obtain ⟨k1,k2,k3⟩:=key _ rfl
      refine ⟨k1,k2,fun ky oby hne=>?_⟩
      obtain ⟨e1,e2⟩:=k3 ky oby hne
      simp only [appA,e1,Option.bind_some,guardO]
      rw [if_pos hg,if_pos hf,hcs,Option.map_some,e2]
    · rw [if_neg hf] at ha
      simp only [Option.some.injEq,Prod.mk.injEq] at ha
      obtain ⟨rfl,rfl⟩:=ha
      obtain ⟨k1,k2,k3⟩:=key _ rfl
      refine ⟨k1,k2,fun ky oby hne=>?_⟩
      obtain ⟨e1,e2⟩:=k3 ky oby hne
      simp only [appA,e1,Option.bind_some,guardO]
      rw [if_pos hg,if_neg hf,e2]
  | _=>simp [appA] at ha
theorem swap {st s1 s2:St} {x y:O} (hcl:ClF st) (hc:Qm7   x y=true) (hls:LsOk st x y) (h1:exO cl st x=some s1) (h2:exO cl s1 y=some s2) :
    ∃ s1',exO cl st y=some s1'∧exO cl s1' x=some s2:=by
  simp only [Qm7,Bool.and_eq_true] at hc
  obtain ⟨⟨c1,c2⟩,c3⟩:=hc
  have hxy:∀ a,x.dst=some a→a ∉ y.reads∧y.dst≠some a:=by
    intro a ha
    rw [ha] at c1
    simp only [Bool.and_eq_true,Bool.not_eq_true',bne_iff_ne,ne_eq] at c1
    exact ⟨fun hm=>(by have:=List.contains_iff_mem.2 hm;rw [this] at c1;cases c1.1),c1.2⟩
  have hyx:∀ a,y.dst=some a→a ∉ x.reads:=by
    intro a ha
    rw [ha] at c2
    simp only [Bool.not_eq_true'] at c2
    exact fun hm=>by have:=List.contains_iff_mem.2 hm;rw [this] at c2;cases c2
  have hxi:∀ a,y.dst=some a→a ∉ x.i.reads:=fun a ha hm=>hyx a ha (List.mem_append_left _ hm)
  have hyi:∀ a,x.dst=some a→a ∉ y.i.reads:=fun a ha hm=>(hxy a ha).1 (List.mem_append_left _ hm)
  have hxg:∀ (fr:Fr) (h:Hp) (v:A),Qdi { st with fr:=putO st.fr y.dst v,hp:=h } x.g=Qdi st x.g:=fun fr h v=>by
    refine Qkb fun t b hg=>?_
    show putO st.fr y.dst v t=st.fr t
    exact QnA fun e=>hyx t e (by simp [O.reads,hg])
  have hyg:∀ (h:Hp) (v:A),Qdi { st with fr:=putO st.fr x.dst v,hp:=h } y.g=Qdi st y.g:=fun h v=>by
    refine Qkb fun t b hg=>?_
    show putO st.fr x.dst v t=st.fr t
    exact QnA fun e=>(hxy t e).1 (by simp [O.reads,hg])
  have hput:∀ u v:A,putO (putO st.fr x.dst u) y.dst v=putO (putO st.fr y.dst v) x.dst u:=fun u v=>putO_comm fun a ha=>(hxy a ha).2
  rcases QiR h1 with ⟨wx,u,hx,ax,rfl⟩ | ⟨wx,rfl⟩
  · rcases QiR h2 with ⟨wy,v,hy,ay,rfl⟩ | ⟨wy,rfl⟩
    · rw [hyg] at wy
      rw [Qnv hyi] at ay
      have core:∃ hy',act cl ((y.dst.getD 0) :: st.px) st y.i=some (v,hy')∧act cl ((x.dst.getD 0) :: st.px) (Qeu st hy') x.i=some (u,hy):=by
        have hself:Qeu st st.hp=st:=rfl
        simp only [Bool.or_eq_true,beq_iff_eq,Bool.and_eq_true] at c3
        rcases c3 with ((((((c | c) | ⟨ca,cb⟩) | ⟨⟨⟨ca,cb⟩,cg1⟩,cg2⟩) | ⟨ca,cb⟩) | ⟨ca,cb⟩) | ⟨ca,cb⟩) | ⟨ca,cb⟩
        · obtain ⟨rfl,g⟩:=act0 c ax
          exact ⟨hy,ay,g hy⟩
        · obtain ⟨rfl,g⟩:=act0 c ay
          refine ⟨st.hp, ?_,ax⟩
          have:=g st.hp
          exact this
        · have hsub : ∀ q, st.hp q ≠ none → hx q = st.hp q := by
            obtain ⟨ob,e1,e2,_⟩:=act1 (h':=st.hp) ca ax (fun t _ v hv=>Qaw (fun _ _=>rfl) (fun _ _ _=>rfl) (hcl t v hv))
            intro q hq
            rw [e1];exact Qpt e2 hq
          obtain ⟨oby,b1,b2,b3⟩:=act1 (st:=Qeu st hx) (h':=st.hp) cb ay (fun t _ v hv=>QsA hsub (hcl t v hv))
          have b2':oby≠none→hx (y.dst.getD 0 :: st.px)=none:=b2
          have hxn:∀ q,hx q=none→st.hp q=none:=fun q hq=>by
            cases hh:st.hp q with
            | none=>rfl
            | some o=>rw [hsub q (by rw [hh];simp),hh] at hq;cases hq
          have ay':=b3 fun hne=>hxn _ (b2' hne)
          have ay'':act cl (y.dst.getD 0 :: st.px) st y.i=some (v,extH st.hp (y.dst.getD 0 :: st.px) oby):=ay'
          refine ⟨_,ay'', ?_⟩
          have hsub2:∀ q,st.hp q≠none→extH st.hp (y.dst.getD 0 :: st.px) oby q=st.hp q:=fun q hq=>Qpt (fun hne=>hxn _ (b2' hne)) hq
          obtain ⟨obx,a1,a2,a3⟩:=act1 (h':=extH st.hp (y.dst.getD 0 :: st.px) oby) ca ax (fun t _ v hv=>QhP hsub2 (hcl t v hv))
          have hne:obx≠none→oby≠none→x.dst.getD 0 :: st.px≠y.dst.getD 0 :: st.px:=by
            intro n1 n2
            have:=b2' n2
            rw [a1] at this
            exact fun e=>(extH_none this).2 n1 e.symm
          have:=a3 fun n1=>Qkt (a2 n1) fun n2=>hne n1 n2
          rw [this]
          have b1':hy=extH hx (y.dst.getD 0 :: st.px) oby:=b1
          rw [b1',a1]
          congr 2
          exact (extH_comm hne).symm
        · -- a load QjR of a store
          obtain ⟨od,oi,og⟩:=x
          obtain ⟨od',oi',og'⟩:=y
          dsimp only at *
          cases oi<;>simp [QgA] at ca
          rename_i sz e
          cases e<;>simp [QgA] at ca
          rename_i tp
          cases oi'<;>simp [I.class] at cb
          rename_i sy ea ev
          have hap:=hls (.t tp,sz.getD 1,ea,sy) (by simp [Qd5])
          simp only [act,Option.bind_eq_some_iff,Option.map_eq_some_iff,Prod.mk.injEq] at ax
          obtain ⟨pv,hpv,z,hz,rfl,rfl⟩:=ax
          rw [hself] at ay
          refine ⟨hy,ay, ?_⟩
          simp only [act,Option.bind_eq_some_iff] at ay
          obtain ⟨av,hav,w,hw,ay⟩:=ay
          obtain ⟨⟨hsz,hone⟩,ay⟩:=Qaf ay
          simp only [Option.map_eq_some_iff,Prod.mk.injEq] at ay
          obtain ⟨hy2,hst,rfl,rfl⟩:=ay
          simp only [QbF,hpv,hav] at hap
          have hnd:∀ x,av≠.d x:=fun x e=>by rw [e] at hst;simp [Qgo] at hst
          rcases (show (∃ cs,pv=.d (.rp cs))∨∃ q o,pv=.ptr q o by
            cases pv with
            | ptr q o=>exact .inr ⟨_,_,rfl⟩
            | d x=>cases x<;>first | exact .inl ⟨_,rfl⟩ | (cases av<;>first | exact absurd rfl (hnd _) | (simp at hap))
            | _=>simp at hap) with ⟨cs,rfl⟩ | ⟨q,o,rfl⟩
          · simp only [act,Qge,hpv,Option.bind_some]
            rw [show Qco (Qeu st hy2).hp sz (.d (.rp cs))=Qco st.hp sz (.d (.rp cs)) from rfl,hz]
            rfl
          obtain ⟨q',o',rfl⟩:∃ q o,av=.ptr q o:=by cases av<;>first | exact ⟨_,_,rfl⟩ | (simp at hap)
          simp only [Bool.or_eq_true,decide_eq_true_eq] at hap
          simp only [act,Qge,hpv,Option.bind_some]
          simp only [Qco,Qgo,Option.bind_eq_some_iff] at hz hst
          obtain ⟨ob,hob,hst⟩:=hst
          obtain ⟨hfz,hst⟩:=Qaf hst
          simp only [Option.map_eq_some_iff] at hst
          obtain ⟨cs,hcs,rfl⟩:=hst
          obtain ⟨ob2,hob2,hld⟩:=hz
          simp only [Qco,Qeu]
          by_cases hq:q=q'
          · subst hq
            rw [hob] at hob2
            cases hob2
            have := Qm2           hcs hsz (by rcases hap with (h | h) | h; · exact absurd rfl h
                                              · exact .inl h
                                              · exact .inr h) hld
            simp [hupd,Qbw,this]
          · simp [hupd,Qbw,hq,hob2,hld]
        · -- a load QjR of a closure's making
          obtain ⟨od,oi,og⟩:=x
          obtain ⟨od',oi',og'⟩:=y
          dsimp only at *
          cases oi<;>simp [QgA] at ca
          rename_i sz e
          cases oi'<;>simp [isMk] at cb
          rename_i f caps sn
          simp only [act,Option.bind_eq_some_iff,Option.map_eq_some_iff,Prod.mk.injEq] at ax
          obtain ⟨pv,hpv,z,hz,rfl,rfl⟩:=ax
          rw [hself] at ay
          refine ⟨hy,ay, ?_⟩
          have hsame:∀ k,(hy k).map (fun o=>(o.n,o.cs))=(st.hp k).map (fun o=>(o.n,o.cs)):=by
            simp only [act,Option.bind_eq_some_iff] at ay
            obtain ⟨as,has,ay⟩:=ay
            split at ay
            · simp only [Option.map_eq_some_iff,Prod.mk.injEq] at ay
              obtain ⟨ds,hds,_,rfl⟩:=ay
              exact Qh9 as st.hp
            · split at ay<;>(simp only [Option.some.injEq,Prod.mk.injEq] at ay;obtain ⟨_,rfl⟩:=ay;exact fun _=>rfl)
          simp only [act,Qge,hpv,Option.bind_some]
          rw [show (Qeu st hy).hp=hy from rfl,QrS hsame,hz]
          rfl
        · -- an element's address QjR of a store
          obtain ⟨od,oi,og⟩:=x
          obtain ⟨od',oi',og'⟩:=y
          dsimp only at *
          cases oi<;>simp [isIxa] at ca
          rename_i es ex ei
          cases oi'<;>simp [I.class] at cb
          rename_i sy ea ev
          simp only [act,Option.bind_eq_some_iff,Option.map_eq_some_iff,Prod.mk.injEq] at ax
          obtain ⟨pv,hpv,jv,hjv,j,hj,z,hz,rfl,rfl⟩:=ax
          rw [hself] at ay
          refine ⟨hy,ay, ?_⟩
          simp only [act,Option.bind_eq_some_iff] at ay
          obtain ⟨av,hav,w,hw,ay⟩:=ay
          obtain ⟨_,ay⟩:=Qaf ay
          simp only [Option.map_eq_some_iff,Prod.mk.injEq] at ay
          obtain ⟨hy2,hst,rfl,rfl⟩:=ay
          simp only [act,Qge,hpv,hjv,hj,Option.bind_some]
          rw [show (Qeu st hy2).hp=hy2 from rfl,QrU hst,hz]
          rfl
        · -- an append QjR of what looks at data and boxes
          obtain ⟨od,oi,og⟩:=x
          obtain ⟨od',oi',og'⟩:=y
          dsimp only at *
          cases oi<;>simp [Qsa] at ca
          rename_i es by_ ea eb fz
          have hrd:∀ t,t∈oi'.reads→∀ v,st.fr t=some v→(∃ x,v=.d x)∨∃ q o,v=.ptr q o:=by
            intro t ht v hv
            have:=hls (.t t,0,.t t,0) (by
              simp only [Qd5,cb,beq_self_eq_true,if_true,List.mem_map]
              exact ⟨t,ht,rfl⟩)
            simp only [QbF,E.ev,hv] at this
            cases v with
            | d x=>exact .inl ⟨x,rfl⟩
            | ptr q o=>exact .inr ⟨q,o,rfl⟩
            | _=>simp at this
          simp only [act,Option.bind_eq_some_iff] at ax
          obtain ⟨av,hav,bv,hbv,p,hp,ax⟩:=ax
          obtain ⟨f1,f2,f3⟩:=Qqj ca ax
          have hag:∀ t,t∈oi'.reads→∀ v,(Qeu st hx).fr t=some v→Qho (Qeu st hx).hp st.hp v:=by
            intro t ht v hv
            rcases hrd t ht v hv with ⟨x,rfl⟩ | ⟨q,o,rfl⟩
            · trivial
            · obtain ⟨ob,ho,he⟩:=hcl t _ hv
              exact (f1 q ob ho he).symm
          obtain ⟨oby,b1,b2,b3⟩:=act1 (st:=Qeu st hx) (h':=st.hp) cb ay hag
          have b2':oby≠none→hx (od'.getD 0 :: st.px)=none:=b2
          have ay':=b3 fun hne=>f2 _ (b2' hne)
          have ay'':act cl (od'.getD 0 :: st.px) st oi'=some (v,extH st.hp (od'.getD 0 :: st.px) oby):=ay'
          refine ⟨_,ay'', ?_⟩
          have hsub2:∀ q,st.hp q≠none→extH st.hp (od'.getD 0 :: st.px) oby q=st.hp q:=fun q hq=>Qpt (fun hne=>f2 _ (b2' hne)) hq
          have hcb:QaS st.hp bv:=by
            cases eb with
            | t n=>exact hcl n bv hbv
            | c x=>simp only [E.ev,Option.some.injEq] at hbv;subst hbv;trivial
            | f n=>simp only [E.ev,Option.some.injEq] at hbv;subst hbv;trivial
          have hagb:=QhP hsub2 hcb
          simp only [act,Qge,hav,hbv,Option.bind_some,Qlk hagb,Qms hagb,hp]
          rw [show (Qeu st (extH st.hp (od'.getD 0 :: st.px) oby)).hp=extH st.hp (od'.getD 0 :: st.px) oby from rfl,f3 _ _ b2',b1]
          rfl
        · -- a load QjR of an append
          obtain ⟨od,oi,og⟩:=x
          obtain ⟨od',oi',og'⟩:=y
          dsimp only at *
          cases oi<;>simp [QgA] at ca
          rename_i sz e
          cases e<;>simp [QgA] at ca
          rename_i tp
          cases oi'<;>simp [Qsa] at cb
          rename_i es by_ ea eb fz
          have hap:=hls (.t tp,0,.t tp,0) (by simp [Qd5])
          simp only [act,Option.bind_eq_some_iff,Option.map_eq_some_iff,Prod.mk.injEq] at ax
          obtain ⟨pv,hpv,z,hz,rfl,rfl⟩:=ax
          rw [hself] at ay
          refine ⟨hy,ay, ?_⟩
          simp only [act,Option.bind_eq_some_iff] at ay
          obtain ⟨av,hav,bv,hbv,p,hp,ay⟩:=ay
          obtain ⟨f1,f2,f3⟩:=Qqj cb ay
          simp only [QbF,hpv] at hap
          simp only [act,Qge,hpv,Option.bind_some]
          have:Qco hy sz pv=Qco st.hp sz pv:=by
            cases pv with
            | d x=>cases x<;>rfl
            | ptr q o =>
              obtain ⟨ob,ho,he⟩:=hcl tp _ hpv
              simp only [Qco,f1 q ob ho he]
            | _=>simp at hap
          rw [show (Qeu st hy).hp=hy from rfl,this,hz]
          rfl
      obtain ⟨hy',g1,g2⟩:=core
      refine ⟨_,QkJ wy g1, ?_⟩
      have:=QkJ (cl:=cl) (st:={ st with fr:=putO st.fr y.dst v,hp:=hy' }) (o:=x) (x:=u) (h1:=hy) (by rw [hxg st.fr];exact wx) (by rw [Qnv hxi];exact g2)
      rw [this]
      simp only [hput]
    · rw [hyg] at wy
      refine ⟨_,Qjv wy, ?_⟩
      have:=QkJ (cl:=cl) (st:={ st with fr:=putO st.fr y.dst Qep }) (o:=x) (x:=u) (h1:=hx) (by rw [show ({ st with fr:=putO st.fr y.dst Qep }:St)={ st with fr:=putO st.fr y.dst Qep,hp:=st.hp } from rfl,hxg st.fr];exact wx)
        (by rw [show ({ st with fr:=putO st.fr y.dst Qep }:St)={ st with fr:=putO st.fr y.dst Qep,hp:=st.hp } from rfl,Qnv hxi];exact ax)
      rw [this]
      simp only [hput]
  · rcases QiR h2 with ⟨wy,v,hy,ay,rfl⟩ | ⟨wy,rfl⟩
    · rw [show ({ st with fr:=putO st.fr x.dst Qep }:St)={ st with fr:=putO st.fr x.dst Qep,hp:=st.hp } from rfl,hyg] at wy
      rw [show ({ st with fr:=putO st.fr x.dst Qep }:St)={ st with fr:=putO st.fr x.dst Qep,hp:=st.hp } from rfl,Qnv hyi] at ay
      refine ⟨_,QkJ wy ay, ?_⟩
      have:=Qjv (cl:=cl) (st:={ st with fr:=putO st.fr y.dst v,hp:=hy }) (o:=x) (by rw [hxg st.fr];exact wx)
      rw [this]
      simp only [hput]
    · rw [show ({ st with fr:=putO st.fr x.dst Qep }:St)={ st with fr:=putO st.fr x.dst Qep,hp:=st.hp } from rfl,hyg] at wy
      refine ⟨_,Qjv wy, ?_⟩
      have:=Qjv (cl:=cl) (st:={ st with fr:=putO st.fr y.dst Qep }) (o:=x) (by rw [show ({ st with fr:=putO st.fr y.dst Qep }:St)={ st with fr:=putO st.fr y.dst Qep,hp:=st.hp } from rfl,hxg st.fr];exact wx)
      rw [this]
      simp only [hput]

/-! ### A list of places -/
def exsI (cl:Cl) (os:List O):List Nat→St→Option St
 | [],st=>some st
 | i :: l,st=>(os[i]?).bind fun o=>(exO cl st o).bind (exsI cl os l)

theorem QoG (os:List O):∀ (l:List O) (i:Nat) (st:St),os.drop i=l→exs cl l st=exsI cl os (List.range' i l.length) st
 | [],i,st,_=>rfl
 | o :: l,i,st,h=>by
  have h0:os[i]?=some o:=by
   have:(os.drop i)[0]?=some o:=by rw [h];rfl
   simpa using this
  have h1:os.drop (i+1)=l:=by
   have:(os.drop i).drop 1=l:=by rw [h];rfl
   rwa [List.drop_drop] at this
  simp only [exs,List.length_cons,List.range'_succ,exsI,h0,Option.bind_some]
  congr 1
  funext s
  exact QoG os l (i+1) s h1

theorem exO_fr {st s:St} {o:O} (h:exO cl st o=some s) {t:Nat} (ht:o.dst≠some t):s.fr t=st.fr t:=by
 rcases QiR h with ⟨_,x,h1,_,rfl⟩ | ⟨_,rfl⟩<;>exact QnA ht
theorem exsI_fr {os:List O} {t:Nat}:∀ {l:List Nat} {st s:St},exsI cl os l st=some s→(∀ p,p∈l→∀ o,os[p]?=some o→o.dst≠some t)→s.fr t=st.fr t
 | [],st,s,h,_=>by simp only [exsI,Option.some.injEq] at h;subst h;rfl
 | i :: l,st,s,h,hq=>by
  simp only [exsI,Option.bind_eq_some_iff] at h
  obtain ⟨o,ho,s1,h1,h2⟩:=h
  rw [exsI_fr h2 (fun p hp=>hq p (List.mem_cons_of_mem _ hp)),exO_fr h1 (hq i (List.mem_cons_self ..) o ho)]

def Pair (os:List O) (fin:St) (rem:List Nat) (i j:Nat):Prop :=
 ∀ x y,os[i]?=some x→os[j]?=some y→Qm7 x y=true∧∀ q,q∈Qd5 x y→QbF fin q=true∧∀ t,t∈q.1.tmps++q.2.2.1.tmps→∀ p,p∈rem→i≤p→∀ o,os[p]?=some o→o.dst≠some t

theorem Qov {st st':St} {q:E×Nat×E×Nat} (h:∀ t,t∈q.1.tmps++q.2.2.1.tmps→st'.fr t=st.fr t):QbF st' q=QbF st q:=by
 obtain ⟨a,s,b,t⟩:=q
 simp only [List.mem_append] at h
 simp only [QbF,Qax fun t ht=>h t (.inl ht),Qax fun t ht=>h t (.inr ht)]

theorem bubble {os:List O} {fin:St} (Good:St→Prop) (hgc:∀ st,Good st→ClF st) (hgs:∀ st o s,Good st→o∈os→exO cl st o=some s→Good s) (j:Nat) (l2 rem:List Nat) :
    ∀ (l1:List Nat) (st:St),Good st→(∀ p,p∈l1++j :: l2→p∈rem)→List.Pairwise (·<·) (l1++j :: l2)→(∀ i,i∈l1→Pair os fin rem i j)→exsI cl os (l1++j :: l2) st=some fin→exsI cl os (j :: (l1++l2)) st=some fin
  | [],st,_,_,_,_,h=>h
  | i :: l1,st,hg,hrem,hs,hp,h=>by
    rw [List.cons_append,exsI] at h
    simp only [Option.bind_eq_some_iff] at h
    obtain ⟨x,hx,s1,h1,h2⟩:=h
    have hg1:=hgs st x s1 hg (List.mem_of_getElem? hx) h1
    rw [List.cons_append,List.pairwise_cons] at hs
    have h3:=bubble Good hgc hgs j l2 rem l1 s1 hg1 (fun p hp=>hrem p (List.mem_cons_of_mem _ hp)) hs.2 (fun i hi=>hp i (List.mem_cons_of_mem _ hi)) h2
    rw [exsI] at h3
    simp only [Option.bind_eq_some_iff] at h3
    obtain ⟨y,hy,s2,h4,h5⟩:=h3
    obtain ⟨hc,hq⟩:=hp i (List.mem_cons_self ..) x y hx hy
    have hls:LsOk st x y:=by
      intro q hqm
      obtain ⟨ha,hw⟩:=hq q hqm
      rw [← ha]
      apply Eq.symm
      apply Qov
      intro t ht
      have hfin:exsI cl os (i :: (l1++j :: l2)) st=some fin:=by rw [exsI,hx];simp only [Option.bind_some,h1];exact h2
      refine exsI_fr hfin fun p hpm o ho=>hw t ht p (hrem p (by simpa using hpm)) ?_ o ho
      rcases List.mem_cons.1 hpm with e | hpm
      · omega
      · exact Nat.le_of_lt (hs.1 p hpm)
    obtain ⟨s1',g1,g2⟩:=swap (hgc st hg) hc hls h1 h4
    rw [exsI,hy]
    simp only [Option.bind_some,g1,List.cons_append,exsI,hx,g2]
    exact h5
end
end Go.AM

/- Part 14: regions. -/
namespace Go.AM
open Go Go.RowKit

theorem Qly {α β:Type} {f:α→Option β}:∀ {l:List α} {q:List β},mapO f l=some q→q.length=l.length
 | [],q,h=>by simp only [mapO,Option.some.injEq] at h;subst h;rfl
 | x :: l,q,h=>by
  simp only [mapO,Option.bind_eq_some_iff,Option.map_eq_some_iff] at h
  obtain ⟨y,hy,q',hq,rfl⟩:=h
  simp [Qly hq]
theorem Qqd {α β:Type} {f:α→Option β}:∀ {l:List α} {q:List β} (_:mapO f l=some q) (i:Nat) (x:α),l[i]?=some x→∃ y,q[i]?=some y∧f x=some y
 | [],q,h,i,x,hx=>by simp at hx
 | u :: l,q,h,i,x,hx=>by
  simp only [mapO,Option.bind_eq_some_iff,Option.map_eq_some_iff] at h
  obtain ⟨y,hy,q',hq,rfl⟩:=h
  cases i with
  | zero=>simp at hx;subst hx;exact ⟨y,by simp,hy⟩
  | succ i=>simpa using Qqd hq i x (by simpa using hx)

section
variable {S0:Nat→Prop} {N:Nat} {w0:Wd} {m:Key→Nat} {st:St} {a:Act} {w:World} {P:Program}
variable {F:Fence} {n:Nat} {K:Act→World→Prop} {Q:Exit→Act→World→Prop} {cl:Cl}

structure Ops (P:Program) (N:Nat) (ops:Array Oper) (os:List O):Prop where
 len:os.length=ops.size
 at_:∀ (i:Nat) (o:Oper),ops[i]?=some o→∃ o':O,os[i]?=some o'∧QbY P o.op=some o'.i.er∧o'.dst=o.dst∧QsB ops o.guard=some o'.g
 lt:∀ o':O,o'∈os→∀ d,o'.dst=some d→d<N

theorem Qok {ops:Array Oper} {os:List O} (h:mapO (QoP P ops) ops.toList=some (os.map O.er)) (hlt:(os.map O.er).all (O.within N)=true):Ops P N ops os:=by
 refine ⟨by simpa using Qly h,fun i o ho=>?_,fun o' ho' d hd=>?_⟩
 ·obtain ⟨y,hy,hc⟩:=Qqd h i o (by simpa using ho)
  simp only [List.getElem?_map,Option.map_eq_some_iff] at hy
  obtain ⟨o',ho',rfl⟩:=hy
  simp only [QoP,Option.bind_eq_some_iff,Option.map_eq_some_iff] at hc
  obtain ⟨i',hi',g,hg,he⟩:=hc
  have e1:o'.er=⟨o.dst,i',g⟩:=he.symm
  refine ⟨o',ho', ?_, ?_, ?_⟩
  ·rw [hi'];exact congrArg (fun q=>some q.i) e1.symm
  ·exact congrArg O.dst e1
  ·rw [hg];exact congrArg (fun q=>some q.g) e1.symm
 ·have:=List.all_eq_true.1 hlt o'.er (List.mem_map.2 ⟨o',ho',rfl⟩)
  have e1:o'.er.dst=o'.dst:=rfl
  simp only [O.within,e1,hd] at this
  simpa using this

theorem QgU (hR:Rel S0 N w0 m st a w) {ops:Array Oper} {g0:Option (Nat×Bool)} {g:Option (Nat×Bool)} (hg:QsB ops g0=some g) {o:Oper} (ho:o.guard=g0) {b:Bool} (hw:Qdi st g=some b):Region.wanted o (yielded ops a.tmps)=b:=by
  cases g0 with
  | none =>
    simp only [QsB,Option.some.injEq] at hg
    subst hg
    simp only [Qdi,Option.some.injEq] at hw
    subst hw
    simp [Region.wanted,ho]
  | some p =>
    obtain ⟨j,want⟩:=p
    simp only [QsB,Option.map_eq_some_iff] at hg
    obtain ⟨t,ht,rfl⟩:=hg
    simp only [Qdi,Option.map_eq_some_iff] at hw
    obtain ⟨y,hy,rfl⟩:=hw
    have hrep:=hR.fr t y hy
    simp only [Region.wanted,ho,yielded,ht,Option.bind_some]
    by_cases hyb:∃ b,y.bool?=some b
    · obtain ⟨b,hb⟩:=hyb
      obtain rfl:=bool?_some hb
      have hv:=QfB hrep
      have hget:a.tmps[t]?=some (.bool b):=by
        rw [Array.getD_eq_getD_getElem?] at hv
        cases hq:a.tmps[t]? with
        | none=>rw [hq] at hv;simp [undef_eq] at hv
        | some u=>rw [hq] at hv;simp at hv;rw [hv]
      simp only [hget,A.bool?]
      rw [Bool.eq_iff_iff]
      simp
    · have hnb : y.bool? = none := by
        cases h:y.bool? with
        | none=>rfl
        | some b=>exact absurd ⟨b,h⟩ hyb
      have hnot:∀ b,a.tmps[t]?≠some (.bool b):=by
        intro b hq
        have:a.tmps.getD t undef=.bool b:=by rw [Array.getD_eq_getD_getElem?,hq];rfl
        rw [this] at hrep
        cases hrep with
        | d y _ h=>cases h;simp [A.bool?] at hnb
        | own q l _ hs h=>obtain ⟨_,_,hh⟩:=hs;cases hh
        | ptr k o _ hs h=>obtain ⟨_,hh⟩:=hs;cases hh
        | ep k n o _ hs h=>obtain ⟨_,hh⟩:=hs;cases hh
      simp only [hnb]
      rw [Bool.eq_iff_iff]
      simp only [reduceCtorEq,decide_false,Bool.false_eq_true,iff_false,beq_iff_eq]

theorem QhV        (hcl:∀ f ds r,cl f ds=some r→Qgy     w0 P f ds r) (hF:FOk F) {ops:Array Oper} {os:List O} (hO:Ops P N ops os) (hR:Rel S0 N w0 m st a w) {i:Nat} {o':O} {s:St} (ho:os[i]?=some o') (he:exO cl st o'=some s)
    (hK:∀ m' a' w',Rel S0 N w0 m' s a' w'→K a' w'):wpOpIn F n P ops Q i K a w:=by
  unfold wpOpIn
  have hi:i<ops.size:=by rw [← hO.len];exact (List.getElem?_eq_some_iff.1 ho).1
  obtain ⟨o,hoo⟩:∃ o,ops[i]?=some o:=⟨ops[i],by simp [hi]⟩
  obtain ⟨o2,h2,hc,hd,hg⟩:=hO.at_ i o hoo
  rw [ho] at h2
  cases h2
  have hlt:∀ d,o.dst=some d→d<N:=fun d h=>hO.lt o' (List.mem_of_getElem? ho) d (by rw [hd];exact h)
  simp only [hoo]
  rcases QiR he with ⟨hw,x,h1,ha,rfl⟩ | ⟨hw,rfl⟩
  · rw [QgU hR hg rfl hw]
    simp only [if_true]
    refine op_sound hcl hF hR hc ha ?_
    intro m' v w' g1 g2 g3
    refine hK m' _ w' ?_
    have:=g1.put (dst:=o.dst) hlt g2 g3
    rw [← hd] at this
    rw [hd] at this
    rw [hd]
    exact this
  · rw [QgU hR hg rfl hw]
    simp only [Bool.false_eq_true,if_false]
    refine ⟨fun f _=>hF.fn f,hK m _ w ?_⟩
    rw [hd]
    exact hR.put hlt (.d _ _ (.v _)) trivial

theorem wp_some {o:Oper} (h:o.wpIn Fence.wide n P a w K (fun _ _ _=>False)):∃ a' w',K a' w':=by
 obtain ⟨_,h⟩:=h
 generalize (o.semAt Fence.wide.round a.eval).run P w=r at h
 cases r with
 | ok x w' =>
  cases x<;>simp only [Oper.uponIn] at h
  case value v=>exact ⟨_,_,h⟩
  case skip=>exact ⟨_,_,h⟩
  case defer d=>exact ⟨_,_,h⟩
  case enter f args =>
   obtain ⟨_,_,h⟩:=h
   obtain ⟨e,w2,fr,hR,_⟩:=h [] (room_wide _)
   cases e with
   | returned v=>exact ⟨_,_,hR⟩
   | panicked c=>exact hR.elim
   | outgrown=>obtain ⟨_,_,hh⟩:=hR;exact hh.elim
  case row row args =>
   obtain ⟨_,h⟩:=h
   obtain ⟨v,w2,hR,_⟩:=h default [] (room_wide _)
   exact ⟨_,_,hR⟩
  case round l f t as b =>
   obtain ⟨_,_,h⟩:=h
   obtain ⟨e,w2,hR,_⟩:=h default [] (room_wide _)
   cases e with
   | returned v=>exact ⟨_,_,hR⟩
   | panicked c=>exact hR.elim
   | outgrown=>obtain ⟨_,_,hh⟩:=hR;exact hh.elim
 | halt x w'=>cases x<;>simp only [Oper.uponIn] at h

theorem wpOp_some {ops:Array Oper} {i:Nat} (h:wpOpIn Fence.wide n P ops (fun _ _ _=>False) i K a w):∃ a' w',K a' w':=by
 unfold wpOpIn at h
 split at h
 ·exact ⟨_,_,h⟩
 ·split at h
  ·exact wp_some h
  ·exact ⟨_,_,h.2⟩

theorem Qmn        (hcl:∀ f ds r,cl f ds=some r→Qgy     w0 P f ds r) (hF:FOk F) {ops:Array Oper} {os:List O} (hO:Ops P N ops os) {fin:St}:∀ (l:List Nat) {m:Key→Nat} {st:St} {a:Act} {w:World},
    Rel S0 N w0 m st a w→exsI cl os l st=some fin→(∀ m' a' w',Rel S0 N w0 m' fin a' w'→Q .normal a' w')→wpOpsIn F n P ops Q l a w
  | [],m,st,a,w,hR,h,hK=>by
    simp only [exsI,Option.some.injEq] at h
    subst h
    exact hK m a w hR
  | i :: l,m,st,a,w,hR,h,hK=>by
    simp only [exsI,Option.bind_eq_some_iff] at h
    obtain ⟨o,ho,s,h1,h2⟩:=h
    rw [wpOpsIn_cons]
    exact QhV hcl hF hO hR ho h1 fun m' a' w' hR'=>Qmn hcl hF hO l hR' h2 hK

/-! ### What comes QjR of what -/
theorem Qj8 (acc:List Nat) (p:Nat):∀ (l:List Nat) (s:Nat),(l.foldl (fun s i=>s ||| 2^i ||| acc.getD i 0) s).testBit p=true→s.testBit p=true∨∃ d,d∈l∧(p=d∨(acc.getD d 0).testBit p=true)
 | [],s,h=>.inl h
 | d :: l,s,h=>by
  simp only [List.foldl_cons] at h
  rcases Qj8 acc p l _ h with h | ⟨e,he,h⟩
  ·simp only [Nat.testBit_or,Bool.or_eq_true] at h
   rcases h with (h | h) | h
   ·exact .inl h
   ·refine .inr ⟨d,by simp,.inl ?_⟩
    rw [Nat.testBit_two_pow] at h
    have h:d=p:=by simpa using h
    exact h.symm
   ·exact .inr ⟨d,by simp,.inr h⟩
  ·exact .inr ⟨e,by simp [he],h⟩

theorem QmV:∀ (l:List Oper) (acc:List Nat) (i:Nat),i<acc.length→(ancs l acc).getD i 0=acc.getD i 0
 | [],acc,i,h=>rfl
 | o :: l,acc,i,h=>by
  rw [ancs,QmV l _ i (by simp;omega)]
  simp [List.getD,List.getElem?_append_left h]

theorem QoB       : ∀ (l:List Oper) (acc:List Nat) (j:Nat) (o:Oper) (p:Nat),l[j]?=some o→((ancs l acc).getD (acc.length+j) 0).testBit p=true →
    ∃ d,d∈Qgi o∧(p=d∨(d<acc.length+j∧((ancs l acc).getD d 0).testBit p=true))
  | [],acc,j,o,p,hj,h=>by simp at hj
  | u :: l,acc,0,o,p,hj,h=>by
    simp at hj
    subst hj
    simp only [Nat.add_zero] at h ⊢
    rw [ancs,QmV _ _ _ (by simp)] at h
    have:(acc++[(Qgi u).foldl (fun s i=>s ||| 2^i ||| acc.getD i 0) 0]).getD acc.length 0=(Qgi u).foldl (fun s i=>s ||| 2^i ||| acc.getD i 0) 0:=by simp [List.getD]
    rw [this] at h
    rcases Qj8 acc p _ _ h with h | ⟨d,hd,h⟩
    · simp at h
    · refine ⟨d,hd,h.imp id fun h=>?_⟩
      have hlt:d<acc.length:=by
        rcases Nat.lt_or_ge d acc.length with h' | h'
        · exact h'
        · rw [List.getD,List.getElem?_eq_none h'] at h;simp at h
      refine ⟨hlt, ?_⟩
      rw [ancs,QmV _ _ _ (by simp;omega)]
      simpa [List.getD,List.getElem?_append_left hlt] using h
  | u :: l,acc,j+1,o,p,hj,h=>by
    rw [ancs] at h ⊢
    have:=QoB l (acc++[(Qgi u).foldl (fun s i=>s ||| 2^i ||| acc.getD i 0) 0]) j o p (by simpa using hj) (by
      rw [show (acc++[(Qgi u).foldl (fun s i=>s ||| 2^i ||| acc.getD i 0) 0]).length+j=acc.length+(j+1) by simp;omega];exact h)
    rw [show (acc++[(Qgi u).foldl (fun s i=>s ||| 2^i ||| acc.getD i 0) 0]).length+j=acc.length+(j+1) by simp;omega] at this
    exact this

theorem QmP:∀ (l:List Oper) (i:Nat),QjR i l=true→∀ (j:Nat) (o:Oper),l[j]?=some o→∀ d,d∈Qgi o→d<i+j
 | [],i,h,j,o,hj,d,hd=>by simp at hj
 | u :: l,i,h,0,o,hj,d,hd=>by
  simp at hj
  subst hj
  simp only [QjR,Bool.and_eq_true,List.all_eq_true,decide_eq_true_eq] at h
  exact h.1 d hd
 | u :: l,i,h,j+1,o,hj,d,hd=>by
  simp only [QjR,Bool.and_eq_true] at h
  have:=QmP l (i+1) h.2 j o (by simpa using hj) d hd
  omega

/-! ### What the check has found -/
theorem QmQ {mk:Nat} {ts:List Nat}:∀ {l:List O} {p:Nat},QrT mk ts p l=true→∀ (j:Nat) (o:O),l[j]?=some o→mk.testBit (p+j)=false→∀ t,t∈ts→o.dst≠some t
 | [],p,h,j,o,hj,_,t,ht=>by simp at hj
 | z :: l,p,h,0,o,hj,hm,t,ht=>by
  simp at hj
  subst hj
  simp only [QrT,Bool.and_eq_true,Bool.or_eq_true] at h
  rw [Nat.add_zero] at hm
  rw [hm] at h
  intro hd
  rw [hd] at h
  simp at h
  exact h.1 ht
 | z :: l,p,h,j+1,o,hj,hm,t,ht=>by
  simp only [QrT,Bool.and_eq_true] at h
  exact QmQ h.2 j o (by simpa using hj) (by rw [show p+1+j=p+(j+1) by omega];exact hm) t ht

theorem Qhx          {an:List Nat} {i:Nat} {x:O} {all:List O}:∀ {l:List O} {j:Nat} {ck:List (E×Nat×E×Nat)},QjJ     an i x all j l=some ck→∀ (q:Nat) (y:O),l[q]?=some y→(an.getD (j+q) 0).testBit i=false →
    Qm7 x y=true∧∀ z,z∈Qd5 x y→z∈ck∧QrT (an.getD (j+q) 0) (z.1.tmps++z.2.2.1.tmps) i all=true
  | [],j,ck,h,q,y,hq,_=>by simp at hq
  | u :: l,j,ck,h,0,y,hq,hm=>by
    simp at hq
    subst hq
    rw [Nat.add_zero] at hm ⊢
    simp only [QjJ,hm,Bool.false_eq_true,if_false] at h
    split at h
    · rename_i hc
      simp only [Bool.and_eq_true,List.all_eq_true] at hc
      simp only [Option.map_eq_some_iff] at h
      obtain ⟨ck',_,rfl⟩:=h
      exact ⟨hc.1,fun z hz=>⟨List.mem_append_left _ hz,hc.2 z hz⟩⟩
    · cases h
  | u :: l,j,ck,h,q+1,y,hq,hm=>by
    have hq':l[q]?=some y:=by simpa using hq
    rw [show j+(q+1)=j+1+q by omega] at hm ⊢
    simp only [QjJ] at h
    split at h
    · exact Qhx h q y hq' hm
    · split at h
      · simp only [Option.map_eq_some_iff] at h
        obtain ⟨ck',h',rfl⟩:=h
        obtain ⟨g1,g2⟩:=Qhx h' q y hq' hm
        exact ⟨g1,fun z hz=>⟨List.mem_append_right _ (g2 z hz).1,(g2 z hz).2⟩⟩
      · cases h

theorem QmJ        {an:List Nat}:∀ {l:List O} {i:Nat} {ck:List (E×Nat×E×Nat)},Qpk   an i l=some ck→∀ (p q:Nat) (x y:O),p<q→l[p]?=some x→l[q]?=some y→(an.getD (i+q) 0).testBit (i+p)=false →
    Qm7 x y=true∧∀ z,z∈Qd5 x y→z∈ck∧∀ t,t∈z.1.tmps++z.2.2.1.tmps→∀ (r:Nat) (o:O),p≤r→l[r]?=some o→(an.getD (i+q) 0).testBit (i+r)=false→o.dst≠some t
  | [],i,ck,h,p,q,x,y,hpq,hp,hq,hm=>by simp at hp
  | u :: l,i,ck,h,0,q,x,y,hpq,hp,hq,hm=>by
    simp only [Qpk,Option.bind_eq_some_iff,Option.map_eq_some_iff] at h
    obtain ⟨c1,h1,c2,h2,rfl⟩:=h
    simp at hp
    subst hp
    obtain ⟨q,rfl⟩:∃ q',q=q'+1:=⟨q-1,by omega⟩
    rw [Nat.add_zero] at hm
    rw [show i+(q+1)=i+1+q by omega] at hm ⊢
    obtain ⟨g1,g2⟩:=Qhx h1 q y (by simpa using hq) hm
    refine ⟨g1,fun z hz=>⟨List.mem_append_left _ (g2 z hz).1,fun t ht r o hr ho hmr=>?_⟩⟩
    exact QmQ (g2 z hz).2 r o ho hmr t ht
  | u :: l,i,ck,h,p+1,q,x,y,hpq,hp,hq,hm=>by
    simp only [Qpk,Option.bind_eq_some_iff,Option.map_eq_some_iff] at h
    obtain ⟨c1,h1,c2,h2,rfl⟩:=h
    obtain ⟨q,rfl⟩:∃ q',q=q'+1:=⟨q-1,by omega⟩
    rw [show i+(q+1)=i+1+q by omega,show i+(p+1)=i+1+p by omega] at hm
    obtain ⟨g1,g2⟩:=QmJ h2 p q x y (by omega) (by simpa using hp) (by simpa using hq) hm
    refine ⟨g1,fun z hz=>⟨List.mem_append_right _ (g2 z hz).1,fun t ht r o hr ho hmr=>?_⟩⟩
    obtain ⟨r,rfl⟩:∃ r',r=r'+1:=⟨r-1,by omega⟩
    exact (g2 z hz).2 t ht r o (by omega) (by simpa using ho) (by rw [show i+(q+1)=i+1+q by omega,show i+(r+1)=i+1+r by omega] at hmr;exact hmr)
end
end Go.AM

/- Part 15: regions whose order is drawn. -/
namespace Go.AM
open Go Go.RowKit

theorem Qq6 (i:I):i.er.class=i.class:=by cases i<;>first | rfl | (rename_i c x;cases c<;>rfl)
theorem Qqc (i:I):i.er.reads=i.reads:=by cases i<;>first | rfl | (rename_i c x;cases c<;>rfl)
theorem Qr6 (i:I):QgA i.er=QgA i:=by cases i<;>first | rfl | (rename_i c x;cases c<;>rfl)
theorem er_isMk (i:I):isMk i.er=isMk i:=by cases i<;>first | rfl | (rename_i c x;cases c<;>rfl)
theorem er_isIxa (i:I):isIxa i.er=isIxa i:=by cases i<;>first | rfl | (rename_i c x;cases c<;>rfl)
theorem er_isApp (i:I):Qsa i.er=Qsa i:=by cases i<;>first | rfl | (rename_i c x;cases c<;>rfl)
theorem er_commO (x y:O):Qm7 x.er y.er=Qm7 x y:=by
 simp only [Qm7,O.er,O.reads,Qq6,Qqc,Qr6,er_isMk,er_isIxa,er_isApp]
theorem QpF (x y:O):Qd5 x.er y.er=Qd5 x y:=by
 obtain ⟨d,i,g⟩:=x
 obtain ⟨d',i',g'⟩:=y
 simp only [Qd5,O.er]
 cases i<;>first
  | (simp only [I.er,Qq6,Qqc];done)
  | (cases i'<;>first | rfl | (rename_i c x;cases c<;>rfl))
  | (rename_i c x;cases c<;>rfl)

section
variable {S0:Nat→Prop} {N:Nat} {w0:Wd} {m:Key→Nat} {st:St} {a:Act} {w:World} {P:Program}
variable {F:Fence} {n:Nat} {K:Act→World→Prop} {Q:Exit→Act→World→Prop} {cl:Cl}

def Qf7 (k:Nat) (listed:Array Bool):List Nat:=(List.range k).filter fun i=>!listed.getD i true

theorem mem_rem {k:Nat} {listed:Array Bool} {i:Nat}:i∈Qf7 k listed↔i<k∧listed.getD i true=false:=by
 simp [Qf7]
theorem Qmz (k:Nat) (listed:Array Bool):List.Pairwise (·<·) (Qf7 k listed):=by
 unfold Qf7
 exact List.Pairwise.sublist (List.filter_sublist ..) List.pairwise_lt_range

theorem Qmw        {ops:Array Oper} {listed:Array Bool} (hsz:listed.size=ops.size) (hclosed:∀ (i:Nat) (o:Oper),ops[i]?=some o→listed.getD i true=true→∀ d,d∈Qgi    o→listed.getD d false=true) :
    ∀ (k i:Nat),i<k→∀ (o:Oper),ops[i]?=some o→(∀ d,d∈Qgi o→listed.getD d false=true)→∀ p,((ancs ops.toList []).getD i 0).testBit p=true→listed.getD p true=true
  | 0,i,hi,_,_,_,_,_=>by omega
  | k+1,i,hi,o,ho,hd,p,hp=>by
    have hp':((ancs ops.toList []).getD (([]:List Nat).length+i) 0).testBit p=true:=by simpa using hp
    obtain ⟨d,hdm,h⟩:=QoB ops.toList [] i o p (by simpa using ho) hp'
    have hl:=hd d hdm
    have hlt:d<ops.size:=by
      rw [← hsz]
      rcases Nat.lt_or_ge d listed.size with h' | h'
      · exact h'
      · rw [Array.getD_eq_getD_getElem?,Array.getElem?_eq_none h'] at hl;cases hl
    have hl':listed.getD d true=true:=by
      rw [Array.getD_eq_getD_getElem?] at hl ⊢
      have:d<listed.size:=by omega
      simp only [Array.getElem?_eq_getElem this,Option.getD_some] at hl ⊢
      exact hl
    rcases h with rfl | ⟨h1,h2⟩
    · exact hl'
    · have h1':d<i:=by simpa using h1
      obtain ⟨od,hod⟩:∃ od,ops[d]?=some od:=⟨ops[d],by simp [hlt]⟩
      exact Qmw hsz hclosed k d (by omega) od hod (hclosed d od hod hl') p h2

theorem any_sound (hcl:∀ f ds r,cl f ds=some r→Qgy     w0 P f ds r) (hF:FOk F) {ops:Array Oper} {os:List O} (hO:Ops P N ops os) {ck:List (E×Nat×E×Nat)} (hah:QjR   0 ops.toList=true)
    (hpr:Qpk (ancs ops.toList []) 0 (os.map O.er)=some ck) {fin:St} (hck:ck.all (QbF fin)=true) (hK:∀ m' a' w',Rel S0 N w0 m' fin a' w'→Q .normal a' w') :
    ∀ (fuel:Nat) (listed:Array Bool) {m:Key→Nat} {st:St} {a:Act} {w:World},Rel S0 N w0 m st a w→listed.size=ops.size→(Qf7 ops.size listed).length≤fuel →
      (∀ (i:Nat) (o:Oper),ops[i]?=some o→listed.getD i true=true→∀ d,d∈Qgi o→listed.getD d false=true) →
      exsI cl os (Qf7 ops.size listed) st=some fin→wpAnyIn F n P .any ops Q fuel listed a w:=by
  -- a place that may come up
  have hready:∀ (listed:Array Bool) (i:Nat),i∈Region.ready .any ops listed↔i∈Qf7 ops.size listed∧∃ o,ops[i]?=some o∧∀ d,d∈Qgi o→listed.getD d false=true:=by
    intro listed i
    simp only [Region.ready,List.mem_filter,List.mem_range,Bool.and_eq_true,Bool.not_eq_true',mem_rem]
    constructor
    · rintro ⟨h1,h2,h3⟩
      refine ⟨⟨h1,h2⟩,ops[i],by simp [h1],fun d hd=>?_⟩
      simp only [h1,Array.getElem?_eq_getElem,Option.map_some,Option.getD_some,Array.all_eq_true_iff_forall_mem,Bool.or_eq_true,Bool.not_eq_true'] at h3
      simp only [Qgi,List.mem_map,List.mem_filter] at hd
      obtain ⟨e,⟨he,hb⟩,rfl⟩:=hd
      rcases h3 e (by simpa using he) with h | h
      · rw [hb] at h;cases h
      · exact h
    · rintro ⟨⟨h1,h2⟩,o,ho,h3⟩
      refine ⟨h1,h2, ?_⟩
      simp only [ho,Option.map_some,Option.getD_some,Array.all_eq_true_iff_forall_mem,Bool.or_eq_true,Bool.not_eq_true']
      intro e he
      cases hb:Region.binds .any e with
      | false=>exact .inl rfl
      | true=>exact .inr (h3 e.on (List.mem_map.2 ⟨e,List.mem_filter.2 ⟨by simpa using he,hb⟩,rfl⟩))
  have hnone:∀ (listed:Array Bool),listed.size=ops.size→Region.ready .any ops listed=[]→Qf7 ops.size listed=[]:=by
    intro listed hsz hr
    cases hrem:Qf7 ops.size listed with
    | nil=>rfl
    | cons i r =>
      have hi:i∈Qf7 ops.size listed:=by rw [hrem];simp
      obtain ⟨h1,h2⟩:=mem_rem.1 hi
      have hsorted:=Qmz ops.size listed
      rw [hrem,List.pairwise_cons] at hsorted
      have:i∈Region.ready .any ops listed:=by
        refine (hready listed i).2 ⟨hi,ops[i],by simp [h1],fun d hd=>?_⟩
        have hlt:=QmP ops.toList 0 hah i ops[i] (by simp [h1]) d hd
        have hd2:d<listed.size:=by omega
        cases hl:listed.getD d false with
        | true=>rfl
        | false =>
          have hm:d∈Qf7 ops.size listed:=mem_rem.2 ⟨by omega,by
            rw [Array.getD_eq_getD_getElem?] at hl ⊢
            simp only [Array.getElem?_eq_getElem hd2,Option.getD_some] at hl ⊢
            exact hl⟩
          rw [hrem] at hm
          rcases List.mem_cons.1 hm with e | hm
          · omega
          · have:=hsorted.1 d hm;omega
      rw [hr] at this
      cases this
  intro fuel
  induction fuel with
  | zero =>
    intro listed m st a w hR hsz hlen hclosed hex
    have h0:Qf7 ops.size listed=[]:=List.eq_nil_of_length_eq_zero (by omega)
    rw [h0] at hex
    simp only [exsI,Option.some.injEq] at hex
    subst hex
    refine ⟨?_,hK m a w hR⟩
    cases hr:Region.ready .any ops listed with
    | nil=>rfl
    | cons i r =>
      have:=((hready listed i).1 (by rw [hr];simp)).1
      rw [h0] at this
      cases this
  | succ fuel ih =>
    intro listed m st a w hR hsz hlen hclosed hex
    refine ⟨fun hr=>?_,fun i hi=>?_⟩
    · rw [hnone listed hsz hr] at hex
      simp only [exsI,Option.some.injEq] at hex
      subst hex
      exact hK m a w hR
    · obtain ⟨hirem,o,ho,hdir⟩:=(hready listed i).1 hi
      obtain ⟨hilt,hil⟩:=mem_rem.1 hirem
      obtain ⟨l1,l2,hsplit⟩:=List.append_of_mem hirem
      have hsorted:=Qmz ops.size listed
      have hlt1:∀ p,p∈l1→p<i:=by
        intro p hp
        rw [hsplit,List.pairwise_append] at hsorted
        exact hsorted.2.2 p hp i (by simp)
      have hanc:∀ p,p∈Qf7 ops.size listed→((ancs ops.toList []).getD i 0).testBit p=false:=by
        intro p hp
        cases hb:((ancs ops.toList []).getD i 0).testBit p with
        | false=>rfl
        | true =>
          have:=Qmw hsz hclosed (i+1) i (by omega) o ho hdir p hb
          rw [(mem_rem.1 hp).2] at this
          cases this
      have hpair:∀ p,p∈l1→Pair os fin (Qf7 ops.size listed) p i:=by
        intro p hp x y hx hy
        have hprem:p∈Qf7 ops.size listed:=by rw [hsplit];exact List.mem_append_left _ hp
        obtain ⟨g1,g2⟩:=QmJ hpr p i x.er y.er (hlt1 p hp) (by simp [hx]) (by simp [hy]) (by simpa using hanc p hprem)
        rw [er_commO] at g1
        refine ⟨g1,fun q hq=>?_⟩
        rw [QpF] at g2
        obtain ⟨h1,h2⟩:=g2 q hq
        refine ⟨List.all_eq_true.1 hck q h1,fun t ht r hr hpr' o2 ho2=>?_⟩
        have:=h2 t ht r o2.er hpr' (by simp [ho2]) (by simpa using hanc r hr)
        exact this
      have hbub:=bubble (cl:=cl) (os:=os) (fin:=fin) (fun s=>∃ m a w,Rel S0 N w0 m s a w) (fun s ⟨m,a,w,h⟩=>h.clf) (fun s o' s' ⟨m,a,w,h⟩ hmem he=>by
        obtain ⟨j,hj⟩:=List.mem_iff_getElem?.1 hmem
        have:=QhV (n:=0) (Q:=fun _ _ _=>False) (K:=fun a' w'=>∃ m',Rel S0 N w0 m' s' a' w') hcl wide_ok hO h hj he (fun m' a' w' h=>⟨m',h⟩)
        obtain ⟨a',w',m',h'⟩:=wpOp_some this
        exact ⟨m',a',w',h'⟩) i l2 (Qf7 ops.size listed) l1 st ⟨m,a,w,hR⟩ (fun p hp=>by rw [hsplit];exact hp) (by rw [← hsplit];exact hsorted) hpair (by rw [← hsplit];exact hex)
      rw [exsI] at hbub
      simp only [Option.bind_eq_some_iff] at hbub
      obtain ⟨o',ho',s,h1,h2⟩:=hbub
      refine QhV hcl hF hO hR ho' h1 fun m' a' w' hR'=>?_
      have hrem':Qf7 ops.size (listed.setIfInBounds i true)=l1++l2:=by
        have e1:Qf7 ops.size (listed.setIfInBounds i true)=(Qf7 ops.size listed).filter (fun p=>p != i):=by
          simp only [Qf7,List.filter_filter]
          apply List.filter_congr
          intro p hp
          have hp':p<listed.size:=by rw [hsz];simpa using hp
          simp only [Array.getD_eq_getD_getElem?,Array.getElem?_setIfInBounds]
          by_cases e:i=p
          · subst e;simp [hp']
          · simp [e,Ne.symm e]
        rw [e1,hsplit,List.filter_append,List.filter_cons]
        simp only [bne_self_eq_false,Bool.false_eq_true,if_false]
        rw [hsplit,List.pairwise_append,List.pairwise_cons] at hsorted
        rw [List.filter_eq_self.2,List.filter_eq_self.2]
        · intro p hp
          have:=hsorted.2.1.1 p hp
          simp;omega
        · intro p hp
          have:=hlt1 p hp
          simp;omega
      refine ih (listed.setIfInBounds i true) hR' (by simpa using hsz) ?_ ?_ ?_
      · rw [hrem']
        rw [hsplit] at hlen
        simp at hlen ⊢
        omega
      · intro j oj hoj hl d hd
        have hjlt:j<listed.size:=by rw [hsz];exact (Array.getElem?_eq_some_iff.1 hoj).1
        have mono:listed.getD d false=true→(listed.setIfInBounds i true).getD d false=true:=by
          intro h
          simp only [Array.getD_eq_getD_getElem?,Array.getElem?_setIfInBounds] at h ⊢
          by_cases e:i=d
          · subst e
            by_cases e2:i<listed.size
            · simp [e2]
            · simp [Array.getElem?_eq_none (by omega:listed.size≤i)] at h
          · simpa [e] using h
        by_cases e:i=j
        · subst e
          rw [ho] at hoj
          cases hoj
          exact mono (hdir d hd)
        · refine mono (hclosed j oj hoj ?_ d hd)
          simpa [Array.getD_eq_getD_getElem?,Array.getElem?_setIfInBounds,e] using hl
      · rw [hrem'];exact h2

theorem Qpb          (hmix:P.follows .mixedOrders=true) (hcl:∀ f ds r,cl f ds=some r→Qgy     w0 P f ds r) (hF:FOk F) {id:Nat} {ops:Array Oper} {draw:Bool} {os:List O} {ck:List (E×Nat×E×Nat)}
    (hc:QaX P (.region id ops draw)=some (.reg (os.map O.er) ck)) (hlt:(os.map O.er).all (O.within N)=true) (hR:Rel S0 N w0 m st a w) {fin:St}
    (he:exs cl os st=some fin) (hck:ck.all (QbF fin)=true) (hK:∀ m' a' w',Rel S0 N w0 m' fin a' w'→Q .normal a' w'):(Code.region id ops draw).wpIn F n P Q a w:=by
  simp only [QaX,Option.bind_eq_some_iff] at hc
  obtain ⟨os',hos,hc⟩:=hc
  have hle:os.length=ops.size→exsI cl os (List.range ops.size) st=some fin:=by
    intro h
    rw [QoG os os 0 st rfl] at he
    rw [← h,List.range_eq_range'];exact he
  cases draw with
  | false =>
    simp only [Bool.false_eq_true,if_false,Option.some.injEq,C.reg.injEq] at hc
    obtain ⟨rfl,rfl⟩:=hc
    have hO:=Qok hos hlt
    exact wpIn_region (Qmn hcl hF hO _ hR (hle hO.len) hK)
  | true =>
    simp only [if_true] at hc
    split at hc
    · rename_i hah
      simp only [Option.map_eq_some_iff,C.reg.injEq] at hc
      obtain ⟨ck',hp,rfl,rfl⟩:=hc
      have hO:=Qok hos hlt
      have hR':Rel S0 N w0 m st a { w with drawn:=w.drawn+1 } :=
        hR.world (hR.bel.more rfl rfl rfl (Nat.le_refl _) fun _ _ _=>rfl) (Nat.le_refl _) (fun _ _ _=>rfl)
      have hrem:Qf7 ops.size (Array.replicate ops.size false)=List.range ops.size:=by
        unfold Qf7
        rw [List.filter_eq_self.2]
        intro i hi
        have:i<ops.size:=by simpa using hi
        simp [Array.getD_eq_getD_getElem?,this]
      refine wpIn_region_any hmix (any_sound hcl hF hO hah hp hck hK ops.size _ hR' (by simp) (by rw [hrem];simp) ?_ (by rw [hrem];exact hle hO.len))
      intro i o ho hl
      have:i<ops.size:=(Array.getElem?_eq_some_iff.1 ho).1
      simp [Array.getD_eq_getD_getElem?,this] at hl
    · cases hc
end
end Go.AM

/- Part 16: code. -/
namespace Go.AM
open Go Go.RowKit

/-! ### Forgetting -/
theorem isIn_mem {k:Key} {ks:List Key}:k.isIn ks=true↔k∈ks:=by
 simp [Key.isIn]
mutual
theorem QnZ {ks:List Key}:∀ {x:A},refs ks x=true→refP (·∈ks) (fun k _=>k∈ks) x
 | .d _,_=>trivial
 | .own k n,h=>by simp only [refs] at h;exact isIn_mem.1 h
 | .ptr k n,h=>by simp only [refs] at h;exact isIn_mem.1 h
 | .ep k n o,h=>by simp only [refs] at h;exact isIn_mem.1 h
 | .tup xs,h=>QeZ (xs:=xs) (by simpa only [refs] using h)
 | .fn f xs,h=>QeZ (xs:=xs) (by simpa only [refs] using h)
theorem QeZ {ks:List Key}:∀ {xs:List A},Qdg ks xs=true→Qe9 (·∈ks) (fun k _=>k∈ks) xs
 | [],_=>trivial
 | x :: r,h=>by
  simp only [Qdg,Bool.and_eq_true] at h
  exact ⟨QnZ h.1,QeZ h.2⟩
end
mutual
theorem QkF {p p':Key→Prop} {q q':Key→Nat→Prop}:∀ {x:A},refP p q x→refP p' q' x→refP (fun k=>p k∧p' k) (fun k n=>q k n∧q' k n) x
 | .d _,_,_=>trivial
 | .own k n,h,h'=>⟨h,h'⟩
 | .ptr k _,h,h'=>⟨h,h'⟩
 | .ep k n _,h,h'=>⟨h,h'⟩
 | .tup xs,h,h'=>QiX (xs:=xs) h h'
 | .fn _ xs,h,h'=>QiX (xs:=xs) h h'
theorem QiX {p p':Key→Prop} {q q':Key→Nat→Prop}:∀ {xs:List A},Qe9 p q xs→Qe9 p' q' xs→Qe9 (fun k=>p k∧p' k) (fun k n=>q k n∧q' k n) xs
 | [],_,_=>trivial
 | _ :: _,h,h'=>⟨QkF h.1 h'.1,QiX h.2 h'.2⟩
end
theorem Qgh (fr:Fr):∀ (vs:List Nat) (i:Nat),(i∈vs→Ql9 fr vs i=fr i)∧(i ∉ vs→Ql9 fr vs i=none)
 | [],i=>⟨by simp,fun _=>rfl⟩
 | v :: vs,i=>by
  obtain ⟨h1,h2⟩:=Qgh fr vs i
  simp only [Ql9,updO]
  by_cases e:i=v
  ·subst e;simp
  ·simp only [e,if_false,List.mem_cons,false_or]
   exact ⟨h1,h2⟩
theorem Qes (hp:Hp):∀ (ks:List Key) (k:Key),(k∈ks→Qla hp ks k=hp k)∧(k ∉ ks→Qla hp ks k=none)
 | [],k=>⟨by simp,fun _=>rfl⟩
 | q :: ks,k=>by
  obtain ⟨h1,h2⟩:=Qes hp ks k
  simp only [Qla,Qbw]
  by_cases e:k=q
  ·subst e;simp
  ·simp only [e,if_false,List.mem_cons,false_or]
   exact ⟨h1,h2⟩
theorem QiF {fr:Fr} {ks:List Key}:∀ {vs:List Nat},Qi9 fr ks vs=true→∀ i∈vs,∀ x,fr i=some x→refs ks x=true
 | [],_,i,hi,_,_=>by cases hi
 | v :: vs,h,i,hi,x,hx=>by
  simp only [Qi9,Bool.and_eq_true] at h
  rcases List.mem_cons.1 hi with rfl | hi
  ·have:=h.1;rw [hx] at this;exact this
  ·exact QiF h.2 i hi x hx
theorem QhD {hp:Hp} {ks:List Key}:∀ {l:List Key},QgD hp ks l=true→∀ k∈l,∀ o,hp k=some o→Qdg ks o.cs=true
 | [],_,i,hi,_,_=>by cases hi
 | v :: vs,h,i,hi,o,ho=>by
  simp only [QgD,Bool.and_eq_true] at h
  rcases List.mem_cons.1 hi with rfl | hi
  ·have:=h.1;rw [ho] at this;exact this
  ·exact QhD h.2 i hi o ho

section
variable {S0:Nat→Prop} {N:Nat} {w0:Wd} {m:Key→Nat} {st:St} {a:Act} {w:World} {P:Program}

theorem Rel.keep (h:Rel S0 N w0 m st a w) {vs:List Nat} {ks:List Key} {s:St} (hmb:∀ k b,w0.mb k=some b→k∈ks) (hk:QhK st vs ks=some s):Rel S0 N w0 m s a w:=by
 unfold QhK at hk
 obtain ⟨⟨h1,h2⟩,hk⟩:=Qaf hk
 simp only [Option.some.injEq] at hk
 subst hk
 have hB:∀ k,k∈ks∧QdW st.hp k→QdW (Qla st.hp ks) k:=fun k ⟨hk,o,ho,he⟩=>⟨o,by rw [(Qes st.hp ks k).1 hk];exact ho,he⟩
 have hA:∀ k n,k∈ks∧QdT st.hp k n→QdT (Qla st.hp ks) k n:=fun k n ⟨hk,o,ho,he⟩=>⟨o,by rw [(Qes st.hp ks k).1 hk];exact ho,he⟩
 have hf:∀ i x,Ql9 st.fr vs i=some x→i∈vs∧st.fr i=some x:=by
  intro i x hx
  by_cases hi:i∈vs
  ·rw [(Qgh st.fr vs i).1 hi] at hx;exact ⟨hi,hx⟩
  ·rw [(Qgh st.fr vs i).2 hi] at hx;cases hx
 have hh:∀ k o,Qla st.hp ks k=some o→k∈ks∧st.hp k=some o:=by
  intro k o ho
  by_cases hi:k∈ks
  ·rw [(Qes st.hp ks k).1 hi] at ho;exact ⟨hi,ho⟩
  ·rw [(Qes st.hp ks k).2 hi] at ho;cases ho
 refine h.forget (fun i x hx=>(hf i x hx).2) (fun k o ho=>(hh k o ho).2) (fun k b hb=>(Qes st.hp ks k).1 (hmb k b hb)) ?_ ?_
 ·intro i x hx
  obtain ⟨hi,hx⟩:=hf i x hx
  exact Qaw hB hA (QkF (QnZ (QiF h1 i hi x hx)) (h.clf i x hx))
 ·intro k o x ho hx
  obtain ⟨hk,ho⟩:=hh k o ho
  have h3:=Qe5 (QeZ (QhD h2 k hk o ho)) x hx
  exact Qaw hB hA (QkF h3 (h.clh k o x ho hx))

theorem Rel.reslot (h:Rel S0 N w0 m st a w) {v:Nat} {x:A} (hx:RepA m st.hp (Im S0 m st.hp w) w x (a.tmps.getD v undef)) (hc:QaS st.hp x):Rel S0 N w0 m { st with fr:=upd st.fr v x } a w:=by
  refine ⟨fun i y hy=>?_,h.obj,h.inj,fun i y hy=>?_,h.clh,h.ge,h.lv,h.bel,h.df,h.ts,h.un,h.mb⟩
  · simp only [upd,updO] at hy
    split at hy
    · rename_i e;subst e;cases hy;exact hx
    · exact h.fr i y hy
  · simp only [upd,updO] at hy
    split at hy
    · cases hy;exact hc
    · exact h.clf i y hy

theorem QmN        (hR:Rel S0 N w0 m st a w) {q:Key} {n:Nat} {o:Obj} {v:Value} {cs:List D} (hk:st.hp q=some o) (hn:o.n=n) (hf:o.fz=true) (hcs:allD o.cs=some cs) (hy:RepA m st.hp (Im S0 m st.hp w) w (.own q n) v) :
    RepD (Im S0 m st.hp w) w (.row n cs) v:=by
  cases hy with
  | own _ _ _ _ hq =>
    obtain ⟨cap,cells,T,fz,rfl,hc,hat,hsz⟩:=hq o hk hn
    obtain ⟨cells',T',fz',ho⟩:=hR.obj q o hk
    have hmap:=Qe1 hcs
    obtain ⟨us,g1,g2⟩:=Qee ho 0 cs 0 (fun j d hj=>by rw [hmap];simp [hj])
    refine .row _ _ _ _ us hc ⟨hR.ge q o hk,hR.lt hk, ?_⟩ g1 (fun j u hj=>by
      rw [Qch ho.at_]
      simpa using g2 j u hj)
    rintro ⟨p,op,hp,hpf,hpm⟩
    have:=hR.inj p q op o hp hk hpm
    subst this
    rw [hk] at hp
    cases hp
    rw [hf] at hpf
    cases hpf

theorem Rel.frz (h:Rel S0 N w0 m st a w) {v:Nat} {s:St} (hk:QdG st v=some s):Rel S0 N w0 m s a w:=by
  unfold QdG at hk
  simp only [Option.bind_eq_some_iff] at hk
  obtain ⟨x,hx,hk⟩:=hk
  split at hk
  · rename_i q n
    simp only [Option.bind_eq_some_iff] at hk
    obtain ⟨o,ho,hk⟩:=hk
    obtain ⟨hn,hk⟩:=Qaf hk
    simp only [Option.map_eq_some_iff] at hk
    obtain ⟨cs,hcs,rfl⟩:=hk
    have h1:=h.freeze ho
    have hat:hupd st.hp q { o with fz:=true } q=some { o with fz:=true }:=by simp [hupd,Qbw]
    exact h1.reslot (.d _ _ (QmN h1 hat hn rfl hcs (h1.fr v _ hx))) trivial
  · cases hk;exact h
  · cases hk
end

/-! ### Scopes -/
def Qj5:Code→Code
 | .scope c=>Qj5 c
 | c=>c
theorem Qiu (P:Program):∀ c:Code,Qen P (Qj5 c)=Qen P c
 | .scope c=>by simp only [Qj5,Qen];exact Qiu P c
 | .skip | .region .. | .seq .. | .cond .. | .block .. | .loop _ | .exit _ | .goto _ | .label _ | .ret | .refuse _ | .rangeFunc ..=>rfl
theorem QnL:∀ (c d:Code),Qj5 c≠.scope d
 | .scope c,d=>QnL c d
 | .skip,_ | .region ..,_ | .seq ..,_ | .cond ..,_ | .block ..,_ | .loop _,_ | .exit _,_ | .goto _,_ | .label _,_ | .ret,_ | .refuse _,_ | .rangeFunc ..,_=>by simp [Qj5]

section
variable {P:Program} {F:Fence} {n:Nat} {Q:Exit→Act→World→Prop}

theorem QeF {b:Frame} {a:Act} {k:List Item} {cs:List Frame} {w:World} {c:Code}:step P (lone (b.atR a (.code (.scope c) :: k)) cs w)=.next (lone (b.atR a (.code c :: .inScope c :: k)) cs w) :=
 step_lone_go (by simp [stepG,stepG.exec,Frame.atR])
theorem QnP {b:Frame} {a:Act} {k:List Item} {cs:List Frame} {w:World} {c:Code}:step P (lone (b.atR a (.inScope c :: k)) cs w)=.next (lone (b.atR a k) cs w) :=
 step_lone_go (by simp [stepG,stepG.exec,Frame.atR])

theorem Qsx {c:Code} {a:Act} {w:World} (h:c.wpIn F n P (Exit.noGoto Q) a w):(Code.scope c).wpIn F n P Q a w:=by
 intro b k cs hro hb hr
 have h0:(lone (b.atR a (.code (.scope c) :: k)) cs w).fenced P F:=fenced_calm hb hr rfl
 obtain ⟨e,a₁,w₁,hq,harr⟩:=h b (.inScope c :: k) cs hro hb hr
 cases e with
 | normal=>exact ⟨.normal,a₁,w₁,hq,.head h0 QeF (StepsIn.trans harr (.one (fenced_calm hb hr rfl) QnP))⟩
 | exit id =>
  have hx:exitTo id (.inScope c :: k)=exitTo id k:=by simp [exitTo]
  exact ⟨.exit id,a₁,w₁,hq,fun k' hk=>.head h0 QeF (harr.1 k' (by rw [hx];exact hk)),
   fun hr' hk=>let ⟨k₁,h1,h2⟩:=harr.2 hr' (by rw [hx];exact hk);⟨k₁,h1,.head h0 QeF h2⟩⟩
 | goto l=>exact hq.elim
 | ret=>exact ⟨_,a₁,w₁,hq,.of_steps (.one h0 QeF) harr⟩
 | panic ch=>exact ⟨_,a₁,w₁,hq,.of_steps (.one h0 QeF) harr⟩
 | outgrown=>exact ⟨_,a₁,w₁,hq,.of_steps (.one h0 QeF) harr⟩

theorem Qsp {e:Exit} {a:Act} {w:World} (h:Exit.noGoto Q e a w):Q e a w:=by
 cases e<;>first | exact h | exact h.elim
theorem QoY {e:Exit} {a:Act} {w:World} (h:Exit.noGoto Q e a w):Exit.noGoto (Exit.noGoto Q) e a w:=by
 cases e<;>first | exact h | exact h.elim

theorem QjO:∀ (c:Code) {Q:Exit→Act→World→Prop} {a:Act} {w:World},(Qj5 c).wpIn F n P (Exit.noGoto Q) a w→c.wpIn F n P Q a w
 | .scope c,Q,a,w,h=>Qsx (QjO c (wpIn_mono h fun _ _ _=>QoY))
 | .skip,_,_,_,h | .region ..,_,_,_,h | .seq ..,_,_,_,h | .cond ..,_,_,_,h | .block ..,_,_,_,h | .loop _,_,_,_,h | .exit _,_,_,_,h | .goto _,_,_,_,h | .label _,_,_,_,h | .ret,_,_,_,h | .refuse _,_,_,_,h | .rangeFunc ..,_,_,_,h=>wpIn_mono h fun _ _ _=>Qsp

theorem QlW         {c:Code} (R:Nat→Act→World→Prop) {j:Nat} {a:Act} {w:World} (h₀:R j a w)
    (round:∀ j a w,R j a w→c.wpIn F n P (Exit.then (fun a' w'=>∃ j',j'<j∧R j' a' w') Q) a w):(Code.loop c).wpIn F n P Q a w:=by
  intro b k cs hro hb hr
  have key : ∀ j a w, R j a w →
      ∃ e a' w',Q e a' w'∧ArrivesIn (Machine.fenced P F) P (lone (b.atR a (.code c :: .inLoop c :: k)) cs w) b k cs e a' w':=by
    intro j
    induction j using Nat.strongRecOn with
    | _ j ih =>
      intro a w hI
      obtain ⟨e,a₁,w₁,hq,harr⟩:=round j a w hI b (.inLoop c :: k) cs hro hb hr
      cases e with
      | normal =>
        obtain ⟨j',hlt,hI₁⟩:=hq
        obtain ⟨e₂,a₂,w₂,hq₂,harr₂⟩:=ih j' hlt a₁ w₁ hI₁
        exact ⟨e₂,a₂,w₂,hq₂,.of_steps (StepsIn.trans harr (.one (fenced_calm hb hr rfl) stepR_inLoop)) harr₂⟩
      | exit id=>exact ⟨_,a₁,w₁,hq,.pass (x:=.inLoop c) rfl (fun _ _=>.inl (by simp)) harr⟩
      | goto l=>exact ⟨_,a₁,w₁,hq,.pass (x:=.inLoop c) rfl (fun _ _=>.inl (by simp)) harr⟩
      | ret=>exact ⟨_,a₁,w₁,hq,.pass (x:=.inLoop c) rfl (fun _ _=>.inl (by simp)) harr⟩
      | panic ch=>exact ⟨_,a₁,w₁,hq,.pass (x:=.inLoop c) rfl (fun _ _=>.inl (by simp)) harr⟩
      | outgrown=>exact ⟨_,a₁,w₁,hq,.pass (x:=.inLoop c) rfl (fun _ _=>.inl (by simp)) harr⟩
  obtain ⟨e,a',w',hq,harr⟩:=key _ a w h₀
  exact ⟨e,a',w',hq,.of_steps (.one (fenced_calm hb hr rfl) stepR_loop) harr⟩
end
end Go.AM

/- Loops over functions, part 1: moving a relation from world to world; the rounds' frame; what an iterator owes. -/
namespace Go.AM
open Go Go.RowKit

theorem QrM {w:World} {p:Addr} {v:Value} (h:w.cell? p=some v):∃ cs T fz,w.heap[p.block]?=some (Go.Obj.cells cs T fz):=by
 unfold World.cell? at h
 cases ho:w.heap[p.block]? with
 | none=>simp [ho] at h
 | some o=>cases o<;>first | exact ⟨_,_,_,rfl⟩ | simp [ho] at h

mutual
theorem RepD.mono2 {S S':Nat→Prop} {w w':World} (hS:∀ b,S b→S' b) (hw:∀ p v,S p.block→w.cell? p=some v→w'.cell? p=some v):∀ {x:D} {v:Value},RepD S w x v→RepD S' w' x v
 | _,_,.v x=>.v x
 | _,_,.zt=>.zt
 | _,_,.zf a=>.zf a
 | _,_,.row n cs ad cap vs h1 h2 h3 h4=>.row n cs ad cap vs h1 (hS _ h2) (RepL.mono2 hS hw h3) (fun j v hj=>hw _ _ (by rw [Addr.add_block];exact h2) (h4 j v hj))
 | _,_,.row0 a cap=>.row0 a cap
 | _,_,.agg cs vs h=>.agg cs vs (RepL.mono2 hS hw h)
 | _,_,.tup cs vs h=>.tup cs vs (RepL.mono2 hS hw h)
 | _,_,.fn f cs vs h=>.fn f cs vs (RepL.mono2 hS hw h)
 | _,_,.rp cs ad vs h2 h3 h4=>.rp cs ad vs (hS _ h2) (RepL.mono2 hS hw h3) (fun j v hj=>hw _ _ (by rw [Addr.add_block];exact h2) (h4 j v hj))
 | _,_,.rc f pre ad vs h2 h3 h4=>.rc f pre ad vs (hS _ h2) (RepL.mono2 hS hw h3) (hw _ _ h2 h4)
theorem RepL.mono2 {S S':Nat→Prop} {w w':World} (hS:∀ b,S b→S' b) (hw:∀ p v,S p.block→w.cell? p=some v→w'.cell? p=some v):∀ {xs:List D} {vs:List Value},RepL S w xs vs→RepL S' w' xs vs
 | _,_,.nil=>.nil
 | _,_,.cons x cs v vs h t=>.cons x cs v vs (RepD.mono2 hS hw h) (RepL.mono2 hS hw t)
end

mutual
theorem RepA.mono2 {m:Key→Nat} {hp:Hp} {S S':Nat→Prop} {w w':World} (hS:∀ b,S b→S' b) (hw:∀ p v,S p.block→w.cell? p=some v→w'.cell? p=some v)
    (hk:∀ k o cs T fz,hp k=some o→w.heap[m k]?=some (Go.Obj.cells cs T fz)→w'.heap[m k]?=some (Go.Obj.cells cs T fz)):∀ (x:A) (v:Value),RepA m hp S w x v→RepA m hp S' w' x v
  | .d x, v, h => by
      cases h with
      | d _ _ h=>exact .d x v (h.mono2 hS hw)
  | .own k n, v, h => by
      cases h with
      | own _ _ _ hs h =>
        exact .own k n v hs fun o ho hn=>let ⟨cap,cs,T,fz,h1,h2,h3,h4⟩:=h o ho hn;⟨cap,cs,T,fz,h1,h2,hk k o cs T fz ho h3,h4⟩
  | .ptr k off, v, h => by
      cases h with
      | ptr _ _ _ hs h=>exact .ptr k off v hs h
  | .ep k n off, v, h => by
      cases h with
      | ep _ _ _ _ hs h=>exact .ep k n off v hs h
  | .tup xs, v, h => by
      cases h with
      | tup _ vs h=>exact .tup xs vs (RepAL.mono2 hS hw hk xs vs h)
  | .fn f xs, v, h => by
      cases h with
      | fn _ _ vs h=>exact .fn f xs vs (RepAL.mono2 hS hw hk xs vs h)
theorem RepAL.mono2 {m:Key→Nat} {hp:Hp} {S S':Nat→Prop} {w w':World} (hS:∀ b,S b→S' b) (hw:∀ p v,S p.block→w.cell? p=some v→w'.cell? p=some v)
    (hk:∀ k o cs T fz,hp k=some o→w.heap[m k]?=some (Go.Obj.cells cs T fz)→w'.heap[m k]?=some (Go.Obj.cells cs T fz)):∀ (xs:List A) (vs:List Value),RepAL m hp S w xs vs→RepAL m hp S' w' xs vs
  | [], vs, h => by
      cases h with
      | nil=>exact .nil
  | x :: xs, vs, h => by
      cases h with
      | cons _ _ v vs h t=>exact .cons x xs v vs (RepA.mono2 hS hw hk x v h) (RepAL.mono2 hS hw hk xs vs t)
end

section
variable {S0:Nat→Prop} {N:Nat} {w0:Wd} {m:Key→Nat} {st:St} {a:Act} {w:World} {P:Program}

theorem Qro      {S S':Nat→Prop} {m:Key→Nat} {hp:Hp} {w w':World} (hc:∀ b cs T fz,S b→w.heap[b]?=some (Go.Obj.cells cs T fz)→w'.heap[b]?=some (Go.Obj.cells cs T fz)) :
    ∀ p v,S p.block→w.cell? p=some v→w'.cell? p=some v:=by
  intro p v hp hv
  obtain ⟨cs,T,fz,h⟩:=QrM hv
  rw [Qht (w:=w) (by rw [hc _ _ _ _ hp h,h])]
  exact hv

theorem Rel.move (h:Rel S0 N w0 m st a w) {S':Nat→Prop} {w0':Wd} {a':Act} {w':World} (htm:a'.tmps=a.tmps) (hsz:w.heap.size≤w'.heap.size)
    (hS:∀ b,b<w.heap.size→S0 b→S' b)
    (hc:∀ b cs T fz,S0 b→w.heap[b]?=some (Go.Obj.cells cs T fz)→w'.heap[b]?=some (Go.Obj.cells cs T fz))
    (un':∀ b,w'.heap.size≤b→S' b) (bel':Foot w0'.lk w0'.w w') (lv':∀ k o,st.hp k=some o→o.fz=false→w0'.lk (m k)∨w0'.w.heap.size≤m k) (df':Marks S' w0' a'.defers w')
    (mb':∀ k b,w0'.mb k=some b→(∃ o,st.hp k=some o∧o.es=0)∧m k=b):Rel S' N w0' m st a' w':=by
  have hIm:∀ b,Im S0 m st.hp w b→Im S' m st.hp w' b:=fun b hb=>⟨hS b hb.2.1 hb.1,Nat.lt_of_lt_of_le hb.2.1 hsz,hb.2.2⟩
  have hw:∀ p v,Im S0 m st.hp w p.block→w.cell? p=some v→w'.cell? p=some v :=
    Qro (S:=Im S0 m st.hp w) (S':=S') (m:=m) (hp:=st.hp) fun b cs T fz hb hh=>hc b cs T fz hb.1 hh
  have hk:∀ k o cs T fz,st.hp k=some o→w.heap[m k]?=some (Go.Obj.cells cs T fz)→w'.heap[m k]?=some (Go.Obj.cells cs T fz):=fun k o cs T fz ho hh=>hc _ cs T fz (h.ge k o ho) hh
  refine ⟨fun i x hx=>by rw [htm];exact (h.fr i x hx).mono2 hIm hw hk _ _, ?_,h.inj,h.clf,h.clh,fun k o ho=>hS _ (h.lt ho) (h.ge k o ho),lv',bel',df',by rw [htm];exact h.ts,un',mb'⟩
  intro k o ho
  obtain ⟨cs,T,fz,hr⟩:=h.obj k o ho
  refine ⟨cs,T,fz,hk k o _ _ _ ho hr.at_,hr.size,hr.free,fun i x hx=>?_⟩
  obtain ⟨v,hv,hx'⟩:=hr.rep i x hx
  exact ⟨v,hv,hx'.mono2 hIm hw hk _ _⟩

theorem Rel.reframe (h:Rel S0 N w0 m st a w) {fr:Fr} {px:Key} {a':Act} (hts:a'.tmps.size=N) (hdf:Marks S0 w0 a'.defers w)
    (hf:∀ i x,fr i=some x→RepA m st.hp (Im S0 m st.hp w) w x (a'.tmps.getD i undef)∧QaS st.hp x):Rel S0 N w0 m ⟨fr,st.hp,px⟩ a' w :=
  ⟨fun i x hx=>(hf i x hx).1,h.obj,h.inj,fun i x hx=>(hf i x hx).2,h.clh,h.ge,h.lv,h.bel,hdf,hts,h.un,h.mb⟩

def Qi6:List Nat→List Value→Array Value→Array Value
 | p :: ps,v :: vs,t=>Qi6 ps vs (t.setIfInBounds p v)
 | _,_,t=>t
theorem QmC:∀ (ps:List Nat) (vs:List Value) (t:Array Value),(ps.zip vs).foldl (fun t (p,v)=>t.setIfInBounds p v) t=Qi6 ps vs t
 | [],vs,t=>by simp [Qi6]
 | p :: ps,[],t=>by simp [Qi6]
 | p :: ps,v :: vs,t=>by simp only [List.zip_cons_cons,List.foldl_cons,Qi6];exact QmC ps vs _
theorem Qmt:∀ (ps:List Nat) (vs:List Value) (t:Array Value),(Qi6 ps vs t).size=t.size
 | [],vs,t=>by simp [Qi6]
 | p :: ps,[],t=>by simp [Qi6]
 | p :: ps,v :: vs,t=>by rw [Qi6,Qmt,Array.size_setIfInBounds]
theorem QqR      {hp:Hp} {S:Nat→Prop}:∀ (ps:List Nat) (xs:List D) (vs:List Value) (fr:Fr) (t:Array Value),(∀ p∈ps,p<t.size)→RepL S w xs vs→(∀ i x,fr i=some x→RepA m hp S w x (t.getD i undef)∧QaS    hp x) →
    ∀ i x,putL fr ps xs i=some x→RepA m hp S w x ((Qi6 ps vs t).getD i undef)∧QaS hp x
  | [],xs,vs,fr,t,_,_,hf,i,x,hx=>by simp only [putL] at hx;simpa [Qi6] using hf i x hx
  | p :: ps,_,_,fr,t,hp',.nil,hf,i,x,hx=>by simp only [putL] at hx;simpa [Qi6] using hf i x hx
  | p :: ps,_,_,fr,t,hp',.cons y ys v vs h hr,hf,i,x,hx=>by
    refine QqR ps ys vs (upd fr p (.d y)) (t.setIfInBounds p v) (fun q hq=>by rw [Array.size_setIfInBounds];exact hp' q (List.mem_cons_of_mem _ hq)) hr ?_ i x hx
    intro j z hz
    simp only [upd,updO] at hz
    rw [Qrx _ _ _ _ (hp' p (List.mem_cons_self ..))]
    split at hz
    · rename_i e
      rw [if_pos e]
      cases hz
      exact ⟨.d _ _ h,trivial⟩
    · rename_i e
      rw [if_neg e]
      exact hf j z hz

def mbOf (m:Key→Nat) (hp:Hp) (ks:List Key) (k:Key):Option Nat :=
 if k.isIn ks then (match hp k with | some o=>if o.es=0 then some (m k) else none | none=>none) else none
theorem Qi0 {m:Key→Nat} {hp:Hp} {ks:List Key} {k:Key} {b:Nat} (h:mbOf m hp ks k=some b):k∈ks∧(∃ o,hp k=some o∧o.es=0)∧m k=b:=by
  unfold mbOf at h
  split at h
  · rename_i hk
    split at h
    · rename_i o ho
      split at h
      · rename_i he
        cases h
        exact ⟨isIn_mem.1 hk,⟨o,ho,he⟩,rfl⟩
      · cases h
    · cases h
  · cases h
theorem Qqg {m:Key→Nat} {hp:Hp} {ks:List Key} {k:Key} {o:Obj} (hk:k∈ks) (ho:hp k=some o) (he:o.es=0):mbOf m hp ks k=some (m k):=by
 unfold mbOf
 rw [if_pos (isIn_mem.2 hk),ho]
 simp [he]

def Qr0:A→Prop
 | .d _ | .ptr _ _=>True
 | _=>False

theorem susp {S:Nat→Prop} {m m':Key→Nat} {st st':St} {a a':Act} {w w':World} {wa wb:Wd} {ks:List Key} (h:Rel S N wa m st a w) (hsz:w.heap.size≤w'.heap.size)
    (hft:∀ b cs T fz,b<w.heap.size→¬ Live m st.hp b→w.heap[b]?=some (Go.Obj.cells cs T fz)→w'.heap[b]?=some (Go.Obj.cells cs T fz))
    (hlv:∀ k o,st'.hp k=some o→o.fz=false→Live m st.hp (m' k)∨w.heap.size≤m' k)
    (hmb:∀ k o,k∈ks→st.hp k=some o→o.es=0→wb.mb k=some (m k)) (h':Rel S N wb m' st' a' w') {x:A} {v:Value} (hp:Qr0 x) (hks:refs ks x=true) (hx:RepA m st.hp (Im S m st.hp w) w x v) (hc:QaS st.hp x) :
    RepA m' st'.hp (Im S m' st'.hp w') w' x v∧QaS st'.hp x:=by
  cases x with
  | d y =>
    refine ⟨.d _ _ ((QhI hx).mono2 (fun b hb=>⟨hb.1,Nat.lt_of_lt_of_le hb.2.1 hsz, ?_⟩) (Qro (S:=Im S m st.hp w) (S':=S) (m:=m) (hp:=st.hp) fun b cs T fz hb hh=>hft b cs T fz hb.2.1 hb.2.2 hh)),trivial⟩
    rintro ⟨k,o,ho,hf,rfl⟩
    rcases hlv k o ho hf with h1 | h1
    · exact hb.2.2 h1
    · have:=hb.2.1;omega
  | ptr k off =>
    obtain ⟨o,ho,he⟩:=hc
    have hk:k∈ks:=isIn_mem.1 (by simpa only [refs] using hks)
    obtain ⟨⟨o',ho',he'⟩,hm⟩:=h'.mb k (m k) (hmb k o hk ho he)
    refine ⟨?_,o',ho',he'⟩
    cases hx with
    | ptr _ _ _ hs hv=>exact .ptr k off v hs fun _ _=>by rw [hm];exact hv o ho
  | _=>exact hp.elim

theorem QpE {fr:Fr} {vs:List Nat} (h:QmA (Ql9 fr vs) vs=true):∀ i x,Ql9 fr vs i=some x→Qr0 x:=by
 intro i x hx
 by_cases hi:i∈vs
 ·have:=List.all_eq_true.1 h i hi
  rw [hx] at this
  cases x<;>first | trivial | cases this
 ·rw [(Qgh fr vs i).2 hi] at hx;cases hx
end

def ItOk (P:Program) (f:Nat) (ds:List D) (xs:List (List D)):Prop :=
 (∃ fn,P.funcs[f]?=some fn∧fn.body.isSome=true∧fn.name ≠ "runtime.NumGoroutine")∧∀ (n:Nat) (S L0:Nat→Prop) (w:World) (vs:List Value),RepL S w ds vs→(∀ b,S b→b<w.heap.size∧¬ L0 b) →
 (∀ b,L0 b→b<w.heap.size)→∀ (l:Nat) (J Jx:Nat→(Nat→Prop)→(Nat→Prop)→World→Prop),
  (∀ i L V V' W W',J i L V W→Foot V W W'→(∀ b,V' b→b<W.heap.size→V b)→(∀ b,V' b→w.heap.size≤b∧b<W'.heap.size)→J i L V' W') →
  (∀ i L V V' W W',Jx i L V W→Foot V W W'→(∀ b,V' b→b<W.heap.size→V b)→(∀ b,V' b→w.heap.size≤b∧b<W'.heap.size)→Jx i L V' W') →
  (∀ i x L V W (args:List Value),xs[i]?=some x→J i L V W→RepL (fun b=>(S b∨w.heap.size≤b)∧b<W.heap.size∧¬ V b∧¬ L b) W x args →
   YieldAt Fence.wide n P l args.toArray W fun e W'=>∃ L',Foot L W W'∧(∀ b,L' b→b<W.heap.size→L b)∧(∀ b,L' b→b<W'.heap.size) ∧
    ((e=.returned (.bool true)∧J (i+1) L' V W')∨(e=.returned (.bool false)∧Jx (i+1) L' V W'))) →
  J 0 L0 (fun _=>False) w →
  CallsIn Fence.wide (n+1) P f (#[.func (.yield l) #[] #[]]++vs.toArray) w fun e W'=>(∃ v,e=.returned v)∧∃ i L V,(i=xs.length∧J i L V W')∨Jx i L V W'
end Go.AM

/- Loops over functions, part 2: the statement. -/
namespace Go.AM
open Go Go.RowKit

theorem FOk.inRound {F:Fence} (h:FOk F) (l:Nat):FOk (F.inRound l):=⟨h.fn,h.dep,fun hc=>h.call hc⟩

def Ex.out:Ex→Exit
 | .n=>.normal
 | .x id=>.exit id
 | .r=>.ret

def exC:Ex→Option Code
 | .n=>none
 | .r=>some .ret
 | .x id=>some (.exit id)

def Runs (P:Program) (N:Nat) (f:C→St→Option (Ex×St)) (ks:List Key) (c:C) (code:Code):Prop :=
 ∀ (F:Fence),FOk F→∀ (n:Nat) (S0:Nat→Prop) (w0:Wd) (Q:Exit→Act→World→Prop) (m:Key→Nat) (st:St) (a:Act) (w:World) (e:Ex) (s:St),(∀ k b,w0.mb k=some b→k∈ks)→TabAt w0.lk w0.w→f c st=some (e,s)→Rel S0 N w0 m st a w →
  (∀ m' a' w',Rel S0 N w0 m' s a' w'→Q e.out a' w')→code.wpIn F n P Q a w

structure Mid (S0:Nat→Prop) (N:Nat) (w0:Wd) (W1:World) (fr:Fr) (px:Key) (tmps:Array Value) (df:List Deferred) (l:Nat) (ob:Go.Obj) (L V:Nat→Prop) (W:World) (m:Key→Nat) (hp:Hp):Prop where
 rel:Rel (fun b=>S0 b∧¬ V b) N ⟨W,Live m hp,fun _=>none,fun _=>True⟩ m ⟨fr,hp,px⟩ { tmps:=tmps,defers:=[] } W
 hL:L=fun b=>Live m hp b∨b=l
 lv:∀ k o,hp k=some o→o.fz=false→w0.lk (m k)∨w0.w.heap.size≤m k
 bel:Foot w0.lk w0.w W
 mks:Marks (fun b=>S0 b∧b<W1.heap.size) w0 df W
 ob:W.heap[l]?=some ob
 vr:∀ b,V b→W1.heap.size≤b∧b<W.heap.size
 sz:W1.heap.size≤W.heap.size

section
variable {S0:Nat→Prop} {N:Nat} {w0:Wd} {W1:World} {fr:Fr} {px:Key} {tmps:Array Value} {df:List Deferred} {l:Nat} {ob:Go.Obj} {L V V':Nat→Prop} {W W':World} {m:Key→Nat} {hp:Hp}

theorem Mid.step (hl:l<W1.heap.size) (hw0:w0.w.heap.size≤W1.heap.size) (h:Mid S0 N w0 W1 fr px tmps df l ob L V W m hp) (hf:Foot V W W') (h1:∀ b,V' b→b<W.heap.size→V b) (h2:∀ b,V' b→W1.heap.size≤b∧b<W'.heap.size) :
    Mid S0 N w0 W1 fr px tmps df l ob L V' W' m hp:=by
  have hnv:∀ b,b<W1.heap.size→¬ V b:=fun b hb hv=>by have:=(h.vr b hv).1;omega
  have hsz:=hf.size
  refine ⟨h.rel.move rfl hsz (fun b hb hs=>⟨hs.1,fun hv=>hs.2 (h1 b hv hb)⟩) (fun b cs T fz hs hh=>by rw [hf.block b (Qc2 hh) hs.2];exact hh)
    (fun b hb=>⟨(h.rel.un b (Nat.le_trans hsz hb)).1,fun hv=>by have:=(h2 b hv).2;omega⟩) (Foot.refl _ _) (fun k o ho hz=>.inl ⟨k,o,ho,hz,rfl⟩) (Marks.nil _ _ _) (fun k b hb=>by cases hb),
    h.hL,h.lv,h.bel.more hf.os hf.tape hf.output hsz (fun b hb hn=>hf.block b hb fun hv=>hn (.inr (by have:=(h.vr b hv).1;omega))), ?_, ?_,h2,Nat.le_trans h.sz hsz⟩
  · exact h.mks.step fun b hb hd=>by rw [hf.block b (Qc2 hd) (hnv b hb.2)];exact hd
  · rw [hf.block l (Qc2 h.ob) (hnv l hl)];exact h.ob

theorem Qm8 {lk:Nat→Prop} {w w':World} {b:Nat} {o:Go.Obj} (h:Foot lk w w') (hb:lk b∨w.heap.size≤b):Foot lk w (w'.putObj b o) :=
 h.more rfl rfl rfl (by simp) fun k hk hn=>World.putObj_heap_other (fun e=>hn (e ▸ hb))
theorem Qjh {w:World} {l:Nat} {r r':Loop} (h:w.heap[l]?=some (.loop r)):∀ (b:Nat) (cs:Array Value) (T:TypeId) (fz:Nat×Nat),w.heap[b]?=some (Go.Obj.cells cs T fz)→(w.putObj l (.loop r')).heap[b]?=some (Go.Obj.cells cs T fz):=by
 intro b cs T fz hb
 rw [World.putObj_heap_other]
 ·exact hb
 ·rintro rfl;rw [h] at hb;cases hb
theorem Qoy {S:Nat→Prop} {w1:Wd} {df:List Deferred} {w:World} {l:Nat} {r r':Loop} (h:w.heap[l]?=some (.loop r)) (hm:Marks S w1 df w):Marks S w1 df (w.putObj l (.loop r')) :=
 hm.step fun b _ hd=>by
  rw [World.putObj_heap_other]
  ·exact hd
  ·rintro rfl;rw [h] at hd;cases hd
end

section
variable {S0:Nat→Prop} {N:Nat} {w0:Wd} {m:Key→Nat} {st:St} {a:Act} {w:World} {P:Program}

theorem Qpu         {W1:World} {fr:Fr} {px:Key} {tmps:Array Value} {df:List Deferred} {l n:Nat} {L V:Nat→Prop} {W:World} {hp:Hp} {rec:LoopState→Option Code→Loop} {ps:Array Nat} {ca cb:Code} {f:C→St→Option (Ex×St)} {asg body:C} {ks:List Key} {vs:List Nat} {fn:FuncId}
    (hT:TabAt w0.lk w0.w) (hl:l<W1.heap.size) (hw0:w0.w.heap.size≤l) (hrec:∀ s p,rec s p={ state:=s,pending:=p,fn:=fn,tmps:=tmps,params:=ps,assign:=ca,body:=cb,defers:=(rec .ready none).defers })
    (hps:∀ p∈ps.toList,p<N) (hA:Runs P N f ks asg ca) (hB:Runs P N f ks body cb) (hpl:∀ i x,fr i=some x→Qr0 x∧refs ks x=true)
    (h:Mid S0 N w0 W1 fr px tmps df l (.loop (rec .ready none)) L V W m hp) {x:List D} {args:List Value} (hargs:RepL (Im (fun b=>S0 b∧¬ V b) m hp W) W x args) {p q:Ex×St}
    (h1:x.length=ps.toList.length) (h2:f asg ⟨putL fr ps.toList x,hp,px⟩=some p) (h3:p.1=.n) (h4:f body p.2=some q) :
    YieldAt Fence.wide n P l args.toArray W fun e W'=>∃ L',Foot L W W'∧(∀ b,L' b→b<W.heap.size→L b)∧(∀ b,L' b→b<W'.heap.size) ∧
      ∃ m',Mid S0 N w0 W1 fr px tmps df l (.loop (rec (if q.1=.n then .ready else .done) (exC q.1))) L' V W' m' q.2.hp∧e=.returned (.bool (decide (q.1=.n))):=by
  have hal:args.length=ps.toList.length:=by rw [← hargs.length];exact h1
  have hy:=run_yield (P:=P) (args:=args.toArray) h.ob (by rw [hrec];simpa using hal)
  refine ⟨_,_,_,_,hy, ?_⟩
  rw [hrec]
  dsimp only
  have htm:(ps.zip args.toArray).foldl (fun tmps (t,a)=>tmps.setIfInBounds t a) tmps=Qi6 ps.toList args tmps:=by
    rw [← QmC,← Array.foldl_toList,Array.toList_zip]
  rw [htm]
  have hts:=h.rel.ts
  obtain ⟨mb,hmbd⟩:∃ mb,mb=mbOf m hp ks:=⟨_,rfl⟩
  have hWn:¬ Live m hp l:=by
    rintro ⟨k,o,ho,hf,hm⟩
    obtain ⟨cs,T,fz,ho⟩:=h.rel.obj k o ho
    have hat:=ho.at_
    rw [hm,h.ob] at hat;cases hat
  -- the frame that waits
  have R0:Rel (fun b=>S0 b∧¬ V b) N ⟨W,Live m hp,mb,fun _=>True⟩ m ⟨fr,hp,px⟩ { tmps:=tmps,defers:=[] } W :=
    h.rel.move rfl (Nat.le_refl _) (fun _ _ h=>h) (fun _ _ _ _ _ h=>h) h.rel.un (Foot.refl _ _) (fun k o ho hz=>.inl ⟨k,o,ho,hz,rfl⟩) (Marks.nil _ _ _) (fun k b hb=>by
      subst hmbd
      obtain ⟨_,g1,g2⟩:=Qi0 hb
      exact ⟨g1,g2⟩)
  have RA:Rel (fun b=>S0 b∧¬ V b) N ⟨W,Live m hp,mb,fun _=>True⟩ m ⟨putL fr ps.toList x,hp,px⟩ { tmps:=Qi6 ps.toList args tmps,defers:=[] } W :=
    R0.reframe (by rw [Qmt];exact hts) (Marks.nil _ _ _) (QqR ps.toList x args fr tmps (fun p hp=>by rw [hts];exact hps p hp) hargs (fun i y hy=>⟨R0.fr i y hy,R0.clf i y hy⟩))
  have hmks:∀ k b,mb k=some b→k∈ks:=fun k b hb=>by subst hmbd;exact (Qi0 hb).1
  have tA:TabAt (Live m hp) W:=⟨hT.here h.bel,fun t ht ⟨k,o,ho,hf,hm⟩=>by
    rcases h.lv k o ho hf with g | g
    · exact hT.2 t ht (hm ▸ g)
    · have:=(hT.1 t ht).1;omega⟩
  refine roundIn_of_wpIn trivial (hA _ (wide_ok.inRound l) _ _ _ _ m _ _ W p.1 p.2 hmks tA h2 RA ?_)
  intro m1 a1 w1 R1
  rw [h3]
  -- the record becomes busy
  have hbel1:=R1.bel
  have hw1l:w1.heap[l]?=some (.loop (rec .ready none)):=by rw [hbel1.block l (Qc2 h.ob) hWn];exact h.ob
  refine ⟨_,run_beginRound hw1l (by rw [hrec]), ?_⟩
  obtain ⟨w2,hw2⟩:∃ w2,w1.putObj l (.loop { rec .ready none with state:=.busy })=w2:=⟨_,rfl⟩
  rw [hw2]
  have hsz2:w2.heap.size=w1.heap.size:=by rw [← hw2];simp
  have hw2l:w2.heap[l]?=some (.loop { rec .ready none with state:=.busy }):=by rw [← hw2];exact World.putObj_heap_same (Qc2 hw1l)
  have hc12:∀ (b:Nat) (cs:Array Value) (T:TypeId) (fz:Nat×Nat),w1.heap[b]?=some (Go.Obj.cells cs T fz)→w2.heap[b]?=some (Go.Obj.cells cs T fz):=by rw [← hw2];exact Qjh hw1l
  have ho12:∀ b,b≠l→w2.heap[b]?=w1.heap[b]?:=fun b hb=>by rw [← hw2];exact World.putObj_heap_other hb
  have hsW1:W.heap.size≤w1.heap.size:=hbel1.size
  have hlW:=Qc2 h.ob
  have hmb1:∀ k b,mb k=some b→(∃ o,p.2.hp k=some o∧o.es=0)∧m1 k=b:=R1.mb
  have hlv1:∀ b,Live m1 p.2.hp b→Live m hp b∨W.heap.size≤b:=by
    rintro b ⟨k,o,ho,hf,rfl⟩
    exact R1.lv k o ho hf
  -- the body
  have hdf1:Marks (fun b=>S0 b∧¬ V b) ⟨w2,fun b=>Live m1 p.2.hp b∨W.heap.size≤b,mb,fun _=>True⟩ a1.defers w2:=by
    obtain ⟨Ds,g1,hnd,g2⟩:=R1.df
    refine ⟨Ds,g1,hnd,fun b hb=>?_⟩
    obtain ⟨k1,k2,k3⟩:=g2 b hb
    exact ⟨k1,trivial,by rw [ho12 b (by rintro rfl;rw [hw1l] at k3;cases k3)];exact k3⟩
  have RB:Rel (fun b=>S0 b∧¬ V b) N ⟨w2,fun b=>Live m1 p.2.hp b∨W.heap.size≤b,mb,fun _=>True⟩ m1 p.2 a1 w2 :=
    R1.move rfl (by omega) (fun _ _ h=>h) (fun b cs T fz _ hh=>hc12 b cs T fz hh) (fun b hb=>R1.un b (by omega)) (Foot.refl _ _) (fun k o ho hz=>.inl (.inl ⟨k,o,ho,hz,rfl⟩)) hdf1 hmb1
  have tB:TabAt (fun b=>Live m1 p.2.hp b∨W.heap.size≤b) w2:=⟨fun t ht=>by
    obtain ⟨g1,T,fz,g2⟩:=tA.here R1.bel t ht
    have:=(hT.1 t ht).1
    exact ⟨by rw [hsz2];exact g1,T,fz,(ho12 t.1 (by omega)).trans g2⟩,fun t ht hl=>by
    have h0:=(tA.1 t ht).1
    rcases hl with hl | hl
    · rcases hlv1 _ hl with g | g
      · exact tA.2 t ht g
      · omega
    · omega⟩
  refine hB _ (wide_ok.inRound l) _ _ _ _ m1 p.2 a1 w2 q.1 q.2 hmks tB h4 RB ?_
  intro m2 a2 w3 R2
  have hbel2:=R2.bel
  have hsW2:w2.heap.size≤w3.heap.size:=hbel2.size
  have hw2n:¬ (Live m1 p.2.hp l∨W.heap.size≤l):=by
    rintro (⟨k,o,ho,hf,hm⟩ | hh)
    · obtain ⟨cs,T,fz,ho⟩:=R1.obj k o ho
      have hat:=ho.at_
      rw [hm,hw1l] at hat;cases hat
    · omega
  have hw3l:w3.heap[l]?=some (.loop { rec .ready none with state:=.busy }):=by rw [hbel2.block l (Qc2 hw2l) hw2n];exact hw2l
  have hlv2:∀ b,Live m2 q.2.hp b→Live m hp b∨W.heap.size≤b:=by
    rintro b ⟨k,o,ho,hf,rfl⟩
    rcases R2.lv k o ho hf with (hh | hh) | hh
    · exact hlv1 _ hh
    · exact .inr hh
    · dsimp only at hh;exact .inr (by omega)
  have hkeep:∀ b,b<W.heap.size→¬ Live m hp b→b≠l→w3.heap[b]?=W.heap[b]?:=by
    intro b hb hn hne
    rw [hbel2.block b (by dsimp only;omega) (by
      rintro (hh | hh)
      · rcases hlv1 b hh with hh | hh
        · exact hn hh
        · omega
      · omega),ho12 b hne]
    exact hbel1.block b hb hn
  have S2:∀ i y,fr i=some y→RepA m2 q.2.hp (Im (fun b=>S0 b∧¬ V b) m2 q.2.hp w3) w3 y (tmps.getD i undef)∧QaS q.2.hp y:=fun i y hy =>
    susp (ks:=ks) R0 (by omega) (fun b cs T fz hb hn hh=>by
      rw [hkeep b hb hn (by rintro rfl;rw [h.ob] at hh;cases hh)];exact hh) (fun k o ho hf=>hlv2 _ ⟨k,o,ho,hf,rfl⟩) (fun k o hk ho he=>by subst hmbd;exact Qqg hk ho he) R2 (hpl i y hy).1 (hpl i y hy).2 (R0.fr i y hy) (R0.clf i y hy)
  -- the record is ready again,or done
  have fin : ∀ jump : Option Code, jump = exC q.1 → ∃ v w', (Instr.endRound l jump).run P w3 = .ok v w' ∧ ∃ L', Foot L W w' ∧ (∀ b, L' b → b < W.heap.size → L b) ∧ (∀ b, L' b → b < w'.heap.size) ∧
      ∃ m',Mid S0 N w0 W1 fr px tmps df l (.loop (rec (if q.1=.n then .ready else .done) (exC q.1))) L' V w' m' q.2.hp∧Ending.returned v=.returned (.bool (decide (q.1=.n))):=by
    rintro jump rfl
    obtain ⟨w4,hw4⟩:∃ w4,w3.putObj l (.loop { { rec .ready none with state:=.busy } with state:=if (exC q.1).isNone then .ready else .done,pending:=exC q.1 })=w4:=⟨_,rfl⟩
    have hrn:Instr.endRound l (exC q.1)=Instr.endRound l (exC q.1):=rfl
    have hsz4:w4.heap.size=w3.heap.size:=by rw [← hw4];simp
    have ho34:∀ b,b≠l→w4.heap[b]?=w3.heap[b]?:=fun b hb=>by rw [← hw4];exact World.putObj_heap_other hb
    have hc34:∀ (b:Nat) (cs:Array Value) (T:TypeId) (fz:Nat×Nat),w3.heap[b]?=some (Go.Obj.cells cs T fz)→w4.heap[b]?=some (Go.Obj.cells cs T fz):=by rw [← hw4];exact Qjh hw3l
    have hnone:(exC q.1).isNone=decide (q.1=.n):=by cases q.1<;>simp [exC]
    have hw4l:w4.heap[l]?=some (.loop (rec (if q.1=.n then .ready else .done) (exC q.1))):=by
      rw [← hw4,World.putObj_heap_same (Qc2 hw3l),hnone]
      rw [hrec (if q.1=.n then .ready else .done)]
      rw [hrec .ready none]
      by_cases hq:q.1=.n<;>simp [hq]
    have hfoot:Foot L W w4:=by
      refine ⟨?_, ?_, ?_,by omega,fun b hb hn=>?_⟩
      · rw [← hw4];exact hbel2.os.trans (by dsimp only;rw [← hw2];exact hbel1.os)
      · rw [← hw4];exact hbel2.tape.trans (by dsimp only;rw [← hw2];exact hbel1.tape)
      · rw [← hw4];exact hbel2.output.trans (by dsimp only;rw [← hw2];exact hbel1.output)
      · rw [h.hL] at hn
        rw [ho34 b (fun e=>hn (.inr e)),hkeep b hb (fun e=>hn (.inl e)) (fun e=>hn (.inr e))]
    have hlo:∀ b,Live m hp b→w0.lk b∨w0.w.heap.size≤b:=by
      rintro b ⟨k,o,ho,hf,rfl⟩
      exact h.lv k o ho hf
    have hW0:w0.w.heap.size≤W.heap.size:=h.bel.size
    have RE:Rel (fun b=>S0 b∧¬ V b) N ⟨w4,Live m2 q.2.hp,fun _=>none,fun _=>True⟩ m2 ⟨fr,q.2.hp,px⟩ { tmps:=tmps,defers:=[] } w4 :=
      (R2.reframe (a':={ tmps:=tmps,defers:=[] }) hts (Marks.nil _ _ _) S2).move rfl (by omega) (fun _ _ h=>h) (fun b cs T fz _ hh=>hc34 b cs T fz hh) (fun b hb=>R2.un b (by omega)) (Foot.refl _ _) (fun k o ho hz=>.inl ⟨k,o,ho,hz,rfl⟩) (Marks.nil _ _ _) (fun k b hb=>by cases hb)
    refine ⟨_,w4,by rw [← hw4];exact run_endRound (exC q.1) hw3l,fun b=>Live m2 q.2.hp b∨b=l,hfoot, ?_, ?_,m2,⟨RE,rfl, ?_, ?_, ?_,hw4l,fun b hb=>?_, ?_⟩,by rw [hnone]⟩
    · rintro b (hb | hb) hlt
      · rw [h.hL]
        rcases hlv2 b hb with hh | hh
        · exact .inl hh
        · omega
      · rw [h.hL];exact .inr hb
    · rintro b (hb | hb)
      · obtain ⟨k,o,ho,hf,rfl⟩:=hb
        have:=R2.lt ho
        omega
      · omega
    · intro k o ho hf
      rcases hlv2 _ ⟨k,o,ho,hf,rfl⟩ with hh | hh
      · exact hlo _ hh
      · exact .inr (by omega)
    · refine h.bel.more hfoot.os hfoot.tape hfoot.output hfoot.size fun b hb hn=>hfoot.block b hb ?_
      rw [h.hL]
      rintro (hh | hh)
      · exact hn (hlo b hh)
      · exact hn (.inr (by omega))
    · refine h.mks.step fun b hb hd=>?_
      have hbl:b≠l:=by rintro rfl;rw [h.ob] at hd;cases hd
      rw [ho34 b hbl,hkeep b (Qc2 hd) ?_ hbl]
      · exact hd
      · rintro ⟨k,o,ho,hf,hm⟩
        obtain ⟨cs,T,fz,ho⟩:=h.rel.obj k o ho
        have hat:=ho.at_
        rw [hm,hd] at hat;cases hat
    · have:=h.vr b hb

      omega
    · have:=h.sz

      omega
  cases hq:q.1 with
  | n =>
    obtain ⟨v,w',g1,g2⟩:=fin none (by rw [hq];rfl)
    rw [hq] at g2
    exact ⟨v,w',g1,g2⟩
  | r =>
    obtain ⟨v,w',g1,g2⟩:=fin (some .ret) (by rw [hq];rfl)
    rw [hq] at g2
    exact ⟨v,w',g1,g2⟩
  | x id =>
    obtain ⟨v,w',g1,g2⟩:=fin (some (.exit id)) (by rw [hq];rfl)
    rw [hq] at g2
    exact ⟨v,w',g1,g2⟩
end
end Go.AM

/- Loops over functions, part 3: the statement. -/
namespace Go.AM
open Go Go.RowKit

section
variable {S0:Nat→Prop} {N:Nat} {w0:Wd} {m:Key→Nat} {st:St} {a:Act} {w:World} {P:Program}

theorem QoC {vs:List Nat} {ks:List Key} {s:St} (hk:QhK st vs ks=some s) (hpl:QmA s.fr vs=true):s.px=st.px∧∀ i x,s.fr i=some x→Qr0 x∧refs ks x=true:=by
 unfold QhK at hk
 obtain ⟨⟨h1,h2⟩,hk⟩:=Qaf hk
 simp only [Option.some.injEq] at hk
 subst hk
 refine ⟨rfl,fun i x hx=>⟨QpE hpl i x hx, ?_⟩⟩
 by_cases hi:i∈vs
 ·have hx':st.fr i=some x:=by rw [← (Qgh st.fr vs i).1 hi];exact hx
  exact QiF h1 i hi x hx'
 ·have:=(Qgh st.fr vs i).2 hi
  dsimp only at hx
  rw [this] at hx;cases hx

theorem rfn_sound {n:Nat} {Q:Exit→Act→World→Prop} {gf:Nat} {caps:List D} {xs:List (List D)} {g:Operand} {ps:Array Nat} {ca cb:Code} {x:E} {v:A} {f:C→St→Option (Ex×St)} {asg body:C} {vs:List Nat} {ks:List Key} {e:Ex} {s s':St}
    (hT:TabAt w0.lk w0.w) (hR:Rel S0 N w0 m st a w) (hmb:∀ k,w0.mb k=none) (hdn:w0.dn w.heap.size) (hx:QaH g=some x) (hv:x.ev st=some v) (hfn:fnA v=some (gf,caps)) (hit:ItOk P gf caps xs) (hk:QhK st vs ks=some s) (hpl:QmA s.fr vs=true)
    (hps:∀ p∈ps.toList,p<N) (hA:Runs P N f ks asg ca) (hB:Runs P N f ks body cb)
    (hr:Qex f ps.toList asg body s.fr s.px xs s.hp=some (e,s'))
    (hK:∀ m' a' w',Rel S0 N w0 m' s' a' w'→Q e.out a' w'):(Code.rangeFunc g ps ca cb).wpIn Fence.wide n P Q a w:=by
  obtain ⟨hpx,hfrp⟩:=QoC hk hpl
  obtain rfl:=Qqo hfn
  have hev:=QhI (hR.ev hx hv)
  generalize hgv:a.eval g=gv at hev
  cases hev with
  | fn _ _ vls hcaps =>
  have hS:=hR.keep (fun k b hb=>by rw [hmb] at hb;cases hb) hk
  -- what the closure holds,behind the forgetting
  have hcaps2:RepL (Im S0 m st.hp w) w caps vls:=hcaps
  have hlive:∀ b,Live m s.hp b→Live m st.hp b:=by
    rintro b ⟨k,o,ho,hf,hm⟩
    unfold QhK at hk
    obtain ⟨_,hk⟩:=Qaf hk
    simp only [Option.some.injEq] at hk
    subst hk
    dsimp only at ho
    by_cases hi:k∈ks
    · rw [(Qes st.hp ks k).1 hi] at ho;exact ⟨k,o,ho,hf,hm⟩
    · rw [(Qes st.hp ks k).2 hi] at ho;cases ho
  refine wpIn_rangeFunc ?_
  intro fn hfnF
  obtain ⟨rec,hrec⟩:∃ rec:LoopState→Option Code→Loop,rec=fun st pe=>{ state:=st,pending:=pe,fn,tmps:=a.tmps,params:=ps,assign:=ca,body:=cb,defers:=w.heap.size }:=⟨_,rfl⟩
  obtain ⟨W1,hW1⟩:∃ W1,(w.alloc (.deferred (some []))).alloc (.loop (rec .ready none))=W1:=⟨_,rfl⟩
  have hsz1:W1.heap.size=w.heap.size+2:=by rw [← hW1];simp
  have hL1:W1.heap[w.heap.size+1]?=some (.loop (rec .ready none)):=by
    rw [← hW1];have:=World.alloc_heap_new (w.alloc (.deferred (some []))) (.loop (rec .ready none));rwa [World.size_alloc] at this
  have hD1:W1.heap[w.heap.size]?=some (.deferred (some [])):=by
    rw [← hW1];exact (Below.heap_alloc _ _ _ (by simp)).trans (World.alloc_heap_new w _)
  have hold:∀ b,b<w.heap.size→W1.heap[b]?=w.heap[b]?:=by
    intro b hb
    rw [← hW1,Below.heap_alloc _ _ _ (by simp;omega),Below.heap_alloc _ _ _ hb]
  obtain ⟨⟨gfn,hgf,hgb,hgn⟩,hit⟩:=hit
  refine ⟨w.heap.size+1,[{ target:=.collected w.heap.size,args:=#[] }],W1,{ target:=.fn (.func gf) vls.toArray,args:=#[.func (.yield (w.heap.size+1)) #[] #[]] },W1,gf,
    #[.func (.yield (w.heap.size+1)) #[] #[]]++vls.toArray,W1, ?_, ?_,fun _ _=>trivial, ?_,fun h=>(by cases h), ?_⟩
  · rw [← hW1,hrec];exact run_enterLoop_outer _ _ _ _ _
  · simp only [resolve,hgv]
    simp [go_sem]
  · simp [invoke,go_sem,Qgl hgf hgb hgn]
  -- the start
  have hfoot1:Foot w0.lk w0.w W1:=hR.bel.more (by rw [← hW1];rfl) (by rw [← hW1];rfl) (by rw [← hW1];rfl) (by omega) fun b hb _=>hold b hb
  have hun1:∀ b,w.heap.size≤b→S0 b:=hR.un
  have hmarks1:Marks (fun b=>S0 b∧b<W1.heap.size) w0 ({ target:=.collected w.heap.size,args:=#[] } :: a.defers) W1:=by
    obtain ⟨Ds,g1,hnd,g2⟩:=hR.df
    refine ⟨w.heap.size :: Ds,by rw [g1];rfl,List.nodup_cons.2 ⟨fun hm=>by have:=Qc2 (g2 _ hm).2.2;omega,hnd⟩, ?_⟩
    intro b hb
    rcases List.mem_cons.1 hb with rfl | hb
    · exact ⟨⟨hun1 _ (Nat.le_refl _),by omega⟩,hdn,hD1⟩
    · obtain ⟨k1,k2,k3⟩:=g2 b hb
      have:=Qc2 k3
      exact ⟨⟨k1,by omega⟩,k2,by rw [hold b this];exact k3⟩
  have hMid:Mid S0 N w0 W1 s.fr s.px a.tmps ({ target:=.collected w.heap.size,args:=#[] } :: a.defers) (w.heap.size+1) (.loop (rec .ready none)) (fun b=>Live m s.hp b∨b=w.heap.size+1) (fun _=>False) W1 m s.hp:=by
    refine ⟨?_,rfl,hS.lv,hfoot1,hmarks1,hL1,fun _ h=>h.elim,Nat.le_refl _⟩
    have:Rel (fun b=>S0 b∧¬ False) N ⟨W1,Live m s.hp,fun _=>none,fun _=>True⟩ m s { tmps:=a.tmps,defers:=[] } W1 :=
      hS.move (a':={ tmps:=a.tmps,defers:=[] }) rfl (by omega) (fun _ _ h=>⟨h,fun h=>h⟩) (fun b cs T fz _ hh=>by rw [hold b (Qc2 hh)];exact hh) (fun b hb=>⟨hun1 b (by omega),fun h=>h⟩) (Foot.refl _ _) (fun k o ho hz=>.inl ⟨k,o,ho,hz,rfl⟩) (Marks.nil _ _ _) (fun k b hb=>by cases hb)
    exact this
  have hlW:w.heap.size+1<W1.heap.size:=by omega
  have hw0l:w0.w.heap.size≤w.heap.size+1:=Nat.le_succ_of_le hR.bel.size
  have key:=hit (n-2) (fun b=>Im S0 m st.hp w b) (fun b=>Live m s.hp b∨b=w.heap.size+1) W1 vls
    (hcaps2.mono (fun _ h=>h) (fun b hb=>hold b hb.2.1))
    (fun b hb=>⟨by have:=hb.2.1;omega,by
      rintro (h | h)
      · exact hb.2.2 (hlive b h)
      · have:=hb.2.1;omega⟩)
    (by
      rintro b (⟨k,o,ho,_,rfl⟩ | rfl)
      · have:=hS.lt ho;omega
      · omega) (w.heap.size+1)
    (fun i L V W=>∃ m' hp',Mid S0 N w0 W1 s.fr s.px a.tmps ({ target:=.collected w.heap.size,args:=#[] } :: a.defers) (w.heap.size+1) (.loop (rec .ready none)) L V W m' hp'∧Qex f ps.toList asg body s.fr s.px (xs.drop i) hp'=some (e,s'))
    (fun i L V W=>∃ m' hp' c,Mid S0 N w0 W1 s.fr s.px a.tmps ({ target:=.collected w.heap.size,args:=#[] } :: a.defers) (w.heap.size+1) (.loop (rec .done (some c))) L V W m' hp'∧exC e=some c∧s'=⟨s.fr,hp',s.px⟩)
    (fun i L V V' W W' ⟨m',hp',h1,h2⟩ hf g1 g2=>⟨m',hp',h1.step hlW (by omega) hf g1 g2,h2⟩)
    (fun i L V V' W W' ⟨m',hp',c,h1,h2⟩ hf g1 g2=>⟨m',hp',c,h1.step hlW (by omega) hf g1 g2,h2⟩)
    ?_ ⟨m,s.hp,hMid,hr⟩
  · refine callsIn_wide.2 ((callsIn_wide.1 key).mono ?_)
    rintro ed w3 ⟨⟨v,rfl⟩,i,L,V,(⟨rfl,m',hp',hM,hrr⟩ | ⟨m',hp',c,hM,hc,rfl⟩)⟩
    · -- all have come
      rw [List.drop_length] at hrr
      simp only [Qex,Option.some.injEq,Prod.mk.injEq] at hrr
      obtain ⟨rfl,rfl⟩:=hrr
      have hpend:(rec .ready none).pending=none:=by rw [hrec]
      refine ⟨none,w3.putObj (w.heap.size+1) (.loop { rec .ready none with state:=.exhausted }),(run_endLoop (P:=P) hM.ob (by rw [hrec];simp)).trans (congrArg (Result.ok · _) hpend), ?_⟩
      refine hK m' _ _ ?_
      exact hM.rel.move (a':={ a with defers:={ target:=.collected w.heap.size,args:=#[] } :: a.defers }) rfl (by simp) (fun _ _ h=>h.1) (fun b cs T fz _ hh=>Qjh hM.ob b cs T fz hh) (fun b hb=>hun1 b (by have:=hM.sz;simp at hb;omega))
        (Qm8 hM.bel (.inr hw0l)) hM.lv (by
          obtain ⟨Ds,g1,hnd,g2⟩:=Qoy (r':={ rec .ready none with state:=.exhausted }) hM.ob hM.mks
          exact ⟨Ds,g1,hnd,fun b hb=>⟨(g2 b hb).1.1,(g2 b hb).2.1,(g2 b hb).2.2⟩⟩) (fun k b hb=>by rw [hmb] at hb;cases hb)
    · -- a round has left
      have hrel:∀ w4,(hM.ob=hM.ob)→w3.putObj (w.heap.size+1) (.loop { rec .done (some c) with state:=.exhausted })=w4→Rel S0 N w0 m' ⟨s.fr,hp',s.px⟩ { a with defers:={ target:=.collected w.heap.size,args:=#[] } :: a.defers } w4:=by
        rintro w4 _ rfl
        exact hM.rel.move (a':={ a with defers:={ target:=.collected w.heap.size,args:=#[] } :: a.defers }) rfl (by simp) (fun _ _ h=>h.1) (fun b cs T fz _ hh=>Qjh hM.ob b cs T fz hh) (fun b hb=>hun1 b (by have:=hM.sz;simp at hb;omega))
          (Qm8 hM.bel (.inr hw0l)) hM.lv (by
            obtain ⟨Ds,g1,hnd,g2⟩:=Qoy (r':={ rec .done (some c) with state:=.exhausted }) hM.ob hM.mks
            exact ⟨Ds,g1,hnd,fun b hb=>⟨(g2 b hb).1.1,(g2 b hb).2.1,(g2 b hb).2.2⟩⟩) (fun k b hb=>by rw [hmb] at hb;cases hb)
      have hpend:(rec .done (some c)).pending=some c:=by rw [hrec]
      refine ⟨some c,w3.putObj (w.heap.size+1) (.loop { rec .done (some c) with state:=.exhausted }),(run_endLoop (P:=P) hM.ob (by rw [hrec];simp)).trans (congrArg (Result.ok · _) hpend), ?_⟩
      cases e with
      | n=>cases hc
      | r=>cases hc;exact wpIn_ret (hK m' _ _ (hrel _ rfl rfl))
      | x id=>cases hc;exact wpIn_exit (hK m' _ _ (hrel _ rfl rfl))
  · -- a round
    rintro i x L V W args hxi ⟨m',hp',hM,hrr⟩ hargs
    have hdrop:xs.drop i=x :: xs.drop (i+1):=by
      obtain ⟨hi,rfl⟩:=List.getElem?_eq_some_iff.1 hxi
      exact List.drop_eq_getElem_cons hi
    rw [hdrop] at hrr
    simp only [Qex] at hrr
    obtain ⟨h1,hrr⟩:=Qaf hrr
    simp only [Option.bind_eq_some_iff] at hrr
    obtain ⟨p,h2,hrr⟩:=hrr
    obtain ⟨h3,hrr⟩:=Qaf hrr
    simp only [Option.bind_eq_some_iff] at hrr
    obtain ⟨q,h4,hrr⟩:=hrr
    have hargs2:RepL (Im (fun b=>S0 b∧¬ V b) m' hp' W) W x args:=by
      refine hargs.mono ?_ (fun _ _=>rfl)
      rintro b ⟨hb1,hb2,hb3,hb4⟩
      refine ⟨⟨?_,hb3⟩,hb2,fun hl=>hb4 ?_⟩
      · rcases hb1 with hb1 | hb1
        · exact hb1.1
        · exact hun1 b (by omega)
      · rw [hM.hL];exact .inl hl
    have:=Qpu hT (P:=P) (fn:=fn) (vs:=vs) hlW hw0l (by intro s p;rw [hrec]) hps hA hB hfrp hM hargs2 h1 h2 h3 h4 (n:=n-2)
    obtain ⟨fn',tm',as',bo',hy',hR'⟩:=this
    refine ⟨fn',tm',as',bo',hy',hR'.mono ?_⟩
    rintro ed W' ⟨L',g1,g2,g3,m2,hM2,rfl⟩
    refine ⟨L',g1,g2,g3, ?_⟩
    by_cases hq:q.1=.n
    · rw [if_pos hq] at hrr
      rw [if_pos hq,hq] at hM2
      exact .inl ⟨by simp [hq],m2,q.2.hp,hM2,hrr⟩
    · rw [if_neg hq] at hrr
      rw [if_neg hq] at hM2
      simp only [Option.some.injEq,Prod.mk.injEq] at hrr
      obtain ⟨rfl,rfl⟩:=hrr
      cases hc:exC q.1 with
      | none=>cases hq2:q.1<;>simp [exC,hq2] at hc hq
      | some c =>
        rw [hc] at hM2
        exact .inr ⟨by simp [hq],m2,q.2.hp,c,hM2,rfl,rfl⟩
end
end Go.AM

