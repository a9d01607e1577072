/- Part 9 of the proof: a small machine, its soundness against the model, and what the program's functions compute on it. -/
import Derived.Test.YtbbemgfheagobaaGreatM8
import Derived.Test.YtbbemgfheagobaaGreatM6
import Derived.Test.YtbbemgfheagobaaGreatM5
import Derived.Test.YtbbemgfheagobaaGreatM7
import Derived.Test.YtbbemgfheagobaaGreatM3
set_option linter.unusedVariables false
set_option linter.unusedSimpArgs false
/- How great the divisors are; ref06: Monic, Gcd, Free. -/
namespace Go.AM
open Go Go.RowKit

theorem sc_getD (l:List Rat) (a:Rat) (k:Nat):(scP l a).getD k 0=l.getD k 0*a:=by
 rw [scP,Qd1]
 by_cases h:k<l.length
 ·rw [Qj1 _ h]
 ·rw [QaW (by simp;omega),QaW (by omega),Rat.zero_mul]
theorem QqS (l:List Rat) (k:Nat):(deP l).getD k 0=l.getD (k+1) 0*((k+1:Nat):Int):=by
 rw [deP,Qd1]
 by_cases h:k<l.length-1
 ·rw [Qj1 _ h]
 ·rw [QaW (by simp;omega),QaW (by omega),Rat.zero_mul]
theorem Qmc {l:List Rat} {n:Nat} (h:l.getD n 0≠0):n+1≤l.length:=by
 by_cases h1:n<l.length
 ·exact h1
 ·exact absurd (QaW (by omega)) h
theorem rinv_ne {x:Rat} (h:x≠0):1/x≠0:=fun h0=>by
 have h1:1/x*x=1:=by rw [Rat.div_def,Rat.one_mul,Rat.inv_mul_cancel _ h]
 rw [h0,Rat.zero_mul] at h1
 exact absurd h1 (by decide)
theorem mn_getD {l:List Rat} (h:l≠[]) (k:Nat):(mnP l).getD k 0=l.getD k 0*(1/l.getD (l.length-1) 0):=by
 rw [mnP,if_neg h,sc_getD]
theorem Qil {l:List Rat} (hl:Trm l):(mnP l).length=l.length:=by
 by_cases h:l=[]
 ·subst h;rfl
 ·have h1:=QeF l
  have hp:0<l.length:=List.length_pos_iff.2 h
  have h2:=QdN hl h
  have h3:(mnP l).getD (l.length-1) 0≠0:=by
   rw [mn_getD h]
   intro h0
   rcases Rat.mul_eq_zero.1 h0 with h4 | h4
   ·exact h2 h4
   ·exact rinv_ne h2 h4
  have:=Qmc h3
  omega
theorem cast_ne {n:Nat} (h:0<n):(((n:Nat):Int):Rat)≠0:=cN_ne h
theorem QkO {l:List Rat} (hl:Trm l):(deP l).length=l.length-1:=by
 have h1:=Qsk l
 by_cases h:l.length≤1
 ·omega
 ·have h2:=QdN hl (fun h0=>by rw [h0] at h;simp at h)
  have h3:(deP l).getD (l.length-2) 0≠0:=by
   rw [QqS,show l.length-2+1=l.length-1 by omega]
   intro h0
   rcases Rat.mul_eq_zero.1 h0 with h4 | h4
   ·exact h2 h4
   ·exact cast_ne (by omega) h4
  have:=Qmc h3
  omega
theorem Qpr:∀ d:Nat,d+3≤3^(d+1)
 | 0=>by decide
 | d+1=>by rw [Nat.pow_succ];have:=Qpr d;omega
theorem Ql0 {a b:Nat} (h:a<b):(b+2-a)*3^a≤3^b:=by
 obtain ⟨d,rfl⟩:∃ d,b=d+1+a:=⟨b-1-a,by omega⟩
 rw [Nat.pow_add]
 refine Nat.mul_le_mul_right _ ?_
 have:=Qpr d
 omega
theorem trm_dv (a b:List Rat):Trm (remP a b):=by
 unfold remP
 split
 ·exact Qit
 ·exact QaO _
def gcH (K:Nat):Nat→List Rat→List Rat→Prop
 | 0,_,b=>b=[]
 | n+1,a,b=>b=[]∨(HL K K b∧Trm b∧gcH K n b (mnP (remP a b)))
theorem QlZ {K L:Nat} (h:K≤L) {q:List Rat}:∀ (m:Nat) (R:List Rat),dvG K q m R→dvG L q m R
 | 0,_,_=>trivial
 | k+1,R,hg=>⟨hg.1.mono h,QlZ h k _ hg.2⟩
theorem QoE {K L:Nat} (h:K≤L):∀ (n:Nat) (a b:List Rat),gcG K n a b→gcG L n a b
 | 0,_,_,hg=>hg
 | n+1,a,b,hg=>hg.imp id fun ⟨h1,h2,h3,h4⟩=>⟨h1.mono h,QlZ h _ _ h2,h3.mono h,QoE h n _ _ h4⟩
theorem QsH {K L:Nat} (h:K≤L):∀ (n:Nat) (a b:List Rat),gcH K n a b→gcH L n a b
 | 0,_,_,hg=>hg
 | n+1,a,b,hg=>hg.imp id fun ⟨h1,h2,h3⟩=>⟨h1.mono h h,h2,QsH h n _ _ h3⟩
theorem gc_pot {K:Nat}:∀ (n s:Nat) (a b:List Rat),HL s s a→HL s s b→Trm b→b.length<n→(s+1)*(dvN a b+1)*3^b.length≤K→gcG K n a b∧gcH K n a b∧HL K K (gcP n a b)
 | 0,_,_,b,_,_,_,h,_=>by omega
 | n+1,s,a,b,Ha,Hb,tb,hn,hK=>by
  have h3:1≤3^b.length:=Nat.one_le_pow _ _ (by decide)
  have hs:s+1≤K:=Nat.le_trans (Nat.le_trans (Nat.le_mul_of_pos_right (s+1) (by omega)) (Nat.le_mul_of_pos_right _ h3)) hK
  by_cases hb:b=[]
  ·subst hb
   refine ⟨.inl rfl,.inl rfl, ?_⟩
   rw [gcP,if_pos rfl]
   exact Ha.mono (by omega) (by omega)
  ·have hlb:0<b.length:=List.length_pos_iff.2 hb
   obtain ⟨_,q2,_,_⟩:=Qjk (p:=a) tb hb
   have h33:3*((s+1)*(dvN a b+1))≤K:=by
    refine Nat.le_trans ?_ hK
    rw [Nat.mul_comm 3]
    refine Nat.mul_le_mul_left _ ?_
    obtain ⟨k,hk⟩:∃ k,b.length=k+1:=⟨b.length-1,by omega⟩
    rw [hk,Nat.pow_succ]
    have:1≤3^k:=Nat.one_le_pow _ _ (by decide)
    omega
   have hr:=QeF (remP a b)
   have h3':((s+1)*(dvN a b+1))*(dvN b (mnP (remP a b))+1)*3^(mnP (remP a b)).length≤K:=by
    refine Nat.le_trans ?_ hK
    rw [Nat.mul_assoc]
    refine Nat.mul_le_mul_left _ (Nat.le_trans (Nat.le_of_eq ?_) (Ql0 (a:=(mnP (remP a b)).length) (b:=b.length) (by omega)))
    congr 1
    unfold dvN;omega
   have he:(s+1)*(dvN a b+1)=s*dvN a b+dvN a b+s+1:=by rw [Nat.mul_add,Nat.add_mul,Nat.mul_one,Nat.one_mul];omega
   have he2:dvN a b*(s+1)=s*dvN a b+dvN a b:=by rw [Nat.mul_add,Nat.mul_one,Nat.mul_comm]
   have he3:dvN a b*s=s*dvN a b:=Nat.mul_comm _ _
   obtain ⟨g1,g2,_⟩:=Ql6 (K:=K) Ha Hb tb (by rw [he2,he3];omega)
   have hsz:=g2.sz
   have g3:=Qne g2 (trm_dv a b)
   have e1:s+dvN a b*(s+1)+1=(s+1)*(dvN a b+1):=by omega
   obtain ⟨i1,i2,i3⟩:=gc_pot (K:=K) n (s+dvN a b*(s+1)) b (mnP (remP a b)) (Hb.mono (by omega) (by omega)) g3 (Qha _) (by omega) (by rw [e1];exact h3')
   refine ⟨.inr ⟨Hb.sz.mono (by omega),g1,hsz.mono (by omega),i1⟩,.inr ⟨Hb.mono (by omega) (by omega),tb,i2⟩, ?_⟩
   rw [gcP,if_neg hb]
   exact i3
variable [Its]

theorem QgP {d:D} {l:List Rat} (hr:RwR d l) (hn:l.length≤1000) {K:Nat} (sl:SzL K l) (hK1:1≤K) (hK:K≤1000000000):∃ d',RwR d' (mnP l)∧Qah G Qci [d]=some (.d d'):=by
 rw [Qad (cf:=QdG) rfl]
 have ll:=hr.len
 by_cases h0:l.length=0
 ·have:l=[]:=List.eq_nil_of_length_eq_zero h0
  subst this
  refine ⟨.z true,.inl ⟨rfl,rfl⟩, ?_⟩
  have e1:((0:Int)==0)=true:=rfl
  simp only [List.length_nil] at ll
  simp -implicitDefEqProofs (maxSteps:=9^8) only [QdG,ll,e1,go_sem,iv,bv,reduceCtorEq,↓reduceIte,Nat.reduceEqDiff]
 ·have hne:l≠[]:=fun h=>h0 (by rw [h];rfl)
  unfold mnP
  rw [if_neg hne]
  have e1:((l.length:Int)==0)=false:=Qcx (by omega)
  have e2:w64 ((l.length:Int)-1)=((l.length-1:Nat):Int):=by rw [Qae (by omega) (by omega)];omega
  have hl:l.length-1<l.length:=by omega
  have x1:=hr.ixa hl
  have y1:=fun h=>ldR h l hl
  have s1:=sl.getD hK1 (l.length-1)
  have g1:=QkT
  have g2:=Qii (a:=1) (b:=l.getD (l.length-1) 0) (by rw [Qh3];omega) (by omega)
  have s2:=Qnk (a:=1) (b:=l.getD (l.length-1) 0)
  rw [Qh3] at s2
  obtain ⟨d',hr',gS⟩:=Qie (a:=1/l.getD (l.length-1) 0) hr (K:=K+1) (sl.mono (by omega)) (by omega) (by omega) (by omega) hn
  refine ⟨d',hr', ?_⟩
  clear s1 s2 hr'
  generalize 1/l.getD (l.length-1) 0=r at *
  generalize l.getD (l.length-1) 0=u at *
  generalize cRs (l.drop (l.length-1))=cs at *
  generalize ((l.length-1:Nat):Int)=z at *
  generalize (1:Rat)=one at *
  simp only [encR,iv] at g1 g2 y1 gS
  simp -implicitDefEqProofs (maxSteps:=9^8) only [QdG,ll,x1,y1,e1,e2,g1,g2,gS,go_sem,iv,bv,reduceCtorEq,↓reduceIte,Nat.reduceEqDiff]

def Qq0 (da db:D):St:=mkS [(5,.d da),(6,.d db)] []
def gr_en (da:D):St:=mkS [(5,.d da)] []
theorem gr_stop {da db:D} (hb:RwR db []):X G QbW (Qq0 da db)=some (.x 0,gr_en da):=by
 have ll:=hb.len
 have e1:decide ((0:Int)>0)=false:=rfl
 simp only [List.length_nil] at ll
 simp -implicitDefEqProofs (maxSteps:=9^8) only [QbW,Qq0,gr_en,ll,e1,go_sem,iv,bv,reduceCtorEq,↓reduceIte,Nat.reduceEqDiff]
theorem gr_go {da db:D} {a b:List Rat} (ha:RwR da a) (hb:RwR db b) (ta:Trm a) (tb:Trm b) (hne:b≠[]) (na:a.length≤90) {K:Nat} (hK1:1≤K) (hK:K≤200000000) (Hb:HL K K b) (sb:SzL K b) (hg:dvG K b (dvN a b) a) (sr:SzL K (remP a b)) :
    ∃ d',RwR d' (mnP (remP a b))∧X G QbW (Qq0 da db)=some (.n,Qq0 db d'):=by
  obtain ⟨d1,d2,h1,h2,gD⟩:=Qk1 ha hb ta tb na Hb sb hK1 hK hK hK hg
  obtain ⟨d3,h3,gM⟩:=QgP h2 (Nat.le_trans (QhQ a b) (by omega)) sr hK1 (by omega)
  refine ⟨d3,h3, ?_⟩
  have hl:0<b.length:=List.length_pos_iff.2 hne
  have ll:=hb.len
  have e1:decide ((b.length:Int)>0)=true:=gt_t (by omega)
  simp -implicitDefEqProofs (maxSteps:=9^8) only [QbW,Qq0,ll,e1,gD,gM,go_sem,iv,bv,reduceCtorEq,↓reduceIte,Nat.reduceEqDiff]
theorem gr_loop {K:Nat} (hK1:1≤K) (hK:K≤200000000):∀ (n:Nat) (a b:List Rat) (da db:D),RwR da a→RwR db b→Trm a→a.length≤90→b.length≤90→gcG K n a b→gcH K n a b→∃ d',RwR d' (gcP n a b)∧X G (.loop QbW) (Qq0 da db)=some (.x 0,gr_en d')
 | 0,a,b,da,db,ha,hb,ta,na,nb,hg,_=>by
  have hb':b=[]:=hg
  subst hb'
  exact ⟨da,ha,by rw [Qai,gr_stop hb];rfl⟩
 | n+1,a,b,da,db,ha,hb,ta,na,nb,hg,hh=>by
  by_cases hb0:b=[]
  ·subst hb0
   rw [gcP,if_pos rfl]
   exact ⟨da,ha,by rw [Qai,gr_stop hb];rfl⟩
  ·rw [gcP,if_neg hb0]
   rcases hg with hg | ⟨g1,g2,g3,g4⟩
   ·exact absurd hg hb0
   ·rcases hh with hh | ⟨k1,k2,k3⟩
    ·exact absurd hh hb0
    ·obtain ⟨d1,h1,hx⟩:=gr_go ha hb ta k2 hb0 na hK1 hK k1 g1 g2 g3
     obtain ⟨d',h',hl⟩:=gr_loop hK1 hK n b (mnP (remP a b)) db d1 hb h1 k2 nb (Nat.le_trans (QeF _) (Nat.le_trans (QhQ a b) na)) g4 k3
     exact ⟨d',h',by rw [Qai,hx,Option.bind_some,if_pos rfl];exact hl⟩
theorem QtD        {dp dq:D} {p q:List Rat} (hp:RwR dp p) (hq:RwR dq q) (np:p.length≤90) (nq:q.length≤90) {K:Nat} (hK1:1≤K) (hK:K≤200000000) (sp:SzL K p) (sq:SzL K q) (hg:gcG K (q.length+1) (mnP p) (mnP q)) (hh:gcH K (q.length+1) (mnP p) (mnP q)) :
    ∃ d',RwR d' (gcdP p q)∧Qah G Qhe [dp,dq]=some (.d d'):=by
  rw [Qad (cf:=Qgx) rfl]
  obtain ⟨d1,h1,g1⟩:=QgP hp (by omega) sp hK1 (by omega)
  obtain ⟨d2,h2,g2⟩:=QgP hq (by omega) sq hK1 (by omega)
  obtain ⟨d',h',hl⟩:=gr_loop hK1 hK (q.length+1) (mnP p) (mnP q) d1 d2 h1 h2 (Qha p) (Nat.le_trans (QeF _) np) (Nat.le_trans (QeF _) nq) hg hh
  refine ⟨d',h', ?_⟩
  simp only [Qq0,gr_en,go_sem] at hl
  simp -implicitDefEqProofs (maxSteps:=9^8) only [Qgx,g1,g2,hl,go_sem,iv,bv,reduceCtorEq,↓reduceIte,Nat.reduceEqDiff]
theorem Qq1         {dp:D} {p:List Rat} (hp:RwR dp p) (tp:Trm p) (tg:Trm (gcdP p (deP p))) (np:p.length≤90) {K:Nat} (hK1:1≤K) (hK:K≤200000000) (sp:SzL K p) (sd:SzL K (deP p)) (hg:gcG K ((deP p).length+1) (mnP p) (mnP (deP p))) (hh:gcH K ((deP p).length+1) (mnP p) (mnP (deP p))) (Hg:HL K K (gcdP p (deP p))) (sg:SzL K (gcdP p (deP p))) (hd:dvG K (gcdP p (deP p)) (dvN p (gcdP p (deP p))) p) (so:SzL K (quoP p (gcdP p (deP p)))) :
    ∃ d',RwR d' (frP p)∧Qah G QeB [dp]=some (.d d'):=by
  rw [Qad (cf:=QfQ) rfl]
  obtain ⟨d1,h1,g1⟩:=Qj4 hp sp hK1 (by omega) (by omega)
  obtain ⟨d2,h2,g2⟩:=QtD hp h1 np (Nat.le_trans (Qsk p) (by omega)) hK1 hK sp sd hg hh
  obtain ⟨d3,d4,h3,h4,g3⟩:=Qk1 hp h2 tp tg np Hg sg hK1 hK hK hK hd
  obtain ⟨d',h',g4⟩:=QgP h3 (Nat.le_trans (Qj7 p _) (by unfold dvN;omega)) so hK1 (by omega)
  refine ⟨d',h', ?_⟩
  simp -implicitDefEqProofs (maxSteps:=9^8) only [QfQ,g1,g2,g3,g4,go_sem,iv,bv,reduceCtorEq,↓reduceIte,Nat.reduceEqDiff]
end Go.AM

/- Boxes of whole numbers, folded. -/
namespace Go.AM
open Go Go.RowKit

def cI (x:Int):List A:=[.d (.v (.bool (decide (x<0)))),.d (dg (digs x.natAbs))]
theorem one_encI (x:Int):A.one (.d (encI x))=false:=rfl
theorem QtK (x:Int):QaH (.d (encI x))=cI x:=rfl
theorem dc_encI (x:Int):Qcw (.d (encI x))=some [.v (.bool (decide (x<0))),dg (digs x.natAbs)]:=rfl
theorem all_cI (x:Int):(cI x).all A.one=true:=by
 simp only [cI,List.all_cons,List.all_nil,QsJ,QqB,Bool.and_self]
theorem len_cI (x:Int):(cI x).length=2:=rfl
theorem refs_cI (ks:List Key) (x:Int):Qdo ks (cI x)=true:=rfl
theorem ld_cI (x:Int):Qab (some 2) 0 (cI x)=some (.d (encI x)):=rfl
theorem ld_cI0 (x:Int):Qab none 0 (cI x)=some (.d (.v (.bool (decide (x<0))))):=rfl
theorem ld_cI1 (x:Int):Qab none 1 (cI x)=some (.d (dg (digs x.natAbs))):=rfl
theorem st_cI (x y:Int):Qac 0 (cI x) (cI y)=some (cI x):=rfl
theorem st_cIn (x:Int) (u v:A):Qac 0 (cI x) [u,v]=some (cI x):=rfl
theorem ad_cI (x:Int):allD (cI x)=some [.v (.bool (decide (x<0))),dg (digs x.natAbs)]:=rfl
theorem ag_encI (x:Int):aggA (.d (encI x))=some [.v (.bool (decide (x<0))),dg (digs x.natAbs)]:=rfl
attribute [go_sem] one_encI QtK dc_encI all_cI len_cI refs_cI ld_cI ld_cI0 ld_cI1 st_cI st_cIn ad_cI ag_encI
end Go.AM

/- integer.Small, ref04.Small. -/
namespace Go.AM
open Go Go.RowKit

def au (u:Int):A:=.d (.v (.int .u64 u))
attribute [go_sem] au
variable [Its]

section
variable {x:Int} {l:List Int} (hl:digs x.natAbs=l)
end

end Go.AM

/- ref04.Small. -/
namespace Go.AM
open Go Go.RowKit

variable [Its]
section
variable {x:Int} {l:List Int}
end
end Go.AM

/- Square roots of whole numbers: Newton's step, and halving. -/
namespace Go.AM

end Go.AM

/- integer.Root, ref04.Root. -/
namespace Go.AM
open Go Go.RowKit

variable [Its]
end Go.AM

/- ref04.Root. -/
namespace Go.AM
open Go Go.RowKit
variable [Its]
end Go.AM

/- Points, directions, edges: rows of them; ref12's small functions. -/
namespace Go.AM
open Go Go.RowKit

/-! ### Rows of things of es cells -/
section
variable {α:Type} {en:α→List D} {es:Nat}
def rowE (en:α→List D) (l:List α):D:=.row l.length (l.flatMap en)
def RwE (en:α→List D) (d:D) (l:List α):Prop:=(d=.z true∧l=[])∨d=rowE en l
theorem Qph (hE:∀ a,(en a).length=es):∀ (l:List α) (j:Nat),(l.flatMap en).drop (j*es)=(l.drop j).flatMap en
 | l,0=>by simp
 | [],j+1=>by simp
 | a :: l,j+1=>by
  rw [List.flatMap_cons,List.drop_succ_cons,← Qph hE l j,Nat.succ_mul,Nat.add_comm,← List.drop_drop]
  rw [List.drop_left' (hE a)]
theorem RwE.len {d:D} {l:List α} (h:RwE en d l):lenA (.d d)=some l.length:=by
 rcases h with ⟨rfl,rfl⟩ | rfl<;>rfl
theorem RwE.ixa (hE:∀ a,(en a).length=es) {d:D} {l:List α} (hr:RwE en d l) {j:Nat} (h1:j<l.length) (h:Hp):ixaA h es (j:Int) (.d d)=some (.d (.rp ((l.drop j).flatMap en))):=by
 rcases hr with ⟨rfl,rfl⟩ | rfl
 ·simp at h1
 ·simp only [rowE,ixaA,guardO]
  rw [if_pos ⟨by omega,by omega⟩]
  simp only [Int.toNat_natCast]
  rw [Qph hE]
end
def Sm (n:Int):Prop:=-100000000≤n∧n≤100000000
def g3 (dx dy h:Int):Int:=(Int.gcd (Int.gcd dx dy) h:Int)
variable [Its]
/-! ### Normals -/
/-! ### Moved shapes -/
/-! ### Shapes -/
end Go.AM

/- ref07: Changes, counted, Middle, halved. -/
namespace Go.AM
open Go Go.RowKit
def RwC (d:D) (ps:List (List Rat)):Prop:=∃ ds:List D,ds.length=ps.length∧(∀ i,i<ps.length→RwR (ds.getD i (.z true)) (ps.getD i []))∧(d=.row ds.length ds∨(d=.z true∧ds=[]))
theorem RwC.len {d:D} {ps:List (List Rat)} (h:RwC d ps):lenA (.d d)=some ps.length:=by
 obtain ⟨ds,h1,_,rfl | ⟨rfl,rfl⟩⟩:=h
 ·rw [← h1];rfl
 ·rw [← h1];rfl
theorem RwC.nil:RwC (.z true) []:=⟨[],rfl,fun i h=>by simp at h,.inr ⟨rfl,rfl⟩⟩
theorem RwC.at {d:D} {ps:List (List Rat)} (h:RwC d ps) {i:Nat} (hi:i<ps.length):∃ x r,RwR x (ps.getD i [])∧(∀ hp,ixaA hp 1 (i:Int) (.d d)=some (.d (.rp r)))∧∀ hp,Qco hp none (.d (.rp r))=some (.d x):=by
 obtain ⟨ds,h1,h2,rfl | ⟨rfl,rfl⟩⟩:=h
 ·refine ⟨ds.getD i (.z true),ds.drop i,h2 i hi,fun hp=>?_,fun hp=>?_⟩
  ·simp only [ixaA,guardO]
   rw [if_pos ⟨by omega,by omega⟩]
   simp
  ·rw [List.drop_eq_getElem_cons (show i<ds.length by omega)]
   simp only [Qco,QkU]
   rw [List.getD_eq_getElem?_getD,List.getElem?_eq_getElem (show i<ds.length by omega)]
   rfl
 ·rw [← h1] at hi;simp at hi
def sgn1 (p:List Rat) (x:Rat):Int:=Int.sign (evR p x).num
def sgs (ps:List (List Rat)) (x:Rat):List Int:=(ps.map fun p=>sgn1 p x).filter fun s=>decide (s≠0)
def chN (S:List Int):Nat→Nat
 | 0=>0
 | i+1=>chN S i+(if 1≤i∧S.getD i 0≠S.getD (i-1) 0 then 1 else 0)
def chg (ps:List (List Rat)) (x:Rat):Nat:=chN (sgs ps x) (sgs ps x).length
def cnt (ps:List (List Rat)) (lo hi:Rat):Int:=if hi≤lo then 0 else (chg ps lo:Int)-(chg ps hi:Int)
def mid (lo hi:Rat):Rat:=(lo+hi)*Rat.divInt 1 2
def hal (ps:List (List Rat)) (l:Rat×Rat):Rat×Rat:=if cnt ps l.1 (mid l.1 l.2)=1 then (l.1,mid l.1 l.2) else (mid l.1 l.2,l.2)
theorem QrH (ps:List (List Rat)) (x:Rat) {i:Nat} (hi:i<ps.length):sgs (ps.take (i+1)) x=if sgn1 (ps.getD i []) x≠0 then sgs (ps.take i) x++[sgn1 (ps.getD i []) x] else sgs (ps.take i) x:=by
 have e:ps.take (i+1)=ps.take i++[ps.getD i []]:=by
  rw [List.take_add_one,List.getD_eq_getElem?_getD,List.getElem?_eq_getElem hi];rfl
 unfold sgs
 rw [e,List.map_append,List.filter_append,List.map_cons,List.map_nil]
 generalize ps.getD i []=p
 by_cases h:sgn1 p x=0
 ·rw [if_neg (by simp [h]),List.filter_cons_of_neg (by simp [h]),List.filter_nil,List.append_nil]
 ·rw [if_pos h,List.filter_cons_of_pos (by simp [h]),List.filter_nil]
theorem Qlo (ps:List (List Rat)) (x:Rat):(sgs ps x).length≤ps.length:=by
 unfold sgs
 exact Nat.le_trans (List.length_filter_le _ _) (by simp)
theorem Qlw (S:List Int):∀ i,chN S i≤i
 | 0=>Nat.le_refl _
 | i+1=>by
  rw [chN]
  have:=Qlw S i
  split<;>omega
theorem Qsu {lo hi:Rat} {K L:Nat} (h1:sz lo≤K) (h2:sz hi≤L):sz (mid lo hi)≤K+L+5:=by
 unfold mid
 have z1:=Qkt (a:=lo) (b:=hi)
 have z2:=QgM (a:=lo+hi) (b:=Rat.divInt 1 2)
 have z3:=sz_of (n:=1) (d:=2) ⟨by omega,by omega⟩ ⟨by omega,by omega⟩
 omega
def QlK (d:D) (x:Rat) (S:List Int) (i:Int):St:=mkS [(0,.d d),(3,.ptr [3] 0),(5,gA 28 S),(6,ai i)] (([3],boxR x) :: gH 28 S)
def QtU (S:List Int):St:=mkS [(5,gA 28 S)] (gH 28 S)
def Qmg (S:List Int) (n i:Int):St:=mkS [(5,gA 28 S),(8,ai n),(9,ai i)] (gH 28 S)
theorem ldI1 {S:List Int} {i:Nat} (h:i<S.length):Qab none i (Qbw S)=some (.d (.v (.int .i64 (S.getD i 0)))):=by
 show (Qbw S)[i]?=_
 unfold Qbw
 rw [List.getElem?_map,List.getElem?_eq_getElem h,List.getD_eq_getElem?_getD,List.getElem?_eq_getElem h]
 rfl
theorem st4q (a b c d i j k l:A):Qac 0 [a,b,c,d] [i,j,k,l]=some [a,b,c,d]:=rfl
theorem ld4q (a b c d:D):Qab (some 4) 0 [.d a,.d b,.d c,.d d]=some (.d (.agg [a,b,c,d])):=rfl
variable [Its]
section
variable {d:D} {ps:List (List Rat)} {x:Rat} {K:Nat}
theorem c7_stop (hr:RwC d ps) {S:List Int}:X G Qaz (QlK d x S ps.length)=some (.x 0,QtU S):=by
 have e1:decide ((ps.length:Int)<(ps.length:Int))=false:=lt_f (by omega)
 have ll:=hr.len
 by_cases hS0:S=[]
 ·subst hS0
  simp -implicitDefEqProofs (maxSteps:=9^8) only [Qaz,QlK,QtU,boxR,QdW,QdZ,Qaa,ll,e1,go_sem,iv,bv,reduceCtorEq,↓reduceIte,Nat.reduceEqDiff]
 ·simp -implicitDefEqProofs (maxSteps:=9^8) only [Qaz,QlK,QtU,boxR,Qhd hS0,Qhb hS0,arrI,Qal,Qaa,ll,e1,go_sem,iv,bv,reduceCtorEq,↓reduceIte,Nat.reduceEqDiff]
theorem n7_go {S:List Int} (hS:S.length≤1000) {n:Nat} (hn:n≤1000) {i:Nat} (h1:1≤i) (hi:i<S.length):X G QaK (Qmg S n i)=some (.n,Qmg S ((n+(if 1≤i∧S.getD i 0≠S.getD (i-1) 0 then 1 else 0):Nat):Int) ((i+1:Nat):Int)):=by
 have hS0:S≠[]:=fun h=>by rw [h] at hi;simp at hi
 have e1:decide ((i:Int)<(S.length:Int))=true:=lt_t (by omega)
 have e2:w64 ((i:Int)+1)=((i+1:Nat):Int):=by rw [Qae (by omega) (by omega)];rfl
 have e3:w64 ((i:Int)-1)=((i-1:Nat):Int):=by rw [Qae (by omega) (by omega)];omega
 have e4:w64 ((n:Int)+1)=((n+1:Nat):Int):=by rw [Qae (by omega) (by omega)];rfl
 have b1:(0≤(i:Int))=True:=eq_true (by omega)
 have b2:((i:Int)<(S.length:Int))=True:=eq_true (by omega)
 have b3:(0≤((i-1:Nat):Int))=True:=eq_true (by omega)
 have b4:(((i-1:Nat):Int)<(S.length:Int))=True:=eq_true (by omega)
 have x1:=ldI1 (S:=S) hi
 have x2:=ldI1 (S:=S) (i:=i-1) (by omega)
 generalize S.getD i 0=u at *
 generalize S.getD (i-1) 0=v at *
 by_cases h:u=v
 ·have t:(u != v)=false:=QqD h
  rw [if_neg (by simp [h])]
  simp -implicitDefEqProofs (maxSteps:=9^8) only [QaK,Qmg,Qhd hS0,Qhb hS0,arrI,Qal,Qaa,x1,x2,t,e1,e2,e3,b1,b2,b3,b4,Nat.mul_one,Nat.add_zero,Int.toNat_natCast,go_sem,iv,bv,reduceCtorEq,↓reduceIte,Nat.reduceEqDiff]
 ·have t:(u != v)=true:=QqK h
  rw [if_pos ⟨h1,h⟩]
  simp -implicitDefEqProofs (maxSteps:=9^8) only [QaK,Qmg,Qhd hS0,Qhb hS0,arrI,Qal,Qaa,x1,x2,t,e1,e2,e3,e4,b1,b2,b3,b4,Nat.mul_one,Int.toNat_natCast,go_sem,iv,bv,reduceCtorEq,↓reduceIte,Nat.reduceEqDiff]
theorem n7_stop {S:List Int} {n i:Int} (h:(S.length:Int)≤i):X G QaK (Qmg S n i)=some (.x 2,mkS [(8,ai n)] []):=by
 have e1:decide (i<(S.length:Int))=false:=lt_f (by omega)
 by_cases hS0:S=[]
 ·subst hS0
  have e1:decide (i<0)=false:=e1
  simp -implicitDefEqProofs (maxSteps:=9^8) only [QaK,Qmg,QdW,QdZ,Qaa,e1,go_sem,iv,bv,reduceCtorEq,↓reduceIte,Nat.reduceEqDiff]
 ·simp -implicitDefEqProofs (maxSteps:=9^8) only [QaK,Qmg,Qhd hS0,Qhb hS0,arrI,Qal,Qaa,e1,go_sem,iv,bv,reduceCtorEq,↓reduceIte,Nat.reduceEqDiff]
theorem n7_loop {S:List Int} (hS:S.length≤1000):∀ (j i:Nat),1≤i→i+j=S.length→X G (.loop QaK) (Qmg S (chN S i) i)=some (.x 2,mkS [(8,ai (chN S S.length))] [])
 | 0,i,h1,h=>by
  have:i=S.length:=by omega
  subst this
  rw [Qai,n7_stop (Int.le_refl _)];rfl
 | j+1,i,h1,h=>by
  have:=Qlw S i
  rw [Qai,n7_go hS (by omega) h1 (by omega),Option.bind_some,if_pos rfl]
  exact n7_loop hS j (i+1) (by omega) (by omega)
end
theorem Qpz {lo hi:Rat} (h1:sz lo≤1000000000) (h2:sz hi≤1000000000):Qah G QfV [encR lo,encR hi]=some (.d (encR (mid lo hi))):=by
 rw [Qad (cf:=Qex) rfl]
 have g1:=Qfq (a:=lo) (b:=hi) (by omega) (by omega)
 have g2:=Qc3 (n:=1) (d:=2) ⟨by omega,by omega⟩ ⟨by omega,by omega⟩
 have z1:=Qkt (a:=lo) (b:=hi)
 have z3:=sz_of (n:=1) (d:=2) ⟨by omega,by omega⟩ ⟨by omega,by omega⟩
 have g3:=Qeo (a:=lo+hi) (b:=Rat.divInt 1 2) (by omega) (by omega)
 unfold mid
 generalize (lo+hi)*Rat.divInt 1 2=r at *
 generalize lo+hi=s at *
 generalize Rat.divInt 1 2=t at *
 simp only [encR,iv] at g1 g2 g3
 simp -implicitDefEqProofs (maxSteps:=9^8) only [Qex,encR,g1,g2,g3,st4q,ld4q,Qaa,go_sem,iv,bv,reduceCtorEq,↓reduceIte,Nat.reduceEqDiff]
end Go.AM

/- ref07: halved, within (of at most one), Chain. -/
namespace Go.AM
open Go Go.RowKit
def c2R (l:Rat×Rat):List D:=[.v (.bool (decide (l.1.num<0))),dg (digs l.1.num.natAbs),.v (.bool false),dg (dd l.1.den),.v (.bool (decide (l.2.num<0))),dg (digs l.2.num.natAbs),.v (.bool false),dg (dd l.2.den)]
def enc2 (l:Rat×Rat):D:=.agg (c2R l)
theorem st8q (a b c d e f g h i j k l m n o p:A):Qac 0 [a,b,c,d,e,f,g,h] [i,j,k,l,m,n,o,p]=some [a,b,c,d,e,f,g,h]:=rfl
theorem ld8q (a b c d e f g h:D):Qab (some 8) 0 [.d a,.d b,.d c,.d d,.d e,.d f,.d g,.d h]=some (.d (.agg [a,b,c,d,e,f,g,h])):=rfl
theorem Qk7 (a b c d e f g h:D):Qab (some 4) 0 [.d a,.d b,.d c,.d d,.d e,.d f,.d g,.d h]=some (.d (.agg [a,b,c,d])):=rfl
theorem QkG (a b c d e f g h:D):Qab (some 4) 4 [.d a,.d b,.d c,.d d,.d e,.d f,.d g,.d h]=some (.d (.agg [e,f,g,h])):=rfl
theorem RwR.one {d:D} {l:List Rat} (h:RwR d l):A.one (.d d)=true:=by rcases h with ⟨rfl,_⟩ | rfl<;>rfl
theorem RwR.cells {d:D} {l:List Rat} (h:RwR d l):QaH (.d d)=[.d d]:=by rcases h with ⟨rfl,_⟩ | rfl<;>rfl
theorem RwR.dc {d:D} {l:List Rat} (h:RwR d l):d.one=true:=by rcases h with ⟨rfl,_⟩ | rfl<;>rfl
theorem RwR.dcl {d:D} {l:List Rat} (h:RwR d l):Qcw (.d d)=some [d]:=by rcases h with ⟨rfl,_⟩ | rfl<;>rfl
noncomputable def chL:Nat→List Rat→List Rat→List (List Rat)
 | 0,_,_=>[]
 | n+1,a,b=>if b=[] then [] else b :: chL n b (scP (remP a b) (-1))
noncomputable def chP (p:List Rat):List (List Rat):=if p=[] then [] else frP p :: chL p.length (frP p) (deP (frP p))
def ChOk (K:Nat):Nat→List Rat→List Rat→Prop
 | 0,_,b=>b=[]
 | n+1,a,b=>b=[]∨(Trm b∧b.length≤90∧HL K K b∧SzL K b∧dvG K b (dvN a b) a∧SzL K (remP a b)∧ChOk K n b (scP (remP a b) (-1)))
def Dls (ds:List D) (ps:List (List Rat)):Prop:=ds.length=ps.length∧∀ i,i<ps.length→RwR (ds.getD i (.z true)) (ps.getD i [])
theorem Dls.nil:Dls [] []:=⟨rfl,fun i h=>by simp at h⟩
theorem Dls.cons {d:D} {p:List Rat} {ds:List D} {ps:List (List Rat)} (h:RwR d p) (H:Dls ds ps):Dls (d :: ds) (p :: ps):=by
 refine ⟨by simp [H.1],fun i hi=>?_⟩
 cases i with
 | zero=>exact h
 | succ i=>simpa using H.2 i (by simpa using hi)
theorem Dls.rwc {ds:List D} {ps:List (List Rat)} (h:Dls ds ps):RwC (.row ds.length ds) ps:=⟨ds,h.1,h.2,.inl rfl⟩
def QqL (da db:D) (ds:List D):St:=mkS [(3,.d da),(4,.own [14] ds.length),(5,.d db)] [([14],⟨1,ds.length,ds.map .d,false⟩)]
def h7_en (ds:List D):St:=mkS [(4,.own [14] ds.length)] [([14],⟨1,ds.length,ds.map .d,false⟩)]
theorem QjA (ks:List Key):∀ ds:List D,Qdo ks (ds.map A.d)=true
 | []=>rfl
 | x :: r=>by rw [List.map_cons,Qdo,QjA ks r];rfl
theorem i64_m1:I64 (-1):=⟨by omega,by omega⟩
theorem sz_m1:sz (-1)≤3:=QnA (n:=-1) i64_m1
variable [Its]
section
variable {d:D} {ps:List (List Rat)} {K:Nat}
theorem h7_go {da db:D} {a b:List Rat} {ds:List D} (ha:RwR da a) (hb:RwR db b) (ta:Trm a) (tb:Trm b) (na:a.length≤90) (hne:b≠[]) (nb:b.length≤90) (Hb:HL K K b) (sb:SzL K b) (hg:dvG K b (dvN a b) a) (sr:SzL K (remP a b)) (hK1:3≤K) (hK:K≤200000000) (hd0:0<ds.length) (hds:ds.length≤1000) :
    ∃ d',RwR d' (scP (remP a b) (-1))∧X G QbD (QqL da db ds)=some (.n,QqL db d' (ds++[db])):=by
  obtain ⟨d1,d2,h1,h2,g1⟩:=Qk1 ha hb ta tb na Hb sb (by omega) hK hK hK hg
  have o1:=Qc3 i64_m1 (d:=1) ⟨by omega,by omega⟩
  rw [Qct,show (((-1:Int)):Rat) = -1 from rfl] at o1
  obtain ⟨d',h3,g2⟩:=Qie (a:=-1) h2 sr (Nat.le_trans sz_m1 hK1) (by omega) (by omega) (by have:=QhQ a b;omega)
  refine ⟨d',h3, ?_⟩
  have lb:=hb.len
  have e1:decide ((b.length:Int)>0)=true:=decide_eq_true (by have:=List.length_pos_iff.2 hne;omega)
  have k1:=hb.one
  have k2:=hb.dcl
  have k3:=hb.dc
  have n4:((ds.length+1)*24≤bound)=True:=eq_true (by unfold bound;omega)
  have n5:(ds++[db]).length=ds.length+1:=by simp
  have n6:(ds.map A.d)++[A.d db]=(ds++[db]).map A.d:=by simp
  have r1:rep 1 [db]=[db]:=rfl
  generalize (-1:Rat)=m1 at *
  clear h1 h2 h3 hg sr Hb sb ta tb ha hb
  simp only [encR,iv] at o1 g1 g2
  simp -implicitDefEqProofs (maxSteps:=9^8) only [QbD,QqL,lb,e1,k1,k2,k3,n4,n5,n6,r1,o1,g1,g2,QjA,List.length_map,Nat.mul_one,srcS,src,allD,QdY,QbY,List.all_cons,List.all_nil,Bool.and_self,Qaa,go_sem,iv,bv,reduceCtorEq,↓reduceIte,Nat.reduceEqDiff]
theorem h7_stop {da db:D} {ds:List D} (hb:RwR db []):X G QbD (QqL da db ds)=some (.x 0,h7_en ds):=by
 have lb:=hb.len
 simp only [List.length_nil] at lb
 have e1:decide ((0:Int)>0)=false:=rfl
 simp -implicitDefEqProofs (maxSteps:=9^8) only [QbD,QqL,h7_en,lb,e1,QjA,Qaa,go_sem,iv,bv,reduceCtorEq,↓reduceIte,Nat.reduceEqDiff]
theorem h7_loop (hK1:3≤K) (hK:K≤200000000):∀ (n:Nat) (a b:List Rat) (da db:D) (ds:List D),RwR da a→RwR db b→Trm a→a.length≤90→ChOk K n a b→0<ds.length→ds.length+n≤1000 →
    ∃ es,Dls es (chL n a b)∧X G (.loop QbD) (QqL da db ds)=some (.x 0,h7_en (ds++es))
  | 0,a,b,da,db,ds,ha,hb,ta,na,hc,h0,hl=>by
    have hc:b=[]:=hc
    subst hc
    exact ⟨[],Dls.nil,by rw [Qai,h7_stop hb,List.append_nil];rfl⟩
  | n+1,a,b,da,db,ds,ha,hb,ta,na,hc,h0,hl=>by
    by_cases hb0:b=[]
    · subst hb0
      rw [chL,if_pos rfl]
      exact ⟨[],Dls.nil,by rw [Qai,h7_stop hb,List.append_nil];rfl⟩
    · rcases hc with hc | ⟨c1,c2,c3,c4,c5,c6,c7⟩
      · exact absurd hc hb0
      · obtain ⟨d',h',hx⟩:=h7_go ha hb ta c1 na hb0 c2 c3 c4 c5 c6 hK1 hK h0 (ds:=ds) (by omega)
        obtain ⟨es,he,hl2⟩:=h7_loop hK1 hK n b _ db d' (ds++[db]) hb h' c1 c2 c7 (by simp) (by rw [List.length_append,List.length_singleton];omega)
        refine ⟨db :: es, ?_, ?_⟩
        · rw [chL,if_neg hb0]
          exact Dls.cons hb he
        · rw [Qai,hx,Option.bind_some,if_pos rfl,hl2,List.append_assoc];rfl
theorem Qrt         {dp:D} {p:List Rat} (hp:RwR dp p) (hp0:p≠[]) (np:p.length≤90) (hF:∃ d',RwR d' (frP p)∧Qah   G QeB                [dp]=some (.d d')) (tf:Trm (frP p)) (nf:(frP p).length≤90) (sf:SzL K (frP p)) (hc:ChOk K p.length (frP p) (deP (frP p))) (hK1:3≤K) (hK:K≤200000000) :
    ∃ ds,Dls ds (chP p)∧Qah G QcV [dp]=some (.own 1 ds.length ds):=by
  rw [Qad (cf:=Qe6) rfl]
  obtain ⟨da,ha,g1⟩:=hF
  obtain ⟨db,hb,g2⟩:=Qj4 ha sf (by omega) (by omega) (by omega)
  obtain ⟨es,he,g3⟩:=h7_loop hK1 hK p.length (frP p) (deP (frP p)) da db [da] ha hb tf nf hc (by simp) (by simp;omega)
  refine ⟨da :: es, ?_, ?_⟩
  · unfold chP
    rw [if_neg hp0]
    exact Dls.cons ha he
  · have lp:=hp.len
    have e1:((p.length:Int)==0)=false:=Qcx (by have:=List.length_pos_iff.2 hp0;omega)
    have k1:=ha.one
    have k2:=ha.dcl
    have k3:=ha.dc
    have n5:([da]++es).length=es.length+1:=by simp
    have n6:([da]++es)=da :: es:=rfl
    have r1:rep 1 [da]=[da]:=rfl
    have n7:allD (es.map A.d)=some es:=Qej _
    have n8:(24≤bound)=True:=eq_true (by unfold bound;omega)
    have n9:(1*24≤bound)=True:=eq_true (by unfold bound;omega)
    rw [n6] at g3
    simp only [QqL,h7_en,List.length_singleton,List.length_cons,List.map_cons,List.map_nil,go_sem] at g3
    clear he hc tf nf sf ha hb hp
    simp -implicitDefEqProofs (maxSteps:=9^8) only [Qe6,lp,e1,g1,g2,g3,k1,k2,k3,r1,n7,n8,n9,QjA,Qdo,List.length_map,List.length_cons,List.map_cons,List.map_nil,Nat.mul_one,srcS,src,allD,QdY,QbY,List.all_cons,List.all_nil,Bool.and_self,Qaa,go_sem,iv,bv,reduceCtorEq,↓reduceIte,Nat.reduceEqDiff]
end
end Go.AM

/- Comparisons of rationals, as decisions. -/
namespace Go.AM
open Go Go.RowKit
theorem cmpR_ge {a b:Rat}:decide (cmpR a b≥0)=decide (b≤a):=by
 have h:=QqN (a:=a) (b:=b)
 rw [Bool.eq_iff_iff,decide_eq_true_iff,decide_eq_true_iff]
 constructor
 ·intro h1
  exact Rat.not_lt.1 fun h2=>by have:=h.2 h2;omega
 ·intro h1
  exact Int.not_lt.1 fun h2=>Rat.not_lt.2 h1 (h.1 h2)
theorem Qmp {a b:Rat}:decide (cmpR a b>0)=decide (b<a):=by
 have h:=cmpR_le (a:=a) (b:=b)
 rw [Bool.eq_iff_iff,decide_eq_true_iff,decide_eq_true_iff]
 constructor
 ·intro h1
  exact Rat.not_le.1 fun h2=>by have:=h.2 h2;omega
 ·intro h1
  exact Int.not_le.1 fun h2=>Rat.not_le.2 h1 (h.1 h2)
end Go.AM

/- sturm: next, Chain, Changes, counted, Count, middle. -/
namespace Go.AM
open Go Go.RowKit
theorem dvG_nil {K:Nat} {R:List Rat} (h:SzL K R):∀ n,dvG K [] n R
 | 0=>trivial
 | n+1=>⟨h,by
  have e:dvI R [] n (dvF R [] n) ([]:List Rat).length=R:=rfl
  rw [e]
  exact dvG_nil h n⟩
theorem rem_nil (a:List Rat):remP a []=[]:=if_pos rfl
noncomputable def chM:Nat→List Rat→List Rat→List (List Rat)
 | 0,_,_=>[]
 | n+1,a,b=>if a=[] then [] else a :: chM n b (scP (remP a b) (-1))
theorem chM_L:∀ (n:Nat) (a b:List Rat),chM (n+1) a b=if a=[] then [] else a :: chL n a b
 | 0,a,b=>rfl
 | n+1,a,b=>by
  rw [chM,chM_L n b,chL]
def Qrm (da db:D) (ds:List D):St:=mkS [(3,if ds=[] then .d (.z true) else .own [20] ds.length),(4,.d da),(5,.d db)] (if ds=[] then [] else [([20],⟨1,ds.length,ds.map .d,false⟩)])
def o7_en (ds:List D):St:=mkS [(3,if ds=[] then .d (.z true) else .own [20] ds.length)] (if ds=[] then [] else [([20],⟨1,ds.length,ds.map .d,false⟩)])
theorem o7_nil (da db:D):Qrm da db []=mkS [(3,.d (.z true)),(4,.d da),(5,.d db)] []:=rfl
theorem o7_ne (da db:D) {ds:List D} (h:ds≠[]):Qrm da db ds=mkS [(3,.own [20] ds.length),(4,.d da),(5,.d db)] [([20],⟨1,ds.length,ds.map .d,false⟩)]:=by
 unfold Qrm
 rw [if_neg h,if_neg h]
theorem o7_en_nil:o7_en []=mkS [(3,.d (.z true))] []:=rfl
theorem Qr7 {ds:List D} (h:ds≠[]):o7_en ds=mkS [(3,.own [20] ds.length)] [([20],⟨1,ds.length,ds.map .d,false⟩)]:=by
 unfold o7_en
 rw [if_neg h,if_neg h]
theorem ne_snoc (ds:List D) (d:D):ds++[d]≠[]:=by simp
def lstS (S:List Int):Int:=S.getD (S.length-1) 0
def Qqg (d:D) (x:Rat) (S:List Int) (n i:Int):St:=mkS [(3,.ptr [3] 0),(5,ai (chN S S.length)),(6,ai (lstS S)),(10,.d d),(11,ai n),(12,ai i)] [([3],boxR x)]
theorem chN_pre (S:List Int) (s:Int):∀ i,i≤S.length→chN (S++[s]) i=chN S i
  | 0,_=>rfl
  | i+1,h=>by
    rw [chN,chN,chN_pre S s i (by omega)]
    have e1:(S++[s]).getD i 0=S.getD i 0:=by
      rw [List.getD_eq_getElem?_getD,List.getD_eq_getElem?_getD,List.getElem?_append_left (by omega)]
    by_cases h0:1≤i
    · have e2 : (S ++ [s]).getD (i - 1) 0 = S.getD (i - 1) 0 := by
        rw [List.getD_eq_getElem?_getD,List.getD_eq_getElem?_getD,List.getElem?_append_left (by omega)]
      rw [e1,e2]
    · rw [if_neg (fun h=>h0 h.1),if_neg (fun h=>h0 h.1)]
theorem chN_snoc (S:List Int) (s:Int):chN (S++[s]) (S++[s]).length=chN S S.length+(if S≠[]∧s≠lstS S then 1 else 0):=by
 rw [List.length_append,List.length_singleton,chN,chN_pre S s _ (Nat.le_refl _)]
 have e1:(S++[s]).getD S.length 0=s:=by
  rw [List.getD_eq_getElem?_getD,List.getElem?_append_right (Nat.le_refl _),Nat.sub_self];rfl
 rw [e1]
 by_cases h:S=[]
 ·subst h
  rw [if_neg (by simp),if_neg (fun h=>h.1 rfl)]
 ·have hl:0<S.length:=List.length_pos_iff.2 h
  have e2:(S++[s]).getD (S.length-1) 0=lstS S:=by
   unfold lstS
   rw [List.getD_eq_getElem?_getD,List.getD_eq_getElem?_getD,List.getElem?_append_left (by omega)]
  rw [e2]
  by_cases h2:s=lstS S
  ·rw [if_neg (fun h=>h.2 h2),if_neg (fun h=>h.2 h2)]
  ·rw [if_pos ⟨by omega,h2⟩,if_pos ⟨h,h2⟩]
theorem lst_snoc (S:List Int) (s:Int):lstS (S++[s])=s:=by
 unfold lstS
 rw [List.length_append,List.length_singleton,Nat.add_sub_cancel,List.getD_eq_getElem?_getD,List.getElem?_append_right (Nat.le_refl _),Nat.sub_self];rfl
theorem sgn_pm (p:List Rat) (x:Rat) (h:sgn1 p x≠0):sgn1 p x=1∨sgn1 p x = -1:=by
 unfold sgn1 at *
 rcases Int.lt_trichotomy (evR p x).num 0 with k | k | k
 ·exact .inr (Int.sign_eq_neg_one_of_neg k)
 ·rw [k] at h;exact absurd rfl h
 ·exact .inl (Int.sign_eq_one_of_pos k)
theorem sgs_pm (ps:List (List Rat)) (x:Rat):∀ s∈sgs ps x,s=1∨s = -1:=by
 intro s hs
 unfold sgs at hs
 obtain ⟨h1,h2⟩:=List.mem_filter.1 hs
 obtain ⟨p,_,rfl⟩:=List.mem_map.1 h1
 exact sgn_pm p x (of_decide_eq_true h2)
theorem lst_pm {S:List Int} (h:∀ s∈S,s=1∨s = -1):(S=[]∧lstS S=0)∨(S≠[]∧(lstS S=1∨lstS S = -1)):=by
 by_cases h0:S=[]
 ·exact .inl ⟨h0,by rw [h0];rfl⟩
 ·have hl:0<S.length:=List.length_pos_iff.2 h0
  refine .inr ⟨h0,h _ ?_⟩
  unfold lstS
  rw [List.getD_eq_getElem?_getD,List.getElem?_eq_getElem (show S.length-1<S.length by omega)]
  exact List.getElem_mem _
variable [Its]
theorem Qti        {da db:D} {a b:List Rat} {K:Nat} (ha:RwR da a) (hb:RwR db b) (na:a.length≤1000) (nb:b.length≤1000) (sb:SzL K b) (hg:dvG K b (dvN a b) a) (sr:SzL K (remP a b)) (hK1:3≤K) (hK:K≤1000000000) :
    ∃ d',RwR d' (scP (remP a b) (-1))∧Qah G Qls [da,db]=some (.d d'):=by
  rw [Qad (cf:=QkE) rfl]
  obtain ⟨d1,d2,h1,h2,g1⟩:=Qf6 ha hb (by omega) (by omega) sb (by omega) hK hg
  have o1:=Qf5 i64_m1 (d:=1) ⟨by omega,by omega⟩
  rw [Qct,show (((-1:Int)):Rat) = -1 from rfl] at o1
  obtain ⟨d',h3,g2⟩:=Qlg (a:=-1) h2 sr (Nat.le_trans sz_m1 hK1) (by omega) (by omega) (by have:=QhQ a b;omega)
  refine ⟨d',h3, ?_⟩
  generalize (-1:Rat)=m1 at *
  clear h1 h2 h3 sb hg sr ha hb
  simp only [encR,iv] at o1 g2
  simp -implicitDefEqProofs (maxSteps:=9^8) only [QkE,o1,g1,g2,go_sem,iv,bv,reduceCtorEq,↓reduceIte,Nat.reduceEqDiff]
section
variable {K:Nat}
theorem o7_go {da db:D} {a b:List Rat} {ds:List D} (ha:RwR da a) (hb:RwR db b) (na:a.length≤90) (hne:a≠[]) (nb:b.length≤90) (sb:SzL K b) (hg:dvG K b (dvN a b) a) (sr:SzL K (remP a b)) (hK1:3≤K) (hK:K≤1000000000) (hds:ds.length≤1000) :
    ∃ d',RwR d' (scP (remP a b) (-1))∧X G Qcc (Qrm da db ds)=some (.n,Qrm db d' (ds++[da])):=by
  obtain ⟨d',h3,g⟩:=Qti ha hb (by omega) (by omega) sb hg sr hK1 (by omega)
  refine ⟨d',h3, ?_⟩
  have la:=ha.len
  have e1:decide ((a.length:Int)>0)=true:=decide_eq_true (by have:=List.length_pos_iff.2 hne;omega)
  have k2:=ha.dcl
  have k3:=ha.dc
  have r1:rep 1 [da]=[da]:=rfl
  rw [o7_ne db d' (ne_snoc ds da)]
  clear h3 hg sr sb ha hb
  by_cases h0:ds=[]
  · subst h0
    rw [o7_nil]
    have b0:(24≤bound)=True:=eq_true (by unfold bound;omega)
    have b1:(1*24≤bound)=True:=eq_true (by unfold bound;omega)
    simp -implicitDefEqProofs (maxSteps:=9^8) only [Qcc,la,e1,k2,k3,r1,b0,b1,g,List.length_cons,List.length_nil,Nat.zero_add,List.map_cons,List.map_nil,Nat.mul_one,srcS,src,allD,QdY,QbY,Qdo,List.all_cons,List.all_nil,Bool.and_self,Qaa,go_sem,iv,bv,reduceCtorEq,↓reduceIte,Nat.reduceEqDiff]
  · rw [o7_ne da db h0]
    have n4:((ds.length+1)*24≤bound)=True:=eq_true (by unfold bound;omega)
    have n5:(ds++[da]).length=ds.length+1:=by simp
    have n6:(ds.map A.d)++[A.d da]=(ds++[da]).map A.d:=by simp
    simp -implicitDefEqProofs (maxSteps:=9^8) only [Qcc,la,e1,k2,k3,n4,n5,n6,r1,g,QjA,List.length_map,Nat.mul_one,srcS,src,allD,QdY,QbY,List.all_cons,List.all_nil,Bool.and_self,Qaa,go_sem,iv,bv,reduceCtorEq,↓reduceIte,Nat.reduceEqDiff]
theorem o7_stop {da db:D} {ds:List D} (ha:RwR da []):X G Qcc (Qrm da db ds)=some (.x 0,o7_en ds):=by
 have la:=ha.len
 simp only [List.length_nil] at la
 have e1:decide ((0:Int)>0)=false:=rfl
 by_cases h0:ds=[]
 ·subst h0
  rw [o7_nil,o7_en_nil]
  simp -implicitDefEqProofs (maxSteps:=9^8) only [Qcc,la,e1,Qaa,go_sem,iv,bv,reduceCtorEq,↓reduceIte,Nat.reduceEqDiff]
 ·rw [o7_ne da db h0,Qr7 h0]
  simp -implicitDefEqProofs (maxSteps:=9^8) only [Qcc,la,e1,QjA,Qaa,go_sem,iv,bv,reduceCtorEq,↓reduceIte,Nat.reduceEqDiff]
theorem o7_loop (hK1:3≤K) (hK:K≤1000000000):∀ (n:Nat) (a b:List Rat) (da db:D) (ds:List D),RwR da a→RwR db b→SzL K a→a.length≤90→ChOk K n a b→ds.length+n≤900 →
    ∃ es,Dls es (chM (n+1) a b)∧X G (.loop Qcc) (Qrm da db ds)=some (.x 0,o7_en (ds++es))
  | n,a,b,da,db,ds,ha,hb,sa,na,hc,hl=>by
    by_cases ha0:a=[]
    · subst ha0
      rw [chM,if_pos rfl]
      exact ⟨[],Dls.nil,by rw [Qai,o7_stop ha,List.append_nil];rfl⟩
    · by_cases hb0:b=[]
      · subst hb0
        obtain ⟨d',h',hx⟩:=o7_go ha hb na ha0 (by simp) (fun q hq=>by simp at hq) (dvG_nil sa _) (by rw [rem_nil];exact fun q hq=>by simp at hq) hK1 hK (ds:=ds) (by omega)
        refine ⟨[da], ?_, ?_⟩
        · have e : chM (n + 1) a [] = [a] := by
            rw [chM_L,if_neg ha0]
            cases n with
            | zero=>rfl
            | succ n=>rw [chL,if_pos rfl]
          rw [e]
          exact Dls.cons ha Dls.nil
        · rw [Qai,hx,Option.bind_some,if_pos rfl,Qai,o7_stop hb];rfl
      · cases n with
        | zero=>exact absurd hc hb0
        | succ n =>
          rcases hc with hc | ⟨c1,c2,c3,c4,c5,c6,c7⟩
          · exact absurd hc hb0
          · obtain ⟨d',h',hx⟩:=o7_go ha hb na ha0 c2 c4 c5 c6 hK1 hK (ds:=ds) (by omega)
            obtain ⟨es,he,hl2⟩:=o7_loop hK1 hK n b _ db d' (ds++[da]) hb h' c4 c2 c7 (by rw [List.length_append,List.length_singleton];omega)
            refine ⟨da :: es, ?_, ?_⟩
            · rw [chM,if_neg ha0]
              exact Dls.cons ha he
            · rw [Qai,hx,Option.bind_some,if_pos rfl,hl2,List.append_assoc];rfl
theorem Qjh         {dp:D} {p:List Rat} (hp0:p≠[]) (np:p.length≤90) (hF:∃ d',RwR d' (frP p)∧Qah   G Qc0         [dp]=some (.d d')) (hf0:frP p≠[]) (nf:(frP p).length≤90) (sf:SzL K (frP p)) (hc:ChOk K p.length (frP p) (deP (frP p))) (hK1:3≤K) (hK:K≤1000000000) :
    ∃ ds,Dls ds (chP p)∧Qah G Qcy [dp]=some (.own 1 ds.length ds):=by
  rw [Qad (cf:=Qjr) rfl]
  obtain ⟨da,ha,g1⟩:=hF
  obtain ⟨db,hb,g2⟩:=Qko ha sf (by omega) (by omega) (by omega)
  obtain ⟨es,he,g3⟩:=o7_loop hK1 hK p.length (frP p) (deP (frP p)) da db [] ha hb sf nf hc (by simp;omega)
  have ec:chM (p.length+1) (frP p) (deP (frP p))=chP p:=by
    rw [chM_L,if_neg hf0]
    unfold chP
    rw [if_neg hp0]
  rw [ec] at he
  refine ⟨es,he, ?_⟩
  have hes:es≠[]:=fun h=>by
    have h1:=he.1
    rw [h] at h1
    unfold chP at h1
    rw [if_neg hp0] at h1
    simp at h1
  have n7:allD (es.map A.d)=some es:=Qej _
  rw [o7_nil,List.nil_append,Qr7 hes] at g3
  simp only [go_sem] at g3
  clear he hc sf ha hb
  simp -implicitDefEqProofs (maxSteps:=9^8) only [Qjr,g1,g2,g3,n7,QjA,Qaa,go_sem,iv,bv,reduceCtorEq,↓reduceIte,Nat.reduceEqDiff]
end
section
variable {d:D} {ps:List (List Rat)} {x:Rat} {K:Nat}
theorem d7_go [ItsB] (hr:RwC d ps) (hn:ps.length≤1000) (hs:∀ p∈ps,SzL K p∧p.length*(2*K+1)≤40000000000) (hx:sz x≤K) (hK:K≤1000000000) {i:Nat} (hi:i<ps.length) :
    X G QbF (Qqg d x (sgs (ps.take i) x) ps.length i)=some (.n,Qqg d x (sgs (ps.take (i+1)) x) ps.length ((i+1:Nat):Int)):=by
  have e1:decide ((i:Int)<(ps.length:Int))=true:=lt_t (by omega)
  have e2:w64 ((i:Int)+1)=((i+1:Nat):Int):=by rw [Qae (by omega) (by omega)];rfl
  obtain ⟨y,r,hy,x1,x2⟩:=hr.at hi
  have hp:=hs (ps.getD i []) (by rw [List.getD_eq_getElem?_getD,List.getElem?_eq_getElem hi];exact List.getElem_mem hi)
  have hlen:=Qlo (ps.take i) x
  rw [List.length_take] at hlen
  have hpm:=lst_pm (sgs_pm (ps.take i) x)
  have hcl:=Qlw (sgs (ps.take i) x) (sgs (ps.take i) x).length
  have sn:=sgn_pm (ps.getD i []) x
  rw [QrH ps x hi]
  generalize ps.getD i []=p at *
  generalize sgs (ps.take i) x=S at *
  have g1:=QpZ hy hx (by omega) hp.1 hp.2
  have g2:=Qdx (evR p x)
  have es:Int.sign (evR p x).num=sgn1 p x:=rfl
  rw [es] at g2
  clear es hs hp hx hr
  generalize sgn1 p x=s at *
  generalize evR p x=v at *
  simp only [encR,iv] at g1 g2
  by_cases h0:s=0
  · have t:(s != 0)=false:=QqD h0
    rw [if_neg (by simp [h0])]
    generalize chN S S.length=n at *
    generalize lstS S=l at *
    simp -implicitDefEqProofs (maxSteps:=9^8) only [QbF,Qqg,boxR,x1,x2,g1,g2,t,e1,e2,ld4q,Qaa,go_sem,iv,bv,reduceCtorEq,↓reduceIte,Nat.reduceEqDiff]
  · have t:(s != 0)=true:=QqK h0
    have sn:=sn h0
    rw [if_pos h0]
    unfold Qqg
    rw [chN_snoc,lst_snoc]
    generalize chN S S.length=n at *
    have en:w64 (0-lstS S) = -(lstS S):=by rw [Qae (by omega) (by omega)];omega
    by_cases hc:S≠[]∧s≠lstS S
    · have t2 : (s == -(lstS S)) = true := by
        rw [beq_iff_eq]
        rcases hpm with ⟨h1,_⟩ | ⟨_,h1⟩
        · exact absurd h1 hc.1
        · have:=hc.2
          omega
      have e4:w64 ((n:Int)+1)=((n+1:Nat):Int):=by rw [Qae (by omega) (by omega)];rfl
      rw [if_pos hc]
      generalize lstS S=l at *
      simp -implicitDefEqProofs (maxSteps:=9^8) only [QbF,boxR,x1,x2,g1,g2,t,t2,en,e1,e2,e4,ld4q,Qaa,go_sem,iv,bv,reduceCtorEq,↓reduceIte,Nat.reduceEqDiff]
    · have t2 : (s == -(lstS S)) = false := by
        refine Qcx ?_
        rcases hpm with ⟨_,h1⟩ | ⟨h2,h1⟩
        · omega
        · have:s=lstS S:=Classical.byContradiction fun h=>hc ⟨h2,h⟩
          omega
      rw [if_neg hc,Nat.add_zero]
      generalize lstS S=l at *
      simp -implicitDefEqProofs (maxSteps:=9^8) only [QbF,boxR,x1,x2,g1,g2,t,t2,en,e1,e2,ld4q,Qaa,go_sem,iv,bv,reduceCtorEq,↓reduceIte,Nat.reduceEqDiff]
theorem d7_stop {S:List Int} {n:Nat}:X G QbF (Qqg d x S n n)=some (.x 0,mkS [(5,ai (chN S S.length))] []):=by
 have e1:decide ((n:Int)<(n:Int))=false:=lt_f (by omega)
 simp -implicitDefEqProofs (maxSteps:=9^8) only [QbF,Qqg,boxR,e1,Qaa,go_sem,iv,bv,reduceCtorEq,↓reduceIte,Nat.reduceEqDiff]
theorem d7_loop [ItsB] (hr:RwC d ps) (hn:ps.length≤1000) (hs:∀ p∈ps,SzL K p∧p.length*(2*K+1)≤40000000000) (hx:sz x≤K) (hK:K≤1000000000):∀ (j i:Nat),i+j=ps.length →
    X G (.loop QbF) (Qqg d x (sgs (ps.take i) x) ps.length i)=some (.x 0,mkS [(5,ai (chg ps x))] [])
  | 0,i,h=>by
    have:i=ps.length:=by omega
    subst this
    rw [Qai,d7_stop,List.take_length];rfl
  | j+1,i,h=>by
    rw [Qai,d7_go hr hn hs hx hK (by omega),Option.bind_some,if_pos rfl]
    exact d7_loop hr hn hs hx hK j (i+1) (by omega)
theorem Qi6 [ItsB] (hr:RwC d ps) (hn:ps.length≤1000) (hs:∀ p∈ps,SzL K p∧p.length*(2*K+1)≤40000000000) (hx:sz x≤K) (hK:K≤1000000000):Qah G Qgu [d,encR x]=some (.d (iv (chg ps x))):=by
 rw [Qad (cf:=QhE) rfl]
 have g:=d7_loop hr hn hs hx hK ps.length 0 (by omega)
 have ll:=hr.len
 have e0:sgs (ps.take 0) x=[]:=rfl
 have e1:((chN [] 0:Nat):Int)=0:=rfl
 have e2:lstS []=0:=rfl
 rw [e0] at g
 generalize chg ps x=c at *
 simp only [Qqg,boxR,e1,e2,nc0,go_sem] at g
 simp -implicitDefEqProofs (maxSteps:=9^8) only [QhE,encR,g,ll,Qaa,go_sem,iv,bv,reduceCtorEq,↓reduceIte,Nat.reduceEqDiff]
theorem Qi0 [ItsB] (hr:RwC d ps) (hn:ps.length≤1000) (hs:∀ p∈ps,SzL K p∧p.length*(2*K+1)≤40000000000) {lo hi:Rat} (h1:sz lo≤K) (h2:sz hi≤K) (hK:K≤1000000000):Qah G Qgv [d,encR lo,encR hi]=some (.d (iv (cnt ps lo hi))):=by
 rw [Qad (cf:=Qf2) rfl]
 have g0:=Qev (a:=lo) (b:=hi) (by omega) (by omega)
 have g1:=Qi6 hr hn hs h1 hK
 have g2:=Qi6 hr hn hs h2 hK
 have c1:chg ps lo≤1000:=Nat.le_trans (Qlw _ _) (Nat.le_trans (Qlo ps lo) hn)
 have c2:chg ps hi≤1000:=Nat.le_trans (Qlw _ _) (Nat.le_trans (Qlo ps hi) hn)
 have t0:=cmpR_ge (a:=lo) (b:=hi)
 unfold cnt
 generalize chg ps lo=a at *
 generalize chg ps hi=b at *
 obtain ⟨z,hz⟩:∃ z,(a:Int)-(b:Int)=z:=⟨_,rfl⟩
 have e:w64 ((a:Int)-(b:Int))=z:=by rw [Qae (by omega) (by omega),hz]
 rw [hz]
 generalize cmpR lo hi=c at *
 simp only [encR,iv] at g0 g1 g2
 by_cases h:hi≤lo
 ·rw [if_pos h]
  rw [decide_eq_true h] at t0
  simp -implicitDefEqProofs (maxSteps:=9^8) only [Qf2,encR,g0,t0,ld4q,Qaa,go_sem,iv,bv,reduceCtorEq,↓reduceIte,Nat.reduceEqDiff]
 ·rw [if_neg h]
  rw [decide_eq_false h] at t0
  simp -implicitDefEqProofs (maxSteps:=9^8) only [Qf2,encR,g0,g1,g2,t0,e,ld4q,Qaa,go_sem,iv,bv,reduceCtorEq,↓reduceIte,Nat.reduceEqDiff]
end
theorem Qis          [ItsB] {dp:D} {p:List Rat} {K:Nat} (hC:∃ ds,Dls ds (chP p)∧Qah   G Qcy           [dp]=some (.own 1 ds.length ds)) (hn:(chP p).length≤1000) (hs:∀ q∈chP p,SzL K q∧q.length*(2*K+1)≤40000000000) {lo hi:Rat} (h1:sz lo≤K) (h2:sz hi≤K) (hK:K≤1000000000) :
    Qah G QbS [dp,encR lo,encR hi]=some (.d (iv (cnt (chP p) lo hi))):=by
  rw [Qad (cf:=QjB) rfl]
  obtain ⟨ds,hd,g1⟩:=hC
  have g2:=Qi0 hd.rwc hn hs h1 h2 hK
  generalize cnt (chP p) lo hi=c at *
  simp only [encR,iv] at g2
  simp -implicitDefEqProofs (maxSteps:=9^8) only [QjB,encR,g1,g2,ld4q,Qaa,go_sem,iv,bv,reduceCtorEq,↓reduceIte,Nat.reduceEqDiff]
theorem Qjf {l:Rat×Rat} (h1:sz l.1≤1000000000) (h2:sz l.2≤1000000000):Qah G Qfk [enc2 l]=some (.d (encR (mid l.1 l.2))):=by
 rw [Qad (cf:=Qib) rfl]
 have g1:=QeT (a:=l.1) (b:=l.2) (by omega) (by omega)
 have g2:=Qf5 (n:=1) (d:=2) ⟨by omega,by omega⟩ ⟨by omega,by omega⟩
 have z1:=Qkt (a:=l.1) (b:=l.2)
 have z3:=sz_of (n:=1) (d:=2) ⟨by omega,by omega⟩ ⟨by omega,by omega⟩
 have g3:=Qdw (a:=l.1+l.2) (b:=Rat.divInt 1 2) (by omega) (by omega)
 unfold mid
 generalize (l.1+l.2)*Rat.divInt 1 2=r at *
 generalize l.1+l.2=s at *
 generalize Rat.divInt 1 2=t at *
 obtain ⟨lo,hi⟩:=l
 simp only [encR,iv] at g1 g2 g3
 simp -implicitDefEqProofs (maxSteps:=9^8) only [Qib,enc2,c2R,encR,g1,g2,g3,st4q,ld4q,st8q,Qk7,QkG,Qaa,go_sem,iv,bv,reduceCtorEq,↓reduceIte,Nat.reduceEqDiff]
theorem Qhv [ItsB] {d:D} {p:List Rat} {x:Rat} {K:Nat} (hr:RwR d p) (hx:sz x≤K) (hK:K≤1000000) (sp:SzL K p) (np:p.length≤100):Qah G Qgc [encR x,.rp [d]]=some (.d (bv (decide (evR p x<0)))):=by
 rw [Qad (cf:=QhL) rfl]
 have zb:p.length*(2*K+1)≤100*(2*1000000+1):=Nat.mul_le_mul np (by omega)
 have g1:=QpZ hr hx (by omega) sp (by omega)
 have g2:=Qdx (evR p x)
 rw [← Qrb]
 generalize evR p x=v at *
 generalize Int.sign v.num=s at *
 simp only [encR,iv] at g1 g2
 simp -implicitDefEqProofs (maxSteps:=9^8) only [QhL,encR,Qlq,g1,g2,ld4q,Qaa,go_sem,iv,bv,reduceCtorEq,↓reduceIte,Nat.reduceEqDiff]
end Go.AM

/- sturm.Stays, sturm.odd, ref07.Same, law07.num: walked in general. -/
namespace Go.AM
open Go Go.RowKit
def Qmu (a b:D):St:=mkS [(3,.d a),(4,.d b)] []
def Qkh (dp:D) (z x:Rat) (n i:Int):St:=mkS [(4,.ptr [4] 0),(7,.d (.fn Qgc [.rp [dp]])),(10,.ptr [10] 0),(50,ai n),(51,ai i)] [([4],boxR z),([10],boxR x)]
def QmD (d e:D) (i:Int):St:=mkS [(0,.d d),(1,.d e),(5,ai i)] []
theorem rep1_4S (a b c d:D):rep 1 [a,b,c,d]=[a,b,c,d]:=rfl
theorem tupS:A.bool? (.d (.v (.tuple #[])))=none:=rfl
section
variable [Its]
theorem Qez {n:Int} (hn:I64 n):Qah G QaF [iv n]=some (.d (encR (n:Rat))):=by
 rw [Qad (cf:=Qgm) rfl]
 have o:=Qc3 (n:=n) (d:=1) hn ⟨by omega,by omega⟩
 rw [Qct] at o
 generalize (n:Rat)=q at *
 simp only [encR,iv] at o
 simp -implicitDefEqProofs (maxSteps:=9^8) only [Qgm,encR,o,st4q,ld4q,Qab,Qaa,go_sem,iv,bv,reduceCtorEq,↓reduceIte,Nat.reduceEqDiff]
theorem odg_stop {d1 d2:D} {r:List Rat} (hr:RwR d2 r) (h:r.length≤1):X G Qer (Qmu d1 d2)=some (.x 0,mkS [(3,.d d1)] []):=by
 have l:=hr.len
 have e:decide ((r.length:Int)>1)=false:=decide_eq_false (by omega)
 simp -implicitDefEqProofs (maxSteps:=9^8) only [Qer,Qmu,l,e,go_sem,iv,bv,reduceCtorEq,↓reduceIte,Nat.reduceEqDiff]
theorem odg_go {d1 d2 a1 a2 a2' a3 a4 a5 a5' a6 a7 a7':D} {r:List Rat} (h2:RwR d2 r) (n1:1<r.length)
    (g1:Qah G Qc0 [d2]=some (.d a1)) (g2:Qah G Qdf [d2,a1]=some (.d (.tup [a2,a2']))) (g3:Qah G Qc0 [a2]=some (.d a3)) (g4:Qah G QiP [a1,a3]=some (.d a4))
    (g5:Qah G Qdf [a1,a4]=some (.d (.tup [a5,a5']))) (g6:Qah G QkY [d1,a5]=some (.d a6)) (g7:Qah G Qdf [a2,a3]=some (.d (.tup [a7,a7']))):X G Qer (Qmu d1 d2)=some (.n,Qmu a6 a7):=by
  have l:=h2.len
  have e:decide ((r.length:Int)>1)=true:=decide_eq_true (by omega)
  simp -implicitDefEqProofs (maxSteps:=9^8) only [Qer,Qmu,l,e,g1,g2,g3,g4,g5,g6,g7,go_sem,iv,bv,reduceCtorEq,↓reduceIte,Nat.reduceEqDiff]
theorem odg_end {dp d1:D} (h:X G (.loop Qer) (Qmu (rowR [1]) dp)=some (.x 0,mkS [(3,.d d1)] [])):Qah G Qhy [dp]=some (.d d1):=by
 rw [Qad (cf:=Qmz) rfl]
 have o:=Qf5 (n:=1) (d:=1) ⟨by omega,by omega⟩ ⟨by omega,by omega⟩
 rw [Qct,show ((1:Int):Rat)=1 from rfl] at o
 have ea:rowR [1]=.row 1 [.v (.bool (decide ((1:Rat).num<0))),dg (digs (1:Rat).num.natAbs),.v (.bool false),dg (dd (1:Rat).den)]:=rfl
 rw [ea] at h
 generalize (1:Rat)=q at *
 simp only [encR,iv] at o
 simp only [Qmu,go_sem] at h
 simp -implicitDefEqProofs (maxSteps:=9^8) only [Qmz,encR,o,h,rep1_4S,QdY,QbY,Qaa,go_sem,iv,bv,reduceCtorEq,↓reduceIte,Nat.reduceEqDiff]
theorem s7s_stop {dp:D} {z x:Rat} {n:Nat}:X G Qca (Qkh dp z x n n)=some (.x 0,mkS [] []):=by
 have e1:decide ((n:Int)<(n:Int))=false:=lt_f (by omega)
 simp -implicitDefEqProofs (maxSteps:=9^8) only [Qca,Qkh,boxR,e1,Qaa,go_sem,iv,bv,reduceCtorEq,↓reduceIte,Nat.reduceEqDiff]
/-! Same -/
theorem sm7_go {d e:D} {ps:List (List Rat)} (hd:RwC d ps) (he:RwC e ps) (hn:ps.length≤1000) (hs:∀ p∈ps,SzL 100000000000 p∧p.length≤1000) {i:Nat} (hi:i<ps.length):X G QbJ (QmD d e i)=some (.n,QmD d e ((i+1:Nat):Int)):=by
 have e1:decide ((i:Int)<(ps.length:Int))=true:=lt_t (by omega)
 have e2:w64 ((i:Int)+1)=((i+1:Nat):Int):=by rw [Qae (by omega) (by omega)];rfl
 have ll:=hd.len
 obtain ⟨x,rx,hx,x1,x2⟩:=hd.at hi
 obtain ⟨y,ry,hy,y1,y2⟩:=he.at hi
 have hp:=hs (ps.getD i []) (by rw [List.getD_eq_getElem?_getD,List.getElem?_eq_getElem hi];exact List.getElem_mem hi)
 have g:=s6_refl hx hy hp.1 (by omega)
 simp only [bv] at g
 simp -implicitDefEqProofs (maxSteps:=9^8) only [QbJ,QmD,ll,x1,x2,y1,y2,g,e1,e2,go_sem,iv,bv,reduceCtorEq,↓reduceIte,Nat.reduceEqDiff]
theorem sm7_stop {d e:D} {ps:List (List Rat)} (hd:RwC d ps):X G QbJ (QmD d e ps.length)=some (.x 0,mkS [] []):=by
 have e1:decide ((ps.length:Int)<(ps.length:Int))=false:=lt_f (by omega)
 have ll:=hd.len
 simp -implicitDefEqProofs (maxSteps:=9^8) only [QbJ,QmD,ll,e1,go_sem,iv,bv,reduceCtorEq,↓reduceIte,Nat.reduceEqDiff]
theorem Qr5 {d e:D} {ps:List (List Rat)} (hd:RwC d ps) (he:RwC e ps) (hn:ps.length≤1000) (hs:∀ p∈ps,SzL 100000000000 p∧p.length≤1000):∀ (j i:Nat),i+j=ps.length→X G (.loop QbJ) (QmD d e i)=some (.x 0,mkS [] [])
 | 0,i,h=>by
  have:i=ps.length:=by omega
  subst this
  rw [Qai,sm7_stop hd];rfl
 | j+1,i,h=>by
  rw [Qai,sm7_go hd he hn hs (by omega),Option.bind_some,if_pos rfl]
  exact Qr5 hd he hn hs j (i+1) (by omega)
theorem QtL {d e:D} {ps:List (List Rat)} (hd:RwC d ps) (he:RwC e ps) (hn:ps.length≤1000) (hs:∀ p∈ps,SzL 100000000000 p∧p.length≤1000):Qah G QgF [d,e]=some (.d (bv true)):=by
 rw [Qad (cf:=QfP) rfl]
 have g:=Qr5 hd he hn hs ps.length 0 (by omega)
 have l1:=hd.len
 have l2:=he.len
 have t:((ps.length:Int) != (ps.length:Int))=false:=QqD rfl
 simp only [QmD,nc0,go_sem] at g
 simp -implicitDefEqProofs (maxSteps:=9^8) only [QfP,l1,l2,t,g,go_sem,iv,bv,reduceCtorEq,↓reduceIte,Nat.reduceEqDiff]
end
section
variable [Its] [ItsB] {dp:D} {p:List Rat} {K:Nat}
theorem QsE    (hr:RwR dp p) (sp:SzL K p) (np:p.length≤100) (hK:K≤1000000) {z x:Rat} (hz:sz z≤100) (hx:sz x≤100) (h205:205≤K) {n i:Nat} (hi:i<n) (hn:n≤100) :
    X G Qca (Qkh dp z x n i)=if evR p (mid z x)<0 then some (.r,mkS [(6,ab false)] []) else some (.n,Qkh dp z (mid z x) n ((i+1:Nat):Int)):=by
  have e1:decide ((i:Int)<(n:Int))=true:=lt_t (by omega)
  have e2:w64 ((i:Int)+1)=((i+1:Nat):Int):=by rw [Qae (by omega) (by omega)];rfl
  have g1:=Qjf (l:=(z,x)) (by dsimp only;omega) (by dsimp only;omega)
  have zm:=Qsu hz hx
  have g2:=Qhv hr (x:=mid z x) (K:=K) (by omega) (by omega) sp (by omega)
  clear sp hz hx zm hr
  dsimp only at g1
  generalize mid z x=m at *
  generalize evR p m=v at *
  simp only [encR,enc2,c2R,iv] at g1 g2
  by_cases h:v<0
  · rw [decide_eq_true h] at g2
    rw [if_pos h]
    simp -implicitDefEqProofs (maxSteps:=9^8) only [Qca,Qkh,boxR,g1,g2,e1,e2,QdY,QbY,st4q,ld4q,st8q,Qk7,QkG,Qaa,go_sem,iv,bv,reduceCtorEq,↓reduceIte,Nat.reduceEqDiff]
  · rw [decide_eq_false h] at g2
    rw [if_neg h]
    simp -implicitDefEqProofs (maxSteps:=9^8) only [Qca,Qkh,boxR,g1,g2,e1,e2,QdY,QbY,st4q,ld4q,st8q,Qk7,QkG,Qaa,go_sem,iv,bv,reduceCtorEq,↓reduceIte,Nat.reduceEqDiff]
theorem Qtm (hr:RwR dp p) (sp:SzL K p) (np:p.length≤100) (hK:K≤1000000) (hp0:p≠[]) {lo hi:Rat} (hl:lo≤hi) (z1:sz lo≤K) (z2:sz hi≤K) (h:evR p lo<0):Qah G QdK [dp,encR lo,encR hi]=some (.d (bv false)):=by
 rw [Qad (cf:=Qgh) rfl]
 have g:=Qev (a:=lo) (b:=hi) (by omega) (by omega)
 have t:=Qmp (a:=lo) (b:=hi)
 rw [decide_eq_false (Rat.not_lt.2 hl)] at t
 have hl:=hr.len
 have c1:=hr.one
 have c2:=hr.cells
 have c3:=hr.dc
 have c4:=hr.dcl
 have g0:=Qhv hr (x:=lo) z1 hK sp np
 rw [decide_eq_true h] at g0
 have t2:((p.length:Int)==0)=false:=Qcx (by have:=List.length_pos_iff.2 hp0;omega)
 clear sp hr h
 generalize cmpR lo hi=c at *
 simp only [encR,iv] at g g0
 simp -implicitDefEqProofs (maxSteps:=9^8) only [Qgh,encR,g,g0,t,hl,t2,c1,c2,c3,c4,toDs,allD,snap,Qdc,Qab,Qac,ld4q,decide_true,decide_false,tupS,Qaa,go_sem,iv,bv,reduceCtorEq,↓reduceIte,Nat.reduceEqDiff]
theorem Qrp         (hr:RwR dp p) (sp:SzL K p) (np:p.length≤100) (hK:K≤1000000) (hp0:p≠[]) {lo hi:Rat} (hl:lo≤hi) (z1:sz lo≤K) (z2:sz hi≤K) (h0:0≤evR p lo) (h1:0≤evR p hi)
    {dg:D} (g2:Qah G Qhy [dp]=some (.d dg)) (g3:Qah G QbS [dg,encR lo,encR hi]=some (.d (iv 0))) (lp:X G (.loop Qca) (Qkh dp lo hi p.length 0)=some (.x 0,mkS [] [])):Qah G QdK [dp,encR lo,encR hi]=some (.d (bv true)):=by
  rw [Qad (cf:=Qgh) rfl]
  have g:=Qev (a:=lo) (b:=hi) (by omega) (by omega)
  have t:=Qmp (a:=lo) (b:=hi)
  rw [decide_eq_false (Rat.not_lt.2 hl)] at t
  have hl:=hr.len
  have c1:=hr.one
  have c2:=hr.cells
  have c3:=hr.dc
  have c4:=hr.dcl
  have g0:=Qhv hr (x:=lo) z1 hK sp np
  have g1:=Qhv hr (x:=hi) z2 hK sp np
  rw [decide_eq_false (Rat.not_lt.2 h0)] at g0
  rw [decide_eq_false (Rat.not_lt.2 h1)] at g1
  have t2:((p.length:Int)==0)=false:=Qcx (by have:=List.length_pos_iff.2 hp0;omega)
  have d1:decide ((0:Int)>0)=false:=rfl
  clear sp hr h0 h1
  generalize cmpR lo hi=c at *
  simp only [encR,iv] at g g0 g1 g3
  simp only [Qkh,boxR,go_sem] at lp
  simp -implicitDefEqProofs (maxSteps:=9^8) only [Qgh,encR,g,g0,g1,g2,g3,d1,lp,t,hl,t2,c1,c2,c3,c4,toDs,allD,snap,Qdc,Qab,Qac,st4q,ld4q,decide_true,decide_false,tupS,Qaa,go_sem,iv,bv,reduceCtorEq,↓reduceIte,Nat.reduceEqDiff]
end
end Go.AM

/- Divisors of polynomials: the common divisor is a combination, the part without squares. -/
namespace Go.AM
open Go Go.RowKit

def Dv (q p:List Rat):Prop:=∃ s:List Rat,∀ x,evR p x=evR s x*evR q x
theorem Qb6 (c x:Rat):evR [c] x=c:=by
 show (0:Rat)*x+c=c
 rw [Rat.zero_mul,Rat.zero_add]
theorem Dv.refl (p:List Rat):Dv p p:=⟨[1],fun x=>by rw [Qb6,Rat.one_mul]⟩
theorem Dv.nil (p:List Rat):Dv p []:=⟨[],fun x=>by rw [QaG,Rat.zero_mul]⟩
theorem Dv.one (p:List Rat):Dv [1] p:=⟨p,fun x=>by rw [Qb6,Rat.mul_one]⟩
theorem Dv.trans {a b c:List Rat} (h:Dv a b) (k:Dv b c):Dv a c:=by
 obtain ⟨s,hs⟩:=h
 obtain ⟨t,ht⟩:=k
 exact ⟨muP t s,fun x=>by rw [Qa8,ht,hs,Rat.mul_assoc]⟩
theorem Dv.comb {q a b c u v:List Rat} (h:Dv q a) (k:Dv q b) (hc:∀ x,evR c x=evR u x*evR a x+evR v x*evR b x):Dv q c:=by
 obtain ⟨s,hs⟩:=h
 obtain ⟨t,ht⟩:=k
 refine ⟨adP (muP u s) (muP v t),fun x=>?_⟩
 rw [Qmo,Qa8,Qa8,hc,hs,ht]
 generalize evR u x=a1;generalize evR v x=a2;generalize evR s x=a3;generalize evR t x=a4;generalize evR q x=a5
 grind
theorem Qmj {l:List Rat} (hl:Trm l) (h:∀ x,evR l x=0):l=[]:=Qc4 hl Qit (fun x=>by rw [h,QaG])
theorem ev_ne {l:List Rat} (hl:Trm l) (h:l≠[]):∃ x,evR l x≠0:=Classical.byContradiction fun hn=>h (Qmj hl fun x=>Classical.byContradiction fun hx=>hn ⟨x,hx⟩)
theorem Qq7 {a b:List Rat} (ha:Trm a) (hb:Trm b) (na:a≠[]) (nb:b≠[]):(muP a b).length=a.length+b.length-1:=by
 have h1:=List.length_pos_iff.2 na
 have h2:=List.length_pos_iff.2 nb
 have h3:(muP a b).getD (a.length-1+(b.length-1)) 0≠0:=by
  rw [Qoq,QlX h1 h2]
  intro h0
  rcases Rat.mul_eq_zero.1 h0 with h4 | h4
  ·exact QdN ha na h4
  ·exact QdN hb nb h4
 have:=Qmc h3
 have:=Qm4 a b
 omega
theorem Qrv {a b:List Rat} (h:∀ x,evR a x*evR b x=0):(∀ x,evR a x=0)∨(∀ x,evR b x=0):=by
 by_cases ha:Qay a=[]
 ·exact .inl fun x=>by rw [← QaB,ha,QaG]
 ·by_cases hb:Qay b=[]
  ·exact .inr fun x=>by rw [← QaB,hb,QaG]
  ·have h1:=Qq7 (QaO a) (QaO b) ha hb
   have h2:muP (Qay a) (Qay b)=[]:=Qmj (Qjb _ _) fun x=>by rw [Qa8,QaB,QaB,h]
   have h3:=List.length_pos_iff.2 ha
   have h4:=List.length_pos_iff.2 hb
   rw [h2] at h1
   simp only [List.length_nil] at h1
   omega
theorem Qhf {a b c:List Rat} (hc:∃ x,evR c x≠0) (h:∀ x,evR a x*evR c x=evR b x*evR c x) (x:Rat):evR a x=evR b x:=by
 rcases Qrv (a:=sbP a b) (b:=c) (fun x=>by rw [QpN];have:=h x;generalize evR a x=u at *;generalize evR b x=v at *;generalize evR c x=w at *;grind) with h1 | h1
 ·have:=h1 x
  rw [QpN] at this
  generalize evR a x=u at *;generalize evR b x=v at *
  grind
 ·obtain ⟨y,hy⟩:=hc
  exact absurd (h1 y) hy
theorem Qjy {p:List Rat} (tp:Trm p) (h:Dv [] p):p=[]:=by
 obtain ⟨s,hs⟩:=h
 exact Qmj tp fun x=>by rw [hs,QaG,Rat.mul_zero]
theorem Qmn {q p:List Rat} (tq:Trm q) (tp:Trm p) (np:p≠[]) (h:Dv q p):∃ s,Trm s∧s≠[]∧q≠[]∧p=muP s q∧p.length=s.length+q.length-1:=by
 have nq:q≠[]:=fun h0=>np (Qjy tp (h0 ▸ h))
 obtain ⟨s,hs⟩:=h
 have e:p=muP (Qay s) q:=Qc4 tp (Qjb _ _) fun x=>by rw [hs,Qa8,QaB]
 have ns:Qay s≠[]:=fun h0=>np (Qmj tp fun x=>by rw [hs,← QaB s,h0,QaG,Rat.zero_mul])
 exact ⟨Qay s,QaO _,ns,nq,e,by rw [e];exact Qq7 (QaO _) tq ns nq⟩
theorem QfX {q p:List Rat} (tq:Trm q) (tp:Trm p) (np:p≠[]) (h:Dv q p):q.length≤p.length:=by
 obtain ⟨s,_,ns,_,_,hl⟩:=Qmn tq tp np h
 have:=List.length_pos_iff.2 ns
 omega
theorem Qpa {q p:List Rat} (tq:Trm q) (nq:q≠[]) (h:Dv q p):remP p q=[]∧∀ x,evR p x=evR (quoP p q) x*evR q x:=by
 obtain ⟨h1,h2,h3,h4⟩:=Qjk (p:=p) tq nq
 obtain ⟨s,hs⟩:=h
 have hr:remP p q=[]:=(div_uniq tq nq h3 (QaO s) h4 Qit h2 (by simp) (fun x=>by rw [← h1,QaB,hs,QaG,Rat.add_zero])).2
 exact ⟨hr,fun x=>by rw [h1,hr,QaG,Rat.add_zero]⟩

def Mo (l:List Rat):Prop:=l=[]∨l.getD (l.length-1) 0=1
theorem Qn5:Trm [1]:=fun n h=>by
 have:n=0:=by simpa using h.symm
 subst this
 show (1:Rat)≠0
 decide
theorem mo_mn {l:List Rat} (tl:Trm l):Mo (mnP l):=by
 by_cases h:l=[]
 ·subst h;exact .inl rfl
 ·refine .inr ?_
  rw [Qil tl,mn_getD h,Rat.div_def,Rat.one_mul,Rat.mul_inv_cancel _ (QdN tl h)]
theorem ev_mn {l:List Rat} (h:l≠[]) (x:Rat):evR (mnP l) x=evR l x*(1/l.getD (l.length-1) 0):=by rw [mnP,if_neg h,QkS]
theorem dv_mn {l:List Rat}:Dv l (mnP l):=by
 by_cases h:l=[]
 ·subst h;exact Dv.nil _
 ·exact ⟨[1/l.getD (l.length-1) 0],fun x=>by rw [ev_mn h,Qb6,Rat.mul_comm]⟩
theorem QpA {l:List Rat} (tl:Trm l):Dv (mnP l) l:=by
 by_cases h:l=[]
 ·subst h;exact Dv.nil _
 ·refine ⟨[l.getD (l.length-1) 0],fun x=>?_⟩
  have h1:=QdN tl h
  rw [ev_mn h,Qb6]
  generalize l.getD (l.length-1) 0=c at *
  rw [Rat.div_def,Rat.one_mul,Rat.mul_comm (evR l x),← Rat.mul_assoc,Rat.mul_inv_cancel _ h1,Rat.one_mul]
theorem mn_ne {l:List Rat} (tl:Trm l) (h:l≠[]):mnP l≠[]:=fun h0=>h (by
 have:=Qil tl
 rw [h0] at this
 exact List.length_eq_zero_iff.1 this.symm)
theorem mo_uniq {a b:List Rat} (ta:Trm a) (tb:Trm b) (ma:Mo a) (mb:Mo b) (h1:Dv a b) (h2:Dv b a):a=b:=by
 by_cases na:a=[]
 ·subst na;exact (Qjy tb h1).symm
 ·have nb:b≠[]:=fun h0=>na (Qjy ta (h0 ▸ h2))
  have l2:=QfX tb ta na h2
  obtain ⟨s,ts,ns,_,e,hl⟩:=Qmn ta tb nb h1
  have p1:=List.length_pos_iff.2 ns
  have p2:=List.length_pos_iff.2 na
  have hs:s.length=1:=by omega
  have hab:b.length-1=s.length-1+(a.length-1):=by omega
  have hc:s.getD (s.length-1) 0=1:=by
   have c1:=mb.resolve_left nb
   rw [hab] at c1
   rw [e,Qoq,QlX p1 p2,ma.resolve_left na,Rat.mul_one] at c1
   exact c1
  obtain ⟨c,rfl⟩:∃ c,s=[c]:=List.length_eq_one_iff.1 hs
  have hc1:c=1:=hc
  subst hc1
  refine Qc4 ta tb fun x=>?_
  rw [e,Qa8,Qb6,Rat.one_mul]
theorem QkR {a:List Rat} (ma:Mo a) (h:a.length=1):a=[1]:=by
  obtain ⟨c,rfl⟩:∃ c,a=[c]:=List.length_eq_one_iff.1 h
  rcases ma with h1 | h1
  · cases h1
  · have:c=1:=h1
    rw [this]

/-! ### The common divisor -/
theorem gc_bez:∀ (n:Nat) (a b:List Rat),Trm a→Trm b→b.length<n→(∃ u v,∀ x,evR (gcP n a b) x=evR u x*evR a x+evR v x*evR b x)∧Dv (gcP n a b) a∧Dv (gcP n a b) b
 | 0,_,_,_,_,h=>by omega
 | n+1,a,b,ta,tb,h=>by
  rw [gcP]
  by_cases hb:b=[]
  ·rw [if_pos hb]
   subst hb
   exact ⟨⟨[1],[],fun x=>by rw [Qb6,QaG,Rat.one_mul,Rat.zero_mul,Rat.add_zero]⟩,Dv.refl _,Dv.nil _⟩
  ·rw [if_neg hb]
   obtain ⟨q1,q2,q3,q4⟩:=Qjk (p:=a) tb hb
   have hp:=List.length_pos_iff.2 hb
   obtain ⟨⟨u,v,i1⟩,i2,i3⟩:=gc_bez n b (mnP (remP a b)) tb (Qha _) (by have:=Qil q4;omega)
   generalize gcP n b (mnP (remP a b))=g at *
   have i4:Dv g (remP a b):=i3.trans (QpA q4)
   obtain ⟨s,hs⟩:=dv_mn (l:=remP a b)
   refine ⟨⟨muP v s,sbP u (muP (muP v s) (quoP a b)),fun x=>?_⟩,i2.comb i4 (u:=quoP a b) (v:=[1]) (fun x=>by rw [Qb6,Rat.one_mul];exact q1 x),i2⟩
   rw [i1,hs,QpN,Qa8,Qa8,Qa8,q1]
   generalize evR u x=a1;generalize evR v x=a2;generalize evR s x=a3;generalize evR b x=a4;generalize evR (quoP a b) x=a5;generalize evR (remP a b) x=a6
   grind
theorem trm_gcP:∀ (n:Nat) (a b:List Rat),Trm a→Trm b→Trm (gcP n a b)
 | 0,_,_,ha,_=>ha
 | n+1,a,b,ha,hb=>by
  rw [gcP]
  split
  ·exact ha
  ·exact trm_gcP n b _ hb (Qha _)
theorem mo_gcP:∀ (n:Nat) (a b:List Rat),Mo a→Mo b→Mo (gcP n a b)
 | 0,_,_,ha,_=>ha
 | n+1,a,b,ha,hb=>by
  rw [gcP]
  split
  ·exact ha
  ·exact mo_gcP n b _ hb (mo_mn (trm_dv _ _))
section
variable {p q:List Rat}
theorem Qio (tp:Trm p) (tq:Trm q):(∃ u v,∀ x,evR (gcdP p q) x=evR u x*evR p x+evR v x*evR q x)∧Dv (gcdP p q) p∧Dv (gcdP p q) q:=by
 obtain ⟨⟨u,v,h1⟩,h2,h3⟩:=gc_bez (q.length+1) (mnP p) (mnP q) (Qha _) (Qha _) (by have:=Qil tq;omega)
 obtain ⟨s,hs⟩:=dv_mn (l:=p)
 obtain ⟨t,ht⟩:=dv_mn (l:=q)
 refine ⟨⟨muP u s,muP v t,fun x=>?_⟩,h2.trans (QpA tp),h3.trans (QpA tq)⟩
 show evR (gcP _ _ _) x=_
 rw [h1,hs,ht,Qa8,Qa8,Rat.mul_assoc,Rat.mul_assoc]
theorem Qhq:Trm (gcdP p q):=trm_gcP _ _ _ (Qha _) (Qha _)
theorem Qsq (tp:Trm p) (tq:Trm q):Mo (gcdP p q):=mo_gcP _ _ _ (mo_mn tp) (mo_mn tq)
theorem QsM (tp:Trm p) (tq:Trm q) (h:p≠[]∨q≠[]):gcdP p q≠[]:=fun h0=>by
 obtain ⟨_,k2,k3⟩:=Qio tp tq
 rw [h0] at k2 k3
 rcases h with h | h
 ·exact h (Qjy tp k2)
 ·exact h (Qjy tq k3)
theorem Qip (a b:List Rat):Trm (quoP a b):=by
 unfold quoP
 split
 ·exact Qit
 ·exact QaO _
end

/-! ### The part without squares -/
def Irr (π:List Rat):Prop:=Trm π∧2≤π.length∧∀ d,Trm d→Dv d π→d.length=1∨d.length=π.length
theorem irr_ex:∀ (n:Nat) (h:List Rat),h.length≤n→Trm h→2≤h.length→∃ π,Irr π∧Dv π h
 | 0,h,hn,_,h2=>by omega
 | n+1,h,hn,th,h2=>by
  have nh:h≠[]:=fun h0=>by rw [h0] at h2;simp at h2
  by_cases hex:∃ d,Trm d∧Dv d h∧2≤d.length∧d.length<h.length
  ·obtain ⟨d,td,hd,d2,dl⟩:=hex
   obtain ⟨π,h1,h3⟩:=irr_ex n d (by omega) td d2
   exact ⟨π,h1,h3.trans hd⟩
  ·refine ⟨h,⟨th,h2,fun d td hd=>?_⟩,Dv.refl _⟩
   have l1:=QfX td th nh hd
   have nd:d≠[]:=fun h0=>nh (Qjy th (h0 ▸ hd))
   have l2:=List.length_pos_iff.2 nd
   by_cases l3:d.length=h.length
   ·exact .inr l3
   ·refine .inl ?_
    by_cases l4:2≤d.length
    ·exact absurd ⟨d,td,hd,l4,by omega⟩ hex
    ·omega
theorem QsW {g π:List Rat} (tg:Trm g) (tπ:Trm π) (nπ:π≠[]) (h:Dv g π) (hl:g.length=π.length):Dv π g:=by
 obtain ⟨s,ts,ns,ng,e,hh⟩:=Qmn tg tπ nπ h
 have p1:=List.length_pos_iff.2 ng
 obtain ⟨c,rfl⟩:∃ c,s=[c]:=List.length_eq_one_iff.1 (by omega)
 have hc:c≠0:=by
  have:=QdN ts ns
  exact this
 refine ⟨[c⁻¹],fun x=>?_⟩
 rw [e,Qa8,Qb6,Qb6,← Rat.mul_assoc,Rat.inv_mul_cancel _ hc,Rat.one_mul]
theorem irr_ne {π:List Rat} (h:Irr π):π≠[]:=fun h0=>by have:=h.2.1;rw [h0] at this;simp at this
theorem irr_prime {π a b:List Rat} (h:Irr π) (ta:Trm a) (hd:Dv π (muP a b)):Dv π a∨Dv π b:=by
 obtain ⟨tπ,h2,h3⟩:=h
 have nπ:π≠[]:=irr_ne ⟨tπ,h2,h3⟩
 obtain ⟨⟨u,v,k1⟩,k2,k3⟩:=Qio tπ ta
 have tg:Trm (gcdP π a):=Qhq
 have mg:=Qsq tπ ta
 generalize gcdP π a=g at *
 rcases h3 g tg k2 with hl | hl
 ·have hg:=QkR mg hl
  subst hg
  refine .inr ?_
  obtain ⟨t,ht⟩:=hd
  refine ⟨adP (muP u b) (muP v t),fun x=>?_⟩
  have e1:=k1 x
  have e2:=ht x
  rw [Qb6] at e1
  rw [Qa8] at e2
  rw [Qmo,Qa8,Qa8]
  generalize evR u x=a1 at *;generalize evR v x=a2 at *;generalize evR a x=a3 at *;generalize evR b x=a4 at *;generalize evR t x=a5 at *;generalize evR π x=a6 at *
  have e3:a4=(a1*a6+a2*a3)*a4:=by rw [← e1,Rat.one_mul]
  grind
 ·exact .inl ((QsW tg tπ nπ k2 hl).trans k3)
def pwP (π:List Rat):Nat→List Rat
 | 0=>[1]
 | k+1=>muP (pwP π k) π
theorem ev_pw (π:List Rat) (x:Rat):∀ k,evR (pwP π k) x=(evR π x)^k
 | 0=>by rw [pwP,Qb6,Rat.pow_zero]
 | k+1=>by rw [pwP,Qa8,ev_pw π x k,Rat.pow_succ]
theorem Qrj {π:List Rat} (h:Irr π):∀ (n:Nat) (p:List Rat),p.length≤n→Trm p→p≠[]→∃ k v,Trm v∧¬ Dv π v∧∀ x,evR p x=evR (pwP π k) x*evR v x
 | 0,p,hn,_,np=>absurd (List.length_eq_zero_iff.1 (by omega)) np
 | n+1,p,hn,tp,np=>by
  by_cases hd:Dv π p
  ·obtain ⟨s,ts,ns,_,e,hl⟩:=Qmn h.1 tp np hd
   have h2:=h.2.1
   have p1:=List.length_pos_iff.2 ns
   obtain ⟨k,v,tv,nv,hv⟩:=Qrj h n s (by omega) ts ns
   refine ⟨k+1,v,tv,nv,fun x=>?_⟩
   rw [e,Qa8,hv,pwP,Qa8]
   generalize evR (pwP π k) x=a;generalize evR v x=b;generalize evR π x=c
   grind
  ·exact ⟨0,p,tp,hd,fun x=>by rw [pwP,Qb6,Rat.one_mul]⟩
theorem QpY {l m:List Rat} (h:∀ x,evR l x=evR m x) (x:Rat):der l x=der m x:=by
 have e:deP l=deP m:=Qqz (Qdu l) (Qdu m) fun k=>by rw [QqS,QqS,Qor (c:=0) (fun x _=>h x)]
 rw [← QlE,← QlE,e]
theorem der_pow {π v:List Rat}:∀ (j:Nat) (p:List Rat),(∀ x,evR p x=evR (pwP π (j+1)) x*evR v x)→Dv (pwP π j) (deP p)
 | 0,p,_=>Dv.one _
 | j+1,p,h=>by
  have h':∀ x,evR p x=evR (muP (muP (pwP π (j+1)) v) π) x:=fun x=>by
   rw [h,pwP,Qa8,Qa8,Qa8]
   generalize evR (pwP π (j+1)) x=a;generalize evR v x=b;generalize evR π x=c
   grind
  obtain ⟨s,hs⟩:=der_pow (π:=π) (v:=v) j (muP (pwP π (j+1)) v) (fun x=>Qa8 _ _ _)
  refine ⟨adP s (muP v (deP π)),fun x=>?_⟩
  have e1:=hs x
  rw [QlE] at e1
  rw [QlE,QpY h',Qpx,e1,Qa8,Qmo,Qa8,pwP,Qa8,QlE]
  generalize evR (pwP π j) x=a;generalize evR v x=b;generalize evR π x=c;generalize evR s x=d;generalize der π x=e
  grind
theorem rpow_ne {x:Rat} (h:x≠0):∀ k:Nat,x^k≠0
 | 0=>by rw [Rat.pow_zero];decide
 | k+1=>by
  rw [Rat.pow_succ]
  intro h0
  rcases Rat.mul_eq_zero.1 h0 with h1 | h1
  ·exact rpow_ne h k h1
  ·exact h h1
theorem pw_ne {π:List Rat} (tπ:Trm π) (nπ:π≠[]) (k:Nat):∃ x,evR (pwP π k) x≠0:=by
 obtain ⟨x,hx⟩:=ev_ne tπ nπ
 exact ⟨x,by rw [ev_pw];exact rpow_ne hx k⟩
section
variable {p:List Rat}
theorem Qkf (tp:Trm p) (np:p≠[]):gcdP p (deP p)≠[]∧(∀ x,evR p x=evR (quoP p (gcdP p (deP p))) x*evR (gcdP p (deP p)) x)∧quoP p (gcdP p (deP p))≠[]:=by
 have ng:=QsM tp (Qdu p) (.inl np)
 obtain ⟨_,k2,_⟩:=Qio tp (Qdu p)
 have e:=(Qpa Qhq ng k2).2
 exact ⟨ng,e,fun h0=>np (Qmj tp fun x=>by rw [e,h0,QaG,Rat.zero_mul])⟩
theorem Qqh (tp:Trm p) (np:p≠[]):frP p≠[]:=mn_ne (Qip _ _) (Qkf tp np).2.2
theorem QhZ (p:List Rat):Trm (frP p):=Qha _
theorem QjM (tp:Trm p) (np:p≠[]):Dv (frP p) p :=
 (QpA (Qip _ _)).trans ⟨gcdP p (deP p),fun x=>by rw [(Qkf tp np).2.1,Rat.mul_comm]⟩
theorem frP_free (tp:Trm p) (np:p≠[]):gcdP (frP p) (deP (frP p))=[1]:=by
 obtain ⟨ng,e,nF⟩:=Qkf tp np
 obtain ⟨⟨a,b,k1⟩,_,_⟩:=Qio tp (Qdu p)
 have hFf:Dv (frP p) (quoP p (gcdP p (deP p))):=QpA (Qip _ _)
 have nf:=Qqh tp np
 have tf:=QhZ p
 have tg:Trm (gcdP p (deP p)):=Qhq
 generalize gcdP p (deP p)=g at *
 generalize frP p=f at *
 have nh:=QsM tf (Qdu f) (.inl nf)
 have th:Trm (gcdP f (deP f)):=Qhq
 obtain ⟨_,d1,d2⟩:=Qio tf (Qdu f)
 have hp:=List.length_pos_iff.2 nh
 by_cases h2:2≤(gcdP f (deP f)).length
 ·exfalso
  obtain ⟨π,hI,hπ⟩:=irr_ex _ _ (Nat.le_refl _) th h2
  have tπ:=hI.1
  have nπ:=irr_ne hI
  have c1:=hπ.trans d1
  obtain ⟨t,ht⟩:=hπ.trans d2
  obtain ⟨u,tu,nu,_,eu,_⟩:=Qmn tπ tf nf c1
  have hu:Dv π u:=by
   have:Dv π (muP u (deP π)):=⟨sbP t (deP u),fun x=>by
    have e1:=ht x
    rw [QlE,eu,Qpx] at e1
    rw [Qa8,QpN,QlE,QlE]
    generalize der u x=a1 at *;generalize evR π x=a2 at *;generalize evR u x=a3 at *;generalize der π x=a4 at *;generalize evR t x=a5 at *
    grind⟩
   rcases irr_prime hI tu this with h | h
   ·exact h
   ·exfalso
    have l1:=QkO tπ
    have h3:=hI.2.1
    have nd:deP π≠[]:=fun h0=>by rw [h0] at l1;simp only [List.length_nil] at l1;omega
    have:=QfX tπ (Qdu π) nd h
    omega
  obtain ⟨w,hw⟩:=hu
  obtain ⟨s,hs⟩:=hFf
  obtain ⟨k,v,tv,nv,hv⟩:=Qrj hI p.length p (Nat.le_refl _) tp np
  have hsq:∀ x,evR p x=evR s x*(evR w x*evR π x*evR π x)*evR g x:=fun x=>by rw [e,hs,eu,Qa8,hw]
  cases k with
  | zero =>
   refine nv ⟨muP (muP s (muP w π)) g,fun x=>?_⟩
   have e1:=hv x
   rw [pwP,Qb6,Rat.one_mul] at e1
   rw [← e1,hsq,Qa8,Qa8,Qa8]
   generalize evR s x=a1;generalize evR π x=a2;generalize evR w x=a3;generalize evR g x=a4
   grind
  | succ j =>
   obtain ⟨q,hq⟩:=der_pow j p hv
   -- the power before divides g
   have hg:∀ x,evR g x=evR (adP (muP a (muP v π)) (muP b q)) x*evR (pwP π j) x:=fun x=>by
    rw [k1,hv,hq,pwP,Qa8,Qmo,Qa8,Qa8,Qa8]
    generalize evR a x=a1;generalize evR π x=a2;generalize evR v x=a3;generalize evR b x=a4;generalize evR q x=a5;generalize evR (pwP π j) x=a6
    grind
   generalize adP (muP a (muP v π)) (muP b q)=G at *
   refine nv ⟨muP (muP s w) G,fun x=>?_⟩
   have:=Qhf (a:=v) (b:=muP (muP (muP s w) G) π) (c:=muP (pwP π j) π) (by
    obtain ⟨y,hy⟩:=pw_ne tπ nπ (j+1)
    exact ⟨y,hy⟩) (fun x=>by
    have e1:=hv x
    rw [pwP,Qa8,hsq,hg] at e1
    rw [Qa8,Qa8,Qa8,Qa8]
    generalize evR s x=a1 at *;generalize evR π x=a2 at *;generalize evR w x=a3 at *;generalize evR G x=a4 at *;generalize evR v x=a5 at *;generalize evR (pwP π j) x=a6 at *
    grind) x
   rw [this,Qa8]
 ·exact QkR (Qsq tf (Qdu f)) (by omega)
end
end Go.AM

/- Chains of polynomials of at most the second degree; plain. -/
namespace Go.AM
open Go Go.RowKit
theorem trm1 {a:Rat} (h:a≠0):Trm [a]:=fun n hn=>by
 obtain rfl:n=0:=by simp at hn;omega
 exact h
theorem trm2 {a b:Rat} (h:b≠0):Trm [a,b]:=fun n hn=>by
 obtain rfl:n=1:=by simp at hn;omega
 exact h
/-! Constants and lines -/
/-! Squares -/
/-! Changes -/
end Go.AM

/- ref07.Free, Chain at polynomials of at most the second degree: sizes. Halving. -/
namespace Go.AM
open Go Go.RowKit
theorem Qsa {K:Nat}:∀ {l:List Rat},SzL K l→HL (l.length*K) (l.length*K) l
 | [],_=>HL.nil _ _
 | a :: l,h=>by
  obtain ⟨D,h1,h2,h3⟩:=Qsa (l:=l) fun q hq=>h q (List.mem_cons_of_mem _ hq)
  obtain ⟨E,k1,k2,k3⟩:=Qsd (h a (List.mem_cons_self ..))
  have e:(a :: l).length*K=K+l.length*K:=by rw [List.length_cons,Nat.succ_mul];omega
  rw [e]
  refine ⟨E*D,Nat.mul_pos k1 h1,Qdb k2 h2,fun q hq=>?_⟩
  rcases List.mem_cons.1 hq with rfl | hq
  ·exact (k3.lift D).le (Qdb (Nat.le_refl _) h2)
  ·exact ((h3 q hq).lift' E).le (Qdb k2 (Nat.le_refl _))
theorem hl3 {K:Nat} {l:List Rat} (h:SzL K l) (hl:l.length≤3):HL (3*K) (3*K) l :=
 (Qsa h).mono (Nat.mul_le_mul_right _ hl) (Nat.mul_le_mul_right _ hl)
theorem hl21 {l:List Rat} (h:SzL 7000 l) (hl:l.length≤3):HL 21000 21000 l:=by
 obtain ⟨K,hK⟩:∃ K,K=7000:=⟨_,rfl⟩
 rw [← hK] at h
 have:=hl3 h hl
 exact this.mono (by omega) (by omega)
theorem dv_ok {a b:List Rat} (ha:SzL 7000 a) (hb:SzL 7000 b) (na:a.length≤3) (nb:b.length≤3) (tb:Trm b):dvG 800000 b (dvN a b) a∧HL 800000 800000 (quoP a b)∧SzL 800000 (remP a b):=by
 have hm:dvN a b≤4:=by unfold dvN;omega
 have h1:dvN a b*21000≤4*21000:=Nat.mul_le_mul_right _ hm
 have h2:dvN a b*(21000+1)≤4*(21000+1):=Nat.mul_le_mul_right _ hm
 have Ha:=hl21 ha na
 have Hb:=hl21 hb nb
 obtain ⟨x,y,z⟩:=Ql6 (K:=800000) Ha Hb tb (by omega)
 exact ⟨x,z.mono (by omega) (by omega),y.sz.mono (by omega)⟩
theorem ch_done (K n:Nat) (a:List Rat):ChOk K n a []:=by cases n with
 | zero=>exact rfl
 | succ n=>exact .inl rfl
theorem Qrl {n:Nat} {a b:List Rat} (ha:SzL 7000 a) (hb:SzL 7000 b) (na:a.length≤3) (nb:b.length≤3) (tb:Trm b) (h:ChOk 800000 n b (scP (remP a b) (-1))):ChOk 800000 (n+1) a b:=by
 obtain ⟨h1,_,h3⟩:=dv_ok ha hb na nb tb
 exact .inr ⟨tb,by omega,(hl21 hb nb).mono (by omega) (by omega),hb.mono (by omega),h1,h3,h⟩
/-! Halving -/
def hf:Rat:=Rat.divInt 1 2
end Go.AM

/- The seat's iterators: Backward alone. -/
namespace Go.AM
open Go Go.RowKit Go.Proofs

instance itsP:Its:={ it:=fun f ds=>if f=Qag then Qlj ds else none }
instance itsBP:ItsB:=⟨fun _=>if_pos rfl⟩
theorem envP:EnvOk Tryz.prog G:=env_ok fun f ds xs h=>by
  have h':(if f=Qag then Qlj ds else none)=some xs:=h
  split at h'
  · rename_i hf
    rw [hf]
    exact QpI h'
  · cases h'
end Go.AM

/- Iterators whose closures call themselves: a region's operations one by one; calls that yield. -/
namespace Go.AM
open Go Go.RowKit

section
variable {P:Program}
theorem Qrz {n m l:Nat} {args:Array Value} {W:World} {R:Ending→World→Prop} (h:YieldAt Fence.wide n P l args W R):YieldAt Fence.wide m P l args W R:=by
 obtain ⟨fn,t,a,b,h1,h2⟩:=h
 exact ⟨fn,t,a,b,h1,h2.1,fun c cs _=>h2.2 c cs (room_wide _)⟩
theorem QpD {n l:Nat} {args:Array Value} {W:World} {R R':Ending→World→Prop} (h:YieldAt Fence.wide n P l args W R) (hr:∀ e w,R e w→R' e w):YieldAt Fence.wide n P l args W R':=by
 obtain ⟨fn,t,a,b,h1,h2⟩:=h
 exact ⟨fn,t,a,b,h1,h2.mono hr⟩
theorem QmW {n m:Nat} {f:FuncId} {args:Array Value} {W:World} {R:Ending→World→Prop} (h:CallsIn Fence.wide n P f args W R):CallsIn Fence.wide m P f args W R :=
 callsIn_wide.2 (callsIn_wide.1 h)
theorem Answers.any {n m:Nat} {S:Nat→Prop} {w0:World} {l:Nat} {J Jx:Held} {xs:List (List D)} (h:Answers P n S w0 l J Jx xs):Answers P m S w0 l J Jx xs :=
 fun i x L V W args hx hj hr=>Qrz (h i x L V W args hx hj hr)
end

section
variable {S:Nat→Prop} {w0:World} {N n:Nat} {J Jx:Held} {st s:St} {i:Nat} {a a':Act} {W W':World} {P:Program} {Γ:Env}
variable {ops:Array Oper} {os:List O} {R:Ex→Act→World→Prop} {k len:Nat}

def WO (P:Program) (n:Nat) (ops:Array Oper) (R:Ex→Act→World→Prop) (k len:Nat) (a:Act) (W:World):Prop:=wpOpsIn Fence.wide (n+1) P ops (toQ R) (List.range' k len) a W
theorem Qqa (h:R .n a W):WO P n ops R k 0 a W:=h
theorem Qla     (hE:EnvOk P Γ) (hab:QgU   w0 J) (hO:Ops P N ops os) (h:Inv S w0 N J st i a W) {B:List O} (hB:∀ j o,B[j]?=some o→os[k+j]?=some o) (hx:exs (Qah   Γ) B st=some s)
    (hK:∀ a' W',Inv S w0 N J s i a' W'→WO P n ops R (k+B.length) len a' W'):WO P n ops R k (B.length+len) a W:=by
  obtain ⟨m,L,h⟩:=h
  unfold WO
  have hap:=@List.range'_append_1 k B.length len
  rw [← hap]
  refine Qk8 (wd:=⟨W,Live m st.hp,fun _=>none,fun _=>False⟩) (fun f ds r h=>(Qjg hE h).at (QiI QlT _ _)) wide_ok hO _ h.rel (by rw [← QnR B k st hB];exact hx) ?_
  intro m1 a1 W1 R1
  exact hK a1 W1 ⟨m1,L,h.next hab R1⟩
theorem QsF      {o:Oper} {c:Call} {ty f:Nat} {us:List Value} (hoo:ops[k]?=some o) (hop:o.op=.call c) (hce:c.callee=.value (.tmp ty)) (hwant:Region.wanted o (yielded ops a.tmps)=true) (hv:a.eval (.tmp ty)=.func (.func f) #[] us.toArray)
    (hf:∃ fn,P.funcs[f]?=some fn∧fn.body.isSome=true∧fn.name ≠ "runtime.NumGoroutine")
    (hcall:CallsIn Fence.wide 0 P f (c.args.toList.map a.eval++us).toArray W fun e W'=>∃ v,e=.returned v∧WO P n ops R (k+1) len (a.put o.dst v) W'):WO P n ops R k (len+1) a W:=by
  obtain ⟨fn,hfn,hb,hn⟩:=hf
  unfold WO
  rw [List.range'_succ,wpOpsIn_cons]
  unfold wpOpIn
  simp only [hoo,hwant,if_true]
  have hargs':c.args.map a.eval=(c.args.toList.map a.eval).toArray:=by apply Array.ext';simp
  have hexec:(execOp a.eval o).run P W=.ok (.enter f (c.args.toList.map a.eval++us).toArray) W:=by
    simp only [execOp,hop,resolve,hce,hv,Deferred.ofValue,Sem.run_bind,Sem.run_pure,Result.andThen_ok,invoke,hargs']
    rw [Qfw hfn hb hn]
    congr 2
    simp
  refine ⟨fun f _=>trivial, ?_⟩
  rw [Oper.semAt_eq _ _ _ (fun c' h=>by rw [hop] at h;cases h),hexec,Oper.uponIn_enter]
  refine ⟨fun h=>(by cases h), ?_⟩
  refine (QmW hcall).mono ?_
  rintro e W2 ⟨v,rfl,h⟩
  exact h

def OwesY (P:Program) (S:Nat→Prop) (w0:World) (J Jx:Held) (f i mm:Nat) (ds:List D):Prop :=
 ∀ (L V:Nat→Prop) (W:World) (args:List Value),J i L V W→(∀ b,V b→w0.heap.size≤b∧b<W.heap.size)→(∀ b,L b→b<W.heap.size)→w0.heap.size≤W.heap.size →
  RepL (fun b=>(S b∨w0.heap.size≤b)∧b<W.heap.size∧¬ V b∧¬ L b) W ds args →
  CallsIn Fence.wide 0 P f args.toArray W fun e W'=>∃ L',Foot L W W'∧(∀ b,L' b→b<W.heap.size→L b)∧(∀ b,L' b→b<W'.heap.size) ∧
   ((e=.returned (.bool true)∧J (i+mm) L' V W')∨(e=.returned (.bool false)∧∃ i',Jx i' L' V W'))

theorem Inv1.after {m:Key→Nat} {L L':Nat→Prop} {J':Held} {j:Nat} (h:Inv1 S w0 N J st i a W m L) (f1:Foot L W W') (f2:∀ b,L' b→b<W.heap.size→L b) (f3:∀ b,L' b→b<W'.heap.size) (hj:J' j L' (Live m st.hp) W'):Inv1 S w0 N J' st j a W' m L':=by
 have hsz:W.heap.size≤W'.heap.size:=f1.size
 have R2:Rel (fun b=>(S b∨w0.heap.size≤b)∧¬ L' b) N ⟨W',Live m st.hp,fun _=>none,fun _=>False⟩ m st a W' :=
  h.rel.move rfl hsz (fun b hb hs=>⟨hs.1,fun hl=>hs.2 (f2 b hl hb)⟩) (fun b cs T fz hs hh=>by rw [f1.block b (QcO hh) hs.2];exact hh)
   (fun b hb=>⟨.inr (by have:=h.sz;omega),fun hl=>by have:=f3 b hl;omega⟩) (Foot.refl _ _) (fun k o ho hz=>.inl ⟨k,o,ho,hz,rfl⟩) ⟨[],(show Inv S w0 N J st i a W from ⟨m,L,h⟩).nodefer,List.nodup_nil,by simp⟩ (fun k b hb=>by cases hb)
 exact ⟨R2,hj,f3,h.ge,Nat.le_trans h.sz hsz⟩

theorem Qrs     (hO:Ops P N ops os) {d:Option Nat} {ty:Nat} {es:List E} {g:Option (Nat×Bool)} (ho:os[k]?=some ⟨d,.calv (.t ty) es,g⟩) :
    ∃ o c,ops[k]?=some o∧o.op=.call c∧c.callee=.value (.tmp ty)∧mapO QaE c.args.toList=some es∧o.dst=d∧QqT ops o.guard=some g:=by
  have hk:k<os.length:=(List.getElem?_eq_some_iff.1 ho).1
  have hk2:k<ops.size:=by rw [← hO.len];exact hk
  obtain ⟨o2,g2,gc,gd,gg⟩:=hO.at_ k ops[k] (by simp [hk2])
  rw [ho] at g2
  cases g2
  obtain ⟨c,u,k1,k2,k3,k4⟩:=QiK gc
  cases u with
  | tmp u=>simp only [QaE,Option.some.injEq,E.t.injEq] at k3;subst k3;exact ⟨ops[k],c,by simp [hk2],k1,k2,k4,gd.symm,gg⟩
  | _=>simp [QaE] at k3

theorem QkW {m:Key→Nat} {hp:Hp} {T:Nat→Prop} {w:World}:∀ (xs:List D) (vs:List Value),RepAL m hp T w (xs.map A.d) vs→RepL T w xs vs
 | [],vs,hv=>by cases hv;exact .nil
 | y :: ys,vs,hv=>by
  cases hv with
  | cons _ _ v vs hy ht=>exact .cons _ _ _ _ (QgX hy) (QkW ys vs ht)

theorem wo_call (hE:EnvOk P Γ) (hab:QgU   w0 J) (habx:QgU   w0 Jx) (hO:Ops P N ops os) (h:Inv S w0 N J st i a W) {d ty f mm:Nat} {es:List E} {g:Option (Nat×Bool)} {x caps:List D}
    (ho:os[k]?=some ⟨some d,.calv (.t ty) es,g⟩) (hg:Qc1 st g=some true) (h2:st.fr ty=some (.d (.fn f caps))) (h3:allE st es=some (x.map .d))
    (hf:∃ fn,P.funcs[f]?=some fn∧fn.body.isSome=true∧fn.name ≠ "runtime.NumGoroutine") (hcon:OwesY P S w0 J Jx f i mm (x++caps))
    (hKt:∀ a' W',Inv S w0 N J { st with fr:=upd st.fr d (.d (.v (.bool true))) } (i+mm) a' W'→WO P n ops R (k+1) len a' W')
    (hKf:∀ i' a' W',Inv S w0 N Jx { st with fr:=upd st.fr d (.d (.v (.bool false))) } i' a' W'→WO P n ops R (k+1) len a' W'):WO P n ops R k (len+1) a W:=by
  obtain ⟨o,c,hoo,hop,hce,hargs,hd,hgg⟩:=Qrs hO ho
  have hdN:d<N:=hO.lt _ (List.mem_of_getElem? ho) d rfl
  obtain ⟨m,L,h⟩:=h
  have hv:=h.rel.fr ty _ h2
  obtain ⟨us,hus,hrc⟩:∃ us:List Value,a.eval (.tmp ty)=.func (.func f) #[] us.toArray∧RepL (Im (fun b=>(S b∨w0.heap.size≤b)∧¬ L b) m st.hp W) W caps us:=by
    have:=QgX hv
    generalize hz:a.tmps.getD ty undef=z at this
    cases this with
    | fn _ _ vs hl=>exact ⟨vs,hz,hl⟩
  obtain ⟨hrep,_⟩:=Qfn h.rel hargs h3
  have hra:=QkW _ _ hrep
  refine QsF hoo hop hce (Qfd h.rel hgg rfl hg) hus hf ?_
  refine (hcon L (Live m st.hp) W _ h.j (fun b hb=>⟨h.ge b hb, ?_⟩) h.lt h.sz ((hra.append hrc).mono (fun b hb=>⟨hb.1.1,hb.2.1,hb.2.2,hb.1.2⟩) (fun _ _=>rfl))).mono ?_
  · obtain ⟨k,o,ho,hf,rfl⟩:=hb
    exact h.rel.lt ho
  rintro e W2 ⟨L',f1,f2,f3,f4⟩
  have go:∀ (t:Bool) (J':Held) (j:Nat),J' j L' (Live m st.hp) W2→(∀ a' W',Inv S w0 N J' { st with fr:=upd st.fr d (.d (.v (.bool t))) } j a' W'→WO P n ops R (k+1) len a' W')→WO P n ops R (k+1) len (a.put o.dst (.bool t)) W2:=by
    intro t J' j hj hK
    have I2:=h.after f1 f2 f3 hj
    have R3:=I2.rel.put (dst:=some d) (y:=.d (.v (.bool t))) (v:=.bool t) (fun d' hd'=>by cases hd';exact hdN) (.d _ _ (.v _)) trivial
    rw [hd]
    exact hK _ _ ⟨m,L',R3,hj,f3,I2.ge,I2.sz⟩
  rcases f4 with ⟨rfl,hj⟩ | ⟨rfl,i',hj⟩
  · exact ⟨_,rfl,go true J _ hj hKt⟩
  · exact ⟨_,rfl,go false Jx i' hj (hKf i')⟩

theorem QpM {d:Option Nat} {ty k0:Nat} {es:List E} {g:Option (Nat×Bool)} (hk:os[k0]?=some ⟨d,.calv (.t ty) es,g⟩) (h:∀ ops,Ops P N ops os→WO P n ops R 0 os.length a W):WY P N (n+1) (.reg (os.map O.er) []) R a W:=by
  refine QoT (by simp only [Qf1,ne_eq,reduceCtorEq,not_false_eq_true]) fun hw code ho hns hc=>?_
  cases code<;>first | exact absurd rfl (hns _) | (obtain ⟨_,_,_,_,h'⟩:=Qey hc;cases h') | skip
  case region id ops draw =>
    simp only [QaS,Option.bind_eq_some_iff] at hc
    obtain ⟨os',hos,hc⟩:=hc
    have hos':os'=os.map O.er:=by
      split at hc
      · split at hc
        · simp only [Option.map_eq_some_iff,C.reg.injEq] at hc
          obtain ⟨_,_,rfl,_⟩:=hc;rfl
        · cases hc
      · simp only [Option.some.injEq,C.reg.injEq] at hc;exact hc.1
    subst hos'
    have hO:=QnQ (N:=N) hos (by simpa only [C.within] using hw)
    obtain ⟨o,c,hoo,hop,hcal,_,_,_⟩:=Qrs hO hk
    have hdraw:draw=false:=by
      cases draw with
      | false=>rfl
      | true =>
        simp only [okY,Bool.not_true,Bool.false_or,List.all_eq_true] at ho
        have:=ho o (Array.mem_toList_iff.2 (Array.mem_of_getElem? hoo))
        rw [hop] at this
        simp only [hcal] at this
        cases this
    subst hdraw
    refine wpIn_region ?_
    have h1:=h ops hO
    rw [hO.len] at h1
    rw [List.range_eq_range']
    exact h1
  all_goals simp [QaS,Option.bind_eq_some_iff] at hc
end

/-! ### Seen from the callee -/
def Under (W:World) (L0 V0:Nat→Prop) (J:Held):Held:=fun i L V W'=>J i L (fun b=>V b∨V0 b) W'∧Foot L0 W W'∧(∀ b,L b→b<W.heap.size→L0 b)∧(∀ b,L b→b<W'.heap.size)∧(∀ b,V b→W.heap.size≤b)
def SIn (S:Nat→Prop) (w0 W:World) (L0 V0:Nat→Prop) (b:Nat):Prop:=(S b∨w0.heap.size≤b)∧b<W.heap.size∧¬ V0 b∧¬ L0 b
section
variable {S:Nat→Prop} {w0 W:World} {L0 V0:Nat→Prop} {J Jx:Held} {P:Program} {n l:Nat} {xs:List (List D)}
theorem Under.abide (hab:QgU w0 J) (hV0:∀ b,V0 b→w0.heap.size≤b∧b<W.heap.size) (hsz:w0.heap.size≤W.heap.size):QgU W (Under W L0 V0 J):=by
 rintro i L V V' W1 W2 ⟨h1,h2,h3,h4,h5⟩ hf hv1 hv2
 have z1:W.heap.size≤W1.heap.size:=h2.size
 have z2:W1.heap.size≤W2.heap.size:=hf.size
 refine ⟨hab i L _ _ W1 W2 h1 (hf.mono fun b _ hb=>.inl hb) ?_ ?_, ?_,h3,fun b hb=>Nat.lt_of_lt_of_le (h4 b hb) z2,fun b hb=>(hv2 b hb).1⟩
 ·rintro b (hb | hb) hlt
  ·exact .inl (hv1 b hb hlt)
  ·exact .inr hb
 ·rintro b (hb | hb)
  ·exact ⟨by have:=(hv2 b hb).1;omega,(hv2 b hb).2⟩
  ·have:=hV0 b hb
   exact ⟨this.1,by omega⟩
 ·exact h2.trans hf (fun b hb=>.inr (h5 b hb))
theorem Under.answers (hans:Answers P n S w0 l J Jx xs) (hV0:∀ b,V0 b→w0.heap.size≤b∧b<W.heap.size) (hsz:w0.heap.size≤W.heap.size):Answers P n (SIn S w0 W L0 V0) W l (Under W L0 V0 J) (Under W L0 V0 Jx) xs:=by
 rintro i x L V W1 args hx ⟨h1,h2,h3,h4,h5⟩ hr
 have z1:W.heap.size≤W1.heap.size:=h2.size
 refine QpD (hans i x L _ W1 args hx h1 (hr.mono (fun b hb=>?_) (fun _ _=>rfl))) ?_
 ·obtain ⟨hb1,hb2,hb3,hb4⟩:=hb
  rcases hb1 with hb1 | hb1
  ·exact ⟨hb1.1,hb2,fun h=>h.elim hb3 hb1.2.2.1,hb4⟩
  ·exact ⟨.inr (by omega),hb2,fun h=>h.elim hb3 (fun h=>by have:=(hV0 b h).2;omega),hb4⟩
 ·rintro e W2 ⟨L',f1,f2,f3,f4⟩
  have g:∀ (J':Held),J' (i+1) L' (fun b=>V b∨V0 b) W2→Under W L0 V0 J' (i+1) L' V W2:=fun J' hj =>
   ⟨hj,h2.trans f1 (fun b hb=>if hlt:b<W.heap.size then .inl (h3 b hb hlt) else .inr (by omega)),fun b hb hlt=>h3 b (f2 b hb (by omega)) hlt,f3,h5⟩
  refine ⟨L',f1,f2,f3, ?_⟩
  rcases f4 with ⟨rfl,hj⟩ | ⟨rfl,hj⟩
  ·exact .inl ⟨rfl,g J hj⟩
  ·exact .inr ⟨rfl,g Jx hj⟩
end
section
variable {P:Program} {Γ:Env}
theorem owes_ok (hE:EnvOk P Γ) {f:Nat} {cf:CF} {fn:Func} {ds:List D} {xs:List (List D)} {n l i mm:Nat} {S:Nat→Prop} {w0:World} {J Jx:Held} (hf:P.funcs[f]?=some fn) (hc:QjV   P fn=some cf.er) (hok:∀ b,fn.body=some b→okY b=true) (hnp:cf.np=ds.length)
    (hab:QgU w0 J) (habx:QgU w0 Jx) (hans:Answers P n S w0 l J Jx xs)
    (hwalk:∀ (S:Nat→Prop) (w0:World) (J Jx:Held) (a:Act) (W:World),QgU w0 J→QgU w0 Jx→Answers P n S w0 l J Jx xs→Inv S w0 fn.ntmps J ⟨argF 0 ds,hp0,[]⟩ i a W →
      WY P fn.ntmps (n+1) cf.body.er (fun e a' W'=>(∀ id,e≠.x id)∧((∃ st,resL st cf.res=some [.d (.v (.bool true))]∧Inv S w0 fn.ntmps J st (i+mm) a' W')∨∃ st i',resL st cf.res=some [.d (.v (.bool false))]∧Inv S w0 fn.ntmps Jx st i' a' W')) a W):OwesY P S w0 J Jx f i mm ds:=by
  simp only [QjV,Option.bind_eq_some_iff] at hc
  obtain ⟨body,hb,c,hcc,hc⟩:=hc
  split at hc
  · rename_i hchk
    simp only [Bool.and_eq_true,decide_eq_true_eq,bne_iff_ne,ne_eq] at hchk
    obtain ⟨⟨hw,hsz⟩,hname⟩:=hchk
    simp only [Option.map_eq_some_iff] at hc
    obtain ⟨rs,hrs,hcf'⟩:=hc
    have e1:cf.np=fn.params.size+fn.nfree:=(congrArg CF.np hcf').symm
    have e2:c=cf.body.er:=congrArg CF.body hcf'
    have e3:rs=cf.res:=congrArg CF.res hcf'
    subst e2
    rw [e3] at hrs
    intro L V W vs hj hV0 hL0 hsz0 hrep
    have hvl:vs.length=ds.length:=hrep.length.symm
    have hN:((vs.toArray:Array Value)++Array.replicate (fn.ntmps-(vs.toArray:Array Value).size) undef).size=fn.ntmps:=by simp;omega
    refine QmW (callsIn_of_wp (n:=n+1) (F:=Fence.wide) hf hb trivial ?_)
    have hR:Inv (SIn S w0 W L V) W fn.ntmps (Under W L V J) ⟨argF 0 ds,hp0,[]⟩ i { tmps:=(vs.toArray:Array Value)++Array.replicate (fn.ntmps-(vs.toArray:Array Value).size) undef,defers:=[] } W:=by
      have hSm:∀ b,((S b∨w0.heap.size≤b)∧b<W.heap.size∧¬ V b∧¬ L b)→Im (fun b=>(SIn S w0 W L V b∨W.heap.size≤b)∧¬ L b) (fun _=>0) hp0 W b:=fun b hb=>⟨⟨.inl hb,hb.2.2.2⟩,hb.2.1,fun ⟨_,_,h,_⟩=>by simp [hp0] at h⟩
      have hV:(fun b=>Live (fun _=>0) hp0 b∨V b)=V:=by
        funext b;exact propext ⟨fun h=>h.elim (fun ⟨_,_,h,_⟩=>by simp [hp0] at h) id,.inr⟩
      refine ⟨fun _=>0,L,⟨⟨fun i x hx=>?_,fun _ _ h=>by simp [hp0] at h,fun _ _ _ _ h=>by simp [hp0] at h,fun i x hx=>?_,fun _ _ _ h=>by simp [hp0] at h,fun _ _ h=>by simp [hp0] at h,fun _ _ h=>by simp [hp0] at h,Foot.refl _ _,Marks.nil _ _ _,hN,fun b hb=>⟨.inr hb,fun hl=>by have:=hL0 b hl;omega⟩,fun _ _ h=>by cases h⟩, ?_,hL0,fun b ⟨_,_,h,_⟩=>by simp [hp0] at h,Nat.le_refl _⟩⟩
      · obtain ⟨_,d,hd,rfl⟩:=QhC ds 0 i x hx
        obtain ⟨v,hv,hdv⟩:=hrep.get i d (by simpa using hd)
        have:((vs.toArray:Array Value)++Array.replicate (fn.ntmps-(vs.toArray:Array Value).size) undef).getD i undef=v:=by
          have hil:i<vs.length:=(List.getElem?_eq_some_iff.1 hv).1
          rw [Array.getD_eq_getD_getElem?,Array.getElem?_append_left (by simpa using hil)]
          simp [hv]
        rw [this]
        exact .d _ _ (hdv.mono hSm (fun _ _=>rfl))
      · obtain ⟨_,d,_,rfl⟩:=QhC ds 0 i x hx
        trivial
      · refine ⟨?_,Foot.refl _ _,fun b hb _=>hb,hL0,fun b ⟨_,_,h,_⟩=>by simp [hp0] at h⟩
        show J i L (fun b=>Live (fun _=>0) hp0 b∨V b) W
        rw [hV];exact hj
    refine wpIn_mono (hwalk _ W _ _ _ W (Under.abide hab hV0 hsz0) (Under.abide habx hV0 hsz0) (Under.answers hans hV0 hsz0) hR hw body (hok body hb) hcc) ?_
    intro e a' W' hq
    have key:∀ (t:Bool) (J':Held) (j:Nat) (st:St),QgU w0 J'→resL st cf.res=some [.d (.v (.bool t))]→Inv (SIn S w0 W L V) W fn.ntmps (Under W L V J') st j a' W'→a'.defers=[]∧(results fn a'.tmps).run P W'=.ok (.bool t) W'∧∃ L',Foot L W W'∧(∀ b,L' b→b<W.heap.size→L b)∧(∀ b,L' b→b<W'.heap.size)∧J' j L' V W':=by
      intro t J' j st hab' hr hI
      refine ⟨hI.nodefer, ?_, ?_⟩
      · obtain ⟨m,L',hI⟩:=hI
        obtain ⟨us,k1,k2,_⟩:=QiE hI.rel hrs hr
        cases k2 with
        | cons _ _ v vs' hv ht =>
          cases ht
          have:=Qfv hv
          subst this
          exact QhG k1
      · obtain ⟨m,L',hI⟩:=hI
        obtain ⟨h1,h2,h3,h4,h5⟩:=hI.j
        exact ⟨L',h2,h3,h4,hab' j L' _ _ W' W' h1 (Foot.refl _ _) (fun b hb _=>.inr hb) (fun b hb=>⟨(hV0 b hb).1,Nat.lt_of_lt_of_le (hV0 b hb).2 h2.size⟩)⟩
    have fin : ((∃ st, resL st cf.res = some [.d (.v (.bool true))] ∧ Inv (SIn S w0 W L V) W fn.ntmps (Under W L V J) st (i + mm) a' W') ∨ ∃ st i', resL st cf.res = some [.d (.v (.bool false))] ∧ Inv (SIn S w0 W L V) W fn.ntmps (Under W L V Jx) st i' a' W') →
        a'.defers=[]∧∃ v,(results fn a'.tmps).run P W'=.ok v W'∧∃ L',Foot L W W'∧(∀ b,L' b→b<W.heap.size→L b)∧(∀ b,L' b→b<W'.heap.size)∧((Ending.returned v=.returned (.bool true)∧J (i+mm) L' V W')∨(Ending.returned v=.returned (.bool false)∧∃ i',Jx i' L' V W')):=by
      rintro (⟨st,hr,hI⟩ | ⟨st,i',hr,hI⟩)
      · obtain ⟨h1,h2,L',h3,h4,h5,h6⟩:=key true J _ st hab hr hI
        exact ⟨h1,_,h2,L',h3,h4,h5,.inl ⟨rfl,h6⟩⟩
      · obtain ⟨h1,h2,L',h3,h4,h5,h6⟩:=key false Jx _ st habx hr hI
        exact ⟨h1,_,h2,L',h3,h4,h5,.inr ⟨rfl,i',h6⟩⟩
    cases e with
    | normal=>exact fin hq.2
    | ret=>exact fin hq.2
    | exit id=>exact absurd rfl (hq.1 id)
    | _=>exact hq.elim
  · cases hc
end
end Go.AM

/- sturm.zeros' closure that calls itself. -/
namespace Go.AM
open Go Go.RowKit Go.Proofs
def C.fst7:C→C
 | .seq a _=>a
 | .blk _ a=>a
 | .loop a=>a
 | c=>c
def C.snd7:C→C
 | .seq _ b=>b
 | c=>c
def wtZ (K:Nat) (ps:List (List Rat)):Nat→Rat×Rat→Option (List (Rat×Rat))
  | 0,_=>none
  | n + 1, l => if sz l.1 ≤ K ∧ sz l.2 ≤ K then
      if cnt ps l.1 l.2=0 then some [] else if cnt ps l.1 l.2=1 then some [l]
      else (wtZ K ps n (l.1,mid l.1 l.2)).bind fun a=>(wtZ K ps n (mid l.1 l.2,l.2)).map (a++·)
    else none
def zr_A:C:=sturm_zeros_1_1.body.fst7
def zr_B:C:=sturm_zeros_1_1.body.snd7.fst7.fst7
def zr_blk:C:=sturm_zeros_1_1.body.snd7.fst7.snd7.fst7.fst7
def zr_C:C:=zr_blk.fst7
def QlU:C:=zr_blk.snd7
def zr_D:C:=match QlU with | .cond _ a _=>a.fst7 | c=>c
def zr_E:C:=match QlU with | .cond _ _ b=>b.fst7 | c=>c
def zr_M:C:=sturm_zeros_1_1.body.snd7.snd7.fst7
def zr_Y1:List O:=[⟨some 17,.load none (.t 2),none⟩,⟨some 18,.load (some 8) (.t 4),none⟩]
def zr_Y2:List O:=[⟨some 5,.mov (.t 19),none⟩]
def zr_V1:List O:=[⟨some 22,.load none (.t 3),none⟩,⟨some 23,.fad 0 (.t 4),none⟩,⟨some 24,.load (some 4) (.t 23),none⟩,⟨some 25,.load (some 4) (.t 6),none⟩,
 ⟨some 26,.build [.v (.bool false),.z true,.v (.bool false),.z true,.v (.bool false),.z true,.v (.bool false),.z true] [(0,4,(.t 24)),(4,4,(.t 25))],none⟩]
def QqC:List O:=[⟨some 28,.mov (.t 27),none⟩,⟨some 29,.load none (.t 3),some (28,true)⟩,⟨some 30,.load (some 4) (.t 6),some (28,true)⟩,⟨some 31,.fad 4 (.t 4),some (28,true)⟩,⟨some 32,.load (some 4) (.t 31),some (28,true)⟩,
 ⟨some 33,.build [.v (.bool false),.z true,.v (.bool false),.z true,.v (.bool false),.z true,.v (.bool false),.z true] [(0,4,(.t 30)),(4,4,(.t 32))],some (28,true)⟩]
def Qql:List O:=[⟨some 35,.pick (.t 28) (.t 34) (.c (.v (.bool false))),none⟩,⟨some 5,.mov (.t 35),none⟩]
def zr_V:List O:=zr_V1++⟨some 27,.calv (.t 22) [.t 26],none⟩ :: (QqC++⟨some 34,.calv (.t 29) [.t 33],some (28,true)⟩ :: Qql)
theorem zr_shape:sturm_zeros_1_1.body.er=.seq zr_A.er (.seq (.seq zr_B.er (.blk 0 (.seq zr_C.er (.cond (.t 13) (.seq zr_D.er .ret) (.seq zr_E.er (.cond (.t 15) (.seq (.reg ((zr_Y1++⟨some 19,.calv (.t 17) [.t 18],none⟩ :: zr_Y2).map O.er) []) .ret) .skip)))))) (.seq zr_M.er (.seq (.reg (zr_V.map O.er) []) .ret))):=rfl
def vpre (dc:D) (y:Nat):List D:=[.rp [dc],.rp [yv y]]
def bxZ (l:Rat×Rat):Obj:=⟨0,0,(c2R l).map .d,false⟩
def Qrn (dc:D) (y:Nat) (l:Rat×Rat):List D:=[enc2 l,.rp [dc],.rp [yv y],.rc Qaq (vpre dc y)]
section
variable [Its] {dc:D} {y:Nat} {l:Rat×Rat} {ps:List (List Rat)}
def zr_s1 (dc:D) (y:Nat) (l:Rat×Rat):St:=mkS [(1,.d (.rp [dc])),(2,.d (.rp [yv y])),(3,.d (.rc Qaq (vpre dc y))),(4,.ptr [4] 0)] [([4],bxZ l)]
def zr_s2 (dc:D) (y:Nat) (l:Rat×Rat) (n:Int):St:=mkS [(2,.d (.rp [yv y])),(3,.d (.rc Qaq (vpre dc y))),(4,.ptr [4] 0),(12,ai n)] [([4],bxZ l)]
def Qts (dc:D) (y:Nat) (l:Rat×Rat) (n:Int) (b:Bool):St:=mkS [(2,.d (.rp [yv y])),(3,.d (.rc Qaq (vpre dc y))),(4,.ptr [4] 0),(12,ai n),(13,ab b)] [([4],bxZ l)]
def QoI (dc:D) (y:Nat) (l:Rat×Rat) (b:Bool):St:=mkS [(2,.d (.rp [yv y])),(3,.d (.rc Qaq (vpre dc y))),(4,.ptr [4] 0),(15,ab b)] [([4],bxZ l)]
def Qng (dc:D) (y:Nat) (l:Rat×Rat) (m:Rat):St:=mkS [(3,.d (.rc Qaq (vpre dc y))),(4,.ptr [4] 0),(6,.ptr [6] 0)] [([4],bxZ l),([6],boxR m)]
theorem zr_a:X G zr_A ⟨argF 0 (Qrn dc y l),hp0,[]⟩=some (.n,zr_s1 dc y l):=by
 obtain ⟨lo,hi⟩:=l
 simp -implicitDefEqProofs (maxSteps:=9^8) only [zr_A,sturm_zeros_1_1,C.fst7,Qrn,zr_s1,bxZ,enc2,c2R,argF,yv,go_sem,iv,bv,reduceCtorEq,↓reduceIte,Nat.reduceEqDiff]
theorem zr_b [ItsB] (hr:RwC dc ps) (hn:ps.length≤1000) {K:Nat} (hs:∀ p∈ps,SzL K p∧p.length*(2*K+1)≤40000000000) (h1:sz l.1≤K) (h2:sz l.2≤K) (hK:K≤1000000000):X G zr_B (zr_s1 dc y l)=some (.n,zr_s2 dc y l (cnt ps l.1 l.2)):=by
 have g:=Qi0 hr hn hs h1 h2 hK
 generalize cnt ps l.1 l.2=c at *
 obtain ⟨lo,hi⟩:=l
 simp only [encR,iv] at g
 simp -implicitDefEqProofs (maxSteps:=9^8) only [zr_B,sturm_zeros_1_1,C.fst7,C.snd7,zr_s1,zr_s2,bxZ,c2R,yv,g,Qlq,Qk7,QkG,List.map_cons,List.map_nil,go_sem,iv,bv,reduceCtorEq,↓reduceIte,Nat.reduceEqDiff]
theorem zr_c {n:Int}:X G zr_C (zr_s2 dc y l n)=some (.n,Qts dc y l n (n==0)):=by
 obtain ⟨lo,hi⟩:=l
 simp -implicitDefEqProofs (maxSteps:=9^8) only [zr_C,zr_blk,sturm_zeros_1_1,C.fst7,C.snd7,zr_s2,Qts,bxZ,c2R,yv,List.map_cons,List.map_nil,go_sem,iv,bv,reduceCtorEq,↓reduceIte,Nat.reduceEqDiff]
theorem zr_d {n:Int}:X G zr_D (Qts dc y l n true)=some (.n,mkS [(5,ab true)] []):=by
 obtain ⟨lo,hi⟩:=l
 simp -implicitDefEqProofs (maxSteps:=9^8) only [zr_D,QlU,zr_blk,sturm_zeros_1_1,C.fst7,C.snd7,Qts,bxZ,c2R,yv,Qaa,List.map_cons,List.map_nil,go_sem,iv,bv,reduceCtorEq,↓reduceIte,Nat.reduceEqDiff]
theorem zr_e {n:Int}:X G zr_E (Qts dc y l n false)=some (.n,QoI dc y l (n==1)):=by
 obtain ⟨lo,hi⟩:=l
 simp -implicitDefEqProofs (maxSteps:=9^8) only [zr_E,QlU,zr_blk,sturm_zeros_1_1,C.fst7,C.snd7,Qts,QoI,bxZ,c2R,yv,Qaa,List.map_cons,List.map_nil,go_sem,iv,bv,reduceCtorEq,↓reduceIte,Nat.reduceEqDiff]
theorem zr_m (h1:sz l.1≤1000000000) (h2:sz l.2≤1000000000):X G (.seq (.keep [3,4] [[4]]) zr_M) (QoI dc y l false)=some (.n,Qng dc y l (mid l.1 l.2)):=by
 have g:=Qjf h1 h2
 generalize mid l.1 l.2=m at *
 obtain ⟨lo,hi⟩:=l
 simp only [encR,enc2,c2R,iv] at g
 simp -implicitDefEqProofs (maxSteps:=9^8) only [zr_M,sturm_zeros_1_1,C.fst7,C.snd7,QoI,Qng,bxZ,boxR,c2R,yv,g,st4q,ld8q,Qaa,List.map_cons,List.map_nil,go_sem,iv,bv,reduceCtorEq,↓reduceIte,Nat.reduceEqDiff]
def zr_fn (dc:D) (y:Nat):D:=.fn Qaq (vpre dc y++[.rc Qaq (vpre dc y)])
def Qrw (dc:D) (y:Nat) (l:Rat×Rat) (m:Rat):St:=⟨upd (upd (upd (upd (upd (Qng dc y l m).fr 22 (.d (zr_fn dc y))) 23 (.ptr [4] 0)) 24 (.d (encR l.1))) 25 (.d (encR m))) 26 (.d (enc2 (l.1,m))),(Qng dc y l m).hp,[]⟩
def Qtl (dc:D) (y:Nat) (l:Rat×Rat) (m:Rat) (t:Bool):St:={ Qrw dc y l m with fr:=upd (Qrw dc y l m).fr 27 (.d (.v (.bool t))) }
def zr_s7 (dc:D) (y:Nat) (l:Rat×Rat) (m:Rat):St:=⟨upd (upd (upd (upd (upd (upd (Qtl dc y l m true).fr 28 (.d (.v (.bool true)))) 29 (.d (zr_fn dc y))) 30 (.d (encR m))) 31 (.ptr [4] 4)) 32 (.d (encR l.2))) 33 (.d (enc2 (m,l.2))),(Qng dc y l m).hp,[]⟩
def zr_t7 (dc:D) (y:Nat) (l:Rat×Rat) (m:Rat) (t:Bool):St:={ zr_s7 dc y l m with fr:=upd (zr_s7 dc y l m).fr 34 (.d (.v (.bool t))) }
def Qp6 (dc:D) (y:Nat) (l:Rat×Rat):St:=⟨upd (upd (QoI dc y l true).fr 17 (.d (yv y))) 18 (.d (enc2 l)),(QoI dc y l true).hp,[]⟩
theorem zr_py:exs (Qah G) zr_Y1 (QoI dc y l true)=some (Qp6 dc y l):=by
 obtain ⟨lo,hi⟩:=l
 simp -implicitDefEqProofs (maxSteps:=9^8) only [zr_Y1,Qp6,QoI,bxZ,enc2,c2R,yv,Qlq,ld8q,List.map_cons,List.map_nil,go_sem,iv,bv,reduceCtorEq,↓reduceIte,Nat.reduceEqDiff]
theorem zr_qy (t:Bool):exs (Qah G) zr_Y2 { Qp6 dc y l with fr:=upd (Qp6 dc y l).fr 19 (.d (.v (.bool t))) }=some ⟨upd (upd (Qp6 dc y l).fr 19 (.d (.v (.bool t)))) 5 (.d (.v (.bool t))),(Qp6 dc y l).hp,[]⟩:=by
 obtain ⟨lo,hi⟩:=l
 simp -implicitDefEqProofs (maxSteps:=9^8) only [zr_Y2,Qp6,QoI,bxZ,enc2,c2R,yv,List.map_cons,List.map_nil,go_sem,iv,bv,reduceCtorEq,↓reduceIte,Nat.reduceEqDiff]
theorem zr_v1 {m:Rat}:exs (Qah G) zr_V1 (Qng dc y l m)=some (Qrw dc y l m):=by
 obtain ⟨lo,hi⟩:=l
 simp -implicitDefEqProofs (maxSteps:=9^8) only [zr_V1,Qng,Qrw,zr_fn,bxZ,boxR,enc2,encR,c2R,yv,Qoy,ld4q,Qk7,QkG,QdY,QbY,List.map_cons,List.map_nil,go_sem,iv,bv,reduceCtorEq,↓reduceIte,Nat.reduceEqDiff]
theorem zr_v2 {m:Rat}:exs (Qah G) QqC (Qtl dc y l m true)=some (zr_s7 dc y l m):=by
 obtain ⟨lo,hi⟩:=l
 simp -implicitDefEqProofs (maxSteps:=9^8) only [QqC,Qtl,Qng,Qrw,zr_s7,zr_fn,bxZ,boxR,enc2,encR,c2R,yv,Qoy,ld4q,Qk7,QkG,QdY,QbY,List.map_cons,List.map_nil,go_sem,iv,bv,reduceCtorEq,↓reduceIte,Nat.reduceEqDiff]
theorem zr_v3 {m:Rat} (t:Bool):∃ s,exs (Qah G) Qql (zr_t7 dc y l m t)=some s∧resL s sturm_zeros_1_1.res=some [.d (.v (.bool t))]:=by
 obtain ⟨lo,hi⟩:=l
 refine ⟨_,by
  simp -implicitDefEqProofs (maxSteps:=9^8) only [Qql,zr_t7,Qtl,Qng,Qrw,zr_s7,bxZ,boxR,c2R,List.map_cons,List.map_nil,go_sem,iv,bv,reduceCtorEq,↓reduceIte,Nat.reduceEqDiff]
  rfl,rfl⟩
theorem zr_vf {m:Rat}:∃ s,exs (Qah G) (QqC++⟨some 34,.calv (.t 29) [.t 33],some (28,true)⟩ :: Qql) (Qtl dc y l m false)=some s∧resL s sturm_zeros_1_1.res=some [.d (.v (.bool false))]:=by
 obtain ⟨lo,hi⟩:=l
 refine ⟨_,by
  simp -implicitDefEqProofs (maxSteps:=9^8) only [QqC,Qql,Qtl,Qng,Qrw,bxZ,boxR,c2R,List.cons_append,List.nil_append,List.map_cons,List.map_nil,go_sem,iv,bv,reduceCtorEq,↓reduceIte,Nat.reduceEqDiff]
  rfl,rfl⟩
end
end Go.AM

/- sturm.zeros' closure that calls itself: what a call owes. -/
namespace Go.AM
open Go Go.RowKit Go.Proofs
theorem vis_okY:∀ b,Tryz.f111.body=some b→okY b=true:=by
 intro b hb
 have:(Tryz.f111.body.map okY)=some true:=by kernel_rfl
 rw [hb] at this
 simpa using this
theorem vis_fn:∃ fn,Tryz.prog.funcs[Qaq]?=some fn∧fn.body.isSome=true∧fn.name ≠ "runtime.NumGoroutine" := ⟨_,Tryz.func111,by kernel_rfl,by
 have:(Tryz.f111.name == "runtime.NumGoroutine")=false:=by kernel_rfl
 exact fun h=>by rw [h] at this;simp at this⟩
theorem zr_len:zr_V.length=zr_V1.length+10:=rfl
theorem vis_ok {dc:D} {ps:List (List Rat)} {xs:List (List D)} {y n:Nat} {K:Nat} (hr:RwC dc ps) (hn:ps.length≤1000) (hs:∀ p∈ps,SzL K p∧p.length*(2*K+1)≤40000000000) (hK:K≤1000000000):∀ (k:Nat) (l:Rat×Rat) (r:List (Rat×Rat)) (i:Nat) (S:Nat→Prop) (w0:World) (J Jx:Held),
    wtZ K ps k l=some r→(∀ j q,r[j]?=some q→xs[i+j]?=some [enc2 q])→QgU w0 J→QgU w0 Jx→Answers Tryz.prog n S w0 y J Jx xs→OwesY Tryz.prog S w0 J Jx Qaq i r.length (Qrn dc y l)
  | 0,l,r,i,S,w0,J,Jx,hw,_,_,_,_=>by cases hw
  | k+1,l,r,i,S,w0,J,Jx,hw,hx,hab,habx,hans=>by
    rw [wtZ] at hw
    split at hw
    · rename_i hz
      refine owes_ok envP Tryz.func111 Qg5 vis_okY rfl hab habx hans ?_
      intro S w0 J Jx a W hab habx hans hI
      have hE:EnvOk Tryz.prog G:=envP
      rw [zr_shape]
      refine WY.seq ?_
      refine Inv.code hE hab hI rfl rfl zr_a ?_
      intro a1 W1 I1
      simp only [↓reduceIte]
      refine WY.seq (WY.seq ?_)
      refine Inv.code hE hab I1 rfl rfl (zr_b hr hn hs hz.1 hz.2 hK) ?_
      intro a2 W2 I2
      simp only [↓reduceIte]
      refine WY.blk (WY.seq ?_)
      refine Inv.code hE hab I2 rfl rfl zr_c ?_
      intro a3 W3 I3
      simp only [↓reduceIte]
      refine WY.cond (t:=cnt ps l.1 l.2==0) (I3.bool rfl) (fun ht=>?_) (fun ht=>?_)
      · rw [ht] at I3
        have h0:cnt ps l.1 l.2=0:=by simpa using ht
        rw [if_pos h0] at hw
        cases hw
        refine WY.seq (Inv.code hE hab I3 rfl rfl zr_d ?_)
        intro a4 W4 I4
        simp only [↓reduceIte]
        refine WY.ret ?_
        simp only [reduceCtorEq,↓reduceIte]
        exact ⟨fun _ h=>(by cases h),.inl ⟨_,rfl,I4⟩⟩
      · rw [ht] at I3
        have h0:cnt ps l.1 l.2≠0:=by simpa using ht
        rw [if_neg h0] at hw
        refine WY.seq (Inv.code hE hab I3 rfl rfl zr_e ?_)
        intro a4 W4 I4
        simp only [↓reduceIte]
        refine WY.cond (t:=cnt ps l.1 l.2==1) (I4.bool rfl) (fun ht1=>?_) (fun ht1=>?_)
        · rw [ht1] at I4
          have h1:cnt ps l.1 l.2=1:=by simpa using ht1
          rw [if_pos h1] at hw
          cases hw
          refine WY.seq ?_
          refine Inv.yield hE hab habx hans I4 (pre:=zr_Y1) (post:=zr_Y2) (d:=19) (ty:=17) (es:=[.t 18]) (s1:=Qp6 dc y l) (x:=[enc2 l]) zr_py rfl rfl (by have:=hx 0 l rfl;simpa using this) (zr_qy true) (zr_qy false) ?_ ?_
          · intro a5 W5 I5
            simp only [↓reduceIte]
            refine WY.ret ?_
            simp only [reduceCtorEq,↓reduceIte]
            exact ⟨fun _ h=>(by cases h),.inl ⟨_,rfl,I5⟩⟩
          · intro a5 W5 I5
            simp only [↓reduceIte]
            refine WY.ret ?_
            simp only [reduceCtorEq,↓reduceIte]
            exact ⟨fun _ h=>(by cases h),.inr ⟨_,_,rfl,I5⟩⟩
        · rw [ht1] at I4
          have h1:cnt ps l.1 l.2≠1:=by simpa using ht1
          rw [if_neg h1] at hw
          simp only [Option.bind_eq_some_iff,Option.map_eq_some_iff] at hw
          obtain ⟨r1,hw1,r2,hw2,rfl⟩:=hw
          refine WY.skip ?_
          simp only [reduceCtorEq,↓reduceIte]
          refine WY.seq (Inv.code hE hab I4 (c:=.seq (.keep [3,4] [[4]]) zr_M) rfl rfl (zr_m (by omega) (by omega)) ?_)
          intro a5 W5 I5
          simp only [↓reduceIte]
          have hfin : ∀ {t : Bool} {J' : Held} {s : St} {j : Nat} {a' : Act} {W' : World}, resL s sturm_zeros_1_1.res = some [.d (.v (.bool t))] → Inv S w0 Tryz.f111.ntmps J' s j a' W' →
              ((t=true∧J'=J∧j=i+(r1++r2).length)∨(t=false∧J'=Jx))→WY Tryz.prog Tryz.f111.ntmps (n+1) .ret (fun e a' W'=>(∀ id,e≠.x id)∧((∃ st,resL st sturm_zeros_1_1.res=some [.d (.v (.bool true))]∧Inv S w0 Tryz.f111.ntmps J st (i+(r1++r2).length) a' W')∨∃ st i',resL st sturm_zeros_1_1.res=some [.d (.v (.bool false))]∧Inv S w0 Tryz.f111.ntmps Jx st i' a' W')) a' W':=by
            intro t J' s j a' W' hres hI' hc
            refine WY.ret ⟨fun _ h=>(by cases h), ?_⟩
            rcases hc with ⟨rfl,rfl,rfl⟩ | ⟨rfl,rfl⟩
            · exact .inl ⟨_,hres,hI'⟩
            · exact .inr ⟨_,_,hres,hI'⟩
          refine WY.seq (QpM (os:=zr_V) (k0:=5) rfl fun ops hO=>?_)
          rw [zr_len]
          have hx1:∀ j q,r1[j]?=some q→xs[i+j]?=some [enc2 q]:=fun j q hq=>hx j q (by rw [List.getElem?_append_left (List.getElem?_eq_some_iff.1 hq).1];exact hq)
          have hx2:∀ j q,r2[j]?=some q→xs[i+r1.length+j]?=some [enc2 q]:=fun j q hq=>by
            have:=hx (r1.length+j) q (by rw [List.getElem?_append_right (by omega)];simpa using hq)
            rwa [← Nat.add_assoc] at this
          refine Qla hE hab hO I5 (B:=zr_V1) (fun j o hj=>by
            rw [Nat.zero_add,zr_V,List.getElem?_append_left (List.getElem?_eq_some_iff.1 hj).1];exact hj) zr_v1 ?_
          intro a6 W6 I6
          refine wo_call hE hab habx hO I6 (k:=5) (len:=9) (d:=27) (ty:=22) (es:=[.t 26]) (g:=none) (x:=[enc2 (l.1,mid l.1 l.2)]) (caps:=vpre dc y++[.rc Qaq (vpre dc y)]) rfl rfl rfl rfl vis_fn
            (vis_ok hr hn hs hK k _ r1 i S w0 J Jx hw1 hx1 hab habx hans) ?_ ?_
          · intro a7 W7 I7
            refine Qla hE hab hO I7 (k:=6) (len:=3) (B:=QqC) (fun j o hj=>?_) zr_v2 ?_
            · have hj6:j<6:=(List.getElem?_eq_some_iff.1 hj).1
              rw [← hj]
              match j,hj6 with
              | 0,_=>rfl
              | 1,_=>rfl
              | 2,_=>rfl
              | 3,_=>rfl
              | 4,_=>rfl
              | 5,_=>rfl
            intro a8 W8 I8
            refine wo_call hE hab habx hO I8 (k:=12) (len:=2) (d:=34) (ty:=29) (es:=[.t 33]) (g:=some (28,true)) (x:=[enc2 (mid l.1 l.2,l.2)]) (caps:=vpre dc y++[.rc Qaq (vpre dc y)]) rfl rfl rfl rfl vis_fn
              (vis_ok hr hn hs hK k _ r2 (i+r1.length) S w0 J Jx hw2 hx2 hab habx hans) ?_ ?_
            · intro a9 W9 I9
              obtain ⟨s,h1,h2⟩:=zr_v3 (dc:=dc) (y:=y) (l:=l) (m:=mid l.1 l.2) true
              refine Qla hE hab hO I9 (k:=13) (len:=0) (B:=Qql) (fun j o hj=>?_) h1 ?_
              · have hj6:j<2:=(List.getElem?_eq_some_iff.1 hj).1
                rw [← hj]
                match j,hj6 with
                | 0,_=>rfl
                | 1,_=>rfl
              intro a10 W10 I10
              refine Qqa ?_
              simp only [↓reduceIte]
              exact hfin h2 I10 (.inl ⟨rfl,rfl,by rw [List.length_append,Nat.add_assoc]⟩)
            · intro i' a9 W9 I9
              obtain ⟨s,h1,h2⟩:=zr_v3 (dc:=dc) (y:=y) (l:=l) (m:=mid l.1 l.2) false
              refine Qla hE habx hO I9 (k:=13) (len:=0) (B:=Qql) (fun j o hj=>?_) h1 ?_
              · have hj6:j<2:=(List.getElem?_eq_some_iff.1 hj).1
                rw [← hj]
                match j,hj6 with
                | 0,_=>rfl
                | 1,_=>rfl
              intro a10 W10 I10
              refine Qqa ?_
              simp only [↓reduceIte]
              exact hfin h2 I10 (.inr ⟨rfl,rfl⟩)
          · intro i' a7 W7 I7
            obtain ⟨s,h1,h2⟩:=zr_vf (dc:=dc) (y:=y) (l:=l) (m:=mid l.1 l.2)
            refine Qla hE habx hO I7 (k:=6) (len:=0) (B:=QqC++⟨some 34,.calv (.t 29) [.t 33],some (28,true)⟩ :: Qql) (fun j o hj=>?_) h1 ?_
            · have hj6:j<9:=(List.getElem?_eq_some_iff.1 hj).1
              rw [← hj]
              match j,hj6 with
              | 0,_=>rfl
              | 1,_=>rfl
              | 2,_=>rfl
              | 3,_=>rfl
              | 4,_=>rfl
              | 5,_=>rfl
              | 6,_=>rfl
              | 7,_=>rfl
              | 8,_=>rfl
            intro a8 W8 I8
            refine Qqa ?_
            simp only [↓reduceIte]
            exact hfin h2 I8 (.inr ⟨rfl,rfl⟩)
    · cases hw
end Go.AM

/- sturm.zeros' iterator: what it yields. -/
namespace Go.AM
open Go Go.RowKit Go.Proofs
def zo_A:C:=sturm_zeros_1.body.fst7
def zo_B:C:=sturm_zeros_1.body.snd7.fst7
def zo_C:C:=.reg [⟨some 5,.mkfn Qaq [.t 1,.t 3,.t 4] false,none⟩,⟨none,.store 1 (.t 4) (.t 5),none⟩] []
def zo_D1:List O:=[⟨some 6,.load none (.t 4),none⟩,⟨some 7,.load (some 8) (.t 2),none⟩]
def zo_D:List O:=zo_D1++[⟨some 8,.calv (.t 6) [.t 7],none⟩]
theorem zo_shape:sturm_zeros_1.body.er=.seq zo_A.er (.seq zo_B.er (.seq zo_C.er (.reg (zo_D.map O.er) []))):=rfl
def QpF (dc:D):A:=.fn Qaq [.d (.rp [dc]),.ptr [3] 0,.ptr [4] 0]
def QcN (dc:D) (l:Rat×Rat):List D:=[.rp [dc],.rp (c2R l)]
theorem yc_c (y:Nat):QaH (.d (.v (.func (.yield y) #[] #[])))=[.d (.v (.func (.yield y) #[] #[]))]:=rfl
theorem yc_o (y:Nat):A.one (.d (.v (.func (.yield y) #[] #[])))=true:=rfl
theorem nf_c:QaH (.d (.v .nilFunc))=[.d (.v .nilFunc)]:=rfl
theorem nf_o:A.one (.d (.v .nilFunc))=true:=rfl
theorem fc_c (f:Nat) (xs:List A):QaH (.fn f xs)=[.fn f xs]:=rfl
theorem fc_o (f:Nat) (xs:List A):A.one (.fn f xs)=true:=rfl
theorem loadA_rp7 (h:Hp) (sz:Option Nat) (cs:List D):Qco h sz (.d (.rp cs))=QkU sz cs:=rfl
section
variable [Its] {dc:D} {y:Nat} {l:Rat×Rat}
def zo_s1 (dc:D) (y:Nat) (l:Rat×Rat):St:=mkS [(1,.d (.rp [dc])),(2,.d (.rp (c2R l))),(3,.ptr [3] 0)] [([3],⟨0,0,[.d (yv y)],false⟩)]
def QqU (dc:D) (y:Nat) (l:Rat×Rat):St:=mkS [(1,.d (.rp [dc])),(2,.d (.rp (c2R l))),(3,.ptr [3] 0),(4,.ptr [4] 0)] [([3],⟨0,0,[.d (yv y)],false⟩),([4],⟨0,0,[.d (.v .nilFunc)],false⟩)]
def Qt9 (dc:D) (y:Nat) (l:Rat×Rat):St:=⟨upd (QqU dc y l).fr 5 (QpF dc),hupd (QqU dc y l).hp [4] ⟨0,0,[QpF dc],false⟩,[]⟩
def QtX (dc:D) (y:Nat) (l:Rat×Rat):St:=⟨upd (upd (Qt9 dc y l).fr 6 (QpF dc)) 7 (.d (enc2 l)),(Qt9 dc y l).hp,[]⟩
theorem zo_a:X G zo_A ⟨argF 0 (yv y :: QcN dc l),hp0,[]⟩=some (.n,zo_s1 dc y l):=by
 obtain ⟨lo,hi⟩:=l
 simp -implicitDefEqProofs (maxSteps:=9^8) only [zo_A,sturm_zeros_1,C.fst7,C.snd7,QcN,zo_s1,c2R,argF,yv,yc_c,yc_o,Qdo,refs,List.all_cons,List.all_nil,Bool.and_true,go_sem,iv,bv,reduceCtorEq,↓reduceIte,Nat.reduceEqDiff]
theorem zo_b:X G zo_B (zo_s1 dc y l)=some (.n,QqU dc y l):=by
 obtain ⟨lo,hi⟩:=l
 simp -implicitDefEqProofs (maxSteps:=9^8) only [zo_B,sturm_zeros_1,C.fst7,C.snd7,zo_s1,QqU,c2R,yv,yc_c,yc_o,nf_c,nf_o,fc_c,fc_o,Qdo,refs,List.all_cons,List.all_nil,Bool.and_true,List.map_cons,List.map_nil,go_sem,iv,bv,reduceCtorEq,↓reduceIte,Nat.reduceEqDiff]
theorem zo_c:X G zo_C (QqU dc y l)=some (.n,Qt9 dc y l):=by
 obtain ⟨lo,hi⟩:=l
 simp -implicitDefEqProofs (maxSteps:=9^8) only [zo_C,QqU,Qt9,QpF,c2R,yv,allD,QaH,Qac,yc_c,yc_o,nf_c,nf_o,fc_c,fc_o,Qdo,refs,List.all_cons,List.all_nil,Bool.and_true,List.map_cons,List.map_nil,go_sem,iv,bv,reduceCtorEq,↓reduceIte,Nat.reduceEqDiff]
theorem zo_d:exs (Qah G) zo_D1 (Qt9 dc y l)=some (QtX dc y l):=by
 obtain ⟨lo,hi⟩:=l
 simp -implicitDefEqProofs (maxSteps:=9^8) only [zo_D1,QqU,Qt9,QtX,QpF,enc2,c2R,yv,Qab,loadA_rp7,yc_c,yc_o,nf_c,nf_o,fc_c,fc_o,Qdo,refs,List.all_cons,List.all_nil,Bool.and_true,List.map_cons,List.map_nil,go_sem,iv,bv,reduceCtorEq,↓reduceIte,Nat.reduceEqDiff]
end
end Go.AM

/- sturm.zeros' iterator: what it owes. -/
namespace Go.AM
open Go Go.RowKit Go.Proofs
theorem zo_okY:∀ b,Tryz.f110.body=some b→okY b=true:=by
 intro b hb
 have:(Tryz.f110.body.map okY)=some true:=by kernel_rfl
 rw [hb] at this
 simpa using this
theorem rep_fn3 {m:Key→Nat} {hp:Hp} {T:Nat→Prop} {w:World} {f:Nat} {x1 x2 x3:A} {z:Value} (h:RepA m hp T w (.fn f [x1,x2,x3]) z):∃ q1 q2 q3,z=.func (.func f) #[] [q1,q2,q3].toArray∧RepA m hp T w x1 q1∧RepA m hp T w x2 q2∧RepA m hp T w x3 q3:=by
 cases h with
 | fn _ _ vs hl =>
  cases hl with
  | cons _ _ q1 _ h1 t =>
   cases t with
   | cons _ _ q2 _ h2 t =>
    cases t with
    | cons _ _ q3 _ h3 t =>
     cases t
     exact ⟨q1,q2,q3,rfl,h1,h2,h3⟩
theorem Qob {m:Key→Nat} {hp:Hp} {T:Nat→Prop} {w:World} {k:Key} {off:Nat} {o:Obj} {v:Value} (h:RepA m hp T w (.ptr k off) v) (ho:hp k=some o):v=.pointer (some ⟨m k,off,none⟩):=by
 cases h with
 | ptr _ _ _ _ hv=>exact hv o ho
theorem QnZ {w:World} {b:Nat} {cs:Array Value} {T:TypeId} {fz:Nat×Nat} {v:Value} (h:w.heap[b]?=some (Go.Obj.cells cs T fz)) (hv:cs[0]?=some v):w.cell? ⟨b,0,none⟩=some v:=by
 rw [Lib.cell_of_heap h];exact hv
theorem Inv.empty {S:Nat→Prop} {w0 W W':World} {N:Nat} {J J':Held} {st:St} {i j:Nat} {a:Act} {m:Key→Nat} {L L':Nat→Prop} (h:Inv1 S w0 N J st i a W m L) (f1:Foot L W W') (f3:∀ b,L' b→b<W'.heap.size) (hj:J' j L' (fun _=>False) W') (dst:Option Nat) (v:Value):Inv S w0 N J' ⟨fr0,hp0,[]⟩ j (a.put dst v) W':=by
 have hV:(fun b=>Live m hp0 b)=fun _=>False:=by
  funext b;exact propext ⟨fun ⟨_,_,h,_⟩=>by simp [hp0] at h,False.elim⟩
 have hnd:(a.put dst v).defers=[]:=by
  have:=(show Inv S w0 N J st i a W from ⟨m,L,h⟩).nodefer
  cases dst<;>exact this
 have hts:(a.put dst v).tmps.size=N:=by
  have:=h.rel.ts
  cases dst with
  | none=>exact this
  | some d=>simpa [Act.put] using this
 refine ⟨m,L',⟨⟨fun _ _ hx=>(by cases hx),fun _ _ h=>(by cases h),fun _ _ _ _ h=>(by cases h),fun _ _ h=>(by cases h),fun _ _ _ h=>(by cases h),fun _ _ h=>(by cases h),fun _ _ h=>(by cases h),Foot.refl _ _,(by rw [hnd];exact Marks.nil _ _ _),hts,fun b hb=>⟨.inr (by have:=h.sz;have:=f1.size;omega),fun hl=>by have:=f3 b hl;omega⟩,fun _ _ h=>(by cases h)⟩, ?_,f3,fun b ⟨_,_,h,_⟩=>(by cases h),Nat.le_trans h.sz f1.size⟩⟩
 show J' j L' (fun b=>Live m hp0 b) W'
 rw [hV];exact hj
theorem zeros_it {dc:D} {ps:List (List Rat)} {l:Rat×Rat} {r:List (Rat×Rat)} {K k:Nat} (hr:RwC dc ps) (hn:ps.length≤1000) (hs:∀ p∈ps,SzL K p∧p.length*(2*K+1)≤40000000000) (hK:K≤1000000000) (hw:wtZ K ps k l=some r):ItOk Tryz.prog QaI (QcN dc l) (r.map fun q=>[enc2 q]):=by
 refine it_ok envP Tryz.func110 Qh6 zo_okY rfl rfl ?_
 intro n y S w0 J Jx a W hab habx hans hI
 have hE:EnvOk Tryz.prog G:=envP
 rw [zo_shape]
 refine WY.seq (Inv.code hE hab hI rfl rfl zo_a ?_)
 intro a1 W1 I1
 simp only [↓reduceIte]
 refine WY.seq (Inv.code hE hab I1 rfl rfl zo_b ?_)
 intro a2 W2 I2
 simp only [↓reduceIte]
 refine WY.seq (Inv.code hE hab I2 rfl rfl zo_c ?_)
 intro a3 W3 I3
 simp only [↓reduceIte]
 refine QpM (os:=zo_D) (k0:=2) rfl fun ops hO=>?_
 refine Qla hE hab hO I3 (B:=zo_D1) (len:=1) (fun j o hj=>by
  rw [Nat.zero_add,zo_D,List.getElem?_append_left (List.getElem?_eq_some_iff.1 hj).1];exact hj) zo_d ?_
 rintro a4 W4 ⟨m,L,h⟩
 obtain ⟨o,c,hoo,hop,hce,hargs,hd,hgg⟩:=Qrs hO (k:=2) (show zo_D[2]?=some ⟨some 8,.calv (.t 6) [.t 7],none⟩ from rfl)
 obtain ⟨q1,q3,q4,hz,h1,h3,h4⟩:=rep_fn3 (h.rel.fr 6 (QpF dc) rfl)
 have ho3:(QtX dc y l).hp [3]=some ⟨0,0,[.d (yv y)],false⟩:=rfl
 have ho4:(QtX dc y l).hp [4]=some ⟨0,0,[QpF dc],false⟩:=rfl
 obtain ⟨cs3,T3,z3,O3⟩:=h.rel.obj [3] _ ho3
 obtain ⟨cs4,T4,z4,O4⟩:=h.rel.obj [4] _ ho4
 obtain ⟨v3,c3,r3⟩:=O3.rep 0 (.d (yv y)) rfl
 obtain ⟨v4,c4,r4⟩:=O4.rep 0 (QpF dc) rfl
 obtain ⟨p1,p3,p4,hp,g1,g3,g4⟩:=rep_fn3 r4
 have e3:=Qob h3 ho3
 have e4:=Qob h4 ho4
 have e3':=Qob g3 ho3
 have e4':=Qob g4 ho4
 have ev:v3=.func (.yield y) #[] #[]:=Qfv r3
 subst e3 e4 e3' e4' ev hp
 obtain ⟨hrep,_⟩:=Qfn h.rel hargs (show allE (QtX dc y l) [.t 7]=some ([enc2 l].map .d) from rfl)
 have hra:=QkW _ _ hrep
 have hm:∀ b,Im (fun b=>(S b∨w0.heap.size≤b)∧¬ L b) m (QtX dc y l).hp W4 b→((S b∨w0.heap.size≤b)∧b<W4.heap.size∧¬ (fun _=>False) b∧¬ L b):=fun b hb=>⟨hb.1.1,hb.2.1,id,hb.1.2⟩
 have s3:=h.rel.ge [3] _ ho3
 have s4:=h.rel.ge [4] _ ho4
 have t3:=h.rel.lt ho3
 have t4:=h.rel.lt ho4
 have cy:RepD (fun b=>(S b∨w0.heap.size≤b)∧b<W4.heap.size∧¬ (fun _=>False) b∧¬ L b) W4 (.rp [yv y]) (.pointer (some ⟨m [3],0,none⟩)):=by
  refine .rp [yv y] ⟨m [3],0,none⟩ [.func (.yield y) #[] #[]] ⟨s3.1,t3,id,s3.2⟩ (.cons _ _ _ _ (.v _) .nil) ?_
  intro j v hj
  match j with
  | 0=>cases hj;exact QnZ O3.at_ c3
  | j+1=>cases hj
 have cv:RepD (fun b=>(S b∨w0.heap.size≤b)∧b<W4.heap.size∧¬ (fun _=>False) b∧¬ L b) W4 (.rc Qaq (vpre dc y)) (.pointer (some ⟨m [4],0,none⟩)) :=
  .rc Qaq (vpre dc y) ⟨m [4],0,none⟩ [p1,.pointer (some ⟨m [3],0,none⟩)] ⟨s4.1,t4,id,s4.2⟩ (.cons _ _ _ _ ((QgX g1).mono (w':=W4) hm (fun _ _=>rfl)) (.cons _ _ _ _ cy .nil)) (QnZ O4.at_ c4)
 have hra':=hra.mono (w':=W4) hm (fun _ _=>rfl)
 have hd1:=(QgX h1).mono (w':=W4) hm (fun _ _=>rfl)
 have hrl:=hra'.append (RepL.cons _ _ _ _ hd1 (RepL.cons _ _ _ _ cy (RepL.cons _ _ _ _ cv RepL.nil)))
 have hJ:J 0 L (fun _=>False) W4:=hab 0 L _ _ W4 W4 h.j (Foot.refl _ _) (fun _ hb=>hb.elim) (fun _ hb=>hb.elim)
 have O:=vis_ok hr hn hs hK k l r 0 S w0 J Jx hw (fun j q hq=>by rw [Nat.zero_add,List.getElem?_map,hq];rfl) hab habx hans L (fun _=>False) W4 _ hJ (fun _ hb=>hb.elim) h.lt h.sz hrl
 refine QsF (len:=0) hoo hop hce (Qfd h.rel hgg rfl rfl) hz vis_fn (O.mono ?_)
 rintro e W5 ⟨L',f1,f2,f3,f4⟩
 have hlen:(r.map fun q=>[enc2 q]).length=r.length:=List.length_map ..
 rcases f4 with ⟨rfl,hj⟩ | ⟨rfl,i',hj⟩
 ·refine ⟨_,rfl,Qqa ⟨fun _ h=>(by cases h),.inl ⟨⟨fr0,hp0,[]⟩, ?_⟩⟩⟩
  rw [hlen]
  rw [Nat.zero_add] at hj
  exact Inv.empty h f1 f3 hj _ _
 ·exact ⟨_,rfl,Qqa ⟨fun _ h=>(by cases h),.inr ⟨⟨fr0,hp0,[]⟩,i',Inv.empty h f1 f3 hj _ _⟩⟩⟩
end Go.AM

/- The seat's iterators: Backward and sturm.zeros. -/
namespace Go.AM
open Go Go.RowKit Go.Proofs
theorem RwC.inj {d:D} {ps qs:List (List Rat)} (h:RwC d ps) (h':RwC d qs):ps=qs:=by
  obtain ⟨ds,h1,h2,h3⟩:=h
  obtain ⟨es,k1,k2,k3⟩:=h'
  have e:ds=es:=by
    rcases h3 with rfl | ⟨rfl,rfl⟩
    · rcases k3 with k3 | ⟨k3,_⟩
      · simp only [D.row.injEq] at k3;exact k3.2
      · cases k3
    · rcases k3 with k3 | ⟨_,rfl⟩
      · cases k3
      · rfl
  subst e
  refine List.ext_getElem (by omega) fun i hi hj=>?_
  have:=(h2 i hi).inj (k2 i hj)
  simpa [List.getD_eq_getElem?_getD,List.getElem?_eq_getElem hi,List.getElem?_eq_getElem hj] using this
theorem c2R_inj {l m:Rat×Rat} (h:c2R l=c2R m):l=m:=by
 obtain ⟨a,b⟩:=l
 obtain ⟨c,d⟩:=m
 simp only [c2R,List.cons.injEq,D.v.injEq,Value.bool.injEq,true_and,and_true] at h
 obtain ⟨h1,h2,h3,h4,h5,h6⟩:=h
 rw [Qqw h1 h2 h3,Qqw h4 h5 h6]
theorem Qoj {K:Nat} {ps:List (List Rat)}:∀ (k k':Nat) (l:Rat×Rat) (r r':List (Rat×Rat)),wtZ K ps k l=some r→wtZ K ps k' l=some r'→r=r'
 | 0,_,_,_,_,h,_=>by cases h
 | k+1,0,_,_,_,_,h=>by cases h
 | k+1,k'+1,l,r,r',h,h'=>by
  rw [wtZ] at h h'
  by_cases hz:sz l.1≤K∧sz l.2≤K
  ·rw [if_pos hz] at h h'
   by_cases h0:cnt ps l.1 l.2=0
   ·rw [if_pos h0] at h h';cases h;cases h';rfl
   ·rw [if_neg h0] at h h'
    by_cases h1:cnt ps l.1 l.2=1
    ·rw [if_pos h1] at h h';cases h;cases h';rfl
    ·rw [if_neg h1] at h h'
     simp only [Option.bind_eq_some_iff,Option.map_eq_some_iff] at h h'
     obtain ⟨a,a1,b,b1,rfl⟩:=h
     obtain ⟨a',a1',b',b1',rfl⟩:=h'
     rw [Qoj k k' _ a a' a1 a1',Qoj k k' _ b b' b1 b1']
  ·rw [if_neg hz] at h;cases h
def KZ:Nat:=1000000000
def ZOk (ds:List D) (xs:List (List D)):Prop:=∃ dc ps l r k,ds=QcN dc l∧RwC dc ps∧ps.length≤1000∧(∀ p∈ps,SzL KZ p∧p.length*(2*KZ+1)≤40000000000)∧wtZ KZ ps k l=some r∧xs=r.map fun q=>[enc2 q]
theorem ZOk.uniq {ds:List D} {xs ys:List (List D)} (h:ZOk ds xs) (h':ZOk ds ys):xs=ys:=by
 obtain ⟨dc,ps,l,r,k,e,h1,_,_,h2,rfl⟩:=h
 obtain ⟨dc',ps',l',r',k',e',h1',_,_,h2',rfl⟩:=h'
 rw [e] at e'
 simp only [QcN,List.cons.injEq,D.rp.injEq,and_true] at e'
 obtain ⟨rfl,e2⟩:=e'
 have:=c2R_inj e2
 subst this
 have:=h1.inj h1'
 subst this
 rw [Qoj k k' l r r' h2 h2']
open Classical in
noncomputable abbrev itsZ:Its:={ it:=fun f ds=>if f=Qag then Qlj ds else if f=QaI then (if h:∃ xs,ZOk ds xs then some (Classical.choose h) else none) else none }
theorem itsBZ:@ItsB itsZ:=@ItsB.mk itsZ fun _=>if_pos rfl
open Classical in
theorem itsZ_at {dc:D} {ps:List (List Rat)} {l:Rat×Rat} {r:List (Rat×Rat)} {k:Nat} (h1:RwC dc ps) (h2:ps.length≤1000) (h3:∀ p∈ps,SzL KZ p∧p.length*(2*KZ+1)≤40000000000) (h4:wtZ KZ ps k l=some r):(@G itsZ).it QaI (QcN dc l)=some (r.map fun q=>[enc2 q]):=by
 have ho:ZOk (QcN dc l) (r.map fun q=>[enc2 q]):=⟨dc,ps,l,r,k,rfl,h1,h2,h3,h4,rfl⟩
 have hex:∃ xs,ZOk (QcN dc l) xs:=⟨_,ho⟩
 show (if QaI=Qag then Qlj (QcN dc l) else if QaI=QaI then (if h:∃ xs,ZOk (QcN dc l) xs then some (Classical.choose h) else none) else none)=_
 rw [if_neg (by decide),if_pos rfl,dif_pos hex]
 exact congrArg some ((Classical.choose_spec hex).uniq ho)
open Classical in
theorem envZ:EnvOk Tryz.prog (@G itsZ):=@env_ok itsZ (fun f ds xs h=>by
  have h':(if f=Qag then Qlj ds else if f=QaI then (if h:∃ xs,ZOk ds xs then some (Classical.choose h) else none) else none)=some xs:=h
  split at h'
  · rename_i hf
    rw [hf]
    exact QpI h'
  · split at h'
    · rename_i hf
      split at h'
      · rename_i hex
        cases h'
        obtain ⟨dc,ps,l,r,k,e,h1,h2,h3,h4,h5⟩:=Classical.choose_spec hex
        rw [hf,h5,e]
        exact zeros_it h1 h2 h3 (by unfold KZ;omega) h4
      · cases h'
    · cases h') (fun _ _=>rfl)
end Go.AM

