/- Part 10 of the proof: a small machine, its soundness against the model, and what the program's functions compute on it. -/
import Derived.Test.YtbbemgfheagobaaGreatM9
import Derived.Test.YtbbemgfheagobaaGreatM8
import Derived.Test.YtbbemgfheagobaaGreatM7
set_option linter.unusedVariables false
set_option linter.unusedSimpArgs false
/- slices.Collect over sturm.zeros; sturm.zeros; sturm.Isolate. -/
namespace Go.AM
open Go Go.RowKit Go.Proofs
def cAs:List (Rat×Rat)→List D
 | []=>[]
 | l :: r=>c2R l++cAs r
def rowA (r:List (Rat×Rat)):D:=.row r.length (cAs r)
theorem cAs_len:∀ r,(cAs r).length=r.length*8
 | []=>rfl
 | l :: r=>by rw [cAs,List.length_append,cAs_len r,List.length_cons];simp [c2R];omega
theorem cAs_app:∀ r s,cAs (r++s)=cAs r++cAs s
 | [],s=>rfl
 | l :: r,s=>by rw [List.cons_append,cAs,cAs,cAs_app r s,List.append_assoc]
theorem c2R_one (l:Rat×Rat):(c2R l).all D.one=true:=by
 simp only [c2R,List.all_cons,List.all_nil,Bool.and_true,Bool.and_eq_true]
 exact ⟨rfl,QiZ _,rfl,QiZ _,rfl,QiZ _,rfl,QiZ _⟩
def gHs (r:List (Rat×Rat)):List (Key×Obj):=if r=[] then [([2],⟨0,0,[.d (.z true)],false⟩)] else [([2],⟨0,0,[.own [11] r.length],false⟩),([11],⟨8,r.length,(cAs r).map .d,false⟩)]
def Qpp:Fr:=frL [(2,.ptr [2] 0)]
theorem rep1_8A (a b c d e f g h:D):rep 1 [a,b,c,d,e,f,g,h]=[a,b,c,d,e,f,g,h]:=rfl
theorem ldn1 (a:A):Qab none 0 [a]=some a:=rfl
theorem stn1 (a b:A):Qac 0 [b] [a]=some [b]:=rfl
theorem own_c (k:Key) (n:Nat):QaH (.own k n)=[.own k n]:=rfl
theorem own_o (k:Key) (n:Nat):A.one (.own k n)=true:=rfl
theorem Qn3 (ks:List Key):∀ r:List D,Qdo ks (r.map A.d)=true
 | []=>rfl
 | x :: r=>by simp only [List.map_cons,Qdo,refs,Qn3 ks r,Bool.and_self]
variable [Its]
theorem as_round (q:Rat×Rat) (r:List (Rat×Rat)) (hr:r.length≤100000) (xs:List (List D)) :
    Qds (X G) [7] slices_AppendSeq_2_api_Rat_2_api_Rat_a0 slices_AppendSeq_2_api_Rat_2_api_Rat_b0 Qpp [] ([enc2 q] :: xs) (hpL (gHs r))=Qds (X G) [7] slices_AppendSeq_2_api_Rat_2_api_Rat_a0 slices_AppendSeq_2_api_Rat_2_api_Rat_b0 Qpp [] xs (hpL (gHs (r++[q]))):=by
  have e0:gHs (r++[q])=[([2],⟨0,0,[.own [11] (r.length+1)],false⟩),([11],⟨8,r.length+1,((cAs r++c2R q).map .d),false⟩)]:=by
    unfold gHs
    rw [if_neg (by simp),List.length_append,List.length_singleton,cAs_app]
    simp only [cAs,List.append_nil]
  rw [e0]
  have o1:=c2R_one q
  have n8:(c2R q).length=8:=rfl
  have nr:=cAs_len r
  by_cases h0:r=[]
  · subst h0
    have hb:(128≤bound)=True:=eq_true (by unfold bound;omega)
    have hb1:(1*128≤bound)=True:=eq_true (by unfold bound;omega)
    obtain ⟨lo,hi⟩:=q
    simp only [c2R] at o1 n8
    simp -implicitDefEqProofs (maxSteps:=9^8) only [Qds,slices_AppendSeq_2_api_Rat_2_api_Rat_a0,slices_AppendSeq_2_api_Rat_2_api_Rat_b0,Qpp,gHs,enc2,c2R,cAs,hb,hb1,o1,n8,putL,rep1_8A,st8q,ld8q,ldn1,stn1,own_c,own_o,Qn3,Qaa,srcS,src,allD,List.map_cons,List.map_nil,List.length_nil,Nat.zero_add,List.nil_append,go_sem,iv,bv,reduceCtorEq,↓reduceIte,Nat.reduceEqDiff]
  · have e1:gHs r=[([2],⟨0,0,[.own [11] r.length],false⟩),([11],⟨8,r.length,(cAs r).map .d,false⟩)]:=if_neg h0
    rw [e1]
    have n3:((cAs r).map A.d).length=r.length*8:=by rw [List.length_map,nr]
    have n4:((r.length+1)*128≤bound)=True:=eq_true (by unfold bound;omega)
    have n5:(cAs r).map A.d++(c2R q).map A.d=(cAs r++c2R q).map A.d:=(List.map_append ..).symm
    obtain ⟨lo,hi⟩:=q
    simp only [c2R,List.map_cons,List.map_nil] at o1 n8 n5
    simp -implicitDefEqProofs (maxSteps:=9^8) only [Qds,slices_AppendSeq_2_api_Rat_2_api_Rat_a0,slices_AppendSeq_2_api_Rat_2_api_Rat_b0,Qpp,enc2,c2R,n3,n4,n5,o1,n8,putL,rep1_8A,st8q,ld8q,ldn1,stn1,own_c,own_o,Qn3,Qaa,srcS,src,allD,List.map_cons,List.map_nil,go_sem,iv,bv,reduceCtorEq,↓reduceIte,Nat.reduceEqDiff]
end Go.AM

/- sturm.Bound, ref07.Bound. -/
namespace Go.AM
open Go Go.RowKit
def abR (q:Rat):Rat:=if q<0 then -q else q
def bdQ (p:List Rat) (i:Nat):Rat:=p.getD i 0/p.getD (p.length-1) 0
def bdF (p:List Rat):Nat→Rat
 | 0=>0
 | i+1=>if bdF p i<abR (bdQ p i) then abR (bdQ p i) else bdF p i
def bdR (p:List Rat):Rat:=bdF p (p.length-1)+1
theorem abR_sz (q:Rat):sz (abR q)=sz q:=by
 unfold abR
 split
 ·exact QrN q
 ·rfl
theorem bdQ_sz {p:List Rat} {K:Nat} (sp:SzL K p) (hK:1≤K) (i:Nat):sz (bdQ p i)≤2*K:=by
 unfold bdQ
 have h1:=sp.getD hK i
 have h2:=sp.getD hK (p.length-1)
 have h3:=Qnk (a:=p.getD i 0) (b:=p.getD (p.length-1) 0)
 omega
theorem Qnw {p:List Rat} {K:Nat} (sp:SzL K p) (hK:1≤K):∀ i,sz (bdF p i)≤2*K
 | 0=>by rw [bdF,Qic];omega
 | i+1=>by
  rw [bdF]
  split
  ·rw [abR_sz];exact bdQ_sz sp hK i
  ·exact Qnw sp hK i
def boxZ:Obj:=⟨0,0,[.d (.v (.bool false)),.d (.z true),.d (.v (.bool false)),.d (.z true)],false⟩
def Qmb (d:D) (mo:Rat) (n i:Int):St:=mkS [(0,.d d),(2,.ptr [2] 0),(3,.ptr [3] 0),(8,ai n),(9,ai i)] [([2],boxZ),([3],boxR mo)]
def Qo1 (mo:Rat):St:=mkS [(2,.ptr [2] 0),(3,.ptr [3] 0)] [([2],boxZ),([3],boxR mo)]
def Qnj (d:D) (mo:Rat) (i:Int):St:=mkS [(0,.d d),(2,.ptr [2] 0),(3,.ptr [3] 0),(4,ai i)] [([2],boxZ),([3],boxR mo)]
theorem boxR_0:boxR 0=boxZ:=by
 have ez:decide ((0:Rat).num<0)=false:=rfl
 have ez2:dg (digs (0:Rat).num.natAbs)=.z true:=by rw [Rat.zero_num,show (0:Int).natAbs=0 from rfl,Qax];rfl
 have ez3:dg (dd (0:Rat).den)=.z true:=rfl
 rw [boxR,ez,ez2,ez3];rfl
section
variable [Its] {d:D} {p:List Rat} {K:Nat}
theorem bs_go (hr:RwR d p) (np:p.length≤1000) (sp:SzL K p) (hK1:1≤K) (hK:K≤10000000000) {i:Nat} (hi:i+1<p.length) {mo:Rat} (hm:sz mo≤2*K) :
    X G Qbx (Qmb d mo ((p.length-1:Nat):Int) i)=some (.n,Qmb d (if mo<abR (bdQ p i) then abR (bdQ p i) else mo) ((p.length-1:Nat):Int) ((i+1:Nat):Int)):=by
  have e1:decide ((i:Int)<((p.length-1:Nat):Int))=true:=lt_t (by omega)
  have e2:w64 ((p.length:Int)-1)=((p.length-1:Nat):Int):=by rw [Qae (by omega) (by omega)];omega
  have e3:w64 ((i:Int)+1)=((i+1:Nat):Int):=by rw [Qae (by omega) (by omega)];rfl
  have ll:=hr.len
  have hl:p.length-1<p.length:=by omega
  have x1:=hr.ixa hl
  have y1:=fun h=>ldR h p hl
  have x2:=hr.ixa (show i<p.length by omega)
  have y2:=fun h=>ldR h p (show i<p.length by omega)
  have s1:=sp.getD hK1 (p.length-1)
  have s2:=sp.getD hK1 i
  have g1:=Qjx (a:=p.getD i 0) (b:=p.getD (p.length-1) 0) (by omega) (by omega)
  have sq:=bdQ_sz sp hK1 i
  unfold bdQ at sq
  unfold bdQ
  generalize p.getD i 0/p.getD (p.length-1) 0=q at *
  generalize p.getD (p.length-1) 0=u at *
  generalize p.getD i 0=v at *
  generalize cRs (p.drop (p.length-1))=cs at *
  generalize cRs (p.drop i)=ct at *
  generalize ((p.length-1:Nat):Int)=n at *
  have g2:=Qdx q
  have t2:=Qrb (x:=q)
  generalize Int.sign q.num=sg at *
  have g3:=QjC q
  have sa:=abR_sz q
  have g4:=Qev (a:=abR q) (b:=mo) (by omega) (by omega)
  have t4:=Qmp (a:=abR q) (b:=mo)
  generalize cmpR (abR q) mo=c at *
  clear s1 s2 sq hm sp hr sa
  unfold abR at *
  by_cases k:q<0
  · rw [decide_eq_true k] at t2
    rw [if_pos k] at *
    generalize -q=nq at *
    simp only [encR,iv] at g1 g2 g3 g4 y1 y2
    by_cases k2:mo<nq
    · rw [decide_eq_true k2] at t4
      rw [if_pos k2]
      simp -implicitDefEqProofs (maxSteps:=9^8) only [Qbx,Qmb,boxZ,boxR,ll,x1,x2,y1,y2,e1,e2,e3,g1,g2,g3,g4,t2,t4,st4q,ld4q,Qaa,go_sem,iv,bv,reduceCtorEq,↓reduceIte,Nat.reduceEqDiff]
    · rw [decide_eq_false k2] at t4
      rw [if_neg k2]
      simp -implicitDefEqProofs (maxSteps:=9^8) only [Qbx,Qmb,boxZ,boxR,ll,x1,x2,y1,y2,e1,e2,e3,g1,g2,g3,g4,t2,t4,st4q,ld4q,Qaa,go_sem,iv,bv,reduceCtorEq,↓reduceIte,Nat.reduceEqDiff]
  · rw [decide_eq_false k] at t2
    rw [if_neg k] at *
    simp only [encR,iv] at g1 g2 g3 g4 y1 y2
    by_cases k2:mo<q
    · rw [decide_eq_true k2] at t4
      rw [if_pos k2]
      simp -implicitDefEqProofs (maxSteps:=9^8) only [Qbx,Qmb,boxZ,boxR,ll,x1,x2,y1,y2,e1,e2,e3,g1,g2,g4,t2,t4,st4q,ld4q,Qaa,go_sem,iv,bv,reduceCtorEq,↓reduceIte,Nat.reduceEqDiff]
    · rw [decide_eq_false k2] at t4
      rw [if_neg k2]
      simp -implicitDefEqProofs (maxSteps:=9^8) only [Qbx,Qmb,boxZ,boxR,ll,x1,x2,y1,y2,e1,e2,e3,g1,g2,g4,t2,t4,st4q,ld4q,Qaa,go_sem,iv,bv,reduceCtorEq,↓reduceIte,Nat.reduceEqDiff]
theorem bs_stop {mo:Rat} {n i:Int} (h:n≤i):X G Qbx (Qmb d mo n i)=some (.x 0,Qo1 mo):=by
 have e1:decide (i<n)=false:=lt_f (by omega)
 simp -implicitDefEqProofs (maxSteps:=9^8) only [Qbx,Qmb,Qo1,boxZ,boxR,e1,Qaa,go_sem,iv,bv,reduceCtorEq,↓reduceIte,Nat.reduceEqDiff]
theorem bs_loop (hr:RwR d p) (np:p.length≤1000) (sp:SzL K p) (hK1:1≤K) (hK:K≤10000000000):∀ (j i:Nat),i+j=p.length-1→X G (.loop Qbx) (Qmb d (bdF p i) ((p.length-1:Nat):Int) i)=some (.x 0,Qo1 (bdF p (p.length-1)))
 | 0,i,h=>by
  have:i=p.length-1:=by omega
  subst this
  rw [Qai,bs_stop (Int.le_refl _)];rfl
 | j+1,i,h=>by
  rw [Qai,bs_go hr np sp hK1 hK (by omega) (Qnw sp hK1 i),Option.bind_some,if_pos rfl]
  exact bs_loop hr np sp hK1 hK j (i+1) (by omega)
theorem Qjs (hr:RwR d p) (np:p.length≤1000) (sp:SzL K p) (hK1:1≤K) (hK:K≤10000000000):Qah G QeM [d]=some (.d (encR (bdR p))):=by
 rw [Qad (cf:=Qjc) rfl]
 have ll:=hr.len
 have sf:=Qnw sp hK1 (p.length-1)
 have o:=Qf5 (n:=1) (d:=1) ⟨by omega,by omega⟩ ⟨by omega,by omega⟩
 rw [Qct,show ((1:Int):Rat)=1 from rfl] at o
 have g:=QeT (a:=bdF p (p.length-1)) (b:=1) (by omega) (by rw [Qh3];omega)
 have hl:X G (.loop Qbx) (Qmb d 0 (w64 ((p.length:Int)-1)) 0)=some (.x 0,Qo1 (bdF p (p.length-1))):=by
  by_cases h:p.length=0
  ·have e:w64 ((p.length:Int)-1) = -1:=by rw [Qae (by omega) (by omega)];omega
   rw [e,h,Qai,bs_stop (by omega)];rfl
  ·have e:w64 ((p.length:Int)-1)=((p.length-1:Nat):Int):=by rw [Qae (by omega) (by omega)];omega
   rw [e]
   exact bs_loop hr np sp hK1 hK (p.length-1) 0 (by omega)
 unfold bdR
 generalize bdF p (p.length-1)=r at *
 rw [Qmb,boxR_0] at hl
 generalize r+1=s at *
 obtain ⟨n,hn⟩:∃ n,w64 ((p.length:Int)-1)=n:=⟨_,rfl⟩
 rw [hn] at hl
 generalize (1:Rat)=one at *
 simp only [encR,iv] at o g
 simp only [Qo1,boxZ,boxR,go_sem] at hl
 simp -implicitDefEqProofs (maxSteps:=9^8) only [Qjc,encR,ll,hn,hl,o,g,st4q,ld4q,Qab,Qaa,go_sem,iv,bv,reduceCtorEq,↓reduceIte,Nat.reduceEqDiff]
end
end Go.AM

/- slices.AppendSeq, Collect over sturm.zeros; sturm.zeros; sturm.Isolate. -/
namespace Go.AM
open Go Go.RowKit Go.Proofs
def QiW (r:List (Rat×Rat)):D:=if r=[] then .z true else rowA r
theorem gHs_nil:gHs []=[([2],⟨0,0,[.d (.z true)],false⟩)]:=rfl
theorem gHs_ne {r:List (Rat×Rat)} (h:r≠[]):gHs r=[([2],⟨0,0,[.own [11] r.length],false⟩),([11],⟨8,r.length,(cAs r).map .d,false⟩)]:=if_neg h
variable [Its]
theorem Qqe       : ∀ (xs r:List (Rat×Rat)),r.length+xs.length≤100000 →
    Qds (X G) [7] slices_AppendSeq_2_api_Rat_2_api_Rat_a0 slices_AppendSeq_2_api_Rat_2_api_Rat_b0 Qpp [] (xs.map fun q=>[enc2 q]) (hpL (gHs r))=some (.n,⟨Qpp,hpL (gHs (r++xs)),[]⟩)
  | [],r,_=>by rw [List.append_nil];rfl
  | q :: xs,r,h=>by
    rw [List.map_cons,as_round q r (by simp at h;omega),Qqe xs (r++[q]) (by simp at h ⊢;omega),List.append_assoc];rfl
section
variable {dc:D} {l:Rat×Rat} {r:List (Rat×Rat)}
theorem Qnb            (hit:(G).it QaI             (QcN     dc l)=some (r.map fun q=>[enc2 q])) (hr:r.length≤100000) :
    Qah G Qb4 [.z true,.fn QaI (QcN dc l)]=some (if r=[] then .d (.z true) else .own 8 r.length (cAs r)):=by
  rw [Qad (cf:=QaX) rfl]
  have hrd:=Qqe r [] (by simpa using hr)
  rw [List.nil_append,gHs_nil] at hrd
  have hA:slices_AppendSeq_2_api_Rat_2_api_Rat_a0.holds [[2]]=true:=rfl
  have hB:slices_AppendSeq_2_api_Rat_2_api_Rat_b0.holds [[2]]=true:=rfl
  have n7:allD ((cAs r).map A.d)=some (cAs r):=Qej _
  generalize (r.map fun q=>[enc2 q])=XS at *
  generalize QcN dc l=za at *
  by_cases h:r=[]
  · subst h
    rw [gHs_nil] at hrd
    rw [if_pos rfl]
    simp only [Qpp,go_sem] at hrd
    simp -implicitDefEqProofs (maxSteps:=9^8) only [QaX,X_rfn,QlC,hA,hB,hit,hrd,ldn1,stn1,Qaa,go_sem,iv,bv,reduceCtorEq,↓reduceIte,Nat.reduceEqDiff]
  · rw [gHs_ne h] at hrd
    rw [if_neg h]
    simp only [Qpp,go_sem] at hrd
    simp -implicitDefEqProofs (maxSteps:=9^8) only [QaX,X_rfn,QlC,hA,hB,hit,hrd,n7,ldn1,stn1,Qn3,own_c,own_o,Qaa,go_sem,iv,bv,reduceCtorEq,↓reduceIte,Nat.reduceEqDiff]
theorem Qo3          (hit:(G).it QaI             (QcN     dc l)=some (r.map fun q=>[enc2 q])) (hr:r.length≤100000) :
    Qah G QdS [.fn QaI (QcN dc l)]=some (.d (QiW r)):=by
  rw [Qad (cf:=QbX) rfl]
  have g:=Qnb hit hr
  unfold QiW rowA
  by_cases h:r=[]
  · rw [if_pos h] at *
    simp -implicitDefEqProofs (maxSteps:=9^8) only [QbX,g,Qaa,go_sem,iv,bv,reduceCtorEq,↓reduceIte,Nat.reduceEqDiff]
  · rw [if_neg h] at *
    simp -implicitDefEqProofs (maxSteps:=9^8) only [QbX,g,Qaa,go_sem,iv,bv,reduceCtorEq,↓reduceIte,Nat.reduceEqDiff]
theorem QtZ {ds:List D}:Qah G QjQ [.row ds.length ds,enc2 l]=some (.d (.fn QaI (QcN (.row ds.length ds) l))):=by
 rw [Qad (cf:=Qjm) rfl]
 obtain ⟨lo,hi⟩:=l
 simp -implicitDefEqProofs (maxSteps:=9^8) only [Qjm,QcN,enc2,c2R,toDs,allD,snap,Qdc,nf_c,nf_o,Qac,Qab,Qaa,go_sem,iv,bv,reduceCtorEq,↓reduceIte,Nat.reduceEqDiff]
end
theorem QlB          {dp:D} {p:List Rat} {b:Rat} {r:List (Rat×Rat)} (hp:RwR dp p) (hp0:p≠[]) (np:p.length≤17) (hB:Qah   G QeM           [dp]=some (.d (encR b))) (hC:∃ ds,Dls ds (chP p)∧Qah   G Qcy           [dp]=some (.own 1 ds.length ds))
    (hit:∀ ds,Dls ds (chP p)→(G).it QaI (QcN (.row ds.length ds) (-b,b))=some (r.map fun q=>[enc2 q])) (hr:r.length≤100000):Qah G QbB [dp]=some (.d (.tup [QiW r,iv 0])):=by
  rw [Qad (cf:=Qc5) rfl]
  obtain ⟨ds,hd,g1⟩:=hC
  have g2:=QtZ (l:=(-b,b)) (ds:=ds)
  have g3:=Qo3 (hit ds hd) hr
  have g4:=QjC b
  have ll:=hp.len
  have e1:((p.length:Int)==0)=false:=Qcx (by have:=List.length_pos_iff.2 hp0;omega)
  have e2:decide ((p.length:Int)>17)=false:=decide_eq_false (by omega)
  generalize QcN (.row ds.length ds) (-b,b)=za at *
  generalize QiW r=ra at *
  clear hit hd hp hp0 np
  generalize -b=nb at *
  simp only [encR,enc2,c2R,iv] at hB g2 g4
  simp -implicitDefEqProofs (maxSteps:=9^8) only [Qc5,toDs,allD,g1,g2,g3,g4,hB,ll,e1,e2,st4q,ld4q,QdY,QbY,Qaa,go_sem,iv,bv,reduceCtorEq,↓reduceIte,Nat.reduceEqDiff]
end Go.AM

/- law07.lives. -/
namespace Go.AM
open Go Go.RowKit Go.Proofs
class ItsZ [Its]:Prop where
 zer:∀ {dc:D} {ps:List (List Rat)} {l:Rat×Rat} {r:List (Rat×Rat)} {k:Nat},RwC dc ps→ps.length≤1000→(∀ p∈ps,SzL KZ p∧p.length*(2*KZ+1)≤40000000000)→wtZ KZ ps k l=some r→(G).it QaI (QcN dc l)=some (r.map fun q=>[enc2 q])
def lp7:List Rat:=[2,-3,0,1]
def lc7:List (List Rat):=[[-2,1,1],[1,2],[9/4]]
theorem l7_de:deP lp7=[-3,0,3]:=by kernel_rfl
theorem l7_g:gcdP lp7 [-3,0,3]=[-1,1]:=by kernel_rfl
theorem l7_q:quoP lp7 [-1,1]=[-2,1,1]:=by kernel_rfl
theorem l7_f:frP lp7=[-2,1,1]:=by kernel_rfl
theorem l7_c:chP lp7=lc7:=by kernel_rfl
theorem l7_b:bdR lp7=4:=by kernel_rfl
theorem l7_n1:cnt lc7 (-3) 3=2:=by kernel_rfl
theorem l7_n2:cnt lc7 (-2) 1=1:=by kernel_rfl
theorem l7_n3:cnt lc7 1 5=0:=by kernel_rfl
theorem l7_i0:cnt lc7 (-4) 4=2:=by kernel_rfl
theorem l7_i1:cnt lc7 (-4) 0=1:=by kernel_rfl
theorem l7_i2:cnt lc7 0 4=1:=by kernel_rfl
theorem l7_m:mid (-4) 4=0:=by kernel_rfl
theorem l7_dv:dvB [-1,1] (dvN lp7 [-1,1]) lp7=true:=by kernel_rfl
theorem l7_gb:gcB 4 (mnP lp7) (mnP [-3,0,3])=true:=by kernel_rfl
theorem l7_sp:smL lp7=true:=by kernel_rfl
theorem l7_s1:smL [-3,0,3]=true:=by kernel_rfl
theorem QtW:smL [-1,1]=true:=by kernel_rfl
theorem Qt5:smL [-2,1,1]=true:=by kernel_rfl
theorem l7_s4:smL [1,2]=true:=by kernel_rfl
theorem l7_s5:smL [9/4]=true:=by kernel_rfl
theorem l7_r1:remP [-2,1,1] [1,2]=[-9/4]:=by kernel_rfl
theorem l7_r2:remP [1,2] [9/4]=[]:=by kernel_rfl
theorem l7_sc:scP [-9/4] (-1)=[9/4]:=by kernel_rfl
theorem l7_d2:deP [-2,1,1]=[1,2]:=by kernel_rfl
theorem sm7 {l:List Rat} (h:smL l=true):SzL 7000 l:=(Qb1 h).mono (by omega)
theorem sz_i {n:Int} (h:I64 n):sz ((n:Int):Rat)≤3:=QnA h
theorem l7_ch:ChOk 800000 lp7.length (frP lp7) (deP (frP lp7)):=by
 rw [l7_f,l7_d2]
 refine Qrl (sm7 Qt5) (sm7 l7_s4) (by simp) (by simp) (trm2 (by decide)) ?_
 rw [l7_r1,l7_sc]
 refine Qrl (sm7 l7_s4) (sm7 l7_s5) (by simp) (by simp) (trm1 (by decide +kernel)) ?_
 rw [l7_r2]
 exact ch_done _ _ _
theorem l7_hs {K:Nat} (hK:1≤K) (hK2:K≤1000000000):∀ q∈lc7,SzL K q∧q.length*(2*K+1)≤40000000000:=by
 intro q hq
 have h3:q.length≤3:=by
  rcases List.mem_cons.1 hq with rfl | hq
  ·simp
  ·rcases List.mem_cons.1 hq with rfl | hq
   ·simp
   ·rw [List.mem_singleton.1 hq];simp
 have h4:q.length*(2*K+1)≤3*(2*K+1):=Nat.mul_le_mul_right _ h3
 refine ⟨?_,by omega⟩
 rcases List.mem_cons.1 hq with rfl | hq
 ·exact (Qb1 Qt5).mono hK
 ·rcases List.mem_cons.1 hq with rfl | hq
  ·exact (Qb1 l7_s4).mono hK
  ·rw [List.mem_singleton.1 hq];exact (Qb1 l7_s5).mono hK
theorem z_m4:sz (-4:Rat)≤3:=sz_i (n:=-4) ⟨by omega,by omega⟩
theorem z_4:sz (4:Rat)≤3:=sz_i (n:=4) ⟨by omega,by omega⟩
theorem z_0:sz (0:Rat)≤3:=by rw [Qic];omega
theorem l7_w1:wtZ KZ lc7 1 (-4,0)=some [(-4,0)]:=by
 have k:3≤KZ:=by unfold KZ;omega
 have a:=z_m4
 have c:=z_0
 rw [wtZ]
 dsimp only
 rw [if_pos ⟨by omega,by omega⟩,l7_i1]
 rfl
theorem l7_w2:wtZ KZ lc7 1 (0,4)=some [(0,4)]:=by
 have k:3≤KZ:=by unfold KZ;omega
 have b:=z_4
 have c:=z_0
 rw [wtZ]
 dsimp only
 rw [if_pos ⟨by omega,by omega⟩,l7_i2]
 rfl
theorem l7_wt:wtZ KZ lc7 2 (-4,4)=some [(-4,0),(0,4)]:=by
 have k:3≤KZ:=by unfold KZ;omega
 have a:=z_m4
 have b:=z_4
 rw [wtZ]
 dsimp only
 rw [if_pos ⟨by omega,by omega⟩,l7_i0,if_neg (by decide),if_neg (by decide),l7_m,l7_w1,l7_w2]
 rfl
section
variable [Its]
theorem of7_p:Qah G QbG [iv 1,.row 4 [iv 2,iv (-3),iv 0,iv 1]]=some (.d (rowR lp7)):=callX_some.2 ⟨60,by kernel_rfl⟩
theorem of7_1:Qah G QbG [iv 1,.row 3 [iv (-2),iv 1,iv 1]]=some (.d (rowR [-2,1,1])):=callX_some.2 ⟨60,by kernel_rfl⟩
theorem of7_2:Qah G QbG [iv 1,.row 2 [iv 1,iv 2]]=some (.d (rowR [1,2])):=callX_some.2 ⟨60,by kernel_rfl⟩
theorem of7_3:Qah G QbG [iv 4,.row 1 [iv 9]]=some (.d (rowR [9/4])):=callX_some.2 ⟨60,by kernel_rfl⟩
theorem l7_free:∃ d',RwR d' (frP lp7)∧Qah G Qc0 [rowR lp7]=some (.d d'):=by
 have h:=QhT (K:=1) (RwR.row lp7) (by decide) (by omega) (by omega) (Qb1 l7_sp)
 rw [l7_de,l7_g,l7_q] at h
 exact h (Qb1 l7_s1) (Qqo l7_gb) (by simp) (Qb1 QtW) (Qlu l7_dv) (Qb1 Qt5)
theorem QoZ:∃ ds,Dls ds (chP lp7)∧Qah G Qcy [rowR lp7]=some (.own 1 ds.length ds) :=
 Qjh (K:=800000) (by decide) (by decide) l7_free (by rw [l7_f];simp) (by rw [l7_f];simp) (by rw [l7_f];exact (Qb1 Qt5).mono (by omega)) l7_ch (by omega) (by omega)
theorem Qow [ItsB] {lo hi:Rat} (h1:sz lo≤3) (h2:sz hi≤3):Qah G QbS [rowR lp7,encR lo,encR hi]=some (.d (iv (cnt lc7 lo hi))):=by
 have h:=Qis (K:=3) QoZ (lo:=lo) (hi:=hi) (by rw [l7_c];decide) (by rw [l7_c];exact l7_hs (by omega) (by omega)) h1 h2 (by omega)
 rw [l7_c] at h
 exact h
theorem l7_isol [ItsZ]:Qah G QbB [rowR lp7]=some (.d (.tup [rowA [(-4,0),(0,4)],iv 0])):=by
 have hB:=Qjs (K:=1) (RwR.row lp7) (by decide) (Qb1 l7_sp) (by omega) (by omega)
 rw [l7_b] at hB
 exact QlB (b:=4) (r:=[(-4,0),(0,4)]) (RwR.row lp7) (by decide) (by decide) hB QoZ (fun ds hd=>ItsZ.zer (k:=2) hd.rwc (by rw [l7_c];decide) (by rw [l7_c];exact l7_hs (by unfold KZ;omega) (by unfold KZ;omega)) (by rw [l7_c];exact l7_wt)) (by simp)
end
end Go.AM

/- law07.lives, the end. -/
namespace Go.AM
open Go Go.RowKit Go.Proofs
theorem l8_e1:evR lp7 (-3) = -16:=by kernel_rfl
theorem l8_e2:evR lp7 (-2)=0:=by kernel_rfl
theorem l8_e3:evR lp7 9=704:=by kernel_rfl
theorem l8_m1:mid (-2) 9=7/2:=by kernel_rfl
theorem l8_m2:mid (-2) (7/2)=3/4:=by kernel_rfl
theorem l8_m3:mid (-2) (3/4) = -5/8:=by kernel_rfl
theorem l8_m4:mid (-2) (-5/8) = -21/16:=by kernel_rfl
theorem l8_v1:¬ evR lp7 (7/2)<0:=by decide +kernel
theorem l8_v2:¬ evR lp7 (3/4)<0:=by decide +kernel
theorem l8_v3:¬ evR lp7 (-5/8)<0:=by decide +kernel
theorem l8_v4:¬ evR lp7 (-21/16)<0:=by decide +kernel
theorem l8_q1:quoP lp7 [-2,1,1]=[-1,1]:=by kernel_rfl
theorem l8_d1:dvB [-2,1,1] (dvN lp7 [-2,1,1]) lp7=true:=by kernel_rfl
theorem l8_de:deP [-1,1]=[1]:=by kernel_rfl
theorem l8_g:gcdP [-1,1] [1]=[1]:=by kernel_rfl
theorem l8_gb:gcB 2 (mnP [-1,1]) (mnP [1])=true:=by kernel_rfl
theorem l8_q2:quoP [-1,1] [1]=[-1,1]:=by kernel_rfl
theorem l8_d2:dvB [1] (dvN [-1,1] [1]) [-1,1]=true:=by kernel_rfl
theorem l8_f2:frP [-1,1]=[-1,1]:=by kernel_rfl
theorem l8_g2:gcdP [-2,1,1] [-1,1]=[-1,1]:=by kernel_rfl
theorem l8_gb2:gcB 3 (mnP [-2,1,1]) (mnP [-1,1])=true:=by kernel_rfl
theorem l8_q3:quoP [-2,1,1] [-1,1]=[2,1]:=by kernel_rfl
theorem l8_d3:dvB [-1,1] (dvN [-2,1,1] [-1,1]) [-2,1,1]=true:=by kernel_rfl
theorem l8_mu:muP [1] [2,1]=[2,1]:=by kernel_rfl
theorem l8_q4:quoP [-1,1] [-1,1]=[1]:=by kernel_rfl
theorem l8_d4:dvB [-1,1] (dvN [-1,1] [-1,1]) [-1,1]=true:=by kernel_rfl
theorem QqG:smL [1]=true:=by kernel_rfl
theorem Qua:smL [2,1]=true:=by kernel_rfl
theorem l8_de3:deP [2,1]=[1]:=by kernel_rfl
theorem l8_g3:gcdP [2,1] [1]=[1]:=by kernel_rfl
theorem l8_gb3:gcB 2 (mnP [2,1]) (mnP [1])=true:=by kernel_rfl
theorem l8_q5:quoP [2,1] [1]=[2,1]:=by kernel_rfl
theorem l8_d5:dvB [1] (dvN [2,1] [1]) [2,1]=true:=by kernel_rfl
theorem l8_f3:frP [2,1]=[2,1]:=by kernel_rfl
theorem l8_c3:chP [2,1]=[[2,1],[1]]:=by kernel_rfl
theorem l8_r3:remP [2,1] [1]=[]:=by kernel_rfl
theorem l8_n:cnt [[2,1],[1]] (-2) 9=0:=by kernel_rfl
theorem l8_ch:ChOk 800000 ([2,1]:List Rat).length (frP [2,1]) (deP (frP [2,1])):=by
 rw [l8_f3,l8_de3]
 refine Qrl (sm7 Qua) (sm7 QqG) (by simp) (by simp) (trm1 (by decide)) ?_
 rw [l8_r3]
 exact ch_done _ _ _
theorem l8_hs:∀ q∈([[2,1],[1]]:List (List Rat)),SzL 3 q∧q.length*(2*3+1)≤40000000000:=by
 intro q hq
 rcases List.mem_cons.1 hq with rfl | hq
 ·exact ⟨(Qb1 Qua).mono (by omega),by simp⟩
 ·rw [List.mem_singleton.1 hq];exact ⟨(Qb1 QqG).mono (by omega),by simp⟩
theorem z_m2:sz (-2:Rat)≤3:=sz_i (n:=-2) ⟨by omega,by omega⟩
theorem z_m3:sz (-3:Rat)≤3:=sz_i (n:=-3) ⟨by omega,by omega⟩
theorem z_3:sz (3:Rat)≤3:=sz_i (n:=3) ⟨by omega,by omega⟩
theorem z_1:sz (1:Rat)≤3:=sz_i (n:=1) ⟨by omega,by omega⟩
theorem z_5:sz (5:Rat)≤3:=sz_i (n:=5) ⟨by omega,by omega⟩
theorem z_9:sz (9:Rat)≤3:=sz_i (n:=9) ⟨by omega,by omega⟩
theorem rep4L (a:D):rep 4 [a]=[a,a,a,a]:=rfl
theorem rep3L (a:D):rep 3 [a]=[a,a,a]:=rfl
theorem rep2L (a:D):rep 2 [a]=[a,a]:=rfl
theorem rep1L (a:D):rep 1 [a]=[a]:=rfl
theorem l8_sm:∀ q∈lc7,SzL 100000000000 q∧q.length≤1000:=by
 intro q hq
 refine ⟨(l7_hs (K:=1) (by omega) (by omega) q hq).1.mono (by omega), ?_⟩
 rcases List.mem_cons.1 hq with rfl | hq
 ·simp
 ·rcases List.mem_cons.1 hq with rfl | hq
  ·simp
  ·rw [List.mem_singleton.1 hq];simp
section
variable [Its]
theorem l8_odd:∃ d',RwR d' [2,1]∧Qah G Qhy [rowR lp7]=some (.d d'):=by
 have P:=RwR.row lp7
 obtain ⟨a1,h1,g1⟩:=l7_free
 rw [l7_f] at h1
 obtain ⟨a2,a2',h2,_,g2⟩:=Qf6 (K:=1) P h1 (by decide) (by simp) (Qb1 Qt5) (by omega) (by omega) (Qlu l8_d1)
 rw [l8_q1] at h2
 have hf:=QhT (K:=1) h2 (by simp) (by omega) (by omega) (Qb1 QtW)
 rw [l8_de,l8_g,l8_q2,l8_f2] at hf
 obtain ⟨a3,h3,g3⟩:=hf (Qb1 QqG) (Qqo l8_gb) (by simp) (Qb1 QqG) (Qlu l8_d2) (Qb1 QtW)
 obtain ⟨a4,h4,g4⟩:=Qno (K:=1) h1 h3 (by simp) (by simp) (by omega) (by omega) (Qb1 Qt5) (Qb1 QtW) (Qqo l8_gb2)
 rw [l8_g2] at h4
 obtain ⟨a5,a5',h5,_,g5⟩:=Qf6 (K:=1) h1 h4 (by simp) (by simp) (Qb1 QtW) (by omega) (by omega) (Qlu l8_d3)
 rw [l8_q3] at h5
 obtain ⟨a6,h6,g6⟩:=Qth (K:=1) (RwR.row [1]) h5 (Qb1 QqG) (Qb1 Qua) (by omega) (by simp)
 rw [l8_mu] at h6
 obtain ⟨a7,a7',h7,_,g7⟩:=Qf6 (K:=1) h2 h3 (by simp) (by simp) (Qb1 QtW) (by omega) (by omega) (Qlu l8_d4)
 rw [l8_q4] at h7
 have hx:=odg_go (d1:=rowR [1]) P (by decide) g1 g2 g3 g4 g5 g6 g7
 exact ⟨a6,h6,odg_end (by rw [Qai,hx,Option.bind_some,if_pos rfl,Qai,odg_stop h7 (by simp)];rfl)⟩
theorem l8_free {d:D} (h:RwR d [2,1]):∃ d',RwR d' (frP [2,1])∧Qah G Qc0 [d]=some (.d d'):=by
 have hf:=QhT (K:=1) h (by simp) (by omega) (by omega) (Qb1 Qua)
 rw [l8_de3,l8_g3,l8_q5] at hf
 exact hf (Qb1 QqG) (Qqo l8_gb3) (by simp) (Qb1 QqG) (Qlu l8_d5) (Qb1 Qua)
theorem l8_low [ItsB]:Qah G QdK [rowR lp7,encR (-3),encR 0]=some (.d (bv false)) :=
 Qtm (K:=300) (RwR.row lp7) ((Qb1 l7_sp).mono (by omega)) (by decide) (by omega) (by decide) (by decide) (Nat.le_trans z_m3 (by omega)) (Nat.le_trans z_0 (by omega)) (by rw [l8_e1];decide)
theorem l8_stay [ItsB]:Qah G QdK [rowR lp7,encR (-2),encR 9]=some (.d (bv true)):=by
 obtain ⟨dg,h,g⟩:=l8_odd
 have P:=RwR.row lp7
 have c:=Qis (K:=3) (Qjh (K:=800000) (by simp) (by simp) (l8_free h) (by rw [l8_f3];simp) (by rw [l8_f3];simp) (by rw [l8_f3];exact (Qb1 Qua).mono (by omega)) l8_ch (by omega) (by omega)) (lo:=-2) (hi:=9) (by rw [l8_c3];simp) (by rw [l8_c3];exact l8_hs) z_m2 z_9 (by omega)
 rw [l8_c3,l8_n] at c
 have sp:SzL 300 lp7:=(Qb1 l7_sp).mono (by omega)
 have z2:sz (-2:Rat)≤100:=Nat.le_trans z_m2 (by omega)
 have z9:sz (9:Rat)≤3:=z_9
 have k1:=Qsu z_m2 z_9
 rw [l8_m1] at k1
 have k2:=Qsu z_m2 k1
 rw [l8_m2] at k2
 have k3:=Qsu z_m2 k2
 rw [l8_m3] at k3
 have r0:=QsE P sp (by decide) (by omega) z2 (x:=9) (by omega) (by omega) (n:=4) (i:=0) (by omega) (by omega)
 have r1:=QsE P sp (by decide) (by omega) z2 (x:=7/2) (by omega) (by omega) (n:=4) (i:=1) (by omega) (by omega)
 have r2:=QsE P sp (by decide) (by omega) z2 (x:=3/4) (by omega) (by omega) (n:=4) (i:=2) (by omega) (by omega)
 have r3:=QsE P sp (by decide) (by omega) z2 (x:=-5/8) (by omega) (by omega) (n:=4) (i:=3) (by omega) (by omega)
 rw [l8_m1,if_neg l8_v1] at r0
 rw [l8_m2,if_neg l8_v2] at r1
 rw [l8_m3,if_neg l8_v3] at r2
 rw [l8_m4,if_neg l8_v4] at r3
 refine Qrp (K:=300) P sp (by decide) (by omega) (by decide) (by decide) (Nat.le_trans z_m2 (by omega)) (Nat.le_trans z_9 (by omega)) (by rw [l8_e2];exact Rat.le_refl) (by rw [l8_e3];decide) g c ?_
 show X G (.loop Qca) (Qkh (rowR lp7) (-2) 9 ((4:Nat):Int) ((0:Nat):Int))=_
 rw [Qai,r0,Option.bind_some,if_pos rfl,Qai,r1,Option.bind_some,if_pos rfl,Qai,r2,Option.bind_some,if_pos rfl,Qai,r3,Option.bind_some,if_pos rfl,Qai,s7s_stop]
 rfl
theorem lives7 [ItsB] [ItsZ]:Qah G Qge []=some (.d (bv true)):=by
 rw [Qad (cf:=Qfh) rfl]
 have f0:=of7_p
 have f1:=of7_1
 have f2:=of7_2
 have f3:=of7_3
 have nm3:=Qez (n:=-3) ⟨by omega,by omega⟩
 have n3:=Qez (n:=3) ⟨by omega,by omega⟩
 have nm2:=Qez (n:=-2) ⟨by omega,by omega⟩
 have n1:=Qez (n:=1) ⟨by omega,by omega⟩
 have n5:=Qez (n:=5) ⟨by omega,by omega⟩
 have n4:=Qez (n:=4) ⟨by omega,by omega⟩
 have n9:=Qez (n:=9) ⟨by omega,by omega⟩
 have n0:=Qez (n:=0) ⟨by omega,by omega⟩
 rw [show (((-3:Int)):Rat) = -3 from rfl] at nm3
 rw [show (((3:Int)):Rat)=3 from rfl] at n3
 rw [show (((-2:Int)):Rat) = -2 from rfl] at nm2
 rw [show (((1:Int)):Rat)=1 from rfl] at n1
 rw [show (((5:Int)):Rat)=5 from rfl] at n5
 rw [show (((4:Int)):Rat)=4 from rfl] at n4
 rw [show (((9:Int)):Rat)=9 from rfl] at n9
 rw [show (((0:Int)):Rat)=0 from rfl] at n0
 have c1:=Qow z_m3 z_3
 have c2:=Qow z_m2 z_1
 have c3:=Qow z_1 z_5
 rw [l7_n1] at c1
 rw [l7_n2] at c2
 rw [l7_n3] at c3
 have is:=l7_isol
 obtain ⟨ds,hd,gc⟩:=QoZ
 have gb:=Qjs (K:=1) (RwR.row lp7) (by decide) (Qb1 l7_sp) (by omega) (by omega)
 rw [l7_b] at gb
 have hL:RwC (.row 3 [rowR [-2,1,1],rowR [1,2],rowR [9/4]]) (chP lp7):=by
  rw [l7_c]
  refine ⟨[rowR [-2,1,1],rowR [1,2],rowR [9/4]],rfl,fun i hi=>?_,.inl rfl⟩
  match i,hi with
  | 0,_=>exact RwR.row _
  | 1,_=>exact RwR.row _
  | 2,_=>exact RwR.row _
 have gs:=QtL hd.rwc hL (by rw [l7_c];decide) (by rw [l7_c];exact l8_sm)
 have g5:=Qoh (a:=4) (Nat.le_trans z_4 (by omega))
 have st:=l8_stay
 have sl:=l8_low
 have t2:((2:Int)==2)=true:=rfl
 have t2n:(((2:Nat):Int)==2)=true:=rfl
 have t1:((1:Int)==1)=true:=rfl
 have t0:((0:Int)==0)=true:=rfl
 have hl:lenA (.d (rowA [(-4,0),(0,4)]))=some 2:=rfl
 have k1:Qcw (.d (rowR [-2,1,1]))=some [rowR [-2,1,1]]:=rfl
 have k2:Qcw (.d (rowR [1,2]))=some [rowR [1,2]]:=rfl
 have k3:Qcw (.d (rowR [9/4]))=some [rowR [9/4]]:=rfl
 clear hL hd
 generalize rowA [(-4,0),(0,4)]=ra at *
 generalize rowR lp7=p at *
 generalize rowR [-2,1,1]=p1 at *
 generalize rowR [1,2]=p2 at *
 generalize rowR [9/4]=p3 at *
 generalize (-3:Rat)=rm3 at *
 generalize (3:Rat)=r3 at *
 generalize (-2:Rat)=rm2 at *
 generalize (1:Rat)=r1 at *
 generalize (5:Rat)=r5 at *
 generalize (4:Rat)=r4 at *
 generalize (9:Rat)=r9 at *
 generalize (0:Rat)=r0 at *
 simp only [encR,iv,bv] at f0 f1 f2 f3 nm3 n3 nm2 n1 n5 n4 n9 n0 c1 c2 c3 is gb gs g5 st sl
 simp -implicitDefEqProofs (maxSteps:=9^8) only [Qfh,f0,f1,f2,f3,nm3,n3,nm2,n1,n5,n4,n9,n0,c1,c2,c3,is,gc,gb,gs,g5,st,sl,t2,t2n,t1,t0,hl,k1,k2,k3,rep4L,rep3L,rep2L,rep1L,toDs,allD,go_sem,iv,bv,reduceCtorEq,↓reduceIte,Nat.reduceEqDiff]
end
end Go.AM

/- Chains of polynomials of at most the fifth degree: sizes. sturm.Count. -/
namespace Go.AM
open Go Go.RowKit
theorem H1.m1:H1 0 0 (-1):=H1.one.neg
theorem sc_HL {d h:Nat} {l:List Rat} (H:HL d h l):HL d h (scP l (-1)):=(H.sc H1.m1).mono (by omega) (by omega)
theorem ch_pot {K:Nat}:∀ (n s:Nat) (a b:List Rat),HL s s a→HL s s b→Trm b→b.length<n→b.length≤90→(s+1)*(dvN a b+1)*3^b.length≤K→ChOk K n a b∧∀ q∈chL n a b,SzL K q∧q.length≤b.length
 | 0,_,_,b,_,_,_,h,_,_=>by omega
 | n+1,s,a,b,Ha,Hb,tb,hn,h90,hK=>by
  have h3:1≤3^b.length:=Nat.one_le_pow _ _ (by decide)
  have hs:s+1≤K:=Nat.le_trans (Nat.le_trans (Nat.le_mul_of_pos_right (s+1) (by omega)) (Nat.le_mul_of_pos_right _ h3)) hK
  by_cases hb:b=[]
  ·subst hb
   refine ⟨.inl rfl, ?_⟩
   rw [chL,if_pos rfl]
   exact fun q hq=>by simp at hq
  ·have hlb:0<b.length:=List.length_pos_iff.2 hb
   obtain ⟨_,q2,_,_⟩:=Qjk (p:=a) tb hb
   have h33:3*((s+1)*(dvN a b+1))≤K:=by
    refine Nat.le_trans ?_ hK
    rw [Nat.mul_comm 3]
    refine Nat.mul_le_mul_left _ ?_
    obtain ⟨k,hk⟩:∃ k,b.length=k+1:=⟨b.length-1,by omega⟩
    rw [hk,Nat.pow_succ]
    have:1≤3^k:=Nat.one_le_pow _ _ (by decide)
    omega
   have hr:=Qpm (remP a b) (-1)
   have h3':((s+1)*(dvN a b+1))*(dvN b (scP (remP a b) (-1))+1)*3^(scP (remP a b) (-1)).length≤K:=by
    refine Nat.le_trans ?_ hK
    rw [Nat.mul_assoc]
    refine Nat.mul_le_mul_left _ (Nat.le_trans (Nat.le_of_eq ?_) (Ql0 (a:=(scP (remP a b) (-1)).length) (b:=b.length) (by omega)))
    congr 1
    unfold dvN;omega
   have he:(s+1)*(dvN a b+1)=s*dvN a b+dvN a b+s+1:=by rw [Nat.mul_add,Nat.add_mul,Nat.mul_one,Nat.one_mul];omega
   have he2:dvN a b*(s+1)=s*dvN a b+dvN a b:=by rw [Nat.mul_add,Nat.mul_one,Nat.mul_comm]
   have he3:dvN a b*s=s*dvN a b:=Nat.mul_comm _ _
   obtain ⟨g1,g2,_⟩:=Ql6 (K:=K) Ha Hb tb (by rw [he2,he3];omega)
   have hsz:=g2.sz
   have g3:=sc_HL g2
   have e1:s+dvN a b*(s+1)+1=(s+1)*(dvN a b+1):=by omega
   obtain ⟨i1,i2⟩:=ch_pot (K:=K) n (s+dvN a b*(s+1)) b (scP (remP a b) (-1)) (Hb.mono (by omega) (by omega)) (g3.mono (by omega) (by omega)) (Qr1 _ _) (by omega) (by omega) (by rw [e1];exact h3')
   refine ⟨.inr ⟨tb,h90,Hb.mono (by omega) (by omega),Hb.sz.mono (by omega),g1,hsz.mono (by omega),i1⟩, ?_⟩
   rw [chL,if_neg hb]
   intro q hq
   rcases List.mem_cons.1 hq with rfl | hq
   ·exact ⟨Hb.sz.mono (by omega),Nat.le_refl _⟩
   ·exact ⟨(i2 q hq).1,by have:=(i2 q hq).2;omega⟩
theorem gcd_len7 {a b:List Rat} {M:Nat} (ha:a.length≤M) (hb:b.length≤M):(gcdP a b).length≤M:=by
 have go:∀ (n:Nat) (a b:List Rat),a.length≤M→b.length≤M→(gcP n a b).length≤M:=by
  intro n
  induction n with
  | zero=>intro a b ha hb;exact ha
  | succ n ih =>
   intro a b ha hb
   rw [gcP]
   split
   ·exact ha
   ·exact ih b _ hb (Nat.le_trans (QeF _) (Nat.le_trans (QhQ a b) ha))
 exact go _ _ _ (Nat.le_trans (QeF a) ha) (Nat.le_trans (QeF b) hb)
theorem quo_17 (p:List Rat) (tp:Trm p):quoP p [1]=p:=by
 obtain ⟨_,h⟩:=Qpa (q:=[1]) Qn5 (by simp) (Dv.one p)
 exact Qc4 (Qip _ _) tp fun x=>by rw [h,Qb6,Rat.mul_one]
theorem chL_len:∀ (n:Nat) (a b:List Rat),(chL n a b).length≤n
 | 0,_,_=>Nat.le_refl _
 | n+1,a,b=>by
  rw [chL]
  split
  ·simp
  ·rw [List.length_cons];have:=chL_len n b (scP (remP a b) (-1));omega
section
variable [Its] {dp:D} {p:List Rat}
end
end Go.AM

/- Chains, shifted and scaled. -/
namespace Go.AM
open Go Go.RowKit
section
variable {p:List Rat} {f:Rat}
end
section
variable {d:Rat}
end
end Go.AM

/- The seat's iterators, as instances. -/
namespace Go.AM
open Go Go.RowKit Go.Proofs
noncomputable instance (priority:=2000) iZ:Its:=itsZ
instance iZB:ItsB:=itsBZ
instance iZZ:ItsZ:=⟨fun a b c d=>itsZ_at a b c d⟩
theorem envQ:EnvOk Tryz.prog G:=envZ
end Go.AM

/- ref06.Eval and ref07.Changes, counted at great coefficients; ref07.Bound. -/
namespace Go.AM
open Go Go.RowKit
variable [Its]
section
variable {d:D} {l:List Rat} {K:Nat}
theorem re_goB {x:Rat} (h1:RwR d l) (s1:SzL K l) (hK1:1≤K) (hK:K≤1000000000) (n1:l.length≤40) (hx:sz x≤1000000) {i:Nat} (hi:i<l.length):X G QbK (QqE d x (sumR (fun k=>l.getD k 0*x^k) i) (x^i) i)=some (.n,QqE d x (sumR (fun k=>l.getD k 0*x^k) (i+1)) (x^(i+1)) ((i+1:Nat):Int)):=by
 have e3:w64 ((i:Int)+1)=((i+1:Nat):Int):=by rw [Qae (by omega) (by omega)];rfl
 have e1:decide ((i:Int)<(l.length:Int))=true:=lt_t (by omega)
 have ll:=h1.len
 have x1:=h1.ixa hi
 have x2:=fun h=>ldR h l hi
 have b1:=s1.getD hK1 i
 have hb:∀ k,k<41→sz (x^k)≤40000001:=fun k hk=>Nat.le_trans (pow_sz' x k hx) (Nat.le_trans (Nat.add_le_add_right (Nat.mul_le_mul_right _ (show k≤40 by omega)) 1) (by decide))
 have b2:=hb i (by omega)
 have b3:=QqW (f:=fun k=>l.getD k 0*x^k) (K:=1040000002) i (fun k hk=>by
  have:=hb k (by omega);have:=s1.getD hK1 k
  have:=QgM (a:=l.getD k 0) (b:=x^k)
  show sz (l.getD k 0*x^k)≤_
  omega)
 have b4:i*(1040000002+1)≤40*(1040000002+1):=Nat.mul_le_mul_right _ (by omega)
 have b5:sz (sumR (fun k=>l.getD k 0*x^k) i)≤45000000000:=Nat.le_trans b3 (Nat.le_trans (Nat.add_le_add_right b4 1) (by decide))
 have g1:=Qeo (a:=l.getD i 0) (b:=x^i) (by omega) (by omega)
 have m1:=QgM (a:=l.getD i 0) (b:=x^i)
 have g2:=Qfq (a:=sumR (fun k=>l.getD k 0*x^k) i) (b:=l.getD i 0*x^i) (by omega) (by omega)
 have g3:=Qeo (a:=x^i) (b:=x) (by omega) (by omega)
 rw [← Rat.pow_succ] at g3
 have ee:sumR (fun k=>l.getD k 0*x^k) i+l.getD i 0*x^i=sumR (fun k=>l.getD k 0*x^k) (i+1):=rfl
 rw [ee] at g2
 clear ee b1 b2 b3 b4 b5 m1 hb
 generalize sumR (fun k=>l.getD k 0*x^k) (i+1)=r2 at *
 generalize sumR (fun k=>l.getD k 0*x^k) i=r1 at *
 generalize x^(i+1)=p2 at *
 generalize x^i=p1 at *
 generalize l.getD i 0*p1=t at *
 generalize l.getD i 0=u at *
 generalize cRs (l.drop i)=cs at *
 simp only [encR] at g1 g2 g3 x2
 simp -implicitDefEqProofs (maxSteps:=9^8) only [QbK,QqE,boxR,QiX,ll,x1,x2,e1,e3,g1,g2,g3,go_sem,Qac,Qab,iv,bv,reduceCtorEq,↓reduceIte,Nat.reduceEqDiff]
theorem QsK {x:Rat} (h1:RwR d l) (s1:SzL K l) (hK1:1≤K) (hK:K≤1000000000) (n1:l.length≤40) (hx:sz x≤1000000):∀ j i:Nat,i+j=l.length→X G (.loop QbK) (QqE d x (sumR (fun k=>l.getD k 0*x^k) i) (x^i) i)=some (.x 0,re_en (evR l x))
 | 0,i,h=>by
  have:i=l.length:=by omega
  subst this
  rw [Qai,re_stop h1,Ql2];rfl
 | j+1,i,h=>by
  rw [Qai,re_goB h1 s1 hK1 hK n1 hx (by omega),Option.bind_some,if_pos rfl]
  exact QsK h1 s1 hK1 hK n1 hx j (i+1) (by omega)
theorem Qpv {x:Rat} (h1:RwR d l) (s1:SzL K l) (hK1:1≤K) (hK:K≤1000000000) (n1:l.length≤40) (hx:sz x≤1000000):Qah G QgK [d,encR x]=some (.d (encR (evR l x))):=by
 rw [Qad (cf:=QfN) rfl]
 have hl:=QsK h1 s1 hK1 hK n1 hx l.length 0 (by omega)
 have o:=QkT
 have z0:((0:Nat):Int)=0:=rfl
 have e5:boxR (sumR (fun k=>l.getD k 0*x^k) 0)=QiX:=by
  have ez:decide ((0:Rat).num<0)=false:=rfl
  have ez2:dg (digs (0:Rat).num.natAbs)=.z true:=by rw [Rat.zero_num,show (0:Int).natAbs=0 from rfl,Qax];rfl
  have ez3:dg (dd (0:Rat).den)=.z true:=rfl
  rw [sumR,boxR,ez,ez2,ez3];rfl
 rw [QqE,e5,Rat.pow_zero,z0] at hl
 clear e5
 generalize evR l x=v at *
 generalize (1:Rat)=one at *
 simp only [encR,iv] at o
 simp only [re_en,boxR,QiX,go_sem] at hl
 simp -implicitDefEqProofs (maxSteps:=9^8) only [QfN,encR,o,hl,go_sem,Qac,Qab,iv,bv,reduceCtorEq,↓reduceIte,Nat.reduceEqDiff]
end
section
variable {d:D} {ps:List (List Rat)} {x:Rat} {K:Nat}
theorem c7_goB (hr:RwC d ps) (hn:ps.length≤1000) (hs:∀ p∈ps,SzL K p∧p.length≤40) (hx:sz x≤1000000) (hK1:1000000≤K) (hK:K≤500000000) {S:List Int} (hS:S.length≤1000) {i:Nat} (hi:i<ps.length) :
    X G Qaz (QlK d x S i)=some (.n,QlK d x (if sgn1 (ps.getD i []) x≠0 then S++[sgn1 (ps.getD i []) x] else S) ((i+1:Nat):Int)):=by
  have e1:decide ((i:Int)<(ps.length:Int))=true:=lt_t (by omega)
  have e2:w64 ((i:Int)+1)=((i+1:Nat):Int):=by rw [Qae (by omega) (by omega)];rfl
  have ll:=hr.len
  obtain ⟨y,r,hy,x1,x2⟩:=hr.at hi
  have hp:=hs (ps.getD i []) (by rw [List.getD_eq_getElem?_getD,List.getElem?_eq_getElem hi];exact List.getElem_mem hi)
  generalize ps.getD i []=p at *
  have g1:=Qpv hy hp.1 (by omega) (by omega) hp.2 hx
  have z:=evR_sz (x:=x) (K:=K) (by omega) p (fun q hq=>hp.1 q hq)
  have zb:p.length*(2*K+1)≤40*(2*500000000+1):=Nat.mul_le_mul hp.2 (by omega)
  have g2:=Qf3 (a:=evR p x) (by omega)
  have es:Int.sign (evR p x).num=sgn1 p x:=rfl
  rw [es] at g2
  have n4:=QlQ (l:=S) (by omega)
  clear z zb es hs hp hx
  generalize sgn1 p x=s at *
  generalize evR p x=v at *
  simp only [encR,iv] at g1 g2
  by_cases h0:s=0
  · have t:(s != 0)=false:=QqD h0
    rw [if_neg (by simp [h0])]
    by_cases hS0:S=[]
    · subst hS0
      simp -implicitDefEqProofs (maxSteps:=9^8) only [Qaz,QlK,boxR,QdW,QdZ,Qaa,ll,x1,x2,g1,g2,t,e1,e2,ld4q,go_sem,iv,bv,reduceCtorEq,↓reduceIte,Nat.reduceEqDiff]
    · simp -implicitDefEqProofs (maxSteps:=9^8) only [Qaz,QlK,boxR,Qhd hS0,Qhb hS0,arrI,Qal,Qaa,ll,x1,x2,g1,g2,t,e1,e2,ld4q,go_sem,iv,bv,reduceCtorEq,↓reduceIte,Nat.reduceEqDiff]
  · have t:(s != 0)=true:=QqK h0
    rw [if_pos h0]
    by_cases hS0:S=[]
    · subst hS0
      have b0:=Qkm
      simp -implicitDefEqProofs (maxSteps:=9^8) only [Qaz,QlK,boxR,QdW,QdZ,List.nil_append,QnO,QnG,arrI,Qf7,Qaa,ll,x1,x2,g1,g2,t,e1,e2,b0,ld4q,all_one,Qk2,srcS,src,go_sem,iv,bv,reduceCtorEq,↓reduceIte,Nat.reduceEqDiff]
    · simp -implicitDefEqProofs (maxSteps:=9^8) only [Qaz,QlK,boxR,Qhd hS0,Qhb hS0,QjE,Qju,arrI,Qe1,Qak,Qal,Qaa,ll,x1,x2,g1,g2,t,e1,e2,n4,ld4q,all_one,Qk2,srcS,src,go_sem,iv,bv,reduceCtorEq,↓reduceIte,Nat.reduceEqDiff]
theorem Qsp      (hr:RwC d ps) (hn:ps.length≤1000) (hs:∀ p∈ps,SzL K p∧p.length≤40) (hx:sz x≤1000000) (hK1:1000000≤K) (hK:K≤500000000):∀ (j i:Nat),i+j=ps.length →
    X G (.loop Qaz) (QlK d x (sgs (ps.take i) x) i)=some (.x 0,QtU (sgs ps x))
  | 0,i,h=>by
    have:i=ps.length:=by omega
    subst this
    rw [Qai,c7_stop hr,List.take_length];rfl
  | j+1,i,h=>by
    have ih:=Qsp hr hn hs hx hK1 hK j (i+1) (by omega)
    have hl:=Qlo (ps.take i) x
    rw [List.length_take] at hl
    rw [Qai,c7_goB hr hn hs hx hK1 hK (by omega) (by omega),Option.bind_some,if_pos rfl,← ih,QrH ps x (by omega)]
theorem Qja (hr:RwC d ps) (hn:ps.length≤1000) (hs:∀ p∈ps,SzL K p∧p.length≤40) (hx:sz x≤1000000) (hK1:1000000≤K) (hK:K≤500000000):Qah G Qdr [d,encR x]=some (.d (iv (chg ps x))):=by
 rw [Qad (cf:=QcU) rfl]
 have g0:=Qsp hr hn hs hx hK1 hK ps.length 0 (by omega)
 have hl:=Qlo ps x
 have e0:sgs (ps.take 0) x=[]:=rfl
 rw [e0] at g0
 have g1:X G (.loop QaK) (Qmg (sgs ps x) 0 1)=some (.x 2,mkS [(8,ai (chg ps x))] []):=by
  unfold chg
  by_cases h:sgs ps x=[]
  ·rw [h]
   rw [Qai,n7_stop (by simp)];rfl
  ·have hp:0<(sgs ps x).length:=List.length_pos_iff.2 h
   exact n7_loop (S:=sgs ps x) (by omega) ((sgs ps x).length-1) 1 (by omega) (by omega)
 generalize chg ps x=c at *
 generalize sgs ps x=S at *
 by_cases hS0:S=[]
 ·subst hS0
  simp only [QlK,QtU,boxR,QdW,QdZ,Qaa,nc0,go_sem,iv] at g0
  simp only [Qmg,QdW,QdZ,Qaa,nc0,go_sem,iv] at g1
  simp -implicitDefEqProofs (maxSteps:=9^8) only [QcU,encR,g0,g1,Qaa,go_sem,iv,bv,reduceCtorEq,↓reduceIte,Nat.reduceEqDiff]
 ·simp only [QlK,QtU,boxR,QdW,QdZ,Qhd hS0,Qhb hS0,arrI,Qaa,nc0,go_sem,iv] at g0
  simp only [Qmg,Qhd hS0,Qhb hS0,arrI,Qaa,nc0,go_sem,iv] at g1
  simp -implicitDefEqProofs (maxSteps:=9^8) only [QcU,encR,g0,g1,Qaa,Qal,go_sem,iv,bv,reduceCtorEq,↓reduceIte,Nat.reduceEqDiff]
theorem Qi1 (hr:RwC d ps) (hn:ps.length≤1000) (hs:∀ p∈ps,SzL K p∧p.length≤40) {lo hi:Rat} (h1:sz lo≤1000000) (h2:sz hi≤1000000) (hK1:1000000≤K) (hK:K≤500000000):Qah G Qcv [d,encR lo,encR hi]=some (.d (iv (cnt ps lo hi))):=by
 rw [Qad (cf:=QcW) rfl]
 have g0:=Qda (a:=lo) (b:=hi) (by omega) (by omega)
 have g1:=Qja hr hn hs h1 hK1 hK
 have g2:=Qja hr hn hs h2 hK1 hK
 have c1:chg ps lo≤1000:=Nat.le_trans (Qlw _ _) (Nat.le_trans (Qlo ps lo) hn)
 have c2:chg ps hi≤1000:=Nat.le_trans (Qlw _ _) (Nat.le_trans (Qlo ps hi) hn)
 have t0:decide (cmpR lo hi≥0)=decide (hi≤lo):=by
  have h:=QqN (a:=lo) (b:=hi)
  rw [Bool.eq_iff_iff,decide_eq_true_iff,decide_eq_true_iff]
  constructor
  ·intro h1
   exact Rat.not_lt.1 fun h2=>by have:=h.2 h2;omega
  ·intro h1
   exact Int.not_lt.1 fun h2=>Rat.not_lt.2 h1 (h.1 h2)
 unfold cnt
 generalize chg ps lo=a at *
 generalize chg ps hi=b at *
 obtain ⟨z,hz⟩:∃ z,(a:Int)-(b:Int)=z:=⟨_,rfl⟩
 have e:w64 ((a:Int)-(b:Int))=z:=by rw [Qae (by omega) (by omega),hz]
 rw [hz]
 generalize cmpR lo hi=c at *
 simp only [encR,iv] at g0 g1 g2
 by_cases h:hi≤lo
 ·rw [if_pos h]
  rw [decide_eq_true h] at t0
  simp -implicitDefEqProofs (maxSteps:=9^8) only [QcW,encR,g0,t0,ld4q,Qaa,go_sem,iv,bv,reduceCtorEq,↓reduceIte,Nat.reduceEqDiff]
 ·rw [if_neg h]
  rw [decide_eq_false h] at t0
  simp -implicitDefEqProofs (maxSteps:=9^8) only [QcW,encR,g0,g1,g2,t0,e,ld4q,Qaa,go_sem,iv,bv,reduceCtorEq,↓reduceIte,Nat.reduceEqDiff]
end
section
variable {d:D} {p:List Rat} {K:Nat}
theorem br_go (hr:RwR d p) (np:p.length≤1000) (sp:SzL K p) (hK1:1≤K) (hK:K≤10000000000) {i:Nat} (hi:i+1<p.length) {mo:Rat} (hm:sz mo≤2*K) :
    X G QaP (Qnj d mo i)=some (.n,Qnj d (if mo<abR (bdQ p i) then abR (bdQ p i) else mo) ((i+1:Nat):Int)):=by
  have e1:decide (((i+1:Nat):Int)<(p.length:Int))=true:=lt_t (by omega)
  have e2:w64 ((p.length:Int)-1)=((p.length-1:Nat):Int):=by rw [Qae (by omega) (by omega)];omega
  have e3:w64 ((i:Int)+1)=((i+1:Nat):Int):=by rw [Qae (by omega) (by omega)];rfl
  have ll:=hr.len
  have hl:p.length-1<p.length:=by omega
  have x1:=hr.ixa hl
  have y1:=fun h=>ldR h p hl
  have x2:=hr.ixa (show i<p.length by omega)
  have y2:=fun h=>ldR h p (show i<p.length by omega)
  have s1:=sp.getD hK1 (p.length-1)
  have s2:=sp.getD hK1 i
  have g1:=Qii (a:=p.getD i 0) (b:=p.getD (p.length-1) 0) (by omega) (by omega)
  have sq:=bdQ_sz sp hK1 i
  unfold bdQ at sq
  unfold bdQ
  generalize p.getD i 0/p.getD (p.length-1) 0=q at *
  generalize p.getD (p.length-1) 0=u at *
  generalize p.getD i 0=v at *
  generalize cRs (p.drop (p.length-1))=cs at *
  generalize cRs (p.drop i)=ct at *
  generalize ((p.length-1:Nat):Int)=n at *
  have g2:=Qf3 (a:=q) (by omega)
  have t2:=Qrb (x:=q)
  generalize Int.sign q.num=sg at *
  have g3:=QgO (a:=q) (by omega)
  have sa:=abR_sz q
  have g4:=Qda (a:=abR q) (b:=mo) (by omega) (by omega)
  have t4:=Qmp (a:=abR q) (b:=mo)
  generalize cmpR (abR q) mo=c at *
  clear s1 s2 sq hm sp hr sa
  unfold abR at *
  by_cases k:q<0
  · rw [decide_eq_true k] at t2
    rw [if_pos k] at *
    generalize -q=nq at *
    simp only [encR,iv] at g1 g2 g3 g4 y1 y2
    by_cases k2:mo<nq
    · rw [decide_eq_true k2] at t4
      rw [if_pos k2]
      simp -implicitDefEqProofs (maxSteps:=9^8) only [QaP,Qnj,boxZ,boxR,ll,x1,x2,y1,y2,e1,e2,e3,g1,g2,g3,g4,t2,t4,st4q,ld4q,Qaa,go_sem,iv,bv,reduceCtorEq,↓reduceIte,Nat.reduceEqDiff]
    · rw [decide_eq_false k2] at t4
      rw [if_neg k2]
      simp -implicitDefEqProofs (maxSteps:=9^8) only [QaP,Qnj,boxZ,boxR,ll,x1,x2,y1,y2,e1,e2,e3,g1,g2,g3,g4,t2,t4,st4q,ld4q,Qaa,go_sem,iv,bv,reduceCtorEq,↓reduceIte,Nat.reduceEqDiff]
  · rw [decide_eq_false k] at t2
    rw [if_neg k] at *
    simp only [encR,iv] at g1 g2 g3 g4 y1 y2
    by_cases k2:mo<q
    · rw [decide_eq_true k2] at t4
      rw [if_pos k2]
      simp -implicitDefEqProofs (maxSteps:=9^8) only [QaP,Qnj,boxZ,boxR,ll,x1,x2,y1,y2,e1,e2,e3,g1,g2,g4,t2,t4,st4q,ld4q,Qaa,go_sem,iv,bv,reduceCtorEq,↓reduceIte,Nat.reduceEqDiff]
    · rw [decide_eq_false k2] at t4
      rw [if_neg k2]
      simp -implicitDefEqProofs (maxSteps:=9^8) only [QaP,Qnj,boxZ,boxR,ll,x1,x2,y1,y2,e1,e2,e3,g1,g2,g4,t2,t4,st4q,ld4q,Qaa,go_sem,iv,bv,reduceCtorEq,↓reduceIte,Nat.reduceEqDiff]
theorem br_stop (hr:RwR d p) (np:p.length≤1000) {mo:Rat} {i:Nat} (h:p.length≤i+1) (hi:i≤1000):X G QaP (Qnj d mo i)=some (.x 0,Qo1 mo):=by
 have e1:decide (((i+1:Nat):Int)<(p.length:Int))=false:=lt_f (by omega)
 have e3:w64 ((i:Int)+1)=((i+1:Nat):Int):=by rw [Qae (by omega) (by omega)];rfl
 have ll:=hr.len
 simp -implicitDefEqProofs (maxSteps:=9^8) only [QaP,Qnj,Qo1,boxZ,boxR,ll,e1,e3,Qaa,go_sem,iv,bv,reduceCtorEq,↓reduceIte,Nat.reduceEqDiff]
theorem br_loop (hr:RwR d p) (np:p.length≤1000) (sp:SzL K p) (hK1:1≤K) (hK:K≤10000000000):∀ (j i:Nat),i+j=p.length-1→X G (.loop QaP) (Qnj d (bdF p i) i)=some (.x 0,Qo1 (bdF p (p.length-1)))
 | 0,i,h=>by
  have:i=p.length-1:=by omega
  subst this
  rw [Qai,br_stop hr np (by omega) (by omega)];rfl
 | j+1,i,h=>by
  rw [Qai,br_go hr np sp hK1 hK (by omega) (Qnw sp hK1 i),Option.bind_some,if_pos rfl]
  exact br_loop hr np sp hK1 hK j (i+1) (by omega)
theorem Qrd (hr:RwR d p) (np:p.length≤1000) (sp:SzL K p) (hK1:1≤K) (hK:K≤10000000000):Qah G Qeg [d]=some (.d (encR (bdR p))):=by
 rw [Qad (cf:=Qfa) rfl]
 have sf:=Qnw sp hK1 (p.length-1)
 have o:=QkT
 have g:=Qfq (a:=bdF p (p.length-1)) (b:=1) (by omega) (by rw [Qh3];omega)
 have hl:=br_loop hr np sp hK1 hK (p.length-1) 0 (by omega)
 unfold bdR
 generalize bdF p (p.length-1)=r at *
 have z0:((0:Nat):Int)=0:=rfl
 rw [show bdF p 0=0 from rfl,Qnj,boxR_0,z0] at hl
 generalize r+1=s at *
 generalize (1:Rat)=one at *
 simp only [encR,iv] at o g
 simp only [Qo1,boxZ,boxR,go_sem] at hl
 simp -implicitDefEqProofs (maxSteps:=9^8) only [Qfa,encR,hl,o,g,st4q,ld4q,Qab,Qaa,go_sem,iv,bv,reduceCtorEq,↓reduceIte,Nat.reduceEqDiff]
end
end Go.AM

/- Chains by both packages: sizes. -/
namespace Go.AM
open Go Go.RowKit
structure Fit (s N Kg Kq K:Nat) (p:List Rat):Prop where
 H:HL s s p
 t:Trm p
 n:p.length≤N
 N9:1≤N∧N≤40
 g:(s+2)*3^N≤Kg
 q:s+N*(Kg+1)+Kg+1≤Kq
 f:(Kq+2)*3^(N-1)≤K
 l:(s+2)*3^N≤K∧s+2≤Kg∧Kg≤Kq∧Kq+2≤K∧K≤200000000
section
variable {s N Kg Kq K:Nat} {p:List Rat}
theorem Fit.d (F:Fit s N Kg Kq K p):HL (s+1) (s+1) (deP p):=(F.H.de (by have:=F.n;have:=F.N9;have:BB=1000000000:=rfl;omega)).mono (by omega) (by omega)
theorem Fit.gcd (F:Fit s N Kg Kq K p) (p0:p≠[]):gcG Kg ((deP p).length+1) (mnP p) (mnP (deP p))∧gcH Kg ((deP p).length+1) (mnP p) (mnP (deP p))∧HL Kg Kg (gcdP p (deP p)):=by
 have l1:=Qil F.t
 have l2:=Qil (Qdu p)
 have ld:=QkO F.t
 have hp:=List.length_pos_iff.2 p0
 have hn:=F.n
 have h2:(s+1+1)*(dvN (mnP p) (mnP (deP p))+1)*3^(mnP (deP p)).length≤Kg:=by
  refine Nat.le_trans ?_ F.g
  rw [Nat.mul_assoc]
  refine Nat.mul_le_mul_left _ ?_
  have h3:(dvN (mnP p) (mnP (deP p))+1)*3^(mnP (deP p)).length=3^p.length:=by
   have e:dvN (mnP p) (mnP (deP p))+1=3:=by unfold dvN;omega
   rw [e,l2,ld,show p.length=(p.length-1)+1 by omega,Nat.pow_succ,Nat.add_sub_cancel,Nat.mul_comm]
  rw [h3]
  exact Nat.pow_le_pow_right (by decide) hn
 exact gc_pot (K:=Kg) ((deP p).length+1) (s+1) (mnP p) (mnP (deP p)) ((Qne F.H F.t).mono (by omega) (by omega)) (Qne F.d (Qdu p)) (Qha _) (by omega) h2
theorem Fit.quo (F:Fit s N Kg Kq K p) (p0:p≠[]):HL Kq Kq (quoP p (gcdP p (deP p)))∧dvG Kq (gcdP p (deP p)) (dvN p (gcdP p (deP p))) p∧(HL s s (frP p)∨(frP p).length≤N-1):=by
 obtain ⟨_,_,Hg⟩:=F.gcd p0
 have ng:=QsM F.t (Qdu p) (.inl p0)
 have hl:=List.length_pos_iff.2 ng
 have hn:=F.n
 have hq:=F.q
 have hm:dvN p (gcdP p (deP p))≤N:=by unfold dvN;omega
 have h1:dvN p (gcdP p (deP p))*Kg≤N*Kg:=Nat.mul_le_mul_right _ hm
 have h2:dvN p (gcdP p (deP p))*(Kg+1)≤N*(Kg+1):=Nat.mul_le_mul_right _ hm
 have h3:N*(Kg+1)=N*Kg+N:=Nat.mul_succ _ _
 obtain ⟨x,_,z⟩:=Ql6 (K:=Kq) F.H Hg Qhq (by omega)
 refine ⟨z.mono (by omega) (by omega),x, ?_⟩
 by_cases l1:(gcdP p (deP p)).length=1
 ·left
  have e:gcdP p (deP p)=[1]:=QkR (Qsq F.t (Qdu p)) l1
  unfold frP
  rw [e,quo_17 p F.t]
  exact Qne F.H F.t
 ·right
  unfold frP
  have k1:=QeF (quoP p (gcdP p (deP p)))
  have k2:=Qj7 p (gcdP p (deP p))
  unfold dvN at k2
  omega
theorem Fit.free (F:Fit s N Kg Kq K p) (p0:p≠[]):HL Kq Kq (frP p)∧(frP p).length≤N:=by
 obtain ⟨a,_,_⟩:=F.quo p0
 exact ⟨Qne a (Qip _ _),Nat.le_trans (QfX (QhZ p) F.t p0 (QjM F.t p0)) F.n⟩
theorem Fit.chain (F:Fit s N Kg Kq K p) (p0:p≠[]):ChOk K p.length (frP p) (deP (frP p))∧∀ q∈chP p,SzL K q∧q.length≤N:=by
 have hBB:BB=1000000000:=rfl
 obtain ⟨Q,nf⟩:=F.free p0
 obtain ⟨_,_,F2⟩:=F.quo p0
 have nd:=QkO (QhZ p)
 have pl:=List.length_pos_iff.2 p0
 have fl:=QfX (QhZ p) F.t p0 (QjM F.t p0)
 have fpos:=List.length_pos_iff.2 (Qqh F.t p0)
 have l:=F.l
 have N9:=F.N9
 have key:∀ r M,HL r r (frP p)→HL r r (deP (frP p))→(frP p).length≤M→(r+1)*3^M≤K→ChOk K p.length (frP p) (deP (frP p))∧∀ q∈chL p.length (frP p) (deP (frP p)),SzL K q∧q.length≤(deP (frP p)).length:=by
  intro r M h1 h2 hM hK
  refine ch_pot p.length r (frP p) (deP (frP p)) h1 h2 (Qdu _) (by omega) (by omega) ?_
  rw [Nat.mul_assoc]
  refine Nat.le_trans (Nat.mul_le_mul_left _ ?_) hK
  have h3:(dvN (frP p) (deP (frP p))+1)*3^(deP (frP p)).length=3^(frP p).length:=by
   have e:dvN (frP p) (deP (frP p))+1=3:=by unfold dvN;omega
   rw [e,nd,show (frP p).length=((frP p).length-1)+1 by omega,Nat.pow_succ,Nat.add_sub_cancel,Nat.mul_comm]
  rw [h3]
  exact Nat.pow_le_pow_right (by decide) hM
 have k:ChOk K p.length (frP p) (deP (frP p))∧∀ q∈chL p.length (frP p) (deP (frP p)),SzL K q∧q.length≤(deP (frP p)).length:=by
  rcases F2 with F2 | F2
  ·exact key (s+1) N (F2.mono (by omega) (by omega)) ((F2.de (by omega)).mono (by omega) (by omega)) nf l.1
  ·exact key (Kq+1) (N-1) (Q.mono (by omega) (by omega)) ((Q.de (by omega)).mono (by omega) (by omega)) F2 F.f
 refine ⟨k.1,fun q hq=>?_⟩
 rw [chP,if_neg p0] at hq
 rcases List.mem_cons.1 hq with rfl | hq
 ·exact ⟨Q.sz.mono (by omega),nf⟩
 ·exact ⟨(k.2 q hq).1,by have:=(k.2 q hq).2;omega⟩
theorem Fit.clen (F:Fit s N Kg Kq K p):(chP p).length≤N+1:=by
 have:=F.n
 unfold chP
 split
 ·simp
 ·rw [List.length_cons];have:=chL_len p.length (frP p) (deP (frP p));omega
end
section
variable [Its] {s N Kg Kq K:Nat} {dp:D} {p:List Rat}
theorem Fit.sChain (F:Fit s N Kg Kq K p) (hp:RwR dp p) (p0:p≠[]):∃ ds,Dls ds (chP p)∧Qah G Qcy [dp]=some (.own 1 ds.length ds):=by
 have hn:=F.n
 have N9:=F.N9
 have l:=F.l
 have gl:=gcd_len7 (M:=N) (b:=deP p) hn (by have:=Qsk p;omega)
 obtain ⟨g1,_,Hg⟩:=F.gcd p0
 obtain ⟨z,x,_⟩:=F.quo p0
 obtain ⟨Q,nf⟩:=F.free p0
 have fr:=QhT hp (by omega) (K:=Kq+1) (by omega) (by omega) (F.H.sz.mono (by omega)) (F.d.sz.mono (by omega)) (QoE (by omega) _ _ _ g1) (by omega) (Hg.sz.mono (by omega)) (QlZ (by omega) _ _ x) (z.sz.mono (by omega))
 exact Qjh (K:=K) p0 (by omega) fr (Qqh F.t p0) (by omega) (Q.sz.mono (by omega)) (F.chain p0).1 (by omega) (by omega)
theorem Fit.rChain (F:Fit s N Kg Kq K p) (hp:RwR dp p) (p0:p≠[]):∃ ds,Dls ds (chP p)∧Qah G QcV [dp]=some (.own 1 ds.length ds):=by
 have hn:=F.n
 have N9:=F.N9
 have l:=F.l
 obtain ⟨g1,g2,Hg⟩:=F.gcd p0
 obtain ⟨z,x,_⟩:=F.quo p0
 obtain ⟨Q,nf⟩:=F.free p0
 have fr:=Qq1 hp F.t Qhq (by omega) (K:=Kq+1) (by omega) (by omega) (F.H.sz.mono (by omega)) (F.d.sz.mono (by omega)) (QoE (by omega) _ _ _ g1) (QsH (by omega) _ _ _ g2) (Hg.mono (by omega) (by omega)) (Hg.sz.mono (by omega)) (QlZ (by omega) _ _ x) (z.sz.mono (by omega))
 exact Qrt (K:=K) hp p0 (by omega) fr (QhZ p) (by omega) (Q.sz.mono (by omega)) (F.chain p0).1 (by omega) (by omega)
end
end Go.AM

/- law07.SturmChains: one round. -/
namespace Go.AM
open Go Go.RowKit
variable [Its]
section
variable {dl:D} {ps:List (List Rat)} {a:Rat} {K:Nat}
variable [ItsB]
end
end Go.AM

/- ref07.Made: a polynomial with known zeros. -/
namespace Go.AM
open Go Go.RowKit
theorem QhW:A.bool? (.d (.v (.tuple #[])))=none:=rfl
def kZ:List Rat→Rat→Nat
 | [],_=>0
 | a :: l,z=>if a<z then kZ l z+1 else 0
def insZ (zs:List Rat) (z:Rat):List Rat:=if kZ zs z<zs.length∧zs.getD (kZ zs z) 0=z then zs else zs.take (kZ zs z)++z :: zs.drop (kZ zs z)
theorem kZ_le:∀ (l:List Rat) (z:Rat),kZ l z≤l.length
 | [],z=>Nat.le_refl _
 | a :: l,z=>by
  rw [kZ]
  have:=kZ_le l z
  split
  ·rw [List.length_cons];omega
  ·omega
theorem insZ_len (zs:List Rat) (z:Rat):(insZ zs z).length≤zs.length+1:=by
 unfold insZ
 split
 ·omega
 ·have:=kZ_le zs z
  simp only [List.length_append,List.length_take,List.length_cons,List.length_drop];omega
theorem insZ_mem {zs:List Rat} {z q:Rat} (h:q∈insZ zs z):q∈zs∨q=z:=by
 unfold insZ at h
 split at h
 ·exact .inl h
 ·rcases List.mem_append.1 h with h | h
  ·exact .inl (List.mem_of_mem_take h)
  ·rcases List.mem_cons.1 h with h | h
   ·exact .inr h
   ·exact .inl (List.mem_of_mem_drop h)
def kst (d:D) (w:Int) (dp dz:D) (i:Int) (z:Rat) (k:Int):St:=mkS [(0,.d d),(1,ai w),(6,.d dp),(7,.d dz),(8,ai i),(9,.ptr [9] 0),(10,ai k)] [([9],boxR z)]
def mdo (d:D) (w:Int) (dp dz:D) (i:Int):St:=mkS [(0,.d d),(1,ai w),(6,.d dp),(7,.d dz),(8,ai i)] []
def mde (w:Int) (dp dz:D):St:=mkS [(1,ai w),(6,.d dp),(7,.d dz)] []
variable [Its]
section
variable {d dp dz:D} {w:Int} {zs:List Rat} {z:Rat}
theorem mk_go (hz:RwR dz zs) (nz:zs.length≤1000) (sz1:SzL 1000 zs) (hs:sz z≤1000) {i:Int} {k:Nat} (hk:k<zs.length) :
    X G Qbo (kst d w dp dz i z k)=if zs.getD k 0<z then some (.n,kst d w dp dz i z ((k+1:Nat):Int)) else some (.x 2,kst d w dp dz i z k):=by
  have e1:decide ((k:Int)<(zs.length:Int))=true:=lt_t (by omega)
  have e2:w64 ((k:Int)+1)=((k+1:Nat):Int):=by rw [Qae (by omega) (by omega)];rfl
  obtain ⟨m,hm⟩:∃ m:Int,(zs.length:Int)-1=m:=⟨_,rfl⟩
  have e3:w64 ((zs.length:Int)-1)=m:=by rw [Qae (by omega) (by omega),hm]
  have e4:(if m<(k:Int) then m else (k:Int))=(k:Int):=if_neg (by omega)
  have ll:=hz.len
  have x1:=hz.ixa hk
  have x2:=fun h=>ldR h zs hk
  have s1:=sz1.getD (by omega) k
  have g1:=Qda (a:=zs.getD k 0) (b:=z) (by omega) (by omega)
  have t:=QqN (a:=zs.getD k 0) (b:=z)
  generalize zs.getD k 0=u at *
  generalize cRs (zs.drop k)=cs at *
  generalize cmpR u z=c at *
  simp only [encR,iv] at g1 x2
  by_cases h:u<z
  · have t1:decide (c<0)=true:=lt_t (t.2 h)
    rw [if_pos h]
    simp -implicitDefEqProofs (maxSteps:=9^8) only [Qbo,kst,boxR,mnV,QfB,ll,x1,x2,g1,e1,e2,e3,e4,t1,ld4q,Qaa,go_sem,iv,bv,reduceCtorEq,↓reduceIte,Nat.reduceEqDiff]
  · have t1:decide (c<0)=false:=lt_f (fun h2=>h (t.1 h2))
    rw [if_neg h]
    simp -implicitDefEqProofs (maxSteps:=9^8) only [Qbo,kst,boxR,mnV,QfB,ll,x1,x2,g1,e1,e2,e3,e4,t1,ld4q,Qaa,go_sem,iv,bv,reduceCtorEq,↓reduceIte,Nat.reduceEqDiff]
theorem mk_stop (hz:RwR dz zs) {i:Int}:X G Qbo (kst d w dp dz i z zs.length)=some (.x 2,kst d w dp dz i z zs.length):=by
 have e1:decide ((zs.length:Int)<(zs.length:Int))=false:=lt_f (by omega)
 have ll:=hz.len
 simp -implicitDefEqProofs (maxSteps:=9^8) only [Qbo,kst,boxR,ll,e1,QhW,decide_false,Bool.false_eq_true,if_false,Qaa,go_sem,iv,bv,reduceCtorEq,↓reduceIte,Nat.reduceEqDiff]
theorem mk_loop (hz:RwR dz zs) (nz:zs.length≤1000) (sz1:SzL 1000 zs) (hs:sz z≤1000) {i:Int}:∀ (j k:Nat),j+k=zs.length →
    X G (.loop Qbo) (kst d w dp dz i z k)=some (.x 2,kst d w dp dz i z ((k+kZ (zs.drop k) z:Nat):Int))
  | 0,k,h=>by
    have:k=zs.length:=by omega
    subst this
    rw [Qai,mk_stop hz,List.drop_length];rfl
  | j+1,k,h=>by
    have hk:k<zs.length:=by omega
    have e:zs.drop k=zs.getD k 0 :: zs.drop (k+1):=by
      rw [List.drop_eq_getElem_cons hk,List.getD_eq_getElem?_getD,List.getElem?_eq_getElem hk];rfl
    rw [Qai,mk_go hz nz sz1 hs hk,e,kZ]
    by_cases h2:zs.getD k 0<z
    · rw [if_pos h2,if_pos h2,Option.bind_some,if_pos rfl,mk_loop hz nz sz1 hs j (k+1) (by omega)]
      rw [show k+1+kZ (zs.drop (k+1)) z=k+(kZ (zs.drop (k+1)) z+1) by omega]
    · rw [if_neg h2,if_neg h2,Option.bind_some];rfl
end
end Go.AM

/- ref07.Made: one round, the loop, the function. -/
namespace Go.AM
open Go Go.RowKit
noncomputable def mdR (s:List Rat×List Rat) (z:Rat):List Rat×List Rat:=(muP s.1 (Qay [-z,1]),insZ s.2 z)
theorem Qkg (l:List D) (a b c e:D):allD (l.map A.d++[.d a,.d b,.d c,.d e])=some (l++[a,b,c,e]):=by
 have h:l.map A.d++[.d a,.d b,.d c,.d e]=(l++[a,b,c,e]).map A.d:=by simp
 rw [h,Qej]
theorem Qp3 (ks:List Key) (l:List D) (a b c e:D):Qdo ks (l.map A.d++[.d a,.d b,.d c,.d e])=true:=by
 have h:l.map A.d++[.d a,.d b,.d c,.d e]=(l++[a,b,c,e]).map A.d:=by simp
 rw [h,QgE]
theorem len_app4 (l:List D) (a b c e:A) (k:Nat) (h:l.length=k*4):((l.map A.d++[a,b,c,e]).length=(k+1)*4)=True:=eq_true (by rw [List.length_append,List.length_map,h];simp only [List.length_cons,List.length_nil];omega)
theorem ins_row (A B:List Rat) (z:Rat) (n:Nat) (h:n=A.length+1+B.length):RwR (.row n (cRs A++[.v (.bool (decide (z.num<0))),dg (digs z.num.natAbs),.v (.bool false),dg (dd z.den)]++cRs B)) (A++z :: B):=by
 right
 have e:A++z :: B=A++[z]++B:=by simp
 rw [e,rowR,QiM,QiM,h]
 congr 1
 simp only [List.length_append,List.length_cons,List.length_nil]
variable [Its]
section
variable {d dp dz:D} {w:Int} {zs l:List Rat} {p:List Rat} {z:Rat}
theorem md_round {lI:List Int} (hr:Rw d lI) (hz:RwR dz zs) (nz:zs.length≤1000) (sz1:SzL 1000 zs) {i:Nat} (hi:i<lI.length) (hi4:i<4) (hx:I64 (lI.getD i 0)) (e:smR (lI.getD i 0)=z) (hp:RwR dp p) (Hp:HL 100 100 p) (np:p.length≤100) :
    ∃ d' dz',RwR d' (muP p (Qay [-z,1]))∧RwR dz' (insZ zs z)∧X G QaA (mdo d w dp dz i)=some (.n,mdo d w d' dz' ((i+1:Nat):Int)):=by
  have Hz:H1 1 1 z:=by rw [← e];exact QpC _
  have hs:sz z≤2:=Hz.sz
  have F2:HL 1 1 [-z,1]:=(HL.cons Hz.neg (HL.one H1.one)).mono (by omega) (by omega)
  obtain ⟨d1,r1,g1⟩:=Qcu (RwR.row [-z,1]) (by simp only [List.length_cons,List.length_nil];omega) (F2.sz.mono (by omega))
  have n1:(Qay [-z,1]).length≤2:=Qcm _
  obtain ⟨d',r2,g2⟩:=Qhn hp r1 Hp F2.trim (by omega) (by omega) (by omega) (by omega)
  have g3:=QgO (a:=z) (by omega)
  have o:=QkT
  have gS:=Qhk hx
  rw [e] at gS
  have e1:decide ((i:Int)<(lI.length:Int))=true:=lt_t (by omega)
  have e2:decide ((i:Int)<4)=true:=lt_t (by omega)
  have e3:w64 ((i:Int)+1)=((i+1:Nat):Int):=by rw [Qae (by omega) (by omega)];rfl
  have lI':=hr.len
  have y1:=hr.ixn hi
  have y2:=fun h=>ldv h lI hi
  have g0:=mk_loop (d:=d) (w:=w) (dp:=d') hz nz sz1 (z:=z) (by omega) (i:=i) zs.length 0 (by omega)
  rw [List.drop_zero,Nat.zero_add] at g0
  have ll:=hz.len
  obtain ⟨m,hm⟩:∃ m:Int,(zs.length:Int)-1=m:=⟨_,rfl⟩
  have e5:w64 ((zs.length:Int)-1)=m:=by rw [Qae (by omega) (by omega),hm]
  have z0:((0:Nat):Int)=0:=rfl
  rw [z0] at g0
  have kle:=kZ_le zs z
  have s1:=sz1.getD (by omega) (kZ zs z)
  have gC:=Qda (a:=zs.getD (kZ zs z) 0) (b:=z) (by omega) (by omega)
  have tt:=cmpR_eq (a:=zs.getD (kZ zs z) 0) (b:=z)
  have hx1:kZ zs z<zs.length→∀ h,ixaA h 4 ((kZ zs z:Nat):Int) (.d dz)=some (.d (.rp (cRs (zs.drop (kZ zs z))))):=fun hk=>hz.ixa hk
  have hx2:kZ zs z<zs.length→∀ h,Qco h (some 4) (.d (.rp (cRs (zs.drop (kZ zs z)))))=some (.d (encR (zs.getD (kZ zs z) 0))):=fun hk h=>ldR h zs hk
  have hA:(zs.take (kZ zs z)).length=kZ zs z:=by rw [List.length_take];omega
  have hB:(zs.drop (kZ zs z)).length=zs.length-kZ zs z:=List.length_drop
  have T1:(cRs zs).take (kZ zs z*4)=cRs (zs.take (kZ zs z)):=Qkw _ _
  have T2:((cRs zs).drop (kZ zs z*4)).take ((zs.length-kZ zs z)*4)=cRs (zs.drop (kZ zs z)):=by
    rw [QjL,← hB,← QdQ];exact List.take_length
  unfold insZ
  refine ⟨d', ?_⟩
  have q1:=QiZ (digs z.num.natAbs)
  have q2:=QiZ (dd z.den)
  have b4:(4=1*4)=True:=eq_true rfl
  have b64:(1*64≤bound)=True:=eq_true (by unfold bound;omega)
  have b0:(0≤bound)=True:=eq_true (by omega)
  generalize kZ zs z=k at *
  generalize zs.getD k 0=u at *
  generalize cmpR u z=c at *
  generalize lI.getD i 0=x at *
  clear Hz F2 Hp e hp sz1 s1
  simp only [rowR,cRs,List.length_cons,List.length_nil,Nat.reduceAdd] at g1
  have e6:decide ((k:Int)<(zs.length:Int))=decide (k<zs.length):=by simp
  by_cases hk:k<zs.length∧u=z
  · rw [if_pos hk]
    refine ⟨dz,r2,hz, ?_⟩
    have x1:=hx1 hk.1
    have x2:=hx2 hk.1
    have t1:(c==0)=true:=QkI (tt.2 hk.2)
    rw [decide_eq_true hk.1] at e6
    have e4:(if m<(k:Int) then m else (k:Int))=(k:Int):=if_neg (by omega)
    clear tt T1 T2 hA hB r1 r2 n1
    generalize -z=nz' at *
    generalize (1:Rat)=one at *
    generalize cRs (zs.drop k)=cs at *
    simp only [encR,iv] at gC x2 g3 o gS
    simp only [kst,boxR,go_sem] at g0
    simp -implicitDefEqProofs (maxSteps:=9^8) only [QaA,mdo,mnV,QfB,lI',y1,y2,ll,x1,x2,g0,g1,g2,g3,gS,gC,o,e1,e2,e3,e4,e5,e6,t1,Qnf,st4q,ld4q,Qaa,go_sem,iv,bv,reduceCtorEq,↓reduceIte,Nat.reduceEqDiff]
  · rw [if_neg hk]
    have ir:=ins_row (zs.take k) (zs.drop k) z
    have qqB:=Qqx (zs.drop k)
    have lA:=QdQ (zs.take k)
    have lB:=QdQ (zs.drop k)
    rw [hA] at lA
    rw [hB] at lB
    have he4:k<zs.length→(if m<(k:Int) then m else (k:Int))=(k:Int):=fun h=>if_neg (by omega)
    have ht1:k<zs.length→(c==0)=false:=fun h=>Qcx (fun h2=>hk ⟨h,tt.1 h2⟩)
    clear tt hk
    have hz2:(dz=.z true∧zs=[])∨dz=.row zs.length (cRs zs):=hz
    clear hz
    rcases hz2 with ⟨hz2,hz3⟩ | hz2
    · subst hz2
      subst hz3
      have hk0:k=0:=by simpa using kle
      subst hk0
      simp only [List.length_nil] at e5 e6 ll
      refine ⟨_,r2,ir (1+0) rfl, ?_⟩
      clear r1 r2 n1 ir hx1 hx2 he4 ht1 T1 T2 hA hB lA lB qqB
      have e6:decide ((0:Int)<0)=false:=rfl
      generalize -z=nz' at *
      generalize (1:Rat)=one at *
      simp only [encR,iv] at gC g3 o gS
      simp only [kst,boxR,z0,go_sem] at g0
      simp -implicitDefEqProofs (maxSteps:=9^8) only [QaA,mdo,lI',y1,y2,ll,g0,g1,g2,g3,gS,o,e1,e2,e3,e6,b4,b64,b0,z0,q1,q2,QhW,decide_false,Bool.false_eq_true,if_false,List.take_nil,List.drop_nil,cRs,Qdo,List.all_nil,List.all_cons,Bool.and_self,List.append_nil,List.nil_append,Nat.zero_le,Int.le_refl,and_self,if_true,src,srcS,allD,Qbl,ne_eq,not_true,not_false_eq_true,Nat.le_refl,Nat.add_zero,QdY,QbY,Qg7,Qnf,st4q,ld4q,Qaa,go_sem,iv,bv,reduceCtorEq,↓reduceIte,Nat.reduceEqDiff]
    · subst hz2
      have c1:((0:Int)≤(k:Int))=True:=eq_true (by omega)
      have c2:((k:Int)≤(zs.length:Int))=True:=eq_true (by omega)
      have c3:(k*64≤bound)=True:=eq_true (by unfold bound;omega)
      have c4:((cRs (zs.take k)).length=k*4)=True:=eq_true lA
      have c5:((cRs (zs.drop k)).length=(zs.length-k)*4)=True:=eq_true lB
      have c6:((k+1+(zs.length-k))*64≤bound)=True:=eq_true (by unfold bound;omega)
      have c7:((1+(zs.length-k))*64≤bound)=True:=eq_true (by unfold bound;omega)
      have c8:((k+1)*64≤bound)=True:=eq_true (by unfold bound;omega)
      have c9:((cRs (zs.take k)).length+(0+1+1+1+1)=(k+1)*4)=True:=eq_true (by rw [lA];omega)
      have c10:((List.map A.d (cRs (zs.take k))).length=k*4)=True:=eq_true (by rw [List.length_map];exact lA)
      have c11:=fun a b c e=>len_app4 (cRs (zs.take k)) a b c e k lA
      have qqA:=QaQ [[77]] (zs.take k)
      by_cases hk0:k=0
      · subst hk0
        have hA0:zs.take 0=[]:=rfl
        rw [hA0] at *
        refine ⟨_,r2,ir (1+(zs.length-0)) (by rw [hB];rfl), ?_⟩
        by_cases hn:0<zs.length
        · have x1:=hx1 hn
          have x2:=hx2 hn
          have e4:=he4 hn
          have t1:=ht1 hn
          rw [decide_eq_true hn] at e6
          clear hx1 hx2 he4 ht1
          clear r1 r2 n1 ir hA hB lA lB
          generalize cRs (zs.drop 0)=cb at *
          generalize cRs zs=cz at *
          generalize zs.length=n at *
          generalize -z=nz' at *
          generalize (1:Rat)=one at *
          simp only [z0,Nat.zero_mul,List.drop_zero,List.take_zero,Nat.sub_zero] at T1 T2 c1 c2 c3 c4 c5 c6 c7 c8 c9 e6 x1 x2 e4 t1 g0
          simp only [encR,iv] at gC x2 g3 o gS
          simp only [kst,boxR,go_sem] at g0
          simp -implicitDefEqProofs (maxSteps:=9^8) only [QaA,mdo,mnV,QfB,lI',y1,y2,ll,x1,x2,gC,e4,t1,g0,g1,g2,g3,gS,o,e1,e2,e3,e5,e6,b4,b64,b0,z0,q1,q2,T2,c1,c2,c3,c4,c5,c6,c7,c8,c9,qqA,qqB,QhW,decide_false,Bool.false_eq_true,if_false,cRs,Qdo,List.all_nil,List.all_cons,Bool.and_self,List.append_nil,List.nil_append,Nat.zero_le,Int.le_refl,and_self,if_true,src,srcS,allD,Qkg,Qbl,ne_eq,not_true,not_false_eq_true,Nat.le_refl,Nat.add_zero,QdY,QbY,QgE,Qg7,Qnf,st4q,ld4q,Qaa,go_sem,iv,bv,reduceCtorEq,↓reduceIte,Nat.reduceEqDiff]
        · rw [decide_eq_false hn] at e6
          clear hx1 hx2 he4 ht1
          clear r1 r2 n1 ir hA hB lA lB
          generalize cRs (zs.drop 0)=cb at *
          generalize cRs zs=cz at *
          generalize zs.length=n at *
          generalize -z=nz' at *
          generalize (1:Rat)=one at *
          simp only [z0,Nat.zero_mul,List.drop_zero,List.take_zero,Nat.sub_zero] at T1 T2 c1 c2 c3 c4 c5 c6 c7 c8 c9 e6 g0
          simp only [encR,iv] at gC g3 o gS
          simp only [kst,boxR,go_sem] at g0
          simp -implicitDefEqProofs (maxSteps:=9^8) only [QaA,mdo,mnV,QfB,lI',y1,y2,ll,g0,g1,g2,g3,gS,o,e1,e2,e3,e5,e6,b4,b64,b0,z0,q1,q2,T2,c1,c2,c3,c4,c5,c6,c7,c8,c9,qqA,qqB,QhW,decide_false,Bool.false_eq_true,if_false,cRs,Qdo,List.all_nil,List.all_cons,Bool.and_self,List.append_nil,List.nil_append,Nat.zero_le,Int.le_refl,and_self,if_true,src,srcS,allD,Qkg,Qbl,ne_eq,not_true,not_false_eq_true,Nat.le_refl,Nat.add_zero,QdY,QbY,QgE,Qg7,Qnf,st4q,ld4q,Qaa,go_sem,iv,bv,reduceCtorEq,↓reduceIte,Nat.reduceEqDiff]
      · have hk1:(k=0)=False:=eq_false hk0
        refine ⟨_,r2,ir (k+1+(zs.length-k)) (by rw [hA,hB]), ?_⟩
        by_cases hn:k<zs.length
        · have x1:=hx1 hn
          have x2:=hx2 hn
          have e4:=he4 hn
          have t1:=ht1 hn
          rw [decide_eq_true hn] at e6
          clear hx1 hx2 he4 ht1
          clear r1 r2 n1 ir hA hB lA lB
          generalize cRs (zs.drop k)=cb at *
          generalize cRs (zs.take k)=ca at *
          generalize cRs zs=cz at *
          generalize zs.length=n at *
          generalize -z=nz' at *
          generalize (1:Rat)=one at *
          simp only [encR,iv] at gC x2 g3 o gS
          simp only [kst,boxR,go_sem] at g0
          simp -implicitDefEqProofs (maxSteps:=9^8) only [QaA,mdo,mnV,QfB,lI',y1,y2,ll,x1,x2,gC,e4,t1,g0,g1,g2,g3,gS,o,e1,e2,e3,e5,e6,b4,b64,b0,z0,q1,q2,T1,T2,c1,c2,c3,c4,c5,c6,c7,c8,c9,c10,c11,qqA,hk1,Qkq,Qp3,qqB,QhW,decide_false,Bool.false_eq_true,if_false,cRs,Qdo,List.all_nil,List.all_cons,Bool.and_self,List.append_nil,List.nil_append,Nat.zero_le,Int.le_refl,and_self,if_true,src,srcS,allD,Qkg,Qbl,ne_eq,not_true,not_false_eq_true,Nat.le_refl,Nat.add_zero,QdY,QbY,QgE,Qg7,Qnf,st4q,ld4q,Qaa,go_sem,iv,bv,reduceCtorEq,↓reduceIte,Nat.reduceEqDiff]
        · rw [decide_eq_false hn] at e6
          clear hx1 hx2 he4 ht1
          clear r1 r2 n1 ir hA hB lA lB
          generalize cRs (zs.drop k)=cb at *
          generalize cRs (zs.take k)=ca at *
          generalize cRs zs=cz at *
          generalize zs.length=n at *
          generalize -z=nz' at *
          generalize (1:Rat)=one at *
          simp only [encR,iv] at gC g3 o gS
          simp only [kst,boxR,go_sem] at g0
          simp -implicitDefEqProofs (maxSteps:=9^8) only [QaA,mdo,mnV,QfB,lI',y1,y2,ll,g0,g1,g2,g3,gS,o,e1,e2,e3,e5,e6,b4,b64,b0,z0,q1,q2,T1,T2,c1,c2,c3,c4,c5,c6,c7,c8,c9,c10,c11,qqA,hk1,Qkq,Qp3,qqB,QhW,decide_false,Bool.false_eq_true,if_false,cRs,Qdo,List.all_nil,List.all_cons,Bool.and_self,List.append_nil,List.nil_append,Nat.zero_le,Int.le_refl,and_self,if_true,src,srcS,allD,Qkg,Qbl,ne_eq,not_true,not_false_eq_true,Nat.le_refl,Nat.add_zero,QdY,QbY,QgE,Qg7,Qnf,st4q,ld4q,Qaa,go_sem,iv,bv,reduceCtorEq,↓reduceIte,Nat.reduceEqDiff]
end
end Go.AM

/- ref07.Made. -/
namespace Go.AM
open Go Go.RowKit
noncomputable def mdF (L:List Int) (s:List Rat×List Rat):List Rat×List Rat:=(L.map smR).foldl mdR s
noncomputable def md0:List Rat:=Qay [Rat.divInt 2 3]
noncomputable def mdP (L:List Int) (w:Int):List Rat:=if w.tmod 2≠0 then muP (mdF (L.take 4) (md0,[])).1 (Qay [1,0,1]) else (mdF (L.take 4) (md0,[])).1
noncomputable def mdZ (L:List Int):List Rat:=(mdF (L.take 4) (md0,[])).2
structure MdI (i:Nat) (s:List Rat×List Rat):Prop where
 H:HL (1+i) (1+2*i) s.1
 t:Trm s.1
 n:s.1.length≤i+1
 m:s.2.length≤i
 z:∀ q∈s.2,∃ k,q=smR k
theorem MdI.step {i:Nat} {s:List Rat×List Rat} (M:MdI i s) (hi:i≤10) (x:Int):MdI (i+1) (mdR s (smR x)):=by
 have hBB:BB=1000000000:=rfl
 have F2:HL 1 1 [-smR x,1]:=(HL.cons (QpC x).neg (HL.one H1.one)).mono (by omega) (by omega)
 have n1:(Qay [-smR x,1]).length≤2:=Qcm _
 have nm:=M.n
 refine ⟨(M.H.mu F2.trim (by omega)).mono (by omega) (by omega),Qjb _ _, ?_, ?_, ?_⟩
 ·have:=Qm4 s.1 (Qay [-smR x,1])
  show (muP s.1 (Qay [-smR x,1])).length≤_
  omega
 ·have:=insZ_len s.2 (smR x)
  have:=M.m
  show (insZ s.2 (smR x)).length≤_
  omega
 ·intro q hq
  rcases insZ_mem hq with h | h
  ·exact M.z q h
  ·exact ⟨x,h⟩
theorem md0_H:HL 1 1 [Rat.divInt 2 3]:=HL.one ⟨(3:Int).natAbs,by decide,by rw [Nat.pow_one];decide,(Hq.div (n:=2) (d:=3) (by omega)).le (by rw [Nat.pow_one];decide)⟩
theorem MdI.zero:MdI 0 (md0,[]):=⟨md0_H.trim.mono (by omega) (by omega),QaO _,Qcm _,Nat.le_refl _,fun q h=>by simp at h⟩
theorem MdI.fold:∀ (L:List Int) {i:Nat} {s:List Rat×List Rat},MdI i s→i+L.length≤10→MdI (i+L.length) (mdF L s)
 | [],i,s,M,h=>M
 | x :: L,i,s,M,h=>by
  rw [List.length_cons] at h
  have:=MdI.fold L (M.step (by omega) x) (by omega)
  rw [List.length_cons,show i+(L.length+1)=i+1+L.length by omega]
  exact this
theorem wild_H:HL 0 1 [1,0,1]:=by
 refine ⟨1,by omega,by simp,fun q hq=>?_⟩
 have hBB:BB=1000000000:=rfl
 have h1:Hq 1 (BB^1) 1:=by
  have:=(Hq.div (n:=1) (d:=1) (by omega)).le (show (1:Int).natAbs≤BB^1 by rw [Nat.pow_one];decide)
  rwa [Qct] at this
 have h0:Hq 1 (BB^1) 0:=by
  have:=(Hq.div (n:=0) (d:=1) (by omega)).le (show (0:Int).natAbs≤BB^1 by simp)
  rwa [Qct] at this
 simp only [List.mem_cons,List.not_mem_nil,or_false] at hq
 rcases hq with rfl | rfl | rfl
 ·exact h1
 ·exact h0
 ·exact h1
theorem mdP_ok (L:List Int) (w:Int):HL 5 11 (mdP L w)∧Trm (mdP L w)∧(mdP L w).length≤7:=by
 have hBB:BB=1000000000:=rfl
 have l4:(L.take 4).length≤4:=List.length_take_le _ _
 have M:=MdI.fold (L.take 4) MdI.zero (by omega)
 have n1:(Qay [(1:Rat),0,1]).length≤3:=Qcm _
 have n:=M.n
 unfold mdP
 split
 ·refine ⟨(M.H.mu wild_H.trim (by omega)).mono (by omega) (by omega),Qjb _ _, ?_⟩
  have:=Qm4 (mdF (L.take 4) (md0,[])).1 (Qay [1,0,1])
  omega
 ·exact ⟨M.H.mono (by omega) (by omega),M.t,by omega⟩
variable [Its]
section
variable {d dp dz:D} {w:Int} {zs:List Rat} {p:List Rat} {lI:List Int}
theorem mde_stop (hr:Rw d lI) {i:Nat} (h:i=min lI.length 4):X G QaA (mdo d w dp dz i)=some (.x 0,mde w dp dz):=by
 have ll:=hr.len
 by_cases hl:lI.length≤i
 ·have e1:decide ((i:Int)<(lI.length:Int))=false:=lt_f (by omega)
  simp -implicitDefEqProofs (maxSteps:=9^8) only [QaA,mdo,mde,ll,e1,QhW,decide_false,Bool.false_eq_true,if_false,Qaa,go_sem,iv,bv,reduceCtorEq,↓reduceIte,Nat.reduceEqDiff]
 ·have e1:decide ((i:Int)<(lI.length:Int))=true:=lt_t (by omega)
  have e2:decide ((i:Int)<4)=false:=lt_f (by omega)
  simp -implicitDefEqProofs (maxSteps:=9^8) only [QaA,mdo,mde,ll,e1,e2,Qaa,go_sem,iv,bv,reduceCtorEq,↓reduceIte,Nat.reduceEqDiff]
theorem QsG      (hr:Rw d lI) (hl:∀ n∈lI,I64 n):∀ (j i:Nat) (p zs:List Rat) (dp dz:D),i+j=min lI.length 4→MdI i (p,zs)→RwR dp p→RwR dz zs →
    ∃ dp' dz',RwR dp' (mdF ((lI.drop i).take j) (p,zs)).1∧RwR dz' (mdF ((lI.drop i).take j) (p,zs)).2∧X G (.loop QaA) (mdo d w dp dz i)=some (.x 0,mde w dp' dz')
  | 0,i,p,zs,dp,dz,h,M,hp,hz=>⟨dp,dz,hp,hz,by rw [Qai,mde_stop hr (by omega)];rfl⟩
  | j+1,i,p,zs,dp,dz,h,M,hp,hz=>by
    have hi:i<lI.length:=by omega
    have hn:p.length≤i+1:=M.n
    have hm:zs.length≤i:=M.m
    have sz1:SzL 1000 zs:=fun q hq=>by
      obtain ⟨k,rfl⟩:=M.z q hq
      exact Nat.le_trans (smR_sz k) (by omega)
    obtain ⟨d1,d2,r1,r2,g⟩:=md_round (w:=w) hr hz (by omega) sz1 hi (by omega) (hl _ (by rw [List.getD_eq_getElem?_getD,List.getElem?_eq_getElem hi];exact List.getElem_mem hi)) rfl hp (M.H.mono (by omega) (by omega)) (by omega)
    have e:lI.drop i=lI.getD i 0 :: lI.drop (i+1):=by
      rw [List.drop_eq_getElem_cons hi,List.getD_eq_getElem?_getD,List.getElem?_eq_getElem hi];rfl
    obtain ⟨d3,d4,r3,r4,g2⟩:=QsG hr hl j (i+1) _ _ d1 d2 (by omega) (M.step (by omega) (lI.getD i 0)) r1 r2
    refine ⟨d3,d4, ?_, ?_, ?_⟩
    · rw [e,List.take_succ_cons];exact r3
    · rw [e,List.take_succ_cons];exact r4
    · rw [Qai,g,Option.bind_some,if_pos rfl];exact g2
theorem Made_spec (hr:Rw d lI) (hl:∀ n∈lI,I64 n) (hw:I64 w):∃ dp dz,RwR dp (mdP lI w)∧RwR dz (mdZ lI)∧Qah G QgA [d,iv w]=some (.d (.tup [dp,dz])):=by
 rw [Qad (cf:=Qea) rfl]
 have o:=Qc3 (n:=2) (d:=3) ⟨by omega,by omega⟩ ⟨by omega,by omega⟩
 obtain ⟨d0,r0,g0⟩:=Qcu (RwR.row [Rat.divInt 2 3]) (by simp only [List.length_cons,List.length_nil];omega) (md0_H.sz.mono (by omega))
 obtain ⟨dp,dz,r1,r2,g⟩:=QsG (w:=w) hr hl (min lI.length 4) 0 md0 [] d0 (.z true) (by omega) MdI.zero r0 .nil
 have et:(lI.drop 0).take (min lI.length 4)=lI.take 4:=by
  rw [List.drop_zero]
  by_cases h:lI.length≤4
  ·rw [Nat.min_eq_left h,List.take_length,List.take_of_length_le h]
  ·rw [Nat.min_eq_right (by omega)]
 rw [et] at r1 r2
 have l4:(lI.take 4).length≤4:=List.length_take_le _ _
 have M:=MdI.fold (lI.take 4) MdI.zero (by omega)
 have n1:(mdF (lI.take 4) (md0,[])).1.length≤5:=Nat.le_trans M.n (by omega)
 have ow:=QkT
 obtain ⟨d1,r3,g3⟩:=Qcu (RwR.row [(1:Rat),0,1]) (by simp only [List.length_cons,List.length_nil];omega) (wild_H.sz.mono (by omega))
 have n2:(Qay [(1:Rat),0,1]).length≤3:=Qcm _
 obtain ⟨d2,r4,g4⟩:=Qhn r1 r3 M.H wild_H.trim (by omega) (by omega) (by omega) (by omega)
 unfold mdP mdZ
 have z0:((0:Nat):Int)=0:=rfl
 rw [z0] at g
 have w1:w64 (w.tmod 2)=w.tmod 2:=by
  have:=Int.tmod_lt_of_pos w (b:=2) (by omega)
  have:=Int.lt_tmod_of_pos w (b:=2) (by omega)
  exact Qae (by omega) (by omega)
 have ez:encR 0=.agg [.v (.bool false),.z true,.v (.bool false),.z true]:=by
  have ez:decide ((0:Rat).num<0)=false:=rfl
  have ez2:dg (digs (0:Rat).num.natAbs)=.z true:=by rw [Rat.zero_num,show (0:Int).natAbs=0 from rfl,Qax];rfl
  have ez3:dg (dd (0:Rat).den)=.z true:=rfl
  rw [encR,ez,ez2,ez3]
 have ez':=ez
 simp only [encR,D.agg.injEq,List.cons.injEq,and_true] at ez'
 clear M r0 n1 n2
 have t20:((2:Int)=0)=False:=eq_false (by decide)
 by_cases h:w.tmod 2=0
 ·rw [if_neg (by simp [h])]
  refine ⟨dp,dz,r1,r2, ?_⟩
  have t:(w.tmod 2 != 0)=false:=QqD h
  clear r1 r2 r3 r4 g3 g4
  simp only [rowR,cRs,List.length_cons,List.length_nil,Nat.reduceAdd] at g0
  generalize Rat.divInt 2 3=q at *
  simp only [encR,iv] at o
  simp only [mdo,mde,go_sem] at g
  simp -implicitDefEqProofs (maxSteps:=9^8) only [Qea,o,g0,g,w1,t,t20,toDs,Qg7,Qaa,go_sem,iv,bv,reduceCtorEq,↓reduceIte,Nat.reduceEqDiff]
 ·rw [if_pos h]
  refine ⟨d2,dz,r4,r2, ?_⟩
  have t:(w.tmod 2 != 0)=true:=QqK h
  clear r1 r2 r3 r4
  simp only [rowR,cRs,List.length_cons,List.length_nil,Nat.reduceAdd,ez'] at g0 g3
  generalize Rat.divInt 2 3=q at *
  generalize (1:Rat)=one at *
  simp only [encR,iv] at o ow
  simp only [mdo,mde,go_sem] at g
  simp -implicitDefEqProofs (maxSteps:=9^8) only [Qea,o,ow,g0,g,g3,g4,w1,t,t20,toDs,Qg7,QpT,Qaa,go_sem,iv,bv,reduceCtorEq,↓reduceIte,Nat.reduceEqDiff]
end
end Go.AM

/- Sturm, plain: bounds of polynomials on an interval; lists of signs. -/
namespace Go.AM
open Go Go.RowKit
def Ab (x C:Rat):Prop:=-C≤x∧x≤C
theorem Ab.mul {x y A B:Rat} (h:Ab x A) (k:Ab y B):Ab (x*y) (A*B):=by
 obtain ⟨h1,h2⟩:=h
 obtain ⟨k1,k2⟩:=k
 have p1:=Rat.mul_nonneg (a:=A-x) (b:=B+y) (by grind) (by grind)
 have p2:=Rat.mul_nonneg (a:=A+x) (b:=B-y) (by grind) (by grind)
 have p3:=Rat.mul_nonneg (a:=A-x) (b:=B-y) (by grind) (by grind)
 have p4:=Rat.mul_nonneg (a:=A+x) (b:=B+y) (by grind) (by grind)
 constructor<;>grind
theorem Ab.add {x y A B:Rat} (h:Ab x A) (k:Ab y B):Ab (x+y) (A+B):=by
 obtain ⟨h1,h2⟩:=h
 obtain ⟨k1,k2⟩:=k
 constructor<;>grind
theorem Ab.nn {x A:Rat} (h:Ab x A):0≤A:=by
 obtain ⟨h1,h2⟩:=h
 grind
theorem Ab.mono {x A B:Rat} (h:Ab x A) (k:A≤B):Ab x B:=by
 obtain ⟨h1,h2⟩:=h
 constructor<;>grind
theorem Ab.zero:Ab 0 0:=by constructor<;>grind
theorem QmO (a:Rat):∃ A,Ab a A:=by
 by_cases h:0≤a
 ·exact ⟨a,by constructor<;>grind⟩
 ·exact ⟨-a,by constructor<;>grind⟩
theorem QrR {x:Rat} (h:0≤x):Ab x x:=by constructor<;>grind
theorem ev_bd2 (R:Rat):∀ l:List Rat,∃ C,0≤C∧∀ x,Ab x R→Ab (evR l x) C
 | []=>⟨0,by grind,fun x h=>Ab.zero⟩
 | a :: l=>by
  obtain ⟨C,c0,hC⟩:=ev_bd2 R l
  obtain ⟨A,hA⟩:=QmO a
  by_cases hR:0≤R
  ·refine ⟨C*R+A, ?_,fun x h=>((hC x h).mul h).add hA⟩
   have:=Rat.mul_nonneg c0 hR
   have:=hA.nn
   grind
  ·exact ⟨0,by grind,fun x h=>absurd h.nn hR⟩
theorem Qo5 (R:Rat):∀ l:List Rat,∃ C,0≤C∧∀ x y,Ab x R→Ab y R→x≤y→Ab (evR l y-evR l x) (C*(y-x))
 | []=>⟨0,by grind,fun x y h k hxy=>by rw [QaG,QaG];constructor<;>grind⟩
 | a :: l=>by
  obtain ⟨B,b0,hB⟩:=ev_bd2 R l
  obtain ⟨C,c0,hC⟩:=Qo5 R l
  by_cases hR:0≤R
  ·refine ⟨B+R*C, ?_,fun x y h k hxy=>?_⟩
   ·have:=Rat.mul_nonneg hR c0
    grind
   ·have h1:=(hB y k).mul (QrR (x:=y-x) (by grind))
    have h2:=h.mul (hC x y h k hxy)
    have h3:=h1.add h2
    have e1:evR (a :: l) y-evR (a :: l) x=evR l y*(y-x)+x*(evR l y-evR l x):=by rw [Qar,Qar];grind
    have e2:(B+R*C)*(y-x)=B*(y-x)+R*(C*(y-x)):=by grind
    rw [e1,e2];exact h3
  ·exact ⟨0,by grind,fun x y h=>absurd h.nn hR⟩
theorem ev_ta2 (R:Rat):∀ l:List Rat,∃ C,0≤C∧∀ x y,Ab x R→Ab y R→x≤y→Ab (evR l y-evR l x-der l x*(y-x)) (C*((y-x)*(y-x)))
 | []=>⟨0,by grind,fun x y h k hxy=>by rw [QaG,QaG,show der [] x=0 from rfl];constructor<;>grind⟩
 | a :: l=>by
  obtain ⟨B,b0,hB⟩:=Qo5 R l
  obtain ⟨C,c0,hC⟩:=ev_ta2 R l
  by_cases hR:0≤R
  ·refine ⟨B+R*C, ?_,fun x y h k hxy=>?_⟩
   ·have:=Rat.mul_nonneg hR c0
    grind
   ·have h1:=(QrR (x:=y-x) (by grind)).mul (hB x y h k hxy)
    have h2:=h.mul (hC x y h k hxy)
    have h3:=h1.add h2
    have ed:der (a :: l) x=evR l x+x*der l x:=rfl
    have e1:evR (a :: l) y-evR (a :: l) x-der (a :: l) x*(y-x)=(y-x)*(evR l y-evR l x)+x*(evR l y-evR l x-der l x*(y-x)):=by rw [Qar,Qar,ed];grind
    have e2:(B+R*C)*((y-x)*(y-x))=(y-x)*(B*(y-x))+R*(C*((y-x)*(y-x))):=by grind
    rw [e1,e2];exact h3
  ·exact ⟨0,by grind,fun x y h=>absurd h.nn hR⟩

/-! ### Signs -/
def sgQ (x:Rat):Int:=Int.sign x.num
theorem Qqn {x:Rat} (h:0<x):sgQ x=1:=Int.sign_eq_one_of_pos (by
 have:=Rat.num_nonneg.2 (Rat.le_of_lt h)
 have h2:x.num≠0:=fun h0=>by
  have:=Rat.num_eq_zero.1 h0
  grind
 omega)
theorem sgQ_0:sgQ 0=0:=rfl
theorem Qpl {x:Rat} (h:x<0):sgQ x = -1:=Int.sign_eq_neg_one_of_neg (by
 have h2:¬ 0≤x.num:=fun h0=>by
  have:=Rat.num_nonneg.1 h0
  grind
 omega)
theorem Qd5 (x:Rat):(0<x∧sgQ x=1)∨(x=0∧sgQ x=0)∨(x<0∧sgQ x = -1):=by
 by_cases h:0<x
 ·exact .inl ⟨h,Qqn h⟩
 ·by_cases h2:x<0
  ·exact .inr (.inr ⟨h2,Qpl h2⟩)
  ·have:x=0:=by grind
   exact .inr (.inl ⟨this,by rw [this];rfl⟩)
def chs:Int→List Int→Nat
 | _,[]=>0
 | s,t :: L=>if t=0 then chs s L else if t=s then chs s L else 1+chs t L
theorem Qo2:∀ (s:Int) (L:List Int),chs s (L.filter fun t=>decide (t≠0))=chs s L
 | _,[]=>rfl
 | s,t :: L=>by
  by_cases h:t=0
  ·rw [List.filter_cons_of_neg (by simp [h]),chs,if_pos h]
   exact Qo2 s L
  ·rw [List.filter_cons_of_pos (by simp [h]),chs,chs,if_neg h,if_neg h,Qo2 s L,Qo2 t L]
theorem Qsz (s t:Int) (L:List Int):∀ i,chN (s :: t :: L) (i+2)=(if t≠s then 1 else 0)+chN (t :: L) (i+1)
 | 0=>by
  show chN (s :: t :: L) 0+_+_=_+(chN (t :: L) 0+_)
  simp [chN]
 | i+1=>by
  show chN (s :: t :: L) (i+2)+(if 1≤i+2∧(s :: t :: L).getD (i+2) 0≠(s :: t :: L).getD (i+2-1) 0 then 1 else 0)=_+(chN (t :: L) (i+1)+(if 1≤i+1∧(t :: L).getD (i+1) 0≠(t :: L).getD (i+1-1) 0 then 1 else 0))
  have e1:(s :: t :: L).getD (i+2) 0=(t :: L).getD (i+1) 0:=rfl
  have e2:(s :: t :: L).getD (i+2-1) 0=(t :: L).getD (i+1-1) 0:=rfl
  rw [Qsz s t L i,e1,e2,← Nat.add_assoc]
  congr 1
  by_cases h:(t :: L).getD (i+1) 0≠(t :: L).getD (i+1-1) 0
  ·rw [if_pos ⟨by omega,h⟩,if_pos ⟨by omega,h⟩]
  ·rw [if_neg (fun k=>h k.2),if_neg (fun k=>h k.2)]
theorem chN_chs:∀ (L:List Int) (s:Int),(∀ t∈L,t≠0)→chN (s :: L) (s :: L).length=chs s L
 | [],s,h=>by simp [chN,chs]
 | t :: L,s,h=>by
  have ih:=chN_chs L t fun u hu=>h u (List.mem_cons_of_mem _ hu)
  have h0:=h t List.mem_cons_self
  rw [List.length_cons,List.length_cons,Qsz]
  rw [List.length_cons] at ih
  rw [ih,chs,if_neg h0]
  by_cases k:t=s
  ·rw [if_neg (by simp [k]),if_pos k,k,Nat.zero_add]
  ·rw [if_pos k,if_neg k]
def sgL (ps:List (List Rat)) (x:Rat):List Int:=ps.map fun p=>sgQ (evR p x)
theorem Qiy (p:List Rat) (ps:List (List Rat)) (x:Rat) (h:evR p x≠0):chg (p :: ps) x=chs (sgQ (evR p x)) (sgL ps x):=by
 unfold chg sgs
 have h0:sgn1 p x≠0:=by
  rcases Qd5 (evR p x) with h1 | h1 | h1
  ·show sgQ (evR p x)≠0;omega
  ·exact absurd h1.1 h
  ·show sgQ (evR p x)≠0;omega
 rw [List.map_cons,List.filter_cons_of_pos (by simp [h0])]
 rw [chN_chs _ _ (fun t ht=>by have:=(List.mem_filter.1 ht).2;simpa using this)]
 exact Qo2 _ _
theorem chg_skip (p:List Rat) (ps:List (List Rat)) (x:Rat) (h:evR p x=0):chg (p :: ps) x=chg ps x:=by
 unfold chg sgs
 have h0:sgn1 p x=0:=by
  show sgQ (evR p x)=0
  rw [h];rfl
 rw [List.map_cons,List.filter_cons_of_neg (by simp [h0])]
inductive Rl:Int→List Int→List Int→Prop
 | nil (s:Int):Rl s [] []
 | big {s t:Int} {L M:List Int}:t≠0→Rl t L M→Rl s (t :: L) (t :: M)
 | sml {s a b:Int} {L M:List Int}:s≠0→(a=0∨a=s∨a = -s)→(b=0∨b=s∨b = -s)→Rl (-s) L M→Rl s (a :: -s :: L) (b :: -s :: M)
theorem chs_sml {s a:Int} (L:List Int) (hs:s≠0) (ha:a=0∨a=s∨a = -s):chs s (a :: -s :: L)=1+chs (-s) L:=by
 have h1:-s≠0:=by omega
 have h2:-s≠s:=by omega
 rw [chs]
 rcases ha with rfl | rfl | rfl
 ·rw [if_pos rfl,chs,if_neg h1,if_neg h2]
 ·rw [if_neg hs,if_pos rfl,chs,if_neg h1,if_neg h2]
 ·rw [if_neg h1,if_neg h2,chs,if_neg h1,if_pos rfl]
theorem Rl.eq {s:Int} {L M:List Int} (h:Rl s L M):chs s L=chs s M:=by
 induction h with
 | nil s=>rfl
 | big h0 _ ih=>rw [chs,chs,if_neg h0,if_neg h0,ih];split<;>simp_all
 | sml h0 ha hb _ ih=>rw [chs_sml _ h0 ha,chs_sml _ h0 hb,ih]
end Go.AM

/- Sturm, plain: a chain on small intervals. -/
namespace Go.AM
open Go Go.RowKit
theorem Qj3 {C η:Rat} (hC:0≤C) (h:0<η):∃ δ,0<δ∧C*δ≤η:=by
 have e:(C+1)*(η*(C+1)⁻¹)=η:=by
  have:=Rat.mul_inv_cancel (C+1) (by grind)
  grind
 generalize η*(C+1)⁻¹=δ at e
 have hd:0<δ:=by
  by_cases k:0<δ
  ·exact k
  ·have:=Rat.mul_nonneg (a:=C+1) (b:=-δ) (by grind) (by grind)
   grind
 exact ⟨δ,hd,by grind⟩
theorem Qp2 {a b:Rat} (ha:0<a) (hb:0<b):∃ c,0<c∧c≤a∧c≤b:=by
 by_cases h:a≤b
 ·exact ⟨a,ha,by grind,h⟩
 ·exact ⟨b,hb,by grind,by grind⟩
theorem QcH {C x y:Rat} (hC:0≤C) (h:x≤y):C*x≤C*y:=Rat.mul_le_mul_of_nonneg_left h hC
theorem QjD {u v η:Rat} (h0:0≤η) (h:¬ Ab u η) (k:Ab (v-u) η):sgQ v=sgQ u∧u≠0:=by
  obtain ⟨k1,k2⟩:=k
  by_cases h1:u>η
  · rw [Qqn (x:=u) (by grind),Qqn (x:=v) (by grind)]
    exact ⟨rfl,by grind⟩
  · have h2 : u < -η := by
      by_cases h2:-η≤u
      · exact absurd ⟨h2,by grind⟩ h
      · grind
    rw [Qpl (x:=u) (by grind),Qpl (x:=v) (by grind)]
    exact ⟨rfl,by grind⟩
theorem sg_opp {u c B:Rat} (hu:Ab u B) (hc:¬ Ab c B):sgQ (u-c) = -sgQ c∧u-c≠0:=by
  obtain ⟨u1,u2⟩:=hu
  by_cases h1:c>B
  · rw [Qqn (x:=c) (by grind),Qpl (x:=u-c) (by grind)]
    exact ⟨rfl,by grind⟩
  · have h2 : c < -B := by
      by_cases h2:-B≤c
      · exact absurd ⟨h2,by grind⟩ hc
      · grind
    rw [Qpl (x:=c) (by grind),Qqn (x:=u-c) (by grind)]
    exact ⟨rfl,by grind⟩
theorem Qpq {x:Rat} (h:x≠0):sgQ x≠0:=by
 rcases Qd5 x with k | k | k
 ·omega
 ·exact absurd k.1 h
 ·omega
theorem Qqk {x y:Rat} (h:x≠0):sgQ y=0∨sgQ y=sgQ x∨sgQ y = -sgQ x:=by
 rcases Qd5 x with k | k | k
 ·rcases Qd5 y with l | l | l<;>omega
 ·exact absurd k.1 h
 ·rcases Qd5 y with l | l | l<;>omega
def nx (L:List (List Rat)) (x:Rat):Rat:=match L with
 | []=>0
 | c :: _=>evR c x
def StOk:List Rat→List (List Rat)→Prop
 | a,[]=>∃ e,e≠0∧∀ x,evR a x=e
 | a,b :: L=>(∃ q,∀ x,evR a x=evR q x*evR b x-nx L x)∧StOk b L
def Loc (R:Rat) (a:List Rat) (L:List (List Rat)):Prop :=
 ∃ η0,0<η0∧∃ β,0<β∧∀ η,0<η→η≤η0→∃ δ,0<δ∧∀ x y,Ab x R→Ab y R→x≤y→y-x≤δ →
  (¬ Ab (evR a x) η→Ab (evR a y-evR a x) η∧Rl (sgQ (evR a x)) (sgL L x) (sgL L y)) ∧
  (Ab (evR a x) η→∃ b L',L=b :: L'∧¬ Ab (evR b x) β∧Ab (evR b y-evR b x) β∧Rl (sgQ (evR b x)) (sgL L' x) (sgL L' y))
theorem loc (R:Rat):∀ (L:List (List Rat)) (a:List Rat),StOk a L→Loc R a L
  | [],a,⟨e,e0,he⟩=>by
    have hη:∃ η0,0<η0∧¬ Ab e η0:=by
      by_cases h:0<e
      · exact ⟨e*(1/2),by grind,fun k=>by have:=k.2;grind⟩
      · exact ⟨-e*(1/2),by grind,fun k=>by have:=k.1;grind⟩
    obtain ⟨η0,h0,h1⟩:=hη
    refine ⟨η0,h0,1,by decide,fun η p1 p2=>⟨1,by decide,fun x y hx hy hxy hd=>⟨fun h=>⟨?_,Rl.nil _⟩,fun h=>?_⟩⟩⟩
    · rw [he,he];constructor<;>grind
    · rw [he] at h;exact absurd (h.mono p2) h1
  | b :: L,a,⟨⟨q,hq⟩,hb⟩=>by
    obtain ⟨η0,p0,β,pβ,hloc⟩:=loc R L b hb
    obtain ⟨Q,q0,hQ⟩:=ev_bd2 R q
    -- how small b may be
    obtain ⟨ρ,r0,hρ⟩:=Qj3 (C:=Q) (η:=β*(1/2)) q0 (by grind)
    obtain ⟨ηb,b0,b1,b2⟩:=Qp2 p0 r0
    obtain ⟨δb,d0,hδ⟩:=hloc ηb b0 b1
    obtain ⟨La,l0,hL⟩:=Qo5 R a
    have hQb:Q*ηb≤β*(1/2):=by have:=QcH q0 b2;grind
    refine ⟨β*(1/2),by grind,ηb,b0,fun η e0 e1=>?_⟩
    obtain ⟨δ1,f0,f1⟩:=Qj3 (C:=La) (η:=η) l0 e0
    obtain ⟨δ,g0,g1,g2⟩:=Qp2 d0 f0
    refine ⟨δ,g0,fun x y hx hy hxy hd=>?_⟩
    obtain ⟨A,B⟩:=hδ x y hx hy hxy (by grind)
    have hlip:Ab (evR a y-evR a x) η:=(hL x y hx hy hxy).mono (by have:=QcH l0 (show y-x≤δ1 by grind);grind)
    have small:Ab (evR b x) ηb→Ab (evR q x*evR b x) (β*(1/2)):=fun h=>((hQ x hx).mul h).mono hQb
    refine ⟨fun h=>⟨hlip, ?_⟩,fun h=>?_⟩
    · obtain ⟨s1,s2⟩:=QjD (by grind) h hlip
      by_cases hbs:Ab (evR b x) ηb
      · obtain ⟨c,L',rfl,c1,c2,c3⟩:=B hbs
        have hax:=hq x
        simp only [nx] at hax
        obtain ⟨o1,o2⟩:=sg_opp (small hbs) (c:=evR c x) (fun k=>c1 (k.mono (by grind)))
        rw [← hax] at o1 o2
        obtain ⟨t1,t2⟩:=QjD (by grind) c1 c2
        have e:sgQ (evR c x) = -sgQ (evR a x):=by omega
        show Rl _ (sgQ (evR b x) :: sgQ (evR c x) :: sgL L' x) (sgQ (evR b y) :: sgQ (evR c y) :: sgL L' y)
        rw [t1]
        rw [e] at c3 ⊢
        exact Rl.sml (Qpq o2) (Qqk o2) (Qqk o2) c3
      · obtain ⟨c1,c2⟩:=A hbs
        obtain ⟨t1,t2⟩:=QjD (by grind) hbs c1
        show Rl _ (sgQ (evR b x) :: sgL L x) (sgQ (evR b y) :: sgL L y)
        rw [t1]
        exact Rl.big (Qpq t2) c2
    · have hbig : ¬ Ab (evR b x) ηb := by
        intro hbs
        obtain ⟨c,L',rfl,c1,c2,c3⟩:=B hbs
        have hax:=hq x
        simp only [nx] at hax
        have k1:=small hbs
        refine c1 ?_
        have e:evR c x=evR q x*evR b x-evR a x:=by grind
        obtain ⟨u1,u2⟩:=k1
        obtain ⟨v1,v2⟩:=h
        constructor<;>grind
      obtain ⟨c1,c2⟩:=A hbig
      exact ⟨b,L,rfl,hbig,c1,c2⟩
end Go.AM

/- Sturm, plain: f beside its derivative; the zeros in an interval. -/
namespace Go.AM
open Go Go.RowKit
def Lcl (f:List Rat) (cs:List (List Rat)) (x y:Rat):Prop :=
 (chg cs x=chg cs y∧∀ u,x≤u→u≤y→evR f u≠0∧sgQ (evR f u)=sgQ (evR f x)) ∨
 ∃ (s:Rat) (k:Nat),(s=1∨s = -1)∧(∀ u v,x≤u→u<v→v≤y→s*evR f u<s*evR f v)∧chg cs x=k+(if s*evR f x<0 then 1 else 0)∧chg cs y=k+(if s*evR f y<0 then 1 else 0)
theorem QrI {f d:List Rat} {L:List (List Rat)} {x s:Rat} (hs:s=1∨s = -1) (hd:0<s*evR d x):chg (f :: d :: L) x=chs (sgQ (evR d x)) (sgL L x)+(if s*evR f x<0 then 1 else 0):=by
 have hd0:evR d x≠0:=fun h=>by rw [h] at hd;grind
 by_cases hf:evR f x=0
 ·rw [chg_skip _ _ _ hf,Qiy _ _ _ hd0,hf,if_neg (by grind),Nat.add_zero]
 ·rw [Qiy _ _ _ hf]
  show chs _ (sgQ (evR d x) :: sgL L x)=_
  rw [chs,if_neg (Qpq hd0)]
  generalize evR d x=b at *
  generalize evR f x=a at *
  rcases hs with rfl | rfl
  ·rw [Qqn (x:=b) (by grind)]
   by_cases h:a<0
   ·rw [Qpl h,if_neg (by decide),if_pos (by grind)];omega
   ·rw [Qqn (x:=a) (by grind),if_pos rfl,if_neg (by grind)];omega
  ·rw [Qpl (x:=b) (by grind)]
   by_cases h:0<a
   ·rw [Qqn h,if_neg (by decide),if_pos (by grind)];omega
   ·rw [Qpl (x:=a) (by grind),if_pos rfl,if_neg (by grind)];omega
theorem lcl (R:Rat) {f d:List Rat} {L:List (List Rat)} (h:StOk f (d :: L)) (hd:∀ x,evR d x=der f x):∃ δ,0<δ∧∀ x y,Ab x R→Ab y R→x≤y→y-x≤δ→Lcl f (f :: d :: L) x y:=by
 obtain ⟨η,h0,β,hβ,H⟩:=loc R (d :: L) f h
 obtain ⟨δ0,d0,H⟩:=H η h0 Rat.le_refl
 obtain ⟨Lf,lf0,hLf⟩:=Qo5 R f
 obtain ⟨Ld,ld0,hLd⟩:=Qo5 R d
 obtain ⟨C,c0,hC⟩:=ev_ta2 R f
 obtain ⟨δ1,k1,m1⟩:=Qj3 lf0 h0
 obtain ⟨δ2,k2,m2⟩:=Qj3 (η:=β*(1/4)) ld0 (by grind)
 obtain ⟨δ3,k3,m3⟩:=Qj3 (η:=β*(1/4)) c0 (by grind)
 obtain ⟨δ4,k4,n1,n2⟩:=Qp2 d0 k1
 obtain ⟨δ5,k5,n3,n4⟩:=Qp2 k2 k3
 obtain ⟨δ,k,n5,n6⟩:=Qp2 k4 k5
 refine ⟨δ,k,fun x y hx hy hxy hδ=>?_⟩
 have hab:∀ u,x≤u→u≤y→Ab u R:=fun u h1 h2=>⟨by have:=hx.1;grind,by have:=hy.2;grind⟩
 obtain ⟨A,B⟩:=H x y hx hy hxy (by grind)
 by_cases hs:Ab (evR f x) η
 ·right
  obtain ⟨b,L',e,b1,b2,b3⟩:=B hs
  simp only [List.cons.injEq] at e
  obtain ⟨rfl,rfl⟩:=e
  obtain ⟨s1,s2⟩:=QjD (by grind) b1 b2
  have key:∃ s:Rat,(s=1∨s = -1)∧β<s*evR d x∧0<s*evR d y:=by
   rcases Qd5 (evR d x) with c | c | c
   ·refine ⟨1,.inl rfl, ?_, ?_⟩
    ·by_cases q:β<evR d x
     ·grind
     ·exact absurd ⟨by grind,by grind⟩ b1
    ·rw [c.2] at s1
     rcases Qd5 (evR d y) with e | e | e
     ·grind
     ·omega
     ·omega
   ·exact absurd c.1 s2
   ·refine ⟨-1,.inr rfl, ?_, ?_⟩
    ·by_cases q:evR d x < -β
     ·grind
     ·exact absurd ⟨by grind,by grind⟩ b1
    ·rw [c.2] at s1
     rcases Qd5 (evR d y) with e | e | e
     ·omega
     ·omega
     ·grind
  obtain ⟨s,hs1,t1,t2⟩:=key
  refine ⟨s,chs (sgQ (evR d x)) (sgL L x),hs1, ?_,QrI hs1 (by grind), ?_⟩
  ·intro u v h1 h2 h3
   have au:=hab u h1 (by grind)
   have av:=hab v (by grind) h3
   have p1:=hLd x u hx au h1
   have p2:=hC u v au av (by grind)
   rw [← hd] at p2
   have p3:Ld*(u-x)≤β*(1/4):=by have:=QcH ld0 (show u-x≤δ2 by grind);grind
   have p4:C*(v-u)≤β*(1/4):=by have:=QcH c0 (show v-u≤δ3 by grind);grind
   have p1':=p1.mono p3
   have p5:C*((v-u)*(v-u))≤β*(1/4)*(v-u):=by
    have:=Rat.mul_le_mul_of_nonneg_right p4 (show 0≤v-u by grind)
    grind
   have p2':=p2.mono p5
   have hv:0<v-u:=by grind
   generalize hw:v-u=w at *
   -- s*f' u >= 3/4 beta
   have p6:β*(3/4)≤s*evR d u:=by
    obtain ⟨i1,i2⟩:=p1'
    rcases hs1 with rfl | rfl<;>grind
   have p7:=Rat.mul_le_mul_of_nonneg_right p6 (show 0≤w by grind)
   obtain ⟨i1,i2⟩:=p2'
   have p8:0<β*w:=Rat.mul_pos hβ hv
   rcases hs1 with rfl | rfl<;>grind
  ·rw [QrI hs1 (by grind),s1,b3.eq]
 ·left
  obtain ⟨a1,a2⟩:=A hs
  obtain ⟨s1,s2⟩:=QjD (by grind) hs a1
  have hu:∀ u,x≤u→u≤y→sgQ (evR f u)=sgQ (evR f x):=fun u h1 h2=>(QjD (by grind) hs ((hLf x u hx (hab u h1 h2) h1).mono (by have:=QcH lf0 (show u-x≤δ1 by grind);grind))).1
  have hne:∀ u,x≤u→u≤y→evR f u≠0:=fun u h1 h2 h3=>by
   have:=hu u h1 h2
   rw [h3,sgQ_0] at this
   exact Qpq s2 this.symm
  refine ⟨?_,fun u h1 h2=>⟨hne u h1 h2,hu u h1 h2⟩⟩
  rw [Qiy _ _ _ s2,Qiy _ _ _ (hne y hxy Rat.le_refl),s1,a2.eq]
structure Zrs (f:List Rat) (zs:List Rat):Prop where
 z:∀ u,evR f u=0↔u∈zs
 i:∀ u v,u<v→evR f u*evR f v<0→∃ z∈zs,u<z∧z<v
 s:zs.Pairwise (·<·)
def nz (zs:List Rat) (x y:Rat):Nat:=(zs.filter fun z=>decide (x<z∧z≤y)).length
theorem Qq6 {zs:List Rat} {x y:Rat} (h:∀ z∈zs,¬ (x<z∧z≤y)):nz zs x y=0:=by
 unfold nz
 rw [List.filter_eq_nil_iff.2 (fun z hz=>by simpa using h z hz)];rfl
theorem nz_one {zs:List Rat} {x y:Rat} (hs:zs.Pairwise (·<·)) {z:Rat} (hz:z∈zs) (h:x<z∧z≤y) (hu:∀ w∈zs,x<w→w≤y→w=z):nz zs x y=1:=by
 unfold nz
 have hp:=hs.filter (p:=fun z=>decide (x<z∧z≤y))
 have hm:∀ w∈zs.filter (fun z=>decide (x<z∧z≤y)),w=z:=fun w hw=>by
  obtain ⟨h1,h2⟩:=List.mem_filter.1 hw
  have h3:=of_decide_eq_true h2
  exact hu w h1 h3.1 h3.2
 have hin:z∈zs.filter (fun z=>decide (x<z∧z≤y)):=List.mem_filter.2 ⟨hz,decide_eq_true h⟩
 generalize zs.filter (fun z=>decide (x<z∧z≤y))=l at *
 match l with
 | []=>simp at hin
 | [a]=>rfl
 | a :: b :: l =>
  have h1:=hm a (by simp)
  have h2:=hm b (by simp)
  have h3:=List.rel_of_pairwise_cons hp (a':=b) (by simp)
  rw [h1,h2] at h3
  exact absurd h3 Rat.lt_irrefl
theorem nz_add (zs:List Rat) {x y z:Rat} (h1:x≤y) (h2:y≤z):nz zs x y+nz zs y z=nz zs x z:=by
 unfold nz
 induction zs with
 | nil=>rfl
 | cons a l ih =>
  by_cases p:x<a∧a≤y
  ·rw [List.filter_cons_of_pos (by simpa using p),List.filter_cons_of_neg (p:=fun c=>decide (y<c∧c≤z)) (by simp;intro;grind),List.filter_cons_of_pos (p:=fun c=>decide (x<c∧c≤z)) (by simp;grind),List.length_cons,List.length_cons]
   omega
  ·by_cases q:y<a∧a≤z
   ·rw [List.filter_cons_of_neg (by simpa using p),List.filter_cons_of_pos (p:=fun c=>decide (y<c∧c≤z)) (by simpa using q),List.filter_cons_of_pos (p:=fun c=>decide (x<c∧c≤z)) (by simp;grind),List.length_cons,List.length_cons]
    omega
   ·rw [List.filter_cons_of_neg (by simpa using p),List.filter_cons_of_neg (p:=fun c=>decide (y<c∧c≤z)) (by simpa using q),List.filter_cons_of_neg (p:=fun c=>decide (x<c∧c≤z)) (by simp;intro;grind)]
    exact ih
theorem lcl_nz {f:List Rat} {cs:List (List Rat)} {x y:Rat} {zs:List Rat} (Z:Zrs f zs) (hxy:x≤y) (h:Lcl f cs x y):chg cs x=chg cs y+nz zs x y:=by
  rcases h with ⟨h1,h2⟩ | ⟨s,k,hs,mono,e1,e2⟩
  · rw [Qq6 fun z hz h=>(h2 z (by grind) h.2).1 ((Z.z z).2 hz),h1];rfl
  · rw [e1,e2]
    by_cases hx:s*evR f x<0
    · by_cases hy:s*evR f y<0
      · rw [if_pos hx,if_pos hy,Qq6 fun z hz h=>?_]
        have hz0:=(Z.z z).2 hz
        by_cases e:z=y
        · rw [← e,hz0] at hy;grind
        · have:=mono z y (by grind) (by grind) Rat.le_refl
          rw [hz0] at this;grind
      · rw [if_pos hx,if_neg hy]
        have ex:∃ z∈zs,x<z∧z≤y:=by
          by_cases h0:evR f y=0
          · refine ⟨y,(Z.z y).1 h0, ?_,Rat.le_refl⟩
            by_cases e:x=y
            · rw [e,h0] at hx;grind
            · grind
          · have hlt : x < y := by
              by_cases e:x=y
              · rw [e] at hx;exact absurd hx hy
              · grind
            obtain ⟨z,hz,h1,h2⟩:=Z.i x y hlt (by
              have p1:0 < -(s*evR f x):=by grind
              have p2:0<s*evR f y:=by rcases hs with rfl | rfl<;>grind
              have:=Rat.mul_pos p1 p2
              rcases hs with rfl | rfl<;>grind)
            exact ⟨z,hz,h1,by grind⟩
        obtain ⟨z,hz,h1,h2⟩:=ex
        rw [nz_one Z.s hz ⟨h1,h2⟩ fun w hw w1 w2=>?_]
        have z0:=(Z.z z).2 hz
        have w0:=(Z.z w).2 hw
        by_cases c:w<z
        · have:=mono w z (by grind) c h2
          rw [z0,w0] at this;grind
        · by_cases c2:z<w
          · have:=mono z w (by grind) c2 w2
            rw [z0,w0] at this;grind
          · grind
    · rw [if_neg hx]
      rw [Qq6 fun z hz h=>by
        have hz0:=(Z.z z).2 hz
        have:=mono x z Rat.le_refl h.1 h.2
        rw [hz0] at this;grind]
      have:¬ s*evR f y<0:=fun hy=>by
        by_cases e:x=y
        · rw [← e] at hy;exact hx hy
        · have:=mono x y Rat.le_refl (by grind) Rat.le_refl
          grind
      rw [if_neg this]
theorem sturm_n {f d:List Rat} {L:List (List Rat)} {zs:List Rat} (Z:Zrs f zs) {R δ:Rat} (hδ:0<δ) (H:∀ x y,Ab x R→Ab y R→x≤y→y-x≤δ→Lcl f (f :: d :: L) x y) :
    ∀ (n:Nat) (lo hi:Rat),Ab lo R→Ab hi R→lo≤hi→hi-lo≤((n:Int):Rat)*δ→chg (f :: d :: L) lo=chg (f :: d :: L) hi+nz zs lo hi
  | 0,lo,hi,h1,h2,h3,h4=>lcl_nz Z h3 (H lo hi h1 h2 h3 (by grind))
  | n+1,lo,hi,h1,h2,h3,h4=>by
    by_cases h:hi-lo≤δ
    · exact lcl_nz Z h3 (H lo hi h1 h2 h3 h)
    · have hm:Ab (lo+δ) R:=⟨by have:=h1.1;grind,by have:=h2.2;grind⟩
      have i1:=lcl_nz Z (show lo≤lo+δ by grind) (H lo (lo+δ) h1 hm (by grind) (by grind))
      have i2:=sturm_n Z hδ H n (lo+δ) hi hm h2 (by grind) (by grind)
      have:=nz_add zs (x:=lo) (y:=lo+δ) (z:=hi) (by grind) (by grind)
      omega
theorem arch (a δ:Rat) (hδ:0<δ):∃ n:Nat,a≤((n:Int):Rat)*δ:=by
 have h1:=Rat.le_ceil (x:=a*δ⁻¹)
 have h2:a=a*δ⁻¹*δ:=by rw [Rat.mul_assoc,Rat.inv_mul_cancel _ (by grind),Rat.mul_one]
 refine ⟨(a*δ⁻¹).ceil.toNat, ?_⟩
 have h3:a*δ⁻¹≤(((a*δ⁻¹).ceil.toNat:Int):Rat):=Rat.le_trans h1 (Rat.intCast_le_intCast.2 (Int.self_le_toNat _))
 have:=Rat.mul_le_mul_of_nonneg_right h3 (Rat.le_of_lt hδ)
 grind
theorem sturm {f d:List Rat} {L:List (List Rat)} {zs:List Rat} (h:StOk f (d :: L)) (hd:∀ x,evR d x=der f x) (Z:Zrs f zs) {lo hi:Rat} (hl:lo≤hi):chg (f :: d :: L) lo=chg (f :: d :: L) hi+nz zs lo hi:=by
 obtain ⟨A,hA⟩:=QmO lo
 obtain ⟨B,hB⟩:=QmO hi
 have a0:=hA.nn
 have b0:=hB.nn
 obtain ⟨δ,hδ,H⟩:=lcl (A+B) h hd
 obtain ⟨n,hn⟩:=arch (hi-lo) δ hδ
 exact sturm_n Z hδ H n lo hi (hA.mono (by grind)) (hB.mono (by grind)) hl hn
end Go.AM

/- Sturm, plain: the chain of a polynomial; its zeros. -/
namespace Go.AM
open Go Go.RowKit
theorem con_len {a u:List Rat} (ta:Trm a) (h:∀ x,evR u x*evR a x=1):∃ e,e≠0∧∀ x,evR a x=e:=by
 have hd:Dv a [1]:=⟨u,fun x=>by rw [Qb6,h]⟩
 have hl:=QfX ta Qn5 (by simp) hd
 match a,hl with
 | [],_=>have:=h 0;rw [QaG] at this;grind
 | [c],_=>exact ⟨c,fun h0=>by have:=h 0;rw [Qb6,h0] at this;grind,fun x=>Qb6 c x⟩
theorem nx_chL (n:Nat) (a b:List Rat) (x:Rat) (hn:b.length≤n):nx (chL n a b) x=evR b x:=by
 match n,hn with
 | 0,hn =>
  have:b=[]:=List.eq_nil_of_length_eq_zero (by omega)
  subst this
  rfl
 | n+1,hn =>
  rw [chL]
  by_cases h:b=[]
  ·rw [if_pos h,h];rfl
  ·rw [if_neg h];rfl
theorem chL_ok:∀ (n:Nat) (a b:List Rat),Trm a→Trm b→b.length≤n→(∃ u v,∀ x,evR u x*evR a x+evR v x*evR b x=1)→StOk a (chL n a b)
 | 0,a,b,ta,tb,hn,⟨u,v,h⟩=>by
  have:b=[]:=List.eq_nil_of_length_eq_zero (by omega)
  subst this
  exact con_len (u:=u) ta fun x=>by have:=h x;rw [QaG] at this;grind
 | n+1,a,b,ta,tb,hn,⟨u,v,h⟩=>by
  rw [chL]
  by_cases hb:b=[]
  ·rw [if_pos hb]
   subst hb
   exact con_len (u:=u) ta fun x=>by have:=h x;rw [QaG] at this;grind
  ·rw [if_neg hb]
   obtain ⟨q1,q2,_,_⟩:=Qjk (p:=a) tb hb
   have hl:=List.length_pos_iff.2 hb
   have hr:=Qpm (remP a b) (-1)
   refine ⟨⟨quoP a b,fun x=>?_⟩, ?_⟩
   ·rw [nx_chL n b _ x (by omega),QkS,q1];grind
   ·refine chL_ok n b _ tb (Qr1 _ _) (by omega) ⟨adP (muP u (quoP a b)) v,scP u (-1),fun x=>?_⟩
    have:=h x
    rw [q1] at this
    rw [Qmo,Qa8,QkS,QkS]
    grind
theorem chP_ok {p:List Rat} (tp:Trm p) (p0:p≠[]):StOk (frP p) (chL p.length (frP p) (deP (frP p))):=by
 have tf:=QhZ p
 have fl:=QfX tf tp p0 (QjM tp p0)
 have nd:=QkO tf
 obtain ⟨⟨u,v,h⟩,_,_⟩:=Qio tf (Qdu (frP p))
 rw [frP_free tp p0] at h
 exact chL_ok _ _ _ tf (Qdu _) (by omega) ⟨u,v,fun x=>by rw [← h,Qb6]⟩
theorem der_pw (π:List Rat) (x:Rat):∀ j:Nat,der (pwP π (j+1)) x=(((j+1:Nat):Int):Rat)*evR (pwP π j) x*der π x
 | 0=>by
  show der (muP [1] π) x=_
  rw [Qpx]
  show der [1] x*_+evR [1] x*der π x=_*evR [1] x*_
  have:der [1] x=0:=by show evR [] x+x*der [] x=0;rw [QaG];show 0+x*0=0;grind
  rw [this,Qb6];grind
 | j+1=>by
  show der (muP (pwP π (j+1)) π) x=_
  rw [Qpx,der_pw π x j,show pwP π (j+1)=muP (pwP π j) π from rfl,Qa8]
  generalize evR (pwP π j) x=a;generalize evR π x=b;generalize der π x=c
  grind
theorem Qek (u x:Rat):evR [-u,1] x=x-u:=by rw [Qar,Qb6];grind
theorem QkH (u:Rat):Trm [-u,1]:=fun n h=>by
 simp only [List.length_cons,List.length_nil] at h
 have:n=1:=by omega
 subst this
 show (1:Rat)≠0
 decide
theorem dv_lin {p:List Rat} {u:Rat}:Dv [-u,1] p↔evR p u=0:=by
 constructor
 ·rintro ⟨s,h⟩
  rw [h,Qek];grind
 ·intro h
  exact ⟨syn p u,fun x=>by rw [Qek,Qhr p u x,h];grind⟩
theorem irr_lin (u:Rat):Irr [-u,1]:=by
 refine ⟨QkH u,by simp,fun d td hd=>?_⟩
 have h:=QfX td (QkH u) (by simp) hd
 have h0:d≠[]:=fun h0=>by
  rw [h0] at hd
  have:=Qjy (QkH u) hd
  simp at this
 have:=List.length_pos_iff.2 h0
 simp only [List.length_cons,List.length_nil] at h ⊢
 omega
theorem fr_root {p:List Rat} (tp:Trm p) (p0:p≠[]) (u:Rat):evR (frP p) u=0↔evR p u=0:=by
 constructor
 ·intro h
  obtain ⟨s,hs⟩:=QjM tp p0
  rw [hs,h];grind
 ·intro h
  obtain ⟨ng,e,nF⟩:=Qkf tp p0
  obtain ⟨_,_,d2⟩:=Qio tp (Qdu p)
  obtain ⟨s,hs⟩:=QpA (Qip p (gcdP p (deP p)))
  have tg:Trm (gcdP p (deP p)):=Qhq
  apply Classical.byContradiction
  intro hf
  have hmn:evR (mnP (quoP p (gcdP p (deP p)))) u≠0:=hf
  have hq:evR (quoP p (gcdP p (deP p))) u≠0:=fun h0=>hmn (by rw [ev_mn nF,h0];grind)
  generalize quoP p (gcdP p (deP p))=q at *
  generalize gcdP p (deP p)=g at *
  have hg:evR g u=0:=by
   have:=e u
   rw [h] at this
   rcases Rat.mul_eq_zero.1 this.symm with k | k
   ·exact absurd k hq
   ·exact k
  obtain ⟨k,w,tw,nw,hw⟩:=Qrj (irr_lin u) g.length g (Nat.le_refl _) tg ng
  have hwu:evR w u≠0:=fun h0=>nw (dv_lin.2 h0)
  match k,hw with
  | 0,hw =>
   rw [hw] at hg
   have:evR (pwP [-u,1] 0) u=1:=Qb6 1 u
   rw [this] at hg
   exact hwu (by grind)
  | j+1,hw =>
   obtain ⟨t,ht⟩:=d2
   have h1:∀ x,evR p x=evR (muP (pwP [-u,1] (j+1)) (muP q w)) x:=fun x=>by
    rw [e,hw,Qa8,Qa8];grind
   have h2:∀ x,evR (adP (scP (muP q w) (((j+1:Nat):Int):Rat)) (muP (adP (deP (muP q w)) (scP (muP t w) (-1))) [-u,1])) x*evR (pwP [-u,1] j) x=evR [] x*evR (pwP [-u,1] j) x:=fun x=>by
    have a1:=ht x
    rw [QlE,QpY h1,Qpx,der_pw,hw] at a1
    have a2:der [-u,1] x=1:=by
     show evR [1] x+x*(evR [] x+x*0)=1
     rw [Qb6,QaG];grind
    simp only [a2,pwP,Qa8,Qek] at a1
    simp only [Qmo,QkS,Qa8,QlE,Qek,QaG]
    generalize evR q x=q' at *
    generalize evR w x=w' at *
    generalize der (muP q w) x=m' at *
    generalize evR (pwP [-u,1] j) x=c at *
    generalize evR t x=t' at *
    generalize (((j+1:Nat):Int):Rat)=r at *
    grind
   have h3:=Qhf (pw_ne (QkH u) (by simp) j) h2 u
   rw [Qmo,QkS,Qa8,Qa8,Qek,QaG] at h3
   have h4:evR q u*evR w u≠0:=fun h0=>by
    rcases Rat.mul_eq_zero.1 h0 with k | k
    ·exact hq k
    ·exact hwu k
   have h5:(((j+1:Nat):Int):Rat)≠0:=fun h0=>by
    have:((j+1:Nat):Int)=0:=by exact_mod_cast h0
    omega
   have h6:evR q u*evR w u*(((j+1:Nat):Int):Rat)=0:=by grind
   rcases Rat.mul_eq_zero.1 h6 with k | k
   ·exact h4 k
   ·exact h5 k
end Go.AM

/- Sturm, plain: polynomials that split; the bound of the zeros. -/
namespace Go.AM
open Go Go.RowKit
def Gd (m:List Rat):Prop:=∀ f,Dv f m→∀ u v,u<v→evR f u*evR f v<0→∃ z,evR f z=0∧u<z∧z<v
theorem gd_lin {m n:List Rat} {z:Rat} (h:Gd m) (hn:∀ x,evR n x=evR m x*(x-z)):Gd n:=by
  intro f ⟨s,hs⟩ u v huv hf
  by_cases hz:evR f z=0
  · by_cases hb:u<z∧z<v
    · exact ⟨z,hz,hb⟩
    · have ef:∀ x,evR f x=(x-z)*evR (syn f z) x:=fun x=>by rw [Qhr f z x,hz];grind
      have hd:Dv (syn f z) m:=by
        refine ⟨s,fun x=>?_⟩
        refine Qhf (c:=[-z,1]) (a:=m) (b:=muP s (syn f z)) ⟨z+1,by rw [Qek];grind⟩ (fun x=>?_) x |>.trans (Qa8 _ _ _)
        have:=hs x
        rw [hn,ef] at this
        rw [Qek,Qa8,this];grind
      have hf':evR (syn f z) u*evR (syn f z) v<0:=by
        rw [ef u,ef v] at hf
        have h0:0≤(u-z)*(v-z):=by
          by_cases c:u<z
          · have:=Rat.mul_nonneg (a:=z-u) (b:=z-v) (by grind) (by grind)
            grind
          · exact Rat.mul_nonneg (by grind) (by grind)
        generalize evR (syn f z) u=a at *
        generalize evR (syn f z) v=b at *
        by_cases c:a*b<0
        · exact c
        · have:=Rat.mul_nonneg h0 (show 0≤a*b by grind)
          grind
      obtain ⟨w,w1,w2,w3⟩:=h _ hd u v huv hf'
      exact ⟨w,by rw [ef,w1];grind,w2,w3⟩
  · have hs0 : evR s z = 0 := by
      have:=hs z
      rw [hn] at this
      have e:evR s z*evR f z=0:=by grind
      rcases Rat.mul_eq_zero.1 e with k | k
      · exact k
      · exact absurd k hz
    have hd:Dv f m:=by
      refine ⟨syn s z,fun x=>?_⟩
      refine Qhf (c:=[-z,1]) (a:=m) (b:=muP (syn s z) f) ⟨z+1,by rw [Qek];grind⟩ (fun x=>?_) x |>.trans (Qa8 _ _ _)
      have:=hs x
      rw [hn,Qhr s z x,hs0] at this
      rw [Qek,Qa8,this];grind
    exact h f hd u v huv hf
theorem gd_con {m:List Rat} {e:Rat} (e0:e≠0) (h:∀ x,evR m x=e):Gd m:=by
 intro f ⟨s,hs⟩ u v huv hf
 exfalso
 have hd:Dv (Qay f) [1]:=⟨scP s e⁻¹,fun x=>by
  rw [Qb6,QkS,QaB]
  have:=hs x
  rw [h] at this
  have:=Rat.mul_inv_cancel e e0
  grind⟩
 have hl:=QfX (QaO f) Qn5 (by simp) hd
 have ef:∀ x,evR f x=evR (Qay f) x:=fun x=>(QaB f x).symm
 rw [ef u,ef v] at hf
 match hfl:Qay f,(show (Qay f).length≤1 from hl) with
 | [],_=>rw [hfl,QaG,QaG] at hf;grind
 | [c],_ =>
  rw [hfl,Qb6,Qb6] at hf
  by_cases hc:0≤c
  ·have:=Rat.mul_nonneg hc hc;grind
  ·have:=Rat.mul_nonneg (a:=-c) (b:=-c) (by grind) (by grind);grind
theorem Qkb (x:Rat):0≤x*x:=by
 by_cases hc:0≤x
 ·exact Rat.mul_nonneg hc hc
 ·have:=Rat.mul_nonneg (a:=-x) (b:=-x) (by grind) (by grind);grind
theorem gd_wild {m:List Rat} {e:Rat} (e0:e≠0) (h:∀ x,evR m x=e*(x*x+1)):Gd m:=by
 intro f hf
 obtain ⟨s,hs⟩:=hf
 intro u v huv hf
 exfalso
 have tm:Dv (Qay f) (Qay [e,0,e]):=⟨s,fun x=>by
  rw [QaB,QaB,← hs,h,Qar,Qar,Qb6];grind⟩
 have ef:∀ x,evR f x=evR (Qay f) x:=fun x=>(QaB f x).symm
 have hnz:∀ x,evR f x≠0:=fun x hx=>by
  have:=hs x
  rw [h,hx] at this
  have h1:=Qkb x
  have h2:e*(x*x+1)=0:=by grind
  rcases Rat.mul_eq_zero.1 h2 with k | k
  ·exact e0 k
  ·grind
 have ne:Qay [e,0,e]≠[]:=fun h0=>by
  have:=QaB [e,0,e] 0
  rw [h0,QaG,Qar,Qar,Qb6] at this
  grind
 have hl:=QfX (QaO f) (QaO _) ne tm
 have h3:(Qay [e,0,e]).length≤3:=Qcm _
 have h2:=tm
 obtain ⟨t,ht⟩:=tm
 have hnz':∀ x,evR (Qay f) x≠0:=fun x=>by rw [← ef];exact hnz x
 have tf:=QaO f
 rw [ef u,ef v] at hf
 match hfl:Qay f,(show (Qay f).length≤3 by omega) with
 | [],_=>rw [hfl] at hnz';exact hnz' 0 (QaG 0)
 | [c],_ =>
  rw [hfl,Qb6,Qb6] at hf
  have:=Qkb c
  grind
 | [a,b],_ =>
  rw [hfl] at hnz' tf
  have hb:b≠0:=by
   have:=tf 1 (by simp)
   simpa using this
  refine hnz' (-a*b⁻¹) ?_
  rw [Qar,Qb6]
  have:=Rat.mul_inv_cancel b hb
  grind
 | [a,b,c],_ =>
  -- then it is a multiple of the whole
  rw [hfl] at hf hnz' tf ht
  obtain ⟨s',ts',ns',_,es,ls⟩:=Qmn (q:=[a,b,c]) tf (QaO _) ne (by rw [← hfl];exact h2)
  simp only [List.length_cons,List.length_nil] at ls
  have l1:=List.length_pos_iff.2 ns'
  have l2:s'.length=1:=by omega
  match s',l2 with
  | [k],_ =>
   have ek:∀ x,k*evR [a,b,c] x=e*(x*x+1):=fun x=>by
    have:evR (Qay [e,0,e]) x=evR (muP [k] [a,b,c]) x:=by rw [es]
    rw [QaB,Qa8,Qb6,Qar,Qar,Qb6] at this
    grind
   have q1:=ek u
   have q2:=ek v
   have p1:=Qkb u
   have p2:=Qkb v
   have p3:=Rat.mul_nonneg (a:=u*u+1) (b:=v*v+1) (by grind) (by grind)
   have p4:=Rat.mul_nonneg (Qkb e) p3
   generalize evR [a,b,c] u=A at *
   generalize evR [a,b,c] v=B at *
   have p5:=Rat.mul_nonneg (Qkb k) (show 0≤-(A*B) by grind)
   have p6:k*k*(A*B)=e*e*((u*u+1)*(v*v+1)):=by
    have:k*k*(A*B)=(k*A)*(k*B):=by grind
    rw [this,q1,q2];grind
   have k0:k≠0:=fun h0=>by
    rw [h0] at q1
    have h2:e*(u*u+1)=0:=by grind
    rcases Rat.mul_eq_zero.1 h2 with k | k
    ·exact e0 k
    ·grind
   have p7:k*k*(A*B)=0:=by grind
   rcases Rat.mul_eq_zero.1 p7 with r | r
   ·rcases Rat.mul_eq_zero.1 r with r | r<;>exact k0 r
   ·grind
end Go.AM

/- Free parts, plain: what they are; a sharper size of the greatest divisor. -/
namespace Go.AM
open Go Go.RowKit
theorem QrV {K:Nat}:∀ (n s:Nat) (a b:List Rat),HL s s a→HL s s b→Trm b→b≠[]→b.length<n→(s+1)*(dvN a b+1)*3^b.length≤K*3^(gcP n a b).length→HL K K (gcP n a b)
  | 0,_,_,b,_,_,_,_,h,_=>by omega
  | n+1,s,a,b,Ha,Hb,tb,hb,hn,hK=>by
    have hlb:0<b.length:=List.length_pos_iff.2 hb
    rw [gcP,if_neg hb] at hK ⊢
    obtain ⟨_,q2,_,_⟩:=Qjk (p:=a) tb hb
    have hr:=QeF (remP a b)
    have he2:dvN a b*(s+1)=s*dvN a b+dvN a b:=by rw [Nat.mul_add,Nat.mul_one,Nat.mul_comm]
    have he3:dvN a b*s=s*dvN a b:=Nat.mul_comm _ _
    by_cases hr0:mnP (remP a b)=[]
    · have e : gcP n b (mnP (remP a b)) = b := by
        obtain ⟨m,rfl⟩:∃ m,n=m+1:=⟨n-1,by omega⟩
        rw [gcP,if_pos hr0]
      rw [e] at hK ⊢
      have h3:0<3^b.length:=Nat.pow_pos (by decide)
      have hs:(s+1)*(dvN a b+1)≤K:=Nat.le_of_mul_le_mul_right hK h3
      have:s+1≤(s+1)*(dvN a b+1):=Nat.le_mul_of_pos_right _ (by omega)
      exact Hb.mono (by omega) (by omega)
    · obtain ⟨_,g2,_⟩:=Ql6 (K:=(s+dvN a b*(s+1))+s+1) Ha Hb tb (by rw [he2,he3];omega)
      have g3:=Qne g2 (trm_dv a b)
      have e1:s+dvN a b*(s+1)+1=(s+1)*(dvN a b+1):=by
        rw [he2,Nat.mul_add (s+1),Nat.add_mul s 1,Nat.mul_one,Nat.one_mul];omega
      refine QrV (K:=K) n (s+dvN a b*(s+1)) b (mnP (remP a b)) (Hb.mono (by omega) (by omega)) g3 (Qha _) hr0 (by omega) ?_
      rw [e1]
      refine Nat.le_trans ?_ hK
      rw [Nat.mul_assoc]
      refine Nat.mul_le_mul_left _ (Nat.le_trans (Nat.le_of_eq ?_) (Ql0 (a:=(mnP (remP a b)).length) (b:=b.length) (by omega)))
      congr 1
      unfold dvN;omega
end Go.AM

/- Squares, plain: what sturm.odd meets at k q^2. -/
namespace Go.AM
open Go Go.RowKit
theorem mo_mu {a b:List Rat} (ta:Trm a) (tb:Trm b) (na:a≠[]) (nb:b≠[]) (ma:Mo a) (mb:Mo b):Mo (muP a b):=by
 have h1:=List.length_pos_iff.2 na
 have h2:=List.length_pos_iff.2 nb
 right
 rw [Qq7 ta tb na nb,show a.length+b.length-1-1=a.length-1+(b.length-1) by omega,Qoq,QlX h1 h2,ma.resolve_left na,mb.resolve_left nb,Rat.mul_one]
section
variable {q:List Rat} {k:Rat}
end
end Go.AM

/- sturm.odd: its loop's end. -/
namespace Go.AM
open Go Go.RowKit
variable [Its]
end Go.AM

/- sturm.odd at k q^2: the answer is 1. -/
namespace Go.AM
open Go Go.RowKit
theorem gc_sharp2 {q:List Rat} {s:Nat} (tq:Trm q) (H:HL s s q) (h2:2≤q.length) (n9:q.length≤40):HL ((s+2)*3^q.length/3^(gcdP q (deP q)).length+1) ((s+2)*3^q.length/3^(gcdP q (deP q)).length+1) (gcdP q (deP q)):=by
 have l1:=Qil tq
 have l2:=Qil (Qdu q)
 have ld:=QkO tq
 have hne:mnP (deP q)≠[]:=fun h0=>by rw [h0] at l2;simp only [List.length_nil] at l2;omega
 have hd:HL (s+1) (s+1) (deP q):=(H.de (by have:BB=1000000000:=rfl;omega)).mono (by omega) (by omega)
 refine QrV ((deP q).length+1) (s+1) (mnP q) (mnP (deP q)) ((Qne H tq).mono (by omega) (by omega)) (Qne hd (Qdu q)) (Qha _) hne (by omega) ?_
 have h3:(dvN (mnP q) (mnP (deP q))+1)*3^(mnP (deP q)).length=3^q.length:=by
  have e:dvN (mnP q) (mnP (deP q))+1=3:=by unfold dvN;omega
  rw [e,l2,ld,show q.length=(q.length-1)+1 by omega,Nat.pow_succ,Nat.add_sub_cancel,Nat.mul_comm]
 rw [Nat.mul_assoc,h3]
 show (s+2)*3^q.length≤((s+2)*3^q.length/3^(gcdP q (deP q)).length+1)*3^(gcdP q (deP q)).length
 generalize (s+2)*3^q.length=A
 have hp:0<3^(gcdP q (deP q)).length:=Nat.pow_pos (by decide)
 generalize 3^(gcdP q (deP q)).length=B at *
 have:=Nat.div_add_mod A B
 have:=Nat.mod_lt A hp
 rw [Nat.add_mul,Nat.one_mul,Nat.mul_comm]
 omega
variable [Its]
section
variable {d:D} {r:List Rat}
end
end Go.AM

/- sturm.odd at a general polynomial: what it answers divides the free part; sizes. -/
namespace Go.AM
open Go Go.RowKit
section
variable {g:List Rat} {k:Rat}
end
end Go.AM

/- Sturm, plain: changes along chains, piece by piece; the zeros of a product. -/
namespace Go.AM
open Go Go.RowKit
theorem lcl_ch (R:Rat) {p:List Rat} (tp:Trm p) (p0:p≠[]):∃ δ,0<δ∧∀ x y,Ab x R→Ab y R→x≤y→y-x≤δ→Lcl (frP p) (chP p) x y:=by
 have ok:=chP_ok tp p0
 rw [chP,if_neg p0]
 obtain ⟨n,hn⟩:∃ n,p.length=n+1:=⟨p.length-1,by have:=List.length_pos_iff.2 p0;omega⟩
 rw [hn,chL] at ok ⊢
 by_cases hb:deP (frP p)=[]
 ·rw [if_pos hb] at ok ⊢
  obtain ⟨e,e0,he⟩:=ok
  refine ⟨1,by decide,fun x y _ _ _ _=>.inl ⟨?_,fun u _ _=>⟨by rw [he];exact e0,by rw [he,he]⟩⟩⟩
  rw [Qiy _ _ _ (by rw [he];exact e0),Qiy _ _ _ (by rw [he];exact e0)]
  rw [he,he];rfl
 ·rw [if_neg hb] at ok ⊢
  exact lcl R ok (fun x=>QlE _ _)
section
variable {f:List Rat} {cs:List (List Rat)} {x y:Rat}
theorem QsL {a b:Rat} (h:sgQ a=sgQ b) (hb:b≠0):0<a*b:=by
 rcases Qd5 a with ⟨p,e⟩ | ⟨p,e⟩ | ⟨p,e⟩<;>rcases Qd5 b with ⟨q,e'⟩ | ⟨q,e'⟩ | ⟨q,e'⟩
 ·exact Rat.mul_pos p q
 ·exact absurd q hb
 ·omega
 ·omega
 ·exact absurd q hb
 ·omega
 ·omega
 ·exact absurd q hb
 ·have:=Rat.mul_pos (a:=-a) (b:=-b) (by grind) (by grind);grind
theorem Lcl.zero_of (h:Lcl f cs x y) (hf:0<evR f x*evR f y):chg cs x=chg cs y:=by
  rcases h with ⟨h,_⟩ | ⟨s,k,hs,mono,e1,e2⟩
  · exact h
  · generalize evR f x=u at *
    generalize evR f y=v at *
    rw [e1,e2]
    by_cases hx:s*u<0
    · have : s * v < 0 := Classical.byContradiction fun h0 => by
        have:=Rat.mul_nonneg (a:=-(s*u)) (b:=s*v) (by grind) (by grind)
        rcases hs with rfl | rfl<;>grind
      rw [if_pos hx,if_pos this]
    · have : ¬ s * v < 0 := fun h0 => by
        have:=Rat.mul_nonneg (a:=s*u) (b:=-(s*v)) (by grind) (by grind)
        rcases hs with rfl | rfl<;>grind
      rw [if_neg hx,if_neg this]
theorem Lcl.cases (h:Lcl f cs x y) (hxy:x≤y):chg cs x=chg cs y∨(chg cs x=chg cs y+1∧x<y∧evR f x≠0∧(evR f y=0∨evR f x*evR f y<0)):=by
 rcases h with ⟨h,_⟩ | ⟨s,k,hs,mono,e1,e2⟩
 ·exact .inl h
 ·by_cases hx:s*evR f x<0
  ·by_cases hy:s*evR f y<0
   ·left;rw [e1,e2,if_pos hx,if_pos hy]
   ·right
    have hne:x≠y:=fun h0=>by rw [h0] at hx;exact hy hx
    refine ⟨by rw [e1,e2,if_pos hx,if_neg hy],by grind,fun h0=>by rw [h0] at hx;grind, ?_⟩
    by_cases h0:evR f y=0
    ·exact .inl h0
    ·right
     generalize evR f x=u at *
     generalize evR f y=v at *
     have:0<s*v:=by
      rcases hs with rfl | rfl<;>grind
     have:=Rat.mul_pos (a:=-(s*u)) (b:=s*v) (by grind) this
     rcases hs with rfl | rfl<;>grind
  ·left
   have:¬ s*evR f y<0:=fun hy=>by
    by_cases c:x=y
    ·rw [c] at hx;exact hx hy
    ·have:=mono x y Rat.le_refl (by grind) Rat.le_refl
     grind
   rw [e1,e2,if_neg hx,if_neg this]
end
theorem steps {P:Rat→Rat→Prop} (tr:∀ x y z,x≤y→y≤z→P x y→P y z→P x z) {R δ:Rat} (hδ:0<δ) (H:∀ x y,Ab x R→Ab y R→x≤y→y-x≤δ→P x y) :
    ∀ (n:Nat) (lo hi:Rat),Ab lo R→Ab hi R→lo≤hi→hi-lo≤((n:Int):Rat)*δ→P lo hi
  | 0,lo,hi,h1,h2,h3,h4=>H lo hi h1 h2 h3 (by grind)
  | n+1,lo,hi,h1,h2,h3,h4=>by
    by_cases h:hi-lo≤δ
    · exact H lo hi h1 h2 h3 h
    · have hm:Ab (lo+δ) R:=⟨by have:=h1.1;grind,by have:=h2.2;grind⟩
      exact tr lo (lo+δ) hi (by grind) (by grind) (H lo (lo+δ) h1 hm (by grind) (by grind)) (steps tr hδ H n (lo+δ) hi hm h2 (by grind) (by grind))
theorem QmY {P:Rat→Rat→Prop} (tr:∀ x y z,x≤y→y≤z→P x y→P y z→P x z) (H:∀ R,∃ δ,0<δ∧∀ x y,Ab x R→Ab y R→x≤y→y-x≤δ→P x y) {lo hi:Rat} (hl:lo≤hi):P lo hi:=by
 obtain ⟨A,hA⟩:=QmO lo
 obtain ⟨B,hB⟩:=QmO hi
 have a0:=hA.nn
 have b0:=hB.nn
 obtain ⟨δ,hδ,h⟩:=H (A+B)
 obtain ⟨n,hn⟩:=arch (hi-lo) δ hδ
 exact steps tr hδ h n lo hi (hA.mono (by grind)) (hB.mono (by grind)) hl hn
section
variable {p:List Rat} {lo hi:Rat}
theorem chg_const (tp:Trm p) (p0:p≠[]) (hl:lo≤hi) (hs:∀ u v,lo≤u→u≤v→v≤hi→0<evR (frP p) u*evR (frP p) v):chg (chP p) lo=chg (chP p) hi:=by
 refine QmY (P:=fun x y=>lo≤x→y≤hi→chg (chP p) x=chg (chP p) y) (fun x y z a b h k c d=>(h c (by grind)).trans (k (by grind) d)) (fun R=>?_) hl Rat.le_refl Rat.le_refl
 obtain ⟨δ,h0,h⟩:=lcl_ch R tp p0
 exact ⟨δ,h0,fun x y hx hy hxy hd a b=>(h x y hx hy hxy hd).zero_of (hs x y a hxy b)⟩
theorem chg_mono (tp:Trm p) (p0:p≠[]) (hl:lo≤hi) {s:Rat} (h1:s=1∨s = -1) (hm:∀ u v,lo≤u→u<v→v≤hi→s*evR (frP p) u<s*evR (frP p) v):chg (chP p) lo+(if s*evR (frP p) hi<0 then 1 else 0)=chg (chP p) hi+(if s*evR (frP p) lo<0 then 1 else 0):=by
 refine QmY (P:=fun x y=>lo≤x→y≤hi→chg (chP p) x+(if s*evR (frP p) y<0 then 1 else 0)=chg (chP p) y+(if s*evR (frP p) x<0 then 1 else 0)) (fun x y z a b h k c d=>by have:=h c (by grind);have:=k (by grind) d;omega) (fun R=>?_) hl Rat.le_refl Rat.le_refl
 obtain ⟨δ,h0,h⟩:=lcl_ch R tp p0
 refine ⟨δ,h0,fun x y hx hy hxy hd a b=>?_⟩
 by_cases e:x=y
 ·rw [e]
 have hlt:=hm x y a (by grind) b
 rcases h x y hx hy hxy hd with ⟨k1,k2⟩ | ⟨t,k,ht,mono,e1,e2⟩
 ·have c:=QsL (k2 y hxy Rat.le_refl).2 (k2 x Rat.le_refl hxy).1
  rw [k1]
  generalize evR (frP p) x=u at *
  generalize evR (frP p) y=v at *
  have:(s*v<0)↔(s*u<0):=by
   constructor
   ·intro;grind
   ·intro q
    refine Classical.byContradiction fun h0=>?_
    have:=Rat.mul_nonneg (a:=-(s*u)) (b:=s*v) (by grind) (by grind)
    rcases h1 with rfl | rfl<;>grind
  by_cases q:s*u<0
  ·rw [if_pos q,if_pos (this.2 q)]
  ·rw [if_neg q,if_neg fun h=>q (this.1 h)]
 ·have m:=mono x y Rat.le_refl (by grind) Rat.le_refl
  have:t=s:=by
   rcases ht with rfl | rfl<;>rcases h1 with rfl | rfl
   ·rfl
   ·grind
   ·grind
   ·rfl
  subst this
  omega
end
section
variable {p q F h:List Rat}
end
section
variable {p q:List Rat}
end
end Go.AM

