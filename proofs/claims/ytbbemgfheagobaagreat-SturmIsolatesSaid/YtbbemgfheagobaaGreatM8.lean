/- Part 8 of the proof: a small machine, its soundness against the model, and what the program's functions compute on it. -/
import Derived.Test.YtbbemgfheagobaaGreatM7
import Derived.Test.YtbbemgfheagobaaGreatM6
set_option linter.unusedVariables false
set_option linter.unusedSimpArgs false
/- poly.Shift. -/
namespace Go.AM
open Go Go.RowKit

def hst (l:List Rat) (a:Rat) (j:Nat):List Rat:=l.take j++(evR (l.drop j) a :: syn (l.drop j) a)
theorem hst_len {l:List Rat} {a:Rat} {j:Nat} (h:j<l.length):(hst l a j).length=l.length:=by
 rw [hst,List.length_append,List.length_cons,QqR,List.length_take,List.length_drop];omega
theorem hst_split {l:List Rat} {k:Nat} (h:k<l.length):l=l.take k++l.getD k 0 :: l.drop (k+1):=by
 have e:l.drop k=l.getD k 0 :: l.drop (k+1):=by
  rw [List.drop_eq_getElem_cons h,List.getD_eq_getElem?_getD,List.getElem?_eq_getElem h];rfl
 rw [← e,List.take_append_drop]
theorem getD_mid (T R:List Rat) (x:Rat):(T++x :: R).getD T.length 0=x:=by
 rw [List.getD_eq_getElem?_getD,List.getElem?_append_right (Nat.le_refl _),Nat.sub_self];rfl
theorem getD_mid1 (T R:List Rat) (x y:Rat):(T++x :: y :: R).getD (T.length+1) 0=y:=by
 rw [List.getD_eq_getElem?_getD,List.getElem?_append_right (by omega),Nat.add_sub_cancel_left];rfl
theorem set_mid (T R:List Rat) (x y:Rat):(T++x :: R).set T.length y=T++y :: R:=by
 rw [List.set_append_right _ _ (Nat.le_refl _),Nat.sub_self];rfl
theorem hst_step {l:List Rat} {a:Rat} {k:Nat} (h:k+1<l.length):(hst l a (k+1)).set k ((hst l a (k+1)).getD k 0+a*(hst l a (k+1)).getD (k+1) 0)=hst l a k:=by
 obtain ⟨T,hT⟩:∃ T,l.take k=T:=⟨_,rfl⟩
 obtain ⟨R,hR⟩:∃ R,l.drop (k+1)=R:=⟨_,rfl⟩
 obtain ⟨x,hx⟩:∃ x,l.getD k 0=x:=⟨_,rfl⟩
 have hl:=hst_split (l:=l) (k:=k) (by omega)
 rw [hT,hR,hx] at hl
 have hTl:T.length=k:=by rw [← hT,List.length_take];omega
 have h1:l.take (k+1)=T++[x]:=by
  rw [hl,List.take_append,hTl,List.take_of_length_le (by omega),Nat.add_sub_cancel_left];rfl
 have h2:l.drop k=x :: R:=by
  rw [hl,← hTl,List.drop_left]
 have hRne:∃ b R',R=b :: R':=by
  cases R with
  | nil=>have:=congrArg List.length hR;rw [List.length_drop] at this;simp at this;omega
  | cons b R'=>exact ⟨b,R',rfl⟩
 obtain ⟨b,R',rfl⟩:=hRne
 unfold hst
 rw [h1,hR,hT,h2,List.append_assoc,List.singleton_append]
 subst hTl
 rw [getD_mid,getD_mid1,set_mid,syn,Qar x (b :: R')]
 rw [show x+a*evR (b :: R') a=evR (b :: R') a*a+x by generalize evR (b :: R') a=u;grind]
def pas (l:List Rat) (a:Rat):Nat→List Rat
 | 0=>l
 | i+1=>hst (pas l a i) a i
theorem Qrk {l:List Rat} {a:Rat}:∀ i,i≤l.length→(pas l a i).length=l.length
 | 0,_=>rfl
 | i+1,h=>by
  have ih:=Qrk (l:=l) (a:=a) i (by omega)
  rw [pas,hst_len (by omega),ih]
def sh_st (a:Rat) (L:List Rat) (n i:Int) (N:Nat):St:=mkS [(3,.ptr [3] 0),(5,.own [9] N),(11,ai n),(12,ai i)] [([3],boxR a),([9],arrR N L)]
def Qjw (a:Rat) (L:List Rat) (n i k:Int) (N:Nat):St:=mkS [(3,.ptr [3] 0),(5,.own [9] N),(6,ai i),(7,ai k),(11,ai n),(12,ai i)] [([3],boxR a),([9],arrR N L)]
theorem ld4 (x y z t:D):Qab (some 4) 0 [.d x,.d y,.d z,.d t]=some (.d (.agg [x,y,z,t])):=rfl
variable [Its]

theorem si_go {a:Rat} {L:List Rat} {n i k:Nat} (hL:L.length=n) (hn:n≤1000000000) (hi:i≤k) (hk:k+1<n) {K:Nat} (hK:K≤10000000000) (sa:sz a≤K) (sL:SzL K L) :
    X G QdL (Qjw a L n i k n)=some (.n,Qjw a (L.set k (L.getD k 0+a*L.getD (k+1) 0)) n i ((k:Int)-1) n):=by
  have e1:decide ((k:Int)≥(i:Int))=true:=decide_eq_true (by omega)
  obtain ⟨k1,hk1⟩:∃ k1:Int,k1=((k+1:Nat):Int):=⟨_,rfl⟩
  have e2:w64 ((k:Int)+1)=k1:=by rw [Qae (by omega) (by omega)];omega
  have e3:w64 ((k:Int)-1)=(k:Int)-1:=Qae (by omega) (by omega)
  have c1:((0:Int)≤(k:Int))=True:=eq_true (by omega)
  have c2:((k:Int)<(n:Int))=True:=eq_true (by omega)
  have c3:((0:Int)≤k1)=True:=eq_true (by omega)
  have c4:(k1<(n:Int))=True:=eq_true (by omega)
  have c5:k1.toNat=k+1:=by omega
  have h1K:1≤K:=Nat.le_trans (Qsm a) sa
  have s1:=sL.getD h1K k
  have s2:=sL.getD h1K (k+1)
  have g1:=Qdw (a:=a) (b:=L.getD (k+1) 0) (by omega) (by omega)
  have k1':=QgM (a:=a) (b:=L.getD (k+1) 0)
  have g2:=QeT (a:=L.getD k 0) (b:=a*L.getD (k+1) 0) (by omega) (by omega)
  have l1:=ld_cA (l:=L) (j:=k) (by omega)
  have l2:=ld_cA (l:=L) (j:=k+1) (by omega)
  have t1:=Qtp (l:=L) (j:=k) (by omega) (L.getD k 0+a*L.getD (k+1) 0)
  clear s1 s2 k1' sL hk1
  generalize L.getD k 0+a*L.getD (k+1) 0=r at *
  generalize a*L.getD (k+1) 0=p at *
  generalize L.getD k 0=u at *
  generalize L.getD (k+1) 0=v at *
  simp only [encR] at g1 g2
  simp -implicitDefEqProofs (maxSteps:=9^8) only [QdL,Qjw,boxR,QaQ,allD,Int.toNat_natCast,l1,l2,t1,c1,c2,c3,c4,c5,ld4,e1,e2,e3,g1,g2,go_sem,iv,bv,and_self,reduceCtorEq,↓reduceIte,Nat.reduceEqDiff]
theorem Qrg {a:Rat} {L:List Rat} {n i:Nat} {k:Int} (hk:k<(i:Int)):X G QdL (Qjw a L n i k n)=some (.x 2,sh_st a L n i n):=by
 have e1:decide (k≥(i:Int))=false:=decide_eq_false (by omega)
 simp -implicitDefEqProofs (maxSteps:=9^8) only [QdL,Qjw,sh_st,boxR,QaQ,e1,go_sem,iv,bv,reduceCtorEq,↓reduceIte,Nat.reduceEqDiff]
theorem Qon     {a:Rat} {l:List Rat} {n i:Nat} (hl:l.length=n) (hn:n≤1000000000) {K:Nat} (hK:K≤10000000000) (sa:sz a≤K) (hS:∀ j,j<n→SzL K (hst l a j)):∀ j:Nat,i+j<n →
    X G (.loop QdL) (Qjw a (hst l a (i+j)) n i ((i:Int)+(j:Int)-1) n)=some (.x 2,sh_st a (hst l a i) n i n)
  | 0,h=>by
    rw [Qai,Qrg (by omega)];rfl
  | j+1,h=>by
    have g:=si_go (a:=a) (L:=hst l a (i+(j+1))) (n:=n) (i:=i) (k:=i+j) (by rw [hst_len (by omega),hl]) hn (by omega) (by omega) hK sa (hS _ h)
    have hs:=hst_step (l:=l) (a:=a) (k:=i+j) (by omega)
    rw [show i+(j+1)=i+j+1 by omega] at g ⊢
    rw [hs] at g
    have e:(i:Int)+((j+1:Nat):Int)-1=((i+j:Nat):Int):=by omega
    rw [Qai,e,g,Option.bind_some,if_pos rfl]
    have ih:=Qon (i:=i) hl hn hK sa hS j (by omega)
    rw [show (i:Int)+(j:Int)-1=((i+j:Nat):Int)-1 by omega] at ih
    exact ih
end Go.AM

/- poly.Div. -/
namespace Go.AM
open Go Go.RowKit

def dvI (R q:List Rat) (k:Nat) (f:Rat):Nat→List Rat
 | 0=>R
 | i+1=>(dvI R q k f i).set (k+i) ((dvI R q k f i).getD (k+i) 0-f*q.getD i 0)
theorem Qe9 (R q:List Rat) (k:Nat) (f:Rat):∀ i,(dvI R q k f i).length=R.length
 | 0=>rfl
 | i+1=>by rw [dvI,List.length_set,Qe9 R q k f i]
theorem Qm5 {l:List Rat} {i j:Nat} {x:Rat} (hi:i<l.length):(l.set i x).getD j 0=if j=i then x else l.getD j 0:=by
 rw [List.getD_eq_getElem?_getD,List.getElem?_set]
 by_cases h:i=j
 ·subst h;rw [if_pos rfl,if_pos hi,if_pos rfl];rfl
 ·rw [if_neg h,if_neg (fun h'=>h h'.symm),← List.getD_eq_getElem?_getD]
theorem QiO {R q:List Rat} {k:Nat} {f:Rat}:∀ i,k+i≤R.length→∀ t,(dvI R q k f i).getD t 0=if k≤t∧t<k+i then R.getD t 0-f*q.getD (t-k) 0 else R.getD t 0
 | 0,_,t=>by rw [if_neg (by omega)];rfl
 | i+1,h,t=>by
  rw [dvI,Qm5 (by rw [Qe9];omega),QiO i (by omega),QiO i (by omega)]
  by_cases h1:t=k+i
  ·subst h1
   rw [if_pos rfl,if_neg (by omega),if_pos (by omega),Nat.add_sub_cancel_left]
  ·rw [if_neg h1]
   by_cases h2:k≤t∧t<k+i
   ·rw [if_pos h2,if_pos (by omega)]
   ·rw [if_neg h2,if_neg (by omega)]
def dvF (R q:List Rat) (k:Nat):Rat:=R.getD (k+q.length-1) 0/q.getD (q.length-1) 0
def dvO (q:List Rat):Nat→List Rat→List Rat→List Rat×List Rat
 | 0,R,O=>(R,O)
 | k+1,R,O=>dvO q k (dvI R q k (dvF R q k) q.length) (O.set k (dvF R q k))
def dvG (K:Nat) (q:List Rat):Nat→List Rat→Prop
 | 0,R=>True
 | k+1,R=>SzL K R∧dvG K q k (dvI R q k (dvF R q k) q.length)
def dvN (p q:List Rat):Nat:=p.length+1-q.length
def quoP (p q:List Rat):List Rat:=if q=[] then [] else Qay (dvO q (dvN p q) p (List.replicate (dvN p q) 0)).2
def remP (p q:List Rat):List Rat:=if q=[] then [] else Qay (dvO q (dvN p q) p (List.replicate (dvN p q) 0)).1
theorem Qos (q:List Rat):∀ (m:Nat) (R O:List Rat),(dvO q m R O).1.length=R.length∧(dvO q m R O).2.length=O.length
 | 0,R,O=>⟨rfl,rfl⟩
 | k+1,R,O=>by
  have ih:=Qos q k (dvI R q k (dvF R q k) q.length) (O.set k (dvF R q k))
  rw [dvO]
  exact ⟨by rw [ih.1,Qe9],by rw [ih.2,List.length_set]⟩
theorem szl_set {K:Nat} {l:List Rat} {i:Nat} {x:Rat} (h:SzL K l) (hx:sz x≤K):SzL K (l.set i x):=fun q hq=>by
 rcases List.mem_or_eq_of_mem_set hq with h1 | h1
 ·exact h q h1
 ·rw [h1];exact hx
theorem dvI_szl {R q:List Rat} {k:Nat} {f:Rat} {K:Nat} (hR:SzL K R) (hq:SzL K q) (hf:sz f≤2*K) (h1:1≤K) (i:Nat) (hi:k+i≤R.length):SzL (4*K+1) (dvI R q k f i):=by
 intro x hx
 obtain ⟨t,ht,rfl⟩:=List.mem_iff_getElem.1 hx
 have e:(dvI R q k f i)[t]=(dvI R q k f i).getD t 0:=by
  rw [List.getD_eq_getElem?_getD,List.getElem?_eq_getElem ht];rfl
 rw [e,QiO i hi]
 have a1:=hR.getD h1 t
 split
 ·have a2:=hq.getD h1 (t-k)
  have a3:=QgM (a:=f) (b:=q.getD (t-k) 0)
  have a4:=sz_sub (a:=R.getD t 0) (b:=f*q.getD (t-k) 0)
  omega
 ·omega

def QjZ (dq:D) (R O:List Rat) (k:Int) (n m:Nat):St:=mkS [(1,.d dq),(6,.own [16] n),(7,.own [24] m),(8,ai k)] [([16],arrR n R),([24],arrR m O)]
def QqQ (dq:D) (R O:List Rat) (k i:Int) (f:Rat) (n m lq:Nat):St:=mkS [(1,.d dq),(6,.own [16] n),(7,.own [24] m),(8,ai k),(9,.ptr [9] 0),(53,.d dq),(54,ai lq),(55,ai i)] [([9],boxR f),([16],arrR n R),([24],arrR m O)]
def QoQ (R O:List Rat) (n m:Nat):St:=mkS [(6,.own [16] n),(7,.own [24] m)] [([16],arrR n R),([24],arrR m O)]
theorem st4 (x y z t a b c d:A):Qac 0 [a,b,c,d] [x,y,z,t]=some [a,b,c,d]:=rfl
variable [Its]

section
variable {dq:D} {q:List Rat} {n m:Nat} {K:Nat}
theorem di_go {R O:List Rat} {f:Rat} {k i:Nat} (hq:RwR dq q) (hR:R.length=n) (hO:O.length=m) (hn:n≤1000000000) (hi:i<q.length) (hk:k+q.length≤n) (sq:SzL K q) (sR:SzL K R) (sf:sz f≤K) (hK1:1≤K) (hK:K≤10000000000) :
    X G Qfg (QqQ dq R O k i f n m q.length)=some (.n,QqQ dq (R.set (k+i) (R.getD (k+i) 0-f*q.getD i 0)) O k ((i+1:Nat):Int) f n m q.length):=by
  have e1:decide ((i:Int)<(q.length:Int))=true:=lt_t (by omega)
  obtain ⟨t,ht⟩:∃ t:Int,t=((k+i:Nat):Int):=⟨_,rfl⟩
  have e2:w64 ((k:Int)+(i:Int))=t:=by rw [Qae (by omega) (by omega)];omega
  have e3:w64 ((i:Int)+1)=((i+1:Nat):Int):=by rw [Qae (by omega) (by omega)];rfl
  have c1:((0:Int)≤t)=True:=eq_true (by omega)
  have c2:(t<(n:Int))=True:=eq_true (by omega)
  have c3:t.toNat=k+i:=by omega
  have x1:=hq.ixa hi
  have y1:=fun h=>ldR h q hi
  have s1:=sq.getD hK1 i
  have s2:=sR.getD hK1 (k+i)
  have g1:=Qdw (a:=f) (b:=q.getD i 0) (by omega) (by omega)
  have k1:=QgM (a:=f) (b:=q.getD i 0)
  have g2:=Qrx (a:=R.getD (k+i) 0) (b:=f*q.getD i 0) (by omega) (by omega)
  have l1:=ld_cA (l:=R) (j:=k+i) (by omega)
  have t1:=Qtp (l:=R) (j:=k+i) (by omega) (R.getD (k+i) 0-f*q.getD i 0)
  clear s1 s2 k1 sq sR ht
  generalize R.getD (k+i) 0-f*q.getD i 0=r at *
  generalize f*q.getD i 0=p at *
  generalize R.getD (k+i) 0=u at *
  generalize q.getD i 0=v at *
  generalize cRs (q.drop i)=cs at *
  simp only [encR] at g1 g2 y1
  simp -implicitDefEqProofs (maxSteps:=9^8) only [Qfg,QqQ,boxR,QaQ,allD,ld4,st4,l1,t1,x1,y1,c1,c2,c3,e1,e2,e3,g1,g2,go_sem,iv,bv,and_self,reduceCtorEq,↓reduceIte,Nat.reduceEqDiff]
theorem di_stop {R O:List Rat} {f:Rat} {k:Int}:X G Qfg (QqQ dq R O k (q.length:Nat) f n m q.length)=some (.x 2,QjZ dq R O k n m):=by
 have e1:decide ((q.length:Int)<(q.length:Int))=false:=lt_f (by omega)
 simp -implicitDefEqProofs (maxSteps:=9^8) only [Qfg,QqQ,QjZ,boxR,QaQ,e1,go_sem,iv,bv,reduceCtorEq,↓reduceIte,Nat.reduceEqDiff]
theorem di_loop {R O:List Rat} {f:Rat} {k:Nat} (hq:RwR dq q) (hR:R.length=n) (hO:O.length=m) (hn:n≤1000000000) (hk:k+q.length≤n) (sq:SzL K q) (sR:SzL K R) (sf:sz f≤2*K) (hK1:1≤K) (hK:K≤1000000000):∀ j i:Nat,i+j=q.length →
    X G (.loop Qfg) (QqQ dq (dvI R q k f i) O k i f n m q.length)=some (.x 2,QjZ dq (dvI R q k f q.length) O k n m)
  | 0,i,h=>by
    have:i=q.length:=by omega
    subst this
    rw [Qai,di_stop];rfl
  | j+1,i,h=>by
    have hs:=dvI_szl (k:=k) sR sq sf hK1 i (by omega)
    rw [Qai,di_go (K:=4*K+1) hq (by rw [Qe9,hR]) hO hn (by omega) hk (sq.mono (by omega)) hs (by omega) (by omega) (by omega),Option.bind_some,if_pos rfl]
    exact di_loop hq hR hO hn hk sq sR sf hK1 hK j (i+1) (by omega)
theorem dv_go {R O:List Rat} {k:Nat} (hq:RwR dq q) (hq0:0<q.length) (hR:R.length=n) (hO:O.length=m) (hn:n≤1000000000) (hk:k+q.length≤n) (hm:k<m) (sq:SzL K q) (sR:SzL K R) (hK1:1≤K) (hK:K≤1000000000) :
    X G QcF (QjZ dq R O k n m)=some (.n,QjZ dq (dvI R q k (dvF R q k) q.length) (O.set k (dvF R q k)) ((k:Int)-1) n m):=by
  have e1:decide ((k:Int)≥0)=true:=decide_eq_true (by omega)
  obtain ⟨z,hz⟩:∃ z,(k:Int)+(q.length:Int)=z:=⟨_,rfl⟩
  obtain ⟨t,ht⟩:∃ t,z-1=t:=⟨_,rfl⟩
  have e2:w64 ((k:Int)+(q.length:Int))=z:=by rw [Qae (by omega) (by omega),hz]
  have e3:w64 (z-1)=t:=by rw [Qae (by omega) (by omega),ht]
  have e4:w64 ((q.length:Int)-1)=((q.length-1:Nat):Int):=by rw [Qae (by omega) (by omega)];omega
  have e5:w64 ((k:Int)-1)=(k:Int)-1:=Qae (by omega) (by omega)
  have c1:((0:Int)≤t)=True:=eq_true (by omega)
  have c2:(t<(n:Int))=True:=eq_true (by omega)
  have c3:t.toNat=k+q.length-1:=by omega
  have c4:((0:Int)≤(k:Int))=True:=eq_true (by omega)
  have c5:((k:Int)<(m:Int))=True:=eq_true (by omega)
  have hqi:q.length-1<q.length:=by omega
  have x1:=hq.ixa hqi
  have y1:=fun h=>ldR h q hqi
  have lq:=hq.len
  have l1:=ld_cA (l:=R) (j:=k+q.length-1) (by omega)
  have s1:=sq.getD hK1 (q.length-1)
  have s2:=sR.getD hK1 (k+q.length-1)
  have g1:=Qjx (a:=R.getD (k+q.length-1) 0) (b:=q.getD (q.length-1) 0) (by omega) (by omega)
  have sf:=Qnk (a:=R.getD (k+q.length-1) 0) (b:=q.getD (q.length-1) 0)
  have hf:R.getD (k+q.length-1) 0/q.getD (q.length-1) 0=dvF R q k:=rfl
  rw [hf] at g1 sf
  have t1:=Qtp (l:=O) (j:=k) (by omega) (dvF R q k)
  have hl:=di_loop (O:=O.set k (dvF R q k)) (f:=dvF R q k) (k:=k) hq hR (by rw [List.length_set,hO]) hn hk sq sR (by omega) hK1 hK q.length 0 (by omega)
  have d0:dvI R q k (dvF R q k) 0=R:=rfl
  rw [d0] at hl
  clear s1 s2 sf sq sR hf d0 hz ht
  generalize dvI R q k (dvF R q k) q.length=R2 at *
  generalize dvF R q k=f at *
  generalize R.getD (k+q.length-1) 0=u at *
  generalize q.getD (q.length-1) 0=v at *
  generalize cRs (q.drop (q.length-1))=cs at *
  simp only [encR] at g1 y1
  simp only [QqQ,QjZ,boxR,go_sem,nc0] at hl
  simp -implicitDefEqProofs (maxSteps:=9^8) only [QcF,QjZ,boxR,QaQ,allD,Int.toNat_natCast,ld4,st4,lq,l1,t1,x1,y1,c1,c2,c3,c4,c5,e1,e2,e3,e4,e5,g1,hl,go_sem,iv,bv,and_self,reduceCtorEq,↓reduceIte,Nat.reduceEqDiff]
theorem Qre {R O:List Rat} {k:Int} (hk:k<0):X G QcF (QjZ dq R O k n m)=some (.x 0,QoQ R O n m):=by
 have e1:decide (k≥0)=false:=decide_eq_false (by omega)
 simp -implicitDefEqProofs (maxSteps:=9^8) only [QcF,QjZ,QoQ,QaQ,e1,go_sem,iv,bv,reduceCtorEq,↓reduceIte,Nat.reduceEqDiff]
theorem dv_loop (hq:RwR dq q) (hq0:0<q.length) (hn:n≤1000000000) (sq:SzL K q) (hK1:1≤K) (hK:K≤1000000000):∀ (j:Nat) (R O:List Rat),R.length=n→O.length=m→j≤m→(0<j→j-1+q.length≤n)→dvG K q j R →
    X G (.loop QcF) (QjZ dq R O ((j:Int)-1) n m)=some (.x 0,QoQ (dvO q j R O).1 (dvO q j R O).2 n m)
  | 0,R,O,hR,hO,_,_,_=>by
    rw [Qai,Qre (by omega)];rfl
  | k+1,R,O,hR,hO,hm,hj,hg=>by
    rw [show ((k+1:Nat):Int)-1=(k:Int) by omega]
    have hj':=hj (by omega)
    rw [Qai,dv_go hq hq0 hR hO hn (by omega) (by omega) sq hg.1 hK1 hK,Option.bind_some,if_pos rfl]
    have ih:=dv_loop hq hq0 hn sq hK1 hK k (dvI R q k (dvF R q k) q.length) (O.set k (dvF R q k)) (by rw [Qe9,hR]) (by rw [List.length_set,hO]) (by omega) (fun _=>by omega) hg.2
    rw [dvO]
    exact ih
theorem Qf6        {dp:D} {p:List Rat} (hp:RwR dp p) (hq:RwR dq q) (hn:p.length≤1000000000) (hn2:q.length≤1000000000) (sq:SzL K q) (hK1:1≤K) (hK:K≤1000000000) (hg:dvG K q (dvN p q) p) :
    ∃ d1 d2,RwR d1 (quoP p q)∧RwR d2 (remP p q)∧Qah G Qdf [dp,dq]=some (.d (.tup [d1,d2])):=by
  rw [Qad (cf:=QiJ) rfl]
  have lp:=hp.len
  have lq:=hq.len
  by_cases hq0:q.length=0
  · have hqn:q=[]:=List.eq_nil_of_length_eq_zero hq0
    subst hqn
    refine ⟨.z true,.z true,RwR.nil,RwR.nil, ?_⟩
    have e1:(((([]:List Rat).length:Nat):Int)==0)=true:=rfl
    have e1':((0:Int)==0)=true:=rfl
    simp -implicitDefEqProofs (maxSteps:=9^8) only [QiJ,toDs,e1,e1',lq,go_sem,iv,bv,reduceCtorEq,↓reduceIte,Nat.reduceEqDiff]
  · have hqn:q≠[]:=fun h=>hq0 (by rw [h];rfl)
    unfold quoP remP
    rw [if_neg hqn,if_neg hqn]
    have e1:((q.length:Int)==0)=false:=Qcx (by omega)
    obtain ⟨z,hz⟩:∃ z,(p.length:Int)-(q.length:Int)=z:=⟨_,rfl⟩
    have e2:w64 ((p.length:Int)-(q.length:Int))=z:=by rw [Qae (by omega) (by omega),hz]
    obtain ⟨z1,hz1⟩:∃ z1,z+1=z1:=⟨_,rfl⟩
    have e3:w64 (z+1)=z1:=by rw [Qae (by omega) (by omega),hz1]
    have e4:(if z1>(0:Int) then z1 else (0:Int))=((dvN p q:Nat):Int):=by unfold dvN;split<;>omega
    have c1:((0:Int)≤((dvN p q:Nat):Int))=True:=eq_true (by omega)
    have hN:dvN p q≤1000000000:=by unfold dvN;omega
    have c2:(((dvN p q:Nat):Int)*((64:Nat):Int)≤(bound:Int))=True:=eq_true (by have:(bound:Int)=140737488351232:=rfl;omega)
    have r0:=QmT (dvN p q)
    have m0:=Qmt (List.replicate (dvN p q) (0:Rat))
    have hO:(List.replicate (dvN p q) (0:Rat)).length=dvN p q:=List.length_replicate
    rcases hp with ⟨rfl,rfl⟩ | rfl
    · have hN0:dvN [] q=0:=by unfold dvN;simp;omega
      rw [hN0]
      obtain ⟨d1,hr1,gT1⟩:=Qif (RwR.row []) (by decide)
      obtain ⟨d2,hr2,gT2⟩:=Qif RwR.nil (by decide)
      refine ⟨d1,d2,hr1,hr2, ?_⟩
      have gC:=Qpw
      have e5:decide (z≥0)=false:=decide_eq_false (by simp at hz;omega)
      have h0:(z1>(0:Int))=False:=eq_false (by simp at hz;omega)
      have hl:X G (.loop QcF) ⟨frL [(1,.d dq),(6,.d (.z true)),(7,.own [24] 0),(8,ai z)],QbE (hupd hp0 [24] ⟨4,0,[],false⟩) [16] none,[]⟩=some (.x 0,⟨frL [(6,.d (.z true)),(7,.own [24] 0)],QbE (hupd hp0 [24] ⟨4,0,[],false⟩) [16] none,[]⟩):=by
        rw [Qai]
        simp -implicitDefEqProofs (maxSteps:=9^8) only [QcF,e5,go_sem,iv,bv,reduceCtorEq,↓reduceIte,Nat.reduceEqDiff]
      have b0:((0:Int)*((64:Nat):Int)≤(bound:Int))=True:=eq_true (by decide)
      have rz:∀ zs,rep 0 zs=[]:=fun _=>rfl
      have t0:(0:Int).toNat=0:=rfl
      clear e4 c1 c2 r0 m0 hO
      simp only [rowR,cRs,List.length_nil] at gT1
      simp only [List.length_nil] at e2 lp
      have e2':w64 (0-(q.length:Int))=z:=e2
      simp only [go_sem] at hl
      simp -implicitDefEqProofs (maxSteps:=9^8) only [QiJ,Qfz,toDs,QfB,mxV,h0,rz,t0,b0,allD,List.map_nil,Int.le_refl,hl,gT1,gT2,gC,lp,lq,e1,e2',e3,true_and,and_self,go_sem,iv,bv,reduceCtorEq,↓reduceIte,Nat.reduceEqDiff]
    · have hl:=dv_loop (m:=dvN p q) hq (by omega) hn sq hK1 hK (dvN p q) p (List.replicate (dvN p q) 0) rfl hO (Nat.le_refl _) (fun _=>by unfold dvN;omega) hg
      obtain ⟨dl1,dl2⟩:=Qos q (dvN p q) p (List.replicate (dvN p q) 0)
      rw [hO] at dl2
      have gC:=Qqi (l:=p) (by omega)
      unfold clR at gC
      simp only [Bool.false_eq_true,↓reduceIte] at gC
      have m1:=Qmt p
      obtain ⟨d1,hr1,gT1⟩:=Qif (RwR.row (dvO q (dvN p q) p (List.replicate (dvN p q) 0)).2) (by omega)
      obtain ⟨d2,hr2,gT2⟩:=Qif (RwR.row (dvO q (dvN p q) p (List.replicate (dvN p q) 0)).1) (by omega)
      refine ⟨d1,d2,hr1,hr2, ?_⟩
      rw [rowR,dl2] at gT1
      rw [rowR,dl1] at gT2
      clear hr1 hr2 dl1 dl2 hg hO
      generalize (dvO q (dvN p q) p (List.replicate (dvN p q) 0)).1=R at *
      generalize (dvO q (dvN p q) p (List.replicate (dvN p q) 0)).2=O at *
      by_cases hz0:z≥0
      · have ek:((dvN p q:Nat):Int)-1=z:=by unfold dvN;omega
        rw [ek] at hl
        unfold rowR at *
        simp only [QjZ,QoQ,go_sem] at hl
        simp -implicitDefEqProofs (maxSteps:=9^8) only [QiJ,Qfz,toDs,QfB,mxV,r0,m0,m1,Int.toNat_natCast,hl,gT1,gT2,gC,lp,lq,e1,e2,e3,e4,c1,c2,QgW,QaQ,Qaa,true_and,and_self,go_sem,iv,bv,reduceCtorEq,↓reduceIte,Nat.reduceEqDiff]
      · have hN0:dvN p q=0:=by unfold dvN;omega
        have hst:X G (.loop QcF) (QjZ dq p (List.replicate (dvN p q) 0) z p.length (dvN p q))=some (.x 0,QoQ p (List.replicate (dvN p q) 0) p.length (dvN p q)):=by
          rw [Qai,Qre (by omega)];rfl
        have hst2:X G (.loop QcF) (QjZ dq p (List.replicate (dvN p q) 0) (((dvN p q:Nat):Int)-1) p.length (dvN p q))=some (.x 0,QoQ p (List.replicate (dvN p q) 0) p.length (dvN p q)):=by
          rw [Qai,Qre (by omega)];rfl
        rw [hst2] at hl
        have hl':QoQ p (List.replicate (dvN p q) 0) p.length (dvN p q)=QoQ R O p.length (dvN p q):=by
          simpa using hl
        rw [hl'] at hst
        clear hl hl' hst2
        unfold rowR at *
        simp only [QjZ,QoQ,go_sem] at hst
        simp -implicitDefEqProofs (maxSteps:=9^8) only [QiJ,Qfz,toDs,QfB,mxV,r0,m0,m1,Int.toNat_natCast,hst,gT1,gT2,gC,lp,lq,e1,e2,e3,e4,c1,c2,QgW,QaQ,Qaa,true_and,and_self,go_sem,iv,bv,reduceCtorEq,↓reduceIte,Nat.reduceEqDiff]
end
end Go.AM

/- poly.monic, Gcd, Free; closed inputs. -/
namespace Go.AM
open Go Go.RowKit

def mnP (l:List Rat):List Rat:=if l=[] then [] else scP l (1/l.getD (l.length-1) 0)
theorem QeF (l:List Rat):(mnP l).length≤l.length:=by
 unfold mnP;split
 ·simp
 ·exact Qpm _ _
theorem Qha (l:List Rat):Trm (mnP l):=by
 unfold mnP;split
 ·exact Qit
 ·exact Qr1 _ _
theorem QhQ (p q:List Rat):(remP p q).length≤p.length:=by
 unfold remP;split
 ·simp
 ·have:=Qcm (dvO q (dvN p q) p (List.replicate (dvN p q) 0)).1
  rw [(Qos q _ _ _).1] at this
  exact this
theorem Qj7 (p q:List Rat):(quoP p q).length≤dvN p q:=by
 unfold quoP;split
 ·simp
 ·have:=Qcm (dvO q (dvN p q) p (List.replicate (dvN p q) 0)).2
  rw [(Qos q _ _ _).2,List.length_replicate] at this
  exact this
def gcP:Nat→List Rat→List Rat→List Rat
 | 0,a,_=>a
 | n+1,a,b=>if b=[] then a else gcP n b (mnP (remP a b))
def gcdP (p q:List Rat):List Rat:=gcP (q.length+1) (mnP p) (mnP q)
def frP (p:List Rat):List Rat:=mnP (quoP p (gcdP p (deP p)))
def gcG (K:Nat):Nat→List Rat→List Rat→Prop
 | 0,_,b=>b=[]
 | n+1,a,b=>b=[]∨(SzL K b∧dvG K b (dvN a b) a∧SzL K (remP a b)∧gcG K n b (mnP (remP a b)))

/-! ### QaU inputs: all of them of one digit -/
def sm1 (q:Rat):Bool:=decide (q.num.natAbs<1000000000)&&decide (q.den<1000000000)
def smL (l:List Rat):Bool:=l.all sm1
theorem Qb1 {l:List Rat} (h:smL l=true):SzL 1 l:=fun q hq=>by
 have h1:=List.all_eq_true.1 h q hq
 simp only [sm1,Bool.and_eq_true,decide_eq_true_eq] at h1
 exact sz_le (Qp0 (k:=1) (by rw [Nat.pow_one];exact h1.1)) (Qp0 (k:=1) (by rw [Nat.pow_one,Int.natAbs_natCast];exact h1.2))
def dvB (q:List Rat):Nat→List Rat→Bool
 | 0,_=>true
 | k+1,R=>smL R&&dvB q k (dvI R q k (dvF R q k) q.length)
theorem Qlu {q:List Rat}:∀ {m:Nat} {R:List Rat},dvB q m R=true→dvG 1 q m R
 | 0,_,_=>trivial
 | k+1,R,h=>by
  simp only [dvB,Bool.and_eq_true] at h
  exact ⟨Qb1 h.1,Qlu h.2⟩
def gcB:Nat→List Rat→List Rat→Bool
 | 0,_,b=>decide (b=[])
 | n+1,a,b=>decide (b=[])||(smL b&&dvB b (dvN a b) a&&smL (remP a b)&&gcB n b (mnP (remP a b)))
theorem Qqo:∀ {n:Nat} {a b:List Rat},gcB n a b=true→gcG 1 n a b
 | 0,_,b,h=>by
  have h':decide (b=[])=true:=h
  show b=[]
  exact of_decide_eq_true h'
 | n+1,a,b,h=>by
  simp only [gcB,Bool.or_eq_true,Bool.and_eq_true,decide_eq_true_eq] at h
  rcases h with h | h
  ·exact .inl h
  ·exact .inr ⟨Qb1 h.1.1.1,Qlu h.1.1.2,Qb1 h.1.2,Qqo h.2⟩
variable [Its]

theorem Qtu:Qah G QgC [iv 1,iv 1]=some (.d (encR 1)):=by
 have g:=Qf5 (n:=1) (d:=1) ⟨by omega,by omega⟩ ⟨by omega,by omega⟩
 have e:Rat.divInt 1 1=1:=Qct 1
 rw [e] at g;exact g
theorem QiH {d:D} {l:List Rat} (hr:RwR d l) (hn:l.length≤1000000000) {K:Nat} (sl:SzL K l) (hK1:1≤K) (hK:K≤1000000000):∃ d',RwR d' (mnP l)∧Qah G Qft [d]=some (.d d'):=by
 rw [Qad (cf:=QiB) rfl]
 have ll:=hr.len
 by_cases h0:l.length=0
 ·have:l=[]:=List.eq_nil_of_length_eq_zero h0
  subst this
  refine ⟨.z true,.inl ⟨rfl,rfl⟩, ?_⟩
  have e1:((0:Int)==0)=true:=rfl
  simp only [List.length_nil] at ll
  simp -implicitDefEqProofs (maxSteps:=9^8) only [QiB,ll,e1,go_sem,iv,bv,reduceCtorEq,↓reduceIte,Nat.reduceEqDiff]
 ·have hne:l≠[]:=fun h=>h0 (by rw [h];rfl)
  unfold mnP
  rw [if_neg hne]
  have e1:((l.length:Int)==0)=false:=Qcx (by omega)
  have e2:w64 ((l.length:Int)-1)=((l.length-1:Nat):Int):=by rw [Qae (by omega) (by omega)];omega
  have hl:l.length-1<l.length:=by omega
  have x1:=hr.ixa hl
  have y1:=fun h=>ldR h l hl
  have s1:=sl.getD hK1 (l.length-1)
  have g1:=Qtu
  have g2:=Qjx (a:=1) (b:=l.getD (l.length-1) 0) (by rw [Qh3];omega) (by omega)
  have s2:=Qnk (a:=1) (b:=l.getD (l.length-1) 0)
  rw [Qh3] at s2
  obtain ⟨d',hr',gS⟩:=Qlg (a:=1/l.getD (l.length-1) 0) hr (K:=K+1) (sl.mono (by omega)) (by omega) (by omega) (by omega) hn
  refine ⟨d',hr', ?_⟩
  clear s1 s2 hr'
  generalize 1/l.getD (l.length-1) 0=r at *
  generalize l.getD (l.length-1) 0=u at *
  generalize cRs (l.drop (l.length-1))=cs at *
  generalize ((l.length-1:Nat):Int)=z at *
  generalize (1:Rat)=one at *
  simp only [encR,iv] at g1 g2 y1 gS
  simp -implicitDefEqProofs (maxSteps:=9^8) only [QiB,ll,x1,y1,e1,e2,g1,g2,gS,go_sem,iv,bv,reduceCtorEq,↓reduceIte,Nat.reduceEqDiff]

def Qq9 (da db:D):St:=mkS [(0,.d da),(1,.d db)] []
def gc_en (da:D):St:=mkS [(0,.d da)] []
theorem gc_stop {da db:D} (hb:RwR db []):X G Qfi (Qq9 da db)=some (.x 0,gc_en da):=by
 have ll:=hb.len
 have e1:decide ((0:Int)>0)=false:=rfl
 simp only [List.length_nil] at ll
 simp -implicitDefEqProofs (maxSteps:=9^8) only [Qfi,Qq9,gc_en,ll,e1,go_sem,iv,bv,reduceCtorEq,↓reduceIte,Nat.reduceEqDiff]
theorem gc_go {da db:D} {a b:List Rat} (ha:RwR da a) (hb:RwR db b) (hne:b≠[]) (na:a.length≤1000000000) (nb:b.length≤1000000000) {K:Nat} (hK1:1≤K) (hK:K≤1000000000) (sb:SzL K b) (hg:dvG K b (dvN a b) a) (sr:SzL K (remP a b)) :
    ∃ d',RwR d' (mnP (remP a b))∧X G Qfi (Qq9 da db)=some (.n,Qq9 db d'):=by
  obtain ⟨d1,d2,h1,h2,gD⟩:=Qf6 ha hb na nb sb hK1 hK hg
  obtain ⟨d3,h3,gM⟩:=QiH h2 (Nat.le_trans (QhQ a b) na) sr hK1 hK
  refine ⟨d3,h3, ?_⟩
  have hl:0<b.length:=List.length_pos_iff.2 hne
  have ll:=hb.len
  have e1:decide ((b.length:Int)>0)=true:=gt_t (by omega)
  simp -implicitDefEqProofs (maxSteps:=9^8) only [Qfi,Qq9,ll,e1,gD,gM,go_sem,iv,bv,reduceCtorEq,↓reduceIte,Nat.reduceEqDiff]
theorem gc_loop {K:Nat} (hK1:1≤K) (hK:K≤1000000000):∀ (n:Nat) (a b:List Rat) (da db:D),RwR da a→RwR db b→a.length≤1000000000→b.length≤1000000000→gcG K n a b→∃ d',RwR d' (gcP n a b)∧X G (.loop Qfi) (Qq9 da db)=some (.x 0,gc_en d')
 | 0,a,b,da,db,ha,hb,na,nb,hg=>by
  have hb':b=[]:=hg
  subst hb'
  exact ⟨da,ha,by rw [Qai,gc_stop hb];rfl⟩
 | n+1,a,b,da,db,ha,hb,na,nb,hg=>by
  by_cases hb0:b=[]
  ·subst hb0
   rw [gcP,if_pos rfl]
   exact ⟨da,ha,by rw [Qai,gc_stop hb];rfl⟩
  ·rw [gcP,if_neg hb0]
   rcases hg with hg | ⟨g1,g2,g3,g4⟩
   ·exact absurd hg hb0
   ·obtain ⟨d1,h1,hx⟩:=gc_go ha hb hb0 na nb hK1 hK g1 g2 g3
    obtain ⟨d',h',hl⟩:=gc_loop hK1 hK n b (mnP (remP a b)) db d1 hb h1 nb (Nat.le_trans (QeF _) (Nat.le_trans (QhQ a b) na)) g4
    exact ⟨d',h',by rw [Qai,hx,Option.bind_some,if_pos rfl];exact hl⟩
theorem Qno        {dp dq:D} {p q:List Rat} (hp:RwR dp p) (hq:RwR dq q) (np:p.length≤1000000000) (nq:q.length≤1000000000) {K:Nat} (hK1:1≤K) (hK:K≤1000000000) (sp:SzL K p) (sq:SzL K q) (hg:gcG K (q.length+1) (mnP p) (mnP q)) :
    ∃ d',RwR d' (gcdP p q)∧Qah G QiP [dp,dq]=some (.d d'):=by
  rw [Qad (cf:=QoL) rfl]
  obtain ⟨d1,h1,g1⟩:=QiH hp np sp hK1 hK
  obtain ⟨d2,h2,g2⟩:=QiH hq nq sq hK1 hK
  obtain ⟨d',h',hl⟩:=gc_loop hK1 hK (q.length+1) (mnP p) (mnP q) d1 d2 h1 h2 (Nat.le_trans (QeF _) np) (Nat.le_trans (QeF _) nq) hg
  refine ⟨d',h', ?_⟩
  simp only [Qq9,gc_en,go_sem] at hl
  simp -implicitDefEqProofs (maxSteps:=9^8) only [QoL,g1,g2,hl,go_sem,iv,bv,reduceCtorEq,↓reduceIte,Nat.reduceEqDiff]
theorem QhT         {dp:D} {p:List Rat} (hp:RwR dp p) (np':p.length<1000000000) {K:Nat} (hK1:1≤K) (hK:K≤1000000000) (sp:SzL K p) (sd:SzL K (deP p)) (hg:gcG K ((deP p).length+1) (mnP p) (mnP (deP p))) (ng:(gcdP p (deP p)).length≤1000000000) (sg:SzL K (gcdP p (deP p))) (hd:dvG K (gcdP p (deP p)) (dvN p (gcdP p (deP p))) p) (so:SzL K (quoP p (gcdP p (deP p)))) :
    ∃ d',RwR d' (frP p)∧Qah G Qc0 [dp]=some (.d d'):=by
  have np:p.length≤1000000000:=by omega
  rw [Qad (cf:=Qmf) rfl]
  obtain ⟨d1,h1,g1⟩:=Qko hp sp hK1 (by omega) np
  obtain ⟨d2,h2,g2⟩:=Qno hp h1 np (Nat.le_trans (Qsk p) (by omega)) hK1 hK sp sd hg
  obtain ⟨d3,d4,h3,h4,g3⟩:=Qf6 hp h2 np ng sg hK1 hK hd
  obtain ⟨d',h',g4⟩:=QiH h3 (Nat.le_trans (Qj7 p _) (by unfold dvN;omega)) so hK1 hK
  refine ⟨d',h', ?_⟩
  simp -implicitDefEqProofs (maxSteps:=9^8) only [Qmf,g1,g2,g3,g4,go_sem,iv,bv,reduceCtorEq,↓reduceIte,Nat.reduceEqDiff]
end Go.AM

/- ref04.Same at equal numbers. -/
namespace Go.AM
open Go Go.RowKit

def bx2 (b:Bool) (l:List Int):Obj:=⟨0,0,[.d (.v (.bool b)),.d (dg l)],false⟩
theorem bself (b:Bool):(b==b)=true:=by cases b<;>rfl
variable [Its]

def Qq2 (b:Bool) (l:List Int) (i:Int):St:=mkS [(2,.ptr [2] 0),(3,.ptr [3] 0),(5,ai i)] [([2],bx2 b l),([3],bx2 b l)]
theorem s4_go {b:Bool} {l:List Int} (hl:l.length≤1000000000000) {i:Nat} (hi:i<l.length):X G QbO (Qq2 b l i)=some (.n,Qq2 b l ((i+1:Nat):Int)):=by
 have e1:decide ((i:Int)<(l.length:Int))=true:=lt_t (by omega)
 have e2:w64 ((i:Int)+1)=((i+1:Nat):Int):=by rw [Qae (by omega) (by omega)];rfl
 have x1:=(Rw.dg l).ixn hi
 have x2:=fun h=>ldv h l hi
 have e3:(l.getD i 0 != l.getD i 0)=false:=bne_self_eq_false _
 simp -implicitDefEqProofs (maxSteps:=9^8) only [QbO,Qq2,bx2,x1,x2,e1,e2,e3,go_sem,Qac,Qab,iv,bv,reduceCtorEq,↓reduceIte,Nat.reduceEqDiff]
theorem s4_stop {b:Bool} {l:List Int}:X G QbO (Qq2 b l (l.length:Nat))=some (.x 0,mkS [] []):=by
 have e1:decide ((l.length:Int)<(l.length:Int))=false:=lt_f (by omega)
 simp -implicitDefEqProofs (maxSteps:=9^8) only [QbO,Qq2,bx2,e1,go_sem,Qac,Qab,iv,bv,reduceCtorEq,↓reduceIte,Nat.reduceEqDiff]
theorem s4_loop {b:Bool} {l:List Int} (hl:l.length≤1000000000000):∀ j i:Nat,i+j=l.length→X G (.loop QbO) (Qq2 b l i)=some (.x 0,mkS [] [])
 | 0,i,h=>by
  have:i=l.length:=by omega
  subst this
  rw [Qai,s4_stop];rfl
 | j+1,i,h=>by
  rw [Qai,s4_go hl (by omega),Option.bind_some,if_pos rfl]
  exact s4_loop hl j (i+1) (by omega)
theorem s4_refl {b:Bool} {l:List Int} (hl:l.length≤1000000000000):Qah G QeN [.agg [.v (.bool b),dg l],.agg [.v (.bool b),dg l]]=some (.d (bv true)):=by
 rw [Qad (cf:=QfS) rfl]
 have h:=s4_loop (b:=b) hl l.length 0 (by omega)
 have e1:((l.length:Int) != (l.length:Int))=false:=bne_self_eq_false _
 have e2:=bself b
 simp only [Qq2,bx2,go_sem,nc0] at h
 simp -implicitDefEqProofs (maxSteps:=9^8) only [QfS,h,e1,e2,go_sem,Qac,Qab,iv,bv,reduceCtorEq,↓reduceIte,Nat.reduceEqDiff]
end Go.AM

/- Equality: ref04, ref05, ref06.Same, rat.Same at equal numbers. -/
namespace Go.AM
open Go Go.RowKit

variable [Its]
theorem Qoh {a:Rat} (ha:sz a≤100000000000):Qah G QcC [encR a,encR a]=some (.d (bv true)):=by
 rw [Qad (cf:=QfF) rfl]
 have h1:(digs a.num.natAbs).length≤1000000000000:=by have:=QcG ha;unfold nd at this;omega
 have h2:(dd a.den).length≤1000000000000:=by
  have:=QcM ha
  unfold nd at this
  rw [Int.natAbs_natCast] at this
  unfold dd
  split
  ·simp
  ·omega
 have g1:=s4_refl (b:=decide (a.num<0)) h1
 have g2:=s4_refl (b:=false) h2
 clear h1 h2 ha
 unfold encR
 generalize digs a.num.natAbs=l1 at *
 generalize dd a.den=l2 at *
 generalize decide (a.num<0)=b at *
 simp only [bv] at g1 g2
 simp -implicitDefEqProofs (maxSteps:=9^8) only [QfF,g1,g2,go_sem,Qac,Qab,iv,bv,reduceCtorEq,↓reduceIte,Nat.reduceEqDiff]
def Qry (d d':D) (i:Int):St:=mkS [(0,.d d),(1,.d d'),(5,ai i)] []
theorem s6_go {d d':D} {l:List Rat} (h1:RwR d l) (h2:RwR d' l) (sl:SzL 100000000000 l) (hl:l.length≤1000000000000) {i:Nat} (hi:i<l.length):X G QbQ (Qry d d' i)=some (.n,Qry d d' ((i+1:Nat):Int)):=by
 have e1:decide ((i:Int)<(l.length:Int))=true:=lt_t (by omega)
 have e2:w64 ((i:Int)+1)=((i+1:Nat):Int):=by rw [Qae (by omega) (by omega)];rfl
 have ll:=h1.len
 have x1:=h1.ixa hi
 have x2:=h2.ixa hi
 have y1:=fun h=>ldR h l hi
 have g:=Qoh (a:=l.getD i 0) (sl.getD (by omega) i)
 generalize l.getD i 0=q at *
 generalize cRs (l.drop i)=cs at *
 simp only [encR,bv] at y1 g
 simp -implicitDefEqProofs (maxSteps:=9^8) only [QbQ,Qry,ll,x1,x2,y1,e1,e2,g,go_sem,iv,bv,reduceCtorEq,↓reduceIte,Nat.reduceEqDiff]
theorem s6_stop {d d':D} {l:List Rat} (h1:RwR d l):X G QbQ (Qry d d' (l.length:Nat))=some (.x 0,mkS [] []):=by
 have e1:decide ((l.length:Int)<(l.length:Int))=false:=lt_f (by omega)
 have ll:=h1.len
 simp -implicitDefEqProofs (maxSteps:=9^8) only [QbQ,Qry,ll,e1,go_sem,iv,bv,reduceCtorEq,↓reduceIte,Nat.reduceEqDiff]
theorem s6_loop {d d':D} {l:List Rat} (h1:RwR d l) (h2:RwR d' l) (sl:SzL 100000000000 l) (hl:l.length≤1000000000000):∀ j i:Nat,i+j=l.length→X G (.loop QbQ) (Qry d d' i)=some (.x 0,mkS [] [])
 | 0,i,h=>by
  have:i=l.length:=by omega
  subst this
  rw [Qai,s6_stop h1];rfl
 | j+1,i,h=>by
  rw [Qai,s6_go h1 h2 sl hl (by omega),Option.bind_some,if_pos rfl]
  exact s6_loop h1 h2 sl hl j (i+1) (by omega)
theorem s6_refl {d d':D} {l:List Rat} (h1:RwR d l) (h2:RwR d' l) (sl:SzL 100000000000 l) (hl:l.length≤1000000000000):Qah G QgN [d,d']=some (.d (bv true)):=by
 rw [Qad (cf:=QfJ) rfl]
 have h:=s6_loop h1 h2 sl hl l.length 0 (by omega)
 have e1:((l.length:Int) != (l.length:Int))=false:=bne_self_eq_false _
 have ll:=h1.len
 have ll2:=h2.len
 simp only [Qry,go_sem,nc0] at h
 simp -implicitDefEqProofs (maxSteps:=9^8) only [QfJ,h,ll,ll2,e1,go_sem,iv,bv,reduceCtorEq,↓reduceIte,Nat.reduceEqDiff]
/-! ### rat.Same -/
end Go.AM

/- ref06: Trim, Small, Mul. -/
namespace Go.AM
open Go Go.RowKit

def smR (n:Int):Rat:=Rat.divInt (arnd n 105%15-7) (1+arnd n 105/15%4)
theorem QpC (n:Int):H1 1 1 (smR n):=by
 have b:=QpU (n:=n) (m:=105) (by omega)
 have hd:0<1+arnd n 105/15%4:=by omega
 refine ⟨(1+arnd n 105/15%4).natAbs,by omega, ?_,(Hq.div hd).le ?_⟩
 ·rw [Nat.pow_one];show _≤1000000000;omega
 ·rw [Nat.pow_one];show _≤1000000000;omega
theorem smR_sz (n:Int):sz (smR n)≤2:=(QpC n).sz
theorem evR_set (x c:Rat):∀ (l:List Rat) (t:Nat),t<l.length→evR (l.set t (l.getD t 0+c)) x=evR l x+c*x^t
 | [],t,h=>by simp at h
 | a :: l,0,h=>by
  show evR l x*x+(a+c)=evR l x*x+a+c*x^0
  rw [Rat.pow_zero]
  generalize evR l x=u;grind
 | a :: l,t+1,h=>by
  have ih:=evR_set x c l t (by simpa using h)
  show evR (l.set t (l.getD t 0+c)) x*x+a=evR l x*x+a+c*x^(t+1)
  rw [ih,Rat.pow_succ]
  generalize evR l x=u;generalize x^t=p;grind
theorem Qr3 (l:List Rat) (x:Rat) {k:Nat} (h:k<l.length):evR (l.drop k) x=evR (l.drop (k+1)) x*x+l.getD k 0:=by
 have e:l.drop k=l.getD k 0 :: l.drop (k+1):=by
  rw [List.drop_eq_getElem_cons h,List.getD_eq_getElem?_getD,List.getElem?_eq_getElem h];rfl
 rw [e,Qar]
theorem Qk0 (n:Nat) (x:Rat):evR (List.replicate n 0) x=0:=Qku (fun q hq=>(List.mem_replicate.1 hq).2) x
theorem Hq_set {D X:Nat} {l:List Rat} {t:Nat} {c:Rat} (h:∀ q∈l,Hq D X q) (hc:Hq D X c):∀ q∈l.set t c,Hq D X q:=fun q hq=>by
 rcases List.mem_or_eq_of_mem_set hq with h1 | h1
 ·exact h q h1
 ·rw [h1];exact hc
variable [Its]

theorem Qhk {n:Int} (hn:I64 n):Qah G QbL [iv n]=some (.d (encR (smR n))):=by
 rw [Qad (cf:=QeX) rfl]
 have g1:=Qjd (n:=n) (m:=105) hn (by omega)
 have b:=QpU (n:=n) (m:=105) (by omega)
 unfold smR
 generalize arnd n 105=k at *
 have e1:=Qee (a:=k) (b:=15) (by omega)
 have e2:=QfI (a:=k) (b:=15) (by omega)
 have e3:w64 (k%15-7)=k%15-7:=Qae (by omega) (by omega)
 have e4:w64 (k/15)=k/15:=Qae (by omega) (by omega)
 have e5:=Qee (a:=k/15) (b:=4) (by omega)
 have e6:w64 (1+k/15%4)=1+k/15%4:=Qae (by omega) (by omega)
 have z1:=QkL (b:=(15:Int)) (by omega)
 have z2:=QkL (b:=(4:Int)) (by omega)
 have g2:=Qc3 (n:=k%15-7) (d:=1+k/15%4) ⟨by omega,by omega⟩ ⟨by omega,by omega⟩
 generalize Rat.divInt (k%15-7) (1+k/15%4)=r at *
 simp only [encR,iv] at g1 g2
 simp -implicitDefEqProofs (maxSteps:=9^8) only [QeX,encR,e1,e2,e3,e4,e5,e6,z1,z2,g1,g2,go_sem,Qac,Qab,iv,bv,reduceCtorEq,↓reduceIte,Nat.reduceEqDiff]

/-! ### Trim -/
def QgH (d:D) (n:Int):St:=mkS [(0,.d d),(3,ai n)] []
theorem rtr_go {d:D} {l:List Rat} (hr:RwR d l) {n:Nat} (hn:n<l.length) (hl:l.length*64≤140737488351232) (sl:SzL 100000000000 l) (h0:l.getD n 0=0):X G Qa4 (QgH d ((n+1:Nat):Int))=some (.n,QgH d (n:Int)):=by
 have e1:decide (((n+1:Nat):Int)>0)=true:=gt_t (by omega)
 have e2:w64 (((n+1:Nat):Int)-1)=(n:Int):=by rw [Qae (by omega) (by omega)];omega
 have e6:(if (0:Int)>(n:Int) then (0:Int) else (n:Int))=(n:Int):=if_neg (by omega)
 have e3:=hr.ixa hn
 have e4:=fun h=>ldR h l hn
 have g:=Qf3 (a:=l.getD n 0) (sl.getD (by omega) n)
 have e5:(Int.sign (l.getD n 0).num==0)=true:=by rw [sgn0];exact decide_eq_true h0
 clear h0
 generalize ((n+1:Nat):Int)=n1 at *
 generalize l.getD n 0=q at *
 simp only [encR,iv] at e4 g
 simp -implicitDefEqProofs (maxSteps:=9^8) only [Qa4,QgH,QfB,mxV,e6,go_sem,iv,bv,e1,e2,e3,e4,e5,g,reduceCtorEq,↓reduceIte,Nat.reduceEqDiff]
theorem rtr_stop {d:D} {l:List Rat} (hr:RwR d l) {n:Nat} (hn:n<l.length) (hl:l.length*64≤140737488351232) (sl:SzL 100000000000 l) (h0:l.getD n 0≠0):X G Qa4 (QgH d ((n+1:Nat):Int))=some (.x 0,QgH d ((n+1:Nat):Int)):=by
 have e1:decide (((n+1:Nat):Int)>0)=true:=gt_t (by omega)
 have e2:w64 (((n+1:Nat):Int)-1)=(n:Int):=by rw [Qae (by omega) (by omega)];omega
 have e6:(if (0:Int)>(n:Int) then (0:Int) else (n:Int))=(n:Int):=if_neg (by omega)
 have e3:=hr.ixa hn
 have e4:=fun h=>ldR h l hn
 have g:=Qf3 (a:=l.getD n 0) (sl.getD (by omega) n)
 have e5:(Int.sign (l.getD n 0).num==0)=false:=by rw [sgn0];exact decide_eq_false h0
 clear h0
 generalize ((n+1:Nat):Int)=n1 at *
 generalize l.getD n 0=q at *
 simp only [encR,iv] at e4 g
 simp -implicitDefEqProofs (maxSteps:=9^8) only [Qa4,QgH,QfB,mxV,e6,go_sem,iv,bv,e1,e2,e3,e4,e5,g,reduceCtorEq,↓reduceIte,Nat.reduceEqDiff]
theorem rtr_zero {d:D}:X G Qa4 (QgH d 0)=some (.x 0,QgH d 0):=by
 have e1:decide ((0:Int)>0)=false:=rfl
 simp -implicitDefEqProofs (maxSteps:=9^8) only [Qa4,QgH,go_sem,iv,bv,e1,reduceCtorEq,↓reduceIte,Nat.reduceEqDiff]
theorem Qr2 {d:D} {l:List Rat} (hr:RwR d l) (hl:l.length*64≤140737488351232) (sl:SzL 100000000000 l):∀ n:Nat,n≤l.length→X G (.loop Qa4) (QgH d (n:Int))=some (.x 0,QgH d (cutR l n:Nat))
 | 0,_=>by
  rw [Qai]
  show (X G Qa4 (QgH d 0)).bind _=_
  rw [rtr_zero];rfl
 | n+1,hn=>by
  rw [Qai,cutR]
  by_cases h0:l.getD n 0=0
  ·rw [rtr_go hr (by omega) hl sl h0,Option.bind_some,if_pos rfl,if_pos h0]
   exact Qr2 hr hl sl n (by omega)
  ·rw [rtr_stop hr (by omega) hl sl h0,if_neg h0];rfl
theorem Qcu {d:D} {l:List Rat} (hr:RwR d l) (hl:l.length*64≤140737488351232) (sl:SzL 100000000000 l):∃ d',RwR d' (Qay l)∧Qah G Qat [d]=some (.d d'):=by
 rw [Qad (cf:=Qc9) rfl]
 have hl':=Qr2 hr hl sl l.length (Nat.le_refl _)
 have hc:=QkF l l.length
 have ll:=hr.len
 rcases hr with ⟨rfl,rfl⟩ | rfl
 ·simp only [QgH,List.length_nil,cutR,go_sem] at hl'
  refine ⟨.z true,.inl ⟨rfl,rfl⟩, ?_⟩
  have b0:(0*64≤bound)=True:=eq_true (by decide)
  simp -implicitDefEqProofs (maxSteps:=9^8) only [Qc9,slcA,bnds,optI,srcS,src,b0,List.length_nil,Nat.zero_mul,Nat.zero_le,go_sem,iv,bv,hl',ll,Int.le_refl,reduceCtorEq,↓reduceIte,Nat.reduceEqDiff]
 ·refine ⟨dR (Qay l),QtJ _, ?_⟩
  have e1:rowR (Qay l)=.row (cutR l l.length) ((cRs l).take (cutR l l.length*4)):=by rw [rowR,Qgg,Qay,Qkw]
  have e0:dR (Qay l)=if cutR l l.length=0 then .z true else .row (cutR l l.length) ((cRs l).take (cutR l l.length*4)):=by
   rw [dR,e1]
   have:=Qgg l
   by_cases h:Qay l=[]
   ·rw [if_pos h,if_pos (by rw [← this,h];rfl)]
   ·rw [if_neg h,if_neg (fun h'=>h (List.eq_nil_of_length_eq_zero (by omega)))]
  rw [e0]
  have e2:(((0:Int)≤0∧(0:Int)≤(cutR l l.length:Nat)∧((cutR l l.length:Nat):Int)≤(l.length:Nat)))=True:=eq_true ⟨by omega,by omega,by omega⟩
  have e3:((cutR l l.length:Nat):Int).toNat=cutR l l.length:=Int.toNat_natCast _
  have e5:((0:Int)≤(cutR l l.length:Nat))=True:=eq_true (by omega)
  have e6:(((cutR l l.length:Nat):Int)≤(l.length:Nat))=True:=eq_true (by omega)
  have e7:(cutR l l.length*64≤bound)=True:=eq_true (by unfold bound;omega)
  have e8:((cRs l).take (cutR l l.length*4)).length=cutR l l.length*4:=by rw [List.length_take,QdQ];omega
  clear e0 e1
  unfold rowR at *
  generalize cutR l l.length=c at *
  generalize cRs l=cs at *
  simp only [QgH,go_sem] at hl'
  by_cases h0:c=0
  ·subst h0
   simp only [Nat.zero_mul,List.take_zero] at e8 ⊢
   have b0:(0*64≤bound)=True:=eq_true (by decide)
   have b1:((0:Int)≤(l.length:Int))=True:=eq_true (by omega)
   simp -implicitDefEqProofs (maxSteps:=9^8) only [Qc9,b1,slcA,bnds,optI,srcS,src,b0,List.length_nil,List.take_zero,Nat.zero_mul,Nat.zero_le,go_sem,iv,bv,hl',ll,e2,e3,e5,e6,Int.le_refl,and_self,reduceCtorEq,↓reduceIte,Nat.reduceEqDiff]
  ·simp -implicitDefEqProofs (maxSteps:=9^8) only [Qc9,slcA,bnds,optI,srcS,src,h0,e7,e8,go_sem,iv,bv,hl',ll,e2,e3,e5,e6,Int.le_refl,and_self,reduceCtorEq,↓reduceIte,Nat.reduceEqDiff]

/-! ### Mul -/
def Qmk (dp dq:D) (L:List Rat) (n:Nat) (i k:Int):St:=mkS [(0,.d dp),(1,.d dq),(5,.own [22] n),(6,ai i),(7,ai k)] [([22],arrR n L)]
def Qh8 (dp dq:D) (L:List Rat) (n:Nat) (i:Int):St:=mkS [(0,.d dp),(1,.d dq),(5,.own [22] n),(6,ai i)] [([22],arrR n L)]
def Qs3 (L:List Rat) (n:Nat):St:=mkS [(5,.own [22] n)] [([22],arrR n L)]
section
variable {dp dq:D} {p q:List Rat} {n:Nat}
theorem rmi_go (hp:RwR dp p) (hq:RwR dq q) {L:List Rat} (hL:L.length=n) {i k:Nat} (hi:i<p.length) (hk:k<q.length) (hn:i+k<n) (hn2:n≤1000000000) {K:Nat} (hK1:1≤K) (hK:K≤10000000000) (sp:SzL K p) (sq:SzL K q) (sL:SzL K L) :
    X G Qb2 (Qmk dp dq L n i k)=some (.n,Qmk dp dq (L.set (i+k) (L.getD (i+k) 0+p.getD i 0*q.getD k 0)) n i ((k+1:Nat):Int)):=by
  have e1:decide ((k:Int)<(q.length:Int))=true:=lt_t (by omega)
  obtain ⟨t,ht⟩:∃ t:Int,t=((i+k:Nat):Int):=⟨_,rfl⟩
  have e2:w64 ((i:Int)+(k:Int))=t:=by rw [Qae (by omega) (by omega)];omega
  have e3:w64 ((k:Int)+1)=((k+1:Nat):Int):=by rw [Qae (by omega) (by omega)];rfl
  have c1:((0:Int)≤t)=True:=eq_true (by omega)
  have c2:(t<(n:Int))=True:=eq_true (by omega)
  have c3:t.toNat=i+k:=by omega
  have lq:=hq.len
  have x1:=hp.ixa hi
  have y1:=fun h=>ldR h p hi
  have x2:=hq.ixa hk
  have y2:=fun h=>ldR h q hk
  have s1:=sp.getD hK1 i
  have s2:=sq.getD hK1 k
  have s3:=sL.getD hK1 (i+k)
  have g1:=Qeo (a:=p.getD i 0) (b:=q.getD k 0) (by omega) (by omega)
  have k1:=QgM (a:=p.getD i 0) (b:=q.getD k 0)
  have g2:=Qfq (a:=L.getD (i+k) 0) (b:=p.getD i 0*q.getD k 0) (by omega) (by omega)
  have l1:=ld_cA (l:=L) (j:=i+k) (by omega)
  have t1:=Qtp (l:=L) (j:=i+k) (by omega) (L.getD (i+k) 0+p.getD i 0*q.getD k 0)
  clear s1 s2 s3 k1 sp sq sL ht
  generalize L.getD (i+k) 0+p.getD i 0*q.getD k 0=r at *
  generalize p.getD i 0*q.getD k 0=pr at *
  generalize p.getD i 0=u at *
  generalize q.getD k 0=v at *
  generalize L.getD (i+k) 0=w at *
  generalize cRs (p.drop i)=cs1 at *
  generalize cRs (q.drop k)=cs2 at *
  simp only [encR] at g1 g2 y1 y2
  simp -implicitDefEqProofs (maxSteps:=9^8) only [Qb2,Qmk,QaQ,allD,l1,t1,lq,x1,y1,x2,y2,c1,c2,c3,e1,e2,e3,g1,g2,go_sem,iv,bv,and_self,reduceCtorEq,↓reduceIte,Nat.reduceEqDiff]
theorem rmi_stop (hq:RwR dq q) {L:List Rat} {i:Int}:X G Qb2 (Qmk dp dq L n i (q.length:Nat))=some (.x 2,Qh8 dp dq L n i):=by
 have e1:decide ((q.length:Int)<(q.length:Int))=false:=lt_f (by omega)
 have lq:=hq.len
 simp -implicitDefEqProofs (maxSteps:=9^8) only [Qb2,Qmk,Qh8,QaQ,lq,e1,go_sem,iv,bv,reduceCtorEq,↓reduceIte,Nat.reduceEqDiff]
variable {D E XX YY d h K:Nat}
theorem Qr8      (hp:RwR dp p) (hq:RwR dq q) (hn2:n≤1000000000) (hK1:1≤K) (hK:K≤10000000000) (sp:SzL K p) (sq:SzL K q) (hsz:∀ (m:Nat) (x:Rat),m≤p.length*q.length→Hq (D*E) (m*(XX*YY)) x→sz x≤K) (Hp:∀ x∈p,Hq D XX x) (Hqq:∀ x∈q,Hq E YY x) {i:Nat} (hi:i<p.length) (hn:p.length+q.length=n+1) :
    ∀ (j k m:Nat) (L:List Rat),k+j=q.length→L.length=n→m+j≤p.length*q.length→(∀ x∈L,Hq (D*E) (m*(XX*YY)) x) →
    ∃ L',L'.length=n∧(∀ x∈L',Hq (D*E) ((m+j)*(XX*YY)) x)∧(∀ x,evR L' x=evR L x+p.getD i 0*x^(i+k)*evR (q.drop k) x)∧X G (.loop Qb2) (Qmk dp dq L n i k)=some (.x 2,Qh8 dp dq L' n i)
  | 0,k,m,L,hk,hL,hm,HL=>by
    have:k=q.length:=by omega
    subst this
    refine ⟨L,hL,HL,fun x=>?_,by rw [Qai,rmi_stop hq];rfl⟩
    rw [List.drop_length,QaG,Rat.mul_zero,Rat.add_zero]
  | j+1,k,m,L,hk,hL,hm,HL=>by
    have hstep:=((Hq.getD Hp i).mul (Hq.getD Hqq k))
    have hnew:=(Hq.getD HL (i+k)).add hstep
    have e1:m*(XX*YY)+XX*YY=(m+1)*(XX*YY):=by rw [Nat.succ_mul]
    rw [e1] at hnew
    have HL2:∀ x∈L.set (i+k) (L.getD (i+k) 0+p.getD i 0*q.getD k 0),Hq (D*E) ((m+1)*(XX*YY)) x:=Hq_set (fun x hx=>(HL x hx).le (Nat.mul_le_mul_right _ (by omega))) hnew
    obtain ⟨L',a1,a2,a3,a4⟩:=Qr8 hp hq hn2 hK1 hK sp sq hsz Hp Hqq hi hn j (k+1) (m+1) (L.set (i+k) (L.getD (i+k) 0+p.getD i 0*q.getD k 0)) (by omega) (by rw [List.length_set,hL]) (by omega) HL2
    refine ⟨L',a1,by rw [show m+(j+1)=m+1+j by omega];exact a2,fun x=>?_, ?_⟩
    · rw [a3,evR_set x _ L (i+k) (by omega),Qr3 q x (k:=k) (by omega),show i+(k+1)=(i+k)+1 by omega,Rat.pow_succ]
      generalize evR L x=u;generalize evR (q.drop (k+1)) x=v;generalize x^(i+k)=w;generalize p.getD i 0=a;generalize q.getD k 0=b
      grind
    · rw [Qai,rmi_go hp hq hL hi (by omega) (by omega) hn2 hK1 hK sp sq (fun x hx=>hsz m x (by omega) (HL x hx)),Option.bind_some,if_pos rfl]
      exact a4
theorem Qso      (hp:RwR dp p) (hq:RwR dq q) (hn2:n≤1000000000) (hK1:1≤K) (hK:K≤10000000000) (sp:SzL K p) (sq:SzL K q) (hsz:∀ (m:Nat) (x:Rat),m≤p.length*q.length→Hq (D*E) (m*(XX*YY)) x→sz x≤K) (Hp:∀ x∈p,Hq D XX x) (Hqq:∀ x∈q,Hq E YY x) (hn:p.length+q.length=n+1) (hq0:0<q.length) :
    ∀ (j i:Nat) (L:List Rat),i+j=p.length→L.length=n→(∀ x∈L,Hq (D*E) (i*q.length*(XX*YY)) x) →
    ∃ L',L'.length=n∧(∀ x∈L',Hq (D*E) (p.length*q.length*(XX*YY)) x)∧(∀ x,evR L' x=evR L x+x^i*evR (p.drop i) x*evR q x)∧X G (.loop QbZ) (Qh8 dp dq L n i)=some (.x 0,Qs3 L' n)
  | 0,i,L,hi,hL,HL=>by
    have:i=p.length:=by omega
    subst this
    have lp:=hp.len
    have e1:decide ((p.length:Int)<(p.length:Int))=false:=lt_f (by omega)
    refine ⟨L,hL,HL,fun x=>by rw [List.drop_length,QaG,Rat.mul_zero,Rat.zero_mul,Rat.add_zero], ?_⟩
    have:X G QbZ (Qh8 dp dq L n (p.length:Nat))=some (.x 0,Qs3 L n):=by
      simp -implicitDefEqProofs (maxSteps:=9^8) only [QbZ,Qh8,Qs3,QaQ,lp,e1,go_sem,iv,bv,reduceCtorEq,↓reduceIte,Nat.reduceEqDiff]
    rw [Qai,this];rfl
  | j+1,i,L,hi,hL,HL=>by
    have hile:(i+1)*q.length≤p.length*q.length:=Nat.mul_le_mul_right _ (by omega)
    have hsm:(i+1)*q.length=i*q.length+q.length:=Nat.succ_mul ..
    obtain ⟨L1,b1,b2,b3,b4⟩:=Qr8 hp hq hn2 hK1 hK sp sq hsz Hp Hqq (i:=i) (by omega) hn q.length 0 (i*q.length) L (by omega) hL (by omega) HL
    rw [← hsm] at b2
    obtain ⟨L',a1,a2,a3,a4⟩:=Qso hp hq hn2 hK1 hK sp sq hsz Hp Hqq hn hq0 j (i+1) L1 (by omega) b1 b2
    refine ⟨L',a1,a2,fun x=>?_, ?_⟩
    · rw [a3,b3,Qr3 p x (k:=i) (by omega),List.drop_zero,Nat.add_zero,Rat.pow_succ]
      generalize evR L x=u;generalize evR (p.drop (i+1)) x=v;generalize x^i=w;generalize p.getD i 0=a;generalize evR q x=b
      grind
    · have lp:=hp.len
      have e1:decide ((i:Int)<(p.length:Int))=true:=lt_t (by omega)
      have hpl:p.length≤n:=by omega
      have e3:w64 ((i:Int)+1)=((i+1:Nat):Int):=by rw [Qae (by omega) (by omega)];rfl
      have n0:((0:Nat):Int)=0:=rfl
      rw [n0] at b4
      have:X G QbZ (Qh8 dp dq L n i)=some (.n,Qh8 dp dq L1 n ((i+1:Nat):Int)):=by
        simp only [Qmk,Qh8,go_sem] at b4
        simp -implicitDefEqProofs (maxSteps:=9^8) only [QbZ,Qh8,QaQ,lp,e1,e3,b4,go_sem,iv,bv,reduceCtorEq,↓reduceIte,Nat.reduceEqDiff]
      rw [Qai,this,Option.bind_some,if_pos rfl]
      exact a4
theorem Qhn        {d1 h1 d2 h2:Nat} (hp:RwR dp p) (hq:RwR dq q) (Hp:HL d1 h1 p) (Hq':HL d2 h2 q) (np:p.length≤1000) (nq:q.length≤1000) (hd:d1+d2≤1000000000) (hh:h1+h2≤1000000000) :
    ∃ d',RwR d' (muP p q)∧Qah G QcR [dp,dq]=some (.d d'):=by
  rw [Qad (cf:=Qdp) rfl]
  have lp:=hp.len
  have lq:=hq.len
  have e00:((0:Int)==0)=true:=rfl
  by_cases p0:p.length=0
  · have:p=[]:=List.eq_nil_of_length_eq_zero p0
    subst this
    have em:muP [] q=[]:=Qc4 (Qjb _ _) Qit (fun x=>by rw [Qa8,QaG,Rat.zero_mul])
    rw [em]
    refine ⟨.z true,.nil, ?_⟩
    simp only [List.length_nil] at lp
    simp -implicitDefEqProofs (maxSteps:=9^8) only [Qdp,lp,lq,e00,go_sem,iv,bv,reduceCtorEq,↓reduceIte,Nat.reduceEqDiff]
  by_cases q0:q.length=0
  · have:q=[]:=List.eq_nil_of_length_eq_zero q0
    subst this
    have em:muP p []=[]:=Qc4 (Qjb _ _) Qit (fun x=>by rw [Qa8,QaG,Rat.mul_zero])
    rw [em]
    refine ⟨.z true,.nil, ?_⟩
    simp only [List.length_nil] at lq
    have ep:((p.length:Int)==0)=false:=Qcx (by omega)
    simp -implicitDefEqProofs (maxSteps:=9^8) only [Qdp,lp,lq,ep,e00,go_sem,iv,bv,reduceCtorEq,↓reduceIte,Nat.reduceEqDiff]
  have ep:((p.length:Int)==0)=false:=Qcx (by omega)
  have eq:((q.length:Int)==0)=false:=Qcx (by omega)
  obtain ⟨n,hn⟩:∃ n,p.length+q.length=n+1:=⟨p.length+q.length-1,by omega⟩
  obtain ⟨D,a1,a2,a3⟩:=Hp
  obtain ⟨E,b1,b2,b3⟩:=Hq'
  have hDE:D*E≤BB^(d1+d2):=Qdb a2 b2
  have hsz:∀ (m:Nat) (x:Rat),m≤p.length*q.length→Hq (D*E) (m*(BB^h1*BB^h2)) x→sz x≤10000000000:=fun m x hm hx=>by
    have hm2:p.length*q.length≤1000*1000:=Nat.mul_le_mul np nq
    have hX:m*(BB^h1*BB^h2)≤BB^(1+(h1+h2)):=Qdb (by rw [Nat.pow_one];show m≤1000000000;omega) (Qdb (Nat.le_refl _) (Nat.le_refl _))
    have:=Hq.sz (Nat.mul_pos a1 b1) hDE hX hx
    omega
  have sp:SzL 10000000000 p:=((HL.sz ⟨D,a1,a2,a3⟩).mono (by omega))
  have sq:SzL 10000000000 q:=((HL.sz ⟨E,b1,b2,b3⟩).mono (by omega))
  obtain ⟨L',c1,c2,c3,c4⟩:=Qso (D:=D) (E:=E) (XX:=BB^h1) (YY:=BB^h2) (K:=10000000000) hp hq (n:=n) (by omega) (by omega) (by omega) sp sq hsz a3 b3 hn (by omega) p.length 0 (List.replicate n 0) (by omega) (by simp) (fun x hx=>by rw [(List.mem_replicate.1 hx).2];exact Hq.zero _ _)
  obtain ⟨d',hr',gT⟩:=Qcu (RwR.row L') (by omega) (fun x hx=>Nat.le_trans (hsz _ x (Nat.le_refl _) (c2 x hx)) (by omega))
  have em:Qay L'=muP p q:=Qc4 (QaO _) (Qjb _ _) (fun x=>by
    rw [QaB,c3,Qk0,Rat.pow_zero,List.drop_zero,Qa8,Rat.zero_add,Rat.one_mul])
  rw [em] at hr'
  refine ⟨d',hr', ?_⟩
  have z0:((0:Nat):Int)=0:=rfl
  rw [z0] at c4
  obtain ⟨z,hz⟩:∃ z,(p.length:Int)+(q.length:Int)=z:=⟨_,rfl⟩
  have e1:w64 ((p.length:Int)+(q.length:Int))=z:=by rw [Qae (by omega) (by omega),hz]
  have e2:w64 (z-1)=(n:Int):=by rw [Qae (by omega) (by omega)];omega
  have f1:((0:Int)≤(n:Int))=True:=eq_true (by omega)
  have f2:((n:Int)*((64:Nat):Int)≤(bound:Int))=True:=eq_true (by have:(bound:Int)=140737488351232:=rfl;omega)
  have r0:=QmT n
  have m0:=Qmt (List.replicate n (0:Rat))
  rw [rowR,c1] at gT
  clear c1 c2 c3 hr' em sp sq hsz hz
  simp only [Qh8,Qs3,go_sem] at c4
  simp -implicitDefEqProofs (maxSteps:=9^8) only [Qdp,Qfz,lp,lq,ep,eq,e1,e2,f1,f2,r0,m0,Int.toNat_natCast,c4,gT,QgW,QaQ,true_and,and_self,go_sem,iv,bv,reduceCtorEq,↓reduceIte,Nat.reduceEqDiff]
end
end Go.AM

/- ref06.Poly. -/
namespace Go.AM
open Go Go.RowKit

theorem tdivc {n c:Int} (hn:I64 n) (hc:0<c):I64 (n.tdiv c)∧w64 (n.tdiv c)=n.tdiv c:=by
  obtain ⟨h1,h2⟩:=hn
  have hb:(n.tdiv c).natAbs≤n.natAbs:=by
    rw [Int.natAbs_tdiv];exact Nat.div_le_self _ _
  have h3:-9223372036854775808≤n.tdiv c:=by omega
  have h4:n.tdiv c<9223372036854775808:=by
    by_cases h0:0≤n
    · omega
    · have e : n.tdiv c = -((-n) / c) := by
        rw [← Int.tdiv_eq_ediv_of_nonneg (by omega),Int.neg_tdiv,Int.neg_neg]
      have:0≤(-n)/c:=Int.ediv_nonneg (by omega) (by omega)
      omega
  exact ⟨⟨h3,h4⟩,Qae h3 h4⟩
theorem H1.neg {d h:Nat} {q:Rat} (H:H1 d h q):H1 d h (-q):=by
 obtain ⟨D,h1,h2,h3⟩:=H
 exact ⟨D,h1,h2,h3.neg⟩
theorem H1.one:H1 0 0 1:=⟨1,by omega,by simp [BB],⟨1,Rat.mul_one _,by simp⟩⟩
theorem HL.cons {d1 h1 d2 h2:Nat} {a:Rat} {l:List Rat} (H:H1 d1 h1 a) (H':HL d2 h2 l):HL (d1+d2) (max (h1+d2) (h2+d1)) (a :: l):=by
 obtain ⟨D,a1,a2,a3⟩:=H
 obtain ⟨E,b1,b2,b3⟩:=H'
 refine ⟨D*E,Nat.mul_pos a1 b1,Qdb a2 b2,fun q hq=>?_⟩
 rcases List.mem_cons.1 hq with rfl | hq
 ·exact (a3.lift E).le (Nat.le_trans (Qdb (Nat.le_refl _) b2) (QcX (by omega)))
 ·exact ((b3 q hq).lift' D).le (Nat.le_trans (Qdb a2 (Nat.le_refl _)) (QcX (by omega)))
theorem HL.smalls:∀ (l:List Rat),(∀ q∈l,∃ n,q=smR n)→HL l.length l.length l
 | [],_=>HL.nil _ _
 | a :: l,h=>by
  obtain ⟨n,rfl⟩:=h a (List.mem_cons_self ..)
  exact (HL.cons (QpC n) (HL.smalls l (fun q hq=>h q (List.mem_cons_of_mem _ hq)))).mono (by simp;omega) (by simp;omega)
def HB (a b:Nat) (l:List Rat):Prop:=∃ D:Nat,0<D∧D≤a∧∀ q∈l,Hq D b q
theorem HB.hl {a b d h:Nat} {l:List Rat} (H:HB a b l) (ha:a≤BB^d) (hb:b≤BB^h):HL d h l:=by
 obtain ⟨D,h1,h2,h3⟩:=H
 exact ⟨D,h1,Nat.le_trans h2 ha,fun q hq=>(h3 q hq).le hb⟩
theorem HB.mono {a b c d:Nat} {l:List Rat} (H:HB a b l) (h1:a≤c) (h2:b≤d):HB c d l:=by
 obtain ⟨D,k1,k2,k3⟩:=H
 exact ⟨D,k1,by omega,fun q hq=>(k3 q hq).le h2⟩
theorem HB.trim {a b:Nat} {l:List Rat} (H:HB a b l):HB a b (Qay l):=by
 obtain ⟨D,h1,h2,h3⟩:=H
 exact ⟨D,h1,h2,fun q hq=>h3 q (List.mem_of_mem_take hq)⟩
theorem HB.cons {a b c d:Nat} {q:Rat} {l:List Rat} (H:HB a b [q]) (H':HB c d l):HB (a*c) (max (b*c) (a*d)) (q :: l):=by
 obtain ⟨D,a1,a2,a3⟩:=H
 obtain ⟨E,b1,b2,b3⟩:=H'
 refine ⟨D*E,Nat.mul_pos a1 b1,Nat.mul_le_mul a2 b2,fun p hp=>?_⟩
 rcases List.mem_cons.1 hp with rfl | hp
 ·exact ((a3 p (by simp)).lift E).le (Nat.le_trans (Nat.mul_le_mul_left _ b2) (Nat.le_max_left _ _))
 ·exact ((b3 p hp).lift' D).le (Nat.le_trans (Nat.mul_le_mul_right _ a2) (Nat.le_max_right _ _))
theorem HB.mu {a b c d:Nat} {l m:List Rat} (H:HB a b l) (H':HB c d m):HB (a*c) ((l.length+m.length)*(b*d)) (muP l m):=by
 obtain ⟨D,a1,a2,a3⟩:=H
 obtain ⟨E,b1,b2,b3⟩:=H'
 refine HB.trim ⟨D*E,Nat.mul_pos a1 b1,Nat.mul_le_mul a2 b2,fun q hq=>?_⟩
 obtain ⟨k,hk,rfl⟩:=List.mem_map.1 hq
 have hk:=List.mem_range.1 hk
 exact (Hq.sum (k+1) (fun i _=>(Hq.getD a3 i).mul (Hq.getD b3 (k-i)))).le (Nat.mul_le_mul_right _ (by omega))
theorem HB.neg {a b:Nat} {q:Rat} (H:HB a b [q]):HB a b [-q]:=by
 obtain ⟨D,h1,h2,h3⟩:=H
 exact ⟨D,h1,h2,fun p hp=>by rw [List.mem_singleton.1 hp];exact (h3 q (by simp)).neg⟩
theorem HB.one1:HB 1 1 [1]:=⟨1,by omega,by omega,fun p hp=>by rw [List.mem_singleton.1 hp];exact ⟨1,Rat.mul_one _,by simp⟩⟩
theorem HB.int {z:Int} (h:z.natAbs≤5):HB 1 5 [Rat.divInt z 1]:=⟨(1:Int).natAbs,by decide,by decide,fun p hp=>by
 rw [List.mem_singleton.1 hp]
 exact (Hq.div (n:=z) (d:=1) (by omega)).le (by omega)⟩
theorem HB.small (n:Int):HB 4 7 [smR n]:=by
 have b:=QpU (n:=n) (m:=105) (by omega)
 have hd:0<1+arnd n 105/15%4:=by omega
 exact ⟨(1+arnd n 105/15%4).natAbs,by omega,by omega,fun p hp=>by
  rw [List.mem_singleton.1 hp]
  exact (Hq.div hd).le (by omega)⟩
theorem HB.smalls:∀ (l:List Rat),(∀ q∈l,∃ n,q=smR n)→HB (4^l.length) (7*4^l.length) l
 | [],_=>⟨1,by omega,by simp,fun q hq=>by simp at hq⟩
 | a :: l,h=>by
  obtain ⟨n,rfl⟩:=h a (List.mem_cons_self ..)
  have:=(HB.small n).cons (HB.smalls l (fun q hq=>h q (List.mem_cons_of_mem _ hq)))
  refine this.mono ?_ ?_
  ·rw [List.length_cons,Nat.pow_succ];omega
  ·rw [List.length_cons,Nat.pow_succ];omega
theorem Qnf (a b c d:D):rep 2 [a,b,c,d]=[a,b,c,d,a,b,c,d]:=rfl
theorem QpT (a b c d:D):rep 3 [a,b,c,d]=[a,b,c,d,a,b,c,d,a,b,c,d]:=rfl
variable [Its]

theorem QkT:Qah G Qap [iv 1,iv 1]=some (.d (encR 1)):=by
 have g:=Qc3 (n:=1) (d:=1) ⟨by omega,by omega⟩ ⟨by omega,by omega⟩
 have e:Rat.divInt 1 1=1:=Qct 1
 rw [e] at g;exact g
section
variable {e0:D} {l:List Int}
def QlL (e0:D) (L:List Rat) (i:Int):St:=mkS [(0,.d e0),(3,gA4 28 L),(4,ai i)] (gH4 28 L)
def Qpt (L:List Rat):St:=mkS [(3,gA4 28 L)] (gH4 28 L)
theorem pl_go (hr:Rw e0 l) (hl:∀ n∈l,I64 n) {i:Nat} (hi:i<l.length) (hi6:i<6) {L:List Rat} (hL:L.length≤10):X G QaN (QlL e0 L i)=some (.n,QlL e0 (L++[smR (l.getD i 0)]) ((i+1:Nat):Int)):=by
 have e1:decide ((i:Int)<(l.length:Int))=true:=lt_t (by omega)
 have e2:decide ((i:Int)<6)=true:=lt_t (by omega)
 have e3:w64 ((i:Int)+1)=((i+1:Nat):Int):=by rw [Qae (by omega) (by omega)];rfl
 have ll:=hr.len
 have x1:=hr.ixn hi
 have x2:=fun h=>ldv h l hi
 have g:=Qhk (n:=l.getD i 0) (hl _ (by rw [List.getD_eq_getElem?_getD,List.getElem?_eq_getElem hi];exact List.getElem_mem hi))
 generalize smR (l.getD i 0)=q at *
 generalize l.getD i 0=x at *
 have d1:=QiZ (digs q.num.natAbs)
 have d2:=QiZ (dd q.den)
 simp only [encR,iv] at g
 by_cases h0:L=[]
 ·subst h0
  have hb:(64≤bound)=True:=eq_true (by unfold bound;omega)
  have hb1:(1*64≤bound)=True:=eq_true (by unfold bound;omega)
  simp -implicitDefEqProofs (maxSteps:=9^8) only [QaN,QlL,Qcp,Qcq,Qaa,Qec,Qd9,List.nil_append,List.cons_append,List.length_nil,List.length_cons,Nat.zero_add,List.map_cons,List.map_nil,Qg7,Qlf,QkC,Qly,srcS,src,Qkq,allD,hb,hb1,d1,d2,ll,x1,x2,go_sem,iv,bv,e1,e2,e3,g,reduceCtorEq,↓reduceIte,Nat.reduceEqDiff]
 ·have n3:(cA L).length=L.length*4:=Qgk L
  have n4:((L.length+1)*64≤bound)=True:=eq_true (by unfold bound;omega)
  simp -implicitDefEqProofs (maxSteps:=9^8) only [QaN,QlL,QeQ h0,QeP h0,Qec,Qd9,List.nil_append,List.cons_append,List.length_nil,List.length_cons,Nat.zero_add,List.map_cons,List.map_nil,Qg7,Qld,n3,n4,QaQ,srcS,src,Qkq,allD,d1,d2,ll,x1,x2,go_sem,iv,bv,e1,e2,e3,g,reduceCtorEq,↓reduceIte,Nat.reduceEqDiff]
theorem pl_stop (hr:Rw e0 l) {i:Nat} (hi:l.length≤i∨6≤i) {L:List Rat}:X G QaN (QlL e0 L i)=some (.x 0,Qpt L):=by
 have ll:=hr.len
 by_cases h1:l.length≤i
 ·have e1:decide ((i:Int)<(l.length:Int))=false:=lt_f (by omega)
  by_cases h0:L=[]
  ·subst h0
   simp -implicitDefEqProofs (maxSteps:=9^8) only [QaN,QlL,Qpt,Qcp,Qcq,Qaa,ll,e1,go_sem,iv,bv,reduceCtorEq,↓reduceIte,Nat.reduceEqDiff]
  ·simp -implicitDefEqProofs (maxSteps:=9^8) only [QaN,QlL,Qpt,QeQ h0,QeP h0,QaQ,ll,e1,go_sem,iv,bv,reduceCtorEq,↓reduceIte,Nat.reduceEqDiff]
 ·have e1:decide ((i:Int)<(l.length:Int))=true:=lt_t (by omega)
  have e2:decide ((i:Int)<6)=false:=lt_f (by omega)
  by_cases h0:L=[]
  ·subst h0
   simp -implicitDefEqProofs (maxSteps:=9^8) only [QaN,QlL,Qpt,Qcp,Qcq,Qaa,ll,e1,e2,go_sem,iv,bv,reduceCtorEq,↓reduceIte,Nat.reduceEqDiff]
  ·simp -implicitDefEqProofs (maxSteps:=9^8) only [QaN,QlL,Qpt,QeQ h0,QeP h0,QaQ,ll,e1,e2,go_sem,iv,bv,reduceCtorEq,↓reduceIte,Nat.reduceEqDiff]
theorem pl_loop (hr:Rw e0 l) (hl:∀ n∈l,I64 n):∀ (j i:Nat) (L:List Rat),6≤i+j→L.length+1=i→i≤6→(∀ q∈L,∃ n,q=smR n)→∃ L',L'.length≤5∧(∀ q∈L',∃ n,q=smR n)∧X G (.loop QaN) (QlL e0 L i)=some (.x 0,Qpt L')
  | 0,i,L,hj,hLi,hi,hL=>⟨L,by omega,hL,by rw [Qai,pl_stop hr (.inr (by omega))];rfl⟩
  | j+1,i,L,hj,hLi,hi,hL=>by
    by_cases h:i<l.length∧i<6
    · obtain ⟨L', a1, a2, a3⟩ := pl_loop hr hl j (i + 1) (L ++ [smR (l.getD i 0)]) (by omega) (by rw [List.length_append]; simp; omega) (by omega) (fun q hq => by
        rcases List.mem_append.1 hq with h' | h'
        · exact hL q h'
        · exact ⟨_,List.mem_singleton.1 h'⟩)
      exact ⟨L',a1,a2,by rw [Qai,pl_go hr hl h.1 h.2 (by omega),Option.bind_some,if_pos rfl];exact a3⟩
    · exact ⟨L,by omega,hL,by rw [Qai,pl_stop hr (by omega)];rfl⟩

def Qm3 (e0 d:D) (i:Int):St:=mkS [(0,.d e0),(5,.d d),(6,ai i)] []
def pm_en (d:D):St:=mkS [(5,.d d)] []
theorem pm_go (hr:Rw e0 l) (hl:∀ n∈l,I64 n) {i:Nat} (hi:i<l.length) (hi5:i<5) {d:D} {out:List Rat} {dd hh:Nat} (ho:RwR d out) (Ho:HL dd hh out) (nd:out.length≤100) (hd:dd≤100) (hh':hh≤100) :
    ∃ d' out',RwR d' out'∧Trm out'∧(HL (dd+2) (hh+3) out'∧∃ t,out'=muP out t∧t.length≤3∧HB 16 28 t)∧(out'.length≤out.length+2∧(4≤i→out'.length≤out.length+1))∧X G QaM (Qm3 e0 d i)=some (.n,Qm3 e0 d' ((i+1:Nat):Int)):=by
  have e1:decide ((i:Int)<(l.length:Int))=true:=lt_t (by omega)
  have e2:decide ((i:Int)<5)=true:=lt_t (by omega)
  have e3:w64 ((i:Int)+1)=((i+1:Nat):Int):=by rw [Qae (by omega) (by omega)];rfl
  have ll:=hr.len
  have lo:=ho.len
  have x1:=hr.ixn hi
  have x2:=fun h=>ldv h l hi
  have hx:I64 (l.getD i 0):=hl _ (by rw [List.getD_eq_getElem?_getD,List.getElem?_eq_getElem hi];exact List.getElem_mem hi)
  generalize l.getD i 0=x at *
  have g1:=Qhk hx
  have g2:=QgO (a:=smR x) (by have:=smR_sz x;omega)
  have o1:=QkT
  obtain ⟨q7,w7⟩:=tdivc (c:=7) hx (by omega)
  obtain ⟨q3,w3⟩:=tdivc (c:=3) hx (by omega)
  obtain ⟨y7,hy7⟩:∃ y,x.tdiv 7=y:=⟨_,rfl⟩
  obtain ⟨y3,hy3⟩:∃ y,x.tdiv 3=y:=⟨_,rfl⟩
  have w7':w64 (x.tdiv 7)=y7:=by rw [w7,hy7]
  have w3':w64 (x.tdiv 3)=y3:=by rw [w3,hy3]
  rw [hy7] at q7
  rw [hy3] at q3
  have g7:=Qhk q7
  have g3:=Qhk q3
  have z7:=QkL (b:=(7:Int)) (by omega)
  have z3:=QkL (b:=(3:Int)) (by omega)
  have F2:HL 1 1 [-smR x,1]:=(HL.cons (QpC x).neg (HL.one H1.one)).mono (by omega) (by omega)
  have F3:HL 2 2 [smR y7,smR y3,1]:=(HL.cons (QpC y7) (HL.cons (QpC y3) (HL.one H1.one))).mono (by omega) (by omega)
  obtain ⟨d2,t2,gT2⟩:=Qcu (RwR.row [-smR x,1]) (by simp only [List.length_cons,List.length_nil];omega) (F2.sz.mono (by omega))
  obtain ⟨d3,t3,gT3⟩:=Qcu (RwR.row [smR y7,smR y3,1]) (by simp only [List.length_cons,List.length_nil];omega) (F3.sz.mono (by omega))
  have n2:(Qay [-smR x,1]).length≤2:=Qcm _
  have n3:(Qay [smR y7,smR y3,1]).length≤3:=Qcm _
  obtain ⟨m2,u2,gM2⟩:=Qhn ho t2 Ho F2.trim (by omega) (by omega) (by omega) (by omega)
  obtain ⟨m3,u3,gM3⟩:=Qhn ho t3 Ho F3.trim (by omega) (by omega) (by omega) (by omega)
  have H2:=HL.mu Ho F2.trim (by have:BB=1000000000:=rfl;omega)
  have H3:=HL.mu Ho F3.trim (by have:BB=1000000000:=rfl;omega)
  have l2:=Qm4 out (Qay [-smR x,1])
  have l3:=Qm4 out (Qay [smR y7,smR y3,1])
  by_cases hc:x.tmod 7=3∧i<4∧out.length<4
  · refine ⟨m3,_,u3,Qjb _ _,⟨H3.mono (by omega) (by omega),_,rfl,by omega,((HB.small y7).cons ((HB.small y3).cons HB.one1) |>.trim).mono (by omega) (by omega)⟩,by omega, ?_⟩
    have c1:(x.tmod 7==3)=true:=QkI hc.1
    have c2:decide ((i:Int)<4)=true:=lt_t (by omega)
    have c3:decide ((out.length:Int)<4)=true:=lt_t (by omega)
    clear F2 F3 n2 n3 H2 H3 l2 l3 u2 u3 t2 t3 gT2 gM2 hc
    simp only [rowR,cRs,List.length_cons,List.length_nil,Nat.reduceAdd] at gT3
    generalize -smR x=sn at *
    generalize smR x=sx at *
    generalize smR y7=s7 at *
    generalize smR y3=s3 at *
    generalize (1:Rat)=one at *
    simp only [encR,iv] at g1 g2 o1 g7 g3
    simp -implicitDefEqProofs (maxSteps:=9^8) only [QaM,Qm3,ll,lo,x1,x2,e1,e2,e3,g1,g2,o1,g7,g3,z7,z3,w7',w3',c1,c2,c3,gT3,gM3,Qnf,QpT,go_sem,iv,bv,reduceCtorEq,↓reduceIte,Nat.reduceEqDiff]
  · refine ⟨m2,_,u2,Qjb _ _,⟨H2.mono (by omega) (by omega),_,rfl,by omega,((HB.small x).neg.cons HB.one1 |>.trim).mono (by omega) (by omega)⟩,by omega, ?_⟩
    clear F2 F3 n2 n3 H2 H3 l2 l3 u2 u3 t2 t3 gT3 gM3
    simp only [rowR,cRs,List.length_cons,List.length_nil,Nat.reduceAdd] at gT2
    generalize -smR x=sn at *
    generalize smR x=sx at *
    generalize smR y7=s7 at *
    generalize smR y3=s3 at *
    generalize (1:Rat)=one at *
    simp only [encR,iv] at g1 g2 o1 g7 g3
    by_cases h1:x.tmod 7=3
    · have c1:(x.tmod 7==3)=true:=QkI h1
      by_cases h2:i<4
      · have c2:decide ((i:Int)<4)=true:=lt_t (by omega)
        have c3:decide ((out.length:Int)<4)=false:=lt_f (by omega)
        simp -implicitDefEqProofs (maxSteps:=9^8) only [QaM,Qm3,ll,lo,x1,x2,e1,e2,e3,g1,g2,o1,g7,g3,z7,z3,w7',w3',c1,c2,c3,gT2,gM2,Qnf,QpT,go_sem,iv,bv,reduceCtorEq,↓reduceIte,Nat.reduceEqDiff]
      · have c2:decide ((i:Int)<4)=false:=lt_f (by omega)
        simp -implicitDefEqProofs (maxSteps:=9^8) only [QaM,Qm3,ll,lo,x1,x2,e1,e2,e3,g1,g2,o1,g7,g3,z7,z3,w7',w3',c1,c2,gT2,gM2,Qnf,QpT,go_sem,iv,bv,reduceCtorEq,↓reduceIte,Nat.reduceEqDiff]
    · have c1:(x.tmod 7==3)=false:=Qcx h1
      simp -implicitDefEqProofs (maxSteps:=9^8) only [QaM,Qm3,ll,lo,x1,x2,e1,e2,e3,g1,g2,o1,g7,g3,z7,z3,w7',w3',c1,gT2,gM2,Qnf,QpT,go_sem,iv,bv,reduceCtorEq,↓reduceIte,Nat.reduceEqDiff]
theorem pm_stop (hr:Rw e0 l) {i:Nat} (hi:l.length≤i∨5≤i) {d:D}:X G QaM (Qm3 e0 d i)=some (.x 2,pm_en d):=by
 have ll:=hr.len
 by_cases h1:l.length≤i
 ·have e1:decide ((i:Int)<(l.length:Int))=false:=lt_f (by omega)
  simp -implicitDefEqProofs (maxSteps:=9^8) only [QaM,Qm3,pm_en,ll,e1,go_sem,iv,bv,reduceCtorEq,↓reduceIte,Nat.reduceEqDiff]
 ·have e1:decide ((i:Int)<(l.length:Int))=true:=lt_t (by omega)
  have e2:decide ((i:Int)<5)=false:=lt_f (by omega)
  simp -implicitDefEqProofs (maxSteps:=9^8) only [QaM,Qm3,pm_en,ll,e1,e2,go_sem,iv,bv,reduceCtorEq,↓reduceIte,Nat.reduceEqDiff]
theorem pm_loop (hr:Rw e0 l) (hl:∀ n∈l,I64 n):∀ (j i:Nat) (d:D) (out:List Rat),5≤i+j→i≤5→RwR d out→Trm out→HL (2*i) (1+3*i) out→(out.length+3≤2*i∧out.length≤i+1)→∀ A B,HB A B out→∃ d' out',RwR d' out'∧Trm out'∧HB (A*16^j) (B*252^j) out'∧out'.length≤6∧X G (.loop QaM) (Qm3 e0 d i)=some (.x 2,pm_en d')
 | 0,i,d,out,hj,hi,h1,h2,h3,h4,A,B,hB=>⟨d,out,h1,h2,hB.mono (by simp) (by simp),by omega,by rw [Qai,pm_stop hr (.inr (by omega))];rfl⟩
 | j+1,i,d,out,hj,hi,h1,h2,h3,h4,A,B,hB=>by
  by_cases h:i<l.length∧i<5
  ·obtain ⟨d1,o1,a1,a2,⟨a3,t,b1,b2,b3⟩,a4,a5⟩:=pm_go hr hl h.1 h.2 h1 h3 (by omega) (by omega) (by omega)
   have hB':HB (A*16) (B*252) o1:=by
    rw [b1]
    refine (hB.mu b3).mono (Nat.le_refl _) ?_
    have:(out.length+t.length)*(B*28)≤9*(B*28):=Nat.mul_le_mul_right _ (by omega)
    omega
   obtain ⟨d',out',c1,c2,c3,c4,c5⟩:=pm_loop hr hl j (i+1) d1 o1 (by omega) (by omega) a1 a2 (a3.mono (by omega) (by omega)) (by omega) _ _ hB'
   refine ⟨d',out',c1,c2,c3.mono (by rw [Nat.pow_succ,Nat.mul_assoc,Nat.mul_comm 16];exact Nat.le_refl _) (by rw [Nat.pow_succ,Nat.mul_assoc,Nat.mul_comm 252];exact Nat.le_refl _),c4,by rw [Qai,a5,Option.bind_some,if_pos rfl];exact c5⟩
  ·have p1:1≤16^(j+1):=Nat.one_le_pow _ _ (by decide)
   have p2:1≤252^(j+1):=Nat.one_le_pow _ _ (by decide)
   exact ⟨d,out,h1,h2,hB.mono (Nat.le_mul_of_pos_right _ p1) (Nat.le_mul_of_pos_right _ p2),by omega,by rw [Qai,pm_stop hr (by omega)];rfl⟩
theorem QtN (hr:Rw e0 l) (hl:∀ n∈l,I64 n):∃ d p,RwR d p∧Trm p∧HL 1 1 p∧p.length≤6∧Qah G QgI [e0]=some (.d d):=by
 rw [Qad (cf:=Qc7) rfl]
 have a0:=at_spec (i:=0) (m:=3) hr hl (by omega)
 have a1:=at_spec (i:=1) (m:=5) hr hl (by omega)
 have b1:=atr_b l 1 (m:=5) (by omega)
 generalize atr l 0 3=x0 at *
 generalize atr l 1 5=x1 at *
 by_cases h0:x0=0
 ·have e1:(x0==0)=true:=QkI h0
  obtain ⟨L,c1,c2,c3⟩:=pl_loop hr hl 5 1 [] (by omega) rfl (by omega) (fun q hq=>by simp at hq)
  have HLs:=HL.smalls L c2
  obtain ⟨d',t1,gT⟩:=Qcu (QtJ L) (by omega) (HLs.sz.mono (by omega))
  have HBs:=HB.smalls L c2
  have p5:4^L.length≤4^5:=Nat.pow_le_pow_right (by decide) c1
  refine ⟨d',Qay L,t1,QaO _,(HBs.trim).hl (by rw [Nat.pow_one];show _≤1000000000;omega) (by rw [Nat.pow_one];show _≤1000000000;omega),Nat.le_trans (Qcm L) (by omega), ?_⟩
  have n1:((1:Nat):Int)=1:=rfl
  rw [n1] at c3
  simp only [iv] at a0
  by_cases hL:L=[]
  ·subst hL
   have gT':Qah G Qat [.z true]=some (.d d'):=gT
   simp only [QlL,Qpt,Qcp,Qcq,Qaa,go_sem] at c3
   simp -implicitDefEqProofs (maxSteps:=9^8) only [Qc7,Qfz,a0,e1,c3,gT',Qaa,go_sem,iv,bv,reduceCtorEq,↓reduceIte,Nat.reduceEqDiff]
  ·rw [dR,if_neg hL,rowR] at gT
   simp only [QlL,Qpt,Qcp,Qcq,QeQ hL,QeP hL,Qaa,go_sem] at c3
   simp -implicitDefEqProofs (maxSteps:=9^8) only [Qc7,Qfz,a0,e1,c3,gT,QgW,QaQ,Qaa,go_sem,iv,bv,reduceCtorEq,↓reduceIte,Nat.reduceEqDiff]
 ·have e1:(x0==0)=false:=Qcx h0
  obtain ⟨z,hz⟩:∃ z,1+x1=z:=⟨_,rfl⟩
  have w1:w64 (1+x1)=z:=by rw [Qae (by omega) (by omega),hz]
  have o1:=Qc3 (n:=z) (d:=1) ⟨by omega,by omega⟩ ⟨by omega,by omega⟩
  have Hc:H1 1 1 (Rat.divInt z 1):=⟨(1:Int).natAbs,by decide,by rw [Nat.pow_one];decide,(Hq.div (n:=z) (d:=1) (by omega)).le (by rw [Nat.pow_one];show _≤1000000000;omega)⟩
  have Bc:HB 1 5 [Rat.divInt z 1]:=HB.int (by omega)
  generalize Rat.divInt z 1=c at *
  obtain ⟨d1,t1,gT⟩:=Qcu (RwR.row [c]) (by simp only [List.length_cons,List.length_nil];omega) ((HL.one Hc).sz.mono (by omega))
  have n1:(Qay [c]).length≤1:=Qcm _
  obtain ⟨d',out',b1,b2,b3,b4,b5⟩:=pm_loop hr hl 3 2 d1 (Qay [c]) (by omega) (by omega) t1 (QaO _) ((HL.one Hc).trim.mono (by omega) (by omega)) (by omega) 1 5 Bc.trim
  refine ⟨d',out',b1,b2,b3.hl (by decide) (by decide),b4, ?_⟩
  have n2:((2:Nat):Int)=2:=rfl
  rw [n2] at b5
  simp only [rowR,cRs,List.length_cons,List.length_nil,Nat.reduceAdd] at gT
  simp only [encR,iv] at a0 a1 o1
  simp only [Qm3,pm_en,go_sem] at b5
  simp -implicitDefEqProofs (maxSteps:=9^8) only [Qc7,a0,a1,e1,w1,o1,gT,b5,Qg7,go_sem,iv,bv,reduceCtorEq,↓reduceIte,Nat.reduceEqDiff]
end
end Go.AM

/- How great the coefficients of a shift are. -/
namespace Go.AM
open Go Go.RowKit

theorem evR_dropL (l:List Rat) (x:Rat) {k:Nat} (h:k<l.length):evR (l.drop k) x=evR (l.drop (k+1)) x*x+l.getD k 0:=by
 have e:l.drop k=l.getD k 0 :: l.drop (k+1):=by
  rw [List.drop_eq_getElem_cons h,List.getD_eq_getElem?_getD,List.getElem?_eq_getElem h];rfl
 rw [e,Qar]
theorem Qsf (a:Rat):∀ (s:List Rat) (i:Nat),s≠[]→(evR s a :: syn s a).getD i 0=evR (s.drop i) a
 | [],_,h=>absurd rfl h
 | [x],0,_=>rfl
 | [x],i+1,_=>by
  rw [syn]
  show (0:Rat)=evR ([].drop i) a
  rw [List.drop_nil,QaG]
 | x :: b :: l,0,_=>rfl
 | x :: b :: l,i+1,_=>by
  rw [syn]
  show (evR (b :: l) a :: syn (b :: l) a).getD i 0=evR ((b :: l).drop i) a
  exact Qsf a (b :: l) i (by simp)
theorem hst_getD {l:List Rat} {a:Rat} {j:Nat} (hj:j<l.length) (t:Nat):(hst l a j).getD t 0=if t<j then l.getD t 0 else evR (l.drop t) a:=by
  have hT:(l.take j).length=j:=by rw [List.length_take];omega
  unfold hst
  by_cases h:t<j
  · rw [if_pos h,List.getD_eq_getElem?_getD,List.getElem?_append_left (by omega),List.getElem?_take_of_lt h,← List.getD_eq_getElem?_getD]
  · rw [if_neg h, List.getD_eq_getElem?_getD, List.getElem?_append_right (by omega), ← List.getD_eq_getElem?_getD, hT, Qsf      a _ _ (by
      intro h0;have:=congrArg List.length h0;rw [List.length_drop] at this;simp at this;omega),List.drop_drop,show j+(t-j)=t by omega]
def WS (D v n H:Nat) (l:List Rat):Prop:=∀ k,k≤n→Hq (D*v^(n-k)) H (l.getD k 0)
theorem WS.suffix {D v n H U:Nat} {l:List Rat} {a:Rat} (h:WS D v n H l) (ha:Hq v U a) (hl:l.length≤n):∀ j t:Nat,t+j=n→Hq (D*v^(n-t)) (H*(1+U)^j) (evR (l.drop t) a)
 | 0,t,ht=>by
  rw [List.drop_of_length_le (by omega),QaG];exact Hq.zero _ _
 | j+1,t,ht=>by
  by_cases h1:t<l.length
  ·have ih:=WS.suffix h ha hl j (t+1) (by omega)
   have h2:=ih.mul ha
   have h3:=h t (by omega)
   have e:D*v^(n-(t+1))*v=D*v^(n-t):=by
    rw [show n-t=(n-(t+1))+1 by omega,Nat.pow_succ,Nat.mul_assoc]
   rw [e] at h2
   rw [evR_dropL l a h1]
   refine (h2.add h3).le ?_
   have e1:H*(1+U)^(j+1)=H*(1+U)^j*U+H*(1+U)^j:=by
    rw [Nat.pow_succ,← Nat.mul_assoc,Nat.mul_add,Nat.mul_one,Nat.add_comm]
   rw [e1]
   have:H≤H*(1+U)^j:=Nat.le_mul_of_pos_right _ (Nat.pow_pos (by omega))
   omega
  ·rw [List.drop_of_length_le (by omega),QaG];exact Hq.zero _ _
theorem WS.hst {D v n H U:Nat} {l:List Rat} {a:Rat} (h:WS D v n H l) (ha:Hq v U a) (hl:l.length≤n) {j:Nat} (hj:j<l.length):WS D v n (H*(1+U)^n) (hst l a j):=fun k hk=>by
 rw [hst_getD hj]
 split
 ·exact (h k hk).le (Nat.le_mul_of_pos_right _ (Nat.pow_pos (by omega)))
 ·exact (h.suffix ha hl (n-k) k (by omega)).le (Nat.mul_le_mul_left _ (Nat.pow_le_pow_right (by omega) (by omega)))
theorem WS.pas {D v n H U:Nat} {l:List Rat} {a:Rat} (h:WS D v n H l) (ha:Hq v U a) (hl:l.length≤n):∀ i,i≤l.length→WS D v n (H*((1+U)^n)^i) (pas l a i)
 | 0,_=>by rw [Nat.pow_zero,Nat.mul_one];exact h
 | i+1,hi=>by
  have ih:=WS.pas h ha hl i (by omega)
  have:=ih.hst ha (by rw [Qrk i (by omega)];exact hl) (j:=i) (by rw [Qrk i (by omega)];omega)
  rw [Nat.mul_assoc,← Nat.pow_succ] at this
  exact this
end Go.AM

/- Small helps for the laws of ref06.Poly's polynomials. -/
namespace Go.AM
open Go Go.RowKit Go.Proofs
theorem H1.add {d1 h1 d2 h2:Nat} {a b:Rat} (H:H1 d1 h1 a) (H':H1 d2 h2 b):H1 (d1+d2) (max (h1+d2) (h2+d1)+1) (a+b):=by
 obtain ⟨D,a1,a2,a3⟩:=H
 obtain ⟨E,b1,b2,b3⟩:=H'
 refine ⟨D*E,Nat.mul_pos a1 b1,Qdb a2 b2,((a3.lift E).add (b3.lift' D)).le (QrK ?_ ?_)⟩
 ·exact Nat.le_trans (Qdb (Nat.le_refl _) b2) (QcX (by omega))
 ·exact Nat.le_trans (Qdb a2 (Nat.le_refl _)) (QcX (by omega))
variable [Its]
end Go.AM

/- ref06: At, Add, Scale, Sub, Derive, Eval, Shift. -/
namespace Go.AM
open Go Go.RowKit

theorem QoH (e:Nat→Rat) (n:Nat):(List.range n).map e++[e n]=(List.range (n+1)).map e:=by
 rw [List.range_succ,List.map_append];rfl
theorem dR_nil:dR []=.z true:=rfl
theorem dR_ne {l:List Rat} (h:l≠[]):dR l=.row l.length (cRs l):=if_neg h
variable [Its]

theorem QsC {d:D} {l:List Rat} (hr:RwR d l) (k:Nat):Qah G QfR [d,iv (k:Int)]=some (.d (encR (l.getD k 0))):=by
 rw [Qad (cf:=Qfo) rfl]
 have e1:decide ((k:Int)<0)=false:=lt_f (by omega)
 have ll:=hr.len
 by_cases hk:k<l.length
 ·have e2:decide ((k:Int)≥(l.length:Int))=false:=decide_eq_false (by omega)
  have e3:=hr.ixa hk
  have e4:=fun h=>ldR h l hk
  generalize l.getD k 0=q at *
  simp only [encR] at e4
  simp -implicitDefEqProofs (maxSteps:=9^8) only [Qfo,encR,go_sem,Qac,Qab,iv,bv,e1,e2,e3,e4,ll,reduceCtorEq,↓reduceIte,Nat.reduceEqDiff]
 ·have e2:decide ((k:Int)≥(l.length:Int))=true:=decide_eq_true (by omega)
  have e5:l.getD k 0=0:=QaW (by omega)
  rw [e5,Qfr]
  simp -implicitDefEqProofs (maxSteps:=9^8) only [Qfo,encR,go_sem,Qac,Qab,iv,bv,e1,e2,ll,reduceCtorEq,↓reduceIte,Nat.reduceEqDiff]

/-! ### Add -/
section
variable {d d2:D} {l m:List Rat} {K:Nat}
def QhY (d d2:D) (L:List Rat) (i:Int):St:=mkS [(0,.d d),(1,.d d2),(5,gA4 28 L),(6,ai i)] (gH4 28 L)
def QnJ (L:List Rat):St:=mkS [(5,gA4 28 L)] (gH4 28 L)
theorem raP_go (h1:RwR d l) (h2:RwR d2 m) (s1:SzL K l) (s2:SzL K m) (hK1:1≤K) (hK:K≤10000000000) {L:List Rat} {i:Nat} (hL:L.length≤1000000000) (hi:i<max l.length m.length) (hi2:i≤1000000000):X G QaY (QhY d d2 L i)=some (.n,QhY d d2 (L++[l.getD i 0+m.getD i 0]) ((i+1:Nat):Int)):=by
 have e3:w64 ((i:Int)+1)=((i+1:Nat):Int):=by rw [Qae (by omega) (by omega)];rfl
 have ll:=h1.len
 have ll2:=h2.len
 have a1:=QsC h1 i
 have a2:=QsC h2 i
 have b1:=s1.getD hK1 i
 have b2:=s2.getD hK1 i
 have g:=Qfq (a:=l.getD i 0) (b:=m.getD i 0) (by omega) (by omega)
 generalize l.getD i 0+m.getD i 0=q at *
 generalize l.getD i 0=u at *
 generalize m.getD i 0=v at *
 have d1:=QiZ (digs q.num.natAbs)
 have d2':=QiZ (dd q.den)
 have hb:(64≤bound)=True:=eq_true (by unfold bound;omega)
 have hb1:(1*64≤bound)=True:=eq_true (by unfold bound;omega)
 have n3:(cA L).length=L.length*4:=Qgk L
 have n4:((L.length+1)*64≤bound)=True:=eq_true (by unfold bound;omega)
 simp only [encR,iv] at g a1 a2
 by_cases hc:i<l.length
 ·have e1:decide ((i:Int)<(l.length:Int))=true:=lt_t (by omega)
  by_cases h0:L=[]
  ·subst h0
   simp -implicitDefEqProofs (maxSteps:=9^8) only [QaY,QhY,Qcp,Qcq,Qaa,Qec,Qd9,List.nil_append,List.cons_append,List.length_nil,List.length_cons,Nat.zero_add,List.map_cons,List.map_nil,Qg7,Qlf,QkC,Qly,srcS,src,Qkq,allD,hb,hb1,d1,d2',ll,ll2,a1,a2,go_sem,iv,bv,e1,e3,g,reduceCtorEq,↓reduceIte,Nat.reduceEqDiff]
  ·simp -implicitDefEqProofs (maxSteps:=9^8) only [QaY,QhY,QeQ h0,QeP h0,Qec,Qd9,List.nil_append,List.cons_append,List.length_nil,List.length_cons,Nat.zero_add,List.map_cons,List.map_nil,Qg7,Qld,n3,n4,QaQ,srcS,src,Qkq,allD,d1,d2',ll,ll2,a1,a2,go_sem,iv,bv,e1,e3,g,reduceCtorEq,↓reduceIte,Nat.reduceEqDiff]
 ·have e1:decide ((i:Int)<(l.length:Int))=false:=lt_f (by omega)
  have e2:decide ((i:Int)<(m.length:Int))=true:=lt_t (by omega)
  by_cases h0:L=[]
  ·subst h0
   simp -implicitDefEqProofs (maxSteps:=9^8) only [QaY,QhY,Qcp,Qcq,Qaa,Qec,Qd9,List.nil_append,List.cons_append,List.length_nil,List.length_cons,Nat.zero_add,List.map_cons,List.map_nil,Qg7,Qlf,QkC,Qly,srcS,src,Qkq,allD,hb,hb1,d1,d2',ll,ll2,a1,a2,go_sem,iv,bv,e1,e2,e3,g,reduceCtorEq,↓reduceIte,Nat.reduceEqDiff]
  ·simp -implicitDefEqProofs (maxSteps:=9^8) only [QaY,QhY,QeQ h0,QeP h0,Qec,Qd9,List.nil_append,List.cons_append,List.length_nil,List.length_cons,Nat.zero_add,List.map_cons,List.map_nil,Qg7,Qld,n3,n4,QaQ,srcS,src,Qkq,allD,d1,d2',ll,ll2,a1,a2,go_sem,iv,bv,e1,e2,e3,g,reduceCtorEq,↓reduceIte,Nat.reduceEqDiff]
theorem raP_stop (h1:RwR d l) (h2:RwR d2 m) {L:List Rat} {i:Nat} (hi:max l.length m.length≤i):X G QaY (QhY d d2 L i)=some (.x 0,QnJ L):=by
 have e1:decide ((i:Int)<(l.length:Int))=false:=lt_f (by omega)
 have e2:decide ((i:Int)<(m.length:Int))=false:=lt_f (by omega)
 have ll:=h1.len
 have ll2:=h2.len
 by_cases h0:L=[]
 ·subst h0
  simp -implicitDefEqProofs (maxSteps:=9^8) only [QaY,QhY,QnJ,Qcp,Qcq,Qaa,ll,ll2,e1,e2,go_sem,iv,bv,reduceCtorEq,↓reduceIte,Nat.reduceEqDiff]
 ·simp -implicitDefEqProofs (maxSteps:=9^8) only [QaY,QhY,QnJ,QeQ h0,QeP h0,QaQ,ll,ll2,e1,e2,go_sem,iv,bv,reduceCtorEq,↓reduceIte,Nat.reduceEqDiff]
theorem QrJ (h1:RwR d l) (h2:RwR d2 m) (s1:SzL K l) (s2:SzL K m) (hK1:1≤K) (hK:K≤10000000000) (n1:l.length≤1000) (n2:m.length≤1000):∀ j i:Nat,i+j=max l.length m.length→X G (.loop QaY) (QhY d d2 ((List.range i).map fun k=>l.getD k 0+m.getD k 0) i)=some (.x 0,QnJ ((List.range (max l.length m.length)).map fun k=>l.getD k 0+m.getD k 0))
 | 0,i,h=>by
  have:i=max l.length m.length:=by omega
  subst this
  rw [Qai,raP_stop h1 h2 (Nat.le_refl _)];rfl
 | j+1,i,h=>by
  rw [Qai,raP_go h1 h2 s1 s2 hK1 hK (by simp;omega) (by omega) (by omega),Option.bind_some,if_pos rfl,QoH (fun k=>l.getD k 0+m.getD k 0)]
  exact QrJ h1 h2 s1 s2 hK1 hK n1 n2 j (i+1) (by omega)
theorem QnD (h1:RwR d l) (h2:RwR d2 m) (s1:SzL K l) (s2:SzL K m) (hK1:1≤K) (hK:K≤10000000000) (n1:l.length≤1000) (n2:m.length≤1000):∃ d',RwR d' (adP l m)∧Qah G QeZ [d,d2]=some (.d d'):=by
 rw [Qad (cf:=QeH) rfl]
 have hl:=QrJ h1 h2 s1 s2 hK1 hK n1 n2 (max l.length m.length) 0 (by omega)
 obtain ⟨d',hr,gT⟩:=Qcu (QtJ ((List.range (max l.length m.length)).map fun k=>l.getD k 0+m.getD k 0)) (by simp;omega) ((SzL.map (K:=2*K+1) fun k _=>by
  have:=s1.getD hK1 k;have:=s2.getD hK1 k
  have:=Qkt (a:=l.getD k 0) (b:=m.getD k 0);omega).mono (by omega))
 refine ⟨d',hr, ?_⟩
 have e0:(List.range 0).map (fun k=>l.getD k 0+m.getD k 0)=[]:=rfl
 have z0:((0:Nat):Int)=0:=rfl
 rw [e0,z0] at hl
 generalize (List.range (max l.length m.length)).map (fun k=>l.getD k 0+m.getD k 0)=L at *
 by_cases h0:L=[]
 ·subst h0
  rw [dR_nil] at gT
  simp only [QhY,QnJ,Qcp,Qcq,Qaa,go_sem] at hl
  simp -implicitDefEqProofs (maxSteps:=9^8) only [QeH,Qfz,hl,gT,Qaa,go_sem,iv,bv,reduceCtorEq,↓reduceIte,Nat.reduceEqDiff]
 ·rw [dR_ne h0] at gT
  simp only [QhY,QnJ,Qcp,Qcq,QeQ h0,QeP h0,Qaa,go_sem] at hl
  simp -implicitDefEqProofs (maxSteps:=9^8) only [QeH,Qfz,hl,gT,QgW,QaQ,Qaa,go_sem,iv,bv,reduceCtorEq,↓reduceIte,Nat.reduceEqDiff]
end

/-! ### Scale -/
section
variable {d:D} {l:List Rat} {a:Rat} {K:Nat}
def Qnh (d:D) (a:Rat) (L:List Rat) (i:Int):St:=mkS [(0,.d d),(3,.ptr [3] 0),(5,gA4 21 L),(6,ai i)] (([3],boxR a) :: gH4 21 L)
def Qty (L:List Rat):St:=mkS [(5,gA4 21 L)] (gH4 21 L)
theorem rs_go (h1:RwR d l) (s1:SzL K l) (sa:sz a≤K) (hK1:1≤K) (hK:K≤10000000000) {L:List Rat} {i:Nat} (hL:L.length≤1000000000) (hi:i<l.length) (hi2:i≤1000000000):X G Qba (Qnh d a L i)=some (.n,Qnh d a (L++[l.getD i 0*a]) ((i+1:Nat):Int)):=by
 have e3:w64 ((i:Int)+1)=((i+1:Nat):Int):=by rw [Qae (by omega) (by omega)];rfl
 have e1:decide ((i:Int)<(l.length:Int))=true:=lt_t (by omega)
 have ll:=h1.len
 have x1:=h1.ixa hi
 have x2:=fun h=>ldR h l hi
 have b1:=s1.getD hK1 i
 have g:=Qeo (a:=l.getD i 0) (b:=a) (by omega) (by omega)
 generalize l.getD i 0*a=q at *
 generalize l.getD i 0=u at *
 generalize cRs (l.drop i)=cs at *
 have d1:=QiZ (digs q.num.natAbs)
 have d2':=QiZ (dd q.den)
 have hb:(64≤bound)=True:=eq_true (by unfold bound;omega)
 have hb1:(1*64≤bound)=True:=eq_true (by unfold bound;omega)
 have n3:(cA L).length=L.length*4:=Qgk L
 have n4:((L.length+1)*64≤bound)=True:=eq_true (by unfold bound;omega)
 simp only [encR] at g x2
 by_cases h0:L=[]
 ·subst h0
  simp -implicitDefEqProofs (maxSteps:=9^8) only [Qba,Qnh,boxR,ld4,Qcp,Qcq,Qaa,Qec,Qd9,List.nil_append,List.cons_append,List.length_nil,List.length_cons,Nat.zero_add,List.map_cons,List.map_nil,Qg7,Qlf,QkC,Qly,srcS,src,Qkq,allD,hb,hb1,d1,d2',ll,x1,x2,go_sem,iv,bv,e1,e3,g,reduceCtorEq,↓reduceIte,Nat.reduceEqDiff]
 ·simp -implicitDefEqProofs (maxSteps:=9^8) only [Qba,Qnh,boxR,ld4,QeQ h0,QeP h0,Qec,Qd9,List.nil_append,List.cons_append,List.length_nil,List.length_cons,Nat.zero_add,List.map_cons,List.map_nil,Qg7,Qld,n3,n4,QaQ,srcS,src,Qkq,allD,d1,d2',ll,x1,x2,go_sem,iv,bv,e1,e3,g,reduceCtorEq,↓reduceIte,Nat.reduceEqDiff]
theorem rs_stop (h1:RwR d l) {L:List Rat}:X G Qba (Qnh d a L (l.length:Nat))=some (.x 0,Qty L):=by
 have e1:decide ((l.length:Int)<(l.length:Int))=false:=lt_f (by omega)
 have ll:=h1.len
 by_cases h0:L=[]
 ·subst h0
  simp -implicitDefEqProofs (maxSteps:=9^8) only [Qba,Qnh,Qty,boxR,Qcp,Qcq,Qaa,ll,e1,go_sem,iv,bv,reduceCtorEq,↓reduceIte,Nat.reduceEqDiff]
 ·simp -implicitDefEqProofs (maxSteps:=9^8) only [Qba,Qnh,Qty,boxR,QeQ h0,QeP h0,QaQ,ll,e1,go_sem,iv,bv,reduceCtorEq,↓reduceIte,Nat.reduceEqDiff]
theorem rs_loop (h1:RwR d l) (s1:SzL K l) (sa:sz a≤K) (hK1:1≤K) (hK:K≤10000000000) (n1:l.length≤1000):∀ j i:Nat,i+j=l.length→X G (.loop Qba) (Qnh d a ((List.range i).map fun k=>l.getD k 0*a) i)=some (.x 0,Qty ((List.range l.length).map fun k=>l.getD k 0*a))
 | 0,i,h=>by
  have:i=l.length:=by omega
  subst this
  rw [Qai,rs_stop h1];rfl
 | j+1,i,h=>by
  rw [Qai,rs_go h1 s1 sa hK1 hK (by simp;omega) (by omega) (by omega),Option.bind_some,if_pos rfl,QoH (fun k=>l.getD k 0*a)]
  exact rs_loop h1 s1 sa hK1 hK n1 j (i+1) (by omega)
theorem Qie (h1:RwR d l) (s1:SzL K l) (sa:sz a≤K) (hK1:1≤K) (hK:K≤10000000000) (n1:l.length≤1000):∃ d',RwR d' (scP l a)∧Qah G QcZ [d,encR a]=some (.d d'):=by
 rw [Qad (cf:=QdP) rfl]
 have hl:=rs_loop h1 s1 sa hK1 hK n1 l.length 0 (by omega)
 obtain ⟨d',hr,gT⟩:=Qcu (QtJ ((List.range l.length).map fun k=>l.getD k 0*a)) (by simp;omega) ((SzL.map (K:=2*K) fun k _=>by
  have:=s1.getD hK1 k
  have:=QgM (a:=l.getD k 0) (b:=a);omega).mono (by omega))
 refine ⟨d',hr, ?_⟩
 have e0:(List.range 0).map (fun k=>l.getD k 0*a)=[]:=rfl
 have z0:((0:Nat):Int)=0:=rfl
 rw [e0,z0] at hl
 generalize (List.range l.length).map (fun k=>l.getD k 0*a)=L at *
 by_cases h0:L=[]
 ·subst h0
  rw [dR_nil] at gT
  simp only [Qnh,Qty,boxR,Qcp,Qcq,Qaa,go_sem] at hl
  simp -implicitDefEqProofs (maxSteps:=9^8) only [QdP,encR,Qfz,hl,gT,Qaa,go_sem,iv,bv,reduceCtorEq,↓reduceIte,Nat.reduceEqDiff]
 ·rw [dR_ne h0] at gT
  simp only [Qnh,Qty,boxR,Qcp,Qcq,QeQ h0,QeP h0,Qaa,go_sem] at hl
  simp -implicitDefEqProofs (maxSteps:=9^8) only [QdP,encR,Qfz,hl,gT,QgW,QaQ,Qaa,go_sem,iv,bv,reduceCtorEq,↓reduceIte,Nat.reduceEqDiff]
end
end Go.AM

/- ref06: Sub, Derive, Eval, Shift. -/
namespace Go.AM
open Go Go.RowKit

theorem sb_alt (l m:List Rat):adP l (scP m (((-1:Int):Int):Rat))=sbP l m:=Qc4 (trm_ad _ _) (trm_sb _ _) fun x=>by
 rw [Qmo,QkS,QpN]
 have:(((-1:Int):Int):Rat) = -1:=rfl
 rw [this]
 generalize evR l x=u;generalize evR m x=v;grind
theorem pow_sz' (x:Rat) (i:Nat) {K:Nat} (hx:sz x≤K):sz (x^i)≤i*K+1:=Nat.le_trans (sz_pow x i) (Nat.add_le_add_right (Nat.mul_le_mul_left _ hx) 1)
variable [Its]

section
variable {d d2:D} {l m:List Rat} {K:Nat}
theorem Qt3 (h1:RwR d l) (h2:RwR d2 m) (s1:SzL K l) (s2:SzL K m) (hK1:3≤K) (hK:K≤1000000000) (n1:l.length≤1000) (n2:m.length≤1000):∃ d',RwR d' (sbP l m)∧Qah G Qhc [d,d2]=some (.d d'):=by
 rw [Qad (cf:=Qf9) rfl]
 have o:=Qc3 (n:=-1) (d:=1) ⟨by omega,by omega⟩ ⟨by omega,by omega⟩
 rw [Qct] at o
 have so:=QnA (n:=-1) ⟨by omega,by omega⟩
 obtain ⟨d3,h3,g3⟩:=Qie (a:=(((-1:Int):Int):Rat)) h2 s2 (by omega) (by omega) (by omega) n2
 have s3:=szl_sc (a:=(((-1:Int):Int):Rat)) (L:=K) s2 (by omega) (by omega)
 have l3:=Qpm m (((-1:Int):Int):Rat)
 obtain ⟨d4,h4,g4⟩:=QnD h1 h3 (K:=K+K) (s1.mono (by omega)) s3 (by omega) (by omega) n1 (by omega)
 rw [sb_alt] at h4
 refine ⟨d4,h4, ?_⟩
 clear h3 h4 s3 l3 so
 generalize (((-1:Int):Int):Rat)=r at *
 simp only [encR,iv] at o g3
 simp -implicitDefEqProofs (maxSteps:=9^8) only [Qf9,o,g3,g4,go_sem,iv,bv,reduceCtorEq,↓reduceIte,Nat.reduceEqDiff]
end

/-! ### Derive -/
section
variable {d:D} {l:List Rat} {K:Nat}
def deE (l:List Rat) (t:Nat):Rat:=l.getD (t+1) 0*((t+1:Nat):Int)
def Qi8 (d:D) (L:List Rat) (i:Int):St:=mkS [(0,.d d),(3,gA4 20 L),(4,ai i)] (gH4 20 L)
def QnP (L:List Rat):St:=mkS [(3,gA4 20 L)] (gH4 20 L)
theorem rdv_go (h1:RwR d l) (s1:SzL K l) (hK1:1≤K) (hK:K≤10000000000) {L:List Rat} {t:Nat} (hL:L.length≤1000000000) (hi:t+1<l.length) (hi2:t≤1000000000):X G Qa1 (Qi8 d L ((t+1:Nat):Int))=some (.n,Qi8 d (L++[deE l t]) ((t+1+1:Nat):Int)):=by
 have e3:w64 (((t+1:Nat):Int)+1)=((t+1+1:Nat):Int):=by rw [Qae (by omega) (by omega)];rfl
 have e1:decide (((t+1:Nat):Int)<(l.length:Int))=true:=lt_t (by omega)
 have ll:=h1.len
 have x1:=h1.ixa hi
 have x2:=fun h=>ldR h l hi
 have b1:=s1.getD hK1 (t+1)
 have o:=Qc3 (n:=((t+1:Nat):Int)) (d:=1) ⟨by omega,by omega⟩ ⟨by omega,by omega⟩
 rw [Qct] at o
 have so:=QnA (n:=((t+1:Nat):Int)) ⟨by omega,by omega⟩
 have g:=Qeo (a:=l.getD (t+1) 0) (b:=(((t+1:Nat):Int):Rat)) (by omega) (by omega)
 have ee:l.getD (t+1) 0*(((t+1:Nat):Int):Rat)=deE l t:=rfl
 rw [ee] at g
 clear ee so b1
 generalize deE l t=q at *
 generalize l.getD (t+1) 0=u at *
 generalize (((t+1:Nat):Int):Rat)=r at *
 generalize cRs (l.drop (t+1))=cs at *
 generalize ((t+1:Nat):Int)=t1 at *
 have d1:=QiZ (digs q.num.natAbs)
 have d2':=QiZ (dd q.den)
 have hb:(64≤bound)=True:=eq_true (by unfold bound;omega)
 have hb1:(1*64≤bound)=True:=eq_true (by unfold bound;omega)
 have n3:(cA L).length=L.length*4:=Qgk L
 have n4:((L.length+1)*64≤bound)=True:=eq_true (by unfold bound;omega)
 simp only [encR,iv] at g x2 o
 by_cases h0:L=[]
 ·subst h0
  simp -implicitDefEqProofs (maxSteps:=9^8) only [Qa1,Qi8,Qcp,Qcq,Qaa,Qec,Qd9,List.nil_append,List.cons_append,List.length_nil,List.length_cons,Nat.zero_add,List.map_cons,List.map_nil,Qg7,Qlf,QkC,Qly,srcS,src,Qkq,allD,hb,hb1,d1,d2',ll,x1,x2,o,go_sem,iv,bv,e1,e3,g,reduceCtorEq,↓reduceIte,Nat.reduceEqDiff]
 ·simp -implicitDefEqProofs (maxSteps:=9^8) only [Qa1,Qi8,QeQ h0,QeP h0,Qec,Qd9,List.nil_append,List.cons_append,List.length_nil,List.length_cons,Nat.zero_add,List.map_cons,List.map_nil,Qg7,Qld,n3,n4,QaQ,srcS,src,Qkq,allD,d1,d2',ll,x1,x2,o,go_sem,iv,bv,e1,e3,g,reduceCtorEq,↓reduceIte,Nat.reduceEqDiff]
theorem rdv_stop (h1:RwR d l) {L:List Rat} {i:Nat} (hi:l.length≤i):X G Qa1 (Qi8 d L i)=some (.x 0,QnP L):=by
 have e1:decide ((i:Int)<(l.length:Int))=false:=lt_f (by omega)
 have ll:=h1.len
 by_cases h0:L=[]
 ·subst h0
  simp -implicitDefEqProofs (maxSteps:=9^8) only [Qa1,Qi8,QnP,Qcp,Qcq,Qaa,ll,e1,go_sem,iv,bv,reduceCtorEq,↓reduceIte,Nat.reduceEqDiff]
 ·simp -implicitDefEqProofs (maxSteps:=9^8) only [Qa1,Qi8,QnP,QeQ h0,QeP h0,QaQ,ll,e1,go_sem,iv,bv,reduceCtorEq,↓reduceIte,Nat.reduceEqDiff]
theorem QrY (h1:RwR d l) (s1:SzL K l) (hK1:1≤K) (hK:K≤10000000000) (n1:l.length≤1000):∀ j t:Nat,t+j=l.length-1→X G (.loop Qa1) (Qi8 d ((List.range t).map (deE l)) ((t+1:Nat):Int))=some (.x 0,QnP ((List.range (l.length-1)).map (deE l)))
 | 0,t,h=>by
  have:t=l.length-1:=by omega
  subst this
  rw [Qai,rdv_stop h1 (by omega)];rfl
 | j+1,t,h=>by
  rw [Qai,rdv_go h1 s1 hK1 hK (by simp;omega) (by omega) (by omega),Option.bind_some,if_pos rfl,QoH (deE l)]
  exact QrY h1 s1 hK1 hK n1 j (t+1) (by omega)
theorem Qj4 (h1:RwR d l) (s1:SzL K l) (hK1:1≤K) (hK:K≤10000000000) (n1:l.length≤1000):∃ d',RwR d' (deP l)∧Qah G QdT [d]=some (.d d'):=by
 rw [Qad (cf:=Qdi) rfl]
 have hl:=QrY h1 s1 hK1 hK n1 (l.length-1) 0 (by omega)
 obtain ⟨d',hr,gT⟩:=Qcu (QtJ ((List.range (l.length-1)).map (deE l))) (by simp;omega) ((SzL.map (K:=K+3) fun k hk=>by
  have:=s1.getD hK1 (k+1)
  have:=QnA (n:=((k+1:Nat):Int)) ⟨by omega,by omega⟩
  have:=QgM (a:=l.getD (k+1) 0) (b:=(((k+1:Nat):Int):Rat))
  unfold deE;omega).mono (by omega))
 refine ⟨d',hr, ?_⟩
 have e0:(List.range 0).map (deE l)=[]:=rfl
 have z0:((0+1:Nat):Int)=1:=rfl
 rw [e0,z0] at hl
 generalize (List.range (l.length-1)).map (deE l)=L at *
 by_cases h0:L=[]
 ·subst h0
  rw [dR_nil] at gT
  simp only [Qi8,QnP,Qcp,Qcq,Qaa,go_sem] at hl
  simp -implicitDefEqProofs (maxSteps:=9^8) only [Qdi,Qfz,hl,gT,Qaa,go_sem,iv,bv,reduceCtorEq,↓reduceIte,Nat.reduceEqDiff]
 ·rw [dR_ne h0] at gT
  simp only [Qi8,QnP,Qcp,Qcq,QeQ h0,QeP h0,Qaa,go_sem] at hl
  simp -implicitDefEqProofs (maxSteps:=9^8) only [Qdi,Qfz,hl,gT,QgW,QaQ,Qaa,go_sem,iv,bv,reduceCtorEq,↓reduceIte,Nat.reduceEqDiff]

/-! ### Eval -/
def QqE (d:D) (x s p:Rat) (i:Int):St:=mkS [(0,.d d),(3,.ptr [3] 0),(4,.ptr [4] 0),(5,.ptr [5] 0),(6,.ptr [6] 0),(7,ai i)] [([3],boxR x),([4],QiX),([5],boxR s),([6],boxR p)]
def re_en (s:Rat):St:=mkS [(4,.ptr [4] 0),(5,.ptr [5] 0)] [([4],QiX),([5],boxR s)]
theorem re_stop {x s p:Rat} (h1:RwR d l):X G QbK (QqE d x s p (l.length:Nat))=some (.x 0,re_en s):=by
 have e1:decide ((l.length:Int)<(l.length:Int))=false:=lt_f (by omega)
 have ll:=h1.len
 simp -implicitDefEqProofs (maxSteps:=9^8) only [QbK,QqE,re_en,boxR,QiX,ll,e1,go_sem,Qac,Qab,iv,bv,reduceCtorEq,↓reduceIte,Nat.reduceEqDiff]
/-! ### Shift -/
end
end Go.AM

/- Division: what it means, that it is the only one, how great the coefficients are. -/
namespace Go.AM
open Go Go.RowKit

theorem QdN {l:List Rat} (h:Trm l) (hne:l≠[]):l.getD (l.length-1) 0≠0:=by
 have hp:0<l.length:=List.length_pos_iff.2 hne
 exact h (l.length-1) (by omega)
theorem QjG (x:Rat) {l:List Rat} {t:Nat} {c:Rat} (h:t<l.length):evR (l.set t c) x=evR l x+(c-l.getD t 0)*x^t:=by
 have:∀ (l:List Rat) (t:Nat) (c:Rat),t<l.length→evR (l.set t c) x=evR l x+(c-l.getD t 0)*x^t:=by
  intro l
  induction l with
  | nil=>intro t c h;simp at h
  | cons a l ih =>
   intro t c h
   cases t with
   | zero =>
    show evR l x*x+c=evR l x*x+a+(c-a)*x^0
    rw [Rat.pow_zero];generalize evR l x=u;grind
   | succ t =>
    have:=ih t c (by simpa using h)
    show evR (l.set t c) x*x+a=evR l x*x+a+(c-l.getD t 0)*x^(t+1)
    rw [this,Rat.pow_succ]
    generalize evR l x=u;generalize x^t=p;generalize l.getD t 0=v;grind
 exact this l t c h
theorem Qsi (x:Rat) (k:Nat):∀ i:Nat,x^(k+i)=x^k*x^i
 | 0=>by rw [Nat.add_zero,Rat.pow_zero,Rat.mul_one]
 | i+1=>by rw [← Nat.add_assoc,Rat.pow_succ,Rat.pow_succ,Qsi x k i,Rat.mul_assoc]
theorem evR_take (q:List Rat) (x:Rat) {i:Nat} (h:i<q.length):evR (q.take (i+1)) x=evR (q.take i) x+q.getD i 0*x^i:=by
 have e:q.take (i+1)=q.take i++[q.getD i 0]:=by
  rw [List.take_add_one]
  simp [List.getD,h]
 rw [e,QlR,List.length_take,Nat.min_eq_left (by omega)]
theorem evR_dvI {R q:List Rat} {k:Nat} {f x:Rat}:∀ i,i≤q.length→k+q.length≤R.length→evR (dvI R q k f i) x=evR R x-f*x^k*evR (q.take i) x
 | 0,_,_=>by rw [dvI,List.take_zero,QaG];grind
 | i+1,hi,hk=>by
  rw [dvI,QjG x (by rw [Qe9];omega),evR_dvI i (by omega) hk,evR_take q x (by omega),Qsi]
  generalize evR R x=a;generalize evR (q.take i) x=b;generalize x^k=p;generalize x^i=r;generalize q.getD i 0=c;generalize (dvI R q k f i).getD (k+i) 0=e
  grind
theorem evR_dv {R q:List Rat} {k:Nat} {f x:Rat} (hk:k+q.length≤R.length):evR (dvI R q k f q.length) x=evR R x-f*x^k*evR q x:=by
 have:=evR_dvI (x:=x) (f:=f) q.length (Nat.le_refl _) hk
 rwa [List.take_length] at this
theorem dvO_ev (q:List Rat) (x:Rat):∀ (m:Nat) (R O:List Rat),(0<m→m-1+q.length≤R.length)→m≤O.length→(∀ t,t<m→O.getD t 0=0)→evR (dvO q m R O).2 x*evR q x+evR (dvO q m R O).1 x=evR O x*evR q x+evR R x
 | 0,R,O,_,_,_=>rfl
 | k+1,R,O,h,hO,hz=>by
  have hk:k+q.length≤R.length:=by have:=h (by omega);omega
  rw [dvO,dvO_ev q x k _ _ (fun _=>by rw [Qe9];omega) (by rw [List.length_set];omega) (fun t ht=>by rw [Qm5 (by omega),if_neg (by omega)];exact hz t (by omega)),evR_dv hk,QjG x (by omega),hz k (by omega)]
  generalize evR O x=a;generalize evR R x=b;generalize evR q x=c;generalize x^k=p;generalize dvF R q k=f
  grind
theorem dvO_deg {q:List Rat} (hq:q.getD (q.length-1) 0≠0) (hq0:0<q.length):∀ (m:Nat) (R O:List Rat),(0<m→m-1+q.length≤R.length)→(∀ t,m+q.length-1≤t→R.getD t 0=0)→∀ t,q.length-1≤t→(dvO q m R O).1.getD t 0=0
 | 0,R,O,_,hz,t,ht=>hz t (by omega)
 | k+1,R,O,h,hz,t,ht=>by
  have hk:k+q.length≤R.length:=by have:=h (by omega);omega
  rw [dvO]
  refine dvO_deg hq hq0 k _ _ (fun _=>by rw [Qe9];omega) (fun t ht=>?_) t ht
  rw [QiO q.length (by omega)]
  by_cases h1:t=k+q.length-1
  ·subst h1
   rw [if_pos (by omega),show k+q.length-1-k=q.length-1 by omega,dvF,Rat.div_def,Rat.mul_assoc,Rat.inv_mul_cancel _ hq,Rat.mul_one,Rat.sub_self]
  ·rw [if_neg (by omega)]
   exact hz t (by omega)
theorem Qml {l:List Rat} {n:Nat} (hl:Trm l) (h:∀ t,n≤t→l.getD t 0=0):l.length≤n:=by
 by_cases hl0:l.length≤n
 ·exact hl0
 ·exact absurd (h (l.length-1) (by omega)) (hl (l.length-1) (by omega))
theorem Qjk {p q:List Rat} (hq:Trm q) (hq0:q≠[]):(∀ x,evR p x=evR (quoP p q) x*evR q x+evR (remP p q) x)∧(remP p q).length≤q.length-1∧Trm (quoP p q)∧Trm (remP p q):=by
  have hl:0<q.length:=List.length_pos_iff.2 hq0
  unfold quoP remP
  rw [if_neg hq0,if_neg hq0]
  refine ⟨fun x=>?_, ?_,QaO _,QaO _⟩
  · rw [QaB     , QaB     , dvO_ev q x (dvN p q) p (List.replicate (dvN p q) 0) (fun h => by unfold dvN at h ⊢; omega) (by simp) (fun t ht => by
      rw [List.getD_eq_getElem?_getD,List.getElem?_replicate,if_pos ht];rfl),Qku (fun r hr=>(List.mem_replicate.1 hr).2),Rat.zero_mul,Rat.zero_add]
  · refine Qml (QaO _) (fun t ht=>?_)
    rw [Qd1]
    refine dvO_deg (QdN hq hq0) hl _ _ _ (fun h=>by unfold dvN at h ⊢;omega) (fun t ht=>QaW (by unfold dvN at ht;omega)) t ht
theorem QlX {s q:List Rat} (hs:0<s.length) (hq:0<q.length):conv s q (s.length-1+(q.length-1))=s.getD (s.length-1) 0*q.getD (q.length-1) 0:=by
 obtain ⟨n,hn⟩:∃ n,s.length=n+1:=⟨s.length-1,by omega⟩
 unfold conv
 rw [hn,Nat.add_sub_cancel]
 have h1:sumR (fun i=>s.getD i 0*q.getD (n+(q.length-1)-i) 0) (n+(q.length-1)+1)=sumR (fun i=>s.getD i 0*q.getD (n+(q.length-1)-i) 0) (n+1):=by
  rw [show n+(q.length-1)+1=(n+1)+(q.length-1) by omega]
  exact Qm1 _ (fun i h1 _=>by rw [QaW (l:=s) (by omega),Rat.zero_mul])
 rw [h1,sumR,Qgl n (fun i hi=>by rw [QaW (l:=q) (by omega),Rat.mul_zero]),Rat.zero_add,show n+(q.length-1)-n=q.length-1 by omega]
theorem Qoq (l m:List Rat) (k:Nat):(muP l m).getD k 0=conv l m k:=by
 rw [muP,Qd1]
 by_cases h:k<l.length+m.length-1
 ·rw [Qj1 _ h]
 ·rw [QaW (by simp;omega),QsA (by omega)]
theorem sb_getD (l m:List Rat) (k:Nat):(sbP l m).getD k 0=l.getD k 0-m.getD k 0:=by
 rw [sbP,Qd1]
 by_cases h:k<max l.length m.length
 ·rw [Qj1 _ h]
 ·rw [QaW (by simp;omega),QaW (l:=l) (by omega),QaW (l:=m) (by omega),Rat.sub_self]
theorem div_uniq {q a1 r1 a2 r2:List Rat} (hq:Trm q) (hq0:q≠[]) (t1:Trm a1) (t2:Trm a2) (u1:Trm r1) (u2:Trm r2) (n1:r1.length≤q.length-1) (n2:r2.length≤q.length-1) (h:∀ x,evR a1 x*evR q x+evR r1 x=evR a2 x*evR q x+evR r2 x):a1=a2∧r1=r2:=by
 have hl:0<q.length:=List.length_pos_iff.2 hq0
 have hs:sbP a1 a2=[]:=by
  by_cases h0:sbP a1 a2=[]
  ·exact h0
  ·have hsl:0<(sbP a1 a2).length:=List.length_pos_iff.2 h0
   have hev:∀ x,evR (muP (sbP a1 a2) q) x=evR (sbP r2 r1) x:=fun x=>by
    rw [Qa8,QpN,QpN]
    have:=h x
    generalize evR a1 x=a at *;generalize evR a2 x=b at *;generalize evR q x=c at *;generalize evR r1 x=d at *;generalize evR r2 x=e at *
    grind
   have hc:=Qor (c:=0) (fun x _=>hev x) ((sbP a1 a2).length-1+(q.length-1))
   rw [Qoq,QlX hsl hl,sb_getD r2 r1,QaW (l:=r2) (by omega),QaW (l:=r1) (by omega),Rat.sub_self] at hc
   rcases Rat.mul_eq_zero.1 hc with h1 | h1
   ·exact absurd h1 (QdN (trm_sb _ _) h0)
   ·exact absurd h1 (QdN hq hq0)
 have ha:a1=a2:=Qqz t1 t2 (fun k=>by
  have:=sb_getD a1 a2 k
  rw [hs,QaW (by simp)] at this
  generalize a1.getD k 0=u at *;generalize a2.getD k 0=v at *
  grind)
 refine ⟨ha,Qc4 u1 u2 (fun x=>?_)⟩
 have:=h x
 rw [ha] at this
 generalize evR a2 x*evR q x=u at *
 grind

/-! ### Sizes -/
theorem Hq.ratio {E Y:Nat} {c:Rat} (hE:0<E) (hc:c≠0) (h:Hq E Y c):∃ s:Nat,0<s∧s≤Y∧∀ (Z:Nat) (v:Rat),Hq E Z v→Hq s Z (v/c):=by
  obtain ⟨m,h1,h2⟩:=h
  have hm:m≠0:=fun h0=>by
    rw [h0] at h1
    have h3:c*cN E=0:=h1
    rcases Rat.mul_eq_zero.1 h3 with h4 | h4
    · exact hc h4
    · exact cN_ne hE h4
  have key:∀ v,v/c*(m:Rat)=v*cN E:=fun v=>by
    rw [← h1,Rat.div_def,Rat.mul_assoc,← Rat.mul_assoc c⁻¹,Rat.inv_mul_cancel _ hc,Rat.one_mul]
  refine ⟨m.natAbs,by omega,h2,fun Z v hv=>?_⟩
  obtain ⟨n,n1,n2⟩:=hv
  rcases Int.lt_trichotomy m 0 with h3 | h3 | h3
  · have e : cN m.natAbs = -(m : Rat) := by
      unfold cN
      rw [show ((m.natAbs:Nat):Int) = -m by omega,Rat.intCast_neg]
    exact ⟨-n,by rw [e,Rat.mul_neg,key,n1,Rat.intCast_neg],by omega⟩
  · exact absurd h3 hm
  · have e : cN m.natAbs = (m : Rat) := by
      unfold cN
      rw [show ((m.natAbs:Nat):Int)=m by omega]
    exact ⟨n,by rw [e,key,n1],n2⟩
theorem Hq.one (E:Nat):Hq E E 1:=⟨(E:Int),by rw [Rat.one_mul];rfl,by omega⟩
theorem dv_step {D X E Y s:Nat} {R q:List Rat} {k:Nat} (hR:∀ x∈R,Hq D X x) (hq:∀ x∈q,Hq E Y x) (hs:∀ (Z:Nat) (v:Rat),Hq E Z v→Hq s Z (v/q.getD (q.length-1) 0)) (hk:k+q.length≤R.length) :
    (∀ x∈dvI R q k (dvF R q k) q.length,Hq (D*s) (X*(s+Y)) x)∧Hq (D*s) (X*E) (dvF R q k):=by
  have hf:Hq (D*s) (X*E) (dvF R q k):=by
    have:=(Hq.getD hR (k+q.length-1)).mul (hs E 1 (Hq.one E))
    unfold dvF
    rwa [Rat.div_def,Rat.one_mul,← Rat.div_def] at this
  refine ⟨fun x hx=>?_,hf⟩
  obtain ⟨t,ht,rfl⟩:=List.mem_iff_getElem.1 hx
  have e:(dvI R q k (dvF R q k) q.length)[t]=(dvI R q k (dvF R q k) q.length).getD t 0:=by
    rw [List.getD_eq_getElem?_getD,List.getElem?_eq_getElem ht];rfl
  rw [e,QiO q.length hk]
  have hRt:=(Hq.getD hR t).lift s
  split
  · have hfq : Hq (D * s) (X * Y) (dvF R q k * q.getD (t - k) 0) := by
      have h1:=(Hq.getD hR (k+q.length-1)).mul (hs Y _ (Hq.getD hq (t-k)))
      have e2:R.getD (k+q.length-1) 0*(q.getD (t-k) 0/q.getD (q.length-1) 0)=dvF R q k*q.getD (t-k) 0:=by
        unfold dvF
        rw [Rat.div_def,Rat.div_def]
        generalize R.getD (k+q.length-1) 0=a;generalize (q.getD (q.length-1) 0)⁻¹=b;generalize q.getD (t-k) 0=c
        grind
      rwa [e2] at h1
    rw [Nat.mul_add]
    exact hRt.sub hfq
  · rw [Nat.mul_add]
    exact hRt.le (by omega)
theorem dv_all {E Y s:Nat} {q:List Rat} {d e g:Nat} (hq:∀ x∈q,Hq E Y x) (hs:∀ (Z:Nat) (v:Rat),Hq E Z v→Hq s Z (v/q.getD (q.length-1) 0)) (hs0:0<s) (hsB:s≤BB^g) (hYB:Y≤BB^g) (hEB:E≤BB^e) {K:Nat} :
    ∀ (m D h:Nat) (R O:List Rat),0<D→D≤BB^d→(∀ x∈R,Hq D (BB^h) x)→(∀ x∈O,Hq D (BB^(h+e)) x)→(0<m→m-1+q.length≤R.length)→max (d+m*g) (h+m*(g+1)+e)+1≤K →
    dvG K q m R∧∃ D',0<D'∧D'≤BB^(d+m*g)∧(∀ x∈(dvO q m R O).1,Hq D' (BB^(h+m*(g+1))) x)∧(∀ x∈(dvO q m R O).2,Hq D' (BB^(h+m*(g+1)+e)) x):=by
  intro m
  induction m generalizing d with
  | zero =>
    intro D h R O hD hd hR hO _ _
    exact ⟨trivial,D,hD,by rw [Nat.zero_mul,Nat.add_zero];exact hd,by rw [Nat.zero_mul,Nat.add_zero];exact hR,by rw [Nat.zero_mul,Nat.add_zero];exact hO⟩
  | succ k ih =>
    intro D h R O hD hd hR hO hk hK
    have hk':=hk (by omega)
    obtain ⟨a1,a2⟩:=dv_step (k:=k) hR hq hs (by omega)
    have e1:(k+1)*g=g+k*g:=by rw [Nat.succ_mul,Nat.add_comm]
    have e2:(k+1)*(g+1)=(g+1)+k*(g+1):=by rw [Nat.succ_mul,Nat.add_comm]
    have hb:BB^h*(s+Y)≤BB^(h+(g+1)):=Qdb (Nat.le_refl _) (QrK hsB hYB)
    have hR':∀ x∈dvI R q k (dvF R q k) q.length,Hq (D*s) (BB^(h+(g+1))) x:=fun x hx=>(a1 x hx).le hb
    have hO':∀ x∈O.set k (dvF R q k),Hq (D*s) (BB^(h+(g+1)+e)) x:=fun x hx=>by
      rcases List.mem_or_eq_of_mem_set hx with h1 | h1
      · exact ((hO x h1).lift s).le (Nat.le_trans (Qdb (Nat.le_refl _) hsB) (QcX (by omega)))
      · rw [h1]
        exact a2.le (Nat.le_trans (Qdb (Nat.le_refl _) hEB) (QcX (by omega)))
    have:=ih (d:=d+g) (D*s) (h+(g+1)) (dvI R q k (dvF R q k) q.length) (O.set k (dvF R q k)) (Nat.mul_pos hD hs0) (Qdb hd hsB) hR' hO' (fun _=>by rw [Qe9];omega) (by
      rw [e1,e2] at hK;omega)
    obtain ⟨b1,D',b2,b3,b4,b5⟩:=this
    refine ⟨⟨fun x hx=>?_,b1⟩,D',b2, ?_, ?_, ?_⟩
    · have:=Hq.sz hD hd (Nat.le_refl _) (hR x hx)
      rw [e1,e2] at hK;omega
    · rw [e1,← Nat.add_assoc];exact b3
    · rw [dvO,e2,← Nat.add_assoc];exact b4
    · rw [dvO,e2,← Nat.add_assoc];exact b5
theorem Ql6 {d h e g:Nat} {p q:List Rat} (Hp:HL d h p) (Hq':HL e g q) (hq:Trm q) {K:Nat} (hK:max (d+dvN p q*g) (h+dvN p q*(g+1)+e)+1≤K):dvG K q (dvN p q) p∧HL (d+dvN p q*g) (h+dvN p q*(g+1)) (remP p q)∧HL (d+dvN p q*g) (h+dvN p q*(g+1)+e) (quoP p q):=by
 obtain ⟨D,a1,a2,a3⟩:=Hp
 obtain ⟨E,b1,b2,b3⟩:=Hq'
 by_cases hq0:q=[]
 ·have r1:remP p q=[]:=if_pos hq0
  have r2:quoP p q=[]:=if_pos hq0
  rw [r1,r2]
  refine ⟨?_,HL.nil _ _,HL.nil _ _⟩
  subst hq0
  have hg:∀ (m:Nat) (R:List Rat),SzL K R→dvG K [] m R:=by
   intro m
   induction m with
   | zero=>intro R _;trivial
   | succ k ih=>intro R hR;exact ⟨hR,ih _ hR⟩
  exact hg _ _ (fun x hx=>Nat.le_trans ((a3 x hx).sz a1 a2 (Nat.le_refl _)) (by omega))
 ·obtain ⟨s,s1,s2,s3⟩:=Hq.ratio b1 (QdN hq hq0) (Hq.getD b3 (q.length-1))
  obtain ⟨c1,D',c2,c3,c4,c5⟩:=dv_all (d:=d) (e:=e) (g:=g) (K:=K) b3 s3 s1 s2 (Nat.le_refl _) b2 (dvN p q) D h p (List.replicate (dvN p q) 0) a1 a2 a3 (fun x hx=>by rw [(List.mem_replicate.1 hx).2];exact Hq.zero _ _) (fun hm=>by unfold dvN at hm ⊢;omega) hK
  have r1:remP p q=Qay (dvO q (dvN p q) p (List.replicate (dvN p q) 0)).1:=if_neg hq0
  have r2:quoP p q=Qay (dvO q (dvN p q) p (List.replicate (dvN p q) 0)).2:=if_neg hq0
  rw [r1,r2]
  exact ⟨c1,HL.trim ⟨D',c2,c3,c4⟩,HL.trim ⟨D',c2,c3,c5⟩⟩
theorem Qne {d h:Nat} {l:List Rat} (H:HL d h l) (hl:Trm l):HL h h (mnP l):=by
 unfold mnP
 split
 ·exact HL.nil _ _
 ·rename_i hne
  obtain ⟨D,a1,a2,a3⟩:=H
  obtain ⟨s,s1,s2,s3⟩:=Hq.ratio a1 (QdN hl hne) (Hq.getD a3 (l.length-1))
  refine HL.made s1 s2 (Nat.le_refl _) (fun k _=>?_)
  have:=s3 _ _ (Hq.getD a3 k)
  rw [Rat.div_def,Rat.one_mul]
  rwa [Rat.div_def] at this
end Go.AM

/- ref06: Div, Monic, Gcd, Free. -/
namespace Go.AM
open Go Go.RowKit

theorem Qsd {q:Rat} {K:Nat} (h:sz q≤K):H1 K K q:=by
 have h1:nd q.num≤K:=Nat.le_trans (Nat.le_max_left _ _) h
 have h2:nd (q.den:Int)≤K:=Nat.le_trans (Nat.le_max_right _ _) h
 have hd:=Hq.div (n:=q.num) (d:=(q.den:Int)) (by have:=q.den_pos;omega)
 rw [Rat.num_divInt_den,Int.natAbs_natCast] at hd
 refine ⟨q.den,q.den_pos, ?_,hd.le (Nat.le_trans (Nat.le_of_lt (Qc6 q.num)) (QcX h1))⟩
 have:=Qc6 (q.den:Int)
 rw [Int.natAbs_natCast] at this
 exact Nat.le_trans (Nat.le_of_lt this) (QcX h2)
def prt (k:Nat) (f:Rat):List Rat:=Qay ((List.replicate (k+1) 0).set k f)
theorem ev_prt (k:Nat) (f x:Rat):evR (prt k f) x=f*x^k:=by
 rw [prt,QaB,QjG x (by simp),Qk0]
 have:(List.replicate (k+1) (0:Rat)).getD k 0=0:=by
  rw [List.getD_eq_getElem?_getD,List.getElem?_replicate,if_pos (by omega)];rfl
 rw [this]
 generalize x^k=p;grind
theorem prt_len (k:Nat) (f:Rat):(prt k f).length≤k+1:=Nat.le_trans (Qcm _) (by simp)
theorem prt_H {k:Nat} {f:Rat} {K:Nat} (h:H1 K K f):HL K K (prt k f):=by
 obtain ⟨D,a1,a2,a3⟩:=h
 refine HL.trim ⟨D,a1,a2,fun q hq=>?_⟩
 rcases List.mem_or_eq_of_mem_set hq with h1 | h1
 ·rw [(List.mem_replicate.1 h1).2];exact Hq.zero _ _
 ·rw [h1];exact a3
theorem ad_prt {O:List Rat} {k:Nat} {f:Rat} (hk:k<O.length) (h0:O.getD k 0=0):adP (Qay O) (prt k f)=Qay (O.set k f):=Qc4 (trm_ad _ _) (QaO _) fun x=>by
 rw [Qmo,QaB,QaB,ev_prt,QjG x hk,h0]
 generalize evR O x=u;generalize x^k=p;grind
theorem sb_prt {R q:List Rat} {k:Nat} {f:Rat} (hk:k+q.length≤R.length):sbP (Qay R) (muP (prt k f) q)=Qay (dvI R q k f q.length):=Qc4 (trm_sb _ _) (QaO _) fun x=>by
 rw [QpN,QaB,QaB,Qa8,ev_prt,evR_dv hk]
theorem dv_skip {R q:List Rat} {k:Nat} (hk:k+q.length≤R.length):Qay (dvI R q k 0 q.length)=Qay R:=Qc4 (QaO _) (QaO _) fun x=>by
 rw [QaB,QaB,evR_dv hk,Rat.zero_mul,Rat.zero_mul]
 generalize evR R x=u;grind
theorem set_skip {O:List Rat} {k:Nat} (hk:k<O.length) (h0:O.getD k 0=0):Qay (O.set k 0)=Qay O:=Qc4 (QaO _) (QaO _) fun x=>by
 rw [QaB,QaB,QjG x hk,h0]
 generalize evR O x=u;generalize x^k=p;grind
theorem Qma {R:List Rat} {n:Nat} (h:∀ t,n≤t→R.getD t 0=0):(Qay R).length≤n:=Qml (QaO _) (fun t ht=>by rw [Qd1];exact h t ht)
theorem QrC {R:List Rat} {n:Nat} (h:∀ t,n+1≤t→R.getD t 0=0) (h0:R.getD n 0≠0):(Qay R).length=n+1:=by
 have h1:=Qma h
 by_cases h2:(Qay R).length≤n
 ·exact absurd (by rw [← Qd1];exact QaW h2) h0
 ·omega
variable [Its]

section
variable {dq:D} {q:List Rat} {K e g:Nat}
def Qmq (dq dout drest:D):St:=mkS [(1,.d dq),(6,.d dout),(7,.d drest)] []
def QrZ (dout drest:D):St:=mkS [(6,.d dout),(7,.d drest)] []
theorem rd2_stop {dout drest:D} {R:List Rat} (hq:RwR dq q) (h2:RwR drest R) (h:R.length<q.length):X G Qb0 (Qmq dq dout drest)=some (.x 0,QrZ dout drest):=by
 have l1:=hq.len
 have l2:=h2.len
 have e1:decide ((R.length:Int)≥(q.length:Int))=false:=decide_eq_false (by omega)
 simp -implicitDefEqProofs (maxSteps:=9^8) only [Qb0,Qmq,QrZ,l1,l2,e1,go_sem,iv,bv,reduceCtorEq,↓reduceIte,Nat.reduceEqDiff]
theorem rd2_go {dout drest:D} {R O:List Rat} {k:Nat} (hq:RwR dq q) (h1:RwR dout O) (h2:RwR drest R) (hk:R.length=k+q.length) (hq0:0<q.length) (n1:R.length≤100) (n2:O.length≤100)
    (sR:SzL K R) (sO:SzL (2*K) O) (Hq':HL e g q) (sq:SzL K q) (hK1:1≤K) (hK:K≤200000000) (he:e≤200000000) (hg:g≤200000000) :
    ∃ d1 d2,RwR d1 (adP O (prt k (dvF R q k)))∧RwR d2 (sbP R (muP (prt k (dvF R q k)) q))∧X G Qb0 (Qmq dq dout drest)=some (.n,Qmq dq d1 d2):=by
  have l1:=hq.len
  have l2:=h2.len
  have e1:decide ((R.length:Int)≥(q.length:Int))=true:=decide_eq_true (by omega)
  have e2:w64 ((R.length:Int)-(q.length:Int))=(k:Int):=by rw [Qae (by omega) (by omega)];omega
  have e3:w64 ((k:Int)+1)=((k+1:Nat):Int):=by rw [Qae (by omega) (by omega)];rfl
  have e4:w64 ((q.length:Int)-1)=((q.length-1:Nat):Int):=by rw [Qae (by omega) (by omega)];omega
  have e5:w64 ((R.length:Int)-1)=((k+q.length-1:Nat):Int):=by rw [Qae (by omega) (by omega)];omega
  have f1:((0:Int)≤((k+1:Nat):Int))=True:=eq_true (by omega)
  have f2:(((k+1:Nat):Int)*((64:Nat):Int)≤(bound:Int))=True:=eq_true (by have:(bound:Int)=140737488351232:=rfl;omega)
  have f3:((0:Int)≤(k:Int))=True:=eq_true (by omega)
  have f4:((k:Int)<((k+1:Nat):Int))=True:=eq_true (by omega)
  have r0:=QmT (k+1)
  have m0:=Qmt (List.replicate (k+1) (0:Rat))
  have hqi:q.length-1<q.length:=by omega
  have hRi:k+q.length-1<R.length:=by omega
  have x1:=hq.ixa hqi
  have y1:=fun h=>ldR h q hqi
  have x2:=h2.ixa hRi
  have y2:=fun h=>ldR h R hRi
  have s1:=sq.getD hK1 (q.length-1)
  have s2:=sR.getD hK1 (k+q.length-1)
  have g1:=Qii (a:=R.getD (k+q.length-1) 0) (b:=q.getD (q.length-1) 0) (by omega) (by omega)
  have sf:=Qnk (a:=R.getD (k+q.length-1) 0) (b:=q.getD (q.length-1) 0)
  have hf:R.getD (k+q.length-1) 0/q.getD (q.length-1) 0=dvF R q k:=rfl
  rw [hf] at g1 sf
  have sf':sz (dvF R q k)≤2*K:=by omega
  have hlen:(List.replicate (k+1) (0:Rat)).length=k+1:=List.length_replicate
  have t1:=Qtp (l:=List.replicate (k+1) (0:Rat)) (j:=k) (by simp) (dvF R q k)
  have Hp:=prt_H (k:=k) (Qsd sf')
  obtain ⟨dp,hp,gT⟩:=Qcu (RwR.row ((List.replicate (k+1) (0:Rat)).set k (dvF R q k))) (by simp;omega) (szl_set (fun x hx=>by rw [(List.mem_replicate.1 hx).2,Qic];omega) (by omega))
  have np:=prt_len k (dvF R q k)
  have gT':RwR dp (prt k (dvF R q k)):=hp
  have bbv:BB=1000000000:=rfl
  obtain ⟨d1,a1,g2⟩:=QnD h1 gT' (K:=2*K+1) (sO.mono (by omega)) (Hp.sz.mono (by omega)) (by omega) (by omega) (by omega) (by omega)
  obtain ⟨dm,a2,g3⟩:=Qhn gT' hq Hp Hq' (by omega) (by omega) (by omega) (by omega)
  have Hm:=HL.mu Hp Hq' (by omega)
  have lm:=Qm4 (prt k (dvF R q k)) q
  obtain ⟨d2,a3,g4⟩:=Qt3 h2 a2 (K:=2*K+max e g+3) (sR.mono (by omega)) (Hm.sz.mono (by omega)) (by omega) (by omega) (by omega) (by omega)
  refine ⟨d1,d2,a1,a3, ?_⟩
  rw [rowR,List.length_set,hlen] at gT
  clear s1 s2 sf sf' sq sR sO hf Hp Hm a1 a2 a3 hp gT' np lm Hq' hlen hqi hRi
  generalize (List.replicate (k+1) (0:Rat)).set k (dvF R q k)=L at *
  generalize dvF R q k=f at *
  generalize R.getD (k+q.length-1) 0=u at *
  generalize q.getD (q.length-1) 0=v at *
  generalize cRs (q.drop (q.length-1))=cs at *
  generalize cRs (R.drop (k+q.length-1))=cs2 at *
  generalize ((k+q.length-1:Nat):Int)=z1 at *
  generalize ((q.length-1:Nat):Int)=z2 at *
  simp only [encR] at g1 y1 y2
  simp -implicitDefEqProofs (maxSteps:=9^8) only [Qb0,Qmq,Qfz,l1,l2,e1,e2,e3,e4,e5,f1,f2,f3,f4,r0,m0,x1,y1,x2,y2,g1,t1,gT,g2,g3,g4,QgW,QaQ,Int.toNat_natCast,go_sem,iv,bv,and_self,true_and,reduceCtorEq,↓reduceIte,Nat.reduceEqDiff]
theorem QrE      (hq:RwR dq q) (hq0:0<q.length) (hqz:q.getD (q.length-1) 0≠0) (Hq':HL e g q) (sq:SzL K q) (hK1:1≤K) (hK:K≤200000000) (he:e≤200000000) (hg:g≤200000000):∀ (j:Nat) (R O:List Rat) (dout drest:D),RwR dout (Qay   O)→RwR drest (Qay   R)→R.length≤100→O.length≤100→(0<j→j-1+q.length≤R.length)→j≤O.length→(∀ t,t<j→O.getD t 0=0)→(∀ t,j+q.length-1≤t→R.getD t 0=0)→SzL (2*K) O→dvG K q j R →
    ∃ d1 d2,RwR d1 (Qay (dvO q j R O).2)∧RwR d2 (Qay (dvO q j R O).1)∧X G (.loop Qb0) (Qmq dq dout drest)=some (.x 0,QrZ d1 d2)
  | 0,R,O,dout,drest,h1,h2,_,_,_,_,_,hz,_,_=>by
    have hl:(Qay R).length≤q.length-1:=Qma (fun t ht=>hz t (by omega))
    exact ⟨dout,drest,h1,h2,by rw [Qai,rd2_stop hq h2 (by omega)];rfl⟩
  | k+1,R,O,dout,drest,h1,h2,n1,n2,hj,hm,ho,hz,sO,hgG=>by
    have hk:k+q.length≤R.length:=by have:=hj (by omega);omega
    have hlast:q.length-1<q.length:=by omega
    have h0:=ho k (by omega)
    have sO':SzL (2*K) (O.set k (dvF R q k)):=szl_set sO (by
      have s1:=sq.getD hK1 (q.length-1)
      have s2:=hgG.1.getD hK1 (k+q.length-1)
      have:=Qnk (a:=R.getD (k+q.length-1) 0) (b:=q.getD (q.length-1) 0)
      unfold dvF;omega)
    have hz':q.getD (q.length-1) 0≠0∨R.getD (k+q.length-1) 0=0→∀ t,k+q.length-1≤t→(dvI R q k (dvF R q k) q.length).getD t 0=0:=fun hc t ht=>by
      rw [QiO q.length (by omega)]
      by_cases h1:t=k+q.length-1
      · subst h1
        rw [if_pos (by omega),show k+q.length-1-k=q.length-1 by omega,dvF]
        rcases hc with hc | hc
        · rw [Rat.div_def,Rat.mul_assoc,Rat.inv_mul_cancel _ hc,Rat.mul_one,Rat.sub_self]
        · rw [hc,Rat.div_def,Rat.zero_mul,Rat.zero_mul,Rat.sub_self]
      · rw [if_neg (by omega)]
        exact hz t (by omega)
    have ho':∀ t,t<k→(O.set k (dvF R q k)).getD t 0=0:=fun t ht=>by
      rw [Qm5 (by omega),if_neg (by omega)];exact ho t (by omega)
    have ih:=QrE hq hq0 hqz Hq' sq hK1 hK he hg k (dvI R q k (dvF R q k) q.length) (O.set k (dvF R q k))
    rw [dvO]
    by_cases hR0:R.getD (k+q.length-1) 0=0
    · have hf:dvF R q k=0:=by rw [dvF,hR0,Rat.div_def,Rat.zero_mul]
      refine ih dout drest ?_ ?_ (by rw [Qe9];exact n1) (by rw [List.length_set];exact n2) (fun _=>by rw [Qe9];omega) (by rw [List.length_set];omega) ho' (hz' (.inr hR0)) sO' hgG.2
      · rw [hf,set_skip (by omega) h0];exact h1
      · rw [hf,dv_skip hk];exact h2
    · have hlen : (Qay   R).length = k + q.length := by
        have:=QrC (R:=R) (n:=k+q.length-1) (fun t ht=>hz t (by omega)) hR0
        omega
      have hfe:dvF (Qay R) q k=dvF R q k:=by rw [dvF,Qd1];rfl
      obtain ⟨d1,d2,a1,a2,a3⟩:=rd2_go (k:=k) hq h1 h2 hlen hq0 (Nat.le_trans (Qcm R) n1) (Nat.le_trans (Qcm O) n2) hgG.1.trim sO.trim Hq' sq hK1 hK he hg
      rw [hfe] at a1 a2
      rw [ad_prt (by omega) h0] at a1
      rw [sb_prt hk] at a2
      obtain ⟨e1,e2,b1,b2,b3⟩:=ih d1 d2 a1 a2 (by rw [Qe9];exact n1) (by rw [List.length_set];exact n2) (fun _=>by rw [Qe9];omega) (by rw [List.length_set];omega) ho' (hz' (.inl hqz)) sO' hgG.2
      exact ⟨e1,e2,b1,b2,by rw [Qai,a3,Option.bind_some,if_pos rfl];exact b3⟩
theorem Qk1        {dp:D} {p:List Rat} (hp:RwR dp p) (hq:RwR dq q) (tp:Trm p) (tq:Trm q) (n1:p.length≤90) (Hq':HL e g q) (sq:SzL K q) (hK1:1≤K) (hK:K≤200000000) (he:e≤200000000) (hg:g≤200000000) (hG:dvG K q (dvN p q) p) :
    ∃ d1 d2,RwR d1 (quoP p q)∧RwR d2 (remP p q)∧Qah G QdE [dp,dq]=some (.d (.tup [d1,d2])):=by
  rw [Qad (cf:=Qes) rfl]
  have lq:=hq.len
  unfold quoP remP
  by_cases hq0:q=[]
  · subst hq0
    rw [if_pos rfl,if_pos rfl]
    refine ⟨.z true,.z true,.nil,.nil, ?_⟩
    have e1:((0:Int)==0)=true:=rfl
    simp only [List.length_nil] at lq
    simp -implicitDefEqProofs (maxSteps:=9^8) only [Qes,toDs,lq,e1,go_sem,iv,bv,reduceCtorEq,↓reduceIte,Nat.reduceEqDiff]
  · rw [if_neg hq0,if_neg hq0]
    have hl:0<q.length:=List.length_pos_iff.2 hq0
    have e1:((q.length:Int)==0)=false:=Qcx (by omega)
    have hO:Qay (List.replicate (dvN p q) (0:Rat))=[]:=Qc4 (QaO _) Qit fun x=>by rw [QaB,Qk0];rfl
    obtain ⟨d1,d2,a1,a2,a3⟩:=QrE hq hl (QdN tq hq0) Hq' sq hK1 hK he hg (dvN p q) p (List.replicate (dvN p q) 0) (.z true) dp (by rw [hO];exact .nil) (by rw [trim_of tp];exact hp) (by omega) (by simp;unfold dvN;omega) (fun h=>by unfold dvN at h ⊢;omega) (by simp) (fun t ht=>by
      rw [List.getD_eq_getElem?_getD,List.getElem?_replicate,if_pos ht];rfl) (fun t ht=>QaW (by unfold dvN at ht;omega)) (fun x hx=>by rw [(List.mem_replicate.1 hx).2,Qic];omega) hG
    refine ⟨d1,d2,a1,a2, ?_⟩
    simp only [Qmq,QrZ,go_sem] at a3
    simp -implicitDefEqProofs (maxSteps:=9^8) only [Qes,toDs,lq,e1,a3,go_sem,iv,bv,reduceCtorEq,↓reduceIte,Nat.reduceEqDiff]
end
end Go.AM

