/- Part 8 of the proof: a small machine, its soundness against the model, and what the program's functions compute on it. -/
import Derived.Test.YthhdbchmjfdgmaaGreatM7
import Derived.Test.YthhdbchmjfdgmaaGreatM6
set_option linter.unusedVariables false
set_option linter.unusedSimpArgs false
/- Polynomials as lists: values, and that values tell them apart. -/
namespace Go.AM
open Go Go.RowKit

def sumR (f:Nat→Rat):Nat→Rat
 | 0=>0
 | n+1=>sumR f n+f n
theorem QgO {f g:Nat→Rat}:∀ n,(∀ k,k<n→f k=g k)→sumR f n=sumR g n
 | 0,_=>rfl
 | n+1,h=>by rw [sumR,sumR,QgO n (fun k hk=>h k (by omega)),h n (by omega)]
theorem QgF {f:Nat→Rat}:∀ n,(∀ k,k<n→f k=0)→sumR f n=0
 | 0,_=>rfl
 | n+1,h=>by rw [sumR,QgF n (fun k hk=>h k (by omega)),h n (by omega),Rat.add_zero]
theorem QhW (f:Nat→Rat):∀ n,sumR f (n+1)=f 0+sumR (fun i=>f (i+1)) n
 | 0=>by rw [sumR,sumR,sumR,Rat.zero_add,Rat.add_zero]
 | n+1=>by rw [sumR,QhW f n,sumR,Rat.add_assoc]
theorem QqB (f g:Nat→Rat):∀ n,sumR (fun k=>f k+g k) n=sumR f n+sumR g n
 | 0=>by rw [sumR,sumR,sumR,Rat.add_zero]
 | n+1=>by
  rw [sumR,sumR,sumR,QqB f g n]
  generalize sumR f n=a;generalize sumR g n=b;grind
theorem QnB (f:Nat→Rat) (c:Rat):∀ n,sumR (fun k=>f k*c) n=sumR f n*c
 | 0=>by rw [sumR,sumR,Rat.zero_mul]
 | n+1=>by rw [sumR,sumR,QnB f c n,Rat.add_mul]
theorem Qpc {f:Nat→Rat} {n:Nat}:∀ d,(∀ k,n≤k→k<n+d→f k=0)→sumR f (n+d)=sumR f n
 | 0,_=>rfl
 | d+1,h=>by
  show sumR f (n+d)+f (n+d)=_
  rw [Qpc d (fun k h1 h2=>h k h1 (by omega)),h (n+d) (by omega) (by omega),Rat.add_zero]
theorem Qm9 {f:Nat→Rat} {n m:Nat} (hm:n≤m) (h:∀ k,n≤k→f k=0):sumR f m=sumR f n:=by
 obtain ⟨d,rfl⟩:∃ d,m=n+d:=⟨m-n,by omega⟩
 exact Qpc d (fun k h1 _=>h k h1)

theorem Qdp {l:List Rat} {k:Nat} (h:l.length≤k):l.getD k 0=0:=by
 rw [List.getD_eq_getElem?_getD,List.getElem?_eq_none h];rfl
theorem getD_map (e:Nat→Rat) {n k:Nat} (h:k<n):((List.range n).map e).getD k 0=e k:=by
 rw [List.getD_eq_getElem?_getD,List.getElem?_map,List.getElem?_range h];rfl
theorem Qod (l:List Rat) (k:Nat):(QcF l).getD k 0=l.getD k 0:=by
 have hc:∀ n,n≤l.length→∀ k,cutR l n≤k→k<n→l.getD k 0=0:=by
  intro n
  induction n with
  | zero=>intro _ k _ h;omega
  | succ n ih =>
   intro hn k h1 h2
   rw [cutR] at h1
   split at h1
   ·rename_i h0
    by_cases hk:k=n
    ·rw [hk];exact h0
    ·exact ih (by omega) k h1 (by omega)
   ·omega
 have hl:=Qj2 l l.length
 by_cases h1:k<cutR l l.length
 ·rw [QcF,List.getD_eq_getElem?_getD,List.getElem?_take_of_lt h1,← List.getD_eq_getElem?_getD]
 ·rw [Qdp (by rw [Qf2];omega)]
  by_cases h2:k<l.length
  ·exact (hc l.length (Nat.le_refl _) k (by omega) h2).symm
  ·exact (Qdp (by omega)).symm
def Trm (l:List Rat):Prop:=∀ n,l.length=n+1→l.getD n 0≠0
theorem trm_nil:Trm []:=fun n h=>by simp at h
theorem QkP (l:List Rat):Trm (QcF l):=by
 have hc:∀ n,∀ m,cutR l n=m+1→l.getD m 0≠0:=by
  intro n
  induction n with
  | zero=>intro m h;simp [cutR] at h
  | succ n ih =>
   intro m h
   rw [cutR] at h
   split at h
   ·exact ih m h
   ·rename_i h0
    have:m=n:=by omega
    rw [this];exact h0
 intro n h
 rw [Qod]
 exact hc _ n (by rw [← Qf2];exact h)
theorem trm_ext {l m:List Rat} (hl:Trm l) (hm:Trm m) (h:∀ k,l.getD k 0=m.getD k 0):l=m:=by
 have hlen:l.length=m.length:=by
  rcases Nat.lt_trichotomy l.length m.length with h1 | h1 | h1
  ·obtain ⟨n,hn⟩:∃ n,m.length=n+1:=⟨m.length-1,by omega⟩
   exact absurd (by rw [← h n];exact Qdp (by omega)) (hm n hn)
  ·exact h1
  ·obtain ⟨n,hn⟩:∃ n,l.length=n+1:=⟨l.length-1,by omega⟩
   exact absurd (by rw [h n];exact Qdp (by omega)) (hl n hn)
 apply List.ext_getElem hlen
 intro i h1 h2
 have:=h i
 rw [List.getD_eq_getElem?_getD,List.getD_eq_getElem?_getD,List.getElem?_eq_getElem h1,List.getElem?_eq_getElem h2] at this
 exact this

theorem Qrd (a x:Rat):∀ l:List Rat,evR (l++[a]) x=evR l x+a*x^l.length
 | []=>by
  show evR [] x*x+a=evR [] x+a*x^0
  rw [Rat.pow_zero]
  have:evR [] x=0:=rfl
  rw [this];grind
 | b :: l=>by
  show evR (l++[a]) x*x+b=evR l x*x+b+a*x^(l.length+1)
  rw [Qrd a x l,Rat.pow_succ]
  generalize evR l x=v;generalize x^l.length=p;grind
theorem QqQ (x:Rat) (l:List Rat):evR l x=sumR (fun k=>l.getD k 0*x^k) l.length:=by
 have h:∀ n,n≤l.length→evR (l.take n) x=sumR (fun k=>l.getD k 0*x^k) n:=by
  intro n
  induction n with
  | zero=>intro _;rfl
  | succ n ih =>
   intro hn
   have e:l.take (n+1)=l.take n++[l.getD n 0]:=by
    rw [List.take_add_one]
    simp [List.getD,(by omega:n<l.length)]
   rw [e,Qrd,ih (by omega),sumR,List.length_take,Nat.min_eq_left (by omega)]
 have:=h l.length (Nat.le_refl _)
 rwa [List.take_length] at this
theorem QlC (x:Rat) {l:List Rat} {n:Nat} (h:l.length≤n):evR l x=sumR (fun k=>l.getD k 0*x^k) n:=by
 rw [QqQ]
 exact (Qm9 h (fun k hk=>by rw [Qdp hk,Rat.zero_mul])).symm
theorem Qm3 (l:List Rat) (x:Rat):evR (QcF l) x=evR l x:=by
 rw [QlC x (Qfw l),QqQ x l]
 exact QgO _ fun k _=>by rw [Qod]
theorem evR_map (e:Nat→Rat) (n:Nat) (x:Rat):evR (QcF ((List.range n).map e)) x=sumR (fun k=>e k*x^k) n:=by
 rw [Qm3,QlC x (l:=(List.range n).map e) (n:=n) (by simp)]
 exact QgO _ fun k hk=>by rw [getD_map e hk]
theorem Qfo (x:Rat):evR [] x=0:=rfl

/-! ### Dividing by x - r -/
def syn:List Rat→Rat→List Rat
 | [],_=>[]
 | [_],_=>[]
 | _ :: b :: l,r=>evR (b :: l) r :: syn (b :: l) r
theorem QmX:∀ (l:List Rat) (r:Rat),(syn l r).length=l.length-1
 | [],_=>rfl
 | [_],_=>rfl
 | a :: b :: l,r=>by rw [syn,List.length_cons,QmX (b :: l) r];simp
theorem evR_syn:∀ (l:List Rat) (r x:Rat),evR l x=evR l r+(x-r)*evR (syn l r) x
 | [],r,x=>by rw [syn,Qfo,Qfo];grind
 | [a],r,x=>by
  rw [syn,Qfo,QdI,QdI,Qfo,Qfo];grind
 | a :: b :: l,r,x=>by
  have ih:=evR_syn (b :: l) r x
  rw [syn,QdI a,QdI a,QdI (evR (b :: l) r)]
  generalize evR (b :: l) x=u at *
  generalize evR (b :: l) r=v at *
  generalize evR (syn (b :: l) r) x=w at *
  rw [ih];grind
theorem Qk1 {l:List Rat} (h:∀ q∈l,q=0) (x:Rat):evR l x=0:=by
 induction l with
 | nil=>rfl
 | cons a l ih =>
  rw [QdI,ih (fun q hq=>h q (List.mem_cons_of_mem _ hq)),h a (List.mem_cons_self ..)]
  grind
theorem QrK:∀ (l:List Rat) (r:Rat),(∀ q∈syn l r,q=0)→∀ q∈l.tail,q=0
 | [],_,_=>by simp
 | [_],_,_=>by simp
 | a :: b :: l,r,h=>by
  have h1:evR (b :: l) r=0:=h _ (by rw [syn];exact List.mem_cons_self ..)
  have h2:=QrK (b :: l) r (fun q hq=>h q (by rw [syn];exact List.mem_cons_of_mem _ hq))
  intro q hq
  rcases List.mem_cons.1 hq with rfl | hq
  ·have h3:evR l r=0:=Qk1 h2 r
   rw [QdI,h3] at h1
   grind
  ·exact h2 q hq
theorem Qrq:∀ (n:Nat) (l:List Rat) (c:Rat),l.length≤n→(∀ x,c<x→evR l x=0)→∀ q∈l,q=0
 | 0,l,c,hl,_=>by
  have:l=[]:=List.eq_nil_of_length_eq_zero (by omega)
  subst this;simp
 | n+1,l,c,hl,h=>by
  have hr:c<c+1:=by grind
  have h0:=h (c+1) hr
  have hs:∀ x,c+1<x→evR (syn l (c+1)) x=0:=fun x hx=>by
   have h1:=evR_syn l (c+1) x
   rw [h x (by grind),h0,Rat.zero_add] at h1
   rcases Rat.mul_eq_zero.1 h1.symm with h2 | h2
   ·exfalso;grind
   ·exact h2
  have hz:=QrK l (c+1) (Qrq n _ (c+1) (by rw [QmX];omega) hs)
  cases l with
  | nil=>simp
  | cons a l =>
   intro q hq
   have hz':∀ q∈l,q=0:=hz
   rcases List.mem_cons.1 hq with rfl | hq
   ·rw [QdI,Qk1 hz'] at h0
    grind
   ·exact hz' q hq
def difR (l m:List Rat):List Rat:=(List.range (max l.length m.length)).map fun k=>l.getD k 0-m.getD k 0
theorem evR_dif (l m:List Rat) (x:Rat):evR (difR l m) x=evR l x-evR m x:=by
 have e:=evR_map (fun k=>l.getD k 0-m.getD k 0) (max l.length m.length) x
 rw [Qm3] at e
 show evR (difR l m) x=_
 rw [show difR l m=(List.range (max l.length m.length)).map (fun k=>l.getD k 0-m.getD k 0) from rfl,e,QlC x (l:=l) (n:=max l.length m.length) (by omega),QlC x (l:=m) (n:=max l.length m.length) (by omega)]
 have h:∀ n,sumR (fun k=>(l.getD k 0-m.getD k 0)*x^k) n=sumR (fun k=>l.getD k 0*x^k) n-sumR (fun k=>m.getD k 0*x^k) n:=by
  intro n
  induction n with
  | zero=>rw [sumR,sumR,sumR,Rat.sub_self]
  | succ n ih =>
   rw [sumR,sumR,sumR,ih]
   generalize sumR (fun k=>l.getD k 0*x^k) n=u
   generalize sumR (fun k=>m.getD k 0*x^k) n=v
   generalize x^n=p
   grind
 exact h _
theorem coef_eq {l m:List Rat} {c:Rat} (h:∀ x,c<x→evR l x=evR m x) (k:Nat):l.getD k 0=m.getD k 0:=by
 have hz:=Qrq _ (difR l m) c (Nat.le_refl _) (fun x hx=>by rw [evR_dif,h x hx,Rat.sub_self])
 by_cases hk:k<max l.length m.length
 ·have h1:l.getD k 0-m.getD k 0=0:=hz _ (List.mem_map.2 ⟨k,List.mem_range.2 hk,rfl⟩)
  grind
 ·rw [Qdp (by omega),Qdp (by omega)]
theorem QnU {l m:List Rat} (hl:Trm l) (hm:Trm m) (h:∀ x,evR l x=evR m x):l=m :=
 trm_ext hl hm (coef_eq (c:=0) fun x _=>h x)

/-! ### Products -/
def conv (l m:List Rat) (k:Nat):Rat:=sumR (fun i=>l.getD i 0*m.getD (k-i) 0) (k+1)
def muP (l m:List Rat):List Rat:=QcF ((List.range (l.length+m.length-1)).map (conv l m))
theorem conv_nil (m:List Rat) (k:Nat):conv [] m k=0:=QgF _ fun i _=>by rw [Qdp (by simp),Rat.zero_mul]
theorem conv_zero (a:Rat) (l m:List Rat):conv (a :: l) m 0=a*m.getD 0 0:=by
 rw [conv,sumR,sumR,Rat.zero_add];rfl
theorem conv_succ (a:Rat) (l m:List Rat) (k:Nat):conv (a :: l) m (k+1)=a*m.getD (k+1) 0+conv l m k:=by
 rw [conv,QhW,conv]
 have e:sumR (fun i=>(a :: l).getD (i+1) 0*m.getD (k+1-(i+1)) 0) (k+1)=sumR (fun i=>l.getD i 0*m.getD (k-i) 0) (k+1) :=
  QgO _ fun i _=>by rw [List.getD_cons_succ,show k+1-(i+1)=k-i by omega]
 rw [e];rfl
theorem conv_out {l m:List Rat} {k:Nat} (h:l.length+m.length-1≤k):conv l m k=0:=by
  by_cases h0:l.length=0
  · exact QgF _ fun i _=>by rw [Qdp (by omega),Rat.zero_mul]
  · exact QgF       _ fun i hi => by
      by_cases h1:l.length≤i
      · rw [Qdp h1,Rat.zero_mul]
      · rw [Qdp (l:=m) (by omega),Rat.mul_zero]
theorem QqT (m:List Rat) (x:Rat):∀ (l:List Rat) (n:Nat),l.length+m.length≤n→sumR (fun k=>conv l m k*x^k) n=evR l x*evR m x
 | [],n,_=>by rw [Qfo,Rat.zero_mul];exact QgF _ fun k _=>by rw [conv_nil,Rat.zero_mul]
 | a :: l,0,h=>by simp at h
 | a :: l,n+1,h=>by
  have ih:=QqT m x l n (by simp at h;omega)
  rw [QhW,conv_zero]
  have e1:sumR (fun i=>conv (a :: l) m (i+1)*x^(i+1)) n=sumR (fun i=>m.getD (i+1) 0*x^(i+1)*a+conv l m i*x^i*x) n :=
   QgO _ fun i _=>by
    rw [conv_succ,Rat.pow_succ]
    generalize m.getD (i+1) 0=u;generalize conv l m i=v;generalize x^i=p;grind
  rw [e1,QqB,QnB (fun i=>m.getD (i+1) 0*x^(i+1)),QnB (fun i=>conv l m i*x^i),ih,QdI]
  have e2:evR m x=m.getD 0 0*x^0+sumR (fun i=>m.getD (i+1) 0*x^(i+1)) n:=by
   rw [QlC x (l:=m) (n:=n+1) (by simp at h;omega),QhW]
  rw [e2,Rat.pow_zero]
  generalize sumR (fun i=>m.getD (i+1) 0*x^(i+1)) n=s
  generalize m.getD 0 0=t
  generalize evR l x=u
  grind
theorem ev_mu (l m:List Rat) (x:Rat):evR (muP l m) x=evR l x*evR m x:=by
 rw [muP,evR_map,← QqT m x l (l.length+m.length) (Nat.le_refl _)]
 exact (Qm9 (by omega) (fun k hk=>by rw [conv_out hk,Rat.zero_mul])).symm
end Go.AM

/- Arrays of rationals; poly.at, made, Add, Scale, Derive. -/
namespace Go.AM
open Go Go.RowKit

theorem SzL.trim {K:Nat} {l:List Rat} (h:SzL K l):SzL K (QcF l):=fun q hq=>h q (List.mem_of_mem_take hq)
theorem SzL.map {K:Nat} {n:Nat} {e:Nat→Rat} (h:∀ k,k<n→sz (e k)≤K):SzL K ((List.range n).map e):=by
 intro q hq
 obtain ⟨k,hk,rfl⟩:=List.mem_map.1 hq
 exact h k (List.mem_range.1 hk)
def adP (l m:List Rat):List Rat:=QcF ((List.range (max l.length m.length)).map fun k=>l.getD k 0+m.getD k 0)
def sbP (l m:List Rat):List Rat:=QcF ((List.range (max l.length m.length)).map fun k=>l.getD k 0-m.getD k 0)
def scP (l:List Rat) (a:Rat):List Rat:=QcF ((List.range l.length).map fun k=>l.getD k 0*a)
def deP (l:List Rat):List Rat:=QcF ((List.range (l.length-1)).map fun k=>l.getD (k+1) 0*((k+1:Nat):Int))
theorem QnR (n:Nat) (e:Nat→Rat):(QcF ((List.range n).map e)).length≤n:=by
 have:=Qfw ((List.range n).map e)
 rwa [List.length_map,List.length_range] at this
variable [Its]

def Qnk (f:Nat) (caps:List D) (l:List Rat) (n i:Int):St:=mkS [(1,.d (.fn f caps)),(5,gA4 17 l),(8,ai n),(9,ai i)] (gH4 17 l)
def md_en (l:List Rat):St:=mkS [(5,gA4 17 l)] (gH4 17 l)
theorem md_go {f:Nat} {caps:List D} {l:List Rat} {n i:Nat} {q:Rat} (hi:i<n) (hn:n*64≤140737488351232) (hl:l.length=i) (g:Qah G f (iv (i:Int) :: caps)=some (.d (encR q))):X G QcX (Qnk f caps l n i)=some (.n,Qnk f caps (l++[q]) n ((i+1:Nat):Int)):=by
 have e1:decide ((i:Int)<(n:Int))=true:=lt_t (by omega)
 have e2:w64 ((i:Int)+1)=((i+1:Nat):Int):=by rw [Qae (by omega) (by omega)];rfl
 have d1:=dgone (digs q.num.natAbs)
 have d2:=dgone (dd q.den)
 have hb:(64≤bound)=True:=eq_true (by unfold bound;omega)
 have hb1:(1*64≤bound)=True:=eq_true (by unfold bound;omega)
 simp only [encR,iv] at g
 by_cases h0:l=[]
 ·subst h0
  simp -implicitDefEqProofs (maxSteps:=9^8) only [QcX,Qnk,Qhc,Qg1,Qaa,QkD,QkH,List.nil_append,List.cons_append,List.length_nil,List.length_cons,Nat.zero_add,List.map_cons,List.map_nil,rep1c,gA4_one,gH4_one,Qrg,srcS,src,one_b,allD,hb,hb1,d1,d2,go_sem,iv,bv,e1,e2,g,reduceCtorEq,↓reduceIte,Nat.reduceEqDiff]
 ·have n3:(cA l).length=l.length*4:=QiN l
  have n4:((l.length+1)*64≤bound)=True:=eq_true (by unfold bound;omega)
  simp -implicitDefEqProofs (maxSteps:=9^8) only [QcX,Qnk,Qkh h0,Qkl h0,QkD,QkH,List.nil_append,List.cons_append,List.length_nil,List.length_cons,Nat.zero_add,List.map_cons,List.map_nil,rep1c,cA_snoc,n3,n4,QbI,srcS,src,one_b,allD,d1,d2,go_sem,iv,bv,e1,e2,g,reduceCtorEq,↓reduceIte,Nat.reduceEqDiff]
theorem md_stop {f:Nat} {caps:List D} {l:List Rat} {n:Nat}:X G QcX (Qnk f caps l n n)=some (.x 0,md_en l):=by
 have e1:decide ((n:Int)<(n:Int))=false:=lt_f (by omega)
 by_cases h0:l=[]
 ·subst h0
  simp -implicitDefEqProofs (maxSteps:=9^8) only [QcX,Qnk,md_en,Qhc,Qg1,Qaa,go_sem,iv,bv,e1,reduceCtorEq,↓reduceIte,Nat.reduceEqDiff]
 ·simp -implicitDefEqProofs (maxSteps:=9^8) only [QcX,Qnk,md_en,Qkh h0,Qkl h0,QbI,go_sem,iv,bv,e1,reduceCtorEq,↓reduceIte,Nat.reduceEqDiff]
theorem md_loop {f:Nat} {caps:List D} {n:Nat} {e:Nat→Rat} (hn:n*64≤140737488351232) (hF:∀ k:Nat,k<n→Qah G f (iv (k:Int) :: caps)=some (.d (encR (e k)))):∀ (j i:Nat),i+j=n→X G (.loop QcX) (Qnk f caps ((List.range i).map e) n i)=some (.x 0,md_en ((List.range n).map e))
 | 0,i,h=>by
  have:i=n:=by omega
  subst this
  rw [Qag,md_stop];rfl
 | j+1,i,h=>by
  have g:=md_go (l:=(List.range i).map e) (n:=n) (i:=i) (q:=e i) (by omega) hn (by simp) (hF i (by omega))
  rw [Qag,g,Option.bind_some,if_pos rfl]
  have ih:=md_loop hn hF j (i+1) (by omega)
  rw [List.range_succ,List.map_append] at ih
  exact ih
theorem QlS       {f:Nat} {caps:List D} {m:Int} {n:Nat} {e:Nat→Rat} (hm:m.toNat=n) (hn:n*64≤140737488351232) (hF:∀ k:Nat,k<n→Qah   G f (iv (k:Int) :: caps)=some (.d (encR (e k)))) :
    ∃ d',RwR d' (QcF ((List.range n).map e))∧Qah G Qhb [iv m,.fn f caps]=some (.d d'):=by
  rw [Qad (cf:=Qjj) rfl]
  have hl:=md_loop hn hF n 0 (by omega)
  have ex:(if (0:Int)>m then (0:Int) else m)=(n:Int):=by split<;>omega
  have e0:List.map e (List.range 0)=[]:=rfl
  rw [e0] at hl
  have gl:((List.range n).map e).length*64≤140737488351232:=by rw [List.length_map,List.length_range];exact hn
  obtain ⟨d',hr,gT⟩:=Qf4 (dR_ok ((List.range n).map e)) gl
  refine ⟨d',hr, ?_⟩
  generalize (List.range n).map e=L at *
  simp only [Qnk,md_en,Qhc,Qg1,Qaa,go_sem,nc0] at hl
  by_cases h0:L=[]
  · subst h0
    have gT':Qah G QeG [.z true]=some (.d d'):=gT
    simp only [Qhc,Qg1,Qaa,go_sem] at hl
    simp -implicitDefEqProofs (maxSteps:=9^8) only [Qjj,QdG,Qf8,mxV,hl,gT',ex,Qaa,go_sem,iv,bv,reduceCtorEq,↓reduceIte,Nat.reduceEqDiff]
  · rw [dR,if_neg h0,rowR] at gT
    simp only [Qkh h0,Qkl h0,go_sem] at hl
    simp -implicitDefEqProofs (maxSteps:=9^8) only [Qjj,QdG,Qf8,mxV,hl,gT,ex,QjU,QbI,Qaa,go_sem,iv,bv,reduceCtorEq,↓reduceIte,Nat.reduceEqDiff]

theorem Qpm {d:D} {l:List Rat} {a:Rat} (h1:RwR d l) {K:Nat} (s1:SzL K l) (sa:sz a≤K) (hK1:1≤K) (hK:K≤10000000000) {k:Nat} (hk:k<l.length):Qah G Qgt [iv (k:Int),.rp [d],.rp [.v (.bool (decide (a.num<0))),dg (digs a.num.natAbs),.v (.bool false),dg (dd a.den)]]=some (.d (encR (l.getD k 0*a))):=by
 rw [Qad (cf:=QhB) rfl]
 have b1:=s1.getD hK1 k
 have e3:=h1.ixa hk
 have e4:=fun h=>ldR h l hk
 have g:=Qec (a:=l.getD k 0) (b:=a) (by omega) (by omega)
 generalize l.getD k 0*a=r at *
 generalize l.getD k 0=p at *
 generalize cRs (l.drop k)=cs at *
 simp only [encR,iv] at e4 g
 have e5:∀ (h:Hp) (x y z t:D),Qco h (some 4) (.d (.rp [x,y,z,t]))=some (.d (.agg [x,y,z,t])):=fun h x y z t=>rfl
 simp -implicitDefEqProofs (maxSteps:=9^8) only [QhB,encR,Qoj,e3,e4,e5,go_sem,Qac,Qab,iv,bv,g,reduceCtorEq,↓reduceIte,Nat.reduceEqDiff]
theorem Qn7 {d:D} {l:List Rat} {a:Rat} (h1:RwR d l) {K:Nat} (s1:SzL K l) (sa:sz a≤K) (hK1:1≤K) (hK:K≤10000000000) (n1:l.length≤1000000000):∃ d',RwR d' (scP l a)∧Qah G Qkc [d,encR a]=some (.d d'):=by
 rw [Qad (cf:=QjT) rfl]
 obtain ⟨d',hr,g⟩:=QlS (f:=Qgt) (caps:=[.rp [d],.rp [.v (.bool (decide (a.num<0))),dg (digs a.num.natAbs),.v (.bool false),dg (dd a.den)]]) (m:=(l.length:Int)) (n:=l.length) (by omega) (by omega) (fun k hk=>Qpm h1 s1 sa hK1 hK hk)
 refine ⟨d',hr, ?_⟩
 have ll:=h1.len
 clear hr
 have c1:QaA (.d d)=[.d d]:=by rcases h1 with ⟨rfl,_⟩ | rfl<;>rfl
 have c3:A.one (.d d)=true:=by rcases h1 with ⟨rfl,_⟩ | rfl<;>rfl
 simp only [iv] at g
 simp -implicitDefEqProofs (maxSteps:=9^8) only [QjT,encR,snap,Qdq,allD,c1,c3,List.getElem?_cons_zero,go_sem,Qac,Qab,iv,bv,ll,g,reduceCtorEq,↓reduceIte,Nat.reduceEqDiff]

theorem Qou {d:D} {l:List Rat} (h1:RwR d l) {K:Nat} (s1:SzL K l) (hK1:1≤K) (hK:K≤10000000000) (n1:l.length≤1000000000) {k:Nat} (hk:k<l.length-1):Qah G QfY [iv (k:Int),.rp [d]]=some (.d (encR (l.getD (k+1) 0*((k+1:Nat):Int)))):=by
 rw [Qad (cf:=Qg5) rfl]
 have b1:=s1.getD hK1 (k+1)
 have hk':k+1<l.length:=by omega
 have e3:=h1.ixa hk'
 have e4:=fun h=>ldR h l hk'
 have e1:w64 ((k:Int)+1)=((k+1:Nat):Int):=by rw [Qae (by omega) (by omega)];rfl
 have g0:=Qmu (n:=((k+1:Nat):Int)) (d:=1) ⟨by omega,by omega⟩ ⟨by omega,by omega⟩
 rw [QfG] at g0
 have s2:=sz_int (n:=((k+1:Nat):Int)) ⟨by omega,by omega⟩
 have g:=Qec (a:=l.getD (k+1) 0) (b:=(((k+1:Nat):Int):Rat)) (by omega) (by omega)
 generalize l.getD (k+1) 0*(((k+1:Nat):Int):Rat)=r at *
 generalize l.getD (k+1) 0=p at *
 generalize (((k+1:Nat):Int):Rat)=q at *
 generalize cRs (l.drop (k+1))=cs at *
 generalize ((k+1:Nat):Int)=k1 at *
 simp only [encR,iv] at e4 g0 g
 simp -implicitDefEqProofs (maxSteps:=9^8) only [Qg5,encR,Qoj,e1,e3,e4,go_sem,Qac,Qab,iv,bv,g0,g,reduceCtorEq,↓reduceIte,Nat.reduceEqDiff]
theorem Qnl {d:D} {l:List Rat} (h1:RwR d l) {K:Nat} (s1:SzL K l) (hK1:1≤K) (hK:K≤10000000000) (n1:l.length≤1000000000):∃ d',RwR d' (deP l)∧Qah G Qjg [d]=some (.d d'):=by
 rw [Qad (cf:=Qiv) rfl]
 obtain ⟨z,hz⟩:∃ z,(l.length:Int)-1=z:=⟨_,rfl⟩
 have e1:w64 ((l.length:Int)-1)=z:=by rw [Qae (by omega) (by omega),hz]
 obtain ⟨d',hr,g⟩:=QlS (f:=QfY) (caps:=[.rp [d]]) (m:=z) (n:=l.length-1) (by omega) (by omega) (fun k hk=>Qou h1 s1 hK1 hK n1 hk)
 refine ⟨d',hr, ?_⟩
 have ll:=h1.len
 clear hr
 have c1:QaA (.d d)=[.d d]:=by rcases h1 with ⟨rfl,_⟩ | rfl<;>rfl
 have c3:A.one (.d d)=true:=by rcases h1 with ⟨rfl,_⟩ | rfl<;>rfl
 simp only [iv] at g
 simp -implicitDefEqProofs (maxSteps:=9^8) only [Qiv,encR,snap,Qdq,allD,c1,c3,List.getElem?_cons_zero,go_sem,Qac,Qab,iv,bv,ll,e1,g,reduceCtorEq,↓reduceIte,Nat.reduceEqDiff]
end Go.AM

/- Polynomials: the values of sums, products with numbers, derivatives, shifts. -/
namespace Go.AM
open Go Go.RowKit

theorem Qn3 (l m:List Rat):Trm (muP l m):=QkP _
theorem len_sc (l:List Rat) (a:Rat):(scP l a).length≤l.length:=QnR _ _
theorem len_mu (l m:List Rat):(muP l m).length≤l.length+m.length-1:=QnR _ _
theorem len_de (l:List Rat):(deP l).length≤l.length-1:=QnR _ _
theorem sz_sumR {f:Nat→Rat} {K:Nat}:∀ n,(∀ k,k<n→sz (f k)≤K)→sz (sumR f n)≤n*(K+1)+1
 | 0,_=>by rw [sumR,QpN];omega
 | n+1,h=>by
  have h1:=sz_sumR n (fun k hk=>h k (by omega))
  have h2:=h n (by omega)
  have h3:=sz_add (a:=sumR f n) (b:=f n)
  have h4:(n+1)*(K+1)=n*(K+1)+(K+1):=Nat.succ_mul n (K+1)
  rw [sumR];omega
theorem Qrh {l m:List Rat} {K:Nat} (h1:SzL K l) (h2:SzL K m) (hK:1≤K) (i k:Nat):sz (l.getD i 0*m.getD (k-i) 0)≤2*K:=by
 have:=h1.getD hK i;have:=h2.getD hK (k-i)
 have:=Qma (a:=l.getD i 0) (b:=m.getD (k-i) 0);omega
/-! ### The derivative -/
/-! ### Shifts -/
def tay:Nat→List Rat→Rat→List Rat
 | 0,_,_=>[]
 | n+1,l,a=>evR l a :: tay n (syn l a) a
def shP (l:List Rat) (a:Rat):List Rat:=QcF (tay l.length l a)
theorem Qnc (a:Rat):∀ (n:Nat) (l:List Rat),(tay n l a).length=n
 | 0,_=>rfl
 | n+1,l=>by rw [tay,List.length_cons,Qnc a n]
end Go.AM

/- poly.Mul. -/
namespace Go.AM
open Go Go.RowKit

theorem RwR.cell {d:D} {l:List Rat} (h:RwR d l):QaA (.d d)=[.d d]:=by rcases h with ⟨rfl,_⟩ | rfl<;>rfl
theorem RwR.onec {d:D} {l:List Rat} (h:RwR d l):A.one (.d d)=true:=by rcases h with ⟨rfl,_⟩ | rfl<;>rfl
section
variable (p q:List Rat) (k:Nat)
def mu_f (i:Nat):Rat:=p.getD i 0*q.getD (k-i) 0
def QkA:Nat:=k+1-q.length
def QjS:Nat:=max (QkA q k) (min (k+1) p.length)
theorem mu_low:sumR (mu_f p q k) (QkA q k)=0:=QgF _ fun i hi=>by
 unfold mu_f;unfold QkA at hi
 rw [Qdp (l:=q) (by omega),Rat.mul_zero]
theorem mu_high:sumR (mu_f p q k) (QjS p q k)=conv p q k:=by
 by_cases h:min (k+1) p.length=k+1
 ·have:QjS p q k=k+1:=by unfold QjS QkA;omega
  rw [this];rfl
 ·have h1:p.length≤k:=by omega
  have h2:p.length≤QjS p q k:=by unfold QjS;omega
  have hz:∀ i,p.length≤i→mu_f p q k i=0:=fun i hi=>by unfold mu_f;rw [Qdp hi,Rat.zero_mul]
  rw [Qm9 h2 hz]
  exact (Qm9 (f:=mu_f p q k) (n:=p.length) (m:=k+1) (by omega) hz).symm
end
def QoH (dp dq:D) (k i:Int) (s:Rat):St:=mkS [(0,ai k),(1,.d (.rp [dq])),(2,.d (.rp [dp])),(4,.ptr [4] 0),(5,.ptr [5] 0),(6,ai i)] [([4],Ql2),([5],boxR s)]
def m1_en (s:Rat):St:=mkS [(4,.ptr [4] 0),(5,.ptr [5] 0)] [([4],Ql2),([5],boxR s)]
variable [Its]

section
variable {dp dq:D} {p q:List Rat} {k:Nat} {K:Nat}
theorem m1_go (hp:RwR dp p) (hq:RwR dq q) (sp:SzL K p) (sq:SzL K q) (hK1:1≤K) (hb:(p.length+q.length)*(2*K+1)≤10000000000) {i:Nat} (h1:QkA   q k≤i) (h2:i<QjS   p q k) :
    X G QdN (QoH dp dq k i (sumR (mu_f p q k) i))=some (.n,QoH dp dq k ((i+1:Nat):Int) (sumR (mu_f p q k) (i+1))):=by
  have hi1:i≤k:=by unfold QjS at h2;omega
  have hi2:i<p.length:=by unfold QjS at h2;omega
  have hi3:k-i<q.length:=by unfold QkA at h1;omega
  have hL:p.length+q.length≤10000000000:=Nat.le_trans (Nat.le_mul_of_pos_right _ (by omega)) hb
  obtain ⟨z,hz⟩:∃ z,(p.length:Int)-1=z:=⟨_,rfl⟩
  have e0:w64 ((p.length:Int)-1)=z:=by rw [Qae (by omega) (by omega),hz]
  obtain ⟨mn,hmn⟩:∃ mn,(if z<(k:Int) then z else (k:Int))=mn:=⟨_,rfl⟩
  have e1:decide ((i:Int)≤mn)=true:=le_t (by rw [← hmn];split<;>omega)
  have e2:w64 ((k:Int)-(i:Int))=((k-i:Nat):Int):=by rw [Qae (by omega) (by omega)];omega
  have e3:w64 ((i:Int)+1)=((i+1:Nat):Int):=by rw [Qae (by omega) (by omega)];rfl
  have lp:=hp.len
  have x1:=hp.ixa hi2
  have y1:=fun h=>ldR h p hi2
  have x2:=hq.ixa hi3
  have y2:=fun h=>ldR h q hi3
  have s1:=sp.getD hK1 i
  have s2:=sq.getD hK1 (k-i)
  have hKb:2*K+1≤(p.length+q.length)*(2*K+1):=Nat.le_mul_of_pos_left _ (by omega)
  have g1:=Qec (a:=p.getD i 0) (b:=q.getD (k-i) 0) (by omega) (by omega)
  have s3:=sz_sumR (f:=mu_f p q k) (K:=2*K) i (fun j _=>Qrh sp sq hK1 j k)
  have s4:i*(2*K+1)≤(p.length+q.length)*(2*K+1):=Nat.mul_le_mul_right _ (by omega)
  have s5:=Qrh sp sq hK1 i k
  have g2:=Qg4 (a:=sumR (mu_f p q k) i) (b:=p.getD i 0*q.getD (k-i) 0) (by omega) (by omega)
  have e4:sumR (mu_f p q k) i+p.getD i 0*q.getD (k-i) 0=sumR (mu_f p q k) (i+1):=rfl
  rw [e4] at g2
  clear e4 s1 s2 s3 s4 s5 hKb hi1 hi2 hi3 h1 h2 hb sp sq
  generalize sumR (mu_f p q k) (i+1)=r2 at *
  generalize sumR (mu_f p q k) i=r1 at *
  generalize p.getD i 0*q.getD (k-i) 0=t at *
  generalize p.getD i 0=u at *
  generalize q.getD (k-i) 0=v at *
  generalize cRs (p.drop i)=c1 at *
  generalize cRs (q.drop (k-i))=c2 at *
  simp only [encR] at y1 y2 g1 g2
  simp -implicitDefEqProofs (maxSteps:=9^8) only [QdN,QoH,boxR,Ql2,Qf8,mnV,Qoj,lp,x1,x2,y1,y2,hmn,go_sem,Qac,Qab,iv,bv,e0,e1,e2,e3,g1,g2,reduceCtorEq,↓reduceIte,Nat.reduceEqDiff]
theorem m1_stop (hp:RwR dp p) (hL:p.length≤10000000000) {i:Nat} {s:Rat} (h2:min (k+1) p.length≤i):X G QdN (QoH dp dq k i s)=some (.x 0,m1_en s):=by
 obtain ⟨z,hz⟩:∃ z,(p.length:Int)-1=z:=⟨_,rfl⟩
 have e0:w64 ((p.length:Int)-1)=z:=by rw [Qae (by omega) (by omega),hz]
 obtain ⟨mn,hmn⟩:∃ mn,(if z<(k:Int) then z else (k:Int))=mn:=⟨_,rfl⟩
 have e1:decide ((i:Int)≤mn)=false:=le_f (by rw [← hmn];split<;>omega)
 have lp:=hp.len
 simp -implicitDefEqProofs (maxSteps:=9^8) only [QdN,QoH,m1_en,boxR,Ql2,Qf8,mnV,Qoj,lp,hmn,go_sem,Qac,Qab,iv,bv,e0,e1,reduceCtorEq,↓reduceIte,Nat.reduceEqDiff]
theorem m1_loop (hp:RwR dp p) (hq:RwR dq q) (sp:SzL K p) (sq:SzL K q) (hK1:1≤K) (hb:(p.length+q.length)*(2*K+1)≤10000000000):∀ (j i:Nat),i+j=QjS   p q k→QkA   q k≤i →
    X G (.loop QdN) (QoH dp dq k i (sumR (mu_f p q k) i))=some (.x 0,m1_en (conv p q k))
  | 0,i,h,h1=>by
    have hL:p.length+q.length≤10000000000:=Nat.le_trans (Nat.le_mul_of_pos_right _ (by omega)) hb
    have:i=QjS p q k:=by omega
    subst this
    rw [Qag,m1_stop hp (by omega) (by unfold QjS;omega),mu_high];rfl
  | j+1,i,h,h1=>by
    rw [Qag,m1_go hp hq sp sq hK1 hb h1 (by omega),Option.bind_some,if_pos rfl]
    exact m1_loop hp hq sp sq hK1 hb j (i+1) (by omega) (by omega)
theorem Mul1_spec (hp:RwR dp p) (hq:RwR dq q) (sp:SzL K p) (sq:SzL K q) (hK1:1≤K) (hb:(p.length+q.length)*(2*K+1)≤10000000000) (hk:k≤10000000000):Qah G QhA [iv (k:Int),.rp [dq],.rp [dp]]=some (.d (encR (conv p q k))):=by
 rw [Qad (cf:=Qjy) rfl]
 have hL:p.length+q.length≤10000000000:=Nat.le_trans (Nat.le_mul_of_pos_right _ (by omega)) hb
 have hl:=m1_loop (dp:=dp) (dq:=dq) (k:=k) hp hq sp sq hK1 hb (QjS p q k-QkA q k) (QkA q k) (by unfold QjS;omega) (Nat.le_refl _)
 rw [mu_low] at hl
 obtain ⟨z,hz⟩:∃ z,(k:Int)-(q.length:Int)=z:=⟨_,rfl⟩
 obtain ⟨z1,hz1⟩:∃ z1,z+1=z1:=⟨_,rfl⟩
 have e0:w64 ((k:Int)-(q.length:Int))=z:=by rw [Qae (by omega) (by omega),hz]
 have e1:w64 (z+1)=z1:=by rw [Qae (by omega) (by omega),hz1]
 have e2:(if z1>(0:Int) then z1 else (0:Int))=((QkA q k:Nat):Int):=by unfold QkA;split<;>omega
 have lq:=hq.len
 have e5:boxR 0=Ql2:=by
  have ez:decide ((0:Rat).num<0)=false:=rfl
  have ez2:dg (digs (0:Rat).num.natAbs)=.z true:=by rw [Rat.zero_num,show (0:Int).natAbs=0 from rfl,Qav];rfl
  have ez3:dg (dd (0:Rat).den)=.z true:=rfl
  rw [boxR,ez,ez2,ez3];rfl
 rw [QoH,e5] at hl
 clear e5
 generalize conv p q k=r at *
 generalize ((QkA q k:Nat):Int)=lo at *
 simp only [QoH,m1_en,boxR,Ql2,go_sem] at hl
 simp -implicitDefEqProofs (maxSteps:=9^8) only [Qjy,Qf8,mxV,Qoj,hl,lq,e0,e1,e2,encR,go_sem,Qac,Qab,iv,bv,reduceCtorEq,↓reduceIte,Nat.reduceEqDiff]
theorem Qmd (hp:RwR dp p) (hq:RwR dq q) (sp:SzL K p) (sq:SzL K q) (hK1:1≤K) (hb:(p.length+q.length)*(2*K+1)≤10000000000):∃ d',RwR d' (muP p q)∧Qah G QjL [dp,dq]=some (.d d'):=by
 rw [Qad (cf:=Qne) rfl]
 have hL:p.length+q.length≤10000000000:=Nat.le_trans (Nat.le_mul_of_pos_right _ (by omega)) hb
 obtain ⟨z,hz⟩:∃ z,(p.length:Int)+(q.length:Int)=z:=⟨_,rfl⟩
 obtain ⟨z1,hz1⟩:∃ z1,z-1=z1:=⟨_,rfl⟩
 have e0:w64 ((p.length:Int)+(q.length:Int))=z:=by rw [Qae (by omega) (by omega),hz]
 have e1:w64 (z-1)=z1:=by rw [Qae (by omega) (by omega),hz1]
 obtain ⟨d',hr,g⟩:=QlS (f:=QhA) (caps:=[.rp [dq],.rp [dp]]) (m:=z1) (n:=p.length+q.length-1) (by omega) (by omega) (fun k hk=>Mul1_spec (k:=k) hp hq sp sq hK1 hb (by omega))
 refine ⟨d',hr, ?_⟩
 have ll:=hp.len
 have ll2:=hq.len
 have c1:=hp.cell
 have c2:=hq.cell
 have c3:=hp.onec
 have c4:=hq.onec
 clear hr
 simp only [iv] at g
 simp -implicitDefEqProofs (maxSteps:=9^8) only [Qne,snap,Qdq,allD,c1,c2,c3,c4,List.getElem?_cons_zero,go_sem,Qac,Qab,iv,bv,ll,ll2,e0,e1,g,reduceCtorEq,↓reduceIte,Nat.reduceEqDiff]
end
end Go.AM

/- How great the coefficients are: a common denominator and a bound of the numerators. -/
namespace Go.AM
open Go Go.RowKit

def BB:Nat:=1000000000
theorem BB_pos (n:Nat):0<BB^n:=Nat.pow_pos (by decide)
theorem QhE {n m:Nat} (h:n≤m):BB^n≤BB^m:=Nat.pow_le_pow_right (by decide) h
def cN (n:Nat):Rat:=((n:Int):Rat)
theorem cN_mul (n m:Nat):cN (n*m)=cN n*cN m:=by unfold cN;rw [Int.natCast_mul,Rat.intCast_mul]
theorem cN_ne {n:Nat} (h:0<n):cN n≠0:=by
 unfold cN
 intro h0
 have h1:((n:Int):Rat)=((0:Int):Rat):=h0
 rw [Rat.intCast_inj] at h1
 omega
def Hq (D X:Nat) (q:Rat):Prop:=∃ m:Int,q*cN D=(m:Rat)∧m.natAbs≤X
theorem Hq.zero (D X:Nat):Hq D X 0:=⟨0,by rw [Rat.zero_mul];rfl,by simp⟩
theorem Hq.le {D X Y:Nat} {q:Rat} (h:Hq D X q) (hX:X≤Y):Hq D Y q:=by
 obtain ⟨m,h1,h2⟩:=h
 exact ⟨m,h1,by omega⟩
theorem Hq.add {D X Y:Nat} {q p:Rat} (h:Hq D X q) (h':Hq D Y p):Hq D (X+Y) (q+p):=by
 obtain ⟨m,h1,h2⟩:=h
 obtain ⟨n,h3,h4⟩:=h'
 exact ⟨m+n,by rw [Rat.add_mul,h1,h3,Rat.intCast_add],by omega⟩
theorem Hq.neg {D X:Nat} {q:Rat} (h:Hq D X q):Hq D X (-q):=by
 obtain ⟨m,h1,h2⟩:=h
 exact ⟨-m,by rw [Rat.neg_mul,h1,Rat.intCast_neg],by omega⟩
theorem Hq.sub {D X Y:Nat} {q p:Rat} (h:Hq D X q) (h':Hq D Y p):Hq D (X+Y) (q-p):=by
 rw [Rat.sub_eq_add_neg];exact h.add h'.neg
theorem Hq.mul {D E X Y:Nat} {q p:Rat} (h:Hq D X q) (h':Hq E Y p):Hq (D*E) (X*Y) (q*p):=by
 obtain ⟨m,h1,h2⟩:=h
 obtain ⟨n,h3,h4⟩:=h'
 refine ⟨m*n, ?_,by rw [Int.natAbs_mul];exact Nat.mul_le_mul h2 h4⟩
 rw [cN_mul,Rat.intCast_mul,← h1,← h3]
 generalize cN D=u;generalize cN E=v;grind
theorem Hq.lift {D X:Nat} {q:Rat} (h:Hq D X q) (E:Nat):Hq (D*E) (X*E) q:=by
 obtain ⟨m,h1,h2⟩:=h
 refine ⟨m*E, ?_,by rw [Int.natAbs_mul];exact Nat.mul_le_mul h2 (by omega)⟩
 rw [cN_mul,Rat.intCast_mul,← h1,Rat.mul_assoc];rfl
theorem Hq.lift' {D X:Nat} {q:Rat} (h:Hq D X q) (E:Nat):Hq (E*D) (E*X) q:=by
 rw [Nat.mul_comm E,Nat.mul_comm E];exact h.lift E
theorem Hq.sum {D X:Nat} {f:Nat→Rat}:∀ n,(∀ i,i<n→Hq D X (f i))→Hq D (n*X) (sumR f n)
 | 0,_=>by rw [sumR,Nat.zero_mul];exact Hq.zero D 0
 | n+1,h=>by
  rw [sumR,Nat.succ_mul]
  exact (Hq.sum n (fun i hi=>h i (by omega))).add (h n (by omega))
theorem Hq.int (n:Int):Hq 1 n.natAbs (n:Rat):=⟨n,Rat.mul_one _,Nat.le_refl _⟩
theorem Hq.div {n d:Int} (hd:0<d):Hq d.natAbs n.natAbs (Rat.divInt n d):=by
 refine ⟨n, ?_,Nat.le_refl _⟩
 have e:cN d.natAbs=(d:Rat):=by unfold cN;rw [Int.natAbs_of_nonneg (by omega)]
 have h0:(d:Rat)≠0:=by
  intro h0
  have h1:(d:Rat)=((0:Int):Rat):=h0
  rw [Rat.intCast_inj] at h1;omega
 rw [e,Rat.divInt_eq_div,Rat.div_def,Rat.mul_assoc,Rat.inv_mul_cancel _ h0,Rat.mul_one]
theorem Hq.sz {D X d h:Nat} {q:Rat} (hD:0<D) (hDd:D≤BB^d) (hX:X≤BB^h) (H:Hq D X q):sz q≤max d h+1:=by
 obtain ⟨m,h1,h2⟩:=H
 have e:q=Rat.divInt m (D:Int):=by
  rw [Rat.divInt_eq_div,Rat.div_def,← h1,Rat.mul_assoc]
  show q=q*(cN D*(cN D)⁻¹)
  rw [Rat.mul_inv_cancel _ (cN_ne hD),Rat.mul_one]
 rw [e]
 have hb:∀ n,BB^n<1000000000^(n+1):=fun n=>by
  rw [Nat.pow_succ]
  have:=BB_pos n
  show BB^n<BB^n*1000000000
  omega
 refine QfR (by omega) (Nat.le_trans (QoQ (k:=h+1) ?_) (by omega)) (Nat.le_trans (QoQ (k:=d+1) ?_) (by omega))
 ·exact Nat.lt_of_le_of_lt (Nat.le_trans h2 hX) (hb h)
 ·exact Nat.lt_of_le_of_lt (by rw [Int.natAbs_natCast];exact hDd) (hb d)

def HL (d h:Nat) (l:List Rat):Prop:=∃ D:Nat,0<D∧D≤BB^d∧∀ q∈l,Hq D (BB^h) q
def H1 (d h:Nat) (q:Rat):Prop:=∃ D:Nat,0<D∧D≤BB^d∧Hq D (BB^h) q
theorem HL.sz {d h:Nat} {l:List Rat} (H:HL d h l):SzL (max d h+1) l:=by
 obtain ⟨D,h1,h2,h3⟩:=H
 exact fun q hq=>(h3 q hq).sz h1 h2 (Nat.le_refl _)
theorem H1.sz {d h:Nat} {q:Rat} (H:H1 d h q):sz q≤max d h+1:=by
 obtain ⟨D,h1,h2,h3⟩:=H
 exact h3.sz h1 h2 (Nat.le_refl _)
theorem HL.mono {d h d' h':Nat} {l:List Rat} (H:HL d h l) (hd:d≤d') (hh:h≤h'):HL d' h' l:=by
 obtain ⟨D,h1,h2,h3⟩:=H
 exact ⟨D,h1,Nat.le_trans h2 (QhE hd),fun q hq=>(h3 q hq).le (QhE hh)⟩
theorem HL.nil (d h:Nat):HL d h []:=⟨1,by omega,BB_pos d,fun q hq=>by simp at hq⟩
theorem HL.trim {d h:Nat} {l:List Rat} (H:HL d h l):HL d h (QcF l):=by
 obtain ⟨D,h1,h2,h3⟩:=H
 exact ⟨D,h1,h2,fun q hq=>h3 q (List.mem_of_mem_take hq)⟩
theorem HL.one {d h:Nat} {q:Rat} (H:H1 d h q):HL d h [q]:=by
 obtain ⟨D,h1,h2,h3⟩:=H
 exact ⟨D,h1,h2,fun p hp=>by rw [List.mem_singleton.1 hp];exact h3⟩
theorem Hq.getD {D X:Nat} {l:List Rat} (H:∀ q∈l,Hq D X q) (k:Nat):Hq D X (l.getD k 0):=by
 by_cases hk:k<l.length
 ·have:l.getD k 0=l[k]:=by rw [List.getD_eq_getElem?_getD,List.getElem?_eq_getElem hk];rfl
  rw [this];exact H _ (List.getElem_mem hk)
 ·rw [Qdp (by omega)];exact Hq.zero D X
theorem HL.getD {d h:Nat} {l:List Rat} (H:HL d h l) (k:Nat):H1 d h (l.getD k 0):=by
 obtain ⟨D,h1,h2,h3⟩:=H
 exact ⟨D,h1,h2,Hq.getD h3 k⟩
theorem HL.made {D X n:Nat} {e:Nat→Rat} {d h:Nat} (hD:0<D) (hd:D≤BB^d) (hX:X≤BB^h) (H:∀ k,k<n→Hq D X (e k)):HL d h (QcF ((List.range n).map e)) :=
 HL.trim ⟨D,hD,hd,fun q hq=>by
  obtain ⟨k,hk,rfl⟩:=List.mem_map.1 hq
  exact (H k (List.mem_range.1 hk)).le hX⟩
theorem two_BB {a b n:Nat} (h1:a≤BB^n) (h2:b≤BB^n):a+b≤BB^(n+1):=by
 rw [Nat.pow_succ]
 have:BB^n*2≤BB^n*BB:=Nat.mul_le_mul_left _ (by decide)
 omega
theorem QgN {a b n m:Nat} (h1:a≤BB^n) (h2:b≤BB^m):a*b≤BB^(n+m):=by
 rw [Nat.pow_add];exact Nat.mul_le_mul h1 h2
theorem HL.ad {d1 h1 d2 h2:Nat} {l m:List Rat} (H:HL d1 h1 l) (H':HL d2 h2 m):HL (d1+d2) (max (h1+d2) (h2+d1)+1) (adP l m):=by
 obtain ⟨D,a1,a2,a3⟩:=H
 obtain ⟨E,b1,b2,b3⟩:=H'
 refine HL.made (D:=D*E) (X:=BB^h1*E+D*BB^h2) (Nat.mul_pos a1 b1) (QgN a2 b2) (two_BB ?_ ?_) (fun k _=>((Hq.getD a3 k).lift E).add ((Hq.getD b3 k).lift' D))
 ·exact Nat.le_trans (QgN (Nat.le_refl _) b2) (QhE (by omega))
 ·exact Nat.le_trans (QgN a2 (Nat.le_refl _)) (QhE (by omega))
theorem HL.sb {d1 h1 d2 h2:Nat} {l m:List Rat} (H:HL d1 h1 l) (H':HL d2 h2 m):HL (d1+d2) (max (h1+d2) (h2+d1)+1) (sbP l m):=by
 obtain ⟨D,a1,a2,a3⟩:=H
 obtain ⟨E,b1,b2,b3⟩:=H'
 refine HL.made (D:=D*E) (X:=BB^h1*E+D*BB^h2) (Nat.mul_pos a1 b1) (QgN a2 b2) (two_BB ?_ ?_) (fun k _=>((Hq.getD a3 k).lift E).sub ((Hq.getD b3 k).lift' D))
 ·exact Nat.le_trans (QgN (Nat.le_refl _) b2) (QhE (by omega))
 ·exact Nat.le_trans (QgN a2 (Nat.le_refl _)) (QhE (by omega))
theorem HL.mu {d1 h1 d2 h2:Nat} {l m:List Rat} (H:HL d1 h1 l) (H':HL d2 h2 m) (hn:l.length+m.length≤BB):HL (d1+d2) (h1+h2+1) (muP l m):=by
 obtain ⟨D,a1,a2,a3⟩:=H
 obtain ⟨E,b1,b2,b3⟩:=H'
 refine HL.made (D:=D*E) (X:=(l.length+m.length)*(BB^h1*BB^h2)) (Nat.mul_pos a1 b1) (QgN a2 b2) ?_ (fun k hk=>?_)
 ·rw [Nat.pow_succ,Nat.pow_add,Nat.mul_comm]
  exact Nat.mul_le_mul_left _ hn
 ·exact (Hq.sum (k+1) (fun i _=>(Hq.getD a3 i).mul (Hq.getD b3 (k-i)))).le (Nat.mul_le_mul_right _ (by omega))
theorem HL.de {d h:Nat} {l:List Rat} (H:HL d h l) (hn:l.length≤BB):HL d (h+1) (deP l):=by
 obtain ⟨D,a1,a2,a3⟩:=H
 refine HL.made (D:=D*1) (X:=BB^h*BB) (by omega) (by omega) (Nat.le_refl _) (fun k hk=>?_)
 refine (((Hq.getD a3 (k+1)).mul (Hq.int ((k+1:Nat):Int)))).le (Nat.mul_le_mul_left _ ?_)
 rw [Int.natAbs_natCast];omega
theorem Hq.ev {D X E Y:Nat} {x:Rat} (hx:Hq E Y x) (hE:0<E):∀ {l:List Rat},(∀ q∈l,Hq D X q)→Hq (D*E^l.length) (X*(E+Y)^l.length) (evR l x)
 | [],_=>by rw [Qfo];exact Hq.zero _ _
 | a :: l,h=>by
  have ih:=Hq.ev hx hE (l:=l) (fun q hq=>h q (List.mem_cons_of_mem _ hq))
  have h1:=(h a (List.mem_cons_self ..)).lift (E^(l.length+1))
  have h2:=ih.mul hx
  rw [QdI,List.length_cons]
  have e:D*E^l.length*E=D*E^(l.length+1):=by rw [Nat.pow_succ,Nat.mul_assoc]
  rw [e] at h2
  refine (h2.add h1).le ?_
  have e1:X*(E+Y)^(l.length+1)=X*(E+Y)^l.length*Y+X*(E+Y)^l.length*E:=by
   rw [Nat.pow_succ,← Nat.mul_assoc,Nat.mul_add,Nat.add_comm]
  rw [e1]
  have e2:X*E^(l.length+1)≤X*(E+Y)^l.length*E:=by
   rw [Nat.pow_succ,← Nat.mul_assoc]
   exact Nat.mul_le_mul_right _ (Nat.mul_le_mul_left _ (Nat.pow_le_pow_left (by omega) _))
  omega
end Go.AM

/- poly.Shift. -/
namespace Go.AM
open Go Go.RowKit

def hst (l:List Rat) (a:Rat) (j:Nat):List Rat:=l.take j++(evR (l.drop j) a :: syn (l.drop j) a)
theorem hst_len {l:List Rat} {a:Rat} {j:Nat} (h:j<l.length):(hst l a j).length=l.length:=by
 rw [hst,List.length_append,List.length_cons,QmX,List.length_take,List.length_drop];omega
theorem Qn5 {l:List Rat} {k:Nat} (h:k<l.length):l=l.take k++l.getD k 0 :: l.drop (k+1):=by
 have e:l.drop k=l.getD k 0 :: l.drop (k+1):=by
  rw [List.drop_eq_getElem_cons h,List.getD_eq_getElem?_getD,List.getElem?_eq_getElem h];rfl
 rw [← e,List.take_append_drop]
theorem getD_mid (T R:List Rat) (x:Rat):(T++x :: R).getD T.length 0=x:=by
 rw [List.getD_eq_getElem?_getD,List.getElem?_append_right (Nat.le_refl _),Nat.sub_self];rfl
theorem getD_mid1 (T R:List Rat) (x y:Rat):(T++x :: y :: R).getD (T.length+1) 0=y:=by
 rw [List.getD_eq_getElem?_getD,List.getElem?_append_right (by omega),Nat.add_sub_cancel_left];rfl
theorem set_mid (T R:List Rat) (x y:Rat):(T++x :: R).set T.length y=T++y :: R:=by
 rw [List.set_append_right _ _ (Nat.le_refl _),Nat.sub_self];rfl
theorem hst_step {l:List Rat} {a:Rat} {k:Nat} (h:k+1<l.length):(hst l a (k+1)).set k ((hst l a (k+1)).getD k 0+a*(hst l a (k+1)).getD (k+1) 0)=hst l a k:=by
 obtain ⟨T,hT⟩:∃ T,l.take k=T:=⟨_,rfl⟩
 obtain ⟨R,hR⟩:∃ R,l.drop (k+1)=R:=⟨_,rfl⟩
 obtain ⟨x,hx⟩:∃ x,l.getD k 0=x:=⟨_,rfl⟩
 have hl:=Qn5 (l:=l) (k:=k) (by omega)
 rw [hT,hR,hx] at hl
 have hTl:T.length=k:=by rw [← hT,List.length_take];omega
 have h1:l.take (k+1)=T++[x]:=by
  rw [hl,List.take_append,hTl,List.take_of_length_le (by omega),Nat.add_sub_cancel_left];rfl
 have h2:l.drop k=x :: R:=by
  rw [hl,← hTl,List.drop_left]
 have hRne:∃ b R',R=b :: R':=by
  cases R with
  | nil=>have:=congrArg List.length hR;rw [List.length_drop] at this;simp at this;omega
  | cons b R'=>exact ⟨b,R',rfl⟩
 obtain ⟨b,R',rfl⟩:=hRne
 unfold hst
 rw [h1,hR,hT,h2,List.append_assoc,List.singleton_append]
 subst hTl
 rw [getD_mid,getD_mid1,set_mid,syn,QdI x (b :: R')]
 rw [show x+a*evR (b :: R') a=evR (b :: R') a*a+x by generalize evR (b :: R') a=u;grind]
theorem hst_last {l:List Rat} {a:Rat} {n:Nat} (h:l.length=n+1):hst l a n=l:=by
 have hl:=Qn5 (l:=l) (k:=n) (by omega)
 have h1:l.drop (n+1)=[]:=List.drop_of_length_le (by omega)
 rw [h1] at hl
 have h2:l.drop n=[l.getD n 0]:=by
  have hT:(l.take n).length=n:=by rw [List.length_take];omega
  have:l.drop n=(l.take n++[l.getD n 0]).drop n:=by rw [← hl]
  rw [this]
  have e:(l.take n++[l.getD n 0]).drop (l.take n).length=[l.getD n 0]:=List.drop_left
  rwa [hT] at e
 unfold hst
 rw [h2,syn,QdI,Qfo,Rat.zero_mul,Rat.zero_add]
 exact hl.symm
def pas (l:List Rat) (a:Rat):Nat→List Rat
 | 0=>l
 | i+1=>hst (pas l a i) a i
theorem pas_len {l:List Rat} {a:Rat}:∀ i,i≤l.length→(pas l a i).length=l.length
 | 0,_=>rfl
 | i+1,h=>by
  have ih:=pas_len (l:=l) (a:=a) i (by omega)
  rw [pas,hst_len (by omega),ih]
def synI (l:List Rat) (a:Rat):Nat→List Rat
 | 0=>l
 | i+1=>syn (synI l a i) a
theorem Qqu (l:List Rat) (a:Rat):∀ i,synI (syn l a) a i=synI l a (i+1)
 | 0=>rfl
 | i+1=>by rw [synI,Qqu l a i];rfl
theorem QqO (l:List Rat) (a:Rat):∀ i,(synI l a i).length=l.length-i
 | 0=>rfl
 | i+1=>by rw [synI,QmX,QqO l a i];omega
theorem QqV (a:Rat):∀ (i:Nat) (l:List Rat),tay (i+1) l a=tay i l a++[evR (synI l a i) a]
 | 0,l=>rfl
 | i+1,l=>by
  rw [tay,QqV a i (syn l a),Qqu];rfl
theorem pas_tay {l:List Rat} {a:Rat}:∀ i,i≤l.length→pas l a i=tay i l a++synI l a i
 | 0,_=>rfl
 | i+1,h=>by
  rw [pas,pas_tay i (by omega),hst]
  have e:(tay i l a).length=i:=Qnc a i l
  have e1:(tay i l a++synI l a i).take i=tay i l a:=by
   have:(tay i l a++synI l a i).take (tay i l a).length=tay i l a:=List.take_left
   rwa [e] at this
  have e2:(tay i l a++synI l a i).drop i=synI l a i:=by
   have:(tay i l a++synI l a i).drop (tay i l a).length=synI l a i:=List.drop_left
   rwa [e] at this
  rw [e1,e2,QqV,List.append_assoc]
  rfl
theorem pas_all (l:List Rat) (a:Rat):pas l a l.length=tay l.length l a:=by
 rw [pas_tay _ (Nat.le_refl _)]
 have:synI l a l.length=[]:=List.eq_nil_of_length_eq_zero (by rw [QqO];omega)
 rw [this,List.append_nil]

def QlF (a:Rat) (L:List Rat) (n i:Int) (N:Nat):St:=mkS [(3,.ptr [3] 0),(5,.own [9] N),(11,ai n),(12,ai i)] [([3],boxR a),([9],arrR N L)]
def QpG (a:Rat) (L:List Rat) (n i k:Int) (N:Nat):St:=mkS [(3,.ptr [3] 0),(5,.own [9] N),(6,ai i),(7,ai k),(11,ai n),(12,ai i)] [([3],boxR a),([9],arrR N L)]
def sh_en (L:List Rat) (N:Nat):St:=mkS [(5,.own [9] N)] [([9],arrR N L)]
theorem ld4 (x y z t:D):Qab (some 4) 0 [.d x,.d y,.d z,.d t]=some (.d (.agg [x,y,z,t])):=rfl
variable [Its]

theorem si_go {a:Rat} {L:List Rat} {n i k:Nat} (hL:L.length=n) (hn:n≤1000000000) (hi:i≤k) (hk:k+1<n) {K:Nat} (hK:K≤10000000000) (sa:sz a≤K) (sL:SzL K L) :
    X G QdB (QpG a L n i k n)=some (.n,QpG a (L.set k (L.getD k 0+a*L.getD (k+1) 0)) n i ((k:Int)-1) n):=by
  have e1:decide ((k:Int)≥(i:Int))=true:=decide_eq_true (by omega)
  obtain ⟨k1,hk1⟩:∃ k1:Int,k1=((k+1:Nat):Int):=⟨_,rfl⟩
  have e2:w64 ((k:Int)+1)=k1:=by rw [Qae (by omega) (by omega)];omega
  have e3:w64 ((k:Int)-1)=(k:Int)-1:=Qae (by omega) (by omega)
  have c1:((0:Int)≤(k:Int))=True:=eq_true (by omega)
  have c2:((k:Int)<(n:Int))=True:=eq_true (by omega)
  have c3:((0:Int)≤k1)=True:=eq_true (by omega)
  have c4:(k1<(n:Int))=True:=eq_true (by omega)
  have c5:k1.toNat=k+1:=by omega
  have h1K:1≤K:=Nat.le_trans (QqA a) sa
  have s1:=sL.getD h1K k
  have s2:=sL.getD h1K (k+1)
  have g1:=Qec (a:=a) (b:=L.getD (k+1) 0) (by omega) (by omega)
  have k1':=Qma (a:=a) (b:=L.getD (k+1) 0)
  have g2:=Qg4 (a:=L.getD k 0) (b:=a*L.getD (k+1) 0) (by omega) (by omega)
  have l1:=ld_cA (l:=L) (j:=k) (by omega)
  have l2:=ld_cA (l:=L) (j:=k+1) (by omega)
  have t1:=st_cA (l:=L) (j:=k) (by omega) (L.getD k 0+a*L.getD (k+1) 0)
  clear s1 s2 k1' sL hk1
  generalize L.getD k 0+a*L.getD (k+1) 0=r at *
  generalize a*L.getD (k+1) 0=p at *
  generalize L.getD k 0=u at *
  generalize L.getD (k+1) 0=v at *
  simp only [encR] at g1 g2
  simp -implicitDefEqProofs (maxSteps:=9^8) only [QdB,QpG,boxR,QbI,allD,Int.toNat_natCast,l1,l2,t1,c1,c2,c3,c4,c5,ld4,e1,e2,e3,g1,g2,go_sem,iv,bv,and_self,reduceCtorEq,↓reduceIte,Nat.reduceEqDiff]
theorem si_stop {a:Rat} {L:List Rat} {n i:Nat} {k:Int} (hk:k<(i:Int)):X G QdB (QpG a L n i k n)=some (.x 2,QlF a L n i n):=by
 have e1:decide (k≥(i:Int))=false:=decide_eq_false (by omega)
 simp -implicitDefEqProofs (maxSteps:=9^8) only [QdB,QpG,QlF,boxR,QbI,e1,go_sem,iv,bv,reduceCtorEq,↓reduceIte,Nat.reduceEqDiff]
theorem si_loop {a:Rat} {l:List Rat} {n i:Nat} (hl:l.length=n) (hn:n≤1000000000) {K:Nat} (hK:K≤10000000000) (sa:sz a≤K) (hS:∀ j,j<n→SzL K (hst l a j)):∀ j:Nat,i+j<n →
    X G (.loop QdB) (QpG a (hst l a (i+j)) n i ((i:Int)+(j:Int)-1) n)=some (.x 2,QlF a (hst l a i) n i n)
  | 0,h=>by
    rw [Qag,si_stop (by omega)];rfl
  | j+1,h=>by
    have g:=si_go (a:=a) (L:=hst l a (i+(j+1))) (n:=n) (i:=i) (k:=i+j) (by rw [hst_len (by omega),hl]) hn (by omega) (by omega) hK sa (hS _ h)
    have hs:=hst_step (l:=l) (a:=a) (k:=i+j) (by omega)
    rw [show i+(j+1)=i+j+1 by omega] at g ⊢
    rw [hs] at g
    have e:(i:Int)+((j+1:Nat):Int)-1=((i+j:Nat):Int):=by omega
    rw [Qag,e,g,Option.bind_some,if_pos rfl]
    have ih:=si_loop (i:=i) hl hn hK sa hS j (by omega)
    rw [show (i:Int)+(j:Int)-1=((i+j:Nat):Int)-1 by omega] at ih
    exact ih
theorem sh_go {a:Rat} {l:List Rat} {n i:Nat} (hl:l.length=n) (hn:n≤1000000000) (hi:i<n) {K:Nat} (hK:K≤10000000000) (sa:sz a≤K) (hS:∀ j,j<n→SzL K (hst l a j)) :
    X G Qcw (QlF a l n i n)=some (.n,QlF a (hst l a i) n ((i+1:Nat):Int) n):=by
  have e1:decide ((i:Int)<(n:Int))=true:=lt_t (by omega)
  obtain ⟨z,hz⟩:∃ z,(n:Int)-2=z:=⟨_,rfl⟩
  have e2:w64 ((n:Int)-2)=z:=by rw [Qae (by omega) (by omega),hz]
  have e3:w64 ((i:Int)+1)=((i+1:Nat):Int):=by rw [Qae (by omega) (by omega)];rfl
  have hl2:=si_loop (a:=a) (l:=l) (n:=n) (i:=i) hl hn hK sa hS (n-1-i) (by omega)
  rw [show i+(n-1-i)=n-1 by omega,hst_last (n:=n-1) (by omega),show (i:Int)+((n-1-i:Nat):Int)-1=z by omega] at hl2
  generalize hst l a i=L at *
  simp only [QpG,QlF,boxR,go_sem] at hl2
  simp -implicitDefEqProofs (maxSteps:=9^8) only [Qcw,QlF,boxR,QbI,hl2,e1,e2,e3,go_sem,iv,bv,reduceCtorEq,↓reduceIte,Nat.reduceEqDiff]
theorem sh_stop {a:Rat} {L:List Rat} {n:Nat}:X G Qcw (QlF a L n n n)=some (.x 0,sh_en L n):=by
 have e1:decide ((n:Int)<(n:Int))=false:=lt_f (by omega)
 simp -implicitDefEqProofs (maxSteps:=9^8) only [Qcw,QlF,sh_en,boxR,QbI,e1,go_sem,iv,bv,reduceCtorEq,↓reduceIte,Nat.reduceEqDiff]
theorem sh_loop {a:Rat} {l:List Rat} {n:Nat} (hl:l.length=n) (hn:n≤1000000000) {K:Nat} (hK:K≤10000000000) (sa:sz a≤K) (hS:∀ i j,i<n→j<n→SzL K (hst (pas l a i) a j)):∀ j i:Nat,i+j=n →
    X G (.loop Qcw) (QlF a (pas l a i) n i n)=some (.x 0,sh_en (pas l a n) n)
  | 0,i,h=>by
    have:i=n:=by omega
    subst this
    rw [Qag,sh_stop];rfl
  | j+1,i,h=>by
    rw [Qag,sh_go (by rw [pas_len i (by omega),hl]) hn (by omega) hK sa (fun j hj=>hS i j (by omega) hj),Option.bind_some,if_pos rfl]
    exact sh_loop hl hn hK sa hS j (i+1) (by omega)
theorem Qot          {d:D} {l:List Rat} {a:Rat} (hr:RwR d l) (hn:l.length≤1000000000) {K:Nat} (hK:K≤10000000000) (sa:sz a≤K) (hS:∀ i j,i<l.length→j<l.length→SzL K (hst (pas l a i) a j)) :
    ∃ d',RwR d' (shP l a)∧Qah G Qkf [d,encR a]=some (.d d'):=by
  rw [Qad (cf:=Qid) rfl]
  rcases hr with ⟨rfl,rfl⟩ | rfl
  · obtain ⟨d',hr',gT⟩:=Qf4 RwR.nil (by decide)
    refine ⟨d',hr', ?_⟩
    have gC:=Qld
    have e1:decide ((0:Int)<0)=false:=rfl
    have hl:X G (.loop Qcw) (mkS [(3,.ptr [3] 0),(5,.d (.z true)),(11,ai 0),(12,ai 0)] [([3],boxR a)])=some (.x 0,mkS [(5,.d (.z true))] []):=by
      rw [Qag]
      simp -implicitDefEqProofs (maxSteps:=9^8) only [Qcw,boxR,Qaa,e1,go_sem,iv,bv,reduceCtorEq,↓reduceIte,Nat.reduceEqDiff]
    simp only [boxR,go_sem] at hl
    simp -implicitDefEqProofs (maxSteps:=9^8) only [Qid,encR,QdG,hl,gT,gC,Qaa,go_sem,iv,bv,reduceCtorEq,↓reduceIte,Nat.reduceEqDiff]
  · obtain ⟨d',hr',gT⟩:=Qf4 (RwR.row (tay l.length l a)) (by rw [Qnc];omega)
    refine ⟨d',hr', ?_⟩
    have gC:=QkZ (l:=l) (by omega)
    have hl:=sh_loop (a:=a) (l:=l) rfl hn hK sa hS l.length 0 (by omega)
    rw [pas_all] at hl
    have e0:pas l a 0=l:=rfl
    rw [e0] at hl
    rw [rowR,Qnc] at gT
    unfold clR at gC
    simp only [Bool.false_eq_true,↓reduceIte] at gC
    unfold rowR at *
    have m1:=QnW l
    generalize tay l.length l a=T at *
    simp only [QlF,sh_en,boxR,go_sem,nc0] at hl
    simp -implicitDefEqProofs (maxSteps:=9^8) only [Qid,encR,QdG,m1,hl,gT,gC,QjU,QbI,Qaa,go_sem,iv,bv,reduceCtorEq,↓reduceIte,Nat.reduceEqDiff]
end Go.AM

/- poly.Div. -/
namespace Go.AM
open Go Go.RowKit

def dvI (R q:List Rat) (k:Nat) (f:Rat):Nat→List Rat
 | 0=>R
 | i+1=>(dvI R q k f i).set (k+i) ((dvI R q k f i).getD (k+i) 0-f*q.getD i 0)
theorem QkX (R q:List Rat) (k:Nat) (f:Rat):∀ i,(dvI R q k f i).length=R.length
 | 0=>rfl
 | i+1=>by rw [dvI,List.length_set,QkX R q k f i]
theorem lgetD_set {l:List Rat} {i j:Nat} {x:Rat} (hi:i<l.length):(l.set i x).getD j 0=if j=i then x else l.getD j 0:=by
 rw [List.getD_eq_getElem?_getD,List.getElem?_set]
 by_cases h:i=j
 ·subst h;rw [if_pos rfl,if_pos hi,if_pos rfl];rfl
 ·rw [if_neg h,if_neg (fun h'=>h h'.symm),← List.getD_eq_getElem?_getD]
theorem QnY {R q:List Rat} {k:Nat} {f:Rat}:∀ i,k+i≤R.length→∀ t,(dvI R q k f i).getD t 0=if k≤t∧t<k+i then R.getD t 0-f*q.getD (t-k) 0 else R.getD t 0
 | 0,_,t=>by rw [if_neg (by omega)];rfl
 | i+1,h,t=>by
  rw [dvI,lgetD_set (by rw [QkX];omega),QnY i (by omega),QnY i (by omega)]
  by_cases h1:t=k+i
  ·subst h1
   rw [if_pos rfl,if_neg (by omega),if_pos (by omega),Nat.add_sub_cancel_left]
  ·rw [if_neg h1]
   by_cases h2:k≤t∧t<k+i
   ·rw [if_pos h2,if_pos (by omega)]
   ·rw [if_neg h2,if_neg (by omega)]
def dvF (R q:List Rat) (k:Nat):Rat:=R.getD (k+q.length-1) 0/q.getD (q.length-1) 0
def dvO (q:List Rat):Nat→List Rat→List Rat→List Rat×List Rat
 | 0,R,O=>(R,O)
 | k+1,R,O=>dvO q k (dvI R q k (dvF R q k) q.length) (O.set k (dvF R q k))
def dvG (K:Nat) (q:List Rat):Nat→List Rat→Prop
 | 0,R=>True
 | k+1,R=>SzL K R∧dvG K q k (dvI R q k (dvF R q k) q.length)
def dvN (p q:List Rat):Nat:=p.length+1-q.length
def quoP (p q:List Rat):List Rat:=if q=[] then [] else QcF (dvO q (dvN p q) p (List.replicate (dvN p q) 0)).2
def remP (p q:List Rat):List Rat:=if q=[] then [] else QcF (dvO q (dvN p q) p (List.replicate (dvN p q) 0)).1
theorem Qnd (q:List Rat):∀ (m:Nat) (R O:List Rat),(dvO q m R O).1.length=R.length∧(dvO q m R O).2.length=O.length
 | 0,R,O=>⟨rfl,rfl⟩
 | k+1,R,O=>by
  have ih:=Qnd q k (dvI R q k (dvF R q k) q.length) (O.set k (dvF R q k))
  rw [dvO]
  exact ⟨by rw [ih.1,QkX],by rw [ih.2,List.length_set]⟩
theorem dvI_szl {R q:List Rat} {k:Nat} {f:Rat} {K:Nat} (hR:SzL K R) (hq:SzL K q) (hf:sz f≤2*K) (h1:1≤K) (i:Nat) (hi:k+i≤R.length):SzL (4*K+1) (dvI R q k f i):=by
 intro x hx
 obtain ⟨t,ht,rfl⟩:=List.mem_iff_getElem.1 hx
 have e:(dvI R q k f i)[t]=(dvI R q k f i).getD t 0:=by
  rw [List.getD_eq_getElem?_getD,List.getElem?_eq_getElem ht];rfl
 rw [e,QnY i hi]
 have a1:=hR.getD h1 t
 split
 ·have a2:=hq.getD h1 (t-k)
  have a3:=Qma (a:=f) (b:=q.getD (t-k) 0)
  have a4:=sz_sub (a:=R.getD t 0) (b:=f*q.getD (t-k) 0)
  omega
 ·omega

def Qi7 (dq:D) (R O:List Rat) (k:Int) (n m:Nat):St:=mkS [(1,.d dq),(6,.own [16] n),(7,.own [24] m),(8,ai k)] [([16],arrR n R),([24],arrR m O)]
def Qqb (dq:D) (R O:List Rat) (k i:Int) (f:Rat) (n m lq:Nat):St:=mkS [(1,.d dq),(6,.own [16] n),(7,.own [24] m),(8,ai k),(9,.ptr [9] 0),(53,.d dq),(54,ai lq),(55,ai i)] [([9],boxR f),([16],arrR n R),([24],arrR m O)]
def QnE (R O:List Rat) (n m:Nat):St:=mkS [(6,.own [16] n),(7,.own [24] m)] [([16],arrR n R),([24],arrR m O)]
theorem st4 (x y z t a b c d:A):Qac 0 [a,b,c,d] [x,y,z,t]=some [a,b,c,d]:=rfl
variable [Its]

section
variable {dq:D} {q:List Rat} {n m:Nat} {K:Nat}
theorem di_go {R O:List Rat} {f:Rat} {k i:Nat} (hq:RwR dq q) (hR:R.length=n) (hO:O.length=m) (hn:n≤1000000000) (hi:i<q.length) (hk:k+q.length≤n) (sq:SzL K q) (sR:SzL K R) (sf:sz f≤K) (hK1:1≤K) (hK:K≤10000000000) :
    X G QeO (Qqb dq R O k i f n m q.length)=some (.n,Qqb dq (R.set (k+i) (R.getD (k+i) 0-f*q.getD i 0)) O k ((i+1:Nat):Int) f n m q.length):=by
  have e1:decide ((i:Int)<(q.length:Int))=true:=lt_t (by omega)
  obtain ⟨t,ht⟩:∃ t:Int,t=((k+i:Nat):Int):=⟨_,rfl⟩
  have e2:w64 ((k:Int)+(i:Int))=t:=by rw [Qae (by omega) (by omega)];omega
  have e3:w64 ((i:Int)+1)=((i+1:Nat):Int):=by rw [Qae (by omega) (by omega)];rfl
  have c1:((0:Int)≤t)=True:=eq_true (by omega)
  have c2:(t<(n:Int))=True:=eq_true (by omega)
  have c3:t.toNat=k+i:=by omega
  have x1:=hq.ixa hi
  have y1:=fun h=>ldR h q hi
  have s1:=sq.getD hK1 i
  have s2:=sR.getD hK1 (k+i)
  have g1:=Qec (a:=f) (b:=q.getD i 0) (by omega) (by omega)
  have k1:=Qma (a:=f) (b:=q.getD i 0)
  have g2:=Qpv (a:=R.getD (k+i) 0) (b:=f*q.getD i 0) (by omega) (by omega)
  have l1:=ld_cA (l:=R) (j:=k+i) (by omega)
  have t1:=st_cA (l:=R) (j:=k+i) (by omega) (R.getD (k+i) 0-f*q.getD i 0)
  clear s1 s2 k1 sq sR ht
  generalize R.getD (k+i) 0-f*q.getD i 0=r at *
  generalize f*q.getD i 0=p at *
  generalize R.getD (k+i) 0=u at *
  generalize q.getD i 0=v at *
  generalize cRs (q.drop i)=cs at *
  simp only [encR] at g1 g2 y1
  simp -implicitDefEqProofs (maxSteps:=9^8) only [QeO,Qqb,boxR,QbI,allD,ld4,st4,l1,t1,x1,y1,c1,c2,c3,e1,e2,e3,g1,g2,go_sem,iv,bv,and_self,reduceCtorEq,↓reduceIte,Nat.reduceEqDiff]
theorem di_stop {R O:List Rat} {f:Rat} {k:Int}:X G QeO (Qqb dq R O k (q.length:Nat) f n m q.length)=some (.x 2,Qi7 dq R O k n m):=by
 have e1:decide ((q.length:Int)<(q.length:Int))=false:=lt_f (by omega)
 simp -implicitDefEqProofs (maxSteps:=9^8) only [QeO,Qqb,Qi7,boxR,QbI,e1,go_sem,iv,bv,reduceCtorEq,↓reduceIte,Nat.reduceEqDiff]
theorem di_loop {R O:List Rat} {f:Rat} {k:Nat} (hq:RwR dq q) (hR:R.length=n) (hO:O.length=m) (hn:n≤1000000000) (hk:k+q.length≤n) (sq:SzL K q) (sR:SzL K R) (sf:sz f≤2*K) (hK1:1≤K) (hK:K≤1000000000):∀ j i:Nat,i+j=q.length →
    X G (.loop QeO) (Qqb dq (dvI R q k f i) O k i f n m q.length)=some (.x 2,Qi7 dq (dvI R q k f q.length) O k n m)
  | 0,i,h=>by
    have:i=q.length:=by omega
    subst this
    rw [Qag,di_stop];rfl
  | j+1,i,h=>by
    have hs:=dvI_szl (k:=k) sR sq sf hK1 i (by omega)
    rw [Qag,di_go (K:=4*K+1) hq (by rw [QkX,hR]) hO hn (by omega) hk (sq.mono (by omega)) hs (by omega) (by omega) (by omega),Option.bind_some,if_pos rfl]
    exact di_loop hq hR hO hn hk sq sR sf hK1 hK j (i+1) (by omega)
theorem dv_go {R O:List Rat} {k:Nat} (hq:RwR dq q) (hq0:0<q.length) (hR:R.length=n) (hO:O.length=m) (hn:n≤1000000000) (hk:k+q.length≤n) (hm:k<m) (sq:SzL K q) (sR:SzL K R) (hK1:1≤K) (hK:K≤1000000000) :
    X G QcE (Qi7 dq R O k n m)=some (.n,Qi7 dq (dvI R q k (dvF R q k) q.length) (O.set k (dvF R q k)) ((k:Int)-1) n m):=by
  have e1:decide ((k:Int)≥0)=true:=decide_eq_true (by omega)
  obtain ⟨z,hz⟩:∃ z,(k:Int)+(q.length:Int)=z:=⟨_,rfl⟩
  obtain ⟨t,ht⟩:∃ t,z-1=t:=⟨_,rfl⟩
  have e2:w64 ((k:Int)+(q.length:Int))=z:=by rw [Qae (by omega) (by omega),hz]
  have e3:w64 (z-1)=t:=by rw [Qae (by omega) (by omega),ht]
  have e4:w64 ((q.length:Int)-1)=((q.length-1:Nat):Int):=by rw [Qae (by omega) (by omega)];omega
  have e5:w64 ((k:Int)-1)=(k:Int)-1:=Qae (by omega) (by omega)
  have c1:((0:Int)≤t)=True:=eq_true (by omega)
  have c2:(t<(n:Int))=True:=eq_true (by omega)
  have c3:t.toNat=k+q.length-1:=by omega
  have c4:((0:Int)≤(k:Int))=True:=eq_true (by omega)
  have c5:((k:Int)<(m:Int))=True:=eq_true (by omega)
  have hqi:q.length-1<q.length:=by omega
  have x1:=hq.ixa hqi
  have y1:=fun h=>ldR h q hqi
  have lq:=hq.len
  have l1:=ld_cA (l:=R) (j:=k+q.length-1) (by omega)
  have s1:=sq.getD hK1 (q.length-1)
  have s2:=sR.getD hK1 (k+q.length-1)
  have g1:=QlN (a:=R.getD (k+q.length-1) 0) (b:=q.getD (q.length-1) 0) (by omega) (by omega)
  have sf:=sz_div (a:=R.getD (k+q.length-1) 0) (b:=q.getD (q.length-1) 0)
  have hf:R.getD (k+q.length-1) 0/q.getD (q.length-1) 0=dvF R q k:=rfl
  rw [hf] at g1 sf
  have t1:=st_cA (l:=O) (j:=k) (by omega) (dvF R q k)
  have hl:=di_loop (O:=O.set k (dvF R q k)) (f:=dvF R q k) (k:=k) hq hR (by rw [List.length_set,hO]) hn hk sq sR (by omega) hK1 hK q.length 0 (by omega)
  have d0:dvI R q k (dvF R q k) 0=R:=rfl
  rw [d0] at hl
  clear s1 s2 sf sq sR hf d0 hz ht
  generalize dvI R q k (dvF R q k) q.length=R2 at *
  generalize dvF R q k=f at *
  generalize R.getD (k+q.length-1) 0=u at *
  generalize q.getD (q.length-1) 0=v at *
  generalize cRs (q.drop (q.length-1))=cs at *
  simp only [encR] at g1 y1
  simp only [Qqb,Qi7,boxR,go_sem,nc0] at hl
  simp -implicitDefEqProofs (maxSteps:=9^8) only [QcE,Qi7,boxR,QbI,allD,Int.toNat_natCast,ld4,st4,lq,l1,t1,x1,y1,c1,c2,c3,c4,c5,e1,e2,e3,e4,e5,g1,hl,go_sem,iv,bv,and_self,reduceCtorEq,↓reduceIte,Nat.reduceEqDiff]
theorem Qp2 {R O:List Rat} {k:Int} (hk:k<0):X G QcE (Qi7 dq R O k n m)=some (.x 0,QnE R O n m):=by
 have e1:decide (k≥0)=false:=decide_eq_false (by omega)
 simp -implicitDefEqProofs (maxSteps:=9^8) only [QcE,Qi7,QnE,QbI,e1,go_sem,iv,bv,reduceCtorEq,↓reduceIte,Nat.reduceEqDiff]
theorem dv_loop (hq:RwR dq q) (hq0:0<q.length) (hn:n≤1000000000) (sq:SzL K q) (hK1:1≤K) (hK:K≤1000000000):∀ (j:Nat) (R O:List Rat),R.length=n→O.length=m→j≤m→(0<j→j-1+q.length≤n)→dvG K q j R →
    X G (.loop QcE) (Qi7 dq R O ((j:Int)-1) n m)=some (.x 0,QnE (dvO q j R O).1 (dvO q j R O).2 n m)
  | 0,R,O,hR,hO,_,_,_=>by
    rw [Qag,Qp2 (by omega)];rfl
  | k+1,R,O,hR,hO,hm,hj,hg=>by
    rw [show ((k+1:Nat):Int)-1=(k:Int) by omega]
    have hj':=hj (by omega)
    rw [Qag,dv_go hq hq0 hR hO hn (by omega) (by omega) sq hg.1 hK1 hK,Option.bind_some,if_pos rfl]
    have ih:=dv_loop hq hq0 hn sq hK1 hK k (dvI R q k (dvF R q k) q.length) (O.set k (dvF R q k)) (by rw [QkX,hR]) (by rw [List.length_set,hO]) (by omega) (fun _=>by omega) hg.2
    rw [dvO]
    exact ih
theorem Qia        {dp:D} {p:List Rat} (hp:RwR dp p) (hq:RwR dq q) (hn:p.length≤1000000000) (hn2:q.length≤1000000000) (sq:SzL K q) (hK1:1≤K) (hK:K≤1000000000) (hg:dvG K q (dvN p q) p) :
    ∃ d1 d2,RwR d1 (quoP p q)∧RwR d2 (remP p q)∧Qah G QgH [dp,dq]=some (.d (.tup [d1,d2])):=by
  rw [Qad (cf:=Qh1) rfl]
  have lp:=hp.len
  have lq:=hq.len
  by_cases hq0:q.length=0
  · have hqn:q=[]:=List.eq_nil_of_length_eq_zero hq0
    subst hqn
    refine ⟨.z true,.z true,RwR.nil,RwR.nil, ?_⟩
    have e1:(((([]:List Rat).length:Nat):Int)==0)=true:=rfl
    have e1':((0:Int)==0)=true:=rfl
    simp -implicitDefEqProofs (maxSteps:=9^8) only [Qh1,toDs,e1,e1',lq,go_sem,iv,bv,reduceCtorEq,↓reduceIte,Nat.reduceEqDiff]
  · have hqn:q≠[]:=fun h=>hq0 (by rw [h];rfl)
    unfold quoP remP
    rw [if_neg hqn,if_neg hqn]
    have e1:((q.length:Int)==0)=false:=Qb9 (by omega)
    obtain ⟨z,hz⟩:∃ z,(p.length:Int)-(q.length:Int)=z:=⟨_,rfl⟩
    have e2:w64 ((p.length:Int)-(q.length:Int))=z:=by rw [Qae (by omega) (by omega),hz]
    obtain ⟨z1,hz1⟩:∃ z1,z+1=z1:=⟨_,rfl⟩
    have e3:w64 (z+1)=z1:=by rw [Qae (by omega) (by omega),hz1]
    have e4:(if z1>(0:Int) then z1 else (0:Int))=((dvN p q:Nat):Int):=by unfold dvN;split<;>omega
    have c1:((0:Int)≤((dvN p q:Nat):Int))=True:=eq_true (by omega)
    have hN:dvN p q≤1000000000:=by unfold dvN;omega
    have c2:(((dvN p q:Nat):Int)*((64:Nat):Int)≤(bound:Int))=True:=eq_true (by have:(bound:Int)=140737488351232:=rfl;omega)
    have r0:=QpU (dvN p q)
    have m0:=QnW (List.replicate (dvN p q) (0:Rat))
    have hO:(List.replicate (dvN p q) (0:Rat)).length=dvN p q:=List.length_replicate
    rcases hp with ⟨rfl,rfl⟩ | rfl
    · have hN0:dvN [] q=0:=by unfold dvN;simp;omega
      rw [hN0]
      obtain ⟨d1,hr1,gT1⟩:=Qf4 (RwR.row []) (by decide)
      obtain ⟨d2,hr2,gT2⟩:=Qf4 RwR.nil (by decide)
      refine ⟨d1,d2,hr1,hr2, ?_⟩
      have gC:=Qld
      have e5:decide (z≥0)=false:=decide_eq_false (by simp at hz;omega)
      have h0:(z1>(0:Int))=False:=eq_false (by simp at hz;omega)
      have hl:X G (.loop QcE) ⟨frL [(1,.d dq),(6,.d (.z true)),(7,.own [24] 0),(8,ai z)],Qbw (hupd hp0 [24] ⟨4,0,[],false⟩) [16] none,[]⟩=some (.x 0,⟨frL [(6,.d (.z true)),(7,.own [24] 0)],Qbw (hupd hp0 [24] ⟨4,0,[],false⟩) [16] none,[]⟩):=by
        rw [Qag]
        simp -implicitDefEqProofs (maxSteps:=9^8) only [QcE,e5,go_sem,iv,bv,reduceCtorEq,↓reduceIte,Nat.reduceEqDiff]
      have b0:((0:Int)*((64:Nat):Int)≤(bound:Int))=True:=eq_true (by decide)
      have rz:∀ zs,rep 0 zs=[]:=fun _=>rfl
      have t0:(0:Int).toNat=0:=rfl
      clear e4 c1 c2 r0 m0 hO
      simp only [rowR,cRs,List.length_nil] at gT1
      simp only [List.length_nil] at e2 lp
      have e2':w64 (0-(q.length:Int))=z:=e2
      simp only [go_sem] at hl
      simp -implicitDefEqProofs (maxSteps:=9^8) only [Qh1,QdG,toDs,Qf8,mxV,h0,rz,t0,b0,allD,List.map_nil,Int.le_refl,hl,gT1,gT2,gC,lp,lq,e1,e2',e3,true_and,and_self,go_sem,iv,bv,reduceCtorEq,↓reduceIte,Nat.reduceEqDiff]
    · have hl:=dv_loop (m:=dvN p q) hq (by omega) hn sq hK1 hK (dvN p q) p (List.replicate (dvN p q) 0) rfl hO (Nat.le_refl _) (fun _=>by unfold dvN;omega) hg
      obtain ⟨dl1,dl2⟩:=Qnd q (dvN p q) p (List.replicate (dvN p q) 0)
      rw [hO] at dl2
      have gC:=QkZ (l:=p) (by omega)
      unfold clR at gC
      simp only [Bool.false_eq_true,↓reduceIte] at gC
      have m1:=QnW p
      obtain ⟨d1,hr1,gT1⟩:=Qf4 (RwR.row (dvO q (dvN p q) p (List.replicate (dvN p q) 0)).2) (by omega)
      obtain ⟨d2,hr2,gT2⟩:=Qf4 (RwR.row (dvO q (dvN p q) p (List.replicate (dvN p q) 0)).1) (by omega)
      refine ⟨d1,d2,hr1,hr2, ?_⟩
      rw [rowR,dl2] at gT1
      rw [rowR,dl1] at gT2
      clear hr1 hr2 dl1 dl2 hg hO
      generalize (dvO q (dvN p q) p (List.replicate (dvN p q) 0)).1=R at *
      generalize (dvO q (dvN p q) p (List.replicate (dvN p q) 0)).2=O at *
      by_cases hz0:z≥0
      · have ek:((dvN p q:Nat):Int)-1=z:=by unfold dvN;omega
        rw [ek] at hl
        unfold rowR at *
        simp only [Qi7,QnE,go_sem] at hl
        simp -implicitDefEqProofs (maxSteps:=9^8) only [Qh1,QdG,toDs,Qf8,mxV,r0,m0,m1,Int.toNat_natCast,hl,gT1,gT2,gC,lp,lq,e1,e2,e3,e4,c1,c2,QjU,QbI,Qaa,true_and,and_self,go_sem,iv,bv,reduceCtorEq,↓reduceIte,Nat.reduceEqDiff]
      · have hN0:dvN p q=0:=by unfold dvN;omega
        have hst:X G (.loop QcE) (Qi7 dq p (List.replicate (dvN p q) 0) z p.length (dvN p q))=some (.x 0,QnE p (List.replicate (dvN p q) 0) p.length (dvN p q)):=by
          rw [Qag,Qp2 (by omega)];rfl
        have hst2:X G (.loop QcE) (Qi7 dq p (List.replicate (dvN p q) 0) (((dvN p q:Nat):Int)-1) p.length (dvN p q))=some (.x 0,QnE p (List.replicate (dvN p q) 0) p.length (dvN p q)):=by
          rw [Qag,Qp2 (by omega)];rfl
        rw [hst2] at hl
        have hl':QnE p (List.replicate (dvN p q) 0) p.length (dvN p q)=QnE R O p.length (dvN p q):=by
          simpa using hl
        rw [hl'] at hst
        clear hl hl' hst2
        unfold rowR at *
        simp only [Qi7,QnE,go_sem] at hst
        simp -implicitDefEqProofs (maxSteps:=9^8) only [Qh1,QdG,toDs,Qf8,mxV,r0,m0,m1,Int.toNat_natCast,hst,gT1,gT2,gC,lp,lq,e1,e2,e3,e4,c1,c2,QjU,QbI,Qaa,true_and,and_self,go_sem,iv,bv,reduceCtorEq,↓reduceIte,Nat.reduceEqDiff]
end
end Go.AM

/- poly.monic, Gcd, Free; closed inputs. -/
namespace Go.AM
open Go Go.RowKit

def mnP (l:List Rat):List Rat:=if l=[] then [] else scP l (1/l.getD (l.length-1) 0)
theorem Qp5 (l:List Rat):(mnP l).length≤l.length:=by
 unfold mnP;split
 ·simp
 ·exact len_sc _ _
theorem Qqt (p q:List Rat):(remP p q).length≤p.length:=by
 unfold remP;split
 ·simp
 ·have:=Qfw (dvO q (dvN p q) p (List.replicate (dvN p q) 0)).1
  rw [(Qnd q _ _ _).1] at this
  exact this
theorem quoP_len (p q:List Rat):(quoP p q).length≤dvN p q:=by
 unfold quoP;split
 ·simp
 ·have:=Qfw (dvO q (dvN p q) p (List.replicate (dvN p q) 0)).2
  rw [(Qnd q _ _ _).2,List.length_replicate] at this
  exact this
def gcP:Nat→List Rat→List Rat→List Rat
 | 0,a,_=>a
 | n+1,a,b=>if b=[] then a else gcP n b (mnP (remP a b))
def gcdP (p q:List Rat):List Rat:=gcP (q.length+1) (mnP p) (mnP q)
def frP (p:List Rat):List Rat:=mnP (quoP p (gcdP p (deP p)))
def gcG (K:Nat):Nat→List Rat→List Rat→Prop
 | 0,_,b=>b=[]
 | n+1,a,b=>b=[]∨(SzL K b∧dvG K b (dvN a b) a∧SzL K (remP a b)∧gcG K n b (mnP (remP a b)))

/-! ### QaS inputs: all of them of one digit -/
def sm1 (q:Rat):Bool:=decide (q.num.natAbs<1000000000)&&decide (q.den<1000000000)
def smL (l:List Rat):Bool:=l.all sm1
theorem Qey {l:List Rat} (h:smL l=true):SzL 1 l:=fun q hq=>by
 have h1:=List.all_eq_true.1 h q hq
 simp only [sm1,Bool.and_eq_true,decide_eq_true_eq] at h1
 exact sz_le (QoQ (k:=1) (by rw [Nat.pow_one];exact h1.1)) (QoQ (k:=1) (by rw [Nat.pow_one,Int.natAbs_natCast];exact h1.2))
def dvB (q:List Rat):Nat→List Rat→Bool
 | 0,_=>true
 | k+1,R=>smL R&&dvB q k (dvI R q k (dvF R q k) q.length)
theorem QoT {q:List Rat}:∀ {m:Nat} {R:List Rat},dvB q m R=true→dvG 1 q m R
 | 0,_,_=>trivial
 | k+1,R,h=>by
  simp only [dvB,Bool.and_eq_true] at h
  exact ⟨Qey h.1,QoT h.2⟩
def gcB:Nat→List Rat→List Rat→Bool
 | 0,_,b=>decide (b=[])
 | n+1,a,b=>decide (b=[])||(smL b&&dvB b (dvN a b) a&&smL (remP a b)&&gcB n b (mnP (remP a b)))
theorem gcB_ok:∀ {n:Nat} {a b:List Rat},gcB n a b=true→gcG 1 n a b
 | 0,_,b,h=>by
  have h':decide (b=[])=true:=h
  show b=[]
  exact of_decide_eq_true h'
 | n+1,a,b,h=>by
  simp only [gcB,Bool.or_eq_true,Bool.and_eq_true,decide_eq_true_eq] at h
  rcases h with h | h
  ·exact .inl h
  ·exact .inr ⟨Qey h.1.1.1,QoT h.1.1.2,Qey h.1.2,gcB_ok h.2⟩
def shB (l:List Rat) (a:Rat):Bool:=(List.range l.length).all fun i=>(List.range l.length).all fun j=>smL (hst (pas l a i) a j)
theorem shB_ok {l:List Rat} {a:Rat} (h:shB l a=true):∀ i j,i<l.length→j<l.length→SzL 1 (hst (pas l a i) a j):=fun i j hi hj =>
 Qey (List.all_eq_true.1 (List.all_eq_true.1 h i (List.mem_range.2 hi)) j (List.mem_range.2 hj))
variable [Its]

theorem Qr8:Qah G QkN [iv 1,iv 1]=some (.d (encR 1)):=by
 have g:=Qmu (n:=1) (d:=1) ⟨by omega,by omega⟩ ⟨by omega,by omega⟩
 have e:Rat.divInt 1 1=1:=QfG 1
 rw [e] at g;exact g
theorem Qib {d:D} {l:List Rat} (hr:RwR d l) (hn:l.length≤1000000000) {K:Nat} (sl:SzL K l) (hK1:1≤K) (hK:K≤1000000000):∃ d',RwR d' (mnP l)∧Qah G Qe7 [d]=some (.d d'):=by
 rw [Qad (cf:=QhY) rfl]
 have ll:=hr.len
 by_cases h0:l.length=0
 ·have:l=[]:=List.eq_nil_of_length_eq_zero h0
  subst this
  refine ⟨.z true,.inl ⟨rfl,rfl⟩, ?_⟩
  have e1:((0:Int)==0)=true:=rfl
  simp only [List.length_nil] at ll
  simp -implicitDefEqProofs (maxSteps:=9^8) only [QhY,ll,e1,go_sem,iv,bv,reduceCtorEq,↓reduceIte,Nat.reduceEqDiff]
 ·have hne:l≠[]:=fun h=>h0 (by rw [h];rfl)
  unfold mnP
  rw [if_neg hne]
  have e1:((l.length:Int)==0)=false:=Qb9 (by omega)
  have e2:w64 ((l.length:Int)-1)=((l.length-1:Nat):Int):=by rw [Qae (by omega) (by omega)];omega
  have hl:l.length-1<l.length:=by omega
  have x1:=hr.ixa hl
  have y1:=fun h=>ldR h l hl
  have s1:=sl.getD hK1 (l.length-1)
  have g1:=Qr8
  have g2:=QlN (a:=1) (b:=l.getD (l.length-1) 0) (by rw [Qpe];omega) (by omega)
  have s2:=sz_div (a:=1) (b:=l.getD (l.length-1) 0)
  rw [Qpe] at s2
  obtain ⟨d',hr',gS⟩:=Qn7 (a:=1/l.getD (l.length-1) 0) hr (K:=K+1) (sl.mono (by omega)) (by omega) (by omega) (by omega) hn
  refine ⟨d',hr', ?_⟩
  clear s1 s2 hr'
  generalize 1/l.getD (l.length-1) 0=r at *
  generalize l.getD (l.length-1) 0=u at *
  generalize cRs (l.drop (l.length-1))=cs at *
  generalize ((l.length-1:Nat):Int)=z at *
  generalize (1:Rat)=one at *
  simp only [encR,iv] at g1 g2 y1 gS
  simp -implicitDefEqProofs (maxSteps:=9^8) only [QhY,ll,x1,y1,e1,e2,g1,g2,gS,go_sem,iv,bv,reduceCtorEq,↓reduceIte,Nat.reduceEqDiff]

def QpV (da db:D):St:=mkS [(0,.d da),(1,.d db)] []
def gc_en (da:D):St:=mkS [(0,.d da)] []
theorem gc_stop {da db:D} (hb:RwR db []):X G QeK (QpV da db)=some (.x 0,gc_en da):=by
 have ll:=hb.len
 have e1:decide ((0:Int)>0)=false:=rfl
 simp only [List.length_nil] at ll
 simp -implicitDefEqProofs (maxSteps:=9^8) only [QeK,QpV,gc_en,ll,e1,go_sem,iv,bv,reduceCtorEq,↓reduceIte,Nat.reduceEqDiff]
theorem gc_go {da db:D} {a b:List Rat} (ha:RwR da a) (hb:RwR db b) (hne:b≠[]) (na:a.length≤1000000000) (nb:b.length≤1000000000) {K:Nat} (hK1:1≤K) (hK:K≤1000000000) (sb:SzL K b) (hg:dvG K b (dvN a b) a) (sr:SzL K (remP a b)) :
    ∃ d',RwR d' (mnP (remP a b))∧X G QeK (QpV da db)=some (.n,QpV db d'):=by
  obtain ⟨d1,d2,h1,h2,gD⟩:=Qia ha hb na nb sb hK1 hK hg
  obtain ⟨d3,h3,gM⟩:=Qib h2 (Nat.le_trans (Qqt a b) na) sr hK1 hK
  refine ⟨d3,h3, ?_⟩
  have hl:0<b.length:=List.length_pos_iff.2 hne
  have ll:=hb.len
  have e1:decide ((b.length:Int)>0)=true:=gt_t (by omega)
  simp -implicitDefEqProofs (maxSteps:=9^8) only [QeK,QpV,ll,e1,gD,gM,go_sem,iv,bv,reduceCtorEq,↓reduceIte,Nat.reduceEqDiff]
theorem gc_loop {K:Nat} (hK1:1≤K) (hK:K≤1000000000):∀ (n:Nat) (a b:List Rat) (da db:D),RwR da a→RwR db b→a.length≤1000000000→b.length≤1000000000→gcG K n a b→∃ d',RwR d' (gcP n a b)∧X G (.loop QeK) (QpV da db)=some (.x 0,gc_en d')
 | 0,a,b,da,db,ha,hb,na,nb,hg=>by
  have hb':b=[]:=hg
  subst hb'
  exact ⟨da,ha,by rw [Qag,gc_stop hb];rfl⟩
 | n+1,a,b,da,db,ha,hb,na,nb,hg=>by
  by_cases hb0:b=[]
  ·subst hb0
   rw [gcP,if_pos rfl]
   exact ⟨da,ha,by rw [Qag,gc_stop hb];rfl⟩
  ·rw [gcP,if_neg hb0]
   rcases hg with hg | ⟨g1,g2,g3,g4⟩
   ·exact absurd hg hb0
   ·obtain ⟨d1,h1,hx⟩:=gc_go ha hb hb0 na nb hK1 hK g1 g2 g3
    obtain ⟨d',h',hl⟩:=gc_loop hK1 hK n b (mnP (remP a b)) db d1 hb h1 nb (Nat.le_trans (Qp5 _) (Nat.le_trans (Qqt a b) na)) g4
    exact ⟨d',h',by rw [Qag,hx,Option.bind_some,if_pos rfl];exact hl⟩
theorem QmO        {dp dq:D} {p q:List Rat} (hp:RwR dp p) (hq:RwR dq q) (np:p.length≤1000000000) (nq:q.length≤1000000000) {K:Nat} (hK1:1≤K) (hK:K≤1000000000) (sp:SzL K p) (sq:SzL K q) (hg:gcG K (q.length+1) (mnP p) (mnP q)) :
    ∃ d',RwR d' (gcdP p q)∧Qah G QjW [dp,dq]=some (.d d'):=by
  rw [Qad (cf:=QmU) rfl]
  obtain ⟨d1,h1,g1⟩:=Qib hp np sp hK1 hK
  obtain ⟨d2,h2,g2⟩:=Qib hq nq sq hK1 hK
  obtain ⟨d',h',hl⟩:=gc_loop hK1 hK (q.length+1) (mnP p) (mnP q) d1 d2 h1 h2 (Nat.le_trans (Qp5 _) np) (Nat.le_trans (Qp5 _) nq) hg
  refine ⟨d',h', ?_⟩
  simp only [QpV,gc_en,go_sem] at hl
  simp -implicitDefEqProofs (maxSteps:=9^8) only [QmU,g1,g2,hl,go_sem,iv,bv,reduceCtorEq,↓reduceIte,Nat.reduceEqDiff]
theorem Qpg         {dp:D} {p:List Rat} (hp:RwR dp p) (np':p.length<1000000000) {K:Nat} (hK1:1≤K) (hK:K≤1000000000) (sp:SzL K p) (sd:SzL K (deP p)) (hg:gcG K ((deP p).length+1) (mnP p) (mnP (deP p))) (ng:(gcdP p (deP p)).length≤1000000000) (sg:SzL K (gcdP p (deP p))) (hd:dvG K (gcdP p (deP p)) (dvN p (gcdP p (deP p))) p) (so:SzL K (quoP p (gcdP p (deP p)))) :
    ∃ d',RwR d' (frP p)∧Qah G Qlz [dp]=some (.d d'):=by
  have np:p.length≤1000000000:=by omega
  rw [Qad (cf:=Qlq) rfl]
  obtain ⟨d1,h1,g1⟩:=Qnl hp sp hK1 (by omega) np
  obtain ⟨d2,h2,g2⟩:=QmO hp h1 np (Nat.le_trans (len_de p) (by omega)) hK1 hK sp sd hg
  obtain ⟨d3,d4,h3,h4,g3⟩:=Qia hp h2 np ng sg hK1 hK hd
  obtain ⟨d',h',g4⟩:=Qib h3 (Nat.le_trans (quoP_len p _) (by unfold dvN;omega)) so hK1 hK
  refine ⟨d',h', ?_⟩
  simp -implicitDefEqProofs (maxSteps:=9^8) only [Qlq,g1,g2,g3,g4,go_sem,iv,bv,reduceCtorEq,↓reduceIte,Nat.reduceEqDiff]
end Go.AM

/- Equality: ref04, ref05, ref06.Same, rat.Same at equal numbers. -/
namespace Go.AM
open Go Go.RowKit

variable [Its]
theorem s5_refl {a:Rat} (ha:sz a≤100000000000):Qah G Qdj [encR a,encR a]=some (.d (bv true)):=by
 rw [Qad (cf:=Qc8) rfl]
 have h1:(digs a.num.natAbs).length≤1000000000000:=by have:=QcR ha;unfold nd at this;omega
 have h2:(dd a.den).length≤1000000000000:=by
  have:=QcT ha
  unfold nd at this
  rw [Int.natAbs_natCast] at this
  unfold dd
  split
  ·simp
  ·omega
 have g1:=s4_refl (b:=decide (a.num<0)) h1
 have g2:=s4_refl (b:=false) h2
 clear h1 h2 ha
 unfold encR
 generalize digs a.num.natAbs=l1 at *
 generalize dd a.den=l2 at *
 generalize decide (a.num<0)=b at *
 simp only [bv] at g1 g2
 simp -implicitDefEqProofs (maxSteps:=9^8) only [Qc8,g1,g2,go_sem,Qac,Qab,iv,bv,reduceCtorEq,↓reduceIte,Nat.reduceEqDiff]
def QiY (d d':D) (i:Int):St:=mkS [(0,.d d),(1,.d d'),(5,ai i)] []
theorem s6_go {d d':D} {l:List Rat} (h1:RwR d l) (h2:RwR d' l) (sl:SzL 100000000000 l) (hl:l.length≤1000000000000) {i:Nat} (hi:i<l.length):X G QaF (QiY d d' i)=some (.n,QiY d d' ((i+1:Nat):Int)):=by
 have e1:decide ((i:Int)<(l.length:Int))=true:=lt_t (by omega)
 have e2:w64 ((i:Int)+1)=((i+1:Nat):Int):=by rw [Qae (by omega) (by omega)];rfl
 have ll:=h1.len
 have x1:=h1.ixa hi
 have x2:=h2.ixa hi
 have y1:=fun h=>ldR h l hi
 have g:=s5_refl (a:=l.getD i 0) (sl.getD (by omega) i)
 generalize l.getD i 0=q at *
 generalize cRs (l.drop i)=cs at *
 simp only [encR,bv] at y1 g
 simp -implicitDefEqProofs (maxSteps:=9^8) only [QaF,QiY,ll,x1,x2,y1,e1,e2,g,go_sem,iv,bv,reduceCtorEq,↓reduceIte,Nat.reduceEqDiff]
theorem s6_stop {d d':D} {l:List Rat} (h1:RwR d l):X G QaF (QiY d d' (l.length:Nat))=some (.x 0,mkS [] []):=by
 have e1:decide ((l.length:Int)<(l.length:Int))=false:=lt_f (by omega)
 have ll:=h1.len
 simp -implicitDefEqProofs (maxSteps:=9^8) only [QaF,QiY,ll,e1,go_sem,iv,bv,reduceCtorEq,↓reduceIte,Nat.reduceEqDiff]
theorem s6_loop {d d':D} {l:List Rat} (h1:RwR d l) (h2:RwR d' l) (sl:SzL 100000000000 l) (hl:l.length≤1000000000000):∀ j i:Nat,i+j=l.length→X G (.loop QaF) (QiY d d' i)=some (.x 0,mkS [] [])
 | 0,i,h=>by
  have:i=l.length:=by omega
  subst this
  rw [Qag,s6_stop h1];rfl
 | j+1,i,h=>by
  rw [Qag,s6_go h1 h2 sl hl (by omega),Option.bind_some,if_pos rfl]
  exact s6_loop h1 h2 sl hl j (i+1) (by omega)
theorem s6_refl {d d':D} {l:List Rat} (h1:RwR d l) (h2:RwR d' l) (sl:SzL 100000000000 l) (hl:l.length≤1000000000000):Qah G QbJ [d,d']=some (.d (bv true)):=by
 rw [Qad (cf:=Qc5) rfl]
 have h:=s6_loop h1 h2 sl hl l.length 0 (by omega)
 have e1:((l.length:Int) != (l.length:Int))=false:=bne_self_eq_false _
 have ll:=h1.len
 have ll2:=h2.len
 simp only [QiY,go_sem,nc0] at h
 simp -implicitDefEqProofs (maxSteps:=9^8) only [Qc5,h,ll,ll2,e1,go_sem,iv,bv,reduceCtorEq,↓reduceIte,Nat.reduceEqDiff]
/-! ### rat.Same -/
end Go.AM

/- Boxes of whole numbers, folded. -/
namespace Go.AM
open Go Go.RowKit

def cI (x:Int):List A:=[.d (.v (.bool (decide (x<0)))),.d (dg (digs x.natAbs))]
def bI (x:Int):Obj:=⟨0,0,cI x,false⟩
theorem one_encI (x:Int):A.one (.d (encI x))=false:=rfl
theorem Qsu (x:Int):QaA (.d (encI x))=cI x:=rfl
theorem dc_encI (x:Int):QbZ (.d (encI x))=some [.v (.bool (decide (x<0))),dg (digs x.natAbs)]:=rfl
theorem all_cI (x:Int):(cI x).all A.one=true:=by
 simp only [cI,List.all_cons,List.all_nil,QrE,QnO,Bool.and_self]
theorem len_cI (x:Int):(cI x).length=2:=rfl
theorem refs_cI (ks:List Key) (x:Int):Qdg ks (cI x)=true:=rfl
theorem ld_cI (x:Int):Qab (some 2) 0 (cI x)=some (.d (encI x)):=rfl
theorem ld_cI0 (x:Int):Qab none 0 (cI x)=some (.d (.v (.bool (decide (x<0))))):=rfl
theorem ld_cI1 (x:Int):Qab none 1 (cI x)=some (.d (dg (digs x.natAbs))):=rfl
theorem st_cI (x y:Int):Qac 0 (cI x) (cI y)=some (cI x):=rfl
theorem st_cIn (x:Int) (u v:A):Qac 0 (cI x) [u,v]=some (cI x):=rfl
theorem ad_cI (x:Int):allD (cI x)=some [.v (.bool (decide (x<0))),dg (digs x.natAbs)]:=rfl
theorem ag_encI (x:Int):aggA (.d (encI x))=some [.v (.bool (decide (x<0))),dg (digs x.natAbs)]:=rfl
attribute [go_sem] one_encI Qsu dc_encI all_cI len_cI refs_cI ld_cI ld_cI0 ld_cI1 st_cI st_cIn ad_cI ag_encI
end Go.AM

/- Bytes: arrays of bytes, the encoding of whole numbers (wire.Int, ref01.Int, both Ints, Same). -/
namespace Go.AM
open Go Go.RowKit

/-! ### Qr0 -/
def dlF:Nat→Nat→Nat
 | 0,_=>0
 | f+1,m=>if m=0 then 0 else 1+dlF f (m/256)
def dl (m:Nat):Nat:=dlF 8 m
theorem dlF_le:∀ (f m:Nat),dlF f m≤f
 | 0,_=>Nat.le_refl _
 | f+1,m=>by
  rw [dlF];split
  ·omega
  ·have:=dlF_le f (m/256);omega
theorem dlF_lt:∀ (f m i:Nat),m<256^f→(0<m/256^i↔i<dlF f m)
 | 0,m,i,h=>by
  have:m=0:=by simpa using h
  subst this
  rw [Nat.zero_div,dlF];omega
 | f+1,m,i,h=>by
  rw [dlF]
  by_cases h0:m=0
  ·subst h0;rw [Nat.zero_div,if_pos rfl];omega
  ·rw [if_neg h0]
   cases i with
   | zero=>rw [Nat.pow_zero,Nat.div_one];omega
   | succ i =>
    have h1:m/256<256^f:=by rw [Nat.pow_succ] at h;omega
    have:=dlF_lt f (m/256) i h1
    rw [Nat.pow_succ,Nat.mul_comm,← Nat.div_div_eq_div_mul,this]
    omega
theorem QrN (m:Nat):dl m≤8:=dlF_le _ _
theorem Qnq {m:Nat} (h:m<18446744073709551616) (i:Nat):0<m/256^i↔i<dl m:=dlF_lt 8 m i h
def bt (m i:Nat):Int:=((m/256^i%256:Nat):Int)
theorem bt_b (m i:Nat):0≤bt m i∧bt m i<256:=by unfold bt;omega
def flp (n:Int) (x:Int):Int:=if n<0 then 255-x else x
def mag (n:Int):Nat:=(if n<0 then -1-n else n).toNat
theorem mag_b {n:Int} (h:I64 n):mag n<9223372036854775808:=by
 obtain ⟨h1,h2⟩:=h
 unfold mag;split<;>omega
def dwn (n:Int):Nat→List Int
 | 0=>[]
 | i+1=>flp n (bt (mag n) i) :: dwn n i
def wI (n:Int):List Int:=flp n (128+(dl (mag n):Nat)) :: dwn n (dl (mag n))
theorem QlI (n:Int):∀ i,(dwn n i).length=i
 | 0=>rfl
 | i+1=>by rw [dwn,List.length_cons,QlI n i]
theorem Qjx (n:Int):(wI n).length≤9:=by
 rw [wI,List.length_cons,QlI]
 have:=QrN (mag n);omega
def Byt (l:List Int):Prop:=∀ x∈l,0≤x∧x<256
theorem flp_b {n x:Int} (h:0≤x∧x<256):0≤flp n x∧flp n x<256:=by unfold flp;split<;>omega
theorem dwn_byt (n:Int):∀ i,Byt (dwn n i)
 | 0=>fun x hx=>by cases hx
 | i+1=>fun x hx=>by
  rcases List.mem_cons.1 hx with rfl | h
  ·exact flp_b (bt_b _ _)
  ·exact dwn_byt n i x h
theorem Qqw (n:Int):Byt (wI n):=fun x hx=>by
 rcases List.mem_cons.1 hx with rfl | h
 ·have:=QrN (mag n);exact flp_b (by omega)
 ·exact dwn_byt n _ x h
def wJ:List Int→List Int
 | []=>[]
 | n :: l=>wI n++wJ l
def wL (l:List Int):List Int:=wI (l.length:Nat)++wJ l
theorem wJ_len:∀ l:List Int,(wJ l).length≤9*l.length
 | []=>Nat.le_refl _
 | n :: l=>by
  rw [wJ,List.length_append,List.length_cons]
  have:=Qjx n;have:=wJ_len l;omega
theorem wJ_byt:∀ l:List Int,Byt (wJ l)
 | []=>fun x hx=>by cases hx
 | n :: l=>fun x hx=>by
  rcases List.mem_append.1 hx with h | h
  ·exact Qqw n x h
  ·exact wJ_byt l x h
theorem wL_byt (l:List Int):Byt (wL l):=fun x hx=>by
 rcases List.mem_append.1 hx with h | h
 ·exact Qqw _ x h
 ·exact wJ_byt l x h
theorem wL_len (l:List Int):(wL l).length≤9+9*l.length:=by
 rw [wL,List.length_append]
 have:=Qjx ((l.length:Nat):Int);have:=wJ_len l;omega
/-! ### Rows and arrays of bytes -/
def uv (x:Int):D:=.v (.int .u8 x)
def rowU (l:List Int):D:=.row l.length (l.map uv)
def QcO (l:List Int):List A:=l.map fun x=>A.d (.v (.int .u8 x))
def arrU (n:Nat) (l:List Int):Obj:=⟨1,n,QcO l,false⟩
theorem Qbn (l:List Int):(QcO l).length=l.length:=by simp [QcO]
theorem QgW (l:List Int) (v:Int):QcO l++[A.d (.v (.int .u8 v))]=QcO (l++[v]):=by simp [QcO]
theorem Qed (l m:List Int):QcO l++List.map A.d (m.map uv)=QcO (l++m):=by simp [QcO,uv]
theorem Qh2 (v:Int):QcO [v]=[A.d (.v (.int .u8 v))]:=rfl
theorem QaN (ks:List Key) (l:List Int):Qdg ks (QcO l)=true:=by
 induction l with
 | nil=>rfl
 | cons x r ih=>simpa [QcO,Qdg,refs] using ih
theorem QeA (l:List Int):allD (QcO l)=some (l.map uv):=by
 induction l with
 | nil=>rfl
 | cons x r ih =>
  simp only [QcO,List.map_cons,allD] at ih ⊢
  rw [ih];rfl
theorem Qfz (l:List Int):(l.map uv).all D.one=true:=by
 induction l with
 | nil=>rfl
 | cons x r ih=>simp [uv,D.one,A.one]
theorem Qjm (l:List Int):List.map A.d (l.map uv)=QcO l:=by simp [QcO,uv]
def gU (k:Nat) (l:List Int):A:=if l=[] then .d (.z true) else .own [k] l.length
def gUH (k:Nat) (l:List Int):List (Key×Obj):=if l=[] then [] else [([k],arrU l.length l)]
theorem Qkd (k:Nat):gU k []=.d (.z true):=rfl
theorem QiL (k:Nat):gUH k []=[]:=rfl
theorem Qnp {k:Nat} {l:List Int} (h:l≠[]):gU k l=.own [k] l.length:=if_neg h
theorem Qko {k:Nat} {l:List Int} (h:l≠[]):gUH k l=[([k],arrU l.length l)]:=if_neg h
theorem gU_one (k:Nat) (v:Int):gU k [v]=.own [k] 1:=rfl
theorem gUH_one (k:Nat) (v:Int):gUH k [v]=[([k],arrU 1 [v])]:=rfl
theorem gU_snoc (k:Nat) (l:List Int) (v:Int):gU k (l++[v])=.own [k] (l.length+1):=by rw [Qnp (by simp)];simp
theorem gUH_snoc (k:Nat) (l:List Int) (v:Int):gUH k (l++[v])=[([k],arrU (l.length+1) (l++[v]))]:=by rw [Qko (by simp)];simp
def RwU (d:D) (l:List Int):Prop:=(d=.z true∧l=[])∨d=rowU l
theorem RwU.row (l:List Int):RwU (rowU l) l:=.inr rfl
theorem RwU.len {d:D} {l:List Int} (h:RwU d l):lenA (.d d)=some l.length:=by
 rcases h with ⟨rfl,rfl⟩ | rfl<;>rfl
theorem RwU.ixn {d:D} {l:List Int} (hr:RwU d l) {j:Nat} (h1:j<l.length) (h:Hp):ixaA h 1 (j:Int) (.d d)=some (.d (.rp ((l.drop j).map uv))):=by
 rcases hr with ⟨rfl,rfl⟩ | rfl
 ·simp at h1
 ·simp only [ixaA,guardO,rowU]
  rw [if_pos (by omega),Nat.mul_one,List.map_drop,Int.toNat_natCast]
theorem ldu (h:Hp) (l:List Int) {j:Nat} (h1:j<l.length):Qco h none (.d (.rp ((l.drop j).map uv)))=some (.d (.v (.int .u8 (l.getD j 0)))):=by
 simp only [Qco,QjV]
 rw [List.head?_map,List.head?_drop]
 simp [h1,uv]
theorem RwU.src {d:D} {l:List Int} (hr:RwU d l) (st:St):src st (.d d)=some (l.length,l.map uv):=by
 rcases hr with ⟨rfl,rfl⟩ | rfl<;>rfl
theorem RwU.ne {d:D} {l:List Int} (hr:RwU d l) (h:l≠[]):d=rowU l:=by
 rcases hr with ⟨_,h0⟩ | rfl
 ·exact absurd h0 h
 ·rfl
theorem Qhm {n:Nat} (h:n≤140737488351232):(n≤bound)=True:=eq_true (by simp only [bound];omega)
def rU (l:List Int):R:=.own 1 l.length (l.map uv)
theorem u8m {n:Int} (h:0≤n∧n<256):IntKind.u8.wrap n=n:=by
 unfold IntKind.wrap
 simp only [IntKind.signed,Bool.false_and,IntKind.bits]
 have:(2:Int)^8=256:=rfl
 rw [this]
 exact Int.emod_eq_of_lt h.1 h.2
theorem u8w (n:Int):IntKind.u8.wrap n=n%256:=by
 unfold IntKind.wrap
 simp only [IntKind.signed,Bool.false_and,IntKind.bits]
 rfl
theorem xor8_0 {a:Int} (h:0≤a∧a<256):binI .xor .u8 a 0=some (.int .u8 a):=by
 obtain ⟨n,rfl⟩:∃ n:Nat,a=(n:Int):=⟨a.toNat,by omega⟩
 show some (Value.int .u8 (IntKind.u8.wrap (((BitVec.ofInt 8 (n:Int)) ^^^ BitVec.ofInt 8 0).toNat:Nat)))=_
 have e:(BitVec.ofInt 8 (n:Int) ^^^ BitVec.ofInt 8 0)=BitVec.ofNat 8 n:=by
  rw [BitVec.ofInt_natCast,show BitVec.ofInt 8 0=0#8 from rfl,BitVec.xor_zero]
 rw [e,BitVec.toNat_ofNat,u8w]
 congr 2
 omega
theorem xor8_1 {a:Int} (h:0≤a∧a<256):binI .xor .u8 a 255=some (.int .u8 (255-a)):=by
 obtain ⟨n,rfl⟩:∃ n:Nat,a=(n:Int):=⟨a.toNat,by omega⟩
 show some (Value.int .u8 (IntKind.u8.wrap (((BitVec.ofInt 8 (n:Int)) ^^^ BitVec.ofInt 8 255).toNat:Nat)))=_
 have e:(BitVec.ofInt 8 (n:Int) ^^^ BitVec.ofInt 8 255) = ~~~ (BitVec.ofNat 8 n):=by
  rw [BitVec.ofInt_natCast,show BitVec.ofInt 8 255=BitVec.allOnes 8 from rfl,BitVec.xor_allOnes]
 rw [e,BitVec.toNat_not,BitVec.toNat_ofNat,u8w]
 congr 2
 omega
theorem not64 {a:Int} (h:0≤a∧a<18446744073709551616):unV .xor (.int .u64 a)=some (.int .u64 (18446744073709551615-a)):=by
 obtain ⟨n,rfl⟩:∃ n:Nat,a=(n:Int):=⟨a.toNat,by omega⟩
 show some (Value.int .u64 (IntKind.u64.wrap (((BitVec.ofInt 64 IntKind.u64.max) ^^^ BitVec.ofInt 64 (n:Int)).toNat:Nat)))=_
 have e:(BitVec.ofInt 64 IntKind.u64.max ^^^ BitVec.ofInt 64 (n:Int)) = ~~~ (BitVec.ofNat 64 n):=by
  rw [BitVec.ofInt_natCast,show BitVec.ofInt 64 IntKind.u64.max=BitVec.allOnes 64 by decide,BitVec.allOnes_xor]
 rw [e,BitVec.toNat_not,BitVec.toNat_ofNat,QkQ]
 congr 2
 omega
theorem npow_cast (b i:Nat):((b^i:Nat):Int)=(b:Int)^i:=by
 induction i with
 | zero=>rfl
 | succ i ih=>rw [Nat.pow_succ,Int.pow_succ,← ih];rfl
theorem shr64 (m i:Nat) (h:i≤8):shI .shr .u64 (m:Int) ((8*i:Nat):Int)=some (.int .u64 ((m/256^i:Nat):Int)):=by
 unfold shI
 rw [if_neg (by omega)]
 have e:min ((8*i:Nat):Int).toNat IntKind.u64.bits=8*i:=by
  simp only [IntKind.bits,Int.toNat_natCast];omega
 simp only [e]
 congr 2
 have e2:(2:Int)^(8*i)=((256^i:Nat):Int):=by
  rw [npow_cast,Int.pow_mul];rfl
 rw [e2,Int.fdiv_eq_ediv_of_nonneg _ (Int.natCast_nonneg _)]
 rfl
def flb (n:Int):Int:=if n<0 then 255 else 0
theorem xor8_f (n:Int) {a:Int} (h:0≤a∧a<256):binI .xor .u8 a (flb n)=some (.int .u8 (flp n a)):=by
 unfold flb flp
 split
 ·exact xor8_1 h
 ·exact xor8_0 h
variable [Its]
/-! ### wire.Int -/
def Qo0 (m fl k:Int):St:=mkS [(3,.d (.v (.int .u64 m))),(4,.d (.v (.int .u8 fl))),(5,ai k)] []
theorem wk_loop {m:Nat} {fl:Int} (hm:m<18446744073709551616):∀ k:Nat,k≤8→dl m≤k→X G (.loop QeS) (Qo0 m fl k)=some (.x 0,Qo0 m fl (dl m:Nat))
 | 0,_,h=>by
  have e1:decide ((0:Int)>0)=false:=rfl
  have hd:dl m=0:=by omega
  rw [Qag,hd]
  simp -implicitDefEqProofs (maxSteps:=9^8) only [QeS,Qo0,e1,go_sem,reduceCtorEq,↓reduceIte,Nat.reduceEqDiff,iv]
 | k+1,hk,h=>by
  have e1:decide (((k+1:Nat):Int)>0)=true:=gt_t (by omega)
  have e2:w64 (((k+1:Nat):Int)-1)=(k:Int):=by rw [Qae (by omega) (by omega)];omega
  have e3:w64 (8*(k:Int))=((8*k:Nat):Int):=by rw [Qae (by omega) (by omega)];omega
  have e4:=shr64 m k (by omega)
  have hl:=Qnq hm k
  rw [Qag]
  by_cases hc:k<dl m
  ·have hd:dl m=k+1:=by omega
   have e5:decide (((m/256^k:Nat):Int)>0)=true:=gt_t (by have:=hl.2 hc;omega)
   rw [hd]
   generalize ((m/256^k:Nat):Int)=q at *
   simp -implicitDefEqProofs (maxSteps:=9^8) only [QeS,Qo0,e1,e2,e3,e4,e5,go_sem,reduceCtorEq,↓reduceIte,Nat.reduceEqDiff,iv]
  ·have e5:decide (((m/256^k:Nat):Int)>0)=false:=gt_f (fun h2=>hc (hl.1 (by omega)))
   have hx:X G QeS (Qo0 m fl ((k+1:Nat):Int))=some (.n,Qo0 m fl k):=by
    generalize ((m/256^k:Nat):Int)=q at *
    simp -implicitDefEqProofs (maxSteps:=9^8) only [QeS,Qo0,e1,e2,e3,e4,e5,go_sem,reduceCtorEq,↓reduceIte,Nat.reduceEqDiff,iv]
   rw [hx,Option.bind_some,if_pos rfl]
   exact wk_loop hm k (by omega) (by omega)
def Qsy (m fl:Int) (L:List Int) (i:Int):St:=mkS [(3,.d (.v (.int .u64 m))),(4,.d (.v (.int .u8 fl))),(6,.own [29] L.length),(7,ai i)] [([29],arrU L.length L)]
def wo_en (L:List Int):St:=mkS [(6,.own [29] L.length)] [([29],arrU L.length L)]
theorem wo_loop {n:Int} (hm:mag n<18446744073709551616):∀ (i:Nat) (L:List Int),i≤8→L.length+i≤100→X G (.loop Qf5) (Qsy (mag n:Nat) (flb n) L ((i:Int)-1))=some (.x 2,wo_en (L++dwn n i))
 | 0,L,_,_=>by
  have e1:decide ((-1:Int)≥0)=false:=rfl
  rw [Qag,show ((0:Nat):Int)-1 = -1 from rfl,dwn,List.append_nil]
  simp -implicitDefEqProofs (maxSteps:=9^8) only [Qf5,Qsy,wo_en,arrU,Qaa,QaN,e1,go_sem,reduceCtorEq,↓reduceIte,Nat.reduceEqDiff,iv]
 | i+1,L,hi,hL=>by
  have e1:decide ((i:Int)≥0)=true:=ge_t (by omega)
  have e2:w64 ((i:Int)-1)=(i:Int)-1:=Qae (by omega) (by omega)
  have e3:w64 (8*(i:Int))=((8*i:Nat):Int):=by rw [Qae (by omega) (by omega)];omega
  have e4:=shr64 (mag n) i (by omega)
  have e5:IntKind.u8.wrap ((mag n/256^i:Nat):Int)=bt (mag n) i:=by rw [u8w];unfold bt;omega
  have e6:=xor8_f n (bt_b (mag n) i)
  have f1:=Qhm (n:=L.length+1) (by omega)
  rw [Qag,show ((i+1:Nat):Int)-1=(i:Int) by omega,dwn,show L++flp n (bt (mag n) i) :: dwn n i=(L++[flp n (bt (mag n) i)])++dwn n i by simp]
  have hx:X G Qf5 (Qsy (mag n:Nat) (flb n) L i)=some (.n,Qsy (mag n:Nat) (flb n) (L++[flp n (bt (mag n) i)]) ((i:Int)-1)):=by
   have hlen:(L++[flp n (bt (mag n) i)]).length=L.length+1:=by simp
   simp only [Qsy,hlen]
   simp -implicitDefEqProofs only [go_sem,Option.some.injEq,Value.int.injEq] at e6
   generalize flp n (bt (mag n) i)=z at *
   generalize ((mag n/256^i:Nat):Int)=q at *
   generalize bt (mag n) i=b at *
   generalize flb n=fl at *
   generalize ((mag n:Nat):Int)=m at *
   simp -implicitDefEqProofs (maxSteps:=9^8) only [Qf5,arrU,Qaa,QaN,Qbn,QgW,f1,D.one,Qa2,e1,e2,e3,e4,e5,e6,go_sem,reduceCtorEq,↓reduceIte,Nat.reduceEqDiff,iv]
  rw [hx,Option.bind_some,if_pos rfl]
  exact wo_loop hm i _ (by omega) (by simp;omega)
theorem Qk4 {n:Int} (hn:I64 n):Qah G Qic [iv n]=some (rU (wI n)):=by
 rw [Qad (cf:=QkI) rfl]
 have hm:=mag_b hn
 have hd:=QrN (mag n)
 have h1:=wk_loop (m:=mag n) (fl:=flb n) (by omega) 8 (by omega) hd
 rw [show ((8:Nat):Int)=8 from rfl] at h1
 have h2:=wo_loop (n:=n) (by omega) (dl (mag n)) [flp n (128+(dl (mag n):Nat))] hd (by rw [List.length_singleton];omega)
 obtain ⟨h3,h4⟩:=hn
 have e3:w64 (128+(dl (mag n):Nat))=128+(dl (mag n):Nat):=Qae (by omega) (by omega)
 have e4:IntKind.u8.wrap (128+(dl (mag n):Nat))=128+(dl (mag n):Nat):=u8m (by omega)
 have e5:=xor8_f n (a:=128+(dl (mag n):Nat)) (by omega)
 have e6:w64 ((dl (mag n):Nat)-1)=(dl (mag n):Nat)-1:=Qae (by omega) (by omega)
 rw [wI]
 have hl:([flp n (128+(dl (mag n):Nat))]++dwn n (dl (mag n)))=flp n (128+(dl (mag n):Nat)) :: dwn n (dl (mag n)):=rfl
 rw [hl] at h2
 generalize hw:flp n (128+(dl (mag n):Nat)) :: dwn n (dl (mag n))=W at *
 simp only [Qo0,Qsy,wo_en,arrU,List.length_cons,List.length_nil,go_sem] at h1 h2
 have c1:=Qh2 (flp n (128+(dl (mag n):Nat)))
 generalize flp n (128+(dl (mag n):Nat))=hd0 at *
 rw [c1] at h2
 by_cases hs:n<0
 ·have s1:decide (n<0)=true:=lt_t hs
  have m1:n%18446744073709551616=n+18446744073709551616:=by omega
  have m2:=not64 (a:=n+18446744073709551616) (by omega)
  have m3:18446744073709551615-(n+18446744073709551616)=((mag n:Nat):Int):=by unfold mag;rw [if_pos hs];omega
  rw [m3] at m2
  simp -implicitDefEqProofs only [go_sem,Option.some.injEq,Value.int.injEq] at m2
  have fb:flb n=255:=if_pos hs
  rw [fb] at h1 h2 e5
  simp -implicitDefEqProofs only [go_sem,Option.some.injEq,Value.int.injEq] at e5
  generalize ((mag n:Nat):Int)=m at *
  generalize ((dl (mag n):Nat):Int)=k at *
  simp -implicitDefEqProofs (maxSteps:=9^8) only [QkI,rU,Qaa,c1,QaN,QeA,s1,m1,m2,h1,h2,e3,e4,e5,e6,go_sem,reduceCtorEq,↓reduceIte,Nat.reduceEqDiff,iv]
 ·have s1:decide (n<0)=false:=lt_f hs
  have m1:n%18446744073709551616=((mag n:Nat):Int):=by unfold mag;rw [if_neg hs];omega
  have fb:flb n=0:=if_neg hs
  rw [fb] at h1 h2 e5
  simp -implicitDefEqProofs only [go_sem,Option.some.injEq,Value.int.injEq] at e5
  generalize ((mag n:Nat):Int)=m at *
  generalize ((dl (mag n):Nat):Int)=k at *
  simp -implicitDefEqProofs (maxSteps:=9^8) only [QkI,rU,Qaa,c1,QaN,QeA,s1,m1,h1,h2,e3,e4,e5,e6,go_sem,reduceCtorEq,↓reduceIte,Nat.reduceEqDiff,iv]
end Go.AM

/- Reading whole numbers from bytes: the plain part. -/
namespace Go.AM
open Go Go.RowKit
def fx (g:Bool) (x:Int):Int:=if g then 255-x else x
theorem fx_b {g:Bool} {x:Int} (h:0≤x∧x<256):0≤fx g x∧fx g x<256:=by unfold fx;split<;>omega
def gv (g:Bool):Nat→List Int→Nat
 | m,[]=>m
 | m,x :: r=>gv g (256*m+(fx g x).toNat) r
def gk (h:Int):Int:=if h<128 then 127-h else h-128
def gI:List Int→Int×Int×Int
 | []=>(0,0,3)
 | h :: t=>if gk h>8 then (0,0,2) else if (t.length:Int)<gk h then (0,0,3)
  else if 0<gk h∧fx (decide (h<128)) (t.getD 0 0)=0 then (0,0,2)
  else if 9223372036854775808≤gv (decide (h<128)) 0 (t.take (gk h).toNat) then (0,0,2)
  else (if h<128 then -1-(gv (decide (h<128)) 0 (t.take (gk h).toNat):Int) else (gv (decide (h<128)) 0 (t.take (gk h).toNat):Int),gk h+1,0)
theorem gk_b {h:Int} (hb:0≤h∧h<256):0≤gk h∧gk h<128:=by unfold gk;split<;>omega
theorem Qle (g:Bool):∀ (r:List Int) (m:Nat),gv g m r=m*256^r.length+gv g 0 r
 | [],m=>by simp [gv]
 | x :: r,m=>by
  rw [gv,gv,Qle g r (256*m+(fx g x).toNat),Qle g r (256*0+(fx g x).toNat),List.length_cons,Nat.pow_succ,Nat.add_mul,Nat.add_mul]
  have:256*m*256^r.length=m*(256^r.length*256):=by rw [Nat.mul_comm 256 m,Nat.mul_assoc,Nat.mul_comm 256]
  omega
theorem Byt.tail {x:Int} {l:List Int} (h:Byt (x :: l)):Byt l:=fun y hy=>h y (List.mem_cons_of_mem _ hy)
theorem Byt.head {x:Int} {l:List Int} (h:Byt (x :: l)):0≤x∧x<256:=h x (List.mem_cons_self ..)
theorem Byt.take {l:List Int} (h:Byt l) (n:Nat):Byt (l.take n):=fun y hy=>h y (List.mem_of_mem_take hy)
theorem Byt.drop {l:List Int} (h:Byt l) (n:Nat):Byt (l.drop n):=fun y hy=>h y (List.mem_of_mem_drop hy)
theorem Byt.app {l m:List Int} (h:Byt l) (k:Byt m):Byt (l++m):=fun y hy=>by
 rcases List.mem_append.1 hy with a | a
 ·exact h y a
 ·exact k y a
theorem Byt.getD {l:List Int} (h:Byt l) (i:Nat):0≤l.getD i 0∧l.getD i 0<256:=by
 by_cases hi:i<l.length
 ·rw [List.getD_eq_getElem?_getD,List.getElem?_eq_getElem hi];exact h _ (List.getElem_mem hi)
 ·rw [List.getD_eq_getElem?_getD,List.getElem?_eq_none (by omega)];exact ⟨by simp,by simp⟩
theorem Qsc (g:Bool):∀ (r:List Int),Byt r→gv g 0 r<256^r.length
 | [],_=>by simp [gv]
 | x :: r,h=>by
  rw [gv,Qle,List.length_cons,Nat.pow_succ]
  have h1:=Qsc g r h.tail
  have h2:=fx_b (g:=g) h.head
  have h3:(256*0+(fx g x).toNat)*256^r.length≤255*256^r.length:=Nat.mul_le_mul_right _ (by omega)
  omega
theorem dl_uniq {m k:Nat} (hm:m<256^k) (hk:k≤8) (h:k=0∨256^(k-1)≤m):dl m=k:=by
 have h64:m<18446744073709551616:=Nat.lt_of_lt_of_le hm (Nat.le_trans (Nat.pow_le_pow_right (by decide) hk) (by decide))
 have a:¬ k<dl m:=fun hlt=>by
  have:=(Qnq h64 k).2 hlt
  have:m/256^k=0:=Nat.div_eq_of_lt hm
  omega
 have b:¬ dl m<k:=fun hlt=>by
  have h1:256^(k-1)≤m:=by
   rcases h with h | h
   ·omega
   ·exact h
  have h2:¬ (k-1<dl m):=by omega
  refine h2 ((Qnq h64 (k-1)).1 ?_)
  exact Nat.div_pos h1 (Nat.pow_pos (by decide))
 omega
theorem dl_lt_of {m k:Nat} (hm:m<256^k) (hk:k≤8):dl m≤k:=by
 have h64:m<18446744073709551616:=Nat.lt_of_lt_of_le hm (Nat.le_trans (Nat.pow_le_pow_right (by decide) hk) (by decide))
 refine Nat.le_of_not_lt fun hlt=>?_
 have:=(Qnq h64 k).2 hlt
 have:m/256^k=0:=Nat.div_eq_of_lt hm
 omega
theorem dwn_gv {n:Int} {g:Bool} (hg:g=decide (n<0)):∀ (r:List Int) (A:Nat),Byt r→mag n=A*256^r.length+gv g 0 r→dwn n r.length=r
 | [],A,_,_=>rfl
 | x :: r,A,h,hm=>by
  have h2:=fx_b (g:=g) h.head
  have h1:=Qsc g r h.tail
  rw [gv,Qle,List.length_cons,Nat.pow_succ] at hm
  have e:mag n=(256*A+(fx g x).toNat)*256^r.length+gv g 0 r:=by
   simp only [Nat.mul_zero,Nat.zero_add] at hm
   rw [hm,Nat.add_mul,Nat.mul_comm 256 A,Nat.mul_assoc A 256,Nat.mul_comm 256 (256^r.length)];omega
  rw [List.length_cons,dwn,dwn_gv hg r _ h.tail e]
  congr 1
  have eb:bt (mag n) r.length=fx g x:=by
   unfold bt
   have:mag n/256^r.length=256*A+(fx g x).toNat:=by
    rw [e,Nat.mul_comm,Nat.mul_add_div (Nat.pow_pos (by decide)),Nat.div_eq_of_lt h1,Nat.add_zero]
   rw [this]
   omega
  rw [eb,hg]
  have hx:=h.head
  unfold flp fx
  by_cases hn:n<0
  ·simp only [hn,decide_true,if_true];omega
  ·simp only [hn,decide_false,if_false,Bool.false_eq_true]
theorem wI_gv {h:Int} {t:List Int} (hh:0≤h∧h<256) (ht:Byt t) (hk:t.length=(gk h).toNat) (h8:gk h≤8) (h0:gk h=0∨fx (decide (h<128)) (t.getD 0 0)≠0) (hm:gv (decide (h<128)) 0 t<9223372036854775808) :
    wI (if h<128 then -1-(gv (decide (h<128)) 0 t:Int) else (gv (decide (h<128)) 0 t:Int))=h :: t:=by
  obtain ⟨g,hg⟩:∃ g,decide (h<128)=g:=⟨_,rfl⟩
  rw [hg] at h0 hm ⊢
  obtain ⟨n,hn⟩:∃ n,n=(if h<128 then -1-(gv g 0 t:Int) else (gv g 0 t:Int)):=⟨_,rfl⟩
  rw [← hn]
  have b:=gk_b hh
  have en:(n<0↔h<128):=by rw [hn];split<;>constructor<;>intro<;>omega
  have em:mag n=gv g 0 t:=by
    unfold mag
    rw [hn]
    by_cases c:h<128
    · rw [if_pos c,if_pos (by omega)];omega
    · rw [if_neg c,if_neg (by omega)];omega
  have hgn:g=decide (n<0):=by rw [← hg];exact decide_eq_decide.2 en.symm
  have hlt:=Qsc g t ht
  have ed:dl (mag n)=t.length:=by
    rw [em]
    refine dl_uniq hlt (by omega) ?_
    rcases h0 with h0 | h0
    · left;omega
    · match t,ht,hk with
      | [],_,_=>left;rfl
      | x :: r,ht,hk =>
        right
        have hx:(x :: r).getD 0 0=x:=rfl
        rw [hx] at h0
        have b1:=fx_b (g:=g) ht.head
        rw [gv,Qle,List.length_cons,Nat.add_sub_cancel]
        have:1*256^r.length≤(256*0+(fx g x).toNat)*256^r.length:=Nat.mul_le_mul_right _ (by omega)
        omega
  rw [wI,ed,dwn_gv hgn t 0 ht (by rw [em];omega)]
  congr 1
  unfold flp
  rw [show ((t.length:Nat):Int)=gk h by omega]
  unfold gk
  by_cases c:h<128
  · rw [if_pos (en.2 c),if_pos c];omega
  · rw [if_neg (fun k=>c (en.1 k)),if_neg c];omega
theorem dwn_gI {n:Int} (hn:I64 n) (g:Bool) (hg:g=decide (n<0)):∀ i,gv g 0 (dwn n i)=mag n%256^i
 | 0=>by rw [dwn,gv,Nat.pow_zero,Nat.mod_one]
 | i+1=>by
  have e:fx g (flp n (bt (mag n) i))=bt (mag n) i:=by
   rw [hg]
   have:=bt_b (mag n) i
   unfold flp fx
   by_cases hn:n<0
   ·simp only [hn,decide_true,if_true];omega
   ·simp only [hn,decide_false,if_false,Bool.false_eq_true]
  rw [dwn,gv,Qle,dwn_gI hn g hg i,QlI,e]
  have hb:(bt (mag n) i).toNat=mag n/256^i%256:=by unfold bt;omega
  rw [hb,Nat.pow_succ,Nat.mod_mul]
  rw [Nat.mul_zero,Nat.zero_add,Nat.mul_comm]
  omega
theorem gI_wI {n:Int} (hn:I64 n) (r:List Int):gI (wI n++r)=(n,((wI n).length:Int),0):=by
 have hd:=QrN (mag n)
 have hm:=mag_b hn
 have h64:mag n<18446744073709551616:=by omega
 have ek:gk (flp n (128+(dl (mag n):Nat)))=(dl (mag n):Nat):=by
  unfold gk flp
  by_cases c:n<0
  ·rw [if_pos c,if_pos (by omega)];omega
  ·rw [if_neg c,if_neg (by omega)];omega
 have eg:decide (flp n (128+(dl (mag n):Nat))<128)=decide (n<0):=by
  refine decide_eq_decide.2 ?_
  unfold flp
  by_cases c:n<0
  ·rw [if_pos c];constructor<;>intro<;>omega
  ·rw [if_neg c];constructor<;>intro<;>omega
 have eg':flp n (128+(dl (mag n):Nat))<128↔n<0:=decide_eq_decide.1 eg
 have ew:wI n=flp n (128+(dl (mag n):Nat)) :: dwn n (dl (mag n)):=rfl
 rw [ew,List.cons_append,gI,ek,eg]
 have hl:=QlI n (dl (mag n))
 rw [if_neg (by omega),if_neg (by rw [List.length_append,hl];omega)]
 have et:(dwn n (dl (mag n))++r).take ((dl (mag n):Nat):Int).toNat=dwn n (dl (mag n)):=by
  rw [Int.toNat_natCast,List.take_append_of_le_length (by omega),List.take_of_length_le (by omega)]
 have ev:gv (decide (n<0)) 0 (dwn n (dl (mag n)))=mag n:=by
  rw [dwn_gI hn _ rfl]
  refine Nat.mod_eq_of_lt ?_
  have h1:¬ (dl (mag n)<dl (mag n)):=Nat.lt_irrefl _
  have h3:mag n/256^dl (mag n)=0:=Nat.eq_zero_of_not_pos fun h=>h1 ((Qnq h64 (dl (mag n))).1 h)
  rcases Nat.lt_or_ge (mag n) (256^dl (mag n)) with h | h
  ·exact h
  ·have:=Nat.div_pos h (Nat.pow_pos (by decide));omega
 have hz:¬ (0<((dl (mag n):Nat):Int)∧fx (decide (n<0)) ((dwn n (dl (mag n))++r).getD 0 0)=0):=by
  rintro ⟨h1,h2⟩
  obtain ⟨k,hk⟩:∃ k,dl (mag n)=k+1:=⟨dl (mag n)-1,by omega⟩
  rw [hk,dwn] at h2
  have h3:=(Qnq h64 k).2 (by omega)
  have e:fx (decide (n<0)) (flp n (bt (mag n) k))=bt (mag n) k:=by
   have:=bt_b (mag n) k
   unfold flp fx
   by_cases hn:n<0
   ·simp only [hn,decide_true,if_true];omega
   ·simp only [hn,decide_false,if_false,Bool.false_eq_true]
  have h4:(flp n (bt (mag n) k) :: dwn n k++r).getD 0 0=flp n (bt (mag n) k):=rfl
  rw [h4,e] at h2
  have h5:mag n/256^(k+1)=0:=by
   have h1:¬ (k+1<dl (mag n)):=by omega
   exact Nat.eq_zero_of_not_pos fun h=>h1 ((Qnq h64 (k+1)).1 h)
  rw [Nat.pow_succ,← Nat.div_div_eq_div_mul] at h5
  have h6:mag n/256^k<256:=by
   rcases Nat.lt_or_ge (mag n/256^k) 256 with h | h
   ·exact h
   ·have:=Nat.div_pos h (show 0<256 by decide);omega
  unfold bt at h2
  have:mag n/256^k%256=mag n/256^k:=Nat.mod_eq_of_lt h6
  omega
 rw [if_neg hz,et,ev,if_neg (by omega)]
 have hsel:(if flp n (128+((dl (mag n):Nat):Int))<128 then -1-((mag n:Nat):Int) else ((mag n:Nat):Int))=n:=by
  by_cases c:n<0
  ·rw [if_pos (eg'.2 c)];unfold mag;rw [if_pos c];omega
  ·rw [if_neg (fun k=>c (eg'.1 k))];unfold mag;rw [if_neg c];omega
 rw [hsel,List.length_cons,hl]
 rfl
theorem QjG     (h:Int) (t:List Int):gI (h :: t)=if gk h>8 then (0,0,2) else if (t.length:Int)<gk h then (0,0,3)
    else if 0<gk h∧fx (decide (h<128)) (t.getD 0 0)=0 then (0,0,2)
    else if 9223372036854775808≤gv (decide (h<128)) 0 (t.take (gk h).toNat) then (0,0,2)
    else (if h<128 then -1-(gv (decide (h<128)) 0 (t.take (gk h).toNat):Int) else (gv (decide (h<128)) 0 (t.take (gk h).toNat):Int),gk h+1,0):=rfl
theorem Qj6 {b:List Int} (hb:Byt b) (h:(gI b).2.2=0):I64 (gI b).1∧1≤(gI b).2.1∧(gI b).2.1≤9∧(gI b).2.1≤b.length:=by
 match b,hb with
 | [],_=>exact absurd h (by decide)
 | x :: t,hb =>
  have k:=gk_b hb.head
  rw [QjG] at h ⊢
  by_cases c1:gk x>8
  ·rw [if_pos c1] at h;exact absurd h (by decide)
  rw [if_neg c1] at h ⊢
  by_cases c2:(t.length:Int)<gk x
  ·rw [if_pos c2] at h;exact absurd h (by decide)
  rw [if_neg c2] at h ⊢
  by_cases c3:0<gk x∧fx (decide (x<128)) (t.getD 0 0)=0
  ·rw [if_pos c3] at h;exact absurd h (by decide)
  rw [if_neg c3] at h ⊢
  by_cases c4:9223372036854775808≤gv (decide (x<128)) 0 (t.take (gk x).toNat)
  ·rw [if_pos c4] at h;exact absurd h (by decide)
  rw [if_neg c4]
  refine ⟨?_,by dsimp only;omega,by dsimp only;omega,by rw [List.length_cons];dsimp only;omega⟩
  dsimp only
  split<;>constructor<;>omega
theorem gI_err {b:List Int} (h:(gI b).2.2≠0):(gI b).1=0∧(gI b).2.1=0∧((gI b).2.2=2∨(gI b).2.2=3):=by
 match b with
 | []=>exact ⟨rfl,rfl,.inr rfl⟩
 | x :: t =>
  rw [QjG] at h ⊢
  by_cases c1:gk x>8
  ·rw [if_pos c1];exact ⟨rfl,rfl,.inl rfl⟩
  rw [if_neg c1] at h ⊢
  by_cases c2:(t.length:Int)<gk x
  ·rw [if_pos c2];exact ⟨rfl,rfl,.inr rfl⟩
  rw [if_neg c2] at h ⊢
  by_cases c3:0<gk x∧fx (decide (x<128)) (t.getD 0 0)=0
  ·rw [if_pos c3];exact ⟨rfl,rfl,.inl rfl⟩
  rw [if_neg c3] at h ⊢
  by_cases c4:9223372036854775808≤gv (decide (x<128)) 0 (t.take (gk x).toNat)
  ·rw [if_pos c4];exact ⟨rfl,rfl,.inl rfl⟩
  ·rw [if_neg c4] at h;exact absurd rfl h
/-! ### Lists of whole numbers -/
def cntI (b:List Int):Int×Int×Int :=
 if (gI b).2.2≠0 then gI b else if (gI b).1<0 then ((gI b).1,(gI b).2.1,2) else if (gI b).1>(b.length:Int)-(gI b).2.1 then ((gI b).1,(gI b).2.1,3) else gI b
def rdL (b:List Int):Nat→Nat→List Int→List Int×Int×Int
 | 0,at_,acc=>(acc,at_,0)
 | n+1,at_,acc=>if (gI (b.drop at_)).2.2≠0 then ([],0,(gI (b.drop at_)).2.2) else rdL b n (at_+(gI (b.drop at_)).2.1.toNat) (acc++[(gI (b.drop at_)).1])
def gIs (b:List Int):List Int×Int×Int :=
 if (cntI b).2.2≠0 then ([],0,(cntI b).2.2) else rdL b (cntI b).1.toNat (cntI b).2.1.toNat []
theorem QiI {b:List Int} (hb:Byt b) (h:(cntI b).2.2=0):cntI b=gI b∧(gI b).2.2=0∧0≤(cntI b).1∧(cntI b).1≤b.length∧0≤(cntI b).2.1∧(cntI b).1+(cntI b).2.1≤b.length:=by
 have e0:(gI b).2.2=0:=Classical.byContradiction fun h0=>by
  unfold cntI at h
  rw [if_pos h0] at h
  exact h0 h
 have ok:=Qj6 hb e0
 unfold cntI at h ⊢
 rw [if_neg (by rw [e0];simp)] at h ⊢
 by_cases c1:(gI b).1<0
 ·rw [if_pos c1] at h;exact absurd (show (2:Int)=0 from h) (by decide)
 rw [if_neg c1] at h ⊢
 by_cases c2:(gI b).1>(b.length:Int)-(gI b).2.1
 ·rw [if_pos c2] at h;exact absurd (show (3:Int)=0 from h) (by decide)
 rw [if_neg c2]
 exact ⟨rfl,e0,by omega,by omega,by omega,by omega⟩
theorem rdL_wJ (pre:List Int):∀ (l:List Int) (acc post:List Int),(∀ n∈l,I64 n)→rdL (pre++(wJ l++post)) l.length pre.length acc=(acc++l,((pre.length+(wJ l).length:Nat):Int),0):=by
 intro l
 induction l generalizing pre with
 | nil=>intro acc post _;rw [wJ];simp [rdL]
 | cons n l ih =>
  intro acc post hl
  have hn:=hl n (List.mem_cons_self ..)
  have e1:(pre++(wJ (n :: l)++post)).drop pre.length=wI n++(wJ l++post):=by
   rw [List.drop_left,wJ,List.append_assoc]
  have g:=gI_wI hn (wJ l++post)
  rw [List.length_cons,rdL,e1,g]
  dsimp only
  rw [if_neg (by simp),Int.toNat_natCast]
  have e2:pre++(wJ (n :: l)++post)=(pre++wI n)++(wJ l++post):=by rw [wJ,List.append_assoc,List.append_assoc]
  have:=ih (pre++wI n) (acc++[n]) post (fun m hm=>hl m (List.mem_cons_of_mem _ hm))
  rw [List.length_append] at this
  rw [e2,this,wJ,List.length_append,List.append_assoc]
  simp only [List.singleton_append,Prod.mk.injEq,true_and,and_true]
  omega
theorem gIs_wL {l:List Int} (hl:∀ n∈l,I64 n) (hn:l.length≤1000000000000) (r:List Int):gIs (wL l++r)=(l,((wL l).length:Int),0):=by
  have hI:I64 ((l.length:Nat):Int):=⟨by omega,by omega⟩
  have g:=gI_wI hI (wJ l++r)
  have e:wL l++r=wI ((l.length:Nat):Int)++(wJ l++r):=by rw [wL,List.append_assoc]
  have hw:∀ m:List Int,m.length≤(wJ m).length:=by
    intro m
    induction m with
    | nil=>simp [wJ]
    | cons a m ih => rw [wJ, List.length_append, List.length_cons]; have : 1 ≤ (wI a).length := by rw [wI, List.length_cons]; omega
                     omega
  have hwl:=hw l
  have c:cntI (wL l++r)=((l.length:Int),((wI ((l.length:Nat):Int)).length:Int),0):=by
    unfold cntI
    rw [e,g]
    dsimp only
    rw [if_neg (by simp),if_neg (by omega),if_neg (by rw [List.length_append,List.length_append];omega)]
  unfold gIs
  rw [c]
  dsimp only
  rw [if_neg (by simp),Int.toNat_natCast,Int.toNat_natCast,e,rdL_wJ _ l [] r hl,List.nil_append,wL,List.length_append]
theorem QqJ {b:List Int} (hb:Byt b):∀ (n at_:Nat) (acc:List Int),at_≤b.length→(∀ x∈acc,I64 x)→(rdL b n at_ acc).2.2=0→(∀ x∈(rdL b n at_ acc).1,I64 x)∧(rdL b n at_ acc).1.length=acc.length+n∧(at_:Int)+n≤(rdL b n at_ acc).2.1∧(rdL b n at_ acc).2.1≤b.length
 | 0,at_,acc,h,ha,_=>⟨ha,rfl,by simp [rdL],by simp only [rdL];omega⟩
 | n+1,at_,acc,h,ha,he=>by
  rw [rdL] at he ⊢
  by_cases c:(gI (b.drop at_)).2.2=0
  ·rw [if_neg (by rw [c];simp)] at he ⊢
   have ok:=Qj6 (hb.drop at_) c
   rw [List.length_drop] at ok
   obtain ⟨r1,r2,r3,r4⟩:=QqJ hb n _ _ (by omega) (fun x hx=>by
    rcases List.mem_append.1 hx with k | k
    ·exact ha x k
    ·rw [List.mem_singleton.1 k];exact ok.1) he
   refine ⟨r1,by rw [r2,List.length_append];simp;omega,by omega,r4⟩
  ·rw [if_pos c] at he
   exact absurd he c
theorem rdL_err (b:List Int):∀ (n at_:Nat) (acc:List Int),(rdL b n at_ acc).2.2≠0→rdL b n at_ acc=([],0,(rdL b n at_ acc).2.2)
 | 0,at_,acc,h=>absurd rfl h
 | n+1,at_,acc,h=>by
  rw [rdL] at h ⊢
  by_cases c:(gI (b.drop at_)).2.2≠0
  ·rw [if_pos c]
  ·rw [if_neg c] at h ⊢
   exact rdL_err b n _ _ h
theorem Qnr {b:List Int} (h:(gIs b).2.2≠0):gIs b=([],0,(gIs b).2.2):=by
 unfold gIs at h ⊢
 by_cases c:(cntI b).2.2≠0
 ·rw [if_pos c]
 ·rw [if_neg c] at h ⊢
  exact rdL_err b _ _ _ h
end Go.AM

/- ref01.Int, both Ints, both Encode, ref01.Same. -/
namespace Go.AM
open Go Go.RowKit

def upb (m:Nat):Nat→List Int
 | 0=>[]
 | i+1=>upb m i++[bt m i]
theorem Qgx (m:Nat):∀ i,(upb m i).length=i
 | 0=>rfl
 | i+1=>by rw [upb,List.length_append,Qgx m i];rfl
theorem upb_get (m:Nat):∀ (n i:Nat),i<n→(upb m n).getD i 0=bt m i
 | 0,i,h=>by omega
 | n+1,i,h=>by
  rw [upb,List.getD_eq_getElem?_getD]
  by_cases h1:i<n
  ·rw [List.getElem?_append_left (by rw [Qgx];exact h1),← List.getD_eq_getElem?_getD]
   exact upb_get m n i h1
  ·have:i=n:=by omega
   subst this
   rw [List.getElem?_append_right (by rw [Qgx];exact Nat.le_refl _),Qgx,Nat.sub_self];rfl
theorem Qam (h:Hp) (k:Key) (hk:h k=none):Qbw h k none=h:=by
 funext j
 simp only [Qbw]
 split
 ·rename_i e;rw [e,hk]
 ·rfl
theorem w64_nat {q:Nat} (h:q<9223372036854775808):w64 (q:Int)=(q:Int):=Qae (by omega) (by omega)
theorem k256:((256:Int)=0)=False:=by simp
theorem quo256 (m i:Nat):((m/256^i:Nat):Int)/256=((m/256^(i+1):Nat):Int):=by
 rw [Nat.pow_succ,← Nat.div_div_eq_div_mul];rfl
variable [Its]
def QnI (n m:Int) (L:List Int):St:=mkS [(0,ai n),(3,ai m),(4,gU 21 L)] (gUH 21 L)
def QpA (n:Int) (L:List Int):St:=mkS [(0,ai n),(4,gU 21 L)] (gUH 21 L)
theorem ri_loop {n:Int} {m:Nat} (hm:m<9223372036854775808):∀ j i:Nat,i+j=dl m→X G (.loop Qbz) (QnI n ((m/256^i:Nat):Int) (upb m i))=some (.x 0,QpA n (upb m (dl m)))
 | 0,i,h=>by
  have hl:=Qnq (m:=m) (by omega) i
  have e1:decide (((m/256^i:Nat):Int)>0)=false:=gt_f (fun h2=>by have:=hl.1 (by omega);omega)
  have:i=dl m:=by omega
  rw [Qag,← this]
  generalize ((m/256^i:Nat):Int)=q at *
  generalize upb m i=L at *
  by_cases h0:L=[]
  ·subst h0
   simp -implicitDefEqProofs (maxSteps:=9^8) only [Qbz,QnI,QpA,Qkd,QiL,Qaa,e1,go_sem,reduceCtorEq,↓reduceIte,Nat.reduceEqDiff,iv]
  ·simp -implicitDefEqProofs (maxSteps:=9^8) only [Qbz,QnI,QpA,arrU,Qnp h0,Qko h0,QaN,e1,go_sem,reduceCtorEq,↓reduceIte,Nat.reduceEqDiff,iv]
 | j+1,i,h=>by
  have hl:=Qnq (m:=m) (by omega) i
  have hd:=QrN m
  have hpos:=hl.2 (by omega)
  have e1:decide (((m/256^i:Nat):Int)>0)=true:=gt_t (by omega)
  have e2:=QdV (a:=((m/256^i:Nat):Int)) (b:=256) (Int.natCast_nonneg _)
  have hle:m/256^i≤m:=Nat.div_le_self _ _
  have hle2:m/256^(i+1)≤m:=Nat.div_le_self _ _
  have e3:w64 (((m/256^i:Nat):Int).tdiv 256)=((m/256^(i+1):Nat):Int):=by
   rw [QeN (Int.natCast_nonneg _),quo256]
   exact w64_nat (Nat.lt_of_le_of_lt hle2 hm)
  have e4:IntKind.u8.wrap (((m/256^i:Nat):Int)%256)=bt m i:=by rw [u8w];unfold bt;omega
  have f1:=Qhm (n:=(upb m i).length+1) (by rw [Qgx];omega)
  have hx:X G Qbz (QnI n ((m/256^i:Nat):Int) (upb m i))=some (.n,QnI n ((m/256^(i+1):Nat):Int) (upb m (i+1))):=by
   rw [upb]
   generalize ((m/256^i:Nat):Int)=q at *
   generalize ((m/256^(i+1):Nat):Int)=q2 at *
   generalize upb m i=L at *
   generalize bt m i=b at *
   by_cases h0:L=[]
   ·subst h0
    have f0:=Qhm (n:=1) (by omega)
    simp -implicitDefEqProofs (maxSteps:=9^8) only [Qbz,QnI,QpA,arrU,Qkd,QiL,gU_one,gUH_one,Qaa,Qh2,D.one,allD,Qa2,k256,f0,e1,e2,e3,e4,go_sem,reduceCtorEq,↓reduceIte,Nat.reduceEqDiff,iv]
   ·simp -implicitDefEqProofs (maxSteps:=9^8) only [Qbz,QnI,QpA,arrU,Qnp h0,Qko h0,gU_snoc,gUH_snoc,QaN,Qbn,QgW,f1,D.one,allD,Qa2,k256,e1,e2,e3,e4,go_sem,reduceCtorEq,↓reduceIte,Nat.reduceEqDiff,iv]
  rw [Qag,hx,Option.bind_some,if_pos rfl]
  exact ri_loop hm j (i+1) (by omega)
def QlD (K:Nat) (n:Int) (U L:List Int) (i:Int):St:=mkS [(0,ai n),(4,gU 21 U),(6,.own [K] L.length),(7,ai i)] (gUH 21 U++[([K],arrU L.length L)])
def QoZ (K:Nat) (L:List Int):St:=mkS [(6,.own [K] L.length)] [([K],arrU L.length L)]
theorem rj_stop {K:Nat} (hK:K=33∨K=39) {n:Int} {U L:List Int}:X G QaU (QlD K n U L (-1))=some (.x 2,QoZ K L):=by
 have e1:decide ((-1:Int)≥0)=false:=rfl
 rcases hK with rfl | rfl
 ·by_cases h0:U=[]
  ·subst h0
   simp -implicitDefEqProofs (maxSteps:=9^8) only [QaU,QlD,QoZ,arrU,Qkd,QiL,Qam,List.nil_append,QaN,e1,go_sem,reduceCtorEq,↓reduceIte,Nat.reduceEqDiff,iv]
  ·simp -implicitDefEqProofs (maxSteps:=9^8) only [QaU,QlD,QoZ,arrU,Qnp h0,Qko h0,List.cons_append,List.nil_append,Qam,QaN,e1,go_sem,reduceCtorEq,↓reduceIte,Nat.reduceEqDiff,iv]
 ·by_cases h0:U=[]
  ·subst h0
   simp -implicitDefEqProofs (maxSteps:=9^8) only [QaU,QlD,QoZ,arrU,Qkd,QiL,Qam,List.nil_append,QaN,e1,go_sem,reduceCtorEq,↓reduceIte,Nat.reduceEqDiff,iv]
  ·simp -implicitDefEqProofs (maxSteps:=9^8) only [QaU,QlD,QoZ,arrU,Qnp h0,Qko h0,List.cons_append,List.nil_append,Qam,QaN,e1,go_sem,reduceCtorEq,↓reduceIte,Nat.reduceEqDiff,iv]
theorem rj_go {K:Nat} {n:Int} (hK:(K=33∧0≤n)∨(K=39∧n<0)) {m k i:Nat} (hi:i<k) (hk:k≤8) {L:List Int} (hL:L.length≤100) :
    X G QaU (QlD K n (upb m k) L i)=some (.n,QlD K n (upb m k) (L++[flp n (bt m i)]) ((i:Int)-1)):=by
  have hU:upb m k≠[]:=fun h=>by have:=Qgx m k;rw [h] at this;simp at this;omega
  have e1:decide ((i:Int)≥0)=true:=ge_t (by omega)
  have e2:w64 ((i:Int)-1)=(i:Int)-1:=Qae (by omega) (by omega)
  have x1:guardO (0≤(i:Int)∧(i:Int)<(upb m k).length) (some (A.ep [21] (upb m k).length i))=some (A.ep [21] (upb m k).length i):=if_pos (by rw [Qgx];omega)
  have x2:∀ c:List Int,(QcO c)[i]?=(c[i]?).map fun x=>A.d (.v (.int .u8 x)):=fun c=>by rw [QcO,List.getElem?_map]
  have x3:(upb m k)[i]?=some (bt m i):=by
    have h1:i<(upb m k).length:=by rw [Qgx];exact hi
    have:=upb_get m k i hi
    rw [List.getD_eq_getElem?_getD,List.getElem?_eq_getElem h1] at this
    rw [List.getElem?_eq_getElem h1]
    exact congrArg some this
  have f1:=Qhm (n:=L.length+1) (by omega)
  have hb:=bt_b m i
  have lt1:(0≤(i:Int)∧(i:Int)<((upb m k).length:Int))=True:=eq_true (by rw [Qgx];omega)
  have hlen:∀ z:Int,(L++[z]).length=L.length+1:=fun z=>by simp
  simp only [QlD,hlen]
  unfold flp
  generalize upb m k=U at *
  generalize bt m i=b at *
  rcases hK with ⟨rfl,hs⟩ | ⟨rfl,hs⟩
  · have s1:decide (n<0)=false:=lt_f (by omega)
    rw [if_neg (by omega)]
    simp -implicitDefEqProofs (maxSteps:=9^8) only [QaU,arrU,Qnp hU,Qko hU,List.cons_append,List.nil_append,Qam,QaN,Qbn,QgW,f1,lt1,x2,x3,Qab,D.one,allD,Qa2,e1,e2,s1,go_sem,reduceCtorEq,↓reduceIte,Nat.reduceEqDiff,iv]
  · have s1:decide (n<0)=true:=lt_t hs
    have e3:IntKind.u8.wrap (255-b)=255-b:=u8m (by omega)
    rw [if_pos hs]
    simp -implicitDefEqProofs (maxSteps:=9^8) only [QaU,arrU,Qnp hU,Qko hU,List.cons_append,List.nil_append,Qam,QaN,Qbn,QgW,f1,lt1,x2,x3,Qab,D.one,allD,Qa2,e1,e2,e3,s1,go_sem,reduceCtorEq,↓reduceIte,Nat.reduceEqDiff,iv]
end Go.AM

