/- Part 6 of the proof: a small machine, its soundness against the model, and what the program's functions compute on it. -/
import Derived.Test.YthhdbchmjfdgmaaGreatM5
set_option linter.unusedVariables false
set_option linter.unusedSimpArgs false
/- integer.long: the product is taken away; a divisor is added back -/
namespace Go.AM
open Go Go.RowKit

theorem w_neg {w:Int} (h:-1000000000000000000<w∧w<0):w64 (0-w)=0-w∧w64 (0-w+1000000000)=0-w+1000000000∧w64 (0-w+1000000000-1)=0-w+1000000000-1∧0≤0-w+1000000000-1 ∧
    w64 ((0-w+1000000000-1)/1000000000)=(0-w+1000000000-1)/1000000000∧w64 ((0-w+1000000000-1)/1000000000*1000000000)=(0-w+1000000000-1)/1000000000*1000000000 ∧
    w64 (w+(0-w+1000000000-1)/1000000000*1000000000)=w+(0-w+1000000000-1)/1000000000*1000000000 ∧
    (0≤w+(0-w+1000000000-1)/1000000000*1000000000∧w+(0-w+1000000000-1)/1000000000*1000000000<1000000000)∧0≤(0-w+1000000000-1)/1000000000∧(-999999999000000000≤w→(0-w+1000000000-1)/1000000000<1000000000):=by
  refine ⟨Qae (by omega) (by omega),Qae (by omega) (by omega),Qae (by omega) (by omega),by omega,Qae (by omega) (by omega),Qae (by omega) (by omega),Qae (by omega) (by omega),by omega,by omega,by omega⟩
theorem kn_w {u g v c:Int} (hu:0≤u∧u<1000000000) (hg:0≤g∧g<1000000000) (hv:0≤v∧v<1000000000) (hc:0≤c∧c<1000000000) :
    w64 (g*v)=g*v∧w64 (u-g*v)=u-g*v∧w64 (u-g*v-c)=u-g*v-c∧-999999999000000000≤u-g*v-c∧u-g*v-c<1000000000:=by
  obtain ⟨m1,m2,_⟩:=QqY (u:=0) (c:=0) (by omega) hg hv (by omega)
  generalize g*v=x at *
  exact ⟨Qae (by omega) (by omega),Qae (by omega) (by omega),Qae (by omega) (by omega),by omega,by omega⟩
theorem ls_ix {p L i j:Nat} (hi:i<p+2) (hj:j+p+2<L) (hL:L<4611686018427387904):w64 ((i:Int)+(j:Int))=((i+j:Nat):Int)∧((0:Int)≤((i+j:Nat):Int)∧((i+j:Nat):Int)<((L:Nat):Int))∧i+j<L ∧
    decide ((i:Int)<((p+2:Nat):Int))=true∧w64 ((i:Int)+1)=((i+1:Nat):Int):=by
  refine ⟨?_,by omega,by omega,lt_t (by omega), ?_⟩<;>rw [Qae (by omega) (by omega)]<;>omega
theorem Qqq    {u v c:Int} (hu:0≤u∧u<1000000000) (hv:0≤v∧v<1000000000) (hc:0≤c∧c≤1):w64 (u+v)=u+v∧w64 (u+v+c)=u+v+c∧0≤u+v+c∧w64 ((u+v+c)/1000000000)=(u+v+c)/1000000000 ∧
    (0≤(u+v+c)/1000000000∧(u+v+c)/1000000000≤1)∧(0≤(u+v+c)%1000000000∧(u+v+c)%1000000000<1000000000)∧(u+v+c)%1000000000+1000000000*((u+v+c)/1000000000)=u+v+c:=by
  refine ⟨Qae (by omega) (by omega),Qae (by omega) (by omega),by omega,Qae (by omega) (by omega),by omega,by omega,by omega⟩
variable [Its]

section
variable (s:Int) (dv:D) (p L M j:Nat) (q v:List Int) (g:Int)
def Qo4 (u:List Int) (c i:Int):St:=mkS [(6,ai s),(7,.own [32] L),(8,.d dv),(9,ai ((p+2:Nat):Int)),(10,.own [46] M),(11,ai (j:Int)),(13,ai g),(15,ai c),(117,ai ((p+2:Nat):Int)),(118,ai i)] [([32],arrI L u),([46],arrI M q)]
def Qkn (u:List Int) (c:Int):St:=mkS [(6,ai s),(7,.own [32] L),(8,.d dv),(9,ai ((p+2:Nat):Int)),(10,.own [46] M),(11,ai (j:Int)),(13,ai g),(15,ai c)] [([32],arrI L u),([46],arrI M q)]
def Qpq (u:List Int) (c i:Int):St:=mkS [(6,ai s),(7,.own [32] L),(8,.d dv),(9,ai ((p+2:Nat):Int)),(10,.own [46] M),(11,ai (j:Int)),(13,ai g),(15,ai c),(172,ai ((p+2:Nat):Int)),(173,ai i)] [([32],arrI L u),([46],arrI M q)]

theorem ls_stop (u:List Int) (c:Int):X G Qcj (Qo4 s dv p L M j q g u c ((p+2:Nat):Int))=some (.x 4,Qkn s dv p L M j q g u c):=by
 have e1:decide (((p+2:Nat):Int)<((p+2:Nat):Int))=false:=lt_f (by omega)
 simp -implicitDefEqProofs (maxSteps:=9^8) only [Qcj,Qo4,Qkn,go_sem,iv,bv,e1,Qak,reduceCtorEq,↓reduceIte,Nat.reduceEqDiff]
theorem la_stop (u:List Int) (c:Int):X G QcU (Qpq s dv p L M j q g u c ((p+2:Nat):Int))=some (.x 6,Qkn s dv p L M j q g u c):=by
 have e1:decide (((p+2:Nat):Int)<((p+2:Nat):Int))=false:=lt_f (by omega)
 simp -implicitDefEqProofs (maxSteps:=9^8) only [QcU,Qpq,Qkn,go_sem,iv,bv,e1,Qak,reduceCtorEq,↓reduceIte,Nat.reduceEqDiff]

variable (hrv:Rw dv v) (hv:Dig v) (hvl:v.length=p+2) (hj:j+p+2<L) (hL:L<4611686018427387904)
include hrv hv hvl hj hL

theorem ls_go (hg:0≤g∧g<1000000000) {u:List Int} (hu:Dig u) (hul:u.length=L) {c:Int} (hc:0≤c∧c<1000000000) {i:Nat} (hi:i<p+2) :
    ∃ d c',(0≤d∧d<1000000000)∧(0≤c'∧c'<1000000000)∧d=u.getD (i+j) 0-g*v.getD i 0-c+1000000000*c'∧X G Qcj (Qo4 s dv p L M j q g u c (i:Int))=some (.n,Qo4 s dv p L M j q g (u.set (i+j) d) c' ((i+1:Nat):Int)):=by
  obtain ⟨e1,e2,e3,e4,e5⟩:=kn_w (hu.getD (i+j)) hg (hv.getD i) hc
  obtain ⟨i1,i2,i3,i4,i5⟩:=ls_ix hi hj hL
  have f1:=Qb8 (l:=u) (off:=i+j) (hul ▸ i3)
  have f2:=fun d=>Qbs (l:=u) (off:=i+j) (v:=d) (hul ▸ i3)
  have f3:=hrv.ixn (j:=i) (hvl ▸ hi)
  have f4:=fun hp=>ldv hp v (j:=i) (hvl ▸ hi)
  obtain ⟨w,hw⟩:∃ w,u.getD (i+j) 0-g*v.getD i 0-c=w:=⟨_,rfl⟩
  rw [hw] at e3 e4 e5 ⊢
  by_cases h0:w<0
  · obtain ⟨n1,n2,n3,n4,n5,n6,n7,n8,n9,n10⟩:=w_neg (w:=w) ⟨by omega,h0⟩
    have n11:=QeN (b:=1000000000) n4
    have e6:decide (w<0)=true:=lt_t h0
    refine ⟨_,_,n8,⟨n9,n10 e4⟩,by rw [Int.mul_comm 1000000000], ?_⟩
    simp -implicitDefEqProofs (maxSteps:=9^8) only [Qcj,Qo4,go_sem,iv,bv,e1,e2,hw,e3,e6,n1,n2,n3,n5,n6,n7,n11,i1,i2,i4,i5,f1,f2,f3,f4,allD,Qak,QbK,Qai,reduceCtorEq,↓reduceIte,Nat.reduceEqDiff]
  · have e6:decide (w<0)=false:=lt_f h0
    refine ⟨w,0,⟨by omega,by omega⟩,by omega,by omega, ?_⟩
    simp -implicitDefEqProofs (maxSteps:=9^8) only [Qcj,Qo4,go_sem,iv,bv,e1,e2,hw,e3,e6,i1,i2,i4,i5,f1,f2,f3,f4,allD,Qak,QbK,Qai,reduceCtorEq,↓reduceIte,Nat.reduceEqDiff]

theorem ls_loop (hg:0≤g∧g<1000000000) (u0:List Int):∀ (k i:Nat) (u:List Int) (c:Int),i+k=p+2→Dig u→u.length=L→(0≤c∧c<1000000000)→(∀ x,j+i≤x→u.getD x 0=u0.getD x 0)→(∀ x,x<j→u.getD x 0=u0.getD x 0) →
    val u-(1000000000:Int)^(i+j)*c=val u0-(1000000000:Int)^j*(g*val (v.take i)) →
    ∃ u' c',X G (.loop Qcj) (Qo4 s dv p L M j q g u c (i:Int))=some (.x 4,Qkn s dv p L M j q g u' c')∧Dig u'∧u'.length=L∧(0≤c'∧c'<1000000000)∧(∀ x,j+p+2≤x→u'.getD x 0=u0.getD x 0)∧(∀ x,x<j→u'.getD x 0=u0.getD x 0) ∧
      val u'-(1000000000:Int)^(p+2+j)*c'=val u0-(1000000000:Int)^j*(g*val v)
  | 0,i,u,c,hi,hu,hul,hc,h1,h2,hval=>by
    obtain rfl:i=p+2:=by omega
    refine ⟨u,c,by rw [Qag,ls_stop];rfl,hu,hul,hc,h1,h2, ?_⟩
    rw [hval,← hvl,List.take_length]
  | k+1,i,u,c,hi,hu,hul,hc,h1,h2,hval=>by
    obtain ⟨d,c',hd,hc',hdv,hx⟩:=ls_go s dv p L M j q v g hrv hv hvl hj hL hg hu hul hc (i:=i) (by omega)
    obtain ⟨u',c2,g1,g2⟩:=ls_loop hg u0 k (i+1) (u.set (i+j) d) c' (by omega) (hu.set hd) (by simpa using hul) hc' (fun x hx'=>by rw [Qbb _ (by omega)];exact h1 x (by omega)) (fun x hx'=>by rw [Qbb _ (by omega)];exact h2 x hx') (by
      rw [QeC _ _ _ (by omega),Qaq v i,hdv,show i+1+j=(i+j)+1 by omega,Int.pow_succ,Int.pow_add]
      rw [Int.pow_add] at hval
      clear hx hdv hd hc' h1 h2
      grind)
    exact ⟨u',c2,by rw [Qag,hx];exact g1,g2⟩

theorem la_go {u:List Int} (hul:u.length=L) {c:Int} (hc:0≤c∧c≤1) {i:Nat} (hi:i<p+2) (hu:0≤u.getD (i+j) 0∧u.getD (i+j) 0<1000000000) :
    X G QcU (Qpq s dv p L M j q g u c (i:Int))=some (.n,Qpq s dv p L M j q g (u.set (i+j) ((u.getD (i+j) 0+v.getD i 0+c)%1000000000)) ((u.getD (i+j) 0+v.getD i 0+c)/1000000000) ((i+1:Nat):Int)):=by
  obtain ⟨e1,e2,e3,e4,e5,e6,_⟩:=Qqq hu (hv.getD i) hc
  obtain ⟨i1,i2,i3,i4,i5⟩:=ls_ix hi hj hL
  have f1:=Qb8 (l:=u) (off:=i+j) (hul ▸ i3)
  have f2:=fun d=>Qbs (l:=u) (off:=i+j) (v:=d) (hul ▸ i3)
  have f3:=hrv.ixn (j:=i) (hvl ▸ hi)
  have f4:=fun hp=>ldv hp v (j:=i) (hvl ▸ hi)
  have n1:=QeN (b:=1000000000) e3
  have n2:=QdV (b:=1000000000) e3
  simp -implicitDefEqProofs (maxSteps:=9^8) only [QcU,Qpq,go_sem,iv,bv,e1,e2,e4,n1,n2,i1,i2,i4,i5,f1,f2,f3,f4,allD,Qak,QbK,Qai,reduceCtorEq,↓reduceIte,Nat.reduceEqDiff]

theorem la_loop (u0:List Int):∀ (k i:Nat) (u:List Int) (c:Int),i+k=p+2→u.length=L→(0≤c∧c≤1)→(∀ x,x<j+p+2→0≤u.getD x 0∧u.getD x 0<1000000000)→(∀ x,j+p+2≤x→u.getD x 0=u0.getD x 0)→(∀ x,x<j→u.getD x 0=u0.getD x 0) →
    val u+(1000000000:Int)^(i+j)*c=val u0+(1000000000:Int)^j*val (v.take i) →
    ∃ u' c',X G (.loop QcU) (Qpq s dv p L M j q g u c (i:Int))=some (.x 6,Qkn s dv p L M j q g u' c')∧u'.length=L∧(0≤c'∧c'≤1)∧(∀ x,x<j+p+2→0≤u'.getD x 0∧u'.getD x 0<1000000000)∧(∀ x,j+p+2≤x→u'.getD x 0=u0.getD x 0)∧(∀ x,x<j→u'.getD x 0=u0.getD x 0) ∧
      val u'+(1000000000:Int)^(p+2+j)*c'=val u0+(1000000000:Int)^j*val v
  | 0,i,u,c,hi,hul,hc,h1,h2,h3,hval=>by
    obtain rfl:i=p+2:=by omega
    refine ⟨u,c,by rw [Qag,la_stop];rfl,hul,hc,h1,h2,h3, ?_⟩
    rw [hval,← hvl,List.take_length]
  | k+1,i,u,c,hi,hul,hc,h1,h2,h3,hval=>by
    have hu:=h1 (i+j) (by omega)
    have hx:=la_go s dv p L M j q v g hrv hv hvl hj hL hul hc (i:=i) (by omega) hu
    obtain ⟨_,_,_,_,e5,e6,e7⟩:=Qqq hu (hv.getD i) hc
    obtain ⟨u', c2, g1, g2⟩ := la_loop u0 k (i + 1) (u.set (i + j) ((u.getD (i + j) 0 + v.getD i 0 + c) % 1000000000)) ((u.getD (i + j) 0 + v.getD i 0 + c) / 1000000000) (by omega) (by simpa using hul) e5 (fun x hx' => by
        by_cases he:i+j=x
        · subst he;rw [QiO _ (by omega)];exact e6
        · rw [Qbb _ he];exact h1 x hx') (fun x hx'=>by rw [Qbb _ (by omega)];exact h2 x hx') (fun x hx'=>by rw [Qbb _ (by omega)];exact h3 x hx') (by
      rw [QeC _ _ _ (by omega),Qaq v i,show i+1+j=(i+j)+1 by omega,Int.pow_succ,Int.pow_add]
      rw [Int.pow_add] at hval
      generalize (u.getD (i+j) 0+v.getD i 0+c)%1000000000=R at *
      generalize (u.getD (i+j) 0+v.getD i 0+c)/1000000000=Q at *
      clear hx e5 e6 h1 h2
      grind)
    exact ⟨u',c2,by rw [Qag,hx];exact g1,g2⟩
end
end Go.AM

/- Long division: numbers in digits, cut at a digit. -/
namespace Go.AM
open Go Go.RowKit

theorem Qda (l:List Int) {j:Nat} (h:j≤l.length):val l=val (l.take j)+(1000000000:Int)^j*val (l.drop j):=by
 have e:l.take j++l.drop j=l:=List.take_append_drop j l
 have h1:(l.take j).length=j:=by simp;omega
 have h2:=QgK (l.take j) (l.drop j)
 rw [e,h1] at h2
 exact h2
theorem Qe0 {l l':List Int} (hl:l'.length=l.length):∀ (n k:Nat),l.length≤k+n→(∀ x,k≤x→l'.getD x 0=l.getD x 0)→val (l'.drop k)=val (l.drop k)
 | 0,k,hk,h=>by rw [List.drop_eq_nil_of_le (by omega),List.drop_eq_nil_of_le (by omega)]
 | n+1,k,hk,h=>by
  rw [Qa0,Qa0 l,h k (Nat.le_refl _),Qe0 hl n (k+1) (by omega) (fun x hx=>h x (by omega))]
theorem Qir {l l':List Int}:∀ (k:Nat),(∀ x,x<k→l'.getD x 0=l.getD x 0)→val (l'.take k)=val (l.take k)
 | 0,h=>rfl
 | k+1,h=>by
  rw [Qaq,Qaq l,h k (Nat.lt_succ_self k),Qir k (fun x hx=>h x (by omega))]
theorem QlZ (l:List Int) {j n:Nat} (h:j+n≤l.length):val (l.drop j)=val ((l.drop j).take n)+(1000000000:Int)^n*(l.getD (j+n) 0+1000000000*val (l.drop (j+n+1))):=by
 rw [Qda (l.drop j) (j:=n) (by simp;omega),List.drop_drop,Qa0 l (j+n)]
theorem dig_cut {l:List Int} {j n:Nat} (h:∀ x,j≤x→x<j+n→0≤l.getD x 0∧l.getD x 0<1000000000):Dig ((l.drop j).take n):=by
 intro d hd
 obtain ⟨i,hi,rfl⟩:=List.getElem_of_mem hd
 simp only [List.length_take,List.length_drop] at hi
 have:=h (j+i) (by omega) (by omega)
 have e:l.getD (j+i) 0=((l.drop j).take n)[i]'(by simp only [List.length_take,List.length_drop];exact hi):=by
  rw [List.getElem_take,List.getElem_drop,List.getD_eq_getElem?_getD,List.getElem?_eq_getElem (by omega)]
  rfl
 rw [← e];exact this
theorem Qlh {l:List Int} (h:∀ x,x<l.length→0≤l.getD x 0∧l.getD x 0<1000000000):Dig l:=by
 have:=dig_cut (l:=l) (j:=0) (n:=l.length) fun x _ hx=>h x (by omega)
 rw [List.drop_zero,List.take_length] at this
 exact this
theorem Qoh {l:List Int} {j n:Nat} (h:∀ x,j≤x→x<j+n→0≤l.getD x 0∧l.getD x 0<1000000000) (hl:j+n≤l.length):0≤val ((l.drop j).take n)∧val ((l.drop j).take n)<(1000000000:Int)^n:=by
 have hd:=dig_cut h
 have h2:=Qfs hd
 have e:((l.drop j).take n).length=n:=by simp;omega
 rw [e] at h2
 exact ⟨QaK hd,h2⟩

theorem kn_core {u u':List Int} {j n:Nat} (hlen:u'.length=u.length) (hj:j+n<u.length) (hlo:∀ x,x<j→u'.getD x 0=u.getD x 0) (hhi:∀ x,j+n<x→u'.getD x 0=u.getD x 0) (hz:val (u.drop (j+n+1))=0) {T:Int}
    (hval:val u'=val u-(1000000000:Int)^j*T):val ((u'.drop j).take n)+(1000000000:Int)^n*u'.getD (j+n) 0=val (u.drop j)-T:=by
  have e1:=Qda u (j:=j) (by omega)
  have e2:=Qda u' (j:=j) (by omega)
  have e3:=Qir (l:=u) (l':=u') j hlo
  have e4:=QlZ u' (j:=j) (n:=n) (by omega)
  have e5:val (u'.drop (j+n+1))=0:=by rw [Qe0 hlen u.length _ (by omega) (fun x hx=>hhi x (by omega))];exact hz
  rw [e5,Int.mul_zero,Int.add_zero] at e4
  rw [e1,e2,e3,e4] at hval
  have hp:=QcY j
  have:(1000000000:Int)^j*(val ((u'.drop j).take n)+(1000000000:Int)^n*u'.getD (j+n) 0)=(1000000000:Int)^j*(val (u.drop j)-T):=by
    clear e1 e2 e3 e4 e5
    grind
  exact Int.eq_of_mul_eq_mul_left (Int.ne_of_gt hp) this

theorem kn_zero {low t R V Bn:Int} (hl:0≤low∧low<Bn) (he:low+Bn*t=R) (h0:0≤R) (h1:R<V) (hV:V≤Bn):t=0:=by
 have hB:0<Bn:=Int.lt_of_le_of_lt hl.1 hl.2
 rcases Int.lt_trichotomy t 0 with h | h | h
 ·exfalso
  have:Bn*t≤Bn*(-1):=Int.mul_le_mul_of_nonneg_left (by omega) (Int.le_of_lt hB)
  generalize Bn*t=x at *
  omega
 ·exact h
 ·exfalso
  have:Bn*1≤Bn*t:=Int.mul_le_mul_of_nonneg_left (by omega) (Int.le_of_lt hB)
  generalize Bn*t=x at *
  omega

theorem kn_lead {u:List Int} {j p:Nat} (hu:Dig u) (hj:j+p+2<u.length) (hz:val (u.drop (j+(p+2)+1))=0) :
    val (u.drop j)=(u.getD (j+p+2) 0*1000000000+u.getD (j+p+1) 0)*1000000000*(1000000000:Int)^p+u.getD (j+p) 0*(1000000000:Int)^p+val ((u.drop j).take p) ∧
      0≤val ((u.drop j).take p)∧val ((u.drop j).take p)<(1000000000:Int)^p:=by
  have e1:=QlZ u (j:=j) (n:=p) (by omega)
  have e2:=Qa0 u (j+p+1)
  have e3:=Qa0 u (j+p+1+1)
  rw [show j+(p+2)+1=j+p+1+1+1 by omega] at hz
  rw [hz,Int.mul_zero,Int.add_zero] at e3
  refine ⟨?_,Qoh (fun x _ _=>hu.getD x) (by omega)⟩
  rw [e1,e2,e3]
  show _=(u.getD (j+p+1+1) 0*1000000000+u.getD (j+p+1) 0)*1000000000*(1000000000:Int)^p+u.getD (j+p) 0*(1000000000:Int)^p+val ((u.drop j).take p)
  clear e1 e2 e3 hz
  grind
theorem QrA      {v:List Int} {p:Nat} (hv:Dig v) (hl:v.length=p+2) :
    val v=v.getD (p+1) 0*1000000000*(1000000000:Int)^p+v.getD p 0*(1000000000:Int)^p+val (v.take p)∧0≤val (v.take p)∧val (v.take p)<(1000000000:Int)^p:=by
  have e1:=QlZ v (j:=0) (n:=p) (by omega)
  have e2:=Qa0 v (p+1)
  have e3:v.drop (p+1+1)=[]:=List.drop_eq_nil_of_le (by omega)
  have c1:=Qoh (l:=v) (j:=0) (n:=p) (fun x _ _=>hv.getD x) (by omega)
  rw [e3] at e2
  simp only [List.drop_zero,Nat.zero_add] at e1 c1
  rw [e1,e2]
  refine ⟨?_,c1⟩
  simp only [val,Int.mul_zero,Int.add_zero]
  clear e1 e2 e3 c1
  grind
theorem kn_above {u v:List Int} {j n:Nat} (hu:Dig u) (hv:Dig v) (hl:v.length=n) (hj:j+n<u.length) (h:val (u.drop (j+1))<val v):val (u.drop (j+n+1))=0:=by
 have e1:=Qda (u.drop (j+1)) (j:=n) (by simp;omega)
 rw [List.drop_drop,show j+1+n=j+n+1 by omega] at e1
 have h1:=QaK ((hu.drop (j+1)).take n)
 have h2:=QaK (hu.drop (j+n+1))
 have h3:=Qfs hv
 rw [hl] at h3
 rcases Int.lt_or_le 0 (val (u.drop (j+n+1))) with h4 | h4
 ·exfalso
  have:(1000000000:Int)^n*1≤(1000000000:Int)^n*val (u.drop (j+n+1)):=Int.mul_le_mul_of_nonneg_left (by omega) (Int.le_of_lt (QcY n))
  generalize (1000000000:Int)^n*val (u.drop (j+n+1))=x at *
  omega
 ·omega
end Go.AM

/- integer.long: one digit of the quotient; the loop -/
namespace Go.AM
open Go Go.RowKit

theorem lo_ix {p L j:Nat} (hj:j+p+2<L) (hL:L<4611686018427387904):decide ((j:Int)≥0)=true∧w64 ((j:Int)+((p+2:Nat):Int))=((j+p+2:Nat):Int)∧((0:Int)≤((j+p+2:Nat):Int)∧((j+p+2:Nat):Int)<((L:Nat):Int)) ∧
    w64 (((j+p+2:Nat):Int)-1)=((j+p+1:Nat):Int)∧((0:Int)≤((j+p+1:Nat):Int)∧((j+p+1:Nat):Int)<((L:Nat):Int))∧j+p+1<L∧w64 ((j:Int)-1)=(j:Int)-1:=by
  refine ⟨ge_t (by omega), ?_,by omega, ?_,by omega,by omega,Qae (by omega) (by omega)⟩<;>rw [Qae (by omega) (by omega)]<;>omega
theorem w_top {a b v:Int} (ha:0≤a∧a<1000000000) (hb:0≤b∧b<1000000000) (hv:0<v∧v<1000000000):w64 (a*1000000000)=a*1000000000∧w64 (a*1000000000+b)=a*1000000000+b∧0≤a*1000000000+b∧w64 ((a*1000000000+b)/v)=(a*1000000000+b)/v ∧
    (0≤(a*1000000000+b)/v∧(a*1000000000+b)/v<1000000000000000000)∧(0≤(a*1000000000+b)%v∧(a*1000000000+b)%v<1000000000)∧(a*1000000000+b)/v*v+(a*1000000000+b)%v=a*1000000000+b:=by
  have h0:0≤a*1000000000+b:=by omega
  have h1:0≤(a*1000000000+b)/v:=Int.ediv_nonneg h0 (by omega)
  have h2:(a*1000000000+b)/v≤a*1000000000+b:=Int.ediv_le_self _ h0
  have h3:0≤(a*1000000000+b)%v:=Int.emod_nonneg _ (by omega)
  have h4:(a*1000000000+b)%v<v:=Int.emod_lt_of_pos _ hv.1
  refine ⟨Qae (by omega) (by omega),Qae (by omega) (by omega),h0, ?_, ?_,⟨h3,by omega⟩,Int.ediv_mul_add_emod _ _⟩
  · generalize (a*1000000000+b)/v=q at *
    exact Qae (by omega) (by omega)
  · generalize (a*1000000000+b)/v=q at *
    omega
theorem w_tail {t c:Int} (ht:-1000000000<t∧t<1000000000) (hc:0≤c∧c<1000000000):w64 (t-c)=t-c∧w64 (t+c)=t+c:=⟨Qae (by omega) (by omega),Qae (by omega) (by omega)⟩
theorem w_g {g:Int} (hg:0≤g∧g<1000000000):w64 (g-1)=g-1:=Qae (by omega) (by omega)
theorem ub_next {d r V:Int} (hd:0≤d∧d<1000000000) (h:r<V):d+1000000000*r<1000000000*V:=by omega
theorem neg_gt {low t R T Bn:Int} (hl:0≤low∧low<Bn) (he:low+Bn*t=R-T) (h:t<0):R<T:=by
 have:Bn*t≤Bn*(-1):=Int.mul_le_mul_of_nonneg_left (by omega) (by omega)
 generalize Bn*t=x at *
 omega
theorem pos_ge {low t R T Bn:Int} (hl:0≤low∧low<Bn) (he:low+Bn*t=R-T) (h:¬ t<0):0≤R-T:=by
 have:0≤Bn*t:=Int.mul_nonneg (by omega) (by omega)
 generalize Bn*t=x at *
 omega
theorem rest_lt {g R V:Int} (h:R<(g+1)*V):R-g*V<V:=by
 rw [Int.add_mul,Int.one_mul] at h
 generalize g*V=x at *
 omega
theorem rest_lt' {g R V:Int} (h:R<g*V):R-(g-1)*V<V:=by
 rw [Int.sub_mul,Int.one_mul]
 generalize g*V=x at *
 omega
theorem Qp4 {l:List Int} {k:Nat} {c Y:Int} (hk:k<l.length) (h:val l-(1000000000:Int)^k*c=Y):val (l.set k (l.getD k 0-c))=Y:=by
 rw [QeC _ _ _ hk,show l.getD k 0-c-l.getD k 0 = -c by omega,Int.mul_neg]
 generalize (1000000000:Int)^k*c=x at *
 omega
theorem Qqa {l:List Int} {k:Nat} {c Y:Int} (hk:k<l.length) (h:val l+(1000000000:Int)^k*c=Y):val (l.set k (l.getD k 0+c))=Y:=by
 rw [QeC _ _ _ hk,show l.getD k 0+c-l.getD k 0=c by omega]
 exact h
theorem sub_one {X g V Z:Int}:X-Z*(g*V)+Z*V=X-Z*((g-1)*V):=by
 rw [Int.sub_mul,Int.one_mul,Int.mul_sub]
 generalize Z*(g*V)=a
 generalize Z*V=b
 omega
theorem fin_val {low t Bn R h:Int} (hz:t=0) (hc:low+Bn*t=R) (h0:h=0):low+Bn*(t+1000000000*h)=R:=by
 subst hz h0
 simpa using hc
theorem Hid.mk {p:Prop} (h:p):Hid p:=h
variable [Its]

section
variable (s:Int) (dv:D) (p L M:Nat) (v:List Int)
def Qog (u q:List Int) (j:Int):St:=mkS [(6,ai s),(7,.own [32] L),(8,.d dv),(9,ai ((p+2:Nat):Int)),(10,.own [46] M),(11,ai j)] [([32],arrI L u),([46],arrI M q)]
def Qry (u q:List Int):St:=mkS [(6,ai s),(7,.own [32] L),(9,ai ((p+2:Nat):Int)),(10,.own [46] M)] [([32],arrI L u),([46],arrI M q)]

theorem lo_stop (u q:List Int):X G Qck (Qog s dv p L M u q (-1))=some (.x 0,Qry s p L M u q):=by
 have e1:decide ((-1:Int)≥0)=false:=rfl
 simp -implicitDefEqProofs (maxSteps:=9^8) only [Qck,Qog,Qry,go_sem,iv,bv,e1,Qak,reduceCtorEq,↓reduceIte,Nat.reduceEqDiff]

variable (hrv:Rw dv v) (hv:Dig v) (hvl:v.length=p+2) (hL:L<4611686018427387904)
include hrv hv hvl hL

theorem lo_go (h1:0<v.getD (p+1) 0) {u q:List Int} (hu:Dig u) (hul:u.length=L) (hql:q.length=M) {j:Nat} (hj:j+p+2<L) (hjM:j<M) (hlt:val (u.drop (j+1))<val v) :
    ∃ g u',(0≤g∧g<1000000000)∧Dig u'∧u'.length=L∧val (u'.drop j)<val v∧val u'=val u-(1000000000:Int)^j*(g*val v) ∧
      X G Qck (Qog s dv p L M u q (j:Int))=some (.n,Qog s dv p L M u' (q.set j g) ((j:Int)-1)):=by
  -- indices
  obtain ⟨i0,i1,i2,i3,i4,i5,i6⟩:=lo_ix hj hL
  have hjL:j+p+2<u.length:=by omega
  have f1:=Qb8 (l:=u) (off:=j+p+2) hjL
  have f2:=Qb8 (l:=u) (off:=j+p+1) (by omega)
  have f3:=hrv.ixn (j:=p+1) (by omega)
  have f4:=fun hp=>ldv hp v (j:=p+1) (by omega)
  have f5:=lg_ix2 hj hL
  have f6:=Qjr (b:=v.getD (p+1) 0) (by omega)
  have g2:=fun x=>Qbs (l:=q) (off:=j) (v:=x) (by omega)
  have g3:(0:Int)≤(j:Int)∧(j:Int)<((M:Nat):Int):=by omega
  have ht:=hu.getD (j+p+2)
  have n1:j+(p+2)<u.length:=by omega
  have n2:j+(p+2)=j+p+2:=by omega
  have n3:0+(p+2)=p+2:=by omega
  have n4:p+2+j=j+p+2:=by omega
  have n5:j+p+2+1=j+(p+2)+1:=by omega
  have n6:∀ x,x<j→x≠j+p+2:=fun x h=>by omega
  have n7:∀ x,j+(p+2)<x→j+p+2≤x∧x≠j+p+2:=fun x h=>by omega
  have n8:∀ x,x<j+(p+2)→x≠j+p+2∧x<j+p+2:=fun x h=>by omega
  have n9:∀ x,j+(p+2)+1≤x→j+p+2≤x∧x≠j+p+2:=fun x h=>by omega
  have n10:∀ x,x<j+p+2→x≠j+p+2:=fun x h=>by omega
  -- the number
  have hz:val (u.drop (j+(p+2)+1))=0:=kn_above hu hv hvl n1 hlt
  obtain ⟨t1,t2,t3,t4,t5,t6,t7⟩:=w_top ht (hu.getD (j+p+1)) (v:=v.getD (p+1) 0) ⟨h1,(hv.getD (p+1)).2⟩
  have f7:=QeN (b:=v.getD (p+1) 0) t3
  have f8:=QdV (b:=v.getD (p+1) 0) t3
  have hU0:=QaK (hu.drop j)
  have hguess:∃ g,X G (.loop Qbl) (Qk2 s dv p L M j u q ((u.getD (j+p+2) 0*1000000000+u.getD (j+p+1) 0)/v.getD (p+1) 0) ((u.getD (j+p+2) 0*1000000000+u.getD (j+p+1) 0)%v.getD (p+1) 0))=some (.x 2,Qis s dv p L M j u q g)∧(0≤g∧g<1000000000)∧Hid (val (u.drop j)<(g+1)*val v)∧Hid ((g-1)*val v≤val (u.drop j)):=by
    obtain ⟨k1,k2,k3⟩:=kn_lead hu (j:=j) (p:=p) hjL hz
    obtain ⟨k4,k5,k6⟩:=QrA hv hvl
    have hUB:val (u.drop j)<1000000000*val v:=by
      rw [Qa0]
      exact ub_next (hu.getD j) hlt
    obtain ⟨_,_,_,_,hfirst⟩:=kn_first (P:=(1000000000:Int)^p) (v1:=v.getD (p+1) 0) (v2:=v.getD p 0) (vl:=val (v.take p)) (u0:=u.getD (j+p+2) 0) (u1:=u.getD (j+p+1) 0) (u2:=u.getD (j+p) 0) (ul:=val ((u.drop j).take p)) (QcY p) h1 (hv.getD p).1 k5 ⟨k2,k3⟩ (hu.getD (j+p)) ⟨(hu.getD _).1,(hu.getD _).1⟩
    obtain ⟨g,hx0,hg,hg1,hg2⟩:=lg_loop s dv p L M j u q v hrv hv hu hvl hul hj hL (P:=(1000000000:Int)^p) (vl:=val (v.take p)) (ul:=val ((u.drop j).take p)) (u0:=u.getD (j+p+2) 0) (u1:=u.getD (j+p+1) 0) (QcY p) h1 ⟨k5,k6⟩ ⟨k2,k3⟩ (by rw [← k1,← k4];exact hUB) (by rw [← k1];exact hU0) 1000000000 _ _ (Int.le_add_of_nonneg_left t6.1) t5 t6 t7 hfirst
    rw [← k1,← k4] at hg1 hg2
    exact ⟨g,hx0,hg,Hid.mk hg1,Hid.mk hg2⟩
  obtain ⟨g,hx0,hg,hg1,hg2⟩:=hguess
  have hvB:Hid (val v≤(1000000000:Int)^(p+2)):=Hid.mk (by have:=Qfs hv;rw [hvl] at this;exact Int.le_of_lt this)
  obtain ⟨u1,c1,hx1,d1,l1,b1,a1,a2,a3'⟩:=ls_loop s dv p L M j q v g hrv hv hvl hj hL hg u (p+2) 0 u 0 n3 hu hul (by decide) (fun _ _=>rfl) (fun _ _=>rfl) (by simp [val])
  have a3:Hid (val u1-(1000000000:Int)^(p+2+j)*c1=val u-(1000000000:Int)^j*(g*val v)):=a3'
  clear a3'
  have l1':j+p+2<u1.length:=by omega
  have f9:=Qb8 (l:=u1) (off:=j+p+2) l1'
  have g1:=fun x=>Qbs (l:=u1) (off:=j+p+2) (v:=x) l1'
  have hae:=a1 (j+p+2) (Nat.le_refl _)
  have hat:-1000000000<u1.getD (j+p+2) 0∧u1.getD (j+p+2) 0<1000000000:=by rw [hae];omega
  obtain ⟨w1,_⟩:=w_tail (t:=u1.getD (j+p+2) 0) (c:=c1) hat b1
  have hat2:-1000000000<u1.getD (j+p+2) 0-c1∧u1.getD (j+p+2) 0-c1<1000000000:=by rw [hae];omega
  -- behind the subtraction
  obtain ⟨u2,hu2⟩:∃ u2,u1.set (j+p+2) (u1.getD (j+p+2) 0-c1)=u2:=⟨_,rfl⟩
  have l2:u2.length=L:=by rw [← hu2];simpa using l1
  have l2':j+p+2<u2.length:=by omega
  have l2e:u2.length=u.length:=by omega
  have t2e:u2.getD (j+p+2) 0=u1.getD (j+p+2) 0-c1:=by rw [← hu2];exact QiO _ l1'
  have o2:∀ x,x≠j+p+2→u2.getD x 0=u1.getD x 0:=fun x hx=>by rw [← hu2];exact Qbb _ (Ne.symm hx)
  have v2:Hid (val u2=val u-(1000000000:Int)^j*(g*val v)):=Hid.mk (by
    rw [← hu2]
    have:=a3.out
    rw [n4] at this
    exact Qp4 l1' this)
  have c2:Hid (val ((u2.drop j).take (p+2))+(1000000000:Int)^(p+2)*u2.getD (j+p+2) 0=val (u.drop j)-g*val v):=Hid.mk
    (kn_core (u:=u) (u':=u2) (j:=j) (n:=p+2) l2e n1 (fun x hx=>by rw [o2 x (n6 x hx)];exact a2 x hx) (fun x hx=>by rw [o2 x (n7 x hx).2];exact a1 x (n7 x hx).1) hz v2.out)
  have b2:Hid (0≤val ((u2.drop j).take (p+2))∧val ((u2.drop j).take (p+2))<(1000000000:Int)^(p+2)):=Hid.mk
    (Qoh (l:=u2) (j:=j) (n:=p+2) (fun x h h'=>by rw [o2 x (n8 x h').1];exact d1.getD x) (Nat.le_of_lt (n2 ▸ l2')))
  have f10:=Qb8 (l:=u2) (off:=j+p+2) l2'
  simp only [Qk2,Qis,go_sem] at hx0
  simp only [Qo4,Qkn,go_sem] at hx1
  by_cases hneg:u2.getD (j+p+2) 0<0
  · -- too much
    have e1:decide (u2.getD (j+p+2) 0<0)=true:=lt_t hneg
    have hgt:Hid (val (u.drop j)<g*val v):=Hid.mk (neg_gt b2.out c2.out hneg)
    have hgp:1≤g:=kn_pos hgt.out hU0 hg.1
    have hg':0≤g-1∧g-1<1000000000:=by omega
    obtain ⟨u3,c3,hx3,l3,b3,h3,a4,a5,a6'⟩:=la_loop s dv p L M j q v (g-1) hrv hv hvl hj hL u2 (p+2) 0 u2 0 n3 l2 (by decide) (fun x hx=>by rw [o2 x (n10 x hx)];exact d1.getD x) (fun _ _=>rfl) (fun _ _=>rfl) (by simp [val])
    have a6:Hid (val u3+(1000000000:Int)^(p+2+j)*c3=val u2+(1000000000:Int)^j*val v):=a6'
    clear a6'
    have hae3:=a4 (j+p+2) (Nat.le_refl _)
    have ht2:-1000000000<u3.getD (j+p+2) 0∧u3.getD (j+p+2) 0<1000000000:=by rw [hae3,t2e];exact hat2
    obtain ⟨_,w2⟩:=w_tail (t:=u3.getD (j+p+2) 0) (c:=c3) ht2 (by omega)
    have w3:=w_g hg
    have l3':j+p+2<u3.length:=by omega
    have f11:=Qb8 (l:=u3) (off:=j+p+2) l3'
    have g4:=fun x=>Qbs (l:=u3) (off:=j+p+2) (v:=x) l3'
    obtain ⟨u4,hu4⟩:∃ u4,u3.set (j+p+2) (u3.getD (j+p+2) 0+c3)=u4:=⟨_,rfl⟩
    have l4:u4.length=L:=by rw [← hu4];simpa using l3
    have l4e:u4.length=u.length:=by omega
    have l4':j+p+2<u4.length:=by omega
    have o4:∀ x,x≠j+p+2→u4.getD x 0=u3.getD x 0:=fun x hx=>by rw [← hu4];exact Qbb _ (Ne.symm hx)
    have v4:Hid (val u4=val u-(1000000000:Int)^j*((g-1)*val v)):=Hid.mk (by
      rw [← hu4]
      have:=a6.out
      rw [n4,v2.out,sub_one] at this
      exact Qqa l3' this)
    have hlo4:∀ x,x<j→u4.getD x 0=u.getD x 0:=fun x hx=>by rw [o4 x (n6 x hx),a5 x hx,o2 x (n6 x hx)];exact a2 x hx
    have hhi4:∀ x,j+(p+2)<x→u4.getD x 0=u.getD x 0:=fun x hx=>by rw [o4 x (n7 x hx).2,a4 x (n7 x hx).1,o2 x (n7 x hx).2];exact a1 x (n7 x hx).1
    have c4:=kn_core (u:=u) (u':=u4) (j:=j) (n:=p+2) l4e n1 hlo4 hhi4 hz v4.out
    have b4:=Qoh (l:=u4) (j:=j) (n:=p+2) (fun x h h'=>by rw [o4 x (n8 x h').1];exact h3 x (n8 x h').2) (Nat.le_of_lt (n2 ▸ l4'))
    rw [n2] at c4
    have hr1:=rest_lt' hgt.out
    have hz4:=kn_zero b4 c4 (Int.sub_nonneg_of_le hg2.out) hr1 hvB.out
    have hd4:Dig u4:=Qlh fun x hx=>by
      by_cases hxe:x=j+p+2
      · subst hxe;rw [hz4];decide
      · rw [o4 x hxe]
        rcases Nat.lt_or_ge x (j+p+2) with h | h
        · exact h3 x h
        · rw [a4 x h,o2 x hxe];exact d1.getD x
    refine ⟨g-1,u4,hg',hd4,l4, ?_,v4.out, ?_⟩
    · rw [QlZ u4 (j:=j) (n:=p+2) (Nat.le_of_lt (n2 ▸ l4')),n2,n5,fin_val hz4 c4 (by rw [Qe0 (l:=u) (l':=u4) l4e u.length _ (Nat.le_add_left _ _) (fun x hx=>hhi4 x hx)];exact hz)]
      exact hr1
    · simp only [Qpq,Qkn,go_sem] at hx3
      simp -implicitDefEqProofs (maxSteps:=9^8) only [Qck,Qog,go_sem,iv,bv,e1,t1,t2,t4,f1,f2,f3,f4,f5,f6,f7,f8,f9,f10,f11,g1,g2,g3,g4,i0,i1,i2,i3,i4,i6,w1,w2,w3,hx0,hx1,hx3,hu2,hu4,allD,Qak,QbK,Qai,reduceCtorEq,↓reduceIte,Nat.reduceEqDiff]
  · have e1:decide (u2.getD (j+p+2) 0<0)=false:=lt_f hneg
    have hr0:=pos_ge b2.out c2.out hneg
    have hr1:=rest_lt hg1.out
    have hz2:=kn_zero b2.out c2.out hr0 hr1 hvB.out
    have hd2:Dig u2:=Qlh fun x hx=>by
      by_cases hxe:x=j+p+2
      · subst hxe;rw [hz2];decide
      · rw [o2 x hxe];exact d1.getD x
    have hhi2:∀ x,j+(p+2)<x→u2.getD x 0=u.getD x 0:=fun x hx=>by rw [o2 x (n7 x hx).2];exact a1 x (n7 x hx).1
    refine ⟨g,u2,hg,hd2,l2, ?_,v2.out, ?_⟩
    · rw [QlZ u2 (j:=j) (n:=p+2) (Nat.le_of_lt (n2 ▸ l2')),n2,n5,fin_val hz2 c2.out (by rw [Qe0 (l:=u) (l':=u2) l2e u.length _ (Nat.le_add_left _ _) (fun x hx=>hhi2 x hx)];exact hz)]
      exact hr1
    · simp -implicitDefEqProofs (maxSteps:=9^8) only [Qck,Qog,go_sem,iv,bv,e1,t1,t2,t4,f1,f2,f3,f4,f5,f6,f7,f8,f9,f10,g1,g2,g3,i0,i1,i2,i3,i4,i6,w1,hx0,hx1,hu2,allD,Qak,QbK,Qai,reduceCtorEq,↓reduceIte,Nat.reduceEqDiff]
end
end Go.AM

/- integer.long -/
namespace Go.AM
open Go Go.RowKit

theorem QqW {l:List Int} {n:Nat} (h:n≤l.length):D.row n (List.take n (l.map iv))=rowI (l.take n):=by
 rw [rowI,List.length_take,Nat.min_eq_left h,List.map_take]
theorem scale_ok {t:Int} (h:0<t∧t<1000000000):(0<1000000000/(t+1)∧1000000000/(t+1)<1000000000)∧(t+1)*(1000000000/(t+1))≤1000000000∧w64 (t+1)=t+1∧w64 (1000000000/(t+1))=1000000000/(t+1):=by
 have e:=Int.mul_ediv_add_emod 1000000000 (t+1)
 have m1:0≤1000000000%(t+1):=Int.emod_nonneg _ (by omega)
 have m2:1000000000%(t+1)<t+1:=Int.emod_lt_of_pos _ (by omega)
 have q1:1≤1000000000/(t+1):=(Int.le_ediv_iff_mul_le (by omega)).2 (by omega)
 have q2:1000000000/(t+1)<1000000000:=Int.ediv_lt_of_lt_mul (by omega) (by omega)
 generalize 1000000000/(t+1)=q at *
 generalize 1000000000%(t+1)=r at *
 refine ⟨⟨by omega,q2⟩, ?_,Qae (by omega) (by omega),Qae (by omega) (by omega)⟩
 generalize (t+1)*q=y at *
 omega
theorem long_sum {C U Z g V Q:Int} (h:U+V*Q=C):U-Z*(g*V)+V*(Q+Z*g)=C:=by grind
theorem scaled_lt {s t B1 b lo:Int} (hs:0<s) (h:(t+1)*s≤1000000000) (hb:b=lo+B1*t) (hlo:lo<B1) (hB:0<B1):b*s<1000000000*B1:=by
 have h1:b*s<(B1*(t+1))*s:=Int.mul_lt_mul_of_pos_right (by rw [hb,Int.mul_add,Int.mul_one];generalize B1*t=x at *;omega) hs
 have h2:B1*((t+1)*s)≤B1*1000000000:=Int.mul_le_mul_of_nonneg_left h (Int.le_of_lt hB)
 rw [Int.mul_assoc] at h1
 generalize B1*((t+1)*s)=x at *
 omega
theorem long_div {A s b q U r r':Int} (hs:0<s) (h1:U+b*s*q=A*s) (h2:U=r*s+r') (h3:0≤r'∧r'<s) (h4:U<b*s) (h5:0≤r):A=b*q+r∧r<b:=by
 have e:(A-b*q-r)*s=r':=by rw [Int.sub_mul,Int.sub_mul];rw [← h1,h2];grind
 have hr:r'=0:=by
  rcases Int.lt_trichotomy (A-b*q-r) 0 with h | h | h
  ·exfalso
   have:(A-b*q-r)*s≤(-1)*s:=Int.mul_le_mul_of_nonneg_right (by omega) (by omega)
   rw [e] at this
   omega
  ·rw [← e,h,Int.zero_mul]
  ·exfalso
   have:1*s≤(A-b*q-r)*s:=Int.mul_le_mul_of_nonneg_right (by omega) (by omega)
   rw [e] at this
   omega
 constructor
 ·rw [hr] at e
  have:=(Int.mul_eq_zero.1 e).resolve_right (by omega)
  omega
 ·rw [hr,Int.add_zero] at h2
  rw [h2] at h4
  exact Int.lt_of_mul_lt_mul_right h4 (by omega)
variable [Its]

section
variable (s:Int) (dv:D) (p L M:Nat) (v:List Int)
variable (hrv:Rw dv v) (hv:Dig v) (hvl:v.length=p+2) (hL:L<4611686018427387904)
include hrv hv hvl hL

theorem lo_loop (h1:0<v.getD (p+1) 0) (hM:M+p+2=L) (C:Int):∀ (k:Nat) (u q:List Int),k≤M→Dig u→u.length=L→Dig q→q.length=M→val (u.drop k)<val v→(∀ i,i<k→q.getD i 0=0)→Hid (val u+val v*val q=C) →
    ∃ u' q',X G (.loop Qck) (Qog s dv p L M u q ((k:Int)-1))=some (.x 0,Qry s p L M u' q')∧Dig u'∧u'.length=L∧Dig q'∧q'.length=M∧val u'<val v∧val u'+val v*val q'=C
  | 0, u, q, hk, hu, hul, hq, hql, hlt, h0, hs => ⟨u, q, by
      have:((0:Nat):Int)-1 = -1:=rfl
      rw [this,Qag,lo_stop];rfl,hu,hul,hq,hql,by simpa using hlt,hs.out⟩
  | k+1,u,q,hk,hu,hul,hq,hql,hlt,h0,hs=>by
    obtain ⟨g,u1,hg,d1,l1,lt1,e1,hx⟩:=lo_go s dv p L M v hrv hv hvl hL h1 hu hul hql (j:=k) (by omega) (by omega) hlt
    have hsum:Hid (val u1+val v*val (q.set k g)=C):=Hid.mk (by
      rw [e1,QeC _ _ _ (by omega),h0 k (Nat.lt_succ_self k),Int.sub_zero]
      exact long_sum hs.out)
    clear e1
    obtain ⟨u',q',g1,g2⟩:=lo_loop h1 hM C k u1 (q.set k g) (by omega) d1 l1 (hq.set hg) (by simpa using hql) lt1 (fun i hi=>by rw [Qbb _ (by omega)];exact h0 i (by omega)) hsum
    refine ⟨u',q', ?_,g2⟩
    have:((k+1:Nat):Int)-1=(k:Int):=by omega
    rw [this,Qag,hx]
    exact g1
end

theorem long_spec {da db:D} {a b:List Int} {p:Nat} (hra:Rw da a) (hrb:Rw db b) (ha:Dig a) (hb:Dig b) (hbl:b.length=p+2) (hbt:0<b.getD (p+1) 0) (hle:b.length≤a.length) (hsz:a.length≤1000000000000) :
    ∃ q r,Qah G Qip [da,db]=some (.d (.tup [rowI q,rowI r]))∧Dig q∧Dig r∧q.length=a.length-b.length+1∧r.length=b.length∧val a=val b*val q+val r∧val r<val b:=by
  obtain ⟨hs,hs2,w1,w2⟩:=scale_ok ⟨hbt,(hb.getD (p+1)).2⟩
  have z1:=QeN (a:=1000000000) (b:=b.getD (p+1) 0+1) (by omega)
  have z2:=Qjr (b:=b.getD (p+1) 0+1) (by omega)
  obtain ⟨s,hsd⟩:∃ s,1000000000/(b.getD (p+1) 0+1)=s:=⟨_,rfl⟩
  rw [hsd] at hs hs2 w2 z1
  obtain ⟨u,hu1,hu2,hu3,hu4⟩:=Qlv hra ha hs (by omega)
  obtain ⟨vv,hv1,hv2,hv3,hv4⟩:=Qlv hrb hb hs (by omega)
  simp only [iv] at hu1 hv1
  -- the divisor
  have hvle:p+2≤vv.length:=by omega
  have hbs:Hid (val b*s<(1000000000:Int)^(p+2)):=Hid.mk (by
    have e1:=Qda b (j:=p+1) (by omega)
    have e2:=Qa0 b (p+1)
    rw [List.drop_eq_nil_of_le (show b.length≤p+1+1 by omega)] at e2
    simp only [val,Int.mul_zero,Int.add_zero] at e2
    rw [e2] at e1
    have e3:=Qfs (hb.take (p+1))
    have e4:(b.take (p+1)).length=p+1:=by rw [List.length_take];omega
    rw [e4] at e3
    have:=scaled_lt hs.1 hs2 e1 e3 (QcY _)
    rw [Int.pow_succ,Int.mul_comm ((1000000000:Int)^(p+1))]
    exact this)
  have hvt:val (vv.take (p+2))=val b*s:=by
    have e1:=Qda vv (j:=p+2) hvle
    have e2:=QaK (hv3.drop (p+2))
    have e3:=QaK (hv3.take (p+2))
    rcases Int.lt_or_le 0 (val (vv.drop (p+2))) with h | h
    · exfalso
      have:(1000000000:Int)^(p+2)*1≤(1000000000:Int)^(p+2)*val (vv.drop (p+2)):=Int.mul_le_mul_of_nonneg_left (by omega) (Int.le_of_lt (QcY _))
      have h3:=hbs.out
      rw [← hv4,e1] at h3
      generalize (1000000000:Int)^(p+2)*val (vv.drop (p+2))=x at *
      omega
    · have:val (vv.drop (p+2))=0:=by omega
      rw [this,Int.mul_zero,Int.add_zero] at e1
      rw [← e1,hv4]
  have hvd:=hv3.take (p+2)
  have hvl:(vv.take (p+2)).length=p+2:=by rw [List.length_take];omega
  have hbpos:0<val b:=by
    have e1:=QrA hb hbl
    have h1:0<b.getD (p+1) 0*1000000000*(1000000000:Int)^p:=Int.mul_pos (by omega) (QcY p)
    have h2:0≤b.getD p 0*(1000000000:Int)^p:=Int.mul_nonneg (hb.getD p).1 (Int.le_of_lt (QcY p))
    rw [e1.1]
    have h3:=e1.2.1
    generalize b.getD (p+1) 0*1000000000*(1000000000:Int)^p=x at *
    generalize b.getD p 0*(1000000000:Int)^p=y at *
    clear e1 hbs
    omega
  have hvtop:0<(vv.take (p+2)).getD (p+1) 0:=by
    rcases Int.lt_or_le 0 ((vv.take (p+2)).getD (p+1) 0) with h | h
    · exact h
    · exfalso
      have h0:=(hvd.getD (p+1)).1
      have h1:(vv.take (p+2)).getD (p+1) 0=0:=by clear hbs;omega
      have e1:=Qda (vv.take (p+2)) (j:=p+1) (by rw [hvl];exact Nat.le_succ _)
      have e2:=Qa0 (vv.take (p+2)) (p+1)
      rw [List.drop_eq_nil_of_le (show (vv.take (p+2)).length≤p+1+1 by rw [hvl];exact Nat.le_refl _),h1] at e2
      simp only [val,Int.mul_zero,Int.add_zero] at e2
      rw [e2,Int.mul_zero,Int.add_zero,hvt] at e1
      have e3:=Qfs (hvd.take (p+1))
      have e4:((vv.take (p+2)).take (p+1)).length=p+1:=by rw [List.length_take,hvl];exact Nat.min_eq_left (Nat.le_succ _)
      rw [e4,← e1] at e3
      have f1:=Qda b (j:=p+1) (by omega)
      have f2:=Qa0 b (p+1)
      rw [List.drop_eq_nil_of_le (show b.length≤p+1+1 by omega)] at f2
      simp only [val,Int.mul_zero,Int.add_zero] at f2
      rw [f2] at f1
      have f3:=QaK (hb.take (p+1))
      have f4:(1000000000:Int)^(p+1)*1≤(1000000000:Int)^(p+1)*b.getD (p+1) 0:=Int.mul_le_mul_of_nonneg_left (by clear hbs e1 e3 f1;omega) (Int.le_of_lt (QcY _))
      have f5:val b*1≤val b*s:=Int.mul_le_mul_of_nonneg_left (by clear hbs e1 e3 f1 f4;omega) (Int.le_of_lt hbpos)
      generalize (1000000000:Int)^(p+1)*b.getD (p+1) 0=x at *
      generalize (1000000000:Int)^(p+1)=y at *
      generalize val b*s=z at *
      clear hbs e1
      omega
  obtain ⟨dv,hdv⟩:∃ dv,D.row (p+2) (List.take (p+2) (vv.map iv))=dv:=⟨_,rfl⟩
  have hrv:Rw dv (vv.take (p+2)):=by rw [← hdv,QqW hvle];exact .inr rfl
  obtain ⟨M,hM⟩:∃ M,a.length-(p+2)+1=M:=⟨_,rfl⟩
  have hlast:val (u.drop M)<val (vv.take (p+2)):=by
    rw [hvt]
    have e1:=Qda u (j:=M) (by omega)
    have e2:=QaK (hu3.take M)
    have e3:=Qfs ha
    have e4:a.length=M+(p+1):=by omega
    rw [e4,Int.pow_add] at e3
    have f1:=Qda b (j:=p+1) (by omega)
    have f2:=Qa0 b (p+1)
    rw [List.drop_eq_nil_of_le (show b.length≤p+1+1 by omega)] at f2
    simp only [val,Int.mul_zero,Int.add_zero] at f2
    rw [f2] at f1
    have f3:=QaK (hb.take (p+1))
    have f4:(1000000000:Int)^(p+1)*1≤(1000000000:Int)^(p+1)*b.getD (p+1) 0:=Int.mul_le_mul_of_nonneg_left (by clear hbs e1 e3 f1;omega) (Int.le_of_lt (QcY _))
    have f5:(1000000000:Int)^(p+1)≤val b:=by
      rw [Int.mul_one] at f4
      generalize (1000000000:Int)^(p+1)*b.getD (p+1) 0=x at *
      clear hbs e1 e3
      omega
    have g1:val a*s<((1000000000:Int)^M*val b)*s:=Int.mul_lt_mul_of_pos_right (Int.lt_of_lt_of_le e3 (Int.mul_le_mul_of_nonneg_left f5 (Int.le_of_lt (QcY _)))) hs.1
    rw [← hu4,e1,Int.mul_assoc] at g1
    have g2:(1000000000:Int)^M*val (u.drop M)<(1000000000:Int)^M*(val b*s):=Int.lt_of_le_of_lt (Int.le_add_of_nonneg_left e2) g1
    exact Int.lt_of_mul_lt_mul_left g2 (Int.le_of_lt (QcY _))
  obtain ⟨u',q,hx,du,lu,dq,lq,hlt,hsum⟩:=lo_loop s dv p (a.length+1) M (vv.take (p+2)) hrv hvd hvl (by omega) hvtop (by omega) (val a*s) M u (List.replicate M 0) (Nat.le_refl _) hu3 hu2 (Dig.replicate _) (by simp) hlast (fun i hi=>by simp [List.getD,hi]) (Hid.mk (by rw [QfA,Int.mul_zero,Int.add_zero,hu4]))
  rw [hvt] at hlt hsum
  have hute:val (u'.take (p+2))=val u':=by
    have e1:=Qda u' (j:=p+2) (by omega)
    have e2:=QaK (du.drop (p+2))
    have e3:=QaK (du.take (p+2))
    rcases Int.lt_or_le 0 (val (u'.drop (p+2))) with h | h
    · exfalso
      have:(1000000000:Int)^(p+2)*1≤(1000000000:Int)^(p+2)*val (u'.drop (p+2)):=Int.mul_le_mul_of_nonneg_left (by omega) (Int.le_of_lt (QcY _))
      have h3:=Int.lt_trans hlt hbs.out
      rw [e1] at h3
      generalize (1000000000:Int)^(p+2)*val (u'.drop (p+2))=x at *
      clear hsum hlt
      omega
    · have:val (u'.drop (p+2))=0:=by clear hsum hlt hbs;omega
      rw [this,Int.mul_zero,Int.add_zero] at e1
      exact e1.symm
  have hul':(u'.take (p+2)).length=p+2:=by rw [List.length_take];omega
  obtain ⟨r,r',hx2,hr',lr,dr,hrv2⟩:=Qmm (da:=D.row (p+2) (List.take (p+2) (u'.map iv))) (a:=u'.take (p+2)) (b:=s) (by rw [QqW (by omega)];exact .inr rfl) (du.take _) hs (by rw [hul'];omega)
  rw [hute] at hrv2
  obtain ⟨k1,k2⟩:=long_div hs.1 hsum hrv2 hr' hlt (QaK dr)
  refine ⟨q,r, ?_,dq,dr,by omega,by rw [lr,hul',hbl],k1,k2⟩
  clear hsum hlt hbs hrv2 k1 k2 hlast hvt hu4 hv4 hute hs2
  rw [Qad (cf:=Qhv) rfl]
  have i1:=hrb.ixn (j:=p+1) (by omega)
  have i2:=fun hp=>ldv hp b (j:=p+1) (by omega)
  have i3:w64 (((p+2:Nat):Int)-1)=((p+1:Nat):Int):=by rw [Qae (by omega) (by omega)];omega
  have i4:w64 ((a.length:Int)-((p+2:Nat):Int))=((M:Nat):Int)-1:=by rw [Qae (by omega) (by omega)];omega
  have i5:w64 (((M:Nat):Int)-1+1)=((M:Nat):Int):=by rw [Qae (by omega) (by omega)];omega
  have i6:=bnd M (by omega)
  have i7:(0:Int)≤0∧(0:Int)≤((p+2:Nat):Int)∧((p+2:Nat):Int)≤((b.length+1:Nat):Int):=by omega
  have i8:(0:Int)≤0∧(0:Int)≤((p+2:Nat):Int)∧((p+2:Nat):Int)≤((a.length+1:Nat):Int):=by omega
  have hb':=hrb.len
  rw [hbl] at hb'
  simp only [Qog,Qry,go_sem] at hx
  simp only [iv] at hx2 hdv
  simp -implicitDefEqProofs (maxSteps:=9^8) only [Qhv,go_sem,iv,bv,w1,w2,z1,z2,hsd,hu1,hv1,hdv,hx,hx2,i1,i2,i3,i4,i5,i6,i7,i8,hra.len,hb',mapd_I,QlE,Qak,QbK,Qai,toDs,QdG,rowI,lq,reduceCtorEq,↓reduceIte,Nat.reduceEqDiff]

end Go.AM

/- integer.plus -/
namespace Go.AM
open Go Go.RowKit
variable [Its]

section
variable (da db:D) (a b:List Int)
def QfZ (out:List Int) (c i:Int):St :=
  ⟨upd (upd (upd (upd (upd (upd (upd fr0 23 (.d (.v (.int .i64 i)))) 22 (.d (.v (.int .i64 a.length)))) 21 (.d da)) 6 (.d (.v (.int .i64 c)))) 5 (.own [20] (a.length+1))) 1 (.d db)) 0 (.d da),
   hupd hp0 [20] ⟨1,a.length+1,QbP out,false⟩,[]⟩
def QiQ (out:List Int) (c:Int):St :=
 ⟨upd (upd (upd fr0 6 (.d (.v (.int .i64 c)))) 5 (.own [20] (a.length+1))) 0 (.d da),hupd hp0 [20] ⟨1,a.length+1,QbP out,false⟩,[]⟩

theorem plus_stop (out:List Int) (c:Int):X G Qbx (QfZ da db a out c a.length)=some (.x 0,QiQ da a out c):=by
 have e1:decide ((a.length:Int)<(a.length:Int))=false:=lt_f (by omega)
 simp -implicitDefEqProofs (maxSteps:=9^8) only [Qbx,QfZ,QiQ,go_sem,iv,bv,e1,Qak,reduceCtorEq,↓reduceIte,Nat.reduceEqDiff]

theorem plus_go (hra:Rw da a) (hrb:Rw db b) (ha:Dig a) (hb:Dig b) (hl:a.length<4611686018427387904) (hlb:b.length≤a.length) (out:List Int) (c:Int) (i:Nat) (hc:0≤c∧c≤1) (hi:i<a.length) (ho:out.length=a.length+1) :
    ∃ d c',(0≤d∧d<1000000000)∧(0≤c'∧c'≤1)∧d+1000000000*c'=a.getD i 0+b.getD i 0+c∧X G Qbx (QfZ da db a out c i)=some (.n,QfZ da db a (out.set i d) c' ((i+1:Nat):Int)):=by
  obtain ⟨a1,a2⟩:=ha.getD i
  obtain ⟨b1,b2⟩:=hb.getD i
  have e1:decide ((i:Int)<(a.length:Int))=true:=lt_t (by omega)
  have e2:=hra.ixn (j:=i) (by omega)
  have e3:=fun hp=>ldv hp a (j:=i) (by omega)
  have e4:w64 (a.getD i 0+c)=a.getD i 0+c:=Qae (by omega) (by omega)
  have e9:w64 ((i:Int)+1)=((i+1:Nat):Int):=by rw [Qae (by omega) (by omega)];omega
  have g1:(0:Int)≤(i:Int)∧(i:Int)<((a.length+1:Nat):Int):=by omega
  have g2:=fun v=>Qbs (l:=out) (off:=i) (v:=v) (by omega)
  by_cases h1:i<b.length
  · have f1:decide ((i:Int)<(b.length:Int))=true:=lt_t (by omega)
    have f2:=hrb.ixn (j:=i) (by omega)
    have f3:=fun hp=>ldv hp b (j:=i) (by omega)
    have f4:w64 (a.getD i 0+c+b.getD i 0)=a.getD i 0+c+b.getD i 0:=Qae (by omega) (by omega)
    by_cases h2:a.getD i 0+c+b.getD i 0≥1000000000
    · have k1:decide (a.getD i 0+c+b.getD i 0≥1000000000)=true:=ge_t h2
      have k2:w64 (a.getD i 0+c+b.getD i 0-1000000000)=a.getD i 0+c+b.getD i 0-1000000000:=Qae (by omega) (by omega)
      refine ⟨a.getD i 0+c+b.getD i 0-1000000000,1,by omega,by omega,by omega, ?_⟩
      simp -implicitDefEqProofs (maxSteps:=9^8) only [Qbx,QfZ,go_sem,iv,bv,e1,e2,e3,e4,e9,f1,f2,f3,f4,k1,k2,g1,g2,hra.len,hrb.len,allD,Qak,Qai,QbK,reduceCtorEq,↓reduceIte,Nat.reduceEqDiff]
    · have k1:decide (a.getD i 0+c+b.getD i 0≥1000000000)=false:=ge_f h2
      refine ⟨a.getD i 0+c+b.getD i 0,0,by omega,by omega,by omega, ?_⟩
      simp -implicitDefEqProofs (maxSteps:=9^8) only [Qbx,QfZ,go_sem,iv,bv,e1,e2,e3,e4,e9,f1,f2,f3,f4,k1,g1,g2,hra.len,hrb.len,allD,Qak,Qai,QbK,reduceCtorEq,↓reduceIte,Nat.reduceEqDiff]
  · have f1:decide ((i:Int)<(b.length:Int))=false:=lt_f (by omega)
    have f3:b.getD i 0=0:=by rw [List.getD_eq_getElem?_getD,List.getElem?_eq_none (by omega)];rfl
    by_cases h2:a.getD i 0+c≥1000000000
    · have k1:decide (a.getD i 0+c≥1000000000)=true:=ge_t h2
      have k2:w64 (a.getD i 0+c-1000000000)=a.getD i 0+c-1000000000:=Qae (by omega) (by omega)
      refine ⟨a.getD i 0+c-1000000000,1,by omega,by omega,by omega, ?_⟩
      simp -implicitDefEqProofs (maxSteps:=9^8) only [Qbx,QfZ,go_sem,iv,bv,e1,e2,e3,e4,e9,f1,k1,k2,g1,g2,hra.len,hrb.len,allD,Qak,Qai,QbK,reduceCtorEq,↓reduceIte,Nat.reduceEqDiff]
    · have k1:decide (a.getD i 0+c≥1000000000)=false:=ge_f h2
      refine ⟨a.getD i 0+c,0,by omega,by omega,by omega, ?_⟩
      simp -implicitDefEqProofs (maxSteps:=9^8) only [Qbx,QfZ,go_sem,iv,bv,e1,e2,e3,e4,e9,f1,k1,g1,g2,hra.len,hrb.len,allD,Qak,Qai,QbK,reduceCtorEq,↓reduceIte,Nat.reduceEqDiff]

theorem Qk8       (hra:Rw da a) (hrb:Rw db b) (ha:Dig a) (hb:Dig b) (hl:a.length<4611686018427387904) (hlb:b.length≤a.length):∀ (k i:Nat) (out:List Int) (c:Int),i+k=a.length→(0≤c∧c≤1)→out.length=a.length+1→Dig out→out.getD a.length 0=0 →
    val (out.take i)+(1000000000:Int)^i*c=val (a.take i)+val (b.take i) →
    ∃ out' c',X G (.loop Qbx) (QfZ da db a out c i)=some (.x 0,QiQ da a out' c')∧(0≤c'∧c'≤1)∧out'.length=a.length+1∧Dig out'∧out'.getD a.length 0=0∧val (out'.take a.length)+(1000000000:Int)^a.length*c'=val a+val b
  | 0,i,out,c,hi,hc,ho,hd,hz,hv=>by
    obtain rfl:i=a.length:=by omega
    refine ⟨out,c, ?_,hc,ho,hd,hz, ?_⟩
    · rw [Qag,plus_stop];rfl
    · rw [hv,List.take_length,List.take_of_length_le hlb]
  | k+1,i,out,c,hi,hc,ho,hd,hz,hv=>by
    obtain ⟨d,c',hd',hc',hs,hx⟩:=plus_go da db a b hra hrb ha hb hl hlb out c i hc (by omega) ho
    obtain ⟨out',c2,h1,h2⟩:=Qk8 hra hrb ha hb hl hlb k (i+1) (out.set i d) c' (by omega) hc' (by simpa using ho) (hd.set hd') (by rw [Qbb d (by omega)];exact hz) (by
      rw [Qff d (by omega),Qaq a,Qaq b,Int.pow_succ]
      grind)
    refine ⟨out',c2, ?_,h2⟩
    rw [Qag,hx]
    exact h1
end

theorem plus_ord {da db:D} {a b:List Int} (hra:Rw da a) (hrb:Rw db b) (ha:Dig a) (hb:Dig b) (hl:(a.length+1)*8≤140737488351232) (hlb:b.length≤a.length) :
    ∃ out,Qah G Qd0 [da,db]=some (.own 1 (a.length+1) (out.map iv))∧out.length=a.length+1∧Dig out∧val out=val a+val b:=by
  obtain ⟨out,c,h1,h2,h3,h4,h5,h6⟩:=Qk8 da db a b hra hrb ha hb (by omega) hlb a.length 0 (List.replicate (a.length+1) 0) 0 (by omega) (by omega) (by simp) (Dig.replicate _) (by simp [List.getD]) (by simp [val])
  refine ⟨out.set a.length c, ?_,by simpa using h3,h4.set (by omega), ?_⟩
  · rw [Qad (cf:=Qfc) rfl]
    simp only [QfZ,QiQ,nc0] at h1
    have e1:decide ((a.length:Int)<(b.length:Int))=false:=lt_f (by omega)
    have e2:w64 ((a.length:Int)+1)=((a.length+1:Nat):Int):=by rw [Qae (by omega) (by omega)];omega
    have e3:(0:Int)≤((a.length+1:Nat):Int)∧((a.length+1:Nat):Int)*((8:Nat):Int)≤((bound:Nat):Int):=by simp only [bound];omega
    have e4:(0:Int)≤((a.length:Nat):Int)∧(a.length:Int)<((a.length+1:Nat):Int):=by omega
    have g2:=fun v=>Qbs (l:=out) (off:=a.length) (v:=v) (by omega)
    simp -implicitDefEqProofs (maxSteps:=9^8) only [Qfc,go_sem,iv,bv,h1,e1,e2,e3,e4,g2,QlE,hra.len,hrb.len,Qak,Qai,QbK,reduceCtorEq,↓reduceIte,Nat.reduceEqDiff]
  · have:=Qff c (l:=out) (i:=a.length) (by omega)
    rw [List.take_of_length_le (by simp;omega)] at this
    rw [this];exact h6
theorem plus_swap {da db:D} {a b:List Int} (hra:Rw da a) (hrb:Rw db b) (ha:Dig a) (hb:Dig b) (hl:(a.length+1)*8≤140737488351232) (hlb:b.length<a.length) :
    ∃ out,Qah G Qd0 [db,da]=some (.own 1 (a.length+1) (out.map iv))∧out.length=a.length+1∧Dig out∧val out=val a+val b:=by
  obtain ⟨out,c,h1,h2,h3,h4,h5,h6⟩:=Qk8 da db a b hra hrb ha hb (by omega) (by omega) a.length 0 (List.replicate (a.length+1) 0) 0 (by omega) (by omega) (by simp) (Dig.replicate _) (by simp [List.getD]) (by simp [val])
  refine ⟨out.set a.length c, ?_,by simpa using h3,h4.set (by omega), ?_⟩
  · rw [Qad (cf:=Qfc) rfl]
    simp only [QfZ,QiQ,nc0] at h1
    have e1:decide ((b.length:Int)<(a.length:Int))=true:=lt_t (by omega)
    have e2:w64 ((a.length:Int)+1)=((a.length+1:Nat):Int):=by rw [Qae (by omega) (by omega)];omega
    have e3:(0:Int)≤((a.length+1:Nat):Int)∧((a.length+1:Nat):Int)*((8:Nat):Int)≤((bound:Nat):Int):=by simp only [bound];omega
    have e4:(0:Int)≤((a.length:Nat):Int)∧(a.length:Int)<((a.length+1:Nat):Int):=by omega
    have g2:=fun v=>Qbs (l:=out) (off:=a.length) (v:=v) (by omega)
    simp -implicitDefEqProofs (maxSteps:=9^8) only [Qfc,go_sem,iv,bv,h1,e1,e2,e3,e4,g2,QlE,hra.len,hrb.len,Qak,Qai,QbK,reduceCtorEq,↓reduceIte,Nat.reduceEqDiff]
  · have:=Qff c (l:=out) (i:=a.length) (by omega)
    rw [List.take_of_length_le (by simp;omega)] at this
    rw [this];exact h6
theorem QoI       {da db:D} {a b:List Int} (hra:Rw da a) (hrb:Rw db b) (ha:Dig a) (hb:Dig b) (hl:(max a.length b.length+1)*8≤140737488351232) :
    ∃ out,Qah G Qd0 [da,db]=some (.own 1 out.length (out.map iv))∧out.length=max a.length b.length+1∧Dig out∧val out=val a+val b:=by
  by_cases h:b.length≤a.length
  · obtain ⟨out,h1,h2,h3,h4⟩:=plus_ord hra hrb ha hb (by omega) h
    exact ⟨out,by rw [h2];exact h1,by omega,h3,h4⟩
  · obtain ⟨out,h1,h2,h3,h4⟩:=plus_swap hrb hra hb ha (by omega) (by omega)
    exact ⟨out,by rw [h2];exact h1,by omega,h3,by omega⟩
end Go.AM

/- integer.minus -/
namespace Go.AM
open Go Go.RowKit
variable [Its]

section
variable (db:D) (b:List Int)
def Qd6 (out:List Int) (i:Int):St :=
  ⟨upd (upd (upd (upd fr0 15 (.d (.v (.int .i64 i)))) 14 (.d (.v (.int .i64 out.length)))) 5 (.own [9] out.length)) 1 (.d db),
   hupd hp0 [9] ⟨1,out.length,QbP out,false⟩,[]⟩
def Qi8 (out:List Int):St:=⟨upd fr0 5 (.own [9] out.length),hupd hp0 [9] ⟨1,out.length,QbP out,false⟩,[]⟩

theorem Qsn (out:List Int):X G Qbd (Qd6 db out out.length)=some (.x 0,Qi8 out):=by
 have e1:decide ((out.length:Int)<(out.length:Int))=false:=lt_f (by omega)
 simp -implicitDefEqProofs (maxSteps:=9^8) only [Qbd,Qd6,Qi8,go_sem,iv,bv,e1,Qak,reduceCtorEq,↓reduceIte,Nat.reduceEqDiff]

theorem QpZ         (hr:Rw db b) (hb:Dig b) (out:List Int) (i:Nat) (hl:out.length<4611686018427387904) (hi:i<out.length) (ho:-1≤out.getD i 0∧out.getD i 0<1000000000) (hge:0≤out.getD i 0-b.getD i 0) :
    X G Qbd (Qd6 db out i)=some (.n,Qd6 db (out.set i (out.getD i 0-b.getD i 0)) ((i+1:Nat):Int)):=by
  obtain ⟨b1,b2⟩:=hb.getD i
  have e1:decide ((i:Int)<(out.length:Int))=true:=lt_t (by omega)
  have e9:w64 ((i:Int)+1)=((i+1:Nat):Int):=by rw [Qae (by omega) (by omega)];omega
  have g1:(0:Int)≤(i:Int)∧(i:Int)<(out.length:Int):=by omega
  have g2:=fun v=>Qbs (l:=out) (off:=i) (v:=v) hi
  have g3:=Qb8 (l:=out) (off:=i) hi
  have g4:Qab none i (QbP (out.set i (out.getD i 0-b.getD i 0)))=some (.d (.v (.int .i64 (out.getD i 0-b.getD i 0)))):=by
    rw [Qb8 (by simpa using hi)]
    simp [List.getD,hi]
  have e4:w64 (out.getD i 0-b.getD i 0)=out.getD i 0-b.getD i 0:=Qae (by omega) (by omega)
  have e5:decide (out.getD i 0-b.getD i 0<0)=false:=lt_f (by omega)
  by_cases h1:i<b.length
  · have f1:decide ((i:Int)<(b.length:Int))=true:=lt_t (by omega)
    have f2:=hr.ixn (j:=i) (by omega)
    have f3:=fun hp=>ldv hp b (j:=i) (by omega)
    simp -implicitDefEqProofs (maxSteps:=9^8) only [Qbd,Qd6,go_sem,iv,bv,e1,e4,e5,e9,f1,f2,f3,g1,g2,g3,g4,hr.len,Qak,Qai,QbK,allD,List.length_set,reduceCtorEq,↓reduceIte,Nat.reduceEqDiff]
  · have f1:decide ((i:Int)<(b.length:Int))=false:=lt_f (by omega)
    have f3:b.getD i 0=0:=by rw [List.getD_eq_getElem?_getD,List.getElem?_eq_none (by omega)];rfl
    have e6:out.set i (out.getD i 0-b.getD i 0)=out:=by
      rw [f3,Int.sub_zero]
      apply List.ext_getElem?
      intro j
      rw [List.getElem?_set]
      split
      · rename_i h;subst h;simp [List.getD,hi]
      · rfl
    have e5:decide (out.getD i 0<0)=false:=lt_f (by omega)
    rw [e6]
    simp -implicitDefEqProofs (maxSteps:=9^8) only [Qbd,Qd6,go_sem,iv,bv,e1,e5,e9,f1,g1,g2,g3,hr.len,Qak,Qai,QbK,allD,reduceCtorEq,↓reduceIte,Nat.reduceEqDiff]

theorem QrW        (hr:Rw db b) (hb:Dig b) (out:List Int) (i:Nat) (hl:out.length<4611686018427387904) (hi:i+1<out.length) (ho:-1≤out.getD i 0∧out.getD i 0<1000000000) (hn:0≤out.getD (i+1) 0∧out.getD (i+1) 0<1000000000) (hlt:out.getD i 0-b.getD i 0<0) :
    X G Qbd (Qd6 db out i)=some (.n,Qd6 db ((out.set i (out.getD i 0-b.getD i 0+1000000000)).set (i+1) (out.getD (i+1) 0-1)) ((i+1:Nat):Int)):=by
  obtain ⟨b1,b2⟩:=hb.getD i
  have e1:decide ((i:Int)<(out.length:Int))=true:=lt_t (by omega)
  have e9:w64 ((i:Int)+1)=((i+1:Nat):Int):=by rw [Qae (by omega) (by omega)];omega
  have g1:(0:Int)≤(i:Int)∧(i:Int)<(out.length:Int):=by omega
  have g1':(0:Int)≤((i+1:Nat):Int)∧((i+1:Nat):Int)<(out.length:Int):=by omega
  have g3:=Qb8 (l:=out) (off:=i) (by omega)
  have e4:w64 (out.getD i 0-b.getD i 0)=out.getD i 0-b.getD i 0:=Qae (by omega) (by omega)
  have e6:w64 (out.getD i 0-b.getD i 0+1000000000)=out.getD i 0-b.getD i 0+1000000000:=Qae (by omega) (by omega)
  have e7:w64 (out.getD (i+1) 0-1)=out.getD (i+1) 0-1:=Qae (by omega) (by omega)
  have g5:∀ v:Int,Qac i [A.d (.v (.int .i64 v))] (QbP out)=some (QbP (out.set i v)):=fun v=>Qbs (by omega)
  have g6:∀ v u:Int,Qac i [A.d (.v (.int .i64 v))] (QbP (out.set i u))=some (QbP (out.set i v)):=fun v u=>by
    rw [Qbs (by simp;omega),List.set_set]
  have g7:∀ u:Int,Qab none i (QbP (out.set i u))=some (.d (.v (.int .i64 u))):=fun u=>by
    rw [Qb8 (by simp;omega)]
    simp [List.getD,(by omega:i<out.length)]
  have g8:∀ u:Int,Qab none (i+1) (QbP (out.set i u))=some (.d (.v (.int .i64 (out.getD (i+1) 0)))):=fun u=>by
    rw [Qb8 (by simp;omega),Qbb u (by omega)]
  have g9:∀ v u:Int,Qac (i+1) [A.d (.v (.int .i64 v))] (QbP (out.set i u))=some (QbP ((out.set i u).set (i+1) v)):=fun v u=>Qbs (by simp;omega)
  by_cases h1:i<b.length
  · have f1:decide ((i:Int)<(b.length:Int))=true:=lt_t (by omega)
    have f2:=hr.ixn (j:=i) (by omega)
    have f3:=fun hp=>ldv hp b (j:=i) (by omega)
    have e5:decide (out.getD i 0-b.getD i 0<0)=true:=lt_t (by omega)
    simp -implicitDefEqProofs (maxSteps:=9^8) only [Qbd,Qd6,go_sem,iv,bv,e1,e4,e5,e6,e7,e9,f1,f2,f3,g1,g1',g3,g5,g6,g7,g8,g9,hr.len,Qak,Qai,QbK,allD,List.length_set,reduceCtorEq,↓reduceIte,Nat.reduceEqDiff]
  · have f1:decide ((i:Int)<(b.length:Int))=false:=lt_f (by omega)
    have f3:b.getD i 0=0:=by rw [List.getD_eq_getElem?_getD,List.getElem?_eq_none (by omega)];rfl
    rw [f3,Int.sub_zero] at e6 hlt ⊢
    have e5:decide (out.getD i 0<0)=true:=lt_t (by omega)
    simp -implicitDefEqProofs (maxSteps:=9^8) only [Qbd,Qd6,go_sem,iv,bv,e1,e5,e6,e7,e9,f1,g1,g1',g3,g5,g6,g7,g8,g9,hr.len,Qak,Qai,QbK,allD,List.length_set,reduceCtorEq,↓reduceIte,Nat.reduceEqDiff]

theorem Qj1        (hr:Rw db b) (hb:Dig b) (a:Int) (hba:val b≤a):∀ (k i:Nat) (out:List Int),out.length<4611686018427387904→b.length≤out.length→i+k=out.length→Dig (out.take i)→(i<out.length→-1≤out.getD i 0∧out.getD i 0<1000000000)→Dig (out.drop (i+1)) →
    val out=a-val (b.take i)→∃ out',X G (.loop Qbd) (Qd6 db out i)=some (.x 0,Qi8 out')∧out'.length=out.length∧Dig out'∧val out'=a-val b
  | 0,i,out,hl,hbl,hi,h1,h2,h3,hv=>by
    obtain rfl:i=out.length:=by omega
    refine ⟨out, ?_,rfl, ?_, ?_⟩
    · rw [Qag,Qsn];rfl
    · rw [List.take_length] at h1;exact h1
    · rw [hv,List.take_of_length_le hbl]
  | k+1,i,out,hl,hbl,hi,h1,h2,h3,hv=>by
    have hi':i<out.length:=by omega
    have ho:=h2 hi'
    obtain ⟨b1,b2⟩:=hb.getD i
    have hvb:val (b.take (i+1))=val (b.take i)+(1000000000:Int)^i*b.getD i 0:=Qaq b i
    by_cases hge:0≤out.getD i 0-b.getD i 0
    · have hx:=QpZ db b hr hb out i hl hi' ho hge
      obtain ⟨out',g1,g2,g3,g4⟩:=Qj1 hr hb a hba k (i+1) (out.set i (out.getD i 0-b.getD i 0)) (by simpa using hl) (by simpa using hbl) (by simp;omega)
        (by rw [Qjb _ hi',Dig.append];exact ⟨h1,Dig.cons.2 ⟨by omega,.nil⟩⟩)
        (fun hlt=>by
          rw [Qbb _ (by omega)]
          have:=Qjc h3 (Nat.le_refl _)
          omega)
        (by rw [Qhj         _ _ (by omega), show i + 1 + 1 = 1 + (i + 1) by omega, ← List.drop_drop]
            rw [List.drop_drop,show 1+(i+1)=(i+1)+1 by omega]
            have:=h3.drop 1
            rw [List.drop_drop] at this
            simpa [Nat.add_comm,Nat.add_left_comm] using this)
        (by rw [QeC _ _ _ hi',hv,hvb];grind)
      refine ⟨out', ?_,by simpa using g2,g3,g4⟩
      rw [Qag,hx]
      exact g1
    · -- a loan: there is a further place
      have hnext:i+1<out.length:=by
        rcases Nat.lt_or_ge (i+1) out.length with h | h
        · exact h
        · exfalso
          have hlen:out.length=i+1:=by omega
          have e1:val out=val (out.take i)+(1000000000:Int)^i*out.getD i 0:=by
            have:=Qaq out i
            rw [List.take_of_length_le (by omega)] at this
            exact this
          have e2:=Qfs h1
          rw [List.length_take,Nat.min_eq_left (by omega)] at e2
          have e3:=Qpn hb (i+1)
          have e4:(1000000000:Int)^i*(out.getD i 0-b.getD i 0)≤(1000000000:Int)^i*(-1):=Int.mul_le_mul_of_nonneg_left (by omega) (Int.pow_nonneg (by omega))
          grind
      have hnx:=Qjc h3 (Nat.le_refl _)
      have hx:=QrW db b hr hb out i hl hnext ho hnx (by omega)
      obtain ⟨out',g1,g2,g3,g4⟩:=Qj1 hr hb a hba k (i+1) ((out.set i (out.getD i 0-b.getD i 0+1000000000)).set (i+1) (out.getD (i+1) 0-1)) (by simpa using hl) (by simpa using hbl) (by simp;omega)
        (by rw [QlO _ _ (Nat.le_refl _),Qjb _ hi',Dig.append];exact ⟨h1,Dig.cons.2 ⟨by omega,.nil⟩⟩)
        (fun hlt=>by
          have:((out.set i (out.getD i 0-b.getD i 0+1000000000)).set (i+1) (out.getD (i+1) 0-1)).getD (i+1) 0=out.getD (i+1) 0-1:=by
            simp [List.getD,hnext]
          rw [this];omega)
        (by rw [Qhj         _ _ (by omega), Qhj         _ _ (by omega)]
            have:=h3.drop 1
            rw [List.drop_drop] at this
            simpa [Nat.add_comm,Nat.add_left_comm] using this)
        (by
          rw [QeC _ _ _ (by simpa using hnext),Qbb _ (by omega),QeC _ _ _ hi',hv,hvb,Int.pow_succ]
          grind)
      refine ⟨out', ?_,by simpa using g2,g3,g4⟩
      rw [Qag,hx]
      exact g1
end

theorem QjQ        {da db:D} {a b:List Int} (hra:Rw da a) (hrb:Rw db b) (ha:Dig a) (hb:Dig b) (hl:a.length*8≤140737488351232) (hbl:b.length≤a.length) (hle:val b≤val a) :
    ∃ out,Qah G Qem [da,db]=some (.own 1 out.length (out.map iv))∧out.length=a.length∧Dig out∧val out=val a-val b:=by
  obtain ⟨out,h1,h2,h3,h4⟩:=Qj1 db b hrb hb (val a) hle a.length 0 a (by omega) hbl (by omega) .nil (fun h=>by have:=ha.getD 0;omega) (ha.drop 1) (by simp [val])
  refine ⟨out, ?_,h2,h3,h4⟩
  rw [Qad (cf:=Qhh) rfl]
  simp only [Qd6,Qi8,nc0,h2] at h1
  have e3:(0:Int)≤(a.length:Int)∧(a.length:Int)*((8:Nat):Int)≤((bound:Nat):Int):=by simp only [bound];omega
  have e4:=fun h hk=>cpy_I (h:=h) (k:=[9]) (a:=a) (out:=List.replicate a.length 0) (n:=a.length) hk rfl (by simp)
  have e5:=e4 (hupd hp0 [9] ⟨1,a.length,QbP (List.replicate a.length 0),false⟩) rfl
  simp -implicitDefEqProofs (maxSteps:=9^8) only [Qhh,go_sem,iv,bv,h1,h2,e3,e5,QlE,hra.len,hra.src,Qak,Qai,QbK,reduceCtorEq,↓reduceIte,Nat.reduceEqDiff]
end Go.AM

/- cmp.Compare, integer.compare -/
namespace Go.AM
open Go Go.RowKit
variable [Its]

theorem Qq7 (x:Int):(x != x)=false:=by
 have _its:Its:=inferInstance
 simp
theorem QmE (x:Int):Qah G QfL [iv x]=some (.d (bv false)):=by
 rw [Qad (cf:=QgX) rfl]
 simp -implicitDefEqProofs (maxSteps:=9^8) only [QgX,go_sem,iv,bv,Qq7,reduceCtorEq,↓reduceIte,Nat.reduceEqDiff]
theorem Qhy (x y:Int):Qah G QeM [iv x,iv y]=some (.d (iv (Int.sign (x-y)))):=by
 rw [Qad (cf:=Qdx) rfl]
 have hx:=QmE x
 have hy:=QmE y
 simp only [iv,bv] at hx hy
 rcases Int.lt_trichotomy x y with h | h | h
 ·have e1:Int.sign (x-y) = -1:=Int.sign_eq_neg_one_of_neg (by omega)
  have e2:decide (x<y)=true:=lt_t h
  simp -implicitDefEqProofs (maxSteps:=9^8) only [Qdx,go_sem,iv,bv,hx,hy,e1,e2,reduceCtorEq,↓reduceIte,Nat.reduceEqDiff]
 ·subst h
  have e1:Int.sign (x-x)=0:=by rw [Int.sub_self];rfl
  have e2:decide (x<x)=false:=lt_f (by omega)
  have e3:decide (x>x)=false:=gt_f (by omega)
  simp -implicitDefEqProofs (maxSteps:=9^8) only [Qdx,go_sem,iv,bv,hx,e1,e2,e3,reduceCtorEq,↓reduceIte,Nat.reduceEqDiff]
 ·have e1:Int.sign (x-y)=1:=Int.sign_eq_one_of_pos (by omega)
  have e2:decide (x<y)=false:=lt_f (by omega)
  have e3:decide (x>y)=true:=gt_t h
  simp -implicitDefEqProofs (maxSteps:=9^8) only [Qdx,go_sem,iv,bv,hx,hy,e1,e2,e3,reduceCtorEq,↓reduceIte,Nat.reduceEqDiff]

section
variable (da db:D) (a b:List Int)
def Qjs (i:Int):St:=⟨upd (upd (upd fr0 5 (.d (.v (.int .i64 i)))) 1 (.d db)) 0 (.d da),hp0,[]⟩
def Qnj (r:Int):St:=⟨upd fr0 4 (.d (.v (.int .i64 r))),hp0,[]⟩

theorem cmp_zero:X G Qbg (Qjs da db (-1))=some (.x 0,⟨fr0,hp0,[]⟩):=by
 have e1:decide ((-1:Int)≥0)=false:=rfl
 simp -implicitDefEqProofs (maxSteps:=9^8) only [Qbg,Qjs,go_sem,iv,bv,e1,reduceCtorEq,↓reduceIte,Nat.reduceEqDiff]
theorem cmp_eq (hra:Rw da a) (hrb:Rw db b) (j:Nat) (hl:a.length<4611686018427387904) (ha:j<a.length) (hb:j<b.length) (h:a.getD j 0=b.getD j 0):X G Qbg (Qjs da db j)=some (.n,Qjs da db ((j:Int)-1)):=by
 have e1:decide ((j:Int)≥0)=true:=ge_t (by omega)
 have e2:=hra.ixn ha
 have e3:=fun hp=>ldv hp a ha
 have e4:=hrb.ixn hb
 have e5:=fun hp=>ldv hp b hb
 have e6:w64 ((j:Int)-1)=(j:Int)-1:=Qae (by omega) (by omega)
 rw [h] at e3
 simp -implicitDefEqProofs (maxSteps:=9^8) only [Qbg,Qjs,go_sem,iv,bv,e1,e2,e3,e4,e5,e6,Qq7,reduceCtorEq,↓reduceIte,Nat.reduceEqDiff]
theorem cmp_ne (hra:Rw da a) (hrb:Rw db b) (j:Nat) (hl:a.length<4611686018427387904) (ha:j<a.length) (hb:j<b.length) (h:a.getD j 0≠b.getD j 0):X G Qbg (Qjs da db j)=some (.r,Qnj (Int.sign (a.getD j 0-b.getD j 0))):=by
 have e1:decide ((j:Int)≥0)=true:=ge_t (by omega)
 have e2:=hra.ixn ha
 have e3:=fun hp=>ldv hp a ha
 have e4:=hrb.ixn hb
 have e5:=fun hp=>ldv hp b hb
 have e6:=Qhy (a.getD j 0) (b.getD j 0)
 simp only [iv] at e6
 simp -implicitDefEqProofs (maxSteps:=9^8) only [Qbg,Qjs,Qnj,go_sem,iv,bv,e1,e2,e3,e4,e5,e6,QeL h,reduceCtorEq,↓reduceIte,Nat.reduceEqDiff]

theorem sign_top {x y:Int} {j:Nat} {p q:Int} (hx:0≤x∧x<(1000000000:Int)^j) (hy:0≤y∧y<(1000000000:Int)^j) (h:p≠q):Int.sign (x+(1000000000:Int)^j*p-(y+(1000000000:Int)^j*q))=Int.sign (p-q):=by
 have _its:Its:=inferInstance
 rcases Int.lt_or_gt_of_ne h with h | h
 ·have e:(1000000000:Int)^j*p≤(1000000000:Int)^j*(q-1):=Int.mul_le_mul_of_nonneg_left (by omega) (by omega)
  rw [Int.sign_eq_neg_one_of_neg (by omega:p-q<0),Int.sign_eq_neg_one_of_neg (by grind)]
 ·have e:(1000000000:Int)^j*q≤(1000000000:Int)^j*(p-1):=Int.mul_le_mul_of_nonneg_left (by omega) (by omega)
  rw [Int.sign_eq_one_of_pos (by omega:0<p-q),Int.sign_eq_one_of_pos (by grind)]

theorem QhJ {l:List Int} (h:Dig l) {n:Nat} (hn:n≤l.length):0≤val (l.take n)∧val (l.take n)<(1000000000:Int)^n:=by
 have _its:Its:=inferInstance
 refine ⟨QaK (h.take n), ?_⟩
 have:=Qfs (h.take n)
 rwa [List.length_take,Nat.min_eq_left hn] at this

theorem Qq2      (hra:Rw da a) (hrb:Rw db b) (ha:Dig a) (hb:Dig b) (hl:a.length<4611686018427387904):∀ j:Nat,j≤a.length→j≤b.length →
    X G (.loop Qbg) (Qjs da db ((j:Int)-1))=if val (a.take j)=val (b.take j) then some (.x 0,⟨fr0,hp0,[]⟩) else some (.r,Qnj (Int.sign (val (a.take j)-val (b.take j))))
  | 0,_,_=>by
    rw [Qag,show ((0:Nat):Int)-1 = -1 from rfl,cmp_zero]
    simp [val]
  | j+1,h1,h2=>by
    rw [Qag,show ((j+1:Nat):Int)-1=(j:Int) by omega,Qaq a,Qaq b]
    obtain ⟨xa,ya⟩:=QhJ ha (n:=j) (by omega)
    obtain ⟨xb,yb⟩:=QhJ hb (n:=j) (by omega)
    by_cases h:a.getD j 0=b.getD j 0
    · rw [cmp_eq da db a b hra hrb j hl (by omega) (by omega) h,h]
      simp only [Option.bind_some,ex_n_n,if_true]
      rw [Qq2 hra hrb ha hb hl j (by omega) (by omega)]
      by_cases h3:val (a.take j)=val (b.take j)
      · rw [if_pos h3,if_pos (by rw [h3])]
      · rw [if_neg h3,if_neg (by omega),show val (a.take j)+(1000000000:Int)^j*b.getD j 0-(val (b.take j)+(1000000000:Int)^j*b.getD j 0)=val (a.take j)-val (b.take j) by omega]
    · rw [cmp_ne da db a b hra hrb j hl (by omega) (by omega) h]
      have hs:=sign_top ⟨xa,ya⟩ ⟨xb,yb⟩ h
      have hne:¬ (val (a.take j)+(1000000000:Int)^j*a.getD j 0=val (b.take j)+(1000000000:Int)^j*b.getD j 0):=by
        intro he
        rw [he,Int.sub_self] at hs
        have:a.getD j 0-b.getD j 0=0:=Int.sign_eq_zero_iff_zero.1 hs.symm
        omega
      rw [if_neg hne,hs]
      rfl
end

theorem top_ge {l:List Int} (hd:Dig l) (ht:Top l) (h:l≠[]):(1000000000:Int)^(l.length-1)≤val l:=by
 have _its:Its:=inferInstance
 have hlen:0<l.length:=List.length_pos_iff.2 h
 have h1:=Qaq l (l.length-1)
 rw [show l.length-1+1=l.length by omega,List.take_length] at h1
 have h2:=ht h
 have h3:l.getD (l.length-1) 0=l.getLast h:=by
  rw [List.getLast_eq_getElem,List.getD_eq_getElem?_getD,List.getElem?_eq_getElem (by omega)];rfl
 have h4:=hd.getD (l.length-1)
 have h5:=QaK (hd.take (l.length-1))
 have h6:(1000000000:Int)^(l.length-1)*1≤(1000000000:Int)^(l.length-1)*l.getD (l.length-1) 0:=Int.mul_le_mul_of_nonneg_left (by omega) (Int.pow_nonneg (by omega))
 omega
theorem Qhl {a b:List Int} (ha:Dig a) (hb:Dig b) (hbt:Top b) (h:a.length<b.length):val a<val b:=by
 have h1:=Qfs ha
 have h2:=top_ge hb hbt (by rintro rfl;simp at h)
 have h3:(1000000000:Int)^a.length≤(1000000000:Int)^(b.length-1):=Qi5 (by omega)
 omega

theorem Qke          {da db:D} {a b:List Int} (hra:Rw da a) (hrb:Rw db b) (ha:Dig a) (hb:Dig b) (hat:Top a) (hbt:Top b) (hla:a.length<4611686018427387904) (hlb:b.length<4611686018427387904) :
    Qah G QeH [da,db]=some (.d (iv (Int.sign (val a-val b)))):=by
  rw [Qad (cf:=Qdt) rfl]
  by_cases h:a.length=b.length
  · have e1:(((a.length:Int)) != (b.length:Int))=false:=bne_f (by omega)
    have e2:w64 ((a.length:Int)-1)=(a.length:Int)-1:=Qae (by omega) (by omega)
    have hlp:=Qq2 da db a b hra hrb ha hb hla a.length (Nat.le_refl _) (by omega)
    rw [List.take_length,h,List.take_length] at hlp
    rw [← h] at hlp
    simp only [Qjs,Qnj] at hlp
    by_cases hv:val a=val b
    · rw [if_pos hv] at hlp
      rw [hv,Int.sub_self]
      simp -implicitDefEqProofs (maxSteps:=9^8) only [Qdt,go_sem,iv,bv,hra.len,hrb.len,e1,e2,hlp,reduceCtorEq,↓reduceIte,Nat.reduceEqDiff]
      rfl
    · rw [if_neg hv] at hlp
      simp -implicitDefEqProofs (maxSteps:=9^8) only [Qdt,go_sem,iv,bv,hra.len,hrb.len,e1,e2,hlp,reduceCtorEq,↓reduceIte,Nat.reduceEqDiff]
  · have e1:(((a.length:Int)) != (b.length:Int))=true:=QeL (by omega)
    have e2:=Qhy (a.length:Int) (b.length:Int)
    simp only [iv] at e2
    have e3:Int.sign ((a.length:Int)-(b.length:Int))=Int.sign (val a-val b):=by
      rcases Nat.lt_or_gt_of_ne h with h | h
      · have:=Qhl ha hb hbt h
        rw [Int.sign_eq_neg_one_of_neg (by omega),Int.sign_eq_neg_one_of_neg (by omega)]
      · have:=Qhl hb ha hat h
        rw [Int.sign_eq_one_of_pos (by omega),Int.sign_eq_one_of_pos (by omega)]
    rw [e3] at e2
    simp -implicitDefEqProofs (maxSteps:=9^8) only [Qdt,go_sem,iv,bv,hra.len,hrb.len,e1,e2,reduceCtorEq,↓reduceIte,Nat.reduceEqDiff]
end Go.AM

/- integer.Add, Neg, Sub, Compare, Sign -/
namespace Go.AM
open Go Go.RowKit
variable [Its]

theorem Qqx {x y:Int} (hx:nd x≤1000000000000) (hy:nd y≤1000000000000):Qah G Qg2 [encI x,encI y]=some (.d (encI (x+y))):=by
  rw [Qad (cf:=QfS) rfl]
  have hx':(digs x.natAbs).length≤1000000000000:=hx
  have hy':(digs y.natAbs).length≤1000000000000:=hy
  have dx:=Qap x.natAbs
  have dy:=Qap y.natAbs
  have vx:=Qd7 x
  have vy:=Qd7 y
  by_cases hs:decide (x<0)=decide (y<0)
  · obtain ⟨out,g1,g2,g3,g4⟩:=QoI (Rw.dg _) (Rw.dg _) dx dy (by omega)
    have g5:=Qeb (decide (x<0)) (Rw.row out) (by omega) g3
    have e1:(decide (x<0)==decide (y<0))=true:=by rw [hs];simp
    have e2:sgn (decide (x<0)) (val out)=x+y:=by
      rw [g4,vx,vy]
      by_cases h:x<0
      · have h2:y<0:=by simpa [h] using hs
        simp [sgn,h];omega
      · have h2:¬ y<0:=by simpa [h] using hs
        simp [sgn,h];omega
    rw [e2] at g5
    simp only [rowI,bv] at g5
    simp -implicitDefEqProofs (maxSteps:=9^8) only [QfS,encI,go_sem,Qac,Qab,iv,bv,e1,g1,g5,reduceCtorEq,↓reduceIte,Nat.reduceEqDiff]
  · have e1:(decide (x<0)==decide (y<0))=false:=by simpa using hs
    have g0:=Qke (Rw.dg _) (Rw.dg _) dx dy (QcM _) (QcM _) (by omega) (by omega)
    rw [vx,vy] at g0
    simp only [iv] at g0
    have lx:=Qfb x
    have ly:=Qfb y
    have len:∀ {u v:Int},u.natAbs≤v.natAbs→(digs u.natAbs).length≤(digs v.natAbs).length:=fun h=>QhO h
    by_cases hlt:x.natAbs<y.natAbs
    · have hsg:Int.sign ((x.natAbs:Int)-(y.natAbs:Int)) = -1:=Int.sign_eq_neg_one_of_neg (by omega)
      rw [hsg] at g0
      obtain ⟨out,g1,g2,g3,g4⟩:=QjQ (Rw.dg _) (Rw.dg _) dy dx (by omega) (len (by omega)) (by omega)
      have g5:=Qeb (decide (y<0)) (Rw.row out) (by omega) g3
      have e2:sgn (decide (y<0)) (val out)=x+y:=by
        rw [g4,vx,vy]
        by_cases h:y<0
        · have h2:¬ x<0:=by intro h3;exact hs (by simp [h,h3])
          simp [sgn,h];omega
        · have h2 : x < 0 := by
            rcases Int.lt_or_le x 0 with h3 | h3
            · exact h3
            · exact absurd (by simp [h,Int.not_lt.2 h3]) hs
          simp [sgn,h];omega
      rw [e2] at g5
      simp only [rowI,bv] at g5
      have e3:decide ((-1:Int)<0)=true:=rfl
      simp -implicitDefEqProofs (maxSteps:=9^8) only [QfS,encI,go_sem,Qac,Qab,iv,bv,e1,e3,g0,g1,g5,reduceCtorEq,↓reduceIte,Nat.reduceEqDiff]
    · have e3 : decide (Int.sign ((x.natAbs : Int) - (y.natAbs : Int)) < 0) = false := by
        apply lt_f
        rcases Int.lt_or_le 0 ((x.natAbs:Int)-(y.natAbs:Int)) with h | h
        · rw [Int.sign_eq_one_of_pos h];omega
        · rw [show (x.natAbs:Int)-(y.natAbs:Int)=0 by omega];exact Int.lt_irrefl 0
      obtain ⟨out,g1,g2,g3,g4⟩:=QjQ (Rw.dg _) (Rw.dg _) dx dy (by omega) (len (by omega)) (by omega)
      have g5:=Qeb (decide (x<0)) (Rw.row out) (by omega) g3
      have e2:sgn (decide (x<0)) (val out)=x+y:=by
        rw [g4,vx,vy]
        by_cases h:x<0
        · have h2:¬ y<0:=by intro h3;exact hs (by simp [h,h3])
          simp [sgn,h];omega
        · have h2 : y < 0 := by
            rcases Int.lt_or_le y 0 with h3 | h3
            · exact h3
            · exact absurd (by simp [h,Int.not_lt.2 h3]) hs
          simp [sgn,h];omega
      rw [e2] at g5
      simp only [rowI,bv] at g5
      simp -implicitDefEqProofs (maxSteps:=9^8) only [QfS,encI,go_sem,Qac,Qab,iv,bv,e1,e3,g0,g1,g5,reduceCtorEq,↓reduceIte,Nat.reduceEqDiff]

theorem Qns (x:Int):Qah G Qfx [encI x]=some (.d (encI (-x))):=by
 rw [Qad (cf:=Qg9) rfl]
 have el:=QaV (digs x.natAbs)
 have en:(-x).natAbs=x.natAbs:=Int.natAbs_neg x
 by_cases h:x<0
 ·have e1:decide (x<0)=true:=decide_eq_true h
  have e2:decide (-x<0)=false:=decide_eq_false (by omega)
  simp -implicitDefEqProofs (maxSteps:=9^8) only [Qg9,encI,go_sem,Qac,Qab,iv,bv,e1,e2,en,el,reduceCtorEq,↓reduceIte,Nat.reduceEqDiff]
 ·have e1:decide (x<0)=false:=decide_eq_false h
  have e3:decide (((digs x.natAbs).length:Int)>0)=decide (-x<0):=by
   have:=digs_length_pos (n:=x.natAbs)
   by_cases h0:x=0
   ·subst h0
    have h9:¬ 0<(digs (0:Int).natAbs).length:=by rw [digs_length_pos];simp
    rw [gt_f (by omega)];rfl
   ·have:0<(digs x.natAbs).length:=digs_length_pos.2 (by omega)
    rw [gt_t (by omega)]
    exact (decide_eq_true (by omega)).symm
  simp -implicitDefEqProofs (maxSteps:=9^8) only [Qg9,encI,go_sem,Qac,Qab,iv,bv,e1,e3,en,el,reduceCtorEq,↓reduceIte,Nat.reduceEqDiff]

theorem Qo1 (x:Int):Qah G QdY [encI x]=some (.d (iv (Int.sign x))):=by
 rw [Qad (cf:=QcC) rfl]
 have el:=QaV (digs x.natAbs)
 rcases Int.lt_trichotomy x 0 with h | h | h
 ·have e1:decide (x<0)=true:=decide_eq_true h
  have e2:Int.sign x = -1:=Int.sign_eq_neg_one_of_neg h
  simp -implicitDefEqProofs (maxSteps:=9^8) only [QcC,encI,go_sem,Qac,Qab,iv,bv,e1,e2,el,reduceCtorEq,↓reduceIte,Nat.reduceEqDiff]
 ·subst h
  have e1:decide ((0:Int)<0)=false:=rfl
  have e2:Int.sign 0=0:=rfl
  have e3:(digs (0:Int).natAbs).length=0:=QfT
  have e4:((0:Int)==0)=true:=rfl
  simp -implicitDefEqProofs (maxSteps:=9^8) only [QcC,encI,go_sem,Qac,Qab,iv,bv,e1,e2,e3,e4,el,reduceCtorEq,↓reduceIte,Nat.reduceEqDiff]
 ·have e1:decide (x<0)=false:=decide_eq_false (by omega)
  have e2:Int.sign x=1:=Int.sign_eq_one_of_pos h
  have e3:0<(digs x.natAbs).length:=digs_length_pos.2 (by omega)
  have e4:(((digs x.natAbs).length:Int)==0)=false:=Qb9 (by omega)
  simp -implicitDefEqProofs (maxSteps:=9^8) only [QcC,encI,go_sem,Qac,Qab,iv,bv,e1,e2,e4,el,reduceCtorEq,↓reduceIte,Nat.reduceEqDiff]

end Go.AM

/- integer.divide -/
namespace Go.AM
open Go Go.RowKit

theorem QhG:encI 0=.agg [bv false,.z true]:=by
 have:digs (0:Int).natAbs=[]:=Qav
 rw [encI,this];rfl
theorem Qay (x:Int):encI (sgn false x)=encI x:=rfl
theorem Qll {x y q r:Int} (h:x=q*y+r) (h0:0≤r) (h1:r<y):x/y=q∧x%y=r:=by
 subst h
 have hy:y≠0:=by omega
 constructor
 ·rw [Int.add_comm,Int.add_mul_ediv_right _ _ hy,Int.ediv_eq_zero_of_lt h0 h1,Int.zero_add]
 ·rw [Int.add_comm,Int.add_mul_emod_self_right,Int.emod_eq_of_lt h0 h1]
theorem Qbm {x y:Nat} (h:x≤y):(digs x).length≤(digs y).length:=by
 have:=QhO (x:=(x:Int)) (y:=(y:Int)) (by simpa using h)
 simpa [nd] using this
theorem QeR {x:Nat} (h:(digs x).length≤2):x<1000000000000000000:=by
 have h1:=Qfs (Qap x)
 rw [Qat] at h1
 have h2:=Qi5 h
 have h3:(1000000000:Int)^2=1000000000000000000:=by decide
 omega
theorem digs_last {x:Nat} {p:Nat} (h:(digs x).length=p+1):0<(digs x).getD p 0:=by
 have ht:=QcM x
 have hd:=(Qap x).getD p
 have hne:digs x≠[]:=by intro h';rw [h'] at h;simp at h
 have:=ht hne
 have e:(digs x).getLast hne=(digs x).getD p 0:=by
  rw [List.getLast_eq_getElem,List.getD_eq_getElem?_getD,List.getElem?_eq_getElem (by omega)]
  simp [h]
 rw [e] at this
 omega
theorem Qn0 {x:Int} (h:0≤x∧x<18446744073709551616):x%18446744073709551616=x:=by omega
theorem div_range {x y:Int} (hx:0≤x∧x<1000000000000000000) (hy:0<y):(0≤x/y∧x/y<1000000000000000000)∧0≤x%y∧x%y<1000000000000000000:=by
 have h1:=Int.ediv_nonneg hx.1 (Int.le_of_lt hy)
 have h2:=Int.ediv_le_self y hx.1
 have h3:=Int.emod_nonneg x (by omega:y≠0)
 have h4:x%y≤x:=by
  have:=Int.mul_ediv_add_emod x y
  have h5:=Int.mul_nonneg (Int.le_of_lt hy) h1
  generalize y*(x/y)=z at *
  omega
 generalize x/y=q at *
 generalize x%y=r at *
 omega
variable [Its]

theorem Qlg         {x y:Nat} (hy:0<y) (hx:(digs x).length≤1000000000000) (hyl:(digs y).length≤1000000000000) :
    Qah G Qfr [dg (digs x),dg (digs y)]=some (.d (.tup [encI ((x:Int)/(y:Int)),encI ((x:Int)%(y:Int))])):=by
  rw [Qad (cf:=Qcd) rfl]
  have dx:=Qap x
  have dy:=Qap y
  have vx:=Qat x
  have vy:=Qat y
  have t1:=QkE (Rw.dg (digs x)) dx (by omega)
  have t2:=QkE (Rw.dg (digs y)) dy (by omega)
  have tc:=Qke (Rw.dg _) (Rw.dg _) dx dy (QcM _) (QcM _) (by omega) (by omega)
  have ly:=QaV (digs y)
  rw [vx,vy] at tc
  rw [vx] at t1
  rw [vy] at t2
  simp only [iv,bv] at t1 t2 tc
  by_cases hlt:x<y
  · -- less
    have q0:(x:Int)/(y:Int)=0:=Int.ediv_eq_zero_of_lt (by omega) (by omega)
    have r0:(x:Int)%(y:Int)=x:=Int.emod_eq_of_lt (by omega) (by omega)
    by_cases h1:(digs x).length≤2
    · by_cases h2:(digs y).length≤2
      · have s1:=QeR h1
        rw [if_pos h1,decide_eq_true h1] at t1
        rw [if_pos h2,decide_eq_true h2] at t2
        have e1:=Qjr (b:=(y:Int)) (by omega)
        have e2:=QeN (a:=(x:Int)) (b:=(y:Int)) (by omega)
        have e3:=QdV (a:=(x:Int)) (b:=(y:Int)) (by omega)
        rw [q0] at e2 ⊢
        rw [r0] at e3 ⊢
        have e4:w64 0=0:=Qae (by omega) (by omega)
        have e5:(0:Int)%18446744073709551616=0:=rfl
        have e6:=Qn0 (x:=(x:Int)) (by omega)
        have u1:=Qcb false (u:=0) (by omega)
        have u2:=Qcb false (u:=(x:Int)) (by omega)
        rw [Qay] at u1 u2
        simp only [bv] at u1 u2
        simp -implicitDefEqProofs (maxSteps:=9^8) only [Qcd,encI,go_sem,Qac,Qab,iv,bv,t1,t2,e1,e2,e3,e4,e5,e6,u1,u2,toDs,reduceCtorEq,↓reduceIte,Nat.reduceEqDiff]
      · rw [if_pos h1,decide_eq_true h1] at t1
        rw [if_neg h2,decide_eq_false h2] at t2
        have o1:=Qeb false (Rw.dg (digs x)) (by omega) dx
        rw [Qay,vx] at o1
        rw [Int.sign_eq_neg_one_of_neg (by omega)] at tc
        have e1:decide ((-1:Int)<0)=true:=rfl
        rw [q0,r0,QhG]
        simp only [bv] at o1
        simp -implicitDefEqProofs (maxSteps:=9^8) only [Qcd,encI,go_sem,Qac,Qab,iv,bv,t1,t2,tc,e1,o1,toDs,reduceCtorEq,↓reduceIte,Nat.reduceEqDiff]
    · rw [if_neg h1,decide_eq_false h1] at t1
      have o1:=Qeb false (Rw.dg (digs x)) (by omega) dx
      rw [Qay,vx] at o1
      rw [Int.sign_eq_neg_one_of_neg (by omega)] at tc
      have e1:decide ((-1:Int)<0)=true:=rfl
      rw [q0,r0,QhG]
      simp only [bv] at o1
      simp -implicitDefEqProofs (maxSteps:=9^8) only [Qcd,encI,go_sem,Qac,Qab,iv,bv,t1,t2,tc,e1,o1,toDs,reduceCtorEq,↓reduceIte,Nat.reduceEqDiff]
  · have hle:=Qbm (Nat.le_of_not_lt hlt)
    by_cases h1:(digs x).length≤2
    · have h2:(digs y).length≤2:=by omega
      have s1:=QeR h1
      rw [if_pos h1,decide_eq_true h1] at t1
      rw [if_pos h2,decide_eq_true h2] at t2
      have e1:=Qjr (b:=(y:Int)) (by omega)
      have e2:=QeN (a:=(x:Int)) (b:=(y:Int)) (by omega)
      have e3:=QdV (a:=(x:Int)) (b:=(y:Int)) (by omega)
      obtain ⟨d1,d2,d3⟩:=div_range (x:=(x:Int)) (y:=(y:Int)) (by omega) (by omega)
      obtain ⟨Q,hQ⟩:∃ Q,(x:Int)/(y:Int)=Q:=⟨_,rfl⟩
      obtain ⟨M,hM⟩:∃ M,(x:Int)%(y:Int)=M:=⟨_,rfl⟩
      rw [hQ] at e2 d1 ⊢
      rw [hM] at e3 d2 d3 ⊢
      have e4:w64 Q=Q:=Qae (by omega) (by omega)
      have e5:=Qn0 (x:=Q) (by omega)
      have e6:=Qn0 (x:=M) (by omega)
      have u1:=Qcb false (u:=Q) (by omega)
      have u2:=Qcb false (u:=M) (by omega)
      rw [Qay] at u1 u2
      simp only [bv] at u1 u2
      simp -implicitDefEqProofs (maxSteps:=9^8) only [Qcd,encI,go_sem,Qac,Qab,iv,bv,t1,t2,e1,e2,e3,e4,e5,e6,u1,u2,toDs,reduceCtorEq,↓reduceIte,Nat.reduceEqDiff]
    · rw [if_neg h1,decide_eq_false h1] at t1
      have e1:decide (Int.sign ((x:Int)-(y:Int))<0)=false:=by
        apply lt_f
        rcases Int.lt_or_le 0 ((x:Int)-(y:Int)) with h | h
        · rw [Int.sign_eq_one_of_pos h];omega
        · rw [show (x:Int)-(y:Int)=0 by omega];exact Int.lt_irrefl 0
      have hlp:0<(digs y).length:=digs_length_pos.2 hy
      by_cases h3:(digs y).length=1
      · -- one digit
        obtain ⟨b1,b2⟩:=Qlm h3
        obtain ⟨q,r,g1,g2,g3,g4,g5⟩:=Qmm (Rw.dg (digs x)) dx (b:=(y:Int)) (by omega) (by omega)
        rw [vx] at g5
        obtain ⟨u1,u2⟩:=Qll g5 g2.1 g2.2
        rw [u1,u2]
        have o1:=Qeb false (Rw.row q) (by omega) g4
        rw [Qay] at o1
        have o2:=Qcb false (u:=r) (by omega)
        rw [Qay] at o2
        have i1:=(Rw.dg (digs y)).ixn (j:=0) (by omega)
        have i2:=fun hp=>ldv hp (digs y) (j:=0) (by omega)
        simp only [nc0,List.drop_zero,b1] at i1 i2
        have e2:=Qn0 (x:=r) (by omega)
        have e3:(((digs y).length:Int)==1)=true:=Qkx (by omega)
        simp only [bv,iv] at o1 o2 g1
        simp -implicitDefEqProofs (maxSteps:=9^8) only [Qcd,encI,go_sem,Qac,Qab,iv,bv,t1,tc,e1,e2,e3,g1,o1,o2,i1,i2,ly,toDs,reduceCtorEq,↓reduceIte,Nat.reduceEqDiff]
      · obtain ⟨p,hp⟩:∃ p,(digs y).length=p+2:=⟨(digs y).length-2,by omega⟩
        obtain ⟨q,r,g1,g2,g3,g4,g5,g6,g7⟩:=long_spec (Rw.dg (digs x)) (Rw.dg (digs y)) dx dy hp (digs_last hp) hle hx
        rw [vx,vy] at g6
        rw [vy] at g7
        obtain ⟨u1,u2⟩:=Qll (x:=(x:Int)) (y:=(y:Int)) (q:=val q) (r:=val r) (by rw [g6,Int.mul_comm]) (QaK g3) g7
        rw [u1,u2]
        clear g6
        have o1:=Qeb false (Rw.row q) (by omega) g2
        have o2:=Qeb false (Rw.row r) (by omega) g3
        rw [Qay] at o1 o2
        have e3:(((digs y).length:Int)==1)=false:=Qb9 (by omega)
        simp only [bv,iv] at o1 o2 g1
        simp -implicitDefEqProofs (maxSteps:=9^8) only [Qcd,encI,go_sem,Qac,Qab,iv,bv,t1,tc,e1,e3,g1,o1,o2,ly,toDs,reduceCtorEq,↓reduceIte,Nat.reduceEqDiff]
end Go.AM

/- integer.Div, Sub -/
namespace Go.AM
open Go Go.RowKit

theorem QiC (neg:Bool) (n:Nat):D.agg [.v (.bool (neg&&decide (((digs n).length:Int)>0))),dg (digs n)]=encI (sgn neg (n:Int)):=by
 by_cases h:n=0
 ·subst h
  have e:digs 0=[]:=Qav
  have e2:sgn neg ((0:Nat):Int)=0:=by cases neg<;>rfl
  rw [e2,QhG,e]
  simp [dg,bv]
 ·have h1:((digs n).length:Int)>0:=by have:=digs_length_pos.2 (Nat.pos_of_ne_zero h);omega
  rw [decide_eq_true h1,Bool.and_true]
  unfold encI
  have e2:(sgn neg (n:Int)).natAbs=n:=by rw [Qij];rfl
  have e3:decide (sgn neg (n:Int)<0)=neg:=by
   cases neg
   ·simp only [sgn,Bool.false_eq_true,if_false,decide_eq_false_iff_not];omega
   ·simp only [sgn,if_true,decide_eq_true_eq];omega
  rw [e2,e3];rfl
theorem Qme        {x y:Int} (hy:y≠0) :
    (¬ x<0→x/y=sgn (decide (y<0)) ((x.natAbs:Int)/(y.natAbs:Int))∧x%y=(x.natAbs:Int)%(y.natAbs:Int)) ∧
    (x<0→(x.natAbs:Int)%(y.natAbs:Int)=0→x/y=sgn (!decide (y<0)) ((x.natAbs:Int)/(y.natAbs:Int))∧x%y=0) ∧
    (x<0→(x.natAbs:Int)%(y.natAbs:Int)≠0→x/y=sgn (!decide (y<0)) ((x.natAbs:Int)/(y.natAbs:Int)+1)∧x%y=(y.natAbs:Int)-(x.natAbs:Int)%(y.natAbs:Int)):=by
  have hb:0<(y.natAbs:Int):=by omega
  obtain ⟨a,ha⟩:∃ a,(x.natAbs:Int)=a:=⟨_,rfl⟩
  obtain ⟨b,hbd⟩:∃ b,(y.natAbs:Int)=b:=⟨_,rfl⟩
  rw [ha,hbd]
  rw [hbd] at hb
  have e:=Int.mul_ediv_add_emod a b
  have m1:=Int.emod_nonneg a (by omega:b≠0)
  have m2:=Int.emod_lt_of_pos a hb
  have key:∀ q r:Int,x=q*b+r→0≤r→r<b→x/y=sgn (decide (y<0)) q∧x%y=r:=by
    intro q r h h0 h1
    obtain ⟨g1,g2⟩:=Qll h h0 h1
    by_cases hn:y<0
    · have:y = -b:=by omega
      rw [this,Int.ediv_neg,Int.emod_neg,g1,g2,← this,decide_eq_true hn]
      exact ⟨rfl,rfl⟩
    · have:y=b:=by omega
      rw [this,g1,g2,← this,decide_eq_false hn]
      exact ⟨rfl,rfl⟩
  have sg:∀ q:Int,sgn (decide (y<0)) (-q)=sgn (!decide (y<0)) q:=by
    intro q
    by_cases hn:y<0<;>simp [sgn,hn]
  refine ⟨fun hx=>?_,fun hx h0=>?_,fun hx h0=>?_⟩
  · have:x=a:=by omega
    exact key _ _ (by rw [this,Int.mul_comm];exact e.symm) m1 m2
  · have:=key (-(a/b)) 0 (by rw [h0] at e;rw [Int.neg_mul,Int.mul_comm];omega) (by omega) hb
    rw [sg] at this
    exact this
  · have:=key (-(a/b+1)) (b-a%b) (by rw [Int.neg_mul,Int.add_mul,Int.one_mul,Int.mul_comm];omega) (by omega) (by omega)
    rw [sg] at this
    exact this
variable [Its]

theorem Qq5      {x y:Int} (hy:y≠0) (hx:nd x≤1000000000000) (hyl:nd y≤1000000000000) :
    Qah G Qg7 [encI x,encI y]=some (.d (.tup [encI (x/y),encI (x%y)])):=by
  obtain ⟨c1,c2,c3⟩:=Qme (x:=x) hy
  have hya:0<y.natAbs:=by omega
  have td:=Qlg (x:=x.natAbs) (y:=y.natAbs) hya hx hyl
  have ly:=QaV (digs y.natAbs)
  have e1:(((digs y.natAbs).length:Int)==0)=false:=Qb9 (by have:=digs_length_pos.2 hya;omega)
  have hq0:0≤(x.natAbs:Int)/(y.natAbs:Int):=Int.ediv_nonneg (by omega) (by omega)
  have hr0:0≤(x.natAbs:Int)%(y.natAbs:Int):=Int.emod_nonneg _ (by omega)
  have hr1:(x.natAbs:Int)%(y.natAbs:Int)<(y.natAbs:Int):=Int.emod_lt_of_pos _ (by omega)
  have hq1:(x.natAbs:Int)/(y.natAbs:Int)≤(x.natAbs:Int):=Int.ediv_le_self _ (by omega)
  obtain ⟨Q,hQ⟩:∃ Q:Nat,(x.natAbs:Int)/(y.natAbs:Int)=(Q:Int):=⟨_,(Int.toNat_of_nonneg hq0).symm⟩
  obtain ⟨M,hM⟩:∃ M:Nat,(x.natAbs:Int)%(y.natAbs:Int)=(M:Int):=⟨_,(Int.toNat_of_nonneg hr0).symm⟩
  rw [hQ] at td c1 c2 c3 hq1
  rw [hM] at td c1 c2 c3 hr1
  have q1:decide ((Q:Int)<0)=false:=decide_eq_false (by omega)
  have q2:((Q:Nat):Int).natAbs=Q:=rfl
  have m1:decide ((M:Int)<0)=false:=decide_eq_false (by omega)
  have m2:((M:Nat):Int).natAbs=M:=rfl
  have lq:=QaV (digs Q)
  have lm:=QaV (digs M)
  simp only [encI,q1,q2,m1,m2,bv] at td
  rw [Qad (cf:=Qdy) rfl]
  have hQl:(digs Q).length≤(digs x.natAbs).length:=Qbm (by omega)
  have hMl:(digs M).length≤(digs y.natAbs).length:=Qbm (by omega)
  have hxn:(digs x.natAbs).length≤1000000000000:=hx
  have hyn:(digs y.natAbs).length≤1000000000000:=hyl
  by_cases hxn0:x<0
  · have x1:decide (x<0)=true:=decide_eq_true hxn0
    by_cases hM0:M=0
    · obtain ⟨d1,d2⟩:=c2 hxn0 (by omega)
      have f1:decide ((0:Int)>0)=false:=rfl
      have f2:dg (digs M)=.z true:=by rw [hM0,Qav];rfl
      rw [f2] at td
      rw [d1,d2,← QiC,QhG]
      by_cases hyn0:y<0
      · have y1:decide (y<0)=true:=decide_eq_true hyn0
        have y2:(true==true)=true:=rfl
        rw [y1]
        simp -implicitDefEqProofs (maxSteps:=9^8) only [Qdy,encI,go_sem,Qac,Qab,iv,bv,e1,x1,y1,y2,f1,td,ly,lq,lm,toDs,QbF,ne_eq,not_false_eq_true,reduceCtorEq,↓reduceIte,Nat.reduceEqDiff]
      · have y1:decide (y<0)=false:=decide_eq_false hyn0
        have y2:(true==false)=false:=rfl
        rw [y1]
        simp -implicitDefEqProofs (maxSteps:=9^8) only [Qdy,encI,go_sem,Qac,Qab,iv,bv,e1,x1,y1,y2,f1,td,ly,lq,lm,toDs,QbF,ne_eq,not_false_eq_true,reduceCtorEq,↓reduceIte,Nat.reduceEqDiff]
    · obtain ⟨d1,d2⟩:=c3 hxn0 (by omega)
      have f1:decide (((digs M).length:Int)>0)=true:=gt_t (by have:=digs_length_pos.2 (Nat.pos_of_ne_zero hM0);omega)
      obtain ⟨o1,p1,p2,p3,p4⟩:=QoI (Rw.dg (digs Q)) (Rw.row [1]) (Qap Q) (fun d hd=>by simp at hd;omega) (by simp;omega)
      obtain ⟨o2,s1,s2,s3,s4⟩:=QjQ (Rw.dg (digs y.natAbs)) (Rw.dg (digs M)) (Qap _) (Qap _) (by omega) hMl (by rw [Qat,Qat];omega)
      rw [Qat] at p4
      rw [Qat,Qat] at s4
      have p5:val o1=((Q+1:Nat):Int):=by rw [p4];simp [val]
      have s5:val o2=((y.natAbs-M:Nat):Int):=by rw [s4];omega
      have g1:=Qeb false (Rw.row o1) (by rw [p2];simp;omega) p3
      have g2:=Qeb false (Rw.row o2) (by omega) s3
      rw [Qay,p5] at g1
      rw [Qay,s5] at g2
      have k1:decide (((Q+1:Nat):Int)<0)=false:=decide_eq_false (by omega)
      have k2:((Q+1:Nat):Int).natAbs=Q+1:=rfl
      have k3:decide (((y.natAbs-M:Nat):Int)<0)=false:=decide_eq_false (by omega)
      have k4:((y.natAbs-M:Nat):Int).natAbs=y.natAbs-M:=rfl
      have lq1:=QaV (digs (Q+1))
      have e5:(Q:Int)+1=((Q+1:Nat):Int):=rfl
      have e6:(y.natAbs:Int)-(M:Int)=((y.natAbs-M:Nat):Int):=by omega
      simp only [rowI,List.map_cons,List.map_nil,List.length_cons,List.length_nil,encI,k1,k2,k3,k4,bv,iv,Nat.reduceAdd] at p1 s1 g1 g2
      rw [d1,d2,e5,e6,← QiC]
      by_cases hyn0:y<0
      · have y1:decide (y<0)=true:=decide_eq_true hyn0
        have y2:(true==true)=true:=rfl
        rw [y1]
        simp -implicitDefEqProofs (maxSteps:=9^8) only [Qdy,encI,go_sem,Qac,Qab,iv,bv,e1,x1,y1,y2,f1,p1,s1,g1,g2,k1,k2,k3,k4,lq1,  td,ly,lq,lm,toDs,QbF,ne_eq,not_false_eq_true,reduceCtorEq,↓reduceIte,Nat.reduceEqDiff]
      · have y1:decide (y<0)=false:=decide_eq_false hyn0
        have y2:(true==false)=false:=rfl
        rw [y1]
        simp -implicitDefEqProofs (maxSteps:=9^8) only [Qdy,encI,go_sem,Qac,Qab,iv,bv,e1,x1,y1,y2,f1,p1,s1,g1,g2,k1,k2,k3,k4,lq1,  td,ly,lq,lm,toDs,QbF,ne_eq,not_false_eq_true,reduceCtorEq,↓reduceIte,Nat.reduceEqDiff]
  · have x1:decide (x<0)=false:=decide_eq_false hxn0
    obtain ⟨d1,d2⟩:=c1 hxn0
    rw [d1,d2,← QiC]
    by_cases hyn0:y<0
    · have y1:decide (y<0)=true:=decide_eq_true hyn0
      have y2:(false==true)=false:=rfl
      rw [y1]
      simp -implicitDefEqProofs (maxSteps:=9^8) only [Qdy,encI,go_sem,Qac,Qab,iv,bv,e1,x1,y1,y2,m1,m2,  td,ly,lq,lm,toDs,QbF,ne_eq,not_false_eq_true,reduceCtorEq,↓reduceIte,Nat.reduceEqDiff]
    · have y1:decide (y<0)=false:=decide_eq_false hyn0
      have y2:(false==false)=true:=rfl
      rw [y1]
      simp -implicitDefEqProofs (maxSteps:=9^8) only [Qdy,encI,go_sem,Qac,Qab,iv,bv,e1,x1,y1,y2,m1,m2,  td,ly,lq,lm,toDs,QbF,ne_eq,not_false_eq_true,reduceCtorEq,↓reduceIte,Nat.reduceEqDiff]
end Go.AM

/- integer.Gcd -/
namespace Go.AM
open Go Go.RowKit

theorem QkT (m n:Nat):Nat.gcd n (m%n)=Nat.gcd m n:=by
 rw [Nat.gcd_comm n,← Nat.gcd_rec n m,Nat.gcd_comm]
theorem Qa4 (n:Nat):encI (n:Int)=.agg [.v (.bool false),dg (digs n)]:=by
 unfold encI
 have:decide ((n:Int)<0)=false:=decide_eq_false (by omega)
 rw [this];rfl
variable [Its]

def boxI (n:Nat):Obj:=⟨0,0,[.d (.v (.bool false)),.d (dg (digs n))],false⟩
def box0:Obj:=⟨0,0,[.d (.v (.bool false)),.d (.z true)],false⟩
def QmD (m n:Nat):St:=mkS [(4,.ptr [4] 0),(7,ai m),(9,ai n)] [([4],box0)]
def QqZ (m:Nat):St:=mkS [(4,.ptr [4] 0),(7,ai m)] [([4],box0)]
theorem gcd_ints:∀ (n m:Nat),m<1000000000000000000→n<1000000000000000000→X G (.loop Qd1) (QmD m n)=some (.x 2,QqZ (Nat.gcd m n)):=by
 intro n
 induction n using Nat.strongRecOn with
 | _ n ih =>
 intro m hm hn
 rw [Qag]
 by_cases h0:n=0
 ·subst h0
  have e1:decide (((0:Nat):Int)>0)=false:=rfl
  rw [Nat.gcd_zero_right]
  simp -implicitDefEqProofs (maxSteps:=9^8) only [Qd1,QmD,QqZ,box0,go_sem,iv,bv,reduceCtorEq,↓reduceIte,Nat.reduceEqDiff]
  rfl
 ·have e1:decide ((n:Int)>0)=true:=gt_t (by omega)
  have e2:=Qjr (b:=(n:Int)) (by omega)
  have e3:=QdV (a:=(m:Int)) (b:=(n:Int)) (by omega)
  have e4:(m:Int)%(n:Int)=((m%n:Nat):Int):=rfl
  have hlt:m%n<n:=Nat.mod_lt _ (by omega)
  have hx:X G Qd1 (QmD m n)=some (.n,QmD n (m%n)):=by
   simp -implicitDefEqProofs (maxSteps:=9^8) only [Qd1,QmD,QqZ,box0,go_sem,iv,bv,e1,e2,e3,e4,reduceCtorEq,↓reduceIte,Nat.reduceEqDiff]
  rw [hx,Option.bind_some,if_pos rfl,ih (m%n) hlt n hn (by omega),QkT]

def Qfj (a b:Nat):St:=mkS [(4,.ptr [4] 0),(5,.ptr [5] 0),(6,.ptr [6] 0)] [([4],box0),([5],boxI a),([6],boxI b)]
def Qol (a:Nat):St:=mkS [(4,.ptr [4] 0),(5,.ptr [5] 0)] [([4],box0),([5],boxI a)]
def QgS (a:Nat):St:=mkS [(4,.ptr [4] 0)] [([4],boxI a)]

theorem Qrc      : ∀ (b a:Nat),(digs a).length≤1000000000000→(digs b).length≤1000000000000 →
    X G (.loop QbX) (Qfj a b)=some (.x 0,Qol (Nat.gcd a b))∨X G (.loop QbX) (Qfj a b)=some (.r,QgS (Nat.gcd a b)):=by
  intro b
  induction b using Nat.strongRecOn with
  | _ b ih =>
  intro a ha hb
  have la:=QaV (digs a)
  have lb:=QaV (digs b)
  by_cases h0:b=0
  · subst h0
    have e1:decide (((digs 0).length:Int)>0)=false:=by rw [Qav];rfl
    refine .inl ?_
    rw [Nat.gcd_zero_right,Qag]
    simp -implicitDefEqProofs (maxSteps:=9^8) only [QbX,Qfj,Qol,box0,boxI,go_sem,Qac,Qab,iv,bv,e1,la,lb,reduceCtorEq,↓reduceIte,Nat.reduceEqDiff]
  · have e1:decide (((digs b).length:Int)>0)=true:=gt_t (by have:=digs_length_pos.2 (Nat.pos_of_ne_zero h0);omega)
    have t1:=QkE (Rw.dg (digs a)) (Qap a) (by omega)
    have t2:=QkE (Rw.dg (digs b)) (Qap b) (by omega)
    rw [Qat] at t1 t2
    simp only [iv,bv] at t1 t2
    by_cases h1:(digs a).length≤2∧(digs b).length≤2
    · rw [if_pos h1.1,decide_eq_true h1.1] at t1
      rw [if_pos h1.2,decide_eq_true h1.2] at t2
      have s1:=QeR h1.1
      have s2:=QeR h1.2
      have g1:=gcd_ints b a s1 s2
      have hg:Nat.gcd a b≤b:=Nat.gcd_le_right _ (Nat.pos_of_ne_zero h0)
      have u1:=Qcb false (u:=((Nat.gcd a b:Nat):Int)) (by omega)
      have e2:=Qn0 (x:=((Nat.gcd a b:Nat):Int)) (by omega)
      rw [Qay,Qa4] at u1
      simp only [QmD,QqZ,box0,go_sem] at g1
      simp only [bv] at u1
      refine .inr ?_
      rw [Qag]
      simp -implicitDefEqProofs (maxSteps:=9^8) only [QbX,Qfj,QgS,box0,boxI,go_sem,Qac,Qab,iv,bv,e1,e2,la,lb,t1,t2,g1,u1,reduceCtorEq,↓reduceIte,Nat.reduceEqDiff]
    · have td:=Qlg (x:=a) (y:=b) (Nat.pos_of_ne_zero h0) ha hb
      have e3:(a:Int)/(b:Int)=((a/b:Nat):Int):=rfl
      have e4:(a:Int)%(b:Int)=((a%b:Nat):Int):=rfl
      rw [e3,e4,Qa4,Qa4] at td
      have hlt:a%b<b:=Nat.mod_lt _ (Nat.pos_of_ne_zero h0)
      have hx:X G QbX (Qfj a b)=some (.n,Qfj b (a%b)):=by
        by_cases h2:(digs a).length≤2
        · have h3:¬ (digs b).length≤2:=fun h=>h1 ⟨h2,h⟩
          rw [if_pos h2,decide_eq_true h2] at t1
          rw [if_neg h3,decide_eq_false h3] at t2
          simp -implicitDefEqProofs (maxSteps:=9^8) only [QbX,Qfj,QgS,box0,boxI,go_sem,Qac,Qab,iv,bv,e1,la,lb,t1,t2,td,QbF,ne_eq,not_false_eq_true,reduceCtorEq,↓reduceIte,Nat.reduceEqDiff]
        · rw [if_neg h2,decide_eq_false h2] at t1
          by_cases h3:(digs b).length≤2
          · rw [if_pos h3,decide_eq_true h3] at t2
            simp -implicitDefEqProofs (maxSteps:=9^8) only [QbX,Qfj,QgS,box0,boxI,go_sem,Qac,Qab,iv,bv,e1,la,lb,t1,t2,td,QbF,ne_eq,not_false_eq_true,reduceCtorEq,↓reduceIte,Nat.reduceEqDiff]
          · rw [if_neg h3,decide_eq_false h3] at t2
            simp -implicitDefEqProofs (maxSteps:=9^8) only [QbX,Qfj,QgS,box0,boxI,go_sem,Qac,Qab,iv,bv,e1,la,lb,t1,t2,td,QbF,ne_eq,not_false_eq_true,reduceCtorEq,↓reduceIte,Nat.reduceEqDiff]
      have hr:=ih (a%b) hlt b hb (Nat.le_trans (Qbm (Nat.le_of_lt hlt)) hb)
      rw [QkT] at hr
      rw [Qag,hx]
      exact hr

theorem Gcd_spec {x y:Int} (hx:nd x≤1000000000000) (hy:nd y≤1000000000000):Qah G Qeo [encI x,encI y]=some (.d (encI (Int.gcd x y:Nat))):=by
 rw [Qad (cf:=Qd9) rfl]
 have hxn:(digs x.natAbs).length≤1000000000000:=hx
 have hyn:(digs y.natAbs).length≤1000000000000:=hy
 have o1:=Qeb false (Rw.dg (digs x.natAbs)) (by omega) (Qap _)
 have o2:=Qeb false (Rw.dg (digs y.natAbs)) (by omega) (Qap _)
 rw [Qay,Qat,Qa4] at o1 o2
 simp only [bv] at o1 o2
 rw [Qa4]
 have e:Int.gcd x y=Nat.gcd x.natAbs y.natAbs:=rfl
 rw [e]
 rcases Qrc y.natAbs x.natAbs hxn hyn with g | g
 ·simp only [Qfj,Qol,box0,boxI,go_sem] at g
  simp -implicitDefEqProofs (maxSteps:=9^8) only [Qd9,encI,go_sem,Qac,Qab,iv,bv,o1,o2,g,reduceCtorEq,↓reduceIte,Nat.reduceEqDiff]
 ·simp only [Qfj,QgS,box0,boxI,go_sem] at g
  simp -implicitDefEqProofs (maxSteps:=9^8) only [Qd9,encI,go_sem,Qac,Qab,iv,bv,o1,o2,g,reduceCtorEq,↓reduceIte,Nat.reduceEqDiff]
end Go.AM

/- gantryref04: normal, digit, tiny, compared, Compare, Sign, Neg -/
namespace Go.AM
open Go Go.RowKit

theorem Qa2 (st:St) (n:Nat) (cs:List D):src st (.d (.row n cs))=some (n,cs):=rfl
theorem Qqz (x:Int):encI x=.agg [.v (.bool (decide (x<0))),dg (digs x.natAbs)]:=rfl
variable [Its]

section
variable (neg:Bool) (d:D) (l:List Int)
def Qhp (n:Int):St:=mkS [(0,ab neg),(1,.d d),(4,.ptr [4] 0),(5,ai n)] [([4],box0)]
theorem nrm_go (hr:Rw d l) (n:Nat) (h:n<l.length) (hl:l.length<4611686018427387904) (h0:l.getD n 0=0):X G QaY (Qhp neg d ((n+1:Nat):Int))=some (.n,Qhp neg d n):=by
 have e1:decide (((n+1:Nat):Int)>0)=true:=gt_t (by omega)
 have e2:w64 (((n+1:Nat):Int)-1)=n:=by rw [Qae (by omega) (by omega)];omega
 have e3:=hr.ixn (j:=n) (by omega)
 have e4:=fun hp=>ldv hp l (j:=n) (by omega)
 have e5:((0:Int)>(n:Int))=False:=eq_false (by omega)
 simp -implicitDefEqProofs (maxSteps:=9^8) only [QaY,Qhp,box0,go_sem,Qf8,mxV,iv,bv,e1,e2,e3,e4,e5,h0,beq_self_eq_true,reduceCtorEq,↓reduceIte,Nat.reduceEqDiff]
theorem nrm_stop (hr:Rw d l) (n:Nat) (h:n<l.length) (hl:l.length<4611686018427387904) (h0:l.getD n 0≠0):X G QaY (Qhp neg d ((n+1:Nat):Int))=some (.x 0,Qhp neg d ((n+1:Nat):Int)):=by
 have e1:decide (((n+1:Nat):Int)>0)=true:=gt_t (by omega)
 have e2:w64 (((n+1:Nat):Int)-1)=n:=by rw [Qae (by omega) (by omega)];omega
 have e3:=hr.ixn (j:=n) (by omega)
 have e4:=fun hp=>ldv hp l (j:=n) (by omega)
 have e5:((0:Int)>(n:Int))=False:=eq_false (by omega)
 simp -implicitDefEqProofs (maxSteps:=9^8) only [QaY,Qhp,box0,go_sem,Qf8,mxV,iv,bv,e1,e2,e3,e4,e5,Qb9 h0,reduceCtorEq,↓reduceIte,Nat.reduceEqDiff]
theorem nrm_zero:X G QaY (Qhp neg d ((0:Nat):Int))=some (.x 0,Qhp neg d ((0:Nat):Int)):=by
 have e1:decide ((0:Int)>0)=false:=rfl
 simp -implicitDefEqProofs (maxSteps:=9^8) only [QaY,Qhp,box0,go_sem,Qf8,mxV,iv,bv,e1,reduceCtorEq,↓reduceIte,Nat.reduceEqDiff]
theorem Qqm (hr:Rw d l) (hl:l.length<4611686018427387904):∀ n:Nat,n≤l.length→X G (.loop QaY) (Qhp neg d (n:Int))=some (.x 0,Qhp neg d (cutn l n:Nat))
 | 0,_=>by
  rw [Qag,nrm_zero]
  rfl
 | n+1,h=>by
  rw [Qag,cutn]
  by_cases h0:l.getD n 0=0
  ·rw [nrm_go neg d l hr n (by omega) hl h0,if_pos h0]
   exact Qqm hr hl n (by omega)
  ·rw [nrm_stop neg d l hr n (by omega) hl h0,if_neg h0]
   rfl
end

theorem Qbc (neg:Bool) {d:D} {l:List Int} (hr:Rw d l) (hl:l.length<4611686018427387904) (hd:Dig l):Qah G Qao [bv neg,d]=some (.d (encI (sgn neg (val l)))):=by
 rw [Qad (cf:=Qdn) rfl,Qrb hd]
 have hc:=Qlo l l.length
 have el:=Qqm neg d l hr hl l.length (Nat.le_refl _)
 simp only [Qhp,box0,go_sem] at el
 generalize hn:cutn l l.length=n at *
 by_cases h0:n=0
 ·subst h0
  have e0:((0:Int)==0)=true:=rfl
  simp only [nc0] at el
  simp -implicitDefEqProofs (maxSteps:=9^8) only [Qdn,go_sem,Qac,Qab,iv,bv,hr.len,el,e0,reduceCtorEq,↓reduceIte,Nat.reduceEqDiff]
 ·obtain rfl:=hr.ne (by rintro rfl;simp [cutn] at hn;exact h0 hn.symm)
  have e0:(((n:Nat):Int)==0)=false:=Qb9 (by omega)
  have e1:(0:Int)≤0∧(0:Int)≤(n:Int)∧(n:Int)≤(l.length:Int):=by omega
  simp only [rowI] at el
  simp -implicitDefEqProofs (maxSteps:=9^8) only [Qdn,go_sem,Qac,Qab,iv,bv,rowI,el,e0,e1,h0,reduceCtorEq,↓reduceIte,Nat.reduceEqDiff]

theorem QgM {d:D} {l:List Int} (h:Rw d l) {i:Nat}:Qah G QbV [d,iv (i:Int)]=some (.d (iv (l.getD i 0))):=by
 rw [Qad (cf:=QdL) rfl]
 have hh:=h.len
 by_cases h0:i<l.length
 ·have e1:decide ((i:Int)<(l.length:Int))=true:=lt_t (by omega)
  have e2:=h.ixn (j:=i) h0
  have e3:=fun hp=>ldv hp l (j:=i) h0
  simp -implicitDefEqProofs (maxSteps:=9^8) only [QdL,go_sem,iv,bv,hh,e1,e2,e3,reduceCtorEq,↓reduceIte,Nat.reduceEqDiff]
 ·have e1:decide ((i:Int)<(l.length:Int))=false:=lt_f (by omega)
  have e2:l.getD i 0=0:=by rw [List.getD_eq_getElem?_getD,List.getElem?_eq_none (by omega)];rfl
  rw [e2]
  simp -implicitDefEqProofs (maxSteps:=9^8) only [QdL,go_sem,iv,bv,hh,e1,reduceCtorEq,↓reduceIte,Nat.reduceEqDiff]

theorem Qju {d:D} {l:List Int} (h:Rw d l) (hd:Dig l) (hl:l.length≤2):Qah G QbD [d]=some (.d (iv (val l))):=by
 rw [Qad (cf:=Qfq) rfl]
 have d0:=QgM h (i:=0)
 have d1:=QgM h (i:=1)
 have b0:=hd.getD 0
 have b1:=hd.getD 1
 have e0:((1:Nat):Int)=1:=rfl
 simp only [nc0,e0,iv] at d0 d1
 have hv:val l=l.getD 1 0*1000000000+l.getD 0 0:=by
  match l,hl with
  | [],_=>simp [val]
  | [x],_=>simp [val]
  | [x,y],_=>simp [val];omega
 have e6:w64 (l.getD 1 0*1000000000)=l.getD 1 0*1000000000:=Qae (by omega) (by omega)
 have e7:w64 (l.getD 1 0*1000000000+l.getD 0 0)=l.getD 1 0*1000000000+l.getD 0 0:=Qae (by omega) (by omega)
 rw [hv]
 simp -implicitDefEqProofs (maxSteps:=9^8) only [Qfq,go_sem,iv,bv,d0,d1,e6,e7,reduceCtorEq,↓reduceIte,Nat.reduceEqDiff]

section
variable (da db:D) (a b:List Int)
def QgC (i:Int):St:=mkS [(0,.d da),(1,.d db),(5,ai i)] []
def Qhg (x:Int):St:=mkS [(4,ai x)] []
theorem cmd_stop:X G Qaz (QgC da db (-1))=some (.x 0,mkS [] []):=by
 have e1:decide ((-1:Int)≥0)=false:=rfl
 simp -implicitDefEqProofs (maxSteps:=9^8) only [Qaz,QgC,go_sem,iv,bv,e1,reduceCtorEq,↓reduceIte,Nat.reduceEqDiff]
theorem cmd_go (hra:Rw da a) (hrb:Rw db b) {i:Nat} (ha:i<a.length) (hb:i<b.length) (hl:a.length<4611686018427387904) :
    X G Qaz (QgC da db (i:Int))=if a.getD i 0<b.getD i 0 then some (.r,Qhg (-1)) else if a.getD i 0>b.getD i 0 then some (.r,Qhg 1) else some (.n,QgC da db ((i:Int)-1)):=by
  have e1:decide ((i:Int)≥0)=true:=ge_t (by omega)
  have e2:=hra.ixn (j:=i) ha
  have e3:=fun hp=>ldv hp a (j:=i) ha
  have e4:=hrb.ixn (j:=i) hb
  have e5:=fun hp=>ldv hp b (j:=i) hb
  have e6:w64 ((i:Int)-1)=(i:Int)-1:=Qae (by omega) (by omega)
  by_cases h1:a.getD i 0<b.getD i 0
  · have e7:decide (a.getD i 0<b.getD i 0)=true:=lt_t h1
    rw [if_pos h1]
    simp -implicitDefEqProofs (maxSteps:=9^8) only [Qaz,QgC,Qhg,go_sem,iv,bv,e1,e2,e3,e4,e5,e6,e7,reduceCtorEq,↓reduceIte,Nat.reduceEqDiff]
  · have e7:decide (a.getD i 0<b.getD i 0)=false:=lt_f h1
    rw [if_neg h1]
    by_cases h2:a.getD i 0>b.getD i 0
    · have e8:decide (a.getD i 0>b.getD i 0)=true:=gt_t h2
      rw [if_pos h2]
      simp -implicitDefEqProofs (maxSteps:=9^8) only [Qaz,QgC,Qhg,go_sem,iv,bv,e1,e2,e3,e4,e5,e6,e7,e8,reduceCtorEq,↓reduceIte,Nat.reduceEqDiff]
    · have e8:decide (a.getD i 0>b.getD i 0)=false:=gt_f h2
      rw [if_neg h2]
      simp -implicitDefEqProofs (maxSteps:=9^8) only [Qaz,QgC,Qhg,go_sem,iv,bv,e1,e2,e3,e4,e5,e6,e7,e8,reduceCtorEq,↓reduceIte,Nat.reduceEqDiff]

theorem Qmo {k:Nat} (ha:Dig a) (hb:Dig b) (hk:a.getD k 0<b.getD k 0):val (a.take (k+1))<val (b.take (k+1)):=by
 have _its:Its:=inferInstance
 rw [Qaq,Qaq]
 have h1:=Qoh (l:=a) (j:=0) (n:=k) (fun x _ _=>ha.getD x)
 have e1:val (a.take k)<(1000000000:Int)^k:=by
  rcases Nat.lt_or_ge a.length k with h | h
  ·have:=Qfs (ha.take k)
   have e:(a.take k).length≤k:=by rw [List.length_take];omega
   exact Int.lt_of_lt_of_le this (Qi5 e)
  ·have:=Qfs (ha.take k)
   have e:(a.take k).length≤k:=by rw [List.length_take];omega
   exact Int.lt_of_lt_of_le this (Qi5 e)
 have e2:=QaK (hb.take k)
 have e3:(1000000000:Int)^k*(a.getD k 0+1)≤(1000000000:Int)^k*b.getD k 0:=Int.mul_le_mul_of_nonneg_left (by omega) (Int.le_of_lt (QcY k))
 rw [Int.mul_add,Int.mul_one] at e3
 generalize (1000000000:Int)^k*a.getD k 0=x at *
 generalize (1000000000:Int)^k*b.getD k 0=y at *
 clear h1
 omega

theorem Qri      (hra:Rw da a) (hrb:Rw db b) (ha:Dig a) (hb:Dig b) (hl:a.length<4611686018427387904):∀ k:Nat,k≤a.length→k≤b.length →
    (X G (.loop Qaz) (QgC da db ((k:Int)-1))=some (.x 0,mkS [] [])∧val (a.take k)=val (b.take k)) ∨
    (X G (.loop Qaz) (QgC da db ((k:Int)-1))=some (.r,Qhg (-1))∧val (a.take k)<val (b.take k)) ∨
    (X G (.loop Qaz) (QgC da db ((k:Int)-1))=some (.r,Qhg 1)∧val (b.take k)<val (a.take k))
  | 0, _, _ => .inl ⟨by
      have:((0:Nat):Int)-1 = -1:=rfl
      rw [this,Qag,cmd_stop];rfl,rfl⟩
  | k+1,h1,h2=>by
    have hx:=cmd_go da db a b hra hrb (i:=k) (by omega) (by omega) hl
    have e:((k+1:Nat):Int)-1=(k:Int):=by omega
    rw [e,Qag,hx]
    by_cases g1:a.getD k 0<b.getD k 0
    · rw [if_pos g1]
      exact .inr (.inl ⟨rfl,Qmo a b ha hb g1⟩)
    · rw [if_neg g1]
      by_cases g2:a.getD k 0>b.getD k 0
      · rw [if_pos g2]
        exact .inr (.inr ⟨rfl,Qmo b a hb ha g2⟩)
      · rw [if_neg g2]
        have g3:a.getD k 0=b.getD k 0:=by omega
        have ih:=Qri hra hrb ha hb hl k (by omega) (by omega)
        rw [Qaq a,Qaq b,g3]
        rcases ih with ⟨i1,i2⟩ | ⟨i1,i2⟩ | ⟨i1,i2⟩
        · exact .inl ⟨i1,by rw [i2]⟩
        · exact .inr (.inl ⟨i1,Int.add_lt_add_right i2 _⟩)
        · exact .inr (.inr ⟨i1,Int.add_lt_add_right i2 _⟩)
end

theorem Qek           {da db:D} {a b:List Int} (hra:Rw da a) (hrb:Rw db b) (ha:Dig a) (hb:Dig b) (hat:Top a) (hbt:Top b) (hla:a.length<4611686018427387904) (hlb:b.length<4611686018427387904) :
    Qah G Qbi [da,db]=some (.d (iv (Int.sign (val a-val b)))):=by
  have ca:=hra.len
  have cb:=hrb.len
  have tg:=fun {u v:List Int} (hu:Dig u) (hv:Dig v) (hvt:Top v) (h:u.length<v.length)=>show val u<val v from by
    have h1:=Qfs hu
    have h2:(1000000000:Int)^u.length≤val v:=by
      have hne:v≠[]:=by rintro rfl;simp at h
      obtain ⟨q,hq⟩:∃ q,v.length=q+1:=⟨v.length-1,by omega⟩
      have ht:=hvt hne
      have e:v.getLast hne=v.getD q 0:=by
        rw [List.getLast_eq_getElem,List.getD_eq_getElem?_getD,List.getElem?_eq_getElem (by omega)]
        simp [hq]
      rw [e] at ht
      have hp:=hv.getD q
      have e1:=Qda v (j:=q) (by omega)
      have e2:=Qa0 v q
      rw [List.drop_eq_nil_of_le (show v.length≤q+1 by omega)] at e2
      simp only [val,Int.mul_zero,Int.add_zero] at e2
      rw [e1,e2]
      have e3:=QaK (hv.take q)
      have e4:(1000000000:Int)^q*1≤(1000000000:Int)^q*v.getD q 0:=Int.mul_le_mul_of_nonneg_left (by clear e1;omega) (Int.le_of_lt (QcY q))
      have e5:=Qi5 (show u.length≤q by omega)
      generalize (1000000000:Int)^q*v.getD q 0=x at *
      generalize (1000000000:Int)^q=y at *
      generalize (1000000000:Int)^u.length=z at *
      clear e1 e2 h1
      omega
    exact Int.lt_of_lt_of_le h1 h2
  rw [Qad (cf:=Qbf) rfl]
  by_cases h1:a.length<b.length
  · have hv:=tg ha hb hbt h1
    rw [Int.sign_eq_neg_one_of_neg (by omega)]
    have e1:decide ((a.length:Int)<(b.length:Int))=true:=lt_t (by omega)
    simp -implicitDefEqProofs (maxSteps:=9^8) only [Qbf,go_sem,iv,bv,ca,cb,e1,reduceCtorEq,↓reduceIte,Nat.reduceEqDiff]
  · have e1:decide ((a.length:Int)<(b.length:Int))=false:=lt_f (by omega)
    by_cases h2:b.length<a.length
    · have hv:=tg hb ha hat h2
      rw [Int.sign_eq_one_of_pos (by omega)]
      have e2:decide ((a.length:Int)>(b.length:Int))=true:=gt_t (by omega)
      simp -implicitDefEqProofs (maxSteps:=9^8) only [Qbf,go_sem,iv,bv,ca,cb,e1,e2,reduceCtorEq,↓reduceIte,Nat.reduceEqDiff]
    · have e2:decide ((a.length:Int)>(b.length:Int))=false:=gt_f (by omega)
      have hlen:b.length=a.length:=by omega
      have e3:w64 ((a.length:Int)-1)=(a.length:Int)-1:=Qae (by omega) (by omega)
      have hl:=Qri da db a b hra hrb ha hb hla a.length (Nat.le_refl _) (by omega)
      rw [List.take_length,← hlen,List.take_length,hlen] at hl
      rw [hlen] at cb e1 e2
      rcases hl with ⟨i1,i2⟩ | ⟨i1,i2⟩ | ⟨i1,i2⟩
      · rw [show val a-val b=0 by omega]
        have e4:Int.sign 0=0:=rfl
        simp only [QgC,go_sem] at i1
        simp -implicitDefEqProofs (maxSteps:=9^8) only [Qbf,go_sem,iv,bv,ca,cb,e1,e2,e3,e4,i1,reduceCtorEq,↓reduceIte,Nat.reduceEqDiff]
      · rw [Int.sign_eq_neg_one_of_neg (by omega)]
        simp only [QgC,Qhg,go_sem] at i1
        simp -implicitDefEqProofs (maxSteps:=9^8) only [Qbf,go_sem,iv,bv,ca,cb,e1,e2,e3,i1,reduceCtorEq,↓reduceIte,Nat.reduceEqDiff]
      · rw [Int.sign_eq_one_of_pos (by omega)]
        simp only [QgC,Qhg,go_sem] at i1
        simp -implicitDefEqProofs (maxSteps:=9^8) only [Qbf,go_sem,iv,bv,ca,cb,e1,e2,e3,i1,reduceCtorEq,↓reduceIte,Nat.reduceEqDiff]
end Go.AM

/- gantryref04: Compare, Sign, Neg, plus, minus, Add -/
namespace Go.AM
open Go Go.RowKit

theorem Qea (l:List Int) (v:Int):QbP l++[A.d (.v (.int .i64 v))]=QbP (l++[v]):=by simp [QbP]
theorem QeT (v:Int):QbP [v]=[A.d (.v (.int .i64 v))]:=rfl
def gA (k:Nat) (l:List Int):A:=if l=[] then .d (.z true) else .own [k] l.length
def gH (k:Nat) (l:List Int):List (Key×Obj):=if l=[] then [] else [([k],arrI l.length l)]
theorem QcI (k:Nat):gA k []=.d (.z true):=rfl
theorem QcH (k:Nat):gH k []=[]:=rfl
theorem Qf6 {k:Nat} {l:List Int} (h:l≠[]):gA k l=.own [k] l.length:=if_neg h
theorem Qf9 {k:Nat} {l:List Int} (h:l≠[]):gH k l=[([k],arrI l.length l)]:=if_neg h
theorem Qls (k:Nat) (v:Int):gA k [v]=.own [k] 1:=rfl
theorem Qk5 (k:Nat) (v:Int):gH k [v]=[([k],arrI 1 [v])]:=rfl
theorem QhF (k:Nat) (l:List Int) (v:Int):gA k (l++[v])=.own [k] (l.length+1):=by rw [Qf6 (by simp)];simp
theorem QhH (k:Nat) (l:List Int) (v:Int):gH k (l++[v])=[([k],arrI (l.length+1) (l++[v]))]:=by rw [Qf9 (by simp)];simp
theorem Qi2 {l:List Int} (h:(l.length+1)*8≤140737488351232):((l.length+1)*8≤bound)=True:=eq_true (by simp only [bound];omega)
theorem QhR:(8≤bound)=True:=eq_true (by decide)
theorem QrF {l:List Int} {v:Int} (h:Dig l) (hv:0≤v∧v<1000000000):Dig (l++[v]):=Dig.append.2 ⟨h,Dig.cons.2 ⟨hv,Dig.nil⟩⟩
theorem Qql (l:List Int) (v:Int):val (l++[v])=val l+(1000000000:Int)^l.length*v:=by rw [QgK];simp [val]
theorem Qaa (k:Key):Qbw hp0 k none=hp0:=by
 funext j
 simp [Qbw,hp0]
def gR (l:List Int):R:=if l=[] then .d (.z true) else .own 1 l.length (l.map iv)
variable [Its]

theorem Qlu {x:Int} (hx:nd x≤1000000000000):Qah G QdE [encI x]=some (.d (encI (-x))):=by
 rw [Qad (cf:=QfQ) rfl]
 have hx':(digs x.natAbs).length<4611686018427387904:=Nat.lt_of_le_of_lt hx (by decide)
 have g:Hid (Qah G Qao [bv (!decide (x<0)),dg (digs x.natAbs)]=some (.d (encI (-x)))):=by
  have hl:(digs x.natAbs).length<4611686018427387904:=hx'
  have:=Qbc (!decide (x<0)) (Rw.dg (digs x.natAbs)) hl (Qap _)
  rw [Qd7] at this
  have e:sgn (!decide (x<0)) (x.natAbs:Int) = -x:=by
   by_cases h:x<0
   ·simp [sgn,h];omega
   ·simp [sgn,h];omega
  rw [e] at this
  exact this
 have g':=g.out
 simp only [bv] at g'
 simp -implicitDefEqProofs (maxSteps:=9^8) only [QfQ,Qqz x,go_sem,Qac,Qab,iv,bv,g',encI,reduceCtorEq,↓reduceIte,Nat.reduceEqDiff]
theorem Qm6 {x y:Int} (hx:nd x≤1000000000000) (hy:nd y≤1000000000000):Qah G Qe8 [encI x,encI y]=some (.d (iv (Int.sign (x-y)))):=by
 rw [Qad (cf:=QbS) rfl]
 have hx':(digs x.natAbs).length≤1000000000000:=hx
 have hy':(digs y.natAbs).length≤1000000000000:=hy
 have g0:=Qek (Rw.dg _) (Rw.dg _) (Qap x.natAbs) (Qap y.natAbs) (QcM _) (QcM _) (by omega) (by omega)
 have g1:=Qek (Rw.dg _) (Rw.dg _) (Qap y.natAbs) (Qap x.natAbs) (QcM _) (QcM _) (by omega) (by omega)
 rw [Qd7,Qd7] at g0 g1
 simp only [iv] at g0 g1
 by_cases h:x<0<;>by_cases h2:y<0
 ·have e1:decide (x<0)=true:=decide_eq_true h
  have e2:decide (y<0)=true:=decide_eq_true h2
  have e3:(y.natAbs:Int)-(x.natAbs:Int)=x-y:=by omega
  have e4:(true==true)=true:=rfl
  rw [e3] at g1
  simp -implicitDefEqProofs (maxSteps:=9^8) only [QbS,encI,go_sem,Qac,Qab,iv,bv,e1,e2,e4,g1,reduceCtorEq,↓reduceIte,Nat.reduceEqDiff]
 ·have e1:decide (x<0)=true:=decide_eq_true h
  have e2:decide (y<0)=false:=decide_eq_false h2
  have e3:Int.sign (x-y) = -1:=Int.sign_eq_neg_one_of_neg (by omega)
  have e4:(true==false)=false:=rfl
  simp -implicitDefEqProofs (maxSteps:=9^8) only [QbS,encI,go_sem,Qac,Qab,iv,bv,e1,e2,e3,e4,reduceCtorEq,↓reduceIte,Nat.reduceEqDiff]
 ·have e1:decide (x<0)=false:=decide_eq_false h
  have e2:decide (y<0)=true:=decide_eq_true h2
  have e3:Int.sign (x-y)=1:=Int.sign_eq_one_of_pos (by omega)
  have e4:(false==true)=false:=rfl
  simp -implicitDefEqProofs (maxSteps:=9^8) only [QbS,encI,go_sem,Qac,Qab,iv,bv,e1,e2,e3,e4,reduceCtorEq,↓reduceIte,Nat.reduceEqDiff]
 ·have e1:decide (x<0)=false:=decide_eq_false h
  have e2:decide (y<0)=false:=decide_eq_false h2
  have e3:(x.natAbs:Int)-(y.natAbs:Int)=x-y:=by omega
  have e4:(false==false)=true:=rfl
  rw [e3] at g0
  simp -implicitDefEqProofs (maxSteps:=9^8) only [QbS,encI,go_sem,Qac,Qab,iv,bv,e1,e2,e4,g0,reduceCtorEq,↓reduceIte,Nat.reduceEqDiff]
theorem QjB {x:Int} (hx:nd x≤1000000000000):Qah G QbG [encI x]=some (.d (iv (Int.sign x))):=by
 rw [Qad (cf:=Qfp) rfl]
 have g:=Qm6 (x:=x) (y:=0) hx (by rw [QfT];omega)
 rw [Int.sub_zero,QhG,Qqz x] at g
 simp only [iv,bv] at g
 simp -implicitDefEqProofs (maxSteps:=9^8) only [Qfp,encI,go_sem,Qac,Qab,iv,bv,g,reduceCtorEq,↓reduceIte,Nat.reduceEqDiff]

section
variable (da db:D) (a b:List Int)
def Qky (o:List Int) (c i:Int):St:=mkS [(0,.d da),(1,.d db),(5,gA 38 o),(6,ai c),(7,ai i)] (gH 38 o)
def Qks (o:List Int):St:=mkS [(5,gA 38 o)] (gH 38 o)

theorem rp_ge {i:Nat} {l:List Int} (h:l.length≤i):l.getD i 0=0:=by
 have _its:Its:=inferInstance
 rw [List.getD_eq_getElem?_getD,List.getElem?_eq_none h];rfl

theorem rp_stop (hra:Rw da a) (hrb:Rw db b) {o:List Int} {i:Nat} (h1:a.length≤i) (h2:b.length≤i):X G Qa1 (Qky da db o 0 (i:Int))=some (.x 0,Qks o):=by
 have e1:decide ((i:Int)<(a.length:Int))=false:=lt_f (by omega)
 have e2:decide ((i:Int)<(b.length:Int))=false:=lt_f (by omega)
 have e3:decide ((0:Int)>0)=false:=rfl
 by_cases ho:o=[]
 ·subst ho
  simp -implicitDefEqProofs (maxSteps:=9^8) only [Qa1,Qky,Qks,QcI,QcH,Qaa,go_sem,iv,bv,hra.len,hrb.len,e1,e2,e3,Qak,reduceCtorEq,↓reduceIte,Nat.reduceEqDiff]
 ·simp -implicitDefEqProofs (maxSteps:=9^8) only [Qa1,Qky,Qks,Qf6 ho,Qf9 ho,go_sem,iv,bv,hra.len,hrb.len,e1,e2,e3,Qak,reduceCtorEq,↓reduceIte,Nat.reduceEqDiff]

theorem rp_go (hra:Rw da a) (hrb:Rw db b) (ha:Dig a) (hb:Dig b) {o:List Int} {c:Int} {i:Nat} (hc:0≤c∧c≤1) (hi:i<a.length∨i<b.length∨c>0) (hil:i<4611686018427387904) (hol:(o.length+1)*8≤140737488351232) :
    X G Qa1 (Qky da db o c (i:Int))=some (.n,Qky da db (o++[(a.getD i 0+b.getD i 0+c)%1000000000]) ((a.getD i 0+b.getD i 0+c)/1000000000) ((i+1:Nat):Int)):=by
  obtain ⟨e1,e2,e3,e4,e5,e6,e7⟩:=Qqq (ha.getD i) (hb.getD i) hc
  have d1:=QgM hra (i:=i)
  have d2:=QgM hrb (i:=i)
  simp only [iv] at d1 d2
  have n1:=QeN (b:=1000000000) e3
  have n2:=QdV (b:=1000000000) e3
  have n3:w64 ((i:Int)+1)=((i+1:Nat):Int):=by rw [Qae (by omega) (by omega)];omega
  have f1:=Qi2 hol
  have f2:=QhR
  generalize hv:(a.getD i 0+b.getD i 0+c)%1000000000=v at *
  generalize hq:(a.getD i 0+b.getD i 0+c)/1000000000=q at *
  have key:∀ (t1 t2 t3:Bool),(decide ((i:Int)<(a.length:Int))=t1)→(decide ((i:Int)<(b.length:Int))=t2)→(decide (c>0)=t3)→(t1||t2||t3)=true→X G Qa1 (Qky da db o c (i:Int))=some (.n,Qky da db (o++[v]) q ((i+1:Nat):Int)):=by
    intro t1 t2 t3 h1 h2 h3 h4
    by_cases ho:o=[]
    · subst ho
      cases t1<;>cases t2<;>cases t3<;>first
        | exact absurd h4 (by decide)
        | simp -implicitDefEqProofs (maxSteps:=9^8) only [Qa1,Qky,Qks,QcI,QcH,Qaa,Qls,Qk5,QhF,QhH,go_sem,Qa2,iv,bv,hra.len,hrb.len,h1,h2,h3,d1,d2,e1,e2,e4,n1,n2,n3,f2,hv,hq,QeT,D.one,allD,Qak,reduceCtorEq,↓reduceIte,Nat.reduceEqDiff]
    · cases t1 <;> cases t2 <;> cases t3 <;> first
        | exact absurd h4 (by decide)
        | simp -implicitDefEqProofs (maxSteps:=9^8) only [Qa1,Qky,Qks,Qf6 ho,Qf9 ho,QhF,QhH,go_sem,Qa2,iv,bv,hra.len,hrb.len,h1,h2,h3,d1,d2,e1,e2,e4,n1,n2,n3,f1,f2,hv,hq,Qea,Qai,D.one,allD,Qak,reduceCtorEq,↓reduceIte,Nat.reduceEqDiff]
  refine key _ _ _ rfl rfl rfl ?_
  simp only [Bool.or_eq_true,decide_eq_true_eq]
  omega

theorem rp_loop (hra:Rw da a) (hrb:Rw db b) (ha:Dig a) (hb:Dig b) (hl:(max a.length b.length+2)*8≤140737488351232):∀ (k i:Nat) (o:List Int) (c:Int),i+k=max a.length b.length+1→(0≤c∧c≤1)→(i=max a.length b.length+1→c=0)→o.length=i→Dig o→val o+(1000000000:Int)^i*c=val (a.take i)+val (b.take i) →
    ∃ o',X G (.loop Qa1) (Qky da db o c (i:Int))=some (.x 0,Qks o')∧Dig o'∧o'.length≤max a.length b.length+1∧val o'=val a+val b
  | 0,i,o,c,hi,hc,h0,ho,hd,hv=>by
    have hc0:=h0 (by omega)
    subst hc0
    refine ⟨o,by rw [Qag,rp_stop da db a b hra hrb (by omega) (by omega)];rfl,hd,by omega, ?_⟩
    rw [Int.mul_zero,Int.add_zero,List.take_of_length_le (by omega),List.take_of_length_le (by omega)] at hv
    exact hv
  | k+1,i,o,c,hi,hc,h0,ho,hd,hv=>by
    by_cases hmore:i<a.length∨i<b.length∨c>0
    · obtain ⟨_,_,_,_,e5,e6,e7⟩:=Qqq (ha.getD i) (hb.getD i) hc
      have hx:=rp_go da db a b hra hrb ha hb hc hmore (by omega) (o:=o) (by omega)
      have hlast:i+1=max a.length b.length+1→(a.getD i 0+b.getD i 0+c)/1000000000=0:=by
        intro h
        rw [rp_ge (i:=i) (l:=a) (by omega),rp_ge (i:=i) (l:=b) (by omega)]
        omega
      obtain ⟨o',g1,g2⟩:=rp_loop hra hrb ha hb hl k (i+1) (o++[(a.getD i 0+b.getD i 0+c)%1000000000]) ((a.getD i 0+b.getD i 0+c)/1000000000) (by omega) e5 hlast (by simp;omega) (QrF hd e6) (by
        rw [Qql,ho,Qaq a,Qaq b,Int.pow_succ]
        generalize (a.getD i 0+b.getD i 0+c)%1000000000=R at *
        generalize (a.getD i 0+b.getD i 0+c)/1000000000=Q at *
        clear hx e5 e6 hlast
        grind)
      exact ⟨o',by rw [Qag,hx];exact g1,g2⟩
    · have hc0:c=0:=by omega
      subst hc0
      refine ⟨o,by rw [Qag,rp_stop da db a b hra hrb (by omega) (by omega)];rfl,hd,by omega, ?_⟩
      rw [Int.mul_zero,Int.add_zero,List.take_of_length_le (by omega),List.take_of_length_le (by omega)] at hv
      exact hv
end

theorem QrO        {da db:D} {a b:List Int} (hra:Rw da a) (hrb:Rw db b) (ha:Dig a) (hb:Dig b) (hl:(max a.length b.length+2)*8≤140737488351232) :
    ∃ out,Qah G Qga [da,db]=some (gR out)∧out.length≤max a.length b.length+1∧Dig out∧val out=val a+val b:=by
  obtain ⟨o,h1,h2,h3,h4⟩:=rp_loop da db a b hra hrb ha hb hl (max a.length b.length+1) 0 [] 0 (by omega) (by omega) (fun h=>rfl) rfl .nil (by simp [val])
  refine ⟨o, ?_,h3,h2,h4⟩
  rw [Qad (cf:=Qd4) rfl]
  by_cases ho:o=[]
  · subst ho
    simp only [Qky,Qks,QcI,QcH,Qaa,go_sem,nc0] at h1
    simp -implicitDefEqProofs (maxSteps:=9^8) only [Qd4,gR,Qaa,go_sem,iv,bv,h1,Qak,reduceCtorEq,↓reduceIte,Nat.reduceEqDiff]
  · simp only [Qky,Qks,QcI,QcH,Qaa,Qf6 ho,Qf9 ho,go_sem,nc0] at h1
    simp -implicitDefEqProofs (maxSteps:=9^8) only [Qd4,gR,ho,Qaa,go_sem,iv,bv,h1,Qak,QbK,reduceCtorEq,↓reduceIte,Nat.reduceEqDiff]
end Go.AM

