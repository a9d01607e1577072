/- Part 9 of the proof: a small machine, its soundness against the model, and what the program's functions compute on it. -/
import Derived.Test.YthhdbchmjfdgmaaGreatM8
import Derived.Test.YthhdbchmjfdgmaaGreatM7
import Derived.KernelRfl
set_option linter.unusedVariables false
set_option linter.unusedSimpArgs false
/- ref01.Int; both Ints; both Encode; ref01.Same. -/
namespace Go.AM
open Go Go.RowKit
/-! ### Encode -/
def enI (x:Int):List Int:=wL (Int.sign x :: digs x.natAbs)
theorem sign_i64 (x:Int):I64 (Int.sign x):=by
 rcases Int.lt_trichotomy x 0 with h | h | h
 ·rw [Int.sign_eq_neg_one_of_neg h];exact ⟨by omega,by omega⟩
 ·subst h;exact ⟨by decide,by decide⟩
 ·rw [Int.sign_eq_one_of_pos h];exact ⟨by omega,by omega⟩
theorem en_i64 (x:Int):∀ n∈Int.sign x :: digs x.natAbs,I64 n:=fun n hn=>by
 rcases List.mem_cons.1 hn with rfl | h
 ·exact sign_i64 x
 ·have:=Qap _ n h;exact ⟨by omega,by omega⟩
variable [Its]

theorem QpY {K:Nat} {n:Int} (hK:(K=33∧0≤n)∨(K=39∧n<0)) {k:Nat} (hk:k≤8):∀ (i:Nat) (L:List Int),i≤k→L.length+i≤100→X G (.loop QaU) (QlD K n (upb (mag n) k) L ((i:Int)-1))=some (.x 2,QoZ K (L++dwn n i))
 | 0,L,_,_=>by
  rw [Qag,show ((0:Nat):Int)-1 = -1 from rfl,rj_stop (by rcases hK with h | h;exact .inl h.1;exact .inr h.1),dwn,List.append_nil];rfl
 | i+1,L,hi,hL=>by
  rw [Qag,show ((i+1:Nat):Int)-1=(i:Int) by omega,rj_go hK (by omega) hk (by omega),Option.bind_some,if_pos rfl,dwn,show L++flp n (bt (mag n) i) :: dwn n i=(L++[flp n (bt (mag n) i)])++dwn n i by simp]
  exact QpY hK hk i _ (by omega) (by rw [List.length_append,List.length_singleton];omega)
theorem Qjw {n:Int} (hn:I64 n):Qah G QcV [iv n]=some (rU (wI n)):=by
 rw [Qad (cf:=QcQ) rfl]
 have hm:=mag_b hn
 have hd:=QrN (mag n)
 have h1:=ri_loop (n:=n) hm (dl (mag n)) 0 (by omega)
 rw [Nat.pow_zero,Nat.div_one,upb] at h1
 have lU:=Qgx (mag n) (dl (mag n))
 have e2:w64 ((dl (mag n):Nat)-1)=(dl (mag n):Nat)-1:=Qae (by omega) (by omega)
 obtain ⟨h3,h4⟩:=hn
 rw [wI]
 have f0:=Qhm (n:=1) (by omega)
 have fl:lenA (gU 21 (upb (mag n) (dl (mag n))))=some (dl (mag n)):=by
  by_cases h0:upb (mag n) (dl (mag n))=[]
  ·rw [h0,Qkd]
   rw [h0] at lU
   rw [← lU];rfl
  ·rw [Qnp h0,Qqf,lU]
 have fg:gU 21 (upb (mag n) (dl (mag n)))=.d (.z true)∧gUH 21 (upb (mag n) (dl (mag n)))=[]∨gU 21 (upb (mag n) (dl (mag n)))=.own [21] (dl (mag n))∧gUH 21 (upb (mag n) (dl (mag n)))=[([21],arrU (dl (mag n)) (upb (mag n) (dl (mag n))))]:=by
  by_cases h0:upb (mag n) (dl (mag n))=[]
  ·exact .inl ⟨by rw [h0,Qkd],by rw [h0,QiL]⟩
  ·exact .inr ⟨by rw [Qnp h0,lU],by rw [Qko h0,lU]⟩
 by_cases hs:n<0
 ·have s1:decide (n<0)=true:=lt_t hs
  have s2:decide (n≥0)=false:=ge_f (by omega)
  have m1:w64 (-1-n)=((mag n:Nat):Int):=by
   unfold mag
   rw [if_pos hs,Qae (by omega) (by omega)];omega
  obtain ⟨hd0,hh⟩:∃ h0,127-((dl (mag n):Nat):Int)=h0:=⟨_,rfl⟩
  have e3:w64 (127-((dl (mag n):Nat):Int))=hd0:=by rw [Qae (by omega) (by omega)];exact hh
  have e4:IntKind.u8.wrap hd0=hd0:=u8m (by omega)
  have e5:flp n (128+((dl (mag n):Nat):Int))=hd0:=by unfold flp;rw [if_pos hs];omega
  have h2:=QpY (K:=39) (.inr ⟨rfl,hs⟩) hd (dl (mag n)) [hd0] (Nat.le_refl _) (by rw [List.length_singleton];omega)
  have hl:([hd0]++dwn n (dl (mag n)))=(hd0) :: dwn n (dl (mag n)):=rfl
  rw [hl] at h2
  rw [e5]
  simp only [QlD,QoZ,QnI,QpA,Qkd,QiL,List.length_singleton] at h1 h2
  generalize gU 21 (upb (mag n) (dl (mag n)))=u at *
  generalize gUH 21 (upb (mag n) (dl (mag n)))=uh at *
  clear e5 hl lU
  have c1:=Qh2 (hd0)
  generalize (hd0) :: dwn n (dl (mag n))=W at *
  generalize upb (mag n) (dl (mag n))=U at *
  generalize ((mag n:Nat):Int)=m at *
  rcases fg with ⟨rfl,rfl⟩ | ⟨rfl,rfl⟩
  ·simp only [arrU,List.nil_append,c1,go_sem] at h1 h2
   simp -implicitDefEqProofs (maxSteps:=9^8) only [QcQ,rU,Qam,fl,c1,f0,QaN,QeA,Qa2,D.one,allD,s1,s2,m1,h1,h2,e2,e3,e4,go_sem,reduceCtorEq,↓reduceIte,Nat.reduceEqDiff,iv]
  ·simp only [arrU,List.cons_append,List.nil_append,c1,go_sem] at h1 h2
   simp -implicitDefEqProofs (maxSteps:=9^8) only [QcQ,rU,Qam,fl,c1,f0,QaN,QeA,Qa2,D.one,allD,s1,s2,m1,h1,h2,e2,e3,e4,go_sem,reduceCtorEq,↓reduceIte,Nat.reduceEqDiff,iv]
 ·have s1:decide (n<0)=false:=lt_f hs
  have s2:decide (n≥0)=true:=ge_t (by omega)
  have m1:n=((mag n:Nat):Int):=by
   unfold mag
   rw [if_neg hs];omega
  obtain ⟨hd0,hh⟩:∃ h0,128+((dl (mag n):Nat):Int)=h0:=⟨_,rfl⟩
  have e3:w64 (128+((dl (mag n):Nat):Int))=hd0:=by rw [Qae (by omega) (by omega)];exact hh
  have e4:IntKind.u8.wrap hd0=hd0:=u8m (by omega)
  have e5:flp n (128+((dl (mag n):Nat):Int))=hd0:=by unfold flp;rw [if_neg hs];exact hh
  have h2:=QpY (K:=33) (n:=n) (.inl ⟨rfl,by omega⟩) hd (dl (mag n)) [hd0] (Nat.le_refl _) (by rw [List.length_singleton];omega)
  have hl:([hd0]++dwn n (dl (mag n)))=(hd0) :: dwn n (dl (mag n)):=rfl
  rw [hl] at h2
  rw [e5]
  rw [← m1] at h1
  simp only [QlD,QoZ,QnI,QpA,Qkd,QiL,List.length_singleton] at h1 h2
  generalize gU 21 (upb (mag n) (dl (mag n)))=u at *
  generalize gUH 21 (upb (mag n) (dl (mag n)))=uh at *
  clear e5 hl lU m1
  have c1:=Qh2 (hd0)
  generalize (hd0) :: dwn n (dl (mag n))=W at *
  generalize upb (mag n) (dl (mag n))=U at *
  rcases fg with ⟨rfl,rfl⟩ | ⟨rfl,rfl⟩
  ·simp only [arrU,List.nil_append,c1,go_sem] at h1 h2
   simp -implicitDefEqProofs (maxSteps:=9^8) only [QcQ,rU,Qam,fl,c1,f0,QaN,QeA,Qa2,D.one,allD,s1,s2,h1,h2,e2,e3,e4,go_sem,reduceCtorEq,↓reduceIte,Nat.reduceEqDiff,iv]
  ·simp only [arrU,List.cons_append,List.nil_append,c1,go_sem] at h1 h2
   simp -implicitDefEqProofs (maxSteps:=9^8) only [QcQ,rU,Qam,fl,c1,f0,QaN,QeA,Qa2,D.one,allD,s1,s2,h1,h2,e2,e3,e4,go_sem,reduceCtorEq,↓reduceIte,Nat.reduceEqDiff,iv]

/-! ### Ints -/
def Qso (d:D) (L:List Int) (i:Int):St:=mkS [(0,.d d),(3,.own [7] L.length),(4,ai i)] [([7],arrU L.length L)]
def rk_en (L:List Int):St:=mkS [(3,.own [7] L.length)] [([7],arrU L.length L)]
def Qmp (d:D) (L:List Int) (n i:Int):St:=mkS [(3,.own [8] L.length),(9,.d d),(10,ai n),(11,ai i)] [([8],arrU L.length L)]
def wk2_en (L:List Int):St:=mkS [(3,.own [8] L.length)] [([8],arrU L.length L)]
section
variable {d:D} {l:List Int}
theorem rk_loop (hr:Rw d l) (hl:∀ n∈l,I64 n) (hn:l.length≤1000000000000):∀ (j i:Nat) (L:List Int),i+j=l.length→L.length≤9+9*i→X G (.loop Qcq) (Qso d L i)=some (.x 0,rk_en (L++wJ (l.drop i)))
 | 0,i,L,hj,hL=>by
  have ll:=hr.len
  have e1:decide ((i:Int)<(l.length:Int))=false:=lt_f (by omega)
  rw [Qag,List.drop_eq_nil_of_le (by omega),wJ,List.append_nil]
  simp -implicitDefEqProofs (maxSteps:=9^8) only [Qcq,Qso,rk_en,arrU,Qam,ll,QaN,e1,go_sem,reduceCtorEq,↓reduceIte,Nat.reduceEqDiff,iv]
 | j+1,i,L,hj,hL=>by
  have ll:=hr.len
  have hi:i<l.length:=by omega
  have e1:decide ((i:Int)<(l.length:Int))=true:=lt_t (by omega)
  have e2:w64 ((i:Int)+1)=((i+1:Nat):Int):=by rw [Qae (by omega) (by omega)];rfl
  have x1:=hr.ixn hi
  have x2:=fun h=>ldv h l hi
  have hx:I64 (l.getD i 0):=hl _ (by rw [List.getD_eq_getElem?_getD,List.getElem?_eq_getElem hi];exact List.getElem_mem hi)
  have hdr:l.drop i=l.getD i 0 :: l.drop (i+1):=by
   rw [List.drop_eq_getElem_cons hi,List.getD_eq_getElem?_getD,List.getElem?_eq_getElem hi];rfl
  rw [hdr,wJ,← List.append_assoc]
  generalize l.getD i 0=x at *
  have g:=Qjw hx
  have lw:=Qjx x
  have f1:=Qhm (n:=L.length+(wI x).length) (by omega)
  have f2:=Qfz (wI x)
  generalize wI x=W at *
  simp only [iv,rU] at g
  have hl2:(L++W).length=L.length+W.length:=List.length_append
  have hgo:X G Qcq (Qso d L i)=some (.n,Qso d (L++W) ((i+1:Nat):Int)):=by
   simp only [Qso,hl2]
   simp -implicitDefEqProofs (maxSteps:=9^8) only [Qcq,arrU,Qam,ll,x1,x2,g,f1,f2,QaN,Qbn,Qed,List.length_map,Qa2,e1,e2,go_sem,reduceCtorEq,↓reduceIte,Nat.reduceEqDiff,iv]
  rw [Qag,hgo,Option.bind_some,if_pos rfl]
  exact rk_loop hr hl hn j (i+1) _ (by omega) (by rw [hl2];omega)
theorem Qq4 (hr:Rw d l) (hl:∀ n∈l,I64 n) (hn:l.length≤1000000000000):∀ (j i:Nat) (L:List Int),i+j=l.length→L.length≤9+9*i→X G (.loop Qe6) (Qmp d L l.length i)=some (.x 0,wk2_en (L++wJ (l.drop i)))
 | 0,i,L,hj,hL=>by
  have ll:=hr.len
  have e1:decide ((i:Int)<(l.length:Int))=false:=lt_f (by omega)
  rw [Qag,List.drop_eq_nil_of_le (by omega),wJ,List.append_nil]
  simp -implicitDefEqProofs (maxSteps:=9^8) only [Qe6,Qmp,wk2_en,arrU,Qam,ll,QaN,e1,go_sem,reduceCtorEq,↓reduceIte,Nat.reduceEqDiff,iv]
 | j+1,i,L,hj,hL=>by
  have hi:i<l.length:=by omega
  have e1:decide ((i:Int)<(l.length:Int))=true:=lt_t (by omega)
  have e2:w64 ((i:Int)+1)=((i+1:Nat):Int):=by rw [Qae (by omega) (by omega)];rfl
  have x1:=hr.ixn hi
  have x2:=fun h=>ldv h l hi
  have hx:I64 (l.getD i 0):=hl _ (by rw [List.getD_eq_getElem?_getD,List.getElem?_eq_getElem hi];exact List.getElem_mem hi)
  have hdr:l.drop i=l.getD i 0 :: l.drop (i+1):=by
   rw [List.drop_eq_getElem_cons hi,List.getD_eq_getElem?_getD,List.getElem?_eq_getElem hi];rfl
  rw [hdr,wJ,← List.append_assoc]
  generalize l.getD i 0=x at *
  have g:=Qk4 hx
  have lw:=Qjx x
  have f1:=Qhm (n:=L.length+(wI x).length) (by omega)
  have f2:=Qfz (wI x)
  generalize wI x=W at *
  simp only [iv,rU] at g
  have hl2:(L++W).length=L.length+W.length:=List.length_append
  have hgo:X G Qe6 (Qmp d L l.length i)=some (.n,Qmp d (L++W) l.length ((i+1:Nat):Int)):=by
   simp only [Qmp,hl2]
   simp -implicitDefEqProofs (maxSteps:=9^8) only [Qe6,arrU,Qam,x1,x2,g,f1,f2,QaN,Qbn,Qed,List.length_map,Qa2,e1,e2,go_sem,reduceCtorEq,↓reduceIte,Nat.reduceEqDiff,iv]
  rw [Qag,hgo,Option.bind_some,if_pos rfl]
  exact Qq4 hr hl hn j (i+1) _ (by omega) (by rw [hl2];omega)
theorem Qr9 (hr:Rw d l) (hl:∀ n∈l,I64 n) (hn:l.length≤1000000000000):Qah G Qgc [d]=some (rU (wL l)):=by
 rw [Qad (cf:=Qfg) rfl]
 have ll:=hr.len
 have g:=Qjw (n:=(l.length:Nat)) ⟨by omega,by omega⟩
 have lw:=Qjx ((l.length:Nat):Int)
 have h:=rk_loop hr hl hn l.length 0 (wI (l.length:Nat)) (by omega) (by omega)
 rw [List.drop_zero] at h
 rw [wL]
 generalize wI ((l.length:Nat):Int)++wJ l=W at *
 generalize wI ((l.length:Nat):Int)=V at *
 have c1:=Qjm V
 simp only [Qso,rk_en,arrU,go_sem,nc0] at h
 simp only [iv,rU] at g
 simp -implicitDefEqProofs (maxSteps:=9^8) only [Qfg,rU,Qam,ll,g,h,c1,QaN,QeA,go_sem,reduceCtorEq,↓reduceIte,Nat.reduceEqDiff,iv]
theorem QrR (hr:Rw d l) (hl:∀ n∈l,I64 n) (hn:l.length≤1000000000000):Qah G Qlj [d]=some (rU (wL l)):=by
 rw [Qad (cf:=Qlx) rfl]
 have ll:=hr.len
 have g:=Qk4 (n:=(l.length:Nat)) ⟨by omega,by omega⟩
 have lw:=Qjx ((l.length:Nat):Int)
 have h:=Qq4 hr hl hn l.length 0 (wI (l.length:Nat)) (by omega) (by omega)
 rw [List.drop_zero] at h
 rw [wL]
 generalize wI ((l.length:Nat):Int)++wJ l=W at *
 generalize wI ((l.length:Nat):Int)=V at *
 have c1:=Qjm V
 simp only [Qmp,wk2_en,arrU,go_sem,nc0] at h
 simp only [iv,rU] at g
 simp -implicitDefEqProofs (maxSteps:=9^8) only [Qlx,rU,Qam,ll,g,h,c1,QaN,QeA,go_sem,reduceCtorEq,↓reduceIte,Nat.reduceEqDiff,iv]
end

theorem QlA {x:Int} (hx:nd x≤100000000000):Qah G Qfi [encI x]=some (.d (rowU (enI x))):=by
 rw [Qad (cf:=Qgr) rfl]
 have hn:(digs x.natAbs).length≤100000000000:=hx
 have g1:=Qo1 x
 have g2:=QrR (Rw.row (Int.sign x :: digs x.natAbs)) (en_i64 x) (by rw [List.length_cons];omega)
 have sd:=fun st=>QoO st (digs x.natAbs)
 have f1:=(show ((1+(digs x.natAbs).length)*8≤bound)=True from eq_true (by simp only [bound];omega))
 have f2:List.all ((digs x.natAbs).map iv) D.one=true:=by simp [iv,D.one,A.one]
 have f3:((digs x.natAbs).map iv).length=(digs x.natAbs).length:=List.length_map _
 rw [enI]
 have hr:rowI (Int.sign x :: digs x.natAbs)=.row (1+(digs x.natAbs).length) (.v (.int .i64 (Int.sign x)) :: (digs x.natAbs).map iv):=by rw [rowI,List.length_cons,Nat.add_comm];rfl
 rw [hr] at g2
 generalize wL (Int.sign x :: digs x.natAbs)=W at *
 generalize Int.sign x=s at *
 simp only [iv,rU] at g1 g2
 simp -implicitDefEqProofs (maxSteps:=9^8) only [Qgr,bI,rowU,sd,f1,f2,f3,g1,g2,go_sem,reduceCtorEq,↓reduceIte,Nat.reduceEqDiff,iv]
theorem Qkr {x:Int} (hx:nd x≤100000000000):Qah G QdQ [encI x]=some (rU (enI x)):=by
 rw [Qad (cf:=Qel) rfl]
 have hn:(digs x.natAbs).length≤100000000000:=hx
 have g1:=QjB (x:=x) (by omega)
 have g2:=Qr9 (Rw.row (Int.sign x :: digs x.natAbs)) (en_i64 x) (by rw [List.length_cons];omega)
 have sd:=fun st=>QoO st (digs x.natAbs)
 have f1:=(show ((1+(digs x.natAbs).length)*8≤bound)=True from eq_true (by simp only [bound];omega))
 have f2:List.all ((digs x.natAbs).map iv) D.one=true:=by simp [iv,D.one,A.one]
 have f3:((digs x.natAbs).map iv).length=(digs x.natAbs).length:=List.length_map _
 rw [enI]
 have hr:rowI (Int.sign x :: digs x.natAbs)=.row (1+(digs x.natAbs).length) (.v (.int .i64 (Int.sign x)) :: (digs x.natAbs).map iv):=by rw [rowI,List.length_cons,Nat.add_comm];rfl
 rw [hr] at g2
 generalize wL (Int.sign x :: digs x.natAbs)=W at *
 generalize Int.sign x=s at *
 simp only [iv,rU] at g1 g2
 have c1:=Qjm W
 simp -implicitDefEqProofs (maxSteps:=9^8) only [Qel,bI,rowU,sd,f1,f2,f3,g1,g2,c1,QaN,QeA,rU,go_sem,reduceCtorEq,↓reduceIte,Nat.reduceEqDiff,iv]
/-! ### Same -/
def Qsw (d e:D) (i:Int):St:=mkS [(0,.d d),(1,.d e),(5,ai i)] []
theorem bs_loop {d e:D} {l:List Int} (h1:RwU d l) (h2:RwU e l) (hn:l.length≤1000000000000):∀ j i:Nat,i+j=l.length→X G (.loop Qcm) (Qsw d e i)=some (.x 0,mkS [] [])
 | 0,i,hj=>by
  have l1:=h1.len
  have e1:decide ((i:Int)<(l.length:Int))=false:=lt_f (by omega)
  rw [Qag]
  simp -implicitDefEqProofs (maxSteps:=9^8) only [Qcm,Qsw,l1,e1,go_sem,reduceCtorEq,↓reduceIte,Nat.reduceEqDiff,iv]
 | j+1,i,hj=>by
  have l1:=h1.len
  have hi:i<l.length:=by omega
  have e1:decide ((i:Int)<(l.length:Int))=true:=lt_t (by omega)
  have e2:w64 ((i:Int)+1)=((i+1:Nat):Int):=by rw [Qae (by omega) (by omega)];rfl
  have x1:=h1.ixn hi
  have x3:=h2.ixn hi
  have x2:=fun h=>ldu h l hi
  have e3:(l.getD i 0 != l.getD i 0)=false:=bne_self_eq_false _
  have hx:X G Qcm (Qsw d e i)=some (.n,Qsw d e ((i+1:Nat):Int)):=by
   simp -implicitDefEqProofs (maxSteps:=9^8) only [Qcm,Qsw,l1,x1,x2,x3,e1,e2,e3,go_sem,reduceCtorEq,↓reduceIte,Nat.reduceEqDiff,iv]
  rw [Qag,hx,Option.bind_some,if_pos rfl]
  exact bs_loop h1 h2 hn j (i+1) (by omega)
theorem Qmq {d e:D} {l:List Int} (h1:RwU d l) (h2:RwU e l) (hn:l.length≤1000000000000):Qah G Qcv [d,e]=some (.d (bv true)):=by
 rw [Qad (cf:=Qdb) rfl]
 have l1:=h1.len
 have l2:=h2.len
 have h:=bs_loop h1 h2 hn l.length 0 (by omega)
 have e1:((l.length:Int) != (l.length:Int))=false:=bne_self_eq_false _
 simp only [Qsw,go_sem,nc0] at h
 simp -implicitDefEqProofs (maxSteps:=9^8) only [Qdb,l1,l2,e1,h,go_sem,reduceCtorEq,↓reduceIte,Nat.reduceEqDiff,iv,bv]
end Go.AM

/- integer.Small, ref04.Small. -/
namespace Go.AM
open Go Go.RowKit

def au (u:Int):A:=.d (.v (.int .u64 u))
attribute [go_sem] au
theorem w64_hi {n:Int} (h0:9223372036854775808≤n) (h1:n<18446744073709551616):w64 n=n-18446744073709551616:=by
 rw [← Qny]
 unfold IntKind.wrap
 simp only [IntKind.signed,IntKind.bits,Bool.true_and,decide_eq_true_eq,ge_iff_le]
 by_cases h:(2:Int)^(64-1)≤n%2^64
 ·rw [if_pos h];omega
 ·rw [if_neg h];omega
variable [Its]

section
variable {x:Int} {l:List Int} (hl:digs x.natAbs=l)
end

end Go.AM

/- wire.GetInt, ref01.GetInt. -/
namespace Go.AM
open Go Go.RowKit
theorem shl8 {m:Nat} (h:m<72057594037927936):shI .shl .u64 (m:Int) 8=some (.int .u64 ((256*m:Nat):Int)):=by
 unfold shI
 rw [if_neg (by decide)]
 have e:min (8:Int).toNat IntKind.u64.bits=8:=rfl
 simp only [e]
 congr 2
 rw [QkQ]
 omega
theorem or64 {m:Nat} {c:Int} (h:m<72057594037927936) (hc:0≤c∧c<256):binI .or .u64 ((256*m:Nat):Int) c=some (.int .u64 ((256*m+c.toNat:Nat):Int)):=by
 obtain ⟨n,rfl⟩:∃ n:Nat,c=(n:Int):=⟨c.toNat,by omega⟩
 have hn:n<256:=by omega
 show some (Value.int .u64 (IntKind.u64.wrap (((BitVec.ofInt 64 ((256*m:Nat):Int)) ||| BitVec.ofInt 64 (n:Int)).toNat:Nat)))=_
 rw [BitVec.ofInt_natCast,BitVec.ofInt_natCast,BitVec.toNat_or,BitVec.toNat_ofNat,BitVec.toNat_ofNat,Nat.mod_eq_of_lt (show 256*m<2^64 by omega),Nat.mod_eq_of_lt (show n<2^64 by omega)]
 have e:=Nat.two_pow_add_eq_or_of_lt (i:=8) (b:=n) (by omega) m
 rw [show (2:Nat)^8=256 from rfl] at e
 rw [← e,QkQ,Int.toNat_natCast]
 congr 2
 omega
theorem shr63 (m:Nat):shI .shr .u64 (m:Int) 63=some (.int .u64 ((m/9223372036854775808:Nat):Int)):=by
 unfold shI
 rw [if_neg (by decide)]
 have e:min (63:Int).toNat IntKind.u64.bits=63:=rfl
 simp only [e]
 congr 2
 have e2:(2:Int)^63=((9223372036854775808:Nat):Int):=rfl
 rw [e2,Int.fdiv_eq_ediv_of_nonneg _ (Int.natCast_nonneg _)]
 rfl
def flG (g:Bool):Int:=if g then 255 else 0
theorem xor8_g (g:Bool) {a:Int} (h:0≤a∧a<256):binI .xor .u8 a (flG g)=some (.int .u8 (fx g a)):=by
 unfold flG fx
 cases g
 ·exact xor8_0 h
 ·exact xor8_1 h
variable [Its]
/-! ### wire.GetInt -/
def QsC (g:Bool) (k m:Int) (t:List Int) (i:Int):St:=mkS [(5,.d (.v (.int .u8 (flG g)))),(6,ai k),(7,.d (.v (.int .u64 m))),(46,.d (rowU t)),(47,ai t.length),(48,ai i)] []
def gi_en (g:Bool) (k m:Int):St:=mkS [(5,.d (.v (.int .u8 (flG g)))),(6,ai k),(7,.d (.v (.int .u64 m)))] []
theorem gi_loop {g:Bool} {k:Int} {t:List Int} (ht:Byt t) (n8:t.length≤8):∀ (j i m:Nat),i+j=t.length→m<256^i→X G (.loop Qd3) (QsC g k m t i)=some (.x 1,gi_en g k (gv g m (t.drop i):Nat))
 | 0,i,m,h,hm=>by
  have e1:decide ((i:Int)<(t.length:Int))=false:=lt_f (by omega)
  rw [Qag,List.drop_eq_nil_of_le (by omega),gv]
  simp -implicitDefEqProofs (maxSteps:=9^8) only [Qd3,QsC,gi_en,e1,go_sem,reduceCtorEq,↓reduceIte,Nat.reduceEqDiff,iv]
 | j+1,i,m,h,hm=>by
  have hi:i<t.length:=by omega
  have e1:decide ((i:Int)<(t.length:Int))=true:=lt_t (by omega)
  have e2:w64 ((i:Int)+1)=((i+1:Nat):Int):=by rw [Qae (by omega) (by omega)];rfl
  have x1:=(RwU.row t).ixn hi
  have x2:=fun h=>ldu h t hi
  have hb:=ht.getD i
  have hm7:m<72057594037927936:=Nat.lt_of_lt_of_le hm (Nat.le_trans (Nat.pow_le_pow_right (by decide) (show i≤7 by omega)) (by decide))
  have hdr:t.drop i=t.getD i 0 :: t.drop (i+1):=by
   rw [List.drop_eq_getElem_cons hi,List.getD_eq_getElem?_getD,List.getElem?_eq_getElem hi];rfl
  rw [hdr,gv]
  generalize t.getD i 0=x at *
  have f:=fx_b (g:=g) hb
  have e3:=xor8_g g hb
  have e4:=shl8 hm7
  have e5:=or64 hm7 f
  have e6:(fx g x)%18446744073709551616=fx g x:=by omega
  have hm':256*m+(fx g x).toNat<256^(i+1):=by rw [Nat.pow_succ];omega
  have ih:=gi_loop (g:=g) (k:=k) ht n8 j (i+1) (256*m+(fx g x).toNat) (by omega) hm'
  rw [← ih]
  have hgo:X G Qd3 (QsC g k m t i)=some (.n,QsC g k ((256*m+(fx g x).toNat:Nat):Int) t ((i+1:Nat):Int)):=by
   clear ih hm' f hb
   simp -implicitDefEqProofs only [go_sem,Option.some.injEq,Value.int.injEq] at e3 e5
   generalize ((256*m+(fx g x).toNat:Nat):Int)=m2 at *
   generalize ((256*m:Nat):Int)=m1 at *
   generalize fx g x=y at *
   generalize (m:Int)=m0 at *
   generalize ((i+1:Nat):Int)=i1 at *
   simp -implicitDefEqProofs (maxSteps:=9^8) only [Qd3,QsC,x1,x2,e1,e2,e3,e4,e5,e6,go_sem,reduceCtorEq,↓reduceIte,Nat.reduceEqDiff,iv]
  rw [Qag,hgo,Option.bind_some,if_pos rfl]
def gIr (b:List Int):R:=.d (.tup [iv (gI b).1,iv (gI b).2.1,iv (gI b).2.2])
theorem QpQ {d:D} (hr:RwU d []):Qah G QdM [d]=some (gIr []):=by
 rw [Qad (cf:=Qcl) rfl]
 have ll:=hr.len
 simp only [List.length_nil] at ll
 have e1:((0:Int)==0)=true:=rfl
 simp -implicitDefEqProofs (maxSteps:=9^8) only [Qcl,gIr,gI,ll,e1,toDs,allD,go_sem,reduceCtorEq,↓reduceIte,Nat.reduceEqDiff,iv]
set_option maxHeartbeats 2000000 in
theorem Qgb {d:D} {b:List Int} (hr:RwU d b) (hb:Byt b) (hn:b.length≤1000000000000):Qah G QdM [d]=some (gIr b):=by
 match b,hr,hb,hn with
 | [],hr,_,_=>exact QpQ hr
 | h :: t,hr,hb,hn =>
 rw [Qad (cf:=Qcl) rfl]
 have hd:=hr.ne (by simp)
 subst hd
 have hh:=hb.head
 have b1:=gk_b hh
 have ll:=hr.len
 simp only [List.length_cons] at ll hn
 have x1:=hr.ixn (j:=0) (by simp)
 have x2:=fun hp=>ldu hp (h :: t) (j:=0) (by simp)
 have e00:(h :: t).getD 0 0=h:=rfl
 rw [e00] at x2
 rw [show ((0:Nat):Int)=0 from rfl] at x1
 generalize List.map uv (List.drop 0 (h :: t))=X at x1 x2
 obtain ⟨g,hg⟩:∃ g,decide (h<128)=g:=⟨_,rfl⟩
 have e1:(((t.length+1:Nat):Int)==0)=false:=Qb9 (by omega)
 have e3:=xor8_g g hh
 have e4:w64 (fx g h)=fx g h:=by have:=fx_b (g:=g) hh;exact Qae (by omega) (by omega)
 have e5:w64 (fx g h-128)=gk h:=by
  have:=fx_b (g:=g) hh
  rw [Qae (by omega) (by omega)]
  unfold fx gk
  by_cases c:h<128
  ·rw [decide_eq_true c] at hg;subst hg;simp only [if_true,c];omega
  ·rw [decide_eq_false c] at hg;subst hg;simp only [if_neg c,Bool.false_eq_true,if_false]
 simp -implicitDefEqProofs only [go_sem,Option.some.injEq,Value.int.injEq] at e3
 have red:∀ r:Int×Int×Int,gI (h :: t)=r→gIr (h :: t)=.d (.tup [iv r.1,iv r.2.1,iv r.2.2]):=fun r hr=>by unfold gIr;rw [hr]
 have gc:=QjG h t
 rw [hg] at gc
 obtain ⟨k,hk⟩:∃ k:Nat,gk h=(k:Int):=⟨(gk h).toNat,by omega⟩
 rw [hk] at gc e5 b1
 rw [Int.toNat_natCast] at gc
 have hy:=fx_b (g:=g) hh
 have hsel:∀ m:Nat,(if h<128 then -1-(m:Int) else (m:Int))=if g then -1-(m:Int) else m:=fun m=>by
  rw [← hg]
  by_cases c:h<128
  ·rw [if_pos c,decide_eq_true c];rfl
  ·rw [if_neg c,decide_eq_false c];rfl
 rw [hsel] at gc
 clear hsel
 by_cases c1:(k:Int)>8
 ·rw [if_pos c1] at gc
  rw [red _ gc]
  have d1:decide ((k:Int)>8)=true:=decide_eq_true c1
  generalize fx g h=y at *
  cases g
  all_goals
   simp only [flG,Bool.false_eq_true,if_false,if_true] at e3
   simp -implicitDefEqProofs (maxSteps:=9^8) only [Qcl,ll,x1,x2,e1,hg,e3,e4,e5,d1,toDs,allD,go_sem,reduceCtorEq,↓reduceIte,Nat.reduceEqDiff,iv]
 rw [if_neg c1] at gc
 have d1:decide ((k:Int)>8)=false:=decide_eq_false c1
 by_cases c2:(t.length:Int)<k
 ·rw [if_pos c2] at gc
  rw [red _ gc]
  have d2:decide (((t.length+1:Nat):Int)≤k)=true:=decide_eq_true (by omega)
  generalize fx g h=y at *
  cases g
  all_goals
   simp only [flG,Bool.false_eq_true,if_false,if_true] at e3
   simp -implicitDefEqProofs (maxSteps:=9^8) only [Qcl,ll,x1,x2,e1,hg,e3,e4,e5,d1,d2,toDs,allD,go_sem,reduceCtorEq,↓reduceIte,Nat.reduceEqDiff,iv]
 rw [if_neg c2] at gc
 have d2:decide (((t.length+1:Nat):Int)≤k)=false:=decide_eq_false (by omega)
 have hkl:(t.take k).length=k:=by rw [List.length_take];omega
 have ht:=hb.tail.take k
 have L:=gi_loop (g:=g) (k:=k) ht (by omega) k 0 0 (by omega) (by omega)
 rw [List.drop_zero,show ((0:Nat):Int)=0 from rfl] at L
 obtain ⟨C,hC⟩:∃ C,(h :: t).map uv=C:=⟨_,rfl⟩
 have hrow:rowU (h :: t)=.row (t.length+1) C:=by rw [rowU,hC];rfl
 have t1:(1:Int).toNat=1:=rfl
 have t2:((k:Int)+1).toNat=k+1:=by omega
 have g1:((0:Int)≤1∧(1:Int)≤(k:Int)+1∧(k:Int)+1≤((t.length+1:Nat):Int))=True:=eq_true ⟨by omega,by omega,by omega⟩
 have sl:D.row (k+1-1) (List.take (k+1-1) (List.drop 1 C))=rowU (t.take k):=by
  rw [← hC,Nat.add_sub_cancel,List.map_cons,List.drop_succ_cons,List.drop_zero,← List.map_take,rowU,hkl]
 have l2:=(RwU.row (t.take k)).len
 have e8:w64 ((k:Int)+1)=(k:Int)+1:=Qae (by omega) (by omega)
 have hm:=Qsc g _ ht
 rw [hkl] at hm
 have hm64:gv g 0 (t.take k)<18446744073709551616:=Nat.lt_of_lt_of_le hm (Nat.le_trans (Nat.pow_le_pow_right (by decide) (show k≤8 by omega)) (by decide))
 have s63:=shr63 (gv g 0 (t.take k))
 have n64:=not64 (a:=((gv g 0 (t.take k):Nat):Int)) (by omega)
 simp -implicitDefEqProofs only [go_sem,Option.some.injEq,Value.int.injEq] at n64
 rw [hkl] at l2
 simp only [QsC,gi_en,hkl,go_sem] at L
 have z0:decide ((0:Int)>0)=false:=rfl
 have z1:decide ((255:Int)>0)=true:=rfl
 -- the first byte
 have third:(∃ X1 z,decide ((k:Int)>0)=true∧(∀ hp,ixaA hp 1 1 (.d (rowU (h :: t)))=some (.d (.rp X1)))∧(∀ hp,Qco hp none (.d (.rp X1))=some (.d (.v (.int .u8 z))))∧(0≤z∧z<256)∧z=t.getD 0 0)∨(decide ((k:Int)>0)=false∧k=0):=by
  by_cases c0:k=0
  ·exact .inr ⟨decide_eq_false (by omega),c0⟩
  ·left
   have hp1:1<(h :: t).length:=by rw [List.length_cons];omega
   exact ⟨_,_,decide_eq_true (by omega),fun hp=>hr.ixn (j:=1) hp1 hp,fun hp=>ldu hp (h :: t) hp1,hb.getD 1,rfl⟩
 have b9:1≤1:=Nat.le_refl 1
 clear hb hr hh b1 ht hm hy
 rw [hrow] at ll x1 ⊢
 generalize fx g h=y at *
 rcases third with ⟨X1,z,d3,x3,x4,zb,hz⟩ | ⟨d3,k0⟩
 ·rw [hrow] at x3
  have e6:=xor8_g g zb
  simp -implicitDefEqProofs only [go_sem,Option.some.injEq,Value.int.injEq] at e6
  by_cases c3:fx g z=0
  ·rw [if_pos ⟨by simpa using d3,by rw [← hz];exact c3⟩] at gc
   rw [red _ gc]
   have e7:(fx g z==0)=true:=Qkx c3
   clear gc red L s63 n64 hm64 l2
   generalize fx g z=y2 at *
   cases g
   all_goals
    simp only [flG,Bool.false_eq_true,if_false,if_true] at e3 e6
    simp -implicitDefEqProofs (maxSteps:=9^8) only [Qcl,ll,x1,x2,x3,x4,e1,hg,e3,e4,e5,e6,e7,d1,d2,d3,toDs,allD,go_sem,reduceCtorEq,↓reduceIte,Nat.reduceEqDiff,iv]
  ·rw [if_neg (fun h=>c3 (by rw [hz];exact h.2))] at gc
   have e7:(fx g z==0)=false:=Qb9 c3
   generalize fx g z=y2 at *
   generalize gv g 0 (t.take k)=M at *
   generalize t.take k=T at *
   by_cases c4:9223372036854775808≤M
   ·rw [if_pos c4] at gc
    rw [red _ gc]
    have d4:decide (((M/9223372036854775808:Nat):Int)>0)=true:=decide_eq_true (by have:=Nat.div_pos c4 (by decide);omega)
    clear gc red
    generalize ((M/9223372036854775808:Nat):Int)=q at *
    cases g
    all_goals
     simp only [flG,Bool.false_eq_true,if_false,if_true] at e3 e6 L
     simp -implicitDefEqProofs (maxSteps:=9^8) only [Qcl,ll,l2,g1,t1,t2,sl,L,s63,x1,x2,x3,x4,e1,hg,e3,e4,e5,e6,e7,e8,d1,d2,d3,d4,toDs,allD,go_sem,reduceCtorEq,↓reduceIte,Nat.reduceEqDiff,iv]
   ·rw [if_neg c4] at gc
    rw [red _ gc]
    have d4:decide (((M/9223372036854775808:Nat):Int)>0)=false:=decide_eq_false (by rw [Nat.div_eq_of_lt (by omega)];decide)
    have w1:w64 (M:Int)=M:=Qae (by omega) (by omega)
    have w2:w64 (18446744073709551615-(M:Int)) = -1-M:=by rw [w64_hi (by omega) (by omega)];omega
    clear gc red
    generalize ((M/9223372036854775808:Nat):Int)=q at *
    cases g
    all_goals
     simp only [flG,Bool.false_eq_true,if_false,if_true] at e3 e6 L ⊢
     simp -implicitDefEqProofs (maxSteps:=9^8) only [Qcl,ll,l2,g1,t1,t2,sl,L,s63,n64,w1,w2,z0,z1,x1,x2,x3,x4,e1,hg,e3,e4,e5,e6,e7,e8,d1,d2,d3,d4,toDs,allD,go_sem,reduceCtorEq,↓reduceIte,Nat.reduceEqDiff,iv]
 ·rw [if_neg (fun h=>by have:=h.1;omega)] at gc
  generalize gv g 0 (t.take k)=M at *
  generalize t.take k=T at *
  by_cases c4:9223372036854775808≤M
  ·rw [if_pos c4] at gc
   rw [red _ gc]
   have d4:decide (((M/9223372036854775808:Nat):Int)>0)=true:=decide_eq_true (by have:=Nat.div_pos c4 (by decide);omega)
   clear gc red
   generalize ((M/9223372036854775808:Nat):Int)=q at *
   cases g
   all_goals
    simp only [flG,Bool.false_eq_true,if_false,if_true] at e3 L
    simp -implicitDefEqProofs (maxSteps:=9^8) only [Qcl,ll,l2,g1,t1,t2,sl,L,s63,x1,x2,e1,hg,e3,e4,e5,e8,d1,d2,d3,d4,toDs,allD,go_sem,reduceCtorEq,↓reduceIte,Nat.reduceEqDiff,iv]
  ·rw [if_neg c4] at gc
   rw [red _ gc]
   have d4:decide (((M/9223372036854775808:Nat):Int)>0)=false:=decide_eq_false (by rw [Nat.div_eq_of_lt (by omega)];decide)
   have w1:w64 (M:Int)=M:=Qae (by omega) (by omega)
   have w2:w64 (18446744073709551615-(M:Int)) = -1-M:=by rw [w64_hi (by omega) (by omega)];omega
   clear gc red
   generalize ((M/9223372036854775808:Nat):Int)=q at *
   cases g
   all_goals
    simp only [flG,Bool.false_eq_true,if_false,if_true] at e3 L ⊢
    simp -implicitDefEqProofs (maxSteps:=9^8) only [Qcl,ll,l2,g1,t1,t2,sl,L,s63,n64,w1,w2,z0,z1,x1,x2,e1,hg,e3,e4,e5,e8,d1,d2,d3,d4,toDs,allD,go_sem,reduceCtorEq,↓reduceIte,Nat.reduceEqDiff,iv]
end Go.AM

/- ref01.GetInt; both counts. -/
namespace Go.AM
open Go Go.RowKit
variable [Its]
theorem bSame_ne {d e:D} {l m:List Int} (h1:RwU d l) (h2:RwU e m) (hne:l.length≠m.length):Qah G Qcv [d,e]=some (.d (bv false)):=by
 rw [Qad (cf:=Qdb) rfl]
 have l1:=h1.len
 have l2:=h2.len
 have e1:((l.length:Int) != (m.length:Int))=true:=QeL (by omega)
 simp -implicitDefEqProofs (maxSteps:=9^8) only [Qdb,l1,l2,e1,go_sem,reduceCtorEq,↓reduceIte,Nat.reduceEqDiff,iv,bv]
/-! ### ref01.GetInt -/
def Qin (d:D) (h k m:Int) (i:Int):St:=mkS [(0,.d d),(5,ai h),(6,ai k),(7,ai m),(8,ai i)] []
def gri_en (d:D) (h k m:Int):St:=mkS [(0,.d d),(5,ai h),(6,ai k),(7,ai m)] []
def QnF:St:=mkS [(2,ai 0),(3,ai 0),(4,ai 2)] []
theorem Qru      {d:D} {h:Int} {b:List Int} (hr:RwU d b) (hb:Byt b) (hn:b.length≤1000000000000) {k:Nat} (hk:k+1≤b.length) {g:Bool} (hg:decide (h<128)=g):∀ (j i m:Nat),i+j=k→m<9223372036854775808 →
    X G (.loop QaW) (Qin d h k m ((i+1:Nat):Int))=if 9223372036854775808≤gv g m (((b.drop 1).take k).drop i) then some (.r,QnF) else some (.x 0,gri_en d h k (gv g m (((b.drop 1).take k).drop i):Nat))
  | 0,i,m,h1,hm=>by
    have hlen:((b.drop 1).take k).length=k:=by rw [List.length_take,List.length_drop];omega
    have e1:decide (((i+1:Nat):Int)≤(k:Int))=false:=decide_eq_false (by omega)
    rw [Qag,List.drop_eq_nil_of_le (by omega),gv,if_neg (by omega)]
    generalize ((i+1:Nat):Int)=i1 at *
    simp -implicitDefEqProofs (maxSteps:=9^8) only [QaW,Qin,gri_en,e1,go_sem,reduceCtorEq,↓reduceIte,Nat.reduceEqDiff,iv]
  | j+1,i,m,h1,hm=>by
    have hlen:((b.drop 1).take k).length=k:=by rw [List.length_take,List.length_drop];omega
    have hi:i+1<b.length:=by omega
    have e1:decide (((i+1:Nat):Int)≤(k:Int))=true:=decide_eq_true (by omega)
    have e2:w64 (((i+1:Nat):Int)+1)=((i+1+1:Nat):Int):=by rw [Qae (by omega) (by omega)];rfl
    have x1:=hr.ixn hi
    have x2:=fun hp=>ldu hp b hi
    have hb1:=hb.getD (i+1)
    have hel:((b.drop 1).take k).getD i 0=b.getD (i+1) 0:=by
      rw [List.getD_eq_getElem?_getD,List.getD_eq_getElem?_getD,List.getElem?_take,if_pos (by omega),List.getElem?_drop,Nat.add_comm]
    have hdr:((b.drop 1).take k).drop i=b.getD (i+1) 0 :: ((b.drop 1).take k).drop (i+1):=by
      rw [List.drop_eq_getElem_cons (by omega),← hel,List.getD_eq_getElem?_getD,List.getElem?_eq_getElem (by omega)];rfl
    rw [hdr,gv]
    generalize b.getD (i+1) 0=x at *
    have f:=fx_b (g:=g) hb1
    have e3:w64 x=x:=Qae (by omega) (by omega)
    have e4:h<128→w64 (255-x)=fx g x:=fun c=>by
      rw [decide_eq_true c] at hg;subst hg
      rw [Qae (by omega) (by omega)];rfl
    have e5:¬ h<128→fx g x=x:=fun c=>by
      rw [decide_eq_false c] at hg;subst hg;rfl
    by_cases c:36028797018963967<(m:Int)
    · have hov : 9223372036854775808 ≤ gv g (256 * m + (fx g x).toNat) (((b.drop 1).take k).drop (i + 1)) := by
        rw [Qle]
        have h256:1≤256^(((b.drop 1).take k).drop (i+1)).length:=Nat.one_le_pow _ _ (by decide)
        have:=Nat.le_mul_of_pos_right (256*m+(fx g x).toNat) h256
        omega
      rw [if_pos hov,Qag]
      have d1:decide ((m:Int)>36028797018963967)=true:=decide_eq_true c
      generalize ((i+1:Nat):Int)=i1 at *
      generalize (b.drop (i+1)).map uv=XX at *
      clear hov hdr hel hlen
      by_cases hc:h<128
      · have d2:decide (h<128)=true:=decide_eq_true hc
        have e4:=e4 hc
        simp -implicitDefEqProofs (maxSteps:=9^8) only [QaW,Qin,QnF,x1,x2,e1,e3,e4,d1,d2,go_sem,reduceCtorEq,↓reduceIte,Nat.reduceEqDiff,iv]
      · have d2:decide (h<128)=false:=decide_eq_false hc
        simp -implicitDefEqProofs (maxSteps:=9^8) only [QaW,Qin,QnF,x1,x2,e1,e3,d1,d2,go_sem,reduceCtorEq,↓reduceIte,Nat.reduceEqDiff,iv]
    · have d1:decide ((m:Int)>36028797018963967)=false:=decide_eq_false c
      have e6:w64 (256*(m:Int))=256*m:=Qae (by omega) (by omega)
      have e7:w64 (256*(m:Int)+fx g x)=((256*m+(fx g x).toNat:Nat):Int):=by rw [Qae (by omega) (by omega)];omega
      have ih:=Qru hr hb hn hk hg j (i+1) (256*m+(fx g x).toNat) (by omega) (by omega)
      rw [← ih]
      have hgo:X G QaW (Qin d h k m ((i+1:Nat):Int))=some (.n,Qin d h k ((256*m+(fx g x).toNat:Nat):Int) ((i+1+1:Nat):Int)):=by
        clear ih hdr hel hlen f
        generalize ((256*m+(fx g x).toNat:Nat):Int)=m2 at *
        generalize ((i+1:Nat):Int)=i1 at *
        generalize ((i+1+1:Nat):Int)=i2 at *
        generalize (b.drop (i+1)).map uv=XX at *
        by_cases hc:h<128
        · have d2:decide (h<128)=true:=decide_eq_true hc
          have e4:=e4 hc
          simp -implicitDefEqProofs (maxSteps:=9^8) only [QaW,Qin,x1,x2,e1,e2,e3,e4,e6,e7,d1,d2,go_sem,reduceCtorEq,↓reduceIte,Nat.reduceEqDiff,iv]
        · have d2:decide (h<128)=false:=decide_eq_false hc
          rw [e5 hc] at e7
          simp -implicitDefEqProofs (maxSteps:=9^8) only [QaW,Qin,x1,x2,e1,e2,e3,e6,e7,d1,d2,go_sem,reduceCtorEq,↓reduceIte,Nat.reduceEqDiff,iv]
      rw [Qag,hgo,Option.bind_some,if_pos rfl]
theorem QpR {d:D} (hr:RwU d []):Qah G Qca [d]=some (gIr []):=by
 rw [Qad (cf:=QaE) rfl]
 have ll:=hr.len
 simp only [List.length_nil] at ll
 have e1:((0:Int)==0)=true:=rfl
 simp -implicitDefEqProofs (maxSteps:=9^8) only [QaE,gIr,gI,ll,e1,toDs,allD,go_sem,reduceCtorEq,↓reduceIte,Nat.reduceEqDiff,iv]
set_option maxHeartbeats 2000000 in
theorem QhL {d:D} {b:List Int} (hr:RwU d b) (hb:Byt b) (hn:b.length≤1000000000000):Qah G Qca [d]=some (gIr b):=by
 match b,hr,hb,hn with
 | [],hr,_,_=>exact QpR hr
 | h :: t,hr,hb,hn =>
 rw [Qad (cf:=QaE) rfl]
 have hd:=hr.ne (by simp)
 subst hd
 have hh:=hb.head
 have b1:=gk_b hh
 have ll:=hr.len
 simp only [List.length_cons] at ll hn
 have x1:=hr.ixn (j:=0) (by simp)
 have x2:=fun hp=>ldu hp (h :: t) (j:=0) (by simp)
 have e00:(h :: t).getD 0 0=h:=rfl
 rw [e00] at x2
 rw [show ((0:Nat):Int)=0 from rfl] at x1
 generalize List.map uv (List.drop 0 (h :: t))=X0 at x1 x2
 obtain ⟨g,hg⟩:∃ g,decide (h<128)=g:=⟨_,rfl⟩
 have e1:(((t.length+1:Nat):Int)==0)=false:=Qb9 (by omega)
 have e2:w64 h=h:=Qae (by omega) (by omega)
 have red:∀ r:Int×Int×Int,gI (h :: t)=r→gIr (h :: t)=.d (.tup [iv r.1,iv r.2.1,iv r.2.2]):=fun r hr=>by unfold gIr;rw [hr]
 have gc:=QjG h t
 rw [hg] at gc
 obtain ⟨k,hk⟩:∃ k:Nat,gk h=(k:Int):=⟨(gk h).toNat,by omega⟩
 have e3:w64 (h-128)=h-128:=Qae (by omega) (by omega)
 have e4:h<128→w64 (127-h)=k:=fun c=>by rw [Qae (by omega) (by omega),← hk];unfold gk;rw [if_pos c]
 have e5:¬ h<128→h-128=k:=fun c=>by rw [← hk];unfold gk;rw [if_neg c]
 have hk8:(k:Int)>8↔h<119∨h>136:=by rw [← hk];unfold gk;split<;>omega
 rw [hk] at gc b1
 rw [Int.toNat_natCast] at gc
 obtain ⟨C,hC⟩:∃ C,(h :: t).map uv=C:=⟨_,rfl⟩
 have hrow:rowU (h :: t)=.row (t.length+1) C:=by rw [rowU,hC];rfl
 by_cases c1:(k:Int)>8
 ·rw [if_pos c1] at gc
  rw [red _ gc]
  rw [hrow] at ll x1 ⊢
  clear gc red hb hr
  by_cases q1:h<119
  ·have d1:decide (h<119)=true:=decide_eq_true q1
   simp -implicitDefEqProofs (maxSteps:=9^8) only [QaE,ll,x1,x2,e1,e2,d1,toDs,allD,go_sem,reduceCtorEq,↓reduceIte,Nat.reduceEqDiff,iv]
  ·have d1:decide (h<119)=false:=decide_eq_false q1
   have d2:decide (h>136)=true:=decide_eq_true (by omega)
   simp -implicitDefEqProofs (maxSteps:=9^8) only [QaE,ll,x1,x2,e1,e2,d1,d2,toDs,allD,go_sem,reduceCtorEq,↓reduceIte,Nat.reduceEqDiff,iv]
 rw [if_neg c1] at gc
 have d1:decide (h<119)=false:=decide_eq_false (by omega)
 have d2:decide (h>136)=false:=decide_eq_false (by omega)
 have e8:w64 ((k:Int)+1)=(k:Int)+1:=Qae (by omega) (by omega)
 by_cases c2:(t.length:Int)<k
 ·rw [if_pos c2] at gc
  rw [red _ gc]
  rw [hrow] at ll x1 ⊢
  have d3:decide (((t.length+1:Nat):Int)<(k:Int)+1)=true:=decide_eq_true (by omega)
  clear gc red hb hr
  by_cases hc:h<128
  ·have d4:decide (h<128)=true:=decide_eq_true hc
   have e4:=e4 hc
   simp -implicitDefEqProofs (maxSteps:=9^8) only [QaE,ll,x1,x2,e1,e2,e3,e4,e8,d1,d2,d3,d4,toDs,allD,go_sem,reduceCtorEq,↓reduceIte,Nat.reduceEqDiff,iv]
  ·have d4:decide (h<128)=false:=decide_eq_false hc
   have e3:=e3.trans (e5 hc)
   simp -implicitDefEqProofs (maxSteps:=9^8) only [QaE,ll,x1,x2,e1,e2,e3,e8,d1,d2,d3,d4,toDs,allD,go_sem,reduceCtorEq,↓reduceIte,Nat.reduceEqDiff,iv]
 rw [if_neg c2] at gc
 have d3:decide (((t.length+1:Nat):Int)<(k:Int)+1)=false:=decide_eq_false (by omega)
 have hkl:(t.take k).length=k:=by rw [List.length_take];omega
 have ht:=hb.tail.take k
 have hm:=Qsc g _ ht
 rw [hkl] at hm
 have L:=Qru hr hb (by rw [List.length_cons];omega) (k:=k) (by rw [List.length_cons];omega) hg k 0 0 (by omega) (by omega)
 rw [List.drop_succ_cons,List.drop_zero,List.drop_zero,show ((0:Nat):Int)=0 from rfl,show ((0+1:Nat):Int)=1 from rfl] at L
 have t2:((k:Int)+1).toNat=k+1:=by omega
 have g1:((0:Int)≤0∧(0:Int)≤(k:Int)+1∧(k:Int)+1≤((t.length+1:Nat):Int))=True:=eq_true ⟨by omega,by omega,by omega⟩
 have sl:D.row (k+1) (List.take (k+1) C)=rowU (h :: t.take k):=by
  rw [← hC,List.map_cons,List.take_succ_cons,← List.map_take,rowU,List.length_cons,hkl];rfl
 -- what the number is
 obtain ⟨M,hM⟩:∃ M,gv g 0 (t.take k)=M:=⟨_,rfl⟩
 rw [hM] at gc L hm
 by_cases c4:9223372036854775808≤M
 ·rw [if_pos c4] at L
  have gc':gI (h :: t)=(0,0,2):=by
   rw [gc];split
   ·rfl
   ·first | rfl | rw [if_pos c4]
  rw [red _ gc']
  rw [hrow] at ll x1 L ⊢
  simp only [Qin,QnF,go_sem] at L
  clear gc gc' red hb hr
  by_cases hc:h<128
  ·have d4:decide (h<128)=true:=decide_eq_true hc
   have e4:=e4 hc
   simp -implicitDefEqProofs (maxSteps:=9^8) only [QaE,ll,x1,x2,L,e1,e2,e3,e4,e8,d1,d2,d3,d4,toDs,allD,go_sem,reduceCtorEq,↓reduceIte,Nat.reduceEqDiff,iv]
  ·have d4:decide (h<128)=false:=decide_eq_false hc
   have e3:=e3.trans (e5 hc)
   simp -implicitDefEqProofs (maxSteps:=9^8) only [QaE,ll,x1,x2,L,e1,e2,e3,e8,d1,d2,d3,d4,toDs,allD,go_sem,reduceCtorEq,↓reduceIte,Nat.reduceEqDiff,iv]
 ·rw [if_neg c4] at L
  obtain ⟨n,hn'⟩:∃ n:Int,n=(if h<128 then -1-(M:Int) else (M:Int)):=⟨_,rfl⟩
  have nI:I64 n:=by rw [hn'];split<;>constructor<;>omega
  have gi:=Qjw nI
  have em:mag n=M:=by
   unfold mag
   rw [hn']
   by_cases c:h<128
   ·rw [if_pos c,if_pos (by omega)];omega
   ·rw [if_neg c,if_neg (by omega)];omega
  have wI':w64 (-1-(M:Int)) = -1-M:=Qae (by omega) (by omega)
  have hselT:h<128→n = -1-(M:Int):=fun c=>by rw [hn',if_pos c]
  have hselF:¬ h<128→n=(M:Int):=fun c=>by rw [hn',if_neg c]
  rw [if_neg c4,← hn'] at gc
  have fin:∃ z:Bool,Qah G Qcv [rowU (wI n),rowU (h :: t.take k)]=some (.d (bv z))∧gI (h :: t)=if z then (n,(k:Int)+1,0) else (0,0,2):=by
   by_cases c3:0<(k:Int)∧fx g (t.getD 0 0)=0
   ·refine ⟨false,bSame_ne (RwU.row _) (RwU.row _) ?_,by rw [gc,if_pos c3];rfl⟩
    have hl:(wI n).length=dl (mag n)+1:=by
     have:wI n=flp n (128+(dl (mag n):Nat)) :: dwn n (dl (mag n)):=rfl
     rw [this,List.length_cons,QlI]
    rw [hl,List.length_cons,hkl,em]
    have hM2:M<256^(k-1):=by
     obtain ⟨k',rfl⟩:∃ k',k=k'+1:=⟨k-1,by have:=c3.1;omega⟩
     match t,hkl,ht,hM,c3 with
     | [],hkl,_,_,_=>simp at hkl
     | x :: r,hkl,ht,hM,c3 =>
      have hx:(x :: r).getD 0 0=x:=rfl
      rw [List.take_succ_cons,gv] at hM
      rw [hx] at c3
      rw [c3.2] at hM
      rw [List.take_succ_cons] at hkl ht
      have:=Qsc g _ ht.tail
      rw [List.length_cons] at hkl
      rw [← hM]
      simp only [Nat.mul_zero,Nat.zero_add,Int.toNat_zero]
      rw [show k'+1-1=(r.take k').length by omega]
      exact this
    have:=dl_lt_of hM2 (by omega)
    have:=c3.1
    omega
   ·refine ⟨true, ?_,by rw [gc,if_neg c3];rfl⟩
    have hsub:(t.take k).getD 0 0=t.getD 0 0∨k=0:=by
     by_cases k0:k=0
     ·exact .inr k0
     ·left
      rw [List.getD_eq_getElem?_getD,List.getD_eq_getElem?_getD,List.getElem?_take,if_pos (by omega)]
    have:=wI_gv (h:=h) (t:=t.take k) hh ht (by rw [hkl,hk,Int.toNat_natCast]) (by rw [hk];omega) (by
     rw [hg]
     rcases hsub with e | e
     ·by_cases k0:k=0
      ·left;rw [hk,k0];rfl
      ·right
       rw [e]
       exact fun h0=>c3 ⟨by omega,h0⟩
     ·left;rw [hk,e];rfl) (by rw [hg,hM];omega)
    rw [hg,hM,← hn'] at this
    rw [this]
    exact Qmq (RwU.row _) (RwU.row _) (by rw [List.length_cons,hkl];omega)
  obtain ⟨z,gs,gf⟩:=fin
  clear gc ht hm em
  rw [red _ gf]
  rw [hrow] at ll x1 L ⊢
  simp only [Qin,gri_en,go_sem] at L
  simp only [rU,iv] at gi
  have hrw:D.row (wI n).length ((wI n).map uv)=rowU (wI n):=rfl
  have cc1:=Qjm (wI n)
  have cc2:=fun ks=>QaN ks (wI n)
  have cc3:=QeA (wI n)
  clear red hb hr gf
  rw [rowU] at gs
  by_cases hc:h<128
  ·have d4:decide (h<128)=true:=decide_eq_true hc
   have e4:=e4 hc
   have wI':=wI'.trans (hselT hc).symm
   generalize wI n=W at *
   cases z
   all_goals
    simp only [bv] at gs
    simp -implicitDefEqProofs (maxSteps:=9^8) only [QaE,ll,x1,x2,L,gi,gs,g1,t2,sl,wI',cc1,cc2,cc3,e1,e2,e3,e4,e8,d1,d2,d3,d4,Bool.false_eq_true,if_false,if_true,toDs,allD,go_sem,reduceCtorEq,↓reduceIte,Nat.reduceEqDiff,iv]
  ·have d4:decide (h<128)=false:=decide_eq_false hc
   have e3:=e3.trans (e5 hc)
   rw [← hselF hc] at L
   generalize wI n=W at *
   cases z
   all_goals
    simp only [bv] at gs
    simp -implicitDefEqProofs (maxSteps:=9^8) only [QaE,ll,x1,x2,L,gi,gs,g1,t2,sl,cc1,cc2,cc3,e1,e2,e3,e8,d1,d2,d3,d4,Bool.false_eq_true,if_false,if_true,toDs,allD,go_sem,reduceCtorEq,↓reduceIte,Nat.reduceEqDiff,iv]
end Go.AM

/- Both counts; both GetInts. -/
namespace Go.AM
open Go Go.RowKit
def tup3 (r:Int×Int×Int):R:=.d (.tup [iv r.1,iv r.2.1,iv r.2.2])
theorem Qlr (b:List Int):gIr b=tup3 (gI b):=rfl
def rcI (b:List Int):Int×Int×Int:=if (cntI b).2.2≠0 then (0,0,(cntI b).2.2) else cntI b
theorem cutU {b:List Int} {C:List D} (hC:b.map uv=C) {l:Nat} (hl:l≤b.length):D.row (b.length-l) (List.take (b.length-l) (List.drop l C))=rowU (b.drop l):=by
 rw [← hC,← List.map_drop,List.take_of_length_le (by rw [List.length_map,List.length_drop];omega),rowU,List.length_drop]
variable [Its]
theorem Qpo {d:D} {b:List Int} (hr:RwU d b) (hb:Byt b) (hn:b.length≤1000000000000):Qah G Qkm [d,iv 1]=some (tup3 (cntI b)):=by
 rw [Qad (cf:=QfD) rfl]
 have g:=Qgb hr hb hn
 rw [Qlr] at g
 have ll:=hr.len
 have ok:=Qj6 hb
 obtain ⟨⟨n,u,e⟩,hg⟩:∃ r,gI b=r:=⟨_,rfl⟩
 unfold cntI
 rw [hg] at g ok ⊢
 simp only [tup3,iv] at g ok
 dsimp only at ok ⊢
 by_cases c0:e=0
 ·obtain ⟨o1,o2,o3,o4⟩:=ok c0
  obtain ⟨i1,i2⟩:=o1
  subst c0
  have z0:((0:Int) != 0)=false:=rfl
  rw [if_neg (by simp)]
  by_cases c1:n<0
  ·have d1:decide (n<0)=true:=decide_eq_true c1
   rw [if_pos c1]
   simp -implicitDefEqProofs (maxSteps:=9^8) only [QfD,tup3,g,z0,d1,toDs,allD,go_sem,reduceCtorEq,↓reduceIte,Nat.reduceEqDiff,iv]
  ·have d1:decide (n<0)=false:=decide_eq_false c1
   rw [if_neg c1]
   have w1:w64 ((b.length:Int)-u)=(b.length:Int)-u:=Qae (by omega) (by omega)
   have w2:w64 (((b.length:Int)-u).tdiv 1)=(b.length:Int)-u:=by rw [Int.tdiv_one];exact w1
   have z1:=Qjr (b:=(1:Int)) (by omega)
   by_cases c2:n>(b.length:Int)-u
   ·have d2:decide (n>(b.length:Int)-u)=true:=decide_eq_true c2
    rw [if_pos c2]
    simp -implicitDefEqProofs (maxSteps:=9^8) only [QfD,tup3,g,ll,z0,z1,w1,w2,d1,d2,toDs,allD,go_sem,reduceCtorEq,↓reduceIte,Nat.reduceEqDiff,iv]
   ·have d2:decide (n>(b.length:Int)-u)=false:=decide_eq_false c2
    rw [if_neg c2]
    simp -implicitDefEqProofs (maxSteps:=9^8) only [QfD,tup3,g,ll,z0,z1,w1,w2,d1,d2,toDs,allD,go_sem,reduceCtorEq,↓reduceIte,Nat.reduceEqDiff,iv]
 ·have z0:(e != 0)=true:=QeL c0
  rw [if_pos c0]
  simp -implicitDefEqProofs (maxSteps:=9^8) only [QfD,tup3,g,z0,toDs,allD,go_sem,reduceCtorEq,↓reduceIte,Nat.reduceEqDiff,iv]
theorem Qp1 {d:D} {b:List Int} (hr:RwU d b) (hb:Byt b) (hn:b.length≤1000000000000):Qah G QfU [d,iv 1]=some (tup3 (rcI b)):=by
 rw [Qad (cf:=QbW) rfl]
 have g:=QhL hr hb hn
 rw [Qlr] at g
 have ll:=hr.len
 have ok:=Qj6 hb
 have er:=gI_err (b:=b)
 obtain ⟨⟨n,u,e⟩,hg⟩:∃ r,gI b=r:=⟨_,rfl⟩
 rw [hg] at g ok er
 simp only [tup3,iv] at g ok
 dsimp only at ok er
 by_cases c0:e=0
 ·obtain ⟨o1,o2,o3,o4⟩:=ok c0
  obtain ⟨i1,i2⟩:=o1
  subst c0
  have z0:((0:Int) != 0)=false:=rfl
  by_cases c1:n<0
  ·have d1:decide (n<0)=true:=decide_eq_true c1
   have hv:rcI b=(0,0,2):=by simp [rcI,cntI,hg,c1]
   rw [hv]
   simp -implicitDefEqProofs (maxSteps:=9^8) only [QbW,tup3,g,z0,d1,toDs,allD,go_sem,reduceCtorEq,↓reduceIte,Nat.reduceEqDiff,iv]
  ·have d1:decide (n<0)=false:=decide_eq_false c1
   have w1:w64 ((b.length:Int)-u)=(b.length:Int)-u:=Qae (by omega) (by omega)
   have w3:w64 (n*1)=n:=by rw [Int.mul_one];exact Qae (by omega) (by omega)
   by_cases c2:n>(b.length:Int)-u
   ·have d2:decide (n>(b.length:Int)-u)=true:=decide_eq_true c2
    have hv:rcI b=(0,0,3):=by
     have hc:cntI b=(n,u,3):=by unfold cntI;rw [hg];dsimp only;rw [if_neg (fun h=>h rfl),if_neg c1,if_pos c2]
     unfold rcI;rw [hc];rfl
    rw [hv]
    by_cases c3:n>(b.length:Int)
    ·have d3:decide (n>(b.length:Int))=true:=decide_eq_true c3
     simp -implicitDefEqProofs (maxSteps:=9^8) only [QbW,tup3,g,ll,z0,w1,w3,d1,d2,d3,toDs,allD,go_sem,reduceCtorEq,↓reduceIte,Nat.reduceEqDiff,iv]
    ·have d3:decide (n>(b.length:Int))=false:=decide_eq_false c3
     simp -implicitDefEqProofs (maxSteps:=9^8) only [QbW,tup3,g,ll,z0,w1,w3,d1,d2,d3,toDs,allD,go_sem,reduceCtorEq,↓reduceIte,Nat.reduceEqDiff,iv]
   ·have d2:decide (n>(b.length:Int)-u)=false:=decide_eq_false c2
    have d3:decide (n>(b.length:Int))=false:=decide_eq_false (by omega)
    have hv:rcI b=(n,u,0):=by
     have hc:cntI b=(n,u,0):=by unfold cntI;rw [hg];dsimp only;rw [if_neg (fun h=>h rfl),if_neg c1,if_neg c2]
     unfold rcI;rw [hc];rfl
    rw [hv]
    simp -implicitDefEqProofs (maxSteps:=9^8) only [QbW,tup3,g,ll,z0,w1,w3,d1,d2,d3,toDs,allD,go_sem,reduceCtorEq,↓reduceIte,Nat.reduceEqDiff,iv]
 ·have z0:(e != 0)=true:=QeL c0
  have hv:rcI b=(0,0,e):=by unfold rcI cntI;rw [hg];dsimp only;rw [if_pos c0,if_pos c0]
  rw [hv]
  simp -implicitDefEqProofs (maxSteps:=9^8) only [QbW,tup3,g,z0,toDs,allD,go_sem,reduceCtorEq,↓reduceIte,Nat.reduceEqDiff,iv]
/-! ### ref01.GetInts -/
def QfJ (d:D) (n at_:Int) (acc:List Int) (k:Int):St:=mkS [(0,.d d),(5,ai n),(6,ai at_),(8,gA 41 acc),(9,ai k)] (gH 41 acc)
def QmL (at_:Int) (acc:List Int):St:=mkS [(6,ai at_),(8,gA 41 acc)] (gH 41 acc)
def QlX (e:Int) (acc:List Int):St:=mkS [(2,.d (.z true)),(3,ai 0),(4,ai e)] (gH 41 acc)
theorem rgi_stop {D0:D} {n at_:Int} {acc:List Int}:X G Qau (QfJ D0 n at_ acc n)=some (.x 0,QmL at_ acc):=by
 have e1:decide (n<n)=false:=lt_f (by omega)
 by_cases h0:acc=[]
 ·subst h0
  simp -implicitDefEqProofs (maxSteps:=9^8) only [Qau,QfJ,QmL,QcI,QcH,Qaa,e1,go_sem,reduceCtorEq,↓reduceIte,Nat.reduceEqDiff,iv]
 ·simp -implicitDefEqProofs (maxSteps:=9^8) only [Qau,QfJ,QmL,Qf6 h0,Qf9 h0,Qak,Qaa,e1,go_sem,reduceCtorEq,↓reduceIte,Nat.reduceEqDiff,iv]
theorem QrH      {b:List Int} {C:List D} (hC:b.map uv=C) (hb:Byt b) (hn:b.length≤1000000000000) {n:Nat} (hnb:n≤b.length):∀ (j k at_:Nat) (acc:List Int),k+j=n→acc.length=k→at_≤b.length →
    ((rdL b j at_ acc).2.2=0→X G (.loop Qau) (QfJ (.row b.length C) n at_ acc k)=some (.x 0,QmL (rdL b j at_ acc).2.1 (rdL b j at_ acc).1)) ∧
    ((rdL b j at_ acc).2.2≠0→∃ acc',X G (.loop Qau) (QfJ (.row b.length C) n at_ acc k)=some (.r,QlX (rdL b j at_ acc).2.2 acc'))
  | 0,k,at_,acc,h,hk,ha=>by
    have:k=n:=by omega
    subst this
    exact ⟨fun _=>by rw [Qag,rgi_stop];rfl,fun h0=>absurd rfl h0⟩
  | j+1,k,at_,acc,h,hk,ha=>by
    have g:=QhL (RwU.row (b.drop at_)) (hb.drop at_) (by rw [List.length_drop];omega)
    rw [Qlr] at g
    have ok:=Qj6 (hb.drop at_)
    rw [List.length_drop] at ok
    have e1:decide ((k:Int)<(n:Int))=true:=lt_t (by omega)
    have e2:w64 ((k:Int)+1)=((k+1:Nat):Int):=by rw [Qae (by omega) (by omega)];rfl
    have cu:=cutU hC ha
    have g1:((0:Int)≤(at_:Int)∧(at_:Int)≤((b.length:Nat):Int)∧((b.length:Nat):Int)≤((b.length:Nat):Int))=True:=eq_true ⟨by omega,by omega,by omega⟩
    have f1:=Qi2 (l:=acc) (by omega)
    have f2:=QhR
    obtain ⟨⟨x,u,e⟩,hg⟩:∃ r,gI (b.drop at_)=r:=⟨_,rfl⟩
    have er:rdL b (j+1) at_ acc=if e≠0 then ([],0,e) else rdL b j (at_+u.toNat) (acc++[x]):=by
      rw [rdL,hg]
    rw [hg] at g ok
    rw [er]
    simp only [tup3,iv] at g ok
    try dsimp only at ok
    generalize rowU (b.drop at_)=RU at *
    by_cases c0:e=0
    · obtain ⟨o1,o2,o3,o4⟩:=ok c0
      subst c0
      rw [if_neg (by simp)]
      have ih:=QrH hC hb hn hnb j (k+1) (at_+u.toNat) (acc++[x]) (by omega) (by simp;omega) (by omega)
      have z0:((0:Int) != 0)=false:=rfl
      have e3:w64 ((at_:Int)+u)=((at_+u.toNat:Nat):Int):=by rw [Qae (by omega) (by omega)];omega
      have hgo:X G Qau (QfJ (.row b.length C) n at_ acc k)=some (.n,QfJ (.row b.length C) n ((at_+u.toNat:Nat):Int) (acc++[x]) ((k+1:Nat):Int)):=by
        clear ih er hg ok
        generalize ((at_+u.toNat:Nat):Int)=at2 at *
        generalize ((k+1:Nat):Int)=k2 at *
        by_cases h0:acc=[]
        · subst h0
          simp -implicitDefEqProofs (maxSteps:=9^8) only [Qau,QfJ,QcI,QcH,Qls,Qk5,List.nil_append,QeT,g,cu,g1,z0,e1,e2,e3,f2,Qa2,D.one,allD,Qak,Qaa,go_sem,reduceCtorEq,↓reduceIte,Nat.reduceEqDiff,iv]
        · simp -implicitDefEqProofs (maxSteps:=9^8) only [Qau,QfJ,Qf6 h0,Qf9 h0,QhF,QhH,Qea,Qai,g,cu,g1,z0,e1,e2,e3,f1,f2,Qa2,D.one,allD,Qak,Qaa,go_sem,reduceCtorEq,↓reduceIte,Nat.reduceEqDiff,iv]
      rw [Qag,hgo,Option.bind_some,if_pos rfl]
      exact ih
    · rw [if_pos c0]
      have z0:(e != 0)=true:=QeL c0
      refine ⟨fun h=>absurd h c0,fun _=>⟨acc, ?_⟩⟩
      rw [Qag]
      try dsimp only
      by_cases h0:acc=[]
      · subst h0
        simp -implicitDefEqProofs (maxSteps:=9^8) only [Qau,QfJ,QlX,QcI,QcH,g,cu,g1,z0,e1,Qak,Qaa,go_sem,reduceCtorEq,↓reduceIte,Nat.reduceEqDiff,iv]
      · simp -implicitDefEqProofs (maxSteps:=9^8) only [Qau,QfJ,QlX,Qf6 h0,Qf9 h0,g,cu,g1,z0,e1,Qak,Qaa,go_sem,reduceCtorEq,↓reduceIte,Nat.reduceEqDiff,iv]
def gIsR (b:List Int):R:=.d (.tup [dg (gIs b).1,iv (gIs b).2.1,iv (gIs b).2.2])
theorem QmW {d:D} {b:List Int} (hr:RwU d b) (hb:Byt b) (hn:b.length≤1000000000000):Qah G Qfd [d]=some (gIsR b):=by
 rw [Qad (cf:=Qbp) rfl]
 have g:=Qp1 hr hb hn
 have co:=QiI hb
 have ze:∀ e:Int,gIs b=([],0,e)→gIsR b=.d (.tup [.z true,iv 0,iv e]):=fun e h=>by unfold gIsR;rw [h];rfl
 by_cases c0:(cntI b).2.2=0
 ·obtain ⟨a1,a2,a3,a4,a5,a6⟩:=co c0
  have e:rcI b=cntI b:=by unfold rcI;rw [if_neg (by rw [c0];simp)]
  have eg:gIs b=rdL b (cntI b).1.toNat (cntI b).2.1.toNat []:=by unfold gIs;rw [if_neg (by rw [c0];simp)]
  rw [e] at g
  have hne:b≠[]:=fun h0=>by
   rw [h0] at a2;exact absurd a2 (by decide)
  have hd:=hr.ne hne
  subst hd
  obtain ⟨C,hC⟩:∃ C,b.map uv=C:=⟨_,rfl⟩
  have hrow:rowU b=.row b.length C:=by rw [rowU,hC]
  obtain ⟨L1,L2⟩:=QrH hC hb hn (n:=(cntI b).1.toNat) (by omega) (cntI b).1.toNat 0 (cntI b).2.1.toNat [] (by omega) rfl (by omega)
  rw [← eg] at L1 L2
  rw [hrow] at g ⊢
  obtain ⟨⟨n,u,e'⟩,hc⟩:∃ r,cntI b=r:=⟨_,rfl⟩
  rw [hc] at g c0 a3 a5 L1 L2
  dsimp only at c0 a3 a5 L1 L2
  subst c0
  rw [show ((n.toNat:Nat):Int)=n by omega,show ((u.toNat:Nat):Int)=u by omega,show ((0:Nat):Int)=0 from rfl] at L1 L2
  simp only [tup3,iv] at g
  have z0:((0:Int) != 0)=false:=rfl
  by_cases c1:(gIs b).2.2=0
  ·have L:=L1 c1
   unfold gIsR
   rw [c1]
   obtain ⟨⟨l,at_,e⟩,hq⟩:∃ r,gIs b=r:=⟨_,rfl⟩
   rw [hq] at L ⊢
   dsimp only at L ⊢
   clear L1 L2 eg ze hr hb
   by_cases h0:l=[]
   ·subst h0
    have d0:dg []=.z true:=rfl
    simp only [QfJ,QmL,QcI,QcH,Qaa,go_sem] at L
    simp -implicitDefEqProofs (maxSteps:=9^8) only [Qbp,g,z0,L,d0,Qaa,Qak,toDs,allD,go_sem,reduceCtorEq,↓reduceIte,Nat.reduceEqDiff,iv]
   ·simp only [QfJ,QmL,QcI,QcH,Qf6 h0,Qf9 h0,Qaa,go_sem] at L
    have d0:=Qhr h0
    simp -implicitDefEqProofs (maxSteps:=9^8) only [Qbp,g,z0,L,d0,rowI,Qaa,Qak,QbK,toDs,toD,allD,go_sem,reduceCtorEq,↓reduceIte,Nat.reduceEqDiff,iv]
  ·obtain ⟨acc',L⟩:=L2 c1
   have hz:gIs b=([],0,(gIs b).2.2):=Qnr c1
   rw [ze _ hz]
   generalize (gIs b).2.2=e at *
   clear L1 L2 eg ze hr hb hz
   by_cases h0:acc'=[]
   ·subst h0
    simp only [QfJ,QlX,QcI,QcH,Qaa,go_sem] at L
    simp -implicitDefEqProofs (maxSteps:=9^8) only [Qbp,g,z0,L,Qaa,Qak,toDs,allD,go_sem,reduceCtorEq,↓reduceIte,Nat.reduceEqDiff,iv]
   ·simp only [QfJ,QlX,QcI,QcH,Qf6 h0,Qf9 h0,Qaa,go_sem] at L
    simp -implicitDefEqProofs (maxSteps:=9^8) only [Qbp,g,z0,L,Qaa,Qak,toDs,allD,go_sem,reduceCtorEq,↓reduceIte,Nat.reduceEqDiff,iv]
 ·have e:rcI b=(0,0,(cntI b).2.2):=by unfold rcI;rw [if_pos c0]
  have eg:gIs b=([],0,(cntI b).2.2):=by unfold gIs;rw [if_pos c0]
  rw [ze _ eg]
  rw [e] at g
  generalize (cntI b).2.2=e' at *
  have z0:(e' != 0)=true:=QeL c0
  simp only [tup3,iv] at g
  simp -implicitDefEqProofs (maxSteps:=9^8) only [Qbp,g,z0,Qaa,toDs,allD,go_sem,reduceCtorEq,↓reduceIte,Nat.reduceEqDiff,iv]
end Go.AM

/- wire.GetInts: the reader's boxes. -/
namespace Go.AM
open Go Go.RowKit
def bxRd (x:A):Obj:=⟨0,0,[x],false⟩
def cloW:A:=.fn Qdu [.ptr [2,0] 0,.ptr [3,0] 0]
theorem ld1w (a:A):Qab none 0 [a]=some a:=rfl
theorem st1w (a b:A):Qac 0 [a] [b]=some [a]:=rfl
theorem hw0:wire_GetInts_i0.holds [[2,0],[3,0]]=true:=by decide
theorem hw1:wire_GetInts_i1.holds [[2,0],[3,0]]=true:=by decide
def Qim (d:D) (n at_:Int) (acc:List Int) (k:Int):St:=mkS [(6,ai at_),(8,cloW),(9,gA 40 acc),(25,ai n),(26,ai k)] (gH 40 acc++[([2,0],bxRd (.d d)),([3,0],bxRd (ai at_))])
def Qsr (d:D) (at_:Int) (acc:List Int):St:=mkS [(6,ai at_),(9,gA 40 acc)] (gH 40 acc++[([2,0],bxRd (.d d)),([3,0],bxRd (ai at_))])
def QmG (d:D) (e:Int) (at_:Int) (acc:List Int):St:=mkS [(2,.d (.z true)),(3,ai 0),(4,ai e)] (gH 40 acc++[([2,0],bxRd (.d d)),([3,0],bxRd (ai at_))])
theorem QhN (i:Nat) (xs:List A):extA i (.tup xs)=xs[i]?:=rfl
theorem asd1 (x:List D):(decide (0<1)&&(some x).isSome)=true:=rfl
variable [Its]
theorem wg_stop {D0:D} {n at_:Int} {acc:List Int}:X G QaO (Qim D0 n at_ acc n)=some (.x 0,Qsr D0 at_ acc):=by
 have e1:decide (n<n)=false:=lt_f (by omega)
 by_cases h0:acc=[]
 ·subst h0
  simp -implicitDefEqProofs (maxSteps:=9^8) only [QaO,Qim,Qsr,cloW,bxRd,QcI,QcH,List.nil_append,List.cons_append,Qaa,Qam,List.cons.injEq,e1,go_sem,reduceCtorEq,↓reduceIte,Nat.reduceEqDiff,iv]
 ·simp -implicitDefEqProofs (maxSteps:=9^8) only [QaO,Qim,Qsr,cloW,bxRd,Qf6 h0,Qf9 h0,List.nil_append,List.cons_append,Qak,Qaa,Qam,List.cons.injEq,e1,go_sem,reduceCtorEq,↓reduceIte,Nat.reduceEqDiff,iv]
theorem wg_go {b:List Int} {CC:List D} (hC:b.map uv=CC) (hb:Byt b) (hn:b.length≤1000000000000) {n k at_:Nat} {acc:List Int} (hk:k<n) (hnb:n≤b.length) (hal:acc.length=k) (ha:at_≤b.length) (h0:(gI (b.drop at_)).2.2=0) :
    X G QaO (Qim (.row b.length CC) n at_ acc k)=some (.n,Qim (.row b.length CC) n ((at_+(gI (b.drop at_)).2.1.toNat:Nat):Int) (acc++[(gI (b.drop at_)).1]) ((k+1:Nat):Int)):=by
  have g:=Qgb (RwU.row (b.drop at_)) (hb.drop at_) (by rw [List.length_drop];omega)
  rw [Qlr] at g
  have ok:=Qj6 (hb.drop at_) h0
  rw [List.length_drop] at ok
  have e1:decide ((k:Int)<(n:Int))=true:=lt_t (by omega)
  have e2:w64 ((k:Int)+1)=((k+1:Nat):Int):=by rw [Qae (by omega) (by omega)];rfl
  have cu:=cutU hC ha
  have g1:((0:Int)≤(at_:Int)∧(at_:Int)≤((b.length:Nat):Int)∧((b.length:Nat):Int)≤((b.length:Nat):Int))=True:=eq_true ⟨by omega,by omega,by omega⟩
  have f1:=Qi2 (l:=acc) (by omega)
  have f2:=QhR
  obtain ⟨⟨x,u,e⟩,hg⟩:∃ r,gI (b.drop at_)=r:=⟨_,rfl⟩
  rw [hg] at g ok h0 ⊢
  simp only [tup3,iv] at g
  try dsimp only at ok h0 ⊢
  subst h0
  generalize rowU (b.drop at_)=RU at *
  have z0:((0:Int) != 0)=false:=rfl
  have e3:w64 ((at_:Int)+u)=((at_+u.toNat:Nat):Int):=by rw [Qae (by omega) (by omega)];omega
  clear hg ok
  generalize ((at_+u.toNat:Nat):Int)=at2 at *
  generalize ((k+1:Nat):Int)=k2 at *
  by_cases h0:acc=[]
  · subst h0
    simp -implicitDefEqProofs (maxSteps:=9^8) only [QaO,wire_GetInts_i1,Qim,cloW,bxRd,QcI,QcH,Qls,Qk5,List.nil_append,List.cons_append,QeT,g,cu,g1,z0,e1,e2,e3,f2,Qa2,D.one,allD,Qak,C.holds,QhN,asd1,ld1w,st1w,Qaa,Qam,Bool.not_true,Bool.not_false,List.map_cons,List.map_nil,List.length_nil,List.length_cons,Nat.zero_add,List.cons.injEq,go_sem,reduceCtorEq,↓reduceIte,Nat.reduceEqDiff,iv]
  · simp -implicitDefEqProofs (maxSteps:=9^8) only [QaO,wire_GetInts_i1,Qim,cloW,bxRd,Qf6 h0,Qf9 h0,QhF,QhH,List.nil_append,List.cons_append,Qea,Qai,QbK,arrI,g,cu,g1,z0,e1,e2,e3,f1,f2,Qa2,D.one,allD,Qak,C.holds,QhN,asd1,ld1w,st1w,Qaa,Qam,Bool.not_true,Bool.not_false,List.map_cons,List.map_nil,List.length_nil,List.length_cons,Nat.zero_add,List.cons.injEq,go_sem,reduceCtorEq,↓reduceIte,Nat.reduceEqDiff,iv]
theorem wg_err {b:List Int} {CC:List D} (hC:b.map uv=CC) (hb:Byt b) (hn:b.length≤1000000000000) {n k at_:Nat} {acc:List Int} (hk:k<n) (hnb:n≤b.length) (hal:acc.length=k) (ha:at_≤b.length) (h0:(gI (b.drop at_)).2.2≠0) :
    X G QaO (Qim (.row b.length CC) n at_ acc k)=some (.r,QmG (.row b.length CC) (gI (b.drop at_)).2.2 at_ acc):=by
  have g:=Qgb (RwU.row (b.drop at_)) (hb.drop at_) (by rw [List.length_drop];omega)
  rw [Qlr] at g
  obtain ⟨er1,er2,_⟩:=gI_err h0
  have e1:decide ((k:Int)<(n:Int))=true:=lt_t (by omega)
  have cu:=cutU hC ha
  have g1:((0:Int)≤(at_:Int)∧(at_:Int)≤((b.length:Nat):Int)∧((b.length:Nat):Int)≤((b.length:Nat):Int))=True:=eq_true ⟨by omega,by omega,by omega⟩
  obtain ⟨⟨x,u,e⟩,hg⟩:∃ r,gI (b.drop at_)=r:=⟨_,rfl⟩
  rw [hg] at g er1 er2 h0 ⊢
  simp only [tup3,iv] at g
  try dsimp only at er1 er2 h0 ⊢
  subst er1 er2
  generalize rowU (b.drop at_)=RU at *
  have z0:(e != 0)=true:=QeL h0
  have e3:w64 ((at_:Int)+0)=(at_:Int):=by rw [Qae (by omega) (by omega)];omega
  clear hg
  by_cases h0:acc=[]
  · subst h0
    simp -implicitDefEqProofs (maxSteps:=9^8) only [QaO,wire_GetInts_i1,Qim,QmG,cloW,bxRd,QcI,QcH,List.nil_append,List.cons_append,g,cu,g1,z0,e1,e3,Qa2,D.one,allD,Qak,C.holds,QhN,asd1,ld1w,st1w,Qaa,Qam,Bool.not_true,Bool.not_false,List.map_cons,List.map_nil,List.length_nil,List.length_cons,Nat.zero_add,List.cons.injEq,go_sem,reduceCtorEq,↓reduceIte,Nat.reduceEqDiff,iv]
  · simp -implicitDefEqProofs (maxSteps:=9^8) only [QaO,wire_GetInts_i1,Qim,QmG,cloW,bxRd,Qf6 h0,Qf9 h0,List.nil_append,List.cons_append,QbK,arrI,g,cu,g1,z0,e1,e3,Qa2,D.one,allD,Qak,C.holds,QhN,asd1,ld1w,st1w,Qaa,Qam,Bool.not_true,Bool.not_false,List.map_cons,List.map_nil,List.length_nil,List.length_cons,Nat.zero_add,List.cons.injEq,go_sem,reduceCtorEq,↓reduceIte,Nat.reduceEqDiff,iv]
theorem wg_loop {b:List Int} {CC:List D} (hC:b.map uv=CC) (hb:Byt b) (hn:b.length≤1000000000000) {n:Nat} (hnb:n≤b.length):∀ (j k at_:Nat) (acc:List Int),k+j=n→acc.length=k→at_≤b.length →
    ((rdL b j at_ acc).2.2=0→X G (.loop QaO) (Qim (.row b.length CC) n at_ acc k)=some (.x 0,Qsr (.row b.length CC) (rdL b j at_ acc).2.1 (rdL b j at_ acc).1)) ∧
    ((rdL b j at_ acc).2.2≠0→∃ at2 acc',X G (.loop QaO) (Qim (.row b.length CC) n at_ acc k)=some (.r,QmG (.row b.length CC) (rdL b j at_ acc).2.2 at2 acc'))
  | 0,k,at_,acc,h,hk,ha=>by
    have:k=n:=by omega
    subst this
    exact ⟨fun _=>by rw [Qag,wg_stop];rfl,fun h0=>absurd rfl h0⟩
  | j+1,k,at_,acc,h,hk,ha=>by
    have er:rdL b (j+1) at_ acc=if (gI (b.drop at_)).2.2≠0 then ([],0,(gI (b.drop at_)).2.2) else rdL b j (at_+(gI (b.drop at_)).2.1.toNat) (acc++[(gI (b.drop at_)).1]):=rfl
    rw [er]
    by_cases c0:(gI (b.drop at_)).2.2=0
    · have ok:=Qj6 (hb.drop at_) c0
      rw [List.length_drop] at ok
      rw [if_neg (by rw [c0];simp)]
      have ih:=wg_loop hC hb hn hnb j (k+1) (at_+(gI (b.drop at_)).2.1.toNat) (acc++[(gI (b.drop at_)).1]) (by omega) (by simp;omega) (by omega)
      rw [Qag,wg_go hC hb hn (by omega) hnb hk ha c0,Option.bind_some,if_pos rfl]
      exact ih
    · rw [if_pos c0]
      refine ⟨fun h=>absurd h c0,fun _=>⟨at_,acc, ?_⟩⟩
      rw [Qag,wg_err hC hb hn (by omega) hnb hk ha c0]
      rfl
theorem QnK {d:D} {b:List Int} (hr:RwU d b) (hb:Byt b) (hn:b.length≤1000000000000):Qah G Qiq [d]=some (gIsR b):=by
 rw [Qad (cf:=wire_GetInts) rfl]
 have g:=Qpo hr hb hn
 have co:=QiI hb
 have ze:∀ e:Int,gIs b=([],0,e)→gIsR b=.d (.tup [.z true,iv 0,iv e]):=fun e h=>by unfold gIsR;rw [h];rfl
 by_cases c0:(cntI b).2.2=0
 ·obtain ⟨a1,a2,a3,a4,a5,a6⟩:=co c0
  have eg:gIs b=rdL b (cntI b).1.toNat (cntI b).2.1.toNat []:=by unfold gIs;rw [if_neg (by rw [c0];simp)]
  have hne:b≠[]:=fun h0=>by
   rw [h0] at a2;exact absurd a2 (by decide)
  have hd:=hr.ne hne
  subst hd
  obtain ⟨CC,hC⟩:∃ C,b.map uv=C:=⟨_,rfl⟩
  have hrow:rowU b=.row b.length CC:=by rw [rowU,hC]
  obtain ⟨L1,L2⟩:=wg_loop hC hb hn (n:=(cntI b).1.toNat) (by omega) (cntI b).1.toNat 0 (cntI b).2.1.toNat [] (by omega) rfl (by omega)
  rw [← eg] at L1 L2
  rw [hrow] at g ⊢
  obtain ⟨⟨n,u,e'⟩,hc⟩:∃ r,cntI b=r:=⟨_,rfl⟩
  rw [hc] at g c0 a3 a5 L1 L2
  dsimp only at c0 a3 a5 L1 L2
  subst c0
  rw [show ((n.toNat:Nat):Int)=n by omega,show ((u.toNat:Nat):Int)=u by omega,show ((0:Nat):Int)=0 from rfl] at L1 L2
  simp only [tup3,iv] at g
  have z0:((0:Int) != 0)=false:=rfl
  by_cases c1:(gIs b).2.2=0
  ·have L:=L1 c1
   unfold gIsR
   rw [c1]
   obtain ⟨⟨l,at_,e⟩,hq⟩:∃ r,gIs b=r:=⟨_,rfl⟩
   rw [hq] at L ⊢
   dsimp only at L ⊢
   clear L1 L2 eg ze hr hb
   by_cases h0:l=[]
   ·subst h0
    have d0:dg []=.z true:=rfl
    simp -implicitDefEqProofs only [Qim,Qsr,cloW,bxRd,QcI,QcH,List.nil_append,List.cons_append,Qaa,go_sem] at L
    simp -implicitDefEqProofs (maxSteps:=9^8) only [wire_GetInts,wire_GetInts_i0,bxRd,cloW,g,z0,L,d0,C.holds,QhN,asd1,ld1w,st1w,Qaa,Qam,Qak,toDs,toD,allD,List.cons.injEq,List.length_cons,List.length_nil,List.nil_append,List.cons_append,go_sem,reduceCtorEq,↓reduceIte,Nat.reduceEqDiff,iv]
   ·simp -implicitDefEqProofs only [Qim,Qsr,cloW,bxRd,QcI,QcH,Qf6 h0,Qf9 h0,List.nil_append,List.cons_append,Qaa,go_sem] at L
    have d0:=Qhr h0
    simp -implicitDefEqProofs (maxSteps:=9^8) only [wire_GetInts,wire_GetInts_i0,bxRd,cloW,g,z0,L,d0,rowI,C.holds,QhN,asd1,ld1w,st1w,Qaa,Qam,Qak,QbK,toDs,toD,allD,List.cons.injEq,List.length_cons,List.length_nil,List.nil_append,List.cons_append,go_sem,reduceCtorEq,↓reduceIte,Nat.reduceEqDiff,iv]
  ·obtain ⟨at2,acc',L⟩:=L2 c1
   rw [ze _ (Qnr c1)]
   generalize (gIs b).2.2=e at *
   clear L1 L2 eg ze hr hb
   by_cases h0:acc'=[]
   ·subst h0
    simp -implicitDefEqProofs only [Qim,QmG,cloW,bxRd,QcI,QcH,List.nil_append,List.cons_append,Qaa,go_sem] at L
    simp -implicitDefEqProofs (maxSteps:=9^8) only [wire_GetInts,wire_GetInts_i0,bxRd,cloW,g,z0,L,C.holds,QhN,asd1,ld1w,st1w,Qaa,Qam,Qak,toDs,toD,allD,List.cons.injEq,List.length_cons,List.length_nil,List.nil_append,List.cons_append,go_sem,reduceCtorEq,↓reduceIte,Nat.reduceEqDiff,iv]
   ·simp -implicitDefEqProofs only [Qim,QmG,cloW,bxRd,QcI,QcH,Qf6 h0,Qf9 h0,List.nil_append,List.cons_append,Qaa,go_sem] at L
    simp -implicitDefEqProofs (maxSteps:=9^8) only [wire_GetInts,wire_GetInts_i0,bxRd,cloW,g,z0,L,C.holds,QhN,asd1,ld1w,st1w,Qaa,Qam,Qak,toDs,toD,allD,List.cons.injEq,List.length_cons,List.length_nil,List.nil_append,List.cons_append,go_sem,reduceCtorEq,↓reduceIte,Nat.reduceEqDiff,iv]
 ·have eg:gIs b=([],0,(cntI b).2.2):=by unfold gIs;rw [if_pos c0]
  rw [ze _ eg]
  obtain ⟨⟨n,u,e'⟩,hc⟩:∃ r,cntI b=r:=⟨_,rfl⟩
  rw [hc] at g c0 ⊢
  dsimp only at c0 ⊢
  have z0:(e' != 0)=true:=QeL c0
  simp only [tup3,iv] at g
  simp -implicitDefEqProofs (maxSteps:=9^8) only [wire_GetInts,g,z0,Qaa,toDs,allD,go_sem,reduceCtorEq,↓reduceIte,Nat.reduceEqDiff,iv]
end Go.AM

/- Valid: integer, ref04, rat, ref05, poly, ref06, at canonical numbers. -/
namespace Go.AM
open Go Go.RowKit

theorem top_getD {l:List Int} (h:Top l) {n:Nat} (hn:l.length=n+1):l.getD n 0≠0:=by
 have hne:l≠[]:=fun h0=>by rw [h0] at hn;simp at hn
 have h1:=h hne
 rw [List.getLast_eq_getElem] at h1
 have e:l.length-1=n:=by omega
 rw [List.getD_eq_getElem?_getD,List.getElem?_eq_getElem (by omega)]
 simpa [e] using h1
theorem ubt:A.bool? (.d (.v (.tuple #[])))=none:=rfl
variable [Its]

theorem V1_spec {x:Int} (h:0≤x∧x<1000000000):Qah G QaD [iv x]=some (.d (bv false)):=by
 rw [Qad (cf:=QcW) rfl]
 have e1:decide (x<0)=false:=lt_f (by omega)
 have e2:decide (x≥1000000000)=false:=decide_eq_false (by omega)
 simp -implicitDefEqProofs (maxSteps:=9^8) only [QcW,e1,e2,go_sem,iv,bv,reduceCtorEq,↓reduceIte,Nat.reduceEqDiff]
def Qev (d:D) (f:Nat) (n i:Int):St:=mkS [(0,.d d),(1,.d (.fn f [])),(7,ai n),(8,ai i)] []
theorem ixi_go {l:List Int} {f:Nat} (hl:l.length≤1000000000000) (hf:∀ x∈l,Qah G f [iv x]=some (.d (bv false))) {i:Nat} (hi:i<l.length):X G Qal (Qev (dg l) f (l.length:Nat) i)=some (.n,Qev (dg l) f (l.length:Nat) ((i+1:Nat):Int)):=by
 have e1:decide ((i:Int)<(l.length:Int))=true:=lt_t (by omega)
 have e2:w64 ((i:Int)+1)=((i+1:Nat):Int):=by rw [Qae (by omega) (by omega)];rfl
 have x1:=(Rw.dg l).ixn hi
 have x2:=fun h=>ldv h l hi
 have g:=hf (l.getD i 0) (by rw [List.getD_eq_getElem?_getD,List.getElem?_eq_getElem hi];exact List.getElem_mem hi)
 generalize l.getD i 0=x at *
 simp only [iv,bv] at g
 simp -implicitDefEqProofs (maxSteps:=9^8) only [Qal,Qev,x1,x2,e1,e2,g,List.append_nil,go_sem,iv,bv,reduceCtorEq,↓reduceIte,Nat.reduceEqDiff]
theorem ixi_stop {l:List Int} {f:Nat}:X G Qal (Qev (dg l) f (l.length:Nat) (l.length:Nat))=some (.x 0,mkS [] []):=by
 have e1:decide ((l.length:Int)<(l.length:Int))=false:=lt_f (by omega)
 simp -implicitDefEqProofs (maxSteps:=9^8) only [Qal,Qev,e1,go_sem,iv,bv,reduceCtorEq,↓reduceIte,Nat.reduceEqDiff]
theorem Qqv {l:List Int} {f:Nat} (hl:l.length≤1000000000000) (hf:∀ x∈l,Qah G f [iv x]=some (.d (bv false))):∀ j i:Nat,i+j=l.length→X G (.loop Qal) (Qev (dg l) f (l.length:Nat) i)=some (.x 0,mkS [] [])
 | 0,i,h=>by
  have:i=l.length:=by omega
  subst this
  rw [Qag,ixi_stop];rfl
 | j+1,i,h=>by
  rw [Qag,ixi_go hl hf (by omega),Option.bind_some,if_pos rfl]
  exact Qqv hl hf j (i+1) (by omega)
theorem cti_spec {l:List Int} {f:Nat} (hl:l.length≤1000000000000) (hf:∀ x∈l,Qah G f [iv x]=some (.d (bv false))):Qah G Qb7 [dg l,.fn f []]=some (.d (bv false)):=by
 have g:Qah G QbO [dg l,.fn f []]=some (.d (iv (-1))):=by
  rw [Qad (cf:=QaQ) rfl]
  have h:=Qqv hl hf l.length 0 (by omega)
  simp only [Qev,go_sem,nc0] at h
  simp -implicitDefEqProofs (maxSteps:=9^8) only [QaQ,h,go_sem,iv,bv,reduceCtorEq,↓reduceIte,Nat.reduceEqDiff]
 rw [Qad (cf:=QaP) rfl]
 have e1:decide ((-1:Int)≥0)=false:=rfl
 simp only [iv] at g
 simp -implicitDefEqProofs (maxSteps:=9^8) only [QaP,g,e1,go_sem,iv,bv,reduceCtorEq,↓reduceIte,Nat.reduceEqDiff]
theorem QpH {b:Bool} {l:List Int} (hl:l.length≤1000000000000) (hd:Dig l) (ht:Top l) (hb:l=[]→b=false):Qah G Qdr [.agg [.v (.bool b),dg l]]=some (.d (bv true)):=by
 rw [Qad (cf:=QcD) rfl]
 have g:=cti_spec (f:=QaD) hl (fun x hx=>V1_spec (hd x hx))
 simp only [bv] at g
 by_cases h0:l=[]
 ·have hbf:=hb h0
  subst h0 hbf
  have e0:((((([]:List Int).length:Nat):Int))==0)=true:=rfl
  have e0':((0:Int)==0)=true:=rfl
  simp -implicitDefEqProofs (maxSteps:=9^8) only [QcD,ubt,g,e0,e0',go_sem,Qac,Qab,iv,bv,reduceCtorEq,↓reduceIte,Nat.reduceEqDiff]
 ·have hp:0<l.length:=List.length_pos_iff.2 h0
  obtain ⟨n,hn⟩:∃ n,l.length=n+1:=⟨l.length-1,by omega⟩
  have e1:((l.length:Int)==0)=false:=Qb9 (by omega)
  have e2:decide ((l.length:Int)>0)=true:=gt_t (by omega)
  have e3:w64 ((l.length:Int)-1)=(n:Int):=by rw [Qae (by omega) (by omega)];omega
  have x1:=(Rw.dg l).ixn (j:=n) (by omega)
  have x2:=fun h=>ldv h l (j:=n) (by omega)
  have e4:(l.getD n 0 != 0)=true:=QeL (top_getD ht hn)
  simp -implicitDefEqProofs (maxSteps:=9^8) only [QcD,ubt,g,e1,e2,e3,e4,x1,x2,go_sem,Qac,Qab,iv,bv,reduceCtorEq,↓reduceIte,Nat.reduceEqDiff]

end Go.AM

/- Valid at any digits: integer, ref04, rat, ref05. -/
namespace Go.AM
open Go Go.RowKit

def dOk (x:Int):Bool:=decide (0≤x)&&decide (x<1000000000)
def vI (b:Bool) (l:List Int):Bool:=l.all dOk&&(if l=[] then !b else l.getD (l.length-1) 0 != 0)
theorem dOk_t {x:Int} (h:dOk x=true):0≤x∧x<1000000000:=by simpa [dOk] using h
theorem dOk_f {x:Int} (h:dOk x=false):x<0∨(¬ x<0∧1000000000≤x):=by
 by_cases h0:x<0
 ·exact .inl h0
 ·right
  refine ⟨h0, ?_⟩
  rcases Int.lt_or_le x 1000000000 with h1 | h1
  ·exfalso
   have:dOk x=true:=by simp [dOk];omega
   rw [this] at h;cases h
  ·exact h1
theorem Qn8 (l:List Int) (i:Nat) (hi:i<l.length):(l.drop i).all dOk=(dOk (l.getD i 0)&&(l.drop (i+1)).all dOk):=by
 have e:l.drop i=l.getD i 0 :: l.drop (i+1):=by
  rw [List.drop_eq_getElem_cons hi,List.getD_eq_getElem?_getD,List.getElem?_eq_getElem hi];rfl
 rw [e,List.all_cons]
theorem Rw.one {d:D} {l:List Int} (h:Rw d l):A.one (.d d)=true:=by
 rcases h with rfl | rfl
 ·exact QnO l
 ·rfl
theorem Rw.dcl {d:D} {l:List Int} (h:Rw d l):QaA (.d d)=[.d d]:=by
  rcases h with rfl | rfl
  · cases l<;>rfl
  · rfl
theorem Rw.donee {d:D} {l:List Int} (h:Rw d l):d.one=true:=by
  rcases h with rfl | rfl
  · cases l<;>rfl
  · rfl
def bxd (b:Bool) (d:D):Obj:=⟨0,0,[.d (.v (.bool b)),.d d],false⟩
variable [Its]

theorem V1_gen (x:Int):Qah G QaD [iv x]=some (.d (bv (!dOk x))):=by
 cases h:dOk x with
 | true=>exact V1_spec (dOk_t h)
 | false =>
  rw [Qad (cf:=QcW) rfl]
  rcases dOk_f h with h | ⟨h0,h⟩
  ·have e1:decide (x<0)=true:=lt_t h
   simp -implicitDefEqProofs (maxSteps:=9^8) only [QcW,e1,go_sem,iv,bv,reduceCtorEq,↓reduceIte,Nat.reduceEqDiff]
  ·have e1:decide (x<0)=false:=lt_f (by omega)
   have e2:decide (x≥1000000000)=true:=ge_t (by omega)
   simp -implicitDefEqProofs (maxSteps:=9^8) only [QcW,e1,e2,go_sem,iv,bv,reduceCtorEq,↓reduceIte,Nat.reduceEqDiff]
theorem ixg_go {d:D} {l:List Int} (hr:Rw d l) (hl:l.length≤1000000000000) {i:Nat} (hi:i<l.length) (hx:dOk (l.getD i 0)=true):X G Qal (Qev d QaD (l.length:Nat) i)=some (.n,Qev d QaD (l.length:Nat) ((i+1:Nat):Int)):=by
 have e1:decide ((i:Int)<(l.length:Int))=true:=lt_t (by omega)
 have e2:w64 ((i:Int)+1)=((i+1:Nat):Int):=by rw [Qae (by omega) (by omega)];rfl
 have x1:=hr.ixn hi
 have x2:=fun h=>ldv h l hi
 have g:=V1_gen (l.getD i 0)
 rw [hx] at g
 generalize l.getD i 0=x at *
 simp only [iv,bv,Bool.not_true] at g
 simp -implicitDefEqProofs (maxSteps:=9^8) only [Qal,Qev,x1,x2,e1,e2,g,List.append_nil,go_sem,iv,bv,reduceCtorEq,↓reduceIte,Nat.reduceEqDiff]
theorem ixg_bad {d:D} {l:List Int} (hr:Rw d l) (hl:l.length≤1000000000000) {i:Nat} (hi:i<l.length) (hx:dOk (l.getD i 0)=false):X G Qal (Qev d QaD (l.length:Nat) i)=some (.r,mkS [(4,ai i)] []):=by
 have e1:decide ((i:Int)<(l.length:Int))=true:=lt_t (by omega)
 have x1:=hr.ixn hi
 have x2:=fun h=>ldv h l hi
 have g:=V1_gen (l.getD i 0)
 rw [hx] at g
 generalize l.getD i 0=x at *
 simp only [iv,bv,Bool.not_false] at g
 simp -implicitDefEqProofs (maxSteps:=9^8) only [Qal,Qev,x1,x2,e1,g,List.append_nil,go_sem,iv,bv,reduceCtorEq,↓reduceIte,Nat.reduceEqDiff]
theorem ixg_stop {d:D} {n:Nat}:X G Qal (Qev d QaD n n)=some (.x 0,mkS [] []):=by
 have e1:decide ((n:Int)<(n:Int))=false:=lt_f (by omega)
 simp -implicitDefEqProofs (maxSteps:=9^8) only [Qal,Qev,e1,go_sem,iv,bv,reduceCtorEq,↓reduceIte,Nat.reduceEqDiff]
theorem QrD      {d:D} {l:List Int} (hr:Rw d l) (hl:l.length≤1000000000000):∀ j i:Nat,i+j=l.length →
    ((l.drop i).all dOk=true∧X G (.loop Qal) (Qev d QaD (l.length:Nat) i)=some (.x 0,mkS [] [])) ∨
    ((l.drop i).all dOk=false∧∃ k:Nat,X G (.loop Qal) (Qev d QaD (l.length:Nat) i)=some (.r,mkS [(4,ai k)] []))
  | 0,i,h=>by
    have:i=l.length:=by omega
    subst this
    rw [Qag,ixg_stop]
    exact .inl ⟨by rw [List.drop_length];rfl,rfl⟩
  | j+1,i,h=>by
    rw [Qn8 l i (by omega)]
    cases hx:dOk (l.getD i 0) with
    | true =>
      rw [Qag,ixg_go hr hl (by omega) hx,Option.bind_some,if_pos rfl,Bool.true_and]
      exact QrD hr hl j (i+1) (by omega)
    | false =>
      rw [Qag,ixg_bad hr hl (by omega) hx,Bool.false_and]
      exact .inr ⟨rfl,i,rfl⟩
theorem ctg_spec {d:D} {l:List Int} (hr:Rw d l) (hl:l.length≤1000000000000):Qah G Qb7 [d,.fn QaD []]=some (.d (bv (!(l.all dOk)))):=by
  have ll:=hr.len
  rw [Qad (cf:=QaP) rfl]
  rcases QrD hr hl l.length 0 (by omega) with ⟨h1,h⟩ | ⟨h1,k,h⟩
  · have g : Qah   G QbO                        [d, .fn QaD               []] = some (.d (iv (-1))) := by
      rw [Qad (cf:=QaQ) rfl]
      simp only [Qev,go_sem,nc0] at h
      simp -implicitDefEqProofs (maxSteps:=9^8) only [QaQ,ll,h,go_sem,iv,bv,reduceCtorEq,↓reduceIte,Nat.reduceEqDiff]
    rw [List.drop_zero] at h1
    rw [h1]
    have e1:decide ((-1:Int)≥0)=false:=rfl
    simp only [iv] at g
    simp -implicitDefEqProofs (maxSteps:=9^8) only [QaP,g,e1,go_sem,iv,bv,reduceCtorEq,↓reduceIte,Nat.reduceEqDiff]
  · have g : Qah   G QbO                        [d, .fn QaD               []] = some (.d (iv k)) := by
      rw [Qad (cf:=QaQ) rfl]
      simp only [Qev,go_sem,nc0] at h
      simp -implicitDefEqProofs (maxSteps:=9^8) only [QaQ,ll,h,go_sem,iv,bv,reduceCtorEq,↓reduceIte,Nat.reduceEqDiff]
    rw [List.drop_zero] at h1
    rw [h1]
    have e1:decide ((k:Int)≥0)=true:=ge_t (by omega)
    simp only [iv] at g
    simp -implicitDefEqProofs (maxSteps:=9^8) only [QaP,g,e1,go_sem,iv,bv,reduceCtorEq,↓reduceIte,Nat.reduceEqDiff]
theorem Qih {b:Bool} {d:D} {l:List Int} (hr:Rw d l) (hl:l.length≤1000000000000):Qah G Qdr [.agg [.v (.bool b),d]]=some (.d (bv (vI b l))):=by
 rw [Qad (cf:=QcD) rfl]
 have g:=ctg_spec hr hl
 have o1:=hr.one
 have o2:=hr.dcl
 have o3:=hr.donee
 have ll:=hr.len
 unfold vI
 cases ha:l.all dOk with
 | false =>
  rw [ha] at g
  simp only [bv,Bool.not_false] at g
  simp -implicitDefEqProofs (maxSteps:=9^8) only [QcD,g,o1,o2,o3,go_sem,Qac,Qab,iv,bv,reduceCtorEq,↓reduceIte,Nat.reduceEqDiff,Bool.false_and]
 | true =>
  rw [ha] at g
  simp only [bv,Bool.not_true] at g
  by_cases h0:l=[]
  ·subst h0
   have e0:((((([]:List Int).length:Nat):Int))==0)=true:=rfl
   have e0':((0:Int)==0)=true:=rfl
   have e2:decide (((([]:List Int).length:Nat):Int)>0)=false:=rfl
   have e2':decide ((0:Int)>0)=false:=rfl
   cases b<;>simp -implicitDefEqProofs (maxSteps:=9^8) only [QcD,ubt,g,ll,e0,e0',e2,e2',o1,o2,o3,go_sem,Qac,Qab,iv,bv,reduceCtorEq,↓reduceIte,Nat.reduceEqDiff,Bool.true_and]
  ·have hp:0<l.length:=List.length_pos_iff.2 h0
   obtain ⟨n,hn⟩:∃ n,l.length=n+1:=⟨l.length-1,by omega⟩
   have e1:((l.length:Int)==0)=false:=Qb9 (by omega)
   have e2:decide ((l.length:Int)>0)=true:=gt_t (by omega)
   have e3:w64 ((l.length:Int)-1)=(n:Int):=by rw [Qae (by omega) (by omega)];omega
   have x1:=hr.ixn (j:=n) (by omega)
   have x2:=fun h=>ldv h l (j:=n) (by omega)
   have en:l.length-1=n:=by omega
   rw [if_neg h0,en]
   generalize l.getD n 0=v at *
   simp -implicitDefEqProofs (maxSteps:=9^8) only [QcD,ubt,g,ll,e1,e2,e3,x1,x2,o1,o2,o3,go_sem,Qac,Qab,iv,bv,reduceCtorEq,↓reduceIte,Nat.reduceEqDiff,Bool.true_and]

/-! ### ref04.Valid -/
def Qkw (b:Bool) (d:D) (i:Int):St:=mkS [(1,.ptr [1] 0),(3,ai i)] [([1],bxd b d)]
theorem w4_go {b:Bool} {d:D} {l:List Int} (hr:Rw d l) (hl:l.length≤1000000000000) {i:Nat} (hi:i<l.length) (hx:dOk (l.getD i 0)=true):X G QaI (Qkw b d i)=some (.n,Qkw b d ((i+1:Nat):Int)):=by
 have e1:decide ((i:Int)<(l.length:Int))=true:=lt_t (by omega)
 have e2:w64 ((i:Int)+1)=((i+1:Nat):Int):=by rw [Qae (by omega) (by omega)];rfl
 have x1:=hr.ixn hi
 have x2:=fun h=>ldv h l hi
 have ll:=hr.len
 obtain ⟨h1,h2⟩:=dOk_t hx
 generalize l.getD i 0=x at *
 have c1:decide (x<0)=false:=lt_f (by omega)
 have c2:decide (x≥1000000000)=false:=decide_eq_false (by omega)
 simp -implicitDefEqProofs (maxSteps:=9^8) only [QaI,Qkw,bxd,ll,x1,x2,e1,e2,c1,c2,go_sem,Qac,Qab,iv,bv,reduceCtorEq,↓reduceIte,Nat.reduceEqDiff]
theorem w4_bad {b:Bool} {d:D} {l:List Int} (hr:Rw d l) (hl:l.length≤1000000000000) {i:Nat} (hi:i<l.length) (hx:dOk (l.getD i 0)=false):X G QaI (Qkw b d i)=some (.r,mkS [(2,.d (.v (.bool false)))] []):=by
 have e1:decide ((i:Int)<(l.length:Int))=true:=lt_t (by omega)
 have x1:=hr.ixn hi
 have x2:=fun h=>ldv h l hi
 have ll:=hr.len
 have hx':=dOk_f hx
 generalize l.getD i 0=x at *
 rcases hx' with h | ⟨h0,h⟩
 ·have c1:decide (x<0)=true:=lt_t h
  simp -implicitDefEqProofs (maxSteps:=9^8) only [QaI,Qkw,bxd,ll,x1,x2,e1,c1,go_sem,Qac,Qab,iv,bv,reduceCtorEq,↓reduceIte,Nat.reduceEqDiff]
 ·have c1:decide (x<0)=false:=lt_f (by omega)
  have c2:decide (x≥1000000000)=true:=ge_t (by omega)
  simp -implicitDefEqProofs (maxSteps:=9^8) only [QaI,Qkw,bxd,ll,x1,x2,e1,c1,c2,go_sem,Qac,Qab,iv,bv,reduceCtorEq,↓reduceIte,Nat.reduceEqDiff]
theorem w4_stop {b:Bool} {d:D} {l:List Int} (hr:Rw d l):X G QaI (Qkw b d (l.length:Nat))=some (.x 0,mkS [(1,.ptr [1] 0)] [([1],bxd b d)]):=by
 have e1:decide ((l.length:Int)<(l.length:Int))=false:=lt_f (by omega)
 have ll:=hr.len
 simp -implicitDefEqProofs (maxSteps:=9^8) only [QaI,Qkw,bxd,ll,e1,go_sem,Qac,Qab,iv,bv,reduceCtorEq,↓reduceIte,Nat.reduceEqDiff]
theorem w4_loop {b:Bool} {d:D} {l:List Int} (hr:Rw d l) (hl:l.length≤1000000000000):∀ j i:Nat,i+j=l.length →
    ((l.drop i).all dOk=true∧X G (.loop QaI) (Qkw b d i)=some (.x 0,mkS [(1,.ptr [1] 0)] [([1],bxd b d)])) ∨
    ((l.drop i).all dOk=false∧X G (.loop QaI) (Qkw b d i)=some (.r,mkS [(2,.d (.v (.bool false)))] []))
  | 0,i,h=>by
    have:i=l.length:=by omega
    subst this
    rw [Qag,w4_stop hr]
    exact .inl ⟨by rw [List.drop_length];rfl,rfl⟩
  | j+1,i,h=>by
    rw [Qn8 l i (by omega)]
    cases hx:dOk (l.getD i 0) with
    | true =>
      rw [Qag,w4_go hr hl (by omega) hx,Option.bind_some,if_pos rfl,Bool.true_and]
      exact w4_loop hr hl j (i+1) (by omega)
    | false =>
      rw [Qag,w4_bad hr hl (by omega) hx,Bool.false_and]
      exact .inr ⟨rfl,rfl⟩
theorem Qiw {b:Bool} {d:D} {l:List Int} (hr:Rw d l) (hl:l.length≤1000000000000):Qah G Qc1 [.agg [.v (.bool b),d]]=some (.d (bv (vI b l))):=by
 rw [Qad (cf:=QcP) rfl]
 have o1:=hr.one
 have o2:=hr.dcl
 have o3:=hr.donee
 have ll:=hr.len
 unfold vI
 rcases w4_loop (b:=b) hr hl l.length 0 (by omega) with ⟨h1,h⟩ | ⟨h1,h⟩
 ·rw [List.drop_zero] at h1
  rw [h1]
  simp only [Qkw,bxd,go_sem,nc0] at h
  by_cases h0:l=[]
  ·subst h0
   have e0:((((([]:List Int).length:Nat):Int))==0)=true:=rfl
   have e0':((0:Int)==0)=true:=rfl
   cases b<;>simp -implicitDefEqProofs (maxSteps:=9^8) only [QcP,ubt,h,ll,e0,e0',o1,o2,o3,go_sem,Qac,Qab,iv,bv,reduceCtorEq,↓reduceIte,Nat.reduceEqDiff,Bool.true_and]
  ·have hp:0<l.length:=List.length_pos_iff.2 h0
   obtain ⟨n,hn⟩:∃ n,l.length=n+1:=⟨l.length-1,by omega⟩
   have e1:((l.length:Int)==0)=false:=Qb9 (by omega)
   have e3:w64 ((l.length:Int)-1)=(n:Int):=by rw [Qae (by omega) (by omega)];omega
   have x1:=hr.ixn (j:=n) (by omega)
   have x2:=fun h=>ldv h l (j:=n) (by omega)
   have en:l.length-1=n:=by omega
   rw [if_neg h0,en]
   generalize l.getD n 0=v at *
   simp -implicitDefEqProofs (maxSteps:=9^8) only [QcP,ubt,h,ll,e1,e3,x1,x2,o1,o2,o3,go_sem,Qac,Qab,iv,bv,reduceCtorEq,↓reduceIte,Nat.reduceEqDiff,Bool.true_and]
 ·rw [List.drop_zero] at h1
  rw [h1]
  simp only [Qkw,bxd,go_sem,nc0] at h
  simp -implicitDefEqProofs (maxSteps:=9^8) only [QcP,h,o1,o2,o3,go_sem,Qac,Qab,iv,bv,reduceCtorEq,↓reduceIte,Nat.reduceEqDiff,Bool.false_and]
end Go.AM

/- integer.Decode, ref04.Decode. -/
namespace Go.AM
open Go Go.RowKit
def sgF (b:Bool) (l:List Int):Int:=if b then -1 else if l=[] then 0 else 1
def dcI (b:List Int):(Bool×List Int)×Int×Int :=
 if (gIs b).2.2≠0 then ((false,[]),0,(gIs b).2.2) else match (gIs b).1 with
  | []=>((false,[]),0,2)
  | s :: d=>if vI (s==-1) d=true∧sgF (s==-1) d=s then ((s==-1,d),(gIs b).2.1,0) else ((false,[]),0,2)
def dcR (b:List Int):R:=.d (.tup [.agg [.v (.bool (dcI b).1.1),if (dcI b).2.2=0 then rowI (dcI b).1.2 else .z true],iv (dcI b).2.1,iv (dcI b).2.2])
theorem Qfm {b:List Int} {e:Int} (he:e≠0) (h:dcI b=((false,[]),0,e)):dcR b=.d (.tup [.agg [.v (.bool false),.z true],iv 0,iv e]):=by
 unfold dcR;rw [h];simp only [he,if_false]
theorem Qq9 (ks:List Key):∀ l:List Int,Qdg ks (List.map A.d (List.map iv l))=true
 | []=>rfl
 | x :: l=>by
  show (true&&Qdg ks (List.map A.d (List.map iv l)))=true
  rw [Qq9 ks l];rfl
theorem rep0i (a:D):rep 0 [a]=[]:=rfl
theorem vI_val {neg:Bool} {d:List Int} (h:vI neg d=true) (hd:d≠[]):D.agg [.v (.bool neg),rowI d]=encI (if neg then -val d else val d)∧0<val d∧nd (if neg then -val d else val d)≤d.length:=by
 have hc:Dig d∧Top d:=by
  unfold vI at h
  rw [if_neg hd,Bool.and_eq_true] at h
  refine ⟨fun x hx=>dOk_t (List.all_eq_true.1 h.1 x hx),fun h0 hl=>?_⟩
  have h2:=h.2
  rw [List.getD_eq_getElem?_getD,List.getElem?_eq_getElem (by have:=List.length_pos_iff.2 hd;omega)] at h2
  rw [List.getLast_eq_getElem] at hl
  simp [hl] at h2
 obtain ⟨h1,h2⟩:=hc
 have e:=Qji h1 h2
 have h0:=QaK h1
 have hpos:0<val d:=by
  rcases Int.lt_or_eq_of_le h0 with h3 | h3
  ·exact h3
  ·exfalso
   rw [← h3] at e
   have:digs (0:Int).toNat=[]:=Qav
   rw [this] at e
   exact hd e.symm
 have e2:digs (val d).natAbs=d:=by
  have:(val d).natAbs=(val d).toNat:=by omega
  rw [this,e]
 refine ⟨?_,hpos, ?_⟩
 ·unfold encI
  cases neg
  ·simp only [Bool.false_eq_true,if_false,e2,decide_eq_false (show ¬ val d<0 by omega),Qhr hd];rfl
  ·simp only [if_true,Int.natAbs_neg,e2,decide_eq_true (show -val d<0 by omega),Qhr hd];rfl
 ·unfold nd
  cases neg
  ·simp only [Bool.false_eq_true,if_false,e2];omega
  ·simp only [if_true,Int.natAbs_neg,e2];omega
variable [Its]
theorem Qof {b:Bool} {d:D} {l:List Int} (hr:Rw d l):Qah G QdY [.agg [.v (.bool b),d]]=some (.d (iv (sgF b l))):=by
 rw [Qad (cf:=QcC) rfl]
 have ll:=hr.len
 have o1:=hr.one
 have o2:=hr.donee
 have o3:=hr.dcl
 unfold sgF
 cases b
 ·by_cases h:l=[]
  ·rw [if_pos h]
   have e4:((l.length:Int)==0)=true:=Qkx (by rw [h];rfl)
   simp -implicitDefEqProofs (maxSteps:=9^8) only [QcC,go_sem,Qac,Qab,iv,bv,ll,o1,o2,o3,e4,Bool.false_eq_true,if_false,reduceCtorEq,↓reduceIte,Nat.reduceEqDiff]
  ·rw [if_neg h]
   have e4:((l.length:Int)==0)=false:=Qb9 (by have:=List.length_pos_iff.2 h;omega)
   simp -implicitDefEqProofs (maxSteps:=9^8) only [QcC,go_sem,Qac,Qab,iv,bv,ll,o1,o2,o3,e4,Bool.false_eq_true,if_false,reduceCtorEq,↓reduceIte,Nat.reduceEqDiff]
 ·simp -implicitDefEqProofs (maxSteps:=9^8) only [QcC,go_sem,Qac,Qab,iv,bv,ll,o1,o2,o3,if_true,reduceCtorEq,↓reduceIte,Nat.reduceEqDiff]
theorem Qsb (l:List Int) (hl:l.length≤1000000000000):Qah G Qew [rowI l]=some (.d (rowI l)):=by
 rw [Qad (cf:=QdS) rfl]
 have f1:=(show (l.length*8≤bound)=True from eq_true (by simp only [bound];omega))
 have f2:List.all (l.map iv) D.one=true:=by simp [iv,D.one,A.one]
 have f3:(l.map iv).length=l.length:=List.length_map _
 have sd:∀ st,src st (.d (rowI l))=some (l.length,l.map iv):=fun st=>rfl
 rw [rowI] at *
 simp -implicitDefEqProofs (maxSteps:=9^8) only [QdS,isnA,sd,f1,f2,f3,rep0i,Qq9,allD,List.map_nil,List.length_nil,Qaa,Nat.zero_add,List.nil_append,go_sem,iv,bv,reduceCtorEq,↓reduceIte,Nat.reduceEqDiff]
set_option maxHeartbeats 1000000 in
theorem Qkk {d:D} {b:List Int} (hr:RwU d b) (hb:Byt b) (hn:b.length≤1000000000000):Qah G Qfn [d]=some (dcR b):=by
 rw [Qad (cf:=QcG) rfl]
 have g:=QnK hr hb hn
 have hln:(gIs b).2.2=0→(gIs b).1.length≤b.length:=fun h0=>by
  unfold gIs at h0 ⊢
  by_cases c:(cntI b).2.2≠0
  ·rw [if_pos c] at h0;exact absurd h0 c
  ·rw [if_neg c] at h0 ⊢
   obtain ⟨a1,a2,a3,a4,a5,a6⟩:=QiI hb (Classical.not_not.1 c)
   obtain ⟨_,r2,_,_⟩:=QqJ hb _ _ [] (by omega) (fun x hx=>by simp at hx) h0
   rw [r2]
   simp only [List.length_nil]
   omega
 have z2:rep 1 [D.v (.bool false),.z true]=[.v (.bool false),.z true]:=rfl
 by_cases c0:(gIs b).2.2=0
 ·have hln:=hln c0
  obtain ⟨⟨l,n,e⟩,hg⟩:∃ r,gIs b=r:=⟨_,rfl⟩
  unfold gIsR at g
  rw [hg] at g c0 hln
  dsimp only at g c0 hln
  subst c0
  have z0:((0:Int) != 0)=false:=rfl
  match l,hg,g,hln with
  | [],hg,g,_ =>
   have hv:dcI b=((false,[]),0,2):=by unfold dcI;rw [hg];rfl
   rw [Qfm (by decide) hv]
   have d0:dg []=.z true:=rfl
   have e1:((0:Int)==0)=true:=rfl
   rw [d0] at g
   simp only [iv] at g
   clear hg hv hr hb
   simp -implicitDefEqProofs (maxSteps:=9^8) only [QcG,g,z0,e1,z2,Qdh,QbA,toDs,toD,allD,Qaa,go_sem,Qac,Qab,iv,bv,reduceCtorEq,↓reduceIte,Nat.reduceEqDiff]
  | s :: dd,hg,g,hln =>
   rw [List.length_cons] at hln
   have hne:s :: dd≠[]:=by simp
   have hR:=Rw.row (s :: dd)
   have hl:=hR.len
   have x1:=fun hp=>hR.ixn (j:=0) (by simp) hp
   have x2:=fun hp=>ldv hp (s :: dd) (j:=0) (by simp)
   have e00:(s :: dd).getD 0 0=s:=rfl
   rw [e00] at x2
   rw [show ((0:Nat):Int)=0 from rfl] at x1
   rw [Qhr hne] at g
   generalize List.map iv (List.drop 0 (s :: dd))=X0 at x1 x2
   obtain ⟨C0,hC0⟩:∃ C,(s :: dd).map iv=C:=⟨_,rfl⟩
   have hrow:rowI (s :: dd)=.row (dd.length+1) C0:=by rw [rowI,hC0];rfl
   have t1:(1:Int).toNat=1:=rfl
   have g1:((0:Int)≤1∧(1:Int)≤((dd.length+1:Nat):Int)∧((dd.length+1:Nat):Int)≤((dd.length+1:Nat):Int))=True:=eq_true ⟨by omega,by omega,by omega⟩
   have sl:D.row (dd.length+1-1) (List.take (dd.length+1-1) (List.drop 1 C0))=rowI dd:=by
    rw [← hC0,Nat.add_sub_cancel,List.map_cons,List.drop_succ_cons,List.drop_zero,List.take_of_length_le (by rw [List.length_map];omega)];rfl
   have gC:=Qsb dd (by omega)
   have gV:=Qih (b:=s==-1) (Rw.row dd) (by omega)
   have gS:=Qof (b:=s==-1) (Rw.row dd)
   have hl':lenA (.d (.row (dd.length+1) C0))=some (dd.length+1):=rfl
   have e1:(((dd.length+1:Nat):Int)==0)=false:=Qb9 (by omega)
   rw [show D.row (s :: dd).length (List.map iv (s :: dd))=.row (dd.length+1) C0 by rw [hC0];rfl] at g
   rw [hrow] at x1
   have o1:A.one (.d (rowI dd))=true:=rfl
   have o2:(rowI dd).one=true:=rfl
   have o3:QaA (.d (rowI dd))=[.d (rowI dd)]:=rfl
   have o4:QbZ (.d (rowI dd))=some [rowI dd]:=rfl
   simp only [iv,bv] at g gV gS
   have hv0:dcI b=if vI (s==-1) dd=true∧sgF (s==-1) dd=s then ((s==-1,dd),n,0) else ((false,[]),0,2):=by unfold dcI;rw [hg];rfl
   obtain ⟨v,hvv⟩:∃ v,vI (s==-1) dd=v:=⟨_,rfl⟩
   obtain ⟨sg,hsg⟩:∃ v,sgF (s==-1) dd=v:=⟨_,rfl⟩
   rw [hvv,hsg] at hv0
   rw [hvv] at gV
   rw [hsg] at gS
   clear hg hr hb hvv hsg
   cases v
   ·rw [if_neg (by simp)] at hv0
    rw [Qfm (by decide) hv0]
    clear hv0
    generalize rowI dd=RD at *
    simp -implicitDefEqProofs (maxSteps:=9^8) only [QcG,g,gC,gV,gS,x1,x2,hl',z0,e1,z2,g1,t1,sl,o1,o2,o3,o4,Qdh,QbA,toDs,toD,allD,Qaa,go_sem,Qac,Qab,iv,bv,reduceCtorEq,↓reduceIte,Nat.reduceEqDiff]
   ·by_cases c3:sg=s
    ·have hv:dcI b=((s==-1,dd),n,0):=by rw [hv0,if_pos ⟨rfl,c3⟩]
     have z1:(sg != s)=false:=bne_f c3
     have hd:dcR b=.d (.tup [.agg [.v (.bool (s==-1)),rowI dd],iv n,iv 0]):=by unfold dcR;rw [hv];rfl
     rw [hd]
     clear hv hv0 hd
     generalize rowI dd=RD at *
     simp -implicitDefEqProofs (maxSteps:=9^8) only [QcG,g,gC,gV,gS,x1,x2,hl',z0,z1,e1,z2,g1,t1,sl,o1,o2,o3,o4,Qdh,QbA,toDs,toD,allD,Qaa,go_sem,Qac,Qab,iv,bv,reduceCtorEq,↓reduceIte,Nat.reduceEqDiff]
    ·rw [if_neg (fun h=>c3 h.2)] at hv0
     rw [Qfm (by decide) hv0]
     have z1:(sg != s)=true:=QeL c3
     clear hv0
     generalize rowI dd=RD at *
     simp -implicitDefEqProofs (maxSteps:=9^8) only [QcG,g,gC,gV,gS,x1,x2,hl',z0,z1,e1,z2,g1,t1,sl,o1,o2,o3,o4,Qdh,QbA,toDs,toD,allD,Qaa,go_sem,Qac,Qab,iv,bv,reduceCtorEq,↓reduceIte,Nat.reduceEqDiff]
 ·have hv:dcI b=((false,[]),0,(gIs b).2.2):=by unfold dcI;rw [if_pos c0]
  rw [Qfm c0 hv]
  have ge:=Qnr c0
  unfold gIsR at g
  rw [ge] at g
  dsimp only at g
  generalize (gIs b).2.2=e at *
  have z0:(e != 0)=true:=QeL c0
  have d0:dg []=.z true:=rfl
  rw [d0] at g
  simp only [iv] at g
  clear hr hb hln hv ge
  simp -implicitDefEqProofs (maxSteps:=9^8) only [QcG,g,z0,z2,Qdh,QbA,toDs,toD,allD,Qaa,go_sem,Qac,Qab,iv,bv,reduceCtorEq,↓reduceIte,Nat.reduceEqDiff]
theorem Qpp:Qah G QbG [.agg [.v (.bool false),.row 0 []]]=some (.d (iv 0)):=callX_some.2 ⟨60,by kernel_rfl⟩
theorem Qmf {b:Bool} {l:List Int} (hl:l.length≤1000000000000) (h:vI b l=true):Qah G QbG [.agg [.v (.bool b),rowI l]]=some (.d (iv (sgF b l))):=by
 by_cases h0:l=[]
 ·subst h0
  cases b
  ·exact Qpp
  ·exact absurd h (by decide)
 ·obtain ⟨e,hp,hn⟩:=vI_val h h0
  rw [e,QjB (by omega)]
  unfold sgF
  cases b
  ·simp only [Bool.false_eq_true,if_false,h0]
   rw [Int.sign_eq_one_of_pos hp]
  ·simp only [if_true]
   rw [Int.sign_eq_neg_one_of_neg (by omega)]
set_option maxHeartbeats 1000000 in
theorem Qjn {d:D} {b:List Int} (hr:RwU d b) (hb:Byt b) (hn:b.length≤1000000000000):Qah G QdR [d]=some (dcR b):=by
 rw [Qad (cf:=Qby) rfl]
 have g:=QmW hr hb hn
 have hln:(gIs b).2.2=0→(gIs b).1.length≤b.length:=fun h0=>by
  unfold gIs at h0 ⊢
  by_cases c:(cntI b).2.2≠0
  ·rw [if_pos c] at h0;exact absurd h0 c
  ·rw [if_neg c] at h0 ⊢
   obtain ⟨a1,a2,a3,a4,a5,a6⟩:=QiI hb (Classical.not_not.1 c)
   obtain ⟨_,r2,_,_⟩:=QqJ hb _ _ [] (by omega) (fun x hx=>by simp at hx) h0
   rw [r2]
   simp only [List.length_nil]
   omega
 have z2:rep 1 [D.v (.bool false),.z true]=[.v (.bool false),.z true]:=rfl
 by_cases c0:(gIs b).2.2=0
 ·have hln:=hln c0
  obtain ⟨⟨l,n,e⟩,hg⟩:∃ r,gIs b=r:=⟨_,rfl⟩
  unfold gIsR at g
  rw [hg] at g c0 hln
  dsimp only at g c0 hln
  subst c0
  have z0:((0:Int) != 0)=false:=rfl
  match l,hg,g,hln with
  | [],hg,g,_ =>
   have hv:dcI b=((false,[]),0,2):=by unfold dcI;rw [hg];rfl
   rw [Qfm (by decide) hv]
   have d0:dg []=.z true:=rfl
   have e1:((0:Int)==0)=true:=rfl
   rw [d0] at g
   simp only [iv] at g
   clear hg hv hr hb
   simp -implicitDefEqProofs (maxSteps:=9^8) only [Qby,g,z0,e1,z2,Qdh,QbA,toDs,toD,allD,Qaa,go_sem,Qac,Qab,iv,bv,reduceCtorEq,↓reduceIte,Nat.reduceEqDiff]
  | s :: dd,hg,g,hln =>
   rw [List.length_cons] at hln
   have hne:s :: dd≠[]:=by simp
   have hR:=Rw.row (s :: dd)
   have hl:=hR.len
   have x1:=fun hp=>hR.ixn (j:=0) (by simp) hp
   have x2:=fun hp=>ldv hp (s :: dd) (j:=0) (by simp)
   have e00:(s :: dd).getD 0 0=s:=rfl
   rw [e00] at x2
   rw [show ((0:Nat):Int)=0 from rfl] at x1
   rw [Qhr hne] at g
   generalize List.map iv (List.drop 0 (s :: dd))=X0 at x1 x2
   obtain ⟨C0,hC0⟩:∃ C,(s :: dd).map iv=C:=⟨_,rfl⟩
   have hrow:rowI (s :: dd)=.row (dd.length+1) C0:=by rw [rowI,hC0];rfl
   have t1:(1:Int).toNat=1:=rfl
   have g1:((0:Int)≤1∧(1:Int)≤((dd.length+1:Nat):Int)∧((dd.length+1:Nat):Int)≤((dd.length+1:Nat):Int))=True:=eq_true ⟨by omega,by omega,by omega⟩
   have sl:D.row (dd.length+1-1) (List.take (dd.length+1-1) (List.drop 1 C0))=rowI dd:=by
    rw [← hC0,Nat.add_sub_cancel,List.map_cons,List.drop_succ_cons,List.drop_zero,List.take_of_length_le (by rw [List.length_map];omega)];rfl
   have gV:=Qiw (b:=s==-1) (Rw.row dd) (by omega)
   have gS0:vI (s==-1) dd=true→Qah G QbG [.agg [.v (.bool (s==-1)),rowI dd]]=some (.d (iv (sgF (s==-1) dd))):=fun h=>Qmf (by omega) h
   have hl':lenA (.d (.row (dd.length+1) C0))=some (dd.length+1):=rfl
   have e1:(((dd.length+1:Nat):Int)==0)=false:=Qb9 (by omega)
   rw [show D.row (s :: dd).length (List.map iv (s :: dd))=.row (dd.length+1) C0 by rw [hC0];rfl] at g
   rw [hrow] at x1
   have o1:A.one (.d (rowI dd))=true:=rfl
   have o2:(rowI dd).one=true:=rfl
   have o3:QaA (.d (rowI dd))=[.d (rowI dd)]:=rfl
   have o4:QbZ (.d (rowI dd))=some [rowI dd]:=rfl
   simp only [iv,bv] at g gV
   have hv0:dcI b=if vI (s==-1) dd=true∧sgF (s==-1) dd=s then ((s==-1,dd),n,0) else ((false,[]),0,2):=by unfold dcI;rw [hg];rfl
   obtain ⟨v,hvv⟩:∃ v,vI (s==-1) dd=v:=⟨_,rfl⟩
   obtain ⟨sg,hsg⟩:∃ v,sgF (s==-1) dd=v:=⟨_,rfl⟩
   rw [hvv,hsg] at hv0
   rw [hvv] at gV
   rw [hsg] at gS0
   rw [hvv] at gS0
   clear hg hr hb hvv hsg
   cases v
   ·rw [if_neg (by simp)] at hv0
    rw [Qfm (by decide) hv0]
    clear hv0
    generalize rowI dd=RD at *
    simp -implicitDefEqProofs (maxSteps:=9^8) only [Qby,g,gV,x1,x2,hl',z0,e1,z2,g1,t1,sl,o1,o2,o3,o4,Qdh,QbA,toDs,toD,allD,Qaa,go_sem,Qac,Qab,iv,bv,reduceCtorEq,↓reduceIte,Nat.reduceEqDiff]
   ·have gS:=gS0 rfl
    simp only [iv,bv] at gS
    by_cases c3:sg=s
    ·have hv:dcI b=((s==-1,dd),n,0):=by rw [hv0,if_pos ⟨rfl,c3⟩]
     have z1:(sg != s)=false:=bne_f c3
     have hd:dcR b=.d (.tup [.agg [.v (.bool (s==-1)),rowI dd],iv n,iv 0]):=by unfold dcR;rw [hv];rfl
     rw [hd]
     clear hv hv0 hd
     generalize rowI dd=RD at *
     simp -implicitDefEqProofs (maxSteps:=9^8) only [Qby,g,gV,gS,x1,x2,hl',z0,z1,e1,z2,g1,t1,sl,o1,o2,o3,o4,Qdh,QbA,toDs,toD,allD,Qaa,go_sem,Qac,Qab,iv,bv,reduceCtorEq,↓reduceIte,Nat.reduceEqDiff]
    ·rw [if_neg (fun h=>c3 h.2)] at hv0
     rw [Qfm (by decide) hv0]
     have z1:(sg != s)=true:=QeL c3
     clear hv0
     generalize rowI dd=RD at *
     simp -implicitDefEqProofs (maxSteps:=9^8) only [Qby,g,gV,gS,x1,x2,hl',z0,z1,e1,z2,g1,t1,sl,o1,o2,o3,o4,Qdh,QbA,toDs,toD,allD,Qaa,go_sem,Qac,Qab,iv,bv,reduceCtorEq,↓reduceIte,Nat.reduceEqDiff]
 ·have hv:dcI b=((false,[]),0,(gIs b).2.2):=by unfold dcI;rw [if_pos c0]
  rw [Qfm c0 hv]
  have ge:=Qnr c0
  unfold gIsR at g
  rw [ge] at g
  dsimp only at g
  generalize (gIs b).2.2=e at *
  have z0:(e != 0)=true:=QeL c0
  have d0:dg []=.z true:=rfl
  rw [d0] at g
  simp only [iv] at g
  clear hr hb hln hv ge
  simp -implicitDefEqProofs (maxSteps:=9^8) only [Qby,g,z0,z2,Qdh,QbA,toDs,toD,allD,Qaa,go_sem,Qac,Qab,iv,bv,reduceCtorEq,↓reduceIte,Nat.reduceEqDiff]
end Go.AM

/- rat.Valid, ref05.Valid at a whole numerator and any denominator. -/
namespace Go.AM
open Go Go.RowKit

def vR (x:Int) (c:Bool) (m:List Int):Bool:=vI c m&&!c&&!(decide (m=[1]))&&(decide (m=[])||decide (Int.gcd x (val m)=1))
theorem Qqr {m:List Int} (h:vI false m=true):Dig m∧Top m:=by
 unfold vI at h
 simp only [Bool.and_eq_true] at h
 obtain ⟨h1,h2⟩:=h
 refine ⟨fun d hd=>dOk_t (List.all_eq_true.1 h1 d hd),fun hne=>?_⟩
 rw [if_neg hne] at h2
 have e:m.getD (m.length-1) 0=m.getLast hne:=by
  rw [List.getLast_eq_getElem,List.getD_eq_getElem?_getD,List.getElem?_eq_getElem (by have:=List.length_pos_iff.2 hne;omega)];rfl
 rw [e] at h2
 simpa using h2
theorem one_iff (m:List Int):decide (m=[1])=((m.length:Int)==1&&m.getD 0 0==1):=by
 match m with
 | []=>rfl
 | [x] =>
  by_cases h:x=1
  ·subst h;rfl
  ·have h1:decide ([x]=[1])=false:=decide_eq_false (fun e=>h (List.cons.inj e).1)
   rw [h1]
   have:(x==1)=false:=Qb9 h
   simp [this]
 | x :: y :: r =>
  have h1:decide (x :: y :: r=[1])=false:=decide_eq_false (fun e=>by simp at e)
  rw [h1]
  have h2:(((x :: y :: r).length:Nat):Int)≠1:=by simp only [List.length_cons];omega
  rw [Qb9 h2];rfl
variable [Its]
theorem unit_gen {d:D} {m:List Int} (hr:Rw d m):Qah G QfC [.agg [.v (.bool false),d]]=some (.d (bv (decide (m=[1])))):=by
 rw [Qad (cf:=Qgn) rfl]
 have o1:=hr.one
 have o2:=hr.dcl
 have o3:=hr.donee
 have ll:=hr.len
 rw [one_iff]
 by_cases h:m.length=1
 ·have e1:((m.length:Int)==1)=true:=by rw [h];rfl
  have x1:=hr.ixn (j:=0) (by omega)
  have x2:∀ h,Qco h none (.d (.rp (m.map iv)))=some (.d (iv (m.getD 0 0))):=fun h=>by
   have:=ldv h m (j:=0) (by omega)
   rwa [List.drop_zero] at this
  rw [e1,Bool.true_and]
  generalize m.getD 0 0=v at *
  have x1':∀ h,ixaA h 1 0 (.d d)=some (.d (.rp (m.map iv))):=fun h=>by
   have:=x1 h
   rwa [List.drop_zero] at this
  simp -implicitDefEqProofs (maxSteps:=9^8) only [Qgn,ll,e1,x1',x2,o1,o2,o3,go_sem,Qac,Qab,iv,bv,reduceCtorEq,↓reduceIte,Nat.reduceEqDiff]
 ·have e1:((m.length:Int)==1)=false:=Qb9 (by omega)
  rw [e1,Bool.false_and]
  simp -implicitDefEqProofs (maxSteps:=9^8) only [Qgn,ll,e1,o1,o2,o3,go_sem,Qac,Qab,iv,bv,reduceCtorEq,↓reduceIte,Nat.reduceEqDiff]
theorem rone_gen {d:D} {m:List Int} (hr:Rw d m):Qah G QcS [.agg [.v (.bool false),d]]=some (.d (bv (decide (m=[1])))):=by
 rw [Qad (cf:=Qci) rfl]
 have o1:=hr.one
 have o2:=hr.dcl
 have o3:=hr.donee
 have ll:=hr.len
 rw [one_iff]
 by_cases h:m.length=1
 ·have e1:((m.length:Int)==1)=true:=by rw [h];rfl
  have e1':((m.length:Int) != 1)=false:=by rw [h];rfl
  have x1:=hr.ixn (j:=0) (by omega)
  have x2:∀ h,Qco h none (.d (.rp (m.map iv)))=some (.d (iv (m.getD 0 0))):=fun h=>by
   have:=ldv h m (j:=0) (by omega)
   rwa [List.drop_zero] at this
  rw [e1,Bool.true_and]
  generalize m.getD 0 0=v at *
  have x1':∀ h,ixaA h 1 0 (.d d)=some (.d (.rp (m.map iv))):=fun h=>by
   have:=x1 h
   rwa [List.drop_zero] at this
  simp -implicitDefEqProofs (maxSteps:=9^8) only [Qci,ll,e1',x1',x2,o1,o2,o3,go_sem,Qac,Qab,iv,bv,reduceCtorEq,↓reduceIte,Nat.reduceEqDiff]
 ·have e1:((m.length:Int)==1)=false:=Qb9 (by omega)
  have e1':((m.length:Int) != 1)=true:=QeL (by omega)
  rw [e1,Bool.false_and]
  simp -implicitDefEqProofs (maxSteps:=9^8) only [Qci,ll,e1',o1,o2,o3,go_sem,Qac,Qab,iv,bv,reduceCtorEq,↓reduceIte,Nat.reduceEqDiff]
theorem QrG {x:Int} (hx:nd x≤1000000000000):vI (decide (x<0)) (digs x.natAbs)=true:=by
 have _its:Its:=inferInstance
 have g:=QpH (b:=decide (x<0)) hx (Qap _) (QcM _) (fun h=>by
  have:((x.natAbs:Nat):Int)=0:=by
   have:=congrArg val h
   rw [Qat] at this
   exact this
  exact decide_eq_false (by omega))
 have g2:=Qih (b:=decide (x<0)) (Rw.dg (digs x.natAbs)) hx
 rw [g] at g2
 simpa [bv] using g2.symm
end Go.AM

/- Gcd and Valid at rows that are not nil; rat.Decode, ref05.Decode. -/
namespace Go.AM
open Go Go.RowKit
variable [Its]
theorem Gcd_row {b1 b2:Bool} {d1 d2:D} {x y:Int} (h1:Rw d1 (digs x.natAbs)) (h2:Rw d2 (digs y.natAbs)) (hx:nd x≤1000000000000) (hy:nd y≤1000000000000):Qah G Qeo [.agg [.v (.bool b1),d1],.agg [.v (.bool b2),d2]]=some (.d (encI (Int.gcd x y:Nat))):=by
 rw [Qad (cf:=Qd9) rfl]
 have hxn:(digs x.natAbs).length≤1000000000000:=hx
 have hyn:(digs y.natAbs).length≤1000000000000:=hy
 have o1:=Qeb false h1 (by omega) (Qap _)
 have o2:=Qeb false h2 (by omega) (Qap _)
 rw [Qay,Qat,Qa4] at o1 o2
 simp only [bv] at o1 o2
 rw [Qa4]
 have p1:=h1.one
 have p2:=h1.dcl
 have p3:=h1.donee
 have q1:=h2.one
 have q2:=h2.dcl
 have q3:=h2.donee
 have e:Int.gcd x y=Nat.gcd x.natAbs y.natAbs:=rfl
 rw [e]
 rcases Qrc y.natAbs x.natAbs hxn hyn with g | g
 ·simp only [Qfj,Qol,box0,boxI,go_sem] at g
  simp -implicitDefEqProofs (maxSteps:=9^8) only [Qd9,encI,go_sem,Qac,Qab,iv,bv,p1,p2,p3,q1,q2,q3,o1,o2,g,reduceCtorEq,↓reduceIte,Nat.reduceEqDiff]
 ·simp only [Qfj,QgS,box0,boxI,go_sem] at g
  simp -implicitDefEqProofs (maxSteps:=9^8) only [Qd9,encI,go_sem,Qac,Qab,iv,bv,p1,p2,p3,q1,q2,q3,o1,o2,g,reduceCtorEq,↓reduceIte,Nat.reduceEqDiff]
theorem rGcd_row {b1 b2:Bool} {d1 d2:D} {x y:Int} (h1:Rw d1 (digs x.natAbs)) (h2:Rw d2 (digs y.natAbs)) (hx:nd x≤1000000000000) (hy:nd y≤999999999999):Qah G QcN [.agg [.v (.bool b1),d1],.agg [.v (.bool b2),d2]]=some (.d (encI (Int.gcd x y:Nat))):=by
 rw [Qad (cf:=Qcg) rfl]
 have hxn:(digs x.natAbs).length≤1000000000000:=hx
 have hyn:(digs y.natAbs).length≤999999999999:=hy
 have o1:=Qbc false h1 (by omega) (Qap _)
 have o2:=Qbc false h2 (by omega) (Qap _)
 rw [Qay,Qat,Qa4] at o1 o2
 simp only [bv] at o1 o2
 rw [Qa4]
 have p1:=h1.one
 have p2:=h1.dcl
 have p3:=h1.donee
 have q1:=h2.one
 have q2:=h2.dcl
 have q3:=h2.donee
 have e:Int.gcd x y=Nat.gcd x.natAbs y.natAbs:=rfl
 rw [e]
 rcases rg_loop y.natAbs x.natAbs hxn hyn with g | g
 ·simp only [Qfj,Qol,box0,boxI,go_sem] at g
  simp -implicitDefEqProofs (maxSteps:=9^8) only [Qcg,encI,go_sem,Qac,Qab,iv,bv,p1,p2,p3,q1,q2,q3,o1,o2,g,reduceCtorEq,↓reduceIte,Nat.reduceEqDiff]
 ·simp only [Qfj,QgS,box0,boxI,go_sem] at g
  simp -implicitDefEqProofs (maxSteps:=9^8) only [Qcg,encI,go_sem,Qac,Qab,iv,bv,p1,p2,p3,q1,q2,q3,o1,o2,g,reduceCtorEq,↓reduceIte,Nat.reduceEqDiff]
theorem rV_row {dp:D} {x:Int} (hp:Rw dp (digs x.natAbs)) {c:Bool} {d:D} {m:List Int} (hr:Rw d m) (hx:nd x≤1000000000) (hm:m.length≤1000000000) :
    Qah G QfH [.agg [.v (.bool (decide (x<0))),dp,.v (.bool c),d]]=some (.d (bv (vR x c m))):=by
  rw [Qad (cf:=QfM) rfl]
  have o1:=hr.one
  have p1:=hp.one
  have p2:=hp.dcl
  have p3:=hp.donee
  have o2:=hr.dcl
  have o3:=hr.donee
  have ll:=hr.len
  have g1:=Qih (b:=decide (x<0)) hp (show (digs x.natAbs).length≤1000000000000 by unfold nd at hx;omega)
  rw [QrG (by omega)] at g1
  have g2:=Qih (b:=c) hr (by omega)
  unfold vR
  cases hv:vI c m with
  | false =>
    rw [hv] at g2
    generalize decide (x<0)=b at *
    simp only [bv] at g1 g2
    simp -implicitDefEqProofs (maxSteps:=9^8) only [QfM,g1,g2,o1,o2,o3,p1,p2,p3,go_sem,Qac,Qab,iv,bv,reduceCtorEq,↓reduceIte,Nat.reduceEqDiff,Bool.false_and]
  | true =>
    rw [hv] at g2
    cases c with
    | true =>
      generalize decide (x<0)=b at *
      simp only [bv] at g1 g2
      simp -implicitDefEqProofs (maxSteps:=9^8) only [QfM,g1,g2,o1,o2,o3,p1,p2,p3,go_sem,Qac,Qab,iv,bv,reduceCtorEq,↓reduceIte,Nat.reduceEqDiff,Bool.false_and,Bool.and_false,Bool.not_true]
    | false =>
      have u:=unit_gen hr
      cases hu:decide (m=[1]) with
      | true =>
        rw [hu] at u
        generalize decide (x<0)=b at *
        simp only [bv] at g1 g2 u
        simp -implicitDefEqProofs (maxSteps:=9^8) only [QfM,g1,g2,u,o1,o2,o3,p1,p2,p3,go_sem,Qac,Qab,iv,bv,reduceCtorEq,↓reduceIte,Nat.reduceEqDiff,Bool.false_and,Bool.and_false,Bool.not_true]
      | false =>
        rw [hu] at u
        by_cases h0:m=[]
        · have e1:decide (m=[])=true:=decide_eq_true h0
          have e2:((m.length:Int)==0)=true:=by rw [h0];rfl
          rw [e1]
          generalize decide (x<0)=b at *
          simp only [bv] at g1 g2 u
          simp -implicitDefEqProofs (maxSteps:=9^8) only [QfM,g1,g2,u,ll,e2,o1,o2,o3,p1,p2,p3,go_sem,Qac,Qab,iv,bv,reduceCtorEq,↓reduceIte,Nat.reduceEqDiff,Bool.true_and,Bool.and_true,Bool.true_or,Bool.not_false]
        · have e1:decide (m=[])=false:=decide_eq_false h0
          have e2:((m.length:Int)==0)=false:=Qb9 (by have:=List.length_pos_iff.2 h0;omega)
          obtain ⟨hd,ht⟩:=Qqr hv
          have hval:=QaK hd
          have em:=Qji hd ht
          have ed:d=dg m:=by
            rcases hr with rfl | rfl
            · rfl
            · exact (Qhr h0).symm
          subst ed
          have nv:(digs (val m).natAbs).length≤1000000000:=by rw [show (val m).natAbs=(val m).toNat by omega,em];exact hm
          have gg:=Gcd_row (b1:=decide (x<0)) (b2:=decide (val m<0)) (y:=val m) hp (Rw.dg _) (by omega) (by unfold nd;omega)
          have eE:encI (val m)=.agg [.v (.bool false),dg m]:=by
            rw [encI,decide_eq_false (by omega),show (val m).natAbs=(val m).toNat by omega,em];rfl
          rw [show D.agg [.v (.bool (decide (val m<0))),dg (digs (val m).natAbs)]=encI (val m) from rfl,eE] at gg
          have gg':Qah G Qeo [.agg [.v (.bool (decide (x<0))),dp],.agg [.v (.bool false),dg m]]=some (.d (encI (Int.gcd x (val m):Int))):=gg
          have hgl:nd (Int.gcd x (val m):Int)≤1000000000:=by
            refine Nat.le_trans (QhO ?_) nv
            have hv0:val m≠0:=fun h=>h0 (by rw [h] at em;rw [← em];exact Qav)
            rw [Int.natAbs_natCast]
            exact Nat.le_of_dvd (by omega) (Int.natAbs_dvd_natAbs.2 (Int.gcd_dvd_right x (val m)))
          have u1:=Qjk (Int.gcd x (val m):Int) (by omega)
          have eg:decide ((Int.gcd x (val m):Int)=1)=decide (Int.gcd x (val m)=1):=decide_eq_decide.2 (by omega)
          rw [eg] at u1
          rw [e1]
          clear gg hgl eg eE nv hd ht
          generalize decide (Int.gcd x (val m)=1)=gv at *
          generalize encI (Int.gcd x (val m):Int)=ge at *
          generalize decide (x<0)=b at *
          simp only [bv] at g1 g2 u u1
          simp -implicitDefEqProofs (maxSteps:=9^8) only [QfM,g1,g2,u,u1,gg',ll,e2,o1,o2,o3,p1,p2,p3,go_sem,Qac,Qab,iv,bv,reduceCtorEq,↓reduceIte,Nat.reduceEqDiff,Bool.true_and,Bool.and_true,Bool.false_or,Bool.not_false]
theorem r5V_row {dp:D} {x:Int} (hp:Rw dp (digs x.natAbs)) {c:Bool} {d:D} {m:List Int} (hr:Rw d m) (hx:nd x≤1000000000) (hm:m.length≤1000000000) :
    Qah G QbQ [.agg [.v (.bool (decide (x<0))),dp,.v (.bool c),d]]=some (.d (bv (vR x c m))):=by
  rw [Qad (cf:=QbU) rfl]
  have o1:=hr.one
  have p1:=hp.one
  have p2:=hp.dcl
  have p3:=hp.donee
  have o2:=hr.dcl
  have o3:=hr.donee
  have ll:=hr.len
  have g1:=Qiw (b:=decide (x<0)) hp (show (digs x.natAbs).length≤1000000000000 by unfold nd at hx;omega)
  rw [QrG (by omega)] at g1
  have g2:=Qiw (b:=c) hr (by omega)
  unfold vR
  cases hv:vI c m with
  | false =>
    rw [hv] at g2
    generalize decide (x<0)=b at *
    simp only [bv] at g1 g2
    simp -implicitDefEqProofs (maxSteps:=9^8) only [QbU,g1,g2,o1,o2,o3,p1,p2,p3,go_sem,Qac,Qab,iv,bv,reduceCtorEq,↓reduceIte,Nat.reduceEqDiff,Bool.false_and]
  | true =>
    rw [hv] at g2
    cases c with
    | true =>
      generalize decide (x<0)=b at *
      simp only [bv] at g1 g2
      simp -implicitDefEqProofs (maxSteps:=9^8) only [QbU,g1,g2,o1,o2,o3,p1,p2,p3,go_sem,Qac,Qab,iv,bv,reduceCtorEq,↓reduceIte,Nat.reduceEqDiff,Bool.false_and,Bool.and_false,Bool.not_true]
    | false =>
      have u:=rone_gen hr
      cases hu:decide (m=[1]) with
      | true =>
        rw [hu] at u
        generalize decide (x<0)=b at *
        simp only [bv] at g1 g2 u
        simp -implicitDefEqProofs (maxSteps:=9^8) only [QbU,g1,g2,u,o1,o2,o3,p1,p2,p3,go_sem,Qac,Qab,iv,bv,reduceCtorEq,↓reduceIte,Nat.reduceEqDiff,Bool.false_and,Bool.and_false,Bool.not_true]
      | false =>
        rw [hu] at u
        by_cases h0:m=[]
        · have e1:decide (m=[])=true:=decide_eq_true h0
          have e2:((m.length:Int)==0)=true:=by rw [h0];rfl
          rw [e1]
          generalize decide (x<0)=b at *
          simp only [bv] at g1 g2 u
          simp -implicitDefEqProofs (maxSteps:=9^8) only [QbU,g1,g2,u,ll,e2,o1,o2,o3,p1,p2,p3,go_sem,Qac,Qab,iv,bv,reduceCtorEq,↓reduceIte,Nat.reduceEqDiff,Bool.true_and,Bool.and_true,Bool.true_or,Bool.not_false]
        · have e1:decide (m=[])=false:=decide_eq_false h0
          have e2:((m.length:Int)==0)=false:=Qb9 (by have:=List.length_pos_iff.2 h0;omega)
          obtain ⟨hd,ht⟩:=Qqr hv
          have hval:=QaK hd
          have em:=Qji hd ht
          have ed:d=dg m:=by
            rcases hr with rfl | rfl
            · rfl
            · exact (Qhr h0).symm
          subst ed
          have nv:(digs (val m).natAbs).length≤1000000000:=by rw [show (val m).natAbs=(val m).toNat by omega,em];exact hm
          have hv0:val m≠0:=fun h=>h0 (by rw [h] at em;rw [← em];exact Qav)
          have gg:=rGcd_row (b1:=decide (x<0)) (b2:=decide (val m<0)) (y:=val m) hp (Rw.dg _) (by omega) (by unfold nd;omega)
          have eE:encI (val m)=.agg [.v (.bool false),dg m]:=by
            rw [encI,decide_eq_false (by omega),show (val m).natAbs=(val m).toNat by omega,em];rfl
          rw [show D.agg [.v (.bool (decide (val m<0))),dg (digs (val m).natAbs)]=encI (val m) from rfl,eE] at gg
          have gg':Qah G QcN [.agg [.v (.bool (decide (x<0))),dp],.agg [.v (.bool false),dg m]]=some (.d (encI (Int.gcd x (val m):Int))):=gg
          have hgl:nd (Int.gcd x (val m):Int)≤1000000000:=by
            refine Nat.le_trans (QhO ?_) nv
            rw [Int.natAbs_natCast]
            exact Nat.le_of_dvd (by omega) (Int.natAbs_dvd_natAbs.2 (Int.gcd_dvd_right x (val m)))
          have hg0:0<(Int.gcd x (val m):Int):=by have:=Int.gcd_pos_of_ne_zero_right x hv0;omega
          have u1:=Qlp (Int.gcd x (val m):Int) (by omega) hg0
          have eg:decide ((Int.gcd x (val m):Int)=1)=decide (Int.gcd x (val m)=1):=decide_eq_decide.2 (by omega)
          rw [eg] at u1
          rw [e1]
          clear gg hgl eg eE nv hd ht hg0
          generalize decide (Int.gcd x (val m)=1)=gv at *
          generalize encI (Int.gcd x (val m):Int)=ge at *
          generalize decide (x<0)=b at *
          simp only [bv] at g1 g2 u u1
          simp -implicitDefEqProofs (maxSteps:=9^8) only [QbU,g1,g2,u,u1,gg',ll,e2,o1,o2,o3,p1,p2,p3,go_sem,Qac,Qab,iv,bv,reduceCtorEq,↓reduceIte,Nat.reduceEqDiff,Bool.true_and,Bool.and_true,Bool.false_or,Bool.not_false]
end Go.AM

/- Same at rows of fields. -/
namespace Go.AM
open Go Go.RowKit
abbrev D4:Type:=D×D×D×D
instance:Inhabited D4:=⟨(.z true,.z true,.z true,.z true)⟩
def c4d (x:D4):List D:=[x.1,x.2.1,x.2.2.1,x.2.2.2]
theorem Qei (x:D4):(c4d x).length=4:=rfl
def SmF (x y:D4):Prop:=∃ (a c:Bool) (l m:List Int) (d e f g:D),x=(.v (.bool a),d,.v (.bool c),f)∧y=(.v (.bool a),e,.v (.bool c),g)∧Rw d l∧Rw e l∧Rw f m∧Rw g m∧l.length≤1000000000000∧m.length≤1000000000000
def bxw (b:Bool) (d:D):Obj:=⟨0,0,[.d (.v (.bool b)),.d d],false⟩
variable [Its]
def QkW (b:Bool) (d e:D) (i:Int):St:=mkS [(2,.ptr [2] 0),(3,.ptr [3] 0),(5,ai i)] [([2],bxw b d),([3],bxw b e)]
theorem s4w_go {b:Bool} {d e:D} {l:List Int} (h1:Rw d l) (h2:Rw e l) (hl:l.length≤1000000000000) {i:Nat} (hi:i<l.length):X G QaG (QkW b d e i)=some (.n,QkW b d e ((i+1:Nat):Int)):=by
 have e1:decide ((i:Int)<(l.length:Int))=true:=lt_t (by omega)
 have e2:w64 ((i:Int)+1)=((i+1:Nat):Int):=by rw [Qae (by omega) (by omega)];rfl
 have x1:=h1.ixn hi
 have y1:=h2.ixn hi
 have l1:=h1.len
 have x2:=fun h=>ldv h l hi
 have e3:(l.getD i 0 != l.getD i 0)=false:=bne_self_eq_false _
 simp -implicitDefEqProofs (maxSteps:=9^8) only [QaG,QkW,bxw,l1,x1,y1,x2,e1,e2,e3,go_sem,Qac,Qab,iv,bv,reduceCtorEq,↓reduceIte,Nat.reduceEqDiff]
theorem s4w_stop {b:Bool} {d e:D} {l:List Int} (h1:Rw d l):X G QaG (QkW b d e (l.length:Nat))=some (.x 0,mkS [] []):=by
 have e1:decide ((l.length:Int)<(l.length:Int))=false:=lt_f (by omega)
 have l1:=h1.len
 simp -implicitDefEqProofs (maxSteps:=9^8) only [QaG,QkW,bxw,l1,e1,go_sem,Qac,Qab,iv,bv,reduceCtorEq,↓reduceIte,Nat.reduceEqDiff]
theorem QqP {b:Bool} {d e:D} {l:List Int} (h1:Rw d l) (h2:Rw e l) (hl:l.length≤1000000000000):∀ j i:Nat,i+j=l.length→X G (.loop QaG) (QkW b d e i)=some (.x 0,mkS [] [])
 | 0,i,h=>by
  have:i=l.length:=by omega
  subst this
  rw [Qag,s4w_stop h1];rfl
 | j+1,i,h=>by
  rw [Qag,s4w_go h1 h2 hl (by omega),Option.bind_some,if_pos rfl]
  exact QqP h1 h2 hl j (i+1) (by omega)
theorem QqN {b:Bool} {d e:D} {l:List Int} (h1:Rw d l) (h2:Rw e l) (hl:l.length≤1000000000000):Qah G Qdm [.agg [.v (.bool b),d],.agg [.v (.bool b),e]]=some (.d (bv true)):=by
 rw [Qad (cf:=Qc6) rfl]
 have h:=QqP (b:=b) h1 h2 hl l.length 0 (by omega)
 have e1:((l.length:Int) != (l.length:Int))=false:=bne_self_eq_false _
 have e2:=bself b
 have l1:=h1.len
 have l2:=h2.len
 have o1:=h1.one
 have o2:=h1.donee
 have o3:=h1.dcl
 have p1:=h2.one
 have p2:=h2.donee
 have p3:=h2.dcl
 simp only [QkW,bxw,go_sem,nc0] at h
 simp -implicitDefEqProofs (maxSteps:=9^8) only [Qc6,h,l1,l2,o1,o2,o3,p1,p2,p3,e1,e2,go_sem,Qac,Qab,iv,bv,reduceCtorEq,↓reduceIte,Nat.reduceEqDiff]
theorem s5w {x y:D4} (h:SmF x y):Qah G Qdj [.agg (c4d x),.agg (c4d y)]=some (.d (bv true)):=by
 obtain ⟨a,c,l,m,d,e,f,g,rfl,rfl,h1,h2,h3,h4,n1,n2⟩:=h
 rw [Qad (cf:=Qc8) rfl]
 have g1:=QqN (b:=a) h1 h2 n1
 have g2:=QqN (b:=c) h3 h4 n2
 have o1:=h1.one
 have o2:=h1.donee
 have o3:=h1.dcl
 have p1:=h2.one
 have p2:=h2.donee
 have p3:=h2.dcl
 have q1:=h3.one
 have q2:=h3.donee
 have q3:=h3.dcl
 have r1:=h4.one
 have r2:=h4.donee
 have r3:=h4.dcl
 simp only [bv] at g1 g2
 simp -implicitDefEqProofs (maxSteps:=9^8) only [Qc8,c4d,g1,g2,o1,o2,o3,p1,p2,p3,q1,q2,q3,r1,r2,r3,go_sem,Qac,Qab,iv,bv,reduceCtorEq,↓reduceIte,Nat.reduceEqDiff]
theorem s6w_go {d d':D} {l m:List D4} (h1:RwE c4d d l) (h2:RwE c4d d' m) (hm:m.length=l.length) (hs:∀ i,i<l.length→SmF (l.getD i default) (m.getD i default)) (hl:l.length≤1000000000000) {i:Nat} (hi:i<l.length):X G QaF (QiY d d' i)=some (.n,QiY d d' ((i+1:Nat):Int)):=by
 have e1:decide ((i:Int)<(l.length:Int))=true:=lt_t (by omega)
 have e2:w64 ((i:Int)+1)=((i+1:Nat):Int):=by rw [Qae (by omega) (by omega)];rfl
 have ll:=h1.len
 have x1:=h1.ixa Qei hi
 have x2:=h2.ixa Qei (by omega:i<m.length)
 have y1:=fun h=>ldE Qei h hi
 have y2:=fun h=>ldE Qei h (by omega:i<m.length)
 have g:=s5w (hs i hi)
 generalize l.getD i default=q at *
 generalize m.getD i default=q' at *
 generalize (l.drop i).flatMap c4d=cs at *
 generalize (m.drop i).flatMap c4d=cs' at *
 simp only [bv] at g
 simp -implicitDefEqProofs (maxSteps:=9^8) only [QaF,QiY,ll,x1,x2,y1,y2,e1,e2,g,go_sem,iv,bv,reduceCtorEq,↓reduceIte,Nat.reduceEqDiff]
theorem s6w_stop {d d':D} {l:List D4} (h1:RwE c4d d l):X G QaF (QiY d d' (l.length:Nat))=some (.x 0,mkS [] []):=by
 have e1:decide ((l.length:Int)<(l.length:Int))=false:=lt_f (by omega)
 have ll:=h1.len
 simp -implicitDefEqProofs (maxSteps:=9^8) only [QaF,QiY,ll,e1,go_sem,iv,bv,reduceCtorEq,↓reduceIte,Nat.reduceEqDiff]
theorem QqM {d d':D} {l m:List D4} (h1:RwE c4d d l) (h2:RwE c4d d' m) (hm:m.length=l.length) (hs:∀ i,i<l.length→SmF (l.getD i default) (m.getD i default)) (hl:l.length≤1000000000000):∀ j i:Nat,i+j=l.length→X G (.loop QaF) (QiY d d' i)=some (.x 0,mkS [] [])
 | 0,i,h=>by
  have:i=l.length:=by omega
  subst this
  rw [Qag,s6w_stop h1];rfl
 | j+1,i,h=>by
  rw [Qag,s6w_go h1 h2 hm hs hl (by omega),Option.bind_some,if_pos rfl]
  exact QqM h1 h2 hm hs hl j (i+1) (by omega)
theorem QnG {d d':D} {l m:List D4} (h1:RwE c4d d l) (h2:RwE c4d d' m) (hm:m.length=l.length) (hs:∀ i,i<l.length→SmF (l.getD i default) (m.getD i default)) (hl:l.length≤1000000000000):Qah G QbJ [d,d']=some (.d (bv true)):=by
 rw [Qad (cf:=Qc5) rfl]
 have h:=QqM h1 h2 hm hs hl l.length 0 (by omega)
 have e1:((l.length:Int) != (l.length:Int))=false:=bne_self_eq_false _
 have ll:=h1.len
 have ll2:=h2.len
 rw [hm] at ll2
 simp only [QiY,go_sem,nc0] at h
 simp -implicitDefEqProofs (maxSteps:=9^8) only [Qc5,h,ll,ll2,e1,go_sem,iv,bv,reduceCtorEq,↓reduceIte,Nat.reduceEqDiff]
end Go.AM

