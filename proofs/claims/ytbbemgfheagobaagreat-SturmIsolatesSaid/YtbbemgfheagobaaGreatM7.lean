/- Part 7 of the proof: a small machine, its soundness against the model, and what the program's functions compute on it. -/
import Derived.Test.YtbbemgfheagobaaGreatM6
import Derived.Test.YtbbemgfheagobaaGreatM3
set_option linter.unusedVariables false
set_option linter.unusedSimpArgs false
/- ref04.Gcd -/
namespace Go.AM
open Go Go.RowKit
variable [Its]

def Qtk (m n:Nat):St:=mkS [(4,.ptr [4] 0),(7,ai m),(8,ai n)] [([4],box0)]
def rg_en (m:Nat):St:=mkS [(4,.ptr [4] 0),(7,ai m)] [([4],box0)]
theorem rg_ints:∀ (n m:Nat),m<1000000000000000000→n<1000000000000000000→X G (.loop Qcz) (Qtk m n)=some (.x 2,rg_en (Nat.gcd m n)):=by
 intro n
 induction n using Nat.strongRecOn with
 | _ n ih =>
 intro m hm hn
 rw [Qai]
 by_cases h0:n=0
 ·subst h0
  have e1:decide (((0:Nat):Int)>0)=false:=rfl
  rw [Nat.gcd_zero_right]
  simp -implicitDefEqProofs (maxSteps:=9^8) only [Qcz,Qtk,rg_en,box0,go_sem,iv,bv,reduceCtorEq,↓reduceIte,Nat.reduceEqDiff]
  rfl
 ·have e1:decide ((n:Int)>0)=true:=gt_t (by omega)
  have e2:=QkL (b:=(n:Int)) (by omega)
  have e3:=Qee (a:=(m:Int)) (b:=(n:Int)) (by omega)
  have e4:(m:Int)%(n:Int)=((m%n:Nat):Int):=rfl
  have hlt:m%n<n:=Nat.mod_lt _ (by omega)
  have hx:X G Qcz (Qtk m n)=some (.n,Qtk n (m%n)):=by
   simp -implicitDefEqProofs (maxSteps:=9^8) only [Qcz,Qtk,rg_en,box0,go_sem,iv,bv,e1,e2,e3,e4,reduceCtorEq,↓reduceIte,Nat.reduceEqDiff]
  rw [hx,Option.bind_some,if_pos rfl,ih (m%n) hlt n hn (by omega),QlM]

theorem rg_loop:∀ (b a:Nat),(digs a).length≤1000000000000→(digs b).length≤999999999999 →
    X G (.loop Qbi) (QgT a b)=some (.x 0,QtC (Nat.gcd a b))∨X G (.loop Qbi) (QgT a b)=some (.r,Qh9 (Nat.gcd a b)):=by
  intro b
  induction b using Nat.strongRecOn with
  | _ b ih =>
  intro a ha hb
  have la:=QaZ (digs a)
  have lb:=QaZ (digs b)
  by_cases h0:b=0
  · subst h0
    have e1:decide (((digs 0).length:Int)>0)=false:=by rw [Qax];rfl
    refine .inl ?_
    rw [Nat.gcd_zero_right,Qai]
    simp -implicitDefEqProofs (maxSteps:=9^8) only [Qbi,QgT,QtC,box0,boxI,go_sem,Qac,Qab,iv,bv,e1,la,lb,reduceCtorEq,↓reduceIte,Nat.reduceEqDiff]
  · have e1:decide (((digs b).length:Int)>0)=true:=gt_t (by have:=digs_length_pos.2 (Nat.pos_of_ne_zero h0);omega)
    by_cases h1:(digs a).length≤2∧(digs b).length≤2
    · have t1:=Qj5 (Rw.dg (digs a)) (Qao a) h1.1
      have t2:=Qj5 (Rw.dg (digs b)) (Qao b) h1.2
      rw [QaJ] at t1 t2
      simp only [iv,bv] at t1 t2
      have d1:decide (((digs a).length:Int)≤2)=true:=le_t (by omega)
      have d2:decide (((digs b).length:Int)≤2)=true:=le_t (by omega)
      have s1:=Qe7 h1.1
      have s2:=Qe7 h1.2
      have g1:=rg_ints b a s1 s2
      have hg:Nat.gcd a b≤b:=Nat.gcd_le_right _ (Nat.pos_of_ne_zero h0)
      have u1:=Qhs (n:=((Nat.gcd a b:Nat):Int)) ⟨by omega,by omega⟩
      rw [Qbh] at u1
      simp only [Qtk,rg_en,box0,go_sem] at g1
      simp only [iv] at u1
      refine .inr ?_
      rw [Qai]
      simp -implicitDefEqProofs (maxSteps:=9^8) only [Qbi,QgT,Qh9,box0,boxI,go_sem,Qac,Qab,iv,bv,e1,la,lb,d1,d2,t1,t2,g1,u1,reduceCtorEq,↓reduceIte,Nat.reduceEqDiff]
    · have td:=QmX (x:=(a:Int)) (y:=(b:Int)) (by omega) (by rw [Qi4];exact ha) (by rw [Qi4];exact hb)
      have e3:(a:Int)/(b:Int)=((a/b:Nat):Int):=rfl
      have e4:(a:Int)%(b:Int)=((a%b:Nat):Int):=rfl
      rw [e3,e4,Qbh,Qbh,Qbh,Qbh] at td
      have hlt:a%b<b:=Nat.mod_lt _ (Nat.pos_of_ne_zero h0)
      have hx:X G Qbi (QgT a b)=some (.n,QgT b (a%b)):=by
        by_cases h2:(digs a).length≤2
        · have h3:¬ (digs b).length≤2:=fun h=>h1 ⟨h2,h⟩
          have d1:decide (((digs a).length:Int)≤2)=true:=le_t (by omega)
          have d2:decide (((digs b).length:Int)≤2)=false:=le_f (by omega)
          simp -implicitDefEqProofs (maxSteps:=9^8) only [Qbi,QgT,Qh9,box0,boxI,go_sem,Qac,Qab,iv,bv,e1,la,lb,d1,d2,td,Qbl,ne_eq,not_false_eq_true,reduceCtorEq,↓reduceIte,Nat.reduceEqDiff]
        · have d1:decide (((digs a).length:Int)≤2)=false:=le_f (by omega)
          simp -implicitDefEqProofs (maxSteps:=9^8) only [Qbi,QgT,Qh9,box0,boxI,go_sem,Qac,Qab,iv,bv,e1,la,lb,d1,td,Qbl,ne_eq,not_false_eq_true,reduceCtorEq,↓reduceIte,Nat.reduceEqDiff]
      have hr:=ih (a%b) hlt b (by omega) (Nat.le_trans (Qbn (Nat.le_of_lt hlt)) hb)
      rw [QlM] at hr
      rw [Qai,hx]
      exact hr

theorem rGcd_spec {x y:Int} (hx:nd x≤1000000000000) (hy:nd y≤999999999999):Qah G Qhi [encI x,encI y]=some (.d (encI (Int.gcd x y:Nat))):=by
 rw [Qad (cf:=QeE) rfl]
 have hxn:(digs x.natAbs).length≤1000000000000:=hx
 have hyn:(digs y.natAbs).length≤999999999999:=hy
 have o1:=Qbq false (Rw.dg (digs x.natAbs)) (by omega) (Qao _)
 have o2:=Qbq false (Rw.dg (digs y.natAbs)) (by omega) (Qao _)
 rw [QaD,QaJ,Qbh] at o1 o2
 simp only [bv] at o1 o2
 rw [Qbh]
 have e:Int.gcd x y=Nat.gcd x.natAbs y.natAbs:=rfl
 rw [e]
 rcases rg_loop y.natAbs x.natAbs hxn hyn with g | g
 ·simp only [QgT,QtC,box0,boxI,go_sem] at g
  simp -implicitDefEqProofs (maxSteps:=9^8) only [QeE,encI,go_sem,Qac,Qab,iv,bv,o1,o2,g,reduceCtorEq,↓reduceIte,Nat.reduceEqDiff]
 ·simp only [QgT,Qh9,box0,boxI,go_sem] at g
  simp -implicitDefEqProofs (maxSteps:=9^8) only [QeE,encI,go_sem,Qac,Qab,iv,bv,o1,o2,g,reduceCtorEq,↓reduceIte,Nat.reduceEqDiff]
end Go.AM

/- Rationals as the program holds them; rat.unit, one, lowest, Make, Of, Den -/
namespace Go.AM
open Go Go.RowKit

def dd (d:Nat):List Int:=if d=1 then [] else digs d
def encR (q:Rat):D:=.agg [.v (.bool (decide (q.num<0))),dg (digs q.num.natAbs),.v (.bool false),dg (dd q.den)]
def sz (q:Rat):Nat:=max (nd q.num) (nd (q.den:Int))
theorem QcG {q:Rat} {n:Nat} (h:sz q≤n):nd q.num≤n:=Nat.le_trans (Nat.le_max_left _ _) h
theorem QcM {q:Rat} {n:Nat} (h:sz q≤n):nd (q.den:Int)≤n:=Nat.le_trans (Nat.le_max_right _ _) h
theorem sz_le {q:Rat} {n:Nat} (h1:nd q.num≤n) (h2:nd (q.den:Int)≤n):sz q≤n:=Nat.max_le.2 ⟨h1,h2⟩

theorem dd_one:dd 1=[]:=rfl
theorem Qkz {d:Nat} (h:d≠1):dd d=digs d:=if_neg h
theorem QoX:digs 1=[1]:=by
 rw [Qeu (by omega)]
 have e1:(1:Nat)%1000000000=1:=by decide
 have e2:(1:Nat)/1000000000=0:=by decide
 rw [e1,e2,Qax];rfl
theorem Qfr:encR 0=.agg [.v (.bool false),.z true,.v (.bool false),.z true]:=by
 have e:digs (0:Rat).num.natAbs=[]:=Qax
 rw [encR,e];rfl
theorem QiN {n d:Int} (h:d≠0):0<Int.gcd n d:=Int.gcd_pos_of_ne_zero_right n h
theorem num_low {n d:Int} (hd:0<d) (hc:Int.gcd n d=1):(Rat.divInt n d).num=n∧((Rat.divInt n d).den:Int)=d:=by
 have e:Int.gcd d n=1:=by rw [Int.gcd_comm];exact hc
 constructor
 ·rw [Rat.num_divInt,e,Int.sign_eq_one_of_pos hd];simp
 ·rw [Rat.den_divInt,e,if_neg (by omega)];simp;omega
theorem QlY {n d:Int} (hd:0<d) (hc:Int.gcd n d=1):encR (Rat.divInt n d)=.agg [.v (.bool (decide (n<0))),dg (digs n.natAbs),.v (.bool false),dg (dd d.natAbs)]:=by
 obtain ⟨e1,e2⟩:=num_low hd hc
 have e3:(Rat.divInt n d).den=d.natAbs:=by omega
 rw [encR,e1,e3]
theorem ixa0 (hp:Hp) {l:List Int} (h:l≠[]):ixaA hp 1 0 (.d (dg l))=some (.d (.rp (l.map iv))):=by
 have h0:0<l.length:=List.length_pos_iff.2 h
 exact (Rw.dg l).ixa (j:=0) (by omega) (by omega) hp
theorem ld0 (hp:Hp) {l:List Int} (h:l≠[]):Qco hp none (.d (.rp (l.map iv)))=some (.d (.v (.int .i64 (l.getD 0 0)))):=by
 have h0:0<l.length:=List.length_pos_iff.2 h
 exact ldv hp l (j:=0) h0
theorem len_one {n:Nat} (h:(digs n).length=1):(digs n).getD 0 0=(n:Int):=by
 have hv:=QaJ n
 match hd:digs n,h with
 | [v],_=>rw [hd] at hv;simpa [val] using hv
variable [Its]

theorem QmG (x:Int) (hx:nd x≤1000000000000):Qah G Qky [encI x]=some (.d (bv (decide (x=1)))):=by
 rw [Qad (cf:=QjW) rfl]
 have lx:=QaZ (digs x.natAbs)
 by_cases h:x<0
 ·have x1:decide (x<0)=true:=decide_eq_true h
  have x2:decide (x=1)=false:=decide_eq_false (by omega)
  simp -implicitDefEqProofs (maxSteps:=9^8) only [QjW,encI,go_sem,Qac,Qab,iv,bv,lx,x1,x2,reduceCtorEq,↓reduceIte,Nat.reduceEqDiff]
 ·have x1:decide (x<0)=false:=decide_eq_false h
  by_cases hl:(digs x.natAbs).length=1
  ·have x3:(((digs x.natAbs).length:Int)==1)=true:=QkI (by omega)
   have hne:digs x.natAbs≠[]:=by intro h;rw [h] at hl;cases hl
   have x4:=fun hp=>ixa0 hp hne
   have x5:=fun hp=>ld0 hp hne
   rw [len_one hl] at x5
   have x2:(((x.natAbs:Nat):Int)==1)=decide (x=1):=by
    by_cases h1:x=1
    ·rw [decide_eq_true h1];exact QkI (by omega)
    ·rw [decide_eq_false h1];exact Qcx (by omega)
   simp -implicitDefEqProofs (maxSteps:=9^8) only [QjW,encI,go_sem,Qac,Qab,iv,bv,lx,x1,x2,x3,x4,x5,reduceCtorEq,↓reduceIte,Nat.reduceEqDiff]
  ·have x3:(((digs x.natAbs).length:Int)==1)=false:=Qcx (by omega)
   have x2:decide (x=1)=false:=decide_eq_false (by
    intro h1;subst h1
    exact hl (by rw [show (1:Int).natAbs=1 from rfl,QoX];rfl))
   simp -implicitDefEqProofs (maxSteps:=9^8) only [QjW,encI,go_sem,Qac,Qab,iv,bv,lx,x1,x2,x3,reduceCtorEq,↓reduceIte,Nat.reduceEqDiff]

theorem Qo7 (x:Int) (hx:nd x≤1000000000000) (h0:0<x):Qah G Qg6 [encI x]=some (.d (bv (decide (x=1)))):=by
 rw [Qad (cf:=QeK) rfl]
 have lx:=QaZ (digs x.natAbs)
 have x1:decide (x<0)=false:=decide_eq_false (by omega)
 by_cases hl:(digs x.natAbs).length=1
 ·have x3:(((digs x.natAbs).length:Int) != 1)=false:=by rw [bne,QkI (by omega)];rfl
  have hne:digs x.natAbs≠[]:=by intro h;rw [h] at hl;cases hl
  have x4:=fun hp=>ixa0 hp hne
  have x5:=fun hp=>ld0 hp hne
  rw [len_one hl] at x5
  have x2:(((x.natAbs:Nat):Int)==1)=decide (x=1):=by
   by_cases h1:x=1
   ·rw [decide_eq_true h1];exact QkI (by omega)
   ·rw [decide_eq_false h1];exact Qcx (by omega)
  simp -implicitDefEqProofs (maxSteps:=9^8) only [QeK,encI,go_sem,Qac,Qab,iv,bv,lx,x1,x2,x3,x4,x5,reduceCtorEq,↓reduceIte,Nat.reduceEqDiff]
 ·have x3:(((digs x.natAbs).length:Int) != 1)=true:=by rw [bne,Qcx (by omega)];rfl
  have x2:decide (x=1)=false:=decide_eq_false (by
   intro h1;subst h1
   exact hl (by rw [show (1:Int).natAbs=1 from rfl,QoX];rfl))
  simp -implicitDefEqProofs (maxSteps:=9^8) only [QeK,encI,go_sem,Qac,Qab,iv,bv,lx,x1,x2,x3,reduceCtorEq,↓reduceIte,Nat.reduceEqDiff]

theorem one_spec:Qah G Qo9 []=some (.d (encI 1)):=by
 rw [Qad (cf:=Qra) rfl]
 have g:=QmU (n:=1) ⟨by omega,by omega⟩
 simp only [iv,encI,bv] at g
 simp -implicitDefEqProofs (maxSteps:=9^8) only [Qra,encI,go_sem,Qac,Qab,iv,bv,g,reduceCtorEq,↓reduceIte,Nat.reduceEqDiff]

theorem QfY (q:Rat):Qah G QdX [encR q]=some (.d (encI (q.den:Int))):=by
 rw [Qad (cf:=QoN) rfl]
 have ld:=QaZ (dd q.den)
 by_cases h:q.den=1
 ·have e1:(((dd q.den).length:Int)==0)=true:=by rw [h];rfl
  have g:=one_spec
  rw [h]
  rw [h] at ld e1
  have e2:((1:Nat):Int)=1:=rfl
  rw [e2]
  simp only [encI,bv] at g
  simp -implicitDefEqProofs (maxSteps:=9^8) only [QoN,encI,encR,h,go_sem,Qac,Qab,iv,bv,ld,e1,g,reduceCtorEq,↓reduceIte,Nat.reduceEqDiff]
 ·rw [Qkz h] at ld
  have e1:(((digs q.den).length:Int)==0)=false:=Qcx (by have:=digs_length_pos.2 q.den_pos;omega)
  rw [Qbh]
  simp -implicitDefEqProofs (maxSteps:=9^8) only [QoN,encI,encR,Qkz h,go_sem,Qac,Qab,iv,bv,ld,e1,reduceCtorEq,↓reduceIte,Nat.reduceEqDiff]

theorem QfC (q:Rat):Qah G QaT [encR q]=some (.d (encI (q.den:Int))):=by
 rw [Qad (cf:=Qet) rfl]
 have ld:=QaZ (dd q.den)
 by_cases h:q.den=1
 ·have e1:(((dd q.den).length:Int)==0)=true:=by rw [h];rfl
  have g:=Qhs (n:=1) ⟨by omega,by omega⟩
  rw [h]
  rw [h] at ld e1
  have e2:((1:Nat):Int)=1:=rfl
  rw [e2]
  simp only [encI,bv,iv] at g
  simp -implicitDefEqProofs (maxSteps:=9^8) only [Qet,encI,encR,h,go_sem,Qac,Qab,iv,bv,ld,e1,g,reduceCtorEq,↓reduceIte,Nat.reduceEqDiff]
 ·rw [Qkz h] at ld
  have e1:(((digs q.den).length:Int)==0)=false:=Qcx (by have:=digs_length_pos.2 q.den_pos;omega)
  rw [Qbh]
  simp -implicitDefEqProofs (maxSteps:=9^8) only [Qet,encI,encR,Qkz h,go_sem,Qac,Qab,iv,bv,ld,e1,reduceCtorEq,↓reduceIte,Nat.reduceEqDiff]
end Go.AM

/- rat.lowest, Make, Of; ref05.Make, Of -/
namespace Go.AM
open Go Go.RowKit

theorem lenz {x:Int} (h:x=0):(((digs x.natAbs).length:Int)==0)=true:=by subst h;exact QkI (by rw [show (0:Int).natAbs=0 from rfl,Qax];rfl)
theorem Qop {x:Int} (h:x≠0):(((digs x.natAbs).length:Int)==0)=false:=Qcx (by have:=digs_length_pos.2 (show 0<x.natAbs by omega);omega)
theorem gcd_ediv {n d:Int} (hd:d≠0):Int.gcd (n/(Int.gcd n d:Nat)) (d/(Int.gcd n d:Nat))=1:=by
 have hg:0<Int.gcd n d:=QiN hd
 rw [Int.gcd_ediv (Int.gcd_dvd_left n d) (Int.gcd_dvd_right n d)]
 simp only [Int.natAbs_natCast]
 exact Nat.div_self hg
theorem Ql7 {n d:Int} (hd:d≠0):Rat.divInt (n/(Int.gcd n d:Nat)) (d/(Int.gcd n d:Nat))=Rat.divInt n d:=by
 have hg:0<Int.gcd n d:=QiN hd
 have h1:=Int.ediv_mul_cancel (Int.gcd_dvd_left n d)
 have h2:=Int.ediv_mul_cancel (Int.gcd_dvd_right n d)
 have:=Rat.divInt_mul_right (a:=(Int.gcd n d:Nat)) (n:=n/(Int.gcd n d:Nat)) (d:=d/(Int.gcd n d:Nat)) (by omega)
 rw [h1,h2] at this
 exact this.symm
theorem ediv_ne {n d:Int} (hd:d≠0):d/(Int.gcd n d:Nat)≠0:=by
 intro h
 have h2:=Int.ediv_mul_cancel (Int.gcd_dvd_right n d)
 rw [h,Int.zero_mul] at h2
 exact hd h2.symm
theorem Qrh {n:Int} {g:Nat}:nd (n/(g:Int))≤nd n:=QkV (by
 rcases Nat.eq_zero_or_pos g with h | h
 ·subst h;simp
 ·exact Int.natAbs_ediv_le_natAbs _ _)
variable [Its]

theorem QhA {n d:Int} (hd:d≠0) (hc:Int.gcd n d=1) (hdn:nd d≤1000000000000):Qah G QgJ [encI n,encI d]=some (.d (encR (Rat.divInt n d))):=by
 rw [Qad (cf:=Qf8) rfl]
 by_cases h:d<0
 ·have x1:decide (d<0)=true:=decide_eq_true h
  have g1:=Qn0 n
  have g2:=Qn0 d
  have g3:=QmG (-d) (by rw [nd_neg];exact hdn)
  have e:=QlY (n:=-n) (d:=-d) (by omega) (by rw [Int.gcd_neg,Int.neg_gcd];exact hc)
  rw [Rat.neg_divInt_neg] at e
  rw [e]
  clear e
  generalize -n=N at *
  obtain ⟨D,hD⟩:∃ D,-d=D:=⟨_,rfl⟩
  rw [hD] at g2 g3 ⊢
  simp only [encI,bv,iv] at g1 g2 g3
  rw [x1] at g2
  by_cases h1:D=1
  ·rw [decide_eq_true h1] at g3
   have f1:dg (dd D.natAbs)=.z true:=by subst h1;rfl
   simp -implicitDefEqProofs (maxSteps:=9^8) only [Qf8,encI,go_sem,Qac,Qab,iv,bv,x1,g1,g2,g3,f1,reduceCtorEq,↓reduceIte,Nat.reduceEqDiff]
  ·rw [decide_eq_false h1] at g3
   have f1:dd D.natAbs=digs D.natAbs:=Qkz (by omega)
   have f2:decide (D<0)=false:=decide_eq_false (by omega)
   rw [f2] at g2 g3
   simp -implicitDefEqProofs (maxSteps:=9^8) only [Qf8,encI,go_sem,Qac,Qab,iv,bv,x1,g1,g2,g3,f1,f2,reduceCtorEq,↓reduceIte,Nat.reduceEqDiff]
 ·have x1:decide (d<0)=false:=decide_eq_false h
  have g3:=QmG d hdn
  rw [QlY (n:=n) (d:=d) (by omega) hc]
  simp only [encI,bv,iv] at g3
  rw [x1] at g3
  by_cases h1:d=1
  ·rw [decide_eq_true h1] at g3
   have f1:dg (dd d.natAbs)=.z true:=by subst h1;rfl
   simp -implicitDefEqProofs (maxSteps:=9^8) only [Qf8,encI,go_sem,Qac,Qab,iv,bv,x1,g3,f1,reduceCtorEq,↓reduceIte,Nat.reduceEqDiff]
  ·rw [decide_eq_false h1] at g3
   have f1:dd d.natAbs=digs d.natAbs:=Qkz (by omega)
   simp -implicitDefEqProofs (maxSteps:=9^8) only [Qf8,encI,go_sem,Qac,Qab,iv,bv,x1,g3,f1,reduceCtorEq,↓reduceIte,Nat.reduceEqDiff]

theorem Qkj {n d:Int} (hn:nd n≤1000000000000) (hdn:nd d≤1000000000000):Qah G Qg8 [encI n,encI d]=some (.d (encR (Rat.divInt n d))):=by
 rw [Qad (cf:=QiR) rfl]
 have ln:=QaZ (digs n.natAbs)
 have ld:=QaZ (digs d.natAbs)
 by_cases hd:d=0
 ·have f1:=lenz hd
  have e:Rat.divInt n d=0:=by rw [hd,Rat.divInt_zero]
  rw [e,Qfr]
  simp -implicitDefEqProofs (maxSteps:=9^8) only [QiR,encI,go_sem,Qac,Qab,iv,bv,ln,ld,f1,reduceCtorEq,↓reduceIte,Nat.reduceEqDiff]
 have f1:=Qop hd
 by_cases hn0:n=0
 ·have f2:=lenz hn0
  have e:Rat.divInt n d=0:=by rw [hn0,Rat.zero_divInt]
  rw [e,Qfr]
  simp -implicitDefEqProofs (maxSteps:=9^8) only [QiR,encI,go_sem,Qac,Qab,iv,bv,ln,ld,f1,f2,reduceCtorEq,↓reduceIte,Nat.reduceEqDiff]
 have f2:=Qop hn0
 have g1:=Gcd_spec hn hdn
 have hg:0<Int.gcd n d:=QiN hd
 have hgn:nd ((Int.gcd n d:Nat):Int)≤1000000000000:=by
  refine Nat.le_trans (QkV ?_) hdn
  rw [Int.natAbs_natCast]
  exact Nat.le_of_dvd (by omega) (Int.gcd_dvd_natAbs_right n d)
 have g2:=QmG _ hgn
 by_cases h1:Int.gcd n d=1
 ·have g3:=QhA hd h1 hdn
  rw [decide_eq_true (show ((Int.gcd n d:Nat):Int)=1 by omega)] at g2
  rw [Qbh] at g1 g2
  simp only [encI,encR,bv,iv] at g1 g2 g3
  simp -implicitDefEqProofs (maxSteps:=9^8) only [QiR,encI,encR,go_sem,Qac,Qab,iv,bv,ln,ld,f1,f2,g1,g2,g3,reduceCtorEq,↓reduceIte,Nat.reduceEqDiff]
 ·rw [decide_eq_false (show ¬ ((Int.gcd n d:Nat):Int)=1 by omega)] at g2
  have g3:=QhA (n:=n/(Int.gcd n d:Nat)) (d:=d/(Int.gcd n d:Nat)) (ediv_ne hd) (gcd_ediv hd) (Nat.le_trans Qrh hdn)
  have g4:=Qsn (x:=n) (y:=(Int.gcd n d:Nat)) (by omega) hn hgn
  have g5:=Qsn (x:=d) (y:=(Int.gcd n d:Nat)) (by omega) hdn hgn
  rw [Ql7 hd] at g3
  rw [Qbh] at g1 g2 g4 g5
  generalize n/(Int.gcd n d:Nat)=N at *
  generalize d/(Int.gcd n d:Nat)=D at *
  generalize n%(Int.gcd n d:Nat)=M1 at *
  generalize d%(Int.gcd n d:Nat)=M2 at *
  simp only [encI,encR,bv,iv] at g1 g2 g3 g4 g5
  simp -implicitDefEqProofs (maxSteps:=9^8) only [QiR,encI,encR,go_sem,Qac,Qab,iv,bv,ln,ld,f1,f2,g1,g2,g3,g4,g5,Qbl,ne_eq,not_false_eq_true,reduceCtorEq,↓reduceIte,Nat.reduceEqDiff]

theorem Qf5 {n d:Int} (hn:I64 n) (hd:I64 d):Qah G QgC [iv n,iv d]=some (.d (encR (Rat.divInt n d))):=by
 rw [Qad (cf:=rat_Of) rfl]
 have g1:=QmU hn
 have g2:=QmU hd
 have g3:=Qkj (n:=n) (d:=d) (Nat.le_trans (Qhl hn) (by omega)) (Nat.le_trans (Qhl hd) (by omega))
 simp only [encI,encR,bv,iv] at g1 g2 g3
 simp -implicitDefEqProofs (maxSteps:=9^8) only [rat_Of,encI,encR,go_sem,Qac,Qab,iv,bv,g1,g2,g3,reduceCtorEq,↓reduceIte,Nat.reduceEqDiff]

theorem Qix {n d:Int} (hn:nd n≤1000000000000) (hdn:nd d≤999999999999):Qah G QcA [encI n,encI d]=some (.d (encR (Rat.divInt n d))):=by
 rw [Qad (cf:=QbI) rfl]
 have ln:=QaZ (digs n.natAbs)
 have ld:=QaZ (digs d.natAbs)
 by_cases hd:d=0
 ·have f1:=lenz hd
  have e:Rat.divInt n d=0:=by rw [hd,Rat.divInt_zero]
  rw [e,Qfr]
  simp -implicitDefEqProofs (maxSteps:=9^8) only [QbI,encI,go_sem,Qac,Qab,iv,bv,ln,ld,f1,reduceCtorEq,↓reduceIte,Nat.reduceEqDiff]
 have f1:=Qop hd
 by_cases hn0:n=0
 ·have f2:=lenz hn0
  have e:Rat.divInt n d=0:=by rw [hn0,Rat.zero_divInt]
  rw [e,Qfr]
  simp -implicitDefEqProofs (maxSteps:=9^8) only [QbI,encI,go_sem,Qac,Qab,iv,bv,ln,ld,f1,f2,reduceCtorEq,↓reduceIte,Nat.reduceEqDiff]
 have f2:=Qop hn0
 have g1:=rGcd_spec hn hdn
 have hg:0<Int.gcd n d:=QiN hd
 have hgn:nd ((Int.gcd n d:Nat):Int)≤999999999999:=by
  refine Nat.le_trans (QkV ?_) hdn
  rw [Int.natAbs_natCast]
  exact Nat.le_of_dvd (by omega) (Int.gcd_dvd_natAbs_right n d)
 have g4:=QmX (x:=n) (y:=(Int.gcd n d:Nat)) (by omega) hn hgn
 have g5:=QmX (x:=d) (y:=(Int.gcd n d:Nat)) (by omega) (by omega) hgn
 have hD:=ediv_ne (n:=n) hd
 have hc:=gcd_ediv (n:=n) hd
 have hDn:=Nat.le_trans (Qrh (n:=d) (g:=Int.gcd n d)) hdn
 have hNn:=Nat.le_trans (Qrh (n:=n) (g:=Int.gcd n d)) hn
 rw [← Ql7 hd]
 rw [Qbh] at g1 g4 g5
 generalize n/(Int.gcd n d:Nat)=N at *
 generalize d/(Int.gcd n d:Nat)=D at *
 generalize n%(Int.gcd n d:Nat)=M1 at *
 generalize d%(Int.gcd n d:Nat)=M2 at *
 by_cases h:D<0
 ·have x1:decide (D<0)=true:=decide_eq_true h
  have g6:=QmN (x:=N) hNn
  have g7:=QmN (x:=D) (by omega)
  have g3:=Qo7 (-D) (by rw [nd_neg];omega) (by omega)
  have e:=QlY (n:=-N) (d:=-D) (by omega) (by rw [Int.gcd_neg,Int.neg_gcd];exact hc)
  rw [Rat.neg_divInt_neg] at e
  rw [e]
  clear e
  have hpos:0 < -D:=by omega
  generalize -N=N2 at *
  obtain ⟨D2,hD2⟩:∃ D2,-D=D2:=⟨_,rfl⟩
  rw [hD2] at g7 g3 hpos ⊢
  simp only [encI,bv,iv] at g1 g3 g4 g5 g6 g7
  rw [x1] at g5 g7
  by_cases h1:D2=1
  ·rw [decide_eq_true h1] at g3
   have f3:dg (dd D2.natAbs)=.z true:=by subst h1;rfl
   simp -implicitDefEqProofs (maxSteps:=9^8) only [QbI,encI,go_sem,Qac,Qab,iv,bv,ln,ld,f1,f2,x1,g1,g4,g5,g6,g7,g3,f3,Qbl,ne_eq,not_false_eq_true,reduceCtorEq,↓reduceIte,Nat.reduceEqDiff]
  ·rw [decide_eq_false h1] at g3
   have f3:dd D2.natAbs=digs D2.natAbs:=Qkz (by omega)
   have f4:decide (D2<0)=false:=decide_eq_false (by omega)
   rw [f4] at g3 g7
   simp -implicitDefEqProofs (maxSteps:=9^8) only [QbI,encI,go_sem,Qac,Qab,iv,bv,ln,ld,f1,f2,x1,g1,g4,g5,g6,g7,g3,f3,f4,Qbl,ne_eq,not_false_eq_true,reduceCtorEq,↓reduceIte,Nat.reduceEqDiff]
 ·have x1:decide (D<0)=false:=decide_eq_false h
  have g3:=Qo7 D (by omega) (by omega)
  rw [QlY (n:=N) (d:=D) (by omega) hc]
  simp only [encI,bv,iv] at g1 g3 g4 g5
  rw [x1] at g3 g5
  by_cases h1:D=1
  ·rw [decide_eq_true h1] at g3
   have f3:dg (dd D.natAbs)=.z true:=by subst h1;rfl
   simp -implicitDefEqProofs (maxSteps:=9^8) only [QbI,encI,go_sem,Qac,Qab,iv,bv,ln,ld,f1,f2,x1,g1,g4,g5,g3,f3,Qbl,ne_eq,not_false_eq_true,reduceCtorEq,↓reduceIte,Nat.reduceEqDiff]
  ·rw [decide_eq_false h1] at g3
   have f3:dd D.natAbs=digs D.natAbs:=Qkz (by omega)
   simp -implicitDefEqProofs (maxSteps:=9^8) only [QbI,encI,go_sem,Qac,Qab,iv,bv,ln,ld,f1,f2,x1,g1,g4,g5,g3,f3,Qbl,ne_eq,not_false_eq_true,reduceCtorEq,↓reduceIte,Nat.reduceEqDiff]

theorem Qc3 {n d:Int} (hn:I64 n) (hd:I64 d):Qah G Qap [iv n,iv d]=some (.d (encR (Rat.divInt n d))):=by
 rw [Qad (cf:=Qg0) rfl]
 have g1:=Qhs hn
 have g2:=Qhs hd
 have g3:=Qix (n:=n) (d:=d) (Nat.le_trans (Qhl hn) (by omega)) (Nat.le_trans (Qhl hd) (by omega))
 simp only [encI,encR,bv,iv] at g1 g2 g3
 simp -implicitDefEqProofs (maxSteps:=9^8) only [Qg0,encI,encR,go_sem,Qac,Qab,iv,bv,g1,g2,g3,reduceCtorEq,↓reduceIte,Nat.reduceEqDiff]
end Go.AM

/- Laws of rationals for rat and ref05. -/
namespace Go.AM
open Go Go.RowKit

theorem QsO:nd 1=1:=by rw [nd,show (1:Int).natAbs=1 from rfl,QoX];rfl
theorem nd_pos {n:Nat} (h:0<n):1≤nd (n:Int):=digs_length_pos.2 h
theorem Qsm (q:Rat):1≤sz q:=Nat.le_trans (nd_pos q.den_pos) (QcM (Nat.le_refl _))
theorem nd_dvd {a b:Int} (h:a∣b) (hb:b≠0):nd a≤nd b:=QkV (Nat.le_of_dvd (by omega) (Int.natAbs_dvd_natAbs.2 h))
theorem Qle {n d:Int} (hd:d≠0):(Rat.divInt n d).num∣n∧((Rat.divInt n d).den:Int)∣d:=by
 obtain ⟨m,h1,h2,h3⟩:=Rat.divInt_num_den (n:=n) (d:=d) (n':=(Rat.divInt n d).num) (d':=(Rat.divInt n d).den) (z':=(Rat.divInt n d).den_nz) (c:=(Rat.divInt n d).reduced) hd rfl
 exact ⟨⟨m,h2⟩,⟨m,h3⟩⟩
theorem Qfu {n d:Int} {k:Nat} (hk:1≤k) (hn:nd n≤k) (hd:nd d≤k):sz (Rat.divInt n d)≤k:=by
 by_cases h0:d=0
 ·subst h0
  rw [Rat.divInt_zero]
  exact sz_le (by rw [Rat.zero_num,Ql5];omega) (by rw [Rat.zero_den];exact Nat.le_trans (Nat.le_of_eq QsO) hk)
 ·obtain ⟨h1,h2⟩:=Qle (n:=n) h0
  refine sz_le ?_ (Nat.le_trans (nd_dvd h2 h0) hd)
  by_cases hn0:n=0
  ·subst hn0
   rw [Rat.zero_divInt,Rat.zero_num,Ql5];omega
  ·exact Nat.le_trans (nd_dvd h1 hn0) hn
theorem Qk4 (a b:Rat):a+b=Rat.divInt (a.num*b.den+b.num*a.den) ((a.den:Int)*b.den):=by
 rw [Rat.add_def',← Rat.divInt_ofNat,Int.natCast_mul]
theorem QiA (a b:Rat):a*b=Rat.divInt (a.num*b.num) ((a.den:Int)*b.den):=by
 rw [Rat.mul_def',← Rat.divInt_ofNat,Int.natCast_mul]
theorem QnB (a b:Rat):a/b=Rat.divInt (a.num*b.den) ((a.den:Int)*b.num):=by
 rw [Rat.div_def,Rat.inv_def]
 conv=>lhs;rw [← Rat.num_divInt_den a]
 rw [Rat.divInt_mul_divInt]
theorem Qmx (b:Rat):b⁻¹=Rat.divInt b.den b.num:=Rat.inv_def b
theorem Qkt {a b:Rat}:sz (a+b)≤sz a+sz b+1:=by
 rw [Qk4]
 have a1:=QcG (Nat.le_refl (sz a));have a2:=QcM (Nat.le_refl (sz a))
 have b1:=QcG (Nat.le_refl (sz b));have b2:=QcM (Nat.le_refl (sz b))
 have m1:=Qdm (x:=a.num) (y:=b.den)
 have m2:=Qdm (x:=b.num) (y:=a.den)
 have m3:=Qdm (x:=a.den) (y:=b.den)
 exact Qfu (by omega) (nd_add (by omega) (by omega)) (by omega)
theorem QgM {a b:Rat}:sz (a*b)≤sz a+sz b:=by
 rw [QiA]
 have a1:=QcG (Nat.le_refl (sz a));have a2:=QcM (Nat.le_refl (sz a))
 have b1:=QcG (Nat.le_refl (sz b));have b2:=QcM (Nat.le_refl (sz b))
 have m1:=Qdm (x:=a.num) (y:=b.num)
 have m3:=Qdm (x:=a.den) (y:=b.den)
 have:=Qsm a
 exact Qfu (by omega) (by omega) (by omega)
theorem Qnk {a b:Rat}:sz (a/b)≤sz a+sz b:=by
 rw [QnB]
 have a1:=QcG (Nat.le_refl (sz a));have a2:=QcM (Nat.le_refl (sz a))
 have b1:=QcG (Nat.le_refl (sz b));have b2:=QcM (Nat.le_refl (sz b))
 have m1:=Qdm (x:=a.num) (y:=b.den)
 have m3:=Qdm (x:=a.den) (y:=b.num)
 have:=Qsm a
 exact Qfu (by omega) (by omega) (by omega)
theorem QrN (a:Rat):sz (-a)=sz a:=by rw [sz,sz,Rat.neg_num,Rat.neg_den,nd_neg]
theorem sz_inv {b:Rat}:sz (b⁻¹)≤sz b:=by
 rw [Qmx]
 exact Qfu (Qsm b) (QcM (Nat.le_refl _)) (QcG (Nat.le_refl _))

theorem QiV {a:Rat} (h:a.den=1):a=(a.num:Rat):=Rat.ext rfl h
theorem add_whole {a b:Rat} (ha:a.den=1) (hb:b.den=1):(a+b).num=a.num+b.num∧(a+b).den=1:=by
 have e:a+b=((a.num+b.num:Int):Rat):=by
  rw [Rat.intCast_add,← QiV ha,← QiV hb]
 rw [e];exact ⟨rfl,rfl⟩
theorem mul_whole {a b:Rat} (ha:a.den=1) (hb:b.den=1):(a*b).num=a.num*b.num∧(a*b).den=1:=by
 have e:a*b=((a.num*b.num:Int):Rat):=by
  rw [Rat.intCast_mul,← QiV ha,← QiV hb]
 rw [e];exact ⟨rfl,rfl⟩
theorem Qj6 {a:Rat} (h:a.num=0):a=0:=Rat.num_eq_zero.1 h
theorem cross (a b:Rat):Int.gcd ((Rat.divInt a.num b.den).num*(Rat.divInt b.num a.den).num) (((Rat.divInt a.num b.den).den:Int)*(Rat.divInt b.num a.den).den)=1:=by
 have hp:=(Rat.divInt a.num b.den).reduced
 have hq:=(Rat.divInt b.num a.den).reduced
 obtain ⟨p1,p2⟩:=Qle (n:=a.num) (d:=b.den) (by have:=b.den_pos;omega)
 obtain ⟨q1,q2⟩:=Qle (n:=b.num) (d:=a.den) (by have:=a.den_pos;omega)
 generalize Rat.divInt a.num b.den=p at *
 generalize Rat.divInt b.num a.den=q at *
 have c1:Nat.Coprime p.num.natAbs q.den:=Nat.Coprime.coprime_dvd_left (Int.natAbs_dvd_natAbs.2 p1) (Nat.Coprime.coprime_dvd_right (Int.natCast_dvd_natCast.1 q2) a.reduced)
 have c2:Nat.Coprime q.num.natAbs p.den:=Nat.Coprime.coprime_dvd_left (Int.natAbs_dvd_natAbs.2 q1) (Nat.Coprime.coprime_dvd_right (Int.natCast_dvd_natCast.1 p2) b.reduced)
 have e:Nat.Coprime (p.num.natAbs*q.num.natAbs) (p.den*q.den) :=
  Nat.Coprime.mul_left (Nat.Coprime.mul_right hp c1) (Nat.Coprime.mul_right c2 hq)
 rw [Int.gcd,Int.natAbs_mul,Int.natAbs_mul,Int.natAbs_natCast,Int.natAbs_natCast]
 exact e
theorem cross_val (a b:Rat):Rat.divInt ((Rat.divInt a.num b.den).num*(Rat.divInt b.num a.den).num) (((Rat.divInt a.num b.den).den:Int)*(Rat.divInt b.num a.den).den)=a*b:=by
 rw [← QiA,Rat.divInt_mul_divInt,QiA,Int.mul_comm (b.den:Int)]

def cmpR (a b:Rat):Int:=Int.sign (a.num*b.den-b.num*a.den)
theorem Qlz {x y:Int} (h:0<y):Int.sign (x*y)=Int.sign x:=by rw [Int.sign_mul,Int.sign_eq_one_of_pos h,Int.mul_one]
theorem Qtz {a b:Rat} (h:Int.sign a.num≠Int.sign b.num∨Int.sign a.num=0):Int.sign (Int.sign a.num-Int.sign b.num)=cmpR a b:=by
 have hb:(0:Int)<b.den:=by have:=b.den_pos;omega
 have ha:(0:Int)<a.den:=by have:=a.den_pos;omega
 have e1:=Qlz (x:=a.num) hb
 have e2:=Qlz (x:=b.num) ha
 rw [cmpR]
 rw [← e1,← e2] at h ⊢
 generalize a.num*(b.den:Int)=X at *
 generalize b.num*(a.den:Int)=Y at *
 rcases Int.lt_trichotomy X 0 with hx | hx | hx<;>rcases Int.lt_trichotomy Y 0 with hy | hy | hy
 ·rw [Int.sign_eq_neg_one_of_neg hx,Int.sign_eq_neg_one_of_neg hy] at h;omega
 ·rw [Int.sign_eq_neg_one_of_neg hx,hy,Int.sign_eq_neg_one_of_neg (show X-0<0 by omega)];rfl
 ·rw [Int.sign_eq_neg_one_of_neg hx,Int.sign_eq_one_of_pos hy,Int.sign_eq_neg_one_of_neg (show X-Y<0 by omega)];rfl
 ·rw [hx,Int.sign_eq_neg_one_of_neg hy,Int.sign_eq_one_of_pos (show 0<0-Y by omega)];rfl
 ·rw [hx,hy];rfl
 ·rw [hx,Int.sign_eq_one_of_pos hy,Int.sign_eq_neg_one_of_neg (show 0-Y<0 by omega)];rfl
 ·rw [Int.sign_eq_one_of_pos hx,Int.sign_eq_neg_one_of_neg hy,Int.sign_eq_one_of_pos (show 0<X-Y by omega)];rfl
 ·rw [Int.sign_eq_one_of_pos hx,hy,Int.sign_eq_one_of_pos (show 0<X-0 by omega)];rfl
 ·rw [Int.sign_eq_one_of_pos hx,Int.sign_eq_one_of_pos hy] at h;omega
theorem QqN {a b:Rat}:cmpR a b<0↔a<b:=by
 rw [Rat.lt_iff,cmpR,Int.sign_neg_iff];omega
theorem cmpR_le {a b:Rat}:cmpR a b≤0↔a≤b:=by
 rw [Rat.le_iff,cmpR]
 rcases Int.lt_trichotomy (a.num*b.den-b.num*a.den) 0 with h | h | h
 ·rw [Int.sign_eq_neg_one_of_neg h];omega
 ·rw [h];simp;omega
 ·rw [Int.sign_eq_one_of_pos h];omega
theorem cmpR_eq {a b:Rat}:cmpR a b=0↔a=b:=by
 rw [Rat.eq_iff_mul_eq_mul,cmpR,Int.sign_eq_zero_iff_zero];omega
end Go.AM

/- rat.Neg, Sign, Add, Sub, Mul, Div, Compare -/
namespace Go.AM
open Go Go.RowKit

theorem dden {a:Rat} (h:a.den=1):dg (dd a.den)=.z true:=by rw [h];rfl
theorem QcJ (a:Rat):encI (a.den:Int)=.agg [.v (.bool false),dg (digs a.den)]:=Qbh a.den
theorem Qpu {a:Rat} (h:a.den=1):(((dd a.den).length:Int)==0)=true:=by rw [h];rfl
theorem QpJ {a:Rat} (h:a.den≠1):(((dd a.den).length:Int)==0)=false:=by
 rw [Qkz h];exact Qcx (by have:=digs_length_pos.2 a.den_pos;omega)
variable [Its]

theorem QjC (a:Rat):Qah G Qka [encR a]=some (.d (encR (-a))):=by
 rw [Qad (cf:=Qq8) rfl]
 have g:=Qn0 a.num
 have e:encR (-a)=.agg [.v (.bool (decide (-a.num<0))),dg (digs (-a.num).natAbs),.v (.bool false),dg (dd a.den)]:=rfl
 rw [e]
 clear e
 generalize -a.num=N at *
 simp only [encI,bv,iv] at g
 simp -implicitDefEqProofs (maxSteps:=9^8) only [Qq8,encR,go_sem,Qac,Qab,iv,bv,g,reduceCtorEq,↓reduceIte,Nat.reduceEqDiff]

theorem Qdx (a:Rat):Qah G Qep [encR a]=some (.d (iv (Int.sign a.num))):=by
 rw [Qad (cf:=Qn9) rfl]
 have g:=Sign_spec a.num
 simp only [encI,bv,iv] at g
 simp -implicitDefEqProofs (maxSteps:=9^8) only [Qn9,encR,go_sem,Qac,Qab,iv,bv,g,reduceCtorEq,↓reduceIte,Nat.reduceEqDiff]

theorem QeT {a b:Rat} (ha:sz a≤100000000000) (hb:sz b≤100000000000):Qah G Qgr [encR a,encR b]=some (.d (encR (a+b))):=by
 rw [Qad (cf:=Qhw) rfl]
 have a1:=QcG ha;have a2:=QcM ha;have b1:=QcG hb;have b2:=QcM hb
 have la:=QaZ (digs a.num.natAbs)
 have lb:=QaZ (digs b.num.natAbs)
 have ea:=QaZ (dd a.den)
 have eb:=QaZ (dd b.den)
 by_cases h1:a.den=1∧b.den=1
 ·obtain ⟨w1,w2⟩:=add_whole h1.1 h1.2
  have u1:=Qpu h1.1
  have u2:=Qpu h1.2
  have g:=QrD (x:=a.num) (y:=b.num) (by omega) (by omega)
  have e:encR (a+b)=.agg [.v (.bool (decide (a.num+b.num<0))),dg (digs (a.num+b.num).natAbs),.v (.bool false),.z true]:=by rw [encR,w1,dden w2]
  rw [e]
  clear e w1 w2
  generalize a.num+b.num=N at *
  simp only [encI,bv,iv] at g
  simp -implicitDefEqProofs (maxSteps:=9^8) only [Qhw,encR,go_sem,Qac,Qab,iv,bv,la,lb,ea,eb,u1,u2,g,reduceCtorEq,↓reduceIte,Nat.reduceEqDiff]
 ·have m1:=Qdm (x:=a.num) (y:=b.den)
  have m2:=Qdm (x:=b.num) (y:=a.den)
  have m3:=Qdm (x:=a.den) (y:=b.den)
  have g1:=QfY a
  have g2:=QfY b
  have g3:=QgL (x:=a.num) (y:=b.den) (by omega) (by omega)
  have g4:=QgL (x:=b.num) (y:=a.den) (by omega) (by omega)
  have g5:=QgL (x:=a.den) (y:=b.den) (by omega) (by omega)
  have g6:=QrD (x:=a.num*b.den) (y:=b.num*a.den) (by omega) (by omega)
  have g7:=Qkj (n:=a.num*b.den+b.num*a.den) (d:=(a.den:Int)*b.den) (Nat.le_trans (nd_add (k:=200000000000) (by omega) (by omega)) (by omega)) (by omega)
  rw [← Qk4] at g7
  rw [QcJ] at g1 g2 g3 g4
  rw [QcJ,QcJ] at g5
  generalize a.num*(b.den:Int)+b.num*(a.den:Int)=N at *
  generalize a.num*(b.den:Int)=N1 at *
  generalize b.num*(a.den:Int)=N2 at *
  generalize (a.den:Int)*(b.den:Int)=D at *
  by_cases h2:a.num=0
  ·have z1:=lenz h2
   have e:a+b=b:=by rw [Qj6 h2,Rat.zero_add]
   rw [e]
   by_cases h3:a.den=1
   ·have u1:=Qpu h3
    have u2:=QpJ (fun h=>h1 ⟨h3,h⟩)
    simp -implicitDefEqProofs (maxSteps:=9^8) only [Qhw,encR,go_sem,Qac,Qab,iv,bv,la,lb,ea,eb,u1,u2,z1,reduceCtorEq,↓reduceIte,Nat.reduceEqDiff]
   ·have u1:=QpJ h3
    simp -implicitDefEqProofs (maxSteps:=9^8) only [Qhw,encR,go_sem,Qac,Qab,iv,bv,la,lb,ea,eb,u1,z1,reduceCtorEq,↓reduceIte,Nat.reduceEqDiff]
  ·have z1:=Qop h2
   by_cases h4:b.num=0
   ·have z2:=lenz h4
    have e:a+b=a:=by rw [Qj6 h4,Rat.add_zero]
    rw [e]
    by_cases h3:a.den=1
    ·have u1:=Qpu h3
     have u2:=QpJ (fun h=>h1 ⟨h3,h⟩)
     simp -implicitDefEqProofs (maxSteps:=9^8) only [Qhw,encR,go_sem,Qac,Qab,iv,bv,la,lb,ea,eb,u1,u2,z1,z2,reduceCtorEq,↓reduceIte,Nat.reduceEqDiff]
    ·have u1:=QpJ h3
     simp -implicitDefEqProofs (maxSteps:=9^8) only [Qhw,encR,go_sem,Qac,Qab,iv,bv,la,lb,ea,eb,u1,z1,z2,reduceCtorEq,↓reduceIte,Nat.reduceEqDiff]
   ·have z2:=Qop h4
    generalize a+b=S at *
    simp only [encI,encR,bv,iv] at g1 g2 g3 g4 g5 g6 g7
    by_cases h3:a.den=1
    ·have u1:=Qpu h3
     have u2:=QpJ (fun h=>h1 ⟨h3,h⟩)
     simp -implicitDefEqProofs (maxSteps:=9^8) only [Qhw,encR,go_sem,Qac,Qab,iv,bv,la,lb,ea,eb,u1,u2,z1,z2,g1,g2,g3,g4,g5,g6,g7,Qbl,ne_eq,not_false_eq_true,reduceCtorEq,↓reduceIte,Nat.reduceEqDiff]
    ·have u1:=QpJ h3
     simp -implicitDefEqProofs (maxSteps:=9^8) only [Qhw,encR,go_sem,Qac,Qab,iv,bv,la,lb,ea,eb,u1,z1,z2,g1,g2,g3,g4,g5,g6,g7,Qbl,ne_eq,not_false_eq_true,reduceCtorEq,↓reduceIte,Nat.reduceEqDiff]

theorem Qrx {a b:Rat} (ha:sz a≤100000000000) (hb:sz b≤100000000000):Qah G QpX [encR a,encR b]=some (.d (encR (a-b))):=by
 rw [Qad (cf:=Qq4) rfl]
 have g1:=QjC b
 have g2:=QeT (a:=a) (b:=-b) ha (by rw [QrN];exact hb)
 rw [← Rat.sub_eq_add_neg] at g2
 generalize -b=B at *
 simp only [encR,bv,iv] at g1 g2
 simp -implicitDefEqProofs (maxSteps:=9^8) only [Qq4,encR,go_sem,Qac,Qab,iv,bv,g1,g2,reduceCtorEq,↓reduceIte,Nat.reduceEqDiff]

theorem Qdw {a b:Rat} (ha:sz a≤100000000000) (hb:sz b≤100000000000):Qah G QeD [encR a,encR b]=some (.d (encR (a*b))):=by
 rw [Qad (cf:=Qjn) rfl]
 have a1:=QcG ha;have a2:=QcM ha;have b1:=QcG hb;have b2:=QcM hb
 have la:=QaZ (digs a.num.natAbs)
 have lb:=QaZ (digs b.num.natAbs)
 have ea:=QaZ (dd a.den)
 have eb:=QaZ (dd b.den)
 by_cases h2:a.num=0
 ·have z1:=lenz h2
  have e:a*b=0:=by rw [Qj6 h2,Rat.zero_mul]
  rw [e,Qfr]
  simp -implicitDefEqProofs (maxSteps:=9^8) only [Qjn,encR,go_sem,Qac,Qab,iv,bv,la,lb,ea,eb,z1,reduceCtorEq,↓reduceIte,Nat.reduceEqDiff]
 have z1:=Qop h2
 by_cases h4:b.num=0
 ·have z2:=lenz h4
  have e:a*b=0:=by rw [Qj6 h4,Rat.mul_zero]
  rw [e,Qfr]
  simp -implicitDefEqProofs (maxSteps:=9^8) only [Qjn,encR,go_sem,Qac,Qab,iv,bv,la,lb,ea,eb,z1,z2,reduceCtorEq,↓reduceIte,Nat.reduceEqDiff]
 have z2:=Qop h4
 by_cases h1:a.den=1∧b.den=1
 ·obtain ⟨w1,w2⟩:=mul_whole h1.1 h1.2
  have u1:=Qpu h1.1
  have u2:=Qpu h1.2
  have g:=QgL (x:=a.num) (y:=b.num) (by omega) (by omega)
  have e:encR (a*b)=.agg [.v (.bool (decide (a.num*b.num<0))),dg (digs (a.num*b.num).natAbs),.v (.bool false),.z true]:=by rw [encR,w1,dden w2]
  rw [e]
  clear e w1 w2
  generalize a.num*b.num=N at *
  simp only [encI,bv,iv] at g
  simp -implicitDefEqProofs (maxSteps:=9^8) only [Qjn,encR,go_sem,Qac,Qab,iv,bv,la,lb,ea,eb,u1,u2,z1,z2,g,reduceCtorEq,↓reduceIte,Nat.reduceEqDiff]
 ·have g1:=QfY a
  have g2:=QfY b
  have g3:=Qkj (n:=a.num) (d:=b.den) (by omega) (by omega)
  have g4:=Qkj (n:=b.num) (d:=a.den) (by omega) (by omega)
  have k1:=Qfu (n:=a.num) (d:=b.den) (k:=100000000000) (by omega) a1 b2
  have k2:=Qfu (n:=b.num) (d:=a.den) (k:=100000000000) (by omega) b1 a2
  have cr:=cross a b
  have cv:=cross_val a b
  generalize Rat.divInt a.num b.den=p at *
  generalize Rat.divInt b.num a.den=q at *
  have p1:=QcG k1;have p2:=QcM k1;have q1:=QcG k2;have q2:=QcM k2
  have m1:=Qdm (x:=p.num) (y:=q.num)
  have m2:=Qdm (x:=p.den) (y:=q.den)
  have g5:=QfY p
  have g6:=QfY q
  have g7:=QgL (x:=p.num) (y:=q.num) (by omega) (by omega)
  have g8:=QgL (x:=p.den) (y:=q.den) (by omega) (by omega)
  have hne:(p.den:Int)*(q.den:Int)≠0:=Int.mul_ne_zero (by have:=p.den_pos;omega) (by have:=q.den_pos;omega)
  have g9:=QhA (n:=p.num*q.num) (d:=(p.den:Int)*q.den) hne cr (by omega)
  rw [cv] at g9
  rw [QcJ] at g1 g2 g3 g4 g5 g6
  rw [QcJ,QcJ] at g8
  generalize p.num*q.num=N at *
  generalize (p.den:Int)*(q.den:Int)=D at *
  generalize a*b=S at *
  simp only [encI,encR,bv,iv] at g1 g2 g3 g4 g5 g6 g7 g8 g9
  by_cases h3:a.den=1
  ·have u1:=Qpu h3
   have u2:=QpJ (fun h=>h1 ⟨h3,h⟩)
   simp -implicitDefEqProofs (maxSteps:=9^8) only [Qjn,encR,go_sem,Qac,Qab,iv,bv,la,lb,ea,eb,u1,u2,z1,z2,g1,g2,g3,g4,g5,g6,g7,g8,g9,Qbl,ne_eq,not_false_eq_true,reduceCtorEq,↓reduceIte,Nat.reduceEqDiff]
  ·have u1:=QpJ h3
   simp -implicitDefEqProofs (maxSteps:=9^8) only [Qjn,encR,go_sem,Qac,Qab,iv,bv,la,lb,ea,eb,u1,z1,z2,g1,g2,g3,g4,g5,g6,g7,g8,g9,Qbl,ne_eq,not_false_eq_true,reduceCtorEq,↓reduceIte,Nat.reduceEqDiff]

theorem Qjx {a b:Rat} (ha:sz a≤100000000000) (hb:sz b≤100000000000):Qah G Qkk [encR a,encR b]=some (.d (encR (a/b))):=by
 rw [Qad (cf:=QoW) rfl]
 have b1:=QcG hb;have b2:=QcM hb
 have lb:=QaZ (digs b.num.natAbs)
 by_cases h4:b.num=0
 ·have z2:=lenz h4
  have e:a/b=0:=by rw [Qj6 h4,Rat.div_def,Rat.inv_zero,Rat.mul_zero]
  rw [e,Qfr]
  simp -implicitDefEqProofs (maxSteps:=9^8) only [QoW,encR,go_sem,Qac,Qab,iv,bv,lb,z2,reduceCtorEq,↓reduceIte,Nat.reduceEqDiff]
 have z2:=Qop h4
 have g1:=QfY b
 have hc:Int.gcd (b.den:Int) b.num=1:=by
  have:=b.reduced
  rw [Int.gcd_comm]
  exact this
 have g2:=QhA (n:=b.den) (d:=b.num) h4 hc (by omega)
 rw [← Qmx] at g2
 have g3:=Qdw (a:=a) (b:=b⁻¹) ha (Nat.le_trans sz_inv hb)
 rw [← Rat.div_def] at g3
 rw [QcJ] at g1 g2
 generalize a/b=S at *
 generalize b⁻¹=B at *
 simp only [encI,encR,bv,iv] at g1 g2 g3
 simp -implicitDefEqProofs (maxSteps:=9^8) only [QoW,encR,go_sem,Qac,Qab,iv,bv,lb,z2,g1,g2,g3,reduceCtorEq,↓reduceIte,Nat.reduceEqDiff]

theorem Qev {a b:Rat} (ha:sz a≤100000000000) (hb:sz b≤100000000000):Qah G Qf4 [encR a,encR b]=some (.d (iv (cmpR a b))):=by
 rw [Qad (cf:=Qgf) rfl]
 have a1:=QcG ha;have a2:=QcM ha;have b1:=QcG hb;have b2:=QcM hb
 have g1:=Qdx a
 have g2:=Qdx b
 have s1:-1≤Int.sign a.num∧Int.sign a.num≤1:=by
  rcases Int.lt_trichotomy a.num 0 with h | h | h
  ·rw [Int.sign_eq_neg_one_of_neg h];omega
  ·rw [h];simp
  ·rw [Int.sign_eq_one_of_pos h];omega
 have s2:-1≤Int.sign b.num∧Int.sign b.num≤1:=by
  rcases Int.lt_trichotomy b.num 0 with h | h | h
  ·rw [Int.sign_eq_neg_one_of_neg h];omega
  ·rw [h];simp
  ·rw [Int.sign_eq_one_of_pos h];omega
 have i1:I64 (Int.sign a.num):=⟨by omega,by omega⟩
 have i2:I64 (Int.sign b.num):=⟨by omega,by omega⟩
 by_cases h:Int.sign a.num≠Int.sign b.num∨Int.sign a.num=0
 ·have g3:=QmU i1
  have g4:=QmU i2
  have n1:nd (Int.sign a.num)≤3:=Qhl i1
  have n2:nd (Int.sign b.num)≤3:=Qhl i2
  have g5:=Qlh (x:=Int.sign a.num) (y:=Int.sign b.num) (by omega) (by omega)
  rw [Qtz h] at g5
  generalize Int.sign a.num=X at *
  generalize Int.sign b.num=Y at *
  simp only [encI,encR,bv,iv] at g1 g2 g3 g4 g5
  by_cases hxy:X=Y
  ·subst hxy
   have u1:(X != X)=false:=by simp
   have u2:(X==0)=true:=QkI (by rcases h with h | h;exact absurd rfl h;exact h)
   simp -implicitDefEqProofs (maxSteps:=9^8) only [Qgf,encR,go_sem,Qac,Qab,iv,bv,u1,u2,g1,g2,g3,g4,g5,reduceCtorEq,↓reduceIte,Nat.reduceEqDiff]
  ·have u1:(X != Y)=true:=by rw [bne,Qcx hxy];rfl
   simp -implicitDefEqProofs (maxSteps:=9^8) only [Qgf,encR,go_sem,Qac,Qab,iv,bv,u1,g1,g2,g3,g4,g5,reduceCtorEq,↓reduceIte,Nat.reduceEqDiff]
 ·have hxy:Int.sign a.num=Int.sign b.num:=by omega
  have hx0:Int.sign a.num≠0:=by omega
  have u1:(Int.sign a.num != Int.sign b.num)=false:=by rw [bne,QkI hxy];rfl
  have u2:(Int.sign a.num==0)=false:=Qcx hx0
  have m1:=Qdm (x:=a.num) (y:=b.den)
  have m2:=Qdm (x:=b.num) (y:=a.den)
  have g3:=QfY a
  have g4:=QfY b
  have g5:=QgL (x:=a.num) (y:=b.den) (by omega) (by omega)
  have g6:=QgL (x:=b.num) (y:=a.den) (by omega) (by omega)
  have g7:=Qlh (x:=a.num*b.den) (y:=b.num*a.den) (by omega) (by omega)
  have e:Int.sign (a.num*b.den-b.num*a.den)=cmpR a b:=rfl
  rw [e] at g7
  clear e
  rw [QcJ] at g3 g4 g5 g6
  generalize a.num*(b.den:Int)=N1 at *
  generalize b.num*(a.den:Int)=N2 at *
  simp only [encI,encR,bv,iv] at g1 g2 g3 g4 g5 g6 g7
  simp -implicitDefEqProofs (maxSteps:=9^8) only [Qgf,encR,go_sem,Qac,Qab,iv,bv,u1,u2,g1,g2,g3,g4,g5,g6,g7,reduceCtorEq,↓reduceIte,Nat.reduceEqDiff]
end Go.AM

/- ref05.Neg, Sign, Add, Sub, Mul, Div, Compare -/
namespace Go.AM
open Go Go.RowKit
variable [Its]

theorem QgO {a:Rat} (ha:sz a≤100000000000):Qah G QcP [encR a]=some (.d (encR (-a))):=by
 rw [Qad (cf:=Qgo) rfl]
 have a1:=QcG ha
 have g:=QmN (x:=a.num) (by omega)
 have e:encR (-a)=.agg [.v (.bool (decide (-a.num<0))),dg (digs (-a.num).natAbs),.v (.bool false),dg (dd a.den)]:=rfl
 rw [e]
 clear e
 generalize -a.num=N at *
 simp only [encI,bv,iv] at g
 simp -implicitDefEqProofs (maxSteps:=9^8) only [Qgo,encR,go_sem,Qac,Qab,iv,bv,g,reduceCtorEq,↓reduceIte,Nat.reduceEqDiff]

theorem Qf3 {a:Rat} (ha:sz a≤100000000000):Qah G Qdh [encR a]=some (.d (iv (Int.sign a.num))):=by
 rw [Qad (cf:=QfH) rfl]
 have a1:=QcG ha
 have g:=Qtq (x:=a.num) (by omega)
 simp only [encI,bv,iv] at g
 simp -implicitDefEqProofs (maxSteps:=9^8) only [QfH,encR,go_sem,Qac,Qab,iv,bv,g,reduceCtorEq,↓reduceIte,Nat.reduceEqDiff]

theorem Qfq {a b:Rat} (ha:sz a≤100000000000) (hb:sz b≤100000000000):Qah G Qcf [encR a,encR b]=some (.d (encR (a+b))):=by
 rw [Qad (cf:=Qgb) rfl]
 have a1:=QcG ha;have a2:=QcM ha;have b1:=QcG hb;have b2:=QcM hb
 have m1:=Qdm (x:=a.num) (y:=b.den)
 have m2:=Qdm (x:=b.num) (y:=a.den)
 have m3:=Qdm (x:=a.den) (y:=b.den)
 have g1:=QfC a
 have g2:=QfC b
 have g3:=Qd2 (x:=a.num) (y:=b.den) (by omega) (by omega)
 have g4:=Qd2 (x:=b.num) (y:=a.den) (by omega) (by omega)
 have g5:=Qd2 (x:=a.den) (y:=b.den) (by omega) (by omega)
 have g6:=QpB (x:=a.num*b.den) (y:=b.num*a.den) (by omega) (by omega)
 have g7:=Qix (n:=a.num*b.den+b.num*a.den) (d:=(a.den:Int)*b.den) (Nat.le_trans (nd_add (k:=200000000000) (by omega) (by omega)) (by omega)) (by omega)
 rw [← Qk4] at g7
 rw [QcJ] at g1 g2 g3 g4
 rw [QcJ,QcJ] at g5
 generalize a.num*(b.den:Int)+b.num*(a.den:Int)=N at *
 generalize a.num*(b.den:Int)=N1 at *
 generalize b.num*(a.den:Int)=N2 at *
 generalize (a.den:Int)*(b.den:Int)=D at *
 generalize a+b=S at *
 simp only [encI,encR,bv,iv] at g1 g2 g3 g4 g5 g6 g7
 simp -implicitDefEqProofs (maxSteps:=9^8) only [Qgb,encR,go_sem,Qac,Qab,iv,bv,g1,g2,g3,g4,g5,g6,g7,Qbl,ne_eq,not_false_eq_true,reduceCtorEq,↓reduceIte,Nat.reduceEqDiff]

theorem Qeo {a b:Rat} (ha:sz a≤100000000000) (hb:sz b≤100000000000):Qah G QbN [encR a,encR b]=some (.d (encR (a*b))):=by
 rw [Qad (cf:=Qgq) rfl]
 have a1:=QcG ha;have a2:=QcM ha;have b1:=QcG hb;have b2:=QcM hb
 have m1:=Qdm (x:=a.num) (y:=b.num)
 have m3:=Qdm (x:=a.den) (y:=b.den)
 have g1:=QfC a
 have g2:=QfC b
 have g3:=Qd2 (x:=a.num) (y:=b.num) (by omega) (by omega)
 have g5:=Qd2 (x:=a.den) (y:=b.den) (by omega) (by omega)
 have g7:=Qix (n:=a.num*b.num) (d:=(a.den:Int)*b.den) (by omega) (by omega)
 rw [← QiA] at g7
 rw [QcJ] at g1 g2
 rw [QcJ,QcJ] at g5
 generalize a.num*b.num=N1 at *
 generalize (a.den:Int)*(b.den:Int)=D at *
 generalize a*b=S at *
 simp only [encI,encR,bv,iv] at g1 g2 g3 g5 g7
 simp -implicitDefEqProofs (maxSteps:=9^8) only [Qgq,encR,go_sem,Qac,Qab,iv,bv,g1,g2,g3,g5,g7,Qbl,ne_eq,not_false_eq_true,reduceCtorEq,↓reduceIte,Nat.reduceEqDiff]

theorem Qii {a b:Rat} (ha:sz a≤100000000000) (hb:sz b≤100000000000):Qah G QdC [encR a,encR b]=some (.d (encR (a/b))):=by
 rw [Qad (cf:=Qgn) rfl]
 have a1:=QcG ha;have a2:=QcM ha;have b1:=QcG hb;have b2:=QcM hb
 have m1:=Qdm (x:=a.num) (y:=b.den)
 have m3:=Qdm (x:=a.den) (y:=b.num)
 have g1:=QfC a
 have g2:=QfC b
 have g3:=Qd2 (x:=a.num) (y:=b.den) (by omega) (by omega)
 have g5:=Qd2 (x:=a.den) (y:=b.num) (by omega) (by omega)
 have g7:=Qix (n:=a.num*b.den) (d:=(a.den:Int)*b.num) (by omega) (by omega)
 rw [← QnB] at g7
 rw [QcJ] at g1 g2 g3 g5
 generalize a.num*(b.den:Int)=N1 at *
 generalize (a.den:Int)*b.num=D at *
 generalize a/b=S at *
 simp only [encI,encR,bv,iv] at g1 g2 g3 g5 g7
 simp -implicitDefEqProofs (maxSteps:=9^8) only [Qgn,encR,go_sem,Qac,Qab,iv,bv,g1,g2,g3,g5,g7,Qbl,ne_eq,not_false_eq_true,reduceCtorEq,↓reduceIte,Nat.reduceEqDiff]

theorem Qda {a b:Rat} (ha:sz a≤100000000000) (hb:sz b≤100000000000):Qah G Qbr [encR a,encR b]=some (.d (iv (cmpR a b))):=by
 rw [Qad (cf:=Qed) rfl]
 have a1:=QcG ha;have a2:=QcM ha;have b1:=QcG hb;have b2:=QcM hb
 have m1:=Qdm (x:=a.num) (y:=b.den)
 have m2:=Qdm (x:=b.num) (y:=a.den)
 have g3:=QfC a
 have g4:=QfC b
 have g5:=Qd2 (x:=a.num) (y:=b.den) (by omega) (by omega)
 have g6:=Qd2 (x:=b.num) (y:=a.den) (by omega) (by omega)
 have g7:=QjO (x:=a.num*b.den) (y:=b.num*a.den) (by omega) (by omega)
 have e:Int.sign (a.num*b.den-b.num*a.den)=cmpR a b:=rfl
 rw [e] at g7
 clear e
 rw [QcJ] at g3 g4 g5 g6
 generalize a.num*(b.den:Int)=N1 at *
 generalize b.num*(a.den:Int)=N2 at *
 simp only [encI,encR,bv,iv] at g3 g4 g5 g6 g7
 simp -implicitDefEqProofs (maxSteps:=9^8) only [Qed,encR,go_sem,Qac,Qab,iv,bv,g3,g4,g5,g6,g7,reduceCtorEq,↓reduceIte,Nat.reduceEqDiff]
end Go.AM

/- ref01: Around, At; digits tell numbers apart. -/
namespace Go.AM
open Go Go.RowKit

theorem Qsy {n:Int} (h:(Lit.int .i64 n).wf=true):I64 n:=by
 simp only [Lit.wf,Bool.and_eq_true,decide_eq_true_eq] at h
 have h1:IntKind.min .i64 = -9223372036854775808:=by decide
 have h2:IntKind.max .i64=9223372036854775807:=by decide
 rw [h1,h2] at h
 exact ⟨by omega,by omega⟩
theorem rw_dg {d:D} {l:List Int} (h:Dg d l):Rw d l:=by
 rcases h with ⟨rfl,rfl⟩ | h
 ·exact .inl rfl
 ·exact .inr h
def arnd (n m:Int):Int:=(if n<0 then -(n+1) else n)%m
theorem QpU {n m:Int} (hm:0<m):0≤arnd n m∧arnd n m<m:=⟨Int.emod_nonneg _ (by omega),Int.emod_lt_of_pos _ hm⟩
def atr (l:List Int) (i m:Int):Int:=if i<0∨i≥l.length then 0 else arnd (l.getD i.toNat 0) m
theorem atr_b (l:List Int) (i:Int) {m:Int} (hm:0<m):0≤atr l i m∧atr l i m<m:=by
 unfold atr
 split
 ·omega
 ·exact QpU hm

theorem Qs4 {a b:Nat} (h:digs a=digs b):a=b:=by
 have:=congrArg val h
 rw [QaJ,QaJ] at this
 omega
theorem iv_inj {a b:Int} (h:iv a=iv b):a=b:=by cases h;rfl
theorem Qqr:∀ {l m:List Int},l.map iv=m.map iv→l=m
 | [],[],_=>rfl
 | [],_ :: _,h=>by cases h
 | _ :: _,[],h=>by cases h
 | a :: l,b :: m,h=>by
  rw [List.map_cons,List.map_cons,List.cons.injEq] at h
  rw [iv_inj h.1,Qqr h.2]
theorem dg_inj {l m:List Int} (h:dg l=dg m):l=m:=by
 by_cases h1:l=[]<;>by_cases h2:m=[]
 ·rw [h1,h2]
 ·rw [h1,Qpc,Qom h2] at h;cases h
 ·rw [h2,Qpc,Qom h1] at h;cases h
 ·rw [Qom h1,Qom h2,D.row.injEq] at h;exact Qqr h.2
variable [Its]

theorem Qjd {n m:Int} (hn:I64 n) (hm:0<m):Qah G QcI [iv n,iv m]=some (.d (iv (arnd n m))):=by
 rw [Qad (cf:=Qdj) rfl]
 obtain ⟨h1,h2⟩:=hn
 have e2:=QkL (b:=m) (by omega)
 unfold arnd
 by_cases h:n<0
 ·have e1:decide (n<0)=true:=decide_eq_true h
  have e3:w64 (n+1)=n+1:=Qae (by omega) (by omega)
  have e4:w64 (0-(n+1)) = -(n+1):=by rw [Qae (by omega) (by omega)];omega
  have e5:=Qee (a:=-(n+1)) (b:=m) (by omega)
  rw [if_pos h]
  simp -implicitDefEqProofs (maxSteps:=9^8) only [Qdj,go_sem,iv,bv,e1,e2,e3,e4,e5,reduceCtorEq,↓reduceIte,Nat.reduceEqDiff]
 ·have e1:decide (n<0)=false:=decide_eq_false h
  have e5:=Qee (a:=n) (b:=m) (by omega)
  rw [if_neg h]
  simp -implicitDefEqProofs (maxSteps:=9^8) only [Qdj,go_sem,iv,bv,e1,e2,e5,reduceCtorEq,↓reduceIte,Nat.reduceEqDiff]
theorem at_spec {d:D} {l:List Int} {i m:Int} (hr:Rw d l) (hl:∀ n∈l,I64 n) (hm:0<m):Qah G QfE [d,iv i,iv m]=some (.d (iv (atr l i m))):=by
 rw [Qad (cf:=Qd4) rfl]
 have ll:=hr.len
 unfold atr
 by_cases h:i<0
 ·have e1:decide (i<0)=true:=decide_eq_true h
  rw [if_pos (.inl h)]
  simp -implicitDefEqProofs (maxSteps:=9^8) only [Qd4,go_sem,iv,bv,e1,reduceCtorEq,↓reduceIte,Nat.reduceEqDiff]
 ·have e1:decide (i<0)=false:=decide_eq_false h
  by_cases h2:i≥l.length
  ·have e2:decide (i≥(l.length:Int))=true:=decide_eq_true h2
   rw [if_pos (.inr h2)]
   simp -implicitDefEqProofs (maxSteps:=9^8) only [Qd4,go_sem,iv,bv,e1,e2,ll,reduceCtorEq,↓reduceIte,Nat.reduceEqDiff]
  ·have e2:decide (i≥(l.length:Int))=false:=decide_eq_false h2
   rw [if_neg (by omega)]
   obtain ⟨j,rfl⟩:∃ j:Nat,i=(j:Int):=⟨i.toNat,by omega⟩
   rw [Int.toNat_natCast]
   have hj:j<l.length:=by omega
   have e3:=hr.ixn (j:=j) hj
   have e4:=fun hp=>ldv hp l (j:=j) hj
   have hb:I64 (l.getD j 0):=hl _ (by rw [List.getD_eq_getElem?_getD,List.getElem?_eq_getElem hj];exact List.getElem_mem hj)
   have g:=Qjd hb hm
   simp only [iv] at g
   simp -implicitDefEqProofs (maxSteps:=9^8) only [Qd4,go_sem,iv,bv,e1,e2,e3,e4,ll,g,reduceCtorEq,↓reduceIte,Nat.reduceEqDiff]
end Go.AM

/- Rationals: signs, sizes, names for what comes out; ref01. -/
namespace Go.AM
open Go Go.RowKit

theorem Qh3:sz 1=1:=by rw [sz,Rat.one_num,Rat.one_den];exact by rw [show ((1:Nat):Int)=1 from rfl,QsO];rfl
theorem Qic:sz 0=1:=by rw [sz,Rat.zero_num,Rat.zero_den];exact by rw [show ((1:Nat):Int)=1 from rfl,QsO,Ql5];rfl
theorem sz_pow (q:Rat):∀ n:Nat,sz (q^n)≤n*sz q+1
 | 0=>by rw [Rat.pow_zero,Qh3];omega
 | n+1=>by
  rw [Rat.pow_succ]
  have h1:=QgM (a:=q^n) (b:=q)
  have h2:=sz_pow q n
  have h3:(n+1)*sz q=n*sz q+sz q:=Nat.succ_mul n (sz q)
  omega
theorem QnA {n:Int} (h:I64 n):sz (n:Rat)≤3:=sz_le (Qhl h) (by rw [Rat.den_intCast];exact Nat.le_trans (Nat.le_of_eq QsO) (by omega))
theorem Qct (n:Int):Rat.divInt n 1=(n:Rat):=by
 have:=Rat.num_divInt_den (n:Rat)
 exact this
theorem sign_ge {x:Rat}:decide (Int.sign x.num≥0)=decide (0≤x):=by
 apply decide_eq_decide.2
 rw [← Rat.num_nonneg]
 rcases Int.lt_trichotomy x.num 0 with h | h | h
 ·rw [Int.sign_eq_neg_one_of_neg h];omega
 ·rw [h];simp
 ·rw [Int.sign_eq_one_of_pos h];omega
theorem Qrb {x:Rat}:decide (Int.sign x.num<0)=decide (x<0):=by
 have e:decide (x<0) = !decide (0≤x):=by
  by_cases h:0≤x
  ·rw [decide_eq_true h,decide_eq_false (by rw [Rat.not_lt];exact h)];rfl
  ·rw [decide_eq_false h,decide_eq_true (Rat.not_le.1 h)];rfl
 rw [e,← sign_ge]
 by_cases h:Int.sign x.num<0
 ·rw [decide_eq_true h,decide_eq_false (by omega)];rfl
 ·rw [decide_eq_false h,decide_eq_true (by omega)];rfl
def boxR (q:Rat):Obj:=⟨0,0,[.d (.v (.bool (decide (q.num<0)))),.d (dg (digs q.num.natAbs)),.d (.v (.bool false)),.d (dg (dd q.den))],false⟩
def QiX:Obj:=⟨0,0,[.d (.v (.bool false)),.d (.z true),.d (.v (.bool false)),.d (.z true)],false⟩
theorem sz_sub {a b:Rat}:sz (a-b)≤sz a+sz b+1:=by
 rw [Rat.sub_eq_add_neg]
 have:=Qkt (a:=a) (b:=-b)
 rw [QrN] at this
 exact this
theorem sz_of {n d:Int} (hn:I64 n) (hd:I64 d):sz (Rat.divInt n d)≤3:=Qfu (by omega) (Qhl hn) (Qhl hd)
theorem dd_inj {a b:Nat} (ha:0<a) (hb:0<b) (h:dd a=dd b):a=b:=by
 have hn:∀ {n:Nat},0<n→digs n≠[]:=fun hn h0=>by have:=digs_length_pos.2 hn;rw [h0] at this;simp at this
 by_cases h1:a=1<;>by_cases h2:b=1
 ·omega
 ·rw [h1,dd_one,Qkz h2] at h;exact absurd h.symm (hn hb)
 ·rw [h2,dd_one,Qkz h1] at h;exact absurd h (hn ha)
 ·rw [Qkz h1,Qkz h2] at h;exact Qs4 h
theorem Qqw {q p:Rat} (h1:decide (q.num<0)=decide (p.num<0)) (h2:dg (digs q.num.natAbs)=dg (digs p.num.natAbs)) (h3:dg (dd q.den)=dg (dd p.den)):q=p:=by
 have e1:=Qs4 (dg_inj h2)
 have e2:=dd_inj q.den_pos p.den_pos (dg_inj h3)
 have e3:q.num<0↔p.num<0:=by simpa using h1
 exact Rat.ext (by omega) e2

variable [Its]

end Go.AM

/- Rows and arrays of rationals. -/
namespace Go.AM
open Go Go.RowKit

def cRs:List Rat→List D
 | []=>[]
 | q :: l=>.v (.bool (decide (q.num<0))) :: dg (digs q.num.natAbs) :: .v (.bool false) :: dg (dd q.den) :: cRs l
def rowR (l:List Rat):D:=.row l.length (cRs l)
theorem QdQ:∀ l:List Rat,(cRs l).length=l.length*4
 | []=>rfl
 | q :: l=>by simp only [cRs,List.length_cons,QdQ l];omega
theorem QjL:∀ (l:List Rat) (n:Nat),(cRs l).drop (n*4)=cRs (l.drop n)
 | [],n=>by simp [cRs]
 | q :: l,0=>rfl
 | q :: l,n+1=>by
  rw [show (n+1)*4=n*4+1+1+1+1 by omega,cRs]
  simp only [List.drop_succ_cons]
  exact QjL l n
theorem Qkw:∀ (l:List Rat) (n:Nat),(cRs l).take (n*4)=cRs (l.take n)
 | [],n=>by simp [cRs]
 | q :: l,0=>rfl
 | q :: l,n+1=>by
  rw [show (n+1)*4=n*4+1+1+1+1 by omega,cRs]
  simp only [List.take_succ_cons,Qkw l n,cRs]
theorem QiM:∀ (l m:List Rat),cRs (l++m)=cRs l++cRs m
 | [],m=>rfl
 | q :: l,m=>by simp only [List.cons_append,cRs,QiM l m]
theorem cRs_inj:∀ {l m:List Rat},cRs l=cRs m→l=m
 | [],[],_=>rfl
 | [],_ :: _,h=>by simp [cRs] at h
 | _ :: _,[],h=>by simp [cRs] at h
 | a :: l,b :: m,h=>by
  simp only [cRs,List.cons.injEq,D.v.injEq,Value.bool.injEq,true_and] at h
  obtain ⟨h1,h2,h3,h4⟩:=h
  rw [Qqw h1 h2 h3,cRs_inj h4]
def RwR (d:D) (l:List Rat):Prop:=(d=.z true∧l=[])∨d=rowR l
theorem RwR.row (l:List Rat):RwR (rowR l) l:=.inr rfl
theorem RwR.nil:RwR (.z true) []:=.inl ⟨rfl,rfl⟩
theorem RwR.inj {d:D} {l m:List Rat} (h:RwR d l) (h':RwR d m):l=m:=by
 rcases h with ⟨h1,h2⟩ | h1<;>rcases h' with ⟨h3,h4⟩ | h3
 ·rw [h2,h4]
 ·rw [h1] at h3;cases h3
 ·rw [h1] at h3;cases h3
 ·rw [h1] at h3
  simp only [rowR,D.row.injEq] at h3
  exact cRs_inj h3.2
theorem RwR.len {d:D} {l:List Rat} (h:RwR d l):lenA (.d d)=some l.length:=by
 rcases h with ⟨rfl,rfl⟩ | rfl
 ·rfl
 ·rfl
theorem RwR.ixa {d:D} {l:List Rat} (hr:RwR d l) {j:Nat} (h1:j<l.length) (h:Hp):ixaA h 4 (j:Int) (.d d)=some (.d (.rp (cRs (l.drop j)))):=by
 rcases hr with ⟨rfl,rfl⟩ | rfl
 ·simp at h1
 ·simp only [ixaA,guardO,rowR]
  rw [if_pos ⟨by omega,by omega⟩,Int.toNat_natCast,QjL]
theorem ldR (h:Hp) (l:List Rat) {j:Nat} (h1:j<l.length):Qco h (some 4) (.d (.rp (cRs (l.drop j))))=some (.d (encR (l.getD j 0))):=by
 have e:l.drop j=l.getD j 0 :: l.drop (j+1):=by
  rw [List.drop_eq_getElem_cons h1,List.getD_eq_getElem?_getD,List.getElem?_eq_getElem h1];rfl
 rw [e]
 show guardO (4≤(cRs (l.getD j 0 :: l.drop (j+1))).length) (some (A.d (D.agg ((cRs (l.getD j 0 :: l.drop (j+1))).take 4))))=_
 exact if_pos (by rw [QdQ,List.length_cons];omega)
theorem RwR.src {d:D} {l:List Rat} (hr:RwR d l) (st:St):src st (.d d)=some (l.length,cRs l):=by
 rcases hr with ⟨rfl,rfl⟩ | rfl
 ·rfl
 ·rfl
theorem RwR.srcS {d:D} {l:List Rat} (hr:RwR d l) (st:St):srcS st (.d d)=some (l.length,cRs l):=by
 rcases hr with ⟨rfl,rfl⟩ | rfl
 ·rfl
 ·rfl
theorem QgE (ks:List Key):∀ cs:List D,Qdo ks (cs.map A.d)=true
 | []=>rfl
 | c :: cs=>by rw [List.map_cons,Qdo,QgE ks cs];rfl
def cA (l:List Rat):List A:=(cRs l).map A.d
def arrR (n:Nat) (l:List Rat):Obj:=⟨4,n,cA l,false⟩
attribute [go_sem] arrR
theorem Qgk (l:List Rat):(cA l).length=l.length*4:=by rw [cA,List.length_map,QdQ]
theorem QgW (l:List Rat):allD (cA l)=some (cRs l):=Qej _
theorem QaQ (ks:List Key) (l:List Rat):Qdo ks (cA l)=true:=QgE ks _
theorem Qly (q:Rat):cA [q]=[.d (.v (.bool (decide (q.num<0)))),.d (dg (digs q.num.natAbs)),.d (.v (.bool false)),.d (dg (dd q.den))]:=rfl
theorem Qld (l:List Rat) (q:Rat):cA l++[.d (.v (.bool (decide (q.num<0)))),.d (dg (digs q.num.natAbs)),.d (.v (.bool false)),.d (dg (dd q.den))]=cA (l++[q]):=by
 rw [← Qly,cA,cA,cA,QiM,List.map_append]
theorem ld_cA {l:List Rat} {j:Nat} (hj:j<l.length):Qab (some 4) (j*4) (cA l)=some (.d (.agg [.v (.bool (decide ((l.getD j 0).num<0))),dg (digs (l.getD j 0).num.natAbs),.v (.bool false),dg (dd (l.getD j 0).den)])):=by
 show guardO (j*4+4≤(cA l).length) ((allD (((cA l).drop (j*4)).take 4)).map fun ds=>A.d (D.agg ds))=_
 rw [guardO,if_pos (by rw [Qgk];omega)]
 have e:l.drop j=l.getD j 0 :: l.drop (j+1):=by
  rw [List.drop_eq_getElem_cons hj,List.getD_eq_getElem?_getD,List.getElem?_eq_getElem hj];rfl
 rw [cA,← List.map_drop,QjL,← List.map_take,e]
 rw [Qej];rfl
theorem cRs_set:∀ (l:List Rat) (j:Nat) (q:Rat),j<l.length→(cRs l).take (j*4)++cRs [q]++(cRs l).drop (j*4+4)=cRs (l.set j q)
 | [],j,q,h=>by simp at h
 | a :: l,0,q,h=>rfl
 | a :: l,j+1,q,h=>by
  have ih:=cRs_set l j q (by simpa using h)
  rw [show (j+1)*4=j*4+1+1+1+1 by omega,show j*4+1+1+1+1+4=(j*4+4)+1+1+1+1 by omega]
  simp only [List.set_cons_succ,cRs,List.take_succ_cons,List.drop_succ_cons,List.cons_append,List.nil_append,List.append_assoc] at ih ⊢
  rw [ih]
theorem Qtp {l:List Rat} {j:Nat} (hj:j<l.length) (q:Rat):Qac (j*4) [.d (.v (.bool (decide (q.num<0)))),.d (dg (digs q.num.natAbs)),.d (.v (.bool false)),.d (dg (dd q.den))] (cA l)=some (cA (l.set j q)):=by
 rw [← Qly]
 show guardO (j*4+(cA [q]).length≤(cA l).length) (some ((cA l).take (j*4)++cA [q]++(cA l).drop (j*4+(cA [q]).length)))=_
 have h4:(cA [q]).length=4:=rfl
 rw [h4,guardO,if_pos (by rw [Qgk];omega),cA,cA,cA,← List.map_take,← List.map_drop,← List.map_append,← List.map_append,cRs_set l j q hj]
theorem QiZ (m:List Int):(dg m).one=true:=by cases m<;>rfl
theorem QmT:∀ n:Nat,rep n [.v (.bool false),.z true,.v (.bool false),.z true]=cRs (List.replicate n 0)
 | 0=>rfl
 | n+1=>by
  have ih:=QmT n
  have ez:decide ((0:Rat).num<0)=false:=rfl
  have ez2:dg (digs (0:Rat).num.natAbs)=.z true:=by rw [Rat.zero_num,show (0:Int).natAbs=0 from rfl,Qax];rfl
  have ez3:dg (dd (0:Rat).den)=.z true:=rfl
  rw [List.replicate_succ,cRs,ez,ez2,ez3,← ih]
  rfl
theorem Qlq (h:Hp) (x:D):Qco h none (.d (.rp [x]))=some (.d x):=rfl
theorem Qmt (l:List Rat):(cRs l).map A.d=cA l:=rfl
def gA4 (k:Nat) (l:List Rat):A:=if l=[] then .d (.z true) else .own [k] l.length
def gH4 (k:Nat) (l:List Rat):List (Key×Obj):=if l=[] then [] else [([k],arrR l.length l)]
theorem Qcp (k:Nat):gA4 k []=.d (.z true):=rfl
theorem Qcq (k:Nat):gH4 k []=[]:=rfl
theorem QeQ {k:Nat} {l:List Rat} (h:l≠[]):gA4 k l=.own [k] l.length:=if_neg h
theorem QeP {k:Nat} {l:List Rat} (h:l≠[]):gH4 k l=[([k],arrR l.length l)]:=if_neg h
theorem Qkq (b:Bool):(D.v (.bool b)).one=true:=rfl
theorem Qlf (k:Nat) (q:Rat):gA4 k [q]=.own [k] 1:=rfl
theorem QkC (k:Nat) (q:Rat):gH4 k [q]=[([k],arrR 1 [q])]:=rfl
theorem Qg7 (a b c d:D):rep 1 [a,b,c,d]=[a,b,c,d]:=rfl
theorem Qec (k:Nat) (l:List Rat) (v:Rat):gA4 k (l++[v])=.own [k] (l.length+1):=by rw [QeQ (by simp)];simp
theorem Qd9 (k:Nat) (l:List Rat) (v:Rat):gH4 k (l++[v])=[([k],arrR (l.length+1) (l++[v]))]:=by rw [QeP (by simp)];simp
def dR (l:List Rat):D:=if l=[] then .z true else rowR l
theorem QtJ (l:List Rat):RwR (dR l) l:=by
 unfold dR;split
 ·rename_i h;exact .inl ⟨rfl,h⟩
 ·exact .inr rfl
def SzL (K:Nat) (l:List Rat):Prop:=∀ q∈l,sz q≤K
theorem SzL.getD {K:Nat} {l:List Rat} (h:SzL K l) (h1:1≤K) (j:Nat):sz (l.getD j 0)≤K:=by
 by_cases hj:j<l.length
 ·have:l.getD j 0=l[j]:=by rw [List.getD_eq_getElem?_getD,List.getElem?_eq_getElem hj];rfl
  rw [this];exact h _ (List.getElem_mem hj)
 ·rw [List.getD_eq_getElem?_getD,List.getElem?_eq_none (by omega)]
  show sz 0≤K
  rw [Qic];exact h1
theorem SzL.mono {K L:Nat} {l:List Rat} (h:SzL K l) (hk:K≤L):SzL L l:=fun q hq=>Nat.le_trans (h q hq) hk
end Go.AM

/- Rows of rationals; poly.Trim, slices.Clone, slices.Backward. -/
namespace Go.AM
open Go Go.RowKit

theorem Qqx:∀ l:List Rat,(cRs l).all D.one=true
 | []=>rfl
 | q :: l=>by
  have h1:∀ m:List Int,(dg m).one=true:=fun m=>by cases m<;>rfl
  simp only [cRs,List.all_cons,Qqx l,h1,Bool.and_true]
  rfl
theorem sgn0 (q:Rat):(Int.sign q.num==0)=decide (q=0):=by
 by_cases h:q=0
 ·subst h;rfl
 ·rw [decide_eq_false h]
  refine Qcx fun hc=>h (Rat.num_eq_zero.1 (Int.sign_eq_zero_iff_zero.1 hc))

def cutR (l:List Rat):Nat→Nat
 | 0=>0
 | n+1=>if l.getD n 0=0 then cutR l n else n+1
def Qay (l:List Rat):List Rat:=l.take (cutR l l.length)
theorem QkF (l:List Rat):∀ n,cutR l n≤n
 | 0=>Nat.le_refl _
 | n+1=>by
  rw [cutR]
  split
  ·exact Nat.le_succ_of_le (QkF l n)
  ·exact Nat.le_refl _
theorem Qgg (l:List Rat):(Qay l).length=cutR l l.length:=by
 rw [Qay,List.length_take]
 have:=QkF l l.length
 omega
theorem Qcm (l:List Rat):(Qay l).length≤l.length:=by rw [Qgg];exact QkF _ _
theorem rep_0 (zs:List D):rep 0 zs=[]:=rfl
variable [Its]

def clR (l:List Rat):R:=if false then .d (rowR l) else .own 4 l.length (cRs l)
theorem Qqi {l:List Rat} (hl:l.length*64≤140737488351232):Qah G QaR [rowR l]=some (clR l):=by
 rw [Qad (cf:=Qa6) rfl]
 have e1:=QdQ l
 have e2:=Qqx l
 have e3:l.length*64≤bound:=by unfold bound;omega
 unfold clR rowR
 generalize cRs l=cs at *
 simp -implicitDefEqProofs (maxSteps:=9^8) only [Qa6,isnA,appA,srcS,src,QgE,Qej,Nat.zero_add,rep_0,List.map_nil,List.length_nil,List.nil_append,go_sem,iv,bv,e1,e2,e3,reduceCtorEq,↓reduceIte,Nat.reduceEqDiff]
theorem Qpw:Qah G QaR [.z true]=some (.d (.z true)):=by
 rw [Qad (cf:=Qa6) rfl]
 simp -implicitDefEqProofs (maxSteps:=9^8) only [Qa6,isnA,go_sem,iv,bv,reduceCtorEq,↓reduceIte,Nat.reduceEqDiff]

def Qj2 (d:D) (n:Int):St:=mkS [(0,.d d),(3,ai n)] []
theorem tr_go {d:D} {l:List Rat} (hr:RwR d l) {n:Nat} (hn:n<l.length) (hl:l.length*64≤140737488351232) (h0:l.getD n 0=0):X G QcB (Qj2 d ((n+1:Nat):Int))=some (.n,Qj2 d (n:Int)):=by
 have e1:decide (((n+1:Nat):Int)>0)=true:=gt_t (by omega)
 have e2:w64 (((n+1:Nat):Int)-1)=(n:Int):=by rw [Qae (by omega) (by omega)];omega
 have e3:=hr.ixa hn
 have e4:=fun h=>ldR h l hn
 have g:=Qdx (l.getD n 0)
 have e5:(Int.sign (l.getD n 0).num==0)=true:=by rw [sgn0];exact decide_eq_true h0
 clear h0
 generalize ((n+1:Nat):Int)=n1 at *
 generalize l.getD n 0=q at *
 simp only [encR,iv] at e4 g
 simp -implicitDefEqProofs (maxSteps:=9^8) only [QcB,Qj2,go_sem,iv,bv,e1,e2,e3,e4,e5,g,reduceCtorEq,↓reduceIte,Nat.reduceEqDiff]
theorem tr_stop {d:D} {l:List Rat} (hr:RwR d l) {n:Nat} (hn:n<l.length) (hl:l.length*64≤140737488351232) (h0:l.getD n 0≠0):X G QcB (Qj2 d ((n+1:Nat):Int))=some (.x 0,Qj2 d ((n+1:Nat):Int)):=by
 have e1:decide (((n+1:Nat):Int)>0)=true:=gt_t (by omega)
 have e2:w64 (((n+1:Nat):Int)-1)=(n:Int):=by rw [Qae (by omega) (by omega)];omega
 have e3:=hr.ixa hn
 have e4:=fun h=>ldR h l hn
 have g:=Qdx (l.getD n 0)
 have e5:(Int.sign (l.getD n 0).num==0)=false:=by rw [sgn0];exact decide_eq_false h0
 clear h0
 generalize ((n+1:Nat):Int)=n1 at *
 generalize l.getD n 0=q at *
 simp only [encR,iv] at e4 g
 simp -implicitDefEqProofs (maxSteps:=9^8) only [QcB,Qj2,go_sem,iv,bv,e1,e2,e3,e4,e5,g,reduceCtorEq,↓reduceIte,Nat.reduceEqDiff]
theorem tr_zero {d:D}:X G QcB (Qj2 d 0)=some (.x 0,Qj2 d 0):=by
 have e1:decide ((0:Int)>0)=false:=rfl
 simp -implicitDefEqProofs (maxSteps:=9^8) only [QcB,Qj2,go_sem,iv,bv,e1,reduceCtorEq,↓reduceIte,Nat.reduceEqDiff]
theorem tr_loop {d:D} {l:List Rat} (hr:RwR d l) (hl:l.length*64≤140737488351232):∀ n:Nat,n≤l.length→X G (.loop QcB) (Qj2 d (n:Int))=some (.x 0,Qj2 d (cutR l n:Nat))
 | 0,_=>by
  rw [Qai]
  show (X G QcB (Qj2 d 0)).bind _=_
  rw [tr_zero];rfl
 | n+1,hn=>by
  rw [Qai,cutR]
  by_cases h0:l.getD n 0=0
  ·rw [tr_go hr (by omega) hl h0,Option.bind_some,if_pos rfl,if_pos h0]
   exact tr_loop hr hl n (by omega)
  ·rw [tr_stop hr (by omega) hl h0,if_neg h0];rfl

theorem Qif {d:D} {l:List Rat} (hr:RwR d l) (hl:l.length*64≤140737488351232):∃ d',RwR d' (Qay l)∧Qah G Qfb [d]=some (.d d'):=by
 rw [Qad (cf:=QjN) rfl]
 have hl':=tr_loop hr hl l.length (Nat.le_refl _)
 have hc:=QkF l l.length
 have ll:=hr.len
 rcases hr with ⟨rfl,rfl⟩ | rfl
 ·have g:=Qpw
  simp only [Qj2,List.length_nil,cutR,go_sem] at hl'
  refine ⟨.z true,.inl ⟨rfl,rfl⟩, ?_⟩
  simp -implicitDefEqProofs (maxSteps:=9^8) only [QjN,slcA,bnds,optI,go_sem,iv,bv,hl',g,ll,Int.le_refl,reduceCtorEq,↓reduceIte,Nat.reduceEqDiff]
 ·refine ⟨rowR (Qay l),.row _, ?_⟩
  have g:=Qqi (l:=Qay l) (by have:=Qcm l;omega)
  have e1:rowR (Qay l)=.row (cutR l l.length) ((cRs l).take (cutR l l.length*4)):=by rw [rowR,Qgg,Qay,Qkw]
  rw [e1] at g ⊢
  unfold clR at g
  have e7:=Qgg l
  have e8:cRs (Qay l)=(cRs l).take (cutR l l.length*4):=by rw [Qay,Qkw]
  rw [e1,e7,e8] at g
  clear e1 e7 e8
  have e2:(((0:Int)≤0∧(0:Int)≤(cutR l l.length:Nat)∧((cutR l l.length:Nat):Int)≤(l.length:Nat)))=True:=eq_true ⟨by omega,by omega,by omega⟩
  have e3:((cutR l l.length:Nat):Int).toNat=cutR l l.length:=Int.toNat_natCast _
  have e5:((0:Int)≤(cutR l l.length:Nat))=True:=eq_true (by omega)
  have e6:(((cutR l l.length:Nat):Int)≤(l.length:Nat))=True:=eq_true (by omega)
  unfold rowR at *
  generalize cutR l l.length=c at *
  generalize cRs l=cs at *
  simp only [Qj2,go_sem] at hl'
  simp -implicitDefEqProofs (maxSteps:=9^8) only [QjN,slcA,bnds,optI,go_sem,iv,bv,hl',g,ll,e2,e3,e5,e6,Int.le_refl,and_self,reduceCtorEq,↓reduceIte,Nat.reduceEqDiff]

theorem QoA {d:D} {l:List Rat} (hr:RwR d l):Qah G Qcn [d]=some (.d (.fn Qag [.rp [d]])):=by
 rw [Qad (cf:=Qbc) rfl]
 rcases hr with ⟨rfl,rfl⟩ | rfl
 ·simp -implicitDefEqProofs (maxSteps:=9^8) only [Qbc,go_sem,snap,Qdc,Qac,Qab,iv,bv,reduceCtorEq,↓reduceIte,Nat.reduceEqDiff]
 ·unfold rowR
  generalize cRs l=cs
  simp -implicitDefEqProofs (maxSteps:=9^8) only [Qbc,go_sem,snap,Qdc,Qac,Qab,iv,bv,reduceCtorEq,↓reduceIte,Nat.reduceEqDiff]
end Go.AM

/- slices.Backward: what its iterator yields; poly.Eval. -/
namespace Go.AM
open Go Go.RowKit Go.Proofs

def C.one1:C→C
 | .seq a _=>a
 | .blk _ a=>a
 | .loop a=>a
 | c=>c
def C.two2:C→C
 | .seq _ b=>b
 | c=>c
def bkp (l:List Rat):List (Int×Rat):=(List.range l.length).map fun i=>(((l.length-1-i:Nat):Int),l.getD (l.length-1-i) 0)
def bk1 (p:Int×Rat):List D:=[iv p.1,encR p.2]
def bkw (l:List Rat):List (List D):=(bkp l).map bk1
theorem bkp_snd (l:List Rat):(bkp l).map Prod.snd=l.reverse:=by
 apply List.ext_getElem
 ·simp [bkp]
 ·intro i h1 h2
  simp only [bkp,List.map_map,List.getElem_map,List.getElem_range,Function.comp_apply,List.getElem_reverse]
  have h3:i<l.length:=by simpa [bkp] using h1
  rw [List.getD_eq_getElem?_getD,List.getElem?_eq_getElem (by omega)];rfl
def bw_T:C:=slices_Backward_api_Poly_api_Rat_1_l0.one1.one1
def bw_I:C:=.seq (.keep [0,1,3] []) slices_Backward_api_Poly_api_Rat_1_l0.one1.two2.two2
def QsR:List O:=[⟨some 11,.mov (.t 0),none⟩,⟨some 12,.mov (.t 3),none⟩,⟨some 13,.load none (.t 1),none⟩,⟨some 14,.mov (.t 3),none⟩,⟨some 15,.ixa 4 (.t 13) (.t 14),none⟩,⟨some 16,.load (some 4) (.t 15),none⟩]
def QoO:List O:=[⟨some 18,.un .not (.t 17),none⟩]
theorem bw_shape:slices_Backward_api_Poly_api_Rat_1.body.er=.seq slices_Backward_api_Poly_api_Rat_1.body.one1.er (.blk 0 (.loop (.seq bw_T.er (.seq (.blk 1 (.seq (.reg ((QsR++⟨some 17,.calv (.t 11) [.t 12,.t 16],none⟩ :: QoO).map O.er) []) (.cond (.t 18) .ret .skip))) bw_I.er)))):=rfl
theorem bw_ld (h:Hp) (sz:Option Nat) (cs:List D):Qco h sz (.d (.rp cs))=QkU sz cs:=rfl

def Qol (y:Nat) (d:D) (k:Int):St:=mkS [(0,.d (yv y)),(1,.d (.rp [d])),(3,ai k)] []
def Qn7 (y:Nat) (d:D) (k:Int):St:=mkS [(0,.d (yv y)),(1,.d (.rp [d])),(3,ai k),(8,ab true)] []
def Qoz (y:Nat) (d:D) (k:Int) (rp q:List D):St:=⟨upd (upd (upd (upd (upd (upd (Qn7 y d k).fr 11 (.d (yv y))) 12 (ai k)) 13 (.d d)) 14 (ai k)) 15 (.d (.rp rp))) 16 (.d (.agg q)),(Qn7 y d k).hp,[]⟩
def QtF (y:Nat) (d:D) (k:Int) (rp q:List D) (t:Bool):St:=⟨upd (upd (Qoz y d k rp q).fr 17 (.d (.v (.bool t)))) 18 (.d (.v (.bool !t))),(Qoz y d k rp q).hp,[]⟩
def Rw4 (d:D) (n:Nat) (cs:List D):Prop:=(d=.z true∧n=0)∨(d=.row n cs∧cs.length=n*4)
theorem Rw4.len {d:D} {n:Nat} {cs:List D} (h:Rw4 d n cs):lenA (.d d)=some n:=by
 rcases h with ⟨rfl,rfl⟩ | ⟨rfl,_⟩<;>rfl
theorem Rw4.ixa {d:D} {n:Nat} {cs:List D} (hr:Rw4 d n cs) {j:Nat} (h1:j<n) (h:Hp):ixaA h 4 (j:Int) (.d d)=some (.d (.rp (cs.drop (j*4)))):=by
 rcases hr with ⟨rfl,rfl⟩ | ⟨rfl,_⟩
 ·omega
 ·simp only [ixaA,guardO]
  rw [if_pos ⟨by omega,by omega⟩,Int.toNat_natCast]
theorem Rw4.ld {d:D} {n:Nat} {cs:List D} (hr:Rw4 d n cs) {j:Nat} (h1:j<n) (h:Hp):Qco h (some 4) (.d (.rp (cs.drop (j*4))))=some (.d (.agg ((cs.drop (j*4)).take 4))):=by
 rcases hr with ⟨rfl,rfl⟩ | ⟨rfl,hl⟩
 ·omega
 ·show guardO (4≤(cs.drop (j*4)).length) (some (A.d (D.agg ((cs.drop (j*4)).take 4))))=_
  exact if_pos (by rw [List.length_drop];omega)
def bk4 (n:Nat) (cs:List D):List (List D):=(List.range n).map fun i=>[iv ((n-1-i:Nat):Int),.agg ((cs.drop ((n-1-i)*4)).take 4)]
theorem bk4_len (n:Nat) (cs:List D):(bk4 n cs).length=n:=by simp [bk4]
theorem bk4_R (l:List Rat):bk4 l.length (cRs l)=bkw l:=by
 unfold bk4 bkw bkp
 rw [List.map_map]
 apply List.map_congr_left
 intro i hi
 have hi':=List.mem_range.1 hi
 have h1:l.length-1-i<l.length:=by omega
 rw [QjL]
 have e:l.drop (l.length-1-i)=l.getD (l.length-1-i) 0 :: l.drop (l.length-1-i+1):=by
  rw [List.drop_eq_getElem_cons h1,List.getD_eq_getElem?_getD,List.getElem?_eq_getElem h1];rfl
 rw [e]
 rfl


section
variable [Its]
theorem bw_start {y:Nat} {d:D} {n:Nat} {cs:List D} (hr:Rw4 d n cs) (hl:n≤140737488351232):X G slices_Backward_api_Poly_api_Rat_1.body.one1 ⟨argF 0 [yv y,.rp [d]],hp0,[]⟩=some (.n,Qol y d ((n:Int)-1)):=by
 have e1:w64 ((n:Int)-1)=(n:Int)-1:=Qae (by omega) (by omega)
 have ll:=hr.len
 simp -implicitDefEqProofs (maxSteps:=9^8) only [slices_Backward_api_Poly_api_Rat_1,C.one1,Qol,argF,yv,bw_ld,List.head?_cons,ll,go_sem,Qac,Qab,iv,bv,e1,reduceCtorEq,↓reduceIte,Nat.reduceEqDiff]
theorem bw_more {y:Nat} {d:D} {j:Nat}:X G bw_T (Qol y d (j:Int))=some (.n,Qn7 y d (j:Int)):=by
 have e1:decide ((j:Int)≥0)=true:=decide_eq_true (by omega)
 simp -implicitDefEqProofs (maxSteps:=9^8) only [bw_T,slices_Backward_api_Poly_api_Rat_1_l0,C.one1,C.two2,Qol,Qn7,yv,e1,go_sem,Qac,Qab,iv,bv,reduceCtorEq,↓reduceIte,Nat.reduceEqDiff]
theorem bw_stop {y:Nat} {d:D}:X G bw_T (Qol y d (-1))=some (.x 0,mkS [] []):=by
 have e1:decide ((-1:Int)≥0)=false:=rfl
 simp -implicitDefEqProofs (maxSteps:=9^8) only [bw_T,slices_Backward_api_Poly_api_Rat_1_l0,C.one1,C.two2,Qol,Qn7,yv,e1,go_sem,Qac,Qab,iv,bv,reduceCtorEq,↓reduceIte,Nat.reduceEqDiff]
theorem bw_p1 {y:Nat} {d:D} {n:Nat} {cs:List D} (hr:Rw4 d n cs) {j:Nat} (hj:j<n):exs (Qah G) QsR (Qn7 y d (j:Int))=some (Qoz y d (j:Int) (cs.drop (j*4)) ((cs.drop (j*4)).take 4)):=by
 have e3:=hr.ixa hj
 have e4:=hr.ld hj
 generalize (cs.drop (j*4)).take 4=q at *
 generalize cs.drop (j*4)=rp at *
 simp -implicitDefEqProofs (maxSteps:=9^8) only [QsR,Qn7,Qoz,encR,yv,go_sem,e3,e4,bw_ld,QkU,List.head?_cons,Qac,Qab,iv,bv,reduceCtorEq,↓reduceIte,Nat.reduceEqDiff]
theorem bw_p2 {y:Nat} {d:D} {k:Int} {rp q:List D} {t:Bool}:exs (Qah G) QoO { Qoz y d k rp q with fr:=upd (Qoz y d k rp q).fr 17 (.d (.v (.bool t))) }=some (QtF y d k rp q t):=by
 simp -implicitDefEqProofs (maxSteps:=9^8) only [QoO,Qn7,Qoz,QtF,encR,yv,go_sem,Qac,Qab,iv,bv,reduceCtorEq,↓reduceIte,Nat.reduceEqDiff]
theorem bw_inc {y:Nat} {d:D} {j:Nat} {rp q:List D} (hj:j≤140737488351232):X G bw_I (QtF y d (j:Int) rp q true)=some (.n,Qol y d ((j:Int)-1)):=by
 have e1:w64 ((j:Int)-1)=(j:Int)-1:=Qae (by omega) (by omega)
 simp -implicitDefEqProofs (maxSteps:=9^8) only [bw_I,slices_Backward_api_Poly_api_Rat_1_l0,C.one1,C.two2,Qol,Qn7,Qoz,QtF,encR,yv,go_sem,e1,Qac,Qab,iv,bv,reduceCtorEq,↓reduceIte,Nat.reduceEqDiff]

end

theorem bw_walk {d:D} {n:Nat} {cs:List D} (hr:Rw4 d n cs) (hl:n≤140737488351232) {N n' y:Nat} {S:Nat→Prop} {w0:World} {J Jx:Held} {ac:Act} {W:World} (hab:QgU   w0 J) (habx:QgU   w0 Jx) (hans:Answers Tryz.prog n' S w0 y J Jx (bk4 n cs))
    (hI:Inv S w0 N J ⟨argF 0 [yv y,.rp [d]],hp0,[]⟩ 0 ac W) :
    WY Tryz.prog N (n'+1) slices_Backward_api_Poly_api_Rat_1.body.er (fun e' a' W'=>(∀ id,e'≠.x id)∧((∃ st,Inv S w0 N J st (bk4 n cs).length a' W')∨∃ st i,Inv S w0 N Jx st i a' W')) ac W:=by
  letI:=noIts
  have hE:EnvOk Tryz.prog G:=env_ok0
  rw [bw_shape]
  refine WY.seq ?_
  refine Inv.code hE hab hI rfl rfl (bw_start hr hl) ?_
  intro a1 W1 I1
  simp only [↓reduceIte]
  refine WY.blk ?_
  refine WY.loop (j:=n) (fun j a' w'=>∃ i,i≤n∧j=n-i∧Inv S w0 N J (Qol y d (((n-i:Nat):Int)-1)) i a' w') ⟨0,by omega,by omega, ?_⟩ ?_
  · rw [Nat.sub_zero]
    exact I1
  · rintro j a2 W2 ⟨i,hi,rfl,I2⟩
    refine WY.seq ?_
    by_cases hin:i<n
    · obtain ⟨k,hk⟩:∃ k,k=n-1-i:=⟨_,rfl⟩
      have ek:((n-i:Nat):Int)-1=(k:Int):=by omega
      rw [ek] at I2
      have hkl:k<n:=by omega
      refine Inv.code hE hab I2 rfl rfl bw_more ?_
      intro a3 W3 I3
      simp only [↓reduceIte]
      refine WY.seq (WY.blk (WY.seq ?_))
      refine Inv.yield hE hab habx hans I3 (pre:=QsR) (post:=QoO) (d:=17) (ty:=11) (es:=[.t 12,.t 16]) (s1:=Qoz y d (k:Int) (cs.drop (k*4)) ((cs.drop (k*4)).take 4)) (x:=[iv (k:Int),.agg ((cs.drop (k*4)).take 4)]) (rt:=QtF y d (k:Int) (cs.drop (k*4)) ((cs.drop (k*4)).take 4) true) (rf:=QtF y d (k:Int) (cs.drop (k*4)) ((cs.drop (k*4)).take 4) false) (bw_p1 hr hkl) rfl rfl ?_ bw_p2 bw_p2 ?_ ?_
      · rw [bk4,List.getElem?_map,List.getElem?_range hin,hk];rfl
      · intro a4 W4 I4
        simp only [↓reduceIte]
        refine WY.cond (t:=false) (I4.bool rfl) (fun h=>by cases h) (fun _=>WY.skip ?_)
        simp only [↓reduceIte]
        refine Inv.code hE hab I4 rfl rfl (bw_inc (by omega)) ?_
        intro a6 W6 I6
        simp only [↓reduceIte]
        refine ⟨n-(i+1),by omega,i+1,by omega,rfl, ?_⟩
        rw [show ((n-(i+1):Nat):Int)-1=(k:Int)-1 by omega]
        exact I6
      · intro a4 W4 I4
        simp only [↓reduceIte]
        refine WY.cond (t:=true) (I4.bool rfl) (fun _=>WY.ret ?_) (fun h=>by cases h)
        simp only [reduceCtorEq,↓reduceIte]
        exact ⟨fun _ h=>(by cases h),.inr ⟨_,_,I4⟩⟩
    · have:i=n:=by omega
      subst this
      rw [Nat.sub_self] at I2
      refine Inv.code hE hab I2 rfl rfl bw_stop ?_
      intro a3 W3 I3
      simp only [reduceCtorEq,↓reduceIte]
      exact ⟨fun _ h=>(by cases h),.inl ⟨_,by rw [bk4_len];exact I3⟩⟩

theorem QmV {d:D} {n:Nat} {cs:List D} (hr:Rw4 d n cs) (hl:n≤140737488351232):ItOk Tryz.prog Qag [.rp [d]] (bk4 n cs):=by
 refine it_ok (Γ:=@G noIts) env_ok0 (cf:=slices_Backward_api_Poly_api_Rat_1) Tryz.func114 Qcd ?_ rfl rfl ?_
 ·intro b hb
  have:(Tryz.f114.body.map okY)=some true:=by kernel_rfl
  rw [hb] at this
  simpa using this
 ·intro n' y S w0 J Jx ac W hab habx hans hI
  exact bw_walk hr hl hab habx hans hI

def Qlj:List D→Option (List (List D))
 | [.rp [.z true]]=>some []
 | [.rp [.row n cs]]=>if cs.length=n*4∧n≤140737488351232 then some (bk4 n cs) else none
 | _=>none
theorem QpI {ds:List D} {xs:List (List D)} (h:Qlj ds=some xs):ItOk Tryz.prog Qag ds xs:=by
  unfold Qlj at h
  split at h
  · cases h
    exact QmV (n:=0) (cs:=[]) (.inl ⟨rfl,rfl⟩) (by omega)
  · split at h
    · rename_i hc
      cases h
      exact QmV (.inr ⟨rfl,hc.1⟩) hc.2
    · cases h
  · cases h
class ItsB [Its]:Prop where
 back:∀ ds,Its.it Qag ds=Qlj ds
theorem its_back [Its] [ItsB] {d:D} {l:List Rat} (h:RwR d l) (hl:l.length≤140737488351232):Its.it Qag [.rp [d]]=some (bkw l):=by
 rw [ItsB.back,← bk4_R]
 rcases h with ⟨rfl,rfl⟩ | rfl
 ·rfl
 ·exact if_pos ⟨QdQ l,hl⟩

def evR (l:List Rat) (x:Rat):Rat:=l.foldr (fun a s=>s*x+a) 0
theorem Qar (a:Rat) (l:List Rat) (x:Rat):evR (a :: l) x=evR l x*x+a:=rfl
theorem evR_bk (l:List Rat) (x:Rat):(bkp l).foldl (fun s p=>s*x+p.2) 0=evR l x:=by
 have h:∀ (ps:List (Int×Rat)) (s:Rat),ps.foldl (fun s p=>s*x+p.2) s=(ps.map Prod.snd).foldl (fun s a=>s*x+a) s:=by
  intro ps
  induction ps with
  | nil=>intro s;rfl
  | cons p ps ih=>intro s;exact ih _
 rw [h,bkp_snd,List.foldl_reverse]
 rfl
def ev_fr:Fr:=frL [(3,.ptr [3] 0),(4,.ptr [4] 0),(5,.ptr [5] 0)]
def ev_hp (x s:Rat):Hp:=hpL [([3],boxR x),([4],QiX),([5],boxR s)]
theorem evR_sz {x:Rat} {K:Nat} (hK:sz x≤K):∀ l:List Rat,(∀ q∈l,sz q≤K)→sz (evR l x)≤l.length*(2*K+1)+1
 | [],_=>by rw [evR,List.foldr_nil,Qic];omega
 | a :: l,h=>by
  have ih:=evR_sz hK l (fun q hq=>h q (List.mem_cons_of_mem _ hq))
  have h2:=h a (List.mem_cons_self ..)
  have k1:=QgM (a:=evR l x) (b:=x)
  have k2:=Qkt (a:=evR l x*x) (b:=a)
  have h1:(a :: l).length*(2*K+1)=l.length*(2*K+1)+(2*K+1):=by rw [List.length_cons,Nat.succ_mul]
  rw [Qar];omega
variable [Its]

theorem QpR       {x:Rat} {K:Nat} (hK:sz x≤K) (hK2:K≤1000000000):∀ (ps:List (Int×Rat)) (s:Rat),(∀ p∈ps,sz p.2≤K)→sz s+ps.length*(2*K+1)≤50000000000 →
    Qds (X G) [10,11] poly_Eval_a0 poly_Eval_b0 ev_fr [] (ps.map bk1) (ev_hp x s)=some (.n,⟨ev_fr,ev_hp x (ps.foldl (fun s p=>s*x+p.2) s),[]⟩)
  | [],s,_,_=>rfl
  | p :: ps,s,hp,hs=>by
    have h1:(p :: ps).length*(2*K+1)=ps.length*(2*K+1)+(2*K+1):=by rw [List.length_cons,Nat.succ_mul]
    have h2:=hp p (List.mem_cons_self ..)
    have g1:=Qdw (a:=s) (b:=x) (by omega) (by omega)
    have k1:=QgM (a:=s) (b:=x)
    have g2:=QeT (a:=s*x) (b:=p.2) (by omega) (by omega)
    have k2:=Qkt (a:=s*x) (b:=p.2)
    have ih:=QpR hK hK2 ps (s*x+p.2) (fun q hq=>hp q (List.mem_cons_of_mem _ hq)) (by omega)
    rw [List.map_cons,List.foldl_cons,← ih]
    clear ih hp
    generalize s*x+p.2=r at *
    generalize s*x=sx at *
    obtain ⟨k,q⟩:=p
    unfold bk1
    simp only at g2 ⊢
    generalize List.map _ ps=XS
    simp only [encR] at g1 g2
    simp -implicitDefEqProofs (maxSteps:=9^8) only [Qds,poly_Eval_a0,poly_Eval_b0,ev_fr,ev_hp,boxR,encR,QiX,putL,go_sem,Qac,Qab,iv,bv,g1,g2,reduceCtorEq,↓reduceIte,Nat.reduceEqDiff]
theorem QpZ [ItsB] {d:D} {l:List Rat} {x:Rat} {K:Nat} (hr:RwR d l) (hK:sz x≤K) (hK2:K≤1000000000) (hl:∀ q∈l,sz q≤K) (hn:l.length*(2*K+1)≤40000000000):Qah G QhP [d,encR x]=some (.d (encR (evR l x))):=by
 rw [Qad (cf:=Qme) rfl]
 have g1:=QoA hr
 have hn':l.length≤l.length*(2*K+1):=Nat.le_mul_of_pos_right _ (by omega)
 have hit:(G).it Qag [.rp [d]]=some (bkw l):=its_back hr (by omega)
 have hp:(bkp l).length=l.length:=by simp [bkp]
 have hrd:=QpR hK hK2 (bkp l) 0 (fun p hp'=>by
  have:p.2∈(bkp l).map Prod.snd:=List.mem_map_of_mem hp'
  rw [bkp_snd] at this
  exact hl _ (List.mem_reverse.1 this)) (by rw [hp,Qic];omega)
 rw [evR_bk] at hrd
 have e1:(bkp l).map bk1=bkw l:=rfl
 rw [e1] at hrd
 have hA:poly_Eval_a0.holds [[3],[4],[5]]=true:=rfl
 have hB:poly_Eval_b0.holds [[3],[4],[5]]=true:=rfl
 have e0:boxR 0=QiX:=by
  have ez:decide ((0:Rat).num<0)=false:=rfl
  have ez2:dg (digs (0:Rat).num.natAbs)=.z true:=by rw [Rat.zero_num,show (0:Int).natAbs=0 from rfl,Qax];rfl
  have ez3:dg (dd (0:Rat).den)=.z true:=rfl
  rw [boxR,ez,ez2,ez3];rfl
 rw [ev_hp,e0] at hrd
 clear hp e1 hn e0
 generalize bkw l=XS at *
 generalize evR l x=v at *
 simp only [ev_fr,ev_hp,boxR,QiX,go_sem] at hrd
 simp -implicitDefEqProofs (maxSteps:=9^8) only [Qme,X_rfn,QlC,hA,hB,hit,hrd,encR,go_sem,Qac,Qab,iv,bv,g1,reduceCtorEq,↓reduceIte,Nat.reduceEqDiff]
end Go.AM

/- Polynomials as lists: values, and that values tell them apart. -/
namespace Go.AM
open Go Go.RowKit

def sumR (f:Nat→Rat):Nat→Rat
 | 0=>0
 | n+1=>sumR f n+f n
theorem Qen {f g:Nat→Rat}:∀ n,(∀ k,k<n→f k=g k)→sumR f n=sumR g n
 | 0,_=>rfl
 | n+1,h=>by rw [sumR,sumR,Qen n (fun k hk=>h k (by omega)),h n (by omega)]
theorem Qgl {f:Nat→Rat}:∀ n,(∀ k,k<n→f k=0)→sumR f n=0
 | 0,_=>rfl
 | n+1,h=>by rw [sumR,Qgl n (fun k hk=>h k (by omega)),h n (by omega),Rat.add_zero]
theorem QiF (f:Nat→Rat):∀ n,sumR f (n+1)=f 0+sumR (fun i=>f (i+1)) n
 | 0=>by rw [sumR,sumR,sumR,Rat.zero_add,Rat.add_zero]
 | n+1=>by rw [sumR,QiF f n,sumR,Rat.add_assoc]
theorem QoS (f g:Nat→Rat):∀ n,sumR (fun k=>f k+g k) n=sumR f n+sumR g n
 | 0=>by rw [sumR,sumR,sumR,Rat.add_zero]
 | n+1=>by
  rw [sumR,sumR,sumR,QoS f g n]
  generalize sumR f n=a;generalize sumR g n=b;grind
theorem Ql1 (f:Nat→Rat) (c:Rat):∀ n,sumR (fun k=>f k*c) n=sumR f n*c
 | 0=>by rw [sumR,sumR,Rat.zero_mul]
 | n+1=>by rw [sumR,sumR,Ql1 f c n,Rat.add_mul]
theorem Qm1 {f:Nat→Rat} {n:Nat}:∀ d,(∀ k,n≤k→k<n+d→f k=0)→sumR f (n+d)=sumR f n
 | 0,_=>rfl
 | d+1,h=>by
  show sumR f (n+d)+f (n+d)=_
  rw [Qm1 d (fun k h1 h2=>h k h1 (by omega)),h (n+d) (by omega) (by omega),Rat.add_zero]
theorem Qo0 {f:Nat→Rat} {n m:Nat} (hm:n≤m) (h:∀ k,n≤k→f k=0):sumR f m=sumR f n:=by
 obtain ⟨d,rfl⟩:∃ d,m=n+d:=⟨m-n,by omega⟩
 exact Qm1 d (fun k h1 _=>h k h1)

theorem QaW {l:List Rat} {k:Nat} (h:l.length≤k):l.getD k 0=0:=by
 rw [List.getD_eq_getElem?_getD,List.getElem?_eq_none h];rfl
theorem Qj1 (e:Nat→Rat) {n k:Nat} (h:k<n):((List.range n).map e).getD k 0=e k:=by
 rw [List.getD_eq_getElem?_getD,List.getElem?_map,List.getElem?_range h];rfl
theorem Qd1 (l:List Rat) (k:Nat):(Qay l).getD k 0=l.getD k 0:=by
 have hc:∀ n,n≤l.length→∀ k,cutR l n≤k→k<n→l.getD k 0=0:=by
  intro n
  induction n with
  | zero=>intro _ k _ h;omega
  | succ n ih =>
   intro hn k h1 h2
   rw [cutR] at h1
   split at h1
   ·rename_i h0
    by_cases hk:k=n
    ·rw [hk];exact h0
    ·exact ih (by omega) k h1 (by omega)
   ·omega
 have hl:=QkF l l.length
 by_cases h1:k<cutR l l.length
 ·rw [Qay,List.getD_eq_getElem?_getD,List.getElem?_take_of_lt h1,← List.getD_eq_getElem?_getD]
 ·rw [QaW (by rw [Qgg];omega)]
  by_cases h2:k<l.length
  ·exact (hc l.length (Nat.le_refl _) k (by omega) h2).symm
  ·exact (QaW (by omega)).symm
def Trm (l:List Rat):Prop:=∀ n,l.length=n+1→l.getD n 0≠0
theorem Qit:Trm []:=fun n h=>by simp at h
theorem QaO (l:List Rat):Trm (Qay l):=by
 have hc:∀ n,∀ m,cutR l n=m+1→l.getD m 0≠0:=by
  intro n
  induction n with
  | zero=>intro m h;simp [cutR] at h
  | succ n ih =>
   intro m h
   rw [cutR] at h
   split at h
   ·exact ih m h
   ·rename_i h0
    have:m=n:=by omega
    rw [this];exact h0
 intro n h
 rw [Qd1]
 exact hc _ n (by rw [← Qgg];exact h)
theorem trim_of {l:List Rat} (h:Trm l):Qay l=l:=by
 have:cutR l l.length=l.length:=by
  cases hl:l.length with
  | zero=>rfl
  | succ n=>rw [cutR,if_neg (h n hl)]
 rw [Qay,this,List.take_length]
theorem Qqz {l m:List Rat} (hl:Trm l) (hm:Trm m) (h:∀ k,l.getD k 0=m.getD k 0):l=m:=by
 have hlen:l.length=m.length:=by
  rcases Nat.lt_trichotomy l.length m.length with h1 | h1 | h1
  ·obtain ⟨n,hn⟩:∃ n,m.length=n+1:=⟨m.length-1,by omega⟩
   exact absurd (by rw [← h n];exact QaW (by omega)) (hm n hn)
  ·exact h1
  ·obtain ⟨n,hn⟩:∃ n,l.length=n+1:=⟨l.length-1,by omega⟩
   exact absurd (by rw [h n];exact QaW (by omega)) (hl n hn)
 apply List.ext_getElem hlen
 intro i h1 h2
 have:=h i
 rw [List.getD_eq_getElem?_getD,List.getD_eq_getElem?_getD,List.getElem?_eq_getElem h1,List.getElem?_eq_getElem h2] at this
 exact this

theorem QlR (a x:Rat):∀ l:List Rat,evR (l++[a]) x=evR l x+a*x^l.length
 | []=>by
  show evR [] x*x+a=evR [] x+a*x^0
  rw [Rat.pow_zero]
  have:evR [] x=0:=rfl
  rw [this];grind
 | b :: l=>by
  show evR (l++[a]) x*x+b=evR l x*x+b+a*x^(l.length+1)
  rw [QlR a x l,Rat.pow_succ]
  generalize evR l x=v;generalize x^l.length=p;grind
theorem Ql2 (x:Rat) (l:List Rat):evR l x=sumR (fun k=>l.getD k 0*x^k) l.length:=by
 have h:∀ n,n≤l.length→evR (l.take n) x=sumR (fun k=>l.getD k 0*x^k) n:=by
  intro n
  induction n with
  | zero=>intro _;rfl
  | succ n ih =>
   intro hn
   have e:l.take (n+1)=l.take n++[l.getD n 0]:=by
    rw [List.take_add_one]
    simp [List.getD,(by omega:n<l.length)]
   rw [e,QlR,ih (by omega),sumR,List.length_take,Nat.min_eq_left (by omega)]
 have:=h l.length (Nat.le_refl _)
 rwa [List.take_length] at this
theorem QhM (x:Rat) {l:List Rat} {n:Nat} (h:l.length≤n):evR l x=sumR (fun k=>l.getD k 0*x^k) n:=by
 rw [Ql2]
 exact (Qo0 h (fun k hk=>by rw [QaW hk,Rat.zero_mul])).symm
theorem QaB (l:List Rat) (x:Rat):evR (Qay l) x=evR l x:=by
 rw [QhM x (Qcm l),Ql2 x l]
 exact Qen _ fun k _=>by rw [Qd1]
theorem Qm2 (e:Nat→Rat) (n:Nat) (x:Rat):evR (Qay ((List.range n).map e)) x=sumR (fun k=>e k*x^k) n:=by
 rw [QaB,QhM x (l:=(List.range n).map e) (n:=n) (by simp)]
 exact Qen _ fun k hk=>by rw [Qj1 e hk]
theorem QaG (x:Rat):evR [] x=0:=rfl

/-! ### Dividing by x - r -/
def syn:List Rat→Rat→List Rat
 | [],_=>[]
 | [_],_=>[]
 | _ :: b :: l,r=>evR (b :: l) r :: syn (b :: l) r
theorem QqR:∀ (l:List Rat) (r:Rat),(syn l r).length=l.length-1
 | [],_=>rfl
 | [_],_=>rfl
 | a :: b :: l,r=>by rw [syn,List.length_cons,QqR (b :: l) r];simp
theorem Qhr:∀ (l:List Rat) (r x:Rat),evR l x=evR l r+(x-r)*evR (syn l r) x
 | [],r,x=>by rw [syn,QaG,QaG];grind
 | [a],r,x=>by
  rw [syn,QaG,Qar,Qar,QaG,QaG];grind
 | a :: b :: l,r,x=>by
  have ih:=Qhr (b :: l) r x
  rw [syn,Qar a,Qar a,Qar (evR (b :: l) r)]
  generalize evR (b :: l) x=u at *
  generalize evR (b :: l) r=v at *
  generalize evR (syn (b :: l) r) x=w at *
  rw [ih];grind
theorem Qku {l:List Rat} (h:∀ q∈l,q=0) (x:Rat):evR l x=0:=by
 induction l with
 | nil=>rfl
 | cons a l ih =>
  rw [Qar,ih (fun q hq=>h q (List.mem_cons_of_mem _ hq)),h a (List.mem_cons_self ..)]
  grind
theorem QsB:∀ (l:List Rat) (r:Rat),(∀ q∈syn l r,q=0)→∀ q∈l.tail,q=0
 | [],_,_=>by simp
 | [_],_,_=>by simp
 | a :: b :: l,r,h=>by
  have h1:evR (b :: l) r=0:=h _ (by rw [syn];exact List.mem_cons_self ..)
  have h2:=QsB (b :: l) r (fun q hq=>h q (by rw [syn];exact List.mem_cons_of_mem _ hq))
  intro q hq
  rcases List.mem_cons.1 hq with rfl | hq
  ·have h3:evR l r=0:=Qku h2 r
   rw [Qar,h3] at h1
   grind
  ·exact h2 q hq
theorem Qr0:∀ (n:Nat) (l:List Rat) (c:Rat),l.length≤n→(∀ x,c<x→evR l x=0)→∀ q∈l,q=0
 | 0,l,c,hl,_=>by
  have:l=[]:=List.eq_nil_of_length_eq_zero (by omega)
  subst this;simp
 | n+1,l,c,hl,h=>by
  have hr:c<c+1:=by grind
  have h0:=h (c+1) hr
  have hs:∀ x,c+1<x→evR (syn l (c+1)) x=0:=fun x hx=>by
   have h1:=Qhr l (c+1) x
   rw [h x (by grind),h0,Rat.zero_add] at h1
   rcases Rat.mul_eq_zero.1 h1.symm with h2 | h2
   ·exfalso;grind
   ·exact h2
  have hz:=QsB l (c+1) (Qr0 n _ (c+1) (by rw [QqR];omega) hs)
  cases l with
  | nil=>simp
  | cons a l =>
   intro q hq
   have hz':∀ q∈l,q=0:=hz
   rcases List.mem_cons.1 hq with rfl | hq
   ·rw [Qar,Qku hz'] at h0
    grind
   ·exact hz' q hq
def difR (l m:List Rat):List Rat:=(List.range (max l.length m.length)).map fun k=>l.getD k 0-m.getD k 0
theorem evR_dif (l m:List Rat) (x:Rat):evR (difR l m) x=evR l x-evR m x:=by
 have e:=Qm2 (fun k=>l.getD k 0-m.getD k 0) (max l.length m.length) x
 rw [QaB] at e
 show evR (difR l m) x=_
 rw [show difR l m=(List.range (max l.length m.length)).map (fun k=>l.getD k 0-m.getD k 0) from rfl,e,QhM x (l:=l) (n:=max l.length m.length) (by omega),QhM x (l:=m) (n:=max l.length m.length) (by omega)]
 have h:∀ n,sumR (fun k=>(l.getD k 0-m.getD k 0)*x^k) n=sumR (fun k=>l.getD k 0*x^k) n-sumR (fun k=>m.getD k 0*x^k) n:=by
  intro n
  induction n with
  | zero=>rw [sumR,sumR,sumR,Rat.sub_self]
  | succ n ih =>
   rw [sumR,sumR,sumR,ih]
   generalize sumR (fun k=>l.getD k 0*x^k) n=u
   generalize sumR (fun k=>m.getD k 0*x^k) n=v
   generalize x^n=p
   grind
 exact h _
theorem Qor {l m:List Rat} {c:Rat} (h:∀ x,c<x→evR l x=evR m x) (k:Nat):l.getD k 0=m.getD k 0:=by
 have hz:=Qr0 _ (difR l m) c (Nat.le_refl _) (fun x hx=>by rw [evR_dif,h x hx,Rat.sub_self])
 by_cases hk:k<max l.length m.length
 ·have h1:l.getD k 0-m.getD k 0=0:=hz _ (List.mem_map.2 ⟨k,List.mem_range.2 hk,rfl⟩)
  grind
 ·rw [QaW (by omega),QaW (by omega)]
theorem eq_beyond {l m:List Rat} {c:Rat} (h:∀ x,c<x→evR l x=evR m x) (x:Rat):evR l x=evR m x:=by
 rw [QhM x (l:=l) (n:=max l.length m.length) (by omega),QhM x (l:=m) (n:=max l.length m.length) (by omega)]
 exact Qen _ fun k _=>by rw [Qor h k]
theorem Qc4 {l m:List Rat} (hl:Trm l) (hm:Trm m) (h:∀ x,evR l x=evR m x):l=m :=
 Qqz hl hm (Qor (c:=0) fun x _=>h x)

/-! ### Products -/
def conv (l m:List Rat) (k:Nat):Rat:=sumR (fun i=>l.getD i 0*m.getD (k-i) 0) (k+1)
def muP (l m:List Rat):List Rat:=Qay ((List.range (l.length+m.length-1)).map (conv l m))
theorem conv_nil (m:List Rat) (k:Nat):conv [] m k=0:=Qgl _ fun i _=>by rw [QaW (by simp),Rat.zero_mul]
theorem conv_zero (a:Rat) (l m:List Rat):conv (a :: l) m 0=a*m.getD 0 0:=by
 rw [conv,sumR,sumR,Rat.zero_add];rfl
theorem conv_succ (a:Rat) (l m:List Rat) (k:Nat):conv (a :: l) m (k+1)=a*m.getD (k+1) 0+conv l m k:=by
 rw [conv,QiF,conv]
 have e:sumR (fun i=>(a :: l).getD (i+1) 0*m.getD (k+1-(i+1)) 0) (k+1)=sumR (fun i=>l.getD i 0*m.getD (k-i) 0) (k+1) :=
  Qen _ fun i _=>by rw [List.getD_cons_succ,show k+1-(i+1)=k-i by omega]
 rw [e];rfl
theorem QsA {l m:List Rat} {k:Nat} (h:l.length+m.length-1≤k):conv l m k=0:=by
  by_cases h0:l.length=0
  · exact Qgl _ fun i _=>by rw [QaW (by omega),Rat.zero_mul]
  · exact Qgl       _ fun i hi => by
      by_cases h1:l.length≤i
      · rw [QaW h1,Rat.zero_mul]
      · rw [QaW (l:=m) (by omega),Rat.mul_zero]
theorem QsU (m:List Rat) (x:Rat):∀ (l:List Rat) (n:Nat),l.length+m.length≤n→sumR (fun k=>conv l m k*x^k) n=evR l x*evR m x
 | [],n,_=>by rw [QaG,Rat.zero_mul];exact Qgl _ fun k _=>by rw [conv_nil,Rat.zero_mul]
 | a :: l,0,h=>by simp at h
 | a :: l,n+1,h=>by
  have ih:=QsU m x l n (by simp at h;omega)
  rw [QiF,conv_zero]
  have e1:sumR (fun i=>conv (a :: l) m (i+1)*x^(i+1)) n=sumR (fun i=>m.getD (i+1) 0*x^(i+1)*a+conv l m i*x^i*x) n :=
   Qen _ fun i _=>by
    rw [conv_succ,Rat.pow_succ]
    generalize m.getD (i+1) 0=u;generalize conv l m i=v;generalize x^i=p;grind
  rw [e1,QoS,Ql1 (fun i=>m.getD (i+1) 0*x^(i+1)),Ql1 (fun i=>conv l m i*x^i),ih,Qar]
  have e2:evR m x=m.getD 0 0*x^0+sumR (fun i=>m.getD (i+1) 0*x^(i+1)) n:=by
   rw [QhM x (l:=m) (n:=n+1) (by simp at h;omega),QiF]
  rw [e2,Rat.pow_zero]
  generalize sumR (fun i=>m.getD (i+1) 0*x^(i+1)) n=s
  generalize m.getD 0 0=t
  generalize evR l x=u
  grind
theorem Qa8 (l m:List Rat) (x:Rat):evR (muP l m) x=evR l x*evR m x:=by
 rw [muP,Qm2,← QsU m x l (l.length+m.length) (Nat.le_refl _)]
 exact (Qo0 (by omega) (fun k hk=>by rw [QsA hk,Rat.zero_mul])).symm
end Go.AM

/- Arrays of rationals; poly.at, made, Add, Scale, Derive. -/
namespace Go.AM
open Go Go.RowKit

theorem SzL.trim {K:Nat} {l:List Rat} (h:SzL K l):SzL K (Qay l):=fun q hq=>h q (List.mem_of_mem_take hq)
theorem SzL.map {K:Nat} {n:Nat} {e:Nat→Rat} (h:∀ k,k<n→sz (e k)≤K):SzL K ((List.range n).map e):=by
 intro q hq
 obtain ⟨k,hk,rfl⟩:=List.mem_map.1 hq
 exact h k (List.mem_range.1 hk)
def adP (l m:List Rat):List Rat:=Qay ((List.range (max l.length m.length)).map fun k=>l.getD k 0+m.getD k 0)
def sbP (l m:List Rat):List Rat:=Qay ((List.range (max l.length m.length)).map fun k=>l.getD k 0-m.getD k 0)
def scP (l:List Rat) (a:Rat):List Rat:=Qay ((List.range l.length).map fun k=>l.getD k 0*a)
def deP (l:List Rat):List Rat:=Qay ((List.range (l.length-1)).map fun k=>l.getD (k+1) 0*((k+1:Nat):Int))
theorem made_sz {K n:Nat} {e:Nat→Rat} (h:∀ k,k<n→sz (e k)≤K):SzL K (Qay ((List.range n).map e)):=(SzL.map h).trim
theorem Qok (n:Nat) (e:Nat→Rat):(Qay ((List.range n).map e)).length≤n:=by
 have:=Qcm ((List.range n).map e)
 rwa [List.length_map,List.length_range] at this
variable [Its]

def QoB (f:Nat) (caps:List D) (l:List Rat) (n i:Int):St:=mkS [(1,.d (.fn f caps)),(5,gA4 17 l),(8,ai n),(9,ai i)] (gH4 17 l)
def md_en (l:List Rat):St:=mkS [(5,gA4 17 l)] (gH4 17 l)
theorem md_go {f:Nat} {caps:List D} {l:List Rat} {n i:Nat} {q:Rat} (hi:i<n) (hn:n*64≤140737488351232) (hl:l.length=i) (g:Qah G f (iv (i:Int) :: caps)=some (.d (encR q))):X G QcT (QoB f caps l n i)=some (.n,QoB f caps (l++[q]) n ((i+1:Nat):Int)):=by
 have e1:decide ((i:Int)<(n:Int))=true:=lt_t (by omega)
 have e2:w64 ((i:Int)+1)=((i+1:Nat):Int):=by rw [Qae (by omega) (by omega)];rfl
 have d1:=QiZ (digs q.num.natAbs)
 have d2:=QiZ (dd q.den)
 have hb:(64≤bound)=True:=eq_true (by unfold bound;omega)
 have hb1:(1*64≤bound)=True:=eq_true (by unfold bound;omega)
 simp only [encR,iv] at g
 by_cases h0:l=[]
 ·subst h0
  simp -implicitDefEqProofs (maxSteps:=9^8) only [QcT,QoB,Qcp,Qcq,Qaa,Qec,Qd9,List.nil_append,List.cons_append,List.length_nil,List.length_cons,Nat.zero_add,List.map_cons,List.map_nil,Qg7,Qlf,QkC,Qly,srcS,src,Qkq,allD,hb,hb1,d1,d2,go_sem,iv,bv,e1,e2,g,reduceCtorEq,↓reduceIte,Nat.reduceEqDiff]
 ·have n3:(cA l).length=l.length*4:=Qgk l
  have n4:((l.length+1)*64≤bound)=True:=eq_true (by unfold bound;omega)
  simp -implicitDefEqProofs (maxSteps:=9^8) only [QcT,QoB,QeQ h0,QeP h0,Qec,Qd9,List.nil_append,List.cons_append,List.length_nil,List.length_cons,Nat.zero_add,List.map_cons,List.map_nil,Qg7,Qld,n3,n4,QaQ,srcS,src,Qkq,allD,d1,d2,go_sem,iv,bv,e1,e2,g,reduceCtorEq,↓reduceIte,Nat.reduceEqDiff]
theorem md_stop {f:Nat} {caps:List D} {l:List Rat} {n:Nat}:X G QcT (QoB f caps l n n)=some (.x 0,md_en l):=by
 have e1:decide ((n:Int)<(n:Int))=false:=lt_f (by omega)
 by_cases h0:l=[]
 ·subst h0
  simp -implicitDefEqProofs (maxSteps:=9^8) only [QcT,QoB,md_en,Qcp,Qcq,Qaa,go_sem,iv,bv,e1,reduceCtorEq,↓reduceIte,Nat.reduceEqDiff]
 ·simp -implicitDefEqProofs (maxSteps:=9^8) only [QcT,QoB,md_en,QeQ h0,QeP h0,QaQ,go_sem,iv,bv,e1,reduceCtorEq,↓reduceIte,Nat.reduceEqDiff]
theorem md_loop {f:Nat} {caps:List D} {n:Nat} {e:Nat→Rat} (hn:n*64≤140737488351232) (hF:∀ k:Nat,k<n→Qah G f (iv (k:Int) :: caps)=some (.d (encR (e k)))):∀ (j i:Nat),i+j=n→X G (.loop QcT) (QoB f caps ((List.range i).map e) n i)=some (.x 0,md_en ((List.range n).map e))
 | 0,i,h=>by
  have:i=n:=by omega
  subst this
  rw [Qai,md_stop];rfl
 | j+1,i,h=>by
  have g:=md_go (l:=(List.range i).map e) (n:=n) (i:=i) (q:=e i) (by omega) hn (by simp) (hF i (by omega))
  rw [Qai,g,Option.bind_some,if_pos rfl]
  have ih:=md_loop hn hF j (i+1) (by omega)
  rw [List.range_succ,List.map_append] at ih
  exact ih
theorem QmK       {f:Nat} {caps:List D} {m:Int} {n:Nat} {e:Nat→Rat} (hm:m.toNat=n) (hn:n*64≤140737488351232) (hF:∀ k:Nat,k<n→Qah   G f (iv (k:Int) :: caps)=some (.d (encR (e k)))) :
    ∃ d',RwR d' (Qay ((List.range n).map e))∧Qah G QhJ [iv m,.fn f caps]=some (.d d'):=by
  rw [Qad (cf:=Qkd) rfl]
  have hl:=md_loop hn hF n 0 (by omega)
  have ex:(if (0:Int)>m then (0:Int) else m)=(n:Int):=by split<;>omega
  have e0:List.map e (List.range 0)=[]:=rfl
  rw [e0] at hl
  have gl:((List.range n).map e).length*64≤140737488351232:=by rw [List.length_map,List.length_range];exact hn
  obtain ⟨d',hr,gT⟩:=Qif (QtJ ((List.range n).map e)) gl
  refine ⟨d',hr, ?_⟩
  generalize (List.range n).map e=L at *
  simp only [QoB,md_en,Qcp,Qcq,Qaa,go_sem,nc0] at hl
  by_cases h0:L=[]
  · subst h0
    have gT':Qah G Qfb [.z true]=some (.d d'):=gT
    simp only [Qcp,Qcq,Qaa,go_sem] at hl
    simp -implicitDefEqProofs (maxSteps:=9^8) only [Qkd,Qfz,QfB,mxV,hl,gT',ex,Qaa,go_sem,iv,bv,reduceCtorEq,↓reduceIte,Nat.reduceEqDiff]
  · rw [dR,if_neg h0,rowR] at gT
    simp only [QeQ h0,QeP h0,go_sem] at hl
    simp -implicitDefEqProofs (maxSteps:=9^8) only [Qkd,Qfz,QfB,mxV,hl,gT,ex,QgW,QaQ,Qaa,go_sem,iv,bv,reduceCtorEq,↓reduceIte,Nat.reduceEqDiff]

theorem Qro {d:D} {l:List Rat} {a:Rat} (h1:RwR d l) {K:Nat} (s1:SzL K l) (sa:sz a≤K) (hK1:1≤K) (hK:K≤10000000000) {k:Nat} (hk:k<l.length):Qah G Qg4 [iv (k:Int),.rp [d],.rp [.v (.bool (decide (a.num<0))),dg (digs a.num.natAbs),.v (.bool false),dg (dd a.den)]]=some (.d (encR (l.getD k 0*a))):=by
 rw [Qad (cf:=Qik) rfl]
 have b1:=s1.getD hK1 k
 have e3:=h1.ixa hk
 have e4:=fun h=>ldR h l hk
 have g:=Qdw (a:=l.getD k 0) (b:=a) (by omega) (by omega)
 generalize l.getD k 0*a=r at *
 generalize l.getD k 0=p at *
 generalize cRs (l.drop k)=cs at *
 simp only [encR,iv] at e4 g
 have e5:∀ (h:Hp) (x y z t:D),Qco h (some 4) (.d (.rp [x,y,z,t]))=some (.d (.agg [x,y,z,t])):=fun h x y z t=>rfl
 simp -implicitDefEqProofs (maxSteps:=9^8) only [Qik,encR,Qlq,e3,e4,e5,go_sem,Qac,Qab,iv,bv,g,reduceCtorEq,↓reduceIte,Nat.reduceEqDiff]
theorem Qlg {d:D} {l:List Rat} {a:Rat} (h1:RwR d l) {K:Nat} (s1:SzL K l) (sa:sz a≤K) (hK1:1≤K) (hK:K≤10000000000) (n1:l.length≤1000000000):∃ d',RwR d' (scP l a)∧Qah G Qiu [d,encR a]=some (.d d'):=by
 rw [Qad (cf:=Qlb) rfl]
 obtain ⟨d',hr,g⟩:=QmK (f:=Qg4) (caps:=[.rp [d],.rp [.v (.bool (decide (a.num<0))),dg (digs a.num.natAbs),.v (.bool false),dg (dd a.den)]]) (m:=(l.length:Int)) (n:=l.length) (by omega) (by omega) (fun k hk=>Qro h1 s1 sa hK1 hK hk)
 refine ⟨d',hr, ?_⟩
 have ll:=h1.len
 clear hr
 have c1:QaH (.d d)=[.d d]:=by rcases h1 with ⟨rfl,_⟩ | rfl<;>rfl
 have c3:A.one (.d d)=true:=by rcases h1 with ⟨rfl,_⟩ | rfl<;>rfl
 simp only [iv] at g
 simp -implicitDefEqProofs (maxSteps:=9^8) only [Qlb,encR,snap,Qdc,allD,c1,c3,List.getElem?_cons_zero,go_sem,Qac,Qab,iv,bv,ll,g,reduceCtorEq,↓reduceIte,Nat.reduceEqDiff]

theorem Qpg {d:D} {l:List Rat} (h1:RwR d l) {K:Nat} (s1:SzL K l) (hK1:1≤K) (hK:K≤10000000000) (n1:l.length≤1000000000) {k:Nat} (hk:k<l.length-1):Qah G Qgd [iv (k:Int),.rp [d]]=some (.d (encR (l.getD (k+1) 0*((k+1:Nat):Int)))):=by
 rw [Qad (cf:=Qht) rfl]
 have b1:=s1.getD hK1 (k+1)
 have hk':k+1<l.length:=by omega
 have e3:=h1.ixa hk'
 have e4:=fun h=>ldR h l hk'
 have e1:w64 ((k:Int)+1)=((k+1:Nat):Int):=by rw [Qae (by omega) (by omega)];rfl
 have g0:=Qf5 (n:=((k+1:Nat):Int)) (d:=1) ⟨by omega,by omega⟩ ⟨by omega,by omega⟩
 rw [Qct] at g0
 have s2:=QnA (n:=((k+1:Nat):Int)) ⟨by omega,by omega⟩
 have g:=Qdw (a:=l.getD (k+1) 0) (b:=(((k+1:Nat):Int):Rat)) (by omega) (by omega)
 generalize l.getD (k+1) 0*(((k+1:Nat):Int):Rat)=r at *
 generalize l.getD (k+1) 0=p at *
 generalize (((k+1:Nat):Int):Rat)=q at *
 generalize cRs (l.drop (k+1))=cs at *
 generalize ((k+1:Nat):Int)=k1 at *
 simp only [encR,iv] at e4 g0 g
 simp -implicitDefEqProofs (maxSteps:=9^8) only [Qht,encR,Qlq,e1,e3,e4,go_sem,Qac,Qab,iv,bv,g0,g,reduceCtorEq,↓reduceIte,Nat.reduceEqDiff]
theorem Qko {d:D} {l:List Rat} (h1:RwR d l) {K:Nat} (s1:SzL K l) (hK1:1≤K) (hK:K≤10000000000) (n1:l.length≤1000000000):∃ d',RwR d' (deP l)∧Qah G QhF [d]=some (.d d'):=by
 rw [Qad (cf:=Qjt) rfl]
 obtain ⟨z,hz⟩:∃ z,(l.length:Int)-1=z:=⟨_,rfl⟩
 have e1:w64 ((l.length:Int)-1)=z:=by rw [Qae (by omega) (by omega),hz]
 obtain ⟨d',hr,g⟩:=QmK (f:=Qgd) (caps:=[.rp [d]]) (m:=z) (n:=l.length-1) (by omega) (by omega) (fun k hk=>Qpg h1 s1 hK1 hK n1 hk)
 refine ⟨d',hr, ?_⟩
 have ll:=h1.len
 clear hr
 have c1:QaH (.d d)=[.d d]:=by rcases h1 with ⟨rfl,_⟩ | rfl<;>rfl
 have c3:A.one (.d d)=true:=by rcases h1 with ⟨rfl,_⟩ | rfl<;>rfl
 simp only [iv] at g
 simp -implicitDefEqProofs (maxSteps:=9^8) only [Qjt,encR,snap,Qdc,allD,c1,c3,List.getElem?_cons_zero,go_sem,Qac,Qab,iv,bv,ll,e1,g,reduceCtorEq,↓reduceIte,Nat.reduceEqDiff]
end Go.AM

/- Polynomials: the values of sums, products with numbers, derivatives, shifts. -/
namespace Go.AM
open Go Go.RowKit

theorem Qmo (l m:List Rat) (x:Rat):evR (adP l m) x=evR l x+evR m x:=by
 rw [adP,Qm2,QhM x (l:=l) (n:=max l.length m.length) (by omega),QhM x (l:=m) (n:=max l.length m.length) (by omega),← QoS]
 exact Qen _ fun k _=>Rat.add_mul ..
theorem QpN (l m:List Rat) (x:Rat):evR (sbP l m) x=evR l x-evR m x:=by
 rw [← evR_dif,difR,sbP,QaB]
theorem QkS (l:List Rat) (a x:Rat):evR (scP l a) x=evR l x*a:=by
 rw [scP,Qm2,Ql2 x l,← Ql1]
 exact Qen _ fun k _=>by generalize l.getD k 0=u;generalize x^k=p;grind
theorem trm_ad (l m:List Rat):Trm (adP l m):=QaO _
theorem trm_sb (l m:List Rat):Trm (sbP l m):=QaO _
theorem Qr1 (l:List Rat) (a:Rat):Trm (scP l a):=QaO _
theorem Qjb (l m:List Rat):Trm (muP l m):=QaO _
theorem Qdu (l:List Rat):Trm (deP l):=QaO _
theorem Qpm (l:List Rat) (a:Rat):(scP l a).length≤l.length:=Qok _ _
theorem Qm4 (l m:List Rat):(muP l m).length≤l.length+m.length-1:=Qok _ _
theorem Qsk (l:List Rat):(deP l).length≤l.length-1:=Qok _ _
theorem szl_sc {l:List Rat} {a:Rat} {K L:Nat} (h1:SzL K l) (h2:sz a≤L) (hK:1≤K):SzL (K+L) (scP l a):=made_sz fun k _=>by
 have:=h1.getD hK k
 have:=QgM (a:=l.getD k 0) (b:=a);omega
theorem QqW {f:Nat→Rat} {K:Nat}:∀ n,(∀ k,k<n→sz (f k)≤K)→sz (sumR f n)≤n*(K+1)+1
 | 0,_=>by rw [sumR,Qic];omega
 | n+1,h=>by
  have h1:=QqW n (fun k hk=>h k (by omega))
  have h2:=h n (by omega)
  have h3:=Qkt (a:=sumR f n) (b:=f n)
  have h4:(n+1)*(K+1)=n*(K+1)+(K+1):=Nat.succ_mul n (K+1)
  rw [sumR];omega
theorem Qsg {l m:List Rat} {K:Nat} (h1:SzL K l) (h2:SzL K m) (hK:1≤K) (i k:Nat):sz (l.getD i 0*m.getD (k-i) 0)≤2*K:=by
 have:=h1.getD hK i;have:=h2.getD hK (k-i)
 have:=QgM (a:=l.getD i 0) (b:=m.getD (k-i) 0);omega
/-! ### The derivative -/
def der:List Rat→Rat→Rat
 | [],_=>0
 | _ :: l,x=>evR l x+x*der l x
theorem Qs0 (a x:Rat):∀ l:List Rat,der (l++[a]) x=der l x+a*((l.length:Int):Rat)*x^(l.length-1)
 | []=>by
  show evR [] x+x*der [] x=0+a*((0:Int):Rat)*x^0
  rw [QaG,der]
  have:((0:Int):Rat)=0:=rfl
  rw [this];grind
 | b :: l=>by
  show evR (l++[a]) x+x*der (l++[a]) x=evR l x+x*der l x+a*(((l.length+1:Nat):Int):Rat)*x^l.length
  rw [QlR,Qs0 a x l]
  have e:(((l.length+1:Nat):Int):Rat)=((l.length:Int):Rat)+1:=by
   rw [show ((l.length+1:Nat):Int)=(l.length:Int)+1 from rfl,Rat.intCast_add];rfl
  rw [e]
  cases hn:l.length with
  | zero =>
   have:(((0:Nat):Int):Rat)=0:=rfl
   rw [this,Rat.pow_zero]
   generalize evR l x=u;generalize der l x=d
   grind
  | succ n =>
   rw [Nat.add_sub_cancel,Rat.pow_succ]
   generalize evR l x=u;generalize der l x=d;generalize x^n=p;generalize (((n+1:Nat):Int):Rat)=c
   grind
theorem der_sum (x:Rat) (l:List Rat):der l x=sumR (fun k=>l.getD (k+1) 0*((k+1:Nat):Int)*x^k) (l.length-1):=by
 have h:∀ n,n≤l.length→der (l.take n) x=sumR (fun k=>l.getD (k+1) 0*((k+1:Nat):Int)*x^k) (n-1):=by
  intro n
  induction n with
  | zero=>intro _;rfl
  | succ n ih =>
   intro hn
   have e:l.take (n+1)=l.take n++[l.getD n 0]:=by
    rw [List.take_add_one]
    simp [List.getD,(by omega:n<l.length)]
   rw [e,Qs0,ih (by omega),List.length_take,Nat.min_eq_left (by omega),Nat.add_sub_cancel]
   cases n with
   | zero =>
    show sumR _ 0+l.getD 0 0*((0:Int):Rat)*x^0=sumR _ 0
    have:((0:Int):Rat)=0:=rfl
    rw [this,Rat.mul_zero,Rat.zero_mul,Rat.add_zero]
   | succ n=>rfl
 have:=h l.length (Nat.le_refl _)
 rwa [List.take_length] at this
theorem QlE (l:List Rat) (x:Rat):evR (deP l) x=der l x:=by
 rw [deP,Qm2,der_sum]
theorem Qn1:∀ (l:List Rat) (r:Rat),der l r=evR (syn l r) r
 | [],_=>rfl
 | [a],r=>by
  rw [der,der,syn,QaG];grind
 | a :: b :: l,r=>by
  have ih:=Qn1 (b :: l) r
  rw [der,ih,syn,Qar (evR (b :: l) r) (syn (b :: l) r) r]
  generalize evR (syn (b :: l) r) r=v
  generalize evR (b :: l) r=u
  grind
theorem der_of {l:List Rat} {r v:Rat} {q:List Rat} (h:∀ x,r<x→evR l x=evR l r+(x-r)*evR q x):der l r=evR q r:=by
 rw [Qn1]
 refine eq_beyond (c:=r) (fun x hx=>?_) r
 have h1:=h x hx
 have h2:=Qhr l r x
 have h3:(x-r)*(evR (syn l r) x-evR q x)=0:=by
  generalize evR (syn l r) x=u at *;generalize evR q x=w at *
  grind
 rcases Rat.mul_eq_zero.1 h3 with h4 | h4
 ·exfalso;grind
 ·generalize evR (syn l r) x=u at *;generalize evR q x=w at *
  grind
theorem Qpx (l m:List Rat) (r:Rat):der (muP l m) r=der l r*evR m r+evR l r*der m r:=by
 have h:=der_of (l:=muP l m) (r:=r) (v:=0) (q:=adP (muP (syn l r) m) (scP (syn m r) (evR l r))) (fun x _=>by
  rw [Qa8,Qa8,Qmo,Qa8,QkS,Qhr l r x,Qhr m r x]
  generalize evR l r=a;generalize evR m r=b;generalize evR (syn l r) x=u;generalize evR (syn m r) x=w
  grind)
 rw [h,Qmo,Qa8,QkS,Qn1,Qn1]
 generalize evR l r=a;generalize evR m r=b;generalize evR (syn l r) r=u;generalize evR (syn m r) r=w
 grind

/-! ### Shifts -/
end Go.AM

/- poly.Mul. -/
namespace Go.AM
open Go Go.RowKit

theorem RwR.cell {d:D} {l:List Rat} (h:RwR d l):QaH (.d d)=[.d d]:=by rcases h with ⟨rfl,_⟩ | rfl<;>rfl
theorem RwR.onec {d:D} {l:List Rat} (h:RwR d l):A.one (.d d)=true:=by rcases h with ⟨rfl,_⟩ | rfl<;>rfl
section
variable (p q:List Rat) (k:Nat)
def mu_f (i:Nat):Rat:=p.getD i 0*q.getD (k-i) 0
def QlJ:Nat:=k+1-q.length
def Qkx:Nat:=max (QlJ q k) (min (k+1) p.length)
theorem mu_low:sumR (mu_f p q k) (QlJ q k)=0:=Qgl _ fun i hi=>by
 unfold mu_f;unfold QlJ at hi
 rw [QaW (l:=q) (by omega),Rat.mul_zero]
theorem mu_high:sumR (mu_f p q k) (Qkx p q k)=conv p q k:=by
 by_cases h:min (k+1) p.length=k+1
 ·have:Qkx p q k=k+1:=by unfold Qkx QlJ;omega
  rw [this];rfl
 ·have h1:p.length≤k:=by omega
  have h2:p.length≤Qkx p q k:=by unfold Qkx;omega
  have hz:∀ i,p.length≤i→mu_f p q k i=0:=fun i hi=>by unfold mu_f;rw [QaW hi,Rat.zero_mul]
  rw [Qo0 h2 hz]
  exact (Qo0 (f:=mu_f p q k) (n:=p.length) (m:=k+1) (by omega) hz).symm
end
def Qp7 (dp dq:D) (k i:Int) (s:Rat):St:=mkS [(0,ai k),(1,.d (.rp [dq])),(2,.d (.rp [dp])),(4,.ptr [4] 0),(5,.ptr [5] 0),(6,ai i)] [([4],QiX),([5],boxR s)]
def m1_en (s:Rat):St:=mkS [(4,.ptr [4] 0),(5,.ptr [5] 0)] [([4],QiX),([5],boxR s)]
variable [Its]

section
variable {dp dq:D} {p q:List Rat} {k:Nat} {K:Nat}
theorem m1_go (hp:RwR dp p) (hq:RwR dq q) (sp:SzL K p) (sq:SzL K q) (hK1:1≤K) (hb:(p.length+q.length)*(2*K+1)≤10000000000) {i:Nat} (h1:QlJ   q k≤i) (h2:i<Qkx   p q k) :
    X G QdO (Qp7 dp dq k i (sumR (mu_f p q k) i))=some (.n,Qp7 dp dq k ((i+1:Nat):Int) (sumR (mu_f p q k) (i+1))):=by
  have hi1:i≤k:=by unfold Qkx at h2;omega
  have hi2:i<p.length:=by unfold Qkx at h2;omega
  have hi3:k-i<q.length:=by unfold QlJ at h1;omega
  have hL:p.length+q.length≤10000000000:=Nat.le_trans (Nat.le_mul_of_pos_right _ (by omega)) hb
  obtain ⟨z,hz⟩:∃ z,(p.length:Int)-1=z:=⟨_,rfl⟩
  have e0:w64 ((p.length:Int)-1)=z:=by rw [Qae (by omega) (by omega),hz]
  obtain ⟨mn,hmn⟩:∃ mn,(if z<(k:Int) then z else (k:Int))=mn:=⟨_,rfl⟩
  have e1:decide ((i:Int)≤mn)=true:=le_t (by rw [← hmn];split<;>omega)
  have e2:w64 ((k:Int)-(i:Int))=((k-i:Nat):Int):=by rw [Qae (by omega) (by omega)];omega
  have e3:w64 ((i:Int)+1)=((i+1:Nat):Int):=by rw [Qae (by omega) (by omega)];rfl
  have lp:=hp.len
  have x1:=hp.ixa hi2
  have y1:=fun h=>ldR h p hi2
  have x2:=hq.ixa hi3
  have y2:=fun h=>ldR h q hi3
  have s1:=sp.getD hK1 i
  have s2:=sq.getD hK1 (k-i)
  have hKb:2*K+1≤(p.length+q.length)*(2*K+1):=Nat.le_mul_of_pos_left _ (by omega)
  have g1:=Qdw (a:=p.getD i 0) (b:=q.getD (k-i) 0) (by omega) (by omega)
  have s3:=QqW (f:=mu_f p q k) (K:=2*K) i (fun j _=>Qsg sp sq hK1 j k)
  have s4:i*(2*K+1)≤(p.length+q.length)*(2*K+1):=Nat.mul_le_mul_right _ (by omega)
  have s5:=Qsg sp sq hK1 i k
  have g2:=QeT (a:=sumR (mu_f p q k) i) (b:=p.getD i 0*q.getD (k-i) 0) (by omega) (by omega)
  have e4:sumR (mu_f p q k) i+p.getD i 0*q.getD (k-i) 0=sumR (mu_f p q k) (i+1):=rfl
  rw [e4] at g2
  clear e4 s1 s2 s3 s4 s5 hKb hi1 hi2 hi3 h1 h2 hb sp sq
  generalize sumR (mu_f p q k) (i+1)=r2 at *
  generalize sumR (mu_f p q k) i=r1 at *
  generalize p.getD i 0*q.getD (k-i) 0=t at *
  generalize p.getD i 0=u at *
  generalize q.getD (k-i) 0=v at *
  generalize cRs (p.drop i)=c1 at *
  generalize cRs (q.drop (k-i))=c2 at *
  simp only [encR] at y1 y2 g1 g2
  simp -implicitDefEqProofs (maxSteps:=9^8) only [QdO,Qp7,boxR,QiX,QfB,mnV,Qlq,lp,x1,x2,y1,y2,hmn,go_sem,Qac,Qab,iv,bv,e0,e1,e2,e3,g1,g2,reduceCtorEq,↓reduceIte,Nat.reduceEqDiff]
theorem m1_stop (hp:RwR dp p) (hL:p.length≤10000000000) {i:Nat} {s:Rat} (h2:min (k+1) p.length≤i):X G QdO (Qp7 dp dq k i s)=some (.x 0,m1_en s):=by
 obtain ⟨z,hz⟩:∃ z,(p.length:Int)-1=z:=⟨_,rfl⟩
 have e0:w64 ((p.length:Int)-1)=z:=by rw [Qae (by omega) (by omega),hz]
 obtain ⟨mn,hmn⟩:∃ mn,(if z<(k:Int) then z else (k:Int))=mn:=⟨_,rfl⟩
 have e1:decide ((i:Int)≤mn)=false:=le_f (by rw [← hmn];split<;>omega)
 have lp:=hp.len
 simp -implicitDefEqProofs (maxSteps:=9^8) only [QdO,Qp7,m1_en,boxR,QiX,QfB,mnV,Qlq,lp,hmn,go_sem,Qac,Qab,iv,bv,e0,e1,reduceCtorEq,↓reduceIte,Nat.reduceEqDiff]
theorem m1_loop (hp:RwR dp p) (hq:RwR dq q) (sp:SzL K p) (sq:SzL K q) (hK1:1≤K) (hb:(p.length+q.length)*(2*K+1)≤10000000000):∀ (j i:Nat),i+j=Qkx   p q k→QlJ   q k≤i →
    X G (.loop QdO) (Qp7 dp dq k i (sumR (mu_f p q k) i))=some (.x 0,m1_en (conv p q k))
  | 0,i,h,h1=>by
    have hL:p.length+q.length≤10000000000:=Nat.le_trans (Nat.le_mul_of_pos_right _ (by omega)) hb
    have:i=Qkx p q k:=by omega
    subst this
    rw [Qai,m1_stop hp (by omega) (by unfold Qkx;omega),mu_high];rfl
  | j+1,i,h,h1=>by
    rw [Qai,m1_go hp hq sp sq hK1 hb h1 (by omega),Option.bind_some,if_pos rfl]
    exact m1_loop hp hq sp sq hK1 hb j (i+1) (by omega) (by omega)
theorem Mul1_spec (hp:RwR dp p) (hq:RwR dq q) (sp:SzL K p) (sq:SzL K q) (hK1:1≤K) (hb:(p.length+q.length)*(2*K+1)≤10000000000) (hk:k≤10000000000):Qah G Qih [iv (k:Int),.rp [dq],.rp [dp]]=some (.d (encR (conv p q k))):=by
 rw [Qad (cf:=QkM) rfl]
 have hL:p.length+q.length≤10000000000:=Nat.le_trans (Nat.le_mul_of_pos_right _ (by omega)) hb
 have hl:=m1_loop (dp:=dp) (dq:=dq) (k:=k) hp hq sp sq hK1 hb (Qkx p q k-QlJ q k) (QlJ q k) (by unfold Qkx;omega) (Nat.le_refl _)
 rw [mu_low] at hl
 obtain ⟨z,hz⟩:∃ z,(k:Int)-(q.length:Int)=z:=⟨_,rfl⟩
 obtain ⟨z1,hz1⟩:∃ z1,z+1=z1:=⟨_,rfl⟩
 have e0:w64 ((k:Int)-(q.length:Int))=z:=by rw [Qae (by omega) (by omega),hz]
 have e1:w64 (z+1)=z1:=by rw [Qae (by omega) (by omega),hz1]
 have e2:(if z1>(0:Int) then z1 else (0:Int))=((QlJ q k:Nat):Int):=by unfold QlJ;split<;>omega
 have lq:=hq.len
 have e5:boxR 0=QiX:=by
  have ez:decide ((0:Rat).num<0)=false:=rfl
  have ez2:dg (digs (0:Rat).num.natAbs)=.z true:=by rw [Rat.zero_num,show (0:Int).natAbs=0 from rfl,Qax];rfl
  have ez3:dg (dd (0:Rat).den)=.z true:=rfl
  rw [boxR,ez,ez2,ez3];rfl
 rw [Qp7,e5] at hl
 clear e5
 generalize conv p q k=r at *
 generalize ((QlJ q k:Nat):Int)=lo at *
 simp only [Qp7,m1_en,boxR,QiX,go_sem] at hl
 simp -implicitDefEqProofs (maxSteps:=9^8) only [QkM,QfB,mxV,Qlq,hl,lq,e0,e1,e2,encR,go_sem,Qac,Qab,iv,bv,reduceCtorEq,↓reduceIte,Nat.reduceEqDiff]
theorem Qth (hp:RwR dp p) (hq:RwR dq q) (sp:SzL K p) (sq:SzL K q) (hK1:1≤K) (hb:(p.length+q.length)*(2*K+1)≤10000000000):∃ d',RwR d' (muP p q)∧Qah G QkY [dp,dq]=some (.d d'):=by
 rw [Qad (cf:=QoC) rfl]
 have hL:p.length+q.length≤10000000000:=Nat.le_trans (Nat.le_mul_of_pos_right _ (by omega)) hb
 obtain ⟨z,hz⟩:∃ z,(p.length:Int)+(q.length:Int)=z:=⟨_,rfl⟩
 obtain ⟨z1,hz1⟩:∃ z1,z-1=z1:=⟨_,rfl⟩
 have e0:w64 ((p.length:Int)+(q.length:Int))=z:=by rw [Qae (by omega) (by omega),hz]
 have e1:w64 (z-1)=z1:=by rw [Qae (by omega) (by omega),hz1]
 obtain ⟨d',hr,g⟩:=QmK (f:=Qih) (caps:=[.rp [dq],.rp [dp]]) (m:=z1) (n:=p.length+q.length-1) (by omega) (by omega) (fun k hk=>Mul1_spec (k:=k) hp hq sp sq hK1 hb (by omega))
 refine ⟨d',hr, ?_⟩
 have ll:=hp.len
 have ll2:=hq.len
 have c1:=hp.cell
 have c2:=hq.cell
 have c3:=hp.onec
 have c4:=hq.onec
 clear hr
 simp only [iv] at g
 simp -implicitDefEqProofs (maxSteps:=9^8) only [QoC,snap,Qdc,allD,c1,c2,c3,c4,List.getElem?_cons_zero,go_sem,Qac,Qab,iv,bv,ll,ll2,e0,e1,g,reduceCtorEq,↓reduceIte,Nat.reduceEqDiff]
end
end Go.AM

/- How great the coefficients are: a common denominator and a bound of the numerators. -/
namespace Go.AM
open Go Go.RowKit

def BB:Nat:=1000000000
theorem QsQ (n:Nat):0<BB^n:=Nat.pow_pos (by decide)
theorem QcX {n m:Nat} (h:n≤m):BB^n≤BB^m:=Nat.pow_le_pow_right (by decide) h
def cN (n:Nat):Rat:=((n:Int):Rat)
theorem Qi2 (n m:Nat):cN (n*m)=cN n*cN m:=by unfold cN;rw [Int.natCast_mul,Rat.intCast_mul]
theorem cN_ne {n:Nat} (h:0<n):cN n≠0:=by
 unfold cN
 intro h0
 have h1:((n:Int):Rat)=((0:Int):Rat):=h0
 rw [Rat.intCast_inj] at h1
 omega
def Hq (D X:Nat) (q:Rat):Prop:=∃ m:Int,q*cN D=(m:Rat)∧m.natAbs≤X
theorem Hq.zero (D X:Nat):Hq D X 0:=⟨0,by rw [Rat.zero_mul];rfl,by simp⟩
theorem Hq.le {D X Y:Nat} {q:Rat} (h:Hq D X q) (hX:X≤Y):Hq D Y q:=by
 obtain ⟨m,h1,h2⟩:=h
 exact ⟨m,h1,by omega⟩
theorem Hq.add {D X Y:Nat} {q p:Rat} (h:Hq D X q) (h':Hq D Y p):Hq D (X+Y) (q+p):=by
 obtain ⟨m,h1,h2⟩:=h
 obtain ⟨n,h3,h4⟩:=h'
 exact ⟨m+n,by rw [Rat.add_mul,h1,h3,Rat.intCast_add],by omega⟩
theorem Hq.neg {D X:Nat} {q:Rat} (h:Hq D X q):Hq D X (-q):=by
 obtain ⟨m,h1,h2⟩:=h
 exact ⟨-m,by rw [Rat.neg_mul,h1,Rat.intCast_neg],by omega⟩
theorem Hq.sub {D X Y:Nat} {q p:Rat} (h:Hq D X q) (h':Hq D Y p):Hq D (X+Y) (q-p):=by
 rw [Rat.sub_eq_add_neg];exact h.add h'.neg
theorem Hq.mul {D E X Y:Nat} {q p:Rat} (h:Hq D X q) (h':Hq E Y p):Hq (D*E) (X*Y) (q*p):=by
 obtain ⟨m,h1,h2⟩:=h
 obtain ⟨n,h3,h4⟩:=h'
 refine ⟨m*n, ?_,by rw [Int.natAbs_mul];exact Nat.mul_le_mul h2 h4⟩
 rw [Qi2,Rat.intCast_mul,← h1,← h3]
 generalize cN D=u;generalize cN E=v;grind
theorem Hq.lift {D X:Nat} {q:Rat} (h:Hq D X q) (E:Nat):Hq (D*E) (X*E) q:=by
 obtain ⟨m,h1,h2⟩:=h
 refine ⟨m*E, ?_,by rw [Int.natAbs_mul];exact Nat.mul_le_mul h2 (by omega)⟩
 rw [Qi2,Rat.intCast_mul,← h1,Rat.mul_assoc];rfl
theorem Hq.lift' {D X:Nat} {q:Rat} (h:Hq D X q) (E:Nat):Hq (E*D) (E*X) q:=by
 rw [Nat.mul_comm E,Nat.mul_comm E];exact h.lift E
theorem Hq.sum {D X:Nat} {f:Nat→Rat}:∀ n,(∀ i,i<n→Hq D X (f i))→Hq D (n*X) (sumR f n)
 | 0,_=>by rw [sumR,Nat.zero_mul];exact Hq.zero D 0
 | n+1,h=>by
  rw [sumR,Nat.succ_mul]
  exact (Hq.sum n (fun i hi=>h i (by omega))).add (h n (by omega))
theorem Hq.int (n:Int):Hq 1 n.natAbs (n:Rat):=⟨n,Rat.mul_one _,Nat.le_refl _⟩
theorem Hq.div {n d:Int} (hd:0<d):Hq d.natAbs n.natAbs (Rat.divInt n d):=by
 refine ⟨n, ?_,Nat.le_refl _⟩
 have e:cN d.natAbs=(d:Rat):=by unfold cN;rw [Int.natAbs_of_nonneg (by omega)]
 have h0:(d:Rat)≠0:=by
  intro h0
  have h1:(d:Rat)=((0:Int):Rat):=h0
  rw [Rat.intCast_inj] at h1;omega
 rw [e,Rat.divInt_eq_div,Rat.div_def,Rat.mul_assoc,Rat.inv_mul_cancel _ h0,Rat.mul_one]
theorem Hq.sz {D X d h:Nat} {q:Rat} (hD:0<D) (hDd:D≤BB^d) (hX:X≤BB^h) (H:Hq D X q):sz q≤max d h+1:=by
 obtain ⟨m,h1,h2⟩:=H
 have e:q=Rat.divInt m (D:Int):=by
  rw [Rat.divInt_eq_div,Rat.div_def,← h1,Rat.mul_assoc]
  show q=q*(cN D*(cN D)⁻¹)
  rw [Rat.mul_inv_cancel _ (cN_ne hD),Rat.mul_one]
 rw [e]
 have hb:∀ n,BB^n<1000000000^(n+1):=fun n=>by
  rw [Nat.pow_succ]
  have:=QsQ n
  show BB^n<BB^n*1000000000
  omega
 refine Qfu (by omega) (Nat.le_trans (Qp0 (k:=h+1) ?_) (by omega)) (Nat.le_trans (Qp0 (k:=d+1) ?_) (by omega))
 ·exact Nat.lt_of_le_of_lt (Nat.le_trans h2 hX) (hb h)
 ·exact Nat.lt_of_le_of_lt (by rw [Int.natAbs_natCast];exact hDd) (hb d)

def HL (d h:Nat) (l:List Rat):Prop:=∃ D:Nat,0<D∧D≤BB^d∧∀ q∈l,Hq D (BB^h) q
def H1 (d h:Nat) (q:Rat):Prop:=∃ D:Nat,0<D∧D≤BB^d∧Hq D (BB^h) q
theorem HL.sz {d h:Nat} {l:List Rat} (H:HL d h l):SzL (max d h+1) l:=by
 obtain ⟨D,h1,h2,h3⟩:=H
 exact fun q hq=>(h3 q hq).sz h1 h2 (Nat.le_refl _)
theorem H1.sz {d h:Nat} {q:Rat} (H:H1 d h q):sz q≤max d h+1:=by
 obtain ⟨D,h1,h2,h3⟩:=H
 exact h3.sz h1 h2 (Nat.le_refl _)
theorem HL.mono {d h d' h':Nat} {l:List Rat} (H:HL d h l) (hd:d≤d') (hh:h≤h'):HL d' h' l:=by
 obtain ⟨D,h1,h2,h3⟩:=H
 exact ⟨D,h1,Nat.le_trans h2 (QcX hd),fun q hq=>(h3 q hq).le (QcX hh)⟩
theorem HL.nil (d h:Nat):HL d h []:=⟨1,by omega,QsQ d,fun q hq=>by simp at hq⟩
theorem HL.trim {d h:Nat} {l:List Rat} (H:HL d h l):HL d h (Qay l):=by
 obtain ⟨D,h1,h2,h3⟩:=H
 exact ⟨D,h1,h2,fun q hq=>h3 q (List.mem_of_mem_take hq)⟩
theorem HL.one {d h:Nat} {q:Rat} (H:H1 d h q):HL d h [q]:=by
 obtain ⟨D,h1,h2,h3⟩:=H
 exact ⟨D,h1,h2,fun p hp=>by rw [List.mem_singleton.1 hp];exact h3⟩
theorem Hq.getD {D X:Nat} {l:List Rat} (H:∀ q∈l,Hq D X q) (k:Nat):Hq D X (l.getD k 0):=by
 by_cases hk:k<l.length
 ·have:l.getD k 0=l[k]:=by rw [List.getD_eq_getElem?_getD,List.getElem?_eq_getElem hk];rfl
  rw [this];exact H _ (List.getElem_mem hk)
 ·rw [QaW (by omega)];exact Hq.zero D X
theorem HL.getD {d h:Nat} {l:List Rat} (H:HL d h l) (k:Nat):H1 d h (l.getD k 0):=by
 obtain ⟨D,h1,h2,h3⟩:=H
 exact ⟨D,h1,h2,Hq.getD h3 k⟩
theorem HL.made {D X n:Nat} {e:Nat→Rat} {d h:Nat} (hD:0<D) (hd:D≤BB^d) (hX:X≤BB^h) (H:∀ k,k<n→Hq D X (e k)):HL d h (Qay ((List.range n).map e)) :=
 HL.trim ⟨D,hD,hd,fun q hq=>by
  obtain ⟨k,hk,rfl⟩:=List.mem_map.1 hq
  exact (H k (List.mem_range.1 hk)).le hX⟩
theorem QrK {a b n:Nat} (h1:a≤BB^n) (h2:b≤BB^n):a+b≤BB^(n+1):=by
 rw [Nat.pow_succ]
 have:BB^n*2≤BB^n*BB:=Nat.mul_le_mul_left _ (by decide)
 omega
theorem Qdb {a b n m:Nat} (h1:a≤BB^n) (h2:b≤BB^m):a*b≤BB^(n+m):=by
 rw [Nat.pow_add];exact Nat.mul_le_mul h1 h2
theorem HL.ad {d1 h1 d2 h2:Nat} {l m:List Rat} (H:HL d1 h1 l) (H':HL d2 h2 m):HL (d1+d2) (max (h1+d2) (h2+d1)+1) (adP l m):=by
 obtain ⟨D,a1,a2,a3⟩:=H
 obtain ⟨E,b1,b2,b3⟩:=H'
 refine HL.made (D:=D*E) (X:=BB^h1*E+D*BB^h2) (Nat.mul_pos a1 b1) (Qdb a2 b2) (QrK ?_ ?_) (fun k _=>((Hq.getD a3 k).lift E).add ((Hq.getD b3 k).lift' D))
 ·exact Nat.le_trans (Qdb (Nat.le_refl _) b2) (QcX (by omega))
 ·exact Nat.le_trans (Qdb a2 (Nat.le_refl _)) (QcX (by omega))
theorem HL.sb {d1 h1 d2 h2:Nat} {l m:List Rat} (H:HL d1 h1 l) (H':HL d2 h2 m):HL (d1+d2) (max (h1+d2) (h2+d1)+1) (sbP l m):=by
 obtain ⟨D,a1,a2,a3⟩:=H
 obtain ⟨E,b1,b2,b3⟩:=H'
 refine HL.made (D:=D*E) (X:=BB^h1*E+D*BB^h2) (Nat.mul_pos a1 b1) (Qdb a2 b2) (QrK ?_ ?_) (fun k _=>((Hq.getD a3 k).lift E).sub ((Hq.getD b3 k).lift' D))
 ·exact Nat.le_trans (Qdb (Nat.le_refl _) b2) (QcX (by omega))
 ·exact Nat.le_trans (Qdb a2 (Nat.le_refl _)) (QcX (by omega))
theorem HL.sc {d1 h1 d2 h2:Nat} {l:List Rat} {a:Rat} (H:HL d1 h1 l) (H':H1 d2 h2 a):HL (d1+d2) (h1+h2) (scP l a):=by
 obtain ⟨D,a1,a2,a3⟩:=H
 obtain ⟨E,b1,b2,b3⟩:=H'
 exact HL.made (D:=D*E) (X:=BB^h1*BB^h2) (Nat.mul_pos a1 b1) (Qdb a2 b2) (Qdb (Nat.le_refl _) (Nat.le_refl _)) (fun k _=>(Hq.getD a3 k).mul b3)
theorem HL.mu {d1 h1 d2 h2:Nat} {l m:List Rat} (H:HL d1 h1 l) (H':HL d2 h2 m) (hn:l.length+m.length≤BB):HL (d1+d2) (h1+h2+1) (muP l m):=by
 obtain ⟨D,a1,a2,a3⟩:=H
 obtain ⟨E,b1,b2,b3⟩:=H'
 refine HL.made (D:=D*E) (X:=(l.length+m.length)*(BB^h1*BB^h2)) (Nat.mul_pos a1 b1) (Qdb a2 b2) ?_ (fun k hk=>?_)
 ·rw [Nat.pow_succ,Nat.pow_add,Nat.mul_comm]
  exact Nat.mul_le_mul_left _ hn
 ·exact (Hq.sum (k+1) (fun i _=>(Hq.getD a3 i).mul (Hq.getD b3 (k-i)))).le (Nat.mul_le_mul_right _ (by omega))
theorem HL.de {d h:Nat} {l:List Rat} (H:HL d h l) (hn:l.length≤BB):HL d (h+1) (deP l):=by
 obtain ⟨D,a1,a2,a3⟩:=H
 refine HL.made (D:=D*1) (X:=BB^h*BB) (by omega) (by omega) (Nat.le_refl _) (fun k hk=>?_)
 refine (((Hq.getD a3 (k+1)).mul (Hq.int ((k+1:Nat):Int)))).le (Nat.mul_le_mul_left _ ?_)
 rw [Int.natAbs_natCast];omega
theorem Hq.ev {D X E Y:Nat} {x:Rat} (hx:Hq E Y x) (hE:0<E):∀ {l:List Rat},(∀ q∈l,Hq D X q)→Hq (D*E^l.length) (X*(E+Y)^l.length) (evR l x)
 | [],_=>by rw [QaG];exact Hq.zero _ _
 | a :: l,h=>by
  have ih:=Hq.ev hx hE (l:=l) (fun q hq=>h q (List.mem_cons_of_mem _ hq))
  have h1:=(h a (List.mem_cons_self ..)).lift (E^(l.length+1))
  have h2:=ih.mul hx
  rw [Qar,List.length_cons]
  have e:D*E^l.length*E=D*E^(l.length+1):=by rw [Nat.pow_succ,Nat.mul_assoc]
  rw [e] at h2
  refine (h2.add h1).le ?_
  have e1:X*(E+Y)^(l.length+1)=X*(E+Y)^l.length*Y+X*(E+Y)^l.length*E:=by
   rw [Nat.pow_succ,← Nat.mul_assoc,Nat.mul_add,Nat.add_comm]
  rw [e1]
  have e2:X*E^(l.length+1)≤X*(E+Y)^l.length*E:=by
   rw [Nat.pow_succ,← Nat.mul_assoc]
   exact Nat.mul_le_mul_right _ (Nat.mul_le_mul_left _ (Nat.pow_le_pow_left (by omega) _))
  omega
end Go.AM

