/- Part 7 of the proof: a small machine, its soundness against the model, and what the program's functions compute on it. -/
import Derived.Test.YthhdbchmjfdgmaaGreatM6
import Derived.Test.YthhdbchmjfdgmaaGreatM3
set_option linter.unusedVariables false
set_option linter.unusedSimpArgs false
/- gantryref04: minus, Add, Of -/
namespace Go.AM
open Go Go.RowKit

theorem QjI (k:Key) (h:Hp) (l:List Int):retA k h false true (gR l)=some (.d (dg l),h):=by
 by_cases hl:l=[]
 ·subst hl;rfl
 ·rw [gR,if_neg hl,Qhr hl];rfl
theorem sub_arith {x y c:Int} (hx:0≤x∧x<1000000000) (hy:0≤y∧y<1000000000) (hc:0≤c∧c≤1) :
    w64 (x-y)=x-y∧w64 (x-y-c)=x-y-c∧(x-y-c<0→w64 (x-y-c+1000000000)=x-y-c+1000000000∧0≤x-y-c+1000000000∧x-y-c+1000000000<1000000000)∧(¬ x-y-c<0→0≤x-y-c∧x-y-c<1000000000) :=
  ⟨Qae (by omega) (by omega),Qae (by omega) (by omega),fun _=>⟨Qae (by omega) (by omega),by omega,by omega⟩,fun _=>⟨by omega,by omega⟩⟩
variable [Its]

section
variable (da db:D) (a b:List Int)
def QkB (o:List Int) (c i:Int):St:=mkS [(0,.d da),(1,.d db),(5,gA 32 o),(6,ai c),(7,ai i)] (gH 32 o)
def Qmg (o:List Int):St:=mkS [(5,gA 32 o)] (gH 32 o)

theorem rm_stop (hra:Rw da a) {o:List Int} (c:Int):X G QaJ (QkB da db o c (a.length:Int))=some (.x 0,Qmg o):=by
 have e1:decide ((a.length:Int)<(a.length:Int))=false:=lt_f (by omega)
 by_cases ho:o=[]
 ·subst ho
  simp -implicitDefEqProofs (maxSteps:=9^8) only [QaJ,QkB,Qmg,QcI,QcH,Qaa,go_sem,iv,bv,hra.len,e1,Qak,reduceCtorEq,↓reduceIte,Nat.reduceEqDiff]
 ·simp -implicitDefEqProofs (maxSteps:=9^8) only [QaJ,QkB,Qmg,Qf6 ho,Qf9 ho,go_sem,iv,bv,hra.len,e1,Qak,reduceCtorEq,↓reduceIte,Nat.reduceEqDiff]

theorem rm_go (hra:Rw da a) (hrb:Rw db b) (ha:Dig a) (hb:Dig b) {o:List Int} {c:Int} {i:Nat} (hc:0≤c∧c≤1) (hi:i<a.length) (hil:i<4611686018427387904) (hol:(o.length+1)*8≤140737488351232) :
    ∃ v c',(0≤v∧v<1000000000)∧(0≤c'∧c'≤1)∧v=a.getD i 0-b.getD i 0-c+1000000000*c'∧X G QaJ (QkB da db o c (i:Int))=some (.n,QkB da db (o++[v]) c' ((i+1:Nat):Int)):=by
  obtain ⟨e1,e2,e3,e4⟩:=sub_arith (ha.getD i) (hb.getD i) hc
  have d2:=QgM hrb (i:=i)
  simp only [iv] at d2
  have n1:=hra.ixn (j:=i) hi
  have n2:=fun hp=>ldv hp a (j:=i) hi
  have n3:w64 ((i:Int)+1)=((i+1:Nat):Int):=by rw [Qae (by omega) (by omega)];omega
  have n4:decide ((i:Int)<(a.length:Int))=true:=lt_t (by omega)
  have f1:=Qi2 hol
  have f2:=QhR
  obtain ⟨w,hw⟩:∃ w,a.getD i 0-b.getD i 0-c=w:=⟨_,rfl⟩
  rw [hw] at e2 e3 e4 ⊢
  by_cases h0:w<0
  · obtain ⟨e5,e6⟩:=e3 h0
    have e7:decide (w<0)=true:=lt_t h0
    refine ⟨w+1000000000,1,e6,by omega,by omega, ?_⟩
    by_cases ho:o=[]
    · subst ho
      simp -implicitDefEqProofs (maxSteps:=9^8) only [QaJ,QkB,QcI,QcH,Qaa,Qls,Qk5,go_sem,Qa2,iv,bv,hra.len,n1,n2,n3,n4,d2,e1,hw,e2,e5,e7,f2,QeT,D.one,allD,Qak,reduceCtorEq,↓reduceIte,Nat.reduceEqDiff]
    · simp -implicitDefEqProofs (maxSteps:=9^8) only [QaJ,QkB,Qf6 ho,Qf9 ho,QhF,QhH,go_sem,Qa2,iv,bv,hra.len,n1,n2,n3,n4,d2,e1,hw,e2,e5,e7,f1,f2,Qea,Qai,D.one,allD,Qak,reduceCtorEq,↓reduceIte,Nat.reduceEqDiff]
  · have e5:=e4 h0
    have e7:decide (w<0)=false:=lt_f h0
    refine ⟨w,0,e5,by omega,by omega, ?_⟩
    by_cases ho:o=[]
    · subst ho
      simp -implicitDefEqProofs (maxSteps:=9^8) only [QaJ,QkB,QcI,QcH,Qaa,Qls,Qk5,go_sem,Qa2,iv,bv,hra.len,n1,n2,n3,n4,d2,e1,hw,e2,e7,f2,QeT,D.one,allD,Qak,reduceCtorEq,↓reduceIte,Nat.reduceEqDiff]
    · simp -implicitDefEqProofs (maxSteps:=9^8) only [QaJ,QkB,Qf6 ho,Qf9 ho,QhF,QhH,go_sem,Qa2,iv,bv,hra.len,n1,n2,n3,n4,d2,e1,hw,e2,e7,f1,f2,Qea,Qai,D.one,allD,Qak,reduceCtorEq,↓reduceIte,Nat.reduceEqDiff]

theorem rm_loop (hra:Rw da a) (hrb:Rw db b) (ha:Dig a) (hb:Dig b) (hl:(a.length+1)*8≤140737488351232):∀ (k i:Nat) (o:List Int) (c:Int),i+k=a.length→(0≤c∧c≤1)→o.length=i→Dig o→val o-(1000000000:Int)^i*c=val (a.take i)-val (b.take i) →
    ∃ o' c',X G (.loop QaJ) (QkB da db o c (i:Int))=some (.x 0,Qmg o')∧Dig o'∧o'.length=a.length∧(0≤c'∧c'≤1)∧val o'-(1000000000:Int)^a.length*c'=val a-val (b.take a.length)
  | 0,i,o,c,hi,hc,ho,hd,hv=>by
    obtain rfl:i=a.length:=by omega
    refine ⟨o,c,by rw [Qag,rm_stop da db a hra c];rfl,hd,ho,hc, ?_⟩
    rw [hv,List.take_length]
  | k+1,i,o,c,hi,hc,ho,hd,hv=>by
    obtain ⟨v,c',h1,h2,h3,hx⟩:=rm_go da db a b hra hrb ha hb hc (i:=i) (o:=o) (by omega) (by omega) (by omega)
    obtain ⟨o',c2,g1,g2⟩:=rm_loop hra hrb ha hb hl k (i+1) (o++[v]) c' (by omega) h2 (by simp;omega) (QrF hd h1) (by
      rw [Qql,ho,Qaq a,Qaq b,Int.pow_succ,h3]
      clear hx h1 h2 h3
      grind)
    exact ⟨o',c2,by rw [Qag,hx];exact g1,g2⟩
end

theorem Qhe         {da db:D} {a b:List Int} (hra:Rw da a) (hrb:Rw db b) (ha:Dig a) (hb:Dig b) (hl:(a.length+1)*8≤140737488351232) (hbl:b.length≤a.length) (hle:val b≤val a) :
    ∃ out,Qah G Qcp [da,db]=some (gR out)∧out.length=a.length∧Dig out∧val out=val a-val b:=by
  obtain ⟨o,c,h1,h2,h3,h4,h5⟩:=rm_loop da db a b hra hrb ha hb hl a.length 0 [] 0 (by omega) (by omega) rfl .nil (by simp [val])
  rw [List.take_of_length_le hbl] at h5
  have hc:c=0:=by
    rcases Int.lt_or_le 0 c with h | h
    · exfalso
      have e1:c=1:=by omega
      subst e1
      have e2:=Qfs h2
      rw [h3] at e2
      rw [Int.mul_one] at h5
      generalize (1000000000:Int)^a.length=x at *
      omega
    · omega
  subst hc
  rw [Int.mul_zero,Int.sub_zero] at h5
  refine ⟨o, ?_,h3,h2,h5⟩
  rw [Qad (cf:=QdA) rfl]
  by_cases ho:o=[]
  · subst ho
    simp only [QkB,Qmg,QcI,QcH,go_sem,nc0] at h1
    simp -implicitDefEqProofs (maxSteps:=9^8) only [QdA,gR,Qaa,go_sem,iv,bv,h1,Qak,reduceCtorEq,↓reduceIte,Nat.reduceEqDiff]
  · simp only [QkB,Qmg,QcI,QcH,Qf6 ho,Qf9 ho,go_sem,nc0] at h1
    simp -implicitDefEqProofs (maxSteps:=9^8) only [QdA,gR,ho,Qaa,go_sem,iv,bv,h1,Qak,QbK,reduceCtorEq,↓reduceIte,Nat.reduceEqDiff]

theorem Qob {x y:Int} (hx:nd x≤1000000000000) (hy:nd y≤1000000000000):Qah G QeI [encI x,encI y]=some (.d (encI (x+y))):=by
  rw [Qad (cf:=Qdv) rfl]
  have hx':(digs x.natAbs).length≤1000000000000:=hx
  have hy':(digs y.natAbs).length≤1000000000000:=hy
  have dx:=Qap x.natAbs
  have dy:=Qap y.natAbs
  have vx:=Qd7 x
  have vy:=Qd7 y
  by_cases hs:decide (x<0)=decide (y<0)
  · obtain ⟨out,g1,g2,g3,g4⟩:=QrO (Rw.dg _) (Rw.dg _) dx dy (by omega)
    have g5:=Qbc (decide (x<0)) (Rw.dg out) (by omega) g3
    have e1:(decide (x<0)==decide (y<0))=true:=by rw [hs];simp
    have e2:sgn (decide (x<0)) (val out)=x+y:=by
      rw [g4,vx,vy]
      by_cases h:x<0
      · have h2:y<0:=by simpa [h] using hs
        simp [sgn,h];omega
      · have h2:¬ y<0:=by simpa [h] using hs
        simp [sgn,h];omega
    rw [e2] at g5
    simp only [bv] at g5
    simp -implicitDefEqProofs (maxSteps:=9^8) only [Qdv,encI,go_sem,QjI,Qac,Qab,iv,bv,e1,g1,g5,reduceCtorEq,↓reduceIte,Nat.reduceEqDiff]
  · have e1:(decide (x<0)==decide (y<0))=false:=by simpa using hs
    have g0:=Qek (Rw.dg _) (Rw.dg _) dx dy (QcM _) (QcM _) (by omega) (by omega)
    rw [vx,vy] at g0
    simp only [iv] at g0
    by_cases hlt:x.natAbs<y.natAbs
    · have hsg:Int.sign ((x.natAbs:Int)-(y.natAbs:Int)) = -1:=Int.sign_eq_neg_one_of_neg (by omega)
      rw [hsg] at g0
      obtain ⟨out,g1,g2,g3,g4⟩:=Qhe (Rw.dg _) (Rw.dg _) dy dx (by omega) (Qbm (by omega)) (by rw [vx,vy];omega)
      have g5:=Qbc (decide (y<0)) (Rw.dg out) (by omega) g3
      have e2:sgn (decide (y<0)) (val out)=x+y:=by
        rw [g4,vx,vy]
        by_cases h:y<0
        · have h2:¬ x<0:=by intro h3;exact hs (by simp [h,h3])
          simp [sgn,h];omega
        · have h2 : x < 0 := by
            rcases Int.lt_or_le x 0 with h3 | h3
            · exact h3
            · exact absurd (by simp [h,Int.not_lt.2 h3]) hs
          simp [sgn,h];omega
      rw [e2] at g5
      simp only [bv] at g5
      have e3:decide ((-1:Int)<0)=true:=rfl
      simp -implicitDefEqProofs (maxSteps:=9^8) only [Qdv,encI,go_sem,QjI,Qac,Qab,iv,bv,e1,e3,g0,g1,g5,reduceCtorEq,↓reduceIte,Nat.reduceEqDiff]
    · have e3 : decide (Int.sign ((x.natAbs : Int) - (y.natAbs : Int)) < 0) = false := by
        apply lt_f
        rcases Int.lt_or_le 0 ((x.natAbs:Int)-(y.natAbs:Int)) with h | h
        · rw [Int.sign_eq_one_of_pos h];omega
        · rw [show (x.natAbs:Int)-(y.natAbs:Int)=0 by omega];exact Int.lt_irrefl 0
      obtain ⟨out,g1,g2,g3,g4⟩:=Qhe (Rw.dg _) (Rw.dg _) dx dy (by omega) (Qbm (by omega)) (by rw [vx,vy];omega)
      have g5:=Qbc (decide (x<0)) (Rw.dg out) (by omega) g3
      have e2:sgn (decide (x<0)) (val out)=x+y:=by
        rw [g4,vx,vy]
        by_cases h:x<0
        · have h2:¬ y<0:=by intro h3;exact hs (by simp [h,h3])
          simp [sgn,h];omega
        · have h2 : y < 0 := by
            rcases Int.lt_or_le y 0 with h3 | h3
            · exact h3
            · exact absurd (by simp [h,Int.not_lt.2 h3]) hs
          simp [sgn,h];omega
      rw [e2] at g5
      simp only [bv] at g5
      simp -implicitDefEqProofs (maxSteps:=9^8) only [Qdv,encI,go_sem,QjI,Qac,Qab,iv,bv,e1,e3,g0,g1,g5,reduceCtorEq,↓reduceIte,Nat.reduceEqDiff]
end Go.AM

/- gantryref04: Of, Mul -/
namespace Go.AM
open Go Go.RowKit

theorem of_arith (neg:Bool) {m:Nat} (hm:m≤9223372036854775808) (hp:neg=false→m<9223372036854775808) :
    (sgn neg (m:Int)).tmod 1000000000=sgn neg ((m%1000000000:Nat):Int)∧w64 ((sgn neg (m:Int)).tdiv 1000000000)=sgn neg ((m/1000000000:Nat):Int):=by
  have e1:(m:Int).tmod 1000000000=((m%1000000000:Nat):Int):=by rw [Int.tmod_eq_emod_of_nonneg (by omega)];rfl
  have e2:(m:Int).tdiv 1000000000=((m/1000000000:Nat):Int):=by rw [Int.tdiv_eq_ediv_of_nonneg (by omega)];rfl
  cases neg
  · simp only [sgn,Bool.false_eq_true,if_false]
    rw [e1,e2]
    exact ⟨rfl,Qae (by omega) (by omega)⟩
  · simp only [sgn,if_true]
    rw [Int.neg_tmod,Int.neg_tdiv,e1,e2]
    exact ⟨rfl,Qae (by omega) (by omega)⟩
variable [Its]

section
variable (neg:Bool)
def Qhn (d:List Int) (n:Int):St:=mkS [(0,ai n),(2,.ptr [2] 0),(3,gA 19 d),(4,ab neg)] (([2],box0) :: gH 19 d)
def QjY (d:List Int):St:=mkS [(2,.ptr [2] 0),(3,gA 19 d),(4,ab neg)] (([2],box0) :: gH 19 d)
theorem rof_stop {d:List Int}:X G Qa5 (Qhn neg d 0)=some (.x 0,QjY neg d):=by
 have e1:((0:Int) != 0)=false:=rfl
 by_cases ho:d=[]
 ·subst ho
  simp -implicitDefEqProofs (maxSteps:=9^8) only [Qa5,Qhn,QjY,QcI,QcH,Qaa,box0,go_sem,iv,bv,e1,Qak,reduceCtorEq,↓reduceIte,Nat.reduceEqDiff]
 ·simp -implicitDefEqProofs (maxSteps:=9^8) only [Qa5,Qhn,QjY,Qf6 ho,Qf9 ho,box0,go_sem,iv,bv,e1,Qak,reduceCtorEq,↓reduceIte,Nat.reduceEqDiff]

theorem rof_go {d:List Int} {m:Nat} (hm:m≤9223372036854775808) (hp:neg=false→m<9223372036854775808) (h0:m≠0) (hd:(d.length+1)*8≤140737488351232) :
    X G Qa5 (Qhn neg d (sgn neg (m:Int)))=some (.n,Qhn neg (d++[((m%1000000000:Nat):Int)]) (sgn neg ((m/1000000000:Nat):Int))):=by
  obtain ⟨e1,e2⟩:=of_arith neg hm hp
  have e3:(sgn neg (m:Int) != 0)=true:=QeL (by cases neg<;>simp [sgn]<;>omega)
  have f1:=Qi2 hd
  have f2:=QhR
  by_cases hk:neg=true∧m%1000000000≠0
  · obtain ⟨rfl,hk⟩:=hk
    have e4:decide (sgn true ((m%1000000000:Nat):Int)<0)=true:=lt_t (by simp only [sgn,if_true];omega)
    have e5:w64 (0-sgn true ((m%1000000000:Nat):Int))=((m%1000000000:Nat):Int):=by
      rw [Qae (by simp only [sgn,if_true];omega) (by simp only [sgn,if_true];omega)]
      simp only [sgn,if_true];omega
    generalize hv:((m%1000000000:Nat):Int)=v at *
    by_cases ho:d=[]
    · subst ho
      simp -implicitDefEqProofs (maxSteps:=9^8) only [Qa5,Qhn,QcI,QcH,Qaa,Qls,Qk5,box0,go_sem,Qa2,iv,bv,e1,e2,e3,e4,e5,f2,QeT,D.one,allD,Qak,reduceCtorEq,↓reduceIte,Nat.reduceEqDiff]
    · simp -implicitDefEqProofs (maxSteps:=9^8) only [Qa5,Qhn,Qf6 ho,Qf9 ho,QhF,QhH,box0,go_sem,Qa2,iv,bv,e1,e2,e3,e4,e5,f1,f2,Qea,Qai,D.one,allD,Qak,reduceCtorEq,↓reduceIte,Nat.reduceEqDiff]
  · have e6 : sgn neg ((m % 1000000000 : Nat) : Int) = ((m % 1000000000 : Nat) : Int) := by
      cases neg
      · rfl
      · have:m%1000000000=0:=Classical.byContradiction fun h=>hk ⟨rfl,h⟩
        rw [this];rfl
    rw [e6] at e1
    have e4:decide (((m%1000000000:Nat):Int)<0)=false:=lt_f (by omega)
    generalize hv:((m%1000000000:Nat):Int)=v at *
    by_cases ho:d=[]
    · subst ho
      simp -implicitDefEqProofs (maxSteps:=9^8) only [Qa5,Qhn,QcI,QcH,Qaa,Qls,Qk5,box0,go_sem,Qa2,iv,bv,e1,e2,e3,e4,f2,QeT,D.one,allD,Qak,reduceCtorEq,↓reduceIte,Nat.reduceEqDiff]
    · simp -implicitDefEqProofs (maxSteps:=9^8) only [Qa5,Qhn,Qf6 ho,Qf9 ho,QhF,QhH,box0,go_sem,Qa2,iv,bv,e1,e2,e3,e4,f1,f2,Qea,Qai,D.one,allD,Qak,reduceCtorEq,↓reduceIte,Nat.reduceEqDiff]

theorem rof_loop:∀ (m:Nat) (d:List Int),m≤9223372036854775808→(neg=false→m<9223372036854775808)→d.length+(digs m).length≤3 →
    X G (.loop Qa5) (Qhn neg d (sgn neg (m:Int)))=some (.x 0,QjY neg (d++digs m)):=by
  intro m
  induction m using Nat.strongRecOn with
  | _ m ih =>
  intro d hm hp hl
  rw [Qag]
  by_cases h0:m=0
  · subst h0
    have e:sgn neg ((0:Nat):Int)=0:=by cases neg<;>rfl
    rw [e,rof_stop,Qav,List.append_nil];rfl
  · have hd:=Qeq (Nat.pos_of_ne_zero h0)
    rw [hd,List.length_cons] at hl
    rw [rof_go neg hm hp h0 (by omega),Option.bind_some,if_pos rfl]
    have:=ih (m/1000000000) (Nat.div_lt_self (Nat.pos_of_ne_zero h0) (by omega)) (d++[((m%1000000000:Nat):Int)]) (by omega) (fun h=>by have:=hp h;omega) (by simp;omega)
    rw [hd]
    rw [this,List.append_assoc]
    rfl
end

theorem Qg8 {n:Int} (h:I64 n):Qah G QbN [iv n]=some (.d (encI n)):=by
 obtain ⟨h1,h2⟩:=h
 rw [Qad (cf:=Qe2) rfl]
 have hsg:sgn (decide (n<0)) (n.natAbs:Int)=n:=by
  by_cases h:n<0
  ·simp [sgn,h];omega
  ·simp [sgn,h];omega
 have hnd:(digs n.natAbs).length≤3:=Qjl ⟨h1,h2⟩
 have hl:=rof_loop (decide (n<0)) n.natAbs [] (by omega) (fun h=>by have:¬ n<0:=of_decide_eq_false h;omega) (by simpa using hnd)
 rw [hsg,List.nil_append] at hl
 have hn:=Qbc (decide (n<0)) (Rw.dg (digs n.natAbs)) (by omega) (Qap _)
 rw [Qd7,hsg] at hn
 simp only [bv] at hn
 by_cases h0:digs n.natAbs=[]
 ·rw [h0] at hl hn
  simp only [Qhn,QjY,QcI,QcH,box0,go_sem] at hl
  simp only [Qoi] at hn
  simp -implicitDefEqProofs (maxSteps:=9^8) only [Qe2,encI,QdG,Qaa,go_sem,Qac,Qab,iv,bv,hl,hn,reduceCtorEq,↓reduceIte,Nat.reduceEqDiff]
 ·simp only [Qhn,QjY,QcI,QcH,Qf6 h0,Qf9 h0,box0,go_sem] at hl
  rw [Qhr h0] at hn
  simp -implicitDefEqProofs (maxSteps:=9^8) only [Qe2,encI,QdG,Qaa,go_sem,Qac,Qab,iv,bv,hl,hn,QbK,Qak,reduceCtorEq,↓reduceIte,Nat.reduceEqDiff]
end Go.AM

/- gantryref04: Mul -/
namespace Go.AM
open Go Go.RowKit

theorem rmul_w {o a b c:Int} (ho:0≤o∧o<1000000000) (ha:0≤a∧a<1000000000) (hb:0≤b∧b<1000000000) (hc:0≤c∧c<1000000000) :
    w64 (a*b)=a*b∧w64 (o+a*b)=o+a*b∧w64 (o+a*b+c)=o+a*b+c∧0≤o+a*b+c∧w64 ((o+a*b+c)/1000000000)=(o+a*b+c)/1000000000 ∧
    (0≤(o+a*b+c)/1000000000∧(o+a*b+c)/1000000000<1000000000)∧(0≤(o+a*b+c)%1000000000∧(o+a*b+c)%1000000000<1000000000)∧(o+a*b+c)%1000000000+1000000000*((o+a*b+c)/1000000000)=o+a*b+c:=by
  obtain ⟨m1,m2,_⟩:=QqY (u:=0) (c:=0) (by omega) ha hb (by omega)
  generalize a*b=x at *
  refine ⟨Qae (by omega) (by omega),Qae (by omega) (by omega),Qae (by omega) (by omega),by omega,Qae (by omega) (by omega),by omega,by omega,by omega⟩
theorem rmul_ix {i k n N:Nat} (h:i+k<N) (hN:N<4611686018427387904):w64 ((i:Int)+(k:Int))=((i+k:Nat):Int)∧((0:Int)≤((i+k:Nat):Int)∧((i+k:Nat):Int)<((N:Nat):Int))∧w64 ((k:Int)+1)=((k+1:Nat):Int)∧w64 ((i:Int)+1)=((i+1:Nat):Int):=by
 refine ⟨?_,by omega, ?_, ?_⟩<;>rw [Qae (by omega) (by omega)]<;>omega
def bxI (neg:Bool) (d:D):Obj:=⟨0,0,[.d (.v (.bool neg)),.d d],false⟩
variable [Its]

section
variable (na nb:Bool) (da db:D) (a b:List Int) (N:Nat)
def QpO (i:Int) (o:List Int) (c k:Int):St:=mkS [(2,.ptr [2] 0),(3,.ptr [3] 0),(4,.ptr [4] 0),(5,.own [17] N),(6,ai i),(7,ai c),(8,ai k)] [([2],bxI na da),([3],bxI nb db),([4],box0),([17],arrI N o)]
def QqG (i:Int) (o:List Int) (c:Int):St:=mkS [(2,.ptr [2] 0),(3,.ptr [3] 0),(4,.ptr [4] 0),(5,.own [17] N),(6,ai i),(7,ai c)] [([2],bxI na da),([3],bxI nb db),([4],box0),([17],arrI N o)]
def QpP (i:Int) (o:List Int):St:=mkS [(2,.ptr [2] 0),(3,.ptr [3] 0),(4,.ptr [4] 0),(5,.own [17] N),(6,ai i)] [([2],bxI na da),([3],bxI nb db),([4],box0),([17],arrI N o)]
def QqC (o:List Int):St:=mkS [(2,.ptr [2] 0),(3,.ptr [3] 0),(4,.ptr [4] 0),(5,.own [17] N)] [([2],bxI na da),([3],bxI nb db),([4],box0),([17],arrI N o)]

theorem rx_stop (hrb:Rw db b) {i:Int} {o:List Int} {c:Int}:X G Qb4 (QpO na nb da db N i o c (b.length:Int))=some (.x 2,QqG na nb da db N i o c):=by
 have e1:decide ((b.length:Int)<(b.length:Int))=false:=lt_f (by omega)
 simp -implicitDefEqProofs (maxSteps:=9^8) only [Qb4,QpO,QqG,bxI,box0,go_sem,Qab,iv,bv,hrb.len,e1,Qak,reduceCtorEq,↓reduceIte,Nat.reduceEqDiff]
theorem rx_go (hra:Rw da a) (hrb:Rw db b) (ha:Dig a) (hb:Dig b) {o:List Int} (ho:Dig o) (hoN:o.length=N) (hN:N<4611686018427387904) {c:Int} (hc:0≤c∧c<1000000000) {i k:Nat} (hi:i<a.length) (hk:k<b.length) (hik:i+k<N) :
    X G Qb4 (QpO na nb da db N (i:Int) o c (k:Int))=some (.n,QpO na nb da db N (i:Int) (o.set (i+k) ((o.getD (i+k) 0+a.getD i 0*b.getD k 0+c)%1000000000)) ((o.getD (i+k) 0+a.getD i 0*b.getD k 0+c)/1000000000) ((k+1:Nat):Int)):=by
  obtain ⟨e1,e2,e3,e4,e5,_⟩:=rmul_w (ho.getD (i+k)) (ha.getD i) (hb.getD k) hc
  obtain ⟨i1,i2,i3,_⟩:=rmul_ix (n:=0) hik hN
  have n1:=hra.ixn (j:=i) hi
  have n2:=fun hp=>ldv hp a (j:=i) hi
  have n3:=hrb.ixn (j:=k) hk
  have n4:=fun hp=>ldv hp b (j:=k) hk
  have n5:=Qb8 (l:=o) (off:=i+k) (hoN ▸ hik)
  have n6:=fun v=>Qbs (l:=o) (off:=i+k) (v:=v) (hoN ▸ hik)
  have n7:decide ((k:Int)<(b.length:Int))=true:=lt_t (by omega)
  have q1:=QeN (b:=1000000000) e4
  have q2:=QdV (b:=1000000000) e4
  have l2:∀ (h:Hp) (cs:List A) (o:Nat),Qab none o cs=cs[o]?:=fun _ _ _=>rfl
  have l3:∀ (n:Bool) (d:D),Qab none 1 [A.d (.v (.bool n)),A.d d]=some (.d d):=fun _ _=>rfl
  simp -implicitDefEqProofs (maxSteps:=9^8) only [Qb4,QpO,bxI,box0,go_sem,l3,iv,bv,hrb.len,e1,e2,e3,e5,q1,q2,i1,i2,i3,n1,n2,n3,n4,n5,n6,n7,allD,Qak,QbK,Qai,reduceCtorEq,↓reduceIte,Nat.reduceEqDiff]

theorem rx_loop (hra:Rw da a) (hrb:Rw db b) (ha:Dig a) (hb:Dig b) (hN:N<4611686018427387904) {i:Nat} (hi:i<a.length) (hib:i+b.length<N) (u0:List Int):∀ (j k:Nat) (o:List Int) (c:Int),k+j=b.length→Dig o→o.length=N→(0≤c∧c<1000000000)→(∀ x,i+k≤x→o.getD x 0=u0.getD x 0) →
    val o+(1000000000:Int)^(i+k)*c=val u0+(1000000000:Int)^i*(a.getD i 0*val (b.take k)) →
    ∃ o' c',X G (.loop Qb4) (QpO na nb da db N (i:Int) o c (k:Int))=some (.x 2,QqG na nb da db N (i:Int) o' c')∧Dig o'∧o'.length=N∧(0≤c'∧c'<1000000000)∧(∀ x,i+b.length≤x→o'.getD x 0=u0.getD x 0) ∧
      val o'+(1000000000:Int)^(i+b.length)*c'=val u0+(1000000000:Int)^i*(a.getD i 0*val b)
  | 0,k,o,c,hk,ho,hoN,hc,h1,hv=>by
    obtain rfl:k=b.length:=by omega
    refine ⟨o,c,by rw [Qag,rx_stop na nb da db b N hrb];rfl,ho,hoN,hc,h1, ?_⟩
    rw [hv,List.take_length]
  | j+1,k,o,c,hk,ho,hoN,hc,h1,hv=>by
    have hx:=rx_go na nb da db a b N hra hrb ha hb ho hoN hN hc hi (k:=k) (by omega) (by omega)
    obtain ⟨_,_,_,_,_,e6,e7,e8⟩:=rmul_w (ho.getD (i+k)) (ha.getD i) (hb.getD k) hc
    obtain ⟨o',c2,g1,g2⟩:=rx_loop hra hrb ha hb hN hi hib u0 j (k+1) (o.set (i+k) ((o.getD (i+k) 0+a.getD i 0*b.getD k 0+c)%1000000000)) ((o.getD (i+k) 0+a.getD i 0*b.getD k 0+c)/1000000000) (by omega) (ho.set e7) (by simpa using hoN) e6 (fun x hx'=>by rw [Qbb _ (by omega)];exact h1 x (by omega)) (by
      rw [QeC _ _ _ (by omega),Qaq b k,show i+(k+1)=(i+k)+1 by omega,Int.pow_succ,Int.pow_add]
      rw [Int.pow_add] at hv
      generalize (o.getD (i+k) 0+a.getD i 0*b.getD k 0+c)%1000000000=R at *
      generalize (o.getD (i+k) 0+a.getD i 0*b.getD k 0+c)/1000000000=Q at *
      clear hx e6 e7 h1
      grind)
    exact ⟨o',c2,by rw [Qag,hx];exact g1,g2⟩

theorem ry_stop (hra:Rw da a) {o:List Int}:X G Qb2 (QpP na nb da db N (a.length:Int) o)=some (.x 0,QqC na nb da db N o):=by
 have e1:decide ((a.length:Int)<(a.length:Int))=false:=lt_f (by omega)
 simp -implicitDefEqProofs (maxSteps:=9^8) only [Qb2,QpP,QqC,bxI,box0,go_sem,Qab,iv,bv,hra.len,e1,Qak,reduceCtorEq,↓reduceIte,Nat.reduceEqDiff]

theorem ry_go (hra:Rw da a) (hrb:Rw db b) (ha:Dig a) (hb:Dig b) (hNe:a.length+b.length=N) (hN:N<4611686018427387904) {o:List Int} (ho:Dig o) (hoN:o.length=N) {i:Nat} (hi:i<a.length) (hz:∀ x,i+b.length≤x→o.getD x 0=0) (hv:val o=val (a.take i)*val b) :
    ∃ o',Dig o'∧o'.length=N∧(∀ x,i+1+b.length≤x→o'.getD x 0=0)∧val o'=val (a.take (i+1))*val b∧X G Qb2 (QpP na nb da db N (i:Int) o)=some (.n,QpP na nb da db N ((i+1:Nat):Int) o'):=by
  have hib:i+b.length<N:=by omega
  obtain ⟨o1,c1,hx,d1,l1,hc,h1,hv1⟩:=rx_loop na nb da db a b N hra hrb ha hb hN hi hib o b.length 0 o 0 (by omega) ho hoN (by omega) (fun _ _=>rfl) (by simp [val])
  refine ⟨o1.set (i+b.length) c1,d1.set hc,by simpa using l1,fun x hx'=>by rw [Qbb _ (by omega),h1 x (by omega)];exact hz x (by omega), ?_, ?_⟩
  · rw [QeC _ _ _ (by omega),h1 _ (Nat.le_refl _),hz _ (Nat.le_refl _),Int.sub_zero,hv1,hv,Qaq a i]
    grind
  · obtain ⟨i1,i2,_,i4⟩:=rmul_ix (n:=0) hib hN
    have n6:=fun v=>Qbs (l:=o1) (off:=i+b.length) (v:=v) (by omega)
    have n7:decide ((i:Int)<(a.length:Int))=true:=lt_t (by omega)
    have l3:∀ (n:Bool) (d:D),Qab none 1 [A.d (.v (.bool n)),A.d d]=some (.d d):=fun _ _=>rfl
    simp only [QpO,QqG,bxI,box0,go_sem,nc0] at hx
    simp -implicitDefEqProofs (maxSteps:=9^8) only [Qb2,QpP,bxI,box0,go_sem,l3,iv,bv,hra.len,hrb.len,i1,i2,i4,n6,n7,hx,allD,Qak,QbK,Qai,reduceCtorEq,↓reduceIte,Nat.reduceEqDiff]

theorem ry_loop (hra:Rw da a) (hrb:Rw db b) (ha:Dig a) (hb:Dig b) (hNe:a.length+b.length=N) (hN:N<4611686018427387904):∀ (k i:Nat) (o:List Int),i+k=a.length→Dig o→o.length=N→(∀ x,i+b.length≤x→o.getD x 0=0)→val o=val (a.take i)*val b →
    ∃ o',X G (.loop Qb2) (QpP na nb da db N (i:Int) o)=some (.x 0,QqC na nb da db N o')∧Dig o'∧o'.length=N∧val o'=val a*val b
  | 0,i,o,hi,ho,hoN,hz,hv=>by
    obtain rfl:i=a.length:=by omega
    exact ⟨o,by rw [Qag,ry_stop na nb da db a N hra];rfl,ho,hoN,by rw [hv,List.take_length]⟩
  | k+1,i,o,hi,ho,hoN,hz,hv=>by
    obtain ⟨o1,d1,l1,z1,v1,hx⟩:=ry_go na nb da db a b N hra hrb ha hb hNe hN ho hoN (i:=i) (by omega) hz hv
    obtain ⟨o',g1,g2⟩:=ry_loop hra hrb ha hb hNe hN k (i+1) o1 (by omega) d1 l1 z1 v1
    exact ⟨o',by rw [Qag,hx];exact g1,g2⟩
end

theorem QgG {x y:Int} (hx:nd x≤1000000000000) (hy:nd y≤1000000000000):Qah G QbR [encI x,encI y]=some (.d (encI (x*y))):=by
 rw [Qad (cf:=Qf3) rfl]
 have hx':(digs x.natAbs).length≤1000000000000:=hx
 have hy':(digs y.natAbs).length≤1000000000000:=hy
 obtain ⟨N,hN⟩:∃ N,(digs x.natAbs).length+(digs y.natAbs).length=N:=⟨_,rfl⟩
 obtain ⟨o,g1,g2,g3,g4⟩:=ry_loop (decide (x<0)) (decide (y<0)) (dg (digs x.natAbs)) (dg (digs y.natAbs)) (digs x.natAbs) (digs y.natAbs) N (Rw.dg _) (Rw.dg _) (Qap _) (Qap _) hN (by omega) (digs x.natAbs).length 0 (List.replicate N 0) (by omega) (Dig.replicate _) (by simp)
  (fun x _=>by simp only [List.getD_eq_getElem?_getD,List.getElem?_replicate];split<;>rfl) (by rw [QfA];simp [val])
 have e0:=QaV (digs x.natAbs)
 have e1:=QaV (digs y.natAbs)
 have hw:w64 (((digs x.natAbs).length:Int)+((digs y.natAbs).length:Int))=((N:Nat):Int):=by rw [Qae (by omega) (by omega)];omega
 have hm:=bnd N (by omega)
 have g5:=Qbc (!(decide (x<0)==decide (y<0))) (Rw.row o) (by omega) g2
 rw [g4,Qd7,Qd7,QmR] at g5
 simp only [rowI,bv,g3] at g5
 simp only [QpP,QqC,bxI,box0,go_sem,nc0] at g1
 simp -implicitDefEqProofs (maxSteps:=9^8) only [Qf3,encI,QdG,go_sem,Qac,Qab,iv,bv,e0,e1,hw,hm,QlE,Qak,QbK,g1,g5,reduceCtorEq,↓reduceIte,Nat.reduceEqDiff]
end Go.AM

/- gantryref04: times, divided -/
namespace Go.AM
open Go Go.RowKit

theorem row_cons (v:Int) (l:List Int):D.row (1+l.length) (D.v (.int .i64 v) :: l.map iv)=rowI (v :: l):=by rw [rowI,List.length_cons,Nat.add_comm];rfl
theorem all_ints (l:List Int):List.all (l.map iv) D.one=true:=by simp [iv,D.one,A.one]
theorem Qio (x:Nat):nd (x:Int)=(digs x).length:=rfl
theorem bs_mid {lo hi q R y:Nat} (h1:lo≤q) (h2:q≤hi) (h3:lo<hi) (hq:q=R/y) (hy:0<y):(y*((lo+hi+1)/2)≤R→(lo+hi+1)/2≤q)∧(¬ y*((lo+hi+1)/2)≤R→q≤(lo+hi+1)/2-1):=by
 subst hq
 constructor
 ·intro h
  rw [Nat.le_div_iff_mul_le hy,Nat.mul_comm];exact h
 ·intro h
  have:R/y<(lo+hi+1)/2:=by
   rw [Nat.div_lt_iff_lt_mul hy,Nat.mul_comm]
   exact Nat.not_le.1 h
  omega
variable [Its]

theorem QmB {y k:Nat} (hy:(digs y).length≤999999999999) (hk:k<1000000000):Qah G Qd8 [dg (digs y),iv (k:Int)]=some (.d (dg (digs (y*k)))):=by
 rw [Qad (cf:=QeX) rfl]
 have g1:=Qbc false (Rw.dg (digs y)) (by omega) (Qap y)
 rw [Qay,Qat] at g1
 have g2:=Qg8 (n:=(k:Int)) ⟨by omega,by omega⟩
 have g3:=QgG (x:=(y:Int)) (y:=(k:Int)) (by rw [Qio];omega) (by rw [Qio];have:=Qjl (x:=(k:Int)) ⟨by omega,by omega⟩;rw [Qio] at this;omega)
 have e:(y:Int)*(k:Int)=((y*k:Nat):Int):=rfl
 rw [e,Qa4] at g3
 rw [Qa4] at g1 g2 g3
 rw [Qa4] at g3
 simp only [bv,iv] at g1 g2 g3
 simp -implicitDefEqProofs (maxSteps:=9^8) only [QeX,go_sem,Qac,Qab,iv,bv,g1,g2,g3,reduceCtorEq,↓reduceIte,Nat.reduceEqDiff]

section
variable (da:D) (y n:Nat) (o:List Int) (i R:Nat)
def Qnh (lo hi:Nat):St:=mkS [(0,.d da),(1,.d (dg (digs y))),(8,.own [42] n),(9,.d (dg (digs R))),(10,ai (i:Int)),(12,ai (lo:Int)),(13,ai (hi:Int))] [([42],arrI n o)]
def QqF (lo:Nat):St:=mkS [(0,.d da),(1,.d (dg (digs y))),(8,.own [42] n),(9,.d (dg (digs R))),(10,ai (i:Int)),(12,ai (lo:Int))] [([42],arrI n o)]

theorem rb_go {lo hi:Nat} (hy:(digs y).length≤999999999999) (hR:(digs R).length≤1000000000001) (hlt:lo<hi) (hh:hi<1000000000) :
    X G Qbj (Qnh da y n o i R lo hi)=some (.n,if y*((lo+hi+1)/2)≤R then Qnh da y n o i R ((lo+hi+1)/2) hi else Qnh da y n o i R lo ((lo+hi+1)/2-1)):=by
  have e1:decide ((lo:Int)<(hi:Int))=true:=lt_t (by omega)
  have e2:w64 ((lo:Int)+(hi:Int))=(lo:Int)+(hi:Int):=Qae (by omega) (by omega)
  have e3:w64 ((lo:Int)+(hi:Int)+1)=(lo:Int)+(hi:Int)+1:=Qae (by omega) (by omega)
  have e4:((lo:Int)+(hi:Int)+1).tdiv 2=(((lo+hi+1)/2:Nat):Int):=by rw [Int.tdiv_eq_ediv_of_nonneg (by omega)];omega
  have e5:w64 (((lo+hi+1)/2:Nat):Int)=(((lo+hi+1)/2:Nat):Int):=Qae (by omega) (by omega)
  have e9:((2:Int)=0)=False:=by simp
  have hm:(lo+hi+1)/2<1000000000:=by omega
  have hm1:1≤(lo+hi+1)/2:=by omega
  have t1:=QmB (y:=y) (k:=(lo+hi+1)/2) hy hm
  generalize (lo+hi+1)/2=mid at *
  have hly:(digs (y*mid)).length≤1000000000002:=by
    have:=Qez (x:=(y:Int)) (y:=(mid:Int))
    have e:(y:Int)*(mid:Int)=((y*mid:Nat):Int):=rfl
    rw [e] at this
    rw [Qio,Qio,Qio] at this
    have h3:=Qjl (x:=(mid:Int)) ⟨by omega,by omega⟩
    rw [Qio] at h3
    omega
  have t2:=Qek (Rw.dg (digs (y*mid))) (Rw.dg (digs R)) (Qap _) (Qap _) (QcM _) (QcM _) (by omega) (by omega)
  rw [Qat,Qat] at t2
  simp only [iv] at t1 t2
  have e6:w64 ((mid:Int)-1)=((mid-1:Nat):Int):=by rw [Qae (by omega) (by omega)];omega
  by_cases hle:y*mid≤R
  · have e7 : decide (Int.sign (((y * mid : Nat) : Int) - (R : Int)) ≤ 0) = true := by
      apply le_t
      generalize y*mid=z at *
      rcases Int.lt_or_le ((z:Int)-(R:Int)) 0 with h | h
      · rw [Int.sign_eq_neg_one_of_neg h];omega
      · rw [show (z:Int)-(R:Int)=0 by omega];exact Int.le_refl 0
    rw [if_pos hle]
    simp -implicitDefEqProofs (maxSteps:=9^8) only [Qbj,Qnh,go_sem,iv,bv,e1,e2,e3,e4,e5,e6,e7,e9,t1,t2,Qak,reduceCtorEq,↓reduceIte,Nat.reduceEqDiff]
  · have e7 : decide (Int.sign (((y * mid : Nat) : Int) - (R : Int)) ≤ 0) = false := by
      apply le_f
      generalize y*mid=z at *
      rw [Int.sign_eq_one_of_pos (by omega)];omega
    rw [if_neg hle]
    simp -implicitDefEqProofs (maxSteps:=9^8) only [Qbj,Qnh,go_sem,iv,bv,e1,e2,e3,e4,e5,e6,e7,e9,t1,t2,Qak,reduceCtorEq,↓reduceIte,Nat.reduceEqDiff]

theorem Qnu (hy0:0<y) (hy:(digs y).length≤999999999999) (hR:(digs R).length≤1000000000001):∀ (k lo hi:Nat),hi-lo≤k→lo≤R/y→R/y≤hi→hi<1000000000→X G (.loop Qbj) (Qnh da y n o i R lo hi)=some (.x 2,QqF da y n o i R (R/y))
 | k,lo,hi,hk,h1,h2,hh=>by
  rw [Qag]
  by_cases hlt:lo<hi
  ·rw [rb_go da y n o i R hy hR hlt hh,Option.bind_some,if_pos rfl]
   obtain ⟨b1,b2⟩:=bs_mid (R:=R) (y:=y) h1 h2 hlt rfl hy0
   cases k with
   | zero=>omega
   | succ k =>
    by_cases hle:y*((lo+hi+1)/2)≤R
    ·rw [if_pos hle]
     exact Qnu hy0 hy hR k _ _ (by omega) (b1 hle) h2 hh
    ·rw [if_neg hle]
     exact Qnu hy0 hy hR k _ _ (by omega) h1 (b2 hle) (by omega)
  ·have he:lo=R/y:=by omega
   have e1:decide ((lo:Int)<(hi:Int))=false:=lt_f (by omega)
   rw [← he]
   simp -implicitDefEqProofs (maxSteps:=9^8) only [Qbj,Qnh,QqF,go_sem,iv,bv,e1,Qak,reduceCtorEq,↓reduceIte,Nat.reduceEqDiff]
 termination_by k=>k
end
end Go.AM

/- gantryref04: divided -/
namespace Go.AM
open Go Go.RowKit

theorem app1_fact {l:List Int} (h:l.length≤1000000000000):((1+l.length)*8≤bound)=True:=eq_true (by simp only [bound];omega)
theorem nat_digit {v:Int} (h:0≤v):∃ n:Nat,v=(n:Int):=⟨v.toNat,by omega⟩
theorem digs_step {v r y:Nat} (hv:v<1000000000) (hr:r<y):(digs (v+1000000000*r)).length≤(digs y).length+1:=by
 apply Qgu
 have h1:y<1000000000^(digs y).length:=by
  have:=Qfb (y:Int)
  rw [Qio] at this
  simpa using this
 rw [Nat.pow_succ]
 generalize 1000000000^(digs y).length=z at *
 omega
theorem Qrp {v r y:Nat} (hv:v<1000000000) (hr:r<y):(v+1000000000*r)/y<1000000000:=by
 rw [Nat.div_lt_iff_lt_mul (by omega)]
 omega
theorem rem_step (R y:Nat):(R:Int)-((y*(R/y):Nat):Int)=((R%y:Nat):Int):=by
 have:=Nat.div_add_mod R y
 generalize y*(R/y)=z at *
 omega
theorem cast_dm (A y:Nat):(y:Int)*((A/y:Nat):Int)+((A%y:Nat):Int)=(A:Int):=by
 have h:=Nat.div_add_mod A y
 generalize A/y=q at *
 generalize A%y=m at *
 subst h
 rw [Int.natCast_add,Int.natCast_mul]
theorem dig_nat {n:Nat} (h:n<1000000000):0≤(n:Int)∧(n:Int)<1000000000:=by omega
theorem st2 (x y u v:A):Qac 0 [x,y] [u,v]=some [x,y]:=rfl
theorem ld1 (u v:A):Qab none 1 [u,v]=some v:=rfl
variable [Its]

section
variable (da:D) (a:List Int) (y:Nat)
def QmZ (o:List Int) (r:Nat) (i:Int):St:=mkS [(0,.d da),(1,.d (dg (digs y))),(8,.own [42] a.length),(9,.d (dg (digs r))),(10,ai i)] [([42],arrI a.length o)]
def QoR (o:List Int) (r:Nat):St:=mkS [(8,.own [42] a.length),(9,.d (dg (digs r)))] [([42],arrI a.length o)]

theorem rd_stop (o:List Int) (r:Nat):X G Qa7 (QmZ da a y o r (-1))=some (.x 0,QoR a o r):=by
 have e1:decide ((-1:Int)≥0)=false:=rfl
 simp -implicitDefEqProofs (maxSteps:=9^8) only [Qa7,QmZ,QoR,go_sem,iv,bv,e1,Qak,reduceCtorEq,↓reduceIte,Nat.reduceEqDiff]

theorem rd_go (hra:Rw da a) (ha:Dig a) (hy:(digs y).length≤999999999999) (hl:a.length≤1000000000000) {o:List Int} (ho:o.length=a.length) {r i v:Nat} (hi:i<a.length) (hr:r<y) (hv:a.getD i 0=(v:Int)) :
    X G Qa7 (QmZ da a y o r (i:Int))=some (.n,QmZ da a y (o.set i (((v+1000000000*r)/y:Nat):Int)) ((v+1000000000*r)%y) ((i:Int)-1)):=by
  have hvd:=ha.getD i
  rw [hv] at hvd
  have hvn:v<1000000000:=by omega
  have hRl:=digs_step (y:=y) hvn hr
  have hq:=Qrp (y:=y) hvn hr
  have hrl:=Qbm (Nat.le_of_lt hr)
  have e1:decide ((i:Int)≥0)=true:=ge_t (by omega)
  have e2:=hra.ixn (j:=i) hi
  have e3:=fun hp=>ldv hp a (j:=i) hi
  rw [hv] at e3
  have e4:w64 ((i:Int)-1)=(i:Int)-1:=Qae (by omega) (by omega)
  have e5:(0:Int)≤(i:Int)∧(i:Int)<((a.length:Nat):Int):=by omega
  have e6:=fun x=>Qbs (l:=o) (off:=i) (v:=x) (by omega)
  have f1:=app1_fact (l:=digs r) (by omega)
  have f2:=all_ints (digs r)
  have nr:=Qbc false (Rw.row ((v:Int) :: digs r)) (by simp;omega) (Dig.cons.2 ⟨hvd,Qap r⟩)
  rw [Qay,val,Qat,← row_cons] at nr
  have eR:(v:Int)+1000000000*(r:Int)=((v+1000000000*r:Nat):Int):=by omega
  rw [eR] at nr
  obtain ⟨R,hR⟩:∃ R,v+1000000000*r=R:=⟨_,rfl⟩
  rw [hR] at nr hRl hq ⊢
  rw [Qa4] at nr
  have cp:=Qek (Rw.dg (digs R)) (Rw.dg (digs y)) (Qap _) (Qap _) (QcM _) (QcM _) (by omega) (by omega)
  rw [Qat,Qat] at cp
  have tm:=QmB (y:=y) (k:=R/y) hy hq
  have hle:y*(R/y)≤R:=Nat.mul_div_le R y
  obtain ⟨out,m1,m2,m3,m4⟩:=Qhe (Rw.dg (digs R)) (Rw.dg (digs (y*(R/y)))) (Qap _) (Qap _) (by omega) (Qbm hle) (by rw [Qat,Qat];exact Int.ofNat_le.2 hle)
  rw [Qat,Qat,rem_step] at m4
  have n2:=Qbc false (Rw.dg out) (by omega) m3
  rw [Qay,m4,Qa4] at n2
  have hyp:0<y:=by omega
  have c9:((999999999:Nat):Int)=999999999:=rfl
  simp only [bv,iv] at nr cp tm n2
  by_cases hlt:R<y
  · have c1:decide (Int.sign ((R:Int)-(y:Int))<0)=true:=by rw [Int.sign_eq_neg_one_of_neg (by omega)];rfl
    have hx:=Qnu da y a.length o i R hyp hy (by omega) 0 0 0 (by omega) (Nat.zero_le _) (by rw [Nat.div_eq_of_lt hlt];exact Nat.le_refl _) (by omega)
    simp only [Qnh,QqF,go_sem] at hx
    simp -implicitDefEqProofs (maxSteps:=9^8) only [Qa7,QmZ,go_sem,st2,ld1,QoO,Qa2,List.length_map,iv,bv,e1,e2,e3,e4,e5,e6,f1,f2,nr,cp,c1,hx,tm,m1,n2,QjI,QbK,Qak,Qai,reduceCtorEq,↓reduceIte,Nat.reduceEqDiff]
  · have c1 : decide (Int.sign ((R : Int) - (y : Int)) < 0) = false := by
      apply lt_f
      rcases Int.lt_or_le 0 ((R:Int)-(y:Int)) with h | h
      · rw [Int.sign_eq_one_of_pos h];omega
      · rw [show (R:Int)-(y:Int)=0 by omega];exact Int.lt_irrefl 0
    have hx:=Qnu da y a.length o i R hyp hy (by omega) 999999999 0 999999999 (by omega) (Nat.zero_le _) (by omega) (by omega)
    simp only [Qnh,QqF,go_sem,c9] at hx
    simp -implicitDefEqProofs (maxSteps:=9^8) only [Qa7,QmZ,go_sem,st2,ld1,QoO,Qa2,List.length_map,iv,bv,e1,e2,e3,e4,e5,e6,f1,f2,nr,cp,c1,hx,tm,m1,n2,QjI,QbK,Qak,Qai,reduceCtorEq,↓reduceIte,Nat.reduceEqDiff]

theorem Qph     (hra:Rw da a) (ha:Dig a) (hy0:0<y) (hy:(digs y).length≤999999999999) (hl:a.length≤1000000000000):∀ (k:Nat) (o:List Int) (r:Nat),k≤a.length→o.length=a.length→Dig o→r<y→val (a.drop k)=val (o.drop k)*(y:Int)+(r:Int) →
    ∃ o' r',X G (.loop Qa7) (QmZ da a y o r ((k:Int)-1))=some (.x 0,QoR a o' r')∧o'.length=a.length∧Dig o'∧r'<y∧val a=val o'*(y:Int)+(r':Int)
  | 0, o, r, hk, ho, hd, hr, hv => ⟨o, r, by
      have:((0:Nat):Int)-1 = -1:=rfl
      rw [this,Qag,rd_stop];rfl,ho,hd,hr,by simpa using hv⟩
  | k+1,o,r,hk,ho,hd,hr,hv=>by
    obtain ⟨v,hvv⟩:=nat_digit (ha.getD k).1
    have hvn:=(ha.getD k).2
    rw [hvv] at hvn
    have hvn':v<1000000000:=by omega
    have hx:=rd_go da a y hra ha hy hl ho (i:=k) (by omega) hr hvv
    have hq:=Qrp (y:=y) hvn' hr
    have hm:=Nat.mod_lt (v+1000000000*r) hy0
    obtain ⟨o',r',g1,g2⟩:=Qph hra ha hy0 hy hl k (o.set k (((v+1000000000*r)/y:Nat):Int)) ((v+1000000000*r)%y) (by omega) (by simpa using ho) (hd.set (dig_nat hq)) hm (by
      rw [Qa0,hv,Qkg _ (by omega),hvv]
      have hdm':(y:Int)*(((v+1000000000*r)/y:Nat):Int)+(((v+1000000000*r)%y:Nat):Int)=(v:Int)+1000000000*(r:Int):=by rw [cast_dm];rw [Int.natCast_add,Int.natCast_mul];rfl
      generalize (((v+1000000000*r)/y:Nat):Int)=Q at *
      generalize (((v+1000000000*r)%y:Nat):Int)=M at *
      clear hx hq hm hv
      grind)
    refine ⟨o',r', ?_,g2⟩
    have:((k+1:Nat):Int)-1=(k:Int):=by omega
    rw [this,Qag,hx]
    exact g1
end

theorem Qo9          {x y:Nat} (hy:0<y) (hx:(digs x).length≤1000000000000) (hyl:(digs y).length≤999999999999) :
    ∃ dq q,Qah G Qe3 [dg (digs x),dg (digs y)]=some (.d (.tup [dq,dg (digs (x%y))]))∧Rw dq q∧Dig q∧q.length≤1000000000000∧val q=((x/y:Nat):Int):=by
  have lx:=QaV (digs x)
  have ly:=QaV (digs y)
  by_cases h1:(digs x).length≤2
  · have e1:decide (((digs x).length:Int)≤2)=true:=le_t (by omega)
    by_cases h2:(digs y).length≤2
    · have e2:decide (((digs y).length:Int)≤2)=true:=le_t (by omega)
      have t1:=Qju (Rw.dg (digs x)) (Qap x) h1
      have t2:=Qju (Rw.dg (digs y)) (Qap y) h2
      rw [Qat] at t1 t2
      have s1:=QeR h1
      have e3:=Qjr (b:=(y:Int)) (by omega)
      have e4:=QeN (a:=(x:Int)) (b:=(y:Int)) (by omega)
      have e5:=QdV (a:=(x:Int)) (b:=(y:Int)) (by omega)
      have c1:(x:Int)/(y:Int)=((x/y:Nat):Int):=rfl
      have c2:(x:Int)%(y:Int)=((x%y:Nat):Int):=rfl
      rw [c1] at e4
      rw [c2] at e5
      have hq:x/y≤x:=Nat.div_le_self x y
      have hr:x%y≤x:=Nat.mod_le x y
      have hql:=Qbm hq
      clear c1 c2
      generalize x/y=Q at *
      generalize x%y=M at *
      have o1:=Qg8 (n:=(Q:Int)) ⟨by omega,by omega⟩
      have o2:=Qg8 (n:=(M:Int)) ⟨by omega,by omega⟩
      have e6:w64 (Q:Int)=(Q:Int):=Qae (by omega) (by omega)
      rw [Qa4] at o1 o2
      simp only [iv] at t1 t2 o1 o2
      refine ⟨dg (digs Q),digs Q, ?_,Rw.dg _,Qap _,by omega,Qat _⟩
      rw [Qad (cf:=Qbq) rfl]
      simp -implicitDefEqProofs (maxSteps:=9^8) only [Qbq,go_sem,st2,ld1,iv,bv,lx,ly,e1,e2,e3,e4,e5,e6,t1,t2,o1,o2,toDs,reduceCtorEq,↓reduceIte,Nat.reduceEqDiff]
    · have e2:decide (((digs y).length:Int)≤2)=false:=le_f (by omega)
      obtain ⟨o,r,g1,g2,g3,g4,g5⟩:=Qph (dg (digs x)) (digs x) y (Rw.dg _) (Qap x) hy hyl hx (digs x).length (List.replicate (digs x).length 0) 0 (Nat.le_refl _) (by simp) (Dig.replicate _) hy (by rw [List.drop_length,List.drop_eq_nil_of_le (by simp)];simp [val])
      rw [Qat] at g5
      obtain ⟨u1,u2⟩:=Qll g5 (Int.natCast_nonneg _) (Int.ofNat_lt.2 g4)
      have u2':x%y=r:=Int.ofNat.inj u2
      refine ⟨rowI o,o, ?_,Rw.row _,g3,by omega,u1.symm⟩
      rw [u2',Qad (cf:=Qbq) rfl]
      have f1:=bnd (digs x).length (by omega)
      have f2:w64 (((digs x).length:Int)-1)=((digs x).length:Int)-1:=Qae (by omega) (by omega)
      simp only [QmZ,QoR,Qav,Qoi,go_sem] at g1
      simp -implicitDefEqProofs (maxSteps:=9^8) only [Qbq,go_sem,iv,bv,lx,ly,e1,e2,f1,f2,g1,g2,rowI,QlE,QbK,Qak,toDs,reduceCtorEq,↓reduceIte,Nat.reduceEqDiff]
  · have e1:decide (((digs x).length:Int)≤2)=false:=le_f (by omega)
    obtain ⟨o,r,g1,g2,g3,g4,g5⟩:=Qph (dg (digs x)) (digs x) y (Rw.dg _) (Qap x) hy hyl hx (digs x).length (List.replicate (digs x).length 0) 0 (Nat.le_refl _) (by simp) (Dig.replicate _) hy (by rw [List.drop_length,List.drop_eq_nil_of_le (by simp)];simp [val])
    rw [Qat] at g5
    obtain ⟨u1,u2⟩:=Qll g5 (Int.natCast_nonneg _) (Int.ofNat_lt.2 g4)
    have u2':x%y=r:=Int.ofNat.inj u2
    refine ⟨rowI o,o, ?_,Rw.row _,g3,by omega,u1.symm⟩
    rw [u2',Qad (cf:=Qbq) rfl]
    have f1:=bnd (digs x).length (by omega)
    have f2:w64 (((digs x).length:Int)-1)=((digs x).length:Int)-1:=Qae (by omega) (by omega)
    simp only [QmZ,QoR,Qav,Qoi,go_sem] at g1
    simp -implicitDefEqProofs (maxSteps:=9^8) only [Qbq,go_sem,iv,bv,lx,ly,e1,f1,f2,g1,g2,rowI,QlE,QbK,Qak,toDs,reduceCtorEq,↓reduceIte,Nat.reduceEqDiff]
end Go.AM

/- ref04.Div -/
namespace Go.AM
open Go Go.RowKit
variable [Its]

theorem Qk3       {x y:Int} (hy:y≠0) (hx:nd x≤1000000000000) (hyl:nd y≤999999999999) :
    Qah G QdF [encI x,encI y]=some (.d (.tup [encI (x/y),encI (x%y)])):=by
  obtain ⟨c1,c2,c3⟩:=Qme (x:=x) hy
  have hya:0<y.natAbs:=by omega
  obtain ⟨dq,q,td,t1,t2,t3,t4⟩:=Qo9 (x:=x.natAbs) (y:=y.natAbs) hya hx hyl
  have ly:=QaV (digs y.natAbs)
  have fq:A.one (.d dq)=true:=by
    rcases t1 with h | h
    · rw [h];exact QnO q
    · rw [h];rfl
  have e1:(((digs y.natAbs).length:Int)==0)=false:=Qb9 (by have:=digs_length_pos.2 hya;omega)
  have n1:(x.natAbs:Int)/(y.natAbs:Int)=((x.natAbs/y.natAbs:Nat):Int):=rfl
  have n2:(x.natAbs:Int)%(y.natAbs:Int)=((x.natAbs%y.natAbs:Nat):Int):=rfl
  have hq1:x.natAbs/y.natAbs≤x.natAbs:=Nat.div_le_self _ _
  have hr1:x.natAbs%y.natAbs<y.natAbs:=Nat.mod_lt _ hya
  rw [n1] at c1 c2 c3
  rw [n2] at c1 c2 c3
  clear n1 n2
  generalize x.natAbs/y.natAbs=Q at *
  generalize x.natAbs%y.natAbs=M at *
  have hQl:(digs Q).length≤(digs x.natAbs).length:=Qbm hq1
  have hMl:(digs M).length≤(digs y.natAbs).length:=Qbm (Nat.le_of_lt hr1)
  have hxn:(digs x.natAbs).length≤1000000000000:=hx
  have hyn:(digs y.natAbs).length≤999999999999:=hyl
  have lm:=QaV (digs M)
  obtain ⟨s,hs⟩:∃ s,(!(decide (x<0)==decide (y<0)))=s:=⟨_,rfl⟩
  have k1:=Qbc s t1 (by omega) t2
  rw [t4] at k1
  have k2:=Qbc false (Rw.dg (digs M)) (by omega) (Qap _)
  rw [Qay,Qat,Qa4] at k2
  rw [Qad (cf:=Qdw) rfl]
  by_cases hb:x<0∧M≠0
  · have x1:decide (x<0)=true:=decide_eq_true hb.1
    have f1:decide (((digs M).length:Int)>0)=true:=gt_t (by have:=digs_length_pos.2 (Nat.pos_of_ne_zero hb.2);omega)
    obtain ⟨d1,d2⟩:=c3 hb.1 (by omega)
    have hs':s = !decide (y<0):=by rw [← hs,x1];cases decide (y<0)<;>rfl
    have k3:=Qbc s (Rw.row [1]) (by simp) (fun d hd=>by simp at hd;omega)
    have v1:val [1]=1:=by simp [val]
    rw [v1] at k3
    have a1:nd (sgn s (Q:Int))≤1000000000000:=by rw [nd,Qij];exact Nat.le_trans hQl hxn
    have a2:nd (sgn s 1)≤1000000000000:=by
      have:nd (sgn s 1)≤3:=Qjl (by cases s<;>simp [sgn])
      omega
    have k4:=Qob a1 a2
    have s1:sgn s (Q:Int)+sgn s 1=sgn s ((Q:Int)+1):=by
      cases s
      · simp only [sgn,Bool.false_eq_true,if_false]
      · simp only [sgn,if_true];omega
    rw [s1,hs',← d1,← hs'] at k4
    obtain ⟨o2,s1,s2,s3,s4⟩:=Qhe (Rw.dg (digs y.natAbs)) (Rw.dg (digs M)) (Qap _) (Qap _) (by omega) hMl (by rw [Qat,Qat];omega)
    rw [Qat,Qat] at s4
    have k5:=Qbc false (Rw.dg o2) (by omega) s3
    rw [Qay,s4,← d2] at k5
    obtain ⟨z,hz⟩:∃ z,sgn s (Q:Int)=z:=⟨_,rfl⟩
    obtain ⟨X,hX⟩:∃ X,x/y=X:=⟨_,rfl⟩
    obtain ⟨Y,hY⟩:∃ Y,x%y=Y:=⟨_,rfl⟩
    rw [hz] at k1 k4
    rw [hX] at k4 ⊢
    rw [hY] at k5 ⊢
    simp only [rowI,List.map_cons,List.map_nil,List.length_cons,List.length_nil,encI,bv,iv,Nat.reduceAdd] at k1 k2 k3 k4 k5
    rw [x1] at hs
    simp -implicitDefEqProofs (maxSteps:=9^8) only [Qdw,encI,go_sem,Qac,Qab,iv,bv,e1,x1,hs,f1,td,ly,lm,fq,k1,k2,k3,k4,k5,s1,QjI,toDs,QbF,ne_eq,not_false_eq_true,reduceCtorEq,↓reduceIte,Nat.reduceEqDiff]
  · have hr : x / y = sgn s (Q : Int) ∧ x % y = (M : Int) := by
      by_cases hx0:x<0
      · have hM : M = 0 := by
          rcases Nat.eq_zero_or_pos M with h | h
          · exact h
          · exact absurd ⟨hx0,by omega⟩ hb
        have x1:decide (x<0)=true:=decide_eq_true hx0
        obtain ⟨d1,d2⟩:=c2 hx0 (by omega)
        refine ⟨?_,by rw [d2,hM];rfl⟩
        rw [d1,← hs,x1];cases decide (y<0)<;>rfl
      · have x1:decide (x<0)=false:=decide_eq_false hx0
        obtain ⟨d1,d2⟩:=c1 hx0
        refine ⟨?_,d2⟩
        rw [d1,← hs,x1];cases decide (y<0)<;>rfl
    rw [hr.1,hr.2,Qa4]
    obtain ⟨z,hz⟩:∃ z,sgn s (Q:Int)=z:=⟨_,rfl⟩
    rw [hz] at k1 ⊢
    simp only [encI,bv,iv] at k1 k2
    by_cases hx0:x<0
    · have x1:decide (x<0)=true:=decide_eq_true hx0
      have f1:decide (((digs M).length:Int)>0)=false:=by
        have:¬ M≠0:=fun h=>hb ⟨hx0,h⟩
        have:M=0:=by omega
        rw [this,Qav];rfl
      rw [x1] at hs
      simp -implicitDefEqProofs (maxSteps:=9^8) only [Qdw,encI,go_sem,Qac,Qab,iv,bv,e1,x1,hs,f1,td,ly,lm,fq,k1,k2,toDs,QbF,ne_eq,not_false_eq_true,reduceCtorEq,↓reduceIte,Nat.reduceEqDiff]
    · have x1:decide (x<0)=false:=decide_eq_false hx0
      rw [x1] at hs
      simp -implicitDefEqProofs (maxSteps:=9^8) only [Qdw,encI,go_sem,Qac,Qab,iv,bv,e1,x1,hs,td,ly,lm,fq,k1,k2,toDs,QbF,ne_eq,not_false_eq_true,reduceCtorEq,↓reduceIte,Nat.reduceEqDiff]
end Go.AM

/- ref04.Gcd -/
namespace Go.AM
open Go Go.RowKit
variable [Its]

def Qss (m n:Nat):St:=mkS [(4,.ptr [4] 0),(7,ai m),(8,ai n)] [([4],box0)]
def rg_en (m:Nat):St:=mkS [(4,.ptr [4] 0),(7,ai m)] [([4],box0)]
theorem rg_ints:∀ (n m:Nat),m<1000000000000000000→n<1000000000000000000→X G (.loop QcA) (Qss m n)=some (.x 2,rg_en (Nat.gcd m n)):=by
 intro n
 induction n using Nat.strongRecOn with
 | _ n ih =>
 intro m hm hn
 rw [Qag]
 by_cases h0:n=0
 ·subst h0
  have e1:decide (((0:Nat):Int)>0)=false:=rfl
  rw [Nat.gcd_zero_right]
  simp -implicitDefEqProofs (maxSteps:=9^8) only [QcA,Qss,rg_en,box0,go_sem,iv,bv,reduceCtorEq,↓reduceIte,Nat.reduceEqDiff]
  rfl
 ·have e1:decide ((n:Int)>0)=true:=gt_t (by omega)
  have e2:=Qjr (b:=(n:Int)) (by omega)
  have e3:=QdV (a:=(m:Int)) (b:=(n:Int)) (by omega)
  have e4:(m:Int)%(n:Int)=((m%n:Nat):Int):=rfl
  have hlt:m%n<n:=Nat.mod_lt _ (by omega)
  have hx:X G QcA (Qss m n)=some (.n,Qss n (m%n)):=by
   simp -implicitDefEqProofs (maxSteps:=9^8) only [QcA,Qss,rg_en,box0,go_sem,iv,bv,e1,e2,e3,e4,reduceCtorEq,↓reduceIte,Nat.reduceEqDiff]
  rw [hx,Option.bind_some,if_pos rfl,ih (m%n) hlt n hn (by omega),QkT]

theorem rg_loop:∀ (b a:Nat),(digs a).length≤1000000000000→(digs b).length≤999999999999 →
    X G (.loop Qbh) (Qfj a b)=some (.x 0,Qol (Nat.gcd a b))∨X G (.loop Qbh) (Qfj a b)=some (.r,QgS (Nat.gcd a b)):=by
  intro b
  induction b using Nat.strongRecOn with
  | _ b ih =>
  intro a ha hb
  have la:=QaV (digs a)
  have lb:=QaV (digs b)
  by_cases h0:b=0
  · subst h0
    have e1:decide (((digs 0).length:Int)>0)=false:=by rw [Qav];rfl
    refine .inl ?_
    rw [Nat.gcd_zero_right,Qag]
    simp -implicitDefEqProofs (maxSteps:=9^8) only [Qbh,Qfj,Qol,box0,boxI,go_sem,Qac,Qab,iv,bv,e1,la,lb,reduceCtorEq,↓reduceIte,Nat.reduceEqDiff]
  · have e1:decide (((digs b).length:Int)>0)=true:=gt_t (by have:=digs_length_pos.2 (Nat.pos_of_ne_zero h0);omega)
    by_cases h1:(digs a).length≤2∧(digs b).length≤2
    · have t1:=Qju (Rw.dg (digs a)) (Qap a) h1.1
      have t2:=Qju (Rw.dg (digs b)) (Qap b) h1.2
      rw [Qat] at t1 t2
      simp only [iv,bv] at t1 t2
      have d1:decide (((digs a).length:Int)≤2)=true:=le_t (by omega)
      have d2:decide (((digs b).length:Int)≤2)=true:=le_t (by omega)
      have s1:=QeR h1.1
      have s2:=QeR h1.2
      have g1:=rg_ints b a s1 s2
      have hg:Nat.gcd a b≤b:=Nat.gcd_le_right _ (Nat.pos_of_ne_zero h0)
      have u1:=Qg8 (n:=((Nat.gcd a b:Nat):Int)) ⟨by omega,by omega⟩
      rw [Qa4] at u1
      simp only [Qss,rg_en,box0,go_sem] at g1
      simp only [iv] at u1
      refine .inr ?_
      rw [Qag]
      simp -implicitDefEqProofs (maxSteps:=9^8) only [Qbh,Qfj,QgS,box0,boxI,go_sem,Qac,Qab,iv,bv,e1,la,lb,d1,d2,t1,t2,g1,u1,reduceCtorEq,↓reduceIte,Nat.reduceEqDiff]
    · have td:=Qk3 (x:=(a:Int)) (y:=(b:Int)) (by omega) (by rw [Qio];exact ha) (by rw [Qio];exact hb)
      have e3:(a:Int)/(b:Int)=((a/b:Nat):Int):=rfl
      have e4:(a:Int)%(b:Int)=((a%b:Nat):Int):=rfl
      rw [e3,e4,Qa4,Qa4,Qa4,Qa4] at td
      have hlt:a%b<b:=Nat.mod_lt _ (Nat.pos_of_ne_zero h0)
      have hx:X G Qbh (Qfj a b)=some (.n,Qfj b (a%b)):=by
        by_cases h2:(digs a).length≤2
        · have h3:¬ (digs b).length≤2:=fun h=>h1 ⟨h2,h⟩
          have d1:decide (((digs a).length:Int)≤2)=true:=le_t (by omega)
          have d2:decide (((digs b).length:Int)≤2)=false:=le_f (by omega)
          simp -implicitDefEqProofs (maxSteps:=9^8) only [Qbh,Qfj,QgS,box0,boxI,go_sem,Qac,Qab,iv,bv,e1,la,lb,d1,d2,td,QbF,ne_eq,not_false_eq_true,reduceCtorEq,↓reduceIte,Nat.reduceEqDiff]
        · have d1:decide (((digs a).length:Int)≤2)=false:=le_f (by omega)
          simp -implicitDefEqProofs (maxSteps:=9^8) only [Qbh,Qfj,QgS,box0,boxI,go_sem,Qac,Qab,iv,bv,e1,la,lb,d1,td,QbF,ne_eq,not_false_eq_true,reduceCtorEq,↓reduceIte,Nat.reduceEqDiff]
      have hr:=ih (a%b) hlt b (by omega) (Nat.le_trans (Qbm (Nat.le_of_lt hlt)) hb)
      rw [QkT] at hr
      rw [Qag,hx]
      exact hr

theorem rGcd_spec {x y:Int} (hx:nd x≤1000000000000) (hy:nd y≤999999999999):Qah G QcN [encI x,encI y]=some (.d (encI (Int.gcd x y:Nat))):=by
 rw [Qad (cf:=Qcg) rfl]
 have hxn:(digs x.natAbs).length≤1000000000000:=hx
 have hyn:(digs y.natAbs).length≤999999999999:=hy
 have o1:=Qbc false (Rw.dg (digs x.natAbs)) (by omega) (Qap _)
 have o2:=Qbc false (Rw.dg (digs y.natAbs)) (by omega) (Qap _)
 rw [Qay,Qat,Qa4] at o1 o2
 simp only [bv] at o1 o2
 rw [Qa4]
 have e:Int.gcd x y=Nat.gcd x.natAbs y.natAbs:=rfl
 rw [e]
 rcases rg_loop y.natAbs x.natAbs hxn hyn with g | g
 ·simp only [Qfj,Qol,box0,boxI,go_sem] at g
  simp -implicitDefEqProofs (maxSteps:=9^8) only [Qcg,encI,go_sem,Qac,Qab,iv,bv,o1,o2,g,reduceCtorEq,↓reduceIte,Nat.reduceEqDiff]
 ·simp only [Qfj,QgS,box0,boxI,go_sem] at g
  simp -implicitDefEqProofs (maxSteps:=9^8) only [Qcg,encI,go_sem,Qac,Qab,iv,bv,o1,o2,g,reduceCtorEq,↓reduceIte,Nat.reduceEqDiff]
end Go.AM

/- Rationals as the program holds them; rat.unit, one, lowest, Make, Of, Den -/
namespace Go.AM
open Go Go.RowKit

def dd (d:Nat):List Int:=if d=1 then [] else digs d
def encR (q:Rat):D:=.agg [.v (.bool (decide (q.num<0))),dg (digs q.num.natAbs),.v (.bool false),dg (dd q.den)]
def sz (q:Rat):Nat:=max (nd q.num) (nd (q.den:Int))
theorem QcR {q:Rat} {n:Nat} (h:sz q≤n):nd q.num≤n:=Nat.le_trans (Nat.le_max_left _ _) h
theorem QcT {q:Rat} {n:Nat} (h:sz q≤n):nd (q.den:Int)≤n:=Nat.le_trans (Nat.le_max_right _ _) h
theorem sz_le {q:Rat} {n:Nat} (h1:nd q.num≤n) (h2:nd (q.den:Int)≤n):sz q≤n:=Nat.max_le.2 ⟨h1,h2⟩

theorem dd_one:dd 1=[]:=rfl
theorem Qj3 {d:Nat} (h:d≠1):dd d=digs d:=if_neg h
theorem Qno:digs 1=[1]:=by
 rw [Qeq (by omega)]
 have e1:(1:Nat)%1000000000=1:=by decide
 have e2:(1:Nat)/1000000000=0:=by decide
 rw [e1,e2,Qav];rfl
theorem QfV:encR 0=.agg [.v (.bool false),.z true,.v (.bool false),.z true]:=by
 have e:digs (0:Rat).num.natAbs=[]:=Qav
 rw [encR,e];rfl
theorem Qii {n d:Int} (h:d≠0):0<Int.gcd n d:=Int.gcd_pos_of_ne_zero_right n h
theorem num_low {n d:Int} (hd:0<d) (hc:Int.gcd n d=1):(Rat.divInt n d).num=n∧((Rat.divInt n d).den:Int)=d:=by
 have e:Int.gcd d n=1:=by rw [Int.gcd_comm];exact hc
 constructor
 ·rw [Rat.num_divInt,e,Int.sign_eq_one_of_pos hd];simp
 ·rw [Rat.den_divInt,e,if_neg (by omega)];simp;omega
theorem QkM {n d:Int} (hd:0<d) (hc:Int.gcd n d=1):encR (Rat.divInt n d)=.agg [.v (.bool (decide (n<0))),dg (digs n.natAbs),.v (.bool false),dg (dd d.natAbs)]:=by
 obtain ⟨e1,e2⟩:=num_low hd hc
 have e3:(Rat.divInt n d).den=d.natAbs:=by omega
 rw [encR,e1,e3]
theorem ixa0 (hp:Hp) {l:List Int} (h:l≠[]):ixaA hp 1 0 (.d (dg l))=some (.d (.rp (l.map iv))):=by
 have h0:0<l.length:=List.length_pos_iff.2 h
 exact (Rw.dg l).ixa (j:=0) (by omega) (by omega) hp
theorem ld0 (hp:Hp) {l:List Int} (h:l≠[]):Qco hp none (.d (.rp (l.map iv)))=some (.d (.v (.int .i64 (l.getD 0 0)))):=by
 have h0:0<l.length:=List.length_pos_iff.2 h
 exact ldv hp l (j:=0) h0
theorem len_one {n:Nat} (h:(digs n).length=1):(digs n).getD 0 0=(n:Int):=by
 have hv:=Qat n
 match hd:digs n,h with
 | [v],_=>rw [hd] at hv;simpa [val] using hv
variable [Its]

theorem Qjk (x:Int) (hx:nd x≤1000000000000):Qah G QfC [encI x]=some (.d (bv (decide (x=1)))):=by
 rw [Qad (cf:=Qgn) rfl]
 have lx:=QaV (digs x.natAbs)
 by_cases h:x<0
 ·have x1:decide (x<0)=true:=decide_eq_true h
  have x2:decide (x=1)=false:=decide_eq_false (by omega)
  simp -implicitDefEqProofs (maxSteps:=9^8) only [Qgn,encI,go_sem,Qac,Qab,iv,bv,lx,x1,x2,reduceCtorEq,↓reduceIte,Nat.reduceEqDiff]
 ·have x1:decide (x<0)=false:=decide_eq_false h
  by_cases hl:(digs x.natAbs).length=1
  ·have x3:(((digs x.natAbs).length:Int)==1)=true:=Qkx (by omega)
   have hne:digs x.natAbs≠[]:=by intro h;rw [h] at hl;cases hl
   have x4:=fun hp=>ixa0 hp hne
   have x5:=fun hp=>ld0 hp hne
   rw [len_one hl] at x5
   have x2:(((x.natAbs:Nat):Int)==1)=decide (x=1):=by
    by_cases h1:x=1
    ·rw [decide_eq_true h1];exact Qkx (by omega)
    ·rw [decide_eq_false h1];exact Qb9 (by omega)
   simp -implicitDefEqProofs (maxSteps:=9^8) only [Qgn,encI,go_sem,Qac,Qab,iv,bv,lx,x1,x2,x3,x4,x5,reduceCtorEq,↓reduceIte,Nat.reduceEqDiff]
  ·have x3:(((digs x.natAbs).length:Int)==1)=false:=Qb9 (by omega)
   have x2:decide (x=1)=false:=decide_eq_false (by
    intro h1;subst h1
    exact hl (by rw [show (1:Int).natAbs=1 from rfl,Qno];rfl))
   simp -implicitDefEqProofs (maxSteps:=9^8) only [Qgn,encI,go_sem,Qac,Qab,iv,bv,lx,x1,x2,x3,reduceCtorEq,↓reduceIte,Nat.reduceEqDiff]

theorem Qlp (x:Int) (hx:nd x≤1000000000000) (h0:0<x):Qah G QcS [encI x]=some (.d (bv (decide (x=1)))):=by
 rw [Qad (cf:=Qci) rfl]
 have lx:=QaV (digs x.natAbs)
 have x1:decide (x<0)=false:=decide_eq_false (by omega)
 by_cases hl:(digs x.natAbs).length=1
 ·have x3:(((digs x.natAbs).length:Int) != 1)=false:=by rw [bne,Qkx (by omega)];rfl
  have hne:digs x.natAbs≠[]:=by intro h;rw [h] at hl;cases hl
  have x4:=fun hp=>ixa0 hp hne
  have x5:=fun hp=>ld0 hp hne
  rw [len_one hl] at x5
  have x2:(((x.natAbs:Nat):Int)==1)=decide (x=1):=by
   by_cases h1:x=1
   ·rw [decide_eq_true h1];exact Qkx (by omega)
   ·rw [decide_eq_false h1];exact Qb9 (by omega)
  simp -implicitDefEqProofs (maxSteps:=9^8) only [Qci,encI,go_sem,Qac,Qab,iv,bv,lx,x1,x2,x3,x4,x5,reduceCtorEq,↓reduceIte,Nat.reduceEqDiff]
 ·have x3:(((digs x.natAbs).length:Int) != 1)=true:=by rw [bne,Qb9 (by omega)];rfl
  have x2:decide (x=1)=false:=decide_eq_false (by
   intro h1;subst h1
   exact hl (by rw [show (1:Int).natAbs=1 from rfl,Qno];rfl))
  simp -implicitDefEqProofs (maxSteps:=9^8) only [Qci,encI,go_sem,Qac,Qab,iv,bv,lx,x1,x2,x3,reduceCtorEq,↓reduceIte,Nat.reduceEqDiff]

theorem one_spec:Qah G QoS []=some (.d (encI 1)):=by
 rw [Qad (cf:=Qp0) rfl]
 have g:=Qp7 (n:=1) ⟨by omega,by omega⟩
 simp only [iv,encI,bv] at g
 simp -implicitDefEqProofs (maxSteps:=9^8) only [Qp0,encI,go_sem,Qac,Qab,iv,bv,g,reduceCtorEq,↓reduceIte,Nat.reduceEqDiff]

theorem Qg6 (q:Rat):Qah G Qe4 [encR q]=some (.d (encI (q.den:Int))):=by
 rw [Qad (cf:=Qnb) rfl]
 have ld:=QaV (dd q.den)
 by_cases h:q.den=1
 ·have e1:(((dd q.den).length:Int)==0)=true:=by rw [h];rfl
  have g:=one_spec
  rw [h]
  rw [h] at ld e1
  have e2:((1:Nat):Int)=1:=rfl
  rw [e2]
  simp only [encI,bv] at g
  simp -implicitDefEqProofs (maxSteps:=9^8) only [Qnb,encI,encR,h,go_sem,Qac,Qab,iv,bv,ld,e1,g,reduceCtorEq,↓reduceIte,Nat.reduceEqDiff]
 ·rw [Qj3 h] at ld
  have e1:(((digs q.den).length:Int)==0)=false:=Qb9 (by have:=digs_length_pos.2 q.den_pos;omega)
  rw [Qa4]
  simp -implicitDefEqProofs (maxSteps:=9^8) only [Qnb,encI,encR,Qj3 h,go_sem,Qac,Qab,iv,bv,ld,e1,reduceCtorEq,↓reduceIte,Nat.reduceEqDiff]

theorem QiW (q:Rat):Qah G QbT [encR q]=some (.d (encI (q.den:Int))):=by
 rw [Qad (cf:=Qej) rfl]
 have ld:=QaV (dd q.den)
 by_cases h:q.den=1
 ·have e1:(((dd q.den).length:Int)==0)=true:=by rw [h];rfl
  have g:=Qg8 (n:=1) ⟨by omega,by omega⟩
  rw [h]
  rw [h] at ld e1
  have e2:((1:Nat):Int)=1:=rfl
  rw [e2]
  simp only [encI,bv,iv] at g
  simp -implicitDefEqProofs (maxSteps:=9^8) only [Qej,encI,encR,h,go_sem,Qac,Qab,iv,bv,ld,e1,g,reduceCtorEq,↓reduceIte,Nat.reduceEqDiff]
 ·rw [Qj3 h] at ld
  have e1:(((digs q.den).length:Int)==0)=false:=Qb9 (by have:=digs_length_pos.2 q.den_pos;omega)
  rw [Qa4]
  simp -implicitDefEqProofs (maxSteps:=9^8) only [Qej,encI,encR,Qj3 h,go_sem,Qac,Qab,iv,bv,ld,e1,reduceCtorEq,↓reduceIte,Nat.reduceEqDiff]
end Go.AM

/- rat.lowest, Make, Of; ref05.Make, Of -/
namespace Go.AM
open Go Go.RowKit

theorem lenz {x:Int} (h:x=0):(((digs x.natAbs).length:Int)==0)=true:=by subst h;exact Qkx (by rw [show (0:Int).natAbs=0 from rfl,Qav];rfl)
theorem Qnz {x:Int} (h:x≠0):(((digs x.natAbs).length:Int)==0)=false:=Qb9 (by have:=digs_length_pos.2 (show 0<x.natAbs by omega);omega)
theorem gcd_ediv {n d:Int} (hd:d≠0):Int.gcd (n/(Int.gcd n d:Nat)) (d/(Int.gcd n d:Nat))=1:=by
 have hg:0<Int.gcd n d:=Qii hd
 rw [Int.gcd_ediv (Int.gcd_dvd_left n d) (Int.gcd_dvd_right n d)]
 simp only [Int.natAbs_natCast]
 exact Nat.div_self hg
theorem QlL {n d:Int} (hd:d≠0):Rat.divInt (n/(Int.gcd n d:Nat)) (d/(Int.gcd n d:Nat))=Rat.divInt n d:=by
 have hg:0<Int.gcd n d:=Qii hd
 have h1:=Int.ediv_mul_cancel (Int.gcd_dvd_left n d)
 have h2:=Int.ediv_mul_cancel (Int.gcd_dvd_right n d)
 have:=Rat.divInt_mul_right (a:=(Int.gcd n d:Nat)) (n:=n/(Int.gcd n d:Nat)) (d:=d/(Int.gcd n d:Nat)) (by omega)
 rw [h1,h2] at this
 exact this.symm
theorem ediv_ne {n d:Int} (hd:d≠0):d/(Int.gcd n d:Nat)≠0:=by
 intro h
 have h2:=Int.ediv_mul_cancel (Int.gcd_dvd_right n d)
 rw [h,Int.zero_mul] at h2
 exact hd h2.symm
theorem QpS {n:Int} {g:Nat}:nd (n/(g:Int))≤nd n:=QhO (by
 rcases Nat.eq_zero_or_pos g with h | h
 ·subst h;simp
 ·exact Int.natAbs_ediv_le_natAbs _ _)
variable [Its]

theorem Qhd {n d:Int} (hd:d≠0) (hc:Int.gcd n d=1) (hdn:nd d≤1000000000000):Qah G Qgk [encI n,encI d]=some (.d (encR (Rat.divInt n d))):=by
 rw [Qad (cf:=QfE) rfl]
 by_cases h:d<0
 ·have x1:decide (d<0)=true:=decide_eq_true h
  have g1:=Qns n
  have g2:=Qns d
  have g3:=Qjk (-d) (by rw [nd_neg];exact hdn)
  have e:=QkM (n:=-n) (d:=-d) (by omega) (by rw [Int.gcd_neg,Int.neg_gcd];exact hc)
  rw [Rat.neg_divInt_neg] at e
  rw [e]
  clear e
  generalize -n=N at *
  obtain ⟨D,hD⟩:∃ D,-d=D:=⟨_,rfl⟩
  rw [hD] at g2 g3 ⊢
  simp only [encI,bv,iv] at g1 g2 g3
  rw [x1] at g2
  by_cases h1:D=1
  ·rw [decide_eq_true h1] at g3
   have f1:dg (dd D.natAbs)=.z true:=by subst h1;rfl
   simp -implicitDefEqProofs (maxSteps:=9^8) only [QfE,encI,go_sem,Qac,Qab,iv,bv,x1,g1,g2,g3,f1,reduceCtorEq,↓reduceIte,Nat.reduceEqDiff]
  ·rw [decide_eq_false h1] at g3
   have f1:dd D.natAbs=digs D.natAbs:=Qj3 (by omega)
   have f2:decide (D<0)=false:=decide_eq_false (by omega)
   rw [f2] at g2 g3
   simp -implicitDefEqProofs (maxSteps:=9^8) only [QfE,encI,go_sem,Qac,Qab,iv,bv,x1,g1,g2,g3,f1,f2,reduceCtorEq,↓reduceIte,Nat.reduceEqDiff]
 ·have x1:decide (d<0)=false:=decide_eq_false h
  have g3:=Qjk d hdn
  rw [QkM (n:=n) (d:=d) (by omega) hc]
  simp only [encI,bv,iv] at g3
  rw [x1] at g3
  by_cases h1:d=1
  ·rw [decide_eq_true h1] at g3
   have f1:dg (dd d.natAbs)=.z true:=by subst h1;rfl
   simp -implicitDefEqProofs (maxSteps:=9^8) only [QfE,encI,go_sem,Qac,Qab,iv,bv,x1,g3,f1,reduceCtorEq,↓reduceIte,Nat.reduceEqDiff]
  ·rw [decide_eq_false h1] at g3
   have f1:dd d.natAbs=digs d.natAbs:=Qj3 (by omega)
   simp -implicitDefEqProofs (maxSteps:=9^8) only [QfE,encI,go_sem,Qac,Qab,iv,bv,x1,g3,f1,reduceCtorEq,↓reduceIte,Nat.reduceEqDiff]

theorem QiT {n d:Int} (hn:nd n≤1000000000000) (hdn:nd d≤1000000000000):Qah G QgJ [encI n,encI d]=some (.d (encR (Rat.divInt n d))):=by
 rw [Qad (cf:=Qh4) rfl]
 have ln:=QaV (digs n.natAbs)
 have ld:=QaV (digs d.natAbs)
 by_cases hd:d=0
 ·have f1:=lenz hd
  have e:Rat.divInt n d=0:=by rw [hd,Rat.divInt_zero]
  rw [e,QfV]
  simp -implicitDefEqProofs (maxSteps:=9^8) only [Qh4,encI,go_sem,Qac,Qab,iv,bv,ln,ld,f1,reduceCtorEq,↓reduceIte,Nat.reduceEqDiff]
 have f1:=Qnz hd
 by_cases hn0:n=0
 ·have f2:=lenz hn0
  have e:Rat.divInt n d=0:=by rw [hn0,Rat.zero_divInt]
  rw [e,QfV]
  simp -implicitDefEqProofs (maxSteps:=9^8) only [Qh4,encI,go_sem,Qac,Qab,iv,bv,ln,ld,f1,f2,reduceCtorEq,↓reduceIte,Nat.reduceEqDiff]
 have f2:=Qnz hn0
 have g1:=Gcd_spec hn hdn
 have hg:0<Int.gcd n d:=Qii hd
 have hgn:nd ((Int.gcd n d:Nat):Int)≤1000000000000:=by
  refine Nat.le_trans (QhO ?_) hdn
  rw [Int.natAbs_natCast]
  exact Nat.le_of_dvd (by omega) (Int.gcd_dvd_natAbs_right n d)
 have g2:=Qjk _ hgn
 by_cases h1:Int.gcd n d=1
 ·have g3:=Qhd hd h1 hdn
  rw [decide_eq_true (show ((Int.gcd n d:Nat):Int)=1 by omega)] at g2
  rw [Qa4] at g1 g2
  simp only [encI,encR,bv,iv] at g1 g2 g3
  simp -implicitDefEqProofs (maxSteps:=9^8) only [Qh4,encI,encR,go_sem,Qac,Qab,iv,bv,ln,ld,f1,f2,g1,g2,g3,reduceCtorEq,↓reduceIte,Nat.reduceEqDiff]
 ·rw [decide_eq_false (show ¬ ((Int.gcd n d:Nat):Int)=1 by omega)] at g2
  have g3:=Qhd (n:=n/(Int.gcd n d:Nat)) (d:=d/(Int.gcd n d:Nat)) (ediv_ne hd) (gcd_ediv hd) (Nat.le_trans QpS hdn)
  have g4:=Qq5 (x:=n) (y:=(Int.gcd n d:Nat)) (by omega) hn hgn
  have g5:=Qq5 (x:=d) (y:=(Int.gcd n d:Nat)) (by omega) hdn hgn
  rw [QlL hd] at g3
  rw [Qa4] at g1 g2 g4 g5
  generalize n/(Int.gcd n d:Nat)=N at *
  generalize d/(Int.gcd n d:Nat)=D at *
  generalize n%(Int.gcd n d:Nat)=M1 at *
  generalize d%(Int.gcd n d:Nat)=M2 at *
  simp only [encI,encR,bv,iv] at g1 g2 g3 g4 g5
  simp -implicitDefEqProofs (maxSteps:=9^8) only [Qh4,encI,encR,go_sem,Qac,Qab,iv,bv,ln,ld,f1,f2,g1,g2,g3,g4,g5,QbF,ne_eq,not_false_eq_true,reduceCtorEq,↓reduceIte,Nat.reduceEqDiff]

theorem Qmu {n d:Int} (hn:I64 n) (hd:I64 d):Qah G QkN [iv n,iv d]=some (.d (encR (Rat.divInt n d))):=by
 rw [Qad (cf:=rat_Of) rfl]
 have g1:=Qp7 hn
 have g2:=Qp7 hd
 have g3:=QiT (n:=n) (d:=d) (Nat.le_trans (Qjl hn) (by omega)) (Nat.le_trans (Qjl hd) (by omega))
 simp only [encI,encR,bv,iv] at g1 g2 g3
 simp -implicitDefEqProofs (maxSteps:=9^8) only [rat_Of,encI,encR,go_sem,Qac,Qab,iv,bv,g1,g2,g3,reduceCtorEq,↓reduceIte,Nat.reduceEqDiff]

theorem QjA {n d:Int} (hn:nd n≤1000000000000) (hdn:nd d≤999999999999):Qah G Qdl [encI n,encI d]=some (.d (encR (Rat.divInt n d))):=by
 rw [Qad (cf:=QbM) rfl]
 have ln:=QaV (digs n.natAbs)
 have ld:=QaV (digs d.natAbs)
 by_cases hd:d=0
 ·have f1:=lenz hd
  have e:Rat.divInt n d=0:=by rw [hd,Rat.divInt_zero]
  rw [e,QfV]
  simp -implicitDefEqProofs (maxSteps:=9^8) only [QbM,encI,go_sem,Qac,Qab,iv,bv,ln,ld,f1,reduceCtorEq,↓reduceIte,Nat.reduceEqDiff]
 have f1:=Qnz hd
 by_cases hn0:n=0
 ·have f2:=lenz hn0
  have e:Rat.divInt n d=0:=by rw [hn0,Rat.zero_divInt]
  rw [e,QfV]
  simp -implicitDefEqProofs (maxSteps:=9^8) only [QbM,encI,go_sem,Qac,Qab,iv,bv,ln,ld,f1,f2,reduceCtorEq,↓reduceIte,Nat.reduceEqDiff]
 have f2:=Qnz hn0
 have g1:=rGcd_spec hn hdn
 have hg:0<Int.gcd n d:=Qii hd
 have hgn:nd ((Int.gcd n d:Nat):Int)≤999999999999:=by
  refine Nat.le_trans (QhO ?_) hdn
  rw [Int.natAbs_natCast]
  exact Nat.le_of_dvd (by omega) (Int.gcd_dvd_natAbs_right n d)
 have g4:=Qk3 (x:=n) (y:=(Int.gcd n d:Nat)) (by omega) hn hgn
 have g5:=Qk3 (x:=d) (y:=(Int.gcd n d:Nat)) (by omega) (by omega) hgn
 have hD:=ediv_ne (n:=n) hd
 have hc:=gcd_ediv (n:=n) hd
 have hDn:=Nat.le_trans (QpS (n:=d) (g:=Int.gcd n d)) hdn
 have hNn:=Nat.le_trans (QpS (n:=n) (g:=Int.gcd n d)) hn
 rw [← QlL hd]
 rw [Qa4] at g1 g4 g5
 generalize n/(Int.gcd n d:Nat)=N at *
 generalize d/(Int.gcd n d:Nat)=D at *
 generalize n%(Int.gcd n d:Nat)=M1 at *
 generalize d%(Int.gcd n d:Nat)=M2 at *
 by_cases h:D<0
 ·have x1:decide (D<0)=true:=decide_eq_true h
  have g6:=Qlu (x:=N) hNn
  have g7:=Qlu (x:=D) (by omega)
  have g3:=Qlp (-D) (by rw [nd_neg];omega) (by omega)
  have e:=QkM (n:=-N) (d:=-D) (by omega) (by rw [Int.gcd_neg,Int.neg_gcd];exact hc)
  rw [Rat.neg_divInt_neg] at e
  rw [e]
  clear e
  have hpos:0 < -D:=by omega
  generalize -N=N2 at *
  obtain ⟨D2,hD2⟩:∃ D2,-D=D2:=⟨_,rfl⟩
  rw [hD2] at g7 g3 hpos ⊢
  simp only [encI,bv,iv] at g1 g3 g4 g5 g6 g7
  rw [x1] at g5 g7
  by_cases h1:D2=1
  ·rw [decide_eq_true h1] at g3
   have f3:dg (dd D2.natAbs)=.z true:=by subst h1;rfl
   simp -implicitDefEqProofs (maxSteps:=9^8) only [QbM,encI,go_sem,Qac,Qab,iv,bv,ln,ld,f1,f2,x1,g1,g4,g5,g6,g7,g3,f3,QbF,ne_eq,not_false_eq_true,reduceCtorEq,↓reduceIte,Nat.reduceEqDiff]
  ·rw [decide_eq_false h1] at g3
   have f3:dd D2.natAbs=digs D2.natAbs:=Qj3 (by omega)
   have f4:decide (D2<0)=false:=decide_eq_false (by omega)
   rw [f4] at g3 g7
   simp -implicitDefEqProofs (maxSteps:=9^8) only [QbM,encI,go_sem,Qac,Qab,iv,bv,ln,ld,f1,f2,x1,g1,g4,g5,g6,g7,g3,f3,f4,QbF,ne_eq,not_false_eq_true,reduceCtorEq,↓reduceIte,Nat.reduceEqDiff]
 ·have x1:decide (D<0)=false:=decide_eq_false h
  have g3:=Qlp D (by omega) (by omega)
  rw [QkM (n:=N) (d:=D) (by omega) hc]
  simp only [encI,bv,iv] at g1 g3 g4 g5
  rw [x1] at g3 g5
  by_cases h1:D=1
  ·rw [decide_eq_true h1] at g3
   have f3:dg (dd D.natAbs)=.z true:=by subst h1;rfl
   simp -implicitDefEqProofs (maxSteps:=9^8) only [QbM,encI,go_sem,Qac,Qab,iv,bv,ln,ld,f1,f2,x1,g1,g4,g5,g3,f3,QbF,ne_eq,not_false_eq_true,reduceCtorEq,↓reduceIte,Nat.reduceEqDiff]
  ·rw [decide_eq_false h1] at g3
   have f3:dd D.natAbs=digs D.natAbs:=Qj3 (by omega)
   simp -implicitDefEqProofs (maxSteps:=9^8) only [QbM,encI,go_sem,Qac,Qab,iv,bv,ln,ld,f1,f2,x1,g1,g4,g5,g3,f3,QbF,ne_eq,not_false_eq_true,reduceCtorEq,↓reduceIte,Nat.reduceEqDiff]

theorem QeJ {n d:Int} (hn:I64 n) (hd:I64 d):Qah G Qbe [iv n,iv d]=some (.d (encR (Rat.divInt n d))):=by
 rw [Qad (cf:=Qgz) rfl]
 have g1:=Qg8 hn
 have g2:=Qg8 hd
 have g3:=QjA (n:=n) (d:=d) (Nat.le_trans (Qjl hn) (by omega)) (Nat.le_trans (Qjl hd) (by omega))
 simp only [encI,encR,bv,iv] at g1 g2 g3
 simp -implicitDefEqProofs (maxSteps:=9^8) only [Qgz,encI,encR,go_sem,Qac,Qab,iv,bv,g1,g2,g3,reduceCtorEq,↓reduceIte,Nat.reduceEqDiff]
end Go.AM

/- Laws of rationals for rat and ref05. -/
namespace Go.AM
open Go Go.RowKit

theorem Qqn:nd 1=1:=by rw [nd,show (1:Int).natAbs=1 from rfl,Qno];rfl
theorem nd_pos {n:Nat} (h:0<n):1≤nd (n:Int):=digs_length_pos.2 h
theorem QqA (q:Rat):1≤sz q:=Nat.le_trans (nd_pos q.den_pos) (QcT (Nat.le_refl _))
theorem nd_dvd {a b:Int} (h:a∣b) (hb:b≠0):nd a≤nd b:=QhO (Nat.le_of_dvd (by omega) (Int.natAbs_dvd_natAbs.2 h))
theorem Qjz {n d:Int} (hd:d≠0):(Rat.divInt n d).num∣n∧((Rat.divInt n d).den:Int)∣d:=by
 obtain ⟨m,h1,h2,h3⟩:=Rat.divInt_num_den (n:=n) (d:=d) (n':=(Rat.divInt n d).num) (d':=(Rat.divInt n d).den) (z':=(Rat.divInt n d).den_nz) (c:=(Rat.divInt n d).reduced) hd rfl
 exact ⟨⟨m,h2⟩,⟨m,h3⟩⟩
theorem QfR {n d:Int} {k:Nat} (hk:1≤k) (hn:nd n≤k) (hd:nd d≤k):sz (Rat.divInt n d)≤k:=by
 by_cases h0:d=0
 ·subst h0
  rw [Rat.divInt_zero]
  exact sz_le (by rw [Rat.zero_num,QfT];omega) (by rw [Rat.zero_den];exact Nat.le_trans (Nat.le_of_eq Qqn) hk)
 ·obtain ⟨h1,h2⟩:=Qjz (n:=n) h0
  refine sz_le ?_ (Nat.le_trans (nd_dvd h2 h0) hd)
  by_cases hn0:n=0
  ·subst hn0
   rw [Rat.zero_divInt,Rat.zero_num,QfT];omega
  ·exact Nat.le_trans (nd_dvd h1 hn0) hn
theorem QjD (a b:Rat):a+b=Rat.divInt (a.num*b.den+b.num*a.den) ((a.den:Int)*b.den):=by
 rw [Rat.add_def',← Rat.divInt_ofNat,Int.natCast_mul]
theorem Qh0 (a b:Rat):a*b=Rat.divInt (a.num*b.num) ((a.den:Int)*b.den):=by
 rw [Rat.mul_def',← Rat.divInt_ofNat,Int.natCast_mul]
theorem Qsh (a b:Rat):a/b=Rat.divInt (a.num*b.den) ((a.den:Int)*b.num):=by
 rw [Rat.div_def,Rat.inv_def]
 conv=>lhs;rw [← Rat.num_divInt_den a]
 rw [Rat.divInt_mul_divInt]
theorem Qk9 (b:Rat):b⁻¹=Rat.divInt b.den b.num:=Rat.inv_def b
theorem sz_add {a b:Rat}:sz (a+b)≤sz a+sz b+1:=by
 rw [QjD]
 have a1:=QcR (Nat.le_refl (sz a));have a2:=QcT (Nat.le_refl (sz a))
 have b1:=QcR (Nat.le_refl (sz b));have b2:=QcT (Nat.le_refl (sz b))
 have m1:=Qez (x:=a.num) (y:=b.den)
 have m2:=Qez (x:=b.num) (y:=a.den)
 have m3:=Qez (x:=a.den) (y:=b.den)
 exact QfR (by omega) (nd_add (by omega) (by omega)) (by omega)
theorem Qma {a b:Rat}:sz (a*b)≤sz a+sz b:=by
 rw [Qh0]
 have a1:=QcR (Nat.le_refl (sz a));have a2:=QcT (Nat.le_refl (sz a))
 have b1:=QcR (Nat.le_refl (sz b));have b2:=QcT (Nat.le_refl (sz b))
 have m1:=Qez (x:=a.num) (y:=b.num)
 have m3:=Qez (x:=a.den) (y:=b.den)
 have:=QqA a
 exact QfR (by omega) (by omega) (by omega)
theorem sz_div {a b:Rat}:sz (a/b)≤sz a+sz b:=by
 rw [Qsh]
 have a1:=QcR (Nat.le_refl (sz a));have a2:=QcT (Nat.le_refl (sz a))
 have b1:=QcR (Nat.le_refl (sz b));have b2:=QcT (Nat.le_refl (sz b))
 have m1:=Qez (x:=a.num) (y:=b.den)
 have m3:=Qez (x:=a.den) (y:=b.num)
 have:=QqA a
 exact QfR (by omega) (by omega) (by omega)
theorem sz_neg (a:Rat):sz (-a)=sz a:=by rw [sz,sz,Rat.neg_num,Rat.neg_den,nd_neg]
theorem sz_inv {b:Rat}:sz (b⁻¹)≤sz b:=by
 rw [Qk9]
 exact QfR (QqA b) (QcT (Nat.le_refl _)) (QcR (Nat.le_refl _))

theorem QhZ {a:Rat} (h:a.den=1):a=(a.num:Rat):=Rat.ext rfl h
theorem add_whole {a b:Rat} (ha:a.den=1) (hb:b.den=1):(a+b).num=a.num+b.num∧(a+b).den=1:=by
 have e:a+b=((a.num+b.num:Int):Rat):=by
  rw [Rat.intCast_add,← QhZ ha,← QhZ hb]
 rw [e];exact ⟨rfl,rfl⟩
theorem mul_whole {a b:Rat} (ha:a.den=1) (hb:b.den=1):(a*b).num=a.num*b.num∧(a*b).den=1:=by
 have e:a*b=((a.num*b.num:Int):Rat):=by
  rw [Rat.intCast_mul,← QhZ ha,← QhZ hb]
 rw [e];exact ⟨rfl,rfl⟩
theorem Qjq {a:Rat} (h:a.num=0):a=0:=Rat.num_eq_zero.1 h
theorem cross (a b:Rat):Int.gcd ((Rat.divInt a.num b.den).num*(Rat.divInt b.num a.den).num) (((Rat.divInt a.num b.den).den:Int)*(Rat.divInt b.num a.den).den)=1:=by
 have hp:=(Rat.divInt a.num b.den).reduced
 have hq:=(Rat.divInt b.num a.den).reduced
 obtain ⟨p1,p2⟩:=Qjz (n:=a.num) (d:=b.den) (by have:=b.den_pos;omega)
 obtain ⟨q1,q2⟩:=Qjz (n:=b.num) (d:=a.den) (by have:=a.den_pos;omega)
 generalize Rat.divInt a.num b.den=p at *
 generalize Rat.divInt b.num a.den=q at *
 have c1:Nat.Coprime p.num.natAbs q.den:=Nat.Coprime.coprime_dvd_left (Int.natAbs_dvd_natAbs.2 p1) (Nat.Coprime.coprime_dvd_right (Int.natCast_dvd_natCast.1 q2) a.reduced)
 have c2:Nat.Coprime q.num.natAbs p.den:=Nat.Coprime.coprime_dvd_left (Int.natAbs_dvd_natAbs.2 q1) (Nat.Coprime.coprime_dvd_right (Int.natCast_dvd_natCast.1 p2) b.reduced)
 have e:Nat.Coprime (p.num.natAbs*q.num.natAbs) (p.den*q.den) :=
  Nat.Coprime.mul_left (Nat.Coprime.mul_right hp c1) (Nat.Coprime.mul_right c2 hq)
 rw [Int.gcd,Int.natAbs_mul,Int.natAbs_mul,Int.natAbs_natCast,Int.natAbs_natCast]
 exact e
theorem cross_val (a b:Rat):Rat.divInt ((Rat.divInt a.num b.den).num*(Rat.divInt b.num a.den).num) (((Rat.divInt a.num b.den).den:Int)*(Rat.divInt b.num a.den).den)=a*b:=by
 rw [← Qh0,Rat.divInt_mul_divInt,Qh0,Int.mul_comm (b.den:Int)]

end Go.AM

/- rat.Neg, Sign, Add, Sub, Mul, Div, Compare -/
namespace Go.AM
open Go Go.RowKit

theorem dden {a:Rat} (h:a.den=1):dg (dd a.den)=.z true:=by rw [h];rfl
theorem QdH (a:Rat):encI (a.den:Int)=.agg [.v (.bool false),dg (digs a.den)]:=Qa4 a.den
theorem QoM {a:Rat} (h:a.den=1):(((dd a.den).length:Int)==0)=true:=by rw [h];rfl
theorem Qox {a:Rat} (h:a.den≠1):(((dd a.den).length:Int)==0)=false:=by
 rw [Qj3 h];exact Qb9 (by have:=digs_length_pos.2 a.den_pos;omega)
variable [Its]

theorem Qp9 (a:Rat):Qah G Qpd [encR a]=some (.d (encR (-a))):=by
 rw [Qad (cf:=Qp6) rfl]
 have g:=Qns a.num
 have e:encR (-a)=.agg [.v (.bool (decide (-a.num<0))),dg (digs (-a.num).natAbs),.v (.bool false),dg (dd a.den)]:=rfl
 rw [e]
 clear e
 generalize -a.num=N at *
 simp only [encI,bv,iv] at g
 simp -implicitDefEqProofs (maxSteps:=9^8) only [Qp6,encR,go_sem,Qac,Qab,iv,bv,g,reduceCtorEq,↓reduceIte,Nat.reduceEqDiff]

theorem Qkj (a:Rat):Qah G QhX [encR a]=some (.d (iv (Int.sign a.num))):=by
 rw [Qad (cf:=Qi1) rfl]
 have g:=Qo1 a.num
 simp only [encI,bv,iv] at g
 simp -implicitDefEqProofs (maxSteps:=9^8) only [Qi1,encR,go_sem,Qac,Qab,iv,bv,g,reduceCtorEq,↓reduceIte,Nat.reduceEqDiff]

theorem Qg4 {a b:Rat} (ha:sz a≤100000000000) (hb:sz b≤100000000000):Qah G QhM [encR a,encR b]=some (.d (encR (a+b))):=by
 rw [Qad (cf:=Qhf) rfl]
 have a1:=QcR ha;have a2:=QcT ha;have b1:=QcR hb;have b2:=QcT hb
 have la:=QaV (digs a.num.natAbs)
 have lb:=QaV (digs b.num.natAbs)
 have ea:=QaV (dd a.den)
 have eb:=QaV (dd b.den)
 by_cases h1:a.den=1∧b.den=1
 ·obtain ⟨w1,w2⟩:=add_whole h1.1 h1.2
  have u1:=QoM h1.1
  have u2:=QoM h1.2
  have g:=Qqx (x:=a.num) (y:=b.num) (by omega) (by omega)
  have e:encR (a+b)=.agg [.v (.bool (decide (a.num+b.num<0))),dg (digs (a.num+b.num).natAbs),.v (.bool false),.z true]:=by rw [encR,w1,dden w2]
  rw [e]
  clear e w1 w2
  generalize a.num+b.num=N at *
  simp only [encI,bv,iv] at g
  simp -implicitDefEqProofs (maxSteps:=9^8) only [Qhf,encR,go_sem,Qac,Qab,iv,bv,la,lb,ea,eb,u1,u2,g,reduceCtorEq,↓reduceIte,Nat.reduceEqDiff]
 ·have m1:=Qez (x:=a.num) (y:=b.den)
  have m2:=Qez (x:=b.num) (y:=a.den)
  have m3:=Qez (x:=a.den) (y:=b.den)
  have g1:=Qg6 a
  have g2:=Qg6 b
  have g3:=Qig (x:=a.num) (y:=b.den) (by omega) (by omega)
  have g4:=Qig (x:=b.num) (y:=a.den) (by omega) (by omega)
  have g5:=Qig (x:=a.den) (y:=b.den) (by omega) (by omega)
  have g6:=Qqx (x:=a.num*b.den) (y:=b.num*a.den) (by omega) (by omega)
  have g7:=QiT (n:=a.num*b.den+b.num*a.den) (d:=(a.den:Int)*b.den) (Nat.le_trans (nd_add (k:=200000000000) (by omega) (by omega)) (by omega)) (by omega)
  rw [← QjD] at g7
  rw [QdH] at g1 g2 g3 g4
  rw [QdH,QdH] at g5
  generalize a.num*(b.den:Int)+b.num*(a.den:Int)=N at *
  generalize a.num*(b.den:Int)=N1 at *
  generalize b.num*(a.den:Int)=N2 at *
  generalize (a.den:Int)*(b.den:Int)=D at *
  by_cases h2:a.num=0
  ·have z1:=lenz h2
   have e:a+b=b:=by rw [Qjq h2,Rat.zero_add]
   rw [e]
   by_cases h3:a.den=1
   ·have u1:=QoM h3
    have u2:=Qox (fun h=>h1 ⟨h3,h⟩)
    simp -implicitDefEqProofs (maxSteps:=9^8) only [Qhf,encR,go_sem,Qac,Qab,iv,bv,la,lb,ea,eb,u1,u2,z1,reduceCtorEq,↓reduceIte,Nat.reduceEqDiff]
   ·have u1:=Qox h3
    simp -implicitDefEqProofs (maxSteps:=9^8) only [Qhf,encR,go_sem,Qac,Qab,iv,bv,la,lb,ea,eb,u1,z1,reduceCtorEq,↓reduceIte,Nat.reduceEqDiff]
  ·have z1:=Qnz h2
   by_cases h4:b.num=0
   ·have z2:=lenz h4
    have e:a+b=a:=by rw [Qjq h4,Rat.add_zero]
    rw [e]
    by_cases h3:a.den=1
    ·have u1:=QoM h3
     have u2:=Qox (fun h=>h1 ⟨h3,h⟩)
     simp -implicitDefEqProofs (maxSteps:=9^8) only [Qhf,encR,go_sem,Qac,Qab,iv,bv,la,lb,ea,eb,u1,u2,z1,z2,reduceCtorEq,↓reduceIte,Nat.reduceEqDiff]
    ·have u1:=Qox h3
     simp -implicitDefEqProofs (maxSteps:=9^8) only [Qhf,encR,go_sem,Qac,Qab,iv,bv,la,lb,ea,eb,u1,z1,z2,reduceCtorEq,↓reduceIte,Nat.reduceEqDiff]
   ·have z2:=Qnz h4
    generalize a+b=S at *
    simp only [encI,encR,bv,iv] at g1 g2 g3 g4 g5 g6 g7
    by_cases h3:a.den=1
    ·have u1:=QoM h3
     have u2:=Qox (fun h=>h1 ⟨h3,h⟩)
     simp -implicitDefEqProofs (maxSteps:=9^8) only [Qhf,encR,go_sem,Qac,Qab,iv,bv,la,lb,ea,eb,u1,u2,z1,z2,g1,g2,g3,g4,g5,g6,g7,QbF,ne_eq,not_false_eq_true,reduceCtorEq,↓reduceIte,Nat.reduceEqDiff]
    ·have u1:=Qox h3
     simp -implicitDefEqProofs (maxSteps:=9^8) only [Qhf,encR,go_sem,Qac,Qab,iv,bv,la,lb,ea,eb,u1,z1,z2,g1,g2,g3,g4,g5,g6,g7,QbF,ne_eq,not_false_eq_true,reduceCtorEq,↓reduceIte,Nat.reduceEqDiff]

theorem Qpv {a b:Rat} (ha:sz a≤100000000000) (hb:sz b≤100000000000):Qah G QoL [encR a,encR b]=some (.d (encR (a-b))):=by
 rw [Qad (cf:=QpW) rfl]
 have g1:=Qp9 b
 have g2:=Qg4 (a:=a) (b:=-b) ha (by rw [sz_neg];exact hb)
 rw [← Rat.sub_eq_add_neg] at g2
 generalize -b=B at *
 simp only [encR,bv,iv] at g1 g2
 simp -implicitDefEqProofs (maxSteps:=9^8) only [QpW,encR,go_sem,Qac,Qab,iv,bv,g1,g2,reduceCtorEq,↓reduceIte,Nat.reduceEqDiff]

theorem Qec {a b:Rat} (ha:sz a≤100000000000) (hb:sz b≤100000000000):Qah G Qfa [encR a,encR b]=some (.d (encR (a*b))):=by
 rw [Qad (cf:=Qiz) rfl]
 have a1:=QcR ha;have a2:=QcT ha;have b1:=QcR hb;have b2:=QcT hb
 have la:=QaV (digs a.num.natAbs)
 have lb:=QaV (digs b.num.natAbs)
 have ea:=QaV (dd a.den)
 have eb:=QaV (dd b.den)
 by_cases h2:a.num=0
 ·have z1:=lenz h2
  have e:a*b=0:=by rw [Qjq h2,Rat.zero_mul]
  rw [e,QfV]
  simp -implicitDefEqProofs (maxSteps:=9^8) only [Qiz,encR,go_sem,Qac,Qab,iv,bv,la,lb,ea,eb,z1,reduceCtorEq,↓reduceIte,Nat.reduceEqDiff]
 have z1:=Qnz h2
 by_cases h4:b.num=0
 ·have z2:=lenz h4
  have e:a*b=0:=by rw [Qjq h4,Rat.mul_zero]
  rw [e,QfV]
  simp -implicitDefEqProofs (maxSteps:=9^8) only [Qiz,encR,go_sem,Qac,Qab,iv,bv,la,lb,ea,eb,z1,z2,reduceCtorEq,↓reduceIte,Nat.reduceEqDiff]
 have z2:=Qnz h4
 by_cases h1:a.den=1∧b.den=1
 ·obtain ⟨w1,w2⟩:=mul_whole h1.1 h1.2
  have u1:=QoM h1.1
  have u2:=QoM h1.2
  have g:=Qig (x:=a.num) (y:=b.num) (by omega) (by omega)
  have e:encR (a*b)=.agg [.v (.bool (decide (a.num*b.num<0))),dg (digs (a.num*b.num).natAbs),.v (.bool false),.z true]:=by rw [encR,w1,dden w2]
  rw [e]
  clear e w1 w2
  generalize a.num*b.num=N at *
  simp only [encI,bv,iv] at g
  simp -implicitDefEqProofs (maxSteps:=9^8) only [Qiz,encR,go_sem,Qac,Qab,iv,bv,la,lb,ea,eb,u1,u2,z1,z2,g,reduceCtorEq,↓reduceIte,Nat.reduceEqDiff]
 ·have g1:=Qg6 a
  have g2:=Qg6 b
  have g3:=QiT (n:=a.num) (d:=b.den) (by omega) (by omega)
  have g4:=QiT (n:=b.num) (d:=a.den) (by omega) (by omega)
  have k1:=QfR (n:=a.num) (d:=b.den) (k:=100000000000) (by omega) a1 b2
  have k2:=QfR (n:=b.num) (d:=a.den) (k:=100000000000) (by omega) b1 a2
  have cr:=cross a b
  have cv:=cross_val a b
  generalize Rat.divInt a.num b.den=p at *
  generalize Rat.divInt b.num a.den=q at *
  have p1:=QcR k1;have p2:=QcT k1;have q1:=QcR k2;have q2:=QcT k2
  have m1:=Qez (x:=p.num) (y:=q.num)
  have m2:=Qez (x:=p.den) (y:=q.den)
  have g5:=Qg6 p
  have g6:=Qg6 q
  have g7:=Qig (x:=p.num) (y:=q.num) (by omega) (by omega)
  have g8:=Qig (x:=p.den) (y:=q.den) (by omega) (by omega)
  have hne:(p.den:Int)*(q.den:Int)≠0:=Int.mul_ne_zero (by have:=p.den_pos;omega) (by have:=q.den_pos;omega)
  have g9:=Qhd (n:=p.num*q.num) (d:=(p.den:Int)*q.den) hne cr (by omega)
  rw [cv] at g9
  rw [QdH] at g1 g2 g3 g4 g5 g6
  rw [QdH,QdH] at g8
  generalize p.num*q.num=N at *
  generalize (p.den:Int)*(q.den:Int)=D at *
  generalize a*b=S at *
  simp only [encI,encR,bv,iv] at g1 g2 g3 g4 g5 g6 g7 g8 g9
  by_cases h3:a.den=1
  ·have u1:=QoM h3
   have u2:=Qox (fun h=>h1 ⟨h3,h⟩)
   simp -implicitDefEqProofs (maxSteps:=9^8) only [Qiz,encR,go_sem,Qac,Qab,iv,bv,la,lb,ea,eb,u1,u2,z1,z2,g1,g2,g3,g4,g5,g6,g7,g8,g9,QbF,ne_eq,not_false_eq_true,reduceCtorEq,↓reduceIte,Nat.reduceEqDiff]
  ·have u1:=Qox h3
   simp -implicitDefEqProofs (maxSteps:=9^8) only [Qiz,encR,go_sem,Qac,Qab,iv,bv,la,lb,ea,eb,u1,z1,z2,g1,g2,g3,g4,g5,g6,g7,g8,g9,QbF,ne_eq,not_false_eq_true,reduceCtorEq,↓reduceIte,Nat.reduceEqDiff]

theorem QlN {a b:Rat} (ha:sz a≤100000000000) (hb:sz b≤100000000000):Qah G QlM [encR a,encR b]=some (.d (encR (a/b))):=by
 rw [Qad (cf:=Qng) rfl]
 have b1:=QcR hb;have b2:=QcT hb
 have lb:=QaV (digs b.num.natAbs)
 by_cases h4:b.num=0
 ·have z2:=lenz h4
  have e:a/b=0:=by rw [Qjq h4,Rat.div_def,Rat.inv_zero,Rat.mul_zero]
  rw [e,QfV]
  simp -implicitDefEqProofs (maxSteps:=9^8) only [Qng,encR,go_sem,Qac,Qab,iv,bv,lb,z2,reduceCtorEq,↓reduceIte,Nat.reduceEqDiff]
 have z2:=Qnz h4
 have g1:=Qg6 b
 have hc:Int.gcd (b.den:Int) b.num=1:=by
  have:=b.reduced
  rw [Int.gcd_comm]
  exact this
 have g2:=Qhd (n:=b.den) (d:=b.num) h4 hc (by omega)
 rw [← Qk9] at g2
 have g3:=Qec (a:=a) (b:=b⁻¹) ha (Nat.le_trans sz_inv hb)
 rw [← Rat.div_def] at g3
 rw [QdH] at g1 g2
 generalize a/b=S at *
 generalize b⁻¹=B at *
 simp only [encI,encR,bv,iv] at g1 g2 g3
 simp -implicitDefEqProofs (maxSteps:=9^8) only [Qng,encR,go_sem,Qac,Qab,iv,bv,lb,z2,g1,g2,g3,reduceCtorEq,↓reduceIte,Nat.reduceEqDiff]

end Go.AM

/- ref05.Neg, Sign, Add, Sub, Mul, Div, Compare -/
namespace Go.AM
open Go Go.RowKit
variable [Its]

theorem QoF {a:Rat} (ha:sz a≤100000000000):Qah G QgI [encR a]=some (.d (encR (-a))):=by
 rw [Qad (cf:=Qf1) rfl]
 have a1:=QcR ha
 have g:=Qlu (x:=a.num) (by omega)
 have e:encR (-a)=.agg [.v (.bool (decide (-a.num<0))),dg (digs (-a.num).natAbs),.v (.bool false),dg (dd a.den)]:=rfl
 rw [e]
 clear e
 generalize -a.num=N at *
 simp only [encI,bv,iv] at g
 simp -implicitDefEqProofs (maxSteps:=9^8) only [Qf1,encR,go_sem,Qac,Qab,iv,bv,g,reduceCtorEq,↓reduceIte,Nat.reduceEqDiff]

theorem Qjp {a:Rat} (ha:sz a≤100000000000):Qah G Qdk [encR a]=some (.d (iv (Int.sign a.num))):=by
 rw [Qad (cf:=Qc7) rfl]
 have a1:=QcR ha
 have g:=QjB (x:=a.num) (by omega)
 simp only [encI,bv,iv] at g
 simp -implicitDefEqProofs (maxSteps:=9^8) only [Qc7,encR,go_sem,Qac,Qab,iv,bv,g,reduceCtorEq,↓reduceIte,Nat.reduceEqDiff]

theorem Qos {a b:Rat} (ha:sz a≤100000000000) (hb:sz b≤100000000000):Qah G QgB [encR a,encR b]=some (.d (encR (a+b))):=by
 rw [Qad (cf:=QfX) rfl]
 have a1:=QcR ha;have a2:=QcT ha;have b1:=QcR hb;have b2:=QcT hb
 have m1:=Qez (x:=a.num) (y:=b.den)
 have m2:=Qez (x:=b.num) (y:=a.den)
 have m3:=Qez (x:=a.den) (y:=b.den)
 have g1:=QiW a
 have g2:=QiW b
 have g3:=QgG (x:=a.num) (y:=b.den) (by omega) (by omega)
 have g4:=QgG (x:=b.num) (y:=a.den) (by omega) (by omega)
 have g5:=QgG (x:=a.den) (y:=b.den) (by omega) (by omega)
 have g6:=Qob (x:=a.num*b.den) (y:=b.num*a.den) (by omega) (by omega)
 have g7:=QjA (n:=a.num*b.den+b.num*a.den) (d:=(a.den:Int)*b.den) (Nat.le_trans (nd_add (k:=200000000000) (by omega) (by omega)) (by omega)) (by omega)
 rw [← QjD] at g7
 rw [QdH] at g1 g2 g3 g4
 rw [QdH,QdH] at g5
 generalize a.num*(b.den:Int)+b.num*(a.den:Int)=N at *
 generalize a.num*(b.den:Int)=N1 at *
 generalize b.num*(a.den:Int)=N2 at *
 generalize (a.den:Int)*(b.den:Int)=D at *
 generalize a+b=S at *
 simp only [encI,encR,bv,iv] at g1 g2 g3 g4 g5 g6 g7
 simp -implicitDefEqProofs (maxSteps:=9^8) only [QfX,encR,go_sem,Qac,Qab,iv,bv,g1,g2,g3,g4,g5,g6,g7,QbF,ne_eq,not_false_eq_true,reduceCtorEq,↓reduceIte,Nat.reduceEqDiff]

theorem QoN {a b:Rat} (ha:sz a≤100000000000) (hb:sz b≤100000000000):Qah G QgP [encR a,encR b]=some (.d (encR (a*b))):=by
 rw [Qad (cf:=QfO) rfl]
 have a1:=QcR ha;have a2:=QcT ha;have b1:=QcR hb;have b2:=QcT hb
 have m1:=Qez (x:=a.num) (y:=b.num)
 have m3:=Qez (x:=a.den) (y:=b.den)
 have g1:=QiW a
 have g2:=QiW b
 have g3:=QgG (x:=a.num) (y:=b.num) (by omega) (by omega)
 have g5:=QgG (x:=a.den) (y:=b.den) (by omega) (by omega)
 have g7:=QjA (n:=a.num*b.num) (d:=(a.den:Int)*b.den) (by omega) (by omega)
 rw [← Qh0] at g7
 rw [QdH] at g1 g2
 rw [QdH,QdH] at g5
 generalize a.num*b.num=N1 at *
 generalize (a.den:Int)*(b.den:Int)=D at *
 generalize a*b=S at *
 simp only [encI,encR,bv,iv] at g1 g2 g3 g5 g7
 simp -implicitDefEqProofs (maxSteps:=9^8) only [QfO,encR,go_sem,Qac,Qab,iv,bv,g1,g2,g3,g5,g7,QbF,ne_eq,not_false_eq_true,reduceCtorEq,↓reduceIte,Nat.reduceEqDiff]

end Go.AM

/- ref01: Around, At; digits tell numbers apart. -/
namespace Go.AM
open Go Go.RowKit

theorem i64_wf {n:Int} (h:(Lit.int .i64 n).wf=true):I64 n:=by
 simp only [Lit.wf,Bool.and_eq_true,decide_eq_true_eq] at h
 have h1:IntKind.min .i64 = -9223372036854775808:=by decide
 have h2:IntKind.max .i64=9223372036854775807:=by decide
 rw [h1,h2] at h
 exact ⟨by omega,by omega⟩
theorem rw_dg {d:D} {l:List Int} (h:Dg d l):Rw d l:=by
 rcases h with ⟨rfl,rfl⟩ | h
 ·exact .inl rfl
 ·exact .inr h
def arnd (n m:Int):Int:=(if n<0 then -(n+1) else n)%m
theorem Qn2 {n m:Int} (hm:0<m):0≤arnd n m∧arnd n m<m:=⟨Int.emod_nonneg _ (by omega),Int.emod_lt_of_pos _ hm⟩
def atr (l:List Int) (i m:Int):Int:=if i<0∨i≥l.length then 0 else arnd (l.getD i.toNat 0) m
theorem atr_b (l:List Int) (i:Int) {m:Int} (hm:0<m):0≤atr l i m∧atr l i m<m:=by
 unfold atr
 split
 ·omega
 ·exact Qn2 hm

theorem QqS {a b:Nat} (h:digs a=digs b):a=b:=by
 have:=congrArg val h
 rw [Qat,Qat] at this
 omega
theorem iv_inj {a b:Int} (h:iv a=iv b):a=b:=by cases h;rfl
theorem QoE:∀ {l m:List Int},l.map iv=m.map iv→l=m
 | [],[],_=>rfl
 | [],_ :: _,h=>by cases h
 | _ :: _,[],h=>by cases h
 | a :: l,b :: m,h=>by
  rw [List.map_cons,List.map_cons,List.cons.injEq] at h
  rw [iv_inj h.1,QoE h.2]
theorem dg_inj {l m:List Int} (h:dg l=dg m):l=m:=by
 by_cases h1:l=[]<;>by_cases h2:m=[]
 ·rw [h1,h2]
 ·rw [h1,Qoi,Qhr h2] at h;cases h
 ·rw [h2,Qoi,Qhr h1] at h;cases h
 ·rw [Qhr h1,Qhr h2,D.row.injEq] at h;exact QoE h.2
variable [Its]

theorem QiB {n m:Int} (hn:I64 n) (hm:0<m):Qah G QcK [iv n,iv m]=some (.d (iv (arnd n m))):=by
 rw [Qad (cf:=Qdo) rfl]
 obtain ⟨h1,h2⟩:=hn
 have e2:=Qjr (b:=m) (by omega)
 unfold arnd
 by_cases h:n<0
 ·have e1:decide (n<0)=true:=decide_eq_true h
  have e3:w64 (n+1)=n+1:=Qae (by omega) (by omega)
  have e4:w64 (0-(n+1)) = -(n+1):=by rw [Qae (by omega) (by omega)];omega
  have e5:=QdV (a:=-(n+1)) (b:=m) (by omega)
  rw [if_pos h]
  simp -implicitDefEqProofs (maxSteps:=9^8) only [Qdo,go_sem,iv,bv,e1,e2,e3,e4,e5,reduceCtorEq,↓reduceIte,Nat.reduceEqDiff]
 ·have e1:decide (n<0)=false:=decide_eq_false h
  have e5:=QdV (a:=n) (b:=m) (by omega)
  rw [if_neg h]
  simp -implicitDefEqProofs (maxSteps:=9^8) only [Qdo,go_sem,iv,bv,e1,e2,e5,reduceCtorEq,↓reduceIte,Nat.reduceEqDiff]
theorem at_spec {d:D} {l:List Int} {i m:Int} (hr:Rw d l) (hl:∀ n∈l,I64 n) (hm:0<m):Qah G Qfk [d,iv i,iv m]=some (.d (iv (atr l i m))):=by
 rw [Qad (cf:=QdX) rfl]
 have ll:=hr.len
 unfold atr
 by_cases h:i<0
 ·have e1:decide (i<0)=true:=decide_eq_true h
  rw [if_pos (.inl h)]
  simp -implicitDefEqProofs (maxSteps:=9^8) only [QdX,go_sem,iv,bv,e1,reduceCtorEq,↓reduceIte,Nat.reduceEqDiff]
 ·have e1:decide (i<0)=false:=decide_eq_false h
  by_cases h2:i≥l.length
  ·have e2:decide (i≥(l.length:Int))=true:=decide_eq_true h2
   rw [if_pos (.inr h2)]
   simp -implicitDefEqProofs (maxSteps:=9^8) only [QdX,go_sem,iv,bv,e1,e2,ll,reduceCtorEq,↓reduceIte,Nat.reduceEqDiff]
  ·have e2:decide (i≥(l.length:Int))=false:=decide_eq_false h2
   rw [if_neg (by omega)]
   obtain ⟨j,rfl⟩:∃ j:Nat,i=(j:Int):=⟨i.toNat,by omega⟩
   rw [Int.toNat_natCast]
   have hj:j<l.length:=by omega
   have e3:=hr.ixn (j:=j) hj
   have e4:=fun hp=>ldv hp l (j:=j) hj
   have hb:I64 (l.getD j 0):=hl _ (by rw [List.getD_eq_getElem?_getD,List.getElem?_eq_getElem hj];exact List.getElem_mem hj)
   have g:=QiB hb hm
   simp only [iv] at g
   simp -implicitDefEqProofs (maxSteps:=9^8) only [QdX,go_sem,iv,bv,e1,e2,e3,e4,ll,g,reduceCtorEq,↓reduceIte,Nat.reduceEqDiff]
end Go.AM

/- Rationals: signs, sizes, names for what comes out; ref01. -/
namespace Go.AM
open Go Go.RowKit

theorem Qpe:sz 1=1:=by rw [sz,Rat.one_num,Rat.one_den];exact by rw [show ((1:Nat):Int)=1 from rfl,Qqn];rfl
theorem QpN:sz 0=1:=by rw [sz,Rat.zero_num,Rat.zero_den];exact by rw [show ((1:Nat):Int)=1 from rfl,Qqn,QfT];rfl
theorem sz_int {n:Int} (h:I64 n):sz (n:Rat)≤3:=sz_le (Qjl h) (by rw [Rat.den_intCast];exact Nat.le_trans (Nat.le_of_eq Qqn) (by omega))
theorem QfG (n:Int):Rat.divInt n 1=(n:Rat):=by
 have:=Rat.num_divInt_den (n:Rat)
 exact this
def boxR (q:Rat):Obj:=⟨0,0,[.d (.v (.bool (decide (q.num<0)))),.d (dg (digs q.num.natAbs)),.d (.v (.bool false)),.d (dg (dd q.den))],false⟩
def Ql2:Obj:=⟨0,0,[.d (.v (.bool false)),.d (.z true),.d (.v (.bool false)),.d (.z true)],false⟩
theorem sz_sub {a b:Rat}:sz (a-b)≤sz a+sz b+1:=by
 rw [Rat.sub_eq_add_neg]
 have:=sz_add (a:=a) (b:=-b)
 rw [sz_neg] at this
 exact this
theorem dd_inj {a b:Nat} (ha:0<a) (hb:0<b) (h:dd a=dd b):a=b:=by
 have hn:∀ {n:Nat},0<n→digs n≠[]:=fun hn h0=>by have:=digs_length_pos.2 hn;rw [h0] at this;simp at this
 by_cases h1:a=1<;>by_cases h2:b=1
 ·omega
 ·rw [h1,dd_one,Qj3 h2] at h;exact absurd h.symm (hn hb)
 ·rw [h2,dd_one,Qj3 h1] at h;exact absurd h (hn ha)
 ·rw [Qj3 h1,Qj3 h2] at h;exact QqS h
theorem rat_inj {q p:Rat} (h1:decide (q.num<0)=decide (p.num<0)) (h2:dg (digs q.num.natAbs)=dg (digs p.num.natAbs)) (h3:dg (dd q.den)=dg (dd p.den)):q=p:=by
 have e1:=QqS (dg_inj h2)
 have e2:=dd_inj q.den_pos p.den_pos (dg_inj h3)
 have e3:q.num<0↔p.num<0:=by simpa using h1
 exact Rat.ext (by omega) e2

variable [Its]

end Go.AM

/- Rows and arrays of rationals. -/
namespace Go.AM
open Go Go.RowKit

def cRs:List Rat→List D
 | []=>[]
 | q :: l=>.v (.bool (decide (q.num<0))) :: dg (digs q.num.natAbs) :: .v (.bool false) :: dg (dd q.den) :: cRs l
def rowR (l:List Rat):D:=.row l.length (cRs l)
theorem QeW:∀ l:List Rat,(cRs l).length=l.length*4
 | []=>rfl
 | q :: l=>by simp only [cRs,List.length_cons,QeW l];omega
theorem QkR:∀ (l:List Rat) (n:Nat),(cRs l).drop (n*4)=cRs (l.drop n)
 | [],n=>by simp [cRs]
 | q :: l,0=>rfl
 | q :: l,n+1=>by
  rw [show (n+1)*4=n*4+1+1+1+1 by omega,cRs]
  simp only [List.drop_succ_cons]
  exact QkR l n
theorem QkK:∀ (l:List Rat) (n:Nat),(cRs l).take (n*4)=cRs (l.take n)
 | [],n=>by simp [cRs]
 | q :: l,0=>rfl
 | q :: l,n+1=>by
  rw [show (n+1)*4=n*4+1+1+1+1 by omega,cRs]
  simp only [List.take_succ_cons,QkK l n,cRs]
theorem QmM:∀ (l m:List Rat),cRs (l++m)=cRs l++cRs m
 | [],m=>rfl
 | q :: l,m=>by simp only [List.cons_append,cRs,QmM l m]
theorem cRs_inj:∀ {l m:List Rat},cRs l=cRs m→l=m
 | [],[],_=>rfl
 | [],_ :: _,h=>by simp [cRs] at h
 | _ :: _,[],h=>by simp [cRs] at h
 | a :: l,b :: m,h=>by
  simp only [cRs,List.cons.injEq,D.v.injEq,Value.bool.injEq,true_and] at h
  obtain ⟨h1,h2,h3,h4⟩:=h
  rw [rat_inj h1 h2 h3,cRs_inj h4]
def RwR (d:D) (l:List Rat):Prop:=(d=.z true∧l=[])∨d=rowR l
theorem RwR.row (l:List Rat):RwR (rowR l) l:=.inr rfl
theorem RwR.nil:RwR (.z true) []:=.inl ⟨rfl,rfl⟩
theorem RwR.inj {d:D} {l m:List Rat} (h:RwR d l) (h':RwR d m):l=m:=by
 rcases h with ⟨h1,h2⟩ | h1<;>rcases h' with ⟨h3,h4⟩ | h3
 ·rw [h2,h4]
 ·rw [h1] at h3;cases h3
 ·rw [h1] at h3;cases h3
 ·rw [h1] at h3
  simp only [rowR,D.row.injEq] at h3
  exact cRs_inj h3.2
theorem RwR.len {d:D} {l:List Rat} (h:RwR d l):lenA (.d d)=some l.length:=by
 rcases h with ⟨rfl,rfl⟩ | rfl
 ·rfl
 ·rfl
theorem RwR.ixa {d:D} {l:List Rat} (hr:RwR d l) {j:Nat} (h1:j<l.length) (h:Hp):ixaA h 4 (j:Int) (.d d)=some (.d (.rp (cRs (l.drop j)))):=by
 rcases hr with ⟨rfl,rfl⟩ | rfl
 ·simp at h1
 ·simp only [ixaA,guardO,rowR]
  rw [if_pos ⟨by omega,by omega⟩,Int.toNat_natCast,QkR]
theorem ldR (h:Hp) (l:List Rat) {j:Nat} (h1:j<l.length):Qco h (some 4) (.d (.rp (cRs (l.drop j))))=some (.d (encR (l.getD j 0))):=by
 have e:l.drop j=l.getD j 0 :: l.drop (j+1):=by
  rw [List.drop_eq_getElem_cons h1,List.getD_eq_getElem?_getD,List.getElem?_eq_getElem h1];rfl
 rw [e]
 show guardO (4≤(cRs (l.getD j 0 :: l.drop (j+1))).length) (some (A.d (D.agg ((cRs (l.getD j 0 :: l.drop (j+1))).take 4))))=_
 exact if_pos (by rw [QeW,List.length_cons];omega)
theorem RwR.src {d:D} {l:List Rat} (hr:RwR d l) (st:St):src st (.d d)=some (l.length,cRs l):=by
 rcases hr with ⟨rfl,rfl⟩ | rfl
 ·rfl
 ·rfl
theorem RwR.srcS {d:D} {l:List Rat} (hr:RwR d l) (st:St):srcS st (.d d)=some (l.length,cRs l):=by
 rcases hr with ⟨rfl,rfl⟩ | rfl
 ·rfl
 ·rfl
theorem QnN (ks:List Key):∀ cs:List D,Qdg ks (cs.map A.d)=true
 | []=>rfl
 | c :: cs=>by rw [List.map_cons,Qdg,QnN ks cs];rfl
def cA (l:List Rat):List A:=(cRs l).map A.d
def arrR (n:Nat) (l:List Rat):Obj:=⟨4,n,cA l,false⟩
attribute [go_sem] arrR
theorem QiN (l:List Rat):(cA l).length=l.length*4:=by rw [cA,List.length_map,QeW]
theorem QjU (l:List Rat):allD (cA l)=some (cRs l):=Qhi _
theorem QbI (ks:List Key) (l:List Rat):Qdg ks (cA l)=true:=QnN ks _
theorem Qrg (q:Rat):cA [q]=[.d (.v (.bool (decide (q.num<0)))),.d (dg (digs q.num.natAbs)),.d (.v (.bool false)),.d (dg (dd q.den))]:=rfl
theorem cA_snoc (l:List Rat) (q:Rat):cA l++[.d (.v (.bool (decide (q.num<0)))),.d (dg (digs q.num.natAbs)),.d (.v (.bool false)),.d (dg (dd q.den))]=cA (l++[q]):=by
 rw [← Qrg,cA,cA,cA,QmM,List.map_append]
theorem ld_cA {l:List Rat} {j:Nat} (hj:j<l.length):Qab (some 4) (j*4) (cA l)=some (.d (.agg [.v (.bool (decide ((l.getD j 0).num<0))),dg (digs (l.getD j 0).num.natAbs),.v (.bool false),dg (dd (l.getD j 0).den)])):=by
 show guardO (j*4+4≤(cA l).length) ((allD (((cA l).drop (j*4)).take 4)).map fun ds=>A.d (D.agg ds))=_
 rw [guardO,if_pos (by rw [QiN];omega)]
 have e:l.drop j=l.getD j 0 :: l.drop (j+1):=by
  rw [List.drop_eq_getElem_cons hj,List.getD_eq_getElem?_getD,List.getElem?_eq_getElem hj];rfl
 rw [cA,← List.map_drop,QkR,← List.map_take,e]
 rw [Qhi];rfl
theorem cRs_set:∀ (l:List Rat) (j:Nat) (q:Rat),j<l.length→(cRs l).take (j*4)++cRs [q]++(cRs l).drop (j*4+4)=cRs (l.set j q)
 | [],j,q,h=>by simp at h
 | a :: l,0,q,h=>rfl
 | a :: l,j+1,q,h=>by
  have ih:=cRs_set l j q (by simpa using h)
  rw [show (j+1)*4=j*4+1+1+1+1 by omega,show j*4+1+1+1+1+4=(j*4+4)+1+1+1+1 by omega]
  simp only [List.set_cons_succ,cRs,List.take_succ_cons,List.drop_succ_cons,List.cons_append,List.nil_append,List.append_assoc] at ih ⊢
  rw [ih]
theorem st_cA {l:List Rat} {j:Nat} (hj:j<l.length) (q:Rat):Qac (j*4) [.d (.v (.bool (decide (q.num<0)))),.d (dg (digs q.num.natAbs)),.d (.v (.bool false)),.d (dg (dd q.den))] (cA l)=some (cA (l.set j q)):=by
 rw [← Qrg]
 show guardO (j*4+(cA [q]).length≤(cA l).length) (some ((cA l).take (j*4)++cA [q]++(cA l).drop (j*4+(cA [q]).length)))=_
 have h4:(cA [q]).length=4:=rfl
 rw [h4,guardO,if_pos (by rw [QiN];omega),cA,cA,cA,← List.map_take,← List.map_drop,← List.map_append,← List.map_append,cRs_set l j q hj]
theorem dgone (m:List Int):(dg m).one=true:=by cases m<;>rfl
theorem QpU:∀ n:Nat,rep n [.v (.bool false),.z true,.v (.bool false),.z true]=cRs (List.replicate n 0)
 | 0=>rfl
 | n+1=>by
  have ih:=QpU n
  have ez:decide ((0:Rat).num<0)=false:=rfl
  have ez2:dg (digs (0:Rat).num.natAbs)=.z true:=by rw [Rat.zero_num,show (0:Int).natAbs=0 from rfl,Qav];rfl
  have ez3:dg (dd (0:Rat).den)=.z true:=rfl
  rw [List.replicate_succ,cRs,ez,ez2,ez3,← ih]
  rfl
theorem Qoj (h:Hp) (x:D):Qco h none (.d (.rp [x]))=some (.d x):=rfl
theorem QnW (l:List Rat):(cRs l).map A.d=cA l:=rfl
def gA4 (k:Nat) (l:List Rat):A:=if l=[] then .d (.z true) else .own [k] l.length
def gH4 (k:Nat) (l:List Rat):List (Key×Obj):=if l=[] then [] else [([k],arrR l.length l)]
theorem Qhc (k:Nat):gA4 k []=.d (.z true):=rfl
theorem Qg1 (k:Nat):gH4 k []=[]:=rfl
theorem Qkh {k:Nat} {l:List Rat} (h:l≠[]):gA4 k l=.own [k] l.length:=if_neg h
theorem Qkl {k:Nat} {l:List Rat} (h:l≠[]):gH4 k l=[([k],arrR l.length l)]:=if_neg h
theorem one_b (b:Bool):(D.v (.bool b)).one=true:=rfl
theorem gA4_one (k:Nat) (q:Rat):gA4 k [q]=.own [k] 1:=rfl
theorem gH4_one (k:Nat) (q:Rat):gH4 k [q]=[([k],arrR 1 [q])]:=rfl
theorem rep1c (a b c d:D):rep 1 [a,b,c,d]=[a,b,c,d]:=rfl
theorem QkD (k:Nat) (l:List Rat) (v:Rat):gA4 k (l++[v])=.own [k] (l.length+1):=by rw [Qkh (by simp)];simp
theorem QkH (k:Nat) (l:List Rat) (v:Rat):gH4 k (l++[v])=[([k],arrR (l.length+1) (l++[v]))]:=by rw [Qkl (by simp)];simp
def dR (l:List Rat):D:=if l=[] then .z true else rowR l
theorem dR_ok (l:List Rat):RwR (dR l) l:=by
 unfold dR;split
 ·rename_i h;exact .inl ⟨rfl,h⟩
 ·exact .inr rfl
def SzL (K:Nat) (l:List Rat):Prop:=∀ q∈l,sz q≤K
theorem SzL.getD {K:Nat} {l:List Rat} (h:SzL K l) (h1:1≤K) (j:Nat):sz (l.getD j 0)≤K:=by
 by_cases hj:j<l.length
 ·have:l.getD j 0=l[j]:=by rw [List.getD_eq_getElem?_getD,List.getElem?_eq_getElem hj];rfl
  rw [this];exact h _ (List.getElem_mem hj)
 ·rw [List.getD_eq_getElem?_getD,List.getElem?_eq_none (by omega)]
  show sz 0≤K
  rw [QpN];exact h1
theorem SzL.mono {K L:Nat} {l:List Rat} (h:SzL K l) (hk:K≤L):SzL L l:=fun q hq=>Nat.le_trans (h q hq) hk
end Go.AM

/- Rows of things of es cells (the general part of CvA, for seats without convex). -/
namespace Go.AM
open Go Go.RowKit
/-! ### Rows of things of es cells -/
section
variable {α:Type} {en:α→List D} {es:Nat}
def rowE (en:α→List D) (l:List α):D:=.row l.length (l.flatMap en)
def RwE (en:α→List D) (d:D) (l:List α):Prop:=(d=.z true∧l=[])∨d=rowE en l
def dE (en:α→List D) (l:List α):D:=if l=[] then .z true else rowE en l
theorem dE_ok (l:List α):RwE en (dE en l) l:=by
 unfold dE
 split
 ·rename_i h;exact .inl ⟨rfl,h⟩
 ·exact .inr rfl
theorem QnT (hE:∀ a,(en a).length=es):∀ l:List α,(l.flatMap en).length=l.length*es
 | []=>by simp
 | a :: l=>by rw [List.flatMap_cons,List.length_append,hE,QnT hE l,List.length_cons,Nat.succ_mul,Nat.add_comm]
theorem QlK (hE:∀ a,(en a).length=es):∀ (l:List α) (j:Nat),(l.flatMap en).drop (j*es)=(l.drop j).flatMap en
 | l,0=>by simp
 | [],j+1=>by simp
 | a :: l,j+1=>by
  rw [List.flatMap_cons,List.drop_succ_cons,← QlK hE l j,Nat.succ_mul,Nat.add_comm,← List.drop_drop]
  rw [List.drop_left' (hE a)]
theorem RwE.len {d:D} {l:List α} (h:RwE en d l):lenA (.d d)=some l.length:=by
 rcases h with ⟨rfl,rfl⟩ | rfl<;>rfl
theorem RwE.ixa (hE:∀ a,(en a).length=es) {d:D} {l:List α} (hr:RwE en d l) {j:Nat} (h1:j<l.length) (h:Hp):ixaA h es (j:Int) (.d d)=some (.d (.rp ((l.drop j).flatMap en))):=by
 rcases hr with ⟨rfl,rfl⟩ | rfl
 ·simp at h1
 ·simp only [rowE,ixaA,guardO]
  rw [if_pos ⟨by omega,by omega⟩]
  simp only [Int.toNat_natCast]
  rw [QlK hE]
theorem Qo2 [Inhabited α]  {l:List α} {j:Nat} (h:j<l.length):l.drop j=l.getD j default :: l.drop (j+1):=by
 rw [List.drop_eq_getElem_cons h,List.getD_eq_getElem?_getD,List.getElem?_eq_getElem h,Option.getD_some]
theorem ldE [Inhabited α] (hE:∀ a,(en a).length=es) (h:Hp) {l:List α} {j:Nat} (h1:j<l.length):Qco h (some es) (.d (.rp ((l.drop j).flatMap en)))=some (.d (.agg (en (l.getD j default)))):=by
 rw [Qo2 h1,List.flatMap_cons]
 simp only [Qco,QjV,guardO]
 rw [if_pos (by rw [List.length_append,hE];omega)]
 have:(en (l.getD j default)++(l.drop (j+1)).flatMap en).take es=en (l.getD j default):=by
  rw [List.take_append_of_le_length (by rw [hE];omega),List.take_of_length_le (by rw [hE];omega)]
 rw [this]
def gAE (k:Nat) (l:List α):A:=if l=[] then .d (.z true) else .own [k] l.length
def arE (en:α→List D) (es n:Nat) (l:List α):Obj:=⟨es,n,(l.flatMap en).map .d,false⟩
def gHE (en:α→List D) (es k:Nat) (l:List α):List (Key×Obj):=if l=[] then [] else [([k],arE en es l.length l)]
theorem QdU (k:Nat):gAE k ([]:List α)=.d (.z true):=rfl
theorem QdP (k:Nat):gHE en es k []=[]:=rfl
theorem Qhu {k:Nat} {l:List α} (h:l≠[]):gAE k l=.own [k] l.length:=if_neg h
theorem Qhw {k:Nat} {l:List α} (h:l≠[]):gHE en es k l=[([k],arE en es l.length l)]:=if_neg h
theorem Qqe (k:Nat) (l:List α) (v:α):gAE k (l++[v])=.own [k] (l.length+1):=by rw [Qhu (by simp)];simp
theorem Qrl (k:Nat) (l:List α) (v:α):gHE en es k (l++[v])=[([k],arE en es (l.length+1) (l++[v]))]:=by rw [Qhw (by simp)];simp
theorem QeQ (ks:List Key):∀ cs:List D,Qdg ks (cs.map A.d)=true
 | []=>rfl
 | x :: r=>by rw [List.map_cons,Qdg,QeQ ks r];rfl
theorem Qmh (cs:List D):allD (cs.map A.d)=some cs:=Qhi cs
theorem lenE (hE:∀ a,(en a).length=es) (l:List α):((l.flatMap en).map A.d).length=l.length*es:=by rw [List.length_map,QnT hE]
end
end Go.AM

/- ref04.Same at equal numbers. -/
namespace Go.AM
open Go Go.RowKit

def bx2 (b:Bool) (l:List Int):Obj:=⟨0,0,[.d (.v (.bool b)),.d (dg l)],false⟩
theorem bself (b:Bool):(b==b)=true:=by cases b<;>rfl
variable [Its]

def QpI (b:Bool) (l:List Int) (i:Int):St:=mkS [(2,.ptr [2] 0),(3,.ptr [3] 0),(5,ai i)] [([2],bx2 b l),([3],bx2 b l)]
theorem s4_go {b:Bool} {l:List Int} (hl:l.length≤1000000000000) {i:Nat} (hi:i<l.length):X G QaG (QpI b l i)=some (.n,QpI b l ((i+1:Nat):Int)):=by
 have e1:decide ((i:Int)<(l.length:Int))=true:=lt_t (by omega)
 have e2:w64 ((i:Int)+1)=((i+1:Nat):Int):=by rw [Qae (by omega) (by omega)];rfl
 have x1:=(Rw.dg l).ixn hi
 have x2:=fun h=>ldv h l hi
 have e3:(l.getD i 0 != l.getD i 0)=false:=bne_self_eq_false _
 simp -implicitDefEqProofs (maxSteps:=9^8) only [QaG,QpI,bx2,x1,x2,e1,e2,e3,go_sem,Qac,Qab,iv,bv,reduceCtorEq,↓reduceIte,Nat.reduceEqDiff]
theorem s4_stop {b:Bool} {l:List Int}:X G QaG (QpI b l (l.length:Nat))=some (.x 0,mkS [] []):=by
 have e1:decide ((l.length:Int)<(l.length:Int))=false:=lt_f (by omega)
 simp -implicitDefEqProofs (maxSteps:=9^8) only [QaG,QpI,bx2,e1,go_sem,Qac,Qab,iv,bv,reduceCtorEq,↓reduceIte,Nat.reduceEqDiff]
theorem s4_loop {b:Bool} {l:List Int} (hl:l.length≤1000000000000):∀ j i:Nat,i+j=l.length→X G (.loop QaG) (QpI b l i)=some (.x 0,mkS [] [])
 | 0,i,h=>by
  have:i=l.length:=by omega
  subst this
  rw [Qag,s4_stop];rfl
 | j+1,i,h=>by
  rw [Qag,s4_go hl (by omega),Option.bind_some,if_pos rfl]
  exact s4_loop hl j (i+1) (by omega)
theorem s4_refl {b:Bool} {l:List Int} (hl:l.length≤1000000000000):Qah G Qdm [.agg [.v (.bool b),dg l],.agg [.v (.bool b),dg l]]=some (.d (bv true)):=by
 rw [Qad (cf:=Qc6) rfl]
 have h:=s4_loop (b:=b) hl l.length 0 (by omega)
 have e1:((l.length:Int) != (l.length:Int))=false:=bne_self_eq_false _
 have e2:=bself b
 simp only [QpI,bx2,go_sem,nc0] at h
 simp -implicitDefEqProofs (maxSteps:=9^8) only [Qc6,h,e1,e2,go_sem,Qac,Qab,iv,bv,reduceCtorEq,↓reduceIte,Nat.reduceEqDiff]
end Go.AM

/- Rows of rationals; poly.Trim, slices.Clone, slices.Backward. -/
namespace Go.AM
open Go Go.RowKit

theorem cRs_one:∀ l:List Rat,(cRs l).all D.one=true
 | []=>rfl
 | q :: l=>by
  have h1:∀ m:List Int,(dg m).one=true:=fun m=>by cases m<;>rfl
  simp only [cRs,List.all_cons,cRs_one l,h1,Bool.and_true]
  rfl
theorem sgn0 (q:Rat):(Int.sign q.num==0)=decide (q=0):=by
 by_cases h:q=0
 ·subst h;rfl
 ·rw [decide_eq_false h]
  refine Qb9 fun hc=>h (Rat.num_eq_zero.1 (Int.sign_eq_zero_iff_zero.1 hc))

def cutR (l:List Rat):Nat→Nat
 | 0=>0
 | n+1=>if l.getD n 0=0 then cutR l n else n+1
def QcF (l:List Rat):List Rat:=l.take (cutR l l.length)
theorem Qj2 (l:List Rat):∀ n,cutR l n≤n
 | 0=>Nat.le_refl _
 | n+1=>by
  rw [cutR]
  split
  ·exact Nat.le_succ_of_le (Qj2 l n)
  ·exact Nat.le_refl _
theorem Qf2 (l:List Rat):(QcF l).length=cutR l l.length:=by
 rw [QcF,List.length_take]
 have:=Qj2 l l.length
 omega
theorem Qfw (l:List Rat):(QcF l).length≤l.length:=by rw [Qf2];exact Qj2 _ _
theorem rep_0 (zs:List D):rep 0 zs=[]:=rfl
variable [Its]

def clR (l:List Rat):R:=if false then .d (rowR l) else .own 4 l.length (cRs l)
theorem QkZ {l:List Rat} (hl:l.length*64≤140737488351232):Qah G QaR [rowR l]=some (clR l):=by
 rw [Qad (cf:=Qa3) rfl]
 have e1:=QeW l
 have e2:=cRs_one l
 have e3:l.length*64≤bound:=by unfold bound;omega
 unfold clR rowR
 generalize cRs l=cs at *
 simp -implicitDefEqProofs (maxSteps:=9^8) only [Qa3,isnA,appA,srcS,src,QnN,Qhi,Nat.zero_add,rep_0,List.map_nil,List.length_nil,List.nil_append,go_sem,iv,bv,e1,e2,e3,reduceCtorEq,↓reduceIte,Nat.reduceEqDiff]
theorem Qld:Qah G QaR [.z true]=some (.d (.z true)):=by
 rw [Qad (cf:=Qa3) rfl]
 simp -implicitDefEqProofs (maxSteps:=9^8) only [Qa3,isnA,go_sem,iv,bv,reduceCtorEq,↓reduceIte,Nat.reduceEqDiff]

def Qjd (d:D) (n:Int):St:=mkS [(0,.d d),(3,ai n)] []
theorem tr_go {d:D} {l:List Rat} (hr:RwR d l) {n:Nat} (hn:n<l.length) (hl:l.length*64≤140737488351232) (h0:l.getD n 0=0):X G Qcx (Qjd d ((n+1:Nat):Int))=some (.n,Qjd d (n:Int)):=by
 have e1:decide (((n+1:Nat):Int)>0)=true:=gt_t (by omega)
 have e2:w64 (((n+1:Nat):Int)-1)=(n:Int):=by rw [Qae (by omega) (by omega)];omega
 have e3:=hr.ixa hn
 have e4:=fun h=>ldR h l hn
 have g:=Qkj (l.getD n 0)
 have e5:(Int.sign (l.getD n 0).num==0)=true:=by rw [sgn0];exact decide_eq_true h0
 clear h0
 generalize ((n+1:Nat):Int)=n1 at *
 generalize l.getD n 0=q at *
 simp only [encR,iv] at e4 g
 simp -implicitDefEqProofs (maxSteps:=9^8) only [Qcx,Qjd,go_sem,iv,bv,e1,e2,e3,e4,e5,g,reduceCtorEq,↓reduceIte,Nat.reduceEqDiff]
theorem tr_stop {d:D} {l:List Rat} (hr:RwR d l) {n:Nat} (hn:n<l.length) (hl:l.length*64≤140737488351232) (h0:l.getD n 0≠0):X G Qcx (Qjd d ((n+1:Nat):Int))=some (.x 0,Qjd d ((n+1:Nat):Int)):=by
 have e1:decide (((n+1:Nat):Int)>0)=true:=gt_t (by omega)
 have e2:w64 (((n+1:Nat):Int)-1)=(n:Int):=by rw [Qae (by omega) (by omega)];omega
 have e3:=hr.ixa hn
 have e4:=fun h=>ldR h l hn
 have g:=Qkj (l.getD n 0)
 have e5:(Int.sign (l.getD n 0).num==0)=false:=by rw [sgn0];exact decide_eq_false h0
 clear h0
 generalize ((n+1:Nat):Int)=n1 at *
 generalize l.getD n 0=q at *
 simp only [encR,iv] at e4 g
 simp -implicitDefEqProofs (maxSteps:=9^8) only [Qcx,Qjd,go_sem,iv,bv,e1,e2,e3,e4,e5,g,reduceCtorEq,↓reduceIte,Nat.reduceEqDiff]
theorem tr_zero {d:D}:X G Qcx (Qjd d 0)=some (.x 0,Qjd d 0):=by
 have e1:decide ((0:Int)>0)=false:=rfl
 simp -implicitDefEqProofs (maxSteps:=9^8) only [Qcx,Qjd,go_sem,iv,bv,e1,reduceCtorEq,↓reduceIte,Nat.reduceEqDiff]
theorem tr_loop {d:D} {l:List Rat} (hr:RwR d l) (hl:l.length*64≤140737488351232):∀ n:Nat,n≤l.length→X G (.loop Qcx) (Qjd d (n:Int))=some (.x 0,Qjd d (cutR l n:Nat))
 | 0,_=>by
  rw [Qag]
  show (X G Qcx (Qjd d 0)).bind _=_
  rw [tr_zero];rfl
 | n+1,hn=>by
  rw [Qag,cutR]
  by_cases h0:l.getD n 0=0
  ·rw [tr_go hr (by omega) hl h0,Option.bind_some,if_pos rfl,if_pos h0]
   exact tr_loop hr hl n (by omega)
  ·rw [tr_stop hr (by omega) hl h0,if_neg h0];rfl

theorem Qf4 {d:D} {l:List Rat} (hr:RwR d l) (hl:l.length*64≤140737488351232):∃ d',RwR d' (QcF l)∧Qah G QeG [d]=some (.d d'):=by
 rw [Qad (cf:=QiS) rfl]
 have hl':=tr_loop hr hl l.length (Nat.le_refl _)
 have hc:=Qj2 l l.length
 have ll:=hr.len
 rcases hr with ⟨rfl,rfl⟩ | rfl
 ·have g:=Qld
  simp only [Qjd,List.length_nil,cutR,go_sem] at hl'
  refine ⟨.z true,.inl ⟨rfl,rfl⟩, ?_⟩
  simp -implicitDefEqProofs (maxSteps:=9^8) only [QiS,slcA,bnds,optI,go_sem,iv,bv,hl',g,ll,Int.le_refl,reduceCtorEq,↓reduceIte,Nat.reduceEqDiff]
 ·refine ⟨rowR (QcF l),.row _, ?_⟩
  have g:=QkZ (l:=QcF l) (by have:=Qfw l;omega)
  have e1:rowR (QcF l)=.row (cutR l l.length) ((cRs l).take (cutR l l.length*4)):=by rw [rowR,Qf2,QcF,QkK]
  rw [e1] at g ⊢
  unfold clR at g
  have e7:=Qf2 l
  have e8:cRs (QcF l)=(cRs l).take (cutR l l.length*4):=by rw [QcF,QkK]
  rw [e1,e7,e8] at g
  clear e1 e7 e8
  have e2:(((0:Int)≤0∧(0:Int)≤(cutR l l.length:Nat)∧((cutR l l.length:Nat):Int)≤(l.length:Nat)))=True:=eq_true ⟨by omega,by omega,by omega⟩
  have e3:((cutR l l.length:Nat):Int).toNat=cutR l l.length:=Int.toNat_natCast _
  have e5:((0:Int)≤(cutR l l.length:Nat))=True:=eq_true (by omega)
  have e6:(((cutR l l.length:Nat):Int)≤(l.length:Nat))=True:=eq_true (by omega)
  unfold rowR at *
  generalize cutR l l.length=c at *
  generalize cRs l=cs at *
  simp only [Qjd,go_sem] at hl'
  simp -implicitDefEqProofs (maxSteps:=9^8) only [QiS,slcA,bnds,optI,go_sem,iv,bv,hl',g,ll,e2,e3,e5,e6,Int.le_refl,and_self,reduceCtorEq,↓reduceIte,Nat.reduceEqDiff]

theorem QnJ {d:D} {l:List Rat} (hr:RwR d l):Qah G Qcs [d]=some (.d (.fn Qan [.rp [d]])):=by
 rw [Qad (cf:=Qba) rfl]
 rcases hr with ⟨rfl,rfl⟩ | rfl
 ·simp -implicitDefEqProofs (maxSteps:=9^8) only [Qba,go_sem,snap,Qdq,Qac,Qab,iv,bv,reduceCtorEq,↓reduceIte,Nat.reduceEqDiff]
 ·unfold rowR
  generalize cRs l=cs
  simp -implicitDefEqProofs (maxSteps:=9^8) only [Qba,go_sem,snap,Qdq,Qac,Qab,iv,bv,reduceCtorEq,↓reduceIte,Nat.reduceEqDiff]
end Go.AM

/- slices.Backward: what its iterator yields; poly.Eval. -/
namespace Go.AM
open Go Go.RowKit Go.Proofs

def C.one1:C→C
 | .seq a _=>a
 | .blk _ a=>a
 | .loop a=>a
 | c=>c
def C.two2:C→C
 | .seq _ b=>b
 | c=>c
def bkp (l:List Rat):List (Int×Rat):=(List.range l.length).map fun i=>(((l.length-1-i:Nat):Int),l.getD (l.length-1-i) 0)
def bk1 (p:Int×Rat):List D:=[iv p.1,encR p.2]
def bkw (l:List Rat):List (List D):=(bkp l).map bk1
theorem bkp_snd (l:List Rat):(bkp l).map Prod.snd=l.reverse:=by
 apply List.ext_getElem
 ·simp [bkp]
 ·intro i h1 h2
  simp only [bkp,List.map_map,List.getElem_map,List.getElem_range,Function.comp_apply,List.getElem_reverse]
  have h3:i<l.length:=by simpa [bkp] using h1
  rw [List.getD_eq_getElem?_getD,List.getElem?_eq_getElem (by omega)];rfl
def bw_T:C:=slices_Backward_api_Poly_api_Rat_1_l0.one1.one1
def bw_I:C:=.seq (.keep [0,1,3] []) slices_Backward_api_Poly_api_Rat_1_l0.one1.two2.two2
def Qrs:List O:=[⟨some 11,.mov (.t 0),none⟩,⟨some 12,.mov (.t 3),none⟩,⟨some 13,.load none (.t 1),none⟩,⟨some 14,.mov (.t 3),none⟩,⟨some 15,.ixa 4 (.t 13) (.t 14),none⟩,⟨some 16,.load (some 4) (.t 15),none⟩]
def Qnf:List O:=[⟨some 18,.un .not (.t 17),none⟩]
theorem bw_shape:slices_Backward_api_Poly_api_Rat_1.body.er=.seq slices_Backward_api_Poly_api_Rat_1.body.one1.er (.blk 0 (.loop (.seq bw_T.er (.seq (.blk 1 (.seq (.reg ((Qrs++⟨some 17,.calv (.t 11) [.t 12,.t 16],none⟩ :: Qnf).map O.er) []) (.cond (.t 18) .ret .skip))) bw_I.er)))):=rfl
theorem bw_ld (h:Hp) (sz:Option Nat) (cs:List D):Qco h sz (.d (.rp cs))=QjV sz cs:=rfl

def QmS (y:Nat) (d:D) (k:Int):St:=mkS [(0,.d (yv y)),(1,.d (.rp [d])),(3,ai k)] []
def QmT (y:Nat) (d:D) (k:Int):St:=mkS [(0,.d (yv y)),(1,.d (.rp [d])),(3,ai k),(8,ab true)] []
def Qm5 (y:Nat) (d:D) (k:Int) (rp q:List D):St:=⟨upd (upd (upd (upd (upd (upd (QmT y d k).fr 11 (.d (yv y))) 12 (ai k)) 13 (.d d)) 14 (ai k)) 15 (.d (.rp rp))) 16 (.d (.agg q)),(QmT y d k).hp,[]⟩
def QrY (y:Nat) (d:D) (k:Int) (rp q:List D) (t:Bool):St:=⟨upd (upd (Qm5 y d k rp q).fr 17 (.d (.v (.bool t)))) 18 (.d (.v (.bool !t))),(Qm5 y d k rp q).hp,[]⟩
def Rw4 (d:D) (n:Nat) (cs:List D):Prop:=(d=.z true∧n=0)∨(d=.row n cs∧cs.length=n*4)
theorem Rw4.len {d:D} {n:Nat} {cs:List D} (h:Rw4 d n cs):lenA (.d d)=some n:=by
 rcases h with ⟨rfl,rfl⟩ | ⟨rfl,_⟩<;>rfl
theorem Rw4.ixa {d:D} {n:Nat} {cs:List D} (hr:Rw4 d n cs) {j:Nat} (h1:j<n) (h:Hp):ixaA h 4 (j:Int) (.d d)=some (.d (.rp (cs.drop (j*4)))):=by
 rcases hr with ⟨rfl,rfl⟩ | ⟨rfl,_⟩
 ·omega
 ·simp only [ixaA,guardO]
  rw [if_pos ⟨by omega,by omega⟩,Int.toNat_natCast]
theorem Rw4.ld {d:D} {n:Nat} {cs:List D} (hr:Rw4 d n cs) {j:Nat} (h1:j<n) (h:Hp):Qco h (some 4) (.d (.rp (cs.drop (j*4))))=some (.d (.agg ((cs.drop (j*4)).take 4))):=by
 rcases hr with ⟨rfl,rfl⟩ | ⟨rfl,hl⟩
 ·omega
 ·show guardO (4≤(cs.drop (j*4)).length) (some (A.d (D.agg ((cs.drop (j*4)).take 4))))=_
  exact if_pos (by rw [List.length_drop];omega)
def bk4 (n:Nat) (cs:List D):List (List D):=(List.range n).map fun i=>[iv ((n-1-i:Nat):Int),.agg ((cs.drop ((n-1-i)*4)).take 4)]
theorem bk4_len (n:Nat) (cs:List D):(bk4 n cs).length=n:=by simp [bk4]
theorem RwR.four {d:D} {l:List Rat} (h:RwR d l):Rw4 d l.length (cRs l):=by
 rcases h with ⟨rfl,rfl⟩ | rfl
 ·exact .inl ⟨rfl,rfl⟩
 ·exact .inr ⟨rfl,QeW l⟩
theorem bk4_R (l:List Rat):bk4 l.length (cRs l)=bkw l:=by
 unfold bk4 bkw bkp
 rw [List.map_map]
 apply List.map_congr_left
 intro i hi
 have hi':=List.mem_range.1 hi
 have h1:l.length-1-i<l.length:=by omega
 rw [QkR]
 have e:l.drop (l.length-1-i)=l.getD (l.length-1-i) 0 :: l.drop (l.length-1-i+1):=by
  rw [List.drop_eq_getElem_cons h1,List.getD_eq_getElem?_getD,List.getElem?_eq_getElem h1];rfl
 rw [e]
 rfl


section
variable [Its]
theorem bw_start {y:Nat} {d:D} {n:Nat} {cs:List D} (hr:Rw4 d n cs) (hl:n≤140737488351232):X G slices_Backward_api_Poly_api_Rat_1.body.one1 ⟨argF 0 [yv y,.rp [d]],hp0,[]⟩=some (.n,QmS y d ((n:Int)-1)):=by
 have e1:w64 ((n:Int)-1)=(n:Int)-1:=Qae (by omega) (by omega)
 have ll:=hr.len
 simp -implicitDefEqProofs (maxSteps:=9^8) only [slices_Backward_api_Poly_api_Rat_1,C.one1,QmS,argF,yv,bw_ld,List.head?_cons,ll,go_sem,Qac,Qab,iv,bv,e1,reduceCtorEq,↓reduceIte,Nat.reduceEqDiff]
theorem bw_more {y:Nat} {d:D} {j:Nat}:X G bw_T (QmS y d (j:Int))=some (.n,QmT y d (j:Int)):=by
 have e1:decide ((j:Int)≥0)=true:=decide_eq_true (by omega)
 simp -implicitDefEqProofs (maxSteps:=9^8) only [bw_T,slices_Backward_api_Poly_api_Rat_1_l0,C.one1,C.two2,QmS,QmT,yv,e1,go_sem,Qac,Qab,iv,bv,reduceCtorEq,↓reduceIte,Nat.reduceEqDiff]
theorem bw_stop {y:Nat} {d:D}:X G bw_T (QmS y d (-1))=some (.x 0,mkS [] []):=by
 have e1:decide ((-1:Int)≥0)=false:=rfl
 simp -implicitDefEqProofs (maxSteps:=9^8) only [bw_T,slices_Backward_api_Poly_api_Rat_1_l0,C.one1,C.two2,QmS,QmT,yv,e1,go_sem,Qac,Qab,iv,bv,reduceCtorEq,↓reduceIte,Nat.reduceEqDiff]
theorem bw_p1 {y:Nat} {d:D} {n:Nat} {cs:List D} (hr:Rw4 d n cs) {j:Nat} (hj:j<n):exs (Qah G) Qrs (QmT y d (j:Int))=some (Qm5 y d (j:Int) (cs.drop (j*4)) ((cs.drop (j*4)).take 4)):=by
 have e3:=hr.ixa hj
 have e4:=hr.ld hj
 generalize (cs.drop (j*4)).take 4=q at *
 generalize cs.drop (j*4)=rp at *
 simp -implicitDefEqProofs (maxSteps:=9^8) only [Qrs,QmT,Qm5,encR,yv,go_sem,e3,e4,bw_ld,QjV,List.head?_cons,Qac,Qab,iv,bv,reduceCtorEq,↓reduceIte,Nat.reduceEqDiff]
theorem bw_p2 {y:Nat} {d:D} {k:Int} {rp q:List D} {t:Bool}:exs (Qah G) Qnf { Qm5 y d k rp q with fr:=upd (Qm5 y d k rp q).fr 17 (.d (.v (.bool t))) }=some (QrY y d k rp q t):=by
 simp -implicitDefEqProofs (maxSteps:=9^8) only [Qnf,QmT,Qm5,QrY,encR,yv,go_sem,Qac,Qab,iv,bv,reduceCtorEq,↓reduceIte,Nat.reduceEqDiff]
theorem bw_inc {y:Nat} {d:D} {j:Nat} {rp q:List D} (hj:j≤140737488351232):X G bw_I (QrY y d (j:Int) rp q true)=some (.n,QmS y d ((j:Int)-1)):=by
 have e1:w64 ((j:Int)-1)=(j:Int)-1:=Qae (by omega) (by omega)
 simp -implicitDefEqProofs (maxSteps:=9^8) only [bw_I,slices_Backward_api_Poly_api_Rat_1_l0,C.one1,C.two2,QmS,QmT,Qm5,QrY,encR,yv,go_sem,e1,Qac,Qab,iv,bv,reduceCtorEq,↓reduceIte,Nat.reduceEqDiff]

end

theorem bw_walk {d:D} {n:Nat} {cs:List D} (hr:Rw4 d n cs) (hl:n≤140737488351232) {N n' y:Nat} {S:Nat→Prop} {w0:World} {J Jx:Held} {ac:Act} {W:World} (hab:Qm1   w0 J) (habx:Qm1   w0 Jx) (hans:QpC     Tryz.prog n' S w0 y J Jx (bk4 n cs))
    (hI:Inv S w0 N J ⟨argF 0 [yv y,.rp [d]],hp0,[]⟩ 0 ac W) :
    WY Tryz.prog N (n'+1) slices_Backward_api_Poly_api_Rat_1.body.er (fun e' a' W'=>(∀ id,e'≠.x id)∧((∃ st,Inv S w0 N J st (bk4 n cs).length a' W')∨∃ st i,Inv S w0 N Jx st i a' W')) ac W:=by
  letI:=noIts
  have hE:EnvOk Tryz.prog G:=env_ok0
  rw [bw_shape]
  refine WY.seq ?_
  refine Inv.code hE hab hI rfl rfl (bw_start hr hl) ?_
  intro a1 W1 I1
  simp only [↓reduceIte]
  refine WY.blk ?_
  refine WY.loop (j:=n) (fun j a' w'=>∃ i,i≤n∧j=n-i∧Inv S w0 N J (QmS y d (((n-i:Nat):Int)-1)) i a' w') ⟨0,by omega,by omega, ?_⟩ ?_
  · rw [Nat.sub_zero]
    exact I1
  · rintro j a2 W2 ⟨i,hi,rfl,I2⟩
    refine WY.seq ?_
    by_cases hin:i<n
    · obtain ⟨k,hk⟩:∃ k,k=n-1-i:=⟨_,rfl⟩
      have ek:((n-i:Nat):Int)-1=(k:Int):=by omega
      rw [ek] at I2
      have hkl:k<n:=by omega
      refine Inv.code hE hab I2 rfl rfl bw_more ?_
      intro a3 W3 I3
      simp only [↓reduceIte]
      refine WY.seq (WY.blk (WY.seq ?_))
      refine Inv.yield hE hab habx hans I3 (pre:=Qrs) (post:=Qnf) (d:=17) (ty:=11) (es:=[.t 12,.t 16]) (s1:=Qm5 y d (k:Int) (cs.drop (k*4)) ((cs.drop (k*4)).take 4)) (x:=[iv (k:Int),.agg ((cs.drop (k*4)).take 4)]) (rt:=QrY y d (k:Int) (cs.drop (k*4)) ((cs.drop (k*4)).take 4) true) (rf:=QrY y d (k:Int) (cs.drop (k*4)) ((cs.drop (k*4)).take 4) false) (bw_p1 hr hkl) rfl rfl ?_ bw_p2 bw_p2 ?_ ?_
      · rw [bk4,List.getElem?_map,List.getElem?_range hin,hk];rfl
      · intro a4 W4 I4
        simp only [↓reduceIte]
        refine WY.cond (t:=false) (I4.bool rfl) (fun h=>by cases h) (fun _=>WY.skip ?_)
        simp only [↓reduceIte]
        refine Inv.code hE hab I4 rfl rfl (bw_inc (by omega)) ?_
        intro a6 W6 I6
        simp only [↓reduceIte]
        refine ⟨n-(i+1),by omega,i+1,by omega,rfl, ?_⟩
        rw [show ((n-(i+1):Nat):Int)-1=(k:Int)-1 by omega]
        exact I6
      · intro a4 W4 I4
        simp only [↓reduceIte]
        refine WY.cond (t:=true) (I4.bool rfl) (fun _=>WY.ret ?_) (fun h=>by cases h)
        simp only [reduceCtorEq,↓reduceIte]
        exact ⟨fun _ h=>(by cases h),.inr ⟨_,_,I4⟩⟩
    · have:i=n:=by omega
      subst this
      rw [Nat.sub_self] at I2
      refine Inv.code hE hab I2 rfl rfl bw_stop ?_
      intro a3 W3 I3
      simp only [reduceCtorEq,↓reduceIte]
      exact ⟨fun _ h=>(by cases h),.inl ⟨_,by rw [bk4_len];exact I3⟩⟩

theorem Qln {d:D} {n:Nat} {cs:List D} (hr:Rw4 d n cs) (hl:n≤140737488351232):ItOk Tryz.prog Qan [.rp [d]] (bk4 n cs):=by
 refine it_ok (Γ:=@G noIts) env_ok0 (cf:=slices_Backward_api_Poly_api_Rat_1) Tryz.func101 Qce ?_ rfl rfl ?_
 ·intro b hb
  have:(Tryz.f101.body.map okY)=some true:=by kernel_rfl
  rw [hb] at this
  simpa using this
 ·intro n' y S w0 J Jx ac W hab habx hans hI
  exact bw_walk hr hl hab habx hans hI

def QoU:List D→Option (List (List D))
 | [.rp [.z true]]=>some []
 | [.rp [.row n cs]]=>if cs.length=n*4∧n≤140737488351232 then some (bk4 n cs) else none
 | _=>none
theorem itBack_ok {ds:List D} {xs:List (List D)} (h:QoU ds=some xs):ItOk Tryz.prog Qan ds xs:=by
  unfold QoU at h
  split at h
  · cases h
    exact Qln (n:=0) (cs:=[]) (.inl ⟨rfl,rfl⟩) (by omega)
  · split at h
    · rename_i hc
      cases h
      exact Qln (.inr ⟨rfl,hc.1⟩) hc.2
    · cases h
  · cases h
class ItsB [Its]:Prop where
 back:∀ ds,Its.it Qan ds=QoU ds
theorem its_back [Its] [ItsB] {d:D} {l:List Rat} (h:RwR d l) (hl:l.length≤140737488351232):Its.it Qan [.rp [d]]=some (bkw l):=by
 rw [ItsB.back,← bk4_R]
 rcases h with ⟨rfl,rfl⟩ | rfl
 ·rfl
 ·exact if_pos ⟨QeW l,hl⟩

def evR (l:List Rat) (x:Rat):Rat:=l.foldr (fun a s=>s*x+a) 0
theorem QdI (a:Rat) (l:List Rat) (x:Rat):evR (a :: l) x=evR l x*x+a:=rfl
theorem evR_bk (l:List Rat) (x:Rat):(bkp l).foldl (fun s p=>s*x+p.2) 0=evR l x:=by
 have h:∀ (ps:List (Int×Rat)) (s:Rat),ps.foldl (fun s p=>s*x+p.2) s=(ps.map Prod.snd).foldl (fun s a=>s*x+a) s:=by
  intro ps
  induction ps with
  | nil=>intro s;rfl
  | cons p ps ih=>intro s;exact ih _
 rw [h,bkp_snd,List.foldl_reverse]
 rfl
def ev_fr:Fr:=frL [(3,.ptr [3] 0),(4,.ptr [4] 0),(5,.ptr [5] 0)]
def ev_hp (x s:Rat):Hp:=hpL [([3],boxR x),([4],Ql2),([5],boxR s)]
variable [Its]

theorem Qn6       {x:Rat} {K:Nat} (hK:sz x≤K) (hK2:K≤1000000000):∀ (ps:List (Int×Rat)) (s:Rat),(∀ p∈ps,sz p.2≤K)→sz s+ps.length*(2*K+1)≤50000000000 →
    Qex (X G) [10,11] poly_Eval_a0 poly_Eval_b0 ev_fr [] (ps.map bk1) (ev_hp x s)=some (.n,⟨ev_fr,ev_hp x (ps.foldl (fun s p=>s*x+p.2) s),[]⟩)
  | [],s,_,_=>rfl
  | p :: ps,s,hp,hs=>by
    have h1:(p :: ps).length*(2*K+1)=ps.length*(2*K+1)+(2*K+1):=by rw [List.length_cons,Nat.succ_mul]
    have h2:=hp p (List.mem_cons_self ..)
    have g1:=Qec (a:=s) (b:=x) (by omega) (by omega)
    have k1:=Qma (a:=s) (b:=x)
    have g2:=Qg4 (a:=s*x) (b:=p.2) (by omega) (by omega)
    have k2:=sz_add (a:=s*x) (b:=p.2)
    have ih:=Qn6 hK hK2 ps (s*x+p.2) (fun q hq=>hp q (List.mem_cons_of_mem _ hq)) (by omega)
    rw [List.map_cons,List.foldl_cons,← ih]
    clear ih hp
    generalize s*x+p.2=r at *
    generalize s*x=sx at *
    obtain ⟨k,q⟩:=p
    unfold bk1
    simp only at g2 ⊢
    generalize List.map _ ps=XS
    simp only [encR] at g1 g2
    simp -implicitDefEqProofs (maxSteps:=9^8) only [Qex,poly_Eval_a0,poly_Eval_b0,ev_fr,ev_hp,boxR,encR,Ql2,putL,go_sem,Qac,Qab,iv,bv,g1,g2,reduceCtorEq,↓reduceIte,Nat.reduceEqDiff]
theorem Eval_spec [ItsB] {d:D} {l:List Rat} {x:Rat} {K:Nat} (hr:RwR d l) (hK:sz x≤K) (hK2:K≤1000000000) (hl:∀ q∈l,sz q≤K) (hn:l.length*(2*K+1)≤40000000000):Qah G QlB [d,encR x]=some (.d (encR (evR l x))):=by
 rw [Qad (cf:=QlV) rfl]
 have g1:=QnJ hr
 have hn':l.length≤l.length*(2*K+1):=Nat.le_mul_of_pos_right _ (by omega)
 have hit:(G).it Qan [.rp [d]]=some (bkw l):=its_back hr (by omega)
 have hp:(bkp l).length=l.length:=by simp [bkp]
 have hrd:=Qn6 hK hK2 (bkp l) 0 (fun p hp'=>by
  have:p.2∈(bkp l).map Prod.snd:=List.mem_map_of_mem hp'
  rw [bkp_snd] at this
  exact hl _ (List.mem_reverse.1 this)) (by rw [hp,QpN];omega)
 rw [evR_bk] at hrd
 have e1:(bkp l).map bk1=bkw l:=rfl
 rw [e1] at hrd
 have hA:poly_Eval_a0.holds [[3],[4],[5]]=true:=rfl
 have hB:poly_Eval_b0.holds [[3],[4],[5]]=true:=rfl
 have e0:boxR 0=Ql2:=by
  have ez:decide ((0:Rat).num<0)=false:=rfl
  have ez2:dg (digs (0:Rat).num.natAbs)=.z true:=by rw [Rat.zero_num,show (0:Int).natAbs=0 from rfl,Qav];rfl
  have ez3:dg (dd (0:Rat).den)=.z true:=rfl
  rw [boxR,ez,ez2,ez3];rfl
 rw [ev_hp,e0] at hrd
 clear hp e1 hn e0
 generalize bkw l=XS at *
 generalize evR l x=v at *
 simp only [ev_fr,ev_hp,boxR,Ql2,go_sem] at hrd
 simp -implicitDefEqProofs (maxSteps:=9^8) only [QlV,X_rfn,QmA,hA,hB,hit,hrd,encR,go_sem,Qac,Qab,iv,bv,g1,reduceCtorEq,↓reduceIte,Nat.reduceEqDiff]
end Go.AM

