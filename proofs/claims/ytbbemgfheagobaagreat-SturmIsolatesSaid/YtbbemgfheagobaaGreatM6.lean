/- Part 6 of the proof: a small machine, its soundness against the model, and what the program's functions compute on it. -/
import Derived.Test.YtbbemgfheagobaaGreatM5
set_option linter.unusedVariables false
set_option linter.unusedSimpArgs false
/- integer.plus -/
namespace Go.AM
open Go Go.RowKit
variable [Its]

section
variable (da db:D) (a b:List Int)
def Qgs (out:List Int) (c i:Int):St :=
  ⟨upd (upd (upd (upd (upd (upd (upd fr0 23 (.d (.v (.int .i64 i)))) 22 (.d (.v (.int .i64 a.length)))) 21 (.d da)) 6 (.d (.v (.int .i64 c)))) 5 (.own [20] (a.length+1))) 1 (.d db)) 0 (.d da),
   hupd hp0 [20] ⟨1,a.length+1,Qbw out,false⟩,[]⟩
def Qki (out:List Int) (c:Int):St :=
 ⟨upd (upd (upd fr0 6 (.d (.v (.int .i64 c)))) 5 (.own [20] (a.length+1))) 0 (.d da),hupd hp0 [20] ⟨1,a.length+1,Qbw out,false⟩,[]⟩

theorem plus_stop (out:List Int) (c:Int):X G Qbz (Qgs da db a out c a.length)=some (.x 0,Qki da a out c):=by
 have e1:decide ((a.length:Int)<(a.length:Int))=false:=lt_f (by omega)
 simp -implicitDefEqProofs (maxSteps:=9^8) only [Qbz,Qgs,Qki,go_sem,iv,bv,e1,Qal,reduceCtorEq,↓reduceIte,Nat.reduceEqDiff]

theorem plus_go (hra:Rw da a) (hrb:Rw db b) (ha:Dig a) (hb:Dig b) (hl:a.length<4611686018427387904) (hlb:b.length≤a.length) (out:List Int) (c:Int) (i:Nat) (hc:0≤c∧c≤1) (hi:i<a.length) (ho:out.length=a.length+1) :
    ∃ d c',(0≤d∧d<1000000000)∧(0≤c'∧c'≤1)∧d+1000000000*c'=a.getD i 0+b.getD i 0+c∧X G Qbz (Qgs da db a out c i)=some (.n,Qgs da db a (out.set i d) c' ((i+1:Nat):Int)):=by
  obtain ⟨a1,a2⟩:=ha.getD i
  obtain ⟨b1,b2⟩:=hb.getD i
  have e1:decide ((i:Int)<(a.length:Int))=true:=lt_t (by omega)
  have e2:=hra.ixn (j:=i) (by omega)
  have e3:=fun hp=>ldv hp a (j:=i) (by omega)
  have e4:w64 (a.getD i 0+c)=a.getD i 0+c:=Qae (by omega) (by omega)
  have e9:w64 ((i:Int)+1)=((i+1:Nat):Int):=by rw [Qae (by omega) (by omega)];omega
  have g1:(0:Int)≤(i:Int)∧(i:Int)<((a.length+1:Nat):Int):=by omega
  have g2:=fun v=>Qbu (l:=out) (off:=i) (v:=v) (by omega)
  by_cases h1:i<b.length
  · have f1:decide ((i:Int)<(b.length:Int))=true:=lt_t (by omega)
    have f2:=hrb.ixn (j:=i) (by omega)
    have f3:=fun hp=>ldv hp b (j:=i) (by omega)
    have f4:w64 (a.getD i 0+c+b.getD i 0)=a.getD i 0+c+b.getD i 0:=Qae (by omega) (by omega)
    by_cases h2:a.getD i 0+c+b.getD i 0≥1000000000
    · have k1:decide (a.getD i 0+c+b.getD i 0≥1000000000)=true:=ge_t h2
      have k2:w64 (a.getD i 0+c+b.getD i 0-1000000000)=a.getD i 0+c+b.getD i 0-1000000000:=Qae (by omega) (by omega)
      refine ⟨a.getD i 0+c+b.getD i 0-1000000000,1,by omega,by omega,by omega, ?_⟩
      simp -implicitDefEqProofs (maxSteps:=9^8) only [Qbz,Qgs,go_sem,iv,bv,e1,e2,e3,e4,e9,f1,f2,f3,f4,k1,k2,g1,g2,hra.len,hrb.len,allD,Qal,Qak,QbV,reduceCtorEq,↓reduceIte,Nat.reduceEqDiff]
    · have k1:decide (a.getD i 0+c+b.getD i 0≥1000000000)=false:=ge_f h2
      refine ⟨a.getD i 0+c+b.getD i 0,0,by omega,by omega,by omega, ?_⟩
      simp -implicitDefEqProofs (maxSteps:=9^8) only [Qbz,Qgs,go_sem,iv,bv,e1,e2,e3,e4,e9,f1,f2,f3,f4,k1,g1,g2,hra.len,hrb.len,allD,Qal,Qak,QbV,reduceCtorEq,↓reduceIte,Nat.reduceEqDiff]
  · have f1:decide ((i:Int)<(b.length:Int))=false:=lt_f (by omega)
    have f3:b.getD i 0=0:=by rw [List.getD_eq_getElem?_getD,List.getElem?_eq_none (by omega)];rfl
    by_cases h2:a.getD i 0+c≥1000000000
    · have k1:decide (a.getD i 0+c≥1000000000)=true:=ge_t h2
      have k2:w64 (a.getD i 0+c-1000000000)=a.getD i 0+c-1000000000:=Qae (by omega) (by omega)
      refine ⟨a.getD i 0+c-1000000000,1,by omega,by omega,by omega, ?_⟩
      simp -implicitDefEqProofs (maxSteps:=9^8) only [Qbz,Qgs,go_sem,iv,bv,e1,e2,e3,e4,e9,f1,k1,k2,g1,g2,hra.len,hrb.len,allD,Qal,Qak,QbV,reduceCtorEq,↓reduceIte,Nat.reduceEqDiff]
    · have k1:decide (a.getD i 0+c≥1000000000)=false:=ge_f h2
      refine ⟨a.getD i 0+c,0,by omega,by omega,by omega, ?_⟩
      simp -implicitDefEqProofs (maxSteps:=9^8) only [Qbz,Qgs,go_sem,iv,bv,e1,e2,e3,e4,e9,f1,k1,g1,g2,hra.len,hrb.len,allD,Qal,Qak,QbV,reduceCtorEq,↓reduceIte,Nat.reduceEqDiff]

theorem Qm9       (hra:Rw da a) (hrb:Rw db b) (ha:Dig a) (hb:Dig b) (hl:a.length<4611686018427387904) (hlb:b.length≤a.length):∀ (k i:Nat) (out:List Int) (c:Int),i+k=a.length→(0≤c∧c≤1)→out.length=a.length+1→Dig out→out.getD a.length 0=0 →
    val (out.take i)+(1000000000:Int)^i*c=val (a.take i)+val (b.take i) →
    ∃ out' c',X G (.loop Qbz) (Qgs da db a out c i)=some (.x 0,Qki da a out' c')∧(0≤c'∧c'≤1)∧out'.length=a.length+1∧Dig out'∧out'.getD a.length 0=0∧val (out'.take a.length)+(1000000000:Int)^a.length*c'=val a+val b
  | 0,i,out,c,hi,hc,ho,hd,hz,hv=>by
    obtain rfl:i=a.length:=by omega
    refine ⟨out,c, ?_,hc,ho,hd,hz, ?_⟩
    · rw [Qai,plus_stop];rfl
    · rw [hv,List.take_length,List.take_of_length_le hlb]
  | k+1,i,out,c,hi,hc,ho,hd,hz,hv=>by
    obtain ⟨d,c',hd',hc',hs,hx⟩:=plus_go da db a b hra hrb ha hb hl hlb out c i hc (by omega) ho
    obtain ⟨out',c2,h1,h2⟩:=Qm9 hra hrb ha hb hl hlb k (i+1) (out.set i d) c' (by omega) hc' (by simpa using ho) (hd.set hd') (by rw [Qbd d (by omega)];exact hz) (by
      rw [Qfx d (by omega),Qas a,Qas b,Int.pow_succ]
      grind)
    refine ⟨out',c2, ?_,h2⟩
    rw [Qai,hx]
    exact h1
end

theorem plus_ord {da db:D} {a b:List Int} (hra:Rw da a) (hrb:Rw db b) (ha:Dig a) (hb:Dig b) (hl:(a.length+1)*8≤140737488351232) (hlb:b.length≤a.length) :
    ∃ out,Qah G Qd6 [da,db]=some (.own 1 (a.length+1) (out.map iv))∧out.length=a.length+1∧Dig out∧val out=val a+val b:=by
  obtain ⟨out,c,h1,h2,h3,h4,h5,h6⟩:=Qm9 da db a b hra hrb ha hb (by omega) hlb a.length 0 (List.replicate (a.length+1) 0) 0 (by omega) (by omega) (by simp) (Dig.replicate _) (by simp [List.getD]) (by simp [val])
  refine ⟨out.set a.length c, ?_,by simpa using h3,h4.set (by omega), ?_⟩
  · rw [Qad (cf:=QfA) rfl]
    simp only [Qgs,Qki,nc0] at h1
    have e1:decide ((a.length:Int)<(b.length:Int))=false:=lt_f (by omega)
    have e2:w64 ((a.length:Int)+1)=((a.length+1:Nat):Int):=by rw [Qae (by omega) (by omega)];omega
    have e3:(0:Int)≤((a.length+1:Nat):Int)∧((a.length+1:Nat):Int)*((8:Nat):Int)≤((bound:Nat):Int):=by simp only [bound];omega
    have e4:(0:Int)≤((a.length:Nat):Int)∧(a.length:Int)<((a.length+1:Nat):Int):=by omega
    have g2:=fun v=>Qbu (l:=out) (off:=a.length) (v:=v) (by omega)
    simp -implicitDefEqProofs (maxSteps:=9^8) only [QfA,go_sem,iv,bv,h1,e1,e2,e3,e4,g2,Qk2,hra.len,hrb.len,Qal,Qak,QbV,reduceCtorEq,↓reduceIte,Nat.reduceEqDiff]
  · have:=Qfx c (l:=out) (i:=a.length) (by omega)
    rw [List.take_of_length_le (by simp;omega)] at this
    rw [this];exact h6
theorem plus_swap {da db:D} {a b:List Int} (hra:Rw da a) (hrb:Rw db b) (ha:Dig a) (hb:Dig b) (hl:(a.length+1)*8≤140737488351232) (hlb:b.length<a.length) :
    ∃ out,Qah G Qd6 [db,da]=some (.own 1 (a.length+1) (out.map iv))∧out.length=a.length+1∧Dig out∧val out=val a+val b:=by
  obtain ⟨out,c,h1,h2,h3,h4,h5,h6⟩:=Qm9 da db a b hra hrb ha hb (by omega) (by omega) a.length 0 (List.replicate (a.length+1) 0) 0 (by omega) (by omega) (by simp) (Dig.replicate _) (by simp [List.getD]) (by simp [val])
  refine ⟨out.set a.length c, ?_,by simpa using h3,h4.set (by omega), ?_⟩
  · rw [Qad (cf:=QfA) rfl]
    simp only [Qgs,Qki,nc0] at h1
    have e1:decide ((b.length:Int)<(a.length:Int))=true:=lt_t (by omega)
    have e2:w64 ((a.length:Int)+1)=((a.length+1:Nat):Int):=by rw [Qae (by omega) (by omega)];omega
    have e3:(0:Int)≤((a.length+1:Nat):Int)∧((a.length+1:Nat):Int)*((8:Nat):Int)≤((bound:Nat):Int):=by simp only [bound];omega
    have e4:(0:Int)≤((a.length:Nat):Int)∧(a.length:Int)<((a.length+1:Nat):Int):=by omega
    have g2:=fun v=>Qbu (l:=out) (off:=a.length) (v:=v) (by omega)
    simp -implicitDefEqProofs (maxSteps:=9^8) only [QfA,go_sem,iv,bv,h1,e1,e2,e3,e4,g2,Qk2,hra.len,hrb.len,Qal,Qak,QbV,reduceCtorEq,↓reduceIte,Nat.reduceEqDiff]
  · have:=Qfx c (l:=out) (i:=a.length) (by omega)
    rw [List.take_of_length_le (by simp;omega)] at this
    rw [this];exact h6
theorem Qo8       {da db:D} {a b:List Int} (hra:Rw da a) (hrb:Rw db b) (ha:Dig a) (hb:Dig b) (hl:(max a.length b.length+1)*8≤140737488351232) :
    ∃ out,Qah G Qd6 [da,db]=some (.own 1 out.length (out.map iv))∧out.length=max a.length b.length+1∧Dig out∧val out=val a+val b:=by
  by_cases h:b.length≤a.length
  · obtain ⟨out,h1,h2,h3,h4⟩:=plus_ord hra hrb ha hb (by omega) h
    exact ⟨out,by rw [h2];exact h1,by omega,h3,h4⟩
  · obtain ⟨out,h1,h2,h3,h4⟩:=plus_swap hrb hra hb ha (by omega) (by omega)
    exact ⟨out,by rw [h2];exact h1,by omega,h3,by omega⟩
end Go.AM

/- integer.minus -/
namespace Go.AM
open Go Go.RowKit
variable [Its]

section
variable (db:D) (b:List Int)
def Qeb (out:List Int) (i:Int):St :=
  ⟨upd (upd (upd (upd fr0 15 (.d (.v (.int .i64 i)))) 14 (.d (.v (.int .i64 out.length)))) 5 (.own [9] out.length)) 1 (.d db),
   hupd hp0 [9] ⟨1,out.length,Qbw out,false⟩,[]⟩
def QjU (out:List Int):St:=⟨upd fr0 5 (.own [9] out.length),hupd hp0 [9] ⟨1,out.length,Qbw out,false⟩,[]⟩

theorem Qt1 (out:List Int):X G Qbe (Qeb db out out.length)=some (.x 0,QjU out):=by
 have e1:decide ((out.length:Int)<(out.length:Int))=false:=lt_f (by omega)
 simp -implicitDefEqProofs (maxSteps:=9^8) only [Qbe,Qeb,QjU,go_sem,iv,bv,e1,Qal,reduceCtorEq,↓reduceIte,Nat.reduceEqDiff]

theorem QrB         (hr:Rw db b) (hb:Dig b) (out:List Int) (i:Nat) (hl:out.length<4611686018427387904) (hi:i<out.length) (ho:-1≤out.getD i 0∧out.getD i 0<1000000000) (hge:0≤out.getD i 0-b.getD i 0) :
    X G Qbe (Qeb db out i)=some (.n,Qeb db (out.set i (out.getD i 0-b.getD i 0)) ((i+1:Nat):Int)):=by
  obtain ⟨b1,b2⟩:=hb.getD i
  have e1:decide ((i:Int)<(out.length:Int))=true:=lt_t (by omega)
  have e9:w64 ((i:Int)+1)=((i+1:Nat):Int):=by rw [Qae (by omega) (by omega)];omega
  have g1:(0:Int)≤(i:Int)∧(i:Int)<(out.length:Int):=by omega
  have g2:=fun v=>Qbu (l:=out) (off:=i) (v:=v) hi
  have g3:=Qb7 (l:=out) (off:=i) hi
  have g4:Qab none i (Qbw (out.set i (out.getD i 0-b.getD i 0)))=some (.d (.v (.int .i64 (out.getD i 0-b.getD i 0)))):=by
    rw [Qb7 (by simpa using hi)]
    simp [List.getD,hi]
  have e4:w64 (out.getD i 0-b.getD i 0)=out.getD i 0-b.getD i 0:=Qae (by omega) (by omega)
  have e5:decide (out.getD i 0-b.getD i 0<0)=false:=lt_f (by omega)
  by_cases h1:i<b.length
  · have f1:decide ((i:Int)<(b.length:Int))=true:=lt_t (by omega)
    have f2:=hr.ixn (j:=i) (by omega)
    have f3:=fun hp=>ldv hp b (j:=i) (by omega)
    simp -implicitDefEqProofs (maxSteps:=9^8) only [Qbe,Qeb,go_sem,iv,bv,e1,e4,e5,e9,f1,f2,f3,g1,g2,g3,g4,hr.len,Qal,Qak,QbV,allD,List.length_set,reduceCtorEq,↓reduceIte,Nat.reduceEqDiff]
  · have f1:decide ((i:Int)<(b.length:Int))=false:=lt_f (by omega)
    have f3:b.getD i 0=0:=by rw [List.getD_eq_getElem?_getD,List.getElem?_eq_none (by omega)];rfl
    have e6:out.set i (out.getD i 0-b.getD i 0)=out:=by
      rw [f3,Int.sub_zero]
      apply List.ext_getElem?
      intro j
      rw [List.getElem?_set]
      split
      · rename_i h;subst h;simp [List.getD,hi]
      · rfl
    have e5:decide (out.getD i 0<0)=false:=lt_f (by omega)
    rw [e6]
    simp -implicitDefEqProofs (maxSteps:=9^8) only [Qbe,Qeb,go_sem,iv,bv,e1,e5,e9,f1,g1,g2,g3,hr.len,Qal,Qak,QbV,allD,reduceCtorEq,↓reduceIte,Nat.reduceEqDiff]

theorem QtB        (hr:Rw db b) (hb:Dig b) (out:List Int) (i:Nat) (hl:out.length<4611686018427387904) (hi:i+1<out.length) (ho:-1≤out.getD i 0∧out.getD i 0<1000000000) (hn:0≤out.getD (i+1) 0∧out.getD (i+1) 0<1000000000) (hlt:out.getD i 0-b.getD i 0<0) :
    X G Qbe (Qeb db out i)=some (.n,Qeb db ((out.set i (out.getD i 0-b.getD i 0+1000000000)).set (i+1) (out.getD (i+1) 0-1)) ((i+1:Nat):Int)):=by
  obtain ⟨b1,b2⟩:=hb.getD i
  have e1:decide ((i:Int)<(out.length:Int))=true:=lt_t (by omega)
  have e9:w64 ((i:Int)+1)=((i+1:Nat):Int):=by rw [Qae (by omega) (by omega)];omega
  have g1:(0:Int)≤(i:Int)∧(i:Int)<(out.length:Int):=by omega
  have g1':(0:Int)≤((i+1:Nat):Int)∧((i+1:Nat):Int)<(out.length:Int):=by omega
  have g3:=Qb7 (l:=out) (off:=i) (by omega)
  have e4:w64 (out.getD i 0-b.getD i 0)=out.getD i 0-b.getD i 0:=Qae (by omega) (by omega)
  have e6:w64 (out.getD i 0-b.getD i 0+1000000000)=out.getD i 0-b.getD i 0+1000000000:=Qae (by omega) (by omega)
  have e7:w64 (out.getD (i+1) 0-1)=out.getD (i+1) 0-1:=Qae (by omega) (by omega)
  have g5:∀ v:Int,Qac i [A.d (.v (.int .i64 v))] (Qbw out)=some (Qbw (out.set i v)):=fun v=>Qbu (by omega)
  have g6:∀ v u:Int,Qac i [A.d (.v (.int .i64 v))] (Qbw (out.set i u))=some (Qbw (out.set i v)):=fun v u=>by
    rw [Qbu (by simp;omega),List.set_set]
  have g7:∀ u:Int,Qab none i (Qbw (out.set i u))=some (.d (.v (.int .i64 u))):=fun u=>by
    rw [Qb7 (by simp;omega)]
    simp [List.getD,(by omega:i<out.length)]
  have g8:∀ u:Int,Qab none (i+1) (Qbw (out.set i u))=some (.d (.v (.int .i64 (out.getD (i+1) 0)))):=fun u=>by
    rw [Qb7 (by simp;omega),Qbd u (by omega)]
  have g9:∀ v u:Int,Qac (i+1) [A.d (.v (.int .i64 v))] (Qbw (out.set i u))=some (Qbw ((out.set i u).set (i+1) v)):=fun v u=>Qbu (by simp;omega)
  by_cases h1:i<b.length
  · have f1:decide ((i:Int)<(b.length:Int))=true:=lt_t (by omega)
    have f2:=hr.ixn (j:=i) (by omega)
    have f3:=fun hp=>ldv hp b (j:=i) (by omega)
    have e5:decide (out.getD i 0-b.getD i 0<0)=true:=lt_t (by omega)
    simp -implicitDefEqProofs (maxSteps:=9^8) only [Qbe,Qeb,go_sem,iv,bv,e1,e4,e5,e6,e7,e9,f1,f2,f3,g1,g1',g3,g5,g6,g7,g8,g9,hr.len,Qal,Qak,QbV,allD,List.length_set,reduceCtorEq,↓reduceIte,Nat.reduceEqDiff]
  · have f1:decide ((i:Int)<(b.length:Int))=false:=lt_f (by omega)
    have f3:b.getD i 0=0:=by rw [List.getD_eq_getElem?_getD,List.getElem?_eq_none (by omega)];rfl
    rw [f3,Int.sub_zero] at e6 hlt ⊢
    have e5:decide (out.getD i 0<0)=true:=lt_t (by omega)
    simp -implicitDefEqProofs (maxSteps:=9^8) only [Qbe,Qeb,go_sem,iv,bv,e1,e5,e6,e7,e9,f1,g1,g1',g3,g5,g6,g7,g8,g9,hr.len,Qal,Qak,QbV,allD,List.length_set,reduceCtorEq,↓reduceIte,Nat.reduceEqDiff]

theorem QkN        (hr:Rw db b) (hb:Dig b) (a:Int) (hba:val b≤a):∀ (k i:Nat) (out:List Int),out.length<4611686018427387904→b.length≤out.length→i+k=out.length→Dig (out.take i)→(i<out.length→-1≤out.getD i 0∧out.getD i 0<1000000000)→Dig (out.drop (i+1)) →
    val out=a-val (b.take i)→∃ out',X G (.loop Qbe) (Qeb db out i)=some (.x 0,QjU out')∧out'.length=out.length∧Dig out'∧val out'=a-val b
  | 0,i,out,hl,hbl,hi,h1,h2,h3,hv=>by
    obtain rfl:i=out.length:=by omega
    refine ⟨out, ?_,rfl, ?_, ?_⟩
    · rw [Qai,Qt1];rfl
    · rw [List.take_length] at h1;exact h1
    · rw [hv,List.take_of_length_le hbl]
  | k+1,i,out,hl,hbl,hi,h1,h2,h3,hv=>by
    have hi':i<out.length:=by omega
    have ho:=h2 hi'
    obtain ⟨b1,b2⟩:=hb.getD i
    have hvb:val (b.take (i+1))=val (b.take i)+(1000000000:Int)^i*b.getD i 0:=Qas b i
    by_cases hge:0≤out.getD i 0-b.getD i 0
    · have hx:=QrB db b hr hb out i hl hi' ho hge
      obtain ⟨out',g1,g2,g3,g4⟩:=QkN hr hb a hba k (i+1) (out.set i (out.getD i 0-b.getD i 0)) (by simpa using hl) (by simpa using hbl) (by simp;omega)
        (by rw [Qks _ hi',Dig.append];exact ⟨h1,Dig.cons.2 ⟨by omega,.nil⟩⟩)
        (fun hlt=>by
          rw [Qbd _ (by omega)]
          have:=Qkp h3 (Nat.le_refl _)
          omega)
        (by rw [Qho         _ _ (by omega), show i + 1 + 1 = 1 + (i + 1) by omega, ← List.drop_drop]
            rw [List.drop_drop,show 1+(i+1)=(i+1)+1 by omega]
            have:=h3.drop 1
            rw [List.drop_drop] at this
            simpa [Nat.add_comm,Nat.add_left_comm] using this)
        (by rw [Qe8 _ _ _ hi',hv,hvb];grind)
      refine ⟨out', ?_,by simpa using g2,g3,g4⟩
      rw [Qai,hx]
      exact g1
    · -- a loan: there is a further place
      have hnext:i+1<out.length:=by
        rcases Nat.lt_or_ge (i+1) out.length with h | h
        · exact h
        · exfalso
          have hlen:out.length=i+1:=by omega
          have e1:val out=val (out.take i)+(1000000000:Int)^i*out.getD i 0:=by
            have:=Qas out i
            rw [List.take_of_length_le (by omega)] at this
            exact this
          have e2:=QfU h1
          rw [List.length_take,Nat.min_eq_left (by omega)] at e2
          have e3:=QqZ hb (i+1)
          have e4:(1000000000:Int)^i*(out.getD i 0-b.getD i 0)≤(1000000000:Int)^i*(-1):=Int.mul_le_mul_of_nonneg_left (by omega) (Int.pow_nonneg (by omega))
          grind
      have hnx:=Qkp h3 (Nat.le_refl _)
      have hx:=QtB db b hr hb out i hl hnext ho hnx (by omega)
      obtain ⟨out',g1,g2,g3,g4⟩:=QkN hr hb a hba k (i+1) ((out.set i (out.getD i 0-b.getD i 0+1000000000)).set (i+1) (out.getD (i+1) 0-1)) (by simpa using hl) (by simpa using hbl) (by simp;omega)
        (by rw [Ql8 _ _ (Nat.le_refl _),Qks _ hi',Dig.append];exact ⟨h1,Dig.cons.2 ⟨by omega,.nil⟩⟩)
        (fun hlt=>by
          have:((out.set i (out.getD i 0-b.getD i 0+1000000000)).set (i+1) (out.getD (i+1) 0-1)).getD (i+1) 0=out.getD (i+1) 0-1:=by
            simp [List.getD,hnext]
          rw [this];omega)
        (by rw [Qho         _ _ (by omega), Qho         _ _ (by omega)]
            have:=h3.drop 1
            rw [List.drop_drop] at this
            simpa [Nat.add_comm,Nat.add_left_comm] using this)
        (by
          rw [Qe8 _ _ _ (by simpa using hnext),Qbd _ (by omega),Qe8 _ _ _ hi',hv,hvb,Int.pow_succ]
          grind)
      refine ⟨out', ?_,by simpa using g2,g3,g4⟩
      rw [Qai,hx]
      exact g1
end

theorem QkZ        {da db:D} {a b:List Int} (hra:Rw da a) (hrb:Rw db b) (ha:Dig a) (hb:Dig b) (hl:a.length*8≤140737488351232) (hbl:b.length≤a.length) (hle:val b≤val a) :
    ∃ out,Qah G QeC [da,db]=some (.own 1 out.length (out.map iv))∧out.length=a.length∧Dig out∧val out=val a-val b:=by
  obtain ⟨out,h1,h2,h3,h4⟩:=QkN db b hrb hb (val a) hle a.length 0 a (by omega) hbl (by omega) .nil (fun h=>by have:=ha.getD 0;omega) (ha.drop 1) (by simp [val])
  refine ⟨out, ?_,h2,h3,h4⟩
  rw [Qad (cf:=Qhz) rfl]
  simp only [Qeb,QjU,nc0,h2] at h1
  have e3:(0:Int)≤(a.length:Int)∧(a.length:Int)*((8:Nat):Int)≤((bound:Nat):Int):=by simp only [bound];omega
  have e4:=fun h hk=>cpy_I (h:=h) (k:=[9]) (a:=a) (out:=List.replicate a.length 0) (n:=a.length) hk rfl (by simp)
  have e5:=e4 (hupd hp0 [9] ⟨1,a.length,Qbw (List.replicate a.length 0),false⟩) rfl
  simp -implicitDefEqProofs (maxSteps:=9^8) only [Qhz,go_sem,iv,bv,h1,h2,e3,e5,Qk2,hra.len,hra.src,Qal,Qak,QbV,reduceCtorEq,↓reduceIte,Nat.reduceEqDiff]
end Go.AM

/- cmp.Compare, integer.compare -/
namespace Go.AM
open Go Go.RowKit
variable [Its]

theorem QrW (x:Int):(x != x)=false:=by
 have _its:Its:=inferInstance
 simp
theorem QnX (x:Int):Qah G Qgi [iv x]=some (.d (bv false)):=by
 rw [Qad (cf:=QhO) rfl]
 simp -implicitDefEqProofs (maxSteps:=9^8) only [QhO,go_sem,iv,bv,QrW,reduceCtorEq,↓reduceIte,Nat.reduceEqDiff]
theorem Qin (x y:Int):Qah G Qe5 [iv x,iv y]=some (.d (iv (Int.sign (x-y)))):=by
 rw [Qad (cf:=Qdv) rfl]
 have hx:=QnX x
 have hy:=QnX y
 simp only [iv,bv] at hx hy
 rcases Int.lt_trichotomy x y with h | h | h
 ·have e1:Int.sign (x-y) = -1:=Int.sign_eq_neg_one_of_neg (by omega)
  have e2:decide (x<y)=true:=lt_t h
  simp -implicitDefEqProofs (maxSteps:=9^8) only [Qdv,go_sem,iv,bv,hx,hy,e1,e2,reduceCtorEq,↓reduceIte,Nat.reduceEqDiff]
 ·subst h
  have e1:Int.sign (x-x)=0:=by rw [Int.sub_self];rfl
  have e2:decide (x<x)=false:=lt_f (by omega)
  have e3:decide (x>x)=false:=gt_f (by omega)
  simp -implicitDefEqProofs (maxSteps:=9^8) only [Qdv,go_sem,iv,bv,hx,e1,e2,e3,reduceCtorEq,↓reduceIte,Nat.reduceEqDiff]
 ·have e1:Int.sign (x-y)=1:=Int.sign_eq_one_of_pos (by omega)
  have e2:decide (x<y)=false:=lt_f (by omega)
  have e3:decide (x>y)=true:=gt_t h
  simp -implicitDefEqProofs (maxSteps:=9^8) only [Qdv,go_sem,iv,bv,hx,hy,e1,e2,e3,reduceCtorEq,↓reduceIte,Nat.reduceEqDiff]

section
variable (da db:D) (a b:List Int)
def Qkv (i:Int):St:=⟨upd (upd (upd fr0 5 (.d (.v (.int .i64 i)))) 1 (.d db)) 0 (.d da),hp0,[]⟩
def QoY (r:Int):St:=⟨upd fr0 4 (.d (.v (.int .i64 r))),hp0,[]⟩

theorem cmp_zero:X G Qbg (Qkv da db (-1))=some (.x 0,⟨fr0,hp0,[]⟩):=by
 have e1:decide ((-1:Int)≥0)=false:=rfl
 simp -implicitDefEqProofs (maxSteps:=9^8) only [Qbg,Qkv,go_sem,iv,bv,e1,reduceCtorEq,↓reduceIte,Nat.reduceEqDiff]
theorem cmp_eq (hra:Rw da a) (hrb:Rw db b) (j:Nat) (hl:a.length<4611686018427387904) (ha:j<a.length) (hb:j<b.length) (h:a.getD j 0=b.getD j 0):X G Qbg (Qkv da db j)=some (.n,Qkv da db ((j:Int)-1)):=by
 have e1:decide ((j:Int)≥0)=true:=ge_t (by omega)
 have e2:=hra.ixn ha
 have e3:=fun hp=>ldv hp a ha
 have e4:=hrb.ixn hb
 have e5:=fun hp=>ldv hp b hb
 have e6:w64 ((j:Int)-1)=(j:Int)-1:=Qae (by omega) (by omega)
 rw [h] at e3
 simp -implicitDefEqProofs (maxSteps:=9^8) only [Qbg,Qkv,go_sem,iv,bv,e1,e2,e3,e4,e5,e6,QrW,reduceCtorEq,↓reduceIte,Nat.reduceEqDiff]
theorem cmp_ne (hra:Rw da a) (hrb:Rw db b) (j:Nat) (hl:a.length<4611686018427387904) (ha:j<a.length) (hb:j<b.length) (h:a.getD j 0≠b.getD j 0):X G Qbg (Qkv da db j)=some (.r,QoY (Int.sign (a.getD j 0-b.getD j 0))):=by
 have e1:decide ((j:Int)≥0)=true:=ge_t (by omega)
 have e2:=hra.ixn ha
 have e3:=fun hp=>ldv hp a ha
 have e4:=hrb.ixn hb
 have e5:=fun hp=>ldv hp b hb
 have e6:=Qin (a.getD j 0) (b.getD j 0)
 simp only [iv] at e6
 simp -implicitDefEqProofs (maxSteps:=9^8) only [Qbg,Qkv,QoY,go_sem,iv,bv,e1,e2,e3,e4,e5,e6,QqK h,reduceCtorEq,↓reduceIte,Nat.reduceEqDiff]

theorem sign_top {x y:Int} {j:Nat} {p q:Int} (hx:0≤x∧x<(1000000000:Int)^j) (hy:0≤y∧y<(1000000000:Int)^j) (h:p≠q):Int.sign (x+(1000000000:Int)^j*p-(y+(1000000000:Int)^j*q))=Int.sign (p-q):=by
 have _its:Its:=inferInstance
 rcases Int.lt_or_gt_of_ne h with h | h
 ·have e:(1000000000:Int)^j*p≤(1000000000:Int)^j*(q-1):=Int.mul_le_mul_of_nonneg_left (by omega) (by omega)
  rw [Int.sign_eq_neg_one_of_neg (by omega:p-q<0),Int.sign_eq_neg_one_of_neg (by grind)]
 ·have e:(1000000000:Int)^j*q≤(1000000000:Int)^j*(p-1):=Int.mul_le_mul_of_nonneg_left (by omega) (by omega)
  rw [Int.sign_eq_one_of_pos (by omega:0<p-q),Int.sign_eq_one_of_pos (by grind)]

theorem Qia {l:List Int} (h:Dig l) {n:Nat} (hn:n≤l.length):0≤val (l.take n)∧val (l.take n)<(1000000000:Int)^n:=by
 have _its:Its:=inferInstance
 refine ⟨Qa2 (h.take n), ?_⟩
 have:=QfU (h.take n)
 rwa [List.length_take,Nat.min_eq_left hn] at this

theorem Qss      (hra:Rw da a) (hrb:Rw db b) (ha:Dig a) (hb:Dig b) (hl:a.length<4611686018427387904):∀ j:Nat,j≤a.length→j≤b.length →
    X G (.loop Qbg) (Qkv da db ((j:Int)-1))=if val (a.take j)=val (b.take j) then some (.x 0,⟨fr0,hp0,[]⟩) else some (.r,QoY (Int.sign (val (a.take j)-val (b.take j))))
  | 0,_,_=>by
    rw [Qai,show ((0:Nat):Int)-1 = -1 from rfl,cmp_zero]
    simp [val]
  | j+1,h1,h2=>by
    rw [Qai,show ((j+1:Nat):Int)-1=(j:Int) by omega,Qas a,Qas b]
    obtain ⟨xa,ya⟩:=Qia ha (n:=j) (by omega)
    obtain ⟨xb,yb⟩:=Qia hb (n:=j) (by omega)
    by_cases h:a.getD j 0=b.getD j 0
    · rw [cmp_eq da db a b hra hrb j hl (by omega) (by omega) h,h]
      simp only [Option.bind_some,ex_n_n,if_true]
      rw [Qss hra hrb ha hb hl j (by omega) (by omega)]
      by_cases h3:val (a.take j)=val (b.take j)
      · rw [if_pos h3,if_pos (by rw [h3])]
      · rw [if_neg h3,if_neg (by omega),show val (a.take j)+(1000000000:Int)^j*b.getD j 0-(val (b.take j)+(1000000000:Int)^j*b.getD j 0)=val (a.take j)-val (b.take j) by omega]
    · rw [cmp_ne da db a b hra hrb j hl (by omega) (by omega) h]
      have hs:=sign_top ⟨xa,ya⟩ ⟨xb,yb⟩ h
      have hne:¬ (val (a.take j)+(1000000000:Int)^j*a.getD j 0=val (b.take j)+(1000000000:Int)^j*b.getD j 0):=by
        intro he
        rw [he,Int.sub_self] at hs
        have:a.getD j 0-b.getD j 0=0:=Int.sign_eq_zero_iff_zero.1 hs.symm
        omega
      rw [if_neg hne,hs]
      rfl
end

theorem top_ge {l:List Int} (hd:Dig l) (ht:Top l) (h:l≠[]):(1000000000:Int)^(l.length-1)≤val l:=by
 have _its:Its:=inferInstance
 have hlen:0<l.length:=List.length_pos_iff.2 h
 have h1:=Qas l (l.length-1)
 rw [show l.length-1+1=l.length by omega,List.take_length] at h1
 have h2:=ht h
 have h3:l.getD (l.length-1) 0=l.getLast h:=by
  rw [List.getLast_eq_getElem,List.getD_eq_getElem?_getD,List.getElem?_eq_getElem (by omega)];rfl
 have h4:=hd.getD (l.length-1)
 have h5:=Qa2 (hd.take (l.length-1))
 have h6:(1000000000:Int)^(l.length-1)*1≤(1000000000:Int)^(l.length-1)*l.getD (l.length-1) 0:=Int.mul_le_mul_of_nonneg_left (by omega) (Int.pow_nonneg (by omega))
 omega
theorem Qh1 {a b:List Int} (ha:Dig a) (hb:Dig b) (hbt:Top b) (h:a.length<b.length):val a<val b:=by
 have h1:=QfU ha
 have h2:=top_ge hb hbt (by rintro rfl;simp at h)
 have h3:(1000000000:Int)^a.length≤(1000000000:Int)^(b.length-1):=Qkn (by omega)
 omega

theorem QgS          {da db:D} {a b:List Int} (hra:Rw da a) (hrb:Rw db b) (ha:Dig a) (hb:Dig b) (hat:Top a) (hbt:Top b) (hla:a.length<4611686018427387904) (hlb:b.length<4611686018427387904) :
    Qah G QcL [da,db]=some (.d (iv (Int.sign (val a-val b)))):=by
  rw [Qad (cf:=QdA) rfl]
  by_cases h:a.length=b.length
  · have e1:(((a.length:Int)) != (b.length:Int))=false:=QqD (by omega)
    have e2:w64 ((a.length:Int)-1)=(a.length:Int)-1:=Qae (by omega) (by omega)
    have hlp:=Qss da db a b hra hrb ha hb hla a.length (Nat.le_refl _) (by omega)
    rw [List.take_length,h,List.take_length] at hlp
    rw [← h] at hlp
    simp only [Qkv,QoY] at hlp
    by_cases hv:val a=val b
    · rw [if_pos hv] at hlp
      rw [hv,Int.sub_self]
      simp -implicitDefEqProofs (maxSteps:=9^8) only [QdA,go_sem,iv,bv,hra.len,hrb.len,e1,e2,hlp,reduceCtorEq,↓reduceIte,Nat.reduceEqDiff]
      rfl
    · rw [if_neg hv] at hlp
      simp -implicitDefEqProofs (maxSteps:=9^8) only [QdA,go_sem,iv,bv,hra.len,hrb.len,e1,e2,hlp,reduceCtorEq,↓reduceIte,Nat.reduceEqDiff]
  · have e1:(((a.length:Int)) != (b.length:Int))=true:=QqK (by omega)
    have e2:=Qin (a.length:Int) (b.length:Int)
    simp only [iv] at e2
    have e3:Int.sign ((a.length:Int)-(b.length:Int))=Int.sign (val a-val b):=by
      rcases Nat.lt_or_gt_of_ne h with h | h
      · have:=Qh1 ha hb hbt h
        rw [Int.sign_eq_neg_one_of_neg (by omega),Int.sign_eq_neg_one_of_neg (by omega)]
      · have:=Qh1 hb ha hat h
        rw [Int.sign_eq_one_of_pos (by omega),Int.sign_eq_one_of_pos (by omega)]
    rw [e3] at e2
    simp -implicitDefEqProofs (maxSteps:=9^8) only [QdA,go_sem,iv,bv,hra.len,hrb.len,e1,e2,reduceCtorEq,↓reduceIte,Nat.reduceEqDiff]
end Go.AM

/- integer.Add, Neg, Sub, Compare, Sign -/
namespace Go.AM
open Go Go.RowKit
variable [Its]

theorem QrD {x y:Int} (hx:nd x≤1000000000000) (hy:nd y≤1000000000000):Qah G QhV [encI x,encI y]=some (.d (encI (x+y))):=by
  rw [Qad (cf:=Qgw) rfl]
  have hx':(digs x.natAbs).length≤1000000000000:=hx
  have hy':(digs y.natAbs).length≤1000000000000:=hy
  have dx:=Qao x.natAbs
  have dy:=Qao y.natAbs
  have vx:=Qdn x
  have vy:=Qdn y
  by_cases hs:decide (x<0)=decide (y<0)
  · obtain ⟨out,g1,g2,g3,g4⟩:=Qo8 (Rw.dg _) (Rw.dg _) dx dy (by omega)
    have g5:=Qfe (decide (x<0)) (Rw.row out) (by omega) g3
    have e1:(decide (x<0)==decide (y<0))=true:=by rw [hs];simp
    have e2:sgn (decide (x<0)) (val out)=x+y:=by
      rw [g4,vx,vy]
      by_cases h:x<0
      · have h2:y<0:=by simpa [h] using hs
        simp [sgn,h];omega
      · have h2:¬ y<0:=by simpa [h] using hs
        simp [sgn,h];omega
    rw [e2] at g5
    simp only [rowI,bv] at g5
    simp -implicitDefEqProofs (maxSteps:=9^8) only [Qgw,encI,go_sem,Qac,Qab,iv,bv,e1,g1,g5,reduceCtorEq,↓reduceIte,Nat.reduceEqDiff]
  · have e1:(decide (x<0)==decide (y<0))=false:=by simpa using hs
    have g0:=QgS (Rw.dg _) (Rw.dg _) dx dy (Qb9 _) (Qb9 _) (by omega) (by omega)
    rw [vx,vy] at g0
    simp only [iv] at g0
    have lx:=Qc6 x
    have ly:=Qc6 y
    have len:∀ {u v:Int},u.natAbs≤v.natAbs→(digs u.natAbs).length≤(digs v.natAbs).length:=fun h=>QkV h
    by_cases hlt:x.natAbs<y.natAbs
    · have hsg:Int.sign ((x.natAbs:Int)-(y.natAbs:Int)) = -1:=Int.sign_eq_neg_one_of_neg (by omega)
      rw [hsg] at g0
      obtain ⟨out,g1,g2,g3,g4⟩:=QkZ (Rw.dg _) (Rw.dg _) dy dx (by omega) (len (by omega)) (by omega)
      have g5:=Qfe (decide (y<0)) (Rw.row out) (by omega) g3
      have e2:sgn (decide (y<0)) (val out)=x+y:=by
        rw [g4,vx,vy]
        by_cases h:y<0
        · have h2:¬ x<0:=by intro h3;exact hs (by simp [h,h3])
          simp [sgn,h];omega
        · have h2 : x < 0 := by
            rcases Int.lt_or_le x 0 with h3 | h3
            · exact h3
            · exact absurd (by simp [h,Int.not_lt.2 h3]) hs
          simp [sgn,h];omega
      rw [e2] at g5
      simp only [rowI,bv] at g5
      have e3:decide ((-1:Int)<0)=true:=rfl
      simp -implicitDefEqProofs (maxSteps:=9^8) only [Qgw,encI,go_sem,Qac,Qab,iv,bv,e1,e3,g0,g1,g5,reduceCtorEq,↓reduceIte,Nat.reduceEqDiff]
    · have e3 : decide (Int.sign ((x.natAbs : Int) - (y.natAbs : Int)) < 0) = false := by
        apply lt_f
        rcases Int.lt_or_le 0 ((x.natAbs:Int)-(y.natAbs:Int)) with h | h
        · rw [Int.sign_eq_one_of_pos h];omega
        · rw [show (x.natAbs:Int)-(y.natAbs:Int)=0 by omega];exact Int.lt_irrefl 0
      obtain ⟨out,g1,g2,g3,g4⟩:=QkZ (Rw.dg _) (Rw.dg _) dx dy (by omega) (len (by omega)) (by omega)
      have g5:=Qfe (decide (x<0)) (Rw.row out) (by omega) g3
      have e2:sgn (decide (x<0)) (val out)=x+y:=by
        rw [g4,vx,vy]
        by_cases h:x<0
        · have h2:¬ y<0:=by intro h3;exact hs (by simp [h,h3])
          simp [sgn,h];omega
        · have h2 : y < 0 := by
            rcases Int.lt_or_le y 0 with h3 | h3
            · exact h3
            · exact absurd (by simp [h,Int.not_lt.2 h3]) hs
          simp [sgn,h];omega
      rw [e2] at g5
      simp only [rowI,bv] at g5
      simp -implicitDefEqProofs (maxSteps:=9^8) only [Qgw,encI,go_sem,Qac,Qab,iv,bv,e1,e3,g0,g1,g5,reduceCtorEq,↓reduceIte,Nat.reduceEqDiff]

theorem Qn0 (x:Int):Qah G Qf0 [encI x]=some (.d (encI (-x))):=by
 rw [Qad (cf:=Qhx) rfl]
 have el:=QaZ (digs x.natAbs)
 have en:(-x).natAbs=x.natAbs:=Int.natAbs_neg x
 by_cases h:x<0
 ·have e1:decide (x<0)=true:=decide_eq_true h
  have e2:decide (-x<0)=false:=decide_eq_false (by omega)
  simp -implicitDefEqProofs (maxSteps:=9^8) only [Qhx,encI,go_sem,Qac,Qab,iv,bv,e1,e2,en,el,reduceCtorEq,↓reduceIte,Nat.reduceEqDiff]
 ·have e1:decide (x<0)=false:=decide_eq_false h
  have e3:decide (((digs x.natAbs).length:Int)>0)=decide (-x<0):=by
   have:=digs_length_pos (n:=x.natAbs)
   by_cases h0:x=0
   ·subst h0
    have h9:¬ 0<(digs (0:Int).natAbs).length:=by rw [digs_length_pos];simp
    rw [gt_f (by omega)];rfl
   ·have:0<(digs x.natAbs).length:=digs_length_pos.2 (by omega)
    rw [gt_t (by omega)]
    exact (decide_eq_true (by omega)).symm
  simp -implicitDefEqProofs (maxSteps:=9^8) only [Qhx,encI,go_sem,Qac,Qab,iv,bv,e1,e3,en,el,reduceCtorEq,↓reduceIte,Nat.reduceEqDiff]

theorem Sign_spec (x:Int):Qah G Qi9 [encI x]=some (.d (iv (Int.sign x))):=by
 rw [Qad (cf:=Qfy) rfl]
 have el:=QaZ (digs x.natAbs)
 rcases Int.lt_trichotomy x 0 with h | h | h
 ·have e1:decide (x<0)=true:=decide_eq_true h
  have e2:Int.sign x = -1:=Int.sign_eq_neg_one_of_neg h
  simp -implicitDefEqProofs (maxSteps:=9^8) only [Qfy,encI,go_sem,Qac,Qab,iv,bv,e1,e2,el,reduceCtorEq,↓reduceIte,Nat.reduceEqDiff]
 ·subst h
  have e1:decide ((0:Int)<0)=false:=rfl
  have e2:Int.sign 0=0:=rfl
  have e3:(digs (0:Int).natAbs).length=0:=Ql5
  have e4:((0:Int)==0)=true:=rfl
  simp -implicitDefEqProofs (maxSteps:=9^8) only [Qfy,encI,go_sem,Qac,Qab,iv,bv,e1,e2,e3,e4,el,reduceCtorEq,↓reduceIte,Nat.reduceEqDiff]
 ·have e1:decide (x<0)=false:=decide_eq_false (by omega)
  have e2:Int.sign x=1:=Int.sign_eq_one_of_pos h
  have e3:0<(digs x.natAbs).length:=digs_length_pos.2 (by omega)
  have e4:(((digs x.natAbs).length:Int)==0)=false:=Qcx (by omega)
  simp -implicitDefEqProofs (maxSteps:=9^8) only [Qfy,encI,go_sem,Qac,Qab,iv,bv,e1,e2,e4,el,reduceCtorEq,↓reduceIte,Nat.reduceEqDiff]

theorem Qlh {x y:Int} (hx:nd x≤1000000000000) (hy:nd y≤1000000000000):Qah G QeY [encI x,encI y]=some (.d (iv (Int.sign (x-y)))):=by
 rw [Qad (cf:=QcS) rfl]
 have hx':(digs x.natAbs).length≤1000000000000:=hx
 have hy':(digs y.natAbs).length≤1000000000000:=hy
 have g0:=QgS (Rw.dg _) (Rw.dg _) (Qao x.natAbs) (Qao y.natAbs) (Qb9 _) (Qb9 _) (by omega) (by omega)
 have g1:=QgS (Rw.dg _) (Rw.dg _) (Qao y.natAbs) (Qao x.natAbs) (Qb9 _) (Qb9 _) (by omega) (by omega)
 rw [Qdn,Qdn] at g0 g1
 simp only [iv] at g0 g1
 by_cases h:x<0<;>by_cases h2:y<0
 ·have e1:decide (x<0)=true:=decide_eq_true h
  have e2:decide (y<0)=true:=decide_eq_true h2
  have e3:(y.natAbs:Int)-(x.natAbs:Int)=x-y:=by omega
  rw [e3] at g1
  simp -implicitDefEqProofs (maxSteps:=9^8) only [QcS,encI,go_sem,Qac,Qab,iv,bv,e1,e2,g1,beq_self_eq_true,reduceCtorEq,↓reduceIte,Nat.reduceEqDiff]
 ·have e1:decide (x<0)=true:=decide_eq_true h
  have e2:decide (y<0)=false:=decide_eq_false h2
  have e3:Int.sign (x-y) = -1:=Int.sign_eq_neg_one_of_neg (by omega)
  have e4:(true==false)=false:=rfl
  simp -implicitDefEqProofs (maxSteps:=9^8) only [QcS,encI,go_sem,Qac,Qab,iv,bv,e1,e2,e3,e4,reduceCtorEq,↓reduceIte,Nat.reduceEqDiff]
 ·have e1:decide (x<0)=false:=decide_eq_false h
  have e2:decide (y<0)=true:=decide_eq_true h2
  have e3:Int.sign (x-y)=1:=Int.sign_eq_one_of_pos (by omega)
  have e4:(false==true)=false:=rfl
  simp -implicitDefEqProofs (maxSteps:=9^8) only [QcS,encI,go_sem,Qac,Qab,iv,bv,e1,e2,e3,e4,reduceCtorEq,↓reduceIte,Nat.reduceEqDiff]
 ·have e1:decide (x<0)=false:=decide_eq_false h
  have e2:decide (y<0)=false:=decide_eq_false h2
  have e3:(x.natAbs:Int)-(y.natAbs:Int)=x-y:=by omega
  rw [e3] at g0
  simp -implicitDefEqProofs (maxSteps:=9^8) only [QcS,encI,go_sem,Qac,Qab,iv,bv,e1,e2,g0,beq_self_eq_true,reduceCtorEq,↓reduceIte,Nat.reduceEqDiff]
end Go.AM

/- integer.divide -/
namespace Go.AM
open Go Go.RowKit

theorem Qim:encI 0=.agg [bv false,.z true]:=by
 have:digs (0:Int).natAbs=[]:=Qax
 rw [encI,this];rfl
theorem QaD (x:Int):encI (sgn false x)=encI x:=rfl
theorem QmS {x y q r:Int} (h:x=q*y+r) (h0:0≤r) (h1:r<y):x/y=q∧x%y=r:=by
 subst h
 have hy:y≠0:=by omega
 constructor
 ·rw [Int.add_comm,Int.add_mul_ediv_right _ _ hy,Int.ediv_eq_zero_of_lt h0 h1,Int.zero_add]
 ·rw [Int.add_comm,Int.add_mul_emod_self_right,Int.emod_eq_of_lt h0 h1]
theorem Qbn {x y:Nat} (h:x≤y):(digs x).length≤(digs y).length:=by
 have:=QkV (x:=(x:Int)) (y:=(y:Int)) (by simpa using h)
 simpa [nd] using this
theorem Qe7 {x:Nat} (h:(digs x).length≤2):x<1000000000000000000:=by
 have h1:=QfU (Qao x)
 rw [QaJ] at h1
 have h2:=Qkn h
 have h3:(1000000000:Int)^2=1000000000000000000:=by decide
 omega
theorem digs_last {x:Nat} {p:Nat} (h:(digs x).length=p+1):0<(digs x).getD p 0:=by
 have ht:=Qb9 x
 have hd:=(Qao x).getD p
 have hne:digs x≠[]:=by intro h';rw [h'] at h;simp at h
 have:=ht hne
 have e:(digs x).getLast hne=(digs x).getD p 0:=by
  rw [List.getLast_eq_getElem,List.getD_eq_getElem?_getD,List.getElem?_eq_getElem (by omega)]
  simp [h]
 rw [e] at this
 omega
theorem Qps {x:Int} (h:0≤x∧x<18446744073709551616):x%18446744073709551616=x:=by omega
theorem div_range {x y:Int} (hx:0≤x∧x<1000000000000000000) (hy:0<y):(0≤x/y∧x/y<1000000000000000000)∧0≤x%y∧x%y<1000000000000000000:=by
 have h1:=Int.ediv_nonneg hx.1 (Int.le_of_lt hy)
 have h2:=Int.ediv_le_self y hx.1
 have h3:=Int.emod_nonneg x (by omega:y≠0)
 have h4:x%y≤x:=by
  have:=Int.mul_ediv_add_emod x y
  have h5:=Int.mul_nonneg (Int.le_of_lt hy) h1
  generalize y*(x/y)=z at *
  omega
 generalize x/y=q at *
 generalize x%y=r at *
 omega
variable [Its]

theorem Qmi         {x y:Nat} (hy:0<y) (hx:(digs x).length≤1000000000000) (hyl:(digs y).length≤1000000000000) :
    Qah G QfM [dg (digs x),dg (digs y)]=some (.d (.tup [encI ((x:Int)/(y:Int)),encI ((x:Int)%(y:Int))])):=by
  rw [Qad (cf:=Qcb) rfl]
  have dx:=Qao x
  have dy:=Qao y
  have vx:=QaJ x
  have vy:=QaJ y
  have t1:=QlN (Rw.dg (digs x)) dx (by omega)
  have t2:=QlN (Rw.dg (digs y)) dy (by omega)
  have tc:=QgS (Rw.dg _) (Rw.dg _) dx dy (Qb9 _) (Qb9 _) (by omega) (by omega)
  have ly:=QaZ (digs y)
  rw [vx,vy] at tc
  rw [vx] at t1
  rw [vy] at t2
  simp only [iv,bv] at t1 t2 tc
  by_cases hlt:x<y
  · -- less
    have q0:(x:Int)/(y:Int)=0:=Int.ediv_eq_zero_of_lt (by omega) (by omega)
    have r0:(x:Int)%(y:Int)=x:=Int.emod_eq_of_lt (by omega) (by omega)
    by_cases h1:(digs x).length≤2
    · by_cases h2:(digs y).length≤2
      · have s1:=Qe7 h1
        rw [if_pos h1,decide_eq_true h1] at t1
        rw [if_pos h2,decide_eq_true h2] at t2
        have e1:=QkL (b:=(y:Int)) (by omega)
        have e2:=QfI (a:=(x:Int)) (b:=(y:Int)) (by omega)
        have e3:=Qee (a:=(x:Int)) (b:=(y:Int)) (by omega)
        rw [q0] at e2 ⊢
        rw [r0] at e3 ⊢
        have e4:w64 0=0:=Qae (by omega) (by omega)
        have e5:(0:Int)%18446744073709551616=0:=rfl
        have e6:=Qps (x:=(x:Int)) (by omega)
        have u1:=Qb8 false (u:=0) (by omega)
        have u2:=Qb8 false (u:=(x:Int)) (by omega)
        rw [QaD] at u1 u2
        simp only [bv] at u1 u2
        simp -implicitDefEqProofs (maxSteps:=9^8) only [Qcb,encI,go_sem,Qac,Qab,iv,bv,t1,t2,e1,e2,e3,e4,e5,e6,u1,u2,toDs,reduceCtorEq,↓reduceIte,Nat.reduceEqDiff]
      · rw [if_pos h1,decide_eq_true h1] at t1
        rw [if_neg h2,decide_eq_false h2] at t2
        have o1:=Qfe false (Rw.dg (digs x)) (by omega) dx
        rw [QaD,vx] at o1
        rw [Int.sign_eq_neg_one_of_neg (by omega)] at tc
        have e1:decide ((-1:Int)<0)=true:=rfl
        rw [q0,r0,Qim]
        simp only [bv] at o1
        simp -implicitDefEqProofs (maxSteps:=9^8) only [Qcb,encI,go_sem,Qac,Qab,iv,bv,t1,t2,tc,e1,o1,toDs,reduceCtorEq,↓reduceIte,Nat.reduceEqDiff]
    · rw [if_neg h1,decide_eq_false h1] at t1
      have o1:=Qfe false (Rw.dg (digs x)) (by omega) dx
      rw [QaD,vx] at o1
      rw [Int.sign_eq_neg_one_of_neg (by omega)] at tc
      have e1:decide ((-1:Int)<0)=true:=rfl
      rw [q0,r0,Qim]
      simp only [bv] at o1
      simp -implicitDefEqProofs (maxSteps:=9^8) only [Qcb,encI,go_sem,Qac,Qab,iv,bv,t1,t2,tc,e1,o1,toDs,reduceCtorEq,↓reduceIte,Nat.reduceEqDiff]
  · have hle:=Qbn (Nat.le_of_not_lt hlt)
    by_cases h1:(digs x).length≤2
    · have h2:(digs y).length≤2:=by omega
      have s1:=Qe7 h1
      rw [if_pos h1,decide_eq_true h1] at t1
      rw [if_pos h2,decide_eq_true h2] at t2
      have e1:=QkL (b:=(y:Int)) (by omega)
      have e2:=QfI (a:=(x:Int)) (b:=(y:Int)) (by omega)
      have e3:=Qee (a:=(x:Int)) (b:=(y:Int)) (by omega)
      obtain ⟨d1,d2,d3⟩:=div_range (x:=(x:Int)) (y:=(y:Int)) (by omega) (by omega)
      obtain ⟨Q,hQ⟩:∃ Q,(x:Int)/(y:Int)=Q:=⟨_,rfl⟩
      obtain ⟨M,hM⟩:∃ M,(x:Int)%(y:Int)=M:=⟨_,rfl⟩
      rw [hQ] at e2 d1 ⊢
      rw [hM] at e3 d2 d3 ⊢
      have e4:w64 Q=Q:=Qae (by omega) (by omega)
      have e5:=Qps (x:=Q) (by omega)
      have e6:=Qps (x:=M) (by omega)
      have u1:=Qb8 false (u:=Q) (by omega)
      have u2:=Qb8 false (u:=M) (by omega)
      rw [QaD] at u1 u2
      simp only [bv] at u1 u2
      simp -implicitDefEqProofs (maxSteps:=9^8) only [Qcb,encI,go_sem,Qac,Qab,iv,bv,t1,t2,e1,e2,e3,e4,e5,e6,u1,u2,toDs,reduceCtorEq,↓reduceIte,Nat.reduceEqDiff]
    · rw [if_neg h1,decide_eq_false h1] at t1
      have e1:decide (Int.sign ((x:Int)-(y:Int))<0)=false:=by
        apply lt_f
        rcases Int.lt_or_le 0 ((x:Int)-(y:Int)) with h | h
        · rw [Int.sign_eq_one_of_pos h];omega
        · rw [show (x:Int)-(y:Int)=0 by omega];exact Int.lt_irrefl 0
      have hlp:0<(digs y).length:=digs_length_pos.2 hy
      by_cases h3:(digs y).length=1
      · -- one digit
        obtain ⟨b1,b2⟩:=QmF h3
        obtain ⟨q,r,g1,g2,g3,g4,g5⟩:=Qnn (Rw.dg (digs x)) dx (b:=(y:Int)) (by omega) (by omega)
        rw [vx] at g5
        obtain ⟨u1,u2⟩:=QmS g5 g2.1 g2.2
        rw [u1,u2]
        have o1:=Qfe false (Rw.row q) (by omega) g4
        rw [QaD] at o1
        have o2:=Qb8 false (u:=r) (by omega)
        rw [QaD] at o2
        have i1:=(Rw.dg (digs y)).ixn (j:=0) (by omega)
        have i2:=fun hp=>ldv hp (digs y) (j:=0) (by omega)
        simp only [nc0,List.drop_zero,b1] at i1 i2
        have e2:=Qps (x:=r) (by omega)
        have e3:(((digs y).length:Int)==1)=true:=QkI (by omega)
        simp only [bv,iv] at o1 o2 g1
        simp -implicitDefEqProofs (maxSteps:=9^8) only [Qcb,encI,go_sem,Qac,Qab,iv,bv,t1,tc,e1,e2,e3,g1,o1,o2,i1,i2,ly,toDs,reduceCtorEq,↓reduceIte,Nat.reduceEqDiff]
      · obtain ⟨p,hp⟩:∃ p,(digs y).length=p+2:=⟨(digs y).length-2,by omega⟩
        obtain ⟨q,r,g1,g2,g3,g4,g5,g6,g7⟩:=long_spec (Rw.dg (digs x)) (Rw.dg (digs y)) dx dy hp (digs_last hp) hle hx
        rw [vx,vy] at g6
        rw [vy] at g7
        obtain ⟨u1,u2⟩:=QmS (x:=(x:Int)) (y:=(y:Int)) (q:=val q) (r:=val r) (by rw [g6,Int.mul_comm]) (Qa2 g3) g7
        rw [u1,u2]
        clear g6
        have o1:=Qfe false (Rw.row q) (by omega) g2
        have o2:=Qfe false (Rw.row r) (by omega) g3
        rw [QaD] at o1 o2
        have e3:(((digs y).length:Int)==1)=false:=Qcx (by omega)
        simp only [bv,iv] at o1 o2 g1
        simp -implicitDefEqProofs (maxSteps:=9^8) only [Qcb,encI,go_sem,Qac,Qab,iv,bv,t1,tc,e1,e3,g1,o1,o2,ly,toDs,reduceCtorEq,↓reduceIte,Nat.reduceEqDiff]
end Go.AM

/- integer.Div, Sub -/
namespace Go.AM
open Go Go.RowKit

theorem QjF (neg:Bool) (n:Nat):D.agg [.v (.bool (neg&&decide (((digs n).length:Int)>0))),dg (digs n)]=encI (sgn neg (n:Int)):=by
 by_cases h:n=0
 ·subst h
  have e:digs 0=[]:=Qax
  have e2:sgn neg ((0:Nat):Int)=0:=by cases neg<;>rfl
  rw [e2,Qim,e]
  simp [dg,bv]
 ·have h1:((digs n).length:Int)>0:=by have:=digs_length_pos.2 (Nat.pos_of_ne_zero h);omega
  rw [decide_eq_true h1,Bool.and_true]
  unfold encI
  have e2:(sgn neg (n:Int)).natAbs=n:=by rw [Qiz];rfl
  have e3:decide (sgn neg (n:Int)<0)=neg:=by
   cases neg
   ·simp only [sgn,Bool.false_eq_true,if_false,decide_eq_false_iff_not];omega
   ·simp only [sgn,if_true,decide_eq_true_eq];omega
  rw [e2,e3];rfl
theorem QnH        {x y:Int} (hy:y≠0) :
    (¬ x<0→x/y=sgn (decide (y<0)) ((x.natAbs:Int)/(y.natAbs:Int))∧x%y=(x.natAbs:Int)%(y.natAbs:Int)) ∧
    (x<0→(x.natAbs:Int)%(y.natAbs:Int)=0→x/y=sgn (!decide (y<0)) ((x.natAbs:Int)/(y.natAbs:Int))∧x%y=0) ∧
    (x<0→(x.natAbs:Int)%(y.natAbs:Int)≠0→x/y=sgn (!decide (y<0)) ((x.natAbs:Int)/(y.natAbs:Int)+1)∧x%y=(y.natAbs:Int)-(x.natAbs:Int)%(y.natAbs:Int)):=by
  have hb:0<(y.natAbs:Int):=by omega
  obtain ⟨a,ha⟩:∃ a,(x.natAbs:Int)=a:=⟨_,rfl⟩
  obtain ⟨b,hbd⟩:∃ b,(y.natAbs:Int)=b:=⟨_,rfl⟩
  rw [ha,hbd]
  rw [hbd] at hb
  have e:=Int.mul_ediv_add_emod a b
  have m1:=Int.emod_nonneg a (by omega:b≠0)
  have m2:=Int.emod_lt_of_pos a hb
  have key:∀ q r:Int,x=q*b+r→0≤r→r<b→x/y=sgn (decide (y<0)) q∧x%y=r:=by
    intro q r h h0 h1
    obtain ⟨g1,g2⟩:=QmS h h0 h1
    by_cases hn:y<0
    · have:y = -b:=by omega
      rw [this,Int.ediv_neg,Int.emod_neg,g1,g2,← this,decide_eq_true hn]
      exact ⟨rfl,rfl⟩
    · have:y=b:=by omega
      rw [this,g1,g2,← this,decide_eq_false hn]
      exact ⟨rfl,rfl⟩
  have sg:∀ q:Int,sgn (decide (y<0)) (-q)=sgn (!decide (y<0)) q:=by
    intro q
    by_cases hn:y<0<;>simp [sgn,hn]
  refine ⟨fun hx=>?_,fun hx h0=>?_,fun hx h0=>?_⟩
  · have:x=a:=by omega
    exact key _ _ (by rw [this,Int.mul_comm];exact e.symm) m1 m2
  · have:=key (-(a/b)) 0 (by rw [h0] at e;rw [Int.neg_mul,Int.mul_comm];omega) (by omega) hb
    rw [sg] at this
    exact this
  · have:=key (-(a/b+1)) (b-a%b) (by rw [Int.neg_mul,Int.add_mul,Int.one_mul,Int.mul_comm];omega) (by omega) (by omega)
    rw [sg] at this
    exact this
variable [Its]

theorem Qsn      {x y:Int} (hy:y≠0) (hx:nd x≤1000000000000) (hyl:nd y≤1000000000000) :
    Qah G Qhu [encI x,encI y]=some (.d (.tup [encI (x/y),encI (x%y)])):=by
  obtain ⟨c1,c2,c3⟩:=QnH (x:=x) hy
  have hya:0<y.natAbs:=by omega
  have td:=Qmi (x:=x.natAbs) (y:=y.natAbs) hya hx hyl
  have ly:=QaZ (digs y.natAbs)
  have e1:(((digs y.natAbs).length:Int)==0)=false:=Qcx (by have:=digs_length_pos.2 hya;omega)
  have hq0:0≤(x.natAbs:Int)/(y.natAbs:Int):=Int.ediv_nonneg (by omega) (by omega)
  have hr0:0≤(x.natAbs:Int)%(y.natAbs:Int):=Int.emod_nonneg _ (by omega)
  have hr1:(x.natAbs:Int)%(y.natAbs:Int)<(y.natAbs:Int):=Int.emod_lt_of_pos _ (by omega)
  have hq1:(x.natAbs:Int)/(y.natAbs:Int)≤(x.natAbs:Int):=Int.ediv_le_self _ (by omega)
  obtain ⟨Q,hQ⟩:∃ Q:Nat,(x.natAbs:Int)/(y.natAbs:Int)=(Q:Int):=⟨_,(Int.toNat_of_nonneg hq0).symm⟩
  obtain ⟨M,hM⟩:∃ M:Nat,(x.natAbs:Int)%(y.natAbs:Int)=(M:Int):=⟨_,(Int.toNat_of_nonneg hr0).symm⟩
  rw [hQ] at td c1 c2 c3 hq1
  rw [hM] at td c1 c2 c3 hr1
  have q1:decide ((Q:Int)<0)=false:=decide_eq_false (by omega)
  have q2:((Q:Nat):Int).natAbs=Q:=rfl
  have m1:decide ((M:Int)<0)=false:=decide_eq_false (by omega)
  have m2:((M:Nat):Int).natAbs=M:=rfl
  have lq:=QaZ (digs Q)
  have lm:=QaZ (digs M)
  simp only [encI,q1,q2,m1,m2,bv] at td
  rw [Qad (cf:=Qdt) rfl]
  have hQl:(digs Q).length≤(digs x.natAbs).length:=Qbn (by omega)
  have hMl:(digs M).length≤(digs y.natAbs).length:=Qbn (by omega)
  have hxn:(digs x.natAbs).length≤1000000000000:=hx
  have hyn:(digs y.natAbs).length≤1000000000000:=hyl
  by_cases hxn0:x<0
  · have x1:decide (x<0)=true:=decide_eq_true hxn0
    by_cases hM0:M=0
    · obtain ⟨d1,d2⟩:=c2 hxn0 (by omega)
      have f1:decide ((0:Int)>0)=false:=rfl
      have f2:dg (digs M)=.z true:=by rw [hM0,Qax];rfl
      rw [f2] at td
      rw [d1,d2,← QjF,Qim]
      by_cases hyn0:y<0
      · have y1:decide (y<0)=true:=decide_eq_true hyn0
        have y2:(true==true)=true:=rfl
        rw [y1]
        simp -implicitDefEqProofs (maxSteps:=9^8) only [Qdt,encI,go_sem,Qac,Qab,iv,bv,e1,x1,y1,y2,f1,td,ly,lq,lm,toDs,Qbl,ne_eq,not_false_eq_true,reduceCtorEq,↓reduceIte,Nat.reduceEqDiff]
      · have y1:decide (y<0)=false:=decide_eq_false hyn0
        have y2:(true==false)=false:=rfl
        rw [y1]
        simp -implicitDefEqProofs (maxSteps:=9^8) only [Qdt,encI,go_sem,Qac,Qab,iv,bv,e1,x1,y1,y2,f1,td,ly,lq,lm,toDs,Qbl,ne_eq,not_false_eq_true,reduceCtorEq,↓reduceIte,Nat.reduceEqDiff]
    · obtain ⟨d1,d2⟩:=c3 hxn0 (by omega)
      have f1:decide (((digs M).length:Int)>0)=true:=gt_t (by have:=digs_length_pos.2 (Nat.pos_of_ne_zero hM0);omega)
      obtain ⟨o1,p1,p2,p3,p4⟩:=Qo8 (Rw.dg (digs Q)) (Rw.row [1]) (Qao Q) (fun d hd=>by simp at hd;omega) (by simp;omega)
      obtain ⟨o2,s1,s2,s3,s4⟩:=QkZ (Rw.dg (digs y.natAbs)) (Rw.dg (digs M)) (Qao _) (Qao _) (by omega) hMl (by rw [QaJ,QaJ];omega)
      rw [QaJ] at p4
      rw [QaJ,QaJ] at s4
      have p5:val o1=((Q+1:Nat):Int):=by rw [p4];simp [val]
      have s5:val o2=((y.natAbs-M:Nat):Int):=by rw [s4];omega
      have g1:=Qfe false (Rw.row o1) (by rw [p2];simp;omega) p3
      have g2:=Qfe false (Rw.row o2) (by omega) s3
      rw [QaD,p5] at g1
      rw [QaD,s5] at g2
      have k1:decide (((Q+1:Nat):Int)<0)=false:=decide_eq_false (by omega)
      have k2:((Q+1:Nat):Int).natAbs=Q+1:=rfl
      have k3:decide (((y.natAbs-M:Nat):Int)<0)=false:=decide_eq_false (by omega)
      have k4:((y.natAbs-M:Nat):Int).natAbs=y.natAbs-M:=rfl
      have lq1:=QaZ (digs (Q+1))
      have e5:(Q:Int)+1=((Q+1:Nat):Int):=rfl
      have e6:(y.natAbs:Int)-(M:Int)=((y.natAbs-M:Nat):Int):=by omega
      simp only [rowI,List.map_cons,List.map_nil,List.length_cons,List.length_nil,encI,k1,k2,k3,k4,bv,iv,Nat.reduceAdd] at p1 s1 g1 g2
      rw [d1,d2,e5,e6,← QjF]
      by_cases hyn0:y<0
      · have y1:decide (y<0)=true:=decide_eq_true hyn0
        have y2:(true==true)=true:=rfl
        rw [y1]
        simp -implicitDefEqProofs (maxSteps:=9^8) only [Qdt,encI,go_sem,Qac,Qab,iv,bv,e1,x1,y1,y2,f1,p1,s1,g1,g2,k1,k2,k3,k4,lq1,  td,ly,lq,lm,toDs,Qbl,ne_eq,not_false_eq_true,reduceCtorEq,↓reduceIte,Nat.reduceEqDiff]
      · have y1:decide (y<0)=false:=decide_eq_false hyn0
        have y2:(true==false)=false:=rfl
        rw [y1]
        simp -implicitDefEqProofs (maxSteps:=9^8) only [Qdt,encI,go_sem,Qac,Qab,iv,bv,e1,x1,y1,y2,f1,p1,s1,g1,g2,k1,k2,k3,k4,lq1,  td,ly,lq,lm,toDs,Qbl,ne_eq,not_false_eq_true,reduceCtorEq,↓reduceIte,Nat.reduceEqDiff]
  · have x1:decide (x<0)=false:=decide_eq_false hxn0
    obtain ⟨d1,d2⟩:=c1 hxn0
    rw [d1,d2,← QjF]
    by_cases hyn0:y<0
    · have y1:decide (y<0)=true:=decide_eq_true hyn0
      have y2:(false==true)=false:=rfl
      rw [y1]
      simp -implicitDefEqProofs (maxSteps:=9^8) only [Qdt,encI,go_sem,Qac,Qab,iv,bv,e1,x1,y1,y2,m1,m2,  td,ly,lq,lm,toDs,Qbl,ne_eq,not_false_eq_true,reduceCtorEq,↓reduceIte,Nat.reduceEqDiff]
    · have y1:decide (y<0)=false:=decide_eq_false hyn0
      have y2:(false==false)=true:=rfl
      rw [y1]
      simp -implicitDefEqProofs (maxSteps:=9^8) only [Qdt,encI,go_sem,Qac,Qab,iv,bv,e1,x1,y1,y2,m1,m2,  td,ly,lq,lm,toDs,Qbl,ne_eq,not_false_eq_true,reduceCtorEq,↓reduceIte,Nat.reduceEqDiff]
end Go.AM

/- integer.Gcd -/
namespace Go.AM
open Go Go.RowKit

theorem QlM (m n:Nat):Nat.gcd n (m%n)=Nat.gcd m n:=by
 rw [Nat.gcd_comm n,← Nat.gcd_rec n m,Nat.gcd_comm]
theorem Qbh (n:Nat):encI (n:Int)=.agg [.v (.bool false),dg (digs n)]:=by
 unfold encI
 have:decide ((n:Int)<0)=false:=decide_eq_false (by omega)
 rw [this];rfl
variable [Its]

def boxI (n:Nat):Obj:=⟨0,0,[.d (.v (.bool false)),.d (dg (digs n))],false⟩
def box0:Obj:=⟨0,0,[.d (.v (.bool false)),.d (.z true)],false⟩
def Qnz (m n:Nat):St:=mkS [(4,.ptr [4] 0),(7,ai m),(9,ai n)] [([4],box0)]
def QrF (m:Nat):St:=mkS [(4,.ptr [4] 0),(7,ai m)] [([4],box0)]
theorem gcd_ints:∀ (n m:Nat),m<1000000000000000000→n<1000000000000000000→X G (.loop Qd3) (Qnz m n)=some (.x 2,QrF (Nat.gcd m n)):=by
 intro n
 induction n using Nat.strongRecOn with
 | _ n ih =>
 intro m hm hn
 rw [Qai]
 by_cases h0:n=0
 ·subst h0
  have e1:decide (((0:Nat):Int)>0)=false:=rfl
  rw [Nat.gcd_zero_right]
  simp -implicitDefEqProofs (maxSteps:=9^8) only [Qd3,Qnz,QrF,box0,go_sem,iv,bv,reduceCtorEq,↓reduceIte,Nat.reduceEqDiff]
  rfl
 ·have e1:decide ((n:Int)>0)=true:=gt_t (by omega)
  have e2:=QkL (b:=(n:Int)) (by omega)
  have e3:=Qee (a:=(m:Int)) (b:=(n:Int)) (by omega)
  have e4:(m:Int)%(n:Int)=((m%n:Nat):Int):=rfl
  have hlt:m%n<n:=Nat.mod_lt _ (by omega)
  have hx:X G Qd3 (Qnz m n)=some (.n,Qnz n (m%n)):=by
   simp -implicitDefEqProofs (maxSteps:=9^8) only [Qd3,Qnz,QrF,box0,go_sem,iv,bv,e1,e2,e3,e4,reduceCtorEq,↓reduceIte,Nat.reduceEqDiff]
  rw [hx,Option.bind_some,if_pos rfl,ih (m%n) hlt n hn (by omega),QlM]

def QgT (a b:Nat):St:=mkS [(4,.ptr [4] 0),(5,.ptr [5] 0),(6,.ptr [6] 0)] [([4],box0),([5],boxI a),([6],boxI b)]
def QtC (a:Nat):St:=mkS [(4,.ptr [4] 0),(5,.ptr [5] 0)] [([4],box0),([5],boxI a)]
def Qh9 (a:Nat):St:=mkS [(4,.ptr [4] 0)] [([4],boxI a)]

theorem gcd_loop:∀ (b a:Nat),(digs a).length≤1000000000000→(digs b).length≤1000000000000 →
    X G (.loop QbT) (QgT a b)=some (.x 0,QtC (Nat.gcd a b))∨X G (.loop QbT) (QgT a b)=some (.r,Qh9 (Nat.gcd a b)):=by
  intro b
  induction b using Nat.strongRecOn with
  | _ b ih =>
  intro a ha hb
  have la:=QaZ (digs a)
  have lb:=QaZ (digs b)
  by_cases h0:b=0
  · subst h0
    have e1:decide (((digs 0).length:Int)>0)=false:=by rw [Qax];rfl
    refine .inl ?_
    rw [Nat.gcd_zero_right,Qai]
    simp -implicitDefEqProofs (maxSteps:=9^8) only [QbT,QgT,QtC,box0,boxI,go_sem,Qac,Qab,iv,bv,e1,la,lb,reduceCtorEq,↓reduceIte,Nat.reduceEqDiff]
  · have e1:decide (((digs b).length:Int)>0)=true:=gt_t (by have:=digs_length_pos.2 (Nat.pos_of_ne_zero h0);omega)
    have t1:=QlN (Rw.dg (digs a)) (Qao a) (by omega)
    have t2:=QlN (Rw.dg (digs b)) (Qao b) (by omega)
    rw [QaJ] at t1 t2
    simp only [iv,bv] at t1 t2
    by_cases h1:(digs a).length≤2∧(digs b).length≤2
    · rw [if_pos h1.1,decide_eq_true h1.1] at t1
      rw [if_pos h1.2,decide_eq_true h1.2] at t2
      have s1:=Qe7 h1.1
      have s2:=Qe7 h1.2
      have g1:=gcd_ints b a s1 s2
      have hg:Nat.gcd a b≤b:=Nat.gcd_le_right _ (Nat.pos_of_ne_zero h0)
      have u1:=Qb8 false (u:=((Nat.gcd a b:Nat):Int)) (by omega)
      have e2:=Qps (x:=((Nat.gcd a b:Nat):Int)) (by omega)
      rw [QaD,Qbh] at u1
      simp only [Qnz,QrF,box0,go_sem] at g1
      simp only [bv] at u1
      refine .inr ?_
      rw [Qai]
      simp -implicitDefEqProofs (maxSteps:=9^8) only [QbT,QgT,Qh9,box0,boxI,go_sem,Qac,Qab,iv,bv,e1,e2,la,lb,t1,t2,g1,u1,reduceCtorEq,↓reduceIte,Nat.reduceEqDiff]
    · have td:=Qmi (x:=a) (y:=b) (Nat.pos_of_ne_zero h0) ha hb
      have e3:(a:Int)/(b:Int)=((a/b:Nat):Int):=rfl
      have e4:(a:Int)%(b:Int)=((a%b:Nat):Int):=rfl
      rw [e3,e4,Qbh,Qbh] at td
      have hlt:a%b<b:=Nat.mod_lt _ (Nat.pos_of_ne_zero h0)
      have hx:X G QbT (QgT a b)=some (.n,QgT b (a%b)):=by
        by_cases h2:(digs a).length≤2
        · have h3:¬ (digs b).length≤2:=fun h=>h1 ⟨h2,h⟩
          rw [if_pos h2,decide_eq_true h2] at t1
          rw [if_neg h3,decide_eq_false h3] at t2
          simp -implicitDefEqProofs (maxSteps:=9^8) only [QbT,QgT,Qh9,box0,boxI,go_sem,Qac,Qab,iv,bv,e1,la,lb,t1,t2,td,Qbl,ne_eq,not_false_eq_true,reduceCtorEq,↓reduceIte,Nat.reduceEqDiff]
        · rw [if_neg h2,decide_eq_false h2] at t1
          by_cases h3:(digs b).length≤2
          · rw [if_pos h3,decide_eq_true h3] at t2
            simp -implicitDefEqProofs (maxSteps:=9^8) only [QbT,QgT,Qh9,box0,boxI,go_sem,Qac,Qab,iv,bv,e1,la,lb,t1,t2,td,Qbl,ne_eq,not_false_eq_true,reduceCtorEq,↓reduceIte,Nat.reduceEqDiff]
          · rw [if_neg h3,decide_eq_false h3] at t2
            simp -implicitDefEqProofs (maxSteps:=9^8) only [QbT,QgT,Qh9,box0,boxI,go_sem,Qac,Qab,iv,bv,e1,la,lb,t1,t2,td,Qbl,ne_eq,not_false_eq_true,reduceCtorEq,↓reduceIte,Nat.reduceEqDiff]
      have hr:=ih (a%b) hlt b hb (Nat.le_trans (Qbn (Nat.le_of_lt hlt)) hb)
      rw [QlM] at hr
      rw [Qai,hx]
      exact hr

theorem Gcd_spec {x y:Int} (hx:nd x≤1000000000000) (hy:nd y≤1000000000000):Qah G Qkr [encI x,encI y]=some (.d (encI (Int.gcd x y:Nat))):=by
 rw [Qad (cf:=QhH) rfl]
 have hxn:(digs x.natAbs).length≤1000000000000:=hx
 have hyn:(digs y.natAbs).length≤1000000000000:=hy
 have o1:=Qfe false (Rw.dg (digs x.natAbs)) (by omega) (Qao _)
 have o2:=Qfe false (Rw.dg (digs y.natAbs)) (by omega) (Qao _)
 rw [QaD,QaJ,Qbh] at o1 o2
 simp only [bv] at o1 o2
 rw [Qbh]
 have e:Int.gcd x y=Nat.gcd x.natAbs y.natAbs:=rfl
 rw [e]
 rcases gcd_loop y.natAbs x.natAbs hxn hyn with g | g
 ·simp only [QgT,QtC,box0,boxI,go_sem] at g
  simp -implicitDefEqProofs (maxSteps:=9^8) only [QhH,encI,go_sem,Qac,Qab,iv,bv,o1,o2,g,reduceCtorEq,↓reduceIte,Nat.reduceEqDiff]
 ·simp only [QgT,Qh9,box0,boxI,go_sem] at g
  simp -implicitDefEqProofs (maxSteps:=9^8) only [QhH,encI,go_sem,Qac,Qab,iv,bv,o1,o2,g,reduceCtorEq,↓reduceIte,Nat.reduceEqDiff]
end Go.AM

/- gantryref04: normal, digit, tiny, compared, Compare, Sign, Neg -/
namespace Go.AM
open Go Go.RowKit

theorem QfT (st:St) (n:Nat) (cs:List D):src st (.d (.row n cs))=some (n,cs):=rfl
theorem QsV (x:Int):encI x=.agg [.v (.bool (decide (x<0))),dg (digs x.natAbs)]:=rfl
variable [Its]

section
variable (neg:Bool) (d:D) (l:List Int)
def QhX (n:Int):St:=mkS [(0,ab neg),(1,.d d),(4,.ptr [4] 0),(5,ai n)] [([4],box0)]
theorem nrm_go (hr:Rw d l) (n:Nat) (h:n<l.length) (hl:l.length<4611686018427387904) (h0:l.getD n 0=0):X G Qa0 (QhX neg d ((n+1:Nat):Int))=some (.n,QhX neg d n):=by
 have e1:decide (((n+1:Nat):Int)>0)=true:=gt_t (by omega)
 have e2:w64 (((n+1:Nat):Int)-1)=n:=by rw [Qae (by omega) (by omega)];omega
 have e3:=hr.ixn (j:=n) (by omega)
 have e4:=fun hp=>ldv hp l (j:=n) (by omega)
 have e5:((0:Int)>(n:Int))=False:=eq_false (by omega)
 simp -implicitDefEqProofs (maxSteps:=9^8) only [Qa0,QhX,box0,go_sem,QfB,mxV,iv,bv,e1,e2,e3,e4,e5,h0,beq_self_eq_true,reduceCtorEq,↓reduceIte,Nat.reduceEqDiff]
theorem nrm_stop (hr:Rw d l) (n:Nat) (h:n<l.length) (hl:l.length<4611686018427387904) (h0:l.getD n 0≠0):X G Qa0 (QhX neg d ((n+1:Nat):Int))=some (.x 0,QhX neg d ((n+1:Nat):Int)):=by
 have e1:decide (((n+1:Nat):Int)>0)=true:=gt_t (by omega)
 have e2:w64 (((n+1:Nat):Int)-1)=n:=by rw [Qae (by omega) (by omega)];omega
 have e3:=hr.ixn (j:=n) (by omega)
 have e4:=fun hp=>ldv hp l (j:=n) (by omega)
 have e5:((0:Int)>(n:Int))=False:=eq_false (by omega)
 simp -implicitDefEqProofs (maxSteps:=9^8) only [Qa0,QhX,box0,go_sem,QfB,mxV,iv,bv,e1,e2,e3,e4,e5,Qcx h0,reduceCtorEq,↓reduceIte,Nat.reduceEqDiff]
theorem nrm_zero:X G Qa0 (QhX neg d ((0:Nat):Int))=some (.x 0,QhX neg d ((0:Nat):Int)):=by
 have e1:decide ((0:Int)>0)=false:=rfl
 simp -implicitDefEqProofs (maxSteps:=9^8) only [Qa0,QhX,box0,go_sem,QfB,mxV,iv,bv,e1,reduceCtorEq,↓reduceIte,Nat.reduceEqDiff]
theorem Qr9 (hr:Rw d l) (hl:l.length<4611686018427387904):∀ n:Nat,n≤l.length→X G (.loop Qa0) (QhX neg d (n:Int))=some (.x 0,QhX neg d (cutn l n:Nat))
 | 0,_=>by
  rw [Qai,nrm_zero]
  rfl
 | n+1,h=>by
  rw [Qai,cutn]
  by_cases h0:l.getD n 0=0
  ·rw [nrm_go neg d l hr n (by omega) hl h0,if_pos h0]
   exact Qr9 hr hl n (by omega)
  ·rw [nrm_stop neg d l hr n (by omega) hl h0,if_neg h0]
   rfl
end

theorem Qbq (neg:Bool) {d:D} {l:List Int} (hr:Rw d l) (hl:l.length<4611686018427387904) (hd:Dig l):Qah G Qam [bv neg,d]=some (.d (encI (sgn neg (val l)))):=by
 rw [Qad (cf:=Qdl) rfl,QrO hd]
 have hc:=Qmw l l.length
 have el:=Qr9 neg d l hr hl l.length (Nat.le_refl _)
 simp only [QhX,box0,go_sem] at el
 generalize hn:cutn l l.length=n at *
 by_cases h0:n=0
 ·subst h0
  have e0:((0:Int)==0)=true:=rfl
  simp only [nc0] at el
  simp -implicitDefEqProofs (maxSteps:=9^8) only [Qdl,go_sem,Qac,Qab,iv,bv,hr.len,el,e0,reduceCtorEq,↓reduceIte,Nat.reduceEqDiff]
 ·obtain rfl:=hr.ne (by rintro rfl;simp [cutn] at hn;exact h0 hn.symm)
  have e0:(((n:Nat):Int)==0)=false:=Qcx (by omega)
  have e1:(0:Int)≤0∧(0:Int)≤(n:Int)∧(n:Int)≤(l.length:Int):=by omega
  simp only [rowI] at el
  simp -implicitDefEqProofs (maxSteps:=9^8) only [Qdl,go_sem,Qac,Qab,iv,bv,rowI,el,e0,e1,h0,reduceCtorEq,↓reduceIte,Nat.reduceEqDiff]

theorem Qhj {d:D} {l:List Int} (h:Rw d l) {i:Nat}:Qah G QbP [d,iv (i:Int)]=some (.d (iv (l.getD i 0))):=by
 rw [Qad (cf:=QdM) rfl]
 have hh:=h.len
 by_cases h0:i<l.length
 ·have e1:decide ((i:Int)<(l.length:Int))=true:=lt_t (by omega)
  have e2:=h.ixn (j:=i) h0
  have e3:=fun hp=>ldv hp l (j:=i) h0
  simp -implicitDefEqProofs (maxSteps:=9^8) only [QdM,go_sem,iv,bv,hh,e1,e2,e3,reduceCtorEq,↓reduceIte,Nat.reduceEqDiff]
 ·have e1:decide ((i:Int)<(l.length:Int))=false:=lt_f (by omega)
  have e2:l.getD i 0=0:=by rw [List.getD_eq_getElem?_getD,List.getElem?_eq_none (by omega)];rfl
  rw [e2]
  simp -implicitDefEqProofs (maxSteps:=9^8) only [QdM,go_sem,iv,bv,hh,e1,reduceCtorEq,↓reduceIte,Nat.reduceEqDiff]

theorem Qj5 {d:D} {l:List Int} (h:Rw d l) (hd:Dig l) (hl:l.length≤2):Qah G QbC [d]=some (.d (iv (val l))):=by
 rw [Qad (cf:=QfK) rfl]
 have d0:=Qhj h (i:=0)
 have d1:=Qhj h (i:=1)
 have b0:=hd.getD 0
 have b1:=hd.getD 1
 have e0:((1:Nat):Int)=1:=rfl
 simp only [nc0,e0,iv] at d0 d1
 have hv:val l=l.getD 1 0*1000000000+l.getD 0 0:=by
  match l,hl with
  | [],_=>simp [val]
  | [x],_=>simp [val]
  | [x,y],_=>simp [val];omega
 have e6:w64 (l.getD 1 0*1000000000)=l.getD 1 0*1000000000:=Qae (by omega) (by omega)
 have e7:w64 (l.getD 1 0*1000000000+l.getD 0 0)=l.getD 1 0*1000000000+l.getD 0 0:=Qae (by omega) (by omega)
 rw [hv]
 simp -implicitDefEqProofs (maxSteps:=9^8) only [QfK,go_sem,iv,bv,d0,d1,e6,e7,reduceCtorEq,↓reduceIte,Nat.reduceEqDiff]

section
variable (da db:D) (a b:List Int)
def Qhg (i:Int):St:=mkS [(0,.d da),(1,.d db),(5,ai i)] []
def QhB (x:Int):St:=mkS [(4,ai x)] []
theorem cmd_stop:X G Qaw (Qhg da db (-1))=some (.x 0,mkS [] []):=by
 have e1:decide ((-1:Int)≥0)=false:=rfl
 simp -implicitDefEqProofs (maxSteps:=9^8) only [Qaw,Qhg,go_sem,iv,bv,e1,reduceCtorEq,↓reduceIte,Nat.reduceEqDiff]
theorem cmd_go (hra:Rw da a) (hrb:Rw db b) {i:Nat} (ha:i<a.length) (hb:i<b.length) (hl:a.length<4611686018427387904) :
    X G Qaw (Qhg da db (i:Int))=if a.getD i 0<b.getD i 0 then some (.r,QhB (-1)) else if a.getD i 0>b.getD i 0 then some (.r,QhB 1) else some (.n,Qhg da db ((i:Int)-1)):=by
  have e1:decide ((i:Int)≥0)=true:=ge_t (by omega)
  have e2:=hra.ixn (j:=i) ha
  have e3:=fun hp=>ldv hp a (j:=i) ha
  have e4:=hrb.ixn (j:=i) hb
  have e5:=fun hp=>ldv hp b (j:=i) hb
  have e6:w64 ((i:Int)-1)=(i:Int)-1:=Qae (by omega) (by omega)
  by_cases h1:a.getD i 0<b.getD i 0
  · have e7:decide (a.getD i 0<b.getD i 0)=true:=lt_t h1
    rw [if_pos h1]
    simp -implicitDefEqProofs (maxSteps:=9^8) only [Qaw,Qhg,QhB,go_sem,iv,bv,e1,e2,e3,e4,e5,e6,e7,reduceCtorEq,↓reduceIte,Nat.reduceEqDiff]
  · have e7:decide (a.getD i 0<b.getD i 0)=false:=lt_f h1
    rw [if_neg h1]
    by_cases h2:a.getD i 0>b.getD i 0
    · have e8:decide (a.getD i 0>b.getD i 0)=true:=gt_t h2
      rw [if_pos h2]
      simp -implicitDefEqProofs (maxSteps:=9^8) only [Qaw,Qhg,QhB,go_sem,iv,bv,e1,e2,e3,e4,e5,e6,e7,e8,reduceCtorEq,↓reduceIte,Nat.reduceEqDiff]
    · have e8:decide (a.getD i 0>b.getD i 0)=false:=gt_f h2
      rw [if_neg h2]
      simp -implicitDefEqProofs (maxSteps:=9^8) only [Qaw,Qhg,QhB,go_sem,iv,bv,e1,e2,e3,e4,e5,e6,e7,e8,reduceCtorEq,↓reduceIte,Nat.reduceEqDiff]

theorem QnI {k:Nat} (ha:Dig a) (hb:Dig b) (hk:a.getD k 0<b.getD k 0):val (a.take (k+1))<val (b.take (k+1)):=by
 have _its:Its:=inferInstance
 rw [Qas,Qas]
 have h1:=Qo4 (l:=a) (j:=0) (n:=k) (fun x _ _=>ha.getD x)
 have e1:val (a.take k)<(1000000000:Int)^k:=by
  rcases Nat.lt_or_ge a.length k with h | h
  ·have:=QfU (ha.take k)
   have e:(a.take k).length≤k:=by rw [List.length_take];omega
   exact Int.lt_of_lt_of_le this (Qkn e)
  ·have:=QfU (ha.take k)
   have e:(a.take k).length≤k:=by rw [List.length_take];omega
   exact Int.lt_of_lt_of_le this (Qkn e)
 have e2:=Qa2 (hb.take k)
 have e3:(1000000000:Int)^k*(a.getD k 0+1)≤(1000000000:Int)^k*b.getD k 0:=Int.mul_le_mul_of_nonneg_left (by omega) (Int.le_of_lt (Qc2 k))
 rw [Int.mul_add,Int.mul_one] at e3
 generalize (1000000000:Int)^k*a.getD k 0=x at *
 generalize (1000000000:Int)^k*b.getD k 0=y at *
 clear h1
 omega

theorem Qsv      (hra:Rw da a) (hrb:Rw db b) (ha:Dig a) (hb:Dig b) (hl:a.length<4611686018427387904):∀ k:Nat,k≤a.length→k≤b.length →
    (X G (.loop Qaw) (Qhg da db ((k:Int)-1))=some (.x 0,mkS [] [])∧val (a.take k)=val (b.take k)) ∨
    (X G (.loop Qaw) (Qhg da db ((k:Int)-1))=some (.r,QhB (-1))∧val (a.take k)<val (b.take k)) ∨
    (X G (.loop Qaw) (Qhg da db ((k:Int)-1))=some (.r,QhB 1)∧val (b.take k)<val (a.take k))
  | 0, _, _ => .inl ⟨by
      have:((0:Nat):Int)-1 = -1:=rfl
      rw [this,Qai,cmd_stop];rfl,rfl⟩
  | k+1,h1,h2=>by
    have hx:=cmd_go da db a b hra hrb (i:=k) (by omega) (by omega) hl
    have e:((k+1:Nat):Int)-1=(k:Int):=by omega
    rw [e,Qai,hx]
    by_cases g1:a.getD k 0<b.getD k 0
    · rw [if_pos g1]
      exact .inr (.inl ⟨rfl,QnI a b ha hb g1⟩)
    · rw [if_neg g1]
      by_cases g2:a.getD k 0>b.getD k 0
      · rw [if_pos g2]
        exact .inr (.inr ⟨rfl,QnI b a hb ha g2⟩)
      · rw [if_neg g2]
        have g3:a.getD k 0=b.getD k 0:=by omega
        have ih:=Qsv hra hrb ha hb hl k (by omega) (by omega)
        rw [Qas a,Qas b,g3]
        rcases ih with ⟨i1,i2⟩ | ⟨i1,i2⟩ | ⟨i1,i2⟩
        · exact .inl ⟨i1,by rw [i2]⟩
        · exact .inr (.inl ⟨i1,Int.add_lt_add_right i2 _⟩)
        · exact .inr (.inr ⟨i1,Int.add_lt_add_right i2 _⟩)
end

theorem QeG           {da db:D} {a b:List Int} (hra:Rw da a) (hrb:Rw db b) (ha:Dig a) (hb:Dig b) (hat:Top a) (hbt:Top b) (hla:a.length<4611686018427387904) (hlb:b.length<4611686018427387904) :
    Qah G Qbj [da,db]=some (.d (iv (Int.sign (val a-val b)))):=by
  have ca:=hra.len
  have cb:=hrb.len
  have tg:=fun {u v:List Int} (hu:Dig u) (hv:Dig v) (hvt:Top v) (h:u.length<v.length)=>show val u<val v from by
    have h1:=QfU hu
    have h2:(1000000000:Int)^u.length≤val v:=by
      have hne:v≠[]:=by rintro rfl;simp at h
      obtain ⟨q,hq⟩:∃ q,v.length=q+1:=⟨v.length-1,by omega⟩
      have ht:=hvt hne
      have e:v.getLast hne=v.getD q 0:=by
        rw [List.getLast_eq_getElem,List.getD_eq_getElem?_getD,List.getElem?_eq_getElem (by omega)]
        simp [hq]
      rw [e] at ht
      have hp:=hv.getD q
      have e1:=Qc8 v (j:=q) (by omega)
      have e2:=Qa3 v q
      rw [List.drop_eq_nil_of_le (show v.length≤q+1 by omega)] at e2
      simp only [val,Int.mul_zero,Int.add_zero] at e2
      rw [e1,e2]
      have e3:=Qa2 (hv.take q)
      have e4:(1000000000:Int)^q*1≤(1000000000:Int)^q*v.getD q 0:=Int.mul_le_mul_of_nonneg_left (by clear e1;omega) (Int.le_of_lt (Qc2 q))
      have e5:=Qkn (show u.length≤q by omega)
      generalize (1000000000:Int)^q*v.getD q 0=x at *
      generalize (1000000000:Int)^q=y at *
      generalize (1000000000:Int)^u.length=z at *
      clear e1 e2 h1
      omega
    exact Int.lt_of_lt_of_le h1 h2
  rw [Qad (cf:=Qbf) rfl]
  by_cases h1:a.length<b.length
  · have hv:=tg ha hb hbt h1
    rw [Int.sign_eq_neg_one_of_neg (by omega)]
    have e1:decide ((a.length:Int)<(b.length:Int))=true:=lt_t (by omega)
    simp -implicitDefEqProofs (maxSteps:=9^8) only [Qbf,go_sem,iv,bv,ca,cb,e1,reduceCtorEq,↓reduceIte,Nat.reduceEqDiff]
  · have e1:decide ((a.length:Int)<(b.length:Int))=false:=lt_f (by omega)
    by_cases h2:b.length<a.length
    · have hv:=tg hb ha hat h2
      rw [Int.sign_eq_one_of_pos (by omega)]
      have e2:decide ((a.length:Int)>(b.length:Int))=true:=gt_t (by omega)
      simp -implicitDefEqProofs (maxSteps:=9^8) only [Qbf,go_sem,iv,bv,ca,cb,e1,e2,reduceCtorEq,↓reduceIte,Nat.reduceEqDiff]
    · have e2:decide ((a.length:Int)>(b.length:Int))=false:=gt_f (by omega)
      have hlen:b.length=a.length:=by omega
      have e3:w64 ((a.length:Int)-1)=(a.length:Int)-1:=Qae (by omega) (by omega)
      have hl:=Qsv da db a b hra hrb ha hb hla a.length (Nat.le_refl _) (by omega)
      rw [List.take_length,← hlen,List.take_length,hlen] at hl
      rw [hlen] at cb e1 e2
      rcases hl with ⟨i1,i2⟩ | ⟨i1,i2⟩ | ⟨i1,i2⟩
      · rw [show val a-val b=0 by omega]
        have e4:Int.sign 0=0:=rfl
        simp only [Qhg,go_sem] at i1
        simp -implicitDefEqProofs (maxSteps:=9^8) only [Qbf,go_sem,iv,bv,ca,cb,e1,e2,e3,e4,i1,reduceCtorEq,↓reduceIte,Nat.reduceEqDiff]
      · rw [Int.sign_eq_neg_one_of_neg (by omega)]
        simp only [Qhg,QhB,go_sem] at i1
        simp -implicitDefEqProofs (maxSteps:=9^8) only [Qbf,go_sem,iv,bv,ca,cb,e1,e2,e3,i1,reduceCtorEq,↓reduceIte,Nat.reduceEqDiff]
      · rw [Int.sign_eq_one_of_pos (by omega)]
        simp only [Qhg,QhB,go_sem] at i1
        simp -implicitDefEqProofs (maxSteps:=9^8) only [Qbf,go_sem,iv,bv,ca,cb,e1,e2,e3,i1,reduceCtorEq,↓reduceIte,Nat.reduceEqDiff]
end Go.AM

/- gantryref04: Compare, Sign, Neg, plus, minus, Add -/
namespace Go.AM
open Go Go.RowKit

theorem Qe1 (l:List Int) (v:Int):Qbw l++[A.d (.v (.int .i64 v))]=Qbw (l++[v]):=by simp [Qbw]
theorem Qf7 (v:Int):Qbw [v]=[A.d (.v (.int .i64 v))]:=rfl
theorem all_one (v:Int):List.all [D.v (.int .i64 v)] D.one=true:=rfl
def gA (k:Nat) (l:List Int):A:=if l=[] then .d (.z true) else .own [k] l.length
def gH (k:Nat) (l:List Int):List (Key×Obj):=if l=[] then [] else [([k],arrI l.length l)]
theorem QdW (k:Nat):gA k []=.d (.z true):=rfl
theorem QdZ (k:Nat):gH k []=[]:=rfl
theorem Qhd {k:Nat} {l:List Int} (h:l≠[]):gA k l=.own [k] l.length:=if_neg h
theorem Qhb {k:Nat} {l:List Int} (h:l≠[]):gH k l=[([k],arrI l.length l)]:=if_neg h
theorem QnO (k:Nat) (v:Int):gA k [v]=.own [k] 1:=rfl
theorem QnG (k:Nat) (v:Int):gH k [v]=[([k],arrI 1 [v])]:=rfl
theorem QjE (k:Nat) (l:List Int) (v:Int):gA k (l++[v])=.own [k] (l.length+1):=by rw [Qhd (by simp)];simp
theorem Qju (k:Nat) (l:List Int) (v:Int):gH k (l++[v])=[([k],arrI (l.length+1) (l++[v]))]:=by rw [Qhb (by simp)];simp
theorem QlQ {l:List Int} (h:(l.length+1)*8≤140737488351232):((l.length+1)*8≤bound)=True:=eq_true (by simp only [bound];omega)
theorem Qkm:(8≤bound)=True:=eq_true (by decide)
theorem Qtd {l:List Int} {v:Int} (h:Dig l) (hv:0≤v∧v<1000000000):Dig (l++[v]):=Dig.append.2 ⟨h,Dig.cons.2 ⟨hv,Dig.nil⟩⟩
theorem Qsx (l:List Int) (v:Int):val (l++[v])=val l+(1000000000:Int)^l.length*v:=by rw [Qg9];simp [val]
theorem Qaa (k:Key):QbE hp0 k none=hp0:=by
 funext j
 simp [QbE,hp0]
def gR (l:List Int):R:=if l=[] then .d (.z true) else .own 1 l.length (l.map iv)
variable [Its]

theorem QmN {x:Int} (hx:nd x≤1000000000000):Qah G QdB [encI x]=some (.d (encI (-x))):=by
 rw [Qad (cf:=Qga) rfl]
 have hx':(digs x.natAbs).length<4611686018427387904:=Nat.lt_of_le_of_lt hx (by decide)
 have g:Hid (Qah G Qam [bv (!decide (x<0)),dg (digs x.natAbs)]=some (.d (encI (-x)))):=by
  have hl:(digs x.natAbs).length<4611686018427387904:=hx'
  have:=Qbq (!decide (x<0)) (Rw.dg (digs x.natAbs)) hl (Qao _)
  rw [Qdn] at this
  have e:sgn (!decide (x<0)) (x.natAbs:Int) = -x:=by
   by_cases h:x<0
   ·simp [sgn,h];omega
   ·simp [sgn,h];omega
  rw [e] at this
  exact this
 have g':=g.out
 simp only [bv] at g'
 simp -implicitDefEqProofs (maxSteps:=9^8) only [Qga,QsV x,go_sem,Qac,Qab,iv,bv,g',encI,reduceCtorEq,↓reduceIte,Nat.reduceEqDiff]
theorem QjO {x y:Int} (hx:nd x≤1000000000000) (hy:nd y≤1000000000000):Qah G Qdq [encI x,encI y]=some (.d (iv (Int.sign (x-y)))):=by
 rw [Qad (cf:=QbM) rfl]
 have hx':(digs x.natAbs).length≤1000000000000:=hx
 have hy':(digs y.natAbs).length≤1000000000000:=hy
 have g0:=QeG (Rw.dg _) (Rw.dg _) (Qao x.natAbs) (Qao y.natAbs) (Qb9 _) (Qb9 _) (by omega) (by omega)
 have g1:=QeG (Rw.dg _) (Rw.dg _) (Qao y.natAbs) (Qao x.natAbs) (Qb9 _) (Qb9 _) (by omega) (by omega)
 rw [Qdn,Qdn] at g0 g1
 simp only [iv] at g0 g1
 by_cases h:x<0<;>by_cases h2:y<0
 ·have e1:decide (x<0)=true:=decide_eq_true h
  have e2:decide (y<0)=true:=decide_eq_true h2
  have e3:(y.natAbs:Int)-(x.natAbs:Int)=x-y:=by omega
  have e4:(true==true)=true:=rfl
  rw [e3] at g1
  simp -implicitDefEqProofs (maxSteps:=9^8) only [QbM,encI,go_sem,Qac,Qab,iv,bv,e1,e2,e4,g1,reduceCtorEq,↓reduceIte,Nat.reduceEqDiff]
 ·have e1:decide (x<0)=true:=decide_eq_true h
  have e2:decide (y<0)=false:=decide_eq_false h2
  have e3:Int.sign (x-y) = -1:=Int.sign_eq_neg_one_of_neg (by omega)
  have e4:(true==false)=false:=rfl
  simp -implicitDefEqProofs (maxSteps:=9^8) only [QbM,encI,go_sem,Qac,Qab,iv,bv,e1,e2,e3,e4,reduceCtorEq,↓reduceIte,Nat.reduceEqDiff]
 ·have e1:decide (x<0)=false:=decide_eq_false h
  have e2:decide (y<0)=true:=decide_eq_true h2
  have e3:Int.sign (x-y)=1:=Int.sign_eq_one_of_pos (by omega)
  have e4:(false==true)=false:=rfl
  simp -implicitDefEqProofs (maxSteps:=9^8) only [QbM,encI,go_sem,Qac,Qab,iv,bv,e1,e2,e3,e4,reduceCtorEq,↓reduceIte,Nat.reduceEqDiff]
 ·have e1:decide (x<0)=false:=decide_eq_false h
  have e2:decide (y<0)=false:=decide_eq_false h2
  have e3:(x.natAbs:Int)-(y.natAbs:Int)=x-y:=by omega
  have e4:(false==false)=true:=rfl
  rw [e3] at g0
  simp -implicitDefEqProofs (maxSteps:=9^8) only [QbM,encI,go_sem,Qac,Qab,iv,bv,e1,e2,e4,g0,reduceCtorEq,↓reduceIte,Nat.reduceEqDiff]
theorem Qtq {x:Int} (hx:nd x≤1000000000000):Qah G QgR [encI x]=some (.d (iv (Int.sign x))):=by
 rw [Qad (cf:=QfO) rfl]
 have g:=QjO (x:=x) (y:=0) hx (by rw [Ql5];omega)
 rw [Int.sub_zero,Qim,QsV x] at g
 simp only [iv,bv] at g
 simp -implicitDefEqProofs (maxSteps:=9^8) only [QfO,encI,go_sem,Qac,Qab,iv,bv,g,reduceCtorEq,↓reduceIte,Nat.reduceEqDiff]

section
variable (da db:D) (a b:List Int)
def QlD (o:List Int) (c i:Int):St:=mkS [(0,.d da),(1,.d db),(5,gA 38 o),(6,ai c),(7,ai i)] (gH 38 o)
def Qlt (o:List Int):St:=mkS [(5,gA 38 o)] (gH 38 o)

theorem rp_ge {i:Nat} {l:List Int} (h:l.length≤i):l.getD i 0=0:=by
 have _its:Its:=inferInstance
 rw [List.getD_eq_getElem?_getD,List.getElem?_eq_none h];rfl

theorem rp_stop (hra:Rw da a) (hrb:Rw db b) {o:List Int} {i:Nat} (h1:a.length≤i) (h2:b.length≤i):X G Qa5 (QlD da db o 0 (i:Int))=some (.x 0,Qlt o):=by
 have e1:decide ((i:Int)<(a.length:Int))=false:=lt_f (by omega)
 have e2:decide ((i:Int)<(b.length:Int))=false:=lt_f (by omega)
 have e3:decide ((0:Int)>0)=false:=rfl
 by_cases ho:o=[]
 ·subst ho
  simp -implicitDefEqProofs (maxSteps:=9^8) only [Qa5,QlD,Qlt,QdW,QdZ,Qaa,go_sem,iv,bv,hra.len,hrb.len,e1,e2,e3,Qal,reduceCtorEq,↓reduceIte,Nat.reduceEqDiff]
 ·simp -implicitDefEqProofs (maxSteps:=9^8) only [Qa5,QlD,Qlt,Qhd ho,Qhb ho,go_sem,iv,bv,hra.len,hrb.len,e1,e2,e3,Qal,reduceCtorEq,↓reduceIte,Nat.reduceEqDiff]

theorem rp_go (hra:Rw da a) (hrb:Rw db b) (ha:Dig a) (hb:Dig b) {o:List Int} {c:Int} {i:Nat} (hc:0≤c∧c≤1) (hi:i<a.length∨i<b.length∨c>0) (hil:i<4611686018427387904) (hol:(o.length+1)*8≤140737488351232) :
    X G Qa5 (QlD da db o c (i:Int))=some (.n,QlD da db (o++[(a.getD i 0+b.getD i 0+c)%1000000000]) ((a.getD i 0+b.getD i 0+c)/1000000000) ((i+1:Nat):Int)):=by
  obtain ⟨e1,e2,e3,e4,e5,e6,e7⟩:=Qsl (ha.getD i) (hb.getD i) hc
  have d1:=Qhj hra (i:=i)
  have d2:=Qhj hrb (i:=i)
  simp only [iv] at d1 d2
  have n1:=QfI (b:=1000000000) e3
  have n2:=Qee (b:=1000000000) e3
  have n3:w64 ((i:Int)+1)=((i+1:Nat):Int):=by rw [Qae (by omega) (by omega)];omega
  have f1:=QlQ hol
  have f2:=Qkm
  generalize hv:(a.getD i 0+b.getD i 0+c)%1000000000=v at *
  generalize hq:(a.getD i 0+b.getD i 0+c)/1000000000=q at *
  have key:∀ (t1 t2 t3:Bool),(decide ((i:Int)<(a.length:Int))=t1)→(decide ((i:Int)<(b.length:Int))=t2)→(decide (c>0)=t3)→(t1||t2||t3)=true→X G Qa5 (QlD da db o c (i:Int))=some (.n,QlD da db (o++[v]) q ((i+1:Nat):Int)):=by
    intro t1 t2 t3 h1 h2 h3 h4
    by_cases ho:o=[]
    · subst ho
      cases t1<;>cases t2<;>cases t3<;>first
        | exact absurd h4 (by decide)
        | simp -implicitDefEqProofs (maxSteps:=9^8) only [Qa5,QlD,Qlt,QdW,QdZ,Qaa,QnO,QnG,QjE,Qju,go_sem,QfT,iv,bv,hra.len,hrb.len,h1,h2,h3,d1,d2,e1,e2,e4,n1,n2,n3,f2,hv,hq,Qf7,D.one,allD,Qal,reduceCtorEq,↓reduceIte,Nat.reduceEqDiff]
    · cases t1 <;> cases t2 <;> cases t3 <;> first
        | exact absurd h4 (by decide)
        | simp -implicitDefEqProofs (maxSteps:=9^8) only [Qa5,QlD,Qlt,Qhd ho,Qhb ho,QjE,Qju,go_sem,QfT,iv,bv,hra.len,hrb.len,h1,h2,h3,d1,d2,e1,e2,e4,n1,n2,n3,f1,f2,hv,hq,Qe1,Qak,D.one,allD,Qal,reduceCtorEq,↓reduceIte,Nat.reduceEqDiff]
  refine key _ _ _ rfl rfl rfl ?_
  simp only [Bool.or_eq_true,decide_eq_true_eq]
  omega

theorem rp_loop (hra:Rw da a) (hrb:Rw db b) (ha:Dig a) (hb:Dig b) (hl:(max a.length b.length+2)*8≤140737488351232):∀ (k i:Nat) (o:List Int) (c:Int),i+k=max a.length b.length+1→(0≤c∧c≤1)→(i=max a.length b.length+1→c=0)→o.length=i→Dig o→val o+(1000000000:Int)^i*c=val (a.take i)+val (b.take i) →
    ∃ o',X G (.loop Qa5) (QlD da db o c (i:Int))=some (.x 0,Qlt o')∧Dig o'∧o'.length≤max a.length b.length+1∧val o'=val a+val b
  | 0,i,o,c,hi,hc,h0,ho,hd,hv=>by
    have hc0:=h0 (by omega)
    subst hc0
    refine ⟨o,by rw [Qai,rp_stop da db a b hra hrb (by omega) (by omega)];rfl,hd,by omega, ?_⟩
    rw [Int.mul_zero,Int.add_zero,List.take_of_length_le (by omega),List.take_of_length_le (by omega)] at hv
    exact hv
  | k+1,i,o,c,hi,hc,h0,ho,hd,hv=>by
    by_cases hmore:i<a.length∨i<b.length∨c>0
    · obtain ⟨_,_,_,_,e5,e6,e7⟩:=Qsl (ha.getD i) (hb.getD i) hc
      have hx:=rp_go da db a b hra hrb ha hb hc hmore (by omega) (o:=o) (by omega)
      have hlast:i+1=max a.length b.length+1→(a.getD i 0+b.getD i 0+c)/1000000000=0:=by
        intro h
        rw [rp_ge (i:=i) (l:=a) (by omega),rp_ge (i:=i) (l:=b) (by omega)]
        omega
      obtain ⟨o',g1,g2⟩:=rp_loop hra hrb ha hb hl k (i+1) (o++[(a.getD i 0+b.getD i 0+c)%1000000000]) ((a.getD i 0+b.getD i 0+c)/1000000000) (by omega) e5 hlast (by simp;omega) (Qtd hd e6) (by
        rw [Qsx,ho,Qas a,Qas b,Int.pow_succ]
        generalize (a.getD i 0+b.getD i 0+c)%1000000000=R at *
        generalize (a.getD i 0+b.getD i 0+c)/1000000000=Q at *
        clear hx e5 e6 hlast
        grind)
      exact ⟨o',by rw [Qai,hx];exact g1,g2⟩
    · have hc0:c=0:=by omega
      subst hc0
      refine ⟨o,by rw [Qai,rp_stop da db a b hra hrb (by omega) (by omega)];rfl,hd,by omega, ?_⟩
      rw [Int.mul_zero,Int.add_zero,List.take_of_length_le (by omega),List.take_of_length_le (by omega)] at hv
      exact hv
end

theorem Qtx        {da db:D} {a b:List Int} (hra:Rw da a) (hrb:Rw db b) (ha:Dig a) (hb:Dig b) (hl:(max a.length b.length+2)*8≤140737488351232) :
    ∃ out,Qah G QgB [da,db]=some (gR out)∧out.length≤max a.length b.length+1∧Dig out∧val out=val a+val b:=by
  obtain ⟨o,h1,h2,h3,h4⟩:=rp_loop da db a b hra hrb ha hb hl (max a.length b.length+1) 0 [] 0 (by omega) (by omega) (fun h=>rfl) rfl .nil (by simp [val])
  refine ⟨o, ?_,h3,h2,h4⟩
  rw [Qad (cf:=Qd8) rfl]
  by_cases ho:o=[]
  · subst ho
    simp only [QlD,Qlt,QdW,QdZ,Qaa,go_sem,nc0] at h1
    simp -implicitDefEqProofs (maxSteps:=9^8) only [Qd8,gR,Qaa,go_sem,iv,bv,h1,Qal,reduceCtorEq,↓reduceIte,Nat.reduceEqDiff]
  · simp only [QlD,Qlt,QdW,QdZ,Qaa,Qhd ho,Qhb ho,go_sem,nc0] at h1
    simp -implicitDefEqProofs (maxSteps:=9^8) only [Qd8,gR,ho,Qaa,go_sem,iv,bv,h1,Qal,QbV,reduceCtorEq,↓reduceIte,Nat.reduceEqDiff]
end Go.AM

/- gantryref04: minus, Add, Of -/
namespace Go.AM
open Go Go.RowKit

theorem QkJ (k:Key) (h:Hp) (l:List Int):retA k h false true (gR l)=some (.d (dg l),h):=by
 by_cases hl:l=[]
 ·subst hl;rfl
 ·rw [gR,if_neg hl,Qom hl];rfl
theorem sub_arith {x y c:Int} (hx:0≤x∧x<1000000000) (hy:0≤y∧y<1000000000) (hc:0≤c∧c≤1) :
    w64 (x-y)=x-y∧w64 (x-y-c)=x-y-c∧(x-y-c<0→w64 (x-y-c+1000000000)=x-y-c+1000000000∧0≤x-y-c+1000000000∧x-y-c+1000000000<1000000000)∧(¬ x-y-c<0→0≤x-y-c∧x-y-c<1000000000) :=
  ⟨Qae (by omega) (by omega),Qae (by omega) (by omega),fun _=>⟨Qae (by omega) (by omega),by omega,by omega⟩,fun _=>⟨by omega,by omega⟩⟩
variable [Its]

section
variable (da db:D) (a b:List Int)
def QlF (o:List Int) (c i:Int):St:=mkS [(0,.d da),(1,.d db),(5,gA 32 o),(6,ai c),(7,ai i)] (gH 32 o)
def Qnl (o:List Int):St:=mkS [(5,gA 32 o)] (gH 32 o)

theorem rm_stop (hra:Rw da a) {o:List Int} (c:Int):X G QaL (QlF da db o c (a.length:Int))=some (.x 0,Qnl o):=by
 have e1:decide ((a.length:Int)<(a.length:Int))=false:=lt_f (by omega)
 by_cases ho:o=[]
 ·subst ho
  simp -implicitDefEqProofs (maxSteps:=9^8) only [QaL,QlF,Qnl,QdW,QdZ,Qaa,go_sem,iv,bv,hra.len,e1,Qal,reduceCtorEq,↓reduceIte,Nat.reduceEqDiff]
 ·simp -implicitDefEqProofs (maxSteps:=9^8) only [QaL,QlF,Qnl,Qhd ho,Qhb ho,go_sem,iv,bv,hra.len,e1,Qal,reduceCtorEq,↓reduceIte,Nat.reduceEqDiff]

theorem rm_go (hra:Rw da a) (hrb:Rw db b) (ha:Dig a) (hb:Dig b) {o:List Int} {c:Int} {i:Nat} (hc:0≤c∧c≤1) (hi:i<a.length) (hil:i<4611686018427387904) (hol:(o.length+1)*8≤140737488351232) :
    ∃ v c',(0≤v∧v<1000000000)∧(0≤c'∧c'≤1)∧v=a.getD i 0-b.getD i 0-c+1000000000*c'∧X G QaL (QlF da db o c (i:Int))=some (.n,QlF da db (o++[v]) c' ((i+1:Nat):Int)):=by
  obtain ⟨e1,e2,e3,e4⟩:=sub_arith (ha.getD i) (hb.getD i) hc
  have d2:=Qhj hrb (i:=i)
  simp only [iv] at d2
  have n1:=hra.ixn (j:=i) hi
  have n2:=fun hp=>ldv hp a (j:=i) hi
  have n3:w64 ((i:Int)+1)=((i+1:Nat):Int):=by rw [Qae (by omega) (by omega)];omega
  have n4:decide ((i:Int)<(a.length:Int))=true:=lt_t (by omega)
  have f1:=QlQ hol
  have f2:=Qkm
  obtain ⟨w,hw⟩:∃ w,a.getD i 0-b.getD i 0-c=w:=⟨_,rfl⟩
  rw [hw] at e2 e3 e4 ⊢
  by_cases h0:w<0
  · obtain ⟨e5,e6⟩:=e3 h0
    have e7:decide (w<0)=true:=lt_t h0
    refine ⟨w+1000000000,1,e6,by omega,by omega, ?_⟩
    by_cases ho:o=[]
    · subst ho
      simp -implicitDefEqProofs (maxSteps:=9^8) only [QaL,QlF,QdW,QdZ,Qaa,QnO,QnG,go_sem,QfT,iv,bv,hra.len,n1,n2,n3,n4,d2,e1,hw,e2,e5,e7,f2,Qf7,D.one,allD,Qal,reduceCtorEq,↓reduceIte,Nat.reduceEqDiff]
    · simp -implicitDefEqProofs (maxSteps:=9^8) only [QaL,QlF,Qhd ho,Qhb ho,QjE,Qju,go_sem,QfT,iv,bv,hra.len,n1,n2,n3,n4,d2,e1,hw,e2,e5,e7,f1,f2,Qe1,Qak,D.one,allD,Qal,reduceCtorEq,↓reduceIte,Nat.reduceEqDiff]
  · have e5:=e4 h0
    have e7:decide (w<0)=false:=lt_f h0
    refine ⟨w,0,e5,by omega,by omega, ?_⟩
    by_cases ho:o=[]
    · subst ho
      simp -implicitDefEqProofs (maxSteps:=9^8) only [QaL,QlF,QdW,QdZ,Qaa,QnO,QnG,go_sem,QfT,iv,bv,hra.len,n1,n2,n3,n4,d2,e1,hw,e2,e7,f2,Qf7,D.one,allD,Qal,reduceCtorEq,↓reduceIte,Nat.reduceEqDiff]
    · simp -implicitDefEqProofs (maxSteps:=9^8) only [QaL,QlF,Qhd ho,Qhb ho,QjE,Qju,go_sem,QfT,iv,bv,hra.len,n1,n2,n3,n4,d2,e1,hw,e2,e7,f1,f2,Qe1,Qak,D.one,allD,Qal,reduceCtorEq,↓reduceIte,Nat.reduceEqDiff]

theorem rm_loop (hra:Rw da a) (hrb:Rw db b) (ha:Dig a) (hb:Dig b) (hl:(a.length+1)*8≤140737488351232):∀ (k i:Nat) (o:List Int) (c:Int),i+k=a.length→(0≤c∧c≤1)→o.length=i→Dig o→val o-(1000000000:Int)^i*c=val (a.take i)-val (b.take i) →
    ∃ o' c',X G (.loop QaL) (QlF da db o c (i:Int))=some (.x 0,Qnl o')∧Dig o'∧o'.length=a.length∧(0≤c'∧c'≤1)∧val o'-(1000000000:Int)^a.length*c'=val a-val (b.take a.length)
  | 0,i,o,c,hi,hc,ho,hd,hv=>by
    obtain rfl:i=a.length:=by omega
    refine ⟨o,c,by rw [Qai,rm_stop da db a hra c];rfl,hd,ho,hc, ?_⟩
    rw [hv,List.take_length]
  | k+1,i,o,c,hi,hc,ho,hd,hv=>by
    obtain ⟨v,c',h1,h2,h3,hx⟩:=rm_go da db a b hra hrb ha hb hc (i:=i) (o:=o) (by omega) (by omega) (by omega)
    obtain ⟨o',c2,g1,g2⟩:=rm_loop hra hrb ha hb hl k (i+1) (o++[v]) c' (by omega) h2 (by simp;omega) (Qtd hd h1) (by
      rw [Qsx,ho,Qas a,Qas b,Int.pow_succ,h3]
      clear hx h1 h2 h3
      grind)
    exact ⟨o',c2,by rw [Qai,hx];exact g1,g2⟩
end

theorem QhD         {da db:D} {a b:List Int} (hra:Rw da a) (hrb:Rw db b) (ha:Dig a) (hb:Dig b) (hl:(a.length+1)*8≤140737488351232) (hbl:b.length≤a.length) (hle:val b≤val a) :
    ∃ out,Qah G Qch [da,db]=some (gR out)∧out.length=a.length∧Dig out∧val out=val a-val b:=by
  obtain ⟨o,c,h1,h2,h3,h4,h5⟩:=rm_loop da db a b hra hrb ha hb hl a.length 0 [] 0 (by omega) (by omega) rfl .nil (by simp [val])
  rw [List.take_of_length_le hbl] at h5
  have hc:c=0:=by
    rcases Int.lt_or_le 0 c with h | h
    · exfalso
      have e1:c=1:=by omega
      subst e1
      have e2:=QfU h2
      rw [h3] at e2
      rw [Int.mul_one] at h5
      generalize (1000000000:Int)^a.length=x at *
      omega
    · omega
  subst hc
  rw [Int.mul_zero,Int.sub_zero] at h5
  refine ⟨o, ?_,h3,h2,h5⟩
  rw [Qad (cf:=QdD) rfl]
  by_cases ho:o=[]
  · subst ho
    simp only [QlF,Qnl,QdW,QdZ,go_sem,nc0] at h1
    simp -implicitDefEqProofs (maxSteps:=9^8) only [QdD,gR,Qaa,go_sem,iv,bv,h1,Qal,reduceCtorEq,↓reduceIte,Nat.reduceEqDiff]
  · simp only [QlF,Qnl,QdW,QdZ,Qhd ho,Qhb ho,go_sem,nc0] at h1
    simp -implicitDefEqProofs (maxSteps:=9^8) only [QdD,gR,ho,Qaa,go_sem,iv,bv,h1,Qal,QbV,reduceCtorEq,↓reduceIte,Nat.reduceEqDiff]

theorem QpB {x y:Int} (hx:nd x≤1000000000000) (hy:nd y≤1000000000000):Qah G Qe2 [encI x,encI y]=some (.d (encI (x+y))):=by
  rw [Qad (cf:=Qdz) rfl]
  have hx':(digs x.natAbs).length≤1000000000000:=hx
  have hy':(digs y.natAbs).length≤1000000000000:=hy
  have dx:=Qao x.natAbs
  have dy:=Qao y.natAbs
  have vx:=Qdn x
  have vy:=Qdn y
  by_cases hs:decide (x<0)=decide (y<0)
  · obtain ⟨out,g1,g2,g3,g4⟩:=Qtx (Rw.dg _) (Rw.dg _) dx dy (by omega)
    have g5:=Qbq (decide (x<0)) (Rw.dg out) (by omega) g3
    have e1:(decide (x<0)==decide (y<0))=true:=by rw [hs];simp
    have e2:sgn (decide (x<0)) (val out)=x+y:=by
      rw [g4,vx,vy]
      by_cases h:x<0
      · have h2:y<0:=by simpa [h] using hs
        simp [sgn,h];omega
      · have h2:¬ y<0:=by simpa [h] using hs
        simp [sgn,h];omega
    rw [e2] at g5
    simp only [bv] at g5
    simp -implicitDefEqProofs (maxSteps:=9^8) only [Qdz,encI,go_sem,QkJ,Qac,Qab,iv,bv,e1,g1,g5,reduceCtorEq,↓reduceIte,Nat.reduceEqDiff]
  · have e1:(decide (x<0)==decide (y<0))=false:=by simpa using hs
    have g0:=QeG (Rw.dg _) (Rw.dg _) dx dy (Qb9 _) (Qb9 _) (by omega) (by omega)
    rw [vx,vy] at g0
    simp only [iv] at g0
    by_cases hlt:x.natAbs<y.natAbs
    · have hsg:Int.sign ((x.natAbs:Int)-(y.natAbs:Int)) = -1:=Int.sign_eq_neg_one_of_neg (by omega)
      rw [hsg] at g0
      obtain ⟨out,g1,g2,g3,g4⟩:=QhD (Rw.dg _) (Rw.dg _) dy dx (by omega) (Qbn (by omega)) (by rw [vx,vy];omega)
      have g5:=Qbq (decide (y<0)) (Rw.dg out) (by omega) g3
      have e2:sgn (decide (y<0)) (val out)=x+y:=by
        rw [g4,vx,vy]
        by_cases h:y<0
        · have h2:¬ x<0:=by intro h3;exact hs (by simp [h,h3])
          simp [sgn,h];omega
        · have h2 : x < 0 := by
            rcases Int.lt_or_le x 0 with h3 | h3
            · exact h3
            · exact absurd (by simp [h,Int.not_lt.2 h3]) hs
          simp [sgn,h];omega
      rw [e2] at g5
      simp only [bv] at g5
      have e3:decide ((-1:Int)<0)=true:=rfl
      simp -implicitDefEqProofs (maxSteps:=9^8) only [Qdz,encI,go_sem,QkJ,Qac,Qab,iv,bv,e1,e3,g0,g1,g5,reduceCtorEq,↓reduceIte,Nat.reduceEqDiff]
    · have e3 : decide (Int.sign ((x.natAbs : Int) - (y.natAbs : Int)) < 0) = false := by
        apply lt_f
        rcases Int.lt_or_le 0 ((x.natAbs:Int)-(y.natAbs:Int)) with h | h
        · rw [Int.sign_eq_one_of_pos h];omega
        · rw [show (x.natAbs:Int)-(y.natAbs:Int)=0 by omega];exact Int.lt_irrefl 0
      obtain ⟨out,g1,g2,g3,g4⟩:=QhD (Rw.dg _) (Rw.dg _) dx dy (by omega) (Qbn (by omega)) (by rw [vx,vy];omega)
      have g5:=Qbq (decide (x<0)) (Rw.dg out) (by omega) g3
      have e2:sgn (decide (x<0)) (val out)=x+y:=by
        rw [g4,vx,vy]
        by_cases h:x<0
        · have h2:¬ y<0:=by intro h3;exact hs (by simp [h,h3])
          simp [sgn,h];omega
        · have h2 : y < 0 := by
            rcases Int.lt_or_le y 0 with h3 | h3
            · exact h3
            · exact absurd (by simp [h,Int.not_lt.2 h3]) hs
          simp [sgn,h];omega
      rw [e2] at g5
      simp only [bv] at g5
      simp -implicitDefEqProofs (maxSteps:=9^8) only [Qdz,encI,go_sem,QkJ,Qac,Qab,iv,bv,e1,e3,g0,g1,g5,reduceCtorEq,↓reduceIte,Nat.reduceEqDiff]
end Go.AM

/- gantryref04: Of, Mul -/
namespace Go.AM
open Go Go.RowKit

theorem of_arith (neg:Bool) {m:Nat} (hm:m≤9223372036854775808) (hp:neg=false→m<9223372036854775808) :
    (sgn neg (m:Int)).tmod 1000000000=sgn neg ((m%1000000000:Nat):Int)∧w64 ((sgn neg (m:Int)).tdiv 1000000000)=sgn neg ((m/1000000000:Nat):Int):=by
  have e1:(m:Int).tmod 1000000000=((m%1000000000:Nat):Int):=by rw [Int.tmod_eq_emod_of_nonneg (by omega)];rfl
  have e2:(m:Int).tdiv 1000000000=((m/1000000000:Nat):Int):=by rw [Int.tdiv_eq_ediv_of_nonneg (by omega)];rfl
  cases neg
  · simp only [sgn,Bool.false_eq_true,if_false]
    rw [e1,e2]
    exact ⟨rfl,Qae (by omega) (by omega)⟩
  · simp only [sgn,if_true]
    rw [Int.neg_tmod,Int.neg_tdiv,e1,e2]
    exact ⟨rfl,Qae (by omega) (by omega)⟩
variable [Its]

section
variable (neg:Bool)
def Qh2 (d:List Int) (n:Int):St:=mkS [(0,ai n),(2,.ptr [2] 0),(3,gA 19 d),(4,ab neg)] (([2],box0) :: gH 19 d)
def QkX (d:List Int):St:=mkS [(2,.ptr [2] 0),(3,gA 19 d),(4,ab neg)] (([2],box0) :: gH 19 d)
theorem rof_stop {d:List Int}:X G Qa7 (Qh2 neg d 0)=some (.x 0,QkX neg d):=by
 have e1:((0:Int) != 0)=false:=rfl
 by_cases ho:d=[]
 ·subst ho
  simp -implicitDefEqProofs (maxSteps:=9^8) only [Qa7,Qh2,QkX,QdW,QdZ,Qaa,box0,go_sem,iv,bv,e1,Qal,reduceCtorEq,↓reduceIte,Nat.reduceEqDiff]
 ·simp -implicitDefEqProofs (maxSteps:=9^8) only [Qa7,Qh2,QkX,Qhd ho,Qhb ho,box0,go_sem,iv,bv,e1,Qal,reduceCtorEq,↓reduceIte,Nat.reduceEqDiff]

theorem rof_go {d:List Int} {m:Nat} (hm:m≤9223372036854775808) (hp:neg=false→m<9223372036854775808) (h0:m≠0) (hd:(d.length+1)*8≤140737488351232) :
    X G Qa7 (Qh2 neg d (sgn neg (m:Int)))=some (.n,Qh2 neg (d++[((m%1000000000:Nat):Int)]) (sgn neg ((m/1000000000:Nat):Int))):=by
  obtain ⟨e1,e2⟩:=of_arith neg hm hp
  have e3:(sgn neg (m:Int) != 0)=true:=QqK (by cases neg<;>simp [sgn]<;>omega)
  have f1:=QlQ hd
  have f2:=Qkm
  by_cases hk:neg=true∧m%1000000000≠0
  · obtain ⟨rfl,hk⟩:=hk
    have e4:decide (sgn true ((m%1000000000:Nat):Int)<0)=true:=lt_t (by simp only [sgn,if_true];omega)
    have e5:w64 (0-sgn true ((m%1000000000:Nat):Int))=((m%1000000000:Nat):Int):=by
      rw [Qae (by simp only [sgn,if_true];omega) (by simp only [sgn,if_true];omega)]
      simp only [sgn,if_true];omega
    generalize hv:((m%1000000000:Nat):Int)=v at *
    by_cases ho:d=[]
    · subst ho
      simp -implicitDefEqProofs (maxSteps:=9^8) only [Qa7,Qh2,QdW,QdZ,Qaa,QnO,QnG,box0,go_sem,QfT,iv,bv,e1,e2,e3,e4,e5,f2,Qf7,D.one,allD,Qal,reduceCtorEq,↓reduceIte,Nat.reduceEqDiff]
    · simp -implicitDefEqProofs (maxSteps:=9^8) only [Qa7,Qh2,Qhd ho,Qhb ho,QjE,Qju,box0,go_sem,QfT,iv,bv,e1,e2,e3,e4,e5,f1,f2,Qe1,Qak,D.one,allD,Qal,reduceCtorEq,↓reduceIte,Nat.reduceEqDiff]
  · have e6 : sgn neg ((m % 1000000000 : Nat) : Int) = ((m % 1000000000 : Nat) : Int) := by
      cases neg
      · rfl
      · have:m%1000000000=0:=Classical.byContradiction fun h=>hk ⟨rfl,h⟩
        rw [this];rfl
    rw [e6] at e1
    have e4:decide (((m%1000000000:Nat):Int)<0)=false:=lt_f (by omega)
    generalize hv:((m%1000000000:Nat):Int)=v at *
    by_cases ho:d=[]
    · subst ho
      simp -implicitDefEqProofs (maxSteps:=9^8) only [Qa7,Qh2,QdW,QdZ,Qaa,QnO,QnG,box0,go_sem,QfT,iv,bv,e1,e2,e3,e4,f2,Qf7,D.one,allD,Qal,reduceCtorEq,↓reduceIte,Nat.reduceEqDiff]
    · simp -implicitDefEqProofs (maxSteps:=9^8) only [Qa7,Qh2,Qhd ho,Qhb ho,QjE,Qju,box0,go_sem,QfT,iv,bv,e1,e2,e3,e4,f1,f2,Qe1,Qak,D.one,allD,Qal,reduceCtorEq,↓reduceIte,Nat.reduceEqDiff]

theorem rof_loop:∀ (m:Nat) (d:List Int),m≤9223372036854775808→(neg=false→m<9223372036854775808)→d.length+(digs m).length≤3 →
    X G (.loop Qa7) (Qh2 neg d (sgn neg (m:Int)))=some (.x 0,QkX neg (d++digs m)):=by
  intro m
  induction m using Nat.strongRecOn with
  | _ m ih =>
  intro d hm hp hl
  rw [Qai]
  by_cases h0:m=0
  · subst h0
    have e:sgn neg ((0:Nat):Int)=0:=by cases neg<;>rfl
    rw [e,rof_stop,Qax,List.append_nil];rfl
  · have hd:=Qeu (Nat.pos_of_ne_zero h0)
    rw [hd,List.length_cons] at hl
    rw [rof_go neg hm hp h0 (by omega),Option.bind_some,if_pos rfl]
    have:=ih (m/1000000000) (Nat.div_lt_self (Nat.pos_of_ne_zero h0) (by omega)) (d++[((m%1000000000:Nat):Int)]) (by omega) (fun h=>by have:=hp h;omega) (by simp;omega)
    rw [hd]
    rw [this,List.append_assoc]
    rfl
end

theorem Qhs {n:Int} (h:I64 n):Qah G QbH [iv n]=some (.d (encI n)):=by
 obtain ⟨h1,h2⟩:=h
 rw [Qad (cf:=Qfj) rfl]
 have hsg:sgn (decide (n<0)) (n.natAbs:Int)=n:=by
  by_cases h:n<0
  ·simp [sgn,h];omega
  ·simp [sgn,h];omega
 have hnd:(digs n.natAbs).length≤3:=Qhl ⟨h1,h2⟩
 have hl:=rof_loop (decide (n<0)) n.natAbs [] (by omega) (fun h=>by have:¬ n<0:=of_decide_eq_false h;omega) (by simpa using hnd)
 rw [hsg,List.nil_append] at hl
 have hn:=Qbq (decide (n<0)) (Rw.dg (digs n.natAbs)) (by omega) (Qao _)
 rw [Qdn,hsg] at hn
 simp only [bv] at hn
 by_cases h0:digs n.natAbs=[]
 ·rw [h0] at hl hn
  simp only [Qh2,QkX,QdW,QdZ,box0,go_sem] at hl
  simp only [Qpc] at hn
  simp -implicitDefEqProofs (maxSteps:=9^8) only [Qfj,encI,Qfz,Qaa,go_sem,Qac,Qab,iv,bv,hl,hn,reduceCtorEq,↓reduceIte,Nat.reduceEqDiff]
 ·simp only [Qh2,QkX,QdW,QdZ,Qhd h0,Qhb h0,box0,go_sem] at hl
  rw [Qom h0] at hn
  simp -implicitDefEqProofs (maxSteps:=9^8) only [Qfj,encI,Qfz,Qaa,go_sem,Qac,Qab,iv,bv,hl,hn,QbV,Qal,reduceCtorEq,↓reduceIte,Nat.reduceEqDiff]
end Go.AM

/- gantryref04: Mul -/
namespace Go.AM
open Go Go.RowKit

theorem rmul_w {o a b c:Int} (ho:0≤o∧o<1000000000) (ha:0≤a∧a<1000000000) (hb:0≤b∧b<1000000000) (hc:0≤c∧c<1000000000) :
    w64 (a*b)=a*b∧w64 (o+a*b)=o+a*b∧w64 (o+a*b+c)=o+a*b+c∧0≤o+a*b+c∧w64 ((o+a*b+c)/1000000000)=(o+a*b+c)/1000000000 ∧
    (0≤(o+a*b+c)/1000000000∧(o+a*b+c)/1000000000<1000000000)∧(0≤(o+a*b+c)%1000000000∧(o+a*b+c)%1000000000<1000000000)∧(o+a*b+c)%1000000000+1000000000*((o+a*b+c)/1000000000)=o+a*b+c:=by
  obtain ⟨m1,m2,_⟩:=QrM (u:=0) (c:=0) (by omega) ha hb (by omega)
  generalize a*b=x at *
  refine ⟨Qae (by omega) (by omega),Qae (by omega) (by omega),Qae (by omega) (by omega),by omega,Qae (by omega) (by omega),by omega,by omega,by omega⟩
theorem rmul_ix {i k n N:Nat} (h:i+k<N) (hN:N<4611686018427387904):w64 ((i:Int)+(k:Int))=((i+k:Nat):Int)∧((0:Int)≤((i+k:Nat):Int)∧((i+k:Nat):Int)<((N:Nat):Int))∧w64 ((k:Int)+1)=((k+1:Nat):Int)∧w64 ((i:Int)+1)=((i+1:Nat):Int):=by
 refine ⟨?_,by omega, ?_, ?_⟩<;>rw [Qae (by omega) (by omega)]<;>omega
def bxI (neg:Bool) (d:D):Obj:=⟨0,0,[.d (.v (.bool neg)),.d d],false⟩
variable [Its]

section
variable (na nb:Bool) (da db:D) (a b:List Int) (N:Nat)
def QqO (i:Int) (o:List Int) (c k:Int):St:=mkS [(2,.ptr [2] 0),(3,.ptr [3] 0),(4,.ptr [4] 0),(5,.own [17] N),(6,ai i),(7,ai c),(8,ai k)] [([2],bxI na da),([3],bxI nb db),([4],box0),([17],arrI N o)]
def Qte (i:Int) (o:List Int) (c:Int):St:=mkS [(2,.ptr [2] 0),(3,.ptr [3] 0),(4,.ptr [4] 0),(5,.own [17] N),(6,ai i),(7,ai c)] [([2],bxI na da),([3],bxI nb db),([4],box0),([17],arrI N o)]
def QqJ (i:Int) (o:List Int):St:=mkS [(2,.ptr [2] 0),(3,.ptr [3] 0),(4,.ptr [4] 0),(5,.own [17] N),(6,ai i)] [([2],bxI na da),([3],bxI nb db),([4],box0),([17],arrI N o)]
def QsZ (o:List Int):St:=mkS [(2,.ptr [2] 0),(3,.ptr [3] 0),(4,.ptr [4] 0),(5,.own [17] N)] [([2],bxI na da),([3],bxI nb db),([4],box0),([17],arrI N o)]

theorem rx_stop (hrb:Rw db b) {i:Int} {o:List Int} {c:Int}:X G Qb5 (QqO na nb da db N i o c (b.length:Int))=some (.x 2,Qte na nb da db N i o c):=by
 have e1:decide ((b.length:Int)<(b.length:Int))=false:=lt_f (by omega)
 simp -implicitDefEqProofs (maxSteps:=9^8) only [Qb5,QqO,Qte,bxI,box0,go_sem,Qab,iv,bv,hrb.len,e1,Qal,reduceCtorEq,↓reduceIte,Nat.reduceEqDiff]
theorem rx_go (hra:Rw da a) (hrb:Rw db b) (ha:Dig a) (hb:Dig b) {o:List Int} (ho:Dig o) (hoN:o.length=N) (hN:N<4611686018427387904) {c:Int} (hc:0≤c∧c<1000000000) {i k:Nat} (hi:i<a.length) (hk:k<b.length) (hik:i+k<N) :
    X G Qb5 (QqO na nb da db N (i:Int) o c (k:Int))=some (.n,QqO na nb da db N (i:Int) (o.set (i+k) ((o.getD (i+k) 0+a.getD i 0*b.getD k 0+c)%1000000000)) ((o.getD (i+k) 0+a.getD i 0*b.getD k 0+c)/1000000000) ((k+1:Nat):Int)):=by
  obtain ⟨e1,e2,e3,e4,e5,_⟩:=rmul_w (ho.getD (i+k)) (ha.getD i) (hb.getD k) hc
  obtain ⟨i1,i2,i3,_⟩:=rmul_ix (n:=0) hik hN
  have n1:=hra.ixn (j:=i) hi
  have n2:=fun hp=>ldv hp a (j:=i) hi
  have n3:=hrb.ixn (j:=k) hk
  have n4:=fun hp=>ldv hp b (j:=k) hk
  have n5:=Qb7 (l:=o) (off:=i+k) (hoN ▸ hik)
  have n6:=fun v=>Qbu (l:=o) (off:=i+k) (v:=v) (hoN ▸ hik)
  have n7:decide ((k:Int)<(b.length:Int))=true:=lt_t (by omega)
  have q1:=QfI (b:=1000000000) e4
  have q2:=Qee (b:=1000000000) e4
  have l2:∀ (h:Hp) (cs:List A) (o:Nat),Qab none o cs=cs[o]?:=fun _ _ _=>rfl
  have l3:∀ (n:Bool) (d:D),Qab none 1 [A.d (.v (.bool n)),A.d d]=some (.d d):=fun _ _=>rfl
  simp -implicitDefEqProofs (maxSteps:=9^8) only [Qb5,QqO,bxI,box0,go_sem,l3,iv,bv,hrb.len,e1,e2,e3,e5,q1,q2,i1,i2,i3,n1,n2,n3,n4,n5,n6,n7,allD,Qal,QbV,Qak,reduceCtorEq,↓reduceIte,Nat.reduceEqDiff]

theorem rx_loop (hra:Rw da a) (hrb:Rw db b) (ha:Dig a) (hb:Dig b) (hN:N<4611686018427387904) {i:Nat} (hi:i<a.length) (hib:i+b.length<N) (u0:List Int):∀ (j k:Nat) (o:List Int) (c:Int),k+j=b.length→Dig o→o.length=N→(0≤c∧c<1000000000)→(∀ x,i+k≤x→o.getD x 0=u0.getD x 0) →
    val o+(1000000000:Int)^(i+k)*c=val u0+(1000000000:Int)^i*(a.getD i 0*val (b.take k)) →
    ∃ o' c',X G (.loop Qb5) (QqO na nb da db N (i:Int) o c (k:Int))=some (.x 2,Qte na nb da db N (i:Int) o' c')∧Dig o'∧o'.length=N∧(0≤c'∧c'<1000000000)∧(∀ x,i+b.length≤x→o'.getD x 0=u0.getD x 0) ∧
      val o'+(1000000000:Int)^(i+b.length)*c'=val u0+(1000000000:Int)^i*(a.getD i 0*val b)
  | 0,k,o,c,hk,ho,hoN,hc,h1,hv=>by
    obtain rfl:k=b.length:=by omega
    refine ⟨o,c,by rw [Qai,rx_stop na nb da db b N hrb];rfl,ho,hoN,hc,h1, ?_⟩
    rw [hv,List.take_length]
  | j+1,k,o,c,hk,ho,hoN,hc,h1,hv=>by
    have hx:=rx_go na nb da db a b N hra hrb ha hb ho hoN hN hc hi (k:=k) (by omega) (by omega)
    obtain ⟨_,_,_,_,_,e6,e7,e8⟩:=rmul_w (ho.getD (i+k)) (ha.getD i) (hb.getD k) hc
    obtain ⟨o',c2,g1,g2⟩:=rx_loop hra hrb ha hb hN hi hib u0 j (k+1) (o.set (i+k) ((o.getD (i+k) 0+a.getD i 0*b.getD k 0+c)%1000000000)) ((o.getD (i+k) 0+a.getD i 0*b.getD k 0+c)/1000000000) (by omega) (ho.set e7) (by simpa using hoN) e6 (fun x hx'=>by rw [Qbd _ (by omega)];exact h1 x (by omega)) (by
      rw [Qe8 _ _ _ (by omega),Qas b k,show i+(k+1)=(i+k)+1 by omega,Int.pow_succ,Int.pow_add]
      rw [Int.pow_add] at hv
      generalize (o.getD (i+k) 0+a.getD i 0*b.getD k 0+c)%1000000000=R at *
      generalize (o.getD (i+k) 0+a.getD i 0*b.getD k 0+c)/1000000000=Q at *
      clear hx e6 e7 h1
      grind)
    exact ⟨o',c2,by rw [Qai,hx];exact g1,g2⟩

theorem ry_stop (hra:Rw da a) {o:List Int}:X G Qb3 (QqJ na nb da db N (a.length:Int) o)=some (.x 0,QsZ na nb da db N o):=by
 have e1:decide ((a.length:Int)<(a.length:Int))=false:=lt_f (by omega)
 simp -implicitDefEqProofs (maxSteps:=9^8) only [Qb3,QqJ,QsZ,bxI,box0,go_sem,Qab,iv,bv,hra.len,e1,Qal,reduceCtorEq,↓reduceIte,Nat.reduceEqDiff]

theorem ry_go (hra:Rw da a) (hrb:Rw db b) (ha:Dig a) (hb:Dig b) (hNe:a.length+b.length=N) (hN:N<4611686018427387904) {o:List Int} (ho:Dig o) (hoN:o.length=N) {i:Nat} (hi:i<a.length) (hz:∀ x,i+b.length≤x→o.getD x 0=0) (hv:val o=val (a.take i)*val b) :
    ∃ o',Dig o'∧o'.length=N∧(∀ x,i+1+b.length≤x→o'.getD x 0=0)∧val o'=val (a.take (i+1))*val b∧X G Qb3 (QqJ na nb da db N (i:Int) o)=some (.n,QqJ na nb da db N ((i+1:Nat):Int) o'):=by
  have hib:i+b.length<N:=by omega
  obtain ⟨o1,c1,hx,d1,l1,hc,h1,hv1⟩:=rx_loop na nb da db a b N hra hrb ha hb hN hi hib o b.length 0 o 0 (by omega) ho hoN (by omega) (fun _ _=>rfl) (by simp [val])
  refine ⟨o1.set (i+b.length) c1,d1.set hc,by simpa using l1,fun x hx'=>by rw [Qbd _ (by omega),h1 x (by omega)];exact hz x (by omega), ?_, ?_⟩
  · rw [Qe8 _ _ _ (by omega),h1 _ (Nat.le_refl _),hz _ (Nat.le_refl _),Int.sub_zero,hv1,hv,Qas a i]
    grind
  · obtain ⟨i1,i2,_,i4⟩:=rmul_ix (n:=0) hib hN
    have n6:=fun v=>Qbu (l:=o1) (off:=i+b.length) (v:=v) (by omega)
    have n7:decide ((i:Int)<(a.length:Int))=true:=lt_t (by omega)
    have l3:∀ (n:Bool) (d:D),Qab none 1 [A.d (.v (.bool n)),A.d d]=some (.d d):=fun _ _=>rfl
    simp only [QqO,Qte,bxI,box0,go_sem,nc0] at hx
    simp -implicitDefEqProofs (maxSteps:=9^8) only [Qb3,QqJ,bxI,box0,go_sem,l3,iv,bv,hra.len,hrb.len,i1,i2,i4,n6,n7,hx,allD,Qal,QbV,Qak,reduceCtorEq,↓reduceIte,Nat.reduceEqDiff]

theorem ry_loop (hra:Rw da a) (hrb:Rw db b) (ha:Dig a) (hb:Dig b) (hNe:a.length+b.length=N) (hN:N<4611686018427387904):∀ (k i:Nat) (o:List Int),i+k=a.length→Dig o→o.length=N→(∀ x,i+b.length≤x→o.getD x 0=0)→val o=val (a.take i)*val b →
    ∃ o',X G (.loop Qb3) (QqJ na nb da db N (i:Int) o)=some (.x 0,QsZ na nb da db N o')∧Dig o'∧o'.length=N∧val o'=val a*val b
  | 0,i,o,hi,ho,hoN,hz,hv=>by
    obtain rfl:i=a.length:=by omega
    exact ⟨o,by rw [Qai,ry_stop na nb da db a N hra];rfl,ho,hoN,by rw [hv,List.take_length]⟩
  | k+1,i,o,hi,ho,hoN,hz,hv=>by
    obtain ⟨o1,d1,l1,z1,v1,hx⟩:=ry_go na nb da db a b N hra hrb ha hb hNe hN ho hoN (i:=i) (by omega) hz hv
    obtain ⟨o',g1,g2⟩:=ry_loop hra hrb ha hb hNe hN k (i+1) o1 (by omega) d1 l1 z1 v1
    exact ⟨o',by rw [Qai,hx];exact g1,g2⟩
end

theorem Qd2 {x y:Int} (hx:nd x≤1000000000000) (hy:nd y≤1000000000000):Qah G QaV [encI x,encI y]=some (.d (encI (x*y))):=by
 rw [Qad (cf:=Qgt) rfl]
 have hx':(digs x.natAbs).length≤1000000000000:=hx
 have hy':(digs y.natAbs).length≤1000000000000:=hy
 obtain ⟨N,hN⟩:∃ N,(digs x.natAbs).length+(digs y.natAbs).length=N:=⟨_,rfl⟩
 obtain ⟨o,g1,g2,g3,g4⟩:=ry_loop (decide (x<0)) (decide (y<0)) (dg (digs x.natAbs)) (dg (digs y.natAbs)) (digs x.natAbs) (digs y.natAbs) N (Rw.dg _) (Rw.dg _) (Qao _) (Qao _) hN (by omega) (digs x.natAbs).length 0 (List.replicate N 0) (by omega) (Dig.replicate _) (by simp)
  (fun x _=>by simp only [List.getD_eq_getElem?_getD,List.getElem?_replicate];split<;>rfl) (by rw [QfZ];simp [val])
 have e0:=QaZ (digs x.natAbs)
 have e1:=QaZ (digs y.natAbs)
 have hw:w64 (((digs x.natAbs).length:Int)+((digs y.natAbs).length:Int))=((N:Nat):Int):=by rw [Qae (by omega) (by omega)];omega
 have hm:=bnd N (by omega)
 have g5:=Qbq (!(decide (x<0)==decide (y<0))) (Rw.row o) (by omega) g2
 rw [g4,Qdn,Qdn,QoP] at g5
 simp only [rowI,bv,g3] at g5
 simp only [QqJ,QsZ,bxI,box0,go_sem,nc0] at g1
 simp -implicitDefEqProofs (maxSteps:=9^8) only [Qgt,encI,Qfz,go_sem,Qac,Qab,iv,bv,e0,e1,hw,hm,Qk2,Qal,QbV,g1,g5,reduceCtorEq,↓reduceIte,Nat.reduceEqDiff]
end Go.AM

/- gantryref04: times, divided -/
namespace Go.AM
open Go Go.RowKit

theorem row_cons (v:Int) (l:List Int):D.row (1+l.length) (D.v (.int .i64 v) :: l.map iv)=rowI (v :: l):=by rw [rowI,List.length_cons,Nat.add_comm];rfl
theorem all_ints (l:List Int):List.all (l.map iv) D.one=true:=by simp [iv,D.one,A.one]
theorem Qi4 (x:Nat):nd (x:Int)=(digs x).length:=rfl
theorem bs_mid {lo hi q R y:Nat} (h1:lo≤q) (h2:q≤hi) (h3:lo<hi) (hq:q=R/y) (hy:0<y):(y*((lo+hi+1)/2)≤R→(lo+hi+1)/2≤q)∧(¬ y*((lo+hi+1)/2)≤R→q≤(lo+hi+1)/2-1):=by
 subst hq
 constructor
 ·intro h
  rw [Nat.le_div_iff_mul_le hy,Nat.mul_comm];exact h
 ·intro h
  have:R/y<(lo+hi+1)/2:=by
   rw [Nat.div_lt_iff_lt_mul hy,Nat.mul_comm]
   exact Nat.not_le.1 h
  omega
variable [Its]

theorem QnV {y k:Nat} (hy:(digs y).length≤999999999999) (hk:k<1000000000):Qah G Qeh [dg (digs y),iv (k:Int)]=some (.d (dg (digs (y*k)))):=by
 rw [Qad (cf:=QeV) rfl]
 have g1:=Qbq false (Rw.dg (digs y)) (by omega) (Qao y)
 rw [QaD,QaJ] at g1
 have g2:=Qhs (n:=(k:Int)) ⟨by omega,by omega⟩
 have g3:=Qd2 (x:=(y:Int)) (y:=(k:Int)) (by rw [Qi4];omega) (by rw [Qi4];have:=Qhl (x:=(k:Int)) ⟨by omega,by omega⟩;rw [Qi4] at this;omega)
 have e:(y:Int)*(k:Int)=((y*k:Nat):Int):=rfl
 rw [e,Qbh] at g3
 rw [Qbh] at g1 g2 g3
 rw [Qbh] at g3
 simp only [bv,iv] at g1 g2 g3
 simp -implicitDefEqProofs (maxSteps:=9^8) only [QeV,go_sem,Qac,Qab,iv,bv,g1,g2,g3,reduceCtorEq,↓reduceIte,Nat.reduceEqDiff]

section
variable (da:D) (y n:Nat) (o:List Int) (i R:Nat)
def Qox (lo hi:Nat):St:=mkS [(0,.d da),(1,.d (dg (digs y))),(8,.own [42] n),(9,.d (dg (digs R))),(10,ai (i:Int)),(12,ai (lo:Int)),(13,ai (hi:Int))] [([42],arrI n o)]
def Qs6 (lo:Nat):St:=mkS [(0,.d da),(1,.d (dg (digs y))),(8,.own [42] n),(9,.d (dg (digs R))),(10,ai (i:Int)),(12,ai (lo:Int))] [([42],arrI n o)]

theorem rb_go {lo hi:Nat} (hy:(digs y).length≤999999999999) (hR:(digs R).length≤1000000000001) (hlt:lo<hi) (hh:hi<1000000000) :
    X G Qbk (Qox da y n o i R lo hi)=some (.n,if y*((lo+hi+1)/2)≤R then Qox da y n o i R ((lo+hi+1)/2) hi else Qox da y n o i R lo ((lo+hi+1)/2-1)):=by
  have e1:decide ((lo:Int)<(hi:Int))=true:=lt_t (by omega)
  have e2:w64 ((lo:Int)+(hi:Int))=(lo:Int)+(hi:Int):=Qae (by omega) (by omega)
  have e3:w64 ((lo:Int)+(hi:Int)+1)=(lo:Int)+(hi:Int)+1:=Qae (by omega) (by omega)
  have e4:((lo:Int)+(hi:Int)+1).tdiv 2=(((lo+hi+1)/2:Nat):Int):=by rw [Int.tdiv_eq_ediv_of_nonneg (by omega)];omega
  have e5:w64 (((lo+hi+1)/2:Nat):Int)=(((lo+hi+1)/2:Nat):Int):=Qae (by omega) (by omega)
  have e9:((2:Int)=0)=False:=by simp
  have hm:(lo+hi+1)/2<1000000000:=by omega
  have hm1:1≤(lo+hi+1)/2:=by omega
  have t1:=QnV (y:=y) (k:=(lo+hi+1)/2) hy hm
  generalize (lo+hi+1)/2=mid at *
  have hly:(digs (y*mid)).length≤1000000000002:=by
    have:=Qdm (x:=(y:Int)) (y:=(mid:Int))
    have e:(y:Int)*(mid:Int)=((y*mid:Nat):Int):=rfl
    rw [e] at this
    rw [Qi4,Qi4,Qi4] at this
    have h3:=Qhl (x:=(mid:Int)) ⟨by omega,by omega⟩
    rw [Qi4] at h3
    omega
  have t2:=QeG (Rw.dg (digs (y*mid))) (Rw.dg (digs R)) (Qao _) (Qao _) (Qb9 _) (Qb9 _) (by omega) (by omega)
  rw [QaJ,QaJ] at t2
  simp only [iv] at t1 t2
  have e6:w64 ((mid:Int)-1)=((mid-1:Nat):Int):=by rw [Qae (by omega) (by omega)];omega
  by_cases hle:y*mid≤R
  · have e7 : decide (Int.sign (((y * mid : Nat) : Int) - (R : Int)) ≤ 0) = true := by
      apply le_t
      generalize y*mid=z at *
      rcases Int.lt_or_le ((z:Int)-(R:Int)) 0 with h | h
      · rw [Int.sign_eq_neg_one_of_neg h];omega
      · rw [show (z:Int)-(R:Int)=0 by omega];exact Int.le_refl 0
    rw [if_pos hle]
    simp -implicitDefEqProofs (maxSteps:=9^8) only [Qbk,Qox,go_sem,iv,bv,e1,e2,e3,e4,e5,e6,e7,e9,t1,t2,Qal,reduceCtorEq,↓reduceIte,Nat.reduceEqDiff]
  · have e7 : decide (Int.sign (((y * mid : Nat) : Int) - (R : Int)) ≤ 0) = false := by
      apply le_f
      generalize y*mid=z at *
      rw [Int.sign_eq_one_of_pos (by omega)];omega
    rw [if_neg hle]
    simp -implicitDefEqProofs (maxSteps:=9^8) only [Qbk,Qox,go_sem,iv,bv,e1,e2,e3,e4,e5,e6,e7,e9,t1,t2,Qal,reduceCtorEq,↓reduceIte,Nat.reduceEqDiff]

theorem Qoa (hy0:0<y) (hy:(digs y).length≤999999999999) (hR:(digs R).length≤1000000000001):∀ (k lo hi:Nat),hi-lo≤k→lo≤R/y→R/y≤hi→hi<1000000000→X G (.loop Qbk) (Qox da y n o i R lo hi)=some (.x 2,Qs6 da y n o i R (R/y))
 | k,lo,hi,hk,h1,h2,hh=>by
  rw [Qai]
  by_cases hlt:lo<hi
  ·rw [rb_go da y n o i R hy hR hlt hh,Option.bind_some,if_pos rfl]
   obtain ⟨b1,b2⟩:=bs_mid (R:=R) (y:=y) h1 h2 hlt rfl hy0
   cases k with
   | zero=>omega
   | succ k =>
    by_cases hle:y*((lo+hi+1)/2)≤R
    ·rw [if_pos hle]
     exact Qoa hy0 hy hR k _ _ (by omega) (b1 hle) h2 hh
    ·rw [if_neg hle]
     exact Qoa hy0 hy hR k _ _ (by omega) h1 (b2 hle) (by omega)
  ·have he:lo=R/y:=by omega
   have e1:decide ((lo:Int)<(hi:Int))=false:=lt_f (by omega)
   rw [← he]
   simp -implicitDefEqProofs (maxSteps:=9^8) only [Qbk,Qox,Qs6,go_sem,iv,bv,e1,Qal,reduceCtorEq,↓reduceIte,Nat.reduceEqDiff]
 termination_by k=>k
end
end Go.AM

/- gantryref04: divided -/
namespace Go.AM
open Go Go.RowKit

theorem app1_fact {l:List Int} (h:l.length≤1000000000000):((1+l.length)*8≤bound)=True:=eq_true (by simp only [bound];omega)
theorem nat_digit {v:Int} (h:0≤v):∃ n:Nat,v=(n:Int):=⟨v.toNat,by omega⟩
theorem digs_step {v r y:Nat} (hv:v<1000000000) (hr:r<y):(digs (v+1000000000*r)).length≤(digs y).length+1:=by
 apply QgZ
 have h1:y<1000000000^(digs y).length:=by
  have:=Qc6 (y:Int)
  rw [Qi4] at this
  simpa using this
 rw [Nat.pow_succ]
 generalize 1000000000^(digs y).length=z at *
 omega
theorem Qtf {v r y:Nat} (hv:v<1000000000) (hr:r<y):(v+1000000000*r)/y<1000000000:=by
 rw [Nat.div_lt_iff_lt_mul (by omega)]
 omega
theorem rem_step (R y:Nat):(R:Int)-((y*(R/y):Nat):Int)=((R%y:Nat):Int):=by
 have:=Nat.div_add_mod R y
 generalize y*(R/y)=z at *
 omega
theorem cast_dm (A y:Nat):(y:Int)*((A/y:Nat):Int)+((A%y:Nat):Int)=(A:Int):=by
 have h:=Nat.div_add_mod A y
 generalize A/y=q at *
 generalize A%y=m at *
 subst h
 rw [Int.natCast_add,Int.natCast_mul]
theorem dig_nat {n:Nat} (h:n<1000000000):0≤(n:Int)∧(n:Int)<1000000000:=by omega
theorem st2 (x y u v:A):Qac 0 [x,y] [u,v]=some [x,y]:=rfl
theorem ld1 (u v:A):Qab none 1 [u,v]=some v:=rfl
variable [Its]

section
variable (da:D) (a:List Int) (y:Nat)
def Qog (o:List Int) (r:Nat) (i:Int):St:=mkS [(0,.d da),(1,.d (dg (digs y))),(8,.own [42] a.length),(9,.d (dg (digs r))),(10,ai i)] [([42],arrI a.length o)]
def QpK (o:List Int) (r:Nat):St:=mkS [(8,.own [42] a.length),(9,.d (dg (digs r)))] [([42],arrI a.length o)]

theorem rd_stop (o:List Int) (r:Nat):X G Qbb (Qog da a y o r (-1))=some (.x 0,QpK a o r):=by
 have e1:decide ((-1:Int)≥0)=false:=rfl
 simp -implicitDefEqProofs (maxSteps:=9^8) only [Qbb,Qog,QpK,go_sem,iv,bv,e1,Qal,reduceCtorEq,↓reduceIte,Nat.reduceEqDiff]

theorem rd_go (hra:Rw da a) (ha:Dig a) (hy:(digs y).length≤999999999999) (hl:a.length≤1000000000000) {o:List Int} (ho:o.length=a.length) {r i v:Nat} (hi:i<a.length) (hr:r<y) (hv:a.getD i 0=(v:Int)) :
    X G Qbb (Qog da a y o r (i:Int))=some (.n,Qog da a y (o.set i (((v+1000000000*r)/y:Nat):Int)) ((v+1000000000*r)%y) ((i:Int)-1)):=by
  have hvd:=ha.getD i
  rw [hv] at hvd
  have hvn:v<1000000000:=by omega
  have hRl:=digs_step (y:=y) hvn hr
  have hq:=Qtf (y:=y) hvn hr
  have hrl:=Qbn (Nat.le_of_lt hr)
  have e1:decide ((i:Int)≥0)=true:=ge_t (by omega)
  have e2:=hra.ixn (j:=i) hi
  have e3:=fun hp=>ldv hp a (j:=i) hi
  rw [hv] at e3
  have e4:w64 ((i:Int)-1)=(i:Int)-1:=Qae (by omega) (by omega)
  have e5:(0:Int)≤(i:Int)∧(i:Int)<((a.length:Nat):Int):=by omega
  have e6:=fun x=>Qbu (l:=o) (off:=i) (v:=x) (by omega)
  have f1:=app1_fact (l:=digs r) (by omega)
  have f2:=all_ints (digs r)
  have nr:=Qbq false (Rw.row ((v:Int) :: digs r)) (by simp;omega) (Dig.cons.2 ⟨hvd,Qao r⟩)
  rw [QaD,val,QaJ,← row_cons] at nr
  have eR:(v:Int)+1000000000*(r:Int)=((v+1000000000*r:Nat):Int):=by omega
  rw [eR] at nr
  obtain ⟨R,hR⟩:∃ R,v+1000000000*r=R:=⟨_,rfl⟩
  rw [hR] at nr hRl hq ⊢
  rw [Qbh] at nr
  have cp:=QeG (Rw.dg (digs R)) (Rw.dg (digs y)) (Qao _) (Qao _) (Qb9 _) (Qb9 _) (by omega) (by omega)
  rw [QaJ,QaJ] at cp
  have tm:=QnV (y:=y) (k:=R/y) hy hq
  have hle:y*(R/y)≤R:=Nat.mul_div_le R y
  obtain ⟨out,m1,m2,m3,m4⟩:=QhD (Rw.dg (digs R)) (Rw.dg (digs (y*(R/y)))) (Qao _) (Qao _) (by omega) (Qbn hle) (by rw [QaJ,QaJ];exact Int.ofNat_le.2 hle)
  rw [QaJ,QaJ,rem_step] at m4
  have n2:=Qbq false (Rw.dg out) (by omega) m3
  rw [QaD,m4,Qbh] at n2
  have hyp:0<y:=by omega
  have c9:((999999999:Nat):Int)=999999999:=rfl
  simp only [bv,iv] at nr cp tm n2
  by_cases hlt:R<y
  · have c1:decide (Int.sign ((R:Int)-(y:Int))<0)=true:=by rw [Int.sign_eq_neg_one_of_neg (by omega)];rfl
    have hx:=Qoa da y a.length o i R hyp hy (by omega) 0 0 0 (by omega) (Nat.zero_le _) (by rw [Nat.div_eq_of_lt hlt];exact Nat.le_refl _) (by omega)
    simp only [Qox,Qs6,go_sem] at hx
    simp -implicitDefEqProofs (maxSteps:=9^8) only [Qbb,Qog,go_sem,st2,ld1,src_dg,QfT,List.length_map,iv,bv,e1,e2,e3,e4,e5,e6,f1,f2,nr,cp,c1,hx,tm,m1,n2,QkJ,QbV,Qal,Qak,reduceCtorEq,↓reduceIte,Nat.reduceEqDiff]
  · have c1 : decide (Int.sign ((R : Int) - (y : Int)) < 0) = false := by
      apply lt_f
      rcases Int.lt_or_le 0 ((R:Int)-(y:Int)) with h | h
      · rw [Int.sign_eq_one_of_pos h];omega
      · rw [show (R:Int)-(y:Int)=0 by omega];exact Int.lt_irrefl 0
    have hx:=Qoa da y a.length o i R hyp hy (by omega) 999999999 0 999999999 (by omega) (Nat.zero_le _) (by omega) (by omega)
    simp only [Qox,Qs6,go_sem,c9] at hx
    simp -implicitDefEqProofs (maxSteps:=9^8) only [Qbb,Qog,go_sem,st2,ld1,src_dg,QfT,List.length_map,iv,bv,e1,e2,e3,e4,e5,e6,f1,f2,nr,cp,c1,hx,tm,m1,n2,QkJ,QbV,Qal,Qak,reduceCtorEq,↓reduceIte,Nat.reduceEqDiff]

theorem Qrq     (hra:Rw da a) (ha:Dig a) (hy0:0<y) (hy:(digs y).length≤999999999999) (hl:a.length≤1000000000000):∀ (k:Nat) (o:List Int) (r:Nat),k≤a.length→o.length=a.length→Dig o→r<y→val (a.drop k)=val (o.drop k)*(y:Int)+(r:Int) →
    ∃ o' r',X G (.loop Qbb) (Qog da a y o r ((k:Int)-1))=some (.x 0,QpK a o' r')∧o'.length=a.length∧Dig o'∧r'<y∧val a=val o'*(y:Int)+(r':Int)
  | 0, o, r, hk, ho, hd, hr, hv => ⟨o, r, by
      have:((0:Nat):Int)-1 = -1:=rfl
      rw [this,Qai,rd_stop];rfl,ho,hd,hr,by simpa using hv⟩
  | k+1,o,r,hk,ho,hd,hr,hv=>by
    obtain ⟨v,hvv⟩:=nat_digit (ha.getD k).1
    have hvn:=(ha.getD k).2
    rw [hvv] at hvn
    have hvn':v<1000000000:=by omega
    have hx:=rd_go da a y hra ha hy hl ho (i:=k) (by omega) hr hvv
    have hq:=Qtf (y:=y) hvn' hr
    have hm:=Nat.mod_lt (v+1000000000*r) hy0
    obtain ⟨o',r',g1,g2⟩:=Qrq hra ha hy0 hy hl k (o.set k (((v+1000000000*r)/y:Nat):Int)) ((v+1000000000*r)%y) (by omega) (by simpa using ho) (hd.set (dig_nat hq)) hm (by
      rw [Qa3,hv,Qlp _ (by omega),hvv]
      have hdm':(y:Int)*(((v+1000000000*r)/y:Nat):Int)+(((v+1000000000*r)%y:Nat):Int)=(v:Int)+1000000000*(r:Int):=by rw [cast_dm];rw [Int.natCast_add,Int.natCast_mul];rfl
      generalize (((v+1000000000*r)/y:Nat):Int)=Q at *
      generalize (((v+1000000000*r)%y:Nat):Int)=M at *
      clear hx hq hm hv
      grind)
    refine ⟨o',r', ?_,g2⟩
    have:((k+1:Nat):Int)-1=(k:Int):=by omega
    rw [this,Qai,hx]
    exact g1
end

theorem QpP          {x y:Nat} (hy:0<y) (hx:(digs x).length≤1000000000000) (hyl:(digs y).length≤999999999999) :
    ∃ dq q,Qah G QfD [dg (digs x),dg (digs y)]=some (.d (.tup [dq,dg (digs (x%y))]))∧Rw dq q∧Dig q∧q.length≤1000000000000∧val q=((x/y:Nat):Int):=by
  have lx:=QaZ (digs x)
  have ly:=QaZ (digs y)
  by_cases h1:(digs x).length≤2
  · have e1:decide (((digs x).length:Int)≤2)=true:=le_t (by omega)
    by_cases h2:(digs y).length≤2
    · have e2:decide (((digs y).length:Int)≤2)=true:=le_t (by omega)
      have t1:=Qj5 (Rw.dg (digs x)) (Qao x) h1
      have t2:=Qj5 (Rw.dg (digs y)) (Qao y) h2
      rw [QaJ] at t1 t2
      have s1:=Qe7 h1
      have e3:=QkL (b:=(y:Int)) (by omega)
      have e4:=QfI (a:=(x:Int)) (b:=(y:Int)) (by omega)
      have e5:=Qee (a:=(x:Int)) (b:=(y:Int)) (by omega)
      have c1:(x:Int)/(y:Int)=((x/y:Nat):Int):=rfl
      have c2:(x:Int)%(y:Int)=((x%y:Nat):Int):=rfl
      rw [c1] at e4
      rw [c2] at e5
      have hq:x/y≤x:=Nat.div_le_self x y
      have hr:x%y≤x:=Nat.mod_le x y
      have hql:=Qbn hq
      clear c1 c2
      generalize x/y=Q at *
      generalize x%y=M at *
      have o1:=Qhs (n:=(Q:Int)) ⟨by omega,by omega⟩
      have o2:=Qhs (n:=(M:Int)) ⟨by omega,by omega⟩
      have e6:w64 (Q:Int)=(Q:Int):=Qae (by omega) (by omega)
      rw [Qbh] at o1 o2
      simp only [iv] at t1 t2 o1 o2
      refine ⟨dg (digs Q),digs Q, ?_,Rw.dg _,Qao _,by omega,QaJ _⟩
      rw [Qad (cf:=Qbp) rfl]
      simp -implicitDefEqProofs (maxSteps:=9^8) only [Qbp,go_sem,st2,ld1,iv,bv,lx,ly,e1,e2,e3,e4,e5,e6,t1,t2,o1,o2,toDs,reduceCtorEq,↓reduceIte,Nat.reduceEqDiff]
    · have e2:decide (((digs y).length:Int)≤2)=false:=le_f (by omega)
      obtain ⟨o,r,g1,g2,g3,g4,g5⟩:=Qrq (dg (digs x)) (digs x) y (Rw.dg _) (Qao x) hy hyl hx (digs x).length (List.replicate (digs x).length 0) 0 (Nat.le_refl _) (by simp) (Dig.replicate _) hy (by rw [List.drop_length,List.drop_eq_nil_of_le (by simp)];simp [val])
      rw [QaJ] at g5
      obtain ⟨u1,u2⟩:=QmS g5 (Int.natCast_nonneg _) (Int.ofNat_lt.2 g4)
      have u2':x%y=r:=Int.ofNat.inj u2
      refine ⟨rowI o,o, ?_,Rw.row _,g3,by omega,u1.symm⟩
      rw [u2',Qad (cf:=Qbp) rfl]
      have f1:=bnd (digs x).length (by omega)
      have f2:w64 (((digs x).length:Int)-1)=((digs x).length:Int)-1:=Qae (by omega) (by omega)
      simp only [Qog,QpK,Qax,Qpc,go_sem] at g1
      simp -implicitDefEqProofs (maxSteps:=9^8) only [Qbp,go_sem,iv,bv,lx,ly,e1,e2,f1,f2,g1,g2,rowI,Qk2,QbV,Qal,toDs,reduceCtorEq,↓reduceIte,Nat.reduceEqDiff]
  · have e1:decide (((digs x).length:Int)≤2)=false:=le_f (by omega)
    obtain ⟨o,r,g1,g2,g3,g4,g5⟩:=Qrq (dg (digs x)) (digs x) y (Rw.dg _) (Qao x) hy hyl hx (digs x).length (List.replicate (digs x).length 0) 0 (Nat.le_refl _) (by simp) (Dig.replicate _) hy (by rw [List.drop_length,List.drop_eq_nil_of_le (by simp)];simp [val])
    rw [QaJ] at g5
    obtain ⟨u1,u2⟩:=QmS g5 (Int.natCast_nonneg _) (Int.ofNat_lt.2 g4)
    have u2':x%y=r:=Int.ofNat.inj u2
    refine ⟨rowI o,o, ?_,Rw.row _,g3,by omega,u1.symm⟩
    rw [u2',Qad (cf:=Qbp) rfl]
    have f1:=bnd (digs x).length (by omega)
    have f2:w64 (((digs x).length:Int)-1)=((digs x).length:Int)-1:=Qae (by omega) (by omega)
    simp only [Qog,QpK,Qax,Qpc,go_sem] at g1
    simp -implicitDefEqProofs (maxSteps:=9^8) only [Qbp,go_sem,iv,bv,lx,ly,e1,f1,f2,g1,g2,rowI,Qk2,QbV,Qal,toDs,reduceCtorEq,↓reduceIte,Nat.reduceEqDiff]
end Go.AM

/- ref04.Div -/
namespace Go.AM
open Go Go.RowKit
variable [Its]

theorem QmX       {x y:Int} (hy:y≠0) (hx:nd x≤1000000000000) (hyl:nd y≤999999999999) :
    Qah G QdR [encI x,encI y]=some (.d (.tup [encI (x/y),encI (x%y)])):=by
  obtain ⟨c1,c2,c3⟩:=QnH (x:=x) hy
  have hya:0<y.natAbs:=by omega
  obtain ⟨dq,q,td,t1,t2,t3,t4⟩:=QpP (x:=x.natAbs) (y:=y.natAbs) hya hx hyl
  have ly:=QaZ (digs y.natAbs)
  have fq:A.one (.d dq)=true:=by
    rcases t1 with h | h
    · rw [h];exact QqB q
    · rw [h];rfl
  have e1:(((digs y.natAbs).length:Int)==0)=false:=Qcx (by have:=digs_length_pos.2 hya;omega)
  have n1:(x.natAbs:Int)/(y.natAbs:Int)=((x.natAbs/y.natAbs:Nat):Int):=rfl
  have n2:(x.natAbs:Int)%(y.natAbs:Int)=((x.natAbs%y.natAbs:Nat):Int):=rfl
  have hq1:x.natAbs/y.natAbs≤x.natAbs:=Nat.div_le_self _ _
  have hr1:x.natAbs%y.natAbs<y.natAbs:=Nat.mod_lt _ hya
  rw [n1] at c1 c2 c3
  rw [n2] at c1 c2 c3
  clear n1 n2
  generalize x.natAbs/y.natAbs=Q at *
  generalize x.natAbs%y.natAbs=M at *
  have hQl:(digs Q).length≤(digs x.natAbs).length:=Qbn hq1
  have hMl:(digs M).length≤(digs y.natAbs).length:=Qbn (Nat.le_of_lt hr1)
  have hxn:(digs x.natAbs).length≤1000000000000:=hx
  have hyn:(digs y.natAbs).length≤999999999999:=hyl
  have lm:=QaZ (digs M)
  obtain ⟨s,hs⟩:∃ s,(!(decide (x<0)==decide (y<0)))=s:=⟨_,rfl⟩
  have k1:=Qbq s t1 (by omega) t2
  rw [t4] at k1
  have k2:=Qbq false (Rw.dg (digs M)) (by omega) (Qao _)
  rw [QaD,QaJ,Qbh] at k2
  rw [Qad (cf:=Qdy) rfl]
  by_cases hb:x<0∧M≠0
  · have x1:decide (x<0)=true:=decide_eq_true hb.1
    have f1:decide (((digs M).length:Int)>0)=true:=gt_t (by have:=digs_length_pos.2 (Nat.pos_of_ne_zero hb.2);omega)
    obtain ⟨d1,d2⟩:=c3 hb.1 (by omega)
    have hs':s = !decide (y<0):=by rw [← hs,x1];cases decide (y<0)<;>rfl
    have k3:=Qbq s (Rw.row [1]) (by simp) (fun d hd=>by simp at hd;omega)
    have v1:val [1]=1:=by simp [val]
    rw [v1] at k3
    have a1:nd (sgn s (Q:Int))≤1000000000000:=by rw [nd,Qiz];exact Nat.le_trans hQl hxn
    have a2:nd (sgn s 1)≤1000000000000:=by
      have:nd (sgn s 1)≤3:=Qhl (by cases s<;>simp [sgn])
      omega
    have k4:=QpB a1 a2
    have s1:sgn s (Q:Int)+sgn s 1=sgn s ((Q:Int)+1):=by
      cases s
      · simp only [sgn,Bool.false_eq_true,if_false]
      · simp only [sgn,if_true];omega
    rw [s1,hs',← d1,← hs'] at k4
    obtain ⟨o2,s1,s2,s3,s4⟩:=QhD (Rw.dg (digs y.natAbs)) (Rw.dg (digs M)) (Qao _) (Qao _) (by omega) hMl (by rw [QaJ,QaJ];omega)
    rw [QaJ,QaJ] at s4
    have k5:=Qbq false (Rw.dg o2) (by omega) s3
    rw [QaD,s4,← d2] at k5
    obtain ⟨z,hz⟩:∃ z,sgn s (Q:Int)=z:=⟨_,rfl⟩
    obtain ⟨X,hX⟩:∃ X,x/y=X:=⟨_,rfl⟩
    obtain ⟨Y,hY⟩:∃ Y,x%y=Y:=⟨_,rfl⟩
    rw [hz] at k1 k4
    rw [hX] at k4 ⊢
    rw [hY] at k5 ⊢
    simp only [rowI,List.map_cons,List.map_nil,List.length_cons,List.length_nil,encI,bv,iv,Nat.reduceAdd] at k1 k2 k3 k4 k5
    rw [x1] at hs
    simp -implicitDefEqProofs (maxSteps:=9^8) only [Qdy,encI,go_sem,Qac,Qab,iv,bv,e1,x1,hs,f1,td,ly,lm,fq,k1,k2,k3,k4,k5,s1,QkJ,toDs,Qbl,ne_eq,not_false_eq_true,reduceCtorEq,↓reduceIte,Nat.reduceEqDiff]
  · have hr : x / y = sgn s (Q : Int) ∧ x % y = (M : Int) := by
      by_cases hx0:x<0
      · have hM : M = 0 := by
          rcases Nat.eq_zero_or_pos M with h | h
          · exact h
          · exact absurd ⟨hx0,by omega⟩ hb
        have x1:decide (x<0)=true:=decide_eq_true hx0
        obtain ⟨d1,d2⟩:=c2 hx0 (by omega)
        refine ⟨?_,by rw [d2,hM];rfl⟩
        rw [d1,← hs,x1];cases decide (y<0)<;>rfl
      · have x1:decide (x<0)=false:=decide_eq_false hx0
        obtain ⟨d1,d2⟩:=c1 hx0
        refine ⟨?_,d2⟩
        rw [d1,← hs,x1];cases decide (y<0)<;>rfl
    rw [hr.1,hr.2,Qbh]
    obtain ⟨z,hz⟩:∃ z,sgn s (Q:Int)=z:=⟨_,rfl⟩
    rw [hz] at k1 ⊢
    simp only [encI,bv,iv] at k1 k2
    by_cases hx0:x<0
    · have x1:decide (x<0)=true:=decide_eq_true hx0
      have f1:decide (((digs M).length:Int)>0)=false:=by
        have:¬ M≠0:=fun h=>hb ⟨hx0,h⟩
        have:M=0:=by omega
        rw [this,Qax];rfl
      rw [x1] at hs
      simp -implicitDefEqProofs (maxSteps:=9^8) only [Qdy,encI,go_sem,Qac,Qab,iv,bv,e1,x1,hs,f1,td,ly,lm,fq,k1,k2,toDs,Qbl,ne_eq,not_false_eq_true,reduceCtorEq,↓reduceIte,Nat.reduceEqDiff]
    · have x1:decide (x<0)=false:=decide_eq_false hx0
      rw [x1] at hs
      simp -implicitDefEqProofs (maxSteps:=9^8) only [Qdy,encI,go_sem,Qac,Qab,iv,bv,e1,x1,hs,td,ly,lm,fq,k1,k2,toDs,Qbl,ne_eq,not_false_eq_true,reduceCtorEq,↓reduceIte,Nat.reduceEqDiff]
end Go.AM

