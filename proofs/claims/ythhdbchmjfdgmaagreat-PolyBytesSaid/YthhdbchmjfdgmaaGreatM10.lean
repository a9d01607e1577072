/- Part 10 of the proof: a small machine, its soundness against the model, and what the program's functions compute on it. -/
import Derived.Test.YthhdbchmjfdgmaaGreatM9
import Derived.Test.YthhdbchmjfdgmaaGreatM8
import Derived.Shelf.LaysM
import Derived.Shelf.Spec.SlicesGrow
import Derived.OwnWalk
import Derived.KernelRfl
import Derived.Test.YthhdbchmjfdgmaaGreatProg
import Derived.Test.YthhdbchmjfdgmaaGreatM5
import Derived.Test.YthhdbchmjfdgmaaGreatM7
set_option linter.unusedVariables false
set_option linter.unusedSimpArgs false
/- rat.Decode, ref05.Decode. -/
namespace Go.AM
open Go Go.RowKit
def xvF (p:Bool×List Int):Int:=if p.1 then -val p.2 else val p.2
theorem Qiy {b:List Int} (hb:Byt b) (h:(dcI b).2.2=0):decide (xvF (dcI b).1<0)=(dcI b).1.1∧digs (xvF (dcI b).1).natAbs=(dcI b).1.2∧(dcI b).1.2.length≤b.length∧1≤(dcI b).2.1∧(dcI b).2.1≤b.length∧vI (dcI b).1.1 (dcI b).1.2=true:=by
  have c0:(gIs b).2.2=0:=Classical.byContradiction fun h0=>by
    unfold dcI at h;rw [if_pos h0] at h;exact h0 h
  have hln:(gIs b).1.length≤b.length∧1≤(gIs b).2.1∧(gIs b).2.1≤b.length:=by
    have c:=c0
    unfold gIs at c ⊢
    by_cases c1:(cntI b).2.2≠0
    · rw [if_pos c1] at c;exact absurd c c1
    · rw [if_neg c1] at c ⊢
      obtain ⟨a1,a2,a3,a4,a5,a6⟩:=QiI hb (Classical.not_not.1 c1)
      have ok:=Qj6 hb a2
      rw [← a1] at ok
      obtain ⟨_,r2,r3,r4⟩:=QqJ hb _ _ [] (by omega) (fun x hx=>by simp at hx) c
      rw [r2]
      simp only [List.length_nil]
      omega
  obtain ⟨⟨l,n,e⟩,hg⟩:∃ r,gIs b=r:=⟨_,rfl⟩
  rw [hg] at hln c0
  dsimp only at hln c0
  subst c0
  match l,hg,hln with
  | [],hg,_ =>
    have hv:dcI b=((false,[]),0,2):=by unfold dcI;rw [hg];rfl
    rw [hv] at h
    exact absurd (show (2:Int)=0 from h) (by decide)
  | s :: d,hg,hln =>
    have hv:dcI b=if vI (s==-1) d=true∧sgF (s==-1) d=s then ((s==-1,d),n,0) else ((false,[]),0,2):=by unfold dcI;rw [hg];rfl
    by_cases c:vI (s==-1) d=true∧sgF (s==-1) d=s
    · rw [if_pos c] at hv
      rw [hv]
      dsimp only
      rw [List.length_cons] at hln
      by_cases hd:d=[]
      · subst hd
        have hs:(s==-1)=false:=by
          have:=c.1
          cases hq:(s==-1)
          · rfl
          · rw [hq] at this;exact absurd this (by decide)
        rw [hs]
        refine ⟨rfl, ?_,by simp,hln.2.1,hln.2.2,rfl⟩
        exact Qav
      · obtain ⟨e1,hp,_⟩:=vI_val c.1 hd
        have e2:digs (val d).natAbs=d:=by
          have h1:=e1
          unfold encI at h1
          have hx:(if (s==-1) then -val d else val d).natAbs=(val d).natAbs:=by split<;>simp
          rw [hx] at h1
          have h2:rowI d=dg (digs (val d).natAbs):=by
            simp only [D.agg.injEq,List.cons.injEq] at h1
            exact h1.2.1
          exact (dg_inj ((Qhr hd).trans h2)).symm
        unfold xvF
        dsimp only
        refine ⟨?_, ?_,by omega,hln.2.1,hln.2.2,c.1⟩
        · cases hq:(s==-1)
          · simp only [Bool.false_eq_true,if_false];exact decide_eq_false (by omega)
          · simp only [if_true];exact decide_eq_true (by omega)
        · split<;>simp [e2]
    · rw [if_neg c] at hv;rw [hv] at h;exact absurd (show (2:Int)=0 from h) (by decide)
def badQ (e:Int):R:=.d (.tup [.agg [.v (.bool false),.z true,.v (.bool false),.z true],iv 0,iv e])
def nxB (b:List Int):List Int:=b.drop (dcI b).2.1.toNat
def dcQ (b:List Int):((Bool×List Int)×(Bool×List Int))×Int×Int :=
 if (dcI b).2.2≠0 then (((false,[]),(false,[])),0,(dcI b).2.2)
 else if (dcI (nxB b)).2.2≠0 then (((false,[]),(false,[])),0,(dcI (nxB b)).2.2)
 else if vR (xvF (dcI b).1) (dcI (nxB b)).1.1 (dcI (nxB b)).1.2=true then (((dcI b).1,(dcI (nxB b)).1),(dcI b).2.1+(dcI (nxB b)).2.1,0)
 else (((false,[]),(false,[])),0,2)
def fldQ (p:(Bool×List Int)×(Bool×List Int)):D:=.agg [.v (.bool p.1.1),rowI p.1.2,.v (.bool p.2.1),rowI p.2.2]
def dcQR (b:List Int):R:=if (dcQ b).2.2=0 then .d (.tup [fldQ (dcQ b).1,iv (dcQ b).2.1,iv 0]) else badQ (dcQ b).2.2
theorem QrC {b:List Int} (h:(dcI b).2.2=0):dcR b=.d (.tup [.agg [.v (.bool (dcI b).1.1),rowI (dcI b).1.2],iv (dcI b).2.1,iv 0]):=by
 unfold dcR;rw [if_pos h,h]
theorem Qna {b:List Int} (h:(dcI b).2.2≠0):dcI b=((false,[]),0,(dcI b).2.2):=by
 unfold dcI at h ⊢
 by_cases c:(gIs b).2.2≠0
 ·rw [if_pos c]
 ·rw [if_neg c] at h ⊢
  obtain ⟨⟨l,n,e⟩,hg⟩:∃ r,gIs b=r:=⟨_,rfl⟩
  rw [hg] at h ⊢
  match l,h with
  | [],_=>rfl
  | s :: d,h =>
   dsimp only at h ⊢
   by_cases c2:vI (s==-1) d=true∧sgF (s==-1) d=s
   ·rw [if_pos c2] at h;exact absurd rfl h
   ·rw [if_neg c2]
theorem Qrv (l:List Int):Rw (rowI l) l:=Rw.row l
variable [Its]
set_option maxHeartbeats 2000000 in
theorem Ql4 {d:D} {b:List Int} (hr:RwU d b) (hb:Byt b) (hn:b.length≤1000000000):Qah G Qhz [d]=some (dcQR b):=by
 rw [Qad (cf:=QfF) rfl]
 have g1:=Qkk hr hb (by omega)
 have z4:rep 1 [D.v (.bool false),.z true]=[.v (.bool false),.z true]:=rfl
 have z5:rep 1 [D.v (.bool false),.z true,.v (.bool false),.z true]=[.v (.bool false),.z true,.v (.bool false),.z true]:=rfl
 by_cases c0:(dcI b).2.2=0
 ·obtain ⟨v1,v2,v3,v4,v5,v6⟩:=Qiy hb c0
  rw [QrC c0] at g1
  have hne:b≠[]:=fun h0=>by
   have h1:b.length=0:=by rw [h0];rfl
   omega
  have hd:=hr.ne hne
  subst hd
  obtain ⟨CC,hC⟩:∃ C,b.map uv=C:=⟨_,rfl⟩
  have hrow:rowU b=.row b.length CC:=by rw [rowU,hC]
  obtain ⟨m,hm⟩:∃ m:Nat,(dcI b).2.1=m:=⟨(dcI b).2.1.toNat,by omega⟩
  have hnx:nxB b=b.drop m:=by unfold nxB;rw [hm,Int.toNat_natCast]
  have cu:=cutU hC (l:=m) (by omega)
  have bn:((0:Int)≤(m:Int)∧(m:Int)≤((b.length:Nat):Int)∧((b.length:Nat):Int)≤((b.length:Nat):Int))=True:=eq_true ⟨by omega,by omega,by omega⟩
  have hb2:=hb.drop m
  have g2:=Qkk (RwU.row (b.drop m)) hb2 (by rw [List.length_drop];omega)
  rw [hm,hrow] at g1
  rw [hrow]
  have z0:((0:Int) != 0)=false:=rfl
  simp only [iv] at g1
  by_cases c1:(dcI (b.drop m)).2.2=0
  ·obtain ⟨w1,w2,w3,w4,w5,w6⟩:=Qiy hb2 c1
   rw [List.length_drop] at w3 w5
   rw [QrC c1] at g2
   have gV:=rV_row (x:=xvF (dcI b).1) (dp:=rowI (dcI b).1.2) (by rw [v2];exact Qrv _) (c:=(dcI (b.drop m)).1.1) (Qrv (dcI (b.drop m)).1.2) (by unfold nd;rw [v2];omega) (by omega)
   rw [v1] at gV
   have hv:dcQ b=if vR (xvF (dcI b).1) (dcI (b.drop m)).1.1 (dcI (b.drop m)).1.2=true then (((dcI b).1,(dcI (b.drop m)).1),(m:Int)+(dcI (b.drop m)).2.1,0) else (((false,[]),(false,[])),0,2):=by
    unfold dcQ
    rw [if_neg (by rw [c0];simp),hnx,if_neg (by rw [c1];simp),hm]
   have w7:w64 ((m:Int)+(dcI (b.drop m)).2.1)=(m:Int)+(dcI (b.drop m)).2.1:=Qae (by omega) (by omega)
   obtain ⟨v,hvv⟩:∃ v,vR (xvF (dcI b).1) (dcI (b.drop m)).1.1 (dcI (b.drop m)).1.2=v:=⟨_,rfl⟩
   rw [hvv] at gV hv
   clear hr hb hb2 v1 v2 v3 v4 v5 v6 w1 w2 w3 w4 w5 w6 hvv c0 c1 hnx hC hrow
   generalize dcI b=r1 at *
   obtain ⟨⟨n1,d1⟩,k1,e1⟩:=r1
   generalize dcI (b.drop m)=r2 at *
   obtain ⟨⟨n2,d2⟩,k2,e2⟩:=r2
   dsimp only at g1 g2 gV hv w7
   have o1:A.one (.d (rowI d1))=true:=rfl
   have o2:(rowI d1).one=true:=rfl
   have o3:QaA (.d (rowI d1))=[.d (rowI d1)]:=rfl
   have o4:QbZ (.d (rowI d1))=some [rowI d1]:=rfl
   have q1:A.one (.d (rowI d2))=true:=rfl
   have q2:(rowI d2).one=true:=rfl
   have q3:QaA (.d (rowI d2))=[.d (rowI d2)]:=rfl
   have q4:QbZ (.d (rowI d2))=some [rowI d2]:=rfl
   cases v
   ·rw [if_neg (by simp)] at hv
    have hR:dcQR b=badQ 2:=by unfold dcQR;rw [hv];rfl
    rw [hR]
    clear hR hv
    generalize rowU (b.drop m)=RU at *
    generalize rowI d1=D1 at *
    generalize rowI d2=D2 at *
    simp only [iv,bv] at g2 gV
    simp -implicitDefEqProofs (maxSteps:=9^8) only [QfF,badQ,g1,g2,gV,cu,bn,z0,z4,z5,w7,o1,o2,o3,o4,q1,q2,q3,q4,Qdh,QbA,toDs,toD,allD,Qaa,go_sem,Qac,Qab,iv,bv,reduceCtorEq,↓reduceIte,Nat.reduceEqDiff]
   ·rw [if_pos rfl] at hv
    have hR:dcQR b=.d (.tup [.agg [.v (.bool n1),rowI d1,.v (.bool n2),rowI d2],iv ((m:Int)+k2),iv 0]):=by unfold dcQR;rw [hv];rfl
    rw [hR]
    clear hR hv
    generalize rowU (b.drop m)=RU at *
    generalize rowI d1=D1 at *
    generalize rowI d2=D2 at *
    simp only [iv,bv] at g2 gV
    simp -implicitDefEqProofs (maxSteps:=9^8) only [QfF,badQ,g1,g2,gV,cu,bn,z0,z4,z5,w7,o1,o2,o3,o4,q1,q2,q3,q4,Qdh,QbA,toDs,toD,allD,Qaa,go_sem,Qac,Qab,iv,bv,reduceCtorEq,↓reduceIte,Nat.reduceEqDiff]
  ·have he:=Qna c1
   rw [Qfm c1 he] at g2
   have hR:dcQR b=badQ (dcI (b.drop m)).2.2:=by
    have hv:dcQ b=(((false,[]),(false,[])),0,(dcI (b.drop m)).2.2):=by
     unfold dcQ
     rw [if_neg (by rw [c0];simp),hnx,if_pos c1]
    unfold dcQR;rw [hv];dsimp only;rw [if_neg c1]
   rw [hR]
   have z1:((dcI (b.drop m)).2.2 != 0)=true:=QeL c1
   clear hR he hr hb hb2 v1 v2 v3 v4 v5 v6 c0 hnx hC hrow
   generalize dcI b=r1 at *
   obtain ⟨⟨n1,d1⟩,k1,e1⟩:=r1
   generalize (dcI (b.drop m)).2.2=e2 at *
   dsimp only at g1
   have o1:A.one (.d (rowI d1))=true:=rfl
   have o2:(rowI d1).one=true:=rfl
   have o3:QaA (.d (rowI d1))=[.d (rowI d1)]:=rfl
   have o4:QbZ (.d (rowI d1))=some [rowI d1]:=rfl
   generalize rowU (b.drop m)=RU at *
   generalize rowI d1=D1 at *
   simp only [iv,bv] at g2
   simp -implicitDefEqProofs (maxSteps:=9^8) only [QfF,badQ,g1,g2,cu,bn,z0,z1,z4,z5,o1,o2,o3,o4,Qdh,QbA,toDs,toD,allD,Qaa,go_sem,Qac,Qab,iv,bv,reduceCtorEq,↓reduceIte,Nat.reduceEqDiff]
 ·have he:=Qna c0
  rw [Qfm c0 he] at g1
  have hR:dcQR b=badQ (dcI b).2.2:=by
   have hv:dcQ b=(((false,[]),(false,[])),0,(dcI b).2.2):=by unfold dcQ;rw [if_pos c0]
   unfold dcQR;rw [hv];dsimp only;rw [if_neg c0]
  rw [hR]
  have z1:((dcI b).2.2 != 0)=true:=QeL c0
  clear hR he hr hb
  generalize (dcI b).2.2=e1 at *
  simp only [iv,bv] at g1
  simp -implicitDefEqProofs (maxSteps:=9^8) only [QfF,badQ,g1,z1,z4,z5,Qdh,QbA,toDs,toD,allD,Qaa,go_sem,Qac,Qab,iv,bv,reduceCtorEq,↓reduceIte,Nat.reduceEqDiff]
set_option maxHeartbeats 2000000 in
theorem Qm0 {d:D} {b:List Int} (hr:RwU d b) (hb:Byt b) (hn:b.length≤1000000000):Qah G QcL [d]=some (dcQR b):=by
 rw [Qad (cf:=Qb0) rfl]
 have g1:=Qjn hr hb (by omega)
 have z4:rep 1 [D.v (.bool false),.z true]=[.v (.bool false),.z true]:=rfl
 have z5:rep 1 [D.v (.bool false),.z true,.v (.bool false),.z true]=[.v (.bool false),.z true,.v (.bool false),.z true]:=rfl
 by_cases c0:(dcI b).2.2=0
 ·obtain ⟨v1,v2,v3,v4,v5,v6⟩:=Qiy hb c0
  rw [QrC c0] at g1
  have hne:b≠[]:=fun h0=>by
   have h1:b.length=0:=by rw [h0];rfl
   omega
  have hd:=hr.ne hne
  subst hd
  obtain ⟨CC,hC⟩:∃ C,b.map uv=C:=⟨_,rfl⟩
  have hrow:rowU b=.row b.length CC:=by rw [rowU,hC]
  obtain ⟨m,hm⟩:∃ m:Nat,(dcI b).2.1=m:=⟨(dcI b).2.1.toNat,by omega⟩
  have hnx:nxB b=b.drop m:=by unfold nxB;rw [hm,Int.toNat_natCast]
  have cu:=cutU hC (l:=m) (by omega)
  have bn:((0:Int)≤(m:Int)∧(m:Int)≤((b.length:Nat):Int)∧((b.length:Nat):Int)≤((b.length:Nat):Int))=True:=eq_true ⟨by omega,by omega,by omega⟩
  have hb2:=hb.drop m
  have g2:=Qjn (RwU.row (b.drop m)) hb2 (by rw [List.length_drop];omega)
  rw [hm,hrow] at g1
  rw [hrow]
  have z0:((0:Int) != 0)=false:=rfl
  simp only [iv] at g1
  by_cases c1:(dcI (b.drop m)).2.2=0
  ·obtain ⟨w1,w2,w3,w4,w5,w6⟩:=Qiy hb2 c1
   rw [List.length_drop] at w3 w5
   rw [QrC c1] at g2
   have gV:=r5V_row (x:=xvF (dcI b).1) (dp:=rowI (dcI b).1.2) (by rw [v2];exact Qrv _) (c:=(dcI (b.drop m)).1.1) (Qrv (dcI (b.drop m)).1.2) (by unfold nd;rw [v2];omega) (by omega)
   rw [v1] at gV
   have hv:dcQ b=if vR (xvF (dcI b).1) (dcI (b.drop m)).1.1 (dcI (b.drop m)).1.2=true then (((dcI b).1,(dcI (b.drop m)).1),(m:Int)+(dcI (b.drop m)).2.1,0) else (((false,[]),(false,[])),0,2):=by
    unfold dcQ
    rw [if_neg (by rw [c0];simp),hnx,if_neg (by rw [c1];simp),hm]
   have w7:w64 ((m:Int)+(dcI (b.drop m)).2.1)=(m:Int)+(dcI (b.drop m)).2.1:=Qae (by omega) (by omega)
   obtain ⟨v,hvv⟩:∃ v,vR (xvF (dcI b).1) (dcI (b.drop m)).1.1 (dcI (b.drop m)).1.2=v:=⟨_,rfl⟩
   rw [hvv] at gV hv
   clear hr hb hb2 v1 v2 v3 v4 v5 v6 w1 w2 w3 w4 w5 w6 hvv c0 c1 hnx hC hrow
   generalize dcI b=r1 at *
   obtain ⟨⟨n1,d1⟩,k1,e1⟩:=r1
   generalize dcI (b.drop m)=r2 at *
   obtain ⟨⟨n2,d2⟩,k2,e2⟩:=r2
   dsimp only at g1 g2 gV hv w7
   have o1:A.one (.d (rowI d1))=true:=rfl
   have o2:(rowI d1).one=true:=rfl
   have o3:QaA (.d (rowI d1))=[.d (rowI d1)]:=rfl
   have o4:QbZ (.d (rowI d1))=some [rowI d1]:=rfl
   have q1:A.one (.d (rowI d2))=true:=rfl
   have q2:(rowI d2).one=true:=rfl
   have q3:QaA (.d (rowI d2))=[.d (rowI d2)]:=rfl
   have q4:QbZ (.d (rowI d2))=some [rowI d2]:=rfl
   cases v
   ·rw [if_neg (by simp)] at hv
    have hR:dcQR b=badQ 2:=by unfold dcQR;rw [hv];rfl
    rw [hR]
    clear hR hv
    generalize rowU (b.drop m)=RU at *
    generalize rowI d1=D1 at *
    generalize rowI d2=D2 at *
    simp only [iv,bv] at g2 gV
    simp -implicitDefEqProofs (maxSteps:=9^8) only [Qb0,badQ,g1,g2,gV,cu,bn,z0,z4,z5,w7,o1,o2,o3,o4,q1,q2,q3,q4,Qdh,QbA,toDs,toD,allD,Qaa,go_sem,Qac,Qab,iv,bv,reduceCtorEq,↓reduceIte,Nat.reduceEqDiff]
   ·rw [if_pos rfl] at hv
    have hR:dcQR b=.d (.tup [.agg [.v (.bool n1),rowI d1,.v (.bool n2),rowI d2],iv ((m:Int)+k2),iv 0]):=by unfold dcQR;rw [hv];rfl
    rw [hR]
    clear hR hv
    generalize rowU (b.drop m)=RU at *
    generalize rowI d1=D1 at *
    generalize rowI d2=D2 at *
    simp only [iv,bv] at g2 gV
    simp -implicitDefEqProofs (maxSteps:=9^8) only [Qb0,badQ,g1,g2,gV,cu,bn,z0,z4,z5,w7,o1,o2,o3,o4,q1,q2,q3,q4,Qdh,QbA,toDs,toD,allD,Qaa,go_sem,Qac,Qab,iv,bv,reduceCtorEq,↓reduceIte,Nat.reduceEqDiff]
  ·have he:=Qna c1
   rw [Qfm c1 he] at g2
   have hR:dcQR b=badQ (dcI (b.drop m)).2.2:=by
    have hv:dcQ b=(((false,[]),(false,[])),0,(dcI (b.drop m)).2.2):=by
     unfold dcQ
     rw [if_neg (by rw [c0];simp),hnx,if_pos c1]
    unfold dcQR;rw [hv];dsimp only;rw [if_neg c1]
   rw [hR]
   have z1:((dcI (b.drop m)).2.2 != 0)=true:=QeL c1
   clear hR he hr hb hb2 v1 v2 v3 v4 v5 v6 c0 hnx hC hrow
   generalize dcI b=r1 at *
   obtain ⟨⟨n1,d1⟩,k1,e1⟩:=r1
   generalize (dcI (b.drop m)).2.2=e2 at *
   dsimp only at g1
   have o1:A.one (.d (rowI d1))=true:=rfl
   have o2:(rowI d1).one=true:=rfl
   have o3:QaA (.d (rowI d1))=[.d (rowI d1)]:=rfl
   have o4:QbZ (.d (rowI d1))=some [rowI d1]:=rfl
   generalize rowU (b.drop m)=RU at *
   generalize rowI d1=D1 at *
   simp only [iv,bv] at g2
   simp -implicitDefEqProofs (maxSteps:=9^8) only [Qb0,badQ,g1,g2,cu,bn,z0,z1,z4,z5,o1,o2,o3,o4,Qdh,QbA,toDs,toD,allD,Qaa,go_sem,Qac,Qab,iv,bv,reduceCtorEq,↓reduceIte,Nat.reduceEqDiff]
 ·have he:=Qna c0
  rw [Qfm c0 he] at g1
  have hR:dcQR b=badQ (dcI b).2.2:=by
   have hv:dcQ b=(((false,[]),(false,[])),0,(dcI b).2.2):=by unfold dcQ;rw [if_pos c0]
   unfold dcQR;rw [hv];dsimp only;rw [if_neg c0]
  rw [hR]
  have z1:((dcI b).2.2 != 0)=true:=QeL c0
  clear hR he hr hb
  generalize (dcI b).2.2=e1 at *
  simp only [iv,bv] at g1
  simp -implicitDefEqProofs (maxSteps:=9^8) only [Qb0,badQ,g1,z1,z4,z5,Qdh,QbA,toDs,toD,allD,Qaa,go_sem,Qac,Qab,iv,bv,reduceCtorEq,↓reduceIte,Nat.reduceEqDiff]
end Go.AM

/- poly.Valid, ref06.Valid, poly.Degree. -/
namespace Go.AM
open Go Go.RowKit

variable [Its]

section
variable {d:D} {n:Nat} {cs:List D} {f:Nat} {t:Nat→Bool}
def QlQ (d:D) (f:Nat) (n i:Int):St:=mkS [(0,.d d),(1,.d (.fn f [])),(7,ai n),(8,ai i)] []
theorem ix4_no (hr:Rw4 d n cs) (hn:n≤1000000000000) {i:Nat} (hi:i<n) (hf:Qah G f [.agg ((cs.drop (i*4)).take 4)]=some (.d (bv false))):X G Qas (QlQ d f n i)=some (.n,QlQ d f n ((i+1:Nat):Int)):=by
 have e1:decide ((i:Int)<(n:Int))=true:=lt_t (by omega)
 have e2:w64 ((i:Int)+1)=((i+1:Nat):Int):=by rw [Qae (by omega) (by omega)];rfl
 have x1:=hr.ixa hi
 have x2:=hr.ld hi
 generalize (cs.drop (i*4)).take 4=c4 at *
 generalize cs.drop (i*4)=c at *
 simp only [bv] at hf
 simp -implicitDefEqProofs (maxSteps:=9^8) only [Qas,QlQ,x1,x2,e1,e2,hf,List.append_nil,go_sem,iv,bv,reduceCtorEq,↓reduceIte,Nat.reduceEqDiff]
theorem ix4_stop:X G Qas (QlQ d f n n)=some (.x 0,mkS [] []):=by
 have e1:decide ((n:Int)<(n:Int))=false:=lt_f (by omega)
 simp -implicitDefEqProofs (maxSteps:=9^8) only [Qas,QlQ,e1,go_sem,iv,bv,reduceCtorEq,↓reduceIte,Nat.reduceEqDiff]
theorem Qq3 (hr:Rw4 d n cs) (hn:n≤1000000000000) (hf:∀ i,i<n→Qah G f [.agg ((cs.drop (i*4)).take 4)]=some (.d (bv false))):∀ j i:Nat,i+j=n→X G (.loop Qas) (QlQ d f n i)=some (.x 0,mkS [] [])
 | 0,i,h=>by
  have:i=n:=by omega
  subst this
  rw [Qag,ix4_stop];rfl
 | j+1,i,h=>by
  rw [Qag,ix4_no hr hn (by omega) (hf i (by omega)),Option.bind_some,if_pos rfl]
  exact Qq3 hr hn hf j (i+1) (by omega)
theorem ct4_none (hr:Rw4 d n cs) (hn:n≤1000000000000) (hf:∀ i,i<n→Qah G f [.agg ((cs.drop (i*4)).take 4)]=some (.d (bv false))):Qah G Qb5 [d,.fn f []]=some (.d (bv false)):=by
 have ll:=hr.len
 have g:Qah G Qcr [d,.fn f []]=some (.d (iv (-1))):=by
  rw [Qad (cf:=QbH) rfl]
  have h:=Qq3 hr hn hf n 0 (by omega)
  simp only [QlQ,go_sem,nc0] at h
  simp -implicitDefEqProofs (maxSteps:=9^8) only [QbH,h,ll,go_sem,iv,bv,reduceCtorEq,↓reduceIte,Nat.reduceEqDiff]
 rw [Qad (cf:=Qbk) rfl]
 have e1:decide ((-1:Int)≥0)=false:=rfl
 simp only [iv] at g
 simp -implicitDefEqProofs (maxSteps:=9^8) only [Qbk,g,e1,go_sem,iv,bv,reduceCtorEq,↓reduceIte,Nat.reduceEqDiff]
end
theorem pV1_spec {x:D} {b:Bool} {c1 c2 c3 c4:D} (hx:x=.agg [c1,c2,c3,c4]) (h1:c1.one=true∧c2.one=true∧c3.one=true∧c4.one=true) (g:Qah G QfH [x]=some (.d (bv b))):Qah G Qgw [x]=some (.d (bv (!b))):=by
 rw [Qad (cf:=QhC) rfl]
 subst hx
 obtain ⟨o1,o2,o3,o4⟩:=h1
 have p1:A.one (.d c1)=true:=o1
 have p2:A.one (.d c2)=true:=o2
 have p3:A.one (.d c3)=true:=o3
 have p4:A.one (.d c4)=true:=o4
 simp only [bv] at g
 simp -implicitDefEqProofs (maxSteps:=9^8) only [QhC,g,p1,p2,p3,p4,go_sem,Qac,Qab,iv,bv,reduceCtorEq,↓reduceIte,Nat.reduceEqDiff]
/-! ### ref06.Valid -/
section
variable {d:D} {n:Nat} {cs:List D}
def QpT (d:D) (i:Int):St:=mkS [(0,.d d),(3,ai i)] []
theorem v6_go (hr:Rw4 d n cs) (hn:n≤1000000000000) {i:Nat} (hi:i<n) (hf:Qah G QbQ [.agg ((cs.drop (i*4)).take 4)]=some (.d (bv true))):X G QbL (QpT d i)=some (.n,QpT d ((i+1:Nat):Int)):=by
 have e1:decide ((i:Int)<(n:Int))=true:=lt_t (by omega)
 have e2:w64 ((i:Int)+1)=((i+1:Nat):Int):=by rw [Qae (by omega) (by omega)];rfl
 have ll:=hr.len
 have x1:=hr.ixa hi
 have x2:=hr.ld hi
 generalize (cs.drop (i*4)).take 4=c4 at *
 generalize cs.drop (i*4)=c at *
 simp only [bv] at hf
 simp -implicitDefEqProofs (maxSteps:=9^8) only [QbL,QpT,ll,x1,x2,e1,e2,hf,go_sem,iv,bv,reduceCtorEq,↓reduceIte,Nat.reduceEqDiff]
theorem v6_stop (hr:Rw4 d n cs):X G QbL (QpT d n)=some (.x 0,mkS [(0,.d d)] []):=by
 have e1:decide ((n:Int)<(n:Int))=false:=lt_f (by omega)
 have ll:=hr.len
 simp -implicitDefEqProofs (maxSteps:=9^8) only [QbL,QpT,ll,e1,go_sem,iv,bv,reduceCtorEq,↓reduceIte,Nat.reduceEqDiff]
theorem v6_all (hr:Rw4 d n cs) (hn:n≤1000000000000) (hf:∀ i,i<n→Qah G QbQ [.agg ((cs.drop (i*4)).take 4)]=some (.d (bv true))):∀ j i:Nat,i+j=n→X G (.loop QbL) (QpT d i)=some (.x 0,mkS [(0,.d d)] [])
 | 0,i,h=>by
  have:i=n:=by omega
  subst this
  rw [Qag,v6_stop hr];rfl
 | j+1,i,h=>by
  rw [Qag,v6_go hr hn (by omega) (hf i (by omega)),Option.bind_some,if_pos rfl]
  exact v6_all hr hn hf j (i+1) (by omega)
end
end Go.AM

/- Valid at rows of decoded fields. -/
namespace Go.AM
open Go Go.RowKit
abbrev F4:Type:=(Bool×List Int)×(Bool×List Int)
instance:Inhabited F4:=⟨((false,[]),(false,[]))⟩
def toD4 (p:F4):D4:=(.v (.bool p.1.1),rowI p.1.2,.v (.bool p.2.1),rowI p.2.2)
def gF (p:F4):Prop:=decide (xvF p.1<0)=p.1.1∧digs (xvF p.1).natAbs=p.1.2∧p.1.2.length≤1000000000∧p.2.2.length≤1000000000∧vI p.1.1 p.1.2=true∧vR (xvF p.1) p.2.1 p.2.2=true
def sgP (p:F4):Int:=sgF p.1.1 p.1.2
def vL (l:List F4):Bool:=decide (l=[])||(sgP (l.getD (l.length-1) default) != 0)
theorem four_E {d:D} {l:List D4} (h:RwE c4d d l):Rw4 d l.length (l.flatMap c4d):=by
 rcases h with ⟨rfl,rfl⟩ | rfl
 ·exact .inl ⟨rfl,rfl⟩
 ·exact .inr ⟨rfl,QnT Qei l⟩
theorem elt_E {l:List D4} {i:Nat} (hi:i<l.length):((l.flatMap c4d).drop (i*4)).take 4=c4d (l.getD i default):=by
 rw [QlK Qei,Qo2 hi,List.flatMap_cons,List.take_append_of_le_length (by rw [Qei];omega),List.take_of_length_le (by rw [Qei];omega)]
theorem QhT (l:List F4) {i:Nat} (hi:i<l.length):(l.map toD4).getD i default=toD4 (l.getD i default):=by
 rw [List.getD_eq_getElem?_getD,List.getD_eq_getElem?_getD,List.getElem?_map,List.getElem?_eq_getElem hi];rfl
theorem Qre {b:List Int} (hb:Byt b) (hn:b.length≤1000000000) (h:(dcQ b).2.2=0):gF (dcQ b).1∧1≤(dcQ b).2.1∧(dcQ b).2.1≤b.length:=by
 unfold dcQ at h ⊢
 by_cases c1:(dcI b).2.2=0
 ·rw [if_neg (by rw [c1];simp)] at h ⊢
  by_cases c2:(dcI (nxB b)).2.2=0
  ·rw [if_neg (by rw [c2];simp)] at h ⊢
   by_cases c3:vR (xvF (dcI b).1) (dcI (nxB b)).1.1 (dcI (nxB b)).1.2=true
   ·rw [if_pos c3]
    obtain ⟨a1,a2,a3,a4,a5,a6⟩:=Qiy hb c1
    have hd:(nxB b).length=b.length-(dcI b).2.1.toNat:=by unfold nxB;exact List.length_drop
    obtain ⟨b1,b2,b3,b4,b5,b6⟩:=Qiy (b:=nxB b) (hb.drop _) c2
    exact ⟨⟨a1,a2,by show (dcI b).1.2.length≤_;omega,by show (dcI (nxB b)).1.2.length≤_;omega,a6,c3⟩,by dsimp only;omega,by dsimp only;omega⟩
   ·rw [if_neg c3] at h;exact absurd h (by decide)
  ·rw [if_pos c2] at h;exact absurd h c2
 ·rw [if_pos c1] at h;exact absurd h c1
variable [Its]
theorem ratSign_F (p:F4):Qah G QhX [.agg (c4d (toD4 p))]=some (.d (iv (sgP p))):=by
 rw [Qad (cf:=Qi1) rfl]
 have g:=Qof (b:=p.1.1) (Rw.row p.1.2)
 unfold sgP
 generalize sgF p.1.1 p.1.2=s at *
 have o1:(rowI p.1.2).one=true:=rfl
 have o2:(rowI p.2.2).one=true:=rfl
 have q1:=(Rw.row p.1.2).one
 have q2:=(Rw.row p.1.2).donee
 have q3:=(Rw.row p.1.2).dcl
 have r1:=(Rw.row p.2.2).one
 have r2:=(Rw.row p.2.2).donee
 have r3:=(Rw.row p.2.2).dcl
 unfold toD4 c4d
 dsimp only
 generalize rowI p.1.2=A1 at *
 generalize rowI p.2.2=A2 at *
 simp only [iv] at g
 simp -implicitDefEqProofs (maxSteps:=9^8) only [Qi1,g,o1,o2,q1,q2,q3,r1,r2,r3,go_sem,Qac,Qab,iv,bv,reduceCtorEq,↓reduceIte,Nat.reduceEqDiff]
theorem r5Sign_F {p:F4} (hp:gF p):Qah G Qdk [.agg (c4d (toD4 p))]=some (.d (iv (sgP p))):=by
 rw [Qad (cf:=Qc7) rfl]
 have g:=Qmf (b:=p.1.1) (l:=p.1.2) (by have:=hp.2.2.1;omega) hp.2.2.2.2.1
 unfold sgP
 generalize sgF p.1.1 p.1.2=s at *
 have o1:(rowI p.1.2).one=true:=rfl
 have o2:(rowI p.2.2).one=true:=rfl
 have q1:=(Rw.row p.1.2).one
 have q2:=(Rw.row p.1.2).donee
 have q3:=(Rw.row p.1.2).dcl
 have r1:=(Rw.row p.2.2).one
 have r2:=(Rw.row p.2.2).donee
 have r3:=(Rw.row p.2.2).dcl
 unfold toD4 c4d
 dsimp only
 clear hp
 generalize rowI p.1.2=A1 at *
 generalize rowI p.2.2=A2 at *
 simp only [iv] at g
 simp -implicitDefEqProofs (maxSteps:=9^8) only [Qc7,g,o1,o2,q1,q2,q3,r1,r2,r3,go_sem,Qac,Qab,iv,bv,reduceCtorEq,↓reduceIte,Nat.reduceEqDiff]
theorem ratV_F {p:F4} (hp:gF p):Qah G QfH [.agg (c4d (toD4 p))]=some (.d (bv true)):=by
 obtain ⟨a1,a2,a3,a4,a5,a6⟩:=hp
 have g:=rV_row (dp:=rowI p.1.2) (x:=xvF p.1) (by rw [a2];exact Rw.row _) (c:=p.2.1) (Rw.row p.2.2) (by unfold nd;rw [a2];exact a3) a4
 rw [a1,a6] at g
 exact g
theorem r5V_F {p:F4} (hp:gF p):Qah G QbQ [.agg (c4d (toD4 p))]=some (.d (bv true)):=by
 obtain ⟨a1,a2,a3,a4,a5,a6⟩:=hp
 have g:=r5V_row (dp:=rowI p.1.2) (x:=xvF p.1) (by rw [a2];exact Rw.row _) (c:=p.2.1) (Rw.row p.2.2) (by unfold nd;rw [a2];exact a3) a4
 rw [a1,a6] at g
 exact g
theorem pValid_F {d:D} {l:List F4} (hr:RwE c4d d (l.map toD4)) (hg:∀ p∈l,gF p) (hl:l.length≤1000000000000):Qah G Qgj [d]=some (.d (bv (vL l))):=by
 rw [Qad (cf:=Qh7) rfl]
 have lm:(l.map toD4).length=l.length:=List.length_map _
 have ll:=hr.len
 have h4:=four_E hr
 rw [lm] at ll h4
 have hin:∀ i,i<l.length→gF (l.getD i default):=fun i hi=>by
  rw [List.getD_eq_getElem?_getD,List.getElem?_eq_getElem hi];exact hg _ (List.getElem_mem hi)
 have hc:=ct4_none (f:=Qgw) h4 hl (fun i hi=>by
  rw [elt_E (by omega),QhT l hi]
  exact pV1_spec (b:=true) rfl ⟨rfl,rfl,rfl,rfl⟩ (ratV_F (hin i hi)))
 simp only [bv] at hc
 unfold vL
 by_cases h0:l=[]
 ·subst h0
  have e0:((0:Int)==0)=true:=rfl
  simp only [List.length_nil] at ll
  simp -implicitDefEqProofs (maxSteps:=9^8) only [Qh7,ubt,hc,ll,e0,decide_true,Bool.true_or,go_sem,iv,bv,reduceCtorEq,↓reduceIte,Nat.reduceEqDiff]
 ·have hp:0<l.length:=List.length_pos_iff.2 h0
  have e1:((l.length:Int)==0)=false:=Qb9 (by omega)
  have e2:w64 ((l.length:Int)-1)=((l.length-1:Nat):Int):=by rw [Qae (by omega) (by omega)];omega
  have x1:=hr.ixa Qei (j:=l.length-1) (by omega)
  have x2:=fun h=>ldE Qei h (l:=l.map toD4) (j:=l.length-1) (by omega)
  have g:=ratSign_F (l.getD (l.length-1) default)
  rw [QhT l (by omega)] at x2
  rw [decide_eq_false h0,Bool.false_or]
  clear h0 hr hg hin hp h4 lm hl
  generalize toD4 (l.getD (l.length-1) default)=q at *
  generalize sgP (l.getD (l.length-1) default)=s at *
  generalize ((l.length-1:Nat):Int)=z at *
  generalize ((l.map toD4).drop (l.length-1)).flatMap c4d=cs at *
  simp only [iv] at g
  simp -implicitDefEqProofs (maxSteps:=9^8) only [Qh7,ubt,hc,ll,e1,e2,x1,x2,g,go_sem,iv,bv,reduceCtorEq,↓reduceIte,Nat.reduceEqDiff]
theorem r6Valid_F {d:D} {l:List F4} (hr:RwE c4d d (l.map toD4)) (hg:∀ p∈l,gF p) (hl:l.length≤1000000000000):Qah G QfN [d]=some (.d (bv (vL l))):=by
 rw [Qad (cf:=Qdz) rfl]
 have lm:(l.map toD4).length=l.length:=List.length_map _
 have ll:=hr.len
 have h4:=four_E hr
 rw [lm] at ll h4
 have hin:∀ i,i<l.length→gF (l.getD i default):=fun i hi=>by
  rw [List.getD_eq_getElem?_getD,List.getElem?_eq_getElem hi];exact hg _ (List.getElem_mem hi)
 have hc:=v6_all h4 hl (fun i hi=>by
  rw [elt_E (by omega),QhT l hi]
  exact r5V_F (hin i hi)) l.length 0 (by omega)
 simp only [QpT,go_sem,nc0] at hc
 unfold vL
 by_cases h0:l=[]
 ·subst h0
  have e0:((0:Int)==0)=true:=rfl
  simp only [List.length_nil] at ll
  simp -implicitDefEqProofs (maxSteps:=9^8) only [Qdz,ubt,hc,ll,e0,decide_true,Bool.true_or,go_sem,iv,bv,reduceCtorEq,↓reduceIte,Nat.reduceEqDiff]
 ·have hp:0<l.length:=List.length_pos_iff.2 h0
  have e1:((l.length:Int)==0)=false:=Qb9 (by omega)
  have e2:w64 ((l.length:Int)-1)=((l.length-1:Nat):Int):=by rw [Qae (by omega) (by omega)];omega
  have x1:=hr.ixa Qei (j:=l.length-1) (by omega)
  have x2:=fun h=>ldE Qei h (l:=l.map toD4) (j:=l.length-1) (by omega)
  have g:=r5Sign_F (hin (l.length-1) (by omega))
  rw [QhT l (by omega)] at x2
  rw [decide_eq_false h0,Bool.false_or]
  have mx:(if (0:Int)>((l.length-1:Nat):Int) then (0:Int) else ((l.length-1:Nat):Int))=((l.length-1:Nat):Int):=if_neg (by omega)
  clear h0 hr hg hin hp h4 lm hl
  generalize toD4 (l.getD (l.length-1) default)=q at *
  generalize sgP (l.getD (l.length-1) default)=s at *
  generalize ((l.length-1:Nat):Int)=z at *
  generalize ((l.map toD4).drop (l.length-1)).flatMap c4d=cs at *
  simp only [iv] at g
  simp -implicitDefEqProofs (maxSteps:=9^8) only [Qdz,ubt,hc,ll,e1,e2,mx,Qf8,mxV,x1,x2,g,go_sem,iv,bv,reduceCtorEq,↓reduceIte,Nat.reduceEqDiff]
end Go.AM

/- Decode of polynomials. -/
namespace Go.AM
open Go Go.RowKit
def rdQ (b:List Int):Nat→Nat→List F4→List F4×Int×Int
 | 0,at_,acc=>(acc,at_,0)
 | n+1,at_,acc=>if (dcQ (b.drop at_)).2.2≠0 then (acc,(at_:Int),(dcQ (b.drop at_)).2.2) else rdQ b n (at_+(dcQ (b.drop at_)).2.1.toNat) (acc++[(dcQ (b.drop at_)).1])
theorem QgV (b:List Int) (n at_:Nat) (acc:List F4):rdQ b (n+1) at_ acc=if (dcQ (b.drop at_)).2.2≠0 then (acc,(at_:Int),(dcQ (b.drop at_)).2.2) else rdQ b n (at_+(dcQ (b.drop at_)).2.1.toNat) (acc++[(dcQ (b.drop at_)).1]):=rfl
def dcP (b:List Int):List F4×Int×Int :=
 if (gI b).2.2≠0 then ([],0,(gI b).2.2) else if (gI b).1<0 then ([],0,2) else
 let r:=rdQ b (gI b).1.toNat (gI b).2.1.toNat []
 if r.2.2≠0 then ([],0,r.2.2) else if vL r.1=true then r else ([],0,2)
def dcPR (b:List Int):R:=.d (.tup [dE c4d ((dcP b).1.map toD4),iv (dcP b).2.1,iv (dcP b).2.2])
def zD4:D4:=(.v (.bool false),.z true,.v (.bool false),.z true)
theorem c4_snoc (l:List D4) (a b c d:D):(l.flatMap c4d).map A.d++[.d a,.d b,.d c,.d d]=((l++[(a,b,c,d)]).flatMap c4d).map A.d:=by simp [c4d]
theorem Qnw {b:List Int} (hb:Byt b) (hn:b.length≤1000000000):∀ (n at_:Nat) (acc:List F4),acc.length≤at_→at_≤b.length→(∀ p∈acc,gF p)→(∀ p∈(rdQ b n at_ acc).1,gF p)∧((rdQ b n at_ acc).1.length:Int)≤(rdQ b n at_ acc).2.1∧(rdQ b n at_ acc).2.1≤b.length
 | 0,at_,acc,h1,h2,h3=>⟨h3,by show (acc.length:Int)≤(at_:Int);omega,by show (at_:Int)≤_;omega⟩
 | n+1,at_,acc,h1,h2,h3=>by
  rw [QgV]
  by_cases c:(dcQ (b.drop at_)).2.2=0
  ·rw [if_neg (by rw [c];simp)]
   obtain ⟨k1,k2,k3⟩:=Qre (hb.drop at_) (by rw [List.length_drop];omega) c
   rw [List.length_drop] at k3
   exact Qnw hb hn n _ _ (by rw [List.length_append,List.length_singleton];omega) (by omega) (fun p hp=>by
    rcases List.mem_append.1 hp with h | h
    ·exact h3 p h
    ·rw [List.mem_singleton.1 h];exact k1)
  ·rw [if_pos c]
   exact ⟨h3,by show (acc.length:Int)≤(at_:Int);omega,by show (at_:Int)≤_;omega⟩
def QgL (d:D) (n:Int) (L:List D4) (at_ e i:Int):St:=mkS [(0,.d d),(6,ai at_),(7,ai e),(8,gAE 40 L),(24,ai n),(25,ai i)] (gHE c4d 4 40 L)
def Qix (L:List D4) (at_ e:Int):St:=mkS [(6,ai at_),(7,ai e),(8,gAE 40 L)] (gHE c4d 4 40 L)
def Qil (d:D) (n:Int) (L:List D4) (at_ i:Int):St:=mkS [(0,.d d),(5,ai n),(6,ai at_),(8,gAE 43 L),(9,ai i)] (gHE c4d 4 43 L)
def QrP (L:List D4) (at_:Int):St:=mkS [(6,ai at_),(8,gAE 43 L)] (gHE c4d 4 43 L)
def QmH (L:List D4) (e:Int):St:=mkS [(2,.d (.z true)),(3,ai 0),(4,ai e)] (gHE c4d 4 43 L)
theorem Qr3 (a b c d:D):rep 1 [a,b,c,d]=[a,b,c,d]:=rfl
theorem QqX {b:List Int} (h:(dcQ b).2.2=0):dcQR b=.d (.tup [.agg [.v (.bool (dcQ b).1.1.1),rowI (dcQ b).1.1.2,.v (.bool (dcQ b).1.2.1),rowI (dcQ b).1.2.2],iv (dcQ b).2.1,iv 0]):=by
 unfold dcQR;rw [if_pos h];rfl
theorem QqL {b:List Int} (h:(dcQ b).2.2≠0):dcQR b=.d (.tup [.agg [.v (.bool false),.z true,.v (.bool false),.z true],iv 0,iv (dcQ b).2.2]):=by
 unfold dcQR;rw [if_neg h];rfl
theorem oD4 (a c:Bool) (l m:List Int):(D.v (.bool a)).one=true∧(rowI l).one=true∧(D.v (.bool c)).one=true∧(rowI m).one=true:=⟨rfl,rfl,rfl,rfl⟩
theorem dE_ne {α:Type} {en:α→List D} {l:List α} (h:l≠[]):dE en l=rowE en l:=if_neg h
theorem dE_nil {α:Type} {en:α→List D}:dE en ([]:List α)=.z true:=rfl
variable [Its]
theorem Qpi {D0:D} {n at_ e i:Int} {L:List D4} (h:¬ i<n):X G QaT (QgL D0 n L at_ e i)=some (.x 0,Qix L at_ e):=by
 have e1:decide (i<n)=false:=lt_f h
 by_cases h0:L=[]
 ·subst h0
  simp -implicitDefEqProofs (maxSteps:=9^8) only [QaT,QgL,Qix,QdU,QdP,Qaa,Qam,List.cons.injEq,e1,go_sem,reduceCtorEq,↓reduceIte,Nat.reduceEqDiff,iv]
 ·simp -implicitDefEqProofs (maxSteps:=9^8) only [QaT,QgL,Qix,Qhu h0,Qhw h0,arE,QeQ,Qaa,Qam,List.cons.injEq,e1,go_sem,reduceCtorEq,↓reduceIte,Nat.reduceEqDiff,iv]
theorem pd_err {D0:D} {n at_ e i:Int} {L:List D4} (h:i<n) (he:e≠0):X G QaT (QgL D0 n L at_ e i)=some (.x 0,Qix L at_ e):=by
 have e1:decide (i<n)=true:=lt_t h
 have z0:(e != 0)=true:=QeL he
 by_cases h0:L=[]
 ·subst h0
  simp -implicitDefEqProofs (maxSteps:=9^8) only [QaT,QgL,Qix,QdU,QdP,Qaa,Qam,List.cons.injEq,e1,z0,go_sem,reduceCtorEq,↓reduceIte,Nat.reduceEqDiff,iv]
 ·simp -implicitDefEqProofs (maxSteps:=9^8) only [QaT,QgL,Qix,Qhu h0,Qhw h0,arE,QeQ,Qaa,Qam,List.cons.injEq,e1,z0,go_sem,reduceCtorEq,↓reduceIte,Nat.reduceEqDiff,iv]
theorem pd_any {b:List Int} {CC:List D} (hC:b.map uv=CC) {n k:Int} {at_:Nat} {L:List D4} (hk:k<n) (hk0:0≤k) (hn:n≤9223372036854775807) (hL:L.length≤1000000000) (hl:b.length≤1000000000) (ha:at_≤b.length) {x1 x2 x3 x4:D} {u e:Int} (hu:0≤u) (hu2:u≤1000000000)
    (o:x1.one=true∧x2.one=true∧x3.one=true∧x4.one=true)
    (g:Qah G Qhz [rowU (b.drop at_)]=some (.d (.tup [.agg [x1,x2,x3,x4],iv u,iv e]))) :
    X G QaT (QgL (.row b.length CC) n L at_ 0 k)=some (.n,QgL (.row b.length CC) n (L++[(x1,x2,x3,x4)]) ((at_+u.toNat:Nat):Int) e (k+1)):=by
  have e1:decide (k<n)=true:=lt_t hk
  have e2:w64 (k+1)=k+1:=Qae (by omega) (by omega)
  have cu:=cutU hC ha
  have g1:((0:Int)≤(at_:Int)∧(at_:Int)≤((b.length:Nat):Int)∧((b.length:Nat):Int)≤((b.length:Nat):Int))=True:=eq_true ⟨by omega,by omega,by omega⟩
  have e3:w64 ((at_:Int)+u)=((at_+u.toNat:Nat):Int):=by rw [Qae (by omega) (by omega)];omega
  have z0:((0:Int) != 0)=false:=rfl
  have f1:((L.length+1)*64≤bound)=True:=eq_true (by simp only [bound];omega)
  have f2:(1*64≤bound)=True:=eq_true (by decide)
  obtain ⟨o1,o2,o3,o4⟩:=o
  have q1:A.one (.d x1)=true:=o1
  have q2:A.one (.d x2)=true:=o2
  have q3:A.one (.d x3)=true:=o3
  have q4:A.one (.d x4)=true:=o4
  simp only [iv] at g
  generalize rowU (b.drop at_)=RU at *
  generalize ((at_+u.toNat:Nat):Int)=at2 at *
  by_cases h0:L=[]
  · subst h0
    have p1:gAE 40 [((x1,x2,x3,x4):D4)]=.own [40] 1:=rfl
    have p2:gHE c4d 4 40 [((x1,x2,x3,x4):D4)]=[([40],⟨4,1,[.d x1,.d x2,.d x3,.d x4],false⟩)]:=rfl
    simp -implicitDefEqProofs (maxSteps:=9^8) only [QaT,QgL,p1,p2,QdU,QdP,List.nil_append,List.cons_append,g,cu,g1,z0,e1,e2,e3,f2,o1,o2,o3,o4,q1,q2,q3,q4,Qr3,Qa2,allD,refs,Qdg,Qdh,QbA,List.all_cons,List.all_nil,Bool.and_self,Bool.and_true,Qaa,Qam,Bool.not_true,Bool.not_false,List.map_cons,List.map_nil,List.length_nil,List.length_cons,Nat.zero_add,Nat.zero_mul,List.cons.injEq,go_sem,Qac,Qab,reduceCtorEq,↓reduceIte,Nat.reduceEqDiff,iv]
  · simp -implicitDefEqProofs (maxSteps:=9^8) only [QaT,QgL,Qhu h0,Qhw h0,Qqe,Qrl,arE,c4_snoc,lenE Qei,List.nil_append,List.cons_append,g,cu,g1,z0,e1,e2,e3,f1,f2,o1,o2,o3,o4,q1,q2,q3,q4,Qr3,Qa2,allD,refs,Qdg,QeQ,Qdh,QbA,List.all_cons,List.all_nil,Bool.and_self,Bool.and_true,Qaa,Qam,Bool.not_true,Bool.not_false,List.map_cons,List.map_nil,List.length_nil,List.length_cons,Nat.zero_add,List.cons.injEq,go_sem,Qac,Qab,reduceCtorEq,↓reduceIte,Nat.reduceEqDiff,iv]


theorem pd_loop {b:List Int} {CC:List D} (hC:b.map uv=CC) (hb:Byt b) (hl:b.length≤1000000000) {n:Nat} (hn:(n:Int)≤9223372036854775807):∀ (j k at_:Nat) (acc:List F4),k+j=n→acc.length≤at_→at_≤b.length →
    ((rdQ b j at_ acc).2.2=0→X G (.loop QaT) (QgL (.row b.length CC) n (acc.map toD4) at_ 0 k)=some (.x 0,Qix ((rdQ b j at_ acc).1.map toD4) (rdQ b j at_ acc).2.1 0)) ∧
    ((rdQ b j at_ acc).2.2≠0→∃ L at2,X G (.loop QaT) (QgL (.row b.length CC) n (acc.map toD4) at_ 0 k)=some (.x 0,Qix L at2 (rdQ b j at_ acc).2.2))
  | 0,k,at_,acc,h,hk,ha=>by
    have:k=n:=by omega
    subst this
    exact ⟨fun _=>by rw [Qag,Qpi (by omega)];rfl,fun h0=>absurd rfl h0⟩
  | j+1,k,at_,acc,h,hk,ha=>by
    rw [QgV]
    have hdl:(b.drop at_).length≤1000000000:=by rw [List.length_drop];omega
    have g:=Ql4 (RwU.row (b.drop at_)) (hb.drop at_) hdl
    have hL:(acc.map toD4).length≤1000000000:=by rw [List.length_map];omega
    by_cases c0:(dcQ (b.drop at_)).2.2=0
    · obtain ⟨k1,k2,k3⟩:=Qre (hb.drop at_) hdl c0
      rw [QqX c0] at g
      rw [if_neg (by rw [c0];simp)]
      have s:=pd_any hC (n:=n) (k:=k) (L:=acc.map toD4) (by omega) (by omega) hn hL hl ha (by omega) (by omega) (oD4 _ _ _ _) g
      rw [List.length_drop] at k3
      have ih:=pd_loop hC hb hl hn j (k+1) (at_+(dcQ (b.drop at_)).2.1.toNat) (acc++[(dcQ (b.drop at_)).1]) (by omega) (by rw [List.length_append,List.length_singleton];omega) (by omega)
      rw [show (acc++[(dcQ (b.drop at_)).1]).map toD4=acc.map toD4++[(D.v (.bool (dcQ (b.drop at_)).1.1.1),rowI (dcQ (b.drop at_)).1.1.2,D.v (.bool (dcQ (b.drop at_)).1.2.1),rowI (dcQ (b.drop at_)).1.2.2)] by rw [List.map_append];rfl] at ih
      rw [Qag,s,Option.bind_some,if_pos rfl]
      exact ih
    · rw [QqL c0] at g
      rw [if_pos c0]
      refine ⟨fun h=>absurd h c0,fun _=>⟨acc.map toD4++[zD4],((at_+(0:Int).toNat:Nat):Int), ?_⟩⟩
      have s:=pd_any hC (n:=n) (k:=k) (L:=acc.map toD4) (by omega) (by omega) hn hL hl ha (by omega) (by omega) ⟨rfl,rfl,rfl,rfl⟩ g
      rw [Qag,s,Option.bind_some,if_pos rfl]
      show X G (.loop QaT) (QgL (.row b.length CC) n (acc.map toD4++[zD4]) _ _ ((k:Int)+1))=_
      by_cases hk2:(k:Int)+1<n
      · rw [Qag,pd_err hk2 c0];rfl
      · rw [Qag,Qpi hk2];rfl
theorem pd_exit {D0:D} {n at_ e i:Int} {L:List D4} (h:¬ i<n):X G (.loop QaT) (QgL D0 n L at_ e i)=some (.x 0,Qix L at_ e):=by
 rw [Qag,Qpi h];rfl
set_option maxHeartbeats 2000000 in
theorem QhS {d:D} {b:List Int} (hr:RwU d b) (hb:Byt b) (hl:b.length≤1000000000):Qah G Qfy [d]=some (dcPR b):=by
  rw [Qad (cf:=Qc3) rfl]
  have g:=Qgb hr hb (by omega)
  rw [Qlr] at g
  have ze:∀ e:Int,dcP b=([],0,e)→dcPR b=.d (.tup [.z true,iv 0,iv e]):=fun e h=>by unfold dcPR;rw [h];rfl
  have z1:((0:Int)==0)=true:=rfl
  have z0:((0:Int) != 0)=false:=rfl
  have z2:((2:Int)==0)=false:=rfl
  have z3:((2:Int) != 0)=true:=rfl
  by_cases c0:(gI b).2.2=0
  · have ok:=Qj6 hb c0
    by_cases c1:(gI b).1<0
    · rw [ze 2 (by unfold dcP;rw [if_neg (by rw [c0];simp),if_pos c1])]
      have L:=fun (D0:D) (at_:Int)=>pd_exit (D0:=D0) (n:=(gI b).1) (at_:=at_) (e:=2) (i:=0) (L:=[]) (by omega)
      have e1:decide ((gI b).1<0)=true:=lt_t c1
      clear hr ze c1 ok
      obtain ⟨⟨n,u,e⟩,hg⟩:∃ r,gI b=r:=⟨_,rfl⟩
      rw [hg] at g c0 L e1
      dsimp only at c0 L e1
      subst c0
      simp only [tup3,iv] at g
      simp only [QgL,Qix,QdU,QdP,Qaa,go_sem] at L
      simp -implicitDefEqProofs (maxSteps:=9^8) only [Qc3,g,L,e1,z1,z2,z3,QdG,ubt,Qaa,toDs,toD,allD,go_sem,reduceCtorEq,↓reduceIte,Nat.reduceEqDiff,iv]
    · have hne : b ≠ [] := fun h0 => by
        have h1:b.length=0:=by rw [h0];rfl
        omega
      have hd:=hr.ne hne
      subst hd
      obtain ⟨CC,hC⟩:∃ C,b.map uv=C:=⟨_,rfl⟩
      have hrow:rowU b=.row b.length CC:=by rw [rowU,hC]
      rw [hrow] at g ⊢
      have hn:=ok.1
      unfold I64 at hn
      obtain ⟨L1,L2⟩:=pd_loop hC hb hl (n:=(gI b).1.toNat) (by omega) (gI b).1.toNat 0 (gI b).2.1.toNat [] (by omega) (by simp) (by omega)
      have iv0:=Qnw hb hl (gI b).1.toNat (gI b).2.1.toNat [] (by simp) (by omega) (by simp)
      have hdc:dcP b=if (rdQ b (gI b).1.toNat (gI b).2.1.toNat []).2.2≠0 then ([],0,(rdQ b (gI b).1.toNat (gI b).2.1.toNat []).2.2) else if vL (rdQ b (gI b).1.toNat (gI b).2.1.toNat []).1=true then rdQ b (gI b).1.toNat (gI b).2.1.toNat [] else ([],0,2):=by
        unfold dcP
        rw [if_neg (by rw [c0];simp),if_neg c1]
      rw [show (([]:List F4).map toD4)=[] from rfl,show (((gI b).1.toNat:Nat):Int)=(gI b).1 by omega,show (((gI b).2.1.toNat:Nat):Int)=(gI b).2.1 by omega,show ((0:Nat):Int)=0 from rfl] at L1 L2
      have e1:decide ((gI b).1<0)=false:=lt_f c1
      generalize rdQ b (gI b).1.toNat (gI b).2.1.toNat []=r at *
      obtain ⟨⟨n,u,e⟩,hg⟩:∃ r,gI b=r:=⟨_,rfl⟩
      rw [hg] at g c0 L1 L2 e1
      clear hn ok c1 hg hrow hr
      dsimp only at c0 L1 L2 e1
      subst c0
      simp only [tup3,iv] at g
      by_cases c2:r.2.2=0
      · have L:=L1 c2
        rw [if_neg (by rw [c2];simp)] at hdc
        have V:=pValid_F (dE_ok (en:=c4d) (r.1.map toD4)) iv0.1 (by omega)
        clear L1 L2
        unfold dcPR
        rw [hdc]
        clear hdc ze
        obtain ⟨rl,ra,re⟩:=r
        dsimp only at c2 V L ⊢
        subst c2
        clear iv0
        by_cases h0:rl=[]
        · subst h0
          have v0:vL []=true:=rfl
          rw [v0] at V
          rw [v0,if_pos rfl]
          rw [show ([]:List F4).map toD4=[] from rfl,dE_nil] at V
          rw [show ([]:List F4).map toD4=[] from rfl] at L
          rw [show dE c4d (([]:List F4).map toD4)=.z true from rfl]
          simp only [QgL,Qix,QdU,QdP,Qaa,go_sem] at L
          simp only [bv] at V
          simp -implicitDefEqProofs (maxSteps:=9^8) only [Qc3,g,L,V,e1,z0,z1,z2,z3,QdG,ubt,Qaa,toDs,toD,allD,Bool.not_true,go_sem,reduceCtorEq,↓reduceIte,Nat.reduceEqDiff,iv]
        · have hm:rl.map toD4≠[]:=fun h=>h0 (List.map_eq_nil_iff.1 h)
          rw [dE_ne hm] at V
          simp only [QgL,Qix,QdU,QdP,Qhu hm,Qhw hm,arE,Qaa,go_sem] at L
          by_cases hv:vL rl=true
          · rw [hv] at V
            rw [if_pos hv,dE_ne hm]
            unfold rowE at V ⊢
            simp only [bv] at V
            simp -implicitDefEqProofs (maxSteps:=9^8) only [Qc3,g,L,V,e1,z0,z1,z2,z3,QdG,ubt,Qmh,QeQ,Qaa,Qam,toDs,toD,allD,Bool.not_true,List.cons.injEq,go_sem,reduceCtorEq,↓reduceIte,Nat.reduceEqDiff,iv]
          · rw [if_neg hv]
            rw [Bool.not_eq_true] at hv
            rw [hv] at V
            unfold rowE at V
            rw [show dE c4d (([]:List F4).map toD4)=.z true from rfl]
            simp only [bv] at V
            simp -implicitDefEqProofs (maxSteps:=9^8) only [Qc3,g,L,V,e1,z0,z1,z2,z3,QdG,ubt,Qmh,QeQ,Qaa,Qam,toDs,toD,allD,Bool.not_false,List.cons.injEq,go_sem,reduceCtorEq,↓reduceIte,Nat.reduceEqDiff,iv]
      · obtain ⟨L0,at2,L⟩:=L2 c2
        rw [if_pos c2] at hdc
        rw [ze _ hdc]
        clear L1 L2 hdc ze iv0
        generalize r.2.2=e at *
        have z4:(e==0)=false:=Qb9 c2
        have z5:(e != 0)=true:=QeL c2
        by_cases hm:L0=[]
        · subst hm
          simp only [QgL,Qix,QdU,QdP,Qaa,go_sem] at L
          simp -implicitDefEqProofs (maxSteps:=9^8) only [Qc3,g,L,e1,z0,z1,z4,z5,QdG,ubt,Qaa,toDs,toD,allD,Bool.not_true,go_sem,reduceCtorEq,↓reduceIte,Nat.reduceEqDiff,iv]
        · simp only [QgL,Qix,QdU,QdP,Qhu hm,Qhw hm,arE,Qaa,go_sem] at L
          simp -implicitDefEqProofs (maxSteps:=9^8) only [Qc3,g,L,e1,z0,z1,z4,z5,QdG,ubt,Qmh,QeQ,Qaa,Qam,toDs,toD,allD,Bool.not_true,List.cons.injEq,go_sem,reduceCtorEq,↓reduceIte,Nat.reduceEqDiff,iv]
  · rw [ze _ (by unfold dcP;rw [if_pos c0])]
    obtain ⟨er1,er2,_⟩:=gI_err c0
    have L:=fun (D0:D) (at_ e:Int)=>pd_exit (D0:=D0) (n:=0) (at_:=at_) (e:=e) (i:=0) (L:=[]) (by omega)
    clear hr ze
    obtain ⟨⟨n,u,e⟩,hg⟩:∃ r,gI b=r:=⟨_,rfl⟩
    rw [hg] at g c0 er1 er2 ⊢
    dsimp only at c0 er1 er2 ⊢
    subst er1 er2
    have z4:(e==0)=false:=Qb9 c0
    have z5:(e != 0)=true:=QeL c0
    simp only [tup3,iv] at g
    simp only [QgL,Qix,QdU,QdP,Qaa,go_sem] at L
    simp -implicitDefEqProofs (maxSteps:=9^8) only [Qc3,g,L,z1,z4,z5,QdG,ubt,Qaa,toDs,toD,allD,go_sem,reduceCtorEq,↓reduceIte,Nat.reduceEqDiff,iv]
end Go.AM

/- ref06.Decode. -/
namespace Go.AM
open Go Go.RowKit
variable [Its]
theorem rq_stop {D0:D} {n at_ i:Int} {L:List D4} (h:¬ i<n):X G Qar (Qil D0 n L at_ i)=some (.x 0,QrP L at_):=by
 have e1:decide (i<n)=false:=lt_f h
 by_cases h0:L=[]
 ·subst h0
  simp -implicitDefEqProofs (maxSteps:=9^8) only [Qar,Qil,QrP,QdU,QdP,Qaa,Qam,List.cons.injEq,e1,go_sem,reduceCtorEq,↓reduceIte,Nat.reduceEqDiff,iv]
 ·simp -implicitDefEqProofs (maxSteps:=9^8) only [Qar,Qil,QrP,Qhu h0,Qhw h0,arE,QeQ,Qaa,Qam,List.cons.injEq,e1,go_sem,reduceCtorEq,↓reduceIte,Nat.reduceEqDiff,iv]
theorem rq_any {b:List Int} {CC:List D} (hC:b.map uv=CC) {n k:Int} {at_:Nat} {L:List D4} (hk:k<n) (hk0:0≤k) (hn:n≤9223372036854775807) (hL:L.length≤1000000000) (hl:b.length≤1000000000) (ha:at_≤b.length) {x1 x2 x3 x4:D} {u:Int} (hu:0≤u) (hu2:u≤1000000000)
    (o:x1.one=true∧x2.one=true∧x3.one=true∧x4.one=true)
    (g:Qah G QcL [rowU (b.drop at_)]=some (.d (.tup [.agg [x1,x2,x3,x4],iv u,iv 0]))) :
    X G Qar (Qil (.row b.length CC) n L at_ k)=some (.n,Qil (.row b.length CC) n (L++[(x1,x2,x3,x4)]) ((at_+u.toNat:Nat):Int) (k+1)):=by
  have e1:decide (k<n)=true:=lt_t hk
  have e2:w64 (k+1)=k+1:=Qae (by omega) (by omega)
  have cu:=cutU hC ha
  have g1:((0:Int)≤(at_:Int)∧(at_:Int)≤((b.length:Nat):Int)∧((b.length:Nat):Int)≤((b.length:Nat):Int))=True:=eq_true ⟨by omega,by omega,by omega⟩
  have e3:w64 ((at_:Int)+u)=((at_+u.toNat:Nat):Int):=by rw [Qae (by omega) (by omega)];omega
  have z0:((0:Int) != 0)=false:=rfl
  have f1:((L.length+1)*64≤bound)=True:=eq_true (by simp only [bound];omega)
  have f2:(1*64≤bound)=True:=eq_true (by decide)
  obtain ⟨o1,o2,o3,o4⟩:=o
  have q1:A.one (.d x1)=true:=o1
  have q2:A.one (.d x2)=true:=o2
  have q3:A.one (.d x3)=true:=o3
  have q4:A.one (.d x4)=true:=o4
  simp only [iv] at g
  generalize rowU (b.drop at_)=RU at *
  generalize ((at_+u.toNat:Nat):Int)=at2 at *
  by_cases h0:L=[]
  · subst h0
    have p1:gAE 43 [((x1,x2,x3,x4):D4)]=.own [43] 1:=rfl
    have p2:gHE c4d 4 43 [((x1,x2,x3,x4):D4)]=[([43],⟨4,1,[.d x1,.d x2,.d x3,.d x4],false⟩)]:=rfl
    simp -implicitDefEqProofs (maxSteps:=9^8) only [Qar,Qil,p1,p2,QdU,QdP,List.nil_append,List.cons_append,g,cu,g1,z0,e1,e2,e3,f2,o1,o2,o3,o4,q1,q2,q3,q4,Qr3,Qa2,allD,refs,Qdg,Qdh,QbA,List.all_cons,List.all_nil,Bool.and_self,Bool.and_true,Qaa,Qam,Bool.not_true,Bool.not_false,List.map_cons,List.map_nil,List.length_nil,List.length_cons,Nat.zero_add,Nat.zero_mul,List.cons.injEq,go_sem,Qac,Qab,reduceCtorEq,↓reduceIte,Nat.reduceEqDiff,iv]
  · simp -implicitDefEqProofs (maxSteps:=9^8) only [Qar,Qil,Qhu h0,Qhw h0,Qqe,Qrl,arE,c4_snoc,lenE Qei,List.nil_append,List.cons_append,g,cu,g1,z0,e1,e2,e3,f1,f2,o1,o2,o3,o4,q1,q2,q3,q4,Qr3,Qa2,allD,refs,Qdg,QeQ,Qdh,QbA,List.all_cons,List.all_nil,Bool.and_self,Bool.and_true,Qaa,Qam,Bool.not_true,Bool.not_false,List.map_cons,List.map_nil,List.length_nil,List.length_cons,Nat.zero_add,List.cons.injEq,go_sem,Qac,Qab,reduceCtorEq,↓reduceIte,Nat.reduceEqDiff,iv]
theorem rq_err {b:List Int} {CC:List D} (hC:b.map uv=CC) {n k:Int} {at_:Nat} {L:List D4} (hk:k<n) (hl:b.length≤1000000000) (ha:at_≤b.length) {e:Int} (he:e≠0)
    (g:Qah G QcL [rowU (b.drop at_)]=some (.d (.tup [.agg [.v (.bool false),.z true,.v (.bool false),.z true],iv 0,iv e]))) :
    X G Qar (Qil (.row b.length CC) n L at_ k)=some (.r,QmH L e):=by
  have e1:decide (k<n)=true:=lt_t hk
  have cu:=cutU hC ha
  have g1:((0:Int)≤(at_:Int)∧(at_:Int)≤((b.length:Nat):Int)∧((b.length:Nat):Int)≤((b.length:Nat):Int))=True:=eq_true ⟨by omega,by omega,by omega⟩
  have z0:(e != 0)=true:=QeL he
  simp only [iv] at g
  generalize rowU (b.drop at_)=RU at *
  by_cases h0:L=[]
  · subst h0
    simp -implicitDefEqProofs (maxSteps:=9^8) only [Qar,Qil,QmH,QdU,QdP,g,cu,g1,z0,e1,Qr3,Qa2,allD,refs,Qdg,Qdh,QbA,Qaa,Qam,List.cons.injEq,go_sem,Qac,Qab,reduceCtorEq,↓reduceIte,Nat.reduceEqDiff,iv]
  · simp -implicitDefEqProofs (maxSteps:=9^8) only [Qar,Qil,QmH,Qhu h0,Qhw h0,arE,QeQ,g,cu,g1,z0,e1,Qr3,Qa2,allD,refs,Qdg,Qdh,QbA,Qaa,Qam,List.cons.injEq,go_sem,Qac,Qab,reduceCtorEq,↓reduceIte,Nat.reduceEqDiff,iv]
theorem rq_loop {b:List Int} {CC:List D} (hC:b.map uv=CC) (hb:Byt b) (hl:b.length≤1000000000) {n:Nat} (hn:(n:Int)≤9223372036854775807):∀ (j k at_:Nat) (acc:List F4),k+j=n→acc.length≤at_→at_≤b.length →
    ((rdQ b j at_ acc).2.2=0→X G (.loop Qar) (Qil (.row b.length CC) n (acc.map toD4) at_ k)=some (.x 0,QrP ((rdQ b j at_ acc).1.map toD4) (rdQ b j at_ acc).2.1)) ∧
    ((rdQ b j at_ acc).2.2≠0→∃ L,X G (.loop Qar) (Qil (.row b.length CC) n (acc.map toD4) at_ k)=some (.r,QmH L (rdQ b j at_ acc).2.2))
  | 0,k,at_,acc,h,hk,ha=>by
    have:k=n:=by omega
    subst this
    exact ⟨fun _=>by rw [Qag,rq_stop (by omega)];rfl,fun h0=>absurd rfl h0⟩
  | j+1,k,at_,acc,h,hk,ha=>by
    rw [QgV]
    have hdl:(b.drop at_).length≤1000000000:=by rw [List.length_drop];omega
    have g:=Qm0 (RwU.row (b.drop at_)) (hb.drop at_) hdl
    have hL:(acc.map toD4).length≤1000000000:=by rw [List.length_map];omega
    by_cases c0:(dcQ (b.drop at_)).2.2=0
    · obtain ⟨k1,k2,k3⟩:=Qre (hb.drop at_) hdl c0
      rw [QqX c0] at g
      rw [if_neg (by rw [c0];simp)]
      have s:=rq_any hC (n:=n) (k:=k) (L:=acc.map toD4) (by omega) (by omega) hn hL hl ha (by omega) (by omega) (oD4 _ _ _ _) g
      rw [List.length_drop] at k3
      have ih:=rq_loop hC hb hl hn j (k+1) (at_+(dcQ (b.drop at_)).2.1.toNat) (acc++[(dcQ (b.drop at_)).1]) (by omega) (by rw [List.length_append,List.length_singleton];omega) (by omega)
      rw [show (acc++[(dcQ (b.drop at_)).1]).map toD4=acc.map toD4++[(D.v (.bool (dcQ (b.drop at_)).1.1.1),rowI (dcQ (b.drop at_)).1.1.2,D.v (.bool (dcQ (b.drop at_)).1.2.1),rowI (dcQ (b.drop at_)).1.2.2)] by rw [List.map_append];rfl] at ih
      rw [Qag,s,Option.bind_some,if_pos rfl]
      exact ih
    · rw [QqL c0] at g
      rw [if_pos c0]
      refine ⟨fun h=>absurd h c0,fun _=>⟨acc.map toD4, ?_⟩⟩
      rw [Qag,rq_err hC (by omega) hl ha c0 g]
      rfl
set_option maxHeartbeats 2000000 in
theorem QnC {d:D} {b:List Int} (hr:RwU d b) (hb:Byt b) (hl:b.length≤1000000000):Qah G Qft [d]=some (dcPR b):=by
  rw [Qad (cf:=Qa8) rfl]
  have g:=QhL hr hb (by omega)
  rw [Qlr] at g
  have ze:∀ e:Int,dcP b=([],0,e)→dcPR b=.d (.tup [.z true,iv 0,iv e]):=fun e h=>by unfold dcPR;rw [h];rfl
  have z0:((0:Int) != 0)=false:=rfl
  by_cases c0:(gI b).2.2=0
  · have ok:=Qj6 hb c0
    by_cases c1:(gI b).1<0
    · rw [ze 2 (by unfold dcP;rw [if_neg (by rw [c0];simp),if_pos c1])]
      have e1:decide ((gI b).1<0)=true:=lt_t c1
      clear hr ze c1 ok
      obtain ⟨⟨n,u,e⟩,hg⟩:∃ r,gI b=r:=⟨_,rfl⟩
      rw [hg] at g c0 e1
      dsimp only at c0 e1
      subst c0
      simp only [tup3,iv] at g
      simp -implicitDefEqProofs (maxSteps:=9^8) only [Qa8,g,e1,z0,Qaa,toDs,toD,allD,go_sem,reduceCtorEq,↓reduceIte,Nat.reduceEqDiff,iv]
    · have hne : b ≠ [] := fun h0 => by
        have h1:b.length=0:=by rw [h0];rfl
        omega
      have hd:=hr.ne hne
      subst hd
      obtain ⟨CC,hC⟩:∃ C,b.map uv=C:=⟨_,rfl⟩
      have hrow:rowU b=.row b.length CC:=by rw [rowU,hC]
      rw [hrow] at g ⊢
      have hn:=ok.1
      unfold I64 at hn
      obtain ⟨L1,L2⟩:=rq_loop hC hb hl (n:=(gI b).1.toNat) (by omega) (gI b).1.toNat 0 (gI b).2.1.toNat [] (by omega) (by simp) (by omega)
      have iv0:=Qnw hb hl (gI b).1.toNat (gI b).2.1.toNat [] (by simp) (by omega) (by simp)
      have hdc:dcP b=if (rdQ b (gI b).1.toNat (gI b).2.1.toNat []).2.2≠0 then ([],0,(rdQ b (gI b).1.toNat (gI b).2.1.toNat []).2.2) else if vL (rdQ b (gI b).1.toNat (gI b).2.1.toNat []).1=true then rdQ b (gI b).1.toNat (gI b).2.1.toNat [] else ([],0,2):=by
        unfold dcP
        rw [if_neg (by rw [c0];simp),if_neg c1]
      rw [show (([]:List F4).map toD4)=[] from rfl,show (((gI b).1.toNat:Nat):Int)=(gI b).1 by omega,show (((gI b).2.1.toNat:Nat):Int)=(gI b).2.1 by omega,show ((0:Nat):Int)=0 from rfl] at L1 L2
      have e1:decide ((gI b).1<0)=false:=lt_f c1
      generalize rdQ b (gI b).1.toNat (gI b).2.1.toNat []=r at *
      obtain ⟨⟨n,u,e⟩,hg⟩:∃ r,gI b=r:=⟨_,rfl⟩
      rw [hg] at g c0 L1 L2 e1
      clear hn ok c1 hg hrow hr
      dsimp only at c0 L1 L2 e1
      subst c0
      simp only [tup3,iv] at g
      by_cases c2:r.2.2=0
      · have L:=L1 c2
        rw [if_neg (by rw [c2];simp)] at hdc
        have V:=r6Valid_F (dE_ok (en:=c4d) (r.1.map toD4)) iv0.1 (by omega)
        clear L1 L2
        unfold dcPR
        rw [hdc]
        clear hdc ze
        obtain ⟨rl,ra,re⟩:=r
        dsimp only at c2 V L ⊢
        subst c2
        clear iv0
        by_cases h0:rl=[]
        · subst h0
          have v0:vL []=true:=rfl
          rw [v0] at V
          rw [v0,if_pos rfl]
          rw [show ([]:List F4).map toD4=[] from rfl,dE_nil] at V
          rw [show ([]:List F4).map toD4=[] from rfl] at L
          rw [show dE c4d (([]:List F4).map toD4)=.z true from rfl]
          simp only [Qil,QrP,QdU,QdP,Qaa,go_sem] at L
          simp only [bv] at V
          simp -implicitDefEqProofs (maxSteps:=9^8) only [Qa8,g,L,V,e1,z0,QdG,ubt,Qaa,toDs,toD,allD,Bool.not_true,go_sem,reduceCtorEq,↓reduceIte,Nat.reduceEqDiff,iv]
        · have hm:rl.map toD4≠[]:=fun h=>h0 (List.map_eq_nil_iff.1 h)
          rw [dE_ne hm] at V
          simp only [Qil,QrP,QdU,QdP,Qhu hm,Qhw hm,arE,Qaa,go_sem] at L
          by_cases hv:vL rl=true
          · rw [hv] at V
            rw [if_pos hv,dE_ne hm]
            unfold rowE at V ⊢
            simp only [bv] at V
            simp -implicitDefEqProofs (maxSteps:=9^8) only [Qa8,g,L,V,e1,z0,QdG,ubt,Qmh,QeQ,Qaa,Qam,toDs,toD,allD,Bool.not_true,List.cons.injEq,go_sem,reduceCtorEq,↓reduceIte,Nat.reduceEqDiff,iv]
          · rw [if_neg hv]
            rw [Bool.not_eq_true] at hv
            rw [hv] at V
            unfold rowE at V
            rw [show dE c4d (([]:List F4).map toD4)=.z true from rfl]
            simp only [bv] at V
            simp -implicitDefEqProofs (maxSteps:=9^8) only [Qa8,g,L,V,e1,z0,QdG,ubt,Qmh,QeQ,Qaa,Qam,toDs,toD,allD,Bool.not_false,List.cons.injEq,go_sem,reduceCtorEq,↓reduceIte,Nat.reduceEqDiff,iv]
      · obtain ⟨L0,L⟩:=L2 c2
        rw [if_pos c2] at hdc
        rw [ze _ hdc]
        clear L1 L2 hdc ze iv0
        generalize r.2.2=e at *
        by_cases hm:L0=[]
        · subst hm
          simp only [Qil,QmH,QdU,QdP,Qaa,go_sem] at L
          simp -implicitDefEqProofs (maxSteps:=9^8) only [Qa8,g,L,e1,z0,QdG,ubt,Qaa,toDs,toD,allD,Bool.not_true,go_sem,reduceCtorEq,↓reduceIte,Nat.reduceEqDiff,iv]
        · simp only [Qil,QmH,QdU,QdP,Qhu hm,Qhw hm,arE,Qaa,go_sem] at L
          simp -implicitDefEqProofs (maxSteps:=9^8) only [Qa8,g,L,e1,z0,QdG,ubt,Qmh,QeQ,Qaa,Qam,toDs,toD,allD,Bool.not_true,List.cons.injEq,go_sem,reduceCtorEq,↓reduceIte,Nat.reduceEqDiff,iv]
  · rw [ze _ (by unfold dcP;rw [if_pos c0])]
    clear hr ze
    obtain ⟨⟨n,u,e⟩,hg⟩:∃ r,gI b=r:=⟨_,rfl⟩
    rw [hg] at g c0 ⊢
    dsimp only at c0 ⊢
    have z5:(e != 0)=true:=QeL c0
    simp only [tup3,iv] at g
    simp -implicitDefEqProofs (maxSteps:=9^8) only [Qa8,g,z5,Qaa,toDs,toD,allD,go_sem,reduceCtorEq,↓reduceIte,Nat.reduceEqDiff,iv]
end Go.AM

/- slices.Grow of nil, at bytes. -/
namespace Go.Proofs
open Go.Shelf Go.RowKit
def Tryz.growB_ren:Go.Shelf.Ren:=⟨fun | 4=>131 | n=>n,fun | 22=>47 | 25=>5 | 3=>3 | 4=>4 | 9=>9 | 20=>20 | 0=>0 | n=>n,fun | n=>n⟩
theorem Tryz.growB:Go.Proofs.Lays8.n4 Tryz.prog Tryz.growB_ren:={
 mixed:=by kernel_rfl
 f4:=⟨Tryz.f131.name,by decide,Tryz.func131.trans (congrArg some (by kernel_rfl))⟩
 t0:=Tryz.underlying0
 a0:=Tryz.isAgg0
 z0:=Tryz.sizeOf0
 v0:=Tryz.zeroValue0
 t3:=Tryz.underlying3
 a3:=Tryz.isAgg3
 z3:=Tryz.sizeOf3
 v3:=Tryz.zeroValue3
 t4:=Tryz.underlying4
 a4:=Tryz.isAgg4
 z4:=Tryz.sizeOf4
 v4:=Tryz.zeroValue4
 t9:=Tryz.underlying9
 a9:=Tryz.isAgg9
 z9:=Tryz.sizeOf9
 v9:=Tryz.zeroValue9
 t20:=Tryz.underlying20
 a20:=Tryz.isAgg20
 z20:=Tryz.sizeOf20
 v20:=Tryz.zeroValue20
 t22:=Tryz.underlying47
 a22:=Tryz.isAgg47
 z22:=Tryz.sizeOf47
 v22:=Tryz.zeroValue47 }
theorem Tryz.byteInfo:(Tryz.prog.info? 5).map (fun i=>(i.zero,i.size,i.bytes))=some (some (.int .u8 0),1,1):=by kernel_rfl
theorem growC (n:Nat) (h0:0<n) (hn:n≤1000000000000) (w:World) :
    Calls Tryz.prog 131 #[.slice none 0 0,.int .i64 n] w fun e w'=>∃ (cap:Nat) (cells:Array Value),e=.returned (.slice (some ⟨w.heap.size,0,none⟩) 0 cap)∧w'=w.drew.alloc (.cells cells 5)∧cap≤cells.size:=by
  obtain ⟨i0,hi,hz0,hz1,hz2⟩:=info_parts (P:=Tryz.prog) (e:=5) (z:=.int .u8 0) (size:=1) (bytes:=1) Tryz.byteInfo
  have h:=Any8.slices_Grow_grow Tryz.growB i0 (.int .u8 0) hi hz0 (by omega) none 0 0 n [] w (by omega) (by omega) (by rw [hz2];omega) (by omega) (by simp) (fun _=>rfl) (fun _ h=>by cases h)
  refine h.mono ?_
  rintro e w' ⟨rfl,rfl⟩
  refine ⟨_,_,rfl,rfl, ?_⟩
  have hg:=grownCap_ge w (0+n) 0 (Tryz.growB_ren.t 25)
  have hz:∀ k,(Builtin.zeroCells (Value.cells (.int .u8 0)) k).size=k:=fun k=>by simp [Builtin.zeroCells,Value.cells]
  rw [Array.size_append,Array.size_append,hz,hz]
  simp
  omega
end Go.Proofs

/- slices.Grow of nil, as an oracle. -/
namespace Go.AM
open Go Go.Proofs Go.RowKit
def orcG (f:Nat) (ds:List D):Option R :=
 if f=Qcc then match ds with
  | [.z true,.v (.int .i64 n)]=>if 0<n∧n≤1000000000000 then some (.own 1 0 []) else none
  | _=>none
 else none
theorem grow_okA (n:Int) (h1:0<n) (h2:n≤1000000000000):CallOk Tryz.prog 131 [.z true,.v (.int .i64 n)] (.own 1 0 []):=by
 refine ⟨⟨Tryz.f131,Tryz.func131,by kernel_rfl,by decide⟩,fun S w vs hT hrep hlt=>?_⟩
 cases hrep with
 | cons _ _ v1 vs1 r1 t1 =>
 cases t1 with
 | cons _ _ v2 vs2 r2 t2 =>
 cases t2;cases r1;cases r2
 obtain ⟨k,rfl⟩:∃ k:Nat,n=k:=⟨n.toNat,by omega⟩
 refine Calls.mono (growC k (by omega) (by omega) w) ?_
 rintro e w' ⟨cap,cells,rfl,rfl,hc⟩
 refine ⟨_,rfl,((Below.refl _ w).drew).alloc (Nat.le_refl _) _,by omega,w.heap.size,cap,cells,5,(0,0),[],Nat.le_refl _,rfl,by omega, ?_,by omega,fun i _ h=>by simp at h,.nil,fun i v h=>by simp at h,by simp⟩
 show (w.drew.alloc _).heap[w.drew.heap.size]?=_
 exact Array.getElem?_push_size
theorem orcG_ok:∀ f ds r,orcG f ds=some r→CallOk Tryz.prog f ds r:=by
  intro f ds r h
  unfold orcG at h
  split at h
  · rename_i hf
    subst hf
    split at h
    · split at h
      · rename_i hc
        cases h
        exact grow_okA _ hc.1 hc.2
      · cases h
    · cases h
  · cases h
theorem orcG_at {n:Int} (h1:0<n) (h2:n≤1000000000000):orcG Qcc [.z true,iv n]=some (.own 1 0 []):=by
 unfold orcG
 rw [if_pos rfl]
 show (if 0<n∧n≤1000000000000 then some (R.own 1 0 []) else none)=_
 rw [if_pos ⟨h1,h2⟩]
class ItsG [Its]:Prop where
 grow:∀ {n:Int},0<n→n≤1000000000000→Qah G Qcc [.z true,iv n]=some (.own 1 0 [])
end Go.AM

/- rat.Encode, ref05.Encode; encodings decode. -/
namespace Go.AM
open Go Go.RowKit
def dnI (q:Rat):Int:=if q.den=1 then 0 else (q.den:Int)
theorem QkG (q:Rat):digs (dnI q).natAbs=dd q.den:=by
 unfold dnI dd
 split
 ·exact Qav
 ·rfl
theorem Qrk (q:Rat):0≤dnI q:=by unfold dnI;split<;>omega
def enQ (q:Rat):List Int:=enI q.num++enI (dnI q)
theorem sign_neg1 (x:Int):(Int.sign x==-1)=decide (x<0):=by
 rcases Int.lt_trichotomy x 0 with h | h | h
 ·rw [Int.sign_eq_neg_one_of_neg h,decide_eq_true h];rfl
 ·subst h;rfl
 ·rw [Int.sign_eq_one_of_pos h,decide_eq_false (by omega)];rfl
theorem sgF_enc (x:Int):sgF (decide (x<0)) (digs x.natAbs)=Int.sign x:=by
 unfold sgF
 rcases Int.lt_trichotomy x 0 with h | h | h
 ·rw [decide_eq_true h,Int.sign_eq_neg_one_of_neg h];rfl
 ·subst h
  rw [if_neg (by decide),if_pos (show digs (Int.natAbs 0)=[] from Qav)];rfl
 ·rw [decide_eq_false (by omega),Int.sign_eq_one_of_pos h,if_neg (by simp),if_neg]
  intro h0
  have:=congrArg val h0
  rw [Qat] at this
  have h2:val []=0:=rfl
  rw [h2] at this
  omega
theorem enI_byt (x:Int):Byt (enI x):=wL_byt _
theorem enQ_byt (q:Rat):Byt (enQ q):=(enI_byt _).app (enI_byt _)
theorem enI_pos (x:Int):0<(enI x).length:=by
 have:enI x=wI (((Int.sign x :: digs x.natAbs).length:Nat):Int)++wJ (Int.sign x :: digs x.natAbs):=rfl
 rw [this,List.length_append]
 have:1≤(wI (((Int.sign x :: digs x.natAbs).length:Nat):Int)).length:=by
  rw [wI,List.length_cons];omega
 omega
theorem Qgg {x:Int} {k:Nat} (hx:nd x≤k) (hk:k≤100000000):(enI x).length≤9*k+18:=by
 have h:=wL_len (Int.sign x :: digs x.natAbs)
 rw [List.length_cons] at h
 have hn:(digs x.natAbs).length≤k:=hx
 exact Nat.le_trans h (by omega)
theorem ixP0 (A B:D) (hp:Hp):ixaA hp 1 0 (.d (.row 2 [A,B]))=some (.d (.rp [A,B])):=rfl
theorem ixP1 (A B:D) (hp:Hp):ixaA hp 1 1 (.d (.row 2 [A,B]))=some (.d (.rp [B])):=rfl
theorem ldP (A:D) (l:List D) (hp:Hp):Qco hp none (.d (.rp (A :: l)))=some (.d A):=rfl
variable [Its]
theorem dcI_en {x:Int} (hx:nd x≤100000000000) (r:List Int):dcI (enI x++r)=((decide (x<0),digs x.natAbs),((enI x).length:Int),0):=by
 have hn:(digs x.natAbs).length≤100000000000:=hx
 have g:=gIs_wL (l:=Int.sign x :: digs x.natAbs) (en_i64 x) (by rw [List.length_cons];omega) r
 unfold dcI
 rw [show enI x++r=wL (Int.sign x :: digs x.natAbs)++r from rfl,g]
 dsimp only
 rw [if_neg (by simp),sign_neg1,if_pos ⟨QrG (by omega),sgF_enc x⟩]
 rfl
theorem vR_enc (q:Rat) (hq:sz q≤1000000000):vR q.num false (dd q.den)=true:=by
 have h0:=QkG q
 unfold vR
 have hz:nd (dnI q)≤1000000000000:=by
  unfold dnI
  split
  ·rw [QfT];omega
  ·exact Nat.le_trans (QcT hq) (by omega)
 have h1:=QrG hz
 rw [decide_eq_false (by have:=Qrk q;omega),h0] at h1
 rw [h1]
 have hp:=q.den_pos
 by_cases hd:q.den=1
 ·have:dd q.den=[]:=by unfold dd;rw [if_pos hd]
  rw [this];rfl
 ·have e:dd q.den=digs q.den:=by unfold dd;rw [if_neg hd]
  rw [e]
  have hne:digs q.den≠[]:=fun h=>by
   have:=congrArg val h
   rw [Qat] at this
   have h2:val []=0:=rfl
   rw [h2] at this
   omega
  have h1':¬ digs q.den=[1]:=fun h=>by
   have:=congrArg val h
   rw [Qat] at this
   have h2:val [1]=1:=rfl
   rw [h2] at this
   omega
  have hg:Int.gcd q.num (val (digs q.den))=1:=by
   rw [Qat]
   exact q.reduced
  rw [decide_eq_false h1',decide_eq_false hne,decide_eq_true hg]
  rfl
theorem dcQ_en {q:Rat} (hq:sz q≤1000000000) (r:List Int):dcQ (enQ q++r)=(((decide (q.num<0),digs q.num.natAbs),(false,dd q.den)),((enQ q).length:Int),0):=by
 have hz:nd (dnI q)≤100000000000:=by
  unfold dnI
  split
  ·rw [QfT];omega
  ·exact Nat.le_trans (QcT hq) (by omega)
 have h1:=dcI_en (x:=q.num) (Nat.le_trans (QcR hq) (by omega)) (enI (dnI q)++r)
 rw [← List.append_assoc] at h1
 have hn:nxB (enI q.num++enI (dnI q)++r)=enI (dnI q)++r:=by
  unfold nxB
  rw [h1]
  dsimp only
  rw [Int.toNat_natCast,List.append_assoc,List.drop_left]
 have h2:=dcI_en hz r
 rw [decide_eq_false (by have:=Qrk q;omega),QkG] at h2
 unfold dcQ
 rw [show enQ q=enI q.num++enI (dnI q) from rfl,h1,hn,h2]
 dsimp only
 have hx:xvF (decide (q.num<0),digs q.num.natAbs)=q.num:=by
  unfold xvF
  dsimp only
  rw [Qat]
  by_cases h:q.num<0
  ·rw [decide_eq_true h,if_pos rfl];omega
  ·rw [decide_eq_false h,if_neg (by simp)];omega
 rw [if_neg (by simp),if_neg (by simp),hx,if_pos (vR_enc q hq),List.length_append]
 simp only [Int.natCast_add]
/-! ### Concat of two -/
def Ql6 (L:D) (n i:Int):St:=mkS [(0,.d L),(3,ai n),(9,.d L),(10,ai 2),(11,ai i)] []
def k0_en (L:D) (n:Int):St:=mkS [(0,.d L),(3,ai n)] []
def Ql5 (L:D) (k:Nat) (l:List Int) (i:Int):St:=mkS [(6,.own [k] l.length),(25,.d L),(26,ai 2),(27,ai i)] [([k],arrU l.length l)]
def k1_en (k:Nat) (l:List Int):St:=mkS [(6,.own [k] l.length)] [([k],arrU l.length l)]
theorem Concat2 [ItsG] {a b:List Int} (h0:0<a.length+b.length) (ha:a.length≤100000000000) (hb:b.length≤100000000000):Qah G QdZ [.row 2 [rowU a,rowU b]]=some (rU (a++b)):=by
 rw [Qad (cf:=QcZ) rfl]
 have l1:=(RwU.row a).len
 have l2:=(RwU.row b).len
 have gw:=ItsG.grow (n:=(a.length:Int)+b.length) (by omega) (by omega)
 have w1:w64 (0+(a.length:Int))=a.length:=by rw [Qae (by omega) (by omega)];omega
 have w2:w64 ((a.length:Int)+b.length)=(a.length:Int)+b.length:=Qae (by omega) (by omega)
 have d0:decide ((0:Int)<2)=true:=rfl
 have d1:decide ((1:Int)<2)=true:=rfl
 have d2:decide ((2:Int)<2)=false:=rfl
 have n1:decide ((a.length:Int)<0)=false:=decide_eq_false (by omega)
 have n2:decide ((a.length:Int)+b.length<0)=false:=decide_eq_false (by omega)
 have v1:w64 (0+1)=1:=Qae (by omega) (by omega)
 have v2:w64 (1+1)=2:=Qae (by omega) (by omega)
 have s1:=fun st=>(RwU.row a).src st
 have s2:=fun st=>(RwU.row b).src st
 have f1:=Qhm (n:=a.length) (by omega)
 have f2:=Qhm (n:=a.length+b.length) (by omega)
 have f3:=Qfz a
 have f4:=Qfz b
 have m1:(a.map uv).length=a.length:=List.length_map _
 have m2:(b.map uv).length=b.length:=List.length_map _
 have c0:QcO []=[]:=rfl
 have c1:=Qjm a
 have c2:=Qed a b
 have c4:=fun ks=>QaN ks (a++b)
 have c5:=QeA (a++b)
 have c6:=fun ks=>QaN ks a
 have e0:((2:Nat):Int)=2:=rfl
 have n3:(a++b).length=a.length+b.length:=List.length_append
 have L0:X G (.loop QaC) (Ql6 (.row 2 [rowU a,rowU b]) 0 0)=some (.x 0,k0_en (.row 2 [rowU a,rowU b]) ((a.length:Int)+b.length)):=by
  have t0:X G QaC (Ql6 (.row 2 [rowU a,rowU b]) 0 0)=some (.n,Ql6 (.row 2 [rowU a,rowU b]) a.length 1):=by
   generalize rowU a=A1 at *
   generalize rowU b=B1 at *
   simp -implicitDefEqProofs (maxSteps:=9^8) only [QaC,Ql6,l1,w1,d0,n1,v1,ixP0,ixP1,ldP,Qaa,go_sem,iv,bv,reduceCtorEq,↓reduceIte,Nat.reduceEqDiff]
  have t1:X G QaC (Ql6 (.row 2 [rowU a,rowU b]) a.length 1)=some (.n,Ql6 (.row 2 [rowU a,rowU b]) ((a.length:Int)+b.length) 2):=by
   generalize rowU a=A1 at *
   generalize rowU b=B1 at *
   simp -implicitDefEqProofs (maxSteps:=9^8) only [QaC,Ql6,l2,w2,d1,n2,v2,ixP0,ixP1,ldP,Qaa,go_sem,iv,bv,reduceCtorEq,↓reduceIte,Nat.reduceEqDiff]
  have t2:X G QaC (Ql6 (.row 2 [rowU a,rowU b]) ((a.length:Int)+b.length) 2)=some (.x 0,k0_en (.row 2 [rowU a,rowU b]) ((a.length:Int)+b.length)):=by
   simp -implicitDefEqProofs (maxSteps:=9^8) only [QaC,Ql6,k0_en,d2,Qaa,go_sem,iv,bv,reduceCtorEq,↓reduceIte,Nat.reduceEqDiff]
  rw [Qag,t0,Option.bind_some,if_pos rfl,Qag,t1,Option.bind_some,if_pos rfl,Qag,t2];rfl
 have L1:X G (.loop QaB) (Ql5 (.row 2 [rowU a,rowU b]) 24 [] 0)=some (.x 2,k1_en 24 (a++b)):=by
  have t0:X G QaB (Ql5 (.row 2 [rowU a,rowU b]) 24 [] 0)=some (.n,Ql5 (.row 2 [rowU a,rowU b]) 24 a 1):=by
   generalize rowU a=A1 at *
   generalize rowU b=B1 at *
   simp -implicitDefEqProofs (maxSteps:=9^8) only [QaB,Ql5,arrU,d0,v1,s1,f1,f3,m1,c0,c1,c6,ixP0,ixP1,ldP,Qdg,Nat.zero_add,List.nil_append,List.map_nil,List.length_nil,Qaa,Qam,List.cons.injEq,go_sem,iv,bv,reduceCtorEq,↓reduceIte,Nat.reduceEqDiff]
  have t1:X G QaB (Ql5 (.row 2 [rowU a,rowU b]) 24 a 1)=some (.n,Ql5 (.row 2 [rowU a,rowU b]) 24 (a++b) 2):=by
   generalize rowU a=A1 at *
   generalize rowU b=B1 at *
   simp -implicitDefEqProofs (maxSteps:=9^8) only [QaB,Ql5,arrU,d1,v2,s2,f2,f4,m2,n3,c2,c4,c6,Qbn,ixP0,ixP1,ldP,Qdg,Qaa,Qam,List.cons.injEq,go_sem,iv,bv,reduceCtorEq,↓reduceIte,Nat.reduceEqDiff]
  have t2:X G QaB (Ql5 (.row 2 [rowU a,rowU b]) 24 (a++b) 2)=some (.x 2,k1_en 24 (a++b)):=by
   simp -implicitDefEqProofs (maxSteps:=9^8) only [QaB,Ql5,k1_en,arrU,d2,c4,n3,Qaa,Qam,List.cons.injEq,go_sem,iv,bv,reduceCtorEq,↓reduceIte,Nat.reduceEqDiff]
  rw [Qag,t0,Option.bind_some,if_pos rfl,Qag,t1,Option.bind_some,if_pos rfl,Qag,t2];rfl
 simp only [Ql6,k0_en,go_sem] at L0
 simp only [Ql5,k1_en,arrU,c0,n3,List.length_nil,go_sem] at L1
 simp only [iv] at gw
 unfold rU
 rw [n3]
 generalize rowU a=A1 at *
 generalize rowU b=B1 at *
 simp -implicitDefEqProofs (maxSteps:=9^8) only [QcZ,L0,L1,gw,c4,c5,e0,n3,Qaa,Qam,List.map_nil,List.cons.injEq,go_sem,iv,bv,reduceCtorEq,↓reduceIte,Nat.reduceEqDiff]
theorem Ql1 [ItsG] {q:Rat} (hq:sz q≤100000000):Qah G Qku [encR q]=some (.d (rowU (enQ q))):=by
 rw [Qad (cf:=QjP) rfl]
 have n1:nd q.num≤100000000:=QcR hq
 have n2:nd (dnI q)≤100000000:=by
  unfold dnI
  split
  ·rw [QfT];omega
  ·exact QcT hq
 have g1:=QlA (x:=q.num) (by omega)
 have g2:=QlA (x:=dnI q) (by omega)
 have e2:encI (dnI q)=.agg [.v (.bool false),dg (dd q.den)]:=by
  unfold encI;rw [decide_eq_false (by have:=Qrk q;omega),QkG];rfl
 rw [e2] at g2
 have k1:=Qgg n1 (by omega)
 have k2:=Qgg n2 (by omega)
 have g3:=Concat2 (a:=enI q.num) (b:=enI (dnI q)) (by have:=enI_pos q.num;omega) (by omega) (by omega)
 have o1:A.one (.d (rowU (enI q.num)))=true:=rfl
 have o2:QbZ (.d (rowU (enI q.num)))=some [rowU (enI q.num)]:=rfl
 have o3:(rowU (enI q.num)).one=true:=rfl
 have o4:(rowU (enI (dnI q))).one=true:=rfl
 have o5:QbZ (.d (rowU (enI (dnI q))))=some [rowU (enI (dnI q))]:=rfl
 have rr2:rep 2 [D.z true]=[.z true,.z true]:=rfl
 unfold rU at g3
 rw [show enI q.num++enI (dnI q)=enQ q from rfl] at g3
 rw [show rowU (enQ q)=.row (enQ q).length ((enQ q).map uv) from rfl]
 generalize rowU (enI q.num)=A1 at *
 generalize rowU (enI (dnI q))=B1 at *
 generalize enQ q=E at *
 simp only [encI,bv] at g1
 simp -implicitDefEqProofs (maxSteps:=9^8) only [QjP,encR,g1,g2,g3,o1,o2,o3,o4,o5,rr2,Qdh,QbA,Qo8,toDs,toD,allD,Qaa,go_sem,Qac,Qab,iv,bv,reduceCtorEq,↓reduceIte,Nat.reduceEqDiff]
theorem Qm4 {q:Rat} (hq:sz q≤100000000):Qah G Qfv [encR q]=some (.d (rowU (enQ q))):=by
 rw [Qad (cf:=Qer) rfl]
 have n1:nd q.num≤100000000:=QcR hq
 have n2:nd (dnI q)≤100000000:=by
  unfold dnI
  split
  ·rw [QfT];omega
  ·exact QcT hq
 have g1:=Qkr (x:=q.num) (by omega)
 have g2:=Qkr (x:=dnI q) (by omega)
 have e2:encI (dnI q)=.agg [.v (.bool false),dg (dd q.den)]:=by
  unfold encI;rw [decide_eq_false (by have:=Qrk q;omega),QkG];rfl
 rw [e2] at g2
 have k1:=Qgg n1 (by omega)
 have k2:=Qgg n2 (by omega)
 have f1:=Qhm (n:=(enI q.num).length+(enI (dnI q)).length) (by omega)
 have f2:=Qfz (enI (dnI q))
 have s2:=fun st=>(RwU.row (enI (dnI q))).src st
 have c1:=Qjm (enI q.num)
 have c2:=Qed (enI q.num) (enI (dnI q))
 have c4:=fun ks=>QaN ks (enQ q)
 have c5:=QeA (enQ q)
 have c6:=fun ks=>QaN ks (enI q.num)
 have n3:(enQ q).length=(enI q.num).length+(enI (dnI q)).length:=List.length_append
 have c7:=QeA (enI q.num)
 have m1:(enI q.num).map uv++(enI (dnI q)).map uv=(enQ q).map uv:=by rw [← List.map_append];rfl
 have m2:((enI (dnI q)).map uv).length=(enI (dnI q)).length:=List.length_map _
 rw [show enI q.num++enI (dnI q)=enQ q from rfl] at c2
 rw [show rowU (enQ q)=.row ((enI q.num).length+(enI (dnI q)).length) ((enQ q).map uv) by rw [← n3];rfl]
 simp only [rU,encI,bv] at g1
 simp only [rU] at g2
 have s3:=fun st=>Qa2 st (enI (dnI q)).length ((enI (dnI q)).map uv)
 generalize enQ q=E at *
 generalize enI q.num=A1 at *
 generalize enI (dnI q)=B1 at *
 simp -implicitDefEqProofs (maxSteps:=9^8) only [Qer,encR,g1,g2,f1,f2,s2,s3,c1,c2,c4,c5,c6,c7,m1,m2,Qbn,toDs,toD,allD,Qaa,Qam,List.cons.injEq,go_sem,Qac,Qab,iv,bv,reduceCtorEq,↓reduceIte,Nat.reduceEqDiff]
end Go.AM

/- Encode of polynomials. -/
namespace Go.AM
open Go Go.RowKit
def enP (p:List Rat):List Int:=wI p.length++p.flatMap enQ
theorem QpM {q:Rat} (hq:sz q≤10000000):(enQ q).length≤180000036:=by
 have n2:nd (dnI q)≤10000000:=by
  unfold dnI
  split
  ·rw [QfT];omega
  ·exact QcT hq
 have k1:=Qgg (QcR hq) (by omega)
 have k2:=Qgg n2 (by omega)
 unfold enQ
 rw [List.length_append]
 omega
def Qpl (d:D) (n:Nat) (acc:List Int) (i:Int):St:=mkS [(3,.own [8] acc.length),(9,.d d),(10,ai n),(11,ai i)] [([8],arrU acc.length acc)]
def pe_en (acc:List Int):St:=mkS [(3,.own [8] acc.length)] [([8],arrU acc.length acc)]
def QpX (d:D) (acc:List Int) (i:Int):St:=mkS [(0,.d d),(3,.own [7] acc.length),(4,ai i)] [([7],arrU acc.length acc)]
def re_en (acc:List Int):St:=mkS [(3,.own [7] acc.length)] [([7],arrU acc.length acc)]
theorem Qqs (p:List Rat) {i:Nat} (hi:i<p.length) (b:List Int):b++(p.take i).flatMap enQ++enQ (p.getD i 0)=b++(p.take (i+1)).flatMap enQ:=by
 rw [List.take_succ_eq_append_getElem hi,List.flatMap_append,List.append_assoc]
 congr 2
 rw [List.flatMap_cons,List.flatMap_nil,List.append_nil,List.getD_eq_getElem?_getD,List.getElem?_eq_getElem hi];rfl
theorem flat_le (p:List Rat) (hs:SzL 10000000 p):(p.flatMap enQ).length≤p.length*180000036:=by
 induction p with
 | nil=>simp
 | cons q r ih =>
  have h1:=QpM (hs q (List.mem_cons_self ..))
  have h2:=ih (fun x hx=>hs x (List.mem_cons_of_mem _ hx))
  rw [List.flatMap_cons,List.length_append,List.length_cons]
  omega
variable [Its]
theorem re_go {d:D} {p:List Rat} (hr:RwR d p) {i:Nat} (hi:i<p.length) (hs:SzL 10000000 p) (hn:p.length≤1000) {acc:List Int} (ha:acc.length≤1000000000000):X G Qbr (QpX d acc i)=some (.n,QpX d (acc++enQ (p.getD i 0)) ((i+1:Nat):Int)):=by
 have e1:decide ((i:Int)<(p.length:Int))=true:=lt_t (by omega)
 have e2:w64 ((i:Int)+1)=((i+1:Nat):Int):=by rw [Qae (by omega) (by omega)];rfl
 have ll:=hr.len
 have x1:=hr.ixa hi
 have y1:=fun h=>ldR h p hi
 have hq:=hs.getD (by omega) i
 have g:=Qm4 (q:=p.getD i 0) (by omega)
 have kl:=QpM hq
 have f1:=Qhm (n:=acc.length+(enQ (p.getD i 0)).length) (by omega)
 have f2:=Qfz (enQ (p.getD i 0))
 have s2:=fun st=>Qa2 st (enQ (p.getD i 0)).length ((enQ (p.getD i 0)).map uv)
 have c2:=Qed acc (enQ (p.getD i 0))
 have c4:=fun ks=>QaN ks (acc++enQ (p.getD i 0))
 have c6:=fun ks=>QaN ks acc
 have n3:(acc++enQ (p.getD i 0)).length=acc.length+(enQ (p.getD i 0)).length:=List.length_append
 have m2:((enQ (p.getD i 0)).map uv).length=(enQ (p.getD i 0)).length:=List.length_map _
 rw [show rowU (enQ (p.getD i 0))=.row (enQ (p.getD i 0)).length ((enQ (p.getD i 0)).map uv) from rfl] at g
 clear kl
 generalize p.getD i 0=q at *
 generalize enQ q=E at *
 generalize cRs (p.drop i)=cs at *
 simp only [encR,bv] at y1 g
 simp -implicitDefEqProofs (maxSteps:=9^8) only [Qbr,QpX,arrU,ll,x1,y1,e1,e2,g,f1,f2,s2,c2,c4,c6,n3,m2,Qbn,Qaa,Qam,List.cons.injEq,go_sem,iv,bv,reduceCtorEq,↓reduceIte,Nat.reduceEqDiff]
theorem re_stop {d:D} {p:List Rat} (hr:RwR d p) {acc:List Int}:X G Qbr (QpX d acc (p.length:Nat))=some (.x 0,re_en acc):=by
 have e1:decide ((p.length:Int)<(p.length:Int))=false:=lt_f (by omega)
 have ll:=hr.len
 have c6:=fun ks=>QaN ks acc
 simp -implicitDefEqProofs (maxSteps:=9^8) only [Qbr,QpX,re_en,arrU,ll,c6,e1,Qaa,Qam,List.cons.injEq,go_sem,iv,bv,reduceCtorEq,↓reduceIte,Nat.reduceEqDiff]
theorem re_loop {d:D} {p:List Rat} (hr:RwR d p) (hs:SzL 10000000 p) (hn:p.length≤1000) (b:List Int) (hb:b.length≤9):∀ j i:Nat,i+j=p.length→X G (.loop Qbr) (QpX d (b++(p.take i).flatMap enQ) i)=some (.x 0,re_en (b++p.flatMap enQ))
 | 0,i,h=>by
  have:i=p.length:=by omega
  subst this
  rw [Qag,re_stop hr,List.take_length];rfl
 | j+1,i,h=>by
  have k:=flat_le (p.take i) (fun q hq=>hs q (List.mem_of_mem_take hq))
  rw [List.length_take] at k
  rw [Qag,re_go hr (by omega) hs hn (by rw [List.length_append];omega),Option.bind_some,if_pos rfl,Qqs p (by omega)]
  exact re_loop hr hs hn b hb j (i+1) (by omega)
variable [ItsG]
theorem pe_go {d:D} {p:List Rat} (hr:RwR d p) {i:Nat} (hi:i<p.length) (hs:SzL 10000000 p) (hn:p.length≤1000) {acc:List Int} (ha:acc.length≤1000000000000):X G Qdc (Qpl d p.length acc i)=some (.n,Qpl d p.length (acc++enQ (p.getD i 0)) ((i+1:Nat):Int)):=by
 have e1:decide ((i:Int)<(p.length:Int))=true:=lt_t (by omega)
 have e2:w64 ((i:Int)+1)=((i+1:Nat):Int):=by rw [Qae (by omega) (by omega)];rfl
 have x1:=hr.ixa hi
 have y1:=fun h=>ldR h p hi
 have hq:=hs.getD (by omega) i
 have g:=Ql1 (q:=p.getD i 0) (by omega)
 have kl:=QpM hq
 have f1:=Qhm (n:=acc.length+(enQ (p.getD i 0)).length) (by omega)
 have f2:=Qfz (enQ (p.getD i 0))
 have s2:=fun st=>Qa2 st (enQ (p.getD i 0)).length ((enQ (p.getD i 0)).map uv)
 have c2:=Qed acc (enQ (p.getD i 0))
 have c4:=fun ks=>QaN ks (acc++enQ (p.getD i 0))
 have c6:=fun ks=>QaN ks acc
 have n3:(acc++enQ (p.getD i 0)).length=acc.length+(enQ (p.getD i 0)).length:=List.length_append
 have m2:((enQ (p.getD i 0)).map uv).length=(enQ (p.getD i 0)).length:=List.length_map _
 have z5:rep 1 [D.v (.bool false),.z true,.v (.bool false),.z true]=[.v (.bool false),.z true,.v (.bool false),.z true]:=rfl
 rw [show rowU (enQ (p.getD i 0))=.row (enQ (p.getD i 0)).length ((enQ (p.getD i 0)).map uv) from rfl] at g
 clear kl
 generalize p.getD i 0=q at *
 generalize enQ q=E at *
 generalize cRs (p.drop i)=cs at *
 simp only [encR,bv] at y1 g
 simp -implicitDefEqProofs (maxSteps:=9^8) only [Qdc,Qpl,arrU,x1,y1,e1,e2,g,f1,f2,s2,c2,c4,c6,n3,m2,z5,dgone,one_b,refs,Qdg,Bool.and_true,Bool.and_self,Qbn,Qdh,QbA,Qaa,Qam,List.cons.injEq,go_sem,Qac,Qab,iv,bv,reduceCtorEq,↓reduceIte,Nat.reduceEqDiff]
omit [ItsG] in
theorem pe_stop {d:D} {p:List Rat} {acc:List Int}:X G Qdc (Qpl d p.length acc (p.length:Nat))=some (.x 0,pe_en acc):=by
 have e1:decide ((p.length:Int)<(p.length:Int))=false:=lt_f (by omega)
 have c6:=fun ks=>QaN ks acc
 simp -implicitDefEqProofs (maxSteps:=9^8) only [Qdc,Qpl,pe_en,arrU,c6,e1,Qaa,Qam,List.cons.injEq,go_sem,iv,bv,reduceCtorEq,↓reduceIte,Nat.reduceEqDiff]
theorem pe_loop {d:D} {p:List Rat} (hr:RwR d p) (hs:SzL 10000000 p) (hn:p.length≤1000) (b:List Int) (hb:b.length≤9):∀ j i:Nat,i+j=p.length→X G (.loop Qdc) (Qpl d p.length (b++(p.take i).flatMap enQ) i)=some (.x 0,pe_en (b++p.flatMap enQ))
 | 0,i,h=>by
  have:i=p.length:=by omega
  subst this
  rw [Qag,pe_stop,List.take_length];rfl
 | j+1,i,h=>by
  have k:=flat_le (p.take i) (fun q hq=>hs q (List.mem_of_mem_take hq))
  rw [List.length_take] at k
  rw [Qag,pe_go hr (by omega) hs hn (by rw [List.length_append];omega),Option.bind_some,if_pos rfl,Qqs p (by omega)]
  exact pe_loop hr hs hn b hb j (i+1) (by omega)
theorem Qo3 {d:D} {p:List Rat} (hr:RwR d p) (hs:SzL 10000000 p) (hn:p.length≤1000):Qah G Qja [d]=some (rU (enP p)):=by
 rw [Qad (cf:=QiK) rfl]
 have hb:=Qjx p.length
 have h:=pe_loop hr hs hn (wI p.length) hb p.length 0 (by omega)
 have g:=Qk4 (n:=(p.length:Int)) (by unfold I64;omega)
 have ll:=hr.len
 have c4:=fun ks=>QaN ks (wI p.length)
 have c5:=fun ks=>QaN ks (enP p)
 have c6:=Qjm (wI p.length)
 have c7:=QeA (enP p)
 rw [show wI p.length++p.flatMap enQ=enP p from rfl] at h
 rw [List.take_zero,List.flatMap_nil,List.append_nil] at h
 simp only [rU,iv] at g ⊢
 simp only [Qpl,pe_en,arrU,go_sem,nc0] at h
 generalize enP p=E at *
 generalize wI p.length=W at *
 simp -implicitDefEqProofs (maxSteps:=9^8) only [QiK,g,h,ll,c4,c5,c6,c7,Qaa,Qam,List.cons.injEq,go_sem,iv,bv,reduceCtorEq,↓reduceIte,Nat.reduceEqDiff]
omit [ItsG] in
theorem QnH {d:D} {p:List Rat} (hr:RwR d p) (hs:SzL 10000000 p) (hn:p.length≤1000):Qah G Qfu [d]=some (rU (enP p)):=by
 rw [Qad (cf:=Qet) rfl]
 have hb:=Qjx p.length
 have h:=re_loop hr hs hn (wI p.length) hb p.length 0 (by omega)
 have g:=Qjw (n:=(p.length:Int)) (by unfold I64;omega)
 have ll:=hr.len
 have c4:=fun ks=>QaN ks (wI p.length)
 have c5:=fun ks=>QaN ks (enP p)
 have c6:=Qjm (wI p.length)
 have c7:=QeA (enP p)
 rw [show wI p.length++p.flatMap enQ=enP p from rfl] at h
 rw [List.take_zero,List.flatMap_nil,List.append_nil] at h
 simp only [rU,iv] at g ⊢
 simp only [QpX,re_en,arrU,go_sem,nc0] at h
 generalize enP p=E at *
 generalize wI p.length=W at *
 simp -implicitDefEqProofs (maxSteps:=9^8) only [Qet,g,h,ll,c4,c5,c6,c7,Qaa,Qam,List.cons.injEq,go_sem,iv,bv,reduceCtorEq,↓reduceIte,Nat.reduceEqDiff]
end Go.AM

/- What is decoded stays when more follows; encodings decode; beginnings do not. -/
namespace Go.AM
open Go Go.RowKit
theorem gI_app {b:List Int} (hb:Byt b) (r:List Int) (h:(gI b).2.2=0):gI (b++r)=gI b:=by
 match b,hb with
 | [],_=>exact absurd h (by decide)
 | x :: t,hb =>
  have k:=gk_b hb.head
  rw [List.cons_append]
  rw [QjG] at h ⊢
  rw [QjG]
  by_cases c1:gk x>8
  ·rw [if_pos c1] at h;exact absurd h (by decide)
  rw [if_neg c1] at h ⊢
  by_cases c2:(t.length:Int)<gk x
  ·rw [if_pos c2] at h;exact absurd h (by decide)
  have c2':¬ ((t++r).length:Int)<gk x:=by rw [List.length_append];omega
  have et:(t++r).take (gk x).toNat=t.take (gk x).toNat:=List.take_append_of_le_length (by omega)
  have eg:0<gk x→(t++r).getD 0 0=t.getD 0 0:=fun h0=>by
   cases t with
   | nil=>exact absurd (show (([]:List Int).length:Int)<gk x from h0) c2
   | cons y s=>rfl
  rw [if_neg c1,if_neg c2,if_neg c2',et]
  by_cases h0:0<gk x
  ·rw [eg h0]
  ·have n1:¬ (0<gk x∧fx (decide (x<128)) ((t++r).getD 0 0)=0):=fun c=>h0 c.1
   have n2:¬ (0<gk x∧fx (decide (x<128)) (t.getD 0 0)=0):=fun c=>h0 c.1
   rw [if_neg n1,if_neg n2]
theorem cntI_app {b:List Int} (hb:Byt b) (r:List Int) (h:(cntI b).2.2=0):cntI (b++r)=cntI b:=by
 obtain ⟨a1,a2,a3,a4,a5,a6⟩:=QiI hb h
 have g:=gI_app hb r a2
 rw [a1] at a3 a6 ⊢
 unfold cntI
 rw [g,if_neg (by rw [a2];simp),if_neg (by omega),if_neg (by rw [List.length_append];omega)]
theorem rdL_app {b:List Int} (hb:Byt b) (r:List Int):∀ (n at_:Nat) (acc:List Int),at_≤b.length→(rdL b n at_ acc).2.2=0→rdL (b++r) n at_ acc=rdL b n at_ acc
 | 0,at_,acc,_,_=>rfl
 | n+1,at_,acc,h,he=>by
  rw [rdL] at he
  rw [rdL,rdL,List.drop_append_of_le_length h]
  by_cases c:(gI (b.drop at_)).2.2=0
  ·rw [if_neg (by rw [c];simp)] at he
   have ok:=Qj6 (hb.drop at_) c
   rw [List.length_drop] at ok
   rw [gI_app (hb.drop at_) r c,if_neg (by rw [c];simp),if_neg (by rw [c];simp)]
   exact rdL_app hb r n _ _ (by omega) he
  ·rw [if_pos c] at he
   exact absurd he c
theorem gIs_app {b:List Int} (hb:Byt b) (r:List Int) (h:(gIs b).2.2=0):gIs (b++r)=gIs b:=by
 unfold gIs at h ⊢
 by_cases c:(cntI b).2.2=0
 ·obtain ⟨a1,a2,a3,a4,a5,a6⟩:=QiI hb c
  rw [if_neg (by rw [c];simp)] at h
  rw [cntI_app hb r c,if_neg (by rw [c];simp),if_neg (by rw [c];simp)]
  exact rdL_app hb r _ _ _ (by omega) h
 ·rw [if_pos c] at h;exact absurd h c
theorem QpK {b:List Int} (hb:Byt b) (r:List Int) (h:(dcI b).2.2=0):dcI (b++r)=dcI b:=by
 have c0:(gIs b).2.2=0:=Classical.byContradiction fun h0=>by
  unfold dcI at h;rw [if_pos h0] at h;exact h0 h
 unfold dcI
 rw [gIs_app hb r c0]
theorem dcQ_app {b:List Int} (hb:Byt b) (r:List Int) (h:(dcQ b).2.2=0):dcQ (b++r)=dcQ b:=by
  unfold dcQ at h ⊢
  by_cases c1:(dcI b).2.2=0
  · rw [if_neg (by rw [c1];simp)] at h
    obtain ⟨a1,a2,a3,a4,a5,a6⟩:=Qiy hb c1
    by_cases c2:(dcI (nxB b)).2.2=0
    · have e : nxB (b ++ r) = nxB b ++ r := by
        unfold nxB
        rw [QpK hb r c1,List.drop_append_of_le_length (by omega)]
      rw [QpK hb r c1,e,QpK (b:=nxB b) (hb.drop _) r c2]
    · rw [if_pos c2] at h;exact absurd h c2
  · rw [if_pos c1] at h;exact absurd h c1
theorem rdQ_app {b:List Int} (hb:Byt b) (hl:b.length≤1000000000) (r:List Int):∀ (n at_:Nat) (acc:List F4),at_≤b.length→(rdQ b n at_ acc).2.2=0→rdQ (b++r) n at_ acc=rdQ b n at_ acc
 | 0,at_,acc,_,_=>rfl
 | n+1,at_,acc,h,he=>by
  rw [QgV] at he
  rw [QgV,QgV,List.drop_append_of_le_length h]
  by_cases c:(dcQ (b.drop at_)).2.2=0
  ·rw [if_neg (by rw [c];simp)] at he
   obtain ⟨_,k2,k3⟩:=Qre (hb.drop at_) (by rw [List.length_drop];omega) c
   rw [List.length_drop] at k3
   rw [dcQ_app (hb.drop at_) r c,if_neg (by rw [c];simp),if_neg (by rw [c];simp)]
   exact rdQ_app hb hl r n _ _ (by omega) he
  ·rw [if_pos c] at he
   exact absurd he c
theorem dcP_eq {b:List Int} (c0:(gI b).2.2=0) (c1:¬ (gI b).1<0):dcP b=if (rdQ b (gI b).1.toNat (gI b).2.1.toNat []).2.2≠0 then ([],0,(rdQ b (gI b).1.toNat (gI b).2.1.toNat []).2.2) else if vL (rdQ b (gI b).1.toNat (gI b).2.1.toNat []).1=true then rdQ b (gI b).1.toNat (gI b).2.1.toNat [] else ([],0,2):=by
 unfold dcP
 rw [if_neg (by rw [c0];simp),if_neg c1]
theorem dcP_ok {b:List Int} (hb:Byt b) (hl:b.length≤1000000000) (h:(dcP b).2.2=0):(∀ p∈(dcP b).1,gF p)∧(dcP b).2.1≤b.length∧(dcP b).1.length≤b.length∧∀ r,dcP (b++r)=dcP b:=by
 by_cases c0:(gI b).2.2=0
 ·by_cases c1:(gI b).1<0
  ·unfold dcP at h
   rw [if_neg (by rw [c0];simp),if_pos c1] at h;exact absurd h (by decide)
  have ok:=Qj6 hb c0
  have iv0:=Qnw hb hl (gI b).1.toNat (gI b).2.1.toNat [] (by simp) (by omega) (by simp)
  have e:=dcP_eq c0 c1
  rw [e] at h
  by_cases c2:(rdQ b (gI b).1.toNat (gI b).2.1.toNat []).2.2=0
  ·rw [if_neg (by rw [c2];simp)] at h e
   have ap:=fun r=>rdQ_app hb hl r (gI b).1.toNat (gI b).2.1.toNat [] (by omega) c2
   by_cases c3:vL (rdQ b (gI b).1.toNat (gI b).2.1.toNat []).1=true
   ·rw [if_pos c3] at e
    refine ⟨?_, ?_, ?_,fun r=>?_⟩
    ·rw [e];exact iv0.1
    ·rw [e];exact iv0.2.2
    ·rw [e];omega
    ·have g:=gI_app hb r c0
     rw [dcP_eq (by rw [g];exact c0) (by rw [g];exact c1),g,ap r,e,if_neg (by rw [c2];simp),if_pos c3]
   ·rw [if_neg c3] at h;exact absurd h (by decide)
  ·rw [if_pos c2] at h;exact absurd h c2
 ·unfold dcP at h
  rw [if_pos c0] at h;exact absurd h c0
theorem dcP_bad {b:List Int} (h:(dcP b).2.2≠0):dcP b=([],0,(dcP b).2.2):=by
 unfold dcP at h ⊢
 by_cases c0:(gI b).2.2≠0
 ·rw [if_pos c0]
 ·rw [if_neg c0] at h ⊢
  by_cases c1:(gI b).1<0
  ·rw [if_pos c1]
  ·rw [if_neg c1] at h ⊢
   dsimp only at h ⊢
   by_cases c2:(rdQ b (gI b).1.toNat (gI b).2.1.toNat []).2.2≠0
   ·rw [if_pos c2]
   ·rw [if_neg c2] at h ⊢
    by_cases c3:vL (rdQ b (gI b).1.toNat (gI b).2.1.toNat []).1=true
    ·rw [if_pos c3] at h;exact absurd h c2
    ·rw [if_neg c3]
def fQ (q:Rat):F4:=((decide (q.num<0),digs q.num.natAbs),(false,dd q.den))
theorem sgP_fQ (q:Rat):sgP (fQ q)=Int.sign q.num:=sgF_enc q.num
theorem vL_fQ {p:List Rat} (ht:Trm p):vL (p.map fQ)=true:=by
 unfold vL
 by_cases h0:p=[]
 ·subst h0;rfl
 ·have hp:0<p.length:=List.length_pos_iff.2 h0
  have h1:=ht (p.length-1) (by omega)
  have e:(p.map fQ).getD ((p.map fQ).length-1) default=fQ (p.getD (p.length-1) 0):=by
   rw [List.length_map,List.getD_eq_getElem?_getD,List.getD_eq_getElem?_getD,List.getElem?_map,List.getElem?_eq_getElem (by omega)];rfl
  rw [e,sgP_fQ]
  have h2:(p.getD (p.length-1) 0).num≠0:=fun h=>h1 (Rat.num_eq_zero.1 h)
  have h3:(Int.sign (p.getD (p.length-1) 0).num != 0)=true:=QeL (fun h=>h2 (Int.sign_eq_zero_iff_zero.1 h))
  rw [h3,Bool.or_true]
theorem enP_byt (p:List Rat):Byt (enP p):=by
 unfold enP
 refine (Qqw _).app ?_
 intro x hx
 obtain ⟨q,_,hq⟩:=List.mem_flatMap.1 hx
 exact enQ_byt q x hq
theorem enQ_len3 {q:Rat} (hq:sz q≤10000):(enQ q).length≤180036:=by
 have n2:nd (dnI q)≤10000:=by
  unfold dnI
  split
  ·rw [QfT];omega
  ·exact QcT hq
 have k1:=Qgg (QcR hq) (by omega)
 have k2:=Qgg n2 (by omega)
 unfold enQ
 rw [List.length_append]
 omega
theorem enP_len (p:List Rat) (hs:SzL 10000 p):(enP p).length≤9+p.length*180036:=by
 have h:(p.flatMap enQ).length≤p.length*180036:=by
  induction p with
  | nil=>simp
  | cons q r ih =>
   have h1:=enQ_len3 (hs q (List.mem_cons_self ..))
   have h2:=ih (fun x hx=>hs x (List.mem_cons_of_mem _ hx))
   rw [List.flatMap_cons,List.length_append,List.length_cons]
   omega
 unfold enP
 rw [List.length_append]
 have:=Qjx p.length
 omega
theorem enP_pos {p:List Rat} (hn:p.length≤1000000000):0<(enP p).length:=by
 have g:=gI_wI (n:=(p.length:Int)) (by unfold I64;omega) []
 rw [List.append_nil] at g
 have ok:=Qj6 (Qqw (p.length:Int)) (by rw [g])
 rw [g] at ok
 dsimp only at ok
 unfold enP
 rw [List.length_append]
 omega
variable [Its]
theorem rdQ_en (pre:List Int):∀ (l:List Rat) (acc:List F4) (post:List Int),SzL 1000000000 l→rdQ (pre++(l.flatMap enQ++post)) l.length pre.length acc=(acc++l.map fQ,((pre.length+(l.flatMap enQ).length:Nat):Int),0):=by
 intro l
 induction l generalizing pre with
 | nil=>intro acc post _;simp [rdQ]
 | cons n l ih =>
  intro acc post hl
  have hn:=hl n (List.mem_cons_self ..)
  have e1:(pre++((n :: l).flatMap enQ++post)).drop pre.length=enQ n++(l.flatMap enQ++post):=by
   rw [List.drop_left,List.flatMap_cons,List.append_assoc]
  have g:=dcQ_en hn (l.flatMap enQ++post)
  rw [List.length_cons,QgV,e1,g]
  dsimp only
  rw [if_neg (by simp),Int.toNat_natCast]
  have e2:pre++((n :: l).flatMap enQ++post)=(pre++enQ n)++(l.flatMap enQ++post):=by rw [List.flatMap_cons,List.append_assoc,List.append_assoc]
  have:=ih (pre++enQ n) (acc++[fQ n]) post (fun m hm=>hl m (List.mem_cons_of_mem _ hm))
  rw [List.length_append] at this
  rw [e2]
  refine this.trans ?_
  rw [List.flatMap_cons,List.length_append,List.append_assoc]
  simp only [List.singleton_append,List.map_cons,Prod.mk.injEq,true_and,and_true]
  omega
theorem dcP_en {p:List Rat} (ht:Trm p) (hs:SzL 1000000000 p) (hn:p.length≤1000000000) (r:List Int):dcP (enP p++r)=(p.map fQ,((enP p).length:Int),0):=by
 have g:=gI_wI (n:=(p.length:Int)) (by unfold I64;omega) (p.flatMap enQ++r)
 have h:=rdQ_en (wI p.length) p [] r hs
 unfold dcP enP
 rw [List.append_assoc,g]
 dsimp only
 rw [if_neg (by simp),if_neg (by omega),Int.toNat_natCast,Int.toNat_natCast,h]
 dsimp only
 rw [if_neg (by simp),List.nil_append,if_pos (vL_fQ ht),List.length_append]
theorem dcP_cut {p:List Rat} (ht:Trm p) (hs:SzL 1000000000 p) (hn:p.length≤1000000000) (hl:(enP p).length≤1000000000) {k:Nat} (hk:k<(enP p).length):(dcP ((enP p).take k)).2.2≠0:=fun h0=>by
 obtain ⟨_,a,_,e⟩:=dcP_ok ((enP_byt p).take k) (by rw [List.length_take];omega) h0
 have e1:=e ((enP p).drop k)
 rw [List.take_append_drop] at e1
 have e2:=dcP_en ht hs hn []
 rw [List.append_nil] at e2
 rw [← e1,e2,List.length_take] at a
 dsimp only at a
 omega
end Go.AM

/- A row of bytes, as an argument. -/
namespace Go.AM
open Go Go.RowKit
theorem arg_rowU {w:World} {a:Option Addr} {len cap:Nat} {zs:List Int}
    (h:(a=none∧len=0∧cap=0∧zs=[])∨∃ x,a=some x∧len≤cap∧cap≤maxLen∧zs.length=cap∧(∀ i,i<zs.length→w.cell? (x.add i)=some (.int .u8 (zs.getD i 0)))∧∀ n∈zs,(Lit.int .u8 n).wf=true) :
    ∃ d l,RwU d l∧RepD (fun b=>b<w.heap.size) w d (.slice a len cap)∧l.length=len∧∀ n∈l,(Lit.int .u8 n).wf=true:=by
  rcases h with ⟨rfl,rfl,rfl,rfl⟩ | ⟨x,rfl,h1,h2,h3,h4,h5⟩
  · exact ⟨.z true,[],.inl ⟨rfl,rfl⟩,.zt,rfl,by simp⟩
  · have hlen:(zs.take len).length=len:=by simp;omega
    refine ⟨.row (zs.take len).length ((zs.take len).map uv),zs.take len,.inr rfl, ?_,hlen,fun n hn=>h5 n (List.mem_of_mem_take hn)⟩
    rw [hlen]
    by_cases h0:len=0
    · subst h0
      simpa using RepD.row0 x cap
    · have hblk : x.block < w.heap.size := by
        have:=h4 0 (by omega)
        rw [World.cell?] at this
        rcases Nat.lt_or_ge x.block w.heap.size with h' | h'
        · exact h'
        · have hb:(x.add 0).block=x.block:=Addr.add_block x 0
          rw [hb,Array.getElem?_eq_none h'] at this
          cases this
      have hl:∀ l:List Int,RepL (fun b=>b<w.heap.size) w (l.map uv) (l.map fun n=>Value.int .u8 n):=by
        intro l
        induction l with
        | nil=>exact .nil
        | cons n r ih=>exact .cons _ _ _ _ (.v _) ih
      refine .row len _ x cap _ h1 hblk (hl _) fun j v hj=>?_
      simp only [List.getElem?_map,Option.map_eq_some_iff] at hj
      obtain ⟨n,hn,rfl⟩:=hj
      have hjl:j<zs.length:=by
        have:=(List.getElem?_eq_some_iff.1 hn).1
        simp at this;omega
      rw [h4 j hjl]
      rw [List.getElem?_take] at hn
      split at hn
      · rw [List.getD,hn];rfl
      · cases hn
theorem u8_wf {n:Int} (h:(Lit.int .u8 n).wf=true):0≤n∧n<256:=by
 simp only [Lit.wf,Bool.and_eq_true,decide_eq_true_eq] at h
 have h1:IntKind.min .u8=0:=by decide
 have h2:IntKind.max .u8=255:=by decide
 omega
theorem byt_wf {l:List Int} (h:∀ n∈l,(Lit.int .u8 n).wf=true):Byt l:=fun n hn=>u8_wf (h n hn)
end Go.AM

/- ref06: Trim, Small, Mul. -/
namespace Go.AM
open Go Go.RowKit

def smR (n:Int):Rat:=Rat.divInt (arnd n 105%15-7) (1+arnd n 105/15%4)
theorem smR_H (n:Int):H1 1 1 (smR n):=by
 have b:=Qn2 (n:=n) (m:=105) (by omega)
 have hd:0<1+arnd n 105/15%4:=by omega
 refine ⟨(1+arnd n 105/15%4).natAbs,by omega, ?_,(Hq.div hd).le ?_⟩
 ·rw [Nat.pow_one];show _≤1000000000;omega
 ·rw [Nat.pow_one];show _≤1000000000;omega
theorem smR_sz (n:Int):sz (smR n)≤2:=(smR_H n).sz
theorem evR_set (x c:Rat):∀ (l:List Rat) (t:Nat),t<l.length→evR (l.set t (l.getD t 0+c)) x=evR l x+c*x^t
 | [],t,h=>by simp at h
 | a :: l,0,h=>by
  show evR l x*x+(a+c)=evR l x*x+a+c*x^0
  rw [Rat.pow_zero]
  generalize evR l x=u;grind
 | a :: l,t+1,h=>by
  have ih:=evR_set x c l t (by simpa using h)
  show evR (l.set t (l.getD t 0+c)) x*x+a=evR l x*x+a+c*x^(t+1)
  rw [ih,Rat.pow_succ]
  generalize evR l x=u;generalize x^t=p;grind
theorem QrJ (l:List Rat) (x:Rat) {k:Nat} (h:k<l.length):evR (l.drop k) x=evR (l.drop (k+1)) x*x+l.getD k 0:=by
 have e:l.drop k=l.getD k 0 :: l.drop (k+1):=by
  rw [List.drop_eq_getElem_cons h,List.getD_eq_getElem?_getD,List.getElem?_eq_getElem h];rfl
 rw [e,QdI]
theorem Qsk (n:Nat) (x:Rat):evR (List.replicate n 0) x=0:=Qk1 (fun q hq=>(List.mem_replicate.1 hq).2) x
theorem Hq_set {D X:Nat} {l:List Rat} {t:Nat} {c:Rat} (h:∀ q∈l,Hq D X q) (hc:Hq D X c):∀ q∈l.set t c,Hq D X q:=fun q hq=>by
 rcases List.mem_or_eq_of_mem_set hq with h1 | h1
 ·exact h q h1
 ·rw [h1];exact hc
variable [Its]

theorem Qh6 {n:Int} (hn:I64 n):Qah G Qcn [iv n]=some (.d (encR (smR n))):=by
 rw [Qad (cf:=QeU) rfl]
 have g1:=QiB (n:=n) (m:=105) hn (by omega)
 have b:=Qn2 (n:=n) (m:=105) (by omega)
 unfold smR
 generalize arnd n 105=k at *
 have e1:=QdV (a:=k) (b:=15) (by omega)
 have e2:=QeN (a:=k) (b:=15) (by omega)
 have e3:w64 (k%15-7)=k%15-7:=Qae (by omega) (by omega)
 have e4:w64 (k/15)=k/15:=Qae (by omega) (by omega)
 have e5:=QdV (a:=k/15) (b:=4) (by omega)
 have e6:w64 (1+k/15%4)=1+k/15%4:=Qae (by omega) (by omega)
 have z1:=Qjr (b:=(15:Int)) (by omega)
 have z2:=Qjr (b:=(4:Int)) (by omega)
 have g2:=QeJ (n:=k%15-7) (d:=1+k/15%4) ⟨by omega,by omega⟩ ⟨by omega,by omega⟩
 generalize Rat.divInt (k%15-7) (1+k/15%4)=r at *
 simp only [encR,iv] at g1 g2
 simp -implicitDefEqProofs (maxSteps:=9^8) only [QeU,encR,e1,e2,e3,e4,e5,e6,z1,z2,g1,g2,go_sem,Qac,Qab,iv,bv,reduceCtorEq,↓reduceIte,Nat.reduceEqDiff]

/-! ### Trim -/
def Qgp (d:D) (n:Int):St:=mkS [(0,.d d),(3,ai n)] []
theorem rtr_go {d:D} {l:List Rat} (hr:RwR d l) {n:Nat} (hn:n<l.length) (hl:l.length*64≤140737488351232) (sl:SzL 100000000000 l) (h0:l.getD n 0=0):X G QaZ (Qgp d ((n+1:Nat):Int))=some (.n,Qgp d (n:Int)):=by
 have e1:decide (((n+1:Nat):Int)>0)=true:=gt_t (by omega)
 have e2:w64 (((n+1:Nat):Int)-1)=(n:Int):=by rw [Qae (by omega) (by omega)];omega
 have e6:(if (0:Int)>(n:Int) then (0:Int) else (n:Int))=(n:Int):=if_neg (by omega)
 have e3:=hr.ixa hn
 have e4:=fun h=>ldR h l hn
 have g:=Qjp (a:=l.getD n 0) (sl.getD (by omega) n)
 have e5:(Int.sign (l.getD n 0).num==0)=true:=by rw [sgn0];exact decide_eq_true h0
 clear h0
 generalize ((n+1:Nat):Int)=n1 at *
 generalize l.getD n 0=q at *
 simp only [encR,iv] at e4 g
 simp -implicitDefEqProofs (maxSteps:=9^8) only [QaZ,Qgp,Qf8,mxV,e6,go_sem,iv,bv,e1,e2,e3,e4,e5,g,reduceCtorEq,↓reduceIte,Nat.reduceEqDiff]
theorem rtr_stop {d:D} {l:List Rat} (hr:RwR d l) {n:Nat} (hn:n<l.length) (hl:l.length*64≤140737488351232) (sl:SzL 100000000000 l) (h0:l.getD n 0≠0):X G QaZ (Qgp d ((n+1:Nat):Int))=some (.x 0,Qgp d ((n+1:Nat):Int)):=by
 have e1:decide (((n+1:Nat):Int)>0)=true:=gt_t (by omega)
 have e2:w64 (((n+1:Nat):Int)-1)=(n:Int):=by rw [Qae (by omega) (by omega)];omega
 have e6:(if (0:Int)>(n:Int) then (0:Int) else (n:Int))=(n:Int):=if_neg (by omega)
 have e3:=hr.ixa hn
 have e4:=fun h=>ldR h l hn
 have g:=Qjp (a:=l.getD n 0) (sl.getD (by omega) n)
 have e5:(Int.sign (l.getD n 0).num==0)=false:=by rw [sgn0];exact decide_eq_false h0
 clear h0
 generalize ((n+1:Nat):Int)=n1 at *
 generalize l.getD n 0=q at *
 simp only [encR,iv] at e4 g
 simp -implicitDefEqProofs (maxSteps:=9^8) only [QaZ,Qgp,Qf8,mxV,e6,go_sem,iv,bv,e1,e2,e3,e4,e5,g,reduceCtorEq,↓reduceIte,Nat.reduceEqDiff]
theorem rtr_zero {d:D}:X G QaZ (Qgp d 0)=some (.x 0,Qgp d 0):=by
 have e1:decide ((0:Int)>0)=false:=rfl
 simp -implicitDefEqProofs (maxSteps:=9^8) only [QaZ,Qgp,go_sem,iv,bv,e1,reduceCtorEq,↓reduceIte,Nat.reduceEqDiff]
theorem QqD {d:D} {l:List Rat} (hr:RwR d l) (hl:l.length*64≤140737488351232) (sl:SzL 100000000000 l):∀ n:Nat,n≤l.length→X G (.loop QaZ) (Qgp d (n:Int))=some (.x 0,Qgp d (cutR l n:Nat))
 | 0,_=>by
  rw [Qag]
  show (X G QaZ (Qgp d 0)).bind _=_
  rw [rtr_zero];rfl
 | n+1,hn=>by
  rw [Qag,cutR]
  by_cases h0:l.getD n 0=0
  ·rw [rtr_go hr (by omega) hl sl h0,Option.bind_some,if_pos rfl,if_pos h0]
   exact QqD hr hl sl n (by omega)
  ·rw [rtr_stop hr (by omega) hl sl h0,if_neg h0];rfl
theorem QgE {d:D} {l:List Rat} (hr:RwR d l) (hl:l.length*64≤140737488351232) (sl:SzL 100000000000 l):∃ d',RwR d' (QcF l)∧Qah G QbE [d]=some (.d d'):=by
 rw [Qad (cf:=Qc4) rfl]
 have hl':=QqD hr hl sl l.length (Nat.le_refl _)
 have hc:=Qj2 l l.length
 have ll:=hr.len
 rcases hr with ⟨rfl,rfl⟩ | rfl
 ·simp only [Qgp,List.length_nil,cutR,go_sem] at hl'
  refine ⟨.z true,.inl ⟨rfl,rfl⟩, ?_⟩
  have b0:(0*64≤bound)=True:=eq_true (by decide)
  simp -implicitDefEqProofs (maxSteps:=9^8) only [Qc4,slcA,bnds,optI,srcS,src,b0,List.length_nil,Nat.zero_mul,Nat.zero_le,go_sem,iv,bv,hl',ll,Int.le_refl,reduceCtorEq,↓reduceIte,Nat.reduceEqDiff]
 ·refine ⟨dR (QcF l),dR_ok _, ?_⟩
  have e1:rowR (QcF l)=.row (cutR l l.length) ((cRs l).take (cutR l l.length*4)):=by rw [rowR,Qf2,QcF,QkK]
  have e0:dR (QcF l)=if cutR l l.length=0 then .z true else .row (cutR l l.length) ((cRs l).take (cutR l l.length*4)):=by
   rw [dR,e1]
   have:=Qf2 l
   by_cases h:QcF l=[]
   ·rw [if_pos h,if_pos (by rw [← this,h];rfl)]
   ·rw [if_neg h,if_neg (fun h'=>h (List.eq_nil_of_length_eq_zero (by omega)))]
  rw [e0]
  have e2:(((0:Int)≤0∧(0:Int)≤(cutR l l.length:Nat)∧((cutR l l.length:Nat):Int)≤(l.length:Nat)))=True:=eq_true ⟨by omega,by omega,by omega⟩
  have e3:((cutR l l.length:Nat):Int).toNat=cutR l l.length:=Int.toNat_natCast _
  have e5:((0:Int)≤(cutR l l.length:Nat))=True:=eq_true (by omega)
  have e6:(((cutR l l.length:Nat):Int)≤(l.length:Nat))=True:=eq_true (by omega)
  have e7:(cutR l l.length*64≤bound)=True:=eq_true (by unfold bound;omega)
  have e8:((cRs l).take (cutR l l.length*4)).length=cutR l l.length*4:=by rw [List.length_take,QeW];omega
  clear e0 e1
  unfold rowR at *
  generalize cutR l l.length=c at *
  generalize cRs l=cs at *
  simp only [Qgp,go_sem] at hl'
  by_cases h0:c=0
  ·subst h0
   simp only [Nat.zero_mul,List.take_zero] at e8 ⊢
   have b0:(0*64≤bound)=True:=eq_true (by decide)
   have b1:((0:Int)≤(l.length:Int))=True:=eq_true (by omega)
   simp -implicitDefEqProofs (maxSteps:=9^8) only [Qc4,b1,slcA,bnds,optI,srcS,src,b0,List.length_nil,List.take_zero,Nat.zero_mul,Nat.zero_le,go_sem,iv,bv,hl',ll,e2,e3,e5,e6,Int.le_refl,and_self,reduceCtorEq,↓reduceIte,Nat.reduceEqDiff]
  ·simp -implicitDefEqProofs (maxSteps:=9^8) only [Qc4,slcA,bnds,optI,srcS,src,h0,e7,e8,go_sem,iv,bv,hl',ll,e2,e3,e5,e6,Int.le_refl,and_self,reduceCtorEq,↓reduceIte,Nat.reduceEqDiff]

/-! ### Mul -/
def Qli (dp dq:D) (L:List Rat) (n:Nat) (i k:Int):St:=mkS [(0,.d dp),(1,.d dq),(5,.own [22] n),(6,ai i),(7,ai k)] [([22],arrR n L)]
def QhU (dp dq:D) (L:List Rat) (n:Nat) (i:Int):St:=mkS [(0,.d dp),(1,.d dq),(5,.own [22] n),(6,ai i)] [([22],arrR n L)]
def Qrz (L:List Rat) (n:Nat):St:=mkS [(5,.own [22] n)] [([22],arrR n L)]
section
variable {dp dq:D} {p q:List Rat} {n:Nat}
theorem rmi_go (hp:RwR dp p) (hq:RwR dq q) {L:List Rat} (hL:L.length=n) {i k:Nat} (hi:i<p.length) (hk:k<q.length) (hn:i+k<n) (hn2:n≤1000000000) {K:Nat} (hK1:1≤K) (hK:K≤10000000000) (sp:SzL K p) (sq:SzL K q) (sL:SzL K L) :
    X G Qb3 (Qli dp dq L n i k)=some (.n,Qli dp dq (L.set (i+k) (L.getD (i+k) 0+p.getD i 0*q.getD k 0)) n i ((k+1:Nat):Int)):=by
  have e1:decide ((k:Int)<(q.length:Int))=true:=lt_t (by omega)
  obtain ⟨t,ht⟩:∃ t:Int,t=((i+k:Nat):Int):=⟨_,rfl⟩
  have e2:w64 ((i:Int)+(k:Int))=t:=by rw [Qae (by omega) (by omega)];omega
  have e3:w64 ((k:Int)+1)=((k+1:Nat):Int):=by rw [Qae (by omega) (by omega)];rfl
  have c1:((0:Int)≤t)=True:=eq_true (by omega)
  have c2:(t<(n:Int))=True:=eq_true (by omega)
  have c3:t.toNat=i+k:=by omega
  have lq:=hq.len
  have x1:=hp.ixa hi
  have y1:=fun h=>ldR h p hi
  have x2:=hq.ixa hk
  have y2:=fun h=>ldR h q hk
  have s1:=sp.getD hK1 i
  have s2:=sq.getD hK1 k
  have s3:=sL.getD hK1 (i+k)
  have g1:=QoN (a:=p.getD i 0) (b:=q.getD k 0) (by omega) (by omega)
  have k1:=Qma (a:=p.getD i 0) (b:=q.getD k 0)
  have g2:=Qos (a:=L.getD (i+k) 0) (b:=p.getD i 0*q.getD k 0) (by omega) (by omega)
  have l1:=ld_cA (l:=L) (j:=i+k) (by omega)
  have t1:=st_cA (l:=L) (j:=i+k) (by omega) (L.getD (i+k) 0+p.getD i 0*q.getD k 0)
  clear s1 s2 s3 k1 sp sq sL ht
  generalize L.getD (i+k) 0+p.getD i 0*q.getD k 0=r at *
  generalize p.getD i 0*q.getD k 0=pr at *
  generalize p.getD i 0=u at *
  generalize q.getD k 0=v at *
  generalize L.getD (i+k) 0=w at *
  generalize cRs (p.drop i)=cs1 at *
  generalize cRs (q.drop k)=cs2 at *
  simp only [encR] at g1 g2 y1 y2
  simp -implicitDefEqProofs (maxSteps:=9^8) only [Qb3,Qli,QbI,allD,l1,t1,lq,x1,y1,x2,y2,c1,c2,c3,e1,e2,e3,g1,g2,go_sem,iv,bv,and_self,reduceCtorEq,↓reduceIte,Nat.reduceEqDiff]
theorem rmi_stop (hq:RwR dq q) {L:List Rat} {i:Int}:X G Qb3 (Qli dp dq L n i (q.length:Nat))=some (.x 2,QhU dp dq L n i):=by
 have e1:decide ((q.length:Int)<(q.length:Int))=false:=lt_f (by omega)
 have lq:=hq.len
 simp -implicitDefEqProofs (maxSteps:=9^8) only [Qb3,Qli,QhU,QbI,lq,e1,go_sem,iv,bv,reduceCtorEq,↓reduceIte,Nat.reduceEqDiff]
variable {D E XX YY d h K:Nat}
theorem Qqp      (hp:RwR dp p) (hq:RwR dq q) (hn2:n≤1000000000) (hK1:1≤K) (hK:K≤10000000000) (sp:SzL K p) (sq:SzL K q) (hsz:∀ (m:Nat) (x:Rat),m≤p.length*q.length→Hq (D*E) (m*(XX*YY)) x→sz x≤K) (Hp:∀ x∈p,Hq D XX x) (Hqq:∀ x∈q,Hq E YY x) {i:Nat} (hi:i<p.length) (hn:p.length+q.length=n+1) :
    ∀ (j k m:Nat) (L:List Rat),k+j=q.length→L.length=n→m+j≤p.length*q.length→(∀ x∈L,Hq (D*E) (m*(XX*YY)) x) →
    ∃ L',L'.length=n∧(∀ x∈L',Hq (D*E) ((m+j)*(XX*YY)) x)∧(∀ x,evR L' x=evR L x+p.getD i 0*x^(i+k)*evR (q.drop k) x)∧X G (.loop Qb3) (Qli dp dq L n i k)=some (.x 2,QhU dp dq L' n i)
  | 0,k,m,L,hk,hL,hm,HL=>by
    have:k=q.length:=by omega
    subst this
    refine ⟨L,hL,HL,fun x=>?_,by rw [Qag,rmi_stop hq];rfl⟩
    rw [List.drop_length,Qfo,Rat.mul_zero,Rat.add_zero]
  | j+1,k,m,L,hk,hL,hm,HL=>by
    have hstep:=((Hq.getD Hp i).mul (Hq.getD Hqq k))
    have hnew:=(Hq.getD HL (i+k)).add hstep
    have e1:m*(XX*YY)+XX*YY=(m+1)*(XX*YY):=by rw [Nat.succ_mul]
    rw [e1] at hnew
    have HL2:∀ x∈L.set (i+k) (L.getD (i+k) 0+p.getD i 0*q.getD k 0),Hq (D*E) ((m+1)*(XX*YY)) x:=Hq_set (fun x hx=>(HL x hx).le (Nat.mul_le_mul_right _ (by omega))) hnew
    obtain ⟨L',a1,a2,a3,a4⟩:=Qqp hp hq hn2 hK1 hK sp sq hsz Hp Hqq hi hn j (k+1) (m+1) (L.set (i+k) (L.getD (i+k) 0+p.getD i 0*q.getD k 0)) (by omega) (by rw [List.length_set,hL]) (by omega) HL2
    refine ⟨L',a1,by rw [show m+(j+1)=m+1+j by omega];exact a2,fun x=>?_, ?_⟩
    · rw [a3,evR_set x _ L (i+k) (by omega),QrJ q x (k:=k) (by omega),show i+(k+1)=(i+k)+1 by omega,Rat.pow_succ]
      generalize evR L x=u;generalize evR (q.drop (k+1)) x=v;generalize x^(i+k)=w;generalize p.getD i 0=a;generalize q.getD k 0=b
      grind
    · rw [Qag,rmi_go hp hq hL hi (by omega) (by omega) hn2 hK1 hK sp sq (fun x hx=>hsz m x (by omega) (HL x hx)),Option.bind_some,if_pos rfl]
      exact a4
theorem QrI      (hp:RwR dp p) (hq:RwR dq q) (hn2:n≤1000000000) (hK1:1≤K) (hK:K≤10000000000) (sp:SzL K p) (sq:SzL K q) (hsz:∀ (m:Nat) (x:Rat),m≤p.length*q.length→Hq (D*E) (m*(XX*YY)) x→sz x≤K) (Hp:∀ x∈p,Hq D XX x) (Hqq:∀ x∈q,Hq E YY x) (hn:p.length+q.length=n+1) (hq0:0<q.length) :
    ∀ (j i:Nat) (L:List Rat),i+j=p.length→L.length=n→(∀ x∈L,Hq (D*E) (i*q.length*(XX*YY)) x) →
    ∃ L',L'.length=n∧(∀ x∈L',Hq (D*E) (p.length*q.length*(XX*YY)) x)∧(∀ x,evR L' x=evR L x+x^i*evR (p.drop i) x*evR q x)∧X G (.loop Qb1) (QhU dp dq L n i)=some (.x 0,Qrz L' n)
  | 0,i,L,hi,hL,HL=>by
    have:i=p.length:=by omega
    subst this
    have lp:=hp.len
    have e1:decide ((p.length:Int)<(p.length:Int))=false:=lt_f (by omega)
    refine ⟨L,hL,HL,fun x=>by rw [List.drop_length,Qfo,Rat.mul_zero,Rat.zero_mul,Rat.add_zero], ?_⟩
    have:X G Qb1 (QhU dp dq L n (p.length:Nat))=some (.x 0,Qrz L n):=by
      simp -implicitDefEqProofs (maxSteps:=9^8) only [Qb1,QhU,Qrz,QbI,lp,e1,go_sem,iv,bv,reduceCtorEq,↓reduceIte,Nat.reduceEqDiff]
    rw [Qag,this];rfl
  | j+1,i,L,hi,hL,HL=>by
    have hile:(i+1)*q.length≤p.length*q.length:=Nat.mul_le_mul_right _ (by omega)
    have hsm:(i+1)*q.length=i*q.length+q.length:=Nat.succ_mul ..
    obtain ⟨L1,b1,b2,b3,b4⟩:=Qqp hp hq hn2 hK1 hK sp sq hsz Hp Hqq (i:=i) (by omega) hn q.length 0 (i*q.length) L (by omega) hL (by omega) HL
    rw [← hsm] at b2
    obtain ⟨L',a1,a2,a3,a4⟩:=QrI hp hq hn2 hK1 hK sp sq hsz Hp Hqq hn hq0 j (i+1) L1 (by omega) b1 b2
    refine ⟨L',a1,a2,fun x=>?_, ?_⟩
    · rw [a3,b3,QrJ p x (k:=i) (by omega),List.drop_zero,Nat.add_zero,Rat.pow_succ]
      generalize evR L x=u;generalize evR (p.drop (i+1)) x=v;generalize x^i=w;generalize p.getD i 0=a;generalize evR q x=b
      grind
    · have lp:=hp.len
      have e1:decide ((i:Int)<(p.length:Int))=true:=lt_t (by omega)
      have hpl:p.length≤n:=by omega
      have e3:w64 ((i:Int)+1)=((i+1:Nat):Int):=by rw [Qae (by omega) (by omega)];rfl
      have n0:((0:Nat):Int)=0:=rfl
      rw [n0] at b4
      have:X G Qb1 (QhU dp dq L n i)=some (.n,QhU dp dq L1 n ((i+1:Nat):Int)):=by
        simp only [Qli,QhU,go_sem] at b4
        simp -implicitDefEqProofs (maxSteps:=9^8) only [Qb1,QhU,QbI,lp,e1,e3,b4,go_sem,iv,bv,reduceCtorEq,↓reduceIte,Nat.reduceEqDiff]
      rw [Qag,this,Option.bind_some,if_pos rfl]
      exact a4
theorem QmK        {d1 h1 d2 h2:Nat} (hp:RwR dp p) (hq:RwR dq q) (Hp:HL d1 h1 p) (Hq':HL d2 h2 q) (np:p.length≤1000) (nq:q.length≤1000) (hd:d1+d2≤1000000000) (hh:h1+h2≤1000000000) :
    ∃ d',RwR d' (muP p q)∧Qah G QgT [dp,dq]=some (.d d'):=by
  rw [Qad (cf:=Qds) rfl]
  have lp:=hp.len
  have lq:=hq.len
  have e00:((0:Int)==0)=true:=rfl
  by_cases p0:p.length=0
  · have:p=[]:=List.eq_nil_of_length_eq_zero p0
    subst this
    have em:muP [] q=[]:=QnU (Qn3 _ _) trm_nil (fun x=>by rw [ev_mu,Qfo,Rat.zero_mul])
    rw [em]
    refine ⟨.z true,.nil, ?_⟩
    simp only [List.length_nil] at lp
    simp -implicitDefEqProofs (maxSteps:=9^8) only [Qds,lp,lq,e00,go_sem,iv,bv,reduceCtorEq,↓reduceIte,Nat.reduceEqDiff]
  by_cases q0:q.length=0
  · have:q=[]:=List.eq_nil_of_length_eq_zero q0
    subst this
    have em:muP p []=[]:=QnU (Qn3 _ _) trm_nil (fun x=>by rw [ev_mu,Qfo,Rat.mul_zero])
    rw [em]
    refine ⟨.z true,.nil, ?_⟩
    simp only [List.length_nil] at lq
    have ep:((p.length:Int)==0)=false:=Qb9 (by omega)
    simp -implicitDefEqProofs (maxSteps:=9^8) only [Qds,lp,lq,ep,e00,go_sem,iv,bv,reduceCtorEq,↓reduceIte,Nat.reduceEqDiff]
  have ep:((p.length:Int)==0)=false:=Qb9 (by omega)
  have eq:((q.length:Int)==0)=false:=Qb9 (by omega)
  obtain ⟨n,hn⟩:∃ n,p.length+q.length=n+1:=⟨p.length+q.length-1,by omega⟩
  obtain ⟨D,a1,a2,a3⟩:=Hp
  obtain ⟨E,b1,b2,b3⟩:=Hq'
  have hDE:D*E≤BB^(d1+d2):=QgN a2 b2
  have hsz:∀ (m:Nat) (x:Rat),m≤p.length*q.length→Hq (D*E) (m*(BB^h1*BB^h2)) x→sz x≤10000000000:=fun m x hm hx=>by
    have hm2:p.length*q.length≤1000*1000:=Nat.mul_le_mul np nq
    have hX:m*(BB^h1*BB^h2)≤BB^(1+(h1+h2)):=QgN (by rw [Nat.pow_one];show m≤1000000000;omega) (QgN (Nat.le_refl _) (Nat.le_refl _))
    have:=Hq.sz (Nat.mul_pos a1 b1) hDE hX hx
    omega
  have sp:SzL 10000000000 p:=((HL.sz ⟨D,a1,a2,a3⟩).mono (by omega))
  have sq:SzL 10000000000 q:=((HL.sz ⟨E,b1,b2,b3⟩).mono (by omega))
  obtain ⟨L',c1,c2,c3,c4⟩:=QrI (D:=D) (E:=E) (XX:=BB^h1) (YY:=BB^h2) (K:=10000000000) hp hq (n:=n) (by omega) (by omega) (by omega) sp sq hsz a3 b3 hn (by omega) p.length 0 (List.replicate n 0) (by omega) (by simp) (fun x hx=>by rw [(List.mem_replicate.1 hx).2];exact Hq.zero _ _)
  obtain ⟨d',hr',gT⟩:=QgE (RwR.row L') (by omega) (fun x hx=>Nat.le_trans (hsz _ x (Nat.le_refl _) (c2 x hx)) (by omega))
  have em:QcF L'=muP p q:=QnU (QkP _) (Qn3 _ _) (fun x=>by
    rw [Qm3,c3,Qsk,Rat.pow_zero,List.drop_zero,ev_mu,Rat.zero_add,Rat.one_mul])
  rw [em] at hr'
  refine ⟨d',hr', ?_⟩
  have z0:((0:Nat):Int)=0:=rfl
  rw [z0] at c4
  obtain ⟨z,hz⟩:∃ z,(p.length:Int)+(q.length:Int)=z:=⟨_,rfl⟩
  have e1:w64 ((p.length:Int)+(q.length:Int))=z:=by rw [Qae (by omega) (by omega),hz]
  have e2:w64 (z-1)=(n:Int):=by rw [Qae (by omega) (by omega)];omega
  have f1:((0:Int)≤(n:Int))=True:=eq_true (by omega)
  have f2:((n:Int)*((64:Nat):Int)≤(bound:Int))=True:=eq_true (by have:(bound:Int)=140737488351232:=rfl;omega)
  have r0:=QpU n
  have m0:=QnW (List.replicate n (0:Rat))
  rw [rowR,c1] at gT
  clear c1 c2 c3 hr' em sp sq hsz hz
  simp only [QhU,Qrz,go_sem] at c4
  simp -implicitDefEqProofs (maxSteps:=9^8) only [Qds,QdG,lp,lq,ep,eq,e1,e2,f1,f2,r0,m0,Int.toNat_natCast,c4,gT,QjU,QbI,true_and,and_self,go_sem,iv,bv,reduceCtorEq,↓reduceIte,Nat.reduceEqDiff]
end
end Go.AM

/- ref06.Poly. -/
namespace Go.AM
open Go Go.RowKit

theorem tdivc {n c:Int} (hn:I64 n) (hc:0<c):I64 (n.tdiv c)∧w64 (n.tdiv c)=n.tdiv c:=by
  obtain ⟨h1,h2⟩:=hn
  have hb:(n.tdiv c).natAbs≤n.natAbs:=by
    rw [Int.natAbs_tdiv];exact Nat.div_le_self _ _
  have h3:-9223372036854775808≤n.tdiv c:=by omega
  have h4:n.tdiv c<9223372036854775808:=by
    by_cases h0:0≤n
    · omega
    · have e : n.tdiv c = -((-n) / c) := by
        rw [← Int.tdiv_eq_ediv_of_nonneg (by omega),Int.neg_tdiv,Int.neg_neg]
      have:0≤(-n)/c:=Int.ediv_nonneg (by omega) (by omega)
      omega
  exact ⟨⟨h3,h4⟩,Qae h3 h4⟩
theorem H1.neg {d h:Nat} {q:Rat} (H:H1 d h q):H1 d h (-q):=by
 obtain ⟨D,h1,h2,h3⟩:=H
 exact ⟨D,h1,h2,h3.neg⟩
theorem H1.one:H1 0 0 1:=⟨1,by omega,by simp [BB],⟨1,Rat.mul_one _,by simp⟩⟩
theorem HL.cons {d1 h1 d2 h2:Nat} {a:Rat} {l:List Rat} (H:H1 d1 h1 a) (H':HL d2 h2 l):HL (d1+d2) (max (h1+d2) (h2+d1)) (a :: l):=by
 obtain ⟨D,a1,a2,a3⟩:=H
 obtain ⟨E,b1,b2,b3⟩:=H'
 refine ⟨D*E,Nat.mul_pos a1 b1,QgN a2 b2,fun q hq=>?_⟩
 rcases List.mem_cons.1 hq with rfl | hq
 ·exact (a3.lift E).le (Nat.le_trans (QgN (Nat.le_refl _) b2) (QhE (by omega)))
 ·exact ((b3 q hq).lift' D).le (Nat.le_trans (QgN a2 (Nat.le_refl _)) (QhE (by omega)))
theorem HL.smalls:∀ (l:List Rat),(∀ q∈l,∃ n,q=smR n)→HL l.length l.length l
 | [],_=>HL.nil _ _
 | a :: l,h=>by
  obtain ⟨n,rfl⟩:=h a (List.mem_cons_self ..)
  exact (HL.cons (smR_H n) (HL.smalls l (fun q hq=>h q (List.mem_cons_of_mem _ hq)))).mono (by simp;omega) (by simp;omega)
def HB (a b:Nat) (l:List Rat):Prop:=∃ D:Nat,0<D∧D≤a∧∀ q∈l,Hq D b q
theorem HB.hl {a b d h:Nat} {l:List Rat} (H:HB a b l) (ha:a≤BB^d) (hb:b≤BB^h):HL d h l:=by
 obtain ⟨D,h1,h2,h3⟩:=H
 exact ⟨D,h1,Nat.le_trans h2 ha,fun q hq=>(h3 q hq).le hb⟩
theorem HB.mono {a b c d:Nat} {l:List Rat} (H:HB a b l) (h1:a≤c) (h2:b≤d):HB c d l:=by
 obtain ⟨D,k1,k2,k3⟩:=H
 exact ⟨D,k1,by omega,fun q hq=>(k3 q hq).le h2⟩
theorem HB.trim {a b:Nat} {l:List Rat} (H:HB a b l):HB a b (QcF l):=by
 obtain ⟨D,h1,h2,h3⟩:=H
 exact ⟨D,h1,h2,fun q hq=>h3 q (List.mem_of_mem_take hq)⟩
theorem HB.cons {a b c d:Nat} {q:Rat} {l:List Rat} (H:HB a b [q]) (H':HB c d l):HB (a*c) (max (b*c) (a*d)) (q :: l):=by
 obtain ⟨D,a1,a2,a3⟩:=H
 obtain ⟨E,b1,b2,b3⟩:=H'
 refine ⟨D*E,Nat.mul_pos a1 b1,Nat.mul_le_mul a2 b2,fun p hp=>?_⟩
 rcases List.mem_cons.1 hp with rfl | hp
 ·exact ((a3 p (by simp)).lift E).le (Nat.le_trans (Nat.mul_le_mul_left _ b2) (Nat.le_max_left _ _))
 ·exact ((b3 p hp).lift' D).le (Nat.le_trans (Nat.mul_le_mul_right _ a2) (Nat.le_max_right _ _))
theorem HB.mu {a b c d:Nat} {l m:List Rat} (H:HB a b l) (H':HB c d m):HB (a*c) ((l.length+m.length)*(b*d)) (muP l m):=by
 obtain ⟨D,a1,a2,a3⟩:=H
 obtain ⟨E,b1,b2,b3⟩:=H'
 refine HB.trim ⟨D*E,Nat.mul_pos a1 b1,Nat.mul_le_mul a2 b2,fun q hq=>?_⟩
 obtain ⟨k,hk,rfl⟩:=List.mem_map.1 hq
 have hk:=List.mem_range.1 hk
 exact (Hq.sum (k+1) (fun i _=>(Hq.getD a3 i).mul (Hq.getD b3 (k-i)))).le (Nat.mul_le_mul_right _ (by omega))
theorem HB.neg {a b:Nat} {q:Rat} (H:HB a b [q]):HB a b [-q]:=by
 obtain ⟨D,h1,h2,h3⟩:=H
 exact ⟨D,h1,h2,fun p hp=>by rw [List.mem_singleton.1 hp];exact (h3 q (by simp)).neg⟩
theorem HB.one1:HB 1 1 [1]:=⟨1,by omega,by omega,fun p hp=>by rw [List.mem_singleton.1 hp];exact ⟨1,Rat.mul_one _,by simp⟩⟩
theorem HB.int {z:Int} (h:z.natAbs≤5):HB 1 5 [Rat.divInt z 1]:=⟨(1:Int).natAbs,by decide,by decide,fun p hp=>by
 rw [List.mem_singleton.1 hp]
 exact (Hq.div (n:=z) (d:=1) (by omega)).le (by omega)⟩
theorem HB.small (n:Int):HB 4 7 [smR n]:=by
 have b:=Qn2 (n:=n) (m:=105) (by omega)
 have hd:0<1+arnd n 105/15%4:=by omega
 exact ⟨(1+arnd n 105/15%4).natAbs,by omega,by omega,fun p hp=>by
  rw [List.mem_singleton.1 hp]
  exact (Hq.div hd).le (by omega)⟩
theorem HB.smalls:∀ (l:List Rat),(∀ q∈l,∃ n,q=smR n)→HB (4^l.length) (7*4^l.length) l
 | [],_=>⟨1,by omega,by simp,fun q hq=>by simp at hq⟩
 | a :: l,h=>by
  obtain ⟨n,rfl⟩:=h a (List.mem_cons_self ..)
  have:=(HB.small n).cons (HB.smalls l (fun q hq=>h q (List.mem_cons_of_mem _ hq)))
  refine this.mono ?_ ?_
  ·rw [List.length_cons,Nat.pow_succ];omega
  ·rw [List.length_cons,Nat.pow_succ];omega
theorem rep2c (a b c d:D):rep 2 [a,b,c,d]=[a,b,c,d,a,b,c,d]:=rfl
theorem QrB (a b c d:D):rep 3 [a,b,c,d]=[a,b,c,d,a,b,c,d,a,b,c,d]:=rfl
variable [Its]

theorem rone_of:Qah G Qbe [iv 1,iv 1]=some (.d (encR 1)):=by
 have g:=QeJ (n:=1) (d:=1) ⟨by omega,by omega⟩ ⟨by omega,by omega⟩
 have e:Rat.divInt 1 1=1:=QfG 1
 rw [e] at g;exact g
section
variable {e0:D} {l:List Int}
def Qkz (e0:D) (L:List Rat) (i:Int):St:=mkS [(0,.d e0),(3,gA4 28 L),(4,ai i)] (gH4 28 L)
def QoJ (L:List Rat):St:=mkS [(3,gA4 28 L)] (gH4 28 L)
theorem pl_go (hr:Rw e0 l) (hl:∀ n∈l,I64 n) {i:Nat} (hi:i<l.length) (hi6:i<6) {L:List Rat} (hL:L.length≤10):X G QaL (Qkz e0 L i)=some (.n,Qkz e0 (L++[smR (l.getD i 0)]) ((i+1:Nat):Int)):=by
 have e1:decide ((i:Int)<(l.length:Int))=true:=lt_t (by omega)
 have e2:decide ((i:Int)<6)=true:=lt_t (by omega)
 have e3:w64 ((i:Int)+1)=((i+1:Nat):Int):=by rw [Qae (by omega) (by omega)];rfl
 have ll:=hr.len
 have x1:=hr.ixn hi
 have x2:=fun h=>ldv h l hi
 have g:=Qh6 (n:=l.getD i 0) (hl _ (by rw [List.getD_eq_getElem?_getD,List.getElem?_eq_getElem hi];exact List.getElem_mem hi))
 generalize smR (l.getD i 0)=q at *
 generalize l.getD i 0=x at *
 have d1:=dgone (digs q.num.natAbs)
 have d2:=dgone (dd q.den)
 simp only [encR,iv] at g
 by_cases h0:L=[]
 ·subst h0
  have hb:(64≤bound)=True:=eq_true (by unfold bound;omega)
  have hb1:(1*64≤bound)=True:=eq_true (by unfold bound;omega)
  simp -implicitDefEqProofs (maxSteps:=9^8) only [QaL,Qkz,Qhc,Qg1,Qaa,QkD,QkH,List.nil_append,List.cons_append,List.length_nil,List.length_cons,Nat.zero_add,List.map_cons,List.map_nil,rep1c,gA4_one,gH4_one,Qrg,srcS,src,one_b,allD,hb,hb1,d1,d2,ll,x1,x2,go_sem,iv,bv,e1,e2,e3,g,reduceCtorEq,↓reduceIte,Nat.reduceEqDiff]
 ·have n3:(cA L).length=L.length*4:=QiN L
  have n4:((L.length+1)*64≤bound)=True:=eq_true (by unfold bound;omega)
  simp -implicitDefEqProofs (maxSteps:=9^8) only [QaL,Qkz,Qkh h0,Qkl h0,QkD,QkH,List.nil_append,List.cons_append,List.length_nil,List.length_cons,Nat.zero_add,List.map_cons,List.map_nil,rep1c,cA_snoc,n3,n4,QbI,srcS,src,one_b,allD,d1,d2,ll,x1,x2,go_sem,iv,bv,e1,e2,e3,g,reduceCtorEq,↓reduceIte,Nat.reduceEqDiff]
theorem pl_stop (hr:Rw e0 l) {i:Nat} (hi:l.length≤i∨6≤i) {L:List Rat}:X G QaL (Qkz e0 L i)=some (.x 0,QoJ L):=by
 have ll:=hr.len
 by_cases h1:l.length≤i
 ·have e1:decide ((i:Int)<(l.length:Int))=false:=lt_f (by omega)
  by_cases h0:L=[]
  ·subst h0
   simp -implicitDefEqProofs (maxSteps:=9^8) only [QaL,Qkz,QoJ,Qhc,Qg1,Qaa,ll,e1,go_sem,iv,bv,reduceCtorEq,↓reduceIte,Nat.reduceEqDiff]
  ·simp -implicitDefEqProofs (maxSteps:=9^8) only [QaL,Qkz,QoJ,Qkh h0,Qkl h0,QbI,ll,e1,go_sem,iv,bv,reduceCtorEq,↓reduceIte,Nat.reduceEqDiff]
 ·have e1:decide ((i:Int)<(l.length:Int))=true:=lt_t (by omega)
  have e2:decide ((i:Int)<6)=false:=lt_f (by omega)
  by_cases h0:L=[]
  ·subst h0
   simp -implicitDefEqProofs (maxSteps:=9^8) only [QaL,Qkz,QoJ,Qhc,Qg1,Qaa,ll,e1,e2,go_sem,iv,bv,reduceCtorEq,↓reduceIte,Nat.reduceEqDiff]
  ·simp -implicitDefEqProofs (maxSteps:=9^8) only [QaL,Qkz,QoJ,Qkh h0,Qkl h0,QbI,ll,e1,e2,go_sem,iv,bv,reduceCtorEq,↓reduceIte,Nat.reduceEqDiff]
theorem pl_loop (hr:Rw e0 l) (hl:∀ n∈l,I64 n):∀ (j i:Nat) (L:List Rat),6≤i+j→L.length+1=i→i≤6→(∀ q∈L,∃ n,q=smR n)→∃ L',L'.length≤5∧(∀ q∈L',∃ n,q=smR n)∧X G (.loop QaL) (Qkz e0 L i)=some (.x 0,QoJ L')
  | 0,i,L,hj,hLi,hi,hL=>⟨L,by omega,hL,by rw [Qag,pl_stop hr (.inr (by omega))];rfl⟩
  | j+1,i,L,hj,hLi,hi,hL=>by
    by_cases h:i<l.length∧i<6
    · obtain ⟨L', a1, a2, a3⟩ := pl_loop hr hl j (i + 1) (L ++ [smR (l.getD i 0)]) (by omega) (by rw [List.length_append]; simp; omega) (by omega) (fun q hq => by
        rcases List.mem_append.1 hq with h' | h'
        · exact hL q h'
        · exact ⟨_,List.mem_singleton.1 h'⟩)
      exact ⟨L',a1,a2,by rw [Qag,pl_go hr hl h.1 h.2 (by omega),Option.bind_some,if_pos rfl];exact a3⟩
    · exact ⟨L,by omega,hL,by rw [Qag,pl_stop hr (by omega)];rfl⟩

def QkY (e0 d:D) (i:Int):St:=mkS [(0,.d e0),(5,.d d),(6,ai i)] []
def pm_en (d:D):St:=mkS [(5,.d d)] []
theorem pm_go (hr:Rw e0 l) (hl:∀ n∈l,I64 n) {i:Nat} (hi:i<l.length) (hi5:i<5) {d:D} {out:List Rat} {dd hh:Nat} (ho:RwR d out) (Ho:HL dd hh out) (nd:out.length≤100) (hd:dd≤100) (hh':hh≤100) :
    ∃ d' out',RwR d' out'∧Trm out'∧(HL (dd+2) (hh+3) out'∧∃ t,out'=muP out t∧t.length≤3∧HB 16 28 t)∧(out'.length≤out.length+2∧(4≤i→out'.length≤out.length+1))∧X G QaM (QkY e0 d i)=some (.n,QkY e0 d' ((i+1:Nat):Int)):=by
  have e1:decide ((i:Int)<(l.length:Int))=true:=lt_t (by omega)
  have e2:decide ((i:Int)<5)=true:=lt_t (by omega)
  have e3:w64 ((i:Int)+1)=((i+1:Nat):Int):=by rw [Qae (by omega) (by omega)];rfl
  have ll:=hr.len
  have lo:=ho.len
  have x1:=hr.ixn hi
  have x2:=fun h=>ldv h l hi
  have hx:I64 (l.getD i 0):=hl _ (by rw [List.getD_eq_getElem?_getD,List.getElem?_eq_getElem hi];exact List.getElem_mem hi)
  generalize l.getD i 0=x at *
  have g1:=Qh6 hx
  have g2:=QoF (a:=smR x) (by have:=smR_sz x;omega)
  have o1:=rone_of
  obtain ⟨q7,w7⟩:=tdivc (c:=7) hx (by omega)
  obtain ⟨q3,w3⟩:=tdivc (c:=3) hx (by omega)
  obtain ⟨y7,hy7⟩:∃ y,x.tdiv 7=y:=⟨_,rfl⟩
  obtain ⟨y3,hy3⟩:∃ y,x.tdiv 3=y:=⟨_,rfl⟩
  have w7':w64 (x.tdiv 7)=y7:=by rw [w7,hy7]
  have w3':w64 (x.tdiv 3)=y3:=by rw [w3,hy3]
  rw [hy7] at q7
  rw [hy3] at q3
  have g7:=Qh6 q7
  have g3:=Qh6 q3
  have z7:=Qjr (b:=(7:Int)) (by omega)
  have z3:=Qjr (b:=(3:Int)) (by omega)
  have F2:HL 1 1 [-smR x,1]:=(HL.cons (smR_H x).neg (HL.one H1.one)).mono (by omega) (by omega)
  have F3:HL 2 2 [smR y7,smR y3,1]:=(HL.cons (smR_H y7) (HL.cons (smR_H y3) (HL.one H1.one))).mono (by omega) (by omega)
  obtain ⟨d2,t2,gT2⟩:=QgE (RwR.row [-smR x,1]) (by simp only [List.length_cons,List.length_nil];omega) (F2.sz.mono (by omega))
  obtain ⟨d3,t3,gT3⟩:=QgE (RwR.row [smR y7,smR y3,1]) (by simp only [List.length_cons,List.length_nil];omega) (F3.sz.mono (by omega))
  have n2:(QcF [-smR x,1]).length≤2:=Qfw _
  have n3:(QcF [smR y7,smR y3,1]).length≤3:=Qfw _
  obtain ⟨m2,u2,gM2⟩:=QmK ho t2 Ho F2.trim (by omega) (by omega) (by omega) (by omega)
  obtain ⟨m3,u3,gM3⟩:=QmK ho t3 Ho F3.trim (by omega) (by omega) (by omega) (by omega)
  have H2:=HL.mu Ho F2.trim (by have:BB=1000000000:=rfl;omega)
  have H3:=HL.mu Ho F3.trim (by have:BB=1000000000:=rfl;omega)
  have l2:=len_mu out (QcF [-smR x,1])
  have l3:=len_mu out (QcF [smR y7,smR y3,1])
  by_cases hc:x.tmod 7=3∧i<4∧out.length<4
  · refine ⟨m3,_,u3,Qn3 _ _,⟨H3.mono (by omega) (by omega),_,rfl,by omega,((HB.small y7).cons ((HB.small y3).cons HB.one1) |>.trim).mono (by omega) (by omega)⟩,by omega, ?_⟩
    have c1:(x.tmod 7==3)=true:=Qkx hc.1
    have c2:decide ((i:Int)<4)=true:=lt_t (by omega)
    have c3:decide ((out.length:Int)<4)=true:=lt_t (by omega)
    clear F2 F3 n2 n3 H2 H3 l2 l3 u2 u3 t2 t3 gT2 gM2 hc
    simp only [rowR,cRs,List.length_cons,List.length_nil,Nat.reduceAdd] at gT3
    generalize -smR x=sn at *
    generalize smR x=sx at *
    generalize smR y7=s7 at *
    generalize smR y3=s3 at *
    generalize (1:Rat)=one at *
    simp only [encR,iv] at g1 g2 o1 g7 g3
    simp -implicitDefEqProofs (maxSteps:=9^8) only [QaM,QkY,ll,lo,x1,x2,e1,e2,e3,g1,g2,o1,g7,g3,z7,z3,w7',w3',c1,c2,c3,gT3,gM3,rep2c,QrB,go_sem,iv,bv,reduceCtorEq,↓reduceIte,Nat.reduceEqDiff]
  · refine ⟨m2,_,u2,Qn3 _ _,⟨H2.mono (by omega) (by omega),_,rfl,by omega,((HB.small x).neg.cons HB.one1 |>.trim).mono (by omega) (by omega)⟩,by omega, ?_⟩
    clear F2 F3 n2 n3 H2 H3 l2 l3 u2 u3 t2 t3 gT3 gM3
    simp only [rowR,cRs,List.length_cons,List.length_nil,Nat.reduceAdd] at gT2
    generalize -smR x=sn at *
    generalize smR x=sx at *
    generalize smR y7=s7 at *
    generalize smR y3=s3 at *
    generalize (1:Rat)=one at *
    simp only [encR,iv] at g1 g2 o1 g7 g3
    by_cases h1:x.tmod 7=3
    · have c1:(x.tmod 7==3)=true:=Qkx h1
      by_cases h2:i<4
      · have c2:decide ((i:Int)<4)=true:=lt_t (by omega)
        have c3:decide ((out.length:Int)<4)=false:=lt_f (by omega)
        simp -implicitDefEqProofs (maxSteps:=9^8) only [QaM,QkY,ll,lo,x1,x2,e1,e2,e3,g1,g2,o1,g7,g3,z7,z3,w7',w3',c1,c2,c3,gT2,gM2,rep2c,QrB,go_sem,iv,bv,reduceCtorEq,↓reduceIte,Nat.reduceEqDiff]
      · have c2:decide ((i:Int)<4)=false:=lt_f (by omega)
        simp -implicitDefEqProofs (maxSteps:=9^8) only [QaM,QkY,ll,lo,x1,x2,e1,e2,e3,g1,g2,o1,g7,g3,z7,z3,w7',w3',c1,c2,gT2,gM2,rep2c,QrB,go_sem,iv,bv,reduceCtorEq,↓reduceIte,Nat.reduceEqDiff]
    · have c1:(x.tmod 7==3)=false:=Qb9 h1
      simp -implicitDefEqProofs (maxSteps:=9^8) only [QaM,QkY,ll,lo,x1,x2,e1,e2,e3,g1,g2,o1,g7,g3,z7,z3,w7',w3',c1,gT2,gM2,rep2c,QrB,go_sem,iv,bv,reduceCtorEq,↓reduceIte,Nat.reduceEqDiff]
theorem pm_stop (hr:Rw e0 l) {i:Nat} (hi:l.length≤i∨5≤i) {d:D}:X G QaM (QkY e0 d i)=some (.x 2,pm_en d):=by
 have ll:=hr.len
 by_cases h1:l.length≤i
 ·have e1:decide ((i:Int)<(l.length:Int))=false:=lt_f (by omega)
  simp -implicitDefEqProofs (maxSteps:=9^8) only [QaM,QkY,pm_en,ll,e1,go_sem,iv,bv,reduceCtorEq,↓reduceIte,Nat.reduceEqDiff]
 ·have e1:decide ((i:Int)<(l.length:Int))=true:=lt_t (by omega)
  have e2:decide ((i:Int)<5)=false:=lt_f (by omega)
  simp -implicitDefEqProofs (maxSteps:=9^8) only [QaM,QkY,pm_en,ll,e1,e2,go_sem,iv,bv,reduceCtorEq,↓reduceIte,Nat.reduceEqDiff]
theorem pm_loop (hr:Rw e0 l) (hl:∀ n∈l,I64 n):∀ (j i:Nat) (d:D) (out:List Rat),5≤i+j→i≤5→RwR d out→Trm out→HL (2*i) (1+3*i) out→(out.length+3≤2*i∧out.length≤i+1)→∀ A B,HB A B out→∃ d' out',RwR d' out'∧Trm out'∧HB (A*16^j) (B*252^j) out'∧out'.length≤6∧X G (.loop QaM) (QkY e0 d i)=some (.x 2,pm_en d')
 | 0,i,d,out,hj,hi,h1,h2,h3,h4,A,B,hB=>⟨d,out,h1,h2,hB.mono (by simp) (by simp),by omega,by rw [Qag,pm_stop hr (.inr (by omega))];rfl⟩
 | j+1,i,d,out,hj,hi,h1,h2,h3,h4,A,B,hB=>by
  by_cases h:i<l.length∧i<5
  ·obtain ⟨d1,o1,a1,a2,⟨a3,t,b1,b2,b3⟩,a4,a5⟩:=pm_go hr hl h.1 h.2 h1 h3 (by omega) (by omega) (by omega)
   have hB':HB (A*16) (B*252) o1:=by
    rw [b1]
    refine (hB.mu b3).mono (Nat.le_refl _) ?_
    have:(out.length+t.length)*(B*28)≤9*(B*28):=Nat.mul_le_mul_right _ (by omega)
    omega
   obtain ⟨d',out',c1,c2,c3,c4,c5⟩:=pm_loop hr hl j (i+1) d1 o1 (by omega) (by omega) a1 a2 (a3.mono (by omega) (by omega)) (by omega) _ _ hB'
   refine ⟨d',out',c1,c2,c3.mono (by rw [Nat.pow_succ,Nat.mul_assoc,Nat.mul_comm 16];exact Nat.le_refl _) (by rw [Nat.pow_succ,Nat.mul_assoc,Nat.mul_comm 252];exact Nat.le_refl _),c4,by rw [Qag,a5,Option.bind_some,if_pos rfl];exact c5⟩
  ·have p1:1≤16^(j+1):=Nat.one_le_pow _ _ (by decide)
   have p2:1≤252^(j+1):=Nat.one_le_pow _ _ (by decide)
   exact ⟨d,out,h1,h2,hB.mono (Nat.le_mul_of_pos_right _ p1) (Nat.le_mul_of_pos_right _ p2),by omega,by rw [Qag,pm_stop hr (by omega)];rfl⟩
theorem Qsf (hr:Rw e0 l) (hl:∀ n∈l,I64 n):∃ d p,RwR d p∧Trm p∧HL 1 1 p∧p.length≤6∧Qah G Qgf [e0]=some (.d d):=by
 rw [Qad (cf:=Qc9) rfl]
 have a0:=at_spec (i:=0) (m:=3) hr hl (by omega)
 have a1:=at_spec (i:=1) (m:=5) hr hl (by omega)
 have b1:=atr_b l 1 (m:=5) (by omega)
 generalize atr l 0 3=x0 at *
 generalize atr l 1 5=x1 at *
 by_cases h0:x0=0
 ·have e1:(x0==0)=true:=Qkx h0
  obtain ⟨L,c1,c2,c3⟩:=pl_loop hr hl 5 1 [] (by omega) rfl (by omega) (fun q hq=>by simp at hq)
  have HLs:=HL.smalls L c2
  obtain ⟨d',t1,gT⟩:=QgE (dR_ok L) (by omega) (HLs.sz.mono (by omega))
  have HBs:=HB.smalls L c2
  have p5:4^L.length≤4^5:=Nat.pow_le_pow_right (by decide) c1
  refine ⟨d',QcF L,t1,QkP _,(HBs.trim).hl (by rw [Nat.pow_one];show _≤1000000000;omega) (by rw [Nat.pow_one];show _≤1000000000;omega),Nat.le_trans (Qfw L) (by omega), ?_⟩
  have n1:((1:Nat):Int)=1:=rfl
  rw [n1] at c3
  simp only [iv] at a0
  by_cases hL:L=[]
  ·subst hL
   have gT':Qah G QbE [.z true]=some (.d d'):=gT
   simp only [Qkz,QoJ,Qhc,Qg1,Qaa,go_sem] at c3
   simp -implicitDefEqProofs (maxSteps:=9^8) only [Qc9,QdG,a0,e1,c3,gT',Qaa,go_sem,iv,bv,reduceCtorEq,↓reduceIte,Nat.reduceEqDiff]
  ·rw [dR,if_neg hL,rowR] at gT
   simp only [Qkz,QoJ,Qhc,Qg1,Qkh hL,Qkl hL,Qaa,go_sem] at c3
   simp -implicitDefEqProofs (maxSteps:=9^8) only [Qc9,QdG,a0,e1,c3,gT,QjU,QbI,Qaa,go_sem,iv,bv,reduceCtorEq,↓reduceIte,Nat.reduceEqDiff]
 ·have e1:(x0==0)=false:=Qb9 h0
  obtain ⟨z,hz⟩:∃ z,1+x1=z:=⟨_,rfl⟩
  have w1:w64 (1+x1)=z:=by rw [Qae (by omega) (by omega),hz]
  have o1:=QeJ (n:=z) (d:=1) ⟨by omega,by omega⟩ ⟨by omega,by omega⟩
  have Hc:H1 1 1 (Rat.divInt z 1):=⟨(1:Int).natAbs,by decide,by rw [Nat.pow_one];decide,(Hq.div (n:=z) (d:=1) (by omega)).le (by rw [Nat.pow_one];show _≤1000000000;omega)⟩
  have Bc:HB 1 5 [Rat.divInt z 1]:=HB.int (by omega)
  generalize Rat.divInt z 1=c at *
  obtain ⟨d1,t1,gT⟩:=QgE (RwR.row [c]) (by simp only [List.length_cons,List.length_nil];omega) ((HL.one Hc).sz.mono (by omega))
  have n1:(QcF [c]).length≤1:=Qfw _
  obtain ⟨d',out',b1,b2,b3,b4,b5⟩:=pm_loop hr hl 3 2 d1 (QcF [c]) (by omega) (by omega) t1 (QkP _) ((HL.one Hc).trim.mono (by omega) (by omega)) (by omega) 1 5 Bc.trim
  refine ⟨d',out',b1,b2,b3.hl (by decide) (by decide),b4, ?_⟩
  have n2:((2:Nat):Int)=2:=rfl
  rw [n2] at b5
  simp only [rowR,cRs,List.length_cons,List.length_nil,Nat.reduceAdd] at gT
  simp only [encR,iv] at a0 a1 o1
  simp only [QkY,pm_en,go_sem] at b5
  simp -implicitDefEqProofs (maxSteps:=9^8) only [Qc9,a0,a1,e1,w1,o1,gT,b5,rep1c,go_sem,iv,bv,reduceCtorEq,↓reduceIte,Nat.reduceEqDiff]
end
end Go.AM

