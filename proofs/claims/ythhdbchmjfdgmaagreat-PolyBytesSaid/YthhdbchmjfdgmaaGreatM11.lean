/- Part 11 of the proof: a small machine, its soundness against the model, and what the program's functions compute on it. -/
import Derived.Test.YthhdbchmjfdgmaaGreatM7
import Derived.Test.YthhdbchmjfdgmaaGreatM10
import Derived.Test.YthhdbchmjfdgmaaGreatM8
import Derived.Test.YthhdbchmjfdgmaaGreatRows
import Derived.Test.YthhdbchmjfdgmaaGreatM5
import Derived.WalkKit
import Derived.ProofKit
import Derived.OpenShut
import Derived.ShutString
import Derived.ChangeOld
import Derived.Below
import Derived.SizedLaws
set_option linter.unusedVariables false
set_option linter.unusedSimpArgs false
/- The seat's iterators: Backward alone; slices.Grow as an oracle. -/
namespace Go.AM
open Go Go.RowKit Go.Proofs

instance itsP:Its:={ it:=fun f ds=>if f=Qan then QoU ds else none,orc:=orcG }
instance itsBP:ItsB:=⟨fun _=>if_pos rfl⟩
instance itsGP:ItsG:=⟨fun h1 h2=>(callX_orc (Γ:=G) rfl _).trans (orcG_at h1 h2)⟩
theorem envP:EnvOk Tryz.prog G:=env_okO (fun f ds xs h=>by
  have h':(if f=Qan then QoU ds else none)=some xs:=h
  split at h'
  · rename_i hf
    rw [hf]
    exact itBack_ok h'
  · cases h') (fun f ds r _ h=>orcG_ok f ds r h)
end Go.AM

/- law06.lives. -/
namespace Go.AM
open Go Go.RowKit Go.Proofs

theorem of1:Qah G Qbo [.row 3 [iv (-1),iv 0,iv 1]]=some (.d (rowR [-1,0,1])):=callX_some.2 ⟨60,by kernel_rfl⟩
theorem of2:Qah G Qbo [.row 2 [iv (-1),iv 1]]=some (.d (rowR [-1,1])):=callX_some.2 ⟨60,by kernel_rfl⟩
theorem of3:Qah G Qbo [.row 4 [iv 1,iv (-1),iv (-1),iv 1]]=some (.d (rowR [1,-1,-1,1])):=callX_some.2 ⟨60,by kernel_rfl⟩
theorem of4:Qah G Qbo [.row 2 [iv 1,iv 1]]=some (.d (rowR [1,1])):=callX_some.2 ⟨60,by kernel_rfl⟩
theorem of5:Qah G Qbo [.row 3 [iv 0,iv 2,iv 1]]=some (.d (rowR [0,2,1])):=callX_some.2 ⟨60,by kernel_rfl⟩
theorem val1:Qah G Qgj [rowR [-1,0,1]]=some (.d (bv true)):=callX_some.2 ⟨100,by kernel_rfl⟩
theorem deg1:Qah G Qjt [rowR [-1,0,1]]=some (.d (iv 2)):=callX_some.2 ⟨20,by kernel_rfl⟩
theorem QjX {d x:D} {l:List Rat} (h:RwR d l) (ho:Qah G Qbo [x]=some (.d (rowR l))) (hs:smL l=true) (hl:l.length≤1000):Qah G Qb6 [d,x]=some (.d (bv true)):=by
 rw [Qad (cf:=Qgq) rfl]
 have g:=s6_refl h (RwR.row l) ((Qey hs).mono (by omega)) (by omega)
 generalize rowR l=r at *
 simp only [bv] at g
 simp -implicitDefEqProofs (maxSteps:=9^8) only [Qgq,ho,g,go_sem,iv,bv,reduceCtorEq,↓reduceIte,Nat.reduceEqDiff]

theorem rep_4 (a:D):rep 4 [a]=[a,a,a,a]:=rfl
theorem Qsq:Qah G QfP []=some (.d (bv true)):=by
 rw [Qad (cf:=QeE) rfl]
 have q1:muP [-1,0,1] [-1,1]=[1,-1,-1,1]:=by kernel_rfl
 have q2:quoP [-1,0,1] [-1,1]=[1,1]:=by kernel_rfl
 have q3:remP [-1,0,1] [-1,1]=[]:=by kernel_rfl
 have q4:quoP [-1,1] [-1,0,1]=[]:=by kernel_rfl
 have q5:remP [-1,1] [-1,0,1]=[-1,1]:=by kernel_rfl
 have q6:muP [-1,1] [-1,1]=[1,-2,1]:=by kernel_rfl
 have q7:gcdP [-1,0,1] [1,-2,1]=[-1,1]:=by kernel_rfl
 have q8:frP [1,-1,-1,1]=[-1,0,1]:=by kernel_rfl
 have q9:shP [-1,0,1] 1=[0,2,1]:=by kernel_rfl
 have q10:evR [-1,0,1] 3=8:=by kernel_rfl
 have q11:deP [1,-1,-1,1]=[-1,-2,3]:=by kernel_rfl
 have q12:gcdP [1,-1,-1,1] [-1,-2,3]=[-1,1]:=by kernel_rfl
 have q13:quoP [1,-1,-1,1] [-1,1]=[-1,0,1]:=by kernel_rfl
 have sp:smL [-1,0,1]=true:=by kernel_rfl
 have sq:smL [-1,1]=true:=by kernel_rfl
 have s3:smL [1,-1,-1,1]=true:=by kernel_rfl
 have s4:smL [1,1]=true:=by kernel_rfl
 have s5:smL [0,2,1]=true:=by kernel_rfl
 have s6:smL [1,-2,1]=true:=by kernel_rfl
 have s7:smL [-1,-2,3]=true:=by kernel_rfl
 have sd:smL (gcdP [1,-1,-1,1] [-1,-2,3])=true:=by kernel_rfl
 have v1:dvB [-1,1] (dvN [-1,0,1] [-1,1]) [-1,0,1]=true:=by kernel_rfl
 have v2:dvB [-1,0,1] (dvN [-1,1] [-1,0,1]) [-1,1]=true:=by kernel_rfl
 have v3:gcB 4 (mnP [-1,0,1]) (mnP [1,-2,1])=true:=by kernel_rfl
 have v4:gcB 4 (mnP [1,-1,-1,1]) (mnP [-1,-2,3])=true:=by kernel_rfl
 have v5:dvB [-1,1] (dvN [1,-1,-1,1] [-1,1]) [1,-1,-1,1]=true:=by kernel_rfl
 have v6:shB [-1,0,1] 1=true:=by kernel_rfl
 have z1:sz 1≤1:=by rw [Qpe];omega
 have z3:sz 3≤3:=sz_int (n:=3) ⟨by omega,by omega⟩
 have z8:sz 8≤3:=sz_int (n:=8) ⟨by omega,by omega⟩
 have P:=RwR.row [-1,0,1]
 have Q:=RwR.row [-1,1]
 obtain ⟨dm,hm,gm⟩:=Qmd (K:=1) P Q (Qey sp) (Qey sq) (by omega) (by simp only [List.length_cons,List.length_nil];omega)
 rw [q1] at hm
 obtain ⟨da,db,ha,hb,gab⟩:=Qia (K:=1) P Q (by simp only [List.length_cons,List.length_nil];omega) (by simp only [List.length_cons,List.length_nil];omega) (Qey sq) (by omega) (by omega) (QoT v1)
 rw [q2] at ha
 rw [q3] at hb
 obtain ⟨dc,dd',hc,hd,gcd⟩:=Qia (K:=1) Q P (by simp only [List.length_cons,List.length_nil];omega) (by simp only [List.length_cons,List.length_nil];omega) (Qey sp) (by omega) (by omega) (QoT v2)
 rw [q4] at hc
 rw [q5] at hd
 have i1:=QjX hm of3 s3 (by simp only [List.length_cons,List.length_nil];omega)
 have i2:=QjX ha of4 s4 (by simp only [List.length_cons,List.length_nil];omega)
 have lb:=hb.len
 have lc:=hc.len
 simp only [List.length_nil] at lb lc
 have i3:=QjX hd of2 sq (by simp only [List.length_cons,List.length_nil];omega)
 obtain ⟨de,he,ge⟩:=Qmd (K:=1) Q Q (Qey sq) (Qey sq) (by omega) (by simp only [List.length_cons,List.length_nil];omega)
 rw [q6] at he
 obtain ⟨df,hf,gf⟩:=QmO (K:=1) P he (by simp only [List.length_cons,List.length_nil];omega) (by simp only [List.length_cons,List.length_nil];omega) (by omega) (by omega) (Qey sp) (Qey s6) (gcB_ok v3)
 rw [q7] at hf
 have i4:=QjX hf of2 sq (by simp only [List.length_cons,List.length_nil];omega)
 have hfree:=Qpg (K:=1) hm (by simp only [List.length_cons,List.length_nil];omega) (by omega) (by omega) (Qey s3)
 rw [q11,q12,q13,q8] at hfree
 obtain ⟨dg',hg,gg⟩:=hfree (Qey s7) (gcB_ok v4) (by simp only [List.length_cons,List.length_nil];omega) (Qey sq) (QoT v5) (Qey sp)
 have i5:=QjX hg of1 sp (by simp only [List.length_cons,List.length_nil];omega)
 have o1:=QeJ (n:=1) (d:=1) ⟨by omega,by omega⟩ ⟨by omega,by omega⟩
 have o3:=QeJ (n:=3) (d:=1) ⟨by omega,by omega⟩ ⟨by omega,by omega⟩
 have o8:=QeJ (n:=8) (d:=1) ⟨by omega,by omega⟩ ⟨by omega,by omega⟩
 have w1:Rat.divInt 1 1=1:=QfG 1
 have w3:Rat.divInt 3 1=3:=QfG 3
 have w8:Rat.divInt 8 1=8:=QfG 8
 rw [w1] at o1
 rw [w3] at o3
 rw [w8] at o8
 obtain ⟨ds,hs,gs⟩:=Qot (a:=1) (K:=1) P (by simp only [List.length_cons,List.length_nil];omega) (by omega) z1 (shB_ok v6)
 rw [q9] at hs
 have i6:=QjX hs of5 s5 (by simp only [List.length_cons,List.length_nil];omega)
 have gE:=Eval_spec (x:=3) (K:=3) P z3 (by omega) ((Qey sp).mono (by omega)) (by simp only [List.length_cons,List.length_nil];omega)
 rw [q10] at gE
 have j1:=s5_refl (a:=8) (by omega)
 have e0:((0:Int)==0)=true:=rfl
 have e00:((((0:Nat):Int))==0)=true:=rfl
 have e2:((2:Int)==2)=true:=rfl
 have f1:=of1
 have f2:=of2
 have f6:=val1
 have f7:=deg1
 clear hm ha hb hc hd he hf hg hs q1 q2 q3 q4 q5 q6 q7 q8 q9 q10 q11 q12 q13 sp sq s3 s4 s5 s6 s7 sd v1 v2 v3 v4 v5 v6 z1 z3 z8 w1 w3 w8 P Q hfree
 generalize rowR [-1,0,1]=p at *
 generalize rowR [-1,1]=q at *
 generalize (1:Rat)=r1 at *
 generalize (3:Rat)=r3 at *
 generalize (8:Rat)=r8 at *
 simp only [encR,iv,bv] at f1 f2 f6 f7 gm gab gcd i1 i2 i3 i4 i5 i6 ge gf gg gs o1 o3 o8 gE j1
 simp -implicitDefEqProofs (maxSteps:=9^8) only [QeE,f1,f2,f6,f7,gm,gab,gcd,i1,i2,i3,i4,i5,i6,ge,gf,gg,gs,o1,o3,o8,gE,j1,lb,lc,e0,e00,e2,rep_2,rep_3,rep_4,toDs,go_sem,iv,bv,reduceCtorEq,↓reduceIte,Nat.reduceEqDiff]
end Go.AM

namespace Go.AM
open Go Go.RowKit
/-! ### What the law does -/
def qD4 (q:Rat):D4:=(.v (.bool (decide (q.num<0))),dg (digs q.num.natAbs),.v (.bool false),dg (dd q.den))
theorem cRs_q:∀ p:List Rat,cRs p=(p.map qD4).flatMap c4d
 | []=>rfl
 | q :: p=>by rw [List.map_cons,List.flatMap_cons,← cRs_q p];rfl
theorem rwR_E {d:D} {p:List Rat} (h:RwR d p):RwE c4d d (p.map qD4):=by
 rcases h with ⟨rfl,rfl⟩ | rfl
 ·exact .inl ⟨rfl,rfl⟩
 ·refine .inr ?_
  unfold rowR rowE
  rw [List.length_map,cRs_q]
theorem sm_self {p:F4} (h:gF p):SmF (toD4 p) (toD4 p):=⟨_,_,p.1.2,p.2.2,_,_,_,_,rfl,rfl,Rw.row _,Rw.row _,Rw.row _,Rw.row _,by have:=h.2.2.1;omega,by have:=h.2.2.2.1;omega⟩
theorem sm_q {q:Rat} (h:sz q≤10000):SmF (toD4 (fQ q)) (qD4 q):=by
 have h1:(digs q.num.natAbs).length≤10000:=QcR h
 have h2:(dd q.den).length≤10000:=by
  have:=QcT h
  unfold nd at this
  rw [Int.natAbs_natCast] at this
  unfold dd
  split
  ·simp
  ·exact this
 exact ⟨decide (q.num<0),false,digs q.num.natAbs,dd q.den,_,_,_,_,rfl,rfl,Rw.row _,Rw.dg _,Rw.row _,Rw.dg _,by omega,by omega⟩
def QD (t:List Int):D:=dE c4d ((dcP t).1.map toD4)
def Qon (dp db:D) (Ts:List D) (i:Int):St:=mkS [(9,.d dp),(10,.d db),(14,.d (.row 4 Ts)),(15,ai i)] []
def bl_en (dp db:D) (Ts:List D):St:=mkS [(9,.d dp),(10,.d db),(14,.d (.row 4 Ts))] []
theorem st_U {l:List Int} {k:Nat} (hk:k<l.length) (x:Int):Qac k [.d (.v (.int .u8 x))] (QcO l)=some (QcO (l.set k x)):=by
 show guardO (k+1≤(QcO l).length) (some ((QcO l).take k++[A.d (.v (.int .u8 x))]++(QcO l).drop (k+1)))=_
 rw [guardO,if_pos (by rw [Qbn];omega)]
 unfold QcO
 rw [List.set_eq_take_append_cons_drop,if_pos hk,List.map_append,List.map_cons,List.map_take,List.map_drop]
 simp
theorem byt_set {l:List Int} (hl:Byt l) (k:Nat) {x:Int} (hx:0≤x∧x<256):Byt (l.set k x):=fun y hy=>by
 rcases List.mem_or_eq_of_mem_set hy with h | h
 ·exact hl y h
 ·rw [h];exact hx
section
variable [Its]
theorem QD_same {t:List Int} (hb:Byt t) (hl:t.length≤1000000000):Qah G QbJ [QD t,QD t]=some (.d (bv true)):=by
 have hE:=dE_ok (en:=c4d) ((dcP t).1.map toD4)
 by_cases h0:(dcP t).2.2=0
 ·obtain ⟨a1,a2,a3,_⟩:=dcP_ok hb hl h0
  refine QnG hE hE rfl (fun i hi=>?_) (by rw [List.length_map];omega)
  rw [List.length_map] at hi
  rw [QhT _ hi]
  refine sm_self (a1 _ ?_)
  rw [List.getD_eq_getElem?_getD,List.getElem?_eq_getElem hi]
  exact List.getElem_mem hi
 ·have e:=dcP_bad h0
  have e1:(dcP t).1=[]:=by rw [e]
  refine QnG hE hE rfl (fun i hi=>?_) (by rw [e1];simp)
  rw [e1] at hi
  exact absurd hi (by simp)
theorem bl_go {dp db T:D} {Ts:List D} {i:Nat} (hi:i<4) (hT:∀ hp,Qco   hp none (.d (.rp (Ts.drop i)))=some (.d T)) {t:List Int} (hr:RwU T t) (hb:Byt t) (hl:t.length≤1000000000) :
    X G Qa9 (Qon dp db Ts i)=some (.n,Qon dp db Ts ((i+1:Nat):Int)):=by
  have g1:=QhS hr hb hl
  have g2:=QnC hr hb hl
  have g3:=QD_same hb hl
  have e1:decide ((i:Int)<4)=true:=lt_t (by omega)
  have e2:w64 ((i:Int)+1)=((i+1:Nat):Int):=by rw [Qae (by omega) (by omega)];rfl
  have x1:∀ hp,ixaA hp 1 (i:Int) (.d (.row 4 Ts))=some (.d (.rp (Ts.drop i))):=fun hp=>by
    simp only [ixaA,guardO]
    rw [if_pos ⟨by omega,by omega⟩,Int.toNat_natCast,Nat.mul_one]
  have t1:((dcP t).2.2 != (dcP t).2.2)=false:=bne_self_eq_false _
  have t2:((dcP t).2.1 != (dcP t).2.1)=false:=bne_self_eq_false _
  rw [show dcPR t=.d (.tup [QD t,iv (dcP t).2.1,iv (dcP t).2.2]) from rfl] at g1 g2
  generalize QD t=Q at *
  generalize (dcP t).2.1=n at *
  generalize (dcP t).2.2=e at *
  generalize Ts.drop i=Tr at *
  simp only [iv] at g1 g2
  simp only [bv] at g3
  simp -implicitDefEqProofs (maxSteps:=9^8) only [Qa9,Qon,x1,hT,e1,e2,g1,g2,g3,t1,t2,ubt,Qaa,Bool.not_true,go_sem,reduceCtorEq,↓reduceIte,Nat.reduceEqDiff,iv]
theorem bl_stop {dp db:D} {Ts:List D}:X G Qa9 (Qon dp db Ts 4)=some (.x 0,bl_en dp db Ts):=by
 have e1:decide ((4:Int)<4)=false:=rfl
 simp -implicitDefEqProofs (maxSteps:=9^8) only [Qa9,Qon,bl_en,e1,Qaa,go_sem,reduceCtorEq,↓reduceIte,Nat.reduceEqDiff,iv]
theorem bl_loop {dp db T0 T1 T2 T3:D} {t0 t1 t2 t3:List Int} (r0:RwU T0 t0) (r1:RwU T1 t1) (r2:RwU T2 t2) (r3:RwU T3 t3) (b0:Byt t0) (b1:Byt t1) (b2:Byt t2) (b3:Byt t3) (l0:t0.length≤1000000000) (l1:t1.length≤1000000000) (l2:t2.length≤1000000000) (l3:t3.length≤1000000000) :
    X G (.loop Qa9) (Qon dp db [T0,T1,T2,T3] 0)=some (.x 0,bl_en dp db [T0,T1,T2,T3]):=by
  have s0:=bl_go (dp:=dp) (db:=db) (Ts:=[T0,T1,T2,T3]) (i:=0) (by omega) (fun _=>rfl) r0 b0 l0
  have s1:=bl_go (dp:=dp) (db:=db) (Ts:=[T0,T1,T2,T3]) (i:=1) (by omega) (fun _=>rfl) r1 b1 l1
  have s2:=bl_go (dp:=dp) (db:=db) (Ts:=[T0,T1,T2,T3]) (i:=2) (by omega) (fun _=>rfl) r2 b2 l2
  have s3:=bl_go (dp:=dp) (db:=db) (Ts:=[T0,T1,T2,T3]) (i:=3) (by omega) (fun _=>rfl) r3 b3 l3
  have n0:((0:Nat):Int)=0:=rfl
  have n1:((0+1:Nat):Int)=((1:Nat):Int):=rfl
  have n2:((1+1:Nat):Int)=((2:Nat):Int):=rfl
  have n3:((2+1:Nat):Int)=((3:Nat):Int):=rfl
  have n4:((3+1:Nat):Int)=4:=rfl
  rw [n0,n1] at s0
  rw [n2] at s1
  rw [n3] at s2
  rw [n4] at s3
  rw [Qag,s0,Option.bind_some,if_pos rfl,Qag,s1,Option.bind_some,if_pos rfl,Qag,s2,Option.bind_some,if_pos rfl,Qag,s3,Option.bind_some,if_pos rfl,Qag,bl_stop]
  rfl
end
end Go.AM
namespace Go.AM
open Go
theorem ixG0 (a b c d:D) (hp:Hp):ixaA hp 1 0 (.d (.row 4 [a,b,c,d]))=some (.d (.rp [a,b,c,d])):=rfl
theorem ixG1 (a b c d:D) (hp:Hp):ixaA hp 1 1 (.d (.row 4 [a,b,c,d]))=some (.d (.rp [b,c,d])):=rfl
theorem Qra (n:Nat):(1≤n+1)=True:=eq_true (by omega)
end Go.AM
namespace Go.Proofs.YthhdbchmjfdgmaaGreat.Pure
open Go Go.AM
set_option maxHeartbeats 4000000 in
theorem PolyBytes (e0:D) (l0:List Int) (hd0:Dg e0 l0) (hwf0:∀ n∈l0,(Lit.int .i64 n).wf=true) (hlen0:l0.length*8≤140737488351232) (e1:D) (l1:List Int) (hd1:RwU e1 l1) (hwf1:∀ n∈l1,(Lit.int .u8 n).wf=true) (hlen1:l1.length≤140737488351232) (a2:Int) (w2:(Lit.int .i64 a2).wf=true) (a3:Int) (w3:(Lit.int .u8 a3).wf=true):Qah G 6 [e0,e1,iv a2,uv a3]=some (.d (bv true)):=by
 obtain ⟨dp,p,hp,tp,Hp,np,gp⟩:=Qsf (rw_dg hd0) (fun n hn=>i64_wf (hwf0 n hn))
 have sp:SzL 10000 p:=Hp.sz.mono (by omega)
 have gE:=Qo3 hp (sp.mono (by omega)) (by omega)
 have gF:=QnH hp (sp.mono (by omega)) (by omega)
 have lb:=enP_len p sp
 have lb1:(enP p).length≤2000000:=by omega
 have pb:=enP_pos (p:=p) (by omega)
 have bb:=enP_byt p
 have dE0:=fun r=>dcP_en tp (sp.mono (by omega)) (by omega) r
 have gS:=Qmq (RwU.row (enP p)) (RwU.row (enP p)) (by omega)
 have ga:=QiB (n:=a2) (m:=((enP p).length:Int)) (i64_wf w2) (by omega)
 have ab:=Qn2 (n:=a2) (m:=((enP p).length:Int)) (by omega)
 obtain ⟨k,hk⟩:∃ k:Nat,arnd a2 ((enP p).length:Int)=(k:Int):=⟨(arnd a2 ((enP p).length:Int)).toNat,by omega⟩
 rw [hk] at ga ab
 have dC:=dcP_cut tp (sp.mono (by omega)) (by omega) (by omega) (k:=k) (by omega)
 have b1:=byt_wf hwf1
 have ba:=u8_wf w3
 have kl:=Qsq
 obtain ⟨m,hm⟩:∃ m,m=min l1.length 60:=⟨_,rfl⟩
 have hmi:(if (60:Int)<(l1.length:Int) then (60:Int) else (l1.length:Int))=((m:Nat):Int):=by split<;>omega
 have ml:(l1.take m).length=m:=by rw [List.length_take];omega
 have bf:=b1.take m
 have ll:=hd1.len
 -- the four texts
 obtain ⟨B,hB⟩:∃ B,B=enP p:=⟨_,rfl⟩
 rw [← hB] at gE gF lb lb1 pb bb dE0 gS ga ab dC
 obtain ⟨BC,hBC⟩:∃ BC,BC=B.map uv:=⟨_,rfl⟩
 obtain ⟨FC,hFC⟩:∃ FC,FC=(l1.take m).map uv:=⟨_,rfl⟩
 have r0:RwU (.row (B.length+m) (BC++FC)) (B++l1.take m):=.inr (by unfold rowU;rw [List.length_append,ml,List.map_append,hBC,hFC])
 have r1:RwU (.row k (BC.take k)) (B.take k):=.inr (by unfold rowU;rw [List.length_take,Nat.min_eq_left (by omega),List.map_take,hBC])
 have r2:RwU (.row B.length ((B.set k a3).map uv)) (B.set k a3):=.inr (by unfold rowU;rw [List.length_set])
 have n60:m≤60:=by omega
 have f0:=QhS r0 (bb.app bf) (by rw [List.length_append];omega)
 have f1:=QhS r1 (bb.take k) (by rw [List.length_take];omega)
 have hs0:Qah G QbJ [QD (B++l1.take m),dp]=some (.d (bv true)):=by
  have h:=dE0 (l1.take m)
  have e:(dcP (B++l1.take m)).1=p.map fQ:=by rw [h]
  refine QnG (dE_ok _) (rwR_E hp) (by rw [e];simp) (fun i hi=>?_) (by rw [e];simp;omega)
  rw [e,List.length_map,List.length_map] at hi
  rw [e,List.map_map]
  have x1:(p.map (toD4 ∘ fQ)).getD i default=toD4 (fQ (p.getD i 0)):=by
   rw [List.getD_eq_getElem?_getD,List.getD_eq_getElem?_getD,List.getElem?_map,List.getElem?_eq_getElem hi];rfl
  have x2:(p.map qD4).getD i default=qD4 (p.getD i 0):=by
   rw [List.getD_eq_getElem?_getD,List.getD_eq_getElem?_getD,List.getElem?_map,List.getElem?_eq_getElem hi];rfl
  rw [x1,x2]
  exact sm_q (sp.getD (by omega) i)
 rw [show dcPR (B++l1.take m)=.d (.tup [QD (B++l1.take m),iv (dcP (B++l1.take m)).2.1,iv (dcP (B++l1.take m)).2.2]) from rfl,dE0 (l1.take m)] at f0
 rw [show dcPR (B.take k)=.d (.tup [QD (B.take k),iv (dcP (B.take k)).2.1,iv (dcP (B.take k)).2.2]) from rfl] at f1
 dsimp only at f0
 have q0:((0:Int)==0)=true:=rfl
 have q1:((B.length:Int)==(B.length:Int))=true:=beq_self_eq_true _
 have q2:((B.length:Int)==0)=false:=Qb9 (by omega)
 have q3:((dcP (B.take k)).2.2 != 0)=true:=QeL dC
 have gl:=fun T3 (r3:RwU T3 (l1.take m))=>bl_loop (dp:=dp) (db:=.row B.length BC) r0 r1 r2 r3 (bb.app bf) (bb.take k) (byt_set bb k ba) bf (by rw [List.length_append];omega) (by rw [List.length_take];omega) (by rw [List.length_set];omega) (by omega)
 have c1:=st_U (l:=B) (k:=k) (by omega) a3
 have c2:=Qjm B
 have c3:=QeA B
 have c4:=QeA (B.set k a3)
 have c5:=fun ks=>QaN ks B
 have c6:=fun ks=>QaN ks (B.set k a3)
 have c7:=Qfz B
 have c8:=Qfz (l1.take m)
 have c9:(B.map uv).length=B.length:=List.length_map _
 have c10:((l1.take m).map uv).length=m:=by rw [List.length_map,ml]
 have c11:=Qbn B
 have u1:(B.length≤bound)=True:=eq_true (by unfold bound;omega)
 have u2:(B.length+m≤bound)=True:=eq_true (by unfold bound;omega)
 have i1:((0:Int)≤(k:Int)∧(k:Int)<(B.length:Int))=True:=eq_true ⟨by omega,by omega⟩
 have i2:((0:Int)≤(k:Int)∧(k:Int)≤(B.length:Int))=True:=eq_true ⟨by omega,by omega⟩
 rw [← hBC] at c2 c3 c7 c9
 rw [← hFC] at c8 c10
 unfold rU at gE gF
 unfold rowU at gS
 rw [← hBC] at gE gF gS
 rw [Qad (cf:=Qcz) rfl]
 simp only [iv,bv] at ga kl gS f0 f1 hs0
 have kn:=Int.toNat_natCast k
 have sBC:∀ st,src st (.d (.row B.length BC))=some (B.length,BC):=fun _=>rfl
 have w1:∀ x:Int,A.one (.d (uv x))=true:=fun _=>rfl
 generalize QD (B++l1.take m)=Q0 at *
 generalize QD (B.take k)=Q1 at *
 generalize (dcP (B.take k)).2.1=n1 at *
 generalize (dcP (B.take k)).2.2=ee at *
 generalize (B.set k a3).map uv=TC at *
 clear dE0 dC
 have z60:((60:Int)<0)=False:=by simp
 have z00:((0:Int)≤0)=True:=by simp
 have i4:((k:Int)<(B.length:Int))=True:=eq_true (by omega)
 have i5:((k:Int)≤(B.length:Int))=True:=eq_true (by omega)
 have i3:(0≤(k:Int))=True:=eq_true (by omega)
 rcases hd1 with ⟨rfl,rfl⟩ | rfl
 ·have m0:m=0:=by rw [hm];rfl
  subst m0
  have hF0:FC=[]:=hFC
  subst hF0
  have L:=gl (.z true) (.inl ⟨rfl,rfl⟩)
  clear gl
  simp only [Qon,bl_en,Nat.add_zero,List.append_nil,go_sem] at L
  simp only [Nat.add_zero,List.append_nil] at f0
  clear hm hFC r0 r1 r2 hwf0 hwf1
  simp -implicitDefEqProofs (maxSteps:=9^8) only [Qcz,gp,gE,gF,gS,ga,kl,f0,f1,hs0,L,q0,q1,q2,q3,c1,c2,c3,c4,c5,c6,c7,c8,c9,c10,c11,u1,u2,i1,i2,kn,sBC,hmi,ll,Qf8,mnV,w1,QdG,ubt,cut,src,srcS,slcA,QbF,Qo8,QgR,arrU,List.map_nil,List.length_nil,List.length_cons,List.nil_append,List.all_cons,List.all_nil,Bool.and_self,Bool.and_true,Nat.zero_add,Nat.add_zero,Nat.zero_mul,Nat.mul_one,Nat.sub_zero,List.drop_zero,Qaa,Qam,refs,Qdg,toDs,toD,allD,Bool.not_true,Bool.not_false,List.cons.injEq,go_sem,Qab,rep_0,rep_4,ixG0,ixG1,ldP,Qra,i4,i5,List.drop_succ_cons,List.cons_append,List.append_nil,z60,z00,i3,and_self,iv,bv,uv,reduceCtorEq,↓reduceIte,Nat.reduceEqDiff]
 ·have L:=gl (.row m FC) (.inr (by unfold rowU;rw [ml,hFC]))
  clear gl
  simp only [Qon,bl_en,go_sem] at L
  obtain ⟨LC,hLC⟩:∃ LC,LC=l1.map uv:=⟨_,rfl⟩
  have ht:List.take m LC=FC:=by rw [hFC,List.map_take,hLC]
  have hrw:rowU l1=.row l1.length LC:=by rw [hLC];rfl
  rw [hrw] at ll ⊢
  have i6:(0≤(m:Int))=True:=eq_true (by omega)
  have i7:((m:Int)≤(l1.length:Int))=True:=eq_true (by omega)
  have kn2:=Int.toNat_natCast m
  have c12:allD (QcO B++FC.map A.d)=some (BC++FC):=by
   have h:=QeA (B++l1.take m)
   rw [← Qed,List.map_append] at h
   rw [hFC,hBC];exact h
  have c13:∀ ks,Qdg ks (QcO B++FC.map A.d)=true:=fun ks=>by
   rw [hFC,Qed];exact QaN ks _
  clear hm hFC r0 r1 r2 hwf0 hwf1 hrw hLC ml bf
  generalize l1.length=ln at *
  simp -implicitDefEqProofs (maxSteps:=9^8) only [Qcz,gp,gE,gF,gS,ga,kl,f0,f1,hs0,L,q0,q1,q2,q3,c1,c2,c3,c4,c5,c6,c7,c8,c9,c10,c11,u1,u2,i1,i2,kn,sBC,hmi,ll,Qf8,mnV,w1,QdG,ubt,cut,src,srcS,slcA,QbF,Qo8,QgR,arrU,List.map_nil,List.length_nil,List.length_cons,List.nil_append,List.all_cons,List.all_nil,Bool.and_self,Bool.and_true,Nat.zero_add,Nat.add_zero,Nat.zero_mul,Nat.mul_one,Nat.sub_zero,List.drop_zero,Qaa,Qam,refs,Qdg,toDs,toD,allD,Bool.not_true,Bool.not_false,List.cons.injEq,go_sem,Qab,rep_0,rep_4,ixG0,ixG1,ldP,Qra,i4,i5,List.drop_succ_cons,List.cons_append,List.append_nil,z60,ht,i6,i7,kn2,c12,c13,z00,i3,and_self,iv,bv,uv,reduceCtorEq,↓reduceIte,Nat.reduceEqDiff]
end Go.Proofs.YthhdbchmjfdgmaaGreat.Pure

/- The row of PolyBytes, out of its Pure. Printed by row.py. -/
namespace Go.Proofs.YthhdbchmjfdgmaaGreat.polyBytes
open Go.ChangeShapes Go.WideShapes Go.ChangeAt Go.RowKit Go.AM
theorem own:ownKnob Tryz.prog.godebug=none:=by kernel_rfl
theorem laidOut:laidOutB Tryz.prog=true:=by kernel_rfl
set_option maxRecDepth 100000 in
theorem lifted (os:Os) (started:os.Started) (H:Type) (enc:TypeId×Value→H) :
    ReturnsInHanded {} Tryz.checked os 6 .any (Rows.polyBytesSpec.pre6 enc Tryz.prog Tryz.f6 Rows.polyBytesRow.domain false) (Rows.polyBytesSpec.post enc Tryz.prog Tryz.f6 false true false false):=by
  refine returnsInHanded_of_change_sized (C:=Tryz.checked) own started (by kernel_rfl) Tryz.func6
    (ChangeSpec.witness6 (enc:=enc) (C:=Tryz.checked) false ⟨#[],#[.slice none 0 0,.slice none 0 0,.int .i64 0,.int .u8 0],[]⟩ 8 (by kernel_rfl) (by kernel_rfl) (by kernel_rfl) (by kernel_rfl)) ?_
  intro W base args ds gs before hval0 hW hcnd hsz0 _
  have hsz:(DataW.weightsEach Tryz.prog (Tryz.f6.params.toList++Rows.polyBytesSpec.plain.varTypes Tryz.prog) (ds++gs)).all (·≤reachBytes)=true:=hsz0
  have hval:∀ (j:Nat) t v,Tryz.f6.params[j]?=some t→args[j]?=some v→Value.okWide Tryz.prog W .any base t v:=hval0
  have hW':=hW
  obtain ⟨p,q,hA0,hV,rfl,hfz,hnd⟩:=hW
  have hA:DataW.TrodAll enc Tryz.prog W 0 (fun _=>true) true Tryz.f6.params.toList args.toList ds p:=hA0
  rw [Tryz.params6] at hA hval hsz
  obtain ⟨v0,vs0,d0,ds0,p0,q0,hargs,rfl,rfl,h0,r0⟩:=trodAll_cons hA
  obtain ⟨v1,vs1,d1,ds1,p1,q1,rfl,rfl,rfl,h1,r1⟩:=trodAll_cons r0
  obtain ⟨v2,vs2,d2,ds2,p2,q2,rfl,rfl,rfl,h2,r2⟩:=trodAll_cons r1
  obtain ⟨v3,vs3,d3,ds3,p3,q3,rfl,rfl,rfl,h3,r3⟩:=trodAll_cons r2
  obtain ⟨rfl,rfl,rfl⟩:=trodAll_nil r3
  obtain rfl:args=#[v0,v1,v2,v3]:=by cases args;simp_all
  obtain ⟨rfl,rfl⟩:=trodVars_none hV
  obtain ⟨a0,len0,cap0,rfl⟩:=okWide_slice Tryz.underlying22 (hval 0 22 v0 rfl rfl)
  have k0:=h0
  have lt0:∀ x∈p0,x.block<W.heap.size:=by obtain ⟨m,hm⟩:=k0;exact DataW.trod_lt m _ _ _ hm
  obtain ⟨z0,w0,y0⟩:∃ zs,((a0=none∧len0=0∧cap0=0∧zs=[])∨∃ x,a0=some x∧len0≤cap0∧cap0≤maxLen∧zs.length=cap0∧(∀ i,i<zs.length→W.cell? (x.add i)=some (.int .i64 (zs.getD i 0)))∧∀ n∈zs,(Lit.int .i64 n).wf=true)∧len0*8≤140737488351232:=by
    obtain ⟨fuel,hf⟩:=h0
    rcases open_ints Tryz.underlying22 Tryz.underlying3 (by kernel_rfl) hf with ⟨hcs,_⟩ | ⟨x,l,c,zs,hcs,_,hl,hm,hz,hx,hcell,hwz⟩
    · simp [Value.cells] at hcs
      obtain ⟨rfl,rfl,rfl⟩:=hcs
      exact ⟨[],.inl ⟨rfl,rfl,rfl,rfl⟩,by simp⟩
    · simp [Value.cells] at hcs
      obtain ⟨rfl,rfl,rfl⟩:=hcs
      refine ⟨zs,.inr ⟨_,rfl,hl,hm,by simpa using hz,hcell,hwz⟩, ?_⟩
      simp only [Prod.mk.injEq] at hx
      have hd:=hx.1
      have z:=sized_slice hsz (j:=0) (t:=22) rfl (by rw [hd];rfl) Tryz.underlying22
      have hb:Tryz.prog.bytesOf 3=8:=by kernel_rfl
      rw [hb] at z
      have hr:reachBytes≤140737488351232:=by decide
      have hz':zs.length=cap0:=by simpa using hz
      simp only [lits,List.length_map,List.length_take,List.length_drop] at z
      omega
  obtain ⟨e0,l0,hd0,hrep0,hlen0,hwf0⟩:=arg_row w0
  obtain ⟨a1,len1,cap1,rfl⟩:=okWide_slice Tryz.underlying47 (hval 1 47 v1 rfl rfl)
  have k1:=h1
  have lt1:∀ x∈p1,x.block<W.heap.size:=by obtain ⟨m,hm⟩:=k1;exact DataW.trod_lt m _ _ _ hm
  obtain ⟨z1,w1,y1⟩:∃ zs,((a1=none∧len1=0∧cap1=0∧zs=[])∨∃ x,a1=some x∧len1≤cap1∧cap1≤maxLen∧zs.length=cap1∧(∀ i,i<zs.length→W.cell? (x.add i)=some (.int .u8 (zs.getD i 0)))∧∀ n∈zs,(Lit.int .u8 n).wf=true)∧len1≤140737488351232:=by
    obtain ⟨fuel,hf⟩:=h1
    rcases open_ints Tryz.underlying47 Tryz.underlying5 (by kernel_rfl) hf with ⟨hcs,_⟩ | ⟨x,l,c,zs,hcs,_,hl,hm,hz,hx,hcell,hwz⟩
    · simp [Value.cells] at hcs
      obtain ⟨rfl,rfl,rfl⟩:=hcs
      exact ⟨[],.inl ⟨rfl,rfl,rfl,rfl⟩,by simp⟩
    · simp [Value.cells] at hcs
      obtain ⟨rfl,rfl,rfl⟩:=hcs
      refine ⟨zs,.inr ⟨_,rfl,hl,hm,by simpa using hz,hcell,hwz⟩, ?_⟩
      simp only [Prod.mk.injEq] at hx
      have hd:=hx.1
      have z:=sized_slice hsz (j:=1) (t:=47) rfl (by rw [hd];rfl) Tryz.underlying47
      have hb:Tryz.prog.bytesOf 5=1:=by kernel_rfl
      rw [hb] at z
      have hr:reachBytes≤140737488351232:=by decide
      have hz':zs.length=cap1:=by simpa using hz
      simp only [lits,List.length_map,List.length_take,List.length_drop] at z
      omega
  obtain ⟨e1,l1,hd1,hrep1,hlen1,hwf1⟩:=arg_rowU w1
  obtain ⟨a2,rfl,rfl,rfl,w2⟩:=open_int Tryz.underlying3 (hval 2 3 v2 rfl rfl) h2
  obtain ⟨a3,rfl,rfl,rfl,w3⟩:=open_int Tryz.underlying5 (hval 3 5 v3 rfl rfl) h3
  clear hA0 hval0 hsz0 hsz
  refine (law_walk envP (f:=6) (ds:=[e0,e1,(iv a2),(uv a3)]) (vs:=[.slice a0 len0 cap0,.slice a1 len1 cap1,.int .i64 a2,.int .u8 a3]) (w:=W) (Qoq rfl W) (RepL.cons _ _ _ _ hrep0 (RepL.cons _ _ _ _ hrep1 (RepL.cons _ _ _ _ (RepD.v _) (RepL.cons _ _ _ _ (RepD.v _) RepL.nil)))) (Pure.PolyBytes e0 l0 hd0 hwf0 (by rw [hlen0];exact y0) e1 l1 hd1 hwf1 (by rw [hlen1];exact y1) a2 w2 a3 w3)).mono fun e W' ⟨he,bel⟩=>?_
  subst he
  exact ⟨_,rfl,_,_,_,[],_,[],hW',trodAll_mk1 (shut_bool Tryz.underlying4 _),(trodAll_cons_mk (Below.trod laidOut (by kernel_rfl) (of_decide_eq_true (by kernel_rfl)) k0 bel lt0) (trodAll_cons_mk (Below.trod laidOut (by kernel_rfl) (of_decide_eq_true (by kernel_rfl)) k1 bel lt1) (trodAll_cons_mk (shut_int Tryz.underlying3 w2) (trodAll_cons_mk (shut_int Tryz.underlying5 w3) trodAll_mk0)))),rfl,bel.frame _,fun h=>by cases h⟩
theorem over:Rows.polyBytesRow.holds Tryz.pinned (OpenSpec.ofChange Rows.polyBytesSpec) :=
 OpenClaim.holds_of_wide 6 Tryz.f6 rfl rfl rfl rfl rfl rfl rfl ⟨rfl,rfl,rfl,rfl,rfl⟩ rfl rfl rfl rfl rfl (by kernel_rfl) Tryz.func6 (by kernel_rfl)
  (of_decide_eq_true (by kernel_rfl)) (by unfold Func.isWrapper;first | (rw [if_pos (by decide +kernel)];kernel_rfl) | (rw [if_neg (by decide +kernel)];exact ⟨rfl,rfl⟩))
  (fun os started H enc _=>lifted os started H enc)
theorem proved:Rows.PolyBytesSaid:=over
end Go.Proofs.YthhdbchmjfdgmaaGreat.polyBytes
namespace Go.Proofs.YthhdbchmjfdgmaaGreat
theorem polyBytes_holds:Rows.PolyBytesSaid:=polyBytes.proved
end Go.Proofs.YthhdbchmjfdgmaaGreat


