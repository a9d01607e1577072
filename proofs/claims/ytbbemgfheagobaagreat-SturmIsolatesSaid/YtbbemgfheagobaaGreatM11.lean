/- Part 11 of the proof: a small machine, its soundness against the model, and what the program's functions compute on it. -/
import Derived.Test.YtbbemgfheagobaaGreatM10
import Derived.Test.YtbbemgfheagobaaGreatM9
import Derived.Test.YtbbemgfheagobaaGreatRows
import Derived.Test.YtbbemgfheagobaaGreatM5
import Derived.WalkKit
import Derived.ProofKit
import Derived.OpenShut
import Derived.ShutString
import Derived.ChangeOld
import Derived.Below
import Derived.SizedLaws
set_option linter.unusedVariables false
set_option linter.unusedSimpArgs false
/- ref07.Made, plain: its zeros; the bound of the zeros. -/
namespace Go.AM
open Go Go.RowKit
theorem bdF_nn (p:List Rat):∀ i,0≤bdF p i
 | 0=>Rat.le_refl
 | i+1=>by
  rw [bdF]
  have:=bdF_nn p i
  split<;>grind
/-! ### Made -/
theorem kZ_take:∀ (l:List Rat) (z:Rat),∀ a∈l.take (kZ l z),a<z
 | [],z,a,h=>by simp at h
 | b :: l,z,a,h=>by
  rw [kZ] at h
  by_cases k:b<z
  ·rw [if_pos k,List.take_succ_cons] at h
   rcases List.mem_cons.1 h with rfl | h
   ·exact k
   ·exact kZ_take l z a h
  ·rw [if_neg k] at h;simp at h
theorem kZ_drop:∀ (l:List Rat) (z:Rat),l.Pairwise (·<·)→∀ a∈l.drop (kZ l z),z≤a
 | [],z,_,a,h=>by simp at h
 | b :: l,z,hp,a,h=>by
  rw [kZ] at h
  by_cases k:b<z
  ·rw [if_pos k,List.drop_succ_cons] at h
   exact kZ_drop l z (List.Pairwise.of_cons hp) a h
  ·rw [if_neg k,List.drop_zero] at h
   rcases List.mem_cons.1 h with rfl | h
   ·grind
   ·have:=List.rel_of_pairwise_cons hp h
    grind
theorem kZ_at:∀ (l:List Rat) (z:Rat),l.Pairwise (·<·)→z∈l→kZ l z<l.length∧l.getD (kZ l z) 0=z
 | [],z,_,h=>by simp at h
 | b :: l,z,hp,h=>by
  rw [kZ]
  rcases List.mem_cons.1 h with rfl | h
  ·rw [if_neg Rat.lt_irrefl];exact ⟨by simp,rfl⟩
  ·have h1:=List.rel_of_pairwise_cons hp h
   rw [if_pos h1]
   obtain ⟨i1,i2⟩:=kZ_at l z (List.Pairwise.of_cons hp) h
   exact ⟨by rw [List.length_cons];omega,by rw [List.getD_cons_succ];exact i2⟩
theorem insZ_iff {zs:List Rat} {z:Rat} (u:Rat):u∈insZ zs z↔u∈zs∨u=z:=by
 unfold insZ
 by_cases h:kZ zs z<zs.length∧zs.getD (kZ zs z) 0=z
 ·rw [if_pos h]
  constructor
  ·exact .inl
  ·rintro (k | rfl)
   ·exact k
   ·obtain ⟨h1,h2⟩:=h
    rw [List.getD_eq_getElem?_getD,List.getElem?_eq_getElem h1] at h2
    have h3:zs[kZ zs u]=u:=h2
    have:=List.getElem_mem h1
    rw [h3] at this
    exact this
 ·rw [if_neg h]
  constructor
  ·intro k
   rcases List.mem_append.1 k with k | k
   ·exact .inl (List.mem_of_mem_take k)
   ·rcases List.mem_cons.1 k with k | k
    ·exact .inr k
    ·exact .inl (List.mem_of_mem_drop k)
  ·rintro (k | rfl)
   ·rw [← List.take_append_drop (kZ zs z) zs] at k
    rcases List.mem_append.1 k with k | k
    ·exact List.mem_append.2 (.inl k)
    ·exact List.mem_append.2 (.inr (List.mem_cons_of_mem _ k))
   ·exact List.mem_append.2 (.inr List.mem_cons_self)
theorem insZ_sort {zs:List Rat} {z:Rat} (hs:zs.Pairwise (·<·)):(insZ zs z).Pairwise (·<·):=by
 unfold insZ
 by_cases h:kZ zs z<zs.length∧zs.getD (kZ zs z) 0=z
 ·rw [if_pos h];exact hs
 ·rw [if_neg h]
  have hn:z ∉ zs:=fun k=>h (kZ_at zs z hs k)
  have ht:=hs
  rw [← List.take_append_drop (kZ zs z) zs] at ht
  obtain ⟨t1,t2,t3⟩:=List.pairwise_append.1 ht
  refine List.pairwise_append.2 ⟨t1,List.pairwise_cons.2 ⟨fun a ha=>?_,t2⟩,fun a ha b hb=>?_⟩
  ·have h1:=kZ_drop zs z hs a ha
   have h2:a≠z:=fun e=>hn (e ▸ List.mem_of_mem_drop ha)
   grind
  ·rcases List.mem_cons.1 hb with rfl | hb
   ·exact kZ_take zs _ a ha
   ·exact t3 a ha b hb
structure Md (s:List Rat×List Rat):Prop where
 z:∀ u,evR s.1 u=0↔u∈s.2
 o:s.2.Pairwise (·<·)
 p:∃ L:List Rat,∀ x,evR s.1 x=L.foldl (fun a z=>a*(x-z)) (2/3)
theorem Md.zero:Md (md0,[]):=by
 have h0:∀ x,evR md0 x=2/3:=fun x=>by
  have:Rat.divInt 2 3=2/3:=by decide +kernel
  unfold md0
  rw [QaB,Qb6,this]
 refine ⟨fun u=>?_,List.Pairwise.nil,⟨[],h0⟩⟩
 show evR md0 u=0↔u∈[]
 rw [h0]
 constructor
 ·intro h;grind
 ·intro h;simp at h
theorem Md.step {s:List Rat×List Rat} (M:Md s) (z:Rat):Md (mdR s z):=by
 have he:∀ x,evR (mdR s z).1 x=evR s.1 x*(x-z):=fun x=>by
  show evR (muP s.1 (Qay [-z,1])) x=_
  rw [Qa8,QaB,Qek]
 refine ⟨fun u=>?_,insZ_sort M.o, ?_⟩
 ·rw [he]
  show _↔u∈insZ s.2 z
  rw [insZ_iff,← M.z u]
  constructor
  ·intro h
   rcases Rat.mul_eq_zero.1 h with k | k
   ·exact .inl k
   ·exact .inr (by grind)
  ·rintro (h | h)
   ·rw [h];grind
   ·rw [h];grind
 ·obtain ⟨L,hL⟩:=M.p
  exact ⟨L++[z],fun x=>by rw [he,hL,List.foldl_append];rfl⟩
theorem Md.fold:∀ (L:List Int) {s:List Rat×List Rat},Md s→Md (mdF L s)
 | [],s,M=>M
 | x :: L,s,M=>Md.fold L (M.step (smR x))
theorem Qms {c:List Rat} (hc:Gd c):∀ (L:List Rat) (m:List Rat),(∀ x,evR m x=L.foldr (fun z a=>a*(x-z)) (evR c x))→Gd m
 | [],m,h=>fun f hf=>hc f (by obtain ⟨s,hs⟩:=hf;exact ⟨s,fun x=>by rw [← hs,h];rfl⟩)
 | z :: L,m,h=>by
  have hex:∃ n:List Rat,∀ x,evR n x=L.foldr (fun z a=>a*(x-z)) (evR c x):=by
   clear h
   induction L with
   | nil=>exact ⟨c,fun x=>rfl⟩
   | cons b L ih =>
    obtain ⟨n,hn⟩:=ih
    exact ⟨muP n [-b,1],fun x=>by rw [Qa8,Qek,hn];rfl⟩
  obtain ⟨n,hn⟩:=hex
  exact gd_lin (Qms hc L n hn) (z:=z) fun x=>by rw [h,hn];rfl
theorem QmQ (x e:Rat) (L:List Rat):L.foldl (fun a z=>a*(x-z)) e=L.reverse.foldr (fun z a=>a*(x-z)) e:=by
 rw [List.foldr_reverse]
theorem Qmd (x e k:Rat):∀ L:List Rat,L.foldr (fun z a=>a*(x-z)) e*k=L.foldr (fun z a=>a*(x-z)) (e*k)
 | []=>rfl
 | z :: L=>by
  rw [List.foldr_cons,List.foldr_cons,← Qmd x e k L];grind
theorem made_zrs (L:List Int) (w:Int):mdP L w≠[]∧Zrs (frP (mdP L w)) (mdZ L):=by
  have M:=Md.fold (L.take 4) Md.zero
  obtain ⟨_,tp,_⟩:=mdP_ok L w
  obtain ⟨LL,hLL⟩:=M.p
  have hz:=M.z
  have hs:=M.o
  have hev:∃ e:Rat→Rat,(∀ x,evR (mdP L w) x=evR (mdF (L.take 4) (md0,[])).1 x*e x)∧(∀ x,0<e x)∧Gd (mdP L w):=by
    unfold mdP
    by_cases h:w.tmod 2≠0
    · rw [if_pos h]
      refine ⟨fun x=>x*x+1,fun x=>?_,fun x=>by have:=Qkb x;grind, ?_⟩
      · rw [Qa8,QaB,Qar,Qar,Qb6];grind
      · refine Qms (c:=[2/3,0,2/3]) (gd_wild (e:=2/3) (by decide +kernel) (fun x=>by rw [Qar,Qar,Qb6];grind)) LL.reverse _ fun x=>?_
        rw [Qa8,QaB,hLL,QmQ,Qmd]
        congr 1
        rw [Qar,Qar,Qb6,Qar,Qar,Qb6];grind
    · rw [if_neg h]
      refine ⟨fun x=>1,fun x=>by grind,fun x=>by grind, ?_⟩
      refine Qms (c:=[2/3]) (gd_con (e:=2/3) (by decide +kernel) (fun x=>Qb6 _ _)) LL.reverse _ fun x=>?_
      rw [hLL,QmQ,Qb6]
  obtain ⟨e,he,hpos,hg⟩:=hev
  have hroot:∀ u,evR (mdP L w) u=0↔u∈mdZ L:=fun u=>by
    rw [he]
    show _↔u∈(mdF (L.take 4) (md0,[])).2
    rw [← hz u]
    have:=hpos u
    constructor
    · intro h
      rcases Rat.mul_eq_zero.1 h with k | k
      · exact k
      · grind
    · intro h;rw [h];grind
  have p0:mdP L w≠[]:=fun h0=>by
    -- more zeros than members
    have hall:∀ u,u∈mdZ L:=fun u=>(hroot u).1 (by rw [h0,QaG])
    have hfin:∀ zs:List Rat,∃ B,∀ z∈zs,z<B:=by
      intro zs
      induction zs with
      | nil=>exact ⟨0,fun z hz=>by simp at hz⟩
      | cons a l ih =>
        obtain ⟨B,hB⟩:=ih
        by_cases h:a<B
        · exact ⟨B, fun z hz => by
            rcases List.mem_cons.1 hz with rfl | hz
            · exact h
            · exact hB z hz⟩
        · refine ⟨a+1,fun z hz=>?_⟩
          rcases List.mem_cons.1 hz with rfl | hz
          · grind
          · have:=hB z hz;grind
    obtain ⟨B,hB⟩:=hfin (mdZ L)
    exact absurd (hB B (hall B)) Rat.lt_irrefl
  refine ⟨p0,fun u=>by rw [fr_root tp p0];exact hroot u,fun u v huv hf=>?_,hs⟩
  obtain ⟨z,h1,h2⟩:=hg _ (QjM tp p0) u v huv hf
  exact ⟨z,(hroot z).1 ((fr_root tp p0 z).1 h1),h2⟩
end Go.AM

/- Sizes: monic divisors of what splits; the free part of a product; sturm.Count. -/
namespace Go.AM
open Go Go.RowKit
def Smd (k:Nat) (m:List Rat):Prop:=∀ d,Trm d→Mo d→d≠[]→Dv d m→HL k k d∧d.length≤k+1
theorem Smd.mono {k l:Nat} {m:List Rat} (h:Smd k m) (hk:k≤l):Smd l m:=fun d a b c e=>⟨(h d a b c e).1.mono hk hk,by have:=(h d a b c e).2;omega⟩
theorem Smd.congr {k:Nat} {m n:List Rat} (h:Smd k m) (e:∀ x,evR n x=evR m x):Smd k n:=fun d a b c ⟨s,hs⟩=>h d a b c ⟨s,fun x=>by rw [← e,hs]⟩
theorem smd_lin {m n:List Rat} {z:Rat} {k:Nat} (h:Smd k m) (hn:∀ x,evR n x=evR m x*(x-z)) (hz:H1 1 1 z) (hk:k≤1000):Smd (k+2) n:=by
  have hBB:BB=1000000000:=rfl
  intro d td md d0 ⟨s,hs⟩
  by_cases c:evR d z=0
  · obtain ⟨s',ts',ns',_,es,ls⟩:=Qmn (QkH z) td d0 (dv_lin.2 c)
    have ed:∀ x,evR d x=evR s' x*(x-z):=fun x=>by
      have:evR d x=evR (muP s' [-z,1]) x:=by rw [← es]
      rw [this,Qa8,Qek]
    have te:=Qha s'
    have ne:=mn_ne ts' ns'
    have me:=mo_mn ts'
    have e1:d=muP (mnP s') [-z,1]:=by
      refine mo_uniq td (Qjb _ _) md (mo_mu te (QkH z) ne (by simp) me (.inr rfl)) ?_ ?_
      · obtain ⟨t,ht⟩:=dv_mn (l:=s')
        exact ⟨t,fun x=>by rw [Qa8,ht,ed,Qek];grind⟩
      · obtain ⟨t,ht⟩:=QpA ts'
        exact ⟨t,fun x=>by rw [Qa8,ed,ht,Qek];grind⟩
    have hd:Dv (mnP s') m:=(QpA ts').trans ⟨s,fun x=>by
      refine Qhf (c:=[-z,1]) (a:=m) (b:=muP s s') ⟨z+1,by rw [Qek];grind⟩ (fun x=>?_) x |>.trans (Qa8 _ _ _)
      have:=hs x
      rw [hn,ed] at this
      rw [Qek,Qa8,this];grind⟩
    obtain ⟨H,hl⟩:=h _ te me ne hd
    have F2:HL 1 1 [-z,1]:=(HL.cons hz.neg (HL.one H1.one)).mono (by omega) (by omega)
    have l1:=Qm4 (mnP s') [-z,1]
    simp only [List.length_cons,List.length_nil] at l1
    rw [e1]
    exact ⟨(H.mu F2 (by simp only [List.length_cons,List.length_nil];omega)).mono (by omega) (by omega),by omega⟩
  · suffices hd : Dv d m by
      obtain ⟨a,b⟩:=h d td md d0 hd
      exact ⟨a.mono (by omega) (by omega),by omega⟩
    have hs0:evR s z=0:=by
      have:=hs z
      rw [hn] at this
      have e:evR s z*evR d z=0:=by grind
      exact (Rat.mul_eq_zero.1 e).resolve_right c
    refine ⟨syn s z,fun x=>?_⟩
    refine Qhf (c:=[-z,1]) (a:=m) (b:=muP (syn s z) d) ⟨z+1,by rw [Qek];grind⟩ (fun x=>?_) x |>.trans (Qa8 _ _ _)
    have:=hs x
    rw [hn,Qhr s z x,hs0] at this
    rw [Qek,Qa8,this];grind
theorem smd_con {m:List Rat} {e:Rat} (e0:e≠0) (h:∀ x,evR m x=e):Smd 0 m:=by
 intro d td md d0 ⟨s,hs⟩
 have hd:Dv d [1]:=⟨scP s e⁻¹,fun x=>by
  have:=hs x
  rw [h] at this
  have:=Rat.mul_inv_cancel e e0
  rw [Qb6,QkS];grind⟩
 have hl:=QfX td Qn5 (by simp) hd
 have:=List.length_pos_iff.2 d0
 simp only [List.length_cons,List.length_nil] at hl
 rw [QkR md (by omega)]
 exact ⟨HL.one H1.one,by simp⟩
theorem wild_ev (x:Rat):evR [1,0,1] x=x*x+1:=by rw [Qar,Qar,Qb6];grind
theorem QoK:Trm [1,0,1]:=fun n h=>by
 simp only [List.length_cons,List.length_nil] at h
 have:n=2:=by omega
 subst this
 show (1:Rat)≠0
 decide
theorem smd_wild {m:List Rat} {e:Rat} (e0:e≠0) (h:∀ x,evR m x=e*(x*x+1)):Smd 2 m:=by
 intro d td md d0 ⟨s,hs⟩
 have hd:Dv d [1,0,1]:=⟨scP s e⁻¹,fun x=>by
  have:=hs x
  rw [h] at this
  have:=Rat.mul_inv_cancel e e0
  rw [wild_ev,QkS];grind⟩
 have hl:=QfX td QoK (by simp) hd
 have lp:=List.length_pos_iff.2 d0
 simp only [List.length_cons,List.length_nil] at hl
 refine ⟨?_,by omega⟩
 by_cases l1:d.length=1
 ·rw [QkR md l1]
  exact (HL.one H1.one).mono (by omega) (by omega)
 by_cases l2:d.length=2
 ·exfalso
  match d,l2 with
  | [a,b],_ =>
   have hb:b≠0:=by
    have:=td 1 (by simp)
    simpa using this
   obtain ⟨t,ht⟩:=hd
   have h1:=ht (-a*b⁻¹)
   have h2:evR [a,b] (-a*b⁻¹)=0:=by
    rw [Qar,Qb6]
    have:=Rat.mul_inv_cancel b hb
    grind
   rw [h2,wild_ev] at h1
   have:=Qkb (-a*b⁻¹)
   grind
 ·have l3:d.length=3:=by omega
  have hb:=QsW td QoK (by simp) hd (by rw [l3];rfl)
  rw [mo_uniq td QoK md (.inr rfl) hd hb]
  exact wild_H.mono (by omega) (by omega)
theorem mdF_ev:∀ (L:List Int) (s:List Rat×List Rat) (x:Rat),evR (mdF L s).1 x=(L.map smR).foldl (fun a z=>a*(x-z)) (evR s.1 x)
 | [],s,x=>rfl
 | k :: L,s,x=>by
  have he:evR (mdR s (smR k)).1 x=evR s.1 x*(x-smR k):=by
   show evR (muP s.1 (Qay [-smR k,1])) x=_
   rw [Qa8,QaB,Qek]
  have:=mdF_ev L (mdR s (smR k)) x
  rw [he] at this
  exact this
theorem QoR {c:List Rat} {k:Nat} (hc:Smd k c):∀ (L:List Rat),(∀ z∈L,H1 1 1 z)→L.length+k≤100→∀ (m:List Rat),(∀ x,evR m x=L.foldr (fun z a=>a*(x-z)) (evR c x))→Smd (k+2*L.length) m
 | [],_,_,m,h=>(hc.congr fun x=>by rw [h];rfl).mono (by omega)
 | z :: L,hL,hn,m,h=>by
  rw [List.length_cons] at hn
  have hex:∃ n:List Rat,∀ x,evR n x=L.foldr (fun z a=>a*(x-z)) (evR c x):=by
   clear h hn hL
   induction L with
   | nil=>exact ⟨c,fun x=>rfl⟩
   | cons b L ih =>
    obtain ⟨n,hn⟩:=ih
    exact ⟨muP n [-b,1],fun x=>by rw [Qa8,Qek,hn];rfl⟩
  obtain ⟨n,hn'⟩:=hex
  exact (smd_lin (QoR hc L (fun w hw=>hL w (List.mem_cons_of_mem _ hw)) (by omega) n hn') (z:=z) (fun x=>by rw [h,hn'];rfl) (hL z (List.mem_cons_self ..)) (by omega)).mono (by rw [List.length_cons];omega)
theorem made_smd (L:List Int) (w:Int):Smd 10 (mdP L w)∧Gd (mdP L w):=by
 have h0:∀ x,evR md0 x=2/3:=fun x=>by
  have:Rat.divInt 2 3=2/3:=by decide +kernel
  unfold md0
  rw [QaB,Qb6,this]
 have hev:∀ x,evR (mdF (L.take 4) (md0,[])).1 x=(((L.take 4).map smR).reverse).foldr (fun z a=>a*(x-z)) (2/3):=fun x=>by
  rw [mdF_ev,QmQ,h0]
 have l4:((L.take 4).map smR).reverse.length≤4:=by
  rw [List.length_reverse,List.length_map];exact List.length_take_le _ _
 have hH:∀ z∈((L.take 4).map smR).reverse,H1 1 1 z:=fun z hz=>by
  obtain ⟨k,_,rfl⟩:=List.mem_map.1 (List.mem_reverse.1 hz)
  exact QpC k
 generalize ((L.take 4).map smR).reverse=R at *
 unfold mdP
 by_cases h:w.tmod 2≠0
 ·rw [if_pos h]
  have e:∀ x,evR (muP (mdF (L.take 4) (md0,[])).1 (Qay [1,0,1])) x=R.foldr (fun z a=>a*(x-z)) (evR [2/3,0,2/3] x):=fun x=>by
   rw [Qa8,QaB,hev,Qmd]
   congr 1
   rw [Qar,Qar,Qb6,Qar,Qar,Qb6];grind
  have hc:∀ x,evR [(2:Rat)/3,0,2/3] x=2/3*(x*x+1):=fun x=>by rw [Qar,Qar,Qb6];grind
  exact ⟨(QoR (smd_wild (e:=2/3) (by decide +kernel) hc) R hH (by omega) _ e).mono (by omega),Qms (gd_wild (e:=2/3) (by decide +kernel) hc) R _ e⟩
 ·rw [if_neg h]
  have e:∀ x,evR (mdF (L.take 4) (md0,[])).1 x=R.foldr (fun z a=>a*(x-z)) (evR [2/3] x):=fun x=>by rw [hev,Qb6]
  exact ⟨(QoR (smd_con (e:=2/3) (by decide +kernel) (fun x=>Qb6 _ x)) R hH (by omega) _ e).mono (by omega),Qms (gd_con (e:=2/3) (by decide +kernel) (fun x=>Qb6 _ x)) R _ e⟩
section
variable {p q:List Rat}
theorem fr_small (tp:Trm p) (p0:p≠[]) (H:HL 1 1 p) (np:p.length≤6):HL 1 1 (frP p)∨(HL 1500 1500 (frP p)∧(frP p).length≤5):=by
 have ng:=QsM tp (Qdu p) (.inl p0)
 have hl:=List.length_pos_iff.2 ng
 have hp:=List.length_pos_iff.2 p0
 by_cases l1:(gcdP p (deP p)).length=1
 ·left
  have e:gcdP p (deP p)=[1]:=QkR (Qsq tp (Qdu p)) l1
  unfold frP
  rw [e,quo_17 p tp]
  exact Qne H tp
 ·right
  have d1:=QfX Qhq tp p0 (Qio tp (Qdu p)).2.1
  have Hg:=gc_sharp2 tp H (by omega) (by omega)
  have h3:3^2≤3^(gcdP p (deP p)).length:=Nat.pow_le_pow_right (by decide) (by omega)
  have h4:3^p.length≤3^6:=Nat.pow_le_pow_right (by decide) np
  have t1:(1+2)*3^p.length/3^(gcdP p (deP p)).length+1≤244:=by
   have:(1+2)*3^p.length/3^(gcdP p (deP p)).length≤2187/9:=Nat.le_trans (Nat.div_le_div_right (by omega)) (Nat.div_le_div_left h3 (by decide))
   omega
  have Hg:=Hg.mono t1 t1
  have hm:dvN p (gcdP p (deP p))≤5:=by unfold dvN;omega
  have m1:dvN p (gcdP p (deP p))*244≤5*244:=Nat.mul_le_mul_right _ hm
  have m2:dvN p (gcdP p (deP p))*(244+1)≤5*(244+1):=Nat.mul_le_mul_right _ hm
  obtain ⟨_,_,z⟩:=Ql6 (K:=20000) H Hg Qhq (by omega)
  have k1:=QeF (quoP p (gcdP p (deP p)))
  have k2:=Qj7 p (gcdP p (deP p))
  refine ⟨?_, ?_⟩
  ·unfold frP
   exact (Qne z (Qip _ _)).mono (by omega) (by omega)
  ·unfold frP
   unfold dvN at k2
   omega
end
section
variable [Its] [ItsB] {dp:D} {p q:List Rat}
end
end Go.AM

/- Explicit bounds: values, Lipschitz, Taylor; two members of a chain are not both small; short intervals have at most one zero. -/
namespace Go.AM
open Go Go.RowKit
theorem QlG {a b:Nat} (h:a≤b):cN a≤cN b:=Rat.intCast_le_intCast.2 (by omega)
theorem cN_nn (a:Nat):0≤cN a:=QlG (Nat.zero_le a)
theorem cN_add (a b:Nat):cN (a+b)=cN a+cN b:=by unfold cN;rw [Int.natCast_add,Rat.intCast_add]
theorem cN_1:cN 1=1:=rfl
theorem cN_pos {a:Nat} (h:0<a):0<cN a:=by
 have h1:=QlG (show 1≤a from h)
 rw [cN_1] at h1
 grind
def bq (n:Nat):Rat:=cN (BB^n)
theorem Qpn (a b:Nat):bq (a+b)=bq a*bq b:=by unfold bq;rw [Nat.pow_add,Qi2]
theorem QjR (n:Nat):0<bq n:=cN_pos (QsQ n)
theorem QqP {a b:Nat} (h:a≤b):bq a≤bq b:=QlG (QcX h)
theorem bq_one (n:Nat):1≤bq n:=QqP (a:=0) (Nat.zero_le n)
theorem bq_ten (n:Nat):1000*bq n≤bq (n+1):=by
 rw [Qpn]
 have h1:(1000:Rat)≤bq 1:=by
  have:=QlG (show 1000≤BB^1 by rw [Nat.pow_one];decide)
  exact this
 have:=QcH (Rat.le_of_lt (QjR n)) h1
 grind
theorem Hq.ab {D X:Nat} {q:Rat} (hD:0<D) (H:Hq D X q):Ab q (cN X):=by
 obtain ⟨m,h1,h2⟩:=H
 have d1:=QlG (show 1≤D from hD)
 rw [cN_1] at d1
 have hm:Ab (m:Rat) (cN X):=by
  refine ⟨?_,Rat.intCast_le_intCast.2 (by omega)⟩
  have:-(cN X)=(((-(X:Int)):Int):Rat):=by unfold cN;rw [Rat.intCast_neg]
  rw [this]
  exact Rat.intCast_le_intCast.2 (by omega)
 rw [← h1] at hm
 have x0:=cN_nn X
 obtain ⟨u,v⟩:=hm
 constructor
 ·refine Classical.byContradiction fun h=>?_
  have h3:=Rat.mul_nonneg (a:=-(q+cN X)) (b:=cN D-1) (by grind) (by grind)
  have h4:=QcH x0 d1
  grind
 ·refine Classical.byContradiction fun h=>?_
  have h3:=Rat.mul_nonneg (a:=q-cN X) (b:=cN D-1) (by grind) (by grind)
  have h4:=QcH x0 d1
  grind
theorem HL.ab {d h:Nat} {l:List Rat} (H:HL d h l):∀ q∈l,Ab q (bq h):=by
 obtain ⟨D,h1,_,h3⟩:=H
 exact fun q hq=>(h3 q hq).ab h1
theorem Hq.ge {D X:Nat} {q η:Rat} (hD:0<D) (H:Hq D X q) (h0:q≠0) (h:Ab q η):1≤cN D*η:=by
 obtain ⟨m,h1,h2⟩:=H
 have m0:m≠0:=fun h=>by
  rw [h] at h1
  rcases Rat.mul_eq_zero.1 h1 with k | k
  ·exact h0 k
  ·exact cN_ne hD k
 have dp:=cN_pos hD
 have h3:=QcH (Rat.le_of_lt dp) h.1
 have h4:=QcH (Rat.le_of_lt dp) h.2
 by_cases hm:1≤m
 ·have:((1:Int):Rat)≤(m:Rat):=Rat.intCast_le_intCast.2 hm
  rw [← h1] at this
  have:(1:Rat)≤q*cN D:=this
  grind
 ·have:(m:Rat)≤((-1:Int):Rat):=Rat.intCast_le_intCast.2 (by omega)
  rw [← h1] at this
  have:q*cN D≤(-1:Rat):=this
  grind
/-! Values -/
def evN (A X:Nat):Nat→Nat
 | 0=>0
 | n+1=>evN A X n*X+A
def lpN (A X:Nat):Nat→Nat
 | 0=>0
 | n+1=>evN A X n+X*lpN A X n
def taN (A X:Nat):Nat→Nat
 | 0=>0
 | n+1=>lpN A X n+X*taN A X n
theorem evN_le {A X:Nat} (hX:1≤X):∀ n,evN A X n≤n*(A*X^n)∧lpN A X n≤n*n*(A*X^n)∧taN A X n≤n*n*n*(A*X^n)
 | 0=>⟨by simp [evN],by simp [lpN],by simp [taN]⟩
 | n+1=>by
  obtain ⟨h1,h2,h3⟩:=evN_le (A:=A) hX n
  have eP:A*X^(n+1)=A*X^n*X:=by rw [Nat.pow_succ,Nat.mul_assoc]
  have hA:A≤A*X^n*X:=by
   rw [Nat.mul_assoc]
   exact Nat.le_mul_of_pos_right _ (Nat.mul_pos (Nat.pow_pos hX) hX)
  rw [eP,evN,lpN,taN]
  generalize A*X^n=P at *
  have hP:P≤P*X:=Nat.le_mul_of_pos_right _ hX
  have a1:evN A X n*X≤n*(P*X):=by have:=Nat.mul_le_mul_right X h1;rw [Nat.mul_assoc] at this;exact this
  have a2:X*lpN A X n≤n*n*(P*X):=by have:=Nat.mul_le_mul_left X h2;rw [Nat.mul_comm X (n*n*P),Nat.mul_assoc] at this;exact this
  have a3:X*taN A X n≤n*n*n*(P*X):=by have:=Nat.mul_le_mul_left X h3;rw [Nat.mul_comm X (n*n*n*P),Nat.mul_assoc] at this;exact this
  have b1:n*P≤n*(P*X):=Nat.mul_le_mul_left _ hP
  have b2:n*n*P≤n*n*(P*X):=Nat.mul_le_mul_left _ hP
  generalize P*X=Q at *
  have c1:(n+1)*Q=n*Q+Q:=Nat.succ_mul n Q
  have c2:(n+1)*(n+1)*Q=n*n*Q+2*(n*Q)+Q:=by
   rw [show (n+1)*(n+1)=n*n+2*n+1 by rw [Nat.add_mul,Nat.mul_add];omega,Nat.add_mul,Nat.add_mul,Nat.mul_assoc 2];omega
  have c3:n*n*n*Q+n*n*Q≤(n+1)*(n+1)*(n+1)*Q:=by
   rw [← Nat.add_mul]
   refine Nat.mul_le_mul_right _ ?_
   rw [show (n+1)*(n+1)=n*n+2*n+1 by rw [Nat.add_mul,Nat.mul_add];omega,Nat.mul_add,Nat.add_mul,Nat.add_mul]
   omega
  exact ⟨by omega,by omega,by omega⟩
theorem ab_mulN {x y:Rat} {a b:Nat} (h:Ab x (cN a)) (k:Ab y (cN b)):Ab (x*y) (cN (a*b)):=by rw [Qi2];exact h.mul k
theorem ab_addN {x y:Rat} {a b:Nat} (h:Ab x (cN a)) (k:Ab y (cN b)):Ab (x+y) (cN (a+b)):=by rw [cN_add];exact h.add k
theorem ev_bdN {A X:Nat}:∀ (l:List Rat),(∀ q∈l,Ab q (cN A))→∀ x,Ab x (cN X)→Ab (evR l x) (cN (evN A X l.length))
 | [],_,x,_=>by rw [QaG];exact Ab.zero
 | a :: l,h,x,hx=>by
  rw [Qar]
  exact ab_addN (ab_mulN (ev_bdN l (fun q hq=>h q (List.mem_cons_of_mem _ hq)) x hx) hx) (h a (List.mem_cons_self ..))
theorem ev_lpN {A X:Nat}:∀ (l:List Rat),(∀ q∈l,Ab q (cN A))→∀ x y,Ab x (cN X)→Ab y (cN X)→x≤y→Ab (evR l y-evR l x) (cN (lpN A X l.length)*(y-x))
 | [],_,x,y,_,_,hxy=>by rw [QaG,QaG];show Ab _ (cN 0*_);rw [show cN 0=0 from rfl,Rat.zero_mul];constructor<;>grind
 | a :: l,h,x,y,hx,hy,hxy=>by
  have hl:=fun q hq=>h q (List.mem_cons_of_mem _ hq)
  have h1:=(ev_bdN l hl y hy).mul (QrR (x:=y-x) (by grind))
  have h2:=hx.mul (ev_lpN l hl x y hx hy hxy)
  have h3:=h1.add h2
  have e1:evR (a :: l) y-evR (a :: l) x=evR l y*(y-x)+x*(evR l y-evR l x):=by rw [Qar,Qar];grind
  have e2:cN (lpN A X (a :: l).length)*(y-x)=cN (evN A X l.length)*(y-x)+cN X*(cN (lpN A X l.length)*(y-x)):=by
   rw [List.length_cons,lpN,cN_add,Qi2];grind
  rw [e1,e2];exact h3
theorem ev_taN {A X:Nat}:∀ (l:List Rat),(∀ q∈l,Ab q (cN A))→∀ x y,Ab x (cN X)→Ab y (cN X)→x≤y→Ab (evR l y-evR l x-der l x*(y-x)) (cN (taN A X l.length)*((y-x)*(y-x)))
 | [],_,x,y,_,_,hxy=>by rw [QaG,QaG,show der [] x=0 from rfl];show Ab _ (cN 0*_);rw [show cN 0=0 from rfl,Rat.zero_mul];constructor<;>grind
 | a :: l,h,x,y,hx,hy,hxy=>by
  have hl:=fun q hq=>h q (List.mem_cons_of_mem _ hq)
  have h1:=(QrR (x:=y-x) (by grind)).mul (ev_lpN l hl x y hx hy hxy)
  have h2:=hx.mul (ev_taN l hl x y hx hy hxy)
  have h3:=h1.add h2
  have ed:der (a :: l) x=evR l x+x*der l x:=rfl
  have e1:evR (a :: l) y-evR (a :: l) x-der (a :: l) x*(y-x)=(y-x)*(evR l y-evR l x)+x*(evR l y-evR l x-der l x*(y-x)):=by rw [Qar,Qar,ed];grind
  have e2:cN (taN A X (a :: l).length)*((y-x)*(y-x))=(y-x)*(cN (lpN A X l.length)*(y-x))+cN X*(cN (taN A X l.length)*((y-x)*(y-x))):=by
   rw [List.length_cons,taN,cN_add,Qi2];grind
  rw [e1,e2];exact h3
theorem evN_bq {h r n N:Nat} (hn:n≤N) (hN:N≤1000):evN (BB^h) (BB^r) n≤BB^(h+r*N+1)∧lpN (BB^h) (BB^r) n≤BB^(h+r*N+1)∧taN (BB^h) (BB^r) n≤BB^(h+r*N+1):=by
 obtain ⟨h1,h2,h3⟩:=evN_le (A:=BB^h) (X:=BB^r) (QsQ r) n
 have e:BB^h*(BB^r)^n≤BB^(h+r*N):=by
  rw [← Nat.pow_mul,← Nat.pow_add]
  exact QcX (Nat.add_le_add_left (Nat.mul_le_mul_left _ hn) _)
 have n1:n*n≤1000*1000:=Nat.mul_le_mul (by omega) (by omega)
 have n2:n*n*n≤1000*1000*1000:=Nat.mul_le_mul n1 (by omega)
 have e1:BB^(h+r*N+1)=1000000000*BB^(h+r*N):=by rw [Nat.pow_succ,Nat.mul_comm];rfl
 rw [e1]
 exact ⟨Nat.le_trans h1 (Nat.mul_le_mul (by omega) e),Nat.le_trans h2 (Nat.mul_le_mul (by omega) e),Nat.le_trans h3 (Nat.mul_le_mul (by omega) e)⟩
section
variable {l:List Rat} {d h r N:Nat}
theorem evB (H:HL d h l) (hn:l.length≤N) (hN:N≤1000) {x:Rat} (hx:Ab x (bq r)):Ab (evR l x) (bq (h+r*N+1)) :=
 (ev_bdN l H.ab x hx).mono (QlG (evN_bq hn hN).1)
theorem lpB (H:HL d h l) (hn:l.length≤N) (hN:N≤1000) {x y:Rat} (hx:Ab x (bq r)) (hy:Ab y (bq r)) (hxy:x≤y):Ab (evR l y-evR l x) (bq (h+r*N+1)*(y-x)) :=
 (ev_lpN l H.ab x y hx hy hxy).mono (Rat.mul_le_mul_of_nonneg_right (QlG (evN_bq hn hN).2.1) (by grind))
theorem taB (H:HL d h l) (hn:l.length≤N) (hN:N≤1000) {x y:Rat} (hx:Ab x (bq r)) (hy:Ab y (bq r)) (hxy:x≤y):Ab (evR l y-evR l x-der l x*(y-x)) (bq (h+r*N+1)*((y-x)*(y-x))) :=
 (ev_taN l H.ab x y hx hy hxy).mono (Rat.mul_le_mul_of_nonneg_right (QlG (evN_bq hn hN).2.2) (by have:=Qkb (y-x);exact this))
end
theorem ns {r N K:Nat} (hN:N≤1000):∀ (n s κ:Nat) (a b:List Rat),HL s s a→HL s s b→Trm b→b.length<n→a.length≤N→b.length≤N→(s+1)*(dvN a b+1)≤κ→κ*3^b.length≤K→StOk a (chL n a b)→∀ x η E,Ab x (bq r)→0≤η→Ab (evR a x) η→Ab (evR b x) η→E+κ=K+κ*3^b.length+b.length*(r*N+3)→1≤bq E*η
 | 0,_,_,_,b,_,_,_,h,_,_,_,_,_,_,_,_,_,_,_,_,_=>by omega
 | n+1,s,κ,a,b,Ha,Hb,tb,hn,na,nb,hκ,hK,hS,x,η,E,hx,h0,ha,hb,hE=>by
  have h3:1≤3^b.length:=Nat.one_le_pow _ _ (by decide)
  have hs0:s+1≤κ:=Nat.le_trans (Nat.le_mul_of_pos_right (s+1) (by omega)) hκ
  have hs:s+1≤K:=Nat.le_trans hs0 (Nat.le_trans (Nat.le_mul_of_pos_right _ h3) hK)
  have bqn:=fun k=>Rat.le_of_lt (QjR k)
  by_cases hb0:b=[]
  ·subst hb0
   rw [chL,if_pos rfl] at hS
   obtain ⟨e,e0,he⟩:=hS
   rw [he] at ha
   have hmem:∃ D,0<D∧D≤BB^s∧Hq D (BB^s) e:=by
    have hal:Qay a=Qay [e]:=Qc4 (QaO _) (QaO _) fun y=>by rw [QaB,QaB,he,Qb6]
    have h1:Qay [e]=[e]:=trim_of (fun m hm=>by
     simp only [List.length_cons,List.length_nil] at hm
     have:m=0:=by omega
     subst this
     exact e0)
    rw [h1] at hal
    obtain ⟨D,d1,d2,d3⟩:=Ha.trim
    exact ⟨D,d1,d2,d3 e (by rw [hal];simp)⟩
   obtain ⟨D,d1,d2,d3⟩:=hmem
   have h4:=d3.ge d1 e0 ha
   simp only [List.length_nil,Nat.pow_zero,Nat.mul_one,Nat.zero_mul,Nat.add_zero] at hE
   have h5:=Rat.mul_le_mul_of_nonneg_right (QlG (Nat.le_trans d2 (QcX (show s≤E by omega)))) h0
   have h6:(1:Rat)≤bq E*η:=by unfold bq;grind
   exact h6
  ·have hlb:0<b.length:=List.length_pos_iff.2 hb0
   rw [chL,if_neg hb0] at hS
   obtain ⟨q1,q2,_,_⟩:=Qjk (p:=a) tb hb0
   have hr:=Qpm (remP a b) (-1)
   have he:(s+1)*(dvN a b+1)=s*dvN a b+dvN a b+s+1:=by rw [Nat.mul_add,Nat.add_mul,Nat.mul_one,Nat.one_mul];omega
   have he2:dvN a b*(s+1)=s*dvN a b+dvN a b:=by rw [Nat.mul_add,Nat.mul_one,Nat.mul_comm]
   have he3:dvN a b*s=s*dvN a b:=Nat.mul_comm _ _
   obtain ⟨_,g2,gq⟩:=Ql6 (K:=3*κ) Ha Hb tb (by rw [he2,he3];omega)
   have g3:=sc_HL g2
   have e1:s+dvN a b*(s+1)+1=(s+1)*(dvN a b+1):=by omega
   have ql:=Qj7 a b
   have qd:dvN a b≤N:=by unfold dvN;omega
   have Q:=evB (gq.mono (Nat.le_refl _) (show s+dvN a b*(s+1)+s≤2*κ by omega)) (show (quoP a b).length≤N by omega) hN hx
   have hc:Ab (evR (scP (remP a b) (-1)) x) (bq (2*κ+r*N+2)*η):=by
    have e:evR (scP (remP a b) (-1)) x=evR (quoP a b) x*evR b x+-(evR a x):=by rw [QkS,q1];grind
    rw [e]
    have hna:Ab (-(evR a x)) η:=⟨by have:=ha.2;grind,by have:=ha.1;grind⟩
    refine ((Q.mul hb).add hna).mono ?_
    have h7:=bq_ten (2*κ+r*N+1)
    have h8:=bq_one (2*κ+r*N+1)
    have h9:=Rat.mul_le_mul_of_nonneg_right h7 h0
    have h10:=Rat.mul_le_mul_of_nonneg_right h8 h0
    have h11:=Rat.mul_nonneg (bqn (2*κ+r*N+1)) h0
    grind
   have hb':Ab (evR b x) (bq (2*κ+r*N+2)*η):=hb.mono (by
    have:=Rat.mul_le_mul_of_nonneg_right (bq_one (2*κ+r*N+2)) h0
    grind)
   have tc:Trm (scP (remP a b) (-1)):=Qr1 _ _
   have lt:(scP (remP a b) (-1)).length<b.length:=by omega
   have dv':dvN b (scP (remP a b) (-1))=b.length+1-(scP (remP a b) (-1)).length:=by unfold dvN;omega
   generalize scP (remP a b) (-1)=c at *
   obtain ⟨k,hk⟩:∃ k,b.length=c.length+k:=⟨b.length-c.length,by omega⟩
   have hk3:dvN b c+1≤3^k:=by
    have:=Ql0 (a:=0) (b:=k) (by omega)
    rw [dv',hk]
    have t:∀ m,m+2≤3^m∨m=0:=fun m=>by
     induction m with
     | zero=>exact .inr rfl
     | succ m ih =>
      left
      rw [Nat.pow_succ]
      rcases ih with ih | ih
      ·omega
      ·subst ih;decide
    rcases t k with t | t<;>omega
   have k3:3≤3^k:=by
    have:=Nat.pow_le_pow_right (n:=3) (by decide) (show 1≤k by omega)
    omega
   have hκ':(s+dvN a b*(s+1)+1)*(dvN b c+1)≤κ*3^k:=by
    rw [e1]
    exact Nat.mul_le_mul hκ hk3
   have eK:κ*3^k*3^c.length=κ*3^b.length:=by rw [Nat.mul_assoc,← Nat.pow_add,hk,Nat.add_comm]
   have hκ3:κ*3≤κ*3^k:=Nat.mul_le_mul_left _ k3
   have hκK:κ*3^k≤κ*3^b.length:=Nat.mul_le_mul_left _ (Nat.pow_le_pow_right (by decide) (by omega))
   have hm:c.length*(r*N+3)+(r*N+3)≤b.length*(r*N+3):=by
    rw [← Nat.succ_mul]
    exact Nat.mul_le_mul_right _ lt
   obtain ⟨E',hE'⟩:∃ E',E'+κ*3^k=K+κ*3^b.length+c.length*(r*N+3):=⟨K+κ*3^b.length+c.length*(r*N+3)-κ*3^k,by omega⟩
   have ih:=ns (r:=r) (N:=N) (K:=K) hN n (s+dvN a b*(s+1)) (κ*3^k) b c (Hb.mono (by omega) (by omega)) (g3.mono (by omega) (by omega)) tc (by omega) nb (by omega) hκ' (by rw [eK];exact hK) hS.2 x _ E' hx (Rat.mul_nonneg (bqn _) h0) hb' hc (by rw [eK];exact hE')
   have h12:bq E'*bq (2*κ+r*N+2)≤bq E:=by
    rw [← Qpn]
    exact QqP (by omega)
   have h13:=Rat.mul_le_mul_of_nonneg_right h12 h0
   grind
def sepZ (s N K r:Nat):Nat:=2*K+N*(r*N+3)+s+r*N+5
section
variable {p:List Rat} {s N K r:Nat}
theorem cnt_small (tp:Trm p) (p0:p≠[]) (H:HL s s (frP p)) (hN:(frP p).length≤N) (N9:N≤40) (hK:(s+2)*3^N≤K) {x y:Rat} (hx:Ab x (bq r)) (hy:Ab y (bq r)) (hxy:x≤y) (hd:(y-x)*bq (sepZ s N K r)≤1):chg (chP p) x≤chg (chP p) y+1:=by
  have hBB:BB=1000000000:=rfl
  have nd:=QkO (QhZ p)
  have pl:=List.length_pos_iff.2 p0
  have fl:=QfX (QhZ p) tp p0 (QjM tp p0)
  have fpos:=List.length_pos_iff.2 (Qqh tp p0)
  have Hd:=H.de (by omega)
  have tf:=QhZ p
  have ok:=chP_ok tp p0
  -- not both small
  obtain ⟨M,hM⟩:∃ M,M=2*K+N*(r*N+3):=⟨_,rfl⟩
  have NS:∀ η,0≤η→Ab (evR (frP p) x) η→Ab (evR (deP (frP p)) x) η→1≤bq M*η:=fun η h0 h1 h2=>by
    have e3:dvN (frP p) (deP (frP p))+1=3:=by unfold dvN;omega
    have h3:(s+2)*3*3^(deP (frP p)).length≤K:=by
      refine Nat.le_trans ?_ hK
      rw [Nat.mul_assoc]
      refine Nat.mul_le_mul_left _ ?_
      have:3*3^(deP (frP p)).length=3^(frP p).length:=by
        rw [nd,show (frP p).length=((frP p).length-1)+1 by omega,Nat.pow_succ,Nat.add_sub_cancel,Nat.mul_comm]
      rw [this]
      exact Nat.pow_le_pow_right (by decide) hN
    have hm:(deP (frP p)).length*(r*N+3)≤N*(r*N+3):=Nat.mul_le_mul_right _ (by omega)
    have h4:(s+2)*3≤(s+2)*3*3^(deP (frP p)).length:=Nat.le_mul_of_pos_right _ (Nat.pow_pos (by decide))
    have:=ns (r:=r) (N:=N) (K:=K) (by omega) p.length (s+1) ((s+2)*3) (frP p) (deP (frP p)) (H.mono (by omega) (by omega)) (Hd.mono (by omega) (by omega)) (Qdu _) (by omega) hN (by omega) (by rw [e3];exact Nat.le_refl _) h3 ok x η (K+(s+2)*3*3^(deP (frP p)).length+(deP (frP p)).length*(r*N+3)-(s+2)*3) hx h0 h1 h2 (by omega)
    have h5:bq (K+(s+2)*3*3^(deP (frP p)).length+(deP (frP p)).length*(r*N+3)-(s+2)*3)≤bq M:=QqP (by rw [hM];omega)
    have:=Rat.mul_le_mul_of_nonneg_right h5 h0
    grind
  clear ok
  -- the sizes
  obtain ⟨W,hW⟩:∃ W,W=bq (s+1+r*N+1):=⟨_,rfl⟩
  have W0:0<W:=by rw [hW];exact QjR _
  have Lf:∀ u v,Ab u (bq r)→Ab v (bq r)→u≤v→Ab (evR (frP p) v-evR (frP p) u) (W*(v-u)):=fun u v a b c=>by
    rw [hW];exact lpB (H.mono (Nat.le_refl _) (show s≤s+1 by omega)) hN (by omega) a b c
  have Ld:∀ u v,Ab u (bq r)→Ab v (bq r)→u≤v→Ab (evR (deP (frP p)) v-evR (deP (frP p)) u) (W*(v-u)):=fun u v a b c=>by
    rw [hW];exact lpB Hd (by omega) (by omega) a b c
  have Tf:∀ u v,Ab u (bq r)→Ab v (bq r)→u≤v→Ab (evR (frP p) v-evR (frP p) u-evR (deP (frP p)) u*(v-u)) (W*((v-u)*(v-u))):=fun u v a b c=>by
    rw [hW,QlE];exact taB (H.mono (Nat.le_refl _) (show s≤s+1 by omega)) hN (by omega) a b c
  obtain ⟨η,hη⟩:∃ η,η=(bq (M+1))⁻¹:=⟨_,rfl⟩
  have e1:bq (M+1)*η=1:=by rw [hη];exact Rat.mul_inv_cancel _ (by have:=QjR (M+1);grind)
  have η0:0<η:=by rw [hη];exact Rat.inv_pos.2 (QjR _)
  have hMη:bq M*η<1:=by
    have h1:=Rat.mul_le_mul_of_nonneg_right (bq_ten M) (Rat.le_of_lt η0)
    rw [e1] at h1
    have:=Rat.mul_pos (QjR M) η0
    grind
  have hWe:W*(y-x)*4≤η:=by
    have e2:bq (sepZ s N K r)=bq (M+1)*W*bq 2:=by
      rw [hW,← Qpn,← Qpn]
      congr 1
      unfold sepZ
      omega
    rw [e2] at hd
    have h1:=Rat.mul_le_mul_of_nonneg_left hd (Rat.le_of_lt η0)
    have h2:η*((y-x)*(bq (M+1)*W*bq 2))=bq (M+1)*η*(W*(y-x)*bq 2):=by grind
    rw [h2,e1] at h1
    have h3:(4:Rat)≤bq 2:=by
      have:=QlG (show 4≤BB^2 by decide)
      exact this
    have h4:=QcH (Rat.mul_nonneg (Rat.le_of_lt W0) (show 0≤y-x by grind)) h3
    grind
  have hin:∀ u,x≤u→u≤y→Ab u (bq r):=fun u a b=>⟨by have:=hx.1;grind,by have:=hy.2;grind⟩
  have hWu:∀ u,x≤u→u≤y→W*(u-x)*4≤η:=fun u a b=>by
    have:=QcH (Rat.le_of_lt W0) (show u-x≤y-x by grind)
    grind
  by_cases c1:Ab (evR (frP p) x) η
  · by_cases c2:Ab (evR (deP (frP p)) x) η
    · have:=NS η (Rat.le_of_lt η0) c1 c2
      grind
    · have hsd : ∃ t : Rat, (t = 1 ∨ t = -1) ∧ η < t * evR (deP (frP p)) x := by
        by_cases h:evR (deP (frP p)) x≤η
        · refine ⟨-1,.inr rfl, ?_⟩
          have:¬ -η≤evR (deP (frP p)) x:=fun h2=>c2 ⟨h2,h⟩
          grind
        · exact ⟨1,.inl rfl,by grind⟩
      obtain ⟨t,ht,hg⟩:=hsd
      have mono:∀ u v,x≤u→u<v→v≤y→t*evR (frP p) u<t*evR (frP p) v:=fun u v h1 h2 h3=>by
        have a1:=Ld x u hx (hin u h1 (by grind)) h1
        have a2:=Tf u v (hin u h1 (by grind)) (hin v (by grind) h3) (by grind)
        have a3:=hWu u h1 (by grind)
        have a4:=hWu v (by grind) h3
        have w1:W*(v-u)*4≤η:=by
          have:=QcH (Rat.le_of_lt W0) (show v-u≤v-x by grind)
          grind
        have w2:=Rat.mul_le_mul_of_nonneg_right w1 (show 0≤v-u by grind)
        have b1:η*(3/4)≤t*evR (deP (frP p)) u:=by
          rcases ht with rfl | rfl
          · have:=a1.1;grind
          · have:=a1.2;grind
        have b2:=Rat.mul_le_mul_of_nonneg_right b1 (show 0≤v-u by grind)
        have b3:=Rat.mul_pos η0 (show 0<v-u by grind)
        generalize evR (frP p) u=fu at *
        generalize evR (frP p) v=fv at *
        generalize evR (deP (frP p)) u=du at *
        rcases ht with rfl | rfl
        · have:=a2.1;grind
        · have:=a2.2;grind
      have:=chg_mono tp p0 hxy ht mono
      have i1:(if t*evR (frP p) x<0 then 1 else 0:Nat)≤1:=by split<;>omega
      omega
  · have key : ∀ u, x ≤ u → u ≤ y → sgQ (evR (frP p) u) = sgQ (evR (frP p) x) ∧ evR (frP p) x ≠ 0 := fun u a b =>
      QjD (Rat.le_of_lt η0) c1 ((Lf x u hx (hin u a b) a).mono (by have:=hWu u a b;grind))
    have:=chg_const tp p0 hxy fun u v a b c=>by
      have k1:=key u a (by grind)
      have k2:=key v (by grind) c
      refine QsL (k1.1.trans k2.1.symm) fun h0=>?_
      rw [h0,sgQ_0] at k2
      exact Qpq k2.2 k2.1.symm
    omega
theorem chg_anti (tp:Trm p) (p0:p≠[]) {x y:Rat} (hxy:x≤y):chg (chP p) y≤chg (chP p) x:=by
 refine QmY (P:=fun x y=>chg (chP p) y≤chg (chP p) x) (fun x y z a b h k=>by omega) (fun R=>?_) hxy
 obtain ⟨δ,h0,h⟩:=lcl_ch R tp p0
 refine ⟨δ,h0,fun x y hx hy hxy hd=>?_⟩
 rcases (h x y hx hy hxy hd).cases hxy with e | ⟨e,_⟩<;>omega
end
end Go.AM

/- The tree of sturm.zeros: it ends, and what it yields. -/
namespace Go.AM
open Go Go.RowKit
def Gp (D j r:Nat) (x:Rat):Prop:=Ab x (bq r)∧∃ m:Int,x*cN (D*2^j)=(m:Rat)
theorem Gp.up {D j r:Nat} {x:Rat} (h:Gp D j r x):Gp D (j+1) r x:=by
 obtain ⟨h1,m,h2⟩:=h
 refine ⟨h1,m*2, ?_⟩
 rw [Nat.pow_succ,← Nat.mul_assoc,Qi2,← Rat.mul_assoc,h2,Rat.intCast_mul];rfl
theorem Gp.ups {D r:Nat} {x:Rat} {i j:Nat} (h:Gp D i r x) (hij:i≤j):Gp D j r x:=by
 obtain ⟨k,rfl⟩:∃ k,j=i+k:=⟨j-i,by omega⟩
 clear hij
 induction k with
 | zero=>exact h
 | succ k ih=>exact ih.up
theorem mid_eq (x y:Rat):mid x y=(x+y)*(1/2):=by
 unfold mid
 rw [Rat.divInt_eq_div];rfl
theorem Gp.mid {D j r:Nat} {x y:Rat} (h:Gp D j r x) (k:Gp D j r y):Gp D (j+1) r (mid x y):=by
 obtain ⟨h1,m,h2⟩:=h
 obtain ⟨k1,n,k2⟩:=k
 refine ⟨?_,m+n, ?_⟩
 ·rw [mid_eq]
  have:=h1.1;have:=h1.2;have:=k1.1;have:=k1.2
  constructor<;>grind
 ·have e:cN (D*2^(j+1))=cN (D*2^j)*2:=by rw [Nat.pow_succ,← Nat.mul_assoc,Qi2];rfl
  rw [mid_eq,e,Rat.intCast_add,← h2,← k2]
  generalize cN (D*2^j)=c
  grind
theorem Gp.sz {D j r d t:Nat} {x:Rat} (h:Gp D j r x) (hD:0<D) (hd:D≤BB^d) (ht:2^j≤BB^t):sz x≤r+d+t+1:=by
 obtain ⟨h1,m,h2⟩:=h
 have p2:0<2^j:=Nat.pow_pos (by decide)
 have hp:=Nat.mul_pos hD p2
 have hle:D*2^j≤BB^(d+t):=by rw [Nat.pow_add];exact Nat.mul_le_mul hd ht
 have hm:m.natAbs≤BB^(r+(d+t)):=by
  have c0:=cN_pos hp
  have a1:=QcH (Rat.le_of_lt c0) h1.1
  have a2:=QcH (Rat.le_of_lt c0) h1.2
  have a3:=QcH (Rat.le_of_lt (QjR r)) (QlG hle)
  have e3:bq r*cN (BB^(d+t))=(((BB^(r+(d+t)):Nat):Int):Rat):=by
   show cN (BB^r)*cN (BB^(d+t))=cN (BB^(r+(d+t)))
   rw [← Qi2,← Nat.pow_add]
  have b1:(m:Rat)≤(((BB^(r+(d+t)):Nat):Int):Rat):=by rw [← h2,← e3];grind
  have b2:(((-(BB^(r+(d+t)):Nat):Int)):Rat)≤(m:Rat):=by rw [Rat.intCast_neg,← h2,← e3];grind
  have c1:=Rat.intCast_le_intCast.1 b1
  have c2:=Rat.intCast_le_intCast.1 b2
  omega
 have:=Hq.sz (D:=D*2^j) (X:=BB^(r+(d+t))) (d:=d+t) (h:=r+(d+t)) (q:=x) hp hle (Nat.le_refl _) ⟨m,h2,hm⟩
 omega
structure Iso (ps:List (List Rat)) (D J r:Nat) (x y:Rat) (R:List (Rat×Rat)):Prop where
 c:∀ q∈R,cnt ps q.1 q.2=1∧x≤q.1∧q.1<q.2∧q.2≤y∧Gp D J r q.1∧Gp D J r q.2
 o:R.Pairwise fun a b=>a.2≤b.1
 n:(R.length:Int)=cnt ps x y
section
variable {p:List Rat} {s N K r:Nat}
theorem Qp8 {ps:List (List Rat)} {x y:Rat} (h:x<y):cnt ps x y=(chg ps x:Int)-(chg ps y:Int):=if_neg (by grind)
theorem iso_tree (tp:Trm p) (p0:p≠[]) (H:HL s s (frP p)) (hN:(frP p).length≤N) (N9:N≤40) (hK:(s+2)*3^N≤K) {D J d t KK:Nat} (hD:0<D) (hDd:D≤BB^d) (ht:2^J≤BB^t) (hZ:r+d+t+1≤KK) :
    ∀ (k j:Nat) (x y:Rat),j+k≤J→Gp D j r x→Gp D j r y→x<y→(y-x)*bq (sepZ s N K r)≤cN (2^k)→∃ R,wtZ KK (chP p) (k+1) (x,y)=some R∧Iso (chP p) D J r x y R:=by
  intro k
  induction k with
  | zero =>
    intro j x y hj hx hy hxy hw
    have a1:=cnt_small tp p0 H hN N9 hK hx.1 hy.1 (Rat.le_of_lt hxy) (by rw [Nat.pow_zero,cN_1] at hw;exact hw)
    have a2:=chg_anti tp p0 (Rat.le_of_lt hxy)
    have ec:=Qp8 (ps:=chP p) hxy
    have ht':2^j≤BB^t:=Nat.le_trans (Nat.pow_le_pow_right (by decide) (by omega)) ht
    have z1:=hx.sz hD hDd ht'
    have z2:=hy.sz hD hDd ht'
    have hz:sz x≤KK∧sz y≤KK:=⟨by omega,by omega⟩
    rw [wtZ,if_pos hz]
    by_cases c0:cnt (chP p) x y=0
    · exact ⟨[],if_pos c0,⟨fun q hq=>by simp at hq,List.Pairwise.nil,by rw [c0];rfl⟩⟩
    · have c1:cnt (chP p) x y=1:=by omega
      refine ⟨[(x,y)],by rw [if_neg c0,if_pos c1],⟨fun q hq=>?_,by simp,by rw [c1];rfl⟩⟩
      rw [List.mem_singleton.1 hq]
      exact ⟨c1,Rat.le_refl,hxy,Rat.le_refl,hx.ups (by omega),hy.ups (by omega)⟩
  | succ k ih =>
    intro j x y hj hx hy hxy hw
    have ec:=Qp8 (ps:=chP p) hxy
    have ht':2^j≤BB^t:=Nat.le_trans (Nat.pow_le_pow_right (by decide) (by omega)) ht
    have z1:=hx.sz hD hDd ht'
    have z2:=hy.sz hD hDd ht'
    have hz:sz x≤KK∧sz y≤KK:=⟨by omega,by omega⟩
    rw [wtZ,if_pos hz]
    by_cases c0:cnt (chP p) x y=0
    · exact ⟨[],if_pos c0,⟨fun q hq=>by simp at hq,List.Pairwise.nil,by rw [c0];rfl⟩⟩
    · by_cases c1:cnt (chP p) x y=1
      · refine ⟨[(x,y)],by rw [if_neg c0,if_pos c1],⟨fun q hq=>?_,by simp,by rw [c1];rfl⟩⟩
        rw [List.mem_singleton.1 hq]
        exact ⟨c1,Rat.le_refl,hxy,Rat.le_refl,hx.ups (by omega),hy.ups (by omega)⟩
      · have hm:=hx.mid hy
        have em:=mid_eq x y
        have l1:x<mid x y:=by grind
        have l2:mid x y<y:=by grind
        have e2:cN (2^(k+1))=cN (2^k)*2:=by rw [Nat.pow_succ,Qi2];rfl
        rw [e2] at hw
        obtain ⟨R1,r1,I1⟩:=ih (j+1) x (mid x y) (by omega) hx.up hm l1 (by
          have:mid x y-x=(y-x)*(1/2):=by grind
          rw [this];grind)
        obtain ⟨R2,r2,I2⟩:=ih (j+1) (mid x y) y (by omega) hm hy.up l2 (by
          have:y-mid x y=(y-x)*(1/2):=by grind
          rw [this];grind)
        refine ⟨R1++R2, ?_,⟨fun q hq=>?_, ?_, ?_⟩⟩
        · rw [if_neg c0,if_neg c1,r1,Option.bind_some,r2];rfl
        · rcases List.mem_append.1 hq with h | h
          · obtain ⟨a,b,c,d,e,f⟩:=I1.c q h
            exact ⟨a,b,c,by grind,e,f⟩
          · obtain ⟨a,b,c,d,e,f⟩:=I2.c q h
            exact ⟨a,by grind,c,d,e,f⟩
        · rw [List.pairwise_append]
          refine ⟨I1.o,I2.o,fun a ha b hb=>?_⟩
          have:=(I1.c a ha).2.2.2.1
          have:=(I2.c b hb).2.1
          grind
        · have n1:=I1.n
          have n2:=I2.n
          have e3:=Qp8 (ps:=chP p) l1
          have e4:=Qp8 (ps:=chP p) l2
          rw [List.length_append]
          omega
theorem two30 (n:Nat):BB^n≤2^(30*n):=by
 rw [Nat.pow_mul]
 exact Nat.pow_le_pow_left (by decide) n
theorem two29 (n:Nat):2^(29*n)≤BB^n:=by
 rw [Nat.pow_mul]
 exact Nat.pow_le_pow_left (by decide) n
theorem Hq.self (x:Rat):x*cN x.den=(x.num:Rat):=by
 have h:=Hq.div (n:=x.num) (d:=(x.den:Int)) (by have:=x.den_pos;omega)
 rw [Rat.num_divInt_den,Int.natAbs_natCast] at h
 obtain ⟨m,h1,_⟩:=h
 have e:(m:Rat)=(x.num:Rat):=by
  have h2:x*cN x.den=x.num:=by
   have h3:=Rat.num_divInt_den x
   rw [Rat.divInt_eq_div] at h3
   have h4:=Rat.div_mul_cancel (a:=(x.num:Rat)) (cN_ne x.den_pos)
   have h5:(((x.den:Nat):Int):Rat)=cN x.den:=rfl
   rw [h5] at h3
   rw [h3] at h4
   exact h4
  rw [← h1,h2]
 rw [h1,e]
theorem ab_sz {x:Rat} {k:Nat} (h:sz x≤k):Ab x (bq k):=by
 have h1:nd x.num≤k:=Nat.le_trans (QcG (Nat.le_refl _)) h
 have h2:x.num.natAbs≤BB^k:=Nat.le_trans (Nat.le_of_lt (Qc6 x.num)) (QcX h1)
 exact Hq.ab (D:=x.den) x.den_pos ⟨x.num,Hq.self x,h2⟩
end
end Go.AM

/- sturm.Isolate, Halve, both Counts at polynomials whose sizes are known. -/
namespace Go.AM
open Go Go.RowKit
theorem Qsj:∀ (r:List (Rat×Rat)) (j:Nat),(cAs r).drop (j*8)=cAs (r.drop j)
 | r,0=>by simp
 | [],j+1=>by simp [cAs]
 | l :: r,j+1=>by
  have e:cAs (l :: r)=c2R l++cAs r:=rfl
  have n8:(c2R l).length=8:=rfl
  rw [e,List.drop_append,n8,List.drop_of_length_le (by rw [n8];omega),List.nil_append,show (j+1)*8-8=j*8 by omega,Qsj r j,List.drop_succ_cons]
theorem rA_at {r:List (Rat×Rat)} {k:Nat} (hk:k<r.length):∃ X:List D,(∀ h,ixaA h 8 (k:Int) (.d (QiW r))=some (.d (.rp X)))∧(∀ h,Qco h (some 8) (.d (.rp X))=some (.d (enc2 (r.getD k (0,0)))))∧(∀ h,Qco h (some 4) (.d (.rp X))=some (.d (encR (r.getD k (0,0)).1)))∧(∀ h,Qco h (some 4) (.d (.rp (X.drop 4)))=some (.d (encR (r.getD k (0,0)).2))):=by
 have hne:r≠[]:=fun h=>by rw [h] at hk;simp at hk
 have e:r.drop k=r.getD k (0,0) :: r.drop (k+1):=by
  rw [List.drop_eq_getElem_cons hk,List.getD_eq_getElem?_getD,List.getElem?_eq_getElem hk];rfl
 refine ⟨c2R (r.getD k (0,0))++cAs (r.drop (k+1)),fun h=>?_,fun h=>?_,fun h=>?_,fun h=>?_⟩
 ·rw [QiW,if_neg hne,rowA]
  simp only [ixaA,guardO]
  rw [if_pos ⟨by omega,by omega⟩,Int.toNat_natCast,Qsj,e]
  rfl
 ·generalize r.getD k (0,0)=q
  show guardO (8≤(c2R q++cAs (r.drop (k+1))).length) (some (A.d (D.agg ((c2R q++cAs (r.drop (k+1))).take 8))))=_
  exact if_pos (by rw [List.length_append];exact Nat.le_add_right 8 _)
 ·generalize r.getD k (0,0)=q
  show guardO (4≤(c2R q++cAs (r.drop (k+1))).length) (some (A.d (D.agg ((c2R q++cAs (r.drop (k+1))).take 4))))=_
  exact if_pos (by rw [List.length_append];exact Nat.le_trans (by decide:4≤8) (Nat.le_add_right 8 _))
 ·generalize r.getD k (0,0)=q
  show guardO (4≤((c2R q++cAs (r.drop (k+1))).drop 4).length) (some (A.d (D.agg (((c2R q++cAs (r.drop (k+1))).drop 4).take 4))))=_
  exact if_pos (by rw [List.length_drop,List.length_append];exact Nat.le_sub_of_add_le (Nat.le_trans (by decide:4+4≤8) (Nat.le_add_right 8 _)))
theorem Qmv (r:List (Rat×Rat)):lenA (.d (QiW r))=some (r.length:Nat):=by
 unfold QiW
 by_cases h:r=[]
 ·rw [if_pos h,h];rfl
 ·rw [if_neg h];rfl
section
variable [Its] {dp:D} {p:List Rat} {s N Kg Kq:Nat}
theorem Fit.sCount [ItsB] (F:Fit s N Kg Kq 200000000 p) (hp:RwR dp p) (p0:p≠[]) {lo hi:Rat} (h1:sz lo≤1000000) (h2:sz hi≤1000000):Qah G QbS [dp,encR lo,encR hi]=some (.d (iv (cnt (chP p) lo hi))):=by
 have hc:=(F.chain p0).2
 have cl:=F.clen
 have N9:=F.N9
 exact Qis (K:=200000000) (F.sChain hp p0) (by omega) (fun q hq=>⟨(hc q hq).1,Nat.le_trans (Nat.mul_le_mul_right _ (show q.length≤40 from Nat.le_trans (hc q hq).2 N9.2)) (by decide)⟩) (by omega) (by omega) (by omega)
theorem Fit.rCount (F:Fit s N Kg Kq 200000000 p) (hp:RwR dp p) (p0:p≠[]) {lo hi:Rat} (h1:sz lo≤1000000) (h2:sz hi≤1000000):Qah G Qcl [dp,encR lo,encR hi]=some (.d (iv (cnt (chP p) lo hi))):=by
 have hc:=(F.chain p0).2
 have cl:=F.clen
 have N9:=F.N9
 obtain ⟨ds,hd,g1⟩:=F.rChain hp p0
 have g2:=Qi1 (K:=200000000) hd.rwc (by omega) (fun q hq=>⟨(hc q hq).1,Nat.le_trans (hc q hq).2 N9.2⟩) h1 h2 (by omega) (by omega)
 generalize cnt (chP p) lo hi=c at *
 rw [Qad (cf:=QeR) rfl]
 simp only [encR,iv] at g2
 clear hd hc
 simp -implicitDefEqProofs (maxSteps:=9^8) only [QeR,encR,g1,g2,ld4q,Qaa,go_sem,iv,bv,reduceCtorEq,↓reduceIte,Nat.reduceEqDiff]
theorem sHalve_ok {l:Rat×Rat} (h1:sz l.1≤1000000000) (h2:sz l.2≤1000000000) (g:Qah G QbS [dp,encR l.1,encR (mid l.1 l.2)]=some (.d (iv (cnt (chP p) l.1 (mid l.1 l.2))))):Qah G QhU [dp,enc2 l]=some (.d (enc2 (hal (chP p) l))):=by
 rw [Qad (cf:=QhN) rfl]
 have g1:=Qjf (l:=l) h1 h2
 unfold hal
 generalize mid l.1 l.2=m at *
 generalize cnt (chP p) l.1 m=c at *
 obtain ⟨lo,hi⟩:=l
 simp only [encR,enc2,c2R,iv] at g1 g
 by_cases hc:c=1
 ·have t:(c==1)=true:=beq_iff_eq.2 hc
  rw [if_pos hc]
  simp -implicitDefEqProofs (maxSteps:=9^8) only [QhN,enc2,c2R,g1,g,t,st4q,ld4q,st8q,ld8q,Qk7,QkG,QdY,QbY,Qaa,go_sem,iv,bv,reduceCtorEq,↓reduceIte,Nat.reduceEqDiff]
 ·have t:(c==1)=false:=Qcx hc
  rw [if_neg hc]
  simp -implicitDefEqProofs (maxSteps:=9^8) only [QhN,enc2,c2R,g1,g,t,st4q,ld4q,st8q,ld8q,Qk7,QkG,QdY,QbY,Qaa,go_sem,iv,bv,reduceCtorEq,↓reduceIte,Nat.reduceEqDiff]
theorem QoM           {d:D} {ps:List (List Rat)} {l:Rat×Rat} (h1:sz l.1≤1000000000) (h2:sz l.2≤1000000000) (g2:Qah   G Qcv                   [d,encR l.1,encR (mid l.1 l.2)]=some (.d (iv (cnt ps l.1 (mid l.1 l.2))))) :
    Qah G QfW [d,enc2 l]=some (.d (enc2 (hal ps l))):=by
  rw [Qad (cf:=Qdk) rfl]
  have g1:=Qpz (lo:=l.1) (hi:=l.2) (by omega) (by omega)
  unfold hal
  generalize mid l.1 l.2=m at *
  generalize cnt ps l.1 m=c at *
  obtain ⟨lo,hi⟩:=l
  simp only [encR,iv] at g1 g2
  by_cases hc:c=1
  · have t:(c==1)=true:=beq_iff_eq.2 hc
    rw [if_pos hc]
    simp -implicitDefEqProofs (maxSteps:=9^8) only [Qdk,enc2,c2R,g1,g2,t,st4q,ld4q,st8q,ld8q,Qk7,QkG,QdY,QbY,Qaa,go_sem,iv,bv,reduceCtorEq,↓reduceIte,Nat.reduceEqDiff]
  · have t:(c==1)=false:=Qcx hc
    rw [if_neg hc]
    simp -implicitDefEqProofs (maxSteps:=9^8) only [Qdk,enc2,c2R,g1,g2,t,st4q,ld4q,st8q,ld8q,Qk7,QkG,QdY,QbY,Qaa,go_sem,iv,bv,reduceCtorEq,↓reduceIte,Nat.reduceEqDiff]
theorem Fit.rHalve (F:Fit s N Kg Kq 200000000 p) (hp:RwR dp p) (p0:p≠[]) {l:Rat×Rat} (h1:sz l.1≤1000000) (h2:sz l.2≤1000000) (h3:sz (mid l.1 l.2)≤1000000):Qah G Qei [dp,enc2 l]=some (.d (enc2 (hal (chP p) l))):=by
 have hc:=(F.chain p0).2
 have cl:=F.clen
 have N9:=F.N9
 obtain ⟨ds,hd,g1⟩:=F.rChain hp p0
 have g2:=QoM (l:=l) (by omega) (by omega) (Qi1 (K:=200000000) hd.rwc (by omega) (fun q hq=>⟨(hc q hq).1,Nat.le_trans (hc q hq).2 N9.2⟩) h1 h3 (by omega) (by omega))
 generalize hal (chP p) l=m at *
 obtain ⟨lo,hi⟩:=l
 obtain ⟨lo',hi'⟩:=m
 rw [Qad (cf:=Qe4) rfl]
 clear hc hd
 simp only [enc2,c2R] at g2
 simp -implicitDefEqProofs (maxSteps:=9^8) only [Qe4,enc2,c2R,g1,g2,st4q,ld4q,st8q,ld8q,Qk7,QkG,QdY,QbY,Qaa,go_sem,iv,bv,reduceCtorEq,↓reduceIte,Nat.reduceEqDiff]
variable [ItsZ]
theorem QtH        {s' M K' r0:Nat} (F:Fit s N Kg Kq 200000000 p) (hN:N≤17) (p0:p≠[]) (H:HL s' s' (frP p)) (hM:(frP p).length≤M) (M9:M≤40) (hK:(s'+2)*3^M≤K') (hb:sz (bdR p)≤r0) (hr0:r0≤1000) (hZ:sepZ s' M K' r0≤900000) (hp:RwR dp p) (hB:Qah   G QeM           [dp]=some (.d (encR (bdR p)))) :
    ∃ R D J,Qah G QbB [dp]=some (.d (.tup [QiW R,iv 0]))∧Iso (chP p) D J r0 (-bdR p) (bdR p) R∧(∀ j,j≤J+5→∀ x,Gp D j r0 x→sz x≤990000)∧0<D∧R.length≤1000:=by
  have hc:=(F.chain p0).2
  have cl:=F.clen
  have N9:=F.N9
  have fn:=F.n
  obtain ⟨Z,hZe⟩:∃ Z,Z=sepZ s' M K' r0:=⟨_,rfl⟩
  have hKZ:KZ=1000000000:=rfl
  obtain ⟨J,hJ⟩:∃ J,J=30*(r0+1+Z):=⟨_,rfl⟩
  obtain ⟨t,ht⟩:∃ t,t=(J+5)/29+1:=⟨_,rfl⟩
  have ht2:2^(J+5)≤BB^t:=Nat.le_trans (Nat.pow_le_pow_right (by decide) (by omega)) (two29 t)
  have hD:0<(bdR p).den:=(bdR p).den_pos
  have hDd:(bdR p).den≤BB^r0:=by
    have h1:nd ((bdR p).den:Int)≤r0:=Nat.le_trans (QcM (Nat.le_refl _)) hb
    have h2:=Qc6 ((bdR p).den:Int)
    rw [Int.natAbs_natCast] at h2
    exact Nat.le_trans (Nat.le_of_lt h2) (QcX h1)
  have gb:Gp (bdR p).den 0 r0 (bdR p):=by
    refine ⟨ab_sz hb,(bdR p).num, ?_⟩
    rw [Nat.pow_zero,Nat.mul_one]
    exact Hq.self _
  have gn:Gp (bdR p).den 0 r0 (-bdR p):=by
    obtain ⟨a,m,e⟩:=gb
    refine ⟨⟨by have:=a.2;grind,by have:=a.1;grind⟩,-m, ?_⟩
    rw [Rat.neg_mul,e,Rat.intCast_neg]
  have b1:1≤bdR p:=by
    have h0:=bdF_nn p (p.length-1)
    have e:bdR p=bdF p (p.length-1)+1:=rfl
    rw [e]
    grind
  have hsz:∀ j,j≤J+5→∀ x,Gp (bdR p).den j r0 x→sz x≤990000:=fun j hj x hx=>by
    have:=hx.sz hD hDd (Nat.le_trans (Nat.pow_le_pow_right (by decide) hj) ht2)
    omega
  obtain ⟨R,w,I⟩:=iso_tree (r:=r0) F.t p0 H hM M9 hK (D:=(bdR p).den) (J:=J) (d:=r0) (t:=t) (KK:=KZ) hD hDd (Nat.le_trans (Nat.pow_le_pow_right (by decide) (by omega)) ht2) (by omega) J 0 (-bdR p) (bdR p) (by omega) gn gb (by grind) (by
    have h1:cN (BB^(r0+1+Z))≤cN (2^J):=QlG (by rw [hJ];exact two30 _)
    have h2:cN (BB^(r0+1+Z))=bq (r0+1)*bq Z:=by rw [← Qpn];rfl
    have h3:=bq_ten r0
    have h4:=gb.1.2
    have h5:=QjR r0
    have h6:=Rat.mul_le_mul_of_nonneg_right (show bdR p - -bdR p≤bq (r0+1) by grind) (Rat.le_of_lt (QjR Z))
    rw [← hZe]
    grind)
  have hlen:R.length≤1000:=by
    have h1:=I.n
    have h2:=Qp8 (ps:=chP p) (show -bdR p<bdR p by grind)
    have h3:chg (chP p) (-bdR p)≤1000:=Nat.le_trans (Qlw _ _) (Nat.le_trans (Qlo _ _) (by omega))
    omega
  refine ⟨R,(bdR p).den,J, ?_,I,hsz,hD,hlen⟩
  refine QlB hp p0 (by omega) hB (F.sChain hp p0) (fun ds hd=>ItsZ.zer (k:=J+1) hd.rwc (by omega) (fun q hq=>⟨(hc q hq).1.mono (by omega), ?_⟩) w) (by omega)
  exact Nat.le_trans (Nat.mul_le_mul_right _ (show q.length≤17 from Nat.le_trans (hc q hq).2 hN)) (by rw [hKZ];decide)
end
end Go.AM

namespace Go.Proofs.YtbbemgfheagobaaGreat.Pure
open Go Go.AM
def Qjw (dl dr:D) (g i k:Int):St:=mkS [(3,ai g),(12,.d dl),(13,ai i),(14,.d dr),(17,ai k)] []
def si_en (dl:D) (g i:Int):St:=mkS [(3,ai g),(12,.d dl),(13,ai i)] []
def SiR (p:List Rat) (q:Rat×Rat):Prop:=(∀ d,RwR d p→Qah G Qcl [d,encR q.1,encR q.2]=some (.d (iv 1))) ∧
 ∃ m:Rat×Rat,sz m.1≤100000000000∧sz m.2≤100000000000∧∀ d,RwR d p→Qah G QhU [d,enc2 q]=some (.d (enc2 m))∧Qah G Qei [d,enc2 q]=some (.d (enc2 m))
section
variable {dl:D} {ps:List (List Rat)} {R:List (Rat×Rat)} {g:Int}
theorem Qrg {i:Int}:X G QaC (Qjw dl (QiW R) g i R.length)=some (.x 2,si_en dl g i):=by
 have e1:decide ((R.length:Int)<(R.length:Int))=false:=lt_f (by omega)
 have ll:=Qmv R
 simp -implicitDefEqProofs (maxSteps:=9^8) only [QaC,Qjw,si_en,ll,e1,Qaa,go_sem,iv,bv,reduceCtorEq,↓reduceIte,Nat.reduceEqDiff]
theorem si_go (hl:RwC dl ps) {i:Nat} (hi:i<ps.length) {k:Nat} (hk:k<R.length) (nR:R.length≤1000) (hq:SiR (ps.getD i []) (R.getD k (0,0))) (h2:sz (R.getD k (0,0)).1≤1000000) (h3:sz (R.getD (k-1) (0,0)).2≤1000000)
    (ho:0<k→(R.getD (k-1) (0,0)).2≤(R.getD k (0,0)).1) :
    X G QaC (Qjw dl (QiW R) g i k)=some (.n,Qjw dl (QiW R) g i ((k+1:Nat):Int)):=by
  have e1:decide ((k:Int)<(R.length:Int))=true:=lt_t (by omega)
  have e2:w64 ((k:Int)+1)=((k+1:Nat):Int):=by rw [Qae (by omega) (by omega)];rfl
  have e3:((1:Int) != 1)=false:=rfl
  have ll:=Qmv R
  obtain ⟨d,r,hp,x1,x2⟩:=hl.at hi
  obtain ⟨Y,y1,y2,y3,y4⟩:=rA_at hk
  obtain ⟨hc,m,m1,m2,hh⟩:=hq
  have c1:=hc d hp
  obtain ⟨c2,c3⟩:=hh d hp
  have c4:=Qoh (a:=m.1) m1
  have c5:=Qoh (a:=m.2) m2
  clear hc hh hp
  obtain ⟨D,dr⟩:∃ D,QiW R=D:=⟨_,rfl⟩
  rw [dr] at ll y1 ⊢
  by_cases h0:k=0
  · have e4:decide ((k:Int)>0)=false:=decide_eq_false (by omega)
    generalize R.getD k (0,0)=q at *
    obtain ⟨lo,hi'⟩:=q
    obtain ⟨u,v⟩:=m
    simp only [encR,enc2,c2R,iv,bv] at y2 y3 y4 c1 c2 c3 c4 c5
    simp -implicitDefEqProofs (maxSteps:=9^8) only [QaC,Qjw,x1,x2,ll,e1,e2,e3,e4,y1,y2,y3,y4,c1,c2,c3,c4,c5,st8q,Qk7,QkG,QhW,Bool.or_false,decide_false,Bool.false_eq_true,if_false,Qaa,go_sem,iv,bv,reduceCtorEq,↓reduceIte,Nat.reduceEqDiff]
  · have e4:decide ((k:Int)>0)=true:=decide_eq_true (by omega)
    have e5:w64 ((k:Int)-1)=((k-1:Nat):Int):=by rw [Qae (by omega) (by omega)];omega
    obtain ⟨Z,z1,_,_,z4⟩:=rA_at (r:=R) (k:=k-1) (by omega)
    rw [dr] at z1
    have c6:=Qda (a:=(R.getD (k-1) (0,0)).2) (b:=(R.getD k (0,0)).1) (by omega) (by omega)
    have e6:decide (cmpR (R.getD (k-1) (0,0)).2 (R.getD k (0,0)).1>0)=false:=by
      rw [Qmp]
      exact decide_eq_false (by have:=ho (by omega);grind)
    generalize cmpR (R.getD (k-1) (0,0)).2 (R.getD k (0,0)).1=c at *
    generalize R.getD k (0,0)=q at *
    generalize R.getD (k-1) (0,0)=q' at *
    generalize ((k-1:Nat):Int)=k' at *
    obtain ⟨lo,hi'⟩:=q
    obtain ⟨lo2,hi2⟩:=q'
    obtain ⟨u,v⟩:=m
    simp only [encR,enc2,c2R,iv,bv] at y2 y3 y4 z4 c1 c2 c3 c4 c5 c6
    simp -implicitDefEqProofs (maxSteps:=9^8) only [QaC,Qjw,x1,x2,ll,e1,e2,e3,e4,e5,e6,y1,y2,y3,y4,z1,z4,c1,c2,c3,c4,c5,c6,st8q,Qk7,QkG,QhW,Bool.or_false,decide_false,Bool.false_eq_true,if_false,Qaa,go_sem,iv,bv,reduceCtorEq,↓reduceIte,Nat.reduceEqDiff]
theorem Qon     (hl:RwC dl ps) {i:Nat} (hi:i<ps.length) (nR:R.length≤1000) (hq:∀ q∈R,SiR (ps.getD i []) q∧sz q.1≤1000000∧sz q.2≤1000000) (ho:R.Pairwise fun a b=>a.2≤b.1):∀ (j k:Nat),k+j=R.length →
    X G (.loop QaC) (Qjw dl (QiW R) g i k)=some (.x 2,si_en dl g i)
  | 0,k,h=>by
    have:k=R.length:=by omega
    subst this
    rw [Qai,Qrg];rfl
  | j+1,k,h=>by
    have hk:k<R.length:=by omega
    have hmem:∀ t,t<R.length→R.getD t (0,0)∈R:=fun t ht=>by
      rw [List.getD_eq_getElem?_getD,List.getElem?_eq_getElem ht];exact List.getElem_mem ht
    have a:=hq _ (hmem k hk)
    have b:=hq _ (hmem (k-1) (by omega))
    rw [Qai,si_go hl hi hk nR a.1 a.2.1 b.2.2 (fun h0=>by
      have:=List.pairwise_iff_getElem.1 ho (k-1) k (by omega) hk (by omega)
      have e:∀ t (ht:t<R.length),R.getD t (0,0)=R[t]:=fun t ht=>by rw [List.getD_eq_getElem?_getD,List.getElem?_eq_getElem ht];rfl
      rw [e k hk,e (k-1) (by omega)]
      exact this),Option.bind_some,if_pos rfl]
    exact Qon hl hi nR hq ho j (k+1) (by omega)
def QiY (dl:D) (g i:Int):St:=mkS [(3,ai g),(12,.d dl),(13,ai i)] []
theorem so_stop:X G Qan (QiY dl g 2)=some (.x 0,mkS [(3,ai g)] []):=by
 have e1:decide ((2:Int)<2)=false:=rfl
 simp -implicitDefEqProofs (maxSteps:=9^8) only [Qan,QiY,e1,Qaa,go_sem,iv,bv,reduceCtorEq,↓reduceIte,Nat.reduceEqDiff]
theorem iso_nil {d:D} (hd:RwR d []):Qah G QbB [d]=some (.d (.tup [.z true,iv 1])):=by
 rw [Qad (cf:=Qc5) rfl]
 have ll:=hd.len
 simp only [List.length_nil] at ll
 have e1:((0:Int)==0)=true:=rfl
 simp -implicitDefEqProofs (maxSteps:=9^8) only [Qc5,toDs,allD,ll,e1,Qaa,go_sem,iv,bv,reduceCtorEq,↓reduceIte,Nat.reduceEqDiff]
theorem iso_long {d:D} {l:List Rat} (hd:RwR d l) (h1:17<l.length):Qah G QbB [d]=some (.d (.tup [.z true,iv 4])):=by
 rw [Qad (cf:=Qc5) rfl]
 have ll:=hd.len
 have e1:((l.length:Int)==0)=false:=Qcx (by omega)
 have e2:decide ((l.length:Int)>17)=true:=decide_eq_true (by omega)
 simp -implicitDefEqProofs (maxSteps:=9^8) only [Qc5,toDs,allD,ll,e1,e2,Qaa,go_sem,iv,bv,reduceCtorEq,↓reduceIte,Nat.reduceEqDiff]
theorem so_nil (hl:RwC dl ps) {i:Nat} (hi:i<ps.length) (i2:i<2) (h0:ps.getD i []=[]):X G Qan (QiY dl g i)=some (.n,QiY dl g ((i+1:Nat):Int)):=by
 have e1:decide ((i:Int)<2)=true:=lt_t (by omega)
 have e2:w64 ((i:Int)+1)=((i+1:Nat):Int):=by rw [Qae (by omega) (by omega)];rfl
 obtain ⟨d,r,hp,x1,x2⟩:=hl.at hi
 rw [h0] at hp
 have ll:=hp.len
 simp only [List.length_nil] at ll
 have c1:=iso_nil hp
 have e3:((0:Int)==0)=true:=rfl
 have e4:((1:Int) != 1)=false:=rfl
 have e5:decide ((0:Int)>0)=false:=rfl
 simp only [iv] at c1
 simp -implicitDefEqProofs (maxSteps:=9^8) only [Qan,QiY,x1,x2,ll,c1,e1,e2,e3,e4,e5,QhW,Bool.or_false,decide_false,Bool.false_eq_true,if_false,Qaa,go_sem,iv,bv,reduceCtorEq,↓reduceIte,Nat.reduceEqDiff]
theorem so_go (hl:RwC dl ps) {i:Nat} (hi:i<ps.length) (i2:i<2) (h0:ps.getD i []≠[]) (n0:(ps.getD i []).length≤1000) {b:Rat} (hb:sz b≤1000000) (nR:R.length≤1000)
    (hc:∀ d,RwR d (ps.getD i [])→Qah G QbB [d]=some (.d (.tup [QiW R,iv 0]))∧Qah G Qeg [d]=some (.d (encR b))∧Qah G Qcl [d,encR (-b),encR b]=some (.d (iv R.length)))
    (hq:∀ q∈R,SiR (ps.getD i []) q∧sz q.1≤1000000∧sz q.2≤1000000) (ho:R.Pairwise fun a b=>a.2≤b.1):X G Qan (QiY dl g i)=some (.n,QiY dl g ((i+1:Nat):Int)):=by
  have e1:decide ((i:Int)<2)=true:=lt_t (by omega)
  have e2:w64 ((i:Int)+1)=((i+1:Nat):Int):=by rw [Qae (by omega) (by omega)];rfl
  have L:=Qon (g:=g) hl hi nR hq ho R.length 0 (by omega)
  rw [show ((0:Nat):Int)=0 from rfl] at L
  obtain ⟨d,r,hp,x1,x2⟩:=hl.at hi
  have ll:=hp.len
  obtain ⟨c1,c2,c3⟩:=hc d hp
  have c4:=QgO (a:=b) (by omega)
  have lr:=Qmv R
  have e3:(((ps.getD i []).length:Int)==0)=false:=Qcx (by have:=List.length_pos_iff.2 h0;omega)
  have e4:((0:Int) != 0)=false:=rfl
  have e5:((R.length:Int) != (R.length:Int))=false:=QqD rfl
  clear hc hq ho hp
  generalize QiW R=D at *
  generalize (ps.getD i []).length=n at *
  generalize -b=nb at *
  simp only [encR,iv] at c1 c2 c3 c4
  simp only [Qjw,si_en,go_sem] at L
  simp -implicitDefEqProofs (maxSteps:=9^8) only [Qan,QiY,x1,x2,ll,lr,L,c1,c2,c3,c4,e1,e2,e3,e4,e5,st4q,ld4q,QhW,Bool.or_false,decide_false,Bool.false_eq_true,if_false,Qaa,go_sem,iv,bv,reduceCtorEq,↓reduceIte,Nat.reduceEqDiff]
theorem so_all {s N Kg Kq s' M K' r0:Nat} {p:List Rat} (F:Fit s N Kg Kq 200000000 p) (hN:N≤17) (p0:p≠[]) (H:HL s' s' (frP p)) (hM:(frP p).length≤M) (M9:M≤40) (hK:(s'+2)*3^M≤K') (hb:sz (bdR p)≤r0) (hr0:r0≤1000) (hZ:sepZ s' M K' r0≤900000) (hl:RwC dl ps) {i:Nat} (hi:i<ps.length) (i2:i<2) (hp:ps.getD i []=p) (hs:SzL 100000 p):X G Qan (QiY dl g i)=some (.n,QiY dl g ((i+1:Nat):Int)):=by
 have fn:=F.n
 obtain ⟨d,r,hd,x1,x2⟩:=hl.at hi
 rw [hp] at hd
 obtain ⟨R,D,J,gI,I,hsz,hD,nR⟩:=QtH F hN p0 H hM M9 hK hb hr0 hZ hd (Qjs hd (by omega) hs (by omega) (by omega))
 have hsz0:∀ x,Gp D J r0 x→sz x≤990000:=hsz J (by omega)
 refine so_go (R:=R) (b:=bdR p) hl hi i2 (by rw [hp];exact p0) (by rw [hp];omega) (by omega) nR ?_ ?_ I.o
 ·rw [hp]
  intro d' hd'
  have e:d'=d:=by
   rcases hd' with ⟨rfl,h⟩ | rfl
   ·exact absurd h p0
   ·rcases hd with ⟨rfl,h⟩ | rfl
    ·exact absurd h p0
    ·rfl
  subst e
  refine ⟨gI,Qrd hd' (by omega) hs (by omega) (by omega), ?_⟩
  rw [I.n]
  exact F.rCount hd' p0 (by rw [QrN];omega) (by omega)
 ·rw [hp]
  intro q hq
  obtain ⟨c1,_,c2,_,c3,c4⟩:=I.c q hq
  have z1:=hsz0 _ c3
  have z2:=hsz0 _ c4
  have z3:=hsz (J+1) (by omega) _ (c3.mid c4)
  refine ⟨⟨fun d' hd'=>?_,hal (chP p) q, ?_, ?_,fun d' hd'=>⟨?_, ?_⟩⟩,by omega,by omega⟩
  ·rw [← c1]
   exact F.rCount hd' p0 (by omega) (by omega)
  ·unfold hal;split<;>dsimp only<;>omega
  ·unfold hal;split<;>dsimp only<;>omega
  ·exact sHalve_ok (by omega) (by omega) (F.sCount hd' p0 (by omega) (by omega))
  ·exact F.rHalve hd' p0 (by omega) (by omega) (by omega)
end
theorem SturmIsolates (e0:D) (l0:List Int) (hd0:Dg e0 l0) (hwf0:∀ n∈l0,(Lit.int .i64 n).wf=true) (hlen0:l0.length*8≤140737488351232) (e1:D) (l1:List Int) (hd1:Dg e1 l1) (hwf1:∀ n∈l1,(Lit.int .i64 n).wf=true) (hlen1:l1.length*8≤140737488351232) (a2:Int) (w2:(Lit.int .i64 a2).wf=true) (a3:Int) (w3:(Lit.int .i64 a3).wf=true):Qah G 7 [e0,e1,iv a2,iv a3]=some (.d (bv true)):=by
 obtain ⟨dp,p,hp,tp,Hp,np,gp⟩:=QtN (rw_dg hd0) (fun n hn=>Qsy (hwf0 n hn))
 obtain ⟨dq,dz,hq,hz,gq⟩:=Made_spec (w:=a2) (rw_dg hd1) (fun n hn=>Qsy (hwf1 n hn)) (Qsy w2)
 obtain ⟨Hq',tq,nq⟩:=mdP_ok l1 a2
 obtain ⟨q0,_⟩:=made_zrs l1 a2
 obtain ⟨Sm,_⟩:=made_smd l1 a2
 generalize mdP l1 a2=q at *
 have bsz:∀ (p:List Rat) (K:Nat),SzL K p→1≤K→sz (bdR p)≤2*K+2:=fun p K h1 h2=>by
  have s1:=Qnw h1 h2 (p.length-1)
  have s2:=Qkt (a:=bdF p (p.length-1)) (b:=1)
  have s3:=Qh3
  unfold bdR
  omega
 have hl:RwC (.row 2 [dp,dq]) [p,q]:=by
  refine ⟨[dp,dq],rfl, ?_,.inl rfl⟩
  intro i hi
  match i,hi with
  | 0,_=>exact hp
  | 1,_=>exact hq
 have L0:X G Qan (QiY (.row 2 [dp,dq]) a3 ((0:Nat):Int))=some (.n,QiY (.row 2 [dp,dq]) a3 ((0+1:Nat):Int)):=by
  by_cases p0:p=[]
  ·exact so_nil hl (by simp) (by omega) p0
  ·have Fp:Fit 1 6 2187 15400 200000000 p:=⟨Hp,tp,np,⟨by omega,by omega⟩,by decide,by omega,by decide,⟨by decide,by omega,by omega,by omega,by omega⟩⟩
   have b1:=bsz p 2 (Hp.sz.mono (by omega)) (by omega)
   have fl:=Nat.le_trans (QfX (QhZ p) tp p0 (QjM tp p0)) np
   rcases fr_small tp p0 Hp np with F | ⟨F,l5⟩
   ·exact so_all (s':=1) (M:=6) (K':=2187) (r0:=6) Fp (by omega) p0 F fl (by omega) (by decide) (by omega) (by omega) (by decide) hl (i:=0) (by simp) (by omega) rfl (Hp.sz.mono (by omega))
   ·exact so_all (s':=1500) (M:=5) (K':=364986) (r0:=6) Fp (by omega) p0 F l5 (by omega) (by decide) (by omega) (by omega) (by decide) hl (i:=0) (by simp) (by omega) rfl (Hp.sz.mono (by omega))
 have L1:X G Qan (QiY (.row 2 [dp,dq]) a3 ((1:Nat):Int))=some (.n,QiY (.row 2 [dp,dq]) a3 ((1+1:Nat):Int)):=by
  have Fq:Fit 11 7 28431 230000 200000000 q:=⟨Hq'.mono (by omega) (by omega),tq,nq,⟨by omega,by omega⟩,by decide,by omega,by decide,⟨by decide,by omega,by omega,by omega,by omega⟩⟩
  have b1:=bsz q 12 (Hq'.sz.mono (by omega)) (by omega)
  have F:=(Sm _ (QhZ q) (mo_mn (Qip _ _)) (Qqh tq q0) (QjM tq q0)).1
  exact so_all (s':=10) (M:=7) (K':=26244) (r0:=26) Fq (by omega) q0 F (Nat.le_trans (QfX (QhZ q) tq q0 (QjM tq q0)) nq) (by omega) (by decide) (by omega) (by omega) (by decide) hl (i:=1) (by simp) (by omega) rfl (Hq'.sz.mono (by omega))
 have L2:=so_stop (dl:=.row 2 [dp,dq]) (g:=a3)
 have L:X G (.loop Qan) (QiY (.row 2 [dp,dq]) a3 0)=some (.x 0,mkS [(3,ai a3)] []):=by
  rw [show (0:Int)=((0:Nat):Int) from rfl,Qai,L0,Option.bind_some,if_pos rfl,Qai,L1,Option.bind_some,if_pos rfl,Qai,show ((1+1:Nat):Int)=2 from rfl,L2];rfl
 clear L0 L1 L2 hl
 have lv:=lives7
 have d1:=hp.dc
 have d2:=hq.dc
 have k1:=hp.dcl
 have k2:=hq.dcl
 have rr2:rep 2 [D.z true]=[.z true,.z true]:=rfl
 -- a polynomial of too great a degree
 have g3:=Qjd (n:=a3) (m:=5) (Qsy w3) (by omega)
 have hb:=QpU (n:=a3) (m:=5) (by omega)
 obtain ⟨n,hn⟩:∃ n:Nat,arnd a3 5=(n:Int):=⟨(arnd a3 5).toNat,by omega⟩
 rw [hn] at g3 hb
 have w1:w64 (18+(n:Int))=((18+n:Nat):Int):=by rw [Qae (by omega) (by omega)];omega
 have w2':w64 (((18+n:Nat):Int)-1)=((17+n:Nat):Int):=by rw [Qae (by omega) (by omega)];omega
 have f1:((0:Int)≤((18+n:Nat):Int))=True:=eq_true (by omega)
 have f2:(((18+n:Nat):Int)*((64:Nat):Int)≤(bound:Int))=True:=eq_true (by have:(bound:Int)=140737488351232:=rfl;omega)
 have f3:((0:Int)≤((17+n:Nat):Int))=True:=eq_true (by omega)
 have f4:(((17+n:Nat):Int)<((18+n:Nat):Int))=True:=eq_true (by omega)
 have r0:=QmT (18+n)
 have m0:=Qmt (List.replicate (18+n) (0:Rat))
 have t1:=Qtp (l:=List.replicate (18+n) (0:Rat)) (j:=17+n) (by simp) ((1:Int):Rat)
 have hlen:((List.replicate (18+n) (0:Rat)).set (17+n) ((1:Int):Rat)).length=18+n:=by rw [List.length_set,List.length_replicate]
 have gI:=iso_long (RwR.row ((List.replicate (18+n) (0:Rat)).set (17+n) ((1:Int):Rat))) (by omega)
 rw [rowR,hlen] at gI
 have g4:=Qez (n:=1) ⟨by omega,by omega⟩
 have e4:((4:Int)==4)=true:=rfl
 have e0':((0:Int)==0)=true:=rfl
 rw [Qad (cf:=QcE) rfl]
 clear hz Hp Hq' tp tq hp hq Sm bsz hb
 generalize (List.replicate (18+n) (0:Rat)).set (17+n) ((1:Int):Rat)=GL at *
 generalize ((1:Int):Rat)=one at *
 generalize 18+n=n18 at *
 generalize 17+n=n17 at *
 simp only [encR,iv,bv] at gq g3 g4 gI lv
 simp only [QiY,go_sem] at L
 simp -implicitDefEqProofs (maxSteps:=9^8) only [QcE,Qfz,k1,k2,rr2,QdY,QbY,Qud,gp,gq,g3,g4,gI,L,lv,d1,d2,w1,w2',f1,f2,f3,f4,r0,m0,t1,e4,e0',QgW,QaQ,Int.toNat_natCast,QhW,Qaa,go_sem,iv,bv,and_self,true_and,reduceCtorEq,↓reduceIte,Nat.reduceEqDiff]
end Go.Proofs.YtbbemgfheagobaaGreat.Pure

/- The row of SturmIsolates, out of its Pure. Printed by row.py. -/
namespace Go.Proofs.YtbbemgfheagobaaGreat.sturmIsolates
open Go.ChangeShapes Go.WideShapes Go.ChangeAt Go.RowKit Go.AM
theorem own:ownKnob Tryz.prog.godebug=none:=by kernel_rfl
theorem laidOut:laidOutB Tryz.prog=true:=by kernel_rfl
set_option maxRecDepth 100000 in
theorem lifted (os:Os) (started:os.Started) (H:Type) (enc:TypeId×Value→H) :
    ReturnsInHanded {} Tryz.checked os 7 .any (Rows.sturmIsolatesSpec.pre6 enc Tryz.prog Tryz.f7 Rows.sturmIsolatesRow.domain false) (Rows.sturmIsolatesSpec.post enc Tryz.prog Tryz.f7 false true false false):=by
  refine returnsInHanded_of_change_sized (C:=Tryz.checked) own started (by kernel_rfl) Tryz.func7
    (ChangeSpec.witness6 (enc:=enc) (C:=Tryz.checked) false ⟨#[],#[.slice none 0 0,.slice none 0 0,.int .i64 0,.int .i64 0],[]⟩ 8 (by kernel_rfl) (by kernel_rfl) (by kernel_rfl) (by kernel_rfl)) ?_
  intro W base args ds gs before hval0 hW hcnd hsz0 _
  have hsz:(DataW.weightsEach Tryz.prog (Tryz.f7.params.toList++Rows.sturmIsolatesSpec.plain.varTypes Tryz.prog) (ds++gs)).all (·≤reachBytes)=true:=hsz0
  have hval:∀ (j:Nat) t v,Tryz.f7.params[j]?=some t→args[j]?=some v→Value.okWide Tryz.prog W .any base t v:=hval0
  have hW':=hW
  obtain ⟨p,q,hA0,hV,rfl,hfz,hnd⟩:=hW
  have hA:DataW.TrodAll enc Tryz.prog W 0 (fun _=>true) true Tryz.f7.params.toList args.toList ds p:=hA0
  rw [Tryz.params7] at hA hval hsz
  obtain ⟨v0,vs0,d0,ds0,p0,q0,hargs,rfl,rfl,h0,r0⟩:=trodAll_cons hA
  obtain ⟨v1,vs1,d1,ds1,p1,q1,rfl,rfl,rfl,h1,r1⟩:=trodAll_cons r0
  obtain ⟨v2,vs2,d2,ds2,p2,q2,rfl,rfl,rfl,h2,r2⟩:=trodAll_cons r1
  obtain ⟨v3,vs3,d3,ds3,p3,q3,rfl,rfl,rfl,h3,r3⟩:=trodAll_cons r2
  obtain ⟨rfl,rfl,rfl⟩:=trodAll_nil r3
  obtain rfl:args=#[v0,v1,v2,v3]:=by cases args;simp_all
  obtain ⟨rfl,rfl⟩:=trodVars_none hV
  obtain ⟨a0,len0,cap0,rfl⟩:=okWide_slice Tryz.underlying22 (hval 0 22 v0 rfl rfl)
  have k0:=h0
  have lt0:∀ x∈p0,x.block<W.heap.size:=by obtain ⟨m,hm⟩:=k0;exact DataW.trod_lt m _ _ _ hm
  obtain ⟨z0,w0,y0⟩:∃ zs,((a0=none∧len0=0∧cap0=0∧zs=[])∨∃ x,a0=some x∧len0≤cap0∧cap0≤maxLen∧zs.length=cap0∧(∀ i,i<zs.length→W.cell? (x.add i)=some (.int .i64 (zs.getD i 0)))∧∀ n∈zs,(Lit.int .i64 n).wf=true)∧len0*8≤140737488351232:=by
    obtain ⟨fuel,hf⟩:=h0
    rcases open_ints Tryz.underlying22 Tryz.underlying3 (by kernel_rfl) hf with ⟨hcs,_⟩ | ⟨x,l,c,zs,hcs,_,hl,hm,hz,hx,hcell,hwz⟩
    · simp [Value.cells] at hcs
      obtain ⟨rfl,rfl,rfl⟩:=hcs
      exact ⟨[],.inl ⟨rfl,rfl,rfl,rfl⟩,by simp⟩
    · simp [Value.cells] at hcs
      obtain ⟨rfl,rfl,rfl⟩:=hcs
      refine ⟨zs,.inr ⟨_,rfl,hl,hm,by simpa using hz,hcell,hwz⟩, ?_⟩
      simp only [Prod.mk.injEq] at hx
      have hd:=hx.1
      have z:=sized_slice hsz (j:=0) (t:=22) rfl (by rw [hd];rfl) Tryz.underlying22
      have hb:Tryz.prog.bytesOf 3=8:=by kernel_rfl
      rw [hb] at z
      have hr:reachBytes≤140737488351232:=by decide
      have hz':zs.length=cap0:=by simpa using hz
      simp only [lits,List.length_map,List.length_take,List.length_drop] at z
      omega
  obtain ⟨e0,l0,hd0,hrep0,hlen0,hwf0⟩:=arg_row w0
  obtain ⟨a1,len1,cap1,rfl⟩:=okWide_slice Tryz.underlying22 (hval 1 22 v1 rfl rfl)
  have k1:=h1
  have lt1:∀ x∈p1,x.block<W.heap.size:=by obtain ⟨m,hm⟩:=k1;exact DataW.trod_lt m _ _ _ hm
  obtain ⟨z1,w1,y1⟩:∃ zs,((a1=none∧len1=0∧cap1=0∧zs=[])∨∃ x,a1=some x∧len1≤cap1∧cap1≤maxLen∧zs.length=cap1∧(∀ i,i<zs.length→W.cell? (x.add i)=some (.int .i64 (zs.getD i 0)))∧∀ n∈zs,(Lit.int .i64 n).wf=true)∧len1*8≤140737488351232:=by
    obtain ⟨fuel,hf⟩:=h1
    rcases open_ints Tryz.underlying22 Tryz.underlying3 (by kernel_rfl) hf with ⟨hcs,_⟩ | ⟨x,l,c,zs,hcs,_,hl,hm,hz,hx,hcell,hwz⟩
    · simp [Value.cells] at hcs
      obtain ⟨rfl,rfl,rfl⟩:=hcs
      exact ⟨[],.inl ⟨rfl,rfl,rfl,rfl⟩,by simp⟩
    · simp [Value.cells] at hcs
      obtain ⟨rfl,rfl,rfl⟩:=hcs
      refine ⟨zs,.inr ⟨_,rfl,hl,hm,by simpa using hz,hcell,hwz⟩, ?_⟩
      simp only [Prod.mk.injEq] at hx
      have hd:=hx.1
      have z:=sized_slice hsz (j:=1) (t:=22) rfl (by rw [hd];rfl) Tryz.underlying22
      have hb:Tryz.prog.bytesOf 3=8:=by kernel_rfl
      rw [hb] at z
      have hr:reachBytes≤140737488351232:=by decide
      have hz':zs.length=cap1:=by simpa using hz
      simp only [lits,List.length_map,List.length_take,List.length_drop] at z
      omega
  obtain ⟨e1,l1,hd1,hrep1,hlen1,hwf1⟩:=arg_row w1
  obtain ⟨a2,rfl,rfl,rfl,w2⟩:=open_int Tryz.underlying3 (hval 2 3 v2 rfl rfl) h2
  obtain ⟨a3,rfl,rfl,rfl,w3⟩:=open_int Tryz.underlying3 (hval 3 3 v3 rfl rfl) h3
  clear hA0 hval0 hsz0 hsz
  refine (law_walk envQ (f:=7) (ds:=[e0,e1,(iv a2),(iv a3)]) (vs:=[.slice a0 len0 cap0,.slice a1 len1 cap1,.int .i64 a2,.int .i64 a3]) (w:=W) (Qqb rfl W) (RepL.cons _ _ _ _ hrep0 (RepL.cons _ _ _ _ hrep1 (RepL.cons _ _ _ _ (RepD.v _) (RepL.cons _ _ _ _ (RepD.v _) RepL.nil)))) (Pure.SturmIsolates e0 l0 hd0 hwf0 (by rw [hlen0];exact y0) e1 l1 hd1 hwf1 (by rw [hlen1];exact y1) a2 w2 a3 w3)).mono fun e W' ⟨he,bel⟩=>?_
  subst he
  exact ⟨_,rfl,_,_,_,[],_,[],hW',trodAll_mk1 (shut_bool Tryz.underlying4 _),(trodAll_cons_mk (Below.trod laidOut (by kernel_rfl) (of_decide_eq_true (by kernel_rfl)) k0 bel lt0) (trodAll_cons_mk (Below.trod laidOut (by kernel_rfl) (of_decide_eq_true (by kernel_rfl)) k1 bel lt1) (trodAll_cons_mk (shut_int Tryz.underlying3 w2) (trodAll_cons_mk (shut_int Tryz.underlying3 w3) trodAll_mk0)))),rfl,bel.frame _,fun h=>by cases h⟩
theorem over:Rows.sturmIsolatesRow.holds Tryz.pinned (OpenSpec.ofChange Rows.sturmIsolatesSpec) :=
 OpenClaim.holds_of_wide 7 Tryz.f7 rfl rfl rfl rfl rfl rfl rfl ⟨rfl,rfl,rfl,rfl,rfl⟩ rfl rfl rfl rfl rfl (by kernel_rfl) Tryz.func7 (by kernel_rfl)
  (of_decide_eq_true (by kernel_rfl)) (by unfold Func.isWrapper;first | (rw [if_pos (by decide +kernel)];kernel_rfl) | (rw [if_neg (by decide +kernel)];exact ⟨rfl,rfl⟩))
  (fun os started H enc _=>lifted os started H enc)
theorem proved:Rows.SturmIsolatesSaid:=over
end Go.Proofs.YtbbemgfheagobaaGreat.sturmIsolates
namespace Go.Proofs.YtbbemgfheagobaaGreat
theorem sturmIsolates_holds:Rows.SturmIsolatesSaid:=sturmIsolates.proved
end Go.Proofs.YtbbemgfheagobaaGreat


