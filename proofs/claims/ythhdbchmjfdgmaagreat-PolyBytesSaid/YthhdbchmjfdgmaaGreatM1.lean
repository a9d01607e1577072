/- Part 1 of the proof: a small machine, its soundness against the model, and what the program's functions compute on it. -/
import Derived.Test.YthhdbchmjfdgmaaGreatM0
import Derived.Laws.AppendOwn
import Derived.Laws.Entries
import Derived.Laws.Cover3
import Derived.Laws.IdiomStrings
import Derived.Laws.MakeOwn
set_option linter.unusedVariables false
set_option linter.unusedSimpArgs false
/- Part 4: what each operation of the model comes to. -/
namespace Go.AM
open Go Go.RowKit

section
variable {S0:Nat→Prop} {N:Nat} {w0:Wd} {m:Key→Nat} {st:St} {a:Act} {w:World} {P:Program}

/-! ### Addresses -/
theorem Qmc {s:TypeId} {f:Nat} {fd:Field} (h:fldOf P s f=some fd):∃ fs,P.underlying s=some (.struct fs)∧fs[f]?=some fd:=by
  unfold fldOf at h
  split at h
  · rename_i fs hfs;exact ⟨fs,hfs,h⟩
  · cases h

theorem fad_sound (hR:Rel S0 N w0 m st a w) {s:TypeId} {f:Nat} {fd:Field} {i:TypeInfo} (hf:fldOf P s f=some fd) (hi:P.info? fd.type=some i) (hsz:i.size≠0) {y x:A} {v:Value}
    (hy:RepA m st.hp (Im S0 m st.hp w) w y v) (hcl:QaS st.hp y) (hx:fadA fd.offset y=some x) :
    ∃ u,(Instr.fieldAt s v f).run P w=.ok u w∧RepA m st.hp (Im S0 m st.hp w) w x u∧QaS st.hp x:=by
  obtain ⟨fs,hu,hfd⟩:=Qmc hf
  have run:∀ ad:Addr,(Instr.fieldAt s (.pointer (some ad)) f).run P w=.ok (.pointer (some (ad.add fd.offset))) w:=by
    intro ad
    simp [Instr.fieldAt,Instr.sureAddr,Qaj hu,hfd,fieldPlace,Qbt hi,hsz]
  cases hy with
  | ptr k o _ hs h =>
    simp only [fadA,Option.some.injEq] at hx
    subst hx
    obtain ⟨ob,hk,_⟩:=hcl
    rw [h ob hk]
    exact ⟨_,run _,.ptr _ _ _ ⟨_,rfl⟩ fun o' ho'=>by rw [QiM],⟨ob,hk,by assumption⟩⟩
  | ep k n o _ hs h =>
    simp only [fadA,Option.some.injEq] at hx
    subst hx
    obtain ⟨ad,rfl⟩:=hs
    obtain ⟨ob,hk,hes,hle⟩:=hcl
    by_cases hn:ob.n=n
    · have hv:=h ob hk hn
      cases hv
      refine ⟨_,run _,.ep _ _ _ _ ⟨_,rfl⟩ fun o' ho' _=>by rw [QiM],⟨ob,hk,hes,hle⟩⟩
    · refine ⟨_,run _,.ep _ _ _ _ ⟨_,rfl⟩ fun o' ho' hn'=>?_,⟨ob,hk,hes,hle⟩⟩
      rw [hk] at ho';cases ho';exact absurd hn' hn
  | d y _ h =>
    cases h with
    | rp cs ad vs h2 h3 h4 =>
      simp only [fadA,Option.some.injEq] at hx
      subst hx
      exact ⟨_,run _,.d _ _ (.rp _ _ _ (by rw [Addr.add_block];exact h2) (h3.drop _) (h4.drop _)),trivial⟩
    | _=>simp [fadA] at hx
  | own k n _ hs h=>simp [fadA] at hx
  | tup xs vs h=>simp [fadA] at hx
  | fn f xs vs h=>simp [fadA] at hx

theorem QiJ {k:IntKind} {n:Int}:(asIntOf (.int k n)).run P w=.ok (k,n) w:=rfl

theorem fai_sound (hR:Rel S0 N w0 m st a w) {t e:TypeId} {n:Nat} {i:TypeInfo} (ht:P.underlying t=some (.array n e)) (hi:P.info? e=some i) {k:IntKind} {j:Int} (hj:0≤j∧j<n) {y x:A} {v:Value}
    (hy:RepA m st.hp (Im S0 m st.hp w) w y v) (hcl:QaS st.hp y) (hx:fadA (j.toNat*i.size) y=some x) :
    ∃ u,(Instr.indexAt t v (.int k j)).run P w=.ok u w∧RepA m st.hp (Im S0 m st.hp w) w x u∧QaS st.hp x:=by
  have run:∀ ad:Addr,(Instr.indexAt t (.pointer (some ad)) (.int k j)).run P w=.ok (.pointer (some (ad.add (j.toNat*i.size)))) w:=by
    intro ad
    simp [Instr.indexAt,Instr.sureAddr,QiJ,Qaj ht,Qbt hi,hj]
  cases hy with
  | ptr k o _ hs h =>
    simp only [fadA,Option.some.injEq] at hx
    subst hx
    obtain ⟨ob,hk,_⟩:=hcl
    rw [h ob hk]
    exact ⟨_,run _,.ptr _ _ _ ⟨_,rfl⟩ fun o' ho'=>by rw [QiM],⟨ob,hk,by assumption⟩⟩
  | ep k n o _ hs h =>
    simp only [fadA,Option.some.injEq] at hx
    subst hx
    obtain ⟨ad,rfl⟩:=hs
    obtain ⟨ob,hk,hes,hle⟩:=hcl
    by_cases hn:ob.n=n
    · have hv:=h ob hk hn
      cases hv
      refine ⟨_,run _,.ep _ _ _ _ ⟨_,rfl⟩ fun o' ho' _=>by rw [QiM],⟨ob,hk,hes,hle⟩⟩
    · refine ⟨_,run _,.ep _ _ _ _ ⟨_,rfl⟩ fun o' ho' hn'=>?_,⟨ob,hk,hes,hle⟩⟩
      rw [hk] at ho';cases ho';exact absurd hn' hn
  | d y _ h =>
    cases h with
    | rp cs ad vs h2 h3 h4 =>
      simp only [fadA,Option.some.injEq] at hx
      subst hx
      exact ⟨_,run _,.d _ _ (.rp _ _ _ (by rw [Addr.add_block];exact h2) (h3.drop _) (h4.drop _)),trivial⟩
    | _=>simp [fadA] at hx
  | own k n _ hs h=>simp [fadA] at hx
  | tup xs vs h=>simp [fadA] at hx
  | fn f xs vs h=>simp [fadA] at hx

theorem ixa_sound (hR:Rel S0 N w0 m st a w) {t e:TypeId} {i:TypeInfo} (ht:P.underlying t=some (.slice e)) (hi:P.info? e=some i) {y x:A} {v:Value} {k:IntKind} {j:Int}
    (hy:RepA m st.hp (Im S0 m st.hp w) w y v) (hcl:QaS st.hp y) (hx:ixaA st.hp i.size j y=some x) :
    ∃ u,(Instr.indexAt t v (.int k j)).run P w=.ok u w∧RepA m st.hp (Im S0 m st.hp w) w x u∧QaS st.hp x:=by
  have run:∀ (ad:Addr) (n cap:Nat),0≤j∧j<n→(Instr.indexAt t (.slice (some ad) n cap) (.int k j)).run P w=.ok (.pointer (some (ad.add (j.toNat*i.size)))) w:=by
    intro ad n cap hj
    simp [Instr.indexAt,QiJ,Qaj ht,Qbt hi,hj]
  cases hy with
  | own q n _ hs h =>
    simp only [ixaA,Option.bind_eq_some_iff] at hx
    obtain ⟨o,hk,hx⟩:=hx
    obtain ⟨⟨hn,hj⟩,hx⟩:=Qaf hx
    simp only [Option.some.injEq] at hx
    subst hx
    obtain ⟨cap,cs,T,fz,rfl,_⟩:=h o hk hn
    refine ⟨_,run _ _ _ hj,.ep _ _ _ _ ⟨_,rfl⟩ fun o' ho' _=>by rw [QiM];simp, ?_⟩
    exact hcl
  | d y _ h =>
    cases h with
    | row n cs ad cap vs h1 h2 h3 h4 =>
      simp only [ixaA] at hx
      obtain ⟨hj,hx⟩:=Qaf hx
      simp only [Option.some.injEq] at hx
      subst hx
      exact ⟨_,run _ _ _ hj,.d _ _ (.rp _ _ _ (by rw [Addr.add_block];exact h2) (h3.drop _) (h4.drop _)),trivial⟩
    | row0 a cap =>
      simp only [ixaA] at hx
      obtain ⟨hj,hx⟩:=Qaf hx
      simp at hj;omega
    | _=>simp [ixaA] at hx
  | ptr k o _ _ h=>simp [ixaA] at hx
  | ep k n o _ _ h=>simp [ixaA] at hx
  | tup xs vs h=>simp [ixaA] at hx
  | fn f xs vs h=>simp [ixaA] at hx

theorem len_sound {y:A} {v:Value} {hp:Hp} {S:Nat→Prop} {t e:TypeId} (hu:P.underlying t=some (.slice e)) {n:Nat} (hy:RepA m hp S w y v) (hn:lenA y=some n) (ty:TypeId) :
    (Builtin.len_ #[t] ty #[v]).run P w=.ok (.int .i64 n) w:=by
  have main:∀ a c,v=.slice a n c→(Builtin.len_ #[t] ty #[v]).run P w=.ok (.int .i64 n) w:=by
    intro a c hv
    subst hv
    simp [Builtin.len_,Qaj hu,goInt]
  cases hy with
  | own q k _ hs h =>
    simp only [lenA,Option.some.injEq] at hn
    subst hn
    obtain ⟨a,cap,rfl⟩:=hs
    exact main _ _ rfl
  | d y _ h =>
    cases h with
    | zt=>simp only [lenA,Option.some.injEq] at hn;subst hn;exact main _ _ rfl
    | zf a=>simp only [lenA,Option.some.injEq] at hn;subst hn;exact main _ _ rfl
    | row n cs ad cap vs h1 h2 h3 h4=>simp only [lenA,Option.some.injEq] at hn;subst hn;exact main _ _ rfl
    | row0 a cap=>simp only [lenA,Option.some.injEq] at hn;subst hn;exact main _ _ rfl
    | _=>simp [lenA] at hn
  | ptr k o _ _ h=>simp [lenA] at hn
  | ep k n o _ _ h=>simp [lenA] at hn
  | tup xs vs h=>simp [lenA] at hn
  | fn f xs vs h=>simp [lenA] at hn

/-! ### Slices of slices -/
theorem QqI      (hR:Rel S0 N w0 m st a w) {x:Option Operand} {e:Option E} (he:compO? x=some e) {d j:Int} (hj:optI st d e=some j) :
    (x=none∧e=none∧j=d)∨∃ o k,x=some o∧a.eval o=.int k j:=by
  cases x with
  | none =>
    simp only [compO?,Option.some.injEq] at he
    subst he
    simp only [optI,Option.some.injEq] at hj
    exact .inl ⟨rfl,rfl,hj.symm⟩
  | some o =>
    simp only [compO?,Option.map_eq_some_iff] at he
    obtain ⟨e',he,rfl⟩:=he
    simp only [optI,Option.bind_eq_some_iff] at hj
    obtain ⟨y,hy,hj⟩:=hj
    obtain ⟨k,rfl⟩:=int?_some hj
    exact .inr ⟨o,k,rfl,QfB (hR.ev he hy)⟩

theorem Qde {k:IntKind} {i:Int} {y:Nat} {c:BoundsCode} (h:0≤i∧i≤y):(Instr.sliceBound (.int k i) y c).run P w=.ok i.toNat w:=by
 simp [Instr.sliceBound,QiJ,h]

theorem Qqi      (hR:Rel S0 N w0 m st a w) {lo hi mx:Option Operand} {elo ehi emx:Option E} (h1:compO? lo=some elo) (h2:compO? hi=some ehi) (h3:compO? mx=some emx)
    (hmx:mx.isSome=true→hi.isSome=true) {n cap:Nat} (hn:n≤cap) {l h:Nat} {q:Option Nat} (hb:bnds st n elo ehi emx=some (l,h,q)) (isS:Bool) :
    (Instr.sliceBounds isS n cap (lo.map a.eval) (hi.map a.eval) (mx.map a.eval)).run P w=.ok (l,h,q.getD cap) w∧l≤h∧h≤n∧(∀ x,q=some x→h≤x∧x≤n):=by
  unfold bnds at hb
  simp only [Option.bind_eq_some_iff] at hb
  obtain ⟨mm,hm,hh,hh1,ll,hl1,hb⟩:=hb
  obtain ⟨⟨hb1,hb2,hb3⟩,hb⟩:=Qaf hb
  rcases QqI hR h1 hl1 with ⟨rfl,_,rfl⟩ | ⟨ol,kl,rfl,hol⟩<;>rcases QqI hR h2 hh1 with ⟨rfl,_,rfl⟩ | ⟨oh,kh,rfl,hoh⟩
  all_goals
    cases mx with
    | none =>
      simp only [compO?,Option.some.injEq] at h3
      subst h3
      simp only [Option.some.injEq] at hm
      subst hm
      simp only [Option.some.injEq,Prod.mk.injEq] at hb
      obtain ⟨rfl,rfl,rfl⟩:=hb
      refine ⟨?_,by omega,by omega,by simp⟩
      simp only [Instr.sliceBounds,Option.map_none,Option.map_some,Sem.run_bind,Sem.run_pure,Result.andThen_ok,Option.isSome_none,Bool.false_eq_true,if_false, *]
      first
        | rfl
        | (rw [Qde (by omega)];simp;done)
        | (simp only [Qde            (P := P) (w := w) (k := kh) (i := hh) (y := cap) (c := if isS = true then BoundsCode.sliceAcap else BoundsCode.sliceAlen) (by omega), Result.andThen_ok]
           first | rfl | (rw [Qde (by omega)];simp;done) | (simp;done))
    | some om =>
      simp only [compO?,Option.map_eq_some_iff] at h3
      obtain ⟨em,hem,rfl⟩:=h3
      simp only [Option.bind_eq_some_iff,Option.map_eq_some_iff] at hm
      obtain ⟨y,hy,mi,hmi,rfl⟩:=hm
      obtain ⟨km,rfl⟩:=int?_some hmi
      have hom:a.eval om=.int km mi:=QfB (hR.ev hem hy)
      obtain ⟨hb4,hb⟩:=Qaf hb
      simp only [Option.some.injEq,Prod.mk.injEq] at hb
      obtain ⟨rfl,rfl,rfl⟩:=hb
      refine ⟨?_,by omega,by omega,by rintro x hx;cases hx;omega⟩
      first
        | (exfalso;simp at hmx;done)
        | (have r1 := Qde            (P := P) (w := w) (k := km) (i := mi) (y := cap) (c := if isS = true then BoundsCode.slice3Acap else BoundsCode.slice3Alen) (by omega)
           have r2:=Qde (P:=P) (w:=w) (k:=kh) (i:=hh) (y:=mi.toNat) (c:=BoundsCode.slice3B) (by omega)
           simp only [Instr.sliceBounds,Option.map_none,Option.map_some,Sem.run_bind,Sem.run_pure,Result.andThen_ok,Option.isSome_some,if_true,hom,hoh,r1,r2]
           first
             | rfl
             | (simp only [hol];rw [Qde (by omega)];simp;done)
             | (simp;done))

theorem slc_sound (hR:Rel S0 N w0 m st a w) {t e:TypeId} {i:TypeInfo} (ht:P.underlying t=some (.slice e)) (hi:P.info? e=some i) {lo hi' mx:Option Operand} {elo ehi emx:Option E}
    (h1:compO? lo=some elo) (h2:compO? hi'=some ehi) (h3:compO? mx=some emx) (hmx:mx.isSome=true→hi'.isSome=true) {y:A} {v:Value} {x:D}
    (hy:RepA m st.hp (Im S0 m st.hp w) w y v) (hx:slcA st i.size elo ehi emx y=some x) :
    ∃ u,(Instr.sliceAt t v (lo.map a.eval) (hi'.map a.eval) (mx.map a.eval)).run P w=.ok u w∧RepD (Im S0 m st.hp w) w x u:=by
  have run : ∀ (ad : Option Addr) (n cap l h : Nat) (q : Option Nat), n ≤ cap → bnds st n elo ehi emx = some (l, h, q) →
      (Instr.sliceAt t (.slice ad n cap) (lo.map a.eval) (hi'.map a.eval) (mx.map a.eval)).run P w=.ok (.slice (if q.getD cap=l then ad else ad.map (·.add (l*i.size))) (h-l) (q.getD cap-l)) w∧l≤h∧h≤n∧(∀ x,q=some x→h≤x∧x≤n):=by
    intro ad n cap l h q hn hb
    obtain ⟨r,b1,b2,b3⟩:=Qqi (P:=P) hR h1 h2 h3 hmx hn hb true
    refine ⟨?_,b1,b2,b3⟩
    simp only [Instr.sliceAt,Sem.run_bind,Qaj ht,Result.andThen_ok,Instr.slice,r,Qbt hi,Sem.run_pure]
  cases hy with
  | d y _ h =>
    cases h with
    | zt =>
      simp only [slcA,Option.map_eq_some_iff] at hx
      obtain ⟨⟨l,h,q⟩,hb,rfl⟩:=hx
      obtain ⟨r,b1,b2,b3⟩:=run none 0 0 l h q (Nat.le_refl _) hb
      refine ⟨_,r, ?_⟩
      have hq:q.getD 0=0:=by
        cases q with
        | none=>rfl
        | some x=>have:=b3 x rfl;simp;omega
      rw [hq,show l=0 by omega,show h=0 by omega]
      exact .zt
    | zf ad =>
      simp only [slcA,Option.map_eq_some_iff] at hx
      obtain ⟨⟨l,h,q⟩,hb,rfl⟩:=hx
      obtain ⟨r,b1,b2,b3⟩:=run ad 0 0 l h q (Nat.le_refl _) hb
      refine ⟨_,r, ?_⟩
      have hq:q.getD 0=0:=by
        cases q with
        | none=>rfl
        | some x=>have:=b3 x rfl;simp;omega
      rw [hq,show l=0 by omega,show h=0 by omega]
      exact .zf _
    | row n cs ad cap vs g1 g2 g3 g4 =>
      simp only [slcA,Option.map_eq_some_iff] at hx
      obtain ⟨⟨l,h,q⟩,hb,rfl⟩:=hx
      obtain ⟨r,b1,b2,b3⟩:=run (some ad) n cap l h q g1 hb
      refine ⟨_,r, ?_⟩
      simp only [cut]
      by_cases hq:q=some l
      · subst hq
        have:=b3 l rfl
        rw [if_pos rfl]
        simp only [Option.getD_some,if_true,Nat.sub_self,show h-l=0 by omega]
        exact .zf _
      · rw [if_neg hq]
        have hle:h-l≤q.getD cap-l:=by
          cases q with
          | none=>simp;omega
          | some x=>have:=b3 x rfl;simp;omega
        by_cases hl:q.getD cap=l
        · rw [if_pos hl]
          have e0:h-l=0:=by
            cases q with
            | none=>simp at hl;omega
            | some x=>simp at hl;subst hl;exact absurd rfl hq
          rw [e0,Nat.zero_mul,List.take_zero]
          exact .row0 _ _
        · rw [if_neg hl]
          exact .row _ _ _ _ _ hle (by rw [Addr.add_block];exact g2) ((g3.drop _).take _) ((g4.drop _).take _)
    | row0 ad cap =>
      simp only [slcA,Option.map_eq_some_iff] at hx
      obtain ⟨⟨l,h,q⟩,hb,rfl⟩:=hx
      obtain ⟨r,b1,b2,b3⟩:=run (some ad) 0 cap l h q (Nat.zero_le _) hb
      refine ⟨_,r, ?_⟩
      have hl0:l=0:=by omega
      have hh0:h=0:=by omega
      subst hl0 hh0
      simp only [cut,List.drop_nil,List.take_nil]
      by_cases hq:q=some 0
      · subst hq
        simp only [if_true,Option.getD_some,Nat.sub_self]
        exact .zf _
      · rw [if_neg hq]
        split
        · exact .row0 _ _
        · exact .row0 _ _
    | _=>simp [slcA] at hx
  | own q n _ hs h=>simp [slcA] at hx
  | ptr k o _ _ h=>simp [slcA] at hx
  | ep k n o _ _ h=>simp [slcA] at hx
  | tup xs vs h=>simp [slcA] at hx
  | fn f xs vs h=>simp [slcA] at hx

/-! ### The cells of a slice that is read -/
theorem Qlw       (hR:Rel S0 N w0 m st a w) {y:A} {v:Value} {c:Nat} {ys:List D} (hy:RepA m st.hp (Im S0 m st.hp w) w y v) (hs:src st y=some (c,ys)) :
    (Builtin.lenOf v).run P w=.ok c w∧∃ vs:List Value,RepL (Im S0 m st.hp w) w ys vs ∧
      ∀ (es k:Nat) (w':World),w'.heap=w.heap→ys.length=c*es→k≤c→(es=1∨∀ s,v≠.string s)→(Builtin.firstCells es k v).run P w'=.ok (vs.take (k*es)).toArray w':=by
  have hcw:∀ (w':World) (hw:w'.heap=w.heap) (ad:Addr),w'.cell? ad=w.cell? ad:=fun w' hw ad=>Qht (by rw [hw])
  cases hy with
  | d y _ h =>
    cases h with
    | zt =>
      simp only [src,Option.some.injEq,Prod.mk.injEq] at hs
      obtain ⟨rfl,rfl⟩:=hs
      exact ⟨rfl,[],.nil,fun es k w' _ _ hk _=>by simp [Builtin.firstCells]⟩
    | zf ad =>
      simp only [src,Option.some.injEq,Prod.mk.injEq] at hs
      obtain ⟨rfl,rfl⟩:=hs
      refine ⟨rfl,[],.nil,fun es k w' _ _ hk _=>?_⟩
      obtain rfl:k=0:=by omega
      cases ad<;>simp [Builtin.firstCells,loadCells,loadCellsFrom]
    | row n cs ad cap vs g1 g2 g3 g4 =>
      simp only [src,Option.some.injEq,Prod.mk.injEq] at hs
      obtain ⟨rfl,rfl⟩:=hs
      refine ⟨rfl,vs,g3,fun es k w' hw hl hk _=>?_⟩
      have hlen:(vs.take (k*es)).length=k*es:=by
        have:=g3.length
        have:=Nat.mul_le_mul_right es hk
        simp;omega
      have:=run_loadCells_list (P:=P) w' ad (vs.take (k*es)) (fun j u hj=>by rw [hcw w' hw];exact (g4.take _) j u hj)
      rw [hlen] at this
      simpa [Builtin.firstCells] using this
    | row0 ad cap =>
      simp only [src,Option.some.injEq,Prod.mk.injEq] at hs
      obtain ⟨rfl,rfl⟩:=hs
      refine ⟨rfl,[],.nil,fun es k w' _ _ hk _=>?_⟩
      obtain rfl:k=0:=by omega
      cases ad<;>simp [Builtin.firstCells,loadCells,loadCellsFrom]
    | v =>
      cases v with
      | string s =>
        simp only [src,Option.some.injEq,Prod.mk.injEq] at hs
        obtain ⟨rfl,rfl⟩:=hs
        refine ⟨rfl,s.data.toList.map fun b=>.int .u8 b.toNat, ?_,fun es k w' hw hl hk hor=>?_⟩
        · have key : ∀ l : List UInt8, RepL (Im S0 m st.hp w) w (l.map fun b => D.v (.int .u8 b.toNat)) (l.map fun b => .int .u8 b.toNat) := by
            intro l
            induction l with
            | nil=>exact .nil
            | cons b r ih=>exact .cons _ _ _ _ (.v _) ih
          exact key _
        · rcases hor with rfl | hor
          · simp only [Builtin.firstCells,Sem.run_pure,Nat.mul_one]
            congr 1
            apply Array.ext'
            simp [← List.map_take]
          · exact absurd rfl (hor s)
      | _=>simp [src] at hs
    | _=>simp [src] at hs
  | own q n _ hsh h =>
    simp only [src,Option.bind_eq_some_iff] at hs
    obtain ⟨o,hk,hs⟩:=hs
    obtain ⟨hn,hs⟩:=Qaf hs
    simp only [Option.map_eq_some_iff,Prod.mk.injEq] at hs
    obtain ⟨cs,hcs,rfl,rfl⟩:=hs
    obtain ⟨cap,cells,T,fz,rfl,hc,hb,hsz⟩:=h o hk hn
    obtain ⟨cells',T',fz',ho⟩:=hR.obj q o hk
    rw [ho.at_] at hb
    cases hb
    have hmap:=Qe1 hcs
    obtain ⟨vs,g1,g2⟩:=Qee ho 0 cs 0 (fun j d hj=>by rw [hmap];simp [hj])
    refine ⟨rfl,vs,g1,fun es k w' hw hl hk _=>?_⟩
    have hlen:(vs.take (k*es)).length=k*es:=by
      have:=g1.length
      have:=Nat.mul_le_mul_right es hk
      simp;omega
    have:=run_loadCells_list (P:=P) w' ⟨m q,0,none⟩ (vs.take (k*es)) (fun j u hj=>by
      rw [hcw w' hw,Qch ho.at_]
      have hj':vs[j]?=some u:=by
        rw [List.getElem?_take] at hj
        split at hj
        · exact hj
        · cases hj
      simpa using g2 j u hj')
    rw [hlen] at this
    simpa [Builtin.firstCells] using this
  | ptr k o _ _ h=>simp [src] at hs
  | ep k n o _ _ h=>simp [src] at hs
  | tup xs vs h=>simp [src] at hs
  | fn f xs vs h=>simp [src] at hs
end
end Go.AM

/- Part 5: append, copy, make. -/
namespace Go.AM
open Go Go.RowKit

section
variable {S0:Nat→Prop} {N:Nat} {w0:Wd} {m:Key→Nat} {st:St} {a:Act} {w:World} {P:Program}

theorem Qnt {S:Nat→Prop}:∀ {ys:List D} {vs:List Value},RepL S w ys vs→ys.all D.one=true→∀ v∈vs,v.oneCell'=true
 | _,_,.nil,_,v,hv=>by cases hv
 | _,_,.cons x cs u vs h t,ho,v,hv=>by
  simp only [List.all_cons,Bool.and_eq_true] at ho
  cases hv with
  | head=>exact Qnn (m:=fun _=>0) (hp:=hp0) (.d _ _ h) ho.1
  | tail _ hv=>exact Qnt t ho.2 v hv

theorem QrL      {t u e:TypeId} {i:TypeInfo} {zv:Value} (ht:P.underlying t=some (.slice e)) (hu:(∃ e',P.underlying u=some (.slice e'))∨P.underlying u=some .string) (hi:P.info? e=some i) (hz:i.zero=some zv)
    (hb:0<i.bytes) {ad:Option Addr} {n cap c:Nat} {x:Value} {olds news:List Value} (hlen:(Builtin.lenOf x).run P w=.ok c w) (hgt:cap<n+c) (hfit:(n+c)*i.bytes≤bound) (ty:TypeId)
    (h1:(Builtin.firstCells i.size n (.slice ad n cap)).run P w.drew=.ok olds.toArray w.drew) (h2:(Builtin.firstCells i.size c x).run P w.drew=.ok news.toArray w.drew) :
    (Builtin.append_ #[t,u] ty #[.slice ad n cap,x]).run P w =
      .ok (.slice (some ⟨w.heap.size,0,none⟩) (n+c) (grownCap w (n+c) cap e)) (w.drew.alloc (Go.Obj.cells (olds.toArray++news.toArray++Builtin.zeroCells zv.cells (grownCap w (n+c) cap e-(n+c))) e)):=by
  have hbound:(n+c)*i.bytes≤140737488355328:=by simp only [bound] at hfit;omega
  have hfits:=growslice_fits hgt hbound
  have hneed:n+c≤140737488355328:=Nat.le_trans (Nat.le_mul_of_pos_right _ hb) hbound
  have hn:¬ (n+c≤cap):=by omega
  have h63':¬ (9223372036854775807<((n:Int)+(c:Int))):=by omega
  have h48':¬ (281474976710656<Builtin.nextslicecap (n+c) cap*i.bytes):=by omega
  have hb':i.bytes≠0:=by omega
  rcases hu with ⟨e',hu⟩ | hu
  · simp [Builtin.append_,Qaj ht,Qaj hu,Qbt hi,Qkp hi,QdC hi hz,hlen,hn,h63',h48',hb',Question.forced,h1,h2,newRow,grownCap]
    congr 2
    apply Array.ext'
    simp [List.append_assoc]
  · simp [Builtin.append_,Qaj ht,Qaj hu,Qbt hi,Qkp hi,QdC hi hz,hlen,hn,h63',h48',hb',Question.forced,h1,h2,newRow,grownCap]
    congr 2
    apply Array.ext'
    simp [List.append_assoc]

theorem QqK      {t u e:TypeId} {i:TypeInfo} (ht:P.underlying t=some (.slice e)) (hu:(∃ e',P.underlying u=some (.slice e'))∨P.underlying u=some .string) (hi:P.info? e=some i)
    {ad:Option Addr} {n cap c:Nat} {x:Value} {news:List Value} {w':World} (hlen:(Builtin.lenOf x).run P w=.ok c w) (hle:n+c≤cap) (ty:TypeId)
    (h2:(Builtin.firstCells i.size c x).run P w=.ok news.toArray w) (hs:(match ad with | some a=>storeCells (a.add (n*i.size)) news | none=>pure ()).run P w=.ok () w') :
    (Builtin.append_ #[t,u] ty #[.slice ad n cap,x]).run P w=.ok (.slice ad (n+c) cap) w':=by
  rcases hu with ⟨e',hu⟩ | hu
  · cases ad with
    | none =>
      simp only [Sem.run_pure,Result.ok.injEq,true_and] at hs
      subst hs
      simp [Builtin.append_,Qaj ht,Qaj hu,Qbt hi,hlen,hle,h2]
    | some a =>
      simp only at hs
      simp [Builtin.append_,Qaj ht,Qaj hu,Qbt hi,hlen,hle,h2,hs]
  · cases ad with
    | none =>
      simp only [Sem.run_pure,Result.ok.injEq,true_and] at hs
      subst hs
      simp [Builtin.append_,Qaj ht,Qaj hu,Qbt hi,hlen,hle,h2]
    | some a =>
      simp only at hs
      simp [Builtin.append_,Qaj ht,Qaj hu,Qbt hi,hlen,hle,h2,hs]

theorem size_zc (z:Array Value) (n:Nat):(Builtin.zeroCells z n).size=n*z.size:=by simp [Builtin.zeroCells]

theorem app_sound (hR:Rel S0 N w0 m st a w) {t u e:TypeId} {i:TypeInfo} {zv:Value} (ht:P.underlying t=some (.slice e)) (hu:(∃ e',P.underlying u=some (.slice e'))∨P.underlying u=some .string)
    (hi:P.info? e=some i) (hz:i.zero=some zv) (hb:0<i.bytes) (hs0:0<i.size) (hzs:zv.cells.size=i.size) {y x r:A} {vy vx:Value} {k:Key} {h':Hp} {fz:Bool} {c:Nat} {ys:List D}
    (hy:RepA m st.hp (Im S0 m st.hp w) w y vy) (hcy:QaS st.hp y) (hx:RepA m st.hp (Im S0 m st.hp w) w x vx) (hsrc:src st x=some (c,ys)) (hst1:∀ s,vx=.string s→i.size=1)
    (happ:appA k st.hp fz i.size i.bytes c ys y=some (r,h')) (ty:TypeId) :
    ∃ (m':Key→Nat) (v:Value) (w':World),(Builtin.append_ #[t,u] ty #[vy,vx]).run P w=.ok v w'∧Rel S0 N w0 m' { st with hp:=h' } a w'∧RepA m' h' (Im S0 m' h' w') w' r v∧QaS h' r:=by
  obtain ⟨hlen,vs,hvs,hfirst⟩:=Qlw (P:=P) hR hx hsrc
  have hor:i.size=1∨∀ s,vx≠.string s:=by
    by_cases h:∃ s,vx=.string s
    · obtain ⟨s,hs⟩:=h;exact .inl (hst1 s hs)
    · exact .inr fun s hs=>h ⟨s,hs⟩
  have zcase : ∀ (b : Bool) (ad : Option Addr), vy = .slice ad 0 0 → RepD (Im S0 m st.hp w) w (.z b) vy → y = .d (.z b) →
      ∃ (m':Key→Nat) (v:Value) (w':World),(Builtin.append_ #[t,u] ty #[vy,vx]).run P w=.ok v w'∧Rel S0 N w0 m' { st with hp:=h' } a w'∧RepA m' h' (Im S0 m' h' w') w' r v∧QaS h' r:=by
    intro b ad hv hrep hyz
    subst hyz
    simp only [appA] at happ
    obtain ⟨⟨hfit,hl⟩,happ⟩:=Qaf happ
    have hnews:∀ w':World,w'.heap=w.heap→(Builtin.firstCells i.size c vx).run P w'=.ok vs.toArray w':=by
      intro w' hw
      rw [hfirst i.size c w' hw hl (Nat.le_refl _) hor,List.take_of_length_le]
      rw [← hvs.length,hl];exact Nat.le_refl _
    by_cases hc:c=0
    · subst hc
      rw [if_pos rfl] at happ
      simp only [Option.some.injEq,Prod.mk.injEq] at happ
      obtain ⟨rfl,rfl⟩:=happ
      have hvn:vs=[]:=List.eq_nil_of_length_eq_zero (by rw [← hvs.length,hl,Nat.zero_mul])
      subst hvn
      refine ⟨m,vy,w, ?_,hR,.d _ _ hrep,trivial⟩
      rw [hv]
      refine QqK (n:=0) (c:=0) ht hu hi hlen (Nat.le_refl _) ty (hnews w rfl) ?_
      cases ad<;>simp [storeCells]
    · rw [if_neg hc] at happ
      have hold:(Builtin.firstCells i.size 0 (.slice ad 0 0)).run P w.drew=.ok ([]:List Value).toArray w.drew:=by
        cases ad<;>simp [Builtin.firstCells,loadCells,loadCellsFrom]
      have hrun:=QrL (n:=0) (cap:=0) (ad:=ad) ht hu hi hz hb hlen (by omega) (by simpa using hfit) ty hold (hnews w.drew rfl)
      rw [Nat.zero_add] at hrun
      have hge:=grownCap_ge w c 0 e
      have hmk:=QkL hR (fz:=fz) (T:=e) (fr:=(0,0)) happ hs0 (w':=w.drew.alloc (Go.Obj.cells (([]:List Value).toArray++vs.toArray++Builtin.zeroCells zv.cells (grownCap w c 0 e-c)) e))
        rfl rfl rfl rfl hvs (cap:=grownCap w c 0 e) (fun j v hj=>by
          have hj':j<vs.length:=(List.getElem?_eq_some_iff.1 hj).1
          rw [Array.getElem?_append_left (by simpa using hj')]
          simpa using hj) hge ?_ hl (fun _ _ h=>by omega)
      · obtain ⟨m',h1,h2,h3⟩:=hmk
        exact ⟨m',_,_,by rw [hv];exact hrun,h1,h2,h3⟩
      · simp only [Array.size_append,List.size_toArray,size_zc,hzs,List.length_nil]
        rw [← hvs.length,hl,Nat.zero_add,← Nat.add_mul]
        exact Nat.mul_le_mul_right _ (by omega)
  cases hy with
  | d y _ h =>
    cases h with
    | zt=>exact zcase true none rfl .zt rfl
    | zf ad=>exact zcase false ad rfl (.zf ad) rfl
    | _=>simp [appA] at happ
  | own q n _ hsh h =>
    simp only [appA,Option.bind_eq_some_iff] at happ
    obtain ⟨o,hk,happ⟩:=happ
    obtain ⟨⟨hn,hfz,hes,hcl,hfit,hl,hone⟩,happ⟩:=Qaf happ
    obtain ⟨cap,cells,T,fr,rfl,hncap,hat,hsz⟩:=h o hk hn
    obtain ⟨cells',T',fr',ho⟩:=hR.obj q o hk
    rw [ho.at_] at hat
    cases hat
    subst hn
    rw [hes] at hsz
    have hvl:vs.length=c*i.size:=by rw [← hvs.length,hl]
    have hnews:∀ w':World,w'.heap=w.heap→(Builtin.firstCells i.size c vx).run P w'=.ok vs.toArray w':=by
      intro w' hw
      rw [hfirst i.size c w' hw hl (Nat.le_refl _) hor,List.take_of_length_le (by omega)]
    have hvone:=Qnt hvs hone
    -- the object as it stands behind
    have fin : ∀ (b : Nat) (w' : World) (cs2 : Array Value) (T2 : TypeId) (fr2 : Nat × Nat) (cap2 : Nat), (b = m q) ∨ (b = w.heap.size ∧ 0 < o.es ∧ o.n + c ≠ o.n) → w'.heap[b]? = some (Go.Obj.cells cs2 T2 fr2) →
        (∀ d,d<w.heap.size→d≠b→w'.heap[d]?=w.heap[d]?)→(b=m q→T2=T)→(b=m q→cs2.size=cells.size)→w.heap.size≤w'.heap.size→w'.os=w.os→w'.tape=w.tape→w'.output=w.output →
        (∀ j,j<cs2.size→¬ (fr2.1≤j∧j<fr2.2))→(∀ (j:Nat) (x:A),o.cs[j]?=some x→cs2[j]?=cells[j]?)→(∀ (j:Nat) (v:Value),vs[j]?=some v→cs2[o.n*i.size+j]?=some v) →
        o.n+c≤cap2→cap2*i.size≤cs2.size →
        ∃ (m':Key→Nat),Rel S0 N w0 m' { st with hp:=h' } a w'∧RepA m' h' (Im S0 m' h' w') w' r (.slice (some ⟨b,0,none⟩) (o.n+c) cap2)∧QaS h' r:=by
      intro b w' cs2 T2 fr2 cap2 hb2 hat2 hold2 hT2 hsz2 hle2 hos htp hout hfree hsame hnew hcap2 hcsz
      have hlen2:(o.cs++ys.map A.d).length≤cs2.size:=by
        have:=Nat.mul_le_mul_right i.size hcap2
        rw [Nat.add_mul] at this
        simp;omega
      have hrep2:∀ (j:Nat) (x:A),(o.cs++ys.map A.d)[j]?=some x→∃ v:Value,cs2[j]?=some v∧RepA m st.hp (Im S0 m st.hp w) w x v:=by
        intro j x hj
        by_cases hjl:j<o.cs.length
        · rw [List.getElem?_append_left hjl] at hj
          obtain ⟨v,h1,h2⟩:=ho.rep j x hj
          exact ⟨v,by rw [hsame j x hj];exact h1,h2⟩
        · rw [List.getElem?_append_right (by omega),List.getElem?_map,Option.map_eq_some_iff] at hj
          obtain ⟨d,hd,rfl⟩:=hj
          obtain ⟨v,h1,h2⟩:=hvs.get _ d hd
          have:=hnew _ v h1
          rw [show o.n*i.size+(j-o.cs.length)=j by omega] at this
          exact ⟨v,this,.d _ _ h2⟩
      have hcl2:∀ x,x∈o.cs++ys.map A.d→QaS st.hp x:=by
        intro x hx
        rcases List.mem_append.1 hx with hx | hx
        · exact hR.clh q o x hk hx
        · obtain ⟨d,_,rfl⟩:=List.mem_map.1 hx;trivial
      have chg:∀ fz2:Bool,Rel S0 N w0 (mset m q b) { st with hp:=hupd st.hp q ⟨i.size,o.n+c,o.cs++ys.map .d,fz2⟩ } a w':=fun fz2 =>
        hR.change (o':=⟨i.size,o.n+c,o.cs++ys.map .d,fz2⟩) hk (by rw [hes]) (Nat.le_add_right _ _) hfz hb2 hat2 hold2
          (fun hbq _ cs3 T3 fz3 h3=>by rw [ho.at_] at h3;cases h3;exact ⟨(hT2 hbq).symm,hsz2 hbq⟩) hle2 hos htp hout hlen2 hfree hrep2 hcl2
      refine ⟨mset m q b, ?_⟩
      cases fz with
      | false =>
        simp only [Bool.false_eq_true,if_false,Option.some.injEq,Prod.mk.injEq] at happ
        obtain ⟨rfl,rfl⟩:=happ
        refine ⟨chg false,.own q _ _ ⟨_,_,rfl⟩ fun o' ho' _=>?_,⟨⟨i.size,o.n+c,o.cs++ys.map .d,false⟩,by simp only [hupd,Qbw,if_true],hs0,Nat.le_refl _⟩⟩
        simp only [hupd,Qbw,if_true,Option.some.injEq] at ho'
        subst ho'
        exact ⟨cap2,cs2,T2,fr2,by simp [mset],hcap2,by simp only [mset,if_true];exact hat2,hcsz⟩
      | true =>
        simp only [if_true,Option.map_eq_some_iff,Prod.mk.injEq] at happ
        obtain ⟨ds,hds,rfl,rfl⟩:=happ
        have hmap:=Qe1 hds
        have hc1:=chg true
        refine ⟨hc1, ?_,trivial⟩
        obtain ⟨cs3,T3,fr3,ho3⟩:=hc1.obj q ⟨i.size,o.n+c,o.cs++ys.map .d,true⟩ (by simp only [hupd,Qbw,if_true])
        have hat3:=ho3.at_
        simp only [mset,if_true] at hat3
        rw [hat2] at hat3
        cases hat3
        obtain ⟨us,g1,g2⟩:=Qee ho3 0 (ds++ys) 0 (fun j d hj=>by
          show (o.cs++ys.map A.d)[0+0+j]?=some (A.d d)
          rw [hmap,← List.map_append,show 0+0+j=j by omega,List.getElem?_map,hj]
          rfl)
        refine .d _ _ (.row _ _ _ _ us hcap2 ⟨?_, ?_, ?_⟩ g1 ?_)
        · rcases hb2 with rfl | ⟨rfl,_⟩
          · exact hR.ge q o hk
          · exact hR.un _ (Nat.le_refl _)
        · exact (Array.getElem?_eq_some_iff.1 hat2).1
        · rintro ⟨p,op,hp,hpf,hpm⟩
          simp only [hupd,Qbw] at hp
          split at hp
          · cases hp;cases hpf
          · rename_i hne
            simp only [mset,hne,if_false] at hpm
            rcases hb2 with rfl | ⟨rfl,_⟩
            · exact hne (hR.inj p q op o hp hk hpm)
            · have:=hR.lt hp;omega
        · intro j v hj
          rw [Qch hat2]
          simpa using g2 j v hj
    by_cases hroom:o.n+c≤cap
    · -- in place
      have hfree2:∀ k',o.n*i.size+0≤k'→k'<o.n*i.size+0+vs.length→¬ (fr.1≤k'∧k'<fr.2):=by
        intro k' h1 h2
        refine ho.free k' ?_
        have:=Nat.mul_le_mul_right i.size hroom
        rw [Nat.add_mul] at this
        omega
      have hfits:o.n*i.size+0+vs.length≤cells.size:=by
        have:=Nat.mul_le_mul_right i.size hroom
        rw [Nat.add_mul] at this
        omega
      have hst:=QdK P (m q) (o.n*i.size) T fr vs 0 cells w ho.at_ hfree2 hfits hvone
      have hrun:=QqK (ad:=some ⟨m q,0,none⟩) ht hu hi hlen hroom ty (hnews w rfl) (w':=_) (by
        show (storeCells ((⟨m q,0,none⟩:Addr).add (o.n*i.size)) vs).run P w=_
        rw [QiM,Nat.zero_add];exact hst)
      have hsl:(cells.toList.take (o.n*i.size+0)++vs++cells.toList.drop (o.n*i.size+0+vs.length)).length=cells.size:=by simp;omega
      have hseg:=QjH cells.toList vs (o.n*i.size+0) (by simpa using hfits)
      obtain ⟨m',h1,h2,h3⟩:=fin (m q) (w.setRow (m q) (cells.toList.take (o.n*i.size+0)++vs++cells.toList.drop (o.n*i.size+0+vs.length)).toArray)
        (cells.toList.take (o.n*i.size+0)++vs++cells.toList.drop (o.n*i.size+0+vs.length)).toArray T fr cap (.inl rfl) (setRow_heap w _ cells _ T fr ho.at_) (fun d _ hd=>Qgs w _ _ d hd) (fun _=>rfl)
        (fun _=>by rw [List.size_toArray,hsl]) (Nat.le_of_eq (Qit w _ _).symm) rfl rfl rfl (fun j hj=>by rw [List.size_toArray,hsl] at hj;exact ho.free j hj)
        (fun j x hj=>by
          have hjl:j<o.cs.length:=(List.getElem?_eq_some_iff.1 hj).1
          rw [List.getElem?_toArray,hseg,if_pos (by omega)]
          simp)
        (fun j v hj=>by
          have hjl:j<vs.length:=(List.getElem?_eq_some_iff.1 hj).1
          rw [List.getElem?_toArray,hseg,if_neg (by omega),if_pos (by omega),show o.n*i.size+j-(o.n*i.size+0)=j by omega]
          exact hj) hroom (by rw [List.size_toArray,hsl];exact hsz)
      exact ⟨m',_,_,hrun,h1,h2,h3⟩
    · -- in a new array
      have hc0:c≠0:=by omega
      -- the old cells,as values
      obtain ⟨olds,hol1,hol2⟩:∃ olds:List Value,olds.length=o.n*i.size∧∀ j v,olds[j]?=some v→cells[j]?=some v:=by
        refine ⟨cells.toList.take (o.n*i.size),by have:=ho.size;simp;omega,fun j v hj=>?_⟩
        rw [List.getElem?_take] at hj
        split at hj
        · simpa using hj
        · cases hj
      have hfo:(Builtin.firstCells i.size o.n (.slice (some ⟨m q,0,none⟩) o.n cap)).run P w.drew=.ok olds.toArray w.drew:=by
        have:=run_loadCells_list (P:=P) w.drew ⟨m q,0,none⟩ olds (fun j v hj=>by
          rw [show w.drew.cell? ((⟨m q,0,none⟩:Addr).add j)=w.cell? ((⟨m q,0,none⟩:Addr).add j) from Qht rfl,Qch ho.at_]
          simpa using hol2 j v hj)
        rw [hol1] at this
        simpa [Builtin.firstCells] using this
      have hrun:=QrL (ad:=some ⟨m q,0,none⟩) ht hu hi hz hb hlen (by omega) hfit ty hfo (hnews w.drew rfl)
      have hge:=grownCap_ge w (o.n+c) cap e
      obtain ⟨m',h1,h2,h3⟩:=fin w.heap.size (w.drew.alloc (Go.Obj.cells (olds.toArray++vs.toArray++Builtin.zeroCells zv.cells (grownCap w (o.n+c) cap e-(o.n+c))) e))
        (olds.toArray++vs.toArray++Builtin.zeroCells zv.cells (grownCap w (o.n+c) cap e-(o.n+c))) e (0,0) (grownCap w (o.n+c) cap e) (.inr ⟨rfl,by rw [hes];exact hs0,by omega⟩)
        (heap_alloc_new w.drew _) (fun d hd _=>heap_alloc_old w.drew _ d hd) (fun hbq=>by have:=hR.lt hk;omega) (fun hbq=>by have:=hR.lt hk;omega) (by simp) rfl rfl rfl (fun _ _ h=>by simp only at h;omega)
        (fun j x hj=>by
          have hjl:j<o.cs.length:=(List.getElem?_eq_some_iff.1 hj).1
          obtain ⟨v,hv,_⟩:=ho.rep j x hj
          rw [hv,Array.append_assoc,Array.getElem?_append_left (by simp;omega),List.getElem?_toArray]
          have:olds[j]?=some (olds.getD j undef):=getD_eq olds undef j (by omega)
          rw [this,← hv]
          exact (hol2 j _ this).symm)
        (fun j v hj=>by
          have hjl:j<vs.length:=(List.getElem?_eq_some_iff.1 hj).1
          rw [Array.getElem?_append_left (by simp;omega),Array.getElem?_append_right (by simp;omega)]
          simp only [List.size_toArray,hol1,List.getElem?_toArray]
          rw [show o.n*i.size+j-o.n*i.size=j by omega]
          exact hj) hge (by
          simp only [Array.size_append,List.size_toArray,size_zc,hzs,hol1,hvl,← Nat.add_mul]
          exact Nat.mul_le_mul_right _ (by omega))
      exact ⟨m',_,_,hrun,h1,h2,h3⟩
  | ptr k o _ _ h=>simp [appA] at happ
  | ep k n o _ _ h=>simp [appA] at happ
  | tup xs vs h=>simp [appA] at happ
  | fn f xs vs h=>simp [appA] at happ
end
end Go.AM

/- Part 6: calls, and what a function owes. -/
namespace Go.AM
open Go Go.RowKit

def Ext (S:Nat→Prop) (w w':World) (b:Nat):Prop:=(S b∨w.heap.size≤b)∧b<w'.heap.size

def Qsi (S:Nat→Prop) (w w':World):R→Value→Prop
  | .d x,v=>RepD (Ext S w w') w' x v
  | .own es n cs, v => 0 < es ∧ ∃ (b cap : Nat) (cells : Array Value) (T : TypeId) (fr : Nat × Nat) (vs : List Value), w.heap.size ≤ b ∧ v = .slice (some ⟨b, 0, none⟩) n cap ∧ n ≤ cap ∧
      w'.heap[b]?=some (Go.Obj.cells cells T fr)∧cap*es≤cells.size∧(∀ i,i<cells.size→¬ (fr.1≤i∧i<fr.2))∧RepL (fun c=>Ext S w w' c∧c≠b) w' cs vs∧(∀ (i:Nat) (v:Value),vs[i]?=some v→cells[i]?=some v)∧cs.length≤cells.size

def CallOk (P:Program) (f:Nat) (ds:List D) (r:R):Prop :=
 (∃ fn,P.funcs[f]?=some fn∧fn.body.isSome=true∧fn.name ≠ "runtime.NumGoroutine")∧∀ (S:Nat→Prop) (w:World) (vs:List Value),TabOk w→RepL S w ds vs→(∀ b,S b→b<w.heap.size) →
  Calls P f vs.toArray w fun e w'=>∃ v,e=.returned v∧Below w.heap.size w w'∧Qsi S w w' r v

def Qgy (w0:Wd) (P:Program) (f:Nat) (ds:List D) (r:R):Prop :=
 (∃ fn,P.funcs[f]?=some fn∧fn.body.isSome=true∧fn.name ≠ "runtime.NumGoroutine")∧∀ (S:Nat→Prop) (w:World) (vs:List Value),Foot w0.lk w0.w w→RepL S w ds vs→(∀ b,S b→b<w.heap.size) →
  Calls P f vs.toArray w fun e w'=>∃ v,e=.returned v∧Below w.heap.size w w'∧Qsi S w w' r v
theorem CallOk.at {P:Program} {f:Nat} {ds:List D} {r:R} (h:CallOk P f ds r) {w0:Wd} (hT:TabAt w0.lk w0.w):Qgy w0 P f ds r :=
 ⟨h.1,fun S w vs hf hr hl=>h.2 S w vs (hT.here hf) hr hl⟩

section
variable {S0:Nat→Prop} {N:Nat} {w0:Wd} {m:Key→Nat} {st:St} {a:Act} {w:World} {P:Program}

theorem Rel.adopt (h:Rel S0 N w0 m st a w) {k:Key} (hk:st.hp k=none) (o:Obj) {w':World} {b:Nat} {cs:Array Value} {T:TypeId} {fz:Nat×Nat}
    (hold:∀ c,c<w.heap.size→w'.heap[c]?=w.heap[c]?) (hnew:w'.heap[b]?=some (Go.Obj.cells cs T fz)) (hb:w.heap.size≤b) (hsz':w.heap.size≤w'.heap.size)
    (hos:w'.os=w.os) (htp:w'.tape=w.tape) (hout:w'.output=w.output) (hsz:o.cs.length≤cs.size) (hfree:∀ i,i<cs.size→¬ (fz.1≤i∧i<fz.2))
    (hrep:∀ (i:Nat) (x:A),o.cs[i]?=some x→∃ v:Value,cs[i]?=some v∧RepA (mset m k b) (hupd st.hp k o) (Im S0 (mset m k b) (hupd st.hp k o) w') w' x v)
    (hcl:∀ x,x∈o.cs→QaS (hupd st.hp k o) x):Rel S0 N w0 (mset m k b) { st with hp:=hupd st.hp k o } a w':=by
  have hbel:Foot w0.lk w0.w w':=h.bel.more hos htp hout hsz' fun c hc _=>hold c hc
  have hdf:Marks S0 w0 a.defers w':=h.df.step fun b _ hd=>by rw [hold b (Qc2 hd)];exact hd
  have hget:∀ q o',hupd st.hp k o q=some o'→(q=k∧o'=o)∨(q≠k∧st.hp q=some o'):=by
    intro q o' hq
    simp only [hupd,Qbw] at hq
    split at hq
    · rename_i e;cases hq;exact .inl ⟨e,rfl⟩
    · rename_i e;exact .inr ⟨e,hq⟩
  have hIm:∀ c,Im S0 m st.hp w c→Im S0 (mset m k b) (hupd st.hp k o) w' c:=by
    rintro c ⟨h1,h2,h3⟩
    refine ⟨h1,by omega, ?_⟩
    rintro ⟨q,o',hq,hf,hm⟩
    rcases hget q o' hq with ⟨rfl,rfl⟩ | ⟨hne,hq'⟩
    · simp [mset] at hm;omega
    · exact h3 ⟨q,o',hq',hf,by simpa [mset,hne] using hm⟩
  have hIw:∀ c,Im S0 m st.hp w c→w'.heap[c]?=w.heap[c]?:=fun c hc=>hold c hc.2.1
  have hP:∀ q,QdW st.hp q→Ql0 m (mset m k b) st.hp (hupd st.hp k o) q:=by
    rintro q ⟨oq,hq,_⟩ o' ho'
    have hne:q≠k:=by rintro rfl;rw [hk] at hq;cases hq
    exact ⟨⟨oq,hq⟩,by simp [mset,hne]⟩
  have hQ:∀ q n,QdT st.hp q n→Ql7 m (mset m k b) st.hp (hupd st.hp k o) w w' q n:=by
    rintro q n ⟨oq,hq,_⟩ o' ho' hn
    have hne:q≠k:=by rintro rfl;rw [hk] at hq;cases hq
    rcases hget q o' ho' with ⟨e,_⟩ | ⟨_,hq'⟩
    · exact absurd e hne
    · exact ⟨o',hq',by simp [mset,hne],rfl,hn,fun cs' T' fz' hc=>⟨cs',fz',by rw [hold _ (h.lt hq')];exact hc,rfl⟩⟩
  have hB:∀ q,QdW st.hp q→QdW (hupd st.hp k o) q:=by
    rintro q ⟨oq,hq,he⟩
    have hne:q≠k:=by rintro rfl;rw [hk] at hq;cases hq
    exact ⟨oq,by simp [hupd,Qbw,hne,hq],he⟩
  have hA:∀ q n,QdT st.hp q n→QdT (hupd st.hp k o) q n:=by
    rintro q n ⟨oq,hq,he⟩
    have hne:q≠k:=by rintro rfl;rw [hk] at hq;cases hq
    exact ⟨oq,by simp [hupd,Qbw,hne,hq],he⟩
  have hmb:∀ q b',w0.mb q=some b'→(∃ o',hupd st.hp k o q=some o'∧o'.es=0)∧mset m k b q=b':=by
    intro q b' hq
    obtain ⟨⟨oq,h1,h2⟩,h3⟩:=h.mb q b' hq
    have hne:q≠k:=by rintro rfl;rw [hk] at h1;cases h1
    exact ⟨⟨oq,by simp [hupd,Qbw,hne,h1],h2⟩,by simp [mset,hne,h3]⟩
  refine ⟨fun i x hx=>(h.fr i x hx).mono hIm hIw _ _ (Qaw hP hQ (h.clf i x hx)), ?_, ?_,fun i x hx=>Qaw hB hA (h.clf i x hx), ?_, ?_, ?_,hbel,hdf,h.ts,fun c hc=>h.un c (Nat.le_trans hsz' hc),hmb⟩
  · intro q o' hq
    rcases hget q o' hq with ⟨rfl,rfl⟩ | ⟨hne,hq'⟩
    · exact ⟨cs,T,fz,by simp only [mset,if_true];exact hnew,hsz,hfree,hrep⟩
    · obtain ⟨cs',T',fz',hr⟩:=h.obj q o' hq'
      refine ⟨cs',T',fz',by simp only [mset,hne,if_false];rw [hold _ (h.lt hq')];exact hr.at_,hr.size,hr.free,fun i x hx=>?_⟩
      obtain ⟨v,hv,hx'⟩:=hr.rep i x hx
      exact ⟨v,hv,hx'.mono hIm hIw _ _ (Qaw hP hQ (h.clh q o' x hq' (List.mem_of_getElem? hx)))⟩
  · intro q q' o1 o2 h1 h2 he
    rcases hget q o1 h1 with ⟨rfl,rfl⟩ | ⟨hne,h1'⟩<;>rcases hget q' o2 h2 with ⟨e2,_⟩ | ⟨hne2,h2'⟩
    · exact e2.symm
    · simp only [mset,if_true,hne2,if_false] at he
      have:=h.lt h2';omega
    · subst e2
      simp only [mset,if_true,hne,if_false] at he
      have:=h.lt h1';omega
    · simp only [mset,hne,hne2,if_false] at he
      exact h.inj q q' o1 o2 h1' h2' he
  · intro q o' x hq hx
    rcases hget q o' hq with ⟨rfl,rfl⟩ | ⟨hne,hq'⟩
    · exact hcl x hx
    · exact Qaw hB hA (h.clh q o' x hq' hx)
  · intro q o' hq
    rcases hget q o' hq with ⟨rfl,rfl⟩ | ⟨hne,hq'⟩
    · simp only [mset,if_true];exact h.un _ hb
    · simp only [mset,hne,if_false];exact h.ge q o' hq'
  · intro q o' hq hf
    rcases hget q o' hq with ⟨rfl,rfl⟩ | ⟨hne,hq'⟩
    · simp only [mset,if_true];exact .inr (Nat.le_trans h.bel.size hb)
    · simp only [mset,hne,if_false];exact h.lv q o' hq' hf

theorem Qk0       (hR:Rel S0 N w0 m st a w):∀ {as:List A} {vs:List Value} {ds:List D} {b:Bool},RepAL m st.hp (Im S0 m st.hp w) w as vs→QiD   st as=some (ds,b) →
    RepL (fun c=>S0 c∧c<w.heap.size) w ds vs∧(b=true→RepL (Im S0 m st.hp w) w ds vs)
  | [],vs,ds,b,h,hd=>by
    cases h
    simp only [QiD,Option.some.injEq,Prod.mk.injEq] at hd
    obtain ⟨rfl,rfl⟩:=hd
    exact ⟨.nil,fun _=>.nil⟩
  | x :: as,vs,ds,b,h,hd=>by
    cases h with
    | cons _ _ v vs hx ht =>
      simp only [QiD,Option.bind_eq_some_iff,Option.map_eq_some_iff,Prod.mk.injEq] at hd
      obtain ⟨⟨d,b1⟩,h1,⟨ds',b2⟩,h2,rfl,rfl⟩:=hd
      obtain ⟨i1,i2⟩:=Qk0 hR ht h2
      have hsub:∀ c,Im S0 m st.hp w c→S0 c∧c<w.heap.size:=fun c hc=>⟨hc.1,hc.2.1⟩
      have one:RepD (fun c=>S0 c∧c<w.heap.size) w d v∧(b1=true→RepD (Im S0 m st.hp w) w d v):=by
        cases hx with
        | d y _ hy =>
          simp only [argD,Option.some.injEq,Prod.mk.injEq] at h1
          obtain ⟨rfl,rfl⟩:=h1
          exact ⟨hy.mono hsub (fun _ _=>rfl),fun _=>hy⟩
        | own q n _ _ hq =>
          simp only [argD,Option.bind_eq_some_iff] at h1
          obtain ⟨o,hk,h1⟩:=h1
          obtain ⟨hn,h1⟩:=Qaf h1
          simp only [Option.map_eq_some_iff,Prod.mk.injEq] at h1
          obtain ⟨cs,hcs,rfl,rfl⟩:=h1
          obtain ⟨cap,cells,T,fz,rfl,hc,hat,hsz⟩:=hq o hk hn
          obtain ⟨cells',T',fz',ho⟩:=hR.obj q o hk
          rw [ho.at_] at hat
          cases hat
          have hmap:=Qe1 hcs
          obtain ⟨us,g1,g2⟩:=Qee ho 0 cs 0 (fun j d hj=>by rw [hmap];simp [hj])
          have hcell:Cells w ⟨m q,0,none⟩ us:=fun j u hj=>by
            rw [Qch ho.at_]
            simpa using g2 j u hj
          refine ⟨.row _ _ _ _ us hc ⟨hR.ge q o hk,hR.lt hk⟩ (g1.mono hsub (fun _ _=>rfl)) hcell,fun hf=>.row _ _ _ _ us hc ⟨hR.ge q o hk,hR.lt hk, ?_⟩ g1 hcell⟩
          rintro ⟨p,op,hp,hpf,hpm⟩
          have:=hR.inj p q op o hp hk hpm
          subst this
          rw [hk] at hp
          cases hp
          rw [hf] at hpf
          cases hpf
        | ptr k o _ _ h=>simp [argD] at h1
        | ep k n o _ _ h=>simp [argD] at h1
        | tup xs vs h=>simp [argD] at h1
        | fn f xs vs h=>simp [argD] at h1
      refine ⟨.cons _ _ _ _ one.1 i1,fun hb=>?_⟩
      simp only [Bool.and_eq_true] at hb
      exact .cons _ _ _ _ (one.2 hb.1) (i2 hb.2)

theorem ret_sound (hR:Rel S0 N w0 m st a w) {k:Key} {ad b:Bool} {r:R} {x:A} {h':Hp} (hret:retA k st.hp ad b r=some (x,h')) {w':World} {v:Value} (hbel:Below w.heap.size w w')
    (hok:∃ S:Nat→Prop,(b=true→S=Im S0 m st.hp w)∧Qsi S w w' r v) :
    ∃ m',Rel S0 N w0 m' { st with hp:=h' } a w'∧RepA m' h' (Im S0 m' h' w') w' x v∧QaS h' x:=by
  obtain ⟨S,hS,hok⟩:=hok
  have hw':Rel S0 N w0 m st a w':=hR.world (hR.bel.more hbel.os hbel.tape hbel.output hbel.size fun c hc _=>hbel.block c hc) hbel.size (fun c hc _=>hbel.block c hc)
  have hext:∀ c,Ext (Im S0 m st.hp w) w w' c→Im S0 m st.hp w' c:=by
    rintro c ⟨h1 | h1,h2⟩
    · exact ⟨h1.1,h2,h1.2.2⟩
    · refine ⟨hR.un _ h1,h2, ?_⟩
      rintro ⟨q,o,hq,_,hm⟩
      have:=hR.lt hq;omega
  cases r with
  | d y =>
    simp only [retA] at hret
    obtain ⟨hc,hret⟩:=Qaf hret
    simp only [Option.some.injEq,Prod.mk.injEq] at hret
    obtain ⟨rfl,rfl⟩:=hret
    refine ⟨m,hw',.d _ _ ?_,trivial⟩
    rcases hc with hc | hc
    · have:=hS hc
      subst this
      exact RepD.mono hext (fun _ _=>rfl) hok
    · cases y with
      | v z =>
        have hok':RepD (Ext S w w') w' (.v z) v:=hok
        cases hok'
        exact .v _
      | _=>simp [D.flat] at hc
  | own es n cs =>
    simp only [retA] at hret
    obtain ⟨hc,hret⟩:=Qaf hret
    have:=hS hc
    subst this
    obtain ⟨hes,blk,cap,cells,T,fr,vs,h1,rfl,h2,h3,h4,h5,h6,h7,hlen⟩:=hok
    have hvl:=h6.length
    have hle:n*es≤cap*es:=Nat.mul_le_mul_right _ h2
    cases ad with
    | false =>
      simp only [mkA,Bool.not_false,if_true,Option.some.injEq,Prod.mk.injEq] at hret
      obtain ⟨rfl,rfl⟩:=hret
      refine ⟨m,hw',.d _ _ (.row n cs _ cap vs h2 (hext _ ⟨.inr h1,(Array.getElem?_eq_some_iff.1 h3).1⟩) (RepL.mono (fun c hc=>hext c hc.1) (fun _ _=>rfl) h6) ?_),trivial⟩
      intro j u hj
      rw [Qch h3]
      simpa using h7 j u hj
    | true =>
      simp only [mkA,Bool.not_true,Bool.false_eq_true,if_false] at hret
      obtain ⟨hk,hret⟩:=Qaf hret
      simp only [Option.some.injEq,Prod.mk.injEq] at hret
      obtain ⟨rfl,rfl⟩:=hret
      have hk':st.hp k=none:=by simpa using hk
      have hIm2:∀ c,Ext (Im S0 m st.hp w) w w' c∧c≠blk→Im S0 (mset m k blk) (hupd st.hp k ⟨es,n,cs.map .d,false⟩) w' c:=by
        rintro c ⟨hc1,hc2⟩
        obtain ⟨g1,g2,g3⟩:=hext c hc1
        refine ⟨g1,g2, ?_⟩
        rintro ⟨q,o,hq,hf,hm⟩
        simp only [hupd,Qbw] at hq
        split at hq
        · rename_i e;subst e;simp only [mset,if_true] at hm;exact hc2 hm.symm
        · rename_i e;simp only [mset,e,if_false] at hm;exact g3 ⟨q,o,hq,hf,hm⟩
      refine ⟨mset m k blk,hR.adopt hk' ⟨es,n,cs.map .d,false⟩ (fun c hc=>hbel.block c hc) h3 h1 hbel.size hbel.os hbel.tape hbel.output (by simp;omega) h5 (fun i x hx=>?_) (fun x hx=>?_), ?_, ?_⟩
      · simp only [List.getElem?_map,Option.map_eq_some_iff] at hx
        obtain ⟨d,hd,rfl⟩:=hx
        obtain ⟨u,g1,g2⟩:=h6.get i d hd
        exact ⟨u,h7 i u g1,.d _ _ (g2.mono hIm2 (fun _ _=>rfl))⟩
      · obtain ⟨d,_,rfl⟩:=List.mem_map.1 hx;trivial
      · refine .own k n _ ⟨_,_,rfl⟩ fun o ho hn=>?_
        simp only [hupd,Qbw,if_true,Option.some.injEq] at ho
        subst ho
        exact ⟨cap,cells,T,fr,by simp [mset],h2,by simp only [mset,if_true];exact h3,h4⟩
      · exact ⟨⟨es,n,cs.map .d,false⟩,by simp only [hupd,Qbw,if_true],hes,Nat.le_refl _⟩
end
end Go.AM

/- Part 7: each operation of the small language stands for the model's. -/
namespace Go.AM
open Go Go.RowKit

section
variable {S0:Nat→Prop} {N:Nat} {w0:Wd} {m:Key→Nat} {st:St} {a:Act} {w:World} {P:Program}

theorem Qgd      (hR:Rel S0 N w0 m st a w):∀ {l:List Operand} {es:List E} {as:List A},mapO QaH   l=some es→allE st es=some as →
    RepAL m st.hp (Im S0 m st.hp w) w as (l.map a.eval)∧Qe9 (QdW st.hp) (QdT st.hp) as
  | [],es,as,h,hd=>by
    simp only [mapO,Option.some.injEq] at h
    subst h
    simp only [allE,Option.some.injEq] at hd
    subst hd
    exact ⟨.nil,trivial⟩
  | x :: l,es,as,h,hd=>by
    simp only [mapO,Option.bind_eq_some_iff,Option.map_eq_some_iff] at h
    obtain ⟨e,he,es',hes,rfl⟩:=h
    simp only [allE,Option.bind_eq_some_iff,Option.map_eq_some_iff] at hd
    obtain ⟨y,hy,as',has,rfl⟩:=hd
    obtain ⟨i1,i2⟩:=Qgd hR hes has
    exact ⟨.cons _ _ _ _ (hR.ev he hy) i1,E.ev_keys hR hy,i2⟩

/-! ### The remarks -/
theorem er_call {i:I} {f:Nat} {xs:List E} (h:i.er=.call f xs false):∃ b,i=.call f xs b:=by
 cases i<;>simp [I.er] at h ⊢<;>first | exact h | (rename_i c x;cases c<;>simp [I.er] at h)
theorem er_lit {i:I} {es n:Nat} {zs:List D} {ps:List (Nat×E)} (h:i.er=.lit es n zs ps false):∃ b,i=.lit es n zs ps b:=by
 cases i<;>simp [I.er] at h ⊢<;>first | exact h | (rename_i c x;cases c<;>simp [I.er] at h)
theorem er_mkfn {i:I} {f:Nat} {xs:List E} (h:i.er=.mkfn f xs false):∃ b,i=.mkfn f xs b:=by
 cases i<;>simp [I.er] at h ⊢<;>first | exact h | (rename_i c x;cases c<;>simp [I.er] at h)
theorem er_app {i:I} {es by_:Nat} {x y:E} (h:i.er=.app es by_ x y false):∃ b,i=.app es by_ x y b:=by
 cases i<;>simp [I.er] at h ⊢<;>first | exact h | (rename_i c x;cases c<;>simp [I.er] at h)
theorem er_s2b {i:I} {x:E} (h:i.er=.conv (.s2b false) x):∃ b,i=.conv (.s2b b) x:=by
 cases i<;>simp [I.er] at h ⊢
 rename_i c y
 cases c<;>simp [I.er] at h ⊢
 exact h
def I.bare:I→Bool
 | .call .. | .lit .. | .mkfn .. | .app ..=>false
 | .conv (.s2b _) _=>false
 | _=>true
theorem Qbv {i j:I} (hj:j.bare=true) (h:i.er=j):i=j:=by
 subst h
 cases i<;>first | rfl | (simp [I.er,I.bare] at hj;done) | (rename_i c y;cases c<;>first | rfl | (simp [I.er,I.bare] at hj;done))

/-! ### One by one -/
variable {F:Fence} {n:Nat} {o:Oper} {K:Act→World→Prop} {Q:Exit→Act→World→Prop} {x:A} {h':Hp} {k:Key} {cl:Cl}

theorem QbB     (hF:FOk F) (hR:Rel S0 N w0 m st a w) (hnd:∀ c,o.op≠.defer c) {v:Value} (hr:(execOp a.eval o).run P w=.ok (.value v) w)
    (hx:RepA m st.hp (Im S0 m st.hp w) w x v) (hc:QaS st.hp x) (hh:h'=st.hp) (hK:Post S0 N w0 st h' a x o.dst K):o.wpIn F n P a w K Q:=by
  subst hh
  exact QdJ hF hnd hr (hK m v w hR hx hc)

theorem mov_ok (hF:FOk F) (hR:Rel S0 N w0 m st a w) {e:Operand} (hop:o.op=.move e∨o.op=.assign e) {i:I} (hi:QbY P o.op=some i.er) (ha:act cl k st i=some (x,h')) (hK:Post S0 N w0 st h' a x o.dst K):o.wpIn F n P a w K Q:=by
 have hc:∃ e',QaH e=some e'∧i=.mov e':=by
  rcases hop with hop | hop <;>
  ·rw [hop] at hi
   simp only [QbY,Option.map_eq_some_iff] at hi
   obtain ⟨e',h1,h2⟩:=hi
   exact ⟨e',h1,Qbv rfl h2.symm⟩
 obtain ⟨e',he,rfl⟩:=hc
 simp only [act,Option.map_eq_some_iff,Prod.mk.injEq] at ha
 obtain ⟨y,hy,rfl,rfl⟩:=ha
 refine QbB hF hR (fun c h=>by rcases hop with hop | hop<;>(rw [hop] at h;cases h)) (v:=a.eval e) ?_ (hR.ev he hy) (E.ev_keys hR hy) rfl hK
 rcases hop with hop | hop<;>simp [execOp,hop]

theorem pick_ok (hF:FOk F) (hR:Rel S0 N w0 m st a w) {c u v:Operand} (hop:o.op=.pick c u v) {i:I} (hi:QbY P o.op=some i.er) (ha:act cl k st i=some (x,h')) (hK:Post S0 N w0 st h' a x o.dst K):o.wpIn F n P a w K Q:=by
 rw [hop] at hi
 simp only [QbY,Option.map_eq_some_iff,Option.bind_eq_some_iff] at hi
 obtain ⟨c',hc,u',hu,v',hv,h2⟩:=hi
 obtain rfl:=Qbv rfl h2.symm
 simp only [act,Option.bind_eq_some_iff,Option.map_eq_some_iff,Prod.mk.injEq] at ha
 obtain ⟨y,hy,t,ht,z,hz,rfl,rfl⟩:=ha
 obtain rfl:=bool?_some ht
 have hcv:=QfB (hR.ev hc hy)
 cases t with
 | true =>
  simp only [if_true] at hz
  exact QbB hF hR (fun c h=>by rw [hop] at h;cases h) (v:=a.eval u) (by simp [execOp,hop,hcv,asBool]) (hR.ev hu hz) (E.ev_keys hR hz) rfl hK
 | false =>
  simp only [Bool.false_eq_true,if_false] at hz
  exact QbB hF hR (fun c h=>by rw [hop] at h;cases h) (v:=a.eval v) (by simp [execOp,hop,hcv,asBool]) (hR.ev hv hz) (E.ev_keys hR hz) rfl hK

theorem alloc_ok (hF:FOk F) (hR:Rel S0 N w0 m st a w) {e:TypeId} (hop:o.op=.alloc e) {i:I} (hi:QbY P o.op=some i.er) (ha:act cl k st i=some (x,h')) (hK:Post S0 N w0 st h' a x o.dst K):o.wpIn F n P a w K Q:=by
 rw [hop] at hi
 simp only [QbY,Option.map_eq_some_iff,Option.bind_eq_some_iff] at hi
 obtain ⟨j,hj,zs,hz,h2⟩:=hi
 obtain rfl:=Qbv rfl h2.symm
 obtain ⟨zv,hzv,rfl,hone⟩:=Qj4 hz
 simp only [act] at ha
 obtain ⟨hk,ha⟩:=Qaf ha
 simp only [Option.some.injEq,Prod.mk.injEq] at ha
 obtain ⟨rfl,rfl⟩:=ha
 have hk':st.hp k=none:=by simpa using hk
 have hb:=Qpa hR hk' (cs:=(zv.cells.toList.map absC).map .d) (vs:=zv.cells.toList) e (by simp) (fun i y hy=>by
  simp only [List.map_map,List.getElem?_map,Option.map_eq_some_iff,Function.comp] at hy
  obtain ⟨u,hu,rfl⟩:=hy
  exact ⟨u,hu,.d _ _ (Qrt u)⟩) (fun y hy=>by
  simp only [List.map_map,List.mem_map,Function.comp] at hy
  obtain ⟨u,_,rfl⟩:=hy
  trivial)
 refine QdJ hF (fun c h=>by rw [hop] at h;cases h) (v:=.pointer (some ⟨w.heap.size,0,none⟩)) (w':=w.alloc (Go.Obj.cells zv.cells.toList.toArray e)) ?_ (hK _ _ _ hb.1 hb.2.1 hb.2.2)
 simp [execOp,hop,Instr.alloc,QdC hj hzv,newVar,newRow]

theorem box_ok (hF:FOk F) (hR:Rel S0 N w0 m st a w) {e:TypeId} {u:Operand} (hop:o.op=.box e u) {i:I} (hi:QbY P o.op=some i.er) (ha:act cl k st i=some (x,h')) (hK:Post S0 N w0 st h' a x o.dst K):o.wpIn F n P a w K Q:=by
 rw [hop] at hi
 simp only [QbY,Option.map_eq_some_iff,Option.bind_eq_some_iff] at hi
 obtain ⟨u',hu,h2⟩:=hi
 obtain rfl:=Qbv rfl h2.symm
 simp only [act,Option.bind_eq_some_iff] at ha
 obtain ⟨y,hy,ha⟩:=ha
 obtain ⟨⟨hk,hone⟩,ha⟩:=Qaf ha
 simp only [Option.some.injEq,Prod.mk.injEq] at ha
 obtain ⟨rfl,rfl⟩:=ha
 have hk':st.hp k=none:=by simpa using hk
 obtain ⟨vs,h3,h4,h5,_⟩:=Qoz (hR.ev hu hy) hone
 have hb:=Qpa hR hk' (cs:=QaA y) (vs:=vs) e h4 h5 (Qki (E.ev_keys hR hy))
 refine QdJ hF (fun c h=>by rw [hop] at h;cases h) (v:=.pointer (some ⟨w.heap.size,0,none⟩)) (w':=w.alloc (Go.Obj.cells vs.toArray e)) ?_ (hK _ _ _ hb.1 hb.2.1 hb.2.2)
 simp [execOp,hop,Instr.box,newVar,newRow,h3]

theorem load_ok (hF:FOk F) (hR:Rel S0 N w0 m st a w) {t:TypeId} {u:Operand} (hop:o.op=.load t u) {i:I} (hi:QbY P o.op=some i.er) (ha:act cl k st i=some (x,h')) (hK:Post S0 N w0 st h' a x o.dst K):o.wpIn F n P a w K Q:=by
 rw [hop] at hi
 simp only [QbY,Option.map_eq_some_iff,Option.bind_eq_some_iff] at hi
 obtain ⟨sz,hsz,u',hu,h2⟩:=hi
 obtain rfl:=Qbv rfl h2.symm
 simp only [act,Option.bind_eq_some_iff,Option.map_eq_some_iff,Prod.mk.injEq] at ha
 obtain ⟨y,hy,z,hz,rfl,rfl⟩:=ha
 obtain ⟨v,h3,h4,h5⟩:=Qmb (P:=P) hR hsz (hR.ev hu hy) hz
 exact QbB hF hR (fun c h=>by rw [hop] at h;cases h) (v:=v) (by simp [execOp,hop,h3]) h4 h5 rfl hK

theorem store_ok (hF:FOk F) (hR:Rel S0 N w0 m st a w) {t:TypeId} {p u:Operand} (hop:o.op=.store t p u) {i:I} (hi:QbY P o.op=some i.er) (ha:act cl k st i=some (x,h')) (hK:Post S0 N w0 st h' a x o.dst K):o.wpIn F n P a w K Q:=by
 rw [hop] at hi
 simp only [QbY,Option.map_eq_some_iff,Option.bind_eq_some_iff] at hi
 obtain ⟨j,hj,p',hp,u',hu,h2⟩:=hi
 obtain rfl:=Qbv rfl h2.symm
 simp only [act,Option.bind_eq_some_iff] at ha
 obtain ⟨y,hy,z,hz,ha⟩:=ha
 obtain ⟨⟨hsz,hone⟩,ha⟩:=Qaf ha
 simp only [Option.map_eq_some_iff,Prod.mk.injEq] at ha
 obtain ⟨h2,hst,rfl,rfl⟩:=ha
 obtain ⟨m',w',h3,h4⟩:=Qp8 (P:=P) hR hj (hR.ev hp hy) (hR.ev hu hz) (E.ev_keys hR hz) hsz hone hst
 exact Qn9 hF (fun c h=>by rw [hop] at h;cases h) (w':=w') (by simp [execOp,hop,h3]) (hK m' undef w' h4 (.d _ _ (.v _)) trivial)

theorem fad_ok (hF:FOk F) (hR:Rel S0 N w0 m st a w) {t:TypeId} {u:Operand} {f:Nat} (hop:o.op=.fieldAddr t u f) {i:I} (hi:QbY P o.op=some i.er) (ha:act cl k st i=some (x,h')) (hK:Post S0 N w0 st h' a x o.dst K):o.wpIn F n P a w K Q:=by
  rw [hop] at hi
  simp only [QbY,Option.bind_eq_some_iff] at hi
  obtain ⟨fd,hfd,j,hj,hi⟩:=hi
  split at hi
  · cases hi
  · rename_i hne
    simp only [Option.map_eq_some_iff] at hi
    obtain ⟨u',hu,h2⟩:=hi
    obtain rfl:=Qbv rfl h2.symm
    simp only [act,Option.bind_eq_some_iff,Option.map_eq_some_iff,Prod.mk.injEq] at ha
    obtain ⟨y,hy,z,hz,rfl,rfl⟩:=ha
    obtain ⟨v,h3,h4,h5⟩:=fad_sound (P:=P) hR hfd hj hne (hR.ev hu hy) (E.ev_keys hR hy) hz
    exact QbB hF hR (fun c h=>by rw [hop] at h;cases h) (v:=v) (by simp [execOp,hop,h3]) h4 h5 rfl hK

theorem ixa_ok (hF:FOk F) (hR:Rel S0 N w0 m st a w) {t:TypeId} {u j:Operand} (hop:o.op=.indexAddr t u j) {i:I} (hi:QbY P o.op=some i.er) (ha:act cl k st i=some (x,h')) (hK:Post S0 N w0 st h' a x o.dst K):o.wpIn F n P a w K Q:=by
  rw [hop] at hi
  simp only [QbY] at hi
  split at hi
  · rename_i e he
    simp only [Option.map_eq_some_iff,Option.bind_eq_some_iff] at hi
    obtain ⟨inf,hinf,u',hu,j',hj,h2⟩:=hi
    obtain rfl:=Qbv rfl h2.symm
    simp only [act,Option.bind_eq_some_iff,Option.map_eq_some_iff,Prod.mk.injEq] at ha
    obtain ⟨y,hy,z,hz,jj,hjj,q,hq,rfl,rfl⟩:=ha
    obtain ⟨kd,rfl⟩:=int?_some hjj
    obtain ⟨v,h3,h4,h5⟩:=ixa_sound (P:=P) (k:=kd) hR he hinf (hR.ev hu hy) (E.ev_keys hR hy) hq
    have hjv:=QfB (hR.ev hj hz)
    exact QbB hF hR (fun c h=>by rw [hop] at h;cases h) (v:=v) (by simp [execOp,hop,hjv,h3]) h4 h5 rfl hK
  · rename_i n e he
    split at hi
    · rename_i kd c
      simp only [Option.bind_eq_some_iff] at hi
      obtain ⟨inf,hinf,hi⟩:=hi
      split at hi
      · rename_i hc
        simp only [Option.map_eq_some_iff] at hi
        obtain ⟨u',hu,h2⟩:=hi
        obtain rfl:=Qbv rfl h2.symm
        simp only [act,Option.bind_eq_some_iff,Option.map_eq_some_iff,Prod.mk.injEq] at ha
        obtain ⟨y,hy,z,hz,rfl,rfl⟩:=ha
        obtain ⟨v,h3,h4,h5⟩:=fai_sound (P:=P) (k:=kd) hR he hinf hc (hR.ev hu hy) (E.ev_keys hR hy) hz
        have hk:a.eval (.const (.int kd c))=.int kd c:=rfl
        exact QbB hF hR (fun c h=>by rw [hop] at h;cases h) (v:=v) (by simp only [execOp,hop,hk,Sem.run_bind,h3,Result.andThen_ok,Sem.run_pure]) h4 h5 rfl hK
      · cases hi
    · cases hi
  · cases hi

theorem slc_ok (hF:FOk F) (hR:Rel S0 N w0 m st a w) {t:TypeId} {u:Operand} {lo hi' mx:Option Operand} (hop:o.op=.slice t u lo hi' mx) {i:I} (hi:QbY P o.op=some i.er) (ha:act cl k st i=some (x,h')) (hK:Post S0 N w0 st h' a x o.dst K):o.wpIn F n P a w K Q:=by
  rw [hop] at hi
  simp only [QbY] at hi
  split at hi
  · -- a string
    rename_i he
    split at hi
    · cases hi
    · rename_i hmx
      simp only [Option.map_eq_some_iff,Option.bind_eq_some_iff] at hi
      obtain ⟨u',hu,elo,hlo,ehi,hhi,h2⟩:=hi
      obtain rfl:=Qbv rfl h2.symm
      have hmx':mx=none:=by cases mx with | none=>rfl | some _=>simp at hmx
      subst hmx'
      simp only [act,Option.bind_eq_some_iff,Option.map_eq_some_iff,Prod.mk.injEq] at ha
      obtain ⟨y,hy,s,hs,⟨l,h,q⟩,hb,rfl,rfl⟩:=ha
      obtain rfl:=QiU hs
      have hv:=QfB (hR.ev hu hy)
      obtain ⟨hr,b1,b2,b3⟩:=Qqi (P:=P) hR hlo hhi (mx:=none) (emx:=none) rfl (by simp) (Nat.le_refl _) hb false
      refine QbB hF hR (fun c h=>by rw [hop] at h;cases h) (v:=.string (s.extract l h)) ?_ (.d _ _ (.v _)) trivial rfl hK
      simp only [Option.map_none] at hr
      simp [execOp,hop,hv,Instr.sliceAt,Qaj he,Instr.slice,hr]
  · rename_i e he
    simp only [Option.bind_eq_some_iff] at hi
    obtain ⟨inf,hinf,hi⟩:=hi
    split at hi
    · cases hi
    · rename_i hmx
      simp only [Option.map_eq_some_iff,Option.bind_eq_some_iff] at hi
      obtain ⟨u',hu,elo,hlo,ehi,hhi,emx,hemx,h2⟩:=hi
      obtain rfl:=Qbv rfl h2.symm
      simp only [act,Option.bind_eq_some_iff,Option.map_eq_some_iff,Prod.mk.injEq] at ha
      obtain ⟨y,hy,d,hd,rfl,rfl⟩:=ha
      obtain ⟨v,h3,h4⟩:=slc_sound (P:=P) hR he hinf hlo hhi hemx (fun h=>by cases hi' with | some _=>rfl | none=>simp [h] at hmx) (hR.ev hu hy) hd
      exact QbB hF hR (fun c h=>by rw [hop] at h;cases h) (v:=v) (by simp [execOp,hop,h3]) (.d _ _ h4) trivial rfl hK
  · cases hi

theorem ext_ok (hF:FOk F) (hR:Rel S0 N w0 m st a w) {u:Operand} {j:Nat} (hop:o.op=.extract u j) {i:I} (hi:QbY P o.op=some i.er) (ha:act cl k st i=some (x,h')) (hK:Post S0 N w0 st h' a x o.dst K):o.wpIn F n P a w K Q:=by
 rw [hop] at hi
 simp only [QbY,Option.map_eq_some_iff] at hi
 obtain ⟨u',hu,h2⟩:=hi
 obtain rfl:=Qbv rfl h2.symm
 simp only [act,Option.bind_eq_some_iff,Option.map_eq_some_iff,Prod.mk.injEq] at ha
 obtain ⟨y,hy,z,hz,rfl,rfl⟩:=ha
 have hrep:=hR.ev hu hy
 have hcl:=E.ev_keys hR hy
 cases y with
 | d y =>
  cases y with
  | tup cs =>
   have hd:=QhI hrep
   generalize hv:a.eval u=v at hd
   cases hd with
   | tup _ vs hl =>
    simp only [extA,Option.map_eq_some_iff] at hz
    obtain ⟨d,hd,rfl⟩:=hz
    obtain ⟨v,h3,h4⟩:=hl.get j d hd
    exact QbB hF hR (fun c h=>by rw [hop] at h;cases h) (v:=v) (by simp [execOp,hop,hv,Instr.extract,h3]) (.d _ _ h4) trivial rfl hK
  | _=>simp [extA] at hz
 | tup xs =>
  generalize hv:a.eval u=v at hrep
  cases hrep with
  | tup _ vs hl =>
   simp only [extA] at hz
   have key:∀ {xs:List A} {vs:List Value} {j:Nat},RepAL m st.hp (Im S0 m st.hp w) w xs vs→Qe9 (QdW st.hp) (QdT st.hp) xs→xs[j]?=some z→∃ v,vs[j]?=some v∧RepA m st.hp (Im S0 m st.hp w) w z v∧QaS st.hp z:=by
    intro xs vs j h hc hj
    induction j generalizing xs vs with
    | zero =>
     cases h with
     | nil=>simp at hj
     | cons y ys u us h t=>simp at hj;subst hj;exact ⟨u,by simp,h,hc.1⟩
    | succ j ih =>
     cases h with
     | nil=>simp at hj
     | cons y ys u us h t =>
      obtain ⟨v,h1,h2,h3⟩:=ih t hc.2 (by simpa using hj)
      exact ⟨v,by simpa using h1,h2,h3⟩
   obtain ⟨v,h3,h4,h5⟩:=key hl hcl hz
   exact QbB hF hR (fun c h=>by rw [hop] at h;cases h) (v:=v) (by simp [execOp,hop,hv,Instr.extract,h3]) h4 h5 rfl hK
 | _=>simp [extA] at hz
end
end Go.AM

/- Part 8: the other operations. -/
namespace Go.AM
open Go Go.RowKit

section
variable {S0:Nat→Prop} {N:Nat} {w0:Wd} {m:Key→Nat} {st:St} {a:Act} {w:World} {P:Program}
variable {F:Fence} {n:Nat} {o:Oper} {K:Act→World→Prop} {Q:Exit→Act→World→Prop} {x:A} {h':Hp} {k:Key} {cl:Cl}

/-! ### Built values -/
theorem QiV       (hR:Rel S0 N w0 m st a w) (place:Nat→Option (Nat×Nat)) (g:Nat×Operand→Option (Nat×Nat×E))
    (hg:∀ i u off sz e,g (i,u)=some (off,sz,e)→place i=some (off,sz)∧QaH u=some e) :
    ∀ {l:List (Nat×Operand)} {qs:List (Nat×Nat×E)} {rs:List (Nat×Nat×List D)},mapO g l=some qs→QbA st qs=some rs→QpB (Im S0 m st.hp w) w place (l.map fun (p:Nat×Operand)=>(p.1,a.eval p.2)) rs
  | [],qs,rs,h,hd=>by
    simp only [mapO,Option.some.injEq] at h
    subst h
    simp only [QbA,Option.some.injEq] at hd
    subst hd
    trivial
  | (i,u) :: l,qs,rs,h,hd=>by
    simp only [mapO,Option.bind_eq_some_iff,Option.map_eq_some_iff] at h
    obtain ⟨⟨off,sz,e⟩,he,qs',hqs,rfl⟩:=h
    simp only [QbA,Option.bind_eq_some_iff,Option.map_eq_some_iff] at hd
    obtain ⟨y,hy,ds,hds,rs',hrs,rfl⟩:=hd
    obtain ⟨h1,h2⟩:=hg i u off sz e he
    exact ⟨h1,Qsj (hR.ev h2 hy) hds,QiV hR place g hg hqs hrs⟩

theorem Qpf         (fs:Array Field) (hall:fs.all (fun f=>(P.info? f.type).isSome)=true) :
    (fs.mapM fun f=>(do pure (f.offset,← sizeOf f.type):Sem (Nat×Nat))).run P w=.ok (fs.map fun f=>(f.offset,((P.info? f.type).map (·.size)).getD 0)) w:=by
  have key:∀ l:List Field,(∀ f∈l,(P.info? f.type).isSome=true)→(l.mapM fun f=>(do pure (f.offset,← sizeOf f.type):Sem (Nat×Nat))).run P w=.ok (l.map fun f=>(f.offset,((P.info? f.type).map (·.size)).getD 0)) w:=by
    intro l
    induction l with
    | nil=>intro _;rfl
    | cons f r ih =>
      intro h
      obtain ⟨i,hi⟩:=Option.isSome_iff_exists.mp (h f (by simp))
      simp only [List.mapM_cons,Sem.run_bind,Qbt hi,Result.andThen_ok,Sem.run_pure,ih (fun g hg=>h g (by simp [hg])),List.map_cons,hi,Option.map_some,Option.getD_some]
  have h2:=key fs.toList (fun f hf=>by
    have:=Array.all_eq_true_iff_forall_mem.1 hall f (Array.mem_toList_iff.1 hf)
    exact this)
  rw [← Array.toArray_toList (xs:=fs),List.mapM_toArray]
  simp only [Sem.run_map,Sem.run_bind,h2,Result.andThen_ok,Sem.run_pure,List.map_toArray]

theorem build_ok (hF:FOk F) (hR:Rel S0 N w0 m st a w) {t:TypeId} {ps:Array (Nat×Operand)} (hop:o.op=.build t ps) {i:I} (hi:QbY P o.op=some i.er) (ha:act cl k st i=some (x,h')) (hK:Post S0 N w0 st h' a x o.dst K):o.wpIn F n P a w K Q:=by
  rw [hop] at hi
  simp only [QbY,Option.bind_eq_some_iff] at hi
  obtain ⟨inf,hinf,zs,hz,hi⟩:=hi
  obtain ⟨zv,hzv,rfl,_⟩:=Qj4 hz
  have hmap:(ps.map fun (p:Nat×Operand)=>(p.1,a.eval p.2)).toList=ps.toList.map fun (p:Nat×Operand)=>(p.1,a.eval p.2):=by simp
  split at hi
  · rename_i fs hfs
    split at hi
    · rename_i hall
      simp only [Option.map_eq_some_iff] at hi
      obtain ⟨q,hq,h2⟩:=hi
      obtain rfl:=Qbv rfl h2.symm
      simp only [act,Option.bind_eq_some_iff,Option.map_eq_some_iff,Prod.mk.injEq] at ha
      obtain ⟨rs,hrs,ds,hds,rfl,rfl⟩:=ha
      have hpr:=QiV hR ((fs.map fun f=>(f.offset,((P.info? f.type).map (·.size)).getD 0))[·]?) _ (fun i u off sz e h=>by
        simp only [Option.bind_eq_some_iff,Option.map_eq_some_iff,Prod.mk.injEq] at h
        obtain ⟨f,hf,j,hj,e',he',rfl,rfl,rfl⟩:=h
        refine ⟨?_,he'⟩
        simp [hf,hj]) hq hrs
      obtain ⟨out,h3,h4⟩:=Qje _ _ _ zv.cells _ _ hpr (Qjf zv.cells.toList) hds
      refine QbB hF hR (fun c h=>by rw [hop] at h;cases h) (v:=.agg out) ?_ (.d _ _ (by simpa using RepD.agg _ _ h4)) trivial rfl hK
      simp only [execOp,hop,Sem.run_bind,Instr.build,QdC hinf hzv,Result.andThen_ok,Qaj hfs,Qpf fs hall,hmap]
      rw [h3]
      rfl
    · cases hi
  · rename_i len e he
    simp only [Option.map_eq_some_iff,Option.bind_eq_some_iff] at hi
    obtain ⟨j,hj,q,hq,h2⟩:=hi
    obtain rfl:=Qbv rfl h2.symm
    simp only [act,Option.bind_eq_some_iff,Option.map_eq_some_iff,Prod.mk.injEq] at ha
    obtain ⟨rs,hrs,ds,hds,rfl,rfl⟩:=ha
    have hpr:=QiV hR (fun i=>some (i*j.size,j.size)) _ (fun i u off sz e h=>by
      simp only [Option.map_eq_some_iff,Prod.mk.injEq] at h
      obtain ⟨e',he',rfl,rfl,rfl⟩:=h
      exact ⟨rfl,he'⟩) hq hrs
    obtain ⟨out,h3,h4⟩:=Qje _ _ _ zv.cells _ _ hpr (Qjf zv.cells.toList) hds
    refine QbB hF hR (fun c h=>by rw [hop] at h;cases h) (v:=.agg out) ?_ (.d _ _ (by simpa using RepD.agg _ _ h4)) trivial rfl hK
    simp only [execOp,hop,Sem.run_bind,Instr.build,QdC hinf hzv,Result.andThen_ok,Qaj he,Qbt hj,hmap]
    rw [h3]
    rfl
  · cases hi

theorem fillD_B (es:Nat):∀ (cs:List D) (qs:List (Nat×List D)),Qo8 es cs qs=Qdh cs (qs.map fun p=>(p.1*es,es,p.2))
 | cs,[]=>rfl
 | cs,(i,ds) :: r=>by
  simp only [Qo8,Qdh,List.map_cons]
  rw [fillD_B es]
theorem Qrw (es:Nat):∀ (ps:List (Nat×E)) (rs:List (Nat×List D)),QgR st ps=some rs→QbA st (ps.map fun p=>(p.1*es,es,p.2))=some (rs.map fun p=>(p.1*es,es,p.2))
 | [],rs,h=>by simp only [QgR,Option.some.injEq] at h;subst h;rfl
 | (i,e) :: ps,rs,h=>by
  simp only [QgR,Option.bind_eq_some_iff,Option.map_eq_some_iff] at h
  obtain ⟨y,hy,ds,hds,rs',hrs,rfl⟩:=h
  simp only [List.map_cons,QbA,hy,Option.bind_some,hds,Qrw es ps rs' hrs,Option.map_some]
theorem Qqh {α β γ:Type} (f:α→Option β) (g:β→γ):∀ (l:List α) (q:List β),mapO f l=some q→mapO (fun x=>(f x).map g) l=some (q.map g)
 | [],q,h=>by simp only [mapO,Option.some.injEq] at h;subst h;rfl
 | x :: l,q,h=>by
  simp only [mapO,Option.bind_eq_some_iff,Option.map_eq_some_iff] at h
  obtain ⟨y,hy,q',hq,rfl⟩:=h
  simp only [mapO,hy,Option.map_some,Option.bind_some,Qqh f g l q' hq,List.map_cons]
theorem Qka:∀ (qs:List (Nat×Nat×List D)) (cs ds:List D),Qdh cs qs=some ds→ds.length=cs.length
 | [],cs,ds,h=>by simp only [Qdh,Option.some.injEq] at h;subst h;rfl
 | (off,sz,d) :: r,cs,ds,h=>by
  simp only [Qdh] at h
  obtain ⟨⟨h1,h2⟩,h⟩:=Qaf h
  rw [Qka r _ _ h]
  simp;omega
theorem Qmy (n:Nat) (zs:List D):(rep n zs).length=n*zs.length:=by simp [rep]

theorem lit_ok (hF:FOk F) (hR:Rel S0 N w0 m st a w) {t:TypeId} {len:Nat} {ps:Array (Nat×Operand)} (hop:o.op=.buildSlice t len ps) {i:I} (hi:QbY P o.op=some i.er) (ha:act cl k st i=some (x,h')) (hK:Post S0 N w0 st h' a x o.dst K):o.wpIn F n P a w K Q:=by
  rw [hop] at hi
  simp only [QbY,Option.bind_eq_some_iff] at hi
  obtain ⟨⟨es,by_,zs⟩,hel,hi⟩:=hi
  obtain ⟨e,inf,zv,hu,hinf,hzv,rfl,rfl,rfl,hpos,hzs,_⟩:=Qik hel
  dsimp only at hi
  split at hi
  · rename_i hbig
    simp only [Option.map_eq_some_iff] at hi
    obtain ⟨q,hq,h2⟩:=hi
    obtain ⟨fz,rfl⟩:=er_lit h2.symm
    simp only [act,Option.bind_eq_some_iff] at ha
    obtain ⟨rs,hrs,ds,hds,ha⟩:=ha
    have hmap:(ps.map fun (p:Nat×Operand)=>(p.1,a.eval p.2)).toList=ps.toList.map fun (p:Nat×Operand)=>(p.1,a.eval p.2):=by simp
    have hpr:=QiV hR (fun i=>some (i*inf.size,inf.size)) (fun p=>((QaH p.2).map fun e=>(p.1,e)).map fun p=>(p.1*inf.size,inf.size,p.2)) (fun i u off sz e h=>by
      simp only [Option.map_map,Option.map_eq_some_iff,Function.comp,Prod.mk.injEq] at h
      obtain ⟨e',he',rfl,rfl,rfl⟩:=h
      exact ⟨rfl,he'⟩) (Qqh _ _ _ _ hq) (Qrw _ _ _ hrs)
    rw [fillD_B] at hds
    have hflat:=Qmr zv.cells len (by omega)
    have hrl:=QnX (Qjf (S:=Im S0 m st.hp w) (w:=w) zv.cells.toList) len
    rw [← hflat] at hrl
    obtain ⟨out,h3,h4⟩:=Qje _ _ _ _ _ _ hpr hrl hds
    have hdl:=Qka _ _ _ hds
    rw [Qmy] at hdl
    simp only [List.length_map,Array.length_toList,hzs] at hdl
    have hol:out.size=len*inf.size:=by rw [← Array.length_toList,← h4.length,hdl]
    obtain ⟨m',g1,g2,g3⟩:=QkL hR (T:=e) (fr:=(0,0)) ha hpos (w':=w.alloc (Go.Obj.cells out e)) rfl rfl rfl rfl h4 (cap:=len) (fun i v hv=>by simpa using hv) (Nat.le_refl _) (by rw [hol];exact Nat.le_refl _) hdl (fun _ _ h=>by omega)
    refine QdJ hF (fun c h=>by rw [hop] at h;cases h) (v:=.slice (some ⟨w.heap.size,0,none⟩) len len) (w':=w.alloc (Go.Obj.cells out e)) ?_ (hK m' _ _ g1 g2 g3)
    have hbig':¬ (len*inf.size>2^24):=by
      have:(2:Nat)^24=16777216:=by decide
      omega
    simp only [execOp,hop,Sem.run_bind,Instr.buildSlice,Qaj hu,Result.andThen_ok,Qbt hinf,hbig',if_false,hmap]
    by_cases h0:len*inf.size=0
    · have hl0:len=0:=by rcases Nat.mul_eq_zero.1 h0 with h | h<;>omega
      subst hl0
      have h3':Instr.fill (fun i=>some (i*inf.size,inf.size)) ((Array.range 0).map fun x=>(#[]:Array Value)[x%(#[]:Array Value).size]!) (ps.toList.map fun (p:Nat×Operand)=>(p.1,a.eval p.2))=some out:=by
        have e1:(Array.range 0).map (fun x=>(#[]:Array Value)[x%(#[]:Array Value).size]!)=(Array.range (0*zv.cells.size)).map (fun x=>zv.cells[x%zv.cells.size]!):=by simp
        rw [e1];exact h3
      simp only [h0,if_true,Sem.run_bind,Sem.run_pure,Result.andThen_ok]
      rw [h3']
      simp [newRow]
    · simp only [h0,if_false,Sem.run_bind,QdC hinf hzv,Result.andThen_ok,Sem.run_pure]
      rw [hzs] at h3
      rw [hzs,h3]
      simp [newRow]
  · cases hi

/-! ### Numbers, bools, strings -/
theorem binI_run {op:BinOp} {kd:IntKind} {u v:Int} {r:Value} {t:TypeId} (hs:shOp op=false) (h:binI op kd u v=some r) (x y:Operand) :
    (eqGuard op t x y (.int kd u) (.int kd v)).run P w=.ok () w∧(binOp op t (.int kd u) (.int kd v)).run P w=.ok r w:=by
  refine ⟨by rw [eqGuard_at_int];rfl, ?_⟩
  cases op<;>simp only [binI,Option.some.injEq,reduceCtorEq] at h
  case quo =>
    split at h
    · cases h
    · rename_i h0;cases h;simp [binOp,Op.intDiv,h0]
  case rem =>
    split at h
    · cases h
    · rename_i h0;cases h;simp [binOp,Op.intDiv,h0]
  all_goals
    subst h
    simp [binOp,Op.intArith,Op.intCmp,Op.intBits]

theorem shI_run {op:BinOp} {kd kd':IntKind} {u v:Int} {r:Value} {t:TypeId} (hs:shOp op=true) (h:shI op kd u v=some r) (x y:Operand) :
    (eqGuard op t x y (.int kd u) (.int kd' v)).run P w=.ok () w∧(binOp op t (.int kd u) (.int kd' v)).run P w=.ok r w:=by
  refine ⟨by rw [eqGuard_at_int];rfl, ?_⟩
  unfold shI at h
  split at h
  · cases h
  · rename_i h0
    cases op<;>simp [shOp] at hs<;>simp only [Option.some.injEq] at h<;>subst h<;>simp [binOp,Op.shift,h0]

theorem binS_run {op:BinOp} {u v:ByteArray} {r:Value} {t:TypeId} (h:binS op u v=some r) (x y:Operand) :
    (eqGuard op t x y (.string u) (.string v)).run P w=.ok () w∧(binOp op t (.string u) (.string v)).run P w=.ok r w:=by
  refine ⟨by rw [eqGuard_at_string];rfl, ?_⟩
  cases op<;>simp only [binS,Option.some.injEq,reduceCtorEq] at h
  · split at h
    · rename_i h0
      cases h
      have h2:¬ ((9223372036854775807:Int)<(u.size:Int)+(v.size:Int)):=by omega
      simp [binOp,Op.stringOp,IntKind.max,IntKind.bits,IntKind.signed,h2]
    · cases h
  · subst h;simp [binOp,Op.stringOp]
  · subst h;simp [binOp,Op.stringOp]

theorem binV_run {op:BinOp} {u v r:Value} {t:TypeId} (h:binV op u v=some r) (x y:Operand) :
    (eqGuard op t x y u v).run P w=.ok () w∧(binOp op t u v).run P w=.ok r w:=by
  unfold binV at h
  split at h
  · split at h
    · rename_i hs;exact shI_run hs h x y
    · rename_i hs
      split at h
      · rename_i hk;subst hk;exact binI_run (by simpa using hs) h x y
      · cases h
  · exact binS_run h x y
  · cases h

theorem bool_run {neg:Bool} {c d:Bool} {t:TypeId} (hd:P.underlying t=some .bool) (x y:Operand) :
    (eqGuard (if neg then .neq else .eql) t x y (.bool c) (.bool d)).run P w=.ok () w ∧
    (binOp (if neg then .neq else .eql) t (.bool c) (.bool d)).run P w=.ok (.bool (if neg then !(c==d) else c==d)) w:=by
  refine ⟨by rw [eqGuard_at_bool];rfl, ?_⟩
  have he:(Op.equal t (.bool c) (.bool d)).run P w=.ok (c==d) w:=by
    unfold Op.equal Op.maxDepth
    rw [show (10000:Nat)=9999+1 from rfl]
    unfold Op.equalIn
    simp only [Sem.run_bind,Qaj hd,Result.andThen_ok,Sem.run_pure]
  cases neg<;>simp [binOp,he]

/-! ### Equality of structs of whole numbers -/
inductive EqI:List Value→List Value→Bool→Prop
 | nil:EqI [] [] true
 | cons (k:IntKind) (a b:Int) (us vs:List Value) (r:Bool) (h:EqI us vs r):EqI (.int k a :: us) (.int k b :: vs) ((a==b)&&r)
theorem EqI.len:∀ {us vs:List Value} {r:Bool},EqI us vs r→us.length=vs.length
 | _,_,_,.nil=>rfl
 | _,_,_,.cons _ _ _ _ _ _ h=>by simp [h.len]
theorem EqI.iff:∀ {us vs:List Value} {r:Bool},EqI us vs r→(r=true↔us=vs)
 | _,_,_,.nil=>by simp
 | _,_,_,.cons k a b us vs r h=>by simp [h.iff]
theorem EqI.drop:∀ (n:Nat) {us vs:List Value} {r:Bool},EqI us vs r→∃ r',EqI (us.drop n) (vs.drop n) r'
 | 0,_,_,r,h=>⟨r,by simpa using h⟩
 | n+1,_,_,_,.nil=>⟨true,by simpa using EqI.nil⟩
 | n+1,_,_,_,.cons _ _ _ _ _ _ h=>by simpa using h.drop n
theorem EqI.take:∀ (n:Nat) {us vs:List Value} {r:Bool},EqI us vs r→∃ r',EqI (us.take n) (vs.take n) r'
 | 0,_,_,r,h=>⟨true,by simpa using EqI.nil⟩
 | n+1,_,_,_,.nil=>⟨true,by simpa using EqI.nil⟩
 | n+1,_,_,_,.cons _ _ _ _ _ _ h=>by
  obtain ⟨r',h'⟩:=h.take n
  exact ⟨_,by simpa using .cons _ _ _ _ _ _ h'⟩
theorem eqD_rep {S:Nat→Prop} {w:World}:∀ {p q:List D} {us vs:List Value} {r:Bool},RepL S w p us→RepL S w q vs→eqD p q=some r→EqI us vs r
  | p,q,us,vs,r,hp,hq,h=>by
    unfold eqD at h
    split at h
    · rename_i k a k' b
      split at h
      · rename_i hk
        subst hk
        cases h
        cases hp with
        | cons _ _ v vs h1 t1 =>
          cases hq with
          | cons _ _ v' vs' h2 t2 =>
            cases h1;cases h2;cases t1;cases t2
            simpa using EqI.cons k a b [] [] true .nil
      · cases h
    · rename_i k a r1 k' b s1 hne
      split at h
      · rename_i hk
        subst hk
        simp only [Option.map_eq_some_iff] at h
        obtain ⟨t,ht,rfl⟩:=h
        cases hp with
        | cons _ _ v vs h1 t1 =>
          cases hq with
          | cons _ _ v' vs' h2 t2 =>
            cases h1;cases h2
            exact .cons _ _ _ _ _ _ (eqD_rep t1 t2 ht)
      · cases h
    · cases h
def QiA (P:Program) (t:TypeId) (us:List Value):Value:=match P.underlying t with | some (.struct _)=>.agg us.toArray | _=>us.headD undef
theorem Qq1 {d k off:Nat} {t:TypeId} (h:eqW P d t=some k) {us:List Value} (hl:off+k≤us.length):(part t us.toArray off).run P w=.ok (QiA P t ((us.drop off).take k)) w:=by
  cases d with
  | zero=>cases h
  | succ d =>
    simp only [eqW] at h
    split at h
    · rename_i ik hik
      cases h
      have hagg:(isAgg t).run P w=.ok false w:=by
        unfold isAgg
        simp [underlying,hik]
      have hlt:off<us.length:=by omega
      simp only [part,Sem.run_bind,hagg,Result.andThen_ok,QiA,hik]
      simp [hlt,List.head?_take,List.head?_drop]
    · rename_i fs hfs
      split at h
      · cases h
      · simp only [Option.bind_eq_some_iff] at h
        obtain ⟨n,h1,i,h2,h3⟩:=h
        split at h3
        · rename_i hs
          cases h3
          have hagg:(isAgg t).run P w=.ok true w:=by
            unfold isAgg
            simp [underlying,hfs]
          have hsz:(sizeOf t).run P w=.ok k w:=by rw [Qbt h2,hs.1]
          simp only [part,Sem.run_bind,hagg,Result.andThen_ok,QiA,hfs,hsz,if_true,Sem.run_pure]
          simp [List.extract_toArray,List.extract_eq_take_drop]
        · cases h3
    · cases h
theorem Qrj      {g:TypeId→Option Nat} {us vs:List Value}:∀ (fs:List Field) (off n:Nat),eqFs P g off fs=some n→us.length=n→vs.length=n →
    off≤n∧((us.drop off=vs.drop off)↔∀ f∈fs,(us.drop f.offset).take ((g f.type).getD 0)=(vs.drop f.offset).take ((g f.type).getD 0))∧∀ f∈fs,∃ k,g f.type=some k∧f.name ≠ "_" ∧ f.offset+k≤n
  | [],off,n,h,hu,hv=>by
    simp only [eqFs,Option.some.injEq] at h
    subst h
    refine ⟨Nat.le_refl _, ?_,by simp⟩
    rw [List.drop_eq_nil_of_le (by omega),List.drop_eq_nil_of_le (by omega)]
    simp
  | f :: r,off,n,h,hu,hv=>by
    simp only [eqFs] at h
    split at h
    · rename_i hc
      obtain ⟨ho,hn⟩:=hc
      simp only [Option.bind_eq_some_iff] at h
      obtain ⟨k,hk,h⟩:=h
      obtain ⟨h1,h2,h3⟩:=Qrj r (off+k) n h hu hv
      have hsplit:∀ l:List Value,l.drop off=(l.drop off).take k++l.drop (off+k):=fun l=>by rw [← List.drop_drop,List.take_append_drop]
      refine ⟨by omega, ?_, ?_⟩
      · rw [hsplit us,hsplit vs]
        have hl:((us.drop off).take k).length=((vs.drop off).take k).length:=by simp [hu,hv]
        constructor
        · intro he f' hf'
          obtain ⟨e1,e2⟩:=List.append_inj he hl
          rcases List.mem_cons.1 hf' with rfl | hf'
          · rw [ho,hk];exact e1
          · exact h2.1 e2 f' hf'
        · intro he
          have e1:=he f (List.mem_cons_self ..)
          rw [ho,hk] at e1
          have e2:=h2.2 fun f' hf'=>he f' (List.mem_cons_of_mem _ hf')
          simp only [Option.getD_some] at e1
          rw [e1,e2]
      · intro f' hf'
        rcases List.mem_cons.1 hf' with rfl | hf'
        · exact ⟨k,hk,by simpa using hn,by omega⟩
        · exact h3 f' hf'
    · cases h
theorem Qo6 {σ:Type} {s0 sF:σ} {g:Field→σ→Sem (ForInStep σ)} {test:Field→Bool}:∀ (fs:List Field),(∀ f∈fs,(g f s0).run P w=.ok (if test f then .yield s0 else .done sF) w)→(forIn fs s0 g).run P w=.ok (if fs.all test then s0 else sF) w
 | [],_=>by simp
 | f :: r,h=>by
  rw [List.forIn_cons]
  simp only [Sem.run_bind,h f (List.mem_cons_self ..),Result.andThen_ok]
  cases ht:test f with
  | true =>
   simp only [if_true,List.all_cons,ht,Bool.true_and]
   exact Qo6 r fun f' hf'=>h f' (List.mem_cons_of_mem _ hf')
  | false=>simp [ht]
open Classical in
theorem eqW_run:∀ (d D n:Nat) (t:TypeId) (us vs:List Value) (r:Bool),d≤D→eqW P d t=some n→us.length=n→EqI us vs r→(Op.equalIn D t (QiA P t us) (QiA P t vs)).run P w=.ok r w
  | 0,_,_,_,_,_,_,_,h,_,_=>by cases h
  | d+1,0,_,_,_,_,_,hd,_,_,_=>by omega
  | d+1,D+1,n,t,us,vs,r,hd,h,hl,he=>by
    simp only [eqW] at h
    split at h
    · rename_i ik hik
      cases h
      cases he with
      | nil=>simp at hl
      | cons k a b us vs r h' =>
        cases us with
        | cons _ _=>simp at hl
        | nil =>
          cases h'
          unfold Op.equalIn
          simp [QiA,hik,Qaj hik]
    · rename_i fs hfs
      split at h
      · cases h
      · rename_i hst
        simp only [Option.bind_eq_some_iff] at h
        obtain ⟨n',h1,i,h2,h3⟩:=h
        split at h3
        · cases h3
          have hl2:vs.length=n:=by rw [← he.len,hl]
          obtain ⟨g1,g2,g3⟩:=Qrj fs.toList 0 n h1 hl hl2
          have hfield:∀ f∈fs.toList,(Op.equalIn D f.type (QiA P f.type ((us.drop f.offset).take ((eqW P d f.type).getD 0))) (QiA P f.type ((vs.drop f.offset).take ((eqW P d f.type).getD 0)))).run P w=.ok (decide ((us.drop f.offset).take ((eqW P d f.type).getD 0)=(vs.drop f.offset).take ((eqW P d f.type).getD 0))) w:=by
            intro f hf
            obtain ⟨k,k1,k2,k3⟩:=g3 f hf
            obtain ⟨r1,hr1⟩:=he.drop f.offset
            obtain ⟨r2,hr2⟩:=hr1.take k
            rw [k1]
            simp only [Option.getD_some]
            have:=eqW_run d D k f.type _ _ r2 (by omega) k1 (by simp;omega) hr2
            rw [this]
            congr 1
            have:=hr2.iff
            cases r2<;>simp_all
          have hx:∀ f∈fs.toList,(part f.type us.toArray f.offset).run P w=.ok (QiA P f.type ((us.drop f.offset).take ((eqW P d f.type).getD 0))) w:=by
            intro f hf
            obtain ⟨k,k1,k2,k3⟩:=g3 f hf
            rw [k1];exact Qq1 k1 (by omega)
          have hy:∀ f∈fs.toList,(part f.type vs.toArray f.offset).run P w=.ok (QiA P f.type ((vs.drop f.offset).take ((eqW P d f.type).getD 0))) w:=by
            intro f hf
            obtain ⟨k,k1,k2,k3⟩:=g3 f hf
            rw [k1];exact Qq1 k1 (by omega)
          unfold Op.equalIn
          have e1:QiA P t us=.agg us.toArray:=by simp [QiA,hfs]
          have e2:QiA P t vs=.agg vs.toArray:=by simp [QiA,hfs]
          rw [e1,e2]
          have hst':P.stoodInHeld t=false:=by simpa using hst
          simp only [Sem.run_bind,Qaj hfs,Result.andThen_ok,run_program,hst',Bool.false_eq_true,if_false,Sem.run_pure]
          rw [← Array.forIn_toList]
          have hall:(fs.toList.all fun f=>decide ((us.drop f.offset).take ((eqW P d f.type).getD 0)=(vs.drop f.offset).take ((eqW P d f.type).getD 0)))=r:=by
            have h4:=he.iff
            simp only [List.drop_zero] at g2
            rw [Bool.eq_iff_iff,h4,g2,List.all_eq_true]
            simp
          rw [Qo6 (σ:=Option Bool×Unit) (s0:=(none,())) (sF:=(some false,())) (test:=fun f=>decide ((us.drop f.offset).take ((eqW P d f.type).getD 0)=(vs.drop f.offset).take ((eqW P d f.type).getD 0))) fs.toList (fun f hf=>by
            obtain ⟨k,k1,k2,k3⟩:=g3 f hf
            simp only [k2,ne_eq,not_false_eq_true,if_true,Sem.run_bind,hx f hf,hy f hf,hfield f hf,Result.andThen_ok]
            cases hdd:decide ((us.drop f.offset).take ((eqW P d f.type).getD 0)=(vs.drop f.offset).take ((eqW P d f.type).getD 0))<;>simp)]
          rw [hall]
          cases r<;>simp
        · cases h3
    · cases h
theorem Qpy         {n:Nat} {t:TypeId} {fs:Array Field} (hd:P.underlying t=some (.struct fs)) (hw:eqW P 4 t=some n) (hg:P.eqGuardType P.depth t=false) {us vs:List Value} {r:Bool} (hl:us.length=n) (he:EqI us vs r) (neg:Bool) (x y:Operand) :
    (eqGuard (if neg then .neq else .eql) t x y (.agg us.toArray) (.agg vs.toArray)).run P w=.ok () w ∧
    (binOp (if neg then .neq else .eql) t (.agg us.toArray) (.agg vs.toArray)).run P w=.ok (.bool (if neg then !r else r)) w:=by
  have h1:(Op.equal t (.agg us.toArray) (.agg vs.toArray)).run P w=.ok r w:=by
    have:=eqW_run (P:=P) (w:=w) 4 Op.maxDepth n t us vs r (by decide) hw hl he
    simpa [QiA,hd,Op.equal] using this
  refine ⟨by cases neg<;>simp [eqGuard,hg], ?_⟩
  cases neg<;>simp [binOp,h1]

theorem bin_ok (hF:FOk F) (hR:Rel S0 N w0 m st a w) {op:BinOp} {t t':TypeId} {u v:Operand} (hop:o.op=.binOp op t u v t') {i:I} (hi:QbY P o.op=some i.er) (ha:act cl k st i=some (x,h')) (hK:Post S0 N w0 st h' a x o.dst K):o.wpIn F n P a w K Q:=by
  have isn:∀ (neg:Bool) (e:TypeId),op=(if neg then .neq else .eql)→P.underlying t=some (.slice e)→v=.const (.slice none 0 0)→(QaH u).map (I.isn neg)=some i.er→o.wpIn F n P a w K Q:=by
    intro neg e ho he hv hi
    simp only [Option.map_eq_some_iff] at hi
    obtain ⟨u',hu,h2⟩:=hi
    obtain rfl:=Qbv rfl h2.symm
    simp only [act,Option.bind_eq_some_iff,Option.map_eq_some_iff,Prod.mk.injEq] at ha
    obtain ⟨y,hy,b,hb,rfl,rfl⟩:=ha
    have hrep:=hR.ev hu hy
    -- is it nil?
    have hv2:∃ ad l c,a.eval u=.slice ad l c∧b=ad.isNone:=by
      generalize a.eval u=z at hrep
      cases hrep with
      | d y _ h =>
        cases h with
        | zt=>simp only [isnA,Option.some.injEq] at hb;subst hb;exact ⟨none,0,0,rfl,rfl⟩
        | row n cs ad cap vs h1 h2 h3 h4 =>
          simp only [isnA,Option.some.injEq] at hb
          subst hb
          exact ⟨some ad,n,cap,rfl,rfl⟩
        | row0 ad cap =>
          simp only [isnA,Option.some.injEq] at hb
          subst hb
          exact ⟨some ad,0,cap,rfl,rfl⟩
        | _=>simp [isnA] at hb
      | own q l _ hs h=>simp [isnA] at hb
      | ptr k o _ _ h=>simp [isnA] at hb
      | ep k n o _ _ h=>simp [isnA] at hb
      | tup xs vs h=>simp [isnA] at hb
      | fn f xs vs h=>simp [isnA] at hb
    obtain ⟨ad,l,c,hv2,rfl⟩:=hv2
    refine QbB hF hR (fun c h=>by rw [hop] at h;cases h) (v:=.bool (if neg then !ad.isNone else ad.isNone)) ?_ (.d _ _ (.v _)) trivial rfl hK
    subst ho hv
    have hval:a.eval (.const (.slice none 0 0))=.slice none 0 0:=rfl
    have hg:(eqGuard (if neg then BinOp.neq else BinOp.eql) t u (.const (.slice none 0 0)) (.slice ad l c) (.slice none 0 0)).run P w=.ok () w:=by cases neg<;>rfl
    have he2:(Op.equal t (.slice ad l c) (.slice none 0 0)).run P w=.ok ad.isNone w:=by
      unfold Op.equal Op.maxDepth
      rw [show (10000:Nat)=9999+1 from rfl]
      unfold Op.equalIn
      simp only [Sem.run_bind,Qaj he,Result.andThen_ok]
      cases ad<;>rfl
    have hb2:(binOp (if neg then BinOp.neq else BinOp.eql) t (.slice ad l c) (.slice none 0 0)).run P w=.ok (.bool (if neg then !ad.isNone else ad.isNone)) w:=by
      cases neg<;>simp [binOp,he2]
    simp only [execOp,hop,Sem.run_bind,hv2,hval,hg,Result.andThen_ok,hb2,Sem.run_pure]
  have bb:∀ (neg:Bool),op=(if neg then .neq else .eql)→P.underlying t=some .bool→((QaH u).bind fun x=>(QaH v).map fun y=>I.binb neg x y)=some i.er→o.wpIn F n P a w K Q:=by
    intro neg ho he hi
    simp only [Option.map_eq_some_iff,Option.bind_eq_some_iff] at hi
    obtain ⟨u',hu,v',hv,h2⟩:=hi
    obtain rfl:=Qbv rfl h2.symm
    simp only [act,Option.bind_eq_some_iff,Option.map_eq_some_iff,Prod.mk.injEq] at ha
    obtain ⟨y,hy,z,hz,p,hp,q,hq,rfl,rfl⟩:=ha
    obtain rfl:=bool?_some hp
    obtain rfl:=bool?_some hq
    have hue:=QfB (hR.ev hu hy)
    have hve:=QfB (hR.ev hv hz)
    obtain ⟨h3,h4⟩:=bool_run (P:=P) (w:=w) (neg:=neg) (c:=p) (d:=q) he u v
    refine QbB hF hR (fun c h=>by rw [hop] at h;cases h) (v:=.bool (if neg then !(p==q) else p==q)) ?_ (.d _ _ (.v _)) trivial rfl hK
    subst ho
    simp only [execOp,hop,Sem.run_bind,hue,hve,h3,Result.andThen_ok,h4,Sem.run_pure]
  have plain:((QaH u).bind fun x=>(QaH v).map fun y=>I.bin op x y)=some i.er→o.wpIn F n P a w K Q:=by
    intro hi
    simp only [Option.map_eq_some_iff,Option.bind_eq_some_iff] at hi
    obtain ⟨u',hu,v',hv,h2⟩:=hi
    obtain rfl:=Qbv rfl h2.symm
    simp only [act,Option.bind_eq_some_iff,Option.map_eq_some_iff,Prod.mk.injEq] at ha
    obtain ⟨y,hy,z,hz,p,hp,q,hq,r,hr,rfl,rfl⟩:=ha
    obtain rfl:=QlR hp
    obtain rfl:=QlR hq
    have hue:=QfB (hR.ev hu hy)
    have hve:=QfB (hR.ev hv hz)
    obtain ⟨h3,h4⟩:=binV_run (P:=P) (w:=w) (t:=t) hr u v
    refine QbB hF hR (fun c h=>by rw [hop] at h;cases h) (v:=r) ?_ (.d _ _ (.v _)) trivial rfl hK
    simp only [execOp,hop,Sem.run_bind,hue,hve,h3,Result.andThen_ok,h4,Sem.run_pure]
  have ss:∀ (neg:Bool) (fs:Array Field),op=(if neg then .neq else .eql)→P.underlying t=some (.struct fs)→eqT P t=true→((eqW P 4 t).bind fun n=>(QaH u).bind fun x=>(QaH v).map fun y=>I.eqs n neg x y)=some i.er→o.wpIn F n P a w K Q:=by
    intro neg fs ho he h1 hi
    simp only [Option.map_eq_some_iff,Option.bind_eq_some_iff] at hi
    obtain ⟨nn,hw,u',hu,v',hv,h2⟩:=hi
    obtain rfl:=Qbv rfl h2.symm
    simp only [act,Option.bind_eq_some_iff,Option.map_eq_some_iff,Prod.mk.injEq] at ha
    obtain ⟨y,hy,z,hz,p,hp,q,hq,ha⟩:=ha
    obtain ⟨hpl,ha⟩:=Qaf ha
    simp only [Option.map_eq_some_iff,Prod.mk.injEq] at ha
    obtain ⟨r,hr,rfl,rfl⟩:=ha
    simp only [eqT,Bool.and_eq_true,Bool.not_eq_eq_eq_not,Bool.not_true] at h1
    obtain ⟨h1,hg⟩:=h1
    have dec:∀ {e:Operand} {e':E} {y:A} {p:List D},QaH e=some e'→e'.ev st=some y→aggA y=some p→∃ vs:List Value,a.eval e=.agg vs.toArray∧RepL (Im S0 m st.hp w) w p vs:=by
      intro e e' y p h1 h2 h3
      have hrep:=hR.ev h1 h2
      generalize a.eval e=z at hrep
      cases hrep with
      | d y _ h =>
        cases h with
        | agg cs vs h =>
          simp only [aggA,Option.some.injEq] at h3
          subst h3
          exact ⟨vs,rfl,h⟩
        | _=>simp [aggA] at h3
      | _=>simp [aggA] at h3
    obtain ⟨us,hue,hur⟩:=dec hu hy hp
    obtain ⟨vs,hve,hvr⟩:=dec hv hz hq
    have hEq:=eqD_rep hur hvr hr
    have hlen:us.length=nn:=by rw [← hur.length,hpl]
    obtain ⟨h3,h4⟩:=Qpy (P:=P) (w:=w) he hw hg hlen hEq neg u v
    refine QbB hF hR (fun c h=>by rw [hop] at h;cases h) (v:=.bool (if neg then !r else r)) ?_ (.d _ _ (.v _)) trivial rfl hK
    subst ho
    simp only [execOp,hop,Sem.run_bind,hue,hve,h3,Result.andThen_ok,h4,Sem.run_pure]
  rw [hop] at hi
  simp only [QbY] at hi
  split at hi
  · rename_i e he
    exact isn false _ rfl (by assumption) rfl hi
  · rename_i e he
    exact isn true _ rfl (by assumption) rfl hi
  · exact bb false rfl (by assumption) hi
  · exact bb true rfl (by assumption) hi
  · split at hi
    · exact ss false _ rfl (by assumption) (by assumption) hi
    · cases hi
  · split at hi
    · exact ss true _ rfl (by assumption) (by assumption) hi
    · cases hi
  · split at hi
    · exact plain hi
    · cases hi

theorem un_ok (hF:FOk F) (hR:Rel S0 N w0 m st a w) {op:UnOp} {t:TypeId} {u:Operand} (hop:o.op=.unOp op t u) {i:I} (hi:QbY P o.op=some i.er) (ha:act cl k st i=some (x,h')) (hK:Post S0 N w0 st h' a x o.dst K):o.wpIn F n P a w K Q:=by
  rw [hop] at hi
  simp only [QbY,Option.map_eq_some_iff] at hi
  obtain ⟨u',hu,h2⟩:=hi
  obtain rfl:=Qbv rfl h2.symm
  simp only [act,Option.bind_eq_some_iff,Option.map_eq_some_iff,Prod.mk.injEq] at ha
  obtain ⟨y,hy,p,hp,r,hr,rfl,rfl⟩:=ha
  obtain rfl:=QlR hp
  have hue:=QfB (hR.ev hu hy)
  refine QbB hF hR (fun c h=>by rw [hop] at h;cases h) (v:=r) ?_ (.d _ _ (.v _)) trivial rfl hK
  have:(Op.unary op p).run P w=.ok r w:=by
    unfold unV at hr
    split at hr
    · split at hr
      · cases hr;simp [Op.unary,Op.intArith]
      · cases hr;simp [Op.unary,Op.intBits]
      · cases hr
    · split at hr
      · cases hr;simp [Op.unary]
      · cases hr
    · cases hr
  simp [execOp,hop,hue,this]

theorem Qlc:∀ {cs:List D} {bs:List UInt8} {S:Nat→Prop} {vs:List Value},Qk6 cs=some bs→RepL S w cs vs→∃ ns:List Int,vs=ns.map (fun n=>Value.int .u8 n)∧bs=ns.map fun n=>UInt8.ofNat n.toNat
  | [],bs,S,vs,h,hr=>by
    cases hr
    simp only [Qk6,Option.some.injEq] at h
    subst h
    exact ⟨[],rfl,rfl⟩
  | c :: cs,bs,S,vs,h,hr=>by
    cases hr with
    | cons _ _ v vs hv ht =>
      unfold Qk6 at h
      split at h
      · rename_i heq;cases heq
      · rename_i n r heq
        cases heq
        simp only [Option.map_eq_some_iff] at h
        obtain ⟨bs',h1,rfl⟩:=h
        obtain ⟨ns,rfl,rfl⟩:=Qlc h1 ht
        cases hv
        exact ⟨n :: ns,rfl,rfl⟩
      · cases h
end
end Go.AM

/- Part 9: conversions, functions, makes, lengths. -/
namespace Go.AM
open Go Go.RowKit

section
variable {S0:Nat→Prop} {N:Nat} {w0:Wd} {m:Key→Nat} {st:St} {a:Act} {w:World} {P:Program}
variable {F:Fence} {n:Nat} {o:Oper} {K:Act→World→Prop} {Q:Exit→Act→World→Prop} {x:A} {h':Hp} {k:Key} {cl:Cl}

theorem Qpz (ns:List Int) (bs:List UInt8) (h:bs=ns.map fun n=>UInt8.ofNat n.toNat):∀ r:ByteArray,ns.foldl (fun r n=>r.push (UInt8.ofNat n.toNat)) r=⟨r.data++bs.toArray⟩:=by
 subst h
 induction ns with
 | nil=>intro r;simp
 | cons b r ih =>
  intro s
  simp only [List.foldl_cons,List.map_cons]
  rw [ih]
  congr 1
  apply Array.ext'
  simp [ByteArray.push]

theorem QkV {st:St} {y:A} {p:Nat×List D} {m:Key→Nat} {hp:Hp} {S:Nat→Prop} {w:World} {v:Value} (hy:RepA m hp S w y v) (hs:srcS st y=some p):src st y=some p∧∀ s,v≠.string s:=by
  unfold srcS at hs
  split at hs
  · cases hs
  · rename_i hne
    refine ⟨hs, ?_⟩
    rintro s rfl
    cases hy with
    | d y _ h=>cases h with
      | v=>exact hne _ rfl
    | own q l _ hsh h=>obtain ⟨_,_,hh⟩:=hsh;cases hh
    | ptr k o _ hsh h=>obtain ⟨_,hh⟩:=hsh;cases hh
    | ep k n o _ hsh h=>obtain ⟨_,hh⟩:=hsh;cases hh

theorem conv_run {y:A} {v:Value} {c:Nat} {cs:List D} {bs:List UInt8} (hR:Rel S0 N w0 m st a w) (hy:RepA m st.hp (Im S0 m st.hp w) w y v)
    (hs:srcS st y=some (c,cs)) (hb:Qk6 cs=some bs) {s d e:TypeId} (hsT:P.underlying s=some (.slice e)) (he:P.underlying e=some (.int .u8)) (hd:P.underlying d=some .string) (hlen:cs.length=c) :
    (convert s d v).run P w=.ok (.string ⟨bs.toArray⟩) w:=by
  obtain ⟨hs1,hns⟩:=QkV hy hs
  obtain ⟨hl,vs,hvs,hf⟩:=Qlw (P:=P) hR hy hs1
  obtain ⟨ns,rfl,rfl⟩:=Qlc hb hvs
  have hfc:=hf 1 c w rfl (by omega) (Nat.le_refl _) (.inl rfl)
  have hnl:ns.length=c:=by have:=hvs.length;simp at this;omega
  rw [List.take_of_length_le (by simp;omega)] at hfc
  cases v<;>simp [Builtin.lenOf] at hl
  case string s=>exact absurd rfl (hns s)
  case slice ad l cap =>
    subst hl
    rw [run_convert_bytes_string w s d e ad l cap hsT he hd]
    cases ad with
    | none =>
      simp only [Builtin.firstCells,Sem.run_pure,Result.ok.injEq,and_true] at hfc
      have hn0:ns=[]:=by
        cases ns with
        | nil=>rfl
        | cons a r=>simp at hfc
      subst hn0
      simp [Conv.bytesToString]
      rfl
    | some ad =>
      simp only [Builtin.firstCells,Nat.mul_one] at hfc
      rw [run_bytesToString w ad l cap ns (by simpa using hfc),Qpz ns _ rfl]
      have he0:ByteArray.empty.data=#[]:=rfl
      rw [he0]
      simp

theorem conv_ok (hF:FOk F) (hR:Rel S0 N w0 m st a w) {s d:TypeId} {u:Operand} (hop:o.op=.convert s d u) {i:I} (hi:QbY P o.op=some i.er) (ha:act cl k st i=some (x,h')) (hK:Post S0 N w0 st h' a x o.dst K):o.wpIn F n P a w K Q:=by
  rw [hop] at hi
  simp only [QbY] at hi
  split at hi
  · rename_i ks kd hs hd
    simp only [Option.map_eq_some_iff] at hi
    obtain ⟨u',hu,h2⟩:=hi
    obtain rfl:=Qbv rfl h2.symm
    simp only [act,Option.bind_eq_some_iff,Option.map_eq_some_iff,Prod.mk.injEq] at ha
    obtain ⟨y,hy,j,hj,rfl,rfl⟩:=ha
    obtain ⟨kk,rfl⟩:=int?_some hj
    have hue:=QfB (hR.ev hu hy)
    refine QbB hF hR (fun c h=>by rw [hop] at h;cases h) (v:=.int kd (kd.wrap j)) ?_ (.d _ _ (.v _)) trivial rfl hK
    simp [execOp,hop,hue,convert,Qaj hs,Qaj hd,Conv.intToInt]
  · rename_i e hs hd
    split at hi
    · rename_i he
      simp only [Option.map_eq_some_iff] at hi
      obtain ⟨u',hu,h2⟩:=hi
      obtain rfl:=Qbv rfl h2.symm
      simp only [act,Option.bind_eq_some_iff,Option.map_eq_some_iff,Prod.mk.injEq] at ha
      obtain ⟨y,hy,⟨c,cs⟩,hsr,hg⟩:=ha
      obtain ⟨hlen,hg⟩:=Qaf hg
      simp only [Option.map_eq_some_iff,Prod.mk.injEq] at hg
      obtain ⟨bs,hb,rfl,rfl⟩:=hg
      have hrun:=conv_run (P:=P) hR (hR.ev hu hy) hsr hb hs he hd hlen
      refine QbB hF hR (fun c h=>by rw [hop] at h;cases h) (v:=.string ⟨bs.toArray⟩) ?_ (.d _ _ (.v _)) trivial rfl hK
      simp [execOp,hop,hrun]
    · cases hi
  · rename_i e hs hd
    split at hi
    · rename_i he
      simp only [Option.map_eq_some_iff] at hi
      obtain ⟨u',hu,h2⟩:=hi
      obtain ⟨fz,rfl⟩:=er_s2b h2.symm
      simp only [act,Option.bind_eq_some_iff] at ha
      obtain ⟨y,hy,s',hs',ha⟩:=ha
      obtain rfl:=QiU hs'
      have hue:=QfB (hR.ev hu hy)
      have hrun:=run_bytes_of_string w s d e s' hs hd he
      have hge:=grownCap_ge w s'.size 0 e
      have hrl:∀ l:List UInt8,RepL (Im S0 m st.hp w) w (l.map fun b=>D.v (.int .u8 b.toNat)) (l.map fun b=>Value.int .u8 b.toNat):=by
        intro l
        induction l with
        | nil=>exact .nil
        | cons b r ih=>exact .cons _ _ _ _ (.v _) ih
      have hsl:s'.data.toList.length=s'.size:=by simp
      have hbr:(bytesRow s' (grownCap w s'.size 0 e)).size=grownCap w s'.size 0 e:=by
        simp [bytesRow];omega
      obtain ⟨m',g1,g2,g3⟩:=QkL hR (T:=e) (fr:=((bytesRow s' (grownCap w s'.size 0 e)).size,(bytesRow s' (grownCap w s'.size 0 e)).size+1)) ha (by omega)
        (w':=w.drew.alloc (Go.Obj.cells (bytesRow s' (grownCap w s'.size 0 e)) e ((bytesRow s' (grownCap w s'.size 0 e)).size,(bytesRow s' (grownCap w s'.size 0 e)).size+1)))
        rfl rfl rfl rfl (hrl s'.data.toList) (cap:=grownCap w s'.size 0 e) (fun i v hv=>by
          have hil:i<s'.data.toList.length:=by
            have:=(List.getElem?_eq_some_iff.1 hv).1
            simpa using this
          simp only [bytesRow]
          rw [Array.getElem?_append_left (by simpa using hil)]
          simpa using hv) hge (by rw [hbr];omega) (by simp) (fun i hi hh=>by omega)
      refine QdJ hF (fun c h=>by rw [hop] at h;cases h) (v:=.slice (some ⟨w.heap.size,0,none⟩) s'.size (grownCap w s'.size 0 e))
        (w':=w.drew.alloc (Go.Obj.cells (bytesRow s' (grownCap w s'.size 0 e)) e ((bytesRow s' (grownCap w s'.size 0 e)).size,(bytesRow s' (grownCap w s'.size 0 e)).size+1))) ?_ (hK m' _ _ g1 g2 g3)
      simp only [execOp,hop,hue,Sem.run_bind,hrun,Result.andThen_ok,Sem.run_pure]
    · cases hi
  · cases hi

/-! ### Functions as values -/
theorem Qha:∀ (as:List A) (h:Hp) (q:Key),(∀ o,h q=some o→∃ o',Qdq h as q=some o'∧o'.es=o.es∧o'.n=o.n∧o'.cs=o.cs∧(o.fz=true→o'.fz=true)∧(A.ptr q 0∈as→o'.fz=true))∧(h q=none→Qdq h as q=none)
  | [],h,q=>⟨fun o ho=>⟨o,ho,rfl,rfl,rfl,id,by simp⟩,id⟩
  | x :: r,h,q=>by
    have other:Qdq h (x :: r)=Qdq h r→(x≠A.ptr q 0)→(∀ o,h q=some o→∃ o',Qdq h (x :: r) q=some o'∧o'.es=o.es∧o'.n=o.n∧o'.cs=o.cs∧(o.fz=true→o'.fz=true)∧(A.ptr q 0∈x :: r→o'.fz=true))∧(h q=none→Qdq h (x :: r) q=none):=by
      intro he hx
      rw [he]
      obtain ⟨i1,i2⟩:=Qha r h q
      refine ⟨fun o ho=>?_,i2⟩
      obtain ⟨o',g1,g2,g3,g4,g5,g6⟩:=i1 o ho
      refine ⟨o',g1,g2,g3,g4,g5,fun hm=>g6 ?_⟩
      rcases List.mem_cons.1 hm with h | h
      · exact absurd h.symm hx
      · exact h
    cases x with
    | ptr p off =>
      cases off with
      | succ off=>exact other rfl (by simp)
      | zero =>
        cases hp:h p with
        | none =>
          have he:Qdq h (.ptr p 0 :: r)=Qdq h r:=by simp [Qdq,hp]
          rw [he]
          obtain ⟨i1,i2⟩:=Qha r h q
          refine ⟨fun o ho=>?_,i2⟩
          obtain ⟨o',g1,g2,g3,g4,g5,g6⟩:=i1 o ho
          refine ⟨o',g1,g2,g3,g4,g5,fun hm=>g6 ?_⟩
          rcases List.mem_cons.1 hm with h | h
          · cases h;rw [hp] at ho;cases ho
          · exact h
        | some ob =>
          have he:Qdq h (.ptr p 0 :: r)=Qdq (hupd h p { ob with fz:=true }) r:=by simp [Qdq,hp]
          rw [he]
          obtain ⟨i1,i2⟩:=Qha r (hupd h p { ob with fz:=true }) q
          by_cases hq:q=p
          · subst hq
            have hat:hupd h q { ob with fz:=true } q=some { ob with fz:=true }:=by simp [hupd,Qbw]
            refine ⟨fun o ho=>?_,fun ho=>by rw [hp] at ho;cases ho⟩
            rw [hp] at ho
            cases ho
            obtain ⟨o',g1,g2,g3,g4,g5,g6⟩:=i1 _ hat
            exact ⟨o',g1,g2,g3,g4,fun _=>g5 rfl,fun _=>g5 rfl⟩
          · have hat:hupd h p { ob with fz:=true } q=h q:=by simp [hupd,Qbw,hq]
            rw [hat] at i1 i2
            refine ⟨fun o ho=>?_,i2⟩
            obtain ⟨o',g1,g2,g3,g4,g5,g6⟩:=i1 o ho
            refine ⟨o',g1,g2,g3,g4,g5,fun hm=>g6 ?_⟩
            rcases List.mem_cons.1 hm with h | h
            · cases h;exact absurd rfl hq
            · exact h
    | d y=>exact other rfl (by simp)
    | own q n=>exact other rfl (by simp)
    | ep q n o=>exact other rfl (by simp)
    | tup xs=>exact other rfl (by simp)
    | fn f xs=>exact other rfl (by simp)

theorem Qeh:∀ (as:List A) {st:St},Rel S0 N w0 m st a w→Rel S0 N w0 m { st with hp:=Qdq st.hp as } a w
 | [],st,h=>h
 | x :: r,st,h=>by
  cases x with
  | ptr p off =>
   cases off with
   | succ off=>exact Qeh r h
   | zero =>
    cases hp:st.hp p with
    | none =>
     have he:Qdq st.hp (.ptr p 0 :: r)=Qdq st.hp r:=by simp [Qdq,hp]
     rw [he];exact Qeh r h
    | some ob =>
     have he:Qdq st.hp (.ptr p 0 :: r)=Qdq (hupd st.hp p { ob with fz:=true }) r:=by simp [Qdq,hp]
     rw [he];exact Qeh r (h.freeze hp)
  | d y=>exact Qeh r h
  | own q n=>exact Qeh r h
  | ep q n o=>exact Qeh r h
  | tup xs=>exact Qeh r h
  | fn f xs=>exact Qeh r h

theorem Qnx      (hR:Rel S0 N w0 m st a w) (all:List A):∀ (as:List A) (vs:List Value) (ds:List D),(∀ x,x∈as→x∈all)→RepAL m st.hp (Im S0 m st.hp w) w as vs→snap st as=some ds →
    RepL (Im S0 m (Qdq st.hp all) w) w ds vs
  | [],vs,ds,_,h,hs=>by
    cases h
    simp only [snap,Option.some.injEq] at hs
    subst hs;exact .nil
  | x :: r,vs,ds,hsub,h,hs=>by
    have hIm:∀ b,Im S0 m st.hp w b→Im S0 m (Qdq st.hp all) w b:=by
      rintro b ⟨h1,h2,h3⟩
      refine ⟨h1,h2, ?_⟩
      rintro ⟨q,o',hq,hf,hm⟩
      cases hq0:st.hp q with
      | none=>rw [(Qha all st.hp q).2 hq0] at hq;cases hq
      | some ob =>
        obtain ⟨o2,g1,g2,g3,g4,g5,g6⟩:=(Qha all st.hp q).1 ob hq0
        rw [g1] at hq
        cases hq
        refine h3 ⟨q,ob,hq0, ?_,hm⟩
        cases hb:ob.fz with
        | false=>rfl
        | true=>rw [g5 hb] at hf;cases hf
    cases h with
    | cons _ _ v vs hx ht =>
      cases x with
      | ptr q off =>
        cases off with
        | succ off=>simp [snap] at hs
        | zero =>
          simp only [snap,Option.bind_eq_some_iff,Option.map_eq_some_iff] at hs
          obtain ⟨ob,hq,dsq,hds,ds',hds',rfl⟩:=hs
          refine .cons _ _ _ _ ?_ (Qnx hR all r vs ds' (fun y hy=>hsub y (List.mem_cons_of_mem _ hy)) ht hds')
          cases hx with
          | ptr _ _ _ hsh hv =>
            have:=hv ob hq
            subst this
            obtain ⟨cells,T,fz,ho⟩:=hR.obj q ob hq
            have hmap:=Qe1 hds
            obtain ⟨us,g1,g2⟩:=Qee ho 0 dsq 0 (fun j d hj=>by rw [hmap];simp [hj])
            refine .rp _ _ us ⟨hR.ge q ob hq,hR.lt hq, ?_⟩ (g1.mono hIm (fun _ _=>rfl)) (fun j u hj=>by
              rw [Qch ho.at_]
              simpa using g2 j u hj)
            rintro ⟨p,o',hp,hf,hm⟩
            cases hp0:st.hp p with
            | none=>rw [(Qha all st.hp p).2 hp0] at hp;cases hp
            | some ob2 =>
              have:=hR.inj p q ob2 ob hp0 hq hm
              subst this
              obtain ⟨o2,g1,_,_,_,_,g6⟩:=(Qha all st.hp p).1 ob2 hp0
              rw [g1] at hp
              cases hp
              rw [g6 (hsub _ (List.mem_cons_self ..))] at hf
              cases hf
      | d y =>
        simp only [snap,Option.map_eq_some_iff] at hs
        obtain ⟨ds',hds',rfl⟩:=hs
        exact .cons _ _ _ _ ((QhI hx).mono hIm (fun _ _=>rfl)) (Qnx hR all r vs ds' (fun y hy=>hsub y (List.mem_cons_of_mem _ hy)) ht hds')
      | own q n=>simp [snap] at hs
      | ep q n o=>simp [snap] at hs
      | tup xs=>simp [snap] at hs
      | fn f xs=>simp [snap] at hs

theorem repAL_d {m:Key→Nat} {hp:Hp} {S:Nat→Prop} {w:World}:∀ {ds:List D} {vs:List Value},RepAL m hp S w (ds.map .d) vs→RepL S w ds vs
 | [],_,h=>by cases h;exact .nil
 | d :: r,_,h=>by
  cases h with
  | cons _ _ v vs hx ht=>exact .cons _ _ _ _ (QhI hx) (repAL_d ht)

theorem mkfn_ok (hF:FOk F) (hR:Rel S0 N w0 m st a w) {fn:Fn} {first caps:Array Operand} (hop:o.op=.makeFunc fn first caps) {i:I} (hi:QbY P o.op=some i.er) (ha:act cl k st i=some (x,h')) (hK:Post S0 N w0 st h' a x o.dst K):o.wpIn F n P a w K Q:=by
  rw [hop] at hi
  cases fn<;>simp only [QbY,reduceCtorEq] at hi
  rename_i f
  split at hi
  · rename_i h0
    simp only [Option.map_eq_some_iff] at hi
    obtain ⟨q,hq,h2⟩:=hi
    obtain ⟨sn,rfl⟩:=er_mkfn h2.symm
    simp only [act,Option.bind_eq_some_iff] at ha
    obtain ⟨as,has,ha⟩:=ha
    obtain ⟨hrep,hcl⟩:=Qgd hR hq has
    have hfirst:first=#[]:=Array.eq_empty_of_size_eq_zero h0
    subst hfirst
    have hrun:∀ vs:List Value,vs=caps.toList.map a.eval→(execOp a.eval o).run P w=.ok (.value (.func (.func f) #[] vs.toArray)) w:=by
      intro vs hvs
      subst hvs
      have:caps.map a.eval=(caps.toList.map a.eval).toArray:=by apply Array.ext';simp
      simp [execOp,hop,Instr.makeFunc,this]
    cases sn with
    | true =>
      simp only [if_true,Option.map_eq_some_iff,Prod.mk.injEq] at ha
      obtain ⟨ds,hds,rfl,rfl⟩:=ha
      exact QdJ hF (fun c h=>by rw [hop] at h;cases h) (hrun _ rfl) (hK m _ _ (Qeh as hR) (.d _ _ (.fn f ds _ (Qnx hR as as _ ds (fun _ h=>h) hrep hds))) trivial)
    | false =>
      simp only [Bool.false_eq_true,if_false] at ha
      split at ha
      · rename_i ds hds
        simp only [Option.some.injEq,Prod.mk.injEq] at ha
        obtain ⟨rfl,rfl⟩:=ha
        have:=Qe1 hds
        subst this
        exact QbB hF hR (fun c h=>by rw [hop] at h;cases h) (hrun _ rfl) (.d _ _ (.fn f ds _ (repAL_d hrep))) trivial rfl hK
      · simp only [Option.some.injEq,Prod.mk.injEq] at ha
        obtain ⟨rfl,rfl⟩:=ha
        exact QbB hF hR (fun c h=>by rw [hop] at h;cases h) (hrun _ rfl) (.fn f as _ hrep) hcl rfl hK
  · cases hi

theorem mksl_ok (hF:FOk F) (hR:Rel S0 N w0 m st a w) {t:TypeId} {l c:Operand} (hop:o.op=.makeSlice t l c) {i:I} (hi:QbY P o.op=some i.er) (ha:act cl k st i=some (x,h')) (hK:Post S0 N w0 st h' a x o.dst K):o.wpIn F n P a w K Q:=by
 rw [hop] at hi
 simp only [QbY,Option.bind_eq_some_iff,Option.map_eq_some_iff] at hi
 obtain ⟨⟨es,by_,zs⟩,hel,l',hl,c',hc,h2⟩:=hi
 obtain ⟨e,inf,zv,hu,hinf,hzv,rfl,rfl,rfl,hpos,hzs,_⟩:=Qik hel
 obtain rfl:=Qbv rfl h2.symm
 simp only [act,Option.bind_eq_some_iff] at ha
 obtain ⟨y,hy,z,hz,j,hj,q,hq,ha⟩:=ha
 obtain ⟨⟨hjq,h0,hfit⟩,ha2⟩:=Qaf ha
 subst hjq
 obtain ⟨kl,rfl⟩:=int?_some hj
 obtain ⟨kc,rfl⟩:=int?_some hq
 have hle:=QfB (hR.ev hl hy)
 have hce:=QfB (hR.ev hc hz)
 have hb1:(inf.bytes:Int)*j≤281474976710656:=by
  have:(j*(inf.bytes:Int))≤(bound:Int):=hfit
  rw [Int.mul_comm];simp only [bound] at this;omega
 have hb0:0<inf.bytes:=by omega
 have h63:j≤9223372036854775807:=by
  have:j≤(inf.bytes:Int)*j:=by
   have h1:(1:Int)≤inf.bytes:=by omega
   have:=Int.mul_le_mul_of_nonneg_right h1 h0
   omega
  omega
 have hrun:=run_make (P:=P) w t e inf zv hu hinf hzv kl kc j j h0 (Int.le_refl _) hb1 h63
 have hflat:=Qmr zv.cells j.toNat (by omega)
 have hrl:=QnX (Qjf (S:=Im S0 m st.hp w) (w:=w) zv.cells.toList) j.toNat
 have hms:madeCells zv.cells (j.toNat*inf.size)=(List.replicate j.toNat zv.cells.toList).flatten.toArray:=by
  apply Array.ext'
  rw [← hzs,← hflat]
  simp [madeCells]
 obtain ⟨m',g1,g2,g3⟩:=QkL hR (T:=e) (fr:=(0,0)) ha2 hpos (w':=w.alloc (Go.Obj.cells (madeCells zv.cells (j.toNat*inf.size)) e)) rfl rfl rfl rfl hrl (cap:=j.toNat) (fun i v hv=>by rw [hms];simpa using hv) (Nat.le_refl _)
  (by rw [size_madeCells];exact Nat.le_refl _) (by rw [Qmy];simp [hzs]) (fun _ _ h=>by omega)
 refine QdJ hF (fun c h=>by rw [hop] at h;cases h) ?_ (hK m' _ _ g1 g2 g3)
 simp only [execOp,hop,hle,hce,Sem.run_bind,hrun,Result.andThen_ok,Sem.run_pure]

theorem fld_ok (hF:FOk F) (hR:Rel S0 N w0 m st a w) {t:TypeId} {u:Operand} {f:Nat} (hop:o.op=.field t u f) {i:I} (hi:QbY P o.op=some i.er) (ha:act cl k st i=some (x,h')) (hK:Post S0 N w0 st h' a x o.dst K):o.wpIn F n P a w K Q:=by
 rw [hop] at hi
 simp only [QbY,Option.bind_eq_some_iff,Option.map_eq_some_iff] at hi
 obtain ⟨fd,hfd,sz,hsz,u',hu,h2⟩:=hi
 obtain rfl:=Qbv rfl h2.symm
 simp only [act,Option.bind_eq_some_iff,Option.map_eq_some_iff,Prod.mk.injEq] at ha
 obtain ⟨y,hy,cs,hcs,z,hz,rfl,rfl⟩:=ha
 obtain rfl:=aggA_some hcs
 have hrep:=QhI (hR.ev hu hy)
 generalize hv:a.eval u=v at hrep
 cases hrep with
 | agg _ vs hl =>
  obtain ⟨fs,hfs,hf⟩:=Qmc hfd
  unfold ldSz isAggT at hsz
  simp only [Option.bind_eq_some_iff,Option.map_eq_some_iff] at hsz
  obtain ⟨b,⟨d,hd,hb⟩,hsz⟩:=hsz
  have hagg:(isAgg fd.type).run P w=.ok b w:=by
   unfold isAgg
   simp only [Sem.run_bind,Qaj hd,Result.andThen_ok]
   subst hb
   cases d<;>rfl
  cases b with
  | false =>
   simp only [Bool.false_eq_true,if_false,Option.some.injEq] at hsz
   subst hsz
   simp only [QjV,Option.map_eq_some_iff] at hz
   obtain ⟨d',hd',rfl⟩:=hz
   obtain ⟨v',h3,h4⟩:=hl.get fd.offset d' (by rw [← hd'];simp [List.head?_drop])
   refine QbB hF hR (fun c h=>by rw [hop] at h;cases h) (v:=v') ?_ (.d _ _ h4) trivial rfl hK
   simp [execOp,hop,hv,Instr.field,Qaj hfs,hf,part,hagg,asAgg,h3]
  | true =>
   simp only [if_true,Option.map_eq_some_iff] at hsz
   obtain ⟨inf,hinf,rfl⟩:=hsz
   simp only [QjV] at hz
   obtain ⟨hle,hz⟩:=Qaf hz
   simp only [Option.some.injEq] at hz
   subst hz
   refine QbB hF hR (fun c h=>by rw [hop] at h;cases h) (v:=.agg ((vs.drop fd.offset).take inf.size).toArray) ?_ (.d _ _ (.agg _ _ ((hl.drop _).take _))) trivial rfl hK
   have hex:vs.toArray.extract fd.offset (fd.offset+inf.size)=((vs.drop fd.offset).take inf.size).toArray:=by
    apply Array.ext'
    simp [List.extract_eq_take_drop]
   simp [execOp,hop,hv,Instr.field,Qaj hfs,hf,part,hagg,asAgg,Qbt hinf,hex]

theorem ixs_ok (hF:FOk F) (hR:Rel S0 N w0 m st a w) {t:TypeId} {u j:Operand} (hop:o.op=.index t u j) {i:I} (hi:QbY P o.op=some i.er) (ha:act cl k st i=some (x,h')) (hK:Post S0 N w0 st h' a x o.dst K):o.wpIn F n P a w K Q:=by
  rw [hop] at hi
  simp only [QbY] at hi
  split at hi
  · rename_i hs
    simp only [Option.bind_eq_some_iff,Option.map_eq_some_iff] at hi
    obtain ⟨u',hu,j',hj,h2⟩:=hi
    obtain rfl:=Qbv rfl h2.symm
    simp only [act,Option.bind_eq_some_iff] at ha
    obtain ⟨y,hy,z,hz,q,hq,s,hss,ha⟩:=ha
    obtain ⟨⟨h0,h1⟩,ha⟩:=Qaf ha
    simp only [Option.some.injEq,Prod.mk.injEq] at ha
    obtain ⟨rfl,rfl⟩:=ha
    obtain ⟨kq,rfl⟩:=int?_some hq
    obtain rfl:=QiU hss
    have hue:=QfB (hR.ev hu hy)
    have hje:=QfB (hR.ev hj hz)
    refine QbB hF hR (fun c h=>by rw [hop] at h;cases h) (v:=.int .u8 (s.data.toList.getD q.toNat 0).toNat) ?_ (.d _ _ (.v _)) trivial rfl hK
    have hlt:q.toNat<s.size:=by omega
    have hget:s[q.toNat]?=some (s.data.toList.getD q.toNat 0):=by
      have:s[q.toNat]?=some s[q.toNat]:=by simp [hlt]
      rw [this]
      simp [List.getD,hlt]
      rfl
    simp [execOp,hop,hue,hje,Instr.index,asIntOf,Qaj hs,h0,hget]
  · cases hi

end
end Go.AM

/- Part 10: calls and builtins; all operations. -/
namespace Go.AM
open Go Go.RowKit

section
variable {S0:Nat→Prop} {N:Nat} {w0:Wd} {m:Key→Nat} {st:St} {a:Act} {w:World} {P:Program}
variable {F:Fence} {n:Nat} {o:Oper} {K:Act→World→Prop} {Q:Exit→Act→World→Prop} {x:A} {h':Hp} {k:Key} {cl:Cl}

theorem QqH      (hF:FOk F) (hR:Rel S0 N w0 m st a w) {f:Nat} {args:List Value} (hnd:∀ c,o.op≠.defer c) (hr:(execOp a.eval o).run P w=.ok (.enter f args.toArray) w)
    {ds:List D} {b ad:Bool} {r:R} (h1:RepL (fun c=>S0 c∧c<w.heap.size) w ds args) (h2:b=true→RepL (Im S0 m st.hp w) w ds args)
    (hok:Qgy w0 P f ds r) (hret:retA k st.hp ad b r=some (x,h')) (hK:Post S0 N w0 st h' a x o.dst K):o.wpIn F n P a w K Q:=by
  refine ⟨fun f _=>hF.fn f, ?_⟩
  rw [Oper.semAt_eq _ _ _ hnd,hr,Oper.uponIn_enter]
  refine ⟨fun h=>(by rw [hF.dep] at h;cases h),hF.call ?_⟩
  have main : ∀ S : Nat → Prop, (b = true → S = Im S0 m st.hp w) → (∀ c, S c → c < w.heap.size) → RepL S w ds args →
      Calls P f args.toArray w (fun
        | .returned v,w''=>K (a.put o.dst v) w''
        | .panicked chain,w''=>Q (.panic chain) a w''
        | .outgrown,_=>LetsOut Q):=by
    intro S hS hlt hrep
    refine (hok.2 S w args hR.bel hrep hlt).mono ?_
    rintro e w' ⟨v,rfl,hbel,hro⟩
    obtain ⟨m',g1,g2,g3⟩:=ret_sound hR hret hbel ⟨S,hS,hro⟩
    exact hK m' v w' g1 g2 g3
  cases b with
  | true=>exact main _ (fun _=>rfl) (fun c hc=>hc.2.1) (h2 rfl)
  | false=>exact main _ (fun h=>by cases h) (fun c hc=>hc.2) h1

theorem Qgl {f:Nat} {fn:Func} (hf:P.funcs[f]?=some fn) (hb:fn.body.isSome=true) (hn:fn.name ≠ "runtime.NumGoroutine") (args:Array Value):(callFunc f args).run P w=.ok (.enter f args) w:=by
 have hb':fn.body≠none:=by intro h;rw [h] at hb;cases hb
 simp [callFunc,hf,hn,hb']

theorem call_ok (hcl:∀ f ds r,cl f ds=some r→Qgy w0 P f ds r) (hF:FOk F) (hR:Rel S0 N w0 m st a w) {c:Call} {u:Operand} (hop:o.op=.call c) (hc:c.callee=.value u) {i:I} (hi:QbY P o.op=some i.er) (ha:act cl k st i=some (x,h')) (hK:Post S0 N w0 st h' a x o.dst K):o.wpIn F n P a w K Q:=by
 have hargs:c.args.map a.eval=(c.args.toList.map a.eval).toArray:=by apply Array.ext';simp
 have dyn:((QaH u).bind fun x=>(mapO QaH c.args.toList).map fun xs=>I.calv x xs)=some i.er→o.wpIn F n P a w K Q:=by
  intro hi
  simp only [Option.bind_eq_some_iff,Option.map_eq_some_iff] at hi
  obtain ⟨u',hu,q,hq,h2⟩:=hi
  obtain rfl:=Qbv rfl h2.symm
  simp only [act,Option.bind_eq_some_iff] at ha
  obtain ⟨y,hy,⟨f,caps⟩,hfn,as,has,⟨ds,b⟩,hds,r,hr,hret⟩:=ha
  obtain rfl:=Qqo hfn
  obtain ⟨hrep,hcl'⟩:=Qgd hR hq has
  obtain ⟨h1,h2⟩:=Qk0 hR hrep hds
  have hfr:=QhI (hR.ev hu hy)
  generalize hv:a.eval u=v at hfr
  cases hfr with
  | fn _ _ vs hcaps =>
   have hok:=hcl _ _ _ hr
   obtain ⟨fn,hf,hb,hnm⟩:=hok.1
   refine QqH hF hR (f:=f) (args:=c.args.toList.map a.eval++vs) (fun c h=>by rw [hop] at h;cases h) ?_ (h1.append (hcaps.mono (fun c hc=>⟨hc.1,hc.2.1⟩) (fun _ _=>rfl))) (fun hb=>(h2 hb).append hcaps) hok hret hK
   simp only [execOp,hop,resolve,hc,hv,Deferred.ofValue,Sem.run_bind,Sem.run_pure,Result.andThen_ok,invoke,hargs]
   rw [Qgl hf hb hnm]
   congr 2
   simp
 rw [hop] at hi
 simp only [QbY,hc] at hi
 cases u with
 | func f =>
  simp only [Option.bind_eq_some_iff,Option.map_eq_some_iff] at hi
  obtain ⟨_,⟨fn,hf,hchk⟩,q,hq,h2⟩:=hi
  obtain ⟨ad,rfl⟩:=er_call h2.symm
  simp only [act,Option.bind_eq_some_iff] at ha
  obtain ⟨as,has,⟨ds,b⟩,hds,r,hr,hret⟩:=ha
  obtain ⟨hrep,hcl'⟩:=Qgd hR hq has
  obtain ⟨h1,h2⟩:=Qk0 hR hrep hds
  have hok:=hcl _ _ _ hr
  obtain ⟨fn,hf,hb,hnm⟩:=hok.1
  refine QqH hF hR (f:=f) (args:=c.args.toList.map a.eval) (fun c h=>by rw [hop] at h;cases h) ?_ h1 h2 hok hret hK
  have hev:a.eval (.func f)=.func (.func f) #[] #[]:=rfl
  simp only [execOp,hop,resolve,hc,hev,Deferred.ofValue,Sem.run_bind,Sem.run_pure,Result.andThen_ok,invoke,hargs]
  rw [Qgl hf hb hnm]
  congr 2
  simp
 | tmp t=>exact dyn hi
 | const v=>exact dyn hi
 | global g=>exact dyn hi

theorem Qef          {c:Call} {b:Builtin} (hop:o.op=.call c) (hc:c.callee=.builtin b) {v:Value} {w':World} {args:Array Value} (hargs:c.args.map a.eval=args)
    (h:∀ cs,(builtin b c.argTypes o.type cs args).run P w=.ok (.value v) w'):(execOp a.eval o).run P w=.ok (.value v) w':=by
  simp only [execOp,hop,resolve,hc,Sem.run_bind,Sem.run_pure,Result.andThen_ok,invoke,hargs,h]

theorem Qmv {α:Type} {l:Array α} {x:α} (h:l.toList=[x]):l=#[x]:=by apply Array.ext';simpa using h
theorem Qh8 {α:Type} {l:Array α} {x y:α} (h:l.toList=[x,y]):l=#[x,y]:=by apply Array.ext';simpa using h

theorem Qni      (f:Value→Value→Option Value) (g:Value→Value→Sem Value) (hfg:∀ x y z,f x y=some z→(g x y).run P w=.ok z w) (hR:Rel S0 N w0 m st a w):∀ (r:List A) (vs:List Value) (x v:Value),
    RepAL m st.hp (Im S0 m st.hp w) w r vs→Qf8 f x r=some v→(vs.foldlM g x).run P w=.ok v w
  | [],vs,x,v,h,hf=>by
    cases h
    simp only [Qf8,Option.some.injEq] at hf
    subst hf
    rfl
  | y :: r,vs,x,v,h,hf=>by
    cases h with
    | cons _ _ u us hx ht =>
      unfold Qf8 at hf
      split at hf
      · rename_i e;cases e
      · rename_i e
        cases e
        simp only [Option.bind_eq_some_iff] at hf
        obtain ⟨z,hz,hf⟩:=hf
        have hu:=QfB hx
        subst hu
        simp only [List.foldlM_cons,Sem.run_bind,hfg _ _ _ hz,Result.andThen_ok]
        exact Qni f g hfg hR r us z v ht hf
      · cases hf

theorem cpy_sound (hR:Rel S0 N w0 m st a w) {t u e:TypeId} {i:TypeInfo} (ht:P.underlying t=some (.slice e)) (hi:P.info? e=some i) {y z:A} {vy vz:Value} {c r:Nat} {ys:List D}
    (hy:RepA m st.hp (Im S0 m st.hp w) w y vy) (hz:RepA m st.hp (Im S0 m st.hp w) w z vz) (hsrc:src st z=some (c,ys)) (hst1:∀ s,vz=.string s→i.size=1)
    (hcp:cpyA st.hp i.size c ys y=some (r,h')) (ty:TypeId) :
    ∃ (m':Key→Nat) (w':World),(Builtin.copy_ #[t,u] ty #[vy,vz]).run P w=.ok (.int .i64 r) w'∧Rel S0 N w0 m' { st with hp:=h' } a w':=by
  obtain ⟨hlen,vs,hvs,hfirst⟩:=Qlw (P:=P) hR hz hsrc
  have hor:i.size=1∨∀ s,vz≠.string s:=by
    by_cases h:∃ s,vz=.string s
    · obtain ⟨s,hs⟩:=h;exact .inl (hst1 s hs)
    · exact .inr fun s hs=>h ⟨s,hs⟩
  have zcase:∀ (b:Bool) (ad:Option Addr),vy=.slice ad 0 0→y=.d (.z b)→∃ (m':Key→Nat) (w':World),(Builtin.copy_ #[t,u] ty #[vy,vz]).run P w=.ok (.int .i64 r) w'∧Rel S0 N w0 m' { st with hp:=h' } a w':=by
    intro b ad hv hyz
    subst hyz
    simp only [cpyA] at hcp
    obtain ⟨hl,hcp⟩:=Qaf hcp
    simp only [Option.some.injEq,Prod.mk.injEq] at hcp
    obtain ⟨rfl,rfl⟩:=hcp
    have hf:=hfirst i.size 0 w rfl hl (Nat.zero_le _) hor
    simp only [Nat.zero_mul,List.take_zero] at hf
    refine ⟨m,w, ?_,hR⟩
    subst hv
    have hmin:Nat.min c 0=0:=Nat.min_zero c
    cases ad<;>simp [Builtin.copy_,Qaj ht,Qbt hi,hlen,hmin,hf,goInt,storeCells]
  cases hy with
  | d y _ h =>
    cases h with
    | zt=>exact zcase true none rfl rfl
    | zf ad=>exact zcase false ad rfl rfl
    | _=>simp [cpyA] at hcp
  | own q n _ hsh h =>
    simp only [cpyA,Option.bind_eq_some_iff] at hcp
    obtain ⟨o,hk,hcp⟩:=hcp
    obtain ⟨⟨hn,hfz,hes,hcl,hl,hone⟩,hcp⟩:=Qaf hcp
    simp only [Option.some.injEq,Prod.mk.injEq] at hcp
    obtain ⟨rfl,rfl⟩:=hcp
    obtain ⟨cap,cells,T,fr,rfl,hncap,hat,hsz⟩:=h o hk hn
    obtain ⟨cells',T',fr',ho⟩:=hR.obj q o hk
    rw [ho.at_] at hat
    cases hat
    subst hn
    rw [hes] at hsz
    have hvl:vs.length=c*i.size:=by rw [← hvs.length,hl]
    have hmin:Nat.min c o.n=min c o.n:=rfl
    have hf:=hfirst i.size (min c o.n) w rfl hl (Nat.min_le_left _ _) hor
    have hvone:∀ v∈vs.take (min c o.n*i.size),v.oneCell'=true:=fun v hv=>Qnt hvs hone v (List.mem_of_mem_take hv)
    have hle1:min c o.n*i.size≤c*i.size:=Nat.mul_le_mul_right _ (Nat.min_le_left _ _)
    have hle2:min c o.n*i.size≤o.n*i.size:=Nat.mul_le_mul_right _ (Nat.min_le_right _ _)
    have hle3:o.n*i.size≤cap*i.size:=Nat.mul_le_mul_right _ hncap
    have htl:(vs.take (min c o.n*i.size)).length=min c o.n*i.size:=by simp;omega
    have hfits:0+0+(vs.take (min c o.n*i.size)).length≤cells.size:=by omega
    have hst:=QdK P (m q) 0 T fr (vs.take (min c o.n*i.size)) 0 cells w ho.at_ (fun k' _ h2=>ho.free k' (by omega)) hfits hvone
    have hseg:=QjH cells.toList (vs.take (min c o.n*i.size)) (0+0) (by simpa using hfits)
    have hsl:(cells.toList.take (0+0)++vs.take (min c o.n*i.size)++cells.toList.drop (0+0+(vs.take (min c o.n*i.size)).length)).length=cells.size:=by simp;omega
    have hor2:(min o.n c)=min c o.n:=Nat.min_comm _ _
    refine ⟨mset m q (m q),_, ?_,hR.change (b:=m q) (o':={ o with cs:=(ys.take (min c o.n*i.size)).map .d++o.cs.drop (min c o.n*i.size) }) hk rfl (Nat.le_refl _) hfz (.inl rfl)
      (w':=w.setRow (m q) (cells.toList.take (0+0)++vs.take (min c o.n*i.size)++cells.toList.drop (0+0+(vs.take (min c o.n*i.size)).length)).toArray)
      (setRow_heap w _ cells _ T fr ho.at_) (fun d _ hd=>Qgs w _ _ d hd) (fun _ _ cs3 T3 fz3 h3=>by rw [ho.at_] at h3;cases h3;exact ⟨rfl,by rw [List.size_toArray,hsl]⟩)
      (Nat.le_of_eq (Qit w _ _).symm) rfl rfl rfl ?_ (fun j hj=>by rw [List.size_toArray,hsl] at hj;exact ho.free j hj) ?_ ?_⟩
    · simp only [Builtin.copy_,List.getElem?_toArray]
      simp [Qaj ht,Qbt hi,hlen,hmin,hf,goInt,hst]
    · have:=ho.size
      rw [List.size_toArray,hsl]
      simp;omega
    · intro j x hj
      have hyl:(ys.take (min c o.n*i.size)).length=min c o.n*i.size:=by simp;omega
      by_cases hjl:j<min c o.n*i.size
      · rw [List.getElem?_append_left (by simpa using (by omega))] at hj
        simp only [List.getElem?_map,Option.map_eq_some_iff] at hj
        obtain ⟨d,hd,rfl⟩:=hj
        obtain ⟨v,g1,g2⟩:=(hvs.take (min c o.n*i.size)).get j d hd
        refine ⟨v, ?_,.d _ _ g2⟩
        rw [List.getElem?_toArray,hseg,if_neg (by omega),if_pos (by omega),show j-(0+0)=j by omega]
        exact g1
      · rw [List.getElem?_append_right (by simp;omega)] at hj
        simp only [List.length_map,hyl,List.getElem?_drop] at hj
        rw [show min c o.n*i.size+(j-min c o.n*i.size)=j by omega] at hj
        obtain ⟨v,g1,g2⟩:=ho.rep j x hj
        refine ⟨v, ?_,g2⟩
        rw [List.getElem?_toArray,hseg,if_neg (by omega),if_neg (by omega)]
        simpa using g1
    · intro x hx
      rcases List.mem_append.1 hx with hx | hx
      · obtain ⟨d,_,rfl⟩:=List.mem_map.1 hx;trivial
      · exact hR.clh q o x hk (List.mem_of_mem_drop hx)
  | ptr k o _ _ h=>simp [cpyA] at hcp
  | ep k n o _ _ h=>simp [cpyA] at hcp
  | tup xs vs h=>simp [cpyA] at hcp
  | fn f xs vs h=>simp [cpyA] at hcp

theorem blt_ok (hF:FOk F) (hR:Rel S0 N w0 m st a w) {c:Call} {b:Builtin} (hop:o.op=.call c) (hc:c.callee=.builtin b) {i:I} (hi:QbY P o.op=some i.er) (ha:act cl k st i=some (x,h')) (hK:Post S0 N w0 st h' a x o.dst K):o.wpIn F n P a w K Q:=by
  have hnd:∀ d,o.op≠.defer d:=fun d h=>by rw [hop] at h;cases h
  rw [hop] at hi
  simp only [QbY,hc] at hi
  cases b<;>simp only [reduceCtorEq] at hi
  case len =>
    split at hi
    · rename_i x' t hx ht
      have hx:=Qmv hx
      have ht:=Qmv ht
      split at hi
      · rename_i hs
        simp only [Option.map_eq_some_iff] at hi
        obtain ⟨u',hu,h2⟩:=hi
        obtain rfl:=Qbv rfl h2.symm
        simp only [act,Option.bind_eq_some_iff,Option.map_eq_some_iff,Prod.mk.injEq] at ha
        obtain ⟨y,hy,s,hss,rfl,rfl⟩:=ha
        obtain rfl:=QiU hss
        have hue:=QfB (hR.ev hu hy)
        refine QbB hF hR hnd (v:=.int .i64 s.size) (Qef hop hc (args:=#[.string s]) (by rw [hx];simp [hue]) ?_) (.d _ _ (.v _)) trivial rfl hK
        intro cs
        simp [builtin,Builtin.len_,ht,Qaj hs,goInt]
      · rename_i e hs
        simp only [Option.map_eq_some_iff] at hi
        obtain ⟨u',hu,h2⟩:=hi
        obtain rfl:=Qbv rfl h2.symm
        simp only [act,Option.bind_eq_some_iff,Option.map_eq_some_iff,Prod.mk.injEq] at ha
        obtain ⟨y,hy,q,hq,rfl,rfl⟩:=ha
        have h3:=len_sound (P:=P) hs (hR.ev hu hy) hq o.type
        refine QbB hF hR hnd (v:=.int .i64 (Int.ofNat q)) (Qef hop hc (args:=#[a.eval x']) (by rw [hx];simp) ?_) (.d _ _ (.v _)) trivial rfl hK
        intro cs
        simp [builtin,ht,h3]
      · cases hi
    · cases hi
  case append =>
    split at hi
    · rename_i x' y' t u hx ht
      have hx:=Qh8 hx
      have ht:=Qh8 ht
      simp only [Option.bind_eq_some_iff] at hi
      obtain ⟨⟨es,by_,zs⟩,hel,hi⟩:=hi
      obtain ⟨e,inf,zv,hut,hinf,hzv,rfl,rfl,rfl,hpos,hzs,hbp⟩:=Qik hel
      have main:((∃ e',P.underlying u=some (.slice e'))∨P.underlying u=some .string)→((QaH x').bind fun x=>(QaH y').map fun y=>I.app inf.size inf.bytes x y false)=some i.er→o.wpIn F n P a w K Q:=by
        intro hu hi
        simp only [Option.bind_eq_some_iff,Option.map_eq_some_iff] at hi
        obtain ⟨p,hp,q,hq,h2⟩:=hi
        obtain ⟨fz,rfl⟩:=er_app h2.symm
        simp only [act,Option.bind_eq_some_iff] at ha
        obtain ⟨y,hy,z,hz,⟨cc,ys⟩,hsr,happ⟩:=ha
        have hzr:=hR.ev hq hz
        have hsrc:src st z=some (cc,ys)∧∀ s,a.eval y'=.string s→inf.size=1:=by
          split at hsr
          · rename_i h1;exact ⟨hsr,fun _ _=>h1⟩
          · obtain ⟨h1,h2⟩:=QkV hzr hsr
            exact ⟨h1,fun s hs=>absurd hs (h2 s)⟩
        obtain ⟨m',v,w',h3,h4,h5,h6⟩:=app_sound (P:=P) hR hut hu hinf hzv hbp hpos hzs (hR.ev hp hy) (E.ev_keys hR hy) hzr hsrc.1 hsrc.2 happ o.type
        refine QdJ hF hnd (Qef hop hc (args:=#[a.eval x',a.eval y']) (by rw [hx];simp) ?_) (hK m' v w' h4 h5 h6)
        intro cs
        simp [builtin,ht,h3]
      split at hi
      · exact main (.inl ⟨_,‹_›⟩) hi
      · exact main (.inr ‹_›) hi
      · cases hi
    · cases hi
  case max =>
    simp only [Option.map_eq_some_iff] at hi
    obtain ⟨q,hq,h2⟩:=hi
    obtain rfl:=Qbv rfl h2.symm
    simp only [act,Option.bind_eq_some_iff] at ha
    obtain ⟨as,has,ha⟩:=ha
    obtain ⟨hrep,hclas⟩:=Qgd hR hq has
    split at ha
    · rename_i x' r
      simp only [Option.map_eq_some_iff,Prod.mk.injEq] at ha
      obtain ⟨v,hv,rfl,rfl⟩:=ha
      generalize hvs:c.args.toList.map a.eval=vs at hrep
      cases hrep with
      | cons _ _ u us hx ht =>
        have hu:=QfB hx
        subst hu
        have h3:=Qni (P:=P) mxV Builtin.max2 (fun x y z h=>by
          unfold mxV at h
          split at h
          · cases h;simp [Builtin.max2]
          · cases h) hR r us u v ht hv
        have hargs:c.args.map a.eval=(u :: us).toArray:=by
          rw [← hvs];apply Array.ext';simp
        refine QbB hF hR hnd (v:=v) (Qef hop hc hargs ?_) (.d _ _ (.v _)) trivial rfl hK
        intro cs
        simp [builtin,Builtin.max_,h3]
    · cases ha
  case min =>
    simp only [Option.map_eq_some_iff] at hi
    obtain ⟨q,hq,h2⟩:=hi
    obtain rfl:=Qbv rfl h2.symm
    simp only [act,Option.bind_eq_some_iff] at ha
    obtain ⟨as,has,ha⟩:=ha
    obtain ⟨hrep,hclas⟩:=Qgd hR hq has
    split at ha
    · rename_i x' r
      simp only [Option.map_eq_some_iff,Prod.mk.injEq] at ha
      obtain ⟨v,hv,rfl,rfl⟩:=ha
      generalize hvs:c.args.toList.map a.eval=vs at hrep
      cases hrep with
      | cons _ _ u us hx ht =>
        have hu:=QfB hx
        subst hu
        have h3:=Qni (P:=P) mnV Builtin.min2 (fun x y z h=>by
          unfold mnV at h
          split at h
          · cases h;simp [Builtin.min2]
          · cases h) hR r us u v ht hv
        have hargs:c.args.map a.eval=(u :: us).toArray:=by
          rw [← hvs];apply Array.ext';simp
        refine QbB hF hR hnd (v:=v) (Qef hop hc hargs ?_) (.d _ _ (.v _)) trivial rfl hK
        intro cs
        simp [builtin,Builtin.min_,h3]
    · cases ha
  case copy =>
    split at hi
    · rename_i x' y' t u hx ht
      have hx:=Qh8 hx
      have ht:=Qh8 ht
      simp only [Option.bind_eq_some_iff,Option.map_eq_some_iff] at hi
      obtain ⟨⟨es,by_,zs⟩,hel,p,hp,q,hq,h2⟩:=hi
      obtain ⟨e,inf,zv,hut,hinf,hzv,rfl,rfl,rfl,hpos,hzs,hbp⟩:=Qik hel
      obtain rfl:=Qbv rfl h2.symm
      simp only [act,Option.bind_eq_some_iff,Option.map_eq_some_iff,Prod.mk.injEq] at ha
      obtain ⟨y,hy,z,hz,⟨cc,ys⟩,hsr,⟨r,h2'⟩,hcp,rfl,rfl⟩:=ha
      have hzr:=hR.ev hq hz
      have hsrc:src st z=some (cc,ys)∧∀ s,a.eval y'=.string s→inf.size=1:=by
        split at hsr
        · rename_i h1;exact ⟨hsr,fun _ _=>h1⟩
        · obtain ⟨h1,h2⟩:=QkV hzr hsr
          exact ⟨h1,fun s hs=>absurd hs (h2 s)⟩
      obtain ⟨m',w',h3,h4⟩:=cpy_sound (P:=P) (u:=u) hR hut hinf (hR.ev hp hy) hzr hsrc.1 hsrc.2 hcp o.type
      refine QdJ hF hnd (v:=.int .i64 r) (w':=w') (Qef hop hc (args:=#[a.eval x',a.eval y']) (by rw [hx];simp) ?_) (hK m' _ w' h4 (.d _ _ (.v _)) trivial)
      intro cs
      simp [builtin,ht,h3]
    · cases hi

theorem op_sound (hcl:∀ f ds r,cl f ds=some r→Qgy w0 P f ds r) (hF:FOk F) (hR:Rel S0 N w0 m st a w) {i:I} (hi:QbY P o.op=some i.er) (ha:act cl k st i=some (x,h')) (hK:Post S0 N w0 st h' a x o.dst K):o.wpIn F n P a w K Q:=by
 cases hop:o.op with
 | move e=>exact mov_ok hF hR (.inl hop) hi ha hK
 | assign e=>exact mov_ok hF hR (.inr hop) hi ha hK
 | pick c u v=>exact pick_ok hF hR hop hi ha hK
 | alloc e=>exact alloc_ok hF hR hop hi ha hK
 | box e u=>exact box_ok hF hR hop hi ha hK
 | build t ps=>exact build_ok hF hR hop hi ha hK
 | buildSlice t l ps=>exact lit_ok hF hR hop hi ha hK
 | load t u=>exact load_ok hF hR hop hi ha hK
 | store t p u=>exact store_ok hF hR hop hi ha hK
 | binOp op t u v t'=>exact bin_ok hF hR hop hi ha hK
 | unOp op t u=>exact un_ok hF hR hop hi ha hK
 | convert s d u=>exact conv_ok hF hR hop hi ha hK
 | makeFunc f c d=>exact mkfn_ok hF hR hop hi ha hK
 | makeSlice t l c=>exact mksl_ok hF hR hop hi ha hK
 | slice t u lo hi' mx=>exact slc_ok hF hR hop hi ha hK
 | fieldAddr t u f=>exact fad_ok hF hR hop hi ha hK
 | field t u f=>exact fld_ok hF hR hop hi ha hK
 | indexAddr t u j=>exact ixa_ok hF hR hop hi ha hK
 | index t u j=>exact ixs_ok hF hR hop hi ha hK
 | extract u j=>exact ext_ok hF hR hop hi ha hK
 | call c =>
  cases hc:c.callee with
  | value u=>exact call_ok hcl hF hR hop hc hi ha hK
  | builtin b=>exact blt_ok hF hR hop hc hi ha hK
  | invoke r nm=>rw [hop] at hi;simp only [QbY,hc,reduceCtorEq] at hi
 | _=>rw [hop] at hi;simp [QbY] at hi
end
end Go.AM

