/- Part 5 of the proof: a small machine, its soundness against the model, and what the program's functions compute on it. -/
import Derived.Test.YtbbemgfheagobaaGreatM4
import Derived.Test.YtbbemgfheagobaaGreatM3
import Derived.Test.YtbbemgfheagobaaGreatM0
import Derived.RowKit
set_option linter.unusedVariables false
set_option linter.unusedSimpArgs false
/- The seat's functions, and that their small texts are theirs. -/
namespace Go.AM
open Go Go.Proofs
class Its where
 it:Nat→List D→Option (List (List D))
 orc:Nat→List D→Option R:=fun _ _=>none
abbrev noIts:Its:={ it:=fun _ _=>none }
def G [Its]:Env:=⟨ft,Its.orc,Its.it⟩
theorem env_okO [Its] (h:∀ f ds xs,Its.it f ds=some xs→ItOk Tryz.prog f ds xs) (ho:∀ f ds r,ft f=none→Its.orc f ds=some r→CallOk Tryz.prog f ds r):EnvOk Tryz.prog G:=⟨by kernel_rfl,ft_ok,ho,h⟩
theorem env_ok [Its] (h:∀ f ds xs,Its.it f ds=some xs→ItOk Tryz.prog f ds xs) (h0:∀ f ds,(Its.orc f ds:Option R)=none:=by intros;rfl):EnvOk Tryz.prog G:=env_okO h fun f ds r _ h=>by rw [h0] at h;cases h
theorem env_ok0:EnvOk Tryz.prog (@G noIts):=@env_ok noIts (fun _ _ _ h=>by cases h) (fun _ _=>rfl)
end Go.AM

/- How the evaluator is run by simp: its equations, and lemmas on data. -/
namespace Go.AM
open Go Go.RowKit


theorem upd_get (f:Fr) (i j:Nat) (x:A):upd f i x j=if j=i then some x else f j:=rfl
theorem hupd_get (f:Hp) (i j:Key) (x:Obj):hupd f i x j=if j=i then some x else f j:=rfl
theorem updO_some (f:Fr) (i:Nat) (x:A):updO f i (some x)=upd f i x:=rfl
theorem QtO (f:Hp) (i:Key) (x:Obj):QbE f i (some x)=hupd f i x:=rfl
theorem updO_get (f:Fr) (i j:Nat) (x:Option A):updO f i x j=if j=i then x else f j:=rfl
theorem hupdO_get (f:Hp) (i j:Key) (x:Option Obj):QbE f i x j=if j=i then x else f j:=rfl
theorem fr0_get (i:Nat):fr0 i=none:=rfl
theorem hp0_get (i:Key):hp0 i=none:=rfl

theorem w64_ex:∃ f:Int→Int,∀ n,IntKind.i64.wrap n=f n:=⟨_,fun _=>rfl⟩
noncomputable def w64:Int→Int:=Classical.choose w64_ex
theorem Qse (n:Int):IntKind.i64.wrap n=w64 n:=Classical.choose_spec w64_ex n
theorem Qae {n:Int} (h0:-9223372036854775808≤n) (h1:n<9223372036854775808):w64 n=n:=by
 rw [← Qse]
 unfold IntKind.wrap
 simp only [IntKind.signed,IntKind.bits,Bool.true_and,decide_eq_true_eq,ge_iff_le]
 by_cases h:(2:Int)^(64-1)≤n%2^64
 ·rw [if_pos h];omega
 ·rw [if_neg h];omega

theorem bind_ite {α β:Type} (c:Prop) [Decidable c] (x y:Option α) (f:α→Option β):(if c then x else y).bind f=if c then x.bind f else y.bind f:=by split<;>rfl
theorem map_ite {α β:Type} (c:Prop) [Decidable c] (x y:Option α) (f:α→β):(if c then x else y).map f=if c then x.map f else y.map f:=by split<;>rfl
/-! ### Rows of numbers -/
def dg (l:List Int):D:=if l=[] then .z true else .row l.length (l.map iv)
theorem Qpc:dg []=.z true:=rfl
theorem QqI (x:Int) (l:List Int):dg (x :: l)=.row (l.length+1) (iv x :: l.map iv):=rfl
theorem Qom {l:List Int} (h:l≠[]):dg l=.row l.length (l.map iv):=if_neg h

theorem QaZ (l:List Int):lenA (.d (dg l))=some l.length:=by
 cases l with
 | nil=>rfl
 | cons x l=>rfl
theorem ixa_dg (h:Hp) (l:List Int) {j:Int} (h0:0≤j) (h1:j<l.length):ixaA h 1 j (.d (dg l))=some (.d (.rp ((l.drop j.toNat).map iv))):=by
 have hl:l≠[]:=by rintro rfl;simp at h1;omega
 rw [Qom hl]
 simp only [ixaA,guardO]
 rw [if_pos ⟨h0,h1⟩,Nat.mul_one,List.map_drop]
theorem Qp5 (h:Hp) (l:List Int) {j:Nat} (h1:j<l.length):Qco h none (.d (.rp ((l.drop j).map iv)))=some (.d (.v (.int .i64 (l.getD j 0)))):=by
 simp only [Qco,QkU]
 rw [List.head?_map,List.head?_drop]
 simp [h1,iv]
theorem src_dg (st:St) (l:List Int):src st (.d (dg l))=some (l.length,l.map iv):=by
 cases l with
 | nil=>rfl
 | cons x l=>rfl
/-! ### The helpers at each kind of value -/
theorem lenA_z (b:Bool):lenA (.d (.z b))=some 0:=rfl
theorem lenA_row (n:Nat) (cs:List D):lenA (.d (.row n cs))=some n:=rfl
theorem lenA_own (k:Key) (n:Nat):lenA (.own k n)=some n:=rfl
theorem loadA_ptr (h:Hp) (sz:Option Nat) (k:Key) (off:Nat):Qco h sz (.ptr k off)=(h k).bind fun o=>Qab sz off o.cs:=rfl
theorem loadA_ep (h:Hp) (sz:Option Nat) (k:Key) (n off:Nat):Qco h sz (.ep k n off)=(h k).bind fun o=>guardO (o.n=n) (Qab sz off o.cs):=rfl
theorem Qoy (h:Hp) (f:Nat) (pre:List D):Qco h none (.d (.rc f pre))=some (.d (.fn f (pre++[.rc f pre]))):=rfl
theorem fadA_ptr (i:Nat) (k:Key) (o:Nat):fadA i (.ptr k o)=some (.ptr k (o+i)):=rfl
theorem fadA_ep (i:Nat) (k:Key) (n o:Nat):fadA i (.ep k n o)=some (.ep k n (o+i)):=rfl
theorem fadA_rp (i:Nat) (cs:List D):fadA i (.d (.rp cs))=some (.d (.rp (cs.drop i))):=rfl
theorem ixaA_own (h:Hp) (es:Nat) (j:Int) (q:Key) (n:Nat):ixaA h es j (.own q n)=(h q).bind fun o=>guardO (o.n=n∧0≤j∧j<n) (some (.ep q n (j.toNat*es))):=rfl
theorem QtS (h:Hp) (v:A) (k:Key) (off:Nat):Qgz h v (.ptr k off)=(h k).bind fun o=>guardO (o.fz=false) ((Qac off (QaH v) o.cs).map fun cs=>hupd h k { o with cs }):=rfl
theorem storeA_ep (h:Hp) (v:A) (k:Key) (n off:Nat):Qgz h v (.ep k n off)=(h k).bind fun o=>guardO (o.fz=false∧o.n=n) ((allD (QaH v)).bind fun _=>(Qac off (QaH v) o.cs).map fun cs=>hupd h k { o with cs }):=rfl
theorem strA_s (s:ByteArray):strA (.d (.v (.string s)))=some s:=rfl
theorem valA_v (x:Value):valA (.d (.v x))=some x:=rfl
theorem aggA_g (cs:List D):aggA (.d (.agg cs))=some cs:=rfl
theorem extA_t (i:Nat) (xs:List D):extA i (.d (.tup xs))=(xs[i]?).map .d:=rfl
theorem fnA_f (f:Nat) (c:List D):fnA (.d (.fn f c))=some (f,c):=rfl
theorem int_i (k:IntKind) (n:Int):A.int? (.d (.v (.int k n)))=some n:=rfl
theorem bool_b (b:Bool):A.bool? (.d (.v (.bool b)))=some b:=rfl
theorem argD_d (st:St) (x:D):argD st (.d x)=some (x,true):=rfl
theorem argD_own (st:St) (k:Key) (n:Nat):argD st (.own k n)=(st.hp k).bind fun o=>guardO (o.n=n) ((allD o.cs).map fun cs=>(.row n cs,o.fz)):=rfl
theorem toD_d (st:St) (x:D):toD st (.d x)=some x:=rfl
theorem toD_own (st:St) (k:Key) (n:Nat):toD st (.own k n)=(st.hp k).bind fun o=>guardO (o.n=n) ((allD o.cs).map fun cs=>.row n cs):=rfl
theorem retA_d (k:Key) (h:Hp) (ad fz:Bool) (x:D):retA k h ad fz (.d x)=guardO (fz=true∨x.flat=true) (some (.d x,h)):=rfl
theorem retA_own (k:Key) (h:Hp) (ad fz:Bool) (es n:Nat) (cs:List D):retA k h ad fz (.own es n cs)=guardO (fz=true) (mkA k h (!ad) es n cs):=rfl
theorem mkA_t (k:Key) (h:Hp) (es n:Nat) (cs:List D):mkA k h true es n cs=some (.d (.row n cs),h):=rfl
theorem mkA_f (k:Key) (h:Hp) (es n:Nat) (cs:List D):mkA k h false es n cs=guardO ((h k).isNone=true) (some (.own k n,hupd h k ⟨es,n,cs.map .d,false⟩)):=rfl
theorem appA_z (k:Key) (h:Hp) (fz:Bool) (es by_ m:Nat) (ys:List D) (b:Bool):appA k h fz es by_ m ys (.d (.z b)) =
    guardO (m*by_≤bound∧ys.length=m*es) (if m=0 then some (.d (.z b),h) else mkA k h fz es m ys):=rfl
theorem appA_own (k:Key) (h:Hp) (fz:Bool) (es by_ m:Nat) (ys:List D) (q:Key) (n:Nat):appA k h fz es by_ m ys (.own q n) =
    (h q).bind fun o=>guardO (o.n=n∧o.fz=false∧o.es=es∧o.cs.length=n*es∧(n+m)*by_≤bound∧ys.length=m*es∧ys.all D.one=true)
      (if fz then (allD o.cs).map fun cs=>(.d (.row (n+m) (cs++ys)),hupd h q ⟨es,n+m,o.cs++ys.map .d,true⟩)
       else some (.own q (n+m),hupd h q ⟨es,n+m,o.cs++ys.map .d,false⟩)):=rfl
theorem ex_n_x (i:Nat):(Ex.n=Ex.x i)=False:=by simp
theorem ex_x_n (i:Nat):(Ex.x i=Ex.n)=False:=by simp
theorem ex_x_x (i j:Nat):(Ex.x i=Ex.x j)=(i=j):=by simp
theorem ex_r_n:(Ex.r=Ex.n)=False:=by simp
theorem ex_r_x (i:Nat):(Ex.r=Ex.x i)=False:=by simp
theorem ex_n_n:(Ex.n=Ex.n)=True:=by simp

theorem Qpo {α β:Type} {x y:Option α} {f:α→Option β} (h:x=y):x.bind f=y.bind f:=by rw [h]
theorem Qqv {α β:Type} {x y:Option α} {f:α→β} (h:x=y):x.map f=y.map f:=by rw [h]

attribute [go_sem] X_seq X_reg X_cond X_blk X_keep X_frz X_exit X_ret X_skip exs exO act Qc1 putO E.ev allE Qjq upd_get hupd_get fr0_get hp0_get
 Option.bind_some Option.map_some Option.bind_none Option.map_none Option.getD_some Option.getD_none Option.isNone_none Option.isNone_some guardO binV binI shOp QeJ iA
 endOf QnN resL resV argF Qiq Qnc Qm7 QjP Qhm refsO refsOO updO_some QtO updO_get hupdO_get refs Qdo List.all_nil List.all_cons Qse bind_ite map_ite
 lenA_z lenA_row lenA_own loadA_ptr loadA_ep Qoy fadA_ptr fadA_ep fadA_rp ixaA_own QtS storeA_ep strA_s valA_v aggA_g extA_t fnA_f int_i bool_b argD_d argD_own toD_d toD_own
 retA_d retA_own mkA_t mkA_f appA_z appA_own QaZ ex_n_x ex_x_n ex_x_x ex_r_n ex_r_x ex_n_n
theorem key1 (a b:Nat):(([a]:Key)=[b])=(a=b):=by simp
theorem tt_true:(true=true)=True:=by simp
theorem ft_false:(false=true)=False:=by simp
theorem lenD1 (a:D):([a]:List D).length=1:=rfl
theorem lenD2 (a b:D):([a,b]:List D).length=2:=rfl
theorem lenD3 (a b c:D):([a,b,c]:List D).length=3:=rfl
theorem lenD4 (a b c d:D):([a,b,c,d]:List D).length=4:=rfl
attribute [go_sem] X_inl calA QoV QtQ waitO capO asideO QfL goneO resA Ex.fin
attribute [go_sem] lenD1 lenD2 lenD3 lenD4 key1 Key.isIn List.any_cons List.any_nil tt_true ft_false decide_true decide_false Bool.and_true Bool.true_and Bool.and_self Bool.or_true Bool.true_or Bool.or_false Bool.false_or and_true true_and and_self
theorem ge_t {a b:Int} (h:a≥b):decide (a≥b)=true:=decide_eq_true h
theorem ge_f {a b:Int} (h:¬ a≥b):decide (a≥b)=false:=decide_eq_false h
theorem gt_t {a b:Int} (h:a>b):decide (a>b)=true:=decide_eq_true h
theorem gt_f {a b:Int} (h:¬ a>b):decide (a>b)=false:=decide_eq_false h
theorem lt_t {a b:Int} (h:a<b):decide (a<b)=true:=decide_eq_true h
theorem lt_f {a b:Int} (h:¬ a<b):decide (a<b)=false:=decide_eq_false h
theorem le_t {a b:Int} (h:a≤b):decide (a≤b)=true:=decide_eq_true h
theorem le_f {a b:Int} (h:¬ a≤b):decide (a≤b)=false:=decide_eq_false h
theorem QkI {a b:Int} (h:a=b):(a==b)=true:=by simp [h]
theorem Qcx {a b:Int} (h:a≠b):(a==b)=false:=by simp [h]
theorem QqK {a b:Int} (h:a≠b):(a != b)=true:=by simp [h]
theorem QqD {a b:Int} (h:a=b):(a != b)=false:=by simp [h]
theorem QtV (n:Nat):Int.ofNat n=(n:Int):=rfl
theorem one_int (k:IntKind) (n:Int):A.one (.d (.v (.int k n)))=true:=rfl
theorem QsJ (b:Bool):A.one (.d (.v (.bool b)))=true:=rfl
theorem one_str (b:ByteArray):A.one (.d (.v (.string b)))=true:=rfl
theorem one_z (b:Bool):A.one (.d (.z b))=true:=rfl
theorem one_row (n:Nat) (cs:List D):A.one (.d (.row n cs))=true:=rfl
theorem one_own (k:Key) (n:Nat):A.one (.own k n)=true:=rfl
theorem one_ptr (k:Key) (n:Nat):A.one (.ptr k n)=true:=rfl
theorem QqB (l:List Int):A.one (.d (dg l))=true:=by cases l<;>rfl
theorem one_agg (cs:List D):A.one (.d (.agg cs))=false:=rfl
theorem cells_agg (cs:List D):QaH (.d (.agg cs))=cs.map .d:=rfl
theorem cells_int (k:IntKind) (n:Int):QaH (.d (.v (.int k n)))=[.d (.v (.int k n))]:=rfl
theorem QtG (b:Bool):QaH (.d (.v (.bool b)))=[.d (.v (.bool b))]:=rfl
theorem cells_str (b:ByteArray):QaH (.d (.v (.string b)))=[.d (.v (.string b))]:=rfl
theorem cells_z (b:Bool):QaH (.d (.z b))=[.d (.z b)]:=rfl
theorem cells_row (n:Nat) (cs:List D):QaH (.d (.row n cs))=[.d (.row n cs)]:=rfl
theorem cells_dg (l:List Int):QaH (.d (dg l))=[.d (dg l)]:=by cases l<;>rfl
theorem cells_own (k:Key) (n:Nat):QaH (.own k n)=[.own k n]:=rfl
theorem cells_ptr (k:Key) (n:Nat):QaH (.ptr k n)=[.ptr k n]:=rfl
theorem dc_agg (cs:List D):Qcw (.d (.agg cs))=some cs:=rfl
theorem dc_int (k:IntKind) (n:Int):Qcw (.d (.v (.int k n)))=some [.v (.int k n)]:=rfl
theorem dc_bool (b:Bool):Qcw (.d (.v (.bool b)))=some [.v (.bool b)]:=rfl
theorem dc_str (b:ByteArray):Qcw (.d (.v (.string b)))=some [.v (.string b)]:=rfl
theorem dc_z (b:Bool):Qcw (.d (.z b))=some [.z b]:=rfl
theorem dc_row (n:Nat) (cs:List D):Qcw (.d (.row n cs))=some [.row n cs]:=rfl
theorem dc_dg (l:List Int):Qcw (.d (dg l))=some [dg l]:=by cases l<;>rfl
theorem dc_fn (f:Nat) (cs:List D):Qcw (.d (.fn f cs))=some [.fn f cs]:=rfl
theorem rep_1 (z:D):rep 1 [z]=[z]:=rfl
theorem rep_2 (z:D):rep 2 [z]=[z,z]:=rfl
theorem rep_3 (z:D):rep 3 [z]=[z,z,z]:=rfl
theorem wrap_u64 (n:Int):IntKind.u64.wrap n=n%18446744073709551616:=by
 unfold IntKind.wrap
 simp [IntKind.signed,IntKind.bits]
theorem base_ne:((1000000000:Int)=0)=False:=by simp
theorem nc0:((0:Nat):Int)=0:=rfl
theorem toNat0:Int.toNat 0=0:=rfl
theorem ob_ft:(some false=some true)=False:=by simp
theorem ob_tf:(some true=some false)=False:=by simp
theorem ob_tt:(some true=some true)=True:=by simp
theorem ob_ff:(some false=some false)=True:=by simp
theorem tf_false:(true=false)=False:=by simp
theorem ff_true:(false=false)=True:=by simp
attribute [go_sem] rep_1 rep_2 rep_3 wrap_u64 base_ne Qud Nat.reduceMul Nat.reduceSub List.getElem?_cons_zero List.getElem?_cons_succ List.getElem?_nil true_or or_true or_self false_or or_false and_false false_and nc0 toNat0 Nat.sub_zero Nat.mul_one Nat.zero_mul QtV List.map_cons List.map_nil List.length_cons List.length_nil Nat.reduceAdd Nat.reduceLeDiff List.take_succ_cons List.take_zero List.drop_succ_cons List.drop_zero List.drop_nil List.take_nil List.nil_append List.cons_append List.append_nil Int.toNat_natCast ob_ft ob_tf ob_tt ob_ff tf_false ff_true Bool.not_true Bool.not_false Bool.false_and Bool.and_false unV eqD slcA bnds optI cut srcS QmP Qiv QbY QdY D.flat QkU allD one_int QsJ one_str one_z one_row one_own one_ptr QqB one_agg cells_agg cells_int QtG cells_str cells_z cells_row cells_dg cells_own cells_ptr dc_agg dc_int dc_bool dc_str dc_z dc_row dc_dg dc_fn
attribute [congr] Qpo Qqv
end Go.AM

/- Numbers in digits: plain mathematics, no program in sight. -/
namespace Go.AM


def digs:Nat→List Int
 | 0=>[]
 | n+1=>(((n+1)%1000000000:Nat):Int) :: digs ((n+1)/1000000000)
 decreasing_by omega
def val:List Int→Int
 | []=>0
 | d :: r=>d+1000000000*val r
def Dig (l:List Int):Prop:=∀ d∈l,0≤d∧d<1000000000

theorem Qax:digs 0=[]:=by rw [digs]
theorem Qeu {n:Nat} (h:0<n):digs n=((n%1000000000:Nat):Int) :: digs (n/1000000000):=by
 cases n with
 | zero=>omega
 | succ n=>rw [digs]
theorem Dig.nil:Dig []:=by intro d h;cases h
theorem Dig.cons {d:Int} {l:List Int}:Dig (d :: l)↔(0≤d∧d<1000000000)∧Dig l:=by
 constructor
 ·intro h;exact ⟨h d (by simp),fun e he=>h e (by simp [he])⟩
 ·rintro ⟨h1,h2⟩ e he
  rcases List.mem_cons.1 he with rfl | he
  ·exact h1
  ·exact h2 e he
theorem Dig.append {l m:List Int}:Dig (l++m)↔Dig l∧Dig m:=by
 constructor
 ·intro h;exact ⟨fun e he=>h e (by simp [he]),fun e he=>h e (by simp [he])⟩
 ·rintro ⟨h1,h2⟩ e he
  rcases List.mem_append.1 he with he | he
  ·exact h1 e he
  ·exact h2 e he
theorem Dig.take {l:List Int} (h:Dig l) (n:Nat):Dig (l.take n):=fun e he=>h e (List.mem_of_mem_take he)
theorem Dig.drop {l:List Int} (h:Dig l) (n:Nat):Dig (l.drop n):=fun e he=>h e (List.mem_of_mem_drop he)
theorem Dig.getD {l:List Int} (h:Dig l) (i:Nat):0≤l.getD i 0∧l.getD i 0<1000000000:=by
 rw [List.getD_eq_getElem?_getD]
 cases hq:l[i]? with
 | none=>simp
 | some x=>exact h x (List.mem_of_getElem? hq)
theorem Dig.set {l:List Int} (h:Dig l) {i:Nat} {d:Int} (hd:0≤d∧d<1000000000):Dig (l.set i d):=by
 intro e he
 rcases List.mem_or_eq_of_mem_set he with he | rfl
 ·exact h e he
 ·exact hd
theorem Dig.replicate (n:Nat):Dig (List.replicate n 0):=by
 intro e he
 rw [(List.mem_replicate.1 he).2];omega

theorem Qao:∀ n:Nat,Dig (digs n):=by
 intro n
 induction n using Nat.strongRecOn with
 | _ n ih =>
  rcases Nat.eq_zero_or_pos n with rfl | h
  ·rw [Qax];exact .nil
  ·rw [Qeu h,Dig.cons]
   exact ⟨by omega,ih _ (by omega)⟩
theorem QaJ:∀ n:Nat,val (digs n)=n:=by
 intro n
 induction n using Nat.strongRecOn with
 | _ n ih =>
  rcases Nat.eq_zero_or_pos n with rfl | h
  ·rw [Qax];rfl
  ·rw [Qeu h,val,ih _ (by omega)]
   omega
theorem Qa2:∀ {l:List Int},Dig l→0≤val l
 | [],_=>Int.le_refl _
 | d :: r,h=>by
  obtain ⟨h1,h2⟩:=Dig.cons.1 h
  have:=Qa2 h2
  simp only [val]
  omega
theorem Qqu {n:Nat}:digs n=[]↔n=0:=by
 constructor
 ·intro h
  rcases Nat.eq_zero_or_pos n with h' | h'
  ·exact h'
  ·rw [Qeu h'] at h;cases h
 ·rintro rfl;exact Qax
theorem digs_length_pos {n:Nat}:0<(digs n).length↔0<n:=by
 rw [List.length_pos_iff,ne_eq,Qqu];omega

def Top (l:List Int):Prop:=∀ h:l≠[],l.getLast h≠0
theorem Qb9:∀ n:Nat,Top (digs n):=by
 intro n
 induction n using Nat.strongRecOn with
 | _ n ih =>
  intro h
  rcases Nat.eq_zero_or_pos n with rfl | hp
  ·exact absurd Qax h
  ·have e:=Qeu hp
   by_cases h0:n/1000000000=0
   ·have:digs n=[((n%1000000000:Nat):Int)]:=by rw [e,h0,Qax]
    simp only [this,List.getLast_singleton]
    omega
   ·have hne:digs (n/1000000000)≠[]:=by rw [ne_eq,Qqu];exact h0
    have:(digs n).getLast h=(digs (n/1000000000)).getLast hne:=by
     simp only [e]
     exact List.getLast_cons hne
    rw [this]
    exact ih _ (by omega) hne
theorem QsD:∀ {l:List Int},Dig l→Top l→digs (val l).toNat=l
  | [],_,_=>Qax
  | d :: r,h,ht=>by
    obtain ⟨h1,h2⟩:=Dig.cons.1 h
    have hv:=Qa2 h2
    have htr:Top r:=by
      intro hne
      have:=ht (by simp)
      rw [List.getLast_cons hne] at this
      exact this
    have ih:=QsD h2 htr
    have hpos:0<(val (d :: r)).toNat:=by
      simp only [val]
      by_cases hr:r=[]
      · subst hr
        have:=ht (by simp)
        simp at this
        simp only [val]
        omega
      · have : val r ≠ 0 := by
          intro h0
          rw [h0] at ih
          exact hr (ih.symm.trans Qax)
        omega
    rw [Qeu hpos]
    have e1:((val (d :: r)).toNat%1000000000:Nat)=d.toNat:=by simp only [val];omega
    have e2:(val (d :: r)).toNat/1000000000=(val r).toNat:=by simp only [val];omega
    rw [e1,e2,ih]
    congr 1
    omega
theorem Qg9:∀ (l m:List Int),val (l++m)=val l+(1000000000:Int)^l.length*val m
 | [],m=>by simp [val]
 | d :: r,m=>by
  rw [List.cons_append,val,Qg9 r m,val,List.length_cons]
  grind
theorem QfZ:∀ n:Nat,val (List.replicate n 0)=0
 | 0=>rfl
 | n+1=>by rw [List.replicate_succ,val,QfZ n];rfl
theorem QfU:∀ {l:List Int},Dig l→val l<(1000000000:Int)^l.length
 | [],_=>by simp [val]
 | d :: r,h=>by
  obtain ⟨h1,h2⟩:=Dig.cons.1 h
  have:=QfU h2
  rw [val,List.length_cons,Int.pow_succ]
  grind
theorem Qe8:∀ (l:List Int) (i:Nat) (d:Int),i<l.length→val (l.set i d)=val l+(1000000000:Int)^i*(d-l.getD i 0)
 | [],i,d,h=>by simp at h
 | e :: r,0,d,h=>by simp [val];omega
 | e :: r,i+1,d,h=>by
  rw [List.set_cons_succ,val,val,Qe8 r i d (by simpa using h)]
  simp only [List.getD_cons_succ]
  grind
theorem Qkn {n m:Nat} (h:n≤m):(1000000000:Int)^n≤(1000000000:Int)^m:=by
 obtain ⟨k,rfl⟩:=Nat.exists_eq_add_of_le h
 rw [Int.pow_add]
 have h1:(0:Int)<(1000000000:Int)^k:=Int.pow_pos (by omega)
 have h2:(0:Int)≤(1000000000:Int)^n:=Int.pow_nonneg (by omega)
 have h3:(1000000000:Int)^n*1≤(1000000000:Int)^n*(1000000000:Int)^k:=Int.mul_le_mul_of_nonneg_left (by omega) h2
 omega
end Go.AM

/- Integers as the program holds them. -/
namespace Go.AM
open Go Go.RowKit

def sgn (neg:Bool) (x:Int):Int:=if neg then -x else x
def encI (x:Int):D:=.agg [bv (decide (x<0)),dg (digs x.natAbs)]
def rowI (l:List Int):D:=.row l.length (l.map iv)
def I64 (n:Int):Prop:=-9223372036854775808≤n∧n<9223372036854775808

theorem ixa_rowI (h:Hp) (l:List Int) {j:Int} (h0:0≤j) (h1:j<l.length):ixaA h 1 j (.d (rowI l))=some (.d (.rp ((l.drop j.toNat).map iv))):=by
 simp only [ixaA,guardO,rowI]
 rw [if_pos ⟨h0,h1⟩,Nat.mul_one,List.map_drop]
def Rw (d:D) (l:List Int):Prop:=d=dg l∨d=rowI l
theorem Rw.dg (l:List Int):Rw (dg l) l:=.inl rfl
theorem Rw.row (l:List Int):Rw (rowI l) l:=.inr rfl
theorem Rw.len {d:D} {l:List Int} (h:Rw d l):lenA (.d d)=some l.length:=by
 rcases h with rfl | rfl
 ·exact QaZ l
 ·rfl
theorem Rw.ixa {d:D} {l:List Int} (hr:Rw d l) {j:Int} (h0:0≤j) (h1:j<l.length) (h:Hp):ixaA h 1 j (.d d)=some (.d (.rp ((l.drop j.toNat).map iv))):=by
 rcases hr with rfl | rfl
 ·exact ixa_dg h l h0 h1
 ·exact ixa_rowI h l h0 h1
theorem Rw.ixn {d:D} {l:List Int} (hr:Rw d l) {j:Nat} (h1:j<l.length) (h:Hp):ixaA h 1 (j:Int) (.d d)=some (.d (.rp ((l.drop j).map iv))):=by
 have:=hr.ixa (j:=(j:Int)) (by omega) (by omega) h
 simpa using this
theorem Rw.src {d:D} {l:List Int} (hr:Rw d l) (st:St):src st (.d d)=some (l.length,l.map iv):=by
 rcases hr with rfl | rfl
 ·exact src_dg st l
 ·rfl
theorem Rw.ne {d:D} {l:List Int} (hr:Rw d l) (h:l≠[]):d=rowI l:=by
 rcases hr with rfl | rfl
 ·exact Qom h
 ·rfl
theorem ldv (h:Hp) (l:List Int) {j:Nat} (h1:j<l.length):Qco h none (.d (.rp ((l.drop j).map iv)))=some (.d (.v (.int .i64 (l.getD j 0)))):=Qp5 h l h1

def cutn (l:List Int):Nat→Nat
 | 0=>0
 | n+1=>if l.getD n 0=0 then cutn l n else n+1
theorem Qmw (l:List Int):∀ n,cutn l n≤n
 | 0=>Nat.le_refl _
 | n+1=>by
  rw [cutn]
  split
  ·exact Nat.le_succ_of_le (Qmw l n)
  ·exact Nat.le_refl _
theorem QhK (l:List Int) (n:Nat) (h:n<l.length):val (l.take (n+1))=val (l.take n)+(1000000000:Int)^n*l.getD n 0:=by
 have:l.take (n+1)=l.take n++[l.getD n 0]:=by
  rw [List.take_add_one]
  simp [List.getD,h]
 rw [this,Qg9,List.length_take,Nat.min_eq_left (Nat.le_of_lt h)]
 simp [val]
theorem QrG (l:List Int):∀ n,n≤l.length→val (l.take (cutn l n))=val (l.take n)
 | 0,_=>rfl
 | n+1,h=>by
  rw [cutn]
  split
  ·rename_i h0
   rw [QrG l n (by omega),QhK l n (by omega),h0];omega
  ·rfl
theorem Qsh (l:List Int):∀ n,n≤l.length→Top (l.take (cutn l n))
 | 0,_=>by intro h;simp [cutn] at h
 | n+1,h=>by
  rw [cutn]
  split
  ·exact Qsh l n (by omega)
  ·rename_i h0
   intro hne
   have:l.take (n+1)=l.take n++[l.getD n 0]:=by
    rw [List.take_add_one]
    simp [List.getD,(by omega:n<l.length)]
   simp only [this]
   rw [List.getLast_append_of_ne_nil _ (by simp)]
   simpa using h0
theorem QpH {l:List Int} (hd:Dig l):digs (val l).toNat=l.take (cutn l l.length):=by
 have h1:=QrG l l.length (Nat.le_refl _)
 rw [List.take_length] at h1
 rw [← h1]
 exact QsD (hd.take _) (Qsh l _ (Nat.le_refl _))
theorem Qpi {l:List Int} (hd:Dig l):cutn l l.length=0↔val l=0:=by
 have hc:=Qmw l l.length
 have h1:=QpH hd
 have hv:=Qa2 hd
 constructor
 ·intro h
  rw [h,List.take_zero,Qqu] at h1
  omega
 ·intro h
  rw [h] at h1
  have h2:l.take (cutn l l.length)=[]:=by rw [← h1];exact Qax
  have:=congrArg List.length h2
  simp at this
  rcases this with h' | h'
  ·exact h'
  ·subst h';simp at hc;exact hc
theorem Qiz (neg:Bool) (x:Int):(sgn neg x).natAbs=x.natAbs:=by cases neg<;>simp [sgn]
theorem QrO {neg:Bool} {l:List Int} (hd:Dig l):encI (sgn neg (val l))=if cutn l l.length=0 then .agg [bv false,.z true] else .agg [bv neg,.row (cutn l l.length) ((l.map iv).take (cutn l l.length))]:=by
 have hv:=Qa2 hd
 have hc:=Qmw l l.length
 by_cases h0:cutn l l.length=0
 ·rw [if_pos h0,(Qpi hd).1 h0]
  have e:encI 0=.agg [bv false,.z true]:=by
   have:digs (0:Int).natAbs=[]:=Qax
   rw [encI,this];rfl
  cases neg<;>exact e
 ·rw [if_neg h0]
  have hne:val l≠0:=fun h=>h0 ((Qpi hd).2 h)
  have e1:decide (sgn neg (val l)<0)=neg:=by
   cases neg
   ·simp only [sgn,Bool.false_eq_true,if_false,decide_eq_false_iff_not];omega
   ·simp only [sgn,if_true,decide_eq_true_eq];omega
  have e2:(sgn neg (val l)).natAbs=(val l).toNat:=by rw [Qiz];omega
  have hne2:l.take (cutn l l.length)≠[]:=by
   intro h
   have:=congrArg List.length h
   simp at this
   rcases this with h' | h'
   ·exact h0 h'
   ·subst h';exact h0 rfl
  rw [encI,e1,e2,QpH hd,Qom hne2,List.map_take]
  congr 3
  simp;omega

theorem Qfx {l:List Int} {i:Nat} (d:Int) (h:i<l.length):val ((l.set i d).take (i+1))=val (l.take i)+(1000000000:Int)^i*d:=by
 rw [QhK _ _ (by simpa using h)]
 have e1:(l.set i d).take i=l.take i:=by
  apply List.ext_getElem?
  intro j
  simp only [List.getElem?_take,List.getElem?_set]
  split
  ·rw [if_neg (by omega)]
  ·rfl
 have e2:(l.set i d).getD i 0=d:=by simp [List.getD,h]
 rw [e1,e2]
theorem Qbd {l:List Int} {i j:Nat} (d:Int) (h:i≠j):(l.set i d).getD j 0=l.getD j 0:=by
 simp [List.getD,List.getElem?_set,h]
theorem Qas (l:List Int) (n:Nat):val (l.take (n+1))=val (l.take n)+(1000000000:Int)^n*l.getD n 0:=by
 by_cases h:n<l.length
 ·exact QhK l n h
 ·have e1:l.take (n+1)=l:=List.take_of_length_le (by omega)
  have e2:l.take n=l:=List.take_of_length_le (by omega)
  have e3:l.getD n 0=0:=by rw [List.getD_eq_getElem?_getD,List.getElem?_eq_none (by omega)];rfl
  rw [e1,e2,e3];omega

/-! ### Arrays of numbers that are written -/
def Qbw (l:List Int):List A:=l.map fun x=>A.d (.v (.int .i64 x))
theorem Qak (l:List Int):(Qbw l).length=l.length:=by simp [Qbw]
theorem Qbu {l:List Int} {off:Nat} {v:Int} (h:off<l.length):Qac off [A.d (.v (.int .i64 v))] (Qbw l)=some (Qbw (l.set off v)):=by
 rw [Qac,guardO,if_pos (by rw [Qak];simp;omega)]
 congr 1
 apply List.ext_getElem?
 intro j
 rw [QkD _ _ _ (by rw [Qak];simp;omega)]
 simp only [List.length_cons,List.length_nil,Qbw,List.getElem?_map,List.getElem?_set]
 by_cases h1:j<off
 ·rw [if_pos h1,if_neg (by omega)]
 ·rw [if_neg h1]
  by_cases h2:j<off+(0+1)
  ·obtain rfl:j=off:=by omega
   simp [h]
  ·rw [if_neg h2,if_neg (by omega)]
theorem Qb7 {l:List Int} {off:Nat} (h:off<l.length):Qab none off (Qbw l)=some (A.d (.v (.int .i64 (l.getD off 0)))):=by
 simp [Qab,Qbw,List.getD,h]
theorem Qal (ks:List Key) (l:List Int):Qdo ks (Qbw l)=true:=by
 induction l with
 | nil=>rfl
 | cons x r ih=>simpa [Qbw,Qdo,refs] using ih
theorem QbV (l:List Int):allD (Qbw l)=some (l.map iv):=by
 induction l with
 | nil=>rfl
 | cons x r ih =>
  simp only [Qbw,List.map_cons,allD] at ih ⊢
  rw [ih];rfl
theorem Qk2 (n:Nat):List.map A.d (rep n [.v (.int .i64 0)])=Qbw (List.replicate n 0):=by
 induction n with
 | zero=>rfl
 | succ n ih =>
  simp only [rep,List.replicate_succ,List.flatten_cons,List.map_append,List.map_cons,List.map_nil,Qbw,List.cons_append,List.nil_append] at ih ⊢
  rw [ih]
theorem mapd_I (l:List Int):List.map A.d (l.map iv)=Qbw l:=by simp [Qbw,iv]
theorem cpy_I {h:Hp} {k:Key} {a out:List Int} {n:Nat} (hk:h k=some ⟨1,n,Qbw out,false⟩) (hn:n=a.length) (ho:out.length=n):cpyA h 1 a.length (a.map iv) (.own k n)=some (n,hupd h k ⟨1,n,Qbw a,false⟩):=by
 subst hn
 have h1:∀ l:List Int,(l.map iv).all D.one=true:=by
  intro l;simp [iv,D.one,A.one]
 simp only [cpyA,hk,Option.bind_some,guardO,Qak,ho,Nat.mul_one,List.length_map,h1,and_self,if_true,Nat.min_self]
 congr 3
 rw [List.take_of_length_le (by simp),List.drop_eq_nil_of_le (by rw [Qak,ho];exact Nat.le_refl _),List.append_nil,mapd_I]
theorem QqZ {l:List Int} (h:Dig l) (n:Nat):val (l.take n)≤val l:=by
 have e:l.take n++l.drop n=l:=List.take_append_drop n l
 have h1:val l=val (l.take n)+(1000000000:Int)^(l.take n).length*val (l.drop n):=by rw [← Qg9,e]
 have h2:=Qa2 (h.drop n)
 have h3:(0:Int)≤(1000000000:Int)^(l.take n).length*val (l.drop n):=Int.mul_nonneg (Int.pow_nonneg (by omega)) h2
 omega
theorem Qkp {l:List Int} {i j:Nat} (h:Dig (l.drop i)) (hij:i≤j):0≤l.getD j 0∧l.getD j 0<1000000000:=by
 have:=h.getD (j-i)
 rw [List.getD_eq_getElem?_getD,List.getElem?_drop,show i+(j-i)=j by omega,← List.getD_eq_getElem?_getD] at this
 exact this
theorem Ql8 (l:List Int) {i j:Nat} (d:Int) (h:i≤j):(l.set j d).take i=l.take i:=by
 apply List.ext_getElem?
 intro q
 simp only [List.getElem?_take,List.getElem?_set]
 split
 ·rw [if_neg (by omega)]
 ·rfl
theorem Qho (l:List Int) {i j:Nat} (d:Int) (h:j<i):(l.set j d).drop i=l.drop i:=by
 apply List.ext_getElem?
 intro q
 simp only [List.getElem?_drop,List.getElem?_set]
 rw [if_neg (by omega)]
theorem Qks {l:List Int} {i:Nat} (d:Int) (h:i<l.length):(l.set i d).take (i+1)=l.take i++[d]:=by
 rw [List.take_add_one,Ql8 l d (Nat.le_refl _)]
 simp [h]

/-! ### Sizes -/
def nd (x:Int):Nat:=(digs x.natAbs).length
theorem QgZ:∀ (k n:Nat),n<1000000000^k→(digs n).length≤k
 | 0,n,h=>by
  have:n=0:=by simpa using h
  subst this;rw [Qax];exact Nat.le_refl _
 | k+1,n,h=>by
  rcases Nat.eq_zero_or_pos n with rfl | hp
  ·rw [Qax];simp
  ·rw [Qeu hp,List.length_cons]
   have:n/1000000000<1000000000^k:=by
    rw [Nat.pow_succ] at h
    exact Nat.div_lt_of_lt_mul (by rw [Nat.mul_comm];exact h)
   exact Nat.succ_le_succ (QgZ k _ this)
theorem Qc6 (x:Int):x.natAbs<1000000000^nd x:=by
 have h1:=QfU (Qao x.natAbs)
 rw [QaJ] at h1
 have h2:((1000000000^(digs x.natAbs).length:Nat):Int)=(1000000000:Int)^(digs x.natAbs).length:=by simp
 rw [← h2] at h1
 exact Int.ofNat_lt.1 h1
theorem Qp0 {x:Int} {k:Nat} (h:x.natAbs<1000000000^k):nd x≤k:=QgZ k _ h
theorem QpO {n m:Nat} (h:n≤m):1000000000^n≤1000000000^m:=Nat.pow_le_pow_right (by omega) h
theorem nd_add {x y:Int} {k:Nat} (hx:nd x≤k) (hy:nd y≤k):nd (x+y)≤k+1:=by
 apply Qp0
 have h1:=Nat.lt_of_lt_of_le (Qc6 x) (QpO hx)
 have h2:=Nat.lt_of_lt_of_le (Qc6 y) (QpO hy)
 rw [Nat.pow_succ]
 omega
theorem nd_neg (x:Int):nd (-x)=nd x:=by simp [nd]
theorem Qdm {x y:Int}:nd (x*y)≤nd x+nd y:=by
 apply Qp0
 rw [Int.natAbs_mul,Nat.pow_add]
 exact Nat.mul_lt_mul'' (Qc6 x) (Qc6 y)
theorem QkV {x y:Int} (h:x.natAbs≤y.natAbs):nd x≤nd y:=Qp0 (Nat.lt_of_le_of_lt h (Qc6 y))
theorem Qhl {x:Int} (h:-9223372036854775808≤x∧x<9223372036854775808):nd x≤3:=by
 apply Qp0
 have:(1000000000:Nat)^3=1000000000000000000000000000:=by decide
 omega
theorem Ql5:nd 0=0:=by
 have:digs (0:Int).natAbs=[]:=Qax
 rw [nd,this];rfl
theorem Qdn (x:Int):val (digs x.natAbs)=x.natAbs:=QaJ _
end Go.AM

/- integer.of -/
namespace Go.AM
open Go Go.RowKit
variable [Its]

section
variable (neg:Bool) (d:D) (l:List Int)
def QlH (n:Int):St:=⟨upd (upd (upd (upd fr0 5 (.d (iv n))) 4 (.ptr [4] 0)) 1 (.d d)) 0 (.d (bv neg)),hupd hp0 [4] ⟨0,0,[.d (bv false),.d (.z true)],false⟩,[]⟩

theorem of_go (hr:Rw d l) (n:Nat) (h:n<l.length) (hl:l.length<4611686018427387904) (h0:l.getD n 0=0):X G QcD (QlH neg d ((n+1:Nat):Int))=some (.n,QlH neg d n):=by
 have e1:decide (((n+1:Nat):Int)>0)=true:=gt_t (by omega)
 have e2:w64 (((n+1:Nat):Int)-1)=n:=by rw [Qae (by omega) (by omega)];omega
 have e3:=hr.ixn (j:=n) (by omega)
 have e4:=fun hp=>ldv hp l (j:=n) (by omega)
 simp -implicitDefEqProofs (maxSteps:=9^8) only [QcD,QlH,go_sem,iv,bv,e1,e2,e3,e4,h0,Int.toNat_natCast,beq_self_eq_true,reduceCtorEq,↓reduceIte,Nat.reduceEqDiff]
theorem of_stop (hr:Rw d l) (n:Nat) (h:n<l.length) (hl:l.length<4611686018427387904) (h0:l.getD n 0≠0):X G QcD (QlH neg d ((n+1:Nat):Int))=some (.x 0,QlH neg d ((n+1:Nat):Int)):=by
 have e1:decide (((n+1:Nat):Int)>0)=true:=gt_t (by omega)
 have e2:w64 (((n+1:Nat):Int)-1)=n:=by rw [Qae (by omega) (by omega)];omega
 have e3:=hr.ixn (j:=n) (by omega)
 have e4:=fun hp=>ldv hp l (j:=n) (by omega)
 simp -implicitDefEqProofs (maxSteps:=9^8) only [QcD,QlH,go_sem,iv,bv,e1,e2,e3,e4,Qcx h0,Int.toNat_natCast,reduceCtorEq,↓reduceIte,Nat.reduceEqDiff]
theorem of_zero:X G QcD (QlH neg d ((0:Nat):Int))=some (.x 0,QlH neg d ((0:Nat):Int)):=by
 have e1:decide ((0:Int)>0)=false:=rfl
 simp -implicitDefEqProofs (maxSteps:=9^8) only [QcD,QlH,go_sem,iv,bv,e1,reduceCtorEq,↓reduceIte,Nat.reduceEqDiff]

theorem of_loop (hr:Rw d l) (hl:l.length<4611686018427387904):∀ n:Nat,n≤l.length→X G (.loop QcD) (QlH neg d (n:Int))=some (.x 0,QlH neg d (cutn l n:Nat))
 | 0,_=>by
  rw [Qai,of_zero]
  rfl
 | n+1,h=>by
  rw [Qai,cutn]
  by_cases h0:l.getD n 0=0
  ·rw [of_go neg d l hr n (by omega) hl h0,if_pos h0]
   exact of_loop hr hl n (by omega)
  ·rw [of_stop neg d l hr n (by omega) hl h0,if_neg h0]
   rfl
end

theorem Qfe (neg:Bool) {d:D} {l:List Int} (hr:Rw d l) (hl:l.length<4611686018427387904) (hd:Dig l):Qah G Qbt [bv neg,d]=some (.d (encI (sgn neg (val l)))):=by
 rw [Qad (cf:=QiT) rfl,QrO hd]
 have hc:=Qmw l l.length
 have el:=of_loop neg d l hr hl l.length (Nat.le_refl _)
 simp only [QlH,iv,bv] at el
 generalize hn:cutn l l.length=n at *
 by_cases h0:n=0
 ·subst h0
  have e0:((0:Int)==0)=true:=rfl
  simp only [nc0] at el
  simp -implicitDefEqProofs (maxSteps:=9^8) only [QiT,go_sem,Qac,Qab,iv,bv,hr.len,el,e0,reduceCtorEq,↓reduceIte,Nat.reduceEqDiff,List.length_cons,List.length_nil]
 ·obtain rfl:=hr.ne (by rintro rfl;simp [cutn] at hn;exact h0 hn.symm)
  have e0:(((n:Nat):Int)==0)=false:=Qcx (by omega)
  have e1:(0:Int)≤0∧(0:Int)≤(n:Int)∧(n:Int)≤(l.length:Int):=by omega
  have e2:(n:Int)≤(n:Int)∧(n:Int)≤(l.length:Int):=by omega
  simp only [rowI] at el
  have e3:(some n=some 0)=False:=by simp [h0]
  simp -implicitDefEqProofs (maxSteps:=9^8) only [QiT,go_sem,Qac,Qab,iv,bv,rowI,el,e0,e1,e2,e3,h0,reduceCtorEq,↓reduceIte,Nat.reduceEqDiff,List.length_cons,List.length_nil]
end Go.AM

/- integer.unsigned, Of -/
namespace Go.AM
open Go Go.RowKit
variable [Its]

theorem Qrr (neg:Bool) {u:Int} (h:0<u):encI (sgn neg u)=.agg [bv neg,dg (digs u.toNat)]:=by
 have _its:Its:=inferInstance
 have e1:decide (sgn neg u<0)=neg:=by
  cases neg
  ·simp only [sgn,Bool.false_eq_true,if_false,decide_eq_false_iff_not];omega
  ·simp only [sgn,if_true,decide_eq_true_eq];omega
 rw [encI,e1,Qiz,show u.natAbs=u.toNat by omega]
theorem encI_sgn0 (neg:Bool):encI (sgn neg 0)=.agg [bv false,.z true]:=by
 have _its:Its:=inferInstance
 have e:encI 0=.agg [bv false,.z true]:=by
  have:digs (0:Int).natAbs=[]:=Qax
  rw [encI,this];rfl
 cases neg<;>exact e

theorem Qb8 (neg:Bool) {u:Int} (h:0≤u∧u<18446744073709551616):Qah G QbA [bv neg,.v (.int .u64 u)]=some (.d (encI (sgn neg u))):=by
 rw [Qad (cf:=Qcs) rfl]
 have q1:∀ x:Int,0≤x→x.tmod 1000000000=x%1000000000:=fun x hx=>Int.tmod_eq_emod_of_nonneg hx
 have q2:∀ x:Int,0≤x→x.tdiv 1000000000=x/1000000000:=fun x hx=>Int.tdiv_eq_ediv_of_nonneg hx
 by_cases h0:u=0
 ·subst h0
  rw [encI_sgn0]
  have e1:((0:Int)==0)=true:=rfl
  simp -implicitDefEqProofs (maxSteps:=9^8) only [Qcs,go_sem,Qac,Qab,iv,bv,e1,reduceCtorEq,↓reduceIte,Nat.reduceEqDiff]
 ·have e1:(u==0)=false:=Qcx h0
  rw [Qrr neg (by omega)]
  have d1:=Qeu (n:=u.toNat) (by omega)
  by_cases h1:u<1000000000
  ·have e2:decide (u<1000000000)=true:=lt_t h1
   have e3:w64 u=u:=Qae (by omega) (by omega)
   have d2:digs u.toNat=[u]:=by
    rw [d1,show u.toNat/1000000000=0 by omega,Qax,show ((u.toNat%1000000000:Nat):Int)=u by omega]
   rw [d2,QqI]
   simp -implicitDefEqProofs (maxSteps:=9^8) only [Qcs,go_sem,Qac,Qab,iv,bv,e1,e2,e3,reduceCtorEq,↓reduceIte,Nat.reduceEqDiff]
  ·have e2:decide (u<1000000000)=false:=lt_f h1
   have t1:=q1 u (by omega)
   have t2:=q2 u (by omega)
   have e3:w64 (u%1000000000)=u%1000000000:=Qae (by omega) (by omega)
   have m1:u/1000000000%18446744073709551616=u/1000000000:=by omega
   have e4:w64 (u/1000000000)=u/1000000000:=Qae (by omega) (by omega)
   have d1':=Qeu (n:=u.toNat/1000000000) (by omega)
   by_cases h2:u<1000000000000000000
   ·have e5:decide (u<1000000000000000000)=true:=lt_t h2
    have d2:digs u.toNat=[u%1000000000,u/1000000000]:=by
     rw [d1,d1',show u.toNat/1000000000/1000000000=0 by omega,Qax,show ((u.toNat%1000000000:Nat):Int)=u%1000000000 by omega,show ((u.toNat/1000000000%1000000000:Nat):Int)=u/1000000000 by omega]
    rw [d2,QqI]
    simp -implicitDefEqProofs (maxSteps:=9^8) only [Qcs,go_sem,Qac,Qab,iv,bv,e1,e2,t1,t2,m1,e3,e4,e5,reduceCtorEq,↓reduceIte,Nat.reduceEqDiff]
   ·have e5:decide (u<1000000000000000000)=false:=lt_f h2
    have t3:=q1 (u/1000000000) (by omega)
    have t4:=q2 (u/1000000000) (by omega)
    have e6:w64 (u/1000000000%1000000000)=u/1000000000%1000000000:=Qae (by omega) (by omega)
    have m2:u/1000000000/1000000000%18446744073709551616=u/1000000000/1000000000:=by omega
    have e7:w64 (u/1000000000/1000000000)=u/1000000000/1000000000:=Qae (by omega) (by omega)
    have d1'':=Qeu (n:=u.toNat/1000000000/1000000000) (by omega)
    have d2:digs u.toNat=[u%1000000000,u/1000000000%1000000000,u/1000000000/1000000000]:=by
     rw [d1,d1',d1'',show u.toNat/1000000000/1000000000/1000000000=0 by omega,Qax,show ((u.toNat%1000000000:Nat):Int)=u%1000000000 by omega,show ((u.toNat/1000000000%1000000000:Nat):Int)=u/1000000000%1000000000 by omega,
      show ((u.toNat/1000000000/1000000000%1000000000:Nat):Int)=u/1000000000/1000000000 by omega]
    rw [d2,QqI]
    simp -implicitDefEqProofs (maxSteps:=9^8) only [Qcs,go_sem,Qac,Qab,iv,bv,e1,e2,t1,t2,t3,t4,m1,m2,e3,e4,e5,e6,e7,reduceCtorEq,↓reduceIte,Nat.reduceEqDiff]

theorem QmU {n:Int} (h:I64 n):Qah G Qem [iv n]=some (.d (encI n)):=by
 obtain ⟨h1,h2⟩:=h
 rw [Qad (cf:=QiL) rfl]
 by_cases hn:n<0
 ·have e1:decide (n<0)=true:=lt_t hn
  have e2:(0-n%18446744073709551616)%18446744073709551616 = -n:=by omega
  have e3:=Qb8 true (u:=-n) (by omega)
  have e4:sgn true (-n)=n:=by simp [sgn]
  rw [e4] at e3
  simp only [bv] at e3
  simp -implicitDefEqProofs (maxSteps:=9^8) only [QiL,encI,go_sem,Qac,Qab,iv,bv,e1,e2,reduceCtorEq,↓reduceIte,Nat.reduceEqDiff]
  simp only [e1,e3,encI,go_sem,Qac,Qab,iv,bv,reduceCtorEq,↓reduceIte,Nat.reduceEqDiff]
 ·have e1:decide (n<0)=false:=lt_f hn
  have e2:n%18446744073709551616=n:=by omega
  have e3:=Qb8 false (u:=n) (by omega)
  have e4:sgn false n=n:=rfl
  rw [e4] at e3
  simp only [bv] at e3
  simp -implicitDefEqProofs (maxSteps:=9^8) only [QiL,encI,go_sem,Qac,Qab,iv,bv,e1,e2,reduceCtorEq,↓reduceIte,Nat.reduceEqDiff]
  simp only [e1,e3,encI,go_sem,Qac,Qab,iv,bv,reduceCtorEq,↓reduceIte,Nat.reduceEqDiff]
end Go.AM

/- integer.Mul -/
namespace Go.AM
open Go Go.RowKit
variable [Its]

theorem Qmr {d e:Int} (hd:0≤d∧d<1000000000) (he:0≤e∧e<1000000000):0≤d*e∧d*e≤999999998000000001:=by
 have _its:Its:=inferInstance
 refine ⟨Int.mul_nonneg hd.1 he.1, ?_⟩
 have h1:d*e≤999999999*e:=Int.mul_le_mul_of_nonneg_right (by omega) he.1
 omega

theorem mul_arith {o pr c:Int} (m:0≤pr∧pr≤999999998000000001) (ho:0≤o∧o<1000000000) (hc:0≤c∧c<1000000000) :
    w64 pr=pr∧w64 (o+pr)=o+pr∧w64 (o+pr+c)=o+pr+c∧(o+pr+c).tdiv 1000000000=(o+pr+c)/1000000000∧w64 ((o+pr+c)/1000000000)=(o+pr+c)/1000000000 ∧
    w64 ((o+pr+c)/1000000000*1000000000)=(o+pr+c)/1000000000*1000000000∧w64 (o+pr+c-(o+pr+c)/1000000000*1000000000)=(o+pr+c)%1000000000:=by
  have _its:Its:=inferInstance
  refine ⟨Qae (by omega) (by omega),Qae (by omega) (by omega),Qae (by omega) (by omega),Int.tdiv_eq_ediv_of_nonneg (by omega),Qae (by omega) (by omega),Qae (by omega) (by omega), ?_⟩
  rw [Qae (by omega) (by omega)];omega

section
variable (p q:Bool) (dx dy da db:D) (a b:List Int)
def mulH (out:List Int):Hp:=hupd (hupd (hupd (hupd hp0 [46] ⟨1,a.length+b.length,Qbw out,false⟩) [4] ⟨0,0,[.d (.v (.bool false)),.d (.z true)],false⟩) [3] ⟨0,0,[.d (.v (.bool q)),.d dy],false⟩) [2] ⟨0,0,[.d (.v (.bool p)),.d dx],false⟩
def QmA (out:List Int) (i:Nat) (d c k:Int):St :=
 ⟨upd (upd (upd (upd (upd (upd (upd (upd (upd (upd (upd (upd (upd (upd fr0 56 (.d (.v (.int .i64 k)))) 55 (.d (.v (.int .i64 b.length)))) 54 (.d db)) 49 (.d (.v (.int .i64 i)))) 48 (.d (.v (.int .i64 a.length)))) 47 (.d da))
  10 (.d (.v (.int .i64 c)))) 9 (.d (.v (.int .i64 d)))) 8 (.d (.v (.int .i64 i)))) 7 (.own [46] (a.length+b.length))) 6 (.d db)) 4 (.ptr [4] 0)) 3 (.ptr [3] 0)) 2 (.ptr [2] 0),mulH p q dx dy a b out,[]⟩
def QoJ (out:List Int) (i:Nat) (c:Int):St :=
 ⟨upd (upd (upd (upd (upd (upd (upd (upd (upd (upd fr0 49 (.d (.v (.int .i64 i)))) 48 (.d (.v (.int .i64 a.length)))) 47 (.d da))
  10 (.d (.v (.int .i64 c)))) 8 (.d (.v (.int .i64 i)))) 7 (.own [46] (a.length+b.length))) 6 (.d db)) 4 (.ptr [4] 0)) 3 (.ptr [3] 0)) 2 (.ptr [2] 0),mulH p q dx dy a b out,[]⟩

theorem Qqy (out:List Int) (i:Nat) (d c:Int):X G Qde (QmA p q dx dy da db a b out i d c b.length)=some (.x 2,QoJ p q dx dy da db a b out i c):=by
 have e1:decide ((b.length:Int)<(b.length:Int))=false:=lt_f (by omega)
 simp -implicitDefEqProofs (maxSteps:=9^8) only [Qde,QmA,QoJ,mulH,go_sem,iv,bv,e1,Qal,reduceCtorEq,↓reduceIte,Nat.reduceEqDiff]

theorem mul_in_go (hrb:Rw db b) (hb:Dig b) (out:List Int) (i k:Nat) (d c:Int) (hd:0≤d∧d<1000000000) (hc:0≤c∧c<1000000000) (ho:Dig out) (hi:i<a.length) (hk:k<b.length) (hl:a.length+b.length<4611686018427387904) (hlen:out.length=a.length+b.length) :
    X G Qde (QmA p q dx dy da db a b out i d c k)=some (.n,QmA p q dx dy da db a b (out.set (i+k) ((out.getD (i+k) 0+d*b.getD k 0+c)%1000000000)) i d ((out.getD (i+k) 0+d*b.getD k 0+c)/1000000000) ((k+1:Nat):Int)):=by
  have e1:decide ((k:Int)<(b.length:Int))=true:=lt_t (by omega)
  have e2:=hrb.ixn hk
  have e3:=fun hp=>ldv hp b hk
  have e4:w64 ((i:Int)+(k:Int))=((i+k:Nat):Int):=by rw [Qae (by omega) (by omega)];omega
  have g1:(0:Int)≤((i+k:Nat):Int)∧((i+k:Nat):Int)<((a.length+b.length:Nat):Int):=by omega
  have g3:=Qb7 (l:=out) (off:=i+k) (by omega)
  have g2:=fun v=>Qbu (l:=out) (off:=i+k) (v:=v) (by omega)
  have e9:w64 ((k:Int)+1)=((k+1:Nat):Int):=by rw [Qae (by omega) (by omega)];omega
  obtain ⟨e5,e6,e7,q1,e8,e10,e11⟩:=mul_arith (Qmr hd (hb.getD k)) (ho.getD (i+k)) hc
  simp -implicitDefEqProofs (maxSteps:=9^8) only [Qde,QmA,mulH,go_sem,iv,bv,e1,e2,e3,e4,e5,e6,e7,q1,e8,e9,e10,e11,g1,g2,g3,Qal,Qak,QbV,reduceCtorEq,↓reduceIte,Nat.reduceEqDiff]

theorem Qm6         (hrb:Rw db b) (hb:Dig b) (i:Nat) (d:Int) (hd:0≤d∧d<1000000000) (hi:i<a.length) (hl:a.length+b.length<4611686018427387904):∀ (r k:Nat) (out:List Int) (c:Int),k+r=b.length→(0≤c∧c<1000000000)→Dig out→out.length=a.length+b.length →
    ∃ out' c',X G (.loop Qde) (QmA p q dx dy da db a b out i d c k)=some (.x 2,QoJ p q dx dy da db a b out' i c')∧(0≤c'∧c'<1000000000)∧Dig out'∧out'.length=a.length+b.length∧(∀ j,i+b.length≤j→out'.getD j 0=out.getD j 0) ∧
      val out'+(1000000000:Int)^(i+b.length)*c'=val out+(1000000000:Int)^(i+k)*c+(1000000000:Int)^i*d*(val b-val (b.take k))
  | 0,k,out,c,hk,hc,ho,hlen=>by
    obtain rfl:k=b.length:=by omega
    refine ⟨out,c, ?_,hc,ho,hlen,fun _ _=>rfl, ?_⟩
    · rw [Qai,Qqy];rfl
    · rw [List.take_length,Int.sub_self,Int.mul_zero,Int.add_zero]
  | r+1,k,out,c,hk,hc,ho,hlen=>by
    have hx:=mul_in_go p q dx dy da db a b hrb hb out i k d c hd hc ho hi (by omega) hl hlen
    have hik:i+k<out.length:=by omega
    have hvt:=Qas b k
    obtain ⟨m1,m2⟩:=Qmr hd (hb.getD k)
    have hok:=ho.getD (i+k)
    generalize hv:out.getD (i+k) 0+d*b.getD k 0+c=v at hx
    have hv1:0≤v∧v<1000000000000000000:=by
      generalize d*b.getD k 0=pr at *
      omega
    obtain ⟨out',c',g1,g2,g3,g4,g5,g6⟩:=Qm6 hrb hb i d hd hi hl r (k+1) (out.set (i+k) (v%1000000000)) (v/1000000000) (by omega) (by omega) (ho.set (by omega)) (by simpa using hlen)
    refine ⟨out',c', ?_,g2,g3,g4,fun j hj=>?_, ?_⟩
    · rw [Qai,hx];exact g1
    · rw [g5 j hj,Qbd _ (by omega)]
    · rw [g6,Qe8 _ _ _ hik,hvt,show i+(k+1)=(i+k)+1 by omega,Int.pow_succ,Int.pow_add]
      have hdm:v%1000000000+1000000000*(v/1000000000)=v:=by omega
      have hv2:=hv.symm
      generalize v%1000000000=vm at *
      generalize v/1000000000=vd at *
      grind

def Qjo (out:List Int) (i:Int):St :=
 ⟨upd (upd (upd (upd (upd (upd (upd (upd fr0 49 (.d (.v (.int .i64 i)))) 48 (.d (.v (.int .i64 a.length)))) 47 (.d da))
  7 (.own [46] (a.length+b.length))) 6 (.d db)) 4 (.ptr [4] 0)) 3 (.ptr [3] 0)) 2 (.ptr [2] 0),mulH p q dx dy a b out,[]⟩
def Qod (out:List Int):St :=
 ⟨upd (upd (upd (upd fr0 7 (.own [46] (a.length+b.length))) 4 (.ptr [4] 0)) 3 (.ptr [3] 0)) 2 (.ptr [2] 0),mulH p q dx dy a b out,[]⟩

theorem Qp4 (out:List Int):X G Qdg (Qjo p q dx dy da db a b out a.length)=some (.x 0,Qod p q dx dy a b out):=by
 have e1:decide ((a.length:Int)<(a.length:Int))=false:=lt_f (by omega)
 simp -implicitDefEqProofs (maxSteps:=9^8) only [Qdg,Qjo,Qod,mulH,go_sem,iv,bv,e1,Qal,reduceCtorEq,↓reduceIte,Nat.reduceEqDiff]

theorem Quc        (hra:Rw da a) (hrb:Rw db b) (ha:Dig a) (hb:Dig b) (out:List Int) (i:Nat) (ho:Dig out) (hi:i<a.length) (hl:a.length+b.length<4611686018427387904) (hlen:out.length=a.length+b.length) :
    ∃ out',X G Qdg (Qjo p q dx dy da db a b out i)=some (.n,Qjo p q dx dy da db a b out' ((i+1:Nat):Int))∧Dig out'∧out'.length=a.length+b.length ∧
      (∀ j,i+b.length<j→out'.getD j 0=out.getD j 0)∧(out.getD (i+b.length) 0=0→val out'=val out+(1000000000:Int)^i*a.getD i 0*val b):=by
  have e1:decide ((i:Int)<(a.length:Int))=true:=lt_t (by omega)
  have e2:=hra.ixn hi
  have e3:=fun hp=>ldv hp a hi
  have e4:w64 ((i:Int)+(b.length:Int))=((i+b.length:Nat):Int):=by rw [Qae (by omega) (by omega)];omega
  have e9:w64 ((i:Int)+1)=((i+1:Nat):Int):=by rw [Qae (by omega) (by omega)];omega
  have g7:(0:Int)≤((i+b.length:Nat):Int)∧((i+b.length:Nat):Int)<((a.length+b.length:Nat):Int):=by omega
  have hib0:i+b.length<a.length+b.length:=by omega
  have hne:∀ j,i+b.length<j→i+b.length≠j∧i+b.length≤j:=fun j hj=>by omega
  obtain ⟨o2,c,g1,g2,g3,g4,g5,g6⟩:=Qm6 p q dx dy da db a b hrb hb i (a.getD i 0) (ha.getD i) hi hl b.length 0 out 0 (by omega) (by omega) ho hlen
  have hib:i+b.length<o2.length:=by rw [g4];exact hib0
  have g8:=fun v=>Qbu (l:=o2) (off:=i+b.length) (v:=v) hib
  simp only [QmA,QoJ,mulH,nc0] at g1
  refine ⟨o2.set (i+b.length) c, ?_,g3.set g2,by simpa using g4,fun j hj=>?_,fun h0=>?_⟩
  · simp -implicitDefEqProofs (maxSteps:=9^8) only [Qdg,Qjo,mulH,go_sem,iv,bv,e1,e2,e3,e4,e9,g1,g7,g8,hrb.len,Qal,Qak,QbV,reduceCtorEq,↓reduceIte,Nat.reduceEqDiff]
  · rw [Qbd _ (hne j hj).1,g5 j (hne j hj).2]
  · rw [Qe8 _ _ _ hib,g5 _ (Nat.le_refl _),h0]
    simp only [List.take_zero,val,Int.sub_zero,Int.mul_zero,Int.add_zero] at g6 ⊢
    exact g6

theorem Qln          (hra:Rw da a) (hrb:Rw db b) (ha:Dig a) (hb:Dig b) (hl:a.length+b.length<4611686018427387904):∀ (r i:Nat) (out:List Int),i+r=a.length→Dig out→out.length=a.length+b.length→(∀ j,i+b.length≤j→out.getD j 0=0)→val out=val (a.take i)*val b →
    ∃ out',X G (.loop Qdg) (Qjo p q dx dy da db a b out i)=some (.x 0,Qod p q dx dy a b out')∧Dig out'∧out'.length=a.length+b.length∧val out'=val a*val b
  | 0,i,out,hi,ho,hlen,hz,hv=>by
    obtain rfl:i=a.length:=by clear hv;omega
    refine ⟨out, ?_,ho,hlen, ?_⟩
    · rw [Qai,Qp4];rfl
    · rw [hv,List.take_length]
  | r+1,i,out,hi,ho,hlen,hz,hv=>by
    have hi':i<a.length:=by clear hv;omega
    have hn:i+1+r=a.length:=by clear hv;omega
    have hj:∀ j,i+1+b.length≤j→i+b.length<j∧i+b.length≤j:=by clear hv;intro j hj;omega
    obtain ⟨out',g1,g2,g3,g4,g5⟩:=Quc p q dx dy da db a b hra hrb ha hb out i ho hi' hl hlen
    have hv':=g5 (hz _ (Nat.le_refl _))
    obtain ⟨o2,k1,k2⟩:=Qln hra hrb ha hb hl r (i+1) out' hn g2 g3 (fun j h=>by rw [g4 j (hj j h).1];exact hz j (hj j h).2) (by rw [hv',hv,Qas a];grind)
    refine ⟨o2, ?_,k2⟩
    rw [Qai,g1]
    exact k1
end
end Go.AM

/- integer.Mul as a function -/
namespace Go.AM
open Go Go.RowKit
variable [Its]

theorem sgn_mul {x y:Int} (h:x≠0) (h2:y≠0):sgn (!(decide (x<0)==decide (y<0))) ((x.natAbs:Int)*(y.natAbs:Int))=x*y:=by
 have _its:Its:=inferInstance
 by_cases hx:x<0<;>by_cases hy:y<0
 ·have e1:(x.natAbs:Int) = -x:=by omega
  have e2:(y.natAbs:Int) = -y:=by omega
  simp [sgn,hx,hy,e1,e2]
  try grind
 ·have e1:(x.natAbs:Int) = -x:=by omega
  have e2:(y.natAbs:Int)=y:=by omega
  simp [sgn,hx,hy,e1,e2]
  try grind
 ·have e1:(x.natAbs:Int)=x:=by omega
  have e2:(y.natAbs:Int) = -y:=by omega
  simp [sgn,hx,hy,e1,e2]
  try grind
 ·have e1:(x.natAbs:Int)=x:=by omega
  have e2:(y.natAbs:Int)=y:=by omega
  simp [sgn,hx,hy,e1,e2]
  try grind

theorem QoP (x y:Int):sgn (!(decide (x<0)==decide (y<0))) ((x.natAbs:Int)*(y.natAbs:Int))=x*y:=by
 by_cases h:x=0
 ·subst h
  have:((0:Int).natAbs:Int)=0:=rfl
  rw [this,Int.zero_mul,Int.zero_mul]
  unfold sgn;split<;>rfl
 ·by_cases h2:y=0
  ·subst h2
   have:((0:Int).natAbs:Int)=0:=rfl
   rw [this,Int.mul_zero,Int.mul_zero]
   unfold sgn;split<;>rfl
  ·exact sgn_mul h h2

theorem QmF {n:Nat} (h:(digs n).length=1):(digs n).getD 0 0=n∧n<1000000000:=by
 have _its:Its:=inferInstance
 have hv:=QaJ n
 have hd:=Qao n
 match hl:digs n,h with
 | [d],_ =>
  rw [hl] at hv hd
  have:=hd d (by simp)
  simp only [val] at hv
  simp only [List.getD_cons_zero]
  omega

theorem Mul_one {x y:Int} (hx:(digs x.natAbs).length=1) (hy:(digs y.natAbs).length=1):Qah G QbR [encI x,encI y]=some (.d (encI (x*y))):=by
 rw [Qad (cf:=Qe3) rfl]
 obtain ⟨a1,a2⟩:=QmF hx
 obtain ⟨b1,b2⟩:=QmF hy
 have e0:=QaZ (digs x.natAbs)
 have e1:=QaZ (digs y.natAbs)
 rw [hx] at e0
 rw [hy] at e1
 have e2:=(Rw.dg (digs x.natAbs)).ixn (j:=0) (by omega)
 have e3:=fun hp=>ldv hp (digs x.natAbs) (j:=0) (by omega)
 have e4:=(Rw.dg (digs y.natAbs)).ixn (j:=0) (by omega)
 have e5:=fun hp=>ldv hp (digs y.natAbs) (j:=0) (by omega)
 simp only [nc0,a1,b1,List.drop_zero] at e2 e3 e4 e5
 have e6:(((1:Nat):Int)==1)=true:=rfl
 have e7:((x.natAbs:Nat):Int)%18446744073709551616=(x.natAbs:Int):=by omega
 have e8:((y.natAbs:Nat):Int)%18446744073709551616=(y.natAbs:Int):=by omega
 have e9:((x.natAbs:Nat):Int)*((y.natAbs:Nat):Int)%18446744073709551616=(x.natAbs:Int)*(y.natAbs:Int)∧0≤(x.natAbs:Int)*(y.natAbs:Int)∧(x.natAbs:Int)*(y.natAbs:Int)<18446744073709551616:=by
  obtain ⟨m1,m2⟩:=Qmr (d:=(x.natAbs:Int)) (e:=(y.natAbs:Int)) (by omega) (by omega)
  generalize (x.natAbs:Int)*(y.natAbs:Int)=pr at *
  clear e0 e1 e2 e3 e4 e5
  omega
 have g:=Qb8 (!(decide (x<0)==decide (y<0))) e9.2
 rw [QoP] at g
 simp only [bv] at g
 simp -implicitDefEqProofs (maxSteps:=9^8) only [Qe3,encI,go_sem,Qac,Qab,iv,bv,e0,e1,e2,e3,e4,e5,e6,e7,e8,e9.1,g,reduceCtorEq,↓reduceIte,Nat.reduceEqDiff]

theorem QgL {x y:Int} (hx:nd x≤1000000000000) (hy:nd y≤1000000000000):Qah G QbR [encI x,encI y]=some (.d (encI (x*y))):=by
 by_cases h1:(digs x.natAbs).length=1∧(digs y.natAbs).length=1
 ·exact Mul_one h1.1 h1.2
 rw [Qad (cf:=Qe3) rfl]
 have hx':(digs x.natAbs).length≤1000000000000:=hx
 have hy':(digs y.natAbs).length≤1000000000000:=hy
 have e0:=QaZ (digs x.natAbs)
 have e1:=QaZ (digs y.natAbs)
 have vx:=Qdn x
 have vy:=Qdn y
 have dx:=Qao x.natAbs
 have dy:=Qao y.natAbs
 have hw:w64 (((digs x.natAbs).length:Int)+((digs y.natAbs).length:Int))=(((digs x.natAbs).length+(digs y.natAbs).length:Nat):Int):=by rw [Qae (by omega) (by omega)];omega
 have hm:(0:Int)≤(((digs x.natAbs).length+(digs y.natAbs).length:Nat):Int)∧(((digs x.natAbs).length+(digs y.natAbs).length:Nat):Int)*((8:Nat):Int)≤((bound:Nat):Int):=by simp only [bound];omega
 have hlt:(digs x.natAbs).length+(digs y.natAbs).length<4611686018427387904:=by omega
 obtain ⟨out,g1,g2,g3,g4⟩:=Qln (decide (x<0)) (decide (y<0)) (dg (digs x.natAbs)) (dg (digs y.natAbs)) (dg (digs x.natAbs)) (dg (digs y.natAbs)) (digs x.natAbs) (digs y.natAbs) (Rw.dg _) (Rw.dg _) dx dy hlt
  (digs x.natAbs).length 0 (List.replicate ((digs x.natAbs).length+(digs y.natAbs).length) 0) (by omega) (Dig.replicate _) (by simp) (fun j _=>by simp only [List.getD_eq_getElem?_getD,List.getElem?_replicate];split<;>rfl) (by rw [QfZ];simp [val])
 have hol:out.length<4611686018427387904:=by rw [g3];exact hlt
 have g5:=Qfe (!(decide (x<0)==decide (y<0))) (Rw.row out) hol g2
 rw [g4,vx,vy,QoP] at g5
 simp only [rowI,bv,g3] at g5
 simp only [Qjo,Qod,mulH,nc0] at g1
 by_cases h2:(digs x.natAbs).length=1
 ·have k1:(((digs x.natAbs).length:Int)==1)=true:=QkI (by omega)
  have k2:(((digs y.natAbs).length:Int)==1)=false:=Qcx (by omega)
  simp -implicitDefEqProofs (maxSteps:=9^8) only [Qe3,encI,go_sem,Qac,Qab,Qfz,iv,bv,e0,e1,k1,k2,hw,hm,Qk2,Qal,QbV,g1,g5,reduceCtorEq,↓reduceIte,Nat.reduceEqDiff]
 ·have k1:(((digs x.natAbs).length:Int)==1)=false:=Qcx (by omega)
  simp -implicitDefEqProofs (maxSteps:=9^8) only [Qe3,encI,go_sem,Qac,Qab,Qfz,iv,bv,e0,e1,k1,hw,hm,Qk2,Qal,QbV,g1,g5,reduceCtorEq,↓reduceIte,Nat.reduceEqDiff]
end Go.AM

/- integer.two -/
namespace Go.AM
open Go Go.RowKit

theorem val_one {l:List Int} (h:l.length=1):val l=l.getD 0 0:=by
 match l,h with
 | [x],_=>simp [val]
theorem val_two {l:List Int} (h:l.length=2):val l=l.getD 1 0*1000000000+l.getD 0 0:=by
 match l,h with
 | [x,y],_=>simp [val];omega
variable [Its]

theorem QlN      {d:D} {l:List Int} (h:Rw d l) (hd:Dig l) (hl:l.length<4611686018427387904) :
    Qah G QeL [d]=some (.d (.tup [iv (if l.length≤2 then val l else 0),bv (decide (l.length≤2))])):=by
  rw [Qad (cf:=Qfc) rfl]
  have b0:=hd.getD 0
  have b1:=hd.getD 1
  have hh:=h.len
  by_cases h0:l.length=0
  · have e1:val l=0:=by rw [List.length_eq_zero_iff.1 h0];rfl
    have e2:(((0:Nat):Int)==0)=true:=rfl
    have e3:(0:Nat)≤2:=by omega
    simp -implicitDefEqProofs (maxSteps:=9^8) only [Qfc,go_sem,iv,bv,hh,h0,e1,e2,e3,toDs,beq_self_eq_true,reduceCtorEq,↓reduceIte,Nat.reduceEqDiff]
  · by_cases h1:l.length=1
    · have e1:=h.ixn (j:=0) (by omega)
      have e2:=fun hp=>ldv hp l (j:=0) (by omega)
      simp only [nc0,List.drop_zero] at e1 e2
      have e3:(((1:Nat):Int)==0)=false:=rfl
      have e4:(((1:Nat):Int)==1)=true:=rfl
      have e5:(1:Nat)≤2:=by omega
      simp -implicitDefEqProofs (maxSteps:=9^8) only [Qfc,go_sem,iv,bv,hh,h1,e1,e2,e3,e4,e5,val_one h1,toDs,reduceCtorEq,↓reduceIte,Nat.reduceEqDiff]
    · by_cases h2:l.length=2
      · have e1:=h.ixn (j:=0) (by omega)
        have e2:=fun hp=>ldv hp l (j:=0) (by omega)
        have f1:=h.ixn (j:=1) (by omega)
        have f2:=fun hp=>ldv hp l (j:=1) (by omega)
        simp only [nc0,List.drop_zero] at e1 e2
        have e3:(((2:Nat):Int)==0)=false:=rfl
        have e4:(((2:Nat):Int)==1)=false:=rfl
        have e5:(((2:Nat):Int)==2)=true:=rfl
        have e8:(2:Nat)≤2:=by omega
        have e9:((1:Nat):Int)=1:=rfl
        rw [e9] at f1
        have e6:w64 (l.getD 1 0*1000000000)=l.getD 1 0*1000000000:=Qae (by omega) (by omega)
        have e7:w64 (l.getD 1 0*1000000000+l.getD 0 0)=l.getD 1 0*1000000000+l.getD 0 0:=Qae (by omega) (by omega)
        simp -implicitDefEqProofs (maxSteps:=9^8) only [Qfc,go_sem,iv,bv,hh,h2,e1,e2,e3,e4,e5,e6,e7,e8,f1,f2,val_two h2,toDs,reduceCtorEq,↓reduceIte,Nat.reduceEqDiff]
      · have e3:((l.length:Int)==0)=false:=Qcx (by omega)
        have e4:((l.length:Int)==1)=false:=Qcx (by omega)
        have e5:((l.length:Int)==2)=false:=Qcx (by omega)
        have e6:¬ l.length≤2:=by omega
        simp -implicitDefEqProofs (maxSteps:=9^8) only [Qfc,go_sem,iv,bv,hh,e3,e4,e5,e6,toDs,reduceCtorEq,↓reduceIte,Nat.reduceEqDiff]
end Go.AM

/- States as lists; quotients; values from the top. -/
namespace Go.AM
open Go Go.RowKit

def frL:List (Nat×A)→Fr
 | []=>fr0
 | (i,x) :: r=>upd (frL r) i x
def hpL:List (Key×Obj)→Hp
 | []=>hp0
 | (k,o) :: r=>hupd (hpL r) k o
def mkS (f:List (Nat×A)) (h:List (Key×Obj)):St:=⟨frL f,hpL h,[]⟩
def ai (x:Int):A:=.d (.v (.int .i64 x))
def ab (b:Bool):A:=.d (.v (.bool b))
def arrI (n:Nat) (l:List Int):Obj:=⟨1,n,Qbw l,false⟩
attribute [go_sem] mkS frL hpL ai ab arrI

theorem QfI {a b:Int} (ha:0≤a):a.tdiv b=a/b:=Int.tdiv_eq_ediv_of_nonneg ha
theorem Qee {a b:Int} (ha:0≤a):a.tmod b=a%b:=Int.tmod_eq_emod_of_nonneg ha
theorem QkL {b:Int} (h:b≠0):(b=0)=False:=eq_false h

theorem Qa3 (l:List Int) (k:Nat):val (l.drop k)=l.getD k 0+1000000000*val (l.drop (k+1)):=by
 by_cases h:k<l.length
 ·rw [List.drop_eq_getElem_cons h,val]
  simp [List.getD,h]
 ·rw [List.drop_eq_nil_of_le (by omega),List.drop_eq_nil_of_le (by omega)]
  have:l.getD k 0=0:=by rw [List.getD_eq_getElem?_getD,List.getElem?_eq_none (by omega)];rfl
  rw [this];simp [val]
theorem Qlp {l:List Int} {k:Nat} (d:Int) (h:k<l.length):val ((l.set k d).drop k)=d+1000000000*val (l.drop (k+1)):=by
 rw [Qa3,Qho l d (Nat.lt_succ_self k)]
 simp [List.getD,h]
theorem QjK {l:List Int} {k:Nat} (d:Int) (h:k<l.length):(l.set k d).getD k 0=d:=by simp [List.getD,h]
theorem Qc2 (n:Nat):(0:Int)<(1000000000:Int)^n:=Int.pow_pos (by omega)
theorem bnd (n:Nat) (h:n*8≤140737488351232):(0:Int)≤((n:Nat):Int)∧((n:Nat):Int)*((8:Nat):Int)≤((bound:Nat):Int):=by simp only [bound];omega
end Go.AM

/- integer.short -/
namespace Go.AM
open Go Go.RowKit

theorem QmH         {r a b:Int} (hb:0<b∧b<1000000000) (hr:0≤r∧r<b) (ha:0≤a∧a<1000000000) :
    0≤r*1000000000+a∧r*1000000000+a<1000000000000000000∧0≤(r*1000000000+a)/b∧(r*1000000000+a)/b<1000000000∧0≤(r*1000000000+a)%b∧(r*1000000000+a)%b<b∧(r*1000000000+a)/b*b+(r*1000000000+a)%b=r*1000000000+a:=by
  refine ⟨by omega,by omega,Int.ediv_nonneg (by omega) (by omega), ?_,Int.emod_nonneg _ (by omega),Int.emod_lt_of_pos _ (by omega),Int.ediv_mul_add_emod _ _⟩
  apply Int.ediv_lt_of_lt_mul (by omega)
  omega
variable [Its]

section
variable (da:D) (a:List Int) (b:Int)
def QhS (q:List Int) (r i:Int):St:=mkS [(0,.d da),(1,ai b),(6,.own [12] a.length),(7,ai r),(8,ai i)] [([12],arrI a.length q)]
def Qj9 (q:List Int) (r:Int):St:=mkS [(6,.own [12] a.length),(7,ai r)] [([12],arrI a.length q)]

theorem Qt8 (q:List Int) (r:Int):X G Qcr (QhS da a b q r (-1))=some (.x 0,Qj9 a q r):=by
 have e1:decide ((-1:Int)≥0)=false:=rfl
 simp -implicitDefEqProofs (maxSteps:=9^8) only [Qcr,QhS,Qj9,go_sem,iv,bv,e1,Qal,reduceCtorEq,↓reduceIte,Nat.reduceEqDiff]

theorem short_go (hra:Rw da a) (ha:Dig a) (hb:0<b∧b<1000000000) (q:List Int) (r:Int) (hr:0≤r∧r<b) (hq:q.length=a.length) {i:Nat} (hi:i<a.length) (hl:a.length<4611686018427387904) :
    X G Qcr (QhS da a b q r (i:Int))=some (.n,QhS da a b (q.set i ((r*1000000000+a.getD i 0)/b)) ((r*1000000000+a.getD i 0)%b) ((i:Int)-1)):=by
  obtain ⟨h1,h2,h3,h4,h5,h6,_⟩:=QmH hb hr (ha.getD i)
  have a1:=ha.getD i
  have e1:decide ((i:Int)≥0)=true:=ge_t (by omega)
  have e2:=hra.ixn (j:=i) (by omega)
  have e3:=fun hp=>ldv hp a (j:=i) (by omega)
  have e4:w64 (r*1000000000)=r*1000000000:=Qae (by omega) (by omega)
  have e5:w64 (r*1000000000+a.getD i 0)=r*1000000000+a.getD i 0:=Qae (by omega) (by omega)
  have e6:=QkL (b:=b) (by omega)
  have e7:=QfI (b:=b) h1
  have e8:=Qee (b:=b) h1
  have e9:w64 ((r*1000000000+a.getD i 0)/b)=(r*1000000000+a.getD i 0)/b:=Qae (by omega) (by omega)
  have f1:(0:Int)≤(i:Int)∧(i:Int)<((a.length:Nat):Int):=by omega
  have f2:=fun v=>Qbu (l:=q) (off:=i) (v:=v) (by omega)
  have f3:w64 ((i:Int)-1)=(i:Int)-1:=Qae (by omega) (by omega)
  simp -implicitDefEqProofs (maxSteps:=9^8) only [Qcr,QhS,go_sem,iv,bv,e1,e2,e3,e4,e5,e6,e7,e8,e9,f1,f2,f3,allD,Qal,Qak,QbV,reduceCtorEq,↓reduceIte,Nat.reduceEqDiff]

theorem QnC        (hra:Rw da a) (ha:Dig a) (hb:0<b∧b<1000000000) (hl:a.length<4611686018427387904):∀ (k:Nat) (q:List Int) (r:Int),k≤a.length→(0≤r∧r<b)→q.length=a.length→Dig q→val (a.drop k)=val (q.drop k)*b+r →
    ∃ q' r',X G (.loop Qcr) (QhS da a b q r ((k:Int)-1))=some (.x 0,Qj9 a q' r')∧(0≤r'∧r'<b)∧q'.length=a.length∧Dig q'∧val a=val q'*b+r'
  | 0,q,r,hk,hr,hq,hd,hv=>by
    refine ⟨q,r, ?_,hr,hq,hd,by simpa using hv⟩
    have:((0:Nat):Int)-1 = -1:=rfl
    rw [this,Qai,Qt8];rfl
  | k+1,q,r,hk,hr,hq,hd,hv=>by
    obtain ⟨h1,h2,h3,h4,h5,h6,h7⟩:=QmH hb hr (ha.getD k)
    have hx:=short_go da a b hra ha hb q r hr hq (i:=k) (by omega) hl
    obtain ⟨q',r',g1,g2⟩:=QnC hra ha hb hl k (q.set k ((r*1000000000+a.getD k 0)/b)) ((r*1000000000+a.getD k 0)%b) (by omega) ⟨h5,h6⟩ (by simpa using hq) (hd.set ⟨h3,h4⟩) (by
      rw [Qa3,hv,Qlp _ (by omega)]
      generalize (r*1000000000+a.getD k 0)/b=Q at *
      generalize (r*1000000000+a.getD k 0)%b=M at *
      clear hx h1 h2 h3 h4 h5 h6
      grind)
    refine ⟨q',r', ?_,g2⟩
    have:((k+1:Nat):Int)-1=(k:Int):=by omega
    rw [this,Qai,hx]
    exact g1
end

theorem Qnn        {da:D} {a:List Int} {b:Int} (hra:Rw da a) (ha:Dig a) (hb:0<b∧b<1000000000) (hl:a.length*8≤140737488351232) :
    ∃ q r,Qah G Qgj [da,iv b]=some (.d (.tup [rowI q,iv r]))∧(0≤r∧r<b)∧q.length=a.length∧Dig q∧val a=val q*b+r:=by
  obtain ⟨q,r,h1,h2,h3,h4,h5⟩:=QnC da a b hra ha hb (by omega) a.length (List.replicate a.length 0) 0 (Nat.le_refl _) (by omega) (by simp) (Dig.replicate _) (by
    rw [List.drop_length,List.drop_eq_nil_of_le (by simp)];simp [val])
  refine ⟨q,r, ?_,h2,h3,h4,h5⟩
  rw [Qad (cf:=QhR) rfl]
  have e1:=bnd a.length hl
  have e2:w64 ((a.length:Int)-1)=(a.length:Int)-1:=Qae (by omega) (by omega)
  simp only [QhS,Qj9,go_sem] at h1
  simp -implicitDefEqProofs (maxSteps:=9^8) only [QhR,go_sem,iv,bv,h1,e1,e2,hra.len,Qk2,Qal,QbV,Qak,toDs,rowI,h3,reduceCtorEq,↓reduceIte,Nat.reduceEqDiff]
end Go.AM

/- integer.scaled -/
namespace Go.AM
open Go Go.RowKit

theorem Qlx          {d k c:Int} (hd:0≤d∧d<1000000000) (hk:0<k∧k<1000000000) (hc:0≤c∧c<k) :
    0≤d*k∧d*k<1000000000000000000∧0≤d*k+c∧d*k+c<1000000000000000000∧0≤(d*k+c)/1000000000∧(d*k+c)/1000000000<k:=by
  have h1:0≤d*k:=Int.mul_nonneg hd.1 (by omega)
  have h2:d*k≤999999999*k:=Int.mul_le_mul_of_nonneg_right (by omega) (by omega)
  generalize d*k=p at *
  omega
variable [Its]

section
variable (da:D) (a:List Int) (k:Int)
def Qgp (o:List Int) (c i:Int):St:=mkS [(0,.d da),(1,ai k),(5,.own [13] (a.length+1)),(6,ai c),(14,.d da),(15,ai a.length),(16,ai i)] [([13],arrI (a.length+1) o)]
def QiD (o:List Int) (c:Int):St:=mkS [(0,.d da),(5,.own [13] (a.length+1)),(6,ai c)] [([13],arrI (a.length+1) o)]

theorem QqY (o:List Int) (c:Int):X G Qce (Qgp da a k o c a.length)=some (.x 0,QiD da a o c):=by
 have e1:decide ((a.length:Int)<(a.length:Int))=false:=lt_f (by omega)
 simp -implicitDefEqProofs (maxSteps:=9^8) only [Qce,Qgp,QiD,go_sem,iv,bv,e1,Qal,reduceCtorEq,↓reduceIte,Nat.reduceEqDiff]

theorem scaled_go (hra:Rw da a) (ha:Dig a) (hk:0<k∧k<1000000000) (o:List Int) (c:Int) (hc:0≤c∧c<k) (ho:o.length=a.length+1) {i:Nat} (hi:i<a.length) (hl:a.length<4611686018427387904) :
    X G Qce (Qgp da a k o c (i:Int))=some (.n,Qgp da a k (o.set i ((a.getD i 0*k+c)%1000000000)) ((a.getD i 0*k+c)/1000000000) ((i+1:Nat):Int)):=by
  obtain ⟨h1,h2,h3,h4,h5,h6⟩:=Qlx (ha.getD i) hk hc
  have e1:decide ((i:Int)<(a.length:Int))=true:=lt_t (by omega)
  have e2:=hra.ixn (j:=i) (by omega)
  have e3:=fun hp=>ldv hp a (j:=i) (by omega)
  have e7:=QfI (b:=1000000000) h3
  have e8:=Qee (b:=1000000000) h3
  have f1:(0:Int)≤(i:Int)∧(i:Int)<((a.length+1:Nat):Int):=by omega
  have f2:=fun v=>Qbu (l:=o) (off:=i) (v:=v) (by omega)
  have f3:w64 ((i:Int)+1)=((i+1:Nat):Int):=by rw [Qae (by omega) (by omega)];omega
  have e4:w64 (a.getD i 0*k)=a.getD i 0*k:=by
    generalize a.getD i 0*k=p at *;exact Qae (by omega) (by omega)
  have e5:w64 (a.getD i 0*k+c)=a.getD i 0*k+c:=by
    generalize a.getD i 0*k=p at *;exact Qae (by omega) (by omega)
  have e9:w64 ((a.getD i 0*k+c)/1000000000)=(a.getD i 0*k+c)/1000000000:=by
    generalize a.getD i 0*k=p at *;exact Qae (by omega) (by omega)
  simp -implicitDefEqProofs (maxSteps:=9^8) only [Qce,Qgp,go_sem,iv,bv,e1,e2,e3,e4,e5,e7,e8,e9,f1,f2,f3,allD,Qal,Qak,QbV,reduceCtorEq,↓reduceIte,Nat.reduceEqDiff]

theorem Ql9         (hra:Rw da a) (ha:Dig a) (hk:0<k∧k<1000000000) (hl:a.length<4611686018427387904):∀ (j i:Nat) (o:List Int) (c:Int),i+j=a.length→(0≤c∧c<k)→o.length=a.length+1→Dig o→o.getD a.length 0=0→val (o.take i)+(1000000000:Int)^i*c=val (a.take i)*k →
    ∃ o' c',X G (.loop Qce) (Qgp da a k o c (i:Int))=some (.x 0,QiD da a o' c')∧(0≤c'∧c'<k)∧o'.length=a.length+1∧Dig o'∧val (o'.take a.length)+(1000000000:Int)^a.length*c'=val a*k
  | 0,i,o,c,hi,hc,ho,hd,hz,hv=>by
    obtain rfl:i=a.length:=by omega
    refine ⟨o,c, ?_,hc,ho,hd, ?_⟩
    · rw [Qai,QqY];rfl
    · rw [hv,List.take_length]
  | j+1,i,o,c,hi,hc,ho,hd,hz,hv=>by
    obtain ⟨h1,h2,h3,h4,h5,h6⟩:=Qlx (ha.getD i) hk hc
    have hx:=scaled_go da a k hra ha hk o c hc ho (i:=i) (by omega) hl
    have hm:=Int.ediv_mul_add_emod (a.getD i 0*k+c) 1000000000
    have hm1:0≤(a.getD i 0*k+c)%1000000000:=Int.emod_nonneg _ (by omega)
    have hm2:(a.getD i 0*k+c)%1000000000<1000000000:=Int.emod_lt_of_pos _ (by omega)
    obtain ⟨o',c',g1,g2⟩:=Ql9 hra ha hk hl j (i+1) (o.set i ((a.getD i 0*k+c)%1000000000)) ((a.getD i 0*k+c)/1000000000) (by omega) ⟨h5,h6⟩ (by simpa using ho) (hd.set ⟨hm1,hm2⟩) (by rw [Qbd _ (by omega)];exact hz) (by
      rw [Qfx _ (by omega),Qas a,Int.pow_succ]
      generalize (a.getD i 0*k+c)%1000000000=M at *
      generalize (a.getD i 0*k+c)/1000000000=Q at *
      clear hx h1 h2 h3 h4 h5 h6
      grind)
    refine ⟨o',c', ?_,g2⟩
    rw [Qai,hx]
    exact g1
end

theorem Qm8         {da:D} {a:List Int} {k:Int} (hra:Rw da a) (ha:Dig a) (hk:0<k∧k<1000000000) (hl:(a.length+1)*8≤140737488351232) :
    ∃ o,Qah G QfG [da,iv k]=some (.own 1 (a.length+1) (o.map iv))∧o.length=a.length+1∧Dig o∧val o=val a*k:=by
  obtain ⟨o,c,h1,h2,h3,h4,h5⟩:=Ql9 da a k hra ha hk (by omega) a.length 0 (List.replicate (a.length+1) 0) 0 (by omega) (by omega) (by simp) (Dig.replicate _) (by simp [List.getD]) (by simp [val])
  refine ⟨o.set a.length c, ?_,by simpa using h3,h4.set (by omega), ?_⟩
  · rw [Qad (cf:=Qg1) rfl]
    have e1:=bnd (a.length+1) hl
    have e2:w64 ((a.length:Int)+1)=((a.length+1:Nat):Int):=by rw [Qae (by omega) (by omega)];omega
    have e4:(0:Int)≤((a.length:Nat):Int)∧(a.length:Int)<((a.length+1:Nat):Int):=by omega
    have g2:=fun v=>Qbu (l:=o) (off:=a.length) (v:=v) (by omega)
    simp only [Qgp,QiD,go_sem,nc0] at h1
    simp -implicitDefEqProofs (maxSteps:=9^8) only [Qg1,go_sem,iv,bv,h1,e1,e2,e4,g2,hra.len,Qk2,Qal,Qak,QbV,reduceCtorEq,↓reduceIte,Nat.reduceEqDiff]
  · have:=Qfx c (l:=o) (i:=a.length) (by omega)
    rw [List.take_of_length_le (by simp;omega)] at this
    rw [this];exact h5
end Go.AM

/- Long division, one digit of the quotient: plain arithmetic. -/
namespace Go.AM

section
variable {P v1 v2 vl u0 u1 u2 ul:Int}

theorem kn_first (hP:0<P) (h1:0<v1) (h2:0≤v2) (hvl:0≤vl) (hul:0≤ul∧ul<P) (hu2:0≤u2∧u2<1000000000) (hu:0≤u0∧0≤u1) :
    let top:=u0*1000000000+u1
    0≤top/v1∧0≤top%v1∧top%v1<v1∧top/v1*v1+top%v1=top∧(top*1000000000*P+u2*P+ul)<(top/v1+1)*(v1*1000000000*P+v2*P+vl):=by
  intro top
  have ht:0≤top:=by show 0≤u0*1000000000+u1;omega
  have e1:0≤top/v1:=Int.ediv_nonneg ht (by omega)
  have e2:0≤top%v1:=Int.emod_nonneg _ (by omega)
  have e3:top%v1<v1:=Int.emod_lt_of_pos _ h1
  have e4:top/v1*v1+top%v1=top:=Int.ediv_mul_add_emod _ _
  refine ⟨e1,e2,e3,e4, ?_⟩
  generalize top/v1=g at *
  generalize top%v1=r at *
  clear_value top
  have p1:(top+1)*P≤((g+1)*v1)*P:=Int.mul_le_mul_of_nonneg_right (by rw [Int.add_mul];omega) (by omega)
  have p2:0≤(g+1)*(v2*P+vl):=Int.mul_nonneg (by omega) (by have:=Int.mul_nonneg h2 (Int.le_of_lt hP);omega)
  have p3:u2*P≤999999999*P:=Int.mul_le_mul_of_nonneg_right (by omega) (by omega)
  have q1:(g+1)*(v1*1000000000*P+v2*P+vl)=1000000000*(((g+1)*v1)*P)+(g+1)*(v2*P+vl):=by grind
  have q2:top*1000000000*P=1000000000*(top*P):=by grind
  have q3:(top+1)*P=top*P+P:=by grind
  rw [q1,q2]
  rw [q3] at p1
  generalize ((g+1)*v1)*P=a at *
  generalize (g+1)*(v2*P+vl)=b at *
  generalize top*P=c at *
  generalize u2*P=d at *
  omega

theorem kn_more (hP:0<P) (hvl:0≤vl) (hul:ul<P) {g r:Int} (hg:0≤g) (hgr:g*v1+r=u0*1000000000+u1)
    (ht:r*1000000000+u2<g*v2):(u0*1000000000+u1)*1000000000*P+u2*P+ul<g*(v1*1000000000*P+v2*P+vl):=by
  rw [← hgr]
  have p1:(r*1000000000+u2+1)*P≤(g*v2)*P:=Int.mul_le_mul_of_nonneg_right (by omega) (by omega)
  have p2:0≤g*vl:=Int.mul_nonneg hg hvl
  have q1:g*(v1*1000000000*P+v2*P+vl)=1000000000*((g*v1)*P)+(g*v2)*P+g*vl:=by grind
  have q2:(g*v1+r)*1000000000*P+u2*P+ul=1000000000*((g*v1)*P)+1000000000*(r*P)+u2*P+ul:=by grind
  have q3:(r*1000000000+u2+1)*P=1000000000*(r*P)+u2*P+P:=by grind
  rw [q1,q2]
  rw [q3] at p1
  generalize (g*v1)*P=a at *
  generalize (g*v2)*P=b at *
  generalize g*vl=c at *
  generalize r*P=d at *
  generalize u2*P=e at *
  omega

theorem kn_stop (hP:0<P) (h1:0<v1) (hv2:0≤v2) (hvl:0≤vl∧vl<P) (hul:0≤ul) {g r:Int} (hg:0≤g∧g<1000000000) (hgr:g*v1+r=u0*1000000000+u1)
    (ht:g*v2≤r*1000000000+u2):(g-1)*(v1*1000000000*P+v2*P+vl)≤(u0*1000000000+u1)*1000000000*P+u2*P+ul:=by
  rw [← hgr]
  have p1:(g*v2)*P≤(r*1000000000+u2)*P:=Int.mul_le_mul_of_nonneg_right ht (by omega)
  have p2:g*vl≤g*P:=Int.mul_le_mul_of_nonneg_left (by omega) (by omega)
  have p3:g*P≤1000000000*P:=Int.mul_le_mul_of_nonneg_right (by omega) (by omega)
  have p4:1*P≤v1*P:=Int.mul_le_mul_of_nonneg_right (by omega) (by omega)
  have p5:0≤v2*P:=Int.mul_nonneg hv2 (by omega)
  have q1:(g-1)*(v1*1000000000*P+v2*P+vl)=1000000000*((g*v1)*P)+(g*v2)*P+g*vl-1000000000*(v1*P)-v2*P-vl:=by grind
  have q2:(g*v1+r)*1000000000*P+u2*P+ul=1000000000*((g*v1)*P)+1000000000*(r*P)+u2*P+ul:=by grind
  have q3:(r*1000000000+u2)*P=1000000000*(r*P)+u2*P:=by grind
  rw [q1,q2]
  rw [q3] at p1
  generalize (g*v1)*P=a at *
  generalize (g*v2)*P=b at *
  generalize g*vl=c at *
  generalize r*P=d at *
  generalize u2*P=e at *
  generalize g*P=f at *
  generalize v1*P=h at *
  generalize v2*P=i at *
  omega

theorem kn_digit (hP:0<P) (h1:0<v1) (hv2:0≤v2∧v2<1000000000) (hvl:0≤vl∧vl<P) (hul:0≤ul) (hu2:0≤u2)
    (hU:(u0*1000000000+u1)*1000000000*P+u2*P+ul<1000000000*(v1*1000000000*P+v2*P+vl)) {g r:Int} (hgr:g*v1+r=u0*1000000000+u1) (hr:1000000000≤r):g<1000000000:=by
  have p5:0≤u2*P:=Int.mul_nonneg hu2 (by omega)
  have p6:v2*P≤999999999*P:=Int.mul_le_mul_of_nonneg_right (by omega) (by omega)
  have q2:(u0*1000000000+u1)*1000000000*P=1000000000*((u0*1000000000+u1)*P):=by grind
  have q3:v1*1000000000*P=1000000000*(v1*P):=by grind
  rw [q2,q3] at hU
  have k1:(u0*1000000000+u1)*P<(v1*1000000000+1000000000)*P:=by
    have q4:(v1*1000000000+1000000000)*P=1000000000*(v1*P)+1000000000*P:=by grind
    rw [q4]
    generalize (u0*1000000000+u1)*P=a at *
    generalize v1*P=b at *
    generalize v2*P=c at *
    generalize u2*P=d at *
    omega
  have k2:u0*1000000000+u1<v1*1000000000+1000000000:=Int.lt_of_mul_lt_mul_right k1 (by omega)
  rw [← hgr] at k2
  have k3:g*v1<1000000000*v1:=by
    generalize g*v1=a at *
    omega
  exact Int.lt_of_mul_lt_mul_right k3 (by omega)
end

theorem QrM    {u g v c:Int} (hu:0≤u∧u<1000000000) (hg:0≤g∧g<1000000000) (hv:0≤v∧v<1000000000) (hc:0≤c∧c<1000000000) :
    0≤g*v∧g*v≤999999999*999999999∧(u-g*v-c<0→0≤-(u-g*v-c)+1000000000-1∧0≤(-(u-g*v-c)+1000000000-1)/1000000000∧(-(u-g*v-c)+1000000000-1)/1000000000<1000000000 ∧
      0≤u-g*v-c+(-(u-g*v-c)+1000000000-1)/1000000000*1000000000∧u-g*v-c+(-(u-g*v-c)+1000000000-1)/1000000000*1000000000<1000000000):=by
  have h1:0≤g*v:=Int.mul_nonneg hg.1 hv.1
  have h2:g*v≤999999999*v:=Int.mul_le_mul_of_nonneg_right (by omega) hv.1
  generalize g*v=p at *
  omega
end Go.AM

/- integer.long: the guess -/
namespace Go.AM
open Go Go.RowKit
theorem kn_wrap {g v:Int} (hg:0≤g∧g<1000000000) (hv:0≤v∧v<1000000000):w64 (g*v)=g*v:=by
 obtain ⟨m1,m2,_⟩:=QrM (u:=0) (c:=0) (by omega) hg hv (by omega)
 generalize g*v=x at *
 exact Qae (by omega) (by omega)
theorem kn_small {g v r u:Int} (hg:0≤g∧g<1000000000) (hv:0≤v∧v<1000000000) (hr:1000000000≤r) (hu:0≤u):g*v≤r*1000000000+u:=by
 obtain ⟨m1,m2,_⟩:=QrM (u:=0) (c:=0) (by omega) hg hv (by omega)
 generalize g*v=x at *
 omega
theorem kn_pos {g U V:Int} (h:U<g*V) (hU:0≤U) (hg:0≤g):1≤g:=by
 rcases Int.lt_or_le 0 g with h' | h'
 ·exact h'
 ·obtain rfl:g=0:=Int.le_antisymm h' hg
  rw [Int.zero_mul] at h
  exact absurd (Int.lt_of_le_of_lt hU h) (Int.lt_irrefl 0)
theorem kn_nonneg {P v1 v2 vl:Int} (hP:0<P) (h1:0≤v1) (h2:0≤v2) (hl:0≤vl):0≤v1*1000000000*P+v2*P+vl:=by
 have k1:=Int.mul_nonneg (Int.mul_nonneg h1 (show (0:Int)≤1000000000 by omega)) (Int.le_of_lt hP)
 have k2:=Int.mul_nonneg h2 (Int.le_of_lt hP)
 generalize v1*1000000000*P=a at *
 generalize v2*P=b at *
 omega
theorem w_ru {r u:Int} (hr:0≤r∧r<1000000000) (hu:0≤u∧u<1000000000):w64 (r*1000000000)=r*1000000000∧w64 (r*1000000000+u)=r*1000000000+u :=
 ⟨Qae (by omega) (by omega),Qae (by omega) (by omega)⟩
theorem w_dec {g r v:Int} (hg:1≤g∧g<1000000000000000000) (hr:0≤r∧r<1000000000) (hv:0≤v∧v<1000000000):w64 (g-1)=g-1∧w64 (r+v)=r+v :=
 ⟨Qae (by omega) (by omega),Qae (by omega) (by omega)⟩
theorem lg_ix {p L j:Nat} (hj:j+p+2<L) (hL:L<4611686018427387904):w64 (((p+2:Nat):Int)-2)=(p:Int)∧w64 ((j:Int)+((p+2:Nat):Int))=((j+p+2:Nat):Int) ∧
    w64 (((j+p+2:Nat):Int)-2)=((j+p:Nat):Int)∧((0:Int)≤((j+p:Nat):Int)∧((j+p:Nat):Int)<((L:Nat):Int))∧j+p<L:=by
  refine ⟨?_, ?_, ?_,by omega,by omega⟩<;>rw [Qae (by omega) (by omega)]<;>omega
theorem lg_ix2 {p L j:Nat} (hj:j+p+2<L) (hL:L<4611686018427387904):w64 (((p+2:Nat):Int)-1)=((p+1:Nat):Int):=by
 rw [Qae (by omega) (by omega)];omega
variable [Its]

section
variable (s:Int) (dv:D) (p L M j:Nat) (u q v:List Int)
def QmB (g r:Int):St:=mkS [(6,ai s),(7,.own [32] L),(8,.d dv),(9,ai ((p+2:Nat):Int)),(10,.own [46] M),(11,ai (j:Int)),(13,ai g),(14,ai r)] [([32],arrI L u),([46],arrI M q)]
def Qi5 (g:Int):St:=mkS [(6,ai s),(7,.own [32] L),(8,.d dv),(9,ai ((p+2:Nat):Int)),(10,.own [46] M),(11,ai (j:Int)),(13,ai g)] [([32],arrI L u),([46],arrI M q)]

variable (hrv:Rw dv v) (hv:Dig v) (hu:Dig u) (hvl:v.length=p+2) (hul:u.length=L) (hj:j+p+2<L) (hL:L<4611686018427387904)
include hrv hv hu hvl hul hj hL

theorem lg_stop {g r:Int} (hg:0≤g∧g<1000000000) (hr:0≤r∧r<1000000000) (ht:¬ g*v.getD p 0>r*1000000000+u.getD (j+p) 0) :
    X G Qbm (QmB s dv p L M j u q g r)=some (.x 2,Qi5 s dv p L M j u q g):=by
  have e7:decide (g*v.getD p 0>r*1000000000+u.getD (j+p) 0)=false:=decide_eq_false ht
  have e1:decide (g≥1000000000)=false:=ge_f (Int.not_le.2 hg.2)
  have e2:=hrv.ixn (j:=p) (hvl ▸ Nat.lt_add_of_pos_right (by decide))
  have e3:=fun hp=>ldv hp v (j:=p) (hvl ▸ Nat.lt_add_of_pos_right (by decide))
  obtain ⟨e5,e6⟩:=w_ru hr (hu.getD (j+p))
  obtain ⟨i1,i2,i3,i4,i5'⟩:=lg_ix hj hL
  have i5:=Qb7 (l:=u) (off:=j+p) (hul ▸ i5')
  have e4:=kn_wrap hg (hv.getD p)
  simp -implicitDefEqProofs (maxSteps:=9^8) only [Qbm,QmB,Qi5,go_sem,iv,bv,e1,e2,e3,e4,e5,e6,e7,i1,i2,i3,i4,i5,Qal,reduceCtorEq,↓reduceIte,Nat.reduceEqDiff]

theorem lg_more {g r:Int} (hg:1≤g∧g<1000000000000000000) (hr:0≤r∧r<1000000000) (ht:g≥1000000000∨g*v.getD p 0>r*1000000000+u.getD (j+p) 0) :
    X G Qbm (QmB s dv p L M j u q g r)=if r+v.getD (p+1) 0≥1000000000 then some (.x 2,Qi5 s dv p L M j u q (g-1)) else some (.n,QmB s dv p L M j u q (g-1) (r+v.getD (p+1) 0)):=by
  obtain ⟨f1,f2⟩:=w_dec hg hr (hv.getD (p+1))
  have f3:w64 (((p+2:Nat):Int)-1)=((p+1:Nat):Int):=(lg_ix2 hj hL)
  have f4:=hrv.ixn (j:=p+1) (hvl ▸ Nat.lt_succ_self _)
  have f5:=fun hp=>ldv hp v (j:=p+1) (hvl ▸ Nat.lt_succ_self _)
  by_cases h1:g≥1000000000
  · have e1:decide (g≥1000000000)=true:=ge_t h1
    by_cases h2:r+v.getD (p+1) 0≥1000000000
    · have e2:decide (r+v.getD (p+1) 0≥1000000000)=true:=ge_t h2
      rw [if_pos h2]
      simp -implicitDefEqProofs (maxSteps:=9^8) only [Qbm,QmB,Qi5,go_sem,iv,bv,e1,e2,f1,f2,f3,f4,f5,Qal,reduceCtorEq,↓reduceIte,Nat.reduceEqDiff]
    · have e2:decide (r+v.getD (p+1) 0≥1000000000)=false:=ge_f h2
      rw [if_neg h2]
      simp -implicitDefEqProofs (maxSteps:=9^8) only [Qbm,QmB,Qi5,go_sem,iv,bv,e1,e2,f1,f2,f3,f4,f5,Qal,reduceCtorEq,↓reduceIte,Nat.reduceEqDiff]
  · have e7:decide (g*v.getD p 0>r*1000000000+u.getD (j+p) 0)=true:=decide_eq_true (ht.resolve_left h1)
    have e1:decide (g≥1000000000)=false:=ge_f h1
    have e2:=hrv.ixn (j:=p) (hvl ▸ Nat.lt_add_of_pos_right (by decide))
    have e3:=fun hp=>ldv hp v (j:=p) (hvl ▸ Nat.lt_add_of_pos_right (by decide))
    obtain ⟨e5,e6⟩:=w_ru hr (hu.getD (j+p))
    obtain ⟨i1,i2,i3,i4,i5'⟩:=lg_ix hj hL
    have i5:=Qb7 (l:=u) (off:=j+p) (hul ▸ i5')
    have e4:=kn_wrap (g:=g) ⟨Int.le_trans (by decide) hg.1,Int.not_le.1 h1⟩ (hv.getD p)
    by_cases h2:r+v.getD (p+1) 0≥1000000000
    · have e8:decide (r+v.getD (p+1) 0≥1000000000)=true:=ge_t h2
      rw [if_pos h2]
      simp -implicitDefEqProofs (maxSteps:=9^8) only [Qbm,QmB,Qi5,go_sem,iv,bv,e1,e2,e3,e4,e5,e6,e7,e8,f1,f2,f3,f4,f5,i1,i2,i3,i4,i5,Qal,reduceCtorEq,↓reduceIte,Nat.reduceEqDiff]
    · have e8:decide (r+v.getD (p+1) 0≥1000000000)=false:=ge_f h2
      rw [if_neg h2]
      simp -implicitDefEqProofs (maxSteps:=9^8) only [Qbm,QmB,Qi5,go_sem,iv,bv,e1,e2,e3,e4,e5,e6,e7,e8,f1,f2,f3,f4,f5,i1,i2,i3,i4,i5,Qal,reduceCtorEq,↓reduceIte,Nat.reduceEqDiff]

theorem lg_loop {P vl ul u0 u1:Int} (hP:0<P) (h1:0<v.getD (p+1) 0) (hvl':0≤vl∧vl<P) (hul':0≤ul∧ul<P)
    (hU:(u0*1000000000+u1)*1000000000*P+u.getD (j+p) 0*P+ul<1000000000*(v.getD (p+1) 0*1000000000*P+v.getD p 0*P+vl)) (hU0:0≤(u0*1000000000+u1)*1000000000*P+u.getD (j+p) 0*P+ul):∀ (k:Nat) (g r:Int),1000000000≤r+k→(0≤g∧g<1000000000000000000)→(0≤r∧r<1000000000)→g*v.getD (p+1) 0+r=u0*1000000000+u1 →
    (u0*1000000000+u1)*1000000000*P+u.getD (j+p) 0*P+ul<(g+1)*(v.getD (p+1) 0*1000000000*P+v.getD p 0*P+vl) →
    ∃ g',X G (.loop Qbm) (QmB s dv p L M j u q g r)=some (.x 2,Qi5 s dv p L M j u q g')∧(0≤g'∧g'<1000000000) ∧
      (u0*1000000000+u1)*1000000000*P+u.getD (j+p) 0*P+ul<(g'+1)*(v.getD (p+1) 0*1000000000*P+v.getD p 0*P+vl) ∧
      (g'-1)*(v.getD (p+1) 0*1000000000*P+v.getD p 0*P+vl)≤(u0*1000000000+u1)*1000000000*P+u.getD (j+p) 0*P+ul
  | 0,g,r,hk,hg,hr,hgr,hlt=>by
    exfalso
    clear hlt hU hU0 hgr
    omega
  | k+1,g,r,hk,hg,hr,hgr,hlt=>by
    have b1:=hv.getD (p+1)
    have b2:=hv.getD p
    have b3:=hu.getD (j+p)
    have hnn:=kn_nonneg hP b1.1 b2.1 hvl'.1
    have arith:∀ {g':Int},1≤g→g'=g-1→1000000000≤(r+v.getD (p+1) 0)+(k:Int)∧(0≤g'∧g'<1000000000000000000)∧0≤r+v.getD (p+1) 0:=by
      intro g' h1 h2
      clear hlt hU hU0 hgr hnn
      omega
    by_cases ht:g≥1000000000∨g*v.getD p 0>r*1000000000+u.getD (j+p) 0
    · -- more than the digit
      have hmore:(u0*1000000000+u1)*1000000000*P+u.getD (j+p) 0*P+ul<g*(v.getD (p+1) 0*1000000000*P+v.getD p 0*P+vl):=by
        rcases ht with ht | ht
        · exact Int.lt_of_lt_of_le hU (Int.mul_le_mul_of_nonneg_right ht hnn)
        · exact kn_more hP hvl'.1 hul'.2 hg.1 hgr ht
      have hg1:1≤g:=kn_pos hmore hU0 hg.1
      have hx:=lg_more s dv p L M j u q v hrv hv hu hvl hul hj hL ⟨hg1,hg.2⟩ hr ht
      have hgr':(g-1)*v.getD (p+1) 0+(r+v.getD (p+1) 0)=u0*1000000000+u1:=by rw [← hgr,Int.sub_mul,Int.one_mul,← Int.add_assoc,Int.add_right_comm,Int.sub_add_cancel]
      obtain ⟨a1,a2,a3⟩:=arith hg1 rfl
      have hlt':(u0*1000000000+u1)*1000000000*P+u.getD (j+p) 0*P+ul<(g-1+1)*(v.getD (p+1) 0*1000000000*P+v.getD p 0*P+vl):=by rw [Int.sub_add_cancel];exact hmore
      by_cases h2:r+v.getD (p+1) 0≥1000000000
      · rw [if_pos h2] at hx
        have hd:=kn_digit hP h1 b2 hvl' hul'.1 b3.1 hU hgr' h2
        have hst:=kn_stop (u2:=u.getD (j+p) 0) (ul:=ul) hP h1 b2.1 hvl' hul'.1 (g:=g-1) ⟨a2.1,hd⟩ hgr' (kn_small ⟨a2.1,hd⟩ b2 h2 b3.1)
        exact ⟨g-1,by rw [Qai,hx];rfl,⟨a2.1,hd⟩,hlt',hst⟩
      · rw [if_neg h2] at hx
        obtain ⟨g',i1,i2⟩:=lg_loop hP h1 hvl' hul' hU hU0 k (g-1) (r+v.getD (p+1) 0) a1 a2 ⟨a3,Int.not_le.1 h2⟩ hgr' hlt'
        exact ⟨g',by rw [Qai,hx];exact i1,i2⟩
    · have hg2 : g < 1000000000 := by
        rcases Int.lt_or_le g 1000000000 with h | h
        · exact h
        · exact absurd (.inl h) ht
      have ht2:¬ g*v.getD p 0>r*1000000000+u.getD (j+p) 0:=fun h=>ht (.inr h)
      have hx:=lg_stop s dv p L M j u q v hrv hv hu hvl hul hj hL ⟨hg.1,hg2⟩ hr ht2
      have hst:=kn_stop (u2:=u.getD (j+p) 0) (ul:=ul) hP h1 b2.1 hvl' hul'.1 (g:=g) ⟨hg.1,hg2⟩ hgr (Int.not_lt.1 ht2)
      exact ⟨g,by rw [Qai,hx];rfl,⟨hg.1,hg2⟩,hlt,hst⟩
end
end Go.AM

/- integer.long: the product is taken away; a divisor is added back -/
namespace Go.AM
open Go Go.RowKit

theorem w_neg {w:Int} (h:-1000000000000000000<w∧w<0):w64 (0-w)=0-w∧w64 (0-w+1000000000)=0-w+1000000000∧w64 (0-w+1000000000-1)=0-w+1000000000-1∧0≤0-w+1000000000-1 ∧
    w64 ((0-w+1000000000-1)/1000000000)=(0-w+1000000000-1)/1000000000∧w64 ((0-w+1000000000-1)/1000000000*1000000000)=(0-w+1000000000-1)/1000000000*1000000000 ∧
    w64 (w+(0-w+1000000000-1)/1000000000*1000000000)=w+(0-w+1000000000-1)/1000000000*1000000000 ∧
    (0≤w+(0-w+1000000000-1)/1000000000*1000000000∧w+(0-w+1000000000-1)/1000000000*1000000000<1000000000)∧0≤(0-w+1000000000-1)/1000000000∧(-999999999000000000≤w→(0-w+1000000000-1)/1000000000<1000000000):=by
  refine ⟨Qae (by omega) (by omega),Qae (by omega) (by omega),Qae (by omega) (by omega),by omega,Qae (by omega) (by omega),Qae (by omega) (by omega),Qae (by omega) (by omega),by omega,by omega,by omega⟩
theorem kn_w {u g v c:Int} (hu:0≤u∧u<1000000000) (hg:0≤g∧g<1000000000) (hv:0≤v∧v<1000000000) (hc:0≤c∧c<1000000000) :
    w64 (g*v)=g*v∧w64 (u-g*v)=u-g*v∧w64 (u-g*v-c)=u-g*v-c∧-999999999000000000≤u-g*v-c∧u-g*v-c<1000000000:=by
  obtain ⟨m1,m2,_⟩:=QrM (u:=0) (c:=0) (by omega) hg hv (by omega)
  generalize g*v=x at *
  exact ⟨Qae (by omega) (by omega),Qae (by omega) (by omega),Qae (by omega) (by omega),by omega,by omega⟩
theorem ls_ix {p L i j:Nat} (hi:i<p+2) (hj:j+p+2<L) (hL:L<4611686018427387904):w64 ((i:Int)+(j:Int))=((i+j:Nat):Int)∧((0:Int)≤((i+j:Nat):Int)∧((i+j:Nat):Int)<((L:Nat):Int))∧i+j<L ∧
    decide ((i:Int)<((p+2:Nat):Int))=true∧w64 ((i:Int)+1)=((i+1:Nat):Int):=by
  refine ⟨?_,by omega,by omega,lt_t (by omega), ?_⟩<;>rw [Qae (by omega) (by omega)]<;>omega
theorem Qsl    {u v c:Int} (hu:0≤u∧u<1000000000) (hv:0≤v∧v<1000000000) (hc:0≤c∧c≤1):w64 (u+v)=u+v∧w64 (u+v+c)=u+v+c∧0≤u+v+c∧w64 ((u+v+c)/1000000000)=(u+v+c)/1000000000 ∧
    (0≤(u+v+c)/1000000000∧(u+v+c)/1000000000≤1)∧(0≤(u+v+c)%1000000000∧(u+v+c)%1000000000<1000000000)∧(u+v+c)%1000000000+1000000000*((u+v+c)/1000000000)=u+v+c:=by
  refine ⟨Qae (by omega) (by omega),Qae (by omega) (by omega),by omega,Qae (by omega) (by omega),by omega,by omega,by omega⟩
variable [Its]

section
variable (s:Int) (dv:D) (p L M j:Nat) (q v:List Int) (g:Int)
def Qqf (u:List Int) (c i:Int):St:=mkS [(6,ai s),(7,.own [32] L),(8,.d dv),(9,ai ((p+2:Nat):Int)),(10,.own [46] M),(11,ai (j:Int)),(13,ai g),(15,ai c),(117,ai ((p+2:Nat):Int)),(118,ai i)] [([32],arrI L u),([46],arrI M q)]
def Qlk (u:List Int) (c:Int):St:=mkS [(6,ai s),(7,.own [32] L),(8,.d dv),(9,ai ((p+2:Nat):Int)),(10,.own [46] M),(11,ai (j:Int)),(13,ai g),(15,ai c)] [([32],arrI L u),([46],arrI M q)]
def QqV (u:List Int) (c i:Int):St:=mkS [(6,ai s),(7,.own [32] L),(8,.d dv),(9,ai ((p+2:Nat):Int)),(10,.own [46] M),(11,ai (j:Int)),(13,ai g),(15,ai c),(172,ai ((p+2:Nat):Int)),(173,ai i)] [([32],arrI L u),([46],arrI M q)]

theorem ls_stop (u:List Int) (c:Int):X G Qcj (Qqf s dv p L M j q g u c ((p+2:Nat):Int))=some (.x 4,Qlk s dv p L M j q g u c):=by
 have e1:decide (((p+2:Nat):Int)<((p+2:Nat):Int))=false:=lt_f (by omega)
 simp -implicitDefEqProofs (maxSteps:=9^8) only [Qcj,Qqf,Qlk,go_sem,iv,bv,e1,Qal,reduceCtorEq,↓reduceIte,Nat.reduceEqDiff]
theorem la_stop (u:List Int) (c:Int):X G QcQ (QqV s dv p L M j q g u c ((p+2:Nat):Int))=some (.x 6,Qlk s dv p L M j q g u c):=by
 have e1:decide (((p+2:Nat):Int)<((p+2:Nat):Int))=false:=lt_f (by omega)
 simp -implicitDefEqProofs (maxSteps:=9^8) only [QcQ,QqV,Qlk,go_sem,iv,bv,e1,Qal,reduceCtorEq,↓reduceIte,Nat.reduceEqDiff]

variable (hrv:Rw dv v) (hv:Dig v) (hvl:v.length=p+2) (hj:j+p+2<L) (hL:L<4611686018427387904)
include hrv hv hvl hj hL

theorem ls_go (hg:0≤g∧g<1000000000) {u:List Int} (hu:Dig u) (hul:u.length=L) {c:Int} (hc:0≤c∧c<1000000000) {i:Nat} (hi:i<p+2) :
    ∃ d c',(0≤d∧d<1000000000)∧(0≤c'∧c'<1000000000)∧d=u.getD (i+j) 0-g*v.getD i 0-c+1000000000*c'∧X G Qcj (Qqf s dv p L M j q g u c (i:Int))=some (.n,Qqf s dv p L M j q g (u.set (i+j) d) c' ((i+1:Nat):Int)):=by
  obtain ⟨e1,e2,e3,e4,e5⟩:=kn_w (hu.getD (i+j)) hg (hv.getD i) hc
  obtain ⟨i1,i2,i3,i4,i5⟩:=ls_ix hi hj hL
  have f1:=Qb7 (l:=u) (off:=i+j) (hul ▸ i3)
  have f2:=fun d=>Qbu (l:=u) (off:=i+j) (v:=d) (hul ▸ i3)
  have f3:=hrv.ixn (j:=i) (hvl ▸ hi)
  have f4:=fun hp=>ldv hp v (j:=i) (hvl ▸ hi)
  obtain ⟨w,hw⟩:∃ w,u.getD (i+j) 0-g*v.getD i 0-c=w:=⟨_,rfl⟩
  rw [hw] at e3 e4 e5 ⊢
  by_cases h0:w<0
  · obtain ⟨n1,n2,n3,n4,n5,n6,n7,n8,n9,n10⟩:=w_neg (w:=w) ⟨by omega,h0⟩
    have n11:=QfI (b:=1000000000) n4
    have e6:decide (w<0)=true:=lt_t h0
    refine ⟨_,_,n8,⟨n9,n10 e4⟩,by rw [Int.mul_comm 1000000000], ?_⟩
    simp -implicitDefEqProofs (maxSteps:=9^8) only [Qcj,Qqf,go_sem,iv,bv,e1,e2,hw,e3,e6,n1,n2,n3,n5,n6,n7,n11,i1,i2,i4,i5,f1,f2,f3,f4,allD,Qal,QbV,Qak,reduceCtorEq,↓reduceIte,Nat.reduceEqDiff]
  · have e6:decide (w<0)=false:=lt_f h0
    refine ⟨w,0,⟨by omega,by omega⟩,by omega,by omega, ?_⟩
    simp -implicitDefEqProofs (maxSteps:=9^8) only [Qcj,Qqf,go_sem,iv,bv,e1,e2,hw,e3,e6,i1,i2,i4,i5,f1,f2,f3,f4,allD,Qal,QbV,Qak,reduceCtorEq,↓reduceIte,Nat.reduceEqDiff]

theorem ls_loop (hg:0≤g∧g<1000000000) (u0:List Int):∀ (k i:Nat) (u:List Int) (c:Int),i+k=p+2→Dig u→u.length=L→(0≤c∧c<1000000000)→(∀ x,j+i≤x→u.getD x 0=u0.getD x 0)→(∀ x,x<j→u.getD x 0=u0.getD x 0) →
    val u-(1000000000:Int)^(i+j)*c=val u0-(1000000000:Int)^j*(g*val (v.take i)) →
    ∃ u' c',X G (.loop Qcj) (Qqf s dv p L M j q g u c (i:Int))=some (.x 4,Qlk s dv p L M j q g u' c')∧Dig u'∧u'.length=L∧(0≤c'∧c'<1000000000)∧(∀ x,j+p+2≤x→u'.getD x 0=u0.getD x 0)∧(∀ x,x<j→u'.getD x 0=u0.getD x 0) ∧
      val u'-(1000000000:Int)^(p+2+j)*c'=val u0-(1000000000:Int)^j*(g*val v)
  | 0,i,u,c,hi,hu,hul,hc,h1,h2,hval=>by
    obtain rfl:i=p+2:=by omega
    refine ⟨u,c,by rw [Qai,ls_stop];rfl,hu,hul,hc,h1,h2, ?_⟩
    rw [hval,← hvl,List.take_length]
  | k+1,i,u,c,hi,hu,hul,hc,h1,h2,hval=>by
    obtain ⟨d,c',hd,hc',hdv,hx⟩:=ls_go s dv p L M j q v g hrv hv hvl hj hL hg hu hul hc (i:=i) (by omega)
    obtain ⟨u',c2,g1,g2⟩:=ls_loop hg u0 k (i+1) (u.set (i+j) d) c' (by omega) (hu.set hd) (by simpa using hul) hc' (fun x hx'=>by rw [Qbd _ (by omega)];exact h1 x (by omega)) (fun x hx'=>by rw [Qbd _ (by omega)];exact h2 x hx') (by
      rw [Qe8 _ _ _ (by omega),Qas v i,hdv,show i+1+j=(i+j)+1 by omega,Int.pow_succ,Int.pow_add]
      rw [Int.pow_add] at hval
      clear hx hdv hd hc' h1 h2
      grind)
    exact ⟨u',c2,by rw [Qai,hx];exact g1,g2⟩

theorem la_go {u:List Int} (hul:u.length=L) {c:Int} (hc:0≤c∧c≤1) {i:Nat} (hi:i<p+2) (hu:0≤u.getD (i+j) 0∧u.getD (i+j) 0<1000000000) :
    X G QcQ (QqV s dv p L M j q g u c (i:Int))=some (.n,QqV s dv p L M j q g (u.set (i+j) ((u.getD (i+j) 0+v.getD i 0+c)%1000000000)) ((u.getD (i+j) 0+v.getD i 0+c)/1000000000) ((i+1:Nat):Int)):=by
  obtain ⟨e1,e2,e3,e4,e5,e6,_⟩:=Qsl hu (hv.getD i) hc
  obtain ⟨i1,i2,i3,i4,i5⟩:=ls_ix hi hj hL
  have f1:=Qb7 (l:=u) (off:=i+j) (hul ▸ i3)
  have f2:=fun d=>Qbu (l:=u) (off:=i+j) (v:=d) (hul ▸ i3)
  have f3:=hrv.ixn (j:=i) (hvl ▸ hi)
  have f4:=fun hp=>ldv hp v (j:=i) (hvl ▸ hi)
  have n1:=QfI (b:=1000000000) e3
  have n2:=Qee (b:=1000000000) e3
  simp -implicitDefEqProofs (maxSteps:=9^8) only [QcQ,QqV,go_sem,iv,bv,e1,e2,e4,n1,n2,i1,i2,i4,i5,f1,f2,f3,f4,allD,Qal,QbV,Qak,reduceCtorEq,↓reduceIte,Nat.reduceEqDiff]

theorem la_loop (u0:List Int):∀ (k i:Nat) (u:List Int) (c:Int),i+k=p+2→u.length=L→(0≤c∧c≤1)→(∀ x,x<j+p+2→0≤u.getD x 0∧u.getD x 0<1000000000)→(∀ x,j+p+2≤x→u.getD x 0=u0.getD x 0)→(∀ x,x<j→u.getD x 0=u0.getD x 0) →
    val u+(1000000000:Int)^(i+j)*c=val u0+(1000000000:Int)^j*val (v.take i) →
    ∃ u' c',X G (.loop QcQ) (QqV s dv p L M j q g u c (i:Int))=some (.x 6,Qlk s dv p L M j q g u' c')∧u'.length=L∧(0≤c'∧c'≤1)∧(∀ x,x<j+p+2→0≤u'.getD x 0∧u'.getD x 0<1000000000)∧(∀ x,j+p+2≤x→u'.getD x 0=u0.getD x 0)∧(∀ x,x<j→u'.getD x 0=u0.getD x 0) ∧
      val u'+(1000000000:Int)^(p+2+j)*c'=val u0+(1000000000:Int)^j*val v
  | 0,i,u,c,hi,hul,hc,h1,h2,h3,hval=>by
    obtain rfl:i=p+2:=by omega
    refine ⟨u,c,by rw [Qai,la_stop];rfl,hul,hc,h1,h2,h3, ?_⟩
    rw [hval,← hvl,List.take_length]
  | k+1,i,u,c,hi,hul,hc,h1,h2,h3,hval=>by
    have hu:=h1 (i+j) (by omega)
    have hx:=la_go s dv p L M j q v g hrv hv hvl hj hL hul hc (i:=i) (by omega) hu
    obtain ⟨_,_,_,_,e5,e6,e7⟩:=Qsl hu (hv.getD i) hc
    obtain ⟨u', c2, g1, g2⟩ := la_loop u0 k (i + 1) (u.set (i + j) ((u.getD (i + j) 0 + v.getD i 0 + c) % 1000000000)) ((u.getD (i + j) 0 + v.getD i 0 + c) / 1000000000) (by omega) (by simpa using hul) e5 (fun x hx' => by
        by_cases he:i+j=x
        · subst he;rw [QjK _ (by omega)];exact e6
        · rw [Qbd _ he];exact h1 x hx') (fun x hx'=>by rw [Qbd _ (by omega)];exact h2 x hx') (fun x hx'=>by rw [Qbd _ (by omega)];exact h3 x hx') (by
      rw [Qe8 _ _ _ (by omega),Qas v i,show i+1+j=(i+j)+1 by omega,Int.pow_succ,Int.pow_add]
      rw [Int.pow_add] at hval
      generalize (u.getD (i+j) 0+v.getD i 0+c)%1000000000=R at *
      generalize (u.getD (i+j) 0+v.getD i 0+c)/1000000000=Q at *
      clear hx e5 e6 h1 h2
      grind)
    exact ⟨u',c2,by rw [Qai,hx];exact g1,g2⟩
end
end Go.AM

/- Long division: numbers in digits, cut at a digit. -/
namespace Go.AM
open Go Go.RowKit

theorem Qc8 (l:List Int) {j:Nat} (h:j≤l.length):val l=val (l.take j)+(1000000000:Int)^j*val (l.drop j):=by
 have e:l.take j++l.drop j=l:=List.take_append_drop j l
 have h1:(l.take j).length=j:=by simp;omega
 have h2:=Qg9 (l.take j) (l.drop j)
 rw [e,h1] at h2
 exact h2
theorem Qfm {l l':List Int} (hl:l'.length=l.length):∀ (n k:Nat),l.length≤k+n→(∀ x,k≤x→l'.getD x 0=l.getD x 0)→val (l'.drop k)=val (l.drop k)
 | 0,k,hk,h=>by rw [List.drop_eq_nil_of_le (by omega),List.drop_eq_nil_of_le (by omega)]
 | n+1,k,hk,h=>by
  rw [Qa3,Qa3 l,h k (Nat.le_refl _),Qfm hl n (k+1) (by omega) (fun x hx=>h x (by omega))]
theorem Qi3 {l l':List Int}:∀ (k:Nat),(∀ x,x<k→l'.getD x 0=l.getD x 0)→val (l'.take k)=val (l.take k)
 | 0,h=>rfl
 | k+1,h=>by
  rw [Qas,Qas l,h k (Nat.lt_succ_self k),Qi3 k (fun x hx=>h x (by omega))]
theorem QmE (l:List Int) {j n:Nat} (h:j+n≤l.length):val (l.drop j)=val ((l.drop j).take n)+(1000000000:Int)^n*(l.getD (j+n) 0+1000000000*val (l.drop (j+n+1))):=by
 rw [Qc8 (l.drop j) (j:=n) (by simp;omega),List.drop_drop,Qa3 l (j+n)]
theorem dig_cut {l:List Int} {j n:Nat} (h:∀ x,j≤x→x<j+n→0≤l.getD x 0∧l.getD x 0<1000000000):Dig ((l.drop j).take n):=by
 intro d hd
 obtain ⟨i,hi,rfl⟩:=List.getElem_of_mem hd
 simp only [List.length_take,List.length_drop] at hi
 have:=h (j+i) (by omega) (by omega)
 have e:l.getD (j+i) 0=((l.drop j).take n)[i]'(by simp only [List.length_take,List.length_drop];exact hi):=by
  rw [List.getElem_take,List.getElem_drop,List.getD_eq_getElem?_getD,List.getElem?_eq_getElem (by omega)]
  rfl
 rw [← e];exact this
theorem QmR {l:List Int} (h:∀ x,x<l.length→0≤l.getD x 0∧l.getD x 0<1000000000):Dig l:=by
 have:=dig_cut (l:=l) (j:=0) (n:=l.length) fun x _ hx=>h x (by omega)
 rw [List.drop_zero,List.take_length] at this
 exact this
theorem Qo4 {l:List Int} {j n:Nat} (h:∀ x,j≤x→x<j+n→0≤l.getD x 0∧l.getD x 0<1000000000) (hl:j+n≤l.length):0≤val ((l.drop j).take n)∧val ((l.drop j).take n)<(1000000000:Int)^n:=by
 have hd:=dig_cut h
 have h2:=QfU hd
 have e:((l.drop j).take n).length=n:=by simp;omega
 rw [e] at h2
 exact ⟨Qa2 hd,h2⟩

theorem kn_core {u u':List Int} {j n:Nat} (hlen:u'.length=u.length) (hj:j+n<u.length) (hlo:∀ x,x<j→u'.getD x 0=u.getD x 0) (hhi:∀ x,j+n<x→u'.getD x 0=u.getD x 0) (hz:val (u.drop (j+n+1))=0) {T:Int}
    (hval:val u'=val u-(1000000000:Int)^j*T):val ((u'.drop j).take n)+(1000000000:Int)^n*u'.getD (j+n) 0=val (u.drop j)-T:=by
  have e1:=Qc8 u (j:=j) (by omega)
  have e2:=Qc8 u' (j:=j) (by omega)
  have e3:=Qi3 (l:=u) (l':=u') j hlo
  have e4:=QmE u' (j:=j) (n:=n) (by omega)
  have e5:val (u'.drop (j+n+1))=0:=by rw [Qfm hlen u.length _ (by omega) (fun x hx=>hhi x (by omega))];exact hz
  rw [e5,Int.mul_zero,Int.add_zero] at e4
  rw [e1,e2,e3,e4] at hval
  have hp:=Qc2 j
  have:(1000000000:Int)^j*(val ((u'.drop j).take n)+(1000000000:Int)^n*u'.getD (j+n) 0)=(1000000000:Int)^j*(val (u.drop j)-T):=by
    clear e1 e2 e3 e4 e5
    grind
  exact Int.eq_of_mul_eq_mul_left (Int.ne_of_gt hp) this

theorem kn_zero {low t R V Bn:Int} (hl:0≤low∧low<Bn) (he:low+Bn*t=R) (h0:0≤R) (h1:R<V) (hV:V≤Bn):t=0:=by
 have hB:0<Bn:=Int.lt_of_le_of_lt hl.1 hl.2
 rcases Int.lt_trichotomy t 0 with h | h | h
 ·exfalso
  have:Bn*t≤Bn*(-1):=Int.mul_le_mul_of_nonneg_left (by omega) (Int.le_of_lt hB)
  generalize Bn*t=x at *
  omega
 ·exact h
 ·exfalso
  have:Bn*1≤Bn*t:=Int.mul_le_mul_of_nonneg_left (by omega) (Int.le_of_lt hB)
  generalize Bn*t=x at *
  omega

theorem kn_lead {u:List Int} {j p:Nat} (hu:Dig u) (hj:j+p+2<u.length) (hz:val (u.drop (j+(p+2)+1))=0) :
    val (u.drop j)=(u.getD (j+p+2) 0*1000000000+u.getD (j+p+1) 0)*1000000000*(1000000000:Int)^p+u.getD (j+p) 0*(1000000000:Int)^p+val ((u.drop j).take p) ∧
      0≤val ((u.drop j).take p)∧val ((u.drop j).take p)<(1000000000:Int)^p:=by
  have e1:=QmE u (j:=j) (n:=p) (by omega)
  have e2:=Qa3 u (j+p+1)
  have e3:=Qa3 u (j+p+1+1)
  rw [show j+(p+2)+1=j+p+1+1+1 by omega] at hz
  rw [hz,Int.mul_zero,Int.add_zero] at e3
  refine ⟨?_,Qo4 (fun x _ _=>hu.getD x) (by omega)⟩
  rw [e1,e2,e3]
  show _=(u.getD (j+p+1+1) 0*1000000000+u.getD (j+p+1) 0)*1000000000*(1000000000:Int)^p+u.getD (j+p) 0*(1000000000:Int)^p+val ((u.drop j).take p)
  clear e1 e2 e3 hz
  grind
theorem QrL      {v:List Int} {p:Nat} (hv:Dig v) (hl:v.length=p+2) :
    val v=v.getD (p+1) 0*1000000000*(1000000000:Int)^p+v.getD p 0*(1000000000:Int)^p+val (v.take p)∧0≤val (v.take p)∧val (v.take p)<(1000000000:Int)^p:=by
  have e1:=QmE v (j:=0) (n:=p) (by omega)
  have e2:=Qa3 v (p+1)
  have e3:v.drop (p+1+1)=[]:=List.drop_eq_nil_of_le (by omega)
  have c1:=Qo4 (l:=v) (j:=0) (n:=p) (fun x _ _=>hv.getD x) (by omega)
  rw [e3] at e2
  simp only [List.drop_zero,Nat.zero_add] at e1 c1
  rw [e1,e2]
  refine ⟨?_,c1⟩
  simp only [val,Int.mul_zero,Int.add_zero]
  clear e1 e2 e3 c1
  grind
theorem kn_above {u v:List Int} {j n:Nat} (hu:Dig u) (hv:Dig v) (hl:v.length=n) (hj:j+n<u.length) (h:val (u.drop (j+1))<val v):val (u.drop (j+n+1))=0:=by
 have e1:=Qc8 (u.drop (j+1)) (j:=n) (by simp;omega)
 rw [List.drop_drop,show j+1+n=j+n+1 by omega] at e1
 have h1:=Qa2 ((hu.drop (j+1)).take n)
 have h2:=Qa2 (hu.drop (j+n+1))
 have h3:=QfU hv
 rw [hl] at h3
 rcases Int.lt_or_le 0 (val (u.drop (j+n+1))) with h4 | h4
 ·exfalso
  have:(1000000000:Int)^n*1≤(1000000000:Int)^n*val (u.drop (j+n+1)):=Int.mul_le_mul_of_nonneg_left (by omega) (Int.le_of_lt (Qc2 n))
  generalize (1000000000:Int)^n*val (u.drop (j+n+1))=x at *
  omega
 ·omega
end Go.AM

/- integer.long: one digit of the quotient; the loop -/
namespace Go.AM
open Go Go.RowKit

theorem lo_ix {p L j:Nat} (hj:j+p+2<L) (hL:L<4611686018427387904):decide ((j:Int)≥0)=true∧w64 ((j:Int)+((p+2:Nat):Int))=((j+p+2:Nat):Int)∧((0:Int)≤((j+p+2:Nat):Int)∧((j+p+2:Nat):Int)<((L:Nat):Int)) ∧
    w64 (((j+p+2:Nat):Int)-1)=((j+p+1:Nat):Int)∧((0:Int)≤((j+p+1:Nat):Int)∧((j+p+1:Nat):Int)<((L:Nat):Int))∧j+p+1<L∧w64 ((j:Int)-1)=(j:Int)-1:=by
  refine ⟨ge_t (by omega), ?_,by omega, ?_,by omega,by omega,Qae (by omega) (by omega)⟩<;>rw [Qae (by omega) (by omega)]<;>omega
theorem w_top {a b v:Int} (ha:0≤a∧a<1000000000) (hb:0≤b∧b<1000000000) (hv:0<v∧v<1000000000):w64 (a*1000000000)=a*1000000000∧w64 (a*1000000000+b)=a*1000000000+b∧0≤a*1000000000+b∧w64 ((a*1000000000+b)/v)=(a*1000000000+b)/v ∧
    (0≤(a*1000000000+b)/v∧(a*1000000000+b)/v<1000000000000000000)∧(0≤(a*1000000000+b)%v∧(a*1000000000+b)%v<1000000000)∧(a*1000000000+b)/v*v+(a*1000000000+b)%v=a*1000000000+b:=by
  have h0:0≤a*1000000000+b:=by omega
  have h1:0≤(a*1000000000+b)/v:=Int.ediv_nonneg h0 (by omega)
  have h2:(a*1000000000+b)/v≤a*1000000000+b:=Int.ediv_le_self _ h0
  have h3:0≤(a*1000000000+b)%v:=Int.emod_nonneg _ (by omega)
  have h4:(a*1000000000+b)%v<v:=Int.emod_lt_of_pos _ hv.1
  refine ⟨Qae (by omega) (by omega),Qae (by omega) (by omega),h0, ?_, ?_,⟨h3,by omega⟩,Int.ediv_mul_add_emod _ _⟩
  · generalize (a*1000000000+b)/v=q at *
    exact Qae (by omega) (by omega)
  · generalize (a*1000000000+b)/v=q at *
    omega
theorem w_tail {t c:Int} (ht:-1000000000<t∧t<1000000000) (hc:0≤c∧c<1000000000):w64 (t-c)=t-c∧w64 (t+c)=t+c:=⟨Qae (by omega) (by omega),Qae (by omega) (by omega)⟩
theorem w_g {g:Int} (hg:0≤g∧g<1000000000):w64 (g-1)=g-1:=Qae (by omega) (by omega)
theorem ub_next {d r V:Int} (hd:0≤d∧d<1000000000) (h:r<V):d+1000000000*r<1000000000*V:=by omega
theorem neg_gt {low t R T Bn:Int} (hl:0≤low∧low<Bn) (he:low+Bn*t=R-T) (h:t<0):R<T:=by
 have:Bn*t≤Bn*(-1):=Int.mul_le_mul_of_nonneg_left (by omega) (by omega)
 generalize Bn*t=x at *
 omega
theorem pos_ge {low t R T Bn:Int} (hl:0≤low∧low<Bn) (he:low+Bn*t=R-T) (h:¬ t<0):0≤R-T:=by
 have:0≤Bn*t:=Int.mul_nonneg (by omega) (by omega)
 generalize Bn*t=x at *
 omega
theorem rest_lt {g R V:Int} (h:R<(g+1)*V):R-g*V<V:=by
 rw [Int.add_mul,Int.one_mul] at h
 generalize g*V=x at *
 omega
theorem rest_lt' {g R V:Int} (h:R<g*V):R-(g-1)*V<V:=by
 rw [Int.sub_mul,Int.one_mul]
 generalize g*V=x at *
 omega
theorem Qrc {l:List Int} {k:Nat} {c Y:Int} (hk:k<l.length) (h:val l-(1000000000:Int)^k*c=Y):val (l.set k (l.getD k 0-c))=Y:=by
 rw [Qe8 _ _ _ hk,show l.getD k 0-c-l.getD k 0 = -c by omega,Int.mul_neg]
 generalize (1000000000:Int)^k*c=x at *
 omega
theorem QrA {l:List Int} {k:Nat} {c Y:Int} (hk:k<l.length) (h:val l+(1000000000:Int)^k*c=Y):val (l.set k (l.getD k 0+c))=Y:=by
 rw [Qe8 _ _ _ hk,show l.getD k 0+c-l.getD k 0=c by omega]
 exact h
theorem sub_one {X g V Z:Int}:X-Z*(g*V)+Z*V=X-Z*((g-1)*V):=by
 rw [Int.sub_mul,Int.one_mul,Int.mul_sub]
 generalize Z*(g*V)=a
 generalize Z*V=b
 omega
theorem fin_val {low t Bn R h:Int} (hz:t=0) (hc:low+Bn*t=R) (h0:h=0):low+Bn*(t+1000000000*h)=R:=by
 subst hz h0
 simpa using hc
theorem Hid.mk {p:Prop} (h:p):Hid p:=h
variable [Its]

section
variable (s:Int) (dv:D) (p L M:Nat) (v:List Int)
def Qpd (u q:List Int) (j:Int):St:=mkS [(6,ai s),(7,.own [32] L),(8,.d dv),(9,ai ((p+2:Nat):Int)),(10,.own [46] M),(11,ai j)] [([32],arrI L u),([46],arrI M q)]
def QsS (u q:List Int):St:=mkS [(6,ai s),(7,.own [32] L),(9,ai ((p+2:Nat):Int)),(10,.own [46] M)] [([32],arrI L u),([46],arrI M q)]

theorem lo_stop (u q:List Int):X G Qck (Qpd s dv p L M u q (-1))=some (.x 0,QsS s p L M u q):=by
 have e1:decide ((-1:Int)≥0)=false:=rfl
 simp -implicitDefEqProofs (maxSteps:=9^8) only [Qck,Qpd,QsS,go_sem,iv,bv,e1,Qal,reduceCtorEq,↓reduceIte,Nat.reduceEqDiff]

variable (hrv:Rw dv v) (hv:Dig v) (hvl:v.length=p+2) (hL:L<4611686018427387904)
include hrv hv hvl hL

theorem lo_go (h1:0<v.getD (p+1) 0) {u q:List Int} (hu:Dig u) (hul:u.length=L) (hql:q.length=M) {j:Nat} (hj:j+p+2<L) (hjM:j<M) (hlt:val (u.drop (j+1))<val v) :
    ∃ g u',(0≤g∧g<1000000000)∧Dig u'∧u'.length=L∧val (u'.drop j)<val v∧val u'=val u-(1000000000:Int)^j*(g*val v) ∧
      X G Qck (Qpd s dv p L M u q (j:Int))=some (.n,Qpd s dv p L M u' (q.set j g) ((j:Int)-1)):=by
  -- indices
  obtain ⟨i0,i1,i2,i3,i4,i5,i6⟩:=lo_ix hj hL
  have hjL:j+p+2<u.length:=by omega
  have f1:=Qb7 (l:=u) (off:=j+p+2) hjL
  have f2:=Qb7 (l:=u) (off:=j+p+1) (by omega)
  have f3:=hrv.ixn (j:=p+1) (by omega)
  have f4:=fun hp=>ldv hp v (j:=p+1) (by omega)
  have f5:=lg_ix2 hj hL
  have f6:=QkL (b:=v.getD (p+1) 0) (by omega)
  have g2:=fun x=>Qbu (l:=q) (off:=j) (v:=x) (by omega)
  have g3:(0:Int)≤(j:Int)∧(j:Int)<((M:Nat):Int):=by omega
  have ht:=hu.getD (j+p+2)
  have n1:j+(p+2)<u.length:=by omega
  have n2:j+(p+2)=j+p+2:=by omega
  have n3:0+(p+2)=p+2:=by omega
  have n4:p+2+j=j+p+2:=by omega
  have n5:j+p+2+1=j+(p+2)+1:=by omega
  have n6:∀ x,x<j→x≠j+p+2:=fun x h=>by omega
  have n7:∀ x,j+(p+2)<x→j+p+2≤x∧x≠j+p+2:=fun x h=>by omega
  have n8:∀ x,x<j+(p+2)→x≠j+p+2∧x<j+p+2:=fun x h=>by omega
  have n9:∀ x,j+(p+2)+1≤x→j+p+2≤x∧x≠j+p+2:=fun x h=>by omega
  have n10:∀ x,x<j+p+2→x≠j+p+2:=fun x h=>by omega
  -- the number
  have hz:val (u.drop (j+(p+2)+1))=0:=kn_above hu hv hvl n1 hlt
  obtain ⟨t1,t2,t3,t4,t5,t6,t7⟩:=w_top ht (hu.getD (j+p+1)) (v:=v.getD (p+1) 0) ⟨h1,(hv.getD (p+1)).2⟩
  have f7:=QfI (b:=v.getD (p+1) 0) t3
  have f8:=Qee (b:=v.getD (p+1) 0) t3
  have hU0:=Qa2 (hu.drop j)
  have hguess:∃ g,X G (.loop Qbm) (QmB s dv p L M j u q ((u.getD (j+p+2) 0*1000000000+u.getD (j+p+1) 0)/v.getD (p+1) 0) ((u.getD (j+p+2) 0*1000000000+u.getD (j+p+1) 0)%v.getD (p+1) 0))=some (.x 2,Qi5 s dv p L M j u q g)∧(0≤g∧g<1000000000)∧Hid (val (u.drop j)<(g+1)*val v)∧Hid ((g-1)*val v≤val (u.drop j)):=by
    obtain ⟨k1,k2,k3⟩:=kn_lead hu (j:=j) (p:=p) hjL hz
    obtain ⟨k4,k5,k6⟩:=QrL hv hvl
    have hUB:val (u.drop j)<1000000000*val v:=by
      rw [Qa3]
      exact ub_next (hu.getD j) hlt
    obtain ⟨_,_,_,_,hfirst⟩:=kn_first (P:=(1000000000:Int)^p) (v1:=v.getD (p+1) 0) (v2:=v.getD p 0) (vl:=val (v.take p)) (u0:=u.getD (j+p+2) 0) (u1:=u.getD (j+p+1) 0) (u2:=u.getD (j+p) 0) (ul:=val ((u.drop j).take p)) (Qc2 p) h1 (hv.getD p).1 k5 ⟨k2,k3⟩ (hu.getD (j+p)) ⟨(hu.getD _).1,(hu.getD _).1⟩
    obtain ⟨g,hx0,hg,hg1,hg2⟩:=lg_loop s dv p L M j u q v hrv hv hu hvl hul hj hL (P:=(1000000000:Int)^p) (vl:=val (v.take p)) (ul:=val ((u.drop j).take p)) (u0:=u.getD (j+p+2) 0) (u1:=u.getD (j+p+1) 0) (Qc2 p) h1 ⟨k5,k6⟩ ⟨k2,k3⟩ (by rw [← k1,← k4];exact hUB) (by rw [← k1];exact hU0) 1000000000 _ _ (Int.le_add_of_nonneg_left t6.1) t5 t6 t7 hfirst
    rw [← k1,← k4] at hg1 hg2
    exact ⟨g,hx0,hg,Hid.mk hg1,Hid.mk hg2⟩
  obtain ⟨g,hx0,hg,hg1,hg2⟩:=hguess
  have hvB:Hid (val v≤(1000000000:Int)^(p+2)):=Hid.mk (by have:=QfU hv;rw [hvl] at this;exact Int.le_of_lt this)
  obtain ⟨u1,c1,hx1,d1,l1,b1,a1,a2,a3'⟩:=ls_loop s dv p L M j q v g hrv hv hvl hj hL hg u (p+2) 0 u 0 n3 hu hul (by decide) (fun _ _=>rfl) (fun _ _=>rfl) (by simp [val])
  have a3:Hid (val u1-(1000000000:Int)^(p+2+j)*c1=val u-(1000000000:Int)^j*(g*val v)):=a3'
  clear a3'
  have l1':j+p+2<u1.length:=by omega
  have f9:=Qb7 (l:=u1) (off:=j+p+2) l1'
  have g1:=fun x=>Qbu (l:=u1) (off:=j+p+2) (v:=x) l1'
  have hae:=a1 (j+p+2) (Nat.le_refl _)
  have hat:-1000000000<u1.getD (j+p+2) 0∧u1.getD (j+p+2) 0<1000000000:=by rw [hae];omega
  obtain ⟨w1,_⟩:=w_tail (t:=u1.getD (j+p+2) 0) (c:=c1) hat b1
  have hat2:-1000000000<u1.getD (j+p+2) 0-c1∧u1.getD (j+p+2) 0-c1<1000000000:=by rw [hae];omega
  -- behind the subtraction
  obtain ⟨u2,hu2⟩:∃ u2,u1.set (j+p+2) (u1.getD (j+p+2) 0-c1)=u2:=⟨_,rfl⟩
  have l2:u2.length=L:=by rw [← hu2];simpa using l1
  have l2':j+p+2<u2.length:=by omega
  have l2e:u2.length=u.length:=by omega
  have t2e:u2.getD (j+p+2) 0=u1.getD (j+p+2) 0-c1:=by rw [← hu2];exact QjK _ l1'
  have o2:∀ x,x≠j+p+2→u2.getD x 0=u1.getD x 0:=fun x hx=>by rw [← hu2];exact Qbd _ (Ne.symm hx)
  have v2:Hid (val u2=val u-(1000000000:Int)^j*(g*val v)):=Hid.mk (by
    rw [← hu2]
    have:=a3.out
    rw [n4] at this
    exact Qrc l1' this)
  have c2:Hid (val ((u2.drop j).take (p+2))+(1000000000:Int)^(p+2)*u2.getD (j+p+2) 0=val (u.drop j)-g*val v):=Hid.mk
    (kn_core (u:=u) (u':=u2) (j:=j) (n:=p+2) l2e n1 (fun x hx=>by rw [o2 x (n6 x hx)];exact a2 x hx) (fun x hx=>by rw [o2 x (n7 x hx).2];exact a1 x (n7 x hx).1) hz v2.out)
  have b2:Hid (0≤val ((u2.drop j).take (p+2))∧val ((u2.drop j).take (p+2))<(1000000000:Int)^(p+2)):=Hid.mk
    (Qo4 (l:=u2) (j:=j) (n:=p+2) (fun x h h'=>by rw [o2 x (n8 x h').1];exact d1.getD x) (Nat.le_of_lt (n2 ▸ l2')))
  have f10:=Qb7 (l:=u2) (off:=j+p+2) l2'
  simp only [QmB,Qi5,go_sem] at hx0
  simp only [Qqf,Qlk,go_sem] at hx1
  by_cases hneg:u2.getD (j+p+2) 0<0
  · -- too much
    have e1:decide (u2.getD (j+p+2) 0<0)=true:=lt_t hneg
    have hgt:Hid (val (u.drop j)<g*val v):=Hid.mk (neg_gt b2.out c2.out hneg)
    have hgp:1≤g:=kn_pos hgt.out hU0 hg.1
    have hg':0≤g-1∧g-1<1000000000:=by omega
    obtain ⟨u3,c3,hx3,l3,b3,h3,a4,a5,a6'⟩:=la_loop s dv p L M j q v (g-1) hrv hv hvl hj hL u2 (p+2) 0 u2 0 n3 l2 (by decide) (fun x hx=>by rw [o2 x (n10 x hx)];exact d1.getD x) (fun _ _=>rfl) (fun _ _=>rfl) (by simp [val])
    have a6:Hid (val u3+(1000000000:Int)^(p+2+j)*c3=val u2+(1000000000:Int)^j*val v):=a6'
    clear a6'
    have hae3:=a4 (j+p+2) (Nat.le_refl _)
    have ht2:-1000000000<u3.getD (j+p+2) 0∧u3.getD (j+p+2) 0<1000000000:=by rw [hae3,t2e];exact hat2
    obtain ⟨_,w2⟩:=w_tail (t:=u3.getD (j+p+2) 0) (c:=c3) ht2 (by omega)
    have w3:=w_g hg
    have l3':j+p+2<u3.length:=by omega
    have f11:=Qb7 (l:=u3) (off:=j+p+2) l3'
    have g4:=fun x=>Qbu (l:=u3) (off:=j+p+2) (v:=x) l3'
    obtain ⟨u4,hu4⟩:∃ u4,u3.set (j+p+2) (u3.getD (j+p+2) 0+c3)=u4:=⟨_,rfl⟩
    have l4:u4.length=L:=by rw [← hu4];simpa using l3
    have l4e:u4.length=u.length:=by omega
    have l4':j+p+2<u4.length:=by omega
    have o4:∀ x,x≠j+p+2→u4.getD x 0=u3.getD x 0:=fun x hx=>by rw [← hu4];exact Qbd _ (Ne.symm hx)
    have v4:Hid (val u4=val u-(1000000000:Int)^j*((g-1)*val v)):=Hid.mk (by
      rw [← hu4]
      have:=a6.out
      rw [n4,v2.out,sub_one] at this
      exact QrA l3' this)
    have hlo4:∀ x,x<j→u4.getD x 0=u.getD x 0:=fun x hx=>by rw [o4 x (n6 x hx),a5 x hx,o2 x (n6 x hx)];exact a2 x hx
    have hhi4:∀ x,j+(p+2)<x→u4.getD x 0=u.getD x 0:=fun x hx=>by rw [o4 x (n7 x hx).2,a4 x (n7 x hx).1,o2 x (n7 x hx).2];exact a1 x (n7 x hx).1
    have c4:=kn_core (u:=u) (u':=u4) (j:=j) (n:=p+2) l4e n1 hlo4 hhi4 hz v4.out
    have b4:=Qo4 (l:=u4) (j:=j) (n:=p+2) (fun x h h'=>by rw [o4 x (n8 x h').1];exact h3 x (n8 x h').2) (Nat.le_of_lt (n2 ▸ l4'))
    rw [n2] at c4
    have hr1:=rest_lt' hgt.out
    have hz4:=kn_zero b4 c4 (Int.sub_nonneg_of_le hg2.out) hr1 hvB.out
    have hd4:Dig u4:=QmR fun x hx=>by
      by_cases hxe:x=j+p+2
      · subst hxe;rw [hz4];decide
      · rw [o4 x hxe]
        rcases Nat.lt_or_ge x (j+p+2) with h | h
        · exact h3 x h
        · rw [a4 x h,o2 x hxe];exact d1.getD x
    refine ⟨g-1,u4,hg',hd4,l4, ?_,v4.out, ?_⟩
    · rw [QmE u4 (j:=j) (n:=p+2) (Nat.le_of_lt (n2 ▸ l4')),n2,n5,fin_val hz4 c4 (by rw [Qfm (l:=u) (l':=u4) l4e u.length _ (Nat.le_add_left _ _) (fun x hx=>hhi4 x hx)];exact hz)]
      exact hr1
    · simp only [QqV,Qlk,go_sem] at hx3
      simp -implicitDefEqProofs (maxSteps:=9^8) only [Qck,Qpd,go_sem,iv,bv,e1,t1,t2,t4,f1,f2,f3,f4,f5,f6,f7,f8,f9,f10,f11,g1,g2,g3,g4,i0,i1,i2,i3,i4,i6,w1,w2,w3,hx0,hx1,hx3,hu2,hu4,allD,Qal,QbV,Qak,reduceCtorEq,↓reduceIte,Nat.reduceEqDiff]
  · have e1:decide (u2.getD (j+p+2) 0<0)=false:=lt_f hneg
    have hr0:=pos_ge b2.out c2.out hneg
    have hr1:=rest_lt hg1.out
    have hz2:=kn_zero b2.out c2.out hr0 hr1 hvB.out
    have hd2:Dig u2:=QmR fun x hx=>by
      by_cases hxe:x=j+p+2
      · subst hxe;rw [hz2];decide
      · rw [o2 x hxe];exact d1.getD x
    have hhi2:∀ x,j+(p+2)<x→u2.getD x 0=u.getD x 0:=fun x hx=>by rw [o2 x (n7 x hx).2];exact a1 x (n7 x hx).1
    refine ⟨g,u2,hg,hd2,l2, ?_,v2.out, ?_⟩
    · rw [QmE u2 (j:=j) (n:=p+2) (Nat.le_of_lt (n2 ▸ l2')),n2,n5,fin_val hz2 c2.out (by rw [Qfm (l:=u) (l':=u2) l2e u.length _ (Nat.le_add_left _ _) (fun x hx=>hhi2 x hx)];exact hz)]
      exact hr1
    · simp -implicitDefEqProofs (maxSteps:=9^8) only [Qck,Qpd,go_sem,iv,bv,e1,t1,t2,t4,f1,f2,f3,f4,f5,f6,f7,f8,f9,f10,g1,g2,g3,i0,i1,i2,i3,i4,i6,w1,hx0,hx1,hu2,allD,Qal,QbV,Qak,reduceCtorEq,↓reduceIte,Nat.reduceEqDiff]
end
end Go.AM

/- integer.long -/
namespace Go.AM
open Go Go.RowKit

theorem Qsw {l:List Int} {n:Nat} (h:n≤l.length):D.row n (List.take n (l.map iv))=rowI (l.take n):=by
 rw [rowI,List.length_take,Nat.min_eq_left h,List.map_take]
theorem scale_ok {t:Int} (h:0<t∧t<1000000000):(0<1000000000/(t+1)∧1000000000/(t+1)<1000000000)∧(t+1)*(1000000000/(t+1))≤1000000000∧w64 (t+1)=t+1∧w64 (1000000000/(t+1))=1000000000/(t+1):=by
 have e:=Int.mul_ediv_add_emod 1000000000 (t+1)
 have m1:0≤1000000000%(t+1):=Int.emod_nonneg _ (by omega)
 have m2:1000000000%(t+1)<t+1:=Int.emod_lt_of_pos _ (by omega)
 have q1:1≤1000000000/(t+1):=(Int.le_ediv_iff_mul_le (by omega)).2 (by omega)
 have q2:1000000000/(t+1)<1000000000:=Int.ediv_lt_of_lt_mul (by omega) (by omega)
 generalize 1000000000/(t+1)=q at *
 generalize 1000000000%(t+1)=r at *
 refine ⟨⟨by omega,q2⟩, ?_,Qae (by omega) (by omega),Qae (by omega) (by omega)⟩
 generalize (t+1)*q=y at *
 omega
theorem long_sum {C U Z g V Q:Int} (h:U+V*Q=C):U-Z*(g*V)+V*(Q+Z*g)=C:=by grind
theorem scaled_lt {s t B1 b lo:Int} (hs:0<s) (h:(t+1)*s≤1000000000) (hb:b=lo+B1*t) (hlo:lo<B1) (hB:0<B1):b*s<1000000000*B1:=by
 have h1:b*s<(B1*(t+1))*s:=Int.mul_lt_mul_of_pos_right (by rw [hb,Int.mul_add,Int.mul_one];generalize B1*t=x at *;omega) hs
 have h2:B1*((t+1)*s)≤B1*1000000000:=Int.mul_le_mul_of_nonneg_left h (Int.le_of_lt hB)
 rw [Int.mul_assoc] at h1
 generalize B1*((t+1)*s)=x at *
 omega
theorem long_div {A s b q U r r':Int} (hs:0<s) (h1:U+b*s*q=A*s) (h2:U=r*s+r') (h3:0≤r'∧r'<s) (h4:U<b*s) (h5:0≤r):A=b*q+r∧r<b:=by
 have e:(A-b*q-r)*s=r':=by rw [Int.sub_mul,Int.sub_mul];rw [← h1,h2];grind
 have hr:r'=0:=by
  rcases Int.lt_trichotomy (A-b*q-r) 0 with h | h | h
  ·exfalso
   have:(A-b*q-r)*s≤(-1)*s:=Int.mul_le_mul_of_nonneg_right (by omega) (by omega)
   rw [e] at this
   omega
  ·rw [← e,h,Int.zero_mul]
  ·exfalso
   have:1*s≤(A-b*q-r)*s:=Int.mul_le_mul_of_nonneg_right (by omega) (by omega)
   rw [e] at this
   omega
 constructor
 ·rw [hr] at e
  have:=(Int.mul_eq_zero.1 e).resolve_right (by omega)
  omega
 ·rw [hr,Int.add_zero] at h2
  rw [h2] at h4
  exact Int.lt_of_mul_lt_mul_right h4 (by omega)
variable [Its]

section
variable (s:Int) (dv:D) (p L M:Nat) (v:List Int)
variable (hrv:Rw dv v) (hv:Dig v) (hvl:v.length=p+2) (hL:L<4611686018427387904)
include hrv hv hvl hL

theorem lo_loop (h1:0<v.getD (p+1) 0) (hM:M+p+2=L) (C:Int):∀ (k:Nat) (u q:List Int),k≤M→Dig u→u.length=L→Dig q→q.length=M→val (u.drop k)<val v→(∀ i,i<k→q.getD i 0=0)→Hid (val u+val v*val q=C) →
    ∃ u' q',X G (.loop Qck) (Qpd s dv p L M u q ((k:Int)-1))=some (.x 0,QsS s p L M u' q')∧Dig u'∧u'.length=L∧Dig q'∧q'.length=M∧val u'<val v∧val u'+val v*val q'=C
  | 0, u, q, hk, hu, hul, hq, hql, hlt, h0, hs => ⟨u, q, by
      have:((0:Nat):Int)-1 = -1:=rfl
      rw [this,Qai,lo_stop];rfl,hu,hul,hq,hql,by simpa using hlt,hs.out⟩
  | k+1,u,q,hk,hu,hul,hq,hql,hlt,h0,hs=>by
    obtain ⟨g,u1,hg,d1,l1,lt1,e1,hx⟩:=lo_go s dv p L M v hrv hv hvl hL h1 hu hul hql (j:=k) (by omega) (by omega) hlt
    have hsum:Hid (val u1+val v*val (q.set k g)=C):=Hid.mk (by
      rw [e1,Qe8 _ _ _ (by omega),h0 k (Nat.lt_succ_self k),Int.sub_zero]
      exact long_sum hs.out)
    clear e1
    obtain ⟨u',q',g1,g2⟩:=lo_loop h1 hM C k u1 (q.set k g) (by omega) d1 l1 (hq.set hg) (by simpa using hql) lt1 (fun i hi=>by rw [Qbd _ (by omega)];exact h0 i (by omega)) hsum
    refine ⟨u',q', ?_,g2⟩
    have:((k+1:Nat):Int)-1=(k:Int):=by omega
    rw [this,Qai,hx]
    exact g1
end

theorem long_spec {da db:D} {a b:List Int} {p:Nat} (hra:Rw da a) (hrb:Rw db b) (ha:Dig a) (hb:Dig b) (hbl:b.length=p+2) (hbt:0<b.getD (p+1) 0) (hle:b.length≤a.length) (hsz:a.length≤1000000000000) :
    ∃ q r,Qah G Qi7 [da,db]=some (.d (.tup [rowI q,rowI r]))∧Dig q∧Dig r∧q.length=a.length-b.length+1∧r.length=b.length∧val a=val b*val q+val r∧val r<val b:=by
  obtain ⟨hs,hs2,w1,w2⟩:=scale_ok ⟨hbt,(hb.getD (p+1)).2⟩
  have z1:=QfI (a:=1000000000) (b:=b.getD (p+1) 0+1) (by omega)
  have z2:=QkL (b:=b.getD (p+1) 0+1) (by omega)
  obtain ⟨s,hsd⟩:∃ s,1000000000/(b.getD (p+1) 0+1)=s:=⟨_,rfl⟩
  rw [hsd] at hs hs2 w2 z1
  obtain ⟨u,hu1,hu2,hu3,hu4⟩:=Qm8 hra ha hs (by omega)
  obtain ⟨vv,hv1,hv2,hv3,hv4⟩:=Qm8 hrb hb hs (by omega)
  simp only [iv] at hu1 hv1
  -- the divisor
  have hvle:p+2≤vv.length:=by omega
  have hbs:Hid (val b*s<(1000000000:Int)^(p+2)):=Hid.mk (by
    have e1:=Qc8 b (j:=p+1) (by omega)
    have e2:=Qa3 b (p+1)
    rw [List.drop_eq_nil_of_le (show b.length≤p+1+1 by omega)] at e2
    simp only [val,Int.mul_zero,Int.add_zero] at e2
    rw [e2] at e1
    have e3:=QfU (hb.take (p+1))
    have e4:(b.take (p+1)).length=p+1:=by rw [List.length_take];omega
    rw [e4] at e3
    have:=scaled_lt hs.1 hs2 e1 e3 (Qc2 _)
    rw [Int.pow_succ,Int.mul_comm ((1000000000:Int)^(p+1))]
    exact this)
  have hvt:val (vv.take (p+2))=val b*s:=by
    have e1:=Qc8 vv (j:=p+2) hvle
    have e2:=Qa2 (hv3.drop (p+2))
    have e3:=Qa2 (hv3.take (p+2))
    rcases Int.lt_or_le 0 (val (vv.drop (p+2))) with h | h
    · exfalso
      have:(1000000000:Int)^(p+2)*1≤(1000000000:Int)^(p+2)*val (vv.drop (p+2)):=Int.mul_le_mul_of_nonneg_left (by omega) (Int.le_of_lt (Qc2 _))
      have h3:=hbs.out
      rw [← hv4,e1] at h3
      generalize (1000000000:Int)^(p+2)*val (vv.drop (p+2))=x at *
      omega
    · have:val (vv.drop (p+2))=0:=by omega
      rw [this,Int.mul_zero,Int.add_zero] at e1
      rw [← e1,hv4]
  have hvd:=hv3.take (p+2)
  have hvl:(vv.take (p+2)).length=p+2:=by rw [List.length_take];omega
  have hbpos:0<val b:=by
    have e1:=QrL hb hbl
    have h1:0<b.getD (p+1) 0*1000000000*(1000000000:Int)^p:=Int.mul_pos (by omega) (Qc2 p)
    have h2:0≤b.getD p 0*(1000000000:Int)^p:=Int.mul_nonneg (hb.getD p).1 (Int.le_of_lt (Qc2 p))
    rw [e1.1]
    have h3:=e1.2.1
    generalize b.getD (p+1) 0*1000000000*(1000000000:Int)^p=x at *
    generalize b.getD p 0*(1000000000:Int)^p=y at *
    clear e1 hbs
    omega
  have hvtop:0<(vv.take (p+2)).getD (p+1) 0:=by
    rcases Int.lt_or_le 0 ((vv.take (p+2)).getD (p+1) 0) with h | h
    · exact h
    · exfalso
      have h0:=(hvd.getD (p+1)).1
      have h1:(vv.take (p+2)).getD (p+1) 0=0:=by clear hbs;omega
      have e1:=Qc8 (vv.take (p+2)) (j:=p+1) (by rw [hvl];exact Nat.le_succ _)
      have e2:=Qa3 (vv.take (p+2)) (p+1)
      rw [List.drop_eq_nil_of_le (show (vv.take (p+2)).length≤p+1+1 by rw [hvl];exact Nat.le_refl _),h1] at e2
      simp only [val,Int.mul_zero,Int.add_zero] at e2
      rw [e2,Int.mul_zero,Int.add_zero,hvt] at e1
      have e3:=QfU (hvd.take (p+1))
      have e4:((vv.take (p+2)).take (p+1)).length=p+1:=by rw [List.length_take,hvl];exact Nat.min_eq_left (Nat.le_succ _)
      rw [e4,← e1] at e3
      have f1:=Qc8 b (j:=p+1) (by omega)
      have f2:=Qa3 b (p+1)
      rw [List.drop_eq_nil_of_le (show b.length≤p+1+1 by omega)] at f2
      simp only [val,Int.mul_zero,Int.add_zero] at f2
      rw [f2] at f1
      have f3:=Qa2 (hb.take (p+1))
      have f4:(1000000000:Int)^(p+1)*1≤(1000000000:Int)^(p+1)*b.getD (p+1) 0:=Int.mul_le_mul_of_nonneg_left (by clear hbs e1 e3 f1;omega) (Int.le_of_lt (Qc2 _))
      have f5:val b*1≤val b*s:=Int.mul_le_mul_of_nonneg_left (by clear hbs e1 e3 f1 f4;omega) (Int.le_of_lt hbpos)
      generalize (1000000000:Int)^(p+1)*b.getD (p+1) 0=x at *
      generalize (1000000000:Int)^(p+1)=y at *
      generalize val b*s=z at *
      clear hbs e1
      omega
  obtain ⟨dv,hdv⟩:∃ dv,D.row (p+2) (List.take (p+2) (vv.map iv))=dv:=⟨_,rfl⟩
  have hrv:Rw dv (vv.take (p+2)):=by rw [← hdv,Qsw hvle];exact .inr rfl
  obtain ⟨M,hM⟩:∃ M,a.length-(p+2)+1=M:=⟨_,rfl⟩
  have hlast:val (u.drop M)<val (vv.take (p+2)):=by
    rw [hvt]
    have e1:=Qc8 u (j:=M) (by omega)
    have e2:=Qa2 (hu3.take M)
    have e3:=QfU ha
    have e4:a.length=M+(p+1):=by omega
    rw [e4,Int.pow_add] at e3
    have f1:=Qc8 b (j:=p+1) (by omega)
    have f2:=Qa3 b (p+1)
    rw [List.drop_eq_nil_of_le (show b.length≤p+1+1 by omega)] at f2
    simp only [val,Int.mul_zero,Int.add_zero] at f2
    rw [f2] at f1
    have f3:=Qa2 (hb.take (p+1))
    have f4:(1000000000:Int)^(p+1)*1≤(1000000000:Int)^(p+1)*b.getD (p+1) 0:=Int.mul_le_mul_of_nonneg_left (by clear hbs e1 e3 f1;omega) (Int.le_of_lt (Qc2 _))
    have f5:(1000000000:Int)^(p+1)≤val b:=by
      rw [Int.mul_one] at f4
      generalize (1000000000:Int)^(p+1)*b.getD (p+1) 0=x at *
      clear hbs e1 e3
      omega
    have g1:val a*s<((1000000000:Int)^M*val b)*s:=Int.mul_lt_mul_of_pos_right (Int.lt_of_lt_of_le e3 (Int.mul_le_mul_of_nonneg_left f5 (Int.le_of_lt (Qc2 _)))) hs.1
    rw [← hu4,e1,Int.mul_assoc] at g1
    have g2:(1000000000:Int)^M*val (u.drop M)<(1000000000:Int)^M*(val b*s):=Int.lt_of_le_of_lt (Int.le_add_of_nonneg_left e2) g1
    exact Int.lt_of_mul_lt_mul_left g2 (Int.le_of_lt (Qc2 _))
  obtain ⟨u',q,hx,du,lu,dq,lq,hlt,hsum⟩:=lo_loop s dv p (a.length+1) M (vv.take (p+2)) hrv hvd hvl (by omega) hvtop (by omega) (val a*s) M u (List.replicate M 0) (Nat.le_refl _) hu3 hu2 (Dig.replicate _) (by simp) hlast (fun i hi=>by simp [List.getD,hi]) (Hid.mk (by rw [QfZ,Int.mul_zero,Int.add_zero,hu4]))
  rw [hvt] at hlt hsum
  have hute:val (u'.take (p+2))=val u':=by
    have e1:=Qc8 u' (j:=p+2) (by omega)
    have e2:=Qa2 (du.drop (p+2))
    have e3:=Qa2 (du.take (p+2))
    rcases Int.lt_or_le 0 (val (u'.drop (p+2))) with h | h
    · exfalso
      have:(1000000000:Int)^(p+2)*1≤(1000000000:Int)^(p+2)*val (u'.drop (p+2)):=Int.mul_le_mul_of_nonneg_left (by omega) (Int.le_of_lt (Qc2 _))
      have h3:=Int.lt_trans hlt hbs.out
      rw [e1] at h3
      generalize (1000000000:Int)^(p+2)*val (u'.drop (p+2))=x at *
      clear hsum hlt
      omega
    · have:val (u'.drop (p+2))=0:=by clear hsum hlt hbs;omega
      rw [this,Int.mul_zero,Int.add_zero] at e1
      exact e1.symm
  have hul':(u'.take (p+2)).length=p+2:=by rw [List.length_take];omega
  obtain ⟨r,r',hx2,hr',lr,dr,hrv2⟩:=Qnn (da:=D.row (p+2) (List.take (p+2) (u'.map iv))) (a:=u'.take (p+2)) (b:=s) (by rw [Qsw (by omega)];exact .inr rfl) (du.take _) hs (by rw [hul'];omega)
  rw [hute] at hrv2
  obtain ⟨k1,k2⟩:=long_div hs.1 hsum hrv2 hr' hlt (Qa2 dr)
  refine ⟨q,r, ?_,dq,dr,by omega,by rw [lr,hul',hbl],k1,k2⟩
  clear hsum hlt hbs hrv2 k1 k2 hlast hvt hu4 hv4 hute hs2
  rw [Qad (cf:=Qh5) rfl]
  have i1:=hrb.ixn (j:=p+1) (by omega)
  have i2:=fun hp=>ldv hp b (j:=p+1) (by omega)
  have i3:w64 (((p+2:Nat):Int)-1)=((p+1:Nat):Int):=by rw [Qae (by omega) (by omega)];omega
  have i4:w64 ((a.length:Int)-((p+2:Nat):Int))=((M:Nat):Int)-1:=by rw [Qae (by omega) (by omega)];omega
  have i5:w64 (((M:Nat):Int)-1+1)=((M:Nat):Int):=by rw [Qae (by omega) (by omega)];omega
  have i6:=bnd M (by omega)
  have i7:(0:Int)≤0∧(0:Int)≤((p+2:Nat):Int)∧((p+2:Nat):Int)≤((b.length+1:Nat):Int):=by omega
  have i8:(0:Int)≤0∧(0:Int)≤((p+2:Nat):Int)∧((p+2:Nat):Int)≤((a.length+1:Nat):Int):=by omega
  have hb':=hrb.len
  rw [hbl] at hb'
  simp only [Qpd,QsS,go_sem] at hx
  simp only [iv] at hx2 hdv
  simp -implicitDefEqProofs (maxSteps:=9^8) only [Qh5,go_sem,iv,bv,w1,w2,z1,z2,hsd,hu1,hv1,hdv,hx,hx2,i1,i2,i3,i4,i5,i6,i7,i8,hra.len,hb',mapd_I,Qk2,Qal,QbV,Qak,toDs,Qfz,rowI,lq,reduceCtorEq,↓reduceIte,Nat.reduceEqDiff]

end Go.AM

