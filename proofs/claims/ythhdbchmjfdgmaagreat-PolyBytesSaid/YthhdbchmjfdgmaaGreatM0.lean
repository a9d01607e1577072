/- Part 0 of the proof: a small machine, its soundness against the model, and what the program's functions compute on it. -/
import GoSem.Core.Code
import GoSem.Core.View
import Derived.RowKit
import GoSem.Core.Region
import Derived.Below
import Derived.CallsIn
import Derived.Lib.FrozenHead
import Derived.OrdersIn
import Derived.Laws.Cells
import Derived.Tactics
set_option linter.unusedVariables false
set_option linter.unusedSimpArgs false
/- The abstract machine: data values, frames, a small program language, and its evaluator. Qr0 definitions; no program of Go in sight. -/
namespace Go.AM
open Go

abbrev Key:=List Nat

inductive D where
 | v (x:Value)
 | z (nil:Bool)
 | row (n:Nat) (cs:List D)
 | agg (cs:List D)
 | tup (cs:List D)
 | fn (f:Nat) (cap:List D)
 | rp (cs:List D)
 | rc (f:Nat) (pre:List D)
 deriving Inhabited

inductive A where
 | d (x:D)
 | own (k:Key) (n:Nat)
 | ptr (k:Key) (off:Nat)
 | ep (k:Key) (n off:Nat)
 | tup (xs:List A)
 | fn (f:Nat) (cap:List A)
 deriving Inhabited

structure Obj where
 es:Nat
 n:Nat
 cs:List A
 fz:Bool
 deriving Inhabited

abbrev Fr:=Nat→Option A
abbrev Hp:=Key→Option Obj

structure St where
 fr:Fr
 hp:Hp
 px:Key

def updO (f:Fr) (i:Nat) (x:Option A):Fr:=fun j=>if j=i then x else f j
def upd (f:Fr) (i:Nat) (x:A):Fr:=updO f i (some x)
def Qbw (h:Hp) (k:Key) (o:Option Obj):Hp:=fun j=>if j=k then o else h j
def hupd (h:Hp) (k:Key) (o:Obj):Hp:=Qbw h k (some o)
def fr0:Fr:=fun _=>none
def hp0:Hp:=fun _=>none

inductive E where
 | t (n:Nat)
 | c (x:D)
 | f (n:Nat)
 deriving Inhabited

inductive Cv where
 | int (k:IntKind)
 | b2s
 | s2b (fz:Bool)
 | id
 deriving Inhabited

inductive I where
 | mov (x:E)
 | pick (c a b:E)
 | new (zs:List D)
 | box (x:E)
 | build (zs:List D) (ps:List (Nat×Nat×E))
 | lit (es n:Nat) (zs:List D) (ps:List (Nat×E)) (fz:Bool)
 | load (sz:Option Nat) (x:E)
 | store (sz:Nat) (a x:E)
 | bin (op:BinOp) (x y:E)
 | binb (neg:Bool) (x y:E)
 | eqs (n:Nat) (neg:Bool) (x y:E)
 | un (op:UnOp) (x:E)
 | conv (c:Cv) (x:E)
 | mkfn (f:Nat) (caps:List E) (sn:Bool)
 | mksl (es by_:Nat) (zs:List D) (l c:E)
 | slc (es:Nat) (x:E) (lo hi mx:Option E)
 | sls (x:E) (lo hi:Option E)
 | fad (off:Nat) (x:E)
 | fld (off:Nat) (sz:Option Nat) (x:E)
 | ixa (es:Nat) (x i:E)
 | ixs (x i:E)
 | ext (x:E) (i:Nat)
 | call (f:Nat) (xs:List E) (ad:Bool)
 | calv (x:E) (xs:List E)
 | len (x:E)
 | lns (x:E)
 | isn (neg:Bool) (x:E)
 | app (es by_:Nat) (x y:E) (fz:Bool)
 | cpy (es:Nat) (x y:E)
 | mx (xs:List E)
 | mn (xs:List E)
 deriving Inhabited

structure O where
 dst:Option Nat
 i:I
 g:Option (Nat×Bool)
 deriving Inhabited

inductive RV where
 | t (n:Nat)
 | cell (n:Nat) (sz:Option Nat)
 deriving Inhabited

inductive C where
 | skip
 | reg (os:List O) (ck:List (E×Nat×E×Nat))
 | seq (a b:C)
 | cond (x:E) (a b:C)
 | blk (id:Nat) (c:C)
 | loop (c:C)
 | exit (id:Nat)
 | ret
 | keep (vs:List Nat) (ks:List Key)
 | frz (v:Nat)
 | rfn (x:E) (ps:List Nat) (asg body:C) (vs:List Nat) (ks:List Key)
 | inl (pre:List O) (dst:Option Nat) (x:E) (es:List E) (f:Nat) (cb:C) (rs:List RV) (np:Nat) (post:List O) (vs:List Nat) (ks ak:List Key)
 deriving Inhabited


structure CF where
 np:Nat
 body:C
 res:List RV
 deriving Inhabited

inductive R where
 | d (x:D)
 | own (es n:Nat) (cs:List D)
 deriving Inhabited

structure Env where
 ft:Nat→Option CF
 orc:Nat→List D→Option R
 it:Nat→List D→Option (List (List D))

inductive Ex where
 | n
 | x (id:Nat)
 | r
 deriving DecidableEq,Inhabited

/-! ### Small parts of the evaluator -/
def E.ev (st:St):E→Option A
 | .t n=>st.fr n
 | .c x=>some (.d x)
 | .f n=>some (.d (.fn n []))

def Qep:A:=.d (.v (.tuple #[]))

def A.data:A→Option D
 | .d x=>some x
 | _=>none

def allD:List A→Option (List D)
 | []=>some []
 | .d x :: r=>(allD r).map (x :: ·)
 | _ :: _=>none

def allE (st:St):List E→Option (List A)
 | []=>some []
 | e :: r=>(e.ev st).bind fun a=>(allE st r).map (a :: ·)

def A.int?:A→Option Int
 | .d (.v (.int _ n))=>some n
 | _=>none

def A.bool?:A→Option Bool
 | .d (.v (.bool b))=>some b
 | _=>none

def A.one:A→Bool
 | .d (.v (.agg _)) | .d (.v (.tuple _)) | .d (.agg _) | .d (.tup _) | .tup _=>false
 | _=>true

def QaA:A→List A
 | .d (.agg cs)=>cs.map .d
 | a=>[a]

def guardO {α:Type} (p:Prop) [Decidable p] (x:Option α):Option α:=if p then x else none

def binI (op:BinOp) (k:IntKind) (a b:Int):Option Value :=
 match op with
 | .add=>some (.int k (k.wrap (a+b)))
 | .sub=>some (.int k (k.wrap (a-b)))
 | .mul=>some (.int k (k.wrap (a*b)))
 | .quo=>if b=0 then none else some (.int k (k.wrap (a.tdiv b)))
 | .rem=>if b=0 then none else some (.int k (a.tmod b))
 | .eql=>some (.bool (a==b))
 | .neq=>some (.bool (a != b))
 | .lss=>some (.bool (decide (a<b)))
 | .leq=>some (.bool (decide (a≤b)))
 | .gtr=>some (.bool (decide (a>b)))
 | .geq=>some (.bool (decide (a≥b)))
 | .and=>some (.int k (k.wrap (BitVec.ofInt k.bits a &&& BitVec.ofInt k.bits b).toNat))
 | .or=>some (.int k (k.wrap (BitVec.ofInt k.bits a ||| BitVec.ofInt k.bits b).toNat))
 | .xor=>some (.int k (k.wrap (BitVec.ofInt k.bits a ^^^ BitVec.ofInt k.bits b).toNat))
 | _=>none

def shI (op:BinOp) (k:IntKind) (a b:Int):Option Value :=
 if b<0 then none else
 match op with
 | .shl=>some (.int k (k.wrap (a*2^(min b.toNat k.bits))))
 | .shr=>some (.int k (a.fdiv (2^(min b.toNat k.bits))))
 | _=>none

def shOp:BinOp→Bool
 | .shl | .shr=>true
 | _=>false

def binS (op:BinOp) (a b:ByteArray):Option Value :=
 match op with
 | .add=>if a.size+b.size≤4611686018427387904 then some (.string (a++b)) else none
 | .eql=>some (.bool (a.toList==b.toList))
 | .neq=>some (.bool !(a.toList==b.toList))
 | _=>none

def binV (op:BinOp):Value→Value→Option Value
 | .int k a,.int k' b=>if shOp op then shI op k a b else if k=k' then binI op k a b else none
 | .string a,.string b=>binS op a b
 | _,_=>none

def eqD:List D→List D→Option Bool
 | [.v (.int k a)],[.v (.int k' b)]=>if k=k' then some (a==b) else none
 | .v (.int k a) :: r,.v (.int k' b) :: s=>if k=k' then (eqD r s).map fun t=>(a==b)&&t else none
 | _,_=>none

def unV (op:UnOp):Value→Option Value
 | .int k a=>match op with
  | .neg=>some (.int k (k.wrap (0-a)))
  | .xor=>some (.int k (k.wrap (BitVec.ofInt k.bits (if k.signed then -1 else k.max) ^^^ BitVec.ofInt k.bits a).toNat))
  | _=>none
 | .bool b=>match op with
  | .not=>some (.bool !b)
  | _=>none
 | _=>none

def mxV:Value→Value→Option Value
 | .int k x,.int _ y=>some (.int k (if y>x then y else x))
 | _,_=>none

def mnV:Value→Value→Option Value
 | .int k x,.int _ y=>some (.int k (if y<x then y else x))
 | _,_=>none

def Qf8 (f:Value→Value→Option Value):Value→List A→Option Value
 | x,[]=>some x
 | x,.d (.v y) :: r=>(f x y).bind fun z=>Qf8 f z r
 | _,_=>none

def Qo8 (es:Nat):List D→List (Nat×List D)→Option (List D)
 | cs,[]=>some cs
 | cs,(i,ds) :: r=>guardO (ds.length=es∧i*es+es≤cs.length) (Qo8 es (cs.take (i*es)++ds++cs.drop (i*es+es)) r)

def rep (n:Nat) (zs:List D):List D:=(List.replicate n zs).flatten

def QbZ:A→Option (List D)
 | .d (.agg cs)=>some cs
 | .d (.v (.agg _)) | .d (.v (.tuple _)) | .d (.tup _)=>none
 | .d x=>some [x]
 | _=>none

def QgR (st:St):List (Nat×E)→Option (List (Nat×List D))
 | []=>some []
 | (i,e) :: r=>(e.ev st).bind fun a=>(QbZ a).bind fun ds=>(QgR st r).map ((i,ds) :: ·)

def Qdh:List D→List (Nat×Nat×List D)→Option (List D)
 | cs,[]=>some cs
 | cs,(off,sz,ds) :: r=>guardO (ds.length=sz∧off+sz≤cs.length) (Qdh (cs.take off++ds++cs.drop (off+sz)) r)

def QbA (st:St):List (Nat×Nat×E)→Option (List (Nat×Nat×List D))
 | []=>some []
 | (off,sz,e) :: r=>(e.ev st).bind fun a=>(QbZ a).bind fun ds=>(QbA st r).map ((off,sz,ds) :: ·)

def D.one (x:D):Bool:=(A.d x).one

def src (st:St):A→Option (Nat×List D)
 | .d (.z _)=>some (0,[])
 | .d (.row n cs)=>some (n,cs)
 | .own k n=>(st.hp k).bind fun o=>guardO (o.n=n) ((allD o.cs).map fun cs=>(n,cs))
 | .d (.v (.string s))=>some (s.size,s.data.toList.map fun b=>.v (.int .u8 b.toNat))
 | _=>none

def optI (st:St) (d:Int):Option E→Option Int
 | none=>some d
 | some e=>(e.ev st).bind A.int?

def srcS (st:St):A→Option (Nat×List D)
 | .d (.v _)=>none
 | a=>src st a

def bnds (st:St) (n:Nat) (lo hi mx:Option E):Option (Nat×Nat×Option Nat) :=
 (match mx with | none=>some none | some e=>(e.ev st).bind fun a=>a.int?.map some).bind fun m =>
 (optI st n hi).bind fun h=>(optI st 0 lo).bind fun l =>
  guardO (0≤l∧l≤h∧h≤n) (match m with
   | none=>some (l.toNat,h.toNat,none)
   | some m=>guardO (h≤m∧m≤n) (some (l.toNat,h.toNat,some m.toNat)))

def cut (es l h:Nat) (m:Option Nat) (cs:List D):D :=
 if m=some l then .z false else .row (h-l) ((cs.drop (l*es)).take ((h-l)*es))

def Qk6:List D→Option (List UInt8)
 | []=>some []
 | .v (.int .u8 n) :: r=>(Qk6 r).map (UInt8.ofNat n.toNat :: ·)
 | _=>none

def Qab (sz:Option Nat) (off:Nat) (cs:List A):Option A :=
 match sz with
 | none=>cs[off]?
 | some s=>guardO (off+s≤cs.length) ((allD ((cs.drop off).take s)).map fun ds=>.d (.agg ds))

def QjV (sz:Option Nat) (cs:List D):Option A :=
 match sz with
 | none=>cs.head?.map .d
 | some s=>guardO (s≤cs.length) (some (.d (.agg (cs.take s))))

def Qac (off:Nat) (new cs:List A):Option (List A) :=
 guardO (off+new.length≤cs.length) (some (cs.take off++new++cs.drop (off+new.length)))

def bound:Nat:=140737488351232

def Key.isIn (k:Key) (ks:List Key):Bool:=ks.any fun q=>decide (q=k)

def snap (st:St):List A→Option (List D)
 | []=>some []
 | .ptr k 0 :: r=>(st.hp k).bind fun o=>(allD o.cs).bind fun ds=>(snap st r).map (.rp ds :: ·)
 | .d x :: r=>(snap st r).map (x :: ·)
 | _=>none

def Qdq (h:Hp):List A→Hp
 | []=>h
 | .ptr k 0 :: r=>Qdq (match h k with | some o=>hupd h k { o with fz:=true } | none=>h) r
 | _ :: r=>Qdq h r

def D.flat:D→Bool
 | .v _=>true
 | _=>false

def argD (st:St):A→Option (D×Bool)
 | .d x=>some (x,true)
 | .own k n=>(st.hp k).bind fun o=>guardO (o.n=n) ((allD o.cs).map fun cs=>(.row n cs,o.fz))
 | _=>none

def QiD (st:St):List A→Option (List D×Bool)
 | []=>some ([],true)
 | a :: r=>(argD st a).bind fun (x,b)=>(QiD st r).map fun (xs,c)=>(x :: xs,b&&c)

def lenA:A→Option Nat
 | .d (.z _)=>some 0
 | .d (.row n _)=>some n
 | .own _ n=>some n
 | _=>none

def Qco (h:Hp) (sz:Option Nat):A→Option A
 | .ptr k off=>(h k).bind fun o=>Qab sz off o.cs
 | .ep k n off=>(h k).bind fun o=>guardO (o.n=n) (Qab sz off o.cs)
 | .d (.rp cs)=>QjV sz cs
 | .d (.rc f pre)=>guardO (sz=none) (some (.d (.fn f (pre++[.rc f pre]))))
 | _=>none

def fadA (off:Nat):A→Option A
 | .ptr q o=>some (.ptr q (o+off))
 | .ep q n o=>some (.ep q n (o+off))
 | .d (.rp cs)=>some (.d (.rp (cs.drop off)))
 | _=>none

def ixaA (h:Hp) (es:Nat) (j:Int):A→Option A
 | .d (.row n cs)=>guardO (0≤j∧j<n) (some (.d (.rp (cs.drop (j.toNat*es)))))
 | .own q n=>(h q).bind fun o=>guardO (o.n=n∧0≤j∧j<n) (some (.ep q n (j.toNat*es)))
 | _=>none

def Qgo (h:Hp) (v:A):A→Option Hp
 | .ptr k off=>(h k).bind fun o=>guardO (o.fz=false) ((Qac off (QaA v) o.cs).map fun cs=>hupd h k { o with cs })
 | .ep k n off=>(h k).bind fun o=>guardO (o.fz=false∧o.n=n) ((allD (QaA v)).bind fun _=>(Qac off (QaA v) o.cs).map fun cs=>hupd h k { o with cs })
 | _=>none

def slcA (st:St) (es:Nat) (lo hi mx:Option E):A→Option D
 | .d (.z b)=>(bnds st 0 lo hi mx).map fun _=>.z b
 | .d (.row n cs)=>(bnds st n lo hi mx).map fun (l,h,m)=>cut es l h m cs
 | _=>none

def strA:A→Option ByteArray
 | .d (.v (.string s))=>some s
 | _=>none

def valA:A→Option Value
 | .d (.v x)=>some x
 | _=>none

def aggA:A→Option (List D)
 | .d (.agg cs)=>some cs
 | _=>none

def extA (i:Nat):A→Option A
 | .tup xs=>xs[i]?
 | .d (.tup xs)=>(xs[i]?).map .d
 | _=>none

def fnA:A→Option (Nat×List D)
 | .d (.fn f cap)=>some (f,cap)
 | _=>none

def isnA:A→Option Bool
 | .d (.z true)=>some true
 | .d (.row _ _)=>some false
 | _=>none

def mkA (k:Key) (h:Hp) (fz:Bool) (es n:Nat) (cs:List D):Option (A×Hp) :=
 if fz then some (.d (.row n cs),h) else guardO ((h k).isNone=true) (some (.own k n,hupd h k ⟨es,n,cs.map .d,false⟩))

def appA (k:Key) (h:Hp) (fz:Bool) (es by_ m:Nat) (ys:List D):A→Option (A×Hp)
  | .d (.z b)=>guardO (m*by_≤bound∧ys.length=m*es) (if m=0 then some (.d (.z b),h) else mkA k h fz es m ys)
  | .own q n => (h q).bind fun o => guardO (o.n = n ∧ o.fz = false ∧ o.es = es ∧ o.cs.length = n * es ∧ (n + m) * by_ ≤ bound ∧ ys.length = m * es ∧ ys.all D.one = true)
      (if fz then (allD o.cs).map fun cs=>(.d (.row (n+m) (cs++ys)),hupd h q ⟨es,n+m,o.cs++ys.map .d,true⟩)
       else some (.own q (n+m),hupd h q ⟨es,n+m,o.cs++ys.map .d,false⟩))
  | _=>none

def cpyA (h:Hp) (es m:Nat) (ys:List D):A→Option (Nat×Hp)
  | .own q n => (h q).bind fun o => guardO (o.n = n ∧ o.fz = false ∧ o.es = es ∧ o.cs.length = n * es ∧ ys.length = m * es ∧ ys.all D.one = true)
      (some (min m n,hupd h q { o with cs:=(ys.take (min m n*es)).map .d++o.cs.drop (min m n*es) }))
  | .d (.z _)=>guardO (ys.length=m*es) (some (0,h))
  | _=>none

def retA (k:Key) (h:Hp) (ad fz:Bool):R→Option (A×Hp)
 | .d x=>guardO (fz=true∨x.flat=true) (some (.d x,h))
 | .own es n cs=>guardO (fz=true) (mkA k h (!ad) es n cs)

def iA (n:Int):A:=.d (.v (.int .i64 n))

def act (cl:Nat→List D→Option R) (k:Key) (st:St):I→Option (A×Hp)
  | .mov x=>(x.ev st).map (·,st.hp)
  | .pick c a b=>(c.ev st).bind fun v=>v.bool?.bind fun t=>(if t then a.ev st else b.ev st).map (·,st.hp)
  | .new zs=>guardO ((st.hp k).isNone=true) (some (.ptr k 0,hupd st.hp k ⟨0,0,zs.map .d,false⟩))
  | .box x=>(x.ev st).bind fun v=>guardO ((st.hp k).isNone=true∧(QaA v).all A.one=true) (some (.ptr k 0,hupd st.hp k ⟨0,0,QaA v,false⟩))
  | .build zs ps=>(QbA st ps).bind fun q=>(Qdh zs q).map fun cs=>(.d (.agg cs),st.hp)
  | .lit es n zs ps fz=>(QgR st ps).bind fun q=>(Qo8 es (rep n zs) q).bind fun cs=>mkA k st.hp fz es n cs
  | .load sz x=>(x.ev st).bind fun a=>(Qco st.hp sz a).map (·,st.hp)
  | .store sz a x=>(a.ev st).bind fun p=>(x.ev st).bind fun v=>guardO ((QaA v).length=sz∧(QaA v).all A.one=true) ((Qgo st.hp v p).map fun h=>(Qep,h))
  | .bin op x y=>(x.ev st).bind fun a=>(y.ev st).bind fun b=>(valA a).bind fun u=>(valA b).bind fun v=>(binV op u v).map fun r=>(.d (.v r),st.hp)
  | .binb neg x y=>(x.ev st).bind fun a=>(y.ev st).bind fun b=>a.bool?.bind fun u=>b.bool?.map fun v=>(.d (.v (.bool (if neg then !(u==v) else u==v))),st.hp)
  | .eqs n neg x y=>(x.ev st).bind fun a=>(y.ev st).bind fun b=>(aggA a).bind fun u=>(aggA b).bind fun v=>guardO (u.length=n) ((eqD u v).map fun r=>(.d (.v (.bool (if neg then !r else r))),st.hp))
  | .un op x=>(x.ev st).bind fun a=>(valA a).bind fun u=>(unV op u).map fun r=>(.d (.v r),st.hp)
  | .conv c x => (x.ev st).bind fun a =>
      match c with
      | .int kd=>a.int?.map fun n=>(.d (.v (.int kd (kd.wrap n))),st.hp)
      | .b2s=>(srcS st a).bind fun p=>guardO (p.2.length=p.1) ((Qk6 p.2).map fun bs=>(.d (.v (.string ⟨bs.toArray⟩)),st.hp))
      | .s2b fz=>(strA a).bind fun s=>mkA k st.hp fz 1 s.size (s.data.toList.map fun b=>.v (.int .u8 b.toNat))
      | .id=>none
  | .mkfn f caps sn => (allE st caps).bind fun as =>
      if sn then (snap st as).map fun ds=>(.d (.fn f ds),Qdq st.hp as)
      else match allD as with
        | some ds=>some (.d (.fn f ds),st.hp)
        | none=>some (.fn f as,st.hp)
  | .mksl es by_ zs l c => (l.ev st).bind fun a => (c.ev st).bind fun b => a.int?.bind fun n => b.int?.bind fun m =>
      guardO (n=m∧0≤n∧n*by_≤bound) (mkA k st.hp false es n.toNat (rep n.toNat zs))
  | .slc es x lo hi mx=>(x.ev st).bind fun a=>(slcA st es lo hi mx a).map fun d=>(.d d,st.hp)
  | .sls x lo hi=>(x.ev st).bind fun a=>(strA a).bind fun s=>(bnds st s.size lo hi none).map fun p=>(.d (.v (.string (s.extract p.1 p.2.1))),st.hp)
  | .fad off x=>(x.ev st).bind fun a=>(fadA off a).map (·,st.hp)
  | .fld off sz x=>(x.ev st).bind fun a=>(aggA a).bind fun cs=>(QjV sz (cs.drop off)).map (·,st.hp)
  | .ixa es x i=>(x.ev st).bind fun a=>(i.ev st).bind fun b=>b.int?.bind fun j=>(ixaA st.hp es j a).map (·,st.hp)
  | .ixs x i => (x.ev st).bind fun a => (i.ev st).bind fun b => b.int?.bind fun j => (strA a).bind fun s =>
      guardO (0≤j∧j<s.size) (some (.d (.v (.int .u8 (s.data.toList.getD j.toNat 0).toNat)),st.hp))
  | .ext x i=>(x.ev st).bind fun a=>(extA i a).map (·,st.hp)
  | .call f xs ad=>(allE st xs).bind fun as=>(QiD st as).bind fun p=>(cl f p.1).bind fun r=>retA k st.hp ad p.2 r
  | .calv x xs=>(x.ev st).bind fun a=>(fnA a).bind fun q=>(allE st xs).bind fun as=>(QiD st as).bind fun p=>(cl q.1 (p.1++q.2)).bind fun r=>retA k st.hp false p.2 r
  | .len x=>(x.ev st).bind fun a=>(lenA a).map fun (n:Nat)=>(iA (Int.ofNat n),st.hp)
  | .lns x=>(x.ev st).bind fun a=>(strA a).map fun s=>(iA s.size,st.hp)
  | .isn neg x=>(x.ev st).bind fun a=>(isnA a).map fun b=>(.d (.v (.bool (if neg then !b else b))),st.hp)
  | .app es by_ x y fz=>(x.ev st).bind fun a=>(y.ev st).bind fun b=>(if es=1 then src st b else srcS st b).bind fun p=>appA k st.hp fz es by_ p.1 p.2 a
  | .cpy es x y=>(x.ev st).bind fun a=>(y.ev st).bind fun b=>(if es=1 then src st b else srcS st b).bind fun p=>(cpyA st.hp es p.1 p.2 a).map fun q=>(iA q.1,q.2)
  | .mx xs => (allE st xs).bind fun
      | .d (.v x) :: r=>(Qf8 mxV x r).map fun v=>(.d (.v v),st.hp)
      | _=>none
  | .mn xs => (allE st xs).bind fun
      | .d (.v x) :: r=>(Qf8 mnV x r).map fun v=>(.d (.v v),st.hp)
      | _=>none

def Qdi (st:St) (g:Option (Nat×Bool)):Option Bool :=
 match g with
 | none=>some true
 | some (t,b)=>(st.fr t).map fun a=>decide (a.bool?=some b)

def putO (fr:Fr) (dst:Option Nat) (x:A):Fr :=
 match dst with
 | none=>fr
 | some d=>upd fr d x

def exO (cl:Nat→List D→Option R) (st:St) (o:O):Option St :=
 (Qdi st o.g).bind fun w =>
  if w then (act cl ((o.dst.getD 0) :: st.px) st o.i).map fun (x,h)=>{ st with fr:=putO st.fr o.dst x,hp:=h }
  else some { st with fr:=putO st.fr o.dst Qep }

def exs (cl:Nat→List D→Option R):List O→St→Option St
 | [],st=>some st
 | o :: os,st=>(exO cl st o).bind (exs cl os)

def QbF (st:St):E×Nat×E×Nat→Bool
 | (a,s,b,t)=>match a.ev st,b.ev st with
  | some (.ptr k o),some (.ptr q p)=>decide (k≠q)||decide (o+s≤p)||decide (p+t≤o)
  | some (.d (.rp _)),some (.ptr _ _)=>true
  | some (.d _),some (.d _)=>true
  | _,_=>false


mutual
def refs (ks:List Key):A→Bool
 | .d _=>true
 | .own k _ | .ptr k _ | .ep k _ _=>k.isIn ks
 | .tup xs=>Qdg ks xs
 | .fn _ xs=>Qdg ks xs
def Qdg (ks:List Key):List A→Bool
 | []=>true
 | a :: r=>refs ks a&&Qdg ks r
end

def Ql9 (fr:Fr):List Nat→Fr
 | []=>fr0
 | v :: vs=>updO (Ql9 fr vs) v (fr v)

def refsO (ks:List Key):Option A→Bool
 | none=>true
 | some a=>refs ks a

def Qi9 (fr:Fr) (ks:List Key):List Nat→Bool
 | []=>true
 | v :: vs=>refsO ks (fr v)&&Qi9 fr ks vs

def Qla (hp:Hp):List Key→Hp
 | []=>hp0
 | k :: ks=>Qbw (Qla hp ks) k (hp k)

def refsOO (ks:List Key):Option Obj→Bool
 | none=>true
 | some o=>Qdg ks o.cs

def QgD (hp:Hp) (ks:List Key):List Key→Bool
 | []=>true
 | k :: r=>refsOO ks (hp k)&&QgD hp ks r

def QhK (st:St) (vs:List Nat) (ks:List Key):Option St :=
 guardO (Qi9 st.fr ks vs=true∧QgD st.hp ks ks=true) (some { st with fr:=Ql9 st.fr vs,hp:=Qla st.hp ks })

def QdG (st:St) (v:Nat):Option St :=
 (st.fr v).bind fun
  | .own k n=>(st.hp k).bind fun o=>guardO (o.n=n) ((allD o.cs).map fun cs=>{ st with fr:=upd st.fr v (.d (.row n cs)),hp:=hupd st.hp k { o with fz:=true } })
  | .d _=>some st
  | _=>none

def putL (fr:Fr):List Nat→List D→Fr
 | p :: ps,x :: xs=>putL (upd fr p (.d x)) ps xs
 | _,_=>fr

def QmA (fr:Fr) (vs:List Nat):Bool:=vs.all fun v=>match fr v with
 | none | some (.d _) | some (.ptr _ _)=>true
 | _=>false

def C.holds (ks:List Key):C→Bool
 | .seq a b=>a.holds ks&&b.holds ks
 | .cond _ a b=>a.holds ks&&b.holds ks
 | .blk _ c | .loop c=>c.holds ks
 | .keep _ ks'=>ks.all fun k=>k.isIn ks'
 | .rfn ..=>false
 | .inl _ _ _ _ _ _ _ _ _ _ ks' _=>ks.all fun k=>k.isIn ks'
 | _=>true

def resV (st:St):RV→Option A
  | .t n=>st.fr n
  | .cell n sz => (st.fr n).bind fun
      | .ptr k off=>(st.hp k).bind fun o=>Qab sz off o.cs
      | .d (.rp cs)=>QjV sz cs
      | _=>none

def resL (st:St):List RV→Option (List A)
 | []=>some []
 | r :: rs=>(resV st r).bind fun a=>(resL st rs).map (a :: ·)

/-! ### A call that shares the caller's boxes -/
def calA:A→Option (Nat×List A)
 | .d (.fn f cs)=>some (f,cs.map .d)
 | .fn f cs=>some (f,cs)
 | _=>none
def Qnm:Nat→List A→Fr
 | _,[]=>fr0
 | i,x :: r=>upd (Qnm (i+1) r) i x
def asideO:Option Obj→Bool
 | none=>true
 | some o=>!o.fz&&decide (0<o.es)&&(allD o.cs).isSome
def capO (ks:List Key):A→Bool
 | .d _=>true
 | .ptr k _=>k.isIn ks
 | _=>false
def waitO (ks ak:List Key):Option A→Bool
 | none | some (.d _)=>true
 | some (.ptr k _)=>k.isIn ks
 | some (.own k _)=>k.isIn ak
 | some (.fn _ xs)=>xs.all (capO ks)
 | _=>false
def Qr7 (st:St) (vs:List Nat) (ks ak:List Key):Option St :=
 guardO ((vs.all fun v=>waitO ks ak (st.fr v))=true∧QgD st.hp ks ks=true∧(ak.all fun k=>asideO (st.hp k)&&!(k.isIn ks))=true) (some { st with fr:=Ql9 st.fr vs,hp:=Qla st.hp ks })
def Qfl (h hp:Hp):List Key→Hp
 | []=>h
 | k :: r=>Qbw (Qfl h hp r) k (hp k)
def goneO:Option Obj→Bool
 | none=>true
 | some _=>false
def resA:List A→A
 | [x]=>x
 | xs=>.tup xs
def Ex.fin:Ex→Bool
 | .x _=>false
 | _=>true

def Qex (f:C→St→Option (Ex×St)) (ps:List Nat) (asg body:C) (fr:Fr) (px:Key):List (List D)→Hp→Option (Ex×St)
  | [],h=>some (.n,⟨fr,h,px⟩)
  | x :: xs, h => guardO (x.length = ps.length) ((f asg ⟨putL fr ps x, h, px⟩).bind fun p => guardO (p.1 = .n) ((f body p.2).bind fun q =>
      (if q.1=.n then Qex f ps asg body fr px xs q.2.hp else some (q.1,⟨fr,q.2.hp,px⟩))))

def run (it:Nat→List D→Option (List (List D))) (cl:Nat→List D→Option R):Nat→C→St→Option (Ex×St)
 | 0,_,_=>none
 | k+1,c,st=>match c with
  | .skip=>some (.n,st)
  | .reg os ck=>(exs cl os st).bind fun s=>guardO (ck.all (QbF s)=true) (some (.n,s))
  | .seq a b=>(run it cl k a st).bind fun (e,s)=>if e=.n then run it cl k b s else some (e,s)
  | .cond x a b=>(x.ev st).bind fun v=>v.bool?.bind fun t=>if t then run it cl k a st else run it cl k b st
  | .blk id c=>(run it cl k c st).map fun (e,s)=>if e=.x id then (.n,s) else (e,s)
  | .loop c=>(run it cl k c st).bind fun (e,s)=>if e=.n then run it cl k (.loop c) s else some (e,s)
  | .exit id=>some (.x id,st)
  | .ret=>some (.r,st)
  | .keep vs ks=>(QhK st vs ks).map (Ex.n,·)
  | .frz v=>(QdG st v).map (Ex.n,·)
  | .inl pre dst x es f cb rs np post vs ks ak=>(exs cl pre st).bind fun s1=>(x.ev s1).bind fun a=>(calA a).bind fun q=>(allE s1 es).bind fun as=>guardO (q.1=f∧(as++q.2).length=np∧Qdg ks (as++q.2)=true∧cb.holds ks=true) ((Qr7 s1 vs ks ak).bind fun s2=>(run it cl k cb ⟨Qnm 0 (as++q.2),s2.hp,0 :: s2.px⟩).bind fun p=>guardO (p.1.fin=true∧(ak.all fun k=>goneO (p.2.hp k))=true) ((resL p.2 rs).bind fun rv=>(exs cl post ⟨putO s2.fr dst (resA rv),Qfl p.2.hp s1.hp ak,s2.px⟩).map (Ex.n,·)))
  | .rfn x ps asg body vs ks=>(x.ev st).bind fun a=>(fnA a).bind fun q=>(it q.1 q.2).bind fun xs=>(QhK st vs ks).bind fun s=>guardO ((QmA s.fr vs&&asg.holds ks&&body.holds ks)=true) (Qex (run it cl k) ps asg body s.fr s.px xs s.hp)

def toD (st:St):A→Option D
 | .d x=>some x
 | .own k n=>(st.hp k).bind fun o=>guardO (o.n=n) ((allD o.cs).map fun cs=>.row n cs)
 | _=>none

def toDs (st:St):List A→Option (List D)
 | []=>some []
 | a :: r=>(toD st a).bind fun x=>(toDs st r).map (x :: ·)

def Qmx (st:St) (rs:List RV):Option R :=
 (resL st rs).bind fun
  | [.own k n]=>(st.hp k).bind fun o=>guardO (o.n=n) ((allD o.cs).map fun cs=>if o.fz then .d (.row n cs) else .own o.es n cs)
  | [.d x]=>some (.d x)
  | as=>(toDs st as).map fun ds=>.d (.tup ds)

def argF:Nat→List D→Fr
 | _,[]=>fr0
 | i,x :: r=>upd (argF (i+1) r) i (.d x)

def QdO (Γ:Env):Nat→Nat→List D→Option R
  | 0,f,ds=>match Γ.ft f with
    | none=>Γ.orc f ds
    | some _=>none
  | k+1,f,ds=>match Γ.ft f with
    | none=>Γ.orc f ds
    | some cf => guardO (ds.length = cf.np) ((run Γ.it (QdO   Γ k) k cf.body ⟨argF 0 ds, hp0, []⟩).bind fun (e, st) =>
        match e with
        | .x _=>none
        | _=>Qmx st cf.res)
end Go.AM

/- The evaluator's limit over the number of Qex, and its equations. -/
namespace Go.AM
open Go

def LeO {α:Type} (x y:Option α):Prop:=∀ r,x=some r→y=some r

theorem LeO.refl {α:Type} (x:Option α):LeO x x:=fun _ h=>h
theorem LeO.trans {α:Type} {x y z:Option α} (h:LeO x y) (h':LeO y z):LeO x z:=fun r hr=>h' r (h r hr)
theorem LeO.none {α:Type} (y:Option α):LeO none y:=fun _ h=>by cases h
theorem LeO.bind {α β:Type} {x y:Option α} {f g:α→Option β} (h:LeO x y) (hf:∀ a,LeO (f a) (g a)):LeO (x.bind f) (y.bind g):=by
 intro r hr
 cases x with
 | none=>cases hr
 | some a=>rw [h a rfl];exact hf a r hr
theorem LeO.map {α β:Type} {x y:Option α} {f:α→β} (h:LeO x y):LeO (x.map f) (y.map f):=by
 intro r hr
 cases x with
 | none=>cases hr
 | some a=>rw [h a rfl];exact hr
theorem LeO.guardO {α:Type} {p:Prop} [Decidable p] {x y:Option α} (h:LeO x y):LeO (guardO p x) (AM.guardO p y):=by
  intro r hr
  unfold AM.guardO at *
  split at hr
  · rename_i hp;rw [if_pos hp];exact h r hr
  · cases hr

abbrev Cl:=Nat→List D→Option R
abbrev It:=Nat→List D→Option (List (List D))
def Cl.le (a b:Cl):Prop:=∀ f ds,LeO (a f ds) (b f ds)

theorem act_mono {a b:Cl} (h:a.le b) (k:Key) (st:St) (i:I):LeO (act a k st i) (act b k st i):=by
 cases i<;>first
  | exact LeO.refl _
  | (unfold act;exact LeO.bind (LeO.refl _) fun as=>LeO.bind (LeO.refl _) fun _=>LeO.bind (h _ _) fun _=>LeO.refl _)
  | (unfold act;exact LeO.bind (LeO.refl _) fun _=>LeO.bind (LeO.refl _) fun _=>LeO.bind (LeO.refl _) fun as=>LeO.bind (LeO.refl _) fun _=>LeO.bind (h _ _) fun _=>LeO.refl _)

theorem Qrn {a b:Cl} (h:a.le b) (st:St) (o:O):LeO (exO a st o) (exO b st o):=by
 unfold exO
 refine LeO.bind (LeO.refl _) fun w=>?_
 cases w
 ·exact LeO.refl _
 ·exact LeO.map (act_mono h _ _ _)

theorem QcJ {a b:Cl} (h:a.le b):∀ (os:List O) (st:St),LeO (exs a os st) (exs b os st)
 | [],_=>LeO.refl _
 | o :: os,st=>LeO.bind (Qrn h st o) fun s=>QcJ h os s

theorem QeP {f g:C→St→Option (Ex×St)} (h:∀ c st,LeO (f c st) (g c st)) {ps:List Nat} {x y:C} {fr:Fr} {px:Key}:∀ (xs:List (List D)) (hp:Hp),LeO (Qex f ps x y fr px xs hp) (Qex g ps x y fr px xs hp)
  | [],_=>LeO.refl _
  | _ :: xs, _ => LeO.guardO (LeO.bind (h _ _) fun _ => LeO.guardO (LeO.bind (h _ _) fun q => (by
      split
      · exact QeP h xs _
      · exact LeO.refl _)))

theorem Qd2 {it:It} {a b:Cl} (h:a.le b):∀ (k:Nat) (c:C) (st:St),LeO (run it a k c st) (run it b (k+1) c st)
 | 0,_,_=>LeO.none _
 | k+1,c,st=>by
  cases c with
  | skip=>exact LeO.refl _
  | reg os ck=>exact LeO.bind (QcJ h os st) fun _=>LeO.refl _
  | seq x y =>
   refine LeO.bind (Qd2 h k x st) fun ⟨e,s⟩=>?_
   dsimp only
   split
   ·exact Qd2 h k y s
   ·exact LeO.refl _
  | cond x u v =>
   refine LeO.bind (LeO.refl _) fun _=>LeO.bind (LeO.refl _) fun t=>?_
   cases t
   ·exact Qd2 h k v st
   ·exact Qd2 h k u st
  | blk id x=>exact LeO.map (Qd2 h k x st)
  | loop x =>
   refine LeO.bind (Qd2 h k x st) fun ⟨e,s⟩=>?_
   dsimp only
   split
   ·exact Qd2 h k (.loop x) s
   ·exact LeO.refl _
  | exit id=>exact LeO.refl _
  | ret=>exact LeO.refl _
  | keep vs ks=>exact LeO.refl _
  | frz v=>exact LeO.refl _
  | rfn x ps a b vs ks=>exact LeO.bind (LeO.refl _) fun _=>LeO.bind (LeO.refl _) fun _=>LeO.bind (LeO.refl _) fun _=>LeO.bind (LeO.refl _) fun _=>LeO.guardO (QeP (fun c st=>Qd2 h k c st) _ _)
  | inl pre dst x es f cb rs np post vs ks ak=>exact LeO.bind (QcJ h pre st) fun _=>LeO.bind (LeO.refl _) fun _=>LeO.bind (LeO.refl _) fun _=>LeO.bind (LeO.refl _) fun _=>LeO.guardO (LeO.bind (LeO.refl _) fun _=>LeO.bind (Qd2 h k cb _) fun _=>LeO.guardO (LeO.bind (LeO.refl _) fun _=>LeO.map (QcJ h post _)))

theorem Cl.le_refl (a:Cl):a.le a:=fun _ _=>LeO.refl _

theorem Qc0 {it:It} {a b:Cl} (h:a.le b) {k k':Nat} (hk:k≤k') (c:C) (st:St):LeO (run it a k c st) (run it b k' c st):=by
 obtain ⟨d,rfl⟩:∃ d,k'=k+d:=⟨k'-k,by omega⟩
 clear hk
 induction d generalizing b with
 | zero =>
  cases k with
  | zero=>exact LeO.none _
  | succ k =>
   -- one way: the same Qex
   have key:∀ (k:Nat) (c:C) (st:St),LeO (run it a k c st) (run it b k c st):=by
    intro k
    induction k with
    | zero=>exact fun _ _=>LeO.none _
    | succ k ih =>
     intro c st
     cases c with
     | skip=>exact LeO.refl _
     | reg os ck=>exact LeO.bind (QcJ h os st) fun _=>LeO.refl _
     | seq x y =>
      refine LeO.bind (ih x st) fun ⟨e,s⟩=>?_
      dsimp only
      split
      ·exact ih y s
      ·exact LeO.refl _
     | cond x u v =>
      refine LeO.bind (LeO.refl _) fun _=>LeO.bind (LeO.refl _) fun t=>?_
      cases t
      ·exact ih v st
      ·exact ih u st
     | blk id x=>exact LeO.map (ih x st)
     | loop x =>
      refine LeO.bind (ih x st) fun ⟨e,s⟩=>?_
      dsimp only
      split
      ·exact ih (.loop x) s
      ·exact LeO.refl _
     | exit id=>exact LeO.refl _
     | ret=>exact LeO.refl _
     | keep vs ks=>exact LeO.refl _
     | frz v=>exact LeO.refl _
     | rfn x ps a b vs ks=>exact LeO.bind (LeO.refl _) fun _=>LeO.bind (LeO.refl _) fun _=>LeO.bind (LeO.refl _) fun _=>LeO.bind (LeO.refl _) fun _=>LeO.guardO (QeP (fun c st=>ih c st) _ _)
     | inl pre dst x es f cb rs np post vs ks ak=>exact LeO.bind (QcJ h pre st) fun _=>LeO.bind (LeO.refl _) fun _=>LeO.bind (LeO.refl _) fun _=>LeO.bind (LeO.refl _) fun _=>LeO.guardO (LeO.bind (LeO.refl _) fun _=>LeO.bind (ih cb _) fun _=>LeO.guardO (LeO.bind (LeO.refl _) fun _=>LeO.map (QcJ h post _)))
   exact key _ _ _
 | succ d ih=>exact LeO.trans (ih h) (Qd2 (Cl.le_refl b) _ _ _)

section
variable {Γ:Env}

theorem Qlf:∀ k,Cl.le (QdO Γ k) (QdO Γ (k+1))
 | 0,f,ds=>by
  unfold QdO
  cases hf:Γ.ft f with
  | none=>exact LeO.refl _
  | some cf=>exact LeO.none _
 | k+1,f,ds=>by
  show LeO (QdO Γ (k+1) f ds) (QdO Γ (k+2) f ds)
  unfold QdO
  cases hf:Γ.ft f with
  | none=>exact LeO.refl _
  | some cf =>
   exact LeO.guardO (LeO.bind (Qc0 (Qlf k) (Nat.le_succ k) _ _) fun _=>LeO.refl _)

theorem Qa6 {k k':Nat} (hk:k≤k'):Cl.le (QdO Γ k) (QdO Γ k'):=by
 obtain ⟨d,rfl⟩:∃ d,k'=k+d:=⟨k'-k,by omega⟩
 clear hk
 induction d with
 | zero=>exact Cl.le_refl _
 | succ d ih=>exact fun f ds=>LeO.trans (ih f ds) (Qlf _ f ds)
end

open Classical in
noncomputable def lim {α:Type} (g:Nat→Option α):Option α :=
 if h:∃ k,(g k).isSome=true then g (Classical.choose h) else none

theorem Qrm {α:Type} {g:Nat→Option α} (hm:∀ k k',k≤k'→LeO (g k) (g k')) {r:α}:lim g=some r↔∃ k,g k=some r:=by
  unfold lim
  constructor
  · intro h
    split at h
    · exact ⟨_,h⟩
    · cases h
  · rintro ⟨k,hk⟩
    have he:∃ k,(g k).isSome=true:=⟨k,by rw [hk];rfl⟩
    rw [dif_pos he]
    have hs:=Classical.choose_spec he
    obtain ⟨r',hr'⟩:=Option.isSome_iff_exists.mp hs
    rcases Nat.le_total k (Classical.choose he) with hle | hle
    · exact hm _ _ hle r hk
    · have:=hm _ _ hle r' hr'
      rw [hk] at this
      rw [hr']
      exact this.symm

noncomputable def Qah (Γ:Env):Cl:=fun f ds=>lim fun k=>QdO Γ k f ds
noncomputable def X (Γ:Env) (c:C) (st:St):Option (Ex×St):=lim fun k=>run Γ.it (QdO Γ k) k c st

section
variable {Γ:Env}

theorem callX_some {f:Nat} {ds:List D} {r:R}:Qah Γ f ds=some r↔∃ k,QdO Γ k f ds=some r :=
 Qrm fun _ _ hk=>Qa6 hk f ds
theorem X_some {c:C} {st:St} {r:Ex×St}:X Γ c st=some r↔∃ k,run Γ.it (QdO Γ k) k c st=some r :=
 Qrm fun _ _ hk=>Qc0 (Qa6 hk) hk c st

theorem QjM (k:Nat):Cl.le (QdO Γ k) (Qah Γ):=fun _ _ _ h=>callX_some.2 ⟨k,h⟩

theorem QfK {α:Type} {x y:Option α} (h:∀ r,x=some r↔y=some r):x=y:=by
 cases x with
 | none=>cases y with
  | none=>rfl
  | some b=>exact ((h b).2 rfl)
 | some a=>exact ((h a).1 rfl).symm

theorem Qqy      (cl:Cl) (k:Key) (st:St) (f:Nat) (xs:List E) (ad:Bool):act cl k st (.call f xs ad) =
    (allE st xs).bind fun as=>(QiD st as).bind fun p=>(cl f p.1).bind fun r=>retA k st.hp ad p.2 r:=rfl
theorem Qrf      (cl:Cl) (k:Key) (st:St) (x:E) (xs:List E):act cl k st (.calv x xs) =
    (x.ev st).bind fun a=>(fnA a).bind fun q=>(allE st xs).bind fun as=>(QiD st as).bind fun p=>(cl q.1 (p.1++q.2)).bind fun r=>retA k st.hp false p.2 r:=rfl

theorem act_X {k:Key} {st:St} {i:I} {r:A×Hp} (h:act (Qah Γ) k st i=some r):∃ n,act (QdO Γ n) k st i=some r:=by
 cases i
 case call f xs ad =>
  rw [Qqy] at h
  simp only [Option.bind_eq_some_iff] at h
  obtain ⟨as,h1,⟨ds,fz⟩,h2,x,h3,h4⟩:=h
  obtain ⟨n,hn⟩:=callX_some.1 h3
  refine ⟨n, ?_⟩
  rw [Qqy,h1,Option.bind_some,h2,Option.bind_some]
  dsimp only
  rw [hn,Option.bind_some]
  exact h4
 case calv x xs =>
  rw [Qrf] at h
  simp only [Option.bind_eq_some_iff] at h
  obtain ⟨a,h0,q,h1,as,h2,p,h3,r',h4,h5⟩:=h
  obtain ⟨n,hn⟩:=callX_some.1 h4
  refine ⟨n, ?_⟩
  rw [Qrf,h0,Option.bind_some,h1,Option.bind_some,h2,Option.bind_some,h3,Option.bind_some,hn,Option.bind_some]
  exact h5
 all_goals exact ⟨0,h⟩

theorem exO_X {st:St} {o:O} {r:St} (h:exO (Qah Γ) st o=some r):∃ n,exO (QdO Γ n) st o=some r:=by
 unfold exO at h
 simp only [Option.bind_eq_some_iff] at h
 obtain ⟨w,h1,h2⟩:=h
 cases w
 ·exact ⟨0,by unfold exO;rw [h1];exact h2⟩
 ·simp only [if_true,Option.map_eq_some_iff] at h2
  obtain ⟨⟨x,hh⟩,h2,h3⟩:=h2
  obtain ⟨n,hn⟩:=act_X h2
  exact ⟨n,by unfold exO;rw [h1];simp only [Option.bind_some,if_true,hn,Option.map_some];exact congrArg some h3⟩

theorem exs_X:∀ {os:List O} {st r:St},exs (Qah Γ) os st=some r→∃ n,exs (QdO Γ n) os st=some r
 | [],_,_,h=>⟨0,h⟩
 | o :: os,st,r,h=>by
  unfold exs at h
  simp only [Option.bind_eq_some_iff] at h
  obtain ⟨s,h1,h2⟩:=h
  obtain ⟨n,hn⟩:=exO_X h1
  obtain ⟨m,hm⟩:=exs_X h2
  refine ⟨max n m, ?_⟩
  unfold exs
  rw [Qrn (Qa6 (Nat.le_max_left n m)) _ _ _ hn]
  exact QcJ (Qa6 (Nat.le_max_right n m)) _ _ _ hm

theorem X_of {c:C} {st:St} {r:Ex×St} {k k':Nat} (h:run Γ.it (QdO Γ k) k' c st=some r):X Γ c st=some r :=
 X_some.2 ⟨max k k',Qc0 (Qa6 (Nat.le_max_left k k')) (Nat.le_max_right k k') c st r h⟩

theorem X_skip (st:St):X Γ .skip st=some (.n,st):=X_some.2 ⟨1,rfl⟩
theorem X_exit (id:Nat) (st:St):X Γ (.exit id) st=some (.x id,st):=X_some.2 ⟨1,rfl⟩
theorem X_ret (st:St):X Γ .ret st=some (.r,st):=X_some.2 ⟨1,rfl⟩
theorem X_keep (vs:List Nat) (ks:List Key) (st:St):X Γ (.keep vs ks) st=(QhK st vs ks).map (Ex.n,·):=by
 refine QfK fun r=>?_
 rw [X_some]
 constructor
 ·rintro ⟨k,hk⟩
  cases k with
  | zero=>cases hk
  | succ k=>exact hk
 ·intro h
  exact ⟨1,h⟩

theorem X_frz (v:Nat) (st:St):X Γ (.frz v) st=(QdG st v).map (Ex.n,·):=by
 refine QfK fun r=>?_
 rw [X_some]
 constructor
 ·rintro ⟨k,hk⟩
  cases k with
  | zero=>cases hk
  | succ k=>exact hk
 ·intro h
  exact ⟨1,h⟩

theorem Qq0 {ps:List Nat} {a b:C} {fr:Fr} {px:Key}:∀ {xs:List (List D)} {hp:Hp} {r:Ex×St},Qex (X Γ) ps a b fr px xs hp=some r→∃ n,Qex (run Γ.it (QdO Γ n) n) ps a b fr px xs hp=some r
  | [],_,r,h=>⟨0,h⟩
  | x :: xs,hp,r,h=>by
    have go:∀ {n m:Nat} (_:n≤m) (c:C) (st:St),LeO (run Γ.it (QdO Γ n) n c st) (run Γ.it (QdO Γ m) m c st):=fun h c st=>Qc0 (Qa6 h) h c st
    unfold Qex guardO at h
    split at h
    · rename_i h0
      simp only [Option.bind_eq_some_iff] at h
      obtain ⟨p,h1,h⟩:=h
      obtain ⟨n1,h1⟩:=X_some.1 h1
      split at h
      · rename_i h2
        simp only [Option.bind_eq_some_iff] at h
        obtain ⟨q,h3,h⟩:=h
        obtain ⟨n2,h3⟩:=X_some.1 h3
        split at h
        · rename_i h5
          obtain ⟨n3,h6⟩:=Qq0 h
          refine ⟨max n1 (max n2 n3), ?_⟩
          unfold Qex guardO
          rw [if_pos h0,go (show n1≤max n1 (max n2 n3) by omega) _ _ _ h1,Option.bind_some,if_pos h2,go (show n2≤max n1 (max n2 n3) by omega) _ _ _ h3,Option.bind_some,if_pos h5]
          exact QeP (fun c st=>go (show n3≤max n1 (max n2 n3) by omega) c st) _ _ _ h6
        · rename_i h5
          refine ⟨max n1 n2, ?_⟩
          unfold Qex guardO
          rw [if_pos h0,go (show n1≤max n1 n2 by omega) _ _ _ h1,Option.bind_some,if_pos h2,go (show n2≤max n1 n2 by omega) _ _ _ h3,Option.bind_some,if_neg h5]
          exact h
      · cases h
    · cases h
theorem X_inl (pre:List O) (dst:Option Nat) (x:E) (es:List E) (f:Nat) (cb:C) (rs:List RV) (np:Nat) (post:List O) (vs:List Nat) (ks ak:List Key) (st:St) :
    X Γ (.inl pre dst x es f cb rs np post vs ks ak) st=(exs (Qah Γ) pre st).bind fun s1=>(x.ev s1).bind fun a=>(calA a).bind fun q=>(allE s1 es).bind fun as=>guardO (q.1=f∧(as++q.2).length=np∧Qdg ks (as++q.2)=true∧cb.holds ks=true) ((Qr7 s1 vs ks ak).bind fun s2=>(X Γ cb ⟨Qnm 0 (as++q.2),s2.hp,0 :: s2.px⟩).bind fun p=>guardO (p.1.fin=true∧(ak.all fun k=>goneO (p.2.hp k))=true) ((resL p.2 rs).bind fun rv=>(exs (Qah Γ) post ⟨putO s2.fr dst (resA rv),Qfl p.2.hp s1.hp ak,s2.px⟩).map (Ex.n,·))):=by
  refine QfK fun r=>?_
  rw [X_some]
  constructor
  · rintro ⟨k,hk⟩
    cases k with
    | zero=>cases hk
    | succ k =>
      simp only [run,Option.bind_eq_some_iff] at hk ⊢
      obtain ⟨s1,h1,a,h2,q,h3,as,h4,h5⟩:=hk
      refine ⟨s1,QcJ (QjM _) _ _ _ h1,a,h2,q,h3,as,h4, ?_⟩
      exact LeO.guardO (LeO.bind (LeO.refl _) fun _=>LeO.bind (fun r hr=>X_of hr) fun _=>LeO.guardO (LeO.bind (LeO.refl _) fun _=>LeO.map (QcJ (QjM _) _ _))) _ h5
  · intro h
    simp only [Option.bind_eq_some_iff] at h
    obtain ⟨s1,h1,a,h2,q,h3,as,h4,h5⟩:=h
    unfold guardO at h5
    split at h5
    · rename_i hg
      simp only [Option.bind_eq_some_iff] at h5
      obtain ⟨s2,h6,p,h7,h8⟩:=h5
      split at h8
      · rename_i hg2
        simp only [Option.bind_eq_some_iff,Option.map_eq_some_iff] at h8
        obtain ⟨rv,h9,s3,h10,rfl⟩:=h8
        obtain ⟨n1,g1⟩:=exs_X h1
        obtain ⟨n2,g2⟩:=X_some.1 h7
        obtain ⟨n3,g3⟩:=exs_X h10
        have l1:n1≤max n1 (max n2 n3):=Nat.le_max_left _ _
        have l2:n2≤max n1 (max n2 n3):=Nat.le_trans (Nat.le_max_left _ _) (Nat.le_max_right _ _)
        have l3:n3≤max n1 (max n2 n3):=Nat.le_trans (Nat.le_max_right _ _) (Nat.le_max_right _ _)
        refine ⟨max n1 (max n2 n3)+1, ?_⟩
        simp only [run]
        have mm:Cl.le (QdO Γ (max n1 (max n2 n3))) (QdO Γ (max n1 (max n2 n3)+1)):=Qa6 (Nat.le_succ _)
        rw [QcJ mm _ _ _ (QcJ (Qa6 l1) _ _ _ g1),Option.bind_some,h2,Option.bind_some,h3,Option.bind_some,h4,Option.bind_some]
        unfold guardO
        rw [if_pos hg,h6,Option.bind_some,Qc0 (Qa6 (Nat.le_succ_of_le l2)) l2 _ _ _ g2,Option.bind_some,if_pos hg2,h9,Option.bind_some,QcJ mm _ _ _ (QcJ (Qa6 l3) _ _ _ g3)]
        rfl
      · cases h8
    · cases h5
theorem X_rfn (x:E) (ps:List Nat) (a b:C) (vs:List Nat) (ks:List Key) (st:St) :
    X Γ (.rfn x ps a b vs ks) st=(x.ev st).bind fun v=>(fnA v).bind fun q=>(Γ.it q.1 q.2).bind fun xs=>(QhK st vs ks).bind fun s=>guardO ((QmA s.fr vs&&a.holds ks&&b.holds ks)=true) (Qex (X Γ) ps a b s.fr s.px xs s.hp):=by
  refine QfK fun r=>?_
  rw [X_some]
  constructor
  · rintro ⟨k,hk⟩
    cases k with
    | zero=>cases hk
    | succ k =>
      simp only [run,Option.bind_eq_some_iff] at hk ⊢
      obtain ⟨v,h1,q,h2,xs,h3,s,h4,h5⟩:=hk
      exact ⟨v,h1,q,h2,xs,h3,s,h4,LeO.guardO (QeP (fun c st r hr=>X_of hr) _ _) _ h5⟩
  · intro h
    simp only [Option.bind_eq_some_iff] at h
    obtain ⟨v,h1,q,h2,xs,h3,s,h4,h5⟩:=h
    unfold guardO at h5
    split at h5
    · rename_i h6
      obtain ⟨n,hn⟩:=Qq0 h5
      refine ⟨n+1, ?_⟩
      simp only [run]
      rw [h1,Option.bind_some,h2,Option.bind_some,h3,Option.bind_some,h4,Option.bind_some]
      unfold guardO
      rw [if_pos h6]
      exact QeP (fun c st=>Qc0 (Qa6 (Nat.le_succ n)) (Nat.le_refl n) c st) _ _ _ hn
    · cases h5

theorem X_reg (os:List O) (ck:List (E×Nat×E×Nat)) (st:St) :
    X Γ (.reg os ck) st=(exs (Qah Γ) os st).bind fun s=>guardO (ck.all (QbF s)=true) (some (.n,s)):=by
  refine QfK fun r=>?_
  rw [X_some]
  constructor
  · rintro ⟨k,hk⟩
    cases k with
    | zero=>cases hk
    | succ k =>
      simp only [run] at hk
      exact LeO.bind (QcJ (QjM _) os st) (fun _=>LeO.refl _) r hk
  · intro h
    simp only [Option.bind_eq_some_iff] at h
    obtain ⟨s,h1,h2⟩:=h
    obtain ⟨n,hn⟩:=exs_X h1
    refine ⟨n+1, ?_⟩
    simp only [run]
    rw [QcJ (Qa6 (Nat.le_succ n)) _ _ _ hn]
    exact h2

theorem X_seq (a b:C) (st:St):X Γ (.seq a b) st=(X Γ a st).bind fun p=>if p.1=.n then X Γ b p.2 else some p:=by
 refine QfK fun r=>?_
 rw [X_some]
 constructor
 ·rintro ⟨k,hk⟩
  cases k with
  | zero=>cases hk
  | succ k =>
   simp only [run,Option.bind_eq_some_iff] at hk
   obtain ⟨⟨e,s⟩,h1,h2⟩:=hk
   rw [X_of h1,Option.bind_some]
   dsimp only at h2 ⊢
   split
   ·rename_i he;rw [if_pos he] at h2;exact X_of h2
   ·rename_i he;rw [if_neg he] at h2;exact h2
 ·intro h
  simp only [Option.bind_eq_some_iff] at h
  obtain ⟨⟨e,s⟩,h1,h2⟩:=h
  obtain ⟨n,hn⟩:=X_some.1 h1
  dsimp only at h2
  split at h2
  ·rename_i he
   obtain ⟨m,hm⟩:=X_some.1 h2
   refine ⟨max n m+1, ?_⟩
   simp only [run]
   rw [Qc0 (Qa6 (show n≤max n m+1 by omega)) (show n≤max n m by omega) _ _ _ hn]
   simp only [Option.bind_some,he,if_true]
   exact Qc0 (Qa6 (show m≤max n m+1 by omega)) (show m≤max n m by omega) _ _ _ hm
  ·rename_i he
   refine ⟨n+1, ?_⟩
   simp only [run]
   rw [Qc0 (Qa6 (Nat.le_succ n)) (Nat.le_refl n) _ _ _ hn]
   simp only [Option.bind_some,he,if_false]
   exact h2

theorem X_cond (x:E) (a b:C) (st:St):X Γ (.cond x a b) st=(x.ev st).bind fun v=>v.bool?.bind fun t=>if t then X Γ a st else X Γ b st:=by
 refine QfK fun r=>?_
 rw [X_some]
 constructor
 ·rintro ⟨k,hk⟩
  cases k with
  | zero=>cases hk
  | succ k =>
   simp only [run,Option.bind_eq_some_iff] at hk ⊢
   obtain ⟨v,h1,t,h2,h3⟩:=hk
   refine ⟨v,h1,t,h2, ?_⟩
   cases t
   ·exact X_of h3
   ·exact X_of h3
 ·intro h
  simp only [Option.bind_eq_some_iff] at h
  obtain ⟨v,h1,t,h2,h3⟩:=h
  have:∃ n,(if t=true then run Γ.it (QdO Γ n) n a st else run Γ.it (QdO Γ n) n b st)=some r:=by
   cases t
   ·exact X_some.1 h3
   ·exact X_some.1 h3
  obtain ⟨n,hn⟩:=this
  refine ⟨n+1, ?_⟩
  simp only [run]
  rw [h1,Option.bind_some,h2,Option.bind_some]
  cases t
  ·exact Qc0 (Qa6 (Nat.le_succ n)) (Nat.le_refl n) _ _ _ hn
  ·exact Qc0 (Qa6 (Nat.le_succ n)) (Nat.le_refl n) _ _ _ hn

theorem X_blk (id:Nat) (c:C) (st:St):X Γ (.blk id c) st=(X Γ c st).map fun p=>if p.1=.x id then (.n,p.2) else p:=by
 refine QfK fun r=>?_
 rw [X_some]
 constructor
 ·rintro ⟨k,hk⟩
  cases k with
  | zero=>cases hk
  | succ k =>
   simp only [run,Option.map_eq_some_iff] at hk ⊢
   obtain ⟨⟨e,s⟩,h1,h2⟩:=hk
   exact ⟨(e,s),X_of h1,h2⟩
 ·intro h
  simp only [Option.map_eq_some_iff] at h
  obtain ⟨⟨e,s⟩,h1,h2⟩:=h
  obtain ⟨n,hn⟩:=X_some.1 h1
  refine ⟨n+1, ?_⟩
  simp only [run]
  rw [Qc0 (Qa6 (Nat.le_succ n)) (Nat.le_refl n) _ _ _ hn]
  exact congrArg some h2

theorem Qag (c:C) (st:St):X Γ (.loop c) st=(X Γ c st).bind fun p=>if p.1=.n then X Γ (.loop c) p.2 else some p:=by
 refine QfK fun r=>?_
 rw [X_some]
 constructor
 ·rintro ⟨k,hk⟩
  cases k with
  | zero=>cases hk
  | succ k =>
   simp only [run,Option.bind_eq_some_iff] at hk
   obtain ⟨⟨e,s⟩,h1,h2⟩:=hk
   rw [X_of h1,Option.bind_some]
   dsimp only at h2 ⊢
   split
   ·rename_i he;rw [if_pos he] at h2;exact X_of h2
   ·rename_i he;rw [if_neg he] at h2;exact h2
 ·intro h
  simp only [Option.bind_eq_some_iff] at h
  obtain ⟨⟨e,s⟩,h1,h2⟩:=h
  obtain ⟨n,hn⟩:=X_some.1 h1
  dsimp only at h2
  split at h2
  ·rename_i he
   obtain ⟨m,hm⟩:=X_some.1 h2
   refine ⟨max n m+1, ?_⟩
   simp only [run]
   rw [Qc0 (Qa6 (show n≤max n m+1 by omega)) (show n≤max n m by omega) _ _ _ hn]
   simp only [Option.bind_some,he,if_true]
   exact Qc0 (Qa6 (show m≤max n m+1 by omega)) (show m≤max n m by omega) _ _ _ hm
  ·rename_i he
   refine ⟨n+1, ?_⟩
   simp only [run]
   rw [Qc0 (Qa6 (Nat.le_succ n)) (Nat.le_refl n) _ _ _ hn]
   simp only [Option.bind_some,he,if_false]
   exact h2

def endOf (cf:CF) (p:Ex×St):Option R :=
 match p.1 with
 | .x _=>none
 | _=>Qmx p.2 cf.res

theorem Qad      {f:Nat} {cf:CF} (hf:Γ.ft f=some cf) (ds:List D) :
    Qah Γ f ds=guardO (ds.length=cf.np) ((X Γ cf.body ⟨argF 0 ds,hp0,[]⟩).bind (endOf cf)):=by
  refine QfK fun r=>?_
  rw [callX_some]
  constructor
  · rintro ⟨k,hk⟩
    cases k with
    | zero=>simp only [QdO,hf] at hk;cases hk
    | succ k =>
      simp only [QdO,hf] at hk
      unfold guardO at hk ⊢
      split at hk
      · rename_i hp
        rw [if_pos hp]
        simp only [Option.bind_eq_some_iff] at hk ⊢
        obtain ⟨⟨e,s⟩,h1,h2⟩:=hk
        exact ⟨(e,s),X_of h1,h2⟩
      · cases hk
  · intro h
    unfold guardO at h
    split at h
    · rename_i hp
      simp only [Option.bind_eq_some_iff] at h
      obtain ⟨⟨e,s⟩,h1,h2⟩:=h
      obtain ⟨n,hn⟩:=X_some.1 h1
      refine ⟨n+1, ?_⟩
      simp only [QdO,hf,guardO,if_pos hp]
      rw [hn]
      exact h2
    · cases h

theorem callX_orc {f:Nat} (hf:Γ.ft f=none) (ds:List D):Qah Γ f ds=Γ.orc f ds:=by
 refine QfK fun r=>?_
 rw [callX_some]
 constructor
 ·rintro ⟨k,hk⟩
  cases k<;>(simp only [QdO,hf] at hk;exact hk)
 ·intro h
  exact ⟨0,by simp only [QdO,hf];exact h⟩
end
end Go.AM

/- From the model's code to the small language of the abstract machine. -/
namespace Go.AM
open Go

def absC:Value→D
 | .slice none 0 0=>.z true
 | x=>.v x
def absV:Value→D
 | .agg cs=>.agg (cs.toList.map absC)
 | x=>absC x

def QaH:Operand→Option E
 | .tmp t=>some (.t t)
 | .const v=>some (.c (absV v))
 | .func f=>some (.f f)
 | .global _=>none

def mapO {α β:Type} (f:α→Option β):List α→Option (List β)
 | []=>some []
 | a :: r=>(f a).bind fun b=>(mapO f r).map (b :: ·)

def compO?:Option Operand→Option (Option E)
 | none=>some none
 | some x=>(QaH x).map some

def isAggT (P:Program) (t:TypeId):Option Bool :=
 (P.underlying t).map fun
  | .struct _ | .array _ _=>true
  | _=>false

def ldSz (P:Program) (t:TypeId):Option (Option Nat) :=
 (isAggT P t).bind fun b=>if b then (P.info? t).map fun i=>some i.size else some none

def oneV:Value→Bool
 | .agg _ | .tuple _=>false
 | _=>true
def zeroD (i:TypeInfo):Option (List D):=i.zero.bind fun v=>if v.cells.toList.all oneV then some (v.cells.toList.map absC) else none

def Qsm (P:Program) (t:TypeId):Option (Nat×Nat×List D) :=
 match P.underlying t with
 | some (.slice e)=>(P.info? e).bind fun i=>(zeroD i).bind fun zs=>if 0<i.size∧zs.length=i.size∧0<i.bytes then some (i.size,i.bytes,zs) else none
 | _=>none

def plainT (P:Program) (t:TypeId):Bool :=
 match P.underlying t with
 | some (.int _) | some .string=>true
 | _=>false

def fldOf (P:Program) (s:TypeId) (f:Nat):Option Field :=
 match P.underlying s with
 | some (.struct fs)=>fs[f]?
 | _=>none

def eqFs (P:Program) (g:TypeId→Option Nat):Nat→List Field→Option Nat
 | n,[]=>some n
 | n,f :: r=>if f.offset=n∧(f.name != "_")=true then (g f.type).bind fun k=>eqFs P g (n+k) r else none
def eqW (P:Program):Nat→TypeId→Option Nat
 | 0,_=>none
 | d+1,t=>match P.underlying t with
  | some (.int _)=>some 1
  | some (.struct fs)=>if P.stoodInHeld t then none else (eqFs P (eqW P d) 0 fs.toList).bind fun n=>(P.info? t).bind fun i=>if i.size=n∧0<n then some n else none
  | _=>none
def eqT (P:Program) (t:TypeId):Bool:=(eqW P 4 t).isSome&&!P.eqGuardType P.depth t

def QbY (P:Program) (op:Op):Option I :=
  match op with
  | .move x | .assign x=>(QaH x).map .mov
  | .pick c a b=>(QaH c).bind fun c=>(QaH a).bind fun a=>(QaH b).map fun b=>.pick c a b
  | .alloc e=>(P.info? e).bind fun i=>(zeroD i).map .new
  | .box _ x=>(QaH x).map .box
  | .build t ps => (P.info? t).bind fun i => (zeroD i).bind fun zs =>
      match P.underlying t with
      | some (.struct fs)=>if fs.all (fun f=>(P.info? f.type).isSome) then (mapO (fun (p:Nat×Operand)=>(fs[p.1]?).bind fun f=>(P.info? f.type).bind fun j=>(QaH p.2).map fun e=>(f.offset,j.size,e)) ps.toList).map fun q=>.build zs q else none
      | some (.array _ e)=>(P.info? e).bind fun j=>(mapO (fun (p:Nat×Operand)=>(QaH p.2).map fun e=>(p.1*j.size,j.size,e)) ps.toList).map fun q=>.build zs q
      | _=>none
  | .buildSlice t len ps=>(Qsm P t).bind fun (es,_,zs)=>if len*es≤16777216 then (mapO (fun (p:Nat×Operand)=>(QaH p.2).map fun e=>(p.1,e)) ps.toList).map fun q=>.lit es len zs q false else none
  | .load t a=>(ldSz P t).bind fun sz=>(QaH a).map fun a=>.load sz a
  | .store t a x=>(P.info? t).bind fun i=>(QaH a).bind fun a=>(QaH x).map fun x=>.store i.size a x
  | .binOp op t x y _ => match P.underlying t, op, y with
      | some (.slice _),.eql,.const (.slice none 0 0)=>(QaH x).map (.isn false)
      | some (.slice _),.neq,.const (.slice none 0 0)=>(QaH x).map (.isn true)
      | some .bool,.eql,y=>(QaH x).bind fun x=>(QaH y).map fun y=>.binb false x y
      | some .bool,.neq,y=>(QaH x).bind fun x=>(QaH y).map fun y=>.binb true x y
      | some (.struct _),.eql,y=>if eqT P t then (eqW P 4 t).bind fun n=>(QaH x).bind fun x=>(QaH y).map fun y=>.eqs n false x y else none
      | some (.struct _),.neq,y=>if eqT P t then (eqW P 4 t).bind fun n=>(QaH x).bind fun x=>(QaH y).map fun y=>.eqs n true x y else none
      | _,_,_=>if plainT P t then (QaH x).bind fun x=>(QaH y).map fun y=>.bin op x y else none
  | .unOp op _ x=>(QaH x).map fun x=>.un op x
  | .convert s d x => match P.underlying s, P.underlying d with
      | some (.int _),some (.int k)=>(QaH x).map fun x=>.conv (.int k) x
      | some (.slice e),some .string=>match P.underlying e with
        | some (.int .u8)=>(QaH x).map fun x=>.conv .b2s x
        | _=>none
      | some .string,some (.slice e)=>match P.underlying e with
        | some (.int .u8)=>(QaH x).map fun x=>.conv (.s2b false) x
        | _=>none
      | _,_=>none
  | .makeFunc (.func f) first caps=>if first.size=0 then (mapO QaH caps.toList).map fun q=>.mkfn f q false else none
  | .makeSlice t l c=>(Qsm P t).bind fun (es,by_,zs)=>(QaH l).bind fun l=>(QaH c).map fun c=>.mksl es by_ zs l c
  | .slice t x lo hi mx => match P.underlying t with
      | some .string=>if mx.isSome then none else (QaH x).bind fun x=>(compO? lo).bind fun lo=>(compO? hi).map fun hi=>.sls x lo hi
      | some (.slice e)=>(P.info? e).bind fun i=>if mx.isSome&&hi.isNone then none else (QaH x).bind fun x=>(compO? lo).bind fun lo=>(compO? hi).bind fun hi=>(compO? mx).map fun mx=>.slc i.size x lo hi mx
      | _=>none
  | .fieldAddr s x f=>(fldOf P s f).bind fun f=>(P.info? f.type).bind fun i=>if i.size=0 then none else (QaH x).map fun x=>.fad f.offset x
  | .field s x f=>(fldOf P s f).bind fun f=>(ldSz P f.type).bind fun sz=>(QaH x).map fun x=>.fld f.offset sz x
  | .indexAddr t x i => match P.underlying t with
      | some (.slice e)=>(P.info? e).bind fun j=>(QaH x).bind fun x=>(QaH i).map fun i=>.ixa j.size x i
      | some (.array n e)=>match i with
        | .const (.int _ k)=>(P.info? e).bind fun j=>if 0≤k∧k<n then (QaH x).map fun x=>.fad (k.toNat*j.size) x else none
        | _=>none
      | _=>none
  | .index t x i => match P.underlying t with
      | some .string=>(QaH x).bind fun x=>(QaH i).map fun i=>.ixs x i
      | _=>none
  | .extract x i=>(QaH x).map fun x=>.ext x i
  | .call c => match c.callee with
      | .value (.func f)=>((P.funcs[f]?).bind fun fn=>if fn.body.isSome&&fn.name != "runtime.NumGoroutine" then some () else none).bind fun _=>(mapO QaH c.args.toList).map fun xs=>.call f xs false
      | .value x=>(QaH x).bind fun x=>(mapO QaH c.args.toList).map fun xs=>.calv x xs
      | .builtin .len=>match c.args.toList,c.argTypes.toList with
        | [x],[t]=>match P.underlying t with
          | some .string=>(QaH x).map .lns
          | some (.slice _)=>(QaH x).map .len
          | _=>none
        | _,_=>none
      | .builtin .append=>match c.args.toList,c.argTypes.toList with
        | [x,y],[t,u]=>(Qsm P t).bind fun (es,by_,_)=>match P.underlying u with
          | some (.slice _) | some .string=>(QaH x).bind fun x=>(QaH y).map fun y=>.app es by_ x y false
          | _=>none
        | _,_=>none
      | .builtin .copy=>match c.args.toList,c.argTypes.toList with
        | [x,y],[t,_]=>(Qsm P t).bind fun (es,_,_)=>(QaH x).bind fun x=>(QaH y).map fun y=>.cpy es x y
        | _,_=>none
      | .builtin .max=>(mapO QaH c.args.toList).map .mx
      | .builtin .min=>(mapO QaH c.args.toList).map .mn
      | _=>none
  | _=>none

def QsB (ops:Array Oper):Option (Nat×Bool)→Option (Option (Nat×Bool))
 | none=>some none
 | some (j,b)=>((ops[j]?).bind (·.dst)).map fun t=>some (t,b)

def QoP (P:Program) (ops:Array Oper) (o:Oper):Option O :=
 (QbY P o.op).bind fun i=>(QsB ops o.guard).map fun g=>⟨o.dst,i,g⟩

/-! ### Regions whose order is drawn -/
def Qgi (o:Oper):List Nat:=(o.after.toList.filter (Region.binds .any)).map (·.on)
def ancs:List Oper→List Nat→List Nat
 | [],acc=>acc
 | o :: r,acc=>ancs r (acc++[(Qgi o).foldl (fun s i=>s ||| 2^i ||| acc.getD i 0) 0])

def E.tmps:E→List Nat
 | .t n=>[n]
 | _=>[]
def oE:Option E→List Nat
 | none=>[]
 | some e=>e.tmps
def I.reads:I→List Nat
 | .mov x | .box x | .load _ x | .un _ x | .conv _ x | .fad _ x | .fld _ _ x | .ext x _ | .len x | .lns x | .isn _ x=>x.tmps
 | .pick c a b=>c.tmps++a.tmps++b.tmps
 | .new _=>[]
 | .build _ ps=>ps.flatMap fun p=>p.2.2.tmps
 | .lit _ _ _ ps _=>ps.flatMap fun p=>p.2.tmps
 | .store _ a x | .bin _ a x | .binb _ a x | .eqs _ _ a x | .mksl _ _ _ a x | .ixa _ a x | .ixs a x | .app _ _ a x _ | .cpy _ a x=>a.tmps++x.tmps
 | .mkfn _ xs _ | .call _ xs _ | .mx xs | .mn xs=>xs.flatMap (·.tmps)
 | .calv x xs=>x.tmps++xs.flatMap (·.tmps)
 | .slc _ x a b c=>x.tmps++oE a++oE b++oE c
 | .sls x a b=>x.tmps++oE a++oE b
def O.reads (o:O):List Nat:=o.i.reads++(match o.g with | none=>[] | some (t,_)=>[t])

def I.class:I→Nat
 | .load .. | .new _ | .box _ | .lit .. | .mksl .. | .call .. | .ixa .. | .conv .. | .slc .. | .calv ..=>1
 | .store ..=>2
 | .app .. | .cpy .. | .mkfn ..=>3
 | _=>0

def QgA:I→Bool
 | .load _ (.t _)=>true
 | _=>false

def isMk:I→Bool
 | .mkfn ..=>true
 | _=>false
def isIxa:I→Bool
 | .ixa ..=>true
 | _=>false

def Qsa:I→Bool
 | .app es _ _ _ _=>es != 0
 | _=>false

def Qm7 (x y:O):Bool :=
  (match x.dst with
   | some d=>!(y.reads).contains d&&y.dst != some d
   | none=>true) &&
  (match y.dst with
   | some d=>!(x.reads).contains d
   | none=>true) &&
  (x.i.class==0||y.i.class==0||(x.i.class==1&&y.i.class==1)||(QgA x.i&&y.i.class==2&&x.g.isNone&&y.g.isNone)||(QgA x.i&&isMk y.i)||(isIxa x.i&&y.i.class==2)||(Qsa x.i&&y.i.class==1)||(QgA x.i&&Qsa y.i))

def Qd5 (x y:O):List (E×Nat×E×Nat) :=
 match x.i,y.i with
 | .load s a,.store t b _=>[(a,s.getD 1,b,t)]
 | .load _ a,.app _ _ _ _ _=>[(a,0,a,0)]
 | .app _ _ _ _ _,i=>if i.class==1 then i.reads.map fun t=>(E.t t,0,E.t t,0) else []
 | _,_=>[]

def QrT (m:Nat) (ts:List Nat):Nat→List O→Bool
 | _,[]=>true
 | p,z :: r=>(m.testBit p||(match z.dst with | some d=>!ts.contains d | none=>true))&&QrT m ts (p+1) r

def QjJ (an:List Nat) (i:Nat) (x:O) (all:List O):Nat→List O→Option (List (E×Nat×E×Nat))
 | _,[]=>some []
 | j,y :: r=>if (an.getD j 0).testBit i then QjJ an i x all (j+1) r
  else if Qm7 x y&&(Qd5 x y).all (fun q=>QrT (an.getD j 0) (q.1.tmps++q.2.2.1.tmps) i all) then (QjJ an i x all (j+1) r).map (Qd5 x y++·) else none

def Qpk (an:List Nat):Nat→List O→Option (List (E×Nat×E×Nat))
 | _,[]=>some []
 | i,x :: r=>(QjJ an i x (x :: r) (i+1) r).bind fun l=>(Qpk an (i+1) r).map (l++·)

def QjR:Nat→List Oper→Bool
 | _,[]=>true
 | i,o :: r=>(Qgi o).all (·<i)&&QjR (i+1) r

def C.noRfn:C→Bool
 | .seq a b=>a.noRfn&&b.noRfn
 | .cond _ a b=>a.noRfn&&b.noRfn
 | .blk _ c | .loop c=>c.noRfn
 | .rfn ..=>false
 | _=>true

def failE:E:=.c (.v (.int .i64 7))
def QfI:C:=.cond failE .skip .skip
def compReg (P:Program) (ops:Array Oper) (draw:Bool):Option C :=
 (mapO (QoP P ops) ops.toList).bind fun os=>if draw then (if QjR 0 ops.toList then (Qpk (ancs ops.toList []) 0 os).map fun ck=>.reg os ck else none) else some (.reg os [])
def Qen (P:Program):Code→Option C
 | .skip=>some .skip
 | .label _=>some .skip
 | .region _ ops draw=>some ((compReg P ops draw).getD QfI)
 | .seq a b=>(Qen P a).bind fun x=>(Qen P b).map fun y=>.seq x y
 | .cond c a b=>some (((QaH c).bind fun e=>(Qen P a).bind fun x=>(Qen P b).map fun y=>C.cond e x y).getD QfI)
 | .block id c=>(Qen P c).map fun x=>.blk id x
 | .loop c=>(Qen P c).map fun x=>.loop x
 | .scope c=>Qen P c
 | .exit id=>some (.exit id)
 | .ret=>some .ret
 | .rangeFunc f ps a b=>some (((QaH f).bind fun e=>(Qen P a).bind fun x=>(Qen P b).bind fun y=>if x.noRfn&&y.noRfn then some (C.rfn e ps.toList x y [] []) else none).getD QfI)
 | _=>some QfI
def QaX (P:Program):Code→Option C
 | .skip=>some .skip
 | .label _=>some .skip
 | .region _ ops draw=>(mapO (QoP P ops) ops.toList).bind fun os=>if draw then (if QjR 0 ops.toList then (Qpk (ancs ops.toList []) 0 os).map fun ck=>.reg os ck else none) else some (.reg os [])
 | .seq a b=>(Qen P a).bind fun x=>(Qen P b).map fun y=>.seq x y
 | .cond c a b=>(QaH c).bind fun e=>(Qen P a).bind fun x=>(Qen P b).map fun y=>.cond e x y
 | .block id c=>(Qen P c).map fun x=>.blk id x
 | .loop c=>(Qen P c).map fun x=>.loop x
 | .scope c=>Qen P c
 | .exit id=>some (.exit id)
 | .ret=>some .ret
 | .rangeFunc f ps a b=>(QaH f).bind fun e=>(Qen P a).bind fun x=>(Qen P b).bind fun y=>if x.noRfn&&y.noRfn then some (.rfn e ps.toList x y [] []) else none
 | _=>none
theorem QmY {x:Option C} {c:C} (h:some (x.getD QfI)=some c) (hf:c≠QfI):x=some c:=by
 cases x with
 | none=>exact absurd (Option.some.inj h).symm hf
 | some y=>exact h
theorem Qjo {P:Program}:∀ {code:Code} {c:C},Qen P code=some c→c≠QfI→QaX P code=some c
 | .skip,_,h,_ | .label _,_,h,_ | .seq ..,_,h,_ | .block ..,_,h,_ | .loop _,_,h,_ | .scope _,_,h,_ | .exit _,_,h,_ | .ret,_,h,_=>h
 | .region ..,_,h,hf=>QmY h hf
 | .cond ..,_,h,hf=>QmY h hf
 | .rangeFunc ..,_,h,hf=>QmY h hf
 | .goto _,_,h,hf | .refuse _,_,h,hf=>absurd (Option.some.inj h).symm hf

def QrV (P:Program):ResultVar→Option RV
 | .tmp t=>some (.t t)
 | .cell a t=>(ldSz P t).map fun sz=>.cell a sz

def O.within (n:Nat) (o:O):Bool :=
 match o.dst with
 | some d=>decide (d<n)
 | none=>true
def C.within (n:Nat):C→Bool
 | .reg os _=>os.all (O.within n)
 | .seq a b=>a.within n&&b.within n
 | .cond _ a b=>a.within n&&b.within n
 | .blk _ c | .loop c=>c.within n
 | .rfn _ ps a b _ _=>ps.all (fun p=>decide (p<n))&&a.within n&&b.within n
 | _=>true

def QlH (P:Program) (fn:Func):Option CF :=
 fn.body.bind fun b=>(Qen P b).bind fun c=>if c.within fn.ntmps&&decide (fn.params.size+fn.nfree≤fn.ntmps)&&fn.name != "runtime.NumGoroutine" then (mapO (QrV P) fn.results.toList).map fun rs=>⟨fn.params.size+fn.nfree,c,rs⟩ else none

/-! ### Without the remarks -/
def I.er:I→I
 | .lit es n zs ps _=>.lit es n zs ps false
 | .conv (.s2b _) x=>.conv (.s2b false) x
 | .mkfn f cs _=>.mkfn f cs false
 | .call f xs _=>.call f xs false
 | .app es by_ x y _=>.app es by_ x y false
 | i=>i
def O.er (o:O):O:={ o with i:=o.i.er }
def QkC (x:E) (es:List E):I:=match x with
 | .f n=>.call n es false
 | _=>.calv x es
def C.er:C→C
 | .reg os ck=>.reg (os.map O.er) ck
 | .seq a (.keep _ _)=>a.er
 | .seq (.keep _ _) b=>b.er
 | .seq a (.frz _)=>a.er
 | .seq (.frz _) b=>b.er
 | .seq a b=>.seq a.er b.er
 | .cond x a b=>.cond x a.er b.er
 | .blk id c=>.blk id c.er
 | .loop c=>.loop c.er
 | .rfn x ps a b _ _=>.rfn x ps a.er b.er [] []
 | .inl pre dst x es _ _ _ _ post _ _ _=>.reg ((pre++⟨dst,QkC x es,none⟩ :: post).map O.er) []
 | c=>c
def CF.er (c:CF):CF:={ c with body:=c.body.er }
end Go.AM

/- How the abstract machine's data, slots, boxes and arrays stand in the model's memory. -/
namespace Go.AM
open Go Go.RowKit

/-! ### Data -/
def Cells (w:World) (ad:Addr) (vs:List Value):Prop:=∀ j v,vs[j]?=some v→w.cell? (ad.add j)=some v

mutual
inductive RepD (S:Nat→Prop) (w:World):D→Value→Prop
 | v (x:Value):RepD S w (.v x) x
 | zt:RepD S w (.z true) (.slice none 0 0)
 | zf (a:Option Addr):RepD S w (.z false) (.slice a 0 0)
 | row (n:Nat) (cs:List D) (ad:Addr) (cap:Nat) (vs:List Value) (h1:n≤cap) (h2:S ad.block) (h3:RepL S w cs vs) (h4:Cells w ad vs):RepD S w (.row n cs) (.slice (some ad) n cap)
 | row0 (a:Addr) (cap:Nat):RepD S w (.row 0 []) (.slice (some a) 0 cap)
 | agg (cs:List D) (vs:List Value) (h:RepL S w cs vs):RepD S w (.agg cs) (.agg vs.toArray)
 | tup (cs:List D) (vs:List Value) (h:RepL S w cs vs):RepD S w (.tup cs) (.tuple vs.toArray)
 | fn (f:Nat) (cs:List D) (vs:List Value) (h:RepL S w cs vs):RepD S w (.fn f cs) (.func (.func f) #[] vs.toArray)
 | rp (cs:List D) (ad:Addr) (vs:List Value) (h2:S ad.block) (h3:RepL S w cs vs) (h4:Cells w ad vs):RepD S w (.rp cs) (.pointer (some ad))
 | rc (f:Nat) (pre:List D) (ad:Addr) (vs:List Value) (h2:S ad.block) (h3:RepL S w pre vs) (h4:w.cell? ad=some (.func (.func f) #[] (vs++[Value.pointer (some ad)]).toArray)):RepD S w (.rc f pre) (.pointer (some ad))
inductive RepL (S:Nat→Prop) (w:World):List D→List Value→Prop
 | nil:RepL S w [] []
 | cons (x:D) (cs:List D) (v:Value) (vs:List Value) (h:RepD S w x v) (t:RepL S w cs vs):RepL S w (x :: cs) (v :: vs)
end

theorem Addr.add_block (a:Addr) (n:Nat):(a.add n).block=a.block:=by unfold Addr.add;split<;>rfl
theorem Addr.add_add (a:Addr) (n m:Nat):(a.add n).add m=a.add (n+m):=by
 unfold Addr.add
 by_cases hn:n=0
 ·subst hn;simp
 ·by_cases hm:m=0
  ·subst hm;simp [hn]
  ·simp [hn,hm,show n+m≠0 by omega,Nat.add_assoc]
theorem Qht {w w':World} {p:Addr} (h:w'.heap[p.block]?=w.heap[p.block]?):w'.cell? p=w.cell? p:=World.cell?_of_block (w:=w) h
theorem Cells.same {w w':World} {ad:Addr} {vs:List Value} (h:Cells w ad vs) (hw:w'.heap[ad.block]?=w.heap[ad.block]?):Cells w' ad vs:=by
 intro j v hj
 rw [Qht (w:=w) (by rw [Addr.add_block];exact hw)]
 exact h j v hj

mutual
theorem RepD.mono {S S':Nat→Prop} {w w':World} (hS:∀ b,S b→S' b) (hw:∀ b,S b→w'.heap[b]?=w.heap[b]?):∀ {x:D} {v:Value},RepD S w x v→RepD S' w' x v
 | _,_,.v x=>.v x
 | _,_,.zt=>.zt
 | _,_,.zf a=>.zf a
 | _,_,.row n cs ad cap vs h1 h2 h3 h4=>.row n cs ad cap vs h1 (hS _ h2) (RepL.mono hS hw h3) (h4.same (hw _ h2))
 | _,_,.row0 a cap=>.row0 a cap
 | _,_,.agg cs vs h=>.agg cs vs (RepL.mono hS hw h)
 | _,_,.tup cs vs h=>.tup cs vs (RepL.mono hS hw h)
 | _,_,.fn f cs vs h=>.fn f cs vs (RepL.mono hS hw h)
 | _,_,.rp cs ad vs h2 h3 h4=>.rp cs ad vs (hS _ h2) (RepL.mono hS hw h3) (h4.same (hw _ h2))
 | _,_,.rc f pre ad vs h2 h3 h4=>.rc f pre ad vs (hS _ h2) (RepL.mono hS hw h3) ((Qht (w:=w) (hw _ h2)).trans h4)
theorem RepL.mono {S S':Nat→Prop} {w w':World} (hS:∀ b,S b→S' b) (hw:∀ b,S b→w'.heap[b]?=w.heap[b]?):∀ {xs:List D} {vs:List Value},RepL S w xs vs→RepL S' w' xs vs
 | _,_,.nil=>.nil
 | _,_,.cons x cs v vs h t=>.cons x cs v vs (RepD.mono hS hw h) (RepL.mono hS hw t)
end

theorem RepL.length {S:Nat→Prop} {w:World}:∀ {xs:List D} {vs:List Value},RepL S w xs vs→xs.length=vs.length
 | _,_,.nil=>rfl
 | _,_,.cons _ _ _ _ _ t=>by simp [t.length]
theorem RepL.get {S:Nat→Prop} {w:World}:∀ {xs:List D} {vs:List Value},RepL S w xs vs→∀ (j:Nat) (x:D),xs[j]?=some x→∃ v,vs[j]?=some v∧RepD S w x v
 | _,_,.nil,j,x,h=>by simp at h
 | _,_,.cons y cs v vs h t,0,x,hj=>by
  simp at hj
  subst hj
  exact ⟨v,by simp,h⟩
 | _,_,.cons y cs v vs h t,j+1,x,hj=>by
  simp at hj
  obtain ⟨u,h1,h2⟩:=t.get j x hj
  exact ⟨u,by simpa using h1,h2⟩
theorem RepL.append {S:Nat→Prop} {w:World}:∀ {xs ys:List D} {vs us:List Value},RepL S w xs vs→RepL S w ys us→RepL S w (xs++ys) (vs++us)
 | _,_,_,_,.nil,k=>k
 | _,_,_,_,.cons x cs v vs h t,k=>.cons x _ v _ h (t.append k)
theorem RepL.drop {S:Nat→Prop} {w:World}:∀ (n:Nat) {xs:List D} {vs:List Value},RepL S w xs vs→RepL S w (xs.drop n) (vs.drop n)
 | 0,_,_,h=>by simpa using h
 | n+1,_,_,.nil=>by simpa using RepL.nil
 | n+1,_,_,.cons x cs v vs h t=>by simpa using t.drop n
theorem RepL.take {S:Nat→Prop} {w:World}:∀ (n:Nat) {xs:List D} {vs:List Value},RepL S w xs vs→RepL S w (xs.take n) (vs.take n)
 | 0,_,_,h=>by simpa using RepL.nil
 | n+1,_,_,.nil=>by simpa using RepL.nil
 | n+1,_,_,.cons x cs v vs h t=>by simpa using .cons x _ v _ h (t.take n)
theorem Cells.drop {w:World} {ad:Addr} {vs:List Value} (h:Cells w ad vs) (n:Nat):Cells w (ad.add n) (vs.drop n):=by
 intro j v hj
 rw [Addr.add_add]
 exact h (n+j) v (by simpa using hj)
theorem Cells.take {w:World} {ad:Addr} {vs:List Value} (h:Cells w ad vs) (n:Nat):Cells w ad (vs.take n):=by
  intro j v hj
  refine h j v ?_
  rw [List.getElem?_take] at hj
  split at hj
  · exact hj
  · cases hj

def tabs:List (Nat×Array Value):=[]
def TabOk (w:World):Prop:=∀ p∈tabs,p.1<w.heap.size∧∃ T fz,w.heap[p.1]?=some (Go.Obj.cells p.2 T fz)
theorem Qoq (h:tabs=[]) (w:World):TabOk w:=fun p hp=>by rw [h] at hp;cases hp

/-! ### Slots -/
mutual
def refP (p:Key→Prop) (q:Key→Nat→Prop):A→Prop
 | .d _=>True
 | .own k n=>q k n
 | .ptr k _=>p k
 | .ep k n _=>q k n
 | .tup xs=>Qe9 p q xs
 | .fn _ xs=>Qe9 p q xs
def Qe9 (p:Key→Prop) (q:Key→Nat→Prop):List A→Prop
 | []=>True
 | a :: r=>refP p q a∧Qe9 p q r
end

mutual
inductive RepA (m:Key→Nat) (hp:Hp) (S:Nat→Prop) (w:World):A→Value→Prop
 | d (x:D) (v:Value) (h:RepD S w x v):RepA m hp S w (.d x) v
 | own (k:Key) (n:Nat) (v:Value) (hs:∃ a cap,v=.slice a n cap) (h:∀ o,hp k=some o→o.n=n→∃ cap cs T fz,v=.slice (some ⟨m k,0,none⟩) n cap∧n≤cap∧w.heap[m k]?=some (Go.Obj.cells cs T fz)∧cap*o.es≤cs.size):RepA m hp S w (.own k n) v
 | ptr (k:Key) (off:Nat) (v:Value) (hs:∃ ad,v=.pointer (some ad)) (h:∀ o,hp k=some o→v=.pointer (some ⟨m k,off,none⟩)):RepA m hp S w (.ptr k off) v
 | ep (k:Key) (n off:Nat) (v:Value) (hs:∃ ad,v=.pointer (some ad)) (h:∀ o,hp k=some o→o.n=n→v=.pointer (some ⟨m k,off,none⟩)):RepA m hp S w (.ep k n off) v
 | tup (xs:List A) (vs:List Value) (h:RepAL m hp S w xs vs):RepA m hp S w (.tup xs) (.tuple vs.toArray)
 | fn (f:Nat) (xs:List A) (vs:List Value) (h:RepAL m hp S w xs vs):RepA m hp S w (.fn f xs) (.func (.func f) #[] vs.toArray)
inductive RepAL (m:Key→Nat) (hp:Hp) (S:Nat→Prop) (w:World):List A→List Value→Prop
 | nil:RepAL m hp S w [] []
 | cons (x:A) (xs:List A) (v:Value) (vs:List Value) (h:RepA m hp S w x v) (t:RepAL m hp S w xs vs):RepAL m hp S w (x :: xs) (v :: vs)
end

def Ql0 (m m':Key→Nat) (hp hp':Hp) (k:Key):Prop:=∀ o',hp' k=some o'→(∃ o,hp k=some o)∧m' k=m k
def Ql7 (m m':Key→Nat) (hp hp':Hp) (w w':World) (k:Key) (n:Nat):Prop :=
 ∀ o',hp' k=some o'→o'.n=n→∃ o,hp k=some o∧m' k=m k∧o.es=o'.es∧o.n=n ∧
  ∀ cs T fz,w.heap[m k]?=some (Go.Obj.cells cs T fz)→∃ cs' fz',w'.heap[m k]?=some (Go.Obj.cells cs' T fz')∧cs'.size=cs.size
abbrev SameR (m m':Key→Nat) (hp hp':Hp) (w w':World):A→Prop:=refP (Ql0 m m' hp hp') (Ql7 m m' hp hp' w w')

mutual
theorem RepA.mono {m m':Key→Nat} {hp hp':Hp} {S S':Nat→Prop} {w w':World} (hS:∀ b,S b→S' b) (hw:∀ b,S b→w'.heap[b]?=w.heap[b]?) :
    ∀ (x:A) (v:Value),SameR m m' hp hp' w w' x→RepA m hp S w x v→RepA m' hp' S' w' x v
  | .d x, v, _, h => by
      cases h with
      | d _ _ h=>exact .d x v (h.mono hS hw)
  | .own k n, v, hk, h => by
      cases h with
      | own _ _ _ hs h =>
        refine .own k n v hs fun o' ho' hn=>?_
        obtain ⟨o,h1,h2,h3,h4,h5⟩:=hk o' ho' hn
        obtain ⟨cap,cs,T,fz,hv,hc,hb,hs⟩:=h o h1 h4
        obtain ⟨cs',fz',h6,h7⟩:=h5 cs T fz hb
        exact ⟨cap,cs',T,fz',by rw [h2];exact hv,hc,by rw [h2];exact h6,by rw [h7,← h3];exact hs⟩
  | .ptr k off, v, hk, h => by
      cases h with
      | ptr _ _ _ hs h =>
        refine .ptr k off v hs fun o' ho'=>?_
        obtain ⟨⟨o,h1⟩,h2⟩:=hk o' ho'
        rw [h2];exact h o h1
  | .ep k n off, v, hk, h => by
      cases h with
      | ep _ _ _ _ hs h =>
        refine .ep k n off v hs fun o' ho' hn=>?_
        obtain ⟨o,h1,h2,h3,h4,h5⟩:=hk o' ho' hn
        rw [h2];exact h o h1 h4
  | .tup xs, v, hk, h => by
      cases h with
      | tup _ vs h=>exact .tup xs vs (RepAL.mono hS hw xs vs hk h)
  | .fn f xs, v, hk, h => by
      cases h with
      | fn _ _ vs h=>exact .fn f xs vs (RepAL.mono hS hw xs vs hk h)
theorem RepAL.mono {m m':Key→Nat} {hp hp':Hp} {S S':Nat→Prop} {w w':World} (hS:∀ b,S b→S' b) (hw:∀ b,S b→w'.heap[b]?=w.heap[b]?) :
    ∀ (xs:List A) (vs:List Value),Qe9 (Ql0 m m' hp hp') (Ql7 m m' hp hp' w w') xs→RepAL m hp S w xs vs→RepAL m' hp' S' w' xs vs
  | [], vs, _, h => by
      cases h with
      | nil=>exact .nil
  | x :: xs, vs, hk, h => by
      cases h with
      | cons _ _ v vs h t=>exact .cons x xs v vs (RepA.mono hS hw x v hk.1 h) (RepAL.mono hS hw xs vs hk.2 t)
end

mutual
theorem Qaw {p p':Key→Prop} {q q':Key→Nat→Prop} (h:∀ k,p k→p' k) (h':∀ k n,q k n→q' k n):∀ {x:A},refP p q x→refP p' q' x
 | .d _,_=>trivial
 | .own k n,hp=>h' k n hp
 | .ptr k _,hp=>h k hp
 | .ep k n _,hp=>h' k n hp
 | .tup xs,hp=>Qh5 h h' (xs:=xs) hp
 | .fn _ xs,hp=>Qh5 h h' (xs:=xs) hp
theorem Qh5 {p p':Key→Prop} {q q':Key→Nat→Prop} (h:∀ k,p k→p' k) (h':∀ k n,q k n→q' k n):∀ {xs:List A},Qe9 p q xs→Qe9 p' q' xs
 | [],_=>trivial
 | _ :: _,hp=>⟨Qaw h h' hp.1,Qh5 h h' hp.2⟩
end
theorem Qn1 {p:Key→Prop} {q:Key→Nat→Prop}:∀ {xs:List A},(∀ x,x∈xs→refP p q x)→Qe9 p q xs
 | [],_=>trivial
 | x :: r,h=>⟨h x (by simp),Qn1 fun y hy=>h y (by simp [hy])⟩
theorem Qe5 {p:Key→Prop} {q:Key→Nat→Prop}:∀ {xs:List A},Qe9 p q xs→∀ x,x∈xs→refP p q x
 | [],_,_,hx=>by cases hx
 | y :: r,h,x,hx=>by
  cases hx with
  | head=>exact h.1
  | tail _ hx=>exact Qe5 h.2 x hx

def QdW (hp:Hp) (k:Key):Prop:=∃ o,hp k=some o∧o.es=0
def QdT (hp:Hp) (k:Key) (n:Nat):Prop:=∃ o,hp k=some o∧0<o.es∧n≤o.n
abbrev QaS (hp:Hp):A→Prop:=refP (QdW hp) (QdT hp)

/-! ### The heap -/
def Live (m:Key→Nat) (hp:Hp) (b:Nat):Prop:=∃ k o,hp k=some o∧o.fz=false∧m k=b
def Im (S0:Nat→Prop) (m:Key→Nat) (hp:Hp) (w:World) (b:Nat):Prop:=S0 b∧b<w.heap.size∧¬ Live m hp b

structure ObjRep (m:Key→Nat) (hp:Hp) (S:Nat→Prop) (w:World) (k:Key) (o:Obj) (cs:Array Value) (T:TypeId) (fz:Nat×Nat):Prop where
 at_:w.heap[m k]?=some (Go.Obj.cells cs T fz)
 size:o.cs.length≤cs.size
 free:∀ i,i<cs.size→¬ (fz.1≤i∧i<fz.2)
 rep:∀ (i:Nat) (x:A),o.cs[i]?=some x→∃ v:Value,cs[i]?=some v∧RepA m hp S w x v

structure Foot (lk:Nat→Prop) (w w':World):Prop where
 os:w'.os=w.os
 tape:w'.tape=w.tape
 output:w'.output=w.output
 size:w.heap.size≤w'.heap.size
 block:∀ k,k<w.heap.size→¬ lk k→w'.heap[k]?=w.heap[k]?

theorem Foot.refl (lk:Nat→Prop) (w:World):Foot lk w w:=⟨rfl,rfl,rfl,Nat.le_refl _,fun _ _ _=>rfl⟩
theorem Foot.more {lk:Nat→Prop} {a b c:World} (h:Foot lk a b) (os:c.os=b.os) (tape:c.tape=b.tape) (output:c.output=b.output) (size:b.heap.size≤c.heap.size)
    (hold:∀ k,k<b.heap.size→¬ (lk k∨a.heap.size≤k)→c.heap[k]?=b.heap[k]?):Foot lk a c :=
  ⟨os.trans h.os,tape.trans h.tape,output.trans h.output,Nat.le_trans h.size size,fun k hk hl=>(hold k (Nat.lt_of_lt_of_le hk h.size) (fun h=>h.elim hl (fun h=>by omega))).trans (h.block k hk hl)⟩
theorem Foot.trans {lk lk':Nat→Prop} {a b c:World} (h:Foot lk a b) (h':Foot lk' b c) (hs:∀ k,lk' k→lk k∨a.heap.size≤k):Foot lk a c :=
 h.more h'.os h'.tape h'.output h'.size fun k hk hn=>h'.block k hk fun hl=>hn (hs k hl)
theorem Foot.mono {lk lk':Nat→Prop} {a b:World} (h:Foot lk a b) (hs:∀ k,k<a.heap.size→lk k→lk' k):Foot lk' a b :=
 ⟨h.os,h.tape,h.output,h.size,fun k hk hl=>h.block k hk fun h'=>hl (hs k hk h')⟩
theorem Foot.below {a b:World} (h:Foot (fun _=>False) a b):Below a.heap.size a b:=⟨h.os,h.tape,h.output,h.size,fun k hk=>h.block k hk (fun h=>h)⟩
def TabAt (lk:Nat→Prop) (w:World):Prop:=TabOk w∧∀ p∈tabs,¬ lk p.1
theorem TabAt.here {lk:Nat→Prop} {w w':World} (h:TabAt lk w) (hf:Foot lk w w'):TabOk w':=fun p hp=>by
 obtain ⟨h1,T,fz,h2⟩:=h.1 p hp
 have hb:w'.heap[p.1]?=w.heap[p.1]?:=hf.block _ h1 (h.2 p hp)
 exact ⟨Nat.lt_of_lt_of_le h1 hf.size,T,fz,hb.trans h2⟩
theorem QjE (h:tabs=[]) (lk:Nat→Prop) (w:World):TabAt lk w:=⟨Qoq h w,fun p hp=>by rw [h] at hp;cases hp⟩

structure Wd where
 w:World
 lk:Nat→Prop
 mb:Key→Option Nat:=fun _=>none
 dn:Nat→Prop:=fun _=>True

def Marks (S0:Nat→Prop) (w0:Wd) (df:List Deferred) (w:World):Prop:=∃ Ds:List Nat,df=Ds.map (fun b=>{ target:=.collected b,args:=#[] })∧Ds.Nodup∧∀ b∈Ds,S0 b∧w0.dn b∧w.heap[b]?=some (.deferred (some []))
theorem Marks.nil (S0:Nat→Prop) (w0:Wd) (w:World):Marks S0 w0 [] w:=⟨[],rfl,List.nodup_nil,by simp⟩
theorem Marks.step {S0:Nat→Prop} {w0:Wd} {df:List Deferred} {w w':World} (h:Marks S0 w0 df w) (hw:∀ b,S0 b→w.heap[b]?=some (.deferred (some []))→w'.heap[b]?=some (.deferred (some []))):Marks S0 w0 df w':=by
 obtain ⟨Ds,h1,hnd,h2⟩:=h
 exact ⟨Ds,h1,hnd,fun b hb=>⟨(h2 b hb).1,(h2 b hb).2.1,hw b (h2 b hb).1 (h2 b hb).2.2⟩⟩
theorem Qc2 {w:World} {b:Nat} {o:Go.Obj} (h:w.heap[b]?=some o):b<w.heap.size:=(Array.getElem?_eq_some_iff.1 h).1

structure Rel (S0:Nat→Prop) (N:Nat) (w0:Wd) (m:Key→Nat) (st:St) (a:Act) (w:World):Prop where
 fr:∀ i x,st.fr i=some x→RepA m st.hp (Im S0 m st.hp w) w x (a.tmps.getD i undef)
 obj:∀ k o,st.hp k=some o→∃ cs T fz,ObjRep m st.hp (Im S0 m st.hp w) w k o cs T fz
 inj:∀ k k' o o',st.hp k=some o→st.hp k'=some o'→m k=m k'→k=k'
 clf:∀ i x,st.fr i=some x→QaS st.hp x
 clh:∀ k o x,st.hp k=some o→x∈o.cs→QaS st.hp x
 ge:∀ k o,st.hp k=some o→S0 (m k)
 lv:∀ k o,st.hp k=some o→o.fz=false→w0.lk (m k)∨w0.w.heap.size≤m k
 bel:Foot w0.lk w0.w w
 df:Marks S0 w0 a.defers w
 ts:a.tmps.size=N
 un:∀ b,w.heap.size≤b→S0 b
 mb:∀ k b,w0.mb k=some b→(∃ o,st.hp k=some o∧o.es=0)∧m k=b

theorem undef_eq:undef=.tuple #[]:=rfl

section
variable {S0:Nat→Prop} {N:Nat} {w0:Wd} {m:Key→Nat} {st:St} {a:Act} {w:World}

theorem Rel.lt (h:Rel S0 N w0 m st a w) {k:Key} {o:Obj} (hk:st.hp k=some o):m k<w.heap.size:=by
 obtain ⟨cs,T,fz,ho⟩:=h.obj k o hk
 exact (Array.getElem?_eq_some_iff.1 ho.at_).1

theorem Rel.ev (h:Rel S0 N w0 m st a w) {x:Operand} {e:E} {y:A} (hx:QaH x=some e) (hy:e.ev st=some y):RepA m st.hp (Im S0 m st.hp w) w y (a.eval x):=by
 cases x with
 | tmp t =>
  simp only [QaH,Option.some.injEq] at hx
  subst hx
  exact h.fr t y hy
 | const v =>
  simp only [QaH,Option.some.injEq] at hx
  subst hx
  simp only [E.ev,Option.some.injEq] at hy
  subst hy
  refine .d _ _ ?_
  show RepD _ _ (absV v) v
  have habsC:∀ u:Value,RepD (Im S0 m st.hp w) w (absC u) u:=by
   intro u
   unfold absC
   split
   ·exact .zt
   ·exact .v _
  unfold absV
  split
  ·rename_i cs
   have key:∀ l:List Value,RepL (Im S0 m st.hp w) w (l.map absC) l:=by
    intro l
    induction l with
    | nil=>exact .nil
    | cons u r ih=>exact .cons _ _ _ _ (habsC u) ih
   have:=RepD.agg _ _ (key cs.toList)
   simpa using this
  ·exact habsC _
 | func f =>
  simp only [QaH,Option.some.injEq] at hx
  subst hx
  simp only [E.ev,Option.some.injEq] at hy
  subst hy
  exact .d _ _ (.fn f [] [] .nil)
 | global g=>simp [QaH] at hx

theorem E.ev_keys (h:Rel S0 N w0 m st a w) {e:E} {y:A} (hy:e.ev st=some y):QaS st.hp y:=by
 cases e with
 | t n=>exact h.clf n y hy
 | c x=>simp only [E.ev,Option.some.injEq] at hy;subst hy;trivial
 | f n=>simp only [E.ev,Option.some.injEq] at hy;subst hy;trivial

theorem Qrx (a:Array Value) (d i:Nat) (v:Value) (hd:d<a.size):(a.setIfInBounds d v).getD i undef=if i=d then v else a.getD i undef:=by
 simp only [Array.getD_eq_getD_getElem?,Array.getElem?_setIfInBounds]
 by_cases h:d=i
 ·subst h;simp [hd]
 ·simp [h,Ne.symm h]

theorem Rel.put (h:Rel S0 N w0 m st a w) {dst:Option Nat} (hd:∀ d,dst=some d→d<N) {y:A} {v:Value}
    (hv:RepA m st.hp (Im S0 m st.hp w) w y v) (hk:QaS st.hp y):Rel S0 N w0 m { st with fr:=putO st.fr dst y } (a.put dst v) w:=by
  cases dst with
  | none=>exact h
  | some d =>
    have hd':=hd d rfl
    refine ⟨?_,h.obj,h.inj, ?_,h.clh,h.ge,h.lv,h.bel,h.df, ?_,h.un,h.mb⟩
    · intro i x hx
      simp only [putO,upd,updO] at hx
      show RepA m st.hp _ w x ((a.tmps.setIfInBounds d v).getD i undef)
      rw [Qrx _ _ _ _ (by rw [h.ts];exact hd')]
      split at hx
      · rename_i e
        rw [if_pos e]
        cases hx
        exact hv
      · rename_i e
        rw [if_neg e]
        exact h.fr i x hx
    · intro i x hx
      simp only [putO,upd,updO] at hx
      split at hx
      · cases hx;exact hk
      · exact h.clf i x hx
    · show (a.tmps.setIfInBounds d v).size=N
      rw [Array.size_setIfInBounds];exact h.ts

theorem Rel.world (h:Rel S0 N w0 m st a w) {w':World} (hb:Foot w0.lk w0.w w') (hs:w.heap.size≤w'.heap.size)
    (hk:∀ b,b<w.heap.size→S0 b→w'.heap[b]?=w.heap[b]?):Rel S0 N w0 m st a w':=by
  have hIm:∀ b,Im S0 m st.hp w b→Im S0 m st.hp w' b:=fun b hb=>⟨hb.1,Nat.lt_of_lt_of_le hb.2.1 hs,hb.2.2⟩
  have hIw:∀ b,Im S0 m st.hp w b→w'.heap[b]?=w.heap[b]?:=fun b hb=>hk b hb.2.1 hb.1
  have hP:∀ k,QdW st.hp k→Ql0 m m st.hp st.hp k:=fun k _ o ho=>⟨⟨o,ho⟩,rfl⟩
  have hQ:∀ k n,QdT st.hp k n→Ql7 m m st.hp st.hp w w' k n:=by
    intro k n _ o ho hn
    refine ⟨o,ho,rfl,rfl,hn,fun cs T fz hc=>⟨cs,fz, ?_,rfl⟩⟩
    rw [hk _ (h.lt ho) (h.ge k o ho)];exact hc
  refine ⟨fun i x hx=>(h.fr i x hx).mono hIm hIw _ _ (Qaw hP hQ (h.clf i x hx)), ?_,h.inj,h.clf,h.clh,h.ge,h.lv,hb,h.df.step (fun b hb hd=>by rw [hk b (Qc2 hd) hb];exact hd),h.ts,fun b hb=>h.un b (Nat.le_trans hs hb),h.mb⟩
  intro k o ho
  obtain ⟨cs,T,fz,hr⟩:=h.obj k o ho
  refine ⟨cs,T,fz,by rw [hk _ (h.lt ho) (h.ge k o ho)];exact hr.at_,hr.size,hr.free,fun i x hx=>?_⟩
  obtain ⟨v,hv,hx'⟩:=hr.rep i x hx
  exact ⟨v,hv,hx'.mono hIm hIw _ _ (Qaw hP hQ (h.clh k o x ho (List.mem_of_getElem? hx)))⟩

def mset (m:Key→Nat) (k:Key) (b:Nat):Key→Nat:=fun j=>if j=k then b else m j

theorem Rel.alloc (h:Rel S0 N w0 m st a w) {k:Key} (hk:st.hp k=none) (o:Obj) {w':World} {cs:Array Value} {T:TypeId} {fz:Nat×Nat}
    (hheap:w'.heap=w.heap.push (Go.Obj.cells cs T fz)) (hos:w'.os=w.os) (htp:w'.tape=w.tape) (hout:w'.output=w.output)
    (hsz:o.cs.length≤cs.size) (hfree:∀ i,i<cs.size→¬ (fz.1≤i∧i<fz.2))
    (hrep:∀ (i:Nat) (x:A),o.cs[i]?=some x→∃ v:Value,cs[i]?=some v∧RepA m st.hp (Im S0 m st.hp w) w x v)
    (hcl:∀ x,x∈o.cs→QaS st.hp x):Rel S0 N w0 (mset m k w.heap.size) { st with hp:=hupd st.hp k o } a w':=by
  have hsize:w'.heap.size=w.heap.size+1:=by rw [hheap];simp
  have hold:∀ b,b<w.heap.size→w'.heap[b]?=w.heap[b]?:=by
    intro b hb
    rw [hheap,Array.getElem?_push,if_neg (by omega)]
  have hnew:w'.heap[w.heap.size]?=some (Go.Obj.cells cs T fz):=by rw [hheap];simp
  have hbel:Foot w0.lk w0.w w':=h.bel.more hos htp hout (by omega) fun b hb _=>hold b hb
  have hdf:Marks S0 w0 a.defers w':=h.df.step fun b _ hd=>by rw [hold b (Qc2 hd)];exact hd
  have hget:∀ q o',hupd st.hp k o q=some o'→(q=k∧o'=o)∨(q≠k∧st.hp q=some o'):=by
    intro q o' hq
    simp only [hupd,Qbw] at hq
    split at hq
    · rename_i e;cases hq;exact .inl ⟨e,rfl⟩
    · rename_i e;exact .inr ⟨e,hq⟩
  have hIm:∀ b,Im S0 m st.hp w b→Im S0 (mset m k w.heap.size) (hupd st.hp k o) w' b:=by
    rintro b ⟨h1,h2,h3⟩
    refine ⟨h1,by omega, ?_⟩
    rintro ⟨q,o',hq,hf,hm⟩
    rcases hget q o' hq with ⟨rfl,rfl⟩ | ⟨hne,hq'⟩
    · simp [mset] at hm;omega
    · exact h3 ⟨q,o',hq',hf,by simpa [mset,hne] using hm⟩
  have hIw:∀ b,Im S0 m st.hp w b→w'.heap[b]?=w.heap[b]?:=fun b hb=>hold b hb.2.1
  have hP:∀ q,QdW st.hp q→Ql0 m (mset m k w.heap.size) st.hp (hupd st.hp k o) q:=by
    rintro q ⟨oq,hq,_⟩ o' ho'
    have hne:q≠k:=by rintro rfl;rw [hk] at hq;cases hq
    exact ⟨⟨oq,hq⟩,by simp [mset,hne]⟩
  have hQ:∀ q n,QdT st.hp q n→Ql7 m (mset m k w.heap.size) st.hp (hupd st.hp k o) w w' q n:=by
    rintro q n ⟨oq,hq,_⟩ o' ho' hn
    have hne:q≠k:=by rintro rfl;rw [hk] at hq;cases hq
    rcases hget q o' ho' with ⟨e,_⟩ | ⟨_,hq'⟩
    · exact absurd e hne
    · exact ⟨o',hq',by simp [mset,hne],rfl,hn,fun cs' T' fz' hc=>⟨cs',fz',by rw [hold _ (h.lt hq')];exact hc,rfl⟩⟩
  have hB:∀ q,QdW st.hp q→QdW (hupd st.hp k o) q:=by
    rintro q ⟨oq,hq,he⟩
    have hne:q≠k:=by rintro rfl;rw [hk] at hq;cases hq
    exact ⟨oq,by simp [hupd,Qbw,hne,hq],he⟩
  have hA:∀ q n,QdT st.hp q n→QdT (hupd st.hp k o) q n:=by
    rintro q n ⟨oq,hq,he⟩
    have hne:q≠k:=by rintro rfl;rw [hk] at hq;cases hq
    exact ⟨oq,by simp [hupd,Qbw,hne,hq],he⟩
  have hmb:∀ q b,w0.mb q=some b→(∃ o',hupd st.hp k o q=some o'∧o'.es=0)∧mset m k w.heap.size q=b:=by
    intro q b hq
    obtain ⟨⟨oq,h1,h2⟩,h3⟩:=h.mb q b hq
    have hne:q≠k:=by rintro rfl;rw [hk] at h1;cases h1
    exact ⟨⟨oq,by simp [hupd,Qbw,hne,h1],h2⟩,by simp [mset,hne,h3]⟩
  refine ⟨fun i x hx=>(h.fr i x hx).mono hIm hIw _ _ (Qaw hP hQ (h.clf i x hx)), ?_, ?_,fun i x hx=>Qaw hB hA (h.clf i x hx), ?_, ?_, ?_,hbel,hdf,h.ts,fun b hb=>h.un b (by omega),hmb⟩
  · intro q o' hq
    rcases hget q o' hq with ⟨rfl,rfl⟩ | ⟨hne,hq'⟩
    · refine ⟨cs,T,fz,by simp only [mset,if_true];exact hnew,hsz,hfree,fun i x hx=>?_⟩
      obtain ⟨v,hv,hx'⟩:=hrep i x hx
      exact ⟨v,hv,hx'.mono hIm hIw _ _ (Qaw hP hQ (hcl x (List.mem_of_getElem? hx)))⟩
    · obtain ⟨cs',T',fz',hr⟩:=h.obj q o' hq'
      refine ⟨cs',T',fz',by simp only [mset,hne,if_false];rw [hold _ (h.lt hq')];exact hr.at_,hr.size,hr.free,fun i x hx=>?_⟩
      obtain ⟨v,hv,hx'⟩:=hr.rep i x hx
      exact ⟨v,hv,hx'.mono hIm hIw _ _ (Qaw hP hQ (h.clh q o' x hq' (List.mem_of_getElem? hx)))⟩
  · intro q q' o1 o2 h1 h2 he
    rcases hget q o1 h1 with ⟨rfl,rfl⟩ | ⟨hne,h1'⟩<;>rcases hget q' o2 h2 with ⟨e2,_⟩ | ⟨hne2,h2'⟩
    · exact e2.symm
    · simp only [mset,if_true,hne2,if_false] at he
      have:=h.lt h2';omega
    · subst e2
      simp only [mset,if_true,hne,if_false] at he
      have:=h.lt h1';omega
    · simp only [mset,hne,hne2,if_false] at he
      exact h.inj q q' o1 o2 h1' h2' he
  · intro q o' x hq hx
    rcases hget q o' hq with ⟨rfl,rfl⟩ | ⟨hne,hq'⟩
    · exact Qaw hB hA (hcl x hx)
    · exact Qaw hB hA (h.clh q o' x hq' hx)
  · intro q o' hq
    rcases hget q o' hq with ⟨rfl,rfl⟩ | ⟨hne,hq'⟩
    · simp only [mset,if_true];exact h.un _ (Nat.le_refl _)
    · simp only [mset,hne,if_false];exact h.ge q o' hq'
  · intro q o' hq hf
    rcases hget q o' hq with ⟨rfl,rfl⟩ | ⟨hne,hq'⟩
    · simp only [mset,if_true];exact .inr h.bel.size
    · simp only [mset,hne,if_false];exact h.lv q o' hq' hf

theorem Rel.change (h:Rel S0 N w0 m st a w) {k:Key} {o o':Obj} (hk:st.hp k=some o) (hes:o'.es=o.es) (hn:o.n≤o'.n) (hfz:o.fz=false) {b:Nat}
    (hb:(b=m k)∨(b=w.heap.size∧0<o.es∧o'.n≠o.n)) {w':World} {cs:Array Value} {T:TypeId} {fz:Nat×Nat}
    (hnew:w'.heap[b]?=some (Go.Obj.cells cs T fz)) (hold:∀ c,c<w.heap.size→c≠b→w'.heap[c]?=w.heap[c]?)
    (hT:b=m k→o'.n=o.n→∀ cs' T' fz',w.heap[m k]?=some (Go.Obj.cells cs' T' fz')→T'=T∧cs.size=cs'.size)
    (hsz':w.heap.size≤w'.heap.size) (hos:w'.os=w.os) (htp:w'.tape=w.tape) (hout:w'.output=w.output)
    (hsz:o'.cs.length≤cs.size) (hfree:∀ i,i<cs.size→¬ (fz.1≤i∧i<fz.2))
    (hrep:∀ (i:Nat) (x:A),o'.cs[i]?=some x→∃ v:Value,cs[i]?=some v∧RepA m st.hp (Im S0 m st.hp w) w x v)
    (hcl:∀ x,x∈o'.cs→QaS st.hp x):Rel S0 N w0 (mset m k b) { st with hp:=hupd st.hp k o' } a w':=by
  have hbs:S0 b:=by
    rcases hb with rfl | ⟨rfl,_⟩
    · exact h.ge k o hk
    · exact h.un _ (Nat.le_refl _)
  have hbl:w0.lk b∨w0.w.heap.size≤b:=by
    rcases hb with rfl | ⟨rfl,_⟩
    · exact h.lv k o hk hfz
    · exact .inr h.bel.size
  have hbel:Foot w0.lk w0.w w':=h.bel.more hos htp hout hsz' fun c hc hn=>hold c hc (fun e=>hn (e ▸ hbl))
  have hdf:Marks S0 w0 a.defers w':=h.df.step fun c _ hd=>by
    rw [hold c (Qc2 hd)]
    · exact hd
    · rintro rfl
      rcases hb with rfl | ⟨rfl,_⟩
      · obtain ⟨cs1,T1,fz1,ho1⟩:=h.obj k o hk
        rw [ho1.at_] at hd;cases hd
      · have:=Qc2 hd;omega
  have hget:∀ q o2,hupd st.hp k o' q=some o2→(q=k∧o2=o')∨(q≠k∧st.hp q=some o2):=by
    intro q o2 hq
    simp only [hupd,Qbw] at hq
    split at hq
    · rename_i e;cases hq;exact .inl ⟨e,rfl⟩
    · rename_i e;exact .inr ⟨e,hq⟩
  have hmq:∀ q o2,q≠k→st.hp q=some o2→m q≠b:=by
    intro q o2 hne hq he
    rcases hb with rfl | ⟨rfl,_⟩
    · exact hne (h.inj q k o2 o hq hk he)
    · have:=h.lt hq;omega
  have hIb:∀ c,Im S0 m st.hp w c→c≠b:=by
    rintro c ⟨_,h2,h3⟩ rfl
    rcases hb with rfl | ⟨rfl,_⟩
    · exact h3 ⟨k,o,hk,hfz,rfl⟩
    · omega
  have hIm:∀ c,Im S0 m st.hp w c→Im S0 (mset m k b) (hupd st.hp k o') w' c:=by
    intro c hc
    have hcb:=hIb c hc
    obtain ⟨h1,h2,h3⟩:=hc
    refine ⟨h1,by omega, ?_⟩
    rintro ⟨q,o2,hq,hf,hm⟩
    rcases hget q o2 hq with ⟨rfl,rfl⟩ | ⟨hne,hq'⟩
    · simp only [mset,if_true] at hm;exact hcb hm.symm
    · exact h3 ⟨q,o2,hq',hf,by simpa [mset,hne] using hm⟩
  have hIw:∀ c,Im S0 m st.hp w c→w'.heap[c]?=w.heap[c]?:=fun c hc=>hold c hc.2.1 (hIb c hc)
  have hP:∀ q,QdW st.hp q→Ql0 m (mset m k b) st.hp (hupd st.hp k o') q:=by
    rintro q ⟨oq,hq,hes0⟩ o2 ho2
    refine ⟨⟨oq,hq⟩, ?_⟩
    by_cases hne:q=k
    · subst hne
      rw [hk] at hq;cases hq
      rcases hb with rfl | ⟨_,h0,_⟩
      · simp [mset]
      · omega
    · simp [mset,hne]
  have hQ:∀ q n,QdT st.hp q n→Ql7 m (mset m k b) st.hp (hupd st.hp k o') w w' q n:=by
    rintro q n ⟨oq,hq,_,hle⟩ o2 ho2 hn2
    rcases hget q o2 ho2 with ⟨rfl,rfl⟩ | ⟨hne,hq'⟩
    · rw [hk] at hq;cases hq
      have hon:o.n=n:=by omega
      rcases hb with rfl | ⟨_,_,hx⟩
      · refine ⟨o,hk,by simp [mset],hes.symm,hon,fun cs' T' fz' hc=>?_⟩
        obtain ⟨rfl,hs⟩:=hT rfl (hn2.trans hon.symm) cs' T' fz' hc
        exact ⟨cs,fz,hnew,hs⟩
      · exact absurd (hn2.trans hon.symm) hx
    · refine ⟨o2,hq',by simp [mset,hne],rfl,hn2,fun cs' T' fz' hc=>⟨cs',fz', ?_,rfl⟩⟩
      rw [hold _ (h.lt hq') (hmq q o2 hne hq')];exact hc
  have hB:∀ q,QdW st.hp q→QdW (hupd st.hp k o') q:=by
    rintro q ⟨oq,hq,he⟩
    by_cases hne:q=k
    · subst hne
      rw [hk] at hq;cases hq
      exact ⟨o',by simp [hupd,Qbw],hes.trans he⟩
    · exact ⟨oq,by simp [hupd,Qbw,hne,hq],he⟩
  have hA:∀ q n,QdT st.hp q n→QdT (hupd st.hp k o') q n:=by
    rintro q n ⟨oq,hq,he,hle⟩
    by_cases hne:q=k
    · subst hne
      rw [hk] at hq;cases hq
      exact ⟨o',by simp [hupd,Qbw],by omega,by omega⟩
    · exact ⟨oq,by simp [hupd,Qbw,hne,hq],he,hle⟩
  have hmb:∀ q b',w0.mb q=some b'→(∃ o2,hupd st.hp k o' q=some o2∧o2.es=0)∧mset m k b q=b':=by
    intro q b' hq
    obtain ⟨⟨oq,h1,h2⟩,h3⟩:=h.mb q b' hq
    by_cases hne:q=k
    · subst hne
      rw [hk] at h1;cases h1
      rcases hb with rfl | ⟨_,h0,_⟩
      · exact ⟨⟨o',by simp [hupd,Qbw],hes.trans h2⟩,by simp [mset,h3]⟩
      · omega
    · exact ⟨⟨oq,by simp [hupd,Qbw,hne,h1],h2⟩,by simp [mset,hne,h3]⟩
  refine ⟨fun i x hx=>(h.fr i x hx).mono hIm hIw _ _ (Qaw hP hQ (h.clf i x hx)), ?_, ?_,fun i x hx=>Qaw hB hA (h.clf i x hx), ?_, ?_, ?_,hbel,hdf,h.ts,fun b hb=>h.un b (by omega),hmb⟩
  · intro q o2 hq
    rcases hget q o2 hq with ⟨rfl,rfl⟩ | ⟨hne,hq'⟩
    · refine ⟨cs,T,fz,by simp only [mset,if_true];exact hnew,hsz,hfree,fun i x hx=>?_⟩
      obtain ⟨v,hv,hx'⟩:=hrep i x hx
      exact ⟨v,hv,hx'.mono hIm hIw _ _ (Qaw hP hQ (hcl x (List.mem_of_getElem? hx)))⟩
    · obtain ⟨cs',T',fz',hr⟩:=h.obj q o2 hq'
      refine ⟨cs',T',fz',by simp only [mset,hne,if_false];rw [hold _ (h.lt hq') (hmq q o2 hne hq')];exact hr.at_,hr.size,hr.free,fun i x hx=>?_⟩
      obtain ⟨v,hv,hx'⟩:=hr.rep i x hx
      exact ⟨v,hv,hx'.mono hIm hIw _ _ (Qaw hP hQ (h.clh q o2 x hq' (List.mem_of_getElem? hx)))⟩
  · intro q q' o1 o2 h1 h2 he
    rcases hget q o1 h1 with ⟨rfl,rfl⟩ | ⟨hne,h1'⟩<;>rcases hget q' o2 h2 with ⟨e2,_⟩ | ⟨hne2,h2'⟩
    · exact e2.symm
    · simp only [mset,if_true,hne2,if_false] at he
      exact absurd he.symm (hmq q' o2 hne2 h2')
    · subst e2
      simp only [mset,if_true,hne,if_false] at he
      exact absurd he (hmq q o1 hne h1')
    · simp only [mset,hne,hne2,if_false] at he
      exact h.inj q q' o1 o2 h1' h2' he
  · intro q o2 x hq hx
    rcases hget q o2 hq with ⟨rfl,rfl⟩ | ⟨hne,hq'⟩
    · exact Qaw hB hA (hcl x hx)
    · exact Qaw hB hA (h.clh q o2 x hq' hx)
  · intro q o2 hq
    rcases hget q o2 hq with ⟨rfl,rfl⟩ | ⟨hne,hq'⟩
    · simp only [mset,if_true];exact hbs
    · simp only [mset,hne,if_false];exact h.ge q o2 hq'
  · intro q o2 hq hf
    rcases hget q o2 hq with ⟨rfl,rfl⟩ | ⟨hne,hq'⟩
    · simp only [mset,if_true];exact hbl
    · simp only [mset,hne,if_false];exact h.lv q o2 hq' hf

theorem Rel.freeze (h:Rel S0 N w0 m st a w) {k:Key} {o:Obj} (hk:st.hp k=some o):Rel S0 N w0 m { st with hp:=hupd st.hp k { o with fz:=true } } a w:=by
 have hget:∀ q o2,hupd st.hp k { o with fz:=true } q=some o2→∃ o1,st.hp q=some o1∧o2.es=o1.es∧o2.n=o1.n∧o2.cs=o1.cs∧(o2.fz=false→o1.fz=false):=by
  intro q o2 hq
  simp only [hupd,Qbw] at hq
  split at hq
  ·rename_i e;cases hq;subst e;exact ⟨o,hk,rfl,rfl,rfl,fun hf=>by cases hf⟩
  ·exact ⟨o2,hq,rfl,rfl,rfl,id⟩
 have hset:∀ q o1,st.hp q=some o1→∃ o2,hupd st.hp k { o with fz:=true } q=some o2∧o2.es=o1.es∧o2.n=o1.n:=by
  intro q o1 hq
  simp only [hupd,Qbw]
  split
  ·rename_i e;subst e;rw [hk] at hq;cases hq;exact ⟨_,rfl,rfl,rfl⟩
  ·exact ⟨o1,hq,rfl,rfl⟩
 have hIm:∀ c,Im S0 m st.hp w c→Im S0 m (hupd st.hp k { o with fz:=true }) w c:=by
  rintro c ⟨h1,h2,h3⟩
  refine ⟨h1,h2, ?_⟩
  rintro ⟨q,o2,hq,hf,hm⟩
  obtain ⟨o1,h4,_,_,_,h5⟩:=hget q o2 hq
  exact h3 ⟨q,o1,h4,h5 hf,hm⟩
 have hP:∀ q,QdW st.hp q→Ql0 m m st.hp (hupd st.hp k { o with fz:=true }) q:=fun q ⟨oq,hq,_⟩ _ _=>⟨⟨oq,hq⟩,rfl⟩
 have hQ:∀ q n,QdT st.hp q n→Ql7 m m st.hp (hupd st.hp k { o with fz:=true }) w w q n:=by
  intro q n _ o2 ho2 hn2
  obtain ⟨o1,h4,h5,h6,_,_⟩:=hget q o2 ho2
  exact ⟨o1,h4,rfl,h5.symm,h6.symm.trans hn2,fun cs' T' fz' hc=>⟨cs',fz',hc,rfl⟩⟩
 have hB:∀ q,QdW st.hp q→QdW (hupd st.hp k { o with fz:=true }) q:=by
  rintro q ⟨oq,hq,he⟩
  obtain ⟨o2,h1,h2,_⟩:=hset q oq hq
  exact ⟨o2,h1,h2.trans he⟩
 have hA:∀ q n,QdT st.hp q n→QdT (hupd st.hp k { o with fz:=true }) q n:=by
  rintro q n ⟨oq,hq,he,hle⟩
  obtain ⟨o2,h1,h2,h3⟩:=hset q oq hq
  exact ⟨o2,h1,by omega,by omega⟩
 refine ⟨fun i x hx=>(h.fr i x hx).mono hIm (fun _ _=>rfl) _ _ (Qaw hP hQ (h.clf i x hx)), ?_, ?_,fun i x hx=>Qaw hB hA (h.clf i x hx), ?_, ?_, ?_,h.bel,h.df,h.ts,h.un,fun q b hq=>let ⟨⟨oq,h1,h2⟩,h3⟩:=h.mb q b hq;let ⟨o2,h4,h5,_⟩:=hset q oq h1;⟨⟨o2,h4,h5.trans h2⟩,h3⟩⟩
 ·intro q o2 hq
  obtain ⟨o1,h4,h5,h6,h7,_⟩:=hget q o2 hq
  obtain ⟨cs',T',fz',hr⟩:=h.obj q o1 h4
  refine ⟨cs',T',fz',hr.at_,by rw [h7];exact hr.size,hr.free,fun i x hx=>?_⟩
  rw [h7] at hx
  obtain ⟨v,hv,hx'⟩:=hr.rep i x hx
  exact ⟨v,hv,hx'.mono hIm (fun _ _=>rfl) _ _ (Qaw hP hQ (h.clh q o1 x h4 (List.mem_of_getElem? hx)))⟩
 ·intro q q' o1 o2 h1 h2 he
  obtain ⟨_,h3,_⟩:=hget q o1 h1
  obtain ⟨_,h4,_⟩:=hget q' o2 h2
  exact h.inj q q' _ _ h3 h4 he
 ·intro q o2 x hq hx
  obtain ⟨o1,h4,_,_,h7,_⟩:=hget q o2 hq
  rw [h7] at hx
  exact Qaw hB hA (h.clh q o1 x h4 hx)
 ·intro q o2 hq
  obtain ⟨o1,h4,_⟩:=hget q o2 hq
  exact h.ge q o1 h4
 ·intro q o2 hq hf
  obtain ⟨o1,h4,_,_,_,h5⟩:=hget q o2 hq
  exact h.lv q o1 h4 (h5 hf)

theorem Rel.forget (h:Rel S0 N w0 m st a w) {st':St} (hf:∀ i x,st'.fr i=some x→st.fr i=some x) (hh:∀ k o,st'.hp k=some o→st.hp k=some o)
    (hmb:∀ k b,w0.mb k=some b→st'.hp k=st.hp k) (hcf:∀ i x,st'.fr i=some x→QaS st'.hp x) (hch:∀ k o x,st'.hp k=some o→x∈o.cs→QaS st'.hp x):Rel S0 N w0 m st' a w:=by
  have hIm:∀ c,Im S0 m st.hp w c→Im S0 m st'.hp w c:=by
    rintro c ⟨h1,h2,h3⟩
    refine ⟨h1,h2, ?_⟩
    rintro ⟨q,o2,hq,hf,hm⟩
    exact h3 ⟨q,o2,hh q o2 hq,hf,hm⟩
  have hP:∀ q,QdW st'.hp q→Ql0 m m st.hp st'.hp q:=fun q ⟨oq,hq,_⟩ _ _=>⟨⟨oq,hh q oq hq⟩,rfl⟩
  have hQ:∀ q n,QdT st'.hp q n→Ql7 m m st.hp st'.hp w w q n :=
    fun q n _ o2 ho2 hn2=>⟨o2,hh q o2 ho2,rfl,rfl,hn2,fun cs' T' fz' hc=>⟨cs',fz',hc,rfl⟩⟩
  refine ⟨fun i x hx=>(h.fr i x (hf i x hx)).mono hIm (fun _ _=>rfl) _ _ (Qaw hP hQ (hcf i x hx)), ?_,fun q q' o1 o2 h1 h2 he=>h.inj q q' o1 o2 (hh _ _ h1) (hh _ _ h2) he,hcf,hch,
    fun q o hq=>h.ge q o (hh _ _ hq),fun q o hq=>h.lv q o (hh _ _ hq),h.bel,h.df,h.ts,h.un,fun q b hq=>by rw [hmb q b hq];exact h.mb q b hq⟩
  intro q o2 hq
  obtain ⟨cs',T',fz',hr⟩:=h.obj q o2 (hh _ _ hq)
  refine ⟨cs',T',fz',hr.at_,hr.size,hr.free,fun i x hx=>?_⟩
  obtain ⟨v,hv,hx'⟩:=hr.rep i x hx
  exact ⟨v,hv,hx'.mono hIm (fun _ _=>rfl) _ _ (Qaw hP hQ (hch q o2 x hq (List.mem_of_getElem? hx)))⟩
end
end Go.AM

/- One operation of the small language stands for the model's. Part 1: what is common; moves, numbers, loads, addresses. -/
namespace Go.AM
open Go Go.RowKit

structure FOk (F:Fence):Prop where
 fn:∀ f,F.fn f
 dep:F.depth=none
 call:∀ {P:Program} {f:FuncId} {args:Array Value} {w:World} {R:Ending→World→Prop} {n:Nat},Calls P f args w R→CallsIn F n P f args w R

theorem wide_ok:FOk Fence.wide:=⟨fun _=>trivial,rfl,fun h=>callsIn_wide.2 h⟩

section
variable {F:Fence} {n:Nat} {P:Program} {o:Oper} {a:Act} {w:World} {K:Act→World→Prop} {Q:Exit→Act→World→Prop}

theorem QdJ (hF:FOk F) (hnd:∀ c,o.op≠.defer c) {v:Value} {w':World} (hr:(execOp a.eval o).run P w=.ok (.value v) w') (hK:K (a.put o.dst v) w'):o.wpIn F n P a w K Q :=
 ⟨fun f _=>hF.fn f,by rw [Oper.semAt_eq _ _ _ hnd,hr];exact hK⟩
theorem Qn9 (hF:FOk F) (hnd:∀ c,o.op≠.defer c) {w':World} (hr:(execOp a.eval o).run P w=.ok .skip w') (hK:K (a.put o.dst undef) w'):o.wpIn F n P a w K Q :=
 ⟨fun f _=>hF.fn f,by rw [Oper.semAt_eq _ _ _ hnd,hr];exact hK⟩
end

section
variable (S0:Nat→Prop) (N:Nat) (w0:Wd)
def Post (st:St) (h':Hp) (a:Act) (x:A) (dst:Option Tmp) (K:Act→World→Prop):Prop :=
 ∀ (m':Key→Nat) (v:Value) (w':World),Rel S0 N w0 m' { st with hp:=h' } a w'→RepA m' h' (Im S0 m' h' w') w' x v→QaS h' x→K (a.put dst v) w'
end

/-! ### Inversion of data -/
section
variable {m:Key→Nat} {hp:Hp} {S:Nat→Prop} {w:World}
theorem QfB {x v:Value} (h:RepA m hp S w (.d (.v x)) v):v=x:=by
 cases h with | d _ _ h=>cases h;rfl
theorem QhI {x:D} {v:Value} (h:RepA m hp S w (.d x) v):RepD S w x v:=by
 cases h with | d _ _ h=>exact h
theorem int?_some {y:A} {n:Int} (h:y.int?=some n):∃ k,y=.d (.v (.int k n)):=by
  unfold A.int? at h
  split at h
  · rename_i k n';cases h;exact ⟨k,rfl⟩
  · cases h
theorem bool?_some {y:A} {b:Bool} (h:y.bool?=some b):y=.d (.v (.bool b)):=by
  unfold A.bool? at h
  split at h
  · cases h;rfl
  · cases h
theorem QlR {y:A} {x:Value} (h:valA y=some x):y=.d (.v x):=by
  unfold valA at h
  split at h
  · cases h;rfl
  · cases h
theorem QiU {y:A} {x:ByteArray} (h:strA y=some x):y=.d (.v (.string x)):=by
  unfold strA at h
  split at h
  · cases h;rfl
  · cases h
theorem aggA_some {y:A} {x:List D} (h:aggA y=some x):y=.d (.agg x):=by
  unfold aggA at h
  split at h
  · cases h;rfl
  · cases h
theorem Qqo {y:A} {x:Nat×List D} (h:fnA y=some x):y=.d (.fn x.1 x.2):=by
  unfold fnA at h
  split at h
  · cases h;rfl
  · cases h
theorem Qaf {α:Type} {p:Prop} [Decidable p] {x:Option α} {y:α} (h:guardO p x=some y):p∧x=some y:=by
  unfold guardO at h
  split at h
  · exact ⟨‹p›,h⟩
  · cases h
end

/-! ### Cells that are loaded -/
theorem getD_eq {α:Type} (l:List α) (d:α) (j:Nat) (h:j<l.length):l[j]?=some (l.getD j d):=by
 simp [List.getD,List.getElem?_eq_getElem h]

section
variable {S0:Nat→Prop} {N:Nat} {w0:Wd} {m:Key→Nat} {st:St} {a:Act} {w:World}

theorem Qe1 {xs:List A} {ds:List D} (h:allD xs=some ds):xs=ds.map .d:=by
 induction xs generalizing ds with
 | nil=>cases h;rfl
 | cons x r ih =>
  cases x with
  | d y =>
   simp only [allD,Option.map_eq_some_iff] at h
   obtain ⟨l,h1,rfl⟩:=h
   rw [ih h1];rfl
  | _=>simp [allD] at h
theorem Qhi (ds:List D):allD (ds.map .d)=some ds:=by
 induction ds with
 | nil=>rfl
 | cons d r ih=>simp [allD,ih]

theorem Qee        {hp:Hp} {S:Nat→Prop} {k:Key} {o:Obj} {cs:Array Value} {T:TypeId} {fz:Nat×Nat} (hr:ObjRep m hp S w k o cs T fz) (off:Nat):∀ (ds:List D) (i:Nat),
    (∀ j d,ds[j]?=some d→o.cs[off+i+j]?=some (A.d d))→∃ vs:List Value,RepL S w ds vs∧∀ j v,vs[j]?=some v→cs[off+i+j]?=some v
  | [],i,_=>⟨[],.nil,by simp⟩
  | d :: r,i,h=>by
    obtain ⟨v,hv,hx⟩:=hr.rep (off+i) (.d d) (by simpa using h 0 d (by simp))
    obtain ⟨vs,h1,h2⟩:=Qee hr off r (i+1) (fun j d' hj=>by
      have:=h (j+1) d' (by simpa using hj)
      rw [show off+i+(j+1)=off+(i+1)+j by omega] at this;exact this)
    refine ⟨v :: vs,.cons _ _ _ _ (QhI hx) h1,fun j u hj=>?_⟩
    cases j with
    | zero=>simp at hj;subst hj;simpa using hv
    | succ j =>
      have:=h2 j u (by simpa using hj)
      rw [show off+i+(j+1)=off+(i+1)+j by omega];exact this

theorem Qch {w:World} {b off:Nat} {cs:Array Value} {T:TypeId} {fz:Nat×Nat} (h:w.heap[b]?=some (Go.Obj.cells cs T fz)) (i:Nat):w.cell? ((⟨b,off,none⟩:Addr).add i)=cs[off+i]?:=by
 have:(⟨b,off,none⟩:Addr).add i=⟨b,off+i,none⟩:=by
  unfold Addr.add
  split
  ·rename_i e;subst e;rfl
  ·rfl
 rw [this]
 simp [World.cell?,h]

theorem QgQ        {P:Program} {t:TypeId} {sz:Option Nat} (hsz:ldSz P t=some sz) {ad:Addr} {x:A} {v:Value}
    (h:match sz with
      | none=>w.cell? ad=some v
      | some s=>∃ vs:List Value,vs.length=s∧(∀ j u,vs[j]?=some u→w.cell? (ad.add j)=some u)∧v=.agg vs.toArray) :
    (Instr.loadAt t (.pointer (some ad))).run P w=.ok v w:=by
  unfold ldSz isAggT at hsz
  simp only [Option.bind_eq_some_iff,Option.map_eq_some_iff] at hsz
  obtain ⟨b,⟨d,hd,hb⟩,hsz⟩:=hsz
  have hund:(underlying t).run P w=.ok d w:=by simp [underlying,hd]
  have hagg:(isAgg t).run P w=.ok b w:=by
    unfold isAgg
    simp only [Sem.run_bind,hund,Result.andThen_ok]
    subst hb
    cases d<;>rfl
  cases b with
  | false =>
    simp only [Bool.false_eq_true,if_false,Option.some.injEq] at hsz
    subst hsz
    simp only at h
    simp [Instr.loadAt,Instr.sureAddr,loadVar,hagg,h]
  | true =>
    simp only [if_true,Option.map_eq_some_iff] at hsz
    obtain ⟨i,hi,rfl⟩:=hsz
    obtain ⟨vs,hl,hc,rfl⟩:=h
    have hsize:(sizeOf t).run P w=.ok i.size w:=by simp [sizeOf,typeInfo,hi]
    have:=run_loadCells_list (P:=P) w ad vs hc
    rw [hl] at this
    simp [Instr.loadAt,Instr.sureAddr,loadVar,hagg,hsize,this]

theorem QiM (b off o:Nat):((⟨b,off,none⟩:Addr).add o)=⟨b,off+o,none⟩:=by
 unfold Addr.add
 split
 ·rename_i e;subst e;rfl
 ·rfl

theorem Qmb        (hR:Rel S0 N w0 m st a w) {P:Program} {t:TypeId} {sz:Option Nat} (hsz:ldSz P t=some sz) {y x:A} {v:Value}
    (hy:RepA m st.hp (Im S0 m st.hp w) w y v) (hl:Qco st.hp sz y=some x) :
    ∃ u,(Instr.loadAt t v).run P w=.ok u w∧RepA m st.hp (Im S0 m st.hp w) w x u∧QaS st.hp x:=by
  have box : ∀ (k : Key) (o : Obj) (off : Nat), st.hp k = some o → v = .pointer (some ⟨m k, off, none⟩) → Qab     sz off o.cs = some x →
      ∃ u,(Instr.loadAt t v).run P w=.ok u w∧RepA m st.hp (Im S0 m st.hp w) w x u∧QaS st.hp x:=by
    intro k o off hk hv hx
    obtain ⟨cs,T,fz,ho⟩:=hR.obj k o hk
    subst hv
    cases sz with
    | none =>
      simp only [Qab] at hx
      obtain ⟨u,hu,hrep⟩:=ho.rep off x hx
      refine ⟨u,QgQ hsz (x:=x) ?_,hrep,hR.clh k o x hk (List.mem_of_getElem? hx)⟩
      show w.cell? _=some u
      have:=Qch (off:=off) ho.at_ 0
      simp only [Nat.add_zero] at this
      rw [show (⟨m k,off,none⟩:Addr)=(⟨m k,off,none⟩:Addr).add 0 by simp [Addr.add],this]
      exact hu
    | some s =>
      simp only [Qab] at hx
      obtain ⟨hle,hx⟩:=Qaf hx
      simp only [Option.map_eq_some_iff] at hx
      obtain ⟨ds,hds,rfl⟩:=hx
      have hmap:=Qe1 hds
      have hlen:ds.length=s:=by
        have:=congrArg List.length hmap
        simp at this;omega
      obtain ⟨vs,h1,h2⟩:=Qee ho off ds 0 (fun j d hj=>by
        have hj':j<ds.length:=(List.getElem?_eq_some_iff.1 hj).1
        have e:((o.cs.drop off).take s)[j]?=some (A.d d):=by rw [hmap];simp [hj]
        rw [List.getElem?_take,if_pos (by omega),List.getElem?_drop] at e
        simpa using e)
      refine ⟨.agg vs.toArray,QgQ hsz (x:=.d (.agg ds)) ⟨vs,by rw [← h1.length];exact hlen,fun j u hj=>?_,rfl⟩,.d _ _ (.agg _ _ h1),trivial⟩
      rw [Qch ho.at_]
      have:=h2 j u hj
      simpa using this
  cases hy with
  | ptr k off _ _ h =>
    simp only [Qco,Option.bind_eq_some_iff] at hl
    obtain ⟨o,hk,hx⟩:=hl
    exact box k o off hk (h o hk) hx
  | ep k n off _ _ h =>
    simp only [Qco,Option.bind_eq_some_iff] at hl
    obtain ⟨o,hk,hx⟩:=hl
    obtain ⟨hn,hx⟩:=Qaf hx
    exact box k o off hk (h o hk hn) hx
  | d y _ h =>
    cases h with
    | rp cs ad vs h2 h3 h4 =>
      simp only [Qco] at hl
      cases sz with
      | none =>
        simp only [QjV,Option.map_eq_some_iff] at hl
        obtain ⟨d,hd,rfl⟩:=hl
        obtain ⟨u,hu,hrep⟩:=h3.get 0 d (by rw [← List.head?_eq_getElem?];exact hd)
        refine ⟨u,QgQ hsz (x:=.d d) ?_,.d _ _ hrep,trivial⟩
        have:=h4 0 u hu
        simpa [Addr.add] using this
      | some s =>
        simp only [QjV] at hl
        obtain ⟨hle,hl⟩:=Qaf hl
        cases hl
        have hlen:=h3.length
        exact ⟨.agg (vs.take s).toArray,QgQ hsz (x:=.d (.agg (cs.take s))) ⟨vs.take s,by simp;omega,fun j u hj=>(h4.take s) j u hj,rfl⟩,.d _ _ (.agg _ _ (h3.take s)),trivial⟩
    | rc f pre ad vs h2 h3 h4 =>
      simp only [Qco] at hl
      obtain ⟨rfl,hl⟩:=Qaf hl
      cases hl
      exact ⟨.func (.func f) #[] (vs++[Value.pointer (some ad)]).toArray,QgQ hsz (x:=.d (.fn f (pre++[.rc f pre]))) h4,.d _ _ (.fn f (pre++[.rc f pre]) (vs++[Value.pointer (some ad)]) (h3.append (.cons _ _ _ _ (.rc f pre ad vs h2 h3 h4) .nil))),trivial⟩
    | _=>simp [Qco] at hl
  | own k n _ _ h=>simp [Qco] at hl
  | tup xs vs h=>simp [Qco] at hl
  | fn f xs vs h=>simp [Qco] at hl
end
end Go.AM

/- Part 2: stores. -/
namespace Go.AM
open Go Go.RowKit

theorem QjH     {α:Type} (l new:List α) (off:Nat) (h:off+new.length≤l.length) (i:Nat) :
    (l.take off++new++l.drop (off+new.length))[i]?=if i<off then l[i]? else if i<off+new.length then new[i-off]? else l[i]?:=by
  have h0:(l.take off).length=off:=by simp;omega
  by_cases h1:i<off
  · rw [if_pos h1,List.append_assoc,List.getElem?_append_left (by omega),List.getElem?_take,if_pos h1]
  · rw [if_neg h1]
    by_cases h2:i<off+new.length
    · rw [if_pos h2,List.getElem?_append_left (by simp;omega),List.getElem?_append_right (by omega),h0]
    · rw [if_neg h2,List.getElem?_append_right (by simp;omega),List.getElem?_drop]
      congr 1
      simp;omega

theorem QdK               (P:Program) (g o:Nat) (t:TypeId) (fz:Nat×Nat):∀ (vs:List Value) (i:Nat) (cur:Array Value) (w:World),w.heap[g]?=some (Go.Obj.cells cur t fz) →
    (∀ k,o+i≤k→k<o+i+vs.length→¬ (fz.1≤k∧k<fz.2))→o+i+vs.length≤cur.size→(∀ v∈vs,v.oneCell'=true) →
    (storeCells ⟨g,o,none⟩ vs i).run P w=.ok () (w.setRow g (cur.toList.take (o+i)++vs++cur.toList.drop (o+i+vs.length)).toArray)
  | [],i,cur,w,hg,_,_,_=>by
    simp only [storeCells,List.append_nil,List.length_nil,Nat.add_zero,List.take_append_drop,Array.toArray_toList]
    rw [setRow_self w g cur t fz hg]
    rfl
  | v :: rest,i,cur,w,hg,hfz,hl,h1=>by
    have hi:o+i<cur.size:=by simp at hl;omega
    have hadd:(⟨g,o,none⟩:Addr).add i=⟨g,o+i,none⟩:=QiM g o i
    have hcell:w.cell? ⟨g,o+i,none⟩=some cur[o+i]:=by simp [World.cell?,hg,hi]
    have hfro:w.frozen? ⟨g,o+i,none⟩=false:=by
      have:=hfz (o+i) (Nat.le_refl _) (by simp)
      simp only [World.frozen?,hg,Bool.and_eq_false_iff,decide_eq_false_iff_not]
      by_cases hx:fz.1≤o+i
      · right;exact fun hy=>this ⟨hx,hy⟩
      · left;exact hx
    have hst:(store ((⟨g,o,none⟩:Addr).add i) v).run P w=.ok () (w.setRow g (cur.setIfInBounds (o+i) v)):=by
      rw [hadd,run_store P w _ v _ (h1 v (by simp)),hcell]
      simp [hfro,setCell_eq_setRow w g (o+i) cur t fz v hg]
    have ih:=QdK P g o t fz rest (i+1) (cur.setIfInBounds (o+i) v) (w.setRow g (cur.setIfInBounds (o+i) v)) (setRow_heap w g cur _ t _ hg)
      (fun k hk1 hk2=>hfz k (by omega) (by simp;omega)) (by simp at hl ⊢;omega) (fun x hx=>h1 x (by simp [hx]))
    simp only [storeCells,Sem.run_bind,hst,Result.andThen_ok,ih,setRow_setRow]
    congr 3
    have e:=list_seg_step cur.toList (o+i) v rest (by simp at hl ⊢;omega)
    simpa [Array.toList_setIfInBounds,Nat.add_assoc] using e

section
variable {m:Key→Nat} {hp:Hp} {S:Nat→Prop} {w:World}

theorem Qnn {y:A} {u:Value} (h:RepA m hp S w y u) (h1:y.one=true):u.oneCell'=true:=by
 cases h with
 | d x _ h =>
  cases h with
  | v =>
   cases u<;>first | rfl | (simp [A.one] at h1)
  | agg cs vs h=>simp [A.one] at h1
  | tup cs vs h=>simp [A.one] at h1
  | _=>rfl
 | own k n _ hs h=>obtain ⟨a,cap,rfl⟩:=hs;rfl
 | ptr k o _ hs h=>obtain ⟨a,rfl⟩:=hs;rfl
 | ep k n o _ hs h=>obtain ⟨a,rfl⟩:=hs;rfl
 | tup xs vs h=>simp [A.one] at h1
 | fn f xs vs h=>rfl

theorem cells_one {u:Value} (h:u.oneCell'=true):u.cells=#[u]:=by cases u<;>first | rfl | (simp [Value.oneCell'] at h)

theorem Qoz       {y:A} {u:Value} (h:RepA m hp S w y u) (h1:(QaA     y).all A.one=true) :
    ∃ vs:List Value,u.cells=vs.toArray∧vs.length=(QaA y).length∧(∀ (i:Nat) (x:A),(QaA y)[i]?=some x→∃ v:Value,vs[i]?=some v∧RepA m hp S w x v)∧∀ v∈vs,v.oneCell'=true:=by
  have single:QaA y=[y]→∃ vs:List Value,u.cells=vs.toArray∧vs.length=(QaA y).length∧(∀ (i:Nat) (x:A),(QaA y)[i]?=some x→∃ v:Value,vs[i]?=some v∧RepA m hp S w x v)∧∀ v∈vs,v.oneCell'=true:=by
    intro hc
    rw [hc] at h1 ⊢
    have h1':y.one=true:=by simpa using h1
    have ho:=Qnn h h1'
    refine ⟨[u],cells_one ho,rfl,fun i x hx=>?_,by simpa using ho⟩
    cases i with
    | zero=>simp at hx;subst hx;exact ⟨u,by simp,h⟩
    | succ i=>simp at hx
  cases y with
  | d x =>
    cases x with
    | agg ds =>
      have hd:=QhI h
      cases hd with
      | agg _ vs hl =>
        refine ⟨vs,rfl,by simp [QaA,hl.length],fun i x hx=>?_,fun v hv=>?_⟩
        · simp only [QaA,List.getElem?_map,Option.map_eq_some_iff] at hx
          obtain ⟨d,hd,rfl⟩:=hx
          obtain ⟨v,h2,h3⟩:=hl.get i d hd
          exact ⟨v,h2,.d _ _ h3⟩
        · obtain ⟨i,hi,hv⟩:=List.mem_iff_getElem.1 hv
          have hi':i<ds.length:=by rw [hl.length];exact hi
          obtain ⟨v',h2,h3⟩:=hl.get i ds[i] (by simp [hi'])
          have:v'=v:=by
            rw [List.getElem?_eq_getElem hi] at h2
            cases h2;exact hv
          subst this
          refine Qnn (RepA.d (m:=m) (hp:=hp) _ _ h3) ?_
          have:=List.all_eq_true.1 h1 (A.d ds[i]) (by simp only [QaA];exact List.mem_map.2 ⟨ds[i],List.getElem_mem hi',rfl⟩)
          exact this
    | _=>exact single rfl
  | _=>exact single rfl
end

section
variable {S0:Nat→Prop} {N:Nat} {w0:Wd} {m:Key→Nat} {st:St} {a:Act} {w:World}

theorem Qgs (w:World) (g:Nat) (cs:Array Value) (c:Nat) (h:c≠g):(w.setRow g cs).heap[c]?=w.heap[c]?:=by
 simp only [World.setRow,Array.getElem?_modify]
 rw [if_neg (Ne.symm h)]
theorem Qit (w:World) (g:Nat) (cs:Array Value):(w.setRow g cs).heap.size=w.heap.size:=by
 simp [World.setRow]

theorem Qki {y:A} (h:QaS st.hp y):∀ x,x∈QaA y→QaS st.hp x:=by
 intro x hx
 unfold QaA at hx
 split at hx
 ·obtain ⟨d,_,rfl⟩:=List.mem_map.1 hx;trivial
 ·simp at hx;subst hx;exact h

theorem mem_seg {α:Type} {l new:List α} {i j:Nat} {x:α} (h:x∈l.take i++new++l.drop j):x∈l∨x∈new:=by
 simp only [List.mem_append] at h
 rcases h with (h | h) | h
 ·exact .inl (List.mem_of_mem_take h)
 ·exact .inr h
 ·exact .inl (List.mem_of_mem_drop h)

theorem Qp8         (hR:Rel S0 N w0 m st a w) {P:Program} {t:TypeId} {i:TypeInfo} (hi:P.info? t=some i) {p y:A} {ad u:Value} {h':Hp}
    (hp:RepA m st.hp (Im S0 m st.hp w) w p ad) (hy:RepA m st.hp (Im S0 m st.hp w) w y u) (hcy:QaS st.hp y)
    (hsz:(QaA y).length=i.size) (h1:(QaA y).all A.one=true) (hs:Qgo st.hp y p=some h') :
    ∃ (m':Key→Nat) (w':World),(Instr.storeAt t ad u).run P w=.ok () w'∧Rel S0 N w0 m' { st with hp:=h' } a w':=by
  obtain ⟨vs,hv1,hv2,hv3,hv4⟩:=Qoz hy h1
  have main : ∀ (k : Key) (o : Obj) (off : Nat) (cs' : List A), st.hp k = some o → o.fz = false → ad = .pointer (some ⟨m k, off, none⟩) → Qac     off (QaA     y) o.cs = some cs' →
      h'=hupd st.hp k { o with cs:=cs' }→∃ (m':Key→Nat) (w':World),(Instr.storeAt t ad u).run P w=.ok () w'∧Rel S0 N w0 m' { st with hp:=h' } a w':=by
    intro k o off cs' hk hfz had hst hh
    obtain ⟨cs,T,fz,ho⟩:=hR.obj k o hk
    unfold Qac at hst
    obtain ⟨hle,hst⟩:=Qaf hst
    cases hst
    have hlen:off+0+vs.length≤cs.size:=by have:=ho.size;omega
    have hrun:=QdK P (m k) off T fz vs 0 cs w ho.at_ (fun q h1 h2=>ho.free q (by omega)) hlen hv4
    refine ⟨mset m k (m k),w.setRow (m k) (cs.toList.take (off+0)++vs++cs.toList.drop (off+0+vs.length)).toArray, ?_, ?_⟩
    · subst had
      have hsize:(sizeOf t).run P w=.ok i.size w:=by simp [sizeOf,typeInfo,hi]
      have hcs:u.cells.size=i.size:=by rw [hv1];simp;omega
      have hcl:u.cells.toList=vs:=by rw [hv1]
      simp only [Instr.storeAt,Instr.sureAddr,storeVar,Sem.run_bind,Sem.run_pure,Result.andThen_ok,hsize,hcs,ne_eq,not_true_eq_false,if_false]
      rw [hcl]
      exact hrun
    · subst hh
      have hcl':(cs.toList.take (off+0)++vs++cs.toList.drop (off+0+vs.length)).length=cs.size:=by
        simp;omega
      have hseg:=QjH cs.toList vs (off+0) (by simpa using hlen)
      have hsego:=QjH o.cs (QaA y) off (by omega)
      refine hR.change (o':={ o with cs:=o.cs.take off++QaA y++o.cs.drop (off+(QaA y).length) }) hk rfl (Nat.le_refl _) hfz (.inl rfl) (setRow_heap w _ cs _ T fz ho.at_)
        (fun c _ hc=>Qgs w _ _ c hc) ?_ (Nat.le_of_eq (Qit w _ _).symm) rfl rfl rfl ?_ ?_ ?_ ?_
      · intro _ _ cs2 T2 fz2 h2
        rw [ho.at_] at h2
        cases h2
        refine ⟨rfl, ?_⟩
        rw [List.size_toArray,hcl']
      · simp only [List.size_toArray]
        rw [hcl']
        have:=ho.size
        simp;omega
      · intro q hq
        rw [List.size_toArray,hcl'] at hq
        exact ho.free q hq
      · intro q x hx
        simp only at hx
        rw [hsego] at hx
        rw [List.getElem?_toArray,hseg]
        simp only [Nat.add_zero] at *
        by_cases hq1:q<off
        · rw [if_pos hq1] at hx ⊢
          obtain ⟨v,hv,hr⟩:=ho.rep q x hx
          exact ⟨v,by simpa using hv,hr⟩
        · rw [if_neg hq1] at hx ⊢
          by_cases hq2:q<off+(QaA y).length
          · rw [if_pos hq2] at hx
            rw [if_pos (by omega)]
            exact hv3 _ x hx
          · rw [if_neg hq2] at hx
            rw [if_neg (by omega)]
            obtain ⟨v,hv,hr⟩:=ho.rep q x hx
            exact ⟨v,by simpa using hv,hr⟩
      · intro x hx
        rcases mem_seg hx with hx | hx
        · exact hR.clh k o x hk hx
        · exact Qki hcy x hx
  cases hp with
  | ptr k off _ _ h =>
    simp only [Qgo,Option.bind_eq_some_iff] at hs
    obtain ⟨o,hk,hx⟩:=hs
    obtain ⟨hfz,hx⟩:=Qaf hx
    simp only [Option.map_eq_some_iff] at hx
    obtain ⟨cs',hcs,rfl⟩:=hx
    exact main k o off cs' hk hfz (h o hk) hcs rfl
  | ep k n off _ _ h =>
    simp only [Qgo,Option.bind_eq_some_iff] at hs
    obtain ⟨o,hk,hx⟩:=hs
    obtain ⟨⟨hfz,hn⟩,hx⟩:=Qaf hx
    simp only [Option.map_eq_some_iff,Option.bind_eq_some_iff] at hx
    obtain ⟨_,_,cs',hcs,rfl⟩:=hx
    exact main k o off cs' hk hfz (h o hk hn) hcs rfl
  | d y _ h=>simp [Qgo] at hs
  | own k n _ _ h=>simp [Qgo] at hs
  | tup xs vs h=>simp [Qgo] at hs
  | fn f xs vs h=>simp [Qgo] at hs
end
end Go.AM

/- Part 3: values that are built, indexes, fields, slices, numbers. -/
namespace Go.AM
open Go Go.RowKit

/-! ### Filling -/
theorem QoX       (off:Nat):∀ (vs:List Value) (i:Nat) (cells:Array Value),off+i+vs.length≤cells.size →
    ((vs.zipIdx i).foldl (fun cs p=>cs.setIfInBounds (off+p.2) p.1) cells).toList=cells.toList.take (off+i)++vs++cells.toList.drop (off+i+vs.length)
  | [],i,cells,_=>by simp
  | v :: r,i,cells,h=>by
    simp only [List.zipIdx_cons,List.foldl_cons]
    rw [QoX off r (i+1) _ (by simp at h ⊢;omega)]
    have e:=list_seg_step cells.toList (off+i) v r (by simp at h ⊢;omega)
    simpa [Array.toList_setIfInBounds,Nat.add_assoc] using e

theorem Qsv        (off:Nat) (u cells:Array Value) (h:off+u.size≤cells.size) :
    (u.zipIdx.foldl (fun cs (c,j)=>cs.setIfInBounds (off+j) c) cells).toList=cells.toList.take off++u.toList++cells.toList.drop (off+u.size):=by
  have:=QoX off u.toList 0 cells (by simpa using h)
  rw [← Array.foldl_toList,Array.toList_zipIdx]
  simpa using this

section
variable {S:Nat→Prop} {w:World}

def QpB (S:Nat→Prop) (w:World) (place:Nat→Option (Nat×Nat)):List (Nat×Value)→List (Nat×Nat×List D)→Prop
 | [],[]=>True
 | (i,v) :: ps,(off,sz,ds) :: qs=>place i=some (off,sz)∧(∃ vs:List Value,v.cells=vs.toArray∧RepL S w ds vs)∧QpB S w place ps qs
 | _,_=>False

theorem Qje       (place:Nat→Option (Nat×Nat)):∀ (ps:List (Nat×Value)) (qs:List (Nat×Nat×List D)) (cells:Array Value) (cs ds:List D),
    QpB S w place ps qs→RepL S w cs cells.toList→Qdh cs qs=some ds→∃ out:Array Value,Instr.fill place cells ps=some out∧RepL S w ds out.toList
  | [],[],cells,cs,ds,_,hr,hf=>by
    simp only [Qdh,Option.some.injEq] at hf
    subst hf
    exact ⟨cells,rfl,hr⟩
  | (i,v) :: ps,(off,sz,d) :: qs,cells,cs,ds,hp,hr,hf=>by
    obtain ⟨h1,⟨vs,h2,h3⟩,h4⟩:=hp
    simp only [Qdh] at hf
    obtain ⟨⟨h5,h6⟩,hf⟩:=Qaf hf
    have hl:=hr.length
    have hvl:=h3.length
    have hsz:v.cells.size=sz:=by rw [h2];simp;omega
    simp only [Array.length_toList] at hl
    have hfold:=Qsv off v.cells cells (by rw [hsz];omega)
    have hrep:RepL S w (cs.take off++d++cs.drop (off+sz)) (v.cells.zipIdx.foldl (fun cs (c,j)=>cs.setIfInBounds (off+j) c) cells).toList:=by
      rw [hfold,hsz]
      refine ((hr.take off).append ?_).append (hr.drop _)
      rw [h2];exact h3
    obtain ⟨out,h7,h8⟩:=Qje place ps qs _ _ ds h4 hrep hf
    refine ⟨out, ?_,h8⟩
    simp only [Instr.fill,h1]
    rw [if_neg (by simp [hsz];omega)]
    exact h7
  | [],_ :: _,_,_,_,hp,_,_=>hp.elim
  | _ :: _,[],_,_,_,hp,_,_=>hp.elim

theorem Qsj {m:Key→Nat} {hp:Hp} {y:A} {u:Value} {ds:List D} (h:RepA m hp S w y u) (hd:QbZ y=some ds):∃ vs:List Value,u.cells=vs.toArray∧RepL S w ds vs:=by
 cases y with
 | d x =>
  have hx:=QhI h
  cases hx with
  | agg cs vs hl=>simp only [QbZ,Option.some.injEq] at hd;subst hd;exact ⟨vs,rfl,hl⟩
  | tup cs vs hl=>simp [QbZ] at hd
  | v =>
   cases u with
   | agg _=>simp [QbZ] at hd
   | tuple _=>simp [QbZ] at hd
   | _=>(simp only [QbZ,Option.some.injEq] at hd;subst hd;exact ⟨[_],rfl,.cons _ _ _ _ (.v _) .nil⟩)
  | zt=>simp only [QbZ,Option.some.injEq] at hd;subst hd;exact ⟨[_],rfl,.cons _ _ _ _ .zt .nil⟩
  | zf a=>simp only [QbZ,Option.some.injEq] at hd;subst hd;exact ⟨[_],rfl,.cons _ _ _ _ (.zf a) .nil⟩
  | row n cs ad cap vs h1 h2 h3 h4=>simp only [QbZ,Option.some.injEq] at hd;subst hd;exact ⟨[_],rfl,.cons _ _ _ _ (.row n cs ad cap vs h1 h2 h3 h4) .nil⟩
  | row0 a cap=>simp only [QbZ,Option.some.injEq] at hd;subst hd;exact ⟨[_],rfl,.cons _ _ _ _ (.row0 a cap) .nil⟩
  | fn f cs vs hl=>simp only [QbZ,Option.some.injEq] at hd;subst hd;exact ⟨[_],rfl,.cons _ _ _ _ (.fn f cs vs hl) .nil⟩
  | rp cs ad vs h2 h3 h4=>simp only [QbZ,Option.some.injEq] at hd;subst hd;exact ⟨[_],rfl,.cons _ _ _ _ (.rp cs ad vs h2 h3 h4) .nil⟩
  | rc f pre ad vs h2 h3 h4=>simp only [QbZ,Option.some.injEq] at hd;subst hd;exact ⟨[_],rfl,.cons _ _ _ _ (.rc f pre ad vs h2 h3 h4) .nil⟩
 | _=>simp [QbZ] at hd

theorem Qrt (v:Value):RepD S w (absC v) v:=by
 unfold absC
 split
 ·exact .zt
 ·exact .v _
theorem Qjf:∀ l:List Value,RepL S w (l.map absC) l
 | []=>.nil
 | u :: r=>.cons _ _ _ _ (Qrt u) (Qjf r)

theorem QnX {zs:List D} {vs:List Value} (h:RepL S w zs vs):∀ n,RepL S w (rep n zs) (List.replicate n vs).flatten
 | 0=>.nil
 | n+1=>by
  simp only [rep,List.replicate_succ,List.flatten_cons]
  exact h.append (QnX h n)

theorem Qqk {α:Type} (vs:List α):∀ (n i:Nat),i<n*vs.length→(List.replicate n vs).flatten[i]?=vs[i%vs.length]?
 | 0,i,h=>by simp at h
 | n+1,i,h=>by
  simp only [List.replicate_succ,List.flatten_cons]
  by_cases hi:i<vs.length
  ·rw [List.getElem?_append_left hi,Nat.mod_eq_of_lt hi]
  ·rw [List.getElem?_append_right (by omega),Qqk vs n (i-vs.length) (by rw [Nat.succ_mul] at h;omega)]
   congr 1
   rw [Nat.mod_eq_sub_mod (a:=i) (by omega)]

theorem Qmr (vs:Array Value) (n:Nat) (h:0<vs.size):((Array.range (n*vs.size)).map (vs[·%vs.size]!)).toList=(List.replicate n vs.toList).flatten:=by
 apply List.ext_getElem?
 intro i
 by_cases hi:i<n*vs.size
 ·rw [Qqk vs.toList n i (by simpa using hi)]
  have hm:i%vs.size<vs.size:=Nat.mod_lt _ h
  simp [hi,hm]
 ·rw [List.getElem?_eq_none (by simp;omega),List.getElem?_eq_none (by simp;omega)]
end
section
variable {S0:Nat→Prop} {N:Nat} {w0:Wd} {m:Key→Nat} {st:St} {a:Act} {w:World} {P:Program}

theorem QdC {t:TypeId} {i:TypeInfo} {v:Value} (hi:P.info? t=some i) (hz:i.zero=some v):(zeroValue t).run P w=.ok v w:=by simp [zeroValue,typeInfo,hi,hz]
theorem Qbt {t:TypeId} {i:TypeInfo} (hi:P.info? t=some i):(sizeOf t).run P w=.ok i.size w:=by simp [sizeOf,typeInfo,hi]
theorem Qkp {t:TypeId} {i:TypeInfo} (hi:P.info? t=some i):(typeInfo t).run P w=.ok i w:=by simp [typeInfo,hi]
theorem Qaj {t:TypeId} {d:TypeDesc} (hi:P.underlying t=some d):(underlying t).run P w=.ok d w:=by simp [underlying,hi]

theorem Qj4 {i:TypeInfo} {zs:List D} (h:zeroD i=some zs):∃ v,i.zero=some v∧zs=v.cells.toList.map absC∧∀ u∈v.cells.toList,u.oneCell'=true:=by
  unfold zeroD at h
  simp only [Option.bind_eq_some_iff] at h
  obtain ⟨v,h1,h2⟩:=h
  split at h2
  · rename_i h3
    cases h2
    refine ⟨v,h1,rfl,fun u hu=>?_⟩
    have:=List.all_eq_true.1 h3 u hu
    cases u<;>first | rfl | (simp [oneV] at this)
  · cases h2
theorem Qik        {t:TypeId} {es by_:Nat} {zs:List D} (h:Qsm   P t=some (es,by_,zs)) :
    ∃ e i v,P.underlying t=some (.slice e)∧P.info? e=some i∧i.zero=some v∧es=i.size∧by_=i.bytes∧zs=v.cells.toList.map absC∧0<i.size∧v.cells.size=i.size∧0<i.bytes:=by
  unfold Qsm at h
  split at h
  · rename_i e he
    simp only [Option.bind_eq_some_iff] at h
    obtain ⟨i,h1,zs',h2,h3⟩:=h
    split at h3
    · rename_i h4
      simp only [Option.some.injEq,Prod.mk.injEq] at h3
      obtain ⟨v,h5,rfl,_⟩:=Qj4 h2
      obtain ⟨rfl,rfl,rfl⟩:=h3
      exact ⟨e,i,v,he,h1,h5,rfl,rfl,rfl,h4.1,by simpa using h4.2.1,h4.2.2⟩
    · cases h3
  · cases h

theorem Qpa       (hR:Rel S0 N w0 m st a w) {k:Key} (hk:st.hp k=none) {cs:List A} {vs:List Value} (T:TypeId) (hl:vs.length=cs.length)
    (hrep:∀ (i:Nat) (x:A),cs[i]?=some x→∃ v:Value,vs[i]?=some v∧RepA m st.hp (Im S0 m st.hp w) w x v) (hcl:∀ x,x∈cs→QaS st.hp x) :
    let h':=hupd st.hp k ⟨0,0,cs,false⟩
    let m':=mset m k w.heap.size
    let w':=w.alloc (Go.Obj.cells vs.toArray T)
    Rel S0 N w0 m' { st with hp:=h' } a w'∧RepA m' h' (Im S0 m' h' w') w' (.ptr k 0) (.pointer (some ⟨w.heap.size,0,none⟩))∧QaS h' (.ptr k 0):=by
  intro h' m' w'
  refine ⟨hR.alloc hk ⟨0,0,cs,false⟩ (cs:=vs.toArray) (T:=T) (fz:=(0,0)) rfl rfl rfl rfl (by simp [hl]) (fun i _=>by omega) (fun i x hx=>?_) hcl, ?_, ?_⟩
  · obtain ⟨v,h1,h2⟩:=hrep i x hx
    exact ⟨v,by simpa using h1,h2⟩
  · refine .ptr k 0 _ ⟨_,rfl⟩ fun o ho=>?_
    simp [m',mset]
  · exact ⟨⟨0,0,cs,false⟩,by simp only [h',hupd,Qbw,if_true],rfl⟩

theorem QkL      (hR:Rel S0 N w0 m st a w) {k:Key} {fz:Bool} {es n:Nat} {cs:List D} {x:A} {h':Hp} (hmk:mkA k st.hp fz es n cs=some (x,h')) (he:0<es)
    {w':World} {cells:Array Value} {T:TypeId} {fr:Nat×Nat} (hheap:w'.heap=w.heap.push (Go.Obj.cells cells T fr)) (hos:w'.os=w.os) (htp:w'.tape=w.tape) (hout:w'.output=w.output)
    {vs:List Value} (hvs:RepL (Im S0 m st.hp w) w cs vs) (hin:∀ (i:Nat) (v:Value),vs[i]?=some v→cells[i]?=some v) {cap:Nat} (hcap:n≤cap) (hsz:cap*es≤cells.size) (hlen:cs.length=n*es)
    (hfree:∀ i,i<cells.size→¬ (fr.1≤i∧i<fr.2)) :
    ∃ m',Rel S0 N w0 m' { st with hp:=h' } a w'∧RepA m' h' (Im S0 m' h' w') w' x (.slice (some ⟨w.heap.size,0,none⟩) n cap)∧QaS h' x:=by
  have hnew:w'.heap[w.heap.size]?=some (Go.Obj.cells cells T fr):=by rw [hheap];simp
  have hsize:w'.heap.size=w.heap.size+1:=by rw [hheap];simp
  have hold:∀ b,b<w.heap.size→w'.heap[b]?=w.heap[b]?:=by
    intro b hb
    rw [hheap,Array.getElem?_push,if_neg (by omega)]
  have hvl:=hvs.length
  have hle:n*es≤cap*es:=Nat.mul_le_mul_right _ hcap
  cases fz with
  | true =>
    simp only [mkA,if_true,Option.some.injEq,Prod.mk.injEq] at hmk
    obtain ⟨rfl,rfl⟩:=hmk
    refine ⟨m,hR.world (hR.bel.more hos htp hout (by omega) fun b hb _=>hold b hb) (by omega) (fun b hb _=>hold b hb), ?_,trivial⟩
    have hIm:∀ b,Im S0 m st.hp w b→Im S0 m st.hp w' b:=fun b hb=>⟨hb.1,by have:=hb.2.1;omega,hb.2.2⟩
    refine .d _ _ (.row n cs ⟨w.heap.size,0,none⟩ cap vs hcap ⟨hR.un _ (Nat.le_refl _),by show w.heap.size<_;omega, ?_⟩ (hvs.mono hIm (fun b hb=>hold b hb.2.1)) ?_)
    · rintro ⟨q,o,hq,_,hm⟩
      have:=hR.lt hq
      simp only at hm;omega
    · intro j v hj
      rw [Qch hnew]
      simpa using hin j v hj
  | false =>
    simp only [mkA,Bool.false_eq_true,if_false] at hmk
    obtain ⟨hk,hmk⟩:=Qaf hmk
    simp only [Option.some.injEq,Prod.mk.injEq] at hmk
    obtain ⟨rfl,rfl⟩:=hmk
    have hk':st.hp k=none:=by simpa using hk
    refine ⟨mset m k w.heap.size,hR.alloc hk' ⟨es,n,cs.map .d,false⟩ hheap hos htp hout (by simp;omega) hfree (fun i x hx=>?_) (fun x hx=>?_), ?_, ?_⟩
    · simp only [List.getElem?_map,Option.map_eq_some_iff] at hx
      obtain ⟨d,hd,rfl⟩:=hx
      obtain ⟨v,h1,h2⟩:=hvs.get i d hd
      exact ⟨v,hin i v h1,.d _ _ h2⟩
    · obtain ⟨d,_,rfl⟩:=List.mem_map.1 hx;trivial
    · refine .own k n _ ⟨_,_,rfl⟩ fun o ho hn=>?_
      simp only [hupd,Qbw,if_true,Option.some.injEq] at ho
      subst ho
      exact ⟨cap,cells,T,fr,by simp [mset],hcap,by simp only [mset,if_true];exact hnew,hsz⟩
    · exact ⟨⟨es,n,cs.map .d,false⟩,by simp only [hupd,Qbw,if_true],he,Nat.le_refl _⟩
end
end Go.AM

