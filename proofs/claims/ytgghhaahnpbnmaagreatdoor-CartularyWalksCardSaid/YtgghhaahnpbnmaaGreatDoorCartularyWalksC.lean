/- The proof, part 3 of 51. -/
import Derived.Test.YtgghhaahnpbnmaaGreatDoorCartularyWalksB
import Derived.Laws.StructEq
import Derived.ChangeKeysEq
set_option linter.all false
namespace Go.Proofs.YtgghhaahnpbnmaaGreatDoor.Eng
def unGd:AV->Bool×AV
 | .gd b x=>(b,x)
 | v=>(true,v)
def pickM (γ β:Bool) (x y:AV) (K:AV->Prop):Prop:=
 match(unGd x).2,(unGd y).2 with
 | .bool p,.bool q=>(γ=true->β=true->(unGd x).1=true)/\(γ=true->β=false->(unGd y).1=true)/\K (.bool (if β then p else q))
 | .bool p,_=>(γ=true->β=true/\(unGd x).1=true)/\K (.bool p)
 | _,.bool q=>(γ=true->β=false/\(unGd y).1=true)/\K (.bool q)
 | _,_=>False
def j4 (γ ag:Bool) (n:Nat) (cs:List AV) (K:AV->Prop):Prop:=
 if ag then(γ=true->n<=cs.length)/\K (.agg (cs.take n))else(γ=true->0<cs.length)/\K (cs.getD 0 .undef)
def nth (es:List AV) (i:Nat):AV:=es.getD i .undef
def byteOfAV:AV->UInt8
 | .int .u8 n=>UInt8.ofNat n.toNat
 | _=>0
def jy:AV->Bool
 | .int .u8 _=>true
 | _=>false
def bytesOf (es:List AV):List UInt8:=es.map byteOfAV
def gw (es:List AV):Bool:=es.all jy
def aB (es:List AV) (off n:Nat):List AV:=(es.drop off).take n
def bnd (γ:Bool) (st:St) (n:Nat) (lo hi:Option AE) (K:Nat->Nat->Prop):Prop:=
 match lo,hi with
 | none,none=>K 0 n
 | some l,none=>a7 γ st l λl=>match l with
  | .int _ l=>(γ=true->0<=l/\l<=n)/\K l.toNat n
  | _=>False
 | none,some h=>a7 γ st h λh=>match h with
  | .int _ h=>(γ=true->0<=h/\h<=n)/\K 0 h.toNat
  | _=>False
 | some l,some h=>a7 γ st l λl=>a7 γ st h λh=>match l,h with
  | .int _ l,.int _ h=>(γ=true->0<=l/\l<=h/\h<=n)/\K l.toNat h.toNat
  | _,_=>False
def avalLen (str:Bool) (x:AV) (K:AV->Prop):Prop:=
 match str,x with
 | true,.str l=>K (.int .i64 l.length)
 | false,.ro _ es=>K (.int .i64 es.length)
 | false,.sl _ _ n=>K (.int .i64 n)
 | false,.an=>K (.int .i64 0)
 | _,_=>False
def avalUn (op:UnOp) (x:AV) (K:AV->Prop):Prop:=
 match op,x with
 | .not,.bool b=>K (.bool (!b))
 | .neg,.int k n=>K (.int k (k.wrap (0-n)))
 | .xor,.int k n=>K (.int k (bits .xor k (if k.signed then -1 else k.max) n))
 | _,_=>False
def nV (mx:Bool) (x y:AV) (K:AV->Prop):Prop:=
 match x,y with
 | .int k a,.int _ b=>K (.int k (if mx then(if b > a then b else a)else(if b<a then b else a)))
 | _,_=>False
def avalIdx (γ:Bool) (st:St) (sz:Nat) (x i:AV) (K:AV->Prop):Prop:=
 match x,i with
 | .ro sz' es,.int _ i=>(γ=true->0<=i/\i<es.length)/\0<sz/\sz'=sz/\K (.ao (nth es i.toNat))
 | .sl id off n,.int _ i=>(γ=true->0<=i/\i<n)/\0<sz/\match hget st.h id with
  | some (.arr sz' _)=>sz'=sz/\K (.ptr id (off+i.toNat) 0)
  | _=>False
 | _,_=>False
def avalLd (γ:Bool) (st:St) (ag:Bool) (n:Nat) (x:AV) (K:AV->Prop):Prop:=
 match x with
 | .ao e=>j4 γ ag n (cellsOf e) K
 | .ptr id i f=>match hget st.h id with
  | some (.arr _ es)=>j4 γ ag n ((cellsOf (nth es i)).drop f) K
  | _=>False
 | .aa id f=>match hget st.h id with
  | some (.var cs)=>j4 γ ag n (cs.drop f) K
  | _=>False
 | _=>False
def slE (sz:Nat) (st:St) (x:AV):Option (List AV):=
 match x with
 | .an=>some []
 | .ro sz' es=>if sz'=sz then some es else none
 | .sl id off n=>match hget st.h id with
  | some (.arr sz' es)=>if sz'=sz then some (aB es off n)else none
  | _=>none
 | _=>none
def avalBts (γ:Bool) (st:St) (x:AV) (K:AV->Prop):Prop:=
 match slE 1 st x with
 | some es=>(γ=true->gw es=true)/\K (.str (bytesOf es))
 | none=>False
def mB (γ:Bool) (st:St) (sz:Nat) (x:AV) (lo hi:Option AE) (K:AV->Prop):Prop:=
 match x with
 | .an=>bnd γ st 0 lo hi λ_ _=>K .an
 | .ro sz' es=>sz'=sz/\bnd γ st es.length lo hi λl h=>K (.ro sz (aB es l (h-l)))
 | .sl id off n=>bnd γ st n lo hi λl h=>match hget st.h id with
  | some (.arr sz' _)=>sz'=sz/\K (.sl id (off+l) (h-l))
  | _=>False
 | _=>False
def nU (γ:Bool) (st:St) (ag:Bool) (off n:Nat) (x:AV) (K:AV->Prop):Prop:=
 match x with
 | .ao e=>(γ=true->off+n<=(cellsOf e).length)/\0<n/\(ag=false->n=1/\isCell ((cellsOf e).getD off .undef)=true)/\K (.ao (if ag then .agg (((cellsOf e).drop off).take n)else(cellsOf e).getD off .undef))
 | .ptr id i f=>match hget st.h id with
  | some (.arr sz _)=>f+off<sz/\K (.ptr id i (f+off))
  | _=>False
 | .aa id f=>K (.aa id (f+off))
 | _=>False
def eqOK:Nat->AV->AV->Bool
 | 0,.bool _,.bool _=>true
 | 1,.int k _,.int k' _=>k==k'
 | 2,.str _,.str _=>true
 | _,_,_=>false
def eqC:AV->AV->Bool
 | .bool a,.bool b=>a==b
 | .int _ a,.int _ b=>decide (a=b)
 | .str a,.str b=>a==b
 | _,_=>false
def eqOKs:List Nat->List AV->List AV->Bool
 | [],[],[]=>true
 | k::ks,c::cs,d::ds=>eqOK k c d&&eqOKs ks cs ds
 | _,_,_=>false
def eqCs:List AV->List AV->Bool
 | [],[]=>true
 | c::cs,d::ds=>eqC c d&&eqCs cs ds
 | _,_=>false
def sortOf (P:Program) (t:TypeId):Option Nat:=
 match P.underlying t with
 | some .bool=>some 0
 | some (.int _)=>some 1
 | some .string=>some 2
 | _=>none
def sortsL (P:Program):Nat->List Field->Option (List Nat)
 | _,[]=>some []
 | j,f::r=>if f.name != "_" && f.offset==j then
     match sortOf P f.type,sortsL P (j+1) r with
     | some s,some l=>some (s::l)
     | _,_=>none
  else none
def nestOf (P:Program) (t:TypeId):Option (List Nat):=
 match P.underlying t with
 | some (.struct fs)=>if P.stoodInHeld t then none else
  match sortsL P 0 fs.toList with
  | some l=>if P.cellsOf t==l.length then some l else none
  | none=>none
 | _=>none
def sortsF (P:Program):Nat->List Field->Option (List Nat)
 | _,[]=>some []
 | j,f::r=>if f.name != "_" && f.offset==j then
     match sortOf P f.type with
     | some s=>match sortsF P (j+1) r with
      | some l=>some (s::l)
      | none=>none
     | none=>match nestOf P f.type with
      | some l1=>match sortsF P (j+l1.length) r with
       | some l=>some (l1++l)
       | none=>none
      | none=>none
  else none
def eqOf (P:Program) (t:TypeId):Option (List Nat):=
 if P.eqGuardType P.depth t then none else
 match P.underlying t with
 | some (.struct fs)=>if P.stoodInHeld t then none else sortsF P 0 fs.toList
 | some (.array n e)=>match sortOf P e with
  | some s=>if P.cellsOf e==1&&(P.info? e).isSome then some (List.replicate n s)else none
  | none=>none
 | _=>none
def trEq (P:Program) (t:TypeId) (op:BinOp) (x y:AE):AO:=
 match op,eqOf P t with
 | .eql,some ks=>.nR false ks x y
 | .neq,some ks=>.nR true ks x y
 | _,_=>.bad
def aD (x:AV):Bool:=(cellsOf x).all isCell
theorem zI (off:Nat):∀(l:List Value) (k:Nat) (cells:Array Value) (m:Nat),
    ((l.zipIdx k).foldl (λcs (x:Value×Nat)=>cs.setIfInBounds (off+x.2) x.1) cells)[m]?=if off+k<=m/\m<off+k+l.length/\m<cells.size then l[m-off-k]? else cells[m]?
 | [],k,cells,m=>by simp;intros;omega
 | v::r,k,cells,m=>by
  rw[List.zipIdx_cons,aeV,zI off r (k+1)];simp only[ae7,Array.getElem?_setIfInBounds];by_cases h1:off+k=m
  ·rw[if_neg acB,if_pos h1];by_cases h2:m<cells.size
   ·rw[if_pos acB,if_pos (by simp;omega),show m-off-k=0 by omega];rfl
   ·rw[if_neg acB,if_neg (by simp;omega),Array.getElem?_eq_none acB]
  ·rw[if_neg h1];by_cases h2:off+k<=m/\m<off+k+(r.length+1)/\m<cells.size
   ·rw[if_pos acB,if_pos (by simpa using h2),show m-off-k=(m-off-(k+1))+1 by omega];rfl
   ·rw[if_neg acB,if_neg (by simpa using h2)]
theorem vI (off:Nat):∀(l:List Value) (k:Nat) (cells:Array Value),((l.zipIdx k).foldl (λcs (x:Value×Nat)=>cs.setIfInBounds (off+x.2) x.1) cells).size=cells.size
 | [],k,cells=>rfl
 | v::r,k,cells=>by rw[List.zipIdx_cons,aeV,vI off r (k+1)];simp
def bldC (γ:Bool) (st:St):List (Nat×Nat×AE)->List AV->(AV->Prop)->Prop
 | [],cs,K=>K (.agg cs)
 | (o,n,x)::r,cs,K=>a7 γ st x λv=>(γ=true->aD v=true/\(cellsOf v).length=n/\o+n<=cs.length)/\bldC γ st r (cs.take o++cellsOf v++cs.drop (o+n)) K
def snilC (γ:Bool) (st:St) (neg:Bool) (x:AV) (K:AV->Prop):Prop:=
 match x with
 | .an=>K (.bool (!neg))
 | .sl id _ n=>(γ=true->0<n)/\match hget st.h id with
  | some (.arr _ _)=>K (.bool neg)
  | _=>False
 | .ro sz es=>(γ=true->0<es.length/\0<sz)/\K (.bool neg)
 | _=>False
def isNilV:Value->Bool
 | .nilIface=>true
 | _=>false
def inilC (γ:Bool) (neg:Bool) (x:AV) (K:AV->Prop):Prop:=
 match x with
 | .lit v=>(γ=true->isIfV v=true)/\K (.bool (if neg then !isNilV v else isNilV v))
 | _=>False
def pnilC (neg:Bool) (x:AV) (K:AV->Prop):Prop:=
 match x with
 | .ao _=>K (.bool neg)
 | .aa _ _=>K (.bool neg)
 | .lit (.pointer none)=>K (.bool (!neg))
 | _=>False
def isNilP:Operand->Bool
 | .const (.pointer none)=>true
 | _=>false
def isNilI:Operand->Bool
 | .const .nilIface=>true
 | _=>false
def isNilS:Operand->Bool
 | .const (.slice none 0 0)=>true
 | _=>false
def bldParts (pl:List (Nat×Nat)):List (Nat×Operand)->Option (List (Nat×Nat×AE))
 | []=>some []
 | (i,x)::r=>match pl[i]?,bldParts pl r with
  | some (o,n),some l=>some ((o,n,trE x)::l)
  | _,_=>none
def su (s:Nat):List (Nat×Operand)->List (Nat×Nat×AE)
 | []=>[]
 | (i,x)::r=>(i*s,s,trE x)::su s r
def nG:List AV->Bool
 | []=>true
 | .aa _ _::r=>nG r
 | _=>false
def mkOf:AV->Option MK
 | .str l=>some (.s l)
 | .int k n=>some (.i k n)
 | _=>none
def mfind:List (MK×AV)->MK->Option AV
 | [],_=>none
 | (k,v)::r,x=>if k=x then some v else mfind r x
def mput:List (MK×AV)->MK->AV->List (MK×AV)
 | [],x,v=>[(x,v)]
 | (k,u)::r,x,v=>if k=x then(x,v)::r else(k,u)::mput r x v
def qN (ok:Bool) (z:AV) (o:Option AV):AV:=
 match ok with
 | true=>.ab [o.getD z,.bool o.isSome]
 | false=>o.getD z
def mlkC (st:St) (kd:Option IntKind) (ok:Bool) (z x i:AV) (K:AV->Prop):Prop:=
 match x,mkOf i with
 | .ptr id _ _,some k=>match hget st.h id with
  | some (.mp kd' l)=>(kd'=kd/\MK.ok kd k)/\K (qN ok z (mfind l k))
  | _=>False
 | _,_=>False
def aval (γ:Bool) (st:St) (o:AO) (K:AV->Prop):Prop:=
 match o with
 | .fZ x=>a7 γ st x K
 | .pick c x y=>a7 γ st c λc=>match c with
  | .bool β=>pickM γ β (ev st x) (ev st y) K
  | _=>False
 | .bin op x y=>a7 γ st x λa=>a7 γ st y λb=>abin γ op a b K
 | .beq neg x y=>a7 γ st x λa=>a7 γ st y λb=>match a,b with
  | .bool a,.bool b=>K (.bool (if neg then !(a==b)else a==b))
  | _,_=>False
 | .nR neg ks x y=>a7 γ st x λa=>a7 γ st y λb=>match a,b with
  | .agg cs,.agg ds=>(γ=true->eqOKs ks cs ds=true)/\K (.bool (if neg then !(eqCs cs ds)else eqCs cs ds))
  | _,_=>False
 | .un op x=>a7 γ st x λa=>avalUn op a K
 | .qf k x=>a7 γ st x λa=>match a with
  | .int _ n=>K (.int k (k.wrap n))
  | _=>False
 | .p7 k x=>a7 γ st x λa=>match a with
  | .int _ n=>K (.fl k (k.nearest n))
  | _=>False
 | .p6 k x=>a7 γ st x λa=>match a with
  | .fl s b=>(γ=true->(floatToIntVal s b k).isSome=true)/\K (.int k ((floatToIntVal s b k).getD 0))
  | _=>False
 | .qd x=>a7 γ st x λa=>match a with
  | .str s=>K (.str s)
  | _=>False
 | .pY x=>a7 γ st x λa=>avalBts γ st a K
 | .qb x y=>a7 γ st x λa=>a7 γ st y λb=>match a,b with
  | .fl k a,.fl k' b=>k=k'/\K (.cx k a b)
  | _,_=>False
 | .re x=>a7 γ st x λa=>match a with
  | .cx k a _=>K (.fl k a)
  | _=>False
 | .im x=>a7 γ st x λa=>match a with
  | .cx k _ b=>K (.fl k b)
  | _=>False
 | .len str x=>a7 γ st x λa=>avalLen str a K
 | .mm mx x y=>a7 γ st x λa=>a7 γ st y λb=>nV mx a b K
 | .ext x i=>a7 γ st x λa=>match a with
  | .ab vs=>i<vs.length/\K (vs.getD i .undef)
  | _=>False
 | .qT x=>a7 γ st x λa=>match a with
  | .ao e=>K (.ao e)
  | .aa id f=>K (.aa id f)
  | _=>False
 | .eL sz x i=>a7 γ st x λa=>a7 γ st i λb=>avalIdx γ st sz a b K
 | .rp x i=>a7 γ st x λa=>a7 γ st i λb=>match a,b with
  | .str l,.int _ i=>(γ=true->0<=i/\i<l.length)/\K (.int .u8 (l.getD i.toNat 0).toNat)
  | _,_=>False
 | .ld ag n x=>a7 γ st x λa=>avalLd γ st ag n a K
 | .rz x lo hi=>a7 γ st x λa=>match a with
  | .str s=>bnd γ st s.length lo hi λl h=>K (.str ((s.drop l).take (h-l)))
  | _=>False
 | .ru sz x lo hi=>a7 γ st x λa=>mB γ st sz a lo hi K
 | .qo ag off n x=>a7 γ st x λa=>nU γ st ag off n a K
 | .qn ag off n x=>a7 γ st x λa=>match a with
  | .agg cs=>(γ=true->off+n<=cs.length)/\0<n/\K (if ag then .agg ((cs.drop off).take n)else cs.getD off .undef)
  | _=>False
 | .nW z ps=>bldC γ st ps z K
 | .qA len sz x i=>a7 γ st x λa=>a7 γ st i λb=>match a,b with
  | .aa id f,.int _ i=>(γ=true->0<=i/\i<len)/\K (.aa id (f+i.toNat*sz))
  | .ao (.agg cs),.int _ i=>((γ=true->0<=i/\i<len/\i<cs.length)/\sz=1/\isCell (cs.getD i.toNat .undef)=true)/\K (.ao (cs.getD i.toNat .undef))
  | _,_=>False
 | .qB len x i=>a7 γ st x λa=>a7 γ st i λb=>match a,b with
  | .agg cs,.int _ i=>(γ=true->0<=i/\i<len/\i<cs.length)/\K (cs.getD i.toNat .undef)
  | _,_=>False
 | .o9 neg x=>a7 γ st x λa=>snilC γ st neg a K
 | .oI neg x=>a7 γ st x λa=>inilC γ neg a K
 | .oU neg x=>a7 γ st x λa=>pnilC neg a K
 | .qL t x=>a7 γ st x λa=>match a with
  | .agg []=>K (.lit (.iface t (.agg #[])))
  | .int k n=>K (.lit (.iface t (.int k n)))
  | _=>False
 | .qg x=>a7 γ st x λa=>match a with
  | .int _ n=>K (.str (Utf8.encode n).data.toList)
  | _=>False
 | .qK f xs=>nG (xs.map (ev st))=true/\K (.aA f (xs.map (ev st)))
 | .qM kd ok z x i=>a7 γ st x λa=>a7 γ st i λb=>mlkC st kd ok z a b K
 | _=>False
def keyKd (P:Program) (t:TypeId):Option (Option IntKind):=
 match P.underlying t with
 | some .string=>some none
 | some (.int k)=>some (some k)
 | _=>none
def zeroAV (P:Program) (t:TypeId):Option AV:=
 match P.info? t with
 | some i=>match i.zero with
  | some z=>some (constAV z)
  | none=>none
 | none=>none
def bP (P:Program) (t:TypeId):Option Nat:=(P.info? t).map (·.size)
def ky (P:Program) (t:TypeId):Option Bool:=
 match P.underlying t with
 | some (.struct _) | some (.array _ _)=>some true
 | some _=>some false
 | none=>none
def lenT (P:Program) (t:TypeId):Option Bool:=
 match P.underlying t with
 | some .string=>some true
 | some (.slice _)=>some false
 | _=>none
def isU8 (P:Program) (t:TypeId):Bool:=
 match P.underlying t with
 | some (.int .u8)=>true
 | _=>false
def trConv (P:Program) (src dst:TypeId) (x:AE):AO:=
 match P.underlying src,P.underlying dst with
 | some .string,some .string=>.qd x
 | some (.slice e),some .string=>if isU8 P e then .pY x else .bad
 | some .string,some (.slice e)=>if isU8 P e then .nz x else .bad
 | some (.int _),some (.int k)=>.qf k x
 | some (.int _),some (.float k)=>.p7 k x
 | some (.float _),some (.int k)=>.p6 k x
 | some (.int _),some .string=>.qg x
 | _,_=>.bad
def zeroCells (P:Program) (t:TypeId):Option (List AV):=
 match P.info? t with
 | some i=>match i.zero with
  | some z=>some (z.cells.toList.map constC)
  | none=>none
 | none=>none
def FW (parts:List (Nat×Operand)) (len:Nat):Bool:=parts.map (·.1)==List.range len
def rS (i:TypeInfo):Bool:=
 match i.zero with
 | some z=>z.cells.size==i.size
 | none=>false
def trCall (P:Program) (c:Call):AO:=
 match c.callee,c.args.toList,c.argTypes.toList with
 | .builtin .len,[x],[t]=>match lenT P t with
  | some b=>.len b (trE x)
  | none=>.bad
 | .builtin .complex,[x,y],_=>.qb (trE x) (trE y)
 | .builtin .real,[x],_=>.re (trE x)
 | .builtin .imag,[x],_=>.im (trE x)
 | .builtin .max,[x,y],_=>.mm true (trE x) (trE y)
 | .builtin .min,[x,y],_=>.mm false (trE x) (trE y)
 | .builtin .append,[x,y],t::u::_=>match P.underlying t,P.underlying u with
  | some (.slice e),some (.slice _)=>match P.info? e with
   | some i=>if rS i then .app i.size i.bytes (trE x) (trE y)else .bad
   | none=>.bad
  | some (.slice e),some .string=>match P.info? e with
   | some i=>if rS i then .app i.size i.bytes (trE x) (trE y)else .bad
   | none=>.bad
  | _,_=>.bad
 | .value (.func f),args,_=>match P.funcs[f]? with
  | some fn=>if fn.body.isSome&&fn.name != "runtime.NumGoroutine" then .call f (args.map trE)else .bad
  | none=>.bad
 | .value x,args,_=>.dyn (trE x) (args.map trE)
 | _,_,_=>.bad
def trOp (P:Program) (o:Oper):AO:=
 match o.op with
 | .move x=>.fZ (trE x)
 | .assign x=>.fZ (trE x)
 | .pick c x y=>.pick (trE c) (trE x) (trE y)
 | .binOp op t x y _=>match P.underlying t,op with
  | some .bool,.eql=>.beq false (trE x) (trE y)
  | some .bool,.neq=>.beq true (trE x) (trE y)
  | some .bool,_=>.bad
  | some (.slice _),.eql=>if isNilS y then .o9 false (trE x)else .bad
  | some (.slice _),.neq=>if isNilS y then .o9 true (trE x)else .bad
  | some (.interface _),.eql=>if isNilI y then .oI false (trE x)else .bad
  | some (.interface _),.neq=>if isNilI y then .oI true (trE x)else .bad
  | some (.pointer _),.eql=>if isNilP y then .oU false (trE x)else .bad
  | some (.pointer _),.neq=>if isNilP y then .oU true (trE x)else .bad
  | some (.struct _),_=>trEq P t op (trE x) (trE y)
  | some (.array _ _),_=>trEq P t op (trE x) (trE y)
  | _,_=>.bin op (trE x) (trE y)
 | .unOp op _ x=>.un op (trE x)
 | .convert s d x=>trConv P s d (trE x)
 | .nilCheck x=>.qT (trE x)
 | .extract x i=>.ext (trE x) i
 | .indexAddr t x i=>match P.underlying t with
  | some (.slice e)=>match bP P e with
   | some s=>.eL s (trE x) (trE i)
   | none=>.bad
  | some (.array n e)=>match bP P e with
   | some s=>.qA n s (trE x) (trE i)
   | none=>.bad
  | _=>.bad
 | .index t x i=>match P.underlying t with
  | some .string=>.rp (trE x) (trE i)
  | some (.array n e)=>match ky P e,bP P e with
   | some false,some 1=>.qB n (trE x) (trE i)
   | _,_=>.bad
  | _=>.bad
 | .load t x=>match ky P t,bP P t with
  | some ag,some n=>.ld ag n (trE x)
  | _,_=>.bad
 | .store t x v=>match bP P t with
  | some n=>.st n (trE x) (trE v)
  | none=>.bad
 | .slice t x lo hi mx=>match mx,P.underlying t with
  | none,some .string=>.rz (trE x) (lo.map trE) (hi.map trE)
  | none,some (.slice e)=>match bP P e with
   | some s=>.ru s (trE x) (lo.map trE) (hi.map trE)
   | none=>.bad
  | _,_=>.bad
 | .fieldAddr t x f=>match P.underlying t with
  | some (.struct fs)=>match fs[f]? with
   | some fl=>match ky P fl.type,bP P fl.type with
    | some ag,some n=>if n=0 then .bad else if(!ag&&n != 1)then .bad else .qo ag fl.offset n (trE x)
    | _,_=>.bad
   | none=>.bad
  | _=>.bad
 | .field t x f=>match P.underlying t with
  | some (.struct fs)=>match fs[f]? with
   | some fl=>match ky P fl.type,bP P fl.type with
    | some ag,some n=>if(!ag&&n != 1)then .bad else .qn ag fl.offset n (trE x)
    | _,_=>.bad
   | none=>.bad
  | _=>.bad
 | .alloc t=>match zeroCells P t with
  | some z=>.alloc z
  | none=>.bad
 | .box t x=>match bP P t with
  | some n=>.box n (trE x)
  | none=>.bad
 | .buildSlice t len parts=>match P.underlying t with
  | some (.slice e)=>match bP P e,zeroCells P e with
   | some s,some z=>if FW parts.toList len&&z.length==s&&decide (len*s<=2^24)then .mE s (parts.toList.map λq=>trE q.2)else .bad
   | _,_=>.bad
  | _=>.bad
 | .call c=>trCall P c
 | .build t parts=>match P.underlying t with
  | some (.struct fs)=>match zeroCells P t,fs.toList.mapM (λf=>(P.info? f.type).map λi=>(f.offset,i.size))with
   | some z,some pl=>match bldParts pl parts.toList with
    | some l=>.nW z l
    | none=>.bad
   | _,_=>.bad
  | some (.array _ e)=>match zeroCells P t,bP P e with
   | some z,some s=>.nW z (su s parts.toList)
   | _,_=>.bad
  | _=>.bad
 | .makeInterface t x=>match P.underlying t with
  | some (.interface _)=>.bad
  | some _=>.qL t (trE x)
  | none=>.bad
 | .makeFunc (.func f) first cap=>if first.isEmpty then .qK f (cap.toList.map trE)else .bad
 | .makeSlice t l c=>match P.underlying t with
  | some (.slice e)=>match P.info? e,zeroCells P e with
   | some i,some z=>if z.length==i.size then .ni i.size i.bytes z (trE l) (trE c)else .bad
   | _,_=>.bad
  | _=>.bad
 | .panic x=>.gF (trE x)
 | .makeMap t none=>match P.underlying t with
  | some (.map kt _)=>match keyKd P kt with
   | some kd=>.nh kd
   | none=>.bad
  | _=>.bad
 | .lookup t x i ok=>match P.underlying t with
  | some (.map kt et)=>match keyKd P kt,zeroAV P et with
   | some kd,some z=>.qM kd ok z (trE x) (trE i)
   | _,_=>.bad
  | _=>.bad
 | .mapUpdate t x k v=>match P.underlying t with
  | some (.map kt _)=>match keyKd P kt with
   | some kd=>.nj kd (trE x) (trE k) (trE v)
   | none=>.bad
  | _=>.bad
 | .insert t x k v=>match P.underlying t with
  | some (.map kt _)=>match keyKd P kt with
   | some kd=>.nj kd (trE x) (trE k) (trE v)
   | none=>.bad
  | _=>.bad
 | _=>.bad
section
variable {P:Program} {E:Env} {ρ:Loc} {st:St} {a:Act} {w:World} {γ:Bool} {K:AV->Prop}
def vO (P:Program) (E:Env) (ρ:Loc) (st:St) (w:World) (s:Sem Next) (K:AV->Prop):Prop:=
 ∃v av,fa P w s (.value v)/\RV (XX E.X0 ρ st.h) w ρ v av/\K av
theorem Gt {t:TypeId} {n:Nat} (h:bP P t=some n):∃i,P.info? t=some i/\i.size=n:=by
 unfold bP at h;obtain⟨i,h1,h2⟩:=acE.1 h;exact⟨i,h1,h2⟩
theorem run_sizeOf {t:TypeId} {n:Nat} (h:bP P t=some n) (w:World):(sizeOf t).run P w=.ok n w:=by
 obtain⟨i,h1,h2⟩:=Gt h;simp[sizeOf,typeInfo,h1,h2]
theorem rk {t:TypeId} {b:Bool} (h:ky P t=some b) (w:World):(isAgg t).run P w=.ok b w:=by
 unfold ky at h;unfold isAgg
 cases hu:P.underlying t with
 | none=>rw[hu]at h;cases h
 | some d=>
  rw[hu]at h;simp only[Sem.run_bind,run_underlying hu,Result.andThen_ok];cases d<;>simp_all
theorem RV.one {X:Nat->Prop} {v:Value} {av:AV} (h:RV X w ρ v av) (hc:isCell av=true):v.oneCell'=true:=by
 cases h<;>simp_all [isCell,Value.oneCell']
theorem K4 {ad:Addr} {vs:List Value} (n:Nat) (hn:n<=vs.length) (h:∀j,j<n->w.cell? (ad.add j)=vs[j]?):(loadCells ad n).run P w=.ok (vs.take n).toArray w:=by
 have:=run_loadCells_list (P:=P) (w:=w) ad (vs.take n) (λj v hj=>by
  have hj':j<n:=by
   have:=(List.getElem?_eq_some_iff.1 hj).1;simp at this;omega
  rw[h j hj',<-hj,List.getElem?_take,if_pos hj'])
 simpa[ac1 hn]using this
theorem xZ {t:TypeId} {ag:Bool} {n:Nat} {ad:Addr} {cs:List AV} {vs:List Value} (ha:ky P t=some ag) (hn:bP P t=some n)
    (hlen:vs.length=cs.length) (hcell:∀j,j<vs.length->w.cell? (ad.add j)=vs[j]?) (hrel:∀(j:Nat) v a,vs[j]?=some v->cs[j]?=some a->RV (XX E.X0 ρ st.h) w ρ v a)
    (h:j4 γ ag n cs K) (hγ:γ=true):∃v av,fa P w (loadVar t ad) v/\RV (XX E.X0 ρ st.h) w ρ v av/\K av:=by
 have hcell':∀w',az w w'->∀j,j<vs.length->w'.cell? (ad.add j)=vs[j]?:=λw' hs j hj=>by
  have hv:w.cell? (ad.add j)=some vs[j]:=by rw[hcell j hj];exact List.getElem?_eq_getElem hj
  exact(p5 (hs.block _ (sC hv))).trans (hcell j hj)
 unfold j4 at h
 cases ag with
 | true=>
  simp only[if_true]at h;have hle:=h.1 hγ;have hl:=λw' hs=>K4 (P:=P) (w:=w') n acB (λj hj=>hcell' w' hs j acB);refine⟨.agg (vs.take n).toArray,_,λw' hs=>?_,.agg _ _ (cs.take n) (by simp;omega) (λj v a h1 h2=>?_),h.2⟩
  ·simp[loadVar,rk ha,run_sizeOf hn,hl w' hs]
  ·simp only[List.getElem?_toArray,List.getElem?_take]at h1 h2;split at h1
   ·rename_i hj;rw[if_pos hj]at h2;exact hrel j v a h1 h2
   ·cases h1
 | false=>
  simp only[acT,if_false]at h;have hlt:=h.1 hγ;have h0:0<vs.length:=acB
  have hc:∀w',az w w'->w'.cell? ad=some vs[0]:=λw' hs=>by
   have:=hcell' w' hs 0 h0
   rwa[Addr.add_zero',List.getElem?_eq_getElem h0]at this
  have hcs:cs[0]?=some (cs.getD 0 .undef):=by
   rw[acC,List.getElem?_eq_getElem hlt];rfl
  refine⟨vs[0],_,λw' hs=>?_,hrel 0 _ _ (List.getElem?_eq_getElem h0) hcs,h.2⟩;simp[loadVar,rk ha,hc w' hs]
theorem RV.lift {X:Nat->Prop} {v:Value} {av:AV} (h:RV X w aW v av) (ρ:Loc):RV X w ρ v av:=
 h.mono (λ_ _ _=>rfl) (λ_ _ hb=>hb) ρ (λ_ _ h=>by simp[aW]at h)
theorem dY {sz:Nat}:∀{es:List AV},(∀e∈es,(cellsOf e).length=sz)->(flat es).length=es.length*sz
 | [],_=>by simp[flat]
 | e::r,h=>by
  have h1:=h e (acU ..);have h2:=dY (es:=r) (λx hx=>h x (acV _ hx));have:flat (e::r)=cellsOf e++flat r:=by simp[flat]
  rw[this,acD,h1,h2,acH,adS];omega
theorem iQ {sz:Nat}:∀{es:List AV} (i j:Nat),(∀e∈es,(cellsOf e).length=sz)->i<es.length->j<sz->(flat es)[i*sz+j]?=(cellsOf (nth es i))[j]?
 | [],i,j,_,hi,_=>by simp at hi
 | e::r,0,j,h,_,hj=>by
  have h1:=h e (acU ..);have:flat (e::r)=cellsOf e++flat r:=by simp[flat]
  rw[this,Nat.zero_mul,adr,List.getElem?_append_left acB]
  rfl
 | e::r,i+1,j,h,hi,hj=>by
  have h1:=h e (acU ..);have h2:=iQ (es:=r) i j (λx hx=>h x (acV _ hx)) (by simpa using hi) hj;have:flat (e::r)=cellsOf e++flat r:=by simp[flat]
  rw[this,List.getElem?_append_right (by rw[h1,adS];omega),h1];rw[show(i+1)*sz+j-sz=i*sz+j by rw[adS];omega,h2];rfl
theorem yn {es:List AV} {i:Nat} (h:i<es.length):nth es i∈es:=by
 unfold nth;rw[acC,List.getElem?_eq_getElem h];exact adK h
theorem jg (h:af E ρ st a w) {id sz:Nat} {es:List AV} {L:LW} (hid:hget st.h id=some (.arr sz es)) (hL:ρ id=some L) :
    L.sz=sz/\L.fh=es.length/\L.fh<=L.cap/\(∀e∈es,(cellsOf e).length=sz)/\(∀b,L.b=some b->gr (XX E.X0 ρ st.h) w aW b L.o (L.cap*sz) (flat es))/\(L.b=none->L.cap=0):=by
 obtain⟨L',h1,h2,h3,h4,h5,h6⟩:=h.heap.win id _ hid;rw[hL]at h1;obtain rfl:=Option.some.inj h1;refine⟨h2,h3,h4,h5,λb hb=>by rw[hb]at h6;exact h6,λhb=>by rw[hb]at h6;exact h6⟩
theorem vz (h:af E ρ st a w) {id:Nat} {cs:List AV} {L:LW} {b:Nat} (hid:hget st.h id=some (.var cs)) (hL:ρ id=some L) (hb:L.b=some b) :
    gr (XX E.X0 ρ st.h) w ρ b L.o cs.length cs:=by
 obtain⟨L',h1,b',h2,h3⟩:=h.heap.win id _ hid;rw[hL]at h1;obtain rfl:=Option.some.inj h1;rw[hb]at h2;obtain rfl:=Option.some.inj h2;exact h3
theorem eE (l:List Value) (o n j:Nat) (hj:j<n):((l.drop o).take n)[j]?=l[o+j]?:=by
 rw[List.getElem?_take,if_pos hj,List.getElem?_drop]
theorem Ak (h:af E ρ st a w) {t:TypeId} {ag:Bool} {n:Nat} (ha:ky P t=some ag) (hn:bP P t=some n) {v:Value} {x:AV} (hx:RV (XX E.X0 ρ st.h) w ρ v x)
    (hl:avalLd γ st ag n x K) (hγ:γ=true):∃v' av,fa P w (Instr.loadAt t v) v'/\RV (XX E.X0 ρ st.h) w ρ v' av/\K av:=by
 cases hx<;>simp only[avalLd]at hl
 case ao ad x vs hsp hlen hcell hrel=>
  obtain⟨v',av,h1,h2,h3⟩:=xZ (P:=P) (E:=E) (ρ:=ρ) (st:=st) (w:=w) (ad:=ad) (vs:=vs) ha hn hlen (λj hj=>(hcell j hj).2) (λj v a e1 e2=>(hrel j v a e1 e2).lift ρ) hl hγ;exact⟨v',av,λw' hs=>by simp[Instr.loadAt,Instr.sureAddr,h1 w' hs],h2,h3⟩
 case ptr id i f L b hb hi hf hL=>
  split at hl
  ·rename_i sz es hid;obtain⟨rfl,hcnt,hcap,au,hcells,_⟩:=jg h hid hL;obtain⟨cur,ty,fz,h1,h2,h3,h4,h5⟩:=hcells b hb;have hi':i<es.length:=acB;have hlen:=au _ (yn hi');have hfl:=dY au;have hbig:i*L.sz+L.sz<=es.length*L.sz:=by rw[<-adS];exact ac4 _ hi'
   have hbig2:es.length*L.sz<=L.cap*L.sz:=ac4 _ acB
   obtain⟨v',av,g1,g2,g3⟩:=xZ (P:=P) (E:=E) (ρ:=ρ) (st:=st) (w:=w) (ad:=⟨b,L.o+i*L.sz+f,none⟩) (vs:=(cur.toList.drop (L.o+i*L.sz+f)).take (L.sz-f)) ha hn
    (by simp[hlen];omega)
    (λj hj=>by
     have hj':j<L.sz-f:=by simp at hj;omega
     rw[eE _ _ _ _ hj',Addr.add_lit,cell_of_row w b _ cur ty fz h1,Array.getElem?_toList])
    (λj v a e1 e2=>by
     have hj':j<L.sz-f:=by
      have:=(List.getElem?_eq_some_iff.1 e1).1;simp at this;omega
     rw[eE _ _ _ _ hj',Array.getElem?_toList]at e1;rw[List.getElem?_drop,<-iQ i (f+j) au hi' acB]at e2
     exact(h5 (i*L.sz+(f+j)) v a (by rw[<-e1];congr 1;omega) e2).lift ρ) hl hγ
   exact⟨v',av,λw' hs=>by simp[Instr.loadAt,Instr.sureAddr,g1 w' hs],g2,g3⟩
  exact hl.elim
 case dk id L b hb hm hz hL=>
  split at hl
  ·rename_i sz es hid;have hac:=jg h hid hL;omega
  exact hl.elim
 case aa id f L b hb hL=>
  split at hl
  ·rename_i cs hid;obtain⟨cur,ty,fz,h1,h2,h3,h4,h5⟩:=vz h hid hL hb
   obtain⟨v',av,g1,g2,g3⟩:=xZ (P:=P) (E:=E) (ρ:=ρ) (st:=st) (w:=w) (ad:=⟨b,L.o+f,none⟩) (vs:=(cur.toList.drop (L.o+f)).take (cs.length-f)) ha hn
    (by simp;omega)
    (λj hj=>by
     have hj':j<cs.length-f:=by simp at hj;omega
     rw[eE _ _ _ _ hj',Addr.add_lit,cell_of_row w b _ cur ty fz h1,Array.getElem?_toList])
    (λj v a e1 e2=>by
     have hj':j<cs.length-f:=by
      have:=(List.getElem?_eq_some_iff.1 e1).1;simp at this;omega
     rw[eE _ _ _ _ hj',Array.getElem?_toList]at e1;rw[List.getElem?_drop]at e2
     exact h5 (f+j) v a (by rw[<-e1];congr 1;omega) e2) hl hγ
   exact⟨v',av,λw' hs=>by simp[Instr.loadAt,Instr.sureAddr,g1 w' hs],g2,g3⟩
  exact hl.elim
structure ku (X:Nat->Prop) (w:World) (A:Option Addr) (sz:Nat) (es:List AV) (vs:List Value):Prop where
 au:∀e∈es,(cellsOf e).length=sz
 len:vs.length=es.length*sz
 cell:∀j,j<vs.length->∃ad,A=some ad/\ad.spot=none/\w.cell? (ad.add j)=vs[j]?
 rel:∀(j:Nat) v a,vs[j]?=some v->(flat es)[j]?=some a->RV X w aW v a
theorem zi {es:List AV} {off n:Nat} (h:off+n<=es.length):(aB es off n).length=n:=by
 unfold aB;simp;omega
theorem rI {es:List AV} {off n:Nat} {e:AV} (h:e∈aB es off n):e∈es:=aeb (ad0 h)
theorem Vj {es:List AV} {off n i:Nat} (hi:i<n):nth (aB es off n) i=nth es (off+i):=by
 unfold nth aB;simp only[acC,List.getElem?_take,if_pos hi,List.getElem?_drop]
theorem xu {sz:Nat} {es:List AV} {off n j:Nat} (au:∀e∈es,(cellsOf e).length=sz) (h:off+n<=es.length) (hj:j<n*sz) :
    (flat (aB es off n))[j]?=(flat es)[off*sz+j]?:=by
 have hs0:0<sz:=by rcases aeF sz with rfl | h0<;>omega
 have hi:j/sz<n:=(aeo hs0).2 hj;have hm:=adV j hs0;have hd:j/sz*sz+j%sz=j:=by rw[ae2];exact Nat.div_add_mod j sz
 have e1:=iQ (es:=aB es off n) (j/sz) (j%sz) (λe he=>au e (rI he)) (by rw[zi h];exact hi) hm;have e2:=iQ (es:=es) (off+j/sz) (j%sz) au acB hm;rw[hd]at e1;rw[show(off+j/sz)*sz+j%sz=off*sz+j by rw[ad7,adC,hd]]at e2;rw[e1,e2,Vj hi]
theorem rr (h:af E ρ st a w) {id off n c sz:Nat} {L:LW} {A:Option Addr} {es:List AV} (hid:hget st.h id=some (.arr sz es)) (hL:ρ id=some L)
    (h1:off+n<=L.fh) (h2:n<=c) (h3:off+c<=L.cap) (hA:c=0\/A=L.b.map λb=>⟨b,L.o+off*L.sz,none⟩) :
    ∃vs,ku (XX E.X0 ρ st.h) w A sz (aB es off n) vs/\(aB es off n).length=n:=by
 obtain⟨rfl,hcnt,hcap,au,hcells,hnone⟩:=jg h hid hL;have hlen:(aB es off n).length=n:=zi acB;by_cases hn:n*L.sz=0
 ·refine⟨[],⟨λe he=>au e (rI he),by simp[hlen,hn],λj hj=>by simp at hj,λj v a e1 _=>by simp at e1⟩,hlen⟩
 ·have hn0:0<n:=by rcases aeF n with rfl | h0<;>simp_all
  cases hb:L.b with
  | none=>have:=hnone hb;omega
  | some b=>
   obtain⟨cur,ty,fz,g1,g2,g3,g4,g5⟩:=hcells b hb
   have hA':A=some ⟨b,L.o+off*L.sz,none⟩:=by
    rcases hA with hA | hA;omega
    ·rw[hA,hb];rfl
   have hbig:off*L.sz+n*L.sz<=L.cap*L.sz:=by rw[<-ad7];exact ac4 _ acB
   refine⟨(cur.toList.drop (L.o+off*L.sz)).take (n*L.sz),⟨λe he=>au e (rI he),by simp[hlen];omega,λj hj=>⟨_,hA',rfl,?_⟩,λj v a e1 e2=>?_⟩,hlen⟩
   ·have hj':j<n*L.sz:=by simp at hj;omega
    rw[eE _ _ _ _ hj',Addr.add_lit,cell_of_row w b _ cur ty fz g1,Array.getElem?_toList]
   ·have hj':j<n*L.sz:=by
     have:=(List.getElem?_eq_some_iff.1 e1).1;simp at this;omega
    rw[eE _ _ _ _ hj',Array.getElem?_toList]at e1;rw[xu au acB hj']at e2;exact g5 (off*L.sz+j) v a (by rw[<-e1];congr 1;omega) e2
theorem yZ (h:af E ρ st a w) {v:Value} {x:AV} (hx:RV (XX E.X0 ρ st.h) w ρ v x) {sz:Nat} {es:List AV} (hs:slE sz st x=some es) :
    ∃A c vs,v=.slice A es.length c/\es.length<=c/\ku (XX E.X0 ρ st.h) w A sz es vs:=by
 cases hx<;>simp only[slE]at hs
 case an=>
  obtain rfl:=Option.some.inj hs;exact⟨none,0,[],rfl,acG _,⟨λe he=>by simp at he,by simp,λj hj=>by simp at hj,λj v a e1 _=>by simp at e1⟩⟩
 case ro A c sz' es' vs hc au hlen hcell hrel=>
  split at hs
  ·rename_i e;subst e;obtain rfl:=Option.some.inj hs;refine⟨A,c,vs,rfl,hc,⟨au,by rw[hlen,dY au],λj hj=>?_,hrel⟩⟩;obtain⟨ad,h1,h2,h3,h4⟩:=hcell j hj;exact⟨ad,h1,h2,h4⟩
  ·cases hs
 case sl id off n c L A h1 h2 h3 hA hL=>
  split at hs
  ·rename_i sz' es' hid;split at hs
   ·rename_i e;subst e;obtain rfl:=Option.some.inj hs;obtain⟨vs,g1,g2⟩:=rr h hid hL h1 h2 h3 hA;exact⟨A,c,vs,by rw[g2],by rw[g2];exact h2,g1⟩
   ·cases hs
  ·cases hs
 all_goals cases hs
theorem ku.load {X:Nat->Prop} {A:Option Addr} {sz:Nat} {es:List AV} {vs:List Value} (h:ku X w A sz es vs) {ad:Addr} (hA:A=some ad):∀j v,vs[j]?=some v->w.cell? (ad.add j)=some v:=by
 intro j v hj;have hlt:=(List.getElem?_eq_some_iff.1 hj).1;obtain⟨ad',h1,h2,h3⟩:=h.cell j hlt;rw[hA]at h1;obtain rfl:=Option.some.inj h1;rw[h3,hj]
theorem ku.first {X:Nat->Prop} {A:Option Addr} {sz:Nat} {es:List AV} {vs:List Value} (h:ku X w A sz es vs) (n c:Nat) (hn:n=es.length):(Builtin.firstCells sz n (.slice A n c)).run P w=.ok vs.toArray w:=by
 subst hn
 cases A with
 | none=>
  have:vs=[]:=by
   cases vs with
   | nil=>rfl
   | cons v r=>obtain⟨ad,h1,_⟩:=h.cell 0 (by simp);cases h1
  rw[this]
  exact run_firstCells_none ..
 | some ad=>exact run_firstCells_some w sz es.length ad es.length c vs h.len (h.load rfl)
theorem RV.Dn {X:Nat->Prop} {v:Value} {k:IntKind} {n:Int} (h:RV X w ρ v (.int k n)):v=.int k n:=by cases h;rfl
theorem K0 {es:List AV} (hb:gw es=true):flat es=es:=by
 induction es with
 | nil=>rfl
 | cons e r ih=>
  simp only[gw,aeh,acN]at hb;have h2:=ih (by simpa[gw]using hb.2);have:flat (e::r)=cellsOf e++flat r:=by simp[flat]
  rw[this,h2];cases e<;>simp_all [jy,cellsOf]
def wB:AV->Int
 | .int .u8 n=>n
 | _=>0
theorem Kw {X:Nat->Prop} {A:Option Addr} {es:List AV} {vs:List Value} (h:ku X w A 1 es vs) (hb:gw es=true):vs=(es.map wB).map (Value.int .u8):=by
 apply adW;intro j;by_cases hj:j<vs.length
 ·have hje:j<es.length:=by have:=h.len;omega
  have hv:=List.getElem?_eq_getElem hj;have he:=List.getElem?_eq_getElem hje;have hr:=h.rel j _ _ hv (by rw[K0 hb];exact he)
  have hB:jy es[j]=true:=by
   unfold gw at hb;exact acI.1 hb _ (adK hje)
  rw[adD,List.getElem?_map,he,hv];generalize hx:es[j]=x at *
  cases x with
  | int k n=>cases k<;>simp[jy]at hB;rw[RV.Dn hr];rfl
  | _=>simp[jy]at hB
 ·rw[List.getElem?_eq_none acB,List.getElem?_eq_none (by have:=h.len;simp;omega)]
theorem Xe (l:List Int):∀s:ByteArray,(l.foldl (λr n=>r.push (UInt8.ofNat n.toNat)) s)=⟨(s.data.toList++l.map λn=>UInt8.ofNat n.toNat).toArray⟩:=by
 induction l with
 | nil=>intro s;simp
 | cons n r ih=>intro s;rw[aeV,ih];simp[ByteArray.push]
theorem Ku {es:List AV} (hb:gw es=true):(es.map wB).map (λn=>UInt8.ofNat n.toNat)=bytesOf es:=by
 unfold bytesOf;rw[adD];refine adN λe he=>?_;have hB:jy e=true:=acI.1 hb e he
 cases e with
 | int k n=>cases k<;>simp[jy]at hB;rfl
 | _=>simp[jy]at hB
theorem IQ (h:af E ρ st a w) {v:Value} {x:AV} (hx:RV (XX E.X0 ρ st.h) w ρ v x) (hl:avalBts γ st x K) (hγ:γ=true) :
    ∃v' av,fa P w (Conv.bytesToString v) v'/\RV (XX E.X0 ρ st.h) w ρ v' av/\K av:=by
 unfold avalBts at hl;split at hl
 ·rename_i es hs;obtain⟨A,c,vs,rfl,hc,hr⟩:=yZ h hx hs;have hb:=hl.1 hγ;have hv:=Kw hr hb;refine⟨.string ⟨(bytesOf es).toArray⟩,_,λw' hsm=>?_,.str _ _,hl.2⟩
  cases A with
  | none=>
   have:es=[]:=by
    cases es with
    | nil=>rfl
    | cons e r=>obtain⟨ad,h1,_⟩:=hr.cell 0 (by rw[hr.len];simp);cases h1
   subst this
   rfl
  | some ad=>
   rw[run_bytesToString w' ad es.length c (es.map wB) (by
    rw[<-hv];have:=run_loadCells_list (P:=P) (w:=w') ad vs (λj v hj=>(p5 (hsm.block _ (sC (hr.load rfl j v hj)))).trans (hr.load rfl j v hj))
    rwa[hr.len,adB]at this),Xe,<-Ku hb]
   rfl
 exact hl.elim
theorem uW {k:IntKind} {i:Int} {y:Nat} {code:BoundsCode} (h0:0<=i) (h1:i<=y):(Instr.sliceBound (.int k i) y code).run P w=.ok i.toNat w:=by
 simp[Instr.sliceBound,asIntOf,h0,h1]
theorem RV.eT {X:Nat->Prop} {v:Value} {k:IntKind} {n:Int} (h:RV X w ρ v (.int k n)):v=.int k n:=by cases h;rfl
theorem pW (h:af E ρ st a w) {n:Nat} {lo hi:Option Operand} {K:Nat->Nat->Prop} (hb:bnd γ st n (lo.map trE) (hi.map trE) K) (hγ:γ=true) :
    ∃l m,l<=m/\m<=n/\(∀(w:World) (sl:Bool) (c:Nat),n<=c->(Instr.sliceBounds sl n c (lo.map a.eval) (hi.map a.eval) none).run P w=.ok (l,m,c) w)/\K l m:=by
 cases lo with
 | none=>
  cases hi with
  | none=>exact⟨0,n,acB,acG _,λw sl c hc=>by simp[Instr.sliceBounds],hb⟩
  | some x=>
   obtain⟨av,h1,h2⟩:=aQ h (x:=x) hb hγ;split at h2
   ·rename_i k i;have hv:=RV.eT h1;obtain⟨g0,g1⟩:=h2.1 hγ;refine⟨0,i.toNat,acB,acB,λw sl c hc=>?_,h2.2⟩;simp only[Instr.sliceBounds,adH,ac7,Sem.run_bind,Sem.run_pure,Result.andThen_ok,hv,uW g0 (show i<=(c:Int)by omega)]
   ·exact h2.elim
 | some y=>
  cases hi with
  | none=>
   obtain⟨av,h1,h2⟩:=aQ h (x:=y) hb hγ;split at h2
   ·rename_i k i;have hv:=RV.eT h1;obtain⟨g0,g1⟩:=h2.1 hγ;refine⟨i.toNat,n,acB,acB,λw sl c hc=>?_,h2.2⟩;simp only[Instr.sliceBounds,adH,ac7,Sem.run_bind,Sem.run_pure,Result.andThen_ok,hv,uW g0 g1]
   ·exact h2.elim
  | some x=>
   obtain⟨av,h1,h2⟩:=aQ h (x:=y) hb hγ;obtain⟨av',h1',h2'⟩:=aQ h (x:=x) h2 hγ;split at h2'
   ·rename_i k i k' i';have hv:=RV.eT h1;have hv':=RV.eT h1';obtain⟨g0,g1,g2⟩:=h2'.1 hγ;refine⟨i.toNat,i'.toNat,acB,acB,λw sl c hc=>?_,h2'.2⟩;simp only[Instr.sliceBounds,adH,ac7,Sem.run_bind,Sem.run_pure,Result.andThen_ok,hv,hv',uW (show 0<=i' by omega) (show i'<=(c:Int)by omega),uW g0 (show i<=(i'.toNat:Int)by omega)]
   exact h2'.elim
theorem Am (h:af E ρ st a w) {t e:TypeId} {sz:Nat} (ht:P.underlying t=some (.slice e)) (hs:bP P e=some sz) {v:Value} {x:AV} {lo hi:Option Operand}
    (hx:RV (XX E.X0 ρ st.h) w ρ v x) (hl:mB γ st sz x (lo.map trE) (hi.map trE) K) (hγ:γ=true) :
    ∃v' av,(∀w',(Instr.sliceAt t v (lo.map a.eval) (hi.map a.eval) none).run P w'=.ok v' w')/\RV (XX E.X0 ρ st.h) w ρ v' av/\K av:=by
 cases hx<;>simp only[mB]at hl
 case an=>
  obtain⟨l,m,h1,h2,h3,h4⟩:=pW (P:=P) h hl hγ;obtain rfl:m=0:=acB;obtain rfl:l=0:=acB;refine⟨.slice none 0 0,_,λw'=>?_,.an _,h4⟩;have:=h3 w' true 0 (acG _);simp[Instr.sliceAt,Instr.slice,run_underlying ht,run_sizeOf hs,this]
 case ro A c sz' es vs hc au hlen hcell hrel=>
  obtain⟨rfl,hl⟩:=hl;obtain⟨l,m,h1,h2,h3,h4⟩:=pW (P:=P) h hl hγ;have hr:=λw=>h3 w true c hc;have hln:(aB es l (m-l)).length=m-l:=zi acB;have hfl:=dY au;refine⟨.slice (if c=l then A else A.map (·.add (l*sz'))) (m-l) (c-l),.ro sz' (aB es l (m-l)),λw'=>?_,?_,h4⟩
  ·simp[Instr.sliceAt,Instr.slice,run_underlying ht,run_sizeOf hs,hr]
  ·have hmul:l*sz'+(m-l)*sz'<=es.length*sz':=by rw[<-ad7];exact ac4 _ acB
   have:=RV.ro (X:=XX E.X0 ρ st.h) (w:=w) ρ (if c=l then A else A.map (·.add (l*sz'))) (c-l) sz' (aB es l (m-l)) ((vs.drop (l*sz')).take ((m-l)*sz'))
    acB (λe he=>au e (rI he)) (by rw[dY (λe he=>au e (rI he)),hln];simp;omega)
    (λj hj=>by
     have hj':j<(m-l)*sz':=by simp at hj;omega
     obtain⟨ad,g1,g2,g3,g4⟩:=hcell (l*sz'+j) acB
     have hne:c≠l:=by
      intro e;have:m-l=0:=acB;rw[this]at hj';omega
     refine⟨ad.add (l*sz'),by rw[if_neg hne,g1];rfl,rC _ _ g2,by rw[block_add];exact g3,?_⟩
     rw[eE _ _ _ _ hj',add_add _ _ _ g2];exact g4)
    (λj v a e1 e2=>by
     have hj':j<(m-l)*sz':=by
      have:=(List.getElem?_eq_some_iff.1 e1).1;simp at this;omega
     rw[eE _ _ _ _ hj']at e1;rw[xu au acB hj']at e2
     exact hrel _ v a e1 e2)
   rw[hln]at this;exact this
 case sl id off n c L A h1 h2 h3 hA hL=>
  obtain⟨l,m,g1,g2,g3,g4⟩:=pW (P:=P) h hl hγ;split at g4
  ·rename_i sz' es hid;obtain⟨rfl,g4⟩:=g4;obtain⟨hLs,_⟩:=jg h hid hL;have hr:=λw=>g3 w true c h2;refine⟨.slice (if c=l then A else A.map (·.add (l*sz'))) (m-l) (c-l),_,λw'=>?_,?_,g4⟩
   ·simp[Instr.sliceAt,Instr.slice,run_underlying ht,run_sizeOf hs,hr]
   ·refine .sl _ _ _ _ _ L _ hL acB acB acB ?_;by_cases e:c=l;exact .inl acB
    ·refine .inr ?_;rw[if_neg e];rcases hA with hA | hA;omega
     ·rw[hA]
      cases L.b with
      | none=>rfl
      | some b=>
       simp only[ac7,Addr.add_lit,hLs,Option.some.injEq,Addr.mk.injEq,true_and,and_true];rw[ad7];omega
  exact g4.elim
theorem I9 (h:af E ρ st a w) {t e:TypeId} {sz:Nat} (ht:P.underlying t=some (.slice e)) (hs:bP P e=some sz) {v:Value} {x:AV} {lo hi:Option Operand}
    (hx:RV (XX E.X0 ρ st.h) w ρ v x) (hl:mB γ st sz x (lo.map trE) (hi.map trE) K) (hγ:γ=true) :
    ∃v' av,fa P w (Instr.sliceAt t v (lo.map a.eval) (hi.map a.eval) none) v'/\RV (XX E.X0 ρ st.h) w ρ v' av/\K av:=by
 obtain⟨v',av,h1,h2⟩:=Am (P:=P) h ht hs hx hl hγ;exact⟨v',av,λw' _=>h1 w',h2⟩
theorem IV (h:af E ρ st a w) {t e:TypeId} {sz:Nat} (ht:P.underlying t=some (.slice e)) (hs:bP P e=some sz) {v vi:Value} {x i:AV}
    (hx:RV (XX E.X0 ρ st.h) w ρ v x) (hi:RV (XX E.X0 ρ st.h) w ρ vi i) (hl:avalIdx γ st sz x i K) (hγ:γ=true) :
    ∃v' av,fa P w (Instr.indexAt t v vi) v'/\RV (XX E.X0 ρ st.h) w ρ v' av/\K av:=by
 cases hx<;>cases hi<;>simp only[avalIdx]at hl
 case ro.int A c sz' es vs hc au hlen hcell hrel k i=>
  obtain⟨h1,hpos,rfl,h3⟩:=hl;obtain⟨g0,g1⟩:=h1 hγ;have hi':i.toNat<es.length:=acB;have hfl:=dY au
  ·have hmul:i.toNat*sz'+sz'<=es.length*sz':=by rw[<-adS];exact ac4 _ hi'
   obtain⟨ad,e1,e2,e3,e4⟩:=hcell (i.toNat*sz') acB;subst e1;refine⟨.pointer (some (ad.add (i.toNat*sz'))),_,λw' _=>?_,?_,h3⟩
   ·simp[Instr.indexAt,run_underlying ht,asIntOf,g0,g1,run_sizeOf hs]
   ·have hl':=au _ (yn hi');refine .ao _ _ _ ((vs.drop (i.toNat*sz')).take sz') (rC _ _ e2) (by rw[hl'];simp;omega) (λj hj=>?_) (λj v a q1 q2=>?_)
    ·have hj':j<sz':=by simp at hj;omega
     obtain⟨ad',f1,f2,f3,f4⟩:=hcell (i.toNat*sz'+j) acB;obtain rfl:=Option.some.inj f1;refine⟨by rw[block_add];exact f3,?_⟩;rw[eE _ _ _ _ hj',add_add _ _ _ e2];exact f4
    ·have hj':j<sz':=by
      have:=(List.getElem?_eq_some_iff.1 q1).1;simp at this;omega
     rw[eE _ _ _ _ hj']at q1;rw[<-iQ i.toNat j au hi' hj']at q2;exact hrel _ v a q1 q2
 case sl.int id off n c L A h1 h2 h3 hA hL k i=>
  obtain⟨g1,g2,g3⟩:=hl;obtain⟨f0,f1⟩:=g1 hγ;split at g3
  ·rename_i sz' es hid;obtain⟨rfl,g3⟩:=g3;obtain⟨hLs,hcnt,hcap,au,hcells,hnone⟩:=jg h hid hL;have hn:c≠0:=acB;rcases hA with hA | hA;omega
   ·cases hb:L.b with
    | none=>have:=hnone hb;omega
    | some b=>
     rw[hb]at hA;subst hA;refine⟨.pointer (some ⟨b,L.o+(off+i.toNat)*L.sz+0,none⟩),_,λw' _=>?_,.ptr _ _ _ _ L b hL hb acB acB,g3⟩;simp[Instr.indexAt,run_underlying ht,asIntOf,f0,f1,run_sizeOf hs,Addr.add_lit,hLs,ad7,adC]
  exact g3.elim
theorem wE {x:AV} (h:isCell x=true):cellsOf x=[x]:=by
 cases x<;>first | rfl | simp[isCell]at h
theorem IU (h:af E ρ st a w) {t:TypeId} {fs:Array Field} {fl:Field} {f n:Nat} {ag:Bool} (ht:P.underlying t=some (.struct fs)) (hff:fs[f]?=some fl)
    (hn:bP P fl.type=some n) (hn0:n≠0) {v:Value} {x:AV} (hx:RV (XX E.X0 ρ st.h) w ρ v x) (hl:nU γ st ag fl.offset n x K) (hγ:γ=true) :
    ∃v' av,fa P w (Instr.fieldAt t v f) v'/\RV (XX E.X0 ρ st.h) w ρ v' av/\K av:=by
 cases hx<;>simp only[nU]at hl
 case ao ad x vs hsp hlen hcell hrel=>
  obtain⟨h1,h2,h3,h4⟩:=hl;have h1:=h1 hγ;refine⟨.pointer (some (ad.add fl.offset)),_,λw' _=>?_,?_,h4⟩
  ·simp[Instr.fieldAt,run_underlying ht,hff,Instr.sureAddr,fieldPlace,run_sizeOf hn,hn0]
  ·cases ag with
   | true=>
    simp only[if_true];refine .ao _ _ _ ((vs.drop fl.offset).take n) (rC _ _ hsp) (by show((vs.drop fl.offset).take n).length=(((cellsOf x).drop fl.offset).take n).length;simp[hlen]) (λj hj=>?_) (λj v a q1 q2=>?_)
    ·have hj':j<n:=by simp at hj;omega
     have:=hcell (fl.offset+j) acB;rw[block_add,eE _ _ _ _ hj',add_add _ _ _ hsp];exact this
    ·have hj':j<n:=by
      have:=(List.getElem?_eq_some_iff.1 q1).1;simp at this;omega
     rw[eE _ _ _ _ hj']at q1;simp only[cellsOf,List.getElem?_take,if_pos hj',List.getElem?_drop]at q2
     exact hrel _ v a q1 q2
   | false=>
    obtain⟨rfl,hcell1⟩:=h3 rfl;simp only[acT,if_false]
    have hc1:(cellsOf x)[fl.offset]?=some ((cellsOf x).getD fl.offset .undef):=by
     rw[acC,List.getElem?_eq_getElem acB];rfl
    have hone:=wE hcell1;refine .ao _ _ _ ((vs.drop fl.offset).take 1) (rC _ _ hsp) (by rw[hone];simp;omega) (λj hj=>?_) (λj v a q1 q2=>?_)
    ·have hj':j<1:=by simp at hj;omega
     have:=hcell (fl.offset+j) acB;rw[block_add,eE _ _ _ _ hj',add_add _ _ _ hsp];exact this
    ·have hj':j<1:=by
      have:=(List.getElem?_eq_some_iff.1 q1).1;simp at this;omega
     obtain rfl:j=0:=acB;rw[eE _ _ _ _ hj']at q1;rw[hone]at q2;exact hrel _ v a q1 (by rw[adA,hc1];simpa using q2)
 case ptr id i g L b hb hi hf hL=>
  split at hl
  ·rename_i sz es hid;obtain⟨hLs,_⟩:=jg h hid hL;refine⟨.pointer (some ⟨b,L.o+i*L.sz+(g+fl.offset),none⟩),_,λw' _=>?_,.ptr _ _ _ _ L b hL hb hi acB,hl.2⟩;simp[Instr.fieldAt,run_underlying ht,hff,Instr.sureAddr,fieldPlace,run_sizeOf hn,hn0,Addr.add_lit,adC]
  exact hl.elim
 case dk id L b hb hm hz hL=>
  split at hl
  ·rename_i sz es hid;have hac:=jg h hid hL;omega
  exact hl.elim
 case aa id g L b hb hL=>
  refine⟨.pointer (some ⟨b,L.o+(g+fl.offset),none⟩),_,λw' _=>?_,.aa _ _ _ L b hL hb,hl⟩;simp[Instr.fieldAt,run_underlying ht,hff,Instr.sureAddr,fieldPlace,run_sizeOf hn,hn0,Addr.add_lit,adC]
theorem run_equalIn_bool (d:Nat) {t:TypeId} (ht:P.underlying t=some .bool) (x y:Bool):(Op.equalIn (d+1) t (.bool x) (.bool y)).run P w=.ok (x==y) w:=by
 simp[Op.equalIn,run_underlying ht]
theorem run_eql_bool {t:TypeId} (ht:P.underlying t=some .bool) (x y:Bool):(binOp .eql t (.bool x) (.bool y)).run P w=.ok (.bool (x==y)) w:=by
 simp only[binOp];simp[Op.equal,Op.maxDepth,run_equalIn_bool (w:=w) 9999 ht x y]
theorem run_neq_bool {t:TypeId} (ht:P.underlying t=some .bool) (x y:Bool):(binOp .neq t (.bool x) (.bool y)).run P w=.ok (.bool (!(x==y))) w:=by
 simp only[binOp];simp[Op.equal,Op.maxDepth,run_equalIn_bool (w:=w) 9999 ht x y]
theorem Dw {t:TypeId} (h:isU8 P t=true):P.underlying t=some (.int .u8):=by
 unfold isU8 at h;split at h
 ·rename_i e;exact e
 ·cases h
theorem RV.CL {X:Nat->Prop} {v:Value} {b:Bool} {x:AV} (h:RV X w ρ v (.gd b x)):(b=true->RV X w ρ v x)/\(b=false->v=Go.undef):=by
 cases h;exact⟨by assumption,by assumption⟩
theorem RV.mW {X:Nat->Prop} {v:Value} {b:Bool} {x:AV} (h:RV X w ρ v (.gd b x)) (hb:b=true):RV X w ρ v x:=h.CL.1 hb
theorem RV.xy {X:Nat->Prop} {v:Value} {b:Bool} {x:AV} (h:RV X w ρ v (.gd b x)) (hb:b=false):v=Go.undef:=h.CL.2 hb
theorem WS (h:af E ρ st a w) {c x y:Operand} {β:Bool} (hc:a.eval c=.bool β) (hp:pickM γ β (ev st (trE x)) (ev st (trE y)) K) (hγ:γ=true) :
    ∃av,RV (XX E.X0 ρ st.h) w ρ (if β then a.eval x else a.eval y) av/\K av:=by
 have hx:=a6 h x;have hy:=a6 h y;unfold pickM at hp;split at hp
 ·rename_i p q e1 e2;obtain⟨h1,h2,h3⟩:=hp;refine⟨_,?_,h3⟩
  cases β with
  | true=>
   have g:=h1 hγ rfl;simp only[if_true];generalize ev st (trE x)=ax at *
   cases ax<;>simp only[unGd]at e1 g<;>first | (subst e1;exact RV.mW hx g) | (cases e1;exact hx) | (cases e1;done)
  | false=>
   have g:=h2 hγ rfl;simp only[acT,if_false];generalize ev st (trE y)=ay at *
   cases ay<;>simp only[unGd]at e2 g<;>first | (subst e2;exact RV.mW hy g) | (cases e2;exact hy) | (cases e2;done)
 ·rename_i p e1 _;obtain⟨h1,h3⟩:=hp;obtain⟨rfl,g⟩:=h1 hγ;refine⟨_,?_,h3⟩;simp only[if_true];generalize ev st (trE x)=ax at *
  cases ax<;>simp only[unGd]at e1 g<;>first | (subst e1;exact RV.mW hx g) | (cases e1;exact hx) | (cases e1;done)
 ·rename_i q e2 _;obtain⟨h1,h3⟩:=hp;obtain⟨rfl,g⟩:=h1 hγ;refine⟨_,?_,h3⟩;simp only[acT,if_false];generalize ev st (trE y)=ay at *
  cases ay<;>simp only[unGd]at e2 g<;>first | (subst e2;exact RV.mW hy g) | (cases e2;exact hy) | (cases e2;done)
 exact hp.elim
theorem Yt {s d:TypeId} {k0 k k1:IntKind} {n:Int} (hs:P.underlying s=some (.int k0)) (hd:P.underlying d=some (.int k)):(convert s d (.int k1 n)).run P w=.ok (.int k (k.wrap n)) w:=by
 simp[convert,run_underlying hs,run_underlying hd,Conv.intToInt]
theorem Ys {s d:TypeId} {k0 k1:IntKind} {k:FloatKind} {n:Int} (hs:P.underlying s=some (.int k0)) (hd:P.underlying d=some (.float k)):(convert s d (.int k1 n)).run P w=.ok (.float k (k.nearest n)) w:=by
 simp[convert,run_underlying hs,run_underlying hd,Conv.intToFloat]
theorem Yu {s d:TypeId} {x:ByteArray} (hs:P.underlying s=some .string) (hd:P.underlying d=some .string):(convert s d (.string x)).run P w=.ok (.string x) w:=by
 simp[convert,run_underlying hs,run_underlying hd]
theorem Yr {s d e:TypeId} {A:Option Addr} {n c:Nat} (hs:P.underlying s=some (.slice e)) (he:P.underlying e=some (.int .u8)) (hd:P.underlying d=some .string) :
    (convert s d (.slice A n c)).run P w=(Conv.bytesToString (.slice A n c)).run P w:=run_convert_bytes_string w s d e A n c hs he hd
theorem LG (h:af E ρ st a w) {s d:TypeId} {x:Operand} (hv:aval γ st (trConv P s d (trE x)) K) (hγ:γ=true) :
    ∃v av,fa P w (convert s d (a.eval x)) v/\RV (XX E.X0 ρ st.h) w ρ v av/\K av:=by
 unfold trConv at hv;split at hv
 ·rename_i hs hd;obtain⟨av,h1,h2⟩:=aQ h (x:=x) hv hγ;split at h2
  ·generalize a.eval x=v at *
   cases h1 with
   | str _ l=>exact⟨_,_,λ_ _=>Yu hs hd,.str _ _,h2⟩
  exact h2.elim
 ·rename_i e hs hd;split at hv
  ·rename_i hu;obtain⟨av,h1,h2⟩:=aQ h (x:=x) hv hγ;obtain⟨v',av',g1,g2,g3⟩:=IQ (P:=P) h h1 h2 hγ;unfold avalBts at h2;split at h2
   ·rename_i es hes;obtain⟨A,c,vs,hvv,_⟩:=yZ h h1 hes;rw[hvv]at g1 |-;exact⟨v',av',λw' hsm=>by rw[Yr hs (Dw hu) hd];exact g1 w' hsm,g2,g3⟩
   exact h2.elim
  exact hv.elim
 ·split at hv;exact hv.elim;exact hv.elim
 ·rename_i k0 k hs hd;obtain⟨av,h1,h2⟩:=aQ h (x:=x) hv hγ;split at h2
  ·rw[RV.eT h1];exact⟨_,_,λ_ _=>Yt hs hd,.int _ _ _,h2⟩
  exact h2.elim
 ·rename_i k0 k hs hd;obtain⟨av,h1,h2⟩:=aQ h (x:=x) hv hγ;split at h2
  ·rw[RV.eT h1];exact⟨_,_,λ_ _=>Ys hs hd,.fl _ _ _,h2⟩
  exact h2.elim
 ·rename_i k0 k hs hd;obtain⟨av,h1,h2⟩:=aQ h (x:=x) hv hγ;split at h2
  ·rename_i s b;obtain⟨g1,g2⟩:=h2
   have g3:floatToIntVal s b k=some ((floatToIntVal s b k).getD 0):=by
    have:=g1 hγ;cases e:floatToIntVal s b k<;>simp_all
   have hv:a.eval x=.float s b:=by
    generalize a.eval x=v at h1;cases h1;rfl
   rw[hv];exact⟨_,_,λw' _=>run_convert_float_int w' _ _ s k b _ (by rw[hs];rfl) hd g3,.int _ _ _,g2⟩
  exact h2.elim
 ·rename_i k0 hs hd;obtain⟨av,h1,h2⟩:=aQ h (x:=x) hv hγ;split at h2
  ·rename_i k n;rw[RV.eT h1];refine⟨.string (Utf8.encode n),_,λw' _=>?_,?_,h2⟩
   ·simp[convert,run_underlying hs,run_underlying hd,Conv.intToString]
   ·have:=RV.str (X:=XX E.X0 ρ st.h) (w:=w) ρ (Utf8.encode n).data.toList;simpa using this
  exact h2.elim
 exact hv.elim
end
end Go.Proofs.YtgghhaahnpbnmaaGreatDoor.Eng
