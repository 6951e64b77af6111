/- The proof, part 11 of 43. -/
import Derived.Test.YtoalcafkffmiiaaGreatDoorOdbGetsJ
import Derived.KernelRfl
set_option linter.all false
namespace Go.Proofs.YtoalcafkffmiiaaGreatDoor.Eng
namespace Kc
abbrev L:=List Nat
abbrev X:=List (Nat×List Nat)
def ins (n:Nat):L->L
 | []=>[n]
 | a::r=>bif Nat.blt a n then a::ins n r else bif Nat.beq a n then a::r else n::a::r
def eY (a b:L):L:=a.foldl (λr x=>ins x r) b
def del (n:Nat):L->L
 | []=>[]
 | a::r=>bif Nat.beq a n then r else a::del n r
def look (n:Nat):X->L
 | []=>[]
 | (k,v)::r=>bif Nat.beq k n then v else look n r
def tE:AE->L
 | .t n=>[n]
 | .c _=>[]
def tO:Option AE->L
 | some x=>tE x
 | none=>[]
def tL:List AE->L
 | []=>[]
 | x::r=>tE x++tL r
def tP:List (Nat×Nat×AE)->L
 | []=>[]
 | x::r=>tE x.2.2++tP r
def tA:AO->L
 | .ij x | .un _ x | .qb _ x | .p5 _ x | .p4 _ x | .p9 x | .pW x | .nN x | .re x | .im x | .len _ x | .ext x _ | .qH x | .ld _ _ x | .box _ x | .qk _ _ _ x | .qj _ _ _ x | .px _ x | .oW _ x | .pc _ x | .qC _ x | .qc x | .iJ x=>tE x
 | .pick c x y=>tE c++tE x++tE y
 | .bin _ x y | .beq _ x y | .od _ _ x y | .p8 x y | .mm _ x y | .eT _ x y | .qX x y | .st _ x y | .app _ _ x y | .nw _ _ _ x y | .wb _ x y | .qt _ _ x y | .qu _ x y | .qD _ _ _ x y=>tE x++tE y
 | .nz _ x y z=>tE x++tE y++tE z
 | .ra x l h | .q7 _ x l h=>tE x++tO l++tO h
 | .mU _ ps=>tL ps
 | .ot _ ps=>tP ps
 | .call _ xs | .qB _ xs=>tL xs
 | .dyn x xs=>tE x++tL xs
 | .alloc _ | .nv _ | .bad=>[]
def Ay (o:aY) (l:L):L:=
 let l:=eY (tA o.o) (match o.d with
  | some d=>del d l
  | none=>l)
 match o.g with
 | some (j,_)=>ins j l
 | none=>l
def bk (l:L):List aY->L
 | []=>l
 | o::r=>Ay o (bk l r)
def sd (l:L):AT aY->L
 | .nil=>l
 | .cons o t=>Ay o (sd l t)
 | .br x y=>eY (sd l x) (sd l y)
def toR (B:Nat) (o:aY):ROp:=
 match o.o,o.g,o.d with
 | .call f xs,some (j,w),some d=>.ql d j w o.q o.id f xs
 | .call f xs,_,d=>.lk d o.q o.id f xs
 | .dyn x xs,some (j,w),some d=>.qm d j w o.q o.id x xs
 | .dyn x xs,_,d=>.dyn d o.q o.id x xs
 | a,some (j,w),d=>bif isEff a||(match a with
     | .iJ _ | .wb _ _ _=>true
     | _=>false)then .oQ d j w o.q o.id a else match d with
     | some d=>.qq d j w o.q o.id a
     | none=>.oQ d j w o.q o.id a
 | a,none,some d=>bif isEff a||(match a with
     | .iJ _ | .wb _ _ _=>true
     | _=>false)then .eff d o.q o.id a else bif !o.q&&Nat.beq o.id (B+d)then .v d a else .val d o.q o.id a
 | a,none,none=>.mc o.q o.id a
def gO (B:Nat):List aY->List ROp
 | []=>[]
 | o::r=>toR B o::gO B r
def dies (o:aY):Bool:=
 match o.o with
 | .iJ _=>true
 | _=>qe o
def wc:List aY->Option (List aY×aY×List aY)
 | []=>none
 | o::r=>bif dies o then some ([],o,r)else match wc r with
  | some (p,x,q)=>some (o::p,x,q)
  | none=>none
def xD:List aY->Option aY
 | []=>none
 | [o]=>some o
 | _::r=>xD r
def wg:List aY->List aY
 | []=>[]
 | [_]=>[]
 | o::r=>o::wg r
def tx (B:Nat):List aY->AT aY->RT
 | p,.nil=>.leaf (gO B p)
 | p,.cons o t=>tx B (p++[o]) t
 | p,.br x y=>.node (gO B p) (tx B [] x) (tx B [] y)
def tw (B:Nat):AT aY->DT
 | .nil=>.die (.mc false 0 .bad)
 | .cons o t=>bif qe o then .die (toR B o)else .step (toR B o) (tw B t)
 | .br x y=>.br (tw B x) (tw B y)
def ways (k:Option Nat):AC->Nat
 | .skip | .ck _ | .fH _ _ | .label _ | .iu _=>match k with
  | none=>1
  | some _=>0
 | .alt _ _ _ | .gV _ _ _ _ | .gm _=>match k with
  | none=>2
  | some _=>0
 | .ga ops=>match k,xD ops with
  | none,some ⟨_,_,_,_,.iJ _⟩=>0
  | none,_=>1
  | _,_=>0
 | .bad | .ret | .goto _=>0
 | .exit i=>match k with
  | some j=>bif Nat.beq i j then 1 else 0
  | none=>0
 | .seq (.iu _) (.block _ (.iv _ _ _ body))=>match k with
  | none=>1
  | some j=>ways (some j) body
 | .seq x y=>match k with
  | none=>bif Nat.beq (ways none x) 0 then 0 else ways none y
  | some j=>ways (some j) x+bif Nat.beq (ways none x) 0 then 0 else ways (some j) y
 | .cond _ x y=>ways k x+ways k y
 | .block i x=>match k with
  | none=>ways none x+ways (some i) x
  | some j=>bif Nat.beq i j then 0 else ways (some j) x
 | .loop x=>match k with
  | none=>0
  | some j=>ways (some j) x
 | .scope x=>ways k x
 | .iv _ _ _ _=>0
def size:AC->Nat
 | .ck ops | .ga ops | .iu ops=>ops.length
 | .alt p x _ | .gV p x _ _=>p.length+x.length
 | .gm _=>8
 | .seq (.iu _) (.block _ (.iv _ _ _ _))=>1000
 | .seq x y=>size x+size y
 | .cond _ x y=>size x+size y
 | .block _ x=>size x
 | .scope x=>size x
 | .loop x=>1000+size x
 | _=>0
def oI:AC->Nat
 | .ck (o::_) | .ga (o::_) | .iu (o::_) | .alt (o::_) _ _ | .gV (o::_) _ _ _ | .gm (.cons o _)=>o.id
 | .seq x _=>oI x
 | .cond _ x _=>oI x
 | .block _ x=>oI x
 | .loop x=>oI x
 | .scope x=>oI x
 | _=>0
def Qp (ms:L) (x y:AC):Bool:=
 (Nat.ble 2 (ways none x)&&Nat.ble 6 (size y)&&match y with
  | .ret | .exit _ | .skip=>false
  | _=>true)||ms.any (Nat.beq (oI y))
def pN:X->L
 | []=>[]
 | (_,v)::r=>eY v (pN r)
def tc:L->L
 | []=>[]
 | a::r=>(3000000+a)::tc r
def nL (g:L):X->X
 | []=>[]
 | (k,_)::r=>(k,g)::nL g r
def outer (q0:Nat) (ps:L):L->L
 | []=>[]
 | a::r=>bif Nat.ble 2000000 a||Nat.beq a q0||ps.any (Nat.beq a)then outer q0 ps r else a::outer q0 ps r
structure RP where
 ops:List aY
 d:Nat
 f:Nat
 x:Nat
 ch:Option UInt8
 q0:Nat
def Fz (ops:List aY) (asg:AC):Option RP:=
 match xD ops,asg with
 | some ⟨some d,_,_,_,.call f [.t x,.c (.str [c])]⟩,.ck [⟨some q0,_,_,_,_⟩]=>some ⟨wg ops,d,f,x,some c,q0⟩
 | some ⟨some d,_,_,_,.call f [.t x]⟩,.ck [⟨some q0,_,_,_,_⟩]=>some ⟨wg ops,d,f,x,none,q0⟩
 | _,_=>none
def gD (lr:L) (ex:X):AC->L->X->L×X
 | .skip,l,g=>(l,g)
 | .bad,_,g=>([],g)
 | .ret,_,g=>(lr,g)
 | .exit i,_,g=>(look i ex,g)
 | .goto i,_,g=>(look i g,g)
 | .label i,l,g=>(l,(i,l)::g)
 | .scope x,l,g => 
  let g1:=(gD lr ex x l g).2;let g2:=(gD lr ex x l g1).2;let g3:=(gD lr ex x l g2).2;((gD lr ex x l g3).1,g)
 | .fH _ xs,l,g=>(eY (tL xs) l,g)
 | .gm T,l,g=>(sd l T,g)
 | .ck ops,l,g | .iu ops,l,g=>(bk l ops,g)
 | .ga ops,l,g=>(bk (eY lr l) ops,g)
 | .alt p x y,l,g=>(bk (eY (bk l x) (bk l y)) p,g)
 | .gV p x y _,l,g=>(bk (eY (bk (eY lr l) x) (bk (eY lr l) y)) p,g)
 | .seq (.iu ops) (.block b (.iv _ ps asg body)),l,g=>match Fz ops asg with
  | none=>([],g)
  | some r=>
   let S0:=eY (eY l lr) (eY (pN ex) (pN g))
   let S0:=match r.ch with
    | none=>ins r.x S0
    | some _=>S0
   let G:=tc S0
   let S1:=eY (outer r.q0 ps (gD G ((b,G)::nL G ex) body G (nL G g)).1) S0
   (bk (ins r.x (del r.d S1)) r.ops,g)
 | .seq x y,l,g=>match gD lr ex y l g with
  | (l2,g2)=>gD lr ex x l2 g2
 | .cond c x y,l,g=>match gD lr ex x l g with
  | (a,g1)=>match gD lr ex y l g1 with
   | (b,g2)=>(eY (tE c) (eY a b),g2)
 | .block i x,l,g=>((gD lr ((i,l)::ex) x l g).1,g)
 | .loop x,_,g=>gD lr ex x [] g
 | .iv _ _ _ _,_,g=>([],g)
def kq (B:Nat) (ms lr:L) (ex:X):AC->L->X->AK
 | .skip,_,_=>.skip
 | .bad,_,_=>.bad
 | .ret,_,_=>.ret
 | .exit i,_,_=>.exit i
 | .goto i,_,_=>.goto i
 | .label i,_,_=>.label i
 | .scope x,l,g => 
  let g1:=(gD lr ex x l g).2;let g2:=(gD lr ex x l g1).2;let g3:=(gD lr ex x l g2).2;.scope (kq B ms lr ex x l g3)
 | .fH f xs,_,_=>.fH f xs
 | .gm T,l,_=>.gm (tx B [] T) l
 | .ck ops,l,_ | .iu ops,l,_=>.ck (gO B ops) l
 | .ga ops,l,_=>match wc ops with
  | none=>.bad
  | some (p,o,q)=>match wc q with
   | none=>.ga (gO B p) (toR B o) (gO B q) l
   | some (q1,o2,q2)=>.ph (gO B p) (toR B o) (gO B q1) (toR B o2) (gO B q2) l
 | .alt p x y,l,_=>.alt (gO B p) (gO B x) (gO B y) l
 | .gV p x y T,l,_=>.gV (gO B p) (gO B x) (gO B y) l (tw B T)
 | .seq (.iu ops) (.block b (.iv _ ps asg body)),l,g=>match Fz ops asg with
  | none=>.bad
  | some r=>
   let S0:=eY (eY l lr) (eY (pN ex) (pN g))
   let S0:=match r.ch with
    | none=>ins r.x S0
    | some _=>S0
   let G:=tc S0
   let S1:=eY (outer r.q0 ps (gD G ((b,G)::nL G ex) body G (nL G g)).1) S0
   let G:=tc S1
   let y:=kq B ms G ((b,G)::nL G ex) body G (nL G g)
   match r.ch,ps with
   | some c,[p]=>.split (gO B r.ops) r.d r.f (.t r.x) c b p r.q0 y
   | none,[p1,p]=>.back (gO B r.ops) r.d r.f r.x b p1 p r.q0 y
   | _,_=>.bad
 | .seq x y,l,g=>match gD lr ex y l g with
  | (l2,g2)=>bif Qp ms x y then .seq (kq B ms lr ex x l2 g2) (.cP (kq B ms lr ex y l g))else .seq (kq B ms lr ex x l2 g2) (kq B ms lr ex y l g)
 | .cond c x y,l,g=>.cond c (kq B ms lr ex x l g) (kq B ms lr ex y l g)
 | .block i x,l,g=>.block i (kq B ms lr ((i,l)::ex) x l g)
 | .loop x,_,g=>.loop (kq B ms lr ex x (gD lr ex x [] g).1 g)
 | .iv _ _ _ _,_,_=>.bad
def code (P:Program) (fn:Func) (B:Nat) (ms lr:L):AK:=
 match fn.body with
 | some b=>kq (1000*B) ms lr [] (trCode P fn.ntmps (1000*B) b) lr []
 | none=>.bad
def kept:Nat->L
 | 0=>[]
 | k+1=>ins (2000000+k) (kept k)
def lr (k:Nat):List RVar->L
 | []=>kept k
 | .tmp n::r | .cell n _ _::r=>ins n (lr k r)
 | .bad::r=>lr k r
def rs (P:Program) (fn:Func):List RVar:=fn.results.toList.map (trRes P)
end Kc
def AK.x:AK->AK
 | .seq x _ | .cond _ x _ | .block _ x | .loop x | .scope x | .split _ _ _ _ _ _ _ _ x | .back _ _ _ _ _ _ _ _ x=>x
 | x=>x
def AK.y:AK->AK
 | .seq _ (.cP y) | .seq _ y | .cond _ _ y=>y
 | y=>y
def Di (x y:AK):AK:=.seq x (.cP y)
theorem gA (x y:AK):AK.seq x (.cP y)=Di x y:=rfl
theorem gP (n:Nat) (h:n<2^8):(⟨⟨⟨n,h⟩⟩⟩:UInt8)=UInt8.ofNat n:=by
 apply UInt8.toNat_inj.1;simp[UInt8.toNat_ofNat];exact(acY h).symm
theorem jn {P:Program} {E:Env} {x y:AK} {Q:KQ} {st:St}:vcW P E (Di x y) Q st=vcW P E x (KQ.seq P E (.cP y) Q) st:=(rfl)
abbrev pk {x:AK} (c:AK) (_:c=x:=by with_unfolding_all (conv=>rhs;reduce;try simp only[gA,gP,Int.reduceOfNat,Int.reduceNegSucc,UInt8.reduceOfNat])):AK:=c
section
variable {P:Program} {f:Nat} {fn:Func} {x:AK} {rs:List RVar}
namespace Kf
theorem s0 (B:Nat) (hf:P.funcs[f]?=some fn) (ms:Kc.L:=[]) (_:rs=Kc.rs P fn:=by with_unfolding_all (conv=>rhs;reduce)) (_:x=Kc.code P fn B ms (Kc.lr 0 rs):=by with_unfolding_all (conv=>rhs;reduce;try simp only[gA,gP,Int.reduceOfNat,Int.reduceNegSucc,UInt8.reduceOfNat])) (hk:fnChk P fn (1000*B) 0=some (x.erase (1000*B),rs):=by kernel_rfl) ⦃h:HP⦄ ⦃Post:HP->AV->List AV->Prop⦄ (hp:jB P x rs 0 [] h Post):Spec P f h [] Post:=lR ⟨_,hf,hk⟩ rfl [] trivial hp
theorem s1 (B:Nat) (hf:P.funcs[f]?=some fn) (ms:Kc.L:=[]) (_:rs=Kc.rs P fn:=by with_unfolding_all (conv=>rhs;reduce)) (_:x=Kc.code P fn B ms (Kc.lr 0 rs):=by with_unfolding_all (conv=>rhs;reduce;try simp only[gA,gP,Int.reduceOfNat,Int.reduceNegSucc,UInt8.reduceOfNat])) (hk:fnChk P fn (1000*B) 1=some (x.erase (1000*B),rs):=by kernel_rfl) ⦃h:HP⦄ ⦃a0:AV⦄ ⦃Post:HP->AV->List AV->Prop⦄ (hp:jB P x rs 1 [(0,a0)] h Post):Spec P f h [a0] Post:=lR ⟨_,hf,hk⟩ rfl [(0,a0)] ⟨rfl,trivial⟩ hp
theorem s2 (B:Nat) (hf:P.funcs[f]?=some fn) (ms:Kc.L:=[]) (_:rs=Kc.rs P fn:=by with_unfolding_all (conv=>rhs;reduce)) (_:x=Kc.code P fn B ms (Kc.lr 0 rs):=by with_unfolding_all (conv=>rhs;reduce;try simp only[gA,gP,Int.reduceOfNat,Int.reduceNegSucc,UInt8.reduceOfNat])) (hk:fnChk P fn (1000*B) 2=some (x.erase (1000*B),rs):=by kernel_rfl) ⦃h:HP⦄ ⦃a0 a1:AV⦄ ⦃Post:HP->AV->List AV->Prop⦄ (hp:jB P x rs 2 [(0,a0),(1,a1)] h Post):Spec P f h [a0,a1] Post:=lR ⟨_,hf,hk⟩ rfl [(0,a0),(1,a1)] ⟨rfl,rfl,trivial⟩ hp
theorem s3 (B:Nat) (hf:P.funcs[f]?=some fn) (ms:Kc.L:=[]) (_:rs=Kc.rs P fn:=by with_unfolding_all (conv=>rhs;reduce)) (_:x=Kc.code P fn B ms (Kc.lr 0 rs):=by with_unfolding_all (conv=>rhs;reduce;try simp only[gA,gP,Int.reduceOfNat,Int.reduceNegSucc,UInt8.reduceOfNat])) (hk:fnChk P fn (1000*B) 3=some (x.erase (1000*B),rs):=by kernel_rfl) ⦃h:HP⦄ ⦃a0 a1 a2:AV⦄ ⦃Post:HP->AV->List AV->Prop⦄ (hp:jB P x rs 3 [(0,a0),(1,a1),(2,a2)] h Post):Spec P f h [a0,a1,a2] Post:=lR ⟨_,hf,hk⟩ rfl [(0,a0),(1,a1),(2,a2)] ⟨rfl,rfl,rfl,trivial⟩ hp
theorem k1 (B:Nat) (hf:P.funcs[f]?=some fn) (ms:Kc.L:=[]) (_:rs=Kc.rs P fn:=by with_unfolding_all (conv=>rhs;reduce)) (_:x=Kc.code P fn B ms (Kc.lr 1 rs):=by with_unfolding_all (conv=>rhs;reduce;try simp only[gA,gP,Int.reduceOfNat,Int.reduceNegSucc,UInt8.reduceOfNat])) (hk:fnChk P fn (1000*B) 1=some (x.erase (1000*B),rs):=by kernel_rfl) ⦃h:HP⦄ ⦃a0:AV⦄ ⦃Post:HP->AV->List AV->Prop⦄ (hp:jB P x rs 1 [(0,a0),(2000000,a0)] h Post):Spec P f h [a0] Post:=lR ⟨_,hf,hk⟩ rfl [(0,a0),(2000000,a0)] ⟨rfl,rfl,trivial⟩ hp
theorem k2 (B:Nat) (hf:P.funcs[f]?=some fn) (ms:Kc.L:=[]) (_:rs=Kc.rs P fn:=by with_unfolding_all (conv=>rhs;reduce)) (_:x=Kc.code P fn B ms (Kc.lr 2 rs):=by with_unfolding_all (conv=>rhs;reduce;try simp only[gA,gP,Int.reduceOfNat,Int.reduceNegSucc,UInt8.reduceOfNat])) (hk:fnChk P fn (1000*B) 2=some (x.erase (1000*B),rs):=by kernel_rfl) ⦃h:HP⦄ ⦃a0 a1:AV⦄ ⦃Post:HP->AV->List AV->Prop⦄ (hp:jB P x rs 2 [(0,a0),(1,a1),(2000000,a0),(2000001,a1)] h Post):Spec P f h [a0,a1] Post:=lR ⟨_,hf,hk⟩ rfl [(0,a0),(1,a1),(2000000,a0),(2000001,a1)] ⟨rfl,rfl,rfl,rfl,trivial⟩ hp
theorem k3 (B:Nat) (hf:P.funcs[f]?=some fn) (ms:Kc.L:=[]) (_:rs=Kc.rs P fn:=by with_unfolding_all (conv=>rhs;reduce)) (_:x=Kc.code P fn B ms (Kc.lr 3 rs):=by with_unfolding_all (conv=>rhs;reduce;try simp only[gA,gP,Int.reduceOfNat,Int.reduceNegSucc,UInt8.reduceOfNat])) (hk:fnChk P fn (1000*B) 3=some (x.erase (1000*B),rs):=by kernel_rfl) ⦃h:HP⦄ ⦃a0 a1 a2:AV⦄ ⦃Post:HP->AV->List AV->Prop⦄ (hp:jB P x rs 3 [(0,a0),(1,a1),(2,a2),(2000000,a0),(2000001,a1),(2000002,a2)] h Post):Spec P f h [a0,a1,a2] Post:=lR ⟨_,hf,hk⟩ rfl [(0,a0),(1,a1),(2,a2),(2000000,a0),(2000001,a1),(2000002,a2)] ⟨rfl,rfl,rfl,rfl,rfl,rfl,trivial⟩ hp
theorem k4 (B:Nat) (hf:P.funcs[f]?=some fn) (ms:Kc.L:=[]) (_:rs=Kc.rs P fn:=by with_unfolding_all (conv=>rhs;reduce)) (_:x=Kc.code P fn B ms (Kc.lr 4 rs):=by with_unfolding_all (conv=>rhs;reduce;try simp only[gA,gP,Int.reduceOfNat,Int.reduceNegSucc,UInt8.reduceOfNat])) (hk:fnChk P fn (1000*B) 4=some (x.erase (1000*B),rs):=by kernel_rfl) ⦃h:HP⦄ ⦃a0 a1 a2 a3:AV⦄ ⦃Post:HP->AV->List AV->Prop⦄ (hp:jB P x rs 4 [(0,a0),(1,a1),(2,a2),(3,a3),(2000000,a0),(2000001,a1),(2000002,a2),(2000003,a3)] h Post):Spec P f h [a0,a1,a2,a3] Post:=lR ⟨_,hf,hk⟩ rfl [(0,a0),(1,a1),(2,a2),(3,a3),(2000000,a0),(2000001,a1),(2000002,a2),(2000003,a3)] ⟨rfl,rfl,rfl,rfl,rfl,rfl,rfl,rfl,trivial⟩ hp
theorem k5 (B:Nat) (hf:P.funcs[f]?=some fn) (ms:Kc.L:=[]) (_:rs=Kc.rs P fn:=by with_unfolding_all (conv=>rhs;reduce)) (_:x=Kc.code P fn B ms (Kc.lr 5 rs):=by with_unfolding_all (conv=>rhs;reduce;try simp only[gA,gP,Int.reduceOfNat,Int.reduceNegSucc,UInt8.reduceOfNat])) (hk:fnChk P fn (1000*B) 5=some (x.erase (1000*B),rs):=by kernel_rfl) ⦃h:HP⦄ ⦃a0 a1 a2 a3 a4:AV⦄ ⦃Post:HP->AV->List AV->Prop⦄ (hp:jB P x rs 5 [(0,a0),(1,a1),(2,a2),(3,a3),(4,a4),(2000000,a0),(2000001,a1),(2000002,a2),(2000003,a3),(2000004,a4)] h Post):Spec P f h [a0,a1,a2,a3,a4] Post:=lR ⟨_,hf,hk⟩ rfl [(0,a0),(1,a1),(2,a2),(3,a3),(4,a4),(2000000,a0),(2000001,a1),(2000002,a2),(2000003,a3),(2000004,a4)] ⟨rfl,rfl,rfl,rfl,rfl,rfl,rfl,rfl,rfl,rfl,trivial⟩ hp
theorem r0 (B:Nat) (hf:P.funcs[f]?=some fn) (ms:Kc.L:=[]) (_:rs=Kc.rs P fn:=by with_unfolding_all (conv=>rhs;reduce)) (_:x=Kc.code P fn B ms (Kc.lr 0 rs):=by with_unfolding_all (conv=>rhs;reduce;try simp only[gA,gP,Int.reduceOfNat,Int.reduceNegSucc,UInt8.reduceOfNat])) (hk:fnChk P fn (1000*B) 0=some (x.erase (1000*B),rs):=by kernel_rfl) ⦃h:HP⦄ ⦃Post:HP->AV->List AV->Prop⦄ (hp:oa P x rs 0 [] h Post):Spec P f h [] Post:=rh ⟨_,hf,hk⟩ rfl [] trivial hp
theorem r1 (B:Nat) (hf:P.funcs[f]?=some fn) (ms:Kc.L:=[]) (_:rs=Kc.rs P fn:=by with_unfolding_all (conv=>rhs;reduce)) (_:x=Kc.code P fn B ms (Kc.lr 0 rs):=by with_unfolding_all (conv=>rhs;reduce;try simp only[gA,gP,Int.reduceOfNat,Int.reduceNegSucc,UInt8.reduceOfNat])) (hk:fnChk P fn (1000*B) 1=some (x.erase (1000*B),rs):=by kernel_rfl) ⦃h:HP⦄ ⦃a0:AV⦄ ⦃Post:HP->AV->List AV->Prop⦄ (hp:oa P x rs 1 [(0,a0)] h Post):Spec P f h [a0] Post:=rh ⟨_,hf,hk⟩ rfl [(0,a0)] ⟨rfl,trivial⟩ hp
theorem r2 (B:Nat) (hf:P.funcs[f]?=some fn) (ms:Kc.L:=[]) (_:rs=Kc.rs P fn:=by with_unfolding_all (conv=>rhs;reduce)) (_:x=Kc.code P fn B ms (Kc.lr 0 rs):=by with_unfolding_all (conv=>rhs;reduce;try simp only[gA,gP,Int.reduceOfNat,Int.reduceNegSucc,UInt8.reduceOfNat])) (hk:fnChk P fn (1000*B) 2=some (x.erase (1000*B),rs):=by kernel_rfl) ⦃h:HP⦄ ⦃a0 a1:AV⦄ ⦃Post:HP->AV->List AV->Prop⦄ (hp:oa P x rs 2 [(0,a0),(1,a1)] h Post):Spec P f h [a0,a1] Post:=rh ⟨_,hf,hk⟩ rfl [(0,a0),(1,a1)] ⟨rfl,rfl,trivial⟩ hp
theorem r3 (B:Nat) (hf:P.funcs[f]?=some fn) (ms:Kc.L:=[]) (_:rs=Kc.rs P fn:=by with_unfolding_all (conv=>rhs;reduce)) (_:x=Kc.code P fn B ms (Kc.lr 0 rs):=by with_unfolding_all (conv=>rhs;reduce;try simp only[gA,gP,Int.reduceOfNat,Int.reduceNegSucc,UInt8.reduceOfNat])) (hk:fnChk P fn (1000*B) 3=some (x.erase (1000*B),rs):=by kernel_rfl) ⦃h:HP⦄ ⦃a0 a1 a2:AV⦄ ⦃Post:HP->AV->List AV->Prop⦄ (hp:oa P x rs 3 [(0,a0),(1,a1),(2,a2)] h Post):Spec P f h [a0,a1,a2] Post:=rh ⟨_,hf,hk⟩ rfl [(0,a0),(1,a1),(2,a2)] ⟨rfl,rfl,rfl,trivial⟩ hp
theorem x1 (B:Nat) (hf:P.funcs[f]?=some fn) (ms:Kc.L:=[]) (_:rs=Kc.rs P fn:=by with_unfolding_all (conv=>rhs;reduce)) (_:x=Kc.code P fn B ms (Kc.lr 1 rs):=by with_unfolding_all (conv=>rhs;reduce;try simp only[gA,gP,Int.reduceOfNat,Int.reduceNegSucc,UInt8.reduceOfNat])) (hk:fnChk P fn (1000*B) 1=some (x.erase (1000*B),rs):=by kernel_rfl) ⦃h:HP⦄ ⦃a0:AV⦄ ⦃V:Value⦄ (hp:rM P x V [(0,a0),(2000000,a0)] h):gT P f h [a0] V:=zb ⟨_,hf,hk⟩ rfl [(0,a0),(2000000,a0)] ⟨rfl,rfl,trivial⟩ hp
theorem x2 (B:Nat) (hf:P.funcs[f]?=some fn) (ms:Kc.L:=[]) (_:rs=Kc.rs P fn:=by with_unfolding_all (conv=>rhs;reduce)) (_:x=Kc.code P fn B ms (Kc.lr 2 rs):=by with_unfolding_all (conv=>rhs;reduce;try simp only[gA,gP,Int.reduceOfNat,Int.reduceNegSucc,UInt8.reduceOfNat])) (hk:fnChk P fn (1000*B) 2=some (x.erase (1000*B),rs):=by kernel_rfl) ⦃h:HP⦄ ⦃a0 a1:AV⦄ ⦃V:Value⦄ (hp:rM P x V [(0,a0),(1,a1),(2000000,a0),(2000001,a1)] h):gT P f h [a0,a1] V:=zb ⟨_,hf,hk⟩ rfl [(0,a0),(1,a1),(2000000,a0),(2000001,a1)] ⟨rfl,rfl,rfl,rfl,trivial⟩ hp
theorem x3 (B:Nat) (hf:P.funcs[f]?=some fn) (ms:Kc.L:=[]) (_:rs=Kc.rs P fn:=by with_unfolding_all (conv=>rhs;reduce)) (_:x=Kc.code P fn B ms (Kc.lr 3 rs):=by with_unfolding_all (conv=>rhs;reduce;try simp only[gA,gP,Int.reduceOfNat,Int.reduceNegSucc,UInt8.reduceOfNat])) (hk:fnChk P fn (1000*B) 3=some (x.erase (1000*B),rs):=by kernel_rfl) ⦃h:HP⦄ ⦃a0 a1 a2:AV⦄ ⦃V:Value⦄ (hp:rM P x V [(0,a0),(1,a1),(2,a2),(2000000,a0),(2000001,a1),(2000002,a2)] h):gT P f h [a0,a1,a2] V:=zb ⟨_,hf,hk⟩ rfl [(0,a0),(1,a1),(2,a2),(2000000,a0),(2000001,a1),(2000002,a2)] ⟨rfl,rfl,rfl,rfl,rfl,rfl,trivial⟩ hp
end Kf
end
end Go.Proofs.YtoalcafkffmiiaaGreatDoor.Eng
